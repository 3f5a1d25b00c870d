/- Texts of this seat, put together. -/
import Derived.Test.YtdjfbceokpofmaaDoorMP1
set_option linter.unusedSimpArgs false
set_option linter.unusedVariables false
set_option linter.unusedSectionVars false
namespace Go.Proofs.YtdjfbceokpofmaaDoor
section
open Go.RowKit
set_option maxRecDepth 100000 in
set_option maxHeartbeats 8000000 in
theorem w_impl_mover_move {w0 : World} {F : Nat → Prop} {v1 : Value} {m_0 : (List GShift)} {address_1 : Int} {κ : Int → Prop} (hF : ∀ b, F b → b < w0.heap.size ∧ ¬ feet [] b) (hv1 : Sl elGShift F w0 v1 m_0) (h : L_impl_mover_move m_0 address_1 κ) :
    Calls Tryd.prog 36 #[v1, (.int .i64 address_1)] w0 (Ret [] F w0 κ (fun (r : Int) (u : Unit) => (.int .i64 r)) (fun (r : Int) (u : Unit) => [])) := by
  refine enterS (args := [v1, (.int .i64 address_1)]) [] hF (Given.nil _ _) Tryd.func36 rfl Tryd.ntmps36 rfl h ?_
  clear h hF
  refine c_seq ?_
  refine c_region ?_
  refine o_as st rfl rfl ?_
  refine c_nil ?_
  refine l_then ?_
  refine c_seq ?_
  refine c_region ?_
  refine o_mv st rfl rfl ?_
  refine o_mv st rfl rfl ?_
  refine stw (o_callP (vs := [v1, (.int .i64 address_1), (.func (.func 60) #[] #[])]) Tryd.call59 rfl rfl (by intro w m h; exact (w_slices_BinarySearchFunc_impl_mover_impl_shift_int__impl_mover_move_1 (F := allB [] w) (x_0 := m_0) (target_1 := address_1) allB_ok (m.rd0 0 rfl (reads_snap hv1)) h).mono (fun _ _ k => ret_free (fun r u => fr_nil) k)) ?_); rintro ⟨r3, r4⟩ _
  refine o_mv st rfl rfl ?_
  refine o_ext st (vs := [(.int .i64 r3), (.bool r4)]) rfl rfl rfl ?_
  refine o_ext st (vs := [(.int .i64 r3), (.bool r4)]) rfl rfl rfl ?_
  refine o_as st rfl rfl ?_
  refine o_as st rfl rfl ?_
  refine c_nil ?_
  refine l_then ?_
  refine c_seq ?_
  refine c_join (σ := Bool) (fun (t67 : Bool) (a : Act) (w : World) => Has 35 [(0, v1), (1, (.int .i64 address_1)), (5, (.int .i64 r3)), (26, (.bool t67))] a ∧ Mem (gB F [] w0) (feet []) w0 [snapCh w0 F] w) ?_ ?_
  · intro k68
    refine c_region ?_
    refine o_mv st rfl rfl ?_
    refine o_mv st rfl rfl ?_
    refine o_len st el62 0 rfl (reads_snap hv1) rfl rfl ?_
    refine o_lss st rfl rfl rfl ?_
    refine o_mv st rfl rfl ?_
    refine st_sp (dj := 17) rfl ?_ ?_
    · refine o_mv (st_g rfl rfl) rfl rfl ?_
      refine o_mv (st_g rfl rfl) rfl rfl ?_
      refine o_idx (st_g rfl rfl) 0 rfl (reads_snap hv1) rfl rfl rfl el62 ?_; intro e5 h6
      refine o_fadS (st_g rfl rfl) 0 rfl (reads_snap hv1) h6 rfl rfl fld91_0 rfl ?_
      refine o_fadS (st_g rfl rfl) 0 rfl (reads_snap hv1) h6 rfl rfl fld74_0 rfl ?_
      refine o_lds (st_g rfl rfl) (enc := encGShift) (u := (.int .i64 e5.xWhere.xLo)) 0 rfl (reads_snap hv1) flelGShift rfl h6 rfl rfl ty3 rfl ?_
      refine o_mv (st_g rfl rfl) rfl rfl ?_
      refine o_leq (st_g rfl rfl) rfl rfl rfl ?_
      refine o_pickT st rfl rfl rfl ?_
      refine c_nil ?_
      exact l_join (decide (e5.xWhere.xLo ≤ address_1)) (fun a w hE hm => ⟨hE.sub ⟨rfl, rfl, rfl, rfl, trivial⟩, (hm.pick [0] rfl)⟩)
    · refine st_s rfl rfl rfl rfl ?_
      refine st_s rfl rfl rfl rfl ?_
      refine st_s rfl rfl rfl rfl ?_
      refine st_s rfl rfl rfl rfl ?_
      refine st_s rfl rfl rfl rfl ?_
      refine st_s rfl rfl rfl rfl ?_
      refine st_s rfl rfl rfl rfl ?_
      refine st_s rfl rfl rfl rfl ?_
      refine o_pickF st rfl rfl rfl ?_
      refine c_nil ?_
      exact l_join false (fun a w hE hm => ⟨hE.sub ⟨rfl, rfl, rfl, rfl, trivial⟩, (hm.pick [0] rfl)⟩)
  · rintro t67 a w ⟨hE, hm⟩ h
    refine nx_of hE hm h ?_
    clear hE hm h
    refine c_cond rfl ?_ ?_
    · refine c_seq ?_
      refine c_region ?_
      refine o_mv st rfl rfl ?_
      refine o_mv st rfl rfl ?_
      refine o_mv st rfl rfl ?_
      refine o_idx st 0 rfl (reads_snap hv1) rfl rfl rfl el62 ?_; intro e69 h70
      refine o_fadS st 0 rfl (reads_snap hv1) h70 rfl rfl fld91_1 rfl ?_
      refine o_lds st (enc := encGShift) (u := (.int .i64 e69.xBy)) 0 rfl (reads_snap hv1) flelGShift rfl h70 rfl rfl ty3 rfl ?_
      refine o_add st rfl rfl rfl ?_; intro t71
      refine o_as st rfl rfl ?_
      refine c_nil ?_
      refine l_then ?_
      refine c_ret ?_
      refine l_ret ?_
      exact l_end1 Tryd.results36 t71 () (rv_t rfl) (fun _ _ => NewCh.nil _ _ _ _)
    · refine c_skip ?_
      refine l_then ?_
      refine c_seq ?_
      refine c_region ?_
      refine o_mv st rfl rfl ?_
      refine o_as st rfl rfl ?_
      refine c_nil ?_
      refine l_then ?_
      refine c_ret ?_
      exact l_end1 Tryd.results36 address_1 () (rv_t rfl) (fun _ _ => NewCh.nil _ _ _ _)

set_option maxRecDepth 100000 in
set_option maxHeartbeats 8000000 in
theorem w_impl_moverOf__impl_Rewrite_inward {w0 : World} {F : Nat → Prop} {v1 : Value} {list_0 : (List GRewrite)} {κ : (List GShift) → Prop} (hF : ∀ b, F b → b < w0.heap.size ∧ ¬ feet [] b) (hv1 : Sl elGRewrite F w0 v1 list_0) (h : L_impl_moverOf__impl_Rewrite_inward list_0 κ) :
    Calls Tryd.prog 34 #[v1, (.func (.func 35) #[] #[])] w0 (Ret [] F w0 κ (fun (r : (List GShift)) (u : Value) => u) (fun (r : (List GShift)) (u : Value) => [ownCh elGShift 91 u r])) := by
  refine enterS (args := [v1, (.func (.func 35) #[] #[])]) [] hF (Given.nil _ _) Tryd.func34 rfl Tryd.ntmps34 rfl h ?_
  clear h hF
  refine c_seq ?_
  refine c_region ?_
  refine stw (o_asn elGShift 91 rfl rfl ?_)
  refine c_nil ?_
  refine l_then ?_
  refine c_seq ?_
  refine c_region ?_
  refine o_mv st rfl rfl ?_
  refine o_len st el28 1 rfl (reads_snap hv1) rfl rfl ?_
  refine stw (o_make (z := (GShift.mk (GSpan.mk 0 0) 0)) flelGShift rfl rfl rfl el62 rfl zero91 rfl rfl ?_); intro v4 xs5
  refine o_as st rfl rfl ?_
  refine c_nil ?_
  refine l_then ?_
  refine c_seq ?_
  refine c_seq ?_
  refine c_region ?_
  refine o_mv st rfl rfl ?_
  refine o_len st el28 2 rfl (reads_snap hv1) rfl rfl ?_
  refine o_mv st rfl rfl ?_
  refine c_nil ?_
  refine l_then ?_
  refine c_block ?_
  refine c_loop (σ := ((List GShift) × Int)) (fun ((xs8, t11) : ((List GShift) × Int)) (a : Act) (w : World) => ∃ (v7 : Value), Has 27 [(1, (.func (.func 35) #[] #[])), (5, v7), (11, v1), (12, (.int .i64 (list_0.length : Int))), (13, (.int .i64 t11))] a ∧ Mem (gB F [] w0) (feet []) w0 [snapCh w0 F, ownCh elGShift 91 v7 xs8] w) (fun a w hE hm => ⟨v4, hE.sub ⟨rfl, rfl, rfl, rfl, rfl, trivial⟩, (hm.pick [2, 0] rfl)⟩) ?_
  rintro nx12 ⟨xs8, t11⟩ a w ⟨v7, hE, hm⟩ h
  refine nx_of hE hm h ?_
  clear hE hm h
  refine c_seq ?_
  refine c_region ?_
  refine o_lss st rfl rfl rfl ?_
  refine c_nil ?_
  refine l_then ?_
  refine c_seq ?_
  refine c_cond rfl ?_ ?_
  · refine c_skip ?_
    refine l_then ?_
    refine c_seq ?_
    refine c_block ?_
    refine c_seq ?_
    refine c_region ?_
    refine o_idx st 0 rfl (reads_snap hv1) rfl rfl rfl el28 ?_; intro e13 h14
    refine o_lds st (enc := encGRewrite) (u := (.agg #[(.int .i64 e13.xInside.xBase), (.int .i64 e13.xInside.xLength), (.int .i64 e13.xOutside.xBase), (.int .i64 e13.xOutside.xLength)])) 0 rfl (reads_snap hv1) flelGRewrite rfl h14 rfl rfl ty38 rfl ?_
    refine stw (o_alloc rfl [(.int .i64 0), (.int .i64 0), (.int .i64 0), (.int .i64 0)] zero38 ?_); intro b15
    refine stw (o_stc (cs' := [(.int .i64 e13.xInside.xBase), (.int .i64 e13.xInside.xLength), (.int .i64 e13.xOutside.xBase), (.int .i64 e13.xOutside.xLength)]) 0 rfl rfl rfl ty38 rfl rfl rfl rfl ?_)
    refine c_nil ?_
    refine l_then ?_
    refine c_region ?_
    refine o_mv st rfl rfl ?_
    refine o_mv st rfl rfl ?_
    refine o_ldc st (v := (.agg #[(.int .i64 e13.xInside.xBase), (.int .i64 e13.xInside.xLength), (.int .i64 e13.xOutside.xBase), (.int .i64 e13.xOutside.xLength)])) 0 rfl rfl rfl ty38 rfl ?_
    refine stw (o_callXP rfl (runs_val rfl rfl Tryd.call35) rfl (by intro w m h; exact (w_impl_Rewrite_inward (F := allB [] w) (r_0 := e13) allB_ok h).mono (fun _ _ k => ret_free (fun r u => fr_nil) k)) ?_); rintro r17 _
    refine stw (o_bsl (enc := encGShift) (qs := [(0, (.agg #[(.int .i64 r17.xWhere.xLo), (.int .i64 r17.xWhere.xHi), (.int .i64 r17.xBy)]))]) (cells := [(.int .i64 r17.xWhere.xLo), (.int .i64 r17.xWhere.xHi), (.int .i64 r17.xBy)]) ([r17]) flelGShift (by intro ρ h; simp only [List.map_toArray, List.map_cons, List.map_nil, h (.tmp 20) _ rfl]) rfl el62 zero91 rfl rfl rfl rfl rfl rfl ?_); intro v18
    refine stw (o_app 3 0 rfl rfl (src_flat flelGShift reads_own) rfl rfl rfl el62 rfl zero91 rfl rfl ?_); intro v20
    refine o_as st rfl rfl ?_
    refine c_nil ?_
    refine b_norm ?_
    refine l_then ?_
    refine c_region ?_
    refine o_add st rfl rfl rfl ?_; intro t22
    refine o_mv st rfl rfl ?_
    refine c_nil ?_
    exact l_join ((xs8 ++ ([r17])), t22) (fun a w hE hm => ⟨v20, hE.sub ⟨rfl, rfl, rfl, rfl, rfl, trivial⟩, (hm.pick [2, 3] rfl)⟩)
  · refine c_exit ?_
    refine l_exit ?_
    refine l_exit ?_
    refine b_exit ?_
    refine l_then ?_
    refine c_seq ?_
    refine c_region ?_
    refine o_mv st rfl rfl ?_
    refine pk [1, 0] rfl ?_
    refine stw (o_call (vs := [v7, (.func (.func 57) #[] #[])]) (M0 := [ownCh elGShift 91 v7 xs8]) Tryd.call56 rfl rfl (by intro w m h; exact (w_srt_GShift (F := allB [ownCh elGShift 91 v7 xs8] w) (xs := xs8) allB_ok m.given h).mono (fun _ _ k => ret_free (fun r u => (fr_cons (free_own flelGShift) fr_nil)) k)) ?_); rintro r23 _
    refine c_nil ?_
    refine l_then ?_
    refine c_seq ?_
    refine c_region ?_
    refine o_mv st rfl rfl ?_
    refine o_as st rfl rfl ?_
    refine c_nil ?_
    refine l_then ?_
    refine c_ret ?_
    exact l_end1 Tryd.results34 r23 v7 (rv_t rfl) (fun w m => NewCh.ofB m [0] rfl)

set_option maxRecDepth 100000 in
set_option maxHeartbeats 8000000 in
theorem w_impl_RewriteIn {w0 : World} {F : Nat → Prop} {v1 : Value} {list_0 : (List GRewrite)} {p_1 : GPacket} {κ : GPacket → Prop} (hF : ∀ b, F b → b < w0.heap.size ∧ ¬ feet [] b) (hv1 : Sl elGRewrite F w0 v1 list_0) (hgl0 : Sl elGFieldShape F w0 (.slice (some ⟨0, 0, none⟩) 4 4) gl_impl_fieldShapes) (h : L_impl_RewriteIn list_0 p_1 κ) :
    Calls Tryd.prog 12 #[v1, (.agg #[(.int .i64 p_1.xFrom), (.int .i64 p_1.xTo), (.int .i64 p_1.xPort), (.int .i64 p_1.xProto)])] w0 (Ret [] F w0 κ (fun (r : GPacket) (u : Unit) => (.agg #[(.int .i64 r.xFrom), (.int .i64 r.xTo), (.int .i64 r.xPort), (.int .i64 r.xProto)])) (fun (r : GPacket) (u : Unit) => [])) := by
  refine enterS (args := [v1, (.agg #[(.int .i64 p_1.xFrom), (.int .i64 p_1.xTo), (.int .i64 p_1.xPort), (.int .i64 p_1.xProto)])]) [] hF (Given.nil _ _) Tryd.func12 rfl Tryd.ntmps12 rfl h ?_
  clear h hF
  refine c_seq ?_
  refine c_region ?_
  refine stw (o_box rfl rfl [(.int .i64 p_1.xFrom), (.int .i64 p_1.xTo), (.int .i64 p_1.xPort), (.int .i64 p_1.xProto)] rfl ?_); intro b3
  refine stw (o_alloc rfl [(.int .i64 0), (.int .i64 0), (.int .i64 0), (.int .i64 0)] zero26 ?_); intro b5
  refine c_nil ?_
  refine l_then ?_
  refine c_seq ?_
  refine c_join (σ := Bool) (fun (t69 : Bool) (a : Act) (w : World) => Has 21 [(0, v1), (3, (.pointer (some ⟨b3, 0, none⟩))), (4, (.pointer (some ⟨b5, 0, none⟩))), (12, (.bool t69))] a ∧ Mem (gB F [] w0) (feet []) w0 [cellCh b5 [(.int .i64 0), (.int .i64 0), (.int .i64 0), (.int .i64 0)] 26, cellCh b3 [(.int .i64 p_1.xFrom), (.int .i64 p_1.xTo), (.int .i64 p_1.xPort), (.int .i64 p_1.xProto)] 26, snapCh w0 F] w) ?_ ?_
  · intro k70
    refine c_region ?_
    refine o_mv st rfl rfl ?_
    refine stw (o_callP (vs := [v1]) Tryd.call22 rfl rfl (by intro w m h; exact (w_impl_RewritesValid (F := allB [] w) (list_0 := list_0) allB_ok (m.rd0 2 rfl (reads_snap hv1)) h).mono (fun _ _ k => ret_free (fun r u => fr_nil) k)) ?_); rintro r7 _
    refine o_not st rfl rfl ?_
    refine o_mv st rfl rfl ?_
    refine st_sp (dj := 8) rfl ?_ ?_
    · refine st_s rfl rfl rfl rfl ?_
      refine st_s rfl rfl rfl rfl ?_
      refine st_s rfl rfl rfl rfl ?_
      refine o_pickT st rfl rfl rfl ?_
      refine c_nil ?_
      exact l_join true (fun a w hE hm => ⟨hE.sub ⟨rfl, rfl, rfl, rfl, trivial⟩, (hm.pick [0, 1, 2] rfl)⟩)
    · refine o_ldc (st_g rfl rfl) (v := (.agg #[(.int .i64 p_1.xFrom), (.int .i64 p_1.xTo), (.int .i64 p_1.xPort), (.int .i64 p_1.xProto)])) 1 rfl rfl rfl ty26 rfl ?_
      refine st_gw rfl rfl (o_callP (vs := [(.agg #[(.int .i64 p_1.xFrom), (.int .i64 p_1.xTo), (.int .i64 p_1.xPort), (.int .i64 p_1.xProto)])]) Tryd.call33 rfl rfl (by intro w m h; exact (w_impl_PacketValid (F := allB [] w) (p_0 := p_1) allB_ok (m.rd0 2 rfl (reads_snap hgl0)) h).mono (fun _ _ k => ret_free (fun r u => fr_nil) k)) ?_); rintro r8 _
      refine o_not (st_g rfl rfl) rfl rfl ?_
      refine o_pickF st rfl rfl rfl ?_
      refine c_nil ?_
      exact l_join (!r8) (fun a w hE hm => ⟨hE.sub ⟨rfl, rfl, rfl, rfl, trivial⟩, (hm.pick [0, 1, 2] rfl)⟩)
  · rintro t69 a w ⟨hE, hm⟩ h
    refine nx_of hE hm h ?_
    clear hE hm h
    refine c_cond rfl ?_ ?_
    · refine c_seq ?_
      refine c_region ?_
      refine o_bld st (qs := []) (cells := [(.int .i64 0), (.int .i64 0), (.int .i64 0), (.int .i64 0)]) (by intro ρ h; simp only [List.map_toArray, List.map_cons, List.map_nil]) rfl bld26 rfl ?_
      refine stw (o_stc (cs' := [(.int .i64 0), (.int .i64 0), (.int .i64 0), (.int .i64 0)]) 0 rfl rfl rfl ty26 rfl rfl rfl rfl ?_)
      refine c_nil ?_
      refine l_then ?_
      refine c_ret ?_
      refine l_ret ?_
      exact l_end1 Tryd.results12 (GPacket.mk 0 0 0 0) () (rv_c 0 rfl rfl ty26 rfl) (fun _ _ => NewCh.nil _ _ _ _)
    · refine c_skip ?_
      refine l_then ?_
      refine c_join (σ := Int) (fun (t71 : Int) (a : Act) (w : World) => Has 21 [(3, (.pointer (some ⟨b3, 0, none⟩))), (4, (.pointer (some ⟨b5, 0, none⟩)))] a ∧ Mem (gB F [] w0) (feet []) w0 [cellCh b5 [(.int .i64 0), (.int .i64 0), (.int .i64 0), (.int .i64 0)] 26, cellCh b3 [(.int .i64 p_1.xFrom), (.int .i64 t71), (.int .i64 p_1.xPort), (.int .i64 p_1.xProto)] 26, snapCh w0 F] w) ?_ ?_
      · intro k72
        refine c_drawQ mixed 7 rfl [cellCh b5 [(.int .i64 0), (.int .i64 0), (.int .i64 0), (.int .i64 0)] 26, snapCh w0 F] ?_
        intro Qd hP hQ
        have H2 : ∀ (r73 : (List GShift)) (v74 : Value) (r75 : Int), Nx 21 (gB F [] w0) (feet []) w0 (wpAnyH Tryd.prog .any (opsAt Tryd.f12 [1, 1, 0]) Qd (Mem (gB F [] w0) (feet []) w0 [cellCh b5 [(.int .i64 0), (.int .i64 0), (.int .i64 0), (.int .i64 0)] 26, snapCh w0 F]) 0 #[true, true, true, true, true, true, true]) [(3, (.pointer (some ⟨b3, 0, none⟩))), (4, (.pointer (some ⟨b5, 0, none⟩)))] [cellCh b5 [(.int .i64 0), (.int .i64 0), (.int .i64 0), (.int .i64 0)] 26, cellCh b3 [(.int .i64 p_1.xFrom), (.int .i64 r75), (.int .i64 p_1.xPort), (.int .i64 p_1.xProto)] 26, snapCh w0 F] (k72 r75) := by
          intro r73 v74 r75
          refine d_done (by kernel_rfl) ?_
          exact fun a w hE hm hφ => hQ r75 a w hφ ((fun a w hE hm => ⟨hE.sub ⟨rfl, rfl, trivial⟩, (hm.pick [0, 1, 2] rfl)⟩) a w hE hm)
        have H3 : ∀ (r73 : (List GShift)) (v74 : Value) (r75 : Int), Nx 21 (gB F [] w0) (feet []) w0 (wpAnyH Tryd.prog .any (opsAt Tryd.f12 [1, 1, 0]) Qd (Mem (gB F [] w0) (feet []) w0 [cellCh b5 [(.int .i64 0), (.int .i64 0), (.int .i64 0), (.int .i64 0)] 26, snapCh w0 F]) 2 #[true, true, true, true, true, false, false]) [(3, (.pointer (some ⟨b3, 0, none⟩))), (4, (.pointer (some ⟨b5, 0, none⟩))), (18, (.int .i64 r75))] [cellCh b5 [(.int .i64 0), (.int .i64 0), (.int .i64 0), (.int .i64 0)] 26, cellCh b3 [(.int .i64 p_1.xFrom), (.int .i64 p_1.xTo), (.int .i64 p_1.xPort), (.int .i64 p_1.xProto)] 26, snapCh w0 F] (k72 r75) := by
          intro r73 v74 r75
          refine o_fad (dt 5 (fun w m => m.pick [0, 2] rfl)) rfl rfl fld26_1 rfl ?_
          refine d_one (i := 6) rfl (by kernel_rfl) (o_stc (cs' := [(.int .i64 p_1.xFrom), (.int .i64 r75), (.int .i64 p_1.xPort), (.int .i64 p_1.xProto)]) 1 rfl rfl rfl ty3 rfl rfl rfl rfl ?_)
          refine d_and (fun w m => m.pick [0, 2] rfl) ?_
          refine pk [0, 1, 2] rfl ?_
          refine re (E' := [(3, (.pointer (some ⟨b3, 0, none⟩))), (4, (.pointer (some ⟨b5, 0, none⟩)))]) ⟨rfl, rfl, trivial⟩ ?_
          exact H2 r73 v74 r75
        have H4 : ∀ (r73 : (List GShift)) (v74 : Value), Nx 21 (gB F [] w0) (feet []) w0 (wpAnyH Tryd.prog .any (opsAt Tryd.f12 [1, 1, 0]) Qd (Mem (gB F [] w0) (feet []) w0 [cellCh b5 [(.int .i64 0), (.int .i64 0), (.int .i64 0), (.int .i64 0)] 26, snapCh w0 F]) 3 #[true, true, true, true, false, false, false]) [(3, (.pointer (some ⟨b3, 0, none⟩))), (4, (.pointer (some ⟨b5, 0, none⟩))), (15, v74), (17, (.int .i64 p_1.xTo))] [ownCh elGShift 91 v74 r73, cellCh b5 [(.int .i64 0), (.int .i64 0), (.int .i64 0), (.int .i64 0)] 26, cellCh b3 [(.int .i64 p_1.xFrom), (.int .i64 p_1.xTo), (.int .i64 p_1.xPort), (.int .i64 p_1.xProto)] 26, snapCh w0 F] (L_impl_mover_move r73 p_1.xTo (fun r75 => k72 r75)) := by
          intro r73 v74
          refine d_one (i := 4) rfl (by kernel_rfl) (o_callP (vs := [v74, (.int .i64 p_1.xTo)]) Tryd.call36 rfl rfl (by intro w m h; exact (w_impl_mover_move (F := allB [] w) (m_0 := r73) (address_1 := p_1.xTo) allB_ok (m.rd0 0 rfl reads_own) h).mono (fun _ _ k => ret_free (fun r u => fr_nil) k)) ?_); rintro r75 _
          refine d_and (fun w m => m.pick [1, 3] rfl) ?_
          refine pk [1, 2, 3] rfl ?_
          refine re (E' := [(3, (.pointer (some ⟨b3, 0, none⟩))), (4, (.pointer (some ⟨b5, 0, none⟩))), (18, (.int .i64 r75))]) ⟨rfl, rfl, rfl, trivial⟩ ?_
          exact H3 r73 v74 r75
        have H5 : ∀ (r73 : (List GShift)) (v74 : Value), Nx 21 (gB F [] w0) (feet []) w0 (wpAnyH Tryd.prog .any (opsAt Tryd.f12 [1, 1, 0]) Qd (Mem (gB F [] w0) (feet []) w0 [cellCh b5 [(.int .i64 0), (.int .i64 0), (.int .i64 0), (.int .i64 0)] 26, snapCh w0 F]) 4 #[true, true, true, false, false, false, false]) [(3, (.pointer (some ⟨b3, 0, none⟩))), (4, (.pointer (some ⟨b5, 0, none⟩))), (16, (.pointer (some ⟨b3, 1, none⟩))), (15, v74)] [ownCh elGShift 91 v74 r73, cellCh b5 [(.int .i64 0), (.int .i64 0), (.int .i64 0), (.int .i64 0)] 26, cellCh b3 [(.int .i64 p_1.xFrom), (.int .i64 p_1.xTo), (.int .i64 p_1.xPort), (.int .i64 p_1.xProto)] 26, snapCh w0 F] (L_impl_mover_move r73 p_1.xTo (fun r75 => k72 r75)) := by
          intro r73 v74
          refine d_one (i := 3) rfl (by kernel_rfl) (o_ldc m_op (v := (.int .i64 p_1.xTo)) 2 rfl rfl rfl ty3 rfl ?_)
          refine d_and (fun w m => m.pick [1, 3] rfl) ?_
          refine pk [0, 1, 2, 3] rfl ?_
          refine re (E' := [(3, (.pointer (some ⟨b3, 0, none⟩))), (4, (.pointer (some ⟨b5, 0, none⟩))), (15, v74), (17, (.int .i64 p_1.xTo))]) ⟨rfl, rfl, rfl, rfl, trivial⟩ ?_
          exact H4 r73 v74
        have H6 : ∀ (_ : Unit), Nx 21 (gB F [] w0) (feet []) w0 (wpAnyH Tryd.prog .any (opsAt Tryd.f12 [1, 1, 0]) Qd (Mem (gB F [] w0) (feet []) w0 [cellCh b5 [(.int .i64 0), (.int .i64 0), (.int .i64 0), (.int .i64 0)] 26, snapCh w0 F]) 4 #[true, false, true, true, false, false, false]) [(3, (.pointer (some ⟨b3, 0, none⟩))), (4, (.pointer (some ⟨b5, 0, none⟩))), (14, v1), (17, (.int .i64 p_1.xTo))] [cellCh b5 [(.int .i64 0), (.int .i64 0), (.int .i64 0), (.int .i64 0)] 26, cellCh b3 [(.int .i64 p_1.xFrom), (.int .i64 p_1.xTo), (.int .i64 p_1.xPort), (.int .i64 p_1.xProto)] 26, snapCh w0 F] (L_impl_moverOf__impl_Rewrite_inward list_0 (fun r76 => L_impl_mover_move r76 p_1.xTo (fun r75 => k72 r75))) := by
          intro _
          refine d_one (i := 1) rfl (by kernel_rfl) (o_callP (vs := [v1, (.func (.func 35) #[] #[])]) Tryd.call34 rfl rfl (by intro w m h; exact (w_impl_moverOf__impl_Rewrite_inward (F := allB [] w) (list_0 := list_0) allB_ok (m.rd0 2 rfl (reads_snap hv1)) h).mono (fun _ _ k => ret_free (fun r u => (fr_cons (free_own flelGShift) fr_nil)) k)) ?_); rintro r76 v77
          refine d_and (fun w m => m.pick [1, 3] rfl) ?_
          refine pk [0, 1, 2, 3] rfl ?_
          refine re (E' := [(3, (.pointer (some ⟨b3, 0, none⟩))), (4, (.pointer (some ⟨b5, 0, none⟩))), (15, v77), (17, (.int .i64 p_1.xTo))]) ⟨rfl, rfl, rfl, rfl, trivial⟩ ?_
          exact H4 r76 v77
        refine o_mv (dt 0 (fun w m => m.pick [0, 2] rfl)) rfl rfl ?_
        refine o_fad (dt 2 (fun w m => m.pick [0, 2] rfl)) rfl rfl fld26_1 rfl ?_
        refine d_two (i := 1) (j := 3) rfl rfl (by kernel_rfl) ?_ ?_
        · intro o ho; cases ho
          refine o_callP (vs := [v1, (.func (.func 35) #[] #[])]) Tryd.call34 rfl rfl (by intro w m h; exact (w_impl_moverOf__impl_Rewrite_inward (F := allB [] w) (list_0 := list_0) allB_ok (m.rd0 2 rfl (reads_snap hv1)) h).mono (fun _ _ k => ret_free (fun r u => (fr_cons (free_own flelGShift) fr_nil)) k)) ?_; rintro r73 v74
          refine d_and (fun w m => m.pick [1, 3] rfl) ?_
          refine pk [0, 1, 2, 3] rfl ?_
          refine re (E' := [(3, (.pointer (some ⟨b3, 0, none⟩))), (4, (.pointer (some ⟨b5, 0, none⟩))), (16, (.pointer (some ⟨b3, 1, none⟩))), (15, v74)]) ⟨rfl, rfl, rfl, rfl, trivial⟩ ?_
          exact H5 r73 v74
        · intro o ho; cases ho
          refine o_ldc m_op (v := (.int .i64 p_1.xTo)) 1 rfl rfl rfl ty3 rfl ?_
          refine d_and (fun w m => m.pick [0, 2] rfl) ?_
          refine pk [0, 1, 2] rfl ?_
          refine re (E' := [(3, (.pointer (some ⟨b3, 0, none⟩))), (4, (.pointer (some ⟨b5, 0, none⟩))), (14, v1), (17, (.int .i64 p_1.xTo))]) ⟨rfl, rfl, rfl, rfl, trivial⟩ ?_
          exact H6 ()
      · rintro t71 a w ⟨hE, hm⟩ h
        refine nx_of hE hm h ?_
        clear hE hm h
        refine c_seq ?_
        refine c_region ?_
        refine o_ldc st (v := (.agg #[(.int .i64 p_1.xFrom), (.int .i64 t71), (.int .i64 p_1.xPort), (.int .i64 p_1.xProto)])) 1 rfl rfl rfl ty26 rfl ?_
        refine stw (o_stc (cs' := [(.int .i64 p_1.xFrom), (.int .i64 t71), (.int .i64 p_1.xPort), (.int .i64 p_1.xProto)]) 0 rfl rfl rfl ty26 rfl rfl rfl rfl ?_)
        refine c_nil ?_
        refine l_then ?_
        refine c_ret ?_
        exact l_end1 Tryd.results12 (GPacket.mk p_1.xFrom t71 p_1.xPort p_1.xProto) () (rv_c 0 rfl rfl ty26 rfl) (fun _ _ => NewCh.nil _ _ _ _)

set_option maxRecDepth 100000 in
set_option maxHeartbeats 8000000 in
theorem w_spec_RewriteOut {w0 : World} {F : Nat → Prop} {v1 : Value} {list_0 : (List GRewrite)} {p_1 : GPacket} {κ : GPacket → Prop} (hF : ∀ b, F b → b < w0.heap.size ∧ ¬ feet [] b) (hv1 : Sl elGRewrite F w0 v1 list_0) (h : L_spec_RewriteOut list_0 p_1 κ) :
    Calls Tryd.prog 15 #[v1, (.agg #[(.int .i64 p_1.xFrom), (.int .i64 p_1.xTo), (.int .i64 p_1.xPort), (.int .i64 p_1.xProto)])] w0 (Ret [] F w0 κ (fun (r : GPacket) (u : Unit) => (.agg #[(.int .i64 r.xFrom), (.int .i64 r.xTo), (.int .i64 r.xPort), (.int .i64 r.xProto)])) (fun (r : GPacket) (u : Unit) => [])) := by
  refine enterS (args := [v1, (.agg #[(.int .i64 p_1.xFrom), (.int .i64 p_1.xTo), (.int .i64 p_1.xPort), (.int .i64 p_1.xProto)])]) [] hF (Given.nil _ _) Tryd.func15 rfl Tryd.ntmps15 rfl h ?_
  clear h hF
  refine c_seq ?_
  refine c_region ?_
  refine stw (o_box rfl rfl [(.int .i64 p_1.xFrom), (.int .i64 p_1.xTo), (.int .i64 p_1.xPort), (.int .i64 p_1.xProto)] rfl ?_); intro b3
  refine stw (o_alloc rfl [(.int .i64 0), (.int .i64 0), (.int .i64 0), (.int .i64 0)] zero26 ?_); intro b5
  refine c_nil ?_
  refine l_then ?_
  refine c_seq ?_
  refine c_join (σ := Bool) (fun (t69 : Bool) (a : Act) (w : World) => Has 41 [(0, v1), (3, (.pointer (some ⟨b3, 0, none⟩))), (4, (.pointer (some ⟨b5, 0, none⟩))), (14, (.bool t69))] a ∧ Mem (gB F [] w0) (feet []) w0 [cellCh b5 [(.int .i64 0), (.int .i64 0), (.int .i64 0), (.int .i64 0)] 26, cellCh b3 [(.int .i64 p_1.xFrom), (.int .i64 p_1.xTo), (.int .i64 p_1.xPort), (.int .i64 p_1.xProto)] 26, snapCh w0 F] w) ?_ ?_
  · intro k70
    refine c_region ?_
    refine o_mv st rfl rfl ?_
    refine stw (o_callP (vs := [v1]) Tryd.call24 rfl rfl (by intro w m h; exact (w_spec_RewritesValid (F := allB [] w) (list_0 := list_0) allB_ok (m.rd0 2 rfl (reads_snap hv1)) h).mono (fun _ _ k => ret_free (fun r u => fr_nil) k)) ?_); rintro r7 _
    refine o_not st rfl rfl ?_
    refine o_mv st rfl rfl ?_
    refine st_sp (dj := 10) rfl ?_ ?_
    · refine st_s rfl rfl rfl rfl ?_
      refine st_s rfl rfl rfl rfl ?_
      refine st_s rfl rfl rfl rfl ?_
      refine o_pickT st rfl rfl rfl ?_
      refine c_nil ?_
      exact l_join true (fun a w hE hm => ⟨hE.sub ⟨rfl, rfl, rfl, rfl, trivial⟩, (hm.pick [0, 1, 2] rfl)⟩)
    · refine o_ldc (st_g rfl rfl) (v := (.agg #[(.int .i64 p_1.xFrom), (.int .i64 p_1.xTo), (.int .i64 p_1.xPort), (.int .i64 p_1.xProto)])) 1 rfl rfl rfl ty26 rfl ?_
      refine st_gw rfl rfl (o_callP (vs := [(.agg #[(.int .i64 p_1.xFrom), (.int .i64 p_1.xTo), (.int .i64 p_1.xPort), (.int .i64 p_1.xProto)])]) Tryd.call25 rfl rfl (by intro w m h; exact (w_spec_PacketValid (F := allB [] w) (p_0 := p_1) allB_ok h).mono (fun _ _ k => ret_free (fun r u => fr_nil) k)) ?_); rintro r8 _
      refine o_not (st_g rfl rfl) rfl rfl ?_
      refine o_pickF st rfl rfl rfl ?_
      refine c_nil ?_
      exact l_join (!r8) (fun a w hE hm => ⟨hE.sub ⟨rfl, rfl, rfl, rfl, trivial⟩, (hm.pick [0, 1, 2] rfl)⟩)
  · rintro t69 a w ⟨hE, hm⟩ h
    refine nx_of hE hm h ?_
    clear hE hm h
    refine c_cond rfl ?_ ?_
    · refine c_seq ?_
      refine c_region ?_
      refine o_bld st (qs := []) (cells := [(.int .i64 0), (.int .i64 0), (.int .i64 0), (.int .i64 0)]) (by intro ρ h; simp only [List.map_toArray, List.map_cons, List.map_nil]) rfl bld26 rfl ?_
      refine stw (o_stc (cs' := [(.int .i64 0), (.int .i64 0), (.int .i64 0), (.int .i64 0)]) 0 rfl rfl rfl ty26 rfl rfl rfl rfl ?_)
      refine c_nil ?_
      refine l_then ?_
      refine c_ret ?_
      refine l_ret ?_
      exact l_end1 Tryd.results15 (GPacket.mk 0 0 0 0) () (rv_c 0 rfl rfl ty26 rfl) (fun _ _ => NewCh.nil _ _ _ _)
    · refine c_skip ?_
      refine l_then ?_
      refine c_seq ?_
      refine c_seq ?_
      refine c_region ?_
      refine o_as st rfl rfl ?_
      refine c_nil ?_
      refine l_then ?_
      refine c_block ?_
      refine c_loop (σ := Int) (fun (t71 : Int) (a : Act) (w : World) => Has 41 [(0, v1), (3, (.pointer (some ⟨b3, 0, none⟩))), (4, (.pointer (some ⟨b5, 0, none⟩))), (5, (.int .i64 t71))] a ∧ Mem (gB F [] w0) (feet []) w0 [cellCh b5 [(.int .i64 0), (.int .i64 0), (.int .i64 0), (.int .i64 0)] 26, cellCh b3 [(.int .i64 p_1.xFrom), (.int .i64 p_1.xTo), (.int .i64 p_1.xPort), (.int .i64 p_1.xProto)] 26, snapCh w0 F] w) (fun a w hE hm => ⟨hE.sub ⟨rfl, rfl, rfl, rfl, trivial⟩, (hm.pick [0, 1, 2] rfl)⟩) ?_
      rintro nx72 t71 a w ⟨hE, hm⟩ h
      refine nx_of hE hm h ?_
      clear hE hm h
      refine c_seq ?_
      refine c_seq ?_
      refine c_region ?_
      refine o_mv st rfl rfl ?_
      refine o_mv st rfl rfl ?_
      refine o_len st el28 2 rfl (reads_snap hv1) rfl rfl ?_
      refine o_lss st rfl rfl rfl ?_
      refine c_nil ?_
      refine l_then ?_
      refine c_cond rfl ?_ ?_
      · refine c_skip ?_
        refine l_then ?_
        refine c_seq ?_
        refine c_block ?_
        refine c_seq ?_
        refine c_draw mixed 14 rfl [cellCh b5 [(.int .i64 0), (.int .i64 0), (.int .i64 0), (.int .i64 0)] 26, cellCh b3 [(.int .i64 p_1.xFrom), (.int .i64 p_1.xTo), (.int .i64 p_1.xPort), (.int .i64 p_1.xProto)] 26, snapCh w0 F] ?_
        refine o_fad (dt 0 (fun _ m => m)) rfl rfl fld26_0 rfl ?_
        refine o_ldc (dt 1 (fun _ m => m)) (v := (.int .i64 p_1.xFrom)) 1 rfl rfl rfl ty3 rfl ?_
        refine o_mv (dt 2 (fun _ m => m)) rfl rfl ?_
        refine o_mv (dt 3 (fun _ m => m)) rfl rfl ?_
        refine o_idx (dt 4 (fun _ m => m)) 2 rfl (reads_snap hv1) rfl rfl rfl el28 ?_; intro e73 h74
        refine o_fadS (dt 5 (fun _ m => m)) 2 rfl (reads_snap hv1) h74 rfl rfl fld38_0 rfl ?_
        refine o_lds (dt 6 (fun _ m => m)) (enc := encGRewrite) (u := (.agg #[(.int .i64 e73.xInside.xBase), (.int .i64 e73.xInside.xLength)])) 2 rfl (reads_snap hv1) flelGRewrite rfl h74 rfl rfl ty36 rfl ?_
        refine o_mv (dt 7 (fun _ m => m)) rfl rfl ?_
        refine o_mv (dt 8 (fun _ m => m)) rfl rfl ?_
        refine o_idx (dt 9 (fun _ m => m)) 2 rfl (reads_snap hv1) rfl rfl rfl el28 ?_; intro e75 h76
        refine o_fadS (dt 10 (fun _ m => m)) 2 rfl (reads_snap hv1) h76 rfl rfl fld38_1 rfl ?_
        refine o_lds (dt 11 (fun _ m => m)) (enc := encGRewrite) (u := (.agg #[(.int .i64 e75.xOutside.xBase), (.int .i64 e75.xOutside.xLength)])) 2 rfl (reads_snap hv1) flelGRewrite rfl h76 rfl rfl ty36 rfl ?_
        refine d_one (i := 12) rfl (by kernel_rfl) (o_callP (vs := [(.int .i64 p_1.xFrom), (.agg #[(.int .i64 e73.xInside.xBase), (.int .i64 e73.xInside.xLength)]), (.agg #[(.int .i64 e75.xOutside.xBase), (.int .i64 e75.xOutside.xLength)])]) Tryd.call31 rfl rfl (by intro w m h; exact (w_spec_l24Map (F := allB [] w) (address_0 := p_1.xFrom) (from_1 := e73.xInside) (to_2 := e75.xOutside) allB_ok h).mono (fun _ _ k => ret_free (fun r u => fr_nil) k)) ?_); rintro r77 _
        refine d_and (fun _ m => m) ?_
        refine o_as (dt 13 (fun _ m => m)) rfl rfl ?_
        refine d_done (by kernel_rfl) ?_
        refine l_then ?_
        refine c_seq ?_
        refine c_region ?_
        refine o_mv st rfl rfl ?_
        refine o_geq st rfl rfl rfl ?_
        refine c_nil ?_
        refine l_then ?_
        refine c_cond rfl ?_ ?_
        · refine c_seq ?_
          refine c_region ?_
          refine o_mv st rfl rfl ?_
          refine o_fad st rfl rfl fld26_0 rfl ?_
          refine stw (o_stc (cs' := [(.int .i64 r77), (.int .i64 p_1.xTo), (.int .i64 p_1.xPort), (.int .i64 p_1.xProto)]) 1 rfl rfl rfl ty3 rfl rfl rfl rfl ?_)
          refine c_nil ?_
          refine l_then ?_
          refine c_seq ?_
          refine c_region ?_
          refine o_ldc st (v := (.agg #[(.int .i64 r77), (.int .i64 p_1.xTo), (.int .i64 p_1.xPort), (.int .i64 p_1.xProto)])) 1 rfl rfl rfl ty26 rfl ?_
          refine stw (o_stc (cs' := [(.int .i64 r77), (.int .i64 p_1.xTo), (.int .i64 p_1.xPort), (.int .i64 p_1.xProto)]) 0 rfl rfl rfl ty26 rfl rfl rfl rfl ?_)
          refine c_nil ?_
          refine l_then ?_
          refine c_ret ?_
          refine b_ret ?_
          refine l_ret ?_
          refine l_ret ?_
          refine b_ret ?_
          refine l_ret ?_
          exact l_end1 Tryd.results15 (GPacket.mk r77 p_1.xTo p_1.xPort p_1.xProto) () (rv_c 0 rfl rfl ty26 rfl) (fun _ _ => NewCh.nil _ _ _ _)
        · refine c_skip ?_
          refine b_norm ?_
          refine l_then ?_
          refine c_region ?_
          refine o_mv st rfl rfl ?_
          refine o_add st rfl rfl rfl ?_; intro t78
          refine o_as st rfl rfl ?_
          refine c_nil ?_
          exact l_join t78 (fun a w hE hm => ⟨hE.sub ⟨rfl, rfl, rfl, rfl, trivial⟩, (hm.pick [0, 1, 2] rfl)⟩)
      · refine c_exit ?_
        refine l_exit ?_
        refine l_exit ?_
        refine b_exit ?_
        refine l_then ?_
        refine c_seq ?_
        refine c_region ?_
        refine o_ldc st (v := (.agg #[(.int .i64 p_1.xFrom), (.int .i64 p_1.xTo), (.int .i64 p_1.xPort), (.int .i64 p_1.xProto)])) 1 rfl rfl rfl ty26 rfl ?_
        refine stw (o_stc (cs' := [(.int .i64 p_1.xFrom), (.int .i64 p_1.xTo), (.int .i64 p_1.xPort), (.int .i64 p_1.xProto)]) 0 rfl rfl rfl ty26 rfl rfl rfl rfl ?_)
        refine c_nil ?_
        refine l_then ?_
        refine c_ret ?_
        exact l_end1 Tryd.results15 p_1 () (rv_c 0 rfl rfl ty26 rfl) (fun _ _ => NewCh.nil _ _ _ _)

set_option maxRecDepth 100000 in
set_option maxHeartbeats 8000000 in
theorem w_impl_Rewrite_outward {w0 : World} {F : Nat → Prop} {r_0 : GRewrite} {κ : GShift → Prop} (hF : ∀ b, F b → b < w0.heap.size ∧ ¬ feet [] b) (h : L_impl_Rewrite_outward r_0 κ) :
    Calls Tryd.prog 38 #[(.agg #[(.int .i64 r_0.xInside.xBase), (.int .i64 r_0.xInside.xLength), (.int .i64 r_0.xOutside.xBase), (.int .i64 r_0.xOutside.xLength)])] w0 (Ret [] F w0 κ (fun (r : GShift) (u : Unit) => (.agg #[(.int .i64 r.xWhere.xLo), (.int .i64 r.xWhere.xHi), (.int .i64 r.xBy)])) (fun (r : GShift) (u : Unit) => [])) := by
  refine enter0 (args := [(.agg #[(.int .i64 r_0.xInside.xBase), (.int .i64 r_0.xInside.xLength), (.int .i64 r_0.xOutside.xBase), (.int .i64 r_0.xOutside.xLength)])]) [] hF (Given.nil _ _) Tryd.func38 rfl Tryd.ntmps38 rfl h ?_
  clear h hF
  refine c_seq ?_
  refine c_region ?_
  refine stw (o_box rfl rfl [(.int .i64 r_0.xInside.xBase), (.int .i64 r_0.xInside.xLength), (.int .i64 r_0.xOutside.xBase), (.int .i64 r_0.xOutside.xLength)] rfl ?_); intro b1
  refine stw (o_alloc rfl [(.int .i64 0), (.int .i64 0), (.int .i64 0)] zero91 ?_); intro b3
  refine c_nil ?_
  refine l_then ?_
  refine c_seq ?_
  refine c_region ?_
  refine o_fad st rfl rfl fld38_0 rfl ?_
  refine o_ldc st (v := (.agg #[(.int .i64 r_0.xInside.xBase), (.int .i64 r_0.xInside.xLength)])) 1 rfl rfl rfl ty36 rfl ?_
  refine o_fad st rfl rfl fld38_1 rfl ?_
  refine o_ldc st (v := (.agg #[(.int .i64 r_0.xOutside.xBase), (.int .i64 r_0.xOutside.xLength)])) 1 rfl rfl rfl ty36 rfl ?_
  refine stw (o_callP (vs := [(.agg #[(.int .i64 r_0.xInside.xBase), (.int .i64 r_0.xInside.xLength)]), (.agg #[(.int .i64 r_0.xOutside.xBase), (.int .i64 r_0.xOutside.xLength)])]) Tryd.call58 rfl rfl (by intro w m h; exact (w_impl_shiftTo (F := allB [] w) (from_0 := r_0.xInside) (to_1 := r_0.xOutside) allB_ok h).mono (fun _ _ k => ret_free (fun r u => fr_nil) k)) ?_); rintro r5 _
  refine stw (o_stc (cs' := [(.int .i64 r5.xWhere.xLo), (.int .i64 r5.xWhere.xHi), (.int .i64 r5.xBy)]) 0 rfl rfl rfl ty91 rfl rfl rfl rfl ?_)
  refine c_nil ?_
  refine l_then ?_
  refine c_ret ?_
  exact l_end1 Tryd.results38 r5 () (rv_c 0 rfl rfl ty91 rfl) (fun _ _ => NewCh.nil _ _ _ _)



end
section
open Go.RowKit
set_option maxRecDepth 100000 in
set_option maxHeartbeats 8000000 in
theorem w_impl_moverOf__impl_Rewrite_outward {w0 : World} {F : Nat → Prop} {v1 : Value} {list_0 : (List GRewrite)} {κ : (List GShift) → Prop} (hF : ∀ b, F b → b < w0.heap.size ∧ ¬ feet [] b) (hv1 : Sl elGRewrite F w0 v1 list_0) (h : L_impl_moverOf__impl_Rewrite_outward list_0 κ) :
    Calls Tryd.prog 34 #[v1, (.func (.func 38) #[] #[])] w0 (Ret [] F w0 κ (fun (r : (List GShift)) (u : Value) => u) (fun (r : (List GShift)) (u : Value) => [ownCh elGShift 91 u r])) := by
  refine enterS (args := [v1, (.func (.func 38) #[] #[])]) [] hF (Given.nil _ _) Tryd.func34 rfl Tryd.ntmps34 rfl h ?_
  clear h hF
  refine c_seq ?_
  refine c_region ?_
  refine stw (o_asn elGShift 91 rfl rfl ?_)
  refine c_nil ?_
  refine l_then ?_
  refine c_seq ?_
  refine c_region ?_
  refine o_mv st rfl rfl ?_
  refine o_len st el28 1 rfl (reads_snap hv1) rfl rfl ?_
  refine stw (o_make (z := (GShift.mk (GSpan.mk 0 0) 0)) flelGShift rfl rfl rfl el62 rfl zero91 rfl rfl ?_); intro v4 xs5
  refine o_as st rfl rfl ?_
  refine c_nil ?_
  refine l_then ?_
  refine c_seq ?_
  refine c_seq ?_
  refine c_region ?_
  refine o_mv st rfl rfl ?_
  refine o_len st el28 2 rfl (reads_snap hv1) rfl rfl ?_
  refine o_mv st rfl rfl ?_
  refine c_nil ?_
  refine l_then ?_
  refine c_block ?_
  refine c_loop (σ := ((List GShift) × Int)) (fun ((xs8, t11) : ((List GShift) × Int)) (a : Act) (w : World) => ∃ (v7 : Value), Has 27 [(1, (.func (.func 38) #[] #[])), (5, v7), (11, v1), (12, (.int .i64 (list_0.length : Int))), (13, (.int .i64 t11))] a ∧ Mem (gB F [] w0) (feet []) w0 [snapCh w0 F, ownCh elGShift 91 v7 xs8] w) (fun a w hE hm => ⟨v4, hE.sub ⟨rfl, rfl, rfl, rfl, rfl, trivial⟩, (hm.pick [2, 0] rfl)⟩) ?_
  rintro nx12 ⟨xs8, t11⟩ a w ⟨v7, hE, hm⟩ h
  refine nx_of hE hm h ?_
  clear hE hm h
  refine c_seq ?_
  refine c_region ?_
  refine o_lss st rfl rfl rfl ?_
  refine c_nil ?_
  refine l_then ?_
  refine c_seq ?_
  refine c_cond rfl ?_ ?_
  · refine c_skip ?_
    refine l_then ?_
    refine c_seq ?_
    refine c_block ?_
    refine c_seq ?_
    refine c_region ?_
    refine o_idx st 0 rfl (reads_snap hv1) rfl rfl rfl el28 ?_; intro e13 h14
    refine o_lds st (enc := encGRewrite) (u := (.agg #[(.int .i64 e13.xInside.xBase), (.int .i64 e13.xInside.xLength), (.int .i64 e13.xOutside.xBase), (.int .i64 e13.xOutside.xLength)])) 0 rfl (reads_snap hv1) flelGRewrite rfl h14 rfl rfl ty38 rfl ?_
    refine stw (o_alloc rfl [(.int .i64 0), (.int .i64 0), (.int .i64 0), (.int .i64 0)] zero38 ?_); intro b15
    refine stw (o_stc (cs' := [(.int .i64 e13.xInside.xBase), (.int .i64 e13.xInside.xLength), (.int .i64 e13.xOutside.xBase), (.int .i64 e13.xOutside.xLength)]) 0 rfl rfl rfl ty38 rfl rfl rfl rfl ?_)
    refine c_nil ?_
    refine l_then ?_
    refine c_region ?_
    refine o_mv st rfl rfl ?_
    refine o_mv st rfl rfl ?_
    refine o_ldc st (v := (.agg #[(.int .i64 e13.xInside.xBase), (.int .i64 e13.xInside.xLength), (.int .i64 e13.xOutside.xBase), (.int .i64 e13.xOutside.xLength)])) 0 rfl rfl rfl ty38 rfl ?_
    refine stw (o_callXP rfl (runs_val rfl rfl Tryd.call38) rfl (by intro w m h; exact (w_impl_Rewrite_outward (F := allB [] w) (r_0 := e13) allB_ok h).mono (fun _ _ k => ret_free (fun r u => fr_nil) k)) ?_); rintro r17 _
    refine stw (o_bsl (enc := encGShift) (qs := [(0, (.agg #[(.int .i64 r17.xWhere.xLo), (.int .i64 r17.xWhere.xHi), (.int .i64 r17.xBy)]))]) (cells := [(.int .i64 r17.xWhere.xLo), (.int .i64 r17.xWhere.xHi), (.int .i64 r17.xBy)]) ([r17]) flelGShift (by intro ρ h; simp only [List.map_toArray, List.map_cons, List.map_nil, h (.tmp 20) _ rfl]) rfl el62 zero91 rfl rfl rfl rfl rfl rfl ?_); intro v18
    refine stw (o_app 3 0 rfl rfl (src_flat flelGShift reads_own) rfl rfl rfl el62 rfl zero91 rfl rfl ?_); intro v20
    refine o_as st rfl rfl ?_
    refine c_nil ?_
    refine b_norm ?_
    refine l_then ?_
    refine c_region ?_
    refine o_add st rfl rfl rfl ?_; intro t22
    refine o_mv st rfl rfl ?_
    refine c_nil ?_
    exact l_join ((xs8 ++ ([r17])), t22) (fun a w hE hm => ⟨v20, hE.sub ⟨rfl, rfl, rfl, rfl, rfl, trivial⟩, (hm.pick [2, 3] rfl)⟩)
  · refine c_exit ?_
    refine l_exit ?_
    refine l_exit ?_
    refine b_exit ?_
    refine l_then ?_
    refine c_seq ?_
    refine c_region ?_
    refine o_mv st rfl rfl ?_
    refine pk [1, 0] rfl ?_
    refine stw (o_call (vs := [v7, (.func (.func 57) #[] #[])]) (M0 := [ownCh elGShift 91 v7 xs8]) Tryd.call56 rfl rfl (by intro w m h; exact (w_srt_GShift (F := allB [ownCh elGShift 91 v7 xs8] w) (xs := xs8) allB_ok m.given h).mono (fun _ _ k => ret_free (fun r u => (fr_cons (free_own flelGShift) fr_nil)) k)) ?_); rintro r23 _
    refine c_nil ?_
    refine l_then ?_
    refine c_seq ?_
    refine c_region ?_
    refine o_mv st rfl rfl ?_
    refine o_as st rfl rfl ?_
    refine c_nil ?_
    refine l_then ?_
    refine c_ret ?_
    exact l_end1 Tryd.results34 r23 v7 (rv_t rfl) (fun w m => NewCh.ofB m [0] rfl)

set_option maxRecDepth 100000 in
set_option maxHeartbeats 8000000 in
theorem w_impl_RewriteOut {w0 : World} {F : Nat → Prop} {v1 : Value} {list_0 : (List GRewrite)} {p_1 : GPacket} {κ : GPacket → Prop} (hF : ∀ b, F b → b < w0.heap.size ∧ ¬ feet [] b) (hv1 : Sl elGRewrite F w0 v1 list_0) (hgl0 : Sl elGFieldShape F w0 (.slice (some ⟨0, 0, none⟩) 4 4) gl_impl_fieldShapes) (h : L_impl_RewriteOut list_0 p_1 κ) :
    Calls Tryd.prog 16 #[v1, (.agg #[(.int .i64 p_1.xFrom), (.int .i64 p_1.xTo), (.int .i64 p_1.xPort), (.int .i64 p_1.xProto)])] w0 (Ret [] F w0 κ (fun (r : GPacket) (u : Unit) => (.agg #[(.int .i64 r.xFrom), (.int .i64 r.xTo), (.int .i64 r.xPort), (.int .i64 r.xProto)])) (fun (r : GPacket) (u : Unit) => [])) := by
  refine enterS (args := [v1, (.agg #[(.int .i64 p_1.xFrom), (.int .i64 p_1.xTo), (.int .i64 p_1.xPort), (.int .i64 p_1.xProto)])]) [] hF (Given.nil _ _) Tryd.func16 rfl Tryd.ntmps16 rfl h ?_
  clear h hF
  refine c_seq ?_
  refine c_region ?_
  refine stw (o_box rfl rfl [(.int .i64 p_1.xFrom), (.int .i64 p_1.xTo), (.int .i64 p_1.xPort), (.int .i64 p_1.xProto)] rfl ?_); intro b3
  refine stw (o_alloc rfl [(.int .i64 0), (.int .i64 0), (.int .i64 0), (.int .i64 0)] zero26 ?_); intro b5
  refine c_nil ?_
  refine l_then ?_
  refine c_seq ?_
  refine c_join (σ := Bool) (fun (t69 : Bool) (a : Act) (w : World) => Has 21 [(0, v1), (3, (.pointer (some ⟨b3, 0, none⟩))), (4, (.pointer (some ⟨b5, 0, none⟩))), (12, (.bool t69))] a ∧ Mem (gB F [] w0) (feet []) w0 [cellCh b5 [(.int .i64 0), (.int .i64 0), (.int .i64 0), (.int .i64 0)] 26, cellCh b3 [(.int .i64 p_1.xFrom), (.int .i64 p_1.xTo), (.int .i64 p_1.xPort), (.int .i64 p_1.xProto)] 26, snapCh w0 F] w) ?_ ?_
  · intro k70
    refine c_region ?_
    refine o_mv st rfl rfl ?_
    refine stw (o_callP (vs := [v1]) Tryd.call22 rfl rfl (by intro w m h; exact (w_impl_RewritesValid (F := allB [] w) (list_0 := list_0) allB_ok (m.rd0 2 rfl (reads_snap hv1)) h).mono (fun _ _ k => ret_free (fun r u => fr_nil) k)) ?_); rintro r7 _
    refine o_not st rfl rfl ?_
    refine o_mv st rfl rfl ?_
    refine st_sp (dj := 8) rfl ?_ ?_
    · refine st_s rfl rfl rfl rfl ?_
      refine st_s rfl rfl rfl rfl ?_
      refine st_s rfl rfl rfl rfl ?_
      refine o_pickT st rfl rfl rfl ?_
      refine c_nil ?_
      exact l_join true (fun a w hE hm => ⟨hE.sub ⟨rfl, rfl, rfl, rfl, trivial⟩, (hm.pick [0, 1, 2] rfl)⟩)
    · refine o_ldc (st_g rfl rfl) (v := (.agg #[(.int .i64 p_1.xFrom), (.int .i64 p_1.xTo), (.int .i64 p_1.xPort), (.int .i64 p_1.xProto)])) 1 rfl rfl rfl ty26 rfl ?_
      refine st_gw rfl rfl (o_callP (vs := [(.agg #[(.int .i64 p_1.xFrom), (.int .i64 p_1.xTo), (.int .i64 p_1.xPort), (.int .i64 p_1.xProto)])]) Tryd.call33 rfl rfl (by intro w m h; exact (w_impl_PacketValid (F := allB [] w) (p_0 := p_1) allB_ok (m.rd0 2 rfl (reads_snap hgl0)) h).mono (fun _ _ k => ret_free (fun r u => fr_nil) k)) ?_); rintro r8 _
      refine o_not (st_g rfl rfl) rfl rfl ?_
      refine o_pickF st rfl rfl rfl ?_
      refine c_nil ?_
      exact l_join (!r8) (fun a w hE hm => ⟨hE.sub ⟨rfl, rfl, rfl, rfl, trivial⟩, (hm.pick [0, 1, 2] rfl)⟩)
  · rintro t69 a w ⟨hE, hm⟩ h
    refine nx_of hE hm h ?_
    clear hE hm h
    refine c_cond rfl ?_ ?_
    · refine c_seq ?_
      refine c_region ?_
      refine o_bld st (qs := []) (cells := [(.int .i64 0), (.int .i64 0), (.int .i64 0), (.int .i64 0)]) (by intro ρ h; simp only [List.map_toArray, List.map_cons, List.map_nil]) rfl bld26 rfl ?_
      refine stw (o_stc (cs' := [(.int .i64 0), (.int .i64 0), (.int .i64 0), (.int .i64 0)]) 0 rfl rfl rfl ty26 rfl rfl rfl rfl ?_)
      refine c_nil ?_
      refine l_then ?_
      refine c_ret ?_
      refine l_ret ?_
      exact l_end1 Tryd.results16 (GPacket.mk 0 0 0 0) () (rv_c 0 rfl rfl ty26 rfl) (fun _ _ => NewCh.nil _ _ _ _)
    · refine c_skip ?_
      refine l_then ?_
      refine c_join (σ := Int) (fun (t71 : Int) (a : Act) (w : World) => Has 21 [(3, (.pointer (some ⟨b3, 0, none⟩))), (4, (.pointer (some ⟨b5, 0, none⟩)))] a ∧ Mem (gB F [] w0) (feet []) w0 [cellCh b5 [(.int .i64 0), (.int .i64 0), (.int .i64 0), (.int .i64 0)] 26, cellCh b3 [(.int .i64 t71), (.int .i64 p_1.xTo), (.int .i64 p_1.xPort), (.int .i64 p_1.xProto)] 26, snapCh w0 F] w) ?_ ?_
      · intro k72
        refine c_drawQ mixed 7 rfl [cellCh b5 [(.int .i64 0), (.int .i64 0), (.int .i64 0), (.int .i64 0)] 26, snapCh w0 F] ?_
        intro Qd hP hQ
        have H17 : ∀ (r73 : (List GShift)) (v74 : Value) (r75 : Int), Nx 21 (gB F [] w0) (feet []) w0 (wpAnyH Tryd.prog .any (opsAt Tryd.f16 [1, 1, 0]) Qd (Mem (gB F [] w0) (feet []) w0 [cellCh b5 [(.int .i64 0), (.int .i64 0), (.int .i64 0), (.int .i64 0)] 26, snapCh w0 F]) 0 #[true, true, true, true, true, true, true]) [(3, (.pointer (some ⟨b3, 0, none⟩))), (4, (.pointer (some ⟨b5, 0, none⟩)))] [cellCh b5 [(.int .i64 0), (.int .i64 0), (.int .i64 0), (.int .i64 0)] 26, cellCh b3 [(.int .i64 r75), (.int .i64 p_1.xTo), (.int .i64 p_1.xPort), (.int .i64 p_1.xProto)] 26, snapCh w0 F] (k72 r75) := by
          intro r73 v74 r75
          refine d_done (by kernel_rfl) ?_
          exact fun a w hE hm hφ => hQ r75 a w hφ ((fun a w hE hm => ⟨hE.sub ⟨rfl, rfl, trivial⟩, (hm.pick [0, 1, 2] rfl)⟩) a w hE hm)
        have H18 : ∀ (r73 : (List GShift)) (v74 : Value) (r75 : Int), Nx 21 (gB F [] w0) (feet []) w0 (wpAnyH Tryd.prog .any (opsAt Tryd.f16 [1, 1, 0]) Qd (Mem (gB F [] w0) (feet []) w0 [cellCh b5 [(.int .i64 0), (.int .i64 0), (.int .i64 0), (.int .i64 0)] 26, snapCh w0 F]) 2 #[true, true, true, true, true, false, false]) [(3, (.pointer (some ⟨b3, 0, none⟩))), (4, (.pointer (some ⟨b5, 0, none⟩))), (18, (.int .i64 r75))] [cellCh b5 [(.int .i64 0), (.int .i64 0), (.int .i64 0), (.int .i64 0)] 26, cellCh b3 [(.int .i64 p_1.xFrom), (.int .i64 p_1.xTo), (.int .i64 p_1.xPort), (.int .i64 p_1.xProto)] 26, snapCh w0 F] (k72 r75) := by
          intro r73 v74 r75
          refine o_fad (dt 5 (fun w m => m.pick [0, 2] rfl)) rfl rfl fld26_0 rfl ?_
          refine d_one (i := 6) rfl (by kernel_rfl) (o_stc (cs' := [(.int .i64 r75), (.int .i64 p_1.xTo), (.int .i64 p_1.xPort), (.int .i64 p_1.xProto)]) 1 rfl rfl rfl ty3 rfl rfl rfl rfl ?_)
          refine d_and (fun w m => m.pick [0, 2] rfl) ?_
          refine pk [0, 1, 2] rfl ?_
          refine re (E' := [(3, (.pointer (some ⟨b3, 0, none⟩))), (4, (.pointer (some ⟨b5, 0, none⟩)))]) ⟨rfl, rfl, trivial⟩ ?_
          exact H17 r73 v74 r75
        have H19 : ∀ (r73 : (List GShift)) (v74 : Value), Nx 21 (gB F [] w0) (feet []) w0 (wpAnyH Tryd.prog .any (opsAt Tryd.f16 [1, 1, 0]) Qd (Mem (gB F [] w0) (feet []) w0 [cellCh b5 [(.int .i64 0), (.int .i64 0), (.int .i64 0), (.int .i64 0)] 26, snapCh w0 F]) 3 #[true, true, true, true, false, false, false]) [(3, (.pointer (some ⟨b3, 0, none⟩))), (4, (.pointer (some ⟨b5, 0, none⟩))), (15, v74), (17, (.int .i64 p_1.xFrom))] [ownCh elGShift 91 v74 r73, cellCh b5 [(.int .i64 0), (.int .i64 0), (.int .i64 0), (.int .i64 0)] 26, cellCh b3 [(.int .i64 p_1.xFrom), (.int .i64 p_1.xTo), (.int .i64 p_1.xPort), (.int .i64 p_1.xProto)] 26, snapCh w0 F] (L_impl_mover_move r73 p_1.xFrom (fun r75 => k72 r75)) := by
          intro r73 v74
          refine d_one (i := 4) rfl (by kernel_rfl) (o_callP (vs := [v74, (.int .i64 p_1.xFrom)]) Tryd.call36 rfl rfl (by intro w m h; exact (w_impl_mover_move (F := allB [] w) (m_0 := r73) (address_1 := p_1.xFrom) allB_ok (m.rd0 0 rfl reads_own) h).mono (fun _ _ k => ret_free (fun r u => fr_nil) k)) ?_); rintro r75 _
          refine d_and (fun w m => m.pick [1, 3] rfl) ?_
          refine pk [1, 2, 3] rfl ?_
          refine re (E' := [(3, (.pointer (some ⟨b3, 0, none⟩))), (4, (.pointer (some ⟨b5, 0, none⟩))), (18, (.int .i64 r75))]) ⟨rfl, rfl, rfl, trivial⟩ ?_
          exact H18 r73 v74 r75
        have H20 : ∀ (r73 : (List GShift)) (v74 : Value), Nx 21 (gB F [] w0) (feet []) w0 (wpAnyH Tryd.prog .any (opsAt Tryd.f16 [1, 1, 0]) Qd (Mem (gB F [] w0) (feet []) w0 [cellCh b5 [(.int .i64 0), (.int .i64 0), (.int .i64 0), (.int .i64 0)] 26, snapCh w0 F]) 4 #[true, true, true, false, false, false, false]) [(3, (.pointer (some ⟨b3, 0, none⟩))), (4, (.pointer (some ⟨b5, 0, none⟩))), (16, (.pointer (some ⟨b3, 0, none⟩))), (15, v74)] [ownCh elGShift 91 v74 r73, cellCh b5 [(.int .i64 0), (.int .i64 0), (.int .i64 0), (.int .i64 0)] 26, cellCh b3 [(.int .i64 p_1.xFrom), (.int .i64 p_1.xTo), (.int .i64 p_1.xPort), (.int .i64 p_1.xProto)] 26, snapCh w0 F] (L_impl_mover_move r73 p_1.xFrom (fun r75 => k72 r75)) := by
          intro r73 v74
          refine d_one (i := 3) rfl (by kernel_rfl) (o_ldc m_op (v := (.int .i64 p_1.xFrom)) 2 rfl rfl rfl ty3 rfl ?_)
          refine d_and (fun w m => m.pick [1, 3] rfl) ?_
          refine pk [0, 1, 2, 3] rfl ?_
          refine re (E' := [(3, (.pointer (some ⟨b3, 0, none⟩))), (4, (.pointer (some ⟨b5, 0, none⟩))), (15, v74), (17, (.int .i64 p_1.xFrom))]) ⟨rfl, rfl, rfl, rfl, trivial⟩ ?_
          exact H19 r73 v74
        have H21 : ∀ (_ : Unit), Nx 21 (gB F [] w0) (feet []) w0 (wpAnyH Tryd.prog .any (opsAt Tryd.f16 [1, 1, 0]) Qd (Mem (gB F [] w0) (feet []) w0 [cellCh b5 [(.int .i64 0), (.int .i64 0), (.int .i64 0), (.int .i64 0)] 26, snapCh w0 F]) 4 #[true, false, true, true, false, false, false]) [(3, (.pointer (some ⟨b3, 0, none⟩))), (4, (.pointer (some ⟨b5, 0, none⟩))), (14, v1), (17, (.int .i64 p_1.xFrom))] [cellCh b5 [(.int .i64 0), (.int .i64 0), (.int .i64 0), (.int .i64 0)] 26, cellCh b3 [(.int .i64 p_1.xFrom), (.int .i64 p_1.xTo), (.int .i64 p_1.xPort), (.int .i64 p_1.xProto)] 26, snapCh w0 F] (L_impl_moverOf__impl_Rewrite_outward list_0 (fun r76 => L_impl_mover_move r76 p_1.xFrom (fun r75 => k72 r75))) := by
          intro _
          refine d_one (i := 1) rfl (by kernel_rfl) (o_callP (vs := [v1, (.func (.func 38) #[] #[])]) Tryd.call34 rfl rfl (by intro w m h; exact (w_impl_moverOf__impl_Rewrite_outward (F := allB [] w) (list_0 := list_0) allB_ok (m.rd0 2 rfl (reads_snap hv1)) h).mono (fun _ _ k => ret_free (fun r u => (fr_cons (free_own flelGShift) fr_nil)) k)) ?_); rintro r76 v77
          refine d_and (fun w m => m.pick [1, 3] rfl) ?_
          refine pk [0, 1, 2, 3] rfl ?_
          refine re (E' := [(3, (.pointer (some ⟨b3, 0, none⟩))), (4, (.pointer (some ⟨b5, 0, none⟩))), (15, v77), (17, (.int .i64 p_1.xFrom))]) ⟨rfl, rfl, rfl, rfl, trivial⟩ ?_
          exact H19 r76 v77
        refine o_mv (dt 0 (fun w m => m.pick [0, 2] rfl)) rfl rfl ?_
        refine o_fad (dt 2 (fun w m => m.pick [0, 2] rfl)) rfl rfl fld26_0 rfl ?_
        refine d_two (i := 1) (j := 3) rfl rfl (by kernel_rfl) ?_ ?_
        · intro o ho; cases ho
          refine o_callP (vs := [v1, (.func (.func 38) #[] #[])]) Tryd.call34 rfl rfl (by intro w m h; exact (w_impl_moverOf__impl_Rewrite_outward (F := allB [] w) (list_0 := list_0) allB_ok (m.rd0 2 rfl (reads_snap hv1)) h).mono (fun _ _ k => ret_free (fun r u => (fr_cons (free_own flelGShift) fr_nil)) k)) ?_; rintro r73 v74
          refine d_and (fun w m => m.pick [1, 3] rfl) ?_
          refine pk [0, 1, 2, 3] rfl ?_
          refine re (E' := [(3, (.pointer (some ⟨b3, 0, none⟩))), (4, (.pointer (some ⟨b5, 0, none⟩))), (16, (.pointer (some ⟨b3, 0, none⟩))), (15, v74)]) ⟨rfl, rfl, rfl, rfl, trivial⟩ ?_
          exact H20 r73 v74
        · intro o ho; cases ho
          refine o_ldc m_op (v := (.int .i64 p_1.xFrom)) 1 rfl rfl rfl ty3 rfl ?_
          refine d_and (fun w m => m.pick [0, 2] rfl) ?_
          refine pk [0, 1, 2] rfl ?_
          refine re (E' := [(3, (.pointer (some ⟨b3, 0, none⟩))), (4, (.pointer (some ⟨b5, 0, none⟩))), (14, v1), (17, (.int .i64 p_1.xFrom))]) ⟨rfl, rfl, rfl, rfl, trivial⟩ ?_
          exact H21 ()
      · rintro t71 a w ⟨hE, hm⟩ h
        refine nx_of hE hm h ?_
        clear hE hm h
        refine c_seq ?_
        refine c_region ?_
        refine o_ldc st (v := (.agg #[(.int .i64 t71), (.int .i64 p_1.xTo), (.int .i64 p_1.xPort), (.int .i64 p_1.xProto)])) 1 rfl rfl rfl ty26 rfl ?_
        refine stw (o_stc (cs' := [(.int .i64 t71), (.int .i64 p_1.xTo), (.int .i64 p_1.xPort), (.int .i64 p_1.xProto)]) 0 rfl rfl rfl ty26 rfl rfl rfl rfl ?_)
        refine c_nil ?_
        refine l_then ?_
        refine c_ret ?_
        exact l_end1 Tryd.results16 (GPacket.mk t71 p_1.xTo p_1.xPort p_1.xProto) () (rv_c 0 rfl rfl ty26 rfl) (fun _ _ => NewCh.nil _ _ _ _)

set_option maxRecDepth 100000 in
set_option maxHeartbeats 8000000 in
theorem w_spec_l20Open {w0 : World} {F : Nat → Prop} {v1 : Value} {code_0 : (List UInt8)} {κ : ((List UInt8) × Int) → Prop} (hF : ∀ b, F b → b < w0.heap.size ∧ ¬ feet [] b) (hv1 : Sl elU8 F w0 v1 code_0) (h : L_spec_l20Open code_0 κ) :
    Calls Tryd.prog 39 #[v1] w0 (Ret [] F w0 κ (fun (r : ((List UInt8) × Int)) (u : Nat × Value) => .pointer (some ⟨u.1, 0, none⟩)) (fun (r : ((List UInt8) × Int)) (u : Nat × Value) => [cellCh u.1 [u.2, (.int .i64 r.2)] 99, roCh elU8 u.2 r.1])) := by
  refine enterS (args := [v1]) [] hF (Given.nil _ _) Tryd.func39 rfl Tryd.ntmps39 rfl h ?_
  clear h hF
  refine c_seq ?_
  refine c_region ?_
  refine o_as st rfl rfl ?_
  refine c_nil ?_
  refine l_then ?_
  refine c_join (σ := (List UInt8)) (fun (xs68 : (List UInt8)) (a : Act) (w : World) => ∃ (v67 : Value), Has 11 [(0, v67)] a ∧ Mem (gB F [] w0) (feet []) w0 [roCh elU8 v67 xs68] w) ?_ ?_
  · intro k71
    refine c_seq ?_
    refine c_region ?_
    refine o_mv st rfl rfl ?_
    refine o_len st el34 0 rfl (reads_snap hv1) rfl rfl ?_
    refine o_gtr st rfl rfl rfl ?_
    refine c_nil ?_
    refine l_then ?_
    refine c_cond rfl ?_ ?_
    · refine c_region ?_
      refine o_mv st rfl rfl ?_
      refine nx_note 0 rfl hv1 ?_
      refine stw (o_slc (I := 0) (J := 2000) 0 rfl rfl rfl rfl rfl el34 rfl ?_); intro v3 xs4
      refine o_as st rfl rfl ?_
      refine c_nil ?_
      exact l_join xs4 (fun a w hE hm => ⟨v3, hE.sub ⟨rfl, trivial⟩, (hm.pick [0] rfl)⟩)
    · refine c_skip ?_
      exact l_join code_0 (fun a w hE hm => ⟨v1, hE.sub ⟨rfl, trivial⟩, ((hm.snote 0 rfl hv1).pick [0] rfl)⟩)
  · rintro xs68 a w ⟨v67, hE, hm⟩ h
    refine nx_of hE hm h ?_
    clear hE hm h
    refine c_seq ?_
    refine c_region ?_
    refine o_mv st rfl rfl ?_
    refine nx_ro 0 rfl ?_; rintro a72 l73 q74 rfl
    refine o_bld st (qs := [(0, (.slice a72 l73 q74))]) (cells := [(.slice a72 l73 q74), (.int .i64 0)]) (by intro ρ h; simp only [List.map_toArray, List.map_cons, List.map_nil, h (.tmp 8) _ rfl]) rfl bld99 rfl ?_
    refine stw (o_box rfl rfl [(.slice a72 l73 q74), (.int .i64 0)] rfl ?_); intro b75
    refine o_as st rfl rfl ?_
    refine c_nil ?_
    refine l_then ?_
    refine c_ret ?_
    exact l_end1 Tryd.results39 (xs68, 0) (b75, (.slice a72 l73 q74)) (rv_t rfl) (fun w m => NewCh.ofB m [0, 1] rfl)

set_option maxRecDepth 100000 in
set_option maxHeartbeats 8000000 in
theorem w_spec_l20Rd_pick {w0 : World} {F : Nat → Prop} {b1 : Nat} {v2 : Value} {r_0_b : (List UInt8)} {r_0_p : Int} {n_1 : Int} {κ : (Int × Int) → Prop} (hF : ∀ b, F b → b < w0.heap.size ∧ ¬ feet [cellCh b1 [v2, (.int .i64 r_0_p)] 99] b) (hg : Given [cellCh b1 [v2, (.int .i64 r_0_p)] 99] F w0) (hv2 : Sl elU8 F w0 v2 r_0_b) (h : L_spec_l20Rd_pick r_0_b r_0_p n_1 κ) :
    Calls Tryd.prog 62 #[(.pointer (some ⟨b1, 0, none⟩)), (.int .i64 n_1)] w0 (Ret [cellCh b1 [v2, (.int .i64 r_0_p)] 99] F w0 κ (fun (r : (Int × Int)) (u : Unit) => (.int .i64 r.1)) (fun (r : (Int × Int)) (u : Unit) => [cellCh b1 [v2, (.int .i64 r.2)] 99])) := by
  refine enterS (args := [(.pointer (some ⟨b1, 0, none⟩)), (.int .i64 n_1)]) [cellCh b1 [v2, (.int .i64 r_0_p)] 99] hF hg Tryd.func62 rfl Tryd.ntmps62 rfl h ?_
  clear h hF hg
  refine c_seq ?_
  refine c_region ?_
  refine o_as st rfl rfl ?_
  refine c_nil ?_
  refine l_then ?_
  refine c_seq ?_
  refine c_region ?_
  refine o_mv st rfl rfl ?_
  refine o_mv st rfl rfl ?_
  refine o_nilc st rfl rfl ?_
  refine o_fad st rfl rfl fld99_1 rfl ?_
  refine o_ldc st (v := (.int .i64 r_0_p)) 0 rfl rfl rfl ty3 rfl ?_
  refine o_add st rfl rfl rfl ?_; intro t5
  refine o_nilc st rfl rfl ?_
  refine o_fad st rfl rfl fld99_1 rfl ?_
  refine stw (o_stc (cs' := [v2, (.int .i64 t5)]) 0 rfl rfl rfl ty3 rfl rfl rfl rfl ?_)
  refine c_nil ?_
  refine l_then ?_
  refine c_seq ?_
  refine c_join (σ := Bool) (fun (t66 : Bool) (a : Act) (w : World) => Has 99 [(0, (.pointer (some ⟨b1, 0, none⟩))), (1, (.int .i64 n_1)), (24, (.bool t66))] a ∧ Mem (gB F [cellCh b1 [v2, (.int .i64 r_0_p)] 99] w0) (feet [cellCh b1 [v2, (.int .i64 r_0_p)] 99]) w0 [cellCh b1 [v2, (.int .i64 t5)] 99, snapCh w0 F] w) ?_ ?_
  · intro k67
    refine c_region ?_
    refine o_mv st rfl rfl ?_
    refine o_lss st rfl rfl rfl ?_
    refine o_mv st rfl rfl ?_
    refine st_sp (dj := 17) rfl ?_ ?_
    · refine st_s rfl rfl rfl rfl ?_
      refine st_s rfl rfl rfl rfl ?_
      refine st_s rfl rfl rfl rfl ?_
      refine st_s rfl rfl rfl rfl ?_
      refine st_s rfl rfl rfl rfl ?_
      refine st_s rfl rfl rfl rfl ?_
      refine o_pickT st rfl rfl rfl ?_
      refine c_nil ?_
      exact l_join true (fun a w hE hm => ⟨hE.sub ⟨rfl, rfl, rfl, trivial⟩, (hm.pick [0, 1] rfl)⟩)
    · refine o_mv (st_g rfl rfl) rfl rfl ?_
      refine o_nilc (st_g rfl rfl) rfl rfl ?_
      refine o_fad (st_g rfl rfl) rfl rfl fld99_0 rfl ?_
      refine o_ldc (st_g rfl rfl) (v := v2) 0 rfl rfl rfl ty34 rfl ?_
      refine o_len (st_g rfl rfl) el34 1 rfl (reads_snap hv2) rfl rfl ?_
      refine o_eql (st_g rfl rfl) und3 rfl rfl rfl ?_
      refine o_pickF st rfl rfl rfl ?_
      refine c_nil ?_
      exact l_join (decide ((r_0_b.length : Int) = 0)) (fun a w hE hm => ⟨hE.sub ⟨rfl, rfl, rfl, trivial⟩, (hm.pick [0, 1] rfl)⟩)
  · rintro t66 a w ⟨hE, hm⟩ h
    refine nx_of hE hm h ?_
    clear hE hm h
    refine c_cond rfl ?_ ?_
    · refine c_seq ?_
      refine c_region ?_
      refine o_as st rfl rfl ?_
      refine c_nil ?_
      refine l_then ?_
      refine c_ret ?_
      refine l_ret ?_
      exact l_end1 Tryd.results62 (0, t5) () (rv_t rfl) (fun w m => NewCh.ofB m [0] rfl)
    · refine c_skip ?_
      refine l_then ?_
      refine c_seq ?_
      refine c_region ?_
      refine o_mv st rfl rfl ?_
      refine o_nilc st rfl rfl ?_
      refine o_fad st rfl rfl fld99_1 rfl ?_
      refine o_ldc st (v := (.int .i64 t5)) 0 rfl rfl rfl ty3 rfl ?_
      refine o_sub st rfl rfl rfl ?_; intro t68
      refine o_as st rfl rfl ?_
      refine c_nil ?_
      refine l_then ?_
      refine c_seq ?_
      refine c_seq ?_
      refine c_region ?_
      refine o_mv st rfl rfl ?_
      refine o_mv st rfl rfl ?_
      refine o_nilc st rfl rfl ?_
      refine o_fad st rfl rfl fld99_0 rfl ?_
      refine o_ldc st (v := v2) 0 rfl rfl rfl ty34 rfl ?_
      refine o_len st el34 1 rfl (reads_snap hv2) rfl rfl ?_
      refine o_lss st rfl rfl rfl ?_
      refine c_nil ?_
      refine l_then ?_
      refine c_cond rfl ?_ ?_
      · refine c_seq ?_
        refine c_region ?_
        refine o_mv st rfl rfl ?_
        refine o_nilc st rfl rfl ?_
        refine o_fad st rfl rfl fld99_0 rfl ?_
        refine o_ldc st (v := v2) 0 rfl rfl rfl ty34 rfl ?_
        refine o_mv st rfl rfl ?_
        refine o_idx st 1 rfl (reads_snap hv2) rfl rfl rfl el34 ?_; intro e69 h70
        refine o_lds st (enc := encU8) (u := (.int .u8 (e69.toNat : Int))) 1 rfl (reads_snap hv2) flelU8 rfl h70 rfl rfl ty5 rfl ?_
        refine o_cnvI st und5 und3 rfl rfl ?_
        refine o_mv st rfl rfl ?_
        refine o_rem st rfl rfl rfl ?_; intro t71
        refine o_as st rfl rfl ?_
        refine c_nil ?_
        refine l_then ?_
        refine c_ret ?_
        refine l_ret ?_
        exact l_end1 Tryd.results62 (t71, t5) () (rv_t rfl) (fun w m => NewCh.ofB m [0] rfl)
      · refine c_skip ?_
        refine l_then ?_
        refine c_seq ?_
        refine c_draw mixed 46 rfl [cellCh b1 [v2, (.int .i64 t5)] 99, snapCh w0 F] ?_
        refine o_mv (dt 0 (fun _ m => m)) rfl rfl ?_
        refine o_nilc (dt 1 (fun _ m => m)) rfl rfl ?_
        refine o_fad (dt 2 (fun _ m => m)) rfl rfl fld99_0 rfl ?_
        refine o_ldc (dt 3 (fun _ m => m)) (v := v2) 0 rfl rfl rfl ty34 rfl ?_
        refine o_mv (dt 4 (fun _ m => m)) rfl rfl ?_
        refine o_mv (dt 5 (fun _ m => m)) rfl rfl ?_
        refine o_nilc (dt 6 (fun _ m => m)) rfl rfl ?_
        refine o_fad (dt 7 (fun _ m => m)) rfl rfl fld99_0 rfl ?_
        refine o_ldc (dt 8 (fun _ m => m)) (v := v2) 0 rfl rfl rfl ty34 rfl ?_
        refine o_len (dt 9 (fun _ m => m)) el34 1 rfl (reads_snap hv2) rfl rfl ?_
        refine o_rem (dt 10 (fun _ m => m)) rfl rfl rfl ?_; intro t72
        refine o_idx (dt 11 (fun _ m => m)) 1 rfl (reads_snap hv2) rfl rfl rfl el34 ?_; intro e73 h74
        refine o_lds (dt 12 (fun _ m => m)) (enc := encU8) (u := (.int .u8 (e73.toNat : Int))) 1 rfl (reads_snap hv2) flelU8 rfl h74 rfl rfl ty5 rfl ?_
        refine o_cnvI (dt 13 (fun _ m => m)) und5 und3 rfl rfl ?_
        refine o_mul (dt 14 (fun _ m => m)) rfl rfl rfl ?_; intro t75
        refine o_mv (dt 15 (fun _ m => m)) rfl rfl ?_
        refine o_nilc (dt 16 (fun _ m => m)) rfl rfl ?_
        refine o_fad (dt 17 (fun _ m => m)) rfl rfl fld99_0 rfl ?_
        refine o_ldc (dt 18 (fun _ m => m)) (v := v2) 0 rfl rfl rfl ty34 rfl ?_
        refine o_mv (dt 19 (fun _ m => m)) rfl rfl ?_
        refine o_mul (dt 20 (fun _ m => m)) rfl rfl rfl ?_; intro t76
        refine o_add (dt 21 (fun _ m => m)) rfl rfl rfl ?_; intro t77
        refine o_mv (dt 22 (fun _ m => m)) rfl rfl ?_
        refine o_nilc (dt 23 (fun _ m => m)) rfl rfl ?_
        refine o_fad (dt 24 (fun _ m => m)) rfl rfl fld99_0 rfl ?_
        refine o_ldc (dt 25 (fun _ m => m)) (v := v2) 0 rfl rfl rfl ty34 rfl ?_
        refine o_len (dt 26 (fun _ m => m)) el34 1 rfl (reads_snap hv2) rfl rfl ?_
        refine o_rem (dt 27 (fun _ m => m)) rfl rfl rfl ?_; intro t78
        refine o_idx (dt 28 (fun _ m => m)) 1 rfl (reads_snap hv2) rfl rfl rfl el34 ?_; intro e79 h80
        refine o_lds (dt 29 (fun _ m => m)) (enc := encU8) (u := (.int .u8 (e79.toNat : Int))) 1 rfl (reads_snap hv2) flelU8 rfl h80 rfl rfl ty5 rfl ?_
        refine o_cnvI (dt 30 (fun _ m => m)) und5 und3 rfl rfl ?_
        refine o_mul (dt 31 (fun _ m => m)) rfl rfl rfl ?_; intro t81
        refine o_add (dt 32 (fun _ m => m)) rfl rfl rfl ?_; intro t82
        refine o_mv (dt 33 (fun _ m => m)) rfl rfl ?_
        refine o_mul (dt 34 (fun _ m => m)) rfl rfl rfl ?_; intro t83
        refine o_add (dt 35 (fun _ m => m)) rfl rfl rfl ?_; intro t84
        refine o_mv (dt 36 (fun _ m => m)) rfl rfl ?_
        refine o_mv (dt 37 (fun _ m => m)) rfl rfl ?_
        refine o_nilc (dt 38 (fun _ m => m)) rfl rfl ?_
        refine o_fad (dt 39 (fun _ m => m)) rfl rfl fld99_0 rfl ?_
        refine o_ldc (dt 40 (fun _ m => m)) (v := v2) 0 rfl rfl rfl ty34 rfl ?_
        refine o_len (dt 41 (fun _ m => m)) el34 1 rfl (reads_snap hv2) rfl rfl ?_
        refine o_quo (dt 42 (fun _ m => m)) rfl rfl rfl ?_; intro t85
        refine o_mul (dt 43 (fun _ m => m)) rfl rfl rfl ?_; intro t86
        refine o_add (dt 44 (fun _ m => m)) rfl rfl rfl ?_; intro t87
        refine o_as (dt 45 (fun _ m => m)) rfl rfl ?_
        refine d_done (by kernel_rfl) ?_
        refine l_then ?_
        refine c_seq ?_
        refine c_region ?_
        refine o_mv st rfl rfl ?_
        refine o_mv st rfl rfl ?_
        refine o_quo st rfl rfl rfl ?_; intro t88
        refine o_xor st rfl rfl rfl ?_; intro t89
        refine o_as st rfl rfl ?_
        refine c_nil ?_
        refine l_then ?_
        refine c_seq ?_
        refine c_region ?_
        refine o_mv st rfl rfl ?_
        refine o_mv st rfl rfl ?_
        refine o_rem st rfl rfl rfl ?_; intro t90
        refine o_as st rfl rfl ?_
        refine c_nil ?_
        refine l_then ?_
        refine c_ret ?_
        exact l_end1 Tryd.results62 (t90, t5) () (rv_t rfl) (fun w m => NewCh.ofB m [0] rfl)

set_option maxRecDepth 100000 in
set_option maxHeartbeats 8000000 in
theorem w_spec_l20Rd_odd {w0 : World} {F : Nat → Prop} {b1 : Nat} {v2 : Value} {r_0_b : (List UInt8)} {r_0_p : Int} {n_1 : Int} {κ : (Bool × Int) → Prop} (hF : ∀ b, F b → b < w0.heap.size ∧ ¬ feet [cellCh b1 [v2, (.int .i64 r_0_p)] 99] b) (hg : Given [cellCh b1 [v2, (.int .i64 r_0_p)] 99] F w0) (hv2 : Sl elU8 F w0 v2 r_0_b) (h : L_spec_l20Rd_odd r_0_b r_0_p n_1 κ) :
    Calls Tryd.prog 63 #[(.pointer (some ⟨b1, 0, none⟩)), (.int .i64 n_1)] w0 (Ret [cellCh b1 [v2, (.int .i64 r_0_p)] 99] F w0 κ (fun (r : (Bool × Int)) (u : Unit) => (.bool r.1)) (fun (r : (Bool × Int)) (u : Unit) => [cellCh b1 [v2, (.int .i64 r.2)] 99])) := by
  refine enterS (args := [(.pointer (some ⟨b1, 0, none⟩)), (.int .i64 n_1)]) [cellCh b1 [v2, (.int .i64 r_0_p)] 99] hF hg Tryd.func63 rfl Tryd.ntmps63 rfl h ?_
  clear h hF hg
  refine c_seq ?_
  refine c_region ?_
  refine o_as st rfl rfl ?_
  refine c_nil ?_
  refine l_then ?_
  refine c_join (σ := (Int × Bool)) (fun ((t68, t69) : (Int × Bool)) (a : Act) (w : World) => Has 15 [(4, (.bool t69))] a ∧ Mem (gB F [cellCh b1 [v2, (.int .i64 r_0_p)] 99] w0) (feet [cellCh b1 [v2, (.int .i64 r_0_p)] 99]) w0 [cellCh b1 [v2, (.int .i64 t68)] 99, snapCh w0 F] w) ?_ ?_
  · intro k70
    refine c_region ?_
    refine o_mv st rfl rfl ?_
    refine o_gtr st rfl rfl rfl ?_
    refine o_mv st rfl rfl ?_
    refine st_sp (dj := 7) rfl ?_ ?_
    · refine o_mv (st_g rfl rfl) rfl rfl ?_
      refine o_mv (st_g rfl rfl) rfl rfl ?_
      refine st_gw rfl rfl (o_call (vs := [(.pointer (some ⟨b1, 0, none⟩)), (.int .i64 n_1)]) (M0 := [cellCh b1 [v2, (.int .i64 r_0_p)] 99]) Tryd.call62 rfl rfl (by intro w m h; exact (w_spec_l20Rd_pick (F := allB [cellCh b1 [v2, (.int .i64 r_0_p)] 99] w) (r_0_b := r_0_b) (r_0_p := r_0_p) (n_1 := n_1) allB_ok m.given (m.rdM 0 rfl (reads_snap hv2)) h).mono (fun _ _ k => ret_free (fun r u => (fr_cons free_cell fr_nil)) k)) ?_); rintro ⟨r5, r6⟩ _
      refine o_mv (st_g rfl rfl) rfl rfl ?_
      refine o_sub (st_g rfl rfl) rfl rfl rfl ?_; intro t7
      refine o_eql (st_g rfl rfl) und3 rfl rfl rfl ?_
      refine o_pickT st rfl rfl rfl ?_
      refine o_as st rfl rfl ?_
      refine c_nil ?_
      exact l_join (r6, (decide (r5 = t7))) (fun a w hE hm => ⟨hE.sub ⟨rfl, trivial⟩, (hm.pick [0, 1] rfl)⟩)
    · refine st_s rfl rfl rfl rfl ?_
      refine st_s rfl rfl rfl rfl ?_
      refine st_s rfl rfl rfl rfl ?_
      refine st_s rfl rfl rfl rfl ?_
      refine st_s rfl rfl rfl rfl ?_
      refine st_s rfl rfl rfl rfl ?_
      refine o_pickF st rfl rfl rfl ?_
      refine o_as st rfl rfl ?_
      refine c_nil ?_
      exact l_join (r_0_p, false) (fun a w hE hm => ⟨hE.sub ⟨rfl, trivial⟩, (hm.pick [0, 1] rfl)⟩)
  · rintro ⟨t68, t69⟩ a w ⟨hE, hm⟩ h
    refine nx_of hE hm h ?_
    clear hE hm h
    refine c_ret ?_
    exact l_end1 Tryd.results63 (t69, t68) () (rv_t rfl) (fun w m => NewCh.ofB m [0] rfl)

set_option maxRecDepth 100000 in
set_option maxHeartbeats 8000000 in
theorem w_spec_l20Rewrites {w0 : World} {F : Nat → Prop} {b1 : Nat} {v2 : Value} {r_0_b : (List UInt8)} {r_0_p : Int} {n_1 : Int} {κ : ((List GRewrite) × Int) → Prop} (hF : ∀ b, F b → b < w0.heap.size ∧ ¬ feet [cellCh b1 [v2, (.int .i64 r_0_p)] 99] b) (hg : Given [cellCh b1 [v2, (.int .i64 r_0_p)] 99] F w0) (hv2 : Sl elU8 F w0 v2 r_0_b) (h : L_spec_l20Rewrites r_0_b r_0_p n_1 κ) :
    Calls Tryd.prog 40 #[(.pointer (some ⟨b1, 0, none⟩)), (.int .i64 n_1)] w0 (Ret [cellCh b1 [v2, (.int .i64 r_0_p)] 99] F w0 κ (fun (r : ((List GRewrite) × Int)) (u : Value) => u) (fun (r : ((List GRewrite) × Int)) (u : Value) => [ownCh elGRewrite 38 u r.1, cellCh b1 [v2, (.int .i64 r.2)] 99])) := by
  refine enterS (args := [(.pointer (some ⟨b1, 0, none⟩)), (.int .i64 n_1)]) [cellCh b1 [v2, (.int .i64 r_0_p)] 99] hF hg Tryd.func40 rfl Tryd.ntmps40 rfl h ?_
  clear h hF hg
  refine c_seq ?_
  refine c_region ?_
  refine stw (o_asn elGRewrite 38 rfl rfl ?_)
  refine c_nil ?_
  refine l_then ?_
  refine c_seq ?_
  refine c_region ?_
  refine stw (o_bsl (enc := encGRewrite) (qs := []) (cells := []) ([] : (List GRewrite)) flelGRewrite (by intro ρ h; simp only [List.map_toArray, List.map_cons, List.map_nil]) rfl el28 zero38 rfl rfl rfl rfl rfl rfl ?_); intro v6
  refine o_as st rfl rfl ?_
  refine c_nil ?_
  refine l_then ?_
  refine c_seq ?_
  refine c_seq ?_
  refine c_region ?_
  refine o_mv st rfl rfl ?_
  refine pk [2, 0, 1, 3] rfl ?_
  refine stw (o_call (vs := [(.pointer (some ⟨b1, 0, none⟩)), (.int .i64 5)]) (M0 := [cellCh b1 [v2, (.int .i64 r_0_p)] 99]) Tryd.call62 rfl rfl (by intro w m h; exact (w_spec_l20Rd_pick (F := allB [cellCh b1 [v2, (.int .i64 r_0_p)] 99] w) (r_0_b := r_0_b) (r_0_p := r_0_p) (n_1 := 5) allB_ok m.given (m.rdM 2 rfl (reads_snap hv2)) h).mono (fun _ _ k => ret_free (fun r u => (fr_cons free_cell fr_nil)) k)) ?_); rintro ⟨r8, r9⟩ _
  refine o_as st rfl rfl ?_
  refine c_nil ?_
  refine l_then ?_
  refine c_block ?_
  refine c_loop (σ := (Int × (List GRewrite) × Int)) (fun ((t10, xs12, t15) : (Int × (List GRewrite) × Int)) (a : Act) (w : World) => ∃ (v11 : Value), Has 77 [(0, (.pointer (some ⟨b1, 0, none⟩))), (1, (.int .i64 n_1)), (5, v11), (6, (.int .i64 t15))] a ∧ Mem (gB F [cellCh b1 [v2, (.int .i64 r_0_p)] 99] w0) (feet [cellCh b1 [v2, (.int .i64 r_0_p)] 99]) w0 [cellCh b1 [v2, (.int .i64 t10)] 99, snapCh w0 F, ownCh elGRewrite 38 v11 xs12] w) (fun a w hE hm => ⟨v6, hE.sub ⟨rfl, rfl, rfl, rfl, trivial⟩, (hm.pick [0, 3, 1] rfl)⟩) ?_
  rintro nx16 ⟨t10, xs12, t15⟩ a w ⟨v11, hE, hm⟩ h
  refine nx_of hE hm h ?_
  clear hE hm h
  refine c_seq ?_
  refine c_seq ?_
  refine c_region ?_
  refine o_mv st rfl rfl ?_
  refine o_gtr st rfl rfl rfl ?_
  refine c_nil ?_
  refine l_then ?_
  refine c_cond rfl ?_ ?_
  · refine c_skip ?_
    refine l_then ?_
    refine c_join (σ := ((List GRewrite) × Int)) (fun ((xs122, t125) : ((List GRewrite) × Int)) (a : Act) (w : World) => ∃ (v123 : Value), Has 77 [(0, (.pointer (some ⟨b1, 0, none⟩))), (1, (.int .i64 n_1)), (5, v123), (6, (.int .i64 t15))] a ∧ Mem (gB F [cellCh b1 [v2, (.int .i64 r_0_p)] 99] w0) (feet [cellCh b1 [v2, (.int .i64 r_0_p)] 99]) w0 [cellCh b1 [v2, (.int .i64 t125)] 99, ownCh elGRewrite 38 v123 xs122, snapCh w0 F] w) ?_ ?_
    · intro k126
      refine c_block ?_
      refine c_seq ?_
      refine c_region ?_
      refine o_mv st rfl rfl ?_
      refine stw (o_call (vs := [(.pointer (some ⟨b1, 0, none⟩)), (.int .i64 9)]) (M0 := [cellCh b1 [v2, (.int .i64 t10)] 99]) Tryd.call62 rfl rfl (by intro w m h; exact (w_spec_l20Rd_pick (F := allB [cellCh b1 [v2, (.int .i64 t10)] 99] w) (r_0_b := r_0_b) (r_0_p := t10) (n_1 := 9) allB_ok m.given (m.rdM 0 rfl (reads_snap hv2)) h).mono (fun _ _ k => ret_free (fun r u => (fr_cons free_cell fr_nil)) k)) ?_); rintro ⟨r17, r18⟩ _
      refine o_add st rfl rfl rfl ?_; intro t19
      refine o_as st rfl rfl ?_
      refine c_nil ?_
      refine l_then ?_
      refine c_seq ?_
      refine c_region ?_
      refine o_mv st rfl rfl ?_
      refine o_sub st rfl rfl rfl ?_; intro t20
      refine o_shl st rfl rfl rfl ?_; intro t21
      refine o_as st rfl rfl ?_
      refine c_nil ?_
      refine l_then ?_
      refine c_join (σ := (Int × Int × Int)) (fun ((t23, t24, t25) : (Int × Int × Int)) (a : Act) (w : World) => ∃ (b22 : Nat), Has 77 [(0, (.pointer (some ⟨b1, 0, none⟩))), (1, (.int .i64 n_1)), (5, v11), (6, (.int .i64 t15)), (9, (.pointer (some ⟨b22, 0, none⟩)))] a ∧ Mem (gB F [cellCh b1 [v2, (.int .i64 r_0_p)] 99] w0) (feet [cellCh b1 [v2, (.int .i64 r_0_p)] 99]) w0 [cellCh b22 [(.int .i64 t23), (.int .i64 t19), (.int .i64 t24), (.int .i64 t19)] 38, cellCh b1 [v2, (.int .i64 t25)] 99, ownCh elGRewrite 38 v11 xs12, snapCh w0 F] w) ?_ ?_
      · intro k26
        refine c_drawQ mixed 22 rfl [snapCh w0 F, ownCh elGRewrite 38 v11 xs12] ?_
        intro Qd hP hQ
        have H423 : ∀ (r27 : Int) (r28 : Int) (t29 : Int) (r30 : Int) (r31 : Int) (t32 : Int) (b33 : Nat), Nx 77 (gB F [cellCh b1 [v2, (.int .i64 r_0_p)] 99] w0) (feet [cellCh b1 [v2, (.int .i64 r_0_p)] 99]) w0 (wpAnyH Tryd.prog .any (opsAt Tryd.f40 [1, 1, 0, 1, 0, 0, 1, 0, 0, 1, 1, 0]) Qd (Mem (gB F [cellCh b1 [v2, (.int .i64 r_0_p)] 99] w0) (feet [cellCh b1 [v2, (.int .i64 r_0_p)] 99]) w0 [snapCh w0 F, ownCh elGRewrite 38 v11 xs12]) 0 #[true, true, true, true, true, true, true, true, true, true, true, true, true, true, true, true, true, true, true, true, true, true]) [(0, (.pointer (some ⟨b1, 0, none⟩))), (1, (.int .i64 n_1)), (5, v11), (6, (.int .i64 t15)), (9, (.pointer (some ⟨b33, 0, none⟩)))] [cellCh b33 [(.int .i64 (w64 (t29 * t21))), (.int .i64 t19), (.int .i64 (w64 (t32 * t21))), (.int .i64 t19)] 38, cellCh b1 [v2, (.int .i64 r31)] 99, snapCh w0 F, ownCh elGRewrite 38 v11 xs12] (k26 ((w64 (t29 * t21)), (w64 (t32 * t21)), r31)) := by
          intro r27 r28 t29 r30 r31 t32 b33
          refine d_done (by kernel_rfl) ?_
          exact fun a w hE hm hφ => hQ ((w64 (t29 * t21)), (w64 (t32 * t21)), r31) a w hφ ((fun a w hE hm => ⟨b33, hE.sub ⟨rfl, rfl, rfl, rfl, rfl, trivial⟩, (hm.pick [0, 1, 3, 2] rfl)⟩) a w hE hm)
        have H424 : ∀ (r27 : Int) (r28 : Int) (t29 : Int) (r30 : Int) (r31 : Int) (t32 : Int) (b33 : Nat), Nx 77 (gB F [cellCh b1 [v2, (.int .i64 r_0_p)] 99] w0) (feet [cellCh b1 [v2, (.int .i64 r_0_p)] 99]) w0 (wpAnyH Tryd.prog .any (opsAt Tryd.f40 [1, 1, 0, 1, 0, 0, 1, 0, 0, 1, 1, 0]) Qd (Mem (gB F [cellCh b1 [v2, (.int .i64 r_0_p)] 99] w0) (feet [cellCh b1 [v2, (.int .i64 r_0_p)] 99]) w0 [snapCh w0 F, ownCh elGRewrite 38 v11 xs12]) 1 #[true, true, true, true, true, true, true, true, true, true, true, true, true, true, true, true, true, true, true, true, true, false]) [(0, (.pointer (some ⟨b1, 0, none⟩))), (1, (.int .i64 n_1)), (5, v11), (6, (.int .i64 t15)), (42, (.agg #[(.int .i64 (w64 (t29 * t21))), (.int .i64 t19), (.int .i64 (w64 (t32 * t21))), (.int .i64 t19)])), (9, (.pointer (some ⟨b33, 0, none⟩)))] [cellCh b33 [(.int .i64 0), (.int .i64 0), (.int .i64 0), (.int .i64 0)] 38, cellCh b1 [v2, (.int .i64 r31)] 99, snapCh w0 F, ownCh elGRewrite 38 v11 xs12] (k26 ((w64 (t29 * t21)), (w64 (t32 * t21)), r31)) := by
          intro r27 r28 t29 r30 r31 t32 b33
          refine d_one (i := 21) rfl (by kernel_rfl) (o_stc (cs' := [(.int .i64 (w64 (t29 * t21))), (.int .i64 t19), (.int .i64 (w64 (t32 * t21))), (.int .i64 t19)]) 0 rfl rfl rfl ty38 rfl rfl rfl rfl ?_)
          refine d_and (fun w m => m.pick [2, 3] rfl) ?_
          refine pk [0, 1, 2, 3] rfl ?_
          refine re (E' := [(0, (.pointer (some ⟨b1, 0, none⟩))), (1, (.int .i64 n_1)), (5, v11), (6, (.int .i64 t15)), (9, (.pointer (some ⟨b33, 0, none⟩)))]) ⟨rfl, rfl, rfl, rfl, rfl, trivial⟩ ?_
          exact H423 r27 r28 t29 r30 r31 t32 b33
        have H425 : ∀ (r27 : Int) (r28 : Int) (t29 : Int) (r30 : Int) (r31 : Int), Nx 77 (gB F [cellCh b1 [v2, (.int .i64 r_0_p)] 99] w0) (feet [cellCh b1 [v2, (.int .i64 r_0_p)] 99]) w0 (wpAnyH Tryd.prog .any (opsAt Tryd.f40 [1, 1, 0, 1, 0, 0, 1, 0, 0, 1, 1, 0]) Qd (Mem (gB F [cellCh b1 [v2, (.int .i64 r_0_p)] 99] w0) (feet [cellCh b1 [v2, (.int .i64 r_0_p)] 99]) w0 [snapCh w0 F, ownCh elGRewrite 38 v11 xs12]) 8 #[true, true, true, true, true, true, true, true, true, true, true, false, false, true, false, true, false, true, false, false, false, false]) [(0, (.pointer (some ⟨b1, 0, none⟩))), (1, (.int .i64 n_1)), (5, v11), (6, (.int .i64 t15)), (36, (.int .i64 t21)), (38, (.int .i64 t21)), (40, (.int .i64 t19)), (31, (.agg #[(.int .i64 (w64 (t29 * t21))), (.int .i64 t19)])), (33, (.int .i64 r30))] [cellCh b1 [v2, (.int .i64 r31)] 99, snapCh w0 F, ownCh elGRewrite 38 v11 xs12] (quoW (w64 ((w64 (128 + r30)) * 256)) t21 (fun t32 => k26 ((w64 (t29 * t21)), (w64 (t32 * t21)), r31))) := by
          intro r27 r28 t29 r30 r31
          refine o_addw (dt 11 (fun w m => m.pick [1, 2] rfl)) rfl rfl rfl ?_
          refine o_mulw (dt 12 (fun w m => m.pick [1, 2] rfl)) rfl rfl rfl ?_
          refine o_quo (dt 14 (fun w m => m.pick [1, 2] rfl)) rfl rfl rfl ?_; intro t32
          refine o_mulw (dt 16 (fun w m => m.pick [1, 2] rfl)) rfl rfl rfl ?_
          refine o_bld (dt 18 (fun w m => m.pick [1, 2] rfl)) (qs := [(0, (.int .i64 (w64 (t32 * t21)))), (1, (.int .i64 t19))]) (cells := [(.int .i64 (w64 (t32 * t21))), (.int .i64 t19)]) (by intro ρ h; simp only [List.map_toArray, List.map_cons, List.map_nil, h (.tmp 39) _ rfl, h (.tmp 40) _ rfl]) rfl bld36 rfl ?_
          refine o_bld (dt 19 (fun w m => m.pick [1, 2] rfl)) (qs := [(0, (.agg #[(.int .i64 (w64 (t29 * t21))), (.int .i64 t19)])), (1, (.agg #[(.int .i64 (w64 (t32 * t21))), (.int .i64 t19)]))]) (cells := [(.int .i64 (w64 (t29 * t21))), (.int .i64 t19), (.int .i64 (w64 (t32 * t21))), (.int .i64 t19)]) (by intro ρ h; simp only [List.map_toArray, List.map_cons, List.map_nil, h (.tmp 31) _ rfl, h (.tmp 41) _ rfl]) rfl bld38 rfl ?_
          refine d_one (i := 20) rfl (by kernel_rfl) (o_alloc rfl [(.int .i64 0), (.int .i64 0), (.int .i64 0), (.int .i64 0)] zero38 ?_); intro b33
          refine d_and (fun w m => m.pick [2, 3] rfl) ?_
          refine pk [0, 1, 2, 3] rfl ?_
          refine re (E' := [(0, (.pointer (some ⟨b1, 0, none⟩))), (1, (.int .i64 n_1)), (5, v11), (6, (.int .i64 t15)), (42, (.agg #[(.int .i64 (w64 (t29 * t21))), (.int .i64 t19), (.int .i64 (w64 (t32 * t21))), (.int .i64 t19)])), (9, (.pointer (some ⟨b33, 0, none⟩)))]) ⟨rfl, rfl, rfl, rfl, rfl, rfl, trivial⟩ ?_
          exact H424 r27 r28 t29 r30 r31 t32 b33
        have H426 : ∀ (r27 : Int) (r28 : Int) (t29 : Int) (b34 : Nat) (r35 : Int) (r36 : Int), Nx 77 (gB F [cellCh b1 [v2, (.int .i64 r_0_p)] 99] w0) (feet [cellCh b1 [v2, (.int .i64 r_0_p)] 99]) w0 (wpAnyH Tryd.prog .any (opsAt Tryd.f40 [1, 1, 0, 1, 0, 0, 1, 0, 0, 1, 1, 0]) Qd (Mem (gB F [cellCh b1 [v2, (.int .i64 r_0_p)] 99] w0) (feet [cellCh b1 [v2, (.int .i64 r_0_p)] 99]) w0 [snapCh w0 F, ownCh elGRewrite 38 v11 xs12]) 7 #[true, true, true, true, true, true, true, true, true, true, true, false, false, true, false, true, false, true, false, false, true, false]) [(0, (.pointer (some ⟨b1, 0, none⟩))), (1, (.int .i64 n_1)), (5, v11), (6, (.int .i64 t15)), (36, (.int .i64 t21)), (38, (.int .i64 t21)), (40, (.int .i64 t19)), (31, (.agg #[(.int .i64 (w64 (t29 * t21))), (.int .i64 t19)])), (9, (.pointer (some ⟨b34, 0, none⟩))), (33, (.int .i64 r35))] [cellCh b1 [v2, (.int .i64 r36)] 99, cellCh b34 [(.int .i64 0), (.int .i64 0), (.int .i64 0), (.int .i64 0)] 38, snapCh w0 F, ownCh elGRewrite 38 v11 xs12] (quoW (w64 ((w64 (128 + r35)) * 256)) t21 (fun t37 => k26 ((w64 (t29 * t21)), (w64 (t37 * t21)), r36))) := by
          intro r27 r28 t29 b34 r35 r36
          refine o_addw (dt 11 (fun w m => m.pick [2, 3] rfl)) rfl rfl rfl ?_
          refine o_mulw (dt 12 (fun w m => m.pick [2, 3] rfl)) rfl rfl rfl ?_
          refine o_quo (dt 14 (fun w m => m.pick [2, 3] rfl)) rfl rfl rfl ?_; intro t37
          refine o_mulw (dt 16 (fun w m => m.pick [2, 3] rfl)) rfl rfl rfl ?_
          refine o_bld (dt 18 (fun w m => m.pick [2, 3] rfl)) (qs := [(0, (.int .i64 (w64 (t37 * t21)))), (1, (.int .i64 t19))]) (cells := [(.int .i64 (w64 (t37 * t21))), (.int .i64 t19)]) (by intro ρ h; simp only [List.map_toArray, List.map_cons, List.map_nil, h (.tmp 39) _ rfl, h (.tmp 40) _ rfl]) rfl bld36 rfl ?_
          refine o_bld (dt 19 (fun w m => m.pick [2, 3] rfl)) (qs := [(0, (.agg #[(.int .i64 (w64 (t29 * t21))), (.int .i64 t19)])), (1, (.agg #[(.int .i64 (w64 (t37 * t21))), (.int .i64 t19)]))]) (cells := [(.int .i64 (w64 (t29 * t21))), (.int .i64 t19), (.int .i64 (w64 (t37 * t21))), (.int .i64 t19)]) (by intro ρ h; simp only [List.map_toArray, List.map_cons, List.map_nil, h (.tmp 31) _ rfl, h (.tmp 41) _ rfl]) rfl bld38 rfl ?_
          refine d_one (i := 21) rfl (by kernel_rfl) (o_stc (cs' := [(.int .i64 (w64 (t29 * t21))), (.int .i64 t19), (.int .i64 (w64 (t37 * t21))), (.int .i64 t19)]) 1 rfl rfl rfl ty38 rfl rfl rfl rfl ?_)
          refine d_and (fun w m => m.pick [2, 3] rfl) ?_
          refine pk [1, 0, 2, 3] rfl ?_
          refine re (E' := [(0, (.pointer (some ⟨b1, 0, none⟩))), (1, (.int .i64 n_1)), (5, v11), (6, (.int .i64 t15)), (9, (.pointer (some ⟨b34, 0, none⟩)))]) ⟨rfl, rfl, rfl, rfl, rfl, trivial⟩ ?_
          exact H423 r27 r28 t29 r35 r36 t37 b34
        have H427 : ∀ (r27 : Int) (r28 : Int) (t29 : Int) (b34 : Nat), Nx 77 (gB F [cellCh b1 [v2, (.int .i64 r_0_p)] 99] w0) (feet [cellCh b1 [v2, (.int .i64 r_0_p)] 99]) w0 (wpAnyH Tryd.prog .any (opsAt Tryd.f40 [1, 1, 0, 1, 0, 0, 1, 0, 0, 1, 1, 0]) Qd (Mem (gB F [cellCh b1 [v2, (.int .i64 r_0_p)] 99] w0) (feet [cellCh b1 [v2, (.int .i64 r_0_p)] 99]) w0 [snapCh w0 F, ownCh elGRewrite 38 v11 xs12]) 8 #[true, true, true, true, true, true, true, true, true, true, false, false, false, true, false, true, false, true, false, false, true, false]) [(0, (.pointer (some ⟨b1, 0, none⟩))), (1, (.int .i64 n_1)), (5, v11), (6, (.int .i64 t15)), (32, (.pointer (some ⟨b1, 0, none⟩))), (36, (.int .i64 t21)), (38, (.int .i64 t21)), (40, (.int .i64 t19)), (31, (.agg #[(.int .i64 (w64 (t29 * t21))), (.int .i64 t19)])), (9, (.pointer (some ⟨b34, 0, none⟩)))] [cellCh b34 [(.int .i64 0), (.int .i64 0), (.int .i64 0), (.int .i64 0)] 38, cellCh b1 [v2, (.int .i64 r28)] 99, snapCh w0 F, ownCh elGRewrite 38 v11 xs12] (L_spec_l20Rd_pick r_0_b r28 128 (fun (r35, r36) => quoW (w64 ((w64 (128 + r35)) * 256)) t21 (fun t37 => k26 ((w64 (t29 * t21)), (w64 (t37 * t21)), r36)))) := by
          intro r27 r28 t29 b34
          refine pk [1, 0, 2, 3] rfl ?_
          refine d_one (i := 10) rfl (by kernel_rfl) (o_call (vs := [(.pointer (some ⟨b1, 0, none⟩)), (.int .i64 128)]) (M0 := [cellCh b1 [v2, (.int .i64 r28)] 99]) Tryd.call62 rfl rfl (by intro w m h; exact (w_spec_l20Rd_pick (F := allB [cellCh b1 [v2, (.int .i64 r28)] 99] w) (r_0_b := r_0_b) (r_0_p := r28) (n_1 := 128) allB_ok m.given (m.rdM 1 rfl (reads_snap hv2)) h).mono (fun _ _ k => ret_free (fun r u => (fr_cons free_cell fr_nil)) k)) ?_); rintro ⟨r35, r36⟩ _
          refine d_and (fun w m => m.pick [2, 3] rfl) ?_
          refine pk [0, 1, 2, 3] rfl ?_
          refine re (E' := [(0, (.pointer (some ⟨b1, 0, none⟩))), (1, (.int .i64 n_1)), (5, v11), (6, (.int .i64 t15)), (36, (.int .i64 t21)), (38, (.int .i64 t21)), (40, (.int .i64 t19)), (31, (.agg #[(.int .i64 (w64 (t29 * t21))), (.int .i64 t19)])), (9, (.pointer (some ⟨b34, 0, none⟩))), (33, (.int .i64 r35))]) ⟨rfl, rfl, rfl, rfl, rfl, rfl, rfl, rfl, rfl, rfl, trivial⟩ ?_
          exact H426 r27 r28 t29 b34 r35 r36
        have H428 : ∀ (r27 : Int) (r28 : Int), Nx 77 (gB F [cellCh b1 [v2, (.int .i64 r_0_p)] 99] w0) (feet [cellCh b1 [v2, (.int .i64 r_0_p)] 99]) w0 (wpAnyH Tryd.prog .any (opsAt Tryd.f40 [1, 1, 0, 1, 0, 0, 1, 0, 0, 1, 1, 0]) Qd (Mem (gB F [cellCh b1 [v2, (.int .i64 r_0_p)] 99] w0) (feet [cellCh b1 [v2, (.int .i64 r_0_p)] 99]) w0 [snapCh w0 F, ownCh elGRewrite 38 v11 xs12]) 13 #[true, true, false, true, false, true, false, true, false, true, false, false, false, true, false, true, false, true, false, false, false, false]) [(0, (.pointer (some ⟨b1, 0, none⟩))), (1, (.int .i64 n_1)), (5, v11), (6, (.int .i64 t15)), (26, (.int .i64 t21)), (28, (.int .i64 t21)), (30, (.int .i64 t19)), (32, (.pointer (some ⟨b1, 0, none⟩))), (36, (.int .i64 t21)), (38, (.int .i64 t21)), (40, (.int .i64 t19)), (24, (.int .i64 r27))] [cellCh b1 [v2, (.int .i64 r28)] 99, snapCh w0 F, ownCh elGRewrite 38 v11 xs12] (quoW (w64 (r27 * 256)) t21 (fun t29 => L_spec_l20Rd_pick r_0_b r28 128 (fun (r30, r31) => quoW (w64 ((w64 (128 + r30)) * 256)) t21 (fun t32 => k26 ((w64 (t29 * t21)), (w64 (t32 * t21)), r31))))) := by
          intro r27 r28
          refine o_mulw (dt 2 (fun w m => m.pick [1, 2] rfl)) rfl rfl rfl ?_
          refine o_quo (dt 4 (fun w m => m.pick [1, 2] rfl)) rfl rfl rfl ?_; intro t29
          refine o_mulw (dt 6 (fun w m => m.pick [1, 2] rfl)) rfl rfl rfl ?_
          refine o_bld (dt 8 (fun w m => m.pick [1, 2] rfl)) (qs := [(0, (.int .i64 (w64 (t29 * t21)))), (1, (.int .i64 t19))]) (cells := [(.int .i64 (w64 (t29 * t21))), (.int .i64 t19)]) (by intro ρ h; simp only [List.map_toArray, List.map_cons, List.map_nil, h (.tmp 29) _ rfl, h (.tmp 30) _ rfl]) rfl bld36 rfl ?_
          refine d_two (i := 10) (j := 20) rfl rfl (by kernel_rfl) ?_ ?_
          · intro o ho; cases ho
            refine o_call (vs := [(.pointer (some ⟨b1, 0, none⟩)), (.int .i64 128)]) (M0 := [cellCh b1 [v2, (.int .i64 r28)] 99]) Tryd.call62 rfl rfl (by intro w m h; exact (w_spec_l20Rd_pick (F := allB [cellCh b1 [v2, (.int .i64 r28)] 99] w) (r_0_b := r_0_b) (r_0_p := r28) (n_1 := 128) allB_ok m.given (m.rdM 0 rfl (reads_snap hv2)) h).mono (fun _ _ k => ret_free (fun r u => (fr_cons free_cell fr_nil)) k)) ?_; rintro ⟨r30, r31⟩ _
            refine d_and (fun w m => m.pick [1, 2] rfl) ?_
            refine pk [0, 1, 2] rfl ?_
            refine re (E' := [(0, (.pointer (some ⟨b1, 0, none⟩))), (1, (.int .i64 n_1)), (5, v11), (6, (.int .i64 t15)), (36, (.int .i64 t21)), (38, (.int .i64 t21)), (40, (.int .i64 t19)), (31, (.agg #[(.int .i64 (w64 (t29 * t21))), (.int .i64 t19)])), (33, (.int .i64 r30))]) ⟨rfl, rfl, rfl, rfl, rfl, rfl, rfl, rfl, rfl, trivial⟩ ?_
            exact H425 r27 r28 t29 r30 r31
          · intro o ho; cases ho
            refine o_alloc rfl [(.int .i64 0), (.int .i64 0), (.int .i64 0), (.int .i64 0)] zero38 ?_; intro b34
            refine d_and (fun w m => m.pick [2, 3] rfl) ?_
            refine pk [0, 1, 2, 3] rfl ?_
            refine re (E' := [(0, (.pointer (some ⟨b1, 0, none⟩))), (1, (.int .i64 n_1)), (5, v11), (6, (.int .i64 t15)), (32, (.pointer (some ⟨b1, 0, none⟩))), (36, (.int .i64 t21)), (38, (.int .i64 t21)), (40, (.int .i64 t19)), (31, (.agg #[(.int .i64 (w64 (t29 * t21))), (.int .i64 t19)])), (9, (.pointer (some ⟨b34, 0, none⟩)))]) ⟨rfl, rfl, rfl, rfl, rfl, rfl, rfl, rfl, rfl, rfl, trivial⟩ ?_
            exact H427 r27 r28 t29 b34
        have H429 : ∀ (b38 : Nat) (r39 : Int) (r40 : Int), Nx 77 (gB F [cellCh b1 [v2, (.int .i64 r_0_p)] 99] w0) (feet [cellCh b1 [v2, (.int .i64 r_0_p)] 99]) w0 (wpAnyH Tryd.prog .any (opsAt Tryd.f40 [1, 1, 0, 1, 0, 0, 1, 0, 0, 1, 1, 0]) Qd (Mem (gB F [cellCh b1 [v2, (.int .i64 r_0_p)] 99] w0) (feet [cellCh b1 [v2, (.int .i64 r_0_p)] 99]) w0 [snapCh w0 F, ownCh elGRewrite 38 v11 xs12]) 12 #[true, true, false, true, false, true, false, true, false, true, false, false, false, true, false, true, false, true, false, false, true, false]) [(0, (.pointer (some ⟨b1, 0, none⟩))), (1, (.int .i64 n_1)), (5, v11), (6, (.int .i64 t15)), (26, (.int .i64 t21)), (28, (.int .i64 t21)), (30, (.int .i64 t19)), (32, (.pointer (some ⟨b1, 0, none⟩))), (36, (.int .i64 t21)), (38, (.int .i64 t21)), (40, (.int .i64 t19)), (9, (.pointer (some ⟨b38, 0, none⟩))), (24, (.int .i64 r39))] [cellCh b1 [v2, (.int .i64 r40)] 99, cellCh b38 [(.int .i64 0), (.int .i64 0), (.int .i64 0), (.int .i64 0)] 38, snapCh w0 F, ownCh elGRewrite 38 v11 xs12] (quoW (w64 (r39 * 256)) t21 (fun t41 => L_spec_l20Rd_pick r_0_b r40 128 (fun (r42, r43) => quoW (w64 ((w64 (128 + r42)) * 256)) t21 (fun t37 => k26 ((w64 (t41 * t21)), (w64 (t37 * t21)), r43))))) := by
          intro b38 r39 r40
          refine o_mulw (dt 2 (fun w m => m.pick [2, 3] rfl)) rfl rfl rfl ?_
          refine o_quo (dt 4 (fun w m => m.pick [2, 3] rfl)) rfl rfl rfl ?_; intro t41
          refine o_mulw (dt 6 (fun w m => m.pick [2, 3] rfl)) rfl rfl rfl ?_
          refine o_bld (dt 8 (fun w m => m.pick [2, 3] rfl)) (qs := [(0, (.int .i64 (w64 (t41 * t21)))), (1, (.int .i64 t19))]) (cells := [(.int .i64 (w64 (t41 * t21))), (.int .i64 t19)]) (by intro ρ h; simp only [List.map_toArray, List.map_cons, List.map_nil, h (.tmp 29) _ rfl, h (.tmp 30) _ rfl]) rfl bld36 rfl ?_
          refine d_one (i := 10) rfl (by kernel_rfl) (o_call (vs := [(.pointer (some ⟨b1, 0, none⟩)), (.int .i64 128)]) (M0 := [cellCh b1 [v2, (.int .i64 r40)] 99]) Tryd.call62 rfl rfl (by intro w m h; exact (w_spec_l20Rd_pick (F := allB [cellCh b1 [v2, (.int .i64 r40)] 99] w) (r_0_b := r_0_b) (r_0_p := r40) (n_1 := 128) allB_ok m.given (m.rdM 1 rfl (reads_snap hv2)) h).mono (fun _ _ k => ret_free (fun r u => (fr_cons free_cell fr_nil)) k)) ?_); rintro ⟨r42, r43⟩ _
          refine d_and (fun w m => m.pick [2, 3] rfl) ?_
          refine pk [0, 1, 2, 3] rfl ?_
          refine re (E' := [(0, (.pointer (some ⟨b1, 0, none⟩))), (1, (.int .i64 n_1)), (5, v11), (6, (.int .i64 t15)), (36, (.int .i64 t21)), (38, (.int .i64 t21)), (40, (.int .i64 t19)), (31, (.agg #[(.int .i64 (w64 (t41 * t21))), (.int .i64 t19)])), (9, (.pointer (some ⟨b38, 0, none⟩))), (33, (.int .i64 r42))]) ⟨rfl, rfl, rfl, rfl, rfl, rfl, rfl, rfl, rfl, rfl, trivial⟩ ?_
          exact H426 r39 r40 t41 b38 r42 r43
        have H430 : ∀ (b38 : Nat), Nx 77 (gB F [cellCh b1 [v2, (.int .i64 r_0_p)] 99] w0) (feet [cellCh b1 [v2, (.int .i64 r_0_p)] 99]) w0 (wpAnyH Tryd.prog .any (opsAt Tryd.f40 [1, 1, 0, 1, 0, 0, 1, 0, 0, 1, 1, 0]) Qd (Mem (gB F [cellCh b1 [v2, (.int .i64 r_0_p)] 99] w0) (feet [cellCh b1 [v2, (.int .i64 r_0_p)] 99]) w0 [snapCh w0 F, ownCh elGRewrite 38 v11 xs12]) 13 #[true, false, false, true, false, true, false, true, false, true, false, false, false, true, false, true, false, true, false, false, true, false]) [(0, (.pointer (some ⟨b1, 0, none⟩))), (1, (.int .i64 n_1)), (5, v11), (6, (.int .i64 t15)), (23, (.pointer (some ⟨b1, 0, none⟩))), (26, (.int .i64 t21)), (28, (.int .i64 t21)), (30, (.int .i64 t19)), (32, (.pointer (some ⟨b1, 0, none⟩))), (36, (.int .i64 t21)), (38, (.int .i64 t21)), (40, (.int .i64 t19)), (9, (.pointer (some ⟨b38, 0, none⟩)))] [cellCh b38 [(.int .i64 0), (.int .i64 0), (.int .i64 0), (.int .i64 0)] 38, cellCh b1 [v2, (.int .i64 r18)] 99, snapCh w0 F, ownCh elGRewrite 38 v11 xs12] (L_spec_l20Rd_pick r_0_b r18 128 (fun (r39, r40) => quoW (w64 (r39 * 256)) t21 (fun t41 => L_spec_l20Rd_pick r_0_b r40 128 (fun (r42, r43) => quoW (w64 ((w64 (128 + r42)) * 256)) t21 (fun t37 => k26 ((w64 (t41 * t21)), (w64 (t37 * t21)), r43)))))) := by
          intro b38
          refine pk [1, 0, 2, 3] rfl ?_
          refine d_one (i := 1) rfl (by kernel_rfl) (o_call (vs := [(.pointer (some ⟨b1, 0, none⟩)), (.int .i64 128)]) (M0 := [cellCh b1 [v2, (.int .i64 r18)] 99]) Tryd.call62 rfl rfl (by intro w m h; exact (w_spec_l20Rd_pick (F := allB [cellCh b1 [v2, (.int .i64 r18)] 99] w) (r_0_b := r_0_b) (r_0_p := r18) (n_1 := 128) allB_ok m.given (m.rdM 1 rfl (reads_snap hv2)) h).mono (fun _ _ k => ret_free (fun r u => (fr_cons free_cell fr_nil)) k)) ?_); rintro ⟨r39, r40⟩ _
          refine d_and (fun w m => m.pick [2, 3] rfl) ?_
          refine pk [0, 1, 2, 3] rfl ?_
          refine re (E' := [(0, (.pointer (some ⟨b1, 0, none⟩))), (1, (.int .i64 n_1)), (5, v11), (6, (.int .i64 t15)), (26, (.int .i64 t21)), (28, (.int .i64 t21)), (30, (.int .i64 t19)), (32, (.pointer (some ⟨b1, 0, none⟩))), (36, (.int .i64 t21)), (38, (.int .i64 t21)), (40, (.int .i64 t19)), (9, (.pointer (some ⟨b38, 0, none⟩))), (24, (.int .i64 r39))]) ⟨rfl, rfl, rfl, rfl, rfl, rfl, rfl, rfl, rfl, rfl, rfl, rfl, rfl, trivial⟩ ?_
          exact H429 b38 r39 r40
        refine o_mv (dt 0 (fun w m => m.pick [1, 2] rfl)) rfl rfl ?_
        refine o_mv (dt 3 (fun w m => m.pick [1, 2] rfl)) rfl rfl ?_
        refine o_mv (dt 5 (fun w m => m.pick [1, 2] rfl)) rfl rfl ?_
        refine o_mv (dt 7 (fun w m => m.pick [1, 2] rfl)) rfl rfl ?_
        refine o_mv (dt 9 (fun w m => m.pick [1, 2] rfl)) rfl rfl ?_
        refine o_mv (dt 13 (fun w m => m.pick [1, 2] rfl)) rfl rfl ?_
        refine o_mv (dt 15 (fun w m => m.pick [1, 2] rfl)) rfl rfl ?_
        refine o_mv (dt 17 (fun w m => m.pick [1, 2] rfl)) rfl rfl ?_
        refine d_two (i := 1) (j := 20) rfl rfl (by kernel_rfl) ?_ ?_
        · intro o ho; cases ho
          refine o_call (vs := [(.pointer (some ⟨b1, 0, none⟩)), (.int .i64 128)]) (M0 := [cellCh b1 [v2, (.int .i64 r18)] 99]) Tryd.call62 rfl rfl (by intro w m h; exact (w_spec_l20Rd_pick (F := allB [cellCh b1 [v2, (.int .i64 r18)] 99] w) (r_0_b := r_0_b) (r_0_p := r18) (n_1 := 128) allB_ok m.given (m.rdM 0 rfl (reads_snap hv2)) h).mono (fun _ _ k => ret_free (fun r u => (fr_cons free_cell fr_nil)) k)) ?_; rintro ⟨r27, r28⟩ _
          refine d_and (fun w m => m.pick [1, 2] rfl) ?_
          refine pk [0, 1, 2] rfl ?_
          refine re (E' := [(0, (.pointer (some ⟨b1, 0, none⟩))), (1, (.int .i64 n_1)), (5, v11), (6, (.int .i64 t15)), (26, (.int .i64 t21)), (28, (.int .i64 t21)), (30, (.int .i64 t19)), (32, (.pointer (some ⟨b1, 0, none⟩))), (36, (.int .i64 t21)), (38, (.int .i64 t21)), (40, (.int .i64 t19)), (24, (.int .i64 r27))]) ⟨rfl, rfl, rfl, rfl, rfl, rfl, rfl, rfl, rfl, rfl, rfl, rfl, trivial⟩ ?_
          exact H428 r27 r28
        · intro o ho; cases ho
          refine o_alloc rfl [(.int .i64 0), (.int .i64 0), (.int .i64 0), (.int .i64 0)] zero38 ?_; intro b38
          refine d_and (fun w m => m.pick [2, 3] rfl) ?_
          refine pk [0, 1, 2, 3] rfl ?_
          refine re (E' := [(0, (.pointer (some ⟨b1, 0, none⟩))), (1, (.int .i64 n_1)), (5, v11), (6, (.int .i64 t15)), (23, (.pointer (some ⟨b1, 0, none⟩))), (26, (.int .i64 t21)), (28, (.int .i64 t21)), (30, (.int .i64 t19)), (32, (.pointer (some ⟨b1, 0, none⟩))), (36, (.int .i64 t21)), (38, (.int .i64 t21)), (40, (.int .i64 t19)), (9, (.pointer (some ⟨b38, 0, none⟩)))]) ⟨rfl, rfl, rfl, rfl, rfl, rfl, rfl, rfl, rfl, rfl, rfl, rfl, rfl, trivial⟩ ?_
          exact H430 b38
      · rintro ⟨t23, t24, t25⟩ a w ⟨b22, hE, hm⟩ h
        refine nx_of hE hm h ?_
        clear hE hm h
        refine c_join (σ := Bool) (fun (t44 : Bool) (a : Act) (w : World) => Has 77 [(0, (.pointer (some ⟨b1, 0, none⟩))), (1, (.int .i64 n_1)), (5, v11), (6, (.int .i64 t15)), (9, (.pointer (some ⟨b22, 0, none⟩))), (49, (.bool t44))] a ∧ Mem (gB F [cellCh b1 [v2, (.int .i64 r_0_p)] 99] w0) (feet [cellCh b1 [v2, (.int .i64 r_0_p)] 99]) w0 [cellCh b22 [(.int .i64 t23), (.int .i64 t19), (.int .i64 t24), (.int .i64 t19)] 38, cellCh b1 [v2, (.int .i64 t25)] 99, ownCh elGRewrite 38 v11 xs12, snapCh w0 F] w) ?_ ?_
        · intro k45
          refine c_drawQ mixed 7 rfl [cellCh b22 [(.int .i64 t23), (.int .i64 t19), (.int .i64 t24), (.int .i64 t19)] 38, cellCh b1 [v2, (.int .i64 t25)] 99, ownCh elGRewrite 38 v11 xs12, snapCh w0 F] ?_
          intro Qd hP hQ
          have H432 : ∀ (v46 : Value) (v47 : Value) (v49 : Value) (v50 : Value) (r52 : Bool), Nx 77 (gB F [cellCh b1 [v2, (.int .i64 r_0_p)] 99] w0) (feet [cellCh b1 [v2, (.int .i64 r_0_p)] 99]) w0 (wpAnyH Tryd.prog .any (opsAt Tryd.f40 [1, 1, 0, 1, 0, 0, 1, 0, 0, 1, 1, 1, 0]) Qd (Mem (gB F [cellCh b1 [v2, (.int .i64 r_0_p)] 99] w0) (feet [cellCh b1 [v2, (.int .i64 r_0_p)] 99]) w0 [cellCh b22 [(.int .i64 t23), (.int .i64 t19), (.int .i64 t24), (.int .i64 t19)] 38, cellCh b1 [v2, (.int .i64 t25)] 99, ownCh elGRewrite 38 v11 xs12, snapCh w0 F]) 0 #[true, true, true, true, true, true, true]) [(0, (.pointer (some ⟨b1, 0, none⟩))), (1, (.int .i64 n_1)), (5, v11), (6, (.int .i64 t15)), (9, (.pointer (some ⟨b22, 0, none⟩))), (49, (.bool r52))] [cellCh b22 [(.int .i64 t23), (.int .i64 t19), (.int .i64 t24), (.int .i64 t19)] 38, cellCh b1 [v2, (.int .i64 t25)] 99, ownCh elGRewrite 38 v11 xs12, snapCh w0 F] (k45 r52) := by
            intro v46 v47 v49 v50 r52
            refine d_done (by kernel_rfl) ?_
            exact fun a w hE hm hφ => hQ r52 a w hφ ((fun a w hE hm => ⟨hE.sub ⟨rfl, rfl, rfl, rfl, rfl, rfl, trivial⟩, (hm.pick [0, 1, 2, 3] rfl)⟩) a w hE hm)
          have H433 : ∀ (v46 : Value) (v47 : Value) (v49 : Value) (v50 : Value), Nx 77 (gB F [cellCh b1 [v2, (.int .i64 r_0_p)] 99] w0) (feet [cellCh b1 [v2, (.int .i64 r_0_p)] 99]) w0 (wpAnyH Tryd.prog .any (opsAt Tryd.f40 [1, 1, 0, 1, 0, 0, 1, 0, 0, 1, 1, 1, 0]) Qd (Mem (gB F [cellCh b1 [v2, (.int .i64 r_0_p)] 99] w0) (feet [cellCh b1 [v2, (.int .i64 r_0_p)] 99]) w0 [cellCh b22 [(.int .i64 t23), (.int .i64 t19), (.int .i64 t24), (.int .i64 t19)] 38, cellCh b1 [v2, (.int .i64 t25)] 99, ownCh elGRewrite 38 v11 xs12, snapCh w0 F]) 1 #[true, true, true, true, true, true, false]) [(0, (.pointer (some ⟨b1, 0, none⟩))), (1, (.int .i64 n_1)), (5, v11), (6, (.int .i64 t15)), (9, (.pointer (some ⟨b22, 0, none⟩))), (48, v50)] [ownCh elGRewrite 38 v50 ((([]) ++ xs12) ++ ([(GRewrite.mk (GPrefix.mk t23 t19) (GPrefix.mk t24 t19))])), cellCh b22 [(.int .i64 t23), (.int .i64 t19), (.int .i64 t24), (.int .i64 t19)] 38, cellCh b1 [v2, (.int .i64 t25)] 99, ownCh elGRewrite 38 v11 xs12, snapCh w0 F] (L_spec_RewritesValid ((([]) ++ xs12) ++ ([(GRewrite.mk (GPrefix.mk t23 t19) (GPrefix.mk t24 t19))])) (fun r52 => k45 r52)) := by
            intro v46 v47 v49 v50
            refine d_one (i := 6) rfl (by kernel_rfl) (o_callP (vs := [v50]) Tryd.call24 rfl rfl (by intro w m h; exact (w_spec_RewritesValid (F := allB [] w) (list_0 := ((([]) ++ xs12) ++ ([(GRewrite.mk (GPrefix.mk t23 t19) (GPrefix.mk t24 t19))]))) allB_ok (m.rd0 0 rfl reads_own) h).mono (fun _ _ k => ret_free (fun r u => fr_nil) k)) ?_); rintro r52 _
            refine d_and (fun w m => m.pick [1, 2, 3, 4] rfl) ?_
            refine pk [1, 2, 3, 4] rfl ?_
            refine re (E' := [(0, (.pointer (some ⟨b1, 0, none⟩))), (1, (.int .i64 n_1)), (5, v11), (6, (.int .i64 t15)), (9, (.pointer (some ⟨b22, 0, none⟩))), (49, (.bool r52))]) ⟨rfl, rfl, rfl, rfl, rfl, rfl, trivial⟩ ?_
            exact H432 v46 v47 v49 v50 r52
          have H434 : ∀ (v46 : Value) (v47 : Value) (v49 : Value), Nx 77 (gB F [cellCh b1 [v2, (.int .i64 r_0_p)] 99] w0) (feet [cellCh b1 [v2, (.int .i64 r_0_p)] 99]) w0 (wpAnyH Tryd.prog .any (opsAt Tryd.f40 [1, 1, 0, 1, 0, 0, 1, 0, 0, 1, 1, 1, 0]) Qd (Mem (gB F [cellCh b1 [v2, (.int .i64 r_0_p)] 99] w0) (feet [cellCh b1 [v2, (.int .i64 r_0_p)] 99]) w0 [cellCh b22 [(.int .i64 t23), (.int .i64 t19), (.int .i64 t24), (.int .i64 t19)] 38, cellCh b1 [v2, (.int .i64 t25)] 99, ownCh elGRewrite 38 v11 xs12, snapCh w0 F]) 2 #[true, true, true, true, true, false, false]) [(0, (.pointer (some ⟨b1, 0, none⟩))), (1, (.int .i64 n_1)), (5, v11), (6, (.int .i64 t15)), (9, (.pointer (some ⟨b22, 0, none⟩))), (45, v47), (47, v49)] [ownCh elGRewrite 38 v49 ([(GRewrite.mk (GPrefix.mk t23 t19) (GPrefix.mk t24 t19))]), ownCh elGRewrite 38 v47 (([]) ++ xs12), cellCh b22 [(.int .i64 t23), (.int .i64 t19), (.int .i64 t24), (.int .i64 t19)] 38, cellCh b1 [v2, (.int .i64 t25)] 99, ownCh elGRewrite 38 v11 xs12, snapCh w0 F] (appW (([]) ++ xs12) ([(GRewrite.mk (GPrefix.mk t23 t19) (GPrefix.mk t24 t19))]) (fun _ => L_spec_RewritesValid ((([]) ++ xs12) ++ ([(GRewrite.mk (GPrefix.mk t23 t19) (GPrefix.mk t24 t19))])) (fun r52 => k45 r52))) := by
            intro v46 v47 v49
            refine d_one (i := 5) rfl (by kernel_rfl) (o_app 1 0 rfl rfl (src_flat flelGRewrite reads_own) rfl rfl rfl el28 rfl zero38 rfl rfl ?_); intro v50
            refine d_and (fun w m => m.pick [2, 3, 4, 5] rfl) ?_
            refine pk [1, 2, 3, 4, 5] rfl ?_
            refine re (E' := [(0, (.pointer (some ⟨b1, 0, none⟩))), (1, (.int .i64 n_1)), (5, v11), (6, (.int .i64 t15)), (9, (.pointer (some ⟨b22, 0, none⟩))), (48, v50)]) ⟨rfl, rfl, rfl, rfl, rfl, rfl, trivial⟩ ?_
            exact H433 v46 v47 v49 v50
          have H435 : ∀ (v46 : Value) (v47 : Value), Nx 77 (gB F [cellCh b1 [v2, (.int .i64 r_0_p)] 99] w0) (feet [cellCh b1 [v2, (.int .i64 r_0_p)] 99]) w0 (wpAnyH Tryd.prog .any (opsAt Tryd.f40 [1, 1, 0, 1, 0, 0, 1, 0, 0, 1, 1, 1, 0]) Qd (Mem (gB F [cellCh b1 [v2, (.int .i64 r_0_p)] 99] w0) (feet [cellCh b1 [v2, (.int .i64 r_0_p)] 99]) w0 [cellCh b22 [(.int .i64 t23), (.int .i64 t19), (.int .i64 t24), (.int .i64 t19)] 38, cellCh b1 [v2, (.int .i64 t25)] 99, ownCh elGRewrite 38 v11 xs12, snapCh w0 F]) 3 #[true, true, true, true, false, false, false]) [(0, (.pointer (some ⟨b1, 0, none⟩))), (1, (.int .i64 n_1)), (5, v11), (6, (.int .i64 t15)), (9, (.pointer (some ⟨b22, 0, none⟩))), (46, (.agg #[(.int .i64 t23), (.int .i64 t19), (.int .i64 t24), (.int .i64 t19)])), (45, v47)] [ownCh elGRewrite 38 v47 (([]) ++ xs12), cellCh b22 [(.int .i64 t23), (.int .i64 t19), (.int .i64 t24), (.int .i64 t19)] 38, cellCh b1 [v2, (.int .i64 t25)] 99, ownCh elGRewrite 38 v11 xs12, snapCh w0 F] (appW (([]) ++ xs12) ([(GRewrite.mk (GPrefix.mk t23 t19) (GPrefix.mk t24 t19))]) (fun _ => L_spec_RewritesValid ((([]) ++ xs12) ++ ([(GRewrite.mk (GPrefix.mk t23 t19) (GPrefix.mk t24 t19))])) (fun r52 => k45 r52))) := by
            intro v46 v47
            refine d_one (i := 4) rfl (by kernel_rfl) (o_bsl (enc := encGRewrite) (qs := [(0, (.agg #[(.int .i64 t23), (.int .i64 t19), (.int .i64 t24), (.int .i64 t19)]))]) (cells := [(.int .i64 t23), (.int .i64 t19), (.int .i64 t24), (.int .i64 t19)]) ([(GRewrite.mk (GPrefix.mk t23 t19) (GPrefix.mk t24 t19))]) flelGRewrite (by intro ρ h; simp only [List.map_toArray, List.map_cons, List.map_nil, h (.tmp 46) _ rfl]) rfl el28 zero38 rfl rfl rfl rfl rfl rfl ?_); intro v49
            refine d_and (fun w m => m.pick [2, 3, 4, 5] rfl) ?_
            refine pk [0, 1, 2, 3, 4, 5] rfl ?_
            refine re (E' := [(0, (.pointer (some ⟨b1, 0, none⟩))), (1, (.int .i64 n_1)), (5, v11), (6, (.int .i64 t15)), (9, (.pointer (some ⟨b22, 0, none⟩))), (45, v47), (47, v49)]) ⟨rfl, rfl, rfl, rfl, rfl, rfl, rfl, trivial⟩ ?_
            exact H434 v46 v47 v49
          have H436 : ∀ (v46 : Value) (v53 : Value), Nx 77 (gB F [cellCh b1 [v2, (.int .i64 r_0_p)] 99] w0) (feet [cellCh b1 [v2, (.int .i64 r_0_p)] 99]) w0 (wpAnyH Tryd.prog .any (opsAt Tryd.f40 [1, 1, 0, 1, 0, 0, 1, 0, 0, 1, 1, 1, 0]) Qd (Mem (gB F [cellCh b1 [v2, (.int .i64 r_0_p)] 99] w0) (feet [cellCh b1 [v2, (.int .i64 r_0_p)] 99]) w0 [cellCh b22 [(.int .i64 t23), (.int .i64 t19), (.int .i64 t24), (.int .i64 t19)] 38, cellCh b1 [v2, (.int .i64 t25)] 99, ownCh elGRewrite 38 v11 xs12, snapCh w0 F]) 3 #[true, true, false, true, true, false, false]) [(0, (.pointer (some ⟨b1, 0, none⟩))), (1, (.int .i64 n_1)), (5, v11), (6, (.int .i64 t15)), (9, (.pointer (some ⟨b22, 0, none⟩))), (44, v11), (43, v46), (47, v53)] [ownCh elGRewrite 38 v53 ([(GRewrite.mk (GPrefix.mk t23 t19) (GPrefix.mk t24 t19))]), ownCh elGRewrite 38 v46 ([]), cellCh b22 [(.int .i64 t23), (.int .i64 t19), (.int .i64 t24), (.int .i64 t19)] 38, cellCh b1 [v2, (.int .i64 t25)] 99, ownCh elGRewrite 38 v11 xs12, snapCh w0 F] (appW ([]) xs12 (fun _ => appW (([]) ++ xs12) ([(GRewrite.mk (GPrefix.mk t23 t19) (GPrefix.mk t24 t19))]) (fun _ => L_spec_RewritesValid ((([]) ++ xs12) ++ ([(GRewrite.mk (GPrefix.mk t23 t19) (GPrefix.mk t24 t19))])) (fun r52 => k45 r52)))) := by
            intro v46 v53
            refine d_one (i := 2) rfl (by kernel_rfl) (o_app 1 4 rfl rfl (src_flat flelGRewrite reads_own) rfl rfl rfl el28 rfl zero38 rfl rfl ?_); intro v54
            refine d_and (fun w m => m.pick [2, 3, 4, 5] rfl) ?_
            refine pk [0, 1, 2, 3, 4, 5] rfl ?_
            refine re (E' := [(0, (.pointer (some ⟨b1, 0, none⟩))), (1, (.int .i64 n_1)), (5, v11), (6, (.int .i64 t15)), (9, (.pointer (some ⟨b22, 0, none⟩))), (45, v54), (47, v53)]) ⟨rfl, rfl, rfl, rfl, rfl, rfl, rfl, trivial⟩ ?_
            exact H434 v46 v54 v53
          have H437 : ∀ (v46 : Value), Nx 77 (gB F [cellCh b1 [v2, (.int .i64 r_0_p)] 99] w0) (feet [cellCh b1 [v2, (.int .i64 r_0_p)] 99]) w0 (wpAnyH Tryd.prog .any (opsAt Tryd.f40 [1, 1, 0, 1, 0, 0, 1, 0, 0, 1, 1, 1, 0]) Qd (Mem (gB F [cellCh b1 [v2, (.int .i64 r_0_p)] 99] w0) (feet [cellCh b1 [v2, (.int .i64 r_0_p)] 99]) w0 [cellCh b22 [(.int .i64 t23), (.int .i64 t19), (.int .i64 t24), (.int .i64 t19)] 38, cellCh b1 [v2, (.int .i64 t25)] 99, ownCh elGRewrite 38 v11 xs12, snapCh w0 F]) 4 #[true, true, false, true, false, false, false]) [(0, (.pointer (some ⟨b1, 0, none⟩))), (1, (.int .i64 n_1)), (5, v11), (6, (.int .i64 t15)), (9, (.pointer (some ⟨b22, 0, none⟩))), (44, v11), (46, (.agg #[(.int .i64 t23), (.int .i64 t19), (.int .i64 t24), (.int .i64 t19)])), (43, v46)] [ownCh elGRewrite 38 v46 ([]), cellCh b22 [(.int .i64 t23), (.int .i64 t19), (.int .i64 t24), (.int .i64 t19)] 38, cellCh b1 [v2, (.int .i64 t25)] 99, ownCh elGRewrite 38 v11 xs12, snapCh w0 F] (appW ([]) xs12 (fun _ => appW (([]) ++ xs12) ([(GRewrite.mk (GPrefix.mk t23 t19) (GPrefix.mk t24 t19))]) (fun _ => L_spec_RewritesValid ((([]) ++ xs12) ++ ([(GRewrite.mk (GPrefix.mk t23 t19) (GPrefix.mk t24 t19))])) (fun r52 => k45 r52)))) := by
            intro v46
            refine d_two (i := 2) (j := 4) rfl rfl (by kernel_rfl) ?_ ?_
            · intro o ho; cases ho
              refine o_app 0 3 rfl rfl (src_flat flelGRewrite reads_own) rfl rfl rfl el28 rfl zero38 rfl rfl ?_; intro v47
              refine d_and (fun w m => m.pick [1, 2, 3, 4] rfl) ?_
              refine pk [0, 1, 2, 3, 4] rfl ?_
              refine re (E' := [(0, (.pointer (some ⟨b1, 0, none⟩))), (1, (.int .i64 n_1)), (5, v11), (6, (.int .i64 t15)), (9, (.pointer (some ⟨b22, 0, none⟩))), (46, (.agg #[(.int .i64 t23), (.int .i64 t19), (.int .i64 t24), (.int .i64 t19)])), (45, v47)]) ⟨rfl, rfl, rfl, rfl, rfl, rfl, rfl, trivial⟩ ?_
              exact H435 v46 v47
            · intro o ho; cases ho
              refine o_bsl (enc := encGRewrite) (qs := [(0, (.agg #[(.int .i64 t23), (.int .i64 t19), (.int .i64 t24), (.int .i64 t19)]))]) (cells := [(.int .i64 t23), (.int .i64 t19), (.int .i64 t24), (.int .i64 t19)]) ([(GRewrite.mk (GPrefix.mk t23 t19) (GPrefix.mk t24 t19))]) flelGRewrite (by intro ρ h; simp only [List.map_toArray, List.map_cons, List.map_nil, h (.tmp 46) _ rfl]) rfl el28 zero38 rfl rfl rfl rfl rfl rfl ?_; intro v53
              refine d_and (fun w m => m.pick [2, 3, 4, 5] rfl) ?_
              refine pk [0, 1, 2, 3, 4, 5] rfl ?_
              refine re (E' := [(0, (.pointer (some ⟨b1, 0, none⟩))), (1, (.int .i64 n_1)), (5, v11), (6, (.int .i64 t15)), (9, (.pointer (some ⟨b22, 0, none⟩))), (44, v11), (43, v46), (47, v53)]) ⟨rfl, rfl, rfl, rfl, rfl, rfl, rfl, rfl, trivial⟩ ?_
              exact H436 v46 v53
          have H438 : ∀ (v56 : Value), Nx 77 (gB F [cellCh b1 [v2, (.int .i64 r_0_p)] 99] w0) (feet [cellCh b1 [v2, (.int .i64 r_0_p)] 99]) w0 (wpAnyH Tryd.prog .any (opsAt Tryd.f40 [1, 1, 0, 1, 0, 0, 1, 0, 0, 1, 1, 1, 0]) Qd (Mem (gB F [cellCh b1 [v2, (.int .i64 r_0_p)] 99] w0) (feet [cellCh b1 [v2, (.int .i64 r_0_p)] 99]) w0 [cellCh b22 [(.int .i64 t23), (.int .i64 t19), (.int .i64 t24), (.int .i64 t19)] 38, cellCh b1 [v2, (.int .i64 t25)] 99, ownCh elGRewrite 38 v11 xs12, snapCh w0 F]) 4 #[false, true, false, true, true, false, false]) [(0, (.pointer (some ⟨b1, 0, none⟩))), (1, (.int .i64 n_1)), (5, v11), (6, (.int .i64 t15)), (9, (.pointer (some ⟨b22, 0, none⟩))), (44, v11), (47, v56)] [ownCh elGRewrite 38 v56 ([(GRewrite.mk (GPrefix.mk t23 t19) (GPrefix.mk t24 t19))]), cellCh b22 [(.int .i64 t23), (.int .i64 t19), (.int .i64 t24), (.int .i64 t19)] 38, cellCh b1 [v2, (.int .i64 t25)] 99, ownCh elGRewrite 38 v11 xs12, snapCh w0 F] (appW ([]) xs12 (fun _ => appW (([]) ++ xs12) ([(GRewrite.mk (GPrefix.mk t23 t19) (GPrefix.mk t24 t19))]) (fun _ => L_spec_RewritesValid ((([]) ++ xs12) ++ ([(GRewrite.mk (GPrefix.mk t23 t19) (GPrefix.mk t24 t19))])) (fun r52 => k45 r52)))) := by
            intro v56
            refine d_one (i := 0) rfl (by kernel_rfl) (o_bsl (enc := encGRewrite) (qs := []) (cells := []) ([] : (List GRewrite)) flelGRewrite (by intro ρ h; simp only [List.map_toArray, List.map_cons, List.map_nil]) rfl el28 zero38 rfl rfl rfl rfl rfl rfl ?_); intro v57
            refine d_and (fun w m => m.pick [2, 3, 4, 5] rfl) ?_
            refine pk [1, 0, 2, 3, 4, 5] rfl ?_
            refine re (E' := [(0, (.pointer (some ⟨b1, 0, none⟩))), (1, (.int .i64 n_1)), (5, v11), (6, (.int .i64 t15)), (9, (.pointer (some ⟨b22, 0, none⟩))), (44, v11), (43, v57), (47, v56)]) ⟨rfl, rfl, rfl, rfl, rfl, rfl, rfl, rfl, trivial⟩ ?_
            exact H436 v57 v56
          refine o_mv (dt 1 (fun _ m => m)) rfl rfl ?_
          refine o_ldc (dt 3 (fun _ m => m)) (v := (.agg #[(.int .i64 t23), (.int .i64 t19), (.int .i64 t24), (.int .i64 t19)])) 0 rfl rfl rfl ty38 rfl ?_
          refine d_two (i := 0) (j := 4) rfl rfl (by kernel_rfl) ?_ ?_
          · intro o ho; cases ho
            refine o_bsl (enc := encGRewrite) (qs := []) (cells := []) ([] : (List GRewrite)) flelGRewrite (by intro ρ h; simp only [List.map_toArray, List.map_cons, List.map_nil]) rfl el28 zero38 rfl rfl rfl rfl rfl rfl ?_; intro v46
            refine d_and (fun w m => m.pick [1, 2, 3, 4] rfl) ?_
            refine pk [0, 1, 2, 3, 4] rfl ?_
            refine re (E' := [(0, (.pointer (some ⟨b1, 0, none⟩))), (1, (.int .i64 n_1)), (5, v11), (6, (.int .i64 t15)), (9, (.pointer (some ⟨b22, 0, none⟩))), (44, v11), (46, (.agg #[(.int .i64 t23), (.int .i64 t19), (.int .i64 t24), (.int .i64 t19)])), (43, v46)]) ⟨rfl, rfl, rfl, rfl, rfl, rfl, rfl, rfl, trivial⟩ ?_
            exact H437 v46
          · intro o ho; cases ho
            refine o_bsl (enc := encGRewrite) (qs := [(0, (.agg #[(.int .i64 t23), (.int .i64 t19), (.int .i64 t24), (.int .i64 t19)]))]) (cells := [(.int .i64 t23), (.int .i64 t19), (.int .i64 t24), (.int .i64 t19)]) ([(GRewrite.mk (GPrefix.mk t23 t19) (GPrefix.mk t24 t19))]) flelGRewrite (by intro ρ h; simp only [List.map_toArray, List.map_cons, List.map_nil, h (.tmp 46) _ rfl]) rfl el28 zero38 rfl rfl rfl rfl rfl rfl ?_; intro v56
            refine d_and (fun w m => m.pick [1, 2, 3, 4] rfl) ?_
            refine pk [0, 1, 2, 3, 4] rfl ?_
            refine re (E' := [(0, (.pointer (some ⟨b1, 0, none⟩))), (1, (.int .i64 n_1)), (5, v11), (6, (.int .i64 t15)), (9, (.pointer (some ⟨b22, 0, none⟩))), (44, v11), (47, v56)]) ⟨rfl, rfl, rfl, rfl, rfl, rfl, rfl, trivial⟩ ?_
            exact H438 v56
        · rintro t44 a w ⟨hE, hm⟩ h
          refine nx_of hE hm h ?_
          clear hE hm h
          refine c_cond rfl ?_ ?_
          · refine c_region ?_
            refine o_mv st rfl rfl ?_
            refine o_ldc st (v := (.agg #[(.int .i64 t23), (.int .i64 t19), (.int .i64 t24), (.int .i64 t19)])) 0 rfl rfl rfl ty38 rfl ?_
            refine stw (o_bsl (enc := encGRewrite) (qs := [(0, (.agg #[(.int .i64 t23), (.int .i64 t19), (.int .i64 t24), (.int .i64 t19)]))]) (cells := [(.int .i64 t23), (.int .i64 t19), (.int .i64 t24), (.int .i64 t19)]) ([(GRewrite.mk (GPrefix.mk t23 t19) (GPrefix.mk t24 t19))]) flelGRewrite (by intro ρ h; simp only [List.map_toArray, List.map_cons, List.map_nil, h (.tmp 51) _ rfl]) rfl el28 zero38 rfl rfl rfl rfl rfl rfl ?_); intro v58
            refine stw (o_app 3 0 rfl rfl (src_flat flelGRewrite reads_own) rfl rfl rfl el28 rfl zero38 rfl rfl ?_); intro v60
            refine o_as st rfl rfl ?_
            refine c_nil ?_
            refine b_norm ?_
            exact l_join ((xs12 ++ ([(GRewrite.mk (GPrefix.mk t23 t19) (GPrefix.mk t24 t19))])), t25) (fun a w hE hm => ⟨v60, hE.sub ⟨rfl, rfl, rfl, rfl, trivial⟩, (hm.pick [2, 3, 4] rfl)⟩)
          · refine c_skip ?_
            refine b_norm ?_
            exact l_join (xs12, t25) (fun a w hE hm => ⟨v11, hE.sub ⟨rfl, rfl, rfl, rfl, trivial⟩, (hm.pick [1, 2, 3] rfl)⟩)
    · rintro ⟨xs122, t125⟩ a w ⟨v123, hE, hm⟩ h
      refine nx_of hE hm h ?_
      clear hE hm h
      refine c_region ?_
      refine o_mv st rfl rfl ?_
      refine o_sub st rfl rfl rfl ?_; intro t127
      refine o_as st rfl rfl ?_
      refine c_nil ?_
      exact l_join (t125, xs122, t127) (fun a w hE hm => ⟨v123, hE.sub ⟨rfl, rfl, rfl, rfl, trivial⟩, (hm.pick [0, 2, 1] rfl)⟩)
  · refine c_exit ?_
    refine l_exit ?_
    refine l_exit ?_
    refine b_exit ?_
    refine l_then ?_
    refine c_join (σ := (Int × (List GRewrite))) (fun ((t203, xs205) : (Int × (List GRewrite))) (a : Act) (w : World) => ∃ (v204 : Value), Has 77 [(5, v204)] a ∧ Mem (gB F [cellCh b1 [v2, (.int .i64 r_0_p)] 99] w0) (feet [cellCh b1 [v2, (.int .i64 r_0_p)] 99]) w0 [cellCh b1 [v2, (.int .i64 t203)] 99, snapCh w0 F, ownCh elGRewrite 38 v204 xs205] w) ?_ ?_
    · intro k208
      refine c_seq ?_
      refine c_region ?_
      refine o_mv st rfl rfl ?_
      refine o_mv st rfl rfl ?_
      refine stw (o_call (vs := [(.pointer (some ⟨b1, 0, none⟩)), (.int .i64 n_1)]) (M0 := [cellCh b1 [v2, (.int .i64 t10)] 99]) Tryd.call63 rfl rfl (by intro w m h; exact (w_spec_l20Rd_odd (F := allB [cellCh b1 [v2, (.int .i64 t10)] 99] w) (r_0_b := r_0_b) (r_0_p := t10) (n_1 := n_1) allB_ok m.given (m.rdM 0 rfl (reads_snap hv2)) h).mono (fun _ _ k => ret_free (fun r u => (fr_cons free_cell fr_nil)) k)) ?_); rintro ⟨r128, r129⟩ _
      refine c_nil ?_
      refine l_then ?_
      refine c_cond rfl ?_ ?_
      · refine c_seq ?_
        refine c_region ?_
        refine o_mv st rfl rfl ?_
        refine stw (o_call (vs := [(.pointer (some ⟨b1, 0, none⟩)), (.int .i64 3)]) (M0 := [cellCh b1 [v2, (.int .i64 r129)] 99]) Tryd.call62 rfl rfl (by intro w m h; exact (w_spec_l20Rd_pick (F := allB [cellCh b1 [v2, (.int .i64 r129)] 99] w) (r_0_b := r_0_b) (r_0_p := r129) (n_1 := 3) allB_ok m.given (m.rdM 0 rfl (reads_snap hv2)) h).mono (fun _ _ k => ret_free (fun r u => (fr_cons free_cell fr_nil)) k)) ?_); rintro ⟨r130, r131⟩ _
        refine c_nil ?_
        refine l_then ?_
        refine c_block ?_
        refine c_seq ?_
        refine c_region ?_
        refine o_eql st und3 rfl rfl rfl ?_
        refine o_as st rfl rfl ?_
        refine c_nil ?_
        refine l_then ?_
        refine c_cond rfl ?_ ?_
        · refine c_region ?_
          refine o_mv st rfl rfl ?_
          refine o_bld st (qs := [(1, (.int .i64 8))]) (cells := [(.int .i64 0), (.int .i64 8)]) (by intro ρ h; simp only [List.map_toArray, List.map_cons, List.map_nil, h (.const (.int .i64 8)) _ rfl]) rfl bld36 rfl ?_
          refine o_bld st (qs := [(0, (.int .i64 19712)), (1, (.int .i64 9))]) (cells := [(.int .i64 19712), (.int .i64 9)]) (by intro ρ h; simp only [List.map_toArray, List.map_cons, List.map_nil, h (.const (.int .i64 19712)) _ rfl, h (.const (.int .i64 9)) _ rfl]) rfl bld36 rfl ?_
          refine o_bld st (qs := [(0, (.agg #[(.int .i64 0), (.int .i64 8)])), (1, (.agg #[(.int .i64 19712), (.int .i64 9)]))]) (cells := [(.int .i64 0), (.int .i64 8), (.int .i64 19712), (.int .i64 9)]) (by intro ρ h; simp only [List.map_toArray, List.map_cons, List.map_nil, h (.tmp 63) _ rfl, h (.tmp 64) _ rfl]) rfl bld38 rfl ?_
          refine stw (o_bsl (enc := encGRewrite) (qs := [(0, (.agg #[(.int .i64 0), (.int .i64 8), (.int .i64 19712), (.int .i64 9)]))]) (cells := [(.int .i64 0), (.int .i64 8), (.int .i64 19712), (.int .i64 9)]) ([(GRewrite.mk (GPrefix.mk 0 8) (GPrefix.mk 19712 9))]) flelGRewrite (by intro ρ h; simp only [List.map_toArray, List.map_cons, List.map_nil, h (.tmp 65) _ rfl]) rfl el28 zero38 rfl rfl rfl rfl rfl rfl ?_); intro v132
          refine stw (o_app 3 0 rfl rfl (src_flat flelGRewrite reads_own) rfl rfl rfl el28 rfl zero38 rfl rfl ?_); intro v134
          refine o_as st rfl rfl ?_
          refine c_nil ?_
          refine b_norm ?_
          exact l_join (r131, (xs12 ++ ([(GRewrite.mk (GPrefix.mk 0 8) (GPrefix.mk 19712 9))]))) (fun a w hE hm => ⟨v134, hE.sub ⟨rfl, trivial⟩, (hm.pick [1, 2, 3] rfl)⟩)
        · refine c_seq ?_
          refine c_region ?_
          refine o_eql st und3 rfl rfl rfl ?_
          refine o_as st rfl rfl ?_
          refine c_nil ?_
          refine l_then ?_
          refine c_cond rfl ?_ ?_
          · refine c_region ?_
            refine o_mv st rfl rfl ?_
            refine o_bld st (qs := [(0, (.int .i64 2304)), (1, (.int .i64 8))]) (cells := [(.int .i64 2304), (.int .i64 8)]) (by intro ρ h; simp only [List.map_toArray, List.map_cons, List.map_nil, h (.const (.int .i64 2304)) _ rfl, h (.const (.int .i64 8)) _ rfl]) rfl bld36 rfl ?_
            refine o_bld st (qs := [(0, (.int .i64 2304)), (1, (.int .i64 8))]) (cells := [(.int .i64 2304), (.int .i64 8)]) (by intro ρ h; simp only [List.map_toArray, List.map_cons, List.map_nil, h (.const (.int .i64 2304)) _ rfl, h (.const (.int .i64 8)) _ rfl]) rfl bld36 rfl ?_
            refine o_bld st (qs := [(0, (.agg #[(.int .i64 2304), (.int .i64 8)])), (1, (.agg #[(.int .i64 2304), (.int .i64 8)]))]) (cells := [(.int .i64 2304), (.int .i64 8), (.int .i64 2304), (.int .i64 8)]) (by intro ρ h; simp only [List.map_toArray, List.map_cons, List.map_nil, h (.tmp 71) _ rfl, h (.tmp 72) _ rfl]) rfl bld38 rfl ?_
            refine stw (o_bsl (enc := encGRewrite) (qs := [(0, (.agg #[(.int .i64 2304), (.int .i64 8), (.int .i64 2304), (.int .i64 8)]))]) (cells := [(.int .i64 2304), (.int .i64 8), (.int .i64 2304), (.int .i64 8)]) ([(GRewrite.mk (GPrefix.mk 2304 8) (GPrefix.mk 2304 8))]) flelGRewrite (by intro ρ h; simp only [List.map_toArray, List.map_cons, List.map_nil, h (.tmp 73) _ rfl]) rfl el28 zero38 rfl rfl rfl rfl rfl rfl ?_); intro v136
            refine stw (o_app 3 0 rfl rfl (src_flat flelGRewrite reads_own) rfl rfl rfl el28 rfl zero38 rfl rfl ?_); intro v138
            refine o_as st rfl rfl ?_
            refine c_nil ?_
            refine b_norm ?_
            exact l_join (r131, (xs12 ++ ([(GRewrite.mk (GPrefix.mk 2304 8) (GPrefix.mk 2304 8))]))) (fun a w hE hm => ⟨v138, hE.sub ⟨rfl, trivial⟩, (hm.pick [1, 2, 3] rfl)⟩)
          · refine c_region ?_
            refine stw (o_make (z := (GRewrite.mk (GPrefix.mk 0 0) (GPrefix.mk 0 0))) flelGRewrite rfl rfl rfl el28 rfl zero38 rfl rfl ?_); intro v140 xs141
            refine o_as st rfl rfl ?_
            refine c_nil ?_
            refine b_norm ?_
            exact l_join (r131, xs141) (fun a w hE hm => ⟨v140, hE.sub ⟨rfl, trivial⟩, (hm.pick [1, 2, 0] rfl)⟩)
      · refine c_skip ?_
        exact l_join (r129, xs12) (fun a w hE hm => ⟨v11, hE.sub ⟨rfl, trivial⟩, (hm.pick [0, 1, 2] rfl)⟩)
    · rintro ⟨t203, xs205⟩ a w ⟨v204, hE, hm⟩ h
      refine nx_of hE hm h ?_
      clear hE hm h
      refine c_seq ?_
      refine c_region ?_
      refine o_mv st rfl rfl ?_
      refine o_as st rfl rfl ?_
      refine c_nil ?_
      refine l_then ?_
      refine c_ret ?_
      exact l_end1 Tryd.results40 (xs205, t203) v204 (rv_t rfl) (fun w m => NewCh.ofB m [2, 0] rfl)

set_option maxRecDepth 100000 in
set_option maxHeartbeats 8000000 in
theorem w_impl_SpansHave {w0 : World} {F : Nat → Prop} {v1 : Value} {list_0 : (List GSpan)} {n_1 : Int} {κ : Bool → Prop} (hF : ∀ b, F b → b < w0.heap.size ∧ ¬ feet [] b) (hv1 : Sl elGSpan F w0 v1 list_0) (h : L_impl_SpansHave list_0 n_1 κ) :
    Calls Tryd.prog 26 #[v1, (.int .i64 n_1)] w0 (Ret [] F w0 κ (fun (r : Bool) (u : Unit) => (.bool r)) (fun (r : Bool) (u : Unit) => [])) := by
  refine enterS (args := [v1, (.int .i64 n_1)]) [] hF (Given.nil _ _) Tryd.func26 rfl Tryd.ntmps26 rfl h ?_
  clear h hF
  refine c_seq ?_
  refine c_region ?_
  refine o_as st rfl rfl ?_
  refine c_nil ?_
  refine l_then ?_
  refine c_seq ?_
  refine c_seq ?_
  refine c_region ?_
  refine o_mv st rfl rfl ?_
  refine o_len st el50 0 rfl (reads_snap hv1) rfl rfl ?_
  refine o_mv st rfl rfl ?_
  refine c_nil ?_
  refine l_then ?_
  refine c_block ?_
  refine c_loop (σ := Int) (fun (t3 : Int) (a : Act) (w : World) => Has 24 [(1, (.int .i64 n_1)), (7, v1), (8, (.int .i64 (list_0.length : Int))), (9, (.int .i64 t3))] a ∧ Mem (gB F [] w0) (feet []) w0 [snapCh w0 F] w) (fun a w hE hm => ⟨hE.sub ⟨rfl, rfl, rfl, rfl, trivial⟩, (hm.pick [0] rfl)⟩) ?_
  rintro nx4 t3 a w ⟨hE, hm⟩ h
  refine nx_of hE hm h ?_
  clear hE hm h
  refine c_seq ?_
  refine c_region ?_
  refine o_lss st rfl rfl rfl ?_
  refine c_nil ?_
  refine l_then ?_
  refine c_seq ?_
  refine c_cond rfl ?_ ?_
  · refine c_skip ?_
    refine l_then ?_
    refine c_seq ?_
    refine c_block ?_
    refine c_seq ?_
    refine c_region ?_
    refine o_idx st 0 rfl (reads_snap hv1) rfl rfl rfl el50 ?_; intro e5 h6
    refine o_lds st (enc := encGSpan) (u := (.agg #[(.int .i64 e5.xLo), (.int .i64 e5.xHi)])) 0 rfl (reads_snap hv1) flelGSpan rfl h6 rfl rfl ty74 rfl ?_
    refine stw (o_alloc rfl [(.int .i64 0), (.int .i64 0)] zero74 ?_); intro b7
    refine stw (o_stc (cs' := [(.int .i64 e5.xLo), (.int .i64 e5.xHi)]) 0 rfl rfl rfl ty74 rfl rfl rfl rfl ?_)
    refine c_nil ?_
    refine l_then ?_
    refine c_join (σ := Bool) (fun (t69 : Bool) (a : Act) (w : World) => Has 24 [(1, (.int .i64 n_1)), (7, v1), (8, (.int .i64 (list_0.length : Int))), (9, (.int .i64 t3)), (22, (.bool t69))] a ∧ Mem (gB F [] w0) (feet []) w0 [snapCh w0 F] w) ?_ ?_
    · intro k70
      refine c_region ?_
      refine o_fad st rfl rfl fld74_0 rfl ?_
      refine o_ldc st (v := (.int .i64 e5.xLo)) 0 rfl rfl rfl ty3 rfl ?_
      refine o_mv st rfl rfl ?_
      refine o_leq st rfl rfl rfl ?_
      refine o_mv st rfl rfl ?_
      refine st_sp (dj := 17) rfl ?_ ?_
      · refine o_mv (st_g rfl rfl) rfl rfl ?_
        refine o_fad (st_g rfl rfl) rfl rfl fld74_1 rfl ?_
        refine o_ldc (st_g rfl rfl) (v := (.int .i64 e5.xHi)) 0 rfl rfl rfl ty3 rfl ?_
        refine o_leq (st_g rfl rfl) rfl rfl rfl ?_
        refine o_pickT st rfl rfl rfl ?_
        refine c_nil ?_
        exact l_join (decide (n_1 ≤ e5.xHi)) (fun a w hE hm => ⟨hE.sub ⟨rfl, rfl, rfl, rfl, rfl, trivial⟩, (hm.pick [1] rfl)⟩)
      · refine st_s rfl rfl rfl rfl ?_
        refine st_s rfl rfl rfl rfl ?_
        refine st_s rfl rfl rfl rfl ?_
        refine st_s rfl rfl rfl rfl ?_
        refine o_pickF st rfl rfl rfl ?_
        refine c_nil ?_
        exact l_join false (fun a w hE hm => ⟨hE.sub ⟨rfl, rfl, rfl, rfl, rfl, trivial⟩, (hm.pick [1] rfl)⟩)
    · rintro t69 a w ⟨hE, hm⟩ h
      refine nx_of hE hm h ?_
      clear hE hm h
      refine c_cond rfl ?_ ?_
      · refine c_seq ?_
        refine c_region ?_
        refine o_as st rfl rfl ?_
        refine c_nil ?_
        refine l_then ?_
        refine c_ret ?_
        refine b_ret ?_
        refine l_ret ?_
        refine l_ret ?_
        refine b_ret ?_
        refine l_ret ?_
        exact l_end1 Tryd.results26 true () (rv_t rfl) (fun _ _ => NewCh.nil _ _ _ _)
      · refine c_skip ?_
        refine b_norm ?_
        refine l_then ?_
        refine c_region ?_
        refine o_add st rfl rfl rfl ?_; intro t71
        refine o_mv st rfl rfl ?_
        refine c_nil ?_
        exact l_join t71 (fun a w hE hm => ⟨hE.sub ⟨rfl, rfl, rfl, rfl, trivial⟩, (hm.pick [0] rfl)⟩)
  · refine c_exit ?_
    refine l_exit ?_
    refine l_exit ?_
    refine b_exit ?_
    refine l_then ?_
    refine c_seq ?_
    refine c_region ?_
    refine o_as st rfl rfl ?_
    refine c_nil ?_
    refine l_then ?_
    refine c_ret ?_
    exact l_end1 Tryd.results26 false () (rv_t rfl) (fun _ _ => NewCh.nil _ _ _ _)

set_option maxRecDepth 100000 in
set_option maxHeartbeats 8000000 in
theorem w_laws_alive {w0 : World} {F : Nat → Prop} {κ : Bool → Prop} (hF : ∀ b, F b → b < w0.heap.size ∧ ¬ feet [] b) (h : L_laws_alive κ) :
    Calls Tryd.prog 20 #[] w0 (Ret [] F w0 κ (fun (r : Bool) (u : Unit) => (.bool r)) (fun (r : Bool) (u : Unit) => [])) := by
  refine enter0 (args := []) [] hF (Given.nil _ _) Tryd.func20 rfl Tryd.ntmps20 rfl h ?_
  clear h hF
  refine c_seq ?_
  refine c_region ?_
  refine o_as st rfl rfl ?_
  refine c_nil ?_
  refine l_then ?_
  refine c_seq ?_
  refine c_region ?_
  refine o_bld st (qs := [(0, (.int .i64 2)), (1, (.int .i64 4))]) (cells := [(.int .i64 2), (.int .i64 4)]) (by intro ρ h; simp only [List.map_toArray, List.map_cons, List.map_nil, h (.const (.int .i64 2)) _ rfl, h (.const (.int .i64 4)) _ rfl]) rfl bld74 rfl ?_
  refine stw (o_bsl (enc := encGSpan) (qs := [(0, (.agg #[(.int .i64 2), (.int .i64 4)]))]) (cells := [(.int .i64 2), (.int .i64 4)]) ([(GSpan.mk 2 4)]) flelGSpan (by intro ρ h; simp only [List.map_toArray, List.map_cons, List.map_nil, h (.tmp 1) _ rfl]) rfl el50 zero74 rfl rfl rfl rfl rfl rfl ?_); intro v1
  refine stw (o_callP (vs := [v1, (.int .i64 3)]) Tryd.call26 rfl rfl (by intro w m h; exact (w_impl_SpansHave (F := allB [] w) (list_0 := ([(GSpan.mk 2 4)])) (n_1 := 3) allB_ok (m.rd0 0 rfl reads_own) h).mono (fun _ _ k => ret_free (fun r u => fr_nil) k)) ?_); rintro r3 _
  refine o_as st rfl rfl ?_
  refine c_nil ?_
  refine l_then ?_
  refine c_ret ?_
  exact l_end1 Tryd.results20 r3 () (rv_t rfl) (fun _ _ => NewCh.nil _ _ _ _)

set_option maxRecDepth 100000 in
set_option maxHeartbeats 8000000 in
theorem w_spec_l20Packet {w0 : World} {F : Nat → Prop} {b1 : Nat} {v2 : Value} {r_0_b : (List UInt8)} {r_0_p : Int} {n_1 : Int} {κ : (GPacket × Int) → Prop} (hF : ∀ b, F b → b < w0.heap.size ∧ ¬ feet [cellCh b1 [v2, (.int .i64 r_0_p)] 99] b) (hg : Given [cellCh b1 [v2, (.int .i64 r_0_p)] 99] F w0) (hv2 : Sl elU8 F w0 v2 r_0_b) (h : L_spec_l20Packet r_0_b r_0_p n_1 κ) :
    Calls Tryd.prog 42 #[(.pointer (some ⟨b1, 0, none⟩)), (.int .i64 n_1)] w0 (Ret [cellCh b1 [v2, (.int .i64 r_0_p)] 99] F w0 κ (fun (r : (GPacket × Int)) (u : Unit) => (.agg #[(.int .i64 r.1.xFrom), (.int .i64 r.1.xTo), (.int .i64 r.1.xPort), (.int .i64 r.1.xProto)])) (fun (r : (GPacket × Int)) (u : Unit) => [cellCh b1 [v2, (.int .i64 r.2)] 99])) := by
  refine enterS (args := [(.pointer (some ⟨b1, 0, none⟩)), (.int .i64 n_1)]) [cellCh b1 [v2, (.int .i64 r_0_p)] 99] hF hg Tryd.func42 rfl Tryd.ntmps42 rfl h ?_
  clear h hF hg
  refine c_seq ?_
  refine c_region ?_
  refine stw (o_alloc rfl [(.int .i64 0), (.int .i64 0), (.int .i64 0), (.int .i64 0)] zero26 ?_); intro b5
  refine c_nil ?_
  refine l_then ?_
  refine c_seq ?_
  refine c_region ?_
  refine o_mv st rfl rfl ?_
  refine pk [1, 0, 2] rfl ?_
  refine stw (o_call (vs := [(.pointer (some ⟨b1, 0, none⟩)), (.int .i64 20)]) (M0 := [cellCh b1 [v2, (.int .i64 r_0_p)] 99]) Tryd.call62 rfl rfl (by intro w m h; exact (w_spec_l20Rd_pick (F := allB [cellCh b1 [v2, (.int .i64 r_0_p)] 99] w) (r_0_b := r_0_b) (r_0_p := r_0_p) (n_1 := 20) allB_ok m.given (m.rdM 1 rfl (reads_snap hv2)) h).mono (fun _ _ k => ret_free (fun r u => (fr_cons free_cell fr_nil)) k)) ?_); rintro ⟨r7, r8⟩ _
  refine o_mv st rfl rfl ?_
  refine stw (o_call (vs := [(.pointer (some ⟨b1, 0, none⟩)), (.int .i64 20)]) (M0 := [cellCh b1 [v2, (.int .i64 r8)] 99]) Tryd.call62 rfl rfl (by intro w m h; exact (w_spec_l20Rd_pick (F := allB [cellCh b1 [v2, (.int .i64 r8)] 99] w) (r_0_b := r_0_b) (r_0_p := r8) (n_1 := 20) allB_ok m.given (m.rdM 1 rfl (reads_snap hv2)) h).mono (fun _ _ k => ret_free (fun r u => (fr_cons free_cell fr_nil)) k)) ?_); rintro ⟨r9, r10⟩ _
  refine o_mv st rfl rfl ?_
  refine stw (o_call (vs := [(.pointer (some ⟨b1, 0, none⟩)), (.int .i64 256)]) (M0 := [cellCh b1 [v2, (.int .i64 r10)] 99]) Tryd.call62 rfl rfl (by intro w m h; exact (w_spec_l20Rd_pick (F := allB [cellCh b1 [v2, (.int .i64 r10)] 99] w) (r_0_b := r_0_b) (r_0_p := r10) (n_1 := 256) allB_ok m.given (m.rdM 1 rfl (reads_snap hv2)) h).mono (fun _ _ k => ret_free (fun r u => (fr_cons free_cell fr_nil)) k)) ?_); rintro ⟨r11, r12⟩ _
  refine o_mv st rfl rfl ?_
  refine stw (o_call (vs := [(.pointer (some ⟨b1, 0, none⟩)), (.int .i64 8)]) (M0 := [cellCh b1 [v2, (.int .i64 r12)] 99]) Tryd.call62 rfl rfl (by intro w m h; exact (w_spec_l20Rd_pick (F := allB [cellCh b1 [v2, (.int .i64 r12)] 99] w) (r_0_b := r_0_b) (r_0_p := r12) (n_1 := 8) allB_ok m.given (m.rdM 1 rfl (reads_snap hv2)) h).mono (fun _ _ k => ret_free (fun r u => (fr_cons free_cell fr_nil)) k)) ?_); rintro ⟨r13, r14⟩ _
  refine o_bld st (qs := [(0, (.int .i64 r7)), (1, (.int .i64 r9)), (2, (.int .i64 r11)), (3, (.int .i64 r13))]) (cells := [(.int .i64 r7), (.int .i64 r9), (.int .i64 r11), (.int .i64 r13)]) (by intro ρ h; simp only [List.map_toArray, List.map_cons, List.map_nil, h (.tmp 7) _ rfl, h (.tmp 9) _ rfl, h (.tmp 11) _ rfl, h (.tmp 13) _ rfl]) rfl bld26 rfl ?_
  refine stw (o_alloc rfl [(.int .i64 0), (.int .i64 0), (.int .i64 0), (.int .i64 0)] zero26 ?_); intro b15
  refine stw (o_stc (cs' := [(.int .i64 r7), (.int .i64 r9), (.int .i64 r11), (.int .i64 r13)]) 0 rfl rfl rfl ty26 rfl rfl rfl rfl ?_)
  refine c_nil ?_
  refine l_then ?_
  refine c_join (σ := (Int × Int × Int × Int)) (fun ((t93, t94, t95, t96) : (Int × Int × Int × Int)) (a : Act) (w : World) => Has 71 [(0, (.pointer (some ⟨b1, 0, none⟩))), (1, (.int .i64 n_1)), (4, (.pointer (some ⟨b5, 0, none⟩))), (5, (.pointer (some ⟨b15, 0, none⟩)))] a ∧ Mem (gB F [cellCh b1 [v2, (.int .i64 r_0_p)] 99] w0) (feet [cellCh b1 [v2, (.int .i64 r_0_p)] 99]) w0 [cellCh b1 [v2, (.int .i64 t93)] 99, cellCh b15 [(.int .i64 t94), (.int .i64 t95), (.int .i64 t96), (.int .i64 r13)] 26, cellCh b5 [(.int .i64 0), (.int .i64 0), (.int .i64 0), (.int .i64 0)] 26, snapCh w0 F] w) ?_ ?_
  · intro k97
    refine c_seq ?_
    refine c_region ?_
    refine o_mv st rfl rfl ?_
    refine pk [1, 0, 2, 3] rfl ?_
    refine stw (o_call (vs := [(.pointer (some ⟨b1, 0, none⟩)), (.int .i64 2)]) (M0 := [cellCh b1 [v2, (.int .i64 r14)] 99]) Tryd.call62 rfl rfl (by intro w m h; exact (w_spec_l20Rd_pick (F := allB [cellCh b1 [v2, (.int .i64 r14)] 99] w) (r_0_b := r_0_b) (r_0_p := r14) (n_1 := 2) allB_ok m.given (m.rdM 2 rfl (reads_snap hv2)) h).mono (fun _ _ k => ret_free (fun r u => (fr_cons free_cell fr_nil)) k)) ?_); rintro ⟨r17, r18⟩ _
    refine o_eql st und3 rfl rfl rfl ?_
    refine c_nil ?_
    refine l_then ?_
    refine c_cond rfl ?_ ?_
    · refine c_seq ?_
      refine c_region ?_
      refine o_mv st rfl rfl ?_
      refine stw (o_call (vs := [(.pointer (some ⟨b1, 0, none⟩)), (.int .i64 256)]) (M0 := [cellCh b1 [v2, (.int .i64 r18)] 99]) Tryd.call62 rfl rfl (by intro w m h; exact (w_spec_l20Rd_pick (F := allB [cellCh b1 [v2, (.int .i64 r18)] 99] w) (r_0_b := r_0_b) (r_0_p := r18) (n_1 := 256) allB_ok m.given (m.rdM 2 rfl (reads_snap hv2)) h).mono (fun _ _ k => ret_free (fun r u => (fr_cons free_cell fr_nil)) k)) ?_); rintro ⟨r19, r20⟩ _
      refine o_mul st rfl rfl rfl ?_; intro t21
      refine o_mv st rfl rfl ?_
      refine stw (o_call (vs := [(.pointer (some ⟨b1, 0, none⟩)), (.int .i64 256)]) (M0 := [cellCh b1 [v2, (.int .i64 r20)] 99]) Tryd.call62 rfl rfl (by intro w m h; exact (w_spec_l20Rd_pick (F := allB [cellCh b1 [v2, (.int .i64 r20)] 99] w) (r_0_b := r_0_b) (r_0_p := r20) (n_1 := 256) allB_ok m.given (m.rdM 2 rfl (reads_snap hv2)) h).mono (fun _ _ k => ret_free (fun r u => (fr_cons free_cell fr_nil)) k)) ?_); rintro ⟨r22, r23⟩ _
      refine o_add st rfl rfl rfl ?_; intro t24
      refine o_fad st rfl rfl fld26_0 rfl ?_
      refine stw (o_stc (cs' := [(.int .i64 t24), (.int .i64 r9), (.int .i64 r11), (.int .i64 r13)]) 1 rfl rfl rfl ty3 rfl rfl rfl rfl ?_)
      refine c_nil ?_
      refine l_then ?_
      refine c_seq ?_
      refine c_region ?_
      refine o_mv st rfl rfl ?_
      refine stw (o_call (vs := [(.pointer (some ⟨b1, 0, none⟩)), (.int .i64 4)]) (M0 := [cellCh b1 [v2, (.int .i64 r23)] 99]) Tryd.call62 rfl rfl (by intro w m h; exact (w_spec_l20Rd_pick (F := allB [cellCh b1 [v2, (.int .i64 r23)] 99] w) (r_0_b := r_0_b) (r_0_p := r23) (n_1 := 4) allB_ok m.given (m.rdM 2 rfl (reads_snap hv2)) h).mono (fun _ _ k => ret_free (fun r u => (fr_cons free_cell fr_nil)) k)) ?_); rintro ⟨r25, r26⟩ _
      refine o_mul st rfl rfl rfl ?_; intro t27
      refine o_mv st rfl rfl ?_
      refine stw (o_call (vs := [(.pointer (some ⟨b1, 0, none⟩)), (.int .i64 256)]) (M0 := [cellCh b1 [v2, (.int .i64 r26)] 99]) Tryd.call62 rfl rfl (by intro w m h; exact (w_spec_l20Rd_pick (F := allB [cellCh b1 [v2, (.int .i64 r26)] 99] w) (r_0_b := r_0_b) (r_0_p := r26) (n_1 := 256) allB_ok m.given (m.rdM 2 rfl (reads_snap hv2)) h).mono (fun _ _ k => ret_free (fun r u => (fr_cons free_cell fr_nil)) k)) ?_); rintro ⟨r28, r29⟩ _
      refine o_add st rfl rfl rfl ?_; intro t30
      refine o_fad st rfl rfl fld26_1 rfl ?_
      refine stw (o_stc (cs' := [(.int .i64 t24), (.int .i64 t30), (.int .i64 r11), (.int .i64 r13)]) 1 rfl rfl rfl ty3 rfl rfl rfl rfl ?_)
      refine c_nil ?_
      refine l_then ?_
      refine c_region ?_
      refine o_mv st rfl rfl ?_
      refine stw (o_call (vs := [(.pointer (some ⟨b1, 0, none⟩)), (.int .i64 12)]) (M0 := [cellCh b1 [v2, (.int .i64 r29)] 99]) Tryd.call62 rfl rfl (by intro w m h; exact (w_spec_l20Rd_pick (F := allB [cellCh b1 [v2, (.int .i64 r29)] 99] w) (r_0_b := r_0_b) (r_0_p := r29) (n_1 := 12) allB_ok m.given (m.rdM 2 rfl (reads_snap hv2)) h).mono (fun _ _ k => ret_free (fun r u => (fr_cons free_cell fr_nil)) k)) ?_); rintro ⟨r31, r32⟩ _
      refine o_fad st rfl rfl fld26_2 rfl ?_
      refine stw (o_stc (cs' := [(.int .i64 t24), (.int .i64 t30), (.int .i64 r31), (.int .i64 r13)]) 1 rfl rfl rfl ty3 rfl rfl rfl rfl ?_)
      refine c_nil ?_
      exact l_join (r32, t24, t30, r31) (fun a w hE hm => ⟨hE.sub ⟨rfl, rfl, rfl, rfl, trivial⟩, (hm.pick [0, 1, 2, 3] rfl)⟩)
    · refine c_skip ?_
      exact l_join (r18, r7, r9, r11) (fun a w hE hm => ⟨hE.sub ⟨rfl, rfl, rfl, rfl, trivial⟩, (hm.pick [0, 1, 2, 3] rfl)⟩)
  · rintro ⟨t93, t94, t95, t96⟩ a w ⟨hE, hm⟩ h
    refine nx_of hE hm h ?_
    clear hE hm h
    refine c_join (σ := (Int × Int × Int × Int × Int)) (fun ((t186, t187, t188, t189, t190) : (Int × Int × Int × Int × Int)) (a : Act) (w : World) => Has 71 [(4, (.pointer (some ⟨b5, 0, none⟩))), (5, (.pointer (some ⟨b15, 0, none⟩)))] a ∧ Mem (gB F [cellCh b1 [v2, (.int .i64 r_0_p)] 99] w0) (feet [cellCh b1 [v2, (.int .i64 r_0_p)] 99]) w0 [cellCh b1 [v2, (.int .i64 t186)] 99, cellCh b15 [(.int .i64 t187), (.int .i64 t188), (.int .i64 t189), (.int .i64 t190)] 26, cellCh b5 [(.int .i64 0), (.int .i64 0), (.int .i64 0), (.int .i64 0)] 26, snapCh w0 F] w) ?_ ?_
    · intro k191
      refine c_seq ?_
      refine c_region ?_
      refine o_mv st rfl rfl ?_
      refine o_mv st rfl rfl ?_
      refine stw (o_call (vs := [(.pointer (some ⟨b1, 0, none⟩)), (.int .i64 n_1)]) (M0 := [cellCh b1 [v2, (.int .i64 t93)] 99]) Tryd.call63 rfl rfl (by intro w m h; exact (w_spec_l20Rd_odd (F := allB [cellCh b1 [v2, (.int .i64 t93)] 99] w) (r_0_b := r_0_b) (r_0_p := t93) (n_1 := n_1) allB_ok m.given (m.rdM 2 rfl (reads_snap hv2)) h).mono (fun _ _ k => ret_free (fun r u => (fr_cons free_cell fr_nil)) k)) ?_); rintro ⟨r98, r99⟩ _
      refine c_nil ?_
      refine l_then ?_
      refine c_cond rfl ?_ ?_
      · refine c_seq ?_
        refine c_region ?_
        refine o_mv st rfl rfl ?_
        refine stw (o_call (vs := [(.pointer (some ⟨b1, 0, none⟩)), (.int .i64 4)]) (M0 := [cellCh b1 [v2, (.int .i64 r99)] 99]) Tryd.call62 rfl rfl (by intro w m h; exact (w_spec_l20Rd_pick (F := allB [cellCh b1 [v2, (.int .i64 r99)] 99] w) (r_0_b := r_0_b) (r_0_p := r99) (n_1 := 4) allB_ok m.given (m.rdM 2 rfl (reads_snap hv2)) h).mono (fun _ _ k => ret_free (fun r u => (fr_cons free_cell fr_nil)) k)) ?_); rintro ⟨r100, r101⟩ _
        refine c_nil ?_
        refine l_then ?_
        refine c_block ?_
        refine c_seq ?_
        refine c_region ?_
        refine o_eql st und3 rfl rfl rfl ?_
        refine o_as st rfl rfl ?_
        refine c_nil ?_
        refine l_then ?_
        refine c_cond rfl ?_ ?_
        · refine c_region ?_
          refine stw (o_bsl (enc := encInt) (qs := [(0, (.int .i64 (-1))), (1, (.int .i64 65536))]) (cells := [(.int .i64 (-1)), (.int .i64 65536)]) ([(-1), 65536]) flelInt (by intro ρ h; simp only [List.map_toArray, List.map_cons, List.map_nil, h (.const (.int .i64 (-1))) _ rfl, h (.const (.int .i64 65536)) _ rfl]) rfl el101 zero3 rfl rfl rfl rfl rfl rfl ?_); intro v102
          refine o_mv st rfl rfl ?_
          refine pk [1, 0, 2, 3, 4] rfl ?_
          refine stw (o_call (vs := [(.pointer (some ⟨b1, 0, none⟩)), (.int .i64 2)]) (M0 := [cellCh b1 [v2, (.int .i64 r101)] 99]) Tryd.call62 rfl rfl (by intro w m h; exact (w_spec_l20Rd_pick (F := allB [cellCh b1 [v2, (.int .i64 r101)] 99] w) (r_0_b := r_0_b) (r_0_p := r101) (n_1 := 2) allB_ok m.given (m.rdM 3 rfl (reads_snap hv2)) h).mono (fun _ _ k => ret_free (fun r u => (fr_cons free_cell fr_nil)) k)) ?_); rintro ⟨r104, r105⟩ _
          refine o_idx st 1 rfl reads_own rfl rfl rfl el101 ?_; intro e106 h107
          refine o_lds st (enc := encInt) (u := (.int .i64 e106)) 1 rfl reads_own flelInt rfl h107 rfl rfl ty3 rfl ?_
          refine o_fad st rfl rfl fld26_0 rfl ?_
          refine stw (o_stc (cs' := [(.int .i64 e106), (.int .i64 t95), (.int .i64 t96), (.int .i64 r13)]) 2 rfl rfl rfl ty3 rfl rfl rfl rfl ?_)
          refine c_nil ?_
          refine b_norm ?_
          exact l_join (r105, e106, t95, t96, r13) (fun a w hE hm => ⟨hE.sub ⟨rfl, rfl, trivial⟩, (hm.pick [0, 2, 3, 4] rfl)⟩)
        · refine c_seq ?_
          refine c_region ?_
          refine o_eql st und3 rfl rfl rfl ?_
          refine o_as st rfl rfl ?_
          refine c_nil ?_
          refine l_then ?_
          refine c_cond rfl ?_ ?_
          · refine c_region ?_
            refine stw (o_bsl (enc := encInt) (qs := [(0, (.int .i64 (-1))), (1, (.int .i64 65536))]) (cells := [(.int .i64 (-1)), (.int .i64 65536)]) ([(-1), 65536]) flelInt (by intro ρ h; simp only [List.map_toArray, List.map_cons, List.map_nil, h (.const (.int .i64 (-1))) _ rfl, h (.const (.int .i64 65536)) _ rfl]) rfl el101 zero3 rfl rfl rfl rfl rfl rfl ?_); intro v108
            refine o_mv st rfl rfl ?_
            refine pk [1, 0, 2, 3, 4] rfl ?_
            refine stw (o_call (vs := [(.pointer (some ⟨b1, 0, none⟩)), (.int .i64 2)]) (M0 := [cellCh b1 [v2, (.int .i64 r101)] 99]) Tryd.call62 rfl rfl (by intro w m h; exact (w_spec_l20Rd_pick (F := allB [cellCh b1 [v2, (.int .i64 r101)] 99] w) (r_0_b := r_0_b) (r_0_p := r101) (n_1 := 2) allB_ok m.given (m.rdM 3 rfl (reads_snap hv2)) h).mono (fun _ _ k => ret_free (fun r u => (fr_cons free_cell fr_nil)) k)) ?_); rintro ⟨r110, r111⟩ _
            refine o_idx st 1 rfl reads_own rfl rfl rfl el101 ?_; intro e112 h113
            refine o_lds st (enc := encInt) (u := (.int .i64 e112)) 1 rfl reads_own flelInt rfl h113 rfl rfl ty3 rfl ?_
            refine o_fad st rfl rfl fld26_1 rfl ?_
            refine stw (o_stc (cs' := [(.int .i64 t94), (.int .i64 e112), (.int .i64 t96), (.int .i64 r13)]) 2 rfl rfl rfl ty3 rfl rfl rfl rfl ?_)
            refine c_nil ?_
            refine b_norm ?_
            exact l_join (r111, t94, e112, t96, r13) (fun a w hE hm => ⟨hE.sub ⟨rfl, rfl, trivial⟩, (hm.pick [0, 2, 3, 4] rfl)⟩)
          · refine c_seq ?_
            refine c_region ?_
            refine o_eql st und3 rfl rfl rfl ?_
            refine o_as st rfl rfl ?_
            refine c_nil ?_
            refine l_then ?_
            refine c_cond rfl ?_ ?_
            · refine c_region ?_
              refine stw (o_bsl (enc := encInt) (qs := [(0, (.int .i64 (-1))), (1, (.int .i64 256))]) (cells := [(.int .i64 (-1)), (.int .i64 256)]) ([(-1), 256]) flelInt (by intro ρ h; simp only [List.map_toArray, List.map_cons, List.map_nil, h (.const (.int .i64 (-1))) _ rfl, h (.const (.int .i64 256)) _ rfl]) rfl el101 zero3 rfl rfl rfl rfl rfl rfl ?_); intro v114
              refine o_mv st rfl rfl ?_
              refine pk [1, 0, 2, 3, 4] rfl ?_
              refine stw (o_call (vs := [(.pointer (some ⟨b1, 0, none⟩)), (.int .i64 2)]) (M0 := [cellCh b1 [v2, (.int .i64 r101)] 99]) Tryd.call62 rfl rfl (by intro w m h; exact (w_spec_l20Rd_pick (F := allB [cellCh b1 [v2, (.int .i64 r101)] 99] w) (r_0_b := r_0_b) (r_0_p := r101) (n_1 := 2) allB_ok m.given (m.rdM 3 rfl (reads_snap hv2)) h).mono (fun _ _ k => ret_free (fun r u => (fr_cons free_cell fr_nil)) k)) ?_); rintro ⟨r116, r117⟩ _
              refine o_idx st 1 rfl reads_own rfl rfl rfl el101 ?_; intro e118 h119
              refine o_lds st (enc := encInt) (u := (.int .i64 e118)) 1 rfl reads_own flelInt rfl h119 rfl rfl ty3 rfl ?_
              refine o_fad st rfl rfl fld26_2 rfl ?_
              refine stw (o_stc (cs' := [(.int .i64 t94), (.int .i64 t95), (.int .i64 e118), (.int .i64 r13)]) 2 rfl rfl rfl ty3 rfl rfl rfl rfl ?_)
              refine c_nil ?_
              refine b_norm ?_
              exact l_join (r117, t94, t95, e118, r13) (fun a w hE hm => ⟨hE.sub ⟨rfl, rfl, trivial⟩, (hm.pick [0, 2, 3, 4] rfl)⟩)
            · refine c_region ?_
              refine stw (o_bsl (enc := encInt) (qs := [(0, (.int .i64 (-1))), (1, (.int .i64 8))]) (cells := [(.int .i64 (-1)), (.int .i64 8)]) ([(-1), 8]) flelInt (by intro ρ h; simp only [List.map_toArray, List.map_cons, List.map_nil, h (.const (.int .i64 (-1))) _ rfl, h (.const (.int .i64 8)) _ rfl]) rfl el101 zero3 rfl rfl rfl rfl rfl rfl ?_); intro v120
              refine o_mv st rfl rfl ?_
              refine pk [1, 0, 2, 3, 4] rfl ?_
              refine stw (o_call (vs := [(.pointer (some ⟨b1, 0, none⟩)), (.int .i64 2)]) (M0 := [cellCh b1 [v2, (.int .i64 r101)] 99]) Tryd.call62 rfl rfl (by intro w m h; exact (w_spec_l20Rd_pick (F := allB [cellCh b1 [v2, (.int .i64 r101)] 99] w) (r_0_b := r_0_b) (r_0_p := r101) (n_1 := 2) allB_ok m.given (m.rdM 3 rfl (reads_snap hv2)) h).mono (fun _ _ k => ret_free (fun r u => (fr_cons free_cell fr_nil)) k)) ?_); rintro ⟨r122, r123⟩ _
              refine o_idx st 1 rfl reads_own rfl rfl rfl el101 ?_; intro e124 h125
              refine o_lds st (enc := encInt) (u := (.int .i64 e124)) 1 rfl reads_own flelInt rfl h125 rfl rfl ty3 rfl ?_
              refine o_fad st rfl rfl fld26_3 rfl ?_
              refine stw (o_stc (cs' := [(.int .i64 t94), (.int .i64 t95), (.int .i64 t96), (.int .i64 e124)]) 2 rfl rfl rfl ty3 rfl rfl rfl rfl ?_)
              refine c_nil ?_
              refine b_norm ?_
              exact l_join (r123, t94, t95, t96, e124) (fun a w hE hm => ⟨hE.sub ⟨rfl, rfl, trivial⟩, (hm.pick [0, 2, 3, 4] rfl)⟩)
      · refine c_skip ?_
        exact l_join (r99, t94, t95, t96, r13) (fun a w hE hm => ⟨hE.sub ⟨rfl, rfl, trivial⟩, (hm.pick [0, 1, 2, 3] rfl)⟩)
    · rintro ⟨t186, t187, t188, t189, t190⟩ a w ⟨hE, hm⟩ h
      refine nx_of hE hm h ?_
      clear hE hm h
      refine c_seq ?_
      refine c_region ?_
      refine o_ldc st (v := (.agg #[(.int .i64 t187), (.int .i64 t188), (.int .i64 t189), (.int .i64 t190)])) 1 rfl rfl rfl ty26 rfl ?_
      refine stw (o_stc (cs' := [(.int .i64 t187), (.int .i64 t188), (.int .i64 t189), (.int .i64 t190)]) 2 rfl rfl rfl ty26 rfl rfl rfl rfl ?_)
      refine c_nil ?_
      refine l_then ?_
      refine c_ret ?_
      exact l_end1 Tryd.results42 ((GPacket.mk t187 t188 t189 t190), t186) () (rv_c 2 rfl rfl ty26 rfl) (fun w m => NewCh.ofB m [0] rfl)

end
section
open Go.RowKit
set_option maxRecDepth 100000 in
set_option maxHeartbeats 8000000 in
theorem w_spec_l20Way {w0 : World} {F : Nat → Prop} {b1 : Nat} {v2 : Value} {r_0_b : (List UInt8)} {r_0_p : Int} {κ : ((List GRewrite) × GPacket × Int) → Prop} (hF : ∀ b, F b → b < w0.heap.size ∧ ¬ feet [cellCh b1 [v2, (.int .i64 r_0_p)] 99] b) (hg : Given [cellCh b1 [v2, (.int .i64 r_0_p)] 99] F w0) (hv2 : Sl elU8 F w0 v2 r_0_b) (h : L_spec_l20Way r_0_b r_0_p κ) :
    Calls Tryd.prog 47 #[(.pointer (some ⟨b1, 0, none⟩))] w0 (Ret [cellCh b1 [v2, (.int .i64 r_0_p)] 99] F w0 κ (fun (r : ((List GRewrite) × GPacket × Int)) (u : Value) => .tuple #[u, (.agg #[(.int .i64 r.2.1.xFrom), (.int .i64 r.2.1.xTo), (.int .i64 r.2.1.xPort), (.int .i64 r.2.1.xProto)])]) (fun (r : ((List GRewrite) × GPacket × Int)) (u : Value) => [ownCh elGRewrite 38 u r.1, cellCh b1 [v2, (.int .i64 r.2.2)] 99])) := by
  refine enterS (args := [(.pointer (some ⟨b1, 0, none⟩))]) [cellCh b1 [v2, (.int .i64 r_0_p)] 99] hF hg Tryd.func47 rfl Tryd.ntmps47 rfl h ?_
  clear h hF hg
  refine c_seq ?_
  refine c_region ?_
  refine stw (o_asn elGRewrite 38 rfl rfl ?_)
  refine stw (o_alloc rfl [(.int .i64 0), (.int .i64 0), (.int .i64 0), (.int .i64 0)] zero26 ?_); intro b6
  refine c_nil ?_
  refine l_then ?_
  refine c_seq ?_
  refine c_region ?_
  refine o_mv st rfl rfl ?_
  refine pk [2, 0, 1, 3] rfl ?_
  refine stw (o_call (vs := [(.pointer (some ⟨b1, 0, none⟩)), (.int .i64 12)]) (M0 := [cellCh b1 [v2, (.int .i64 r_0_p)] 99]) Tryd.call40 rfl rfl (by intro w m h; exact (w_spec_l20Rewrites (F := allB [cellCh b1 [v2, (.int .i64 r_0_p)] 99] w) (r_0_b := r_0_b) (r_0_p := r_0_p) (n_1 := 12) allB_ok m.given (m.rdM 2 rfl (reads_snap hv2)) h).mono (fun _ _ k => ret_free (fun r u => (fr_cons (free_own flelGRewrite) (fr_cons free_cell fr_nil))) k)) ?_); rintro ⟨r8, r11⟩ v9
  refine o_as st rfl rfl ?_
  refine c_nil ?_
  refine l_then ?_
  refine c_seq ?_
  refine c_region ?_
  refine o_mv st rfl rfl ?_
  refine pk [1, 0, 2, 3, 4] rfl ?_
  refine stw (o_call (vs := [(.pointer (some ⟨b1, 0, none⟩)), (.int .i64 12)]) (M0 := [cellCh b1 [v2, (.int .i64 r11)] 99]) Tryd.call42 rfl rfl (by intro w m h; exact (w_spec_l20Packet (F := allB [cellCh b1 [v2, (.int .i64 r11)] 99] w) (r_0_b := r_0_b) (r_0_p := r11) (n_1 := 12) allB_ok m.given (m.rdM 3 rfl (reads_snap hv2)) h).mono (fun _ _ k => ret_free (fun r u => (fr_cons free_cell fr_nil)) k)) ?_); rintro ⟨r12, r13⟩ _
  refine stw (o_alloc rfl [(.int .i64 0), (.int .i64 0), (.int .i64 0), (.int .i64 0)] zero26 ?_); intro b14
  refine stw (o_stc (cs' := [(.int .i64 r12.xFrom), (.int .i64 r12.xTo), (.int .i64 r12.xPort), (.int .i64 r12.xProto)]) 0 rfl rfl rfl ty26 rfl rfl rfl rfl ?_)
  refine c_nil ?_
  refine l_then ?_
  refine c_join (σ := (Int × Int × Int)) (fun ((t173, t174, t175) : (Int × Int × Int)) (a : Act) (w : World) => Has 56 [(3, (.pointer (some ⟨b6, 0, none⟩))), (4, v9), (5, (.pointer (some ⟨b14, 0, none⟩)))] a ∧ Mem (gB F [cellCh b1 [v2, (.int .i64 r_0_p)] 99] w0) (feet [cellCh b1 [v2, (.int .i64 r_0_p)] 99]) w0 [cellCh b1 [v2, (.int .i64 t173)] 99, cellCh b14 [(.int .i64 t174), (.int .i64 t175), (.int .i64 r12.xPort), (.int .i64 r12.xProto)] 26, ownCh elGRewrite 38 v9 r8, cellCh b6 [(.int .i64 0), (.int .i64 0), (.int .i64 0), (.int .i64 0)] 26, snapCh w0 F] w) ?_ ?_
  · intro k176
    refine c_join (σ := (Int × Bool)) (fun ((t78, t79) : (Int × Bool)) (a : Act) (w : World) => Has 56 [(0, (.pointer (some ⟨b1, 0, none⟩))), (3, (.pointer (some ⟨b6, 0, none⟩))), (4, v9), (5, (.pointer (some ⟨b14, 0, none⟩))), (18, (.bool t79))] a ∧ Mem (gB F [cellCh b1 [v2, (.int .i64 r_0_p)] 99] w0) (feet [cellCh b1 [v2, (.int .i64 r_0_p)] 99]) w0 [cellCh b1 [v2, (.int .i64 t78)] 99, cellCh b14 [(.int .i64 r12.xFrom), (.int .i64 r12.xTo), (.int .i64 r12.xPort), (.int .i64 r12.xProto)] 26, ownCh elGRewrite 38 v9 r8, cellCh b6 [(.int .i64 0), (.int .i64 0), (.int .i64 0), (.int .i64 0)] 26, snapCh w0 F] w) ?_ ?_
    · intro k80
      refine c_region ?_
      refine o_mv st rfl rfl ?_
      refine o_len st el28 2 rfl reads_own rfl rfl ?_
      refine o_gtr st rfl rfl rfl ?_
      refine o_mv st rfl rfl ?_
      refine st_sp (dj := 14) rfl ?_ ?_
      · refine o_mv (st_g rfl rfl) rfl rfl ?_
        refine pk [1, 0, 2, 3, 4, 5] rfl ?_
        refine st_gw rfl rfl (o_call (vs := [(.pointer (some ⟨b1, 0, none⟩)), (.int .i64 3)]) (M0 := [cellCh b1 [v2, (.int .i64 r13)] 99]) Tryd.call62 rfl rfl (by intro w m h; exact (w_spec_l20Rd_pick (F := allB [cellCh b1 [v2, (.int .i64 r13)] 99] w) (r_0_b := r_0_b) (r_0_p := r13) (n_1 := 3) allB_ok m.given (m.rdM 4 rfl (reads_snap hv2)) h).mono (fun _ _ k => ret_free (fun r u => (fr_cons free_cell fr_nil)) k)) ?_); rintro ⟨r16, r17⟩ _
        refine o_gtr (st_g rfl rfl) rfl rfl rfl ?_
        refine o_pickT st rfl rfl rfl ?_
        refine c_nil ?_
        exact l_join (r17, (decide (0 < r16))) (fun a w hE hm => ⟨hE.sub ⟨rfl, rfl, rfl, rfl, rfl, trivial⟩, (hm.pick [0, 1, 2, 3, 5] rfl)⟩)
      · refine st_s rfl rfl rfl rfl ?_
        refine st_s rfl rfl rfl rfl ?_
        refine st_s rfl rfl rfl rfl ?_
        refine o_pickF st rfl rfl rfl ?_
        refine c_nil ?_
        exact l_join (r13, false) (fun a w hE hm => ⟨hE.sub ⟨rfl, rfl, rfl, rfl, rfl, trivial⟩, (hm.pick [1, 0, 2, 3, 5] rfl)⟩)
    · rintro ⟨t78, t79⟩ a w ⟨hE, hm⟩ h
      refine nx_of hE hm h ?_
      clear hE hm h
      refine c_cond rfl ?_ ?_
      · refine c_seq ?_
        refine c_region ?_
        refine o_mv st rfl rfl ?_
        refine o_mv st rfl rfl ?_
        refine o_mv st rfl rfl ?_
        refine o_len st el28 2 rfl reads_own rfl rfl ?_
        refine stw (o_call (vs := [(.pointer (some ⟨b1, 0, none⟩)), (.int .i64 (r8.length : Int))]) (M0 := [cellCh b1 [v2, (.int .i64 t78)] 99]) Tryd.call62 rfl rfl (by intro w m h; exact (w_spec_l20Rd_pick (F := allB [cellCh b1 [v2, (.int .i64 t78)] 99] w) (r_0_b := r_0_b) (r_0_p := t78) (n_1 := (r8.length : Int)) allB_ok m.given (m.rdM 3 rfl (reads_snap hv2)) h).mono (fun _ _ k => ret_free (fun r u => (fr_cons free_cell fr_nil)) k)) ?_); rintro ⟨r81, r82⟩ _
        refine o_idx st 2 rfl reads_own rfl rfl rfl el28 ?_; intro e83 h84
        refine o_lds st (enc := encGRewrite) (u := (.agg #[(.int .i64 e83.xInside.xBase), (.int .i64 e83.xInside.xLength), (.int .i64 e83.xOutside.xBase), (.int .i64 e83.xOutside.xLength)])) 2 rfl reads_own flelGRewrite rfl h84 rfl rfl ty38 rfl ?_
        refine stw (o_alloc rfl [(.int .i64 0), (.int .i64 0), (.int .i64 0), (.int .i64 0)] zero38 ?_); intro b85
        refine stw (o_stc (cs' := [(.int .i64 e83.xInside.xBase), (.int .i64 e83.xInside.xLength), (.int .i64 e83.xOutside.xBase), (.int .i64 e83.xOutside.xLength)]) 0 rfl rfl rfl ty38 rfl rfl rfl rfl ?_)
        refine c_nil ?_
        refine l_then ?_
        refine c_join (σ := (Int × Int)) (fun ((t87, t88) : (Int × Int)) (a : Act) (w : World) => Has 56 [(0, (.pointer (some ⟨b1, 0, none⟩))), (3, (.pointer (some ⟨b6, 0, none⟩))), (4, v9), (5, (.pointer (some ⟨b14, 0, none⟩))), (6, (.pointer (some ⟨b85, 0, none⟩)))] a ∧ Mem (gB F [cellCh b1 [v2, (.int .i64 r_0_p)] 99] w0) (feet [cellCh b1 [v2, (.int .i64 r_0_p)] 99]) w0 [cellCh b1 [v2, (.int .i64 t87)] 99, cellCh b85 [(.int .i64 e83.xInside.xBase), (.int .i64 e83.xInside.xLength), (.int .i64 e83.xOutside.xBase), (.int .i64 e83.xOutside.xLength)] 38, cellCh b14 [(.int .i64 t88), (.int .i64 r12.xTo), (.int .i64 r12.xPort), (.int .i64 r12.xProto)] 26, ownCh elGRewrite 38 v9 r8, cellCh b6 [(.int .i64 0), (.int .i64 0), (.int .i64 0), (.int .i64 0)] 26, snapCh w0 F] w) ?_ ?_
        · intro k89
          refine c_drawQ mixed 15 rfl [cellCh b85 [(.int .i64 e83.xInside.xBase), (.int .i64 e83.xInside.xLength), (.int .i64 e83.xOutside.xBase), (.int .i64 e83.xOutside.xLength)] 38, ownCh elGRewrite 38 v9 r8, cellCh b6 [(.int .i64 0), (.int .i64 0), (.int .i64 0), (.int .i64 0)] 26, snapCh w0 F] ?_
          intro Qd hP hQ
          have H494 : ∀ (v90 : Value) (r91 : Int) (r92 : Int) (e93 : Int) (h94 : ([e83.xInside.xBase, e83.xOutside.xBase, r12.xFrom])[(r91).toNat]? = some e93), Nx 56 (gB F [cellCh b1 [v2, (.int .i64 r_0_p)] 99] w0) (feet [cellCh b1 [v2, (.int .i64 r_0_p)] 99]) w0 (wpAnyH Tryd.prog .any (opsAt Tryd.f47 [1, 1, 1, 0, 1, 0, 1, 0]) Qd (Mem (gB F [cellCh b1 [v2, (.int .i64 r_0_p)] 99] w0) (feet [cellCh b1 [v2, (.int .i64 r_0_p)] 99]) w0 [cellCh b85 [(.int .i64 e83.xInside.xBase), (.int .i64 e83.xInside.xLength), (.int .i64 e83.xOutside.xBase), (.int .i64 e83.xOutside.xLength)] 38, ownCh elGRewrite 38 v9 r8, cellCh b6 [(.int .i64 0), (.int .i64 0), (.int .i64 0), (.int .i64 0)] 26, snapCh w0 F]) 0 #[true, true, true, true, true, true, true, true, true, true, true, true, true, true, true]) [(0, (.pointer (some ⟨b1, 0, none⟩))), (3, (.pointer (some ⟨b6, 0, none⟩))), (4, v9), (5, (.pointer (some ⟨b14, 0, none⟩))), (6, (.pointer (some ⟨b85, 0, none⟩)))] [cellCh b1 [v2, (.int .i64 r92)] 99, cellCh b85 [(.int .i64 e83.xInside.xBase), (.int .i64 e83.xInside.xLength), (.int .i64 e83.xOutside.xBase), (.int .i64 e83.xOutside.xLength)] 38, cellCh b14 [(.int .i64 e93), (.int .i64 r12.xTo), (.int .i64 r12.xPort), (.int .i64 r12.xProto)] 26, ownCh elGRewrite 38 v9 r8, cellCh b6 [(.int .i64 0), (.int .i64 0), (.int .i64 0), (.int .i64 0)] 26, snapCh w0 F] (k89 (r92, e93)) := by
            intro v90 r91 r92 e93 h94
            refine d_done (by kernel_rfl) ?_
            exact fun a w hE hm hφ => hQ (r92, e93) a w hφ ((fun a w hE hm => ⟨hE.sub ⟨rfl, rfl, rfl, rfl, rfl, trivial⟩, (hm.pick [0, 1, 2, 3, 4, 5] rfl)⟩) a w hE hm)
          have H495 : ∀ (v90 : Value) (r91 : Int) (r92 : Int) (e93 : Int) (h94 : ([e83.xInside.xBase, e83.xOutside.xBase, r12.xFrom])[(r91).toNat]? = some e93), Nx 56 (gB F [cellCh b1 [v2, (.int .i64 r_0_p)] 99] w0) (feet [cellCh b1 [v2, (.int .i64 r_0_p)] 99]) w0 (wpAnyH Tryd.prog .any (opsAt Tryd.f47 [1, 1, 1, 0, 1, 0, 1, 0]) Qd (Mem (gB F [cellCh b1 [v2, (.int .i64 r_0_p)] 99] w0) (feet [cellCh b1 [v2, (.int .i64 r_0_p)] 99]) w0 [cellCh b85 [(.int .i64 e83.xInside.xBase), (.int .i64 e83.xInside.xLength), (.int .i64 e83.xOutside.xBase), (.int .i64 e83.xOutside.xLength)] 38, ownCh elGRewrite 38 v9 r8, cellCh b6 [(.int .i64 0), (.int .i64 0), (.int .i64 0), (.int .i64 0)] 26, snapCh w0 F]) 2 #[true, true, true, true, true, true, true, true, true, true, true, true, true, false, false]) [(0, (.pointer (some ⟨b1, 0, none⟩))), (3, (.pointer (some ⟨b6, 0, none⟩))), (4, v9), (5, (.pointer (some ⟨b14, 0, none⟩))), (6, (.pointer (some ⟨b85, 0, none⟩))), (38, (.int .i64 e93))] [cellCh b1 [v2, (.int .i64 r92)] 99, cellCh b85 [(.int .i64 e83.xInside.xBase), (.int .i64 e83.xInside.xLength), (.int .i64 e83.xOutside.xBase), (.int .i64 e83.xOutside.xLength)] 38, cellCh b14 [(.int .i64 r12.xFrom), (.int .i64 r12.xTo), (.int .i64 r12.xPort), (.int .i64 r12.xProto)] 26, ownCh elGRewrite 38 v9 r8, cellCh b6 [(.int .i64 0), (.int .i64 0), (.int .i64 0), (.int .i64 0)] 26, snapCh w0 F] (k89 (r92, e93)) := by
            intro v90 r91 r92 e93 h94
            refine o_fad (dt 13 (fun w m => m.pick [1, 3, 4, 5] rfl)) rfl rfl fld26_0 rfl ?_
            refine d_one (i := 14) rfl (by kernel_rfl) (o_stc (cs' := [(.int .i64 e93), (.int .i64 r12.xTo), (.int .i64 r12.xPort), (.int .i64 r12.xProto)]) 2 rfl rfl rfl ty3 rfl rfl rfl rfl ?_)
            refine d_and (fun w m => m.pick [1, 3, 4, 5] rfl) ?_
            refine pk [0, 1, 2, 3, 4, 5] rfl ?_
            refine re (E' := [(0, (.pointer (some ⟨b1, 0, none⟩))), (3, (.pointer (some ⟨b6, 0, none⟩))), (4, v9), (5, (.pointer (some ⟨b14, 0, none⟩))), (6, (.pointer (some ⟨b85, 0, none⟩)))]) ⟨rfl, rfl, rfl, rfl, rfl, trivial⟩ ?_
            exact H494 v90 r91 r92 e93 h94
          have H496 : ∀ (v90 : Value) (r91 : Int) (r92 : Int) (e93 : Int) (h94 : ([e83.xInside.xBase, e83.xOutside.xBase, r12.xFrom])[(r91).toNat]? = some e93), Nx 56 (gB F [cellCh b1 [v2, (.int .i64 r_0_p)] 99] w0) (feet [cellCh b1 [v2, (.int .i64 r_0_p)] 99]) w0 (wpAnyH Tryd.prog .any (opsAt Tryd.f47 [1, 1, 1, 0, 1, 0, 1, 0]) Qd (Mem (gB F [cellCh b1 [v2, (.int .i64 r_0_p)] 99] w0) (feet [cellCh b1 [v2, (.int .i64 r_0_p)] 99]) w0 [cellCh b85 [(.int .i64 e83.xInside.xBase), (.int .i64 e83.xInside.xLength), (.int .i64 e83.xOutside.xBase), (.int .i64 e83.xOutside.xLength)] 38, ownCh elGRewrite 38 v9 r8, cellCh b6 [(.int .i64 0), (.int .i64 0), (.int .i64 0), (.int .i64 0)] 26, snapCh w0 F]) 3 #[true, true, true, true, true, true, true, true, true, true, true, true, false, false, false]) [(0, (.pointer (some ⟨b1, 0, none⟩))), (3, (.pointer (some ⟨b6, 0, none⟩))), (4, v9), (5, (.pointer (some ⟨b14, 0, none⟩))), (6, (.pointer (some ⟨b85, 0, none⟩))), (37, (pEl v90 r91 1 0))] [cellCh b1 [v2, (.int .i64 r92)] 99, ownCh elInt 3 v90 ([e83.xInside.xBase, e83.xOutside.xBase, r12.xFrom]), cellCh b85 [(.int .i64 e83.xInside.xBase), (.int .i64 e83.xInside.xLength), (.int .i64 e83.xOutside.xBase), (.int .i64 e83.xOutside.xLength)] 38, cellCh b14 [(.int .i64 r12.xFrom), (.int .i64 r12.xTo), (.int .i64 r12.xPort), (.int .i64 r12.xProto)] 26, ownCh elGRewrite 38 v9 r8, cellCh b6 [(.int .i64 0), (.int .i64 0), (.int .i64 0), (.int .i64 0)] 26, snapCh w0 F] (k89 (r92, e93)) := by
            intro v90 r91 r92 e93 h94
            refine d_one (i := 12) rfl (by kernel_rfl) (o_lds m_op (enc := encInt) (u := (.int .i64 e93)) 1 rfl reads_own flelInt rfl h94 rfl rfl ty3 rfl ?_)
            refine d_and (fun w m => m.pick [2, 4, 5, 6] rfl) ?_
            refine pk [0, 2, 3, 4, 5, 6] rfl ?_
            refine re (E' := [(0, (.pointer (some ⟨b1, 0, none⟩))), (3, (.pointer (some ⟨b6, 0, none⟩))), (4, v9), (5, (.pointer (some ⟨b14, 0, none⟩))), (6, (.pointer (some ⟨b85, 0, none⟩))), (38, (.int .i64 e93))]) ⟨rfl, rfl, rfl, rfl, rfl, rfl, trivial⟩ ?_
            exact H495 v90 r91 r92 e93 h94
          have H497 : ∀ (v90 : Value) (r91 : Int) (r92 : Int), Nx 56 (gB F [cellCh b1 [v2, (.int .i64 r_0_p)] 99] w0) (feet [cellCh b1 [v2, (.int .i64 r_0_p)] 99]) w0 (wpAnyH Tryd.prog .any (opsAt Tryd.f47 [1, 1, 1, 0, 1, 0, 1, 0]) Qd (Mem (gB F [cellCh b1 [v2, (.int .i64 r_0_p)] 99] w0) (feet [cellCh b1 [v2, (.int .i64 r_0_p)] 99]) w0 [cellCh b85 [(.int .i64 e83.xInside.xBase), (.int .i64 e83.xInside.xLength), (.int .i64 e83.xOutside.xBase), (.int .i64 e83.xOutside.xLength)] 38, ownCh elGRewrite 38 v9 r8, cellCh b6 [(.int .i64 0), (.int .i64 0), (.int .i64 0), (.int .i64 0)] 26, snapCh w0 F]) 4 #[true, true, true, true, true, true, true, true, true, true, true, false, false, false, false]) [(0, (.pointer (some ⟨b1, 0, none⟩))), (3, (.pointer (some ⟨b6, 0, none⟩))), (4, v9), (5, (.pointer (some ⟨b14, 0, none⟩))), (6, (.pointer (some ⟨b85, 0, none⟩))), (34, v90), (36, (.int .i64 r91))] [cellCh b1 [v2, (.int .i64 r92)] 99, ownCh elInt 3 v90 ([e83.xInside.xBase, e83.xOutside.xBase, r12.xFrom]), cellCh b85 [(.int .i64 e83.xInside.xBase), (.int .i64 e83.xInside.xLength), (.int .i64 e83.xOutside.xBase), (.int .i64 e83.xOutside.xLength)] 38, cellCh b14 [(.int .i64 r12.xFrom), (.int .i64 r12.xTo), (.int .i64 r12.xPort), (.int .i64 r12.xProto)] 26, ownCh elGRewrite 38 v9 r8, cellCh b6 [(.int .i64 0), (.int .i64 0), (.int .i64 0), (.int .i64 0)] 26, snapCh w0 F] (idxW ([e83.xInside.xBase, e83.xOutside.xBase, r12.xFrom]) r91 (fun e93 => k89 (r92, e93))) := by
            intro v90 r91 r92
            refine d_one (i := 11) rfl (by kernel_rfl) (o_idx m_op 1 rfl reads_own rfl rfl rfl el101 ?_); intro e93 h94
            refine d_and (fun w m => m.pick [2, 4, 5, 6] rfl) ?_
            refine pk [0, 1, 2, 3, 4, 5, 6] rfl ?_
            refine re (E' := [(0, (.pointer (some ⟨b1, 0, none⟩))), (3, (.pointer (some ⟨b6, 0, none⟩))), (4, v9), (5, (.pointer (some ⟨b14, 0, none⟩))), (6, (.pointer (some ⟨b85, 0, none⟩))), (37, (pEl v90 r91 1 0))]) ⟨rfl, rfl, rfl, rfl, rfl, rfl, trivial⟩ ?_
            exact H496 v90 r91 r92 e93 h94
          have H498 : ∀ (v90 : Value), Nx 56 (gB F [cellCh b1 [v2, (.int .i64 r_0_p)] 99] w0) (feet [cellCh b1 [v2, (.int .i64 r_0_p)] 99]) w0 (wpAnyH Tryd.prog .any (opsAt Tryd.f47 [1, 1, 1, 0, 1, 0, 1, 0]) Qd (Mem (gB F [cellCh b1 [v2, (.int .i64 r_0_p)] 99] w0) (feet [cellCh b1 [v2, (.int .i64 r_0_p)] 99]) w0 [cellCh b85 [(.int .i64 e83.xInside.xBase), (.int .i64 e83.xInside.xLength), (.int .i64 e83.xOutside.xBase), (.int .i64 e83.xOutside.xLength)] 38, ownCh elGRewrite 38 v9 r8, cellCh b6 [(.int .i64 0), (.int .i64 0), (.int .i64 0), (.int .i64 0)] 26, snapCh w0 F]) 5 #[true, true, true, true, true, true, true, true, true, true, false, false, false, false, false]) [(0, (.pointer (some ⟨b1, 0, none⟩))), (3, (.pointer (some ⟨b6, 0, none⟩))), (4, v9), (5, (.pointer (some ⟨b14, 0, none⟩))), (6, (.pointer (some ⟨b85, 0, none⟩))), (35, (.pointer (some ⟨b1, 0, none⟩))), (34, v90)] [ownCh elInt 3 v90 ([e83.xInside.xBase, e83.xOutside.xBase, r12.xFrom]), cellCh b85 [(.int .i64 e83.xInside.xBase), (.int .i64 e83.xInside.xLength), (.int .i64 e83.xOutside.xBase), (.int .i64 e83.xOutside.xLength)] 38, cellCh b1 [v2, (.int .i64 r82)] 99, cellCh b14 [(.int .i64 r12.xFrom), (.int .i64 r12.xTo), (.int .i64 r12.xPort), (.int .i64 r12.xProto)] 26, ownCh elGRewrite 38 v9 r8, cellCh b6 [(.int .i64 0), (.int .i64 0), (.int .i64 0), (.int .i64 0)] 26, snapCh w0 F] (L_spec_l20Rd_pick r_0_b r82 3 (fun (r91, r92) => idxW ([e83.xInside.xBase, e83.xOutside.xBase, r12.xFrom]) r91 (fun e93 => k89 (r92, e93)))) := by
            intro v90
            refine pk [2, 0, 1, 3, 4, 5, 6] rfl ?_
            refine d_one (i := 10) rfl (by kernel_rfl) (o_call (vs := [(.pointer (some ⟨b1, 0, none⟩)), (.int .i64 3)]) (M0 := [cellCh b1 [v2, (.int .i64 r82)] 99]) Tryd.call62 rfl rfl (by intro w m h; exact (w_spec_l20Rd_pick (F := allB [cellCh b1 [v2, (.int .i64 r82)] 99] w) (r_0_b := r_0_b) (r_0_p := r82) (n_1 := 3) allB_ok m.given (m.rdM 5 rfl (reads_snap hv2)) h).mono (fun _ _ k => ret_free (fun r u => (fr_cons free_cell fr_nil)) k)) ?_); rintro ⟨r91, r92⟩ _
            refine d_and (fun w m => m.pick [2, 4, 5, 6] rfl) ?_
            refine pk [0, 1, 2, 3, 4, 5, 6] rfl ?_
            refine re (E' := [(0, (.pointer (some ⟨b1, 0, none⟩))), (3, (.pointer (some ⟨b6, 0, none⟩))), (4, v9), (5, (.pointer (some ⟨b14, 0, none⟩))), (6, (.pointer (some ⟨b85, 0, none⟩))), (34, v90), (36, (.int .i64 r91))]) ⟨rfl, rfl, rfl, rfl, rfl, rfl, rfl, trivial⟩ ?_
            exact H497 v90 r91 r92
          have H499 : ∀ (r95 : Int) (r96 : Int), Nx 56 (gB F [cellCh b1 [v2, (.int .i64 r_0_p)] 99] w0) (feet [cellCh b1 [v2, (.int .i64 r_0_p)] 99]) w0 (wpAnyH Tryd.prog .any (opsAt Tryd.f47 [1, 1, 1, 0, 1, 0, 1, 0]) Qd (Mem (gB F [cellCh b1 [v2, (.int .i64 r_0_p)] 99] w0) (feet [cellCh b1 [v2, (.int .i64 r_0_p)] 99]) w0 [cellCh b85 [(.int .i64 e83.xInside.xBase), (.int .i64 e83.xInside.xLength), (.int .i64 e83.xOutside.xBase), (.int .i64 e83.xOutside.xLength)] 38, ownCh elGRewrite 38 v9 r8, cellCh b6 [(.int .i64 0), (.int .i64 0), (.int .i64 0), (.int .i64 0)] 26, snapCh w0 F]) 5 #[true, true, true, true, true, true, true, true, false, true, true, false, false, false, false]) [(0, (.pointer (some ⟨b1, 0, none⟩))), (3, (.pointer (some ⟨b6, 0, none⟩))), (4, v9), (5, (.pointer (some ⟨b14, 0, none⟩))), (6, (.pointer (some ⟨b85, 0, none⟩))), (28, (.int .i64 e83.xInside.xBase)), (31, (.int .i64 e83.xOutside.xBase)), (33, (.int .i64 r12.xFrom)), (36, (.int .i64 r95))] [cellCh b1 [v2, (.int .i64 r96)] 99, cellCh b85 [(.int .i64 e83.xInside.xBase), (.int .i64 e83.xInside.xLength), (.int .i64 e83.xOutside.xBase), (.int .i64 e83.xOutside.xLength)] 38, cellCh b14 [(.int .i64 r12.xFrom), (.int .i64 r12.xTo), (.int .i64 r12.xPort), (.int .i64 r12.xProto)] 26, ownCh elGRewrite 38 v9 r8, cellCh b6 [(.int .i64 0), (.int .i64 0), (.int .i64 0), (.int .i64 0)] 26, snapCh w0 F] (idxW ([e83.xInside.xBase, e83.xOutside.xBase, r12.xFrom]) r95 (fun e93 => k89 (r96, e93))) := by
            intro r95 r96
            refine d_one (i := 8) rfl (by kernel_rfl) (o_bsl (enc := encInt) (qs := [(0, (.int .i64 e83.xInside.xBase)), (1, (.int .i64 e83.xOutside.xBase)), (2, (.int .i64 r12.xFrom))]) (cells := [(.int .i64 e83.xInside.xBase), (.int .i64 e83.xOutside.xBase), (.int .i64 r12.xFrom)]) ([e83.xInside.xBase, e83.xOutside.xBase, r12.xFrom]) flelInt (by intro ρ h; simp only [List.map_toArray, List.map_cons, List.map_nil, h (.tmp 28) _ rfl, h (.tmp 31) _ rfl, h (.tmp 33) _ rfl]) rfl el101 zero3 rfl rfl rfl rfl rfl rfl ?_); intro v97
            refine d_and (fun w m => m.pick [2, 4, 5, 6] rfl) ?_
            refine pk [1, 0, 2, 3, 4, 5, 6] rfl ?_
            refine re (E' := [(0, (.pointer (some ⟨b1, 0, none⟩))), (3, (.pointer (some ⟨b6, 0, none⟩))), (4, v9), (5, (.pointer (some ⟨b14, 0, none⟩))), (6, (.pointer (some ⟨b85, 0, none⟩))), (34, v97), (36, (.int .i64 r95))]) ⟨rfl, rfl, rfl, rfl, rfl, rfl, rfl, trivial⟩ ?_
            exact H497 v97 r95 r96
          have H500 : ∀ (_ : Unit), Nx 56 (gB F [cellCh b1 [v2, (.int .i64 r_0_p)] 99] w0) (feet [cellCh b1 [v2, (.int .i64 r_0_p)] 99]) w0 (wpAnyH Tryd.prog .any (opsAt Tryd.f47 [1, 1, 1, 0, 1, 0, 1, 0]) Qd (Mem (gB F [cellCh b1 [v2, (.int .i64 r_0_p)] 99] w0) (feet [cellCh b1 [v2, (.int .i64 r_0_p)] 99]) w0 [cellCh b85 [(.int .i64 e83.xInside.xBase), (.int .i64 e83.xInside.xLength), (.int .i64 e83.xOutside.xBase), (.int .i64 e83.xOutside.xLength)] 38, ownCh elGRewrite 38 v9 r8, cellCh b6 [(.int .i64 0), (.int .i64 0), (.int .i64 0), (.int .i64 0)] 26, snapCh w0 F]) 6 #[true, true, true, true, true, true, true, true, false, true, false, false, false, false, false]) [(0, (.pointer (some ⟨b1, 0, none⟩))), (3, (.pointer (some ⟨b6, 0, none⟩))), (4, v9), (5, (.pointer (some ⟨b14, 0, none⟩))), (6, (.pointer (some ⟨b85, 0, none⟩))), (28, (.int .i64 e83.xInside.xBase)), (31, (.int .i64 e83.xOutside.xBase)), (35, (.pointer (some ⟨b1, 0, none⟩))), (33, (.int .i64 r12.xFrom))] [cellCh b85 [(.int .i64 e83.xInside.xBase), (.int .i64 e83.xInside.xLength), (.int .i64 e83.xOutside.xBase), (.int .i64 e83.xOutside.xLength)] 38, cellCh b1 [v2, (.int .i64 r82)] 99, cellCh b14 [(.int .i64 r12.xFrom), (.int .i64 r12.xTo), (.int .i64 r12.xPort), (.int .i64 r12.xProto)] 26, ownCh elGRewrite 38 v9 r8, cellCh b6 [(.int .i64 0), (.int .i64 0), (.int .i64 0), (.int .i64 0)] 26, snapCh w0 F] (L_spec_l20Rd_pick r_0_b r82 3 (fun (r91, r92) => idxW ([e83.xInside.xBase, e83.xOutside.xBase, r12.xFrom]) r91 (fun e93 => k89 (r92, e93)))) := by
            intro _
            refine d_two (i := 8) (j := 10) rfl rfl (by kernel_rfl) ?_ ?_
            · intro o ho; cases ho
              refine o_bsl (enc := encInt) (qs := [(0, (.int .i64 e83.xInside.xBase)), (1, (.int .i64 e83.xOutside.xBase)), (2, (.int .i64 r12.xFrom))]) (cells := [(.int .i64 e83.xInside.xBase), (.int .i64 e83.xOutside.xBase), (.int .i64 r12.xFrom)]) ([e83.xInside.xBase, e83.xOutside.xBase, r12.xFrom]) flelInt (by intro ρ h; simp only [List.map_toArray, List.map_cons, List.map_nil, h (.tmp 28) _ rfl, h (.tmp 31) _ rfl, h (.tmp 33) _ rfl]) rfl el101 zero3 rfl rfl rfl rfl rfl rfl ?_; intro v90
              refine d_and (fun w m => m.pick [1, 4, 5, 6] rfl) ?_
              refine pk [0, 1, 2, 3, 4, 5, 6] rfl ?_
              refine re (E' := [(0, (.pointer (some ⟨b1, 0, none⟩))), (3, (.pointer (some ⟨b6, 0, none⟩))), (4, v9), (5, (.pointer (some ⟨b14, 0, none⟩))), (6, (.pointer (some ⟨b85, 0, none⟩))), (35, (.pointer (some ⟨b1, 0, none⟩))), (34, v90)]) ⟨rfl, rfl, rfl, rfl, rfl, rfl, rfl, trivial⟩ ?_
              exact H498 v90
            · intro o ho; cases ho
              refine pk [1, 0, 2, 3, 4, 5] rfl ?_
              refine o_call (vs := [(.pointer (some ⟨b1, 0, none⟩)), (.int .i64 3)]) (M0 := [cellCh b1 [v2, (.int .i64 r82)] 99]) Tryd.call62 rfl rfl (by intro w m h; exact (w_spec_l20Rd_pick (F := allB [cellCh b1 [v2, (.int .i64 r82)] 99] w) (r_0_b := r_0_b) (r_0_p := r82) (n_1 := 3) allB_ok m.given (m.rdM 4 rfl (reads_snap hv2)) h).mono (fun _ _ k => ret_free (fun r u => (fr_cons free_cell fr_nil)) k)) ?_; rintro ⟨r95, r96⟩ _
              refine d_and (fun w m => m.pick [1, 3, 4, 5] rfl) ?_
              refine pk [0, 1, 2, 3, 4, 5] rfl ?_
              refine re (E' := [(0, (.pointer (some ⟨b1, 0, none⟩))), (3, (.pointer (some ⟨b6, 0, none⟩))), (4, v9), (5, (.pointer (some ⟨b14, 0, none⟩))), (6, (.pointer (some ⟨b85, 0, none⟩))), (28, (.int .i64 e83.xInside.xBase)), (31, (.int .i64 e83.xOutside.xBase)), (33, (.int .i64 r12.xFrom)), (36, (.int .i64 r95))]) ⟨rfl, rfl, rfl, rfl, rfl, rfl, rfl, rfl, rfl, trivial⟩ ?_
              exact H499 r95 r96
          have H501 : ∀ (r98 : Int) (r99 : Int), Nx 56 (gB F [cellCh b1 [v2, (.int .i64 r_0_p)] 99] w0) (feet [cellCh b1 [v2, (.int .i64 r_0_p)] 99]) w0 (wpAnyH Tryd.prog .any (opsAt Tryd.f47 [1, 1, 1, 0, 1, 0, 1, 0]) Qd (Mem (gB F [cellCh b1 [v2, (.int .i64 r_0_p)] 99] w0) (feet [cellCh b1 [v2, (.int .i64 r_0_p)] 99]) w0 [cellCh b85 [(.int .i64 e83.xInside.xBase), (.int .i64 e83.xInside.xLength), (.int .i64 e83.xOutside.xBase), (.int .i64 e83.xOutside.xLength)] 38, ownCh elGRewrite 38 v9 r8, cellCh b6 [(.int .i64 0), (.int .i64 0), (.int .i64 0), (.int .i64 0)] 26, snapCh w0 F]) 6 #[true, true, true, true, true, true, true, false, false, true, true, false, false, false, false]) [(0, (.pointer (some ⟨b1, 0, none⟩))), (3, (.pointer (some ⟨b6, 0, none⟩))), (4, v9), (5, (.pointer (some ⟨b14, 0, none⟩))), (6, (.pointer (some ⟨b85, 0, none⟩))), (28, (.int .i64 e83.xInside.xBase)), (31, (.int .i64 e83.xOutside.xBase)), (32, (.pointer (some ⟨b14, 0, none⟩))), (36, (.int .i64 r98))] [cellCh b1 [v2, (.int .i64 r99)] 99, cellCh b85 [(.int .i64 e83.xInside.xBase), (.int .i64 e83.xInside.xLength), (.int .i64 e83.xOutside.xBase), (.int .i64 e83.xOutside.xLength)] 38, cellCh b14 [(.int .i64 r12.xFrom), (.int .i64 r12.xTo), (.int .i64 r12.xPort), (.int .i64 r12.xProto)] 26, ownCh elGRewrite 38 v9 r8, cellCh b6 [(.int .i64 0), (.int .i64 0), (.int .i64 0), (.int .i64 0)] 26, snapCh w0 F] (idxW ([e83.xInside.xBase, e83.xOutside.xBase, r12.xFrom]) r98 (fun e93 => k89 (r99, e93))) := by
            intro r98 r99
            refine d_one (i := 7) rfl (by kernel_rfl) (o_ldc m_op (v := (.int .i64 r12.xFrom)) 2 rfl rfl rfl ty3 rfl ?_)
            refine d_and (fun w m => m.pick [1, 3, 4, 5] rfl) ?_
            refine pk [0, 1, 2, 3, 4, 5] rfl ?_
            refine re (E' := [(0, (.pointer (some ⟨b1, 0, none⟩))), (3, (.pointer (some ⟨b6, 0, none⟩))), (4, v9), (5, (.pointer (some ⟨b14, 0, none⟩))), (6, (.pointer (some ⟨b85, 0, none⟩))), (28, (.int .i64 e83.xInside.xBase)), (31, (.int .i64 e83.xOutside.xBase)), (33, (.int .i64 r12.xFrom)), (36, (.int .i64 r98))]) ⟨rfl, rfl, rfl, rfl, rfl, rfl, rfl, rfl, rfl, trivial⟩ ?_
            exact H499 r98 r99
          refine o_fad (dt 0 (fun w m => m.pick [0, 3, 4, 5] rfl)) rfl rfl fld38_0 rfl ?_
          refine o_fad (dt 1 (fun w m => m.pick [0, 3, 4, 5] rfl)) rfl rfl fld36_0 rfl ?_
          refine o_ldc (dt 2 (fun w m => m.pick [0, 3, 4, 5] rfl)) (v := (.int .i64 e83.xInside.xBase)) 0 rfl rfl rfl ty3 rfl ?_
          refine o_fad (dt 3 (fun w m => m.pick [0, 3, 4, 5] rfl)) rfl rfl fld38_1 rfl ?_
          refine o_fad (dt 4 (fun w m => m.pick [0, 3, 4, 5] rfl)) rfl rfl fld36_0 rfl ?_
          refine o_ldc (dt 5 (fun w m => m.pick [0, 3, 4, 5] rfl)) (v := (.int .i64 e83.xOutside.xBase)) 0 rfl rfl rfl ty3 rfl ?_
          refine o_fad (dt 6 (fun w m => m.pick [0, 3, 4, 5] rfl)) rfl rfl fld26_0 rfl ?_
          refine o_mv (dt 9 (fun w m => m.pick [0, 3, 4, 5] rfl)) rfl rfl ?_
          refine d_two (i := 7) (j := 10) rfl rfl (by kernel_rfl) ?_ ?_
          · intro o ho; cases ho
            refine o_ldc m_op (v := (.int .i64 r12.xFrom)) 2 rfl rfl rfl ty3 rfl ?_
            refine d_and (fun w m => m.pick [0, 3, 4, 5] rfl) ?_
            refine pk [0, 1, 2, 3, 4, 5] rfl ?_
            refine re (E' := [(0, (.pointer (some ⟨b1, 0, none⟩))), (3, (.pointer (some ⟨b6, 0, none⟩))), (4, v9), (5, (.pointer (some ⟨b14, 0, none⟩))), (6, (.pointer (some ⟨b85, 0, none⟩))), (28, (.int .i64 e83.xInside.xBase)), (31, (.int .i64 e83.xOutside.xBase)), (35, (.pointer (some ⟨b1, 0, none⟩))), (33, (.int .i64 r12.xFrom))]) ⟨rfl, rfl, rfl, rfl, rfl, rfl, rfl, rfl, rfl, trivial⟩ ?_
            exact H500 ()
          · intro o ho; cases ho
            refine pk [1, 0, 2, 3, 4, 5] rfl ?_
            refine o_call (vs := [(.pointer (some ⟨b1, 0, none⟩)), (.int .i64 3)]) (M0 := [cellCh b1 [v2, (.int .i64 r82)] 99]) Tryd.call62 rfl rfl (by intro w m h; exact (w_spec_l20Rd_pick (F := allB [cellCh b1 [v2, (.int .i64 r82)] 99] w) (r_0_b := r_0_b) (r_0_p := r82) (n_1 := 3) allB_ok m.given (m.rdM 4 rfl (reads_snap hv2)) h).mono (fun _ _ k => ret_free (fun r u => (fr_cons free_cell fr_nil)) k)) ?_; rintro ⟨r98, r99⟩ _
            refine d_and (fun w m => m.pick [1, 3, 4, 5] rfl) ?_
            refine pk [0, 1, 2, 3, 4, 5] rfl ?_
            refine re (E' := [(0, (.pointer (some ⟨b1, 0, none⟩))), (3, (.pointer (some ⟨b6, 0, none⟩))), (4, v9), (5, (.pointer (some ⟨b14, 0, none⟩))), (6, (.pointer (some ⟨b85, 0, none⟩))), (28, (.int .i64 e83.xInside.xBase)), (31, (.int .i64 e83.xOutside.xBase)), (32, (.pointer (some ⟨b14, 0, none⟩))), (36, (.int .i64 r98))]) ⟨rfl, rfl, rfl, rfl, rfl, rfl, rfl, rfl, rfl, trivial⟩ ?_
            exact H501 r98 r99
        · rintro ⟨t87, t88⟩ a w ⟨hE, hm⟩ h
          refine nx_of hE hm h ?_
          clear hE hm h
          refine c_join1 (σ := (Int × Int)) (fun ((t100, t101) : (Int × Int)) (a : Act) (w : World) => Has 56 [(3, (.pointer (some ⟨b6, 0, none⟩))), (4, v9), (5, (.pointer (some ⟨b14, 0, none⟩)))] a ∧ Mem (gB F [cellCh b1 [v2, (.int .i64 r_0_p)] 99] w0) (feet [cellCh b1 [v2, (.int .i64 r_0_p)] 99]) w0 [cellCh b1 [v2, (.int .i64 t100)] 99, cellCh b14 [(.int .i64 t88), (.int .i64 t101), (.int .i64 r12.xPort), (.int .i64 r12.xProto)] 26, ownCh elGRewrite 38 v9 r8, cellCh b6 [(.int .i64 0), (.int .i64 0), (.int .i64 0), (.int .i64 0)] 26, snapCh w0 F] w) ?_ ?_
          · intro k102
            refine c_drawQ mixed 15 rfl [cellCh b85 [(.int .i64 e83.xInside.xBase), (.int .i64 e83.xInside.xLength), (.int .i64 e83.xOutside.xBase), (.int .i64 e83.xOutside.xLength)] 38, ownCh elGRewrite 38 v9 r8, cellCh b6 [(.int .i64 0), (.int .i64 0), (.int .i64 0), (.int .i64 0)] 26, snapCh w0 F] ?_
            intro Qd hP hQ
            have H503 : ∀ (v103 : Value) (r104 : Int) (r105 : Int) (e106 : Int) (h107 : ([e83.xInside.xBase, e83.xOutside.xBase, r12.xTo])[(r104).toNat]? = some e106), Nx 56 (gB F [cellCh b1 [v2, (.int .i64 r_0_p)] 99] w0) (feet [cellCh b1 [v2, (.int .i64 r_0_p)] 99]) w0 (wpAnyH Tryd.prog .any (opsAt Tryd.f47 [1, 1, 1, 0, 1, 0, 1, 1]) Qd (Mem (gB F [cellCh b1 [v2, (.int .i64 r_0_p)] 99] w0) (feet [cellCh b1 [v2, (.int .i64 r_0_p)] 99]) w0 [cellCh b85 [(.int .i64 e83.xInside.xBase), (.int .i64 e83.xInside.xLength), (.int .i64 e83.xOutside.xBase), (.int .i64 e83.xOutside.xLength)] 38, ownCh elGRewrite 38 v9 r8, cellCh b6 [(.int .i64 0), (.int .i64 0), (.int .i64 0), (.int .i64 0)] 26, snapCh w0 F]) 0 #[true, true, true, true, true, true, true, true, true, true, true, true, true, true, true]) [(3, (.pointer (some ⟨b6, 0, none⟩))), (4, v9), (5, (.pointer (some ⟨b14, 0, none⟩)))] [cellCh b1 [v2, (.int .i64 r105)] 99, cellCh b85 [(.int .i64 e83.xInside.xBase), (.int .i64 e83.xInside.xLength), (.int .i64 e83.xOutside.xBase), (.int .i64 e83.xOutside.xLength)] 38, cellCh b14 [(.int .i64 t88), (.int .i64 e106), (.int .i64 r12.xPort), (.int .i64 r12.xProto)] 26, ownCh elGRewrite 38 v9 r8, cellCh b6 [(.int .i64 0), (.int .i64 0), (.int .i64 0), (.int .i64 0)] 26, snapCh w0 F] (k102 (r105, e106)) := by
              intro v103 r104 r105 e106 h107
              refine d_done (by kernel_rfl) ?_
              exact fun a w hE hm hφ => hQ (r105, e106) a w hφ ((fun a w hE hm => ⟨hE.sub ⟨rfl, rfl, rfl, trivial⟩, (hm.pick [0, 2, 3, 4, 5] rfl)⟩) a w hE hm)
            have H504 : ∀ (v103 : Value) (r104 : Int) (r105 : Int) (e106 : Int) (h107 : ([e83.xInside.xBase, e83.xOutside.xBase, r12.xTo])[(r104).toNat]? = some e106), Nx 56 (gB F [cellCh b1 [v2, (.int .i64 r_0_p)] 99] w0) (feet [cellCh b1 [v2, (.int .i64 r_0_p)] 99]) w0 (wpAnyH Tryd.prog .any (opsAt Tryd.f47 [1, 1, 1, 0, 1, 0, 1, 1]) Qd (Mem (gB F [cellCh b1 [v2, (.int .i64 r_0_p)] 99] w0) (feet [cellCh b1 [v2, (.int .i64 r_0_p)] 99]) w0 [cellCh b85 [(.int .i64 e83.xInside.xBase), (.int .i64 e83.xInside.xLength), (.int .i64 e83.xOutside.xBase), (.int .i64 e83.xOutside.xLength)] 38, ownCh elGRewrite 38 v9 r8, cellCh b6 [(.int .i64 0), (.int .i64 0), (.int .i64 0), (.int .i64 0)] 26, snapCh w0 F]) 2 #[true, true, true, true, true, true, true, true, true, true, true, true, true, false, false]) [(3, (.pointer (some ⟨b6, 0, none⟩))), (4, v9), (5, (.pointer (some ⟨b14, 0, none⟩))), (52, (.int .i64 e106))] [cellCh b1 [v2, (.int .i64 r105)] 99, cellCh b85 [(.int .i64 e83.xInside.xBase), (.int .i64 e83.xInside.xLength), (.int .i64 e83.xOutside.xBase), (.int .i64 e83.xOutside.xLength)] 38, cellCh b14 [(.int .i64 t88), (.int .i64 r12.xTo), (.int .i64 r12.xPort), (.int .i64 r12.xProto)] 26, ownCh elGRewrite 38 v9 r8, cellCh b6 [(.int .i64 0), (.int .i64 0), (.int .i64 0), (.int .i64 0)] 26, snapCh w0 F] (k102 (r105, e106)) := by
              intro v103 r104 r105 e106 h107
              refine o_fad (dt 13 (fun w m => m.pick [1, 3, 4, 5] rfl)) rfl rfl fld26_1 rfl ?_
              refine d_one (i := 14) rfl (by kernel_rfl) (o_stc (cs' := [(.int .i64 t88), (.int .i64 e106), (.int .i64 r12.xPort), (.int .i64 r12.xProto)]) 2 rfl rfl rfl ty3 rfl rfl rfl rfl ?_)
              refine d_and (fun w m => m.pick [1, 3, 4, 5] rfl) ?_
              refine pk [0, 1, 2, 3, 4, 5] rfl ?_
              refine re (E' := [(3, (.pointer (some ⟨b6, 0, none⟩))), (4, v9), (5, (.pointer (some ⟨b14, 0, none⟩)))]) ⟨rfl, rfl, rfl, trivial⟩ ?_
              exact H503 v103 r104 r105 e106 h107
            have H505 : ∀ (v103 : Value) (r104 : Int) (r105 : Int) (e106 : Int) (h107 : ([e83.xInside.xBase, e83.xOutside.xBase, r12.xTo])[(r104).toNat]? = some e106), Nx 56 (gB F [cellCh b1 [v2, (.int .i64 r_0_p)] 99] w0) (feet [cellCh b1 [v2, (.int .i64 r_0_p)] 99]) w0 (wpAnyH Tryd.prog .any (opsAt Tryd.f47 [1, 1, 1, 0, 1, 0, 1, 1]) Qd (Mem (gB F [cellCh b1 [v2, (.int .i64 r_0_p)] 99] w0) (feet [cellCh b1 [v2, (.int .i64 r_0_p)] 99]) w0 [cellCh b85 [(.int .i64 e83.xInside.xBase), (.int .i64 e83.xInside.xLength), (.int .i64 e83.xOutside.xBase), (.int .i64 e83.xOutside.xLength)] 38, ownCh elGRewrite 38 v9 r8, cellCh b6 [(.int .i64 0), (.int .i64 0), (.int .i64 0), (.int .i64 0)] 26, snapCh w0 F]) 3 #[true, true, true, true, true, true, true, true, true, true, true, true, false, false, false]) [(3, (.pointer (some ⟨b6, 0, none⟩))), (4, v9), (5, (.pointer (some ⟨b14, 0, none⟩))), (51, (pEl v103 r104 1 0))] [cellCh b1 [v2, (.int .i64 r105)] 99, ownCh elInt 3 v103 ([e83.xInside.xBase, e83.xOutside.xBase, r12.xTo]), cellCh b85 [(.int .i64 e83.xInside.xBase), (.int .i64 e83.xInside.xLength), (.int .i64 e83.xOutside.xBase), (.int .i64 e83.xOutside.xLength)] 38, cellCh b14 [(.int .i64 t88), (.int .i64 r12.xTo), (.int .i64 r12.xPort), (.int .i64 r12.xProto)] 26, ownCh elGRewrite 38 v9 r8, cellCh b6 [(.int .i64 0), (.int .i64 0), (.int .i64 0), (.int .i64 0)] 26, snapCh w0 F] (k102 (r105, e106)) := by
              intro v103 r104 r105 e106 h107
              refine d_one (i := 12) rfl (by kernel_rfl) (o_lds m_op (enc := encInt) (u := (.int .i64 e106)) 1 rfl reads_own flelInt rfl h107 rfl rfl ty3 rfl ?_)
              refine d_and (fun w m => m.pick [2, 4, 5, 6] rfl) ?_
              refine pk [0, 2, 3, 4, 5, 6] rfl ?_
              refine re (E' := [(3, (.pointer (some ⟨b6, 0, none⟩))), (4, v9), (5, (.pointer (some ⟨b14, 0, none⟩))), (52, (.int .i64 e106))]) ⟨rfl, rfl, rfl, rfl, trivial⟩ ?_
              exact H504 v103 r104 r105 e106 h107
            have H506 : ∀ (v103 : Value) (r104 : Int) (r105 : Int), Nx 56 (gB F [cellCh b1 [v2, (.int .i64 r_0_p)] 99] w0) (feet [cellCh b1 [v2, (.int .i64 r_0_p)] 99]) w0 (wpAnyH Tryd.prog .any (opsAt Tryd.f47 [1, 1, 1, 0, 1, 0, 1, 1]) Qd (Mem (gB F [cellCh b1 [v2, (.int .i64 r_0_p)] 99] w0) (feet [cellCh b1 [v2, (.int .i64 r_0_p)] 99]) w0 [cellCh b85 [(.int .i64 e83.xInside.xBase), (.int .i64 e83.xInside.xLength), (.int .i64 e83.xOutside.xBase), (.int .i64 e83.xOutside.xLength)] 38, ownCh elGRewrite 38 v9 r8, cellCh b6 [(.int .i64 0), (.int .i64 0), (.int .i64 0), (.int .i64 0)] 26, snapCh w0 F]) 4 #[true, true, true, true, true, true, true, true, true, true, true, false, false, false, false]) [(3, (.pointer (some ⟨b6, 0, none⟩))), (4, v9), (5, (.pointer (some ⟨b14, 0, none⟩))), (48, v103), (50, (.int .i64 r104))] [cellCh b1 [v2, (.int .i64 r105)] 99, ownCh elInt 3 v103 ([e83.xInside.xBase, e83.xOutside.xBase, r12.xTo]), cellCh b85 [(.int .i64 e83.xInside.xBase), (.int .i64 e83.xInside.xLength), (.int .i64 e83.xOutside.xBase), (.int .i64 e83.xOutside.xLength)] 38, cellCh b14 [(.int .i64 t88), (.int .i64 r12.xTo), (.int .i64 r12.xPort), (.int .i64 r12.xProto)] 26, ownCh elGRewrite 38 v9 r8, cellCh b6 [(.int .i64 0), (.int .i64 0), (.int .i64 0), (.int .i64 0)] 26, snapCh w0 F] (idxW ([e83.xInside.xBase, e83.xOutside.xBase, r12.xTo]) r104 (fun e106 => k102 (r105, e106))) := by
              intro v103 r104 r105
              refine d_one (i := 11) rfl (by kernel_rfl) (o_idx m_op 1 rfl reads_own rfl rfl rfl el101 ?_); intro e106 h107
              refine d_and (fun w m => m.pick [2, 4, 5, 6] rfl) ?_
              refine pk [0, 1, 2, 3, 4, 5, 6] rfl ?_
              refine re (E' := [(3, (.pointer (some ⟨b6, 0, none⟩))), (4, v9), (5, (.pointer (some ⟨b14, 0, none⟩))), (51, (pEl v103 r104 1 0))]) ⟨rfl, rfl, rfl, rfl, trivial⟩ ?_
              exact H505 v103 r104 r105 e106 h107
            have H507 : ∀ (v103 : Value), Nx 56 (gB F [cellCh b1 [v2, (.int .i64 r_0_p)] 99] w0) (feet [cellCh b1 [v2, (.int .i64 r_0_p)] 99]) w0 (wpAnyH Tryd.prog .any (opsAt Tryd.f47 [1, 1, 1, 0, 1, 0, 1, 1]) Qd (Mem (gB F [cellCh b1 [v2, (.int .i64 r_0_p)] 99] w0) (feet [cellCh b1 [v2, (.int .i64 r_0_p)] 99]) w0 [cellCh b85 [(.int .i64 e83.xInside.xBase), (.int .i64 e83.xInside.xLength), (.int .i64 e83.xOutside.xBase), (.int .i64 e83.xOutside.xLength)] 38, ownCh elGRewrite 38 v9 r8, cellCh b6 [(.int .i64 0), (.int .i64 0), (.int .i64 0), (.int .i64 0)] 26, snapCh w0 F]) 5 #[true, true, true, true, true, true, true, true, true, true, false, false, false, false, false]) [(3, (.pointer (some ⟨b6, 0, none⟩))), (4, v9), (5, (.pointer (some ⟨b14, 0, none⟩))), (49, (.pointer (some ⟨b1, 0, none⟩))), (48, v103)] [ownCh elInt 3 v103 ([e83.xInside.xBase, e83.xOutside.xBase, r12.xTo]), cellCh b1 [v2, (.int .i64 t87)] 99, cellCh b85 [(.int .i64 e83.xInside.xBase), (.int .i64 e83.xInside.xLength), (.int .i64 e83.xOutside.xBase), (.int .i64 e83.xOutside.xLength)] 38, cellCh b14 [(.int .i64 t88), (.int .i64 r12.xTo), (.int .i64 r12.xPort), (.int .i64 r12.xProto)] 26, ownCh elGRewrite 38 v9 r8, cellCh b6 [(.int .i64 0), (.int .i64 0), (.int .i64 0), (.int .i64 0)] 26, snapCh w0 F] (L_spec_l20Rd_pick r_0_b t87 3 (fun (r104, r105) => idxW ([e83.xInside.xBase, e83.xOutside.xBase, r12.xTo]) r104 (fun e106 => k102 (r105, e106)))) := by
              intro v103
              refine pk [1, 0, 2, 3, 4, 5, 6] rfl ?_
              refine d_one (i := 10) rfl (by kernel_rfl) (o_call (vs := [(.pointer (some ⟨b1, 0, none⟩)), (.int .i64 3)]) (M0 := [cellCh b1 [v2, (.int .i64 t87)] 99]) Tryd.call62 rfl rfl (by intro w m h; exact (w_spec_l20Rd_pick (F := allB [cellCh b1 [v2, (.int .i64 t87)] 99] w) (r_0_b := r_0_b) (r_0_p := t87) (n_1 := 3) allB_ok m.given (m.rdM 5 rfl (reads_snap hv2)) h).mono (fun _ _ k => ret_free (fun r u => (fr_cons free_cell fr_nil)) k)) ?_); rintro ⟨r104, r105⟩ _
              refine d_and (fun w m => m.pick [2, 4, 5, 6] rfl) ?_
              refine pk [0, 1, 2, 3, 4, 5, 6] rfl ?_
              refine re (E' := [(3, (.pointer (some ⟨b6, 0, none⟩))), (4, v9), (5, (.pointer (some ⟨b14, 0, none⟩))), (48, v103), (50, (.int .i64 r104))]) ⟨rfl, rfl, rfl, rfl, rfl, trivial⟩ ?_
              exact H506 v103 r104 r105
            have H508 : ∀ (r108 : Int) (r109 : Int), Nx 56 (gB F [cellCh b1 [v2, (.int .i64 r_0_p)] 99] w0) (feet [cellCh b1 [v2, (.int .i64 r_0_p)] 99]) w0 (wpAnyH Tryd.prog .any (opsAt Tryd.f47 [1, 1, 1, 0, 1, 0, 1, 1]) Qd (Mem (gB F [cellCh b1 [v2, (.int .i64 r_0_p)] 99] w0) (feet [cellCh b1 [v2, (.int .i64 r_0_p)] 99]) w0 [cellCh b85 [(.int .i64 e83.xInside.xBase), (.int .i64 e83.xInside.xLength), (.int .i64 e83.xOutside.xBase), (.int .i64 e83.xOutside.xLength)] 38, ownCh elGRewrite 38 v9 r8, cellCh b6 [(.int .i64 0), (.int .i64 0), (.int .i64 0), (.int .i64 0)] 26, snapCh w0 F]) 5 #[true, true, true, true, true, true, true, true, false, true, true, false, false, false, false]) [(3, (.pointer (some ⟨b6, 0, none⟩))), (4, v9), (5, (.pointer (some ⟨b14, 0, none⟩))), (42, (.int .i64 e83.xInside.xBase)), (45, (.int .i64 e83.xOutside.xBase)), (47, (.int .i64 r12.xTo)), (50, (.int .i64 r108))] [cellCh b1 [v2, (.int .i64 r109)] 99, cellCh b85 [(.int .i64 e83.xInside.xBase), (.int .i64 e83.xInside.xLength), (.int .i64 e83.xOutside.xBase), (.int .i64 e83.xOutside.xLength)] 38, cellCh b14 [(.int .i64 t88), (.int .i64 r12.xTo), (.int .i64 r12.xPort), (.int .i64 r12.xProto)] 26, ownCh elGRewrite 38 v9 r8, cellCh b6 [(.int .i64 0), (.int .i64 0), (.int .i64 0), (.int .i64 0)] 26, snapCh w0 F] (idxW ([e83.xInside.xBase, e83.xOutside.xBase, r12.xTo]) r108 (fun e106 => k102 (r109, e106))) := by
              intro r108 r109
              refine d_one (i := 8) rfl (by kernel_rfl) (o_bsl (enc := encInt) (qs := [(0, (.int .i64 e83.xInside.xBase)), (1, (.int .i64 e83.xOutside.xBase)), (2, (.int .i64 r12.xTo))]) (cells := [(.int .i64 e83.xInside.xBase), (.int .i64 e83.xOutside.xBase), (.int .i64 r12.xTo)]) ([e83.xInside.xBase, e83.xOutside.xBase, r12.xTo]) flelInt (by intro ρ h; simp only [List.map_toArray, List.map_cons, List.map_nil, h (.tmp 42) _ rfl, h (.tmp 45) _ rfl, h (.tmp 47) _ rfl]) rfl el101 zero3 rfl rfl rfl rfl rfl rfl ?_); intro v110
              refine d_and (fun w m => m.pick [2, 4, 5, 6] rfl) ?_
              refine pk [1, 0, 2, 3, 4, 5, 6] rfl ?_
              refine re (E' := [(3, (.pointer (some ⟨b6, 0, none⟩))), (4, v9), (5, (.pointer (some ⟨b14, 0, none⟩))), (48, v110), (50, (.int .i64 r108))]) ⟨rfl, rfl, rfl, rfl, rfl, trivial⟩ ?_
              exact H506 v110 r108 r109
            have H509 : ∀ (_ : Unit), Nx 56 (gB F [cellCh b1 [v2, (.int .i64 r_0_p)] 99] w0) (feet [cellCh b1 [v2, (.int .i64 r_0_p)] 99]) w0 (wpAnyH Tryd.prog .any (opsAt Tryd.f47 [1, 1, 1, 0, 1, 0, 1, 1]) Qd (Mem (gB F [cellCh b1 [v2, (.int .i64 r_0_p)] 99] w0) (feet [cellCh b1 [v2, (.int .i64 r_0_p)] 99]) w0 [cellCh b85 [(.int .i64 e83.xInside.xBase), (.int .i64 e83.xInside.xLength), (.int .i64 e83.xOutside.xBase), (.int .i64 e83.xOutside.xLength)] 38, ownCh elGRewrite 38 v9 r8, cellCh b6 [(.int .i64 0), (.int .i64 0), (.int .i64 0), (.int .i64 0)] 26, snapCh w0 F]) 6 #[true, true, true, true, true, true, true, true, false, true, false, false, false, false, false]) [(3, (.pointer (some ⟨b6, 0, none⟩))), (4, v9), (5, (.pointer (some ⟨b14, 0, none⟩))), (42, (.int .i64 e83.xInside.xBase)), (45, (.int .i64 e83.xOutside.xBase)), (49, (.pointer (some ⟨b1, 0, none⟩))), (47, (.int .i64 r12.xTo))] [cellCh b1 [v2, (.int .i64 t87)] 99, cellCh b85 [(.int .i64 e83.xInside.xBase), (.int .i64 e83.xInside.xLength), (.int .i64 e83.xOutside.xBase), (.int .i64 e83.xOutside.xLength)] 38, cellCh b14 [(.int .i64 t88), (.int .i64 r12.xTo), (.int .i64 r12.xPort), (.int .i64 r12.xProto)] 26, ownCh elGRewrite 38 v9 r8, cellCh b6 [(.int .i64 0), (.int .i64 0), (.int .i64 0), (.int .i64 0)] 26, snapCh w0 F] (L_spec_l20Rd_pick r_0_b t87 3 (fun (r104, r105) => idxW ([e83.xInside.xBase, e83.xOutside.xBase, r12.xTo]) r104 (fun e106 => k102 (r105, e106)))) := by
              intro _
              refine d_two (i := 8) (j := 10) rfl rfl (by kernel_rfl) ?_ ?_
              · intro o ho; cases ho
                refine o_bsl (enc := encInt) (qs := [(0, (.int .i64 e83.xInside.xBase)), (1, (.int .i64 e83.xOutside.xBase)), (2, (.int .i64 r12.xTo))]) (cells := [(.int .i64 e83.xInside.xBase), (.int .i64 e83.xOutside.xBase), (.int .i64 r12.xTo)]) ([e83.xInside.xBase, e83.xOutside.xBase, r12.xTo]) flelInt (by intro ρ h; simp only [List.map_toArray, List.map_cons, List.map_nil, h (.tmp 42) _ rfl, h (.tmp 45) _ rfl, h (.tmp 47) _ rfl]) rfl el101 zero3 rfl rfl rfl rfl rfl rfl ?_; intro v103
                refine d_and (fun w m => m.pick [2, 4, 5, 6] rfl) ?_
                refine pk [0, 1, 2, 3, 4, 5, 6] rfl ?_
                refine re (E' := [(3, (.pointer (some ⟨b6, 0, none⟩))), (4, v9), (5, (.pointer (some ⟨b14, 0, none⟩))), (49, (.pointer (some ⟨b1, 0, none⟩))), (48, v103)]) ⟨rfl, rfl, rfl, rfl, rfl, trivial⟩ ?_
                exact H507 v103
              · intro o ho; cases ho
                refine o_call (vs := [(.pointer (some ⟨b1, 0, none⟩)), (.int .i64 3)]) (M0 := [cellCh b1 [v2, (.int .i64 t87)] 99]) Tryd.call62 rfl rfl (by intro w m h; exact (w_spec_l20Rd_pick (F := allB [cellCh b1 [v2, (.int .i64 t87)] 99] w) (r_0_b := r_0_b) (r_0_p := t87) (n_1 := 3) allB_ok m.given (m.rdM 4 rfl (reads_snap hv2)) h).mono (fun _ _ k => ret_free (fun r u => (fr_cons free_cell fr_nil)) k)) ?_; rintro ⟨r108, r109⟩ _
                refine d_and (fun w m => m.pick [1, 3, 4, 5] rfl) ?_
                refine pk [0, 1, 2, 3, 4, 5] rfl ?_
                refine re (E' := [(3, (.pointer (some ⟨b6, 0, none⟩))), (4, v9), (5, (.pointer (some ⟨b14, 0, none⟩))), (42, (.int .i64 e83.xInside.xBase)), (45, (.int .i64 e83.xOutside.xBase)), (47, (.int .i64 r12.xTo)), (50, (.int .i64 r108))]) ⟨rfl, rfl, rfl, rfl, rfl, rfl, rfl, trivial⟩ ?_
                exact H508 r108 r109
            have H510 : ∀ (r111 : Int) (r112 : Int), Nx 56 (gB F [cellCh b1 [v2, (.int .i64 r_0_p)] 99] w0) (feet [cellCh b1 [v2, (.int .i64 r_0_p)] 99]) w0 (wpAnyH Tryd.prog .any (opsAt Tryd.f47 [1, 1, 1, 0, 1, 0, 1, 1]) Qd (Mem (gB F [cellCh b1 [v2, (.int .i64 r_0_p)] 99] w0) (feet [cellCh b1 [v2, (.int .i64 r_0_p)] 99]) w0 [cellCh b85 [(.int .i64 e83.xInside.xBase), (.int .i64 e83.xInside.xLength), (.int .i64 e83.xOutside.xBase), (.int .i64 e83.xOutside.xLength)] 38, ownCh elGRewrite 38 v9 r8, cellCh b6 [(.int .i64 0), (.int .i64 0), (.int .i64 0), (.int .i64 0)] 26, snapCh w0 F]) 6 #[true, true, true, true, true, true, true, false, false, true, true, false, false, false, false]) [(3, (.pointer (some ⟨b6, 0, none⟩))), (4, v9), (5, (.pointer (some ⟨b14, 0, none⟩))), (42, (.int .i64 e83.xInside.xBase)), (45, (.int .i64 e83.xOutside.xBase)), (46, (.pointer (some ⟨b14, 1, none⟩))), (50, (.int .i64 r111))] [cellCh b1 [v2, (.int .i64 r112)] 99, cellCh b85 [(.int .i64 e83.xInside.xBase), (.int .i64 e83.xInside.xLength), (.int .i64 e83.xOutside.xBase), (.int .i64 e83.xOutside.xLength)] 38, cellCh b14 [(.int .i64 t88), (.int .i64 r12.xTo), (.int .i64 r12.xPort), (.int .i64 r12.xProto)] 26, ownCh elGRewrite 38 v9 r8, cellCh b6 [(.int .i64 0), (.int .i64 0), (.int .i64 0), (.int .i64 0)] 26, snapCh w0 F] (idxW ([e83.xInside.xBase, e83.xOutside.xBase, r12.xTo]) r111 (fun e106 => k102 (r112, e106))) := by
              intro r111 r112
              refine d_one (i := 7) rfl (by kernel_rfl) (o_ldc m_op (v := (.int .i64 r12.xTo)) 2 rfl rfl rfl ty3 rfl ?_)
              refine d_and (fun w m => m.pick [1, 3, 4, 5] rfl) ?_
              refine pk [0, 1, 2, 3, 4, 5] rfl ?_
              refine re (E' := [(3, (.pointer (some ⟨b6, 0, none⟩))), (4, v9), (5, (.pointer (some ⟨b14, 0, none⟩))), (42, (.int .i64 e83.xInside.xBase)), (45, (.int .i64 e83.xOutside.xBase)), (47, (.int .i64 r12.xTo)), (50, (.int .i64 r111))]) ⟨rfl, rfl, rfl, rfl, rfl, rfl, rfl, trivial⟩ ?_
              exact H508 r111 r112
            refine o_fad (dt 0 (fun w m => m.pick [1, 3, 4, 5] rfl)) rfl rfl fld38_0 rfl ?_
            refine o_fad (dt 1 (fun w m => m.pick [1, 3, 4, 5] rfl)) rfl rfl fld36_0 rfl ?_
            refine o_ldc (dt 2 (fun w m => m.pick [1, 3, 4, 5] rfl)) (v := (.int .i64 e83.xInside.xBase)) 0 rfl rfl rfl ty3 rfl ?_
            refine o_fad (dt 3 (fun w m => m.pick [1, 3, 4, 5] rfl)) rfl rfl fld38_1 rfl ?_
            refine o_fad (dt 4 (fun w m => m.pick [1, 3, 4, 5] rfl)) rfl rfl fld36_0 rfl ?_
            refine o_ldc (dt 5 (fun w m => m.pick [1, 3, 4, 5] rfl)) (v := (.int .i64 e83.xOutside.xBase)) 0 rfl rfl rfl ty3 rfl ?_
            refine o_fad (dt 6 (fun w m => m.pick [1, 3, 4, 5] rfl)) rfl rfl fld26_1 rfl ?_
            refine o_mv (dt 9 (fun w m => m.pick [1, 3, 4, 5] rfl)) rfl rfl ?_
            refine d_two (i := 7) (j := 10) rfl rfl (by kernel_rfl) ?_ ?_
            · intro o ho; cases ho
              refine o_ldc m_op (v := (.int .i64 r12.xTo)) 2 rfl rfl rfl ty3 rfl ?_
              refine d_and (fun w m => m.pick [1, 3, 4, 5] rfl) ?_
              refine pk [0, 1, 2, 3, 4, 5] rfl ?_
              refine re (E' := [(3, (.pointer (some ⟨b6, 0, none⟩))), (4, v9), (5, (.pointer (some ⟨b14, 0, none⟩))), (42, (.int .i64 e83.xInside.xBase)), (45, (.int .i64 e83.xOutside.xBase)), (49, (.pointer (some ⟨b1, 0, none⟩))), (47, (.int .i64 r12.xTo))]) ⟨rfl, rfl, rfl, rfl, rfl, rfl, rfl, trivial⟩ ?_
              exact H509 ()
            · intro o ho; cases ho
              refine o_call (vs := [(.pointer (some ⟨b1, 0, none⟩)), (.int .i64 3)]) (M0 := [cellCh b1 [v2, (.int .i64 t87)] 99]) Tryd.call62 rfl rfl (by intro w m h; exact (w_spec_l20Rd_pick (F := allB [cellCh b1 [v2, (.int .i64 t87)] 99] w) (r_0_b := r_0_b) (r_0_p := t87) (n_1 := 3) allB_ok m.given (m.rdM 4 rfl (reads_snap hv2)) h).mono (fun _ _ k => ret_free (fun r u => (fr_cons free_cell fr_nil)) k)) ?_; rintro ⟨r111, r112⟩ _
              refine d_and (fun w m => m.pick [1, 3, 4, 5] rfl) ?_
              refine pk [0, 1, 2, 3, 4, 5] rfl ?_
              refine re (E' := [(3, (.pointer (some ⟨b6, 0, none⟩))), (4, v9), (5, (.pointer (some ⟨b14, 0, none⟩))), (42, (.int .i64 e83.xInside.xBase)), (45, (.int .i64 e83.xOutside.xBase)), (46, (.pointer (some ⟨b14, 1, none⟩))), (50, (.int .i64 r111))]) ⟨rfl, rfl, rfl, rfl, rfl, rfl, rfl, trivial⟩ ?_
              exact H510 r111 r112
          · rintro ⟨t100, t101⟩ a w ⟨hE, hm⟩ h
            refine nx_of hE hm h ?_
            clear hE hm h
            exact l_join (t100, t88, t101) (fun a w hE hm => ⟨hE.sub ⟨rfl, rfl, rfl, trivial⟩, (hm.pick [0, 1, 2, 3, 4] rfl)⟩)
      · refine c_skip ?_
        exact l_join (t78, r12.xFrom, r12.xTo) (fun a w hE hm => ⟨hE.sub ⟨rfl, rfl, rfl, trivial⟩, (hm.pick [0, 1, 2, 3, 4] rfl)⟩)
  · rintro ⟨t173, t174, t175⟩ a w ⟨hE, hm⟩ h
    refine nx_of hE hm h ?_
    clear hE hm h
    refine c_seq ?_
    refine c_draw mixed 4 rfl [cellCh b1 [v2, (.int .i64 t173)] 99, cellCh b14 [(.int .i64 t174), (.int .i64 t175), (.int .i64 r12.xPort), (.int .i64 r12.xProto)] 26, ownCh elGRewrite 38 v9 r8, snapCh w0 F] ?_
    refine o_mv (dt 0 (fun w m => m.pick [0, 1, 2, 4] rfl)) rfl rfl ?_
    refine o_ldc (dt 1 (fun w m => m.pick [0, 1, 2, 4] rfl)) (v := (.agg #[(.int .i64 t174), (.int .i64 t175), (.int .i64 r12.xPort), (.int .i64 r12.xProto)])) 1 rfl rfl rfl ty26 rfl ?_
    refine o_as (dt 2 (fun w m => m.pick [0, 1, 2, 4] rfl)) rfl rfl ?_
    refine d_one (i := 3) rfl (by kernel_rfl) (o_stc (cs' := [(.int .i64 t174), (.int .i64 t175), (.int .i64 r12.xPort), (.int .i64 r12.xProto)]) 3 rfl rfl rfl ty26 rfl rfl rfl rfl ?_)
    refine d_and (fun w m => m.pick [0, 1, 2, 4] rfl) ?_
    refine d_done (by kernel_rfl) ?_
    refine l_then ?_
    refine c_ret ?_
    exact l_end2 Tryd.results47 (r8, (GPacket.mk t174 t175 r12.xPort r12.xProto), t173) v9 (rv_t rfl) (rv_c 3 rfl rfl ty26 rfl) rfl (fun w m => NewCh.ofB m [2, 0] rfl)

set_option maxRecDepth 100000 in
set_option maxHeartbeats 8000000 in
theorem w_impl_topValid {w0 : World} {F : Nat → Prop} {top_0 : Int} {κ : Bool → Prop} (hF : ∀ b, F b → b < w0.heap.size ∧ ¬ feet [] b) (h : L_impl_topValid top_0 κ) :
    Calls Tryd.prog 70 #[(.int .i64 top_0)] w0 (Ret [] F w0 κ (fun (r : Bool) (u : Unit) => (.bool r)) (fun (r : Bool) (u : Unit) => [])) := by
  refine enter0 (args := [(.int .i64 top_0)]) [] hF (Given.nil _ _) Tryd.func70 rfl Tryd.ntmps70 rfl h ?_
  clear h hF
  refine c_seq ?_
  refine c_region ?_
  refine o_as st rfl rfl ?_
  refine c_nil ?_
  refine l_then ?_
  refine c_join (σ := Bool) (fun (t61 : Bool) (a : Act) (w : World) => Has 9 [(2, (.bool t61))] a ∧ Mem (gB F [] w0) (feet []) w0 [] w) ?_ ?_
  · intro k62
    refine c_region ?_
    refine o_mv st rfl rfl ?_
    refine o_geq st rfl rfl rfl ?_
    refine o_mv st rfl rfl ?_
    refine st_sp (dj := 5) rfl ?_ ?_
    · refine o_mv (st_g rfl rfl) rfl rfl ?_
      refine o_leq (st_g rfl rfl) rfl rfl rfl ?_
      refine o_pickT st rfl rfl rfl ?_
      refine o_as st rfl rfl ?_
      refine c_nil ?_
      exact l_join (decide (top_0 ≤ 65535)) (fun a w hE hm => ⟨hE.sub ⟨rfl, trivial⟩, (hm.pick [] rfl)⟩)
    · refine st_s rfl rfl rfl rfl ?_
      refine st_s rfl rfl rfl rfl ?_
      refine o_pickF st rfl rfl rfl ?_
      refine o_as st rfl rfl ?_
      refine c_nil ?_
      exact l_join false (fun a w hE hm => ⟨hE.sub ⟨rfl, trivial⟩, (hm.pick [] rfl)⟩)
  · rintro t61 a w ⟨hE, hm⟩ h
    refine nx_of hE hm h ?_
    clear hE hm h
    refine c_ret ?_
    exact l_end1 Tryd.results70 t61 () (rv_t rfl) (fun _ _ => NewCh.nil _ _ _ _)

set_option maxRecDepth 100000 in
set_option maxHeartbeats 8000000 in
theorem w_impl_SpansOf {w0 : World} {F : Nat → Prop} {v1 : Value} {list_0 : (List GSpan)} {top_1 : Int} {κ : (List GSpan) → Prop} (hF : ∀ b, F b → b < w0.heap.size ∧ ¬ feet [] b) (hv1 : Sl elGSpan F w0 v1 list_0) (h : L_impl_SpansOf list_0 top_1 κ) :
    Calls Tryd.prog 52 #[v1, (.int .i64 top_1)] w0 (Ret [] F w0 κ (fun (r : (List GSpan)) (u : Value) => u) (fun (r : (List GSpan)) (u : Value) => [ownCh elGSpan 74 u r])) := by
  refine enterS (args := [v1, (.int .i64 top_1)]) [] hF (Given.nil _ _) Tryd.func52 rfl Tryd.ntmps52 rfl h ?_
  clear h hF
  refine c_seq ?_
  refine c_region ?_
  refine stw (o_asn elGSpan 74 rfl rfl ?_)
  refine c_nil ?_
  refine l_then ?_
  refine c_seq ?_
  refine c_join (σ := Bool) (fun (t65 : Bool) (a : Act) (w : World) => Has 86 [(0, v1), (1, (.int .i64 top_1)), (20, (.bool t65))] a ∧ Mem (gB F [] w0) (feet []) w0 [snapCh w0 F] w) ?_ ?_
  · intro k66
    refine c_region ?_
    refine o_mv st rfl rfl ?_
    refine stw (o_callP (vs := [(.int .i64 top_1)]) Tryd.call70 rfl rfl (by intro w m h; exact (w_impl_topValid (F := allB [] w) (top_0 := top_1) allB_ok h).mono (fun _ _ k => ret_free (fun r u => fr_nil) k)) ?_); rintro r4 _
    refine o_not st rfl rfl ?_
    refine o_mv st rfl rfl ?_
    refine st_sp (dj := 16) rfl ?_ ?_
    · refine st_s rfl rfl rfl rfl ?_
      refine st_s rfl rfl rfl rfl ?_
      refine st_s rfl rfl rfl rfl ?_
      refine o_pickT st rfl rfl rfl ?_
      refine c_nil ?_
      exact l_join true (fun a w hE hm => ⟨hE.sub ⟨rfl, rfl, rfl, trivial⟩, (hm.pick [1] rfl)⟩)
    · refine o_mv (st_g rfl rfl) rfl rfl ?_
      refine o_len (st_g rfl rfl) el50 1 rfl (reads_snap hv1) rfl rfl ?_
      refine o_gtr (st_g rfl rfl) rfl rfl rfl ?_
      refine o_pickF st rfl rfl rfl ?_
      refine c_nil ?_
      exact l_join (decide (40 < (list_0.length : Int))) (fun a w hE hm => ⟨hE.sub ⟨rfl, rfl, rfl, trivial⟩, (hm.pick [1] rfl)⟩)
  · rintro t65 a w ⟨hE, hm⟩ h
    refine nx_of hE hm h ?_
    clear hE hm h
    refine c_cond rfl ?_ ?_
    · refine c_seq ?_
      refine c_region ?_
      refine stw (o_asn elGSpan 74 rfl rfl ?_)
      refine c_nil ?_
      refine l_then ?_
      refine c_ret ?_
      refine l_ret ?_
      exact l_end1 Tryd.results52 ([]) (.slice none 0 0) (rv_t rfl) (fun w m => NewCh.ofB m [0] rfl)
    · refine c_skip ?_
      refine l_then ?_
      refine c_seq ?_
      refine c_region ?_
      refine o_mv st rfl rfl ?_
      refine o_len st el50 0 rfl (reads_snap hv1) rfl rfl ?_
      refine o_mul st rfl rfl rfl ?_; intro t68
      refine stw (o_make (z := (GEdge.mk 0 0)) flelGEdge rfl rfl rfl el105 rfl zero107 rfl rfl ?_); intro v69 xs70
      refine o_as st rfl rfl ?_
      refine c_nil ?_
      refine l_then ?_
      refine c_seq ?_
      refine c_seq ?_
      refine c_region ?_
      refine o_mv st rfl rfl ?_
      refine o_len st el50 1 rfl (reads_snap hv1) rfl rfl ?_
      refine o_mv st rfl rfl ?_
      refine c_nil ?_
      refine l_then ?_
      refine c_block ?_
      refine c_loop (σ := ((List GEdge) × Int)) (fun ((xs73, t76) : ((List GEdge) × Int)) (a : Act) (w : World) => ∃ (v72 : Value), Has 86 [(1, (.int .i64 top_1)), (5, v72), (25, v1), (26, (.int .i64 (list_0.length : Int))), (27, (.int .i64 t76))] a ∧ Mem (gB F [] w0) (feet []) w0 [snapCh w0 F, ownCh elGEdge 107 v72 xs73] w) (fun a w hE hm => ⟨v69, hE.sub ⟨rfl, rfl, rfl, rfl, rfl, trivial⟩, (hm.pick [1, 0] rfl)⟩) ?_
      rintro nx77 ⟨xs73, t76⟩ a w ⟨v72, hE, hm⟩ h
      refine nx_of hE hm h ?_
      clear hE hm h
      refine c_seq ?_
      refine c_region ?_
      refine o_lss st rfl rfl rfl ?_
      refine c_nil ?_
      refine l_then ?_
      refine c_seq ?_
      refine c_cond rfl ?_ ?_
      · refine c_skip ?_
        refine l_then ?_
        refine c_seq ?_
        refine c_block ?_
        refine c_seq ?_
        refine c_region ?_
        refine o_idx st 0 rfl (reads_snap hv1) rfl rfl rfl el50 ?_; intro e78 h79
        refine o_lds st (enc := encGSpan) (u := (.agg #[(.int .i64 e78.xLo), (.int .i64 e78.xHi)])) 0 rfl (reads_snap hv1) flelGSpan rfl h79 rfl rfl ty74 rfl ?_
        refine stw (o_alloc rfl [(.int .i64 0), (.int .i64 0)] zero74 ?_); intro b80
        refine stw (o_stc (cs' := [(.int .i64 e78.xLo), (.int .i64 e78.xHi)]) 0 rfl rfl rfl ty74 rfl rfl rfl rfl ?_)
        refine c_nil ?_
        refine l_then ?_
        refine c_seq ?_
        refine c_join (σ := Bool) (fun (t142 : Bool) (a : Act) (w : World) => Has 86 [(1, (.int .i64 top_1)), (5, v72), (25, v1), (26, (.int .i64 (list_0.length : Int))), (27, (.int .i64 t76)), (7, (.pointer (some ⟨b80, 0, none⟩))), (46, (.bool t142))] a ∧ Mem (gB F [] w0) (feet []) w0 [cellCh b80 [(.int .i64 e78.xLo), (.int .i64 e78.xHi)] 74, ownCh elGEdge 107 v72 xs73, snapCh w0 F] w) ?_ ?_
        · intro k143
          refine c_region ?_
          refine o_fad st rfl rfl fld74_0 rfl ?_
          refine o_ldc st (v := (.int .i64 e78.xLo)) 0 rfl rfl rfl ty3 rfl ?_
          refine o_lss st rfl rfl rfl ?_
          refine o_mv st rfl rfl ?_
          refine st_sp (dj := 34) rfl ?_ ?_
          · refine st_s rfl rfl rfl rfl ?_
            refine st_s rfl rfl rfl rfl ?_
            refine st_s rfl rfl rfl rfl ?_
            refine st_s rfl rfl rfl rfl ?_
            refine st_s rfl rfl rfl rfl ?_
            refine o_pickT st rfl rfl rfl ?_
            refine o_mv st rfl rfl ?_
            refine st_s rfl rfl rfl rfl ?_
            refine st_s rfl rfl rfl rfl ?_
            refine st_s rfl rfl rfl rfl ?_
            refine st_s rfl rfl rfl rfl ?_
            refine o_pickT st rfl rfl rfl ?_
            refine c_nil ?_
            exact l_join true (fun a w hE hm => ⟨hE.sub ⟨rfl, rfl, rfl, rfl, rfl, rfl, rfl, trivial⟩, (hm.pick [0, 2, 1] rfl)⟩)
          · refine o_fad (st_g rfl rfl) rfl rfl fld74_0 rfl ?_
            refine o_ldc (st_g rfl rfl) (v := (.int .i64 e78.xLo)) 0 rfl rfl rfl ty3 rfl ?_
            refine o_fad (st_g rfl rfl) rfl rfl fld74_1 rfl ?_
            refine o_ldc (st_g rfl rfl) (v := (.int .i64 e78.xHi)) 0 rfl rfl rfl ty3 rfl ?_
            refine o_gtr (st_g rfl rfl) rfl rfl rfl ?_
            refine o_pickF st rfl rfl rfl ?_
            refine o_mv st rfl rfl ?_
            refine st_sp (dj := 41) rfl ?_ ?_
            · refine st_s rfl rfl rfl rfl ?_
              refine st_s rfl rfl rfl rfl ?_
              refine st_s rfl rfl rfl rfl ?_
              refine st_s rfl rfl rfl rfl ?_
              refine o_pickT st rfl rfl rfl ?_
              refine c_nil ?_
              exact l_join true (fun a w hE hm => ⟨hE.sub ⟨rfl, rfl, rfl, rfl, rfl, rfl, rfl, trivial⟩, (hm.pick [0, 2, 1] rfl)⟩)
            · refine o_fad (st_g rfl rfl) rfl rfl fld74_1 rfl ?_
              refine o_ldc (st_g rfl rfl) (v := (.int .i64 e78.xHi)) 0 rfl rfl rfl ty3 rfl ?_
              refine o_mv (st_g rfl rfl) rfl rfl ?_
              refine o_gtr (st_g rfl rfl) rfl rfl rfl ?_
              refine o_pickF st rfl rfl rfl ?_
              refine c_nil ?_
              exact l_join (decide (top_1 < e78.xHi)) (fun a w hE hm => ⟨hE.sub ⟨rfl, rfl, rfl, rfl, rfl, rfl, rfl, trivial⟩, (hm.pick [0, 2, 1] rfl)⟩)
        · rintro t142 a w ⟨hE, hm⟩ h
          refine nx_of hE hm h ?_
          clear hE hm h
          refine c_cond rfl ?_ ?_
          · refine c_seq ?_
            refine c_region ?_
            refine stw (o_asn elGSpan 74 rfl rfl ?_)
            refine c_nil ?_
            refine l_then ?_
            refine c_ret ?_
            refine l_ret ?_
            refine b_ret ?_
            refine l_ret ?_
            refine l_ret ?_
            refine b_ret ?_
            refine l_ret ?_
            exact l_end1 Tryd.results52 ([]) (.slice none 0 0) (rv_t rfl) (fun w m => NewCh.ofB m [0] rfl)
          · refine c_skip ?_
            refine l_then ?_
            refine c_region ?_
            refine o_mv st rfl rfl ?_
            refine o_fad st rfl rfl fld74_0 rfl ?_
            refine o_ldc st (v := (.int .i64 e78.xLo)) 0 rfl rfl rfl ty3 rfl ?_
            refine o_bld st (qs := [(0, (.int .i64 e78.xLo)), (1, (.int .i64 1))]) (cells := [(.int .i64 e78.xLo), (.int .i64 1)]) (by intro ρ h; simp only [List.map_toArray, List.map_cons, List.map_nil, h (.tmp 49) _ rfl, h (.const (.int .i64 1)) _ rfl]) rfl bld107 rfl ?_
            refine o_fad st rfl rfl fld74_1 rfl ?_
            refine o_ldc st (v := (.int .i64 e78.xHi)) 0 rfl rfl rfl ty3 rfl ?_
            refine o_add st rfl rfl rfl ?_; intro t145
            refine o_bld st (qs := [(0, (.int .i64 t145)), (1, (.int .i64 (-1)))]) (cells := [(.int .i64 t145), (.int .i64 (-1))]) (by intro ρ h; simp only [List.map_toArray, List.map_cons, List.map_nil, h (.tmp 53) _ rfl, h (.const (.int .i64 (-1))) _ rfl]) rfl bld107 rfl ?_
            refine stw (o_bsl (enc := encGEdge) (qs := [(0, (.agg #[(.int .i64 e78.xLo), (.int .i64 1)])), (1, (.agg #[(.int .i64 t145), (.int .i64 (-1))]))]) (cells := [(.int .i64 e78.xLo), (.int .i64 1), (.int .i64 t145), (.int .i64 (-1))]) ([(GEdge.mk e78.xLo 1), (GEdge.mk t145 (-1))]) flelGEdge (by intro ρ h; simp only [List.map_toArray, List.map_cons, List.map_nil, h (.tmp 50) _ rfl, h (.tmp 54) _ rfl]) rfl el105 zero107 rfl rfl rfl rfl rfl rfl ?_); intro v146
            refine stw (o_app 2 0 rfl rfl (src_flat flelGEdge reads_own) rfl rfl rfl el105 rfl zero107 rfl rfl ?_); intro v148
            refine o_as st rfl rfl ?_
            refine c_nil ?_
            refine b_norm ?_
            refine l_then ?_
            refine c_region ?_
            refine o_add st rfl rfl rfl ?_; intro t150
            refine o_mv st rfl rfl ?_
            refine c_nil ?_
            exact l_join ((xs73 ++ ([(GEdge.mk e78.xLo 1), (GEdge.mk t145 (-1))])), t150) (fun a w hE hm => ⟨v148, hE.sub ⟨rfl, rfl, rfl, rfl, rfl, trivial⟩, (hm.pick [3, 2] rfl)⟩)
      · refine c_exit ?_
        refine l_exit ?_
        refine l_exit ?_
        refine b_exit ?_
        refine l_then ?_
        refine c_seq ?_
        refine c_region ?_
        refine o_mv st rfl rfl ?_
        refine pk [1, 0] rfl ?_
        refine stw (o_call (vs := [v72, (.func (.func 72) #[] #[])]) (M0 := [ownCh elGEdge 107 v72 xs73]) Tryd.call71 rfl rfl (by intro w m h; exact (w_srt_GEdge (F := allB [ownCh elGEdge 107 v72 xs73] w) (xs := xs73) allB_ok m.given h).mono (fun _ _ k => ret_free (fun r u => (fr_cons (free_own flelGEdge) fr_nil)) k)) ?_); rintro r151 _
        refine c_nil ?_
        refine l_then ?_
        refine c_seq ?_
        refine c_region ?_
        refine stw (o_asn elGSpan 74 rfl rfl ?_)
        refine c_nil ?_
        refine l_then ?_
        refine c_seq ?_
        refine c_region ?_
        refine o_as st rfl rfl ?_
        refine c_nil ?_
        refine l_then ?_
        refine c_seq ?_
        refine c_region ?_
        refine o_as st rfl rfl ?_
        refine c_nil ?_
        refine l_then ?_
        refine c_seq ?_
        refine c_seq ?_
        refine c_region ?_
        refine o_mv st rfl rfl ?_
        refine o_len st el105 1 rfl reads_own rfl rfl ?_
        refine o_mv st rfl rfl ?_
        refine c_nil ?_
        refine l_then ?_
        refine c_block ?_
        refine c_loop (σ := ((List GSpan) × Int × Int × Int)) (fun ((xs155, t158, t159, t160) : ((List GSpan) × Int × Int × Int)) (a : Act) (w : World) => ∃ (v154 : Value), Has 86 [(8, v154), (9, (.int .i64 t158)), (10, (.int .i64 t159)), (60, v72), (61, (.int .i64 (r151.length : Int))), (62, (.int .i64 t160))] a ∧ Mem (gB F [] w0) (feet []) w0 [ownCh elGEdge 107 v72 r151, ownCh elGSpan 74 v154 xs155] w) (fun a w hE hm => ⟨(.slice none 0 0), hE.sub ⟨rfl, rfl, rfl, rfl, rfl, rfl, trivial⟩, (hm.pick [1, 0] rfl)⟩) ?_
        rintro nx161 ⟨xs155, t158, t159, t160⟩ a w ⟨v154, hE, hm⟩ h
        refine nx_of hE hm h ?_
        clear hE hm h
        refine c_seq ?_
        refine c_region ?_
        refine o_lss st rfl rfl rfl ?_
        refine c_nil ?_
        refine l_then ?_
        refine c_seq ?_
        refine c_cond rfl ?_ ?_
        · refine c_skip ?_
          refine l_then ?_
          refine c_join (σ := ((List GSpan) × Int × Int)) (fun ((xs294, t297, t298) : ((List GSpan) × Int × Int)) (a : Act) (w : World) => ∃ (v295 : Value), Has 86 [(8, v295), (9, (.int .i64 t297)), (10, (.int .i64 t298)), (60, v72), (61, (.int .i64 (r151.length : Int))), (62, (.int .i64 t160))] a ∧ Mem (gB F [] w0) (feet []) w0 [ownCh elGEdge 107 v72 r151, ownCh elGSpan 74 v295 xs294] w) ?_ ?_
          · intro k299
            refine c_block ?_
            refine c_seq ?_
            refine c_region ?_
            refine o_idx st 0 rfl reads_own rfl rfl rfl el105 ?_; intro e162 h163
            refine o_lds st (enc := encGEdge) (u := (.agg #[(.int .i64 e162.xAt), (.int .i64 e162.xStep)])) 0 rfl reads_own flelGEdge rfl h163 rfl rfl ty107 rfl ?_
            refine stw (o_alloc rfl [(.int .i64 0), (.int .i64 0)] zero107 ?_); intro b164
            refine stw (o_stc (cs' := [(.int .i64 e162.xAt), (.int .i64 e162.xStep)]) 0 rfl rfl rfl ty107 rfl rfl rfl rfl ?_)
            refine c_nil ?_
            refine l_then ?_
            refine c_join (σ := Int) (fun (t226 : Int) (a : Act) (w : World) => Has 86 [(8, v154), (9, (.int .i64 t158)), (10, (.int .i64 t226)), (60, v72), (61, (.int .i64 (r151.length : Int))), (62, (.int .i64 t160)), (12, (.pointer (some ⟨b164, 0, none⟩)))] a ∧ Mem (gB F [] w0) (feet []) w0 [cellCh b164 [(.int .i64 e162.xAt), (.int .i64 e162.xStep)] 107, ownCh elGEdge 107 v72 r151, ownCh elGSpan 74 v154 xs155] w) ?_ ?_
            · intro k227
              refine c_seq ?_
              refine c_region ?_
              refine o_mv st rfl rfl ?_
              refine o_eql st und3 rfl rfl rfl ?_
              refine c_nil ?_
              refine l_then ?_
              refine c_cond rfl ?_ ?_
              · refine c_region ?_
                refine o_fad st rfl rfl fld107_0 rfl ?_
                refine o_ldc st (v := (.int .i64 e162.xAt)) 0 rfl rfl rfl ty3 rfl ?_
                refine o_as st rfl rfl ?_
                refine c_nil ?_
                exact l_join e162.xAt (fun a w hE hm => ⟨hE.sub ⟨rfl, rfl, rfl, rfl, rfl, rfl, rfl, trivial⟩, (hm.pick [0, 1, 2] rfl)⟩)
              · refine c_skip ?_
                exact l_join t159 (fun a w hE hm => ⟨hE.sub ⟨rfl, rfl, rfl, rfl, rfl, rfl, rfl, trivial⟩, (hm.pick [0, 1, 2] rfl)⟩)
            · rintro t226 a w ⟨hE, hm⟩ h
              refine nx_of hE hm h ?_
              clear hE hm h
              refine c_seq ?_
              refine c_region ?_
              refine o_mv st rfl rfl ?_
              refine o_fad st rfl rfl fld107_1 rfl ?_
              refine o_ldc st (v := (.int .i64 e162.xStep)) 0 rfl rfl rfl ty3 rfl ?_
              refine o_add st rfl rfl rfl ?_; intro t228
              refine o_as st rfl rfl ?_
              refine c_nil ?_
              refine l_then ?_
              refine c_seq ?_
              refine c_region ?_
              refine o_mv st rfl rfl ?_
              refine o_eql st und3 rfl rfl rfl ?_
              refine c_nil ?_
              refine l_then ?_
              refine c_cond rfl ?_ ?_
              · refine c_region ?_
                refine o_mv st rfl rfl ?_
                refine o_mv st rfl rfl ?_
                refine o_fad st rfl rfl fld107_0 rfl ?_
                refine o_ldc st (v := (.int .i64 e162.xAt)) 0 rfl rfl rfl ty3 rfl ?_
                refine o_sub st rfl rfl rfl ?_; intro t229
                refine o_bld st (qs := [(0, (.int .i64 t226)), (1, (.int .i64 t229))]) (cells := [(.int .i64 t226), (.int .i64 t229)]) (by intro ρ h; simp only [List.map_toArray, List.map_cons, List.map_nil, h (.tmp 77) _ rfl, h (.tmp 80) _ rfl]) rfl bld74 rfl ?_
                refine stw (o_bsl (enc := encGSpan) (qs := [(0, (.agg #[(.int .i64 t226), (.int .i64 t229)]))]) (cells := [(.int .i64 t226), (.int .i64 t229)]) ([(GSpan.mk t226 t229)]) flelGSpan (by intro ρ h; simp only [List.map_toArray, List.map_cons, List.map_nil, h (.tmp 81) _ rfl]) rfl el50 zero74 rfl rfl rfl rfl rfl rfl ?_); intro v230
                refine stw (o_app 3 0 rfl rfl (src_flat flelGSpan reads_own) rfl rfl rfl el50 rfl zero74 rfl rfl ?_); intro v232
                refine o_as st rfl rfl ?_
                refine c_nil ?_
                refine b_norm ?_
                exact l_join ((xs155 ++ ([(GSpan.mk t226 t229)])), t228, t226) (fun a w hE hm => ⟨v232, hE.sub ⟨rfl, rfl, rfl, rfl, rfl, rfl, trivial⟩, (hm.pick [2, 3] rfl)⟩)
              · refine c_skip ?_
                refine b_norm ?_
                exact l_join (xs155, t228, t226) (fun a w hE hm => ⟨v154, hE.sub ⟨rfl, rfl, rfl, rfl, rfl, rfl, trivial⟩, (hm.pick [1, 2] rfl)⟩)
          · rintro ⟨xs294, t297, t298⟩ a w ⟨v295, hE, hm⟩ h
            refine nx_of hE hm h ?_
            clear hE hm h
            refine c_region ?_
            refine o_add st rfl rfl rfl ?_; intro t300
            refine o_mv st rfl rfl ?_
            refine c_nil ?_
            exact l_join (xs294, t297, t298, t300) (fun a w hE hm => ⟨v295, hE.sub ⟨rfl, rfl, rfl, rfl, rfl, rfl, trivial⟩, (hm.pick [0, 1] rfl)⟩)
        · refine c_exit ?_
          refine l_exit ?_
          refine l_exit ?_
          refine b_exit ?_
          refine l_then ?_
          refine c_seq ?_
          refine c_region ?_
          refine o_mv st rfl rfl ?_
          refine o_as st rfl rfl ?_
          refine c_nil ?_
          refine l_then ?_
          refine c_ret ?_
          exact l_end1 Tryd.results52 xs155 v154 (rv_t rfl) (fun w m => NewCh.ofB m [1] rfl)

set_option maxRecDepth 100000 in
set_option maxHeartbeats 8000000 in
theorem w_impl_PrefixesSpans {w0 : World} {F : Nat → Prop} {v1 : Value} {list_0 : (List GPrefix)} {κ : (List GSpan) → Prop} (hF : ∀ b, F b → b < w0.heap.size ∧ ¬ feet [] b) (hv1 : Sl elGPrefix F w0 v1 list_0) (h : L_impl_PrefixesSpans list_0 κ) :
    Calls Tryd.prog 30 #[v1] w0 (Ret [] F w0 κ (fun (r : (List GSpan)) (u : Value) => u) (fun (r : (List GSpan)) (u : Value) => [ownCh elGSpan 74 u r])) := by
  refine enterS (args := [v1]) [] hF (Given.nil _ _) Tryd.func30 rfl Tryd.ntmps30 rfl h ?_
  clear h hF
  refine c_seq ?_
  refine c_region ?_
  refine stw (o_asn elGSpan 74 rfl rfl ?_)
  refine c_nil ?_
  refine l_then ?_
  refine c_seq ?_
  refine c_seq ?_
  refine c_region ?_
  refine o_mv st rfl rfl ?_
  refine o_len st el53 1 rfl (reads_snap hv1) rfl rfl ?_
  refine o_gtr st rfl rfl rfl ?_
  refine c_nil ?_
  refine l_then ?_
  refine c_cond rfl ?_ ?_
  · refine c_seq ?_
    refine c_region ?_
    refine stw (o_asn elGSpan 74 rfl rfl ?_)
    refine c_nil ?_
    refine l_then ?_
    refine c_ret ?_
    refine l_ret ?_
    exact l_end1 Tryd.results30 ([]) (.slice none 0 0) (rv_t rfl) (fun w m => NewCh.ofB m [0] rfl)
  · refine c_skip ?_
    refine l_then ?_
    refine c_seq ?_
    refine c_region ?_
    refine o_mv st rfl rfl ?_
    refine o_len st el53 1 rfl (reads_snap hv1) rfl rfl ?_
    refine stw (o_make (z := (GSpan.mk 0 0)) flelGSpan rfl rfl rfl el50 rfl zero74 rfl rfl ?_); intro v5 xs6
    refine o_as st rfl rfl ?_
    refine c_nil ?_
    refine l_then ?_
    refine c_seq ?_
    refine c_seq ?_
    refine c_region ?_
    refine o_mv st rfl rfl ?_
    refine o_len st el53 2 rfl (reads_snap hv1) rfl rfl ?_
    refine o_mv st rfl rfl ?_
    refine c_nil ?_
    refine l_then ?_
    refine c_block ?_
    refine c_loop (σ := ((List GSpan) × Int)) (fun ((xs9, t12) : ((List GSpan) × Int)) (a : Act) (w : World) => ∃ (v8 : Value), Has 34 [(3, v8), (14, v1), (15, (.int .i64 (list_0.length : Int))), (16, (.int .i64 t12))] a ∧ Mem (gB F [] w0) (feet []) w0 [snapCh w0 F, ownCh elGSpan 74 v8 xs9] w) (fun a w hE hm => ⟨v5, hE.sub ⟨rfl, rfl, rfl, rfl, trivial⟩, (hm.pick [2, 0] rfl)⟩) ?_
    rintro nx13 ⟨xs9, t12⟩ a w ⟨v8, hE, hm⟩ h
    refine nx_of hE hm h ?_
    clear hE hm h
    refine c_seq ?_
    refine c_region ?_
    refine o_lss st rfl rfl rfl ?_
    refine c_nil ?_
    refine l_then ?_
    refine c_seq ?_
    refine c_cond rfl ?_ ?_
    · refine c_skip ?_
      refine l_then ?_
      refine c_seq ?_
      refine c_block ?_
      refine c_seq ?_
      refine c_region ?_
      refine o_idx st 0 rfl (reads_snap hv1) rfl rfl rfl el53 ?_; intro e14 h15
      refine o_lds st (enc := encGPrefix) (u := (.agg #[(.int .i64 e14.xBase), (.int .i64 e14.xLength)])) 0 rfl (reads_snap hv1) flelGPrefix rfl h15 rfl rfl ty36 rfl ?_
      refine stw (o_alloc rfl [(.int .i64 0), (.int .i64 0)] zero36 ?_); intro b16
      refine stw (o_stc (cs' := [(.int .i64 e14.xBase), (.int .i64 e14.xLength)]) 0 rfl rfl rfl ty36 rfl rfl rfl rfl ?_)
      refine c_nil ?_
      refine l_then ?_
      refine c_seq ?_
      refine c_region ?_
      refine o_ldc st (v := (.agg #[(.int .i64 e14.xBase), (.int .i64 e14.xLength)])) 0 rfl rfl rfl ty36 rfl ?_
      refine stw (o_callP (vs := [(.agg #[(.int .i64 e14.xBase), (.int .i64 e14.xLength)])]) Tryd.call43 rfl rfl (by intro w m h; exact (w_impl_PrefixSpan (F := allB [] w) (p_0 := e14) allB_ok h).mono (fun _ _ k => ret_free (fun r u => fr_nil) k)) ?_); rintro ⟨r18, r19⟩ _
      refine o_mv st rfl rfl ?_
      refine o_ext st (vs := [(.agg #[(.int .i64 r18.xLo), (.int .i64 r18.xHi)]), (.bool r19)]) rfl rfl rfl ?_
      refine o_ext st (vs := [(.agg #[(.int .i64 r18.xLo), (.int .i64 r18.xHi)]), (.bool r19)]) rfl rfl rfl ?_
      refine stw (o_alloc rfl [(.int .i64 0), (.int .i64 0)] zero74 ?_); intro b20
      refine stw (o_stc (cs' := [(.int .i64 r18.xLo), (.int .i64 r18.xHi)]) 0 rfl rfl rfl ty74 rfl rfl rfl rfl ?_)
      refine o_as st rfl rfl ?_
      refine c_nil ?_
      refine l_then ?_
      refine c_seq ?_
      refine c_seq ?_
      refine c_region ?_
      refine o_mv st rfl rfl ?_
      refine o_not st rfl rfl ?_
      refine c_nil ?_
      refine l_then ?_
      refine c_cond rfl ?_ ?_
      · refine c_seq ?_
        refine c_region ?_
        refine stw (o_asn elGSpan 74 rfl rfl ?_)
        refine c_nil ?_
        refine l_then ?_
        refine c_ret ?_
        refine l_ret ?_
        refine b_ret ?_
        refine l_ret ?_
        refine l_ret ?_
        refine b_ret ?_
        refine l_ret ?_
        exact l_end1 Tryd.results30 ([]) (.slice none 0 0) (rv_t rfl) (fun w m => NewCh.ofB m [0] rfl)
      · refine c_skip ?_
        refine l_then ?_
        refine c_region ?_
        refine o_mv st rfl rfl ?_
        refine o_ldc st (v := (.agg #[(.int .i64 r18.xLo), (.int .i64 r18.xHi)])) 0 rfl rfl rfl ty74 rfl ?_
        refine stw (o_bsl (enc := encGSpan) (qs := [(0, (.agg #[(.int .i64 r18.xLo), (.int .i64 r18.xHi)]))]) (cells := [(.int .i64 r18.xLo), (.int .i64 r18.xHi)]) ([r18]) flelGSpan (by intro ρ h; simp only [List.map_toArray, List.map_cons, List.map_nil, h (.tmp 28) _ rfl]) rfl el50 zero74 rfl rfl rfl rfl rfl rfl ?_); intro v23
        refine stw (o_app 4 0 rfl rfl (src_flat flelGSpan reads_own) rfl rfl rfl el50 rfl zero74 rfl rfl ?_); intro v25
        refine o_as st rfl rfl ?_
        refine c_nil ?_
        refine b_norm ?_
        refine l_then ?_
        refine c_region ?_
        refine o_add st rfl rfl rfl ?_; intro t27
        refine o_mv st rfl rfl ?_
        refine c_nil ?_
        exact l_join ((xs9 ++ ([r18])), t27) (fun a w hE hm => ⟨v25, hE.sub ⟨rfl, rfl, rfl, rfl, trivial⟩, (hm.pick [3, 4] rfl)⟩)
    · refine c_exit ?_
      refine l_exit ?_
      refine l_exit ?_
      refine b_exit ?_
      refine l_then ?_
      refine c_seq ?_
      refine c_region ?_
      refine o_mv st rfl rfl ?_
      refine stw (o_callP (vs := [v8, (.int .i64 65535)]) Tryd.call52 rfl rfl (by intro w m h; exact (w_impl_SpansOf (F := allB [] w) (list_0 := xs9) (top_1 := 65535) allB_ok (m.rd0 1 rfl reads_own) h).mono (fun _ _ k => ret_free (fun r u => (fr_cons (free_own flelGSpan) fr_nil)) k)) ?_); rintro r28 v29
      refine o_as st rfl rfl ?_
      refine c_nil ?_
      refine l_then ?_
      refine c_ret ?_
      exact l_end1 Tryd.results30 r28 v29 (rv_t rfl) (fun w m => NewCh.ofB m [0] rfl)

set_option maxRecDepth 100000 in
set_option maxHeartbeats 8000000 in
theorem w_impl_HiddenFrom {w0 : World} {F : Nat → Prop} {v1 : Value} {list_0 : (List GRewrite)} {κ : (List GSpan) → Prop} (hF : ∀ b, F b → b < w0.heap.size ∧ ¬ feet [] b) (hv1 : Sl elGRewrite F w0 v1 list_0) (h : L_impl_HiddenFrom list_0 κ) :
    Calls Tryd.prog 27 #[v1] w0 (Ret [] F w0 κ (fun (r : (List GSpan)) (u : Value) => u) (fun (r : (List GSpan)) (u : Value) => [ownCh elGSpan 74 u r])) := by
  refine enterS (args := [v1]) [] hF (Given.nil _ _) Tryd.func27 rfl Tryd.ntmps27 rfl h ?_
  clear h hF
  refine c_seq ?_
  refine c_region ?_
  refine stw (o_asn elGSpan 74 rfl rfl ?_)
  refine c_nil ?_
  refine l_then ?_
  refine c_seq ?_
  refine c_seq ?_
  refine c_region ?_
  refine o_mv st rfl rfl ?_
  refine stw (o_callP (vs := [v1]) Tryd.call22 rfl rfl (by intro w m h; exact (w_impl_RewritesValid (F := allB [] w) (list_0 := list_0) allB_ok (m.rd0 1 rfl (reads_snap hv1)) h).mono (fun _ _ k => ret_free (fun r u => fr_nil) k)) ?_); rintro r4 _
  refine o_not st rfl rfl ?_
  refine c_nil ?_
  refine l_then ?_
  refine c_cond rfl ?_ ?_
  · refine c_seq ?_
    refine c_region ?_
    refine stw (o_asn elGSpan 74 rfl rfl ?_)
    refine c_nil ?_
    refine l_then ?_
    refine c_ret ?_
    refine l_ret ?_
    exact l_end1 Tryd.results27 ([]) (.slice none 0 0) (rv_t rfl) (fun w m => NewCh.ofB m [0] rfl)
  · refine c_skip ?_
    refine l_then ?_
    refine c_seq ?_
    refine c_region ?_
    refine o_mv st rfl rfl ?_
    refine o_len st el28 1 rfl (reads_snap hv1) rfl rfl ?_
    refine stw (o_make (z := (GPrefix.mk 0 0)) flelGPrefix rfl rfl rfl el53 rfl zero36 rfl rfl ?_); intro v6 xs7
    refine o_as st rfl rfl ?_
    refine c_nil ?_
    refine l_then ?_
    refine c_seq ?_
    refine c_seq ?_
    refine c_region ?_
    refine o_mv st rfl rfl ?_
    refine o_len st el28 2 rfl (reads_snap hv1) rfl rfl ?_
    refine o_mv st rfl rfl ?_
    refine c_nil ?_
    refine l_then ?_
    refine c_block ?_
    refine c_loop (σ := ((List GPrefix) × Int)) (fun ((xs10, t13) : ((List GPrefix) × Int)) (a : Act) (w : World) => ∃ (v9 : Value), Has 26 [(3, v9), (12, v1), (13, (.int .i64 (list_0.length : Int))), (14, (.int .i64 t13))] a ∧ Mem (gB F [] w0) (feet []) w0 [snapCh w0 F, ownCh elGPrefix 36 v9 xs10] w) (fun a w hE hm => ⟨v6, hE.sub ⟨rfl, rfl, rfl, rfl, trivial⟩, (hm.pick [2, 0] rfl)⟩) ?_
    rintro nx14 ⟨xs10, t13⟩ a w ⟨v9, hE, hm⟩ h
    refine nx_of hE hm h ?_
    clear hE hm h
    refine c_seq ?_
    refine c_region ?_
    refine o_lss st rfl rfl rfl ?_
    refine c_nil ?_
    refine l_then ?_
    refine c_seq ?_
    refine c_cond rfl ?_ ?_
    · refine c_skip ?_
      refine l_then ?_
      refine c_seq ?_
      refine c_block ?_
      refine c_seq ?_
      refine c_region ?_
      refine o_idx st 0 rfl (reads_snap hv1) rfl rfl rfl el28 ?_; intro e15 h16
      refine o_lds st (enc := encGRewrite) (u := (.agg #[(.int .i64 e15.xInside.xBase), (.int .i64 e15.xInside.xLength), (.int .i64 e15.xOutside.xBase), (.int .i64 e15.xOutside.xLength)])) 0 rfl (reads_snap hv1) flelGRewrite rfl h16 rfl rfl ty38 rfl ?_
      refine stw (o_alloc rfl [(.int .i64 0), (.int .i64 0), (.int .i64 0), (.int .i64 0)] zero38 ?_); intro b17
      refine stw (o_stc (cs' := [(.int .i64 e15.xInside.xBase), (.int .i64 e15.xInside.xLength), (.int .i64 e15.xOutside.xBase), (.int .i64 e15.xOutside.xLength)]) 0 rfl rfl rfl ty38 rfl rfl rfl rfl ?_)
      refine c_nil ?_
      refine l_then ?_
      refine c_region ?_
      refine o_mv st rfl rfl ?_
      refine o_fad st rfl rfl fld38_0 rfl ?_
      refine o_ldc st (v := (.agg #[(.int .i64 e15.xInside.xBase), (.int .i64 e15.xInside.xLength)])) 0 rfl rfl rfl ty36 rfl ?_
      refine stw (o_bsl (enc := encGPrefix) (qs := [(0, (.agg #[(.int .i64 e15.xInside.xBase), (.int .i64 e15.xInside.xLength)]))]) (cells := [(.int .i64 e15.xInside.xBase), (.int .i64 e15.xInside.xLength)]) ([e15.xInside]) flelGPrefix (by intro ρ h; simp only [List.map_toArray, List.map_cons, List.map_nil, h (.tmp 20) _ rfl]) rfl el53 zero36 rfl rfl rfl rfl rfl rfl ?_); intro v19
      refine stw (o_app 3 0 rfl rfl (src_flat flelGPrefix reads_own) rfl rfl rfl el53 rfl zero36 rfl rfl ?_); intro v21
      refine o_as st rfl rfl ?_
      refine c_nil ?_
      refine b_norm ?_
      refine l_then ?_
      refine c_region ?_
      refine o_add st rfl rfl rfl ?_; intro t23
      refine o_mv st rfl rfl ?_
      refine c_nil ?_
      exact l_join ((xs10 ++ ([e15.xInside])), t23) (fun a w hE hm => ⟨v21, hE.sub ⟨rfl, rfl, rfl, rfl, trivial⟩, (hm.pick [2, 3] rfl)⟩)
    · refine c_exit ?_
      refine l_exit ?_
      refine l_exit ?_
      refine b_exit ?_
      refine l_then ?_
      refine c_seq ?_
      refine c_region ?_
      refine o_mv st rfl rfl ?_
      refine stw (o_callP (vs := [v9]) Tryd.call30 rfl rfl (by intro w m h; exact (w_impl_PrefixesSpans (F := allB [] w) (list_0 := xs10) allB_ok (m.rd0 1 rfl reads_own) h).mono (fun _ _ k => ret_free (fun r u => (fr_cons (free_own flelGSpan) fr_nil)) k)) ?_); rintro r24 v25
      refine o_as st rfl rfl ?_
      refine c_nil ?_
      refine l_then ?_
      refine c_ret ?_
      exact l_end1 Tryd.results27 r24 v25 (rv_t rfl) (fun w m => NewCh.ofB m [0] rfl)

set_option maxRecDepth 100000 in
set_option maxHeartbeats 8000000 in
theorem w_spec_DrawRewriteOut {w0 : World} {F : Nat → Prop} {v1 : Value} {code_0 : (List UInt8)} {κ : ((List GRewrite) × GPacket) → Prop} (hF : ∀ b, F b → b < w0.heap.size ∧ ¬ feet [] b) (hv1 : Sl elU8 F w0 v1 code_0) (h : L_spec_DrawRewriteOut code_0 κ) :
    Calls Tryd.prog 28 #[v1] w0 (Ret [] F w0 κ (fun (r : ((List GRewrite) × GPacket)) (u : Value) => .tuple #[u, (.agg #[(.int .i64 r.2.xFrom), (.int .i64 r.2.xTo), (.int .i64 r.2.xPort), (.int .i64 r.2.xProto)])]) (fun (r : ((List GRewrite) × GPacket)) (u : Value) => [ownCh elGRewrite 38 u r.1])) := by
  refine enterS (args := [v1]) [] hF (Given.nil _ _) Tryd.func28 rfl Tryd.ntmps28 rfl h ?_
  clear h hF
  refine c_seq ?_
  refine c_region ?_
  refine stw (o_asn elGRewrite 38 rfl rfl ?_)
  refine stw (o_alloc rfl [(.int .i64 0), (.int .i64 0), (.int .i64 0), (.int .i64 0)] zero26 ?_); intro b4
  refine c_nil ?_
  refine l_then ?_
  refine c_seq ?_
  refine c_region ?_
  refine o_mv st rfl rfl ?_
  refine stw (o_callP (vs := [v1]) Tryd.call39 rfl rfl (by intro w m h; exact w_spec_l20Open (code_0 := code_0) fz_ok0 (m.roS 2 rfl hv1) h) ?_); rintro ⟨r8, r11⟩ ⟨b6, v9⟩
  refine stw (o_call (vs := [(.pointer (some ⟨b6, 0, none⟩))]) (M0 := [cellCh b6 [v9, (.int .i64 r11)] 99]) Tryd.call47 rfl rfl (by intro w m h; exact (w_spec_l20Way (F := allB [cellCh b6 [v9, (.int .i64 r11)] 99] w) (r_0_b := r8) (r_0_p := r11) allB_ok m.given (m.rdM 0 rfl reads_ro) h).mono (fun _ _ k => ret_free (fun r u => (fr_cons (free_own flelGRewrite) (fr_cons free_cell fr_nil))) k)) ?_); rintro ⟨r12, r15, r16⟩ v13
  refine o_ext st (vs := [v13, (.agg #[(.int .i64 r15.xFrom), (.int .i64 r15.xTo), (.int .i64 r15.xPort), (.int .i64 r15.xProto)])]) rfl rfl rfl ?_
  refine o_ext st (vs := [v13, (.agg #[(.int .i64 r15.xFrom), (.int .i64 r15.xTo), (.int .i64 r15.xPort), (.int .i64 r15.xProto)])]) rfl rfl rfl ?_
  refine o_as st rfl rfl ?_
  refine stw (o_stc (cs' := [(.int .i64 r15.xFrom), (.int .i64 r15.xTo), (.int .i64 r15.xPort), (.int .i64 r15.xProto)]) 3 rfl rfl rfl ty26 rfl rfl rfl rfl ?_)
  refine c_nil ?_
  refine l_then ?_
  refine c_ret ?_
  exact l_end2 Tryd.results28 (r12, r15) v13 (rv_t rfl) (rv_c 3 rfl rfl ty26 rfl) rfl (fun w m => NewCh.ofB m [0] rfl)

set_option maxRecDepth 100000 in
set_option maxHeartbeats 8000000 in
theorem w_impl_Packet_reverse {w0 : World} {F : Nat → Prop} {p_0 : GPacket} {κ : GPacket → Prop} (hF : ∀ b, F b → b < w0.heap.size ∧ ¬ feet [] b) (h : L_impl_Packet_reverse p_0 κ) :
    Calls Tryd.prog 51 #[(.agg #[(.int .i64 p_0.xFrom), (.int .i64 p_0.xTo), (.int .i64 p_0.xPort), (.int .i64 p_0.xProto)])] w0 (Ret [] F w0 κ (fun (r : GPacket) (u : Unit) => (.agg #[(.int .i64 r.xFrom), (.int .i64 r.xTo), (.int .i64 r.xPort), (.int .i64 r.xProto)])) (fun (r : GPacket) (u : Unit) => [])) := by
  refine enter0 (args := [(.agg #[(.int .i64 p_0.xFrom), (.int .i64 p_0.xTo), (.int .i64 p_0.xPort), (.int .i64 p_0.xProto)])]) [] hF (Given.nil _ _) Tryd.func51 rfl Tryd.ntmps51 rfl h ?_
  clear h hF
  refine c_seq ?_
  refine c_region ?_
  refine stw (o_box rfl rfl [(.int .i64 p_0.xFrom), (.int .i64 p_0.xTo), (.int .i64 p_0.xPort), (.int .i64 p_0.xProto)] rfl ?_); intro b1
  refine stw (o_alloc rfl [(.int .i64 0), (.int .i64 0), (.int .i64 0), (.int .i64 0)] zero26 ?_); intro b3
  refine c_nil ?_
  refine l_then ?_
  refine c_seq ?_
  refine c_region ?_
  refine o_fad st rfl rfl fld26_1 rfl ?_
  refine o_ldc st (v := (.int .i64 p_0.xTo)) 1 rfl rfl rfl ty3 rfl ?_
  refine o_fad st rfl rfl fld26_0 rfl ?_
  refine o_ldc st (v := (.int .i64 p_0.xFrom)) 1 rfl rfl rfl ty3 rfl ?_
  refine o_fad st rfl rfl fld26_0 rfl ?_
  refine stw (o_stc (cs' := [(.int .i64 p_0.xTo), (.int .i64 p_0.xTo), (.int .i64 p_0.xPort), (.int .i64 p_0.xProto)]) 1 rfl rfl rfl ty3 rfl rfl rfl rfl ?_)
  refine o_fad st rfl rfl fld26_1 rfl ?_
  refine stw (o_stc (cs' := [(.int .i64 p_0.xTo), (.int .i64 p_0.xFrom), (.int .i64 p_0.xPort), (.int .i64 p_0.xProto)]) 1 rfl rfl rfl ty3 rfl rfl rfl rfl ?_)
  refine c_nil ?_
  refine l_then ?_
  refine c_seq ?_
  refine c_region ?_
  refine o_ldc st (v := (.agg #[(.int .i64 p_0.xTo), (.int .i64 p_0.xFrom), (.int .i64 p_0.xPort), (.int .i64 p_0.xProto)])) 1 rfl rfl rfl ty26 rfl ?_
  refine stw (o_stc (cs' := [(.int .i64 p_0.xTo), (.int .i64 p_0.xFrom), (.int .i64 p_0.xPort), (.int .i64 p_0.xProto)]) 0 rfl rfl rfl ty26 rfl rfl rfl rfl ?_)
  refine c_nil ?_
  refine l_then ?_
  refine c_ret ?_
  exact l_end1 Tryd.results51 (GPacket.mk p_0.xTo p_0.xFrom p_0.xPort p_0.xProto) () (rv_c 0 rfl rfl ty26 rfl) (fun _ _ => NewCh.nil _ _ _ _)

set_option maxRecDepth 100000 in
set_option maxHeartbeats 8000000 in
theorem w_impl_ReversePacket {w0 : World} {F : Nat → Prop} {p_0 : GPacket} {κ : GPacket → Prop} (hF : ∀ b, F b → b < w0.heap.size ∧ ¬ feet [] b) (hgl0 : Sl elGFieldShape F w0 (.slice (some ⟨0, 0, none⟩) 4 4) gl_impl_fieldShapes) (h : L_impl_ReversePacket p_0 κ) :
    Calls Tryd.prog 29 #[(.agg #[(.int .i64 p_0.xFrom), (.int .i64 p_0.xTo), (.int .i64 p_0.xPort), (.int .i64 p_0.xProto)])] w0 (Ret [] F w0 κ (fun (r : GPacket) (u : Unit) => (.agg #[(.int .i64 r.xFrom), (.int .i64 r.xTo), (.int .i64 r.xPort), (.int .i64 r.xProto)])) (fun (r : GPacket) (u : Unit) => [])) := by
  refine enterS (args := [(.agg #[(.int .i64 p_0.xFrom), (.int .i64 p_0.xTo), (.int .i64 p_0.xPort), (.int .i64 p_0.xProto)])]) [] hF (Given.nil _ _) Tryd.func29 rfl Tryd.ntmps29 rfl h ?_
  clear h hF
  refine c_seq ?_
  refine c_region ?_
  refine stw (o_box rfl rfl [(.int .i64 p_0.xFrom), (.int .i64 p_0.xTo), (.int .i64 p_0.xPort), (.int .i64 p_0.xProto)] rfl ?_); intro b1
  refine stw (o_alloc rfl [(.int .i64 0), (.int .i64 0), (.int .i64 0), (.int .i64 0)] zero26 ?_); intro b3
  refine c_nil ?_
  refine l_then ?_
  refine c_seq ?_
  refine c_seq ?_
  refine c_region ?_
  refine o_ldc st (v := (.agg #[(.int .i64 p_0.xFrom), (.int .i64 p_0.xTo), (.int .i64 p_0.xPort), (.int .i64 p_0.xProto)])) 1 rfl rfl rfl ty26 rfl ?_
  refine stw (o_callP (vs := [(.agg #[(.int .i64 p_0.xFrom), (.int .i64 p_0.xTo), (.int .i64 p_0.xPort), (.int .i64 p_0.xProto)])]) Tryd.call33 rfl rfl (by intro w m h; exact (w_impl_PacketValid (F := allB [] w) (p_0 := p_0) allB_ok (m.rd0 2 rfl (reads_snap hgl0)) h).mono (fun _ _ k => ret_free (fun r u => fr_nil) k)) ?_); rintro r5 _
  refine o_not st rfl rfl ?_
  refine c_nil ?_
  refine l_then ?_
  refine c_cond rfl ?_ ?_
  · refine c_seq ?_
    refine c_region ?_
    refine o_bld st (qs := []) (cells := [(.int .i64 0), (.int .i64 0), (.int .i64 0), (.int .i64 0)]) (by intro ρ h; simp only [List.map_toArray, List.map_cons, List.map_nil]) rfl bld26 rfl ?_
    refine stw (o_stc (cs' := [(.int .i64 0), (.int .i64 0), (.int .i64 0), (.int .i64 0)]) 0 rfl rfl rfl ty26 rfl rfl rfl rfl ?_)
    refine c_nil ?_
    refine l_then ?_
    refine c_ret ?_
    refine l_ret ?_
    exact l_end1 Tryd.results29 (GPacket.mk 0 0 0 0) () (rv_c 0 rfl rfl ty26 rfl) (fun _ _ => NewCh.nil _ _ _ _)
  · refine c_skip ?_
    refine l_then ?_
    refine c_seq ?_
    refine c_region ?_
    refine o_ldc st (v := (.agg #[(.int .i64 p_0.xFrom), (.int .i64 p_0.xTo), (.int .i64 p_0.xPort), (.int .i64 p_0.xProto)])) 1 rfl rfl rfl ty26 rfl ?_
    refine stw (o_callP (vs := [(.agg #[(.int .i64 p_0.xFrom), (.int .i64 p_0.xTo), (.int .i64 p_0.xPort), (.int .i64 p_0.xProto)])]) Tryd.call51 rfl rfl (by intro w m h; exact (w_impl_Packet_reverse (F := allB [] w) (p_0 := p_0) allB_ok h).mono (fun _ _ k => ret_free (fun r u => fr_nil) k)) ?_); rintro r6 _
    refine stw (o_stc (cs' := [(.int .i64 r6.xFrom), (.int .i64 r6.xTo), (.int .i64 r6.xPort), (.int .i64 r6.xProto)]) 0 rfl rfl rfl ty26 rfl rfl rfl rfl ?_)
    refine c_nil ?_
    refine l_then ?_
    refine c_ret ?_
    exact l_end1 Tryd.results29 r6 () (rv_c 0 rfl rfl ty26 rfl) (fun _ _ => NewCh.nil _ _ _ _)

set_option maxRecDepth 100000 in
set_option maxHeartbeats 8000000 in
theorem w_laws_FnRewriteOut {w0 : World} {F : Nat → Prop} {v1 : Value} {code_0 : (List UInt8)} {κ : Bool → Prop} (hF : ∀ b, F b → b < w0.heap.size ∧ ¬ feet [] b) (hv1 : Sl elU8 F w0 v1 code_0) (hgl0 : Sl elGFieldShape F w0 (.slice (some ⟨0, 0, none⟩) 4 4) gl_impl_fieldShapes) (h : L_laws_FnRewriteOut code_0 κ) :
    Calls Tryd.prog 7 #[v1] w0 (Ret [] F w0 κ (fun (r : Bool) (u : Unit) => (.bool r)) (fun (r : Bool) (u : Unit) => [])) := by
  refine enterS (args := [v1]) [] hF (Given.nil _ _) Tryd.func7 rfl Tryd.ntmps7 rfl h ?_
  clear h hF
  refine c_seq ?_
  refine c_region ?_
  refine o_as st rfl rfl ?_
  refine c_nil ?_
  refine l_then ?_
  refine c_seq ?_
  refine c_seq ?_
  refine c_region ?_
  refine o_mv st rfl rfl ?_
  refine o_len st el34 0 rfl (reads_snap hv1) rfl rfl ?_
  refine o_gtr st rfl rfl rfl ?_
  refine c_nil ?_
  refine l_then ?_
  refine c_cond rfl ?_ ?_
  · refine c_seq ?_
    refine c_region ?_
    refine o_as st rfl rfl ?_
    refine c_nil ?_
    refine l_then ?_
    refine c_ret ?_
    refine l_ret ?_
    exact l_end1 Tryd.results7 true () (rv_t rfl) (fun _ _ => NewCh.nil _ _ _ _)
  · refine c_skip ?_
    refine l_then ?_
    refine c_seq ?_
    refine c_region ?_
    refine o_mv st rfl rfl ?_
    refine stw (o_callP (vs := [v1]) Tryd.call28 rfl rfl (by intro w m h; exact (w_spec_DrawRewriteOut (F := allB [] w) (code_0 := code_0) allB_ok (m.rd0 0 rfl (reads_snap hv1)) h).mono (fun _ _ k => ret_free (fun r u => (fr_cons (free_own flelGRewrite) fr_nil)) k)) ?_); rintro ⟨r3, r6⟩ v4
    refine o_mv st rfl rfl ?_
    refine o_ext st (vs := [v4, (.agg #[(.int .i64 r6.xFrom), (.int .i64 r6.xTo), (.int .i64 r6.xPort), (.int .i64 r6.xProto)])]) rfl rfl rfl ?_
    refine o_ext st (vs := [v4, (.agg #[(.int .i64 r6.xFrom), (.int .i64 r6.xTo), (.int .i64 r6.xPort), (.int .i64 r6.xProto)])]) rfl rfl rfl ?_
    refine stw (o_alloc rfl [(.int .i64 0), (.int .i64 0), (.int .i64 0), (.int .i64 0)] zero26 ?_); intro b7
    refine o_as st rfl rfl ?_
    refine stw (o_stc (cs' := [(.int .i64 r6.xFrom), (.int .i64 r6.xTo), (.int .i64 r6.xPort), (.int .i64 r6.xProto)]) 0 rfl rfl rfl ty26 rfl rfl rfl rfl ?_)
    refine c_nil ?_
    refine l_then ?_
    refine c_seq ?_
    refine c_region ?_
    refine o_mv st rfl rfl ?_
    refine o_ldc st (v := (.agg #[(.int .i64 r6.xFrom), (.int .i64 r6.xTo), (.int .i64 r6.xPort), (.int .i64 r6.xProto)])) 0 rfl rfl rfl ty26 rfl ?_
    refine stw (o_callP (vs := [v4, (.agg #[(.int .i64 r6.xFrom), (.int .i64 r6.xTo), (.int .i64 r6.xPort), (.int .i64 r6.xProto)])]) Tryd.call16 rfl rfl (by intro w m h; exact (w_impl_RewriteOut (F := allB [] w) (list_0 := r3) (p_1 := r6) allB_ok (m.rd0 1 rfl reads_own) (m.rd0 2 rfl (reads_snap hgl0)) h).mono (fun _ _ k => ret_free (fun r u => fr_nil) k)) ?_); rintro r9 _
    refine stw (o_alloc rfl [(.int .i64 0), (.int .i64 0), (.int .i64 0), (.int .i64 0)] zero26 ?_); intro b10
    refine stw (o_stc (cs' := [(.int .i64 r9.xFrom), (.int .i64 r9.xTo), (.int .i64 r9.xPort), (.int .i64 r9.xProto)]) 0 rfl rfl rfl ty26 rfl rfl rfl rfl ?_)
    refine c_nil ?_
    refine l_then ?_
    refine c_seq ?_
    refine c_seq ?_
    refine c_draw mixed 5 rfl [cellCh b10 [(.int .i64 r9.xFrom), (.int .i64 r9.xTo), (.int .i64 r9.xPort), (.int .i64 r9.xProto)] 26, cellCh b7 [(.int .i64 r6.xFrom), (.int .i64 r6.xTo), (.int .i64 r6.xPort), (.int .i64 r6.xProto)] 26, ownCh elGRewrite 38 v4 r3, snapCh w0 F] ?_
    refine o_ldc (dt 0 (fun _ m => m)) (v := (.agg #[(.int .i64 r9.xFrom), (.int .i64 r9.xTo), (.int .i64 r9.xPort), (.int .i64 r9.xProto)])) 0 rfl rfl rfl ty26 rfl ?_
    refine o_mv (dt 1 (fun _ m => m)) rfl rfl ?_
    refine o_ldc (dt 2 (fun _ m => m)) (v := (.agg #[(.int .i64 r6.xFrom), (.int .i64 r6.xTo), (.int .i64 r6.xPort), (.int .i64 r6.xProto)])) 1 rfl rfl rfl ty26 rfl ?_
    refine d_one (i := 3) rfl (by kernel_rfl) (o_callP (vs := [v4, (.agg #[(.int .i64 r6.xFrom), (.int .i64 r6.xTo), (.int .i64 r6.xPort), (.int .i64 r6.xProto)])]) Tryd.call15 rfl rfl (by intro w m h; exact (w_spec_RewriteOut (F := allB [] w) (list_0 := r3) (p_1 := r6) allB_ok (m.rd0 2 rfl reads_own) h).mono (fun _ _ k => ret_free (fun r u => fr_nil) k)) ?_); rintro r12 _
    refine d_and (fun _ m => m) ?_
    refine o_bin (dt 4 (fun _ m => m)) (.bool (!(decide (r9 = r12)))) rfl rfl rfl (neqs26 _ _ r9.xFrom r9.xTo r9.xPort r9.xProto r12.xFrom r12.xTo r12.xPort r12.xProto) ?_
    refine d_done (by kernel_rfl) ?_
    refine l_then ?_
    refine c_cond rfl ?_ ?_
    · refine c_seq ?_
      refine c_region ?_
      refine o_as st rfl rfl ?_
      refine c_nil ?_
      refine l_then ?_
      refine c_ret ?_
      refine l_ret ?_
      exact l_end1 Tryd.results7 false () (rv_t rfl) (fun _ _ => NewCh.nil _ _ _ _)
    · refine c_skip ?_
      refine l_then ?_
      refine c_seq ?_
      refine c_join (σ := Bool) (fun (t75 : Bool) (a : Act) (w : World) => Has 100 [(4, (.pointer (some ⟨b7, 0, none⟩))), (3, v4), (5, (.pointer (some ⟨b10, 0, none⟩))), (33, (.bool t75))] a ∧ Mem (gB F [] w0) (feet []) w0 [cellCh b10 [(.int .i64 r9.xFrom), (.int .i64 r9.xTo), (.int .i64 r9.xPort), (.int .i64 r9.xProto)] 26, cellCh b7 [(.int .i64 r6.xFrom), (.int .i64 r6.xTo), (.int .i64 r6.xPort), (.int .i64 r6.xProto)] 26, ownCh elGRewrite 38 v4 r3, snapCh w0 F] w) ?_ ?_
      · intro k76
        refine c_region ?_
        refine o_mv st rfl rfl ?_
        refine stw (o_callP (vs := [v4]) Tryd.call24 rfl rfl (by intro w m h; exact (w_spec_RewritesValid (F := allB [] w) (list_0 := r3) allB_ok (m.rd0 2 rfl reads_own) h).mono (fun _ _ k => ret_free (fun r u => fr_nil) k)) ?_); rintro r13 _
        refine o_not st rfl rfl ?_
        refine o_mv st rfl rfl ?_
        refine st_sp (dj := 29) rfl ?_ ?_
        · refine st_s rfl rfl rfl rfl ?_
          refine st_s rfl rfl rfl rfl ?_
          refine st_s rfl rfl rfl rfl ?_
          refine o_pickT st rfl rfl rfl ?_
          refine c_nil ?_
          exact l_join true (fun a w hE hm => ⟨hE.sub ⟨rfl, rfl, rfl, rfl, trivial⟩, (hm.pick [0, 1, 2, 3] rfl)⟩)
        · refine o_ldc (st_g rfl rfl) (v := (.agg #[(.int .i64 r6.xFrom), (.int .i64 r6.xTo), (.int .i64 r6.xPort), (.int .i64 r6.xProto)])) 1 rfl rfl rfl ty26 rfl ?_
          refine st_gw rfl rfl (o_callP (vs := [(.agg #[(.int .i64 r6.xFrom), (.int .i64 r6.xTo), (.int .i64 r6.xPort), (.int .i64 r6.xProto)])]) Tryd.call25 rfl rfl (by intro w m h; exact (w_spec_PacketValid (F := allB [] w) (p_0 := r6) allB_ok h).mono (fun _ _ k => ret_free (fun r u => fr_nil) k)) ?_); rintro r14 _
          refine o_not (st_g rfl rfl) rfl rfl ?_
          refine o_pickF st rfl rfl rfl ?_
          refine c_nil ?_
          exact l_join (!r14) (fun a w hE hm => ⟨hE.sub ⟨rfl, rfl, rfl, rfl, trivial⟩, (hm.pick [0, 1, 2, 3] rfl)⟩)
      · rintro t75 a w ⟨hE, hm⟩ h
        refine nx_of hE hm h ?_
        clear hE hm h
        refine c_cond rfl ?_ ?_
        · refine c_join (σ := Bool) (fun (t138 : Bool) (a : Act) (w : World) => Has 100 [(2, (.bool t138))] a ∧ Mem (gB F [] w0) (feet []) w0 [snapCh w0 F] w) ?_ ?_
          · intro k139
            refine c_region ?_
            refine o_ldc st (v := (.agg #[(.int .i64 r9.xFrom), (.int .i64 r9.xTo), (.int .i64 r9.xPort), (.int .i64 r9.xProto)])) 0 rfl rfl rfl ty26 rfl ?_
            refine o_bld st (qs := []) (cells := [(.int .i64 0), (.int .i64 0), (.int .i64 0), (.int .i64 0)]) (by intro ρ h; simp only [List.map_toArray, List.map_cons, List.map_nil]) rfl bld26 rfl ?_
            refine o_bin st (.bool (decide (r9 = (GPacket.mk 0 0 0 0)))) rfl rfl rfl (eqls26 _ _ r9.xFrom r9.xTo r9.xPort r9.xProto 0 0 0 0) ?_
            refine o_mv st rfl rfl ?_
            refine st_sp (dj := 37) rfl ?_ ?_
            · refine st_gw rfl rfl (o_callP (vs := []) Tryd.call20 rfl rfl (by intro w m h; exact (w_laws_alive (F := allB [] w) allB_ok h).mono (fun _ _ k => ret_free (fun r u => fr_nil) k)) ?_); rintro r77 _
              refine o_pickT st rfl rfl rfl ?_
              refine o_as st rfl rfl ?_
              refine c_nil ?_
              exact l_join r77 (fun a w hE hm => ⟨hE.sub ⟨rfl, trivial⟩, (hm.pick [3] rfl)⟩)
            · refine st_s rfl rfl rfl rfl ?_
              refine o_pickF st rfl rfl rfl ?_
              refine o_as st rfl rfl ?_
              refine c_nil ?_
              exact l_join false (fun a w hE hm => ⟨hE.sub ⟨rfl, trivial⟩, (hm.pick [3] rfl)⟩)
          · rintro t138 a w ⟨hE, hm⟩ h
            refine nx_of hE hm h ?_
            clear hE hm h
            refine c_ret ?_
            refine l_ret ?_
            exact l_end1 Tryd.results7 t138 () (rv_t rfl) (fun _ _ => NewCh.nil _ _ _ _)
        · refine c_skip ?_
          refine l_then ?_
          refine c_seq ?_
          refine c_region ?_
          refine stw (o_bsl (enc := encGPrefix) (qs := []) (cells := []) ([] : (List GPrefix)) flelGPrefix (by intro ρ h; simp only [List.map_toArray, List.map_cons, List.map_nil]) rfl el53 zero36 rfl rfl rfl rfl rfl rfl ?_); intro v140
          refine o_as st rfl rfl ?_
          refine c_nil ?_
          refine l_then ?_
          refine c_seq ?_
          refine c_seq ?_
          refine c_region ?_
          refine o_as st rfl rfl ?_
          refine c_nil ?_
          refine l_then ?_
          refine c_block ?_
          refine c_loop (σ := ((List GPrefix) × Int)) (fun ((xs143, t146) : ((List GPrefix) × Int)) (a : Act) (w : World) => ∃ (v142 : Value), Has 100 [(4, (.pointer (some ⟨b7, 0, none⟩))), (3, v4), (5, (.pointer (some ⟨b10, 0, none⟩))), (6, v142), (7, (.int .i64 t146))] a ∧ Mem (gB F [] w0) (feet []) w0 [cellCh b10 [(.int .i64 r9.xFrom), (.int .i64 r9.xTo), (.int .i64 r9.xPort), (.int .i64 r9.xProto)] 26, cellCh b7 [(.int .i64 r6.xFrom), (.int .i64 r6.xTo), (.int .i64 r6.xPort), (.int .i64 r6.xProto)] 26, ownCh elGRewrite 38 v4 r3, snapCh w0 F, ownCh elGPrefix 36 v142 xs143] w) (fun a w hE hm => ⟨v140, hE.sub ⟨rfl, rfl, rfl, rfl, rfl, trivial⟩, (hm.pick [1, 2, 3, 4, 0] rfl)⟩) ?_
          rintro nx147 ⟨xs143, t146⟩ a w ⟨v142, hE, hm⟩ h
          refine nx_of hE hm h ?_
          clear hE hm h
          refine c_seq ?_
          refine c_seq ?_
          refine c_region ?_
          refine o_mv st rfl rfl ?_
          refine o_mv st rfl rfl ?_
          refine o_len st el28 2 rfl reads_own rfl rfl ?_
          refine o_lss st rfl rfl rfl ?_
          refine c_nil ?_
          refine l_then ?_
          refine c_cond rfl ?_ ?_
          · refine c_skip ?_
            refine l_then ?_
            refine c_seq ?_
            refine c_block ?_
            refine c_region ?_
            refine o_mv st rfl rfl ?_
            refine o_mv st rfl rfl ?_
            refine o_mv st rfl rfl ?_
            refine o_idx st 2 rfl reads_own rfl rfl rfl el28 ?_; intro e148 h149
            refine o_fadS st 2 rfl reads_own h149 rfl rfl fld38_1 rfl ?_
            refine o_lds st (enc := encGRewrite) (u := (.agg #[(.int .i64 e148.xOutside.xBase), (.int .i64 e148.xOutside.xLength)])) 2 rfl reads_own flelGRewrite rfl h149 rfl rfl ty36 rfl ?_
            refine stw (o_bsl (enc := encGPrefix) (qs := [(0, (.agg #[(.int .i64 e148.xOutside.xBase), (.int .i64 e148.xOutside.xLength)]))]) (cells := [(.int .i64 e148.xOutside.xBase), (.int .i64 e148.xOutside.xLength)]) ([e148.xOutside]) flelGPrefix (by intro ρ h; simp only [List.map_toArray, List.map_cons, List.map_nil, h (.tmp 52) _ rfl]) rfl el53 zero36 rfl rfl rfl rfl rfl rfl ?_); intro v150
            refine stw (o_app 5 0 rfl rfl (src_flat flelGPrefix reads_own) rfl rfl rfl el53 rfl zero36 rfl rfl ?_); intro v152
            refine o_as st rfl rfl ?_
            refine c_nil ?_
            refine b_norm ?_
            refine l_then ?_
            refine c_region ?_
            refine o_mv st rfl rfl ?_
            refine o_add st rfl rfl rfl ?_; intro t154
            refine o_as st rfl rfl ?_
            refine c_nil ?_
            exact l_join ((xs143 ++ ([e148.xOutside])), t154) (fun a w hE hm => ⟨v152, hE.sub ⟨rfl, rfl, rfl, rfl, rfl, trivial⟩, (hm.pick [1, 2, 3, 4, 5] rfl)⟩)
          · refine c_exit ?_
            refine l_exit ?_
            refine l_exit ?_
            refine b_exit ?_
            refine l_then ?_
            refine c_seq ?_
            refine c_region ?_
            refine o_mv st rfl rfl ?_
            refine stw (o_callP (vs := [v4]) Tryd.call27 rfl rfl (by intro w m h; exact (w_impl_HiddenFrom (F := allB [] w) (list_0 := r3) allB_ok (m.rd0 2 rfl reads_own) h).mono (fun _ _ k => ret_free (fun r u => (fr_cons (free_own flelGSpan) fr_nil)) k)) ?_); rintro r155 v156
            refine o_as st rfl rfl ?_
            refine c_nil ?_
            refine l_then ?_
            refine c_seq ?_
            refine c_region ?_
            refine o_mv st rfl rfl ?_
            refine o_ldc st (v := (.agg #[(.int .i64 r9.xFrom), (.int .i64 r9.xTo), (.int .i64 r9.xPort), (.int .i64 r9.xProto)])) 1 rfl rfl rfl ty26 rfl ?_
            refine stw (o_callP (vs := [(.agg #[(.int .i64 r9.xFrom), (.int .i64 r9.xTo), (.int .i64 r9.xPort), (.int .i64 r9.xProto)])]) Tryd.call29 rfl rfl (by intro w m h; exact (w_impl_ReversePacket (F := allB [] w) (p_0 := r9) allB_ok (m.rd0 4 rfl (reads_snap hgl0)) h).mono (fun _ _ k => ret_free (fun r u => fr_nil) k)) ?_); rintro r158 _
            refine stw (o_callP (vs := [v4, (.agg #[(.int .i64 r158.xFrom), (.int .i64 r158.xTo), (.int .i64 r158.xPort), (.int .i64 r158.xProto)])]) Tryd.call12 rfl rfl (by intro w m h; exact (w_impl_RewriteIn (F := allB [] w) (list_0 := r3) (p_1 := r158) allB_ok (m.rd0 3 rfl reads_own) (m.rd0 4 rfl (reads_snap hgl0)) h).mono (fun _ _ k => ret_free (fun r u => fr_nil) k)) ?_); rintro r159 _
            refine stw (o_callP (vs := [(.agg #[(.int .i64 r159.xFrom), (.int .i64 r159.xTo), (.int .i64 r159.xPort), (.int .i64 r159.xProto)])]) Tryd.call29 rfl rfl (by intro w m h; exact (w_impl_ReversePacket (F := allB [] w) (p_0 := r159) allB_ok (m.rd0 4 rfl (reads_snap hgl0)) h).mono (fun _ _ k => ret_free (fun r u => fr_nil) k)) ?_); rintro r160 _
            refine stw (o_alloc rfl [(.int .i64 0), (.int .i64 0), (.int .i64 0), (.int .i64 0)] zero26 ?_); intro b161
            refine stw (o_stc (cs' := [(.int .i64 r160.xFrom), (.int .i64 r160.xTo), (.int .i64 r160.xPort), (.int .i64 r160.xProto)]) 0 rfl rfl rfl ty26 rfl rfl rfl rfl ?_)
            refine c_nil ?_
            refine l_then ?_
            refine c_join (σ := Bool) (fun (t230 : Bool) (a : Act) (w : World) => Has 100 [(2, (.bool t230))] a ∧ Mem (gB F [] w0) (feet []) w0 [snapCh w0 F] w) ?_ ?_
            · intro k231
              refine c_draw mixed 39 rfl [cellCh b161 [(.int .i64 r160.xFrom), (.int .i64 r160.xTo), (.int .i64 r160.xPort), (.int .i64 r160.xProto)] 26, ownCh elGSpan 74 v156 r155, cellCh b10 [(.int .i64 r9.xFrom), (.int .i64 r9.xTo), (.int .i64 r9.xPort), (.int .i64 r9.xProto)] 26, cellCh b7 [(.int .i64 r6.xFrom), (.int .i64 r6.xTo), (.int .i64 r6.xPort), (.int .i64 r6.xProto)] 26, ownCh elGRewrite 38 v4 r3, snapCh w0 F, ownCh elGPrefix 36 v142 xs143] ?_
              refine o_mv (dt 0 (fun _ m => m)) rfl rfl ?_
              refine o_fad (dt 1 (fun _ m => m)) rfl rfl fld26_0 rfl ?_
              refine o_ldc (dt 2 (fun _ m => m)) (v := (.int .i64 r9.xFrom)) 2 rfl rfl rfl ty3 rfl ?_
              refine d_one (i := 3) rfl (by kernel_rfl) (o_callP (vs := [v156, (.int .i64 r9.xFrom)]) Tryd.call26 rfl rfl (by intro w m h; exact (w_impl_SpansHave (F := allB [] w) (list_0 := r155) (n_1 := r9.xFrom) allB_ok (m.rd0 1 rfl reads_own) h).mono (fun _ _ k => ret_free (fun r u => fr_nil) k)) ?_); rintro r163 _
              refine d_and (fun _ m => m) ?_
              refine o_not (dt 4 (fun _ m => m)) rfl rfl ?_
              refine o_mv (dt 5 (fun _ m => m)) rfl rfl ?_
              refine st_sp (dj := 67) rfl ?_ ?_
              · refine o_fad (dtg 6 (fun _ m => m)) rfl rfl fld26_1 rfl ?_
                refine o_ldc (dtg 7 (fun _ m => m)) (v := (.int .i64 r9.xTo)) 2 rfl rfl rfl ty3 rfl ?_
                refine o_fad (dtg 8 (fun _ m => m)) rfl rfl fld26_1 rfl ?_
                refine o_ldc (dtg 9 (fun _ m => m)) (v := (.int .i64 r6.xTo)) 3 rfl rfl rfl ty3 rfl ?_
                refine o_eql (dtg 10 (fun _ m => m)) und3 rfl rfl rfl ?_
                refine o_pickT (dt 11 (fun _ m => m)) rfl rfl rfl ?_
                refine o_mv (dt 12 (fun _ m => m)) rfl rfl ?_
                refine st_sp (dj := 74) rfl ?_ ?_
                · refine o_fad (dtg 13 (fun _ m => m)) rfl rfl fld26_2 rfl ?_
                  refine o_ldc (dtg 14 (fun _ m => m)) (v := (.int .i64 r9.xPort)) 2 rfl rfl rfl ty3 rfl ?_
                  refine o_fad (dtg 15 (fun _ m => m)) rfl rfl fld26_2 rfl ?_
                  refine o_ldc (dtg 16 (fun _ m => m)) (v := (.int .i64 r6.xPort)) 3 rfl rfl rfl ty3 rfl ?_
                  refine o_eql (dtg 17 (fun _ m => m)) und3 rfl rfl rfl ?_
                  refine o_pickT (dt 18 (fun _ m => m)) rfl rfl rfl ?_
                  refine o_mv (dt 19 (fun _ m => m)) rfl rfl ?_
                  refine st_sp (dj := 81) rfl ?_ ?_
                  · refine o_ldc (dtg 20 (fun _ m => m)) (v := (.agg #[(.int .i64 r160.xFrom), (.int .i64 r160.xTo), (.int .i64 r160.xPort), (.int .i64 r160.xProto)])) 0 rfl rfl rfl ty26 rfl ?_
                    refine o_ldc (dtg 21 (fun _ m => m)) (v := (.agg #[(.int .i64 r6.xFrom), (.int .i64 r6.xTo), (.int .i64 r6.xPort), (.int .i64 r6.xProto)])) 3 rfl rfl rfl ty26 rfl ?_
                    refine o_bin (dtg 22 (fun _ m => m)) (.bool (decide (r160 = r6))) rfl rfl rfl (eqls26 _ _ r160.xFrom r160.xTo r160.xPort r160.xProto r6.xFrom r6.xTo r6.xPort r6.xProto) ?_
                    refine o_mv (dtg 23 (fun _ m => m)) rfl rfl ?_
                    refine st_sp (dj := 85) rfl ?_ ?_
                    · refine dsk 24 (fun _ m => m) rfl (by kernel_rfl) rfl rfl rfl rfl ?_
                      refine dsk 25 (fun _ m => m) rfl (by kernel_rfl) rfl rfl rfl rfl ?_
                      refine dsk 26 (fun _ m => m) rfl (by kernel_rfl) rfl rfl rfl rfl ?_
                      refine dsk 27 (fun _ m => m) rfl (by kernel_rfl) rfl rfl rfl rfl ?_
                      refine dsk 28 (fun _ m => m) rfl (by kernel_rfl) rfl rfl rfl rfl ?_
                      refine o_pickT (dtg 29 (fun _ m => m)) rfl rfl rfl ?_
                      refine o_pickT (dt 30 (fun _ m => m)) rfl rfl rfl ?_
                      refine o_mv (dt 31 (fun _ m => m)) rfl rfl ?_
                      refine o_mv (dtg 32 (fun _ m => m)) rfl rfl ?_
                      refine o_ldc (dtg 33 (fun _ m => m)) (v := (.agg #[(.int .i64 r9.xFrom), (.int .i64 r9.xTo), (.int .i64 r9.xPort), (.int .i64 r9.xProto)])) 2 rfl rfl rfl ty26 rfl ?_
                      refine o_ldc (dtg 35 (fun _ m => m)) (v := (.agg #[(.int .i64 r9.xFrom), (.int .i64 r9.xTo), (.int .i64 r9.xPort), (.int .i64 r9.xProto)])) 2 rfl rfl rfl ty26 rfl ?_
                      refine d_oneg (i := 34) rfl rfl rfl (by kernel_rfl) (o_callP (vs := [v4, (.agg #[(.int .i64 r9.xFrom), (.int .i64 r9.xTo), (.int .i64 r9.xPort), (.int .i64 r9.xProto)])]) Tryd.call16 rfl rfl (by intro w m h; exact (w_impl_RewriteOut (F := allB [] w) (list_0 := r3) (p_1 := r9) allB_ok (m.rd0 4 rfl reads_own) (m.rd0 5 rfl (reads_snap hgl0)) h).mono (fun _ _ k => ret_free (fun r u => fr_nil) k)) ?_); rintro r164 _
                      refine d_and (fun _ m => m) ?_
                      refine o_bin (dtg 36 (fun _ m => m)) (.bool (decide (r164 = r9))) rfl rfl rfl (eqls26 _ _ r164.xFrom r164.xTo r164.xPort r164.xProto r9.xFrom r9.xTo r9.xPort r9.xProto) ?_
                      refine o_pickT (dt 37 (fun _ m => m)) rfl rfl rfl ?_
                      refine o_as (dt 38 (fun _ m => m)) rfl rfl ?_
                      refine d_done (by kernel_rfl) ?_
                      exact l_join (decide (r164 = r9)) (fun a w hE hm => ⟨hE.sub ⟨rfl, trivial⟩, (hm.pick [5] rfl)⟩)
                    · refine o_mv (dtg 24 (fun _ m => m)) rfl rfl ?_
                      refine o_fad (dtg 26 (fun _ m => m)) rfl rfl fld26_0 rfl ?_
                      refine o_ldc (dtg 27 (fun _ m => m)) (v := (.int .i64 r6.xFrom)) 3 rfl rfl rfl ty3 rfl ?_
                      refine d_oneg (i := 25) rfl rfl rfl (by kernel_rfl) (o_callP (vs := [v142]) Tryd.call30 rfl rfl (by intro w m h; exact (w_impl_PrefixesSpans (F := allB [] w) (list_0 := xs143) allB_ok (m.rd0 6 rfl reads_own) h).mono (fun _ _ k => ret_free (fun r u => (fr_cons (free_own flelGSpan) fr_nil)) k)) ?_); rintro r165 v166
                      refine d_and (fun w m => m.pick [1, 2, 3, 4, 5, 6, 7] rfl) ?_
                      refine d_oneg (i := 28) rfl rfl rfl (by kernel_rfl) (o_callP (vs := [v166, (.int .i64 r6.xFrom)]) Tryd.call26 rfl rfl (by intro w m h; exact (w_impl_SpansHave (F := allB [] w) (list_0 := r165) (n_1 := r6.xFrom) allB_ok (m.rd0 0 rfl reads_own) h).mono (fun _ _ k => ret_free (fun r u => fr_nil) k)) ?_); rintro r168 _
                      refine d_and (fun w m => m.pick [1, 2, 3, 4, 5, 6, 7] rfl) ?_
                      refine o_pickF (dtg 29 (fun w m => m.pick [1, 2, 3, 4, 5, 6, 7] rfl)) rfl rfl rfl ?_
                      refine o_pickT (dt 30 (fun w m => m.pick [1, 2, 3, 4, 5, 6, 7] rfl)) rfl rfl rfl ?_
                      refine o_mv (dt 31 (fun w m => m.pick [1, 2, 3, 4, 5, 6, 7] rfl)) rfl rfl ?_
                      refine st_sp (dj := 93) rfl ?_ ?_
                      · refine o_mv (dtg 32 (fun w m => m.pick [1, 2, 3, 4, 5, 6, 7] rfl)) rfl rfl ?_
                        refine o_ldc (dtg 33 (fun w m => m.pick [1, 2, 3, 4, 5, 6, 7] rfl)) (v := (.agg #[(.int .i64 r9.xFrom), (.int .i64 r9.xTo), (.int .i64 r9.xPort), (.int .i64 r9.xProto)])) 2 rfl rfl rfl ty26 rfl ?_
                        refine o_ldc (dtg 35 (fun w m => m.pick [1, 2, 3, 4, 5, 6, 7] rfl)) (v := (.agg #[(.int .i64 r9.xFrom), (.int .i64 r9.xTo), (.int .i64 r9.xPort), (.int .i64 r9.xProto)])) 2 rfl rfl rfl ty26 rfl ?_
                        refine d_oneg (i := 34) rfl rfl rfl (by kernel_rfl) (o_callP (vs := [v4, (.agg #[(.int .i64 r9.xFrom), (.int .i64 r9.xTo), (.int .i64 r9.xPort), (.int .i64 r9.xProto)])]) Tryd.call16 rfl rfl (by intro w m h; exact (w_impl_RewriteOut (F := allB [] w) (list_0 := r3) (p_1 := r9) allB_ok (m.rd0 5 rfl reads_own) (m.rd0 6 rfl (reads_snap hgl0)) h).mono (fun _ _ k => ret_free (fun r u => fr_nil) k)) ?_); rintro r169 _
                        refine d_and (fun w m => m.pick [1, 2, 3, 4, 5, 6, 7] rfl) ?_
                        refine o_bin (dtg 36 (fun w m => m.pick [1, 2, 3, 4, 5, 6, 7] rfl)) (.bool (decide (r169 = r9))) rfl rfl rfl (eqls26 _ _ r169.xFrom r169.xTo r169.xPort r169.xProto r9.xFrom r9.xTo r9.xPort r9.xProto) ?_
                        refine o_pickT (dt 37 (fun w m => m.pick [1, 2, 3, 4, 5, 6, 7] rfl)) rfl rfl rfl ?_
                        refine o_as (dt 38 (fun w m => m.pick [1, 2, 3, 4, 5, 6, 7] rfl)) rfl rfl ?_
                        refine d_done (by kernel_rfl) ?_
                        exact l_join (decide (r169 = r9)) (fun a w hE hm => ⟨hE.sub ⟨rfl, trivial⟩, (hm.pick [6] rfl)⟩)
                      · refine dsk 32 (fun w m => m.pick [1, 2, 3, 4, 5, 6, 7] rfl) rfl (by kernel_rfl) rfl rfl rfl rfl ?_
                        refine dsk 33 (fun w m => m.pick [1, 2, 3, 4, 5, 6, 7] rfl) rfl (by kernel_rfl) rfl rfl rfl rfl ?_
                        refine dsk 34 (fun w m => m.pick [1, 2, 3, 4, 5, 6, 7] rfl) rfl (by kernel_rfl) rfl rfl rfl rfl ?_
                        refine dsk 35 (fun w m => m.pick [1, 2, 3, 4, 5, 6, 7] rfl) rfl (by kernel_rfl) rfl rfl rfl rfl ?_
                        refine dsk 36 (fun w m => m.pick [1, 2, 3, 4, 5, 6, 7] rfl) rfl (by kernel_rfl) rfl rfl rfl rfl ?_
                        refine o_pickF (dt 37 (fun w m => m.pick [1, 2, 3, 4, 5, 6, 7] rfl)) rfl rfl rfl ?_
                        refine o_as (dt 38 (fun w m => m.pick [1, 2, 3, 4, 5, 6, 7] rfl)) rfl rfl ?_
                        refine d_done (by kernel_rfl) ?_
                        exact l_join false (fun a w hE hm => ⟨hE.sub ⟨rfl, trivial⟩, (hm.pick [6] rfl)⟩)
                  · refine dsk 20 (fun _ m => m) rfl (by kernel_rfl) rfl rfl rfl rfl ?_
                    refine dsk 21 (fun _ m => m) rfl (by kernel_rfl) rfl rfl rfl rfl ?_
                    refine dsk 22 (fun _ m => m) rfl (by kernel_rfl) rfl rfl rfl rfl ?_
                    refine dsk 23 (fun _ m => m) rfl (by kernel_rfl) rfl rfl rfl rfl ?_
                    refine dsk 24 (fun _ m => m) rfl (by kernel_rfl) rfl rfl rfl rfl ?_
                    refine dsk 25 (fun _ m => m) rfl (by kernel_rfl) rfl rfl rfl rfl ?_
                    refine dsk 26 (fun _ m => m) rfl (by kernel_rfl) rfl rfl rfl rfl ?_
                    refine dsk 27 (fun _ m => m) rfl (by kernel_rfl) rfl rfl rfl rfl ?_
                    refine dsk 28 (fun _ m => m) rfl (by kernel_rfl) rfl rfl rfl rfl ?_
                    refine dsk 29 (fun _ m => m) rfl (by kernel_rfl) rfl rfl rfl rfl ?_
                    refine o_pickF (dt 30 (fun _ m => m)) rfl rfl rfl ?_
                    refine o_mv (dt 31 (fun _ m => m)) rfl rfl ?_
                    refine dsk 32 (fun _ m => m) rfl (by kernel_rfl) rfl rfl rfl rfl ?_
                    refine dsk 33 (fun _ m => m) rfl (by kernel_rfl) rfl rfl rfl rfl ?_
                    refine dsk 34 (fun _ m => m) rfl (by kernel_rfl) rfl rfl rfl rfl ?_
                    refine dsk 35 (fun _ m => m) rfl (by kernel_rfl) rfl rfl rfl rfl ?_
                    refine dsk 36 (fun _ m => m) rfl (by kernel_rfl) rfl rfl rfl rfl ?_
                    refine o_pickF (dt 37 (fun _ m => m)) rfl rfl rfl ?_
                    refine o_as (dt 38 (fun _ m => m)) rfl rfl ?_
                    refine d_done (by kernel_rfl) ?_
                    exact l_join false (fun a w hE hm => ⟨hE.sub ⟨rfl, trivial⟩, (hm.pick [5] rfl)⟩)
                · refine dsk 13 (fun _ m => m) rfl (by kernel_rfl) rfl rfl rfl rfl ?_
                  refine dsk 14 (fun _ m => m) rfl (by kernel_rfl) rfl rfl rfl rfl ?_
                  refine dsk 15 (fun _ m => m) rfl (by kernel_rfl) rfl rfl rfl rfl ?_
                  refine dsk 16 (fun _ m => m) rfl (by kernel_rfl) rfl rfl rfl rfl ?_
                  refine dsk 17 (fun _ m => m) rfl (by kernel_rfl) rfl rfl rfl rfl ?_
                  refine o_pickF (dt 18 (fun _ m => m)) rfl rfl rfl ?_
                  refine o_mv (dt 19 (fun _ m => m)) rfl rfl ?_
                  refine dsk 20 (fun _ m => m) rfl (by kernel_rfl) rfl rfl rfl rfl ?_
                  refine dsk 21 (fun _ m => m) rfl (by kernel_rfl) rfl rfl rfl rfl ?_
                  refine dsk 22 (fun _ m => m) rfl (by kernel_rfl) rfl rfl rfl rfl ?_
                  refine dsk 23 (fun _ m => m) rfl (by kernel_rfl) rfl rfl rfl rfl ?_
                  refine dsk 24 (fun _ m => m) rfl (by kernel_rfl) rfl rfl rfl rfl ?_
                  refine dsk 25 (fun _ m => m) rfl (by kernel_rfl) rfl rfl rfl rfl ?_
                  refine dsk 26 (fun _ m => m) rfl (by kernel_rfl) rfl rfl rfl rfl ?_
                  refine dsk 27 (fun _ m => m) rfl (by kernel_rfl) rfl rfl rfl rfl ?_
                  refine dsk 28 (fun _ m => m) rfl (by kernel_rfl) rfl rfl rfl rfl ?_
                  refine dsk 29 (fun _ m => m) rfl (by kernel_rfl) rfl rfl rfl rfl ?_
                  refine o_pickF (dt 30 (fun _ m => m)) rfl rfl rfl ?_
                  refine o_mv (dt 31 (fun _ m => m)) rfl rfl ?_
                  refine dsk 32 (fun _ m => m) rfl (by kernel_rfl) rfl rfl rfl rfl ?_
                  refine dsk 33 (fun _ m => m) rfl (by kernel_rfl) rfl rfl rfl rfl ?_
                  refine dsk 34 (fun _ m => m) rfl (by kernel_rfl) rfl rfl rfl rfl ?_
                  refine dsk 35 (fun _ m => m) rfl (by kernel_rfl) rfl rfl rfl rfl ?_
                  refine dsk 36 (fun _ m => m) rfl (by kernel_rfl) rfl rfl rfl rfl ?_
                  refine o_pickF (dt 37 (fun _ m => m)) rfl rfl rfl ?_
                  refine o_as (dt 38 (fun _ m => m)) rfl rfl ?_
                  refine d_done (by kernel_rfl) ?_
                  exact l_join false (fun a w hE hm => ⟨hE.sub ⟨rfl, trivial⟩, (hm.pick [5] rfl)⟩)
              · refine dsk 6 (fun _ m => m) rfl (by kernel_rfl) rfl rfl rfl rfl ?_
                refine dsk 7 (fun _ m => m) rfl (by kernel_rfl) rfl rfl rfl rfl ?_
                refine dsk 8 (fun _ m => m) rfl (by kernel_rfl) rfl rfl rfl rfl ?_
                refine dsk 9 (fun _ m => m) rfl (by kernel_rfl) rfl rfl rfl rfl ?_
                refine dsk 10 (fun _ m => m) rfl (by kernel_rfl) rfl rfl rfl rfl ?_
                refine o_pickF (dt 11 (fun _ m => m)) rfl rfl rfl ?_
                refine o_mv (dt 12 (fun _ m => m)) rfl rfl ?_
                refine dsk 13 (fun _ m => m) rfl (by kernel_rfl) rfl rfl rfl rfl ?_
                refine dsk 14 (fun _ m => m) rfl (by kernel_rfl) rfl rfl rfl rfl ?_
                refine dsk 15 (fun _ m => m) rfl (by kernel_rfl) rfl rfl rfl rfl ?_
                refine dsk 16 (fun _ m => m) rfl (by kernel_rfl) rfl rfl rfl rfl ?_
                refine dsk 17 (fun _ m => m) rfl (by kernel_rfl) rfl rfl rfl rfl ?_
                refine o_pickF (dt 18 (fun _ m => m)) rfl rfl rfl ?_
                refine o_mv (dt 19 (fun _ m => m)) rfl rfl ?_
                refine dsk 20 (fun _ m => m) rfl (by kernel_rfl) rfl rfl rfl rfl ?_
                refine dsk 21 (fun _ m => m) rfl (by kernel_rfl) rfl rfl rfl rfl ?_
                refine dsk 22 (fun _ m => m) rfl (by kernel_rfl) rfl rfl rfl rfl ?_
                refine dsk 23 (fun _ m => m) rfl (by kernel_rfl) rfl rfl rfl rfl ?_
                refine dsk 24 (fun _ m => m) rfl (by kernel_rfl) rfl rfl rfl rfl ?_
                refine dsk 25 (fun _ m => m) rfl (by kernel_rfl) rfl rfl rfl rfl ?_
                refine dsk 26 (fun _ m => m) rfl (by kernel_rfl) rfl rfl rfl rfl ?_
                refine dsk 27 (fun _ m => m) rfl (by kernel_rfl) rfl rfl rfl rfl ?_
                refine dsk 28 (fun _ m => m) rfl (by kernel_rfl) rfl rfl rfl rfl ?_
                refine dsk 29 (fun _ m => m) rfl (by kernel_rfl) rfl rfl rfl rfl ?_
                refine o_pickF (dt 30 (fun _ m => m)) rfl rfl rfl ?_
                refine o_mv (dt 31 (fun _ m => m)) rfl rfl ?_
                refine dsk 32 (fun _ m => m) rfl (by kernel_rfl) rfl rfl rfl rfl ?_
                refine dsk 33 (fun _ m => m) rfl (by kernel_rfl) rfl rfl rfl rfl ?_
                refine dsk 34 (fun _ m => m) rfl (by kernel_rfl) rfl rfl rfl rfl ?_
                refine dsk 35 (fun _ m => m) rfl (by kernel_rfl) rfl rfl rfl rfl ?_
                refine dsk 36 (fun _ m => m) rfl (by kernel_rfl) rfl rfl rfl rfl ?_
                refine o_pickF (dt 37 (fun _ m => m)) rfl rfl rfl ?_
                refine o_as (dt 38 (fun _ m => m)) rfl rfl ?_
                refine d_done (by kernel_rfl) ?_
                exact l_join false (fun a w hE hm => ⟨hE.sub ⟨rfl, trivial⟩, (hm.pick [5] rfl)⟩)
            · rintro t230 a w ⟨hE, hm⟩ h
              refine nx_of hE hm h ?_
              clear hE hm h
              refine c_ret ?_
              exact l_end1 Tryd.results7 t230 () (rv_t rfl) (fun _ _ => NewCh.nil _ _ _ _)



end

end Go.Proofs.YtdjfbceokpofmaaDoor
