/- Texts of this seat, put together. -/
import Derived.Test.YtpbmhkfbggmofaaDoorMP12
set_option linter.unusedSimpArgs false
set_option linter.unusedVariables false
set_option linter.unusedSectionVars false
namespace Go.Proofs.YtpbmhkfbggmofaaDoor
section
open Go.RowKit
set_option maxRecDepth 100000 in
set_option maxHeartbeats 8000000 in
theorem w_spec_l20Tests {w0 : World} {F : Nat → Prop} {b1 : Nat} {v2 : Value} {r_0_b : (List UInt8)} {r_0_p : Int} {n_1 : Int} {κ : ((List GTest) × Int) → Prop} (hF : ∀ b, F b → b < w0.heap.size ∧ ¬ feet [cellCh b1 [v2, (.int .i64 r_0_p)] 104] b) (hg : Given [cellCh b1 [v2, (.int .i64 r_0_p)] 104] F w0) (hv2 : Sl elU8 F w0 v2 r_0_b) (h : L_spec_l20Tests r_0_b r_0_p n_1 κ) :
    Calls Tryd.prog 94 #[(.pointer (some ⟨b1, 0, none⟩)), (.int .i64 n_1)] w0 (Ret [cellCh b1 [v2, (.int .i64 r_0_p)] 104] F w0 κ (fun (r : ((List GTest) × Int)) (u : Value) => u) (fun (r : ((List GTest) × Int)) (u : Value) => [ownCh elGTest 125 u r.1, cellCh b1 [v2, (.int .i64 r.2)] 104])) := by
  refine enterS (args := [(.pointer (some ⟨b1, 0, none⟩)), (.int .i64 n_1)]) [cellCh b1 [v2, (.int .i64 r_0_p)] 104] hF hg Tryd.func94 rfl Tryd.ntmps94 rfl h ?_
  clear h hF hg
  refine c_seq ?_
  refine c_region ?_
  refine stw (o_asn elGTest 125 rfl rfl ?_)
  refine c_nil ?_
  refine l_then ?_
  refine c_seq ?_
  refine c_region ?_
  refine stw (o_bsl (enc := encGTest) (qs := []) (cells := []) ([] : (List GTest)) flelGTest (by intro ρ h; simp only [List.map_toArray, List.map_cons, List.map_nil]) rfl el80 zero125 rfl rfl rfl rfl rfl rfl ?_); intro v6
  refine o_as st rfl rfl ?_
  refine c_nil ?_
  refine l_then ?_
  refine c_seq ?_
  refine c_seq ?_
  refine c_region ?_
  refine o_mv st rfl rfl ?_
  refine pk [2, 0, 1, 3] rfl ?_
  refine stw (o_call (vs := [(.pointer (some ⟨b1, 0, none⟩)), (.int .i64 4)]) (M0 := [cellCh b1 [v2, (.int .i64 r_0_p)] 104]) Tryd.call60 rfl rfl (by intro w m h; exact (w_spec_l20Rd_pick (F := allB [cellCh b1 [v2, (.int .i64 r_0_p)] 104] w) (r_0_b := r_0_b) (r_0_p := r_0_p) (n_1 := 4) allB_ok m.given (m.rdM 2 rfl (reads_snap hv2)) h).mono (fun _ _ k => ret_free (fun r u => (fr_cons free_cell fr_nil)) k)) ?_); rintro ⟨r8, r9⟩ _
  refine o_as st rfl rfl ?_
  refine c_nil ?_
  refine l_then ?_
  refine c_block ?_
  refine c_loop (σ := (Int × (List GTest) × Int)) (fun ((t10, xs12, t15) : (Int × (List GTest) × Int)) (a : Act) (w : World) => ∃ (v11 : Value), Has 32 [(0, (.pointer (some ⟨b1, 0, none⟩))), (1, (.int .i64 n_1)), (5, v11), (6, (.int .i64 t15))] a ∧ Mem (gB F [cellCh b1 [v2, (.int .i64 r_0_p)] 104] w0) (feet [cellCh b1 [v2, (.int .i64 r_0_p)] 104]) w0 [cellCh b1 [v2, (.int .i64 t10)] 104, snapCh w0 F, ownCh elGTest 125 v11 xs12] w) (fun a w hE hm => ⟨v6, hE.sub ⟨rfl, rfl, rfl, rfl, trivial⟩, (hm.pick [0, 3, 1] rfl)⟩) ?_
  rintro nx16 ⟨t10, xs12, t15⟩ a w ⟨v11, hE, hm⟩ h
  refine nx_of hE hm h ?_
  clear hE hm h
  refine c_seq ?_
  refine c_seq ?_
  refine c_region ?_
  refine o_mv st rfl rfl ?_
  refine o_gtr st rfl rfl rfl ?_
  refine c_nil ?_
  refine l_then ?_
  refine c_cond rfl ?_ ?_
  · refine c_skip ?_
    refine l_then ?_
    refine c_seq ?_
    refine c_block ?_
    refine c_region ?_
    refine o_mv st rfl rfl ?_
    refine o_mv st rfl rfl ?_
    refine stw (o_call (vs := [(.pointer (some ⟨b1, 0, none⟩)), (.int .i64 0)]) (M0 := [cellCh b1 [v2, (.int .i64 t10)] 104]) Tryd.call117 rfl rfl (by intro w m h; exact (w_spec_l20Test (F := allB [cellCh b1 [v2, (.int .i64 t10)] 104] w) (r_0_b := r_0_b) (r_0_p := t10) (n_1 := 0) allB_ok m.given (m.rdM 0 rfl (reads_snap hv2)) h).mono (fun _ _ k => ret_free (fun r u => (fr_cons free_cell fr_nil)) k)) ?_); rintro ⟨r17, r18⟩ _
    refine stw (o_bsl (enc := encGTest) (qs := [(0, (.agg #[(.int .i64 r17.xField), (.int .i64 r17.xLo), (.int .i64 r17.xHi), (.bool r17.xNot)]))]) (cells := [(.int .i64 r17.xField), (.int .i64 r17.xLo), (.int .i64 r17.xHi), (.bool r17.xNot)]) ([r17]) flelGTest (by intro ρ h; simp only [List.map_toArray, List.map_cons, List.map_nil, h (.tmp 16) _ rfl]) rfl el80 zero125 rfl rfl rfl rfl rfl rfl ?_); intro v19
    refine stw (o_app 3 0 rfl rfl (src_flat flelGTest reads_own) rfl rfl rfl el80 rfl zero125 rfl rfl ?_); intro v21
    refine o_as st rfl rfl ?_
    refine c_nil ?_
    refine b_norm ?_
    refine l_then ?_
    refine c_region ?_
    refine o_mv st rfl rfl ?_
    refine o_sub st rfl rfl rfl ?_; intro t23
    refine o_as st rfl rfl ?_
    refine c_nil ?_
    exact l_join (r18, (xs12 ++ ([r17])), t23) (fun a w hE hm => ⟨v21, hE.sub ⟨rfl, rfl, rfl, rfl, trivial⟩, (hm.pick [1, 2, 3] rfl)⟩)
  · refine c_exit ?_
    refine l_exit ?_
    refine l_exit ?_
    refine b_exit ?_
    refine l_then ?_
    refine c_join (σ := (Int × (List GTest))) (fun ((t97, xs99) : (Int × (List GTest))) (a : Act) (w : World) => ∃ (v98 : Value), Has 32 [(5, v98)] a ∧ Mem (gB F [cellCh b1 [v2, (.int .i64 r_0_p)] 104] w0) (feet [cellCh b1 [v2, (.int .i64 r_0_p)] 104]) w0 [cellCh b1 [v2, (.int .i64 t97)] 104, snapCh w0 F, ownCh elGTest 125 v98 xs99] w) ?_ ?_
    · intro k102
      refine c_seq ?_
      refine c_region ?_
      refine o_mv st rfl rfl ?_
      refine o_mv st rfl rfl ?_
      refine stw (o_call (vs := [(.pointer (some ⟨b1, 0, none⟩)), (.int .i64 n_1)]) (M0 := [cellCh b1 [v2, (.int .i64 t10)] 104]) Tryd.call64 rfl rfl (by intro w m h; exact (w_spec_l20Rd_odd (F := allB [cellCh b1 [v2, (.int .i64 t10)] 104] w) (r_0_b := r_0_b) (r_0_p := t10) (n_1 := n_1) allB_ok m.given (m.rdM 0 rfl (reads_snap hv2)) h).mono (fun _ _ k => ret_free (fun r u => (fr_cons free_cell fr_nil)) k)) ?_); rintro ⟨r24, r25⟩ _
      refine c_nil ?_
      refine l_then ?_
      refine c_cond rfl ?_ ?_
      · refine c_seq ?_
        refine c_region ?_
        refine o_mv st rfl rfl ?_
        refine stw (o_call (vs := [(.pointer (some ⟨b1, 0, none⟩)), (.int .i64 2)]) (M0 := [cellCh b1 [v2, (.int .i64 r25)] 104]) Tryd.call60 rfl rfl (by intro w m h; exact (w_spec_l20Rd_pick (F := allB [cellCh b1 [v2, (.int .i64 r25)] 104] w) (r_0_b := r_0_b) (r_0_p := r25) (n_1 := 2) allB_ok m.given (m.rdM 0 rfl (reads_snap hv2)) h).mono (fun _ _ k => ret_free (fun r u => (fr_cons free_cell fr_nil)) k)) ?_); rintro ⟨r26, r27⟩ _
        refine o_eql st und3 rfl rfl rfl ?_
        refine c_nil ?_
        refine l_then ?_
        refine c_cond rfl ?_ ?_
        · refine c_region ?_
          refine o_mv st rfl rfl ?_
          refine o_mv st rfl rfl ?_
          refine stw (o_call (vs := [(.pointer (some ⟨b1, 0, none⟩)), (.int .i64 1)]) (M0 := [cellCh b1 [v2, (.int .i64 r27)] 104]) Tryd.call117 rfl rfl (by intro w m h; exact (w_spec_l20Test (F := allB [cellCh b1 [v2, (.int .i64 r27)] 104] w) (r_0_b := r_0_b) (r_0_p := r27) (n_1 := 1) allB_ok m.given (m.rdM 0 rfl (reads_snap hv2)) h).mono (fun _ _ k => ret_free (fun r u => (fr_cons free_cell fr_nil)) k)) ?_); rintro ⟨r28, r29⟩ _
          refine stw (o_bsl (enc := encGTest) (qs := [(0, (.agg #[(.int .i64 r28.xField), (.int .i64 r28.xLo), (.int .i64 r28.xHi), (.bool r28.xNot)]))]) (cells := [(.int .i64 r28.xField), (.int .i64 r28.xLo), (.int .i64 r28.xHi), (.bool r28.xNot)]) ([r28]) flelGTest (by intro ρ h; simp only [List.map_toArray, List.map_cons, List.map_nil, h (.tmp 27) _ rfl]) rfl el80 zero125 rfl rfl rfl rfl rfl rfl ?_); intro v30
          refine stw (o_app 3 0 rfl rfl (src_flat flelGTest reads_own) rfl rfl rfl el80 rfl zero125 rfl rfl ?_); intro v32
          refine o_as st rfl rfl ?_
          refine c_nil ?_
          exact l_join (r29, (xs12 ++ ([r28]))) (fun a w hE hm => ⟨v32, hE.sub ⟨rfl, trivial⟩, (hm.pick [1, 2, 3] rfl)⟩)
        · refine c_region ?_
          refine stw (o_make (z := (GTest.mk 0 0 0 false)) flelGTest rfl rfl rfl el80 rfl zero125 rfl rfl ?_); intro v34 xs35
          refine o_as st rfl rfl ?_
          refine c_nil ?_
          exact l_join (r27, xs35) (fun a w hE hm => ⟨v34, hE.sub ⟨rfl, trivial⟩, (hm.pick [1, 2, 0] rfl)⟩)
      · refine c_skip ?_
        exact l_join (r25, xs12) (fun a w hE hm => ⟨v11, hE.sub ⟨rfl, trivial⟩, (hm.pick [0, 1, 2] rfl)⟩)
    · rintro ⟨t97, xs99⟩ a w ⟨v98, hE, hm⟩ h
      refine nx_of hE hm h ?_
      clear hE hm h
      refine c_seq ?_
      refine c_region ?_
      refine o_mv st rfl rfl ?_
      refine o_as st rfl rfl ?_
      refine c_nil ?_
      refine l_then ?_
      refine c_ret ?_
      exact l_end1 Tryd.results94 (xs99, t97) v98 (rv_t rfl) (fun w m => NewCh.ofB m [2, 0] rfl)

set_option maxRecDepth 100000 in
set_option maxHeartbeats 8000000 in
theorem w_spec_l20Box {w0 : World} {F : Nat → Prop} {b1 : Nat} {v2 : Value} {r_0_b : (List UInt8)} {r_0_p : Int} {n_1 : Int} {κ : (GBox × Int) → Prop} (hF : ∀ b, F b → b < w0.heap.size ∧ ¬ feet [cellCh b1 [v2, (.int .i64 r_0_p)] 104] b) (hg : Given [cellCh b1 [v2, (.int .i64 r_0_p)] 104] F w0) (hv2 : Sl elU8 F w0 v2 r_0_b) (h : L_spec_l20Box r_0_b r_0_p n_1 κ) :
    Calls Tryd.prog 61 #[(.pointer (some ⟨b1, 0, none⟩)), (.int .i64 n_1)] w0 (Ret [cellCh b1 [v2, (.int .i64 r_0_p)] 104] F w0 κ (fun (r : (GBox × Int)) (u : Value) => (.agg #[u])) (fun (r : (GBox × Int)) (u : Value) => [roCh (elSl elGSpan) u r.1.xSides, cellCh b1 [v2, (.int .i64 r.2)] 104])) := by
  refine enterS (args := [(.pointer (some ⟨b1, 0, none⟩)), (.int .i64 n_1)]) [cellCh b1 [v2, (.int .i64 r_0_p)] 104] hF hg Tryd.func61 rfl Tryd.ntmps61 rfl h ?_
  clear h hF hg
  refine c_seq ?_
  refine c_region ?_
  refine stw (o_alloc rfl [(.slice none 0 0)] zero85 ?_); intro b5
  refine c_nil ?_
  refine l_then ?_
  refine c_seq ?_
  refine c_region ?_
  refine o_mv st rfl rfl ?_
  refine pk [1, 0, 2] rfl ?_
  refine stw (o_call (vs := [(.pointer (some ⟨b1, 0, none⟩)), (.int .i64 0)]) (M0 := [cellCh b1 [v2, (.int .i64 r_0_p)] 104]) Tryd.call94 rfl rfl (by intro w m h; exact (w_spec_l20Tests (F := allB [cellCh b1 [v2, (.int .i64 r_0_p)] 104] w) (r_0_b := r_0_b) (r_0_p := r_0_p) (n_1 := 0) allB_ok m.given (m.rdM 1 rfl (reads_snap hv2)) h).mono (fun _ _ k => ret_free (fun r u => (fr_cons (free_own flelGTest) (fr_cons free_cell fr_nil))) k)) ?_); rintro ⟨r7, r10⟩ v8
  refine frz 0 rfl reads_own ?_
  refine stw (o_callP (vs := [v8]) Tryd.call93 rfl rfl (by intro w m h; exact w_spec_TestsBox (list_0 := r7) fz_ok0 (m.ro 0 rfl) h) ?_); rintro r11 v12
  refine stw (o_alloc rfl [(.slice none 0 0)] zero85 ?_); intro b14
  refine nx_own 1 rfl ?_; rintro a16 l17 q18 rfl
  refine stw (o_stc (cs' := [(.slice a16 l17 q18)]) 0 rfl rfl rfl ty85 rfl rfl rfl rfl ?_)
  refine c_nil ?_
  refine l_then ?_
  refine c_join (σ := ((List (List GSpan)) × Int)) (fun ((xs94, t96) : ((List (List GSpan)) × Int)) (a : Act) (w : World) => Has 48 [(0, (.pointer (some ⟨b1, 0, none⟩))), (1, (.int .i64 n_1)), (4, (.pointer (some ⟨b5, 0, none⟩))), (5, (.pointer (some ⟨b14, 0, none⟩)))] a ∧ Mem (gB F [cellCh b1 [v2, (.int .i64 r_0_p)] 104] w0) (feet [cellCh b1 [v2, (.int .i64 r_0_p)] 104]) w0 [cellCh b1 [v2, (.int .i64 t96)] 104, cellCh b14 [(.slice a16 l17 q18)] 85, ownCh (elSl elGSpan) 72 (.slice a16 l17 q18) xs94, cellCh b5 [(.slice none 0 0)] 85, snapCh w0 F] w) ?_ ?_
  · intro k97
    refine c_seq ?_
    refine c_region ?_
    refine o_mv st rfl rfl ?_
    refine pk [3, 0, 1, 2, 4, 5] rfl ?_
    refine stw (o_call (vs := [(.pointer (some ⟨b1, 0, none⟩)), (.int .i64 3)]) (M0 := [cellCh b1 [v2, (.int .i64 r10)] 104]) Tryd.call60 rfl rfl (by intro w m h; exact (w_spec_l20Rd_pick (F := allB [cellCh b1 [v2, (.int .i64 r10)] 104] w) (r_0_b := r_0_b) (r_0_p := r10) (n_1 := 3) allB_ok m.given (m.rdM 4 rfl (reads_snap hv2)) h).mono (fun _ _ k => ret_free (fun r u => (fr_cons free_cell fr_nil)) k)) ?_); rintro ⟨r19, r20⟩ _
    refine o_eql st und3 rfl rfl rfl ?_
    refine c_nil ?_
    refine l_then ?_
    refine c_cond rfl ?_ ?_
    · refine c_seq ?_
      refine c_region ?_
      refine o_mv st rfl rfl ?_
      refine stw (o_call (vs := [(.pointer (some ⟨b1, 0, none⟩)), (.int .i64 4)]) (M0 := [cellCh b1 [v2, (.int .i64 r20)] 104]) Tryd.call60 rfl rfl (by intro w m h; exact (w_spec_l20Rd_pick (F := allB [cellCh b1 [v2, (.int .i64 r20)] 104] w) (r_0_b := r_0_b) (r_0_p := r20) (n_1 := 4) allB_ok m.given (m.rdM 4 rfl (reads_snap hv2)) h).mono (fun _ _ k => ret_free (fun r u => (fr_cons free_cell fr_nil)) k)) ?_); rintro ⟨r21, r22⟩ _
      refine o_as st rfl rfl ?_
      refine c_nil ?_
      refine l_then ?_
      refine c_draw mixed 9 rfl [cellCh b14 [(.slice a16 l17 q18)] 85, roCh elGTest v8 r7, cellCh b5 [(.slice none 0 0)] 85, snapCh w0 F] ?_
      refine o_fad (dt 0 (fun w m => m.pick [1, 3, 4, 5] rfl)) rfl rfl fld85_0 rfl ?_
      refine o_ldc (dt 1 (fun w m => m.pick [1, 3, 4, 5] rfl)) (v := (.slice a16 l17 q18)) 0 rfl rfl rfl ty83 rfl ?_
      refine o_mv (dt 2 (fun w m => m.pick [1, 3, 4, 5] rfl)) rfl rfl ?_
      refine o_mv (dt 3 (fun w m => m.pick [1, 3, 4, 5] rfl)) rfl rfl ?_
      refine o_mv (dt 4 (fun w m => m.pick [1, 3, 4, 5] rfl)) rfl rfl ?_
      refine d_one (i := 5) rfl (by kernel_rfl) (o_callP (vs := [(.int .i64 r21)]) Tryd.call63 rfl rfl (by intro w m h; exact (w_spec_FieldTop (F := allB [] w) (n_0 := r21) allB_ok h).mono (fun _ _ k => ret_free (fun r u => fr_nil) k)) ?_); rintro r23 _
      refine d_and (fun w m => m.pick [1, 3, 4, 5] rfl) ?_
      refine d_one (i := 6) rfl (by kernel_rfl) (o_call (vs := [(.pointer (some ⟨b1, 0, none⟩)), (.int .i64 r23), (.int .i64 0)]) (M0 := [cellCh b1 [v2, (.int .i64 r22)] 104]) Tryd.call62 rfl rfl (by intro w m h; exact (w_spec_l20Set (F := allB [cellCh b1 [v2, (.int .i64 r22)] 104] w) (r_0_b := r_0_b) (r_0_p := r22) (top_1 := r23) (n_2 := 0) allB_ok m.given (m.rdM 4 rfl (reads_snap hv2)) h).mono (fun _ _ k => ret_free (fun r u => (fr_cons (free_own flelGSpan) (fr_cons free_cell fr_nil))) k)) ?_); rintro ⟨r24, r27⟩ v25
      refine d_and (fun w m => m.pick [2, 4, 5, 6] rfl) ?_
      refine d_one (i := 7) rfl (by kernel_rfl) (o_idx m_op 3 rfl reads_own rfl rfl rfl el83 ?_); intro e28 h29
      refine d_and (fun w m => m.pick [2, 4, 5, 6] rfl) ?_
      refine nx_own 0 rfl ?_; rintro a30 l31 q32 rfl
      refine frz 0 rfl reads_own ?_
      refine d_one (i := 8) rfl (by kernel_rfl) (o_stsN (El' := (elSl elGSpan)) (y' := r24) 3 rfl rfl h29 (fun w cs m h => by obtain ⟨u0_, rfl, s0_⟩ := h; exact ⟨(.slice a30 l31 q32), rfl, (m.ro 0 rfl)⟩) ty72 rfl rfl rfl rfl rfl ?_)
      refine d_and (fun w m => m.pick [2, 4, 5, 6] rfl) ?_
      refine d_done (by kernel_rfl) ?_
      exact l_join ((r11.xSides.set (r21).toNat r24), r27) (fun a w hE hm => ⟨hE.sub ⟨rfl, rfl, rfl, rfl, trivial⟩, (hm.pick [1, 2, 3, 5, 6] rfl)⟩)
    · refine c_skip ?_
      exact l_join (r11.xSides, r20) (fun a w hE hm => ⟨hE.sub ⟨rfl, rfl, rfl, rfl, trivial⟩, (hm.pick [0, 1, 2, 4, 5] rfl)⟩)
  · rintro ⟨xs94, t96⟩ a w ⟨hE, hm⟩ h
    refine nx_of hE hm h ?_
    clear hE hm h
    refine c_join (σ := (Int × (List (List GSpan)))) (fun ((t189, xs191) : (Int × (List (List GSpan)))) (a : Act) (w : World) => ∃ (v190 : Value), Has 48 [(4, (.pointer (some ⟨b5, 0, none⟩))), (5, (.pointer (some ⟨b14, 0, none⟩)))] a ∧ Mem (gB F [cellCh b1 [v2, (.int .i64 r_0_p)] 104] w0) (feet [cellCh b1 [v2, (.int .i64 r_0_p)] 104]) w0 [cellCh b1 [v2, (.int .i64 t189)] 104, cellCh b14 [v190] 85, cellCh b5 [(.slice none 0 0)] 85, snapCh w0 F, roCh (elSl elGSpan) v190 xs191] w) ?_ ?_
    · intro k194
      refine c_seq ?_
      refine c_region ?_
      refine o_mv st rfl rfl ?_
      refine o_mv st rfl rfl ?_
      refine stw (o_call (vs := [(.pointer (some ⟨b1, 0, none⟩)), (.int .i64 n_1)]) (M0 := [cellCh b1 [v2, (.int .i64 t96)] 104]) Tryd.call64 rfl rfl (by intro w m h; exact (w_spec_l20Rd_odd (F := allB [cellCh b1 [v2, (.int .i64 t96)] 104] w) (r_0_b := r_0_b) (r_0_p := t96) (n_1 := n_1) allB_ok m.given (m.rdM 3 rfl (reads_snap hv2)) h).mono (fun _ _ k => ret_free (fun r u => (fr_cons free_cell fr_nil)) k)) ?_); rintro ⟨r98, r99⟩ _
      refine c_nil ?_
      refine l_then ?_
      refine c_cond rfl ?_ ?_
      · refine c_seq ?_
        refine c_region ?_
        refine o_mv st rfl rfl ?_
        refine stw (o_call (vs := [(.pointer (some ⟨b1, 0, none⟩)), (.int .i64 3)]) (M0 := [cellCh b1 [v2, (.int .i64 r99)] 104]) Tryd.call60 rfl rfl (by intro w m h; exact (w_spec_l20Rd_pick (F := allB [cellCh b1 [v2, (.int .i64 r99)] 104] w) (r_0_b := r_0_b) (r_0_p := r99) (n_1 := 3) allB_ok m.given (m.rdM 3 rfl (reads_snap hv2)) h).mono (fun _ _ k => ret_free (fun r u => (fr_cons free_cell fr_nil)) k)) ?_); rintro ⟨r100, r101⟩ _
        refine c_nil ?_
        refine l_then ?_
        refine c_block ?_
        refine c_seq ?_
        refine c_region ?_
        refine o_eql st und3 rfl rfl rfl ?_
        refine o_as st rfl rfl ?_
        refine c_nil ?_
        refine l_then ?_
        refine c_cond rfl ?_ ?_
        · refine c_region ?_
          refine o_fad st rfl rfl fld85_0 rfl ?_
          refine o_ldc st (v := (.slice a16 l17 q18)) 1 rfl rfl rfl ty83 rfl ?_
          refine frz 2 rfl reads_own ?_
          refine stw (o_slc (I := 1) (J := (xs94.length : Int)) 2 rfl rfl rfl rfl rfl el83 rfl ?_); intro v102 xs103
          refine o_fad st rfl rfl fld85_0 rfl ?_
          refine nx_ro 0 rfl ?_; rintro a105 l106 q107 rfl
          refine stw (o_stc (cs' := [(.slice a105 l106 q107)]) 2 rfl rfl rfl ty83 rfl rfl rfl rfl ?_)
          refine c_nil ?_
          refine b_norm ?_
          exact l_join (r101, xs103) (fun a w hE hm => ⟨(.slice a105 l106 q107), hE.sub ⟨rfl, rfl, trivial⟩, (hm.pick [1, 2, 4, 5, 0] rfl)⟩)
        · refine c_seq ?_
          refine c_region ?_
          refine o_eql st und3 rfl rfl rfl ?_
          refine o_as st rfl rfl ?_
          refine c_nil ?_
          refine l_then ?_
          refine c_cond rfl ?_ ?_
          · refine c_region ?_
            refine o_fad st rfl rfl fld85_0 rfl ?_
            refine o_ldc st (v := (.slice a16 l17 q18)) 1 rfl rfl rfl ty83 rfl ?_
            refine o_bld st (qs := [(0, (.int .i64 0)), (1, (.int .i64 8))]) (cells := [(.int .i64 0), (.int .i64 8)]) (by intro ρ h; simp only [List.map_toArray, List.map_cons, List.map_nil, h (.const (.int .i64 0)) _ rfl, h (.const (.int .i64 8)) _ rfl]) rfl bld71 rfl ?_
            refine stw (o_bsl (enc := encGSpan) (qs := [(0, (.agg #[(.int .i64 0), (.int .i64 8)]))]) (cells := [(.int .i64 0), (.int .i64 8)]) ([(GSpan.mk 0 8)]) flelGSpan (by intro ρ h; simp only [List.map_toArray, List.map_cons, List.map_nil, h (.tmp 44) _ rfl]) rfl el72 zero71 rfl rfl rfl rfl rfl rfl ?_); intro v108
            refine o_idx st 3 rfl reads_own rfl rfl rfl el83 ?_; intro e110 h111
            refine nx_own 0 rfl ?_; rintro a112 l113 q114 rfl
            refine frz 0 rfl reads_own ?_
            refine stw (o_stsN (El' := (elSl elGSpan)) (y' := [(GSpan.mk 0 8)]) 3 rfl rfl h111 (fun w cs m h => by obtain ⟨u0_, rfl, s0_⟩ := h; exact ⟨(.slice a112 l113 q114), rfl, (m.ro 0 rfl)⟩) ty72 rfl rfl rfl rfl rfl ?_)
            refine c_nil ?_
            refine b_norm ?_
            exact l_join (r101, (xs94.set (3 : Int).toNat ([(GSpan.mk 0 8)]))) (fun a w hE hm => ⟨(.slice a16 l17 q18), hE.sub ⟨rfl, rfl, trivial⟩, ((hm.freeze 3 rfl reads_own).pick [1, 2, 4, 5, 3] rfl)⟩)
          · refine c_region ?_
            refine o_fad st rfl rfl fld85_0 rfl ?_
            refine o_ldc st (v := (.slice a16 l17 q18)) 1 rfl rfl rfl ty83 rfl ?_
            refine stw (o_bsl (enc := encGSpan) (qs := []) (cells := []) ([] : (List GSpan)) flelGSpan (by intro ρ h; simp only [List.map_toArray, List.map_cons, List.map_nil]) rfl el72 zero71 rfl rfl rfl rfl rfl rfl ?_); intro v116
            refine nx_own 0 rfl ?_; rintro a118 l119 q120 rfl
            refine stw (o_bslD (M := [ownCh elGSpan 71 (.slice a118 l119 q120) ([])]) (E' := (dSl dGSpan 71)) (qs := [(0, (.slice a118 l119 q120))]) (cs := [(.slice a118 l119 q120)]) ([]) (absorb_one (gives_own flelGSpan) (fun B w h => ⟨_, rfl, h⟩)) (by intro ρ h; simp only [List.map_toArray, List.map_cons, List.map_nil, h (.tmp 30) _ rfl]) rfl el83 zero72 rfl rfl rfl rfl ?_); intro bb122 v121
            refine nx_undp 0 rfl ?_
            refine stw (o_app 3 0 rfl rfl src_own rfl rfl rfl el83 rfl zero72 rfl rfl ?_); intro v124
            refine o_fad st rfl rfl fld85_0 rfl ?_
            refine nx_own 3 rfl ?_; rintro a126 l127 q128 rfl
            refine stw (o_stc (cs' := [(.slice a126 l127 q128)]) 2 rfl rfl rfl ty83 rfl rfl rfl rfl ?_)
            refine c_nil ?_
            refine b_norm ?_
            exact l_join (r101, (xs94 ++ ([[]]))) (fun a w hE hm => ⟨(.slice a126 l127 q128), hE.sub ⟨rfl, rfl, trivial⟩, ((hm.freeze 3 rfl reads_own).pick [1, 2, 4, 5, 3] rfl)⟩)
      · refine c_skip ?_
        exact l_join (r99, xs94) (fun a w hE hm => ⟨(.slice a16 l17 q18), hE.sub ⟨rfl, rfl, trivial⟩, ((hm.freeze 2 rfl reads_own).pick [0, 1, 3, 4, 2] rfl)⟩)
    · rintro ⟨t189, xs191⟩ a w ⟨v190, hE, hm⟩ h
      refine nx_of hE hm h ?_
      clear hE hm h
      refine c_seq ?_
      refine c_region ?_
      refine o_ldc st (v := (.agg #[v190])) 1 rfl rfl rfl ty85 rfl ?_
      refine nx_ro 4 rfl ?_; rintro a195 l196 q197 rfl
      refine stw (o_stc (cs' := [(.slice a195 l196 q197)]) 2 rfl rfl rfl ty85 rfl rfl rfl rfl ?_)
      refine c_nil ?_
      refine l_then ?_
      refine c_ret ?_
      exact l_end1 Tryd.results61 ((GBox.mk xs191), t189) (.slice a195 l196 q197) (rv_c 2 rfl rfl ty85 rfl) (fun w m => NewCh.ofB m [4, 0] rfl)

set_option maxRecDepth 100000 in
set_option maxHeartbeats 8000000 in
theorem w_spec_l20Flats {w0 : World} {F : Nat → Prop} {b1 : Nat} {v2 : Value} {r_0_b : (List UInt8)} {r_0_p : Int} {n_1 : Int} {κ : ((List GFlat) × Int) → Prop} (hF : ∀ b, F b → b < w0.heap.size ∧ ¬ feet [cellCh b1 [v2, (.int .i64 r_0_p)] 104] b) (hg : Given [cellCh b1 [v2, (.int .i64 r_0_p)] 104] F w0) (hv2 : Sl elU8 F w0 v2 r_0_b) (h : L_spec_l20Flats r_0_b r_0_p n_1 κ) :
    Calls Tryd.prog 30 #[(.pointer (some ⟨b1, 0, none⟩)), (.int .i64 n_1)] w0 (Ret [cellCh b1 [v2, (.int .i64 r_0_p)] 104] F w0 κ (fun (r : ((List GFlat) × Int)) (u : Value) => u) (fun (r : ((List GFlat) × Int)) (u : Value) => [ownCh elGFlat 87 u r.1, cellCh b1 [v2, (.int .i64 r.2)] 104])) := by
  refine enterS (args := [(.pointer (some ⟨b1, 0, none⟩)), (.int .i64 n_1)]) [cellCh b1 [v2, (.int .i64 r_0_p)] 104] hF hg Tryd.func30 rfl Tryd.ntmps30 rfl h ?_
  clear h hF hg
  refine c_seq ?_
  refine c_region ?_
  refine stw (o_asd dGFlat 87 rfl rfl ?_)
  refine c_nil ?_
  refine l_then ?_
  refine c_seq ?_
  refine c_region ?_
  refine stw (o_bslD0 (E' := dGFlat) (qs := []) (by intro ρ h; simp only [List.map_toArray, List.map_cons, List.map_nil]) rfl el23 zero87 rfl rfl rfl ?_); intro bb7 v6
  refine o_as st rfl rfl ?_
  refine c_nil ?_
  refine l_then ?_
  refine c_seq ?_
  refine c_seq ?_
  refine c_region ?_
  refine o_mv st rfl rfl ?_
  refine pk [2, 0, 1, 3] rfl ?_
  refine stw (o_call (vs := [(.pointer (some ⟨b1, 0, none⟩)), (.int .i64 7)]) (M0 := [cellCh b1 [v2, (.int .i64 r_0_p)] 104]) Tryd.call60 rfl rfl (by intro w m h; exact (w_spec_l20Rd_pick (F := allB [cellCh b1 [v2, (.int .i64 r_0_p)] 104] w) (r_0_b := r_0_b) (r_0_p := r_0_p) (n_1 := 7) allB_ok m.given (m.rdM 2 rfl (reads_snap hv2)) h).mono (fun _ _ k => ret_free (fun r u => (fr_cons free_cell fr_nil)) k)) ?_); rintro ⟨r9, r10⟩ _
  refine o_as st rfl rfl ?_
  refine c_nil ?_
  refine l_then ?_
  refine c_block ?_
  refine c_loop (σ := (Int × (List GFlat) × Int)) (fun ((t11, xs13, t16) : (Int × (List GFlat) × Int)) (a : Act) (w : World) => ∃ (v12 : Value), Has 84 [(0, (.pointer (some ⟨b1, 0, none⟩))), (1, (.int .i64 n_1)), (5, v12), (6, (.int .i64 t16))] a ∧ Mem (gB F [cellCh b1 [v2, (.int .i64 r_0_p)] 104] w0) (feet [cellCh b1 [v2, (.int .i64 r_0_p)] 104]) w0 [cellCh b1 [v2, (.int .i64 t11)] 104, snapCh w0 F, ownCh elGFlat 87 v12 xs13] w) (fun a w hE hm => ⟨v6, hE.sub ⟨rfl, rfl, rfl, rfl, trivial⟩, ((hm.undp 1 rfl).pick [0, 3, 1] rfl)⟩) ?_
  rintro nx17 ⟨t11, xs13, t16⟩ a w ⟨v12, hE, hm⟩ h
  refine nx_of hE hm h ?_
  clear hE hm h
  refine c_seq ?_
  refine c_seq ?_
  refine c_region ?_
  refine o_mv st rfl rfl ?_
  refine o_gtr st rfl rfl rfl ?_
  refine c_nil ?_
  refine l_then ?_
  refine c_cond rfl ?_ ?_
  · refine c_skip ?_
    refine l_then ?_
    refine c_seq ?_
    refine c_block ?_
    refine c_seq ?_
    refine c_region ?_
    refine o_mv st rfl rfl ?_
    refine stw (o_call (vs := [(.pointer (some ⟨b1, 0, none⟩)), (.int .i64 0)]) (M0 := [cellCh b1 [v2, (.int .i64 t11)] 104]) Tryd.call61 rfl rfl (by intro w m h; exact w_spec_l20Box (r_0_b := r_0_b) (r_0_p := t11) (n_1 := 0) fz_ok m.givenB (m.roS 1 rfl hv2) h) ?_); rintro ⟨r18, r21⟩ v19
    refine o_mv st rfl rfl ?_
    refine pk [1, 0, 2, 3] rfl ?_
    refine stw (o_call (vs := [(.pointer (some ⟨b1, 0, none⟩)), (.int .i64 2)]) (M0 := [cellCh b1 [v2, (.int .i64 r21)] 104]) Tryd.call60 rfl rfl (by intro w m h; exact (w_spec_l20Rd_pick (F := allB [cellCh b1 [v2, (.int .i64 r21)] 104] w) (r_0_b := r_0_b) (r_0_p := r21) (n_1 := 2) allB_ok m.given (m.rdM 1 rfl (reads_snap hv2)) h).mono (fun _ _ k => ret_free (fun r u => (fr_cons free_cell fr_nil)) k)) ?_); rintro ⟨r22, r23⟩ _
    refine o_eql st und3 rfl rfl rfl ?_
    refine nx_ro 1 rfl ?_; rintro a24 l25 q26 rfl
    refine o_bld st (qs := [(0, (.agg #[(.slice a24 l25 q26)])), (1, (.bool (decide (r22 = 0))))]) (cells := [(.slice a24 l25 q26), (.bool (decide (r22 = 0)))]) (by intro ρ h; simp only [List.map_toArray, List.map_cons, List.map_nil, h (.tmp 17) _ rfl, h (.tmp 20) _ rfl]) rfl bld87 rfl ?_
    refine stw (o_alloc rfl [(.slice none 0 0), (.bool false)] zero87 ?_); intro b27
    refine stw (o_stc (cs' := [(.slice a24 l25 q26), (.bool (decide (r22 = 0)))]) 0 rfl rfl rfl ty87 rfl rfl rfl rfl ?_)
    refine c_nil ?_
    refine l_then ?_
    refine c_join (σ := (Int × (List (List GSpan)) × Bool)) (fun ((t187, xs189, t192) : (Int × (List (List GSpan)) × Bool)) (a : Act) (w : World) => ∃ (v188 : Value), Has 84 [(0, (.pointer (some ⟨b1, 0, none⟩))), (1, (.int .i64 n_1)), (5, v12), (6, (.int .i64 t16)), (7, (.pointer (some ⟨b27, 0, none⟩)))] a ∧ Mem (gB F [cellCh b1 [v2, (.int .i64 r_0_p)] 104] w0) (feet [cellCh b1 [v2, (.int .i64 r_0_p)] 104]) w0 [cellCh b1 [v2, (.int .i64 t187)] 104, cellCh b27 [v188, (.bool t192)] 87, ownCh elGFlat 87 v12 xs13, snapCh w0 F, roCh (elSl elGSpan) v188 xs189] w) ?_ ?_
    · intro k193
      refine c_join (σ := (Int × Bool)) (fun ((t91, t92) : (Int × Bool)) (a : Act) (w : World) => Has 84 [(0, (.pointer (some ⟨b1, 0, none⟩))), (1, (.int .i64 n_1)), (5, v12), (6, (.int .i64 t16)), (7, (.pointer (some ⟨b27, 0, none⟩))), (29, (.bool t92))] a ∧ Mem (gB F [cellCh b1 [v2, (.int .i64 r_0_p)] 104] w0) (feet [cellCh b1 [v2, (.int .i64 r_0_p)] 104]) w0 [cellCh b1 [v2, (.int .i64 t91)] 104, cellCh b27 [(.slice a24 l25 q26), (.bool (decide (r22 = 0)))] 87, roCh (elSl elGSpan) (.slice a24 l25 q26) r18.xSides, ownCh elGFlat 87 v12 xs13, snapCh w0 F] w) ?_ ?_
      · intro k93
        refine c_region ?_
        refine o_mv st rfl rfl ?_
        refine o_len st el23 4 rfl reads_own rfl rfl ?_
        refine o_gtr st rfl rfl rfl ?_
        refine o_mv st rfl rfl ?_
        refine st_sp (dj := 25) rfl ?_ ?_
        · refine o_mv (st_g rfl rfl) rfl rfl ?_
          refine pk [1, 0, 2, 3, 4] rfl ?_
          refine st_gw rfl rfl (o_call (vs := [(.pointer (some ⟨b1, 0, none⟩)), (.int .i64 3)]) (M0 := [cellCh b1 [v2, (.int .i64 r23)] 104]) Tryd.call60 rfl rfl (by intro w m h; exact (w_spec_l20Rd_pick (F := allB [cellCh b1 [v2, (.int .i64 r23)] 104] w) (r_0_b := r_0_b) (r_0_p := r23) (n_1 := 3) allB_ok m.given (m.rdM 2 rfl (reads_snap hv2)) h).mono (fun _ _ k => ret_free (fun r u => (fr_cons free_cell fr_nil)) k)) ?_); rintro ⟨r29, r30⟩ _
          refine o_eql (st_g rfl rfl) und3 rfl rfl rfl ?_
          refine o_pickT st rfl rfl rfl ?_
          refine c_nil ?_
          exact l_join (r30, (decide (r29 = 0))) (fun a w hE hm => ⟨hE.sub ⟨rfl, rfl, rfl, rfl, rfl, rfl, trivial⟩, (hm.pick [0, 1, 2, 4, 3] rfl)⟩)
        · refine st_s rfl rfl rfl rfl ?_
          refine st_s rfl rfl rfl rfl ?_
          refine st_s rfl rfl rfl rfl ?_
          refine o_pickF st rfl rfl rfl ?_
          refine c_nil ?_
          exact l_join (r23, false) (fun a w hE hm => ⟨hE.sub ⟨rfl, rfl, rfl, rfl, rfl, rfl, trivial⟩, (hm.pick [1, 0, 2, 4, 3] rfl)⟩)
      · rintro ⟨t91, t92⟩ a w ⟨hE, hm⟩ h
        refine nx_of hE hm h ?_
        clear hE hm h
        refine c_cond rfl ?_ ?_
        · refine c_seq ?_
          refine c_region ?_
          refine stw (o_bslD0 (E' := (dSl dGSpan 71)) (qs := []) (by intro ρ h; simp only [List.map_toArray, List.map_cons, List.map_nil]) rfl el83 zero72 rfl rfl rfl ?_); intro bb95 v94
          refine o_mv st rfl rfl ?_
          refine o_mv st rfl rfl ?_
          refine o_len st el23 4 rfl reads_own rfl rfl ?_
          refine o_sub st rfl rfl rfl ?_; intro t97
          refine o_idx st 4 rfl reads_own rfl rfl rfl el23 ?_; intro e98 h99
          refine o_fadS st 4 rfl reads_own h99 rfl rfl fld87_0 rfl ?_
          refine o_fadS st 4 rfl reads_own h99 rfl rfl fld85_0 rfl ?_
          refine stw (o_ldE 4 rfl src_own h99 rfl rfl ty83 ?_); rintro wr100 ff101 _ ⟨v103, rfl, sl104⟩; refine ⟨v103, rfl, ?_⟩
          refine nx_undp 1 rfl ?_
          refine stw (o_app 1 0 rfl rfl (src_snap sl104) rfl rfl rfl el83 rfl zero72 rfl rfl ?_); intro v106
          refine nx_own 1 rfl ?_; rintro a108 l109 q110 rfl
          refine o_bld st (qs := [(0, (.slice a108 l109 q110))]) (cells := [(.slice a108 l109 q110)]) (by intro ρ h; simp only [List.map_toArray, List.map_cons, List.map_nil, h (.tmp 39) _ rfl]) rfl bld85 rfl ?_
          refine o_fad st rfl rfl fld87_0 rfl ?_
          refine stw (o_stc (cs' := [(.slice a108 l109 q110), (.bool (decide (r22 = 0)))]) 3 rfl rfl rfl ty85 rfl rfl rfl rfl ?_)
          refine c_nil ?_
          refine l_then ?_
          refine c_seq ?_
          refine c_region ?_
          refine o_mv st rfl rfl ?_
          refine pk [2, 0, 1, 3, 4, 5, 6] rfl ?_
          refine stw (o_call (vs := [(.pointer (some ⟨b1, 0, none⟩)), (.int .i64 4)]) (M0 := [cellCh b1 [v2, (.int .i64 t91)] 104]) Tryd.call60 rfl rfl (by intro w m h; exact (w_spec_l20Rd_pick (F := allB [cellCh b1 [v2, (.int .i64 t91)] 104] w) (r_0_b := r_0_b) (r_0_p := t91) (n_1 := 4) allB_ok m.given (m.rdM 5 rfl (reads_snap hv2)) h).mono (fun _ _ k => ret_free (fun r u => (fr_cons free_cell fr_nil)) k)) ?_); rintro ⟨r111, r112⟩ _
          refine o_as st rfl rfl ?_
          refine c_nil ?_
          refine l_then ?_
          refine c_seq ?_
          refine c_draw mixed 10 rfl [snapCh wr100 ff101, cellCh b27 [(.slice a108 l109 q110), (.bool (decide (r22 = 0)))] 87, roCh (elSl elGSpan) (.slice a24 l25 q26) r18.xSides, ownCh elGFlat 87 v12 xs13, snapCh w0 F] ?_
          refine o_fad (dt 0 (fun w m => m.pick [1, 3, 4, 5, 6] rfl)) rfl rfl fld87_0 rfl ?_
          refine o_fad (dt 1 (fun w m => m.pick [1, 3, 4, 5, 6] rfl)) rfl rfl fld85_0 rfl ?_
          refine o_ldc (dt 2 (fun w m => m.pick [1, 3, 4, 5, 6] rfl)) (v := (.slice a108 l109 q110)) 1 rfl rfl rfl ty83 rfl ?_
          refine o_mv (dt 3 (fun w m => m.pick [1, 3, 4, 5, 6] rfl)) rfl rfl ?_
          refine o_mv (dt 4 (fun w m => m.pick [1, 3, 4, 5, 6] rfl)) rfl rfl ?_
          refine o_mv (dt 5 (fun w m => m.pick [1, 3, 4, 5, 6] rfl)) rfl rfl ?_
          refine d_one (i := 6) rfl (by kernel_rfl) (o_callP (vs := [(.int .i64 r111)]) Tryd.call63 rfl rfl (by intro w m h; exact (w_spec_FieldTop (F := allB [] w) (n_0 := r111) allB_ok h).mono (fun _ _ k => ret_free (fun r u => fr_nil) k)) ?_); rintro r113 _
          refine d_and (fun w m => m.pick [1, 3, 4, 5, 6] rfl) ?_
          refine d_one (i := 7) rfl (by kernel_rfl) (o_call (vs := [(.pointer (some ⟨b1, 0, none⟩)), (.int .i64 r113), (.int .i64 0)]) (M0 := [cellCh b1 [v2, (.int .i64 r112)] 104]) Tryd.call62 rfl rfl (by intro w m h; exact (w_spec_l20Set (F := allB [cellCh b1 [v2, (.int .i64 r112)] 104] w) (r_0_b := r_0_b) (r_0_p := r112) (top_1 := r113) (n_2 := 0) allB_ok m.given (m.rdM 5 rfl (reads_snap hv2)) h).mono (fun _ _ k => ret_free (fun r u => (fr_cons (free_own flelGSpan) (fr_cons free_cell fr_nil))) k)) ?_); rintro ⟨r114, r117⟩ v115
          refine d_and (fun w m => m.pick [2, 4, 5, 6, 7] rfl) ?_
          refine d_one (i := 8) rfl (by kernel_rfl) (o_idx m_op 3 rfl reads_own rfl rfl rfl el83 ?_); intro e118 h119
          refine d_and (fun w m => m.pick [2, 4, 5, 6, 7] rfl) ?_
          refine nx_own 0 rfl ?_; rintro a120 l121 q122 rfl
          refine frz 0 rfl reads_own ?_
          refine d_one (i := 9) rfl (by kernel_rfl) (o_stsN (El' := (elSl elGSpan)) (y' := r114) 3 rfl rfl h119 (fun w cs m h => by obtain ⟨u0_, rfl, s0_⟩ := h; exact ⟨(.slice a120 l121 q122), rfl, (m.ro 0 rfl)⟩) ty72 rfl rfl rfl rfl rfl ?_)
          refine d_and (fun w m => m.pick [2, 4, 5, 6, 7] rfl) ?_
          refine d_done (by kernel_rfl) ?_
          refine l_then ?_
          refine c_region ?_
          refine o_mv st rfl rfl ?_
          refine o_mv st rfl rfl ?_
          refine o_len st el23 6 rfl reads_own rfl rfl ?_
          refine o_sub st rfl rfl rfl ?_; intro t124
          refine o_idx st 6 rfl reads_own rfl rfl rfl el23 ?_; intro e125 h126
          refine o_fadS st 6 rfl reads_own h126 rfl rfl fld87_1 rfl ?_
          refine o_ldP st (u := (.bool e125.xAccept)) 6 rfl reads_own h126 rfl rfl rfl ty4 (fun F w cs h => by obtain ⟨u, rfl, _⟩ := h; rfl) ?_
          refine o_fad st rfl rfl fld87_1 rfl ?_
          refine stw (o_stc (cs' := [(.slice a108 l109 q110), (.bool e125.xAccept)]) 4 rfl rfl rfl ty4 rfl rfl rfl rfl ?_)
          refine c_nil ?_
          exact l_join (r117, (List.set (([]) ++ e98.xWhere.xSides) (r111).toNat r114), e125.xAccept) (fun a w hE hm => ⟨(.slice a108 l109 q110), hE.sub ⟨rfl, rfl, rfl, rfl, rfl, trivial⟩, ((hm.freeze 3 rfl reads_own).pick [1, 4, 6, 7, 3] rfl)⟩)
        · refine c_skip ?_
          exact l_join (t91, r18.xSides, (decide (r22 = 0))) (fun a w hE hm => ⟨(.slice a24 l25 q26), hE.sub ⟨rfl, rfl, rfl, rfl, rfl, trivial⟩, (hm.pick [0, 1, 3, 4, 2] rfl)⟩)
    · rintro ⟨t187, xs189, t192⟩ a w ⟨v188, hE, hm⟩ h
      refine nx_of hE hm h ?_
      clear hE hm h
      refine c_region ?_
      refine o_mv st rfl rfl ?_
      refine o_ldc st (v := (.agg #[v188, (.bool t192)])) 1 rfl rfl rfl ty87 rfl ?_
      refine nx_ro 4 rfl ?_; rintro a194 l195 q196 rfl
      refine stw (o_bslN (El' := elGFlat) (qs := [(0, (.agg #[(.slice a194 l195 q196), (.bool t192)]))]) (cells := [(.slice a194 l195 q196), (.bool t192)]) ([(GFlat.mk (GBox.mk xs189) t192)]) ([[(.slice a194 l195 q196), (.bool t192)]]) (fun w m => ⟨⟨(.slice a194 l195 q196), rfl, (m.ro 4 rfl)⟩, trivial⟩) (by intro ρ h; simp only [List.map_toArray, List.map_cons, List.map_nil, h (.tmp 62) _ rfl]) rfl el23 zero87 rfl rfl rfl rfl rfl rfl ?_); intro v197
      refine stw (o_app 3 0 rfl rfl src_own rfl rfl rfl el23 rfl zero87 rfl rfl ?_); intro v199
      refine o_as st rfl rfl ?_
      refine c_nil ?_
      refine b_norm ?_
      refine l_then ?_
      refine c_region ?_
      refine o_mv st rfl rfl ?_
      refine o_sub st rfl rfl rfl ?_; intro t201
      refine o_as st rfl rfl ?_
      refine c_nil ?_
      exact l_join (t187, (xs13 ++ ([(GFlat.mk (GBox.mk xs189) t192)])), t201) (fun a w hE hm => ⟨v199, hE.sub ⟨rfl, rfl, rfl, rfl, trivial⟩, (hm.pick [1, 4, 3] rfl)⟩)
  · refine c_exit ?_
    refine l_exit ?_
    refine l_exit ?_
    refine b_exit ?_
    refine l_then ?_
    refine c_join (σ := (Int × (List GFlat))) (fun ((t288, xs290) : (Int × (List GFlat))) (a : Act) (w : World) => ∃ (v289 : Value), Has 84 [(5, v289)] a ∧ Mem (gB F [cellCh b1 [v2, (.int .i64 r_0_p)] 104] w0) (feet [cellCh b1 [v2, (.int .i64 r_0_p)] 104]) w0 [cellCh b1 [v2, (.int .i64 t288)] 104, snapCh w0 F, ownCh elGFlat 87 v289 xs290] w) ?_ ?_
    · intro k293
      refine c_seq ?_
      refine c_region ?_
      refine o_mv st rfl rfl ?_
      refine o_mv st rfl rfl ?_
      refine stw (o_call (vs := [(.pointer (some ⟨b1, 0, none⟩)), (.int .i64 n_1)]) (M0 := [cellCh b1 [v2, (.int .i64 t11)] 104]) Tryd.call64 rfl rfl (by intro w m h; exact (w_spec_l20Rd_odd (F := allB [cellCh b1 [v2, (.int .i64 t11)] 104] w) (r_0_b := r_0_b) (r_0_p := t11) (n_1 := n_1) allB_ok m.given (m.rdM 0 rfl (reads_snap hv2)) h).mono (fun _ _ k => ret_free (fun r u => (fr_cons free_cell fr_nil)) k)) ?_); rintro ⟨r202, r203⟩ _
      refine c_nil ?_
      refine l_then ?_
      refine c_cond rfl ?_ ?_
      · refine c_seq ?_
        refine c_region ?_
        refine o_mv st rfl rfl ?_
        refine stw (o_call (vs := [(.pointer (some ⟨b1, 0, none⟩)), (.int .i64 2)]) (M0 := [cellCh b1 [v2, (.int .i64 r203)] 104]) Tryd.call60 rfl rfl (by intro w m h; exact (w_spec_l20Rd_pick (F := allB [cellCh b1 [v2, (.int .i64 r203)] 104] w) (r_0_b := r_0_b) (r_0_p := r203) (n_1 := 2) allB_ok m.given (m.rdM 0 rfl (reads_snap hv2)) h).mono (fun _ _ k => ret_free (fun r u => (fr_cons free_cell fr_nil)) k)) ?_); rintro ⟨r204, r205⟩ _
        refine o_eql st und3 rfl rfl rfl ?_
        refine c_nil ?_
        refine l_then ?_
        refine c_cond rfl ?_ ?_
        · refine c_region ?_
          refine o_mv st rfl rfl ?_
          refine o_bld st (qs := []) (cells := [(.slice none 0 0), (.bool false)]) (by intro ρ h; simp only [List.map_toArray, List.map_cons, List.map_nil]) rfl bld87 rfl ?_
          refine stw (o_bslD (M := []) (E' := dGFlat) (qs := [(0, (.agg #[(.slice none 0 0), (.bool false)]))]) (cs := [(.slice none 0 0), (.bool false)]) (GFlat.mk (GBox.mk ([])) false) (absorb_nil (fun w => ⟨_, rfl, Dp.nil⟩)) (by intro ρ h; simp only [List.map_toArray, List.map_cons, List.map_nil, h (.tmp 72) _ rfl]) rfl el23 zero87 rfl rfl rfl rfl ?_); intro bb207 v206
          refine nx_undp 0 rfl ?_
          refine stw (o_app 3 0 rfl rfl src_own rfl rfl rfl el23 rfl zero87 rfl rfl ?_); intro v209
          refine o_as st rfl rfl ?_
          refine c_nil ?_
          exact l_join (r205, (xs13 ++ ([(GFlat.mk (GBox.mk ([])) false)]))) (fun a w hE hm => ⟨v209, hE.sub ⟨rfl, trivial⟩, (hm.pick [1, 2, 3] rfl)⟩)
        · refine c_block ?_
          refine c_loop (σ := (List GFlat)) (fun (xs212 : (List GFlat)) (a : Act) (w : World) => ∃ (v211 : Value), Has 84 [(5, v211)] a ∧ Mem (gB F [cellCh b1 [v2, (.int .i64 r_0_p)] 104] w0) (feet [cellCh b1 [v2, (.int .i64 r_0_p)] 104]) w0 [cellCh b1 [v2, (.int .i64 r205)] 104, snapCh w0 F, ownCh elGFlat 87 v211 xs212] w) (fun a w hE hm => ⟨v12, hE.sub ⟨rfl, trivial⟩, (hm.pick [0, 1, 2] rfl)⟩) ?_
          rintro nx215 xs212 a w ⟨v211, hE, hm⟩ h
          refine nx_of hE hm h ?_
          clear hE hm h
          refine c_seq ?_
          refine c_seq ?_
          refine c_region ?_
          refine o_mv st rfl rfl ?_
          refine o_len st el23 2 rfl reads_own rfl rfl ?_
          refine o_leq st rfl rfl rfl ?_
          refine c_nil ?_
          refine l_then ?_
          refine c_cond rfl ?_ ?_
          · refine c_skip ?_
            refine l_then ?_
            refine c_block ?_
            refine c_region ?_
            refine o_mv st rfl rfl ?_
            refine stw (o_callP (vs := []) Tryd.call65 rfl rfl (by intro w m h; exact (w_spec_BoxAll (F := allB [] w) allB_ok h).mono (fun _ _ k => ret_free (fun r u => (fr_cons free_dp fr_nil)) k)) ?_); rintro r216 ⟨v217, bb218⟩
            refine nx_dp 0 rfl ?_; rintro a220 l221 q222 rfl
            refine o_bld st (qs := [(0, (.agg #[(.slice a220 l221 q222)]))]) (cells := [(.slice a220 l221 q222), (.bool false)]) (by intro ρ h; simp only [List.map_toArray, List.map_cons, List.map_nil, h (.tmp 79) _ rfl]) rfl bld87 rfl ?_
            refine stw (o_bslD (M := [dpCh (dSl dGSpan 71) 72 bb218 (.slice a220 l221 q222) r216.xSides]) (E' := dGFlat) (qs := [(0, (.agg #[(.slice a220 l221 q222), (.bool false)]))]) (cs := [(.slice a220 l221 q222), (.bool false)]) (GFlat.mk r216 false) (absorb_one gives_dp (fun B w h => ⟨_, rfl, h⟩)) (by intro ρ h; simp only [List.map_toArray, List.map_cons, List.map_nil, h (.tmp 80) _ rfl]) rfl el23 zero87 rfl rfl rfl rfl ?_); intro bb224 v223
            refine nx_undp 0 rfl ?_
            refine stw (o_app 3 0 rfl rfl src_own rfl rfl rfl el23 rfl zero87 rfl rfl ?_); intro v226
            refine o_as st rfl rfl ?_
            refine c_nil ?_
            refine b_norm ?_
            exact l_join (xs212 ++ ([(GFlat.mk r216 false)])) (fun a w hE hm => ⟨v226, hE.sub ⟨rfl, trivial⟩, (hm.pick [1, 2, 3] rfl)⟩)
          · refine c_exit ?_
            refine l_exit ?_
            refine l_exit ?_
            refine b_exit ?_
            exact l_join (r205, xs212) (fun a w hE hm => ⟨v211, hE.sub ⟨rfl, trivial⟩, (hm.pick [0, 1, 2] rfl)⟩)
      · refine c_skip ?_
        exact l_join (r203, xs13) (fun a w hE hm => ⟨v12, hE.sub ⟨rfl, trivial⟩, (hm.pick [0, 1, 2] rfl)⟩)
    · rintro ⟨t288, xs290⟩ a w ⟨v289, hE, hm⟩ h
      refine nx_of hE hm h ?_
      clear hE hm h
      refine c_seq ?_
      refine c_region ?_
      refine o_mv st rfl rfl ?_
      refine o_as st rfl rfl ?_
      refine c_nil ?_
      refine l_then ?_
      refine c_ret ?_
      exact l_end1 Tryd.results30 (xs290, t288) v289 (rv_t rfl) (fun w m => NewCh.ofB m [2, 0] rfl)

set_option maxRecDepth 100000 in
set_option maxHeartbeats 8000000 in
theorem w_spec_l20Packet {w0 : World} {F : Nat → Prop} {b1 : Nat} {v2 : Value} {r_0_b : (List UInt8)} {r_0_p : Int} {n_1 : Int} {κ : (GPacket × Int) → Prop} (hF : ∀ b, F b → b < w0.heap.size ∧ ¬ feet [cellCh b1 [v2, (.int .i64 r_0_p)] 104] b) (hg : Given [cellCh b1 [v2, (.int .i64 r_0_p)] 104] F w0) (hv2 : Sl elU8 F w0 v2 r_0_b) (h : L_spec_l20Packet r_0_b r_0_p n_1 κ) :
    Calls Tryd.prog 66 #[(.pointer (some ⟨b1, 0, none⟩)), (.int .i64 n_1)] w0 (Ret [cellCh b1 [v2, (.int .i64 r_0_p)] 104] F w0 κ (fun (r : (GPacket × Int)) (u : Unit) => (.agg #[(.int .i64 r.1.xFrom), (.int .i64 r.1.xTo), (.int .i64 r.1.xPort), (.int .i64 r.1.xProto)])) (fun (r : (GPacket × Int)) (u : Unit) => [cellCh b1 [v2, (.int .i64 r.2)] 104])) := by
  refine enterS (args := [(.pointer (some ⟨b1, 0, none⟩)), (.int .i64 n_1)]) [cellCh b1 [v2, (.int .i64 r_0_p)] 104] hF hg Tryd.func66 rfl Tryd.ntmps66 rfl h ?_
  clear h hF hg
  refine c_seq ?_
  refine c_region ?_
  refine stw (o_alloc rfl [(.int .i64 0), (.int .i64 0), (.int .i64 0), (.int .i64 0)] zero49 ?_); intro b5
  refine c_nil ?_
  refine l_then ?_
  refine c_seq ?_
  refine c_region ?_
  refine o_mv st rfl rfl ?_
  refine pk [1, 0, 2] rfl ?_
  refine stw (o_call (vs := [(.pointer (some ⟨b1, 0, none⟩)), (.int .i64 20)]) (M0 := [cellCh b1 [v2, (.int .i64 r_0_p)] 104]) Tryd.call60 rfl rfl (by intro w m h; exact (w_spec_l20Rd_pick (F := allB [cellCh b1 [v2, (.int .i64 r_0_p)] 104] w) (r_0_b := r_0_b) (r_0_p := r_0_p) (n_1 := 20) allB_ok m.given (m.rdM 1 rfl (reads_snap hv2)) h).mono (fun _ _ k => ret_free (fun r u => (fr_cons free_cell fr_nil)) k)) ?_); rintro ⟨r7, r8⟩ _
  refine o_mv st rfl rfl ?_
  refine stw (o_call (vs := [(.pointer (some ⟨b1, 0, none⟩)), (.int .i64 20)]) (M0 := [cellCh b1 [v2, (.int .i64 r8)] 104]) Tryd.call60 rfl rfl (by intro w m h; exact (w_spec_l20Rd_pick (F := allB [cellCh b1 [v2, (.int .i64 r8)] 104] w) (r_0_b := r_0_b) (r_0_p := r8) (n_1 := 20) allB_ok m.given (m.rdM 1 rfl (reads_snap hv2)) h).mono (fun _ _ k => ret_free (fun r u => (fr_cons free_cell fr_nil)) k)) ?_); rintro ⟨r9, r10⟩ _
  refine o_mv st rfl rfl ?_
  refine stw (o_call (vs := [(.pointer (some ⟨b1, 0, none⟩)), (.int .i64 256)]) (M0 := [cellCh b1 [v2, (.int .i64 r10)] 104]) Tryd.call60 rfl rfl (by intro w m h; exact (w_spec_l20Rd_pick (F := allB [cellCh b1 [v2, (.int .i64 r10)] 104] w) (r_0_b := r_0_b) (r_0_p := r10) (n_1 := 256) allB_ok m.given (m.rdM 1 rfl (reads_snap hv2)) h).mono (fun _ _ k => ret_free (fun r u => (fr_cons free_cell fr_nil)) k)) ?_); rintro ⟨r11, r12⟩ _
  refine o_mv st rfl rfl ?_
  refine stw (o_call (vs := [(.pointer (some ⟨b1, 0, none⟩)), (.int .i64 8)]) (M0 := [cellCh b1 [v2, (.int .i64 r12)] 104]) Tryd.call60 rfl rfl (by intro w m h; exact (w_spec_l20Rd_pick (F := allB [cellCh b1 [v2, (.int .i64 r12)] 104] w) (r_0_b := r_0_b) (r_0_p := r12) (n_1 := 8) allB_ok m.given (m.rdM 1 rfl (reads_snap hv2)) h).mono (fun _ _ k => ret_free (fun r u => (fr_cons free_cell fr_nil)) k)) ?_); rintro ⟨r13, r14⟩ _
  refine o_bld st (qs := [(0, (.int .i64 r7)), (1, (.int .i64 r9)), (2, (.int .i64 r11)), (3, (.int .i64 r13))]) (cells := [(.int .i64 r7), (.int .i64 r9), (.int .i64 r11), (.int .i64 r13)]) (by intro ρ h; simp only [List.map_toArray, List.map_cons, List.map_nil, h (.tmp 7) _ rfl, h (.tmp 9) _ rfl, h (.tmp 11) _ rfl, h (.tmp 13) _ rfl]) rfl bld49 rfl ?_
  refine stw (o_alloc rfl [(.int .i64 0), (.int .i64 0), (.int .i64 0), (.int .i64 0)] zero49 ?_); intro b15
  refine stw (o_stc (cs' := [(.int .i64 r7), (.int .i64 r9), (.int .i64 r11), (.int .i64 r13)]) 0 rfl rfl rfl ty49 rfl rfl rfl rfl ?_)
  refine c_nil ?_
  refine l_then ?_
  refine c_join (σ := (Int × Int × Int × Int)) (fun ((t93, t94, t95, t96) : (Int × Int × Int × Int)) (a : Act) (w : World) => Has 71 [(0, (.pointer (some ⟨b1, 0, none⟩))), (1, (.int .i64 n_1)), (4, (.pointer (some ⟨b5, 0, none⟩))), (5, (.pointer (some ⟨b15, 0, none⟩)))] a ∧ Mem (gB F [cellCh b1 [v2, (.int .i64 r_0_p)] 104] w0) (feet [cellCh b1 [v2, (.int .i64 r_0_p)] 104]) w0 [cellCh b1 [v2, (.int .i64 t93)] 104, cellCh b15 [(.int .i64 t94), (.int .i64 t95), (.int .i64 t96), (.int .i64 r13)] 49, cellCh b5 [(.int .i64 0), (.int .i64 0), (.int .i64 0), (.int .i64 0)] 49, snapCh w0 F] w) ?_ ?_
  · intro k97
    refine c_seq ?_
    refine c_region ?_
    refine o_mv st rfl rfl ?_
    refine pk [1, 0, 2, 3] rfl ?_
    refine stw (o_call (vs := [(.pointer (some ⟨b1, 0, none⟩)), (.int .i64 2)]) (M0 := [cellCh b1 [v2, (.int .i64 r14)] 104]) Tryd.call60 rfl rfl (by intro w m h; exact (w_spec_l20Rd_pick (F := allB [cellCh b1 [v2, (.int .i64 r14)] 104] w) (r_0_b := r_0_b) (r_0_p := r14) (n_1 := 2) allB_ok m.given (m.rdM 2 rfl (reads_snap hv2)) h).mono (fun _ _ k => ret_free (fun r u => (fr_cons free_cell fr_nil)) k)) ?_); rintro ⟨r17, r18⟩ _
    refine o_eql st und3 rfl rfl rfl ?_
    refine c_nil ?_
    refine l_then ?_
    refine c_cond rfl ?_ ?_
    · refine c_seq ?_
      refine c_region ?_
      refine o_mv st rfl rfl ?_
      refine stw (o_call (vs := [(.pointer (some ⟨b1, 0, none⟩)), (.int .i64 256)]) (M0 := [cellCh b1 [v2, (.int .i64 r18)] 104]) Tryd.call60 rfl rfl (by intro w m h; exact (w_spec_l20Rd_pick (F := allB [cellCh b1 [v2, (.int .i64 r18)] 104] w) (r_0_b := r_0_b) (r_0_p := r18) (n_1 := 256) allB_ok m.given (m.rdM 2 rfl (reads_snap hv2)) h).mono (fun _ _ k => ret_free (fun r u => (fr_cons free_cell fr_nil)) k)) ?_); rintro ⟨r19, r20⟩ _
      refine o_mul st rfl rfl rfl ?_; intro t21
      refine o_mv st rfl rfl ?_
      refine stw (o_call (vs := [(.pointer (some ⟨b1, 0, none⟩)), (.int .i64 256)]) (M0 := [cellCh b1 [v2, (.int .i64 r20)] 104]) Tryd.call60 rfl rfl (by intro w m h; exact (w_spec_l20Rd_pick (F := allB [cellCh b1 [v2, (.int .i64 r20)] 104] w) (r_0_b := r_0_b) (r_0_p := r20) (n_1 := 256) allB_ok m.given (m.rdM 2 rfl (reads_snap hv2)) h).mono (fun _ _ k => ret_free (fun r u => (fr_cons free_cell fr_nil)) k)) ?_); rintro ⟨r22, r23⟩ _
      refine o_add st rfl rfl rfl ?_; intro t24
      refine o_fad st rfl rfl fld49_0 rfl ?_
      refine stw (o_stc (cs' := [(.int .i64 t24), (.int .i64 r9), (.int .i64 r11), (.int .i64 r13)]) 1 rfl rfl rfl ty3 rfl rfl rfl rfl ?_)
      refine c_nil ?_
      refine l_then ?_
      refine c_seq ?_
      refine c_region ?_
      refine o_mv st rfl rfl ?_
      refine stw (o_call (vs := [(.pointer (some ⟨b1, 0, none⟩)), (.int .i64 4)]) (M0 := [cellCh b1 [v2, (.int .i64 r23)] 104]) Tryd.call60 rfl rfl (by intro w m h; exact (w_spec_l20Rd_pick (F := allB [cellCh b1 [v2, (.int .i64 r23)] 104] w) (r_0_b := r_0_b) (r_0_p := r23) (n_1 := 4) allB_ok m.given (m.rdM 2 rfl (reads_snap hv2)) h).mono (fun _ _ k => ret_free (fun r u => (fr_cons free_cell fr_nil)) k)) ?_); rintro ⟨r25, r26⟩ _
      refine o_mul st rfl rfl rfl ?_; intro t27
      refine o_mv st rfl rfl ?_
      refine stw (o_call (vs := [(.pointer (some ⟨b1, 0, none⟩)), (.int .i64 256)]) (M0 := [cellCh b1 [v2, (.int .i64 r26)] 104]) Tryd.call60 rfl rfl (by intro w m h; exact (w_spec_l20Rd_pick (F := allB [cellCh b1 [v2, (.int .i64 r26)] 104] w) (r_0_b := r_0_b) (r_0_p := r26) (n_1 := 256) allB_ok m.given (m.rdM 2 rfl (reads_snap hv2)) h).mono (fun _ _ k => ret_free (fun r u => (fr_cons free_cell fr_nil)) k)) ?_); rintro ⟨r28, r29⟩ _
      refine o_add st rfl rfl rfl ?_; intro t30
      refine o_fad st rfl rfl fld49_1 rfl ?_
      refine stw (o_stc (cs' := [(.int .i64 t24), (.int .i64 t30), (.int .i64 r11), (.int .i64 r13)]) 1 rfl rfl rfl ty3 rfl rfl rfl rfl ?_)
      refine c_nil ?_
      refine l_then ?_
      refine c_region ?_
      refine o_mv st rfl rfl ?_
      refine stw (o_call (vs := [(.pointer (some ⟨b1, 0, none⟩)), (.int .i64 12)]) (M0 := [cellCh b1 [v2, (.int .i64 r29)] 104]) Tryd.call60 rfl rfl (by intro w m h; exact (w_spec_l20Rd_pick (F := allB [cellCh b1 [v2, (.int .i64 r29)] 104] w) (r_0_b := r_0_b) (r_0_p := r29) (n_1 := 12) allB_ok m.given (m.rdM 2 rfl (reads_snap hv2)) h).mono (fun _ _ k => ret_free (fun r u => (fr_cons free_cell fr_nil)) k)) ?_); rintro ⟨r31, r32⟩ _
      refine o_fad st rfl rfl fld49_2 rfl ?_
      refine stw (o_stc (cs' := [(.int .i64 t24), (.int .i64 t30), (.int .i64 r31), (.int .i64 r13)]) 1 rfl rfl rfl ty3 rfl rfl rfl rfl ?_)
      refine c_nil ?_
      exact l_join (r32, t24, t30, r31) (fun a w hE hm => ⟨hE.sub ⟨rfl, rfl, rfl, rfl, trivial⟩, (hm.pick [0, 1, 2, 3] rfl)⟩)
    · refine c_skip ?_
      exact l_join (r18, r7, r9, r11) (fun a w hE hm => ⟨hE.sub ⟨rfl, rfl, rfl, rfl, trivial⟩, (hm.pick [0, 1, 2, 3] rfl)⟩)
  · rintro ⟨t93, t94, t95, t96⟩ a w ⟨hE, hm⟩ h
    refine nx_of hE hm h ?_
    clear hE hm h
    refine c_join (σ := (Int × Int × Int × Int × Int)) (fun ((t186, t187, t188, t189, t190) : (Int × Int × Int × Int × Int)) (a : Act) (w : World) => Has 71 [(4, (.pointer (some ⟨b5, 0, none⟩))), (5, (.pointer (some ⟨b15, 0, none⟩)))] a ∧ Mem (gB F [cellCh b1 [v2, (.int .i64 r_0_p)] 104] w0) (feet [cellCh b1 [v2, (.int .i64 r_0_p)] 104]) w0 [cellCh b1 [v2, (.int .i64 t186)] 104, cellCh b15 [(.int .i64 t187), (.int .i64 t188), (.int .i64 t189), (.int .i64 t190)] 49, cellCh b5 [(.int .i64 0), (.int .i64 0), (.int .i64 0), (.int .i64 0)] 49, snapCh w0 F] w) ?_ ?_
    · intro k191
      refine c_seq ?_
      refine c_region ?_
      refine o_mv st rfl rfl ?_
      refine o_mv st rfl rfl ?_
      refine stw (o_call (vs := [(.pointer (some ⟨b1, 0, none⟩)), (.int .i64 n_1)]) (M0 := [cellCh b1 [v2, (.int .i64 t93)] 104]) Tryd.call64 rfl rfl (by intro w m h; exact (w_spec_l20Rd_odd (F := allB [cellCh b1 [v2, (.int .i64 t93)] 104] w) (r_0_b := r_0_b) (r_0_p := t93) (n_1 := n_1) allB_ok m.given (m.rdM 2 rfl (reads_snap hv2)) h).mono (fun _ _ k => ret_free (fun r u => (fr_cons free_cell fr_nil)) k)) ?_); rintro ⟨r98, r99⟩ _
      refine c_nil ?_
      refine l_then ?_
      refine c_cond rfl ?_ ?_
      · refine c_seq ?_
        refine c_region ?_
        refine o_mv st rfl rfl ?_
        refine stw (o_call (vs := [(.pointer (some ⟨b1, 0, none⟩)), (.int .i64 4)]) (M0 := [cellCh b1 [v2, (.int .i64 r99)] 104]) Tryd.call60 rfl rfl (by intro w m h; exact (w_spec_l20Rd_pick (F := allB [cellCh b1 [v2, (.int .i64 r99)] 104] w) (r_0_b := r_0_b) (r_0_p := r99) (n_1 := 4) allB_ok m.given (m.rdM 2 rfl (reads_snap hv2)) h).mono (fun _ _ k => ret_free (fun r u => (fr_cons free_cell fr_nil)) k)) ?_); rintro ⟨r100, r101⟩ _
        refine c_nil ?_
        refine l_then ?_
        refine c_block ?_
        refine c_seq ?_
        refine c_region ?_
        refine o_eql st und3 rfl rfl rfl ?_
        refine o_as st rfl rfl ?_
        refine c_nil ?_
        refine l_then ?_
        refine c_cond rfl ?_ ?_
        · refine c_region ?_
          refine stw (o_bsl (enc := encInt) (qs := [(0, (.int .i64 (-1))), (1, (.int .i64 65536))]) (cells := [(.int .i64 (-1)), (.int .i64 65536)]) ([(-1), 65536]) flelInt (by intro ρ h; simp only [List.map_toArray, List.map_cons, List.map_nil, h (.const (.int .i64 (-1))) _ rfl, h (.const (.int .i64 65536)) _ rfl]) rfl el27 zero3 rfl rfl rfl rfl rfl rfl ?_); intro v102
          refine o_mv st rfl rfl ?_
          refine pk [1, 0, 2, 3, 4] rfl ?_
          refine stw (o_call (vs := [(.pointer (some ⟨b1, 0, none⟩)), (.int .i64 2)]) (M0 := [cellCh b1 [v2, (.int .i64 r101)] 104]) Tryd.call60 rfl rfl (by intro w m h; exact (w_spec_l20Rd_pick (F := allB [cellCh b1 [v2, (.int .i64 r101)] 104] w) (r_0_b := r_0_b) (r_0_p := r101) (n_1 := 2) allB_ok m.given (m.rdM 3 rfl (reads_snap hv2)) h).mono (fun _ _ k => ret_free (fun r u => (fr_cons free_cell fr_nil)) k)) ?_); rintro ⟨r104, r105⟩ _
          refine o_idx st 1 rfl reads_own rfl rfl rfl el27 ?_; intro e106 h107
          refine o_lds st (enc := encInt) (u := (.int .i64 e106)) 1 rfl reads_own flelInt rfl h107 rfl rfl ty3 rfl ?_
          refine o_fad st rfl rfl fld49_0 rfl ?_
          refine stw (o_stc (cs' := [(.int .i64 e106), (.int .i64 t95), (.int .i64 t96), (.int .i64 r13)]) 2 rfl rfl rfl ty3 rfl rfl rfl rfl ?_)
          refine c_nil ?_
          refine b_norm ?_
          exact l_join (r105, e106, t95, t96, r13) (fun a w hE hm => ⟨hE.sub ⟨rfl, rfl, trivial⟩, (hm.pick [0, 2, 3, 4] rfl)⟩)
        · refine c_seq ?_
          refine c_region ?_
          refine o_eql st und3 rfl rfl rfl ?_
          refine o_as st rfl rfl ?_
          refine c_nil ?_
          refine l_then ?_
          refine c_cond rfl ?_ ?_
          · refine c_region ?_
            refine stw (o_bsl (enc := encInt) (qs := [(0, (.int .i64 (-1))), (1, (.int .i64 65536))]) (cells := [(.int .i64 (-1)), (.int .i64 65536)]) ([(-1), 65536]) flelInt (by intro ρ h; simp only [List.map_toArray, List.map_cons, List.map_nil, h (.const (.int .i64 (-1))) _ rfl, h (.const (.int .i64 65536)) _ rfl]) rfl el27 zero3 rfl rfl rfl rfl rfl rfl ?_); intro v108
            refine o_mv st rfl rfl ?_
            refine pk [1, 0, 2, 3, 4] rfl ?_
            refine stw (o_call (vs := [(.pointer (some ⟨b1, 0, none⟩)), (.int .i64 2)]) (M0 := [cellCh b1 [v2, (.int .i64 r101)] 104]) Tryd.call60 rfl rfl (by intro w m h; exact (w_spec_l20Rd_pick (F := allB [cellCh b1 [v2, (.int .i64 r101)] 104] w) (r_0_b := r_0_b) (r_0_p := r101) (n_1 := 2) allB_ok m.given (m.rdM 3 rfl (reads_snap hv2)) h).mono (fun _ _ k => ret_free (fun r u => (fr_cons free_cell fr_nil)) k)) ?_); rintro ⟨r110, r111⟩ _
            refine o_idx st 1 rfl reads_own rfl rfl rfl el27 ?_; intro e112 h113
            refine o_lds st (enc := encInt) (u := (.int .i64 e112)) 1 rfl reads_own flelInt rfl h113 rfl rfl ty3 rfl ?_
            refine o_fad st rfl rfl fld49_1 rfl ?_
            refine stw (o_stc (cs' := [(.int .i64 t94), (.int .i64 e112), (.int .i64 t96), (.int .i64 r13)]) 2 rfl rfl rfl ty3 rfl rfl rfl rfl ?_)
            refine c_nil ?_
            refine b_norm ?_
            exact l_join (r111, t94, e112, t96, r13) (fun a w hE hm => ⟨hE.sub ⟨rfl, rfl, trivial⟩, (hm.pick [0, 2, 3, 4] rfl)⟩)
          · refine c_seq ?_
            refine c_region ?_
            refine o_eql st und3 rfl rfl rfl ?_
            refine o_as st rfl rfl ?_
            refine c_nil ?_
            refine l_then ?_
            refine c_cond rfl ?_ ?_
            · refine c_region ?_
              refine stw (o_bsl (enc := encInt) (qs := [(0, (.int .i64 (-1))), (1, (.int .i64 256))]) (cells := [(.int .i64 (-1)), (.int .i64 256)]) ([(-1), 256]) flelInt (by intro ρ h; simp only [List.map_toArray, List.map_cons, List.map_nil, h (.const (.int .i64 (-1))) _ rfl, h (.const (.int .i64 256)) _ rfl]) rfl el27 zero3 rfl rfl rfl rfl rfl rfl ?_); intro v114
              refine o_mv st rfl rfl ?_
              refine pk [1, 0, 2, 3, 4] rfl ?_
              refine stw (o_call (vs := [(.pointer (some ⟨b1, 0, none⟩)), (.int .i64 2)]) (M0 := [cellCh b1 [v2, (.int .i64 r101)] 104]) Tryd.call60 rfl rfl (by intro w m h; exact (w_spec_l20Rd_pick (F := allB [cellCh b1 [v2, (.int .i64 r101)] 104] w) (r_0_b := r_0_b) (r_0_p := r101) (n_1 := 2) allB_ok m.given (m.rdM 3 rfl (reads_snap hv2)) h).mono (fun _ _ k => ret_free (fun r u => (fr_cons free_cell fr_nil)) k)) ?_); rintro ⟨r116, r117⟩ _
              refine o_idx st 1 rfl reads_own rfl rfl rfl el27 ?_; intro e118 h119
              refine o_lds st (enc := encInt) (u := (.int .i64 e118)) 1 rfl reads_own flelInt rfl h119 rfl rfl ty3 rfl ?_
              refine o_fad st rfl rfl fld49_2 rfl ?_
              refine stw (o_stc (cs' := [(.int .i64 t94), (.int .i64 t95), (.int .i64 e118), (.int .i64 r13)]) 2 rfl rfl rfl ty3 rfl rfl rfl rfl ?_)
              refine c_nil ?_
              refine b_norm ?_
              exact l_join (r117, t94, t95, e118, r13) (fun a w hE hm => ⟨hE.sub ⟨rfl, rfl, trivial⟩, (hm.pick [0, 2, 3, 4] rfl)⟩)
            · refine c_region ?_
              refine stw (o_bsl (enc := encInt) (qs := [(0, (.int .i64 (-1))), (1, (.int .i64 8))]) (cells := [(.int .i64 (-1)), (.int .i64 8)]) ([(-1), 8]) flelInt (by intro ρ h; simp only [List.map_toArray, List.map_cons, List.map_nil, h (.const (.int .i64 (-1))) _ rfl, h (.const (.int .i64 8)) _ rfl]) rfl el27 zero3 rfl rfl rfl rfl rfl rfl ?_); intro v120
              refine o_mv st rfl rfl ?_
              refine pk [1, 0, 2, 3, 4] rfl ?_
              refine stw (o_call (vs := [(.pointer (some ⟨b1, 0, none⟩)), (.int .i64 2)]) (M0 := [cellCh b1 [v2, (.int .i64 r101)] 104]) Tryd.call60 rfl rfl (by intro w m h; exact (w_spec_l20Rd_pick (F := allB [cellCh b1 [v2, (.int .i64 r101)] 104] w) (r_0_b := r_0_b) (r_0_p := r101) (n_1 := 2) allB_ok m.given (m.rdM 3 rfl (reads_snap hv2)) h).mono (fun _ _ k => ret_free (fun r u => (fr_cons free_cell fr_nil)) k)) ?_); rintro ⟨r122, r123⟩ _
              refine o_idx st 1 rfl reads_own rfl rfl rfl el27 ?_; intro e124 h125
              refine o_lds st (enc := encInt) (u := (.int .i64 e124)) 1 rfl reads_own flelInt rfl h125 rfl rfl ty3 rfl ?_
              refine o_fad st rfl rfl fld49_3 rfl ?_
              refine stw (o_stc (cs' := [(.int .i64 t94), (.int .i64 t95), (.int .i64 t96), (.int .i64 e124)]) 2 rfl rfl rfl ty3 rfl rfl rfl rfl ?_)
              refine c_nil ?_
              refine b_norm ?_
              exact l_join (r123, t94, t95, t96, e124) (fun a w hE hm => ⟨hE.sub ⟨rfl, rfl, trivial⟩, (hm.pick [0, 2, 3, 4] rfl)⟩)
      · refine c_skip ?_
        exact l_join (r99, t94, t95, t96, r13) (fun a w hE hm => ⟨hE.sub ⟨rfl, rfl, trivial⟩, (hm.pick [0, 1, 2, 3] rfl)⟩)
    · rintro ⟨t186, t187, t188, t189, t190⟩ a w ⟨hE, hm⟩ h
      refine nx_of hE hm h ?_
      clear hE hm h
      refine c_seq ?_
      refine c_region ?_
      refine o_ldc st (v := (.agg #[(.int .i64 t187), (.int .i64 t188), (.int .i64 t189), (.int .i64 t190)])) 1 rfl rfl rfl ty49 rfl ?_
      refine stw (o_stc (cs' := [(.int .i64 t187), (.int .i64 t188), (.int .i64 t189), (.int .i64 t190)]) 2 rfl rfl rfl ty49 rfl rfl rfl rfl ?_)
      refine c_nil ?_
      refine l_then ?_
      refine c_ret ?_
      exact l_end1 Tryd.results66 ((GPacket.mk t187 t188 t189 t190), t186) () (rv_c 2 rfl rfl ty49 rfl) (fun w m => NewCh.ofB m [0] rfl)

set_option maxRecDepth 100000 in
set_option maxHeartbeats 8000000 in
theorem w_spec_PacketValid {w0 : World} {F : Nat → Prop} {p_0 : GPacket} {κ : Bool → Prop} (hF : ∀ b, F b → b < w0.heap.size ∧ ¬ feet [] b) (h : L_spec_PacketValid p_0 κ) :
    Calls Tryd.prog 37 #[(.agg #[(.int .i64 p_0.xFrom), (.int .i64 p_0.xTo), (.int .i64 p_0.xPort), (.int .i64 p_0.xProto)])] w0 (Ret [] F w0 κ (fun (r : Bool) (u : Unit) => (.bool r)) (fun (r : Bool) (u : Unit) => [])) := by
  refine enter0 (args := [(.agg #[(.int .i64 p_0.xFrom), (.int .i64 p_0.xTo), (.int .i64 p_0.xPort), (.int .i64 p_0.xProto)])]) [] hF (Given.nil _ _) Tryd.func37 rfl Tryd.ntmps37 rfl h ?_
  clear h hF
  refine c_seq ?_
  refine c_region ?_
  refine stw (o_box rfl rfl [(.int .i64 p_0.xFrom), (.int .i64 p_0.xTo), (.int .i64 p_0.xPort), (.int .i64 p_0.xProto)] rfl ?_); intro b1
  refine o_as st rfl rfl ?_
  refine c_nil ?_
  refine l_then ?_
  refine c_join (σ := Bool) (fun (t67 : Bool) (a : Act) (w : World) => Has 21 [(2, (.bool t67))] a ∧ Mem (gB F [] w0) (feet []) w0 [] w) ?_ ?_
  · intro k68
    refine c_region ?_
    refine o_fad st rfl rfl fld49_0 rfl ?_
    refine o_ldc st (v := (.int .i64 p_0.xFrom)) 0 rfl rfl rfl ty3 rfl ?_
    refine stw (o_callP (vs := [(.int .i64 p_0.xFrom), (.int .i64 0), (.int .i64 65535)]) Tryd.call74 rfl rfl (by intro w m h; exact (w_spec_l1In (F := allB [] w) (n_0 := p_0.xFrom) (lo_1 := 0) (hi_2 := 65535) allB_ok h).mono (fun _ _ k => ret_free (fun r u => fr_nil) k)) ?_); rintro r3 _
    refine o_mv st rfl rfl ?_
    refine st_sp (dj := 6) rfl ?_ ?_
    · refine o_fad (st_g rfl rfl) rfl rfl fld49_1 rfl ?_
      refine o_ldc (st_g rfl rfl) (v := (.int .i64 p_0.xTo)) 0 rfl rfl rfl ty3 rfl ?_
      refine st_gw rfl rfl (o_callP (vs := [(.int .i64 p_0.xTo), (.int .i64 0), (.int .i64 65535)]) Tryd.call74 rfl rfl (by intro w m h; exact (w_spec_l1In (F := allB [] w) (n_0 := p_0.xTo) (lo_1 := 0) (hi_2 := 65535) allB_ok h).mono (fun _ _ k => ret_free (fun r u => fr_nil) k)) ?_); rintro r4 _
      refine o_pickT st rfl rfl rfl ?_
      refine o_mv st rfl rfl ?_
      refine st_sp (dj := 11) rfl ?_ ?_
      · refine o_fad (st_g rfl rfl) rfl rfl fld49_2 rfl ?_
        refine o_ldc (st_g rfl rfl) (v := (.int .i64 p_0.xPort)) 0 rfl rfl rfl ty3 rfl ?_
        refine st_gw rfl rfl (o_callP (vs := [(.int .i64 p_0.xPort), (.int .i64 0), (.int .i64 255)]) Tryd.call74 rfl rfl (by intro w m h; exact (w_spec_l1In (F := allB [] w) (n_0 := p_0.xPort) (lo_1 := 0) (hi_2 := 255) allB_ok h).mono (fun _ _ k => ret_free (fun r u => fr_nil) k)) ?_); rintro r5 _
        refine o_pickT st rfl rfl rfl ?_
        refine o_mv st rfl rfl ?_
        refine st_sp (dj := 16) rfl ?_ ?_
        · refine o_fad (st_g rfl rfl) rfl rfl fld49_3 rfl ?_
          refine o_ldc (st_g rfl rfl) (v := (.int .i64 p_0.xProto)) 0 rfl rfl rfl ty3 rfl ?_
          refine st_gw rfl rfl (o_callP (vs := [(.int .i64 p_0.xProto), (.int .i64 0), (.int .i64 7)]) Tryd.call74 rfl rfl (by intro w m h; exact (w_spec_l1In (F := allB [] w) (n_0 := p_0.xProto) (lo_1 := 0) (hi_2 := 7) allB_ok h).mono (fun _ _ k => ret_free (fun r u => fr_nil) k)) ?_); rintro r6 _
          refine o_pickT st rfl rfl rfl ?_
          refine o_as st rfl rfl ?_
          refine c_nil ?_
          exact l_join r6 (fun a w hE hm => ⟨hE.sub ⟨rfl, trivial⟩, (hm.pick [] rfl)⟩)
        · refine st_s rfl rfl rfl rfl ?_
          refine st_s rfl rfl rfl rfl ?_
          refine st_s rfl rfl rfl rfl ?_
          refine o_pickF st rfl rfl rfl ?_
          refine o_as st rfl rfl ?_
          refine c_nil ?_
          exact l_join false (fun a w hE hm => ⟨hE.sub ⟨rfl, trivial⟩, (hm.pick [] rfl)⟩)
      · refine st_s rfl rfl rfl rfl ?_
        refine st_s rfl rfl rfl rfl ?_
        refine st_s rfl rfl rfl rfl ?_
        refine o_pickF st rfl rfl rfl ?_
        refine o_mv st rfl rfl ?_
        refine st_s rfl rfl rfl rfl ?_
        refine st_s rfl rfl rfl rfl ?_
        refine st_s rfl rfl rfl rfl ?_
        refine o_pickF st rfl rfl rfl ?_
        refine o_as st rfl rfl ?_
        refine c_nil ?_
        exact l_join false (fun a w hE hm => ⟨hE.sub ⟨rfl, trivial⟩, (hm.pick [] rfl)⟩)
    · refine st_s rfl rfl rfl rfl ?_
      refine st_s rfl rfl rfl rfl ?_
      refine st_s rfl rfl rfl rfl ?_
      refine o_pickF st rfl rfl rfl ?_
      refine o_mv st rfl rfl ?_
      refine st_s rfl rfl rfl rfl ?_
      refine st_s rfl rfl rfl rfl ?_
      refine st_s rfl rfl rfl rfl ?_
      refine o_pickF st rfl rfl rfl ?_
      refine o_mv st rfl rfl ?_
      refine st_s rfl rfl rfl rfl ?_
      refine st_s rfl rfl rfl rfl ?_
      refine st_s rfl rfl rfl rfl ?_
      refine o_pickF st rfl rfl rfl ?_
      refine o_as st rfl rfl ?_
      refine c_nil ?_
      exact l_join false (fun a w hE hm => ⟨hE.sub ⟨rfl, trivial⟩, (hm.pick [] rfl)⟩)
  · rintro t67 a w ⟨hE, hm⟩ h
    refine nx_of hE hm h ?_
    clear hE hm h
    refine c_ret ?_
    exact l_end1 Tryd.results37 t67 () (rv_t rfl) (fun _ _ => NewCh.nil _ _ _ _)

set_option maxRecDepth 100000 in
set_option maxHeartbeats 8000000 in
theorem w_spec_ReversePacket {w0 : World} {F : Nat → Prop} {p_0 : GPacket} {κ : GPacket → Prop} (hF : ∀ b, F b → b < w0.heap.size ∧ ¬ feet [] b) (h : L_spec_ReversePacket p_0 κ) :
    Calls Tryd.prog 67 #[(.agg #[(.int .i64 p_0.xFrom), (.int .i64 p_0.xTo), (.int .i64 p_0.xPort), (.int .i64 p_0.xProto)])] w0 (Ret [] F w0 κ (fun (r : GPacket) (u : Unit) => (.agg #[(.int .i64 r.xFrom), (.int .i64 r.xTo), (.int .i64 r.xPort), (.int .i64 r.xProto)])) (fun (r : GPacket) (u : Unit) => [])) := by
  refine enter0 (args := [(.agg #[(.int .i64 p_0.xFrom), (.int .i64 p_0.xTo), (.int .i64 p_0.xPort), (.int .i64 p_0.xProto)])]) [] hF (Given.nil _ _) Tryd.func67 rfl Tryd.ntmps67 rfl h ?_
  clear h hF
  refine c_seq ?_
  refine c_region ?_
  refine stw (o_box rfl rfl [(.int .i64 p_0.xFrom), (.int .i64 p_0.xTo), (.int .i64 p_0.xPort), (.int .i64 p_0.xProto)] rfl ?_); intro b1
  refine stw (o_alloc rfl [(.int .i64 0), (.int .i64 0), (.int .i64 0), (.int .i64 0)] zero49 ?_); intro b3
  refine c_nil ?_
  refine l_then ?_
  refine c_seq ?_
  refine c_seq ?_
  refine c_region ?_
  refine o_ldc st (v := (.agg #[(.int .i64 p_0.xFrom), (.int .i64 p_0.xTo), (.int .i64 p_0.xPort), (.int .i64 p_0.xProto)])) 1 rfl rfl rfl ty49 rfl ?_
  refine stw (o_callP (vs := [(.agg #[(.int .i64 p_0.xFrom), (.int .i64 p_0.xTo), (.int .i64 p_0.xPort), (.int .i64 p_0.xProto)])]) Tryd.call37 rfl rfl (by intro w m h; exact (w_spec_PacketValid (F := allB [] w) (p_0 := p_0) allB_ok h).mono (fun _ _ k => ret_free (fun r u => fr_nil) k)) ?_); rintro r5 _
  refine o_not st rfl rfl ?_
  refine c_nil ?_
  refine l_then ?_
  refine c_cond rfl ?_ ?_
  · refine c_seq ?_
    refine c_region ?_
    refine o_bld st (qs := []) (cells := [(.int .i64 0), (.int .i64 0), (.int .i64 0), (.int .i64 0)]) (by intro ρ h; simp only [List.map_toArray, List.map_cons, List.map_nil]) rfl bld49 rfl ?_
    refine stw (o_stc (cs' := [(.int .i64 0), (.int .i64 0), (.int .i64 0), (.int .i64 0)]) 0 rfl rfl rfl ty49 rfl rfl rfl rfl ?_)
    refine c_nil ?_
    refine l_then ?_
    refine c_ret ?_
    refine l_ret ?_
    exact l_end1 Tryd.results67 (GPacket.mk 0 0 0 0) () (rv_c 0 rfl rfl ty49 rfl) (fun _ _ => NewCh.nil _ _ _ _)
  · refine c_skip ?_
    refine l_then ?_
    refine c_seq ?_
    refine c_region ?_
    refine o_fad st rfl rfl fld49_1 rfl ?_
    refine o_ldc st (v := (.int .i64 p_0.xTo)) 1 rfl rfl rfl ty3 rfl ?_
    refine o_fad st rfl rfl fld49_0 rfl ?_
    refine o_ldc st (v := (.int .i64 p_0.xFrom)) 1 rfl rfl rfl ty3 rfl ?_
    refine o_fad st rfl rfl fld49_2 rfl ?_
    refine o_ldc st (v := (.int .i64 p_0.xPort)) 1 rfl rfl rfl ty3 rfl ?_
    refine o_fad st rfl rfl fld49_3 rfl ?_
    refine o_ldc st (v := (.int .i64 p_0.xProto)) 1 rfl rfl rfl ty3 rfl ?_
    refine o_bld st (qs := [(0, (.int .i64 p_0.xTo)), (1, (.int .i64 p_0.xFrom)), (2, (.int .i64 p_0.xPort)), (3, (.int .i64 p_0.xProto))]) (cells := [(.int .i64 p_0.xTo), (.int .i64 p_0.xFrom), (.int .i64 p_0.xPort), (.int .i64 p_0.xProto)]) (by intro ρ h; simp only [List.map_toArray, List.map_cons, List.map_nil, h (.tmp 8) _ rfl, h (.tmp 10) _ rfl, h (.tmp 12) _ rfl, h (.tmp 14) _ rfl]) rfl bld49 rfl ?_
    refine stw (o_stc (cs' := [(.int .i64 p_0.xTo), (.int .i64 p_0.xFrom), (.int .i64 p_0.xPort), (.int .i64 p_0.xProto)]) 0 rfl rfl rfl ty49 rfl rfl rfl rfl ?_)
    refine c_nil ?_
    refine l_then ?_
    refine c_ret ?_
    exact l_end1 Tryd.results67 (GPacket.mk p_0.xTo p_0.xFrom p_0.xPort p_0.xProto) () (rv_c 0 rfl rfl ty49 rfl) (fun _ _ => NewCh.nil _ _ _ _)

set_option maxRecDepth 100000 in
set_option maxHeartbeats 8000000 in
theorem w_spec_l20Packets {w0 : World} {F : Nat → Prop} {b1 : Nat} {v2 : Value} {r_0_b : (List UInt8)} {r_0_p : Int} {n_1 : Int} {κ : ((List GPacket) × Int) → Prop} (hF : ∀ b, F b → b < w0.heap.size ∧ ¬ feet [cellCh b1 [v2, (.int .i64 r_0_p)] 104] b) (hg : Given [cellCh b1 [v2, (.int .i64 r_0_p)] 104] F w0) (hv2 : Sl elU8 F w0 v2 r_0_b) (h : L_spec_l20Packets r_0_b r_0_p n_1 κ) :
    Calls Tryd.prog 31 #[(.pointer (some ⟨b1, 0, none⟩)), (.int .i64 n_1)] w0 (Ret [cellCh b1 [v2, (.int .i64 r_0_p)] 104] F w0 κ (fun (r : ((List GPacket) × Int)) (u : Value) => u) (fun (r : ((List GPacket) × Int)) (u : Value) => [ownCh elGPacket 49 u r.1, cellCh b1 [v2, (.int .i64 r.2)] 104])) := by
  refine enterS (args := [(.pointer (some ⟨b1, 0, none⟩)), (.int .i64 n_1)]) [cellCh b1 [v2, (.int .i64 r_0_p)] 104] hF hg Tryd.func31 rfl Tryd.ntmps31 rfl h ?_
  clear h hF hg
  refine c_seq ?_
  refine c_region ?_
  refine stw (o_asn elGPacket 49 rfl rfl ?_)
  refine c_nil ?_
  refine l_then ?_
  refine c_seq ?_
  refine c_region ?_
  refine stw (o_bsl (enc := encGPacket) (qs := []) (cells := []) ([] : (List GPacket)) flelGPacket (by intro ρ h; simp only [List.map_toArray, List.map_cons, List.map_nil]) rfl el24 zero49 rfl rfl rfl rfl rfl rfl ?_); intro v6
  refine o_as st rfl rfl ?_
  refine c_nil ?_
  refine l_then ?_
  refine c_seq ?_
  refine c_seq ?_
  refine c_region ?_
  refine o_mv st rfl rfl ?_
  refine pk [2, 0, 1, 3] rfl ?_
  refine stw (o_call (vs := [(.pointer (some ⟨b1, 0, none⟩)), (.int .i64 7)]) (M0 := [cellCh b1 [v2, (.int .i64 r_0_p)] 104]) Tryd.call60 rfl rfl (by intro w m h; exact (w_spec_l20Rd_pick (F := allB [cellCh b1 [v2, (.int .i64 r_0_p)] 104] w) (r_0_b := r_0_b) (r_0_p := r_0_p) (n_1 := 7) allB_ok m.given (m.rdM 2 rfl (reads_snap hv2)) h).mono (fun _ _ k => ret_free (fun r u => (fr_cons free_cell fr_nil)) k)) ?_); rintro ⟨r8, r9⟩ _
  refine o_as st rfl rfl ?_
  refine c_nil ?_
  refine l_then ?_
  refine c_block ?_
  refine c_loop (σ := (Int × (List GPacket) × Int)) (fun ((t10, xs12, t15) : (Int × (List GPacket) × Int)) (a : Act) (w : World) => ∃ (v11 : Value), Has 51 [(0, (.pointer (some ⟨b1, 0, none⟩))), (1, (.int .i64 n_1)), (5, v11), (6, (.int .i64 t15))] a ∧ Mem (gB F [cellCh b1 [v2, (.int .i64 r_0_p)] 104] w0) (feet [cellCh b1 [v2, (.int .i64 r_0_p)] 104]) w0 [cellCh b1 [v2, (.int .i64 t10)] 104, snapCh w0 F, ownCh elGPacket 49 v11 xs12] w) (fun a w hE hm => ⟨v6, hE.sub ⟨rfl, rfl, rfl, rfl, trivial⟩, (hm.pick [0, 3, 1] rfl)⟩) ?_
  rintro nx16 ⟨t10, xs12, t15⟩ a w ⟨v11, hE, hm⟩ h
  refine nx_of hE hm h ?_
  clear hE hm h
  refine c_seq ?_
  refine c_seq ?_
  refine c_region ?_
  refine o_mv st rfl rfl ?_
  refine o_gtr st rfl rfl rfl ?_
  refine c_nil ?_
  refine l_then ?_
  refine c_cond rfl ?_ ?_
  · refine c_skip ?_
    refine l_then ?_
    refine c_join (σ := ((List GPacket) × Int)) (fun ((xs157, t160) : ((List GPacket) × Int)) (a : Act) (w : World) => ∃ (v158 : Value), Has 51 [(0, (.pointer (some ⟨b1, 0, none⟩))), (1, (.int .i64 n_1)), (5, v158), (6, (.int .i64 t15))] a ∧ Mem (gB F [cellCh b1 [v2, (.int .i64 r_0_p)] 104] w0) (feet [cellCh b1 [v2, (.int .i64 r_0_p)] 104]) w0 [cellCh b1 [v2, (.int .i64 t160)] 104, ownCh elGPacket 49 v158 xs157, snapCh w0 F] w) ?_ ?_
    · intro k161
      refine c_block ?_
      refine c_seq ?_
      refine c_region ?_
      refine o_mv st rfl rfl ?_
      refine o_mv st rfl rfl ?_
      refine stw (o_call (vs := [(.pointer (some ⟨b1, 0, none⟩)), (.int .i64 0)]) (M0 := [cellCh b1 [v2, (.int .i64 t10)] 104]) Tryd.call66 rfl rfl (by intro w m h; exact (w_spec_l20Packet (F := allB [cellCh b1 [v2, (.int .i64 t10)] 104] w) (r_0_b := r_0_b) (r_0_p := t10) (n_1 := 0) allB_ok m.given (m.rdM 0 rfl (reads_snap hv2)) h).mono (fun _ _ k => ret_free (fun r u => (fr_cons free_cell fr_nil)) k)) ?_); rintro ⟨r17, r18⟩ _
      refine stw (o_bsl (enc := encGPacket) (qs := [(0, (.agg #[(.int .i64 r17.xFrom), (.int .i64 r17.xTo), (.int .i64 r17.xPort), (.int .i64 r17.xProto)]))]) (cells := [(.int .i64 r17.xFrom), (.int .i64 r17.xTo), (.int .i64 r17.xPort), (.int .i64 r17.xProto)]) ([r17]) flelGPacket (by intro ρ h; simp only [List.map_toArray, List.map_cons, List.map_nil, h (.tmp 16) _ rfl]) rfl el24 zero49 rfl rfl rfl rfl rfl rfl ?_); intro v19
      refine stw (o_app 3 0 rfl rfl (src_flat flelGPacket reads_own) rfl rfl rfl el24 rfl zero49 rfl rfl ?_); intro v21
      refine o_as st rfl rfl ?_
      refine c_nil ?_
      refine l_then ?_
      refine c_join (σ := (Int × Bool)) (fun ((t85, t86) : (Int × Bool)) (a : Act) (w : World) => Has 51 [(0, (.pointer (some ⟨b1, 0, none⟩))), (1, (.int .i64 n_1)), (5, v21), (6, (.int .i64 t15)), (26, (.bool t86))] a ∧ Mem (gB F [cellCh b1 [v2, (.int .i64 r_0_p)] 104] w0) (feet [cellCh b1 [v2, (.int .i64 r_0_p)] 104]) w0 [cellCh b1 [v2, (.int .i64 t85)] 104, ownCh elGPacket 49 v21 (xs12 ++ ([r17])), snapCh w0 F] w) ?_ ?_
      · intro k87
        refine c_region ?_
        refine o_mv st rfl rfl ?_
        refine o_len st el24 3 rfl reads_own rfl rfl ?_
        refine o_gtr st rfl rfl rfl ?_
        refine o_mv st rfl rfl ?_
        refine st_sp (dj := 22) rfl ?_ ?_
        · refine o_mv (st_g rfl rfl) rfl rfl ?_
          refine pk [1, 0, 2, 3] rfl ?_
          refine st_gw rfl rfl (o_call (vs := [(.pointer (some ⟨b1, 0, none⟩)), (.int .i64 3)]) (M0 := [cellCh b1 [v2, (.int .i64 r18)] 104]) Tryd.call60 rfl rfl (by intro w m h; exact (w_spec_l20Rd_pick (F := allB [cellCh b1 [v2, (.int .i64 r18)] 104] w) (r_0_b := r_0_b) (r_0_p := r18) (n_1 := 3) allB_ok m.given (m.rdM 1 rfl (reads_snap hv2)) h).mono (fun _ _ k => ret_free (fun r u => (fr_cons free_cell fr_nil)) k)) ?_); rintro ⟨r23, r24⟩ _
          refine o_eql (st_g rfl rfl) und3 rfl rfl rfl ?_
          refine o_pickT st rfl rfl rfl ?_
          refine c_nil ?_
          exact l_join (r24, (decide (r23 = 0))) (fun a w hE hm => ⟨hE.sub ⟨rfl, rfl, rfl, rfl, rfl, trivial⟩, (hm.pick [0, 3, 2] rfl)⟩)
        · refine st_s rfl rfl rfl rfl ?_
          refine st_s rfl rfl rfl rfl ?_
          refine st_s rfl rfl rfl rfl ?_
          refine o_pickF st rfl rfl rfl ?_
          refine c_nil ?_
          exact l_join (r18, false) (fun a w hE hm => ⟨hE.sub ⟨rfl, rfl, rfl, rfl, rfl, trivial⟩, (hm.pick [1, 3, 2] rfl)⟩)
      · rintro ⟨t85, t86⟩ a w ⟨hE, hm⟩ h
        refine nx_of hE hm h ?_
        clear hE hm h
        refine c_cond rfl ?_ ?_
        · refine c_region ?_
          refine o_mv st rfl rfl ?_
          refine o_mv st rfl rfl ?_
          refine o_mv st rfl rfl ?_
          refine o_mv st rfl rfl ?_
          refine o_len st el24 1 rfl reads_own rfl rfl ?_
          refine stw (o_call (vs := [(.pointer (some ⟨b1, 0, none⟩)), (.int .i64 ((xs12 ++ ([r17])).length : Int))]) (M0 := [cellCh b1 [v2, (.int .i64 t85)] 104]) Tryd.call60 rfl rfl (by intro w m h; exact (w_spec_l20Rd_pick (F := allB [cellCh b1 [v2, (.int .i64 t85)] 104] w) (r_0_b := r_0_b) (r_0_p := t85) (n_1 := ((xs12 ++ ([r17])).length : Int)) allB_ok m.given (m.rdM 1 rfl (reads_snap hv2)) h).mono (fun _ _ k => ret_free (fun r u => (fr_cons free_cell fr_nil)) k)) ?_); rintro ⟨r88, r89⟩ _
          refine o_idx st 1 rfl reads_own rfl rfl rfl el24 ?_; intro e90 h91
          refine o_lds st (enc := encGPacket) (u := (.agg #[(.int .i64 e90.xFrom), (.int .i64 e90.xTo), (.int .i64 e90.xPort), (.int .i64 e90.xProto)])) 1 rfl reads_own flelGPacket rfl h91 rfl rfl ty49 rfl ?_
          refine stw (o_callP (vs := [(.agg #[(.int .i64 e90.xFrom), (.int .i64 e90.xTo), (.int .i64 e90.xPort), (.int .i64 e90.xProto)])]) Tryd.call67 rfl rfl (by intro w m h; exact (w_spec_ReversePacket (F := allB [] w) (p_0 := e90) allB_ok h).mono (fun _ _ k => ret_free (fun r u => fr_nil) k)) ?_); rintro r92 _
          refine stw (o_bsl (enc := encGPacket) (qs := [(0, (.agg #[(.int .i64 r92.xFrom), (.int .i64 r92.xTo), (.int .i64 r92.xPort), (.int .i64 r92.xProto)]))]) (cells := [(.int .i64 r92.xFrom), (.int .i64 r92.xTo), (.int .i64 r92.xPort), (.int .i64 r92.xProto)]) ([r92]) flelGPacket (by intro ρ h; simp only [List.map_toArray, List.map_cons, List.map_nil, h (.tmp 35) _ rfl]) rfl el24 zero49 rfl rfl rfl rfl rfl rfl ?_); intro v93
          refine stw (o_app 2 0 rfl rfl (src_flat flelGPacket reads_own) rfl rfl rfl el24 rfl zero49 rfl rfl ?_); intro v95
          refine o_as st rfl rfl ?_
          refine c_nil ?_
          refine b_norm ?_
          exact l_join (((xs12 ++ ([r17])) ++ ([r92])), r89) (fun a w hE hm => ⟨v95, hE.sub ⟨rfl, rfl, rfl, rfl, trivial⟩, (hm.pick [1, 2, 3] rfl)⟩)
        · refine c_skip ?_
          refine b_norm ?_
          exact l_join ((xs12 ++ ([r17])), t85) (fun a w hE hm => ⟨v21, hE.sub ⟨rfl, rfl, rfl, rfl, trivial⟩, (hm.pick [0, 1, 2] rfl)⟩)
    · rintro ⟨xs157, t160⟩ a w ⟨v158, hE, hm⟩ h
      refine nx_of hE hm h ?_
      clear hE hm h
      refine c_region ?_
      refine o_mv st rfl rfl ?_
      refine o_sub st rfl rfl rfl ?_; intro t162
      refine o_as st rfl rfl ?_
      refine c_nil ?_
      exact l_join (t160, xs157, t162) (fun a w hE hm => ⟨v158, hE.sub ⟨rfl, rfl, rfl, rfl, trivial⟩, (hm.pick [0, 2, 1] rfl)⟩)
  · refine c_exit ?_
    refine l_exit ?_
    refine l_exit ?_
    refine b_exit ?_
    refine l_then ?_
    refine c_join (σ := (Int × (List GPacket))) (fun ((t236, xs238) : (Int × (List GPacket))) (a : Act) (w : World) => ∃ (v237 : Value), Has 51 [(5, v237)] a ∧ Mem (gB F [cellCh b1 [v2, (.int .i64 r_0_p)] 104] w0) (feet [cellCh b1 [v2, (.int .i64 r_0_p)] 104]) w0 [cellCh b1 [v2, (.int .i64 t236)] 104, snapCh w0 F, ownCh elGPacket 49 v237 xs238] w) ?_ ?_
    · intro k241
      refine c_seq ?_
      refine c_region ?_
      refine o_mv st rfl rfl ?_
      refine o_mv st rfl rfl ?_
      refine stw (o_call (vs := [(.pointer (some ⟨b1, 0, none⟩)), (.int .i64 n_1)]) (M0 := [cellCh b1 [v2, (.int .i64 t10)] 104]) Tryd.call64 rfl rfl (by intro w m h; exact (w_spec_l20Rd_odd (F := allB [cellCh b1 [v2, (.int .i64 t10)] 104] w) (r_0_b := r_0_b) (r_0_p := t10) (n_1 := n_1) allB_ok m.given (m.rdM 0 rfl (reads_snap hv2)) h).mono (fun _ _ k => ret_free (fun r u => (fr_cons free_cell fr_nil)) k)) ?_); rintro ⟨r163, r164⟩ _
      refine c_nil ?_
      refine l_then ?_
      refine c_cond rfl ?_ ?_
      · refine c_seq ?_
        refine c_region ?_
        refine o_mv st rfl rfl ?_
        refine stw (o_call (vs := [(.pointer (some ⟨b1, 0, none⟩)), (.int .i64 2)]) (M0 := [cellCh b1 [v2, (.int .i64 r164)] 104]) Tryd.call60 rfl rfl (by intro w m h; exact (w_spec_l20Rd_pick (F := allB [cellCh b1 [v2, (.int .i64 r164)] 104] w) (r_0_b := r_0_b) (r_0_p := r164) (n_1 := 2) allB_ok m.given (m.rdM 0 rfl (reads_snap hv2)) h).mono (fun _ _ k => ret_free (fun r u => (fr_cons free_cell fr_nil)) k)) ?_); rintro ⟨r165, r166⟩ _
        refine o_eql st und3 rfl rfl rfl ?_
        refine c_nil ?_
        refine l_then ?_
        refine c_cond rfl ?_ ?_
        · refine c_region ?_
          refine o_mv st rfl rfl ?_
          refine o_mv st rfl rfl ?_
          refine stw (o_call (vs := [(.pointer (some ⟨b1, 0, none⟩)), (.int .i64 1)]) (M0 := [cellCh b1 [v2, (.int .i64 r166)] 104]) Tryd.call66 rfl rfl (by intro w m h; exact (w_spec_l20Packet (F := allB [cellCh b1 [v2, (.int .i64 r166)] 104] w) (r_0_b := r_0_b) (r_0_p := r166) (n_1 := 1) allB_ok m.given (m.rdM 0 rfl (reads_snap hv2)) h).mono (fun _ _ k => ret_free (fun r u => (fr_cons free_cell fr_nil)) k)) ?_); rintro ⟨r167, r168⟩ _
          refine stw (o_bsl (enc := encGPacket) (qs := [(0, (.agg #[(.int .i64 r167.xFrom), (.int .i64 r167.xTo), (.int .i64 r167.xPort), (.int .i64 r167.xProto)]))]) (cells := [(.int .i64 r167.xFrom), (.int .i64 r167.xTo), (.int .i64 r167.xPort), (.int .i64 r167.xProto)]) ([r167]) flelGPacket (by intro ρ h; simp only [List.map_toArray, List.map_cons, List.map_nil, h (.tmp 46) _ rfl]) rfl el24 zero49 rfl rfl rfl rfl rfl rfl ?_); intro v169
          refine stw (o_app 3 0 rfl rfl (src_flat flelGPacket reads_own) rfl rfl rfl el24 rfl zero49 rfl rfl ?_); intro v171
          refine o_as st rfl rfl ?_
          refine c_nil ?_
          exact l_join (r168, (xs12 ++ ([r167]))) (fun a w hE hm => ⟨v171, hE.sub ⟨rfl, trivial⟩, (hm.pick [1, 2, 3] rfl)⟩)
        · refine c_region ?_
          refine stw (o_make (z := (GPacket.mk 0 0 0 0)) flelGPacket rfl rfl rfl el24 rfl zero49 rfl rfl ?_); intro v173 xs174
          refine o_as st rfl rfl ?_
          refine c_nil ?_
          exact l_join (r166, xs174) (fun a w hE hm => ⟨v173, hE.sub ⟨rfl, trivial⟩, (hm.pick [1, 2, 0] rfl)⟩)
      · refine c_skip ?_
        exact l_join (r164, xs12) (fun a w hE hm => ⟨v11, hE.sub ⟨rfl, trivial⟩, (hm.pick [0, 1, 2] rfl)⟩)
    · rintro ⟨t236, xs238⟩ a w ⟨v237, hE, hm⟩ h
      refine nx_of hE hm h ?_
      clear hE hm h
      refine c_seq ?_
      refine c_region ?_
      refine o_mv st rfl rfl ?_
      refine o_as st rfl rfl ?_
      refine c_nil ?_
      refine l_then ?_
      refine c_ret ?_
      exact l_end1 Tryd.results31 (xs238, t236) v237 (rv_t rfl) (fun w m => NewCh.ofB m [2, 0] rfl)

set_option maxRecDepth 100000 in
set_option maxHeartbeats 8000000 in
theorem w_spec_DrawHitCounts {w0 : World} {F : Nat → Prop} {v1 : Value} {code_0 : (List UInt8)} {κ : ((List GFlat) × (List GPacket)) → Prop} (hF : ∀ b, F b → b < w0.heap.size ∧ ¬ feet [] b) (hv1 : Sl elU8 F w0 v1 code_0) (h : L_spec_DrawHitCounts code_0 κ) :
    Calls Tryd.prog 7 #[v1] w0 (Ret [] F w0 κ (fun (r : ((List GFlat) × (List GPacket))) (u : Value × Value) => .tuple #[u.1, u.2]) (fun (r : ((List GFlat) × (List GPacket))) (u : Value × Value) => [ownCh elGFlat 87 u.1 r.1, ownCh elGPacket 49 u.2 r.2])) := by
  refine enterS (args := [v1]) [] hF (Given.nil _ _) Tryd.func7 rfl Tryd.ntmps7 rfl h ?_
  clear h hF
  refine c_seq ?_
  refine c_region ?_
  refine stw (o_asd dGFlat 87 rfl rfl ?_)
  refine stw (o_asn elGPacket 49 rfl rfl ?_)
  refine c_nil ?_
  refine l_then ?_
  refine c_seq ?_
  refine c_region ?_
  refine o_mv st rfl rfl ?_
  refine stw (o_callP (vs := [v1]) Tryd.call29 rfl rfl (by intro w m h; exact w_spec_l20Open (code_0 := code_0) fz_ok0 (m.roS 2 rfl hv1) h) ?_); rintro ⟨r7, r10⟩ ⟨b5, v8⟩
  refine o_as st rfl rfl ?_
  refine c_nil ?_
  refine l_then ?_
  refine c_seq ?_
  refine c_region ?_
  refine o_mv st rfl rfl ?_
  refine stw (o_call (vs := [(.pointer (some ⟨b5, 0, none⟩)), (.int .i64 14)]) (M0 := [cellCh b5 [v8, (.int .i64 r10)] 104]) Tryd.call30 rfl rfl (by intro w m h; exact w_spec_l20Flats (r_0_b := r7) (r_0_p := r10) (n_1 := 14) fz_ok m.givenB (m.ro 1 rfl) h) ?_); rintro ⟨r11, r14⟩ v12
  refine o_as st rfl rfl ?_
  refine c_nil ?_
  refine l_then ?_
  refine c_seq ?_
  refine c_region ?_
  refine o_mv st rfl rfl ?_
  refine o_mv st rfl rfl ?_
  refine pk [1, 0, 2, 3, 4, 5] rfl ?_
  refine stw (o_call (vs := [(.pointer (some ⟨b5, 0, none⟩)), (.int .i64 12)]) (M0 := [cellCh b5 [v8, (.int .i64 r14)] 104]) Tryd.call31 rfl rfl (by intro w m h; exact (w_spec_l20Packets (F := allB [cellCh b5 [v8, (.int .i64 r14)] 104] w) (r_0_b := r7) (r_0_p := r14) (n_1 := 12) allB_ok m.given (m.rdM 1 rfl reads_ro) h).mono (fun _ _ k => ret_free (fun r u => (fr_cons (free_own flelGPacket) (fr_cons free_cell fr_nil))) k)) ?_); rintro ⟨r15, r18⟩ v16
  refine o_as st rfl rfl ?_
  refine o_as st rfl rfl ?_
  refine c_nil ?_
  refine l_then ?_
  refine c_ret ?_
  exact l_end2 Tryd.results7 (r11, r15) (v12, v16) (rv_t rfl) (rv_t rfl) rfl (fun w m => NewCh.ofB m [2, 0] rfl)

set_option maxRecDepth 100000 in
set_option maxHeartbeats 8000000 in
theorem w_impl_FieldTop {w0 : World} {F : Nat → Prop} {n_0 : Int} {κ : Int → Prop} (hF : ∀ b, F b → b < w0.heap.size ∧ ¬ feet [] b) (hgl0 : Sl elGFieldShape F w0 (.slice (some ⟨0, 0, none⟩) 4 4) gl_impl_fieldShapes) (h : L_impl_FieldTop n_0 κ) :
    Calls Tryd.prog 91 #[(.int .i64 n_0)] w0 (Ret [] F w0 κ (fun (r : Int) (u : Unit) => (.int .i64 r)) (fun (r : Int) (u : Unit) => [])) := by
  refine enterS (args := [(.int .i64 n_0)]) [] hF (Given.nil _ _) Tryd.func91 rfl Tryd.ntmps91 rfl h ?_
  clear h hF
  refine c_seq ?_
  refine c_region ?_
  refine o_as st rfl rfl ?_
  refine c_nil ?_
  refine l_then ?_
  refine c_seq ?_
  refine c_join (σ := Bool) (fun (t61 : Bool) (a : Act) (w : World) => Has 13 [(0, (.int .i64 n_0)), (8, (.bool t61))] a ∧ Mem (gB F [] w0) (feet []) w0 [snapCh w0 F] w) ?_ ?_
  · intro k62
    refine c_region ?_
    refine o_mv st rfl rfl ?_
    refine o_lss st rfl rfl rfl ?_
    refine o_mv st rfl rfl ?_
    refine st_sp (dj := 5) rfl ?_ ?_
    · refine st_s rfl rfl rfl rfl ?_
      refine st_s rfl rfl rfl rfl ?_
      refine o_pickT st rfl rfl rfl ?_
      refine c_nil ?_
      exact l_join true (fun a w hE hm => ⟨hE.sub ⟨rfl, rfl, trivial⟩, (hm.pick [0] rfl)⟩)
    · refine o_mv (st_g rfl rfl) rfl rfl ?_
      refine o_geq (st_g rfl rfl) rfl rfl rfl ?_
      refine o_pickF st rfl rfl rfl ?_
      refine c_nil ?_
      exact l_join (decide (4 ≤ n_0)) (fun a w hE hm => ⟨hE.sub ⟨rfl, rfl, trivial⟩, (hm.pick [0] rfl)⟩)
  · rintro t61 a w ⟨hE, hm⟩ h
    refine nx_of hE hm h ?_
    clear hE hm h
    refine c_cond rfl ?_ ?_
    · refine c_seq ?_
      refine c_region ?_
      refine o_as st rfl rfl ?_
      refine c_nil ?_
      refine l_then ?_
      refine c_ret ?_
      refine l_ret ?_
      exact l_end1 Tryd.results91 (-1) () (rv_t rfl) (fun _ _ => NewCh.nil _ _ _ _)
    · refine c_skip ?_
      refine l_then ?_
      refine c_seq ?_
      refine c_region ?_
      refine o_mv st rfl rfl ?_
      refine o_ixa st 0 rfl (reads_snap hgl0) rfl rfl rfl arr129 ?_; intro e63 h64
      refine o_fadS st 0 rfl (reads_snap hgl0) h64 rfl rfl fld128_1 rfl ?_
      refine o_lds st (enc := encGFieldShape) (u := (.int .i64 e63.xTop)) 0 rfl (reads_snap hgl0) flelGFieldShape rfl h64 rfl rfl ty3 rfl ?_
      refine o_as st rfl rfl ?_
      refine c_nil ?_
      refine l_then ?_
      refine c_ret ?_
      exact l_end1 Tryd.results91 e63.xTop () (rv_t rfl) (fun _ _ => NewCh.nil _ _ _ _)

set_option maxRecDepth 100000 in
set_option maxHeartbeats 8000000 in
theorem w_impl_topValid {w0 : World} {F : Nat → Prop} {top_0 : Int} {κ : Bool → Prop} (hF : ∀ b, F b → b < w0.heap.size ∧ ¬ feet [] b) (h : L_impl_topValid top_0 κ) :
    Calls Tryd.prog 119 #[(.int .i64 top_0)] w0 (Ret [] F w0 κ (fun (r : Bool) (u : Unit) => (.bool r)) (fun (r : Bool) (u : Unit) => [])) := by
  refine enter0 (args := [(.int .i64 top_0)]) [] hF (Given.nil _ _) Tryd.func119 rfl Tryd.ntmps119 rfl h ?_
  clear h hF
  refine c_seq ?_
  refine c_region ?_
  refine o_as st rfl rfl ?_
  refine c_nil ?_
  refine l_then ?_
  refine c_join (σ := Bool) (fun (t61 : Bool) (a : Act) (w : World) => Has 9 [(2, (.bool t61))] a ∧ Mem (gB F [] w0) (feet []) w0 [] w) ?_ ?_
  · intro k62
    refine c_region ?_
    refine o_mv st rfl rfl ?_
    refine o_geq st rfl rfl rfl ?_
    refine o_mv st rfl rfl ?_
    refine st_sp (dj := 5) rfl ?_ ?_
    · refine o_mv (st_g rfl rfl) rfl rfl ?_
      refine o_leq (st_g rfl rfl) rfl rfl rfl ?_
      refine o_pickT st rfl rfl rfl ?_
      refine o_as st rfl rfl ?_
      refine c_nil ?_
      exact l_join (decide (top_0 ≤ 65535)) (fun a w hE hm => ⟨hE.sub ⟨rfl, trivial⟩, (hm.pick [] rfl)⟩)
    · refine st_s rfl rfl rfl rfl ?_
      refine st_s rfl rfl rfl rfl ?_
      refine o_pickF st rfl rfl rfl ?_
      refine o_as st rfl rfl ?_
      refine c_nil ?_
      exact l_join false (fun a w hE hm => ⟨hE.sub ⟨rfl, trivial⟩, (hm.pick [] rfl)⟩)
  · rintro t61 a w ⟨hE, hm⟩ h
    refine nx_of hE hm h ?_
    clear hE hm h
    refine c_ret ?_
    exact l_end1 Tryd.results119 t61 () (rv_t rfl) (fun _ _ => NewCh.nil _ _ _ _)

set_option maxRecDepth 100000 in
set_option maxHeartbeats 8000000 in
theorem w_impl_SpansValid {w0 : World} {F : Nat → Prop} {v1 : Value} {list_0 : (List GSpan)} {top_1 : Int} {κ : Bool → Prop} (hF : ∀ b, F b → b < w0.heap.size ∧ ¬ feet [] b) (hv1 : Sl elGSpan F w0 v1 list_0) (h : L_impl_SpansValid list_0 top_1 κ) :
    Calls Tryd.prog 98 #[v1, (.int .i64 top_1)] w0 (Ret [] F w0 κ (fun (r : Bool) (u : Unit) => (.bool r)) (fun (r : Bool) (u : Unit) => [])) := by
  refine enterS (args := [v1, (.int .i64 top_1)]) [] hF (Given.nil _ _) Tryd.func98 rfl Tryd.ntmps98 rfl h ?_
  clear h hF
  refine c_seq ?_
  refine c_region ?_
  refine o_as st rfl rfl ?_
  refine c_nil ?_
  refine l_then ?_
  refine c_seq ?_
  refine c_join (σ := Bool) (fun (t64 : Bool) (a : Act) (w : World) => Has 43 [(0, v1), (1, (.int .i64 top_1)), (15, (.bool t64))] a ∧ Mem (gB F [] w0) (feet []) w0 [snapCh w0 F] w) ?_ ?_
  · intro k65
    refine c_region ?_
    refine o_mv st rfl rfl ?_
    refine stw (o_callP (vs := [(.int .i64 top_1)]) Tryd.call119 rfl rfl (by intro w m h; exact (w_impl_topValid (F := allB [] w) (top_0 := top_1) allB_ok h).mono (fun _ _ k => ret_free (fun r u => fr_nil) k)) ?_); rintro r3 _
    refine o_not st rfl rfl ?_
    refine o_mv st rfl rfl ?_
    refine st_sp (dj := 11) rfl ?_ ?_
    · refine st_s rfl rfl rfl rfl ?_
      refine st_s rfl rfl rfl rfl ?_
      refine st_s rfl rfl rfl rfl ?_
      refine o_pickT st rfl rfl rfl ?_
      refine c_nil ?_
      exact l_join true (fun a w hE hm => ⟨hE.sub ⟨rfl, rfl, rfl, trivial⟩, (hm.pick [0] rfl)⟩)
    · refine o_mv (st_g rfl rfl) rfl rfl ?_
      refine o_len (st_g rfl rfl) el72 0 rfl (reads_snap hv1) rfl rfl ?_
      refine o_gtr (st_g rfl rfl) rfl rfl rfl ?_
      refine o_pickF st rfl rfl rfl ?_
      refine c_nil ?_
      exact l_join (decide (40 < (list_0.length : Int))) (fun a w hE hm => ⟨hE.sub ⟨rfl, rfl, rfl, trivial⟩, (hm.pick [0] rfl)⟩)
  · rintro t64 a w ⟨hE, hm⟩ h
    refine nx_of hE hm h ?_
    clear hE hm h
    refine c_cond rfl ?_ ?_
    · refine c_seq ?_
      refine c_region ?_
      refine o_as st rfl rfl ?_
      refine c_nil ?_
      refine l_then ?_
      refine c_ret ?_
      refine l_ret ?_
      exact l_end1 Tryd.results98 false () (rv_t rfl) (fun _ _ => NewCh.nil _ _ _ _)
    · refine c_skip ?_
      refine l_then ?_
      refine c_seq ?_
      refine c_region ?_
      refine o_as st rfl rfl ?_
      refine c_nil ?_
      refine l_then ?_
      refine c_seq ?_
      refine c_seq ?_
      refine c_region ?_
      refine o_mv st rfl rfl ?_
      refine o_len st el72 0 rfl (reads_snap hv1) rfl rfl ?_
      refine o_mv st rfl rfl ?_
      refine c_nil ?_
      refine l_then ?_
      refine c_block ?_
      refine c_loop (σ := (Int × Int)) (fun ((t66, t67) : (Int × Int)) (a : Act) (w : World) => Has 43 [(1, (.int .i64 top_1)), (5, (.int .i64 t66)), (16, v1), (17, (.int .i64 (list_0.length : Int))), (18, (.int .i64 t67))] a ∧ Mem (gB F [] w0) (feet []) w0 [snapCh w0 F] w) (fun a w hE hm => ⟨hE.sub ⟨rfl, rfl, rfl, rfl, rfl, trivial⟩, (hm.pick [0] rfl)⟩) ?_
      rintro nx68 ⟨t66, t67⟩ a w ⟨hE, hm⟩ h
      refine nx_of hE hm h ?_
      clear hE hm h
      refine c_seq ?_
      refine c_region ?_
      refine o_lss st rfl rfl rfl ?_
      refine c_nil ?_
      refine l_then ?_
      refine c_seq ?_
      refine c_cond rfl ?_ ?_
      · refine c_skip ?_
        refine l_then ?_
        refine c_seq ?_
        refine c_block ?_
        refine c_seq ?_
        refine c_region ?_
        refine o_idx st 0 rfl (reads_snap hv1) rfl rfl rfl el72 ?_; intro e69 h70
        refine o_lds st (enc := encGSpan) (u := (.agg #[(.int .i64 e69.xLo), (.int .i64 e69.xHi)])) 0 rfl (reads_snap hv1) flelGSpan rfl h70 rfl rfl ty71 rfl ?_
        refine stw (o_alloc rfl [(.int .i64 0), (.int .i64 0)] zero71 ?_); intro b71
        refine stw (o_stc (cs' := [(.int .i64 e69.xLo), (.int .i64 e69.xHi)]) 0 rfl rfl rfl ty71 rfl rfl rfl rfl ?_)
        refine c_nil ?_
        refine l_then ?_
        refine c_seq ?_
        refine c_join (σ := Bool) (fun (t134 : Bool) (a : Act) (w : World) => Has 43 [(1, (.int .i64 top_1)), (16, v1), (17, (.int .i64 (list_0.length : Int))), (18, (.int .i64 t67)), (7, (.pointer (some ⟨b71, 0, none⟩))), (39, (.bool t134))] a ∧ Mem (gB F [] w0) (feet []) w0 [cellCh b71 [(.int .i64 e69.xLo), (.int .i64 e69.xHi)] 71, snapCh w0 F] w) ?_ ?_
        · intro k135
          refine c_region ?_
          refine o_fad st rfl rfl fld71_0 rfl ?_
          refine o_ldc st (v := (.int .i64 e69.xLo)) 0 rfl rfl rfl ty3 rfl ?_
          refine o_mv st rfl rfl ?_
          refine o_add st rfl rfl rfl ?_; intro t73
          refine o_leq st rfl rfl rfl ?_
          refine o_mv st rfl rfl ?_
          refine st_sp (dj := 27) rfl ?_ ?_
          · refine st_s rfl rfl rfl rfl ?_
            refine st_s rfl rfl rfl rfl ?_
            refine st_s rfl rfl rfl rfl ?_
            refine st_s rfl rfl rfl rfl ?_
            refine st_s rfl rfl rfl rfl ?_
            refine o_pickT st rfl rfl rfl ?_
            refine o_mv st rfl rfl ?_
            refine st_s rfl rfl rfl rfl ?_
            refine st_s rfl rfl rfl rfl ?_
            refine st_s rfl rfl rfl rfl ?_
            refine st_s rfl rfl rfl rfl ?_
            refine o_pickT st rfl rfl rfl ?_
            refine c_nil ?_
            exact l_join true (fun a w hE hm => ⟨hE.sub ⟨rfl, rfl, rfl, rfl, rfl, rfl, trivial⟩, (hm.pick [0, 1] rfl)⟩)
          · refine o_fad (st_g rfl rfl) rfl rfl fld71_0 rfl ?_
            refine o_ldc (st_g rfl rfl) (v := (.int .i64 e69.xLo)) 0 rfl rfl rfl ty3 rfl ?_
            refine o_fad (st_g rfl rfl) rfl rfl fld71_1 rfl ?_
            refine o_ldc (st_g rfl rfl) (v := (.int .i64 e69.xHi)) 0 rfl rfl rfl ty3 rfl ?_
            refine o_gtr (st_g rfl rfl) rfl rfl rfl ?_
            refine o_pickF st rfl rfl rfl ?_
            refine o_mv st rfl rfl ?_
            refine st_sp (dj := 34) rfl ?_ ?_
            · refine st_s rfl rfl rfl rfl ?_
              refine st_s rfl rfl rfl rfl ?_
              refine st_s rfl rfl rfl rfl ?_
              refine st_s rfl rfl rfl rfl ?_
              refine o_pickT st rfl rfl rfl ?_
              refine c_nil ?_
              exact l_join true (fun a w hE hm => ⟨hE.sub ⟨rfl, rfl, rfl, rfl, rfl, rfl, trivial⟩, (hm.pick [0, 1] rfl)⟩)
            · refine o_fad (st_g rfl rfl) rfl rfl fld71_1 rfl ?_
              refine o_ldc (st_g rfl rfl) (v := (.int .i64 e69.xHi)) 0 rfl rfl rfl ty3 rfl ?_
              refine o_mv (st_g rfl rfl) rfl rfl ?_
              refine o_gtr (st_g rfl rfl) rfl rfl rfl ?_
              refine o_pickF st rfl rfl rfl ?_
              refine c_nil ?_
              exact l_join (decide (top_1 < e69.xHi)) (fun a w hE hm => ⟨hE.sub ⟨rfl, rfl, rfl, rfl, rfl, rfl, trivial⟩, (hm.pick [0, 1] rfl)⟩)
        · rintro t134 a w ⟨hE, hm⟩ h
          refine nx_of hE hm h ?_
          clear hE hm h
          refine c_cond rfl ?_ ?_
          · refine c_seq ?_
            refine c_region ?_
            refine o_as st rfl rfl ?_
            refine c_nil ?_
            refine l_then ?_
            refine c_ret ?_
            refine l_ret ?_
            refine b_ret ?_
            refine l_ret ?_
            refine l_ret ?_
            refine b_ret ?_
            refine l_ret ?_
            exact l_end1 Tryd.results98 false () (rv_t rfl) (fun _ _ => NewCh.nil _ _ _ _)
          · refine c_skip ?_
            refine l_then ?_
            refine c_region ?_
            refine o_fad st rfl rfl fld71_1 rfl ?_
            refine o_ldc st (v := (.int .i64 e69.xHi)) 0 rfl rfl rfl ty3 rfl ?_
            refine o_as st rfl rfl ?_
            refine c_nil ?_
            refine b_norm ?_
            refine l_then ?_
            refine c_region ?_
            refine o_add st rfl rfl rfl ?_; intro t136
            refine o_mv st rfl rfl ?_
            refine c_nil ?_
            exact l_join (e69.xHi, t136) (fun a w hE hm => ⟨hE.sub ⟨rfl, rfl, rfl, rfl, rfl, trivial⟩, (hm.pick [1] rfl)⟩)
      · refine c_exit ?_
        refine l_exit ?_
        refine l_exit ?_
        refine b_exit ?_
        refine l_then ?_
        refine c_seq ?_
        refine c_region ?_
        refine o_as st rfl rfl ?_
        refine c_nil ?_
        refine l_then ?_
        refine c_ret ?_
        exact l_end1 Tryd.results98 true () (rv_t rfl) (fun _ _ => NewCh.nil _ _ _ _)

set_option maxRecDepth 100000 in
set_option maxHeartbeats 8000000 in
theorem w_impl_BoxValid {w0 : World} {F : Nat → Prop} {v1 : Value} {b_0 : GBox} {κ : Bool → Prop} (hF : ∀ b, F b → b < w0.heap.size ∧ ¬ feet [] b) (hv1 : Sl (elSl elGSpan) F w0 v1 b_0.xSides) (hgl0 : Sl elGFieldShape F w0 (.slice (some ⟨0, 0, none⟩) 4 4) gl_impl_fieldShapes) (h : L_impl_BoxValid b_0 κ) :
    Calls Tryd.prog 68 #[(.agg #[v1])] w0 (Ret [] F w0 κ (fun (r : Bool) (u : Unit) => (.bool r)) (fun (r : Bool) (u : Unit) => [])) := by
  refine enterS (args := [(.agg #[v1])]) [] hF (Given.nil _ _) Tryd.func68 rfl Tryd.ntmps68 rfl h ?_
  clear h hF
  refine c_seq ?_
  refine c_region ?_
  obtain ⟨a3, l4, q5, hs_⟩ := sl_val hv1; subst hs_
  refine stw (o_box rfl rfl [(.slice a3 l4 q5)] rfl ?_); intro b6
  refine o_as st rfl rfl ?_
  refine c_nil ?_
  refine l_then ?_
  refine c_seq ?_
  refine c_seq ?_
  refine c_region ?_
  refine o_fad st rfl rfl fld85_0 rfl ?_
  refine o_ldc st (v := (.slice a3 l4 q5)) 0 rfl rfl rfl ty83 rfl ?_
  refine o_len st el83 1 rfl (reads_snap hv1) rfl rfl ?_
  refine o_neq st und3 rfl rfl rfl ?_
  refine c_nil ?_
  refine l_then ?_
  refine c_cond rfl ?_ ?_
  · refine c_seq ?_
    refine c_region ?_
    refine o_as st rfl rfl ?_
    refine c_nil ?_
    refine l_then ?_
    refine c_ret ?_
    refine l_ret ?_
    exact l_end1 Tryd.results68 false () (rv_t rfl) (fun _ _ => NewCh.nil _ _ _ _)
  · refine c_skip ?_
    refine l_then ?_
    refine c_seq ?_
    refine c_seq ?_
    refine c_region ?_
    refine o_fad st rfl rfl fld85_0 rfl ?_
    refine o_ldc st (v := (.slice a3 l4 q5)) 0 rfl rfl rfl ty83 rfl ?_
    refine o_len st el83 1 rfl (reads_snap hv1) rfl rfl ?_
    refine o_mv st rfl rfl ?_
    refine c_nil ?_
    refine l_then ?_
    refine c_block ?_
    refine c_loop (σ := Int) (fun (t8 : Int) (a : Act) (w : World) => Has 23 [(10, (.slice a3 l4 q5)), (11, (.int .i64 (b_0.xSides.length : Int))), (12, (.int .i64 t8))] a ∧ Mem (gB F [] w0) (feet []) w0 [snapCh w0 F] w) (fun a w hE hm => ⟨hE.sub ⟨rfl, rfl, rfl, trivial⟩, (hm.pick [1] rfl)⟩) ?_
    rintro nx9 t8 a w ⟨hE, hm⟩ h
    refine nx_of hE hm h ?_
    clear hE hm h
    refine c_seq ?_
    refine c_region ?_
    refine o_lss st rfl rfl rfl ?_
    refine c_nil ?_
    refine l_then ?_
    refine c_seq ?_
    refine c_cond rfl ?_ ?_
    · refine c_skip ?_
      refine l_then ?_
      refine c_seq ?_
      refine c_block ?_
      refine c_seq ?_
      refine c_region ?_
      refine o_mv st rfl rfl ?_
      refine o_idx st 0 rfl (reads_snap hv1) rfl rfl rfl el83 ?_; intro e10 h11
      obtain ⟨_, ⟨v13, rfl, sl14⟩, rw12⟩ := sl_open hv1 h11
      refine o_ldR st (u := v13) 0 rfl rw12 rfl rfl ty72 rfl ?_
      refine o_as st rfl rfl ?_
      refine o_as st rfl rfl ?_
      refine c_nil ?_
      refine l_then ?_
      refine c_seq ?_
      refine c_region ?_
      refine o_mv st rfl rfl ?_
      refine o_mv st rfl rfl ?_
      refine stw (o_callP (vs := [(.int .i64 t8)]) Tryd.call91 rfl rfl (by intro w m h; exact (w_impl_FieldTop (F := allB [] w) (n_0 := t8) allB_ok (m.rd0 0 rfl (reads_snap hgl0)) h).mono (fun _ _ k => ret_free (fun r u => fr_nil) k)) ?_); rintro r16 _
      refine stw (o_callP (vs := [v13, (.int .i64 r16)]) Tryd.call98 rfl rfl (by intro w m h; exact (w_impl_SpansValid (F := allB [] w) (list_0 := e10) (top_1 := r16) allB_ok (m.rd0 0 rfl (reads_snap sl14)) h).mono (fun _ _ k => ret_free (fun r u => fr_nil) k)) ?_); rintro r17 _
      refine o_not st rfl rfl ?_
      refine c_nil ?_
      refine l_then ?_
      refine c_cond rfl ?_ ?_
      · refine c_seq ?_
        refine c_region ?_
        refine o_as st rfl rfl ?_
        refine c_nil ?_
        refine l_then ?_
        refine c_ret ?_
        refine b_ret ?_
        refine l_ret ?_
        refine l_ret ?_
        refine b_ret ?_
        refine l_ret ?_
        exact l_end1 Tryd.results68 false () (rv_t rfl) (fun _ _ => NewCh.nil _ _ _ _)
      · refine c_skip ?_
        refine b_norm ?_
        refine l_then ?_
        refine c_region ?_
        refine o_add st rfl rfl rfl ?_; intro t18
        refine o_mv st rfl rfl ?_
        refine c_nil ?_
        exact l_join t18 (fun a w hE hm => ⟨hE.sub ⟨rfl, rfl, rfl, trivial⟩, (hm.pick [0] rfl)⟩)
    · refine c_exit ?_
      refine l_exit ?_
      refine l_exit ?_
      refine b_exit ?_
      refine l_then ?_
      refine c_seq ?_
      refine c_region ?_
      refine o_as st rfl rfl ?_
      refine c_nil ?_
      refine l_then ?_
      refine c_ret ?_
      exact l_end1 Tryd.results68 true () (rv_t rfl) (fun _ _ => NewCh.nil _ _ _ _)



end
section
open Go.RowKit
set_option maxRecDepth 100000 in
set_option maxHeartbeats 8000000 in
theorem w_impl_FlatsValid {w0 : World} {F : Nat → Prop} {v1 : Value} {list_0 : (List GFlat)} {κ : Bool → Prop} (hF : ∀ b, F b → b < w0.heap.size ∧ ¬ feet [] b) (hv1 : Sl elGFlat F w0 v1 list_0) (hgl0 : Sl elGFieldShape F w0 (.slice (some ⟨0, 0, none⟩) 4 4) gl_impl_fieldShapes) (h : L_impl_FlatsValid list_0 κ) :
    Calls Tryd.prog 32 #[v1] w0 (Ret [] F w0 κ (fun (r : Bool) (u : Unit) => (.bool r)) (fun (r : Bool) (u : Unit) => [])) := by
  refine enterS (args := [v1]) [] hF (Given.nil _ _) Tryd.func32 rfl Tryd.ntmps32 rfl h ?_
  clear h hF
  refine c_seq ?_
  refine c_region ?_
  refine o_as st rfl rfl ?_
  refine c_nil ?_
  refine l_then ?_
  refine c_seq ?_
  refine c_seq ?_
  refine c_region ?_
  refine o_mv st rfl rfl ?_
  refine o_len st el23 0 rfl (reads_snap hv1) rfl rfl ?_
  refine o_gtr st rfl rfl rfl ?_
  refine c_nil ?_
  refine l_then ?_
  refine c_cond rfl ?_ ?_
  · refine c_seq ?_
    refine c_region ?_
    refine o_as st rfl rfl ?_
    refine c_nil ?_
    refine l_then ?_
    refine c_ret ?_
    refine l_ret ?_
    exact l_end1 Tryd.results32 false () (rv_t rfl) (fun _ _ => NewCh.nil _ _ _ _)
  · refine c_skip ?_
    refine l_then ?_
    refine c_seq ?_
    refine c_seq ?_
    refine c_region ?_
    refine o_mv st rfl rfl ?_
    refine o_len st el23 0 rfl (reads_snap hv1) rfl rfl ?_
    refine o_mv st rfl rfl ?_
    refine c_nil ?_
    refine l_then ?_
    refine c_block ?_
    refine c_loop (σ := Int) (fun (t3 : Int) (a : Act) (w : World) => Has 19 [(8, v1), (9, (.int .i64 (list_0.length : Int))), (10, (.int .i64 t3))] a ∧ Mem (gB F [] w0) (feet []) w0 [snapCh w0 F] w) (fun a w hE hm => ⟨hE.sub ⟨rfl, rfl, rfl, trivial⟩, (hm.pick [0] rfl)⟩) ?_
    rintro nx4 t3 a w ⟨hE, hm⟩ h
    refine nx_of hE hm h ?_
    clear hE hm h
    refine c_seq ?_
    refine c_region ?_
    refine o_lss st rfl rfl rfl ?_
    refine c_nil ?_
    refine l_then ?_
    refine c_seq ?_
    refine c_cond rfl ?_ ?_
    · refine c_skip ?_
      refine l_then ?_
      refine c_seq ?_
      refine c_block ?_
      refine c_seq ?_
      refine c_region ?_
      refine o_idx st 0 rfl (reads_snap hv1) rfl rfl rfl el23 ?_; intro e5 h6
      obtain ⟨_, ⟨v8, rfl, sl9⟩, rw7⟩ := sl_open hv1 h6
      refine o_ldR st (u := (.agg #[v8, (.bool e5.xAccept)])) 0 rfl rw7 rfl rfl ty87 rfl ?_
      refine stw (o_alloc rfl [(.slice none 0 0), (.bool false)] zero87 ?_); intro b11
      obtain ⟨a13, l14, q15, hs_⟩ := sl_val sl9; subst hs_
      refine stw (o_stc (cs' := [(.slice a13 l14 q15), (.bool e5.xAccept)]) 0 rfl rfl rfl ty87 rfl rfl rfl rfl ?_)
      refine c_nil ?_
      refine l_then ?_
      refine c_seq ?_
      refine c_region ?_
      refine o_fad st rfl rfl fld87_0 rfl ?_
      refine o_ldc st (v := (.agg #[(.slice a13 l14 q15)])) 0 rfl rfl rfl ty85 rfl ?_
      refine stw (o_callP (vs := [(.agg #[(.slice a13 l14 q15)])]) Tryd.call68 rfl rfl (by intro w m h; exact (w_impl_BoxValid (F := allB [] w) (b_0 := e5.xWhere) allB_ok (m.rd0 1 rfl (reads_snap sl9)) (m.rd0 1 rfl (reads_snap hgl0)) h).mono (fun _ _ k => ret_free (fun r u => fr_nil) k)) ?_); rintro r16 _
      refine o_not st rfl rfl ?_
      refine c_nil ?_
      refine l_then ?_
      refine c_cond rfl ?_ ?_
      · refine c_seq ?_
        refine c_region ?_
        refine o_as st rfl rfl ?_
        refine c_nil ?_
        refine l_then ?_
        refine c_ret ?_
        refine b_ret ?_
        refine l_ret ?_
        refine l_ret ?_
        refine b_ret ?_
        refine l_ret ?_
        exact l_end1 Tryd.results32 false () (rv_t rfl) (fun _ _ => NewCh.nil _ _ _ _)
      · refine c_skip ?_
        refine b_norm ?_
        refine l_then ?_
        refine c_region ?_
        refine o_add st rfl rfl rfl ?_; intro t17
        refine o_mv st rfl rfl ?_
        refine c_nil ?_
        exact l_join t17 (fun a w hE hm => ⟨hE.sub ⟨rfl, rfl, rfl, trivial⟩, (hm.pick [1] rfl)⟩)
    · refine c_exit ?_
      refine l_exit ?_
      refine l_exit ?_
      refine b_exit ?_
      refine l_then ?_
      refine c_seq ?_
      refine c_region ?_
      refine o_as st rfl rfl ?_
      refine c_nil ?_
      refine l_then ?_
      refine c_ret ?_
      exact l_end1 Tryd.results32 true () (rv_t rfl) (fun _ _ => NewCh.nil _ _ _ _)

set_option maxRecDepth 100000 in
set_option maxHeartbeats 8000000 in
theorem w_impl_Packet_fields {w0 : World} {F : Nat → Prop} {p_0 : GPacket} {κ : A4Int → Prop} (hF : ∀ b, F b → b < w0.heap.size ∧ ¬ feet [] b) (h : L_impl_Packet_fields p_0 κ) :
    Calls Tryd.prog 90 #[(.agg #[(.int .i64 p_0.xFrom), (.int .i64 p_0.xTo), (.int .i64 p_0.xPort), (.int .i64 p_0.xProto)])] w0 (Ret [] F w0 κ (fun (r : A4Int) (u : Unit) => (.agg #[(.int .i64 r.x0), (.int .i64 r.x1), (.int .i64 r.x2), (.int .i64 r.x3)])) (fun (r : A4Int) (u : Unit) => [])) := by
  refine enter0 (args := [(.agg #[(.int .i64 p_0.xFrom), (.int .i64 p_0.xTo), (.int .i64 p_0.xPort), (.int .i64 p_0.xProto)])]) [] hF (Given.nil _ _) Tryd.func90 rfl Tryd.ntmps90 rfl h ?_
  clear h hF
  refine c_seq ?_
  refine c_region ?_
  refine stw (o_box rfl rfl [(.int .i64 p_0.xFrom), (.int .i64 p_0.xTo), (.int .i64 p_0.xPort), (.int .i64 p_0.xProto)] rfl ?_); intro b1
  refine stw (o_allocA (El' := elInt) (z := (0 : Int)) (len := 4) (zs := [(.int .i64 0)]) (fun F w => (flelInt _ _ _ _).2 rfl) rfl zero141 rfl rfl ?_); intro b3
  refine c_nil ?_
  refine l_then ?_
  refine c_seq ?_
  refine c_region ?_
  refine o_fad st rfl rfl fld49_0 rfl ?_
  refine o_ldc st (v := (.int .i64 p_0.xFrom)) 1 rfl rfl rfl ty3 rfl ?_
  refine o_fad st rfl rfl fld49_1 rfl ?_
  refine o_ldc st (v := (.int .i64 p_0.xTo)) 1 rfl rfl rfl ty3 rfl ?_
  refine o_fad st rfl rfl fld49_2 rfl ?_
  refine o_ldc st (v := (.int .i64 p_0.xPort)) 1 rfl rfl rfl ty3 rfl ?_
  refine o_fad st rfl rfl fld49_3 rfl ?_
  refine o_ldc st (v := (.int .i64 p_0.xProto)) 1 rfl rfl rfl ty3 rfl ?_
  refine o_bldA st (qs := [(0, (.int .i64 p_0.xFrom)), (1, (.int .i64 p_0.xTo)), (2, (.int .i64 p_0.xPort)), (3, (.int .i64 p_0.xProto))]) (cells := [(.int .i64 p_0.xFrom), (.int .i64 p_0.xTo), (.int .i64 p_0.xPort), (.int .i64 p_0.xProto)]) (by intro ρ h; simp only [List.map_toArray, List.map_cons, List.map_nil, h (.tmp 4) _ rfl, h (.tmp 6) _ rfl, h (.tmp 8) _ rfl, h (.tmp 10) _ rfl]) rfl bld141 rfl ?_
  refine stw (o_stA (El' := elInt) (len := 4) 0 rfl ([p_0.xFrom, p_0.xTo, p_0.xPort, p_0.xProto]) ([[(.int .i64 p_0.xFrom)], [(.int .i64 p_0.xTo)], [(.int .i64 p_0.xPort)], [(.int .i64 p_0.xProto)]]) (fun w m => ⟨(flelInt _ _ _ _).2 rfl, (flelInt _ _ _ _).2 rfl, (flelInt _ _ _ _).2 rfl, (flelInt _ _ _ _).2 rfl, trivial⟩) rfl rfl rfl rfl rfl rfl ty141 rfl rfl ?_)
  refine c_nil ?_
  refine l_then ?_
  refine c_ret ?_
  refine nx_unarr 0 rfl rfl rfl (by decide) ?_
  rintro wr6 ff7 _ hrows_; obtain ⟨rfl⟩ := rows_f4 flelInt hrows_
  exact l_end1 Tryd.results90 (A4Int.mk p_0.xFrom p_0.xTo p_0.xPort p_0.xProto) () (rv_c 1 rfl rfl ty141 rfl) (fun _ _ => NewCh.nil _ _ _ _)

set_option maxRecDepth 100000 in
set_option maxHeartbeats 8000000 in
theorem w_impl_PacketValid {w0 : World} {F : Nat → Prop} {p_0 : GPacket} {κ : Bool → Prop} (hF : ∀ b, F b → b < w0.heap.size ∧ ¬ feet [] b) (hgl0 : Sl elGFieldShape F w0 (.slice (some ⟨0, 0, none⟩) 4 4) gl_impl_fieldShapes) (h : L_impl_PacketValid p_0 κ) :
    Calls Tryd.prog 58 #[(.agg #[(.int .i64 p_0.xFrom), (.int .i64 p_0.xTo), (.int .i64 p_0.xPort), (.int .i64 p_0.xProto)])] w0 (Ret [] F w0 κ (fun (r : Bool) (u : Unit) => (.bool r)) (fun (r : Bool) (u : Unit) => [])) := by
  refine enterS (args := [(.agg #[(.int .i64 p_0.xFrom), (.int .i64 p_0.xTo), (.int .i64 p_0.xPort), (.int .i64 p_0.xProto)])]) [] hF (Given.nil _ _) Tryd.func58 rfl Tryd.ntmps58 rfl h ?_
  clear h hF
  refine c_seq ?_
  refine c_region ?_
  refine stw (o_box rfl rfl [(.int .i64 p_0.xFrom), (.int .i64 p_0.xTo), (.int .i64 p_0.xPort), (.int .i64 p_0.xProto)] rfl ?_); intro b1
  refine o_as st rfl rfl ?_
  refine c_nil ?_
  refine l_then ?_
  refine c_seq ?_
  refine c_seq ?_
  refine c_region ?_
  refine o_ldc st (v := (.agg #[(.int .i64 p_0.xFrom), (.int .i64 p_0.xTo), (.int .i64 p_0.xPort), (.int .i64 p_0.xProto)])) 0 rfl rfl rfl ty49 rfl ?_
  refine stw (o_callP (vs := [(.agg #[(.int .i64 p_0.xFrom), (.int .i64 p_0.xTo), (.int .i64 p_0.xPort), (.int .i64 p_0.xProto)])]) Tryd.call90 rfl rfl (by intro w m h; exact (w_impl_Packet_fields (F := allB [] w) (p_0 := p_0) allB_ok h).mono (fun _ _ k => ret_free (fun r u => fr_nil) k)) ?_); rintro r3 _
  refine o_mv st rfl rfl ?_
  refine c_nil ?_
  refine l_then ?_
  refine c_block ?_
  refine c_loop (σ := Int) (fun (t4 : Int) (a : Act) (w : World) => Has 20 [(6, (.agg #[(.int .i64 r3.x0), (.int .i64 r3.x1), (.int .i64 r3.x2), (.int .i64 r3.x3)])), (7, (.int .i64 t4))] a ∧ Mem (gB F [] w0) (feet []) w0 [snapCh w0 F] w) (fun a w hE hm => ⟨hE.sub ⟨rfl, rfl, trivial⟩, (hm.pick [1] rfl)⟩) ?_
  rintro nx5 t4 a w ⟨hE, hm⟩ h
  refine nx_of hE hm h ?_
  clear hE hm h
  refine c_seq ?_
  refine c_region ?_
  refine o_lss st rfl rfl rfl ?_
  refine c_nil ?_
  refine l_then ?_
  refine c_seq ?_
  refine c_cond rfl ?_ ?_
  · refine c_skip ?_
    refine l_then ?_
    refine c_seq ?_
    refine c_block ?_
    refine c_seq ?_
    refine c_region ?_
    refine o_mv st rfl rfl ?_
    refine o_ixv st (enc := encInt) (zs := [r3.x0, r3.x1, r3.x2, r3.x3]) (u := fun (e6 : Int) => (.int .i64 e6)) rfl rfl rfl arr141 rfl rfl (fun _ => rfl) (fun _ => rfl) ?_; intro e6
    refine o_as st rfl rfl ?_
    refine o_as st rfl rfl ?_
    refine c_nil ?_
    refine l_then ?_
    refine c_join (σ := Bool) (fun (t68 : Bool) (a : Act) (w : World) => Has 20 [(6, (.agg #[(.int .i64 r3.x0), (.int .i64 r3.x1), (.int .i64 r3.x2), (.int .i64 r3.x3)])), (7, (.int .i64 t4)), (18, (.bool t68))] a ∧ Mem (gB F [] w0) (feet []) w0 [snapCh w0 F] w) ?_ ?_
    · intro k69
      refine c_region ?_
      refine o_mv st rfl rfl ?_
      refine o_lss st rfl rfl rfl ?_
      refine o_mv st rfl rfl ?_
      refine st_sp (dj := 13) rfl ?_ ?_
      · refine st_s rfl rfl rfl rfl ?_
        refine st_s rfl rfl rfl rfl ?_
        refine st_s rfl rfl rfl rfl ?_
        refine st_s rfl rfl rfl rfl ?_
        refine o_pickT st rfl rfl rfl ?_
        refine c_nil ?_
        exact l_join true (fun a w hE hm => ⟨hE.sub ⟨rfl, rfl, rfl, trivial⟩, (hm.pick [0] rfl)⟩)
      · refine o_mv (st_g rfl rfl) rfl rfl ?_
        refine o_mv (st_g rfl rfl) rfl rfl ?_
        refine st_gw rfl rfl (o_callP (vs := [(.int .i64 t4)]) Tryd.call91 rfl rfl (by intro w m h; exact (w_impl_FieldTop (F := allB [] w) (n_0 := t4) allB_ok (m.rd0 0 rfl (reads_snap hgl0)) h).mono (fun _ _ k => ret_free (fun r u => fr_nil) k)) ?_); rintro r7 _
        refine o_gtr (st_g rfl rfl) rfl rfl rfl ?_
        refine o_pickF st rfl rfl rfl ?_
        refine c_nil ?_
        exact l_join (decide (r7 < e6)) (fun a w hE hm => ⟨hE.sub ⟨rfl, rfl, rfl, trivial⟩, (hm.pick [0] rfl)⟩)
    · rintro t68 a w ⟨hE, hm⟩ h
      refine nx_of hE hm h ?_
      clear hE hm h
      refine c_cond rfl ?_ ?_
      · refine c_seq ?_
        refine c_region ?_
        refine o_as st rfl rfl ?_
        refine c_nil ?_
        refine l_then ?_
        refine c_ret ?_
        refine b_ret ?_
        refine l_ret ?_
        refine l_ret ?_
        refine b_ret ?_
        refine l_ret ?_
        exact l_end1 Tryd.results58 false () (rv_t rfl) (fun _ _ => NewCh.nil _ _ _ _)
      · refine c_skip ?_
        refine b_norm ?_
        refine l_then ?_
        refine c_region ?_
        refine o_add st rfl rfl rfl ?_; intro t70
        refine o_mv st rfl rfl ?_
        refine c_nil ?_
        exact l_join t70 (fun a w hE hm => ⟨hE.sub ⟨rfl, rfl, trivial⟩, (hm.pick [0] rfl)⟩)
  · refine c_exit ?_
    refine l_exit ?_
    refine l_exit ?_
    refine b_exit ?_
    refine l_then ?_
    refine c_seq ?_
    refine c_region ?_
    refine o_as st rfl rfl ?_
    refine c_nil ?_
    refine l_then ?_
    refine c_ret ?_
    exact l_end1 Tryd.results58 true () (rv_t rfl) (fun _ _ => NewCh.nil _ _ _ _)

set_option maxRecDepth 100000 in
set_option maxHeartbeats 8000000 in
theorem w_impl_packetsValid {w0 : World} {F : Nat → Prop} {v1 : Value} {list_0 : (List GPacket)} {κ : Bool → Prop} (hF : ∀ b, F b → b < w0.heap.size ∧ ¬ feet [] b) (hv1 : Sl elGPacket F w0 v1 list_0) (hgl0 : Sl elGFieldShape F w0 (.slice (some ⟨0, 0, none⟩) 4 4) gl_impl_fieldShapes) (h : L_impl_packetsValid list_0 κ) :
    Calls Tryd.prog 33 #[v1] w0 (Ret [] F w0 κ (fun (r : Bool) (u : Unit) => (.bool r)) (fun (r : Bool) (u : Unit) => [])) := by
  refine enterS (args := [v1]) [] hF (Given.nil _ _) Tryd.func33 rfl Tryd.ntmps33 rfl h ?_
  clear h hF
  refine c_seq ?_
  refine c_region ?_
  refine o_as st rfl rfl ?_
  refine c_nil ?_
  refine l_then ?_
  refine c_seq ?_
  refine c_seq ?_
  refine c_region ?_
  refine o_mv st rfl rfl ?_
  refine o_len st el24 0 rfl (reads_snap hv1) rfl rfl ?_
  refine o_gtr st rfl rfl rfl ?_
  refine c_nil ?_
  refine l_then ?_
  refine c_cond rfl ?_ ?_
  · refine c_seq ?_
    refine c_region ?_
    refine o_as st rfl rfl ?_
    refine c_nil ?_
    refine l_then ?_
    refine c_ret ?_
    refine l_ret ?_
    exact l_end1 Tryd.results33 false () (rv_t rfl) (fun _ _ => NewCh.nil _ _ _ _)
  · refine c_skip ?_
    refine l_then ?_
    refine c_seq ?_
    refine c_seq ?_
    refine c_region ?_
    refine o_mv st rfl rfl ?_
    refine o_len st el24 0 rfl (reads_snap hv1) rfl rfl ?_
    refine o_mv st rfl rfl ?_
    refine c_nil ?_
    refine l_then ?_
    refine c_block ?_
    refine c_loop (σ := Int) (fun (t3 : Int) (a : Act) (w : World) => Has 18 [(8, v1), (9, (.int .i64 (list_0.length : Int))), (10, (.int .i64 t3))] a ∧ Mem (gB F [] w0) (feet []) w0 [snapCh w0 F] w) (fun a w hE hm => ⟨hE.sub ⟨rfl, rfl, rfl, trivial⟩, (hm.pick [0] rfl)⟩) ?_
    rintro nx4 t3 a w ⟨hE, hm⟩ h
    refine nx_of hE hm h ?_
    clear hE hm h
    refine c_seq ?_
    refine c_region ?_
    refine o_lss st rfl rfl rfl ?_
    refine c_nil ?_
    refine l_then ?_
    refine c_seq ?_
    refine c_cond rfl ?_ ?_
    · refine c_skip ?_
      refine l_then ?_
      refine c_seq ?_
      refine c_block ?_
      refine c_seq ?_
      refine c_region ?_
      refine o_idx st 0 rfl (reads_snap hv1) rfl rfl rfl el24 ?_; intro e5 h6
      refine o_lds st (enc := encGPacket) (u := (.agg #[(.int .i64 e5.xFrom), (.int .i64 e5.xTo), (.int .i64 e5.xPort), (.int .i64 e5.xProto)])) 0 rfl (reads_snap hv1) flelGPacket rfl h6 rfl rfl ty49 rfl ?_
      refine stw (o_alloc rfl [(.int .i64 0), (.int .i64 0), (.int .i64 0), (.int .i64 0)] zero49 ?_); intro b7
      refine stw (o_stc (cs' := [(.int .i64 e5.xFrom), (.int .i64 e5.xTo), (.int .i64 e5.xPort), (.int .i64 e5.xProto)]) 0 rfl rfl rfl ty49 rfl rfl rfl rfl ?_)
      refine c_nil ?_
      refine l_then ?_
      refine c_seq ?_
      refine c_region ?_
      refine o_ldc st (v := (.agg #[(.int .i64 e5.xFrom), (.int .i64 e5.xTo), (.int .i64 e5.xPort), (.int .i64 e5.xProto)])) 0 rfl rfl rfl ty49 rfl ?_
      refine stw (o_callP (vs := [(.agg #[(.int .i64 e5.xFrom), (.int .i64 e5.xTo), (.int .i64 e5.xPort), (.int .i64 e5.xProto)])]) Tryd.call58 rfl rfl (by intro w m h; exact (w_impl_PacketValid (F := allB [] w) (p_0 := e5) allB_ok (m.rd0 1 rfl (reads_snap hgl0)) h).mono (fun _ _ k => ret_free (fun r u => fr_nil) k)) ?_); rintro r9 _
      refine o_not st rfl rfl ?_
      refine c_nil ?_
      refine l_then ?_
      refine c_cond rfl ?_ ?_
      · refine c_seq ?_
        refine c_region ?_
        refine o_as st rfl rfl ?_
        refine c_nil ?_
        refine l_then ?_
        refine c_ret ?_
        refine b_ret ?_
        refine l_ret ?_
        refine l_ret ?_
        refine b_ret ?_
        refine l_ret ?_
        exact l_end1 Tryd.results33 false () (rv_t rfl) (fun _ _ => NewCh.nil _ _ _ _)
      · refine c_skip ?_
        refine b_norm ?_
        refine l_then ?_
        refine c_region ?_
        refine o_add st rfl rfl rfl ?_; intro t10
        refine o_mv st rfl rfl ?_
        refine c_nil ?_
        exact l_join t10 (fun a w hE hm => ⟨hE.sub ⟨rfl, rfl, rfl, trivial⟩, (hm.pick [1] rfl)⟩)
    · refine c_exit ?_
      refine l_exit ?_
      refine l_exit ?_
      refine b_exit ?_
      refine l_then ?_
      refine c_seq ?_
      refine c_region ?_
      refine o_as st rfl rfl ?_
      refine c_nil ?_
      refine l_then ?_
      refine c_ret ?_
      exact l_end1 Tryd.results33 true () (rv_t rfl) (fun _ _ => NewCh.nil _ _ _ _)

set_option maxRecDepth 100000 in
set_option maxHeartbeats 8000000 in
theorem w_impl_sidesOf {w0 : World} {F : Nat → Prop} {v1 : Value} {b_0 : GBox} {κ : A4ListGSpan → Prop} (hF : ∀ b, F b → b < w0.heap.size ∧ ¬ feet [] b) (hv1 : Sl (elSl elGSpan) F w0 v1 b_0.xSides) (h : L_impl_sidesOf b_0 κ) :
    Calls Tryd.prog 69 #[(.agg #[v1])] w0 (Ret [] F w0 κ (fun (r : A4ListGSpan) (u : Value × Value × Value × Value) => (.agg #[u.1, u.2.1, u.2.2.1, u.2.2.2])) (fun (r : A4ListGSpan) (u : Value × Value × Value × Value) => [roCh elGSpan u.1 r.x0, roCh elGSpan u.2.1 r.x1, roCh elGSpan u.2.2.1 r.x2, roCh elGSpan u.2.2.2 r.x3])) := by
  refine enterS (args := [(.agg #[v1])]) [] hF (Given.nil _ _) Tryd.func69 rfl Tryd.ntmps69 rfl h ?_
  clear h hF
  refine c_seq ?_
  refine c_region ?_
  obtain ⟨a3, l4, q5, hs_⟩ := sl_val hv1; subst hs_
  refine stw (o_box rfl rfl [(.slice a3 l4 q5)] rfl ?_); intro b6
  refine stw (o_allocA (El' := (elSl elGSpan)) (z := ([] : (List GSpan))) (len := 4) (zs := [(.slice none 0 0)]) (fun F w => ⟨_, rfl, Sl.nil ..⟩) rfl zero114 rfl rfl ?_); intro b8
  refine c_nil ?_
  refine l_then ?_
  refine c_seq ?_
  refine c_region ?_
  refine o_fad st rfl rfl fld85_0 rfl ?_
  refine o_ldc st (v := (.slice a3 l4 q5)) 1 rfl rfl rfl ty83 rfl ?_
  refine o_s2a st 2 rfl (reads_snap hv1) rfl rfl arr114 rfl ?_; intro e10 e11 e12 e13 h14; obtain ⟨_, _, _, _, ⟨v15, rfl, sl19⟩, ⟨v16, rfl, sl20⟩, ⟨v17, rfl, sl21⟩, ⟨v18, rfl, sl22⟩, rw23⟩ := sl_open4 hv1 h14
  refine o_ldR st (u := (.agg #[v15, v16, v17, v18])) 2 rfl rw23 rfl rfl ty114 rfl ?_
  obtain ⟨a28, l29, q30, hs_⟩ := sl_val sl19; subst hs_
  obtain ⟨a31, l32, q33, hs_⟩ := sl_val sl20; subst hs_
  obtain ⟨a34, l35, q36, hs_⟩ := sl_val sl21; subst hs_
  obtain ⟨a37, l38, q39, hs_⟩ := sl_val sl22; subst hs_
  refine stw (o_stA (El' := (elSl elGSpan)) (len := 4) 0 rfl ([e10, e11, e12, e13]) ([[(.slice a28 l29 q30)], [(.slice a31 l32 q33)], [(.slice a34 l35 q36)], [(.slice a37 l38 q39)]]) (fun w m => ⟨⟨(.slice a28 l29 q30), rfl, (m.roS 2 rfl sl19)⟩, ⟨(.slice a31 l32 q33), rfl, (m.roS 2 rfl sl20)⟩, ⟨(.slice a34 l35 q36), rfl, (m.roS 2 rfl sl21)⟩, ⟨(.slice a37 l38 q39), rfl, (m.roS 2 rfl sl22)⟩, trivial⟩) rfl rfl rfl rfl rfl rfl ty114 rfl rfl ?_)
  refine c_nil ?_
  refine l_then ?_
  refine c_ret ?_
  refine nx_unarr 0 rfl rfl rfl (by decide) ?_
  rintro wr41 ff42 _ hrows_; obtain ⟨_, _, _, _, rfl, hc0_, hc1_, hc2_, hc3_⟩ := rows_l4 hrows_; obtain ⟨v44, rfl, sl45⟩ := hc0_; obtain ⟨v47, rfl, sl48⟩ := hc1_; obtain ⟨v50, rfl, sl51⟩ := hc2_; obtain ⟨v53, rfl, sl54⟩ := hc3_
  refine nx_note 0 rfl sl45 ?_
  refine nx_note 1 rfl sl48 ?_
  refine nx_note 2 rfl sl51 ?_
  refine nx_note 3 rfl sl54 ?_
  exact l_end1 Tryd.results69 (A4ListGSpan.mk e10 e11 e12 e13) (v44, v47, v50, v53) (rv_c 5 rfl rfl ty114 rfl) (fun w m => NewCh.ofB m [3, 2, 1, 0] rfl)

set_option maxRecDepth 100000 in
set_option maxHeartbeats 8000000 in
theorem w_impl_flatsOf {w0 : World} {F : Nat → Prop} {v1 : Value} {list_0 : (List GFlat)} {κ : (List GIflat) → Prop} (hF : ∀ b, F b → b < w0.heap.size ∧ ¬ feet [] b) (hv1 : Sl elGFlat F w0 v1 list_0) (h : L_impl_flatsOf list_0 κ) :
    Calls Tryd.prog 34 #[v1] w0 (Ret [] F w0 κ (fun (r : (List GIflat)) (u : Value) => u) (fun (r : (List GIflat)) (u : Value) => [ownCh elGIflat 117 u r])) := by
  refine enterS (args := [v1]) [] hF (Given.nil _ _) Tryd.func34 rfl Tryd.ntmps34 rfl h ?_
  clear h hF
  refine c_seq ?_
  refine c_region ?_
  refine stw (o_asn elGIflat 117 rfl rfl ?_)
  refine c_nil ?_
  refine l_then ?_
  refine c_seq ?_
  refine c_region ?_
  refine o_mv st rfl rfl ?_
  refine o_len st el23 1 rfl (reads_snap hv1) rfl rfl ?_
  refine stw (o_makeN (El' := elGIflat) (z := (GIflat.mk (A4ListGSpan.mk ([]) ([]) ([]) ([])) false)) (fun F w => ⟨⟨_, _, _, _⟩, rfl, ⟨Sl.nil .., Sl.nil .., Sl.nil .., Sl.nil ..⟩⟩) rfl rfl rfl el64 rfl zero117 rfl ?_); intro v4 xs5
  refine o_as st rfl rfl ?_
  refine c_nil ?_
  refine l_then ?_
  refine c_seq ?_
  refine c_seq ?_
  refine c_region ?_
  refine o_mv st rfl rfl ?_
  refine o_len st el23 2 rfl (reads_snap hv1) rfl rfl ?_
  refine o_mv st rfl rfl ?_
  refine c_nil ?_
  refine l_then ?_
  refine c_block ?_
  refine c_loop (σ := ((List GIflat) × Int)) (fun ((xs8, t11) : ((List GIflat) × Int)) (a : Act) (w : World) => ∃ (v7 : Value), Has 26 [(3, v7), (9, v1), (10, (.int .i64 (list_0.length : Int))), (11, (.int .i64 t11))] a ∧ Mem (gB F [] w0) (feet []) w0 [snapCh w0 F, ownCh elGIflat 117 v7 xs8] w) (fun a w hE hm => ⟨v4, hE.sub ⟨rfl, rfl, rfl, rfl, trivial⟩, (hm.pick [2, 0] rfl)⟩) ?_
  rintro nx12 ⟨xs8, t11⟩ a w ⟨v7, hE, hm⟩ h
  refine nx_of hE hm h ?_
  clear hE hm h
  refine c_seq ?_
  refine c_region ?_
  refine o_lss st rfl rfl rfl ?_
  refine c_nil ?_
  refine l_then ?_
  refine c_seq ?_
  refine c_cond rfl ?_ ?_
  · refine c_skip ?_
    refine l_then ?_
    refine c_seq ?_
    refine c_block ?_
    refine c_seq ?_
    refine c_region ?_
    refine o_idx st 0 rfl (reads_snap hv1) rfl rfl rfl el23 ?_; intro e13 h14
    obtain ⟨_, ⟨v16, rfl, sl17⟩, rw15⟩ := sl_open hv1 h14
    refine o_ldR st (u := (.agg #[v16, (.bool e13.xAccept)])) 0 rfl rw15 rfl rfl ty87 rfl ?_
    refine stw (o_alloc rfl [(.slice none 0 0), (.bool false)] zero87 ?_); intro b19
    obtain ⟨a21, l22, q23, hs_⟩ := sl_val sl17; subst hs_
    refine stw (o_stc (cs' := [(.slice a21 l22 q23), (.bool e13.xAccept)]) 0 rfl rfl rfl ty87 rfl rfl rfl rfl ?_)
    refine c_nil ?_
    refine l_then ?_
    refine c_draw mixed 10 rfl [cellCh b19 [(.slice a21 l22 q23), (.bool e13.xAccept)] 87, snapCh w0 F] ?_
    refine o_mv (dt 0 (fun w m => m.pick [0, 1] rfl)) rfl rfl ?_
    refine o_fad (dt 1 (fun w m => m.pick [0, 1] rfl)) rfl rfl fld87_0 rfl ?_
    refine o_ldc (dt 2 (fun w m => m.pick [0, 1] rfl)) (v := (.agg #[(.slice a21 l22 q23)])) 0 rfl rfl rfl ty85 rfl ?_
    refine o_fad (dt 4 (fun w m => m.pick [0, 1] rfl)) rfl rfl fld87_1 rfl ?_
    refine o_ldc (dt 5 (fun w m => m.pick [0, 1] rfl)) (v := (.bool e13.xAccept)) 0 rfl rfl rfl ty4 rfl ?_
    refine d_one (i := 3) rfl (by kernel_rfl) (o_callP (vs := [(.agg #[(.slice a21 l22 q23)])]) Tryd.call69 rfl rfl (by intro w m h; exact w_impl_sidesOf (b_0 := e13.xWhere) fz_ok0 (m.roS 1 rfl sl17) h) ?_); rintro r24 ⟨v25, v27, v29, v31⟩
    refine d_and (fun w m => m.pick [4, 5] rfl) ?_
    refine nx_ro 0 rfl ?_; rintro a33 l34 q35 rfl
    refine nx_ro 1 rfl ?_; rintro a36 l37 q38 rfl
    refine nx_ro 2 rfl ?_; rintro a39 l40 q41 rfl
    refine nx_ro 3 rfl ?_; rintro a42 l43 q44 rfl
    refine o_bld (dt 6 (fun w m => m.pick [4, 5] rfl)) (qs := [(0, (.agg #[(.slice a33 l34 q35), (.slice a36 l37 q38), (.slice a39 l40 q41), (.slice a42 l43 q44)])), (1, (.bool e13.xAccept))]) (cells := [(.slice a33 l34 q35), (.slice a36 l37 q38), (.slice a39 l40 q41), (.slice a42 l43 q44), (.bool e13.xAccept)]) (by intro ρ h; simp only [List.map_toArray, List.map_cons, List.map_nil, h (.tmp 18) _ rfl, h (.tmp 20) _ rfl]) rfl bld117 rfl ?_
    refine d_one (i := 7) rfl (by kernel_rfl) (o_bslN (El' := elGIflat) (qs := [(0, (.agg #[(.slice a33 l34 q35), (.slice a36 l37 q38), (.slice a39 l40 q41), (.slice a42 l43 q44), (.bool e13.xAccept)]))]) (cells := [(.slice a33 l34 q35), (.slice a36 l37 q38), (.slice a39 l40 q41), (.slice a42 l43 q44), (.bool e13.xAccept)]) ([(GIflat.mk r24 e13.xAccept)]) ([[(.slice a33 l34 q35), (.slice a36 l37 q38), (.slice a39 l40 q41), (.slice a42 l43 q44), (.bool e13.xAccept)]]) (fun w m => ⟨⟨⟨(.slice a33 l34 q35), (.slice a36 l37 q38), (.slice a39 l40 q41), (.slice a42 l43 q44)⟩, rfl, ⟨(m.ro 0 rfl), (m.ro 1 rfl), (m.ro 2 rfl), (m.ro 3 rfl)⟩⟩, trivial⟩) (by intro ρ h; simp only [List.map_toArray, List.map_cons, List.map_nil, h (.tmp 21) _ rfl]) rfl el64 zero117 rfl rfl rfl rfl rfl rfl ?_); intro v45
    refine d_and (fun w m => m.pick [5, 6] rfl) ?_
    refine d_one (i := 8) rfl (by kernel_rfl) (o_app 7 0 rfl rfl src_own rfl rfl rfl el64 rfl zero117 rfl rfl ?_); intro v47
    refine d_and (fun w m => m.pick [5, 6] rfl) ?_
    refine o_as (dt 9 (fun w m => m.pick [5, 6] rfl)) rfl rfl ?_
    refine d_done (by kernel_rfl) ?_
    refine b_norm ?_
    refine l_then ?_
    refine c_region ?_
    refine o_add st rfl rfl rfl ?_; intro t49
    refine o_mv st rfl rfl ?_
    refine c_nil ?_
    exact l_join ((xs8 ++ ([(GIflat.mk r24 e13.xAccept)])), t49) (fun a w hE hm => ⟨v47, hE.sub ⟨rfl, rfl, rfl, rfl, trivial⟩, (hm.pick [6, 7] rfl)⟩)
  · refine c_exit ?_
    refine l_exit ?_
    refine l_exit ?_
    refine b_exit ?_
    refine l_then ?_
    refine c_seq ?_
    refine c_region ?_
    refine o_mv st rfl rfl ?_
    refine o_as st rfl rfl ?_
    refine c_nil ?_
    refine l_then ?_
    refine c_ret ?_
    exact l_end1 Tryd.results34 xs8 v7 (rv_t rfl) (fun w m => NewCh.ofB m [1] rfl)

set_option maxRecDepth 100000 in
set_option maxHeartbeats 8000000 in
theorem w_impl_SpansHave {w0 : World} {F : Nat → Prop} {v1 : Value} {list_0 : (List GSpan)} {n_1 : Int} {κ : Bool → Prop} (hF : ∀ b, F b → b < w0.heap.size ∧ ¬ feet [] b) (hv1 : Sl elGSpan F w0 v1 list_0) (h : L_impl_SpansHave list_0 n_1 κ) :
    Calls Tryd.prog 39 #[v1, (.int .i64 n_1)] w0 (Ret [] F w0 κ (fun (r : Bool) (u : Unit) => (.bool r)) (fun (r : Bool) (u : Unit) => [])) := by
  refine enterS (args := [v1, (.int .i64 n_1)]) [] hF (Given.nil _ _) Tryd.func39 rfl Tryd.ntmps39 rfl h ?_
  clear h hF
  refine c_seq ?_
  refine c_region ?_
  refine o_as st rfl rfl ?_
  refine c_nil ?_
  refine l_then ?_
  refine c_seq ?_
  refine c_seq ?_
  refine c_region ?_
  refine o_mv st rfl rfl ?_
  refine o_len st el72 0 rfl (reads_snap hv1) rfl rfl ?_
  refine o_mv st rfl rfl ?_
  refine c_nil ?_
  refine l_then ?_
  refine c_block ?_
  refine c_loop (σ := Int) (fun (t3 : Int) (a : Act) (w : World) => Has 24 [(1, (.int .i64 n_1)), (7, v1), (8, (.int .i64 (list_0.length : Int))), (9, (.int .i64 t3))] a ∧ Mem (gB F [] w0) (feet []) w0 [snapCh w0 F] w) (fun a w hE hm => ⟨hE.sub ⟨rfl, rfl, rfl, rfl, trivial⟩, (hm.pick [0] rfl)⟩) ?_
  rintro nx4 t3 a w ⟨hE, hm⟩ h
  refine nx_of hE hm h ?_
  clear hE hm h
  refine c_seq ?_
  refine c_region ?_
  refine o_lss st rfl rfl rfl ?_
  refine c_nil ?_
  refine l_then ?_
  refine c_seq ?_
  refine c_cond rfl ?_ ?_
  · refine c_skip ?_
    refine l_then ?_
    refine c_seq ?_
    refine c_block ?_
    refine c_seq ?_
    refine c_region ?_
    refine o_idx st 0 rfl (reads_snap hv1) rfl rfl rfl el72 ?_; intro e5 h6
    refine o_lds st (enc := encGSpan) (u := (.agg #[(.int .i64 e5.xLo), (.int .i64 e5.xHi)])) 0 rfl (reads_snap hv1) flelGSpan rfl h6 rfl rfl ty71 rfl ?_
    refine stw (o_alloc rfl [(.int .i64 0), (.int .i64 0)] zero71 ?_); intro b7
    refine stw (o_stc (cs' := [(.int .i64 e5.xLo), (.int .i64 e5.xHi)]) 0 rfl rfl rfl ty71 rfl rfl rfl rfl ?_)
    refine c_nil ?_
    refine l_then ?_
    refine c_join (σ := Bool) (fun (t69 : Bool) (a : Act) (w : World) => Has 24 [(1, (.int .i64 n_1)), (7, v1), (8, (.int .i64 (list_0.length : Int))), (9, (.int .i64 t3)), (22, (.bool t69))] a ∧ Mem (gB F [] w0) (feet []) w0 [snapCh w0 F] w) ?_ ?_
    · intro k70
      refine c_region ?_
      refine o_fad st rfl rfl fld71_0 rfl ?_
      refine o_ldc st (v := (.int .i64 e5.xLo)) 0 rfl rfl rfl ty3 rfl ?_
      refine o_mv st rfl rfl ?_
      refine o_leq st rfl rfl rfl ?_
      refine o_mv st rfl rfl ?_
      refine st_sp (dj := 17) rfl ?_ ?_
      · refine o_mv (st_g rfl rfl) rfl rfl ?_
        refine o_fad (st_g rfl rfl) rfl rfl fld71_1 rfl ?_
        refine o_ldc (st_g rfl rfl) (v := (.int .i64 e5.xHi)) 0 rfl rfl rfl ty3 rfl ?_
        refine o_leq (st_g rfl rfl) rfl rfl rfl ?_
        refine o_pickT st rfl rfl rfl ?_
        refine c_nil ?_
        exact l_join (decide (n_1 ≤ e5.xHi)) (fun a w hE hm => ⟨hE.sub ⟨rfl, rfl, rfl, rfl, rfl, trivial⟩, (hm.pick [1] rfl)⟩)
      · refine st_s rfl rfl rfl rfl ?_
        refine st_s rfl rfl rfl rfl ?_
        refine st_s rfl rfl rfl rfl ?_
        refine st_s rfl rfl rfl rfl ?_
        refine o_pickF st rfl rfl rfl ?_
        refine c_nil ?_
        exact l_join false (fun a w hE hm => ⟨hE.sub ⟨rfl, rfl, rfl, rfl, rfl, trivial⟩, (hm.pick [1] rfl)⟩)
    · rintro t69 a w ⟨hE, hm⟩ h
      refine nx_of hE hm h ?_
      clear hE hm h
      refine c_cond rfl ?_ ?_
      · refine c_seq ?_
        refine c_region ?_
        refine o_as st rfl rfl ?_
        refine c_nil ?_
        refine l_then ?_
        refine c_ret ?_
        refine b_ret ?_
        refine l_ret ?_
        refine l_ret ?_
        refine b_ret ?_
        refine l_ret ?_
        exact l_end1 Tryd.results39 true () (rv_t rfl) (fun _ _ => NewCh.nil _ _ _ _)
      · refine c_skip ?_
        refine b_norm ?_
        refine l_then ?_
        refine c_region ?_
        refine o_add st rfl rfl rfl ?_; intro t71
        refine o_mv st rfl rfl ?_
        refine c_nil ?_
        exact l_join t71 (fun a w hE hm => ⟨hE.sub ⟨rfl, rfl, rfl, rfl, trivial⟩, (hm.pick [0] rfl)⟩)
  · refine c_exit ?_
    refine l_exit ?_
    refine l_exit ?_
    refine b_exit ?_
    refine l_then ?_
    refine c_seq ?_
    refine c_region ?_
    refine o_as st rfl rfl ?_
    refine c_nil ?_
    refine l_then ?_
    refine c_ret ?_
    exact l_end1 Tryd.results39 false () (rv_t rfl) (fun _ _ => NewCh.nil _ _ _ _)

set_option maxRecDepth 100000 in
set_option maxHeartbeats 8000000 in
theorem w_impl_sides_has {w0 : World} {F : Nat → Prop} {v1 : Value} {v3 : Value} {v5 : Value} {v7 : Value} {s_0 : A4ListGSpan} {p_1 : GPacket} {κ : Bool → Prop} (hF : ∀ b, F b → b < w0.heap.size ∧ ¬ feet [] b) (hv1 : Sl elGSpan F w0 v1 s_0.x0) (hv3 : Sl elGSpan F w0 v3 s_0.x1) (hv5 : Sl elGSpan F w0 v5 s_0.x2) (hv7 : Sl elGSpan F w0 v7 s_0.x3) (h : L_impl_sides_has s_0 p_1 κ) :
    Calls Tryd.prog 72 #[(.agg #[v1, v3, v5, v7]), (.agg #[(.int .i64 p_1.xFrom), (.int .i64 p_1.xTo), (.int .i64 p_1.xPort), (.int .i64 p_1.xProto)])] w0 (Ret [] F w0 κ (fun (r : Bool) (u : Unit) => (.bool r)) (fun (r : Bool) (u : Unit) => [])) := by
  refine enterS (args := [(.agg #[v1, v3, v5, v7]), (.agg #[(.int .i64 p_1.xFrom), (.int .i64 p_1.xTo), (.int .i64 p_1.xPort), (.int .i64 p_1.xProto)])]) [] hF (Given.nil _ _) Tryd.func72 rfl Tryd.ntmps72 rfl h ?_
  clear h hF
  refine c_seq ?_
  refine c_region ?_
  obtain ⟨a9, l10, q11, hs_⟩ := sl_val hv1; subst hs_
  obtain ⟨a12, l13, q14, hs_⟩ := sl_val hv3; subst hs_
  obtain ⟨a15, l16, q17, hs_⟩ := sl_val hv5; subst hs_
  obtain ⟨a18, l19, q20, hs_⟩ := sl_val hv7; subst hs_
  refine stw (o_boxA (El' := (elSl elGSpan)) (len := 4) ([s_0.x0, s_0.x1, s_0.x2, s_0.x3]) ([[(.slice a9 l10 q11)], [(.slice a12 l13 q14)], [(.slice a15 l16 q17)], [(.slice a18 l19 q20)]]) (fun w m => ⟨⟨(.slice a9 l10 q11), rfl, (m.roS 0 rfl hv1)⟩, ⟨(.slice a12 l13 q14), rfl, (m.roS 0 rfl hv3)⟩, ⟨(.slice a15 l16 q17), rfl, (m.roS 0 rfl hv5)⟩, ⟨(.slice a18 l19 q20), rfl, (m.roS 0 rfl hv7)⟩, trivial⟩) rfl rfl rfl rfl rfl rfl ?_); intro b21
  refine stw (o_box rfl rfl [(.int .i64 p_1.xFrom), (.int .i64 p_1.xTo), (.int .i64 p_1.xPort), (.int .i64 p_1.xProto)] rfl ?_); intro b23
  refine o_as st rfl rfl ?_
  refine c_nil ?_
  refine l_then ?_
  refine c_seq ?_
  refine c_seq ?_
  refine c_region ?_
  refine o_ldc st (v := (.agg #[(.int .i64 p_1.xFrom), (.int .i64 p_1.xTo), (.int .i64 p_1.xPort), (.int .i64 p_1.xProto)])) 0 rfl rfl rfl ty49 rfl ?_
  refine stw (o_callP (vs := [(.agg #[(.int .i64 p_1.xFrom), (.int .i64 p_1.xTo), (.int .i64 p_1.xPort), (.int .i64 p_1.xProto)])]) Tryd.call90 rfl rfl (by intro w m h; exact (w_impl_Packet_fields (F := allB [] w) (p_0 := p_1) allB_ok h).mono (fun _ _ k => ret_free (fun r u => fr_nil) k)) ?_); rintro r25 _
  refine o_mv st rfl rfl ?_
  refine c_nil ?_
  refine l_then ?_
  refine c_block ?_
  refine c_loop (σ := Int) (fun (t26 : Int) (a : Act) (w : World) => Has 20 [(2, (.pointer (some ⟨b21, 0, none⟩))), (8, (.agg #[(.int .i64 r25.x0), (.int .i64 r25.x1), (.int .i64 r25.x2), (.int .i64 r25.x3)])), (9, (.int .i64 t26))] a ∧ Mem (gB F [] w0) (feet []) w0 [ownCh (elSl elGSpan) 114 (.slice (some ⟨b21, 0, none⟩) 4 4) ([s_0.x0, s_0.x1, s_0.x2, s_0.x3])] w) (fun a w hE hm => ⟨hE.sub ⟨rfl, rfl, rfl, trivial⟩, (hm.pick [1] rfl)⟩) ?_
  rintro nx27 t26 a w ⟨hE, hm⟩ h
  refine nx_of hE hm h ?_
  clear hE hm h
  refine c_seq ?_
  refine c_region ?_
  refine o_lss st rfl rfl rfl ?_
  refine c_nil ?_
  refine l_then ?_
  refine c_seq ?_
  refine c_cond rfl ?_ ?_
  · refine c_skip ?_
    refine l_then ?_
    refine c_seq ?_
    refine c_block ?_
    refine c_seq ?_
    refine c_region ?_
    refine o_mv st rfl rfl ?_
    refine o_ixv st (enc := encInt) (zs := [r25.x0, r25.x1, r25.x2, r25.x3]) (u := fun (e28 : Int) => (.int .i64 e28)) rfl rfl rfl arr141 rfl rfl (fun _ => rfl) (fun _ => rfl) ?_; intro e28
    refine o_as st rfl rfl ?_
    refine o_as st rfl rfl ?_
    refine c_nil ?_
    refine l_then ?_
    refine c_seq ?_
    refine c_region ?_
    refine o_mv st rfl rfl ?_
    refine o_ixa st 0 rfl reads_own rfl rfl rfl arr114 ?_; intro e29 h30
    refine stw (o_ldE 0 rfl src_own h30 rfl rfl ty72 ?_); rintro wr31 ff32 _ ⟨v34, rfl, sl35⟩; refine ⟨v34, rfl, ?_⟩
    refine o_mv st rfl rfl ?_
    refine stw (o_callP (vs := [v34, (.int .i64 e28)]) Tryd.call39 rfl rfl (by intro w m h; exact (w_impl_SpansHave (F := allB [] w) (list_0 := e29) (n_1 := e28) allB_ok (m.rd0 0 rfl (reads_snap sl35)) h).mono (fun _ _ k => ret_free (fun r u => fr_nil) k)) ?_); rintro r37 _
    refine o_not st rfl rfl ?_
    refine c_nil ?_
    refine l_then ?_
    refine c_cond rfl ?_ ?_
    · refine c_seq ?_
      refine c_region ?_
      refine o_as st rfl rfl ?_
      refine c_nil ?_
      refine l_then ?_
      refine c_ret ?_
      refine b_ret ?_
      refine l_ret ?_
      refine l_ret ?_
      refine b_ret ?_
      refine l_ret ?_
      exact l_end1 Tryd.results72 false () (rv_t rfl) (fun _ _ => NewCh.nil _ _ _ _)
    · refine c_skip ?_
      refine b_norm ?_
      refine l_then ?_
      refine c_region ?_
      refine o_add st rfl rfl rfl ?_; intro t38
      refine o_mv st rfl rfl ?_
      refine c_nil ?_
      exact l_join t38 (fun a w hE hm => ⟨hE.sub ⟨rfl, rfl, rfl, trivial⟩, (hm.pick [1] rfl)⟩)
  · refine c_exit ?_
    refine l_exit ?_
    refine l_exit ?_
    refine b_exit ?_
    refine l_then ?_
    refine c_seq ?_
    refine c_region ?_
    refine o_as st rfl rfl ?_
    refine c_nil ?_
    refine l_then ?_
    refine c_ret ?_
    exact l_end1 Tryd.results72 true () (rv_t rfl) (fun _ _ => NewCh.nil _ _ _ _)

set_option maxRecDepth 100000 in
set_option maxHeartbeats 8000000 in
theorem w_impl_firstWith_1 {w0 : World} {F : Nat → Prop} {b9 : Nat} {v1 : Value} {v3 : Value} {v5 : Value} {v7 : Value} {f_0 : GIflat} {a_1_From : Int} {a_1_To : Int} {a_1_Port : Int} {a_1_Proto : Int} {κ : Bool → Prop} (hF : ∀ b, F b → b < w0.heap.size ∧ ¬ feet [cellCh b9 [(.int .i64 a_1_From), (.int .i64 a_1_To), (.int .i64 a_1_Port), (.int .i64 a_1_Proto)] 49] b) (hg : Given [cellCh b9 [(.int .i64 a_1_From), (.int .i64 a_1_To), (.int .i64 a_1_Port), (.int .i64 a_1_Proto)] 49] F w0) (hv1 : Sl elGSpan F w0 v1 f_0.xWhere.x0) (hv3 : Sl elGSpan F w0 v3 f_0.xWhere.x1) (hv5 : Sl elGSpan F w0 v5 f_0.xWhere.x2) (hv7 : Sl elGSpan F w0 v7 f_0.xWhere.x3) (h : L_impl_firstWith_1 f_0 a_1_From a_1_To a_1_Port a_1_Proto κ) :
    Calls Tryd.prog 71 #[(.agg #[v1, v3, v5, v7, (.bool f_0.xAccept)]), (.pointer (some ⟨b9, 0, none⟩))] w0 (Ret [cellCh b9 [(.int .i64 a_1_From), (.int .i64 a_1_To), (.int .i64 a_1_Port), (.int .i64 a_1_Proto)] 49] F w0 κ (fun (r : Bool) (u : Unit) => (.bool r)) (fun (r : Bool) (u : Unit) => [cellCh b9 [(.int .i64 a_1_From), (.int .i64 a_1_To), (.int .i64 a_1_Port), (.int .i64 a_1_Proto)] 49])) := by
  refine enterS (args := [(.agg #[v1, v3, v5, v7, (.bool f_0.xAccept)]), (.pointer (some ⟨b9, 0, none⟩))]) [cellCh b9 [(.int .i64 a_1_From), (.int .i64 a_1_To), (.int .i64 a_1_Port), (.int .i64 a_1_Proto)] 49] hF hg Tryd.func71 rfl Tryd.ntmps71 rfl h ?_
  clear h hF hg
  refine c_seq ?_
  refine c_region ?_
  obtain ⟨a11, l12, q13, hs_⟩ := sl_val hv1; subst hs_
  obtain ⟨a14, l15, q16, hs_⟩ := sl_val hv3; subst hs_
  obtain ⟨a17, l18, q19, hs_⟩ := sl_val hv5; subst hs_
  obtain ⟨a20, l21, q22, hs_⟩ := sl_val hv7; subst hs_
  refine stw (o_box rfl rfl [(.slice a11 l12 q13), (.slice a14 l15 q16), (.slice a17 l18 q19), (.slice a20 l21 q22), (.bool f_0.xAccept)] rfl ?_); intro b23
  refine o_as st rfl rfl ?_
  refine c_nil ?_
  refine l_then ?_
  refine c_seq ?_
  refine c_region ?_
  refine o_fad st rfl rfl fld117_0 rfl ?_
  refine o_ldc st (v := (.agg #[(.slice a11 l12 q13), (.slice a14 l15 q16), (.slice a17 l18 q19), (.slice a20 l21 q22)])) 0 rfl rfl rfl ty114 rfl ?_
  refine o_ldc st (v := (.agg #[(.int .i64 a_1_From), (.int .i64 a_1_To), (.int .i64 a_1_Port), (.int .i64 a_1_Proto)])) 1 rfl rfl rfl ty49 rfl ?_
  refine stw (o_callP (vs := [(.agg #[(.slice a11 l12 q13), (.slice a14 l15 q16), (.slice a17 l18 q19), (.slice a20 l21 q22)]), (.agg #[(.int .i64 a_1_From), (.int .i64 a_1_To), (.int .i64 a_1_Port), (.int .i64 a_1_Proto)])]) Tryd.call72 rfl rfl (by intro w m h; exact (w_impl_sides_has (F := allB [] w) (s_0 := f_0.xWhere) (p_1 := (GPacket.mk a_1_From a_1_To a_1_Port a_1_Proto)) allB_ok (m.rd0 2 rfl (reads_snap hv1)) (m.rd0 2 rfl (reads_snap hv3)) (m.rd0 2 rfl (reads_snap hv5)) (m.rd0 2 rfl (reads_snap hv7)) h).mono (fun _ _ k => ret_free (fun r u => fr_nil) k)) ?_); rintro r25 _
  refine o_as st rfl rfl ?_
  refine c_nil ?_
  refine l_then ?_
  refine c_ret ?_
  exact l_end1 Tryd.results71 r25 () (rv_t rfl) (fun w m => NewCh.ofB m [1] rfl)

set_option maxRecDepth 100000 in
set_option maxHeartbeats 8000000 in
theorem w_slices_IndexFunc_impl_flat_impl_flat__impl_firstWith_1 {w0 : World} {F : Nat → Prop} {b3 : Nat} {v1 : Value} {s_0 : (List GIflat)} {c0_1_From : Int} {c0_1_To : Int} {c0_1_Port : Int} {c0_1_Proto : Int} {κ : Int → Prop} (hF : ∀ b, F b → b < w0.heap.size ∧ ¬ feet [cellCh b3 [(.int .i64 c0_1_From), (.int .i64 c0_1_To), (.int .i64 c0_1_Port), (.int .i64 c0_1_Proto)] 49] b) (hg : Given [cellCh b3 [(.int .i64 c0_1_From), (.int .i64 c0_1_To), (.int .i64 c0_1_Port), (.int .i64 c0_1_Proto)] 49] F w0) (hv1 : Sl elGIflat F w0 v1 s_0) (h : L_slices_IndexFunc_impl_flat_impl_flat__impl_firstWith_1 s_0 c0_1_From c0_1_To c0_1_Port c0_1_Proto κ) :
    Calls Tryd.prog 70 #[v1, (.func (.func 71) #[] #[(.pointer (some ⟨b3, 0, none⟩))])] w0 (Ret [cellCh b3 [(.int .i64 c0_1_From), (.int .i64 c0_1_To), (.int .i64 c0_1_Port), (.int .i64 c0_1_Proto)] 49] F w0 κ (fun (r : Int) (u : Unit) => (.int .i64 r)) (fun (r : Int) (u : Unit) => [cellCh b3 [(.int .i64 c0_1_From), (.int .i64 c0_1_To), (.int .i64 c0_1_Port), (.int .i64 c0_1_Proto)] 49])) := by
  refine enterS (args := [v1, (.func (.func 71) #[] #[(.pointer (some ⟨b3, 0, none⟩))])]) [cellCh b3 [(.int .i64 c0_1_From), (.int .i64 c0_1_To), (.int .i64 c0_1_Port), (.int .i64 c0_1_Proto)] 49] hF hg Tryd.func70 rfl Tryd.ntmps70 rfl h ?_
  clear h hF hg
  refine c_seq ?_
  refine c_region ?_
  refine o_as st rfl rfl ?_
  refine c_nil ?_
  refine l_then ?_
  refine c_seq ?_
  refine c_seq ?_
  refine c_region ?_
  refine o_mv st rfl rfl ?_
  refine o_len st el64 1 rfl (reads_snap hv1) rfl rfl ?_
  refine o_mv st rfl rfl ?_
  refine c_nil ?_
  refine l_then ?_
  refine c_block ?_
  refine c_loop (σ := Int) (fun (t5 : Int) (a : Act) (w : World) => Has 19 [(0, v1), (1, (.func (.func 71) #[] #[(.pointer (some ⟨b3, 0, none⟩))])), (7, (.int .i64 (s_0.length : Int))), (8, (.int .i64 t5))] a ∧ Mem (gB F [cellCh b3 [(.int .i64 c0_1_From), (.int .i64 c0_1_To), (.int .i64 c0_1_Port), (.int .i64 c0_1_Proto)] 49] w0) (feet [cellCh b3 [(.int .i64 c0_1_From), (.int .i64 c0_1_To), (.int .i64 c0_1_Port), (.int .i64 c0_1_Proto)] 49]) w0 [cellCh b3 [(.int .i64 c0_1_From), (.int .i64 c0_1_To), (.int .i64 c0_1_Port), (.int .i64 c0_1_Proto)] 49, snapCh w0 F] w) (fun a w hE hm => ⟨hE.sub ⟨rfl, rfl, rfl, rfl, trivial⟩, (hm.pick [0, 1] rfl)⟩) ?_
  rintro nx6 t5 a w ⟨hE, hm⟩ h
  refine nx_of hE hm h ?_
  clear hE hm h
  refine c_seq ?_
  refine c_region ?_
  refine o_lss st rfl rfl rfl ?_
  refine c_nil ?_
  refine l_then ?_
  refine c_seq ?_
  refine c_cond rfl ?_ ?_
  · refine c_skip ?_
    refine l_then ?_
    refine c_seq ?_
    refine c_block ?_
    refine c_seq ?_
    refine c_region ?_
    refine o_mv st rfl rfl ?_
    refine o_as st rfl rfl ?_
    refine c_nil ?_
    refine l_then ?_
    refine c_seq ?_
    refine c_region ?_
    refine o_mv st rfl rfl ?_
    refine o_mv st rfl rfl ?_
    refine o_mv st rfl rfl ?_
    refine o_idx st 1 rfl (reads_snap hv1) rfl rfl rfl el64 ?_; intro e7 h8
    obtain ⟨_, ⟨⟨v10, v13, v16, v19⟩, rfl, ⟨sl11, sl14, sl17, sl20⟩⟩, rw9⟩ := sl_open hv1 h8
    refine o_ldR st (u := (.agg #[v10, v13, v16, v19, (.bool e7.xAccept)])) 1 rfl rw9 rfl rfl ty117 rfl ?_
    refine stw (o_callX (M0 := [cellCh b3 [(.int .i64 c0_1_From), (.int .i64 c0_1_To), (.int .i64 c0_1_Port), (.int .i64 c0_1_Proto)] 49]) rfl (runs_val rfl rfl Tryd.call71) rfl (by intro w m h; exact (w_impl_firstWith_1 (F := allB [cellCh b3 [(.int .i64 c0_1_From), (.int .i64 c0_1_To), (.int .i64 c0_1_Port), (.int .i64 c0_1_Proto)] 49] w) (f_0 := e7) (a_1_From := c0_1_From) (a_1_To := c0_1_To) (a_1_Port := c0_1_Port) (a_1_Proto := c0_1_Proto) allB_ok m.given (m.rdM 0 rfl (reads_snap sl11)) (m.rdM 0 rfl (reads_snap sl14)) (m.rdM 0 rfl (reads_snap sl17)) (m.rdM 0 rfl (reads_snap sl20)) h).mono (fun _ _ k => ret_free (fun r u => (fr_cons free_cell fr_nil)) k)) ?_); rintro r22 _
    refine c_nil ?_
    refine l_then ?_
    refine c_cond rfl ?_ ?_
    · refine c_seq ?_
      refine c_region ?_
      refine o_mv st rfl rfl ?_
      refine o_as st rfl rfl ?_
      refine c_nil ?_
      refine l_then ?_
      refine c_ret ?_
      refine b_ret ?_
      refine l_ret ?_
      refine l_ret ?_
      refine b_ret ?_
      refine l_ret ?_
      exact l_end1 Tryd.results70 t5 () (rv_t rfl) (fun w m => NewCh.ofB m [0] rfl)
    · refine c_skip ?_
      refine b_norm ?_
      refine l_then ?_
      refine c_region ?_
      refine o_add st rfl rfl rfl ?_; intro t23
      refine o_mv st rfl rfl ?_
      refine c_nil ?_
      exact l_join t23 (fun a w hE hm => ⟨hE.sub ⟨rfl, rfl, rfl, rfl, trivial⟩, (hm.pick [0, 1] rfl)⟩)
  · refine c_exit ?_
    refine l_exit ?_
    refine l_exit ?_
    refine b_exit ?_
    refine l_then ?_
    refine c_seq ?_
    refine c_region ?_
    refine o_as st rfl rfl ?_
    refine c_nil ?_
    refine l_then ?_
    refine c_ret ?_
    exact l_end1 Tryd.results70 (-1) () (rv_t rfl) (fun w m => NewCh.ofB m [0] rfl)

set_option maxRecDepth 100000 in
set_option maxHeartbeats 8000000 in
theorem w_impl_firstWith {w0 : World} {F : Nat → Prop} {v1 : Value} {list_0 : (List GIflat)} {p_1 : GPacket} {κ : Int → Prop} (hF : ∀ b, F b → b < w0.heap.size ∧ ¬ feet [] b) (hv1 : Sl elGIflat F w0 v1 list_0) (h : L_impl_firstWith list_0 p_1 κ) :
    Calls Tryd.prog 35 #[v1, (.agg #[(.int .i64 p_1.xFrom), (.int .i64 p_1.xTo), (.int .i64 p_1.xPort), (.int .i64 p_1.xProto)])] w0 (Ret [] F w0 κ (fun (r : Int) (u : Unit) => (.int .i64 r)) (fun (r : Int) (u : Unit) => [])) := by
  refine enterS (args := [v1, (.agg #[(.int .i64 p_1.xFrom), (.int .i64 p_1.xTo), (.int .i64 p_1.xPort), (.int .i64 p_1.xProto)])]) [] hF (Given.nil _ _) Tryd.func35 rfl Tryd.ntmps35 rfl h ?_
  clear h hF
  refine c_seq ?_
  refine c_region ?_
  refine stw (o_box rfl rfl [(.int .i64 p_1.xFrom), (.int .i64 p_1.xTo), (.int .i64 p_1.xPort), (.int .i64 p_1.xProto)] rfl ?_); intro b3
  refine o_as st rfl rfl ?_
  refine c_nil ?_
  refine l_then ?_
  refine c_seq ?_
  refine c_region ?_
  refine o_mv st rfl rfl ?_
  refine o_mkf st (cv := [(.pointer (some ⟨b3, 0, none⟩))]) (by intro ρ h; simp only [List.map_toArray, List.map_cons, List.map_nil, h (.tmp 3) _ rfl]) rfl ?_
  refine stw (o_call (vs := [v1, (.func (.func 71) #[] #[(.pointer (some ⟨b3, 0, none⟩))])]) (M0 := [cellCh b3 [(.int .i64 p_1.xFrom), (.int .i64 p_1.xTo), (.int .i64 p_1.xPort), (.int .i64 p_1.xProto)] 49]) Tryd.call70 rfl rfl (by intro w m h; exact (w_slices_IndexFunc_impl_flat_impl_flat__impl_firstWith_1 (F := allB [cellCh b3 [(.int .i64 p_1.xFrom), (.int .i64 p_1.xTo), (.int .i64 p_1.xPort), (.int .i64 p_1.xProto)] 49] w) (s_0 := list_0) (c0_1_From := p_1.xFrom) (c0_1_To := p_1.xTo) (c0_1_Port := p_1.xPort) (c0_1_Proto := p_1.xProto) allB_ok m.given (m.rdM 0 rfl (reads_snap hv1)) h).mono (fun _ _ k => ret_free (fun r u => (fr_cons free_cell fr_nil)) k)) ?_); rintro r5 _
  refine o_as st rfl rfl ?_
  refine c_nil ?_
  refine l_then ?_
  refine c_ret ?_
  exact l_end1 Tryd.results35 r5 () (rv_t rfl) (fun _ _ => NewCh.nil _ _ _ _)

set_option maxRecDepth 100000 in
set_option maxHeartbeats 8000000 in
theorem w_impl_HitCounts {w0 : World} {F : Nat → Prop} {v1 : Value} {v3 : Value} {list_0 : (List GFlat)} {packets_1 : (List GPacket)} {κ : (List Int) → Prop} (hF : ∀ b, F b → b < w0.heap.size ∧ ¬ feet [] b) (hv1 : Sl elGFlat F w0 v1 list_0) (hv3 : Sl elGPacket F w0 v3 packets_1) (hgl0 : Sl elGFieldShape F w0 (.slice (some ⟨0, 0, none⟩) 4 4) gl_impl_fieldShapes) (h : L_impl_HitCounts list_0 packets_1 κ) :
    Calls Tryd.prog 8 #[v1, v3] w0 (Ret [] F w0 κ (fun (r : (List Int)) (u : Value) => u) (fun (r : (List Int)) (u : Value) => [ownCh elInt 3 u r])) := by
  refine enterS (args := [v1, v3]) [] hF (Given.nil _ _) Tryd.func8 rfl Tryd.ntmps8 rfl h ?_
  clear h hF
  refine c_seq ?_
  refine c_region ?_
  refine stw (o_asn elInt 3 rfl rfl ?_)
  refine c_nil ?_
  refine l_then ?_
  refine c_seq ?_
  refine c_join (σ := Bool) (fun (t68 : Bool) (a : Act) (w : World) => Has 45 [(0, v1), (1, v3), (17, (.bool t68))] a ∧ Mem (gB F [] w0) (feet []) w0 [snapCh w0 F] w) ?_ ?_
  · intro k69
    refine c_region ?_
    refine o_mv st rfl rfl ?_
    refine stw (o_callP (vs := [v1]) Tryd.call32 rfl rfl (by intro w m h; exact (w_impl_FlatsValid (F := allB [] w) (list_0 := list_0) allB_ok (m.rd0 1 rfl (reads_snap hv1)) (m.rd0 1 rfl (reads_snap hgl0)) h).mono (fun _ _ k => ret_free (fun r u => fr_nil) k)) ?_); rintro r6 _
    refine o_not st rfl rfl ?_
    refine o_mv st rfl rfl ?_
    refine st_sp (dj := 13) rfl ?_ ?_
    · refine st_s rfl rfl rfl rfl ?_
      refine st_s rfl rfl rfl rfl ?_
      refine st_s rfl rfl rfl rfl ?_
      refine o_pickT st rfl rfl rfl ?_
      refine c_nil ?_
      exact l_join true (fun a w hE hm => ⟨hE.sub ⟨rfl, rfl, rfl, trivial⟩, (hm.pick [1] rfl)⟩)
    · refine o_mv (st_g rfl rfl) rfl rfl ?_
      refine st_gw rfl rfl (o_callP (vs := [v3]) Tryd.call33 rfl rfl (by intro w m h; exact (w_impl_packetsValid (F := allB [] w) (list_0 := packets_1) allB_ok (m.rd0 1 rfl (reads_snap hv3)) (m.rd0 1 rfl (reads_snap hgl0)) h).mono (fun _ _ k => ret_free (fun r u => fr_nil) k)) ?_); rintro r7 _
      refine o_not (st_g rfl rfl) rfl rfl ?_
      refine o_pickF st rfl rfl rfl ?_
      refine c_nil ?_
      exact l_join (!r7) (fun a w hE hm => ⟨hE.sub ⟨rfl, rfl, rfl, trivial⟩, (hm.pick [1] rfl)⟩)
  · rintro t68 a w ⟨hE, hm⟩ h
    refine nx_of hE hm h ?_
    clear hE hm h
    refine c_cond rfl ?_ ?_
    · refine c_seq ?_
      refine c_region ?_
      refine stw (o_asn elInt 3 rfl rfl ?_)
      refine c_nil ?_
      refine l_then ?_
      refine c_ret ?_
      refine l_ret ?_
      exact l_end1 Tryd.results8 ([]) (.slice none 0 0) (rv_t rfl) (fun w m => NewCh.ofB m [0] rfl)
    · refine c_skip ?_
      refine l_then ?_
      refine c_seq ?_
      refine c_region ?_
      refine o_mv st rfl rfl ?_
      refine stw (o_callP (vs := [v1]) Tryd.call34 rfl rfl (by intro w m h; exact w_impl_flatsOf (list_0 := list_0) fz_ok0 (m.roS 0 rfl hv1) h) ?_); rintro r71 v72
      refine o_as st rfl rfl ?_
      refine c_nil ?_
      refine l_then ?_
      refine c_seq ?_
      refine c_region ?_
      refine o_mv st rfl rfl ?_
      refine o_len st el64 0 rfl reads_own rfl rfl ?_
      refine o_add st rfl rfl rfl ?_; intro t74
      refine stw (o_make (z := 0) flelInt rfl rfl rfl el27 rfl zero3 rfl rfl ?_); intro v75 xs76
      refine o_as st rfl rfl ?_
      refine c_nil ?_
      refine l_then ?_
      refine c_seq ?_
      refine c_seq ?_
      refine c_region ?_
      refine o_mv st rfl rfl ?_
      refine o_len st el24 2 rfl (reads_snap hv3) rfl rfl ?_
      refine o_mv st rfl rfl ?_
      refine c_nil ?_
      refine l_then ?_
      refine c_block ?_
      refine c_loop (σ := ((List Int) × Int)) (fun ((xs78, t80) : ((List Int) × Int)) (a : Act) (w : World) => Has 45 [(5, v72), (6, v75), (24, v3), (25, (.int .i64 (packets_1.length : Int))), (26, (.int .i64 t80))] a ∧ Mem (gB F [] w0) (feet []) w0 [ownCh elInt 3 v75 xs78, ownCh elGIflat 117 v72 r71, snapCh w0 F] w) (fun a w hE hm => ⟨hE.sub ⟨rfl, rfl, rfl, rfl, rfl, trivial⟩, (hm.pick [0, 1, 2] rfl)⟩) ?_
      rintro nx81 ⟨xs78, t80⟩ a w ⟨hE, hm⟩ h
      refine nx_of hE hm h ?_
      clear hE hm h
      refine c_seq ?_
      refine c_region ?_
      refine o_lss st rfl rfl rfl ?_
      refine c_nil ?_
      refine l_then ?_
      refine c_seq ?_
      refine c_cond rfl ?_ ?_
      · refine c_skip ?_
        refine l_then ?_
        refine c_seq ?_
        refine c_block ?_
        refine c_seq ?_
        refine c_region ?_
        refine o_idx st 2 rfl (reads_snap hv3) rfl rfl rfl el24 ?_; intro e82 h83
        refine o_lds st (enc := encGPacket) (u := (.agg #[(.int .i64 e82.xFrom), (.int .i64 e82.xTo), (.int .i64 e82.xPort), (.int .i64 e82.xProto)])) 2 rfl (reads_snap hv3) flelGPacket rfl h83 rfl rfl ty49 rfl ?_
        refine stw (o_alloc rfl [(.int .i64 0), (.int .i64 0), (.int .i64 0), (.int .i64 0)] zero49 ?_); intro b84
        refine stw (o_stc (cs' := [(.int .i64 e82.xFrom), (.int .i64 e82.xTo), (.int .i64 e82.xPort), (.int .i64 e82.xProto)]) 0 rfl rfl rfl ty49 rfl rfl rfl rfl ?_)
        refine c_nil ?_
        refine l_then ?_
        refine c_seq ?_
        refine c_region ?_
        refine o_mv st rfl rfl ?_
        refine o_ldc st (v := (.agg #[(.int .i64 e82.xFrom), (.int .i64 e82.xTo), (.int .i64 e82.xPort), (.int .i64 e82.xProto)])) 0 rfl rfl rfl ty49 rfl ?_
        refine stw (o_callP (vs := [v72, (.agg #[(.int .i64 e82.xFrom), (.int .i64 e82.xTo), (.int .i64 e82.xPort), (.int .i64 e82.xProto)])]) Tryd.call35 rfl rfl (by intro w m h; exact (w_impl_firstWith (F := allB [] w) (list_0 := r71) (p_1 := e82) allB_ok (m.rd0 2 rfl reads_own) h).mono (fun _ _ k => ret_free (fun r u => fr_nil) k)) ?_); rintro r86 _
        refine o_as st rfl rfl ?_
        refine c_nil ?_
        refine l_then ?_
        refine c_join (σ := Int) (fun (t147 : Int) (a : Act) (w : World) => Has 45 [(5, v72), (6, v75), (24, v3), (25, (.int .i64 (packets_1.length : Int))), (26, (.int .i64 t80)), (9, (.int .i64 t147))] a ∧ Mem (gB F [] w0) (feet []) w0 [ownCh elInt 3 v75 xs78, ownCh elGIflat 117 v72 r71, snapCh w0 F] w) ?_ ?_
        · intro k148
          refine c_seq ?_
          refine c_region ?_
          refine o_mv st rfl rfl ?_
          refine o_lss st rfl rfl rfl ?_
          refine c_nil ?_
          refine l_then ?_
          refine c_cond rfl ?_ ?_
          · refine c_region ?_
            refine o_mv st rfl rfl ?_
            refine o_len st el64 2 rfl reads_own rfl rfl ?_
            refine o_as st rfl rfl ?_
            refine c_nil ?_
            exact l_join (r71.length : Int) (fun a w hE hm => ⟨hE.sub ⟨rfl, rfl, rfl, rfl, rfl, rfl, trivial⟩, (hm.pick [1, 2, 3] rfl)⟩)
          · refine c_skip ?_
            exact l_join r86 (fun a w hE hm => ⟨hE.sub ⟨rfl, rfl, rfl, rfl, rfl, rfl, trivial⟩, (hm.pick [1, 2, 3] rfl)⟩)
        · rintro t147 a w ⟨hE, hm⟩ h
          refine nx_of hE hm h ?_
          clear hE hm h
          refine c_region ?_
          refine o_mv st rfl rfl ?_
          refine o_mv st rfl rfl ?_
          refine o_idx st 0 rfl reads_own rfl rfl rfl el27 ?_; intro e149 h150
          refine o_lds st (enc := encInt) (u := (.int .i64 e149)) 0 rfl reads_own flelInt rfl h150 rfl rfl ty3 rfl ?_
          refine o_add st rfl rfl rfl ?_; intro t151
          refine o_idx st 0 rfl reads_own rfl rfl rfl el27 ?_; intro e152 h153
          refine stw (o_sts (enc := encInt) (y' := t151) 0 rfl flelInt rfl h153 ty3 rfl rfl rfl rfl rfl rfl ?_)
          refine c_nil ?_
          refine b_norm ?_
          refine l_then ?_
          refine c_region ?_
          refine o_add st rfl rfl rfl ?_; intro t155
          refine o_mv st rfl rfl ?_
          refine c_nil ?_
          exact l_join ((xs78.set (t147).toNat t151), t155) (fun a w hE hm => ⟨hE.sub ⟨rfl, rfl, rfl, rfl, rfl, trivial⟩, (hm.pick [0, 1, 2] rfl)⟩)
      · refine c_exit ?_
        refine l_exit ?_
        refine l_exit ?_
        refine b_exit ?_
        refine l_then ?_
        refine c_seq ?_
        refine c_region ?_
        refine o_mv st rfl rfl ?_
        refine o_as st rfl rfl ?_
        refine c_nil ?_
        refine l_then ?_
        refine c_ret ?_
        exact l_end1 Tryd.results8 xs78 v75 (rv_t rfl) (fun w m => NewCh.ofB m [0] rfl)

set_option maxRecDepth 100000 in
set_option maxHeartbeats 8000000 in
theorem w_laws_sameInts {w0 : World} {F : Nat → Prop} {v1 : Value} {v3 : Value} {a_0 : (List Int)} {b_1 : (List Int)} {κ : Bool → Prop} (hF : ∀ b, F b → b < w0.heap.size ∧ ¬ feet [] b) (hv1 : Sl elInt F w0 v1 a_0) (hv3 : Sl elInt F w0 v3 b_1) (h : L_laws_sameInts a_0 b_1 κ) :
    Calls Tryd.prog 9 #[v1, v3] w0 (Ret [] F w0 κ (fun (r : Bool) (u : Unit) => (.bool r)) (fun (r : Bool) (u : Unit) => [])) := by
  refine enterS (args := [v1, v3]) [] hF (Given.nil _ _) Tryd.func9 rfl Tryd.ntmps9 rfl h ?_
  clear h hF
  refine c_seq ?_
  refine c_region ?_
  refine o_as st rfl rfl ?_
  refine c_nil ?_
  refine l_then ?_
  refine c_seq ?_
  refine c_seq ?_
  refine c_region ?_
  refine o_mv st rfl rfl ?_
  refine o_len st el27 0 rfl (reads_snap hv1) rfl rfl ?_
  refine o_mv st rfl rfl ?_
  refine o_len st el27 0 rfl (reads_snap hv3) rfl rfl ?_
  refine o_neq st und3 rfl rfl rfl ?_
  refine c_nil ?_
  refine l_then ?_
  refine c_cond rfl ?_ ?_
  · refine c_seq ?_
    refine c_region ?_
    refine o_as st rfl rfl ?_
    refine c_nil ?_
    refine l_then ?_
    refine c_ret ?_
    refine l_ret ?_
    exact l_end1 Tryd.results9 false () (rv_t rfl) (fun _ _ => NewCh.nil _ _ _ _)
  · refine c_skip ?_
    refine l_then ?_
    refine c_seq ?_
    refine c_seq ?_
    refine c_region ?_
    refine o_as st rfl rfl ?_
    refine c_nil ?_
    refine l_then ?_
    refine c_block ?_
    refine c_loop (σ := Int) (fun (t5 : Int) (a : Act) (w : World) => Has 26 [(0, v1), (1, v3), (5, (.int .i64 t5))] a ∧ Mem (gB F [] w0) (feet []) w0 [snapCh w0 F] w) (fun a w hE hm => ⟨hE.sub ⟨rfl, rfl, rfl, trivial⟩, (hm.pick [0] rfl)⟩) ?_
    rintro nx6 t5 a w ⟨hE, hm⟩ h
    refine nx_of hE hm h ?_
    clear hE hm h
    refine c_seq ?_
    refine c_seq ?_
    refine c_region ?_
    refine o_mv st rfl rfl ?_
    refine o_mv st rfl rfl ?_
    refine o_len st el27 0 rfl (reads_snap hv1) rfl rfl ?_
    refine o_lss st rfl rfl rfl ?_
    refine c_nil ?_
    refine l_then ?_
    refine c_cond rfl ?_ ?_
    · refine c_skip ?_
      refine l_then ?_
      refine c_seq ?_
      refine c_block ?_
      refine c_seq ?_
      refine c_draw mixed 9 rfl [snapCh w0 F] ?_
      refine o_mv (dt 0 (fun _ m => m)) rfl rfl ?_
      refine o_mv (dt 1 (fun _ m => m)) rfl rfl ?_
      refine o_idx (dt 2 (fun _ m => m)) 0 rfl (reads_snap hv1) rfl rfl rfl el27 ?_; intro e7 h8
      refine o_lds (dt 3 (fun _ m => m)) (enc := encInt) (u := (.int .i64 e7)) 0 rfl (reads_snap hv1) flelInt rfl h8 rfl rfl ty3 rfl ?_
      refine o_mv (dt 4 (fun _ m => m)) rfl rfl ?_
      refine o_mv (dt 5 (fun _ m => m)) rfl rfl ?_
      refine o_idx (dt 6 (fun _ m => m)) 0 rfl (reads_snap hv3) rfl rfl rfl el27 ?_; intro e9 h10
      refine o_lds (dt 7 (fun _ m => m)) (enc := encInt) (u := (.int .i64 e9)) 0 rfl (reads_snap hv3) flelInt rfl h10 rfl rfl ty3 rfl ?_
      refine o_neq (dt 8 (fun _ m => m)) und3 rfl rfl rfl ?_
      refine d_done (by kernel_rfl) ?_
      refine l_then ?_
      refine c_cond rfl ?_ ?_
      · refine c_seq ?_
        refine c_region ?_
        refine o_as st rfl rfl ?_
        refine c_nil ?_
        refine l_then ?_
        refine c_ret ?_
        refine b_ret ?_
        refine l_ret ?_
        refine l_ret ?_
        refine b_ret ?_
        refine l_ret ?_
        exact l_end1 Tryd.results9 false () (rv_t rfl) (fun _ _ => NewCh.nil _ _ _ _)
      · refine c_skip ?_
        refine b_norm ?_
        refine l_then ?_
        refine c_region ?_
        refine o_mv st rfl rfl ?_
        refine o_add st rfl rfl rfl ?_; intro t11
        refine o_as st rfl rfl ?_
        refine c_nil ?_
        exact l_join t11 (fun a w hE hm => ⟨hE.sub ⟨rfl, rfl, rfl, trivial⟩, (hm.pick [0] rfl)⟩)
    · refine c_exit ?_
      refine l_exit ?_
      refine l_exit ?_
      refine b_exit ?_
      refine l_then ?_
      refine c_seq ?_
      refine c_region ?_
      refine o_as st rfl rfl ?_
      refine c_nil ?_
      refine l_then ?_
      refine c_ret ?_
      exact l_end1 Tryd.results9 true () (rv_t rfl) (fun _ _ => NewCh.nil _ _ _ _)

set_option maxRecDepth 100000 in
set_option maxHeartbeats 8000000 in
theorem w_spec_SpansValid {w0 : World} {F : Nat → Prop} {v1 : Value} {list_0 : (List GSpan)} {top_1 : Int} {κ : Bool → Prop} (hF : ∀ b, F b → b < w0.heap.size ∧ ¬ feet [] b) (hv1 : Sl elGSpan F w0 v1 list_0) (h : L_spec_SpansValid list_0 top_1 κ) :
    Calls Tryd.prog 99 #[v1, (.int .i64 top_1)] w0 (Ret [] F w0 κ (fun (r : Bool) (u : Unit) => (.bool r)) (fun (r : Bool) (u : Unit) => [])) := by
  refine enterS (args := [v1, (.int .i64 top_1)]) [] hF (Given.nil _ _) Tryd.func99 rfl Tryd.ntmps99 rfl h ?_
  clear h hF
  refine c_seq ?_
  refine c_region ?_
  refine o_as st rfl rfl ?_
  refine c_nil ?_
  refine l_then ?_
  refine c_seq ?_
  refine c_seq ?_
  refine c_region ?_
  refine o_as st rfl rfl ?_
  refine c_nil ?_
  refine l_then ?_
  refine c_block ?_
  refine c_loop (σ := Int) (fun (t3 : Int) (a : Act) (w : World) => Has 60 [(0, v1), (1, (.int .i64 top_1)), (5, (.int .i64 t3))] a ∧ Mem (gB F [] w0) (feet []) w0 [snapCh w0 F] w) (fun a w hE hm => ⟨hE.sub ⟨rfl, rfl, rfl, trivial⟩, (hm.pick [0] rfl)⟩) ?_
  rintro nx4 t3 a w ⟨hE, hm⟩ h
  refine nx_of hE hm h ?_
  clear hE hm h
  refine c_seq ?_
  refine c_seq ?_
  refine c_region ?_
  refine o_mv st rfl rfl ?_
  refine o_mv st rfl rfl ?_
  refine o_len st el72 0 rfl (reads_snap hv1) rfl rfl ?_
  refine o_lss st rfl rfl rfl ?_
  refine c_nil ?_
  refine l_then ?_
  refine c_cond rfl ?_ ?_
  · refine c_skip ?_
    refine l_then ?_
    refine c_seq ?_
    refine c_block ?_
    refine c_join (σ := Bool) (fun (t79 : Bool) (a : Act) (w : World) => Has 60 [(0, v1), (1, (.int .i64 top_1)), (5, (.int .i64 t3)), (52, (.bool t79))] a ∧ Mem (gB F [] w0) (feet []) w0 [snapCh w0 F] w) ?_ ?_
    · intro k80
      refine c_draw mixed 41 rfl [snapCh w0 F] ?_
      refine o_mv (dt 0 (fun _ m => m)) rfl rfl ?_
      refine o_mv (dt 1 (fun _ m => m)) rfl rfl ?_
      refine o_idx (dt 2 (fun _ m => m)) 0 rfl (reads_snap hv1) rfl rfl rfl el72 ?_; intro e5 h6
      refine o_fadS (dt 3 (fun _ m => m)) 0 rfl (reads_snap hv1) h6 rfl rfl fld71_0 rfl ?_
      refine o_lds (dt 4 (fun _ m => m)) (enc := encGSpan) (u := (.int .i64 e5.xLo)) 0 rfl (reads_snap hv1) flelGSpan rfl h6 rfl rfl ty3 rfl ?_
      refine o_mv (dt 5 (fun _ m => m)) rfl rfl ?_
      refine o_mv (dt 6 (fun _ m => m)) rfl rfl ?_
      refine o_idx (dt 7 (fun _ m => m)) 0 rfl (reads_snap hv1) rfl rfl rfl el72 ?_; intro e7 h8
      refine o_fadS (dt 8 (fun _ m => m)) 0 rfl (reads_snap hv1) h8 rfl rfl fld71_1 rfl ?_
      refine o_lds (dt 9 (fun _ m => m)) (enc := encGSpan) (u := (.int .i64 e7.xHi)) 0 rfl (reads_snap hv1) flelGSpan rfl h8 rfl rfl ty3 rfl ?_
      refine d_one (i := 10) rfl (by kernel_rfl) (o_callP (vs := [(.int .i64 e5.xLo), (.int .i64 0), (.int .i64 e7.xHi)]) Tryd.call74 rfl rfl (by intro w m h; exact (w_spec_l1In (F := allB [] w) (n_0 := e5.xLo) (lo_1 := 0) (hi_2 := e7.xHi) allB_ok h).mono (fun _ _ k => ret_free (fun r u => fr_nil) k)) ?_); rintro r9 _
      refine d_and (fun _ m => m) ?_
      refine o_not (dt 11 (fun _ m => m)) rfl rfl ?_
      refine o_mv (dt 12 (fun _ m => m)) rfl rfl ?_
      refine st_sp (dj := 24) rfl ?_ ?_
      · refine dsk 13 (fun _ m => m) rfl (by kernel_rfl) rfl rfl rfl rfl ?_
        refine dsk 14 (fun _ m => m) rfl (by kernel_rfl) rfl rfl rfl rfl ?_
        refine dsk 15 (fun _ m => m) rfl (by kernel_rfl) rfl rfl rfl rfl ?_
        refine dsk 16 (fun _ m => m) rfl (by kernel_rfl) rfl rfl rfl rfl ?_
        refine dsk 17 (fun _ m => m) rfl (by kernel_rfl) rfl rfl rfl rfl ?_
        refine dsk 18 (fun _ m => m) rfl (by kernel_rfl) rfl rfl rfl rfl ?_
        refine dsk 19 (fun _ m => m) rfl (by kernel_rfl) rfl rfl rfl rfl ?_
        refine dsk 20 (fun _ m => m) rfl (by kernel_rfl) rfl rfl rfl rfl ?_
        refine o_pickT (dt 21 (fun _ m => m)) rfl rfl rfl ?_
        refine o_mv (dt 22 (fun _ m => m)) rfl rfl ?_
        refine dsk 23 (fun _ m => m) rfl (by kernel_rfl) rfl rfl rfl rfl ?_
        refine dsk 24 (fun _ m => m) rfl (by kernel_rfl) rfl rfl rfl rfl ?_
        refine dsk 25 (fun _ m => m) rfl (by kernel_rfl) rfl rfl rfl rfl ?_
        refine dsk 26 (fun _ m => m) rfl (by kernel_rfl) rfl rfl rfl rfl ?_
        refine dsk 27 (fun _ m => m) rfl (by kernel_rfl) rfl rfl rfl rfl ?_
        refine dsk 28 (fun _ m => m) rfl (by kernel_rfl) rfl rfl rfl rfl ?_
        refine dsk 29 (fun _ m => m) rfl (by kernel_rfl) rfl rfl rfl rfl ?_
        refine dsk 30 (fun _ m => m) rfl (by kernel_rfl) rfl rfl rfl rfl ?_
        refine dsk 31 (fun _ m => m) rfl (by kernel_rfl) rfl rfl rfl rfl ?_
        refine dsk 32 (fun _ m => m) rfl (by kernel_rfl) rfl rfl rfl rfl ?_
        refine dsk 33 (fun _ m => m) rfl (by kernel_rfl) rfl rfl rfl rfl ?_
        refine dsk 34 (fun _ m => m) rfl (by kernel_rfl) rfl rfl rfl rfl ?_
        refine dsk 35 (fun _ m => m) rfl (by kernel_rfl) rfl rfl rfl rfl ?_
        refine dsk 36 (fun _ m => m) rfl (by kernel_rfl) rfl rfl rfl rfl ?_
        refine dsk 37 (fun _ m => m) rfl (by kernel_rfl) rfl rfl rfl rfl ?_
        refine dsk 38 (fun _ m => m) rfl (by kernel_rfl) rfl rfl rfl rfl ?_
        refine dsk 39 (fun _ m => m) rfl (by kernel_rfl) rfl rfl rfl rfl ?_
        refine o_pickT (dt 40 (fun _ m => m)) rfl rfl rfl ?_
        refine d_done (by kernel_rfl) ?_
        exact l_join true (fun a w hE hm => ⟨hE.sub ⟨rfl, rfl, rfl, rfl, trivial⟩, (hm.pick [0] rfl)⟩)
      · refine o_mv (dtg 13 (fun _ m => m)) rfl rfl ?_
        refine o_mv (dtg 14 (fun _ m => m)) rfl rfl ?_
        refine o_idx (dtg 15 (fun _ m => m)) 0 rfl (reads_snap hv1) rfl rfl rfl el72 ?_; intro e10 h11
        refine o_fadS (dtg 16 (fun _ m => m)) 0 rfl (reads_snap hv1) h11 rfl rfl fld71_1 rfl ?_
        refine o_lds (dtg 17 (fun _ m => m)) (enc := encGSpan) (u := (.int .i64 e10.xHi)) 0 rfl (reads_snap hv1) flelGSpan rfl h11 rfl rfl ty3 rfl ?_
        refine o_mv (dtg 18 (fun _ m => m)) rfl rfl ?_
        refine d_oneg (i := 19) rfl rfl rfl (by kernel_rfl) (o_callP (vs := [(.int .i64 e10.xHi), (.int .i64 0), (.int .i64 top_1)]) Tryd.call74 rfl rfl (by intro w m h; exact (w_spec_l1In (F := allB [] w) (n_0 := e10.xHi) (lo_1 := 0) (hi_2 := top_1) allB_ok h).mono (fun _ _ k => ret_free (fun r u => fr_nil) k)) ?_); rintro r12 _
        refine d_and (fun _ m => m) ?_
        refine o_not (dtg 20 (fun _ m => m)) rfl rfl ?_
        refine o_pickF (dt 21 (fun _ m => m)) rfl rfl rfl ?_
        refine o_mv (dt 22 (fun _ m => m)) rfl rfl ?_
        refine st_sp (dj := 34) rfl ?_ ?_
        · refine dsk 23 (fun _ m => m) rfl (by kernel_rfl) rfl rfl rfl rfl ?_
          refine dsk 24 (fun _ m => m) rfl (by kernel_rfl) rfl rfl rfl rfl ?_
          refine dsk 25 (fun _ m => m) rfl (by kernel_rfl) rfl rfl rfl rfl ?_
          refine dsk 26 (fun _ m => m) rfl (by kernel_rfl) rfl rfl rfl rfl ?_
          refine dsk 27 (fun _ m => m) rfl (by kernel_rfl) rfl rfl rfl rfl ?_
          refine dsk 28 (fun _ m => m) rfl (by kernel_rfl) rfl rfl rfl rfl ?_
          refine dsk 29 (fun _ m => m) rfl (by kernel_rfl) rfl rfl rfl rfl ?_
          refine dsk 30 (fun _ m => m) rfl (by kernel_rfl) rfl rfl rfl rfl ?_
          refine dsk 31 (fun _ m => m) rfl (by kernel_rfl) rfl rfl rfl rfl ?_
          refine dsk 32 (fun _ m => m) rfl (by kernel_rfl) rfl rfl rfl rfl ?_
          refine dsk 33 (fun _ m => m) rfl (by kernel_rfl) rfl rfl rfl rfl ?_
          refine dsk 34 (fun _ m => m) rfl (by kernel_rfl) rfl rfl rfl rfl ?_
          refine dsk 35 (fun _ m => m) rfl (by kernel_rfl) rfl rfl rfl rfl ?_
          refine dsk 36 (fun _ m => m) rfl (by kernel_rfl) rfl rfl rfl rfl ?_
          refine dsk 37 (fun _ m => m) rfl (by kernel_rfl) rfl rfl rfl rfl ?_
          refine dsk 38 (fun _ m => m) rfl (by kernel_rfl) rfl rfl rfl rfl ?_
          refine dsk 39 (fun _ m => m) rfl (by kernel_rfl) rfl rfl rfl rfl ?_
          refine o_pickT (dt 40 (fun _ m => m)) rfl rfl rfl ?_
          refine d_done (by kernel_rfl) ?_
          exact l_join true (fun a w hE hm => ⟨hE.sub ⟨rfl, rfl, rfl, rfl, trivial⟩, (hm.pick [0] rfl)⟩)
        · refine o_mv (dtg 23 (fun _ m => m)) rfl rfl ?_
          refine o_gtr (dtg 24 (fun _ m => m)) rfl rfl rfl ?_
          refine o_mv (dtg 25 (fun _ m => m)) rfl rfl ?_
          refine st_sp (dj := 37) rfl ?_ ?_
          · refine o_mv (dtg 26 (fun _ m => m)) rfl rfl ?_
            refine o_mv (dtg 27 (fun _ m => m)) rfl rfl ?_
            refine o_idx (dtg 28 (fun _ m => m)) 0 rfl (reads_snap hv1) rfl rfl rfl el72 ?_; intro e13 h14
            refine o_fadS (dtg 29 (fun _ m => m)) 0 rfl (reads_snap hv1) h14 rfl rfl fld71_0 rfl ?_
            refine o_lds (dtg 30 (fun _ m => m)) (enc := encGSpan) (u := (.int .i64 e13.xLo)) 0 rfl (reads_snap hv1) flelGSpan rfl h14 rfl rfl ty3 rfl ?_
            refine o_mv (dtg 31 (fun _ m => m)) rfl rfl ?_
            refine o_mv (dtg 32 (fun _ m => m)) rfl rfl ?_
            refine o_sub (dtg 33 (fun _ m => m)) rfl rfl rfl ?_; intro t15
            refine o_idx (dtg 34 (fun _ m => m)) 0 rfl (reads_snap hv1) rfl rfl rfl el72 ?_; intro e16 h17
            refine o_fadS (dtg 35 (fun _ m => m)) 0 rfl (reads_snap hv1) h17 rfl rfl fld71_1 rfl ?_
            refine o_lds (dtg 36 (fun _ m => m)) (enc := encGSpan) (u := (.int .i64 e16.xHi)) 0 rfl (reads_snap hv1) flelGSpan rfl h17 rfl rfl ty3 rfl ?_
            refine o_add (dtg 37 (fun _ m => m)) rfl rfl rfl ?_; intro t18
            refine o_lss (dtg 38 (fun _ m => m)) rfl rfl rfl ?_
            refine o_pickT (dtg 39 (fun _ m => m)) rfl rfl rfl ?_
            refine o_pickF (dt 40 (fun _ m => m)) rfl rfl rfl ?_
            refine d_done (by kernel_rfl) ?_
            exact l_join (decide (e13.xLo < t18)) (fun a w hE hm => ⟨hE.sub ⟨rfl, rfl, rfl, rfl, trivial⟩, (hm.pick [0] rfl)⟩)
          · refine dsk 26 (fun _ m => m) rfl (by kernel_rfl) rfl rfl rfl rfl ?_
            refine dsk 27 (fun _ m => m) rfl (by kernel_rfl) rfl rfl rfl rfl ?_
            refine dsk 28 (fun _ m => m) rfl (by kernel_rfl) rfl rfl rfl rfl ?_
            refine dsk 29 (fun _ m => m) rfl (by kernel_rfl) rfl rfl rfl rfl ?_
            refine dsk 30 (fun _ m => m) rfl (by kernel_rfl) rfl rfl rfl rfl ?_
            refine dsk 31 (fun _ m => m) rfl (by kernel_rfl) rfl rfl rfl rfl ?_
            refine dsk 32 (fun _ m => m) rfl (by kernel_rfl) rfl rfl rfl rfl ?_
            refine dsk 33 (fun _ m => m) rfl (by kernel_rfl) rfl rfl rfl rfl ?_
            refine dsk 34 (fun _ m => m) rfl (by kernel_rfl) rfl rfl rfl rfl ?_
            refine dsk 35 (fun _ m => m) rfl (by kernel_rfl) rfl rfl rfl rfl ?_
            refine dsk 36 (fun _ m => m) rfl (by kernel_rfl) rfl rfl rfl rfl ?_
            refine dsk 37 (fun _ m => m) rfl (by kernel_rfl) rfl rfl rfl rfl ?_
            refine dsk 38 (fun _ m => m) rfl (by kernel_rfl) rfl rfl rfl rfl ?_
            refine o_pickF (dtg 39 (fun _ m => m)) rfl rfl rfl ?_
            refine o_pickF (dt 40 (fun _ m => m)) rfl rfl rfl ?_
            refine d_done (by kernel_rfl) ?_
            exact l_join false (fun a w hE hm => ⟨hE.sub ⟨rfl, rfl, rfl, rfl, trivial⟩, (hm.pick [0] rfl)⟩)
    · rintro t79 a w ⟨hE, hm⟩ h
      refine nx_of hE hm h ?_
      clear hE hm h
      refine c_cond rfl ?_ ?_
      · refine c_seq ?_
        refine c_region ?_
        refine o_as st rfl rfl ?_
        refine c_nil ?_
        refine l_then ?_
        refine c_ret ?_
        refine b_ret ?_
        refine l_ret ?_
        refine l_ret ?_
        refine b_ret ?_
        refine l_ret ?_
        exact l_end1 Tryd.results99 false () (rv_t rfl) (fun _ _ => NewCh.nil _ _ _ _)
      · refine c_skip ?_
        refine b_norm ?_
        refine l_then ?_
        refine c_region ?_
        refine o_mv st rfl rfl ?_
        refine o_add st rfl rfl rfl ?_; intro t81
        refine o_as st rfl rfl ?_
        refine c_nil ?_
        exact l_join t81 (fun a w hE hm => ⟨hE.sub ⟨rfl, rfl, rfl, trivial⟩, (hm.pick [0] rfl)⟩)
  · refine c_exit ?_
    refine l_exit ?_
    refine l_exit ?_
    refine b_exit ?_
    refine l_then ?_
    refine c_join (σ := Bool) (fun (t143 : Bool) (a : Act) (w : World) => Has 60 [(4, (.bool t143))] a ∧ Mem (gB F [] w0) (feet []) w0 [] w) ?_ ?_
    · intro k144
      refine c_region ?_
      refine o_mv st rfl rfl ?_
      refine stw (o_callP (vs := [(.int .i64 top_1), (.int .i64 0), (.int .i64 65535)]) Tryd.call74 rfl rfl (by intro w m h; exact (w_spec_l1In (F := allB [] w) (n_0 := top_1) (lo_1 := 0) (hi_2 := 65535) allB_ok h).mono (fun _ _ k => ret_free (fun r u => fr_nil) k)) ?_); rintro r82 _
      refine o_mv st rfl rfl ?_
      refine st_sp (dj := 55) rfl ?_ ?_
      · refine o_mv (st_g rfl rfl) rfl rfl ?_
        refine o_len (st_g rfl rfl) el72 0 rfl (reads_snap hv1) rfl rfl ?_
        refine o_leq (st_g rfl rfl) rfl rfl rfl ?_
        refine o_pickT st rfl rfl rfl ?_
        refine o_as st rfl rfl ?_
        refine c_nil ?_
        exact l_join (decide ((list_0.length : Int) ≤ 40)) (fun a w hE hm => ⟨hE.sub ⟨rfl, trivial⟩, (hm.pick [] rfl)⟩)
      · refine st_s rfl rfl rfl rfl ?_
        refine st_s rfl rfl rfl rfl ?_
        refine st_s rfl rfl rfl rfl ?_
        refine o_pickF st rfl rfl rfl ?_
        refine o_as st rfl rfl ?_
        refine c_nil ?_
        exact l_join false (fun a w hE hm => ⟨hE.sub ⟨rfl, trivial⟩, (hm.pick [] rfl)⟩)
    · rintro t143 a w ⟨hE, hm⟩ h
      refine nx_of hE hm h ?_
      clear hE hm h
      refine c_ret ?_
      exact l_end1 Tryd.results99 t143 () (rv_t rfl) (fun _ _ => NewCh.nil _ _ _ _)

set_option maxRecDepth 100000 in
set_option maxHeartbeats 8000000 in
theorem w_spec_BoxValid {w0 : World} {F : Nat → Prop} {v1 : Value} {b_0 : GBox} {κ : Bool → Prop} (hF : ∀ b, F b → b < w0.heap.size ∧ ¬ feet [] b) (hv1 : Sl (elSl elGSpan) F w0 v1 b_0.xSides) (h : L_spec_BoxValid b_0 κ) :
    Calls Tryd.prog 73 #[(.agg #[v1])] w0 (Ret [] F w0 κ (fun (r : Bool) (u : Unit) => (.bool r)) (fun (r : Bool) (u : Unit) => [])) := by
  refine enterS (args := [(.agg #[v1])]) [] hF (Given.nil _ _) Tryd.func73 rfl Tryd.ntmps73 rfl h ?_
  clear h hF
  refine c_seq ?_
  refine c_region ?_
  obtain ⟨a3, l4, q5, hs_⟩ := sl_val hv1; subst hs_
  refine stw (o_box rfl rfl [(.slice a3 l4 q5)] rfl ?_); intro b6
  refine o_as st rfl rfl ?_
  refine c_nil ?_
  refine l_then ?_
  refine c_seq ?_
  refine c_seq ?_
  refine c_region ?_
  refine o_as st rfl rfl ?_
  refine c_nil ?_
  refine l_then ?_
  refine c_block ?_
  refine c_loop (σ := Int) (fun (t8 : Int) (a : Act) (w : World) => Has 28 [(1, (.pointer (some ⟨b6, 0, none⟩))), (3, (.int .i64 t8))] a ∧ Mem (gB F [] w0) (feet []) w0 [cellCh b6 [(.slice a3 l4 q5)] 85, snapCh w0 F] w) (fun a w hE hm => ⟨hE.sub ⟨rfl, rfl, trivial⟩, (hm.pick [0, 1] rfl)⟩) ?_
  rintro nx9 t8 a w ⟨hE, hm⟩ h
  refine nx_of hE hm h ?_
  clear hE hm h
  refine c_seq ?_
  refine c_seq ?_
  refine c_region ?_
  refine o_mv st rfl rfl ?_
  refine o_fad st rfl rfl fld85_0 rfl ?_
  refine o_ldc st (v := (.slice a3 l4 q5)) 0 rfl rfl rfl ty83 rfl ?_
  refine o_len st el83 1 rfl (reads_snap hv1) rfl rfl ?_
  refine o_lss st rfl rfl rfl ?_
  refine c_nil ?_
  refine l_then ?_
  refine c_cond rfl ?_ ?_
  · refine c_skip ?_
    refine l_then ?_
    refine c_seq ?_
    refine c_block ?_
    refine c_join (σ := Bool) (fun (t78 : Bool) (a : Act) (w : World) => Has 28 [(1, (.pointer (some ⟨b6, 0, none⟩))), (3, (.int .i64 t8)), (23, (.bool t78))] a ∧ Mem (gB F [] w0) (feet []) w0 [cellCh b6 [(.slice a3 l4 q5)] 85, snapCh w0 F] w) ?_ ?_
    · intro k79
      refine c_draw mixed 13 rfl [cellCh b6 [(.slice a3 l4 q5)] 85, snapCh w0 F] ?_
      refine o_mv (dt 0 (fun _ m => m)) rfl rfl ?_
      refine o_geq (dt 1 (fun _ m => m)) rfl rfl rfl ?_
      refine o_mv (dt 2 (fun _ m => m)) rfl rfl ?_
      refine st_sp (dj := 13) rfl ?_ ?_
      · refine dsk 3 (fun _ m => m) rfl (by kernel_rfl) rfl rfl rfl rfl ?_
        refine dsk 4 (fun _ m => m) rfl (by kernel_rfl) rfl rfl rfl rfl ?_
        refine dsk 5 (fun _ m => m) rfl (by kernel_rfl) rfl rfl rfl rfl ?_
        refine dsk 6 (fun _ m => m) rfl (by kernel_rfl) rfl rfl rfl rfl ?_
        refine dsk 7 (fun _ m => m) rfl (by kernel_rfl) rfl rfl rfl rfl ?_
        refine dsk 8 (fun _ m => m) rfl (by kernel_rfl) rfl rfl rfl rfl ?_
        refine dsk 9 (fun _ m => m) rfl (by kernel_rfl) rfl rfl rfl rfl ?_
        refine dsk 10 (fun _ m => m) rfl (by kernel_rfl) rfl rfl rfl rfl ?_
        refine dsk 11 (fun _ m => m) rfl (by kernel_rfl) rfl rfl rfl rfl ?_
        refine o_pickT (dt 12 (fun _ m => m)) rfl rfl rfl ?_
        refine d_done (by kernel_rfl) ?_
        exact l_join true (fun a w hE hm => ⟨hE.sub ⟨rfl, rfl, rfl, trivial⟩, (hm.pick [0, 1] rfl)⟩)
      · refine o_fad (dtg 3 (fun _ m => m)) rfl rfl fld85_0 rfl ?_
        refine o_ldc (dtg 4 (fun _ m => m)) (v := (.slice a3 l4 q5)) 0 rfl rfl rfl ty83 rfl ?_
        refine o_mv (dtg 5 (fun _ m => m)) rfl rfl ?_
        refine o_idx (dtg 6 (fun _ m => m)) 1 rfl (reads_snap hv1) rfl rfl rfl el83 ?_; intro e10 h11
        obtain ⟨_, ⟨v13, rfl, sl14⟩, rw12⟩ := sl_open hv1 h11
        refine o_ldR (dtg 7 (fun _ m => m)) (u := v13) 1 rfl rw12 rfl rfl ty72 rfl ?_
        refine o_mv (dtg 8 (fun _ m => m)) rfl rfl ?_
        refine d_oneg (i := 9) rfl rfl rfl (by kernel_rfl) (o_callP (vs := [(.int .i64 t8)]) Tryd.call63 rfl rfl (by intro w m h; exact (w_spec_FieldTop (F := allB [] w) (n_0 := t8) allB_ok h).mono (fun _ _ k => ret_free (fun r u => fr_nil) k)) ?_); rintro r16 _
        refine d_and (fun _ m => m) ?_
        refine d_oneg (i := 10) rfl rfl rfl (by kernel_rfl) (o_callP (vs := [v13, (.int .i64 r16)]) Tryd.call99 rfl rfl (by intro w m h; exact (w_spec_SpansValid (F := allB [] w) (list_0 := e10) (top_1 := r16) allB_ok (m.rd0 1 rfl (reads_snap sl14)) h).mono (fun _ _ k => ret_free (fun r u => fr_nil) k)) ?_); rintro r17 _
        refine d_and (fun _ m => m) ?_
        refine o_not (dtg 11 (fun _ m => m)) rfl rfl ?_
        refine o_pickF (dt 12 (fun _ m => m)) rfl rfl rfl ?_
        refine d_done (by kernel_rfl) ?_
        exact l_join (!r17) (fun a w hE hm => ⟨hE.sub ⟨rfl, rfl, rfl, trivial⟩, (hm.pick [0, 1] rfl)⟩)
    · rintro t78 a w ⟨hE, hm⟩ h
      refine nx_of hE hm h ?_
      clear hE hm h
      refine c_cond rfl ?_ ?_
      · refine c_seq ?_
        refine c_region ?_
        refine o_as st rfl rfl ?_
        refine c_nil ?_
        refine l_then ?_
        refine c_ret ?_
        refine b_ret ?_
        refine l_ret ?_
        refine l_ret ?_
        refine b_ret ?_
        refine l_ret ?_
        exact l_end1 Tryd.results73 false () (rv_t rfl) (fun _ _ => NewCh.nil _ _ _ _)
      · refine c_skip ?_
        refine b_norm ?_
        refine l_then ?_
        refine c_region ?_
        refine o_mv st rfl rfl ?_
        refine o_add st rfl rfl rfl ?_; intro t80
        refine o_as st rfl rfl ?_
        refine c_nil ?_
        exact l_join t80 (fun a w hE hm => ⟨hE.sub ⟨rfl, rfl, trivial⟩, (hm.pick [0, 1] rfl)⟩)
  · refine c_exit ?_
    refine l_exit ?_
    refine l_exit ?_
    refine b_exit ?_
    refine l_then ?_
    refine c_seq ?_
    refine c_region ?_
    refine o_fad st rfl rfl fld85_0 rfl ?_
    refine o_ldc st (v := (.slice a3 l4 q5)) 0 rfl rfl rfl ty83 rfl ?_
    refine o_len st el83 1 rfl (reads_snap hv1) rfl rfl ?_
    refine o_eql st und3 rfl rfl rfl ?_
    refine o_as st rfl rfl ?_
    refine c_nil ?_
    refine l_then ?_
    refine c_ret ?_
    exact l_end1 Tryd.results73 (decide ((b_0.xSides.length : Int) = 4)) () (rv_t rfl) (fun _ _ => NewCh.nil _ _ _ _)

set_option maxRecDepth 100000 in
set_option maxHeartbeats 8000000 in
theorem w_spec_FlatsValid {w0 : World} {F : Nat → Prop} {v1 : Value} {list_0 : (List GFlat)} {κ : Bool → Prop} (hF : ∀ b, F b → b < w0.heap.size ∧ ¬ feet [] b) (hv1 : Sl elGFlat F w0 v1 list_0) (h : L_spec_FlatsValid list_0 κ) :
    Calls Tryd.prog 36 #[v1] w0 (Ret [] F w0 κ (fun (r : Bool) (u : Unit) => (.bool r)) (fun (r : Bool) (u : Unit) => [])) := by
  refine enterS (args := [v1]) [] hF (Given.nil _ _) Tryd.func36 rfl Tryd.ntmps36 rfl h ?_
  clear h hF
  refine c_seq ?_
  refine c_region ?_
  refine o_as st rfl rfl ?_
  refine c_nil ?_
  refine l_then ?_
  refine c_seq ?_
  refine c_seq ?_
  refine c_region ?_
  refine o_as st rfl rfl ?_
  refine c_nil ?_
  refine l_then ?_
  refine c_block ?_
  refine c_loop (σ := Int) (fun (t3 : Int) (a : Act) (w : World) => Has 20 [(0, v1), (3, (.int .i64 t3))] a ∧ Mem (gB F [] w0) (feet []) w0 [snapCh w0 F] w) (fun a w hE hm => ⟨hE.sub ⟨rfl, rfl, trivial⟩, (hm.pick [0] rfl)⟩) ?_
  rintro nx4 t3 a w ⟨hE, hm⟩ h
  refine nx_of hE hm h ?_
  clear hE hm h
  refine c_seq ?_
  refine c_seq ?_
  refine c_region ?_
  refine o_mv st rfl rfl ?_
  refine o_mv st rfl rfl ?_
  refine o_len st el23 0 rfl (reads_snap hv1) rfl rfl ?_
  refine o_lss st rfl rfl rfl ?_
  refine c_nil ?_
  refine l_then ?_
  refine c_cond rfl ?_ ?_
  · refine c_skip ?_
    refine l_then ?_
    refine c_seq ?_
    refine c_block ?_
    refine c_seq ?_
    refine c_region ?_
    refine o_mv st rfl rfl ?_
    refine o_mv st rfl rfl ?_
    refine o_idx st 0 rfl (reads_snap hv1) rfl rfl rfl el23 ?_; intro e5 h6
    refine o_fadS st 0 rfl (reads_snap hv1) h6 rfl rfl fld87_0 rfl ?_
    obtain ⟨_, ⟨v8, rfl, sl9⟩, rw7⟩ := sl_open hv1 h6
    refine o_ldR st (u := (.agg #[v8])) 0 rfl rw7 rfl rfl ty85 rfl ?_
    refine stw (o_callP (vs := [(.agg #[v8])]) Tryd.call73 rfl rfl (by intro w m h; exact (w_spec_BoxValid (F := allB [] w) (b_0 := e5.xWhere) allB_ok (m.rd0 0 rfl (reads_snap sl9)) h).mono (fun _ _ k => ret_free (fun r u => fr_nil) k)) ?_); rintro r11 _
    refine o_not st rfl rfl ?_
    refine c_nil ?_
    refine l_then ?_
    refine c_cond rfl ?_ ?_
    · refine c_seq ?_
      refine c_region ?_
      refine o_as st rfl rfl ?_
      refine c_nil ?_
      refine l_then ?_
      refine c_ret ?_
      refine b_ret ?_
      refine l_ret ?_
      refine l_ret ?_
      refine b_ret ?_
      refine l_ret ?_
      exact l_end1 Tryd.results36 false () (rv_t rfl) (fun _ _ => NewCh.nil _ _ _ _)
    · refine c_skip ?_
      refine b_norm ?_
      refine l_then ?_
      refine c_region ?_
      refine o_mv st rfl rfl ?_
      refine o_add st rfl rfl rfl ?_; intro t12
      refine o_as st rfl rfl ?_
      refine c_nil ?_
      exact l_join t12 (fun a w hE hm => ⟨hE.sub ⟨rfl, rfl, trivial⟩, (hm.pick [0] rfl)⟩)
  · refine c_exit ?_
    refine l_exit ?_
    refine l_exit ?_
    refine b_exit ?_
    refine l_then ?_
    refine c_seq ?_
    refine c_region ?_
    refine o_mv st rfl rfl ?_
    refine o_len st el23 0 rfl (reads_snap hv1) rfl rfl ?_
    refine o_leq st rfl rfl rfl ?_
    refine o_as st rfl rfl ?_
    refine c_nil ?_
    refine l_then ?_
    refine c_ret ?_
    exact l_end1 Tryd.results36 (decide ((list_0.length : Int) ≤ 60)) () (rv_t rfl) (fun _ _ => NewCh.nil _ _ _ _)

set_option maxRecDepth 100000 in
set_option maxHeartbeats 8000000 in
theorem w_spec_SpansHave {w0 : World} {F : Nat → Prop} {v1 : Value} {list_0 : (List GSpan)} {n_1 : Int} {κ : Bool → Prop} (hF : ∀ b, F b → b < w0.heap.size ∧ ¬ feet [] b) (hv1 : Sl elGSpan F w0 v1 list_0) (h : L_spec_SpansHave list_0 n_1 κ) :
    Calls Tryd.prog 100 #[v1, (.int .i64 n_1)] w0 (Ret [] F w0 κ (fun (r : Bool) (u : Unit) => (.bool r)) (fun (r : Bool) (u : Unit) => [])) := by
  refine enterS (args := [v1, (.int .i64 n_1)]) [] hF (Given.nil _ _) Tryd.func100 rfl Tryd.ntmps100 rfl h ?_
  clear h hF
  refine c_seq ?_
  refine c_region ?_
  refine o_as st rfl rfl ?_
  refine c_nil ?_
  refine l_then ?_
  refine c_seq ?_
  refine c_seq ?_
  refine c_region ?_
  refine o_as st rfl rfl ?_
  refine c_nil ?_
  refine l_then ?_
  refine c_block ?_
  refine c_loop (σ := Int) (fun (t3 : Int) (a : Act) (w : World) => Has 24 [(0, v1), (1, (.int .i64 n_1)), (5, (.int .i64 t3))] a ∧ Mem (gB F [] w0) (feet []) w0 [snapCh w0 F] w) (fun a w hE hm => ⟨hE.sub ⟨rfl, rfl, rfl, trivial⟩, (hm.pick [0] rfl)⟩) ?_
  rintro nx4 t3 a w ⟨hE, hm⟩ h
  refine nx_of hE hm h ?_
  clear hE hm h
  refine c_seq ?_
  refine c_seq ?_
  refine c_region ?_
  refine o_mv st rfl rfl ?_
  refine o_mv st rfl rfl ?_
  refine o_len st el72 0 rfl (reads_snap hv1) rfl rfl ?_
  refine o_lss st rfl rfl rfl ?_
  refine c_nil ?_
  refine l_then ?_
  refine c_cond rfl ?_ ?_
  · refine c_skip ?_
    refine l_then ?_
    refine c_seq ?_
    refine c_block ?_
    refine c_seq ?_
    refine c_draw mixed 12 rfl [snapCh w0 F] ?_
    refine o_mv (dt 0 (fun _ m => m)) rfl rfl ?_
    refine o_mv (dt 1 (fun _ m => m)) rfl rfl ?_
    refine o_mv (dt 2 (fun _ m => m)) rfl rfl ?_
    refine o_idx (dt 3 (fun _ m => m)) 0 rfl (reads_snap hv1) rfl rfl rfl el72 ?_; intro e5 h6
    refine o_fadS (dt 4 (fun _ m => m)) 0 rfl (reads_snap hv1) h6 rfl rfl fld71_0 rfl ?_
    refine o_lds (dt 5 (fun _ m => m)) (enc := encGSpan) (u := (.int .i64 e5.xLo)) 0 rfl (reads_snap hv1) flelGSpan rfl h6 rfl rfl ty3 rfl ?_
    refine o_mv (dt 6 (fun _ m => m)) rfl rfl ?_
    refine o_mv (dt 7 (fun _ m => m)) rfl rfl ?_
    refine o_idx (dt 8 (fun _ m => m)) 0 rfl (reads_snap hv1) rfl rfl rfl el72 ?_; intro e7 h8
    refine o_fadS (dt 9 (fun _ m => m)) 0 rfl (reads_snap hv1) h8 rfl rfl fld71_1 rfl ?_
    refine o_lds (dt 10 (fun _ m => m)) (enc := encGSpan) (u := (.int .i64 e7.xHi)) 0 rfl (reads_snap hv1) flelGSpan rfl h8 rfl rfl ty3 rfl ?_
    refine d_one (i := 11) rfl (by kernel_rfl) (o_callP (vs := [(.int .i64 n_1), (.int .i64 e5.xLo), (.int .i64 e7.xHi)]) Tryd.call74 rfl rfl (by intro w m h; exact (w_spec_l1In (F := allB [] w) (n_0 := n_1) (lo_1 := e5.xLo) (hi_2 := e7.xHi) allB_ok h).mono (fun _ _ k => ret_free (fun r u => fr_nil) k)) ?_); rintro r9 _
    refine d_and (fun _ m => m) ?_
    refine d_done (by kernel_rfl) ?_
    refine l_then ?_
    refine c_cond rfl ?_ ?_
    · refine c_seq ?_
      refine c_region ?_
      refine o_as st rfl rfl ?_
      refine c_nil ?_
      refine l_then ?_
      refine c_ret ?_
      refine b_ret ?_
      refine l_ret ?_
      refine l_ret ?_
      refine b_ret ?_
      refine l_ret ?_
      exact l_end1 Tryd.results100 true () (rv_t rfl) (fun _ _ => NewCh.nil _ _ _ _)
    · refine c_skip ?_
      refine b_norm ?_
      refine l_then ?_
      refine c_region ?_
      refine o_mv st rfl rfl ?_
      refine o_add st rfl rfl rfl ?_; intro t10
      refine o_as st rfl rfl ?_
      refine c_nil ?_
      exact l_join t10 (fun a w hE hm => ⟨hE.sub ⟨rfl, rfl, rfl, trivial⟩, (hm.pick [0] rfl)⟩)
  · refine c_exit ?_
    refine l_exit ?_
    refine l_exit ?_
    refine b_exit ?_
    refine l_then ?_
    refine c_seq ?_
    refine c_region ?_
    refine o_as st rfl rfl ?_
    refine c_nil ?_
    refine l_then ?_
    refine c_ret ?_
    exact l_end1 Tryd.results100 false () (rv_t rfl) (fun _ _ => NewCh.nil _ _ _ _)

set_option maxRecDepth 100000 in
set_option maxHeartbeats 8000000 in
theorem w_spec_PacketField {w0 : World} {F : Nat → Prop} {p_0 : GPacket} {n_1 : Int} {κ : Int → Prop} (hF : ∀ b, F b → b < w0.heap.size ∧ ¬ feet [] b) (h : L_spec_PacketField p_0 n_1 κ) :
    Calls Tryd.prog 101 #[(.agg #[(.int .i64 p_0.xFrom), (.int .i64 p_0.xTo), (.int .i64 p_0.xPort), (.int .i64 p_0.xProto)]), (.int .i64 n_1)] w0 (Ret [] F w0 κ (fun (r : Int) (u : Unit) => (.int .i64 r)) (fun (r : Int) (u : Unit) => [])) := by
  refine enter0 (args := [(.agg #[(.int .i64 p_0.xFrom), (.int .i64 p_0.xTo), (.int .i64 p_0.xPort), (.int .i64 p_0.xProto)]), (.int .i64 n_1)]) [] hF (Given.nil _ _) Tryd.func101 rfl Tryd.ntmps101 rfl h ?_
  clear h hF
  refine c_seq ?_
  refine c_region ?_
  refine stw (o_box rfl rfl [(.int .i64 p_0.xFrom), (.int .i64 p_0.xTo), (.int .i64 p_0.xPort), (.int .i64 p_0.xProto)] rfl ?_); intro b1
  refine o_as st rfl rfl ?_
  refine c_nil ?_
  refine l_then ?_
  refine c_seq ?_
  refine c_join (σ := Bool) (fun (t65 : Bool) (a : Act) (w : World) => Has 25 [(1, (.int .i64 n_1)), (2, (.pointer (some ⟨b1, 0, none⟩))), (12, (.bool t65))] a ∧ Mem (gB F [] w0) (feet []) w0 [cellCh b1 [(.int .i64 p_0.xFrom), (.int .i64 p_0.xTo), (.int .i64 p_0.xPort), (.int .i64 p_0.xProto)] 49] w) ?_ ?_
  · intro k66
    refine c_region ?_
    refine o_ldc st (v := (.agg #[(.int .i64 p_0.xFrom), (.int .i64 p_0.xTo), (.int .i64 p_0.xPort), (.int .i64 p_0.xProto)])) 0 rfl rfl rfl ty49 rfl ?_
    refine stw (o_callP (vs := [(.agg #[(.int .i64 p_0.xFrom), (.int .i64 p_0.xTo), (.int .i64 p_0.xPort), (.int .i64 p_0.xProto)])]) Tryd.call37 rfl rfl (by intro w m h; exact (w_spec_PacketValid (F := allB [] w) (p_0 := p_0) allB_ok h).mono (fun _ _ k => ret_free (fun r u => fr_nil) k)) ?_); rintro r3 _
    refine o_not st rfl rfl ?_
    refine o_mv st rfl rfl ?_
    refine st_sp (dj := 8) rfl ?_ ?_
    · refine st_s rfl rfl rfl rfl ?_
      refine st_s rfl rfl rfl rfl ?_
      refine st_s rfl rfl rfl rfl ?_
      refine o_pickT st rfl rfl rfl ?_
      refine c_nil ?_
      exact l_join true (fun a w hE hm => ⟨hE.sub ⟨rfl, rfl, rfl, trivial⟩, (hm.pick [0] rfl)⟩)
    · refine o_mv (st_g rfl rfl) rfl rfl ?_
      refine st_gw rfl rfl (o_callP (vs := [(.int .i64 n_1), (.int .i64 0), (.int .i64 3)]) Tryd.call74 rfl rfl (by intro w m h; exact (w_spec_l1In (F := allB [] w) (n_0 := n_1) (lo_1 := 0) (hi_2 := 3) allB_ok h).mono (fun _ _ k => ret_free (fun r u => fr_nil) k)) ?_); rintro r4 _
      refine o_not (st_g rfl rfl) rfl rfl ?_
      refine o_pickF st rfl rfl rfl ?_
      refine c_nil ?_
      exact l_join (!r4) (fun a w hE hm => ⟨hE.sub ⟨rfl, rfl, rfl, trivial⟩, (hm.pick [0] rfl)⟩)
  · rintro t65 a w ⟨hE, hm⟩ h
    refine nx_of hE hm h ?_
    clear hE hm h
    refine c_cond rfl ?_ ?_
    · refine c_seq ?_
      refine c_region ?_
      refine o_as st rfl rfl ?_
      refine c_nil ?_
      refine l_then ?_
      refine c_ret ?_
      refine l_ret ?_
      exact l_end1 Tryd.results101 (-1) () (rv_t rfl) (fun _ _ => NewCh.nil _ _ _ _)
    · refine c_skip ?_
      refine l_then ?_
      refine c_seq ?_
      refine c_region ?_
      refine o_fad st rfl rfl fld49_0 rfl ?_
      refine o_ldc st (v := (.int .i64 p_0.xFrom)) 0 rfl rfl rfl ty3 rfl ?_
      refine o_fad st rfl rfl fld49_1 rfl ?_
      refine o_ldc st (v := (.int .i64 p_0.xTo)) 0 rfl rfl rfl ty3 rfl ?_
      refine o_fad st rfl rfl fld49_2 rfl ?_
      refine o_ldc st (v := (.int .i64 p_0.xPort)) 0 rfl rfl rfl ty3 rfl ?_
      refine o_fad st rfl rfl fld49_3 rfl ?_
      refine o_ldc st (v := (.int .i64 p_0.xProto)) 0 rfl rfl rfl ty3 rfl ?_
      refine stw (o_bsl (enc := encInt) (qs := [(0, (.int .i64 p_0.xFrom)), (1, (.int .i64 p_0.xTo)), (2, (.int .i64 p_0.xPort)), (3, (.int .i64 p_0.xProto))]) (cells := [(.int .i64 p_0.xFrom), (.int .i64 p_0.xTo), (.int .i64 p_0.xPort), (.int .i64 p_0.xProto)]) ([p_0.xFrom, p_0.xTo, p_0.xPort, p_0.xProto]) flelInt (by intro ρ h; simp only [List.map_toArray, List.map_cons, List.map_nil, h (.tmp 14) _ rfl, h (.tmp 16) _ rfl, h (.tmp 18) _ rfl, h (.tmp 20) _ rfl]) rfl el27 zero3 rfl rfl rfl rfl rfl rfl ?_); intro v67
      refine o_mv st rfl rfl ?_
      refine o_idx st 0 rfl reads_own rfl rfl rfl el27 ?_; intro e69 h70
      refine o_lds st (enc := encInt) (u := (.int .i64 e69)) 0 rfl reads_own flelInt rfl h70 rfl rfl ty3 rfl ?_
      refine o_as st rfl rfl ?_
      refine c_nil ?_
      refine l_then ?_
      refine c_ret ?_
      exact l_end1 Tryd.results101 e69 () (rv_t rfl) (fun _ _ => NewCh.nil _ _ _ _)

set_option maxRecDepth 100000 in
set_option maxHeartbeats 8000000 in
theorem w_spec_BoxHas {w0 : World} {F : Nat → Prop} {v1 : Value} {b_0 : GBox} {p_1 : GPacket} {κ : Bool → Prop} (hF : ∀ b, F b → b < w0.heap.size ∧ ¬ feet [] b) (hv1 : Sl (elSl elGSpan) F w0 v1 b_0.xSides) (h : L_spec_BoxHas b_0 p_1 κ) :
    Calls Tryd.prog 75 #[(.agg #[v1]), (.agg #[(.int .i64 p_1.xFrom), (.int .i64 p_1.xTo), (.int .i64 p_1.xPort), (.int .i64 p_1.xProto)])] w0 (Ret [] F w0 κ (fun (r : Bool) (u : Unit) => (.bool r)) (fun (r : Bool) (u : Unit) => [])) := by
  refine enterS (args := [(.agg #[v1]), (.agg #[(.int .i64 p_1.xFrom), (.int .i64 p_1.xTo), (.int .i64 p_1.xPort), (.int .i64 p_1.xProto)])]) [] hF (Given.nil _ _) Tryd.func75 rfl Tryd.ntmps75 rfl h ?_
  clear h hF
  refine c_seq ?_
  refine c_region ?_
  obtain ⟨a3, l4, q5, hs_⟩ := sl_val hv1; subst hs_
  refine stw (o_box rfl rfl [(.slice a3 l4 q5)] rfl ?_); intro b6
  refine stw (o_box rfl rfl [(.int .i64 p_1.xFrom), (.int .i64 p_1.xTo), (.int .i64 p_1.xPort), (.int .i64 p_1.xProto)] rfl ?_); intro b8
  refine o_as st rfl rfl ?_
  refine c_nil ?_
  refine l_then ?_
  refine c_seq ?_
  refine c_join (σ := Bool) (fun (t72 : Bool) (a : Act) (w : World) => Has 28 [(2, (.pointer (some ⟨b6, 0, none⟩))), (3, (.pointer (some ⟨b8, 0, none⟩))), (13, (.bool t72))] a ∧ Mem (gB F [] w0) (feet []) w0 [cellCh b8 [(.int .i64 p_1.xFrom), (.int .i64 p_1.xTo), (.int .i64 p_1.xPort), (.int .i64 p_1.xProto)] 49, cellCh b6 [(.slice a3 l4 q5)] 85, snapCh w0 F] w) ?_ ?_
  · intro k73
    refine c_region ?_
    refine o_ldc st (v := (.agg #[(.slice a3 l4 q5)])) 1 rfl rfl rfl ty85 rfl ?_
    refine stw (o_callP (vs := [(.agg #[(.slice a3 l4 q5)])]) Tryd.call73 rfl rfl (by intro w m h; exact (w_spec_BoxValid (F := allB [] w) (b_0 := b_0) allB_ok (m.rd0 2 rfl (reads_snap hv1)) h).mono (fun _ _ k => ret_free (fun r u => fr_nil) k)) ?_); rintro r10 _
    refine o_not st rfl rfl ?_
    refine o_mv st rfl rfl ?_
    refine st_sp (dj := 9) rfl ?_ ?_
    · refine st_s rfl rfl rfl rfl ?_
      refine st_s rfl rfl rfl rfl ?_
      refine st_s rfl rfl rfl rfl ?_
      refine o_pickT st rfl rfl rfl ?_
      refine c_nil ?_
      exact l_join true (fun a w hE hm => ⟨hE.sub ⟨rfl, rfl, rfl, trivial⟩, (hm.pick [0, 1, 2] rfl)⟩)
    · refine o_ldc (st_g rfl rfl) (v := (.agg #[(.int .i64 p_1.xFrom), (.int .i64 p_1.xTo), (.int .i64 p_1.xPort), (.int .i64 p_1.xProto)])) 0 rfl rfl rfl ty49 rfl ?_
      refine st_gw rfl rfl (o_callP (vs := [(.agg #[(.int .i64 p_1.xFrom), (.int .i64 p_1.xTo), (.int .i64 p_1.xPort), (.int .i64 p_1.xProto)])]) Tryd.call37 rfl rfl (by intro w m h; exact (w_spec_PacketValid (F := allB [] w) (p_0 := p_1) allB_ok h).mono (fun _ _ k => ret_free (fun r u => fr_nil) k)) ?_); rintro r11 _
      refine o_not (st_g rfl rfl) rfl rfl ?_
      refine o_pickF st rfl rfl rfl ?_
      refine c_nil ?_
      exact l_join (!r11) (fun a w hE hm => ⟨hE.sub ⟨rfl, rfl, rfl, trivial⟩, (hm.pick [0, 1, 2] rfl)⟩)
  · rintro t72 a w ⟨hE, hm⟩ h
    refine nx_of hE hm h ?_
    clear hE hm h
    refine c_cond rfl ?_ ?_
    · refine c_seq ?_
      refine c_region ?_
      refine o_as st rfl rfl ?_
      refine c_nil ?_
      refine l_then ?_
      refine c_ret ?_
      refine l_ret ?_
      exact l_end1 Tryd.results75 false () (rv_t rfl) (fun _ _ => NewCh.nil _ _ _ _)
    · refine c_skip ?_
      refine l_then ?_
      refine c_seq ?_
      refine c_seq ?_
      refine c_region ?_
      refine o_as st rfl rfl ?_
      refine c_nil ?_
      refine l_then ?_
      refine c_block ?_
      refine c_loop (σ := Int) (fun (t74 : Int) (a : Act) (w : World) => Has 28 [(2, (.pointer (some ⟨b6, 0, none⟩))), (3, (.pointer (some ⟨b8, 0, none⟩))), (5, (.int .i64 t74))] a ∧ Mem (gB F [] w0) (feet []) w0 [cellCh b8 [(.int .i64 p_1.xFrom), (.int .i64 p_1.xTo), (.int .i64 p_1.xPort), (.int .i64 p_1.xProto)] 49, cellCh b6 [(.slice a3 l4 q5)] 85, snapCh w0 F] w) (fun a w hE hm => ⟨hE.sub ⟨rfl, rfl, rfl, trivial⟩, (hm.pick [0, 1, 2] rfl)⟩) ?_
      rintro nx75 t74 a w ⟨hE, hm⟩ h
      refine nx_of hE hm h ?_
      clear hE hm h
      refine c_seq ?_
      refine c_seq ?_
      refine c_region ?_
      refine o_mv st rfl rfl ?_
      refine o_lss st rfl rfl rfl ?_
      refine c_nil ?_
      refine l_then ?_
      refine c_cond rfl ?_ ?_
      · refine c_skip ?_
        refine l_then ?_
        refine c_seq ?_
        refine c_block ?_
        refine c_seq ?_
        refine c_draw mixed 10 rfl [cellCh b8 [(.int .i64 p_1.xFrom), (.int .i64 p_1.xTo), (.int .i64 p_1.xPort), (.int .i64 p_1.xProto)] 49, cellCh b6 [(.slice a3 l4 q5)] 85, snapCh w0 F] ?_
        refine o_fad (dt 0 (fun _ m => m)) rfl rfl fld85_0 rfl ?_
        refine o_ldc (dt 1 (fun _ m => m)) (v := (.slice a3 l4 q5)) 1 rfl rfl rfl ty83 rfl ?_
        refine o_mv (dt 2 (fun _ m => m)) rfl rfl ?_
        refine o_idx (dt 3 (fun _ m => m)) 2 rfl (reads_snap hv1) rfl rfl rfl el83 ?_; intro e76 h77
        obtain ⟨_, ⟨v79, rfl, sl80⟩, rw78⟩ := sl_open hv1 h77
        refine o_ldR (dt 4 (fun _ m => m)) (u := v79) 2 rfl rw78 rfl rfl ty72 rfl ?_
        refine o_ldc (dt 5 (fun _ m => m)) (v := (.agg #[(.int .i64 p_1.xFrom), (.int .i64 p_1.xTo), (.int .i64 p_1.xPort), (.int .i64 p_1.xProto)])) 0 rfl rfl rfl ty49 rfl ?_
        refine o_mv (dt 6 (fun _ m => m)) rfl rfl ?_
        refine d_one (i := 7) rfl (by kernel_rfl) (o_callP (vs := [(.agg #[(.int .i64 p_1.xFrom), (.int .i64 p_1.xTo), (.int .i64 p_1.xPort), (.int .i64 p_1.xProto)]), (.int .i64 t74)]) Tryd.call101 rfl rfl (by intro w m h; exact (w_spec_PacketField (F := allB [] w) (p_0 := p_1) (n_1 := t74) allB_ok h).mono (fun _ _ k => ret_free (fun r u => fr_nil) k)) ?_); rintro r82 _
        refine d_and (fun _ m => m) ?_
        refine d_one (i := 8) rfl (by kernel_rfl) (o_callP (vs := [v79, (.int .i64 r82)]) Tryd.call100 rfl rfl (by intro w m h; exact (w_spec_SpansHave (F := allB [] w) (list_0 := e76) (n_1 := r82) allB_ok (m.rd0 2 rfl (reads_snap sl80)) h).mono (fun _ _ k => ret_free (fun r u => fr_nil) k)) ?_); rintro r83 _
        refine d_and (fun _ m => m) ?_
        refine o_not (dt 9 (fun _ m => m)) rfl rfl ?_
        refine d_done (by kernel_rfl) ?_
        refine l_then ?_
        refine c_cond rfl ?_ ?_
        · refine c_seq ?_
          refine c_region ?_
          refine o_as st rfl rfl ?_
          refine c_nil ?_
          refine l_then ?_
          refine c_ret ?_
          refine b_ret ?_
          refine l_ret ?_
          refine l_ret ?_
          refine b_ret ?_
          refine l_ret ?_
          exact l_end1 Tryd.results75 false () (rv_t rfl) (fun _ _ => NewCh.nil _ _ _ _)
        · refine c_skip ?_
          refine b_norm ?_
          refine l_then ?_
          refine c_region ?_
          refine o_mv st rfl rfl ?_
          refine o_add st rfl rfl rfl ?_; intro t84
          refine o_as st rfl rfl ?_
          refine c_nil ?_
          exact l_join t84 (fun a w hE hm => ⟨hE.sub ⟨rfl, rfl, rfl, trivial⟩, (hm.pick [0, 1, 2] rfl)⟩)
      · refine c_exit ?_
        refine l_exit ?_
        refine l_exit ?_
        refine b_exit ?_
        refine l_then ?_
        refine c_seq ?_
        refine c_region ?_
        refine o_as st rfl rfl ?_
        refine c_nil ?_
        refine l_then ?_
        refine c_ret ?_
        exact l_end1 Tryd.results75 true () (rv_t rfl) (fun _ _ => NewCh.nil _ _ _ _)

set_option maxRecDepth 100000 in
set_option maxHeartbeats 8000000 in
theorem w_spec_DecidedBy {w0 : World} {F : Nat → Prop} {v1 : Value} {list_0 : (List GFlat)} {p_1 : GPacket} {κ : Int → Prop} (hF : ∀ b, F b → b < w0.heap.size ∧ ¬ feet [] b) (hv1 : Sl elGFlat F w0 v1 list_0) (h : L_spec_DecidedBy list_0 p_1 κ) :
    Calls Tryd.prog 38 #[v1, (.agg #[(.int .i64 p_1.xFrom), (.int .i64 p_1.xTo), (.int .i64 p_1.xPort), (.int .i64 p_1.xProto)])] w0 (Ret [] F w0 κ (fun (r : Int) (u : Unit) => (.int .i64 r)) (fun (r : Int) (u : Unit) => [])) := by
  refine enterS (args := [v1, (.agg #[(.int .i64 p_1.xFrom), (.int .i64 p_1.xTo), (.int .i64 p_1.xPort), (.int .i64 p_1.xProto)])]) [] hF (Given.nil _ _) Tryd.func38 rfl Tryd.ntmps38 rfl h ?_
  clear h hF
  refine c_seq ?_
  refine c_region ?_
  refine stw (o_box rfl rfl [(.int .i64 p_1.xFrom), (.int .i64 p_1.xTo), (.int .i64 p_1.xPort), (.int .i64 p_1.xProto)] rfl ?_); intro b3
  refine o_as st rfl rfl ?_
  refine c_nil ?_
  refine l_then ?_
  refine c_seq ?_
  refine c_seq ?_
  refine c_region ?_
  refine o_as st rfl rfl ?_
  refine c_nil ?_
  refine l_then ?_
  refine c_block ?_
  refine c_loop (σ := Int) (fun (t5 : Int) (a : Act) (w : World) => Has 24 [(0, v1), (3, (.pointer (some ⟨b3, 0, none⟩))), (5, (.int .i64 t5))] a ∧ Mem (gB F [] w0) (feet []) w0 [cellCh b3 [(.int .i64 p_1.xFrom), (.int .i64 p_1.xTo), (.int .i64 p_1.xPort), (.int .i64 p_1.xProto)] 49, snapCh w0 F] w) (fun a w hE hm => ⟨hE.sub ⟨rfl, rfl, rfl, trivial⟩, (hm.pick [0, 1] rfl)⟩) ?_
  rintro nx6 t5 a w ⟨hE, hm⟩ h
  refine nx_of hE hm h ?_
  clear hE hm h
  refine c_seq ?_
  refine c_join (σ := Bool) (fun (t68 : Bool) (a : Act) (w : World) => Has 24 [(0, v1), (3, (.pointer (some ⟨b3, 0, none⟩))), (5, (.int .i64 t5)), (13, (.bool t68))] a ∧ Mem (gB F [] w0) (feet []) w0 [cellCh b3 [(.int .i64 p_1.xFrom), (.int .i64 p_1.xTo), (.int .i64 p_1.xPort), (.int .i64 p_1.xProto)] 49, snapCh w0 F] w) ?_ ?_
  · intro k69
    refine c_region ?_
    refine o_mv st rfl rfl ?_
    refine o_mv st rfl rfl ?_
    refine o_len st el23 1 rfl (reads_snap hv1) rfl rfl ?_
    refine o_lss st rfl rfl rfl ?_
    refine o_mv st rfl rfl ?_
    refine st_sp (dj := 10) rfl ?_ ?_
    · refine o_mv (st_g rfl rfl) rfl rfl ?_
      refine st_gw rfl rfl (o_callP (vs := [v1]) Tryd.call36 rfl rfl (by intro w m h; exact (w_spec_FlatsValid (F := allB [] w) (list_0 := list_0) allB_ok (m.rd0 1 rfl (reads_snap hv1)) h).mono (fun _ _ k => ret_free (fun r u => fr_nil) k)) ?_); rintro r7 _
      refine o_pickT st rfl rfl rfl ?_
      refine c_nil ?_
      exact l_join r7 (fun a w hE hm => ⟨hE.sub ⟨rfl, rfl, rfl, rfl, trivial⟩, (hm.pick [0, 1] rfl)⟩)
    · refine st_s rfl rfl rfl rfl ?_
      refine st_s rfl rfl rfl rfl ?_
      refine o_pickF st rfl rfl rfl ?_
      refine c_nil ?_
      exact l_join false (fun a w hE hm => ⟨hE.sub ⟨rfl, rfl, rfl, rfl, trivial⟩, (hm.pick [0, 1] rfl)⟩)
  · rintro t68 a w ⟨hE, hm⟩ h
    refine nx_of hE hm h ?_
    clear hE hm h
    refine c_cond rfl ?_ ?_
    · refine c_skip ?_
      refine l_then ?_
      refine c_seq ?_
      refine c_block ?_
      refine c_seq ?_
      refine c_draw mixed 7 rfl [cellCh b3 [(.int .i64 p_1.xFrom), (.int .i64 p_1.xTo), (.int .i64 p_1.xPort), (.int .i64 p_1.xProto)] 49, snapCh w0 F] ?_
      refine o_mv (dt 0 (fun _ m => m)) rfl rfl ?_
      refine o_mv (dt 1 (fun _ m => m)) rfl rfl ?_
      refine o_idx (dt 2 (fun _ m => m)) 1 rfl (reads_snap hv1) rfl rfl rfl el23 ?_; intro e70 h71
      refine o_fadS (dt 3 (fun _ m => m)) 1 rfl (reads_snap hv1) h71 rfl rfl fld87_0 rfl ?_
      obtain ⟨_, ⟨v73, rfl, sl74⟩, rw72⟩ := sl_open hv1 h71
      refine o_ldR (dt 4 (fun _ m => m)) (u := (.agg #[v73])) 1 rfl rw72 rfl rfl ty85 rfl ?_
      refine o_ldc (dt 5 (fun _ m => m)) (v := (.agg #[(.int .i64 p_1.xFrom), (.int .i64 p_1.xTo), (.int .i64 p_1.xPort), (.int .i64 p_1.xProto)])) 0 rfl rfl rfl ty49 rfl ?_
      refine d_one (i := 6) rfl (by kernel_rfl) (o_callP (vs := [(.agg #[v73]), (.agg #[(.int .i64 p_1.xFrom), (.int .i64 p_1.xTo), (.int .i64 p_1.xPort), (.int .i64 p_1.xProto)])]) Tryd.call75 rfl rfl (by intro w m h; exact (w_spec_BoxHas (F := allB [] w) (b_0 := e70.xWhere) (p_1 := p_1) allB_ok (m.rd0 1 rfl (reads_snap sl74)) h).mono (fun _ _ k => ret_free (fun r u => fr_nil) k)) ?_); rintro r76 _
      refine d_and (fun _ m => m) ?_
      refine d_done (by kernel_rfl) ?_
      refine l_then ?_
      refine c_cond rfl ?_ ?_
      · refine c_seq ?_
        refine c_region ?_
        refine o_mv st rfl rfl ?_
        refine o_as st rfl rfl ?_
        refine c_nil ?_
        refine l_then ?_
        refine c_ret ?_
        refine b_ret ?_
        refine l_ret ?_
        refine l_ret ?_
        refine b_ret ?_
        refine l_ret ?_
        exact l_end1 Tryd.results38 t5 () (rv_t rfl) (fun _ _ => NewCh.nil _ _ _ _)
      · refine c_skip ?_
        refine b_norm ?_
        refine l_then ?_
        refine c_region ?_
        refine o_mv st rfl rfl ?_
        refine o_add st rfl rfl rfl ?_; intro t77
        refine o_as st rfl rfl ?_
        refine c_nil ?_
        exact l_join t77 (fun a w hE hm => ⟨hE.sub ⟨rfl, rfl, rfl, trivial⟩, (hm.pick [0, 1] rfl)⟩)
    · refine c_exit ?_
      refine l_exit ?_
      refine l_exit ?_
      refine b_exit ?_
      refine l_then ?_
      refine c_seq ?_
      refine c_region ?_
      refine o_as st rfl rfl ?_
      refine c_nil ?_
      refine l_then ?_
      refine c_ret ?_
      exact l_end1 Tryd.results38 (-1) () (rv_t rfl) (fun _ _ => NewCh.nil _ _ _ _)

set_option maxRecDepth 100000 in
set_option maxHeartbeats 8000000 in
theorem w_spec_HitCounts {w0 : World} {F : Nat → Prop} {v1 : Value} {v3 : Value} {list_0 : (List GFlat)} {packets_1 : (List GPacket)} {κ : (List Int) → Prop} (hF : ∀ b, F b → b < w0.heap.size ∧ ¬ feet [] b) (hv1 : Sl elGFlat F w0 v1 list_0) (hv3 : Sl elGPacket F w0 v3 packets_1) (h : L_spec_HitCounts list_0 packets_1 κ) :
    Calls Tryd.prog 10 #[v1, v3] w0 (Ret [] F w0 κ (fun (r : (List Int)) (u : Value) => u) (fun (r : (List Int)) (u : Value) => [ownCh elInt 3 u r])) := by
  refine enterS (args := [v1, v3]) [] hF (Given.nil _ _) Tryd.func10 rfl Tryd.ntmps10 rfl h ?_
  clear h hF
  refine c_seq ?_
  refine c_region ?_
  refine stw (o_asn elInt 3 rfl rfl ?_)
  refine c_nil ?_
  refine l_then ?_
  refine c_seq ?_
  refine c_join (σ := Bool) (fun (t67 : Bool) (a : Act) (w : World) => Has 53 [(0, v1), (1, v3), (15, (.bool t67))] a ∧ Mem (gB F [] w0) (feet []) w0 [snapCh w0 F] w) ?_ ?_
  · intro k68
    refine c_region ?_
    refine o_mv st rfl rfl ?_
    refine stw (o_callP (vs := [v1]) Tryd.call36 rfl rfl (by intro w m h; exact (w_spec_FlatsValid (F := allB [] w) (list_0 := list_0) allB_ok (m.rd0 1 rfl (reads_snap hv1)) h).mono (fun _ _ k => ret_free (fun r u => fr_nil) k)) ?_); rintro r6 _
    refine o_not st rfl rfl ?_
    refine o_mv st rfl rfl ?_
    refine st_sp (dj := 11) rfl ?_ ?_
    · refine st_s rfl rfl rfl rfl ?_
      refine st_s rfl rfl rfl rfl ?_
      refine st_s rfl rfl rfl rfl ?_
      refine o_pickT st rfl rfl rfl ?_
      refine c_nil ?_
      exact l_join true (fun a w hE hm => ⟨hE.sub ⟨rfl, rfl, rfl, trivial⟩, (hm.pick [1] rfl)⟩)
    · refine o_mv (st_g rfl rfl) rfl rfl ?_
      refine o_len (st_g rfl rfl) el24 1 rfl (reads_snap hv3) rfl rfl ?_
      refine o_gtr (st_g rfl rfl) rfl rfl rfl ?_
      refine o_pickF st rfl rfl rfl ?_
      refine c_nil ?_
      exact l_join (decide (50 < (packets_1.length : Int))) (fun a w hE hm => ⟨hE.sub ⟨rfl, rfl, rfl, trivial⟩, (hm.pick [1] rfl)⟩)
  · rintro t67 a w ⟨hE, hm⟩ h
    refine nx_of hE hm h ?_
    clear hE hm h
    refine c_cond rfl ?_ ?_
    · refine c_seq ?_
      refine c_region ?_
      refine stw (o_bsl (enc := encInt) (qs := []) (cells := []) ([] : (List Int)) flelInt (by intro ρ h; simp only [List.map_toArray, List.map_cons, List.map_nil]) rfl el27 zero3 rfl rfl rfl rfl rfl rfl ?_); intro v69
      refine o_as st rfl rfl ?_
      refine c_nil ?_
      refine l_then ?_
      refine c_ret ?_
      refine l_ret ?_
      exact l_end1 Tryd.results10 ([]) v69 (rv_t rfl) (fun w m => NewCh.ofB m [0] rfl)
    · refine c_skip ?_
      refine l_then ?_
      refine c_seq ?_
      refine c_region ?_
      refine o_mv st rfl rfl ?_
      refine o_len st el23 0 rfl (reads_snap hv1) rfl rfl ?_
      refine o_add st rfl rfl rfl ?_; intro t71
      refine stw (o_make (z := 0) flelInt rfl rfl rfl el27 rfl zero3 rfl rfl ?_); intro v72 xs73
      refine o_as st rfl rfl ?_
      refine c_nil ?_
      refine l_then ?_
      refine c_seq ?_
      refine c_seq ?_
      refine c_region ?_
      refine o_as st rfl rfl ?_
      refine c_nil ?_
      refine l_then ?_
      refine c_block ?_
      refine c_loop (σ := ((List Int) × Int)) (fun ((xs75, t77) : ((List Int) × Int)) (a : Act) (w : World) => Has 53 [(0, v1), (1, v3), (5, v72), (6, (.int .i64 t77))] a ∧ Mem (gB F [] w0) (feet []) w0 [ownCh elInt 3 v72 xs75, snapCh w0 F] w) (fun a w hE hm => ⟨hE.sub ⟨rfl, rfl, rfl, rfl, trivial⟩, (hm.pick [0, 1] rfl)⟩) ?_
      rintro nx78 ⟨xs75, t77⟩ a w ⟨hE, hm⟩ h
      refine nx_of hE hm h ?_
      clear hE hm h
      refine c_seq ?_
      refine c_seq ?_
      refine c_region ?_
      refine o_mv st rfl rfl ?_
      refine o_mv st rfl rfl ?_
      refine o_len st el24 1 rfl (reads_snap hv3) rfl rfl ?_
      refine o_lss st rfl rfl rfl ?_
      refine c_nil ?_
      refine l_then ?_
      refine c_cond rfl ?_ ?_
      · refine c_skip ?_
        refine l_then ?_
        refine c_seq ?_
        refine c_block ?_
        refine c_seq ?_
        refine c_seq ?_
        refine c_region ?_
        refine o_mv st rfl rfl ?_
        refine o_mv st rfl rfl ?_
        refine o_idx st 1 rfl (reads_snap hv3) rfl rfl rfl el24 ?_; intro e79 h80
        refine o_lds st (enc := encGPacket) (u := (.agg #[(.int .i64 e79.xFrom), (.int .i64 e79.xTo), (.int .i64 e79.xPort), (.int .i64 e79.xProto)])) 1 rfl (reads_snap hv3) flelGPacket rfl h80 rfl rfl ty49 rfl ?_
        refine stw (o_callP (vs := [(.agg #[(.int .i64 e79.xFrom), (.int .i64 e79.xTo), (.int .i64 e79.xPort), (.int .i64 e79.xProto)])]) Tryd.call37 rfl rfl (by intro w m h; exact (w_spec_PacketValid (F := allB [] w) (p_0 := e79) allB_ok h).mono (fun _ _ k => ret_free (fun r u => fr_nil) k)) ?_); rintro r81 _
        refine o_not st rfl rfl ?_
        refine c_nil ?_
        refine l_then ?_
        refine c_cond rfl ?_ ?_
        · refine c_seq ?_
          refine c_region ?_
          refine stw (o_bsl (enc := encInt) (qs := []) (cells := []) ([] : (List Int)) flelInt (by intro ρ h; simp only [List.map_toArray, List.map_cons, List.map_nil]) rfl el27 zero3 rfl rfl rfl rfl rfl rfl ?_); intro v82
          refine o_as st rfl rfl ?_
          refine c_nil ?_
          refine l_then ?_
          refine c_ret ?_
          refine l_ret ?_
          refine b_ret ?_
          refine l_ret ?_
          refine l_ret ?_
          refine b_ret ?_
          refine l_ret ?_
          exact l_end1 Tryd.results10 ([]) v82 (rv_t rfl) (fun w m => NewCh.ofB m [0] rfl)
        · refine c_skip ?_
          refine l_then ?_
          refine c_seq ?_
          refine c_region ?_
          refine o_mv st rfl rfl ?_
          refine o_mv st rfl rfl ?_
          refine o_mv st rfl rfl ?_
          refine o_idx st 1 rfl (reads_snap hv3) rfl rfl rfl el24 ?_; intro e84 h85
          refine o_lds st (enc := encGPacket) (u := (.agg #[(.int .i64 e84.xFrom), (.int .i64 e84.xTo), (.int .i64 e84.xPort), (.int .i64 e84.xProto)])) 1 rfl (reads_snap hv3) flelGPacket rfl h85 rfl rfl ty49 rfl ?_
          refine stw (o_callP (vs := [v1, (.agg #[(.int .i64 e84.xFrom), (.int .i64 e84.xTo), (.int .i64 e84.xPort), (.int .i64 e84.xProto)])]) Tryd.call38 rfl rfl (by intro w m h; exact (w_spec_DecidedBy (F := allB [] w) (list_0 := list_0) (p_1 := e84) allB_ok (m.rd0 1 rfl (reads_snap hv1)) h).mono (fun _ _ k => ret_free (fun r u => fr_nil) k)) ?_); rintro r86 _
          refine o_as st rfl rfl ?_
          refine c_nil ?_
          refine l_then ?_
          refine c_join (σ := Int) (fun (t147 : Int) (a : Act) (w : World) => Has 53 [(0, v1), (1, v3), (5, v72), (6, (.int .i64 t77)), (7, (.int .i64 t147))] a ∧ Mem (gB F [] w0) (feet []) w0 [ownCh elInt 3 v72 xs75, snapCh w0 F] w) ?_ ?_
          · intro k148
            refine c_seq ?_
            refine c_region ?_
            refine o_mv st rfl rfl ?_
            refine o_lss st rfl rfl rfl ?_
            refine c_nil ?_
            refine l_then ?_
            refine c_cond rfl ?_ ?_
            · refine c_region ?_
              refine o_mv st rfl rfl ?_
              refine o_len st el23 1 rfl (reads_snap hv1) rfl rfl ?_
              refine o_as st rfl rfl ?_
              refine c_nil ?_
              exact l_join (list_0.length : Int) (fun a w hE hm => ⟨hE.sub ⟨rfl, rfl, rfl, rfl, rfl, trivial⟩, (hm.pick [0, 1] rfl)⟩)
            · refine c_skip ?_
              exact l_join r86 (fun a w hE hm => ⟨hE.sub ⟨rfl, rfl, rfl, rfl, rfl, trivial⟩, (hm.pick [0, 1] rfl)⟩)
          · rintro t147 a w ⟨hE, hm⟩ h
            refine nx_of hE hm h ?_
            clear hE hm h
            refine c_region ?_
            refine o_mv st rfl rfl ?_
            refine o_mv st rfl rfl ?_
            refine o_mv st rfl rfl ?_
            refine o_mv st rfl rfl ?_
            refine o_idx st 0 rfl reads_own rfl rfl rfl el27 ?_; intro e149 h150
            refine o_lds st (enc := encInt) (u := (.int .i64 e149)) 0 rfl reads_own flelInt rfl h150 rfl rfl ty3 rfl ?_
            refine o_add st rfl rfl rfl ?_; intro t151
            refine o_idx st 0 rfl reads_own rfl rfl rfl el27 ?_; intro e152 h153
            refine stw (o_sts (enc := encInt) (y' := t151) 0 rfl flelInt rfl h153 ty3 rfl rfl rfl rfl rfl rfl ?_)
            refine c_nil ?_
            refine b_norm ?_
            refine l_then ?_
            refine c_region ?_
            refine o_mv st rfl rfl ?_
            refine o_add st rfl rfl rfl ?_; intro t155
            refine o_as st rfl rfl ?_
            refine c_nil ?_
            exact l_join ((xs75.set (t147).toNat t151), t155) (fun a w hE hm => ⟨hE.sub ⟨rfl, rfl, rfl, rfl, trivial⟩, (hm.pick [0, 1] rfl)⟩)
      · refine c_exit ?_
        refine l_exit ?_
        refine l_exit ?_
        refine b_exit ?_
        refine l_then ?_
        refine c_seq ?_
        refine c_region ?_
        refine o_mv st rfl rfl ?_
        refine o_as st rfl rfl ?_
        refine c_nil ?_
        refine l_then ?_
        refine c_ret ?_
        exact l_end1 Tryd.results10 xs75 v72 (rv_t rfl) (fun w m => NewCh.ofB m [0] rfl)

set_option maxRecDepth 100000 in
set_option maxHeartbeats 8000000 in
theorem w_laws_alive {w0 : World} {F : Nat → Prop} {κ : Bool → Prop} (hF : ∀ b, F b → b < w0.heap.size ∧ ¬ feet [] b) (h : L_laws_alive κ) :
    Calls Tryd.prog 11 #[] w0 (Ret [] F w0 κ (fun (r : Bool) (u : Unit) => (.bool r)) (fun (r : Bool) (u : Unit) => [])) := by
  refine enter0 (args := []) [] hF (Given.nil _ _) Tryd.func11 rfl Tryd.ntmps11 rfl h ?_
  clear h hF
  refine c_seq ?_
  refine c_region ?_
  refine o_as st rfl rfl ?_
  refine c_nil ?_
  refine l_then ?_
  refine c_seq ?_
  refine c_region ?_
  refine o_bld st (qs := [(0, (.int .i64 2)), (1, (.int .i64 4))]) (cells := [(.int .i64 2), (.int .i64 4)]) (by intro ρ h; simp only [List.map_toArray, List.map_cons, List.map_nil, h (.const (.int .i64 2)) _ rfl, h (.const (.int .i64 4)) _ rfl]) rfl bld71 rfl ?_
  refine stw (o_bsl (enc := encGSpan) (qs := [(0, (.agg #[(.int .i64 2), (.int .i64 4)]))]) (cells := [(.int .i64 2), (.int .i64 4)]) ([(GSpan.mk 2 4)]) flelGSpan (by intro ρ h; simp only [List.map_toArray, List.map_cons, List.map_nil, h (.tmp 1) _ rfl]) rfl el72 zero71 rfl rfl rfl rfl rfl rfl ?_); intro v1
  refine stw (o_callP (vs := [v1, (.int .i64 3)]) Tryd.call39 rfl rfl (by intro w m h; exact (w_impl_SpansHave (F := allB [] w) (list_0 := ([(GSpan.mk 2 4)])) (n_1 := 3) allB_ok (m.rd0 0 rfl reads_own) h).mono (fun _ _ k => ret_free (fun r u => fr_nil) k)) ?_); rintro r3 _
  refine o_as st rfl rfl ?_
  refine c_nil ?_
  refine l_then ?_
  refine c_ret ?_
  exact l_end1 Tryd.results11 r3 () (rv_t rfl) (fun _ _ => NewCh.nil _ _ _ _)

end
section
open Go.RowKit
set_option maxRecDepth 100000 in
set_option maxHeartbeats 8000000 in
theorem w_impl_sides_empty {w0 : World} {F : Nat → Prop} {v1 : Value} {v3 : Value} {v5 : Value} {v7 : Value} {s_0 : A4ListGSpan} {κ : Bool → Prop} (hF : ∀ b, F b → b < w0.heap.size ∧ ¬ feet [] b) (hv1 : Sl elGSpan F w0 v1 s_0.x0) (hv3 : Sl elGSpan F w0 v3 s_0.x1) (hv5 : Sl elGSpan F w0 v5 s_0.x2) (hv7 : Sl elGSpan F w0 v7 s_0.x3) (h : L_impl_sides_empty s_0 κ) :
    Calls Tryd.prog 80 #[(.agg #[v1, v3, v5, v7])] w0 (Ret [] F w0 κ (fun (r : Bool) (u : Unit) => (.bool r)) (fun (r : Bool) (u : Unit) => [])) := by
  refine enterS (args := [(.agg #[v1, v3, v5, v7])]) [] hF (Given.nil _ _) Tryd.func80 rfl Tryd.ntmps80 rfl h ?_
  clear h hF
  refine c_seq ?_
  refine c_region ?_
  obtain ⟨a9, l10, q11, hs_⟩ := sl_val hv1; subst hs_
  obtain ⟨a12, l13, q14, hs_⟩ := sl_val hv3; subst hs_
  obtain ⟨a15, l16, q17, hs_⟩ := sl_val hv5; subst hs_
  obtain ⟨a18, l19, q20, hs_⟩ := sl_val hv7; subst hs_
  refine stw (o_boxA (El' := (elSl elGSpan)) (len := 4) ([s_0.x0, s_0.x1, s_0.x2, s_0.x3]) ([[(.slice a9 l10 q11)], [(.slice a12 l13 q14)], [(.slice a15 l16 q17)], [(.slice a18 l19 q20)]]) (fun w m => ⟨⟨(.slice a9 l10 q11), rfl, (m.roS 0 rfl hv1)⟩, ⟨(.slice a12 l13 q14), rfl, (m.roS 0 rfl hv3)⟩, ⟨(.slice a15 l16 q17), rfl, (m.roS 0 rfl hv5)⟩, ⟨(.slice a18 l19 q20), rfl, (m.roS 0 rfl hv7)⟩, trivial⟩) rfl rfl rfl rfl rfl rfl ?_); intro b21
  refine o_as st rfl rfl ?_
  refine c_nil ?_
  refine l_then ?_
  refine c_seq ?_
  refine c_seq ?_
  refine c_region ?_
  refine stw (o_ldAN (len := 4) 0 rfl src_own rfl rfl rfl ty114 rfl ?_); rintro wr23 ff24 _ hrows_; obtain ⟨_, _, _, _, rfl, hc0_, hc1_, hc2_, hc3_⟩ := rows_l4 hrows_; obtain ⟨v26, rfl, sl27⟩ := hc0_; obtain ⟨v29, rfl, sl30⟩ := hc1_; obtain ⟨v32, rfl, sl33⟩ := hc2_; obtain ⟨v35, rfl, sl36⟩ := hc3_; refine ⟨[v26, v29, v32, v35], rfl, ?_⟩
  refine o_mv st rfl rfl ?_
  refine c_nil ?_
  refine l_then ?_
  refine c_block ?_
  refine c_loop (σ := Int) (fun (t38 : Int) (a : Act) (w : World) => Has 13 [(5, (.agg #[v26, v29, v32, v35])), (6, (.int .i64 t38))] a ∧ Mem (gB F [] w0) (feet []) w0 [snapCh wr23 ff24] w) (fun a w hE hm => ⟨hE.sub ⟨rfl, rfl, trivial⟩, (hm.pick [0] rfl)⟩) ?_
  rintro nx39 t38 a w ⟨hE, hm⟩ h
  refine nx_of hE hm h ?_
  clear hE hm h
  refine c_seq ?_
  refine c_region ?_
  refine o_lss st rfl rfl rfl ?_
  refine c_nil ?_
  refine l_then ?_
  refine c_seq ?_
  refine c_cond rfl ?_ ?_
  · refine c_skip ?_
    refine l_then ?_
    refine c_seq ?_
    refine c_block ?_
    refine c_seq ?_
    refine c_region ?_
    refine o_ixN st (vs := [v26, v29, v32, v35]) (xs := [s_0.x0, s_0.x1, s_0.x2, s_0.x3]) (fun w m => ⟨(m.roS 0 rfl sl27), (m.roS 0 rfl sl30), (m.roS 0 rfl sl33), (m.roS 0 rfl sl36), trivial⟩) rfl rfl rfl arr114 rfl ?_; intro v40 e41 h42
    refine o_as st rfl rfl ?_
    refine c_nil ?_
    refine l_then ?_
    refine c_seq ?_
    refine c_region ?_
    refine o_mv st rfl rfl ?_
    refine o_len st el72 0 rfl reads_ro rfl rfl ?_
    refine o_eql st und3 rfl rfl rfl ?_
    refine c_nil ?_
    refine l_then ?_
    refine c_cond rfl ?_ ?_
    · refine c_seq ?_
      refine c_region ?_
      refine o_as st rfl rfl ?_
      refine c_nil ?_
      refine l_then ?_
      refine c_ret ?_
      refine b_ret ?_
      refine l_ret ?_
      refine l_ret ?_
      refine b_ret ?_
      refine l_ret ?_
      exact l_end1 Tryd.results80 true () (rv_t rfl) (fun _ _ => NewCh.nil _ _ _ _)
    · refine c_skip ?_
      refine b_norm ?_
      refine l_then ?_
      refine c_region ?_
      refine o_add st rfl rfl rfl ?_; intro t44
      refine o_mv st rfl rfl ?_
      refine c_nil ?_
      exact l_join t44 (fun a w hE hm => ⟨hE.sub ⟨rfl, rfl, trivial⟩, (hm.pick [1] rfl)⟩)
  · refine c_exit ?_
    refine l_exit ?_
    refine l_exit ?_
    refine b_exit ?_
    refine l_then ?_
    refine c_seq ?_
    refine c_region ?_
    refine o_as st rfl rfl ?_
    refine c_nil ?_
    refine l_then ?_
    refine c_ret ?_
    exact l_end1 Tryd.results80 false () (rv_t rfl) (fun _ _ => NewCh.nil _ _ _ _)

set_option maxRecDepth 100000 in
set_option maxHeartbeats 8000000 in
theorem w_impl_wheres {w0 : World} {F : Nat → Prop} {v1 : Value} {list_0 : (List GIflat)} {κ : (List A4ListGSpan) → Prop} (hF : ∀ b, F b → b < w0.heap.size ∧ ¬ feet [] b) (hv1 : Sl elGIflat F w0 v1 list_0) (h : L_impl_wheres list_0 κ) :
    Calls Tryd.prog 54 #[v1] w0 (Ret [] F w0 κ (fun (r : (List A4ListGSpan)) (u : Value) => u) (fun (r : (List A4ListGSpan)) (u : Value) => [ownCh elA4ListGSpan 114 u r])) := by
  refine enterS (args := [v1]) [] hF (Given.nil _ _) Tryd.func54 rfl Tryd.ntmps54 rfl h ?_
  clear h hF
  refine c_seq ?_
  refine c_region ?_
  refine stw (o_asn elA4ListGSpan 114 rfl rfl ?_)
  refine c_nil ?_
  refine l_then ?_
  refine c_seq ?_
  refine c_region ?_
  refine o_mv st rfl rfl ?_
  refine o_len st el64 1 rfl (reads_snap hv1) rfl rfl ?_
  refine stw (o_makeN (El' := elA4ListGSpan) (z := (A4ListGSpan.mk ([]) ([]) ([]) ([]))) (fun F w => ⟨⟨_, _, _, _⟩, rfl, ⟨Sl.nil .., Sl.nil .., Sl.nil .., Sl.nil ..⟩⟩) rfl rfl rfl el98 rfl zero114 rfl ?_); intro v4 xs5
  refine o_as st rfl rfl ?_
  refine c_nil ?_
  refine l_then ?_
  refine c_seq ?_
  refine c_seq ?_
  refine c_region ?_
  refine o_mv st rfl rfl ?_
  refine o_len st el64 2 rfl (reads_snap hv1) rfl rfl ?_
  refine o_mv st rfl rfl ?_
  refine c_nil ?_
  refine l_then ?_
  refine c_block ?_
  refine c_loop (σ := ((List A4ListGSpan) × Int)) (fun ((xs8, t11) : ((List A4ListGSpan) × Int)) (a : Act) (w : World) => ∃ (v7 : Value), Has 22 [(3, v7), (9, v1), (10, (.int .i64 (list_0.length : Int))), (11, (.int .i64 t11))] a ∧ Mem (gB F [] w0) (feet []) w0 [snapCh w0 F, ownCh elA4ListGSpan 114 v7 xs8] w) (fun a w hE hm => ⟨v4, hE.sub ⟨rfl, rfl, rfl, rfl, trivial⟩, (hm.pick [2, 0] rfl)⟩) ?_
  rintro nx12 ⟨xs8, t11⟩ a w ⟨v7, hE, hm⟩ h
  refine nx_of hE hm h ?_
  clear hE hm h
  refine c_seq ?_
  refine c_region ?_
  refine o_lss st rfl rfl rfl ?_
  refine c_nil ?_
  refine l_then ?_
  refine c_seq ?_
  refine c_cond rfl ?_ ?_
  · refine c_skip ?_
    refine l_then ?_
    refine c_seq ?_
    refine c_block ?_
    refine c_seq ?_
    refine c_region ?_
    refine o_idx st 0 rfl (reads_snap hv1) rfl rfl rfl el64 ?_; intro e13 h14
    obtain ⟨_, ⟨⟨v16, v19, v22, v25⟩, rfl, ⟨sl17, sl20, sl23, sl26⟩⟩, rw15⟩ := sl_open hv1 h14
    refine o_ldR st (u := (.agg #[v16, v19, v22, v25, (.bool e13.xAccept)])) 0 rfl rw15 rfl rfl ty117 rfl ?_
    refine stw (o_alloc rfl [(.slice none 0 0), (.slice none 0 0), (.slice none 0 0), (.slice none 0 0), (.bool false)] zero117 ?_); intro b28
    obtain ⟨a30, l31, q32, hs_⟩ := sl_val sl17; subst hs_
    obtain ⟨a33, l34, q35, hs_⟩ := sl_val sl20; subst hs_
    obtain ⟨a36, l37, q38, hs_⟩ := sl_val sl23; subst hs_
    obtain ⟨a39, l40, q41, hs_⟩ := sl_val sl26; subst hs_
    refine stw (o_stc (cs' := [(.slice a30 l31 q32), (.slice a33 l34 q35), (.slice a36 l37 q38), (.slice a39 l40 q41), (.bool e13.xAccept)]) 0 rfl rfl rfl ty117 rfl rfl rfl rfl ?_)
    refine c_nil ?_
    refine l_then ?_
    refine c_region ?_
    refine o_mv st rfl rfl ?_
    refine o_fad st rfl rfl fld117_0 rfl ?_
    refine o_ldc st (v := (.agg #[(.slice a30 l31 q32), (.slice a33 l34 q35), (.slice a36 l37 q38), (.slice a39 l40 q41)])) 0 rfl rfl rfl ty114 rfl ?_
    refine stw (o_bslN (El' := elA4ListGSpan) (qs := [(0, (.agg #[(.slice a30 l31 q32), (.slice a33 l34 q35), (.slice a36 l37 q38), (.slice a39 l40 q41)]))]) (cells := [(.slice a30 l31 q32), (.slice a33 l34 q35), (.slice a36 l37 q38), (.slice a39 l40 q41)]) ([e13.xWhere]) ([[(.slice a30 l31 q32), (.slice a33 l34 q35), (.slice a36 l37 q38), (.slice a39 l40 q41)]]) (fun w m => ⟨⟨⟨(.slice a30 l31 q32), (.slice a33 l34 q35), (.slice a36 l37 q38), (.slice a39 l40 q41)⟩, rfl, ⟨(m.roS 1 rfl sl17), (m.roS 1 rfl sl20), (m.roS 1 rfl sl23), (m.roS 1 rfl sl26)⟩⟩, trivial⟩) (by intro ρ h; simp only [List.map_toArray, List.map_cons, List.map_nil, h (.tmp 17) _ rfl]) rfl el98 zero114 rfl rfl rfl rfl rfl rfl ?_); intro v42
    refine stw (o_app 3 0 rfl rfl src_own rfl rfl rfl el98 rfl zero114 rfl rfl ?_); intro v44
    refine o_as st rfl rfl ?_
    refine c_nil ?_
    refine b_norm ?_
    refine l_then ?_
    refine c_region ?_
    refine o_add st rfl rfl rfl ?_; intro t46
    refine o_mv st rfl rfl ?_
    refine c_nil ?_
    exact l_join ((xs8 ++ ([e13.xWhere])), t46) (fun a w hE hm => ⟨v44, hE.sub ⟨rfl, rfl, rfl, rfl, trivial⟩, (hm.pick [2, 3] rfl)⟩)
  · refine c_exit ?_
    refine l_exit ?_
    refine l_exit ?_
    refine b_exit ?_
    refine l_then ?_
    refine c_seq ?_
    refine c_region ?_
    refine o_mv st rfl rfl ?_
    refine o_as st rfl rfl ?_
    refine c_nil ?_
    refine l_then ?_
    refine c_ret ?_
    exact l_end1 Tryd.results54 xs8 v7 (rv_t rfl) (fun w m => NewCh.ofB m [1] rfl)

set_option maxRecDepth 100000 in
set_option maxHeartbeats 8000000 in
theorem w_impl_firstCommon {w0 : World} {F : Nat → Prop} {v1 : Value} {v3 : Value} {a_0 : (List GSpan)} {b_1 : (List GSpan)} {κ : (Int × Bool) → Prop} (hF : ∀ b, F b → b < w0.heap.size ∧ ¬ feet [] b) (hv1 : Sl elGSpan F w0 v1 a_0) (hv3 : Sl elGSpan F w0 v3 b_1) (h : L_impl_firstCommon a_0 b_1 κ) :
    Calls Tryd.prog 143 #[v1, v3] w0 (Ret [] F w0 κ (fun (r : (Int × Bool)) (u : Unit) => .tuple #[(.int .i64 r.1), (.bool r.2)]) (fun (r : (Int × Bool)) (u : Unit) => [])) := by
  refine enterS (args := [v1, v3]) [] hF (Given.nil _ _) Tryd.func143 rfl Tryd.ntmps143 rfl h ?_
  clear h hF
  refine c_seq ?_
  refine c_region ?_
  refine o_as st rfl rfl ?_
  refine o_as st rfl rfl ?_
  refine c_nil ?_
  refine l_then ?_
  refine c_seq ?_
  refine c_seq ?_
  refine c_region ?_
  refine o_as st rfl rfl ?_
  refine o_as st rfl rfl ?_
  refine c_nil ?_
  refine l_then ?_
  refine c_block ?_
  refine c_loop (σ := (Int × Int)) (fun ((t5, t6) : (Int × Int)) (a : Act) (w : World) => Has 59 [(0, v1), (1, v3), (6, (.int .i64 t5)), (7, (.int .i64 t6))] a ∧ Mem (gB F [] w0) (feet []) w0 [snapCh w0 F] w) (fun a w hE hm => ⟨hE.sub ⟨rfl, rfl, rfl, rfl, trivial⟩, (hm.pick [0] rfl)⟩) ?_
  rintro nx7 ⟨t5, t6⟩ a w ⟨hE, hm⟩ h
  refine nx_of hE hm h ?_
  clear hE hm h
  refine c_seq ?_
  refine c_join (σ := Bool) (fun (t68 : Bool) (a : Act) (w : World) => Has 59 [(0, v1), (1, v3), (6, (.int .i64 t5)), (7, (.int .i64 t6)), (18, (.bool t68))] a ∧ Mem (gB F [] w0) (feet []) w0 [snapCh w0 F] w) ?_ ?_
  · intro k69
    refine c_region ?_
    refine o_mv st rfl rfl ?_
    refine o_mv st rfl rfl ?_
    refine o_len st el72 0 rfl (reads_snap hv1) rfl rfl ?_
    refine o_lss st rfl rfl rfl ?_
    refine o_mv st rfl rfl ?_
    refine st_sp (dj := 13) rfl ?_ ?_
    · refine o_mv (st_g rfl rfl) rfl rfl ?_
      refine o_mv (st_g rfl rfl) rfl rfl ?_
      refine o_len (st_g rfl rfl) el72 0 rfl (reads_snap hv3) rfl rfl ?_
      refine o_lss (st_g rfl rfl) rfl rfl rfl ?_
      refine o_pickT st rfl rfl rfl ?_
      refine c_nil ?_
      exact l_join (decide (t6 < (b_1.length : Int))) (fun a w hE hm => ⟨hE.sub ⟨rfl, rfl, rfl, rfl, rfl, trivial⟩, (hm.pick [0] rfl)⟩)
    · refine st_s rfl rfl rfl rfl ?_
      refine st_s rfl rfl rfl rfl ?_
      refine st_s rfl rfl rfl rfl ?_
      refine st_s rfl rfl rfl rfl ?_
      refine o_pickF st rfl rfl rfl ?_
      refine c_nil ?_
      exact l_join false (fun a w hE hm => ⟨hE.sub ⟨rfl, rfl, rfl, rfl, rfl, trivial⟩, (hm.pick [0] rfl)⟩)
  · rintro t68 a w ⟨hE, hm⟩ h
    refine nx_of hE hm h ?_
    clear hE hm h
    refine c_cond rfl ?_ ?_
    · refine c_skip ?_
      refine l_then ?_
      refine c_block ?_
      refine c_seq ?_
      refine c_draw mixed 12 rfl [snapCh w0 F] ?_
      refine o_mv (dt 0 (fun _ m => m)) rfl rfl ?_
      refine o_mv (dt 1 (fun _ m => m)) rfl rfl ?_
      refine o_idx (dt 2 (fun _ m => m)) 0 rfl (reads_snap hv1) rfl rfl rfl el72 ?_; intro e70 h71
      refine o_fadS (dt 3 (fun _ m => m)) 0 rfl (reads_snap hv1) h71 rfl rfl fld71_0 rfl ?_
      refine o_lds (dt 4 (fun _ m => m)) (enc := encGSpan) (u := (.int .i64 e70.xLo)) 0 rfl (reads_snap hv1) flelGSpan rfl h71 rfl rfl ty3 rfl ?_
      refine o_mv (dt 5 (fun _ m => m)) rfl rfl ?_
      refine o_mv (dt 6 (fun _ m => m)) rfl rfl ?_
      refine o_idx (dt 7 (fun _ m => m)) 0 rfl (reads_snap hv3) rfl rfl rfl el72 ?_; intro e72 h73
      refine o_fadS (dt 8 (fun _ m => m)) 0 rfl (reads_snap hv3) h73 rfl rfl fld71_0 rfl ?_
      refine o_lds (dt 9 (fun _ m => m)) (enc := encGSpan) (u := (.int .i64 e72.xLo)) 0 rfl (reads_snap hv3) flelGSpan rfl h73 rfl rfl ty3 rfl ?_
      refine o_max (dt 10 (fun _ m => m)) rfl rfl rfl ?_
      refine o_as (dt 11 (fun _ m => m)) rfl rfl ?_
      refine d_done (by kernel_rfl) ?_
      refine l_then ?_
      refine c_seq ?_
      refine c_seq ?_
      refine c_draw mixed 13 rfl [snapCh w0 F] ?_
      refine o_mv (dt 0 (fun _ m => m)) rfl rfl ?_
      refine o_mv (dt 1 (fun _ m => m)) rfl rfl ?_
      refine o_mv (dt 2 (fun _ m => m)) rfl rfl ?_
      refine o_idx (dt 3 (fun _ m => m)) 0 rfl (reads_snap hv1) rfl rfl rfl el72 ?_; intro e74 h75
      refine o_fadS (dt 4 (fun _ m => m)) 0 rfl (reads_snap hv1) h75 rfl rfl fld71_1 rfl ?_
      refine o_lds (dt 5 (fun _ m => m)) (enc := encGSpan) (u := (.int .i64 e74.xHi)) 0 rfl (reads_snap hv1) flelGSpan rfl h75 rfl rfl ty3 rfl ?_
      refine o_mv (dt 6 (fun _ m => m)) rfl rfl ?_
      refine o_mv (dt 7 (fun _ m => m)) rfl rfl ?_
      refine o_idx (dt 8 (fun _ m => m)) 0 rfl (reads_snap hv3) rfl rfl rfl el72 ?_; intro e76 h77
      refine o_fadS (dt 9 (fun _ m => m)) 0 rfl (reads_snap hv3) h77 rfl rfl fld71_1 rfl ?_
      refine o_lds (dt 10 (fun _ m => m)) (enc := encGSpan) (u := (.int .i64 e76.xHi)) 0 rfl (reads_snap hv3) flelGSpan rfl h77 rfl rfl ty3 rfl ?_
      refine o_min (dt 11 (fun _ m => m)) rfl rfl rfl ?_
      refine o_leq (dt 12 (fun _ m => m)) rfl rfl rfl ?_
      refine d_done (by kernel_rfl) ?_
      refine l_then ?_
      refine c_cond rfl ?_ ?_
      · refine c_seq ?_
        refine c_region ?_
        refine o_mv st rfl rfl ?_
        refine o_as st rfl rfl ?_
        refine o_as st rfl rfl ?_
        refine c_nil ?_
        refine l_then ?_
        refine c_ret ?_
        refine l_ret ?_
        refine b_ret ?_
        refine l_ret ?_
        refine b_ret ?_
        refine l_ret ?_
        exact l_end2 Tryd.results143 ((max e70.xLo e72.xLo), true) () (rv_t rfl) (rv_t rfl) rfl (fun _ _ => NewCh.nil _ _ _ _)
      · refine c_skip ?_
        refine l_then ?_
        refine c_seq ?_
        refine c_draw mixed 11 rfl [snapCh w0 F] ?_
        refine o_mv (dt 0 (fun _ m => m)) rfl rfl ?_
        refine o_mv (dt 1 (fun _ m => m)) rfl rfl ?_
        refine o_idx (dt 2 (fun _ m => m)) 0 rfl (reads_snap hv1) rfl rfl rfl el72 ?_; intro e78 h79
        refine o_fadS (dt 3 (fun _ m => m)) 0 rfl (reads_snap hv1) h79 rfl rfl fld71_1 rfl ?_
        refine o_lds (dt 4 (fun _ m => m)) (enc := encGSpan) (u := (.int .i64 e78.xHi)) 0 rfl (reads_snap hv1) flelGSpan rfl h79 rfl rfl ty3 rfl ?_
        refine o_mv (dt 5 (fun _ m => m)) rfl rfl ?_
        refine o_mv (dt 6 (fun _ m => m)) rfl rfl ?_
        refine o_idx (dt 7 (fun _ m => m)) 0 rfl (reads_snap hv3) rfl rfl rfl el72 ?_; intro e80 h81
        refine o_fadS (dt 8 (fun _ m => m)) 0 rfl (reads_snap hv3) h81 rfl rfl fld71_1 rfl ?_
        refine o_lds (dt 9 (fun _ m => m)) (enc := encGSpan) (u := (.int .i64 e80.xHi)) 0 rfl (reads_snap hv3) flelGSpan rfl h81 rfl rfl ty3 rfl ?_
        refine o_lss (dt 10 (fun _ m => m)) rfl rfl rfl ?_
        refine d_done (by kernel_rfl) ?_
        refine l_then ?_
        refine c_cond rfl ?_ ?_
        · refine c_region ?_
          refine o_mv st rfl rfl ?_
          refine o_add st rfl rfl rfl ?_; intro t82
          refine o_as st rfl rfl ?_
          refine c_nil ?_
          refine b_norm ?_
          exact l_join (t82, t6) (fun a w hE hm => ⟨hE.sub ⟨rfl, rfl, rfl, rfl, trivial⟩, (hm.pick [0] rfl)⟩)
        · refine c_region ?_
          refine o_mv st rfl rfl ?_
          refine o_add st rfl rfl rfl ?_; intro t83
          refine o_as st rfl rfl ?_
          refine c_nil ?_
          refine b_norm ?_
          exact l_join (t5, t83) (fun a w hE hm => ⟨hE.sub ⟨rfl, rfl, rfl, rfl, trivial⟩, (hm.pick [0] rfl)⟩)
    · refine c_exit ?_
      refine l_exit ?_
      refine l_exit ?_
      refine b_exit ?_
      refine l_then ?_
      refine c_seq ?_
      refine c_region ?_
      refine o_as st rfl rfl ?_
      refine o_as st rfl rfl ?_
      refine c_nil ?_
      refine l_then ?_
      refine c_ret ?_
      exact l_end2 Tryd.results143 (0, false) () (rv_t rfl) (rv_t rfl) rfl (fun _ _ => NewCh.nil _ _ _ _)

set_option maxRecDepth 100000 in
set_option maxHeartbeats 8000000 in
theorem w_impl_packetOf {w0 : World} {F : Nat → Prop} {fields_0 : A4Int} {κ : GPacket → Prop} (hF : ∀ b, F b → b < w0.heap.size ∧ ¬ feet [] b) (h : L_impl_packetOf fields_0 κ) :
    Calls Tryd.prog 144 #[(.agg #[(.int .i64 fields_0.x0), (.int .i64 fields_0.x1), (.int .i64 fields_0.x2), (.int .i64 fields_0.x3)])] w0 (Ret [] F w0 κ (fun (r : GPacket) (u : Unit) => (.agg #[(.int .i64 r.xFrom), (.int .i64 r.xTo), (.int .i64 r.xPort), (.int .i64 r.xProto)])) (fun (r : GPacket) (u : Unit) => [])) := by
  refine enter0 (args := [(.agg #[(.int .i64 fields_0.x0), (.int .i64 fields_0.x1), (.int .i64 fields_0.x2), (.int .i64 fields_0.x3)])]) [] hF (Given.nil _ _) Tryd.func144 rfl Tryd.ntmps144 rfl h ?_
  clear h hF
  refine c_seq ?_
  refine c_region ?_
  refine stw (o_boxA (El' := elInt) (len := 4) ([fields_0.x0, fields_0.x1, fields_0.x2, fields_0.x3]) ([[(.int .i64 fields_0.x0)], [(.int .i64 fields_0.x1)], [(.int .i64 fields_0.x2)], [(.int .i64 fields_0.x3)]]) (fun w m => ⟨(flelInt _ _ _ _).2 rfl, (flelInt _ _ _ _).2 rfl, (flelInt _ _ _ _).2 rfl, (flelInt _ _ _ _).2 rfl, trivial⟩) rfl rfl rfl rfl rfl rfl ?_); intro b1
  refine stw (o_alloc rfl [(.int .i64 0), (.int .i64 0), (.int .i64 0), (.int .i64 0)] zero49 ?_); intro b3
  refine c_nil ?_
  refine l_then ?_
  refine c_seq ?_
  refine c_region ?_
  refine o_ixa st 1 rfl reads_own rfl rfl rfl arr141 ?_; intro e5 h6
  refine o_lds st (enc := encInt) (u := (.int .i64 e5)) 1 rfl reads_own flelInt rfl h6 rfl rfl ty3 rfl ?_
  refine o_ixa st 1 rfl reads_own rfl rfl rfl arr141 ?_; intro e7 h8
  refine o_lds st (enc := encInt) (u := (.int .i64 e7)) 1 rfl reads_own flelInt rfl h8 rfl rfl ty3 rfl ?_
  refine o_ixa st 1 rfl reads_own rfl rfl rfl arr141 ?_; intro e9 h10
  refine o_lds st (enc := encInt) (u := (.int .i64 e9)) 1 rfl reads_own flelInt rfl h10 rfl rfl ty3 rfl ?_
  refine o_ixa st 1 rfl reads_own rfl rfl rfl arr141 ?_; intro e11 h12
  refine o_lds st (enc := encInt) (u := (.int .i64 e11)) 1 rfl reads_own flelInt rfl h12 rfl rfl ty3 rfl ?_
  refine o_bld st (qs := [(0, (.int .i64 e5)), (1, (.int .i64 e7)), (2, (.int .i64 e9)), (3, (.int .i64 e11))]) (cells := [(.int .i64 e5), (.int .i64 e7), (.int .i64 e9), (.int .i64 e11)]) (by intro ρ h; simp only [List.map_toArray, List.map_cons, List.map_nil, h (.tmp 4) _ rfl, h (.tmp 6) _ rfl, h (.tmp 8) _ rfl, h (.tmp 10) _ rfl]) rfl bld49 rfl ?_
  refine stw (o_stc (cs' := [(.int .i64 e5), (.int .i64 e7), (.int .i64 e9), (.int .i64 e11)]) 0 rfl rfl rfl ty49 rfl rfl rfl rfl ?_)
  refine c_nil ?_
  refine l_then ?_
  refine c_ret ?_
  exact l_end1 Tryd.results144 (GPacket.mk e5 e7 e9 e11) () (rv_c 0 rfl rfl ty49 rfl) (fun _ _ => NewCh.nil _ _ _ _)

set_option maxRecDepth 100000 in
set_option maxHeartbeats 8000000 in
theorem w_impl_sides_firstCommon {w0 : World} {F : Nat → Prop} {v1 : Value} {v3 : Value} {v5 : Value} {v7 : Value} {v9 : Value} {v11 : Value} {v13 : Value} {v15 : Value} {s_0 : A4ListGSpan} {other_1 : A4ListGSpan} {κ : (GPacket × Bool) → Prop} (hF : ∀ b, F b → b < w0.heap.size ∧ ¬ feet [] b) (hv1 : Sl elGSpan F w0 v1 s_0.x0) (hv3 : Sl elGSpan F w0 v3 s_0.x1) (hv5 : Sl elGSpan F w0 v5 s_0.x2) (hv7 : Sl elGSpan F w0 v7 s_0.x3) (hv9 : Sl elGSpan F w0 v9 other_1.x0) (hv11 : Sl elGSpan F w0 v11 other_1.x1) (hv13 : Sl elGSpan F w0 v13 other_1.x2) (hv15 : Sl elGSpan F w0 v15 other_1.x3) (h : L_impl_sides_firstCommon s_0 other_1 κ) :
    Calls Tryd.prog 138 #[(.agg #[v1, v3, v5, v7]), (.agg #[v9, v11, v13, v15])] w0 (Ret [] F w0 κ (fun (r : (GPacket × Bool)) (u : Unit) => .tuple #[(.agg #[(.int .i64 r.1.xFrom), (.int .i64 r.1.xTo), (.int .i64 r.1.xPort), (.int .i64 r.1.xProto)]), (.bool r.2)]) (fun (r : (GPacket × Bool)) (u : Unit) => [])) := by
  refine enterS (args := [(.agg #[v1, v3, v5, v7]), (.agg #[v9, v11, v13, v15])]) [] hF (Given.nil _ _) Tryd.func138 rfl Tryd.ntmps138 rfl h ?_
  clear h hF
  refine c_seq ?_
  refine c_region ?_
  obtain ⟨a17, l18, q19, hs_⟩ := sl_val hv1; subst hs_
  obtain ⟨a20, l21, q22, hs_⟩ := sl_val hv3; subst hs_
  obtain ⟨a23, l24, q25, hs_⟩ := sl_val hv5; subst hs_
  obtain ⟨a26, l27, q28, hs_⟩ := sl_val hv7; subst hs_
  refine stw (o_boxA (El' := (elSl elGSpan)) (len := 4) ([s_0.x0, s_0.x1, s_0.x2, s_0.x3]) ([[(.slice a17 l18 q19)], [(.slice a20 l21 q22)], [(.slice a23 l24 q25)], [(.slice a26 l27 q28)]]) (fun w m => ⟨⟨(.slice a17 l18 q19), rfl, (m.roS 0 rfl hv1)⟩, ⟨(.slice a20 l21 q22), rfl, (m.roS 0 rfl hv3)⟩, ⟨(.slice a23 l24 q25), rfl, (m.roS 0 rfl hv5)⟩, ⟨(.slice a26 l27 q28), rfl, (m.roS 0 rfl hv7)⟩, trivial⟩) rfl rfl rfl rfl rfl rfl ?_); intro b29
  obtain ⟨a31, l32, q33, hs_⟩ := sl_val hv9; subst hs_
  obtain ⟨a34, l35, q36, hs_⟩ := sl_val hv11; subst hs_
  obtain ⟨a37, l38, q39, hs_⟩ := sl_val hv13; subst hs_
  obtain ⟨a40, l41, q42, hs_⟩ := sl_val hv15; subst hs_
  refine stw (o_boxA (El' := (elSl elGSpan)) (len := 4) ([other_1.x0, other_1.x1, other_1.x2, other_1.x3]) ([[(.slice a31 l32 q33)], [(.slice a34 l35 q36)], [(.slice a37 l38 q39)], [(.slice a40 l41 q42)]]) (fun w m => ⟨⟨(.slice a31 l32 q33), rfl, (m.roS 1 rfl hv9)⟩, ⟨(.slice a34 l35 q36), rfl, (m.roS 1 rfl hv11)⟩, ⟨(.slice a37 l38 q39), rfl, (m.roS 1 rfl hv13)⟩, ⟨(.slice a40 l41 q42), rfl, (m.roS 1 rfl hv15)⟩, trivial⟩) rfl rfl rfl rfl rfl rfl ?_); intro b43
  refine stw (o_alloc rfl [(.int .i64 0), (.int .i64 0), (.int .i64 0), (.int .i64 0)] zero49 ?_); intro b45
  refine o_as st rfl rfl ?_
  refine c_nil ?_
  refine l_then ?_
  refine c_seq ?_
  refine c_region ?_
  refine stw (o_allocA (El' := elInt) (z := (0 : Int)) (len := 4) (zs := [(.int .i64 0)]) (fun F w => (flelInt _ _ _ _).2 rfl) rfl zero141 rfl rfl ?_); intro b47
  refine c_nil ?_
  refine l_then ?_
  refine c_seq ?_
  refine c_seq ?_
  refine c_region ?_
  refine o_mv st rfl rfl ?_
  refine c_nil ?_
  refine l_then ?_
  refine c_block ?_
  refine c_loop (σ := ((List Int) × Int)) (fun ((xs49, t51) : ((List Int) × Int)) (a : Act) (w : World) => Has 32 [(2, (.pointer (some ⟨b29, 0, none⟩))), (3, (.pointer (some ⟨b43, 0, none⟩))), (4, (.pointer (some ⟨b45, 0, none⟩))), (6, (.pointer (some ⟨b47, 0, none⟩))), (10, (.int .i64 t51))] a ∧ Mem (gB F [] w0) (feet []) w0 [ownCh elInt 141 (.slice (some ⟨b47, 0, none⟩) 4 4) xs49, cellCh b45 [(.int .i64 0), (.int .i64 0), (.int .i64 0), (.int .i64 0)] 49, ownCh (elSl elGSpan) 114 (.slice (some ⟨b43, 0, none⟩) 4 4) ([other_1.x0, other_1.x1, other_1.x2, other_1.x3]), ownCh (elSl elGSpan) 114 (.slice (some ⟨b29, 0, none⟩) 4 4) ([s_0.x0, s_0.x1, s_0.x2, s_0.x3])] w) (fun a w hE hm => ⟨hE.sub ⟨rfl, rfl, rfl, rfl, rfl, trivial⟩, (hm.pick [0, 1, 2, 3] rfl)⟩) ?_
  rintro nx52 ⟨xs49, t51⟩ a w ⟨hE, hm⟩ h
  refine nx_of hE hm h ?_
  clear hE hm h
  refine c_seq ?_
  refine c_region ?_
  refine o_lss st rfl rfl rfl ?_
  refine c_nil ?_
  refine l_then ?_
  refine c_seq ?_
  refine c_cond rfl ?_ ?_
  · refine c_skip ?_
    refine l_then ?_
    refine c_seq ?_
    refine c_block ?_
    refine c_seq ?_
    refine c_region ?_
    refine o_mv st rfl rfl ?_
    refine o_as st rfl rfl ?_
    refine c_nil ?_
    refine l_then ?_
    refine c_join (σ := (Int × Bool)) (fun ((t53, t54) : (Int × Bool)) (a : Act) (w : World) => Has 32 [(2, (.pointer (some ⟨b29, 0, none⟩))), (3, (.pointer (some ⟨b43, 0, none⟩))), (4, (.pointer (some ⟨b45, 0, none⟩))), (6, (.pointer (some ⟨b47, 0, none⟩))), (10, (.int .i64 t51)), (7, (.int .i64 t51)), (8, (.int .i64 t53)), (9, (.bool t54))] a ∧ Mem (gB F [] w0) (feet []) w0 [ownCh elInt 141 (.slice (some ⟨b47, 0, none⟩) 4 4) xs49, cellCh b45 [(.int .i64 0), (.int .i64 0), (.int .i64 0), (.int .i64 0)] 49, ownCh (elSl elGSpan) 114 (.slice (some ⟨b43, 0, none⟩) 4 4) ([other_1.x0, other_1.x1, other_1.x2, other_1.x3]), ownCh (elSl elGSpan) 114 (.slice (some ⟨b29, 0, none⟩) 4 4) ([s_0.x0, s_0.x1, s_0.x2, s_0.x3])] w) ?_ ?_
    · intro k55
      refine c_drawQ mixed 12 rfl [ownCh elInt 141 (.slice (some ⟨b47, 0, none⟩) 4 4) xs49, cellCh b45 [(.int .i64 0), (.int .i64 0), (.int .i64 0), (.int .i64 0)] 49, ownCh (elSl elGSpan) 114 (.slice (some ⟨b43, 0, none⟩) 4 4) ([other_1.x0, other_1.x1, other_1.x2, other_1.x3]), ownCh (elSl elGSpan) 114 (.slice (some ⟨b29, 0, none⟩) 4 4) ([s_0.x0, s_0.x1, s_0.x2, s_0.x3])] ?_
      intro Qd hP hQ
      have H655 : ∀ (e56 : (List GSpan)) (h57 : ([s_0.x0, s_0.x1, s_0.x2, s_0.x3])[(t51).toNat]? = some e56) (e58 : (List GSpan)) (h59 : ([other_1.x0, other_1.x1, other_1.x2, other_1.x3])[(t51).toNat]? = some e58) (wr60 : World) (ff61 : Nat → Prop) (v62 : Value) (sl63 : Sl elGSpan ff61 wr60 v62 e56) (wr64 : World) (ff65 : Nat → Prop) (v66 : Value) (sl67 : Sl elGSpan ff65 wr64 v66 e58) (r68 : Int) (r69 : Bool), Nx 32 (gB F [] w0) (feet []) w0 (wpAnyH Tryd.prog .any (opsAt Tryd.f138 [1, 1, 0, 1, 0, 0, 1, 1, 0, 0, 1, 0]) Qd (Mem (gB F [] w0) (feet []) w0 [ownCh elInt 141 (.slice (some ⟨b47, 0, none⟩) 4 4) xs49, cellCh b45 [(.int .i64 0), (.int .i64 0), (.int .i64 0), (.int .i64 0)] 49, ownCh (elSl elGSpan) 114 (.slice (some ⟨b43, 0, none⟩) 4 4) ([other_1.x0, other_1.x1, other_1.x2, other_1.x3]), ownCh (elSl elGSpan) 114 (.slice (some ⟨b29, 0, none⟩) 4 4) ([s_0.x0, s_0.x1, s_0.x2, s_0.x3])]) 5 #[true, true, true, true, true, true, true, false, false, false, false, false]) [(2, (.pointer (some ⟨b29, 0, none⟩))), (3, (.pointer (some ⟨b43, 0, none⟩))), (4, (.pointer (some ⟨b45, 0, none⟩))), (6, (.pointer (some ⟨b47, 0, none⟩))), (10, (.int .i64 t51)), (7, (.int .i64 t51)), (20, (.tuple #[(.int .i64 r68), (.bool r69)]))] [ownCh elInt 141 (.slice (some ⟨b47, 0, none⟩) 4 4) xs49, cellCh b45 [(.int .i64 0), (.int .i64 0), (.int .i64 0), (.int .i64 0)] 49, ownCh (elSl elGSpan) 114 (.slice (some ⟨b43, 0, none⟩) 4 4) ([other_1.x0, other_1.x1, other_1.x2, other_1.x3]), ownCh (elSl elGSpan) 114 (.slice (some ⟨b29, 0, none⟩) 4 4) ([s_0.x0, s_0.x1, s_0.x2, s_0.x3])] (k55 (r68, r69)) := by
        intro e56 h57 e58 h59 wr60 ff61 v62 sl63 wr64 ff65 v66 sl67 r68 r69
        refine o_mv (dt 7 (fun _ m => m)) rfl rfl ?_
        refine o_ext (dt 8 (fun _ m => m)) (vs := [(.int .i64 r68), (.bool r69)]) rfl rfl rfl ?_
        refine o_ext (dt 9 (fun _ m => m)) (vs := [(.int .i64 r68), (.bool r69)]) rfl rfl rfl ?_
        refine o_as (dt 10 (fun _ m => m)) rfl rfl ?_
        refine o_as (dt 11 (fun _ m => m)) rfl rfl ?_
        refine d_done (by kernel_rfl) ?_
        exact fun a w hE hm hφ => hQ (r68, r69) a w hφ ((fun a w hE hm => ⟨hE.sub ⟨rfl, rfl, rfl, rfl, rfl, rfl, rfl, rfl, trivial⟩, (hm.pick [0, 1, 2, 3] rfl)⟩) a w hE hm)
      have H656 : ∀ (e56 : (List GSpan)) (h57 : ([s_0.x0, s_0.x1, s_0.x2, s_0.x3])[(t51).toNat]? = some e56) (e58 : (List GSpan)) (h59 : ([other_1.x0, other_1.x1, other_1.x2, other_1.x3])[(t51).toNat]? = some e58) (wr60 : World) (ff61 : Nat → Prop) (v62 : Value) (sl63 : Sl elGSpan ff61 wr60 v62 e56) (wr64 : World) (ff65 : Nat → Prop) (v66 : Value) (sl67 : Sl elGSpan ff65 wr64 v66 e58), Nx 32 (gB F [] w0) (feet []) w0 (wpAnyH Tryd.prog .any (opsAt Tryd.f138 [1, 1, 0, 1, 0, 0, 1, 1, 0, 0, 1, 0]) Qd (Mem (gB F [] w0) (feet []) w0 [ownCh elInt 141 (.slice (some ⟨b47, 0, none⟩) 4 4) xs49, cellCh b45 [(.int .i64 0), (.int .i64 0), (.int .i64 0), (.int .i64 0)] 49, ownCh (elSl elGSpan) 114 (.slice (some ⟨b43, 0, none⟩) 4 4) ([other_1.x0, other_1.x1, other_1.x2, other_1.x3]), ownCh (elSl elGSpan) 114 (.slice (some ⟨b29, 0, none⟩) 4 4) ([s_0.x0, s_0.x1, s_0.x2, s_0.x3])]) 6 #[true, true, true, true, true, true, false, false, false, false, false, false]) [(2, (.pointer (some ⟨b29, 0, none⟩))), (3, (.pointer (some ⟨b43, 0, none⟩))), (4, (.pointer (some ⟨b45, 0, none⟩))), (6, (.pointer (some ⟨b47, 0, none⟩))), (10, (.int .i64 t51)), (7, (.int .i64 t51)), (16, v62), (19, v66)] [snapCh wr64 ff65, snapCh wr60 ff61, ownCh elInt 141 (.slice (some ⟨b47, 0, none⟩) 4 4) xs49, cellCh b45 [(.int .i64 0), (.int .i64 0), (.int .i64 0), (.int .i64 0)] 49, ownCh (elSl elGSpan) 114 (.slice (some ⟨b43, 0, none⟩) 4 4) ([other_1.x0, other_1.x1, other_1.x2, other_1.x3]), ownCh (elSl elGSpan) 114 (.slice (some ⟨b29, 0, none⟩) 4 4) ([s_0.x0, s_0.x1, s_0.x2, s_0.x3])] (L_impl_firstCommon e56 e58 (fun (r68, r69) => k55 (r68, r69))) := by
        intro e56 h57 e58 h59 wr60 ff61 v62 sl63 wr64 ff65 v66 sl67
        refine d_one (i := 6) rfl (by kernel_rfl) (o_callP (vs := [v62, v66]) Tryd.call143 rfl rfl (by intro w m h; exact (w_impl_firstCommon (F := allB [] w) (a_0 := e56) (b_1 := e58) allB_ok (m.rd0 1 rfl (reads_snap sl63)) (m.rd0 0 rfl (reads_snap sl67)) h).mono (fun _ _ k => ret_free (fun r u => fr_nil) k)) ?_); rintro ⟨r68, r69⟩ _
        refine d_and (fun w m => m.pick [2, 3, 4, 5] rfl) ?_
        refine pk [2, 3, 4, 5] rfl ?_
        refine re (E' := [(2, (.pointer (some ⟨b29, 0, none⟩))), (3, (.pointer (some ⟨b43, 0, none⟩))), (4, (.pointer (some ⟨b45, 0, none⟩))), (6, (.pointer (some ⟨b47, 0, none⟩))), (10, (.int .i64 t51)), (7, (.int .i64 t51)), (20, (.tuple #[(.int .i64 r68), (.bool r69)]))]) ⟨rfl, rfl, rfl, rfl, rfl, rfl, rfl, trivial⟩ ?_
        exact H655 e56 h57 e58 h59 wr60 ff61 v62 sl63 wr64 ff65 v66 sl67 r68 r69
      have H657 : ∀ (e56 : (List GSpan)) (h57 : ([s_0.x0, s_0.x1, s_0.x2, s_0.x3])[(t51).toNat]? = some e56) (e58 : (List GSpan)) (h59 : ([other_1.x0, other_1.x1, other_1.x2, other_1.x3])[(t51).toNat]? = some e58) (wr60 : World) (ff61 : Nat → Prop) (v62 : Value) (sl63 : Sl elGSpan ff61 wr60 v62 e56), Nx 32 (gB F [] w0) (feet []) w0 (wpAnyH Tryd.prog .any (opsAt Tryd.f138 [1, 1, 0, 1, 0, 0, 1, 1, 0, 0, 1, 0]) Qd (Mem (gB F [] w0) (feet []) w0 [ownCh elInt 141 (.slice (some ⟨b47, 0, none⟩) 4 4) xs49, cellCh b45 [(.int .i64 0), (.int .i64 0), (.int .i64 0), (.int .i64 0)] 49, ownCh (elSl elGSpan) 114 (.slice (some ⟨b43, 0, none⟩) 4 4) ([other_1.x0, other_1.x1, other_1.x2, other_1.x3]), ownCh (elSl elGSpan) 114 (.slice (some ⟨b29, 0, none⟩) 4 4) ([s_0.x0, s_0.x1, s_0.x2, s_0.x3])]) 7 #[true, true, true, true, true, false, false, false, false, false, false, false]) [(2, (.pointer (some ⟨b29, 0, none⟩))), (3, (.pointer (some ⟨b43, 0, none⟩))), (4, (.pointer (some ⟨b45, 0, none⟩))), (6, (.pointer (some ⟨b47, 0, none⟩))), (10, (.int .i64 t51)), (7, (.int .i64 t51)), (18, (pEl (.slice (some ⟨b43, 0, none⟩) 4 4) t51 1 0)), (16, v62)] [snapCh wr60 ff61, ownCh elInt 141 (.slice (some ⟨b47, 0, none⟩) 4 4) xs49, cellCh b45 [(.int .i64 0), (.int .i64 0), (.int .i64 0), (.int .i64 0)] 49, ownCh (elSl elGSpan) 114 (.slice (some ⟨b43, 0, none⟩) 4 4) ([other_1.x0, other_1.x1, other_1.x2, other_1.x3]), ownCh (elSl elGSpan) 114 (.slice (some ⟨b29, 0, none⟩) 4 4) ([s_0.x0, s_0.x1, s_0.x2, s_0.x3])] (L_impl_firstCommon e56 e58 (fun (r68, r69) => k55 (r68, r69))) := by
        intro e56 h57 e58 h59 wr60 ff61 v62 sl63
        refine d_one (i := 5) rfl (by kernel_rfl) (o_ldE 3 rfl src_own h59 rfl rfl ty72 ?_); rintro wr64 ff65 _ ⟨v66, rfl, sl67⟩; refine ⟨v66, rfl, ?_⟩
        refine d_and (fun w m => m.pick [2, 3, 4, 5] rfl) ?_
        refine pk [0, 1, 2, 3, 4, 5] rfl ?_
        refine re (E' := [(2, (.pointer (some ⟨b29, 0, none⟩))), (3, (.pointer (some ⟨b43, 0, none⟩))), (4, (.pointer (some ⟨b45, 0, none⟩))), (6, (.pointer (some ⟨b47, 0, none⟩))), (10, (.int .i64 t51)), (7, (.int .i64 t51)), (16, v62), (19, v66)]) ⟨rfl, rfl, rfl, rfl, rfl, rfl, rfl, rfl, trivial⟩ ?_
        exact H656 e56 h57 e58 h59 wr60 ff61 v62 sl63 wr64 ff65 v66 sl67
      have H658 : ∀ (e56 : (List GSpan)) (h57 : ([s_0.x0, s_0.x1, s_0.x2, s_0.x3])[(t51).toNat]? = some e56) (e58 : (List GSpan)) (h59 : ([other_1.x0, other_1.x1, other_1.x2, other_1.x3])[(t51).toNat]? = some e58) (wr70 : World) (ff71 : Nat → Prop) (v72 : Value) (sl73 : Sl elGSpan ff71 wr70 v72 e58), Nx 32 (gB F [] w0) (feet []) w0 (wpAnyH Tryd.prog .any (opsAt Tryd.f138 [1, 1, 0, 1, 0, 0, 1, 1, 0, 0, 1, 0]) Qd (Mem (gB F [] w0) (feet []) w0 [ownCh elInt 141 (.slice (some ⟨b47, 0, none⟩) 4 4) xs49, cellCh b45 [(.int .i64 0), (.int .i64 0), (.int .i64 0), (.int .i64 0)] 49, ownCh (elSl elGSpan) 114 (.slice (some ⟨b43, 0, none⟩) 4 4) ([other_1.x0, other_1.x1, other_1.x2, other_1.x3]), ownCh (elSl elGSpan) 114 (.slice (some ⟨b29, 0, none⟩) 4 4) ([s_0.x0, s_0.x1, s_0.x2, s_0.x3])]) 7 #[true, true, false, true, true, true, false, false, false, false, false, false]) [(2, (.pointer (some ⟨b29, 0, none⟩))), (3, (.pointer (some ⟨b43, 0, none⟩))), (4, (.pointer (some ⟨b45, 0, none⟩))), (6, (.pointer (some ⟨b47, 0, none⟩))), (10, (.int .i64 t51)), (7, (.int .i64 t51)), (15, (pEl (.slice (some ⟨b29, 0, none⟩) 4 4) t51 1 0)), (19, v72)] [snapCh wr70 ff71, ownCh elInt 141 (.slice (some ⟨b47, 0, none⟩) 4 4) xs49, cellCh b45 [(.int .i64 0), (.int .i64 0), (.int .i64 0), (.int .i64 0)] 49, ownCh (elSl elGSpan) 114 (.slice (some ⟨b43, 0, none⟩) 4 4) ([other_1.x0, other_1.x1, other_1.x2, other_1.x3]), ownCh (elSl elGSpan) 114 (.slice (some ⟨b29, 0, none⟩) 4 4) ([s_0.x0, s_0.x1, s_0.x2, s_0.x3])] (L_impl_firstCommon e56 e58 (fun (r68, r69) => k55 (r68, r69))) := by
        intro e56 h57 e58 h59 wr70 ff71 v72 sl73
        refine d_one (i := 2) rfl (by kernel_rfl) (o_ldE 4 rfl src_own h57 rfl rfl ty72 ?_); rintro wr74 ff75 _ ⟨v76, rfl, sl77⟩; refine ⟨v76, rfl, ?_⟩
        refine d_and (fun w m => m.pick [2, 3, 4, 5] rfl) ?_
        refine pk [1, 0, 2, 3, 4, 5] rfl ?_
        refine re (E' := [(2, (.pointer (some ⟨b29, 0, none⟩))), (3, (.pointer (some ⟨b43, 0, none⟩))), (4, (.pointer (some ⟨b45, 0, none⟩))), (6, (.pointer (some ⟨b47, 0, none⟩))), (10, (.int .i64 t51)), (7, (.int .i64 t51)), (16, v76), (19, v72)]) ⟨rfl, rfl, rfl, rfl, rfl, rfl, rfl, rfl, trivial⟩ ?_
        exact H656 e56 h57 e58 h59 wr74 ff75 v76 sl77 wr70 ff71 v72 sl73
      refine o_mv (dt 0 (fun _ m => m)) rfl rfl ?_
      refine o_ixa (dt 1 (fun _ m => m)) 3 rfl reads_own rfl rfl rfl arr114 ?_; intro e56 h57
      refine o_mv (dt 3 (fun _ m => m)) rfl rfl ?_
      refine o_ixa (dt 4 (fun _ m => m)) 2 rfl reads_own rfl rfl rfl arr114 ?_; intro e58 h59
      refine d_two (i := 2) (j := 5) rfl rfl (by kernel_rfl) ?_ ?_
      · intro o ho; cases ho
        refine o_ldE 3 rfl src_own h57 rfl rfl ty72 ?_; rintro wr60 ff61 _ ⟨v62, rfl, sl63⟩; refine ⟨v62, rfl, ?_⟩
        refine d_and (fun w m => m.pick [1, 2, 3, 4] rfl) ?_
        refine pk [0, 1, 2, 3, 4] rfl ?_
        refine re (E' := [(2, (.pointer (some ⟨b29, 0, none⟩))), (3, (.pointer (some ⟨b43, 0, none⟩))), (4, (.pointer (some ⟨b45, 0, none⟩))), (6, (.pointer (some ⟨b47, 0, none⟩))), (10, (.int .i64 t51)), (7, (.int .i64 t51)), (18, (pEl (.slice (some ⟨b43, 0, none⟩) 4 4) t51 1 0)), (16, v62)]) ⟨rfl, rfl, rfl, rfl, rfl, rfl, rfl, rfl, trivial⟩ ?_
        exact H657 e56 h57 e58 h59 wr60 ff61 v62 sl63
      · intro o ho; cases ho
        refine o_ldE 2 rfl src_own h59 rfl rfl ty72 ?_; rintro wr70 ff71 _ ⟨v72, rfl, sl73⟩; refine ⟨v72, rfl, ?_⟩
        refine d_and (fun w m => m.pick [1, 2, 3, 4] rfl) ?_
        refine pk [0, 1, 2, 3, 4] rfl ?_
        refine re (E' := [(2, (.pointer (some ⟨b29, 0, none⟩))), (3, (.pointer (some ⟨b43, 0, none⟩))), (4, (.pointer (some ⟨b45, 0, none⟩))), (6, (.pointer (some ⟨b47, 0, none⟩))), (10, (.int .i64 t51)), (7, (.int .i64 t51)), (15, (pEl (.slice (some ⟨b29, 0, none⟩) 4 4) t51 1 0)), (19, v72)]) ⟨rfl, rfl, rfl, rfl, rfl, rfl, rfl, rfl, trivial⟩ ?_
        exact H658 e56 h57 e58 h59 wr70 ff71 v72 sl73
    · rintro ⟨t53, t54⟩ a w ⟨hE, hm⟩ h
      refine nx_of hE hm h ?_
      clear hE hm h
      refine c_seq ?_
      refine c_seq ?_
      refine c_region ?_
      refine o_mv st rfl rfl ?_
      refine o_not st rfl rfl ?_
      refine c_nil ?_
      refine l_then ?_
      refine c_cond rfl ?_ ?_
      · refine c_seq ?_
        refine c_region ?_
        refine o_bld st (qs := []) (cells := [(.int .i64 0), (.int .i64 0), (.int .i64 0), (.int .i64 0)]) (by intro ρ h; simp only [List.map_toArray, List.map_cons, List.map_nil]) rfl bld49 rfl ?_
        refine stw (o_stc (cs' := [(.int .i64 0), (.int .i64 0), (.int .i64 0), (.int .i64 0)]) 1 rfl rfl rfl ty49 rfl rfl rfl rfl ?_)
        refine o_as st rfl rfl ?_
        refine c_nil ?_
        refine l_then ?_
        refine c_ret ?_
        refine l_ret ?_
        refine b_ret ?_
        refine l_ret ?_
        refine l_ret ?_
        refine b_ret ?_
        refine l_ret ?_
        exact l_end2 Tryd.results138 ((GPacket.mk 0 0 0 0), false) () (rv_c 1 rfl rfl ty49 rfl) (rv_t rfl) rfl (fun _ _ => NewCh.nil _ _ _ _)
      · refine c_skip ?_
        refine l_then ?_
        refine c_region ?_
        refine o_mv st rfl rfl ?_
        refine o_mv st rfl rfl ?_
        refine o_ixa st 0 rfl reads_own rfl rfl rfl arr141 ?_; intro e78 h79
        refine stw (o_sts (enc := encInt) (y' := t53) 0 rfl flelInt rfl h79 ty3 rfl rfl rfl rfl rfl rfl ?_)
        refine c_nil ?_
        refine b_norm ?_
        refine l_then ?_
        refine c_region ?_
        refine o_add st rfl rfl rfl ?_; intro t81
        refine o_mv st rfl rfl ?_
        refine c_nil ?_
        exact l_join ((xs49.set (t51).toNat t53), t81) (fun a w hE hm => ⟨hE.sub ⟨rfl, rfl, rfl, rfl, rfl, trivial⟩, (hm.pick [0, 1, 2, 3] rfl)⟩)
  · refine c_exit ?_
    refine l_exit ?_
    refine l_exit ?_
    refine b_exit ?_
    refine l_then ?_
    refine c_seq ?_
    refine c_region ?_
    refine nx_unl4 0 rfl ?_; intro e82 e83 e84 e85
    refine stw (o_ldA m_op (u := [(.int .i64 e82), (.int .i64 e83), (.int .i64 e84), (.int .i64 e85)]) 0 rfl reads_own flelInt rfl rfl ty141 rfl rfl ?_)
    refine stw (o_callP (vs := [(.agg #[(.int .i64 e82), (.int .i64 e83), (.int .i64 e84), (.int .i64 e85)])]) Tryd.call144 rfl rfl (by intro w m h; exact (w_impl_packetOf (F := allB [] w) (fields_0 := (A4Int.mk e82 e83 e84 e85)) allB_ok h).mono (fun _ _ k => ret_free (fun r u => fr_nil) k)) ?_); rintro r87 _
    refine stw (o_stc (cs' := [(.int .i64 r87.xFrom), (.int .i64 r87.xTo), (.int .i64 r87.xPort), (.int .i64 r87.xProto)]) 1 rfl rfl rfl ty49 rfl rfl rfl rfl ?_)
    refine o_as st rfl rfl ?_
    refine c_nil ?_
    refine l_then ?_
    refine c_ret ?_
    exact l_end2 Tryd.results138 (r87, true) () (rv_c 1 rfl rfl ty49 rfl) (rv_t rfl) rfl (fun _ _ => NewCh.nil _ _ _ _)

set_option maxRecDepth 100000 in
set_option maxHeartbeats 8000000 in
theorem w_impl_sides_touches {w0 : World} {F : Nat → Prop} {v1 : Value} {v3 : Value} {v5 : Value} {v7 : Value} {v9 : Value} {v11 : Value} {v13 : Value} {v15 : Value} {s_0 : A4ListGSpan} {other_1 : A4ListGSpan} {κ : Bool → Prop} (hF : ∀ b, F b → b < w0.heap.size ∧ ¬ feet [] b) (hv1 : Sl elGSpan F w0 v1 s_0.x0) (hv3 : Sl elGSpan F w0 v3 s_0.x1) (hv5 : Sl elGSpan F w0 v5 s_0.x2) (hv7 : Sl elGSpan F w0 v7 s_0.x3) (hv9 : Sl elGSpan F w0 v9 other_1.x0) (hv11 : Sl elGSpan F w0 v11 other_1.x1) (hv13 : Sl elGSpan F w0 v13 other_1.x2) (hv15 : Sl elGSpan F w0 v15 other_1.x3) (h : L_impl_sides_touches s_0 other_1 κ) :
    Calls Tryd.prog 135 #[(.agg #[v1, v3, v5, v7]), (.agg #[v9, v11, v13, v15])] w0 (Ret [] F w0 κ (fun (r : Bool) (u : Unit) => (.bool r)) (fun (r : Bool) (u : Unit) => [])) := by
  refine enterS (args := [(.agg #[v1, v3, v5, v7]), (.agg #[v9, v11, v13, v15])]) [] hF (Given.nil _ _) Tryd.func135 rfl Tryd.ntmps135 rfl h ?_
  clear h hF
  refine c_seq ?_
  refine c_region ?_
  obtain ⟨a17, l18, q19, hs_⟩ := sl_val hv1; subst hs_
  obtain ⟨a20, l21, q22, hs_⟩ := sl_val hv3; subst hs_
  obtain ⟨a23, l24, q25, hs_⟩ := sl_val hv5; subst hs_
  obtain ⟨a26, l27, q28, hs_⟩ := sl_val hv7; subst hs_
  refine stw (o_boxA (El' := (elSl elGSpan)) (len := 4) ([s_0.x0, s_0.x1, s_0.x2, s_0.x3]) ([[(.slice a17 l18 q19)], [(.slice a20 l21 q22)], [(.slice a23 l24 q25)], [(.slice a26 l27 q28)]]) (fun w m => ⟨⟨(.slice a17 l18 q19), rfl, (m.roS 0 rfl hv1)⟩, ⟨(.slice a20 l21 q22), rfl, (m.roS 0 rfl hv3)⟩, ⟨(.slice a23 l24 q25), rfl, (m.roS 0 rfl hv5)⟩, ⟨(.slice a26 l27 q28), rfl, (m.roS 0 rfl hv7)⟩, trivial⟩) rfl rfl rfl rfl rfl rfl ?_); intro b29
  obtain ⟨a31, l32, q33, hs_⟩ := sl_val hv9; subst hs_
  obtain ⟨a34, l35, q36, hs_⟩ := sl_val hv11; subst hs_
  obtain ⟨a37, l38, q39, hs_⟩ := sl_val hv13; subst hs_
  obtain ⟨a40, l41, q42, hs_⟩ := sl_val hv15; subst hs_
  refine stw (o_boxA (El' := (elSl elGSpan)) (len := 4) ([other_1.x0, other_1.x1, other_1.x2, other_1.x3]) ([[(.slice a31 l32 q33)], [(.slice a34 l35 q36)], [(.slice a37 l38 q39)], [(.slice a40 l41 q42)]]) (fun w m => ⟨⟨(.slice a31 l32 q33), rfl, (m.roS 1 rfl hv9)⟩, ⟨(.slice a34 l35 q36), rfl, (m.roS 1 rfl hv11)⟩, ⟨(.slice a37 l38 q39), rfl, (m.roS 1 rfl hv13)⟩, ⟨(.slice a40 l41 q42), rfl, (m.roS 1 rfl hv15)⟩, trivial⟩) rfl rfl rfl rfl rfl rfl ?_); intro b43
  refine o_as st rfl rfl ?_
  refine c_nil ?_
  refine l_then ?_
  refine c_seq ?_
  refine c_region ?_
  refine stw (o_ldAN (len := 4) 1 rfl src_own rfl rfl rfl ty114 rfl ?_); rintro wr45 ff46 _ hrows_; obtain ⟨_, _, _, _, rfl, hc0_, hc1_, hc2_, hc3_⟩ := rows_l4 hrows_; obtain ⟨v48, rfl, sl49⟩ := hc0_; obtain ⟨v51, rfl, sl52⟩ := hc1_; obtain ⟨v54, rfl, sl55⟩ := hc2_; obtain ⟨v57, rfl, sl58⟩ := hc3_; refine ⟨[v48, v51, v54, v57], rfl, ?_⟩
  refine stw (o_ldAN (len := 4) 1 rfl src_own rfl rfl rfl ty114 rfl ?_); rintro wr60 ff61 _ hrows_; obtain ⟨_, _, _, _, rfl, hc0_, hc1_, hc2_, hc3_⟩ := rows_l4 hrows_; obtain ⟨v63, rfl, sl64⟩ := hc0_; obtain ⟨v66, rfl, sl67⟩ := hc1_; obtain ⟨v69, rfl, sl70⟩ := hc2_; obtain ⟨v72, rfl, sl73⟩ := hc3_; refine ⟨[v63, v66, v69, v72], rfl, ?_⟩
  refine stw (o_callP (vs := [(.agg #[v48, v51, v54, v57]), (.agg #[v63, v66, v69, v72])]) Tryd.call138 rfl rfl (by intro w m h; exact (w_impl_sides_firstCommon (F := allB [] w) (s_0 := s_0) (other_1 := other_1) allB_ok (m.rd0 1 rfl (reads_snap sl49)) (m.rd0 1 rfl (reads_snap sl52)) (m.rd0 1 rfl (reads_snap sl55)) (m.rd0 1 rfl (reads_snap sl58)) (m.rd0 0 rfl (reads_snap sl64)) (m.rd0 0 rfl (reads_snap sl67)) (m.rd0 0 rfl (reads_snap sl70)) (m.rd0 0 rfl (reads_snap sl73)) h).mono (fun _ _ k => ret_free (fun r u => fr_nil) k)) ?_); rintro ⟨r75, r76⟩ _
  refine o_mv st rfl rfl ?_
  refine o_ext st (vs := [(.agg #[(.int .i64 r75.xFrom), (.int .i64 r75.xTo), (.int .i64 r75.xPort), (.int .i64 r75.xProto)]), (.bool r76)]) rfl rfl rfl ?_
  refine o_ext st (vs := [(.agg #[(.int .i64 r75.xFrom), (.int .i64 r75.xTo), (.int .i64 r75.xPort), (.int .i64 r75.xProto)]), (.bool r76)]) rfl rfl rfl ?_
  refine stw (o_alloc rfl [(.int .i64 0), (.int .i64 0), (.int .i64 0), (.int .i64 0)] zero49 ?_); intro b77
  refine stw (o_stc (cs' := [(.int .i64 r75.xFrom), (.int .i64 r75.xTo), (.int .i64 r75.xPort), (.int .i64 r75.xProto)]) 0 rfl rfl rfl ty49 rfl rfl rfl rfl ?_)
  refine o_as st rfl rfl ?_
  refine c_nil ?_
  refine l_then ?_
  refine c_seq ?_
  refine c_region ?_
  refine o_mv st rfl rfl ?_
  refine o_as st rfl rfl ?_
  refine c_nil ?_
  refine l_then ?_
  refine c_ret ?_
  exact l_end1 Tryd.results135 r76 () (rv_t rfl) (fun _ _ => NewCh.nil _ _ _ _)



end
section
open Go.RowKit
set_option maxRecDepth 100000 in
set_option maxHeartbeats 8000000 in
theorem w_impl_limitSpans {w0 : World} {F : Nat → Prop} {v1 : Value} {list_0 : (List GSpan)} {κ : ((List GSpan) × Bool) → Prop} (hF : ∀ b, F b → b < w0.heap.size ∧ ¬ feet [] b) (hv1 : Sl elGSpan F w0 v1 list_0) (h : L_impl_limitSpans list_0 κ) :
    Calls Tryd.prog 139 #[v1] w0 (Ret [] F w0 κ (fun (r : ((List GSpan) × Bool)) (u : Value) => .tuple #[u, (.bool r.2)]) (fun (r : ((List GSpan) × Bool)) (u : Value) => [roCh elGSpan u r.1])) := by
  refine enterS (args := [v1]) [] hF (Given.nil _ _) Tryd.func139 rfl Tryd.ntmps139 rfl h ?_
  clear h hF
  refine c_seq ?_
  refine c_region ?_
  refine stw (o_asn elGSpan 71 rfl rfl ?_)
  refine o_as st rfl rfl ?_
  refine c_nil ?_
  refine l_then ?_
  refine c_seq ?_
  refine c_seq ?_
  refine c_region ?_
  refine o_mv st rfl rfl ?_
  refine o_len st el72 1 rfl (reads_snap hv1) rfl rfl ?_
  refine o_gtr st rfl rfl rfl ?_
  refine c_nil ?_
  refine l_then ?_
  refine c_cond rfl ?_ ?_
  · refine c_seq ?_
    refine c_region ?_
    refine stw (o_asn elGSpan 71 rfl rfl ?_)
    refine o_as st rfl rfl ?_
    refine c_nil ?_
    refine l_then ?_
    refine c_ret ?_
    refine l_ret ?_
    refine frz 0 rfl reads_own ?_
    exact l_end2 Tryd.results139 ([], false) (.slice none 0 0) (rv_t rfl) (rv_t rfl) rfl (fun w m => NewCh.ofB m [0] rfl)
  · refine c_skip ?_
    refine l_then ?_
    refine c_seq ?_
    refine c_region ?_
    refine o_mv st rfl rfl ?_
    refine o_as st rfl rfl ?_
    refine o_as st rfl rfl ?_
    refine c_nil ?_
    refine l_then ?_
    refine c_ret ?_
    refine nx_note 1 rfl hv1 ?_
    exact l_end2 Tryd.results139 (list_0, true) v1 (rv_t rfl) (rv_t rfl) rfl (fun w m => NewCh.ofB m [0] rfl)

set_option maxRecDepth 100000 in
set_option maxHeartbeats 8000000 in
theorem w_impl_stretch {w0 : World} {F : Nat → Prop} {v1 : Value} {rest_0 : (List GSpan)} {at_1 : Int} {top_2 : Int} {κ : (Bool × Int) → Prop} (hF : ∀ b, F b → b < w0.heap.size ∧ ¬ feet [] b) (hv1 : Sl elGSpan F w0 v1 rest_0) (h : L_impl_stretch rest_0 at_1 top_2 κ) :
    Calls Tryd.prog 145 #[v1, (.int .i64 at_1), (.int .i64 top_2)] w0 (Ret [] F w0 κ (fun (r : (Bool × Int)) (u : Unit) => .tuple #[(.bool r.1), (.int .i64 r.2)]) (fun (r : (Bool × Int)) (u : Unit) => [])) := by
  refine enterS (args := [v1, (.int .i64 at_1), (.int .i64 top_2)]) [] hF (Given.nil _ _) Tryd.func145 rfl Tryd.ntmps145 rfl h ?_
  clear h hF
  refine c_seq ?_
  refine c_region ?_
  refine o_as st rfl rfl ?_
  refine o_as st rfl rfl ?_
  refine c_nil ?_
  refine l_then ?_
  refine c_seq ?_
  refine c_seq ?_
  refine c_region ?_
  refine o_mv st rfl rfl ?_
  refine o_len st el72 0 rfl (reads_snap hv1) rfl rfl ?_
  refine o_eql st und3 rfl rfl rfl ?_
  refine c_nil ?_
  refine l_then ?_
  refine c_cond rfl ?_ ?_
  · refine c_seq ?_
    refine c_region ?_
    refine o_mv st rfl rfl ?_
    refine o_as st rfl rfl ?_
    refine o_as st rfl rfl ?_
    refine c_nil ?_
    refine l_then ?_
    refine c_ret ?_
    refine l_ret ?_
    exact l_end2 Tryd.results145 (false, top_2) () (rv_t rfl) (rv_t rfl) rfl (fun _ _ => NewCh.nil _ _ _ _)
  · refine c_skip ?_
    refine l_then ?_
    refine c_seq ?_
    refine c_seq ?_
    refine c_region ?_
    refine o_mv st rfl rfl ?_
    refine o_mv st rfl rfl ?_
    refine o_idx st 0 rfl (reads_snap hv1) rfl rfl rfl el72 ?_; intro e3 h4
    refine o_fadS st 0 rfl (reads_snap hv1) h4 rfl rfl fld71_0 rfl ?_
    refine o_lds st (enc := encGSpan) (u := (.int .i64 e3.xLo)) 0 rfl (reads_snap hv1) flelGSpan rfl h4 rfl rfl ty3 rfl ?_
    refine o_lss st rfl rfl rfl ?_
    refine c_nil ?_
    refine l_then ?_
    refine c_cond rfl ?_ ?_
    · refine c_seq ?_
      refine c_draw mixed 7 rfl [snapCh w0 F] ?_
      refine o_mv (dt 0 (fun _ m => m)) rfl rfl ?_
      refine o_idx (dt 1 (fun _ m => m)) 0 rfl (reads_snap hv1) rfl rfl rfl el72 ?_; intro e5 h6
      refine o_fadS (dt 2 (fun _ m => m)) 0 rfl (reads_snap hv1) h6 rfl rfl fld71_0 rfl ?_
      refine o_lds (dt 3 (fun _ m => m)) (enc := encGSpan) (u := (.int .i64 e5.xLo)) 0 rfl (reads_snap hv1) flelGSpan rfl h6 rfl rfl ty3 rfl ?_
      refine o_sub (dt 4 (fun _ m => m)) rfl rfl rfl ?_; intro t7
      refine o_as (dt 5 (fun _ m => m)) rfl rfl ?_
      refine o_as (dt 6 (fun _ m => m)) rfl rfl ?_
      refine d_done (by kernel_rfl) ?_
      refine l_then ?_
      refine c_ret ?_
      refine l_ret ?_
      exact l_end2 Tryd.results145 (false, t7) () (rv_t rfl) (rv_t rfl) rfl (fun _ _ => NewCh.nil _ _ _ _)
    · refine c_skip ?_
      refine l_then ?_
      refine c_seq ?_
      refine c_draw mixed 6 rfl [snapCh w0 F] ?_
      refine o_mv (dt 0 (fun _ m => m)) rfl rfl ?_
      refine o_idx (dt 1 (fun _ m => m)) 0 rfl (reads_snap hv1) rfl rfl rfl el72 ?_; intro e8 h9
      refine o_fadS (dt 2 (fun _ m => m)) 0 rfl (reads_snap hv1) h9 rfl rfl fld71_1 rfl ?_
      refine o_lds (dt 3 (fun _ m => m)) (enc := encGSpan) (u := (.int .i64 e8.xHi)) 0 rfl (reads_snap hv1) flelGSpan rfl h9 rfl rfl ty3 rfl ?_
      refine o_as (dt 4 (fun _ m => m)) rfl rfl ?_
      refine o_as (dt 5 (fun _ m => m)) rfl rfl ?_
      refine d_done (by kernel_rfl) ?_
      refine l_then ?_
      refine c_ret ?_
      exact l_end2 Tryd.results145 (true, e8.xHi) () (rv_t rfl) (rv_t rfl) rfl (fun _ _ => NewCh.nil _ _ _ _)

set_option maxRecDepth 100000 in
set_option maxHeartbeats 8000000 in
theorem w_impl_inFirstOnly {w0 : World} {F : Nat → Prop} {inA_0 : Bool} {inB_1 : Bool} {κ : Bool → Prop} (hF : ∀ b, F b → b < w0.heap.size ∧ ¬ feet [] b) (h : L_impl_inFirstOnly inA_0 inB_1 κ) :
    Calls Tryd.prog 141 #[(.bool inA_0), (.bool inB_1)] w0 (Ret [] F w0 κ (fun (r : Bool) (u : Unit) => (.bool r)) (fun (r : Bool) (u : Unit) => [])) := by
  refine enter0 (args := [(.bool inA_0), (.bool inB_1)]) [] hF (Given.nil _ _) Tryd.func141 rfl Tryd.ntmps141 rfl h ?_
  clear h hF
  refine c_seq ?_
  refine c_region ?_
  refine o_as st rfl rfl ?_
  refine c_nil ?_
  refine l_then ?_
  refine c_join (σ := Bool) (fun (t61 : Bool) (a : Act) (w : World) => Has 10 [(4, (.bool t61))] a ∧ Mem (gB F [] w0) (feet []) w0 [] w) ?_ ?_
  · intro k62
    refine c_region ?_
    refine o_mv st rfl rfl ?_
    refine o_mv st rfl rfl ?_
    refine st_sp (dj := 6) rfl ?_ ?_
    · refine o_mv (st_g rfl rfl) rfl rfl ?_
      refine o_not (st_g rfl rfl) rfl rfl ?_
      refine o_pickT st rfl rfl rfl ?_
      refine o_as st rfl rfl ?_
      refine c_nil ?_
      exact l_join (!inB_1) (fun a w hE hm => ⟨hE.sub ⟨rfl, trivial⟩, (hm.pick [] rfl)⟩)
    · refine st_s rfl rfl rfl rfl ?_
      refine st_s rfl rfl rfl rfl ?_
      refine o_pickF st rfl rfl rfl ?_
      refine o_as st rfl rfl ?_
      refine c_nil ?_
      exact l_join false (fun a w hE hm => ⟨hE.sub ⟨rfl, trivial⟩, (hm.pick [] rfl)⟩)
  · rintro t61 a w ⟨hE, hm⟩ h
    refine nx_of hE hm h ?_
    clear hE hm h
    refine c_ret ?_
    exact l_end1 Tryd.results141 t61 () (rv_t rfl) (fun _ _ => NewCh.nil _ _ _ _)

set_option maxRecDepth 100000 in
set_option maxHeartbeats 8000000 in
theorem w_impl_sweepSpans__impl_inFirstOnly {w0 : World} {F : Nat → Prop} {v1 : Value} {v3 : Value} {a_0 : (List GSpan)} {b_1 : (List GSpan)} {top_2 : Int} {κ : (List GSpan) → Prop} (hF : ∀ b, F b → b < w0.heap.size ∧ ¬ feet [] b) (hv1 : Sl elGSpan F w0 v1 a_0) (hv3 : Sl elGSpan F w0 v3 b_1) (h : L_impl_sweepSpans__impl_inFirstOnly a_0 b_1 top_2 κ) :
    Calls Tryd.prog 140 #[v1, v3, (.int .i64 top_2), (.func (.func 141) #[] #[])] w0 (Ret [] F w0 κ (fun (r : (List GSpan)) (u : Value) => u) (fun (r : (List GSpan)) (u : Value) => [ownCh elGSpan 71 u r])) := by
  refine enterS (args := [v1, v3, (.int .i64 top_2), (.func (.func 141) #[] #[])]) [] hF (Given.nil _ _) Tryd.func140 rfl Tryd.ntmps140 rfl h ?_
  clear h hF
  refine c_seq ?_
  refine c_region ?_
  refine stw (o_asn elGSpan 71 rfl rfl ?_)
  refine c_nil ?_
  refine l_then ?_
  refine c_seq ?_
  refine c_region ?_
  refine stw (o_asn elGSpan 71 rfl rfl ?_)
  refine c_nil ?_
  refine l_then ?_
  refine c_seq ?_
  refine c_region ?_
  refine o_as st rfl rfl ?_
  refine o_as st rfl rfl ?_
  refine c_nil ?_
  refine l_then ?_
  refine c_seq ?_
  refine c_seq ?_
  refine c_region ?_
  refine o_as st rfl rfl ?_
  refine c_nil ?_
  refine l_then ?_
  refine c_block ?_
  refine c_loop (σ := ((List GSpan) × Int × Int × Int)) (fun ((xs8, t11, t12, t13) : ((List GSpan) × Int × Int × Int)) (a : Act) (w : World) => ∃ (v7 : Value), Has 107 [(0, v1), (1, v3), (2, (.int .i64 top_2)), (3, (.func (.func 141) #[] #[])), (9, v7), (10, (.int .i64 t11)), (11, (.int .i64 t12)), (12, (.int .i64 t13))] a ∧ Mem (gB F [] w0) (feet []) w0 [snapCh w0 F, ownCh elGSpan 71 v7 xs8] w) (fun a w hE hm => ⟨(.slice none 0 0), hE.sub ⟨rfl, rfl, rfl, rfl, rfl, rfl, rfl, rfl, trivial⟩, (hm.pick [2, 0] rfl)⟩) ?_
  rintro nx14 ⟨xs8, t11, t12, t13⟩ a w ⟨v7, hE, hm⟩ h
  refine nx_of hE hm h ?_
  clear hE hm h
  refine c_seq ?_
  refine c_seq ?_
  refine c_region ?_
  refine o_mv st rfl rfl ?_
  refine o_mv st rfl rfl ?_
  refine o_leq st rfl rfl rfl ?_
  refine c_nil ?_
  refine l_then ?_
  refine c_cond rfl ?_ ?_
  · refine c_skip ?_
    refine l_then ?_
    refine c_block ?_
    refine c_seq ?_
    refine c_block ?_
    refine c_loop (σ := Int) (fun (t15 : Int) (a : Act) (w : World) => Has 107 [(0, v1), (1, v3), (2, (.int .i64 top_2)), (3, (.func (.func 141) #[] #[])), (9, v7), (10, (.int .i64 t15)), (11, (.int .i64 t12)), (12, (.int .i64 t13))] a ∧ Mem (gB F [] w0) (feet []) w0 [ownCh elGSpan 71 v7 xs8, snapCh w0 F] w) (fun a w hE hm => ⟨hE.sub ⟨rfl, rfl, rfl, rfl, rfl, rfl, rfl, rfl, trivial⟩, (hm.pick [1, 0] rfl)⟩) ?_
    rintro nx16 t15 a w ⟨hE, hm⟩ h
    refine nx_of hE hm h ?_
    clear hE hm h
    refine c_seq ?_
    refine c_join (σ := Bool) (fun (t79 : Bool) (a : Act) (w : World) => Has 107 [(0, v1), (1, v3), (2, (.int .i64 top_2)), (3, (.func (.func 141) #[] #[])), (9, v7), (10, (.int .i64 t15)), (11, (.int .i64 t12)), (12, (.int .i64 t13)), (34, (.bool t79))] a ∧ Mem (gB F [] w0) (feet []) w0 [ownCh elGSpan 71 v7 xs8, snapCh w0 F] w) ?_ ?_
    · intro k80
      refine c_region ?_
      refine o_mv st rfl rfl ?_
      refine o_mv st rfl rfl ?_
      refine o_len st el72 1 rfl (reads_snap hv1) rfl rfl ?_
      refine o_lss st rfl rfl rfl ?_
      refine o_mv st rfl rfl ?_
      refine st_sp (dj := 26) rfl ?_ ?_
      · refine o_mv (st_g rfl rfl) rfl rfl ?_
        refine o_mv (st_g rfl rfl) rfl rfl ?_
        refine o_idx (st_g rfl rfl) 1 rfl (reads_snap hv1) rfl rfl rfl el72 ?_; intro e17 h18
        refine o_fadS (st_g rfl rfl) 1 rfl (reads_snap hv1) h18 rfl rfl fld71_1 rfl ?_
        refine o_lds (st_g rfl rfl) (enc := encGSpan) (u := (.int .i64 e17.xHi)) 1 rfl (reads_snap hv1) flelGSpan rfl h18 rfl rfl ty3 rfl ?_
        refine o_mv (st_g rfl rfl) rfl rfl ?_
        refine o_lss (st_g rfl rfl) rfl rfl rfl ?_
        refine o_pickT st rfl rfl rfl ?_
        refine c_nil ?_
        exact l_join (decide (e17.xHi < t13)) (fun a w hE hm => ⟨hE.sub ⟨rfl, rfl, rfl, rfl, rfl, rfl, rfl, rfl, rfl, trivial⟩, (hm.pick [0, 1] rfl)⟩)
      · refine st_s rfl rfl rfl rfl ?_
        refine st_s rfl rfl rfl rfl ?_
        refine st_s rfl rfl rfl rfl ?_
        refine st_s rfl rfl rfl rfl ?_
        refine st_s rfl rfl rfl rfl ?_
        refine st_s rfl rfl rfl rfl ?_
        refine st_s rfl rfl rfl rfl ?_
        refine o_pickF st rfl rfl rfl ?_
        refine c_nil ?_
        exact l_join false (fun a w hE hm => ⟨hE.sub ⟨rfl, rfl, rfl, rfl, rfl, rfl, rfl, rfl, rfl, trivial⟩, (hm.pick [0, 1] rfl)⟩)
    · rintro t79 a w ⟨hE, hm⟩ h
      refine nx_of hE hm h ?_
      clear hE hm h
      refine c_cond rfl ?_ ?_
      · refine c_skip ?_
        refine l_then ?_
        refine c_block ?_
        refine c_region ?_
        refine o_mv st rfl rfl ?_
        refine o_add st rfl rfl rfl ?_; intro t81
        refine o_as st rfl rfl ?_
        refine c_nil ?_
        refine b_norm ?_
        exact l_join t81 (fun a w hE hm => ⟨hE.sub ⟨rfl, rfl, rfl, rfl, rfl, rfl, rfl, rfl, trivial⟩, (hm.pick [0, 1] rfl)⟩)
      · refine c_exit ?_
        refine l_exit ?_
        refine l_exit ?_
        refine b_exit ?_
        refine l_then ?_
        refine c_seq ?_
        refine c_block ?_
        refine c_loop (σ := Int) (fun (t82 : Int) (a : Act) (w : World) => Has 107 [(0, v1), (1, v3), (2, (.int .i64 top_2)), (3, (.func (.func 141) #[] #[])), (9, v7), (10, (.int .i64 t15)), (11, (.int .i64 t82)), (12, (.int .i64 t13))] a ∧ Mem (gB F [] w0) (feet []) w0 [ownCh elGSpan 71 v7 xs8, snapCh w0 F] w) (fun a w hE hm => ⟨hE.sub ⟨rfl, rfl, rfl, rfl, rfl, rfl, rfl, rfl, trivial⟩, (hm.pick [0, 1] rfl)⟩) ?_
        rintro nx83 t82 a w ⟨hE, hm⟩ h
        refine nx_of hE hm h ?_
        clear hE hm h
        refine c_seq ?_
        refine c_join (σ := Bool) (fun (t146 : Bool) (a : Act) (w : World) => Has 107 [(0, v1), (1, v3), (2, (.int .i64 top_2)), (3, (.func (.func 141) #[] #[])), (9, v7), (10, (.int .i64 t15)), (11, (.int .i64 t82)), (12, (.int .i64 t13)), (49, (.bool t146))] a ∧ Mem (gB F [] w0) (feet []) w0 [ownCh elGSpan 71 v7 xs8, snapCh w0 F] w) ?_ ?_
        · intro k147
          refine c_region ?_
          refine o_mv st rfl rfl ?_
          refine o_mv st rfl rfl ?_
          refine o_len st el72 1 rfl (reads_snap hv3) rfl rfl ?_
          refine o_lss st rfl rfl rfl ?_
          refine o_mv st rfl rfl ?_
          refine st_sp (dj := 41) rfl ?_ ?_
          · refine o_mv (st_g rfl rfl) rfl rfl ?_
            refine o_mv (st_g rfl rfl) rfl rfl ?_
            refine o_idx (st_g rfl rfl) 1 rfl (reads_snap hv3) rfl rfl rfl el72 ?_; intro e84 h85
            refine o_fadS (st_g rfl rfl) 1 rfl (reads_snap hv3) h85 rfl rfl fld71_1 rfl ?_
            refine o_lds (st_g rfl rfl) (enc := encGSpan) (u := (.int .i64 e84.xHi)) 1 rfl (reads_snap hv3) flelGSpan rfl h85 rfl rfl ty3 rfl ?_
            refine o_mv (st_g rfl rfl) rfl rfl ?_
            refine o_lss (st_g rfl rfl) rfl rfl rfl ?_
            refine o_pickT st rfl rfl rfl ?_
            refine c_nil ?_
            exact l_join (decide (e84.xHi < t13)) (fun a w hE hm => ⟨hE.sub ⟨rfl, rfl, rfl, rfl, rfl, rfl, rfl, rfl, rfl, trivial⟩, (hm.pick [0, 1] rfl)⟩)
          · refine st_s rfl rfl rfl rfl ?_
            refine st_s rfl rfl rfl rfl ?_
            refine st_s rfl rfl rfl rfl ?_
            refine st_s rfl rfl rfl rfl ?_
            refine st_s rfl rfl rfl rfl ?_
            refine st_s rfl rfl rfl rfl ?_
            refine st_s rfl rfl rfl rfl ?_
            refine o_pickF st rfl rfl rfl ?_
            refine c_nil ?_
            exact l_join false (fun a w hE hm => ⟨hE.sub ⟨rfl, rfl, rfl, rfl, rfl, rfl, rfl, rfl, rfl, trivial⟩, (hm.pick [0, 1] rfl)⟩)
        · rintro t146 a w ⟨hE, hm⟩ h
          refine nx_of hE hm h ?_
          clear hE hm h
          refine c_cond rfl ?_ ?_
          · refine c_skip ?_
            refine l_then ?_
            refine c_block ?_
            refine c_region ?_
            refine o_mv st rfl rfl ?_
            refine o_add st rfl rfl rfl ?_; intro t148
            refine o_as st rfl rfl ?_
            refine c_nil ?_
            refine b_norm ?_
            exact l_join t148 (fun a w hE hm => ⟨hE.sub ⟨rfl, rfl, rfl, rfl, rfl, rfl, rfl, rfl, trivial⟩, (hm.pick [0, 1] rfl)⟩)
          · refine c_exit ?_
            refine l_exit ?_
            refine l_exit ?_
            refine b_exit ?_
            refine l_then ?_
            refine c_seq ?_
            refine c_region ?_
            refine o_mv st rfl rfl ?_
            refine o_mv st rfl rfl ?_
            refine nx_note 1 rfl hv1 ?_
            refine stw (o_slc (I := t15) (J := (a_0.length : Int)) 0 rfl rfl rfl rfl rfl el72 rfl ?_); intro v149 xs150
            refine o_mv st rfl rfl ?_
            refine o_mv st rfl rfl ?_
            refine stw (o_callP (vs := [v149, (.int .i64 t13), (.int .i64 top_2)]) Tryd.call145 rfl rfl (by intro w m h; exact (w_impl_stretch (F := allB [] w) (rest_0 := xs150) (at_1 := t13) (top_2 := top_2) allB_ok (m.rd0 0 rfl reads_ro) h).mono (fun _ _ k => ret_free (fun r u => fr_nil) k)) ?_); rintro ⟨r153, r154⟩ _
            refine o_mv st rfl rfl ?_
            refine o_ext st (vs := [(.bool r153), (.int .i64 r154)]) rfl rfl rfl ?_
            refine o_ext st (vs := [(.bool r153), (.int .i64 r154)]) rfl rfl rfl ?_
            refine o_as st rfl rfl ?_
            refine o_as st rfl rfl ?_
            refine c_nil ?_
            refine l_then ?_
            refine c_seq ?_
            refine c_region ?_
            refine o_mv st rfl rfl ?_
            refine o_mv st rfl rfl ?_
            refine nx_note 3 rfl hv3 ?_
            refine stw (o_slc (I := t82) (J := (b_1.length : Int)) 0 rfl rfl rfl rfl rfl el72 rfl ?_); intro v155 xs156
            refine o_mv st rfl rfl ?_
            refine o_mv st rfl rfl ?_
            refine stw (o_callP (vs := [v155, (.int .i64 t13), (.int .i64 top_2)]) Tryd.call145 rfl rfl (by intro w m h; exact (w_impl_stretch (F := allB [] w) (rest_0 := xs156) (at_1 := t13) (top_2 := top_2) allB_ok (m.rd0 0 rfl reads_ro) h).mono (fun _ _ k => ret_free (fun r u => fr_nil) k)) ?_); rintro ⟨r159, r160⟩ _
            refine o_mv st rfl rfl ?_
            refine o_ext st (vs := [(.bool r159), (.int .i64 r160)]) rfl rfl rfl ?_
            refine o_ext st (vs := [(.bool r159), (.int .i64 r160)]) rfl rfl rfl ?_
            refine o_as st rfl rfl ?_
            refine o_as st rfl rfl ?_
            refine c_nil ?_
            refine l_then ?_
            refine c_seq ?_
            refine c_region ?_
            refine o_mv st rfl rfl ?_
            refine o_mv st rfl rfl ?_
            refine o_min st rfl rfl rfl ?_
            refine o_as st rfl rfl ?_
            refine c_nil ?_
            refine l_then ?_
            refine c_join (σ := (List GSpan)) (fun (xs296 : (List GSpan)) (a : Act) (w : World) => ∃ (v297 : Value), Has 107 [(0, v1), (1, v3), (2, (.int .i64 top_2)), (3, (.func (.func 141) #[] #[])), (9, v297), (10, (.int .i64 t15)), (11, (.int .i64 t82)), (17, (.int .i64 (min r154 r160)))] a ∧ Mem (gB F [] w0) (feet []) w0 [ownCh elGSpan 71 v297 xs296, snapCh w0 F] w) ?_ ?_
            · intro k299
              refine c_seq ?_
              refine c_region ?_
              refine o_mv st rfl rfl ?_
              refine o_mv st rfl rfl ?_
              refine o_mv st rfl rfl ?_
              refine stw (o_callXP rfl (runs_val rfl rfl Tryd.call141) rfl (by intro w m h; exact (w_impl_inFirstOnly (F := allB [] w) (inA_0 := r153) (inB_1 := r159) allB_ok h).mono (fun _ _ k => ret_free (fun r u => fr_nil) k)) ?_); rintro r161 _
              refine c_nil ?_
              refine l_then ?_
              refine c_cond rfl ?_ ?_
              · refine c_seq ?_
                refine c_region ?_
                refine o_mv st rfl rfl ?_
                refine o_len st el72 4 rfl reads_own rfl rfl ?_
                refine o_as st rfl rfl ?_
                refine c_nil ?_
                refine l_then ?_
                refine c_join (σ := Bool) (fun (t226 : Bool) (a : Act) (w : World) => Has 107 [(0, v1), (1, v3), (2, (.int .i64 top_2)), (3, (.func (.func 141) #[] #[])), (9, v7), (10, (.int .i64 t15)), (11, (.int .i64 t82)), (12, (.int .i64 t13)), (17, (.int .i64 (min r154 r160))), (18, (.int .i64 (xs8.length : Int))), (91, (.bool t226))] a ∧ Mem (gB F [] w0) (feet []) w0 [ownCh elGSpan 71 v7 xs8, snapCh w0 F] w) ?_ ?_
                · intro k227
                  refine c_region ?_
                  refine o_mv st rfl rfl ?_
                  refine o_gtr st rfl rfl rfl ?_
                  refine o_mv st rfl rfl ?_
                  refine st_sp (dj := 81) rfl ?_ ?_
                  · refine o_mv (st_g rfl rfl) rfl rfl ?_
                    refine o_mv (st_g rfl rfl) rfl rfl ?_
                    refine o_sub (st_g rfl rfl) rfl rfl rfl ?_; intro t162
                    refine o_idx (st_g rfl rfl) 4 rfl reads_own rfl rfl rfl el72 ?_; intro e163 h164
                    refine o_fadS (st_g rfl rfl) 4 rfl reads_own h164 rfl rfl fld71_1 rfl ?_
                    refine o_lds (st_g rfl rfl) (enc := encGSpan) (u := (.int .i64 e163.xHi)) 4 rfl reads_own flelGSpan rfl h164 rfl rfl ty3 rfl ?_
                    refine o_add (st_g rfl rfl) rfl rfl rfl ?_; intro t165
                    refine o_mv (st_g rfl rfl) rfl rfl ?_
                    refine o_eql (st_g rfl rfl) und3 rfl rfl rfl ?_
                    refine o_pickT st rfl rfl rfl ?_
                    refine c_nil ?_
                    exact l_join (decide (t165 = t13)) (fun a w hE hm => ⟨hE.sub ⟨rfl, rfl, rfl, rfl, rfl, rfl, rfl, rfl, rfl, rfl, rfl, trivial⟩, (hm.pick [4, 5] rfl)⟩)
                  · refine st_s rfl rfl rfl rfl ?_
                    refine st_s rfl rfl rfl rfl ?_
                    refine st_s rfl rfl rfl rfl ?_
                    refine st_s rfl rfl rfl rfl ?_
                    refine st_s rfl rfl rfl rfl ?_
                    refine st_s rfl rfl rfl rfl ?_
                    refine st_s rfl rfl rfl rfl ?_
                    refine st_s rfl rfl rfl rfl ?_
                    refine st_s rfl rfl rfl rfl ?_
                    refine o_pickF st rfl rfl rfl ?_
                    refine c_nil ?_
                    exact l_join false (fun a w hE hm => ⟨hE.sub ⟨rfl, rfl, rfl, rfl, rfl, rfl, rfl, rfl, rfl, rfl, rfl, trivial⟩, (hm.pick [4, 5] rfl)⟩)
                · rintro t226 a w ⟨hE, hm⟩ h
                  refine nx_of hE hm h ?_
                  clear hE hm h
                  refine c_cond rfl ?_ ?_
                  · refine c_region ?_
                    refine o_mv st rfl rfl ?_
                    refine o_mv st rfl rfl ?_
                    refine o_sub st rfl rfl rfl ?_; intro t228
                    refine o_mv st rfl rfl ?_
                    refine o_idx st 0 rfl reads_own rfl rfl rfl el72 ?_; intro e229 h230
                    refine o_fadS st 0 rfl reads_own h230 rfl rfl fld71_1 rfl ?_
                    refine stw (o_sts (enc := encGSpan) (y' := (GSpan.mk e229.xLo (min r154 r160))) 0 rfl flelGSpan rfl h230 ty3 rfl rfl rfl rfl rfl rfl ?_)
                    refine c_nil ?_
                    exact l_join (xs8.set (t228).toNat (GSpan.mk e229.xLo (min r154 r160))) (fun a w hE hm => ⟨v7, hE.sub ⟨rfl, rfl, rfl, rfl, rfl, rfl, rfl, rfl, trivial⟩, (hm.pick [0, 1] rfl)⟩)
                  · refine c_region ?_
                    refine o_mv st rfl rfl ?_
                    refine o_mv st rfl rfl ?_
                    refine o_mv st rfl rfl ?_
                    refine o_bld st (qs := [(0, (.int .i64 t13)), (1, (.int .i64 (min r154 r160)))]) (cells := [(.int .i64 t13), (.int .i64 (min r154 r160))]) (by intro ρ h; simp only [List.map_toArray, List.map_cons, List.map_nil, h (.tmp 99) _ rfl, h (.tmp 100) _ rfl]) rfl bld71 rfl ?_
                    refine stw (o_bsl (enc := encGSpan) (qs := [(0, (.agg #[(.int .i64 t13), (.int .i64 (min r154 r160))]))]) (cells := [(.int .i64 t13), (.int .i64 (min r154 r160))]) ([(GSpan.mk t13 (min r154 r160))]) flelGSpan (by intro ρ h; simp only [List.map_toArray, List.map_cons, List.map_nil, h (.tmp 101) _ rfl]) rfl el72 zero71 rfl rfl rfl rfl rfl rfl ?_); intro v232
                    refine stw (o_app 1 0 rfl rfl (src_flat flelGSpan reads_own) rfl rfl rfl el72 rfl zero71 rfl rfl ?_); intro v234
                    refine o_as st rfl rfl ?_
                    refine c_nil ?_
                    exact l_join (xs8 ++ ([(GSpan.mk t13 (min r154 r160))])) (fun a w hE hm => ⟨v234, hE.sub ⟨rfl, rfl, rfl, rfl, rfl, rfl, rfl, rfl, trivial⟩, (hm.pick [1, 2] rfl)⟩)
              · refine c_skip ?_
                exact l_join xs8 (fun a w hE hm => ⟨v7, hE.sub ⟨rfl, rfl, rfl, rfl, rfl, rfl, rfl, rfl, trivial⟩, (hm.pick [4, 5] rfl)⟩)
            · rintro xs296 a w ⟨v297, hE, hm⟩ h
              refine nx_of hE hm h ?_
              clear hE hm h
              refine c_region ?_
              refine o_mv st rfl rfl ?_
              refine o_add st rfl rfl rfl ?_; intro t300
              refine o_as st rfl rfl ?_
              refine c_nil ?_
              refine b_norm ?_
              exact l_join (xs296, t15, t82, t300) (fun a w hE hm => ⟨v297, hE.sub ⟨rfl, rfl, rfl, rfl, rfl, rfl, rfl, rfl, trivial⟩, (hm.pick [1, 0] rfl)⟩)
  · refine c_exit ?_
    refine l_exit ?_
    refine l_exit ?_
    refine b_exit ?_
    refine l_then ?_
    refine c_seq ?_
    refine c_region ?_
    refine o_mv st rfl rfl ?_
    refine o_as st rfl rfl ?_
    refine c_nil ?_
    refine l_then ?_
    refine c_ret ?_
    exact l_end1 Tryd.results140 xs8 v7 (rv_t rfl) (fun w m => NewCh.ofB m [1] rfl)

end

end Go.Proofs.YtpbmhkfbggmofaaDoor
