/- Texts of this seat, put together. -/
import Derived.Test.YtpbmhkfbggmofaaDoorMP12
set_option linter.unusedSimpArgs false
set_option linter.unusedVariables false
set_option linter.unusedSectionVars false
namespace Go.Proofs.YtpbmhkfbggmofaaDoor
section
open Go.RowKit
set_option maxRecDepth 100000 in
set_option maxHeartbeats 8000000 in
theorem w_spec_l20Flats {w0 : World} {F : Nat → Prop} {b1 : Nat} {v2 : Value} {r_0_b : (List UInt8)} {r_0_p : Int} {n_1 : Int} {κ : ((List GFlat) × Int) → Prop} (hF : ∀ b, F b → b < w0.heap.size ∧ ¬ feet [cellCh b1 [v2, (.int .i64 r_0_p)] 104] b) (hg : Given [cellCh b1 [v2, (.int .i64 r_0_p)] 104] F w0) (hv2 : Sl elU8 F w0 v2 r_0_b) (h : L_spec_l20Flats r_0_b r_0_p n_1 κ) :
    Calls Tryd.prog 30 #[(.pointer (some ⟨b1, 0, none⟩)), (.int .i64 n_1)] w0 (Ret [cellCh b1 [v2, (.int .i64 r_0_p)] 104] F w0 κ (fun (r : ((List GFlat) × Int)) (u : Value) => u) (fun (r : ((List GFlat) × Int)) (u : Value) => [ownCh elGFlat 87 u r.1, cellCh b1 [v2, (.int .i64 r.2)] 104])) := by
  refine enterS (args := [(.pointer (some ⟨b1, 0, none⟩)), (.int .i64 n_1)]) [cellCh b1 [v2, (.int .i64 r_0_p)] 104] hF hg Tryd.func30 rfl Tryd.ntmps30 rfl h ?_
  clear h hF hg
  refine c_seq ?_
  refine c_region ?_
  refine stw (o_asd dGFlat 87 rfl rfl ?_)
  refine c_nil ?_
  refine l_then ?_
  refine c_seq ?_
  refine c_region ?_
  refine stw (o_bslD0 (E' := dGFlat) (qs := []) (by intro ρ h; simp only [List.map_toArray, List.map_cons, List.map_nil]) rfl el23 zero87 rfl rfl rfl ?_); intro bb7 v6
  refine o_as st rfl rfl ?_
  refine c_nil ?_
  refine l_then ?_
  refine c_seq ?_
  refine c_seq ?_
  refine c_region ?_
  refine o_mv st rfl rfl ?_
  refine pk [2, 0, 1, 3] rfl ?_
  refine stw (o_call (vs := [(.pointer (some ⟨b1, 0, none⟩)), (.int .i64 7)]) (M0 := [cellCh b1 [v2, (.int .i64 r_0_p)] 104]) Tryd.call60 rfl rfl (by intro w m h; exact (w_spec_l20Rd_pick (F := allB [cellCh b1 [v2, (.int .i64 r_0_p)] 104] w) (r_0_b := r_0_b) (r_0_p := r_0_p) (n_1 := 7) allB_ok m.given (m.rdM 2 rfl (reads_snap hv2)) h).mono (fun _ _ k => ret_free (fun r u => (fr_cons free_cell fr_nil)) k)) ?_); rintro ⟨r9, r10⟩ _
  refine o_as st rfl rfl ?_
  refine c_nil ?_
  refine l_then ?_
  refine c_block ?_
  refine c_loop (σ := (Int × (List GFlat) × Int)) (fun ((t11, xs13, t16) : (Int × (List GFlat) × Int)) (a : Act) (w : World) => ∃ (v12 : Value), Has 84 [(0, (.pointer (some ⟨b1, 0, none⟩))), (1, (.int .i64 n_1)), (5, v12), (6, (.int .i64 t16))] a ∧ Mem (gB F [cellCh b1 [v2, (.int .i64 r_0_p)] 104] w0) (feet [cellCh b1 [v2, (.int .i64 r_0_p)] 104]) w0 [cellCh b1 [v2, (.int .i64 t11)] 104, snapCh w0 F, ownCh elGFlat 87 v12 xs13] w) (fun a w hE hm => ⟨v6, hE.sub ⟨rfl, rfl, rfl, rfl, trivial⟩, ((hm.undp 1 rfl).pick [0, 3, 1] rfl)⟩) ?_
  rintro nx17 ⟨t11, xs13, t16⟩ a w ⟨v12, hE, hm⟩ h
  refine nx_of hE hm h ?_
  clear hE hm h
  refine c_seq ?_
  refine c_seq ?_
  refine c_region ?_
  refine o_mv st rfl rfl ?_
  refine o_gtr st rfl rfl rfl ?_
  refine c_nil ?_
  refine l_then ?_
  refine c_cond rfl ?_ ?_
  · refine c_skip ?_
    refine l_then ?_
    refine c_seq ?_
    refine c_block ?_
    refine c_seq ?_
    refine c_region ?_
    refine o_mv st rfl rfl ?_
    refine stw (o_call (vs := [(.pointer (some ⟨b1, 0, none⟩)), (.int .i64 0)]) (M0 := [cellCh b1 [v2, (.int .i64 t11)] 104]) Tryd.call61 rfl rfl (by intro w m h; exact w_spec_l20Box (r_0_b := r_0_b) (r_0_p := t11) (n_1 := 0) fz_ok m.givenB (m.roS 1 rfl hv2) h) ?_); rintro ⟨r18, r21⟩ v19
    refine o_mv st rfl rfl ?_
    refine pk [1, 0, 2, 3] rfl ?_
    refine stw (o_call (vs := [(.pointer (some ⟨b1, 0, none⟩)), (.int .i64 2)]) (M0 := [cellCh b1 [v2, (.int .i64 r21)] 104]) Tryd.call60 rfl rfl (by intro w m h; exact (w_spec_l20Rd_pick (F := allB [cellCh b1 [v2, (.int .i64 r21)] 104] w) (r_0_b := r_0_b) (r_0_p := r21) (n_1 := 2) allB_ok m.given (m.rdM 1 rfl (reads_snap hv2)) h).mono (fun _ _ k => ret_free (fun r u => (fr_cons free_cell fr_nil)) k)) ?_); rintro ⟨r22, r23⟩ _
    refine o_eql st und3 rfl rfl rfl ?_
    refine nx_ro 1 rfl ?_; rintro a24 l25 q26 rfl
    refine o_bld st (qs := [(0, (.agg #[(.slice a24 l25 q26)])), (1, (.bool (decide (r22 = 0))))]) (cells := [(.slice a24 l25 q26), (.bool (decide (r22 = 0)))]) (by intro ρ h; simp only [List.map_toArray, List.map_cons, List.map_nil, h (.tmp 17) _ rfl, h (.tmp 20) _ rfl]) rfl bld87 rfl ?_
    refine stw (o_alloc rfl [(.slice none 0 0), (.bool false)] zero87 ?_); intro b27
    refine stw (o_stc (cs' := [(.slice a24 l25 q26), (.bool (decide (r22 = 0)))]) 0 rfl rfl rfl ty87 rfl rfl rfl rfl ?_)
    refine c_nil ?_
    refine l_then ?_
    refine c_join (σ := (Int × (List (List GSpan)) × Bool)) (fun ((t187, xs189, t192) : (Int × (List (List GSpan)) × Bool)) (a : Act) (w : World) => ∃ (v188 : Value), Has 84 [(0, (.pointer (some ⟨b1, 0, none⟩))), (1, (.int .i64 n_1)), (5, v12), (6, (.int .i64 t16)), (7, (.pointer (some ⟨b27, 0, none⟩)))] a ∧ Mem (gB F [cellCh b1 [v2, (.int .i64 r_0_p)] 104] w0) (feet [cellCh b1 [v2, (.int .i64 r_0_p)] 104]) w0 [cellCh b1 [v2, (.int .i64 t187)] 104, cellCh b27 [v188, (.bool t192)] 87, ownCh elGFlat 87 v12 xs13, snapCh w0 F, roCh (elSl elGSpan) v188 xs189] w) ?_ ?_
    · intro k193
      refine c_join (σ := (Int × Bool)) (fun ((t91, t92) : (Int × Bool)) (a : Act) (w : World) => Has 84 [(0, (.pointer (some ⟨b1, 0, none⟩))), (1, (.int .i64 n_1)), (5, v12), (6, (.int .i64 t16)), (7, (.pointer (some ⟨b27, 0, none⟩))), (29, (.bool t92))] a ∧ Mem (gB F [cellCh b1 [v2, (.int .i64 r_0_p)] 104] w0) (feet [cellCh b1 [v2, (.int .i64 r_0_p)] 104]) w0 [cellCh b1 [v2, (.int .i64 t91)] 104, cellCh b27 [(.slice a24 l25 q26), (.bool (decide (r22 = 0)))] 87, roCh (elSl elGSpan) (.slice a24 l25 q26) r18.xSides, ownCh elGFlat 87 v12 xs13, snapCh w0 F] w) ?_ ?_
      · intro k93
        refine c_region ?_
        refine o_mv st rfl rfl ?_
        refine o_len st el23 4 rfl reads_own rfl rfl ?_
        refine o_gtr st rfl rfl rfl ?_
        refine o_mv st rfl rfl ?_
        refine st_sp (dj := 25) rfl ?_ ?_
        · refine o_mv (st_g rfl rfl) rfl rfl ?_
          refine pk [1, 0, 2, 3, 4] rfl ?_
          refine st_gw rfl rfl (o_call (vs := [(.pointer (some ⟨b1, 0, none⟩)), (.int .i64 3)]) (M0 := [cellCh b1 [v2, (.int .i64 r23)] 104]) Tryd.call60 rfl rfl (by intro w m h; exact (w_spec_l20Rd_pick (F := allB [cellCh b1 [v2, (.int .i64 r23)] 104] w) (r_0_b := r_0_b) (r_0_p := r23) (n_1 := 3) allB_ok m.given (m.rdM 2 rfl (reads_snap hv2)) h).mono (fun _ _ k => ret_free (fun r u => (fr_cons free_cell fr_nil)) k)) ?_); rintro ⟨r29, r30⟩ _
          refine o_eql (st_g rfl rfl) und3 rfl rfl rfl ?_
          refine o_pickT st rfl rfl rfl ?_
          refine c_nil ?_
          exact l_join (r30, (decide (r29 = 0))) (fun a w hE hm => ⟨hE.sub ⟨rfl, rfl, rfl, rfl, rfl, rfl, trivial⟩, (hm.pick [0, 1, 2, 4, 3] rfl)⟩)
        · refine st_s rfl rfl rfl rfl ?_
          refine st_s rfl rfl rfl rfl ?_
          refine st_s rfl rfl rfl rfl ?_
          refine o_pickF st rfl rfl rfl ?_
          refine c_nil ?_
          exact l_join (r23, false) (fun a w hE hm => ⟨hE.sub ⟨rfl, rfl, rfl, rfl, rfl, rfl, trivial⟩, (hm.pick [1, 0, 2, 4, 3] rfl)⟩)
      · rintro ⟨t91, t92⟩ a w ⟨hE, hm⟩ h
        refine nx_of hE hm h ?_
        clear hE hm h
        refine c_cond rfl ?_ ?_
        · refine c_seq ?_
          refine c_region ?_
          refine stw (o_bslD0 (E' := (dSl dGSpan 71)) (qs := []) (by intro ρ h; simp only [List.map_toArray, List.map_cons, List.map_nil]) rfl el83 zero72 rfl rfl rfl ?_); intro bb95 v94
          refine o_mv st rfl rfl ?_
          refine o_mv st rfl rfl ?_
          refine o_len st el23 4 rfl reads_own rfl rfl ?_
          refine o_sub st rfl rfl rfl ?_; intro t97
          refine o_idx st 4 rfl reads_own rfl rfl rfl el23 ?_; intro e98 h99
          refine o_fadS st 4 rfl reads_own h99 rfl rfl fld87_0 rfl ?_
          refine o_fadS st 4 rfl reads_own h99 rfl rfl fld85_0 rfl ?_
          refine stw (o_ldE 4 rfl src_own h99 rfl rfl ty83 ?_); rintro wr100 ff101 _ ⟨v103, rfl, sl104⟩; refine ⟨v103, rfl, ?_⟩
          refine nx_undp 1 rfl ?_
          refine stw (o_app 1 0 rfl rfl (src_snap sl104) rfl rfl rfl el83 rfl zero72 rfl rfl ?_); intro v106
          refine nx_own 1 rfl ?_; rintro a108 l109 q110 rfl
          refine o_bld st (qs := [(0, (.slice a108 l109 q110))]) (cells := [(.slice a108 l109 q110)]) (by intro ρ h; simp only [List.map_toArray, List.map_cons, List.map_nil, h (.tmp 39) _ rfl]) rfl bld85 rfl ?_
          refine o_fad st rfl rfl fld87_0 rfl ?_
          refine stw (o_stc (cs' := [(.slice a108 l109 q110), (.bool (decide (r22 = 0)))]) 3 rfl rfl rfl ty85 rfl rfl rfl rfl ?_)
          refine c_nil ?_
          refine l_then ?_
          refine c_seq ?_
          refine c_region ?_
          refine o_mv st rfl rfl ?_
          refine pk [2, 0, 1, 3, 4, 5, 6] rfl ?_
          refine stw (o_call (vs := [(.pointer (some ⟨b1, 0, none⟩)), (.int .i64 4)]) (M0 := [cellCh b1 [v2, (.int .i64 t91)] 104]) Tryd.call60 rfl rfl (by intro w m h; exact (w_spec_l20Rd_pick (F := allB [cellCh b1 [v2, (.int .i64 t91)] 104] w) (r_0_b := r_0_b) (r_0_p := t91) (n_1 := 4) allB_ok m.given (m.rdM 5 rfl (reads_snap hv2)) h).mono (fun _ _ k => ret_free (fun r u => (fr_cons free_cell fr_nil)) k)) ?_); rintro ⟨r111, r112⟩ _
          refine o_as st rfl rfl ?_
          refine c_nil ?_
          refine l_then ?_
          refine c_seq ?_
          refine c_draw mixed 10 rfl [snapCh wr100 ff101, cellCh b27 [(.slice a108 l109 q110), (.bool (decide (r22 = 0)))] 87, roCh (elSl elGSpan) (.slice a24 l25 q26) r18.xSides, ownCh elGFlat 87 v12 xs13, snapCh w0 F] ?_
          refine o_fad (dt 0 (fun w m => m.pick [1, 3, 4, 5, 6] rfl)) rfl rfl fld87_0 rfl ?_
          refine o_fad (dt 1 (fun w m => m.pick [1, 3, 4, 5, 6] rfl)) rfl rfl fld85_0 rfl ?_
          refine o_ldc (dt 2 (fun w m => m.pick [1, 3, 4, 5, 6] rfl)) (v := (.slice a108 l109 q110)) 1 rfl rfl rfl ty83 rfl ?_
          refine o_mv (dt 3 (fun w m => m.pick [1, 3, 4, 5, 6] rfl)) rfl rfl ?_
          refine o_mv (dt 4 (fun w m => m.pick [1, 3, 4, 5, 6] rfl)) rfl rfl ?_
          refine o_mv (dt 5 (fun w m => m.pick [1, 3, 4, 5, 6] rfl)) rfl rfl ?_
          refine d_one (i := 6) rfl (by kernel_rfl) (o_callP (vs := [(.int .i64 r111)]) Tryd.call63 rfl rfl (by intro w m h; exact (w_spec_FieldTop (F := allB [] w) (n_0 := r111) allB_ok h).mono (fun _ _ k => ret_free (fun r u => fr_nil) k)) ?_); rintro r113 _
          refine d_and (fun w m => m.pick [1, 3, 4, 5, 6] rfl) ?_
          refine d_one (i := 7) rfl (by kernel_rfl) (o_call (vs := [(.pointer (some ⟨b1, 0, none⟩)), (.int .i64 r113), (.int .i64 0)]) (M0 := [cellCh b1 [v2, (.int .i64 r112)] 104]) Tryd.call62 rfl rfl (by intro w m h; exact (w_spec_l20Set (F := allB [cellCh b1 [v2, (.int .i64 r112)] 104] w) (r_0_b := r_0_b) (r_0_p := r112) (top_1 := r113) (n_2 := 0) allB_ok m.given (m.rdM 5 rfl (reads_snap hv2)) h).mono (fun _ _ k => ret_free (fun r u => (fr_cons (free_own flelGSpan) (fr_cons free_cell fr_nil))) k)) ?_); rintro ⟨r114, r117⟩ v115
          refine d_and (fun w m => m.pick [2, 4, 5, 6, 7] rfl) ?_
          refine d_one (i := 8) rfl (by kernel_rfl) (o_idx m_op 3 rfl reads_own rfl rfl rfl el83 ?_); intro e118 h119
          refine d_and (fun w m => m.pick [2, 4, 5, 6, 7] rfl) ?_
          refine nx_own 0 rfl ?_; rintro a120 l121 q122 rfl
          refine frz 0 rfl reads_own ?_
          refine d_one (i := 9) rfl (by kernel_rfl) (o_stsN (El' := (elSl elGSpan)) (y' := r114) 3 rfl rfl h119 (fun w cs m h => by obtain ⟨u0_, rfl, s0_⟩ := h; exact ⟨(.slice a120 l121 q122), rfl, (m.ro 0 rfl)⟩) ty72 rfl rfl rfl rfl rfl ?_)
          refine d_and (fun w m => m.pick [2, 4, 5, 6, 7] rfl) ?_
          refine d_done (by kernel_rfl) ?_
          refine l_then ?_
          refine c_region ?_
          refine o_mv st rfl rfl ?_
          refine o_mv st rfl rfl ?_
          refine o_len st el23 6 rfl reads_own rfl rfl ?_
          refine o_sub st rfl rfl rfl ?_; intro t124
          refine o_idx st 6 rfl reads_own rfl rfl rfl el23 ?_; intro e125 h126
          refine o_fadS st 6 rfl reads_own h126 rfl rfl fld87_1 rfl ?_
          refine o_ldP st (u := (.bool e125.xAccept)) 6 rfl reads_own h126 rfl rfl rfl ty4 (fun F w cs h => by obtain ⟨u, rfl, _⟩ := h; rfl) ?_
          refine o_fad st rfl rfl fld87_1 rfl ?_
          refine stw (o_stc (cs' := [(.slice a108 l109 q110), (.bool e125.xAccept)]) 4 rfl rfl rfl ty4 rfl rfl rfl rfl ?_)
          refine c_nil ?_
          exact l_join (r117, (List.set (([]) ++ e98.xWhere.xSides) (r111).toNat r114), e125.xAccept) (fun a w hE hm => ⟨(.slice a108 l109 q110), hE.sub ⟨rfl, rfl, rfl, rfl, rfl, trivial⟩, ((hm.freeze 3 rfl reads_own).pick [1, 4, 6, 7, 3] rfl)⟩)
        · refine c_skip ?_
          exact l_join (t91, r18.xSides, (decide (r22 = 0))) (fun a w hE hm => ⟨(.slice a24 l25 q26), hE.sub ⟨rfl, rfl, rfl, rfl, rfl, trivial⟩, (hm.pick [0, 1, 3, 4, 2] rfl)⟩)
    · rintro ⟨t187, xs189, t192⟩ a w ⟨v188, hE, hm⟩ h
      refine nx_of hE hm h ?_
      clear hE hm h
      refine c_region ?_
      refine o_mv st rfl rfl ?_
      refine o_ldc st (v := (.agg #[v188, (.bool t192)])) 1 rfl rfl rfl ty87 rfl ?_
      refine nx_ro 4 rfl ?_; rintro a194 l195 q196 rfl
      refine stw (o_bslN (El' := elGFlat) (qs := [(0, (.agg #[(.slice a194 l195 q196), (.bool t192)]))]) (cells := [(.slice a194 l195 q196), (.bool t192)]) ([(GFlat.mk (GBox.mk xs189) t192)]) ([[(.slice a194 l195 q196), (.bool t192)]]) (fun w m => ⟨⟨(.slice a194 l195 q196), rfl, (m.ro 4 rfl)⟩, trivial⟩) (by intro ρ h; simp only [List.map_toArray, List.map_cons, List.map_nil, h (.tmp 62) _ rfl]) rfl el23 zero87 rfl rfl rfl rfl rfl rfl ?_); intro v197
      refine stw (o_app 3 0 rfl rfl src_own rfl rfl rfl el23 rfl zero87 rfl rfl ?_); intro v199
      refine o_as st rfl rfl ?_
      refine c_nil ?_
      refine b_norm ?_
      refine l_then ?_
      refine c_region ?_
      refine o_mv st rfl rfl ?_
      refine o_sub st rfl rfl rfl ?_; intro t201
      refine o_as st rfl rfl ?_
      refine c_nil ?_
      exact l_join (t187, (xs13 ++ ([(GFlat.mk (GBox.mk xs189) t192)])), t201) (fun a w hE hm => ⟨v199, hE.sub ⟨rfl, rfl, rfl, rfl, trivial⟩, (hm.pick [1, 4, 3] rfl)⟩)
  · refine c_exit ?_
    refine l_exit ?_
    refine l_exit ?_
    refine b_exit ?_
    refine l_then ?_
    refine c_join (σ := (Int × (List GFlat))) (fun ((t288, xs290) : (Int × (List GFlat))) (a : Act) (w : World) => ∃ (v289 : Value), Has 84 [(5, v289)] a ∧ Mem (gB F [cellCh b1 [v2, (.int .i64 r_0_p)] 104] w0) (feet [cellCh b1 [v2, (.int .i64 r_0_p)] 104]) w0 [cellCh b1 [v2, (.int .i64 t288)] 104, snapCh w0 F, ownCh elGFlat 87 v289 xs290] w) ?_ ?_
    · intro k293
      refine c_seq ?_
      refine c_region ?_
      refine o_mv st rfl rfl ?_
      refine o_mv st rfl rfl ?_
      refine stw (o_call (vs := [(.pointer (some ⟨b1, 0, none⟩)), (.int .i64 n_1)]) (M0 := [cellCh b1 [v2, (.int .i64 t11)] 104]) Tryd.call64 rfl rfl (by intro w m h; exact (w_spec_l20Rd_odd (F := allB [cellCh b1 [v2, (.int .i64 t11)] 104] w) (r_0_b := r_0_b) (r_0_p := t11) (n_1 := n_1) allB_ok m.given (m.rdM 0 rfl (reads_snap hv2)) h).mono (fun _ _ k => ret_free (fun r u => (fr_cons free_cell fr_nil)) k)) ?_); rintro ⟨r202, r203⟩ _
      refine c_nil ?_
      refine l_then ?_
      refine c_cond rfl ?_ ?_
      · refine c_seq ?_
        refine c_region ?_
        refine o_mv st rfl rfl ?_
        refine stw (o_call (vs := [(.pointer (some ⟨b1, 0, none⟩)), (.int .i64 2)]) (M0 := [cellCh b1 [v2, (.int .i64 r203)] 104]) Tryd.call60 rfl rfl (by intro w m h; exact (w_spec_l20Rd_pick (F := allB [cellCh b1 [v2, (.int .i64 r203)] 104] w) (r_0_b := r_0_b) (r_0_p := r203) (n_1 := 2) allB_ok m.given (m.rdM 0 rfl (reads_snap hv2)) h).mono (fun _ _ k => ret_free (fun r u => (fr_cons free_cell fr_nil)) k)) ?_); rintro ⟨r204, r205⟩ _
        refine o_eql st und3 rfl rfl rfl ?_
        refine c_nil ?_
        refine l_then ?_
        refine c_cond rfl ?_ ?_
        · refine c_region ?_
          refine o_mv st rfl rfl ?_
          refine o_bld st (qs := []) (cells := [(.slice none 0 0), (.bool false)]) (by intro ρ h; simp only [List.map_toArray, List.map_cons, List.map_nil]) rfl bld87 rfl ?_
          refine stw (o_bslD (M := []) (E' := dGFlat) (qs := [(0, (.agg #[(.slice none 0 0), (.bool false)]))]) (cs := [(.slice none 0 0), (.bool false)]) (GFlat.mk (GBox.mk ([])) false) (absorb_nil (fun w => ⟨_, rfl, Dp.nil⟩)) (by intro ρ h; simp only [List.map_toArray, List.map_cons, List.map_nil, h (.tmp 72) _ rfl]) rfl el23 zero87 rfl rfl rfl rfl ?_); intro bb207 v206
          refine nx_undp 0 rfl ?_
          refine stw (o_app 3 0 rfl rfl src_own rfl rfl rfl el23 rfl zero87 rfl rfl ?_); intro v209
          refine o_as st rfl rfl ?_
          refine c_nil ?_
          exact l_join (r205, (xs13 ++ ([(GFlat.mk (GBox.mk ([])) false)]))) (fun a w hE hm => ⟨v209, hE.sub ⟨rfl, trivial⟩, (hm.pick [1, 2, 3] rfl)⟩)
        · refine c_block ?_
          refine c_loop (σ := (List GFlat)) (fun (xs212 : (List GFlat)) (a : Act) (w : World) => ∃ (v211 : Value), Has 84 [(5, v211)] a ∧ Mem (gB F [cellCh b1 [v2, (.int .i64 r_0_p)] 104] w0) (feet [cellCh b1 [v2, (.int .i64 r_0_p)] 104]) w0 [cellCh b1 [v2, (.int .i64 r205)] 104, snapCh w0 F, ownCh elGFlat 87 v211 xs212] w) (fun a w hE hm => ⟨v12, hE.sub ⟨rfl, trivial⟩, (hm.pick [0, 1, 2] rfl)⟩) ?_
          rintro nx215 xs212 a w ⟨v211, hE, hm⟩ h
          refine nx_of hE hm h ?_
          clear hE hm h
          refine c_seq ?_
          refine c_seq ?_
          refine c_region ?_
          refine o_mv st rfl rfl ?_
          refine o_len st el23 2 rfl reads_own rfl rfl ?_
          refine o_leq st rfl rfl rfl ?_
          refine c_nil ?_
          refine l_then ?_
          refine c_cond rfl ?_ ?_
          · refine c_skip ?_
            refine l_then ?_
            refine c_block ?_
            refine c_region ?_
            refine o_mv st rfl rfl ?_
            refine stw (o_callP (vs := []) Tryd.call65 rfl rfl (by intro w m h; exact (w_spec_BoxAll (F := allB [] w) allB_ok h).mono (fun _ _ k => ret_free (fun r u => (fr_cons free_dp fr_nil)) k)) ?_); rintro r216 ⟨v217, bb218⟩
            refine nx_dp 0 rfl ?_; rintro a220 l221 q222 rfl
            refine o_bld st (qs := [(0, (.agg #[(.slice a220 l221 q222)]))]) (cells := [(.slice a220 l221 q222), (.bool false)]) (by intro ρ h; simp only [List.map_toArray, List.map_cons, List.map_nil, h (.tmp 79) _ rfl]) rfl bld87 rfl ?_
            refine stw (o_bslD (M := [dpCh (dSl dGSpan 71) 72 bb218 (.slice a220 l221 q222) r216.xSides]) (E' := dGFlat) (qs := [(0, (.agg #[(.slice a220 l221 q222), (.bool false)]))]) (cs := [(.slice a220 l221 q222), (.bool false)]) (GFlat.mk r216 false) (absorb_one gives_dp (fun B w h => ⟨_, rfl, h⟩)) (by intro ρ h; simp only [List.map_toArray, List.map_cons, List.map_nil, h (.tmp 80) _ rfl]) rfl el23 zero87 rfl rfl rfl rfl ?_); intro bb224 v223
            refine nx_undp 0 rfl ?_
            refine stw (o_app 3 0 rfl rfl src_own rfl rfl rfl el23 rfl zero87 rfl rfl ?_); intro v226
            refine o_as st rfl rfl ?_
            refine c_nil ?_
            refine b_norm ?_
            exact l_join (xs212 ++ ([(GFlat.mk r216 false)])) (fun a w hE hm => ⟨v226, hE.sub ⟨rfl, trivial⟩, (hm.pick [1, 2, 3] rfl)⟩)
          · refine c_exit ?_
            refine l_exit ?_
            refine l_exit ?_
            refine b_exit ?_
            exact l_join (r205, xs212) (fun a w hE hm => ⟨v211, hE.sub ⟨rfl, trivial⟩, (hm.pick [0, 1, 2] rfl)⟩)
      · refine c_skip ?_
        exact l_join (r203, xs13) (fun a w hE hm => ⟨v12, hE.sub ⟨rfl, trivial⟩, (hm.pick [0, 1, 2] rfl)⟩)
    · rintro ⟨t288, xs290⟩ a w ⟨v289, hE, hm⟩ h
      refine nx_of hE hm h ?_
      clear hE hm h
      refine c_seq ?_
      refine c_region ?_
      refine o_mv st rfl rfl ?_
      refine o_as st rfl rfl ?_
      refine c_nil ?_
      refine l_then ?_
      refine c_ret ?_
      exact l_end1 Tryd.results30 (xs290, t288) v289 (rv_t rfl) (fun w m => NewCh.ofB m [2, 0] rfl)

set_option maxRecDepth 100000 in
set_option maxHeartbeats 8000000 in
theorem w_impl_FieldTop {w0 : World} {F : Nat → Prop} {n_0 : Int} {κ : Int → Prop} (hF : ∀ b, F b → b < w0.heap.size ∧ ¬ feet [] b) (hgl0 : Sl elGFieldShape F w0 (.slice (some ⟨0, 0, none⟩) 4 4) gl_impl_fieldShapes) (h : L_impl_FieldTop n_0 κ) :
    Calls Tryd.prog 91 #[(.int .i64 n_0)] w0 (Ret [] F w0 κ (fun (r : Int) (u : Unit) => (.int .i64 r)) (fun (r : Int) (u : Unit) => [])) := by
  refine enterS (args := [(.int .i64 n_0)]) [] hF (Given.nil _ _) Tryd.func91 rfl Tryd.ntmps91 rfl h ?_
  clear h hF
  refine c_seq ?_
  refine c_region ?_
  refine o_as st rfl rfl ?_
  refine c_nil ?_
  refine l_then ?_
  refine c_seq ?_
  refine c_join (σ := Bool) (fun (t61 : Bool) (a : Act) (w : World) => Has 13 [(0, (.int .i64 n_0)), (8, (.bool t61))] a ∧ Mem (gB F [] w0) (feet []) w0 [snapCh w0 F] w) ?_ ?_
  · intro k62
    refine c_region ?_
    refine o_mv st rfl rfl ?_
    refine o_lss st rfl rfl rfl ?_
    refine o_mv st rfl rfl ?_
    refine st_sp (dj := 5) rfl ?_ ?_
    · refine st_s rfl rfl rfl rfl ?_
      refine st_s rfl rfl rfl rfl ?_
      refine o_pickT st rfl rfl rfl ?_
      refine c_nil ?_
      exact l_join true (fun a w hE hm => ⟨hE.sub ⟨rfl, rfl, trivial⟩, (hm.pick [0] rfl)⟩)
    · refine o_mv (st_g rfl rfl) rfl rfl ?_
      refine o_geq (st_g rfl rfl) rfl rfl rfl ?_
      refine o_pickF st rfl rfl rfl ?_
      refine c_nil ?_
      exact l_join (decide (4 ≤ n_0)) (fun a w hE hm => ⟨hE.sub ⟨rfl, rfl, trivial⟩, (hm.pick [0] rfl)⟩)
  · rintro t61 a w ⟨hE, hm⟩ h
    refine nx_of hE hm h ?_
    clear hE hm h
    refine c_cond rfl ?_ ?_
    · refine c_seq ?_
      refine c_region ?_
      refine o_as st rfl rfl ?_
      refine c_nil ?_
      refine l_then ?_
      refine c_ret ?_
      refine l_ret ?_
      exact l_end1 Tryd.results91 (-1) () (rv_t rfl) (fun _ _ => NewCh.nil _ _ _ _)
    · refine c_skip ?_
      refine l_then ?_
      refine c_seq ?_
      refine c_region ?_
      refine o_mv st rfl rfl ?_
      refine o_ixa st 0 rfl (reads_snap hgl0) rfl rfl rfl arr129 ?_; intro e63 h64
      refine o_fadS st 0 rfl (reads_snap hgl0) h64 rfl rfl fld128_1 rfl ?_
      refine o_lds st (enc := encGFieldShape) (u := (.int .i64 e63.xTop)) 0 rfl (reads_snap hgl0) flelGFieldShape rfl h64 rfl rfl ty3 rfl ?_
      refine o_as st rfl rfl ?_
      refine c_nil ?_
      refine l_then ?_
      refine c_ret ?_
      exact l_end1 Tryd.results91 e63.xTop () (rv_t rfl) (fun _ _ => NewCh.nil _ _ _ _)

set_option maxRecDepth 100000 in
set_option maxHeartbeats 8000000 in
theorem w_impl_topValid {w0 : World} {F : Nat → Prop} {top_0 : Int} {κ : Bool → Prop} (hF : ∀ b, F b → b < w0.heap.size ∧ ¬ feet [] b) (h : L_impl_topValid top_0 κ) :
    Calls Tryd.prog 119 #[(.int .i64 top_0)] w0 (Ret [] F w0 κ (fun (r : Bool) (u : Unit) => (.bool r)) (fun (r : Bool) (u : Unit) => [])) := by
  refine enter0 (args := [(.int .i64 top_0)]) [] hF (Given.nil _ _) Tryd.func119 rfl Tryd.ntmps119 rfl h ?_
  clear h hF
  refine c_seq ?_
  refine c_region ?_
  refine o_as st rfl rfl ?_
  refine c_nil ?_
  refine l_then ?_
  refine c_join (σ := Bool) (fun (t61 : Bool) (a : Act) (w : World) => Has 9 [(2, (.bool t61))] a ∧ Mem (gB F [] w0) (feet []) w0 [] w) ?_ ?_
  · intro k62
    refine c_region ?_
    refine o_mv st rfl rfl ?_
    refine o_geq st rfl rfl rfl ?_
    refine o_mv st rfl rfl ?_
    refine st_sp (dj := 5) rfl ?_ ?_
    · refine o_mv (st_g rfl rfl) rfl rfl ?_
      refine o_leq (st_g rfl rfl) rfl rfl rfl ?_
      refine o_pickT st rfl rfl rfl ?_
      refine o_as st rfl rfl ?_
      refine c_nil ?_
      exact l_join (decide (top_0 ≤ 65535)) (fun a w hE hm => ⟨hE.sub ⟨rfl, trivial⟩, (hm.pick [] rfl)⟩)
    · refine st_s rfl rfl rfl rfl ?_
      refine st_s rfl rfl rfl rfl ?_
      refine o_pickF st rfl rfl rfl ?_
      refine o_as st rfl rfl ?_
      refine c_nil ?_
      exact l_join false (fun a w hE hm => ⟨hE.sub ⟨rfl, trivial⟩, (hm.pick [] rfl)⟩)
  · rintro t61 a w ⟨hE, hm⟩ h
    refine nx_of hE hm h ?_
    clear hE hm h
    refine c_ret ?_
    exact l_end1 Tryd.results119 t61 () (rv_t rfl) (fun _ _ => NewCh.nil _ _ _ _)

set_option maxRecDepth 100000 in
set_option maxHeartbeats 8000000 in
theorem w_impl_SpansValid {w0 : World} {F : Nat → Prop} {v1 : Value} {list_0 : (List GSpan)} {top_1 : Int} {κ : Bool → Prop} (hF : ∀ b, F b → b < w0.heap.size ∧ ¬ feet [] b) (hv1 : Sl elGSpan F w0 v1 list_0) (h : L_impl_SpansValid list_0 top_1 κ) :
    Calls Tryd.prog 98 #[v1, (.int .i64 top_1)] w0 (Ret [] F w0 κ (fun (r : Bool) (u : Unit) => (.bool r)) (fun (r : Bool) (u : Unit) => [])) := by
  refine enterS (args := [v1, (.int .i64 top_1)]) [] hF (Given.nil _ _) Tryd.func98 rfl Tryd.ntmps98 rfl h ?_
  clear h hF
  refine c_seq ?_
  refine c_region ?_
  refine o_as st rfl rfl ?_
  refine c_nil ?_
  refine l_then ?_
  refine c_seq ?_
  refine c_join (σ := Bool) (fun (t64 : Bool) (a : Act) (w : World) => Has 43 [(0, v1), (1, (.int .i64 top_1)), (15, (.bool t64))] a ∧ Mem (gB F [] w0) (feet []) w0 [snapCh w0 F] w) ?_ ?_
  · intro k65
    refine c_region ?_
    refine o_mv st rfl rfl ?_
    refine stw (o_callP (vs := [(.int .i64 top_1)]) Tryd.call119 rfl rfl (by intro w m h; exact (w_impl_topValid (F := allB [] w) (top_0 := top_1) allB_ok h).mono (fun _ _ k => ret_free (fun r u => fr_nil) k)) ?_); rintro r3 _
    refine o_not st rfl rfl ?_
    refine o_mv st rfl rfl ?_
    refine st_sp (dj := 11) rfl ?_ ?_
    · refine st_s rfl rfl rfl rfl ?_
      refine st_s rfl rfl rfl rfl ?_
      refine st_s rfl rfl rfl rfl ?_
      refine o_pickT st rfl rfl rfl ?_
      refine c_nil ?_
      exact l_join true (fun a w hE hm => ⟨hE.sub ⟨rfl, rfl, rfl, trivial⟩, (hm.pick [0] rfl)⟩)
    · refine o_mv (st_g rfl rfl) rfl rfl ?_
      refine o_len (st_g rfl rfl) el72 0 rfl (reads_snap hv1) rfl rfl ?_
      refine o_gtr (st_g rfl rfl) rfl rfl rfl ?_
      refine o_pickF st rfl rfl rfl ?_
      refine c_nil ?_
      exact l_join (decide (40 < (list_0.length : Int))) (fun a w hE hm => ⟨hE.sub ⟨rfl, rfl, rfl, trivial⟩, (hm.pick [0] rfl)⟩)
  · rintro t64 a w ⟨hE, hm⟩ h
    refine nx_of hE hm h ?_
    clear hE hm h
    refine c_cond rfl ?_ ?_
    · refine c_seq ?_
      refine c_region ?_
      refine o_as st rfl rfl ?_
      refine c_nil ?_
      refine l_then ?_
      refine c_ret ?_
      refine l_ret ?_
      exact l_end1 Tryd.results98 false () (rv_t rfl) (fun _ _ => NewCh.nil _ _ _ _)
    · refine c_skip ?_
      refine l_then ?_
      refine c_seq ?_
      refine c_region ?_
      refine o_as st rfl rfl ?_
      refine c_nil ?_
      refine l_then ?_
      refine c_seq ?_
      refine c_seq ?_
      refine c_region ?_
      refine o_mv st rfl rfl ?_
      refine o_len st el72 0 rfl (reads_snap hv1) rfl rfl ?_
      refine o_mv st rfl rfl ?_
      refine c_nil ?_
      refine l_then ?_
      refine c_block ?_
      refine c_loop (σ := (Int × Int)) (fun ((t66, t67) : (Int × Int)) (a : Act) (w : World) => Has 43 [(1, (.int .i64 top_1)), (5, (.int .i64 t66)), (16, v1), (17, (.int .i64 (list_0.length : Int))), (18, (.int .i64 t67))] a ∧ Mem (gB F [] w0) (feet []) w0 [snapCh w0 F] w) (fun a w hE hm => ⟨hE.sub ⟨rfl, rfl, rfl, rfl, rfl, trivial⟩, (hm.pick [0] rfl)⟩) ?_
      rintro nx68 ⟨t66, t67⟩ a w ⟨hE, hm⟩ h
      refine nx_of hE hm h ?_
      clear hE hm h
      refine c_seq ?_
      refine c_region ?_
      refine o_lss st rfl rfl rfl ?_
      refine c_nil ?_
      refine l_then ?_
      refine c_seq ?_
      refine c_cond rfl ?_ ?_
      · refine c_skip ?_
        refine l_then ?_
        refine c_seq ?_
        refine c_block ?_
        refine c_seq ?_
        refine c_region ?_
        refine o_idx st 0 rfl (reads_snap hv1) rfl rfl rfl el72 ?_; intro e69 h70
        refine o_lds st (enc := encGSpan) (u := (.agg #[(.int .i64 e69.xLo), (.int .i64 e69.xHi)])) 0 rfl (reads_snap hv1) flelGSpan rfl h70 rfl rfl ty71 rfl ?_
        refine stw (o_alloc rfl [(.int .i64 0), (.int .i64 0)] zero71 ?_); intro b71
        refine stw (o_stc (cs' := [(.int .i64 e69.xLo), (.int .i64 e69.xHi)]) 0 rfl rfl rfl ty71 rfl rfl rfl rfl ?_)
        refine c_nil ?_
        refine l_then ?_
        refine c_seq ?_
        refine c_join (σ := Bool) (fun (t134 : Bool) (a : Act) (w : World) => Has 43 [(1, (.int .i64 top_1)), (16, v1), (17, (.int .i64 (list_0.length : Int))), (18, (.int .i64 t67)), (7, (.pointer (some ⟨b71, 0, none⟩))), (39, (.bool t134))] a ∧ Mem (gB F [] w0) (feet []) w0 [cellCh b71 [(.int .i64 e69.xLo), (.int .i64 e69.xHi)] 71, snapCh w0 F] w) ?_ ?_
        · intro k135
          refine c_region ?_
          refine o_fad st rfl rfl fld71_0 rfl ?_
          refine o_ldc st (v := (.int .i64 e69.xLo)) 0 rfl rfl rfl ty3 rfl ?_
          refine o_mv st rfl rfl ?_
          refine o_add st rfl rfl rfl ?_; intro t73
          refine o_leq st rfl rfl rfl ?_
          refine o_mv st rfl rfl ?_
          refine st_sp (dj := 27) rfl ?_ ?_
          · refine st_s rfl rfl rfl rfl ?_
            refine st_s rfl rfl rfl rfl ?_
            refine st_s rfl rfl rfl rfl ?_
            refine st_s rfl rfl rfl rfl ?_
            refine st_s rfl rfl rfl rfl ?_
            refine o_pickT st rfl rfl rfl ?_
            refine o_mv st rfl rfl ?_
            refine st_s rfl rfl rfl rfl ?_
            refine st_s rfl rfl rfl rfl ?_
            refine st_s rfl rfl rfl rfl ?_
            refine st_s rfl rfl rfl rfl ?_
            refine o_pickT st rfl rfl rfl ?_
            refine c_nil ?_
            exact l_join true (fun a w hE hm => ⟨hE.sub ⟨rfl, rfl, rfl, rfl, rfl, rfl, trivial⟩, (hm.pick [0, 1] rfl)⟩)
          · refine o_fad (st_g rfl rfl) rfl rfl fld71_0 rfl ?_
            refine o_ldc (st_g rfl rfl) (v := (.int .i64 e69.xLo)) 0 rfl rfl rfl ty3 rfl ?_
            refine o_fad (st_g rfl rfl) rfl rfl fld71_1 rfl ?_
            refine o_ldc (st_g rfl rfl) (v := (.int .i64 e69.xHi)) 0 rfl rfl rfl ty3 rfl ?_
            refine o_gtr (st_g rfl rfl) rfl rfl rfl ?_
            refine o_pickF st rfl rfl rfl ?_
            refine o_mv st rfl rfl ?_
            refine st_sp (dj := 34) rfl ?_ ?_
            · refine st_s rfl rfl rfl rfl ?_
              refine st_s rfl rfl rfl rfl ?_
              refine st_s rfl rfl rfl rfl ?_
              refine st_s rfl rfl rfl rfl ?_
              refine o_pickT st rfl rfl rfl ?_
              refine c_nil ?_
              exact l_join true (fun a w hE hm => ⟨hE.sub ⟨rfl, rfl, rfl, rfl, rfl, rfl, trivial⟩, (hm.pick [0, 1] rfl)⟩)
            · refine o_fad (st_g rfl rfl) rfl rfl fld71_1 rfl ?_
              refine o_ldc (st_g rfl rfl) (v := (.int .i64 e69.xHi)) 0 rfl rfl rfl ty3 rfl ?_
              refine o_mv (st_g rfl rfl) rfl rfl ?_
              refine o_gtr (st_g rfl rfl) rfl rfl rfl ?_
              refine o_pickF st rfl rfl rfl ?_
              refine c_nil ?_
              exact l_join (decide (top_1 < e69.xHi)) (fun a w hE hm => ⟨hE.sub ⟨rfl, rfl, rfl, rfl, rfl, rfl, trivial⟩, (hm.pick [0, 1] rfl)⟩)
        · rintro t134 a w ⟨hE, hm⟩ h
          refine nx_of hE hm h ?_
          clear hE hm h
          refine c_cond rfl ?_ ?_
          · refine c_seq ?_
            refine c_region ?_
            refine o_as st rfl rfl ?_
            refine c_nil ?_
            refine l_then ?_
            refine c_ret ?_
            refine l_ret ?_
            refine b_ret ?_
            refine l_ret ?_
            refine l_ret ?_
            refine b_ret ?_
            refine l_ret ?_
            exact l_end1 Tryd.results98 false () (rv_t rfl) (fun _ _ => NewCh.nil _ _ _ _)
          · refine c_skip ?_
            refine l_then ?_
            refine c_region ?_
            refine o_fad st rfl rfl fld71_1 rfl ?_
            refine o_ldc st (v := (.int .i64 e69.xHi)) 0 rfl rfl rfl ty3 rfl ?_
            refine o_as st rfl rfl ?_
            refine c_nil ?_
            refine b_norm ?_
            refine l_then ?_
            refine c_region ?_
            refine o_add st rfl rfl rfl ?_; intro t136
            refine o_mv st rfl rfl ?_
            refine c_nil ?_
            exact l_join (e69.xHi, t136) (fun a w hE hm => ⟨hE.sub ⟨rfl, rfl, rfl, rfl, rfl, trivial⟩, (hm.pick [1] rfl)⟩)
      · refine c_exit ?_
        refine l_exit ?_
        refine l_exit ?_
        refine b_exit ?_
        refine l_then ?_
        refine c_seq ?_
        refine c_region ?_
        refine o_as st rfl rfl ?_
        refine c_nil ?_
        refine l_then ?_
        refine c_ret ?_
        exact l_end1 Tryd.results98 true () (rv_t rfl) (fun _ _ => NewCh.nil _ _ _ _)

set_option maxRecDepth 100000 in
set_option maxHeartbeats 8000000 in
theorem w_impl_BoxValid {w0 : World} {F : Nat → Prop} {v1 : Value} {b_0 : GBox} {κ : Bool → Prop} (hF : ∀ b, F b → b < w0.heap.size ∧ ¬ feet [] b) (hv1 : Sl (elSl elGSpan) F w0 v1 b_0.xSides) (hgl0 : Sl elGFieldShape F w0 (.slice (some ⟨0, 0, none⟩) 4 4) gl_impl_fieldShapes) (h : L_impl_BoxValid b_0 κ) :
    Calls Tryd.prog 68 #[(.agg #[v1])] w0 (Ret [] F w0 κ (fun (r : Bool) (u : Unit) => (.bool r)) (fun (r : Bool) (u : Unit) => [])) := by
  refine enterS (args := [(.agg #[v1])]) [] hF (Given.nil _ _) Tryd.func68 rfl Tryd.ntmps68 rfl h ?_
  clear h hF
  refine c_seq ?_
  refine c_region ?_
  obtain ⟨a3, l4, q5, hs_⟩ := sl_val hv1; subst hs_
  refine stw (o_box rfl rfl [(.slice a3 l4 q5)] rfl ?_); intro b6
  refine o_as st rfl rfl ?_
  refine c_nil ?_
  refine l_then ?_
  refine c_seq ?_
  refine c_seq ?_
  refine c_region ?_
  refine o_fad st rfl rfl fld85_0 rfl ?_
  refine o_ldc st (v := (.slice a3 l4 q5)) 0 rfl rfl rfl ty83 rfl ?_
  refine o_len st el83 1 rfl (reads_snap hv1) rfl rfl ?_
  refine o_neq st und3 rfl rfl rfl ?_
  refine c_nil ?_
  refine l_then ?_
  refine c_cond rfl ?_ ?_
  · refine c_seq ?_
    refine c_region ?_
    refine o_as st rfl rfl ?_
    refine c_nil ?_
    refine l_then ?_
    refine c_ret ?_
    refine l_ret ?_
    exact l_end1 Tryd.results68 false () (rv_t rfl) (fun _ _ => NewCh.nil _ _ _ _)
  · refine c_skip ?_
    refine l_then ?_
    refine c_seq ?_
    refine c_seq ?_
    refine c_region ?_
    refine o_fad st rfl rfl fld85_0 rfl ?_
    refine o_ldc st (v := (.slice a3 l4 q5)) 0 rfl rfl rfl ty83 rfl ?_
    refine o_len st el83 1 rfl (reads_snap hv1) rfl rfl ?_
    refine o_mv st rfl rfl ?_
    refine c_nil ?_
    refine l_then ?_
    refine c_block ?_
    refine c_loop (σ := Int) (fun (t8 : Int) (a : Act) (w : World) => Has 23 [(10, (.slice a3 l4 q5)), (11, (.int .i64 (b_0.xSides.length : Int))), (12, (.int .i64 t8))] a ∧ Mem (gB F [] w0) (feet []) w0 [snapCh w0 F] w) (fun a w hE hm => ⟨hE.sub ⟨rfl, rfl, rfl, trivial⟩, (hm.pick [1] rfl)⟩) ?_
    rintro nx9 t8 a w ⟨hE, hm⟩ h
    refine nx_of hE hm h ?_
    clear hE hm h
    refine c_seq ?_
    refine c_region ?_
    refine o_lss st rfl rfl rfl ?_
    refine c_nil ?_
    refine l_then ?_
    refine c_seq ?_
    refine c_cond rfl ?_ ?_
    · refine c_skip ?_
      refine l_then ?_
      refine c_seq ?_
      refine c_block ?_
      refine c_seq ?_
      refine c_region ?_
      refine o_mv st rfl rfl ?_
      refine o_idx st 0 rfl (reads_snap hv1) rfl rfl rfl el83 ?_; intro e10 h11
      obtain ⟨_, ⟨v13, rfl, sl14⟩, rw12⟩ := sl_open hv1 h11
      refine o_ldR st (u := v13) 0 rfl rw12 rfl rfl ty72 rfl ?_
      refine o_as st rfl rfl ?_
      refine o_as st rfl rfl ?_
      refine c_nil ?_
      refine l_then ?_
      refine c_seq ?_
      refine c_region ?_
      refine o_mv st rfl rfl ?_
      refine o_mv st rfl rfl ?_
      refine stw (o_callP (vs := [(.int .i64 t8)]) Tryd.call91 rfl rfl (by intro w m h; exact (w_impl_FieldTop (F := allB [] w) (n_0 := t8) allB_ok (m.rd0 0 rfl (reads_snap hgl0)) h).mono (fun _ _ k => ret_free (fun r u => fr_nil) k)) ?_); rintro r16 _
      refine stw (o_callP (vs := [v13, (.int .i64 r16)]) Tryd.call98 rfl rfl (by intro w m h; exact (w_impl_SpansValid (F := allB [] w) (list_0 := e10) (top_1 := r16) allB_ok (m.rd0 0 rfl (reads_snap sl14)) h).mono (fun _ _ k => ret_free (fun r u => fr_nil) k)) ?_); rintro r17 _
      refine o_not st rfl rfl ?_
      refine c_nil ?_
      refine l_then ?_
      refine c_cond rfl ?_ ?_
      · refine c_seq ?_
        refine c_region ?_
        refine o_as st rfl rfl ?_
        refine c_nil ?_
        refine l_then ?_
        refine c_ret ?_
        refine b_ret ?_
        refine l_ret ?_
        refine l_ret ?_
        refine b_ret ?_
        refine l_ret ?_
        exact l_end1 Tryd.results68 false () (rv_t rfl) (fun _ _ => NewCh.nil _ _ _ _)
      · refine c_skip ?_
        refine b_norm ?_
        refine l_then ?_
        refine c_region ?_
        refine o_add st rfl rfl rfl ?_; intro t18
        refine o_mv st rfl rfl ?_
        refine c_nil ?_
        exact l_join t18 (fun a w hE hm => ⟨hE.sub ⟨rfl, rfl, rfl, trivial⟩, (hm.pick [0] rfl)⟩)
    · refine c_exit ?_
      refine l_exit ?_
      refine l_exit ?_
      refine b_exit ?_
      refine l_then ?_
      refine c_seq ?_
      refine c_region ?_
      refine o_as st rfl rfl ?_
      refine c_nil ?_
      refine l_then ?_
      refine c_ret ?_
      exact l_end1 Tryd.results68 true () (rv_t rfl) (fun _ _ => NewCh.nil _ _ _ _)



end
section
open Go.RowKit
set_option maxRecDepth 100000 in
set_option maxHeartbeats 8000000 in
theorem w_impl_FlatsValid {w0 : World} {F : Nat → Prop} {v1 : Value} {list_0 : (List GFlat)} {κ : Bool → Prop} (hF : ∀ b, F b → b < w0.heap.size ∧ ¬ feet [] b) (hv1 : Sl elGFlat F w0 v1 list_0) (hgl0 : Sl elGFieldShape F w0 (.slice (some ⟨0, 0, none⟩) 4 4) gl_impl_fieldShapes) (h : L_impl_FlatsValid list_0 κ) :
    Calls Tryd.prog 32 #[v1] w0 (Ret [] F w0 κ (fun (r : Bool) (u : Unit) => (.bool r)) (fun (r : Bool) (u : Unit) => [])) := by
  refine enterS (args := [v1]) [] hF (Given.nil _ _) Tryd.func32 rfl Tryd.ntmps32 rfl h ?_
  clear h hF
  refine c_seq ?_
  refine c_region ?_
  refine o_as st rfl rfl ?_
  refine c_nil ?_
  refine l_then ?_
  refine c_seq ?_
  refine c_seq ?_
  refine c_region ?_
  refine o_mv st rfl rfl ?_
  refine o_len st el23 0 rfl (reads_snap hv1) rfl rfl ?_
  refine o_gtr st rfl rfl rfl ?_
  refine c_nil ?_
  refine l_then ?_
  refine c_cond rfl ?_ ?_
  · refine c_seq ?_
    refine c_region ?_
    refine o_as st rfl rfl ?_
    refine c_nil ?_
    refine l_then ?_
    refine c_ret ?_
    refine l_ret ?_
    exact l_end1 Tryd.results32 false () (rv_t rfl) (fun _ _ => NewCh.nil _ _ _ _)
  · refine c_skip ?_
    refine l_then ?_
    refine c_seq ?_
    refine c_seq ?_
    refine c_region ?_
    refine o_mv st rfl rfl ?_
    refine o_len st el23 0 rfl (reads_snap hv1) rfl rfl ?_
    refine o_mv st rfl rfl ?_
    refine c_nil ?_
    refine l_then ?_
    refine c_block ?_
    refine c_loop (σ := Int) (fun (t3 : Int) (a : Act) (w : World) => Has 19 [(8, v1), (9, (.int .i64 (list_0.length : Int))), (10, (.int .i64 t3))] a ∧ Mem (gB F [] w0) (feet []) w0 [snapCh w0 F] w) (fun a w hE hm => ⟨hE.sub ⟨rfl, rfl, rfl, trivial⟩, (hm.pick [0] rfl)⟩) ?_
    rintro nx4 t3 a w ⟨hE, hm⟩ h
    refine nx_of hE hm h ?_
    clear hE hm h
    refine c_seq ?_
    refine c_region ?_
    refine o_lss st rfl rfl rfl ?_
    refine c_nil ?_
    refine l_then ?_
    refine c_seq ?_
    refine c_cond rfl ?_ ?_
    · refine c_skip ?_
      refine l_then ?_
      refine c_seq ?_
      refine c_block ?_
      refine c_seq ?_
      refine c_region ?_
      refine o_idx st 0 rfl (reads_snap hv1) rfl rfl rfl el23 ?_; intro e5 h6
      obtain ⟨_, ⟨v8, rfl, sl9⟩, rw7⟩ := sl_open hv1 h6
      refine o_ldR st (u := (.agg #[v8, (.bool e5.xAccept)])) 0 rfl rw7 rfl rfl ty87 rfl ?_
      refine stw (o_alloc rfl [(.slice none 0 0), (.bool false)] zero87 ?_); intro b11
      obtain ⟨a13, l14, q15, hs_⟩ := sl_val sl9; subst hs_
      refine stw (o_stc (cs' := [(.slice a13 l14 q15), (.bool e5.xAccept)]) 0 rfl rfl rfl ty87 rfl rfl rfl rfl ?_)
      refine c_nil ?_
      refine l_then ?_
      refine c_seq ?_
      refine c_region ?_
      refine o_fad st rfl rfl fld87_0 rfl ?_
      refine o_ldc st (v := (.agg #[(.slice a13 l14 q15)])) 0 rfl rfl rfl ty85 rfl ?_
      refine stw (o_callP (vs := [(.agg #[(.slice a13 l14 q15)])]) Tryd.call68 rfl rfl (by intro w m h; exact (w_impl_BoxValid (F := allB [] w) (b_0 := e5.xWhere) allB_ok (m.rd0 1 rfl (reads_snap sl9)) (m.rd0 1 rfl (reads_snap hgl0)) h).mono (fun _ _ k => ret_free (fun r u => fr_nil) k)) ?_); rintro r16 _
      refine o_not st rfl rfl ?_
      refine c_nil ?_
      refine l_then ?_
      refine c_cond rfl ?_ ?_
      · refine c_seq ?_
        refine c_region ?_
        refine o_as st rfl rfl ?_
        refine c_nil ?_
        refine l_then ?_
        refine c_ret ?_
        refine b_ret ?_
        refine l_ret ?_
        refine l_ret ?_
        refine b_ret ?_
        refine l_ret ?_
        exact l_end1 Tryd.results32 false () (rv_t rfl) (fun _ _ => NewCh.nil _ _ _ _)
      · refine c_skip ?_
        refine b_norm ?_
        refine l_then ?_
        refine c_region ?_
        refine o_add st rfl rfl rfl ?_; intro t17
        refine o_mv st rfl rfl ?_
        refine c_nil ?_
        exact l_join t17 (fun a w hE hm => ⟨hE.sub ⟨rfl, rfl, rfl, trivial⟩, (hm.pick [1] rfl)⟩)
    · refine c_exit ?_
      refine l_exit ?_
      refine l_exit ?_
      refine b_exit ?_
      refine l_then ?_
      refine c_seq ?_
      refine c_region ?_
      refine o_as st rfl rfl ?_
      refine c_nil ?_
      refine l_then ?_
      refine c_ret ?_
      exact l_end1 Tryd.results32 true () (rv_t rfl) (fun _ _ => NewCh.nil _ _ _ _)

set_option maxRecDepth 100000 in
set_option maxHeartbeats 8000000 in
theorem w_impl_Packet_fields {w0 : World} {F : Nat → Prop} {p_0 : GPacket} {κ : A4Int → Prop} (hF : ∀ b, F b → b < w0.heap.size ∧ ¬ feet [] b) (h : L_impl_Packet_fields p_0 κ) :
    Calls Tryd.prog 90 #[(.agg #[(.int .i64 p_0.xFrom), (.int .i64 p_0.xTo), (.int .i64 p_0.xPort), (.int .i64 p_0.xProto)])] w0 (Ret [] F w0 κ (fun (r : A4Int) (u : Unit) => (.agg #[(.int .i64 r.x0), (.int .i64 r.x1), (.int .i64 r.x2), (.int .i64 r.x3)])) (fun (r : A4Int) (u : Unit) => [])) := by
  refine enter0 (args := [(.agg #[(.int .i64 p_0.xFrom), (.int .i64 p_0.xTo), (.int .i64 p_0.xPort), (.int .i64 p_0.xProto)])]) [] hF (Given.nil _ _) Tryd.func90 rfl Tryd.ntmps90 rfl h ?_
  clear h hF
  refine c_seq ?_
  refine c_region ?_
  refine stw (o_box rfl rfl [(.int .i64 p_0.xFrom), (.int .i64 p_0.xTo), (.int .i64 p_0.xPort), (.int .i64 p_0.xProto)] rfl ?_); intro b1
  refine stw (o_allocA (El' := elInt) (z := (0 : Int)) (len := 4) (zs := [(.int .i64 0)]) (fun F w => (flelInt _ _ _ _).2 rfl) rfl zero141 rfl rfl ?_); intro b3
  refine c_nil ?_
  refine l_then ?_
  refine c_seq ?_
  refine c_region ?_
  refine o_fad st rfl rfl fld49_0 rfl ?_
  refine o_ldc st (v := (.int .i64 p_0.xFrom)) 1 rfl rfl rfl ty3 rfl ?_
  refine o_fad st rfl rfl fld49_1 rfl ?_
  refine o_ldc st (v := (.int .i64 p_0.xTo)) 1 rfl rfl rfl ty3 rfl ?_
  refine o_fad st rfl rfl fld49_2 rfl ?_
  refine o_ldc st (v := (.int .i64 p_0.xPort)) 1 rfl rfl rfl ty3 rfl ?_
  refine o_fad st rfl rfl fld49_3 rfl ?_
  refine o_ldc st (v := (.int .i64 p_0.xProto)) 1 rfl rfl rfl ty3 rfl ?_
  refine o_bldA st (qs := [(0, (.int .i64 p_0.xFrom)), (1, (.int .i64 p_0.xTo)), (2, (.int .i64 p_0.xPort)), (3, (.int .i64 p_0.xProto))]) (cells := [(.int .i64 p_0.xFrom), (.int .i64 p_0.xTo), (.int .i64 p_0.xPort), (.int .i64 p_0.xProto)]) (by intro ρ h; simp only [List.map_toArray, List.map_cons, List.map_nil, h (.tmp 4) _ rfl, h (.tmp 6) _ rfl, h (.tmp 8) _ rfl, h (.tmp 10) _ rfl]) rfl bld141 rfl ?_
  refine stw (o_stA (El' := elInt) (len := 4) 0 rfl ([p_0.xFrom, p_0.xTo, p_0.xPort, p_0.xProto]) ([[(.int .i64 p_0.xFrom)], [(.int .i64 p_0.xTo)], [(.int .i64 p_0.xPort)], [(.int .i64 p_0.xProto)]]) (fun w m => ⟨(flelInt _ _ _ _).2 rfl, (flelInt _ _ _ _).2 rfl, (flelInt _ _ _ _).2 rfl, (flelInt _ _ _ _).2 rfl, trivial⟩) rfl rfl rfl rfl rfl rfl ty141 rfl rfl ?_)
  refine c_nil ?_
  refine l_then ?_
  refine c_ret ?_
  refine nx_unarr 0 rfl rfl rfl (by decide) ?_
  rintro wr6 ff7 _ hrows_; obtain ⟨rfl⟩ := rows_f4 flelInt hrows_
  exact l_end1 Tryd.results90 (A4Int.mk p_0.xFrom p_0.xTo p_0.xPort p_0.xProto) () (rv_c 1 rfl rfl ty141 rfl) (fun _ _ => NewCh.nil _ _ _ _)

set_option maxRecDepth 100000 in
set_option maxHeartbeats 8000000 in
theorem w_impl_PacketValid {w0 : World} {F : Nat → Prop} {p_0 : GPacket} {κ : Bool → Prop} (hF : ∀ b, F b → b < w0.heap.size ∧ ¬ feet [] b) (hgl0 : Sl elGFieldShape F w0 (.slice (some ⟨0, 0, none⟩) 4 4) gl_impl_fieldShapes) (h : L_impl_PacketValid p_0 κ) :
    Calls Tryd.prog 58 #[(.agg #[(.int .i64 p_0.xFrom), (.int .i64 p_0.xTo), (.int .i64 p_0.xPort), (.int .i64 p_0.xProto)])] w0 (Ret [] F w0 κ (fun (r : Bool) (u : Unit) => (.bool r)) (fun (r : Bool) (u : Unit) => [])) := by
  refine enterS (args := [(.agg #[(.int .i64 p_0.xFrom), (.int .i64 p_0.xTo), (.int .i64 p_0.xPort), (.int .i64 p_0.xProto)])]) [] hF (Given.nil _ _) Tryd.func58 rfl Tryd.ntmps58 rfl h ?_
  clear h hF
  refine c_seq ?_
  refine c_region ?_
  refine stw (o_box rfl rfl [(.int .i64 p_0.xFrom), (.int .i64 p_0.xTo), (.int .i64 p_0.xPort), (.int .i64 p_0.xProto)] rfl ?_); intro b1
  refine o_as st rfl rfl ?_
  refine c_nil ?_
  refine l_then ?_
  refine c_seq ?_
  refine c_seq ?_
  refine c_region ?_
  refine o_ldc st (v := (.agg #[(.int .i64 p_0.xFrom), (.int .i64 p_0.xTo), (.int .i64 p_0.xPort), (.int .i64 p_0.xProto)])) 0 rfl rfl rfl ty49 rfl ?_
  refine stw (o_callP (vs := [(.agg #[(.int .i64 p_0.xFrom), (.int .i64 p_0.xTo), (.int .i64 p_0.xPort), (.int .i64 p_0.xProto)])]) Tryd.call90 rfl rfl (by intro w m h; exact (w_impl_Packet_fields (F := allB [] w) (p_0 := p_0) allB_ok h).mono (fun _ _ k => ret_free (fun r u => fr_nil) k)) ?_); rintro r3 _
  refine o_mv st rfl rfl ?_
  refine c_nil ?_
  refine l_then ?_
  refine c_block ?_
  refine c_loop (σ := Int) (fun (t4 : Int) (a : Act) (w : World) => Has 20 [(6, (.agg #[(.int .i64 r3.x0), (.int .i64 r3.x1), (.int .i64 r3.x2), (.int .i64 r3.x3)])), (7, (.int .i64 t4))] a ∧ Mem (gB F [] w0) (feet []) w0 [snapCh w0 F] w) (fun a w hE hm => ⟨hE.sub ⟨rfl, rfl, trivial⟩, (hm.pick [1] rfl)⟩) ?_
  rintro nx5 t4 a w ⟨hE, hm⟩ h
  refine nx_of hE hm h ?_
  clear hE hm h
  refine c_seq ?_
  refine c_region ?_
  refine o_lss st rfl rfl rfl ?_
  refine c_nil ?_
  refine l_then ?_
  refine c_seq ?_
  refine c_cond rfl ?_ ?_
  · refine c_skip ?_
    refine l_then ?_
    refine c_seq ?_
    refine c_block ?_
    refine c_seq ?_
    refine c_region ?_
    refine o_mv st rfl rfl ?_
    refine o_ixv st (enc := encInt) (zs := [r3.x0, r3.x1, r3.x2, r3.x3]) (u := fun (e6 : Int) => (.int .i64 e6)) rfl rfl rfl arr141 rfl rfl (fun _ => rfl) (fun _ => rfl) ?_; intro e6
    refine o_as st rfl rfl ?_
    refine o_as st rfl rfl ?_
    refine c_nil ?_
    refine l_then ?_
    refine c_join (σ := Bool) (fun (t68 : Bool) (a : Act) (w : World) => Has 20 [(6, (.agg #[(.int .i64 r3.x0), (.int .i64 r3.x1), (.int .i64 r3.x2), (.int .i64 r3.x3)])), (7, (.int .i64 t4)), (18, (.bool t68))] a ∧ Mem (gB F [] w0) (feet []) w0 [snapCh w0 F] w) ?_ ?_
    · intro k69
      refine c_region ?_
      refine o_mv st rfl rfl ?_
      refine o_lss st rfl rfl rfl ?_
      refine o_mv st rfl rfl ?_
      refine st_sp (dj := 13) rfl ?_ ?_
      · refine st_s rfl rfl rfl rfl ?_
        refine st_s rfl rfl rfl rfl ?_
        refine st_s rfl rfl rfl rfl ?_
        refine st_s rfl rfl rfl rfl ?_
        refine o_pickT st rfl rfl rfl ?_
        refine c_nil ?_
        exact l_join true (fun a w hE hm => ⟨hE.sub ⟨rfl, rfl, rfl, trivial⟩, (hm.pick [0] rfl)⟩)
      · refine o_mv (st_g rfl rfl) rfl rfl ?_
        refine o_mv (st_g rfl rfl) rfl rfl ?_
        refine st_gw rfl rfl (o_callP (vs := [(.int .i64 t4)]) Tryd.call91 rfl rfl (by intro w m h; exact (w_impl_FieldTop (F := allB [] w) (n_0 := t4) allB_ok (m.rd0 0 rfl (reads_snap hgl0)) h).mono (fun _ _ k => ret_free (fun r u => fr_nil) k)) ?_); rintro r7 _
        refine o_gtr (st_g rfl rfl) rfl rfl rfl ?_
        refine o_pickF st rfl rfl rfl ?_
        refine c_nil ?_
        exact l_join (decide (r7 < e6)) (fun a w hE hm => ⟨hE.sub ⟨rfl, rfl, rfl, trivial⟩, (hm.pick [0] rfl)⟩)
    · rintro t68 a w ⟨hE, hm⟩ h
      refine nx_of hE hm h ?_
      clear hE hm h
      refine c_cond rfl ?_ ?_
      · refine c_seq ?_
        refine c_region ?_
        refine o_as st rfl rfl ?_
        refine c_nil ?_
        refine l_then ?_
        refine c_ret ?_
        refine b_ret ?_
        refine l_ret ?_
        refine l_ret ?_
        refine b_ret ?_
        refine l_ret ?_
        exact l_end1 Tryd.results58 false () (rv_t rfl) (fun _ _ => NewCh.nil _ _ _ _)
      · refine c_skip ?_
        refine b_norm ?_
        refine l_then ?_
        refine c_region ?_
        refine o_add st rfl rfl rfl ?_; intro t70
        refine o_mv st rfl rfl ?_
        refine c_nil ?_
        exact l_join t70 (fun a w hE hm => ⟨hE.sub ⟨rfl, rfl, trivial⟩, (hm.pick [0] rfl)⟩)
  · refine c_exit ?_
    refine l_exit ?_
    refine l_exit ?_
    refine b_exit ?_
    refine l_then ?_
    refine c_seq ?_
    refine c_region ?_
    refine o_as st rfl rfl ?_
    refine c_nil ?_
    refine l_then ?_
    refine c_ret ?_
    exact l_end1 Tryd.results58 true () (rv_t rfl) (fun _ _ => NewCh.nil _ _ _ _)

set_option maxRecDepth 100000 in
set_option maxHeartbeats 8000000 in
theorem w_impl_sidesOf {w0 : World} {F : Nat → Prop} {v1 : Value} {b_0 : GBox} {κ : A4ListGSpan → Prop} (hF : ∀ b, F b → b < w0.heap.size ∧ ¬ feet [] b) (hv1 : Sl (elSl elGSpan) F w0 v1 b_0.xSides) (h : L_impl_sidesOf b_0 κ) :
    Calls Tryd.prog 69 #[(.agg #[v1])] w0 (Ret [] F w0 κ (fun (r : A4ListGSpan) (u : Value × Value × Value × Value) => (.agg #[u.1, u.2.1, u.2.2.1, u.2.2.2])) (fun (r : A4ListGSpan) (u : Value × Value × Value × Value) => [roCh elGSpan u.1 r.x0, roCh elGSpan u.2.1 r.x1, roCh elGSpan u.2.2.1 r.x2, roCh elGSpan u.2.2.2 r.x3])) := by
  refine enterS (args := [(.agg #[v1])]) [] hF (Given.nil _ _) Tryd.func69 rfl Tryd.ntmps69 rfl h ?_
  clear h hF
  refine c_seq ?_
  refine c_region ?_
  obtain ⟨a3, l4, q5, hs_⟩ := sl_val hv1; subst hs_
  refine stw (o_box rfl rfl [(.slice a3 l4 q5)] rfl ?_); intro b6
  refine stw (o_allocA (El' := (elSl elGSpan)) (z := ([] : (List GSpan))) (len := 4) (zs := [(.slice none 0 0)]) (fun F w => ⟨_, rfl, Sl.nil ..⟩) rfl zero114 rfl rfl ?_); intro b8
  refine c_nil ?_
  refine l_then ?_
  refine c_seq ?_
  refine c_region ?_
  refine o_fad st rfl rfl fld85_0 rfl ?_
  refine o_ldc st (v := (.slice a3 l4 q5)) 1 rfl rfl rfl ty83 rfl ?_
  refine o_s2a st 2 rfl (reads_snap hv1) rfl rfl arr114 rfl ?_; intro e10 e11 e12 e13 h14; obtain ⟨_, _, _, _, ⟨v15, rfl, sl19⟩, ⟨v16, rfl, sl20⟩, ⟨v17, rfl, sl21⟩, ⟨v18, rfl, sl22⟩, rw23⟩ := sl_open4 hv1 h14
  refine o_ldR st (u := (.agg #[v15, v16, v17, v18])) 2 rfl rw23 rfl rfl ty114 rfl ?_
  obtain ⟨a28, l29, q30, hs_⟩ := sl_val sl19; subst hs_
  obtain ⟨a31, l32, q33, hs_⟩ := sl_val sl20; subst hs_
  obtain ⟨a34, l35, q36, hs_⟩ := sl_val sl21; subst hs_
  obtain ⟨a37, l38, q39, hs_⟩ := sl_val sl22; subst hs_
  refine stw (o_stA (El' := (elSl elGSpan)) (len := 4) 0 rfl ([e10, e11, e12, e13]) ([[(.slice a28 l29 q30)], [(.slice a31 l32 q33)], [(.slice a34 l35 q36)], [(.slice a37 l38 q39)]]) (fun w m => ⟨⟨(.slice a28 l29 q30), rfl, (m.roS 2 rfl sl19)⟩, ⟨(.slice a31 l32 q33), rfl, (m.roS 2 rfl sl20)⟩, ⟨(.slice a34 l35 q36), rfl, (m.roS 2 rfl sl21)⟩, ⟨(.slice a37 l38 q39), rfl, (m.roS 2 rfl sl22)⟩, trivial⟩) rfl rfl rfl rfl rfl rfl ty114 rfl rfl ?_)
  refine c_nil ?_
  refine l_then ?_
  refine c_ret ?_
  refine nx_unarr 0 rfl rfl rfl (by decide) ?_
  rintro wr41 ff42 _ hrows_; obtain ⟨_, _, _, _, rfl, hc0_, hc1_, hc2_, hc3_⟩ := rows_l4 hrows_; obtain ⟨v44, rfl, sl45⟩ := hc0_; obtain ⟨v47, rfl, sl48⟩ := hc1_; obtain ⟨v50, rfl, sl51⟩ := hc2_; obtain ⟨v53, rfl, sl54⟩ := hc3_
  refine nx_note 0 rfl sl45 ?_
  refine nx_note 1 rfl sl48 ?_
  refine nx_note 2 rfl sl51 ?_
  refine nx_note 3 rfl sl54 ?_
  exact l_end1 Tryd.results69 (A4ListGSpan.mk e10 e11 e12 e13) (v44, v47, v50, v53) (rv_c 5 rfl rfl ty114 rfl) (fun w m => NewCh.ofB m [3, 2, 1, 0] rfl)

set_option maxRecDepth 100000 in
set_option maxHeartbeats 8000000 in
theorem w_impl_flatsOf {w0 : World} {F : Nat → Prop} {v1 : Value} {list_0 : (List GFlat)} {κ : (List GIflat) → Prop} (hF : ∀ b, F b → b < w0.heap.size ∧ ¬ feet [] b) (hv1 : Sl elGFlat F w0 v1 list_0) (h : L_impl_flatsOf list_0 κ) :
    Calls Tryd.prog 34 #[v1] w0 (Ret [] F w0 κ (fun (r : (List GIflat)) (u : Value) => u) (fun (r : (List GIflat)) (u : Value) => [ownCh elGIflat 117 u r])) := by
  refine enterS (args := [v1]) [] hF (Given.nil _ _) Tryd.func34 rfl Tryd.ntmps34 rfl h ?_
  clear h hF
  refine c_seq ?_
  refine c_region ?_
  refine stw (o_asn elGIflat 117 rfl rfl ?_)
  refine c_nil ?_
  refine l_then ?_
  refine c_seq ?_
  refine c_region ?_
  refine o_mv st rfl rfl ?_
  refine o_len st el23 1 rfl (reads_snap hv1) rfl rfl ?_
  refine stw (o_makeN (El' := elGIflat) (z := (GIflat.mk (A4ListGSpan.mk ([]) ([]) ([]) ([])) false)) (fun F w => ⟨⟨_, _, _, _⟩, rfl, ⟨Sl.nil .., Sl.nil .., Sl.nil .., Sl.nil ..⟩⟩) rfl rfl rfl el64 rfl zero117 rfl ?_); intro v4 xs5
  refine o_as st rfl rfl ?_
  refine c_nil ?_
  refine l_then ?_
  refine c_seq ?_
  refine c_seq ?_
  refine c_region ?_
  refine o_mv st rfl rfl ?_
  refine o_len st el23 2 rfl (reads_snap hv1) rfl rfl ?_
  refine o_mv st rfl rfl ?_
  refine c_nil ?_
  refine l_then ?_
  refine c_block ?_
  refine c_loop (σ := ((List GIflat) × Int)) (fun ((xs8, t11) : ((List GIflat) × Int)) (a : Act) (w : World) => ∃ (v7 : Value), Has 26 [(3, v7), (9, v1), (10, (.int .i64 (list_0.length : Int))), (11, (.int .i64 t11))] a ∧ Mem (gB F [] w0) (feet []) w0 [snapCh w0 F, ownCh elGIflat 117 v7 xs8] w) (fun a w hE hm => ⟨v4, hE.sub ⟨rfl, rfl, rfl, rfl, trivial⟩, (hm.pick [2, 0] rfl)⟩) ?_
  rintro nx12 ⟨xs8, t11⟩ a w ⟨v7, hE, hm⟩ h
  refine nx_of hE hm h ?_
  clear hE hm h
  refine c_seq ?_
  refine c_region ?_
  refine o_lss st rfl rfl rfl ?_
  refine c_nil ?_
  refine l_then ?_
  refine c_seq ?_
  refine c_cond rfl ?_ ?_
  · refine c_skip ?_
    refine l_then ?_
    refine c_seq ?_
    refine c_block ?_
    refine c_seq ?_
    refine c_region ?_
    refine o_idx st 0 rfl (reads_snap hv1) rfl rfl rfl el23 ?_; intro e13 h14
    obtain ⟨_, ⟨v16, rfl, sl17⟩, rw15⟩ := sl_open hv1 h14
    refine o_ldR st (u := (.agg #[v16, (.bool e13.xAccept)])) 0 rfl rw15 rfl rfl ty87 rfl ?_
    refine stw (o_alloc rfl [(.slice none 0 0), (.bool false)] zero87 ?_); intro b19
    obtain ⟨a21, l22, q23, hs_⟩ := sl_val sl17; subst hs_
    refine stw (o_stc (cs' := [(.slice a21 l22 q23), (.bool e13.xAccept)]) 0 rfl rfl rfl ty87 rfl rfl rfl rfl ?_)
    refine c_nil ?_
    refine l_then ?_
    refine c_draw mixed 10 rfl [cellCh b19 [(.slice a21 l22 q23), (.bool e13.xAccept)] 87, snapCh w0 F] ?_
    refine o_mv (dt 0 (fun w m => m.pick [0, 1] rfl)) rfl rfl ?_
    refine o_fad (dt 1 (fun w m => m.pick [0, 1] rfl)) rfl rfl fld87_0 rfl ?_
    refine o_ldc (dt 2 (fun w m => m.pick [0, 1] rfl)) (v := (.agg #[(.slice a21 l22 q23)])) 0 rfl rfl rfl ty85 rfl ?_
    refine o_fad (dt 4 (fun w m => m.pick [0, 1] rfl)) rfl rfl fld87_1 rfl ?_
    refine o_ldc (dt 5 (fun w m => m.pick [0, 1] rfl)) (v := (.bool e13.xAccept)) 0 rfl rfl rfl ty4 rfl ?_
    refine d_one (i := 3) rfl (by kernel_rfl) (o_callP (vs := [(.agg #[(.slice a21 l22 q23)])]) Tryd.call69 rfl rfl (by intro w m h; exact w_impl_sidesOf (b_0 := e13.xWhere) fz_ok0 (m.roS 1 rfl sl17) h) ?_); rintro r24 ⟨v25, v27, v29, v31⟩
    refine d_and (fun w m => m.pick [4, 5] rfl) ?_
    refine nx_ro 0 rfl ?_; rintro a33 l34 q35 rfl
    refine nx_ro 1 rfl ?_; rintro a36 l37 q38 rfl
    refine nx_ro 2 rfl ?_; rintro a39 l40 q41 rfl
    refine nx_ro 3 rfl ?_; rintro a42 l43 q44 rfl
    refine o_bld (dt 6 (fun w m => m.pick [4, 5] rfl)) (qs := [(0, (.agg #[(.slice a33 l34 q35), (.slice a36 l37 q38), (.slice a39 l40 q41), (.slice a42 l43 q44)])), (1, (.bool e13.xAccept))]) (cells := [(.slice a33 l34 q35), (.slice a36 l37 q38), (.slice a39 l40 q41), (.slice a42 l43 q44), (.bool e13.xAccept)]) (by intro ρ h; simp only [List.map_toArray, List.map_cons, List.map_nil, h (.tmp 18) _ rfl, h (.tmp 20) _ rfl]) rfl bld117 rfl ?_
    refine d_one (i := 7) rfl (by kernel_rfl) (o_bslN (El' := elGIflat) (qs := [(0, (.agg #[(.slice a33 l34 q35), (.slice a36 l37 q38), (.slice a39 l40 q41), (.slice a42 l43 q44), (.bool e13.xAccept)]))]) (cells := [(.slice a33 l34 q35), (.slice a36 l37 q38), (.slice a39 l40 q41), (.slice a42 l43 q44), (.bool e13.xAccept)]) ([(GIflat.mk r24 e13.xAccept)]) ([[(.slice a33 l34 q35), (.slice a36 l37 q38), (.slice a39 l40 q41), (.slice a42 l43 q44), (.bool e13.xAccept)]]) (fun w m => ⟨⟨⟨(.slice a33 l34 q35), (.slice a36 l37 q38), (.slice a39 l40 q41), (.slice a42 l43 q44)⟩, rfl, ⟨(m.ro 0 rfl), (m.ro 1 rfl), (m.ro 2 rfl), (m.ro 3 rfl)⟩⟩, trivial⟩) (by intro ρ h; simp only [List.map_toArray, List.map_cons, List.map_nil, h (.tmp 21) _ rfl]) rfl el64 zero117 rfl rfl rfl rfl rfl rfl ?_); intro v45
    refine d_and (fun w m => m.pick [5, 6] rfl) ?_
    refine d_one (i := 8) rfl (by kernel_rfl) (o_app 7 0 rfl rfl src_own rfl rfl rfl el64 rfl zero117 rfl rfl ?_); intro v47
    refine d_and (fun w m => m.pick [5, 6] rfl) ?_
    refine o_as (dt 9 (fun w m => m.pick [5, 6] rfl)) rfl rfl ?_
    refine d_done (by kernel_rfl) ?_
    refine b_norm ?_
    refine l_then ?_
    refine c_region ?_
    refine o_add st rfl rfl rfl ?_; intro t49
    refine o_mv st rfl rfl ?_
    refine c_nil ?_
    exact l_join ((xs8 ++ ([(GIflat.mk r24 e13.xAccept)])), t49) (fun a w hE hm => ⟨v47, hE.sub ⟨rfl, rfl, rfl, rfl, trivial⟩, (hm.pick [6, 7] rfl)⟩)
  · refine c_exit ?_
    refine l_exit ?_
    refine l_exit ?_
    refine b_exit ?_
    refine l_then ?_
    refine c_seq ?_
    refine c_region ?_
    refine o_mv st rfl rfl ?_
    refine o_as st rfl rfl ?_
    refine c_nil ?_
    refine l_then ?_
    refine c_ret ?_
    exact l_end1 Tryd.results34 xs8 v7 (rv_t rfl) (fun w m => NewCh.ofB m [1] rfl)

set_option maxRecDepth 100000 in
set_option maxHeartbeats 8000000 in
theorem w_impl_SpansHave {w0 : World} {F : Nat → Prop} {v1 : Value} {list_0 : (List GSpan)} {n_1 : Int} {κ : Bool → Prop} (hF : ∀ b, F b → b < w0.heap.size ∧ ¬ feet [] b) (hv1 : Sl elGSpan F w0 v1 list_0) (h : L_impl_SpansHave list_0 n_1 κ) :
    Calls Tryd.prog 39 #[v1, (.int .i64 n_1)] w0 (Ret [] F w0 κ (fun (r : Bool) (u : Unit) => (.bool r)) (fun (r : Bool) (u : Unit) => [])) := by
  refine enterS (args := [v1, (.int .i64 n_1)]) [] hF (Given.nil _ _) Tryd.func39 rfl Tryd.ntmps39 rfl h ?_
  clear h hF
  refine c_seq ?_
  refine c_region ?_
  refine o_as st rfl rfl ?_
  refine c_nil ?_
  refine l_then ?_
  refine c_seq ?_
  refine c_seq ?_
  refine c_region ?_
  refine o_mv st rfl rfl ?_
  refine o_len st el72 0 rfl (reads_snap hv1) rfl rfl ?_
  refine o_mv st rfl rfl ?_
  refine c_nil ?_
  refine l_then ?_
  refine c_block ?_
  refine c_loop (σ := Int) (fun (t3 : Int) (a : Act) (w : World) => Has 24 [(1, (.int .i64 n_1)), (7, v1), (8, (.int .i64 (list_0.length : Int))), (9, (.int .i64 t3))] a ∧ Mem (gB F [] w0) (feet []) w0 [snapCh w0 F] w) (fun a w hE hm => ⟨hE.sub ⟨rfl, rfl, rfl, rfl, trivial⟩, (hm.pick [0] rfl)⟩) ?_
  rintro nx4 t3 a w ⟨hE, hm⟩ h
  refine nx_of hE hm h ?_
  clear hE hm h
  refine c_seq ?_
  refine c_region ?_
  refine o_lss st rfl rfl rfl ?_
  refine c_nil ?_
  refine l_then ?_
  refine c_seq ?_
  refine c_cond rfl ?_ ?_
  · refine c_skip ?_
    refine l_then ?_
    refine c_seq ?_
    refine c_block ?_
    refine c_seq ?_
    refine c_region ?_
    refine o_idx st 0 rfl (reads_snap hv1) rfl rfl rfl el72 ?_; intro e5 h6
    refine o_lds st (enc := encGSpan) (u := (.agg #[(.int .i64 e5.xLo), (.int .i64 e5.xHi)])) 0 rfl (reads_snap hv1) flelGSpan rfl h6 rfl rfl ty71 rfl ?_
    refine stw (o_alloc rfl [(.int .i64 0), (.int .i64 0)] zero71 ?_); intro b7
    refine stw (o_stc (cs' := [(.int .i64 e5.xLo), (.int .i64 e5.xHi)]) 0 rfl rfl rfl ty71 rfl rfl rfl rfl ?_)
    refine c_nil ?_
    refine l_then ?_
    refine c_join (σ := Bool) (fun (t69 : Bool) (a : Act) (w : World) => Has 24 [(1, (.int .i64 n_1)), (7, v1), (8, (.int .i64 (list_0.length : Int))), (9, (.int .i64 t3)), (22, (.bool t69))] a ∧ Mem (gB F [] w0) (feet []) w0 [snapCh w0 F] w) ?_ ?_
    · intro k70
      refine c_region ?_
      refine o_fad st rfl rfl fld71_0 rfl ?_
      refine o_ldc st (v := (.int .i64 e5.xLo)) 0 rfl rfl rfl ty3 rfl ?_
      refine o_mv st rfl rfl ?_
      refine o_leq st rfl rfl rfl ?_
      refine o_mv st rfl rfl ?_
      refine st_sp (dj := 17) rfl ?_ ?_
      · refine o_mv (st_g rfl rfl) rfl rfl ?_
        refine o_fad (st_g rfl rfl) rfl rfl fld71_1 rfl ?_
        refine o_ldc (st_g rfl rfl) (v := (.int .i64 e5.xHi)) 0 rfl rfl rfl ty3 rfl ?_
        refine o_leq (st_g rfl rfl) rfl rfl rfl ?_
        refine o_pickT st rfl rfl rfl ?_
        refine c_nil ?_
        exact l_join (decide (n_1 ≤ e5.xHi)) (fun a w hE hm => ⟨hE.sub ⟨rfl, rfl, rfl, rfl, rfl, trivial⟩, (hm.pick [1] rfl)⟩)
      · refine st_s rfl rfl rfl rfl ?_
        refine st_s rfl rfl rfl rfl ?_
        refine st_s rfl rfl rfl rfl ?_
        refine st_s rfl rfl rfl rfl ?_
        refine o_pickF st rfl rfl rfl ?_
        refine c_nil ?_
        exact l_join false (fun a w hE hm => ⟨hE.sub ⟨rfl, rfl, rfl, rfl, rfl, trivial⟩, (hm.pick [1] rfl)⟩)
    · rintro t69 a w ⟨hE, hm⟩ h
      refine nx_of hE hm h ?_
      clear hE hm h
      refine c_cond rfl ?_ ?_
      · refine c_seq ?_
        refine c_region ?_
        refine o_as st rfl rfl ?_
        refine c_nil ?_
        refine l_then ?_
        refine c_ret ?_
        refine b_ret ?_
        refine l_ret ?_
        refine l_ret ?_
        refine b_ret ?_
        refine l_ret ?_
        exact l_end1 Tryd.results39 true () (rv_t rfl) (fun _ _ => NewCh.nil _ _ _ _)
      · refine c_skip ?_
        refine b_norm ?_
        refine l_then ?_
        refine c_region ?_
        refine o_add st rfl rfl rfl ?_; intro t71
        refine o_mv st rfl rfl ?_
        refine c_nil ?_
        exact l_join t71 (fun a w hE hm => ⟨hE.sub ⟨rfl, rfl, rfl, rfl, trivial⟩, (hm.pick [0] rfl)⟩)
  · refine c_exit ?_
    refine l_exit ?_
    refine l_exit ?_
    refine b_exit ?_
    refine l_then ?_
    refine c_seq ?_
    refine c_region ?_
    refine o_as st rfl rfl ?_
    refine c_nil ?_
    refine l_then ?_
    refine c_ret ?_
    exact l_end1 Tryd.results39 false () (rv_t rfl) (fun _ _ => NewCh.nil _ _ _ _)

set_option maxRecDepth 100000 in
set_option maxHeartbeats 8000000 in
theorem w_impl_sides_has {w0 : World} {F : Nat → Prop} {v1 : Value} {v3 : Value} {v5 : Value} {v7 : Value} {s_0 : A4ListGSpan} {p_1 : GPacket} {κ : Bool → Prop} (hF : ∀ b, F b → b < w0.heap.size ∧ ¬ feet [] b) (hv1 : Sl elGSpan F w0 v1 s_0.x0) (hv3 : Sl elGSpan F w0 v3 s_0.x1) (hv5 : Sl elGSpan F w0 v5 s_0.x2) (hv7 : Sl elGSpan F w0 v7 s_0.x3) (h : L_impl_sides_has s_0 p_1 κ) :
    Calls Tryd.prog 72 #[(.agg #[v1, v3, v5, v7]), (.agg #[(.int .i64 p_1.xFrom), (.int .i64 p_1.xTo), (.int .i64 p_1.xPort), (.int .i64 p_1.xProto)])] w0 (Ret [] F w0 κ (fun (r : Bool) (u : Unit) => (.bool r)) (fun (r : Bool) (u : Unit) => [])) := by
  refine enterS (args := [(.agg #[v1, v3, v5, v7]), (.agg #[(.int .i64 p_1.xFrom), (.int .i64 p_1.xTo), (.int .i64 p_1.xPort), (.int .i64 p_1.xProto)])]) [] hF (Given.nil _ _) Tryd.func72 rfl Tryd.ntmps72 rfl h ?_
  clear h hF
  refine c_seq ?_
  refine c_region ?_
  obtain ⟨a9, l10, q11, hs_⟩ := sl_val hv1; subst hs_
  obtain ⟨a12, l13, q14, hs_⟩ := sl_val hv3; subst hs_
  obtain ⟨a15, l16, q17, hs_⟩ := sl_val hv5; subst hs_
  obtain ⟨a18, l19, q20, hs_⟩ := sl_val hv7; subst hs_
  refine stw (o_boxA (El' := (elSl elGSpan)) (len := 4) ([s_0.x0, s_0.x1, s_0.x2, s_0.x3]) ([[(.slice a9 l10 q11)], [(.slice a12 l13 q14)], [(.slice a15 l16 q17)], [(.slice a18 l19 q20)]]) (fun w m => ⟨⟨(.slice a9 l10 q11), rfl, (m.roS 0 rfl hv1)⟩, ⟨(.slice a12 l13 q14), rfl, (m.roS 0 rfl hv3)⟩, ⟨(.slice a15 l16 q17), rfl, (m.roS 0 rfl hv5)⟩, ⟨(.slice a18 l19 q20), rfl, (m.roS 0 rfl hv7)⟩, trivial⟩) rfl rfl rfl rfl rfl rfl ?_); intro b21
  refine stw (o_box rfl rfl [(.int .i64 p_1.xFrom), (.int .i64 p_1.xTo), (.int .i64 p_1.xPort), (.int .i64 p_1.xProto)] rfl ?_); intro b23
  refine o_as st rfl rfl ?_
  refine c_nil ?_
  refine l_then ?_
  refine c_seq ?_
  refine c_seq ?_
  refine c_region ?_
  refine o_ldc st (v := (.agg #[(.int .i64 p_1.xFrom), (.int .i64 p_1.xTo), (.int .i64 p_1.xPort), (.int .i64 p_1.xProto)])) 0 rfl rfl rfl ty49 rfl ?_
  refine stw (o_callP (vs := [(.agg #[(.int .i64 p_1.xFrom), (.int .i64 p_1.xTo), (.int .i64 p_1.xPort), (.int .i64 p_1.xProto)])]) Tryd.call90 rfl rfl (by intro w m h; exact (w_impl_Packet_fields (F := allB [] w) (p_0 := p_1) allB_ok h).mono (fun _ _ k => ret_free (fun r u => fr_nil) k)) ?_); rintro r25 _
  refine o_mv st rfl rfl ?_
  refine c_nil ?_
  refine l_then ?_
  refine c_block ?_
  refine c_loop (σ := Int) (fun (t26 : Int) (a : Act) (w : World) => Has 20 [(2, (.pointer (some ⟨b21, 0, none⟩))), (8, (.agg #[(.int .i64 r25.x0), (.int .i64 r25.x1), (.int .i64 r25.x2), (.int .i64 r25.x3)])), (9, (.int .i64 t26))] a ∧ Mem (gB F [] w0) (feet []) w0 [ownCh (elSl elGSpan) 114 (.slice (some ⟨b21, 0, none⟩) 4 4) ([s_0.x0, s_0.x1, s_0.x2, s_0.x3])] w) (fun a w hE hm => ⟨hE.sub ⟨rfl, rfl, rfl, trivial⟩, (hm.pick [1] rfl)⟩) ?_
  rintro nx27 t26 a w ⟨hE, hm⟩ h
  refine nx_of hE hm h ?_
  clear hE hm h
  refine c_seq ?_
  refine c_region ?_
  refine o_lss st rfl rfl rfl ?_
  refine c_nil ?_
  refine l_then ?_
  refine c_seq ?_
  refine c_cond rfl ?_ ?_
  · refine c_skip ?_
    refine l_then ?_
    refine c_seq ?_
    refine c_block ?_
    refine c_seq ?_
    refine c_region ?_
    refine o_mv st rfl rfl ?_
    refine o_ixv st (enc := encInt) (zs := [r25.x0, r25.x1, r25.x2, r25.x3]) (u := fun (e28 : Int) => (.int .i64 e28)) rfl rfl rfl arr141 rfl rfl (fun _ => rfl) (fun _ => rfl) ?_; intro e28
    refine o_as st rfl rfl ?_
    refine o_as st rfl rfl ?_
    refine c_nil ?_
    refine l_then ?_
    refine c_seq ?_
    refine c_region ?_
    refine o_mv st rfl rfl ?_
    refine o_ixa st 0 rfl reads_own rfl rfl rfl arr114 ?_; intro e29 h30
    refine stw (o_ldE 0 rfl src_own h30 rfl rfl ty72 ?_); rintro wr31 ff32 _ ⟨v34, rfl, sl35⟩; refine ⟨v34, rfl, ?_⟩
    refine o_mv st rfl rfl ?_
    refine stw (o_callP (vs := [v34, (.int .i64 e28)]) Tryd.call39 rfl rfl (by intro w m h; exact (w_impl_SpansHave (F := allB [] w) (list_0 := e29) (n_1 := e28) allB_ok (m.rd0 0 rfl (reads_snap sl35)) h).mono (fun _ _ k => ret_free (fun r u => fr_nil) k)) ?_); rintro r37 _
    refine o_not st rfl rfl ?_
    refine c_nil ?_
    refine l_then ?_
    refine c_cond rfl ?_ ?_
    · refine c_seq ?_
      refine c_region ?_
      refine o_as st rfl rfl ?_
      refine c_nil ?_
      refine l_then ?_
      refine c_ret ?_
      refine b_ret ?_
      refine l_ret ?_
      refine l_ret ?_
      refine b_ret ?_
      refine l_ret ?_
      exact l_end1 Tryd.results72 false () (rv_t rfl) (fun _ _ => NewCh.nil _ _ _ _)
    · refine c_skip ?_
      refine b_norm ?_
      refine l_then ?_
      refine c_region ?_
      refine o_add st rfl rfl rfl ?_; intro t38
      refine o_mv st rfl rfl ?_
      refine c_nil ?_
      exact l_join t38 (fun a w hE hm => ⟨hE.sub ⟨rfl, rfl, rfl, trivial⟩, (hm.pick [1] rfl)⟩)
  · refine c_exit ?_
    refine l_exit ?_
    refine l_exit ?_
    refine b_exit ?_
    refine l_then ?_
    refine c_seq ?_
    refine c_region ?_
    refine o_as st rfl rfl ?_
    refine c_nil ?_
    refine l_then ?_
    refine c_ret ?_
    exact l_end1 Tryd.results72 true () (rv_t rfl) (fun _ _ => NewCh.nil _ _ _ _)

set_option maxRecDepth 100000 in
set_option maxHeartbeats 8000000 in
theorem w_impl_firstWith_1 {w0 : World} {F : Nat → Prop} {b9 : Nat} {v1 : Value} {v3 : Value} {v5 : Value} {v7 : Value} {f_0 : GIflat} {a_1_From : Int} {a_1_To : Int} {a_1_Port : Int} {a_1_Proto : Int} {κ : Bool → Prop} (hF : ∀ b, F b → b < w0.heap.size ∧ ¬ feet [cellCh b9 [(.int .i64 a_1_From), (.int .i64 a_1_To), (.int .i64 a_1_Port), (.int .i64 a_1_Proto)] 49] b) (hg : Given [cellCh b9 [(.int .i64 a_1_From), (.int .i64 a_1_To), (.int .i64 a_1_Port), (.int .i64 a_1_Proto)] 49] F w0) (hv1 : Sl elGSpan F w0 v1 f_0.xWhere.x0) (hv3 : Sl elGSpan F w0 v3 f_0.xWhere.x1) (hv5 : Sl elGSpan F w0 v5 f_0.xWhere.x2) (hv7 : Sl elGSpan F w0 v7 f_0.xWhere.x3) (h : L_impl_firstWith_1 f_0 a_1_From a_1_To a_1_Port a_1_Proto κ) :
    Calls Tryd.prog 71 #[(.agg #[v1, v3, v5, v7, (.bool f_0.xAccept)]), (.pointer (some ⟨b9, 0, none⟩))] w0 (Ret [cellCh b9 [(.int .i64 a_1_From), (.int .i64 a_1_To), (.int .i64 a_1_Port), (.int .i64 a_1_Proto)] 49] F w0 κ (fun (r : Bool) (u : Unit) => (.bool r)) (fun (r : Bool) (u : Unit) => [cellCh b9 [(.int .i64 a_1_From), (.int .i64 a_1_To), (.int .i64 a_1_Port), (.int .i64 a_1_Proto)] 49])) := by
  refine enterS (args := [(.agg #[v1, v3, v5, v7, (.bool f_0.xAccept)]), (.pointer (some ⟨b9, 0, none⟩))]) [cellCh b9 [(.int .i64 a_1_From), (.int .i64 a_1_To), (.int .i64 a_1_Port), (.int .i64 a_1_Proto)] 49] hF hg Tryd.func71 rfl Tryd.ntmps71 rfl h ?_
  clear h hF hg
  refine c_seq ?_
  refine c_region ?_
  obtain ⟨a11, l12, q13, hs_⟩ := sl_val hv1; subst hs_
  obtain ⟨a14, l15, q16, hs_⟩ := sl_val hv3; subst hs_
  obtain ⟨a17, l18, q19, hs_⟩ := sl_val hv5; subst hs_
  obtain ⟨a20, l21, q22, hs_⟩ := sl_val hv7; subst hs_
  refine stw (o_box rfl rfl [(.slice a11 l12 q13), (.slice a14 l15 q16), (.slice a17 l18 q19), (.slice a20 l21 q22), (.bool f_0.xAccept)] rfl ?_); intro b23
  refine o_as st rfl rfl ?_
  refine c_nil ?_
  refine l_then ?_
  refine c_seq ?_
  refine c_region ?_
  refine o_fad st rfl rfl fld117_0 rfl ?_
  refine o_ldc st (v := (.agg #[(.slice a11 l12 q13), (.slice a14 l15 q16), (.slice a17 l18 q19), (.slice a20 l21 q22)])) 0 rfl rfl rfl ty114 rfl ?_
  refine o_ldc st (v := (.agg #[(.int .i64 a_1_From), (.int .i64 a_1_To), (.int .i64 a_1_Port), (.int .i64 a_1_Proto)])) 1 rfl rfl rfl ty49 rfl ?_
  refine stw (o_callP (vs := [(.agg #[(.slice a11 l12 q13), (.slice a14 l15 q16), (.slice a17 l18 q19), (.slice a20 l21 q22)]), (.agg #[(.int .i64 a_1_From), (.int .i64 a_1_To), (.int .i64 a_1_Port), (.int .i64 a_1_Proto)])]) Tryd.call72 rfl rfl (by intro w m h; exact (w_impl_sides_has (F := allB [] w) (s_0 := f_0.xWhere) (p_1 := (GPacket.mk a_1_From a_1_To a_1_Port a_1_Proto)) allB_ok (m.rd0 2 rfl (reads_snap hv1)) (m.rd0 2 rfl (reads_snap hv3)) (m.rd0 2 rfl (reads_snap hv5)) (m.rd0 2 rfl (reads_snap hv7)) h).mono (fun _ _ k => ret_free (fun r u => fr_nil) k)) ?_); rintro r25 _
  refine o_as st rfl rfl ?_
  refine c_nil ?_
  refine l_then ?_
  refine c_ret ?_
  exact l_end1 Tryd.results71 r25 () (rv_t rfl) (fun w m => NewCh.ofB m [1] rfl)

set_option maxRecDepth 100000 in
set_option maxHeartbeats 8000000 in
theorem w_slices_IndexFunc_impl_flat_impl_flat__impl_firstWith_1 {w0 : World} {F : Nat → Prop} {b3 : Nat} {v1 : Value} {s_0 : (List GIflat)} {c0_1_From : Int} {c0_1_To : Int} {c0_1_Port : Int} {c0_1_Proto : Int} {κ : Int → Prop} (hF : ∀ b, F b → b < w0.heap.size ∧ ¬ feet [cellCh b3 [(.int .i64 c0_1_From), (.int .i64 c0_1_To), (.int .i64 c0_1_Port), (.int .i64 c0_1_Proto)] 49] b) (hg : Given [cellCh b3 [(.int .i64 c0_1_From), (.int .i64 c0_1_To), (.int .i64 c0_1_Port), (.int .i64 c0_1_Proto)] 49] F w0) (hv1 : Sl elGIflat F w0 v1 s_0) (h : L_slices_IndexFunc_impl_flat_impl_flat__impl_firstWith_1 s_0 c0_1_From c0_1_To c0_1_Port c0_1_Proto κ) :
    Calls Tryd.prog 70 #[v1, (.func (.func 71) #[] #[(.pointer (some ⟨b3, 0, none⟩))])] w0 (Ret [cellCh b3 [(.int .i64 c0_1_From), (.int .i64 c0_1_To), (.int .i64 c0_1_Port), (.int .i64 c0_1_Proto)] 49] F w0 κ (fun (r : Int) (u : Unit) => (.int .i64 r)) (fun (r : Int) (u : Unit) => [cellCh b3 [(.int .i64 c0_1_From), (.int .i64 c0_1_To), (.int .i64 c0_1_Port), (.int .i64 c0_1_Proto)] 49])) := by
  refine enterS (args := [v1, (.func (.func 71) #[] #[(.pointer (some ⟨b3, 0, none⟩))])]) [cellCh b3 [(.int .i64 c0_1_From), (.int .i64 c0_1_To), (.int .i64 c0_1_Port), (.int .i64 c0_1_Proto)] 49] hF hg Tryd.func70 rfl Tryd.ntmps70 rfl h ?_
  clear h hF hg
  refine c_seq ?_
  refine c_region ?_
  refine o_as st rfl rfl ?_
  refine c_nil ?_
  refine l_then ?_
  refine c_seq ?_
  refine c_seq ?_
  refine c_region ?_
  refine o_mv st rfl rfl ?_
  refine o_len st el64 1 rfl (reads_snap hv1) rfl rfl ?_
  refine o_mv st rfl rfl ?_
  refine c_nil ?_
  refine l_then ?_
  refine c_block ?_
  refine c_loop (σ := Int) (fun (t5 : Int) (a : Act) (w : World) => Has 19 [(0, v1), (1, (.func (.func 71) #[] #[(.pointer (some ⟨b3, 0, none⟩))])), (7, (.int .i64 (s_0.length : Int))), (8, (.int .i64 t5))] a ∧ Mem (gB F [cellCh b3 [(.int .i64 c0_1_From), (.int .i64 c0_1_To), (.int .i64 c0_1_Port), (.int .i64 c0_1_Proto)] 49] w0) (feet [cellCh b3 [(.int .i64 c0_1_From), (.int .i64 c0_1_To), (.int .i64 c0_1_Port), (.int .i64 c0_1_Proto)] 49]) w0 [cellCh b3 [(.int .i64 c0_1_From), (.int .i64 c0_1_To), (.int .i64 c0_1_Port), (.int .i64 c0_1_Proto)] 49, snapCh w0 F] w) (fun a w hE hm => ⟨hE.sub ⟨rfl, rfl, rfl, rfl, trivial⟩, (hm.pick [0, 1] rfl)⟩) ?_
  rintro nx6 t5 a w ⟨hE, hm⟩ h
  refine nx_of hE hm h ?_
  clear hE hm h
  refine c_seq ?_
  refine c_region ?_
  refine o_lss st rfl rfl rfl ?_
  refine c_nil ?_
  refine l_then ?_
  refine c_seq ?_
  refine c_cond rfl ?_ ?_
  · refine c_skip ?_
    refine l_then ?_
    refine c_seq ?_
    refine c_block ?_
    refine c_seq ?_
    refine c_region ?_
    refine o_mv st rfl rfl ?_
    refine o_as st rfl rfl ?_
    refine c_nil ?_
    refine l_then ?_
    refine c_seq ?_
    refine c_region ?_
    refine o_mv st rfl rfl ?_
    refine o_mv st rfl rfl ?_
    refine o_mv st rfl rfl ?_
    refine o_idx st 1 rfl (reads_snap hv1) rfl rfl rfl el64 ?_; intro e7 h8
    obtain ⟨_, ⟨⟨v10, v13, v16, v19⟩, rfl, ⟨sl11, sl14, sl17, sl20⟩⟩, rw9⟩ := sl_open hv1 h8
    refine o_ldR st (u := (.agg #[v10, v13, v16, v19, (.bool e7.xAccept)])) 1 rfl rw9 rfl rfl ty117 rfl ?_
    refine stw (o_callX (M0 := [cellCh b3 [(.int .i64 c0_1_From), (.int .i64 c0_1_To), (.int .i64 c0_1_Port), (.int .i64 c0_1_Proto)] 49]) rfl (runs_val rfl rfl Tryd.call71) rfl (by intro w m h; exact (w_impl_firstWith_1 (F := allB [cellCh b3 [(.int .i64 c0_1_From), (.int .i64 c0_1_To), (.int .i64 c0_1_Port), (.int .i64 c0_1_Proto)] 49] w) (f_0 := e7) (a_1_From := c0_1_From) (a_1_To := c0_1_To) (a_1_Port := c0_1_Port) (a_1_Proto := c0_1_Proto) allB_ok m.given (m.rdM 0 rfl (reads_snap sl11)) (m.rdM 0 rfl (reads_snap sl14)) (m.rdM 0 rfl (reads_snap sl17)) (m.rdM 0 rfl (reads_snap sl20)) h).mono (fun _ _ k => ret_free (fun r u => (fr_cons free_cell fr_nil)) k)) ?_); rintro r22 _
    refine c_nil ?_
    refine l_then ?_
    refine c_cond rfl ?_ ?_
    · refine c_seq ?_
      refine c_region ?_
      refine o_mv st rfl rfl ?_
      refine o_as st rfl rfl ?_
      refine c_nil ?_
      refine l_then ?_
      refine c_ret ?_
      refine b_ret ?_
      refine l_ret ?_
      refine l_ret ?_
      refine b_ret ?_
      refine l_ret ?_
      exact l_end1 Tryd.results70 t5 () (rv_t rfl) (fun w m => NewCh.ofB m [0] rfl)
    · refine c_skip ?_
      refine b_norm ?_
      refine l_then ?_
      refine c_region ?_
      refine o_add st rfl rfl rfl ?_; intro t23
      refine o_mv st rfl rfl ?_
      refine c_nil ?_
      exact l_join t23 (fun a w hE hm => ⟨hE.sub ⟨rfl, rfl, rfl, rfl, trivial⟩, (hm.pick [0, 1] rfl)⟩)
  · refine c_exit ?_
    refine l_exit ?_
    refine l_exit ?_
    refine b_exit ?_
    refine l_then ?_
    refine c_seq ?_
    refine c_region ?_
    refine o_as st rfl rfl ?_
    refine c_nil ?_
    refine l_then ?_
    refine c_ret ?_
    exact l_end1 Tryd.results70 (-1) () (rv_t rfl) (fun w m => NewCh.ofB m [0] rfl)

set_option maxRecDepth 100000 in
set_option maxHeartbeats 8000000 in
theorem w_impl_firstWith {w0 : World} {F : Nat → Prop} {v1 : Value} {list_0 : (List GIflat)} {p_1 : GPacket} {κ : Int → Prop} (hF : ∀ b, F b → b < w0.heap.size ∧ ¬ feet [] b) (hv1 : Sl elGIflat F w0 v1 list_0) (h : L_impl_firstWith list_0 p_1 κ) :
    Calls Tryd.prog 35 #[v1, (.agg #[(.int .i64 p_1.xFrom), (.int .i64 p_1.xTo), (.int .i64 p_1.xPort), (.int .i64 p_1.xProto)])] w0 (Ret [] F w0 κ (fun (r : Int) (u : Unit) => (.int .i64 r)) (fun (r : Int) (u : Unit) => [])) := by
  refine enterS (args := [v1, (.agg #[(.int .i64 p_1.xFrom), (.int .i64 p_1.xTo), (.int .i64 p_1.xPort), (.int .i64 p_1.xProto)])]) [] hF (Given.nil _ _) Tryd.func35 rfl Tryd.ntmps35 rfl h ?_
  clear h hF
  refine c_seq ?_
  refine c_region ?_
  refine stw (o_box rfl rfl [(.int .i64 p_1.xFrom), (.int .i64 p_1.xTo), (.int .i64 p_1.xPort), (.int .i64 p_1.xProto)] rfl ?_); intro b3
  refine o_as st rfl rfl ?_
  refine c_nil ?_
  refine l_then ?_
  refine c_seq ?_
  refine c_region ?_
  refine o_mv st rfl rfl ?_
  refine o_mkf st (cv := [(.pointer (some ⟨b3, 0, none⟩))]) (by intro ρ h; simp only [List.map_toArray, List.map_cons, List.map_nil, h (.tmp 3) _ rfl]) rfl ?_
  refine stw (o_call (vs := [v1, (.func (.func 71) #[] #[(.pointer (some ⟨b3, 0, none⟩))])]) (M0 := [cellCh b3 [(.int .i64 p_1.xFrom), (.int .i64 p_1.xTo), (.int .i64 p_1.xPort), (.int .i64 p_1.xProto)] 49]) Tryd.call70 rfl rfl (by intro w m h; exact (w_slices_IndexFunc_impl_flat_impl_flat__impl_firstWith_1 (F := allB [cellCh b3 [(.int .i64 p_1.xFrom), (.int .i64 p_1.xTo), (.int .i64 p_1.xPort), (.int .i64 p_1.xProto)] 49] w) (s_0 := list_0) (c0_1_From := p_1.xFrom) (c0_1_To := p_1.xTo) (c0_1_Port := p_1.xPort) (c0_1_Proto := p_1.xProto) allB_ok m.given (m.rdM 0 rfl (reads_snap hv1)) h).mono (fun _ _ k => ret_free (fun r u => (fr_cons free_cell fr_nil)) k)) ?_); rintro r5 _
  refine o_as st rfl rfl ?_
  refine c_nil ?_
  refine l_then ?_
  refine c_ret ?_
  exact l_end1 Tryd.results35 r5 () (rv_t rfl) (fun _ _ => NewCh.nil _ _ _ _)

set_option maxRecDepth 100000 in
set_option maxHeartbeats 8000000 in
theorem w_spec_SpansValid {w0 : World} {F : Nat → Prop} {v1 : Value} {list_0 : (List GSpan)} {top_1 : Int} {κ : Bool → Prop} (hF : ∀ b, F b → b < w0.heap.size ∧ ¬ feet [] b) (hv1 : Sl elGSpan F w0 v1 list_0) (h : L_spec_SpansValid list_0 top_1 κ) :
    Calls Tryd.prog 99 #[v1, (.int .i64 top_1)] w0 (Ret [] F w0 κ (fun (r : Bool) (u : Unit) => (.bool r)) (fun (r : Bool) (u : Unit) => [])) := by
  refine enterS (args := [v1, (.int .i64 top_1)]) [] hF (Given.nil _ _) Tryd.func99 rfl Tryd.ntmps99 rfl h ?_
  clear h hF
  refine c_seq ?_
  refine c_region ?_
  refine o_as st rfl rfl ?_
  refine c_nil ?_
  refine l_then ?_
  refine c_seq ?_
  refine c_seq ?_
  refine c_region ?_
  refine o_as st rfl rfl ?_
  refine c_nil ?_
  refine l_then ?_
  refine c_block ?_
  refine c_loop (σ := Int) (fun (t3 : Int) (a : Act) (w : World) => Has 60 [(0, v1), (1, (.int .i64 top_1)), (5, (.int .i64 t3))] a ∧ Mem (gB F [] w0) (feet []) w0 [snapCh w0 F] w) (fun a w hE hm => ⟨hE.sub ⟨rfl, rfl, rfl, trivial⟩, (hm.pick [0] rfl)⟩) ?_
  rintro nx4 t3 a w ⟨hE, hm⟩ h
  refine nx_of hE hm h ?_
  clear hE hm h
  refine c_seq ?_
  refine c_seq ?_
  refine c_region ?_
  refine o_mv st rfl rfl ?_
  refine o_mv st rfl rfl ?_
  refine o_len st el72 0 rfl (reads_snap hv1) rfl rfl ?_
  refine o_lss st rfl rfl rfl ?_
  refine c_nil ?_
  refine l_then ?_
  refine c_cond rfl ?_ ?_
  · refine c_skip ?_
    refine l_then ?_
    refine c_seq ?_
    refine c_block ?_
    refine c_join (σ := Bool) (fun (t79 : Bool) (a : Act) (w : World) => Has 60 [(0, v1), (1, (.int .i64 top_1)), (5, (.int .i64 t3)), (52, (.bool t79))] a ∧ Mem (gB F [] w0) (feet []) w0 [snapCh w0 F] w) ?_ ?_
    · intro k80
      refine c_draw mixed 41 rfl [snapCh w0 F] ?_
      refine o_mv (dt 0 (fun _ m => m)) rfl rfl ?_
      refine o_mv (dt 1 (fun _ m => m)) rfl rfl ?_
      refine o_idx (dt 2 (fun _ m => m)) 0 rfl (reads_snap hv1) rfl rfl rfl el72 ?_; intro e5 h6
      refine o_fadS (dt 3 (fun _ m => m)) 0 rfl (reads_snap hv1) h6 rfl rfl fld71_0 rfl ?_
      refine o_lds (dt 4 (fun _ m => m)) (enc := encGSpan) (u := (.int .i64 e5.xLo)) 0 rfl (reads_snap hv1) flelGSpan rfl h6 rfl rfl ty3 rfl ?_
      refine o_mv (dt 5 (fun _ m => m)) rfl rfl ?_
      refine o_mv (dt 6 (fun _ m => m)) rfl rfl ?_
      refine o_idx (dt 7 (fun _ m => m)) 0 rfl (reads_snap hv1) rfl rfl rfl el72 ?_; intro e7 h8
      refine o_fadS (dt 8 (fun _ m => m)) 0 rfl (reads_snap hv1) h8 rfl rfl fld71_1 rfl ?_
      refine o_lds (dt 9 (fun _ m => m)) (enc := encGSpan) (u := (.int .i64 e7.xHi)) 0 rfl (reads_snap hv1) flelGSpan rfl h8 rfl rfl ty3 rfl ?_
      refine d_one (i := 10) rfl (by kernel_rfl) (o_callP (vs := [(.int .i64 e5.xLo), (.int .i64 0), (.int .i64 e7.xHi)]) Tryd.call74 rfl rfl (by intro w m h; exact (w_spec_l1In (F := allB [] w) (n_0 := e5.xLo) (lo_1 := 0) (hi_2 := e7.xHi) allB_ok h).mono (fun _ _ k => ret_free (fun r u => fr_nil) k)) ?_); rintro r9 _
      refine d_and (fun _ m => m) ?_
      refine o_not (dt 11 (fun _ m => m)) rfl rfl ?_
      refine o_mv (dt 12 (fun _ m => m)) rfl rfl ?_
      refine st_sp (dj := 24) rfl ?_ ?_
      · refine dsk 13 (fun _ m => m) rfl (by kernel_rfl) rfl rfl rfl rfl ?_
        refine dsk 14 (fun _ m => m) rfl (by kernel_rfl) rfl rfl rfl rfl ?_
        refine dsk 15 (fun _ m => m) rfl (by kernel_rfl) rfl rfl rfl rfl ?_
        refine dsk 16 (fun _ m => m) rfl (by kernel_rfl) rfl rfl rfl rfl ?_
        refine dsk 17 (fun _ m => m) rfl (by kernel_rfl) rfl rfl rfl rfl ?_
        refine dsk 18 (fun _ m => m) rfl (by kernel_rfl) rfl rfl rfl rfl ?_
        refine dsk 19 (fun _ m => m) rfl (by kernel_rfl) rfl rfl rfl rfl ?_
        refine dsk 20 (fun _ m => m) rfl (by kernel_rfl) rfl rfl rfl rfl ?_
        refine o_pickT (dt 21 (fun _ m => m)) rfl rfl rfl ?_
        refine o_mv (dt 22 (fun _ m => m)) rfl rfl ?_
        refine dsk 23 (fun _ m => m) rfl (by kernel_rfl) rfl rfl rfl rfl ?_
        refine dsk 24 (fun _ m => m) rfl (by kernel_rfl) rfl rfl rfl rfl ?_
        refine dsk 25 (fun _ m => m) rfl (by kernel_rfl) rfl rfl rfl rfl ?_
        refine dsk 26 (fun _ m => m) rfl (by kernel_rfl) rfl rfl rfl rfl ?_
        refine dsk 27 (fun _ m => m) rfl (by kernel_rfl) rfl rfl rfl rfl ?_
        refine dsk 28 (fun _ m => m) rfl (by kernel_rfl) rfl rfl rfl rfl ?_
        refine dsk 29 (fun _ m => m) rfl (by kernel_rfl) rfl rfl rfl rfl ?_
        refine dsk 30 (fun _ m => m) rfl (by kernel_rfl) rfl rfl rfl rfl ?_
        refine dsk 31 (fun _ m => m) rfl (by kernel_rfl) rfl rfl rfl rfl ?_
        refine dsk 32 (fun _ m => m) rfl (by kernel_rfl) rfl rfl rfl rfl ?_
        refine dsk 33 (fun _ m => m) rfl (by kernel_rfl) rfl rfl rfl rfl ?_
        refine dsk 34 (fun _ m => m) rfl (by kernel_rfl) rfl rfl rfl rfl ?_
        refine dsk 35 (fun _ m => m) rfl (by kernel_rfl) rfl rfl rfl rfl ?_
        refine dsk 36 (fun _ m => m) rfl (by kernel_rfl) rfl rfl rfl rfl ?_
        refine dsk 37 (fun _ m => m) rfl (by kernel_rfl) rfl rfl rfl rfl ?_
        refine dsk 38 (fun _ m => m) rfl (by kernel_rfl) rfl rfl rfl rfl ?_
        refine dsk 39 (fun _ m => m) rfl (by kernel_rfl) rfl rfl rfl rfl ?_
        refine o_pickT (dt 40 (fun _ m => m)) rfl rfl rfl ?_
        refine d_done (by kernel_rfl) ?_
        exact l_join true (fun a w hE hm => ⟨hE.sub ⟨rfl, rfl, rfl, rfl, trivial⟩, (hm.pick [0] rfl)⟩)
      · refine o_mv (dtg 13 (fun _ m => m)) rfl rfl ?_
        refine o_mv (dtg 14 (fun _ m => m)) rfl rfl ?_
        refine o_idx (dtg 15 (fun _ m => m)) 0 rfl (reads_snap hv1) rfl rfl rfl el72 ?_; intro e10 h11
        refine o_fadS (dtg 16 (fun _ m => m)) 0 rfl (reads_snap hv1) h11 rfl rfl fld71_1 rfl ?_
        refine o_lds (dtg 17 (fun _ m => m)) (enc := encGSpan) (u := (.int .i64 e10.xHi)) 0 rfl (reads_snap hv1) flelGSpan rfl h11 rfl rfl ty3 rfl ?_
        refine o_mv (dtg 18 (fun _ m => m)) rfl rfl ?_
        refine d_oneg (i := 19) rfl rfl rfl (by kernel_rfl) (o_callP (vs := [(.int .i64 e10.xHi), (.int .i64 0), (.int .i64 top_1)]) Tryd.call74 rfl rfl (by intro w m h; exact (w_spec_l1In (F := allB [] w) (n_0 := e10.xHi) (lo_1 := 0) (hi_2 := top_1) allB_ok h).mono (fun _ _ k => ret_free (fun r u => fr_nil) k)) ?_); rintro r12 _
        refine d_and (fun _ m => m) ?_
        refine o_not (dtg 20 (fun _ m => m)) rfl rfl ?_
        refine o_pickF (dt 21 (fun _ m => m)) rfl rfl rfl ?_
        refine o_mv (dt 22 (fun _ m => m)) rfl rfl ?_
        refine st_sp (dj := 34) rfl ?_ ?_
        · refine dsk 23 (fun _ m => m) rfl (by kernel_rfl) rfl rfl rfl rfl ?_
          refine dsk 24 (fun _ m => m) rfl (by kernel_rfl) rfl rfl rfl rfl ?_
          refine dsk 25 (fun _ m => m) rfl (by kernel_rfl) rfl rfl rfl rfl ?_
          refine dsk 26 (fun _ m => m) rfl (by kernel_rfl) rfl rfl rfl rfl ?_
          refine dsk 27 (fun _ m => m) rfl (by kernel_rfl) rfl rfl rfl rfl ?_
          refine dsk 28 (fun _ m => m) rfl (by kernel_rfl) rfl rfl rfl rfl ?_
          refine dsk 29 (fun _ m => m) rfl (by kernel_rfl) rfl rfl rfl rfl ?_
          refine dsk 30 (fun _ m => m) rfl (by kernel_rfl) rfl rfl rfl rfl ?_
          refine dsk 31 (fun _ m => m) rfl (by kernel_rfl) rfl rfl rfl rfl ?_
          refine dsk 32 (fun _ m => m) rfl (by kernel_rfl) rfl rfl rfl rfl ?_
          refine dsk 33 (fun _ m => m) rfl (by kernel_rfl) rfl rfl rfl rfl ?_
          refine dsk 34 (fun _ m => m) rfl (by kernel_rfl) rfl rfl rfl rfl ?_
          refine dsk 35 (fun _ m => m) rfl (by kernel_rfl) rfl rfl rfl rfl ?_
          refine dsk 36 (fun _ m => m) rfl (by kernel_rfl) rfl rfl rfl rfl ?_
          refine dsk 37 (fun _ m => m) rfl (by kernel_rfl) rfl rfl rfl rfl ?_
          refine dsk 38 (fun _ m => m) rfl (by kernel_rfl) rfl rfl rfl rfl ?_
          refine dsk 39 (fun _ m => m) rfl (by kernel_rfl) rfl rfl rfl rfl ?_
          refine o_pickT (dt 40 (fun _ m => m)) rfl rfl rfl ?_
          refine d_done (by kernel_rfl) ?_
          exact l_join true (fun a w hE hm => ⟨hE.sub ⟨rfl, rfl, rfl, rfl, trivial⟩, (hm.pick [0] rfl)⟩)
        · refine o_mv (dtg 23 (fun _ m => m)) rfl rfl ?_
          refine o_gtr (dtg 24 (fun _ m => m)) rfl rfl rfl ?_
          refine o_mv (dtg 25 (fun _ m => m)) rfl rfl ?_
          refine st_sp (dj := 37) rfl ?_ ?_
          · refine o_mv (dtg 26 (fun _ m => m)) rfl rfl ?_
            refine o_mv (dtg 27 (fun _ m => m)) rfl rfl ?_
            refine o_idx (dtg 28 (fun _ m => m)) 0 rfl (reads_snap hv1) rfl rfl rfl el72 ?_; intro e13 h14
            refine o_fadS (dtg 29 (fun _ m => m)) 0 rfl (reads_snap hv1) h14 rfl rfl fld71_0 rfl ?_
            refine o_lds (dtg 30 (fun _ m => m)) (enc := encGSpan) (u := (.int .i64 e13.xLo)) 0 rfl (reads_snap hv1) flelGSpan rfl h14 rfl rfl ty3 rfl ?_
            refine o_mv (dtg 31 (fun _ m => m)) rfl rfl ?_
            refine o_mv (dtg 32 (fun _ m => m)) rfl rfl ?_
            refine o_sub (dtg 33 (fun _ m => m)) rfl rfl rfl ?_; intro t15
            refine o_idx (dtg 34 (fun _ m => m)) 0 rfl (reads_snap hv1) rfl rfl rfl el72 ?_; intro e16 h17
            refine o_fadS (dtg 35 (fun _ m => m)) 0 rfl (reads_snap hv1) h17 rfl rfl fld71_1 rfl ?_
            refine o_lds (dtg 36 (fun _ m => m)) (enc := encGSpan) (u := (.int .i64 e16.xHi)) 0 rfl (reads_snap hv1) flelGSpan rfl h17 rfl rfl ty3 rfl ?_
            refine o_add (dtg 37 (fun _ m => m)) rfl rfl rfl ?_; intro t18
            refine o_lss (dtg 38 (fun _ m => m)) rfl rfl rfl ?_
            refine o_pickT (dtg 39 (fun _ m => m)) rfl rfl rfl ?_
            refine o_pickF (dt 40 (fun _ m => m)) rfl rfl rfl ?_
            refine d_done (by kernel_rfl) ?_
            exact l_join (decide (e13.xLo < t18)) (fun a w hE hm => ⟨hE.sub ⟨rfl, rfl, rfl, rfl, trivial⟩, (hm.pick [0] rfl)⟩)
          · refine dsk 26 (fun _ m => m) rfl (by kernel_rfl) rfl rfl rfl rfl ?_
            refine dsk 27 (fun _ m => m) rfl (by kernel_rfl) rfl rfl rfl rfl ?_
            refine dsk 28 (fun _ m => m) rfl (by kernel_rfl) rfl rfl rfl rfl ?_
            refine dsk 29 (fun _ m => m) rfl (by kernel_rfl) rfl rfl rfl rfl ?_
            refine dsk 30 (fun _ m => m) rfl (by kernel_rfl) rfl rfl rfl rfl ?_
            refine dsk 31 (fun _ m => m) rfl (by kernel_rfl) rfl rfl rfl rfl ?_
            refine dsk 32 (fun _ m => m) rfl (by kernel_rfl) rfl rfl rfl rfl ?_
            refine dsk 33 (fun _ m => m) rfl (by kernel_rfl) rfl rfl rfl rfl ?_
            refine dsk 34 (fun _ m => m) rfl (by kernel_rfl) rfl rfl rfl rfl ?_
            refine dsk 35 (fun _ m => m) rfl (by kernel_rfl) rfl rfl rfl rfl ?_
            refine dsk 36 (fun _ m => m) rfl (by kernel_rfl) rfl rfl rfl rfl ?_
            refine dsk 37 (fun _ m => m) rfl (by kernel_rfl) rfl rfl rfl rfl ?_
            refine dsk 38 (fun _ m => m) rfl (by kernel_rfl) rfl rfl rfl rfl ?_
            refine o_pickF (dtg 39 (fun _ m => m)) rfl rfl rfl ?_
            refine o_pickF (dt 40 (fun _ m => m)) rfl rfl rfl ?_
            refine d_done (by kernel_rfl) ?_
            exact l_join false (fun a w hE hm => ⟨hE.sub ⟨rfl, rfl, rfl, rfl, trivial⟩, (hm.pick [0] rfl)⟩)
    · rintro t79 a w ⟨hE, hm⟩ h
      refine nx_of hE hm h ?_
      clear hE hm h
      refine c_cond rfl ?_ ?_
      · refine c_seq ?_
        refine c_region ?_
        refine o_as st rfl rfl ?_
        refine c_nil ?_
        refine l_then ?_
        refine c_ret ?_
        refine b_ret ?_
        refine l_ret ?_
        refine l_ret ?_
        refine b_ret ?_
        refine l_ret ?_
        exact l_end1 Tryd.results99 false () (rv_t rfl) (fun _ _ => NewCh.nil _ _ _ _)
      · refine c_skip ?_
        refine b_norm ?_
        refine l_then ?_
        refine c_region ?_
        refine o_mv st rfl rfl ?_
        refine o_add st rfl rfl rfl ?_; intro t81
        refine o_as st rfl rfl ?_
        refine c_nil ?_
        exact l_join t81 (fun a w hE hm => ⟨hE.sub ⟨rfl, rfl, rfl, trivial⟩, (hm.pick [0] rfl)⟩)
  · refine c_exit ?_
    refine l_exit ?_
    refine l_exit ?_
    refine b_exit ?_
    refine l_then ?_
    refine c_join (σ := Bool) (fun (t143 : Bool) (a : Act) (w : World) => Has 60 [(4, (.bool t143))] a ∧ Mem (gB F [] w0) (feet []) w0 [] w) ?_ ?_
    · intro k144
      refine c_region ?_
      refine o_mv st rfl rfl ?_
      refine stw (o_callP (vs := [(.int .i64 top_1), (.int .i64 0), (.int .i64 65535)]) Tryd.call74 rfl rfl (by intro w m h; exact (w_spec_l1In (F := allB [] w) (n_0 := top_1) (lo_1 := 0) (hi_2 := 65535) allB_ok h).mono (fun _ _ k => ret_free (fun r u => fr_nil) k)) ?_); rintro r82 _
      refine o_mv st rfl rfl ?_
      refine st_sp (dj := 55) rfl ?_ ?_
      · refine o_mv (st_g rfl rfl) rfl rfl ?_
        refine o_len (st_g rfl rfl) el72 0 rfl (reads_snap hv1) rfl rfl ?_
        refine o_leq (st_g rfl rfl) rfl rfl rfl ?_
        refine o_pickT st rfl rfl rfl ?_
        refine o_as st rfl rfl ?_
        refine c_nil ?_
        exact l_join (decide ((list_0.length : Int) ≤ 40)) (fun a w hE hm => ⟨hE.sub ⟨rfl, trivial⟩, (hm.pick [] rfl)⟩)
      · refine st_s rfl rfl rfl rfl ?_
        refine st_s rfl rfl rfl rfl ?_
        refine st_s rfl rfl rfl rfl ?_
        refine o_pickF st rfl rfl rfl ?_
        refine o_as st rfl rfl ?_
        refine c_nil ?_
        exact l_join false (fun a w hE hm => ⟨hE.sub ⟨rfl, trivial⟩, (hm.pick [] rfl)⟩)
    · rintro t143 a w ⟨hE, hm⟩ h
      refine nx_of hE hm h ?_
      clear hE hm h
      refine c_ret ?_
      exact l_end1 Tryd.results99 t143 () (rv_t rfl) (fun _ _ => NewCh.nil _ _ _ _)

set_option maxRecDepth 100000 in
set_option maxHeartbeats 8000000 in
theorem w_spec_BoxValid {w0 : World} {F : Nat → Prop} {v1 : Value} {b_0 : GBox} {κ : Bool → Prop} (hF : ∀ b, F b → b < w0.heap.size ∧ ¬ feet [] b) (hv1 : Sl (elSl elGSpan) F w0 v1 b_0.xSides) (h : L_spec_BoxValid b_0 κ) :
    Calls Tryd.prog 73 #[(.agg #[v1])] w0 (Ret [] F w0 κ (fun (r : Bool) (u : Unit) => (.bool r)) (fun (r : Bool) (u : Unit) => [])) := by
  refine enterS (args := [(.agg #[v1])]) [] hF (Given.nil _ _) Tryd.func73 rfl Tryd.ntmps73 rfl h ?_
  clear h hF
  refine c_seq ?_
  refine c_region ?_
  obtain ⟨a3, l4, q5, hs_⟩ := sl_val hv1; subst hs_
  refine stw (o_box rfl rfl [(.slice a3 l4 q5)] rfl ?_); intro b6
  refine o_as st rfl rfl ?_
  refine c_nil ?_
  refine l_then ?_
  refine c_seq ?_
  refine c_seq ?_
  refine c_region ?_
  refine o_as st rfl rfl ?_
  refine c_nil ?_
  refine l_then ?_
  refine c_block ?_
  refine c_loop (σ := Int) (fun (t8 : Int) (a : Act) (w : World) => Has 28 [(1, (.pointer (some ⟨b6, 0, none⟩))), (3, (.int .i64 t8))] a ∧ Mem (gB F [] w0) (feet []) w0 [cellCh b6 [(.slice a3 l4 q5)] 85, snapCh w0 F] w) (fun a w hE hm => ⟨hE.sub ⟨rfl, rfl, trivial⟩, (hm.pick [0, 1] rfl)⟩) ?_
  rintro nx9 t8 a w ⟨hE, hm⟩ h
  refine nx_of hE hm h ?_
  clear hE hm h
  refine c_seq ?_
  refine c_seq ?_
  refine c_region ?_
  refine o_mv st rfl rfl ?_
  refine o_fad st rfl rfl fld85_0 rfl ?_
  refine o_ldc st (v := (.slice a3 l4 q5)) 0 rfl rfl rfl ty83 rfl ?_
  refine o_len st el83 1 rfl (reads_snap hv1) rfl rfl ?_
  refine o_lss st rfl rfl rfl ?_
  refine c_nil ?_
  refine l_then ?_
  refine c_cond rfl ?_ ?_
  · refine c_skip ?_
    refine l_then ?_
    refine c_seq ?_
    refine c_block ?_
    refine c_join (σ := Bool) (fun (t78 : Bool) (a : Act) (w : World) => Has 28 [(1, (.pointer (some ⟨b6, 0, none⟩))), (3, (.int .i64 t8)), (23, (.bool t78))] a ∧ Mem (gB F [] w0) (feet []) w0 [cellCh b6 [(.slice a3 l4 q5)] 85, snapCh w0 F] w) ?_ ?_
    · intro k79
      refine c_draw mixed 13 rfl [cellCh b6 [(.slice a3 l4 q5)] 85, snapCh w0 F] ?_
      refine o_mv (dt 0 (fun _ m => m)) rfl rfl ?_
      refine o_geq (dt 1 (fun _ m => m)) rfl rfl rfl ?_
      refine o_mv (dt 2 (fun _ m => m)) rfl rfl ?_
      refine st_sp (dj := 13) rfl ?_ ?_
      · refine dsk 3 (fun _ m => m) rfl (by kernel_rfl) rfl rfl rfl rfl ?_
        refine dsk 4 (fun _ m => m) rfl (by kernel_rfl) rfl rfl rfl rfl ?_
        refine dsk 5 (fun _ m => m) rfl (by kernel_rfl) rfl rfl rfl rfl ?_
        refine dsk 6 (fun _ m => m) rfl (by kernel_rfl) rfl rfl rfl rfl ?_
        refine dsk 7 (fun _ m => m) rfl (by kernel_rfl) rfl rfl rfl rfl ?_
        refine dsk 8 (fun _ m => m) rfl (by kernel_rfl) rfl rfl rfl rfl ?_
        refine dsk 9 (fun _ m => m) rfl (by kernel_rfl) rfl rfl rfl rfl ?_
        refine dsk 10 (fun _ m => m) rfl (by kernel_rfl) rfl rfl rfl rfl ?_
        refine dsk 11 (fun _ m => m) rfl (by kernel_rfl) rfl rfl rfl rfl ?_
        refine o_pickT (dt 12 (fun _ m => m)) rfl rfl rfl ?_
        refine d_done (by kernel_rfl) ?_
        exact l_join true (fun a w hE hm => ⟨hE.sub ⟨rfl, rfl, rfl, trivial⟩, (hm.pick [0, 1] rfl)⟩)
      · refine o_fad (dtg 3 (fun _ m => m)) rfl rfl fld85_0 rfl ?_
        refine o_ldc (dtg 4 (fun _ m => m)) (v := (.slice a3 l4 q5)) 0 rfl rfl rfl ty83 rfl ?_
        refine o_mv (dtg 5 (fun _ m => m)) rfl rfl ?_
        refine o_idx (dtg 6 (fun _ m => m)) 1 rfl (reads_snap hv1) rfl rfl rfl el83 ?_; intro e10 h11
        obtain ⟨_, ⟨v13, rfl, sl14⟩, rw12⟩ := sl_open hv1 h11
        refine o_ldR (dtg 7 (fun _ m => m)) (u := v13) 1 rfl rw12 rfl rfl ty72 rfl ?_
        refine o_mv (dtg 8 (fun _ m => m)) rfl rfl ?_
        refine d_oneg (i := 9) rfl rfl rfl (by kernel_rfl) (o_callP (vs := [(.int .i64 t8)]) Tryd.call63 rfl rfl (by intro w m h; exact (w_spec_FieldTop (F := allB [] w) (n_0 := t8) allB_ok h).mono (fun _ _ k => ret_free (fun r u => fr_nil) k)) ?_); rintro r16 _
        refine d_and (fun _ m => m) ?_
        refine d_oneg (i := 10) rfl rfl rfl (by kernel_rfl) (o_callP (vs := [v13, (.int .i64 r16)]) Tryd.call99 rfl rfl (by intro w m h; exact (w_spec_SpansValid (F := allB [] w) (list_0 := e10) (top_1 := r16) allB_ok (m.rd0 1 rfl (reads_snap sl14)) h).mono (fun _ _ k => ret_free (fun r u => fr_nil) k)) ?_); rintro r17 _
        refine d_and (fun _ m => m) ?_
        refine o_not (dtg 11 (fun _ m => m)) rfl rfl ?_
        refine o_pickF (dt 12 (fun _ m => m)) rfl rfl rfl ?_
        refine d_done (by kernel_rfl) ?_
        exact l_join (!r17) (fun a w hE hm => ⟨hE.sub ⟨rfl, rfl, rfl, trivial⟩, (hm.pick [0, 1] rfl)⟩)
    · rintro t78 a w ⟨hE, hm⟩ h
      refine nx_of hE hm h ?_
      clear hE hm h
      refine c_cond rfl ?_ ?_
      · refine c_seq ?_
        refine c_region ?_
        refine o_as st rfl rfl ?_
        refine c_nil ?_
        refine l_then ?_
        refine c_ret ?_
        refine b_ret ?_
        refine l_ret ?_
        refine l_ret ?_
        refine b_ret ?_
        refine l_ret ?_
        exact l_end1 Tryd.results73 false () (rv_t rfl) (fun _ _ => NewCh.nil _ _ _ _)
      · refine c_skip ?_
        refine b_norm ?_
        refine l_then ?_
        refine c_region ?_
        refine o_mv st rfl rfl ?_
        refine o_add st rfl rfl rfl ?_; intro t80
        refine o_as st rfl rfl ?_
        refine c_nil ?_
        exact l_join t80 (fun a w hE hm => ⟨hE.sub ⟨rfl, rfl, trivial⟩, (hm.pick [0, 1] rfl)⟩)
  · refine c_exit ?_
    refine l_exit ?_
    refine l_exit ?_
    refine b_exit ?_
    refine l_then ?_
    refine c_seq ?_
    refine c_region ?_
    refine o_fad st rfl rfl fld85_0 rfl ?_
    refine o_ldc st (v := (.slice a3 l4 q5)) 0 rfl rfl rfl ty83 rfl ?_
    refine o_len st el83 1 rfl (reads_snap hv1) rfl rfl ?_
    refine o_eql st und3 rfl rfl rfl ?_
    refine o_as st rfl rfl ?_
    refine c_nil ?_
    refine l_then ?_
    refine c_ret ?_
    exact l_end1 Tryd.results73 (decide ((b_0.xSides.length : Int) = 4)) () (rv_t rfl) (fun _ _ => NewCh.nil _ _ _ _)

set_option maxRecDepth 100000 in
set_option maxHeartbeats 8000000 in
theorem w_spec_FlatsValid {w0 : World} {F : Nat → Prop} {v1 : Value} {list_0 : (List GFlat)} {κ : Bool → Prop} (hF : ∀ b, F b → b < w0.heap.size ∧ ¬ feet [] b) (hv1 : Sl elGFlat F w0 v1 list_0) (h : L_spec_FlatsValid list_0 κ) :
    Calls Tryd.prog 36 #[v1] w0 (Ret [] F w0 κ (fun (r : Bool) (u : Unit) => (.bool r)) (fun (r : Bool) (u : Unit) => [])) := by
  refine enterS (args := [v1]) [] hF (Given.nil _ _) Tryd.func36 rfl Tryd.ntmps36 rfl h ?_
  clear h hF
  refine c_seq ?_
  refine c_region ?_
  refine o_as st rfl rfl ?_
  refine c_nil ?_
  refine l_then ?_
  refine c_seq ?_
  refine c_seq ?_
  refine c_region ?_
  refine o_as st rfl rfl ?_
  refine c_nil ?_
  refine l_then ?_
  refine c_block ?_
  refine c_loop (σ := Int) (fun (t3 : Int) (a : Act) (w : World) => Has 20 [(0, v1), (3, (.int .i64 t3))] a ∧ Mem (gB F [] w0) (feet []) w0 [snapCh w0 F] w) (fun a w hE hm => ⟨hE.sub ⟨rfl, rfl, trivial⟩, (hm.pick [0] rfl)⟩) ?_
  rintro nx4 t3 a w ⟨hE, hm⟩ h
  refine nx_of hE hm h ?_
  clear hE hm h
  refine c_seq ?_
  refine c_seq ?_
  refine c_region ?_
  refine o_mv st rfl rfl ?_
  refine o_mv st rfl rfl ?_
  refine o_len st el23 0 rfl (reads_snap hv1) rfl rfl ?_
  refine o_lss st rfl rfl rfl ?_
  refine c_nil ?_
  refine l_then ?_
  refine c_cond rfl ?_ ?_
  · refine c_skip ?_
    refine l_then ?_
    refine c_seq ?_
    refine c_block ?_
    refine c_seq ?_
    refine c_region ?_
    refine o_mv st rfl rfl ?_
    refine o_mv st rfl rfl ?_
    refine o_idx st 0 rfl (reads_snap hv1) rfl rfl rfl el23 ?_; intro e5 h6
    refine o_fadS st 0 rfl (reads_snap hv1) h6 rfl rfl fld87_0 rfl ?_
    obtain ⟨_, ⟨v8, rfl, sl9⟩, rw7⟩ := sl_open hv1 h6
    refine o_ldR st (u := (.agg #[v8])) 0 rfl rw7 rfl rfl ty85 rfl ?_
    refine stw (o_callP (vs := [(.agg #[v8])]) Tryd.call73 rfl rfl (by intro w m h; exact (w_spec_BoxValid (F := allB [] w) (b_0 := e5.xWhere) allB_ok (m.rd0 0 rfl (reads_snap sl9)) h).mono (fun _ _ k => ret_free (fun r u => fr_nil) k)) ?_); rintro r11 _
    refine o_not st rfl rfl ?_
    refine c_nil ?_
    refine l_then ?_
    refine c_cond rfl ?_ ?_
    · refine c_seq ?_
      refine c_region ?_
      refine o_as st rfl rfl ?_
      refine c_nil ?_
      refine l_then ?_
      refine c_ret ?_
      refine b_ret ?_
      refine l_ret ?_
      refine l_ret ?_
      refine b_ret ?_
      refine l_ret ?_
      exact l_end1 Tryd.results36 false () (rv_t rfl) (fun _ _ => NewCh.nil _ _ _ _)
    · refine c_skip ?_
      refine b_norm ?_
      refine l_then ?_
      refine c_region ?_
      refine o_mv st rfl rfl ?_
      refine o_add st rfl rfl rfl ?_; intro t12
      refine o_as st rfl rfl ?_
      refine c_nil ?_
      exact l_join t12 (fun a w hE hm => ⟨hE.sub ⟨rfl, rfl, trivial⟩, (hm.pick [0] rfl)⟩)
  · refine c_exit ?_
    refine l_exit ?_
    refine l_exit ?_
    refine b_exit ?_
    refine l_then ?_
    refine c_seq ?_
    refine c_region ?_
    refine o_mv st rfl rfl ?_
    refine o_len st el23 0 rfl (reads_snap hv1) rfl rfl ?_
    refine o_leq st rfl rfl rfl ?_
    refine o_as st rfl rfl ?_
    refine c_nil ?_
    refine l_then ?_
    refine c_ret ?_
    exact l_end1 Tryd.results36 (decide ((list_0.length : Int) ≤ 60)) () (rv_t rfl) (fun _ _ => NewCh.nil _ _ _ _)

set_option maxRecDepth 100000 in
set_option maxHeartbeats 8000000 in
theorem w_laws_alive {w0 : World} {F : Nat → Prop} {κ : Bool → Prop} (hF : ∀ b, F b → b < w0.heap.size ∧ ¬ feet [] b) (h : L_laws_alive κ) :
    Calls Tryd.prog 11 #[] w0 (Ret [] F w0 κ (fun (r : Bool) (u : Unit) => (.bool r)) (fun (r : Bool) (u : Unit) => [])) := by
  refine enter0 (args := []) [] hF (Given.nil _ _) Tryd.func11 rfl Tryd.ntmps11 rfl h ?_
  clear h hF
  refine c_seq ?_
  refine c_region ?_
  refine o_as st rfl rfl ?_
  refine c_nil ?_
  refine l_then ?_
  refine c_seq ?_
  refine c_region ?_
  refine o_bld st (qs := [(0, (.int .i64 2)), (1, (.int .i64 4))]) (cells := [(.int .i64 2), (.int .i64 4)]) (by intro ρ h; simp only [List.map_toArray, List.map_cons, List.map_nil, h (.const (.int .i64 2)) _ rfl, h (.const (.int .i64 4)) _ rfl]) rfl bld71 rfl ?_
  refine stw (o_bsl (enc := encGSpan) (qs := [(0, (.agg #[(.int .i64 2), (.int .i64 4)]))]) (cells := [(.int .i64 2), (.int .i64 4)]) ([(GSpan.mk 2 4)]) flelGSpan (by intro ρ h; simp only [List.map_toArray, List.map_cons, List.map_nil, h (.tmp 1) _ rfl]) rfl el72 zero71 rfl rfl rfl rfl rfl rfl ?_); intro v1
  refine stw (o_callP (vs := [v1, (.int .i64 3)]) Tryd.call39 rfl rfl (by intro w m h; exact (w_impl_SpansHave (F := allB [] w) (list_0 := ([(GSpan.mk 2 4)])) (n_1 := 3) allB_ok (m.rd0 0 rfl reads_own) h).mono (fun _ _ k => ret_free (fun r u => fr_nil) k)) ?_); rintro r3 _
  refine o_as st rfl rfl ?_
  refine c_nil ?_
  refine l_then ?_
  refine c_ret ?_
  exact l_end1 Tryd.results11 r3 () (rv_t rfl) (fun _ _ => NewCh.nil _ _ _ _)

set_option maxRecDepth 100000 in
set_option maxHeartbeats 8000000 in
theorem w_spec_l1OwnRowsSpan {w0 : World} {F : Nat → Prop} {v1 : Value} {list_0 : (List (List GSpan))} {κ : (List (List GSpan)) → Prop} (hF : ∀ b, F b → b < w0.heap.size ∧ ¬ feet [] b) (hv1 : Sl (elSl elGSpan) F w0 v1 list_0) (h : L_spec_l1OwnRowsSpan list_0 κ) :
    Calls Tryd.prog 121 #[v1] w0 (Ret [] F w0 κ (fun (r : (List (List GSpan))) (u : Value × List Nat) => u.1) (fun (r : (List (List GSpan))) (u : Value × List Nat) => [dpCh (dSl dGSpan 71) 72 u.2 u.1 r])) := by
  refine enterS (args := [v1]) [] hF (Given.nil _ _) Tryd.func121 rfl Tryd.ntmps121 rfl h ?_
  clear h hF
  refine c_seq ?_
  refine c_region ?_
  refine stw (o_asd (dSl dGSpan 71) 72 rfl rfl ?_)
  refine c_nil ?_
  refine l_then ?_
  refine c_seq ?_
  refine c_region ?_
  refine stw (o_bslD0 (E' := (dSl dGSpan 71)) (qs := []) (by intro ρ h; simp only [List.map_toArray, List.map_cons, List.map_nil]) rfl el83 zero72 rfl rfl rfl ?_); intro bb5 v4
  refine o_as st rfl rfl ?_
  refine c_nil ?_
  refine l_then ?_
  refine c_seq ?_
  refine c_seq ?_
  refine c_region ?_
  refine o_as st rfl rfl ?_
  refine c_nil ?_
  refine l_then ?_
  refine c_block ?_
  refine c_loop (σ := ((List (List GSpan)) × Int)) (fun ((xs8, t12) : ((List (List GSpan)) × Int)) (a : Act) (w : World) => ∃ (v7 : Value) (bb10 : List Nat), Has 22 [(0, v1), (3, v7), (4, (.int .i64 t12))] a ∧ Mem (gB F [] w0) (feet []) w0 [snapCh w0 F, dpCh (dSl dGSpan 71) 72 bb10 v7 xs8] w) (fun a w hE hm => ⟨v4, bb5, hE.sub ⟨rfl, rfl, rfl, trivial⟩, (hm.pick [2, 0] rfl)⟩) ?_
  rintro nx13 ⟨xs8, t12⟩ a w ⟨v7, bb10, hE, hm⟩ h
  refine nx_of hE hm h ?_
  clear hE hm h
  refine c_seq ?_
  refine c_seq ?_
  refine c_region ?_
  refine o_mv st rfl rfl ?_
  refine o_mv st rfl rfl ?_
  refine o_len st el83 0 rfl (reads_snap hv1) rfl rfl ?_
  refine o_lss st rfl rfl rfl ?_
  refine c_nil ?_
  refine l_then ?_
  refine c_cond rfl ?_ ?_
  · refine c_skip ?_
    refine l_then ?_
    refine c_seq ?_
    refine c_block ?_
    refine c_region ?_
    refine o_mv st rfl rfl ?_
    refine stw (o_bsl (enc := encGSpan) (qs := []) (cells := []) ([] : (List GSpan)) flelGSpan (by intro ρ h; simp only [List.map_toArray, List.map_cons, List.map_nil]) rfl el72 zero71 rfl rfl rfl rfl rfl rfl ?_); intro v14
    refine o_mv st rfl rfl ?_
    refine o_mv st rfl rfl ?_
    refine o_idx st 1 rfl (reads_snap hv1) rfl rfl rfl el83 ?_; intro e16 h17
    obtain ⟨_, ⟨v19, rfl, sl20⟩, rw18⟩ := sl_open hv1 h17
    refine o_ldR st (u := v19) 1 rfl rw18 rfl rfl ty72 rfl ?_
    refine stw (o_app 0 1 rfl rfl (src_flat flelGSpan (reads_snap sl20)) rfl rfl rfl el72 rfl zero71 rfl rfl ?_); intro v22
    refine nx_own 0 rfl ?_; rintro a24 l25 q26 rfl
    refine stw (o_bslD (M := [ownCh elGSpan 71 (.slice a24 l25 q26) (([]) ++ e16)]) (E' := (dSl dGSpan 71)) (qs := [(0, (.slice a24 l25 q26))]) (cs := [(.slice a24 l25 q26)]) (([]) ++ e16) (absorb_one (gives_own flelGSpan) (fun B w h => ⟨_, rfl, h⟩)) (by intro ρ h; simp only [List.map_toArray, List.map_cons, List.map_nil, h (.tmp 18) _ rfl]) rfl el83 zero72 rfl rfl rfl rfl ?_); intro bb28 v27
    refine pk [2, 0, 1] rfl ?_
    refine stw (o_appD rfl rfl rfl el83 rfl zero72 rfl rfl ?_); intro bb31 v30
    refine o_as st rfl rfl ?_
    refine c_nil ?_
    refine b_norm ?_
    refine l_then ?_
    refine c_region ?_
    refine o_mv st rfl rfl ?_
    refine o_add st rfl rfl rfl ?_; intro t33
    refine o_as st rfl rfl ?_
    refine c_nil ?_
    exact l_join ((xs8 ++ ([(([]) ++ e16)])), t33) (fun a w hE hm => ⟨v30, bb31, hE.sub ⟨rfl, rfl, rfl, trivial⟩, (hm.pick [1, 0] rfl)⟩)
  · refine c_exit ?_
    refine l_exit ?_
    refine l_exit ?_
    refine b_exit ?_
    refine l_then ?_
    refine c_seq ?_
    refine c_region ?_
    refine o_mv st rfl rfl ?_
    refine o_as st rfl rfl ?_
    refine c_nil ?_
    refine l_then ?_
    refine c_ret ?_
    exact l_end1 Tryd.results121 xs8 (v7, bb10) (rv_t rfl) (fun w m => NewCh.ofB m [1] rfl)

set_option maxRecDepth 100000 in
set_option maxHeartbeats 8000000 in
theorem w_spec_l1OwnBox {w0 : World} {F : Nat → Prop} {v1 : Value} {x_0 : GBox} {κ : GBox → Prop} (hF : ∀ b, F b → b < w0.heap.size ∧ ¬ feet [] b) (hv1 : Sl (elSl elGSpan) F w0 v1 x_0.xSides) (h : L_spec_l1OwnBox x_0 κ) :
    Calls Tryd.prog 103 #[(.agg #[v1])] w0 (Ret [] F w0 κ (fun (r : GBox) (u : Value × List Nat) => (.agg #[u.1])) (fun (r : GBox) (u : Value × List Nat) => [dpCh (dSl dGSpan 71) 72 u.2 u.1 r.xSides])) := by
  refine enterS (args := [(.agg #[v1])]) [] hF (Given.nil _ _) Tryd.func103 rfl Tryd.ntmps103 rfl h ?_
  clear h hF
  refine c_seq ?_
  refine c_region ?_
  obtain ⟨a3, l4, q5, hs_⟩ := sl_val hv1; subst hs_
  refine stw (o_box rfl rfl [(.slice a3 l4 q5)] rfl ?_); intro b6
  refine stw (o_alloc rfl [(.slice none 0 0)] zero85 ?_); intro b8
  refine c_nil ?_
  refine l_then ?_
  refine c_seq ?_
  refine c_region ?_
  refine o_ldc st (v := (.agg #[(.slice a3 l4 q5)])) 1 rfl rfl rfl ty85 rfl ?_
  refine stw (o_alloc rfl [(.slice none 0 0)] zero85 ?_); intro b10
  refine stw (o_stc (cs' := [(.slice a3 l4 q5)]) 0 rfl rfl rfl ty85 rfl rfl rfl rfl ?_)
  refine c_nil ?_
  refine l_then ?_
  refine c_seq ?_
  refine c_region ?_
  refine o_fad st rfl rfl fld85_0 rfl ?_
  refine o_ldc st (v := (.slice a3 l4 q5)) 2 rfl rfl rfl ty83 rfl ?_
  refine stw (o_callP (vs := [(.slice a3 l4 q5)]) Tryd.call121 rfl rfl (by intro w m h; exact (w_spec_l1OwnRowsSpan (F := allB [] w) (list_0 := x_0.xSides) allB_ok (m.rd0 3 rfl (reads_snap hv1)) h).mono (fun _ _ k => ret_free (fun r u => (fr_cons free_dp fr_nil)) k)) ?_); rintro r12 ⟨v13, bb14⟩
  refine o_fad st rfl rfl fld85_0 rfl ?_
  refine nx_dp 0 rfl ?_; rintro a16 l17 q18 rfl
  refine stw (o_stc (cs' := [(.slice a16 l17 q18)]) 1 rfl rfl rfl ty83 rfl rfl rfl rfl ?_)
  refine c_nil ?_
  refine l_then ?_
  refine c_seq ?_
  refine c_region ?_
  refine o_ldc st (v := (.agg #[(.slice a16 l17 q18)])) 1 rfl rfl rfl ty85 rfl ?_
  refine stw (o_stc (cs' := [(.slice a16 l17 q18)]) 2 rfl rfl rfl ty85 rfl rfl rfl rfl ?_)
  refine c_nil ?_
  refine l_then ?_
  refine c_ret ?_
  exact l_end1 Tryd.results103 (GBox.mk r12) ((.slice a16 l17 q18), bb14) (rv_c 2 rfl rfl ty85 rfl) (fun w m => NewCh.ofB m [0] rfl)

set_option maxRecDepth 100000 in
set_option maxHeartbeats 8000000 in
theorem w_spec_l1OwnFlat {w0 : World} {F : Nat → Prop} {v1 : Value} {x_0 : GFlat} {κ : GFlat → Prop} (hF : ∀ b, F b → b < w0.heap.size ∧ ¬ feet [] b) (hv1 : Sl (elSl elGSpan) F w0 v1 x_0.xWhere.xSides) (h : L_spec_l1OwnFlat x_0 κ) :
    Calls Tryd.prog 77 #[(.agg #[v1, (.bool x_0.xAccept)])] w0 (Ret [] F w0 κ (fun (r : GFlat) (u : Value × List Nat) => (.agg #[u.1, (.bool r.xAccept)])) (fun (r : GFlat) (u : Value × List Nat) => [dpCh (dSl dGSpan 71) 72 u.2 u.1 r.xWhere.xSides])) := by
  refine enterS (args := [(.agg #[v1, (.bool x_0.xAccept)])]) [] hF (Given.nil _ _) Tryd.func77 rfl Tryd.ntmps77 rfl h ?_
  clear h hF
  refine c_seq ?_
  refine c_region ?_
  obtain ⟨a3, l4, q5, hs_⟩ := sl_val hv1; subst hs_
  refine stw (o_box rfl rfl [(.slice a3 l4 q5), (.bool x_0.xAccept)] rfl ?_); intro b6
  refine stw (o_alloc rfl [(.slice none 0 0), (.bool false)] zero87 ?_); intro b8
  refine c_nil ?_
  refine l_then ?_
  refine c_seq ?_
  refine c_region ?_
  refine o_ldc st (v := (.agg #[(.slice a3 l4 q5), (.bool x_0.xAccept)])) 1 rfl rfl rfl ty87 rfl ?_
  refine stw (o_alloc rfl [(.slice none 0 0), (.bool false)] zero87 ?_); intro b10
  refine stw (o_stc (cs' := [(.slice a3 l4 q5), (.bool x_0.xAccept)]) 0 rfl rfl rfl ty87 rfl rfl rfl rfl ?_)
  refine c_nil ?_
  refine l_then ?_
  refine c_seq ?_
  refine c_region ?_
  refine o_fad st rfl rfl fld87_0 rfl ?_
  refine o_ldc st (v := (.agg #[(.slice a3 l4 q5)])) 2 rfl rfl rfl ty85 rfl ?_
  refine stw (o_callP (vs := [(.agg #[(.slice a3 l4 q5)])]) Tryd.call103 rfl rfl (by intro w m h; exact (w_spec_l1OwnBox (F := allB [] w) (x_0 := x_0.xWhere) allB_ok (m.rd0 3 rfl (reads_snap hv1)) h).mono (fun _ _ k => ret_free (fun r u => (fr_cons free_dp fr_nil)) k)) ?_); rintro r12 ⟨v13, bb14⟩
  refine o_fad st rfl rfl fld87_0 rfl ?_
  refine nx_dp 0 rfl ?_; rintro a16 l17 q18 rfl
  refine stw (o_stc (cs' := [(.slice a16 l17 q18), (.bool x_0.xAccept)]) 1 rfl rfl rfl ty85 rfl rfl rfl rfl ?_)
  refine c_nil ?_
  refine l_then ?_
  refine c_seq ?_
  refine c_region ?_
  refine o_ldc st (v := (.agg #[(.slice a16 l17 q18), (.bool x_0.xAccept)])) 1 rfl rfl rfl ty87 rfl ?_
  refine stw (o_stc (cs' := [(.slice a16 l17 q18), (.bool x_0.xAccept)]) 2 rfl rfl rfl ty87 rfl rfl rfl rfl ?_)
  refine c_nil ?_
  refine l_then ?_
  refine c_ret ?_
  exact l_end1 Tryd.results77 (GFlat.mk r12 x_0.xAccept) ((.slice a16 l17 q18), bb14) (rv_c 2 rfl rfl ty87 rfl) (fun w m => NewCh.ofB m [0] rfl)

set_option maxRecDepth 100000 in
set_option maxHeartbeats 8000000 in
theorem w_spec_l1OwnFlatList {w0 : World} {F : Nat → Prop} {v1 : Value} {list_0 : (List GFlat)} {κ : (List GFlat) → Prop} (hF : ∀ b, F b → b < w0.heap.size ∧ ¬ feet [] b) (hv1 : Sl elGFlat F w0 v1 list_0) (h : L_spec_l1OwnFlatList list_0 κ) :
    Calls Tryd.prog 41 #[v1] w0 (Ret [] F w0 κ (fun (r : (List GFlat)) (u : Value × List Nat) => u.1) (fun (r : (List GFlat)) (u : Value × List Nat) => [dpCh dGFlat 87 u.2 u.1 r])) := by
  refine enterS (args := [v1]) [] hF (Given.nil _ _) Tryd.func41 rfl Tryd.ntmps41 rfl h ?_
  clear h hF
  refine c_seq ?_
  refine c_region ?_
  refine stw (o_asd dGFlat 87 rfl rfl ?_)
  refine c_nil ?_
  refine l_then ?_
  refine c_seq ?_
  refine c_region ?_
  refine stw (o_bslD0 (E' := dGFlat) (qs := []) (by intro ρ h; simp only [List.map_toArray, List.map_cons, List.map_nil]) rfl el23 zero87 rfl rfl rfl ?_); intro bb5 v4
  refine o_as st rfl rfl ?_
  refine c_nil ?_
  refine l_then ?_
  refine c_seq ?_
  refine c_seq ?_
  refine c_region ?_
  refine o_as st rfl rfl ?_
  refine c_nil ?_
  refine l_then ?_
  refine c_block ?_
  refine c_loop (σ := ((List GFlat) × Int)) (fun ((xs8, t12) : ((List GFlat) × Int)) (a : Act) (w : World) => ∃ (v7 : Value) (bb10 : List Nat), Has 21 [(0, v1), (3, v7), (4, (.int .i64 t12))] a ∧ Mem (gB F [] w0) (feet []) w0 [snapCh w0 F, dpCh dGFlat 87 bb10 v7 xs8] w) (fun a w hE hm => ⟨v4, bb5, hE.sub ⟨rfl, rfl, rfl, trivial⟩, (hm.pick [2, 0] rfl)⟩) ?_
  rintro nx13 ⟨xs8, t12⟩ a w ⟨v7, bb10, hE, hm⟩ h
  refine nx_of hE hm h ?_
  clear hE hm h
  refine c_seq ?_
  refine c_seq ?_
  refine c_region ?_
  refine o_mv st rfl rfl ?_
  refine o_mv st rfl rfl ?_
  refine o_len st el23 0 rfl (reads_snap hv1) rfl rfl ?_
  refine o_lss st rfl rfl rfl ?_
  refine c_nil ?_
  refine l_then ?_
  refine c_cond rfl ?_ ?_
  · refine c_skip ?_
    refine l_then ?_
    refine c_seq ?_
    refine c_block ?_
    refine c_region ?_
    refine o_mv st rfl rfl ?_
    refine o_mv st rfl rfl ?_
    refine o_mv st rfl rfl ?_
    refine o_idx st 0 rfl (reads_snap hv1) rfl rfl rfl el23 ?_; intro e14 h15
    obtain ⟨_, ⟨v17, rfl, sl18⟩, rw16⟩ := sl_open hv1 h15
    refine o_ldR st (u := (.agg #[v17, (.bool e14.xAccept)])) 0 rfl rw16 rfl rfl ty87 rfl ?_
    refine stw (o_callP (vs := [(.agg #[v17, (.bool e14.xAccept)])]) Tryd.call77 rfl rfl (by intro w m h; exact (w_spec_l1OwnFlat (F := allB [] w) (x_0 := e14) allB_ok (m.rd0 0 rfl (reads_snap sl18)) h).mono (fun _ _ k => ret_free (fun r u => (fr_cons free_dp fr_nil)) k)) ?_); rintro r20 ⟨v21, bb22⟩
    refine nx_dp 0 rfl ?_; rintro a24 l25 q26 rfl
    refine stw (o_bslD (M := [dpCh (dSl dGSpan 71) 72 bb22 (.slice a24 l25 q26) r20.xWhere.xSides]) (E' := dGFlat) (qs := [(0, (.agg #[(.slice a24 l25 q26), (.bool r20.xAccept)]))]) (cs := [(.slice a24 l25 q26), (.bool r20.xAccept)]) r20 (absorb_one gives_dp (fun B w h => ⟨_, rfl, h⟩)) (by intro ρ h; simp only [List.map_toArray, List.map_cons, List.map_nil, h (.tmp 17) _ rfl]) rfl el23 zero87 rfl rfl rfl rfl ?_); intro bb28 v27
    refine pk [2, 0, 1] rfl ?_
    refine stw (o_appD rfl rfl rfl el23 rfl zero87 rfl rfl ?_); intro bb31 v30
    refine o_as st rfl rfl ?_
    refine c_nil ?_
    refine b_norm ?_
    refine l_then ?_
    refine c_region ?_
    refine o_mv st rfl rfl ?_
    refine o_add st rfl rfl rfl ?_; intro t33
    refine o_as st rfl rfl ?_
    refine c_nil ?_
    exact l_join ((xs8 ++ ([r20])), t33) (fun a w hE hm => ⟨v30, bb31, hE.sub ⟨rfl, rfl, rfl, trivial⟩, (hm.pick [1, 0] rfl)⟩)
  · refine c_exit ?_
    refine l_exit ?_
    refine l_exit ?_
    refine b_exit ?_
    refine l_then ?_
    refine c_seq ?_
    refine c_region ?_
    refine o_mv st rfl rfl ?_
    refine o_as st rfl rfl ?_
    refine c_nil ?_
    refine l_then ?_
    refine c_ret ?_
    exact l_end1 Tryd.results41 xs8 (v7, bb10) (rv_t rfl) (fun w m => NewCh.ofB m [1] rfl)

set_option maxRecDepth 100000 in
set_option maxHeartbeats 8000000 in
theorem w_spec_l10Empty {w0 : World} {F : Nat → Prop} {v1 : Value} {b_0 : GBox} {κ : Bool → Prop} (hF : ∀ b, F b → b < w0.heap.size ∧ ¬ feet [] b) (hv1 : Sl (elSl elGSpan) F w0 v1 b_0.xSides) (h : L_spec_l10Empty b_0 κ) :
    Calls Tryd.prog 78 #[(.agg #[v1])] w0 (Ret [] F w0 κ (fun (r : Bool) (u : Unit) => (.bool r)) (fun (r : Bool) (u : Unit) => [])) := by
  refine enterS (args := [(.agg #[v1])]) [] hF (Given.nil _ _) Tryd.func78 rfl Tryd.ntmps78 rfl h ?_
  clear h hF
  refine c_seq ?_
  refine c_region ?_
  obtain ⟨a3, l4, q5, hs_⟩ := sl_val hv1; subst hs_
  refine stw (o_box rfl rfl [(.slice a3 l4 q5)] rfl ?_); intro b6
  refine o_as st rfl rfl ?_
  refine c_nil ?_
  refine l_then ?_
  refine c_seq ?_
  refine c_seq ?_
  refine c_region ?_
  refine o_as st rfl rfl ?_
  refine c_nil ?_
  refine l_then ?_
  refine c_block ?_
  refine c_loop (σ := Int) (fun (t8 : Int) (a : Act) (w : World) => Has 18 [(1, (.pointer (some ⟨b6, 0, none⟩))), (3, (.int .i64 t8))] a ∧ Mem (gB F [] w0) (feet []) w0 [cellCh b6 [(.slice a3 l4 q5)] 85, snapCh w0 F] w) (fun a w hE hm => ⟨hE.sub ⟨rfl, rfl, trivial⟩, (hm.pick [0, 1] rfl)⟩) ?_
  rintro nx9 t8 a w ⟨hE, hm⟩ h
  refine nx_of hE hm h ?_
  clear hE hm h
  refine c_seq ?_
  refine c_seq ?_
  refine c_region ?_
  refine o_mv st rfl rfl ?_
  refine o_fad st rfl rfl fld85_0 rfl ?_
  refine o_ldc st (v := (.slice a3 l4 q5)) 0 rfl rfl rfl ty83 rfl ?_
  refine o_len st el83 1 rfl (reads_snap hv1) rfl rfl ?_
  refine o_lss st rfl rfl rfl ?_
  refine c_nil ?_
  refine l_then ?_
  refine c_cond rfl ?_ ?_
  · refine c_skip ?_
    refine l_then ?_
    refine c_seq ?_
    refine c_block ?_
    refine c_seq ?_
    refine c_region ?_
    refine o_fad st rfl rfl fld85_0 rfl ?_
    refine o_ldc st (v := (.slice a3 l4 q5)) 0 rfl rfl rfl ty83 rfl ?_
    refine o_mv st rfl rfl ?_
    refine o_idx st 1 rfl (reads_snap hv1) rfl rfl rfl el83 ?_; intro e10 h11
    obtain ⟨_, ⟨v13, rfl, sl14⟩, rw12⟩ := sl_open hv1 h11
    refine o_ldR st (u := v13) 1 rfl rw12 rfl rfl ty72 rfl ?_
    refine o_len st el72 1 rfl (reads_snap sl14) rfl rfl ?_
    refine o_eql st und3 rfl rfl rfl ?_
    refine c_nil ?_
    refine l_then ?_
    refine c_cond rfl ?_ ?_
    · refine c_seq ?_
      refine c_region ?_
      refine o_as st rfl rfl ?_
      refine c_nil ?_
      refine l_then ?_
      refine c_ret ?_
      refine b_ret ?_
      refine l_ret ?_
      refine l_ret ?_
      refine b_ret ?_
      refine l_ret ?_
      exact l_end1 Tryd.results78 true () (rv_t rfl) (fun _ _ => NewCh.nil _ _ _ _)
    · refine c_skip ?_
      refine b_norm ?_
      refine l_then ?_
      refine c_region ?_
      refine o_mv st rfl rfl ?_
      refine o_add st rfl rfl rfl ?_; intro t16
      refine o_as st rfl rfl ?_
      refine c_nil ?_
      exact l_join t16 (fun a w hE hm => ⟨hE.sub ⟨rfl, rfl, trivial⟩, (hm.pick [0, 1] rfl)⟩)
  · refine c_exit ?_
    refine l_exit ?_
    refine l_exit ?_
    refine b_exit ?_
    refine l_then ?_
    refine c_seq ?_
    refine c_region ?_
    refine o_as st rfl rfl ?_
    refine c_nil ?_
    refine l_then ?_
    refine c_ret ?_
    exact l_end1 Tryd.results78 false () (rv_t rfl) (fun _ _ => NewCh.nil _ _ _ _)

set_option maxRecDepth 100000 in
set_option maxHeartbeats 8000000 in
theorem w_spec_BoxTests {w0 : World} {F : Nat → Prop} {v1 : Value} {b_0 : GBox} {κ : ((List GTest) × Bool) → Prop} (hF : ∀ b, F b → b < w0.heap.size ∧ ¬ feet [] b) (hv1 : Sl (elSl elGSpan) F w0 v1 b_0.xSides) (h : L_spec_BoxTests b_0 κ) :
    Calls Tryd.prog 42 #[(.agg #[v1])] w0 (Ret [] F w0 κ (fun (r : ((List GTest) × Bool)) (u : Value) => .tuple #[u, (.bool r.2)]) (fun (r : ((List GTest) × Bool)) (u : Value) => [ownCh elGTest 125 u r.1])) := by
  refine enterS (args := [(.agg #[v1])]) [] hF (Given.nil _ _) Tryd.func42 rfl Tryd.ntmps42 rfl h ?_
  clear h hF
  refine c_seq ?_
  refine c_region ?_
  obtain ⟨a3, l4, q5, hs_⟩ := sl_val hv1; subst hs_
  refine stw (o_box rfl rfl [(.slice a3 l4 q5)] rfl ?_); intro b6
  refine stw (o_asn elGTest 125 rfl rfl ?_)
  refine o_as st rfl rfl ?_
  refine c_nil ?_
  refine l_then ?_
  refine c_seq ?_
  refine c_region ?_
  refine stw (o_bsl (enc := encGTest) (qs := []) (cells := []) ([] : (List GTest)) flelGTest (by intro ρ h; simp only [List.map_toArray, List.map_cons, List.map_nil]) rfl el80 zero125 rfl rfl rfl rfl rfl rfl ?_); intro v9
  refine o_as st rfl rfl ?_
  refine c_nil ?_
  refine l_then ?_
  refine c_seq ?_
  refine c_join (σ := Bool) (fun (t73 : Bool) (a : Act) (w : World) => Has 93 [(1, (.pointer (some ⟨b6, 0, none⟩))), (4, v9), (15, (.bool t73))] a ∧ Mem (gB F [] w0) (feet []) w0 [ownCh elGTest 125 v9 ([]), cellCh b6 [(.slice a3 l4 q5)] 85, snapCh w0 F] w) ?_ ?_
  · intro k74
    refine c_region ?_
    refine o_ldc st (v := (.agg #[(.slice a3 l4 q5)])) 2 rfl rfl rfl ty85 rfl ?_
    refine stw (o_callP (vs := [(.agg #[(.slice a3 l4 q5)])]) Tryd.call73 rfl rfl (by intro w m h; exact (w_spec_BoxValid (F := allB [] w) (b_0 := b_0) allB_ok (m.rd0 3 rfl (reads_snap hv1)) h).mono (fun _ _ k => ret_free (fun r u => fr_nil) k)) ?_); rintro r11 _
    refine o_not st rfl rfl ?_
    refine o_mv st rfl rfl ?_
    refine st_sp (dj := 12) rfl ?_ ?_
    · refine st_s rfl rfl rfl rfl ?_
      refine st_s rfl rfl rfl rfl ?_
      refine o_pickT st rfl rfl rfl ?_
      refine c_nil ?_
      exact l_join true (fun a w hE hm => ⟨hE.sub ⟨rfl, rfl, rfl, trivial⟩, (hm.pick [0, 2, 3] rfl)⟩)
    · refine o_ldc (st_g rfl rfl) (v := (.agg #[(.slice a3 l4 q5)])) 2 rfl rfl rfl ty85 rfl ?_
      refine st_gw rfl rfl (o_callP (vs := [(.agg #[(.slice a3 l4 q5)])]) Tryd.call78 rfl rfl (by intro w m h; exact (w_spec_l10Empty (F := allB [] w) (b_0 := b_0) allB_ok (m.rd0 3 rfl (reads_snap hv1)) h).mono (fun _ _ k => ret_free (fun r u => fr_nil) k)) ?_); rintro r12 _
      refine o_pickF st rfl rfl rfl ?_
      refine c_nil ?_
      exact l_join r12 (fun a w hE hm => ⟨hE.sub ⟨rfl, rfl, rfl, trivial⟩, (hm.pick [0, 2, 3] rfl)⟩)
  · rintro t73 a w ⟨hE, hm⟩ h
    refine nx_of hE hm h ?_
    clear hE hm h
    refine c_cond rfl ?_ ?_
    · refine c_seq ?_
      refine c_region ?_
      refine o_mv st rfl rfl ?_
      refine o_as st rfl rfl ?_
      refine o_as st rfl rfl ?_
      refine c_nil ?_
      refine l_then ?_
      refine c_ret ?_
      refine l_ret ?_
      exact l_end2 Tryd.results42 ([], false) v9 (rv_t rfl) (rv_t rfl) rfl (fun w m => NewCh.ofB m [0] rfl)
    · refine c_skip ?_
      refine l_then ?_
      refine c_seq ?_
      refine c_seq ?_
      refine c_region ?_
      refine o_as st rfl rfl ?_
      refine c_nil ?_
      refine l_then ?_
      refine c_block ?_
      refine c_loop (σ := ((List GTest) × Int)) (fun ((xs76, t79) : ((List GTest) × Int)) (a : Act) (w : World) => ∃ (v75 : Value), Has 93 [(1, (.pointer (some ⟨b6, 0, none⟩))), (4, v75), (5, (.int .i64 t79))] a ∧ Mem (gB F [] w0) (feet []) w0 [cellCh b6 [(.slice a3 l4 q5)] 85, snapCh w0 F, ownCh elGTest 125 v75 xs76] w) (fun a w hE hm => ⟨v9, hE.sub ⟨rfl, rfl, rfl, trivial⟩, (hm.pick [1, 2, 0] rfl)⟩) ?_
      rintro nx80 ⟨xs76, t79⟩ a w ⟨v75, hE, hm⟩ h
      refine nx_of hE hm h ?_
      clear hE hm h
      refine c_seq ?_
      refine c_seq ?_
      refine c_region ?_
      refine o_mv st rfl rfl ?_
      refine o_lss st rfl rfl rfl ?_
      refine c_nil ?_
      refine l_then ?_
      refine c_cond rfl ?_ ?_
      · refine c_skip ?_
        refine l_then ?_
        refine c_join (σ := (List GTest)) (fun (xs298 : (List GTest)) (a : Act) (w : World) => ∃ (v299 : Value), Has 93 [(1, (.pointer (some ⟨b6, 0, none⟩))), (4, v299), (5, (.int .i64 t79))] a ∧ Mem (gB F [] w0) (feet []) w0 [cellCh b6 [(.slice a3 l4 q5)] 85, ownCh elGTest 125 v299 xs298, snapCh w0 F] w) ?_ ?_
        · intro k301
          refine c_block ?_
          refine c_seq ?_
          refine c_region ?_
          refine o_fad st rfl rfl fld85_0 rfl ?_
          refine o_ldc st (v := (.slice a3 l4 q5)) 0 rfl rfl rfl ty83 rfl ?_
          refine o_mv st rfl rfl ?_
          refine o_idx st 1 rfl (reads_snap hv1) rfl rfl rfl el83 ?_; intro e81 h82
          obtain ⟨_, ⟨v84, rfl, sl85⟩, rw83⟩ := sl_open hv1 h82
          refine o_ldR st (u := v84) 1 rfl rw83 rfl rfl ty72 rfl ?_
          refine o_as st rfl rfl ?_
          refine c_nil ?_
          refine l_then ?_
          refine c_seq ?_
          refine c_region ?_
          refine o_mv st rfl rfl ?_
          refine stw (o_callP (vs := [(.int .i64 t79)]) Tryd.call63 rfl rfl (by intro w m h; exact (w_spec_FieldTop (F := allB [] w) (n_0 := t79) allB_ok h).mono (fun _ _ k => ret_free (fun r u => fr_nil) k)) ?_); rintro r87 _
          refine o_as st rfl rfl ?_
          refine c_nil ?_
          refine l_then ?_
          refine c_block ?_
          refine c_join (σ := Bool) (fun (t150 : Bool) (a : Act) (w : World) => Has 93 [(1, (.pointer (some ⟨b6, 0, none⟩))), (4, v75), (5, (.int .i64 t79)), (6, v84), (7, (.int .i64 r87)), (29, (.bool t150))] a ∧ Mem (gB F [] w0) (feet []) w0 [cellCh b6 [(.slice a3 l4 q5)] 85, ownCh elGTest 125 v75 xs76, snapCh w0 F] w) ?_ ?_
          · intro k151
            refine c_region ?_
            refine o_mv st rfl rfl ?_
            refine o_len st el72 1 rfl (reads_snap sl85) rfl rfl ?_
            refine o_eql st und3 rfl rfl rfl ?_
            refine o_mv st rfl rfl ?_
            refine st_sp (dj := 33) rfl ?_ ?_
            · refine o_mv (st_g rfl rfl) rfl rfl ?_
              refine o_idx (st_g rfl rfl) 1 rfl (reads_snap sl85) rfl rfl rfl el72 ?_; intro e88 h89
              refine o_lds (st_g rfl rfl) (enc := encGSpan) (u := (.agg #[(.int .i64 e88.xLo), (.int .i64 e88.xHi)])) 1 rfl (reads_snap sl85) flelGSpan rfl h89 rfl rfl ty71 rfl ?_
              refine o_mv (st_g rfl rfl) rfl rfl ?_
              refine o_bld (st_g rfl rfl) (qs := [(0, (.int .i64 0)), (1, (.int .i64 r87))]) (cells := [(.int .i64 0), (.int .i64 r87)]) (by intro ρ h; simp only [List.map_toArray, List.map_cons, List.map_nil, h (.const (.int .i64 0)) _ rfl, h (.tmp 37) _ rfl]) rfl bld71 rfl ?_
              refine o_bin (st_g rfl rfl) (.bool (decide (e88 = (GSpan.mk 0 r87)))) rfl rfl rfl (eqls71 _ _ e88.xLo e88.xHi 0 r87) ?_
              refine o_pickT st rfl rfl rfl ?_
              refine o_as st rfl rfl ?_
              refine c_nil ?_
              exact l_join (decide (e88 = (GSpan.mk 0 r87))) (fun a w hE hm => ⟨hE.sub ⟨rfl, rfl, rfl, rfl, rfl, rfl, trivial⟩, (hm.pick [0, 2, 1] rfl)⟩)
            · refine st_s rfl rfl rfl rfl ?_
              refine st_s rfl rfl rfl rfl ?_
              refine st_s rfl rfl rfl rfl ?_
              refine st_s rfl rfl rfl rfl ?_
              refine st_s rfl rfl rfl rfl ?_
              refine st_s rfl rfl rfl rfl ?_
              refine o_pickF st rfl rfl rfl ?_
              refine o_as st rfl rfl ?_
              refine c_nil ?_
              exact l_join false (fun a w hE hm => ⟨hE.sub ⟨rfl, rfl, rfl, rfl, rfl, rfl, trivial⟩, (hm.pick [0, 2, 1] rfl)⟩)
          · rintro t150 a w ⟨hE, hm⟩ h
            refine nx_of hE hm h ?_
            clear hE hm h
            refine c_cond rfl ?_ ?_
            · refine c_skip ?_
              refine b_norm ?_
              refine b_norm ?_
              exact l_join xs76 (fun a w hE hm => ⟨v75, hE.sub ⟨rfl, rfl, rfl, trivial⟩, (hm.pick [0, 1, 2] rfl)⟩)
            · refine c_seq ?_
              refine c_region ?_
              refine o_mv st rfl rfl ?_
              refine o_len st el72 2 rfl (reads_snap sl85) rfl rfl ?_
              refine o_eql st und3 rfl rfl rfl ?_
              refine o_as st rfl rfl ?_
              refine c_nil ?_
              refine l_then ?_
              refine c_cond rfl ?_ ?_
              · refine c_draw mixed 14 rfl [cellCh b6 [(.slice a3 l4 q5)] 85, snapCh w0 F] ?_
                refine o_mv (dt 0 (fun w m => m.pick [0, 2] rfl)) rfl rfl ?_
                refine o_mv (dt 1 (fun w m => m.pick [0, 2] rfl)) rfl rfl ?_
                refine o_mv (dt 2 (fun w m => m.pick [0, 2] rfl)) rfl rfl ?_
                refine o_idx (dt 3 (fun w m => m.pick [0, 2] rfl)) 1 rfl (reads_snap sl85) rfl rfl rfl el72 ?_; intro e152 h153
                refine o_fadS (dt 4 (fun w m => m.pick [0, 2] rfl)) 1 rfl (reads_snap sl85) h153 rfl rfl fld71_0 rfl ?_
                refine o_lds (dt 5 (fun w m => m.pick [0, 2] rfl)) (enc := encGSpan) (u := (.int .i64 e152.xLo)) 1 rfl (reads_snap sl85) flelGSpan rfl h153 rfl rfl ty3 rfl ?_
                refine o_mv (dt 6 (fun w m => m.pick [0, 2] rfl)) rfl rfl ?_
                refine o_idx (dt 7 (fun w m => m.pick [0, 2] rfl)) 1 rfl (reads_snap sl85) rfl rfl rfl el72 ?_; intro e154 h155
                refine o_fadS (dt 8 (fun w m => m.pick [0, 2] rfl)) 1 rfl (reads_snap sl85) h155 rfl rfl fld71_1 rfl ?_
                refine o_lds (dt 9 (fun w m => m.pick [0, 2] rfl)) (enc := encGSpan) (u := (.int .i64 e154.xHi)) 1 rfl (reads_snap sl85) flelGSpan rfl h155 rfl rfl ty3 rfl ?_
                refine o_bld (dt 10 (fun w m => m.pick [0, 2] rfl)) (qs := [(0, (.int .i64 t79)), (1, (.int .i64 e152.xLo)), (2, (.int .i64 e154.xHi))]) (cells := [(.int .i64 t79), (.int .i64 e152.xLo), (.int .i64 e154.xHi), (.bool false)]) (by intro ρ h; simp only [List.map_toArray, List.map_cons, List.map_nil, h (.tmp 46) _ rfl, h (.tmp 50) _ rfl, h (.tmp 54) _ rfl]) rfl bld125 rfl ?_
                refine d_one (i := 11) rfl (by kernel_rfl) (o_bsl (enc := encGTest) (qs := [(0, (.agg #[(.int .i64 t79), (.int .i64 e152.xLo), (.int .i64 e154.xHi), (.bool false)]))]) (cells := [(.int .i64 t79), (.int .i64 e152.xLo), (.int .i64 e154.xHi), (.bool false)]) ([(GTest.mk t79 e152.xLo e154.xHi false)]) flelGTest (by intro ρ h; simp only [List.map_toArray, List.map_cons, List.map_nil, h (.tmp 55) _ rfl]) rfl el80 zero125 rfl rfl rfl rfl rfl rfl ?_); intro v156
                refine d_and (fun w m => m.pick [1, 3] rfl) ?_
                refine d_one (i := 12) rfl (by kernel_rfl) (o_app 2 0 rfl rfl (src_flat flelGTest reads_own) rfl rfl rfl el80 rfl zero125 rfl rfl ?_); intro v158
                refine d_and (fun w m => m.pick [1, 3] rfl) ?_
                refine o_as (dt 13 (fun w m => m.pick [1, 3] rfl)) rfl rfl ?_
                refine d_done (by kernel_rfl) ?_
                refine b_norm ?_
                refine b_norm ?_
                exact l_join (xs76 ++ ([(GTest.mk t79 e152.xLo e154.xHi false)])) (fun a w hE hm => ⟨v158, hE.sub ⟨rfl, rfl, rfl, trivial⟩, (hm.pick [1, 2, 3] rfl)⟩)
              · refine c_join (σ := Bool) (fun (t224 : Bool) (a : Act) (w : World) => Has 93 [(1, (.pointer (some ⟨b6, 0, none⟩))), (4, v75), (5, (.int .i64 t79)), (6, v84), (58, (.bool t224))] a ∧ Mem (gB F [] w0) (feet []) w0 [cellCh b6 [(.slice a3 l4 q5)] 85, ownCh elGTest 125 v75 xs76, snapCh w0 F] w) ?_ ?_
                · intro k225
                  refine c_region ?_
                  refine o_mv st rfl rfl ?_
                  refine o_len st el72 2 rfl (reads_snap sl85) rfl rfl ?_
                  refine o_eql st und3 rfl rfl rfl ?_
                  refine o_mv st rfl rfl ?_
                  refine st_sp (dj := 62) rfl ?_ ?_
                  · refine o_mv (st_g rfl rfl) rfl rfl ?_
                    refine o_idx (st_g rfl rfl) 2 rfl (reads_snap sl85) rfl rfl rfl el72 ?_; intro e160 h161
                    refine o_fadS (st_g rfl rfl) 2 rfl (reads_snap sl85) h161 rfl rfl fld71_0 rfl ?_
                    refine o_lds (st_g rfl rfl) (enc := encGSpan) (u := (.int .i64 e160.xLo)) 2 rfl (reads_snap sl85) flelGSpan rfl h161 rfl rfl ty3 rfl ?_
                    refine o_eql (st_g rfl rfl) und3 rfl rfl rfl ?_
                    refine o_pickT st rfl rfl rfl ?_
                    refine o_mv st rfl rfl ?_
                    refine st_sp (dj := 69) rfl ?_ ?_
                    · refine o_mv (st_g rfl rfl) rfl rfl ?_
                      refine o_idx (st_g rfl rfl) 2 rfl (reads_snap sl85) rfl rfl rfl el72 ?_; intro e162 h163
                      refine o_fadS (st_g rfl rfl) 2 rfl (reads_snap sl85) h163 rfl rfl fld71_1 rfl ?_
                      refine o_lds (st_g rfl rfl) (enc := encGSpan) (u := (.int .i64 e162.xHi)) 2 rfl (reads_snap sl85) flelGSpan rfl h163 rfl rfl ty3 rfl ?_
                      refine o_mv (st_g rfl rfl) rfl rfl ?_
                      refine o_eql (st_g rfl rfl) und3 rfl rfl rfl ?_
                      refine o_pickT st rfl rfl rfl ?_
                      refine o_as st rfl rfl ?_
                      refine c_nil ?_
                      exact l_join (decide (e162.xHi = r87)) (fun a w hE hm => ⟨hE.sub ⟨rfl, rfl, rfl, rfl, rfl, trivial⟩, (hm.pick [0, 1, 2] rfl)⟩)
                    · refine st_s rfl rfl rfl rfl ?_
                      refine st_s rfl rfl rfl rfl ?_
                      refine st_s rfl rfl rfl rfl ?_
                      refine st_s rfl rfl rfl rfl ?_
                      refine st_s rfl rfl rfl rfl ?_
                      refine st_s rfl rfl rfl rfl ?_
                      refine o_pickF st rfl rfl rfl ?_
                      refine o_as st rfl rfl ?_
                      refine c_nil ?_
                      exact l_join false (fun a w hE hm => ⟨hE.sub ⟨rfl, rfl, rfl, rfl, rfl, trivial⟩, (hm.pick [0, 1, 2] rfl)⟩)
                  · refine st_s rfl rfl rfl rfl ?_
                    refine st_s rfl rfl rfl rfl ?_
                    refine st_s rfl rfl rfl rfl ?_
                    refine st_s rfl rfl rfl rfl ?_
                    refine st_s rfl rfl rfl rfl ?_
                    refine o_pickF st rfl rfl rfl ?_
                    refine o_mv st rfl rfl ?_
                    refine st_s rfl rfl rfl rfl ?_
                    refine st_s rfl rfl rfl rfl ?_
                    refine st_s rfl rfl rfl rfl ?_
                    refine st_s rfl rfl rfl rfl ?_
                    refine st_s rfl rfl rfl rfl ?_
                    refine st_s rfl rfl rfl rfl ?_
                    refine o_pickF st rfl rfl rfl ?_
                    refine o_as st rfl rfl ?_
                    refine c_nil ?_
                    exact l_join false (fun a w hE hm => ⟨hE.sub ⟨rfl, rfl, rfl, rfl, rfl, trivial⟩, (hm.pick [0, 1, 2] rfl)⟩)
                · rintro t224 a w ⟨hE, hm⟩ h
                  refine nx_of hE hm h ?_
                  clear hE hm h
                  refine c_cond rfl ?_ ?_
                  · refine c_draw mixed 16 rfl [cellCh b6 [(.slice a3 l4 q5)] 85, snapCh w0 F] ?_
                    refine o_mv (dt 0 (fun w m => m.pick [0, 2] rfl)) rfl rfl ?_
                    refine o_mv (dt 1 (fun w m => m.pick [0, 2] rfl)) rfl rfl ?_
                    refine o_mv (dt 2 (fun w m => m.pick [0, 2] rfl)) rfl rfl ?_
                    refine o_idx (dt 3 (fun w m => m.pick [0, 2] rfl)) 1 rfl (reads_snap sl85) rfl rfl rfl el72 ?_; intro e226 h227
                    refine o_fadS (dt 4 (fun w m => m.pick [0, 2] rfl)) 1 rfl (reads_snap sl85) h227 rfl rfl fld71_1 rfl ?_
                    refine o_lds (dt 5 (fun w m => m.pick [0, 2] rfl)) (enc := encGSpan) (u := (.int .i64 e226.xHi)) 1 rfl (reads_snap sl85) flelGSpan rfl h227 rfl rfl ty3 rfl ?_
                    refine o_add (dt 6 (fun w m => m.pick [0, 2] rfl)) rfl rfl rfl ?_; intro t228
                    refine o_mv (dt 7 (fun w m => m.pick [0, 2] rfl)) rfl rfl ?_
                    refine o_idx (dt 8 (fun w m => m.pick [0, 2] rfl)) 1 rfl (reads_snap sl85) rfl rfl rfl el72 ?_; intro e229 h230
                    refine o_fadS (dt 9 (fun w m => m.pick [0, 2] rfl)) 1 rfl (reads_snap sl85) h230 rfl rfl fld71_0 rfl ?_
                    refine o_lds (dt 10 (fun w m => m.pick [0, 2] rfl)) (enc := encGSpan) (u := (.int .i64 e229.xLo)) 1 rfl (reads_snap sl85) flelGSpan rfl h230 rfl rfl ty3 rfl ?_
                    refine o_sub (dt 11 (fun w m => m.pick [0, 2] rfl)) rfl rfl rfl ?_; intro t231
                    refine o_bld (dt 12 (fun w m => m.pick [0, 2] rfl)) (qs := [(0, (.int .i64 t79)), (1, (.int .i64 t228)), (2, (.int .i64 t231)), (3, (.bool true))]) (cells := [(.int .i64 t79), (.int .i64 t228), (.int .i64 t231), (.bool true)]) (by intro ρ h; simp only [List.map_toArray, List.map_cons, List.map_nil, h (.tmp 78) _ rfl, h (.tmp 83) _ rfl, h (.tmp 88) _ rfl, h (.const (.bool true)) _ rfl]) rfl bld125 rfl ?_
                    refine d_one (i := 13) rfl (by kernel_rfl) (o_bsl (enc := encGTest) (qs := [(0, (.agg #[(.int .i64 t79), (.int .i64 t228), (.int .i64 t231), (.bool true)]))]) (cells := [(.int .i64 t79), (.int .i64 t228), (.int .i64 t231), (.bool true)]) ([(GTest.mk t79 t228 t231 true)]) flelGTest (by intro ρ h; simp only [List.map_toArray, List.map_cons, List.map_nil, h (.tmp 89) _ rfl]) rfl el80 zero125 rfl rfl rfl rfl rfl rfl ?_); intro v232
                    refine d_and (fun w m => m.pick [1, 3] rfl) ?_
                    refine d_one (i := 14) rfl (by kernel_rfl) (o_app 2 0 rfl rfl (src_flat flelGTest reads_own) rfl rfl rfl el80 rfl zero125 rfl rfl ?_); intro v234
                    refine d_and (fun w m => m.pick [1, 3] rfl) ?_
                    refine o_as (dt 15 (fun w m => m.pick [1, 3] rfl)) rfl rfl ?_
                    refine d_done (by kernel_rfl) ?_
                    refine b_norm ?_
                    refine b_norm ?_
                    exact l_join (xs76 ++ ([(GTest.mk t79 t228 t231 true)])) (fun a w hE hm => ⟨v234, hE.sub ⟨rfl, rfl, rfl, trivial⟩, (hm.pick [1, 2, 3] rfl)⟩)
                  · refine c_seq ?_
                    refine c_region ?_
                    refine stw (o_bsl (enc := encGTest) (qs := []) (cells := []) ([] : (List GTest)) flelGTest (by intro ρ h; simp only [List.map_toArray, List.map_cons, List.map_nil]) rfl el80 zero125 rfl rfl rfl rfl rfl rfl ?_); intro v236
                    refine o_as st rfl rfl ?_
                    refine o_as st rfl rfl ?_
                    refine c_nil ?_
                    refine l_then ?_
                    refine c_ret ?_
                    refine b_ret ?_
                    refine b_ret ?_
                    refine l_ret ?_
                    refine l_ret ?_
                    refine b_ret ?_
                    refine l_ret ?_
                    exact l_end2 Tryd.results42 ([], false) v236 (rv_t rfl) (rv_t rfl) rfl (fun w m => NewCh.ofB m [0] rfl)
        · rintro xs298 a w ⟨v299, hE, hm⟩ h
          refine nx_of hE hm h ?_
          clear hE hm h
          refine c_region ?_
          refine o_mv st rfl rfl ?_
          refine o_add st rfl rfl rfl ?_; intro t302
          refine o_as st rfl rfl ?_
          refine c_nil ?_
          exact l_join (xs298, t302) (fun a w hE hm => ⟨v299, hE.sub ⟨rfl, rfl, rfl, trivial⟩, (hm.pick [0, 2, 1] rfl)⟩)
      · refine c_exit ?_
        refine l_exit ?_
        refine l_exit ?_
        refine b_exit ?_
        refine l_then ?_
        refine c_seq ?_
        refine c_region ?_
        refine o_mv st rfl rfl ?_
        refine o_as st rfl rfl ?_
        refine o_as st rfl rfl ?_
        refine c_nil ?_
        refine l_then ?_
        refine c_ret ?_
        exact l_end2 Tryd.results42 (xs76, true) v75 (rv_t rfl) (rv_t rfl) rfl (fun w m => NewCh.ofB m [2] rfl)

set_option maxRecDepth 100000 in
set_option maxHeartbeats 8000000 in
theorem w_spec_FlatRuleset {w0 : World} {F : Nat → Prop} {v1 : Value} {list_0 : (List GFlat)} {rest_1 : Bool} {κ : (GRuleset × Bool) → Prop} (hF : ∀ b, F b → b < w0.heap.size ∧ ¬ feet [] b) (hv1 : Sl elGFlat F w0 v1 list_0) (h : L_spec_FlatRuleset list_0 rest_1 κ) :
    Calls Tryd.prog 13 #[v1, (.bool rest_1)] w0 (Ret [] F w0 κ (fun (r : (GRuleset × Bool)) (u : Value × List Nat) => .tuple #[(.agg #[u.1, (.bool r.1.xAccept)]), (.bool r.2)]) (fun (r : (GRuleset × Bool)) (u : Value × List Nat) => [dpCh (dSl dGRule 89) 54 u.2 u.1 r.1.xChains])) := by
  refine enterS (args := [v1, (.bool rest_1)]) [] hF (Given.nil _ _) Tryd.func13 rfl Tryd.ntmps13 rfl h ?_
  clear h hF
  refine c_seq ?_
  refine c_region ?_
  refine stw (o_alloc rfl [(.slice none 0 0), (.bool false)] zero36 ?_); intro b3
  refine o_as st rfl rfl ?_
  refine c_nil ?_
  refine l_then ?_
  refine c_seq ?_
  refine c_region ?_
  refine o_mv st rfl rfl ?_
  refine stw (o_callP (vs := [v1]) Tryd.call41 rfl rfl (by intro w m h; exact (w_spec_l1OwnFlatList (F := allB [] w) (list_0 := list_0) allB_ok (m.rd0 1 rfl (reads_snap hv1)) h).mono (fun _ _ k => ret_free (fun r u => (fr_cons free_dp fr_nil)) k)) ?_); rintro r5 ⟨v6, bb7⟩
  refine o_as st rfl rfl ?_
  refine c_nil ?_
  refine l_then ?_
  refine c_seq ?_
  refine c_join (σ := Bool) (fun (t70 : Bool) (a : Act) (w : World) => Has 57 [(0, v6), (1, (.bool rest_1)), (4, (.pointer (some ⟨b3, 0, none⟩))), (20, (.bool t70))] a ∧ Mem (gB F [] w0) (feet []) w0 [dpCh dGFlat 87 bb7 v6 r5, cellCh b3 [(.slice none 0 0), (.bool false)] 36] w) ?_ ?_
  · intro k71
    refine c_region ?_
    refine o_mv st rfl rfl ?_
    refine stw (o_callP (vs := [v6]) Tryd.call36 rfl rfl (by intro w m h; exact (w_spec_FlatsValid (F := allB [] w) (list_0 := r5) allB_ok (m.rd0 0 rfl reads_dp) h).mono (fun _ _ k => ret_free (fun r u => fr_nil) k)) ?_); rintro r9 _
    refine o_not st rfl rfl ?_
    refine o_mv st rfl rfl ?_
    refine st_sp (dj := 16) rfl ?_ ?_
    · refine st_s rfl rfl rfl rfl ?_
      refine st_s rfl rfl rfl rfl ?_
      refine st_s rfl rfl rfl rfl ?_
      refine o_pickT st rfl rfl rfl ?_
      refine c_nil ?_
      exact l_join true (fun a w hE hm => ⟨hE.sub ⟨rfl, rfl, rfl, rfl, trivial⟩, (hm.pick [0, 1] rfl)⟩)
    · refine o_mv (st_g rfl rfl) rfl rfl ?_
      refine o_len (st_g rfl rfl) el23 0 rfl reads_dp rfl rfl ?_
      refine o_gtr (st_g rfl rfl) rfl rfl rfl ?_
      refine o_pickF st rfl rfl rfl ?_
      refine c_nil ?_
      exact l_join (decide (8 < (r5.length : Int))) (fun a w hE hm => ⟨hE.sub ⟨rfl, rfl, rfl, rfl, trivial⟩, (hm.pick [0, 1] rfl)⟩)
  · rintro t70 a w ⟨hE, hm⟩ h
    refine nx_of hE hm h ?_
    clear hE hm h
    refine c_cond rfl ?_ ?_
    · refine c_seq ?_
      refine c_region ?_
      refine o_bld st (qs := []) (cells := [(.slice none 0 0), (.bool false)]) (by intro ρ h; simp only [List.map_toArray, List.map_cons, List.map_nil]) rfl bld36 rfl ?_
      refine stw (o_stc (cs' := [(.slice none 0 0), (.bool false)]) 1 rfl rfl rfl ty36 rfl rfl rfl rfl ?_)
      refine o_as st rfl rfl ?_
      refine c_nil ?_
      refine l_then ?_
      refine c_ret ?_
      refine l_ret ?_
      refine nx_dnil (dSl dGRule 89) 54 ?_
      exact l_end2 Tryd.results13 ((GRuleset.mk ([]) false), false) ((.slice none 0 0), []) (rv_c 2 rfl rfl ty36 rfl) (rv_t rfl) rfl (fun w m => NewCh.ofB m [0] rfl)
    · refine c_skip ?_
      refine l_then ?_
      refine c_seq ?_
      refine c_region ?_
      refine stw (o_bslD0 (E' := dGRule) (qs := []) (by intro ρ h; simp only [List.map_toArray, List.map_cons, List.map_nil]) rfl el54 zero89 rfl rfl rfl ?_); intro bb74 v73
      refine o_as st rfl rfl ?_
      refine c_nil ?_
      refine l_then ?_
      refine c_seq ?_
      refine c_seq ?_
      refine c_region ?_
      refine o_as st rfl rfl ?_
      refine c_nil ?_
      refine l_then ?_
      refine c_block ?_
      refine c_loop (σ := ((List GRule) × Int)) (fun ((xs77, t81) : ((List GRule) × Int)) (a : Act) (w : World) => ∃ (v76 : Value) (bb79 : List Nat), Has 57 [(0, v6), (1, (.bool rest_1)), (4, (.pointer (some ⟨b3, 0, none⟩))), (6, v76), (7, (.int .i64 t81))] a ∧ Mem (gB F [] w0) (feet []) w0 [ownCh elGFlat 87 v6 r5, cellCh b3 [(.slice none 0 0), (.bool false)] 36, dpCh dGRule 89 bb79 v76 xs77] w) (fun a w hE hm => ⟨v73, bb74, hE.sub ⟨rfl, rfl, rfl, rfl, rfl, trivial⟩, ((hm.undp 1 rfl).pick [1, 2, 0] rfl)⟩) ?_
      rintro nx82 ⟨xs77, t81⟩ a w ⟨v76, bb79, hE, hm⟩ h
      refine nx_of hE hm h ?_
      clear hE hm h
      refine c_seq ?_
      refine c_seq ?_
      refine c_region ?_
      refine o_mv st rfl rfl ?_
      refine o_mv st rfl rfl ?_
      refine o_len st el23 0 rfl reads_own rfl rfl ?_
      refine o_lss st rfl rfl rfl ?_
      refine c_nil ?_
      refine l_then ?_
      refine c_cond rfl ?_ ?_
      · refine c_skip ?_
        refine l_then ?_
        refine c_seq ?_
        refine c_block ?_
        refine c_seq ?_
        refine c_region ?_
        refine o_mv st rfl rfl ?_
        refine o_mv st rfl rfl ?_
        refine o_idx st 0 rfl reads_own rfl rfl rfl el23 ?_; intro e83 h84
        refine o_fadS st 0 rfl reads_own h84 rfl rfl fld87_0 rfl ?_
        refine stw (o_ldE 0 rfl src_own h84 rfl rfl ty85 ?_); rintro wr85 ff86 _ ⟨v88, rfl, sl89⟩; refine ⟨(.agg #[v88]), rfl, ?_⟩
        refine stw (o_callP (vs := [(.agg #[v88])]) Tryd.call42 rfl rfl (by intro w m h; exact (w_spec_BoxTests (F := allB [] w) (b_0 := e83.xWhere) allB_ok (m.rd0 0 rfl (reads_snap sl89)) h).mono (fun _ _ k => ret_free (fun r u => (fr_cons (free_own flelGTest) fr_nil)) k)) ?_); rintro ⟨r91, r94⟩ v92
        refine o_mv st rfl rfl ?_
        refine o_ext st (vs := [v92, (.bool r94)]) rfl rfl rfl ?_
        refine o_ext st (vs := [v92, (.bool r94)]) rfl rfl rfl ?_
        refine o_as st rfl rfl ?_
        refine o_as st rfl rfl ?_
        refine c_nil ?_
        refine l_then ?_
        refine c_seq ?_
        refine c_seq ?_
        refine c_region ?_
        refine o_mv st rfl rfl ?_
        refine o_not st rfl rfl ?_
        refine c_nil ?_
        refine l_then ?_
        refine c_cond rfl ?_ ?_
        · refine c_seq ?_
          refine c_region ?_
          refine o_bld st (qs := []) (cells := [(.slice none 0 0), (.bool false)]) (by intro ρ h; simp only [List.map_toArray, List.map_cons, List.map_nil]) rfl bld36 rfl ?_
          refine stw (o_stc (cs' := [(.slice none 0 0), (.bool false)]) 3 rfl rfl rfl ty36 rfl rfl rfl rfl ?_)
          refine o_as st rfl rfl ?_
          refine c_nil ?_
          refine l_then ?_
          refine c_ret ?_
          refine l_ret ?_
          refine b_ret ?_
          refine l_ret ?_
          refine l_ret ?_
          refine b_ret ?_
          refine l_ret ?_
          refine nx_dnil (dSl dGRule 89) 54 ?_
          exact l_end2 Tryd.results13 ((GRuleset.mk ([]) false), false) ((.slice none 0 0), []) (rv_c 4 rfl rfl ty36 rfl) (rv_t rfl) rfl (fun w m => NewCh.ofB m [0] rfl)
        · refine c_skip ?_
          refine l_then ?_
          refine c_seq ?_
          refine c_region ?_
          refine o_mv st rfl rfl ?_
          refine nx_own 0 rfl ?_; rintro a96 l97 q98 rfl
          refine o_bld st (qs := [(0, (.slice a96 l97 q98)), (1, (.int .i64 2))]) (cells := [(.slice a96 l97 q98), (.int .i64 2), (.int .i64 0)]) (by intro ρ h; simp only [List.map_toArray, List.map_cons, List.map_nil, h (.tmp 41) _ rfl, h (.const (.int .i64 2)) _ rfl]) rfl bld89 rfl ?_
          refine stw (o_alloc rfl [(.slice none 0 0), (.int .i64 0), (.int .i64 0)] zero89 ?_); intro b99
          refine stw (o_stc (cs' := [(.slice a96 l97 q98), (.int .i64 2), (.int .i64 0)]) 0 rfl rfl rfl ty89 rfl rfl rfl rfl ?_)
          refine c_nil ?_
          refine l_then ?_
          refine c_join (σ := Int) (fun (t163 : Int) (a : Act) (w : World) => Has 57 [(0, v6), (1, (.bool rest_1)), (4, (.pointer (some ⟨b3, 0, none⟩))), (6, v76), (7, (.int .i64 t81)), (10, (.pointer (some ⟨b99, 0, none⟩)))] a ∧ Mem (gB F [] w0) (feet []) w0 [cellCh b99 [(.slice a96 l97 q98), (.int .i64 t163), (.int .i64 0)] 89, ownCh elGTest 125 (.slice a96 l97 q98) r91, ownCh elGFlat 87 v6 r5, cellCh b3 [(.slice none 0 0), (.bool false)] 36, dpCh dGRule 89 bb79 v76 xs77] w) ?_ ?_
          · intro k164
            refine c_seq ?_
            refine c_region ?_
            refine o_mv st rfl rfl ?_
            refine o_mv st rfl rfl ?_
            refine o_idx st 3 rfl reads_own rfl rfl rfl el23 ?_; intro e101 h102
            refine o_fadS st 3 rfl reads_own h102 rfl rfl fld87_1 rfl ?_
            refine o_ldP st (u := (.bool e101.xAccept)) 3 rfl reads_own h102 rfl rfl rfl ty4 (fun F w cs h => by obtain ⟨u, rfl, _⟩ := h; rfl) ?_
            refine c_nil ?_
            refine l_then ?_
            refine c_cond rfl ?_ ?_
            · refine c_region ?_
              refine o_fad st rfl rfl fld89_1 rfl ?_
              refine stw (o_stc (cs' := [(.slice a96 l97 q98), (.int .i64 1), (.int .i64 0)]) 0 rfl rfl rfl ty3 rfl rfl rfl rfl ?_)
              refine c_nil ?_
              exact l_join 1 (fun a w hE hm => ⟨hE.sub ⟨rfl, rfl, rfl, rfl, rfl, rfl, trivial⟩, (hm.pick [0, 1, 3, 4, 5] rfl)⟩)
            · refine c_skip ?_
              exact l_join 2 (fun a w hE hm => ⟨hE.sub ⟨rfl, rfl, rfl, rfl, rfl, rfl, trivial⟩, (hm.pick [0, 1, 3, 4, 5] rfl)⟩)
          · rintro t163 a w ⟨hE, hm⟩ h
            refine nx_of hE hm h ?_
            clear hE hm h
            refine c_region ?_
            refine o_mv st rfl rfl ?_
            refine o_ldc st (v := (.agg #[(.slice a96 l97 q98), (.int .i64 t163), (.int .i64 0)])) 0 rfl rfl rfl ty89 rfl ?_
            refine pk [1, 0, 2, 3, 4] rfl ?_
            refine stw (o_bslD (M := [ownCh elGTest 125 (.slice a96 l97 q98) r91]) (E' := dGRule) (qs := [(0, (.agg #[(.slice a96 l97 q98), (.int .i64 t163), (.int .i64 0)]))]) (cs := [(.slice a96 l97 q98), (.int .i64 t163), (.int .i64 0)]) (GRule.mk r91 t163 0) (absorb_one (gives_own flelGTest) (fun B w h => ⟨_, rfl, h⟩)) (by intro ρ h; simp only [List.map_toArray, List.map_cons, List.map_nil, h (.tmp 50) _ rfl]) rfl el54 zero89 rfl rfl rfl rfl ?_); intro bb166 v165
            refine pk [4, 0, 1, 2, 3] rfl ?_
            refine stw (o_appD rfl rfl rfl el54 rfl zero89 rfl rfl ?_); intro bb169 v168
            refine o_as st rfl rfl ?_
            refine c_nil ?_
            refine b_norm ?_
            refine l_then ?_
            refine c_region ?_
            refine o_mv st rfl rfl ?_
            refine o_add st rfl rfl rfl ?_; intro t171
            refine o_as st rfl rfl ?_
            refine c_nil ?_
            exact l_join ((xs77 ++ ([(GRule.mk r91 t163 0)])), t171) (fun a w hE hm => ⟨v168, bb169, hE.sub ⟨rfl, rfl, rfl, rfl, rfl, trivial⟩, (hm.pick [2, 3, 0] rfl)⟩)
      · refine c_exit ?_
        refine l_exit ?_
        refine l_exit ?_
        refine b_exit ?_
        refine l_then ?_
        refine c_seq ?_
        refine c_region ?_
        refine o_mv st rfl rfl ?_
        refine nx_dp 2 rfl ?_; rintro a172 l173 q174 rfl
        refine pk [2, 0, 1] rfl ?_
        refine stw (o_bslD (M := [dpCh dGRule 89 bb79 (.slice a172 l173 q174) xs77]) (E' := (dSl dGRule 89)) (qs := [(0, (.slice a172 l173 q174))]) (cs := [(.slice a172 l173 q174)]) xs77 (absorb_one gives_dp (fun B w h => ⟨_, rfl, h⟩)) (by intro ρ h; simp only [List.map_toArray, List.map_cons, List.map_nil, h (.tmp 53) _ rfl]) rfl el34 zero54 rfl rfl rfl rfl ?_); intro bb176 v175
        refine o_mv st rfl rfl ?_
        refine nx_dp 0 rfl ?_; rintro a178 l179 q180 rfl
        refine o_bld st (qs := [(0, (.slice a178 l179 q180)), (1, (.bool rest_1))]) (cells := [(.slice a178 l179 q180), (.bool rest_1)]) (by intro ρ h; simp only [List.map_toArray, List.map_cons, List.map_nil, h (.tmp 54) _ rfl, h (.tmp 55) _ rfl]) rfl bld36 rfl ?_
        refine stw (o_stc (cs' := [(.slice a178 l179 q180), (.bool rest_1)]) 2 rfl rfl rfl ty36 rfl rfl rfl rfl ?_)
        refine o_as st rfl rfl ?_
        refine c_nil ?_
        refine l_then ?_
        refine c_ret ?_
        exact l_end2 Tryd.results13 ((GRuleset.mk ([xs77]) rest_1), true) ((.slice a178 l179 q180), bb176) (rv_c 2 rfl rfl ty36 rfl) (rv_t rfl) rfl (fun w m => NewCh.ofB m [0] rfl)

end
section
open Go.RowKit
set_option maxRecDepth 100000 in
set_option maxHeartbeats 8000000 in
theorem w_impl_sides_empty {w0 : World} {F : Nat → Prop} {v1 : Value} {v3 : Value} {v5 : Value} {v7 : Value} {s_0 : A4ListGSpan} {κ : Bool → Prop} (hF : ∀ b, F b → b < w0.heap.size ∧ ¬ feet [] b) (hv1 : Sl elGSpan F w0 v1 s_0.x0) (hv3 : Sl elGSpan F w0 v3 s_0.x1) (hv5 : Sl elGSpan F w0 v5 s_0.x2) (hv7 : Sl elGSpan F w0 v7 s_0.x3) (h : L_impl_sides_empty s_0 κ) :
    Calls Tryd.prog 80 #[(.agg #[v1, v3, v5, v7])] w0 (Ret [] F w0 κ (fun (r : Bool) (u : Unit) => (.bool r)) (fun (r : Bool) (u : Unit) => [])) := by
  refine enterS (args := [(.agg #[v1, v3, v5, v7])]) [] hF (Given.nil _ _) Tryd.func80 rfl Tryd.ntmps80 rfl h ?_
  clear h hF
  refine c_seq ?_
  refine c_region ?_
  obtain ⟨a9, l10, q11, hs_⟩ := sl_val hv1; subst hs_
  obtain ⟨a12, l13, q14, hs_⟩ := sl_val hv3; subst hs_
  obtain ⟨a15, l16, q17, hs_⟩ := sl_val hv5; subst hs_
  obtain ⟨a18, l19, q20, hs_⟩ := sl_val hv7; subst hs_
  refine stw (o_boxA (El' := (elSl elGSpan)) (len := 4) ([s_0.x0, s_0.x1, s_0.x2, s_0.x3]) ([[(.slice a9 l10 q11)], [(.slice a12 l13 q14)], [(.slice a15 l16 q17)], [(.slice a18 l19 q20)]]) (fun w m => ⟨⟨(.slice a9 l10 q11), rfl, (m.roS 0 rfl hv1)⟩, ⟨(.slice a12 l13 q14), rfl, (m.roS 0 rfl hv3)⟩, ⟨(.slice a15 l16 q17), rfl, (m.roS 0 rfl hv5)⟩, ⟨(.slice a18 l19 q20), rfl, (m.roS 0 rfl hv7)⟩, trivial⟩) rfl rfl rfl rfl rfl rfl ?_); intro b21
  refine o_as st rfl rfl ?_
  refine c_nil ?_
  refine l_then ?_
  refine c_seq ?_
  refine c_seq ?_
  refine c_region ?_
  refine stw (o_ldAN (len := 4) 0 rfl src_own rfl rfl rfl ty114 rfl ?_); rintro wr23 ff24 _ hrows_; obtain ⟨_, _, _, _, rfl, hc0_, hc1_, hc2_, hc3_⟩ := rows_l4 hrows_; obtain ⟨v26, rfl, sl27⟩ := hc0_; obtain ⟨v29, rfl, sl30⟩ := hc1_; obtain ⟨v32, rfl, sl33⟩ := hc2_; obtain ⟨v35, rfl, sl36⟩ := hc3_; refine ⟨[v26, v29, v32, v35], rfl, ?_⟩
  refine o_mv st rfl rfl ?_
  refine c_nil ?_
  refine l_then ?_
  refine c_block ?_
  refine c_loop (σ := Int) (fun (t38 : Int) (a : Act) (w : World) => Has 13 [(5, (.agg #[v26, v29, v32, v35])), (6, (.int .i64 t38))] a ∧ Mem (gB F [] w0) (feet []) w0 [snapCh wr23 ff24] w) (fun a w hE hm => ⟨hE.sub ⟨rfl, rfl, trivial⟩, (hm.pick [0] rfl)⟩) ?_
  rintro nx39 t38 a w ⟨hE, hm⟩ h
  refine nx_of hE hm h ?_
  clear hE hm h
  refine c_seq ?_
  refine c_region ?_
  refine o_lss st rfl rfl rfl ?_
  refine c_nil ?_
  refine l_then ?_
  refine c_seq ?_
  refine c_cond rfl ?_ ?_
  · refine c_skip ?_
    refine l_then ?_
    refine c_seq ?_
    refine c_block ?_
    refine c_seq ?_
    refine c_region ?_
    refine o_ixN st (vs := [v26, v29, v32, v35]) (xs := [s_0.x0, s_0.x1, s_0.x2, s_0.x3]) (fun w m => ⟨(m.roS 0 rfl sl27), (m.roS 0 rfl sl30), (m.roS 0 rfl sl33), (m.roS 0 rfl sl36), trivial⟩) rfl rfl rfl arr114 rfl ?_; intro v40 e41 h42
    refine o_as st rfl rfl ?_
    refine c_nil ?_
    refine l_then ?_
    refine c_seq ?_
    refine c_region ?_
    refine o_mv st rfl rfl ?_
    refine o_len st el72 0 rfl reads_ro rfl rfl ?_
    refine o_eql st und3 rfl rfl rfl ?_
    refine c_nil ?_
    refine l_then ?_
    refine c_cond rfl ?_ ?_
    · refine c_seq ?_
      refine c_region ?_
      refine o_as st rfl rfl ?_
      refine c_nil ?_
      refine l_then ?_
      refine c_ret ?_
      refine b_ret ?_
      refine l_ret ?_
      refine l_ret ?_
      refine b_ret ?_
      refine l_ret ?_
      exact l_end1 Tryd.results80 true () (rv_t rfl) (fun _ _ => NewCh.nil _ _ _ _)
    · refine c_skip ?_
      refine b_norm ?_
      refine l_then ?_
      refine c_region ?_
      refine o_add st rfl rfl rfl ?_; intro t44
      refine o_mv st rfl rfl ?_
      refine c_nil ?_
      exact l_join t44 (fun a w hE hm => ⟨hE.sub ⟨rfl, rfl, trivial⟩, (hm.pick [1] rfl)⟩)
  · refine c_exit ?_
    refine l_exit ?_
    refine l_exit ?_
    refine b_exit ?_
    refine l_then ?_
    refine c_seq ?_
    refine c_region ?_
    refine o_as st rfl rfl ?_
    refine c_nil ?_
    refine l_then ?_
    refine c_ret ?_
    exact l_end1 Tryd.results80 false () (rv_t rfl) (fun _ _ => NewCh.nil _ _ _ _)

set_option maxRecDepth 100000 in
set_option maxHeartbeats 8000000 in
theorem w_impl_BoxTests {w0 : World} {F : Nat → Prop} {v1 : Value} {b_0 : GBox} {κ : ((List GTest) × Bool) → Prop} (hF : ∀ b, F b → b < w0.heap.size ∧ ¬ feet [] b) (hv1 : Sl (elSl elGSpan) F w0 v1 b_0.xSides) (hgl0 : Sl elGFieldShape F w0 (.slice (some ⟨0, 0, none⟩) 4 4) gl_impl_fieldShapes) (h : L_impl_BoxTests b_0 κ) :
    Calls Tryd.prog 44 #[(.agg #[v1])] w0 (Ret [] F w0 κ (fun (r : ((List GTest) × Bool)) (u : Value) => .tuple #[u, (.bool r.2)]) (fun (r : ((List GTest) × Bool)) (u : Value) => [ownCh elGTest 125 u r.1])) := by
  refine enterS (args := [(.agg #[v1])]) [] hF (Given.nil _ _) Tryd.func44 rfl Tryd.ntmps44 rfl h ?_
  clear h hF
  refine c_seq ?_
  refine c_region ?_
  obtain ⟨a3, l4, q5, hs_⟩ := sl_val hv1; subst hs_
  refine stw (o_box rfl rfl [(.slice a3 l4 q5)] rfl ?_); intro b6
  refine stw (o_asn elGTest 125 rfl rfl ?_)
  refine o_as st rfl rfl ?_
  refine c_nil ?_
  refine l_then ?_
  refine c_seq ?_
  refine c_join (σ := Bool) (fun (t80 : Bool) (a : Act) (w : World) => Has 93 [(1, (.pointer (some ⟨b6, 0, none⟩))), (15, (.bool t80))] a ∧ Mem (gB F [] w0) (feet []) w0 [cellCh b6 [(.slice a3 l4 q5)] 85, snapCh w0 F] w) ?_ ?_
  · intro k81
    refine c_region ?_
    refine o_ldc st (v := (.agg #[(.slice a3 l4 q5)])) 1 rfl rfl rfl ty85 rfl ?_
    refine stw (o_callP (vs := [(.agg #[(.slice a3 l4 q5)])]) Tryd.call68 rfl rfl (by intro w m h; exact (w_impl_BoxValid (F := allB [] w) (b_0 := b_0) allB_ok (m.rd0 2 rfl (reads_snap hv1)) (m.rd0 2 rfl (reads_snap hgl0)) h).mono (fun _ _ k => ret_free (fun r u => fr_nil) k)) ?_); rintro r9 _
    refine o_not st rfl rfl ?_
    refine o_mv st rfl rfl ?_
    refine st_sp (dj := 11) rfl ?_ ?_
    · refine st_s rfl rfl rfl rfl ?_
      refine st_s rfl rfl rfl rfl ?_
      refine st_s rfl rfl rfl rfl ?_
      refine o_pickT st rfl rfl rfl ?_
      refine c_nil ?_
      exact l_join true (fun a w hE hm => ⟨hE.sub ⟨rfl, rfl, trivial⟩, (hm.pick [1, 2] rfl)⟩)
    · refine o_ldc (st_g rfl rfl) (v := (.agg #[(.slice a3 l4 q5)])) 1 rfl rfl rfl ty85 rfl ?_
      refine st_gw rfl rfl (o_callP (vs := [(.agg #[(.slice a3 l4 q5)])]) Tryd.call69 rfl rfl (by intro w m h; exact w_impl_sidesOf (b_0 := b_0) fz_ok0 (m.roS 2 rfl hv1) h) ?_); rintro r10 ⟨v11, v13, v15, v17⟩
      refine st_gw rfl rfl (o_callP (vs := [(.agg #[v11, v13, v15, v17])]) Tryd.call80 rfl rfl (by intro w m h; exact (w_impl_sides_empty (F := allB [] w) (s_0 := r10) allB_ok (m.rd0 0 rfl reads_ro) (m.rd0 1 rfl reads_ro) (m.rd0 2 rfl reads_ro) (m.rd0 3 rfl reads_ro) h).mono (fun _ _ k => ret_free (fun r u => fr_nil) k)) ?_); rintro r19 _
      refine o_pickF st rfl rfl rfl ?_
      refine c_nil ?_
      exact l_join r19 (fun a w hE hm => ⟨hE.sub ⟨rfl, rfl, trivial⟩, (hm.pick [5, 6] rfl)⟩)
  · rintro t80 a w ⟨hE, hm⟩ h
    refine nx_of hE hm h ?_
    clear hE hm h
    refine c_cond rfl ?_ ?_
    · refine c_seq ?_
      refine c_region ?_
      refine stw (o_asn elGTest 125 rfl rfl ?_)
      refine o_as st rfl rfl ?_
      refine c_nil ?_
      refine l_then ?_
      refine c_ret ?_
      refine l_ret ?_
      exact l_end2 Tryd.results44 ([], false) (.slice none 0 0) (rv_t rfl) (rv_t rfl) rfl (fun w m => NewCh.ofB m [0] rfl)
    · refine c_skip ?_
      refine l_then ?_
      refine c_seq ?_
      refine c_region ?_
      refine stw (o_asn elGTest 125 rfl rfl ?_)
      refine c_nil ?_
      refine l_then ?_
      refine c_seq ?_
      refine c_seq ?_
      refine c_region ?_
      refine o_fad st rfl rfl fld85_0 rfl ?_
      refine o_ldc st (v := (.slice a3 l4 q5)) 1 rfl rfl rfl ty83 rfl ?_
      refine o_len st el83 2 rfl (reads_snap hv1) rfl rfl ?_
      refine o_mv st rfl rfl ?_
      refine c_nil ?_
      refine l_then ?_
      refine c_block ?_
      refine c_loop (σ := ((List GTest) × Int)) (fun ((xs85, t88) : ((List GTest) × Int)) (a : Act) (w : World) => ∃ (v84 : Value), Has 93 [(4, v84), (17, (.slice a3 l4 q5)), (18, (.int .i64 (b_0.xSides.length : Int))), (19, (.int .i64 t88))] a ∧ Mem (gB F [] w0) (feet []) w0 [snapCh w0 F, ownCh elGTest 125 v84 xs85] w) (fun a w hE hm => ⟨(.slice none 0 0), hE.sub ⟨rfl, rfl, rfl, rfl, trivial⟩, (hm.pick [2, 0] rfl)⟩) ?_
      rintro nx89 ⟨xs85, t88⟩ a w ⟨v84, hE, hm⟩ h
      refine nx_of hE hm h ?_
      clear hE hm h
      refine c_seq ?_
      refine c_region ?_
      refine o_lss st rfl rfl rfl ?_
      refine c_nil ?_
      refine l_then ?_
      refine c_seq ?_
      refine c_cond rfl ?_ ?_
      · refine c_skip ?_
        refine l_then ?_
        refine c_join (σ := (List GTest)) (fun (xs307 : (List GTest)) (a : Act) (w : World) => ∃ (v308 : Value), Has 93 [(4, v308), (17, (.slice a3 l4 q5)), (18, (.int .i64 (b_0.xSides.length : Int))), (19, (.int .i64 t88))] a ∧ Mem (gB F [] w0) (feet []) w0 [ownCh elGTest 125 v308 xs307, snapCh w0 F] w) ?_ ?_
        · intro k310
          refine c_block ?_
          refine c_seq ?_
          refine c_region ?_
          refine o_mv st rfl rfl ?_
          refine o_idx st 0 rfl (reads_snap hv1) rfl rfl rfl el83 ?_; intro e90 h91
          obtain ⟨_, ⟨v93, rfl, sl94⟩, rw92⟩ := sl_open hv1 h91
          refine o_ldR st (u := v93) 0 rfl rw92 rfl rfl ty72 rfl ?_
          refine o_as st rfl rfl ?_
          refine o_as st rfl rfl ?_
          refine c_nil ?_
          refine l_then ?_
          refine c_seq ?_
          refine c_region ?_
          refine o_mv st rfl rfl ?_
          refine o_ixa st 0 rfl (reads_snap hgl0) rfl rfl rfl arr129 ?_; intro e96 h97
          refine o_fadS st 0 rfl (reads_snap hgl0) h97 rfl rfl fld128_1 rfl ?_
          refine o_lds st (enc := encGFieldShape) (u := (.int .i64 e96.xTop)) 0 rfl (reads_snap hgl0) flelGFieldShape rfl h97 rfl rfl ty3 rfl ?_
          refine o_as st rfl rfl ?_
          refine c_nil ?_
          refine l_then ?_
          refine c_block ?_
          refine c_join (σ := Bool) (fun (t160 : Bool) (a : Act) (w : World) => Has 93 [(4, v84), (17, (.slice a3 l4 q5)), (18, (.int .i64 (b_0.xSides.length : Int))), (19, (.int .i64 t88)), (5, (.int .i64 t88)), (6, v93), (7, (.int .i64 e96.xTop)), (28, (.bool t160))] a ∧ Mem (gB F [] w0) (feet []) w0 [ownCh elGTest 125 v84 xs85, snapCh w0 F] w) ?_ ?_
          · intro k161
            refine c_region ?_
            refine o_mv st rfl rfl ?_
            refine o_len st el72 0 rfl (reads_snap sl94) rfl rfl ?_
            refine o_eql st und3 rfl rfl rfl ?_
            refine o_mv st rfl rfl ?_
            refine st_sp (dj := 32) rfl ?_ ?_
            · refine o_mv (st_g rfl rfl) rfl rfl ?_
              refine o_idx (st_g rfl rfl) 0 rfl (reads_snap sl94) rfl rfl rfl el72 ?_; intro e98 h99
              refine o_lds (st_g rfl rfl) (enc := encGSpan) (u := (.agg #[(.int .i64 e98.xLo), (.int .i64 e98.xHi)])) 0 rfl (reads_snap sl94) flelGSpan rfl h99 rfl rfl ty71 rfl ?_
              refine o_mv (st_g rfl rfl) rfl rfl ?_
              refine o_bld (st_g rfl rfl) (qs := [(0, (.int .i64 0)), (1, (.int .i64 e96.xTop))]) (cells := [(.int .i64 0), (.int .i64 e96.xTop)]) (by intro ρ h; simp only [List.map_toArray, List.map_cons, List.map_nil, h (.const (.int .i64 0)) _ rfl, h (.tmp 36) _ rfl]) rfl bld71 rfl ?_
              refine o_bin (st_g rfl rfl) (.bool (decide (e98 = (GSpan.mk 0 e96.xTop)))) rfl rfl rfl (eqls71 _ _ e98.xLo e98.xHi 0 e96.xTop) ?_
              refine o_pickT st rfl rfl rfl ?_
              refine o_as st rfl rfl ?_
              refine c_nil ?_
              exact l_join (decide (e98 = (GSpan.mk 0 e96.xTop))) (fun a w hE hm => ⟨hE.sub ⟨rfl, rfl, rfl, rfl, rfl, rfl, rfl, rfl, trivial⟩, (hm.pick [1, 0] rfl)⟩)
            · refine st_s rfl rfl rfl rfl ?_
              refine st_s rfl rfl rfl rfl ?_
              refine st_s rfl rfl rfl rfl ?_
              refine st_s rfl rfl rfl rfl ?_
              refine st_s rfl rfl rfl rfl ?_
              refine st_s rfl rfl rfl rfl ?_
              refine o_pickF st rfl rfl rfl ?_
              refine o_as st rfl rfl ?_
              refine c_nil ?_
              exact l_join false (fun a w hE hm => ⟨hE.sub ⟨rfl, rfl, rfl, rfl, rfl, rfl, rfl, rfl, trivial⟩, (hm.pick [1, 0] rfl)⟩)
          · rintro t160 a w ⟨hE, hm⟩ h
            refine nx_of hE hm h ?_
            clear hE hm h
            refine c_cond rfl ?_ ?_
            · refine c_skip ?_
              refine b_norm ?_
              refine b_norm ?_
              exact l_join xs85 (fun a w hE hm => ⟨v84, hE.sub ⟨rfl, rfl, rfl, rfl, trivial⟩, (hm.pick [0, 1] rfl)⟩)
            · refine c_seq ?_
              refine c_region ?_
              refine o_mv st rfl rfl ?_
              refine o_len st el72 1 rfl (reads_snap sl94) rfl rfl ?_
              refine o_eql st und3 rfl rfl rfl ?_
              refine o_as st rfl rfl ?_
              refine c_nil ?_
              refine l_then ?_
              refine c_cond rfl ?_ ?_
              · refine c_draw mixed 14 rfl [snapCh w0 F] ?_
                refine o_mv (dt 0 (fun w m => m.pick [1] rfl)) rfl rfl ?_
                refine o_mv (dt 1 (fun w m => m.pick [1] rfl)) rfl rfl ?_
                refine o_mv (dt 2 (fun w m => m.pick [1] rfl)) rfl rfl ?_
                refine o_idx (dt 3 (fun w m => m.pick [1] rfl)) 0 rfl (reads_snap sl94) rfl rfl rfl el72 ?_; intro e162 h163
                refine o_fadS (dt 4 (fun w m => m.pick [1] rfl)) 0 rfl (reads_snap sl94) h163 rfl rfl fld71_0 rfl ?_
                refine o_lds (dt 5 (fun w m => m.pick [1] rfl)) (enc := encGSpan) (u := (.int .i64 e162.xLo)) 0 rfl (reads_snap sl94) flelGSpan rfl h163 rfl rfl ty3 rfl ?_
                refine o_mv (dt 6 (fun w m => m.pick [1] rfl)) rfl rfl ?_
                refine o_idx (dt 7 (fun w m => m.pick [1] rfl)) 0 rfl (reads_snap sl94) rfl rfl rfl el72 ?_; intro e164 h165
                refine o_fadS (dt 8 (fun w m => m.pick [1] rfl)) 0 rfl (reads_snap sl94) h165 rfl rfl fld71_1 rfl ?_
                refine o_lds (dt 9 (fun w m => m.pick [1] rfl)) (enc := encGSpan) (u := (.int .i64 e164.xHi)) 0 rfl (reads_snap sl94) flelGSpan rfl h165 rfl rfl ty3 rfl ?_
                refine o_bld (dt 10 (fun w m => m.pick [1] rfl)) (qs := [(0, (.int .i64 t88)), (1, (.int .i64 e162.xLo)), (2, (.int .i64 e164.xHi))]) (cells := [(.int .i64 t88), (.int .i64 e162.xLo), (.int .i64 e164.xHi), (.bool false)]) (by intro ρ h; simp only [List.map_toArray, List.map_cons, List.map_nil, h (.tmp 45) _ rfl, h (.tmp 49) _ rfl, h (.tmp 53) _ rfl]) rfl bld125 rfl ?_
                refine d_one (i := 11) rfl (by kernel_rfl) (o_bsl (enc := encGTest) (qs := [(0, (.agg #[(.int .i64 t88), (.int .i64 e162.xLo), (.int .i64 e164.xHi), (.bool false)]))]) (cells := [(.int .i64 t88), (.int .i64 e162.xLo), (.int .i64 e164.xHi), (.bool false)]) ([(GTest.mk t88 e162.xLo e164.xHi false)]) flelGTest (by intro ρ h; simp only [List.map_toArray, List.map_cons, List.map_nil, h (.tmp 54) _ rfl]) rfl el80 zero125 rfl rfl rfl rfl rfl rfl ?_); intro v166
                refine d_and (fun w m => m.pick [2] rfl) ?_
                refine d_one (i := 12) rfl (by kernel_rfl) (o_app 1 0 rfl rfl (src_flat flelGTest reads_own) rfl rfl rfl el80 rfl zero125 rfl rfl ?_); intro v168
                refine d_and (fun w m => m.pick [2] rfl) ?_
                refine o_as (dt 13 (fun w m => m.pick [2] rfl)) rfl rfl ?_
                refine d_done (by kernel_rfl) ?_
                refine b_norm ?_
                refine b_norm ?_
                exact l_join (xs85 ++ ([(GTest.mk t88 e162.xLo e164.xHi false)])) (fun a w hE hm => ⟨v168, hE.sub ⟨rfl, rfl, rfl, rfl, trivial⟩, (hm.pick [1, 2] rfl)⟩)
              · refine c_join (σ := Bool) (fun (t234 : Bool) (a : Act) (w : World) => Has 93 [(4, v84), (17, (.slice a3 l4 q5)), (18, (.int .i64 (b_0.xSides.length : Int))), (19, (.int .i64 t88)), (5, (.int .i64 t88)), (6, v93), (57, (.bool t234))] a ∧ Mem (gB F [] w0) (feet []) w0 [ownCh elGTest 125 v84 xs85, snapCh w0 F] w) ?_ ?_
                · intro k235
                  refine c_region ?_
                  refine o_mv st rfl rfl ?_
                  refine o_len st el72 1 rfl (reads_snap sl94) rfl rfl ?_
                  refine o_eql st und3 rfl rfl rfl ?_
                  refine o_mv st rfl rfl ?_
                  refine st_sp (dj := 61) rfl ?_ ?_
                  · refine o_mv (st_g rfl rfl) rfl rfl ?_
                    refine o_idx (st_g rfl rfl) 1 rfl (reads_snap sl94) rfl rfl rfl el72 ?_; intro e170 h171
                    refine o_fadS (st_g rfl rfl) 1 rfl (reads_snap sl94) h171 rfl rfl fld71_0 rfl ?_
                    refine o_lds (st_g rfl rfl) (enc := encGSpan) (u := (.int .i64 e170.xLo)) 1 rfl (reads_snap sl94) flelGSpan rfl h171 rfl rfl ty3 rfl ?_
                    refine o_eql (st_g rfl rfl) und3 rfl rfl rfl ?_
                    refine o_pickT st rfl rfl rfl ?_
                    refine o_mv st rfl rfl ?_
                    refine st_sp (dj := 68) rfl ?_ ?_
                    · refine o_mv (st_g rfl rfl) rfl rfl ?_
                      refine o_idx (st_g rfl rfl) 1 rfl (reads_snap sl94) rfl rfl rfl el72 ?_; intro e172 h173
                      refine o_fadS (st_g rfl rfl) 1 rfl (reads_snap sl94) h173 rfl rfl fld71_1 rfl ?_
                      refine o_lds (st_g rfl rfl) (enc := encGSpan) (u := (.int .i64 e172.xHi)) 1 rfl (reads_snap sl94) flelGSpan rfl h173 rfl rfl ty3 rfl ?_
                      refine o_mv (st_g rfl rfl) rfl rfl ?_
                      refine o_eql (st_g rfl rfl) und3 rfl rfl rfl ?_
                      refine o_pickT st rfl rfl rfl ?_
                      refine o_as st rfl rfl ?_
                      refine c_nil ?_
                      exact l_join (decide (e172.xHi = e96.xTop)) (fun a w hE hm => ⟨hE.sub ⟨rfl, rfl, rfl, rfl, rfl, rfl, rfl, trivial⟩, (hm.pick [0, 1] rfl)⟩)
                    · refine st_s rfl rfl rfl rfl ?_
                      refine st_s rfl rfl rfl rfl ?_
                      refine st_s rfl rfl rfl rfl ?_
                      refine st_s rfl rfl rfl rfl ?_
                      refine st_s rfl rfl rfl rfl ?_
                      refine st_s rfl rfl rfl rfl ?_
                      refine o_pickF st rfl rfl rfl ?_
                      refine o_as st rfl rfl ?_
                      refine c_nil ?_
                      exact l_join false (fun a w hE hm => ⟨hE.sub ⟨rfl, rfl, rfl, rfl, rfl, rfl, rfl, trivial⟩, (hm.pick [0, 1] rfl)⟩)
                  · refine st_s rfl rfl rfl rfl ?_
                    refine st_s rfl rfl rfl rfl ?_
                    refine st_s rfl rfl rfl rfl ?_
                    refine st_s rfl rfl rfl rfl ?_
                    refine st_s rfl rfl rfl rfl ?_
                    refine o_pickF st rfl rfl rfl ?_
                    refine o_mv st rfl rfl ?_
                    refine st_s rfl rfl rfl rfl ?_
                    refine st_s rfl rfl rfl rfl ?_
                    refine st_s rfl rfl rfl rfl ?_
                    refine st_s rfl rfl rfl rfl ?_
                    refine st_s rfl rfl rfl rfl ?_
                    refine st_s rfl rfl rfl rfl ?_
                    refine o_pickF st rfl rfl rfl ?_
                    refine o_as st rfl rfl ?_
                    refine c_nil ?_
                    exact l_join false (fun a w hE hm => ⟨hE.sub ⟨rfl, rfl, rfl, rfl, rfl, rfl, rfl, trivial⟩, (hm.pick [0, 1] rfl)⟩)
                · rintro t234 a w ⟨hE, hm⟩ h
                  refine nx_of hE hm h ?_
                  clear hE hm h
                  refine c_cond rfl ?_ ?_
                  · refine c_draw mixed 16 rfl [snapCh w0 F] ?_
                    refine o_mv (dt 0 (fun w m => m.pick [1] rfl)) rfl rfl ?_
                    refine o_mv (dt 1 (fun w m => m.pick [1] rfl)) rfl rfl ?_
                    refine o_mv (dt 2 (fun w m => m.pick [1] rfl)) rfl rfl ?_
                    refine o_idx (dt 3 (fun w m => m.pick [1] rfl)) 0 rfl (reads_snap sl94) rfl rfl rfl el72 ?_; intro e236 h237
                    refine o_fadS (dt 4 (fun w m => m.pick [1] rfl)) 0 rfl (reads_snap sl94) h237 rfl rfl fld71_1 rfl ?_
                    refine o_lds (dt 5 (fun w m => m.pick [1] rfl)) (enc := encGSpan) (u := (.int .i64 e236.xHi)) 0 rfl (reads_snap sl94) flelGSpan rfl h237 rfl rfl ty3 rfl ?_
                    refine o_add (dt 6 (fun w m => m.pick [1] rfl)) rfl rfl rfl ?_; intro t238
                    refine o_mv (dt 7 (fun w m => m.pick [1] rfl)) rfl rfl ?_
                    refine o_idx (dt 8 (fun w m => m.pick [1] rfl)) 0 rfl (reads_snap sl94) rfl rfl rfl el72 ?_; intro e239 h240
                    refine o_fadS (dt 9 (fun w m => m.pick [1] rfl)) 0 rfl (reads_snap sl94) h240 rfl rfl fld71_0 rfl ?_
                    refine o_lds (dt 10 (fun w m => m.pick [1] rfl)) (enc := encGSpan) (u := (.int .i64 e239.xLo)) 0 rfl (reads_snap sl94) flelGSpan rfl h240 rfl rfl ty3 rfl ?_
                    refine o_sub (dt 11 (fun w m => m.pick [1] rfl)) rfl rfl rfl ?_; intro t241
                    refine o_bld (dt 12 (fun w m => m.pick [1] rfl)) (qs := [(0, (.int .i64 t88)), (1, (.int .i64 t238)), (2, (.int .i64 t241)), (3, (.bool true))]) (cells := [(.int .i64 t88), (.int .i64 t238), (.int .i64 t241), (.bool true)]) (by intro ρ h; simp only [List.map_toArray, List.map_cons, List.map_nil, h (.tmp 77) _ rfl, h (.tmp 82) _ rfl, h (.tmp 87) _ rfl, h (.const (.bool true)) _ rfl]) rfl bld125 rfl ?_
                    refine d_one (i := 13) rfl (by kernel_rfl) (o_bsl (enc := encGTest) (qs := [(0, (.agg #[(.int .i64 t88), (.int .i64 t238), (.int .i64 t241), (.bool true)]))]) (cells := [(.int .i64 t88), (.int .i64 t238), (.int .i64 t241), (.bool true)]) ([(GTest.mk t88 t238 t241 true)]) flelGTest (by intro ρ h; simp only [List.map_toArray, List.map_cons, List.map_nil, h (.tmp 88) _ rfl]) rfl el80 zero125 rfl rfl rfl rfl rfl rfl ?_); intro v242
                    refine d_and (fun w m => m.pick [2] rfl) ?_
                    refine d_one (i := 14) rfl (by kernel_rfl) (o_app 1 0 rfl rfl (src_flat flelGTest reads_own) rfl rfl rfl el80 rfl zero125 rfl rfl ?_); intro v244
                    refine d_and (fun w m => m.pick [2] rfl) ?_
                    refine o_as (dt 15 (fun w m => m.pick [2] rfl)) rfl rfl ?_
                    refine d_done (by kernel_rfl) ?_
                    refine b_norm ?_
                    refine b_norm ?_
                    exact l_join (xs85 ++ ([(GTest.mk t88 t238 t241 true)])) (fun a w hE hm => ⟨v244, hE.sub ⟨rfl, rfl, rfl, rfl, trivial⟩, (hm.pick [1, 2] rfl)⟩)
                  · refine c_seq ?_
                    refine c_region ?_
                    refine stw (o_asn elGTest 125 rfl rfl ?_)
                    refine o_as st rfl rfl ?_
                    refine c_nil ?_
                    refine l_then ?_
                    refine c_ret ?_
                    refine b_ret ?_
                    refine b_ret ?_
                    refine l_ret ?_
                    refine l_ret ?_
                    refine b_ret ?_
                    refine l_ret ?_
                    exact l_end2 Tryd.results44 ([], false) (.slice none 0 0) (rv_t rfl) (rv_t rfl) rfl (fun w m => NewCh.ofB m [0] rfl)
        · rintro xs307 a w ⟨v308, hE, hm⟩ h
          refine nx_of hE hm h ?_
          clear hE hm h
          refine c_region ?_
          refine o_add st rfl rfl rfl ?_; intro t311
          refine o_mv st rfl rfl ?_
          refine c_nil ?_
          exact l_join (xs307, t311) (fun a w hE hm => ⟨v308, hE.sub ⟨rfl, rfl, rfl, rfl, trivial⟩, (hm.pick [1, 0] rfl)⟩)
      · refine c_exit ?_
        refine l_exit ?_
        refine l_exit ?_
        refine b_exit ?_
        refine l_then ?_
        refine c_seq ?_
        refine c_region ?_
        refine o_mv st rfl rfl ?_
        refine o_as st rfl rfl ?_
        refine o_as st rfl rfl ?_
        refine c_nil ?_
        refine l_then ?_
        refine c_ret ?_
        exact l_end2 Tryd.results44 (xs85, true) v84 (rv_t rfl) (rv_t rfl) rfl (fun w m => NewCh.ofB m [1] rfl)

set_option maxRecDepth 100000 in
set_option maxHeartbeats 8000000 in
theorem w_impl_FlatRuleset {w0 : World} {F : Nat → Prop} {v1 : Value} {list_0 : (List GFlat)} {rest_1 : Bool} {κ : (GRuleset × Bool) → Prop} (hF : ∀ b, F b → b < w0.heap.size ∧ ¬ feet [] b) (hv1 : Sl elGFlat F w0 v1 list_0) (hgl0 : Sl elGFieldShape F w0 (.slice (some ⟨0, 0, none⟩) 4 4) gl_impl_fieldShapes) (h : L_impl_FlatRuleset list_0 rest_1 κ) :
    Calls Tryd.prog 15 #[v1, (.bool rest_1)] w0 (Ret [] F w0 κ (fun (r : (GRuleset × Bool)) (u : Value × List Nat) => .tuple #[(.agg #[u.1, (.bool r.1.xAccept)]), (.bool r.2)]) (fun (r : (GRuleset × Bool)) (u : Value × List Nat) => [dpCh (dSl dGRule 89) 54 u.2 u.1 r.1.xChains])) := by
  refine enterS (args := [v1, (.bool rest_1)]) [] hF (Given.nil _ _) Tryd.func15 rfl Tryd.ntmps15 rfl h ?_
  clear h hF
  refine c_seq ?_
  refine c_region ?_
  refine stw (o_alloc rfl [(.slice none 0 0), (.bool false)] zero36 ?_); intro b3
  refine o_as st rfl rfl ?_
  refine c_nil ?_
  refine l_then ?_
  refine c_seq ?_
  refine c_join (σ := Bool) (fun (t66 : Bool) (a : Act) (w : World) => Has 57 [(0, v1), (1, (.bool rest_1)), (4, (.pointer (some ⟨b3, 0, none⟩))), (19, (.bool t66))] a ∧ Mem (gB F [] w0) (feet []) w0 [cellCh b3 [(.slice none 0 0), (.bool false)] 36, snapCh w0 F] w) ?_ ?_
  · intro k67
    refine c_region ?_
    refine o_mv st rfl rfl ?_
    refine o_len st el23 1 rfl (reads_snap hv1) rfl rfl ?_
    refine o_gtr st rfl rfl rfl ?_
    refine o_mv st rfl rfl ?_
    refine st_sp (dj := 15) rfl ?_ ?_
    · refine st_s rfl rfl rfl rfl ?_
      refine st_s rfl rfl rfl rfl ?_
      refine st_s rfl rfl rfl rfl ?_
      refine o_pickT st rfl rfl rfl ?_
      refine c_nil ?_
      exact l_join true (fun a w hE hm => ⟨hE.sub ⟨rfl, rfl, rfl, rfl, trivial⟩, (hm.pick [0, 1] rfl)⟩)
    · refine o_mv (st_g rfl rfl) rfl rfl ?_
      refine st_gw rfl rfl (o_callP (vs := [v1]) Tryd.call32 rfl rfl (by intro w m h; exact (w_impl_FlatsValid (F := allB [] w) (list_0 := list_0) allB_ok (m.rd0 1 rfl (reads_snap hv1)) (m.rd0 1 rfl (reads_snap hgl0)) h).mono (fun _ _ k => ret_free (fun r u => fr_nil) k)) ?_); rintro r5 _
      refine o_not (st_g rfl rfl) rfl rfl ?_
      refine o_pickF st rfl rfl rfl ?_
      refine c_nil ?_
      exact l_join (!r5) (fun a w hE hm => ⟨hE.sub ⟨rfl, rfl, rfl, rfl, trivial⟩, (hm.pick [0, 1] rfl)⟩)
  · rintro t66 a w ⟨hE, hm⟩ h
    refine nx_of hE hm h ?_
    clear hE hm h
    refine c_cond rfl ?_ ?_
    · refine c_seq ?_
      refine c_region ?_
      refine o_bld st (qs := []) (cells := [(.slice none 0 0), (.bool false)]) (by intro ρ h; simp only [List.map_toArray, List.map_cons, List.map_nil]) rfl bld36 rfl ?_
      refine stw (o_stc (cs' := [(.slice none 0 0), (.bool false)]) 0 rfl rfl rfl ty36 rfl rfl rfl rfl ?_)
      refine o_as st rfl rfl ?_
      refine c_nil ?_
      refine l_then ?_
      refine c_ret ?_
      refine l_ret ?_
      refine nx_dnil (dSl dGRule 89) 54 ?_
      exact l_end2 Tryd.results15 ((GRuleset.mk ([]) false), false) ((.slice none 0 0), []) (rv_c 1 rfl rfl ty36 rfl) (rv_t rfl) rfl (fun w m => NewCh.ofB m [0] rfl)
    · refine c_skip ?_
      refine l_then ?_
      refine c_seq ?_
      refine c_region ?_
      refine o_mv st rfl rfl ?_
      refine o_len st el23 1 rfl (reads_snap hv1) rfl rfl ?_
      refine stw (o_makeD (E' := dGRule) (z := (GRule.mk ([]) 0 0)) (fun w => ⟨_, rfl, Dp.nil⟩) rfl rfl rfl el54 rfl zero89 rfl ?_); intro bb71 v69 xs70
      refine o_as st rfl rfl ?_
      refine c_nil ?_
      refine l_then ?_
      refine c_seq ?_
      refine c_seq ?_
      refine c_region ?_
      refine o_mv st rfl rfl ?_
      refine o_len st el23 2 rfl (reads_snap hv1) rfl rfl ?_
      refine o_mv st rfl rfl ?_
      refine c_nil ?_
      refine l_then ?_
      refine c_block ?_
      refine c_loop (σ := ((List GRule) × Int)) (fun ((xs74, t78) : ((List GRule) × Int)) (a : Act) (w : World) => ∃ (v73 : Value) (bb76 : List Nat), Has 57 [(1, (.bool rest_1)), (4, (.pointer (some ⟨b3, 0, none⟩))), (6, v73), (24, v1), (25, (.int .i64 (list_0.length : Int))), (26, (.int .i64 t78))] a ∧ Mem (gB F [] w0) (feet []) w0 [cellCh b3 [(.slice none 0 0), (.bool false)] 36, snapCh w0 F, dpCh dGRule 89 bb76 v73 xs74] w) (fun a w hE hm => ⟨v69, bb71, hE.sub ⟨rfl, rfl, rfl, rfl, rfl, rfl, trivial⟩, (hm.pick [1, 2, 0] rfl)⟩) ?_
      rintro nx79 ⟨xs74, t78⟩ a w ⟨v73, bb76, hE, hm⟩ h
      refine nx_of hE hm h ?_
      clear hE hm h
      refine c_seq ?_
      refine c_region ?_
      refine o_lss st rfl rfl rfl ?_
      refine c_nil ?_
      refine l_then ?_
      refine c_seq ?_
      refine c_cond rfl ?_ ?_
      · refine c_skip ?_
        refine l_then ?_
        refine c_seq ?_
        refine c_block ?_
        refine c_seq ?_
        refine c_region ?_
        refine o_idx st 1 rfl (reads_snap hv1) rfl rfl rfl el23 ?_; intro e80 h81
        obtain ⟨_, ⟨v83, rfl, sl84⟩, rw82⟩ := sl_open hv1 h81
        refine o_ldR st (u := (.agg #[v83, (.bool e80.xAccept)])) 1 rfl rw82 rfl rfl ty87 rfl ?_
        refine stw (o_alloc rfl [(.slice none 0 0), (.bool false)] zero87 ?_); intro b86
        obtain ⟨a88, l89, q90, hs_⟩ := sl_val sl84; subst hs_
        refine stw (o_stc (cs' := [(.slice a88 l89 q90), (.bool e80.xAccept)]) 0 rfl rfl rfl ty87 rfl rfl rfl rfl ?_)
        refine c_nil ?_
        refine l_then ?_
        refine c_seq ?_
        refine c_region ?_
        refine o_fad st rfl rfl fld87_0 rfl ?_
        refine o_ldc st (v := (.agg #[(.slice a88 l89 q90)])) 0 rfl rfl rfl ty85 rfl ?_
        refine stw (o_callP (vs := [(.agg #[(.slice a88 l89 q90)])]) Tryd.call44 rfl rfl (by intro w m h; exact (w_impl_BoxTests (F := allB [] w) (b_0 := e80.xWhere) allB_ok (m.rd0 2 rfl (reads_snap sl84)) (m.rd0 2 rfl (reads_snap hgl0)) h).mono (fun _ _ k => ret_free (fun r u => (fr_cons (free_own flelGTest) fr_nil)) k)) ?_); rintro ⟨r91, r94⟩ v92
        refine o_mv st rfl rfl ?_
        refine o_ext st (vs := [v92, (.bool r94)]) rfl rfl rfl ?_
        refine o_ext st (vs := [v92, (.bool r94)]) rfl rfl rfl ?_
        refine o_as st rfl rfl ?_
        refine o_as st rfl rfl ?_
        refine c_nil ?_
        refine l_then ?_
        refine c_seq ?_
        refine c_join (σ := Bool) (fun (t155 : Bool) (a : Act) (w : World) => Has 57 [(1, (.bool rest_1)), (4, (.pointer (some ⟨b3, 0, none⟩))), (6, v73), (24, v1), (25, (.int .i64 (list_0.length : Int))), (26, (.int .i64 t78)), (8, (.pointer (some ⟨b86, 0, none⟩))), (9, v92), (42, (.bool t155))] a ∧ Mem (gB F [] w0) (feet []) w0 [ownCh elGTest 125 v92 r91, cellCh b86 [(.slice a88 l89 q90), (.bool e80.xAccept)] 87, cellCh b3 [(.slice none 0 0), (.bool false)] 36, dpCh dGRule 89 bb76 v73 xs74, snapCh w0 F] w) ?_ ?_
        · intro k156
          refine c_region ?_
          refine o_mv st rfl rfl ?_
          refine o_not st rfl rfl ?_
          refine o_mv st rfl rfl ?_
          refine st_sp (dj := 38) rfl ?_ ?_
          · refine st_s rfl rfl rfl rfl ?_
            refine st_s rfl rfl rfl rfl ?_
            refine st_s rfl rfl rfl rfl ?_
            refine o_pickT st rfl rfl rfl ?_
            refine c_nil ?_
            exact l_join true (fun a w hE hm => ⟨hE.sub ⟨rfl, rfl, rfl, rfl, rfl, rfl, rfl, rfl, rfl, trivial⟩, (hm.pick [0, 1, 2, 4, 3] rfl)⟩)
          · refine o_mv (st_g rfl rfl) rfl rfl ?_
            refine o_len (st_g rfl rfl) el80 0 rfl reads_own rfl rfl ?_
            refine o_gtr (st_g rfl rfl) rfl rfl rfl ?_
            refine o_pickF st rfl rfl rfl ?_
            refine c_nil ?_
            exact l_join (decide (6 < (r91.length : Int))) (fun a w hE hm => ⟨hE.sub ⟨rfl, rfl, rfl, rfl, rfl, rfl, rfl, rfl, rfl, trivial⟩, (hm.pick [0, 1, 2, 4, 3] rfl)⟩)
        · rintro t155 a w ⟨hE, hm⟩ h
          refine nx_of hE hm h ?_
          clear hE hm h
          refine c_cond rfl ?_ ?_
          · refine c_seq ?_
            refine c_region ?_
            refine o_bld st (qs := []) (cells := [(.slice none 0 0), (.bool false)]) (by intro ρ h; simp only [List.map_toArray, List.map_cons, List.map_nil]) rfl bld36 rfl ?_
            refine stw (o_stc (cs' := [(.slice none 0 0), (.bool false)]) 2 rfl rfl rfl ty36 rfl rfl rfl rfl ?_)
            refine o_as st rfl rfl ?_
            refine c_nil ?_
            refine l_then ?_
            refine c_ret ?_
            refine l_ret ?_
            refine b_ret ?_
            refine l_ret ?_
            refine l_ret ?_
            refine b_ret ?_
            refine l_ret ?_
            refine nx_dnil (dSl dGRule 89) 54 ?_
            exact l_end2 Tryd.results15 ((GRuleset.mk ([]) false), false) ((.slice none 0 0), []) (rv_c 3 rfl rfl ty36 rfl) (rv_t rfl) rfl (fun w m => NewCh.ofB m [0] rfl)
          · refine c_skip ?_
            refine l_then ?_
            refine c_seq ?_
            refine c_region ?_
            refine o_as st rfl rfl ?_
            refine c_nil ?_
            refine l_then ?_
            refine c_join (σ := Int) (fun (t218 : Int) (a : Act) (w : World) => Has 57 [(1, (.bool rest_1)), (4, (.pointer (some ⟨b3, 0, none⟩))), (6, v73), (24, v1), (25, (.int .i64 (list_0.length : Int))), (26, (.int .i64 t78)), (9, v92), (11, (.int .i64 t218))] a ∧ Mem (gB F [] w0) (feet []) w0 [ownCh elGTest 125 v92 r91, cellCh b3 [(.slice none 0 0), (.bool false)] 36, dpCh dGRule 89 bb76 v73 xs74, snapCh w0 F] w) ?_ ?_
            · intro k219
              refine c_seq ?_
              refine c_region ?_
              refine o_fad st rfl rfl fld87_1 rfl ?_
              refine o_ldc st (v := (.bool e80.xAccept)) 1 rfl rfl rfl ty4 rfl ?_
              refine c_nil ?_
              refine l_then ?_
              refine c_cond rfl ?_ ?_
              · refine c_region ?_
                refine o_as st rfl rfl ?_
                refine c_nil ?_
                exact l_join 1 (fun a w hE hm => ⟨hE.sub ⟨rfl, rfl, rfl, rfl, rfl, rfl, rfl, rfl, trivial⟩, (hm.pick [0, 2, 3, 4] rfl)⟩)
              · refine c_skip ?_
                exact l_join 2 (fun a w hE hm => ⟨hE.sub ⟨rfl, rfl, rfl, rfl, rfl, rfl, rfl, rfl, trivial⟩, (hm.pick [0, 2, 3, 4] rfl)⟩)
            · rintro t218 a w ⟨hE, hm⟩ h
              refine nx_of hE hm h ?_
              clear hE hm h
              refine c_region ?_
              refine o_mv st rfl rfl ?_
              refine o_mv st rfl rfl ?_
              refine o_mv st rfl rfl ?_
              refine nx_own 0 rfl ?_; rintro a220 l221 q222 rfl
              refine o_bld st (qs := [(0, (.slice a220 l221 q222)), (1, (.int .i64 t218))]) (cells := [(.slice a220 l221 q222), (.int .i64 t218), (.int .i64 0)]) (by intro ρ h; simp only [List.map_toArray, List.map_cons, List.map_nil, h (.tmp 47) _ rfl, h (.tmp 48) _ rfl]) rfl bld89 rfl ?_
              refine stw (o_bslD (M := [ownCh elGTest 125 (.slice a220 l221 q222) r91]) (E' := dGRule) (qs := [(0, (.agg #[(.slice a220 l221 q222), (.int .i64 t218), (.int .i64 0)]))]) (cs := [(.slice a220 l221 q222), (.int .i64 t218), (.int .i64 0)]) (GRule.mk r91 t218 0) (absorb_one (gives_own flelGTest) (fun B w h => ⟨_, rfl, h⟩)) (by intro ρ h; simp only [List.map_toArray, List.map_cons, List.map_nil, h (.tmp 49) _ rfl]) rfl el54 zero89 rfl rfl rfl rfl ?_); intro bb224 v223
              refine pk [2, 0, 1, 3] rfl ?_
              refine stw (o_appD rfl rfl rfl el54 rfl zero89 rfl rfl ?_); intro bb227 v226
              refine o_as st rfl rfl ?_
              refine c_nil ?_
              refine b_norm ?_
              refine l_then ?_
              refine c_region ?_
              refine o_add st rfl rfl rfl ?_; intro t229
              refine o_mv st rfl rfl ?_
              refine c_nil ?_
              exact l_join ((xs74 ++ ([(GRule.mk r91 t218 0)])), t229) (fun a w hE hm => ⟨v226, bb227, hE.sub ⟨rfl, rfl, rfl, rfl, rfl, rfl, trivial⟩, (hm.pick [1, 2, 0] rfl)⟩)
      · refine c_exit ?_
        refine l_exit ?_
        refine l_exit ?_
        refine b_exit ?_
        refine l_then ?_
        refine c_seq ?_
        refine c_region ?_
        refine o_mv st rfl rfl ?_
        refine nx_dp 2 rfl ?_; rintro a230 l231 q232 rfl
        refine pk [2, 0, 1] rfl ?_
        refine stw (o_bslD (M := [dpCh dGRule 89 bb76 (.slice a230 l231 q232) xs74]) (E' := (dSl dGRule 89)) (qs := [(0, (.slice a230 l231 q232))]) (cs := [(.slice a230 l231 q232)]) xs74 (absorb_one gives_dp (fun B w h => ⟨_, rfl, h⟩)) (by intro ρ h; simp only [List.map_toArray, List.map_cons, List.map_nil, h (.tmp 53) _ rfl]) rfl el34 zero54 rfl rfl rfl rfl ?_); intro bb234 v233
        refine o_mv st rfl rfl ?_
        refine nx_dp 0 rfl ?_; rintro a236 l237 q238 rfl
        refine o_bld st (qs := [(0, (.slice a236 l237 q238)), (1, (.bool rest_1))]) (cells := [(.slice a236 l237 q238), (.bool rest_1)]) (by intro ρ h; simp only [List.map_toArray, List.map_cons, List.map_nil, h (.tmp 54) _ rfl, h (.tmp 55) _ rfl]) rfl bld36 rfl ?_
        refine stw (o_stc (cs' := [(.slice a236 l237 q238), (.bool rest_1)]) 1 rfl rfl rfl ty36 rfl rfl rfl rfl ?_)
        refine o_as st rfl rfl ?_
        refine c_nil ?_
        refine l_then ?_
        refine c_ret ?_
        exact l_end2 Tryd.results15 ((GRuleset.mk ([xs74]) rest_1), true) ((.slice a236 l237 q238), bb234) (rv_c 1 rfl rfl ty36 rfl) (rv_t rfl) rfl (fun w m => NewCh.ofB m [0] rfl)

set_option maxRecDepth 100000 in
set_option maxHeartbeats 8000000 in
theorem w_impl_wheres {w0 : World} {F : Nat → Prop} {v1 : Value} {list_0 : (List GIflat)} {κ : (List A4ListGSpan) → Prop} (hF : ∀ b, F b → b < w0.heap.size ∧ ¬ feet [] b) (hv1 : Sl elGIflat F w0 v1 list_0) (h : L_impl_wheres list_0 κ) :
    Calls Tryd.prog 54 #[v1] w0 (Ret [] F w0 κ (fun (r : (List A4ListGSpan)) (u : Value) => u) (fun (r : (List A4ListGSpan)) (u : Value) => [ownCh elA4ListGSpan 114 u r])) := by
  refine enterS (args := [v1]) [] hF (Given.nil _ _) Tryd.func54 rfl Tryd.ntmps54 rfl h ?_
  clear h hF
  refine c_seq ?_
  refine c_region ?_
  refine stw (o_asn elA4ListGSpan 114 rfl rfl ?_)
  refine c_nil ?_
  refine l_then ?_
  refine c_seq ?_
  refine c_region ?_
  refine o_mv st rfl rfl ?_
  refine o_len st el64 1 rfl (reads_snap hv1) rfl rfl ?_
  refine stw (o_makeN (El' := elA4ListGSpan) (z := (A4ListGSpan.mk ([]) ([]) ([]) ([]))) (fun F w => ⟨⟨_, _, _, _⟩, rfl, ⟨Sl.nil .., Sl.nil .., Sl.nil .., Sl.nil ..⟩⟩) rfl rfl rfl el98 rfl zero114 rfl ?_); intro v4 xs5
  refine o_as st rfl rfl ?_
  refine c_nil ?_
  refine l_then ?_
  refine c_seq ?_
  refine c_seq ?_
  refine c_region ?_
  refine o_mv st rfl rfl ?_
  refine o_len st el64 2 rfl (reads_snap hv1) rfl rfl ?_
  refine o_mv st rfl rfl ?_
  refine c_nil ?_
  refine l_then ?_
  refine c_block ?_
  refine c_loop (σ := ((List A4ListGSpan) × Int)) (fun ((xs8, t11) : ((List A4ListGSpan) × Int)) (a : Act) (w : World) => ∃ (v7 : Value), Has 22 [(3, v7), (9, v1), (10, (.int .i64 (list_0.length : Int))), (11, (.int .i64 t11))] a ∧ Mem (gB F [] w0) (feet []) w0 [snapCh w0 F, ownCh elA4ListGSpan 114 v7 xs8] w) (fun a w hE hm => ⟨v4, hE.sub ⟨rfl, rfl, rfl, rfl, trivial⟩, (hm.pick [2, 0] rfl)⟩) ?_
  rintro nx12 ⟨xs8, t11⟩ a w ⟨v7, hE, hm⟩ h
  refine nx_of hE hm h ?_
  clear hE hm h
  refine c_seq ?_
  refine c_region ?_
  refine o_lss st rfl rfl rfl ?_
  refine c_nil ?_
  refine l_then ?_
  refine c_seq ?_
  refine c_cond rfl ?_ ?_
  · refine c_skip ?_
    refine l_then ?_
    refine c_seq ?_
    refine c_block ?_
    refine c_seq ?_
    refine c_region ?_
    refine o_idx st 0 rfl (reads_snap hv1) rfl rfl rfl el64 ?_; intro e13 h14
    obtain ⟨_, ⟨⟨v16, v19, v22, v25⟩, rfl, ⟨sl17, sl20, sl23, sl26⟩⟩, rw15⟩ := sl_open hv1 h14
    refine o_ldR st (u := (.agg #[v16, v19, v22, v25, (.bool e13.xAccept)])) 0 rfl rw15 rfl rfl ty117 rfl ?_
    refine stw (o_alloc rfl [(.slice none 0 0), (.slice none 0 0), (.slice none 0 0), (.slice none 0 0), (.bool false)] zero117 ?_); intro b28
    obtain ⟨a30, l31, q32, hs_⟩ := sl_val sl17; subst hs_
    obtain ⟨a33, l34, q35, hs_⟩ := sl_val sl20; subst hs_
    obtain ⟨a36, l37, q38, hs_⟩ := sl_val sl23; subst hs_
    obtain ⟨a39, l40, q41, hs_⟩ := sl_val sl26; subst hs_
    refine stw (o_stc (cs' := [(.slice a30 l31 q32), (.slice a33 l34 q35), (.slice a36 l37 q38), (.slice a39 l40 q41), (.bool e13.xAccept)]) 0 rfl rfl rfl ty117 rfl rfl rfl rfl ?_)
    refine c_nil ?_
    refine l_then ?_
    refine c_region ?_
    refine o_mv st rfl rfl ?_
    refine o_fad st rfl rfl fld117_0 rfl ?_
    refine o_ldc st (v := (.agg #[(.slice a30 l31 q32), (.slice a33 l34 q35), (.slice a36 l37 q38), (.slice a39 l40 q41)])) 0 rfl rfl rfl ty114 rfl ?_
    refine stw (o_bslN (El' := elA4ListGSpan) (qs := [(0, (.agg #[(.slice a30 l31 q32), (.slice a33 l34 q35), (.slice a36 l37 q38), (.slice a39 l40 q41)]))]) (cells := [(.slice a30 l31 q32), (.slice a33 l34 q35), (.slice a36 l37 q38), (.slice a39 l40 q41)]) ([e13.xWhere]) ([[(.slice a30 l31 q32), (.slice a33 l34 q35), (.slice a36 l37 q38), (.slice a39 l40 q41)]]) (fun w m => ⟨⟨⟨(.slice a30 l31 q32), (.slice a33 l34 q35), (.slice a36 l37 q38), (.slice a39 l40 q41)⟩, rfl, ⟨(m.roS 1 rfl sl17), (m.roS 1 rfl sl20), (m.roS 1 rfl sl23), (m.roS 1 rfl sl26)⟩⟩, trivial⟩) (by intro ρ h; simp only [List.map_toArray, List.map_cons, List.map_nil, h (.tmp 17) _ rfl]) rfl el98 zero114 rfl rfl rfl rfl rfl rfl ?_); intro v42
    refine stw (o_app 3 0 rfl rfl src_own rfl rfl rfl el98 rfl zero114 rfl rfl ?_); intro v44
    refine o_as st rfl rfl ?_
    refine c_nil ?_
    refine b_norm ?_
    refine l_then ?_
    refine c_region ?_
    refine o_add st rfl rfl rfl ?_; intro t46
    refine o_mv st rfl rfl ?_
    refine c_nil ?_
    exact l_join ((xs8 ++ ([e13.xWhere])), t46) (fun a w hE hm => ⟨v44, hE.sub ⟨rfl, rfl, rfl, rfl, trivial⟩, (hm.pick [2, 3] rfl)⟩)
  · refine c_exit ?_
    refine l_exit ?_
    refine l_exit ?_
    refine b_exit ?_
    refine l_then ?_
    refine c_seq ?_
    refine c_region ?_
    refine o_mv st rfl rfl ?_
    refine o_as st rfl rfl ?_
    refine c_nil ?_
    refine l_then ?_
    refine c_ret ?_
    exact l_end1 Tryd.results54 xs8 v7 (rv_t rfl) (fun w m => NewCh.ofB m [1] rfl)

end
section
open Go.RowKit
set_option maxRecDepth 100000 in
set_option maxHeartbeats 8000000 in
theorem w_spec_DrawTrimTail {w0 : World} {F : Nat → Prop} {v1 : Value} {code_0 : (List UInt8)} {κ : ((List GFlat) × Bool) → Prop} (hF : ∀ b, F b → b < w0.heap.size ∧ ¬ feet [] b) (hv1 : Sl elU8 F w0 v1 code_0) (h : L_spec_DrawTrimTail code_0 κ) :
    Calls Tryd.prog 51 #[v1] w0 (Ret [] F w0 κ (fun (r : ((List GFlat) × Bool)) (u : Value) => .tuple #[u, (.bool r.2)]) (fun (r : ((List GFlat) × Bool)) (u : Value) => [ownCh elGFlat 87 u r.1])) := by
  refine enterS (args := [v1]) [] hF (Given.nil _ _) Tryd.func51 rfl Tryd.ntmps51 rfl h ?_
  clear h hF
  refine c_seq ?_
  refine c_region ?_
  refine stw (o_asd dGFlat 87 rfl rfl ?_)
  refine o_as st rfl rfl ?_
  refine c_nil ?_
  refine l_then ?_
  refine c_seq ?_
  refine c_region ?_
  refine o_mv st rfl rfl ?_
  refine stw (o_callP (vs := [v1]) Tryd.call29 rfl rfl (by intro w m h; exact w_spec_l20Open (code_0 := code_0) fz_ok0 (m.roS 1 rfl hv1) h) ?_); rintro ⟨r6, r9⟩ ⟨b4, v7⟩
  refine o_as st rfl rfl ?_
  refine c_nil ?_
  refine l_then ?_
  refine c_seq ?_
  refine c_region ?_
  refine o_mv st rfl rfl ?_
  refine stw (o_call (vs := [(.pointer (some ⟨b4, 0, none⟩)), (.int .i64 12)]) (M0 := [cellCh b4 [v7, (.int .i64 r9)] 104]) Tryd.call30 rfl rfl (by intro w m h; exact w_spec_l20Flats (r_0_b := r6) (r_0_p := r9) (n_1 := 12) fz_ok m.givenB (m.ro 1 rfl) h) ?_); rintro ⟨r10, r13⟩ v11
  refine o_as st rfl rfl ?_
  refine c_nil ?_
  refine l_then ?_
  refine c_seq ?_
  refine c_region ?_
  refine o_mv st rfl rfl ?_
  refine o_mv st rfl rfl ?_
  refine pk [1, 0, 2, 3, 4] rfl ?_
  refine stw (o_call (vs := [(.pointer (some ⟨b4, 0, none⟩)), (.int .i64 2)]) (M0 := [cellCh b4 [v7, (.int .i64 r13)] 104]) Tryd.call60 rfl rfl (by intro w m h; exact (w_spec_l20Rd_pick (F := allB [cellCh b4 [v7, (.int .i64 r13)] 104] w) (r_0_b := r6) (r_0_p := r13) (n_1 := 2) allB_ok m.given (m.rdM 1 rfl reads_ro) h).mono (fun _ _ k => ret_free (fun r u => (fr_cons free_cell fr_nil)) k)) ?_); rintro ⟨r14, r15⟩ _
  refine o_eql st und3 rfl rfl rfl ?_
  refine o_as st rfl rfl ?_
  refine o_as st rfl rfl ?_
  refine c_nil ?_
  refine l_then ?_
  refine c_ret ?_
  exact l_end2 Tryd.results51 (r10, (decide (r14 = 0))) v11 (rv_t rfl) (rv_t rfl) rfl (fun w m => NewCh.ofB m [1] rfl)

set_option maxRecDepth 100000 in
set_option maxHeartbeats 8000000 in
theorem w_spec_DrawFlatRuleset {w0 : World} {F : Nat → Prop} {v1 : Value} {code_0 : (List UInt8)} {κ : ((List GFlat) × Bool) → Prop} (hF : ∀ b, F b → b < w0.heap.size ∧ ¬ feet [] b) (hv1 : Sl elU8 F w0 v1 code_0) (h : L_spec_DrawFlatRuleset code_0 κ) :
    Calls Tryd.prog 22 #[v1] w0 (Ret [] F w0 κ (fun (r : ((List GFlat) × Bool)) (u : Value) => .tuple #[u, (.bool r.2)]) (fun (r : ((List GFlat) × Bool)) (u : Value) => [ownCh elGFlat 87 u r.1])) := by
  refine enterS (args := [v1]) [] hF (Given.nil _ _) Tryd.func22 rfl Tryd.ntmps22 rfl h ?_
  clear h hF
  refine c_seq ?_
  refine c_region ?_
  refine stw (o_asd dGFlat 87 rfl rfl ?_)
  refine o_as st rfl rfl ?_
  refine c_nil ?_
  refine l_then ?_
  refine c_seq ?_
  refine c_region ?_
  refine o_mv st rfl rfl ?_
  refine stw (o_callP (vs := [v1]) Tryd.call51 rfl rfl (by intro w m h; exact w_spec_DrawTrimTail (code_0 := code_0) fz_ok0 (m.roS 1 rfl hv1) h) ?_); rintro ⟨r4, r7⟩ v5
  refine o_ext st (vs := [v5, (.bool r7)]) rfl rfl rfl ?_
  refine o_ext st (vs := [v5, (.bool r7)]) rfl rfl rfl ?_
  refine o_as st rfl rfl ?_
  refine o_as st rfl rfl ?_
  refine c_nil ?_
  refine l_then ?_
  refine c_ret ?_
  exact l_end2 Tryd.results22 (r4, r7) v5 (rv_t rfl) (rv_t rfl) rfl (fun w m => NewCh.ofB m [0] rfl)



end
section
open Go.RowKit
set_option maxRecDepth 100000 in
set_option maxHeartbeats 8000000 in
theorem w_laws_sameRule {w0 : World} {F : Nat → Prop} {v1 : Value} {v3 : Value} {a_0 : GRule} {b_1 : GRule} {κ : Bool → Prop} (hF : ∀ b, F b → b < w0.heap.size ∧ ¬ feet [] b) (hv1 : Sl elGTest F w0 v1 a_0.xTests) (hv3 : Sl elGTest F w0 v3 b_1.xTests) (h : L_laws_sameRule a_0 b_1 κ) :
    Calls Tryd.prog 52 #[(.agg #[v1, (.int .i64 a_0.xAction), (.int .i64 a_0.xChain)]), (.agg #[v3, (.int .i64 b_1.xAction), (.int .i64 b_1.xChain)])] w0 (Ret [] F w0 κ (fun (r : Bool) (u : Unit) => (.bool r)) (fun (r : Bool) (u : Unit) => [])) := by
  refine enterS (args := [(.agg #[v1, (.int .i64 a_0.xAction), (.int .i64 a_0.xChain)]), (.agg #[v3, (.int .i64 b_1.xAction), (.int .i64 b_1.xChain)])]) [] hF (Given.nil _ _) Tryd.func52 rfl Tryd.ntmps52 rfl h ?_
  clear h hF
  refine c_seq ?_
  refine c_region ?_
  obtain ⟨a5, l6, q7, hs_⟩ := sl_val hv1; subst hs_
  refine stw (o_box rfl rfl [(.slice a5 l6 q7), (.int .i64 a_0.xAction), (.int .i64 a_0.xChain)] rfl ?_); intro b8
  obtain ⟨a10, l11, q12, hs_⟩ := sl_val hv3; subst hs_
  refine stw (o_box rfl rfl [(.slice a10 l11 q12), (.int .i64 b_1.xAction), (.int .i64 b_1.xChain)] rfl ?_); intro b13
  refine o_as st rfl rfl ?_
  refine c_nil ?_
  refine l_then ?_
  refine c_seq ?_
  refine c_seq ?_
  refine c_region ?_
  refine o_fad st rfl rfl fld89_0 rfl ?_
  refine o_ldc st (v := (.slice a5 l6 q7)) 1 rfl rfl rfl ty80 rfl ?_
  refine o_len st el80 2 rfl (reads_snap hv1) rfl rfl ?_
  refine o_fad st rfl rfl fld89_0 rfl ?_
  refine o_ldc st (v := (.slice a10 l11 q12)) 0 rfl rfl rfl ty80 rfl ?_
  refine o_len st el80 2 rfl (reads_snap hv3) rfl rfl ?_
  refine o_neq st und3 rfl rfl rfl ?_
  refine c_nil ?_
  refine l_then ?_
  refine c_cond rfl ?_ ?_
  · refine c_seq ?_
    refine c_region ?_
    refine o_as st rfl rfl ?_
    refine c_nil ?_
    refine l_then ?_
    refine c_ret ?_
    refine l_ret ?_
    exact l_end1 Tryd.results52 false () (rv_t rfl) (fun _ _ => NewCh.nil _ _ _ _)
  · refine c_skip ?_
    refine l_then ?_
    refine c_seq ?_
    refine c_seq ?_
    refine c_region ?_
    refine o_as st rfl rfl ?_
    refine c_nil ?_
    refine l_then ?_
    refine c_block ?_
    refine c_loop (σ := Int) (fun (t15 : Int) (a : Act) (w : World) => Has 43 [(2, (.pointer (some ⟨b8, 0, none⟩))), (3, (.pointer (some ⟨b13, 0, none⟩))), (5, (.int .i64 t15))] a ∧ Mem (gB F [] w0) (feet []) w0 [cellCh b13 [(.slice a10 l11 q12), (.int .i64 b_1.xAction), (.int .i64 b_1.xChain)] 89, cellCh b8 [(.slice a5 l6 q7), (.int .i64 a_0.xAction), (.int .i64 a_0.xChain)] 89, snapCh w0 F] w) (fun a w hE hm => ⟨hE.sub ⟨rfl, rfl, rfl, trivial⟩, (hm.pick [0, 1, 2] rfl)⟩) ?_
    rintro nx16 t15 a w ⟨hE, hm⟩ h
    refine nx_of hE hm h ?_
    clear hE hm h
    refine c_seq ?_
    refine c_seq ?_
    refine c_region ?_
    refine o_mv st rfl rfl ?_
    refine o_fad st rfl rfl fld89_0 rfl ?_
    refine o_ldc st (v := (.slice a5 l6 q7)) 1 rfl rfl rfl ty80 rfl ?_
    refine o_len st el80 2 rfl (reads_snap hv1) rfl rfl ?_
    refine o_lss st rfl rfl rfl ?_
    refine c_nil ?_
    refine l_then ?_
    refine c_cond rfl ?_ ?_
    · refine c_skip ?_
      refine l_then ?_
      refine c_seq ?_
      refine c_block ?_
      refine c_seq ?_
      refine c_draw mixed 11 rfl [cellCh b13 [(.slice a10 l11 q12), (.int .i64 b_1.xAction), (.int .i64 b_1.xChain)] 89, cellCh b8 [(.slice a5 l6 q7), (.int .i64 a_0.xAction), (.int .i64 a_0.xChain)] 89, snapCh w0 F] ?_
      refine o_fad (dt 0 (fun _ m => m)) rfl rfl fld89_0 rfl ?_
      refine o_ldc (dt 1 (fun _ m => m)) (v := (.slice a5 l6 q7)) 1 rfl rfl rfl ty80 rfl ?_
      refine o_mv (dt 2 (fun _ m => m)) rfl rfl ?_
      refine o_idx (dt 3 (fun _ m => m)) 2 rfl (reads_snap hv1) rfl rfl rfl el80 ?_; intro e17 h18
      refine o_lds (dt 4 (fun _ m => m)) (enc := encGTest) (u := (.agg #[(.int .i64 e17.xField), (.int .i64 e17.xLo), (.int .i64 e17.xHi), (.bool e17.xNot)])) 2 rfl (reads_snap hv1) flelGTest rfl h18 rfl rfl ty125 rfl ?_
      refine o_fad (dt 5 (fun _ m => m)) rfl rfl fld89_0 rfl ?_
      refine o_ldc (dt 6 (fun _ m => m)) (v := (.slice a10 l11 q12)) 0 rfl rfl rfl ty80 rfl ?_
      refine o_mv (dt 7 (fun _ m => m)) rfl rfl ?_
      refine o_idx (dt 8 (fun _ m => m)) 2 rfl (reads_snap hv3) rfl rfl rfl el80 ?_; intro e19 h20
      refine o_lds (dt 9 (fun _ m => m)) (enc := encGTest) (u := (.agg #[(.int .i64 e19.xField), (.int .i64 e19.xLo), (.int .i64 e19.xHi), (.bool e19.xNot)])) 2 rfl (reads_snap hv3) flelGTest rfl h20 rfl rfl ty125 rfl ?_
      refine o_bin (dt 10 (fun _ m => m)) (.bool (!(decide (e17 = e19)))) rfl rfl rfl (neqs125 _ _ e17.xField e17.xLo e17.xHi e17.xNot e19.xField e19.xLo e19.xHi e19.xNot) ?_
      refine d_done (by kernel_rfl) ?_
      refine l_then ?_
      refine c_cond rfl ?_ ?_
      · refine c_seq ?_
        refine c_region ?_
        refine o_as st rfl rfl ?_
        refine c_nil ?_
        refine l_then ?_
        refine c_ret ?_
        refine b_ret ?_
        refine l_ret ?_
        refine l_ret ?_
        refine b_ret ?_
        refine l_ret ?_
        exact l_end1 Tryd.results52 false () (rv_t rfl) (fun _ _ => NewCh.nil _ _ _ _)
      · refine c_skip ?_
        refine b_norm ?_
        refine l_then ?_
        refine c_region ?_
        refine o_mv st rfl rfl ?_
        refine o_add st rfl rfl rfl ?_; intro t21
        refine o_as st rfl rfl ?_
        refine c_nil ?_
        exact l_join t21 (fun a w hE hm => ⟨hE.sub ⟨rfl, rfl, rfl, trivial⟩, (hm.pick [0, 1, 2] rfl)⟩)
    · refine c_exit ?_
      refine l_exit ?_
      refine l_exit ?_
      refine b_exit ?_
      refine l_then ?_
      refine c_join (σ := Bool) (fun (t82 : Bool) (a : Act) (w : World) => Has 43 [(4, (.bool t82))] a ∧ Mem (gB F [] w0) (feet []) w0 [] w) ?_ ?_
      · intro k83
        refine c_region ?_
        refine o_fad st rfl rfl fld89_1 rfl ?_
        refine o_ldc st (v := (.int .i64 a_0.xAction)) 1 rfl rfl rfl ty3 rfl ?_
        refine o_fad st rfl rfl fld89_1 rfl ?_
        refine o_ldc st (v := (.int .i64 b_1.xAction)) 0 rfl rfl rfl ty3 rfl ?_
        refine o_eql st und3 rfl rfl rfl ?_
        refine o_mv st rfl rfl ?_
        refine st_sp (dj := 36) rfl ?_ ?_
        · refine o_fad (st_g rfl rfl) rfl rfl fld89_2 rfl ?_
          refine o_ldc (st_g rfl rfl) (v := (.int .i64 a_0.xChain)) 1 rfl rfl rfl ty3 rfl ?_
          refine o_fad (st_g rfl rfl) rfl rfl fld89_2 rfl ?_
          refine o_ldc (st_g rfl rfl) (v := (.int .i64 b_1.xChain)) 0 rfl rfl rfl ty3 rfl ?_
          refine o_eql (st_g rfl rfl) und3 rfl rfl rfl ?_
          refine o_pickT st rfl rfl rfl ?_
          refine o_as st rfl rfl ?_
          refine c_nil ?_
          exact l_join (decide (a_0.xChain = b_1.xChain)) (fun a w hE hm => ⟨hE.sub ⟨rfl, trivial⟩, (hm.pick [] rfl)⟩)
        · refine st_s rfl rfl rfl rfl ?_
          refine st_s rfl rfl rfl rfl ?_
          refine st_s rfl rfl rfl rfl ?_
          refine st_s rfl rfl rfl rfl ?_
          refine st_s rfl rfl rfl rfl ?_
          refine o_pickF st rfl rfl rfl ?_
          refine o_as st rfl rfl ?_
          refine c_nil ?_
          exact l_join false (fun a w hE hm => ⟨hE.sub ⟨rfl, trivial⟩, (hm.pick [] rfl)⟩)
      · rintro t82 a w ⟨hE, hm⟩ h
        refine nx_of hE hm h ?_
        clear hE hm h
        refine c_ret ?_
        exact l_end1 Tryd.results52 t82 () (rv_t rfl) (fun _ _ => NewCh.nil _ _ _ _)

set_option maxRecDepth 100000 in
set_option maxHeartbeats 8000000 in
theorem w_laws_sameRuleset {w0 : World} {F : Nat → Prop} {v1 : Value} {v3 : Value} {a_0 : GRuleset} {b_1 : GRuleset} {κ : Bool → Prop} (hF : ∀ b, F b → b < w0.heap.size ∧ ¬ feet [] b) (hv1 : Sl (elSl elGRule) F w0 v1 a_0.xChains) (hv3 : Sl (elSl elGRule) F w0 v3 b_1.xChains) (h : L_laws_sameRuleset a_0 b_1 κ) :
    Calls Tryd.prog 23 #[(.agg #[v1, (.bool a_0.xAccept)]), (.agg #[v3, (.bool b_1.xAccept)])] w0 (Ret [] F w0 κ (fun (r : Bool) (u : Unit) => (.bool r)) (fun (r : Bool) (u : Unit) => [])) := by
  refine enterS (args := [(.agg #[v1, (.bool a_0.xAccept)]), (.agg #[v3, (.bool b_1.xAccept)])]) [] hF (Given.nil _ _) Tryd.func23 rfl Tryd.ntmps23 rfl h ?_
  clear h hF
  refine c_seq ?_
  refine c_region ?_
  obtain ⟨a5, l6, q7, hs_⟩ := sl_val hv1; subst hs_
  refine stw (o_box rfl rfl [(.slice a5 l6 q7), (.bool a_0.xAccept)] rfl ?_); intro b8
  obtain ⟨a10, l11, q12, hs_⟩ := sl_val hv3; subst hs_
  refine stw (o_box rfl rfl [(.slice a10 l11 q12), (.bool b_1.xAccept)] rfl ?_); intro b13
  refine o_as st rfl rfl ?_
  refine c_nil ?_
  refine l_then ?_
  refine c_seq ?_
  refine c_seq ?_
  refine c_region ?_
  refine o_fad st rfl rfl fld36_0 rfl ?_
  refine o_ldc st (v := (.slice a5 l6 q7)) 1 rfl rfl rfl ty34 rfl ?_
  refine o_len st el34 2 rfl (reads_snap hv1) rfl rfl ?_
  refine o_fad st rfl rfl fld36_0 rfl ?_
  refine o_ldc st (v := (.slice a10 l11 q12)) 0 rfl rfl rfl ty34 rfl ?_
  refine o_len st el34 2 rfl (reads_snap hv3) rfl rfl ?_
  refine o_neq st und3 rfl rfl rfl ?_
  refine c_nil ?_
  refine l_then ?_
  refine c_cond rfl ?_ ?_
  · refine c_seq ?_
    refine c_region ?_
    refine o_as st rfl rfl ?_
    refine c_nil ?_
    refine l_then ?_
    refine c_ret ?_
    refine l_ret ?_
    exact l_end1 Tryd.results23 false () (rv_t rfl) (fun _ _ => NewCh.nil _ _ _ _)
  · refine c_skip ?_
    refine l_then ?_
    refine c_seq ?_
    refine c_seq ?_
    refine c_region ?_
    refine o_as st rfl rfl ?_
    refine c_nil ?_
    refine l_then ?_
    refine c_block ?_
    refine c_loop (σ := Int) (fun (t15 : Int) (a : Act) (w : World) => Has 67 [(2, (.pointer (some ⟨b8, 0, none⟩))), (3, (.pointer (some ⟨b13, 0, none⟩))), (5, (.int .i64 t15))] a ∧ Mem (gB F [] w0) (feet []) w0 [cellCh b13 [(.slice a10 l11 q12), (.bool b_1.xAccept)] 36, cellCh b8 [(.slice a5 l6 q7), (.bool a_0.xAccept)] 36, snapCh w0 F] w) (fun a w hE hm => ⟨hE.sub ⟨rfl, rfl, rfl, trivial⟩, (hm.pick [0, 1, 2] rfl)⟩) ?_
    rintro nx16 t15 a w ⟨hE, hm⟩ h
    refine nx_of hE hm h ?_
    clear hE hm h
    refine c_seq ?_
    refine c_seq ?_
    refine c_region ?_
    refine o_mv st rfl rfl ?_
    refine o_fad st rfl rfl fld36_0 rfl ?_
    refine o_ldc st (v := (.slice a5 l6 q7)) 1 rfl rfl rfl ty34 rfl ?_
    refine o_len st el34 2 rfl (reads_snap hv1) rfl rfl ?_
    refine o_lss st rfl rfl rfl ?_
    refine c_nil ?_
    refine l_then ?_
    refine c_cond rfl ?_ ?_
    · refine c_skip ?_
      refine l_then ?_
      refine c_seq ?_
      refine c_block ?_
      refine c_seq ?_
      refine c_seq ?_
      refine c_draw mixed 13 rfl [cellCh b13 [(.slice a10 l11 q12), (.bool b_1.xAccept)] 36, cellCh b8 [(.slice a5 l6 q7), (.bool a_0.xAccept)] 36, snapCh w0 F] ?_
      refine o_fad (dt 0 (fun _ m => m)) rfl rfl fld36_0 rfl ?_
      refine o_ldc (dt 1 (fun _ m => m)) (v := (.slice a5 l6 q7)) 1 rfl rfl rfl ty34 rfl ?_
      refine o_mv (dt 2 (fun _ m => m)) rfl rfl ?_
      refine o_idx (dt 3 (fun _ m => m)) 2 rfl (reads_snap hv1) rfl rfl rfl el34 ?_; intro e17 h18
      obtain ⟨_, ⟨v20, rfl, sl21⟩, rw19⟩ := sl_open hv1 h18
      refine o_ldR (dt 4 (fun _ m => m)) (u := v20) 2 rfl rw19 rfl rfl ty54 rfl ?_
      refine o_len (dt 5 (fun _ m => m)) el54 2 rfl (reads_snap sl21) rfl rfl ?_
      refine o_fad (dt 6 (fun _ m => m)) rfl rfl fld36_0 rfl ?_
      refine o_ldc (dt 7 (fun _ m => m)) (v := (.slice a10 l11 q12)) 0 rfl rfl rfl ty34 rfl ?_
      refine o_mv (dt 8 (fun _ m => m)) rfl rfl ?_
      refine o_idx (dt 9 (fun _ m => m)) 2 rfl (reads_snap hv3) rfl rfl rfl el34 ?_; intro e23 h24
      obtain ⟨_, ⟨v26, rfl, sl27⟩, rw25⟩ := sl_open hv3 h24
      refine o_ldR (dt 10 (fun _ m => m)) (u := v26) 2 rfl rw25 rfl rfl ty54 rfl ?_
      refine o_len (dt 11 (fun _ m => m)) el54 2 rfl (reads_snap sl27) rfl rfl ?_
      refine o_neq (dt 12 (fun _ m => m)) und3 rfl rfl rfl ?_
      refine d_done (by kernel_rfl) ?_
      refine l_then ?_
      refine c_cond rfl ?_ ?_
      · refine c_seq ?_
        refine c_region ?_
        refine o_as st rfl rfl ?_
        refine c_nil ?_
        refine l_then ?_
        refine c_ret ?_
        refine l_ret ?_
        refine b_ret ?_
        refine l_ret ?_
        refine l_ret ?_
        refine b_ret ?_
        refine l_ret ?_
        exact l_end1 Tryd.results23 false () (rv_t rfl) (fun _ _ => NewCh.nil _ _ _ _)
      · refine c_skip ?_
        refine l_then ?_
        refine c_seq ?_
        refine c_region ?_
        refine o_as st rfl rfl ?_
        refine c_nil ?_
        refine l_then ?_
        refine c_block ?_
        refine c_loop (σ := Int) (fun (t29 : Int) (a : Act) (w : World) => Has 67 [(2, (.pointer (some ⟨b8, 0, none⟩))), (3, (.pointer (some ⟨b13, 0, none⟩))), (5, (.int .i64 t15)), (6, (.int .i64 t29))] a ∧ Mem (gB F [] w0) (feet []) w0 [cellCh b13 [(.slice a10 l11 q12), (.bool b_1.xAccept)] 36, cellCh b8 [(.slice a5 l6 q7), (.bool a_0.xAccept)] 36, snapCh w0 F] w) (fun a w hE hm => ⟨hE.sub ⟨rfl, rfl, rfl, rfl, trivial⟩, (hm.pick [0, 1, 2] rfl)⟩) ?_
        rintro nx30 t29 a w ⟨hE, hm⟩ h
        refine nx_of hE hm h ?_
        clear hE hm h
        refine c_seq ?_
        refine c_seq ?_
        refine c_region ?_
        refine o_mv st rfl rfl ?_
        refine o_fad st rfl rfl fld36_0 rfl ?_
        refine o_ldc st (v := (.slice a5 l6 q7)) 1 rfl rfl rfl ty34 rfl ?_
        refine o_mv st rfl rfl ?_
        refine o_idx st 2 rfl (reads_snap hv1) rfl rfl rfl el34 ?_; intro e31 h32
        obtain ⟨_, ⟨v34, rfl, sl35⟩, rw33⟩ := sl_open hv1 h32
        refine o_ldR st (u := v34) 2 rfl rw33 rfl rfl ty54 rfl ?_
        refine o_len st el54 2 rfl (reads_snap sl35) rfl rfl ?_
        refine o_lss st rfl rfl rfl ?_
        refine c_nil ?_
        refine l_then ?_
        refine c_cond rfl ?_ ?_
        · refine c_skip ?_
          refine l_then ?_
          refine c_seq ?_
          refine c_block ?_
          refine c_seq ?_
          refine c_draw mixed 18 rfl [cellCh b13 [(.slice a10 l11 q12), (.bool b_1.xAccept)] 36, cellCh b8 [(.slice a5 l6 q7), (.bool a_0.xAccept)] 36, snapCh w0 F] ?_
          refine o_fad (dt 0 (fun _ m => m)) rfl rfl fld36_0 rfl ?_
          refine o_ldc (dt 1 (fun _ m => m)) (v := (.slice a5 l6 q7)) 1 rfl rfl rfl ty34 rfl ?_
          refine o_mv (dt 2 (fun _ m => m)) rfl rfl ?_
          refine o_idx (dt 3 (fun _ m => m)) 2 rfl (reads_snap hv1) rfl rfl rfl el34 ?_; intro e37 h38
          obtain ⟨_, ⟨v40, rfl, sl41⟩, rw39⟩ := sl_open hv1 h38
          refine o_ldR (dt 4 (fun _ m => m)) (u := v40) 2 rfl rw39 rfl rfl ty54 rfl ?_
          refine o_mv (dt 5 (fun _ m => m)) rfl rfl ?_
          refine o_idx (dt 6 (fun _ m => m)) 2 rfl (reads_snap sl41) rfl rfl rfl el54 ?_; intro e43 h44
          obtain ⟨_, ⟨v46, rfl, sl47⟩, rw45⟩ := sl_open sl41 h44
          refine o_ldR (dt 7 (fun _ m => m)) (u := (.agg #[v46, (.int .i64 e43.xAction), (.int .i64 e43.xChain)])) 2 rfl rw45 rfl rfl ty89 rfl ?_
          refine o_fad (dt 8 (fun _ m => m)) rfl rfl fld36_0 rfl ?_
          refine o_ldc (dt 9 (fun _ m => m)) (v := (.slice a10 l11 q12)) 0 rfl rfl rfl ty34 rfl ?_
          refine o_mv (dt 10 (fun _ m => m)) rfl rfl ?_
          refine o_idx (dt 11 (fun _ m => m)) 2 rfl (reads_snap hv3) rfl rfl rfl el34 ?_; intro e49 h50
          obtain ⟨_, ⟨v52, rfl, sl53⟩, rw51⟩ := sl_open hv3 h50
          refine o_ldR (dt 12 (fun _ m => m)) (u := v52) 2 rfl rw51 rfl rfl ty54 rfl ?_
          refine o_mv (dt 13 (fun _ m => m)) rfl rfl ?_
          refine o_idx (dt 14 (fun _ m => m)) 2 rfl (reads_snap sl53) rfl rfl rfl el54 ?_; intro e55 h56
          obtain ⟨_, ⟨v58, rfl, sl59⟩, rw57⟩ := sl_open sl53 h56
          refine o_ldR (dt 15 (fun _ m => m)) (u := (.agg #[v58, (.int .i64 e55.xAction), (.int .i64 e55.xChain)])) 2 rfl rw57 rfl rfl ty89 rfl ?_
          refine d_one (i := 16) rfl (by kernel_rfl) (o_callP (vs := [(.agg #[v46, (.int .i64 e43.xAction), (.int .i64 e43.xChain)]), (.agg #[v58, (.int .i64 e55.xAction), (.int .i64 e55.xChain)])]) Tryd.call52 rfl rfl (by intro w m h; exact (w_laws_sameRule (F := allB [] w) (a_0 := e43) (b_1 := e55) allB_ok (m.rd0 2 rfl (reads_snap sl47)) (m.rd0 2 rfl (reads_snap sl59)) h).mono (fun _ _ k => ret_free (fun r u => fr_nil) k)) ?_); rintro r61 _
          refine d_and (fun _ m => m) ?_
          refine o_not (dt 17 (fun _ m => m)) rfl rfl ?_
          refine d_done (by kernel_rfl) ?_
          refine l_then ?_
          refine c_cond rfl ?_ ?_
          · refine c_seq ?_
            refine c_region ?_
            refine o_as st rfl rfl ?_
            refine c_nil ?_
            refine l_then ?_
            refine c_ret ?_
            refine b_ret ?_
            refine l_ret ?_
            refine l_ret ?_
            refine b_ret ?_
            refine b_ret ?_
            refine l_ret ?_
            refine l_ret ?_
            refine b_ret ?_
            refine l_ret ?_
            exact l_end1 Tryd.results23 false () (rv_t rfl) (fun _ _ => NewCh.nil _ _ _ _)
          · refine c_skip ?_
            refine b_norm ?_
            refine l_then ?_
            refine c_region ?_
            refine o_mv st rfl rfl ?_
            refine o_add st rfl rfl rfl ?_; intro t62
            refine o_as st rfl rfl ?_
            refine c_nil ?_
            exact l_join t62 (fun a w hE hm => ⟨hE.sub ⟨rfl, rfl, rfl, rfl, trivial⟩, (hm.pick [0, 1, 2] rfl)⟩)
        · refine c_exit ?_
          refine l_exit ?_
          refine l_exit ?_
          refine b_exit ?_
          refine b_norm ?_
          refine l_then ?_
          refine c_region ?_
          refine o_mv st rfl rfl ?_
          refine o_add st rfl rfl rfl ?_; intro t63
          refine o_as st rfl rfl ?_
          refine c_nil ?_
          exact l_join t63 (fun a w hE hm => ⟨hE.sub ⟨rfl, rfl, rfl, trivial⟩, (hm.pick [0, 1, 2] rfl)⟩)
    · refine c_exit ?_
      refine l_exit ?_
      refine l_exit ?_
      refine b_exit ?_
      refine l_then ?_
      refine c_seq ?_
      refine c_region ?_
      refine o_fad st rfl rfl fld36_1 rfl ?_
      refine o_ldc st (v := (.bool a_0.xAccept)) 1 rfl rfl rfl ty4 rfl ?_
      refine o_fad st rfl rfl fld36_1 rfl ?_
      refine o_ldc st (v := (.bool b_1.xAccept)) 0 rfl rfl rfl ty4 rfl ?_
      refine o_eqlB st und4 rfl rfl rfl ?_
      refine o_as st rfl rfl ?_
      refine c_nil ?_
      refine l_then ?_
      refine c_ret ?_
      exact l_end1 Tryd.results23 (decide (a_0.xAccept = b_1.xAccept)) () (rv_t rfl) (fun _ _ => NewCh.nil _ _ _ _)

set_option maxRecDepth 100000 in
set_option maxHeartbeats 8000000 in
theorem w_laws_probe {w0 : World} {F : Nat → Prop} {v1 : Value} {list_0 : (List GBox)} {seed_1 : Int} {κ : GPacket → Prop} (hF : ∀ b, F b → b < w0.heap.size ∧ ¬ feet [] b) (hv1 : Sl elGBox F w0 v1 list_0) (h : L_laws_probe list_0 seed_1 κ) :
    Calls Tryd.prog 24 #[v1, (.int .i64 seed_1)] w0 (Ret [] F w0 κ (fun (r : GPacket) (u : Unit) => (.agg #[(.int .i64 r.xFrom), (.int .i64 r.xTo), (.int .i64 r.xPort), (.int .i64 r.xProto)])) (fun (r : GPacket) (u : Unit) => [])) := by
  refine enterS (args := [v1, (.int .i64 seed_1)]) [] hF (Given.nil _ _) Tryd.func24 rfl Tryd.ntmps24 rfl h ?_
  clear h hF
  refine c_seq ?_
  refine c_region ?_
  refine stw (o_alloc rfl [(.int .i64 0), (.int .i64 0), (.int .i64 0), (.int .i64 0)] zero49 ?_); intro b3
  refine c_nil ?_
  refine l_then ?_
  refine c_seq ?_
  refine c_region ?_
  refine o_mv st rfl rfl ?_
  refine o_rem st rfl rfl rfl ?_; intro t5
  refine o_mv st rfl rfl ?_
  refine o_quo st rfl rfl rfl ?_; intro t6
  refine o_rem st rfl rfl rfl ?_; intro t7
  refine o_mv st rfl rfl ?_
  refine o_rem st rfl rfl rfl ?_; intro t8
  refine o_mv st rfl rfl ?_
  refine o_rem st rfl rfl rfl ?_; intro t9
  refine o_bld st (qs := [(0, (.int .i64 t5)), (1, (.int .i64 t7)), (2, (.int .i64 t8)), (3, (.int .i64 t9))]) (cells := [(.int .i64 t5), (.int .i64 t7), (.int .i64 t8), (.int .i64 t9)]) (by intro ρ h; simp only [List.map_toArray, List.map_cons, List.map_nil, h (.tmp 12) _ rfl, h (.tmp 15) _ rfl, h (.tmp 17) _ rfl, h (.tmp 19) _ rfl]) rfl bld49 rfl ?_
  refine stw (o_alloc rfl [(.int .i64 0), (.int .i64 0), (.int .i64 0), (.int .i64 0)] zero49 ?_); intro b10
  refine stw (o_stc (cs' := [(.int .i64 t5), (.int .i64 t7), (.int .i64 t8), (.int .i64 t9)]) 0 rfl rfl rfl ty49 rfl rfl rfl rfl ?_)
  refine c_nil ?_
  refine l_then ?_
  refine c_seq ?_
  refine c_region ?_
  refine o_fad st rfl rfl fld49_0 rfl ?_
  refine o_ldc st (v := (.int .i64 t5)) 0 rfl rfl rfl ty3 rfl ?_
  refine o_fad st rfl rfl fld49_1 rfl ?_
  refine o_ldc st (v := (.int .i64 t7)) 0 rfl rfl rfl ty3 rfl ?_
  refine o_fad st rfl rfl fld49_2 rfl ?_
  refine o_ldc st (v := (.int .i64 t8)) 0 rfl rfl rfl ty3 rfl ?_
  refine o_fad st rfl rfl fld49_3 rfl ?_
  refine o_ldc st (v := (.int .i64 t9)) 0 rfl rfl rfl ty3 rfl ?_
  refine stw (o_bsl (enc := encInt) (qs := [(0, (.int .i64 t5)), (1, (.int .i64 t7)), (2, (.int .i64 t8)), (3, (.int .i64 t9))]) (cells := [(.int .i64 t5), (.int .i64 t7), (.int .i64 t8), (.int .i64 t9)]) ([t5, t7, t8, t9]) flelInt (by intro ρ h; simp only [List.map_toArray, List.map_cons, List.map_nil, h (.tmp 22) _ rfl, h (.tmp 24) _ rfl, h (.tmp 26) _ rfl, h (.tmp 28) _ rfl]) rfl el27 zero3 rfl rfl rfl rfl rfl rfl ?_); intro v12
  refine o_as st rfl rfl ?_
  refine c_nil ?_
  refine l_then ?_
  refine c_seq ?_
  refine c_seq ?_
  refine c_region ?_
  refine o_as st rfl rfl ?_
  refine c_nil ?_
  refine l_then ?_
  refine c_block ?_
  refine c_loop (σ := ((List Int) × Int)) (fun ((xs14, t16) : ((List Int) × Int)) (a : Act) (w : World) => Has 107 [(0, v1), (1, (.int .i64 seed_1)), (4, (.pointer (some ⟨b3, 0, none⟩))), (6, v12), (7, (.int .i64 t16))] a ∧ Mem (gB F [] w0) (feet []) w0 [ownCh elInt 3 v12 xs14, cellCh b3 [(.int .i64 0), (.int .i64 0), (.int .i64 0), (.int .i64 0)] 49, snapCh w0 F] w) (fun a w hE hm => ⟨hE.sub ⟨rfl, rfl, rfl, rfl, rfl, trivial⟩, (hm.pick [0, 2, 3] rfl)⟩) ?_
  rintro nx17 ⟨xs14, t16⟩ a w ⟨hE, hm⟩ h
  refine nx_of hE hm h ?_
  clear hE hm h
  refine c_seq ?_
  refine c_seq ?_
  refine c_region ?_
  refine o_mv st rfl rfl ?_
  refine o_mv st rfl rfl ?_
  refine o_len st el51 2 rfl (reads_snap hv1) rfl rfl ?_
  refine o_lss st rfl rfl rfl ?_
  refine c_nil ?_
  refine l_then ?_
  refine c_cond rfl ?_ ?_
  · refine c_skip ?_
    refine l_then ?_
    refine c_seq ?_
    refine c_block ?_
    refine c_seq ?_
    refine c_region ?_
    refine o_as st rfl rfl ?_
    refine c_nil ?_
    refine l_then ?_
    refine c_block ?_
    refine c_loop (σ := ((List Int) × Int)) (fun ((xs18, t20) : ((List Int) × Int)) (a : Act) (w : World) => Has 107 [(0, v1), (1, (.int .i64 seed_1)), (4, (.pointer (some ⟨b3, 0, none⟩))), (6, v12), (7, (.int .i64 t16)), (8, (.int .i64 t20))] a ∧ Mem (gB F [] w0) (feet []) w0 [ownCh elInt 3 v12 xs18, cellCh b3 [(.int .i64 0), (.int .i64 0), (.int .i64 0), (.int .i64 0)] 49, snapCh w0 F] w) (fun a w hE hm => ⟨hE.sub ⟨rfl, rfl, rfl, rfl, rfl, rfl, trivial⟩, (hm.pick [0, 1, 2] rfl)⟩) ?_
    rintro nx21 ⟨xs18, t20⟩ a w ⟨hE, hm⟩ h
    refine nx_of hE hm h ?_
    clear hE hm h
    refine c_seq ?_
    refine c_join (σ := Bool) (fun (t88 : Bool) (a : Act) (w : World) => Has 107 [(0, v1), (1, (.int .i64 seed_1)), (4, (.pointer (some ⟨b3, 0, none⟩))), (6, v12), (7, (.int .i64 t16)), (8, (.int .i64 t20)), (47, (.bool t88))] a ∧ Mem (gB F [] w0) (feet []) w0 [ownCh elInt 3 v12 xs18, cellCh b3 [(.int .i64 0), (.int .i64 0), (.int .i64 0), (.int .i64 0)] 49, snapCh w0 F] w) ?_ ?_
    · intro k89
      refine c_region ?_
      refine o_mv st rfl rfl ?_
      refine o_lss st rfl rfl rfl ?_
      refine o_mv st rfl rfl ?_
      refine st_sp (dj := 38) rfl ?_ ?_
      · refine o_mv (st_g rfl rfl) rfl rfl ?_
        refine o_mv (st_g rfl rfl) rfl rfl ?_
        refine o_mv (st_g rfl rfl) rfl rfl ?_
        refine o_idx (st_g rfl rfl) 2 rfl (reads_snap hv1) rfl rfl rfl el51 ?_; intro e22 h23
        refine o_fadS (st_g rfl rfl) 2 rfl (reads_snap hv1) h23 rfl rfl fld85_0 rfl ?_
        obtain ⟨_, ⟨v25, rfl, sl26⟩, rw24⟩ := sl_open hv1 h23
        refine o_ldR (st_g rfl rfl) (u := v25) 2 rfl rw24 rfl rfl ty83 rfl ?_
        refine o_len (st_g rfl rfl) el83 2 rfl (reads_snap sl26) rfl rfl ?_
        refine o_lss (st_g rfl rfl) rfl rfl rfl ?_
        refine o_pickT st rfl rfl rfl ?_
        refine c_nil ?_
        exact l_join (decide (t20 < (e22.xSides.length : Int))) (fun a w hE hm => ⟨hE.sub ⟨rfl, rfl, rfl, rfl, rfl, rfl, rfl, trivial⟩, (hm.pick [0, 1, 2] rfl)⟩)
      · refine st_s rfl rfl rfl rfl ?_
        refine st_s rfl rfl rfl rfl ?_
        refine st_s rfl rfl rfl rfl ?_
        refine st_s rfl rfl rfl rfl ?_
        refine st_s rfl rfl rfl rfl ?_
        refine st_s rfl rfl rfl rfl ?_
        refine st_s rfl rfl rfl rfl ?_
        refine st_s rfl rfl rfl rfl ?_
        refine o_pickF st rfl rfl rfl ?_
        refine c_nil ?_
        exact l_join false (fun a w hE hm => ⟨hE.sub ⟨rfl, rfl, rfl, rfl, rfl, rfl, rfl, trivial⟩, (hm.pick [0, 1, 2] rfl)⟩)
    · rintro t88 a w ⟨hE, hm⟩ h
      refine nx_of hE hm h ?_
      clear hE hm h
      refine c_cond rfl ?_ ?_
      · refine c_skip ?_
        refine l_then ?_
        refine c_join (σ := (List Int)) (fun (xs241 : (List Int)) (a : Act) (w : World) => Has 107 [(0, v1), (1, (.int .i64 seed_1)), (4, (.pointer (some ⟨b3, 0, none⟩))), (6, v12), (7, (.int .i64 t16)), (8, (.int .i64 t20))] a ∧ Mem (gB F [] w0) (feet []) w0 [ownCh elInt 3 v12 xs241, cellCh b3 [(.int .i64 0), (.int .i64 0), (.int .i64 0), (.int .i64 0)] 49, snapCh w0 F] w) ?_ ?_
        · intro k243
          refine c_block ?_
          refine c_seq ?_
          refine c_region ?_
          refine o_mv st rfl rfl ?_
          refine o_mv st rfl rfl ?_
          refine o_idx st 2 rfl (reads_snap hv1) rfl rfl rfl el51 ?_; intro e90 h91
          refine o_fadS st 2 rfl (reads_snap hv1) h91 rfl rfl fld85_0 rfl ?_
          obtain ⟨_, ⟨v93, rfl, sl94⟩, rw92⟩ := sl_open hv1 h91
          refine o_ldR st (u := v93) 2 rfl rw92 rfl rfl ty83 rfl ?_
          refine o_mv st rfl rfl ?_
          refine o_idx st 2 rfl (reads_snap sl94) rfl rfl rfl el83 ?_; intro e96 h97
          obtain ⟨_, ⟨v99, rfl, sl100⟩, rw98⟩ := sl_open sl94 h97
          refine o_ldR st (u := v99) 2 rfl rw98 rfl rfl ty72 rfl ?_
          refine o_as st rfl rfl ?_
          refine c_nil ?_
          refine l_then ?_
          refine c_seq ?_
          refine c_join (σ := Bool) (fun (t165 : Bool) (a : Act) (w : World) => Has 107 [(0, v1), (1, (.int .i64 seed_1)), (4, (.pointer (some ⟨b3, 0, none⟩))), (6, v12), (7, (.int .i64 t16)), (8, (.int .i64 t20)), (9, v99), (69, (.bool t165))] a ∧ Mem (gB F [] w0) (feet []) w0 [ownCh elInt 3 v12 xs18, cellCh b3 [(.int .i64 0), (.int .i64 0), (.int .i64 0), (.int .i64 0)] 49, snapCh w0 F] w) ?_ ?_
          · intro k166
            refine c_region ?_
            refine o_mv st rfl rfl ?_
            refine o_len st el72 2 rfl (reads_snap sl100) rfl rfl ?_
            refine o_eql st und3 rfl rfl rfl ?_
            refine o_mv st rfl rfl ?_
            refine st_sp (dj := 61) rfl ?_ ?_
            · refine st_s rfl rfl rfl rfl ?_
              refine st_s rfl rfl rfl rfl ?_
              refine st_s rfl rfl rfl rfl ?_
              refine st_s rfl rfl rfl rfl ?_
              refine st_s rfl rfl rfl rfl ?_
              refine st_s rfl rfl rfl rfl ?_
              refine st_s rfl rfl rfl rfl ?_
              refine o_pickT st rfl rfl rfl ?_
              refine c_nil ?_
              exact l_join true (fun a w hE hm => ⟨hE.sub ⟨rfl, rfl, rfl, rfl, rfl, rfl, rfl, rfl, trivial⟩, (hm.pick [0, 1, 2] rfl)⟩)
            · refine o_mv (st_g rfl rfl) rfl rfl ?_
              refine o_mv (st_g rfl rfl) rfl rfl ?_
              refine o_add (st_g rfl rfl) rfl rfl rfl ?_; intro t102
              refine o_mv (st_g rfl rfl) rfl rfl ?_
              refine o_add (st_g rfl rfl) rfl rfl rfl ?_; intro t103
              refine o_rem (st_g rfl rfl) rfl rfl rfl ?_; intro t104
              refine o_eql (st_g rfl rfl) und3 rfl rfl rfl ?_
              refine o_pickF st rfl rfl rfl ?_
              refine c_nil ?_
              exact l_join (decide (t104 = 0)) (fun a w hE hm => ⟨hE.sub ⟨rfl, rfl, rfl, rfl, rfl, rfl, rfl, rfl, trivial⟩, (hm.pick [0, 1, 2] rfl)⟩)
          · rintro t165 a w ⟨hE, hm⟩ h
            refine nx_of hE hm h ?_
            clear hE hm h
            refine c_cond rfl ?_ ?_
            · refine c_exit ?_
              refine l_exit ?_
              refine b_exit ?_
              exact l_join xs18 (fun a w hE hm => ⟨hE.sub ⟨rfl, rfl, rfl, rfl, rfl, rfl, trivial⟩, (hm.pick [0, 1, 2] rfl)⟩)
            · refine c_skip ?_
              refine l_then ?_
              refine c_seq ?_
              refine c_region ?_
              refine o_mv st rfl rfl ?_
              refine o_mv st rfl rfl ?_
              refine o_mv st rfl rfl ?_
              refine o_add st rfl rfl rfl ?_; intro t167
              refine o_mv st rfl rfl ?_
              refine o_len st el72 2 rfl (reads_snap sl100) rfl rfl ?_
              refine o_rem st rfl rfl rfl ?_; intro t168
              refine o_idx st 2 rfl (reads_snap sl100) rfl rfl rfl el72 ?_; intro e169 h170
              refine o_lds st (enc := encGSpan) (u := (.agg #[(.int .i64 e169.xLo), (.int .i64 e169.xHi)])) 2 rfl (reads_snap sl100) flelGSpan rfl h170 rfl rfl ty71 rfl ?_
              refine stw (o_alloc rfl [(.int .i64 0), (.int .i64 0)] zero71 ?_); intro b171
              refine stw (o_stc (cs' := [(.int .i64 e169.xLo), (.int .i64 e169.xHi)]) 0 rfl rfl rfl ty71 rfl rfl rfl rfl ?_)
              refine c_nil ?_
              refine l_then ?_
              refine c_seq ?_
              refine c_region ?_
              refine o_mv st rfl rfl ?_
              refine o_mv st rfl rfl ?_
              refine o_fad st rfl rfl fld71_0 rfl ?_
              refine o_ldc st (v := (.int .i64 e169.xLo)) 0 rfl rfl rfl ty3 rfl ?_
              refine o_idx st 1 rfl reads_own rfl rfl rfl el27 ?_; intro e173 h174
              refine stw (o_sts (enc := encInt) (y' := e169.xLo) 1 rfl flelInt rfl h174 ty3 rfl rfl rfl rfl rfl rfl ?_)
              refine c_nil ?_
              refine l_then ?_
              refine c_seq ?_
              refine c_region ?_
              refine o_mv st rfl rfl ?_
              refine o_mv st rfl rfl ?_
              refine o_add st rfl rfl rfl ?_; intro t176
              refine o_rem st rfl rfl rfl ?_; intro t177
              refine o_eql st und3 rfl rfl rfl ?_
              refine c_nil ?_
              refine l_then ?_
              refine c_cond rfl ?_ ?_
              · refine c_region ?_
                refine o_mv st rfl rfl ?_
                refine o_mv st rfl rfl ?_
                refine o_fad st rfl rfl fld71_1 rfl ?_
                refine o_ldc st (v := (.int .i64 e169.xHi)) 0 rfl rfl rfl ty3 rfl ?_
                refine o_idx st 1 rfl reads_own rfl rfl rfl el27 ?_; intro e178 h179
                refine stw (o_sts (enc := encInt) (y' := e169.xHi) 1 rfl flelInt rfl h179 ty3 rfl rfl rfl rfl rfl rfl ?_)
                refine c_nil ?_
                refine b_norm ?_
                exact l_join ((xs18.set (t20).toNat e169.xLo).set (t20).toNat e169.xHi) (fun a w hE hm => ⟨hE.sub ⟨rfl, rfl, rfl, rfl, rfl, rfl, trivial⟩, (hm.pick [1, 2, 3] rfl)⟩)
              · refine c_skip ?_
                refine b_norm ?_
                exact l_join (xs18.set (t20).toNat e169.xLo) (fun a w hE hm => ⟨hE.sub ⟨rfl, rfl, rfl, rfl, rfl, rfl, trivial⟩, (hm.pick [1, 2, 3] rfl)⟩)
        · rintro xs241 a w ⟨hE, hm⟩ h
          refine nx_of hE hm h ?_
          clear hE hm h
          refine c_region ?_
          refine o_mv st rfl rfl ?_
          refine o_add st rfl rfl rfl ?_; intro t244
          refine o_as st rfl rfl ?_
          refine c_nil ?_
          exact l_join (xs241, t244) (fun a w hE hm => ⟨hE.sub ⟨rfl, rfl, rfl, rfl, rfl, rfl, trivial⟩, (hm.pick [0, 1, 2] rfl)⟩)
      · refine c_exit ?_
        refine l_exit ?_
        refine l_exit ?_
        refine b_exit ?_
        refine b_norm ?_
        refine l_then ?_
        refine c_region ?_
        refine o_mv st rfl rfl ?_
        refine o_add st rfl rfl rfl ?_; intro t245
        refine o_as st rfl rfl ?_
        refine c_nil ?_
        exact l_join (xs18, t245) (fun a w hE hm => ⟨hE.sub ⟨rfl, rfl, rfl, rfl, rfl, trivial⟩, (hm.pick [0, 1, 2] rfl)⟩)
  · refine c_exit ?_
    refine l_exit ?_
    refine l_exit ?_
    refine b_exit ?_
    refine l_then ?_
    refine c_seq ?_
    refine c_draw mixed 14 rfl [ownCh elInt 3 v12 xs14, snapCh w0 F] ?_
    refine o_mv (dt 0 (fun w m => m.pick [0, 2] rfl)) rfl rfl ?_
    refine o_idx (dt 1 (fun w m => m.pick [0, 2] rfl)) 0 rfl reads_own rfl rfl rfl el27 ?_; intro e246 h247
    refine o_lds (dt 2 (fun w m => m.pick [0, 2] rfl)) (enc := encInt) (u := (.int .i64 e246)) 0 rfl reads_own flelInt rfl h247 rfl rfl ty3 rfl ?_
    refine o_mv (dt 3 (fun w m => m.pick [0, 2] rfl)) rfl rfl ?_
    refine o_idx (dt 4 (fun w m => m.pick [0, 2] rfl)) 0 rfl reads_own rfl rfl rfl el27 ?_; intro e248 h249
    refine o_lds (dt 5 (fun w m => m.pick [0, 2] rfl)) (enc := encInt) (u := (.int .i64 e248)) 0 rfl reads_own flelInt rfl h249 rfl rfl ty3 rfl ?_
    refine o_mv (dt 6 (fun w m => m.pick [0, 2] rfl)) rfl rfl ?_
    refine o_idx (dt 7 (fun w m => m.pick [0, 2] rfl)) 0 rfl reads_own rfl rfl rfl el27 ?_; intro e250 h251
    refine o_lds (dt 8 (fun w m => m.pick [0, 2] rfl)) (enc := encInt) (u := (.int .i64 e250)) 0 rfl reads_own flelInt rfl h251 rfl rfl ty3 rfl ?_
    refine o_mv (dt 9 (fun w m => m.pick [0, 2] rfl)) rfl rfl ?_
    refine o_idx (dt 10 (fun w m => m.pick [0, 2] rfl)) 0 rfl reads_own rfl rfl rfl el27 ?_; intro e252 h253
    refine o_lds (dt 11 (fun w m => m.pick [0, 2] rfl)) (enc := encInt) (u := (.int .i64 e252)) 0 rfl reads_own flelInt rfl h253 rfl rfl ty3 rfl ?_
    refine o_bld (dt 12 (fun w m => m.pick [0, 2] rfl)) (qs := [(0, (.int .i64 e246)), (1, (.int .i64 e248)), (2, (.int .i64 e250)), (3, (.int .i64 e252))]) (cells := [(.int .i64 e246), (.int .i64 e248), (.int .i64 e250), (.int .i64 e252)]) (by intro ρ h; simp only [List.map_toArray, List.map_cons, List.map_nil, h (.tmp 96) _ rfl, h (.tmp 99) _ rfl, h (.tmp 102) _ rfl, h (.tmp 105) _ rfl]) rfl bld49 rfl ?_
    refine d_one (i := 13) rfl (by kernel_rfl) (o_stc (cs' := [(.int .i64 e246), (.int .i64 e248), (.int .i64 e250), (.int .i64 e252)]) 1 rfl rfl rfl ty49 rfl rfl rfl rfl ?_)
    refine d_and (fun w m => m.pick [0, 2] rfl) ?_
    refine d_done (by kernel_rfl) ?_
    refine l_then ?_
    refine c_ret ?_
    exact l_end1 Tryd.results24 (GPacket.mk e246 e248 e250 e252) () (rv_c 1 rfl rfl ty49 rfl) (fun _ _ => NewCh.nil _ _ _ _)

set_option maxRecDepth 100000 in
set_option maxHeartbeats 8000000 in
theorem w_impl_sides_box {w0 : World} {F : Nat → Prop} {v1 : Value} {v3 : Value} {v5 : Value} {v7 : Value} {s_0 : A4ListGSpan} {κ : GBox → Prop} (hF : ∀ b, F b → b < w0.heap.size ∧ ¬ feet [] b) (hv1 : Sl elGSpan F w0 v1 s_0.x0) (hv3 : Sl elGSpan F w0 v3 s_0.x1) (hv5 : Sl elGSpan F w0 v5 s_0.x2) (hv7 : Sl elGSpan F w0 v7 s_0.x3) (h : L_impl_sides_box s_0 κ) :
    Calls Tryd.prog 87 #[(.agg #[v1, v3, v5, v7])] w0 (Ret [] F w0 κ (fun (r : GBox) (u : Value × List Nat) => (.agg #[u.1])) (fun (r : GBox) (u : Value × List Nat) => [dpCh (dSl dGSpan 71) 72 u.2 u.1 r.xSides])) := by
  refine enterS (args := [(.agg #[v1, v3, v5, v7])]) [] hF (Given.nil _ _) Tryd.func87 rfl Tryd.ntmps87 rfl h ?_
  clear h hF
  refine c_seq ?_
  refine c_region ?_
  obtain ⟨a9, l10, q11, hs_⟩ := sl_val hv1; subst hs_
  obtain ⟨a12, l13, q14, hs_⟩ := sl_val hv3; subst hs_
  obtain ⟨a15, l16, q17, hs_⟩ := sl_val hv5; subst hs_
  obtain ⟨a18, l19, q20, hs_⟩ := sl_val hv7; subst hs_
  refine stw (o_boxA (El' := (elSl elGSpan)) (len := 4) ([s_0.x0, s_0.x1, s_0.x2, s_0.x3]) ([[(.slice a9 l10 q11)], [(.slice a12 l13 q14)], [(.slice a15 l16 q17)], [(.slice a18 l19 q20)]]) (fun w m => ⟨⟨(.slice a9 l10 q11), rfl, (m.roS 0 rfl hv1)⟩, ⟨(.slice a12 l13 q14), rfl, (m.roS 0 rfl hv3)⟩, ⟨(.slice a15 l16 q17), rfl, (m.roS 0 rfl hv5)⟩, ⟨(.slice a18 l19 q20), rfl, (m.roS 0 rfl hv7)⟩, trivial⟩) rfl rfl rfl rfl rfl rfl ?_); intro b21
  refine stw (o_alloc rfl [(.slice none 0 0)] zero85 ?_); intro b23
  refine c_nil ?_
  refine l_then ?_
  refine c_seq ?_
  refine c_region ?_
  refine stw (o_makeD (E' := (dSl dGSpan 71)) (z := ([])) (fun w => ⟨_, rfl, Dp.nil⟩) rfl rfl rfl el83 rfl zero72 rfl ?_); intro bb27 v25 xs26
  refine nx_dp 0 rfl ?_; rintro a29 l30 q31 rfl
  refine o_bld st (qs := [(0, (.slice a29 l30 q31))]) (cells := [(.slice a29 l30 q31)]) (by intro ρ h; simp only [List.map_toArray, List.map_cons, List.map_nil, h (.tmp 6) _ rfl]) rfl bld85 rfl ?_
  refine stw (o_alloc rfl [(.slice none 0 0)] zero85 ?_); intro b32
  refine stw (o_stc (cs' := [(.slice a29 l30 q31)]) 0 rfl rfl rfl ty85 rfl rfl rfl rfl ?_)
  refine c_nil ?_
  refine l_then ?_
  refine c_seq ?_
  refine c_seq ?_
  refine c_region ?_
  refine stw (o_ldAN (len := 4) 3 rfl src_own rfl rfl rfl ty114 rfl ?_); rintro wr34 ff35 _ hrows_; obtain ⟨_, _, _, _, rfl, hc0_, hc1_, hc2_, hc3_⟩ := rows_l4 hrows_; obtain ⟨v37, rfl, sl38⟩ := hc0_; obtain ⟨v40, rfl, sl41⟩ := hc1_; obtain ⟨v43, rfl, sl44⟩ := hc2_; obtain ⟨v46, rfl, sl47⟩ := hc3_; refine ⟨[v37, v40, v43, v46], rfl, ?_⟩
  refine o_mv st rfl rfl ?_
  refine c_nil ?_
  refine l_then ?_
  refine c_block ?_
  refine c_loop (σ := ((List (List GSpan)) × Int)) (fun ((xs50, t54) : ((List (List GSpan)) × Int)) (a : Act) (w : World) => ∃ (v49 : Value) (bb52 : List Nat), Has 21 [(2, (.pointer (some ⟨b23, 0, none⟩))), (3, (.pointer (some ⟨b32, 0, none⟩))), (8, (.agg #[v37, v40, v43, v46])), (9, (.int .i64 t54))] a ∧ Mem (gB F [] w0) (feet []) w0 [cellCh b32 [v49] 85, cellCh b23 [(.slice none 0 0)] 85, snapCh wr34 ff35, dpCh (dSl dGSpan 71) 72 bb52 v49 xs50] w) (fun a w hE hm => ⟨(.slice a29 l30 q31), bb27, hE.sub ⟨rfl, rfl, rfl, rfl, trivial⟩, (hm.pick [1, 3, 0, 2] rfl)⟩) ?_
  rintro nx55 ⟨xs50, t54⟩ a w ⟨v49, bb52, hE, hm⟩ h
  refine nx_of hE hm h ?_
  clear hE hm h
  refine c_seq ?_
  refine c_region ?_
  refine o_lss st rfl rfl rfl ?_
  refine c_nil ?_
  refine l_then ?_
  refine c_seq ?_
  refine c_cond rfl ?_ ?_
  · refine c_skip ?_
    refine l_then ?_
    refine c_seq ?_
    refine c_block ?_
    refine c_seq ?_
    refine c_region ?_
    refine o_mv st rfl rfl ?_
    refine o_ixN st (vs := [v37, v40, v43, v46]) (xs := [s_0.x0, s_0.x1, s_0.x2, s_0.x3]) (fun w m => ⟨(m.roS 2 rfl sl38), (m.roS 2 rfl sl41), (m.roS 2 rfl sl44), (m.roS 2 rfl sl47), trivial⟩) rfl rfl rfl arr114 rfl ?_; intro v56 e57 h58
    refine o_as st rfl rfl ?_
    refine o_as st rfl rfl ?_
    refine c_nil ?_
    refine l_then ?_
    refine nx_dp 4 rfl ?_; rintro a60 l61 q62 rfl
    refine c_draw mixed 7 rfl [roCh elGSpan v56 e57, cellCh b32 [(.slice a60 l61 q62)] 85, cellCh b23 [(.slice none 0 0)] 85, snapCh wr34 ff35] ?_
    refine o_fad (dt 0 (fun w m => m.pick [0, 1, 2, 3] rfl)) rfl rfl fld85_0 rfl ?_
    refine o_ldc (dt 1 (fun w m => m.pick [0, 1, 2, 3] rfl)) (v := (.slice a60 l61 q62)) 1 rfl rfl rfl ty83 rfl ?_
    refine o_mv (dt 2 (fun w m => m.pick [0, 1, 2, 3] rfl)) rfl rfl ?_
    refine o_mv (dt 3 (fun w m => m.pick [0, 1, 2, 3] rfl)) rfl rfl ?_
    refine nx_nil elGSpan 71 ?_
    refine d_one (i := 4) rfl (by kernel_rfl) (o_app 0 1 rfl rfl (src_flat flelGSpan reads_ro) rfl rfl rfl el72 rfl zero71 rfl rfl ?_); intro v64
    refine d_and (fun w m => m.pick [1, 2, 3, 4] rfl) ?_
    refine d_one (i := 5) rfl (by kernel_rfl) (o_idx m_op 5 rfl reads_dp rfl rfl rfl el83 ?_); intro e66 h67
    refine d_and (fun w m => m.pick [1, 2, 3, 4] rfl) ?_
    refine nx_own 0 rfl ?_; rintro a68 l69 q70 rfl
    refine pk [5, 0, 1, 2, 3, 4] rfl ?_
    refine d_one (i := 6) rfl (by kernel_rfl) (o_stD (M := [ownCh elGSpan 71 (.slice a68 l69 q70) (([]) ++ e57)]) (y' := (([]) ++ e57)) rfl h67 (fun w B cz h => by obtain ⟨u, rfl, _⟩ := h; exact (absorb_one (gives_own flelGSpan) (fun B w h => ⟨_, rfl, h⟩))) ty72 rfl rfl rfl rfl rfl ?_); intro bb71
    refine d_and (fun w m => m.pick [1, 2, 3, 4] rfl) ?_
    refine d_done (by kernel_rfl) ?_
    refine b_norm ?_
    refine l_then ?_
    refine c_region ?_
    refine o_add st rfl rfl rfl ?_; intro t73
    refine o_mv st rfl rfl ?_
    refine c_nil ?_
    exact l_join ((xs50.set (t54).toNat (([]) ++ e57)), t73) (fun a w hE hm => ⟨(.slice a60 l61 q62), bb71, hE.sub ⟨rfl, rfl, rfl, rfl, trivial⟩, (hm.pick [2, 3, 4, 0] rfl)⟩)
  · refine c_exit ?_
    refine l_exit ?_
    refine l_exit ?_
    refine b_exit ?_
    refine l_then ?_
    refine c_seq ?_
    refine c_region ?_
    refine o_ldc st (v := (.agg #[v49])) 0 rfl rfl rfl ty85 rfl ?_
    refine nx_dp 3 rfl ?_; rintro a74 l75 q76 rfl
    refine stw (o_stc (cs' := [(.slice a74 l75 q76)]) 1 rfl rfl rfl ty85 rfl rfl rfl rfl ?_)
    refine c_nil ?_
    refine l_then ?_
    refine c_ret ?_
    exact l_end1 Tryd.results87 (GBox.mk xs50) ((.slice a74 l75 q76), bb52) (rv_c 1 rfl rfl ty85 rfl) (fun w m => NewCh.ofB m [3] rfl)

set_option maxRecDepth 100000 in
set_option maxHeartbeats 8000000 in
theorem w_impl_boxesOf {w0 : World} {F : Nat → Prop} {v1 : Value} {list_0 : (List A4ListGSpan)} {κ : (List GBox) → Prop} (hF : ∀ b, F b → b < w0.heap.size ∧ ¬ feet [] b) (hv1 : Sl elA4ListGSpan F w0 v1 list_0) (h : L_impl_boxesOf list_0 κ) :
    Calls Tryd.prog 53 #[v1] w0 (Ret [] F w0 κ (fun (r : (List GBox)) (u : Value × List Nat) => u.1) (fun (r : (List GBox)) (u : Value × List Nat) => [dpCh dGBox 85 u.2 u.1 r])) := by
  refine enterS (args := [v1]) [] hF (Given.nil _ _) Tryd.func53 rfl Tryd.ntmps53 rfl h ?_
  clear h hF
  refine c_seq ?_
  refine c_region ?_
  refine stw (o_asd dGBox 85 rfl rfl ?_)
  refine c_nil ?_
  refine l_then ?_
  refine c_seq ?_
  refine c_region ?_
  refine o_mv st rfl rfl ?_
  refine o_len st el98 1 rfl (reads_snap hv1) rfl rfl ?_
  refine stw (o_makeD (E' := dGBox) (z := (GBox.mk ([]))) (fun w => ⟨_, rfl, Dp.nil⟩) rfl rfl rfl el51 rfl zero85 rfl ?_); intro bb6 v4 xs5
  refine o_as st rfl rfl ?_
  refine c_nil ?_
  refine l_then ?_
  refine c_seq ?_
  refine c_seq ?_
  refine c_region ?_
  refine o_mv st rfl rfl ?_
  refine o_len st el98 2 rfl (reads_snap hv1) rfl rfl ?_
  refine o_mv st rfl rfl ?_
  refine c_nil ?_
  refine l_then ?_
  refine c_block ?_
  refine c_loop (σ := ((List GBox) × Int)) (fun ((xs9, t13) : ((List GBox) × Int)) (a : Act) (w : World) => ∃ (v8 : Value) (bb11 : List Nat), Has 22 [(3, v8), (9, v1), (10, (.int .i64 (list_0.length : Int))), (11, (.int .i64 t13))] a ∧ Mem (gB F [] w0) (feet []) w0 [snapCh w0 F, dpCh dGBox 85 bb11 v8 xs9] w) (fun a w hE hm => ⟨v4, bb6, hE.sub ⟨rfl, rfl, rfl, rfl, trivial⟩, (hm.pick [2, 0] rfl)⟩) ?_
  rintro nx14 ⟨xs9, t13⟩ a w ⟨v8, bb11, hE, hm⟩ h
  refine nx_of hE hm h ?_
  clear hE hm h
  refine c_seq ?_
  refine c_region ?_
  refine o_lss st rfl rfl rfl ?_
  refine c_nil ?_
  refine l_then ?_
  refine c_seq ?_
  refine c_cond rfl ?_ ?_
  · refine c_skip ?_
    refine l_then ?_
    refine c_seq ?_
    refine c_block ?_
    refine c_seq ?_
    refine c_region ?_
    refine o_idx st 0 rfl (reads_snap hv1) rfl rfl rfl el98 ?_; intro e15 h16
    obtain ⟨_, ⟨⟨v18, v21, v24, v27⟩, rfl, ⟨sl19, sl22, sl25, sl28⟩⟩, rw17⟩ := sl_open hv1 h16
    refine o_ldR st (u := (.agg #[v18, v21, v24, v27])) 0 rfl rw17 rfl rfl ty114 rfl ?_
    refine stw (o_allocA (El' := (elSl elGSpan)) (z := ([] : (List GSpan))) (len := 4) (zs := [(.slice none 0 0)]) (fun F w => ⟨_, rfl, Sl.nil ..⟩) rfl zero114 rfl rfl ?_); intro b30
    obtain ⟨a32, l33, q34, hs_⟩ := sl_val sl19; subst hs_
    obtain ⟨a35, l36, q37, hs_⟩ := sl_val sl22; subst hs_
    obtain ⟨a38, l39, q40, hs_⟩ := sl_val sl25; subst hs_
    obtain ⟨a41, l42, q43, hs_⟩ := sl_val sl28; subst hs_
    refine stw (o_stA (El' := (elSl elGSpan)) (len := 4) 0 rfl ([e15.x0, e15.x1, e15.x2, e15.x3]) ([[(.slice a32 l33 q34)], [(.slice a35 l36 q37)], [(.slice a38 l39 q40)], [(.slice a41 l42 q43)]]) (fun w m => ⟨⟨(.slice a32 l33 q34), rfl, (m.roS 1 rfl sl19)⟩, ⟨(.slice a35 l36 q37), rfl, (m.roS 1 rfl sl22)⟩, ⟨(.slice a38 l39 q40), rfl, (m.roS 1 rfl sl25)⟩, ⟨(.slice a41 l42 q43), rfl, (m.roS 1 rfl sl28)⟩, trivial⟩) rfl rfl rfl rfl rfl rfl ty114 rfl rfl ?_)
    refine c_nil ?_
    refine l_then ?_
    refine c_region ?_
    refine o_mv st rfl rfl ?_
    refine stw (o_ldAN (len := 4) 0 rfl src_own rfl rfl rfl ty114 rfl ?_); rintro wr45 ff46 _ hrows_; obtain ⟨_, _, _, _, rfl, hc0_, hc1_, hc2_, hc3_⟩ := rows_l4 hrows_; obtain ⟨v48, rfl, sl49⟩ := hc0_; obtain ⟨v51, rfl, sl52⟩ := hc1_; obtain ⟨v54, rfl, sl55⟩ := hc2_; obtain ⟨v57, rfl, sl58⟩ := hc3_; refine ⟨[v48, v51, v54, v57], rfl, ?_⟩
    refine stw (o_callP (vs := [(.agg #[v48, v51, v54, v57])]) Tryd.call87 rfl rfl (by intro w m h; exact (w_impl_sides_box (F := allB [] w) (s_0 := e15) allB_ok (m.rd0 0 rfl (reads_snap sl49)) (m.rd0 0 rfl (reads_snap sl52)) (m.rd0 0 rfl (reads_snap sl55)) (m.rd0 0 rfl (reads_snap sl58)) h).mono (fun _ _ k => ret_free (fun r u => (fr_cons free_dp fr_nil)) k)) ?_); rintro r60 ⟨v61, bb62⟩
    refine nx_dp 0 rfl ?_; rintro a64 l65 q66 rfl
    refine stw (o_bslD (M := [dpCh (dSl dGSpan 71) 72 bb62 (.slice a64 l65 q66) r60.xSides]) (E' := dGBox) (qs := [(0, (.agg #[(.slice a64 l65 q66)]))]) (cs := [(.slice a64 l65 q66)]) r60 (absorb_one gives_dp (fun B w h => ⟨_, rfl, h⟩)) (by intro ρ h; simp only [List.map_toArray, List.map_cons, List.map_nil, h (.tmp 17) _ rfl]) rfl el51 zero85 rfl rfl rfl rfl ?_); intro bb68 v67
    refine pk [4, 0, 1, 2, 3] rfl ?_
    refine stw (o_appD rfl rfl rfl el51 rfl zero85 rfl rfl ?_); intro bb71 v70
    refine o_as st rfl rfl ?_
    refine c_nil ?_
    refine b_norm ?_
    refine l_then ?_
    refine c_region ?_
    refine o_add st rfl rfl rfl ?_; intro t73
    refine o_mv st rfl rfl ?_
    refine c_nil ?_
    exact l_join ((xs9 ++ ([r60])), t73) (fun a w hE hm => ⟨v70, bb71, hE.sub ⟨rfl, rfl, rfl, rfl, trivial⟩, (hm.pick [3, 0] rfl)⟩)
  · refine c_exit ?_
    refine l_exit ?_
    refine l_exit ?_
    refine b_exit ?_
    refine l_then ?_
    refine c_seq ?_
    refine c_region ?_
    refine o_mv st rfl rfl ?_
    refine o_as st rfl rfl ?_
    refine c_nil ?_
    refine l_then ?_
    refine c_ret ?_
    exact l_end1 Tryd.results53 xs9 (v8, bb11) (rv_t rfl) (fun w m => NewCh.ofB m [1] rfl)

set_option maxRecDepth 100000 in
set_option maxHeartbeats 8000000 in
theorem w_impl_FlatBoxes {w0 : World} {F : Nat → Prop} {v1 : Value} {list_0 : (List GFlat)} {κ : (List GBox) → Prop} (hF : ∀ b, F b → b < w0.heap.size ∧ ¬ feet [] b) (hv1 : Sl elGFlat F w0 v1 list_0) (hgl0 : Sl elGFieldShape F w0 (.slice (some ⟨0, 0, none⟩) 4 4) gl_impl_fieldShapes) (h : L_impl_FlatBoxes list_0 κ) :
    Calls Tryd.prog 25 #[v1] w0 (Ret [] F w0 κ (fun (r : (List GBox)) (u : Value × List Nat) => u.1) (fun (r : (List GBox)) (u : Value × List Nat) => [dpCh dGBox 85 u.2 u.1 r])) := by
  refine enterS (args := [v1]) [] hF (Given.nil _ _) Tryd.func25 rfl Tryd.ntmps25 rfl h ?_
  clear h hF
  refine c_seq ?_
  refine c_region ?_
  refine stw (o_asd dGBox 85 rfl rfl ?_)
  refine c_nil ?_
  refine l_then ?_
  refine c_seq ?_
  refine c_seq ?_
  refine c_region ?_
  refine o_mv st rfl rfl ?_
  refine stw (o_callP (vs := [v1]) Tryd.call32 rfl rfl (by intro w m h; exact (w_impl_FlatsValid (F := allB [] w) (list_0 := list_0) allB_ok (m.rd0 1 rfl (reads_snap hv1)) (m.rd0 1 rfl (reads_snap hgl0)) h).mono (fun _ _ k => ret_free (fun r u => fr_nil) k)) ?_); rintro r4 _
  refine o_not st rfl rfl ?_
  refine c_nil ?_
  refine l_then ?_
  refine c_cond rfl ?_ ?_
  · refine c_seq ?_
    refine c_region ?_
    refine stw (o_asd dGBox 85 rfl rfl ?_)
    refine c_nil ?_
    refine l_then ?_
    refine c_ret ?_
    refine l_ret ?_
    exact l_end1 Tryd.results25 ([]) ((.slice none 0 0), []) (rv_t rfl) (fun w m => NewCh.ofB m [0] rfl)
  · refine c_skip ?_
    refine l_then ?_
    refine c_seq ?_
    refine c_region ?_
    refine o_mv st rfl rfl ?_
    refine stw (o_callP (vs := [v1]) Tryd.call34 rfl rfl (by intro w m h; exact w_impl_flatsOf (list_0 := list_0) fz_ok0 (m.roS 1 rfl hv1) h) ?_); rintro r6 v7
    refine frz 0 rfl reads_own ?_
    refine stw (o_callP (vs := [v7]) Tryd.call54 rfl rfl (by intro w m h; exact w_impl_wheres (list_0 := r6) fz_ok0 (m.ro 0 rfl) h) ?_); rintro r9 v10
    refine stw (o_callP (vs := [v10]) Tryd.call53 rfl rfl (by intro w m h; exact (w_impl_boxesOf (F := allB [] w) (list_0 := r9) allB_ok (m.rd0 0 rfl reads_own) h).mono (fun _ _ k => ret_free (fun r u => (fr_cons free_dp fr_nil)) k)) ?_); rintro r12 ⟨v13, bb14⟩
    refine o_as st rfl rfl ?_
    refine c_nil ?_
    refine l_then ?_
    refine c_ret ?_
    exact l_end1 Tryd.results25 r12 (v13, bb14) (rv_t rfl) (fun w m => NewCh.ofB m [0] rfl)

set_option maxRecDepth 100000 in
set_option maxHeartbeats 8000000 in
theorem w_impl_TestValid {w0 : World} {F : Nat → Prop} {t_0 : GTest} {κ : Bool → Prop} (hF : ∀ b, F b → b < w0.heap.size ∧ ¬ feet [] b) (hgl0 : Sl elGFieldShape F w0 (.slice (some ⟨0, 0, none⟩) 4 4) gl_impl_fieldShapes) (h : L_impl_TestValid t_0 κ) :
    Calls Tryd.prog 126 #[(.agg #[(.int .i64 t_0.xField), (.int .i64 t_0.xLo), (.int .i64 t_0.xHi), (.bool t_0.xNot)])] w0 (Ret [] F w0 κ (fun (r : Bool) (u : Unit) => (.bool r)) (fun (r : Bool) (u : Unit) => [])) := by
  refine enterS (args := [(.agg #[(.int .i64 t_0.xField), (.int .i64 t_0.xLo), (.int .i64 t_0.xHi), (.bool t_0.xNot)])]) [] hF (Given.nil _ _) Tryd.func126 rfl Tryd.ntmps126 rfl h ?_
  clear h hF
  refine c_seq ?_
  refine c_region ?_
  refine stw (o_box rfl rfl [(.int .i64 t_0.xField), (.int .i64 t_0.xLo), (.int .i64 t_0.xHi), (.bool t_0.xNot)] rfl ?_); intro b1
  refine o_as st rfl rfl ?_
  refine c_nil ?_
  refine l_then ?_
  refine c_join (σ := Bool) (fun (t64 : Bool) (a : Act) (w : World) => Has 31 [(2, (.bool t64))] a ∧ Mem (gB F [] w0) (feet []) w0 [snapCh w0 F] w) ?_ ?_
  · intro k65
    refine c_draw mixed 29 rfl [cellCh b1 [(.int .i64 t_0.xField), (.int .i64 t_0.xLo), (.int .i64 t_0.xHi), (.bool t_0.xNot)] 125, snapCh w0 F] ?_
    refine o_fad (dt 0 (fun _ m => m)) rfl rfl fld125_0 rfl ?_
    refine o_ldc (dt 1 (fun _ m => m)) (v := (.int .i64 t_0.xField)) 0 rfl rfl rfl ty3 rfl ?_
    refine o_geq (dt 2 (fun _ m => m)) rfl rfl rfl ?_
    refine o_mv (dt 3 (fun _ m => m)) rfl rfl ?_
    refine st_sp (dj := 6) rfl ?_ ?_
    · refine o_fad (dtg 4 (fun _ m => m)) rfl rfl fld125_0 rfl ?_
      refine o_ldc (dtg 5 (fun _ m => m)) (v := (.int .i64 t_0.xField)) 0 rfl rfl rfl ty3 rfl ?_
      refine o_lss (dtg 6 (fun _ m => m)) rfl rfl rfl ?_
      refine o_pickT (dt 7 (fun _ m => m)) rfl rfl rfl ?_
      refine o_mv (dt 8 (fun _ m => m)) rfl rfl ?_
      refine st_sp (dj := 11) rfl ?_ ?_
      · refine o_fad (dtg 9 (fun _ m => m)) rfl rfl fld125_1 rfl ?_
        refine o_ldc (dtg 10 (fun _ m => m)) (v := (.int .i64 t_0.xLo)) 0 rfl rfl rfl ty3 rfl ?_
        refine o_geq (dtg 11 (fun _ m => m)) rfl rfl rfl ?_
        refine o_pickT (dt 12 (fun _ m => m)) rfl rfl rfl ?_
        refine o_mv (dt 13 (fun _ m => m)) rfl rfl ?_
        refine st_sp (dj := 16) rfl ?_ ?_
        · refine o_fad (dtg 14 (fun _ m => m)) rfl rfl fld125_1 rfl ?_
          refine o_ldc (dtg 15 (fun _ m => m)) (v := (.int .i64 t_0.xLo)) 0 rfl rfl rfl ty3 rfl ?_
          refine o_fad (dtg 16 (fun _ m => m)) rfl rfl fld125_2 rfl ?_
          refine o_ldc (dtg 17 (fun _ m => m)) (v := (.int .i64 t_0.xHi)) 0 rfl rfl rfl ty3 rfl ?_
          refine o_leq (dtg 18 (fun _ m => m)) rfl rfl rfl ?_
          refine o_pickT (dt 19 (fun _ m => m)) rfl rfl rfl ?_
          refine o_mv (dt 20 (fun _ m => m)) rfl rfl ?_
          refine st_sp (dj := 23) rfl ?_ ?_
          · refine o_fad (dtg 21 (fun _ m => m)) rfl rfl fld125_2 rfl ?_
            refine o_ldc (dtg 22 (fun _ m => m)) (v := (.int .i64 t_0.xHi)) 0 rfl rfl rfl ty3 rfl ?_
            refine o_fad (dtg 23 (fun _ m => m)) rfl rfl fld125_0 rfl ?_
            refine o_ldc (dtg 24 (fun _ m => m)) (v := (.int .i64 t_0.xField)) 0 rfl rfl rfl ty3 rfl ?_
            refine d_oneg (i := 25) rfl rfl rfl (by kernel_rfl) (o_callP (vs := [(.int .i64 t_0.xField)]) Tryd.call91 rfl rfl (by intro w m h; exact (w_impl_FieldTop (F := allB [] w) (n_0 := t_0.xField) allB_ok (m.rd0 1 rfl (reads_snap hgl0)) h).mono (fun _ _ k => ret_free (fun r u => fr_nil) k)) ?_); rintro r3 _
            refine d_and (fun _ m => m) ?_
            refine o_leq (dtg 26 (fun _ m => m)) rfl rfl rfl ?_
            refine o_pickT (dt 27 (fun _ m => m)) rfl rfl rfl ?_
            refine o_as (dt 28 (fun _ m => m)) rfl rfl ?_
            refine d_done (by kernel_rfl) ?_
            exact l_join (decide (t_0.xHi ≤ r3)) (fun a w hE hm => ⟨hE.sub ⟨rfl, trivial⟩, (hm.pick [1] rfl)⟩)
          · refine dsk 21 (fun _ m => m) rfl (by kernel_rfl) rfl rfl rfl rfl ?_
            refine dsk 22 (fun _ m => m) rfl (by kernel_rfl) rfl rfl rfl rfl ?_
            refine dsk 23 (fun _ m => m) rfl (by kernel_rfl) rfl rfl rfl rfl ?_
            refine dsk 24 (fun _ m => m) rfl (by kernel_rfl) rfl rfl rfl rfl ?_
            refine dsk 25 (fun _ m => m) rfl (by kernel_rfl) rfl rfl rfl rfl ?_
            refine dsk 26 (fun _ m => m) rfl (by kernel_rfl) rfl rfl rfl rfl ?_
            refine o_pickF (dt 27 (fun _ m => m)) rfl rfl rfl ?_
            refine o_as (dt 28 (fun _ m => m)) rfl rfl ?_
            refine d_done (by kernel_rfl) ?_
            exact l_join false (fun a w hE hm => ⟨hE.sub ⟨rfl, trivial⟩, (hm.pick [1] rfl)⟩)
        · refine dsk 14 (fun _ m => m) rfl (by kernel_rfl) rfl rfl rfl rfl ?_
          refine dsk 15 (fun _ m => m) rfl (by kernel_rfl) rfl rfl rfl rfl ?_
          refine dsk 16 (fun _ m => m) rfl (by kernel_rfl) rfl rfl rfl rfl ?_
          refine dsk 17 (fun _ m => m) rfl (by kernel_rfl) rfl rfl rfl rfl ?_
          refine dsk 18 (fun _ m => m) rfl (by kernel_rfl) rfl rfl rfl rfl ?_
          refine o_pickF (dt 19 (fun _ m => m)) rfl rfl rfl ?_
          refine o_mv (dt 20 (fun _ m => m)) rfl rfl ?_
          refine dsk 21 (fun _ m => m) rfl (by kernel_rfl) rfl rfl rfl rfl ?_
          refine dsk 22 (fun _ m => m) rfl (by kernel_rfl) rfl rfl rfl rfl ?_
          refine dsk 23 (fun _ m => m) rfl (by kernel_rfl) rfl rfl rfl rfl ?_
          refine dsk 24 (fun _ m => m) rfl (by kernel_rfl) rfl rfl rfl rfl ?_
          refine dsk 25 (fun _ m => m) rfl (by kernel_rfl) rfl rfl rfl rfl ?_
          refine dsk 26 (fun _ m => m) rfl (by kernel_rfl) rfl rfl rfl rfl ?_
          refine o_pickF (dt 27 (fun _ m => m)) rfl rfl rfl ?_
          refine o_as (dt 28 (fun _ m => m)) rfl rfl ?_
          refine d_done (by kernel_rfl) ?_
          exact l_join false (fun a w hE hm => ⟨hE.sub ⟨rfl, trivial⟩, (hm.pick [1] rfl)⟩)
      · refine dsk 9 (fun _ m => m) rfl (by kernel_rfl) rfl rfl rfl rfl ?_
        refine dsk 10 (fun _ m => m) rfl (by kernel_rfl) rfl rfl rfl rfl ?_
        refine dsk 11 (fun _ m => m) rfl (by kernel_rfl) rfl rfl rfl rfl ?_
        refine o_pickF (dt 12 (fun _ m => m)) rfl rfl rfl ?_
        refine o_mv (dt 13 (fun _ m => m)) rfl rfl ?_
        refine dsk 14 (fun _ m => m) rfl (by kernel_rfl) rfl rfl rfl rfl ?_
        refine dsk 15 (fun _ m => m) rfl (by kernel_rfl) rfl rfl rfl rfl ?_
        refine dsk 16 (fun _ m => m) rfl (by kernel_rfl) rfl rfl rfl rfl ?_
        refine dsk 17 (fun _ m => m) rfl (by kernel_rfl) rfl rfl rfl rfl ?_
        refine dsk 18 (fun _ m => m) rfl (by kernel_rfl) rfl rfl rfl rfl ?_
        refine o_pickF (dt 19 (fun _ m => m)) rfl rfl rfl ?_
        refine o_mv (dt 20 (fun _ m => m)) rfl rfl ?_
        refine dsk 21 (fun _ m => m) rfl (by kernel_rfl) rfl rfl rfl rfl ?_
        refine dsk 22 (fun _ m => m) rfl (by kernel_rfl) rfl rfl rfl rfl ?_
        refine dsk 23 (fun _ m => m) rfl (by kernel_rfl) rfl rfl rfl rfl ?_
        refine dsk 24 (fun _ m => m) rfl (by kernel_rfl) rfl rfl rfl rfl ?_
        refine dsk 25 (fun _ m => m) rfl (by kernel_rfl) rfl rfl rfl rfl ?_
        refine dsk 26 (fun _ m => m) rfl (by kernel_rfl) rfl rfl rfl rfl ?_
        refine o_pickF (dt 27 (fun _ m => m)) rfl rfl rfl ?_
        refine o_as (dt 28 (fun _ m => m)) rfl rfl ?_
        refine d_done (by kernel_rfl) ?_
        exact l_join false (fun a w hE hm => ⟨hE.sub ⟨rfl, trivial⟩, (hm.pick [1] rfl)⟩)
    · refine dsk 4 (fun _ m => m) rfl (by kernel_rfl) rfl rfl rfl rfl ?_
      refine dsk 5 (fun _ m => m) rfl (by kernel_rfl) rfl rfl rfl rfl ?_
      refine dsk 6 (fun _ m => m) rfl (by kernel_rfl) rfl rfl rfl rfl ?_
      refine o_pickF (dt 7 (fun _ m => m)) rfl rfl rfl ?_
      refine o_mv (dt 8 (fun _ m => m)) rfl rfl ?_
      refine dsk 9 (fun _ m => m) rfl (by kernel_rfl) rfl rfl rfl rfl ?_
      refine dsk 10 (fun _ m => m) rfl (by kernel_rfl) rfl rfl rfl rfl ?_
      refine dsk 11 (fun _ m => m) rfl (by kernel_rfl) rfl rfl rfl rfl ?_
      refine o_pickF (dt 12 (fun _ m => m)) rfl rfl rfl ?_
      refine o_mv (dt 13 (fun _ m => m)) rfl rfl ?_
      refine dsk 14 (fun _ m => m) rfl (by kernel_rfl) rfl rfl rfl rfl ?_
      refine dsk 15 (fun _ m => m) rfl (by kernel_rfl) rfl rfl rfl rfl ?_
      refine dsk 16 (fun _ m => m) rfl (by kernel_rfl) rfl rfl rfl rfl ?_
      refine dsk 17 (fun _ m => m) rfl (by kernel_rfl) rfl rfl rfl rfl ?_
      refine dsk 18 (fun _ m => m) rfl (by kernel_rfl) rfl rfl rfl rfl ?_
      refine o_pickF (dt 19 (fun _ m => m)) rfl rfl rfl ?_
      refine o_mv (dt 20 (fun _ m => m)) rfl rfl ?_
      refine dsk 21 (fun _ m => m) rfl (by kernel_rfl) rfl rfl rfl rfl ?_
      refine dsk 22 (fun _ m => m) rfl (by kernel_rfl) rfl rfl rfl rfl ?_
      refine dsk 23 (fun _ m => m) rfl (by kernel_rfl) rfl rfl rfl rfl ?_
      refine dsk 24 (fun _ m => m) rfl (by kernel_rfl) rfl rfl rfl rfl ?_
      refine dsk 25 (fun _ m => m) rfl (by kernel_rfl) rfl rfl rfl rfl ?_
      refine dsk 26 (fun _ m => m) rfl (by kernel_rfl) rfl rfl rfl rfl ?_
      refine o_pickF (dt 27 (fun _ m => m)) rfl rfl rfl ?_
      refine o_as (dt 28 (fun _ m => m)) rfl rfl ?_
      refine d_done (by kernel_rfl) ?_
      exact l_join false (fun a w hE hm => ⟨hE.sub ⟨rfl, trivial⟩, (hm.pick [1] rfl)⟩)
  · rintro t64 a w ⟨hE, hm⟩ h
    refine nx_of hE hm h ?_
    clear hE hm h
    refine c_ret ?_
    exact l_end1 Tryd.results126 t64 () (rv_t rfl) (fun _ _ => NewCh.nil _ _ _ _)

set_option maxRecDepth 100000 in
set_option maxHeartbeats 8000000 in
theorem w_impl_TestsValid {w0 : World} {F : Nat → Prop} {v1 : Value} {list_0 : (List GTest)} {κ : Bool → Prop} (hF : ∀ b, F b → b < w0.heap.size ∧ ¬ feet [] b) (hv1 : Sl elGTest F w0 v1 list_0) (hgl0 : Sl elGFieldShape F w0 (.slice (some ⟨0, 0, none⟩) 4 4) gl_impl_fieldShapes) (h : L_impl_TestsValid list_0 κ) :
    Calls Tryd.prog 110 #[v1] w0 (Ret [] F w0 κ (fun (r : Bool) (u : Unit) => (.bool r)) (fun (r : Bool) (u : Unit) => [])) := by
  refine enterS (args := [v1]) [] hF (Given.nil _ _) Tryd.func110 rfl Tryd.ntmps110 rfl h ?_
  clear h hF
  refine c_seq ?_
  refine c_region ?_
  refine o_as st rfl rfl ?_
  refine c_nil ?_
  refine l_then ?_
  refine c_seq ?_
  refine c_seq ?_
  refine c_region ?_
  refine o_mv st rfl rfl ?_
  refine o_len st el80 0 rfl (reads_snap hv1) rfl rfl ?_
  refine o_gtr st rfl rfl rfl ?_
  refine c_nil ?_
  refine l_then ?_
  refine c_cond rfl ?_ ?_
  · refine c_seq ?_
    refine c_region ?_
    refine o_as st rfl rfl ?_
    refine c_nil ?_
    refine l_then ?_
    refine c_ret ?_
    refine l_ret ?_
    exact l_end1 Tryd.results110 false () (rv_t rfl) (fun _ _ => NewCh.nil _ _ _ _)
  · refine c_skip ?_
    refine l_then ?_
    refine c_seq ?_
    refine c_seq ?_
    refine c_region ?_
    refine o_mv st rfl rfl ?_
    refine o_len st el80 0 rfl (reads_snap hv1) rfl rfl ?_
    refine o_mv st rfl rfl ?_
    refine c_nil ?_
    refine l_then ?_
    refine c_block ?_
    refine c_loop (σ := Int) (fun (t3 : Int) (a : Act) (w : World) => Has 18 [(8, v1), (9, (.int .i64 (list_0.length : Int))), (10, (.int .i64 t3))] a ∧ Mem (gB F [] w0) (feet []) w0 [snapCh w0 F] w) (fun a w hE hm => ⟨hE.sub ⟨rfl, rfl, rfl, trivial⟩, (hm.pick [0] rfl)⟩) ?_
    rintro nx4 t3 a w ⟨hE, hm⟩ h
    refine nx_of hE hm h ?_
    clear hE hm h
    refine c_seq ?_
    refine c_region ?_
    refine o_lss st rfl rfl rfl ?_
    refine c_nil ?_
    refine l_then ?_
    refine c_seq ?_
    refine c_cond rfl ?_ ?_
    · refine c_skip ?_
      refine l_then ?_
      refine c_seq ?_
      refine c_block ?_
      refine c_seq ?_
      refine c_region ?_
      refine o_idx st 0 rfl (reads_snap hv1) rfl rfl rfl el80 ?_; intro e5 h6
      refine o_lds st (enc := encGTest) (u := (.agg #[(.int .i64 e5.xField), (.int .i64 e5.xLo), (.int .i64 e5.xHi), (.bool e5.xNot)])) 0 rfl (reads_snap hv1) flelGTest rfl h6 rfl rfl ty125 rfl ?_
      refine stw (o_alloc rfl [(.int .i64 0), (.int .i64 0), (.int .i64 0), (.bool false)] zero125 ?_); intro b7
      refine stw (o_stc (cs' := [(.int .i64 e5.xField), (.int .i64 e5.xLo), (.int .i64 e5.xHi), (.bool e5.xNot)]) 0 rfl rfl rfl ty125 rfl rfl rfl rfl ?_)
      refine c_nil ?_
      refine l_then ?_
      refine c_seq ?_
      refine c_region ?_
      refine o_ldc st (v := (.agg #[(.int .i64 e5.xField), (.int .i64 e5.xLo), (.int .i64 e5.xHi), (.bool e5.xNot)])) 0 rfl rfl rfl ty125 rfl ?_
      refine stw (o_callP (vs := [(.agg #[(.int .i64 e5.xField), (.int .i64 e5.xLo), (.int .i64 e5.xHi), (.bool e5.xNot)])]) Tryd.call126 rfl rfl (by intro w m h; exact (w_impl_TestValid (F := allB [] w) (t_0 := e5) allB_ok (m.rd0 1 rfl (reads_snap hgl0)) h).mono (fun _ _ k => ret_free (fun r u => fr_nil) k)) ?_); rintro r9 _
      refine o_not st rfl rfl ?_
      refine c_nil ?_
      refine l_then ?_
      refine c_cond rfl ?_ ?_
      · refine c_seq ?_
        refine c_region ?_
        refine o_as st rfl rfl ?_
        refine c_nil ?_
        refine l_then ?_
        refine c_ret ?_
        refine b_ret ?_
        refine l_ret ?_
        refine l_ret ?_
        refine b_ret ?_
        refine l_ret ?_
        exact l_end1 Tryd.results110 false () (rv_t rfl) (fun _ _ => NewCh.nil _ _ _ _)
      · refine c_skip ?_
        refine b_norm ?_
        refine l_then ?_
        refine c_region ?_
        refine o_add st rfl rfl rfl ?_; intro t10
        refine o_mv st rfl rfl ?_
        refine c_nil ?_
        exact l_join t10 (fun a w hE hm => ⟨hE.sub ⟨rfl, rfl, rfl, trivial⟩, (hm.pick [1] rfl)⟩)
    · refine c_exit ?_
      refine l_exit ?_
      refine l_exit ?_
      refine b_exit ?_
      refine l_then ?_
      refine c_seq ?_
      refine c_region ?_
      refine o_as st rfl rfl ?_
      refine c_nil ?_
      refine l_then ?_
      refine c_ret ?_
      exact l_end1 Tryd.results110 true () (rv_t rfl) (fun _ _ => NewCh.nil _ _ _ _)

set_option maxRecDepth 100000 in
set_option maxHeartbeats 8000000 in
theorem w_impl_RuleValid {w0 : World} {F : Nat → Prop} {v1 : Value} {r_0 : GRule} {κ : Bool → Prop} (hF : ∀ b, F b → b < w0.heap.size ∧ ¬ feet [] b) (hv1 : Sl elGTest F w0 v1 r_0.xTests) (hgl0 : Sl elGFieldShape F w0 (.slice (some ⟨0, 0, none⟩) 4 4) gl_impl_fieldShapes) (h : L_impl_RuleValid r_0 κ) :
    Calls Tryd.prog 88 #[(.agg #[v1, (.int .i64 r_0.xAction), (.int .i64 r_0.xChain)])] w0 (Ret [] F w0 κ (fun (r : Bool) (u : Unit) => (.bool r)) (fun (r : Bool) (u : Unit) => [])) := by
  refine enterS (args := [(.agg #[v1, (.int .i64 r_0.xAction), (.int .i64 r_0.xChain)])]) [] hF (Given.nil _ _) Tryd.func88 rfl Tryd.ntmps88 rfl h ?_
  clear h hF
  refine c_seq ?_
  refine c_region ?_
  obtain ⟨a3, l4, q5, hs_⟩ := sl_val hv1; subst hs_
  refine stw (o_box rfl rfl [(.slice a3 l4 q5), (.int .i64 r_0.xAction), (.int .i64 r_0.xChain)] rfl ?_); intro b6
  refine o_as st rfl rfl ?_
  refine c_nil ?_
  refine l_then ?_
  refine c_seq ?_
  refine c_seq ?_
  refine c_region ?_
  refine o_fad st rfl rfl fld89_0 rfl ?_
  refine o_ldc st (v := (.slice a3 l4 q5)) 0 rfl rfl rfl ty80 rfl ?_
  refine stw (o_callP (vs := [(.slice a3 l4 q5)]) Tryd.call110 rfl rfl (by intro w m h; exact (w_impl_TestsValid (F := allB [] w) (list_0 := r_0.xTests) allB_ok (m.rd0 1 rfl (reads_snap hv1)) (m.rd0 1 rfl (reads_snap hgl0)) h).mono (fun _ _ k => ret_free (fun r u => fr_nil) k)) ?_); rintro r8 _
  refine o_not st rfl rfl ?_
  refine c_nil ?_
  refine l_then ?_
  refine c_cond rfl ?_ ?_
  · refine c_seq ?_
    refine c_region ?_
    refine o_as st rfl rfl ?_
    refine c_nil ?_
    refine l_then ?_
    refine c_ret ?_
    refine l_ret ?_
    exact l_end1 Tryd.results88 false () (rv_t rfl) (fun _ _ => NewCh.nil _ _ _ _)
  · refine c_skip ?_
    refine l_then ?_
    refine c_seq ?_
    refine c_seq ?_
    refine c_region ?_
    refine o_fad st rfl rfl fld89_1 rfl ?_
    refine o_ldc st (v := (.int .i64 r_0.xAction)) 0 rfl rfl rfl ty3 rfl ?_
    refine c_nil ?_
    refine l_then ?_
    refine c_block ?_
    refine c_seq ?_
    refine c_region ?_
    refine o_eql st und3 rfl rfl rfl ?_
    refine o_as st rfl rfl ?_
    refine c_nil ?_
    refine l_then ?_
    refine c_cond rfl ?_ ?_
    · refine c_join (σ := Bool) (fun (t69 : Bool) (a : Act) (w : World) => Has 27 [(2, (.bool t69))] a ∧ Mem (gB F [] w0) (feet []) w0 [snapCh w0 F] w) ?_ ?_
      · intro k70
        refine c_region ?_
        refine o_fad st rfl rfl fld89_2 rfl ?_
        refine o_ldc st (v := (.int .i64 r_0.xChain)) 0 rfl rfl rfl ty3 rfl ?_
        refine o_geq st rfl rfl rfl ?_
        refine o_mv st rfl rfl ?_
        refine st_sp (dj := 14) rfl ?_ ?_
        · refine o_fad (st_g rfl rfl) rfl rfl fld89_2 rfl ?_
          refine o_ldc (st_g rfl rfl) (v := (.int .i64 r_0.xChain)) 0 rfl rfl rfl ty3 rfl ?_
          refine o_lss (st_g rfl rfl) rfl rfl rfl ?_
          refine o_pickT st rfl rfl rfl ?_
          refine o_as st rfl rfl ?_
          refine c_nil ?_
          exact l_join (decide (r_0.xChain < 5)) (fun a w hE hm => ⟨hE.sub ⟨rfl, trivial⟩, (hm.pick [1] rfl)⟩)
        · refine st_s rfl rfl rfl rfl ?_
          refine st_s rfl rfl rfl rfl ?_
          refine st_s rfl rfl rfl rfl ?_
          refine o_pickF st rfl rfl rfl ?_
          refine o_as st rfl rfl ?_
          refine c_nil ?_
          exact l_join false (fun a w hE hm => ⟨hE.sub ⟨rfl, trivial⟩, (hm.pick [1] rfl)⟩)
      · rintro t69 a w ⟨hE, hm⟩ h
        refine nx_of hE hm h ?_
        clear hE hm h
        refine c_ret ?_
        refine b_ret ?_
        refine l_ret ?_
        exact l_end1 Tryd.results88 t69 () (rv_t rfl) (fun _ _ => NewCh.nil _ _ _ _)
    · refine c_join (σ := Bool) (fun (t131 : Bool) (a : Act) (w : World) => Has 27 [(1, (.pointer (some ⟨b6, 0, none⟩))), (19, (.bool t131))] a ∧ Mem (gB F [] w0) (feet []) w0 [cellCh b6 [(.slice a3 l4 q5), (.int .i64 r_0.xAction), (.int .i64 r_0.xChain)] 89, snapCh w0 F] w) ?_ ?_
      · intro k132
        refine c_seq ?_
        refine c_region ?_
        refine o_eql st und3 rfl rfl rfl ?_
        refine o_as st rfl rfl ?_
        refine c_nil ?_
        refine l_then ?_
        refine c_cond rfl ?_ ?_
        · refine c_skip ?_
          exact l_join (decide (r_0.xAction = 1)) (fun a w hE hm => ⟨hE.sub ⟨rfl, rfl, trivial⟩, (hm.pick [0, 1] rfl)⟩)
        · refine c_seq ?_
          refine c_region ?_
          refine o_eql st und3 rfl rfl rfl ?_
          refine o_as st rfl rfl ?_
          refine c_nil ?_
          refine l_then ?_
          refine c_cond rfl ?_ ?_
          · refine c_skip ?_
            exact l_join (decide (r_0.xAction = 2)) (fun a w hE hm => ⟨hE.sub ⟨rfl, rfl, trivial⟩, (hm.pick [0, 1] rfl)⟩)
          · refine c_seq ?_
            refine c_region ?_
            refine o_eql st und3 rfl rfl rfl ?_
            refine o_as st rfl rfl ?_
            refine c_nil ?_
            refine l_then ?_
            refine c_cond rfl ?_ ?_
            · refine c_skip ?_
              exact l_join (decide (r_0.xAction = 4)) (fun a w hE hm => ⟨hE.sub ⟨rfl, rfl, trivial⟩, (hm.pick [0, 1] rfl)⟩)
            · refine c_region ?_
              refine o_eql st und3 rfl rfl rfl ?_
              refine o_as st rfl rfl ?_
              refine c_nil ?_
              exact l_join (decide (r_0.xAction = 5)) (fun a w hE hm => ⟨hE.sub ⟨rfl, rfl, trivial⟩, (hm.pick [0, 1] rfl)⟩)
      · rintro t131 a w ⟨hE, hm⟩ h
        refine nx_of hE hm h ?_
        clear hE hm h
        refine c_cond rfl ?_ ?_
        · refine c_seq ?_
          refine c_region ?_
          refine o_fad st rfl rfl fld89_2 rfl ?_
          refine o_ldc st (v := (.int .i64 r_0.xChain)) 0 rfl rfl rfl ty3 rfl ?_
          refine o_eql st und3 rfl rfl rfl ?_
          refine o_as st rfl rfl ?_
          refine c_nil ?_
          refine l_then ?_
          refine c_ret ?_
          refine b_ret ?_
          refine l_ret ?_
          exact l_end1 Tryd.results88 (decide (r_0.xChain = 0)) () (rv_t rfl) (fun _ _ => NewCh.nil _ _ _ _)
        · refine c_skip ?_
          refine b_norm ?_
          refine l_then ?_
          refine c_seq ?_
          refine c_region ?_
          refine o_as st rfl rfl ?_
          refine c_nil ?_
          refine l_then ?_
          refine c_ret ?_
          exact l_end1 Tryd.results88 false () (rv_t rfl) (fun _ _ => NewCh.nil _ _ _ _)

set_option maxRecDepth 100000 in
set_option maxHeartbeats 8000000 in
theorem w_impl_RulesValid {w0 : World} {F : Nat → Prop} {v1 : Value} {list_0 : (List GRule)} {κ : Bool → Prop} (hF : ∀ b, F b → b < w0.heap.size ∧ ¬ feet [] b) (hv1 : Sl elGRule F w0 v1 list_0) (hgl0 : Sl elGFieldShape F w0 (.slice (some ⟨0, 0, none⟩) 4 4) gl_impl_fieldShapes) (h : L_impl_RulesValid list_0 κ) :
    Calls Tryd.prog 55 #[v1] w0 (Ret [] F w0 κ (fun (r : Bool) (u : Unit) => (.bool r)) (fun (r : Bool) (u : Unit) => [])) := by
  refine enterS (args := [v1]) [] hF (Given.nil _ _) Tryd.func55 rfl Tryd.ntmps55 rfl h ?_
  clear h hF
  refine c_seq ?_
  refine c_region ?_
  refine o_as st rfl rfl ?_
  refine c_nil ?_
  refine l_then ?_
  refine c_seq ?_
  refine c_seq ?_
  refine c_region ?_
  refine o_mv st rfl rfl ?_
  refine o_len st el54 0 rfl (reads_snap hv1) rfl rfl ?_
  refine o_gtr st rfl rfl rfl ?_
  refine c_nil ?_
  refine l_then ?_
  refine c_cond rfl ?_ ?_
  · refine c_seq ?_
    refine c_region ?_
    refine o_as st rfl rfl ?_
    refine c_nil ?_
    refine l_then ?_
    refine c_ret ?_
    refine l_ret ?_
    exact l_end1 Tryd.results55 false () (rv_t rfl) (fun _ _ => NewCh.nil _ _ _ _)
  · refine c_skip ?_
    refine l_then ?_
    refine c_seq ?_
    refine c_seq ?_
    refine c_region ?_
    refine o_mv st rfl rfl ?_
    refine o_len st el54 0 rfl (reads_snap hv1) rfl rfl ?_
    refine o_mv st rfl rfl ?_
    refine c_nil ?_
    refine l_then ?_
    refine c_block ?_
    refine c_loop (σ := Int) (fun (t3 : Int) (a : Act) (w : World) => Has 18 [(8, v1), (9, (.int .i64 (list_0.length : Int))), (10, (.int .i64 t3))] a ∧ Mem (gB F [] w0) (feet []) w0 [snapCh w0 F] w) (fun a w hE hm => ⟨hE.sub ⟨rfl, rfl, rfl, trivial⟩, (hm.pick [0] rfl)⟩) ?_
    rintro nx4 t3 a w ⟨hE, hm⟩ h
    refine nx_of hE hm h ?_
    clear hE hm h
    refine c_seq ?_
    refine c_region ?_
    refine o_lss st rfl rfl rfl ?_
    refine c_nil ?_
    refine l_then ?_
    refine c_seq ?_
    refine c_cond rfl ?_ ?_
    · refine c_skip ?_
      refine l_then ?_
      refine c_seq ?_
      refine c_block ?_
      refine c_seq ?_
      refine c_region ?_
      refine o_idx st 0 rfl (reads_snap hv1) rfl rfl rfl el54 ?_; intro e5 h6
      obtain ⟨_, ⟨v8, rfl, sl9⟩, rw7⟩ := sl_open hv1 h6
      refine o_ldR st (u := (.agg #[v8, (.int .i64 e5.xAction), (.int .i64 e5.xChain)])) 0 rfl rw7 rfl rfl ty89 rfl ?_
      refine stw (o_alloc rfl [(.slice none 0 0), (.int .i64 0), (.int .i64 0)] zero89 ?_); intro b11
      obtain ⟨a13, l14, q15, hs_⟩ := sl_val sl9; subst hs_
      refine stw (o_stc (cs' := [(.slice a13 l14 q15), (.int .i64 e5.xAction), (.int .i64 e5.xChain)]) 0 rfl rfl rfl ty89 rfl rfl rfl rfl ?_)
      refine c_nil ?_
      refine l_then ?_
      refine c_seq ?_
      refine c_region ?_
      refine o_ldc st (v := (.agg #[(.slice a13 l14 q15), (.int .i64 e5.xAction), (.int .i64 e5.xChain)])) 0 rfl rfl rfl ty89 rfl ?_
      refine stw (o_callP (vs := [(.agg #[(.slice a13 l14 q15), (.int .i64 e5.xAction), (.int .i64 e5.xChain)])]) Tryd.call88 rfl rfl (by intro w m h; exact (w_impl_RuleValid (F := allB [] w) (r_0 := e5) allB_ok (m.rd0 1 rfl (reads_snap sl9)) (m.rd0 1 rfl (reads_snap hgl0)) h).mono (fun _ _ k => ret_free (fun r u => fr_nil) k)) ?_); rintro r16 _
      refine o_not st rfl rfl ?_
      refine c_nil ?_
      refine l_then ?_
      refine c_cond rfl ?_ ?_
      · refine c_seq ?_
        refine c_region ?_
        refine o_as st rfl rfl ?_
        refine c_nil ?_
        refine l_then ?_
        refine c_ret ?_
        refine b_ret ?_
        refine l_ret ?_
        refine l_ret ?_
        refine b_ret ?_
        refine l_ret ?_
        exact l_end1 Tryd.results55 false () (rv_t rfl) (fun _ _ => NewCh.nil _ _ _ _)
      · refine c_skip ?_
        refine b_norm ?_
        refine l_then ?_
        refine c_region ?_
        refine o_add st rfl rfl rfl ?_; intro t17
        refine o_mv st rfl rfl ?_
        refine c_nil ?_
        exact l_join t17 (fun a w hE hm => ⟨hE.sub ⟨rfl, rfl, rfl, trivial⟩, (hm.pick [1] rfl)⟩)
    · refine c_exit ?_
      refine l_exit ?_
      refine l_exit ?_
      refine b_exit ?_
      refine l_then ?_
      refine c_seq ?_
      refine c_region ?_
      refine o_as st rfl rfl ?_
      refine c_nil ?_
      refine l_then ?_
      refine c_ret ?_
      exact l_end1 Tryd.results55 true () (rv_t rfl) (fun _ _ => NewCh.nil _ _ _ _)

set_option maxRecDepth 100000 in
set_option maxHeartbeats 8000000 in
theorem w_impl_callsIn {w0 : World} {F : Nat → Prop} {v1 : Value} {rules_0 : (List GRule)} {κ : (List Int) → Prop} (hF : ∀ b, F b → b < w0.heap.size ∧ ¬ feet [] b) (hv1 : Sl elGRule F w0 v1 rules_0) (h : L_impl_callsIn rules_0 κ) :
    Calls Tryd.prog 56 #[v1] w0 (Ret [] F w0 κ (fun (r : (List Int)) (u : Value) => u) (fun (r : (List Int)) (u : Value) => [ownCh elInt 3 u r])) := by
  refine enterS (args := [v1]) [] hF (Given.nil _ _) Tryd.func56 rfl Tryd.ntmps56 rfl h ?_
  clear h hF
  refine c_seq ?_
  refine c_region ?_
  refine stw (o_asn elInt 3 rfl rfl ?_)
  refine c_nil ?_
  refine l_then ?_
  refine c_seq ?_
  refine c_region ?_
  refine stw (o_allocA (El' := elBool) (z := (false : Bool)) (len := 5) (zs := [(.bool false)]) (fun F w => (flelBool _ _ _ _).2 rfl) rfl zero137 rfl rfl ?_); intro b4
  refine c_nil ?_
  refine l_then ?_
  refine c_seq ?_
  refine c_seq ?_
  refine c_region ?_
  refine o_mv st rfl rfl ?_
  refine o_len st el54 2 rfl (reads_snap hv1) rfl rfl ?_
  refine o_mv st rfl rfl ?_
  refine c_nil ?_
  refine l_then ?_
  refine c_block ?_
  refine c_loop (σ := ((List Bool) × Int)) (fun ((xs6, t8) : ((List Bool) × Int)) (a : Act) (w : World) => Has 34 [(3, (.pointer (some ⟨b4, 0, none⟩))), (9, v1), (10, (.int .i64 (rules_0.length : Int))), (11, (.int .i64 t8))] a ∧ Mem (gB F [] w0) (feet []) w0 [ownCh elBool 137 (.slice (some ⟨b4, 0, none⟩) 5 5) xs6, snapCh w0 F] w) (fun a w hE hm => ⟨hE.sub ⟨rfl, rfl, rfl, rfl, trivial⟩, (hm.pick [0, 2] rfl)⟩) ?_
  rintro nx9 ⟨xs6, t8⟩ a w ⟨hE, hm⟩ h
  refine nx_of hE hm h ?_
  clear hE hm h
  refine c_seq ?_
  refine c_region ?_
  refine o_lss st rfl rfl rfl ?_
  refine c_nil ?_
  refine l_then ?_
  refine c_seq ?_
  refine c_cond rfl ?_ ?_
  · refine c_skip ?_
    refine l_then ?_
    refine c_join (σ := (List Bool)) (fun (xs84 : (List Bool)) (a : Act) (w : World) => Has 34 [(3, (.pointer (some ⟨b4, 0, none⟩))), (9, v1), (10, (.int .i64 (rules_0.length : Int))), (11, (.int .i64 t8))] a ∧ Mem (gB F [] w0) (feet []) w0 [ownCh elBool 137 (.slice (some ⟨b4, 0, none⟩) 5 5) xs84, snapCh w0 F] w) ?_ ?_
    · intro k86
      refine c_block ?_
      refine c_seq ?_
      refine c_region ?_
      refine o_idx st 1 rfl (reads_snap hv1) rfl rfl rfl el54 ?_; intro e10 h11
      obtain ⟨_, ⟨v13, rfl, sl14⟩, rw12⟩ := sl_open hv1 h11
      refine o_ldR st (u := (.agg #[v13, (.int .i64 e10.xAction), (.int .i64 e10.xChain)])) 1 rfl rw12 rfl rfl ty89 rfl ?_
      refine stw (o_alloc rfl [(.slice none 0 0), (.int .i64 0), (.int .i64 0)] zero89 ?_); intro b16
      obtain ⟨a18, l19, q20, hs_⟩ := sl_val sl14; subst hs_
      refine stw (o_stc (cs' := [(.slice a18 l19 q20), (.int .i64 e10.xAction), (.int .i64 e10.xChain)]) 0 rfl rfl rfl ty89 rfl rfl rfl rfl ?_)
      refine c_nil ?_
      refine l_then ?_
      refine c_seq ?_
      refine c_region ?_
      refine o_fad st rfl rfl fld89_1 rfl ?_
      refine o_ldc st (v := (.int .i64 e10.xAction)) 0 rfl rfl rfl ty3 rfl ?_
      refine o_eql st und3 rfl rfl rfl ?_
      refine c_nil ?_
      refine l_then ?_
      refine c_cond rfl ?_ ?_
      · refine c_region ?_
        refine o_fad st rfl rfl fld89_2 rfl ?_
        refine o_ldc st (v := (.int .i64 e10.xChain)) 0 rfl rfl rfl ty3 rfl ?_
        refine o_ixa st 1 rfl reads_own rfl rfl rfl arr137 ?_; intro e21 h22
        refine stw (o_sts (enc := encBool) (y' := true) 1 rfl flelBool rfl h22 ty4 rfl rfl rfl rfl rfl rfl ?_)
        refine c_nil ?_
        refine b_norm ?_
        exact l_join (xs6.set (e10.xChain).toNat true) (fun a w hE hm => ⟨hE.sub ⟨rfl, rfl, rfl, rfl, trivial⟩, (hm.pick [1, 2] rfl)⟩)
      · refine c_skip ?_
        refine b_norm ?_
        exact l_join xs6 (fun a w hE hm => ⟨hE.sub ⟨rfl, rfl, rfl, rfl, trivial⟩, (hm.pick [1, 2] rfl)⟩)
    · rintro xs84 a w ⟨hE, hm⟩ h
      refine nx_of hE hm h ?_
      clear hE hm h
      refine c_region ?_
      refine o_add st rfl rfl rfl ?_; intro t87
      refine o_mv st rfl rfl ?_
      refine c_nil ?_
      exact l_join (xs84, t87) (fun a w hE hm => ⟨hE.sub ⟨rfl, rfl, rfl, rfl, trivial⟩, (hm.pick [0, 1] rfl)⟩)
  · refine c_exit ?_
    refine l_exit ?_
    refine l_exit ?_
    refine b_exit ?_
    refine l_then ?_
    refine c_seq ?_
    refine c_region ?_
    refine stw (o_asn elInt 3 rfl rfl ?_)
    refine c_nil ?_
    refine l_then ?_
    refine c_seq ?_
    refine c_seq ?_
    refine c_region ?_
    refine nx_unl5 1 rfl ?_; intro e89 e90 e91 e92 e93
    refine stw (o_ldA m_op (u := [(.bool e89), (.bool e90), (.bool e91), (.bool e92), (.bool e93)]) 1 rfl reads_own flelBool rfl rfl ty137 rfl rfl ?_)
    refine o_mv st rfl rfl ?_
    refine c_nil ?_
    refine l_then ?_
    refine c_block ?_
    refine c_loop (σ := ((List Int) × Int)) (fun ((xs96, t99) : ((List Int) × Int)) (a : Act) (w : World) => ∃ (v95 : Value), Has 34 [(6, v95), (22, (.agg #[(.bool e89), (.bool e90), (.bool e91), (.bool e92), (.bool e93)])), (23, (.int .i64 t99))] a ∧ Mem (gB F [] w0) (feet []) w0 [ownCh elInt 3 v95 xs96] w) (fun a w hE hm => ⟨(.slice none 0 0), hE.sub ⟨rfl, rfl, rfl, trivial⟩, (hm.pick [0] rfl)⟩) ?_
    rintro nx100 ⟨xs96, t99⟩ a w ⟨v95, hE, hm⟩ h
    refine nx_of hE hm h ?_
    clear hE hm h
    refine c_seq ?_
    refine c_region ?_
    refine o_lss st rfl rfl rfl ?_
    refine c_nil ?_
    refine l_then ?_
    refine c_seq ?_
    refine c_cond rfl ?_ ?_
    · refine c_skip ?_
      refine l_then ?_
      refine c_join (σ := (List Int)) (fun (xs166 : (List Int)) (a : Act) (w : World) => ∃ (v167 : Value), Has 34 [(6, v167), (22, (.agg #[(.bool e89), (.bool e90), (.bool e91), (.bool e92), (.bool e93)])), (23, (.int .i64 t99))] a ∧ Mem (gB F [] w0) (feet []) w0 [ownCh elInt 3 v167 xs166] w) ?_ ?_
      · intro k169
        refine c_block ?_
        refine c_seq ?_
        refine c_region ?_
        refine o_mv st rfl rfl ?_
        refine o_ixv st (enc := encBool) (zs := [e89, e90, e91, e92, e93]) (u := fun (e101 : Bool) => (.bool e101)) rfl rfl rfl arr137 rfl rfl (fun _ => rfl) (fun _ => rfl) ?_; intro e101
        refine o_as st rfl rfl ?_
        refine o_as st rfl rfl ?_
        refine c_nil ?_
        refine l_then ?_
        refine c_seq ?_
        refine c_region ?_
        refine o_mv st rfl rfl ?_
        refine c_nil ?_
        refine l_then ?_
        refine c_cond rfl ?_ ?_
        · refine c_region ?_
          refine o_mv st rfl rfl ?_
          refine o_mv st rfl rfl ?_
          refine stw (o_bsl (enc := encInt) (qs := [(0, (.int .i64 t99))]) (cells := [(.int .i64 t99)]) ([t99]) flelInt (by intro ρ h; simp only [List.map_toArray, List.map_cons, List.map_nil, h (.tmp 29) _ rfl]) rfl el27 zero3 rfl rfl rfl rfl rfl rfl ?_); intro v102
          refine stw (o_app 1 0 rfl rfl (src_flat flelInt reads_own) rfl rfl rfl el27 rfl zero3 rfl rfl ?_); intro v104
          refine o_as st rfl rfl ?_
          refine c_nil ?_
          refine b_norm ?_
          exact l_join (xs96 ++ ([t99])) (fun a w hE hm => ⟨v104, hE.sub ⟨rfl, rfl, rfl, trivial⟩, (hm.pick [1] rfl)⟩)
        · refine c_skip ?_
          refine b_norm ?_
          exact l_join xs96 (fun a w hE hm => ⟨v95, hE.sub ⟨rfl, rfl, rfl, trivial⟩, (hm.pick [0] rfl)⟩)
      · rintro xs166 a w ⟨v167, hE, hm⟩ h
        refine nx_of hE hm h ?_
        clear hE hm h
        refine c_region ?_
        refine o_add st rfl rfl rfl ?_; intro t170
        refine o_mv st rfl rfl ?_
        refine c_nil ?_
        exact l_join (xs166, t170) (fun a w hE hm => ⟨v167, hE.sub ⟨rfl, rfl, rfl, trivial⟩, (hm.pick [0] rfl)⟩)
    · refine c_exit ?_
      refine l_exit ?_
      refine l_exit ?_
      refine b_exit ?_
      refine l_then ?_
      refine c_seq ?_
      refine c_region ?_
      refine o_mv st rfl rfl ?_
      refine o_as st rfl rfl ?_
      refine c_nil ?_
      refine l_then ?_
      refine c_ret ?_
      exact l_end1 Tryd.results56 xs96 v95 (rv_t rfl) (fun w m => NewCh.ofB m [0] rfl)

end

end Go.Proofs.YtpbmhkfbggmofaaDoor
