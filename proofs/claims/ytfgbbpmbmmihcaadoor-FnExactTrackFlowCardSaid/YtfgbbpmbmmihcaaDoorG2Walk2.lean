/- The walks of the functions of this seat (printed), on. -/
import Derived.Test.YtfgbbpmbmmihcaaDoorG2Walk
set_option linter.unusedSimpArgs false
set_option linter.unusedVariables false
namespace Go.Proofs.YtfgbbpmbmmihcaaDoor
open Go.RowKit
set_option maxRecDepth 100000 in
set_option maxHeartbeats 8000000 in
theorem w_spec_l20Packet {w0 : World} {F : Nat → Prop} {b1 : Nat} {v2 : Value} {r_0_b : (List UInt8)} {r_0_p : Int} {n_1 : Int} {κ : (GPacket × Int) → Prop} (hg : Given [cellCh b1 [v2, (.int .i64 r_0_p)] 127] w0) (hv2 : Sl elU8 (fun b => b < w0.heap.size ∧ ¬ feet [cellCh b1 [v2, (.int .i64 r_0_p)] 127] b) w0 v2 r_0_b) (h : L_spec_l20Packet r_0_b r_0_p n_1 κ) :
    Calls Tryd.prog 94 #[(.pointer (some ⟨b1, 0, none⟩)), (.int .i64 n_1)] w0 (Ret [cellCh b1 [v2, (.int .i64 r_0_p)] 127] F w0 κ (fun (r : (GPacket × Int)) (u : Unit) => (.agg #[(.int .i64 r.1.xFrom), (.int .i64 r.1.xTo), (.int .i64 r.1.xPort), (.int .i64 r.1.xProto)])) (fun (r : (GPacket × Int)) (u : Unit) => [cellCh b1 [v2, (.int .i64 r.2)] 127])) := by
  refine enter (args := [(.pointer (some ⟨b1, 0, none⟩)), (.int .i64 n_1)]) [cellCh b1 [v2, (.int .i64 r_0_p)] 127] Tryd.func94 rfl Tryd.ntmps94 rfl [roCh elU8 v2 r_0_b] (hf_cons hf_nil) (hh_cons hv2 hh_nil) hg.lt hg.disj hg.hold h ?_
  clear h hg hv2
  refine c_seq ?_
  refine c_region ?_
  refine stw (o_alloc rfl [(.int .i64 0), (.int .i64 0), (.int .i64 0), (.int .i64 0)] zero30 ?_); intro b5
  refine c_nil ?_
  refine l_then ?_
  refine c_seq ?_
  refine c_region ?_
  refine o_mv st rfl rfl ?_
  refine pk [1, 0, 2] rfl ?_
  refine stw (o_call (vs := [(.pointer (some ⟨b1, 0, none⟩)), (.int .i64 20)]) (M0 := [cellCh b1 [v2, (.int .i64 r_0_p)] 127]) Tryd.call85 rfl rfl (by intro w m h; exact w_spec_l20Rd_pick (r_0_b := r_0_b) (r_0_p := r_0_p) (n_1 := 20) m.given (m.rdM 1 rfl reads_ro) h) ?_); rintro ⟨r7, r8⟩ _
  refine o_mv st rfl rfl ?_
  refine pk [0, 1, 2] rfl ?_
  refine stw (o_call (vs := [(.pointer (some ⟨b1, 0, none⟩)), (.int .i64 20)]) (M0 := [cellCh b1 [v2, (.int .i64 r8)] 127]) Tryd.call85 rfl rfl (by intro w m h; exact w_spec_l20Rd_pick (r_0_b := r_0_b) (r_0_p := r8) (n_1 := 20) m.given (m.rdM 1 rfl reads_ro) h) ?_); rintro ⟨r9, r10⟩ _
  refine o_mv st rfl rfl ?_
  refine pk [0, 1, 2] rfl ?_
  refine stw (o_call (vs := [(.pointer (some ⟨b1, 0, none⟩)), (.int .i64 256)]) (M0 := [cellCh b1 [v2, (.int .i64 r10)] 127]) Tryd.call85 rfl rfl (by intro w m h; exact w_spec_l20Rd_pick (r_0_b := r_0_b) (r_0_p := r10) (n_1 := 256) m.given (m.rdM 1 rfl reads_ro) h) ?_); rintro ⟨r11, r12⟩ _
  refine o_mv st rfl rfl ?_
  refine pk [0, 1, 2] rfl ?_
  refine stw (o_call (vs := [(.pointer (some ⟨b1, 0, none⟩)), (.int .i64 8)]) (M0 := [cellCh b1 [v2, (.int .i64 r12)] 127]) Tryd.call85 rfl rfl (by intro w m h; exact w_spec_l20Rd_pick (r_0_b := r_0_b) (r_0_p := r12) (n_1 := 8) m.given (m.rdM 1 rfl reads_ro) h) ?_); rintro ⟨r13, r14⟩ _
  refine o_bld st (qs := [(0, (.int .i64 r7)), (1, (.int .i64 r9)), (2, (.int .i64 r11)), (3, (.int .i64 r13))]) (cells := [(.int .i64 r7), (.int .i64 r9), (.int .i64 r11), (.int .i64 r13)]) (by intro ρ h; simp only [List.map_toArray, List.map_cons, List.map_nil, h (.tmp 7) _ rfl, h (.tmp 9) _ rfl, h (.tmp 11) _ rfl, h (.tmp 13) _ rfl]) rfl bld30 rfl ?_
  refine stw (o_alloc rfl [(.int .i64 0), (.int .i64 0), (.int .i64 0), (.int .i64 0)] zero30 ?_); intro b15
  refine stw (o_stc (cs' := [(.int .i64 r7), (.int .i64 r9), (.int .i64 r11), (.int .i64 r13)]) 0 rfl rfl rfl ty30 rfl rfl rfl rfl ?_)
  refine c_nil ?_
  refine l_then ?_
  refine c_join (σ := (Int × Int × Int × Int)) (fun ((t17, t18, t19, t20) : (Int × Int × Int × Int)) (a : Act) (w : World) => Has 71 [(0, (.pointer (some ⟨b1, 0, none⟩))), (1, (.int .i64 n_1)), (4, (.pointer (some ⟨b5, 0, none⟩))), (5, (.pointer (some ⟨b15, 0, none⟩)))] a ∧ Mem (fun _ => True) (feet [cellCh b1 [v2, (.int .i64 r_0_p)] 127]) w0 [cellCh b1 [v2, (.int .i64 t17)] 127, cellCh b15 [(.int .i64 t18), (.int .i64 t19), (.int .i64 t20), (.int .i64 r13)] 30, cellCh b5 [(.int .i64 0), (.int .i64 0), (.int .i64 0), (.int .i64 0)] 30, roCh elU8 v2 r_0_b] w) ?_ ?_
  · intro k21
    refine c_seq ?_
    refine c_region ?_
    refine o_mv st rfl rfl ?_
    refine pk [1, 0, 2, 3] rfl ?_
    refine stw (o_call (vs := [(.pointer (some ⟨b1, 0, none⟩)), (.int .i64 2)]) (M0 := [cellCh b1 [v2, (.int .i64 r14)] 127]) Tryd.call85 rfl rfl (by intro w m h; exact w_spec_l20Rd_pick (r_0_b := r_0_b) (r_0_p := r14) (n_1 := 2) m.given (m.rdM 2 rfl reads_ro) h) ?_); rintro ⟨r22, r23⟩ _
    refine o_eql st und3 rfl rfl rfl ?_
    refine c_nil ?_
    refine l_then ?_
    refine c_cond rfl ?_ ?_
    · refine c_seq ?_
      refine c_region ?_
      refine o_mv st rfl rfl ?_
      refine pk [0, 1, 2, 3] rfl ?_
      refine stw (o_call (vs := [(.pointer (some ⟨b1, 0, none⟩)), (.int .i64 256)]) (M0 := [cellCh b1 [v2, (.int .i64 r23)] 127]) Tryd.call85 rfl rfl (by intro w m h; exact w_spec_l20Rd_pick (r_0_b := r_0_b) (r_0_p := r23) (n_1 := 256) m.given (m.rdM 2 rfl reads_ro) h) ?_); rintro ⟨r24, r25⟩ _
      refine o_mul st rfl rfl rfl ?_; intro t26
      refine o_mv st rfl rfl ?_
      refine pk [0, 1, 2, 3] rfl ?_
      refine stw (o_call (vs := [(.pointer (some ⟨b1, 0, none⟩)), (.int .i64 256)]) (M0 := [cellCh b1 [v2, (.int .i64 r25)] 127]) Tryd.call85 rfl rfl (by intro w m h; exact w_spec_l20Rd_pick (r_0_b := r_0_b) (r_0_p := r25) (n_1 := 256) m.given (m.rdM 2 rfl reads_ro) h) ?_); rintro ⟨r27, r28⟩ _
      refine o_add st rfl rfl rfl ?_; intro t29
      refine o_fad st rfl rfl fld30_0 rfl ?_
      refine stw (o_stc (cs' := [(.int .i64 t29), (.int .i64 r9), (.int .i64 r11), (.int .i64 r13)]) 1 rfl rfl rfl ty3 rfl rfl rfl rfl ?_)
      refine c_nil ?_
      refine l_then ?_
      refine c_seq ?_
      refine c_region ?_
      refine o_mv st rfl rfl ?_
      refine pk [0, 1, 2, 3] rfl ?_
      refine stw (o_call (vs := [(.pointer (some ⟨b1, 0, none⟩)), (.int .i64 4)]) (M0 := [cellCh b1 [v2, (.int .i64 r28)] 127]) Tryd.call85 rfl rfl (by intro w m h; exact w_spec_l20Rd_pick (r_0_b := r_0_b) (r_0_p := r28) (n_1 := 4) m.given (m.rdM 2 rfl reads_ro) h) ?_); rintro ⟨r30, r31⟩ _
      refine o_mul st rfl rfl rfl ?_; intro t32
      refine o_mv st rfl rfl ?_
      refine pk [0, 1, 2, 3] rfl ?_
      refine stw (o_call (vs := [(.pointer (some ⟨b1, 0, none⟩)), (.int .i64 256)]) (M0 := [cellCh b1 [v2, (.int .i64 r31)] 127]) Tryd.call85 rfl rfl (by intro w m h; exact w_spec_l20Rd_pick (r_0_b := r_0_b) (r_0_p := r31) (n_1 := 256) m.given (m.rdM 2 rfl reads_ro) h) ?_); rintro ⟨r33, r34⟩ _
      refine o_add st rfl rfl rfl ?_; intro t35
      refine o_fad st rfl rfl fld30_1 rfl ?_
      refine stw (o_stc (cs' := [(.int .i64 t29), (.int .i64 t35), (.int .i64 r11), (.int .i64 r13)]) 1 rfl rfl rfl ty3 rfl rfl rfl rfl ?_)
      refine c_nil ?_
      refine l_then ?_
      refine c_region ?_
      refine o_mv st rfl rfl ?_
      refine pk [0, 1, 2, 3] rfl ?_
      refine stw (o_call (vs := [(.pointer (some ⟨b1, 0, none⟩)), (.int .i64 12)]) (M0 := [cellCh b1 [v2, (.int .i64 r34)] 127]) Tryd.call85 rfl rfl (by intro w m h; exact w_spec_l20Rd_pick (r_0_b := r_0_b) (r_0_p := r34) (n_1 := 12) m.given (m.rdM 2 rfl reads_ro) h) ?_); rintro ⟨r36, r37⟩ _
      refine o_fad st rfl rfl fld30_2 rfl ?_
      refine stw (o_stc (cs' := [(.int .i64 t29), (.int .i64 t35), (.int .i64 r36), (.int .i64 r13)]) 1 rfl rfl rfl ty3 rfl rfl rfl rfl ?_)
      refine c_nil ?_
      exact l_join (r37, t29, t35, r36) (fun a w hE hm => ⟨hE.sub ⟨rfl, rfl, rfl, rfl, trivial⟩, (hm.pick [0, 1, 2, 3] rfl)⟩)
    · refine c_skip ?_
      exact l_join (r23, r7, r9, r11) (fun a w hE hm => ⟨hE.sub ⟨rfl, rfl, rfl, rfl, trivial⟩, (hm.pick [0, 1, 2, 3] rfl)⟩)
  · rintro ⟨t17, t18, t19, t20⟩ a w ⟨hE, hm⟩ h
    refine nx_of hE hm h ?_
    clear hE hm h
    refine c_join (σ := (Int × Int × Int × Int × Int)) (fun ((t38, t39, t40, t41, t42) : (Int × Int × Int × Int × Int)) (a : Act) (w : World) => Has 71 [(4, (.pointer (some ⟨b5, 0, none⟩))), (5, (.pointer (some ⟨b15, 0, none⟩)))] a ∧ Mem (fun _ => True) (feet [cellCh b1 [v2, (.int .i64 r_0_p)] 127]) w0 [cellCh b1 [v2, (.int .i64 t38)] 127, cellCh b15 [(.int .i64 t39), (.int .i64 t40), (.int .i64 t41), (.int .i64 t42)] 30, cellCh b5 [(.int .i64 0), (.int .i64 0), (.int .i64 0), (.int .i64 0)] 30, roCh elU8 v2 r_0_b] w) ?_ ?_
    · intro k43
      refine c_seq ?_
      refine c_region ?_
      refine o_mv st rfl rfl ?_
      refine o_mv st rfl rfl ?_
      refine pk [0, 1, 2, 3] rfl ?_
      refine stw (o_call (vs := [(.pointer (some ⟨b1, 0, none⟩)), (.int .i64 n_1)]) (M0 := [cellCh b1 [v2, (.int .i64 t17)] 127]) Tryd.call96 rfl rfl (by intro w m h; exact w_spec_l20Rd_odd (r_0_b := r_0_b) (r_0_p := t17) (n_1 := n_1) m.given (m.rdM 2 rfl reads_ro) h) ?_); rintro ⟨r44, r45⟩ _
      refine c_nil ?_
      refine l_then ?_
      refine c_cond rfl ?_ ?_
      · refine c_seq ?_
        refine c_region ?_
        refine o_mv st rfl rfl ?_
        refine pk [0, 1, 2, 3] rfl ?_
        refine stw (o_call (vs := [(.pointer (some ⟨b1, 0, none⟩)), (.int .i64 4)]) (M0 := [cellCh b1 [v2, (.int .i64 r45)] 127]) Tryd.call85 rfl rfl (by intro w m h; exact w_spec_l20Rd_pick (r_0_b := r_0_b) (r_0_p := r45) (n_1 := 4) m.given (m.rdM 2 rfl reads_ro) h) ?_); rintro ⟨r46, r47⟩ _
        refine c_nil ?_
        refine l_then ?_
        refine c_block ?_
        refine c_seq ?_
        refine c_region ?_
        refine o_eql st und3 rfl rfl rfl ?_
        refine o_as st rfl rfl ?_
        refine c_nil ?_
        refine l_then ?_
        refine c_cond rfl ?_ ?_
        · refine c_region ?_
          refine stw (o_bsl (enc := encInt) (qs := [(0, (.int .i64 (-1))), (1, (.int .i64 65536))]) (cells := [(.int .i64 (-1)), (.int .i64 65536)]) ([(-1), 65536]) flelInt (by intro ρ h; simp only [List.map_toArray, List.map_cons, List.map_nil, h (.const (.int .i64 (-1))) _ rfl, h (.const (.int .i64 65536)) _ rfl]) rfl el115 zero3 rfl rfl rfl rfl rfl rfl ?_); intro v48
          refine o_mv st rfl rfl ?_
          refine pk [1, 0, 2, 3, 4] rfl ?_
          refine stw (o_call (vs := [(.pointer (some ⟨b1, 0, none⟩)), (.int .i64 2)]) (M0 := [cellCh b1 [v2, (.int .i64 r47)] 127]) Tryd.call85 rfl rfl (by intro w m h; exact w_spec_l20Rd_pick (r_0_b := r_0_b) (r_0_p := r47) (n_1 := 2) m.given (m.rdM 3 rfl reads_ro) h) ?_); rintro ⟨r50, r51⟩ _
          refine o_idx st 1 rfl reads_own rfl rfl rfl el115 ?_; intro e52 h53
          refine o_lds st (enc := encInt) (u := (.int .i64 e52)) 1 rfl reads_own flelInt rfl h53 rfl rfl ty3 rfl ?_
          refine o_fad st rfl rfl fld30_0 rfl ?_
          refine stw (o_stc (cs' := [(.int .i64 e52), (.int .i64 t19), (.int .i64 t20), (.int .i64 r13)]) 2 rfl rfl rfl ty3 rfl rfl rfl rfl ?_)
          refine c_nil ?_
          refine b_norm ?_
          exact l_join (r51, e52, t19, t20, r13) (fun a w hE hm => ⟨hE.sub ⟨rfl, rfl, trivial⟩, (hm.pick [0, 2, 3, 4] rfl)⟩)
        · refine c_seq ?_
          refine c_region ?_
          refine o_eql st und3 rfl rfl rfl ?_
          refine o_as st rfl rfl ?_
          refine c_nil ?_
          refine l_then ?_
          refine c_cond rfl ?_ ?_
          · refine c_region ?_
            refine stw (o_bsl (enc := encInt) (qs := [(0, (.int .i64 (-1))), (1, (.int .i64 65536))]) (cells := [(.int .i64 (-1)), (.int .i64 65536)]) ([(-1), 65536]) flelInt (by intro ρ h; simp only [List.map_toArray, List.map_cons, List.map_nil, h (.const (.int .i64 (-1))) _ rfl, h (.const (.int .i64 65536)) _ rfl]) rfl el115 zero3 rfl rfl rfl rfl rfl rfl ?_); intro v54
            refine o_mv st rfl rfl ?_
            refine pk [1, 0, 2, 3, 4] rfl ?_
            refine stw (o_call (vs := [(.pointer (some ⟨b1, 0, none⟩)), (.int .i64 2)]) (M0 := [cellCh b1 [v2, (.int .i64 r47)] 127]) Tryd.call85 rfl rfl (by intro w m h; exact w_spec_l20Rd_pick (r_0_b := r_0_b) (r_0_p := r47) (n_1 := 2) m.given (m.rdM 3 rfl reads_ro) h) ?_); rintro ⟨r56, r57⟩ _
            refine o_idx st 1 rfl reads_own rfl rfl rfl el115 ?_; intro e58 h59
            refine o_lds st (enc := encInt) (u := (.int .i64 e58)) 1 rfl reads_own flelInt rfl h59 rfl rfl ty3 rfl ?_
            refine o_fad st rfl rfl fld30_1 rfl ?_
            refine stw (o_stc (cs' := [(.int .i64 t18), (.int .i64 e58), (.int .i64 t20), (.int .i64 r13)]) 2 rfl rfl rfl ty3 rfl rfl rfl rfl ?_)
            refine c_nil ?_
            refine b_norm ?_
            exact l_join (r57, t18, e58, t20, r13) (fun a w hE hm => ⟨hE.sub ⟨rfl, rfl, trivial⟩, (hm.pick [0, 2, 3, 4] rfl)⟩)
          · refine c_seq ?_
            refine c_region ?_
            refine o_eql st und3 rfl rfl rfl ?_
            refine o_as st rfl rfl ?_
            refine c_nil ?_
            refine l_then ?_
            refine c_cond rfl ?_ ?_
            · refine c_region ?_
              refine stw (o_bsl (enc := encInt) (qs := [(0, (.int .i64 (-1))), (1, (.int .i64 256))]) (cells := [(.int .i64 (-1)), (.int .i64 256)]) ([(-1), 256]) flelInt (by intro ρ h; simp only [List.map_toArray, List.map_cons, List.map_nil, h (.const (.int .i64 (-1))) _ rfl, h (.const (.int .i64 256)) _ rfl]) rfl el115 zero3 rfl rfl rfl rfl rfl rfl ?_); intro v60
              refine o_mv st rfl rfl ?_
              refine pk [1, 0, 2, 3, 4] rfl ?_
              refine stw (o_call (vs := [(.pointer (some ⟨b1, 0, none⟩)), (.int .i64 2)]) (M0 := [cellCh b1 [v2, (.int .i64 r47)] 127]) Tryd.call85 rfl rfl (by intro w m h; exact w_spec_l20Rd_pick (r_0_b := r_0_b) (r_0_p := r47) (n_1 := 2) m.given (m.rdM 3 rfl reads_ro) h) ?_); rintro ⟨r62, r63⟩ _
              refine o_idx st 1 rfl reads_own rfl rfl rfl el115 ?_; intro e64 h65
              refine o_lds st (enc := encInt) (u := (.int .i64 e64)) 1 rfl reads_own flelInt rfl h65 rfl rfl ty3 rfl ?_
              refine o_fad st rfl rfl fld30_2 rfl ?_
              refine stw (o_stc (cs' := [(.int .i64 t18), (.int .i64 t19), (.int .i64 e64), (.int .i64 r13)]) 2 rfl rfl rfl ty3 rfl rfl rfl rfl ?_)
              refine c_nil ?_
              refine b_norm ?_
              exact l_join (r63, t18, t19, e64, r13) (fun a w hE hm => ⟨hE.sub ⟨rfl, rfl, trivial⟩, (hm.pick [0, 2, 3, 4] rfl)⟩)
            · refine c_region ?_
              refine stw (o_bsl (enc := encInt) (qs := [(0, (.int .i64 (-1))), (1, (.int .i64 8))]) (cells := [(.int .i64 (-1)), (.int .i64 8)]) ([(-1), 8]) flelInt (by intro ρ h; simp only [List.map_toArray, List.map_cons, List.map_nil, h (.const (.int .i64 (-1))) _ rfl, h (.const (.int .i64 8)) _ rfl]) rfl el115 zero3 rfl rfl rfl rfl rfl rfl ?_); intro v66
              refine o_mv st rfl rfl ?_
              refine pk [1, 0, 2, 3, 4] rfl ?_
              refine stw (o_call (vs := [(.pointer (some ⟨b1, 0, none⟩)), (.int .i64 2)]) (M0 := [cellCh b1 [v2, (.int .i64 r47)] 127]) Tryd.call85 rfl rfl (by intro w m h; exact w_spec_l20Rd_pick (r_0_b := r_0_b) (r_0_p := r47) (n_1 := 2) m.given (m.rdM 3 rfl reads_ro) h) ?_); rintro ⟨r68, r69⟩ _
              refine o_idx st 1 rfl reads_own rfl rfl rfl el115 ?_; intro e70 h71
              refine o_lds st (enc := encInt) (u := (.int .i64 e70)) 1 rfl reads_own flelInt rfl h71 rfl rfl ty3 rfl ?_
              refine o_fad st rfl rfl fld30_3 rfl ?_
              refine stw (o_stc (cs' := [(.int .i64 t18), (.int .i64 t19), (.int .i64 t20), (.int .i64 e70)]) 2 rfl rfl rfl ty3 rfl rfl rfl rfl ?_)
              refine c_nil ?_
              refine b_norm ?_
              exact l_join (r69, t18, t19, t20, e70) (fun a w hE hm => ⟨hE.sub ⟨rfl, rfl, trivial⟩, (hm.pick [0, 2, 3, 4] rfl)⟩)
      · refine c_skip ?_
        exact l_join (r45, t18, t19, t20, r13) (fun a w hE hm => ⟨hE.sub ⟨rfl, rfl, trivial⟩, (hm.pick [0, 1, 2, 3] rfl)⟩)
    · rintro ⟨t38, t39, t40, t41, t42⟩ a w ⟨hE, hm⟩ h
      refine nx_of hE hm h ?_
      clear hE hm h
      refine c_seq ?_
      refine c_region ?_
      refine o_ldc st (v := (.agg #[(.int .i64 t39), (.int .i64 t40), (.int .i64 t41), (.int .i64 t42)])) 1 rfl rfl rfl ty30 rfl ?_
      refine stw (o_stc (cs' := [(.int .i64 t39), (.int .i64 t40), (.int .i64 t41), (.int .i64 t42)]) 2 rfl rfl rfl ty30 rfl rfl rfl rfl ?_)
      refine c_nil ?_
      refine l_then ?_
      refine c_ret ?_
      exact l_end1 Tryd.results94 ((GPacket.mk t39 t40 t41 t42), t38) () (rv_c 2 rfl rfl ty30 rfl) (fun w m => NewCh.of m [0] rfl (fr_cons free_cell fr_nil))

set_option maxRecDepth 100000 in
set_option maxHeartbeats 8000000 in
theorem w_spec_l20Flows {w0 : World} {F : Nat → Prop} {b1 : Nat} {v2 : Value} {r_0_b : (List UInt8)} {r_0_p : Int} {n_1 : Int} {κ : ((List GFlow) × Int) → Prop} (hg : Given [cellCh b1 [v2, (.int .i64 r_0_p)] 127] w0) (hv2 : Sl elU8 (fun b => b < w0.heap.size ∧ ¬ feet [cellCh b1 [v2, (.int .i64 r_0_p)] 127] b) w0 v2 r_0_b) (h : L_spec_l20Flows r_0_b r_0_p n_1 κ) :
    Calls Tryd.prog 93 #[(.pointer (some ⟨b1, 0, none⟩)), (.int .i64 n_1)] w0 (Ret [cellCh b1 [v2, (.int .i64 r_0_p)] 127] F w0 κ (fun (r : ((List GFlow) × Int)) (u : Value) => u) (fun (r : ((List GFlow) × Int)) (u : Value) => [ownCh elGFlow 83 u (r.1), cellCh b1 [v2, (.int .i64 r.2)] 127])) := by
  refine enter (args := [(.pointer (some ⟨b1, 0, none⟩)), (.int .i64 n_1)]) [cellCh b1 [v2, (.int .i64 r_0_p)] 127] Tryd.func93 rfl Tryd.ntmps93 rfl [roCh elU8 v2 r_0_b] (hf_cons hf_nil) (hh_cons hv2 hh_nil) hg.lt hg.disj hg.hold h ?_
  clear h hg hv2
  refine c_seq ?_
  refine c_region ?_
  refine stw (o_asn elGFlow 83 rfl rfl ?_)
  refine c_nil ?_
  refine l_then ?_
  refine c_seq ?_
  refine c_region ?_
  refine stw (o_bsl (enc := encGFlow) (qs := []) (cells := []) ([]) flelGFlow (by intro ρ h; simp only [List.map_toArray, List.map_cons, List.map_nil]) rfl el26 zero83 rfl rfl rfl rfl rfl rfl ?_); intro v6
  refine o_as st rfl rfl ?_
  refine c_nil ?_
  refine l_then ?_
  refine c_seq ?_
  refine c_seq ?_
  refine c_region ?_
  refine o_mv st rfl rfl ?_
  refine pk [2, 0, 1, 3] rfl ?_
  refine stw (o_call (vs := [(.pointer (some ⟨b1, 0, none⟩)), (.int .i64 7)]) (M0 := [cellCh b1 [v2, (.int .i64 r_0_p)] 127]) Tryd.call85 rfl rfl (by intro w m h; exact w_spec_l20Rd_pick (r_0_b := r_0_b) (r_0_p := r_0_p) (n_1 := 7) m.given (m.rdM 2 rfl reads_ro) h) ?_); rintro ⟨r8, r9⟩ _
  refine o_as st rfl rfl ?_
  refine c_nil ?_
  refine l_then ?_
  refine c_block ?_
  refine c_loop (σ := (Int × (List GFlow) × Int)) (fun ((t10, xs12, t15) : (Int × (List GFlow) × Int)) (a : Act) (w : World) => ∃ (v13 : Value), Has 74 [(0, (.pointer (some ⟨b1, 0, none⟩))), (1, (.int .i64 n_1)), (5, v13), (6, (.int .i64 t15))] a ∧ Mem (fun _ => True) (feet [cellCh b1 [v2, (.int .i64 r_0_p)] 127]) w0 [cellCh b1 [v2, (.int .i64 t10)] 127, roCh elU8 v2 r_0_b, ownCh elGFlow 83 v13 xs12] w) (fun a w hE hm => ⟨v6, hE.sub ⟨rfl, rfl, rfl, rfl, trivial⟩, (hm.pick [0, 3, 1] rfl)⟩) ?_
  rintro nx16 ⟨t10, xs12, t15⟩ a w ⟨v13, hE, hm⟩ h
  refine nx_of hE hm h ?_
  clear hE hm h
  refine c_seq ?_
  refine c_seq ?_
  refine c_region ?_
  refine o_mv st rfl rfl ?_
  refine o_gtr st rfl rfl rfl ?_
  refine c_nil ?_
  refine l_then ?_
  refine c_cond rfl ?_ ?_
  · refine c_skip ?_
    refine l_then ?_
    refine c_seq ?_
    refine c_block ?_
    refine c_region ?_
    refine o_mv st rfl rfl ?_
    refine o_mv st rfl rfl ?_
    refine pk [0, 1, 2] rfl ?_
    refine stw (o_call (vs := [(.pointer (some ⟨b1, 0, none⟩)), (.int .i64 0)]) (M0 := [cellCh b1 [v2, (.int .i64 t10)] 127]) Tryd.call94 rfl rfl (by intro w m h; exact w_spec_l20Packet (r_0_b := r_0_b) (r_0_p := t10) (n_1 := 0) m.given (m.rdM 0 rfl reads_ro) h) ?_); rintro ⟨r17, r18⟩ _
    refine o_mv st rfl rfl ?_
    refine pk [0, 1, 2] rfl ?_
    refine stw (o_call (vs := [(.pointer (some ⟨b1, 0, none⟩)), (.int .i64 60)]) (M0 := [cellCh b1 [v2, (.int .i64 r18)] 127]) Tryd.call85 rfl rfl (by intro w m h; exact w_spec_l20Rd_pick (r_0_b := r_0_b) (r_0_p := r18) (n_1 := 60) m.given (m.rdM 0 rfl reads_ro) h) ?_); rintro ⟨r19, r20⟩ _
    refine stw (o_callP (vs := [v13, (.agg #[(.int .i64 r17.xFrom), (.int .i64 r17.xTo), (.int .i64 r17.xPort), (.int .i64 r17.xProto)]), (.int .i64 0), (.int .i64 r19)]) Tryd.call15 rfl rfl (by intro w m h; exact w_spec_TrackFlow (list_0 := xs12) (p_1 := r17) (now_2 := 0) (life_3 := r19) (m.rd0 2 rfl reads_own) h) ?_); rintro ⟨r21, r22⟩ v23
    refine o_mv st rfl rfl ?_
    refine o_ext st (vs := [v23, (.bool r22)]) rfl rfl rfl ?_
    refine o_ext st (vs := [v23, (.bool r22)]) rfl rfl rfl ?_
    refine o_as st rfl rfl ?_
    refine c_nil ?_
    refine b_norm ?_
    refine l_then ?_
    refine c_region ?_
    refine o_mv st rfl rfl ?_
    refine o_sub st rfl rfl rfl ?_; intro t25
    refine o_as st rfl rfl ?_
    refine c_nil ?_
    exact l_join (r20, r21, t25) (fun a w hE hm => ⟨v23, hE.sub ⟨rfl, rfl, rfl, rfl, trivial⟩, (hm.pick [1, 2, 0] rfl)⟩)
  · refine c_exit ?_
    refine l_exit ?_
    refine l_exit ?_
    refine b_exit ?_
    refine l_then ?_
    refine c_join (σ := (Int × (List GFlow))) (fun ((t26, xs28) : (Int × (List GFlow))) (a : Act) (w : World) => ∃ (v29 : Value), Has 74 [(0, (.pointer (some ⟨b1, 0, none⟩))), (1, (.int .i64 n_1)), (5, v29)] a ∧ Mem (fun _ => True) (feet [cellCh b1 [v2, (.int .i64 r_0_p)] 127]) w0 [cellCh b1 [v2, (.int .i64 t26)] 127, roCh elU8 v2 r_0_b, ownCh elGFlow 83 v29 xs28] w) ?_ ?_
    · intro k31
      refine c_seq ?_
      refine c_region ?_
      refine o_mv st rfl rfl ?_
      refine pk [0, 1, 2] rfl ?_
      refine stw (o_call (vs := [(.pointer (some ⟨b1, 0, none⟩)), (.int .i64 14)]) (M0 := [cellCh b1 [v2, (.int .i64 t10)] 127]) Tryd.call96 rfl rfl (by intro w m h; exact w_spec_l20Rd_odd (r_0_b := r_0_b) (r_0_p := t10) (n_1 := 14) m.given (m.rdM 0 rfl reads_ro) h) ?_); rintro ⟨r32, r33⟩ _
      refine c_nil ?_
      refine l_then ?_
      refine c_cond rfl ?_ ?_
      · refine c_seq ?_
        refine c_region ?_
        refine o_as st rfl rfl ?_
        refine c_nil ?_
        refine l_then ?_
        refine c_block ?_
        refine c_loop (σ := ((List GFlow) × Int)) (fun ((xs35, t38) : ((List GFlow) × Int)) (a : Act) (w : World) => ∃ (v36 : Value), Has 74 [(0, (.pointer (some ⟨b1, 0, none⟩))), (1, (.int .i64 n_1)), (5, v36), (7, (.int .i64 t38))] a ∧ Mem (fun _ => True) (feet [cellCh b1 [v2, (.int .i64 r_0_p)] 127]) w0 [cellCh b1 [v2, (.int .i64 r33)] 127, roCh elU8 v2 r_0_b, ownCh elGFlow 83 v36 xs35] w) (fun a w hE hm => ⟨v13, hE.sub ⟨rfl, rfl, rfl, rfl, trivial⟩, (hm.pick [0, 1, 2] rfl)⟩) ?_
        rintro nx39 ⟨xs35, t38⟩ a w ⟨v36, hE, hm⟩ h
        refine nx_of hE hm h ?_
        clear hE hm h
        refine c_seq ?_
        refine c_seq ?_
        refine c_region ?_
        refine o_mv st rfl rfl ?_
        refine o_len st el26 2 rfl reads_own rfl rfl ?_
        refine o_lss st rfl rfl rfl ?_
        refine c_nil ?_
        refine l_then ?_
        refine c_cond rfl ?_ ?_
        · refine c_skip ?_
          refine l_then ?_
          refine c_seq ?_
          refine c_block ?_
          refine c_region ?_
          refine o_mv st rfl rfl ?_
          refine o_mv st rfl rfl ?_
          refine o_add st rfl rfl rfl ?_; intro t40
          refine o_bld st (qs := [(0, (.int .i64 t40))]) (cells := [(.int .i64 t40), (.int .i64 0), (.int .i64 0), (.int .i64 0)]) (by intro ρ h; simp only [List.map_toArray, List.map_cons, List.map_nil, h (.tmp 33) _ rfl]) rfl bld30 rfl ?_
          refine o_bld st (qs := [(0, (.agg #[(.int .i64 t40), (.int .i64 0), (.int .i64 0), (.int .i64 0)])), (1, (.int .i64 30))]) (cells := [(.int .i64 t40), (.int .i64 0), (.int .i64 0), (.int .i64 0), (.int .i64 30)]) (by intro ρ h; simp only [List.map_toArray, List.map_cons, List.map_nil, h (.tmp 34) _ rfl, h (.const (.int .i64 30)) _ rfl]) rfl bld83 rfl ?_
          refine stw (o_bsl (enc := encGFlow) (qs := [(0, (.agg #[(.int .i64 t40), (.int .i64 0), (.int .i64 0), (.int .i64 0), (.int .i64 30)]))]) (cells := [(.int .i64 t40), (.int .i64 0), (.int .i64 0), (.int .i64 0), (.int .i64 30)]) ([(GFlow.mk (GPacket.mk t40 0 0 0) 30)]) flelGFlow (by intro ρ h; simp only [List.map_toArray, List.map_cons, List.map_nil, h (.tmp 35) _ rfl]) rfl el26 zero83 rfl rfl rfl rfl rfl rfl ?_); intro v41
          refine stw (o_app 3 0 rfl rfl reads_own (.inr flelGFlow.free) rfl rfl rfl el26 rfl zero83 rfl rfl ?_); intro v43
          refine o_as st rfl rfl ?_
          refine c_nil ?_
          refine b_norm ?_
          refine l_then ?_
          refine c_region ?_
          refine o_mv st rfl rfl ?_
          refine o_add st rfl rfl rfl ?_; intro t45
          refine o_as st rfl rfl ?_
          refine c_nil ?_
          exact l_join ((xs35 ++ ([(GFlow.mk (GPacket.mk t40 0 0 0) 30)])), t45) (fun a w hE hm => ⟨v43, hE.sub ⟨rfl, rfl, rfl, rfl, trivial⟩, (hm.pick [1, 2, 3] rfl)⟩)
        · refine c_exit ?_
          refine l_exit ?_
          refine l_exit ?_
          refine b_exit ?_
          exact l_join (r33, xs35) (fun a w hE hm => ⟨v36, hE.sub ⟨rfl, rfl, rfl, trivial⟩, (hm.pick [0, 1, 2] rfl)⟩)
      · refine c_skip ?_
        exact l_join (r33, xs12) (fun a w hE hm => ⟨v13, hE.sub ⟨rfl, rfl, rfl, trivial⟩, (hm.pick [0, 1, 2] rfl)⟩)
    · rintro ⟨t26, xs28⟩ a w ⟨v29, hE, hm⟩ h
      refine nx_of hE hm h ?_
      clear hE hm h
      refine c_join (σ := (Int × (List GFlow))) (fun ((t46, xs48) : (Int × (List GFlow))) (a : Act) (w : World) => ∃ (v49 : Value), Has 74 [(5, v49)] a ∧ Mem (fun _ => True) (feet [cellCh b1 [v2, (.int .i64 r_0_p)] 127]) w0 [cellCh b1 [v2, (.int .i64 t46)] 127, roCh elU8 v2 r_0_b, ownCh elGFlow 83 v49 xs48] w) ?_ ?_
      · intro k51
        refine c_seq ?_
        refine c_region ?_
        refine o_mv st rfl rfl ?_
        refine o_mv st rfl rfl ?_
        refine pk [0, 1, 2] rfl ?_
        refine stw (o_call (vs := [(.pointer (some ⟨b1, 0, none⟩)), (.int .i64 n_1)]) (M0 := [cellCh b1 [v2, (.int .i64 t26)] 127]) Tryd.call96 rfl rfl (by intro w m h; exact w_spec_l20Rd_odd (r_0_b := r_0_b) (r_0_p := t26) (n_1 := n_1) m.given (m.rdM 0 rfl reads_ro) h) ?_); rintro ⟨r52, r53⟩ _
        refine c_nil ?_
        refine l_then ?_
        refine c_cond rfl ?_ ?_
        · refine c_seq ?_
          refine c_region ?_
          refine o_mv st rfl rfl ?_
          refine pk [0, 1, 2] rfl ?_
          refine stw (o_call (vs := [(.pointer (some ⟨b1, 0, none⟩)), (.int .i64 4)]) (M0 := [cellCh b1 [v2, (.int .i64 r53)] 127]) Tryd.call85 rfl rfl (by intro w m h; exact w_spec_l20Rd_pick (r_0_b := r_0_b) (r_0_p := r53) (n_1 := 4) m.given (m.rdM 0 rfl reads_ro) h) ?_); rintro ⟨r54, r55⟩ _
          refine c_nil ?_
          refine l_then ?_
          refine c_block ?_
          refine c_seq ?_
          refine c_region ?_
          refine o_eql st und3 rfl rfl rfl ?_
          refine o_as st rfl rfl ?_
          refine c_nil ?_
          refine l_then ?_
          refine c_cond rfl ?_ ?_
          · refine c_region ?_
            refine o_mv st rfl rfl ?_
            refine o_mv st rfl rfl ?_
            refine pk [0, 1, 2] rfl ?_
            refine stw (o_call (vs := [(.pointer (some ⟨b1, 0, none⟩)), (.int .i64 1)]) (M0 := [cellCh b1 [v2, (.int .i64 r55)] 127]) Tryd.call94 rfl rfl (by intro w m h; exact w_spec_l20Packet (r_0_b := r_0_b) (r_0_p := r55) (n_1 := 1) m.given (m.rdM 0 rfl reads_ro) h) ?_); rintro ⟨r56, r57⟩ _
            refine o_bld st (qs := [(0, (.agg #[(.int .i64 r56.xFrom), (.int .i64 r56.xTo), (.int .i64 r56.xPort), (.int .i64 r56.xProto)]))]) (cells := [(.int .i64 r56.xFrom), (.int .i64 r56.xTo), (.int .i64 r56.xPort), (.int .i64 r56.xProto), (.int .i64 0)]) (by intro ρ h; simp only [List.map_toArray, List.map_cons, List.map_nil, h (.tmp 48) _ rfl]) rfl bld83 rfl ?_
            refine stw (o_bsl (enc := encGFlow) (qs := [(0, (.agg #[(.int .i64 r56.xFrom), (.int .i64 r56.xTo), (.int .i64 r56.xPort), (.int .i64 r56.xProto), (.int .i64 0)]))]) (cells := [(.int .i64 r56.xFrom), (.int .i64 r56.xTo), (.int .i64 r56.xPort), (.int .i64 r56.xProto), (.int .i64 0)]) ([(GFlow.mk r56 0)]) flelGFlow (by intro ρ h; simp only [List.map_toArray, List.map_cons, List.map_nil, h (.tmp 49) _ rfl]) rfl el26 zero83 rfl rfl rfl rfl rfl rfl ?_); intro v58
            refine stw (o_app 3 0 rfl rfl reads_own (.inr flelGFlow.free) rfl rfl rfl el26 rfl zero83 rfl rfl ?_); intro v60
            refine o_as st rfl rfl ?_
            refine c_nil ?_
            refine b_norm ?_
            exact l_join (r57, (xs28 ++ ([(GFlow.mk r56 0)]))) (fun a w hE hm => ⟨v60, hE.sub ⟨rfl, trivial⟩, (hm.pick [1, 2, 3] rfl)⟩)
          · refine c_seq ?_
            refine c_region ?_
            refine o_eql st und3 rfl rfl rfl ?_
            refine o_as st rfl rfl ?_
            refine c_nil ?_
            refine l_then ?_
            refine c_cond rfl ?_ ?_
            · refine c_region ?_
              refine o_mv st rfl rfl ?_
              refine o_bld st (qs := [(0, (.int .i64 7777))]) (cells := [(.int .i64 7777), (.int .i64 0), (.int .i64 0), (.int .i64 0)]) (by intro ρ h; simp only [List.map_toArray, List.map_cons, List.map_nil, h (.const (.int .i64 7777)) _ rfl]) rfl bld30 rfl ?_
              refine stw (o_bsl (enc := encInt) (qs := [(0, (.int .i64 (-1))), (1, (.int .i64 1000001))]) (cells := [(.int .i64 (-1)), (.int .i64 1000001)]) ([(-1), 1000001]) flelInt (by intro ρ h; simp only [List.map_toArray, List.map_cons, List.map_nil, h (.const (.int .i64 (-1))) _ rfl, h (.const (.int .i64 1000001)) _ rfl]) rfl el115 zero3 rfl rfl rfl rfl rfl rfl ?_); intro v62
              refine o_mv st rfl rfl ?_
              refine pk [1, 0, 2, 3] rfl ?_
              refine stw (o_call (vs := [(.pointer (some ⟨b1, 0, none⟩)), (.int .i64 2)]) (M0 := [cellCh b1 [v2, (.int .i64 r55)] 127]) Tryd.call85 rfl rfl (by intro w m h; exact w_spec_l20Rd_pick (r_0_b := r_0_b) (r_0_p := r55) (n_1 := 2) m.given (m.rdM 1 rfl reads_ro) h) ?_); rintro ⟨r64, r65⟩ _
              refine o_idx st 1 rfl reads_own rfl rfl rfl el115 ?_; intro e66 h67
              refine o_lds st (enc := encInt) (u := (.int .i64 e66)) 1 rfl reads_own flelInt rfl h67 rfl rfl ty3 rfl ?_
              refine o_bld st (qs := [(0, (.agg #[(.int .i64 7777), (.int .i64 0), (.int .i64 0), (.int .i64 0)])), (1, (.int .i64 e66))]) (cells := [(.int .i64 7777), (.int .i64 0), (.int .i64 0), (.int .i64 0), (.int .i64 e66)]) (by intro ρ h; simp only [List.map_toArray, List.map_cons, List.map_nil, h (.tmp 55) _ rfl, h (.tmp 60) _ rfl]) rfl bld83 rfl ?_
              refine stw (o_bsl (enc := encGFlow) (qs := [(0, (.agg #[(.int .i64 7777), (.int .i64 0), (.int .i64 0), (.int .i64 0), (.int .i64 e66)]))]) (cells := [(.int .i64 7777), (.int .i64 0), (.int .i64 0), (.int .i64 0), (.int .i64 e66)]) ([(GFlow.mk (GPacket.mk 7777 0 0 0) e66)]) flelGFlow (by intro ρ h; simp only [List.map_toArray, List.map_cons, List.map_nil, h (.tmp 61) _ rfl]) rfl el26 zero83 rfl rfl rfl rfl rfl rfl ?_); intro v68
              refine stw (o_app 4 0 rfl rfl reads_own (.inr flelGFlow.free) rfl rfl rfl el26 rfl zero83 rfl rfl ?_); intro v70
              refine o_as st rfl rfl ?_
              refine c_nil ?_
              refine b_norm ?_
              exact l_join (r65, (xs28 ++ ([(GFlow.mk (GPacket.mk 7777 0 0 0) e66)]))) (fun a w hE hm => ⟨v70, hE.sub ⟨rfl, trivial⟩, (hm.pick [1, 3, 4] rfl)⟩)
            · refine c_seq ?_
              refine c_region ?_
              refine o_eql st und3 rfl rfl rfl ?_
              refine o_as st rfl rfl ?_
              refine c_nil ?_
              refine l_then ?_
              refine c_cond rfl ?_ ?_
              · refine c_region ?_
                refine o_mv st rfl rfl ?_
                refine o_bld st (qs := [(0, (.int .i64 5)), (1, (.int .i64 6))]) (cells := [(.int .i64 5), (.int .i64 6), (.int .i64 0), (.int .i64 0)]) (by intro ρ h; simp only [List.map_toArray, List.map_cons, List.map_nil, h (.const (.int .i64 5)) _ rfl, h (.const (.int .i64 6)) _ rfl]) rfl bld30 rfl ?_
                refine o_bld st (qs := [(0, (.agg #[(.int .i64 5), (.int .i64 6), (.int .i64 0), (.int .i64 0)]))]) (cells := [(.int .i64 5), (.int .i64 6), (.int .i64 0), (.int .i64 0), (.int .i64 0)]) (by intro ρ h; simp only [List.map_toArray, List.map_cons, List.map_nil, h (.tmp 67) _ rfl]) rfl bld83 rfl ?_
                refine o_bld st (qs := [(0, (.int .i64 6)), (1, (.int .i64 5))]) (cells := [(.int .i64 6), (.int .i64 5), (.int .i64 0), (.int .i64 0)]) (by intro ρ h; simp only [List.map_toArray, List.map_cons, List.map_nil, h (.const (.int .i64 6)) _ rfl, h (.const (.int .i64 5)) _ rfl]) rfl bld30 rfl ?_
                refine o_bld st (qs := [(0, (.agg #[(.int .i64 6), (.int .i64 5), (.int .i64 0), (.int .i64 0)]))]) (cells := [(.int .i64 6), (.int .i64 5), (.int .i64 0), (.int .i64 0), (.int .i64 0)]) (by intro ρ h; simp only [List.map_toArray, List.map_cons, List.map_nil, h (.tmp 69) _ rfl]) rfl bld83 rfl ?_
                refine stw (o_bsl (enc := encGFlow) (qs := [(0, (.agg #[(.int .i64 5), (.int .i64 6), (.int .i64 0), (.int .i64 0), (.int .i64 0)])), (1, (.agg #[(.int .i64 6), (.int .i64 5), (.int .i64 0), (.int .i64 0), (.int .i64 0)]))]) (cells := [(.int .i64 5), (.int .i64 6), (.int .i64 0), (.int .i64 0), (.int .i64 0), (.int .i64 6), (.int .i64 5), (.int .i64 0), (.int .i64 0), (.int .i64 0)]) ([(GFlow.mk (GPacket.mk 5 6 0 0) 0), (GFlow.mk (GPacket.mk 6 5 0 0) 0)]) flelGFlow (by intro ρ h; simp only [List.map_toArray, List.map_cons, List.map_nil, h (.tmp 68) _ rfl, h (.tmp 70) _ rfl]) rfl el26 zero83 rfl rfl rfl rfl rfl rfl ?_); intro v72
                refine stw (o_app 3 0 rfl rfl reads_own (.inr flelGFlow.free) rfl rfl rfl el26 rfl zero83 rfl rfl ?_); intro v74
                refine o_as st rfl rfl ?_
                refine c_nil ?_
                refine b_norm ?_
                exact l_join (r55, (xs28 ++ ([(GFlow.mk (GPacket.mk 5 6 0 0) 0), (GFlow.mk (GPacket.mk 6 5 0 0) 0)]))) (fun a w hE hm => ⟨v74, hE.sub ⟨rfl, trivial⟩, (hm.pick [1, 2, 3] rfl)⟩)
              · refine c_region ?_
                refine stw (o_make (z := (GFlow.mk (GPacket.mk 0 0 0 0) 0)) flelGFlow rfl rfl rfl el26 rfl zero83 rfl rfl ?_); intro v76 xs77
                refine o_as st rfl rfl ?_
                refine c_nil ?_
                refine b_norm ?_
                exact l_join (r55, xs77) (fun a w hE hm => ⟨v76, hE.sub ⟨rfl, trivial⟩, (hm.pick [1, 2, 0] rfl)⟩)
        · refine c_skip ?_
          exact l_join (r53, xs28) (fun a w hE hm => ⟨v29, hE.sub ⟨rfl, trivial⟩, (hm.pick [0, 1, 2] rfl)⟩)
      · rintro ⟨t46, xs48⟩ a w ⟨v49, hE, hm⟩ h
        refine nx_of hE hm h ?_
        clear hE hm h
        refine c_seq ?_
        refine c_region ?_
        refine o_mv st rfl rfl ?_
        refine o_as st rfl rfl ?_
        refine c_nil ?_
        refine l_then ?_
        refine c_ret ?_
        exact l_end1 Tryd.results93 (xs48, t46) v49 (rv_t rfl) (fun w m => NewCh.of m [2, 0] rfl (fr_cons (free_own flelGFlow) (fr_cons free_cell fr_nil)))

set_option maxRecDepth 100000 in
set_option maxHeartbeats 8000000 in
theorem w_spec_l20Moment {w0 : World} {F : Nat → Prop} {b1 : Nat} {v2 : Value} {r_0_b : (List UInt8)} {r_0_p : Int} {κ : ((List GFlow) × GPacket × Int × Int) → Prop} (hg : Given [cellCh b1 [v2, (.int .i64 r_0_p)] 127] w0) (hv2 : Sl elU8 (fun b => b < w0.heap.size ∧ ¬ feet [cellCh b1 [v2, (.int .i64 r_0_p)] 127] b) w0 v2 r_0_b) (h : L_spec_l20Moment r_0_b r_0_p κ) :
    Calls Tryd.prog 66 #[(.pointer (some ⟨b1, 0, none⟩))] w0 (Ret [cellCh b1 [v2, (.int .i64 r_0_p)] 127] F w0 κ (fun (r : ((List GFlow) × GPacket × Int × Int)) (u : Value) => .tuple #[u, (.agg #[(.int .i64 r.2.1.xFrom), (.int .i64 r.2.1.xTo), (.int .i64 r.2.1.xPort), (.int .i64 r.2.1.xProto)]), (.int .i64 r.2.2.1)]) (fun (r : ((List GFlow) × GPacket × Int × Int)) (u : Value) => [ownCh elGFlow 83 u (r.1), cellCh b1 [v2, (.int .i64 r.2.2.2)] 127])) := by
  refine enter (args := [(.pointer (some ⟨b1, 0, none⟩))]) [cellCh b1 [v2, (.int .i64 r_0_p)] 127] Tryd.func66 rfl Tryd.ntmps66 rfl [roCh elU8 v2 r_0_b] (hf_cons hf_nil) (hh_cons hv2 hh_nil) hg.lt hg.disj hg.hold h ?_
  clear h hg hv2
  refine c_seq ?_
  refine c_region ?_
  refine stw (o_asn elGFlow 83 rfl rfl ?_)
  refine stw (o_alloc rfl [(.int .i64 0), (.int .i64 0), (.int .i64 0), (.int .i64 0)] zero30 ?_); intro b6
  refine o_as st rfl rfl ?_
  refine c_nil ?_
  refine l_then ?_
  refine c_seq ?_
  refine c_region ?_
  refine o_mv st rfl rfl ?_
  refine pk [2, 0, 1, 3] rfl ?_
  refine stw (o_call (vs := [(.pointer (some ⟨b1, 0, none⟩)), (.int .i64 14)]) (M0 := [cellCh b1 [v2, (.int .i64 r_0_p)] 127]) Tryd.call93 rfl rfl (by intro w m h; exact w_spec_l20Flows (r_0_b := r_0_b) (r_0_p := r_0_p) (n_1 := 14) m.given (m.rdM 2 rfl reads_ro) h) ?_); rintro ⟨r8, r10⟩ v9
  refine o_as st rfl rfl ?_
  refine c_nil ?_
  refine l_then ?_
  refine c_seq ?_
  refine c_region ?_
  refine o_mv st rfl rfl ?_
  refine pk [1, 0, 2, 3, 4] rfl ?_
  refine stw (o_call (vs := [(.pointer (some ⟨b1, 0, none⟩)), (.int .i64 14)]) (M0 := [cellCh b1 [v2, (.int .i64 r10)] 127]) Tryd.call94 rfl rfl (by intro w m h; exact w_spec_l20Packet (r_0_b := r_0_b) (r_0_p := r10) (n_1 := 14) m.given (m.rdM 3 rfl reads_ro) h) ?_); rintro ⟨r12, r13⟩ _
  refine stw (o_alloc rfl [(.int .i64 0), (.int .i64 0), (.int .i64 0), (.int .i64 0)] zero30 ?_); intro b14
  refine stw (o_stc (cs' := [(.int .i64 r12.xFrom), (.int .i64 r12.xTo), (.int .i64 r12.xPort), (.int .i64 r12.xProto)]) 0 rfl rfl rfl ty30 rfl rfl rfl rfl ?_)
  refine c_nil ?_
  refine l_then ?_
  refine c_join (σ := (Int × Int × Int × Int × Int)) (fun ((t16, t17, t18, t19, t20) : (Int × Int × Int × Int × Int)) (a : Act) (w : World) => Has 44 [(0, (.pointer (some ⟨b1, 0, none⟩))), (3, (.pointer (some ⟨b6, 0, none⟩))), (5, v9), (6, (.pointer (some ⟨b14, 0, none⟩)))] a ∧ Mem (fun _ => True) (feet [cellCh b1 [v2, (.int .i64 r_0_p)] 127]) w0 [cellCh b1 [v2, (.int .i64 t16)] 127, cellCh b14 [(.int .i64 t17), (.int .i64 t18), (.int .i64 t19), (.int .i64 t20)] 30, ownCh elGFlow 83 v9 r8, cellCh b6 [(.int .i64 0), (.int .i64 0), (.int .i64 0), (.int .i64 0)] 30, roCh elU8 v2 r_0_b] w) ?_ ?_
  · intro k21
    refine c_join (σ := (Int × Bool)) (fun ((t22, t23) : (Int × Bool)) (a : Act) (w : World) => Has 44 [(0, (.pointer (some ⟨b1, 0, none⟩))), (3, (.pointer (some ⟨b6, 0, none⟩))), (5, v9), (6, (.pointer (some ⟨b14, 0, none⟩))), (18, (.bool t23))] a ∧ Mem (fun _ => True) (feet [cellCh b1 [v2, (.int .i64 r_0_p)] 127]) w0 [cellCh b1 [v2, (.int .i64 t22)] 127, cellCh b14 [(.int .i64 r12.xFrom), (.int .i64 r12.xTo), (.int .i64 r12.xPort), (.int .i64 r12.xProto)] 30, ownCh elGFlow 83 v9 r8, cellCh b6 [(.int .i64 0), (.int .i64 0), (.int .i64 0), (.int .i64 0)] 30, roCh elU8 v2 r_0_b] w) ?_ ?_
    · intro k24
      refine c_region ?_
      refine o_mv st rfl rfl ?_
      refine o_len st el26 2 rfl reads_own rfl rfl ?_
      refine o_gtr st rfl rfl rfl ?_
      refine o_mv st rfl rfl ?_
      refine st_sp (dj := 14) rfl ?_ ?_
      · refine o_mv (st_g rfl rfl) rfl rfl ?_
        refine pk [1, 0, 2, 3, 4, 5] rfl ?_
        refine st_gw rfl rfl (o_call (vs := [(.pointer (some ⟨b1, 0, none⟩)), (.int .i64 3)]) (M0 := [cellCh b1 [v2, (.int .i64 r13)] 127]) Tryd.call85 rfl rfl (by intro w m h; exact w_spec_l20Rd_pick (r_0_b := r_0_b) (r_0_p := r13) (n_1 := 3) m.given (m.rdM 4 rfl reads_ro) h) ?_); rintro ⟨r25, r26⟩ _
        refine o_gtr (st_g rfl rfl) rfl rfl rfl ?_
        refine o_pickT st rfl rfl rfl ?_
        refine c_nil ?_
        exact l_join (r26, (decide (0 < r25))) (fun a w hE hm => ⟨hE.sub ⟨rfl, rfl, rfl, rfl, rfl, trivial⟩, (hm.pick [0, 1, 2, 3, 5] rfl)⟩)
      · refine st_s rfl rfl rfl rfl ?_
        refine st_s rfl rfl rfl rfl ?_
        refine st_s rfl rfl rfl rfl ?_
        refine o_pickF st rfl rfl rfl ?_
        refine c_nil ?_
        exact l_join (r13, false) (fun a w hE hm => ⟨hE.sub ⟨rfl, rfl, rfl, rfl, rfl, trivial⟩, (hm.pick [1, 0, 2, 3, 5] rfl)⟩)
    · rintro ⟨t22, t23⟩ a w ⟨hE, hm⟩ h
      refine nx_of hE hm h ?_
      clear hE hm h
      refine c_cond rfl ?_ ?_
      · refine c_seq ?_
        refine c_region ?_
        refine o_mv st rfl rfl ?_
        refine o_mv st rfl rfl ?_
        refine o_mv st rfl rfl ?_
        refine o_len st el26 2 rfl reads_own rfl rfl ?_
        refine pk [0, 1, 2, 3, 4] rfl ?_
        refine stw (o_call (vs := [(.pointer (some ⟨b1, 0, none⟩)), (.int .i64 (r8.length : Int))]) (M0 := [cellCh b1 [v2, (.int .i64 t22)] 127]) Tryd.call85 rfl rfl (by intro w m h; exact w_spec_l20Rd_pick (r_0_b := r_0_b) (r_0_p := t22) (n_1 := (r8.length : Int)) m.given (m.rdM 3 rfl reads_ro) h) ?_); rintro ⟨r27, r28⟩ _
        refine o_idx st 2 rfl reads_own rfl rfl rfl el26 ?_; intro e29 h30
        refine o_fadS st 2 rfl reads_own h30 rfl rfl fld83_0 rfl ?_
        refine o_lds st (enc := encGFlow) (u := (.agg #[(.int .i64 e29.xWho.xFrom), (.int .i64 e29.xWho.xTo), (.int .i64 e29.xWho.xPort), (.int .i64 e29.xWho.xProto)])) 2 rfl reads_own flelGFlow rfl h30 rfl rfl ty30 rfl ?_
        refine stw (o_stc (cs' := [(.int .i64 e29.xWho.xFrom), (.int .i64 e29.xWho.xTo), (.int .i64 e29.xWho.xPort), (.int .i64 e29.xWho.xProto)]) 1 rfl rfl rfl ty30 rfl rfl rfl rfl ?_)
        refine c_nil ?_
        refine l_then ?_
        refine c_seq ?_
        refine c_region ?_
        refine o_mv st rfl rfl ?_
        refine pk [0, 1, 2, 3, 4] rfl ?_
        refine stw (o_call (vs := [(.pointer (some ⟨b1, 0, none⟩)), (.int .i64 2)]) (M0 := [cellCh b1 [v2, (.int .i64 r28)] 127]) Tryd.call85 rfl rfl (by intro w m h; exact w_spec_l20Rd_pick (r_0_b := r_0_b) (r_0_p := r28) (n_1 := 2) m.given (m.rdM 3 rfl reads_ro) h) ?_); rintro ⟨r31, r32⟩ _
        refine o_eql st und3 rfl rfl rfl ?_
        refine c_nil ?_
        refine l_then ?_
        refine c_cond rfl ?_ ?_
        · refine c_region ?_
          refine o_ldc st (v := (.agg #[(.int .i64 e29.xWho.xFrom), (.int .i64 e29.xWho.xTo), (.int .i64 e29.xWho.xPort), (.int .i64 e29.xWho.xProto)])) 1 rfl rfl rfl ty30 rfl ?_
          refine stw (o_callP (vs := [(.agg #[(.int .i64 e29.xWho.xFrom), (.int .i64 e29.xWho.xTo), (.int .i64 e29.xWho.xPort), (.int .i64 e29.xWho.xProto)])]) Tryd.call80 rfl rfl (by intro w m h; exact w_spec_ReversePacket (p_0 := e29.xWho) h) ?_); rintro r33 _
          refine stw (o_stc (cs' := [(.int .i64 r33.xFrom), (.int .i64 r33.xTo), (.int .i64 r33.xPort), (.int .i64 r33.xProto)]) 1 rfl rfl rfl ty30 rfl rfl rfl rfl ?_)
          refine c_nil ?_
          exact l_join (r32, r33.xFrom, r33.xTo, r33.xPort, r33.xProto) (fun a w hE hm => ⟨hE.sub ⟨rfl, rfl, rfl, rfl, trivial⟩, (hm.pick [0, 1, 2, 3, 4] rfl)⟩)
        · refine c_skip ?_
          exact l_join (r32, e29.xWho.xFrom, e29.xWho.xTo, e29.xWho.xPort, e29.xWho.xProto) (fun a w hE hm => ⟨hE.sub ⟨rfl, rfl, rfl, rfl, trivial⟩, (hm.pick [0, 1, 2, 3, 4] rfl)⟩)
      · refine c_skip ?_
        exact l_join (t22, r12.xFrom, r12.xTo, r12.xPort, r12.xProto) (fun a w hE hm => ⟨hE.sub ⟨rfl, rfl, rfl, rfl, trivial⟩, (hm.pick [0, 1, 2, 3, 4] rfl)⟩)
  · rintro ⟨t16, t17, t18, t19, t20⟩ a w ⟨hE, hm⟩ h
    refine nx_of hE hm h ?_
    clear hE hm h
    refine c_join (σ := (Int × Int)) (fun ((t34, t35) : (Int × Int)) (a : Act) (w : World) => Has 44 [(3, (.pointer (some ⟨b6, 0, none⟩))), (2, v9), (4, (.int .i64 t35))] a ∧ Mem (fun _ => True) (feet [cellCh b1 [v2, (.int .i64 r_0_p)] 127]) w0 [cellCh b1 [v2, (.int .i64 t34)] 127, ownCh elGFlow 83 v9 r8, cellCh b6 [(.int .i64 t17), (.int .i64 t18), (.int .i64 t19), (.int .i64 t20)] 30, roCh elU8 v2 r_0_b] w) ?_ ?_
    · intro k36
      refine c_drawQ mixed 15 rfl [cellCh b14 [(.int .i64 t17), (.int .i64 t18), (.int .i64 t19), (.int .i64 t20)] 30, ownCh elGFlow 83 v9 r8, roCh elU8 v2 r_0_b] (fun c a d v w h => by cases d <;> exact h) ?_
      intro Qd hP hQ
      have H31 : ∀ (r37 : Int) (r38 : Int) (v39 : Value) (v40 : Value) (r41 : Int) (r42 : Int) (e43 : Int) (h44 : ([0, 0, 0, 0, 0, 0, 1, 2, 3])[(r41).toNat]? = some e43) (e45 : Int) (h46 : ([r37, (-1), 1000000, 1000001])[(e43).toNat]? = some e45), Nx 44 (fun _ => True) (feet [cellCh b1 [v2, (.int .i64 r_0_p)] 127]) w0 (wpAnyH Tryd.prog .any (opsAt Tryd.f66 [1, 1, 1, 1, 0]) Qd (Mem (fun _ => True) (feet [cellCh b1 [v2, (.int .i64 r_0_p)] 127]) w0 [cellCh b14 [(.int .i64 t17), (.int .i64 t18), (.int .i64 t19), (.int .i64 t20)] 30, ownCh elGFlow 83 v9 r8, roCh elU8 v2 r_0_b]) 1 #[true, true, true, true, true, true, true, true, true, true, true, true, true, true, false]) [(3, (.pointer (some ⟨b6, 0, none⟩))), (2, v9), (43, (.int .i64 e45))] [cellCh b1 [v2, (.int .i64 r42)] 127, cellCh b14 [(.int .i64 t17), (.int .i64 t18), (.int .i64 t19), (.int .i64 t20)] 30, ownCh elGFlow 83 v9 r8, cellCh b6 [(.int .i64 t17), (.int .i64 t18), (.int .i64 t19), (.int .i64 t20)] 30, roCh elU8 v2 r_0_b] (k36 (r42, e45)) := by
        intro r37 r38 v39 v40 r41 r42 e43 h44 e45 h46
        refine o_as (d_take (i := 14) rfl (by kernel_rfl) (by kernel_rfl) (by kernel_rfl) hP (fun w m => m.pick [1, 2, 4] rfl)) rfl rfl ?_
        refine d_done (by kernel_rfl) ?_
        exact fun a w hE hm hφ => hQ (r42, e45) a w hφ ((fun a w hE hm => ⟨hE.sub ⟨rfl, rfl, rfl, trivial⟩, (hm.pick [0, 2, 3, 4] rfl)⟩) a w hE hm)
      have H32 : ∀ (r37 : Int) (r38 : Int) (v39 : Value) (v40 : Value) (r41 : Int) (r42 : Int) (e43 : Int) (h44 : ([0, 0, 0, 0, 0, 0, 1, 2, 3])[(r41).toNat]? = some e43) (e45 : Int) (h46 : ([r37, (-1), 1000000, 1000001])[(e43).toNat]? = some e45), Nx 44 (fun _ => True) (feet [cellCh b1 [v2, (.int .i64 r_0_p)] 127]) w0 (wpAnyH Tryd.prog .any (opsAt Tryd.f66 [1, 1, 1, 1, 0]) Qd (Mem (fun _ => True) (feet [cellCh b1 [v2, (.int .i64 r_0_p)] 127]) w0 [cellCh b14 [(.int .i64 t17), (.int .i64 t18), (.int .i64 t19), (.int .i64 t20)] 30, ownCh elGFlow 83 v9 r8, roCh elU8 v2 r_0_b]) 2 #[true, true, true, true, true, true, true, true, true, true, true, true, true, false, false]) [(3, (.pointer (some ⟨b6, 0, none⟩))), (33, (.agg #[(.int .i64 t17), (.int .i64 t18), (.int .i64 t19), (.int .i64 t20)])), (2, v9), (43, (.int .i64 e45))] [cellCh b1 [v2, (.int .i64 r42)] 127, cellCh b14 [(.int .i64 t17), (.int .i64 t18), (.int .i64 t19), (.int .i64 t20)] 30, ownCh elGFlow 83 v9 r8, cellCh b6 [(.int .i64 0), (.int .i64 0), (.int .i64 0), (.int .i64 0)] 30, roCh elU8 v2 r_0_b] (k36 (r42, e45)) := by
        intro r37 r38 v39 v40 r41 r42 e43 h44 e45 h46
        refine d_one (i := 13) rfl (by kernel_rfl) (o_stc (cs' := [(.int .i64 t17), (.int .i64 t18), (.int .i64 t19), (.int .i64 t20)]) 3 rfl rfl rfl ty30 rfl rfl rfl rfl ?_)
        refine d_and (fun w m => m.pick [1, 2, 4] rfl) ?_
        refine pk [0, 1, 2, 3, 4] rfl ?_
        refine re (E' := [(3, (.pointer (some ⟨b6, 0, none⟩))), (2, v9), (43, (.int .i64 e45))]) ⟨rfl, rfl, rfl, trivial⟩ ?_
        exact H31 r37 r38 v39 v40 r41 r42 e43 h44 e45 h46
      have H33 : ∀ (r37 : Int) (r38 : Int) (v39 : Value) (v40 : Value) (r41 : Int) (r42 : Int) (e43 : Int) (h44 : ([0, 0, 0, 0, 0, 0, 1, 2, 3])[(r41).toNat]? = some e43) (e45 : Int) (h46 : ([r37, (-1), 1000000, 1000001])[(e43).toNat]? = some e45), Nx 44 (fun _ => True) (feet [cellCh b1 [v2, (.int .i64 r_0_p)] 127]) w0 (wpAnyH Tryd.prog .any (opsAt Tryd.f66 [1, 1, 1, 1, 0]) Qd (Mem (fun _ => True) (feet [cellCh b1 [v2, (.int .i64 r_0_p)] 127]) w0 [cellCh b14 [(.int .i64 t17), (.int .i64 t18), (.int .i64 t19), (.int .i64 t20)] 30, ownCh elGFlow 83 v9 r8, roCh elU8 v2 r_0_b]) 2 #[true, true, true, true, true, true, true, true, true, true, true, false, true, true, false]) [(3, (.pointer (some ⟨b6, 0, none⟩))), (2, v9), (42, (pEl v39 e43 1 0))] [cellCh b1 [v2, (.int .i64 r42)] 127, ownCh elInt 3 v39 ([r37, (-1), 1000000, 1000001]), cellCh b14 [(.int .i64 t17), (.int .i64 t18), (.int .i64 t19), (.int .i64 t20)] 30, ownCh elGFlow 83 v9 r8, cellCh b6 [(.int .i64 t17), (.int .i64 t18), (.int .i64 t19), (.int .i64 t20)] 30, roCh elU8 v2 r_0_b] (k36 (r42, e45)) := by
        intro r37 r38 v39 v40 r41 r42 e43 h44 e45 h46
        refine d_one (i := 11) rfl (by kernel_rfl) (o_lds m_op (enc := encInt) (u := (.int .i64 e45)) 1 rfl reads_own flelInt rfl h46 rfl rfl ty3 rfl ?_)
        refine d_and (fun w m => m.pick [2, 3, 5] rfl) ?_
        refine pk [0, 2, 3, 4, 5] rfl ?_
        refine re (E' := [(3, (.pointer (some ⟨b6, 0, none⟩))), (2, v9), (43, (.int .i64 e45))]) ⟨rfl, rfl, rfl, trivial⟩ ?_
        exact H31 r37 r38 v39 v40 r41 r42 e43 h44 e45 h46
      have H34 : ∀ (r37 : Int) (r38 : Int) (v39 : Value) (v40 : Value) (r41 : Int) (r42 : Int) (e43 : Int) (h44 : ([0, 0, 0, 0, 0, 0, 1, 2, 3])[(r41).toNat]? = some e43) (e45 : Int) (h46 : ([r37, (-1), 1000000, 1000001])[(e43).toNat]? = some e45), Nx 44 (fun _ => True) (feet [cellCh b1 [v2, (.int .i64 r_0_p)] 127]) w0 (wpAnyH Tryd.prog .any (opsAt Tryd.f66 [1, 1, 1, 1, 0]) Qd (Mem (fun _ => True) (feet [cellCh b1 [v2, (.int .i64 r_0_p)] 127]) w0 [cellCh b14 [(.int .i64 t17), (.int .i64 t18), (.int .i64 t19), (.int .i64 t20)] 30, ownCh elGFlow 83 v9 r8, roCh elU8 v2 r_0_b]) 3 #[true, true, true, true, true, true, true, true, true, true, true, false, true, false, false]) [(3, (.pointer (some ⟨b6, 0, none⟩))), (33, (.agg #[(.int .i64 t17), (.int .i64 t18), (.int .i64 t19), (.int .i64 t20)])), (2, v9), (42, (pEl v39 e43 1 0))] [cellCh b1 [v2, (.int .i64 r42)] 127, ownCh elInt 3 v39 ([r37, (-1), 1000000, 1000001]), cellCh b14 [(.int .i64 t17), (.int .i64 t18), (.int .i64 t19), (.int .i64 t20)] 30, ownCh elGFlow 83 v9 r8, cellCh b6 [(.int .i64 0), (.int .i64 0), (.int .i64 0), (.int .i64 0)] 30, roCh elU8 v2 r_0_b] (k36 (r42, e45)) := by
        intro r37 r38 v39 v40 r41 r42 e43 h44 e45 h46
        refine d_two (i := 11) (j := 13) rfl rfl (by kernel_rfl) ?_ ?_
        · intro o ho; cases ho
          refine o_lds m_op (enc := encInt) (u := (.int .i64 e45)) 1 rfl reads_own flelInt rfl h46 rfl rfl ty3 rfl ?_
          refine d_and (fun w m => m.pick [2, 3, 5] rfl) ?_
          refine pk [0, 2, 3, 4, 5] rfl ?_
          refine re (E' := [(3, (.pointer (some ⟨b6, 0, none⟩))), (33, (.agg #[(.int .i64 t17), (.int .i64 t18), (.int .i64 t19), (.int .i64 t20)])), (2, v9), (43, (.int .i64 e45))]) ⟨rfl, rfl, rfl, rfl, trivial⟩ ?_
          exact H32 r37 r38 v39 v40 r41 r42 e43 h44 e45 h46
        · intro o ho; cases ho
          refine o_stc (cs' := [(.int .i64 t17), (.int .i64 t18), (.int .i64 t19), (.int .i64 t20)]) 4 rfl rfl rfl ty30 rfl rfl rfl rfl ?_
          refine d_and (fun w m => m.pick [2, 3, 5] rfl) ?_
          refine pk [0, 1, 2, 3, 4, 5] rfl ?_
          refine re (E' := [(3, (.pointer (some ⟨b6, 0, none⟩))), (2, v9), (42, (pEl v39 e43 1 0))]) ⟨rfl, rfl, rfl, trivial⟩ ?_
          exact H33 r37 r38 v39 v40 r41 r42 e43 h44 e45 h46
      have H35 : ∀ (r37 : Int) (r38 : Int) (v39 : Value) (v40 : Value) (r41 : Int) (r42 : Int) (e43 : Int) (h44 : ([0, 0, 0, 0, 0, 0, 1, 2, 3])[(r41).toNat]? = some e43), Nx 44 (fun _ => True) (feet [cellCh b1 [v2, (.int .i64 r_0_p)] 127]) w0 (wpAnyH Tryd.prog .any (opsAt Tryd.f66 [1, 1, 1, 1, 0]) Qd (Mem (fun _ => True) (feet [cellCh b1 [v2, (.int .i64 r_0_p)] 127]) w0 [cellCh b14 [(.int .i64 t17), (.int .i64 t18), (.int .i64 t19), (.int .i64 t20)] 30, ownCh elGFlow 83 v9 r8, roCh elU8 v2 r_0_b]) 3 #[true, true, true, true, true, true, true, true, true, true, false, false, true, true, false]) [(3, (.pointer (some ⟨b6, 0, none⟩))), (36, v39), (2, v9), (41, (.int .i64 e43))] [cellCh b1 [v2, (.int .i64 r42)] 127, ownCh elInt 3 v39 ([r37, (-1), 1000000, 1000001]), cellCh b14 [(.int .i64 t17), (.int .i64 t18), (.int .i64 t19), (.int .i64 t20)] 30, ownCh elGFlow 83 v9 r8, cellCh b6 [(.int .i64 t17), (.int .i64 t18), (.int .i64 t19), (.int .i64 t20)] 30, roCh elU8 v2 r_0_b] (idxW ([r37, (-1), 1000000, 1000001]) e43 (fun e47 => k36 (r42, e47))) := by
        intro r37 r38 v39 v40 r41 r42 e43 h44
        refine d_one (i := 10) rfl (by kernel_rfl) (o_idx m_op 1 rfl reads_own rfl rfl rfl el115 ?_); intro e47 h48
        refine d_and (fun w m => m.pick [2, 3, 5] rfl) ?_
        refine pk [0, 1, 2, 3, 4, 5] rfl ?_
        refine re (E' := [(3, (.pointer (some ⟨b6, 0, none⟩))), (2, v9), (42, (pEl v39 e43 1 0))]) ⟨rfl, rfl, rfl, trivial⟩ ?_
        exact H33 r37 r38 v39 v40 r41 r42 e43 h44 e47 h48
      have H36 : ∀ (r37 : Int) (r38 : Int) (v39 : Value) (v40 : Value) (r41 : Int) (r42 : Int) (e43 : Int) (h44 : ([0, 0, 0, 0, 0, 0, 1, 2, 3])[(r41).toNat]? = some e43), Nx 44 (fun _ => True) (feet [cellCh b1 [v2, (.int .i64 r_0_p)] 127]) w0 (wpAnyH Tryd.prog .any (opsAt Tryd.f66 [1, 1, 1, 1, 0]) Qd (Mem (fun _ => True) (feet [cellCh b1 [v2, (.int .i64 r_0_p)] 127]) w0 [cellCh b14 [(.int .i64 t17), (.int .i64 t18), (.int .i64 t19), (.int .i64 t20)] 30, ownCh elGFlow 83 v9 r8, roCh elU8 v2 r_0_b]) 4 #[true, true, true, true, true, true, true, true, true, true, false, false, true, false, false]) [(3, (.pointer (some ⟨b6, 0, none⟩))), (33, (.agg #[(.int .i64 t17), (.int .i64 t18), (.int .i64 t19), (.int .i64 t20)])), (36, v39), (2, v9), (41, (.int .i64 e43))] [cellCh b1 [v2, (.int .i64 r42)] 127, ownCh elInt 3 v39 ([r37, (-1), 1000000, 1000001]), cellCh b14 [(.int .i64 t17), (.int .i64 t18), (.int .i64 t19), (.int .i64 t20)] 30, ownCh elGFlow 83 v9 r8, cellCh b6 [(.int .i64 0), (.int .i64 0), (.int .i64 0), (.int .i64 0)] 30, roCh elU8 v2 r_0_b] (idxW ([r37, (-1), 1000000, 1000001]) e43 (fun e45 => k36 (r42, e45))) := by
        intro r37 r38 v39 v40 r41 r42 e43 h44
        refine d_two (i := 10) (j := 13) rfl rfl (by kernel_rfl) ?_ ?_
        · intro o ho; cases ho
          refine o_idx m_op 1 rfl reads_own rfl rfl rfl el115 ?_; intro e45 h46
          refine d_and (fun w m => m.pick [2, 3, 5] rfl) ?_
          refine pk [0, 1, 2, 3, 4, 5] rfl ?_
          refine re (E' := [(3, (.pointer (some ⟨b6, 0, none⟩))), (33, (.agg #[(.int .i64 t17), (.int .i64 t18), (.int .i64 t19), (.int .i64 t20)])), (2, v9), (42, (pEl v39 e43 1 0))]) ⟨rfl, rfl, rfl, rfl, trivial⟩ ?_
          exact H34 r37 r38 v39 v40 r41 r42 e43 h44 e45 h46
        · intro o ho; cases ho
          refine o_stc (cs' := [(.int .i64 t17), (.int .i64 t18), (.int .i64 t19), (.int .i64 t20)]) 4 rfl rfl rfl ty30 rfl rfl rfl rfl ?_
          refine d_and (fun w m => m.pick [2, 3, 5] rfl) ?_
          refine pk [0, 1, 2, 3, 4, 5] rfl ?_
          refine re (E' := [(3, (.pointer (some ⟨b6, 0, none⟩))), (36, v39), (2, v9), (41, (.int .i64 e43))]) ⟨rfl, rfl, rfl, rfl, trivial⟩ ?_
          exact H35 r37 r38 v39 v40 r41 r42 e43 h44
      have H37 : ∀ (r37 : Int) (r38 : Int) (v39 : Value) (v40 : Value) (r41 : Int) (r42 : Int) (e43 : Int) (h44 : ([0, 0, 0, 0, 0, 0, 1, 2, 3])[(r41).toNat]? = some e43), Nx 44 (fun _ => True) (feet [cellCh b1 [v2, (.int .i64 r_0_p)] 127]) w0 (wpAnyH Tryd.prog .any (opsAt Tryd.f66 [1, 1, 1, 1, 0]) Qd (Mem (fun _ => True) (feet [cellCh b1 [v2, (.int .i64 r_0_p)] 127]) w0 [cellCh b14 [(.int .i64 t17), (.int .i64 t18), (.int .i64 t19), (.int .i64 t20)] 30, ownCh elGFlow 83 v9 r8, roCh elU8 v2 r_0_b]) 4 #[true, true, true, true, true, true, true, true, true, false, false, false, true, true, false]) [(3, (.pointer (some ⟨b6, 0, none⟩))), (36, v39), (2, v9), (40, (pEl v40 r41 1 0))] [cellCh b1 [v2, (.int .i64 r42)] 127, ownCh elInt 3 v40 ([0, 0, 0, 0, 0, 0, 1, 2, 3]), ownCh elInt 3 v39 ([r37, (-1), 1000000, 1000001]), cellCh b14 [(.int .i64 t17), (.int .i64 t18), (.int .i64 t19), (.int .i64 t20)] 30, ownCh elGFlow 83 v9 r8, cellCh b6 [(.int .i64 t17), (.int .i64 t18), (.int .i64 t19), (.int .i64 t20)] 30, roCh elU8 v2 r_0_b] (idxW ([r37, (-1), 1000000, 1000001]) e43 (fun e47 => k36 (r42, e47))) := by
        intro r37 r38 v39 v40 r41 r42 e43 h44
        refine d_one (i := 9) rfl (by kernel_rfl) (o_lds m_op (enc := encInt) (u := (.int .i64 e43)) 1 rfl reads_own flelInt rfl h44 rfl rfl ty3 rfl ?_)
        refine d_and (fun w m => m.pick [3, 4, 6] rfl) ?_
        refine pk [0, 2, 3, 4, 5, 6] rfl ?_
        refine re (E' := [(3, (.pointer (some ⟨b6, 0, none⟩))), (36, v39), (2, v9), (41, (.int .i64 e43))]) ⟨rfl, rfl, rfl, rfl, trivial⟩ ?_
        exact H35 r37 r38 v39 v40 r41 r42 e43 h44
      have H38 : ∀ (r37 : Int) (r38 : Int) (v39 : Value) (v40 : Value) (r41 : Int) (r42 : Int) (e43 : Int) (h44 : ([0, 0, 0, 0, 0, 0, 1, 2, 3])[(r41).toNat]? = some e43), Nx 44 (fun _ => True) (feet [cellCh b1 [v2, (.int .i64 r_0_p)] 127]) w0 (wpAnyH Tryd.prog .any (opsAt Tryd.f66 [1, 1, 1, 1, 0]) Qd (Mem (fun _ => True) (feet [cellCh b1 [v2, (.int .i64 r_0_p)] 127]) w0 [cellCh b14 [(.int .i64 t17), (.int .i64 t18), (.int .i64 t19), (.int .i64 t20)] 30, ownCh elGFlow 83 v9 r8, roCh elU8 v2 r_0_b]) 5 #[true, true, true, true, true, true, true, true, true, false, false, false, true, false, false]) [(3, (.pointer (some ⟨b6, 0, none⟩))), (33, (.agg #[(.int .i64 t17), (.int .i64 t18), (.int .i64 t19), (.int .i64 t20)])), (36, v39), (2, v9), (40, (pEl v40 r41 1 0))] [cellCh b1 [v2, (.int .i64 r42)] 127, ownCh elInt 3 v40 ([0, 0, 0, 0, 0, 0, 1, 2, 3]), ownCh elInt 3 v39 ([r37, (-1), 1000000, 1000001]), cellCh b14 [(.int .i64 t17), (.int .i64 t18), (.int .i64 t19), (.int .i64 t20)] 30, ownCh elGFlow 83 v9 r8, cellCh b6 [(.int .i64 0), (.int .i64 0), (.int .i64 0), (.int .i64 0)] 30, roCh elU8 v2 r_0_b] (idxW ([r37, (-1), 1000000, 1000001]) e43 (fun e45 => k36 (r42, e45))) := by
        intro r37 r38 v39 v40 r41 r42 e43 h44
        refine d_two (i := 9) (j := 13) rfl rfl (by kernel_rfl) ?_ ?_
        · intro o ho; cases ho
          refine o_lds m_op (enc := encInt) (u := (.int .i64 e43)) 1 rfl reads_own flelInt rfl h44 rfl rfl ty3 rfl ?_
          refine d_and (fun w m => m.pick [3, 4, 6] rfl) ?_
          refine pk [0, 2, 3, 4, 5, 6] rfl ?_
          refine re (E' := [(3, (.pointer (some ⟨b6, 0, none⟩))), (33, (.agg #[(.int .i64 t17), (.int .i64 t18), (.int .i64 t19), (.int .i64 t20)])), (36, v39), (2, v9), (41, (.int .i64 e43))]) ⟨rfl, rfl, rfl, rfl, rfl, trivial⟩ ?_
          exact H36 r37 r38 v39 v40 r41 r42 e43 h44
        · intro o ho; cases ho
          refine o_stc (cs' := [(.int .i64 t17), (.int .i64 t18), (.int .i64 t19), (.int .i64 t20)]) 5 rfl rfl rfl ty30 rfl rfl rfl rfl ?_
          refine d_and (fun w m => m.pick [3, 4, 6] rfl) ?_
          refine pk [0, 1, 2, 3, 4, 5, 6] rfl ?_
          refine re (E' := [(3, (.pointer (some ⟨b6, 0, none⟩))), (36, v39), (2, v9), (40, (pEl v40 r41 1 0))]) ⟨rfl, rfl, rfl, rfl, trivial⟩ ?_
          exact H37 r37 r38 v39 v40 r41 r42 e43 h44
      have H39 : ∀ (r37 : Int) (r38 : Int) (v39 : Value) (v40 : Value) (r41 : Int) (r42 : Int), Nx 44 (fun _ => True) (feet [cellCh b1 [v2, (.int .i64 r_0_p)] 127]) w0 (wpAnyH Tryd.prog .any (opsAt Tryd.f66 [1, 1, 1, 1, 0]) Qd (Mem (fun _ => True) (feet [cellCh b1 [v2, (.int .i64 r_0_p)] 127]) w0 [cellCh b14 [(.int .i64 t17), (.int .i64 t18), (.int .i64 t19), (.int .i64 t20)] 30, ownCh elGFlow 83 v9 r8, roCh elU8 v2 r_0_b]) 5 #[true, true, true, true, true, true, true, true, false, false, false, false, true, true, false]) [(3, (.pointer (some ⟨b6, 0, none⟩))), (36, v39), (37, v40), (39, (.int .i64 r41)), (2, v9)] [cellCh b1 [v2, (.int .i64 r42)] 127, ownCh elInt 3 v40 ([0, 0, 0, 0, 0, 0, 1, 2, 3]), ownCh elInt 3 v39 ([r37, (-1), 1000000, 1000001]), cellCh b14 [(.int .i64 t17), (.int .i64 t18), (.int .i64 t19), (.int .i64 t20)] 30, ownCh elGFlow 83 v9 r8, cellCh b6 [(.int .i64 t17), (.int .i64 t18), (.int .i64 t19), (.int .i64 t20)] 30, roCh elU8 v2 r_0_b] (idxW ([0, 0, 0, 0, 0, 0, 1, 2, 3]) r41 (fun e49 => idxW ([r37, (-1), 1000000, 1000001]) e49 (fun e47 => k36 (r42, e47)))) := by
        intro r37 r38 v39 v40 r41 r42
        refine d_one (i := 8) rfl (by kernel_rfl) (o_idx m_op 1 rfl reads_own rfl rfl rfl el115 ?_); intro e49 h50
        refine d_and (fun w m => m.pick [3, 4, 6] rfl) ?_
        refine pk [0, 1, 2, 3, 4, 5, 6] rfl ?_
        refine re (E' := [(3, (.pointer (some ⟨b6, 0, none⟩))), (36, v39), (2, v9), (40, (pEl v40 r41 1 0))]) ⟨rfl, rfl, rfl, rfl, trivial⟩ ?_
        exact H37 r37 r38 v39 v40 r41 r42 e49 h50
      have H40 : ∀ (r37 : Int) (r38 : Int) (v39 : Value) (v40 : Value) (r41 : Int) (r42 : Int), Nx 44 (fun _ => True) (feet [cellCh b1 [v2, (.int .i64 r_0_p)] 127]) w0 (wpAnyH Tryd.prog .any (opsAt Tryd.f66 [1, 1, 1, 1, 0]) Qd (Mem (fun _ => True) (feet [cellCh b1 [v2, (.int .i64 r_0_p)] 127]) w0 [cellCh b14 [(.int .i64 t17), (.int .i64 t18), (.int .i64 t19), (.int .i64 t20)] 30, ownCh elGFlow 83 v9 r8, roCh elU8 v2 r_0_b]) 7 #[true, true, true, true, true, true, true, true, false, false, false, false, false, false, false]) [(3, (.pointer (some ⟨b6, 0, none⟩))), (32, v9), (33, (.agg #[(.int .i64 t17), (.int .i64 t18), (.int .i64 t19), (.int .i64 t20)])), (36, v39), (37, v40), (39, (.int .i64 r41))] [cellCh b1 [v2, (.int .i64 r42)] 127, ownCh elInt 3 v40 ([0, 0, 0, 0, 0, 0, 1, 2, 3]), ownCh elInt 3 v39 ([r37, (-1), 1000000, 1000001]), cellCh b14 [(.int .i64 t17), (.int .i64 t18), (.int .i64 t19), (.int .i64 t20)] 30, ownCh elGFlow 83 v9 r8, cellCh b6 [(.int .i64 0), (.int .i64 0), (.int .i64 0), (.int .i64 0)] 30, roCh elU8 v2 r_0_b] (idxW ([0, 0, 0, 0, 0, 0, 1, 2, 3]) r41 (fun e43 => idxW ([r37, (-1), 1000000, 1000001]) e43 (fun e45 => k36 (r42, e45)))) := by
        intro r37 r38 v39 v40 r41 r42
        refine o_as (d_take (i := 12) rfl (by kernel_rfl) (by kernel_rfl) (by kernel_rfl) hP (fun w m => m.pick [3, 4, 6] rfl)) rfl rfl ?_
        refine d_two (i := 8) (j := 13) rfl rfl (by kernel_rfl) ?_ ?_
        · intro o ho; cases ho
          refine o_idx m_op 1 rfl reads_own rfl rfl rfl el115 ?_; intro e43 h44
          refine d_and (fun w m => m.pick [3, 4, 6] rfl) ?_
          refine pk [0, 1, 2, 3, 4, 5, 6] rfl ?_
          refine re (E' := [(3, (.pointer (some ⟨b6, 0, none⟩))), (33, (.agg #[(.int .i64 t17), (.int .i64 t18), (.int .i64 t19), (.int .i64 t20)])), (36, v39), (2, v9), (40, (pEl v40 r41 1 0))]) ⟨rfl, rfl, rfl, rfl, rfl, trivial⟩ ?_
          exact H38 r37 r38 v39 v40 r41 r42 e43 h44
        · intro o ho; cases ho
          refine o_stc (cs' := [(.int .i64 t17), (.int .i64 t18), (.int .i64 t19), (.int .i64 t20)]) 5 rfl rfl rfl ty30 rfl rfl rfl rfl ?_
          refine d_and (fun w m => m.pick [3, 4, 6] rfl) ?_
          refine pk [0, 1, 2, 3, 4, 5, 6] rfl ?_
          refine re (E' := [(3, (.pointer (some ⟨b6, 0, none⟩))), (36, v39), (37, v40), (39, (.int .i64 r41)), (2, v9)]) ⟨rfl, rfl, rfl, rfl, rfl, trivial⟩ ?_
          exact H39 r37 r38 v39 v40 r41 r42
      have H41 : ∀ (r37 : Int) (r38 : Int) (v39 : Value) (v40 : Value), Nx 44 (fun _ => True) (feet [cellCh b1 [v2, (.int .i64 r_0_p)] 127]) w0 (wpAnyH Tryd.prog .any (opsAt Tryd.f66 [1, 1, 1, 1, 0]) Qd (Mem (fun _ => True) (feet [cellCh b1 [v2, (.int .i64 r_0_p)] 127]) w0 [cellCh b14 [(.int .i64 t17), (.int .i64 t18), (.int .i64 t19), (.int .i64 t20)] 30, ownCh elGFlow 83 v9 r8, roCh elU8 v2 r_0_b]) 8 #[true, true, true, true, true, true, true, false, false, false, false, false, false, false, false]) [(3, (.pointer (some ⟨b6, 0, none⟩))), (32, v9), (33, (.agg #[(.int .i64 t17), (.int .i64 t18), (.int .i64 t19), (.int .i64 t20)])), (38, (.pointer (some ⟨b1, 0, none⟩))), (36, v39), (37, v40)] [ownCh elInt 3 v40 ([0, 0, 0, 0, 0, 0, 1, 2, 3]), ownCh elInt 3 v39 ([r37, (-1), 1000000, 1000001]), cellCh b1 [v2, (.int .i64 r38)] 127, cellCh b14 [(.int .i64 t17), (.int .i64 t18), (.int .i64 t19), (.int .i64 t20)] 30, ownCh elGFlow 83 v9 r8, cellCh b6 [(.int .i64 0), (.int .i64 0), (.int .i64 0), (.int .i64 0)] 30, roCh elU8 v2 r_0_b] (L_spec_l20Rd_pick r_0_b r38 9 (fun (r41, r42) => idxW ([0, 0, 0, 0, 0, 0, 1, 2, 3]) r41 (fun e43 => idxW ([r37, (-1), 1000000, 1000001]) e43 (fun e45 => k36 (r42, e45))))) := by
        intro r37 r38 v39 v40
        refine pk [2, 0, 1, 3, 4, 5, 6] rfl ?_
        refine d_one (i := 7) rfl (by kernel_rfl) (o_call (vs := [(.pointer (some ⟨b1, 0, none⟩)), (.int .i64 9)]) (M0 := [cellCh b1 [v2, (.int .i64 r38)] 127]) Tryd.call85 rfl rfl (by intro w m h; exact w_spec_l20Rd_pick (r_0_b := r_0_b) (r_0_p := r38) (n_1 := 9) m.given (m.rdM 5 rfl reads_ro) h) ?_); rintro ⟨r41, r42⟩ _
        refine d_and (fun w m => m.pick [3, 4, 6] rfl) ?_
        refine pk [0, 1, 2, 3, 4, 5, 6] rfl ?_
        refine re (E' := [(3, (.pointer (some ⟨b6, 0, none⟩))), (32, v9), (33, (.agg #[(.int .i64 t17), (.int .i64 t18), (.int .i64 t19), (.int .i64 t20)])), (36, v39), (37, v40), (39, (.int .i64 r41))]) ⟨rfl, rfl, rfl, rfl, rfl, rfl, trivial⟩ ?_
        exact H40 r37 r38 v39 v40 r41 r42
      have H42 : ∀ (r37 : Int) (r38 : Int) (v39 : Value) (r51 : Int) (r52 : Int) (v53 : Value), Nx 44 (fun _ => True) (feet [cellCh b1 [v2, (.int .i64 r_0_p)] 127]) w0 (wpAnyH Tryd.prog .any (opsAt Tryd.f66 [1, 1, 1, 1, 0]) Qd (Mem (fun _ => True) (feet [cellCh b1 [v2, (.int .i64 r_0_p)] 127]) w0 [cellCh b14 [(.int .i64 t17), (.int .i64 t18), (.int .i64 t19), (.int .i64 t20)] 30, ownCh elGFlow 83 v9 r8, roCh elU8 v2 r_0_b]) 6 #[true, true, true, true, true, true, true, true, false, false, false, false, true, false, false]) [(3, (.pointer (some ⟨b6, 0, none⟩))), (33, (.agg #[(.int .i64 t17), (.int .i64 t18), (.int .i64 t19), (.int .i64 t20)])), (36, v39), (39, (.int .i64 r51)), (2, v9), (37, v53)] [ownCh elInt 3 v53 ([0, 0, 0, 0, 0, 0, 1, 2, 3]), cellCh b1 [v2, (.int .i64 r52)] 127, ownCh elInt 3 v39 ([r37, (-1), 1000000, 1000001]), cellCh b14 [(.int .i64 t17), (.int .i64 t18), (.int .i64 t19), (.int .i64 t20)] 30, ownCh elGFlow 83 v9 r8, cellCh b6 [(.int .i64 0), (.int .i64 0), (.int .i64 0), (.int .i64 0)] 30, roCh elU8 v2 r_0_b] (idxW ([0, 0, 0, 0, 0, 0, 1, 2, 3]) r51 (fun e54 => idxW ([r37, (-1), 1000000, 1000001]) e54 (fun e45 => k36 (r52, e45)))) := by
        intro r37 r38 v39 r51 r52 v53
        refine d_two (i := 8) (j := 13) rfl rfl (by kernel_rfl) ?_ ?_
        · intro o ho; cases ho
          refine o_idx m_op 0 rfl reads_own rfl rfl rfl el115 ?_; intro e54 h55
          refine d_and (fun w m => m.pick [3, 4, 6] rfl) ?_
          refine pk [1, 0, 2, 3, 4, 5, 6] rfl ?_
          refine re (E' := [(3, (.pointer (some ⟨b6, 0, none⟩))), (33, (.agg #[(.int .i64 t17), (.int .i64 t18), (.int .i64 t19), (.int .i64 t20)])), (36, v39), (2, v9), (40, (pEl v53 r51 1 0))]) ⟨rfl, rfl, rfl, rfl, rfl, trivial⟩ ?_
          exact H38 r37 r38 v39 v53 r51 r52 e54 h55
        · intro o ho; cases ho
          refine o_stc (cs' := [(.int .i64 t17), (.int .i64 t18), (.int .i64 t19), (.int .i64 t20)]) 5 rfl rfl rfl ty30 rfl rfl rfl rfl ?_
          refine d_and (fun w m => m.pick [3, 4, 6] rfl) ?_
          refine pk [1, 0, 2, 3, 4, 5, 6] rfl ?_
          refine re (E' := [(3, (.pointer (some ⟨b6, 0, none⟩))), (36, v39), (37, v53), (39, (.int .i64 r51)), (2, v9)]) ⟨rfl, rfl, rfl, rfl, rfl, trivial⟩ ?_
          exact H39 r37 r38 v39 v53 r51 r52
      have H43 : ∀ (r37 : Int) (r38 : Int) (v39 : Value) (r51 : Int) (r52 : Int), Nx 44 (fun _ => True) (feet [cellCh b1 [v2, (.int .i64 r_0_p)] 127]) w0 (wpAnyH Tryd.prog .any (opsAt Tryd.f66 [1, 1, 1, 1, 0]) Qd (Mem (fun _ => True) (feet [cellCh b1 [v2, (.int .i64 r_0_p)] 127]) w0 [cellCh b14 [(.int .i64 t17), (.int .i64 t18), (.int .i64 t19), (.int .i64 t20)] 30, ownCh elGFlow 83 v9 r8, roCh elU8 v2 r_0_b]) 6 #[true, true, true, true, true, false, true, true, false, false, false, false, true, true, false]) [(3, (.pointer (some ⟨b6, 0, none⟩))), (36, v39), (39, (.int .i64 r51)), (2, v9)] [cellCh b1 [v2, (.int .i64 r52)] 127, ownCh elInt 3 v39 ([r37, (-1), 1000000, 1000001]), cellCh b14 [(.int .i64 t17), (.int .i64 t18), (.int .i64 t19), (.int .i64 t20)] 30, ownCh elGFlow 83 v9 r8, cellCh b6 [(.int .i64 t17), (.int .i64 t18), (.int .i64 t19), (.int .i64 t20)] 30, roCh elU8 v2 r_0_b] (idxW ([0, 0, 0, 0, 0, 0, 1, 2, 3]) r51 (fun e49 => idxW ([r37, (-1), 1000000, 1000001]) e49 (fun e47 => k36 (r52, e47)))) := by
        intro r37 r38 v39 r51 r52
        refine d_one (i := 5) rfl (by kernel_rfl) (o_bsl (enc := encInt) (qs := [(0, (.int .i64 0)), (1, (.int .i64 0)), (2, (.int .i64 0)), (3, (.int .i64 0)), (4, (.int .i64 0)), (5, (.int .i64 0)), (6, (.int .i64 1)), (7, (.int .i64 2)), (8, (.int .i64 3))]) (cells := [(.int .i64 0), (.int .i64 0), (.int .i64 0), (.int .i64 0), (.int .i64 0), (.int .i64 0), (.int .i64 1), (.int .i64 2), (.int .i64 3)]) ([0, 0, 0, 0, 0, 0, 1, 2, 3]) flelInt (by intro ρ h; simp only [List.map_toArray, List.map_cons, List.map_nil, h (.const (.int .i64 0)) _ rfl, h (.const (.int .i64 0)) _ rfl, h (.const (.int .i64 0)) _ rfl, h (.const (.int .i64 0)) _ rfl, h (.const (.int .i64 0)) _ rfl, h (.const (.int .i64 0)) _ rfl, h (.const (.int .i64 1)) _ rfl, h (.const (.int .i64 2)) _ rfl, h (.const (.int .i64 3)) _ rfl]) rfl el115 zero3 rfl rfl rfl rfl rfl rfl ?_); intro v56
        refine d_and (fun w m => m.pick [3, 4, 6] rfl) ?_
        refine pk [1, 0, 2, 3, 4, 5, 6] rfl ?_
        refine re (E' := [(3, (.pointer (some ⟨b6, 0, none⟩))), (36, v39), (37, v56), (39, (.int .i64 r51)), (2, v9)]) ⟨rfl, rfl, rfl, rfl, rfl, trivial⟩ ?_
        exact H39 r37 r38 v39 v56 r51 r52
      have H44 : ∀ (r37 : Int) (r38 : Int) (v39 : Value) (r51 : Int) (r52 : Int), Nx 44 (fun _ => True) (feet [cellCh b1 [v2, (.int .i64 r_0_p)] 127]) w0 (wpAnyH Tryd.prog .any (opsAt Tryd.f66 [1, 1, 1, 1, 0]) Qd (Mem (fun _ => True) (feet [cellCh b1 [v2, (.int .i64 r_0_p)] 127]) w0 [cellCh b14 [(.int .i64 t17), (.int .i64 t18), (.int .i64 t19), (.int .i64 t20)] 30, ownCh elGFlow 83 v9 r8, roCh elU8 v2 r_0_b]) 8 #[true, true, true, true, true, false, true, true, false, false, false, false, false, false, false]) [(3, (.pointer (some ⟨b6, 0, none⟩))), (32, v9), (33, (.agg #[(.int .i64 t17), (.int .i64 t18), (.int .i64 t19), (.int .i64 t20)])), (36, v39), (39, (.int .i64 r51))] [cellCh b1 [v2, (.int .i64 r52)] 127, ownCh elInt 3 v39 ([r37, (-1), 1000000, 1000001]), cellCh b14 [(.int .i64 t17), (.int .i64 t18), (.int .i64 t19), (.int .i64 t20)] 30, ownCh elGFlow 83 v9 r8, cellCh b6 [(.int .i64 0), (.int .i64 0), (.int .i64 0), (.int .i64 0)] 30, roCh elU8 v2 r_0_b] (idxW ([0, 0, 0, 0, 0, 0, 1, 2, 3]) r51 (fun e54 => idxW ([r37, (-1), 1000000, 1000001]) e54 (fun e45 => k36 (r52, e45)))) := by
        intro r37 r38 v39 r51 r52
        refine o_as (d_take (i := 12) rfl (by kernel_rfl) (by kernel_rfl) (by kernel_rfl) hP (fun w m => m.pick [2, 3, 5] rfl)) rfl rfl ?_
        refine d_two (i := 5) (j := 13) rfl rfl (by kernel_rfl) ?_ ?_
        · intro o ho; cases ho
          refine o_bsl (enc := encInt) (qs := [(0, (.int .i64 0)), (1, (.int .i64 0)), (2, (.int .i64 0)), (3, (.int .i64 0)), (4, (.int .i64 0)), (5, (.int .i64 0)), (6, (.int .i64 1)), (7, (.int .i64 2)), (8, (.int .i64 3))]) (cells := [(.int .i64 0), (.int .i64 0), (.int .i64 0), (.int .i64 0), (.int .i64 0), (.int .i64 0), (.int .i64 1), (.int .i64 2), (.int .i64 3)]) ([0, 0, 0, 0, 0, 0, 1, 2, 3]) flelInt (by intro ρ h; simp only [List.map_toArray, List.map_cons, List.map_nil, h (.const (.int .i64 0)) _ rfl, h (.const (.int .i64 0)) _ rfl, h (.const (.int .i64 0)) _ rfl, h (.const (.int .i64 0)) _ rfl, h (.const (.int .i64 0)) _ rfl, h (.const (.int .i64 0)) _ rfl, h (.const (.int .i64 1)) _ rfl, h (.const (.int .i64 2)) _ rfl, h (.const (.int .i64 3)) _ rfl]) rfl el115 zero3 rfl rfl rfl rfl rfl rfl ?_; intro v53
          refine d_and (fun w m => m.pick [3, 4, 6] rfl) ?_
          refine pk [0, 1, 2, 3, 4, 5, 6] rfl ?_
          refine re (E' := [(3, (.pointer (some ⟨b6, 0, none⟩))), (33, (.agg #[(.int .i64 t17), (.int .i64 t18), (.int .i64 t19), (.int .i64 t20)])), (36, v39), (39, (.int .i64 r51)), (2, v9), (37, v53)]) ⟨rfl, rfl, rfl, rfl, rfl, rfl, trivial⟩ ?_
          exact H42 r37 r38 v39 r51 r52 v53
        · intro o ho; cases ho
          refine o_stc (cs' := [(.int .i64 t17), (.int .i64 t18), (.int .i64 t19), (.int .i64 t20)]) 4 rfl rfl rfl ty30 rfl rfl rfl rfl ?_
          refine d_and (fun w m => m.pick [2, 3, 5] rfl) ?_
          refine pk [0, 1, 2, 3, 4, 5] rfl ?_
          refine re (E' := [(3, (.pointer (some ⟨b6, 0, none⟩))), (36, v39), (39, (.int .i64 r51)), (2, v9)]) ⟨rfl, rfl, rfl, rfl, trivial⟩ ?_
          exact H43 r37 r38 v39 r51 r52
      have H45 : ∀ (r37 : Int) (r38 : Int) (v39 : Value), Nx 44 (fun _ => True) (feet [cellCh b1 [v2, (.int .i64 r_0_p)] 127]) w0 (wpAnyH Tryd.prog .any (opsAt Tryd.f66 [1, 1, 1, 1, 0]) Qd (Mem (fun _ => True) (feet [cellCh b1 [v2, (.int .i64 r_0_p)] 127]) w0 [cellCh b14 [(.int .i64 t17), (.int .i64 t18), (.int .i64 t19), (.int .i64 t20)] 30, ownCh elGFlow 83 v9 r8, roCh elU8 v2 r_0_b]) 9 #[true, true, true, true, true, false, true, false, false, false, false, false, false, false, false]) [(3, (.pointer (some ⟨b6, 0, none⟩))), (32, v9), (33, (.agg #[(.int .i64 t17), (.int .i64 t18), (.int .i64 t19), (.int .i64 t20)])), (38, (.pointer (some ⟨b1, 0, none⟩))), (36, v39)] [ownCh elInt 3 v39 ([r37, (-1), 1000000, 1000001]), cellCh b1 [v2, (.int .i64 r38)] 127, cellCh b14 [(.int .i64 t17), (.int .i64 t18), (.int .i64 t19), (.int .i64 t20)] 30, ownCh elGFlow 83 v9 r8, cellCh b6 [(.int .i64 0), (.int .i64 0), (.int .i64 0), (.int .i64 0)] 30, roCh elU8 v2 r_0_b] (L_spec_l20Rd_pick r_0_b r38 9 (fun (r41, r42) => idxW ([0, 0, 0, 0, 0, 0, 1, 2, 3]) r41 (fun e43 => idxW ([r37, (-1), 1000000, 1000001]) e43 (fun e45 => k36 (r42, e45))))) := by
        intro r37 r38 v39
        refine d_two (i := 5) (j := 7) rfl rfl (by kernel_rfl) ?_ ?_
        · intro o ho; cases ho
          refine o_bsl (enc := encInt) (qs := [(0, (.int .i64 0)), (1, (.int .i64 0)), (2, (.int .i64 0)), (3, (.int .i64 0)), (4, (.int .i64 0)), (5, (.int .i64 0)), (6, (.int .i64 1)), (7, (.int .i64 2)), (8, (.int .i64 3))]) (cells := [(.int .i64 0), (.int .i64 0), (.int .i64 0), (.int .i64 0), (.int .i64 0), (.int .i64 0), (.int .i64 1), (.int .i64 2), (.int .i64 3)]) ([0, 0, 0, 0, 0, 0, 1, 2, 3]) flelInt (by intro ρ h; simp only [List.map_toArray, List.map_cons, List.map_nil, h (.const (.int .i64 0)) _ rfl, h (.const (.int .i64 0)) _ rfl, h (.const (.int .i64 0)) _ rfl, h (.const (.int .i64 0)) _ rfl, h (.const (.int .i64 0)) _ rfl, h (.const (.int .i64 0)) _ rfl, h (.const (.int .i64 1)) _ rfl, h (.const (.int .i64 2)) _ rfl, h (.const (.int .i64 3)) _ rfl]) rfl el115 zero3 rfl rfl rfl rfl rfl rfl ?_; intro v40
          refine d_and (fun w m => m.pick [3, 4, 6] rfl) ?_
          refine pk [0, 1, 2, 3, 4, 5, 6] rfl ?_
          refine re (E' := [(3, (.pointer (some ⟨b6, 0, none⟩))), (32, v9), (33, (.agg #[(.int .i64 t17), (.int .i64 t18), (.int .i64 t19), (.int .i64 t20)])), (38, (.pointer (some ⟨b1, 0, none⟩))), (36, v39), (37, v40)]) ⟨rfl, rfl, rfl, rfl, rfl, rfl, trivial⟩ ?_
          exact H41 r37 r38 v39 v40
        · intro o ho; cases ho
          refine pk [1, 0, 2, 3, 4, 5] rfl ?_
          refine o_call (vs := [(.pointer (some ⟨b1, 0, none⟩)), (.int .i64 9)]) (M0 := [cellCh b1 [v2, (.int .i64 r38)] 127]) Tryd.call85 rfl rfl (by intro w m h; exact w_spec_l20Rd_pick (r_0_b := r_0_b) (r_0_p := r38) (n_1 := 9) m.given (m.rdM 4 rfl reads_ro) h) ?_; rintro ⟨r51, r52⟩ _
          refine d_and (fun w m => m.pick [2, 3, 5] rfl) ?_
          refine pk [0, 1, 2, 3, 4, 5] rfl ?_
          refine re (E' := [(3, (.pointer (some ⟨b6, 0, none⟩))), (32, v9), (33, (.agg #[(.int .i64 t17), (.int .i64 t18), (.int .i64 t19), (.int .i64 t20)])), (36, v39), (39, (.int .i64 r51))]) ⟨rfl, rfl, rfl, rfl, rfl, trivial⟩ ?_
          exact H44 r37 r38 v39 r51 r52
      have H46 : ∀ (r37 : Int) (r38 : Int) (v57 : Value) (r59 : Int) (r60 : Int) (e62 : Int) (h63 : ([0, 0, 0, 0, 0, 0, 1, 2, 3])[(r59).toNat]? = some e62), Nx 44 (fun _ => True) (feet [cellCh b1 [v2, (.int .i64 r_0_p)] 127]) w0 (wpAnyH Tryd.prog .any (opsAt Tryd.f66 [1, 1, 1, 1, 0]) Qd (Mem (fun _ => True) (feet [cellCh b1 [v2, (.int .i64 r_0_p)] 127]) w0 [cellCh b14 [(.int .i64 t17), (.int .i64 t18), (.int .i64 t19), (.int .i64 t20)] 30, ownCh elGFlow 83 v9 r8, roCh elU8 v2 r_0_b]) 4 #[true, true, true, true, false, true, true, true, true, true, false, false, true, true, false]) [(3, (.pointer (some ⟨b6, 0, none⟩))), (35, (.int .i64 r37)), (2, v9), (41, (.int .i64 e62))] [cellCh b1 [v2, (.int .i64 r60)] 127, cellCh b14 [(.int .i64 t17), (.int .i64 t18), (.int .i64 t19), (.int .i64 t20)] 30, ownCh elGFlow 83 v9 r8, cellCh b6 [(.int .i64 t17), (.int .i64 t18), (.int .i64 t19), (.int .i64 t20)] 30, roCh elU8 v2 r_0_b] (idxW ([r37, (-1), 1000000, 1000001]) e62 (fun e47 => k36 (r60, e47))) := by
        intro r37 r38 v57 r59 r60 e62 h63
        refine d_one (i := 4) rfl (by kernel_rfl) (o_bsl (enc := encInt) (qs := [(0, (.int .i64 r37)), (1, (.int .i64 (-1))), (2, (.int .i64 1000000)), (3, (.int .i64 1000001))]) (cells := [(.int .i64 r37), (.int .i64 (-1)), (.int .i64 1000000), (.int .i64 1000001)]) ([r37, (-1), 1000000, 1000001]) flelInt (by intro ρ h; simp only [List.map_toArray, List.map_cons, List.map_nil, h (.tmp 35) _ rfl, h (.const (.int .i64 (-1))) _ rfl, h (.const (.int .i64 1000000)) _ rfl, h (.const (.int .i64 1000001)) _ rfl]) rfl el115 zero3 rfl rfl rfl rfl rfl rfl ?_); intro v66
        refine d_and (fun w m => m.pick [2, 3, 5] rfl) ?_
        refine pk [1, 0, 2, 3, 4, 5] rfl ?_
        refine re (E' := [(3, (.pointer (some ⟨b6, 0, none⟩))), (36, v66), (2, v9), (41, (.int .i64 e62))]) ⟨rfl, rfl, rfl, rfl, trivial⟩ ?_
        exact H35 r37 r38 v66 v57 r59 r60 e62 h63
      have H47 : ∀ (r37 : Int) (r38 : Int) (v57 : Value) (r59 : Int) (r60 : Int) (e62 : Int) (h63 : ([0, 0, 0, 0, 0, 0, 1, 2, 3])[(r59).toNat]? = some e62), Nx 44 (fun _ => True) (feet [cellCh b1 [v2, (.int .i64 r_0_p)] 127]) w0 (wpAnyH Tryd.prog .any (opsAt Tryd.f66 [1, 1, 1, 1, 0]) Qd (Mem (fun _ => True) (feet [cellCh b1 [v2, (.int .i64 r_0_p)] 127]) w0 [cellCh b14 [(.int .i64 t17), (.int .i64 t18), (.int .i64 t19), (.int .i64 t20)] 30, ownCh elGFlow 83 v9 r8, roCh elU8 v2 r_0_b]) 5 #[true, true, true, true, false, true, true, true, true, true, false, false, true, false, false]) [(3, (.pointer (some ⟨b6, 0, none⟩))), (33, (.agg #[(.int .i64 t17), (.int .i64 t18), (.int .i64 t19), (.int .i64 t20)])), (35, (.int .i64 r37)), (2, v9), (41, (.int .i64 e62))] [cellCh b1 [v2, (.int .i64 r60)] 127, cellCh b14 [(.int .i64 t17), (.int .i64 t18), (.int .i64 t19), (.int .i64 t20)] 30, ownCh elGFlow 83 v9 r8, cellCh b6 [(.int .i64 0), (.int .i64 0), (.int .i64 0), (.int .i64 0)] 30, roCh elU8 v2 r_0_b] (idxW ([r37, (-1), 1000000, 1000001]) e62 (fun e45 => k36 (r60, e45))) := by
        intro r37 r38 v57 r59 r60 e62 h63
        refine d_two (i := 4) (j := 13) rfl rfl (by kernel_rfl) ?_ ?_
        · intro o ho; cases ho
          refine o_bsl (enc := encInt) (qs := [(0, (.int .i64 r37)), (1, (.int .i64 (-1))), (2, (.int .i64 1000000)), (3, (.int .i64 1000001))]) (cells := [(.int .i64 r37), (.int .i64 (-1)), (.int .i64 1000000), (.int .i64 1000001)]) ([r37, (-1), 1000000, 1000001]) flelInt (by intro ρ h; simp only [List.map_toArray, List.map_cons, List.map_nil, h (.tmp 35) _ rfl, h (.const (.int .i64 (-1))) _ rfl, h (.const (.int .i64 1000000)) _ rfl, h (.const (.int .i64 1000001)) _ rfl]) rfl el115 zero3 rfl rfl rfl rfl rfl rfl ?_; intro v65
          refine d_and (fun w m => m.pick [2, 3, 5] rfl) ?_
          refine pk [1, 0, 2, 3, 4, 5] rfl ?_
          refine re (E' := [(3, (.pointer (some ⟨b6, 0, none⟩))), (33, (.agg #[(.int .i64 t17), (.int .i64 t18), (.int .i64 t19), (.int .i64 t20)])), (36, v65), (2, v9), (41, (.int .i64 e62))]) ⟨rfl, rfl, rfl, rfl, rfl, trivial⟩ ?_
          exact H36 r37 r38 v65 v57 r59 r60 e62 h63
        · intro o ho; cases ho
          refine o_stc (cs' := [(.int .i64 t17), (.int .i64 t18), (.int .i64 t19), (.int .i64 t20)]) 3 rfl rfl rfl ty30 rfl rfl rfl rfl ?_
          refine d_and (fun w m => m.pick [1, 2, 4] rfl) ?_
          refine pk [0, 1, 2, 3, 4] rfl ?_
          refine re (E' := [(3, (.pointer (some ⟨b6, 0, none⟩))), (35, (.int .i64 r37)), (2, v9), (41, (.int .i64 e62))]) ⟨rfl, rfl, rfl, rfl, trivial⟩ ?_
          exact H46 r37 r38 v57 r59 r60 e62 h63
      have H48 : ∀ (r37 : Int) (r38 : Int) (v57 : Value) (r59 : Int) (r60 : Int) (e62 : Int) (h63 : ([0, 0, 0, 0, 0, 0, 1, 2, 3])[(r59).toNat]? = some e62), Nx 44 (fun _ => True) (feet [cellCh b1 [v2, (.int .i64 r_0_p)] 127]) w0 (wpAnyH Tryd.prog .any (opsAt Tryd.f66 [1, 1, 1, 1, 0]) Qd (Mem (fun _ => True) (feet [cellCh b1 [v2, (.int .i64 r_0_p)] 127]) w0 [cellCh b14 [(.int .i64 t17), (.int .i64 t18), (.int .i64 t19), (.int .i64 t20)] 30, ownCh elGFlow 83 v9 r8, roCh elU8 v2 r_0_b]) 5 #[true, true, true, true, false, true, true, true, true, false, false, false, true, true, false]) [(3, (.pointer (some ⟨b6, 0, none⟩))), (35, (.int .i64 r37)), (2, v9), (40, (pEl v57 r59 1 0))] [cellCh b1 [v2, (.int .i64 r60)] 127, ownCh elInt 3 v57 ([0, 0, 0, 0, 0, 0, 1, 2, 3]), cellCh b14 [(.int .i64 t17), (.int .i64 t18), (.int .i64 t19), (.int .i64 t20)] 30, ownCh elGFlow 83 v9 r8, cellCh b6 [(.int .i64 t17), (.int .i64 t18), (.int .i64 t19), (.int .i64 t20)] 30, roCh elU8 v2 r_0_b] (idxW ([r37, (-1), 1000000, 1000001]) e62 (fun e47 => k36 (r60, e47))) := by
        intro r37 r38 v57 r59 r60 e62 h63
        refine d_two (i := 4) (j := 9) rfl rfl (by kernel_rfl) ?_ ?_
        · intro o ho; cases ho
          refine o_bsl (enc := encInt) (qs := [(0, (.int .i64 r37)), (1, (.int .i64 (-1))), (2, (.int .i64 1000000)), (3, (.int .i64 1000001))]) (cells := [(.int .i64 r37), (.int .i64 (-1)), (.int .i64 1000000), (.int .i64 1000001)]) ([r37, (-1), 1000000, 1000001]) flelInt (by intro ρ h; simp only [List.map_toArray, List.map_cons, List.map_nil, h (.tmp 35) _ rfl, h (.const (.int .i64 (-1))) _ rfl, h (.const (.int .i64 1000000)) _ rfl, h (.const (.int .i64 1000001)) _ rfl]) rfl el115 zero3 rfl rfl rfl rfl rfl rfl ?_; intro v67
          refine d_and (fun w m => m.pick [3, 4, 6] rfl) ?_
          refine pk [1, 2, 0, 3, 4, 5, 6] rfl ?_
          refine re (E' := [(3, (.pointer (some ⟨b6, 0, none⟩))), (36, v67), (2, v9), (40, (pEl v57 r59 1 0))]) ⟨rfl, rfl, rfl, rfl, trivial⟩ ?_
          exact H37 r37 r38 v67 v57 r59 r60 e62 h63
        · intro o ho; cases ho
          refine o_lds m_op (enc := encInt) (u := (.int .i64 e62)) 1 rfl reads_own flelInt rfl h63 rfl rfl ty3 rfl ?_
          refine d_and (fun w m => m.pick [2, 3, 5] rfl) ?_
          refine pk [0, 2, 3, 4, 5] rfl ?_
          refine re (E' := [(3, (.pointer (some ⟨b6, 0, none⟩))), (35, (.int .i64 r37)), (2, v9), (41, (.int .i64 e62))]) ⟨rfl, rfl, rfl, rfl, trivial⟩ ?_
          exact H46 r37 r38 v57 r59 r60 e62 h63
      have H49 : ∀ (r37 : Int) (r38 : Int) (v57 : Value) (r59 : Int) (r60 : Int) (e62 : Int) (h63 : ([0, 0, 0, 0, 0, 0, 1, 2, 3])[(r59).toNat]? = some e62), Nx 44 (fun _ => True) (feet [cellCh b1 [v2, (.int .i64 r_0_p)] 127]) w0 (wpAnyH Tryd.prog .any (opsAt Tryd.f66 [1, 1, 1, 1, 0]) Qd (Mem (fun _ => True) (feet [cellCh b1 [v2, (.int .i64 r_0_p)] 127]) w0 [cellCh b14 [(.int .i64 t17), (.int .i64 t18), (.int .i64 t19), (.int .i64 t20)] 30, ownCh elGFlow 83 v9 r8, roCh elU8 v2 r_0_b]) 6 #[true, true, true, true, false, true, true, true, true, false, false, false, true, false, false]) [(3, (.pointer (some ⟨b6, 0, none⟩))), (33, (.agg #[(.int .i64 t17), (.int .i64 t18), (.int .i64 t19), (.int .i64 t20)])), (35, (.int .i64 r37)), (2, v9), (40, (pEl v57 r59 1 0))] [cellCh b1 [v2, (.int .i64 r60)] 127, ownCh elInt 3 v57 ([0, 0, 0, 0, 0, 0, 1, 2, 3]), cellCh b14 [(.int .i64 t17), (.int .i64 t18), (.int .i64 t19), (.int .i64 t20)] 30, ownCh elGFlow 83 v9 r8, cellCh b6 [(.int .i64 0), (.int .i64 0), (.int .i64 0), (.int .i64 0)] 30, roCh elU8 v2 r_0_b] (idxW ([r37, (-1), 1000000, 1000001]) e62 (fun e45 => k36 (r60, e45))) := by
        intro r37 r38 v57 r59 r60 e62 h63
        refine d_three (i := 4) (j := 9) (l := 13) rfl rfl rfl (by kernel_rfl) ?_ ?_ ?_
        · intro o ho; cases ho
          refine o_bsl (enc := encInt) (qs := [(0, (.int .i64 r37)), (1, (.int .i64 (-1))), (2, (.int .i64 1000000)), (3, (.int .i64 1000001))]) (cells := [(.int .i64 r37), (.int .i64 (-1)), (.int .i64 1000000), (.int .i64 1000001)]) ([r37, (-1), 1000000, 1000001]) flelInt (by intro ρ h; simp only [List.map_toArray, List.map_cons, List.map_nil, h (.tmp 35) _ rfl, h (.const (.int .i64 (-1))) _ rfl, h (.const (.int .i64 1000000)) _ rfl, h (.const (.int .i64 1000001)) _ rfl]) rfl el115 zero3 rfl rfl rfl rfl rfl rfl ?_; intro v64
          refine d_and (fun w m => m.pick [3, 4, 6] rfl) ?_
          refine pk [1, 2, 0, 3, 4, 5, 6] rfl ?_
          refine re (E' := [(3, (.pointer (some ⟨b6, 0, none⟩))), (33, (.agg #[(.int .i64 t17), (.int .i64 t18), (.int .i64 t19), (.int .i64 t20)])), (36, v64), (2, v9), (40, (pEl v57 r59 1 0))]) ⟨rfl, rfl, rfl, rfl, rfl, trivial⟩ ?_
          exact H38 r37 r38 v64 v57 r59 r60 e62 h63
        · intro o ho; cases ho
          refine o_lds m_op (enc := encInt) (u := (.int .i64 e62)) 1 rfl reads_own flelInt rfl h63 rfl rfl ty3 rfl ?_
          refine d_and (fun w m => m.pick [2, 3, 5] rfl) ?_
          refine pk [0, 2, 3, 4, 5] rfl ?_
          refine re (E' := [(3, (.pointer (some ⟨b6, 0, none⟩))), (33, (.agg #[(.int .i64 t17), (.int .i64 t18), (.int .i64 t19), (.int .i64 t20)])), (35, (.int .i64 r37)), (2, v9), (41, (.int .i64 e62))]) ⟨rfl, rfl, rfl, rfl, rfl, trivial⟩ ?_
          exact H47 r37 r38 v57 r59 r60 e62 h63
        · intro o ho; cases ho
          refine o_stc (cs' := [(.int .i64 t17), (.int .i64 t18), (.int .i64 t19), (.int .i64 t20)]) 4 rfl rfl rfl ty30 rfl rfl rfl rfl ?_
          refine d_and (fun w m => m.pick [2, 3, 5] rfl) ?_
          refine pk [0, 1, 2, 3, 4, 5] rfl ?_
          refine re (E' := [(3, (.pointer (some ⟨b6, 0, none⟩))), (35, (.int .i64 r37)), (2, v9), (40, (pEl v57 r59 1 0))]) ⟨rfl, rfl, rfl, rfl, trivial⟩ ?_
          exact H48 r37 r38 v57 r59 r60 e62 h63
      have H50 : ∀ (r37 : Int) (r38 : Int) (v57 : Value) (r59 : Int) (r60 : Int), Nx 44 (fun _ => True) (feet [cellCh b1 [v2, (.int .i64 r_0_p)] 127]) w0 (wpAnyH Tryd.prog .any (opsAt Tryd.f66 [1, 1, 1, 1, 0]) Qd (Mem (fun _ => True) (feet [cellCh b1 [v2, (.int .i64 r_0_p)] 127]) w0 [cellCh b14 [(.int .i64 t17), (.int .i64 t18), (.int .i64 t19), (.int .i64 t20)] 30, ownCh elGFlow 83 v9 r8, roCh elU8 v2 r_0_b]) 6 #[true, true, true, true, false, true, true, true, false, false, false, false, true, true, false]) [(3, (.pointer (some ⟨b6, 0, none⟩))), (35, (.int .i64 r37)), (37, v57), (39, (.int .i64 r59)), (2, v9)] [cellCh b1 [v2, (.int .i64 r60)] 127, ownCh elInt 3 v57 ([0, 0, 0, 0, 0, 0, 1, 2, 3]), cellCh b14 [(.int .i64 t17), (.int .i64 t18), (.int .i64 t19), (.int .i64 t20)] 30, ownCh elGFlow 83 v9 r8, cellCh b6 [(.int .i64 t17), (.int .i64 t18), (.int .i64 t19), (.int .i64 t20)] 30, roCh elU8 v2 r_0_b] (idxW ([0, 0, 0, 0, 0, 0, 1, 2, 3]) r59 (fun e49 => idxW ([r37, (-1), 1000000, 1000001]) e49 (fun e47 => k36 (r60, e47)))) := by
        intro r37 r38 v57 r59 r60
        refine d_two (i := 4) (j := 8) rfl rfl (by kernel_rfl) ?_ ?_
        · intro o ho; cases ho
          refine o_bsl (enc := encInt) (qs := [(0, (.int .i64 r37)), (1, (.int .i64 (-1))), (2, (.int .i64 1000000)), (3, (.int .i64 1000001))]) (cells := [(.int .i64 r37), (.int .i64 (-1)), (.int .i64 1000000), (.int .i64 1000001)]) ([r37, (-1), 1000000, 1000001]) flelInt (by intro ρ h; simp only [List.map_toArray, List.map_cons, List.map_nil, h (.tmp 35) _ rfl, h (.const (.int .i64 (-1))) _ rfl, h (.const (.int .i64 1000000)) _ rfl, h (.const (.int .i64 1000001)) _ rfl]) rfl el115 zero3 rfl rfl rfl rfl rfl rfl ?_; intro v68
          refine d_and (fun w m => m.pick [3, 4, 6] rfl) ?_
          refine pk [1, 2, 0, 3, 4, 5, 6] rfl ?_
          refine re (E' := [(3, (.pointer (some ⟨b6, 0, none⟩))), (36, v68), (37, v57), (39, (.int .i64 r59)), (2, v9)]) ⟨rfl, rfl, rfl, rfl, rfl, trivial⟩ ?_
          exact H39 r37 r38 v68 v57 r59 r60
        · intro o ho; cases ho
          refine o_idx m_op 1 rfl reads_own rfl rfl rfl el115 ?_; intro e69 h70
          refine d_and (fun w m => m.pick [2, 3, 5] rfl) ?_
          refine pk [0, 1, 2, 3, 4, 5] rfl ?_
          refine re (E' := [(3, (.pointer (some ⟨b6, 0, none⟩))), (35, (.int .i64 r37)), (2, v9), (40, (pEl v57 r59 1 0))]) ⟨rfl, rfl, rfl, rfl, trivial⟩ ?_
          exact H48 r37 r38 v57 r59 r60 e69 h70
      have H51 : ∀ (r37 : Int) (r38 : Int) (v57 : Value) (r59 : Int) (r60 : Int), Nx 44 (fun _ => True) (feet [cellCh b1 [v2, (.int .i64 r_0_p)] 127]) w0 (wpAnyH Tryd.prog .any (opsAt Tryd.f66 [1, 1, 1, 1, 0]) Qd (Mem (fun _ => True) (feet [cellCh b1 [v2, (.int .i64 r_0_p)] 127]) w0 [cellCh b14 [(.int .i64 t17), (.int .i64 t18), (.int .i64 t19), (.int .i64 t20)] 30, ownCh elGFlow 83 v9 r8, roCh elU8 v2 r_0_b]) 8 #[true, true, true, true, false, true, true, true, false, false, false, false, false, false, false]) [(3, (.pointer (some ⟨b6, 0, none⟩))), (32, v9), (33, (.agg #[(.int .i64 t17), (.int .i64 t18), (.int .i64 t19), (.int .i64 t20)])), (35, (.int .i64 r37)), (37, v57), (39, (.int .i64 r59))] [cellCh b1 [v2, (.int .i64 r60)] 127, ownCh elInt 3 v57 ([0, 0, 0, 0, 0, 0, 1, 2, 3]), cellCh b14 [(.int .i64 t17), (.int .i64 t18), (.int .i64 t19), (.int .i64 t20)] 30, ownCh elGFlow 83 v9 r8, cellCh b6 [(.int .i64 0), (.int .i64 0), (.int .i64 0), (.int .i64 0)] 30, roCh elU8 v2 r_0_b] (idxW ([0, 0, 0, 0, 0, 0, 1, 2, 3]) r59 (fun e54 => idxW ([r37, (-1), 1000000, 1000001]) e54 (fun e45 => k36 (r60, e45)))) := by
        intro r37 r38 v57 r59 r60
        refine o_as (d_take (i := 12) rfl (by kernel_rfl) (by kernel_rfl) (by kernel_rfl) hP (fun w m => m.pick [2, 3, 5] rfl)) rfl rfl ?_
        refine d_three (i := 4) (j := 8) (l := 13) rfl rfl rfl (by kernel_rfl) ?_ ?_ ?_
        · intro o ho; cases ho
          refine o_bsl (enc := encInt) (qs := [(0, (.int .i64 r37)), (1, (.int .i64 (-1))), (2, (.int .i64 1000000)), (3, (.int .i64 1000001))]) (cells := [(.int .i64 r37), (.int .i64 (-1)), (.int .i64 1000000), (.int .i64 1000001)]) ([r37, (-1), 1000000, 1000001]) flelInt (by intro ρ h; simp only [List.map_toArray, List.map_cons, List.map_nil, h (.tmp 35) _ rfl, h (.const (.int .i64 (-1))) _ rfl, h (.const (.int .i64 1000000)) _ rfl, h (.const (.int .i64 1000001)) _ rfl]) rfl el115 zero3 rfl rfl rfl rfl rfl rfl ?_; intro v61
          refine d_and (fun w m => m.pick [3, 4, 6] rfl) ?_
          refine pk [2, 1, 0, 3, 4, 5, 6] rfl ?_
          refine re (E' := [(3, (.pointer (some ⟨b6, 0, none⟩))), (33, (.agg #[(.int .i64 t17), (.int .i64 t18), (.int .i64 t19), (.int .i64 t20)])), (36, v61), (39, (.int .i64 r59)), (2, v9), (37, v57)]) ⟨rfl, rfl, rfl, rfl, rfl, rfl, trivial⟩ ?_
          exact H42 r37 r38 v61 r59 r60 v57
        · intro o ho; cases ho
          refine o_idx m_op 1 rfl reads_own rfl rfl rfl el115 ?_; intro e62 h63
          refine d_and (fun w m => m.pick [2, 3, 5] rfl) ?_
          refine pk [0, 1, 2, 3, 4, 5] rfl ?_
          refine re (E' := [(3, (.pointer (some ⟨b6, 0, none⟩))), (33, (.agg #[(.int .i64 t17), (.int .i64 t18), (.int .i64 t19), (.int .i64 t20)])), (35, (.int .i64 r37)), (2, v9), (40, (pEl v57 r59 1 0))]) ⟨rfl, rfl, rfl, rfl, rfl, trivial⟩ ?_
          exact H49 r37 r38 v57 r59 r60 e62 h63
        · intro o ho; cases ho
          refine o_stc (cs' := [(.int .i64 t17), (.int .i64 t18), (.int .i64 t19), (.int .i64 t20)]) 4 rfl rfl rfl ty30 rfl rfl rfl rfl ?_
          refine d_and (fun w m => m.pick [2, 3, 5] rfl) ?_
          refine pk [0, 1, 2, 3, 4, 5] rfl ?_
          refine re (E' := [(3, (.pointer (some ⟨b6, 0, none⟩))), (35, (.int .i64 r37)), (37, v57), (39, (.int .i64 r59)), (2, v9)]) ⟨rfl, rfl, rfl, rfl, rfl, trivial⟩ ?_
          exact H50 r37 r38 v57 r59 r60
      have H52 : ∀ (r37 : Int) (r38 : Int) (v57 : Value), Nx 44 (fun _ => True) (feet [cellCh b1 [v2, (.int .i64 r_0_p)] 127]) w0 (wpAnyH Tryd.prog .any (opsAt Tryd.f66 [1, 1, 1, 1, 0]) Qd (Mem (fun _ => True) (feet [cellCh b1 [v2, (.int .i64 r_0_p)] 127]) w0 [cellCh b14 [(.int .i64 t17), (.int .i64 t18), (.int .i64 t19), (.int .i64 t20)] 30, ownCh elGFlow 83 v9 r8, roCh elU8 v2 r_0_b]) 9 #[true, true, true, true, false, true, true, false, false, false, false, false, false, false, false]) [(3, (.pointer (some ⟨b6, 0, none⟩))), (32, v9), (33, (.agg #[(.int .i64 t17), (.int .i64 t18), (.int .i64 t19), (.int .i64 t20)])), (38, (.pointer (some ⟨b1, 0, none⟩))), (35, (.int .i64 r37)), (37, v57)] [ownCh elInt 3 v57 ([0, 0, 0, 0, 0, 0, 1, 2, 3]), cellCh b1 [v2, (.int .i64 r38)] 127, cellCh b14 [(.int .i64 t17), (.int .i64 t18), (.int .i64 t19), (.int .i64 t20)] 30, ownCh elGFlow 83 v9 r8, cellCh b6 [(.int .i64 0), (.int .i64 0), (.int .i64 0), (.int .i64 0)] 30, roCh elU8 v2 r_0_b] (L_spec_l20Rd_pick r_0_b r38 9 (fun (r41, r42) => idxW ([0, 0, 0, 0, 0, 0, 1, 2, 3]) r41 (fun e43 => idxW ([r37, (-1), 1000000, 1000001]) e43 (fun e45 => k36 (r42, e45))))) := by
        intro r37 r38 v57
        refine d_two (i := 4) (j := 7) rfl rfl (by kernel_rfl) ?_ ?_
        · intro o ho; cases ho
          refine o_bsl (enc := encInt) (qs := [(0, (.int .i64 r37)), (1, (.int .i64 (-1))), (2, (.int .i64 1000000)), (3, (.int .i64 1000001))]) (cells := [(.int .i64 r37), (.int .i64 (-1)), (.int .i64 1000000), (.int .i64 1000001)]) ([r37, (-1), 1000000, 1000001]) flelInt (by intro ρ h; simp only [List.map_toArray, List.map_cons, List.map_nil, h (.tmp 35) _ rfl, h (.const (.int .i64 (-1))) _ rfl, h (.const (.int .i64 1000000)) _ rfl, h (.const (.int .i64 1000001)) _ rfl]) rfl el115 zero3 rfl rfl rfl rfl rfl rfl ?_; intro v58
          refine d_and (fun w m => m.pick [3, 4, 6] rfl) ?_
          refine pk [1, 0, 2, 3, 4, 5, 6] rfl ?_
          refine re (E' := [(3, (.pointer (some ⟨b6, 0, none⟩))), (32, v9), (33, (.agg #[(.int .i64 t17), (.int .i64 t18), (.int .i64 t19), (.int .i64 t20)])), (38, (.pointer (some ⟨b1, 0, none⟩))), (36, v58), (37, v57)]) ⟨rfl, rfl, rfl, rfl, rfl, rfl, trivial⟩ ?_
          exact H41 r37 r38 v58 v57
        · intro o ho; cases ho
          refine pk [1, 0, 2, 3, 4, 5] rfl ?_
          refine o_call (vs := [(.pointer (some ⟨b1, 0, none⟩)), (.int .i64 9)]) (M0 := [cellCh b1 [v2, (.int .i64 r38)] 127]) Tryd.call85 rfl rfl (by intro w m h; exact w_spec_l20Rd_pick (r_0_b := r_0_b) (r_0_p := r38) (n_1 := 9) m.given (m.rdM 4 rfl reads_ro) h) ?_; rintro ⟨r59, r60⟩ _
          refine d_and (fun w m => m.pick [2, 3, 5] rfl) ?_
          refine pk [0, 1, 2, 3, 4, 5] rfl ?_
          refine re (E' := [(3, (.pointer (some ⟨b6, 0, none⟩))), (32, v9), (33, (.agg #[(.int .i64 t17), (.int .i64 t18), (.int .i64 t19), (.int .i64 t20)])), (35, (.int .i64 r37)), (37, v57), (39, (.int .i64 r59))]) ⟨rfl, rfl, rfl, rfl, rfl, rfl, trivial⟩ ?_
          exact H51 r37 r38 v57 r59 r60
      have H53 : ∀ (r37 : Int) (r38 : Int) (r71 : Int) (r72 : Int) (v73 : Value), Nx 44 (fun _ => True) (feet [cellCh b1 [v2, (.int .i64 r_0_p)] 127]) w0 (wpAnyH Tryd.prog .any (opsAt Tryd.f66 [1, 1, 1, 1, 0]) Qd (Mem (fun _ => True) (feet [cellCh b1 [v2, (.int .i64 r_0_p)] 127]) w0 [cellCh b14 [(.int .i64 t17), (.int .i64 t18), (.int .i64 t19), (.int .i64 t20)] 30, ownCh elGFlow 83 v9 r8, roCh elU8 v2 r_0_b]) 7 #[true, true, true, true, true, false, true, true, false, false, false, false, true, false, false]) [(3, (.pointer (some ⟨b6, 0, none⟩))), (33, (.agg #[(.int .i64 t17), (.int .i64 t18), (.int .i64 t19), (.int .i64 t20)])), (39, (.int .i64 r71)), (2, v9), (36, v73)] [ownCh elInt 3 v73 ([r37, (-1), 1000000, 1000001]), cellCh b1 [v2, (.int .i64 r72)] 127, cellCh b14 [(.int .i64 t17), (.int .i64 t18), (.int .i64 t19), (.int .i64 t20)] 30, ownCh elGFlow 83 v9 r8, cellCh b6 [(.int .i64 0), (.int .i64 0), (.int .i64 0), (.int .i64 0)] 30, roCh elU8 v2 r_0_b] (idxW ([0, 0, 0, 0, 0, 0, 1, 2, 3]) r71 (fun e54 => idxW ([r37, (-1), 1000000, 1000001]) e54 (fun e45 => k36 (r72, e45)))) := by
        intro r37 r38 r71 r72 v73
        refine d_two (i := 5) (j := 13) rfl rfl (by kernel_rfl) ?_ ?_
        · intro o ho; cases ho
          refine o_bsl (enc := encInt) (qs := [(0, (.int .i64 0)), (1, (.int .i64 0)), (2, (.int .i64 0)), (3, (.int .i64 0)), (4, (.int .i64 0)), (5, (.int .i64 0)), (6, (.int .i64 1)), (7, (.int .i64 2)), (8, (.int .i64 3))]) (cells := [(.int .i64 0), (.int .i64 0), (.int .i64 0), (.int .i64 0), (.int .i64 0), (.int .i64 0), (.int .i64 1), (.int .i64 2), (.int .i64 3)]) ([0, 0, 0, 0, 0, 0, 1, 2, 3]) flelInt (by intro ρ h; simp only [List.map_toArray, List.map_cons, List.map_nil, h (.const (.int .i64 0)) _ rfl, h (.const (.int .i64 0)) _ rfl, h (.const (.int .i64 0)) _ rfl, h (.const (.int .i64 0)) _ rfl, h (.const (.int .i64 0)) _ rfl, h (.const (.int .i64 0)) _ rfl, h (.const (.int .i64 1)) _ rfl, h (.const (.int .i64 2)) _ rfl, h (.const (.int .i64 3)) _ rfl]) rfl el115 zero3 rfl rfl rfl rfl rfl rfl ?_; intro v74
          refine d_and (fun w m => m.pick [3, 4, 6] rfl) ?_
          refine pk [0, 2, 1, 3, 4, 5, 6] rfl ?_
          refine re (E' := [(3, (.pointer (some ⟨b6, 0, none⟩))), (33, (.agg #[(.int .i64 t17), (.int .i64 t18), (.int .i64 t19), (.int .i64 t20)])), (36, v73), (39, (.int .i64 r71)), (2, v9), (37, v74)]) ⟨rfl, rfl, rfl, rfl, rfl, rfl, trivial⟩ ?_
          exact H42 r37 r38 v73 r71 r72 v74
        · intro o ho; cases ho
          refine o_stc (cs' := [(.int .i64 t17), (.int .i64 t18), (.int .i64 t19), (.int .i64 t20)]) 4 rfl rfl rfl ty30 rfl rfl rfl rfl ?_
          refine d_and (fun w m => m.pick [2, 3, 5] rfl) ?_
          refine pk [1, 0, 2, 3, 4, 5] rfl ?_
          refine re (E' := [(3, (.pointer (some ⟨b6, 0, none⟩))), (36, v73), (39, (.int .i64 r71)), (2, v9)]) ⟨rfl, rfl, rfl, rfl, trivial⟩ ?_
          exact H43 r37 r38 v73 r71 r72
      have H54 : ∀ (r37 : Int) (r38 : Int) (r71 : Int) (r72 : Int) (v75 : Value), Nx 44 (fun _ => True) (feet [cellCh b1 [v2, (.int .i64 r_0_p)] 127]) w0 (wpAnyH Tryd.prog .any (opsAt Tryd.f66 [1, 1, 1, 1, 0]) Qd (Mem (fun _ => True) (feet [cellCh b1 [v2, (.int .i64 r_0_p)] 127]) w0 [cellCh b14 [(.int .i64 t17), (.int .i64 t18), (.int .i64 t19), (.int .i64 t20)] 30, ownCh elGFlow 83 v9 r8, roCh elU8 v2 r_0_b]) 7 #[true, true, true, true, false, true, true, true, false, false, false, false, true, false, false]) [(3, (.pointer (some ⟨b6, 0, none⟩))), (33, (.agg #[(.int .i64 t17), (.int .i64 t18), (.int .i64 t19), (.int .i64 t20)])), (35, (.int .i64 r37)), (39, (.int .i64 r71)), (2, v9), (37, v75)] [ownCh elInt 3 v75 ([0, 0, 0, 0, 0, 0, 1, 2, 3]), cellCh b1 [v2, (.int .i64 r72)] 127, cellCh b14 [(.int .i64 t17), (.int .i64 t18), (.int .i64 t19), (.int .i64 t20)] 30, ownCh elGFlow 83 v9 r8, cellCh b6 [(.int .i64 0), (.int .i64 0), (.int .i64 0), (.int .i64 0)] 30, roCh elU8 v2 r_0_b] (idxW ([0, 0, 0, 0, 0, 0, 1, 2, 3]) r71 (fun e54 => idxW ([r37, (-1), 1000000, 1000001]) e54 (fun e45 => k36 (r72, e45)))) := by
        intro r37 r38 r71 r72 v75
        refine d_three (i := 4) (j := 8) (l := 13) rfl rfl rfl (by kernel_rfl) ?_ ?_ ?_
        · intro o ho; cases ho
          refine o_bsl (enc := encInt) (qs := [(0, (.int .i64 r37)), (1, (.int .i64 (-1))), (2, (.int .i64 1000000)), (3, (.int .i64 1000001))]) (cells := [(.int .i64 r37), (.int .i64 (-1)), (.int .i64 1000000), (.int .i64 1000001)]) ([r37, (-1), 1000000, 1000001]) flelInt (by intro ρ h; simp only [List.map_toArray, List.map_cons, List.map_nil, h (.tmp 35) _ rfl, h (.const (.int .i64 (-1))) _ rfl, h (.const (.int .i64 1000000)) _ rfl, h (.const (.int .i64 1000001)) _ rfl]) rfl el115 zero3 rfl rfl rfl rfl rfl rfl ?_; intro v76
          refine d_and (fun w m => m.pick [3, 4, 6] rfl) ?_
          refine pk [1, 2, 0, 3, 4, 5, 6] rfl ?_
          refine re (E' := [(3, (.pointer (some ⟨b6, 0, none⟩))), (33, (.agg #[(.int .i64 t17), (.int .i64 t18), (.int .i64 t19), (.int .i64 t20)])), (36, v76), (39, (.int .i64 r71)), (2, v9), (37, v75)]) ⟨rfl, rfl, rfl, rfl, rfl, rfl, trivial⟩ ?_
          exact H42 r37 r38 v76 r71 r72 v75
        · intro o ho; cases ho
          refine o_idx m_op 0 rfl reads_own rfl rfl rfl el115 ?_; intro e77 h78
          refine d_and (fun w m => m.pick [2, 3, 5] rfl) ?_
          refine pk [1, 0, 2, 3, 4, 5] rfl ?_
          refine re (E' := [(3, (.pointer (some ⟨b6, 0, none⟩))), (33, (.agg #[(.int .i64 t17), (.int .i64 t18), (.int .i64 t19), (.int .i64 t20)])), (35, (.int .i64 r37)), (2, v9), (40, (pEl v75 r71 1 0))]) ⟨rfl, rfl, rfl, rfl, rfl, trivial⟩ ?_
          exact H49 r37 r38 v75 r71 r72 e77 h78
        · intro o ho; cases ho
          refine o_stc (cs' := [(.int .i64 t17), (.int .i64 t18), (.int .i64 t19), (.int .i64 t20)]) 4 rfl rfl rfl ty30 rfl rfl rfl rfl ?_
          refine d_and (fun w m => m.pick [2, 3, 5] rfl) ?_
          refine pk [1, 0, 2, 3, 4, 5] rfl ?_
          refine re (E' := [(3, (.pointer (some ⟨b6, 0, none⟩))), (35, (.int .i64 r37)), (37, v75), (39, (.int .i64 r71)), (2, v9)]) ⟨rfl, rfl, rfl, rfl, rfl, trivial⟩ ?_
          exact H50 r37 r38 v75 r71 r72
      have H55 : ∀ (r37 : Int) (r38 : Int) (r71 : Int) (r72 : Int), Nx 44 (fun _ => True) (feet [cellCh b1 [v2, (.int .i64 r_0_p)] 127]) w0 (wpAnyH Tryd.prog .any (opsAt Tryd.f66 [1, 1, 1, 1, 0]) Qd (Mem (fun _ => True) (feet [cellCh b1 [v2, (.int .i64 r_0_p)] 127]) w0 [cellCh b14 [(.int .i64 t17), (.int .i64 t18), (.int .i64 t19), (.int .i64 t20)] 30, ownCh elGFlow 83 v9 r8, roCh elU8 v2 r_0_b]) 7 #[true, true, true, true, false, false, true, true, false, false, false, false, true, true, false]) [(3, (.pointer (some ⟨b6, 0, none⟩))), (35, (.int .i64 r37)), (39, (.int .i64 r71)), (2, v9)] [cellCh b1 [v2, (.int .i64 r72)] 127, cellCh b14 [(.int .i64 t17), (.int .i64 t18), (.int .i64 t19), (.int .i64 t20)] 30, ownCh elGFlow 83 v9 r8, cellCh b6 [(.int .i64 t17), (.int .i64 t18), (.int .i64 t19), (.int .i64 t20)] 30, roCh elU8 v2 r_0_b] (idxW ([0, 0, 0, 0, 0, 0, 1, 2, 3]) r71 (fun e49 => idxW ([r37, (-1), 1000000, 1000001]) e49 (fun e47 => k36 (r72, e47)))) := by
        intro r37 r38 r71 r72
        refine d_two (i := 4) (j := 5) rfl rfl (by kernel_rfl) ?_ ?_
        · intro o ho; cases ho
          refine o_bsl (enc := encInt) (qs := [(0, (.int .i64 r37)), (1, (.int .i64 (-1))), (2, (.int .i64 1000000)), (3, (.int .i64 1000001))]) (cells := [(.int .i64 r37), (.int .i64 (-1)), (.int .i64 1000000), (.int .i64 1000001)]) ([r37, (-1), 1000000, 1000001]) flelInt (by intro ρ h; simp only [List.map_toArray, List.map_cons, List.map_nil, h (.tmp 35) _ rfl, h (.const (.int .i64 (-1))) _ rfl, h (.const (.int .i64 1000000)) _ rfl, h (.const (.int .i64 1000001)) _ rfl]) rfl el115 zero3 rfl rfl rfl rfl rfl rfl ?_; intro v79
          refine d_and (fun w m => m.pick [2, 3, 5] rfl) ?_
          refine pk [1, 0, 2, 3, 4, 5] rfl ?_
          refine re (E' := [(3, (.pointer (some ⟨b6, 0, none⟩))), (36, v79), (39, (.int .i64 r71)), (2, v9)]) ⟨rfl, rfl, rfl, rfl, trivial⟩ ?_
          exact H43 r37 r38 v79 r71 r72
        · intro o ho; cases ho
          refine o_bsl (enc := encInt) (qs := [(0, (.int .i64 0)), (1, (.int .i64 0)), (2, (.int .i64 0)), (3, (.int .i64 0)), (4, (.int .i64 0)), (5, (.int .i64 0)), (6, (.int .i64 1)), (7, (.int .i64 2)), (8, (.int .i64 3))]) (cells := [(.int .i64 0), (.int .i64 0), (.int .i64 0), (.int .i64 0), (.int .i64 0), (.int .i64 0), (.int .i64 1), (.int .i64 2), (.int .i64 3)]) ([0, 0, 0, 0, 0, 0, 1, 2, 3]) flelInt (by intro ρ h; simp only [List.map_toArray, List.map_cons, List.map_nil, h (.const (.int .i64 0)) _ rfl, h (.const (.int .i64 0)) _ rfl, h (.const (.int .i64 0)) _ rfl, h (.const (.int .i64 0)) _ rfl, h (.const (.int .i64 0)) _ rfl, h (.const (.int .i64 0)) _ rfl, h (.const (.int .i64 1)) _ rfl, h (.const (.int .i64 2)) _ rfl, h (.const (.int .i64 3)) _ rfl]) rfl el115 zero3 rfl rfl rfl rfl rfl rfl ?_; intro v80
          refine d_and (fun w m => m.pick [2, 3, 5] rfl) ?_
          refine pk [1, 0, 2, 3, 4, 5] rfl ?_
          refine re (E' := [(3, (.pointer (some ⟨b6, 0, none⟩))), (35, (.int .i64 r37)), (37, v80), (39, (.int .i64 r71)), (2, v9)]) ⟨rfl, rfl, rfl, rfl, rfl, trivial⟩ ?_
          exact H50 r37 r38 v80 r71 r72
      have H56 : ∀ (r37 : Int) (r38 : Int) (r71 : Int) (r72 : Int), Nx 44 (fun _ => True) (feet [cellCh b1 [v2, (.int .i64 r_0_p)] 127]) w0 (wpAnyH Tryd.prog .any (opsAt Tryd.f66 [1, 1, 1, 1, 0]) Qd (Mem (fun _ => True) (feet [cellCh b1 [v2, (.int .i64 r_0_p)] 127]) w0 [cellCh b14 [(.int .i64 t17), (.int .i64 t18), (.int .i64 t19), (.int .i64 t20)] 30, ownCh elGFlow 83 v9 r8, roCh elU8 v2 r_0_b]) 9 #[true, true, true, true, false, false, true, true, false, false, false, false, false, false, false]) [(3, (.pointer (some ⟨b6, 0, none⟩))), (32, v9), (33, (.agg #[(.int .i64 t17), (.int .i64 t18), (.int .i64 t19), (.int .i64 t20)])), (35, (.int .i64 r37)), (39, (.int .i64 r71))] [cellCh b1 [v2, (.int .i64 r72)] 127, cellCh b14 [(.int .i64 t17), (.int .i64 t18), (.int .i64 t19), (.int .i64 t20)] 30, ownCh elGFlow 83 v9 r8, cellCh b6 [(.int .i64 0), (.int .i64 0), (.int .i64 0), (.int .i64 0)] 30, roCh elU8 v2 r_0_b] (idxW ([0, 0, 0, 0, 0, 0, 1, 2, 3]) r71 (fun e54 => idxW ([r37, (-1), 1000000, 1000001]) e54 (fun e45 => k36 (r72, e45)))) := by
        intro r37 r38 r71 r72
        refine o_as (d_take (i := 12) rfl (by kernel_rfl) (by kernel_rfl) (by kernel_rfl) hP (fun w m => m.pick [1, 2, 4] rfl)) rfl rfl ?_
        refine d_three (i := 4) (j := 5) (l := 13) rfl rfl rfl (by kernel_rfl) ?_ ?_ ?_
        · intro o ho; cases ho
          refine o_bsl (enc := encInt) (qs := [(0, (.int .i64 r37)), (1, (.int .i64 (-1))), (2, (.int .i64 1000000)), (3, (.int .i64 1000001))]) (cells := [(.int .i64 r37), (.int .i64 (-1)), (.int .i64 1000000), (.int .i64 1000001)]) ([r37, (-1), 1000000, 1000001]) flelInt (by intro ρ h; simp only [List.map_toArray, List.map_cons, List.map_nil, h (.tmp 35) _ rfl, h (.const (.int .i64 (-1))) _ rfl, h (.const (.int .i64 1000000)) _ rfl, h (.const (.int .i64 1000001)) _ rfl]) rfl el115 zero3 rfl rfl rfl rfl rfl rfl ?_; intro v73
          refine d_and (fun w m => m.pick [2, 3, 5] rfl) ?_
          refine pk [0, 1, 2, 3, 4, 5] rfl ?_
          refine re (E' := [(3, (.pointer (some ⟨b6, 0, none⟩))), (33, (.agg #[(.int .i64 t17), (.int .i64 t18), (.int .i64 t19), (.int .i64 t20)])), (39, (.int .i64 r71)), (2, v9), (36, v73)]) ⟨rfl, rfl, rfl, rfl, rfl, trivial⟩ ?_
          exact H53 r37 r38 r71 r72 v73
        · intro o ho; cases ho
          refine o_bsl (enc := encInt) (qs := [(0, (.int .i64 0)), (1, (.int .i64 0)), (2, (.int .i64 0)), (3, (.int .i64 0)), (4, (.int .i64 0)), (5, (.int .i64 0)), (6, (.int .i64 1)), (7, (.int .i64 2)), (8, (.int .i64 3))]) (cells := [(.int .i64 0), (.int .i64 0), (.int .i64 0), (.int .i64 0), (.int .i64 0), (.int .i64 0), (.int .i64 1), (.int .i64 2), (.int .i64 3)]) ([0, 0, 0, 0, 0, 0, 1, 2, 3]) flelInt (by intro ρ h; simp only [List.map_toArray, List.map_cons, List.map_nil, h (.const (.int .i64 0)) _ rfl, h (.const (.int .i64 0)) _ rfl, h (.const (.int .i64 0)) _ rfl, h (.const (.int .i64 0)) _ rfl, h (.const (.int .i64 0)) _ rfl, h (.const (.int .i64 0)) _ rfl, h (.const (.int .i64 1)) _ rfl, h (.const (.int .i64 2)) _ rfl, h (.const (.int .i64 3)) _ rfl]) rfl el115 zero3 rfl rfl rfl rfl rfl rfl ?_; intro v75
          refine d_and (fun w m => m.pick [2, 3, 5] rfl) ?_
          refine pk [0, 1, 2, 3, 4, 5] rfl ?_
          refine re (E' := [(3, (.pointer (some ⟨b6, 0, none⟩))), (33, (.agg #[(.int .i64 t17), (.int .i64 t18), (.int .i64 t19), (.int .i64 t20)])), (35, (.int .i64 r37)), (39, (.int .i64 r71)), (2, v9), (37, v75)]) ⟨rfl, rfl, rfl, rfl, rfl, rfl, trivial⟩ ?_
          exact H54 r37 r38 r71 r72 v75
        · intro o ho; cases ho
          refine o_stc (cs' := [(.int .i64 t17), (.int .i64 t18), (.int .i64 t19), (.int .i64 t20)]) 3 rfl rfl rfl ty30 rfl rfl rfl rfl ?_
          refine d_and (fun w m => m.pick [1, 2, 4] rfl) ?_
          refine pk [0, 1, 2, 3, 4] rfl ?_
          refine re (E' := [(3, (.pointer (some ⟨b6, 0, none⟩))), (35, (.int .i64 r37)), (39, (.int .i64 r71)), (2, v9)]) ⟨rfl, rfl, rfl, rfl, trivial⟩ ?_
          exact H55 r37 r38 r71 r72
      have H57 : ∀ (r37 : Int) (r38 : Int), Nx 44 (fun _ => True) (feet [cellCh b1 [v2, (.int .i64 r_0_p)] 127]) w0 (wpAnyH Tryd.prog .any (opsAt Tryd.f66 [1, 1, 1, 1, 0]) Qd (Mem (fun _ => True) (feet [cellCh b1 [v2, (.int .i64 r_0_p)] 127]) w0 [cellCh b14 [(.int .i64 t17), (.int .i64 t18), (.int .i64 t19), (.int .i64 t20)] 30, ownCh elGFlow 83 v9 r8, roCh elU8 v2 r_0_b]) 10 #[true, true, true, true, false, false, true, false, false, false, false, false, false, false, false]) [(3, (.pointer (some ⟨b6, 0, none⟩))), (32, v9), (33, (.agg #[(.int .i64 t17), (.int .i64 t18), (.int .i64 t19), (.int .i64 t20)])), (38, (.pointer (some ⟨b1, 0, none⟩))), (35, (.int .i64 r37))] [cellCh b1 [v2, (.int .i64 r38)] 127, cellCh b14 [(.int .i64 t17), (.int .i64 t18), (.int .i64 t19), (.int .i64 t20)] 30, ownCh elGFlow 83 v9 r8, cellCh b6 [(.int .i64 0), (.int .i64 0), (.int .i64 0), (.int .i64 0)] 30, roCh elU8 v2 r_0_b] (L_spec_l20Rd_pick r_0_b r38 9 (fun (r41, r42) => idxW ([0, 0, 0, 0, 0, 0, 1, 2, 3]) r41 (fun e43 => idxW ([r37, (-1), 1000000, 1000001]) e43 (fun e45 => k36 (r42, e45))))) := by
        intro r37 r38
        refine d_three (i := 4) (j := 5) (l := 7) rfl rfl rfl (by kernel_rfl) ?_ ?_ ?_
        · intro o ho; cases ho
          refine o_bsl (enc := encInt) (qs := [(0, (.int .i64 r37)), (1, (.int .i64 (-1))), (2, (.int .i64 1000000)), (3, (.int .i64 1000001))]) (cells := [(.int .i64 r37), (.int .i64 (-1)), (.int .i64 1000000), (.int .i64 1000001)]) ([r37, (-1), 1000000, 1000001]) flelInt (by intro ρ h; simp only [List.map_toArray, List.map_cons, List.map_nil, h (.tmp 35) _ rfl, h (.const (.int .i64 (-1))) _ rfl, h (.const (.int .i64 1000000)) _ rfl, h (.const (.int .i64 1000001)) _ rfl]) rfl el115 zero3 rfl rfl rfl rfl rfl rfl ?_; intro v39
          refine d_and (fun w m => m.pick [2, 3, 5] rfl) ?_
          refine pk [0, 1, 2, 3, 4, 5] rfl ?_
          refine re (E' := [(3, (.pointer (some ⟨b6, 0, none⟩))), (32, v9), (33, (.agg #[(.int .i64 t17), (.int .i64 t18), (.int .i64 t19), (.int .i64 t20)])), (38, (.pointer (some ⟨b1, 0, none⟩))), (36, v39)]) ⟨rfl, rfl, rfl, rfl, rfl, trivial⟩ ?_
          exact H45 r37 r38 v39
        · intro o ho; cases ho
          refine o_bsl (enc := encInt) (qs := [(0, (.int .i64 0)), (1, (.int .i64 0)), (2, (.int .i64 0)), (3, (.int .i64 0)), (4, (.int .i64 0)), (5, (.int .i64 0)), (6, (.int .i64 1)), (7, (.int .i64 2)), (8, (.int .i64 3))]) (cells := [(.int .i64 0), (.int .i64 0), (.int .i64 0), (.int .i64 0), (.int .i64 0), (.int .i64 0), (.int .i64 1), (.int .i64 2), (.int .i64 3)]) ([0, 0, 0, 0, 0, 0, 1, 2, 3]) flelInt (by intro ρ h; simp only [List.map_toArray, List.map_cons, List.map_nil, h (.const (.int .i64 0)) _ rfl, h (.const (.int .i64 0)) _ rfl, h (.const (.int .i64 0)) _ rfl, h (.const (.int .i64 0)) _ rfl, h (.const (.int .i64 0)) _ rfl, h (.const (.int .i64 0)) _ rfl, h (.const (.int .i64 1)) _ rfl, h (.const (.int .i64 2)) _ rfl, h (.const (.int .i64 3)) _ rfl]) rfl el115 zero3 rfl rfl rfl rfl rfl rfl ?_; intro v57
          refine d_and (fun w m => m.pick [2, 3, 5] rfl) ?_
          refine pk [0, 1, 2, 3, 4, 5] rfl ?_
          refine re (E' := [(3, (.pointer (some ⟨b6, 0, none⟩))), (32, v9), (33, (.agg #[(.int .i64 t17), (.int .i64 t18), (.int .i64 t19), (.int .i64 t20)])), (38, (.pointer (some ⟨b1, 0, none⟩))), (35, (.int .i64 r37)), (37, v57)]) ⟨rfl, rfl, rfl, rfl, rfl, rfl, trivial⟩ ?_
          exact H52 r37 r38 v57
        · intro o ho; cases ho
          refine pk [0, 1, 2, 3, 4] rfl ?_
          refine o_call (vs := [(.pointer (some ⟨b1, 0, none⟩)), (.int .i64 9)]) (M0 := [cellCh b1 [v2, (.int .i64 r38)] 127]) Tryd.call85 rfl rfl (by intro w m h; exact w_spec_l20Rd_pick (r_0_b := r_0_b) (r_0_p := r38) (n_1 := 9) m.given (m.rdM 3 rfl reads_ro) h) ?_; rintro ⟨r71, r72⟩ _
          refine d_and (fun w m => m.pick [1, 2, 4] rfl) ?_
          refine pk [0, 1, 2, 3, 4] rfl ?_
          refine re (E' := [(3, (.pointer (some ⟨b6, 0, none⟩))), (32, v9), (33, (.agg #[(.int .i64 t17), (.int .i64 t18), (.int .i64 t19), (.int .i64 t20)])), (35, (.int .i64 r37)), (39, (.int .i64 r71))]) ⟨rfl, rfl, rfl, rfl, rfl, trivial⟩ ?_
          exact H56 r37 r38 r71 r72
      have H58 : ∀ (v81 : Value), Nx 44 (fun _ => True) (feet [cellCh b1 [v2, (.int .i64 r_0_p)] 127]) w0 (wpAnyH Tryd.prog .any (opsAt Tryd.f66 [1, 1, 1, 1, 0]) Qd (Mem (fun _ => True) (feet [cellCh b1 [v2, (.int .i64 r_0_p)] 127]) w0 [cellCh b14 [(.int .i64 t17), (.int .i64 t18), (.int .i64 t19), (.int .i64 t20)] 30, ownCh elGFlow 83 v9 r8, roCh elU8 v2 r_0_b]) 10 #[true, true, true, false, false, true, true, false, false, false, false, false, false, false, false]) [(3, (.pointer (some ⟨b6, 0, none⟩))), (32, v9), (33, (.agg #[(.int .i64 t17), (.int .i64 t18), (.int .i64 t19), (.int .i64 t20)])), (34, (.pointer (some ⟨b1, 0, none⟩))), (38, (.pointer (some ⟨b1, 0, none⟩))), (37, v81)] [ownCh elInt 3 v81 ([0, 0, 0, 0, 0, 0, 1, 2, 3]), cellCh b1 [v2, (.int .i64 t16)] 127, cellCh b14 [(.int .i64 t17), (.int .i64 t18), (.int .i64 t19), (.int .i64 t20)] 30, ownCh elGFlow 83 v9 r8, cellCh b6 [(.int .i64 0), (.int .i64 0), (.int .i64 0), (.int .i64 0)] 30, roCh elU8 v2 r_0_b] (L_spec_l20Rd_pick r_0_b t16 70 (fun (r82, r83) => L_spec_l20Rd_pick r_0_b r83 9 (fun (r41, r42) => idxW ([0, 0, 0, 0, 0, 0, 1, 2, 3]) r41 (fun e43 => idxW ([r82, (-1), 1000000, 1000001]) e43 (fun e45 => k36 (r42, e45)))))) := by
        intro v81
        refine pk [1, 0, 2, 3, 4, 5] rfl ?_
        refine d_one (i := 3) rfl (by kernel_rfl) (o_call (vs := [(.pointer (some ⟨b1, 0, none⟩)), (.int .i64 70)]) (M0 := [cellCh b1 [v2, (.int .i64 t16)] 127]) Tryd.call85 rfl rfl (by intro w m h; exact w_spec_l20Rd_pick (r_0_b := r_0_b) (r_0_p := t16) (n_1 := 70) m.given (m.rdM 4 rfl reads_ro) h) ?_); rintro ⟨r82, r83⟩ _
        refine d_and (fun w m => m.pick [2, 3, 5] rfl) ?_
        refine pk [1, 0, 2, 3, 4, 5] rfl ?_
        refine re (E' := [(3, (.pointer (some ⟨b6, 0, none⟩))), (32, v9), (33, (.agg #[(.int .i64 t17), (.int .i64 t18), (.int .i64 t19), (.int .i64 t20)])), (38, (.pointer (some ⟨b1, 0, none⟩))), (35, (.int .i64 r82)), (37, v81)]) ⟨rfl, rfl, rfl, rfl, rfl, rfl, trivial⟩ ?_
        exact H52 r82 r83 v81
      refine o_mv (d_take (i := 0) rfl (by kernel_rfl) (by kernel_rfl) (by kernel_rfl) hP (fun w m => m.pick [1, 2, 4] rfl)) rfl rfl ?_
      refine o_ldc (d_take (i := 1) rfl (by kernel_rfl) (by kernel_rfl) (by kernel_rfl) hP (fun w m => m.pick [1, 2, 4] rfl)) (v := (.agg #[(.int .i64 t17), (.int .i64 t18), (.int .i64 t19), (.int .i64 t20)])) 0 rfl rfl rfl ty30 rfl ?_
      refine o_mv (d_take (i := 2) rfl (by kernel_rfl) (by kernel_rfl) (by kernel_rfl) hP (fun w m => m.pick [1, 2, 4] rfl)) rfl rfl ?_
      refine o_mv (d_take (i := 6) rfl (by kernel_rfl) (by kernel_rfl) (by kernel_rfl) hP (fun w m => m.pick [1, 2, 4] rfl)) rfl rfl ?_
      refine d_two (i := 3) (j := 5) rfl rfl (by kernel_rfl) ?_ ?_
      · intro o ho; cases ho
        refine pk [0, 1, 2, 3, 4] rfl ?_
        refine o_call (vs := [(.pointer (some ⟨b1, 0, none⟩)), (.int .i64 70)]) (M0 := [cellCh b1 [v2, (.int .i64 t16)] 127]) Tryd.call85 rfl rfl (by intro w m h; exact w_spec_l20Rd_pick (r_0_b := r_0_b) (r_0_p := t16) (n_1 := 70) m.given (m.rdM 3 rfl reads_ro) h) ?_; rintro ⟨r37, r38⟩ _
        refine d_and (fun w m => m.pick [1, 2, 4] rfl) ?_
        refine pk [0, 1, 2, 3, 4] rfl ?_
        refine re (E' := [(3, (.pointer (some ⟨b6, 0, none⟩))), (32, v9), (33, (.agg #[(.int .i64 t17), (.int .i64 t18), (.int .i64 t19), (.int .i64 t20)])), (38, (.pointer (some ⟨b1, 0, none⟩))), (35, (.int .i64 r37))]) ⟨rfl, rfl, rfl, rfl, rfl, trivial⟩ ?_
        exact H57 r37 r38
      · intro o ho; cases ho
        refine o_bsl (enc := encInt) (qs := [(0, (.int .i64 0)), (1, (.int .i64 0)), (2, (.int .i64 0)), (3, (.int .i64 0)), (4, (.int .i64 0)), (5, (.int .i64 0)), (6, (.int .i64 1)), (7, (.int .i64 2)), (8, (.int .i64 3))]) (cells := [(.int .i64 0), (.int .i64 0), (.int .i64 0), (.int .i64 0), (.int .i64 0), (.int .i64 0), (.int .i64 1), (.int .i64 2), (.int .i64 3)]) ([0, 0, 0, 0, 0, 0, 1, 2, 3]) flelInt (by intro ρ h; simp only [List.map_toArray, List.map_cons, List.map_nil, h (.const (.int .i64 0)) _ rfl, h (.const (.int .i64 0)) _ rfl, h (.const (.int .i64 0)) _ rfl, h (.const (.int .i64 0)) _ rfl, h (.const (.int .i64 0)) _ rfl, h (.const (.int .i64 0)) _ rfl, h (.const (.int .i64 1)) _ rfl, h (.const (.int .i64 2)) _ rfl, h (.const (.int .i64 3)) _ rfl]) rfl el115 zero3 rfl rfl rfl rfl rfl rfl ?_; intro v81
        refine d_and (fun w m => m.pick [2, 3, 5] rfl) ?_
        refine pk [0, 1, 2, 3, 4, 5] rfl ?_
        refine re (E' := [(3, (.pointer (some ⟨b6, 0, none⟩))), (32, v9), (33, (.agg #[(.int .i64 t17), (.int .i64 t18), (.int .i64 t19), (.int .i64 t20)])), (34, (.pointer (some ⟨b1, 0, none⟩))), (38, (.pointer (some ⟨b1, 0, none⟩))), (37, v81)]) ⟨rfl, rfl, rfl, rfl, rfl, rfl, trivial⟩ ?_
        exact H58 v81
    · rintro ⟨t34, t35⟩ a w ⟨hE, hm⟩ h
      refine nx_of hE hm h ?_
      clear hE hm h
      refine c_ret ?_
      exact l_end3 Tryd.results66 (r8, (GPacket.mk t17 t18 t19 t20), t35, t34) v9 (rv_t rfl) (rv_c 2 rfl rfl ty30 rfl) (rv_t rfl) rfl (fun w m => NewCh.of m [1, 0] rfl (fr_cons (free_own flelGFlow) (fr_cons free_cell fr_nil)))

set_option maxRecDepth 100000 in
set_option maxHeartbeats 8000000 in
theorem w_spec_l20Life {w0 : World} {F : Nat → Prop} {b1 : Nat} {v2 : Value} {r_0_b : (List UInt8)} {r_0_p : Int} {κ : (Int × Int) → Prop} (hg : Given [cellCh b1 [v2, (.int .i64 r_0_p)] 127] w0) (hv2 : Sl elU8 (fun b => b < w0.heap.size ∧ ¬ feet [cellCh b1 [v2, (.int .i64 r_0_p)] 127] b) w0 v2 r_0_b) (h : L_spec_l20Life r_0_b r_0_p κ) :
    Calls Tryd.prog 67 #[(.pointer (some ⟨b1, 0, none⟩))] w0 (Ret [cellCh b1 [v2, (.int .i64 r_0_p)] 127] F w0 κ (fun (r : (Int × Int)) (u : Unit) => (.int .i64 r.1)) (fun (r : (Int × Int)) (u : Unit) => [cellCh b1 [v2, (.int .i64 r.2)] 127])) := by
  refine enter (args := [(.pointer (some ⟨b1, 0, none⟩))]) [cellCh b1 [v2, (.int .i64 r_0_p)] 127] Tryd.func67 rfl Tryd.ntmps67 rfl [roCh elU8 v2 r_0_b] (hf_cons hf_nil) (hh_cons hv2 hh_nil) hg.lt hg.disj hg.hold h ?_
  clear h hg hv2
  refine c_seq ?_
  refine c_region ?_
  refine o_as st rfl rfl ?_
  refine c_nil ?_
  refine l_then ?_
  refine c_seq ?_
  refine c_region ?_
  refine o_mv st rfl rfl ?_
  refine pk [0, 1] rfl ?_
  refine stw (o_call (vs := [(.pointer (some ⟨b1, 0, none⟩)), (.int .i64 60)]) (M0 := [cellCh b1 [v2, (.int .i64 r_0_p)] 127]) Tryd.call85 rfl rfl (by intro w m h; exact w_spec_l20Rd_pick (r_0_b := r_0_b) (r_0_p := r_0_p) (n_1 := 60) m.given (m.rdM 0 rfl reads_ro) h) ?_); rintro ⟨r5, r6⟩ _
  refine stw (o_bsl (enc := encInt) (qs := [(0, (.int .i64 r5)), (1, (.int .i64 0)), (2, (.int .i64 1000)), (3, (.int .i64 (-1))), (4, (.int .i64 1001))]) (cells := [(.int .i64 r5), (.int .i64 0), (.int .i64 1000), (.int .i64 (-1)), (.int .i64 1001)]) ([r5, 0, 1000, (-1), 1001]) flelInt (by intro ρ h; simp only [List.map_toArray, List.map_cons, List.map_nil, h (.tmp 4) _ rfl, h (.const (.int .i64 0)) _ rfl, h (.const (.int .i64 1000)) _ rfl, h (.const (.int .i64 (-1))) _ rfl, h (.const (.int .i64 1001)) _ rfl]) rfl el115 zero3 rfl rfl rfl rfl rfl rfl ?_); intro v7
  refine stw (o_bsl (enc := encInt) (qs := [(0, (.int .i64 0)), (1, (.int .i64 0)), (2, (.int .i64 0)), (3, (.int .i64 0)), (4, (.int .i64 1)), (5, (.int .i64 2)), (6, (.int .i64 3)), (7, (.int .i64 4))]) (cells := [(.int .i64 0), (.int .i64 0), (.int .i64 0), (.int .i64 0), (.int .i64 1), (.int .i64 2), (.int .i64 3), (.int .i64 4)]) ([0, 0, 0, 0, 1, 2, 3, 4]) flelInt (by intro ρ h; simp only [List.map_toArray, List.map_cons, List.map_nil, h (.const (.int .i64 0)) _ rfl, h (.const (.int .i64 0)) _ rfl, h (.const (.int .i64 0)) _ rfl, h (.const (.int .i64 0)) _ rfl, h (.const (.int .i64 1)) _ rfl, h (.const (.int .i64 2)) _ rfl, h (.const (.int .i64 3)) _ rfl, h (.const (.int .i64 4)) _ rfl]) rfl el115 zero3 rfl rfl rfl rfl rfl rfl ?_); intro v9
  refine o_mv st rfl rfl ?_
  refine pk [2, 0, 1, 3] rfl ?_
  refine stw (o_call (vs := [(.pointer (some ⟨b1, 0, none⟩)), (.int .i64 8)]) (M0 := [cellCh b1 [v2, (.int .i64 r6)] 127]) Tryd.call85 rfl rfl (by intro w m h; exact w_spec_l20Rd_pick (r_0_b := r_0_b) (r_0_p := r6) (n_1 := 8) m.given (m.rdM 2 rfl reads_ro) h) ?_); rintro ⟨r11, r12⟩ _
  refine o_idx st 1 rfl reads_own rfl rfl rfl el115 ?_; intro e13 h14
  refine o_lds st (enc := encInt) (u := (.int .i64 e13)) 1 rfl reads_own flelInt rfl h14 rfl rfl ty3 rfl ?_
  refine o_idx st 2 rfl reads_own rfl rfl rfl el115 ?_; intro e15 h16
  refine o_lds st (enc := encInt) (u := (.int .i64 e15)) 2 rfl reads_own flelInt rfl h16 rfl rfl ty3 rfl ?_
  refine o_as st rfl rfl ?_
  refine c_nil ?_
  refine l_then ?_
  refine c_ret ?_
  exact l_end1 Tryd.results67 (e15, r12) () (rv_t rfl) (fun w m => NewCh.of m [0] rfl (fr_cons free_cell fr_nil))

set_option maxRecDepth 100000 in
set_option maxHeartbeats 8000000 in
theorem w_spec_DrawTrackFlow {w0 : World} {F : Nat → Prop} {v1 : Value} {code_0 : (List UInt8)} {κ : ((List GFlow) × GPacket × Int × Int) → Prop} (hv1 : Sl elU8 (fun b => b < w0.heap.size ∧ ¬ feet [] b) w0 v1 code_0) (h : L_spec_DrawTrackFlow code_0 κ) :
    Calls Tryd.prog 22 #[v1] w0 (Ret [] F w0 κ (fun (r : ((List GFlow) × GPacket × Int × Int)) (u : Value) => .tuple #[u, (.agg #[(.int .i64 r.2.1.xFrom), (.int .i64 r.2.1.xTo), (.int .i64 r.2.1.xPort), (.int .i64 r.2.1.xProto)]), (.int .i64 r.2.2.1), (.int .i64 r.2.2.2)]) (fun (r : ((List GFlow) × GPacket × Int × Int)) (u : Value) => [ownCh elGFlow 83 u (r.1)])) := by
  refine enter (args := [v1]) [] Tryd.func22 rfl Tryd.ntmps22 rfl [roCh elU8 v1 code_0] (hf_cons hf_nil) (hh_cons hv1 hh_nil) (Given.nil w0).lt (Given.nil w0).disj (Given.nil w0).hold h ?_
  clear h hv1
  refine c_seq ?_
  refine c_region ?_
  refine stw (o_asn elGFlow 83 rfl rfl ?_)
  refine stw (o_alloc rfl [(.int .i64 0), (.int .i64 0), (.int .i64 0), (.int .i64 0)] zero30 ?_); intro b4
  refine o_as st rfl rfl ?_
  refine o_as st rfl rfl ?_
  refine c_nil ?_
  refine l_then ?_
  refine c_seq ?_
  refine c_region ?_
  refine o_mv st rfl rfl ?_
  refine stw (o_callP (vs := [v1]) Tryd.call65 rfl rfl (by intro w m h; exact w_spec_l20Open (code_0 := code_0) fz_ok0 (m.ro 2 rfl) h) ?_); rintro ⟨r8, r11⟩ ⟨b7, v9⟩
  refine o_as st rfl rfl ?_
  refine c_nil ?_
  refine l_then ?_
  refine c_seq ?_
  refine c_region ?_
  refine o_mv st rfl rfl ?_
  refine pk [0, 1, 2, 3, 4] rfl ?_
  refine stw (o_call (vs := [(.pointer (some ⟨b7, 0, none⟩))]) (M0 := [cellCh b7 [v9, (.int .i64 r11)] 127]) Tryd.call66 rfl rfl (by intro w m h; exact w_spec_l20Moment (r_0_b := r8) (r_0_p := r11) m.given (m.rdM 0 rfl reads_ro) h) ?_); rintro ⟨r13, r14, r15, r17⟩ v16
  refine o_mv st rfl rfl ?_
  refine o_ext st (vs := [v16, (.agg #[(.int .i64 r14.xFrom), (.int .i64 r14.xTo), (.int .i64 r14.xPort), (.int .i64 r14.xProto)]), (.int .i64 r15)]) rfl rfl rfl ?_
  refine o_ext st (vs := [v16, (.agg #[(.int .i64 r14.xFrom), (.int .i64 r14.xTo), (.int .i64 r14.xPort), (.int .i64 r14.xProto)]), (.int .i64 r15)]) rfl rfl rfl ?_
  refine o_ext st (vs := [v16, (.agg #[(.int .i64 r14.xFrom), (.int .i64 r14.xTo), (.int .i64 r14.xPort), (.int .i64 r14.xProto)]), (.int .i64 r15)]) rfl rfl rfl ?_
  refine stw (o_alloc rfl [(.int .i64 0), (.int .i64 0), (.int .i64 0), (.int .i64 0)] zero30 ?_); intro b19
  refine o_as st rfl rfl ?_
  refine stw (o_stc (cs' := [(.int .i64 r14.xFrom), (.int .i64 r14.xTo), (.int .i64 r14.xPort), (.int .i64 r14.xProto)]) 0 rfl rfl rfl ty30 rfl rfl rfl rfl ?_)
  refine o_as st rfl rfl ?_
  refine c_nil ?_
  refine l_then ?_
  refine c_seq ?_
  refine c_draw mixed 9 rfl [cellCh b19 [(.int .i64 r14.xFrom), (.int .i64 r14.xTo), (.int .i64 r14.xPort), (.int .i64 r14.xProto)] 30, ownCh elGFlow 83 v16 r13, roCh elU8 v9 r8, ownCh elGFlow 83 (.slice none 0 0) ([]), roCh elU8 v1 code_0] ?_
  refine o_mv (d_take (i := 0) rfl (by kernel_rfl) (by kernel_rfl) (by kernel_rfl) (fun c a d v w h => by cases d <;> exact h) (fun w m => m.pick [0, 1, 3, 5, 6] rfl)) rfl rfl ?_
  refine o_ldc (d_take (i := 1) rfl (by kernel_rfl) (by kernel_rfl) (by kernel_rfl) (fun c a d v w h => by cases d <;> exact h) (fun w m => m.pick [0, 1, 3, 5, 6] rfl)) (v := (.agg #[(.int .i64 r14.xFrom), (.int .i64 r14.xTo), (.int .i64 r14.xPort), (.int .i64 r14.xProto)])) 0 rfl rfl rfl ty30 rfl ?_
  refine o_mv (d_take (i := 2) rfl (by kernel_rfl) (by kernel_rfl) (by kernel_rfl) (fun c a d v w h => by cases d <;> exact h) (fun w m => m.pick [0, 1, 3, 5, 6] rfl)) rfl rfl ?_
  refine o_mv (d_take (i := 3) rfl (by kernel_rfl) (by kernel_rfl) (by kernel_rfl) (fun c a d v w h => by cases d <;> exact h) (fun w m => m.pick [0, 1, 3, 5, 6] rfl)) rfl rfl ?_
  refine pk [2, 0, 1, 3, 4, 5, 6] rfl ?_
  refine d_one (i := 4) rfl (by kernel_rfl) (o_call (vs := [(.pointer (some ⟨b7, 0, none⟩))]) (M0 := [cellCh b7 [v9, (.int .i64 r17)] 127]) Tryd.call67 rfl rfl (by intro w m h; exact w_spec_l20Life (r_0_b := r8) (r_0_p := r17) m.given (m.rdM 2 rfl reads_ro) h) ?_); rintro ⟨r21, r22⟩ _
  refine d_and (fun w m => m.pick [1, 2, 3, 5, 6] rfl) ?_
  refine o_as (d_take (i := 5) rfl (by kernel_rfl) (by kernel_rfl) (by kernel_rfl) (fun c a d v w h => by cases d <;> exact h) (fun w m => m.pick [1, 2, 3, 5, 6] rfl)) rfl rfl ?_
  refine d_one (i := 6) rfl (by kernel_rfl) (o_stc (cs' := [(.int .i64 r14.xFrom), (.int .i64 r14.xTo), (.int .i64 r14.xPort), (.int .i64 r14.xProto)]) 4 rfl rfl rfl ty30 rfl rfl rfl rfl ?_)
  refine d_and (fun w m => m.pick [1, 2, 3, 5, 6] rfl) ?_
  refine o_as (d_take (i := 7) rfl (by kernel_rfl) (by kernel_rfl) (by kernel_rfl) (fun c a d v w h => by cases d <;> exact h) (fun w m => m.pick [1, 2, 3, 5, 6] rfl)) rfl rfl ?_
  refine o_as (d_take (i := 8) rfl (by kernel_rfl) (by kernel_rfl) (by kernel_rfl) (fun c a d v w h => by cases d <;> exact h) (fun w m => m.pick [1, 2, 3, 5, 6] rfl)) rfl rfl ?_
  refine d_done (by kernel_rfl) ?_
  refine l_then ?_
  refine c_ret ?_
  exact l_end4 Tryd.results22 (r13, r14, r15, r21) v16 (rv_t rfl) (rv_c 4 rfl rfl ty30 rfl) (rv_t rfl) (rv_t rfl) rfl (fun w m => NewCh.of m [2] rfl (fr_cons (free_own flelGFlow) fr_nil))

set_option maxRecDepth 100000 in
set_option maxHeartbeats 8000000 in
theorem w_laws_sameFlows {w0 : World} {F : Nat → Prop} {v1 v3 : Value} {a_0 : (List GFlow)} {b_1 : (List GFlow)} {κ : Bool → Prop} (hv1 : Sl elGFlow (fun b => b < w0.heap.size ∧ ¬ feet [] b) w0 v1 a_0) (hv3 : Sl elGFlow (fun b => b < w0.heap.size ∧ ¬ feet [] b) w0 v3 b_1) (h : L_laws_sameFlows a_0 b_1 κ) :
    Calls Tryd.prog 23 #[v1, v3] w0 (Ret [] F w0 κ (fun (r : Bool) (u : Unit) => (.bool r)) (fun (r : Bool) (u : Unit) => [])) := by
  refine enter (args := [v1, v3]) [] Tryd.func23 rfl Tryd.ntmps23 rfl [roCh elGFlow v1 a_0, roCh elGFlow v3 b_1] (hf_cons (hf_cons hf_nil)) (hh_cons hv1 (hh_cons hv3 hh_nil)) (Given.nil w0).lt (Given.nil w0).disj (Given.nil w0).hold h ?_
  clear h hv1 hv3
  refine c_seq ?_
  refine c_region ?_
  refine o_as st rfl rfl ?_
  refine c_nil ?_
  refine l_then ?_
  refine c_seq ?_
  refine c_seq ?_
  refine c_region ?_
  refine o_mv st rfl rfl ?_
  refine o_len st el26 0 rfl reads_ro rfl rfl ?_
  refine o_mv st rfl rfl ?_
  refine o_len st el26 1 rfl reads_ro rfl rfl ?_
  refine o_neq st und3 rfl rfl rfl ?_
  refine c_nil ?_
  refine l_then ?_
  refine c_cond rfl ?_ ?_
  · refine c_seq ?_
    refine c_region ?_
    refine o_as st rfl rfl ?_
    refine c_nil ?_
    refine l_then ?_
    refine c_ret ?_
    refine l_ret ?_
    exact l_end1 Tryd.results23 false () (rv_t rfl) (fun _ _ => NewCh.nil _ _ _ _)
  · refine c_skip ?_
    refine l_then ?_
    refine c_seq ?_
    refine c_seq ?_
    refine c_region ?_
    refine o_as st rfl rfl ?_
    refine c_nil ?_
    refine l_then ?_
    refine c_block ?_
    refine c_loop (σ := Int) (fun (t5 : Int) (a : Act) (w : World) => Has 26 [(0, v1), (1, v3), (5, (.int .i64 t5))] a ∧ Mem (fun _ => True) (feet []) w0 [roCh elGFlow v1 a_0, roCh elGFlow v3 b_1] w) (fun a w hE hm => ⟨hE.sub ⟨rfl, rfl, rfl, trivial⟩, (hm.pick [0, 1] rfl)⟩) ?_
    rintro nx6 t5 a w ⟨hE, hm⟩ h
    refine nx_of hE hm h ?_
    clear hE hm h
    refine c_seq ?_
    refine c_seq ?_
    refine c_region ?_
    refine o_mv st rfl rfl ?_
    refine o_mv st rfl rfl ?_
    refine o_len st el26 0 rfl reads_ro rfl rfl ?_
    refine o_lss st rfl rfl rfl ?_
    refine c_nil ?_
    refine l_then ?_
    refine c_cond rfl ?_ ?_
    · refine c_skip ?_
      refine l_then ?_
      refine c_seq ?_
      refine c_block ?_
      refine c_seq ?_
      refine c_draw mixed 9 rfl [roCh elGFlow v1 a_0, roCh elGFlow v3 b_1] ?_
      refine o_mv (d_take (i := 0) rfl (by kernel_rfl) (by kernel_rfl) (by kernel_rfl) (fun c a d v w h => by cases d <;> exact h) (fun w m => m.pick [0, 1] rfl)) rfl rfl ?_
      refine o_mv (d_take (i := 1) rfl (by kernel_rfl) (by kernel_rfl) (by kernel_rfl) (fun c a d v w h => by cases d <;> exact h) (fun w m => m.pick [0, 1] rfl)) rfl rfl ?_
      refine o_idx (d_take (i := 2) rfl (by kernel_rfl) (by kernel_rfl) (by kernel_rfl) (fun c a d v w h => by cases d <;> exact h) (fun w m => m.pick [0, 1] rfl)) 0 rfl reads_ro rfl rfl rfl el26 ?_; intro e7 h8
      refine o_lds (d_take (i := 3) rfl (by kernel_rfl) (by kernel_rfl) (by kernel_rfl) (fun c a d v w h => by cases d <;> exact h) (fun w m => m.pick [0, 1] rfl)) (enc := encGFlow) (u := (.agg #[(.int .i64 e7.xWho.xFrom), (.int .i64 e7.xWho.xTo), (.int .i64 e7.xWho.xPort), (.int .i64 e7.xWho.xProto), (.int .i64 e7.xUntil)])) 0 rfl reads_ro flelGFlow rfl h8 rfl rfl ty83 rfl ?_
      refine o_mv (d_take (i := 4) rfl (by kernel_rfl) (by kernel_rfl) (by kernel_rfl) (fun c a d v w h => by cases d <;> exact h) (fun w m => m.pick [0, 1] rfl)) rfl rfl ?_
      refine o_mv (d_take (i := 5) rfl (by kernel_rfl) (by kernel_rfl) (by kernel_rfl) (fun c a d v w h => by cases d <;> exact h) (fun w m => m.pick [0, 1] rfl)) rfl rfl ?_
      refine o_idx (d_take (i := 6) rfl (by kernel_rfl) (by kernel_rfl) (by kernel_rfl) (fun c a d v w h => by cases d <;> exact h) (fun w m => m.pick [0, 1] rfl)) 1 rfl reads_ro rfl rfl rfl el26 ?_; intro e9 h10
      refine o_lds (d_take (i := 7) rfl (by kernel_rfl) (by kernel_rfl) (by kernel_rfl) (fun c a d v w h => by cases d <;> exact h) (fun w m => m.pick [0, 1] rfl)) (enc := encGFlow) (u := (.agg #[(.int .i64 e9.xWho.xFrom), (.int .i64 e9.xWho.xTo), (.int .i64 e9.xWho.xPort), (.int .i64 e9.xWho.xProto), (.int .i64 e9.xUntil)])) 1 rfl reads_ro flelGFlow rfl h10 rfl rfl ty83 rfl ?_
      refine o_bin (d_take (i := 8) rfl (by kernel_rfl) (by kernel_rfl) (by kernel_rfl) (fun c a d v w h => by cases d <;> exact h) (fun w m => m.pick [0, 1] rfl)) (.bool (!(decide (e7 = e9)))) rfl rfl rfl (neqs83 _ _ e7.xWho.xFrom e7.xWho.xTo e7.xWho.xPort e7.xWho.xProto e7.xUntil e9.xWho.xFrom e9.xWho.xTo e9.xWho.xPort e9.xWho.xProto e9.xUntil) ?_
      refine d_done (by kernel_rfl) ?_
      refine l_then ?_
      refine c_cond rfl ?_ ?_
      · refine c_seq ?_
        refine c_region ?_
        refine o_as st rfl rfl ?_
        refine c_nil ?_
        refine l_then ?_
        refine c_ret ?_
        refine b_ret ?_
        refine l_ret ?_
        refine l_ret ?_
        refine b_ret ?_
        refine l_ret ?_
        exact l_end1 Tryd.results23 false () (rv_t rfl) (fun _ _ => NewCh.nil _ _ _ _)
      · refine c_skip ?_
        refine b_norm ?_
        refine l_then ?_
        refine c_region ?_
        refine o_mv st rfl rfl ?_
        refine o_add st rfl rfl rfl ?_; intro t11
        refine o_as st rfl rfl ?_
        refine c_nil ?_
        exact l_join t11 (fun a w hE hm => ⟨hE.sub ⟨rfl, rfl, rfl, trivial⟩, (hm.pick [0, 1] rfl)⟩)
    · refine c_exit ?_
      refine l_exit ?_
      refine l_exit ?_
      refine b_exit ?_
      refine l_then ?_
      refine c_seq ?_
      refine c_region ?_
      refine o_as st rfl rfl ?_
      refine c_nil ?_
      refine l_then ?_
      refine c_ret ?_
      exact l_end1 Tryd.results23 true () (rv_t rfl) (fun _ _ => NewCh.nil _ _ _ _)

set_option maxRecDepth 100000 in
set_option maxHeartbeats 8000000 in
theorem w_impl_SpansHave {w0 : World} {F : Nat → Prop} {v1 : Value} {list_0 : (List GSpan)} {n_1 : Int} {κ : Bool → Prop} (hv1 : Sl elGSpan (fun b => b < w0.heap.size ∧ ¬ feet [] b) w0 v1 list_0) (h : L_impl_SpansHave list_0 n_1 κ) :
    Calls Tryd.prog 68 #[v1, (.int .i64 n_1)] w0 (Ret [] F w0 κ (fun (r : Bool) (u : Unit) => (.bool r)) (fun (r : Bool) (u : Unit) => [])) := by
  refine enter (args := [v1, (.int .i64 n_1)]) [] Tryd.func68 rfl Tryd.ntmps68 rfl [roCh elGSpan v1 list_0] (hf_cons hf_nil) (hh_cons hv1 hh_nil) (Given.nil w0).lt (Given.nil w0).disj (Given.nil w0).hold h ?_
  clear h hv1
  refine c_seq ?_
  refine c_region ?_
  refine o_as st rfl rfl ?_
  refine c_nil ?_
  refine l_then ?_
  refine c_seq ?_
  refine c_seq ?_
  refine c_region ?_
  refine o_mv st rfl rfl ?_
  refine o_len st el97 0 rfl reads_ro rfl rfl ?_
  refine o_mv st rfl rfl ?_
  refine c_nil ?_
  refine l_then ?_
  refine c_block ?_
  refine c_loop (σ := Int) (fun (t3 : Int) (a : Act) (w : World) => Has 24 [(1, (.int .i64 n_1)), (7, v1), (8, (.int .i64 (list_0.length : Int))), (9, (.int .i64 t3))] a ∧ Mem (fun _ => True) (feet []) w0 [roCh elGSpan v1 list_0] w) (fun a w hE hm => ⟨hE.sub ⟨rfl, rfl, rfl, rfl, trivial⟩, (hm.pick [0] rfl)⟩) ?_
  rintro nx4 t3 a w ⟨hE, hm⟩ h
  refine nx_of hE hm h ?_
  clear hE hm h
  refine c_seq ?_
  refine c_region ?_
  refine o_lss st rfl rfl rfl ?_
  refine c_nil ?_
  refine l_then ?_
  refine c_seq ?_
  refine c_cond rfl ?_ ?_
  · refine c_skip ?_
    refine l_then ?_
    refine c_seq ?_
    refine c_block ?_
    refine c_seq ?_
    refine c_region ?_
    refine o_idx st 0 rfl reads_ro rfl rfl rfl el97 ?_; intro e5 h6
    refine o_lds st (enc := encGSpan) (u := (.agg #[(.int .i64 e5.xLo), (.int .i64 e5.xHi)])) 0 rfl reads_ro flelGSpan rfl h6 rfl rfl ty96 rfl ?_
    refine stw (o_alloc rfl [(.int .i64 0), (.int .i64 0)] zero96 ?_); intro b7
    refine stw (o_stc (cs' := [(.int .i64 e5.xLo), (.int .i64 e5.xHi)]) 0 rfl rfl rfl ty96 rfl rfl rfl rfl ?_)
    refine c_nil ?_
    refine l_then ?_
    refine c_join (σ := Bool) (fun (t9 : Bool) (a : Act) (w : World) => Has 24 [(1, (.int .i64 n_1)), (7, v1), (8, (.int .i64 (list_0.length : Int))), (9, (.int .i64 t3)), (22, (.bool t9))] a ∧ Mem (fun _ => True) (feet []) w0 [roCh elGSpan v1 list_0] w) ?_ ?_
    · intro k10
      refine c_region ?_
      refine o_fad st rfl rfl fld96_0 rfl ?_
      refine o_ldc st (v := (.int .i64 e5.xLo)) 0 rfl rfl rfl ty3 rfl ?_
      refine o_mv st rfl rfl ?_
      refine o_leq st rfl rfl rfl ?_
      refine o_mv st rfl rfl ?_
      refine st_sp (dj := 17) rfl ?_ ?_
      · refine o_mv (st_g rfl rfl) rfl rfl ?_
        refine o_fad (st_g rfl rfl) rfl rfl fld96_1 rfl ?_
        refine o_ldc (st_g rfl rfl) (v := (.int .i64 e5.xHi)) 0 rfl rfl rfl ty3 rfl ?_
        refine o_leq (st_g rfl rfl) rfl rfl rfl ?_
        refine o_pickT st rfl rfl rfl ?_
        refine c_nil ?_
        exact l_join (decide (n_1 ≤ e5.xHi)) (fun a w hE hm => ⟨hE.sub ⟨rfl, rfl, rfl, rfl, rfl, trivial⟩, (hm.pick [1] rfl)⟩)
      · refine st_s rfl rfl rfl rfl ?_
        refine st_s rfl rfl rfl rfl ?_
        refine st_s rfl rfl rfl rfl ?_
        refine st_s rfl rfl rfl rfl ?_
        refine o_pickF st rfl rfl rfl ?_
        refine c_nil ?_
        exact l_join false (fun a w hE hm => ⟨hE.sub ⟨rfl, rfl, rfl, rfl, rfl, trivial⟩, (hm.pick [1] rfl)⟩)
    · rintro t9 a w ⟨hE, hm⟩ h
      refine nx_of hE hm h ?_
      clear hE hm h
      refine c_cond rfl ?_ ?_
      · refine c_seq ?_
        refine c_region ?_
        refine o_as st rfl rfl ?_
        refine c_nil ?_
        refine l_then ?_
        refine c_ret ?_
        refine b_ret ?_
        refine l_ret ?_
        refine l_ret ?_
        refine b_ret ?_
        refine l_ret ?_
        exact l_end1 Tryd.results68 true () (rv_t rfl) (fun _ _ => NewCh.nil _ _ _ _)
      · refine c_skip ?_
        refine b_norm ?_
        refine l_then ?_
        refine c_region ?_
        refine o_add st rfl rfl rfl ?_; intro t11
        refine o_mv st rfl rfl ?_
        refine c_nil ?_
        exact l_join t11 (fun a w hE hm => ⟨hE.sub ⟨rfl, rfl, rfl, rfl, trivial⟩, (hm.pick [0] rfl)⟩)
  · refine c_exit ?_
    refine l_exit ?_
    refine l_exit ?_
    refine b_exit ?_
    refine l_then ?_
    refine c_seq ?_
    refine c_region ?_
    refine o_as st rfl rfl ?_
    refine c_nil ?_
    refine l_then ?_
    refine c_ret ?_
    exact l_end1 Tryd.results68 false () (rv_t rfl) (fun _ _ => NewCh.nil _ _ _ _)

set_option maxRecDepth 100000 in
set_option maxHeartbeats 8000000 in
theorem w_laws_alive {w0 : World} {F : Nat → Prop} {κ : Bool → Prop} (h : L_laws_alive κ) :
    Calls Tryd.prog 24 #[] w0 (Ret [] F w0 κ (fun (r : Bool) (u : Unit) => (.bool r)) (fun (r : Bool) (u : Unit) => [])) := by
  refine enter (args := []) [] Tryd.func24 rfl Tryd.ntmps24 rfl [] hf_nil hh_nil (Given.nil w0).lt (Given.nil w0).disj (Given.nil w0).hold h ?_
  clear h
  refine c_seq ?_
  refine c_region ?_
  refine o_as st rfl rfl ?_
  refine c_nil ?_
  refine l_then ?_
  refine c_seq ?_
  refine c_region ?_
  refine o_bld st (qs := [(0, (.int .i64 2)), (1, (.int .i64 4))]) (cells := [(.int .i64 2), (.int .i64 4)]) (by intro ρ h; simp only [List.map_toArray, List.map_cons, List.map_nil, h (.const (.int .i64 2)) _ rfl, h (.const (.int .i64 4)) _ rfl]) rfl bld96 rfl ?_
  refine stw (o_bsl (enc := encGSpan) (qs := [(0, (.agg #[(.int .i64 2), (.int .i64 4)]))]) (cells := [(.int .i64 2), (.int .i64 4)]) ([(GSpan.mk 2 4)]) flelGSpan (by intro ρ h; simp only [List.map_toArray, List.map_cons, List.map_nil, h (.tmp 1) _ rfl]) rfl el97 zero96 rfl rfl rfl rfl rfl rfl ?_); intro v1
  refine stw (o_callP (vs := [v1, (.int .i64 3)]) Tryd.call68 rfl rfl (by intro w m h; exact w_impl_SpansHave (list_0 := ([(GSpan.mk 2 4)])) (n_1 := 3) (m.rd0 0 rfl reads_own) h) ?_); rintro r3 _
  refine o_as st rfl rfl ?_
  refine c_nil ?_
  refine l_then ?_
  refine c_ret ?_
  exact l_end1 Tryd.results24 r3 () (rv_t rfl) (fun _ _ => NewCh.nil _ _ _ _)

set_option maxRecDepth 100000 in
set_option maxHeartbeats 8000000 in
theorem w_impl_ReversePacket {w0 : World} {F : Nat → Prop} {p_0 : GPacket} {κ : GPacket → Prop} (hgl0 : Sl elGFieldShape (fun b => b < w0.heap.size ∧ ¬ feet [] b) w0 (.slice (some ⟨0, 0, none⟩) 4 4) gl_impl_fieldShapes) (h : L_impl_ReversePacket p_0 κ) :
    Calls Tryd.prog 25 #[(.agg #[(.int .i64 p_0.xFrom), (.int .i64 p_0.xTo), (.int .i64 p_0.xPort), (.int .i64 p_0.xProto)])] w0 (Ret [] F w0 κ (fun (r : GPacket) (u : Unit) => (.agg #[(.int .i64 r.xFrom), (.int .i64 r.xTo), (.int .i64 r.xPort), (.int .i64 r.xProto)])) (fun (r : GPacket) (u : Unit) => [])) := by
  refine enter (args := [(.agg #[(.int .i64 p_0.xFrom), (.int .i64 p_0.xTo), (.int .i64 p_0.xPort), (.int .i64 p_0.xProto)])]) [] Tryd.func25 rfl Tryd.ntmps25 rfl [roCh elGFieldShape (.slice (some ⟨0, 0, none⟩) 4 4) gl_impl_fieldShapes] (hf_cons hf_nil) (hh_cons hgl0 hh_nil) (Given.nil w0).lt (Given.nil w0).disj (Given.nil w0).hold h ?_
  clear h hgl0
  refine c_seq ?_
  refine c_region ?_
  refine stw (o_box rfl rfl [(.int .i64 p_0.xFrom), (.int .i64 p_0.xTo), (.int .i64 p_0.xPort), (.int .i64 p_0.xProto)] rfl ?_); intro b1
  refine stw (o_alloc rfl [(.int .i64 0), (.int .i64 0), (.int .i64 0), (.int .i64 0)] zero30 ?_); intro b3
  refine c_nil ?_
  refine l_then ?_
  refine c_seq ?_
  refine c_seq ?_
  refine c_region ?_
  refine o_ldc st (v := (.agg #[(.int .i64 p_0.xFrom), (.int .i64 p_0.xTo), (.int .i64 p_0.xPort), (.int .i64 p_0.xProto)])) 1 rfl rfl rfl ty30 rfl ?_
  refine stw (o_callP (vs := [(.agg #[(.int .i64 p_0.xFrom), (.int .i64 p_0.xTo), (.int .i64 p_0.xPort), (.int .i64 p_0.xProto)])]) Tryd.call60 rfl rfl (by intro w m h; exact w_impl_PacketValid (p_0 := p_0) (m.rd0 2 rfl reads_ro) h) ?_); rintro r5 _
  refine o_not st rfl rfl ?_
  refine c_nil ?_
  refine l_then ?_
  refine c_cond rfl ?_ ?_
  · refine c_seq ?_
    refine c_region ?_
    refine o_bld st (qs := []) (cells := [(.int .i64 0), (.int .i64 0), (.int .i64 0), (.int .i64 0)]) (by intro ρ h; simp only [List.map_toArray, List.map_cons, List.map_nil]) rfl bld30 rfl ?_
    refine stw (o_stc (cs' := [(.int .i64 0), (.int .i64 0), (.int .i64 0), (.int .i64 0)]) 0 rfl rfl rfl ty30 rfl rfl rfl rfl ?_)
    refine c_nil ?_
    refine l_then ?_
    refine c_ret ?_
    refine l_ret ?_
    exact l_end1 Tryd.results25 (GPacket.mk 0 0 0 0) () (rv_c 0 rfl rfl ty30 rfl) (fun _ _ => NewCh.nil _ _ _ _)
  · refine c_skip ?_
    refine l_then ?_
    refine c_seq ?_
    refine c_region ?_
    refine o_ldc st (v := (.agg #[(.int .i64 p_0.xFrom), (.int .i64 p_0.xTo), (.int .i64 p_0.xPort), (.int .i64 p_0.xProto)])) 1 rfl rfl rfl ty30 rfl ?_
    refine stw (o_callP (vs := [(.agg #[(.int .i64 p_0.xFrom), (.int .i64 p_0.xTo), (.int .i64 p_0.xPort), (.int .i64 p_0.xProto)])]) Tryd.call69 rfl rfl (by intro w m h; exact w_impl_Packet_reverse (p_0 := p_0) h) ?_); rintro r6 _
    refine stw (o_stc (cs' := [(.int .i64 r6.xFrom), (.int .i64 r6.xTo), (.int .i64 r6.xPort), (.int .i64 r6.xProto)]) 0 rfl rfl rfl ty30 rfl rfl rfl rfl ?_)
    refine c_nil ?_
    refine l_then ?_
    refine c_ret ?_
    exact l_end1 Tryd.results25 r6 () (rv_c 0 rfl rfl ty30 rfl) (fun _ _ => NewCh.nil _ _ _ _)

set_option maxRecDepth 100000 in
set_option maxHeartbeats 8000000 in
theorem w_impl_ExpireFlows {w0 : World} {F : Nat → Prop} {v1 : Value} {list_0 : (List GFlow)} {now_1 : Int} {κ : (List GFlow) → Prop} (hv1 : Sl elGFlow (fun b => b < w0.heap.size ∧ ¬ feet [] b) w0 v1 list_0) (hgl0 : Sl elGFieldShape (fun b => b < w0.heap.size ∧ ¬ feet [] b) w0 (.slice (some ⟨0, 0, none⟩) 4 4) gl_impl_fieldShapes) (h : L_impl_ExpireFlows list_0 now_1 κ) :
    Calls Tryd.prog 26 #[v1, (.int .i64 now_1)] w0 (Ret [] F w0 κ (fun (r : (List GFlow)) (u : Value) => u) (fun (r : (List GFlow)) (u : Value) => [ownCh elGFlow 83 u (r)])) := by
  refine enter (args := [v1, (.int .i64 now_1)]) [] Tryd.func26 rfl Tryd.ntmps26 rfl [roCh elGFlow v1 list_0, roCh elGFieldShape (.slice (some ⟨0, 0, none⟩) 4 4) gl_impl_fieldShapes] (hf_cons (hf_cons hf_nil)) (hh_cons hv1 (hh_cons hgl0 hh_nil)) (Given.nil w0).lt (Given.nil w0).disj (Given.nil w0).hold h ?_
  clear h hv1 hgl0
  refine c_seq ?_
  refine c_region ?_
  refine stw (o_asn elGFlow 83 rfl rfl ?_)
  refine c_nil ?_
  refine l_then ?_
  refine c_seq ?_
  refine c_join (σ := Bool) (fun (t4 : Bool) (a : Act) (w : World) => Has 16 [(0, v1), (1, (.int .i64 now_1)), (12, (.bool t4))] a ∧ Mem (fun _ => True) (feet []) w0 [roCh elGFlow v1 list_0, roCh elGFieldShape (.slice (some ⟨0, 0, none⟩) 4 4) gl_impl_fieldShapes] w) ?_ ?_
  · intro k5
    refine c_region ?_
    refine o_mv st rfl rfl ?_
    refine stw (o_callP (vs := [v1]) Tryd.call27 rfl rfl (by intro w m h; exact w_impl_FlowsValid (list_0 := list_0) (m.rd0 1 rfl reads_ro) (m.rd0 2 rfl reads_ro) h) ?_); rintro r6 _
    refine o_not st rfl rfl ?_
    refine o_mv st rfl rfl ?_
    refine st_sp (dj := 8) rfl ?_ ?_
    · refine st_s rfl rfl rfl rfl ?_
      refine st_s rfl rfl rfl rfl ?_
      refine st_s rfl rfl rfl rfl ?_
      refine o_pickT st rfl rfl rfl ?_
      refine c_nil ?_
      exact l_join true (fun a w hE hm => ⟨hE.sub ⟨rfl, rfl, rfl, trivial⟩, (hm.pick [1, 2] rfl)⟩)
    · refine o_mv (st_g rfl rfl) rfl rfl ?_
      refine st_gw rfl rfl (o_callP (vs := [(.int .i64 now_1)]) Tryd.call61 rfl rfl (by intro w m h; exact w_impl_timeValid (now_0 := now_1) h) ?_); rintro r7 _
      refine o_not (st_g rfl rfl) rfl rfl ?_
      refine o_pickF st rfl rfl rfl ?_
      refine c_nil ?_
      exact l_join (!r7) (fun a w hE hm => ⟨hE.sub ⟨rfl, rfl, rfl, trivial⟩, (hm.pick [1, 2] rfl)⟩)
  · rintro t4 a w ⟨hE, hm⟩ h
    refine nx_of hE hm h ?_
    clear hE hm h
    refine c_cond rfl ?_ ?_
    · refine c_seq ?_
      refine c_region ?_
      refine stw (o_asn elGFlow 83 rfl rfl ?_)
      refine c_nil ?_
      refine l_then ?_
      refine c_ret ?_
      refine l_ret ?_
      exact l_end1 Tryd.results26 ([]) (.slice none 0 0) (rv_t rfl) (fun w m => NewCh.of m [0] rfl (fr_cons (free_own flelGFlow) fr_nil))
    · refine c_skip ?_
      refine l_then ?_
      refine c_seq ?_
      refine c_region ?_
      refine o_mv st rfl rfl ?_
      refine o_mv st rfl rfl ?_
      refine stw (o_callP (vs := [v1, (.int .i64 now_1)]) Tryd.call70 rfl rfl (by intro w m h; exact w_impl_notExpired (list_0 := list_0) (now_1 := now_1) (m.rd0 0 rfl reads_ro) h) ?_); rintro r9 v10
      refine o_as st rfl rfl ?_
      refine c_nil ?_
      refine l_then ?_
      refine c_ret ?_
      exact l_end1 Tryd.results26 r9 v10 (rv_t rfl) (fun w m => NewCh.of m [0] rfl (fr_cons (free_own flelGFlow) fr_nil))

set_option maxRecDepth 100000 in
set_option maxHeartbeats 8000000 in
theorem w_impl_KnownFlow {w0 : World} {F : Nat → Prop} {v1 : Value} {list_0 : (List GFlow)} {p_1 : GPacket} {now_2 : Int} {κ : Int → Prop} (hv1 : Sl elGFlow (fun b => b < w0.heap.size ∧ ¬ feet [] b) w0 v1 list_0) (hgl0 : Sl elGFieldShape (fun b => b < w0.heap.size ∧ ¬ feet [] b) w0 (.slice (some ⟨0, 0, none⟩) 4 4) gl_impl_fieldShapes) (h : L_impl_KnownFlow list_0 p_1 now_2 κ) :
    Calls Tryd.prog 28 #[v1, (.agg #[(.int .i64 p_1.xFrom), (.int .i64 p_1.xTo), (.int .i64 p_1.xPort), (.int .i64 p_1.xProto)]), (.int .i64 now_2)] w0 (Ret [] F w0 κ (fun (r : Int) (u : Unit) => (.int .i64 r)) (fun (r : Int) (u : Unit) => [])) := by
  refine enter (args := [v1, (.agg #[(.int .i64 p_1.xFrom), (.int .i64 p_1.xTo), (.int .i64 p_1.xPort), (.int .i64 p_1.xProto)]), (.int .i64 now_2)]) [] Tryd.func28 rfl Tryd.ntmps28 rfl [roCh elGFlow v1 list_0, roCh elGFieldShape (.slice (some ⟨0, 0, none⟩) 4 4) gl_impl_fieldShapes] (hf_cons (hf_cons hf_nil)) (hh_cons hv1 (hh_cons hgl0 hh_nil)) (Given.nil w0).lt (Given.nil w0).disj (Given.nil w0).hold h ?_
  clear h hv1 hgl0
  refine c_seq ?_
  refine c_region ?_
  refine stw (o_box rfl rfl [(.int .i64 p_1.xFrom), (.int .i64 p_1.xTo), (.int .i64 p_1.xPort), (.int .i64 p_1.xProto)] rfl ?_); intro b3
  refine o_as st rfl rfl ?_
  refine c_nil ?_
  refine l_then ?_
  refine c_seq ?_
  refine c_region ?_
  refine o_mv st rfl rfl ?_
  refine stw (o_callP (vs := [v1]) Tryd.call71 rfl rfl (by intro w m h; exact w_impl_indexFlows (list_0 := list_0) (m.rd0 1 rfl reads_ro) (m.rd0 2 rfl reads_ro) h) ?_); rintro ⟨r5, r6⟩ v7
  refine o_mv st rfl rfl ?_
  refine o_ext st (vs := [v7, (.bool r6)]) rfl rfl rfl ?_
  refine o_ext st (vs := [v7, (.bool r6)]) rfl rfl rfl ?_
  refine o_as st rfl rfl ?_
  refine o_as st rfl rfl ?_
  refine c_nil ?_
  refine l_then ?_
  refine c_seq ?_
  refine c_join (σ := Bool) (fun (t9 : Bool) (a : Act) (w : World) => Has 31 [(0, v1), (2, (.int .i64 now_2)), (4, (.pointer (some ⟨b3, 0, none⟩))), (7, v7), (25, (.bool t9))] a ∧ Mem (fun _ => True) (feet []) w0 [mOwn encGPacket v7 r5, cellCh b3 [(.int .i64 p_1.xFrom), (.int .i64 p_1.xTo), (.int .i64 p_1.xPort), (.int .i64 p_1.xProto)] 30, roCh elGFlow v1 list_0, roCh elGFieldShape (.slice (some ⟨0, 0, none⟩) 4 4) gl_impl_fieldShapes] w) ?_ ?_
  · intro k10
    refine c_region ?_
    refine o_mv st rfl rfl ?_
    refine o_not st rfl rfl ?_
    refine o_mv st rfl rfl ?_
    refine st_sp (dj := 16) rfl ?_ ?_
    · refine st_s rfl rfl rfl rfl ?_
      refine st_s rfl rfl rfl rfl ?_
      refine st_s rfl rfl rfl rfl ?_
      refine o_pickT st rfl rfl rfl ?_
      refine o_mv st rfl rfl ?_
      refine st_s rfl rfl rfl rfl ?_
      refine st_s rfl rfl rfl rfl ?_
      refine st_s rfl rfl rfl rfl ?_
      refine o_pickT st rfl rfl rfl ?_
      refine c_nil ?_
      exact l_join true (fun a w hE hm => ⟨hE.sub ⟨rfl, rfl, rfl, rfl, rfl, trivial⟩, (hm.pick [0, 1, 2, 3] rfl)⟩)
    · refine o_ldc (st_g rfl rfl) (v := (.agg #[(.int .i64 p_1.xFrom), (.int .i64 p_1.xTo), (.int .i64 p_1.xPort), (.int .i64 p_1.xProto)])) 1 rfl rfl rfl ty30 rfl ?_
      refine st_gw rfl rfl (o_callP (vs := [(.agg #[(.int .i64 p_1.xFrom), (.int .i64 p_1.xTo), (.int .i64 p_1.xPort), (.int .i64 p_1.xProto)])]) Tryd.call60 rfl rfl (by intro w m h; exact w_impl_PacketValid (p_0 := p_1) (m.rd0 3 rfl reads_ro) h) ?_); rintro r11 _
      refine o_not (st_g rfl rfl) rfl rfl ?_
      refine o_pickF st rfl rfl rfl ?_
      refine o_mv st rfl rfl ?_
      refine st_sp (dj := 21) rfl ?_ ?_
      · refine st_s rfl rfl rfl rfl ?_
        refine st_s rfl rfl rfl rfl ?_
        refine st_s rfl rfl rfl rfl ?_
        refine o_pickT st rfl rfl rfl ?_
        refine c_nil ?_
        exact l_join true (fun a w hE hm => ⟨hE.sub ⟨rfl, rfl, rfl, rfl, rfl, trivial⟩, (hm.pick [0, 1, 2, 3] rfl)⟩)
      · refine o_mv (st_g rfl rfl) rfl rfl ?_
        refine st_gw rfl rfl (o_callP (vs := [(.int .i64 now_2)]) Tryd.call61 rfl rfl (by intro w m h; exact w_impl_timeValid (now_0 := now_2) h) ?_); rintro r12 _
        refine o_not (st_g rfl rfl) rfl rfl ?_
        refine o_pickF st rfl rfl rfl ?_
        refine c_nil ?_
        exact l_join (!r12) (fun a w hE hm => ⟨hE.sub ⟨rfl, rfl, rfl, rfl, rfl, trivial⟩, (hm.pick [0, 1, 2, 3] rfl)⟩)
  · rintro t9 a w ⟨hE, hm⟩ h
    refine nx_of hE hm h ?_
    clear hE hm h
    refine c_cond rfl ?_ ?_
    · refine c_seq ?_
      refine c_region ?_
      refine o_as st rfl rfl ?_
      refine c_nil ?_
      refine l_then ?_
      refine c_ret ?_
      refine l_ret ?_
      exact l_end1 Tryd.results28 (-1) () (rv_t rfl) (fun _ _ => NewCh.nil _ _ _ _)
    · refine c_skip ?_
      refine l_then ?_
      refine c_seq ?_
      refine c_region ?_
      refine o_mv st rfl rfl ?_
      refine o_mv st rfl rfl ?_
      refine o_ldc st (v := (.agg #[(.int .i64 p_1.xFrom), (.int .i64 p_1.xTo), (.int .i64 p_1.xPort), (.int .i64 p_1.xProto)])) 1 rfl rfl rfl ty30 rfl ?_
      refine o_mv st rfl rfl ?_
      refine stw (o_callP (vs := [v7, v1, (.agg #[(.int .i64 p_1.xFrom), (.int .i64 p_1.xTo), (.int .i64 p_1.xPort), (.int .i64 p_1.xProto)]), (.int .i64 now_2)]) Tryd.call72 rfl rfl (by intro w m h; exact w_impl_flowIndex_known (x_0 := r5) (list_1 := list_0) (p_2 := p_1) (now_3 := now_2) (m.mrd0 0 rfl mreads_own) (m.rd0 2 rfl reads_ro) h) ?_); rintro r13 _
      refine o_as st rfl rfl ?_
      refine c_nil ?_
      refine l_then ?_
      refine c_ret ?_
      exact l_end1 Tryd.results28 r13 () (rv_t rfl) (fun _ _ => NewCh.nil _ _ _ _)

set_option maxRecDepth 100000 in
set_option maxHeartbeats 8000000 in
theorem w_laws_FnTrackFlow {w0 : World} {F : Nat → Prop} {v1 : Value} {code_0 : (List UInt8)} {κ : Bool → Prop} (hv1 : Sl elU8 (fun b => b < w0.heap.size ∧ ¬ feet [] b) w0 v1 code_0) (hgl0 : Sl elGFieldShape (fun b => b < w0.heap.size ∧ ¬ feet [] b) w0 (.slice (some ⟨0, 0, none⟩) 4 4) gl_impl_fieldShapes) (h : L_laws_FnTrackFlow code_0 κ) :
    Calls Tryd.prog 5 #[v1] w0 (Ret [] F w0 κ (fun (r : Bool) (u : Unit) => (.bool r)) (fun (r : Bool) (u : Unit) => [])) := by
  refine enter (args := [v1]) [] Tryd.func5 rfl Tryd.ntmps5 rfl [roCh elU8 v1 code_0, roCh elGFieldShape (.slice (some ⟨0, 0, none⟩) 4 4) gl_impl_fieldShapes] (hf_cons (hf_cons hf_nil)) (hh_cons hv1 (hh_cons hgl0 hh_nil)) (Given.nil w0).lt (Given.nil w0).disj (Given.nil w0).hold h ?_
  clear h hv1 hgl0
  refine c_seq ?_
  refine c_region ?_
  refine o_as st rfl rfl ?_
  refine c_nil ?_
  refine l_then ?_
  refine c_seq ?_
  refine c_seq ?_
  refine c_region ?_
  refine o_mv st rfl rfl ?_
  refine o_len st el35 0 rfl reads_ro rfl rfl ?_
  refine o_gtr st rfl rfl rfl ?_
  refine c_nil ?_
  refine l_then ?_
  refine c_cond rfl ?_ ?_
  · refine c_seq ?_
    refine c_region ?_
    refine o_as st rfl rfl ?_
    refine c_nil ?_
    refine l_then ?_
    refine c_ret ?_
    refine l_ret ?_
    exact l_end1 Tryd.results5 true () (rv_t rfl) (fun _ _ => NewCh.nil _ _ _ _)
  · refine c_skip ?_
    refine l_then ?_
    refine c_seq ?_
    refine c_region ?_
    refine o_mv st rfl rfl ?_
    refine stw (o_callP (vs := [v1]) Tryd.call22 rfl rfl (by intro w m h; exact w_spec_DrawTrackFlow (code_0 := code_0) (m.rd0 0 rfl reads_ro) h) ?_); rintro ⟨r3, r4, r5, r6⟩ v7
    refine o_mv st rfl rfl ?_
    refine o_ext st (vs := [v7, (.agg #[(.int .i64 r4.xFrom), (.int .i64 r4.xTo), (.int .i64 r4.xPort), (.int .i64 r4.xProto)]), (.int .i64 r5), (.int .i64 r6)]) rfl rfl rfl ?_
    refine o_ext st (vs := [v7, (.agg #[(.int .i64 r4.xFrom), (.int .i64 r4.xTo), (.int .i64 r4.xPort), (.int .i64 r4.xProto)]), (.int .i64 r5), (.int .i64 r6)]) rfl rfl rfl ?_
    refine o_ext st (vs := [v7, (.agg #[(.int .i64 r4.xFrom), (.int .i64 r4.xTo), (.int .i64 r4.xPort), (.int .i64 r4.xProto)]), (.int .i64 r5), (.int .i64 r6)]) rfl rfl rfl ?_
    refine o_ext st (vs := [v7, (.agg #[(.int .i64 r4.xFrom), (.int .i64 r4.xTo), (.int .i64 r4.xPort), (.int .i64 r4.xProto)]), (.int .i64 r5), (.int .i64 r6)]) rfl rfl rfl ?_
    refine stw (o_alloc rfl [(.int .i64 0), (.int .i64 0), (.int .i64 0), (.int .i64 0)] zero30 ?_); intro b9
    refine o_as st rfl rfl ?_
    refine stw (o_stc (cs' := [(.int .i64 r4.xFrom), (.int .i64 r4.xTo), (.int .i64 r4.xPort), (.int .i64 r4.xProto)]) 0 rfl rfl rfl ty30 rfl rfl rfl rfl ?_)
    refine o_as st rfl rfl ?_
    refine o_as st rfl rfl ?_
    refine c_nil ?_
    refine l_then ?_
    refine c_seq ?_
    refine c_region ?_
    refine o_mv st rfl rfl ?_
    refine o_ldc st (v := (.agg #[(.int .i64 r4.xFrom), (.int .i64 r4.xTo), (.int .i64 r4.xPort), (.int .i64 r4.xProto)])) 0 rfl rfl rfl ty30 rfl ?_
    refine o_mv st rfl rfl ?_
    refine o_mv st rfl rfl ?_
    refine stw (o_callP (vs := [v7, (.agg #[(.int .i64 r4.xFrom), (.int .i64 r4.xTo), (.int .i64 r4.xPort), (.int .i64 r4.xProto)]), (.int .i64 r5), (.int .i64 r6)]) Tryd.call18 rfl rfl (by intro w m h; exact w_impl_TrackFlow (list_0 := r3) (p_1 := r4) (now_2 := r5) (life_3 := r6) (m.rd0 1 rfl reads_own) (m.rd0 3 rfl reads_ro) h) ?_); rintro ⟨r11, r12⟩ v13
    refine o_mv st rfl rfl ?_
    refine o_ext st (vs := [v13, (.bool r12)]) rfl rfl rfl ?_
    refine o_ext st (vs := [v13, (.bool r12)]) rfl rfl rfl ?_
    refine o_as st rfl rfl ?_
    refine o_as st rfl rfl ?_
    refine c_nil ?_
    refine l_then ?_
    refine c_seq ?_
    refine c_region ?_
    refine o_mv st rfl rfl ?_
    refine o_ldc st (v := (.agg #[(.int .i64 r4.xFrom), (.int .i64 r4.xTo), (.int .i64 r4.xPort), (.int .i64 r4.xProto)])) 1 rfl rfl rfl ty30 rfl ?_
    refine o_mv st rfl rfl ?_
    refine o_mv st rfl rfl ?_
    refine stw (o_callP (vs := [v7, (.agg #[(.int .i64 r4.xFrom), (.int .i64 r4.xTo), (.int .i64 r4.xPort), (.int .i64 r4.xProto)]), (.int .i64 r5), (.int .i64 r6)]) Tryd.call15 rfl rfl (by intro w m h; exact w_spec_TrackFlow (list_0 := r3) (p_1 := r4) (now_2 := r5) (life_3 := r6) (m.rd0 2 rfl reads_own) h) ?_); rintro ⟨r15, r16⟩ v17
    refine o_mv st rfl rfl ?_
    refine o_ext st (vs := [v17, (.bool r16)]) rfl rfl rfl ?_
    refine o_ext st (vs := [v17, (.bool r16)]) rfl rfl rfl ?_
    refine o_as st rfl rfl ?_
    refine o_as st rfl rfl ?_
    refine c_nil ?_
    refine l_then ?_
    refine c_seq ?_
    refine c_join (σ := Bool) (fun (t19 : Bool) (a : Act) (w : World) => Has 108 [(4, (.pointer (some ⟨b9, 0, none⟩))), (3, v7), (5, (.int .i64 r5)), (6, (.int .i64 r6)), (7, v13), (8, (.bool r12)), (46, (.bool t19))] a ∧ Mem (fun _ => True) (feet []) w0 [ownCh elGFlow 83 v13 r11, cellCh b9 [(.int .i64 r4.xFrom), (.int .i64 r4.xTo), (.int .i64 r4.xPort), (.int .i64 r4.xProto)] 30, ownCh elGFlow 83 v7 r3, roCh elGFieldShape (.slice (some ⟨0, 0, none⟩) 4 4) gl_impl_fieldShapes] w) ?_ ?_
    · intro k20
      refine c_region ?_
      refine o_mv st rfl rfl ?_
      refine o_mv st rfl rfl ?_
      refine stw (o_callP (vs := [v13, v17]) Tryd.call23 rfl rfl (by intro w m h; exact w_laws_sameFlows (a_0 := r11) (b_1 := r15) (m.rd0 1 rfl reads_own) (m.rd0 0 rfl reads_own) h) ?_); rintro r21 _
      refine o_not st rfl rfl ?_
      refine o_mv st rfl rfl ?_
      refine st_sp (dj := 42) rfl ?_ ?_
      · refine st_s rfl rfl rfl rfl ?_
        refine st_s rfl rfl rfl rfl ?_
        refine st_s rfl rfl rfl rfl ?_
        refine o_pickT st rfl rfl rfl ?_
        refine c_nil ?_
        exact l_join true (fun a w hE hm => ⟨hE.sub ⟨rfl, rfl, rfl, rfl, rfl, rfl, rfl, trivial⟩, (hm.pick [1, 2, 3, 5] rfl)⟩)
      · refine o_mv (st_g rfl rfl) rfl rfl ?_
        refine o_mv (st_g rfl rfl) rfl rfl ?_
        refine o_neqB (st_g rfl rfl) und4 rfl rfl rfl ?_
        refine o_pickF st rfl rfl rfl ?_
        refine c_nil ?_
        exact l_join (!(decide (r12 = r16))) (fun a w hE hm => ⟨hE.sub ⟨rfl, rfl, rfl, rfl, rfl, rfl, rfl, trivial⟩, (hm.pick [1, 2, 3, 5] rfl)⟩)
    · rintro t19 a w ⟨hE, hm⟩ h
      refine nx_of hE hm h ?_
      clear hE hm h
      refine c_cond rfl ?_ ?_
      · refine c_seq ?_
        refine c_region ?_
        refine o_as st rfl rfl ?_
        refine c_nil ?_
        refine l_then ?_
        refine c_ret ?_
        refine l_ret ?_
        exact l_end1 Tryd.results5 false () (rv_t rfl) (fun _ _ => NewCh.nil _ _ _ _)
      · refine c_skip ?_
        refine l_then ?_
        refine c_seq ?_
        refine c_seq ?_
        refine c_region ?_
        refine o_mv st rfl rfl ?_
        refine o_not st rfl rfl ?_
        refine c_nil ?_
        refine l_then ?_
        refine c_cond rfl ?_ ?_
        · refine c_join (σ := Bool) (fun (t22 : Bool) (a : Act) (w : World) => Has 108 [(2, (.bool t22))] a ∧ Mem (fun _ => True) (feet []) w0 [roCh elGFieldShape (.slice (some ⟨0, 0, none⟩) 4 4) gl_impl_fieldShapes] w) ?_ ?_
          · intro k23
            refine c_region ?_
            refine o_mv st rfl rfl ?_
            refine o_len st el26 0 rfl reads_own rfl rfl ?_
            refine o_eql st und3 rfl rfl rfl ?_
            refine o_mv st rfl rfl ?_
            refine st_sp (dj := 52) rfl ?_ ?_
            · refine st_s rfl rfl rfl rfl ?_
              refine st_s rfl rfl rfl rfl ?_
              refine st_s rfl rfl rfl rfl ?_
              refine st_s rfl rfl rfl rfl ?_
              refine st_s rfl rfl rfl rfl ?_
              refine st_s rfl rfl rfl rfl ?_
              refine st_s rfl rfl rfl rfl ?_
              refine st_s rfl rfl rfl rfl ?_
              refine st_s rfl rfl rfl rfl ?_
              refine st_s rfl rfl rfl rfl ?_
              refine o_pickT st rfl rfl rfl ?_
              refine o_mv st rfl rfl ?_
              refine st_gw rfl rfl (o_callP (vs := []) Tryd.call24 rfl rfl (by intro w m h; exact w_laws_alive h) ?_); rintro r24 _
              refine o_pickT st rfl rfl rfl ?_
              refine o_as st rfl rfl ?_
              refine c_nil ?_
              exact l_join r24 (fun a w hE hm => ⟨hE.sub ⟨rfl, trivial⟩, (hm.pick [3] rfl)⟩)
            · refine o_mv (st_g rfl rfl) rfl rfl ?_
              refine o_mv (st_g rfl rfl) rfl rfl ?_
              refine o_mv (st_g rfl rfl) rfl rfl ?_
              refine st_gw rfl rfl (o_callP (vs := [v7, (.int .i64 r5)]) Tryd.call26 rfl rfl (by intro w m h; exact w_impl_ExpireFlows (list_0 := r3) (now_1 := r5) (m.rd0 2 rfl reads_own) (m.rd0 3 rfl reads_ro) h) ?_); rintro r25 v26
              refine st_gw rfl rfl (o_callP (vs := [v13, v26]) Tryd.call23 rfl rfl (by intro w m h; exact w_laws_sameFlows (a_0 := r11) (b_1 := r25) (m.rd0 1 rfl reads_own) (m.rd0 0 rfl reads_own) h) ?_); rintro r28 _
              refine o_mv (st_g rfl rfl) rfl rfl ?_
              refine st_sp (dj := 58) rfl ?_ ?_
              · refine o_mv (st_g rfl rfl) rfl rfl ?_
                refine o_len (st_g rfl rfl) el26 1 rfl reads_own rfl rfl ?_
                refine o_eql (st_g rfl rfl) und3 rfl rfl rfl ?_
                refine o_pickT (st_g rfl rfl) rfl rfl rfl ?_
                refine o_pickF st rfl rfl rfl ?_
                refine o_mv st rfl rfl ?_
                refine st_sp (dj := 64) rfl ?_ ?_
                · refine st_gw rfl rfl (o_callP (vs := []) Tryd.call24 rfl rfl (by intro w m h; exact w_laws_alive h) ?_); rintro r29 _
                  refine o_pickT st rfl rfl rfl ?_
                  refine o_as st rfl rfl ?_
                  refine c_nil ?_
                  exact l_join r29 (fun a w hE hm => ⟨hE.sub ⟨rfl, trivial⟩, (hm.pick [4] rfl)⟩)
                · refine st_s rfl rfl rfl rfl ?_
                  refine o_pickF st rfl rfl rfl ?_
                  refine o_as st rfl rfl ?_
                  refine c_nil ?_
                  exact l_join false (fun a w hE hm => ⟨hE.sub ⟨rfl, trivial⟩, (hm.pick [4] rfl)⟩)
              · refine st_s rfl rfl rfl rfl ?_
                refine st_s rfl rfl rfl rfl ?_
                refine st_s rfl rfl rfl rfl ?_
                refine o_pickF (st_g rfl rfl) rfl rfl rfl ?_
                refine o_pickF st rfl rfl rfl ?_
                refine o_mv st rfl rfl ?_
                refine st_s rfl rfl rfl rfl ?_
                refine o_pickF st rfl rfl rfl ?_
                refine o_as st rfl rfl ?_
                refine c_nil ?_
                exact l_join false (fun a w hE hm => ⟨hE.sub ⟨rfl, trivial⟩, (hm.pick [4] rfl)⟩)
          · rintro t22 a w ⟨hE, hm⟩ h
            refine nx_of hE hm h ?_
            clear hE hm h
            refine c_ret ?_
            refine l_ret ?_
            exact l_end1 Tryd.results5 t22 () (rv_t rfl) (fun _ _ => NewCh.nil _ _ _ _)
        · refine c_skip ?_
          refine l_then ?_
          refine c_seq ?_
          refine c_region ?_
          refine o_mv st rfl rfl ?_
          refine o_mv st rfl rfl ?_
          refine o_add st rfl rfl rfl ?_; intro t30
          refine o_min st rfl rfl rfl ?_
          refine o_as st rfl rfl ?_
          refine c_nil ?_
          refine l_then ?_
          refine c_join (σ := Bool) (fun (t31 : Bool) (a : Act) (w : World) => Has 108 [(2, (.bool t31))] a ∧ Mem (fun _ => True) (feet []) w0 [roCh elGFieldShape (.slice (some ⟨0, 0, none⟩) 4 4) gl_impl_fieldShapes] w) ?_ ?_
          · intro k32
            refine c_region ?_
            refine o_mv st rfl rfl ?_
            refine stw (o_callP (vs := [v13]) Tryd.call27 rfl rfl (by intro w m h; exact w_impl_FlowsValid (list_0 := r11) (m.rd0 0 rfl reads_own) (m.rd0 3 rfl reads_ro) h) ?_); rintro r33 _
            refine o_mv st rfl rfl ?_
            refine st_sp (dj := 73) rfl ?_ ?_
            · refine o_mv (st_g rfl rfl) rfl rfl ?_
              refine o_ldc (st_g rfl rfl) (v := (.agg #[(.int .i64 r4.xFrom), (.int .i64 r4.xTo), (.int .i64 r4.xPort), (.int .i64 r4.xProto)])) 1 rfl rfl rfl ty30 rfl ?_
              refine o_mv (st_g rfl rfl) rfl rfl ?_
              refine st_gw rfl rfl (o_callP (vs := [v13, (.agg #[(.int .i64 r4.xFrom), (.int .i64 r4.xTo), (.int .i64 r4.xPort), (.int .i64 r4.xProto)]), (.int .i64 (min 1000000 t30))]) Tryd.call28 rfl rfl (by intro w m h; exact w_impl_KnownFlow (list_0 := r11) (p_1 := r4) (now_2 := (min 1000000 t30)) (m.rd0 0 rfl reads_own) (m.rd0 3 rfl reads_ro) h) ?_); rintro r34 _
              refine o_geq (st_g rfl rfl) rfl rfl rfl ?_
              refine o_pickT st rfl rfl rfl ?_
              refine o_mv st rfl rfl ?_
              refine st_sp (dj := 80) rfl ?_ ?_
              · refine o_mv (st_g rfl rfl) rfl rfl ?_
                refine o_ldc (st_g rfl rfl) (v := (.agg #[(.int .i64 r4.xFrom), (.int .i64 r4.xTo), (.int .i64 r4.xPort), (.int .i64 r4.xProto)])) 1 rfl rfl rfl ty30 rfl ?_
                refine st_gw rfl rfl (o_callP (vs := [(.agg #[(.int .i64 r4.xFrom), (.int .i64 r4.xTo), (.int .i64 r4.xPort), (.int .i64 r4.xProto)])]) Tryd.call25 rfl rfl (by intro w m h; exact w_impl_ReversePacket (p_0 := r4) (m.rd0 3 rfl reads_ro) h) ?_); rintro r35 _
                refine o_mv (st_g rfl rfl) rfl rfl ?_
                refine st_gw rfl rfl (o_callP (vs := [v13, (.agg #[(.int .i64 r35.xFrom), (.int .i64 r35.xTo), (.int .i64 r35.xPort), (.int .i64 r35.xProto)]), (.int .i64 r5)]) Tryd.call28 rfl rfl (by intro w m h; exact w_impl_KnownFlow (list_0 := r11) (p_1 := r35) (now_2 := r5) (m.rd0 0 rfl reads_own) (m.rd0 3 rfl reads_ro) h) ?_); rintro r36 _
                refine o_geq (st_g rfl rfl) rfl rfl rfl ?_
                refine o_pickT st rfl rfl rfl ?_
                refine o_mv st rfl rfl ?_
                refine st_sp (dj := 88) rfl ?_ ?_
                · refine o_mv (st_g rfl rfl) rfl rfl ?_
                  refine o_eql (st_g rfl rfl) und3 rfl rfl rfl ?_
                  refine o_mv (st_g rfl rfl) rfl rfl ?_
                  refine st_sp (dj := 91) rfl ?_ ?_
                  · refine st_s rfl rfl rfl rfl ?_
                    refine st_s rfl rfl rfl rfl ?_
                    refine st_s rfl rfl rfl rfl ?_
                    refine st_s rfl rfl rfl rfl ?_
                    refine st_s rfl rfl rfl rfl ?_
                    refine st_s rfl rfl rfl rfl ?_
                    refine o_pickT (st_g rfl rfl) rfl rfl rfl ?_
                    refine o_pickT st rfl rfl rfl ?_
                    refine o_mv st rfl rfl ?_
                    refine o_mv (st_g rfl rfl) rfl rfl ?_
                    refine o_len (st_g rfl rfl) el26 0 rfl reads_own rfl rfl ?_
                    refine o_mv (st_g rfl rfl) rfl rfl ?_
                    refine o_len (st_g rfl rfl) el26 2 rfl reads_own rfl rfl ?_
                    refine o_add (st_g rfl rfl) rfl rfl rfl ?_; intro t37
                    refine o_leq (st_g rfl rfl) rfl rfl rfl ?_
                    refine o_pickT st rfl rfl rfl ?_
                    refine o_as st rfl rfl ?_
                    refine c_nil ?_
                    exact l_join (decide ((r11.length : Int) ≤ t37)) (fun a w hE hm => ⟨hE.sub ⟨rfl, trivial⟩, (hm.pick [3] rfl)⟩)
                  · refine o_mv (st_g rfl rfl) rfl rfl ?_
                    refine o_ldc (st_g rfl rfl) (v := (.agg #[(.int .i64 r4.xFrom), (.int .i64 r4.xTo), (.int .i64 r4.xPort), (.int .i64 r4.xProto)])) 1 rfl rfl rfl ty30 rfl ?_
                    refine o_mv (st_g rfl rfl) rfl rfl ?_
                    refine o_add (st_g rfl rfl) rfl rfl rfl ?_; intro t38
                    refine st_gw rfl rfl (o_callP (vs := [v13, (.agg #[(.int .i64 r4.xFrom), (.int .i64 r4.xTo), (.int .i64 r4.xPort), (.int .i64 r4.xProto)]), (.int .i64 t38)]) Tryd.call28 rfl rfl (by intro w m h; exact w_impl_KnownFlow (list_0 := r11) (p_1 := r4) (now_2 := t38) (m.rd0 0 rfl reads_own) (m.rd0 3 rfl reads_ro) h) ?_); rintro r39 _
                    refine o_eql (st_g rfl rfl) und3 rfl rfl rfl ?_
                    refine o_pickF (st_g rfl rfl) rfl rfl rfl ?_
                    refine o_pickT st rfl rfl rfl ?_
                    refine o_mv st rfl rfl ?_
                    refine st_sp (dj := 100) rfl ?_ ?_
                    · refine o_mv (st_g rfl rfl) rfl rfl ?_
                      refine o_len (st_g rfl rfl) el26 0 rfl reads_own rfl rfl ?_
                      refine o_mv (st_g rfl rfl) rfl rfl ?_
                      refine o_len (st_g rfl rfl) el26 2 rfl reads_own rfl rfl ?_
                      refine o_add (st_g rfl rfl) rfl rfl rfl ?_; intro t40
                      refine o_leq (st_g rfl rfl) rfl rfl rfl ?_
                      refine o_pickT st rfl rfl rfl ?_
                      refine o_as st rfl rfl ?_
                      refine c_nil ?_
                      exact l_join (decide ((r11.length : Int) ≤ t40)) (fun a w hE hm => ⟨hE.sub ⟨rfl, trivial⟩, (hm.pick [3] rfl)⟩)
                    · refine st_s rfl rfl rfl rfl ?_
                      refine st_s rfl rfl rfl rfl ?_
                      refine st_s rfl rfl rfl rfl ?_
                      refine st_s rfl rfl rfl rfl ?_
                      refine st_s rfl rfl rfl rfl ?_
                      refine st_s rfl rfl rfl rfl ?_
                      refine o_pickF st rfl rfl rfl ?_
                      refine o_as st rfl rfl ?_
                      refine c_nil ?_
                      exact l_join false (fun a w hE hm => ⟨hE.sub ⟨rfl, trivial⟩, (hm.pick [3] rfl)⟩)
                · refine st_s rfl rfl rfl rfl ?_
                  refine st_s rfl rfl rfl rfl ?_
                  refine st_s rfl rfl rfl rfl ?_
                  refine st_s rfl rfl rfl rfl ?_
                  refine st_s rfl rfl rfl rfl ?_
                  refine st_s rfl rfl rfl rfl ?_
                  refine st_s rfl rfl rfl rfl ?_
                  refine st_s rfl rfl rfl rfl ?_
                  refine st_s rfl rfl rfl rfl ?_
                  refine st_s rfl rfl rfl rfl ?_
                  refine o_pickF st rfl rfl rfl ?_
                  refine o_mv st rfl rfl ?_
                  refine st_s rfl rfl rfl rfl ?_
                  refine st_s rfl rfl rfl rfl ?_
                  refine st_s rfl rfl rfl rfl ?_
                  refine st_s rfl rfl rfl rfl ?_
                  refine st_s rfl rfl rfl rfl ?_
                  refine st_s rfl rfl rfl rfl ?_
                  refine o_pickF st rfl rfl rfl ?_
                  refine o_as st rfl rfl ?_
                  refine c_nil ?_
                  exact l_join false (fun a w hE hm => ⟨hE.sub ⟨rfl, trivial⟩, (hm.pick [3] rfl)⟩)
              · refine st_s rfl rfl rfl rfl ?_
                refine st_s rfl rfl rfl rfl ?_
                refine st_s rfl rfl rfl rfl ?_
                refine st_s rfl rfl rfl rfl ?_
                refine st_s rfl rfl rfl rfl ?_
                refine st_s rfl rfl rfl rfl ?_
                refine o_pickF st rfl rfl rfl ?_
                refine o_mv st rfl rfl ?_
                refine st_s rfl rfl rfl rfl ?_
                refine st_s rfl rfl rfl rfl ?_
                refine st_s rfl rfl rfl rfl ?_
                refine st_s rfl rfl rfl rfl ?_
                refine st_s rfl rfl rfl rfl ?_
                refine st_s rfl rfl rfl rfl ?_
                refine st_s rfl rfl rfl rfl ?_
                refine st_s rfl rfl rfl rfl ?_
                refine st_s rfl rfl rfl rfl ?_
                refine st_s rfl rfl rfl rfl ?_
                refine o_pickF st rfl rfl rfl ?_
                refine o_mv st rfl rfl ?_
                refine st_s rfl rfl rfl rfl ?_
                refine st_s rfl rfl rfl rfl ?_
                refine st_s rfl rfl rfl rfl ?_
                refine st_s rfl rfl rfl rfl ?_
                refine st_s rfl rfl rfl rfl ?_
                refine st_s rfl rfl rfl rfl ?_
                refine o_pickF st rfl rfl rfl ?_
                refine o_as st rfl rfl ?_
                refine c_nil ?_
                exact l_join false (fun a w hE hm => ⟨hE.sub ⟨rfl, trivial⟩, (hm.pick [3] rfl)⟩)
            · refine st_s rfl rfl rfl rfl ?_
              refine st_s rfl rfl rfl rfl ?_
              refine st_s rfl rfl rfl rfl ?_
              refine st_s rfl rfl rfl rfl ?_
              refine st_s rfl rfl rfl rfl ?_
              refine o_pickF st rfl rfl rfl ?_
              refine o_mv st rfl rfl ?_
              refine st_s rfl rfl rfl rfl ?_
              refine st_s rfl rfl rfl rfl ?_
              refine st_s rfl rfl rfl rfl ?_
              refine st_s rfl rfl rfl rfl ?_
              refine st_s rfl rfl rfl rfl ?_
              refine st_s rfl rfl rfl rfl ?_
              refine o_pickF st rfl rfl rfl ?_
              refine o_mv st rfl rfl ?_
              refine st_s rfl rfl rfl rfl ?_
              refine st_s rfl rfl rfl rfl ?_
              refine st_s rfl rfl rfl rfl ?_
              refine st_s rfl rfl rfl rfl ?_
              refine st_s rfl rfl rfl rfl ?_
              refine st_s rfl rfl rfl rfl ?_
              refine st_s rfl rfl rfl rfl ?_
              refine st_s rfl rfl rfl rfl ?_
              refine st_s rfl rfl rfl rfl ?_
              refine st_s rfl rfl rfl rfl ?_
              refine o_pickF st rfl rfl rfl ?_
              refine o_mv st rfl rfl ?_
              refine st_s rfl rfl rfl rfl ?_
              refine st_s rfl rfl rfl rfl ?_
              refine st_s rfl rfl rfl rfl ?_
              refine st_s rfl rfl rfl rfl ?_
              refine st_s rfl rfl rfl rfl ?_
              refine st_s rfl rfl rfl rfl ?_
              refine o_pickF st rfl rfl rfl ?_
              refine o_as st rfl rfl ?_
              refine c_nil ?_
              exact l_join false (fun a w hE hm => ⟨hE.sub ⟨rfl, trivial⟩, (hm.pick [3] rfl)⟩)
          · rintro t31 a w ⟨hE, hm⟩ h
            refine nx_of hE hm h ?_
            clear hE hm h
            refine c_ret ?_
            exact l_end1 Tryd.results5 t31 () (rv_t rfl) (fun _ _ => NewCh.nil _ _ _ _)

set_option maxRecDepth 100000 in
set_option maxHeartbeats 8000000 in
theorem w_laws_FnFlowsTwice {w0 : World} {F : Nat → Prop} {v1 : Value} {code_0 : (List UInt8)} {κ : Bool → Prop} (hv1 : Sl elU8 (fun b => b < w0.heap.size ∧ ¬ feet [] b) w0 v1 code_0) (hgl0 : Sl elGFieldShape (fun b => b < w0.heap.size ∧ ¬ feet [] b) w0 (.slice (some ⟨0, 0, none⟩) 4 4) gl_impl_fieldShapes) (h : L_laws_FnFlowsTwice code_0 κ) :
    Calls Tryd.prog 4 #[v1] w0 (Ret [] F w0 κ (fun (r : Bool) (u : Unit) => (.bool r)) (fun (r : Bool) (u : Unit) => [])) := by
  refine enter (args := [v1]) [] Tryd.func4 rfl Tryd.ntmps4 rfl [roCh elU8 v1 code_0, roCh elGFieldShape (.slice (some ⟨0, 0, none⟩) 4 4) gl_impl_fieldShapes] (hf_cons (hf_cons hf_nil)) (hh_cons hv1 (hh_cons hgl0 hh_nil)) (Given.nil w0).lt (Given.nil w0).disj (Given.nil w0).hold h ?_
  clear h hv1 hgl0
  refine c_seq ?_
  refine c_region ?_
  refine o_as st rfl rfl ?_
  refine c_nil ?_
  refine l_then ?_
  refine c_seq ?_
  refine c_seq ?_
  refine c_region ?_
  refine o_mv st rfl rfl ?_
  refine o_len st el35 0 rfl reads_ro rfl rfl ?_
  refine o_gtr st rfl rfl rfl ?_
  refine c_nil ?_
  refine l_then ?_
  refine c_cond rfl ?_ ?_
  · refine c_seq ?_
    refine c_region ?_
    refine o_as st rfl rfl ?_
    refine c_nil ?_
    refine l_then ?_
    refine c_ret ?_
    refine l_ret ?_
    exact l_end1 Tryd.results4 true () (rv_t rfl) (fun _ _ => NewCh.nil _ _ _ _)
  · refine c_skip ?_
    refine l_then ?_
    refine c_seq ?_
    refine c_region ?_
    refine o_mv st rfl rfl ?_
    refine stw (o_callP (vs := [v1]) Tryd.call22 rfl rfl (by intro w m h; exact w_spec_DrawTrackFlow (code_0 := code_0) (m.rd0 0 rfl reads_ro) h) ?_); rintro ⟨r3, r4, r5, r6⟩ v7
    refine o_mv st rfl rfl ?_
    refine o_ext st (vs := [v7, (.agg #[(.int .i64 r4.xFrom), (.int .i64 r4.xTo), (.int .i64 r4.xPort), (.int .i64 r4.xProto)]), (.int .i64 r5), (.int .i64 r6)]) rfl rfl rfl ?_
    refine o_ext st (vs := [v7, (.agg #[(.int .i64 r4.xFrom), (.int .i64 r4.xTo), (.int .i64 r4.xPort), (.int .i64 r4.xProto)]), (.int .i64 r5), (.int .i64 r6)]) rfl rfl rfl ?_
    refine o_ext st (vs := [v7, (.agg #[(.int .i64 r4.xFrom), (.int .i64 r4.xTo), (.int .i64 r4.xPort), (.int .i64 r4.xProto)]), (.int .i64 r5), (.int .i64 r6)]) rfl rfl rfl ?_
    refine o_ext st (vs := [v7, (.agg #[(.int .i64 r4.xFrom), (.int .i64 r4.xTo), (.int .i64 r4.xPort), (.int .i64 r4.xProto)]), (.int .i64 r5), (.int .i64 r6)]) rfl rfl rfl ?_
    refine stw (o_alloc rfl [(.int .i64 0), (.int .i64 0), (.int .i64 0), (.int .i64 0)] zero30 ?_); intro b9
    refine o_as st rfl rfl ?_
    refine stw (o_stc (cs' := [(.int .i64 r4.xFrom), (.int .i64 r4.xTo), (.int .i64 r4.xPort), (.int .i64 r4.xProto)]) 0 rfl rfl rfl ty30 rfl rfl rfl rfl ?_)
    refine o_as st rfl rfl ?_
    refine o_as st rfl rfl ?_
    refine c_nil ?_
    refine l_then ?_
    refine c_seq ?_
    refine c_region ?_
    refine o_mv st rfl rfl ?_
    refine o_ldc st (v := (.agg #[(.int .i64 r4.xFrom), (.int .i64 r4.xTo), (.int .i64 r4.xPort), (.int .i64 r4.xProto)])) 0 rfl rfl rfl ty30 rfl ?_
    refine o_mv st rfl rfl ?_
    refine o_mv st rfl rfl ?_
    refine stw (o_callP (vs := [v7, (.agg #[(.int .i64 r4.xFrom), (.int .i64 r4.xTo), (.int .i64 r4.xPort), (.int .i64 r4.xProto)]), (.int .i64 r5), (.int .i64 r6)]) Tryd.call18 rfl rfl (by intro w m h; exact w_impl_TrackFlow (list_0 := r3) (p_1 := r4) (now_2 := r5) (life_3 := r6) (m.rd0 1 rfl reads_own) (m.rd0 3 rfl reads_ro) h) ?_); rintro ⟨r11, r12⟩ v13
    refine o_mv st rfl rfl ?_
    refine o_ext st (vs := [v13, (.bool r12)]) rfl rfl rfl ?_
    refine o_ext st (vs := [v13, (.bool r12)]) rfl rfl rfl ?_
    refine o_as st rfl rfl ?_
    refine o_as st rfl rfl ?_
    refine c_nil ?_
    refine l_then ?_
    refine c_seq ?_
    refine c_region ?_
    refine o_mv st rfl rfl ?_
    refine o_ldc st (v := (.agg #[(.int .i64 r4.xFrom), (.int .i64 r4.xTo), (.int .i64 r4.xPort), (.int .i64 r4.xProto)])) 1 rfl rfl rfl ty30 rfl ?_
    refine o_mv st rfl rfl ?_
    refine o_mv st rfl rfl ?_
    refine stw (o_callP (vs := [v7, (.agg #[(.int .i64 r4.xFrom), (.int .i64 r4.xTo), (.int .i64 r4.xPort), (.int .i64 r4.xProto)]), (.int .i64 r5), (.int .i64 r6)]) Tryd.call15 rfl rfl (by intro w m h; exact w_spec_TrackFlow (list_0 := r3) (p_1 := r4) (now_2 := r5) (life_3 := r6) (m.rd0 2 rfl reads_own) h) ?_); rintro ⟨r15, r16⟩ v17
    refine o_mv st rfl rfl ?_
    refine o_ext st (vs := [v17, (.bool r16)]) rfl rfl rfl ?_
    refine o_ext st (vs := [v17, (.bool r16)]) rfl rfl rfl ?_
    refine o_as st rfl rfl ?_
    refine o_as st rfl rfl ?_
    refine c_nil ?_
    refine l_then ?_
    refine c_seq ?_
    refine c_join (σ := Bool) (fun (t19 : Bool) (a : Act) (w : World) => Has 66 [(4, (.pointer (some ⟨b9, 0, none⟩))), (5, (.int .i64 r5)), (6, (.int .i64 r6)), (7, v13), (8, (.bool r12)), (47, (.bool t19))] a ∧ Mem (fun _ => True) (feet []) w0 [ownCh elGFlow 83 v13 r11, cellCh b9 [(.int .i64 r4.xFrom), (.int .i64 r4.xTo), (.int .i64 r4.xPort), (.int .i64 r4.xProto)] 30, roCh elGFieldShape (.slice (some ⟨0, 0, none⟩) 4 4) gl_impl_fieldShapes] w) ?_ ?_
    · intro k20
      refine c_region ?_
      refine o_mv st rfl rfl ?_
      refine o_mv st rfl rfl ?_
      refine stw (o_callP (vs := [v13, v17]) Tryd.call23 rfl rfl (by intro w m h; exact w_laws_sameFlows (a_0 := r11) (b_1 := r15) (m.rd0 1 rfl reads_own) (m.rd0 0 rfl reads_own) h) ?_); rintro r21 _
      refine o_not st rfl rfl ?_
      refine o_mv st rfl rfl ?_
      refine st_sp (dj := 43) rfl ?_ ?_
      · refine st_s rfl rfl rfl rfl ?_
        refine st_s rfl rfl rfl rfl ?_
        refine st_s rfl rfl rfl rfl ?_
        refine o_pickT st rfl rfl rfl ?_
        refine c_nil ?_
        exact l_join true (fun a w hE hm => ⟨hE.sub ⟨rfl, rfl, rfl, rfl, rfl, rfl, trivial⟩, (hm.pick [1, 2, 5] rfl)⟩)
      · refine o_mv (st_g rfl rfl) rfl rfl ?_
        refine o_mv (st_g rfl rfl) rfl rfl ?_
        refine o_neqB (st_g rfl rfl) und4 rfl rfl rfl ?_
        refine o_pickF st rfl rfl rfl ?_
        refine c_nil ?_
        exact l_join (!(decide (r12 = r16))) (fun a w hE hm => ⟨hE.sub ⟨rfl, rfl, rfl, rfl, rfl, rfl, trivial⟩, (hm.pick [1, 2, 5] rfl)⟩)
    · rintro t19 a w ⟨hE, hm⟩ h
      refine nx_of hE hm h ?_
      clear hE hm h
      refine c_cond rfl ?_ ?_
      · refine c_seq ?_
        refine c_region ?_
        refine o_as st rfl rfl ?_
        refine c_nil ?_
        refine l_then ?_
        refine c_ret ?_
        refine l_ret ?_
        exact l_end1 Tryd.results4 false () (rv_t rfl) (fun _ _ => NewCh.nil _ _ _ _)
      · refine c_skip ?_
        refine l_then ?_
        refine c_seq ?_
        refine c_seq ?_
        refine c_region ?_
        refine o_mv st rfl rfl ?_
        refine o_not st rfl rfl ?_
        refine c_nil ?_
        refine l_then ?_
        refine c_cond rfl ?_ ?_
        · refine c_seq ?_
          refine c_region ?_
          refine stw (o_callP (vs := []) Tryd.call24 rfl rfl (by intro w m h; exact w_laws_alive h) ?_); rintro r22 _
          refine o_as st rfl rfl ?_
          refine c_nil ?_
          refine l_then ?_
          refine c_ret ?_
          refine l_ret ?_
          exact l_end1 Tryd.results4 r22 () (rv_t rfl) (fun _ _ => NewCh.nil _ _ _ _)
        · refine c_skip ?_
          refine l_then ?_
          refine c_seq ?_
          refine c_region ?_
          refine o_mv st rfl rfl ?_
          refine o_ldc st (v := (.agg #[(.int .i64 r4.xFrom), (.int .i64 r4.xTo), (.int .i64 r4.xPort), (.int .i64 r4.xProto)])) 1 rfl rfl rfl ty30 rfl ?_
          refine stw (o_callP (vs := [(.agg #[(.int .i64 r4.xFrom), (.int .i64 r4.xTo), (.int .i64 r4.xPort), (.int .i64 r4.xProto)])]) Tryd.call25 rfl rfl (by intro w m h; exact w_impl_ReversePacket (p_0 := r4) (m.rd0 2 rfl reads_ro) h) ?_); rintro r23 _
          refine o_mv st rfl rfl ?_
          refine o_mv st rfl rfl ?_
          refine stw (o_callP (vs := [v13, (.agg #[(.int .i64 r23.xFrom), (.int .i64 r23.xTo), (.int .i64 r23.xPort), (.int .i64 r23.xProto)]), (.int .i64 r5), (.int .i64 r6)]) Tryd.call18 rfl rfl (by intro w m h; exact w_impl_TrackFlow (list_0 := r11) (p_1 := r23) (now_2 := r5) (life_3 := r6) (m.rd0 0 rfl reads_own) (m.rd0 2 rfl reads_ro) h) ?_); rintro ⟨r24, r25⟩ v26
          refine o_mv st rfl rfl ?_
          refine o_ext st (vs := [v26, (.bool r25)]) rfl rfl rfl ?_
          refine o_ext st (vs := [v26, (.bool r25)]) rfl rfl rfl ?_
          refine o_as st rfl rfl ?_
          refine o_as st rfl rfl ?_
          refine c_nil ?_
          refine l_then ?_
          refine c_join (σ := Bool) (fun (t28 : Bool) (a : Act) (w : World) => Has 66 [(2, (.bool t28))] a ∧ Mem (fun _ => True) (feet []) w0 [roCh elGFieldShape (.slice (some ⟨0, 0, none⟩) 4 4) gl_impl_fieldShapes] w) ?_ ?_
          · intro k29
            refine c_region ?_
            refine o_mv st rfl rfl ?_
            refine o_mv st rfl rfl ?_
            refine st_sp (dj := 61) rfl ?_ ?_
            · refine o_mv (st_g rfl rfl) rfl rfl ?_
              refine o_mv (st_g rfl rfl) rfl rfl ?_
              refine st_gw rfl rfl (o_callP (vs := [v26, v13]) Tryd.call23 rfl rfl (by intro w m h; exact w_laws_sameFlows (a_0 := r24) (b_1 := r11) (m.rd0 0 rfl reads_own) (m.rd0 1 rfl reads_own) h) ?_); rintro r30 _
              refine o_pickT st rfl rfl rfl ?_
              refine o_as st rfl rfl ?_
              refine c_nil ?_
              exact l_join r30 (fun a w hE hm => ⟨hE.sub ⟨rfl, trivial⟩, (hm.pick [3] rfl)⟩)
            · refine st_s rfl rfl rfl rfl ?_
              refine st_s rfl rfl rfl rfl ?_
              refine st_s rfl rfl rfl rfl ?_
              refine o_pickF st rfl rfl rfl ?_
              refine o_as st rfl rfl ?_
              refine c_nil ?_
              exact l_join false (fun a w hE hm => ⟨hE.sub ⟨rfl, trivial⟩, (hm.pick [3] rfl)⟩)
          · rintro t28 a w ⟨hE, hm⟩ h
            refine nx_of hE hm h ?_
            clear hE hm h
            refine c_ret ?_
            exact l_end1 Tryd.results4 t28 () (rv_t rfl) (fun _ _ => NewCh.nil _ _ _ _)


end Go.Proofs.YtfgbbpmbmmihcaaDoor
