/- Texts of this seat, put together. -/
import Derived.Test.YtigdghiknfehhaaDoorMP14
set_option linter.unusedSimpArgs false
set_option linter.unusedVariables false
namespace Go.Proofs.YtigdghiknfehhaaDoor
section
open Go.RowKit
set_option maxRecDepth 100000 in
set_option maxHeartbeats 8000000 in
theorem w_spec_l20Moment {w0 : World} {F : Nat → Prop} {b1 : Nat} {v2 : Value} {r_0_b : (List UInt8)} {r_0_p : Int} {κ : ((List GFlow) × GPacket × Int × Int) → Prop} (hF : ∀ b, F b → b < w0.heap.size ∧ ¬ feet [cellCh b1 [v2, (.int .i64 r_0_p)] 122] b) (hg : Given [cellCh b1 [v2, (.int .i64 r_0_p)] 122] F w0) (hv2 : Sl elU8 F w0 v2 r_0_b) (h : L_spec_l20Moment r_0_b r_0_p κ) :
    Calls Tryd.prog 71 #[(.pointer (some ⟨b1, 0, none⟩))] w0 (Ret [cellCh b1 [v2, (.int .i64 r_0_p)] 122] F w0 κ (fun (r : ((List GFlow) × GPacket × Int × Int)) (u : Value) => .tuple #[u, (.agg #[(.int .i64 r.2.1.xFrom), (.int .i64 r.2.1.xTo), (.int .i64 r.2.1.xPort), (.int .i64 r.2.1.xProto)]), (.int .i64 r.2.2.1)]) (fun (r : ((List GFlow) × GPacket × Int × Int)) (u : Value) => [ownCh elGFlow 110 u r.1, cellCh b1 [v2, (.int .i64 r.2.2.2)] 122])) := by
  refine enterS (args := [(.pointer (some ⟨b1, 0, none⟩))]) [cellCh b1 [v2, (.int .i64 r_0_p)] 122] hF hg Tryd.func71 rfl Tryd.ntmps71 rfl h ?_
  clear h hF hg
  refine c_seq ?_
  refine c_region ?_
  refine stw (o_asn elGFlow 110 rfl rfl ?_)
  refine stw (o_alloc rfl [(.int .i64 0), (.int .i64 0), (.int .i64 0), (.int .i64 0)] zero40 ?_); intro b6
  refine o_as st rfl rfl ?_
  refine c_nil ?_
  refine l_then ?_
  refine c_seq ?_
  refine c_region ?_
  refine o_mv st rfl rfl ?_
  refine pk [2, 0, 1, 3] rfl ?_
  refine stw (o_call (vs := [(.pointer (some ⟨b1, 0, none⟩)), (.int .i64 14)]) (M0 := [cellCh b1 [v2, (.int .i64 r_0_p)] 122]) Tryd.call100 rfl rfl (by intro w m h; exact (w_spec_l20Flows (F := allB [cellCh b1 [v2, (.int .i64 r_0_p)] 122] w) (r_0_b := r_0_b) (r_0_p := r_0_p) (n_1 := 14) allB_ok m.given (m.rdM 2 rfl (reads_snap hv2)) h).mono (fun _ _ k => ret_free (fun r u => (fr_cons (free_own flelGFlow) (fr_cons free_cell fr_nil))) k)) ?_); rintro ⟨r8, r11⟩ v9
  refine o_as st rfl rfl ?_
  refine c_nil ?_
  refine l_then ?_
  refine c_seq ?_
  refine c_region ?_
  refine o_mv st rfl rfl ?_
  refine pk [1, 0, 2, 3, 4] rfl ?_
  refine stw (o_call (vs := [(.pointer (some ⟨b1, 0, none⟩)), (.int .i64 14)]) (M0 := [cellCh b1 [v2, (.int .i64 r11)] 122]) Tryd.call86 rfl rfl (by intro w m h; exact (w_spec_l20Packet (F := allB [cellCh b1 [v2, (.int .i64 r11)] 122] w) (r_0_b := r_0_b) (r_0_p := r11) (n_1 := 14) allB_ok m.given (m.rdM 3 rfl (reads_snap hv2)) h).mono (fun _ _ k => ret_free (fun r u => (fr_cons free_cell fr_nil)) k)) ?_); rintro ⟨r12, r13⟩ _
  refine stw (o_alloc rfl [(.int .i64 0), (.int .i64 0), (.int .i64 0), (.int .i64 0)] zero40 ?_); intro b14
  refine stw (o_stc (cs' := [(.int .i64 r12.xFrom), (.int .i64 r12.xTo), (.int .i64 r12.xPort), (.int .i64 r12.xProto)]) 0 rfl rfl rfl ty40 rfl rfl rfl rfl ?_)
  refine c_nil ?_
  refine l_then ?_
  refine c_join (σ := (Int × Int × Int × Int × Int)) (fun ((t148, t149, t150, t151, t152) : (Int × Int × Int × Int × Int)) (a : Act) (w : World) => Has 44 [(0, (.pointer (some ⟨b1, 0, none⟩))), (3, (.pointer (some ⟨b6, 0, none⟩))), (5, v9), (6, (.pointer (some ⟨b14, 0, none⟩)))] a ∧ Mem (gB F [cellCh b1 [v2, (.int .i64 r_0_p)] 122] w0) (feet [cellCh b1 [v2, (.int .i64 r_0_p)] 122]) w0 [cellCh b1 [v2, (.int .i64 t148)] 122, cellCh b14 [(.int .i64 t149), (.int .i64 t150), (.int .i64 t151), (.int .i64 t152)] 40, ownCh elGFlow 110 v9 r8, cellCh b6 [(.int .i64 0), (.int .i64 0), (.int .i64 0), (.int .i64 0)] 40, snapCh w0 F] w) ?_ ?_
  · intro k153
    refine c_join (σ := (Int × Bool)) (fun ((t78, t79) : (Int × Bool)) (a : Act) (w : World) => Has 44 [(0, (.pointer (some ⟨b1, 0, none⟩))), (3, (.pointer (some ⟨b6, 0, none⟩))), (5, v9), (6, (.pointer (some ⟨b14, 0, none⟩))), (18, (.bool t79))] a ∧ Mem (gB F [cellCh b1 [v2, (.int .i64 r_0_p)] 122] w0) (feet [cellCh b1 [v2, (.int .i64 r_0_p)] 122]) w0 [cellCh b1 [v2, (.int .i64 t78)] 122, cellCh b14 [(.int .i64 r12.xFrom), (.int .i64 r12.xTo), (.int .i64 r12.xPort), (.int .i64 r12.xProto)] 40, ownCh elGFlow 110 v9 r8, cellCh b6 [(.int .i64 0), (.int .i64 0), (.int .i64 0), (.int .i64 0)] 40, snapCh w0 F] w) ?_ ?_
    · intro k80
      refine c_region ?_
      refine o_mv st rfl rfl ?_
      refine o_len st el53 2 rfl reads_own rfl rfl ?_
      refine o_gtr st rfl rfl rfl ?_
      refine o_mv st rfl rfl ?_
      refine st_sp (dj := 14) rfl ?_ ?_
      · refine o_mv (st_g rfl rfl) rfl rfl ?_
        refine pk [1, 0, 2, 3, 4, 5] rfl ?_
        refine st_gw rfl rfl (o_call (vs := [(.pointer (some ⟨b1, 0, none⟩)), (.int .i64 3)]) (M0 := [cellCh b1 [v2, (.int .i64 r13)] 122]) Tryd.call68 rfl rfl (by intro w m h; exact (w_spec_l20Rd_pick (F := allB [cellCh b1 [v2, (.int .i64 r13)] 122] w) (r_0_b := r_0_b) (r_0_p := r13) (n_1 := 3) allB_ok m.given (m.rdM 4 rfl (reads_snap hv2)) h).mono (fun _ _ k => ret_free (fun r u => (fr_cons free_cell fr_nil)) k)) ?_); rintro ⟨r16, r17⟩ _
        refine o_gtr (st_g rfl rfl) rfl rfl rfl ?_
        refine o_pickT st rfl rfl rfl ?_
        refine c_nil ?_
        exact l_join (r17, (decide (0 < r16))) (fun a w hE hm => ⟨hE.sub ⟨rfl, rfl, rfl, rfl, rfl, trivial⟩, (hm.pick [0, 1, 2, 3, 5] rfl)⟩)
      · refine st_s rfl rfl rfl rfl ?_
        refine st_s rfl rfl rfl rfl ?_
        refine st_s rfl rfl rfl rfl ?_
        refine o_pickF st rfl rfl rfl ?_
        refine c_nil ?_
        exact l_join (r13, false) (fun a w hE hm => ⟨hE.sub ⟨rfl, rfl, rfl, rfl, rfl, trivial⟩, (hm.pick [1, 0, 2, 3, 5] rfl)⟩)
    · rintro ⟨t78, t79⟩ a w ⟨hE, hm⟩ h
      refine nx_of hE hm h ?_
      clear hE hm h
      refine c_cond rfl ?_ ?_
      · refine c_seq ?_
        refine c_region ?_
        refine o_mv st rfl rfl ?_
        refine o_mv st rfl rfl ?_
        refine o_mv st rfl rfl ?_
        refine o_len st el53 2 rfl reads_own rfl rfl ?_
        refine stw (o_call (vs := [(.pointer (some ⟨b1, 0, none⟩)), (.int .i64 (r8.length : Int))]) (M0 := [cellCh b1 [v2, (.int .i64 t78)] 122]) Tryd.call68 rfl rfl (by intro w m h; exact (w_spec_l20Rd_pick (F := allB [cellCh b1 [v2, (.int .i64 t78)] 122] w) (r_0_b := r_0_b) (r_0_p := t78) (n_1 := (r8.length : Int)) allB_ok m.given (m.rdM 3 rfl (reads_snap hv2)) h).mono (fun _ _ k => ret_free (fun r u => (fr_cons free_cell fr_nil)) k)) ?_); rintro ⟨r81, r82⟩ _
        refine o_idx st 2 rfl reads_own rfl rfl rfl el53 ?_; intro e83 h84
        refine o_fadS st 2 rfl reads_own h84 rfl rfl fld110_0 rfl ?_
        refine o_lds st (enc := encGFlow) (u := (.agg #[(.int .i64 e83.xWho.xFrom), (.int .i64 e83.xWho.xTo), (.int .i64 e83.xWho.xPort), (.int .i64 e83.xWho.xProto)])) 2 rfl reads_own flelGFlow rfl h84 rfl rfl ty40 rfl ?_
        refine stw (o_stc (cs' := [(.int .i64 e83.xWho.xFrom), (.int .i64 e83.xWho.xTo), (.int .i64 e83.xWho.xPort), (.int .i64 e83.xWho.xProto)]) 1 rfl rfl rfl ty40 rfl rfl rfl rfl ?_)
        refine c_nil ?_
        refine l_then ?_
        refine c_seq ?_
        refine c_region ?_
        refine o_mv st rfl rfl ?_
        refine stw (o_call (vs := [(.pointer (some ⟨b1, 0, none⟩)), (.int .i64 2)]) (M0 := [cellCh b1 [v2, (.int .i64 r82)] 122]) Tryd.call68 rfl rfl (by intro w m h; exact (w_spec_l20Rd_pick (F := allB [cellCh b1 [v2, (.int .i64 r82)] 122] w) (r_0_b := r_0_b) (r_0_p := r82) (n_1 := 2) allB_ok m.given (m.rdM 3 rfl (reads_snap hv2)) h).mono (fun _ _ k => ret_free (fun r u => (fr_cons free_cell fr_nil)) k)) ?_); rintro ⟨r85, r86⟩ _
        refine o_eql st und3 rfl rfl rfl ?_
        refine c_nil ?_
        refine l_then ?_
        refine c_cond rfl ?_ ?_
        · refine c_region ?_
          refine o_ldc st (v := (.agg #[(.int .i64 e83.xWho.xFrom), (.int .i64 e83.xWho.xTo), (.int .i64 e83.xWho.xPort), (.int .i64 e83.xWho.xProto)])) 1 rfl rfl rfl ty40 rfl ?_
          refine stw (o_callP (vs := [(.agg #[(.int .i64 e83.xWho.xFrom), (.int .i64 e83.xWho.xTo), (.int .i64 e83.xWho.xPort), (.int .i64 e83.xWho.xProto)])]) Tryd.call59 rfl rfl (by intro w m h; exact (w_spec_ReversePacket (F := allB [] w) (p_0 := e83.xWho) allB_ok h).mono (fun _ _ k => ret_free (fun r u => fr_nil) k)) ?_); rintro r87 _
          refine stw (o_stc (cs' := [(.int .i64 r87.xFrom), (.int .i64 r87.xTo), (.int .i64 r87.xPort), (.int .i64 r87.xProto)]) 1 rfl rfl rfl ty40 rfl rfl rfl rfl ?_)
          refine c_nil ?_
          exact l_join (r86, r87.xFrom, r87.xTo, r87.xPort, r87.xProto) (fun a w hE hm => ⟨hE.sub ⟨rfl, rfl, rfl, rfl, trivial⟩, (hm.pick [0, 1, 2, 3, 4] rfl)⟩)
        · refine c_skip ?_
          exact l_join (r86, e83.xWho.xFrom, e83.xWho.xTo, e83.xWho.xPort, e83.xWho.xProto) (fun a w hE hm => ⟨hE.sub ⟨rfl, rfl, rfl, rfl, trivial⟩, (hm.pick [0, 1, 2, 3, 4] rfl)⟩)
      · refine c_skip ?_
        exact l_join (t78, r12.xFrom, r12.xTo, r12.xPort, r12.xProto) (fun a w hE hm => ⟨hE.sub ⟨rfl, rfl, rfl, rfl, trivial⟩, (hm.pick [0, 1, 2, 3, 4] rfl)⟩)
  · rintro ⟨t148, t149, t150, t151, t152⟩ a w ⟨hE, hm⟩ h
    refine nx_of hE hm h ?_
    clear hE hm h
    refine c_join (σ := (Int × Int)) (fun ((t154, t155) : (Int × Int)) (a : Act) (w : World) => Has 44 [(3, (.pointer (some ⟨b6, 0, none⟩))), (2, v9), (4, (.int .i64 t155))] a ∧ Mem (gB F [cellCh b1 [v2, (.int .i64 r_0_p)] 122] w0) (feet [cellCh b1 [v2, (.int .i64 r_0_p)] 122]) w0 [cellCh b1 [v2, (.int .i64 t154)] 122, ownCh elGFlow 110 v9 r8, cellCh b6 [(.int .i64 t149), (.int .i64 t150), (.int .i64 t151), (.int .i64 t152)] 40, snapCh w0 F] w) ?_ ?_
    · intro k156
      refine c_drawQ mixed 15 rfl [cellCh b14 [(.int .i64 t149), (.int .i64 t150), (.int .i64 t151), (.int .i64 t152)] 40, ownCh elGFlow 110 v9 r8, snapCh w0 F] ?_
      intro Qd hP hQ
      have H877 : ∀ (r157 : Int) (r158 : Int) (v159 : Value) (v160 : Value) (r161 : Int) (r162 : Int) (e163 : Int) (h164 : ([0, 0, 0, 0, 0, 0, 1, 2, 3])[(r161).toNat]? = some e163) (e165 : Int) (h166 : ([r157, (-1), 1000000, 1000001])[(e163).toNat]? = some e165), Nx 44 (gB F [cellCh b1 [v2, (.int .i64 r_0_p)] 122] w0) (feet [cellCh b1 [v2, (.int .i64 r_0_p)] 122]) w0 (wpAnyH Tryd.prog .any (opsAt Tryd.f71 [1, 1, 1, 1, 0]) Qd (Mem (gB F [cellCh b1 [v2, (.int .i64 r_0_p)] 122] w0) (feet [cellCh b1 [v2, (.int .i64 r_0_p)] 122]) w0 [cellCh b14 [(.int .i64 t149), (.int .i64 t150), (.int .i64 t151), (.int .i64 t152)] 40, ownCh elGFlow 110 v9 r8, snapCh w0 F]) 1 #[true, true, true, true, true, true, true, true, true, true, true, true, true, true, false]) [(3, (.pointer (some ⟨b6, 0, none⟩))), (2, v9), (43, (.int .i64 e165))] [cellCh b1 [v2, (.int .i64 r162)] 122, cellCh b14 [(.int .i64 t149), (.int .i64 t150), (.int .i64 t151), (.int .i64 t152)] 40, ownCh elGFlow 110 v9 r8, cellCh b6 [(.int .i64 t149), (.int .i64 t150), (.int .i64 t151), (.int .i64 t152)] 40, snapCh w0 F] (k156 (r162, e165)) := by
        intro r157 r158 v159 v160 r161 r162 e163 h164 e165 h166
        refine o_as (dt 14 (fun w m => m.pick [1, 2, 4] rfl)) rfl rfl ?_
        refine d_done (by kernel_rfl) ?_
        exact fun a w hE hm hφ => hQ (r162, e165) a w hφ ((fun a w hE hm => ⟨hE.sub ⟨rfl, rfl, rfl, trivial⟩, (hm.pick [0, 2, 3, 4] rfl)⟩) a w hE hm)
      have H878 : ∀ (r157 : Int) (r158 : Int) (v159 : Value) (v160 : Value) (r161 : Int) (r162 : Int) (e163 : Int) (h164 : ([0, 0, 0, 0, 0, 0, 1, 2, 3])[(r161).toNat]? = some e163) (e165 : Int) (h166 : ([r157, (-1), 1000000, 1000001])[(e163).toNat]? = some e165), Nx 44 (gB F [cellCh b1 [v2, (.int .i64 r_0_p)] 122] w0) (feet [cellCh b1 [v2, (.int .i64 r_0_p)] 122]) w0 (wpAnyH Tryd.prog .any (opsAt Tryd.f71 [1, 1, 1, 1, 0]) Qd (Mem (gB F [cellCh b1 [v2, (.int .i64 r_0_p)] 122] w0) (feet [cellCh b1 [v2, (.int .i64 r_0_p)] 122]) w0 [cellCh b14 [(.int .i64 t149), (.int .i64 t150), (.int .i64 t151), (.int .i64 t152)] 40, ownCh elGFlow 110 v9 r8, snapCh w0 F]) 2 #[true, true, true, true, true, true, true, true, true, true, true, true, true, false, false]) [(3, (.pointer (some ⟨b6, 0, none⟩))), (33, (.agg #[(.int .i64 t149), (.int .i64 t150), (.int .i64 t151), (.int .i64 t152)])), (2, v9), (43, (.int .i64 e165))] [cellCh b1 [v2, (.int .i64 r162)] 122, cellCh b14 [(.int .i64 t149), (.int .i64 t150), (.int .i64 t151), (.int .i64 t152)] 40, ownCh elGFlow 110 v9 r8, cellCh b6 [(.int .i64 0), (.int .i64 0), (.int .i64 0), (.int .i64 0)] 40, snapCh w0 F] (k156 (r162, e165)) := by
        intro r157 r158 v159 v160 r161 r162 e163 h164 e165 h166
        refine d_one (i := 13) rfl (by kernel_rfl) (o_stc (cs' := [(.int .i64 t149), (.int .i64 t150), (.int .i64 t151), (.int .i64 t152)]) 3 rfl rfl rfl ty40 rfl rfl rfl rfl ?_)
        refine d_and (fun w m => m.pick [1, 2, 4] rfl) ?_
        refine pk [0, 1, 2, 3, 4] rfl ?_
        refine re (E' := [(3, (.pointer (some ⟨b6, 0, none⟩))), (2, v9), (43, (.int .i64 e165))]) ⟨rfl, rfl, rfl, trivial⟩ ?_
        exact H877 r157 r158 v159 v160 r161 r162 e163 h164 e165 h166
      have H879 : ∀ (r157 : Int) (r158 : Int) (v159 : Value) (v160 : Value) (r161 : Int) (r162 : Int) (e163 : Int) (h164 : ([0, 0, 0, 0, 0, 0, 1, 2, 3])[(r161).toNat]? = some e163) (e165 : Int) (h166 : ([r157, (-1), 1000000, 1000001])[(e163).toNat]? = some e165), Nx 44 (gB F [cellCh b1 [v2, (.int .i64 r_0_p)] 122] w0) (feet [cellCh b1 [v2, (.int .i64 r_0_p)] 122]) w0 (wpAnyH Tryd.prog .any (opsAt Tryd.f71 [1, 1, 1, 1, 0]) Qd (Mem (gB F [cellCh b1 [v2, (.int .i64 r_0_p)] 122] w0) (feet [cellCh b1 [v2, (.int .i64 r_0_p)] 122]) w0 [cellCh b14 [(.int .i64 t149), (.int .i64 t150), (.int .i64 t151), (.int .i64 t152)] 40, ownCh elGFlow 110 v9 r8, snapCh w0 F]) 2 #[true, true, true, true, true, true, true, true, true, true, true, false, true, true, false]) [(3, (.pointer (some ⟨b6, 0, none⟩))), (2, v9), (42, (pEl v159 e163 1 0))] [cellCh b1 [v2, (.int .i64 r162)] 122, ownCh elInt 3 v159 ([r157, (-1), 1000000, 1000001]), cellCh b14 [(.int .i64 t149), (.int .i64 t150), (.int .i64 t151), (.int .i64 t152)] 40, ownCh elGFlow 110 v9 r8, cellCh b6 [(.int .i64 t149), (.int .i64 t150), (.int .i64 t151), (.int .i64 t152)] 40, snapCh w0 F] (k156 (r162, e165)) := by
        intro r157 r158 v159 v160 r161 r162 e163 h164 e165 h166
        refine d_one (i := 11) rfl (by kernel_rfl) (o_lds m_op (enc := encInt) (u := (.int .i64 e165)) 1 rfl reads_own flelInt rfl h166 rfl rfl ty3 rfl ?_)
        refine d_and (fun w m => m.pick [2, 3, 5] rfl) ?_
        refine pk [0, 2, 3, 4, 5] rfl ?_
        refine re (E' := [(3, (.pointer (some ⟨b6, 0, none⟩))), (2, v9), (43, (.int .i64 e165))]) ⟨rfl, rfl, rfl, trivial⟩ ?_
        exact H877 r157 r158 v159 v160 r161 r162 e163 h164 e165 h166
      have H880 : ∀ (r157 : Int) (r158 : Int) (v159 : Value) (v160 : Value) (r161 : Int) (r162 : Int) (e163 : Int) (h164 : ([0, 0, 0, 0, 0, 0, 1, 2, 3])[(r161).toNat]? = some e163) (e165 : Int) (h166 : ([r157, (-1), 1000000, 1000001])[(e163).toNat]? = some e165), Nx 44 (gB F [cellCh b1 [v2, (.int .i64 r_0_p)] 122] w0) (feet [cellCh b1 [v2, (.int .i64 r_0_p)] 122]) w0 (wpAnyH Tryd.prog .any (opsAt Tryd.f71 [1, 1, 1, 1, 0]) Qd (Mem (gB F [cellCh b1 [v2, (.int .i64 r_0_p)] 122] w0) (feet [cellCh b1 [v2, (.int .i64 r_0_p)] 122]) w0 [cellCh b14 [(.int .i64 t149), (.int .i64 t150), (.int .i64 t151), (.int .i64 t152)] 40, ownCh elGFlow 110 v9 r8, snapCh w0 F]) 3 #[true, true, true, true, true, true, true, true, true, true, true, false, true, false, false]) [(3, (.pointer (some ⟨b6, 0, none⟩))), (33, (.agg #[(.int .i64 t149), (.int .i64 t150), (.int .i64 t151), (.int .i64 t152)])), (2, v9), (42, (pEl v159 e163 1 0))] [cellCh b1 [v2, (.int .i64 r162)] 122, ownCh elInt 3 v159 ([r157, (-1), 1000000, 1000001]), cellCh b14 [(.int .i64 t149), (.int .i64 t150), (.int .i64 t151), (.int .i64 t152)] 40, ownCh elGFlow 110 v9 r8, cellCh b6 [(.int .i64 0), (.int .i64 0), (.int .i64 0), (.int .i64 0)] 40, snapCh w0 F] (k156 (r162, e165)) := by
        intro r157 r158 v159 v160 r161 r162 e163 h164 e165 h166
        refine d_two (i := 11) (j := 13) rfl rfl (by kernel_rfl) ?_ ?_
        · intro o ho; cases ho
          refine o_lds m_op (enc := encInt) (u := (.int .i64 e165)) 1 rfl reads_own flelInt rfl h166 rfl rfl ty3 rfl ?_
          refine d_and (fun w m => m.pick [2, 3, 5] rfl) ?_
          refine pk [0, 2, 3, 4, 5] rfl ?_
          refine re (E' := [(3, (.pointer (some ⟨b6, 0, none⟩))), (33, (.agg #[(.int .i64 t149), (.int .i64 t150), (.int .i64 t151), (.int .i64 t152)])), (2, v9), (43, (.int .i64 e165))]) ⟨rfl, rfl, rfl, rfl, trivial⟩ ?_
          exact H878 r157 r158 v159 v160 r161 r162 e163 h164 e165 h166
        · intro o ho; cases ho
          refine o_stc (cs' := [(.int .i64 t149), (.int .i64 t150), (.int .i64 t151), (.int .i64 t152)]) 4 rfl rfl rfl ty40 rfl rfl rfl rfl ?_
          refine d_and (fun w m => m.pick [2, 3, 5] rfl) ?_
          refine pk [0, 1, 2, 3, 4, 5] rfl ?_
          refine re (E' := [(3, (.pointer (some ⟨b6, 0, none⟩))), (2, v9), (42, (pEl v159 e163 1 0))]) ⟨rfl, rfl, rfl, trivial⟩ ?_
          exact H879 r157 r158 v159 v160 r161 r162 e163 h164 e165 h166
      have H881 : ∀ (r157 : Int) (r158 : Int) (v159 : Value) (v160 : Value) (r161 : Int) (r162 : Int) (e163 : Int) (h164 : ([0, 0, 0, 0, 0, 0, 1, 2, 3])[(r161).toNat]? = some e163), Nx 44 (gB F [cellCh b1 [v2, (.int .i64 r_0_p)] 122] w0) (feet [cellCh b1 [v2, (.int .i64 r_0_p)] 122]) w0 (wpAnyH Tryd.prog .any (opsAt Tryd.f71 [1, 1, 1, 1, 0]) Qd (Mem (gB F [cellCh b1 [v2, (.int .i64 r_0_p)] 122] w0) (feet [cellCh b1 [v2, (.int .i64 r_0_p)] 122]) w0 [cellCh b14 [(.int .i64 t149), (.int .i64 t150), (.int .i64 t151), (.int .i64 t152)] 40, ownCh elGFlow 110 v9 r8, snapCh w0 F]) 3 #[true, true, true, true, true, true, true, true, true, true, false, false, true, true, false]) [(3, (.pointer (some ⟨b6, 0, none⟩))), (36, v159), (2, v9), (41, (.int .i64 e163))] [cellCh b1 [v2, (.int .i64 r162)] 122, ownCh elInt 3 v159 ([r157, (-1), 1000000, 1000001]), cellCh b14 [(.int .i64 t149), (.int .i64 t150), (.int .i64 t151), (.int .i64 t152)] 40, ownCh elGFlow 110 v9 r8, cellCh b6 [(.int .i64 t149), (.int .i64 t150), (.int .i64 t151), (.int .i64 t152)] 40, snapCh w0 F] (idxW ([r157, (-1), 1000000, 1000001]) e163 (fun e167 => k156 (r162, e167))) := by
        intro r157 r158 v159 v160 r161 r162 e163 h164
        refine d_one (i := 10) rfl (by kernel_rfl) (o_idx m_op 1 rfl reads_own rfl rfl rfl el99 ?_); intro e167 h168
        refine d_and (fun w m => m.pick [2, 3, 5] rfl) ?_
        refine pk [0, 1, 2, 3, 4, 5] rfl ?_
        refine re (E' := [(3, (.pointer (some ⟨b6, 0, none⟩))), (2, v9), (42, (pEl v159 e163 1 0))]) ⟨rfl, rfl, rfl, trivial⟩ ?_
        exact H879 r157 r158 v159 v160 r161 r162 e163 h164 e167 h168
      have H882 : ∀ (r157 : Int) (r158 : Int) (v159 : Value) (v160 : Value) (r161 : Int) (r162 : Int) (e163 : Int) (h164 : ([0, 0, 0, 0, 0, 0, 1, 2, 3])[(r161).toNat]? = some e163), Nx 44 (gB F [cellCh b1 [v2, (.int .i64 r_0_p)] 122] w0) (feet [cellCh b1 [v2, (.int .i64 r_0_p)] 122]) w0 (wpAnyH Tryd.prog .any (opsAt Tryd.f71 [1, 1, 1, 1, 0]) Qd (Mem (gB F [cellCh b1 [v2, (.int .i64 r_0_p)] 122] w0) (feet [cellCh b1 [v2, (.int .i64 r_0_p)] 122]) w0 [cellCh b14 [(.int .i64 t149), (.int .i64 t150), (.int .i64 t151), (.int .i64 t152)] 40, ownCh elGFlow 110 v9 r8, snapCh w0 F]) 4 #[true, true, true, true, true, true, true, true, true, true, false, false, true, false, false]) [(3, (.pointer (some ⟨b6, 0, none⟩))), (33, (.agg #[(.int .i64 t149), (.int .i64 t150), (.int .i64 t151), (.int .i64 t152)])), (36, v159), (2, v9), (41, (.int .i64 e163))] [cellCh b1 [v2, (.int .i64 r162)] 122, ownCh elInt 3 v159 ([r157, (-1), 1000000, 1000001]), cellCh b14 [(.int .i64 t149), (.int .i64 t150), (.int .i64 t151), (.int .i64 t152)] 40, ownCh elGFlow 110 v9 r8, cellCh b6 [(.int .i64 0), (.int .i64 0), (.int .i64 0), (.int .i64 0)] 40, snapCh w0 F] (idxW ([r157, (-1), 1000000, 1000001]) e163 (fun e165 => k156 (r162, e165))) := by
        intro r157 r158 v159 v160 r161 r162 e163 h164
        refine d_two (i := 10) (j := 13) rfl rfl (by kernel_rfl) ?_ ?_
        · intro o ho; cases ho
          refine o_idx m_op 1 rfl reads_own rfl rfl rfl el99 ?_; intro e165 h166
          refine d_and (fun w m => m.pick [2, 3, 5] rfl) ?_
          refine pk [0, 1, 2, 3, 4, 5] rfl ?_
          refine re (E' := [(3, (.pointer (some ⟨b6, 0, none⟩))), (33, (.agg #[(.int .i64 t149), (.int .i64 t150), (.int .i64 t151), (.int .i64 t152)])), (2, v9), (42, (pEl v159 e163 1 0))]) ⟨rfl, rfl, rfl, rfl, trivial⟩ ?_
          exact H880 r157 r158 v159 v160 r161 r162 e163 h164 e165 h166
        · intro o ho; cases ho
          refine o_stc (cs' := [(.int .i64 t149), (.int .i64 t150), (.int .i64 t151), (.int .i64 t152)]) 4 rfl rfl rfl ty40 rfl rfl rfl rfl ?_
          refine d_and (fun w m => m.pick [2, 3, 5] rfl) ?_
          refine pk [0, 1, 2, 3, 4, 5] rfl ?_
          refine re (E' := [(3, (.pointer (some ⟨b6, 0, none⟩))), (36, v159), (2, v9), (41, (.int .i64 e163))]) ⟨rfl, rfl, rfl, rfl, trivial⟩ ?_
          exact H881 r157 r158 v159 v160 r161 r162 e163 h164
      have H883 : ∀ (r157 : Int) (r158 : Int) (v159 : Value) (v160 : Value) (r161 : Int) (r162 : Int) (e163 : Int) (h164 : ([0, 0, 0, 0, 0, 0, 1, 2, 3])[(r161).toNat]? = some e163), Nx 44 (gB F [cellCh b1 [v2, (.int .i64 r_0_p)] 122] w0) (feet [cellCh b1 [v2, (.int .i64 r_0_p)] 122]) w0 (wpAnyH Tryd.prog .any (opsAt Tryd.f71 [1, 1, 1, 1, 0]) Qd (Mem (gB F [cellCh b1 [v2, (.int .i64 r_0_p)] 122] w0) (feet [cellCh b1 [v2, (.int .i64 r_0_p)] 122]) w0 [cellCh b14 [(.int .i64 t149), (.int .i64 t150), (.int .i64 t151), (.int .i64 t152)] 40, ownCh elGFlow 110 v9 r8, snapCh w0 F]) 4 #[true, true, true, true, true, true, true, true, true, false, false, false, true, true, false]) [(3, (.pointer (some ⟨b6, 0, none⟩))), (36, v159), (2, v9), (40, (pEl v160 r161 1 0))] [cellCh b1 [v2, (.int .i64 r162)] 122, ownCh elInt 3 v160 ([0, 0, 0, 0, 0, 0, 1, 2, 3]), ownCh elInt 3 v159 ([r157, (-1), 1000000, 1000001]), cellCh b14 [(.int .i64 t149), (.int .i64 t150), (.int .i64 t151), (.int .i64 t152)] 40, ownCh elGFlow 110 v9 r8, cellCh b6 [(.int .i64 t149), (.int .i64 t150), (.int .i64 t151), (.int .i64 t152)] 40, snapCh w0 F] (idxW ([r157, (-1), 1000000, 1000001]) e163 (fun e167 => k156 (r162, e167))) := by
        intro r157 r158 v159 v160 r161 r162 e163 h164
        refine d_one (i := 9) rfl (by kernel_rfl) (o_lds m_op (enc := encInt) (u := (.int .i64 e163)) 1 rfl reads_own flelInt rfl h164 rfl rfl ty3 rfl ?_)
        refine d_and (fun w m => m.pick [3, 4, 6] rfl) ?_
        refine pk [0, 2, 3, 4, 5, 6] rfl ?_
        refine re (E' := [(3, (.pointer (some ⟨b6, 0, none⟩))), (36, v159), (2, v9), (41, (.int .i64 e163))]) ⟨rfl, rfl, rfl, rfl, trivial⟩ ?_
        exact H881 r157 r158 v159 v160 r161 r162 e163 h164
      have H884 : ∀ (r157 : Int) (r158 : Int) (v159 : Value) (v160 : Value) (r161 : Int) (r162 : Int) (e163 : Int) (h164 : ([0, 0, 0, 0, 0, 0, 1, 2, 3])[(r161).toNat]? = some e163), Nx 44 (gB F [cellCh b1 [v2, (.int .i64 r_0_p)] 122] w0) (feet [cellCh b1 [v2, (.int .i64 r_0_p)] 122]) w0 (wpAnyH Tryd.prog .any (opsAt Tryd.f71 [1, 1, 1, 1, 0]) Qd (Mem (gB F [cellCh b1 [v2, (.int .i64 r_0_p)] 122] w0) (feet [cellCh b1 [v2, (.int .i64 r_0_p)] 122]) w0 [cellCh b14 [(.int .i64 t149), (.int .i64 t150), (.int .i64 t151), (.int .i64 t152)] 40, ownCh elGFlow 110 v9 r8, snapCh w0 F]) 5 #[true, true, true, true, true, true, true, true, true, false, false, false, true, false, false]) [(3, (.pointer (some ⟨b6, 0, none⟩))), (33, (.agg #[(.int .i64 t149), (.int .i64 t150), (.int .i64 t151), (.int .i64 t152)])), (36, v159), (2, v9), (40, (pEl v160 r161 1 0))] [cellCh b1 [v2, (.int .i64 r162)] 122, ownCh elInt 3 v160 ([0, 0, 0, 0, 0, 0, 1, 2, 3]), ownCh elInt 3 v159 ([r157, (-1), 1000000, 1000001]), cellCh b14 [(.int .i64 t149), (.int .i64 t150), (.int .i64 t151), (.int .i64 t152)] 40, ownCh elGFlow 110 v9 r8, cellCh b6 [(.int .i64 0), (.int .i64 0), (.int .i64 0), (.int .i64 0)] 40, snapCh w0 F] (idxW ([r157, (-1), 1000000, 1000001]) e163 (fun e165 => k156 (r162, e165))) := by
        intro r157 r158 v159 v160 r161 r162 e163 h164
        refine d_two (i := 9) (j := 13) rfl rfl (by kernel_rfl) ?_ ?_
        · intro o ho; cases ho
          refine o_lds m_op (enc := encInt) (u := (.int .i64 e163)) 1 rfl reads_own flelInt rfl h164 rfl rfl ty3 rfl ?_
          refine d_and (fun w m => m.pick [3, 4, 6] rfl) ?_
          refine pk [0, 2, 3, 4, 5, 6] rfl ?_
          refine re (E' := [(3, (.pointer (some ⟨b6, 0, none⟩))), (33, (.agg #[(.int .i64 t149), (.int .i64 t150), (.int .i64 t151), (.int .i64 t152)])), (36, v159), (2, v9), (41, (.int .i64 e163))]) ⟨rfl, rfl, rfl, rfl, rfl, trivial⟩ ?_
          exact H882 r157 r158 v159 v160 r161 r162 e163 h164
        · intro o ho; cases ho
          refine o_stc (cs' := [(.int .i64 t149), (.int .i64 t150), (.int .i64 t151), (.int .i64 t152)]) 5 rfl rfl rfl ty40 rfl rfl rfl rfl ?_
          refine d_and (fun w m => m.pick [3, 4, 6] rfl) ?_
          refine pk [0, 1, 2, 3, 4, 5, 6] rfl ?_
          refine re (E' := [(3, (.pointer (some ⟨b6, 0, none⟩))), (36, v159), (2, v9), (40, (pEl v160 r161 1 0))]) ⟨rfl, rfl, rfl, rfl, trivial⟩ ?_
          exact H883 r157 r158 v159 v160 r161 r162 e163 h164
      have H885 : ∀ (r157 : Int) (r158 : Int) (v159 : Value) (v160 : Value) (r161 : Int) (r162 : Int), Nx 44 (gB F [cellCh b1 [v2, (.int .i64 r_0_p)] 122] w0) (feet [cellCh b1 [v2, (.int .i64 r_0_p)] 122]) w0 (wpAnyH Tryd.prog .any (opsAt Tryd.f71 [1, 1, 1, 1, 0]) Qd (Mem (gB F [cellCh b1 [v2, (.int .i64 r_0_p)] 122] w0) (feet [cellCh b1 [v2, (.int .i64 r_0_p)] 122]) w0 [cellCh b14 [(.int .i64 t149), (.int .i64 t150), (.int .i64 t151), (.int .i64 t152)] 40, ownCh elGFlow 110 v9 r8, snapCh w0 F]) 5 #[true, true, true, true, true, true, true, true, false, false, false, false, true, true, false]) [(3, (.pointer (some ⟨b6, 0, none⟩))), (36, v159), (37, v160), (39, (.int .i64 r161)), (2, v9)] [cellCh b1 [v2, (.int .i64 r162)] 122, ownCh elInt 3 v160 ([0, 0, 0, 0, 0, 0, 1, 2, 3]), ownCh elInt 3 v159 ([r157, (-1), 1000000, 1000001]), cellCh b14 [(.int .i64 t149), (.int .i64 t150), (.int .i64 t151), (.int .i64 t152)] 40, ownCh elGFlow 110 v9 r8, cellCh b6 [(.int .i64 t149), (.int .i64 t150), (.int .i64 t151), (.int .i64 t152)] 40, snapCh w0 F] (idxW ([0, 0, 0, 0, 0, 0, 1, 2, 3]) r161 (fun e169 => idxW ([r157, (-1), 1000000, 1000001]) e169 (fun e167 => k156 (r162, e167)))) := by
        intro r157 r158 v159 v160 r161 r162
        refine d_one (i := 8) rfl (by kernel_rfl) (o_idx m_op 1 rfl reads_own rfl rfl rfl el99 ?_); intro e169 h170
        refine d_and (fun w m => m.pick [3, 4, 6] rfl) ?_
        refine pk [0, 1, 2, 3, 4, 5, 6] rfl ?_
        refine re (E' := [(3, (.pointer (some ⟨b6, 0, none⟩))), (36, v159), (2, v9), (40, (pEl v160 r161 1 0))]) ⟨rfl, rfl, rfl, rfl, trivial⟩ ?_
        exact H883 r157 r158 v159 v160 r161 r162 e169 h170
      have H886 : ∀ (r157 : Int) (r158 : Int) (v159 : Value) (v160 : Value) (r161 : Int) (r162 : Int), Nx 44 (gB F [cellCh b1 [v2, (.int .i64 r_0_p)] 122] w0) (feet [cellCh b1 [v2, (.int .i64 r_0_p)] 122]) w0 (wpAnyH Tryd.prog .any (opsAt Tryd.f71 [1, 1, 1, 1, 0]) Qd (Mem (gB F [cellCh b1 [v2, (.int .i64 r_0_p)] 122] w0) (feet [cellCh b1 [v2, (.int .i64 r_0_p)] 122]) w0 [cellCh b14 [(.int .i64 t149), (.int .i64 t150), (.int .i64 t151), (.int .i64 t152)] 40, ownCh elGFlow 110 v9 r8, snapCh w0 F]) 7 #[true, true, true, true, true, true, true, true, false, false, false, false, false, false, false]) [(3, (.pointer (some ⟨b6, 0, none⟩))), (32, v9), (33, (.agg #[(.int .i64 t149), (.int .i64 t150), (.int .i64 t151), (.int .i64 t152)])), (36, v159), (37, v160), (39, (.int .i64 r161))] [cellCh b1 [v2, (.int .i64 r162)] 122, ownCh elInt 3 v160 ([0, 0, 0, 0, 0, 0, 1, 2, 3]), ownCh elInt 3 v159 ([r157, (-1), 1000000, 1000001]), cellCh b14 [(.int .i64 t149), (.int .i64 t150), (.int .i64 t151), (.int .i64 t152)] 40, ownCh elGFlow 110 v9 r8, cellCh b6 [(.int .i64 0), (.int .i64 0), (.int .i64 0), (.int .i64 0)] 40, snapCh w0 F] (idxW ([0, 0, 0, 0, 0, 0, 1, 2, 3]) r161 (fun e163 => idxW ([r157, (-1), 1000000, 1000001]) e163 (fun e165 => k156 (r162, e165)))) := by
        intro r157 r158 v159 v160 r161 r162
        refine o_as (dt 12 (fun w m => m.pick [3, 4, 6] rfl)) rfl rfl ?_
        refine d_two (i := 8) (j := 13) rfl rfl (by kernel_rfl) ?_ ?_
        · intro o ho; cases ho
          refine o_idx m_op 1 rfl reads_own rfl rfl rfl el99 ?_; intro e163 h164
          refine d_and (fun w m => m.pick [3, 4, 6] rfl) ?_
          refine pk [0, 1, 2, 3, 4, 5, 6] rfl ?_
          refine re (E' := [(3, (.pointer (some ⟨b6, 0, none⟩))), (33, (.agg #[(.int .i64 t149), (.int .i64 t150), (.int .i64 t151), (.int .i64 t152)])), (36, v159), (2, v9), (40, (pEl v160 r161 1 0))]) ⟨rfl, rfl, rfl, rfl, rfl, trivial⟩ ?_
          exact H884 r157 r158 v159 v160 r161 r162 e163 h164
        · intro o ho; cases ho
          refine o_stc (cs' := [(.int .i64 t149), (.int .i64 t150), (.int .i64 t151), (.int .i64 t152)]) 5 rfl rfl rfl ty40 rfl rfl rfl rfl ?_
          refine d_and (fun w m => m.pick [3, 4, 6] rfl) ?_
          refine pk [0, 1, 2, 3, 4, 5, 6] rfl ?_
          refine re (E' := [(3, (.pointer (some ⟨b6, 0, none⟩))), (36, v159), (37, v160), (39, (.int .i64 r161)), (2, v9)]) ⟨rfl, rfl, rfl, rfl, rfl, trivial⟩ ?_
          exact H885 r157 r158 v159 v160 r161 r162
      have H887 : ∀ (r157 : Int) (r158 : Int) (v159 : Value) (v160 : Value), Nx 44 (gB F [cellCh b1 [v2, (.int .i64 r_0_p)] 122] w0) (feet [cellCh b1 [v2, (.int .i64 r_0_p)] 122]) w0 (wpAnyH Tryd.prog .any (opsAt Tryd.f71 [1, 1, 1, 1, 0]) Qd (Mem (gB F [cellCh b1 [v2, (.int .i64 r_0_p)] 122] w0) (feet [cellCh b1 [v2, (.int .i64 r_0_p)] 122]) w0 [cellCh b14 [(.int .i64 t149), (.int .i64 t150), (.int .i64 t151), (.int .i64 t152)] 40, ownCh elGFlow 110 v9 r8, snapCh w0 F]) 8 #[true, true, true, true, true, true, true, false, false, false, false, false, false, false, false]) [(3, (.pointer (some ⟨b6, 0, none⟩))), (32, v9), (33, (.agg #[(.int .i64 t149), (.int .i64 t150), (.int .i64 t151), (.int .i64 t152)])), (38, (.pointer (some ⟨b1, 0, none⟩))), (36, v159), (37, v160)] [ownCh elInt 3 v160 ([0, 0, 0, 0, 0, 0, 1, 2, 3]), ownCh elInt 3 v159 ([r157, (-1), 1000000, 1000001]), cellCh b1 [v2, (.int .i64 r158)] 122, cellCh b14 [(.int .i64 t149), (.int .i64 t150), (.int .i64 t151), (.int .i64 t152)] 40, ownCh elGFlow 110 v9 r8, cellCh b6 [(.int .i64 0), (.int .i64 0), (.int .i64 0), (.int .i64 0)] 40, snapCh w0 F] (L_spec_l20Rd_pick r_0_b r158 9 (fun (r161, r162) => idxW ([0, 0, 0, 0, 0, 0, 1, 2, 3]) r161 (fun e163 => idxW ([r157, (-1), 1000000, 1000001]) e163 (fun e165 => k156 (r162, e165))))) := by
        intro r157 r158 v159 v160
        refine pk [2, 0, 1, 3, 4, 5, 6] rfl ?_
        refine d_one (i := 7) rfl (by kernel_rfl) (o_call (vs := [(.pointer (some ⟨b1, 0, none⟩)), (.int .i64 9)]) (M0 := [cellCh b1 [v2, (.int .i64 r158)] 122]) Tryd.call68 rfl rfl (by intro w m h; exact (w_spec_l20Rd_pick (F := allB [cellCh b1 [v2, (.int .i64 r158)] 122] w) (r_0_b := r_0_b) (r_0_p := r158) (n_1 := 9) allB_ok m.given (m.rdM 5 rfl (reads_snap hv2)) h).mono (fun _ _ k => ret_free (fun r u => (fr_cons free_cell fr_nil)) k)) ?_); rintro ⟨r161, r162⟩ _
        refine d_and (fun w m => m.pick [3, 4, 6] rfl) ?_
        refine pk [0, 1, 2, 3, 4, 5, 6] rfl ?_
        refine re (E' := [(3, (.pointer (some ⟨b6, 0, none⟩))), (32, v9), (33, (.agg #[(.int .i64 t149), (.int .i64 t150), (.int .i64 t151), (.int .i64 t152)])), (36, v159), (37, v160), (39, (.int .i64 r161))]) ⟨rfl, rfl, rfl, rfl, rfl, rfl, trivial⟩ ?_
        exact H886 r157 r158 v159 v160 r161 r162
      have H888 : ∀ (r157 : Int) (r158 : Int) (v159 : Value) (r171 : Int) (r172 : Int) (v173 : Value), Nx 44 (gB F [cellCh b1 [v2, (.int .i64 r_0_p)] 122] w0) (feet [cellCh b1 [v2, (.int .i64 r_0_p)] 122]) w0 (wpAnyH Tryd.prog .any (opsAt Tryd.f71 [1, 1, 1, 1, 0]) Qd (Mem (gB F [cellCh b1 [v2, (.int .i64 r_0_p)] 122] w0) (feet [cellCh b1 [v2, (.int .i64 r_0_p)] 122]) w0 [cellCh b14 [(.int .i64 t149), (.int .i64 t150), (.int .i64 t151), (.int .i64 t152)] 40, ownCh elGFlow 110 v9 r8, snapCh w0 F]) 6 #[true, true, true, true, true, true, true, true, false, false, false, false, true, false, false]) [(3, (.pointer (some ⟨b6, 0, none⟩))), (33, (.agg #[(.int .i64 t149), (.int .i64 t150), (.int .i64 t151), (.int .i64 t152)])), (36, v159), (39, (.int .i64 r171)), (2, v9), (37, v173)] [ownCh elInt 3 v173 ([0, 0, 0, 0, 0, 0, 1, 2, 3]), cellCh b1 [v2, (.int .i64 r172)] 122, ownCh elInt 3 v159 ([r157, (-1), 1000000, 1000001]), cellCh b14 [(.int .i64 t149), (.int .i64 t150), (.int .i64 t151), (.int .i64 t152)] 40, ownCh elGFlow 110 v9 r8, cellCh b6 [(.int .i64 0), (.int .i64 0), (.int .i64 0), (.int .i64 0)] 40, snapCh w0 F] (idxW ([0, 0, 0, 0, 0, 0, 1, 2, 3]) r171 (fun e174 => idxW ([r157, (-1), 1000000, 1000001]) e174 (fun e165 => k156 (r172, e165)))) := by
        intro r157 r158 v159 r171 r172 v173
        refine d_two (i := 8) (j := 13) rfl rfl (by kernel_rfl) ?_ ?_
        · intro o ho; cases ho
          refine o_idx m_op 0 rfl reads_own rfl rfl rfl el99 ?_; intro e174 h175
          refine d_and (fun w m => m.pick [3, 4, 6] rfl) ?_
          refine pk [1, 0, 2, 3, 4, 5, 6] rfl ?_
          refine re (E' := [(3, (.pointer (some ⟨b6, 0, none⟩))), (33, (.agg #[(.int .i64 t149), (.int .i64 t150), (.int .i64 t151), (.int .i64 t152)])), (36, v159), (2, v9), (40, (pEl v173 r171 1 0))]) ⟨rfl, rfl, rfl, rfl, rfl, trivial⟩ ?_
          exact H884 r157 r158 v159 v173 r171 r172 e174 h175
        · intro o ho; cases ho
          refine o_stc (cs' := [(.int .i64 t149), (.int .i64 t150), (.int .i64 t151), (.int .i64 t152)]) 5 rfl rfl rfl ty40 rfl rfl rfl rfl ?_
          refine d_and (fun w m => m.pick [3, 4, 6] rfl) ?_
          refine pk [1, 0, 2, 3, 4, 5, 6] rfl ?_
          refine re (E' := [(3, (.pointer (some ⟨b6, 0, none⟩))), (36, v159), (37, v173), (39, (.int .i64 r171)), (2, v9)]) ⟨rfl, rfl, rfl, rfl, rfl, trivial⟩ ?_
          exact H885 r157 r158 v159 v173 r171 r172
      have H889 : ∀ (r157 : Int) (r158 : Int) (v159 : Value) (r171 : Int) (r172 : Int), Nx 44 (gB F [cellCh b1 [v2, (.int .i64 r_0_p)] 122] w0) (feet [cellCh b1 [v2, (.int .i64 r_0_p)] 122]) w0 (wpAnyH Tryd.prog .any (opsAt Tryd.f71 [1, 1, 1, 1, 0]) Qd (Mem (gB F [cellCh b1 [v2, (.int .i64 r_0_p)] 122] w0) (feet [cellCh b1 [v2, (.int .i64 r_0_p)] 122]) w0 [cellCh b14 [(.int .i64 t149), (.int .i64 t150), (.int .i64 t151), (.int .i64 t152)] 40, ownCh elGFlow 110 v9 r8, snapCh w0 F]) 6 #[true, true, true, true, true, false, true, true, false, false, false, false, true, true, false]) [(3, (.pointer (some ⟨b6, 0, none⟩))), (36, v159), (39, (.int .i64 r171)), (2, v9)] [cellCh b1 [v2, (.int .i64 r172)] 122, ownCh elInt 3 v159 ([r157, (-1), 1000000, 1000001]), cellCh b14 [(.int .i64 t149), (.int .i64 t150), (.int .i64 t151), (.int .i64 t152)] 40, ownCh elGFlow 110 v9 r8, cellCh b6 [(.int .i64 t149), (.int .i64 t150), (.int .i64 t151), (.int .i64 t152)] 40, snapCh w0 F] (idxW ([0, 0, 0, 0, 0, 0, 1, 2, 3]) r171 (fun e169 => idxW ([r157, (-1), 1000000, 1000001]) e169 (fun e167 => k156 (r172, e167)))) := by
        intro r157 r158 v159 r171 r172
        refine d_one (i := 5) rfl (by kernel_rfl) (o_bsl (enc := encInt) (qs := [(0, (.int .i64 0)), (1, (.int .i64 0)), (2, (.int .i64 0)), (3, (.int .i64 0)), (4, (.int .i64 0)), (5, (.int .i64 0)), (6, (.int .i64 1)), (7, (.int .i64 2)), (8, (.int .i64 3))]) (cells := [(.int .i64 0), (.int .i64 0), (.int .i64 0), (.int .i64 0), (.int .i64 0), (.int .i64 0), (.int .i64 1), (.int .i64 2), (.int .i64 3)]) ([0, 0, 0, 0, 0, 0, 1, 2, 3]) flelInt (by intro ρ h; simp only [List.map_toArray, List.map_cons, List.map_nil, h (.const (.int .i64 0)) _ rfl, h (.const (.int .i64 0)) _ rfl, h (.const (.int .i64 0)) _ rfl, h (.const (.int .i64 0)) _ rfl, h (.const (.int .i64 0)) _ rfl, h (.const (.int .i64 0)) _ rfl, h (.const (.int .i64 1)) _ rfl, h (.const (.int .i64 2)) _ rfl, h (.const (.int .i64 3)) _ rfl]) rfl el99 zero3 rfl rfl rfl rfl rfl rfl ?_); intro v176
        refine d_and (fun w m => m.pick [3, 4, 6] rfl) ?_
        refine pk [1, 0, 2, 3, 4, 5, 6] rfl ?_
        refine re (E' := [(3, (.pointer (some ⟨b6, 0, none⟩))), (36, v159), (37, v176), (39, (.int .i64 r171)), (2, v9)]) ⟨rfl, rfl, rfl, rfl, rfl, trivial⟩ ?_
        exact H885 r157 r158 v159 v176 r171 r172
      have H890 : ∀ (r157 : Int) (r158 : Int) (v159 : Value) (r171 : Int) (r172 : Int), Nx 44 (gB F [cellCh b1 [v2, (.int .i64 r_0_p)] 122] w0) (feet [cellCh b1 [v2, (.int .i64 r_0_p)] 122]) w0 (wpAnyH Tryd.prog .any (opsAt Tryd.f71 [1, 1, 1, 1, 0]) Qd (Mem (gB F [cellCh b1 [v2, (.int .i64 r_0_p)] 122] w0) (feet [cellCh b1 [v2, (.int .i64 r_0_p)] 122]) w0 [cellCh b14 [(.int .i64 t149), (.int .i64 t150), (.int .i64 t151), (.int .i64 t152)] 40, ownCh elGFlow 110 v9 r8, snapCh w0 F]) 8 #[true, true, true, true, true, false, true, true, false, false, false, false, false, false, false]) [(3, (.pointer (some ⟨b6, 0, none⟩))), (32, v9), (33, (.agg #[(.int .i64 t149), (.int .i64 t150), (.int .i64 t151), (.int .i64 t152)])), (36, v159), (39, (.int .i64 r171))] [cellCh b1 [v2, (.int .i64 r172)] 122, ownCh elInt 3 v159 ([r157, (-1), 1000000, 1000001]), cellCh b14 [(.int .i64 t149), (.int .i64 t150), (.int .i64 t151), (.int .i64 t152)] 40, ownCh elGFlow 110 v9 r8, cellCh b6 [(.int .i64 0), (.int .i64 0), (.int .i64 0), (.int .i64 0)] 40, snapCh w0 F] (idxW ([0, 0, 0, 0, 0, 0, 1, 2, 3]) r171 (fun e174 => idxW ([r157, (-1), 1000000, 1000001]) e174 (fun e165 => k156 (r172, e165)))) := by
        intro r157 r158 v159 r171 r172
        refine o_as (dt 12 (fun w m => m.pick [2, 3, 5] rfl)) rfl rfl ?_
        refine d_two (i := 5) (j := 13) rfl rfl (by kernel_rfl) ?_ ?_
        · intro o ho; cases ho
          refine o_bsl (enc := encInt) (qs := [(0, (.int .i64 0)), (1, (.int .i64 0)), (2, (.int .i64 0)), (3, (.int .i64 0)), (4, (.int .i64 0)), (5, (.int .i64 0)), (6, (.int .i64 1)), (7, (.int .i64 2)), (8, (.int .i64 3))]) (cells := [(.int .i64 0), (.int .i64 0), (.int .i64 0), (.int .i64 0), (.int .i64 0), (.int .i64 0), (.int .i64 1), (.int .i64 2), (.int .i64 3)]) ([0, 0, 0, 0, 0, 0, 1, 2, 3]) flelInt (by intro ρ h; simp only [List.map_toArray, List.map_cons, List.map_nil, h (.const (.int .i64 0)) _ rfl, h (.const (.int .i64 0)) _ rfl, h (.const (.int .i64 0)) _ rfl, h (.const (.int .i64 0)) _ rfl, h (.const (.int .i64 0)) _ rfl, h (.const (.int .i64 0)) _ rfl, h (.const (.int .i64 1)) _ rfl, h (.const (.int .i64 2)) _ rfl, h (.const (.int .i64 3)) _ rfl]) rfl el99 zero3 rfl rfl rfl rfl rfl rfl ?_; intro v173
          refine d_and (fun w m => m.pick [3, 4, 6] rfl) ?_
          refine pk [0, 1, 2, 3, 4, 5, 6] rfl ?_
          refine re (E' := [(3, (.pointer (some ⟨b6, 0, none⟩))), (33, (.agg #[(.int .i64 t149), (.int .i64 t150), (.int .i64 t151), (.int .i64 t152)])), (36, v159), (39, (.int .i64 r171)), (2, v9), (37, v173)]) ⟨rfl, rfl, rfl, rfl, rfl, rfl, trivial⟩ ?_
          exact H888 r157 r158 v159 r171 r172 v173
        · intro o ho; cases ho
          refine o_stc (cs' := [(.int .i64 t149), (.int .i64 t150), (.int .i64 t151), (.int .i64 t152)]) 4 rfl rfl rfl ty40 rfl rfl rfl rfl ?_
          refine d_and (fun w m => m.pick [2, 3, 5] rfl) ?_
          refine pk [0, 1, 2, 3, 4, 5] rfl ?_
          refine re (E' := [(3, (.pointer (some ⟨b6, 0, none⟩))), (36, v159), (39, (.int .i64 r171)), (2, v9)]) ⟨rfl, rfl, rfl, rfl, trivial⟩ ?_
          exact H889 r157 r158 v159 r171 r172
      have H891 : ∀ (r157 : Int) (r158 : Int) (v159 : Value), Nx 44 (gB F [cellCh b1 [v2, (.int .i64 r_0_p)] 122] w0) (feet [cellCh b1 [v2, (.int .i64 r_0_p)] 122]) w0 (wpAnyH Tryd.prog .any (opsAt Tryd.f71 [1, 1, 1, 1, 0]) Qd (Mem (gB F [cellCh b1 [v2, (.int .i64 r_0_p)] 122] w0) (feet [cellCh b1 [v2, (.int .i64 r_0_p)] 122]) w0 [cellCh b14 [(.int .i64 t149), (.int .i64 t150), (.int .i64 t151), (.int .i64 t152)] 40, ownCh elGFlow 110 v9 r8, snapCh w0 F]) 9 #[true, true, true, true, true, false, true, false, false, false, false, false, false, false, false]) [(3, (.pointer (some ⟨b6, 0, none⟩))), (32, v9), (33, (.agg #[(.int .i64 t149), (.int .i64 t150), (.int .i64 t151), (.int .i64 t152)])), (38, (.pointer (some ⟨b1, 0, none⟩))), (36, v159)] [ownCh elInt 3 v159 ([r157, (-1), 1000000, 1000001]), cellCh b1 [v2, (.int .i64 r158)] 122, cellCh b14 [(.int .i64 t149), (.int .i64 t150), (.int .i64 t151), (.int .i64 t152)] 40, ownCh elGFlow 110 v9 r8, cellCh b6 [(.int .i64 0), (.int .i64 0), (.int .i64 0), (.int .i64 0)] 40, snapCh w0 F] (L_spec_l20Rd_pick r_0_b r158 9 (fun (r161, r162) => idxW ([0, 0, 0, 0, 0, 0, 1, 2, 3]) r161 (fun e163 => idxW ([r157, (-1), 1000000, 1000001]) e163 (fun e165 => k156 (r162, e165))))) := by
        intro r157 r158 v159
        refine d_two (i := 5) (j := 7) rfl rfl (by kernel_rfl) ?_ ?_
        · intro o ho; cases ho
          refine o_bsl (enc := encInt) (qs := [(0, (.int .i64 0)), (1, (.int .i64 0)), (2, (.int .i64 0)), (3, (.int .i64 0)), (4, (.int .i64 0)), (5, (.int .i64 0)), (6, (.int .i64 1)), (7, (.int .i64 2)), (8, (.int .i64 3))]) (cells := [(.int .i64 0), (.int .i64 0), (.int .i64 0), (.int .i64 0), (.int .i64 0), (.int .i64 0), (.int .i64 1), (.int .i64 2), (.int .i64 3)]) ([0, 0, 0, 0, 0, 0, 1, 2, 3]) flelInt (by intro ρ h; simp only [List.map_toArray, List.map_cons, List.map_nil, h (.const (.int .i64 0)) _ rfl, h (.const (.int .i64 0)) _ rfl, h (.const (.int .i64 0)) _ rfl, h (.const (.int .i64 0)) _ rfl, h (.const (.int .i64 0)) _ rfl, h (.const (.int .i64 0)) _ rfl, h (.const (.int .i64 1)) _ rfl, h (.const (.int .i64 2)) _ rfl, h (.const (.int .i64 3)) _ rfl]) rfl el99 zero3 rfl rfl rfl rfl rfl rfl ?_; intro v160
          refine d_and (fun w m => m.pick [3, 4, 6] rfl) ?_
          refine pk [0, 1, 2, 3, 4, 5, 6] rfl ?_
          refine re (E' := [(3, (.pointer (some ⟨b6, 0, none⟩))), (32, v9), (33, (.agg #[(.int .i64 t149), (.int .i64 t150), (.int .i64 t151), (.int .i64 t152)])), (38, (.pointer (some ⟨b1, 0, none⟩))), (36, v159), (37, v160)]) ⟨rfl, rfl, rfl, rfl, rfl, rfl, trivial⟩ ?_
          exact H887 r157 r158 v159 v160
        · intro o ho; cases ho
          refine pk [1, 0, 2, 3, 4, 5] rfl ?_
          refine o_call (vs := [(.pointer (some ⟨b1, 0, none⟩)), (.int .i64 9)]) (M0 := [cellCh b1 [v2, (.int .i64 r158)] 122]) Tryd.call68 rfl rfl (by intro w m h; exact (w_spec_l20Rd_pick (F := allB [cellCh b1 [v2, (.int .i64 r158)] 122] w) (r_0_b := r_0_b) (r_0_p := r158) (n_1 := 9) allB_ok m.given (m.rdM 4 rfl (reads_snap hv2)) h).mono (fun _ _ k => ret_free (fun r u => (fr_cons free_cell fr_nil)) k)) ?_; rintro ⟨r171, r172⟩ _
          refine d_and (fun w m => m.pick [2, 3, 5] rfl) ?_
          refine pk [0, 1, 2, 3, 4, 5] rfl ?_
          refine re (E' := [(3, (.pointer (some ⟨b6, 0, none⟩))), (32, v9), (33, (.agg #[(.int .i64 t149), (.int .i64 t150), (.int .i64 t151), (.int .i64 t152)])), (36, v159), (39, (.int .i64 r171))]) ⟨rfl, rfl, rfl, rfl, rfl, trivial⟩ ?_
          exact H890 r157 r158 v159 r171 r172
      have H892 : ∀ (r157 : Int) (r158 : Int) (v177 : Value) (r179 : Int) (r180 : Int) (e182 : Int) (h183 : ([0, 0, 0, 0, 0, 0, 1, 2, 3])[(r179).toNat]? = some e182), Nx 44 (gB F [cellCh b1 [v2, (.int .i64 r_0_p)] 122] w0) (feet [cellCh b1 [v2, (.int .i64 r_0_p)] 122]) w0 (wpAnyH Tryd.prog .any (opsAt Tryd.f71 [1, 1, 1, 1, 0]) Qd (Mem (gB F [cellCh b1 [v2, (.int .i64 r_0_p)] 122] w0) (feet [cellCh b1 [v2, (.int .i64 r_0_p)] 122]) w0 [cellCh b14 [(.int .i64 t149), (.int .i64 t150), (.int .i64 t151), (.int .i64 t152)] 40, ownCh elGFlow 110 v9 r8, snapCh w0 F]) 4 #[true, true, true, true, false, true, true, true, true, true, false, false, true, true, false]) [(3, (.pointer (some ⟨b6, 0, none⟩))), (35, (.int .i64 r157)), (2, v9), (41, (.int .i64 e182))] [cellCh b1 [v2, (.int .i64 r180)] 122, cellCh b14 [(.int .i64 t149), (.int .i64 t150), (.int .i64 t151), (.int .i64 t152)] 40, ownCh elGFlow 110 v9 r8, cellCh b6 [(.int .i64 t149), (.int .i64 t150), (.int .i64 t151), (.int .i64 t152)] 40, snapCh w0 F] (idxW ([r157, (-1), 1000000, 1000001]) e182 (fun e167 => k156 (r180, e167))) := by
        intro r157 r158 v177 r179 r180 e182 h183
        refine d_one (i := 4) rfl (by kernel_rfl) (o_bsl (enc := encInt) (qs := [(0, (.int .i64 r157)), (1, (.int .i64 (-1))), (2, (.int .i64 1000000)), (3, (.int .i64 1000001))]) (cells := [(.int .i64 r157), (.int .i64 (-1)), (.int .i64 1000000), (.int .i64 1000001)]) ([r157, (-1), 1000000, 1000001]) flelInt (by intro ρ h; simp only [List.map_toArray, List.map_cons, List.map_nil, h (.tmp 35) _ rfl, h (.const (.int .i64 (-1))) _ rfl, h (.const (.int .i64 1000000)) _ rfl, h (.const (.int .i64 1000001)) _ rfl]) rfl el99 zero3 rfl rfl rfl rfl rfl rfl ?_); intro v186
        refine d_and (fun w m => m.pick [2, 3, 5] rfl) ?_
        refine pk [1, 0, 2, 3, 4, 5] rfl ?_
        refine re (E' := [(3, (.pointer (some ⟨b6, 0, none⟩))), (36, v186), (2, v9), (41, (.int .i64 e182))]) ⟨rfl, rfl, rfl, rfl, trivial⟩ ?_
        exact H881 r157 r158 v186 v177 r179 r180 e182 h183
      have H893 : ∀ (r157 : Int) (r158 : Int) (v177 : Value) (r179 : Int) (r180 : Int) (e182 : Int) (h183 : ([0, 0, 0, 0, 0, 0, 1, 2, 3])[(r179).toNat]? = some e182), Nx 44 (gB F [cellCh b1 [v2, (.int .i64 r_0_p)] 122] w0) (feet [cellCh b1 [v2, (.int .i64 r_0_p)] 122]) w0 (wpAnyH Tryd.prog .any (opsAt Tryd.f71 [1, 1, 1, 1, 0]) Qd (Mem (gB F [cellCh b1 [v2, (.int .i64 r_0_p)] 122] w0) (feet [cellCh b1 [v2, (.int .i64 r_0_p)] 122]) w0 [cellCh b14 [(.int .i64 t149), (.int .i64 t150), (.int .i64 t151), (.int .i64 t152)] 40, ownCh elGFlow 110 v9 r8, snapCh w0 F]) 5 #[true, true, true, true, false, true, true, true, true, true, false, false, true, false, false]) [(3, (.pointer (some ⟨b6, 0, none⟩))), (33, (.agg #[(.int .i64 t149), (.int .i64 t150), (.int .i64 t151), (.int .i64 t152)])), (35, (.int .i64 r157)), (2, v9), (41, (.int .i64 e182))] [cellCh b1 [v2, (.int .i64 r180)] 122, cellCh b14 [(.int .i64 t149), (.int .i64 t150), (.int .i64 t151), (.int .i64 t152)] 40, ownCh elGFlow 110 v9 r8, cellCh b6 [(.int .i64 0), (.int .i64 0), (.int .i64 0), (.int .i64 0)] 40, snapCh w0 F] (idxW ([r157, (-1), 1000000, 1000001]) e182 (fun e165 => k156 (r180, e165))) := by
        intro r157 r158 v177 r179 r180 e182 h183
        refine d_two (i := 4) (j := 13) rfl rfl (by kernel_rfl) ?_ ?_
        · intro o ho; cases ho
          refine o_bsl (enc := encInt) (qs := [(0, (.int .i64 r157)), (1, (.int .i64 (-1))), (2, (.int .i64 1000000)), (3, (.int .i64 1000001))]) (cells := [(.int .i64 r157), (.int .i64 (-1)), (.int .i64 1000000), (.int .i64 1000001)]) ([r157, (-1), 1000000, 1000001]) flelInt (by intro ρ h; simp only [List.map_toArray, List.map_cons, List.map_nil, h (.tmp 35) _ rfl, h (.const (.int .i64 (-1))) _ rfl, h (.const (.int .i64 1000000)) _ rfl, h (.const (.int .i64 1000001)) _ rfl]) rfl el99 zero3 rfl rfl rfl rfl rfl rfl ?_; intro v185
          refine d_and (fun w m => m.pick [2, 3, 5] rfl) ?_
          refine pk [1, 0, 2, 3, 4, 5] rfl ?_
          refine re (E' := [(3, (.pointer (some ⟨b6, 0, none⟩))), (33, (.agg #[(.int .i64 t149), (.int .i64 t150), (.int .i64 t151), (.int .i64 t152)])), (36, v185), (2, v9), (41, (.int .i64 e182))]) ⟨rfl, rfl, rfl, rfl, rfl, trivial⟩ ?_
          exact H882 r157 r158 v185 v177 r179 r180 e182 h183
        · intro o ho; cases ho
          refine o_stc (cs' := [(.int .i64 t149), (.int .i64 t150), (.int .i64 t151), (.int .i64 t152)]) 3 rfl rfl rfl ty40 rfl rfl rfl rfl ?_
          refine d_and (fun w m => m.pick [1, 2, 4] rfl) ?_
          refine pk [0, 1, 2, 3, 4] rfl ?_
          refine re (E' := [(3, (.pointer (some ⟨b6, 0, none⟩))), (35, (.int .i64 r157)), (2, v9), (41, (.int .i64 e182))]) ⟨rfl, rfl, rfl, rfl, trivial⟩ ?_
          exact H892 r157 r158 v177 r179 r180 e182 h183
      have H894 : ∀ (r157 : Int) (r158 : Int) (v177 : Value) (r179 : Int) (r180 : Int) (e182 : Int) (h183 : ([0, 0, 0, 0, 0, 0, 1, 2, 3])[(r179).toNat]? = some e182), Nx 44 (gB F [cellCh b1 [v2, (.int .i64 r_0_p)] 122] w0) (feet [cellCh b1 [v2, (.int .i64 r_0_p)] 122]) w0 (wpAnyH Tryd.prog .any (opsAt Tryd.f71 [1, 1, 1, 1, 0]) Qd (Mem (gB F [cellCh b1 [v2, (.int .i64 r_0_p)] 122] w0) (feet [cellCh b1 [v2, (.int .i64 r_0_p)] 122]) w0 [cellCh b14 [(.int .i64 t149), (.int .i64 t150), (.int .i64 t151), (.int .i64 t152)] 40, ownCh elGFlow 110 v9 r8, snapCh w0 F]) 5 #[true, true, true, true, false, true, true, true, true, false, false, false, true, true, false]) [(3, (.pointer (some ⟨b6, 0, none⟩))), (35, (.int .i64 r157)), (2, v9), (40, (pEl v177 r179 1 0))] [cellCh b1 [v2, (.int .i64 r180)] 122, ownCh elInt 3 v177 ([0, 0, 0, 0, 0, 0, 1, 2, 3]), cellCh b14 [(.int .i64 t149), (.int .i64 t150), (.int .i64 t151), (.int .i64 t152)] 40, ownCh elGFlow 110 v9 r8, cellCh b6 [(.int .i64 t149), (.int .i64 t150), (.int .i64 t151), (.int .i64 t152)] 40, snapCh w0 F] (idxW ([r157, (-1), 1000000, 1000001]) e182 (fun e167 => k156 (r180, e167))) := by
        intro r157 r158 v177 r179 r180 e182 h183
        refine d_two (i := 4) (j := 9) rfl rfl (by kernel_rfl) ?_ ?_
        · intro o ho; cases ho
          refine o_bsl (enc := encInt) (qs := [(0, (.int .i64 r157)), (1, (.int .i64 (-1))), (2, (.int .i64 1000000)), (3, (.int .i64 1000001))]) (cells := [(.int .i64 r157), (.int .i64 (-1)), (.int .i64 1000000), (.int .i64 1000001)]) ([r157, (-1), 1000000, 1000001]) flelInt (by intro ρ h; simp only [List.map_toArray, List.map_cons, List.map_nil, h (.tmp 35) _ rfl, h (.const (.int .i64 (-1))) _ rfl, h (.const (.int .i64 1000000)) _ rfl, h (.const (.int .i64 1000001)) _ rfl]) rfl el99 zero3 rfl rfl rfl rfl rfl rfl ?_; intro v187
          refine d_and (fun w m => m.pick [3, 4, 6] rfl) ?_
          refine pk [1, 2, 0, 3, 4, 5, 6] rfl ?_
          refine re (E' := [(3, (.pointer (some ⟨b6, 0, none⟩))), (36, v187), (2, v9), (40, (pEl v177 r179 1 0))]) ⟨rfl, rfl, rfl, rfl, trivial⟩ ?_
          exact H883 r157 r158 v187 v177 r179 r180 e182 h183
        · intro o ho; cases ho
          refine o_lds m_op (enc := encInt) (u := (.int .i64 e182)) 1 rfl reads_own flelInt rfl h183 rfl rfl ty3 rfl ?_
          refine d_and (fun w m => m.pick [2, 3, 5] rfl) ?_
          refine pk [0, 2, 3, 4, 5] rfl ?_
          refine re (E' := [(3, (.pointer (some ⟨b6, 0, none⟩))), (35, (.int .i64 r157)), (2, v9), (41, (.int .i64 e182))]) ⟨rfl, rfl, rfl, rfl, trivial⟩ ?_
          exact H892 r157 r158 v177 r179 r180 e182 h183
      have H895 : ∀ (r157 : Int) (r158 : Int) (v177 : Value) (r179 : Int) (r180 : Int) (e182 : Int) (h183 : ([0, 0, 0, 0, 0, 0, 1, 2, 3])[(r179).toNat]? = some e182), Nx 44 (gB F [cellCh b1 [v2, (.int .i64 r_0_p)] 122] w0) (feet [cellCh b1 [v2, (.int .i64 r_0_p)] 122]) w0 (wpAnyH Tryd.prog .any (opsAt Tryd.f71 [1, 1, 1, 1, 0]) Qd (Mem (gB F [cellCh b1 [v2, (.int .i64 r_0_p)] 122] w0) (feet [cellCh b1 [v2, (.int .i64 r_0_p)] 122]) w0 [cellCh b14 [(.int .i64 t149), (.int .i64 t150), (.int .i64 t151), (.int .i64 t152)] 40, ownCh elGFlow 110 v9 r8, snapCh w0 F]) 6 #[true, true, true, true, false, true, true, true, true, false, false, false, true, false, false]) [(3, (.pointer (some ⟨b6, 0, none⟩))), (33, (.agg #[(.int .i64 t149), (.int .i64 t150), (.int .i64 t151), (.int .i64 t152)])), (35, (.int .i64 r157)), (2, v9), (40, (pEl v177 r179 1 0))] [cellCh b1 [v2, (.int .i64 r180)] 122, ownCh elInt 3 v177 ([0, 0, 0, 0, 0, 0, 1, 2, 3]), cellCh b14 [(.int .i64 t149), (.int .i64 t150), (.int .i64 t151), (.int .i64 t152)] 40, ownCh elGFlow 110 v9 r8, cellCh b6 [(.int .i64 0), (.int .i64 0), (.int .i64 0), (.int .i64 0)] 40, snapCh w0 F] (idxW ([r157, (-1), 1000000, 1000001]) e182 (fun e165 => k156 (r180, e165))) := by
        intro r157 r158 v177 r179 r180 e182 h183
        refine d_three (i := 4) (j := 9) (l := 13) rfl rfl rfl (by kernel_rfl) ?_ ?_ ?_
        · intro o ho; cases ho
          refine o_bsl (enc := encInt) (qs := [(0, (.int .i64 r157)), (1, (.int .i64 (-1))), (2, (.int .i64 1000000)), (3, (.int .i64 1000001))]) (cells := [(.int .i64 r157), (.int .i64 (-1)), (.int .i64 1000000), (.int .i64 1000001)]) ([r157, (-1), 1000000, 1000001]) flelInt (by intro ρ h; simp only [List.map_toArray, List.map_cons, List.map_nil, h (.tmp 35) _ rfl, h (.const (.int .i64 (-1))) _ rfl, h (.const (.int .i64 1000000)) _ rfl, h (.const (.int .i64 1000001)) _ rfl]) rfl el99 zero3 rfl rfl rfl rfl rfl rfl ?_; intro v184
          refine d_and (fun w m => m.pick [3, 4, 6] rfl) ?_
          refine pk [1, 2, 0, 3, 4, 5, 6] rfl ?_
          refine re (E' := [(3, (.pointer (some ⟨b6, 0, none⟩))), (33, (.agg #[(.int .i64 t149), (.int .i64 t150), (.int .i64 t151), (.int .i64 t152)])), (36, v184), (2, v9), (40, (pEl v177 r179 1 0))]) ⟨rfl, rfl, rfl, rfl, rfl, trivial⟩ ?_
          exact H884 r157 r158 v184 v177 r179 r180 e182 h183
        · intro o ho; cases ho
          refine o_lds m_op (enc := encInt) (u := (.int .i64 e182)) 1 rfl reads_own flelInt rfl h183 rfl rfl ty3 rfl ?_
          refine d_and (fun w m => m.pick [2, 3, 5] rfl) ?_
          refine pk [0, 2, 3, 4, 5] rfl ?_
          refine re (E' := [(3, (.pointer (some ⟨b6, 0, none⟩))), (33, (.agg #[(.int .i64 t149), (.int .i64 t150), (.int .i64 t151), (.int .i64 t152)])), (35, (.int .i64 r157)), (2, v9), (41, (.int .i64 e182))]) ⟨rfl, rfl, rfl, rfl, rfl, trivial⟩ ?_
          exact H893 r157 r158 v177 r179 r180 e182 h183
        · intro o ho; cases ho
          refine o_stc (cs' := [(.int .i64 t149), (.int .i64 t150), (.int .i64 t151), (.int .i64 t152)]) 4 rfl rfl rfl ty40 rfl rfl rfl rfl ?_
          refine d_and (fun w m => m.pick [2, 3, 5] rfl) ?_
          refine pk [0, 1, 2, 3, 4, 5] rfl ?_
          refine re (E' := [(3, (.pointer (some ⟨b6, 0, none⟩))), (35, (.int .i64 r157)), (2, v9), (40, (pEl v177 r179 1 0))]) ⟨rfl, rfl, rfl, rfl, trivial⟩ ?_
          exact H894 r157 r158 v177 r179 r180 e182 h183
      have H896 : ∀ (r157 : Int) (r158 : Int) (v177 : Value) (r179 : Int) (r180 : Int), Nx 44 (gB F [cellCh b1 [v2, (.int .i64 r_0_p)] 122] w0) (feet [cellCh b1 [v2, (.int .i64 r_0_p)] 122]) w0 (wpAnyH Tryd.prog .any (opsAt Tryd.f71 [1, 1, 1, 1, 0]) Qd (Mem (gB F [cellCh b1 [v2, (.int .i64 r_0_p)] 122] w0) (feet [cellCh b1 [v2, (.int .i64 r_0_p)] 122]) w0 [cellCh b14 [(.int .i64 t149), (.int .i64 t150), (.int .i64 t151), (.int .i64 t152)] 40, ownCh elGFlow 110 v9 r8, snapCh w0 F]) 6 #[true, true, true, true, false, true, true, true, false, false, false, false, true, true, false]) [(3, (.pointer (some ⟨b6, 0, none⟩))), (35, (.int .i64 r157)), (37, v177), (39, (.int .i64 r179)), (2, v9)] [cellCh b1 [v2, (.int .i64 r180)] 122, ownCh elInt 3 v177 ([0, 0, 0, 0, 0, 0, 1, 2, 3]), cellCh b14 [(.int .i64 t149), (.int .i64 t150), (.int .i64 t151), (.int .i64 t152)] 40, ownCh elGFlow 110 v9 r8, cellCh b6 [(.int .i64 t149), (.int .i64 t150), (.int .i64 t151), (.int .i64 t152)] 40, snapCh w0 F] (idxW ([0, 0, 0, 0, 0, 0, 1, 2, 3]) r179 (fun e169 => idxW ([r157, (-1), 1000000, 1000001]) e169 (fun e167 => k156 (r180, e167)))) := by
        intro r157 r158 v177 r179 r180
        refine d_two (i := 4) (j := 8) rfl rfl (by kernel_rfl) ?_ ?_
        · intro o ho; cases ho
          refine o_bsl (enc := encInt) (qs := [(0, (.int .i64 r157)), (1, (.int .i64 (-1))), (2, (.int .i64 1000000)), (3, (.int .i64 1000001))]) (cells := [(.int .i64 r157), (.int .i64 (-1)), (.int .i64 1000000), (.int .i64 1000001)]) ([r157, (-1), 1000000, 1000001]) flelInt (by intro ρ h; simp only [List.map_toArray, List.map_cons, List.map_nil, h (.tmp 35) _ rfl, h (.const (.int .i64 (-1))) _ rfl, h (.const (.int .i64 1000000)) _ rfl, h (.const (.int .i64 1000001)) _ rfl]) rfl el99 zero3 rfl rfl rfl rfl rfl rfl ?_; intro v188
          refine d_and (fun w m => m.pick [3, 4, 6] rfl) ?_
          refine pk [1, 2, 0, 3, 4, 5, 6] rfl ?_
          refine re (E' := [(3, (.pointer (some ⟨b6, 0, none⟩))), (36, v188), (37, v177), (39, (.int .i64 r179)), (2, v9)]) ⟨rfl, rfl, rfl, rfl, rfl, trivial⟩ ?_
          exact H885 r157 r158 v188 v177 r179 r180
        · intro o ho; cases ho
          refine o_idx m_op 1 rfl reads_own rfl rfl rfl el99 ?_; intro e189 h190
          refine d_and (fun w m => m.pick [2, 3, 5] rfl) ?_
          refine pk [0, 1, 2, 3, 4, 5] rfl ?_
          refine re (E' := [(3, (.pointer (some ⟨b6, 0, none⟩))), (35, (.int .i64 r157)), (2, v9), (40, (pEl v177 r179 1 0))]) ⟨rfl, rfl, rfl, rfl, trivial⟩ ?_
          exact H894 r157 r158 v177 r179 r180 e189 h190
      have H897 : ∀ (r157 : Int) (r158 : Int) (v177 : Value) (r179 : Int) (r180 : Int), Nx 44 (gB F [cellCh b1 [v2, (.int .i64 r_0_p)] 122] w0) (feet [cellCh b1 [v2, (.int .i64 r_0_p)] 122]) w0 (wpAnyH Tryd.prog .any (opsAt Tryd.f71 [1, 1, 1, 1, 0]) Qd (Mem (gB F [cellCh b1 [v2, (.int .i64 r_0_p)] 122] w0) (feet [cellCh b1 [v2, (.int .i64 r_0_p)] 122]) w0 [cellCh b14 [(.int .i64 t149), (.int .i64 t150), (.int .i64 t151), (.int .i64 t152)] 40, ownCh elGFlow 110 v9 r8, snapCh w0 F]) 8 #[true, true, true, true, false, true, true, true, false, false, false, false, false, false, false]) [(3, (.pointer (some ⟨b6, 0, none⟩))), (32, v9), (33, (.agg #[(.int .i64 t149), (.int .i64 t150), (.int .i64 t151), (.int .i64 t152)])), (35, (.int .i64 r157)), (37, v177), (39, (.int .i64 r179))] [cellCh b1 [v2, (.int .i64 r180)] 122, ownCh elInt 3 v177 ([0, 0, 0, 0, 0, 0, 1, 2, 3]), cellCh b14 [(.int .i64 t149), (.int .i64 t150), (.int .i64 t151), (.int .i64 t152)] 40, ownCh elGFlow 110 v9 r8, cellCh b6 [(.int .i64 0), (.int .i64 0), (.int .i64 0), (.int .i64 0)] 40, snapCh w0 F] (idxW ([0, 0, 0, 0, 0, 0, 1, 2, 3]) r179 (fun e174 => idxW ([r157, (-1), 1000000, 1000001]) e174 (fun e165 => k156 (r180, e165)))) := by
        intro r157 r158 v177 r179 r180
        refine o_as (dt 12 (fun w m => m.pick [2, 3, 5] rfl)) rfl rfl ?_
        refine d_three (i := 4) (j := 8) (l := 13) rfl rfl rfl (by kernel_rfl) ?_ ?_ ?_
        · intro o ho; cases ho
          refine o_bsl (enc := encInt) (qs := [(0, (.int .i64 r157)), (1, (.int .i64 (-1))), (2, (.int .i64 1000000)), (3, (.int .i64 1000001))]) (cells := [(.int .i64 r157), (.int .i64 (-1)), (.int .i64 1000000), (.int .i64 1000001)]) ([r157, (-1), 1000000, 1000001]) flelInt (by intro ρ h; simp only [List.map_toArray, List.map_cons, List.map_nil, h (.tmp 35) _ rfl, h (.const (.int .i64 (-1))) _ rfl, h (.const (.int .i64 1000000)) _ rfl, h (.const (.int .i64 1000001)) _ rfl]) rfl el99 zero3 rfl rfl rfl rfl rfl rfl ?_; intro v181
          refine d_and (fun w m => m.pick [3, 4, 6] rfl) ?_
          refine pk [2, 1, 0, 3, 4, 5, 6] rfl ?_
          refine re (E' := [(3, (.pointer (some ⟨b6, 0, none⟩))), (33, (.agg #[(.int .i64 t149), (.int .i64 t150), (.int .i64 t151), (.int .i64 t152)])), (36, v181), (39, (.int .i64 r179)), (2, v9), (37, v177)]) ⟨rfl, rfl, rfl, rfl, rfl, rfl, trivial⟩ ?_
          exact H888 r157 r158 v181 r179 r180 v177
        · intro o ho; cases ho
          refine o_idx m_op 1 rfl reads_own rfl rfl rfl el99 ?_; intro e182 h183
          refine d_and (fun w m => m.pick [2, 3, 5] rfl) ?_
          refine pk [0, 1, 2, 3, 4, 5] rfl ?_
          refine re (E' := [(3, (.pointer (some ⟨b6, 0, none⟩))), (33, (.agg #[(.int .i64 t149), (.int .i64 t150), (.int .i64 t151), (.int .i64 t152)])), (35, (.int .i64 r157)), (2, v9), (40, (pEl v177 r179 1 0))]) ⟨rfl, rfl, rfl, rfl, rfl, trivial⟩ ?_
          exact H895 r157 r158 v177 r179 r180 e182 h183
        · intro o ho; cases ho
          refine o_stc (cs' := [(.int .i64 t149), (.int .i64 t150), (.int .i64 t151), (.int .i64 t152)]) 4 rfl rfl rfl ty40 rfl rfl rfl rfl ?_
          refine d_and (fun w m => m.pick [2, 3, 5] rfl) ?_
          refine pk [0, 1, 2, 3, 4, 5] rfl ?_
          refine re (E' := [(3, (.pointer (some ⟨b6, 0, none⟩))), (35, (.int .i64 r157)), (37, v177), (39, (.int .i64 r179)), (2, v9)]) ⟨rfl, rfl, rfl, rfl, rfl, trivial⟩ ?_
          exact H896 r157 r158 v177 r179 r180
      have H898 : ∀ (r157 : Int) (r158 : Int) (v177 : Value), Nx 44 (gB F [cellCh b1 [v2, (.int .i64 r_0_p)] 122] w0) (feet [cellCh b1 [v2, (.int .i64 r_0_p)] 122]) w0 (wpAnyH Tryd.prog .any (opsAt Tryd.f71 [1, 1, 1, 1, 0]) Qd (Mem (gB F [cellCh b1 [v2, (.int .i64 r_0_p)] 122] w0) (feet [cellCh b1 [v2, (.int .i64 r_0_p)] 122]) w0 [cellCh b14 [(.int .i64 t149), (.int .i64 t150), (.int .i64 t151), (.int .i64 t152)] 40, ownCh elGFlow 110 v9 r8, snapCh w0 F]) 9 #[true, true, true, true, false, true, true, false, false, false, false, false, false, false, false]) [(3, (.pointer (some ⟨b6, 0, none⟩))), (32, v9), (33, (.agg #[(.int .i64 t149), (.int .i64 t150), (.int .i64 t151), (.int .i64 t152)])), (38, (.pointer (some ⟨b1, 0, none⟩))), (35, (.int .i64 r157)), (37, v177)] [ownCh elInt 3 v177 ([0, 0, 0, 0, 0, 0, 1, 2, 3]), cellCh b1 [v2, (.int .i64 r158)] 122, cellCh b14 [(.int .i64 t149), (.int .i64 t150), (.int .i64 t151), (.int .i64 t152)] 40, ownCh elGFlow 110 v9 r8, cellCh b6 [(.int .i64 0), (.int .i64 0), (.int .i64 0), (.int .i64 0)] 40, snapCh w0 F] (L_spec_l20Rd_pick r_0_b r158 9 (fun (r161, r162) => idxW ([0, 0, 0, 0, 0, 0, 1, 2, 3]) r161 (fun e163 => idxW ([r157, (-1), 1000000, 1000001]) e163 (fun e165 => k156 (r162, e165))))) := by
        intro r157 r158 v177
        refine d_two (i := 4) (j := 7) rfl rfl (by kernel_rfl) ?_ ?_
        · intro o ho; cases ho
          refine o_bsl (enc := encInt) (qs := [(0, (.int .i64 r157)), (1, (.int .i64 (-1))), (2, (.int .i64 1000000)), (3, (.int .i64 1000001))]) (cells := [(.int .i64 r157), (.int .i64 (-1)), (.int .i64 1000000), (.int .i64 1000001)]) ([r157, (-1), 1000000, 1000001]) flelInt (by intro ρ h; simp only [List.map_toArray, List.map_cons, List.map_nil, h (.tmp 35) _ rfl, h (.const (.int .i64 (-1))) _ rfl, h (.const (.int .i64 1000000)) _ rfl, h (.const (.int .i64 1000001)) _ rfl]) rfl el99 zero3 rfl rfl rfl rfl rfl rfl ?_; intro v178
          refine d_and (fun w m => m.pick [3, 4, 6] rfl) ?_
          refine pk [1, 0, 2, 3, 4, 5, 6] rfl ?_
          refine re (E' := [(3, (.pointer (some ⟨b6, 0, none⟩))), (32, v9), (33, (.agg #[(.int .i64 t149), (.int .i64 t150), (.int .i64 t151), (.int .i64 t152)])), (38, (.pointer (some ⟨b1, 0, none⟩))), (36, v178), (37, v177)]) ⟨rfl, rfl, rfl, rfl, rfl, rfl, trivial⟩ ?_
          exact H887 r157 r158 v178 v177
        · intro o ho; cases ho
          refine pk [1, 0, 2, 3, 4, 5] rfl ?_
          refine o_call (vs := [(.pointer (some ⟨b1, 0, none⟩)), (.int .i64 9)]) (M0 := [cellCh b1 [v2, (.int .i64 r158)] 122]) Tryd.call68 rfl rfl (by intro w m h; exact (w_spec_l20Rd_pick (F := allB [cellCh b1 [v2, (.int .i64 r158)] 122] w) (r_0_b := r_0_b) (r_0_p := r158) (n_1 := 9) allB_ok m.given (m.rdM 4 rfl (reads_snap hv2)) h).mono (fun _ _ k => ret_free (fun r u => (fr_cons free_cell fr_nil)) k)) ?_; rintro ⟨r179, r180⟩ _
          refine d_and (fun w m => m.pick [2, 3, 5] rfl) ?_
          refine pk [0, 1, 2, 3, 4, 5] rfl ?_
          refine re (E' := [(3, (.pointer (some ⟨b6, 0, none⟩))), (32, v9), (33, (.agg #[(.int .i64 t149), (.int .i64 t150), (.int .i64 t151), (.int .i64 t152)])), (35, (.int .i64 r157)), (37, v177), (39, (.int .i64 r179))]) ⟨rfl, rfl, rfl, rfl, rfl, rfl, trivial⟩ ?_
          exact H897 r157 r158 v177 r179 r180
      have H899 : ∀ (r157 : Int) (r158 : Int) (r191 : Int) (r192 : Int) (v193 : Value), Nx 44 (gB F [cellCh b1 [v2, (.int .i64 r_0_p)] 122] w0) (feet [cellCh b1 [v2, (.int .i64 r_0_p)] 122]) w0 (wpAnyH Tryd.prog .any (opsAt Tryd.f71 [1, 1, 1, 1, 0]) Qd (Mem (gB F [cellCh b1 [v2, (.int .i64 r_0_p)] 122] w0) (feet [cellCh b1 [v2, (.int .i64 r_0_p)] 122]) w0 [cellCh b14 [(.int .i64 t149), (.int .i64 t150), (.int .i64 t151), (.int .i64 t152)] 40, ownCh elGFlow 110 v9 r8, snapCh w0 F]) 7 #[true, true, true, true, true, false, true, true, false, false, false, false, true, false, false]) [(3, (.pointer (some ⟨b6, 0, none⟩))), (33, (.agg #[(.int .i64 t149), (.int .i64 t150), (.int .i64 t151), (.int .i64 t152)])), (39, (.int .i64 r191)), (2, v9), (36, v193)] [ownCh elInt 3 v193 ([r157, (-1), 1000000, 1000001]), cellCh b1 [v2, (.int .i64 r192)] 122, cellCh b14 [(.int .i64 t149), (.int .i64 t150), (.int .i64 t151), (.int .i64 t152)] 40, ownCh elGFlow 110 v9 r8, cellCh b6 [(.int .i64 0), (.int .i64 0), (.int .i64 0), (.int .i64 0)] 40, snapCh w0 F] (idxW ([0, 0, 0, 0, 0, 0, 1, 2, 3]) r191 (fun e174 => idxW ([r157, (-1), 1000000, 1000001]) e174 (fun e165 => k156 (r192, e165)))) := by
        intro r157 r158 r191 r192 v193
        refine d_two (i := 5) (j := 13) rfl rfl (by kernel_rfl) ?_ ?_
        · intro o ho; cases ho
          refine o_bsl (enc := encInt) (qs := [(0, (.int .i64 0)), (1, (.int .i64 0)), (2, (.int .i64 0)), (3, (.int .i64 0)), (4, (.int .i64 0)), (5, (.int .i64 0)), (6, (.int .i64 1)), (7, (.int .i64 2)), (8, (.int .i64 3))]) (cells := [(.int .i64 0), (.int .i64 0), (.int .i64 0), (.int .i64 0), (.int .i64 0), (.int .i64 0), (.int .i64 1), (.int .i64 2), (.int .i64 3)]) ([0, 0, 0, 0, 0, 0, 1, 2, 3]) flelInt (by intro ρ h; simp only [List.map_toArray, List.map_cons, List.map_nil, h (.const (.int .i64 0)) _ rfl, h (.const (.int .i64 0)) _ rfl, h (.const (.int .i64 0)) _ rfl, h (.const (.int .i64 0)) _ rfl, h (.const (.int .i64 0)) _ rfl, h (.const (.int .i64 0)) _ rfl, h (.const (.int .i64 1)) _ rfl, h (.const (.int .i64 2)) _ rfl, h (.const (.int .i64 3)) _ rfl]) rfl el99 zero3 rfl rfl rfl rfl rfl rfl ?_; intro v194
          refine d_and (fun w m => m.pick [3, 4, 6] rfl) ?_
          refine pk [0, 2, 1, 3, 4, 5, 6] rfl ?_
          refine re (E' := [(3, (.pointer (some ⟨b6, 0, none⟩))), (33, (.agg #[(.int .i64 t149), (.int .i64 t150), (.int .i64 t151), (.int .i64 t152)])), (36, v193), (39, (.int .i64 r191)), (2, v9), (37, v194)]) ⟨rfl, rfl, rfl, rfl, rfl, rfl, trivial⟩ ?_
          exact H888 r157 r158 v193 r191 r192 v194
        · intro o ho; cases ho
          refine o_stc (cs' := [(.int .i64 t149), (.int .i64 t150), (.int .i64 t151), (.int .i64 t152)]) 4 rfl rfl rfl ty40 rfl rfl rfl rfl ?_
          refine d_and (fun w m => m.pick [2, 3, 5] rfl) ?_
          refine pk [1, 0, 2, 3, 4, 5] rfl ?_
          refine re (E' := [(3, (.pointer (some ⟨b6, 0, none⟩))), (36, v193), (39, (.int .i64 r191)), (2, v9)]) ⟨rfl, rfl, rfl, rfl, trivial⟩ ?_
          exact H889 r157 r158 v193 r191 r192
      have H900 : ∀ (r157 : Int) (r158 : Int) (r191 : Int) (r192 : Int) (v195 : Value), Nx 44 (gB F [cellCh b1 [v2, (.int .i64 r_0_p)] 122] w0) (feet [cellCh b1 [v2, (.int .i64 r_0_p)] 122]) w0 (wpAnyH Tryd.prog .any (opsAt Tryd.f71 [1, 1, 1, 1, 0]) Qd (Mem (gB F [cellCh b1 [v2, (.int .i64 r_0_p)] 122] w0) (feet [cellCh b1 [v2, (.int .i64 r_0_p)] 122]) w0 [cellCh b14 [(.int .i64 t149), (.int .i64 t150), (.int .i64 t151), (.int .i64 t152)] 40, ownCh elGFlow 110 v9 r8, snapCh w0 F]) 7 #[true, true, true, true, false, true, true, true, false, false, false, false, true, false, false]) [(3, (.pointer (some ⟨b6, 0, none⟩))), (33, (.agg #[(.int .i64 t149), (.int .i64 t150), (.int .i64 t151), (.int .i64 t152)])), (35, (.int .i64 r157)), (39, (.int .i64 r191)), (2, v9), (37, v195)] [ownCh elInt 3 v195 ([0, 0, 0, 0, 0, 0, 1, 2, 3]), cellCh b1 [v2, (.int .i64 r192)] 122, cellCh b14 [(.int .i64 t149), (.int .i64 t150), (.int .i64 t151), (.int .i64 t152)] 40, ownCh elGFlow 110 v9 r8, cellCh b6 [(.int .i64 0), (.int .i64 0), (.int .i64 0), (.int .i64 0)] 40, snapCh w0 F] (idxW ([0, 0, 0, 0, 0, 0, 1, 2, 3]) r191 (fun e174 => idxW ([r157, (-1), 1000000, 1000001]) e174 (fun e165 => k156 (r192, e165)))) := by
        intro r157 r158 r191 r192 v195
        refine d_three (i := 4) (j := 8) (l := 13) rfl rfl rfl (by kernel_rfl) ?_ ?_ ?_
        · intro o ho; cases ho
          refine o_bsl (enc := encInt) (qs := [(0, (.int .i64 r157)), (1, (.int .i64 (-1))), (2, (.int .i64 1000000)), (3, (.int .i64 1000001))]) (cells := [(.int .i64 r157), (.int .i64 (-1)), (.int .i64 1000000), (.int .i64 1000001)]) ([r157, (-1), 1000000, 1000001]) flelInt (by intro ρ h; simp only [List.map_toArray, List.map_cons, List.map_nil, h (.tmp 35) _ rfl, h (.const (.int .i64 (-1))) _ rfl, h (.const (.int .i64 1000000)) _ rfl, h (.const (.int .i64 1000001)) _ rfl]) rfl el99 zero3 rfl rfl rfl rfl rfl rfl ?_; intro v196
          refine d_and (fun w m => m.pick [3, 4, 6] rfl) ?_
          refine pk [1, 2, 0, 3, 4, 5, 6] rfl ?_
          refine re (E' := [(3, (.pointer (some ⟨b6, 0, none⟩))), (33, (.agg #[(.int .i64 t149), (.int .i64 t150), (.int .i64 t151), (.int .i64 t152)])), (36, v196), (39, (.int .i64 r191)), (2, v9), (37, v195)]) ⟨rfl, rfl, rfl, rfl, rfl, rfl, trivial⟩ ?_
          exact H888 r157 r158 v196 r191 r192 v195
        · intro o ho; cases ho
          refine o_idx m_op 0 rfl reads_own rfl rfl rfl el99 ?_; intro e197 h198
          refine d_and (fun w m => m.pick [2, 3, 5] rfl) ?_
          refine pk [1, 0, 2, 3, 4, 5] rfl ?_
          refine re (E' := [(3, (.pointer (some ⟨b6, 0, none⟩))), (33, (.agg #[(.int .i64 t149), (.int .i64 t150), (.int .i64 t151), (.int .i64 t152)])), (35, (.int .i64 r157)), (2, v9), (40, (pEl v195 r191 1 0))]) ⟨rfl, rfl, rfl, rfl, rfl, trivial⟩ ?_
          exact H895 r157 r158 v195 r191 r192 e197 h198
        · intro o ho; cases ho
          refine o_stc (cs' := [(.int .i64 t149), (.int .i64 t150), (.int .i64 t151), (.int .i64 t152)]) 4 rfl rfl rfl ty40 rfl rfl rfl rfl ?_
          refine d_and (fun w m => m.pick [2, 3, 5] rfl) ?_
          refine pk [1, 0, 2, 3, 4, 5] rfl ?_
          refine re (E' := [(3, (.pointer (some ⟨b6, 0, none⟩))), (35, (.int .i64 r157)), (37, v195), (39, (.int .i64 r191)), (2, v9)]) ⟨rfl, rfl, rfl, rfl, rfl, trivial⟩ ?_
          exact H896 r157 r158 v195 r191 r192
      have H901 : ∀ (r157 : Int) (r158 : Int) (r191 : Int) (r192 : Int), Nx 44 (gB F [cellCh b1 [v2, (.int .i64 r_0_p)] 122] w0) (feet [cellCh b1 [v2, (.int .i64 r_0_p)] 122]) w0 (wpAnyH Tryd.prog .any (opsAt Tryd.f71 [1, 1, 1, 1, 0]) Qd (Mem (gB F [cellCh b1 [v2, (.int .i64 r_0_p)] 122] w0) (feet [cellCh b1 [v2, (.int .i64 r_0_p)] 122]) w0 [cellCh b14 [(.int .i64 t149), (.int .i64 t150), (.int .i64 t151), (.int .i64 t152)] 40, ownCh elGFlow 110 v9 r8, snapCh w0 F]) 7 #[true, true, true, true, false, false, true, true, false, false, false, false, true, true, false]) [(3, (.pointer (some ⟨b6, 0, none⟩))), (35, (.int .i64 r157)), (39, (.int .i64 r191)), (2, v9)] [cellCh b1 [v2, (.int .i64 r192)] 122, cellCh b14 [(.int .i64 t149), (.int .i64 t150), (.int .i64 t151), (.int .i64 t152)] 40, ownCh elGFlow 110 v9 r8, cellCh b6 [(.int .i64 t149), (.int .i64 t150), (.int .i64 t151), (.int .i64 t152)] 40, snapCh w0 F] (idxW ([0, 0, 0, 0, 0, 0, 1, 2, 3]) r191 (fun e169 => idxW ([r157, (-1), 1000000, 1000001]) e169 (fun e167 => k156 (r192, e167)))) := by
        intro r157 r158 r191 r192
        refine d_two (i := 4) (j := 5) rfl rfl (by kernel_rfl) ?_ ?_
        · intro o ho; cases ho
          refine o_bsl (enc := encInt) (qs := [(0, (.int .i64 r157)), (1, (.int .i64 (-1))), (2, (.int .i64 1000000)), (3, (.int .i64 1000001))]) (cells := [(.int .i64 r157), (.int .i64 (-1)), (.int .i64 1000000), (.int .i64 1000001)]) ([r157, (-1), 1000000, 1000001]) flelInt (by intro ρ h; simp only [List.map_toArray, List.map_cons, List.map_nil, h (.tmp 35) _ rfl, h (.const (.int .i64 (-1))) _ rfl, h (.const (.int .i64 1000000)) _ rfl, h (.const (.int .i64 1000001)) _ rfl]) rfl el99 zero3 rfl rfl rfl rfl rfl rfl ?_; intro v199
          refine d_and (fun w m => m.pick [2, 3, 5] rfl) ?_
          refine pk [1, 0, 2, 3, 4, 5] rfl ?_
          refine re (E' := [(3, (.pointer (some ⟨b6, 0, none⟩))), (36, v199), (39, (.int .i64 r191)), (2, v9)]) ⟨rfl, rfl, rfl, rfl, trivial⟩ ?_
          exact H889 r157 r158 v199 r191 r192
        · intro o ho; cases ho
          refine o_bsl (enc := encInt) (qs := [(0, (.int .i64 0)), (1, (.int .i64 0)), (2, (.int .i64 0)), (3, (.int .i64 0)), (4, (.int .i64 0)), (5, (.int .i64 0)), (6, (.int .i64 1)), (7, (.int .i64 2)), (8, (.int .i64 3))]) (cells := [(.int .i64 0), (.int .i64 0), (.int .i64 0), (.int .i64 0), (.int .i64 0), (.int .i64 0), (.int .i64 1), (.int .i64 2), (.int .i64 3)]) ([0, 0, 0, 0, 0, 0, 1, 2, 3]) flelInt (by intro ρ h; simp only [List.map_toArray, List.map_cons, List.map_nil, h (.const (.int .i64 0)) _ rfl, h (.const (.int .i64 0)) _ rfl, h (.const (.int .i64 0)) _ rfl, h (.const (.int .i64 0)) _ rfl, h (.const (.int .i64 0)) _ rfl, h (.const (.int .i64 0)) _ rfl, h (.const (.int .i64 1)) _ rfl, h (.const (.int .i64 2)) _ rfl, h (.const (.int .i64 3)) _ rfl]) rfl el99 zero3 rfl rfl rfl rfl rfl rfl ?_; intro v200
          refine d_and (fun w m => m.pick [2, 3, 5] rfl) ?_
          refine pk [1, 0, 2, 3, 4, 5] rfl ?_
          refine re (E' := [(3, (.pointer (some ⟨b6, 0, none⟩))), (35, (.int .i64 r157)), (37, v200), (39, (.int .i64 r191)), (2, v9)]) ⟨rfl, rfl, rfl, rfl, rfl, trivial⟩ ?_
          exact H896 r157 r158 v200 r191 r192
      have H902 : ∀ (r157 : Int) (r158 : Int) (r191 : Int) (r192 : Int), Nx 44 (gB F [cellCh b1 [v2, (.int .i64 r_0_p)] 122] w0) (feet [cellCh b1 [v2, (.int .i64 r_0_p)] 122]) w0 (wpAnyH Tryd.prog .any (opsAt Tryd.f71 [1, 1, 1, 1, 0]) Qd (Mem (gB F [cellCh b1 [v2, (.int .i64 r_0_p)] 122] w0) (feet [cellCh b1 [v2, (.int .i64 r_0_p)] 122]) w0 [cellCh b14 [(.int .i64 t149), (.int .i64 t150), (.int .i64 t151), (.int .i64 t152)] 40, ownCh elGFlow 110 v9 r8, snapCh w0 F]) 9 #[true, true, true, true, false, false, true, true, false, false, false, false, false, false, false]) [(3, (.pointer (some ⟨b6, 0, none⟩))), (32, v9), (33, (.agg #[(.int .i64 t149), (.int .i64 t150), (.int .i64 t151), (.int .i64 t152)])), (35, (.int .i64 r157)), (39, (.int .i64 r191))] [cellCh b1 [v2, (.int .i64 r192)] 122, cellCh b14 [(.int .i64 t149), (.int .i64 t150), (.int .i64 t151), (.int .i64 t152)] 40, ownCh elGFlow 110 v9 r8, cellCh b6 [(.int .i64 0), (.int .i64 0), (.int .i64 0), (.int .i64 0)] 40, snapCh w0 F] (idxW ([0, 0, 0, 0, 0, 0, 1, 2, 3]) r191 (fun e174 => idxW ([r157, (-1), 1000000, 1000001]) e174 (fun e165 => k156 (r192, e165)))) := by
        intro r157 r158 r191 r192
        refine o_as (dt 12 (fun w m => m.pick [1, 2, 4] rfl)) rfl rfl ?_
        refine d_three (i := 4) (j := 5) (l := 13) rfl rfl rfl (by kernel_rfl) ?_ ?_ ?_
        · intro o ho; cases ho
          refine o_bsl (enc := encInt) (qs := [(0, (.int .i64 r157)), (1, (.int .i64 (-1))), (2, (.int .i64 1000000)), (3, (.int .i64 1000001))]) (cells := [(.int .i64 r157), (.int .i64 (-1)), (.int .i64 1000000), (.int .i64 1000001)]) ([r157, (-1), 1000000, 1000001]) flelInt (by intro ρ h; simp only [List.map_toArray, List.map_cons, List.map_nil, h (.tmp 35) _ rfl, h (.const (.int .i64 (-1))) _ rfl, h (.const (.int .i64 1000000)) _ rfl, h (.const (.int .i64 1000001)) _ rfl]) rfl el99 zero3 rfl rfl rfl rfl rfl rfl ?_; intro v193
          refine d_and (fun w m => m.pick [2, 3, 5] rfl) ?_
          refine pk [0, 1, 2, 3, 4, 5] rfl ?_
          refine re (E' := [(3, (.pointer (some ⟨b6, 0, none⟩))), (33, (.agg #[(.int .i64 t149), (.int .i64 t150), (.int .i64 t151), (.int .i64 t152)])), (39, (.int .i64 r191)), (2, v9), (36, v193)]) ⟨rfl, rfl, rfl, rfl, rfl, trivial⟩ ?_
          exact H899 r157 r158 r191 r192 v193
        · intro o ho; cases ho
          refine o_bsl (enc := encInt) (qs := [(0, (.int .i64 0)), (1, (.int .i64 0)), (2, (.int .i64 0)), (3, (.int .i64 0)), (4, (.int .i64 0)), (5, (.int .i64 0)), (6, (.int .i64 1)), (7, (.int .i64 2)), (8, (.int .i64 3))]) (cells := [(.int .i64 0), (.int .i64 0), (.int .i64 0), (.int .i64 0), (.int .i64 0), (.int .i64 0), (.int .i64 1), (.int .i64 2), (.int .i64 3)]) ([0, 0, 0, 0, 0, 0, 1, 2, 3]) flelInt (by intro ρ h; simp only [List.map_toArray, List.map_cons, List.map_nil, h (.const (.int .i64 0)) _ rfl, h (.const (.int .i64 0)) _ rfl, h (.const (.int .i64 0)) _ rfl, h (.const (.int .i64 0)) _ rfl, h (.const (.int .i64 0)) _ rfl, h (.const (.int .i64 0)) _ rfl, h (.const (.int .i64 1)) _ rfl, h (.const (.int .i64 2)) _ rfl, h (.const (.int .i64 3)) _ rfl]) rfl el99 zero3 rfl rfl rfl rfl rfl rfl ?_; intro v195
          refine d_and (fun w m => m.pick [2, 3, 5] rfl) ?_
          refine pk [0, 1, 2, 3, 4, 5] rfl ?_
          refine re (E' := [(3, (.pointer (some ⟨b6, 0, none⟩))), (33, (.agg #[(.int .i64 t149), (.int .i64 t150), (.int .i64 t151), (.int .i64 t152)])), (35, (.int .i64 r157)), (39, (.int .i64 r191)), (2, v9), (37, v195)]) ⟨rfl, rfl, rfl, rfl, rfl, rfl, trivial⟩ ?_
          exact H900 r157 r158 r191 r192 v195
        · intro o ho; cases ho
          refine o_stc (cs' := [(.int .i64 t149), (.int .i64 t150), (.int .i64 t151), (.int .i64 t152)]) 3 rfl rfl rfl ty40 rfl rfl rfl rfl ?_
          refine d_and (fun w m => m.pick [1, 2, 4] rfl) ?_
          refine pk [0, 1, 2, 3, 4] rfl ?_
          refine re (E' := [(3, (.pointer (some ⟨b6, 0, none⟩))), (35, (.int .i64 r157)), (39, (.int .i64 r191)), (2, v9)]) ⟨rfl, rfl, rfl, rfl, trivial⟩ ?_
          exact H901 r157 r158 r191 r192
      have H903 : ∀ (r157 : Int) (r158 : Int), Nx 44 (gB F [cellCh b1 [v2, (.int .i64 r_0_p)] 122] w0) (feet [cellCh b1 [v2, (.int .i64 r_0_p)] 122]) w0 (wpAnyH Tryd.prog .any (opsAt Tryd.f71 [1, 1, 1, 1, 0]) Qd (Mem (gB F [cellCh b1 [v2, (.int .i64 r_0_p)] 122] w0) (feet [cellCh b1 [v2, (.int .i64 r_0_p)] 122]) w0 [cellCh b14 [(.int .i64 t149), (.int .i64 t150), (.int .i64 t151), (.int .i64 t152)] 40, ownCh elGFlow 110 v9 r8, snapCh w0 F]) 10 #[true, true, true, true, false, false, true, false, false, false, false, false, false, false, false]) [(3, (.pointer (some ⟨b6, 0, none⟩))), (32, v9), (33, (.agg #[(.int .i64 t149), (.int .i64 t150), (.int .i64 t151), (.int .i64 t152)])), (38, (.pointer (some ⟨b1, 0, none⟩))), (35, (.int .i64 r157))] [cellCh b1 [v2, (.int .i64 r158)] 122, cellCh b14 [(.int .i64 t149), (.int .i64 t150), (.int .i64 t151), (.int .i64 t152)] 40, ownCh elGFlow 110 v9 r8, cellCh b6 [(.int .i64 0), (.int .i64 0), (.int .i64 0), (.int .i64 0)] 40, snapCh w0 F] (L_spec_l20Rd_pick r_0_b r158 9 (fun (r161, r162) => idxW ([0, 0, 0, 0, 0, 0, 1, 2, 3]) r161 (fun e163 => idxW ([r157, (-1), 1000000, 1000001]) e163 (fun e165 => k156 (r162, e165))))) := by
        intro r157 r158
        refine d_three (i := 4) (j := 5) (l := 7) rfl rfl rfl (by kernel_rfl) ?_ ?_ ?_
        · intro o ho; cases ho
          refine o_bsl (enc := encInt) (qs := [(0, (.int .i64 r157)), (1, (.int .i64 (-1))), (2, (.int .i64 1000000)), (3, (.int .i64 1000001))]) (cells := [(.int .i64 r157), (.int .i64 (-1)), (.int .i64 1000000), (.int .i64 1000001)]) ([r157, (-1), 1000000, 1000001]) flelInt (by intro ρ h; simp only [List.map_toArray, List.map_cons, List.map_nil, h (.tmp 35) _ rfl, h (.const (.int .i64 (-1))) _ rfl, h (.const (.int .i64 1000000)) _ rfl, h (.const (.int .i64 1000001)) _ rfl]) rfl el99 zero3 rfl rfl rfl rfl rfl rfl ?_; intro v159
          refine d_and (fun w m => m.pick [2, 3, 5] rfl) ?_
          refine pk [0, 1, 2, 3, 4, 5] rfl ?_
          refine re (E' := [(3, (.pointer (some ⟨b6, 0, none⟩))), (32, v9), (33, (.agg #[(.int .i64 t149), (.int .i64 t150), (.int .i64 t151), (.int .i64 t152)])), (38, (.pointer (some ⟨b1, 0, none⟩))), (36, v159)]) ⟨rfl, rfl, rfl, rfl, rfl, trivial⟩ ?_
          exact H891 r157 r158 v159
        · intro o ho; cases ho
          refine o_bsl (enc := encInt) (qs := [(0, (.int .i64 0)), (1, (.int .i64 0)), (2, (.int .i64 0)), (3, (.int .i64 0)), (4, (.int .i64 0)), (5, (.int .i64 0)), (6, (.int .i64 1)), (7, (.int .i64 2)), (8, (.int .i64 3))]) (cells := [(.int .i64 0), (.int .i64 0), (.int .i64 0), (.int .i64 0), (.int .i64 0), (.int .i64 0), (.int .i64 1), (.int .i64 2), (.int .i64 3)]) ([0, 0, 0, 0, 0, 0, 1, 2, 3]) flelInt (by intro ρ h; simp only [List.map_toArray, List.map_cons, List.map_nil, h (.const (.int .i64 0)) _ rfl, h (.const (.int .i64 0)) _ rfl, h (.const (.int .i64 0)) _ rfl, h (.const (.int .i64 0)) _ rfl, h (.const (.int .i64 0)) _ rfl, h (.const (.int .i64 0)) _ rfl, h (.const (.int .i64 1)) _ rfl, h (.const (.int .i64 2)) _ rfl, h (.const (.int .i64 3)) _ rfl]) rfl el99 zero3 rfl rfl rfl rfl rfl rfl ?_; intro v177
          refine d_and (fun w m => m.pick [2, 3, 5] rfl) ?_
          refine pk [0, 1, 2, 3, 4, 5] rfl ?_
          refine re (E' := [(3, (.pointer (some ⟨b6, 0, none⟩))), (32, v9), (33, (.agg #[(.int .i64 t149), (.int .i64 t150), (.int .i64 t151), (.int .i64 t152)])), (38, (.pointer (some ⟨b1, 0, none⟩))), (35, (.int .i64 r157)), (37, v177)]) ⟨rfl, rfl, rfl, rfl, rfl, rfl, trivial⟩ ?_
          exact H898 r157 r158 v177
        · intro o ho; cases ho
          refine o_call (vs := [(.pointer (some ⟨b1, 0, none⟩)), (.int .i64 9)]) (M0 := [cellCh b1 [v2, (.int .i64 r158)] 122]) Tryd.call68 rfl rfl (by intro w m h; exact (w_spec_l20Rd_pick (F := allB [cellCh b1 [v2, (.int .i64 r158)] 122] w) (r_0_b := r_0_b) (r_0_p := r158) (n_1 := 9) allB_ok m.given (m.rdM 3 rfl (reads_snap hv2)) h).mono (fun _ _ k => ret_free (fun r u => (fr_cons free_cell fr_nil)) k)) ?_; rintro ⟨r191, r192⟩ _
          refine d_and (fun w m => m.pick [1, 2, 4] rfl) ?_
          refine pk [0, 1, 2, 3, 4] rfl ?_
          refine re (E' := [(3, (.pointer (some ⟨b6, 0, none⟩))), (32, v9), (33, (.agg #[(.int .i64 t149), (.int .i64 t150), (.int .i64 t151), (.int .i64 t152)])), (35, (.int .i64 r157)), (39, (.int .i64 r191))]) ⟨rfl, rfl, rfl, rfl, rfl, trivial⟩ ?_
          exact H902 r157 r158 r191 r192
      have H904 : ∀ (v201 : Value), Nx 44 (gB F [cellCh b1 [v2, (.int .i64 r_0_p)] 122] w0) (feet [cellCh b1 [v2, (.int .i64 r_0_p)] 122]) w0 (wpAnyH Tryd.prog .any (opsAt Tryd.f71 [1, 1, 1, 1, 0]) Qd (Mem (gB F [cellCh b1 [v2, (.int .i64 r_0_p)] 122] w0) (feet [cellCh b1 [v2, (.int .i64 r_0_p)] 122]) w0 [cellCh b14 [(.int .i64 t149), (.int .i64 t150), (.int .i64 t151), (.int .i64 t152)] 40, ownCh elGFlow 110 v9 r8, snapCh w0 F]) 10 #[true, true, true, false, false, true, true, false, false, false, false, false, false, false, false]) [(3, (.pointer (some ⟨b6, 0, none⟩))), (32, v9), (33, (.agg #[(.int .i64 t149), (.int .i64 t150), (.int .i64 t151), (.int .i64 t152)])), (34, (.pointer (some ⟨b1, 0, none⟩))), (38, (.pointer (some ⟨b1, 0, none⟩))), (37, v201)] [ownCh elInt 3 v201 ([0, 0, 0, 0, 0, 0, 1, 2, 3]), cellCh b1 [v2, (.int .i64 t148)] 122, cellCh b14 [(.int .i64 t149), (.int .i64 t150), (.int .i64 t151), (.int .i64 t152)] 40, ownCh elGFlow 110 v9 r8, cellCh b6 [(.int .i64 0), (.int .i64 0), (.int .i64 0), (.int .i64 0)] 40, snapCh w0 F] (L_spec_l20Rd_pick r_0_b t148 70 (fun (r202, r203) => L_spec_l20Rd_pick r_0_b r203 9 (fun (r161, r162) => idxW ([0, 0, 0, 0, 0, 0, 1, 2, 3]) r161 (fun e163 => idxW ([r202, (-1), 1000000, 1000001]) e163 (fun e165 => k156 (r162, e165)))))) := by
        intro v201
        refine pk [1, 0, 2, 3, 4, 5] rfl ?_
        refine d_one (i := 3) rfl (by kernel_rfl) (o_call (vs := [(.pointer (some ⟨b1, 0, none⟩)), (.int .i64 70)]) (M0 := [cellCh b1 [v2, (.int .i64 t148)] 122]) Tryd.call68 rfl rfl (by intro w m h; exact (w_spec_l20Rd_pick (F := allB [cellCh b1 [v2, (.int .i64 t148)] 122] w) (r_0_b := r_0_b) (r_0_p := t148) (n_1 := 70) allB_ok m.given (m.rdM 4 rfl (reads_snap hv2)) h).mono (fun _ _ k => ret_free (fun r u => (fr_cons free_cell fr_nil)) k)) ?_); rintro ⟨r202, r203⟩ _
        refine d_and (fun w m => m.pick [2, 3, 5] rfl) ?_
        refine pk [1, 0, 2, 3, 4, 5] rfl ?_
        refine re (E' := [(3, (.pointer (some ⟨b6, 0, none⟩))), (32, v9), (33, (.agg #[(.int .i64 t149), (.int .i64 t150), (.int .i64 t151), (.int .i64 t152)])), (38, (.pointer (some ⟨b1, 0, none⟩))), (35, (.int .i64 r202)), (37, v201)]) ⟨rfl, rfl, rfl, rfl, rfl, rfl, trivial⟩ ?_
        exact H898 r202 r203 v201
      refine o_mv (dt 0 (fun w m => m.pick [1, 2, 4] rfl)) rfl rfl ?_
      refine o_ldc (dt 1 (fun w m => m.pick [1, 2, 4] rfl)) (v := (.agg #[(.int .i64 t149), (.int .i64 t150), (.int .i64 t151), (.int .i64 t152)])) 0 rfl rfl rfl ty40 rfl ?_
      refine o_mv (dt 2 (fun w m => m.pick [1, 2, 4] rfl)) rfl rfl ?_
      refine o_mv (dt 6 (fun w m => m.pick [1, 2, 4] rfl)) rfl rfl ?_
      refine d_two (i := 3) (j := 5) rfl rfl (by kernel_rfl) ?_ ?_
      · intro o ho; cases ho
        refine o_call (vs := [(.pointer (some ⟨b1, 0, none⟩)), (.int .i64 70)]) (M0 := [cellCh b1 [v2, (.int .i64 t148)] 122]) Tryd.call68 rfl rfl (by intro w m h; exact (w_spec_l20Rd_pick (F := allB [cellCh b1 [v2, (.int .i64 t148)] 122] w) (r_0_b := r_0_b) (r_0_p := t148) (n_1 := 70) allB_ok m.given (m.rdM 3 rfl (reads_snap hv2)) h).mono (fun _ _ k => ret_free (fun r u => (fr_cons free_cell fr_nil)) k)) ?_; rintro ⟨r157, r158⟩ _
        refine d_and (fun w m => m.pick [1, 2, 4] rfl) ?_
        refine pk [0, 1, 2, 3, 4] rfl ?_
        refine re (E' := [(3, (.pointer (some ⟨b6, 0, none⟩))), (32, v9), (33, (.agg #[(.int .i64 t149), (.int .i64 t150), (.int .i64 t151), (.int .i64 t152)])), (38, (.pointer (some ⟨b1, 0, none⟩))), (35, (.int .i64 r157))]) ⟨rfl, rfl, rfl, rfl, rfl, trivial⟩ ?_
        exact H903 r157 r158
      · intro o ho; cases ho
        refine o_bsl (enc := encInt) (qs := [(0, (.int .i64 0)), (1, (.int .i64 0)), (2, (.int .i64 0)), (3, (.int .i64 0)), (4, (.int .i64 0)), (5, (.int .i64 0)), (6, (.int .i64 1)), (7, (.int .i64 2)), (8, (.int .i64 3))]) (cells := [(.int .i64 0), (.int .i64 0), (.int .i64 0), (.int .i64 0), (.int .i64 0), (.int .i64 0), (.int .i64 1), (.int .i64 2), (.int .i64 3)]) ([0, 0, 0, 0, 0, 0, 1, 2, 3]) flelInt (by intro ρ h; simp only [List.map_toArray, List.map_cons, List.map_nil, h (.const (.int .i64 0)) _ rfl, h (.const (.int .i64 0)) _ rfl, h (.const (.int .i64 0)) _ rfl, h (.const (.int .i64 0)) _ rfl, h (.const (.int .i64 0)) _ rfl, h (.const (.int .i64 0)) _ rfl, h (.const (.int .i64 1)) _ rfl, h (.const (.int .i64 2)) _ rfl, h (.const (.int .i64 3)) _ rfl]) rfl el99 zero3 rfl rfl rfl rfl rfl rfl ?_; intro v201
        refine d_and (fun w m => m.pick [2, 3, 5] rfl) ?_
        refine pk [0, 1, 2, 3, 4, 5] rfl ?_
        refine re (E' := [(3, (.pointer (some ⟨b6, 0, none⟩))), (32, v9), (33, (.agg #[(.int .i64 t149), (.int .i64 t150), (.int .i64 t151), (.int .i64 t152)])), (34, (.pointer (some ⟨b1, 0, none⟩))), (38, (.pointer (some ⟨b1, 0, none⟩))), (37, v201)]) ⟨rfl, rfl, rfl, rfl, rfl, rfl, trivial⟩ ?_
        exact H904 v201
    · rintro ⟨t154, t155⟩ a w ⟨hE, hm⟩ h
      refine nx_of hE hm h ?_
      clear hE hm h
      refine c_ret ?_
      exact l_end3 Tryd.results71 (r8, (GPacket.mk t149 t150 t151 t152), t155, t154) v9 (rv_t rfl) (rv_c 2 rfl rfl ty40 rfl) (rv_t rfl) rfl (fun w m => NewCh.ofB m [1, 0] rfl)

set_option maxRecDepth 100000 in
set_option maxHeartbeats 8000000 in
theorem w_spec_DrawPassPacket {w0 : World} {F : Nat → Prop} {v1 : Value} {code_0 : (List UInt8)} {κ : (GRuleset × (List GFlow) × GPacket × Int × Int) → Prop} (hF : ∀ b, F b → b < w0.heap.size ∧ ¬ feet [] b) (hv1 : Sl elU8 F w0 v1 code_0) (h : L_spec_DrawPassPacket code_0 κ) :
    Calls Tryd.prog 28 #[v1] w0 (Ret [] F w0 κ (fun (r : (GRuleset × (List GFlow) × GPacket × Int × Int)) (u : Value × List Nat × Value) => .tuple #[(.agg #[u.1, (.bool r.1.xAccept)]), u.2.2, (.agg #[(.int .i64 r.2.2.1.xFrom), (.int .i64 r.2.2.1.xTo), (.int .i64 r.2.2.1.xPort), (.int .i64 r.2.2.1.xProto)]), (.int .i64 r.2.2.2.1), (.int .i64 r.2.2.2.2)]) (fun (r : (GRuleset × (List GFlow) × GPacket × Int × Int)) (u : Value × List Nat × Value) => [dpCh (dSl dGRule 104) 101 u.2.1 u.1 r.1.xChains, ownCh elGFlow 110 u.2.2 r.2.1])) := by
  refine enterS (args := [v1]) [] hF (Given.nil _ _) Tryd.func28 rfl Tryd.ntmps28 rfl h ?_
  clear h hF
  refine c_seq ?_
  refine c_region ?_
  refine stw (o_alloc rfl [(.slice none 0 0), (.bool false)] zero25 ?_); intro b3
  refine stw (o_asn elGFlow 110 rfl rfl ?_)
  refine stw (o_alloc rfl [(.int .i64 0), (.int .i64 0), (.int .i64 0), (.int .i64 0)] zero40 ?_); intro b6
  refine o_as st rfl rfl ?_
  refine o_as st rfl rfl ?_
  refine c_nil ?_
  refine l_then ?_
  refine c_seq ?_
  refine c_region ?_
  refine o_mv st rfl rfl ?_
  refine stw (o_callP (vs := [v1]) Tryd.call49 rfl rfl (by intro w m h; exact w_spec_l20Open (code_0 := code_0) fz_ok0 (m.roS 3 rfl hv1) h) ?_); rintro ⟨r10, r13⟩ ⟨b8, v11⟩
  refine o_as st rfl rfl ?_
  refine c_nil ?_
  refine l_then ?_
  refine c_seq ?_
  refine c_region ?_
  refine o_mv st rfl rfl ?_
  refine stw (o_call (vs := [(.pointer (some ⟨b8, 0, none⟩)), (.int .i64 20)]) (M0 := [cellCh b8 [v11, (.int .i64 r13)] 122]) Tryd.call50 rfl rfl (by intro w m h; exact (w_spec_l20Ruleset (F := allB [cellCh b8 [v11, (.int .i64 r13)] 122] w) (r_0_b := r10) (r_0_p := r13) (n_1 := 20) allB_ok m.given (m.rdM 0 rfl reads_ro) h).mono (fun _ _ k => ret_free (fun r u => (fr_cons free_dp (fr_cons free_cell fr_nil))) k)) ?_); rintro ⟨r14, r18⟩ ⟨v15, bb16⟩
  refine stw (o_alloc rfl [(.slice none 0 0), (.bool false)] zero25 ?_); intro b19
  refine nx_dp 1 rfl ?_; rintro a21 l22 q23 rfl
  refine stw (o_stc (cs' := [(.slice a21 l22 q23), (.bool r14.xAccept)]) 0 rfl rfl rfl ty25 rfl rfl rfl rfl ?_)
  refine c_nil ?_
  refine l_then ?_
  refine c_seq ?_
  refine c_region ?_
  refine o_mv st rfl rfl ?_
  refine pk [2, 0, 1, 3, 4, 5, 6, 7] rfl ?_
  refine stw (o_call (vs := [(.pointer (some ⟨b8, 0, none⟩))]) (M0 := [cellCh b8 [v11, (.int .i64 r18)] 122]) Tryd.call71 rfl rfl (by intro w m h; exact (w_spec_l20Moment (F := allB [cellCh b8 [v11, (.int .i64 r18)] 122] w) (r_0_b := r10) (r_0_p := r18) allB_ok m.given (m.rdM 2 rfl reads_ro) h).mono (fun _ _ k => ret_free (fun r u => (fr_cons (free_own flelGFlow) (fr_cons free_cell fr_nil))) k)) ?_); rintro ⟨r24, r27, r28, r29⟩ v25
  refine o_mv st rfl rfl ?_
  refine o_ext st (vs := [v25, (.agg #[(.int .i64 r27.xFrom), (.int .i64 r27.xTo), (.int .i64 r27.xPort), (.int .i64 r27.xProto)]), (.int .i64 r28)]) rfl rfl rfl ?_
  refine o_ext st (vs := [v25, (.agg #[(.int .i64 r27.xFrom), (.int .i64 r27.xTo), (.int .i64 r27.xPort), (.int .i64 r27.xProto)]), (.int .i64 r28)]) rfl rfl rfl ?_
  refine o_ext st (vs := [v25, (.agg #[(.int .i64 r27.xFrom), (.int .i64 r27.xTo), (.int .i64 r27.xPort), (.int .i64 r27.xProto)]), (.int .i64 r28)]) rfl rfl rfl ?_
  refine stw (o_alloc rfl [(.int .i64 0), (.int .i64 0), (.int .i64 0), (.int .i64 0)] zero40 ?_); intro b30
  refine o_as st rfl rfl ?_
  refine stw (o_stc (cs' := [(.int .i64 r27.xFrom), (.int .i64 r27.xTo), (.int .i64 r27.xPort), (.int .i64 r27.xProto)]) 0 rfl rfl rfl ty40 rfl rfl rfl rfl ?_)
  refine o_as st rfl rfl ?_
  refine c_nil ?_
  refine l_then ?_
  refine c_seq ?_
  refine nx_ro 5 rfl ?_; rintro a32 l33 q34 rfl
  refine c_draw mixed 11 rfl [cellCh b30 [(.int .i64 r27.xFrom), (.int .i64 r27.xTo), (.int .i64 r27.xPort), (.int .i64 r27.xProto)] 40, ownCh elGFlow 110 v25 r24, cellCh b19 [(.slice a21 l22 q23), (.bool r14.xAccept)] 25, dpCh (dSl dGRule 104) 101 bb16 (.slice a21 l22 q23) r14.xChains, roCh elU8 (.slice a32 l33 q34) r10, ownCh elGFlow 110 (.slice none 0 0) ([]), snapCh w0 F] ?_
  refine o_ldc (dt 0 (fun w m => m.pick [0, 1, 3, 4, 5, 7, 9] rfl)) (v := (.agg #[(.slice a21 l22 q23), (.bool r14.xAccept)])) 2 rfl rfl rfl ty25 rfl ?_
  refine o_mv (dt 1 (fun w m => m.pick [0, 1, 3, 4, 5, 7, 9] rfl)) rfl rfl ?_
  refine o_ldc (dt 2 (fun w m => m.pick [0, 1, 3, 4, 5, 7, 9] rfl)) (v := (.agg #[(.int .i64 r27.xFrom), (.int .i64 r27.xTo), (.int .i64 r27.xPort), (.int .i64 r27.xProto)])) 0 rfl rfl rfl ty40 rfl ?_
  refine o_mv (dt 3 (fun w m => m.pick [0, 1, 3, 4, 5, 7, 9] rfl)) rfl rfl ?_
  refine o_mv (dt 4 (fun w m => m.pick [0, 1, 3, 4, 5, 7, 9] rfl)) rfl rfl ?_
  refine pk [2, 0, 1, 3, 4, 5, 6, 7, 8, 9] rfl ?_
  refine d_one (i := 5) rfl (by kernel_rfl) (o_call (vs := [(.pointer (some ⟨b8, 0, none⟩))]) (M0 := [cellCh b8 [(.slice a32 l33 q34), (.int .i64 r29)] 122]) Tryd.call67 rfl rfl (by intro w m h; exact (w_spec_l20Life (F := allB [cellCh b8 [(.slice a32 l33 q34), (.int .i64 r29)] 122] w) (r_0_b := r10) (r_0_p := r29) allB_ok m.given (m.rdM 4 rfl reads_ro) h).mono (fun _ _ k => ret_free (fun r u => (fr_cons free_cell fr_nil)) k)) ?_); rintro ⟨r35, r36⟩ _
  refine d_and (fun w m => m.pick [1, 2, 3, 4, 5, 7, 9] rfl) ?_
  refine d_one (i := 6) rfl (by kernel_rfl) (o_stc (cs' := [(.slice a21 l22 q23), (.bool r14.xAccept)]) 8 rfl rfl rfl ty25 rfl rfl rfl rfl ?_)
  refine d_and (fun w m => m.pick [1, 2, 3, 4, 5, 7, 9] rfl) ?_
  refine o_as (dt 7 (fun w m => m.pick [1, 2, 3, 4, 5, 7, 9] rfl)) rfl rfl ?_
  refine d_one (i := 8) rfl (by kernel_rfl) (o_stc (cs' := [(.int .i64 r27.xFrom), (.int .i64 r27.xTo), (.int .i64 r27.xPort), (.int .i64 r27.xProto)]) 6 rfl rfl rfl ty40 rfl rfl rfl rfl ?_)
  refine d_and (fun w m => m.pick [1, 2, 3, 4, 5, 7, 9] rfl) ?_
  refine o_as (dt 9 (fun w m => m.pick [1, 2, 3, 4, 5, 7, 9] rfl)) rfl rfl ?_
  refine o_as (dt 10 (fun w m => m.pick [1, 2, 3, 4, 5, 7, 9] rfl)) rfl rfl ?_
  refine d_done (by kernel_rfl) ?_
  refine l_then ?_
  refine c_ret ?_
  exact l_end5 Tryd.results28 (r14, r24, r27, r28, r35) ((.slice a21 l22 q23), bb16, v25) (rv_c 8 rfl rfl ty25 rfl) (rv_t rfl) (rv_c 6 rfl rfl ty40 rfl) (rv_t rfl) (rv_t rfl) rfl (fun w m => NewCh.ofB m [4, 2] rfl)

set_option maxRecDepth 100000 in
set_option maxHeartbeats 8000000 in
theorem w_impl_FlowsValid {w0 : World} {F : Nat → Prop} {v1 : Value} {list_0 : (List GFlow)} {κ : Bool → Prop} (hF : ∀ b, F b → b < w0.heap.size ∧ ¬ feet [] b) (hv1 : Sl elGFlow F w0 v1 list_0) (hgl0 : Sl elGFieldShape F w0 (.slice (some ⟨0, 0, none⟩) 4 4) gl_impl_fieldShapes) (h : L_impl_FlowsValid list_0 κ) :
    Calls Tryd.prog 34 #[v1] w0 (Ret [] F w0 κ (fun (r : Bool) (u : Unit) => (.bool r)) (fun (r : Bool) (u : Unit) => [])) := by
  refine enterS (args := [v1]) [] hF (Given.nil _ _) Tryd.func34 rfl Tryd.ntmps34 rfl h ?_
  clear h hF
  refine c_seq ?_
  refine c_region ?_
  refine o_as st rfl rfl ?_
  refine c_nil ?_
  refine l_then ?_
  refine c_seq ?_
  refine c_region ?_
  refine o_mv st rfl rfl ?_
  refine stw (o_callP (vs := [v1]) Tryd.call77 rfl rfl (by intro w m h; exact (w_impl_indexFlows (F := allB [] w) (list_0 := list_0) allB_ok (m.rd0 0 rfl (reads_snap hv1)) (m.rd0 0 rfl (reads_snap hgl0)) h).mono (fun _ _ k => ret_free (fun r u => (fr_cons free_mown fr_nil)) k)) ?_); rintro ⟨r3, r6⟩ v4
  refine o_mv st rfl rfl ?_
  refine o_ext st (vs := [v4, (.bool r6)]) rfl rfl rfl ?_
  refine o_ext st (vs := [v4, (.bool r6)]) rfl rfl rfl ?_
  refine o_as st rfl rfl ?_
  refine o_as st rfl rfl ?_
  refine c_nil ?_
  refine l_then ?_
  refine c_seq ?_
  refine c_region ?_
  refine o_mv st rfl rfl ?_
  refine o_as st rfl rfl ?_
  refine c_nil ?_
  refine l_then ?_
  refine c_ret ?_
  exact l_end1 Tryd.results34 r6 () (rv_t rfl) (fun _ _ => NewCh.nil _ _ _ _)

set_option maxRecDepth 100000 in
set_option maxHeartbeats 8000000 in
theorem w_impl_PassPacket {w0 : World} {F : Nat → Prop} {v1 : Value} {v3 : Value} {s_0 : GRuleset} {list_1 : (List GFlow)} {p_2 : GPacket} {now_3 : Int} {life_4 : Int} {κ : ((List GFlow) × Bool) → Prop} (hF : ∀ b, F b → b < w0.heap.size ∧ ¬ feet [] b) (hv1 : Sl (elSl elGRule) F w0 v1 s_0.xChains) (hv3 : Sl elGFlow F w0 v3 list_1) (hgl0 : Sl elGFieldShape F w0 (.slice (some ⟨0, 0, none⟩) 4 4) gl_impl_fieldShapes) (h : L_impl_PassPacket s_0 list_1 p_2 now_3 life_4 κ) :
    Calls Tryd.prog 29 #[(.agg #[v1, (.bool s_0.xAccept)]), v3, (.agg #[(.int .i64 p_2.xFrom), (.int .i64 p_2.xTo), (.int .i64 p_2.xPort), (.int .i64 p_2.xProto)]), (.int .i64 now_3), (.int .i64 life_4)] w0 (Ret [] F w0 κ (fun (r : ((List GFlow) × Bool)) (u : Value) => .tuple #[u, (.bool r.2)]) (fun (r : ((List GFlow) × Bool)) (u : Value) => [ownCh elGFlow 110 u r.1])) := by
  refine enterS (args := [(.agg #[v1, (.bool s_0.xAccept)]), v3, (.agg #[(.int .i64 p_2.xFrom), (.int .i64 p_2.xTo), (.int .i64 p_2.xPort), (.int .i64 p_2.xProto)]), (.int .i64 now_3), (.int .i64 life_4)]) [] hF (Given.nil _ _) Tryd.func29 rfl Tryd.ntmps29 rfl h ?_
  clear h hF
  refine c_seq ?_
  refine c_region ?_
  obtain ⟨a5, l6, q7, hs_⟩ := sl_val hv1; subst hs_
  refine stw (o_box rfl rfl [(.slice a5 l6 q7), (.bool s_0.xAccept)] rfl ?_); intro b8
  refine stw (o_box rfl rfl [(.int .i64 p_2.xFrom), (.int .i64 p_2.xTo), (.int .i64 p_2.xPort), (.int .i64 p_2.xProto)] rfl ?_); intro b10
  refine stw (o_asn elGFlow 110 rfl rfl ?_)
  refine o_as st rfl rfl ?_
  refine c_nil ?_
  refine l_then ?_
  refine c_seq ?_
  refine c_join (σ := Bool) (fun (t78 : Bool) (a : Act) (w : World) => Has 47 [(1, v3), (3, (.int .i64 now_3)), (4, (.int .i64 life_4)), (5, (.pointer (some ⟨b8, 0, none⟩))), (7, (.pointer (some ⟨b10, 0, none⟩))), (36, (.bool t78))] a ∧ Mem (gB F [] w0) (feet []) w0 [cellCh b10 [(.int .i64 p_2.xFrom), (.int .i64 p_2.xTo), (.int .i64 p_2.xPort), (.int .i64 p_2.xProto)] 40, cellCh b8 [(.slice a5 l6 q7), (.bool s_0.xAccept)] 25, snapCh w0 F] w) ?_ ?_
  · intro k79
    refine c_region ?_
    refine o_ldc st (v := (.agg #[(.slice a5 l6 q7), (.bool s_0.xAccept)])) 2 rfl rfl rfl ty25 rfl ?_
    refine stw (o_callP (vs := [(.agg #[(.slice a5 l6 q7), (.bool s_0.xAccept)])]) Tryd.call52 rfl rfl (by intro w m h; exact (w_impl_RulesetValid (F := allB [] w) (s_0 := s_0) allB_ok (m.rd0 3 rfl (reads_snap hv1)) (m.rd0 3 rfl (reads_snap hgl0)) h).mono (fun _ _ k => ret_free (fun r u => fr_nil) k)) ?_); rintro r13 _
    refine o_not st rfl rfl ?_
    refine o_mv st rfl rfl ?_
    refine st_sp (dj := 17) rfl ?_ ?_
    · refine st_s rfl rfl rfl rfl ?_
      refine st_s rfl rfl rfl rfl ?_
      refine st_s rfl rfl rfl rfl ?_
      refine o_pickT st rfl rfl rfl ?_
      refine o_mv st rfl rfl ?_
      refine st_s rfl rfl rfl rfl ?_
      refine st_s rfl rfl rfl rfl ?_
      refine st_s rfl rfl rfl rfl ?_
      refine o_pickT st rfl rfl rfl ?_
      refine o_mv st rfl rfl ?_
      refine st_s rfl rfl rfl rfl ?_
      refine st_s rfl rfl rfl rfl ?_
      refine st_s rfl rfl rfl rfl ?_
      refine o_pickT st rfl rfl rfl ?_
      refine o_mv st rfl rfl ?_
      refine st_s rfl rfl rfl rfl ?_
      refine st_s rfl rfl rfl rfl ?_
      refine st_s rfl rfl rfl rfl ?_
      refine o_pickT st rfl rfl rfl ?_
      refine c_nil ?_
      exact l_join true (fun a w hE hm => ⟨hE.sub ⟨rfl, rfl, rfl, rfl, rfl, rfl, trivial⟩, (hm.pick [1, 2, 3] rfl)⟩)
    · refine o_mv (st_g rfl rfl) rfl rfl ?_
      refine st_gw rfl rfl (o_callP (vs := [v3]) Tryd.call34 rfl rfl (by intro w m h; exact (w_impl_FlowsValid (F := allB [] w) (list_0 := list_1) allB_ok (m.rd0 3 rfl (reads_snap hv3)) (m.rd0 3 rfl (reads_snap hgl0)) h).mono (fun _ _ k => ret_free (fun r u => fr_nil) k)) ?_); rintro r14 _
      refine o_not (st_g rfl rfl) rfl rfl ?_
      refine o_pickF st rfl rfl rfl ?_
      refine o_mv st rfl rfl ?_
      refine st_sp (dj := 22) rfl ?_ ?_
      · refine st_s rfl rfl rfl rfl ?_
        refine st_s rfl rfl rfl rfl ?_
        refine st_s rfl rfl rfl rfl ?_
        refine o_pickT st rfl rfl rfl ?_
        refine o_mv st rfl rfl ?_
        refine st_s rfl rfl rfl rfl ?_
        refine st_s rfl rfl rfl rfl ?_
        refine st_s rfl rfl rfl rfl ?_
        refine o_pickT st rfl rfl rfl ?_
        refine o_mv st rfl rfl ?_
        refine st_s rfl rfl rfl rfl ?_
        refine st_s rfl rfl rfl rfl ?_
        refine st_s rfl rfl rfl rfl ?_
        refine o_pickT st rfl rfl rfl ?_
        refine c_nil ?_
        exact l_join true (fun a w hE hm => ⟨hE.sub ⟨rfl, rfl, rfl, rfl, rfl, rfl, trivial⟩, (hm.pick [1, 2, 3] rfl)⟩)
      · refine o_ldc (st_g rfl rfl) (v := (.agg #[(.int .i64 p_2.xFrom), (.int .i64 p_2.xTo), (.int .i64 p_2.xPort), (.int .i64 p_2.xProto)])) 1 rfl rfl rfl ty40 rfl ?_
        refine st_gw rfl rfl (o_callP (vs := [(.agg #[(.int .i64 p_2.xFrom), (.int .i64 p_2.xTo), (.int .i64 p_2.xPort), (.int .i64 p_2.xProto)])]) Tryd.call61 rfl rfl (by intro w m h; exact (w_impl_PacketValid (F := allB [] w) (p_0 := p_2) allB_ok (m.rd0 3 rfl (reads_snap hgl0)) h).mono (fun _ _ k => ret_free (fun r u => fr_nil) k)) ?_); rintro r15 _
        refine o_not (st_g rfl rfl) rfl rfl ?_
        refine o_pickF st rfl rfl rfl ?_
        refine o_mv st rfl rfl ?_
        refine st_sp (dj := 27) rfl ?_ ?_
        · refine st_s rfl rfl rfl rfl ?_
          refine st_s rfl rfl rfl rfl ?_
          refine st_s rfl rfl rfl rfl ?_
          refine o_pickT st rfl rfl rfl ?_
          refine o_mv st rfl rfl ?_
          refine st_s rfl rfl rfl rfl ?_
          refine st_s rfl rfl rfl rfl ?_
          refine st_s rfl rfl rfl rfl ?_
          refine o_pickT st rfl rfl rfl ?_
          refine c_nil ?_
          exact l_join true (fun a w hE hm => ⟨hE.sub ⟨rfl, rfl, rfl, rfl, rfl, rfl, trivial⟩, (hm.pick [1, 2, 3] rfl)⟩)
        · refine o_mv (st_g rfl rfl) rfl rfl ?_
          refine st_gw rfl rfl (o_callP (vs := [(.int .i64 now_3)]) Tryd.call72 rfl rfl (by intro w m h; exact (w_impl_timeValid (F := allB [] w) (now_0 := now_3) allB_ok h).mono (fun _ _ k => ret_free (fun r u => fr_nil) k)) ?_); rintro r16 _
          refine o_not (st_g rfl rfl) rfl rfl ?_
          refine o_pickF st rfl rfl rfl ?_
          refine o_mv st rfl rfl ?_
          refine st_sp (dj := 32) rfl ?_ ?_
          · refine st_s rfl rfl rfl rfl ?_
            refine st_s rfl rfl rfl rfl ?_
            refine st_s rfl rfl rfl rfl ?_
            refine o_pickT st rfl rfl rfl ?_
            refine c_nil ?_
            exact l_join true (fun a w hE hm => ⟨hE.sub ⟨rfl, rfl, rfl, rfl, rfl, rfl, trivial⟩, (hm.pick [1, 2, 3] rfl)⟩)
          · refine o_mv (st_g rfl rfl) rfl rfl ?_
            refine st_gw rfl rfl (o_callP (vs := [(.int .i64 life_4)]) Tryd.call62 rfl rfl (by intro w m h; exact (w_impl_lifeValid (F := allB [] w) (life_0 := life_4) allB_ok h).mono (fun _ _ k => ret_free (fun r u => fr_nil) k)) ?_); rintro r17 _
            refine o_not (st_g rfl rfl) rfl rfl ?_
            refine o_pickF st rfl rfl rfl ?_
            refine c_nil ?_
            exact l_join (!r17) (fun a w hE hm => ⟨hE.sub ⟨rfl, rfl, rfl, rfl, rfl, rfl, trivial⟩, (hm.pick [1, 2, 3] rfl)⟩)
  · rintro t78 a w ⟨hE, hm⟩ h
    refine nx_of hE hm h ?_
    clear hE hm h
    refine c_cond rfl ?_ ?_
    · refine c_seq ?_
      refine c_region ?_
      refine stw (o_asn elGFlow 110 rfl rfl ?_)
      refine o_as st rfl rfl ?_
      refine c_nil ?_
      refine l_then ?_
      refine c_ret ?_
      refine l_ret ?_
      exact l_end2 Tryd.results29 ([], false) (.slice none 0 0) (rv_t rfl) (rv_t rfl) rfl (fun w m => NewCh.ofB m [0] rfl)
    · refine c_skip ?_
      refine l_then ?_
      refine c_seq ?_
      refine c_region ?_
      refine o_ldc st (v := (.agg #[(.slice a5 l6 q7), (.bool s_0.xAccept)])) 1 rfl rfl rfl ty25 rfl ?_
      refine o_mv st rfl rfl ?_
      refine o_mv st rfl rfl ?_
      obtain ⟨a81, l82, q83, hs_⟩ := sl_val hv3; subst hs_
      refine o_bld st (qs := [(0, (.agg #[(.slice a5 l6 q7), (.bool s_0.xAccept)])), (1, (.slice a81 l82 q83)), (2, (.int .i64 life_4))]) (cells := [(.slice a5 l6 q7), (.bool s_0.xAccept), (.slice a81 l82 q83), (.int .i64 life_4)]) (by intro ρ h; simp only [List.map_toArray, List.map_cons, List.map_nil, h (.tmp 37) _ rfl, h (.tmp 38) _ rfl, h (.tmp 39) _ rfl]) rfl bld91 rfl ?_
      refine stw (o_alloc rfl [(.slice none 0 0), (.bool false), (.slice none 0 0), (.int .i64 0)] zero91 ?_); intro b84
      refine stw (o_stc (cs' := [(.slice a5 l6 q7), (.bool s_0.xAccept), (.slice a81 l82 q83), (.int .i64 life_4)]) 0 rfl rfl rfl ty91 rfl rfl rfl rfl ?_)
      refine c_nil ?_
      refine l_then ?_
      refine c_seq ?_
      refine c_region ?_
      refine o_ldc st (v := (.agg #[(.int .i64 p_2.xFrom), (.int .i64 p_2.xTo), (.int .i64 p_2.xPort), (.int .i64 p_2.xProto)])) 1 rfl rfl rfl ty40 rfl ?_
      refine o_mv st rfl rfl ?_
      refine stw (o_call (vs := [(.pointer (some ⟨b84, 0, none⟩)), (.agg #[(.int .i64 p_2.xFrom), (.int .i64 p_2.xTo), (.int .i64 p_2.xPort), (.int .i64 p_2.xProto)]), (.int .i64 now_3)]) (M0 := [cellCh b84 [(.slice a5 l6 q7), (.bool s_0.xAccept), (.slice a81 l82 q83), (.int .i64 life_4)] 91]) Tryd.call63 rfl rfl (by intro w m h; exact (w_impl_tracker_pass (F := allB [cellCh b84 [(.slice a5 l6 q7), (.bool s_0.xAccept), (.slice a81 l82 q83), (.int .i64 life_4)] 91] w) (t_0_set_Chains := s_0.xChains) (t_0_set_Accept := s_0.xAccept) (t_0_flows := list_1) (t_0_life := life_4) (p_1 := p_2) (now_2 := now_3) allB_ok m.given (m.rdM 2 rfl (reads_snap hv1)) (m.rdM 2 rfl (reads_snap hv3)) (m.rdM 2 rfl (reads_snap hgl0)) h).mono (fun _ _ k => ret_free (fun r u => (fr_cons free_cell (fr_cons (free_own flelGFlow) fr_nil))) k)) ?_); rintro ⟨r86, r87⟩ v88
      refine o_as st rfl rfl ?_
      refine c_nil ?_
      refine l_then ?_
      refine c_seq ?_
      refine c_region ?_
      refine o_fad st rfl rfl fld91_1 rfl ?_
      refine o_ldc st (v := v88) 0 rfl rfl rfl ty53 rfl ?_
      refine o_mv st rfl rfl ?_
      refine o_as st rfl rfl ?_
      refine o_as st rfl rfl ?_
      refine c_nil ?_
      refine l_then ?_
      refine c_ret ?_
      exact l_end2 Tryd.results29 (r87, r86) v88 (rv_t rfl) (rv_t rfl) rfl (fun w m => NewCh.ofB m [1] rfl)

set_option maxRecDepth 100000 in
set_option maxHeartbeats 8000000 in
theorem w_laws_sameFlows {w0 : World} {F : Nat → Prop} {v1 : Value} {v3 : Value} {a_0 : (List GFlow)} {b_1 : (List GFlow)} {κ : Bool → Prop} (hF : ∀ b, F b → b < w0.heap.size ∧ ¬ feet [] b) (hv1 : Sl elGFlow F w0 v1 a_0) (hv3 : Sl elGFlow F w0 v3 b_1) (h : L_laws_sameFlows a_0 b_1 κ) :
    Calls Tryd.prog 31 #[v1, v3] w0 (Ret [] F w0 κ (fun (r : Bool) (u : Unit) => (.bool r)) (fun (r : Bool) (u : Unit) => [])) := by
  refine enterS (args := [v1, v3]) [] hF (Given.nil _ _) Tryd.func31 rfl Tryd.ntmps31 rfl h ?_
  clear h hF
  refine c_seq ?_
  refine c_region ?_
  refine o_as st rfl rfl ?_
  refine c_nil ?_
  refine l_then ?_
  refine c_seq ?_
  refine c_seq ?_
  refine c_region ?_
  refine o_mv st rfl rfl ?_
  refine o_len st el53 0 rfl (reads_snap hv1) rfl rfl ?_
  refine o_mv st rfl rfl ?_
  refine o_len st el53 0 rfl (reads_snap hv3) rfl rfl ?_
  refine o_neq st und3 rfl rfl rfl ?_
  refine c_nil ?_
  refine l_then ?_
  refine c_cond rfl ?_ ?_
  · refine c_seq ?_
    refine c_region ?_
    refine o_as st rfl rfl ?_
    refine c_nil ?_
    refine l_then ?_
    refine c_ret ?_
    refine l_ret ?_
    exact l_end1 Tryd.results31 false () (rv_t rfl) (fun _ _ => NewCh.nil _ _ _ _)
  · refine c_skip ?_
    refine l_then ?_
    refine c_seq ?_
    refine c_seq ?_
    refine c_region ?_
    refine o_as st rfl rfl ?_
    refine c_nil ?_
    refine l_then ?_
    refine c_block ?_
    refine c_loop (σ := Int) (fun (t5 : Int) (a : Act) (w : World) => Has 26 [(0, v1), (1, v3), (5, (.int .i64 t5))] a ∧ Mem (gB F [] w0) (feet []) w0 [snapCh w0 F] w) (fun a w hE hm => ⟨hE.sub ⟨rfl, rfl, rfl, trivial⟩, (hm.pick [0] rfl)⟩) ?_
    rintro nx6 t5 a w ⟨hE, hm⟩ h
    refine nx_of hE hm h ?_
    clear hE hm h
    refine c_seq ?_
    refine c_seq ?_
    refine c_region ?_
    refine o_mv st rfl rfl ?_
    refine o_mv st rfl rfl ?_
    refine o_len st el53 0 rfl (reads_snap hv1) rfl rfl ?_
    refine o_lss st rfl rfl rfl ?_
    refine c_nil ?_
    refine l_then ?_
    refine c_cond rfl ?_ ?_
    · refine c_skip ?_
      refine l_then ?_
      refine c_seq ?_
      refine c_block ?_
      refine c_seq ?_
      refine c_draw mixed 9 rfl [snapCh w0 F] ?_
      refine o_mv (dt 0 (fun _ m => m)) rfl rfl ?_
      refine o_mv (dt 1 (fun _ m => m)) rfl rfl ?_
      refine o_idx (dt 2 (fun _ m => m)) 0 rfl (reads_snap hv1) rfl rfl rfl el53 ?_; intro e7 h8
      refine o_lds (dt 3 (fun _ m => m)) (enc := encGFlow) (u := (.agg #[(.int .i64 e7.xWho.xFrom), (.int .i64 e7.xWho.xTo), (.int .i64 e7.xWho.xPort), (.int .i64 e7.xWho.xProto), (.int .i64 e7.xUntil)])) 0 rfl (reads_snap hv1) flelGFlow rfl h8 rfl rfl ty110 rfl ?_
      refine o_mv (dt 4 (fun _ m => m)) rfl rfl ?_
      refine o_mv (dt 5 (fun _ m => m)) rfl rfl ?_
      refine o_idx (dt 6 (fun _ m => m)) 0 rfl (reads_snap hv3) rfl rfl rfl el53 ?_; intro e9 h10
      refine o_lds (dt 7 (fun _ m => m)) (enc := encGFlow) (u := (.agg #[(.int .i64 e9.xWho.xFrom), (.int .i64 e9.xWho.xTo), (.int .i64 e9.xWho.xPort), (.int .i64 e9.xWho.xProto), (.int .i64 e9.xUntil)])) 0 rfl (reads_snap hv3) flelGFlow rfl h10 rfl rfl ty110 rfl ?_
      refine o_bin (dt 8 (fun _ m => m)) (.bool (!(decide (e7 = e9)))) rfl rfl rfl (neqs110 _ _ e7.xWho.xFrom e7.xWho.xTo e7.xWho.xPort e7.xWho.xProto e7.xUntil e9.xWho.xFrom e9.xWho.xTo e9.xWho.xPort e9.xWho.xProto e9.xUntil) ?_
      refine d_done (by kernel_rfl) ?_
      refine l_then ?_
      refine c_cond rfl ?_ ?_
      · refine c_seq ?_
        refine c_region ?_
        refine o_as st rfl rfl ?_
        refine c_nil ?_
        refine l_then ?_
        refine c_ret ?_
        refine b_ret ?_
        refine l_ret ?_
        refine l_ret ?_
        refine b_ret ?_
        refine l_ret ?_
        exact l_end1 Tryd.results31 false () (rv_t rfl) (fun _ _ => NewCh.nil _ _ _ _)
      · refine c_skip ?_
        refine b_norm ?_
        refine l_then ?_
        refine c_region ?_
        refine o_mv st rfl rfl ?_
        refine o_add st rfl rfl rfl ?_; intro t11
        refine o_as st rfl rfl ?_
        refine c_nil ?_
        exact l_join t11 (fun a w hE hm => ⟨hE.sub ⟨rfl, rfl, rfl, trivial⟩, (hm.pick [0] rfl)⟩)
    · refine c_exit ?_
      refine l_exit ?_
      refine l_exit ?_
      refine b_exit ?_
      refine l_then ?_
      refine c_seq ?_
      refine c_region ?_
      refine o_as st rfl rfl ?_
      refine c_nil ?_
      refine l_then ?_
      refine c_ret ?_
      exact l_end1 Tryd.results31 true () (rv_t rfl) (fun _ _ => NewCh.nil _ _ _ _)

set_option maxRecDepth 100000 in
set_option maxHeartbeats 8000000 in
theorem w_impl_ExpireFlows {w0 : World} {F : Nat → Prop} {v1 : Value} {list_0 : (List GFlow)} {now_1 : Int} {κ : (List GFlow) → Prop} (hF : ∀ b, F b → b < w0.heap.size ∧ ¬ feet [] b) (hv1 : Sl elGFlow F w0 v1 list_0) (hgl0 : Sl elGFieldShape F w0 (.slice (some ⟨0, 0, none⟩) 4 4) gl_impl_fieldShapes) (h : L_impl_ExpireFlows list_0 now_1 κ) :
    Calls Tryd.prog 35 #[v1, (.int .i64 now_1)] w0 (Ret [] F w0 κ (fun (r : (List GFlow)) (u : Value) => u) (fun (r : (List GFlow)) (u : Value) => [ownCh elGFlow 110 u r])) := by
  refine enterS (args := [v1, (.int .i64 now_1)]) [] hF (Given.nil _ _) Tryd.func35 rfl Tryd.ntmps35 rfl h ?_
  clear h hF
  refine c_seq ?_
  refine c_region ?_
  refine stw (o_asn elGFlow 110 rfl rfl ?_)
  refine c_nil ?_
  refine l_then ?_
  refine c_seq ?_
  refine c_join (σ := Bool) (fun (t66 : Bool) (a : Act) (w : World) => Has 16 [(0, v1), (1, (.int .i64 now_1)), (12, (.bool t66))] a ∧ Mem (gB F [] w0) (feet []) w0 [snapCh w0 F] w) ?_ ?_
  · intro k67
    refine c_region ?_
    refine o_mv st rfl rfl ?_
    refine stw (o_callP (vs := [v1]) Tryd.call34 rfl rfl (by intro w m h; exact (w_impl_FlowsValid (F := allB [] w) (list_0 := list_0) allB_ok (m.rd0 1 rfl (reads_snap hv1)) (m.rd0 1 rfl (reads_snap hgl0)) h).mono (fun _ _ k => ret_free (fun r u => fr_nil) k)) ?_); rintro r4 _
    refine o_not st rfl rfl ?_
    refine o_mv st rfl rfl ?_
    refine st_sp (dj := 8) rfl ?_ ?_
    · refine st_s rfl rfl rfl rfl ?_
      refine st_s rfl rfl rfl rfl ?_
      refine st_s rfl rfl rfl rfl ?_
      refine o_pickT st rfl rfl rfl ?_
      refine c_nil ?_
      exact l_join true (fun a w hE hm => ⟨hE.sub ⟨rfl, rfl, rfl, trivial⟩, (hm.pick [1] rfl)⟩)
    · refine o_mv (st_g rfl rfl) rfl rfl ?_
      refine st_gw rfl rfl (o_callP (vs := [(.int .i64 now_1)]) Tryd.call72 rfl rfl (by intro w m h; exact (w_impl_timeValid (F := allB [] w) (now_0 := now_1) allB_ok h).mono (fun _ _ k => ret_free (fun r u => fr_nil) k)) ?_); rintro r5 _
      refine o_not (st_g rfl rfl) rfl rfl ?_
      refine o_pickF st rfl rfl rfl ?_
      refine c_nil ?_
      exact l_join (!r5) (fun a w hE hm => ⟨hE.sub ⟨rfl, rfl, rfl, trivial⟩, (hm.pick [1] rfl)⟩)
  · rintro t66 a w ⟨hE, hm⟩ h
    refine nx_of hE hm h ?_
    clear hE hm h
    refine c_cond rfl ?_ ?_
    · refine c_seq ?_
      refine c_region ?_
      refine stw (o_asn elGFlow 110 rfl rfl ?_)
      refine c_nil ?_
      refine l_then ?_
      refine c_ret ?_
      refine l_ret ?_
      exact l_end1 Tryd.results35 ([]) (.slice none 0 0) (rv_t rfl) (fun w m => NewCh.ofB m [0] rfl)
    · refine c_skip ?_
      refine l_then ?_
      refine c_seq ?_
      refine c_region ?_
      refine o_mv st rfl rfl ?_
      refine o_mv st rfl rfl ?_
      refine stw (o_callP (vs := [v1, (.int .i64 now_1)]) Tryd.call79 rfl rfl (by intro w m h; exact (w_impl_notExpired (F := allB [] w) (list_0 := list_0) (now_1 := now_1) allB_ok (m.rd0 0 rfl (reads_snap hv1)) h).mono (fun _ _ k => ret_free (fun r u => (fr_cons (free_own flelGFlow) fr_nil)) k)) ?_); rintro r69 v70
      refine o_as st rfl rfl ?_
      refine c_nil ?_
      refine l_then ?_
      refine c_ret ?_
      exact l_end1 Tryd.results35 r69 v70 (rv_t rfl) (fun w m => NewCh.ofB m [0] rfl)



end
section
open Go.RowKit
set_option maxRecDepth 100000 in
set_option maxHeartbeats 8000000 in
theorem w_laws_FnPassPacket {w0 : World} {F : Nat → Prop} {v1 : Value} {code_0 : (List UInt8)} {κ : Bool → Prop} (hF : ∀ b, F b → b < w0.heap.size ∧ ¬ feet [] b) (hv1 : Sl elU8 F w0 v1 code_0) (hgl0 : Sl elGFieldShape F w0 (.slice (some ⟨0, 0, none⟩) 4 4) gl_impl_fieldShapes) (h : L_laws_FnPassPacket code_0 κ) :
    Calls Tryd.prog 8 #[v1] w0 (Ret [] F w0 κ (fun (r : Bool) (u : Unit) => (.bool r)) (fun (r : Bool) (u : Unit) => [])) := by
  refine enterS (args := [v1]) [] hF (Given.nil _ _) Tryd.func8 rfl Tryd.ntmps8 rfl h ?_
  clear h hF
  refine c_seq ?_
  refine c_region ?_
  refine o_as st rfl rfl ?_
  refine c_nil ?_
  refine l_then ?_
  refine c_seq ?_
  refine c_seq ?_
  refine c_region ?_
  refine o_mv st rfl rfl ?_
  refine o_len st el22 0 rfl (reads_snap hv1) rfl rfl ?_
  refine o_gtr st rfl rfl rfl ?_
  refine c_nil ?_
  refine l_then ?_
  refine c_cond rfl ?_ ?_
  · refine c_seq ?_
    refine c_region ?_
    refine o_as st rfl rfl ?_
    refine c_nil ?_
    refine l_then ?_
    refine c_ret ?_
    refine l_ret ?_
    exact l_end1 Tryd.results8 true () (rv_t rfl) (fun _ _ => NewCh.nil _ _ _ _)
  · refine c_skip ?_
    refine l_then ?_
    refine c_seq ?_
    refine c_region ?_
    refine o_mv st rfl rfl ?_
    refine stw (o_callP (vs := [v1]) Tryd.call28 rfl rfl (by intro w m h; exact (w_spec_DrawPassPacket (F := allB [] w) (code_0 := code_0) allB_ok (m.rd0 0 rfl (reads_snap hv1)) h).mono (fun _ _ k => ret_free (fun r u => (fr_cons free_dp (fr_cons (free_own flelGFlow) fr_nil))) k)) ?_); rintro ⟨r3, r7, r10, r11, r12⟩ ⟨v4, bb5, v8⟩
    refine o_mv st rfl rfl ?_
    refine o_ext st (vs := [(.agg #[v4, (.bool r3.xAccept)]), v8, (.agg #[(.int .i64 r10.xFrom), (.int .i64 r10.xTo), (.int .i64 r10.xPort), (.int .i64 r10.xProto)]), (.int .i64 r11), (.int .i64 r12)]) rfl rfl rfl ?_
    refine o_ext st (vs := [(.agg #[v4, (.bool r3.xAccept)]), v8, (.agg #[(.int .i64 r10.xFrom), (.int .i64 r10.xTo), (.int .i64 r10.xPort), (.int .i64 r10.xProto)]), (.int .i64 r11), (.int .i64 r12)]) rfl rfl rfl ?_
    refine o_ext st (vs := [(.agg #[v4, (.bool r3.xAccept)]), v8, (.agg #[(.int .i64 r10.xFrom), (.int .i64 r10.xTo), (.int .i64 r10.xPort), (.int .i64 r10.xProto)]), (.int .i64 r11), (.int .i64 r12)]) rfl rfl rfl ?_
    refine o_ext st (vs := [(.agg #[v4, (.bool r3.xAccept)]), v8, (.agg #[(.int .i64 r10.xFrom), (.int .i64 r10.xTo), (.int .i64 r10.xPort), (.int .i64 r10.xProto)]), (.int .i64 r11), (.int .i64 r12)]) rfl rfl rfl ?_
    refine o_ext st (vs := [(.agg #[v4, (.bool r3.xAccept)]), v8, (.agg #[(.int .i64 r10.xFrom), (.int .i64 r10.xTo), (.int .i64 r10.xPort), (.int .i64 r10.xProto)]), (.int .i64 r11), (.int .i64 r12)]) rfl rfl rfl ?_
    refine stw (o_alloc rfl [(.slice none 0 0), (.bool false)] zero25 ?_); intro b13
    refine stw (o_alloc rfl [(.int .i64 0), (.int .i64 0), (.int .i64 0), (.int .i64 0)] zero40 ?_); intro b15
    refine nx_dp 2 rfl ?_; rintro a17 l18 q19 rfl
    refine stw (o_stc (cs' := [(.slice a17 l18 q19), (.bool r3.xAccept)]) 1 rfl rfl rfl ty25 rfl rfl rfl rfl ?_)
    refine o_as st rfl rfl ?_
    refine stw (o_stc (cs' := [(.int .i64 r10.xFrom), (.int .i64 r10.xTo), (.int .i64 r10.xPort), (.int .i64 r10.xProto)]) 0 rfl rfl rfl ty40 rfl rfl rfl rfl ?_)
    refine o_as st rfl rfl ?_
    refine o_as st rfl rfl ?_
    refine c_nil ?_
    refine l_then ?_
    refine c_seq ?_
    refine c_region ?_
    refine o_ldc st (v := (.agg #[(.slice a17 l18 q19), (.bool r3.xAccept)])) 1 rfl rfl rfl ty25 rfl ?_
    refine o_mv st rfl rfl ?_
    refine o_ldc st (v := (.agg #[(.int .i64 r10.xFrom), (.int .i64 r10.xTo), (.int .i64 r10.xPort), (.int .i64 r10.xProto)])) 0 rfl rfl rfl ty40 rfl ?_
    refine o_mv st rfl rfl ?_
    refine o_mv st rfl rfl ?_
    refine stw (o_callP (vs := [(.agg #[(.slice a17 l18 q19), (.bool r3.xAccept)]), v8, (.agg #[(.int .i64 r10.xFrom), (.int .i64 r10.xTo), (.int .i64 r10.xPort), (.int .i64 r10.xProto)]), (.int .i64 r11), (.int .i64 r12)]) Tryd.call29 rfl rfl (by intro w m h; exact (w_impl_PassPacket (F := allB [] w) (s_0 := r3) (list_1 := r7) (p_2 := r10) (now_3 := r11) (life_4 := r12) allB_ok (m.rd0 2 rfl reads_dp) (m.rd0 3 rfl reads_own) (m.rd0 4 rfl (reads_snap hgl0)) h).mono (fun _ _ k => ret_free (fun r u => (fr_cons (free_own flelGFlow) fr_nil)) k)) ?_); rintro ⟨r20, r23⟩ v21
    refine o_mv st rfl rfl ?_
    refine o_ext st (vs := [v21, (.bool r23)]) rfl rfl rfl ?_
    refine o_ext st (vs := [v21, (.bool r23)]) rfl rfl rfl ?_
    refine o_as st rfl rfl ?_
    refine o_as st rfl rfl ?_
    refine c_nil ?_
    refine l_then ?_
    refine c_seq ?_
    refine c_region ?_
    refine o_ldc st (v := (.agg #[(.slice a17 l18 q19), (.bool r3.xAccept)])) 2 rfl rfl rfl ty25 rfl ?_
    refine o_mv st rfl rfl ?_
    refine o_ldc st (v := (.agg #[(.int .i64 r10.xFrom), (.int .i64 r10.xTo), (.int .i64 r10.xPort), (.int .i64 r10.xProto)])) 1 rfl rfl rfl ty40 rfl ?_
    refine o_mv st rfl rfl ?_
    refine o_mv st rfl rfl ?_
    refine stw (o_callP (vs := [(.agg #[(.slice a17 l18 q19), (.bool r3.xAccept)]), v8, (.agg #[(.int .i64 r10.xFrom), (.int .i64 r10.xTo), (.int .i64 r10.xPort), (.int .i64 r10.xProto)]), (.int .i64 r11), (.int .i64 r12)]) Tryd.call30 rfl rfl (by intro w m h; exact (w_spec_PassPacket (F := allB [] w) (s_0 := r3) (list_1 := r7) (p_2 := r10) (now_3 := r11) (life_4 := r12) allB_ok (m.rd0 3 rfl reads_dp) (m.rd0 4 rfl reads_own) h).mono (fun _ _ k => ret_free (fun r u => (fr_cons (free_own flelGFlow) fr_nil)) k)) ?_); rintro ⟨r24, r27⟩ v25
    refine o_mv st rfl rfl ?_
    refine o_ext st (vs := [v25, (.bool r27)]) rfl rfl rfl ?_
    refine o_ext st (vs := [v25, (.bool r27)]) rfl rfl rfl ?_
    refine o_as st rfl rfl ?_
    refine o_as st rfl rfl ?_
    refine c_nil ?_
    refine l_then ?_
    refine c_seq ?_
    refine c_join (σ := Bool) (fun (t89 : Bool) (a : Act) (w : World) => Has 133 [(3, (.pointer (some ⟨b13, 0, none⟩))), (5, (.pointer (some ⟨b15, 0, none⟩))), (4, v8), (6, (.int .i64 r11)), (7, (.int .i64 r12)), (8, v21), (9, (.bool r23)), (50, (.bool t89))] a ∧ Mem (gB F [] w0) (feet []) w0 [ownCh elGFlow 110 v21 r20, cellCh b15 [(.int .i64 r10.xFrom), (.int .i64 r10.xTo), (.int .i64 r10.xPort), (.int .i64 r10.xProto)] 40, cellCh b13 [(.slice a17 l18 q19), (.bool r3.xAccept)] 25, dpCh (dSl dGRule 104) 101 bb5 (.slice a17 l18 q19) r3.xChains, ownCh elGFlow 110 v8 r7, snapCh w0 F] w) ?_ ?_
    · intro k90
      refine c_region ?_
      refine o_mv st rfl rfl ?_
      refine o_mv st rfl rfl ?_
      refine stw (o_callP (vs := [v21, v25]) Tryd.call31 rfl rfl (by intro w m h; exact (w_laws_sameFlows (F := allB [] w) (a_0 := r20) (b_1 := r24) allB_ok (m.rd0 1 rfl reads_own) (m.rd0 0 rfl reads_own) h).mono (fun _ _ k => ret_free (fun r u => fr_nil) k)) ?_); rintro r28 _
      refine o_not st rfl rfl ?_
      refine o_mv st rfl rfl ?_
      refine st_sp (dj := 46) rfl ?_ ?_
      · refine st_s rfl rfl rfl rfl ?_
        refine st_s rfl rfl rfl rfl ?_
        refine st_s rfl rfl rfl rfl ?_
        refine o_pickT st rfl rfl rfl ?_
        refine c_nil ?_
        exact l_join true (fun a w hE hm => ⟨hE.sub ⟨rfl, rfl, rfl, rfl, rfl, rfl, rfl, rfl, trivial⟩, (hm.pick [1, 2, 3, 4, 5, 6] rfl)⟩)
      · refine o_mv (st_g rfl rfl) rfl rfl ?_
        refine o_mv (st_g rfl rfl) rfl rfl ?_
        refine o_neqB (st_g rfl rfl) und4 rfl rfl rfl ?_
        refine o_pickF st rfl rfl rfl ?_
        refine c_nil ?_
        exact l_join (!(decide (r23 = r27))) (fun a w hE hm => ⟨hE.sub ⟨rfl, rfl, rfl, rfl, rfl, rfl, rfl, rfl, trivial⟩, (hm.pick [1, 2, 3, 4, 5, 6] rfl)⟩)
    · rintro t89 a w ⟨hE, hm⟩ h
      refine nx_of hE hm h ?_
      clear hE hm h
      refine c_cond rfl ?_ ?_
      · refine c_seq ?_
        refine c_region ?_
        refine o_as st rfl rfl ?_
        refine c_nil ?_
        refine l_then ?_
        refine c_ret ?_
        refine l_ret ?_
        exact l_end1 Tryd.results8 false () (rv_t rfl) (fun _ _ => NewCh.nil _ _ _ _)
      · refine c_skip ?_
        refine l_then ?_
        refine c_seq ?_
        refine c_join (σ := Bool) (fun (t154 : Bool) (a : Act) (w : World) => Has 133 [(3, (.pointer (some ⟨b13, 0, none⟩))), (5, (.pointer (some ⟨b15, 0, none⟩))), (4, v8), (6, (.int .i64 r11)), (8, v21), (9, (.bool r23)), (79, (.bool t154))] a ∧ Mem (gB F [] w0) (feet []) w0 [ownCh elGFlow 110 v21 r20, cellCh b15 [(.int .i64 r10.xFrom), (.int .i64 r10.xTo), (.int .i64 r10.xPort), (.int .i64 r10.xProto)] 40, cellCh b13 [(.slice a17 l18 q19), (.bool r3.xAccept)] 25, dpCh (dSl dGRule 104) 101 bb5 (.slice a17 l18 q19) r3.xChains, ownCh elGFlow 110 v8 r7, snapCh w0 F] w) ?_ ?_
        · intro k155
          refine c_region ?_
          refine o_ldc st (v := (.agg #[(.slice a17 l18 q19), (.bool r3.xAccept)])) 2 rfl rfl rfl ty25 rfl ?_
          refine stw (o_callP (vs := [(.agg #[(.slice a17 l18 q19), (.bool r3.xAccept)])]) Tryd.call22 rfl rfl (by intro w m h; exact (w_spec_RulesetValid (F := allB [] w) (s_0 := r3) allB_ok (m.rd0 3 rfl reads_dp) h).mono (fun _ _ k => ret_free (fun r u => fr_nil) k)) ?_); rintro r91 _
          refine o_not st rfl rfl ?_
          refine o_mv st rfl rfl ?_
          refine st_sp (dj := 54) rfl ?_ ?_
          · refine st_s rfl rfl rfl rfl ?_
            refine st_s rfl rfl rfl rfl ?_
            refine st_s rfl rfl rfl rfl ?_
            refine o_pickT st rfl rfl rfl ?_
            refine o_mv st rfl rfl ?_
            refine st_s rfl rfl rfl rfl ?_
            refine st_s rfl rfl rfl rfl ?_
            refine st_s rfl rfl rfl rfl ?_
            refine o_pickT st rfl rfl rfl ?_
            refine o_mv st rfl rfl ?_
            refine st_s rfl rfl rfl rfl ?_
            refine st_s rfl rfl rfl rfl ?_
            refine o_pickT st rfl rfl rfl ?_
            refine o_mv st rfl rfl ?_
            refine st_s rfl rfl rfl rfl ?_
            refine st_s rfl rfl rfl rfl ?_
            refine o_pickT st rfl rfl rfl ?_
            refine o_mv st rfl rfl ?_
            refine st_s rfl rfl rfl rfl ?_
            refine st_s rfl rfl rfl rfl ?_
            refine o_pickT st rfl rfl rfl ?_
            refine o_mv st rfl rfl ?_
            refine st_s rfl rfl rfl rfl ?_
            refine st_s rfl rfl rfl rfl ?_
            refine o_pickT st rfl rfl rfl ?_
            refine c_nil ?_
            exact l_join true (fun a w hE hm => ⟨hE.sub ⟨rfl, rfl, rfl, rfl, rfl, rfl, rfl, trivial⟩, (hm.pick [0, 1, 2, 3, 4, 5] rfl)⟩)
          · refine o_mv (st_g rfl rfl) rfl rfl ?_
            refine st_gw rfl rfl (o_callP (vs := [v8]) Tryd.call32 rfl rfl (by intro w m h; exact (w_spec_FlowsValid (F := allB [] w) (list_0 := r7) allB_ok (m.rd0 4 rfl reads_own) h).mono (fun _ _ k => ret_free (fun r u => fr_nil) k)) ?_); rintro r92 _
            refine o_not (st_g rfl rfl) rfl rfl ?_
            refine o_pickF st rfl rfl rfl ?_
            refine o_mv st rfl rfl ?_
            refine st_sp (dj := 59) rfl ?_ ?_
            · refine st_s rfl rfl rfl rfl ?_
              refine st_s rfl rfl rfl rfl ?_
              refine st_s rfl rfl rfl rfl ?_
              refine o_pickT st rfl rfl rfl ?_
              refine o_mv st rfl rfl ?_
              refine st_s rfl rfl rfl rfl ?_
              refine st_s rfl rfl rfl rfl ?_
              refine o_pickT st rfl rfl rfl ?_
              refine o_mv st rfl rfl ?_
              refine st_s rfl rfl rfl rfl ?_
              refine st_s rfl rfl rfl rfl ?_
              refine o_pickT st rfl rfl rfl ?_
              refine o_mv st rfl rfl ?_
              refine st_s rfl rfl rfl rfl ?_
              refine st_s rfl rfl rfl rfl ?_
              refine o_pickT st rfl rfl rfl ?_
              refine o_mv st rfl rfl ?_
              refine st_s rfl rfl rfl rfl ?_
              refine st_s rfl rfl rfl rfl ?_
              refine o_pickT st rfl rfl rfl ?_
              refine c_nil ?_
              exact l_join true (fun a w hE hm => ⟨hE.sub ⟨rfl, rfl, rfl, rfl, rfl, rfl, rfl, trivial⟩, (hm.pick [0, 1, 2, 3, 4, 5] rfl)⟩)
            · refine o_ldc (st_g rfl rfl) (v := (.agg #[(.int .i64 r10.xFrom), (.int .i64 r10.xTo), (.int .i64 r10.xPort), (.int .i64 r10.xProto)])) 1 rfl rfl rfl ty40 rfl ?_
              refine st_gw rfl rfl (o_callP (vs := [(.agg #[(.int .i64 r10.xFrom), (.int .i64 r10.xTo), (.int .i64 r10.xPort), (.int .i64 r10.xProto)])]) Tryd.call23 rfl rfl (by intro w m h; exact (w_spec_PacketValid (F := allB [] w) (p_0 := r10) allB_ok h).mono (fun _ _ k => ret_free (fun r u => fr_nil) k)) ?_); rintro r93 _
              refine o_not (st_g rfl rfl) rfl rfl ?_
              refine o_pickF st rfl rfl rfl ?_
              refine o_mv st rfl rfl ?_
              refine st_sp (dj := 64) rfl ?_ ?_
              · refine st_s rfl rfl rfl rfl ?_
                refine st_s rfl rfl rfl rfl ?_
                refine o_pickT st rfl rfl rfl ?_
                refine o_mv st rfl rfl ?_
                refine st_s rfl rfl rfl rfl ?_
                refine st_s rfl rfl rfl rfl ?_
                refine o_pickT st rfl rfl rfl ?_
                refine o_mv st rfl rfl ?_
                refine st_s rfl rfl rfl rfl ?_
                refine st_s rfl rfl rfl rfl ?_
                refine o_pickT st rfl rfl rfl ?_
                refine o_mv st rfl rfl ?_
                refine st_s rfl rfl rfl rfl ?_
                refine st_s rfl rfl rfl rfl ?_
                refine o_pickT st rfl rfl rfl ?_
                refine c_nil ?_
                exact l_join true (fun a w hE hm => ⟨hE.sub ⟨rfl, rfl, rfl, rfl, rfl, rfl, rfl, trivial⟩, (hm.pick [0, 1, 2, 3, 4, 5] rfl)⟩)
              · refine o_mv (st_g rfl rfl) rfl rfl ?_
                refine o_lss (st_g rfl rfl) rfl rfl rfl ?_
                refine o_pickF st rfl rfl rfl ?_
                refine o_mv st rfl rfl ?_
                refine st_sp (dj := 68) rfl ?_ ?_
                · refine st_s rfl rfl rfl rfl ?_
                  refine st_s rfl rfl rfl rfl ?_
                  refine o_pickT st rfl rfl rfl ?_
                  refine o_mv st rfl rfl ?_
                  refine st_s rfl rfl rfl rfl ?_
                  refine st_s rfl rfl rfl rfl ?_
                  refine o_pickT st rfl rfl rfl ?_
                  refine o_mv st rfl rfl ?_
                  refine st_s rfl rfl rfl rfl ?_
                  refine st_s rfl rfl rfl rfl ?_
                  refine o_pickT st rfl rfl rfl ?_
                  refine c_nil ?_
                  exact l_join true (fun a w hE hm => ⟨hE.sub ⟨rfl, rfl, rfl, rfl, rfl, rfl, rfl, trivial⟩, (hm.pick [0, 1, 2, 3, 4, 5] rfl)⟩)
                · refine o_mv (st_g rfl rfl) rfl rfl ?_
                  refine o_gtr (st_g rfl rfl) rfl rfl rfl ?_
                  refine o_pickF st rfl rfl rfl ?_
                  refine o_mv st rfl rfl ?_
                  refine st_sp (dj := 72) rfl ?_ ?_
                  · refine st_s rfl rfl rfl rfl ?_
                    refine st_s rfl rfl rfl rfl ?_
                    refine o_pickT st rfl rfl rfl ?_
                    refine o_mv st rfl rfl ?_
                    refine st_s rfl rfl rfl rfl ?_
                    refine st_s rfl rfl rfl rfl ?_
                    refine o_pickT st rfl rfl rfl ?_
                    refine c_nil ?_
                    exact l_join true (fun a w hE hm => ⟨hE.sub ⟨rfl, rfl, rfl, rfl, rfl, rfl, rfl, trivial⟩, (hm.pick [0, 1, 2, 3, 4, 5] rfl)⟩)
                  · refine o_mv (st_g rfl rfl) rfl rfl ?_
                    refine o_lss (st_g rfl rfl) rfl rfl rfl ?_
                    refine o_pickF st rfl rfl rfl ?_
                    refine o_mv st rfl rfl ?_
                    refine st_sp (dj := 76) rfl ?_ ?_
                    · refine st_s rfl rfl rfl rfl ?_
                      refine st_s rfl rfl rfl rfl ?_
                      refine o_pickT st rfl rfl rfl ?_
                      refine c_nil ?_
                      exact l_join true (fun a w hE hm => ⟨hE.sub ⟨rfl, rfl, rfl, rfl, rfl, rfl, rfl, trivial⟩, (hm.pick [0, 1, 2, 3, 4, 5] rfl)⟩)
                    · refine o_mv (st_g rfl rfl) rfl rfl ?_
                      refine o_gtr (st_g rfl rfl) rfl rfl rfl ?_
                      refine o_pickF st rfl rfl rfl ?_
                      refine c_nil ?_
                      exact l_join (decide (1000 < r12)) (fun a w hE hm => ⟨hE.sub ⟨rfl, rfl, rfl, rfl, rfl, rfl, rfl, trivial⟩, (hm.pick [0, 1, 2, 3, 4, 5] rfl)⟩)
        · rintro t154 a w ⟨hE, hm⟩ h
          refine nx_of hE hm h ?_
          clear hE hm h
          refine c_cond rfl ?_ ?_
          · refine c_join (σ := Bool) (fun (t217 : Bool) (a : Act) (w : World) => Has 133 [(2, (.bool t217))] a ∧ Mem (gB F [] w0) (feet []) w0 [snapCh w0 F] w) ?_ ?_
            · intro k218
              refine c_region ?_
              refine o_mv st rfl rfl ?_
              refine o_not st rfl rfl ?_
              refine o_mv st rfl rfl ?_
              refine st_sp (dj := 82) rfl ?_ ?_
              · refine o_mv (st_g rfl rfl) rfl rfl ?_
                refine o_len (st_g rfl rfl) el53 0 rfl reads_own rfl rfl ?_
                refine o_eql (st_g rfl rfl) und3 rfl rfl rfl ?_
                refine o_pickT st rfl rfl rfl ?_
                refine o_mv st rfl rfl ?_
                refine st_sp (dj := 87) rfl ?_ ?_
                · refine st_gw rfl rfl (o_callP (vs := []) Tryd.call14 rfl rfl (by intro w m h; exact (w_laws_alive (F := allB [] w) allB_ok h).mono (fun _ _ k => ret_free (fun r u => fr_nil) k)) ?_); rintro r156 _
                  refine o_pickT st rfl rfl rfl ?_
                  refine o_as st rfl rfl ?_
                  refine c_nil ?_
                  exact l_join r156 (fun a w hE hm => ⟨hE.sub ⟨rfl, trivial⟩, (hm.pick [5] rfl)⟩)
                · refine st_s rfl rfl rfl rfl ?_
                  refine o_pickF st rfl rfl rfl ?_
                  refine o_as st rfl rfl ?_
                  refine c_nil ?_
                  exact l_join false (fun a w hE hm => ⟨hE.sub ⟨rfl, trivial⟩, (hm.pick [5] rfl)⟩)
              · refine st_s rfl rfl rfl rfl ?_
                refine st_s rfl rfl rfl rfl ?_
                refine st_s rfl rfl rfl rfl ?_
                refine o_pickF st rfl rfl rfl ?_
                refine o_mv st rfl rfl ?_
                refine st_s rfl rfl rfl rfl ?_
                refine o_pickF st rfl rfl rfl ?_
                refine o_as st rfl rfl ?_
                refine c_nil ?_
                exact l_join false (fun a w hE hm => ⟨hE.sub ⟨rfl, trivial⟩, (hm.pick [5] rfl)⟩)
            · rintro t217 a w ⟨hE, hm⟩ h
              refine nx_of hE hm h ?_
              clear hE hm h
              refine c_ret ?_
              refine l_ret ?_
              exact l_end1 Tryd.results8 t217 () (rv_t rfl) (fun _ _ => NewCh.nil _ _ _ _)
          · refine c_skip ?_
            refine l_then ?_
            refine c_join (σ := Bool) (fun (t281 : Bool) (a : Act) (w : World) => Has 133 [(5, (.pointer (some ⟨b15, 0, none⟩))), (4, v8), (6, (.int .i64 r11)), (8, v21), (9, (.bool r23)), (12, (.bool t281))] a ∧ Mem (gB F [] w0) (feet []) w0 [ownCh elGFlow 110 v21 r20, cellCh b15 [(.int .i64 r10.xFrom), (.int .i64 r10.xTo), (.int .i64 r10.xPort), (.int .i64 r10.xProto)] 40, ownCh elGFlow 110 v8 r7, snapCh w0 F] w) ?_ ?_
            · intro k282
              refine c_region ?_
              refine o_mv st rfl rfl ?_
              refine o_ldc st (v := (.agg #[(.int .i64 r10.xFrom), (.int .i64 r10.xTo), (.int .i64 r10.xPort), (.int .i64 r10.xProto)])) 1 rfl rfl rfl ty40 rfl ?_
              refine o_mv st rfl rfl ?_
              refine stw (o_callP (vs := [v8, (.agg #[(.int .i64 r10.xFrom), (.int .i64 r10.xTo), (.int .i64 r10.xPort), (.int .i64 r10.xProto)]), (.int .i64 r11)]) Tryd.call33 rfl rfl (by intro w m h; exact (w_impl_KnownFlow (F := allB [] w) (list_0 := r7) (p_1 := r10) (now_2 := r11) allB_ok (m.rd0 4 rfl reads_own) (m.rd0 5 rfl (reads_snap hgl0)) h).mono (fun _ _ k => ret_free (fun r u => fr_nil) k)) ?_); rintro r219 _
              refine o_geq st rfl rfl rfl ?_
              refine o_mv st rfl rfl ?_
              refine st_sp (dj := 95) rfl ?_ ?_
              · refine st_s rfl rfl rfl rfl ?_
                refine st_s rfl rfl rfl rfl ?_
                refine st_s rfl rfl rfl rfl ?_
                refine o_pickT st rfl rfl rfl ?_
                refine o_as st rfl rfl ?_
                refine c_nil ?_
                exact l_join true (fun a w hE hm => ⟨hE.sub ⟨rfl, rfl, rfl, rfl, rfl, rfl, trivial⟩, (hm.pick [0, 1, 4, 5] rfl)⟩)
              · refine o_ldc (st_g rfl rfl) (v := (.agg #[(.slice a17 l18 q19), (.bool r3.xAccept)])) 2 rfl rfl rfl ty25 rfl ?_
                refine o_ldc (st_g rfl rfl) (v := (.agg #[(.int .i64 r10.xFrom), (.int .i64 r10.xTo), (.int .i64 r10.xPort), (.int .i64 r10.xProto)])) 1 rfl rfl rfl ty40 rfl ?_
                refine st_gw rfl rfl (o_callP (vs := [(.agg #[(.slice a17 l18 q19), (.bool r3.xAccept)]), (.agg #[(.int .i64 r10.xFrom), (.int .i64 r10.xTo), (.int .i64 r10.xPort), (.int .i64 r10.xProto)])]) Tryd.call27 rfl rfl (by intro w m h; exact (w_impl_Judge (F := allB [] w) (s_0 := r3) (p_1 := r10) allB_ok (m.rd0 3 rfl reads_dp) (m.rd0 5 rfl (reads_snap hgl0)) h).mono (fun _ _ k => ret_free (fun r u => fr_nil) k)) ?_); rintro r220 _
                refine o_pickF st rfl rfl rfl ?_
                refine o_as st rfl rfl ?_
                refine c_nil ?_
                exact l_join r220 (fun a w hE hm => ⟨hE.sub ⟨rfl, rfl, rfl, rfl, rfl, rfl, trivial⟩, (hm.pick [0, 1, 4, 5] rfl)⟩)
            · rintro t281 a w ⟨hE, hm⟩ h
              refine nx_of hE hm h ?_
              clear hE hm h
              refine c_join (σ := Bool) (fun (t357 : Bool) (a : Act) (w : World) => Has 133 [(2, (.bool t357))] a ∧ Mem (gB F [] w0) (feet []) w0 [snapCh w0 F] w) ?_ ?_
              · intro k358
                refine c_region ?_
                refine o_mv st rfl rfl ?_
                refine o_mv st rfl rfl ?_
                refine o_eqlB st und4 rfl rfl rfl ?_
                refine o_mv st rfl rfl ?_
                refine st_sp (dj := 103) rfl ?_ ?_
                · refine o_mv (st_g rfl rfl) rfl rfl ?_
                  refine st_gw rfl rfl (o_callP (vs := [v21]) Tryd.call34 rfl rfl (by intro w m h; exact (w_impl_FlowsValid (F := allB [] w) (list_0 := r20) allB_ok (m.rd0 0 rfl reads_own) (m.rd0 3 rfl (reads_snap hgl0)) h).mono (fun _ _ k => ret_free (fun r u => fr_nil) k)) ?_); rintro r283 _
                  refine o_pickT st rfl rfl rfl ?_
                  refine o_mv st rfl rfl ?_
                  refine st_sp (dj := 107) rfl ?_ ?_
                  · refine o_mv (st_g rfl rfl) rfl rfl ?_
                    refine o_not (st_g rfl rfl) rfl rfl ?_
                    refine o_mv (st_g rfl rfl) rfl rfl ?_
                    refine st_sp (dj := 110) rfl ?_ ?_
                    · refine st_s rfl rfl rfl rfl ?_
                      refine st_s rfl rfl rfl rfl ?_
                      refine st_s rfl rfl rfl rfl ?_
                      refine st_s rfl rfl rfl rfl ?_
                      refine st_s rfl rfl rfl rfl ?_
                      refine o_pickT (st_g rfl rfl) rfl rfl rfl ?_
                      refine o_mv (st_g rfl rfl) rfl rfl ?_
                      refine st_s rfl rfl rfl rfl ?_
                      refine st_s rfl rfl rfl rfl ?_
                      refine st_s rfl rfl rfl rfl ?_
                      refine o_pickT (st_g rfl rfl) rfl rfl rfl ?_
                      refine o_pickT st rfl rfl rfl ?_
                      refine o_mv st rfl rfl ?_
                      refine o_mv (st_g rfl rfl) rfl rfl ?_
                      refine o_mv (st_g rfl rfl) rfl rfl ?_
                      refine st_sp (dj := 125) rfl ?_ ?_
                      · refine st_s rfl rfl rfl rfl ?_
                        refine st_s rfl rfl rfl rfl ?_
                        refine st_s rfl rfl rfl rfl ?_
                        refine st_s rfl rfl rfl rfl ?_
                        refine st_s rfl rfl rfl rfl ?_
                        refine o_pickT (st_g rfl rfl) rfl rfl rfl ?_
                        refine o_pickT st rfl rfl rfl ?_
                        refine o_as st rfl rfl ?_
                        refine c_nil ?_
                        exact l_join true (fun a w hE hm => ⟨hE.sub ⟨rfl, trivial⟩, (hm.pick [3] rfl)⟩)
                      · refine o_mv (st_g rfl rfl) rfl rfl ?_
                        refine o_mv (st_g rfl rfl) rfl rfl ?_
                        refine o_mv (st_g rfl rfl) rfl rfl ?_
                        refine st_gw rfl rfl (o_callP (vs := [v8, (.int .i64 r11)]) Tryd.call35 rfl rfl (by intro w m h; exact (w_impl_ExpireFlows (F := allB [] w) (list_0 := r7) (now_1 := r11) allB_ok (m.rd0 2 rfl reads_own) (m.rd0 3 rfl (reads_snap hgl0)) h).mono (fun _ _ k => ret_free (fun r u => (fr_cons (free_own flelGFlow) fr_nil)) k)) ?_); rintro r284 v285
                        refine st_gw rfl rfl (o_callP (vs := [v21, v285]) Tryd.call31 rfl rfl (by intro w m h; exact (w_laws_sameFlows (F := allB [] w) (a_0 := r20) (b_1 := r284) allB_ok (m.rd0 1 rfl reads_own) (m.rd0 0 rfl reads_own) h).mono (fun _ _ k => ret_free (fun r u => fr_nil) k)) ?_); rintro r287 _
                        refine o_pickF (st_g rfl rfl) rfl rfl rfl ?_
                        refine o_pickT st rfl rfl rfl ?_
                        refine o_as st rfl rfl ?_
                        refine c_nil ?_
                        exact l_join r287 (fun a w hE hm => ⟨hE.sub ⟨rfl, trivial⟩, (hm.pick [4] rfl)⟩)
                    · refine o_mv (st_g rfl rfl) rfl rfl ?_
                      refine o_ldc (st_g rfl rfl) (v := (.agg #[(.int .i64 r10.xFrom), (.int .i64 r10.xTo), (.int .i64 r10.xPort), (.int .i64 r10.xProto)])) 1 rfl rfl rfl ty40 rfl ?_
                      refine o_mv (st_g rfl rfl) rfl rfl ?_
                      refine st_gw rfl rfl (o_callP (vs := [v21, (.agg #[(.int .i64 r10.xFrom), (.int .i64 r10.xTo), (.int .i64 r10.xPort), (.int .i64 r10.xProto)]), (.int .i64 r11)]) Tryd.call33 rfl rfl (by intro w m h; exact (w_impl_KnownFlow (F := allB [] w) (list_0 := r20) (p_1 := r10) (now_2 := r11) allB_ok (m.rd0 0 rfl reads_own) (m.rd0 3 rfl (reads_snap hgl0)) h).mono (fun _ _ k => ret_free (fun r u => fr_nil) k)) ?_); rintro r288 _
                      refine o_geq (st_g rfl rfl) rfl rfl rfl ?_
                      refine o_pickF (st_g rfl rfl) rfl rfl rfl ?_
                      refine o_mv (st_g rfl rfl) rfl rfl ?_
                      refine st_sp (dj := 117) rfl ?_ ?_
                      · refine st_s rfl rfl rfl rfl ?_
                        refine st_s rfl rfl rfl rfl ?_
                        refine st_s rfl rfl rfl rfl ?_
                        refine o_pickT (st_g rfl rfl) rfl rfl rfl ?_
                        refine o_pickT st rfl rfl rfl ?_
                        refine o_mv st rfl rfl ?_
                        refine o_mv (st_g rfl rfl) rfl rfl ?_
                        refine o_mv (st_g rfl rfl) rfl rfl ?_
                        refine st_sp (dj := 125) rfl ?_ ?_
                        · refine st_s rfl rfl rfl rfl ?_
                          refine st_s rfl rfl rfl rfl ?_
                          refine st_s rfl rfl rfl rfl ?_
                          refine st_s rfl rfl rfl rfl ?_
                          refine st_s rfl rfl rfl rfl ?_
                          refine o_pickT (st_g rfl rfl) rfl rfl rfl ?_
                          refine o_pickT st rfl rfl rfl ?_
                          refine o_as st rfl rfl ?_
                          refine c_nil ?_
                          exact l_join true (fun a w hE hm => ⟨hE.sub ⟨rfl, trivial⟩, (hm.pick [3] rfl)⟩)
                        · refine o_mv (st_g rfl rfl) rfl rfl ?_
                          refine o_mv (st_g rfl rfl) rfl rfl ?_
                          refine o_mv (st_g rfl rfl) rfl rfl ?_
                          refine st_gw rfl rfl (o_callP (vs := [v8, (.int .i64 r11)]) Tryd.call35 rfl rfl (by intro w m h; exact (w_impl_ExpireFlows (F := allB [] w) (list_0 := r7) (now_1 := r11) allB_ok (m.rd0 2 rfl reads_own) (m.rd0 3 rfl (reads_snap hgl0)) h).mono (fun _ _ k => ret_free (fun r u => (fr_cons (free_own flelGFlow) fr_nil)) k)) ?_); rintro r289 v290
                          refine st_gw rfl rfl (o_callP (vs := [v21, v290]) Tryd.call31 rfl rfl (by intro w m h; exact (w_laws_sameFlows (F := allB [] w) (a_0 := r20) (b_1 := r289) allB_ok (m.rd0 1 rfl reads_own) (m.rd0 0 rfl reads_own) h).mono (fun _ _ k => ret_free (fun r u => fr_nil) k)) ?_); rintro r292 _
                          refine o_pickF (st_g rfl rfl) rfl rfl rfl ?_
                          refine o_pickT st rfl rfl rfl ?_
                          refine o_as st rfl rfl ?_
                          refine c_nil ?_
                          exact l_join r292 (fun a w hE hm => ⟨hE.sub ⟨rfl, trivial⟩, (hm.pick [4] rfl)⟩)
                      · refine o_mv (st_g rfl rfl) rfl rfl ?_
                        refine o_len (st_g rfl rfl) el53 0 rfl reads_own rfl rfl ?_
                        refine o_eql (st_g rfl rfl) und3 rfl rfl rfl ?_
                        refine o_pickF (st_g rfl rfl) rfl rfl rfl ?_
                        refine o_pickT st rfl rfl rfl ?_
                        refine o_mv st rfl rfl ?_
                        refine st_sp (dj := 123) rfl ?_ ?_
                        · refine o_mv (st_g rfl rfl) rfl rfl ?_
                          refine o_mv (st_g rfl rfl) rfl rfl ?_
                          refine st_sp (dj := 125) rfl ?_ ?_
                          · refine st_s rfl rfl rfl rfl ?_
                            refine st_s rfl rfl rfl rfl ?_
                            refine st_s rfl rfl rfl rfl ?_
                            refine st_s rfl rfl rfl rfl ?_
                            refine st_s rfl rfl rfl rfl ?_
                            refine o_pickT (st_g rfl rfl) rfl rfl rfl ?_
                            refine o_pickT st rfl rfl rfl ?_
                            refine o_as st rfl rfl ?_
                            refine c_nil ?_
                            exact l_join true (fun a w hE hm => ⟨hE.sub ⟨rfl, trivial⟩, (hm.pick [3] rfl)⟩)
                          · refine o_mv (st_g rfl rfl) rfl rfl ?_
                            refine o_mv (st_g rfl rfl) rfl rfl ?_
                            refine o_mv (st_g rfl rfl) rfl rfl ?_
                            refine st_gw rfl rfl (o_callP (vs := [v8, (.int .i64 r11)]) Tryd.call35 rfl rfl (by intro w m h; exact (w_impl_ExpireFlows (F := allB [] w) (list_0 := r7) (now_1 := r11) allB_ok (m.rd0 2 rfl reads_own) (m.rd0 3 rfl (reads_snap hgl0)) h).mono (fun _ _ k => ret_free (fun r u => (fr_cons (free_own flelGFlow) fr_nil)) k)) ?_); rintro r293 v294
                            refine st_gw rfl rfl (o_callP (vs := [v21, v294]) Tryd.call31 rfl rfl (by intro w m h; exact (w_laws_sameFlows (F := allB [] w) (a_0 := r20) (b_1 := r293) allB_ok (m.rd0 1 rfl reads_own) (m.rd0 0 rfl reads_own) h).mono (fun _ _ k => ret_free (fun r u => fr_nil) k)) ?_); rintro r296 _
                            refine o_pickF (st_g rfl rfl) rfl rfl rfl ?_
                            refine o_pickT st rfl rfl rfl ?_
                            refine o_as st rfl rfl ?_
                            refine c_nil ?_
                            exact l_join r296 (fun a w hE hm => ⟨hE.sub ⟨rfl, trivial⟩, (hm.pick [4] rfl)⟩)
                        · refine st_s rfl rfl rfl rfl ?_
                          refine st_s rfl rfl rfl rfl ?_
                          refine st_s rfl rfl rfl rfl ?_
                          refine st_s rfl rfl rfl rfl ?_
                          refine st_s rfl rfl rfl rfl ?_
                          refine st_s rfl rfl rfl rfl ?_
                          refine st_s rfl rfl rfl rfl ?_
                          refine st_s rfl rfl rfl rfl ?_
                          refine o_pickF st rfl rfl rfl ?_
                          refine o_as st rfl rfl ?_
                          refine c_nil ?_
                          exact l_join false (fun a w hE hm => ⟨hE.sub ⟨rfl, trivial⟩, (hm.pick [3] rfl)⟩)
                  · refine st_s rfl rfl rfl rfl ?_
                    refine st_s rfl rfl rfl rfl ?_
                    refine st_s rfl rfl rfl rfl ?_
                    refine st_s rfl rfl rfl rfl ?_
                    refine st_s rfl rfl rfl rfl ?_
                    refine st_s rfl rfl rfl rfl ?_
                    refine st_s rfl rfl rfl rfl ?_
                    refine st_s rfl rfl rfl rfl ?_
                    refine st_s rfl rfl rfl rfl ?_
                    refine st_s rfl rfl rfl rfl ?_
                    refine st_s rfl rfl rfl rfl ?_
                    refine st_s rfl rfl rfl rfl ?_
                    refine st_s rfl rfl rfl rfl ?_
                    refine st_s rfl rfl rfl rfl ?_
                    refine o_pickF st rfl rfl rfl ?_
                    refine o_mv st rfl rfl ?_
                    refine st_s rfl rfl rfl rfl ?_
                    refine st_s rfl rfl rfl rfl ?_
                    refine st_s rfl rfl rfl rfl ?_
                    refine st_s rfl rfl rfl rfl ?_
                    refine st_s rfl rfl rfl rfl ?_
                    refine st_s rfl rfl rfl rfl ?_
                    refine st_s rfl rfl rfl rfl ?_
                    refine st_s rfl rfl rfl rfl ?_
                    refine o_pickF st rfl rfl rfl ?_
                    refine o_as st rfl rfl ?_
                    refine c_nil ?_
                    exact l_join false (fun a w hE hm => ⟨hE.sub ⟨rfl, trivial⟩, (hm.pick [3] rfl)⟩)
                · refine st_s rfl rfl rfl rfl ?_
                  refine st_s rfl rfl rfl rfl ?_
                  refine o_pickF st rfl rfl rfl ?_
                  refine o_mv st rfl rfl ?_
                  refine st_s rfl rfl rfl rfl ?_
                  refine st_s rfl rfl rfl rfl ?_
                  refine st_s rfl rfl rfl rfl ?_
                  refine st_s rfl rfl rfl rfl ?_
                  refine st_s rfl rfl rfl rfl ?_
                  refine st_s rfl rfl rfl rfl ?_
                  refine st_s rfl rfl rfl rfl ?_
                  refine st_s rfl rfl rfl rfl ?_
                  refine st_s rfl rfl rfl rfl ?_
                  refine st_s rfl rfl rfl rfl ?_
                  refine st_s rfl rfl rfl rfl ?_
                  refine st_s rfl rfl rfl rfl ?_
                  refine st_s rfl rfl rfl rfl ?_
                  refine st_s rfl rfl rfl rfl ?_
                  refine o_pickF st rfl rfl rfl ?_
                  refine o_mv st rfl rfl ?_
                  refine st_s rfl rfl rfl rfl ?_
                  refine st_s rfl rfl rfl rfl ?_
                  refine st_s rfl rfl rfl rfl ?_
                  refine st_s rfl rfl rfl rfl ?_
                  refine st_s rfl rfl rfl rfl ?_
                  refine st_s rfl rfl rfl rfl ?_
                  refine st_s rfl rfl rfl rfl ?_
                  refine st_s rfl rfl rfl rfl ?_
                  refine o_pickF st rfl rfl rfl ?_
                  refine o_as st rfl rfl ?_
                  refine c_nil ?_
                  exact l_join false (fun a w hE hm => ⟨hE.sub ⟨rfl, trivial⟩, (hm.pick [3] rfl)⟩)
              · rintro t357 a w ⟨hE, hm⟩ h
                refine nx_of hE hm h ?_
                clear hE hm h
                refine c_ret ?_
                exact l_end1 Tryd.results8 t357 () (rv_t rfl) (fun _ _ => NewCh.nil _ _ _ _)

end

end Go.Proofs.YtigdghiknfehhaaDoor
