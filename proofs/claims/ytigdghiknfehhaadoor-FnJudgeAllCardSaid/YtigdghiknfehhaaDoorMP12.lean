/- Texts of this seat, put together. -/
import Derived.Test.YtigdghiknfehhaaDoorMP1
set_option linter.unusedSimpArgs false
set_option linter.unusedVariables false
namespace Go.Proofs.YtigdghiknfehhaaDoor
section
open Go.RowKit
set_option maxRecDepth 100000 in
set_option maxHeartbeats 8000000 in
theorem w_spec_l20Test {w0 : World} {F : Nat → Prop} {b1 : Nat} {v2 : Value} {r_0_b : (List UInt8)} {r_0_p : Int} {n_1 : Int} {κ : (GTest × Int) → Prop} (hF : ∀ b, F b → b < w0.heap.size ∧ ¬ feet [cellCh b1 [v2, (.int .i64 r_0_p)] 122] b) (hg : Given [cellCh b1 [v2, (.int .i64 r_0_p)] 122] F w0) (hv2 : Sl elU8 F w0 v2 r_0_b) (h : L_spec_l20Test r_0_b r_0_p n_1 κ) :
    Calls Tryd.prog 123 #[(.pointer (some ⟨b1, 0, none⟩)), (.int .i64 n_1)] w0 (Ret [cellCh b1 [v2, (.int .i64 r_0_p)] 122] F w0 κ (fun (r : (GTest × Int)) (u : Unit) => (.agg #[(.int .i64 r.1.xField), (.int .i64 r.1.xLo), (.int .i64 r.1.xHi), (.bool r.1.xNot)])) (fun (r : (GTest × Int)) (u : Unit) => [cellCh b1 [v2, (.int .i64 r.2)] 122])) := by
  refine enterS (args := [(.pointer (some ⟨b1, 0, none⟩)), (.int .i64 n_1)]) [cellCh b1 [v2, (.int .i64 r_0_p)] 122] hF hg Tryd.func123 rfl Tryd.ntmps123 rfl h ?_
  clear h hF hg
  refine c_seq ?_
  refine c_region ?_
  refine stw (o_alloc rfl [(.int .i64 0), (.int .i64 0), (.int .i64 0), (.bool false)] zero173 ?_); intro b5
  refine c_nil ?_
  refine l_then ?_
  refine c_seq ?_
  refine c_region ?_
  refine o_mv st rfl rfl ?_
  refine pk [1, 0, 2] rfl ?_
  refine stw (o_call (vs := [(.pointer (some ⟨b1, 0, none⟩)), (.int .i64 4)]) (M0 := [cellCh b1 [v2, (.int .i64 r_0_p)] 122]) Tryd.call68 rfl rfl (by intro w m h; exact (w_spec_l20Rd_pick (F := allB [cellCh b1 [v2, (.int .i64 r_0_p)] 122] w) (r_0_b := r_0_b) (r_0_p := r_0_p) (n_1 := 4) allB_ok m.given (m.rdM 1 rfl (reads_snap hv2)) h).mono (fun _ _ k => ret_free (fun r u => (fr_cons free_cell fr_nil)) k)) ?_); rintro ⟨r7, r8⟩ _
  refine o_mv st rfl rfl ?_
  refine stw (o_call (vs := [(.pointer (some ⟨b1, 0, none⟩)), (.int .i64 4)]) (M0 := [cellCh b1 [v2, (.int .i64 r8)] 122]) Tryd.call68 rfl rfl (by intro w m h; exact (w_spec_l20Rd_pick (F := allB [cellCh b1 [v2, (.int .i64 r8)] 122] w) (r_0_b := r_0_b) (r_0_p := r8) (n_1 := 4) allB_ok m.given (m.rdM 1 rfl (reads_snap hv2)) h).mono (fun _ _ k => ret_free (fun r u => (fr_cons free_cell fr_nil)) k)) ?_); rintro ⟨r9, r10⟩ _
  refine o_eql st und3 rfl rfl rfl ?_
  refine o_bld st (qs := [(0, (.int .i64 r7)), (3, (.bool (decide (r9 = 0))))]) (cells := [(.int .i64 r7), (.int .i64 0), (.int .i64 0), (.bool (decide (r9 = 0)))]) (by intro ρ h; simp only [List.map_toArray, List.map_cons, List.map_nil, h (.tmp 9) _ rfl, h (.tmp 12) _ rfl]) rfl bld173 rfl ?_
  refine stw (o_alloc rfl [(.int .i64 0), (.int .i64 0), (.int .i64 0), (.bool false)] zero173 ?_); intro b11
  refine stw (o_stc (cs' := [(.int .i64 r7), (.int .i64 0), (.int .i64 0), (.bool (decide (r9 = 0)))]) 0 rfl rfl rfl ty173 rfl rfl rfl rfl ?_)
  refine c_nil ?_
  refine l_then ?_
  refine c_seq ?_
  refine c_region ?_
  refine o_fad st rfl rfl fld173_0 rfl ?_
  refine o_ldc st (v := (.int .i64 r7)) 0 rfl rfl rfl ty3 rfl ?_
  refine stw (o_callP (vs := [(.int .i64 r7)]) Tryd.call113 rfl rfl (by intro w m h; exact (w_spec_FieldTop (F := allB [] w) (n_0 := r7) allB_ok h).mono (fun _ _ k => ret_free (fun r u => fr_nil) k)) ?_); rintro r13 _
  refine o_as st rfl rfl ?_
  refine c_nil ?_
  refine l_then ?_
  refine c_seq ?_
  refine c_region ?_
  refine o_mv st rfl rfl ?_
  refine o_mv st rfl rfl ?_
  refine pk [1, 0, 2, 3] rfl ?_
  refine stw (o_call (vs := [(.pointer (some ⟨b1, 0, none⟩)), (.int .i64 r13), (.int .i64 0)]) (M0 := [cellCh b1 [v2, (.int .i64 r10)] 122]) Tryd.call128 rfl rfl (by intro w m h; exact (w_spec_l20Span (F := allB [cellCh b1 [v2, (.int .i64 r10)] 122] w) (r_0_b := r_0_b) (r_0_p := r10) (top_1 := r13) (n_2 := 0) allB_ok m.given (m.rdM 2 rfl (reads_snap hv2)) h).mono (fun _ _ k => ret_free (fun r u => (fr_cons free_cell fr_nil)) k)) ?_); rintro ⟨r14, r15⟩ _
  refine stw (o_alloc rfl [(.int .i64 0), (.int .i64 0)] zero83 ?_); intro b16
  refine stw (o_stc (cs' := [(.int .i64 r14.xLo), (.int .i64 r14.xHi)]) 0 rfl rfl rfl ty83 rfl rfl rfl rfl ?_)
  refine c_nil ?_
  refine l_then ?_
  refine c_join (σ := (Int × Int × Int)) (fun ((t152, t153, t154) : (Int × Int × Int)) (a : Act) (w : World) => Has 83 [(0, (.pointer (some ⟨b1, 0, none⟩))), (1, (.int .i64 n_1)), (4, (.pointer (some ⟨b5, 0, none⟩))), (5, (.pointer (some ⟨b11, 0, none⟩))), (6, (.int .i64 r13)), (7, (.pointer (some ⟨b16, 0, none⟩)))] a ∧ Mem (gB F [cellCh b1 [v2, (.int .i64 r_0_p)] 122] w0) (feet [cellCh b1 [v2, (.int .i64 r_0_p)] 122]) w0 [cellCh b1 [v2, (.int .i64 t152)] 122, cellCh b16 [(.int .i64 t153), (.int .i64 t154)] 83, cellCh b11 [(.int .i64 r7), (.int .i64 0), (.int .i64 0), (.bool (decide (r9 = 0)))] 173, cellCh b5 [(.int .i64 0), (.int .i64 0), (.int .i64 0), (.bool false)] 173, snapCh w0 F] w) ?_ ?_
  · intro k155
    refine c_join (σ := (Int × Bool)) (fun ((t80, t81) : (Int × Bool)) (a : Act) (w : World) => Has 83 [(0, (.pointer (some ⟨b1, 0, none⟩))), (1, (.int .i64 n_1)), (4, (.pointer (some ⟨b5, 0, none⟩))), (5, (.pointer (some ⟨b11, 0, none⟩))), (6, (.int .i64 r13)), (7, (.pointer (some ⟨b16, 0, none⟩))), (27, (.bool t81))] a ∧ Mem (gB F [cellCh b1 [v2, (.int .i64 r_0_p)] 122] w0) (feet [cellCh b1 [v2, (.int .i64 r_0_p)] 122]) w0 [cellCh b1 [v2, (.int .i64 t80)] 122, cellCh b16 [(.int .i64 r14.xLo), (.int .i64 r14.xHi)] 83, cellCh b11 [(.int .i64 r7), (.int .i64 0), (.int .i64 0), (.bool (decide (r9 = 0)))] 173, cellCh b5 [(.int .i64 0), (.int .i64 0), (.int .i64 0), (.bool false)] 173, snapCh w0 F] w) ?_ ?_
    · intro k82
      refine c_region ?_
      refine o_fad st rfl rfl fld173_0 rfl ?_
      refine o_ldc st (v := (.int .i64 r7)) 2 rfl rfl rfl ty3 rfl ?_
      refine o_lss st rfl rfl rfl ?_
      refine o_mv st rfl rfl ?_
      refine st_sp (dj := 23) rfl ?_ ?_
      · refine o_mv (st_g rfl rfl) rfl rfl ?_
        refine pk [1, 0, 2, 3, 4] rfl ?_
        refine st_gw rfl rfl (o_call (vs := [(.pointer (some ⟨b1, 0, none⟩)), (.int .i64 2)]) (M0 := [cellCh b1 [v2, (.int .i64 r15)] 122]) Tryd.call68 rfl rfl (by intro w m h; exact (w_spec_l20Rd_pick (F := allB [cellCh b1 [v2, (.int .i64 r15)] 122] w) (r_0_b := r_0_b) (r_0_p := r15) (n_1 := 2) allB_ok m.given (m.rdM 3 rfl (reads_snap hv2)) h).mono (fun _ _ k => ret_free (fun r u => (fr_cons free_cell fr_nil)) k)) ?_); rintro ⟨r18, r19⟩ _
        refine o_eql (st_g rfl rfl) und3 rfl rfl rfl ?_
        refine o_pickT st rfl rfl rfl ?_
        refine c_nil ?_
        exact l_join (r19, (decide (r18 = 0))) (fun a w hE hm => ⟨hE.sub ⟨rfl, rfl, rfl, rfl, rfl, rfl, rfl, trivial⟩, (hm.pick [0, 1, 2, 3, 4] rfl)⟩)
      · refine st_s rfl rfl rfl rfl ?_
        refine st_s rfl rfl rfl rfl ?_
        refine st_s rfl rfl rfl rfl ?_
        refine o_pickF st rfl rfl rfl ?_
        refine c_nil ?_
        exact l_join (r15, false) (fun a w hE hm => ⟨hE.sub ⟨rfl, rfl, rfl, rfl, rfl, rfl, rfl, trivial⟩, (hm.pick [1, 0, 2, 3, 4] rfl)⟩)
    · rintro ⟨t80, t81⟩ a w ⟨hE, hm⟩ h
      refine nx_of hE hm h ?_
      clear hE hm h
      refine c_cond rfl ?_ ?_
      · refine c_seq ?_
        refine c_region ?_
        refine o_mv st rfl rfl ?_
        refine stw (o_call (vs := [(.pointer (some ⟨b1, 0, none⟩)), (.int .i64 20)]) (M0 := [cellCh b1 [v2, (.int .i64 t80)] 122]) Tryd.call68 rfl rfl (by intro w m h; exact (w_spec_l20Rd_pick (F := allB [cellCh b1 [v2, (.int .i64 t80)] 122] w) (r_0_b := r_0_b) (r_0_p := t80) (n_1 := 20) allB_ok m.given (m.rdM 3 rfl (reads_snap hv2)) h).mono (fun _ _ k => ret_free (fun r u => (fr_cons free_cell fr_nil)) k)) ?_); rintro ⟨r83, r84⟩ _
        refine o_bld st (qs := [(0, (.int .i64 r83))]) (cells := [(.int .i64 r83), (.int .i64 0)]) (by intro ρ h; simp only [List.map_toArray, List.map_cons, List.map_nil, h (.tmp 29) _ rfl]) rfl bld83 rfl ?_
        refine stw (o_stc (cs' := [(.int .i64 r83), (.int .i64 0)]) 1 rfl rfl rfl ty83 rfl rfl rfl rfl ?_)
        refine c_nil ?_
        refine l_then ?_
        refine c_join1 (σ := (Int × Int)) (fun ((t85, t86) : (Int × Int)) (a : Act) (w : World) => Has 83 [(0, (.pointer (some ⟨b1, 0, none⟩))), (1, (.int .i64 n_1)), (4, (.pointer (some ⟨b5, 0, none⟩))), (5, (.pointer (some ⟨b11, 0, none⟩))), (6, (.int .i64 r13)), (7, (.pointer (some ⟨b16, 0, none⟩)))] a ∧ Mem (gB F [cellCh b1 [v2, (.int .i64 r_0_p)] 122] w0) (feet [cellCh b1 [v2, (.int .i64 r_0_p)] 122]) w0 [cellCh b1 [v2, (.int .i64 t85)] 122, cellCh b16 [(.int .i64 r83), (.int .i64 t86)] 83, cellCh b11 [(.int .i64 r7), (.int .i64 0), (.int .i64 0), (.bool (decide (r9 = 0)))] 173, cellCh b5 [(.int .i64 0), (.int .i64 0), (.int .i64 0), (.bool false)] 173, snapCh w0 F] w) ?_ ?_
        · intro k87
          refine c_drawQ mixed 7 rfl [cellCh b11 [(.int .i64 r7), (.int .i64 0), (.int .i64 0), (.bool (decide (r9 = 0)))] 173, cellCh b5 [(.int .i64 0), (.int .i64 0), (.int .i64 0), (.bool false)] 173, snapCh w0 F] ?_
          intro Qd hP hQ
          have H139 : ∀ (r88 : Int) (r89 : Int), Nx 83 (gB F [cellCh b1 [v2, (.int .i64 r_0_p)] 122] w0) (feet [cellCh b1 [v2, (.int .i64 r_0_p)] 122]) w0 (wpAnyH Tryd.prog .any (opsAt Tryd.f123 [1, 1, 1, 1, 0, 1, 0, 1]) Qd (Mem (gB F [cellCh b1 [v2, (.int .i64 r_0_p)] 122] w0) (feet [cellCh b1 [v2, (.int .i64 r_0_p)] 122]) w0 [cellCh b11 [(.int .i64 r7), (.int .i64 0), (.int .i64 0), (.bool (decide (r9 = 0)))] 173, cellCh b5 [(.int .i64 0), (.int .i64 0), (.int .i64 0), (.bool false)] 173, snapCh w0 F]) 0 #[true, true, true, true, true, true, true]) [(0, (.pointer (some ⟨b1, 0, none⟩))), (1, (.int .i64 n_1)), (4, (.pointer (some ⟨b5, 0, none⟩))), (5, (.pointer (some ⟨b11, 0, none⟩))), (6, (.int .i64 r13)), (7, (.pointer (some ⟨b16, 0, none⟩)))] [cellCh b1 [v2, (.int .i64 r89)] 122, cellCh b16 [(.int .i64 r83), (.int .i64 (w64 (r83 + r88)))] 83, cellCh b11 [(.int .i64 r7), (.int .i64 0), (.int .i64 0), (.bool (decide (r9 = 0)))] 173, cellCh b5 [(.int .i64 0), (.int .i64 0), (.int .i64 0), (.bool false)] 173, snapCh w0 F] (k87 (r89, (w64 (r83 + r88)))) := by
            intro r88 r89
            refine d_done (by kernel_rfl) ?_
            exact fun a w hE hm hφ => hQ (r89, (w64 (r83 + r88))) a w hφ ((fun a w hE hm => ⟨hE.sub ⟨rfl, rfl, rfl, rfl, rfl, rfl, trivial⟩, (hm.pick [0, 1, 2, 3, 4] rfl)⟩) a w hE hm)
          have H140 : ∀ (r88 : Int) (r89 : Int), Nx 83 (gB F [cellCh b1 [v2, (.int .i64 r_0_p)] 122] w0) (feet [cellCh b1 [v2, (.int .i64 r_0_p)] 122]) w0 (wpAnyH Tryd.prog .any (opsAt Tryd.f123 [1, 1, 1, 1, 0, 1, 0, 1]) Qd (Mem (gB F [cellCh b1 [v2, (.int .i64 r_0_p)] 122] w0) (feet [cellCh b1 [v2, (.int .i64 r_0_p)] 122]) w0 [cellCh b11 [(.int .i64 r7), (.int .i64 0), (.int .i64 0), (.bool (decide (r9 = 0)))] 173, cellCh b5 [(.int .i64 0), (.int .i64 0), (.int .i64 0), (.bool false)] 173, snapCh w0 F]) 3 #[true, true, true, true, false, false, false]) [(0, (.pointer (some ⟨b1, 0, none⟩))), (1, (.int .i64 n_1)), (4, (.pointer (some ⟨b5, 0, none⟩))), (5, (.pointer (some ⟨b11, 0, none⟩))), (6, (.int .i64 r13)), (7, (.pointer (some ⟨b16, 0, none⟩))), (32, (.int .i64 r83)), (34, (.int .i64 r88))] [cellCh b1 [v2, (.int .i64 r89)] 122, cellCh b16 [(.int .i64 r83), (.int .i64 0)] 83, cellCh b11 [(.int .i64 r7), (.int .i64 0), (.int .i64 0), (.bool (decide (r9 = 0)))] 173, cellCh b5 [(.int .i64 0), (.int .i64 0), (.int .i64 0), (.bool false)] 173, snapCh w0 F] (k87 (r89, (w64 (r83 + r88)))) := by
            intro r88 r89
            refine o_addw (dt 4 (fun w m => m.pick [2, 3, 4] rfl)) rfl rfl rfl ?_
            refine o_fad (dt 5 (fun w m => m.pick [2, 3, 4] rfl)) rfl rfl fld83_1 rfl ?_
            refine d_one (i := 6) rfl (by kernel_rfl) (o_stc (cs' := [(.int .i64 r83), (.int .i64 (w64 (r83 + r88)))]) 1 rfl rfl rfl ty3 rfl rfl rfl rfl ?_)
            refine d_and (fun w m => m.pick [2, 3, 4] rfl) ?_
            refine pk [0, 1, 2, 3, 4] rfl ?_
            refine re (E' := [(0, (.pointer (some ⟨b1, 0, none⟩))), (1, (.int .i64 n_1)), (4, (.pointer (some ⟨b5, 0, none⟩))), (5, (.pointer (some ⟨b11, 0, none⟩))), (6, (.int .i64 r13)), (7, (.pointer (some ⟨b16, 0, none⟩)))]) ⟨rfl, rfl, rfl, rfl, rfl, rfl, trivial⟩ ?_
            exact H139 r88 r89
          have H141 : ∀ (_ : Unit), Nx 83 (gB F [cellCh b1 [v2, (.int .i64 r_0_p)] 122] w0) (feet [cellCh b1 [v2, (.int .i64 r_0_p)] 122]) w0 (wpAnyH Tryd.prog .any (opsAt Tryd.f123 [1, 1, 1, 1, 0, 1, 0, 1]) Qd (Mem (gB F [cellCh b1 [v2, (.int .i64 r_0_p)] 122] w0) (feet [cellCh b1 [v2, (.int .i64 r_0_p)] 122]) w0 [cellCh b11 [(.int .i64 r7), (.int .i64 0), (.int .i64 0), (.bool (decide (r9 = 0)))] 173, cellCh b5 [(.int .i64 0), (.int .i64 0), (.int .i64 0), (.bool false)] 173, snapCh w0 F]) 4 #[true, true, true, false, false, false, false]) [(0, (.pointer (some ⟨b1, 0, none⟩))), (1, (.int .i64 n_1)), (4, (.pointer (some ⟨b5, 0, none⟩))), (5, (.pointer (some ⟨b11, 0, none⟩))), (6, (.int .i64 r13)), (7, (.pointer (some ⟨b16, 0, none⟩))), (33, (.pointer (some ⟨b1, 0, none⟩))), (32, (.int .i64 r83))] [cellCh b1 [v2, (.int .i64 r84)] 122, cellCh b16 [(.int .i64 r83), (.int .i64 0)] 83, cellCh b11 [(.int .i64 r7), (.int .i64 0), (.int .i64 0), (.bool (decide (r9 = 0)))] 173, cellCh b5 [(.int .i64 0), (.int .i64 0), (.int .i64 0), (.bool false)] 173, snapCh w0 F] (L_spec_l20Rd_pick r_0_b r84 8 (fun (r88, r89) => k87 (r89, (w64 (r83 + r88))))) := by
            intro _
            refine d_one (i := 3) rfl (by kernel_rfl) (o_call (vs := [(.pointer (some ⟨b1, 0, none⟩)), (.int .i64 8)]) (M0 := [cellCh b1 [v2, (.int .i64 r84)] 122]) Tryd.call68 rfl rfl (by intro w m h; exact (w_spec_l20Rd_pick (F := allB [cellCh b1 [v2, (.int .i64 r84)] 122] w) (r_0_b := r_0_b) (r_0_p := r84) (n_1 := 8) allB_ok m.given (m.rdM 3 rfl (reads_snap hv2)) h).mono (fun _ _ k => ret_free (fun r u => (fr_cons free_cell fr_nil)) k)) ?_); rintro ⟨r88, r89⟩ _
            refine d_and (fun w m => m.pick [2, 3, 4] rfl) ?_
            refine pk [0, 1, 2, 3, 4] rfl ?_
            refine re (E' := [(0, (.pointer (some ⟨b1, 0, none⟩))), (1, (.int .i64 n_1)), (4, (.pointer (some ⟨b5, 0, none⟩))), (5, (.pointer (some ⟨b11, 0, none⟩))), (6, (.int .i64 r13)), (7, (.pointer (some ⟨b16, 0, none⟩))), (32, (.int .i64 r83)), (34, (.int .i64 r88))]) ⟨rfl, rfl, rfl, rfl, rfl, rfl, rfl, rfl, trivial⟩ ?_
            exact H140 r88 r89
          have H142 : ∀ (r90 : Int) (r91 : Int), Nx 83 (gB F [cellCh b1 [v2, (.int .i64 r_0_p)] 122] w0) (feet [cellCh b1 [v2, (.int .i64 r_0_p)] 122]) w0 (wpAnyH Tryd.prog .any (opsAt Tryd.f123 [1, 1, 1, 1, 0, 1, 0, 1]) Qd (Mem (gB F [cellCh b1 [v2, (.int .i64 r_0_p)] 122] w0) (feet [cellCh b1 [v2, (.int .i64 r_0_p)] 122]) w0 [cellCh b11 [(.int .i64 r7), (.int .i64 0), (.int .i64 0), (.bool (decide (r9 = 0)))] 173, cellCh b5 [(.int .i64 0), (.int .i64 0), (.int .i64 0), (.bool false)] 173, snapCh w0 F]) 4 #[true, false, true, true, false, false, false]) [(0, (.pointer (some ⟨b1, 0, none⟩))), (1, (.int .i64 n_1)), (4, (.pointer (some ⟨b5, 0, none⟩))), (5, (.pointer (some ⟨b11, 0, none⟩))), (6, (.int .i64 r13)), (7, (.pointer (some ⟨b16, 0, none⟩))), (31, (.pointer (some ⟨b16, 0, none⟩))), (34, (.int .i64 r90))] [cellCh b1 [v2, (.int .i64 r91)] 122, cellCh b16 [(.int .i64 r83), (.int .i64 0)] 83, cellCh b11 [(.int .i64 r7), (.int .i64 0), (.int .i64 0), (.bool (decide (r9 = 0)))] 173, cellCh b5 [(.int .i64 0), (.int .i64 0), (.int .i64 0), (.bool false)] 173, snapCh w0 F] (k87 (r91, (w64 (r83 + r90)))) := by
            intro r90 r91
            refine d_one (i := 1) rfl (by kernel_rfl) (o_ldc m_op (v := (.int .i64 r83)) 1 rfl rfl rfl ty3 rfl ?_)
            refine d_and (fun w m => m.pick [2, 3, 4] rfl) ?_
            refine pk [0, 1, 2, 3, 4] rfl ?_
            refine re (E' := [(0, (.pointer (some ⟨b1, 0, none⟩))), (1, (.int .i64 n_1)), (4, (.pointer (some ⟨b5, 0, none⟩))), (5, (.pointer (some ⟨b11, 0, none⟩))), (6, (.int .i64 r13)), (7, (.pointer (some ⟨b16, 0, none⟩))), (32, (.int .i64 r83)), (34, (.int .i64 r90))]) ⟨rfl, rfl, rfl, rfl, rfl, rfl, rfl, rfl, trivial⟩ ?_
            exact H140 r90 r91
          refine o_fad (dt 0 (fun w m => m.pick [2, 3, 4] rfl)) rfl rfl fld83_0 rfl ?_
          refine o_mv (dt 2 (fun w m => m.pick [2, 3, 4] rfl)) rfl rfl ?_
          refine d_two (i := 1) (j := 3) rfl rfl (by kernel_rfl) ?_ ?_
          · intro o ho; cases ho
            refine o_ldc m_op (v := (.int .i64 r83)) 1 rfl rfl rfl ty3 rfl ?_
            refine d_and (fun w m => m.pick [2, 3, 4] rfl) ?_
            refine pk [0, 1, 2, 3, 4] rfl ?_
            refine re (E' := [(0, (.pointer (some ⟨b1, 0, none⟩))), (1, (.int .i64 n_1)), (4, (.pointer (some ⟨b5, 0, none⟩))), (5, (.pointer (some ⟨b11, 0, none⟩))), (6, (.int .i64 r13)), (7, (.pointer (some ⟨b16, 0, none⟩))), (33, (.pointer (some ⟨b1, 0, none⟩))), (32, (.int .i64 r83))]) ⟨rfl, rfl, rfl, rfl, rfl, rfl, rfl, rfl, trivial⟩ ?_
            exact H141 ()
          · intro o ho; cases ho
            refine o_call (vs := [(.pointer (some ⟨b1, 0, none⟩)), (.int .i64 8)]) (M0 := [cellCh b1 [v2, (.int .i64 r84)] 122]) Tryd.call68 rfl rfl (by intro w m h; exact (w_spec_l20Rd_pick (F := allB [cellCh b1 [v2, (.int .i64 r84)] 122] w) (r_0_b := r_0_b) (r_0_p := r84) (n_1 := 8) allB_ok m.given (m.rdM 3 rfl (reads_snap hv2)) h).mono (fun _ _ k => ret_free (fun r u => (fr_cons free_cell fr_nil)) k)) ?_; rintro ⟨r90, r91⟩ _
            refine d_and (fun w m => m.pick [2, 3, 4] rfl) ?_
            refine pk [0, 1, 2, 3, 4] rfl ?_
            refine re (E' := [(0, (.pointer (some ⟨b1, 0, none⟩))), (1, (.int .i64 n_1)), (4, (.pointer (some ⟨b5, 0, none⟩))), (5, (.pointer (some ⟨b11, 0, none⟩))), (6, (.int .i64 r13)), (7, (.pointer (some ⟨b16, 0, none⟩))), (31, (.pointer (some ⟨b16, 0, none⟩))), (34, (.int .i64 r90))]) ⟨rfl, rfl, rfl, rfl, rfl, rfl, rfl, rfl, trivial⟩ ?_
            exact H142 r90 r91
        · rintro ⟨t85, t86⟩ a w ⟨hE, hm⟩ h
          refine nx_of hE hm h ?_
          clear hE hm h
          exact l_join (t85, r83, t86) (fun a w hE hm => ⟨hE.sub ⟨rfl, rfl, rfl, rfl, rfl, rfl, trivial⟩, (hm.pick [0, 1, 2, 3, 4] rfl)⟩)
      · refine c_skip ?_
        exact l_join (t80, r14.xLo, r14.xHi) (fun a w hE hm => ⟨hE.sub ⟨rfl, rfl, rfl, rfl, rfl, rfl, trivial⟩, (hm.pick [0, 1, 2, 3, 4] rfl)⟩)
  · rintro ⟨t152, t153, t154⟩ a w ⟨hE, hm⟩ h
    refine nx_of hE hm h ?_
    clear hE hm h
    refine c_join (σ := (Int × Int × Int)) (fun ((t241, t242, t243) : (Int × Int × Int)) (a : Act) (w : World) => Has 83 [(0, (.pointer (some ⟨b1, 0, none⟩))), (1, (.int .i64 n_1)), (4, (.pointer (some ⟨b5, 0, none⟩))), (5, (.pointer (some ⟨b11, 0, none⟩))), (6, (.int .i64 r13)), (7, (.pointer (some ⟨b16, 0, none⟩)))] a ∧ Mem (gB F [cellCh b1 [v2, (.int .i64 r_0_p)] 122] w0) (feet [cellCh b1 [v2, (.int .i64 r_0_p)] 122]) w0 [cellCh b1 [v2, (.int .i64 t241)] 122, cellCh b16 [(.int .i64 t242), (.int .i64 t243)] 83, cellCh b11 [(.int .i64 r7), (.int .i64 0), (.int .i64 0), (.bool (decide (r9 = 0)))] 173, cellCh b5 [(.int .i64 0), (.int .i64 0), (.int .i64 0), (.bool false)] 173, snapCh w0 F] w) ?_ ?_
    · intro k244
      refine c_seq ?_
      refine c_region ?_
      refine o_mv st rfl rfl ?_
      refine stw (o_call (vs := [(.pointer (some ⟨b1, 0, none⟩)), (.int .i64 8)]) (M0 := [cellCh b1 [v2, (.int .i64 t152)] 122]) Tryd.call68 rfl rfl (by intro w m h; exact (w_spec_l20Rd_pick (F := allB [cellCh b1 [v2, (.int .i64 t152)] 122] w) (r_0_b := r_0_b) (r_0_p := t152) (n_1 := 8) allB_ok m.given (m.rdM 3 rfl (reads_snap hv2)) h).mono (fun _ _ k => ret_free (fun r u => (fr_cons free_cell fr_nil)) k)) ?_); rintro ⟨r156, r157⟩ _
      refine o_eql st und3 rfl rfl rfl ?_
      refine c_nil ?_
      refine l_then ?_
      refine c_cond rfl ?_ ?_
      · refine c_join1 (σ := (Int × Int × Int)) (fun ((t158, t159, t160) : (Int × Int × Int)) (a : Act) (w : World) => Has 83 [(0, (.pointer (some ⟨b1, 0, none⟩))), (1, (.int .i64 n_1)), (4, (.pointer (some ⟨b5, 0, none⟩))), (5, (.pointer (some ⟨b11, 0, none⟩))), (6, (.int .i64 r13)), (7, (.pointer (some ⟨b16, 0, none⟩)))] a ∧ Mem (gB F [cellCh b1 [v2, (.int .i64 r_0_p)] 122] w0) (feet [cellCh b1 [v2, (.int .i64 r_0_p)] 122]) w0 [cellCh b1 [v2, (.int .i64 t158)] 122, cellCh b16 [(.int .i64 t159), (.int .i64 t160)] 83, cellCh b11 [(.int .i64 r7), (.int .i64 0), (.int .i64 0), (.bool (decide (r9 = 0)))] 173, cellCh b5 [(.int .i64 0), (.int .i64 0), (.int .i64 0), (.bool false)] 173, snapCh w0 F] w) ?_ ?_
        · intro k161
          refine c_drawQ mixed 15 rfl [cellCh b11 [(.int .i64 r7), (.int .i64 0), (.int .i64 0), (.bool (decide (r9 = 0)))] 173, cellCh b5 [(.int .i64 0), (.int .i64 0), (.int .i64 0), (.bool false)] 173, snapCh w0 F] ?_
          intro Qd hP hQ
          have H162 : ∀ (v162 : Value) (r163 : Int) (r164 : Int) (e165 : GSpan) (h166 : ([(GSpan.mk 0 r13), (GSpan.mk 0 t154), (GSpan.mk t153 r13)])[(r163).toNat]? = some e165), Nx 83 (gB F [cellCh b1 [v2, (.int .i64 r_0_p)] 122] w0) (feet [cellCh b1 [v2, (.int .i64 r_0_p)] 122]) w0 (wpAnyH Tryd.prog .any (opsAt Tryd.f123 [1, 1, 1, 1, 1, 0, 1, 0]) Qd (Mem (gB F [cellCh b1 [v2, (.int .i64 r_0_p)] 122] w0) (feet [cellCh b1 [v2, (.int .i64 r_0_p)] 122]) w0 [cellCh b11 [(.int .i64 r7), (.int .i64 0), (.int .i64 0), (.bool (decide (r9 = 0)))] 173, cellCh b5 [(.int .i64 0), (.int .i64 0), (.int .i64 0), (.bool false)] 173, snapCh w0 F]) 0 #[true, true, true, true, true, true, true, true, true, true, true, true, true, true, true]) [(0, (.pointer (some ⟨b1, 0, none⟩))), (1, (.int .i64 n_1)), (4, (.pointer (some ⟨b5, 0, none⟩))), (5, (.pointer (some ⟨b11, 0, none⟩))), (6, (.int .i64 r13)), (7, (.pointer (some ⟨b16, 0, none⟩)))] [cellCh b1 [v2, (.int .i64 r164)] 122, cellCh b16 [(.int .i64 e165.xLo), (.int .i64 e165.xHi)] 83, cellCh b11 [(.int .i64 r7), (.int .i64 0), (.int .i64 0), (.bool (decide (r9 = 0)))] 173, cellCh b5 [(.int .i64 0), (.int .i64 0), (.int .i64 0), (.bool false)] 173, snapCh w0 F] (k161 (r164, e165.xLo, e165.xHi)) := by
            intro v162 r163 r164 e165 h166
            refine d_done (by kernel_rfl) ?_
            exact fun a w hE hm hφ => hQ (r164, e165.xLo, e165.xHi) a w hφ ((fun a w hE hm => ⟨hE.sub ⟨rfl, rfl, rfl, rfl, rfl, rfl, trivial⟩, (hm.pick [0, 1, 2, 3, 4] rfl)⟩) a w hE hm)
          have H163 : ∀ (v162 : Value) (r163 : Int) (r164 : Int) (e165 : GSpan) (h166 : ([(GSpan.mk 0 r13), (GSpan.mk 0 t154), (GSpan.mk t153 r13)])[(r163).toNat]? = some e165), Nx 83 (gB F [cellCh b1 [v2, (.int .i64 r_0_p)] 122] w0) (feet [cellCh b1 [v2, (.int .i64 r_0_p)] 122]) w0 (wpAnyH Tryd.prog .any (opsAt Tryd.f123 [1, 1, 1, 1, 1, 0, 1, 0]) Qd (Mem (gB F [cellCh b1 [v2, (.int .i64 r_0_p)] 122] w0) (feet [cellCh b1 [v2, (.int .i64 r_0_p)] 122]) w0 [cellCh b11 [(.int .i64 r7), (.int .i64 0), (.int .i64 0), (.bool (decide (r9 = 0)))] 173, cellCh b5 [(.int .i64 0), (.int .i64 0), (.int .i64 0), (.bool false)] 173, snapCh w0 F]) 1 #[true, true, true, true, true, true, true, true, true, true, true, true, true, true, false]) [(0, (.pointer (some ⟨b1, 0, none⟩))), (1, (.int .i64 n_1)), (4, (.pointer (some ⟨b5, 0, none⟩))), (5, (.pointer (some ⟨b11, 0, none⟩))), (6, (.int .i64 r13)), (7, (.pointer (some ⟨b16, 0, none⟩))), (53, (.agg #[(.int .i64 e165.xLo), (.int .i64 e165.xHi)]))] [cellCh b1 [v2, (.int .i64 r164)] 122, cellCh b16 [(.int .i64 t153), (.int .i64 t154)] 83, cellCh b11 [(.int .i64 r7), (.int .i64 0), (.int .i64 0), (.bool (decide (r9 = 0)))] 173, cellCh b5 [(.int .i64 0), (.int .i64 0), (.int .i64 0), (.bool false)] 173, snapCh w0 F] (k161 (r164, e165.xLo, e165.xHi)) := by
            intro v162 r163 r164 e165 h166
            refine d_one (i := 14) rfl (by kernel_rfl) (o_stc (cs' := [(.int .i64 e165.xLo), (.int .i64 e165.xHi)]) 1 rfl rfl rfl ty83 rfl rfl rfl rfl ?_)
            refine d_and (fun w m => m.pick [2, 3, 4] rfl) ?_
            refine pk [0, 1, 2, 3, 4] rfl ?_
            refine re (E' := [(0, (.pointer (some ⟨b1, 0, none⟩))), (1, (.int .i64 n_1)), (4, (.pointer (some ⟨b5, 0, none⟩))), (5, (.pointer (some ⟨b11, 0, none⟩))), (6, (.int .i64 r13)), (7, (.pointer (some ⟨b16, 0, none⟩)))]) ⟨rfl, rfl, rfl, rfl, rfl, rfl, trivial⟩ ?_
            exact H162 v162 r163 r164 e165 h166
          have H164 : ∀ (v162 : Value) (r163 : Int) (r164 : Int) (e165 : GSpan) (h166 : ([(GSpan.mk 0 r13), (GSpan.mk 0 t154), (GSpan.mk t153 r13)])[(r163).toNat]? = some e165), Nx 83 (gB F [cellCh b1 [v2, (.int .i64 r_0_p)] 122] w0) (feet [cellCh b1 [v2, (.int .i64 r_0_p)] 122]) w0 (wpAnyH Tryd.prog .any (opsAt Tryd.f123 [1, 1, 1, 1, 1, 0, 1, 0]) Qd (Mem (gB F [cellCh b1 [v2, (.int .i64 r_0_p)] 122] w0) (feet [cellCh b1 [v2, (.int .i64 r_0_p)] 122]) w0 [cellCh b11 [(.int .i64 r7), (.int .i64 0), (.int .i64 0), (.bool (decide (r9 = 0)))] 173, cellCh b5 [(.int .i64 0), (.int .i64 0), (.int .i64 0), (.bool false)] 173, snapCh w0 F]) 2 #[true, true, true, true, true, true, true, true, true, true, true, true, true, false, false]) [(0, (.pointer (some ⟨b1, 0, none⟩))), (1, (.int .i64 n_1)), (4, (.pointer (some ⟨b5, 0, none⟩))), (5, (.pointer (some ⟨b11, 0, none⟩))), (6, (.int .i64 r13)), (7, (.pointer (some ⟨b16, 0, none⟩))), (52, (pEl v162 r163 2 0))] [cellCh b1 [v2, (.int .i64 r164)] 122, ownCh elGSpan 83 v162 ([(GSpan.mk 0 r13), (GSpan.mk 0 t154), (GSpan.mk t153 r13)]), cellCh b16 [(.int .i64 t153), (.int .i64 t154)] 83, cellCh b11 [(.int .i64 r7), (.int .i64 0), (.int .i64 0), (.bool (decide (r9 = 0)))] 173, cellCh b5 [(.int .i64 0), (.int .i64 0), (.int .i64 0), (.bool false)] 173, snapCh w0 F] (k161 (r164, e165.xLo, e165.xHi)) := by
            intro v162 r163 r164 e165 h166
            refine d_one (i := 13) rfl (by kernel_rfl) (o_lds m_op (enc := encGSpan) (u := (.agg #[(.int .i64 e165.xLo), (.int .i64 e165.xHi)])) 1 rfl reads_own flelGSpan rfl h166 rfl rfl ty83 rfl ?_)
            refine d_and (fun w m => m.pick [3, 4, 5] rfl) ?_
            refine pk [0, 2, 3, 4, 5] rfl ?_
            refine re (E' := [(0, (.pointer (some ⟨b1, 0, none⟩))), (1, (.int .i64 n_1)), (4, (.pointer (some ⟨b5, 0, none⟩))), (5, (.pointer (some ⟨b11, 0, none⟩))), (6, (.int .i64 r13)), (7, (.pointer (some ⟨b16, 0, none⟩))), (53, (.agg #[(.int .i64 e165.xLo), (.int .i64 e165.xHi)]))]) ⟨rfl, rfl, rfl, rfl, rfl, rfl, rfl, trivial⟩ ?_
            exact H163 v162 r163 r164 e165 h166
          have H165 : ∀ (v162 : Value) (r163 : Int) (r164 : Int), Nx 83 (gB F [cellCh b1 [v2, (.int .i64 r_0_p)] 122] w0) (feet [cellCh b1 [v2, (.int .i64 r_0_p)] 122]) w0 (wpAnyH Tryd.prog .any (opsAt Tryd.f123 [1, 1, 1, 1, 1, 0, 1, 0]) Qd (Mem (gB F [cellCh b1 [v2, (.int .i64 r_0_p)] 122] w0) (feet [cellCh b1 [v2, (.int .i64 r_0_p)] 122]) w0 [cellCh b11 [(.int .i64 r7), (.int .i64 0), (.int .i64 0), (.bool (decide (r9 = 0)))] 173, cellCh b5 [(.int .i64 0), (.int .i64 0), (.int .i64 0), (.bool false)] 173, snapCh w0 F]) 3 #[true, true, true, true, true, true, true, true, true, true, true, true, false, false, false]) [(0, (.pointer (some ⟨b1, 0, none⟩))), (1, (.int .i64 n_1)), (4, (.pointer (some ⟨b5, 0, none⟩))), (5, (.pointer (some ⟨b11, 0, none⟩))), (6, (.int .i64 r13)), (7, (.pointer (some ⟨b16, 0, none⟩))), (49, v162), (51, (.int .i64 r163))] [cellCh b1 [v2, (.int .i64 r164)] 122, ownCh elGSpan 83 v162 ([(GSpan.mk 0 r13), (GSpan.mk 0 t154), (GSpan.mk t153 r13)]), cellCh b16 [(.int .i64 t153), (.int .i64 t154)] 83, cellCh b11 [(.int .i64 r7), (.int .i64 0), (.int .i64 0), (.bool (decide (r9 = 0)))] 173, cellCh b5 [(.int .i64 0), (.int .i64 0), (.int .i64 0), (.bool false)] 173, snapCh w0 F] (idxW ([(GSpan.mk 0 r13), (GSpan.mk 0 t154), (GSpan.mk t153 r13)]) r163 (fun e165 => k161 (r164, e165.xLo, e165.xHi))) := by
            intro v162 r163 r164
            refine d_one (i := 12) rfl (by kernel_rfl) (o_idx m_op 1 rfl reads_own rfl rfl rfl el84 ?_); intro e165 h166
            refine d_and (fun w m => m.pick [3, 4, 5] rfl) ?_
            refine pk [0, 1, 2, 3, 4, 5] rfl ?_
            refine re (E' := [(0, (.pointer (some ⟨b1, 0, none⟩))), (1, (.int .i64 n_1)), (4, (.pointer (some ⟨b5, 0, none⟩))), (5, (.pointer (some ⟨b11, 0, none⟩))), (6, (.int .i64 r13)), (7, (.pointer (some ⟨b16, 0, none⟩))), (52, (pEl v162 r163 2 0))]) ⟨rfl, rfl, rfl, rfl, rfl, rfl, rfl, trivial⟩ ?_
            exact H164 v162 r163 r164 e165 h166
          have H166 : ∀ (v162 : Value), Nx 83 (gB F [cellCh b1 [v2, (.int .i64 r_0_p)] 122] w0) (feet [cellCh b1 [v2, (.int .i64 r_0_p)] 122]) w0 (wpAnyH Tryd.prog .any (opsAt Tryd.f123 [1, 1, 1, 1, 1, 0, 1, 0]) Qd (Mem (gB F [cellCh b1 [v2, (.int .i64 r_0_p)] 122] w0) (feet [cellCh b1 [v2, (.int .i64 r_0_p)] 122]) w0 [cellCh b11 [(.int .i64 r7), (.int .i64 0), (.int .i64 0), (.bool (decide (r9 = 0)))] 173, cellCh b5 [(.int .i64 0), (.int .i64 0), (.int .i64 0), (.bool false)] 173, snapCh w0 F]) 4 #[true, true, true, true, true, true, true, true, true, true, true, false, false, false, false]) [(0, (.pointer (some ⟨b1, 0, none⟩))), (1, (.int .i64 n_1)), (4, (.pointer (some ⟨b5, 0, none⟩))), (5, (.pointer (some ⟨b11, 0, none⟩))), (6, (.int .i64 r13)), (7, (.pointer (some ⟨b16, 0, none⟩))), (50, (.pointer (some ⟨b1, 0, none⟩))), (49, v162)] [ownCh elGSpan 83 v162 ([(GSpan.mk 0 r13), (GSpan.mk 0 t154), (GSpan.mk t153 r13)]), cellCh b1 [v2, (.int .i64 r157)] 122, cellCh b16 [(.int .i64 t153), (.int .i64 t154)] 83, cellCh b11 [(.int .i64 r7), (.int .i64 0), (.int .i64 0), (.bool (decide (r9 = 0)))] 173, cellCh b5 [(.int .i64 0), (.int .i64 0), (.int .i64 0), (.bool false)] 173, snapCh w0 F] (L_spec_l20Rd_pick r_0_b r157 3 (fun (r163, r164) => idxW ([(GSpan.mk 0 r13), (GSpan.mk 0 t154), (GSpan.mk t153 r13)]) r163 (fun e165 => k161 (r164, e165.xLo, e165.xHi)))) := by
            intro v162
            refine pk [1, 0, 2, 3, 4, 5] rfl ?_
            refine d_one (i := 11) rfl (by kernel_rfl) (o_call (vs := [(.pointer (some ⟨b1, 0, none⟩)), (.int .i64 3)]) (M0 := [cellCh b1 [v2, (.int .i64 r157)] 122]) Tryd.call68 rfl rfl (by intro w m h; exact (w_spec_l20Rd_pick (F := allB [cellCh b1 [v2, (.int .i64 r157)] 122] w) (r_0_b := r_0_b) (r_0_p := r157) (n_1 := 3) allB_ok m.given (m.rdM 4 rfl (reads_snap hv2)) h).mono (fun _ _ k => ret_free (fun r u => (fr_cons free_cell fr_nil)) k)) ?_); rintro ⟨r163, r164⟩ _
            refine d_and (fun w m => m.pick [3, 4, 5] rfl) ?_
            refine pk [0, 1, 2, 3, 4, 5] rfl ?_
            refine re (E' := [(0, (.pointer (some ⟨b1, 0, none⟩))), (1, (.int .i64 n_1)), (4, (.pointer (some ⟨b5, 0, none⟩))), (5, (.pointer (some ⟨b11, 0, none⟩))), (6, (.int .i64 r13)), (7, (.pointer (some ⟨b16, 0, none⟩))), (49, v162), (51, (.int .i64 r163))]) ⟨rfl, rfl, rfl, rfl, rfl, rfl, rfl, rfl, trivial⟩ ?_
            exact H165 v162 r163 r164
          have H167 : ∀ (r167 : Int) (r168 : Int), Nx 83 (gB F [cellCh b1 [v2, (.int .i64 r_0_p)] 122] w0) (feet [cellCh b1 [v2, (.int .i64 r_0_p)] 122]) w0 (wpAnyH Tryd.prog .any (opsAt Tryd.f123 [1, 1, 1, 1, 1, 0, 1, 0]) Qd (Mem (gB F [cellCh b1 [v2, (.int .i64 r_0_p)] 122] w0) (feet [cellCh b1 [v2, (.int .i64 r_0_p)] 122]) w0 [cellCh b11 [(.int .i64 r7), (.int .i64 0), (.int .i64 0), (.bool (decide (r9 = 0)))] 173, cellCh b5 [(.int .i64 0), (.int .i64 0), (.int .i64 0), (.bool false)] 173, snapCh w0 F]) 4 #[true, true, true, true, true, true, true, true, true, false, true, true, false, false, false]) [(0, (.pointer (some ⟨b1, 0, none⟩))), (1, (.int .i64 n_1)), (4, (.pointer (some ⟨b5, 0, none⟩))), (5, (.pointer (some ⟨b11, 0, none⟩))), (6, (.int .i64 r13)), (7, (.pointer (some ⟨b16, 0, none⟩))), (41, (.agg #[(.int .i64 0), (.int .i64 r13)])), (44, (.agg #[(.int .i64 0), (.int .i64 t154)])), (48, (.agg #[(.int .i64 t153), (.int .i64 r13)])), (51, (.int .i64 r167))] [cellCh b1 [v2, (.int .i64 r168)] 122, cellCh b16 [(.int .i64 t153), (.int .i64 t154)] 83, cellCh b11 [(.int .i64 r7), (.int .i64 0), (.int .i64 0), (.bool (decide (r9 = 0)))] 173, cellCh b5 [(.int .i64 0), (.int .i64 0), (.int .i64 0), (.bool false)] 173, snapCh w0 F] (idxW ([(GSpan.mk 0 r13), (GSpan.mk 0 t154), (GSpan.mk t153 r13)]) r167 (fun e165 => k161 (r168, e165.xLo, e165.xHi))) := by
            intro r167 r168
            refine d_one (i := 9) rfl (by kernel_rfl) (o_bsl (enc := encGSpan) (qs := [(0, (.agg #[(.int .i64 0), (.int .i64 r13)])), (1, (.agg #[(.int .i64 0), (.int .i64 t154)])), (2, (.agg #[(.int .i64 t153), (.int .i64 r13)]))]) (cells := [(.int .i64 0), (.int .i64 r13), (.int .i64 0), (.int .i64 t154), (.int .i64 t153), (.int .i64 r13)]) ([(GSpan.mk 0 r13), (GSpan.mk 0 t154), (GSpan.mk t153 r13)]) flelGSpan (by intro ρ h; simp only [List.map_toArray, List.map_cons, List.map_nil, h (.tmp 41) _ rfl, h (.tmp 44) _ rfl, h (.tmp 48) _ rfl]) rfl el84 zero83 rfl rfl rfl rfl rfl rfl ?_); intro v169
            refine d_and (fun w m => m.pick [3, 4, 5] rfl) ?_
            refine pk [1, 0, 2, 3, 4, 5] rfl ?_
            refine re (E' := [(0, (.pointer (some ⟨b1, 0, none⟩))), (1, (.int .i64 n_1)), (4, (.pointer (some ⟨b5, 0, none⟩))), (5, (.pointer (some ⟨b11, 0, none⟩))), (6, (.int .i64 r13)), (7, (.pointer (some ⟨b16, 0, none⟩))), (49, v169), (51, (.int .i64 r167))]) ⟨rfl, rfl, rfl, rfl, rfl, rfl, rfl, rfl, trivial⟩ ?_
            exact H165 v169 r167 r168
          have H168 : ∀ (_ : Unit), Nx 83 (gB F [cellCh b1 [v2, (.int .i64 r_0_p)] 122] w0) (feet [cellCh b1 [v2, (.int .i64 r_0_p)] 122]) w0 (wpAnyH Tryd.prog .any (opsAt Tryd.f123 [1, 1, 1, 1, 1, 0, 1, 0]) Qd (Mem (gB F [cellCh b1 [v2, (.int .i64 r_0_p)] 122] w0) (feet [cellCh b1 [v2, (.int .i64 r_0_p)] 122]) w0 [cellCh b11 [(.int .i64 r7), (.int .i64 0), (.int .i64 0), (.bool (decide (r9 = 0)))] 173, cellCh b5 [(.int .i64 0), (.int .i64 0), (.int .i64 0), (.bool false)] 173, snapCh w0 F]) 6 #[true, true, true, true, true, true, true, true, false, false, true, false, false, false, false]) [(0, (.pointer (some ⟨b1, 0, none⟩))), (1, (.int .i64 n_1)), (4, (.pointer (some ⟨b5, 0, none⟩))), (5, (.pointer (some ⟨b11, 0, none⟩))), (6, (.int .i64 r13)), (7, (.pointer (some ⟨b16, 0, none⟩))), (41, (.agg #[(.int .i64 0), (.int .i64 r13)])), (47, (.int .i64 r13)), (50, (.pointer (some ⟨b1, 0, none⟩))), (44, (.agg #[(.int .i64 0), (.int .i64 t154)])), (46, (.int .i64 t153))] [cellCh b1 [v2, (.int .i64 r157)] 122, cellCh b16 [(.int .i64 t153), (.int .i64 t154)] 83, cellCh b11 [(.int .i64 r7), (.int .i64 0), (.int .i64 0), (.bool (decide (r9 = 0)))] 173, cellCh b5 [(.int .i64 0), (.int .i64 0), (.int .i64 0), (.bool false)] 173, snapCh w0 F] (L_spec_l20Rd_pick r_0_b r157 3 (fun (r163, r164) => idxW ([(GSpan.mk 0 r13), (GSpan.mk 0 t154), (GSpan.mk t153 r13)]) r163 (fun e165 => k161 (r164, e165.xLo, e165.xHi)))) := by
            intro _
            refine o_bld (dt 8 (fun w m => m.pick [2, 3, 4] rfl)) (qs := [(0, (.int .i64 t153)), (1, (.int .i64 r13))]) (cells := [(.int .i64 t153), (.int .i64 r13)]) (by intro ρ h; simp only [List.map_toArray, List.map_cons, List.map_nil, h (.tmp 46) _ rfl, h (.tmp 47) _ rfl]) rfl bld83 rfl ?_
            refine d_two (i := 9) (j := 11) rfl rfl (by kernel_rfl) ?_ ?_
            · intro o ho; cases ho
              refine o_bsl (enc := encGSpan) (qs := [(0, (.agg #[(.int .i64 0), (.int .i64 r13)])), (1, (.agg #[(.int .i64 0), (.int .i64 t154)])), (2, (.agg #[(.int .i64 t153), (.int .i64 r13)]))]) (cells := [(.int .i64 0), (.int .i64 r13), (.int .i64 0), (.int .i64 t154), (.int .i64 t153), (.int .i64 r13)]) ([(GSpan.mk 0 r13), (GSpan.mk 0 t154), (GSpan.mk t153 r13)]) flelGSpan (by intro ρ h; simp only [List.map_toArray, List.map_cons, List.map_nil, h (.tmp 41) _ rfl, h (.tmp 44) _ rfl, h (.tmp 48) _ rfl]) rfl el84 zero83 rfl rfl rfl rfl rfl rfl ?_; intro v162
              refine d_and (fun w m => m.pick [3, 4, 5] rfl) ?_
              refine pk [0, 1, 2, 3, 4, 5] rfl ?_
              refine re (E' := [(0, (.pointer (some ⟨b1, 0, none⟩))), (1, (.int .i64 n_1)), (4, (.pointer (some ⟨b5, 0, none⟩))), (5, (.pointer (some ⟨b11, 0, none⟩))), (6, (.int .i64 r13)), (7, (.pointer (some ⟨b16, 0, none⟩))), (50, (.pointer (some ⟨b1, 0, none⟩))), (49, v162)]) ⟨rfl, rfl, rfl, rfl, rfl, rfl, rfl, rfl, trivial⟩ ?_
              exact H166 v162
            · intro o ho; cases ho
              refine o_call (vs := [(.pointer (some ⟨b1, 0, none⟩)), (.int .i64 3)]) (M0 := [cellCh b1 [v2, (.int .i64 r157)] 122]) Tryd.call68 rfl rfl (by intro w m h; exact (w_spec_l20Rd_pick (F := allB [cellCh b1 [v2, (.int .i64 r157)] 122] w) (r_0_b := r_0_b) (r_0_p := r157) (n_1 := 3) allB_ok m.given (m.rdM 3 rfl (reads_snap hv2)) h).mono (fun _ _ k => ret_free (fun r u => (fr_cons free_cell fr_nil)) k)) ?_; rintro ⟨r167, r168⟩ _
              refine d_and (fun w m => m.pick [2, 3, 4] rfl) ?_
              refine pk [0, 1, 2, 3, 4] rfl ?_
              refine re (E' := [(0, (.pointer (some ⟨b1, 0, none⟩))), (1, (.int .i64 n_1)), (4, (.pointer (some ⟨b5, 0, none⟩))), (5, (.pointer (some ⟨b11, 0, none⟩))), (6, (.int .i64 r13)), (7, (.pointer (some ⟨b16, 0, none⟩))), (41, (.agg #[(.int .i64 0), (.int .i64 r13)])), (44, (.agg #[(.int .i64 0), (.int .i64 t154)])), (48, (.agg #[(.int .i64 t153), (.int .i64 r13)])), (51, (.int .i64 r167))]) ⟨rfl, rfl, rfl, rfl, rfl, rfl, rfl, rfl, rfl, rfl, trivial⟩ ?_
              exact H167 r167 r168
          have H169 : ∀ (r170 : Int) (r171 : Int), Nx 83 (gB F [cellCh b1 [v2, (.int .i64 r_0_p)] 122] w0) (feet [cellCh b1 [v2, (.int .i64 r_0_p)] 122]) w0 (wpAnyH Tryd.prog .any (opsAt Tryd.f123 [1, 1, 1, 1, 1, 0, 1, 0]) Qd (Mem (gB F [cellCh b1 [v2, (.int .i64 r_0_p)] 122] w0) (feet [cellCh b1 [v2, (.int .i64 r_0_p)] 122]) w0 [cellCh b11 [(.int .i64 r7), (.int .i64 0), (.int .i64 0), (.bool (decide (r9 = 0)))] 173, cellCh b5 [(.int .i64 0), (.int .i64 0), (.int .i64 0), (.bool false)] 173, snapCh w0 F]) 5 #[true, true, true, true, true, true, true, true, false, false, true, true, false, false, false]) [(0, (.pointer (some ⟨b1, 0, none⟩))), (1, (.int .i64 n_1)), (4, (.pointer (some ⟨b5, 0, none⟩))), (5, (.pointer (some ⟨b11, 0, none⟩))), (6, (.int .i64 r13)), (7, (.pointer (some ⟨b16, 0, none⟩))), (41, (.agg #[(.int .i64 0), (.int .i64 r13)])), (47, (.int .i64 r13)), (44, (.agg #[(.int .i64 0), (.int .i64 t154)])), (51, (.int .i64 r170)), (46, (.int .i64 t153))] [cellCh b1 [v2, (.int .i64 r171)] 122, cellCh b16 [(.int .i64 t153), (.int .i64 t154)] 83, cellCh b11 [(.int .i64 r7), (.int .i64 0), (.int .i64 0), (.bool (decide (r9 = 0)))] 173, cellCh b5 [(.int .i64 0), (.int .i64 0), (.int .i64 0), (.bool false)] 173, snapCh w0 F] (idxW ([(GSpan.mk 0 r13), (GSpan.mk 0 t154), (GSpan.mk t153 r13)]) r170 (fun e165 => k161 (r171, e165.xLo, e165.xHi))) := by
            intro r170 r171
            refine o_bld (dt 8 (fun w m => m.pick [2, 3, 4] rfl)) (qs := [(0, (.int .i64 t153)), (1, (.int .i64 r13))]) (cells := [(.int .i64 t153), (.int .i64 r13)]) (by intro ρ h; simp only [List.map_toArray, List.map_cons, List.map_nil, h (.tmp 46) _ rfl, h (.tmp 47) _ rfl]) rfl bld83 rfl ?_
            refine d_one (i := 9) rfl (by kernel_rfl) (o_bsl (enc := encGSpan) (qs := [(0, (.agg #[(.int .i64 0), (.int .i64 r13)])), (1, (.agg #[(.int .i64 0), (.int .i64 t154)])), (2, (.agg #[(.int .i64 t153), (.int .i64 r13)]))]) (cells := [(.int .i64 0), (.int .i64 r13), (.int .i64 0), (.int .i64 t154), (.int .i64 t153), (.int .i64 r13)]) ([(GSpan.mk 0 r13), (GSpan.mk 0 t154), (GSpan.mk t153 r13)]) flelGSpan (by intro ρ h; simp only [List.map_toArray, List.map_cons, List.map_nil, h (.tmp 41) _ rfl, h (.tmp 44) _ rfl, h (.tmp 48) _ rfl]) rfl el84 zero83 rfl rfl rfl rfl rfl rfl ?_); intro v172
            refine d_and (fun w m => m.pick [3, 4, 5] rfl) ?_
            refine pk [1, 0, 2, 3, 4, 5] rfl ?_
            refine re (E' := [(0, (.pointer (some ⟨b1, 0, none⟩))), (1, (.int .i64 n_1)), (4, (.pointer (some ⟨b5, 0, none⟩))), (5, (.pointer (some ⟨b11, 0, none⟩))), (6, (.int .i64 r13)), (7, (.pointer (some ⟨b16, 0, none⟩))), (49, v172), (51, (.int .i64 r170))]) ⟨rfl, rfl, rfl, rfl, rfl, rfl, rfl, rfl, trivial⟩ ?_
            exact H165 v172 r170 r171
          have H170 : ∀ (r170 : Int) (r171 : Int), Nx 83 (gB F [cellCh b1 [v2, (.int .i64 r_0_p)] 122] w0) (feet [cellCh b1 [v2, (.int .i64 r_0_p)] 122]) w0 (wpAnyH Tryd.prog .any (opsAt Tryd.f123 [1, 1, 1, 1, 1, 0, 1, 0]) Qd (Mem (gB F [cellCh b1 [v2, (.int .i64 r_0_p)] 122] w0) (feet [cellCh b1 [v2, (.int .i64 r_0_p)] 122]) w0 [cellCh b11 [(.int .i64 r7), (.int .i64 0), (.int .i64 0), (.bool (decide (r9 = 0)))] 173, cellCh b5 [(.int .i64 0), (.int .i64 0), (.int .i64 0), (.bool false)] 173, snapCh w0 F]) 6 #[true, true, true, true, true, true, false, true, false, false, true, true, false, false, false]) [(0, (.pointer (some ⟨b1, 0, none⟩))), (1, (.int .i64 n_1)), (4, (.pointer (some ⟨b5, 0, none⟩))), (5, (.pointer (some ⟨b11, 0, none⟩))), (6, (.int .i64 r13)), (7, (.pointer (some ⟨b16, 0, none⟩))), (41, (.agg #[(.int .i64 0), (.int .i64 r13)])), (45, (.pointer (some ⟨b16, 0, none⟩))), (47, (.int .i64 r13)), (44, (.agg #[(.int .i64 0), (.int .i64 t154)])), (51, (.int .i64 r170))] [cellCh b1 [v2, (.int .i64 r171)] 122, cellCh b16 [(.int .i64 t153), (.int .i64 t154)] 83, cellCh b11 [(.int .i64 r7), (.int .i64 0), (.int .i64 0), (.bool (decide (r9 = 0)))] 173, cellCh b5 [(.int .i64 0), (.int .i64 0), (.int .i64 0), (.bool false)] 173, snapCh w0 F] (idxW ([(GSpan.mk 0 r13), (GSpan.mk 0 t154), (GSpan.mk t153 r13)]) r170 (fun e165 => k161 (r171, e165.xLo, e165.xHi))) := by
            intro r170 r171
            refine d_one (i := 6) rfl (by kernel_rfl) (o_ldc m_op (v := (.int .i64 t153)) 1 rfl rfl rfl ty3 rfl ?_)
            refine d_and (fun w m => m.pick [2, 3, 4] rfl) ?_
            refine pk [0, 1, 2, 3, 4] rfl ?_
            refine re (E' := [(0, (.pointer (some ⟨b1, 0, none⟩))), (1, (.int .i64 n_1)), (4, (.pointer (some ⟨b5, 0, none⟩))), (5, (.pointer (some ⟨b11, 0, none⟩))), (6, (.int .i64 r13)), (7, (.pointer (some ⟨b16, 0, none⟩))), (41, (.agg #[(.int .i64 0), (.int .i64 r13)])), (47, (.int .i64 r13)), (44, (.agg #[(.int .i64 0), (.int .i64 t154)])), (51, (.int .i64 r170)), (46, (.int .i64 t153))]) ⟨rfl, rfl, rfl, rfl, rfl, rfl, rfl, rfl, rfl, rfl, rfl, trivial⟩ ?_
            exact H169 r170 r171
          have H171 : ∀ (_ : Unit), Nx 83 (gB F [cellCh b1 [v2, (.int .i64 r_0_p)] 122] w0) (feet [cellCh b1 [v2, (.int .i64 r_0_p)] 122]) w0 (wpAnyH Tryd.prog .any (opsAt Tryd.f123 [1, 1, 1, 1, 1, 0, 1, 0]) Qd (Mem (gB F [cellCh b1 [v2, (.int .i64 r_0_p)] 122] w0) (feet [cellCh b1 [v2, (.int .i64 r_0_p)] 122]) w0 [cellCh b11 [(.int .i64 r7), (.int .i64 0), (.int .i64 0), (.bool (decide (r9 = 0)))] 173, cellCh b5 [(.int .i64 0), (.int .i64 0), (.int .i64 0), (.bool false)] 173, snapCh w0 F]) 8 #[true, true, true, true, false, true, false, true, false, false, true, false, false, false, false]) [(0, (.pointer (some ⟨b1, 0, none⟩))), (1, (.int .i64 n_1)), (4, (.pointer (some ⟨b5, 0, none⟩))), (5, (.pointer (some ⟨b11, 0, none⟩))), (6, (.int .i64 r13)), (7, (.pointer (some ⟨b16, 0, none⟩))), (41, (.agg #[(.int .i64 0), (.int .i64 r13)])), (45, (.pointer (some ⟨b16, 0, none⟩))), (47, (.int .i64 r13)), (50, (.pointer (some ⟨b1, 0, none⟩))), (43, (.int .i64 t154))] [cellCh b1 [v2, (.int .i64 r157)] 122, cellCh b16 [(.int .i64 t153), (.int .i64 t154)] 83, cellCh b11 [(.int .i64 r7), (.int .i64 0), (.int .i64 0), (.bool (decide (r9 = 0)))] 173, cellCh b5 [(.int .i64 0), (.int .i64 0), (.int .i64 0), (.bool false)] 173, snapCh w0 F] (L_spec_l20Rd_pick r_0_b r157 3 (fun (r163, r164) => idxW ([(GSpan.mk 0 r13), (GSpan.mk 0 t154), (GSpan.mk t153 r13)]) r163 (fun e165 => k161 (r164, e165.xLo, e165.xHi)))) := by
            intro _
            refine o_bld (dt 4 (fun w m => m.pick [2, 3, 4] rfl)) (qs := [(0, (.int .i64 0)), (1, (.int .i64 t154))]) (cells := [(.int .i64 0), (.int .i64 t154)]) (by intro ρ h; simp only [List.map_toArray, List.map_cons, List.map_nil, h (.const (.int .i64 0)) _ rfl, h (.tmp 43) _ rfl]) rfl bld83 rfl ?_
            refine d_two (i := 6) (j := 11) rfl rfl (by kernel_rfl) ?_ ?_
            · intro o ho; cases ho
              refine o_ldc m_op (v := (.int .i64 t153)) 1 rfl rfl rfl ty3 rfl ?_
              refine d_and (fun w m => m.pick [2, 3, 4] rfl) ?_
              refine pk [0, 1, 2, 3, 4] rfl ?_
              refine re (E' := [(0, (.pointer (some ⟨b1, 0, none⟩))), (1, (.int .i64 n_1)), (4, (.pointer (some ⟨b5, 0, none⟩))), (5, (.pointer (some ⟨b11, 0, none⟩))), (6, (.int .i64 r13)), (7, (.pointer (some ⟨b16, 0, none⟩))), (41, (.agg #[(.int .i64 0), (.int .i64 r13)])), (47, (.int .i64 r13)), (50, (.pointer (some ⟨b1, 0, none⟩))), (44, (.agg #[(.int .i64 0), (.int .i64 t154)])), (46, (.int .i64 t153))]) ⟨rfl, rfl, rfl, rfl, rfl, rfl, rfl, rfl, rfl, rfl, rfl, trivial⟩ ?_
              exact H168 ()
            · intro o ho; cases ho
              refine o_call (vs := [(.pointer (some ⟨b1, 0, none⟩)), (.int .i64 3)]) (M0 := [cellCh b1 [v2, (.int .i64 r157)] 122]) Tryd.call68 rfl rfl (by intro w m h; exact (w_spec_l20Rd_pick (F := allB [cellCh b1 [v2, (.int .i64 r157)] 122] w) (r_0_b := r_0_b) (r_0_p := r157) (n_1 := 3) allB_ok m.given (m.rdM 3 rfl (reads_snap hv2)) h).mono (fun _ _ k => ret_free (fun r u => (fr_cons free_cell fr_nil)) k)) ?_; rintro ⟨r170, r171⟩ _
              refine d_and (fun w m => m.pick [2, 3, 4] rfl) ?_
              refine pk [0, 1, 2, 3, 4] rfl ?_
              refine re (E' := [(0, (.pointer (some ⟨b1, 0, none⟩))), (1, (.int .i64 n_1)), (4, (.pointer (some ⟨b5, 0, none⟩))), (5, (.pointer (some ⟨b11, 0, none⟩))), (6, (.int .i64 r13)), (7, (.pointer (some ⟨b16, 0, none⟩))), (41, (.agg #[(.int .i64 0), (.int .i64 r13)])), (45, (.pointer (some ⟨b16, 0, none⟩))), (47, (.int .i64 r13)), (44, (.agg #[(.int .i64 0), (.int .i64 t154)])), (51, (.int .i64 r170))]) ⟨rfl, rfl, rfl, rfl, rfl, rfl, rfl, rfl, rfl, rfl, rfl, trivial⟩ ?_
              exact H170 r170 r171
          have H172 : ∀ (_ : Unit), Nx 83 (gB F [cellCh b1 [v2, (.int .i64 r_0_p)] 122] w0) (feet [cellCh b1 [v2, (.int .i64 r_0_p)] 122]) w0 (wpAnyH Tryd.prog .any (opsAt Tryd.f123 [1, 1, 1, 1, 1, 0, 1, 0]) Qd (Mem (gB F [cellCh b1 [v2, (.int .i64 r_0_p)] 122] w0) (feet [cellCh b1 [v2, (.int .i64 r_0_p)] 122]) w0 [cellCh b11 [(.int .i64 r7), (.int .i64 0), (.int .i64 0), (.bool (decide (r9 = 0)))] 173, cellCh b5 [(.int .i64 0), (.int .i64 0), (.int .i64 0), (.bool false)] 173, snapCh w0 F]) 6 #[true, true, true, true, false, true, true, true, true, false, true, false, false, false, false]) [(0, (.pointer (some ⟨b1, 0, none⟩))), (1, (.int .i64 n_1)), (4, (.pointer (some ⟨b5, 0, none⟩))), (5, (.pointer (some ⟨b11, 0, none⟩))), (6, (.int .i64 r13)), (7, (.pointer (some ⟨b16, 0, none⟩))), (41, (.agg #[(.int .i64 0), (.int .i64 r13)])), (50, (.pointer (some ⟨b1, 0, none⟩))), (48, (.agg #[(.int .i64 t153), (.int .i64 r13)])), (43, (.int .i64 t154))] [cellCh b1 [v2, (.int .i64 r157)] 122, cellCh b16 [(.int .i64 t153), (.int .i64 t154)] 83, cellCh b11 [(.int .i64 r7), (.int .i64 0), (.int .i64 0), (.bool (decide (r9 = 0)))] 173, cellCh b5 [(.int .i64 0), (.int .i64 0), (.int .i64 0), (.bool false)] 173, snapCh w0 F] (L_spec_l20Rd_pick r_0_b r157 3 (fun (r163, r164) => idxW ([(GSpan.mk 0 r13), (GSpan.mk 0 t154), (GSpan.mk t153 r13)]) r163 (fun e165 => k161 (r164, e165.xLo, e165.xHi)))) := by
            intro _
            refine o_bld (dt 4 (fun w m => m.pick [2, 3, 4] rfl)) (qs := [(0, (.int .i64 0)), (1, (.int .i64 t154))]) (cells := [(.int .i64 0), (.int .i64 t154)]) (by intro ρ h; simp only [List.map_toArray, List.map_cons, List.map_nil, h (.const (.int .i64 0)) _ rfl, h (.tmp 43) _ rfl]) rfl bld83 rfl ?_
            refine d_two (i := 9) (j := 11) rfl rfl (by kernel_rfl) ?_ ?_
            · intro o ho; cases ho
              refine o_bsl (enc := encGSpan) (qs := [(0, (.agg #[(.int .i64 0), (.int .i64 r13)])), (1, (.agg #[(.int .i64 0), (.int .i64 t154)])), (2, (.agg #[(.int .i64 t153), (.int .i64 r13)]))]) (cells := [(.int .i64 0), (.int .i64 r13), (.int .i64 0), (.int .i64 t154), (.int .i64 t153), (.int .i64 r13)]) ([(GSpan.mk 0 r13), (GSpan.mk 0 t154), (GSpan.mk t153 r13)]) flelGSpan (by intro ρ h; simp only [List.map_toArray, List.map_cons, List.map_nil, h (.tmp 41) _ rfl, h (.tmp 44) _ rfl, h (.tmp 48) _ rfl]) rfl el84 zero83 rfl rfl rfl rfl rfl rfl ?_; intro v173
              refine d_and (fun w m => m.pick [3, 4, 5] rfl) ?_
              refine pk [0, 1, 2, 3, 4, 5] rfl ?_
              refine re (E' := [(0, (.pointer (some ⟨b1, 0, none⟩))), (1, (.int .i64 n_1)), (4, (.pointer (some ⟨b5, 0, none⟩))), (5, (.pointer (some ⟨b11, 0, none⟩))), (6, (.int .i64 r13)), (7, (.pointer (some ⟨b16, 0, none⟩))), (50, (.pointer (some ⟨b1, 0, none⟩))), (49, v173)]) ⟨rfl, rfl, rfl, rfl, rfl, rfl, rfl, rfl, trivial⟩ ?_
              exact H166 v173
            · intro o ho; cases ho
              refine o_call (vs := [(.pointer (some ⟨b1, 0, none⟩)), (.int .i64 3)]) (M0 := [cellCh b1 [v2, (.int .i64 r157)] 122]) Tryd.call68 rfl rfl (by intro w m h; exact (w_spec_l20Rd_pick (F := allB [cellCh b1 [v2, (.int .i64 r157)] 122] w) (r_0_b := r_0_b) (r_0_p := r157) (n_1 := 3) allB_ok m.given (m.rdM 3 rfl (reads_snap hv2)) h).mono (fun _ _ k => ret_free (fun r u => (fr_cons free_cell fr_nil)) k)) ?_; rintro ⟨r174, r175⟩ _
              refine d_and (fun w m => m.pick [2, 3, 4] rfl) ?_
              refine pk [0, 1, 2, 3, 4] rfl ?_
              refine re (E' := [(0, (.pointer (some ⟨b1, 0, none⟩))), (1, (.int .i64 n_1)), (4, (.pointer (some ⟨b5, 0, none⟩))), (5, (.pointer (some ⟨b11, 0, none⟩))), (6, (.int .i64 r13)), (7, (.pointer (some ⟨b16, 0, none⟩))), (41, (.agg #[(.int .i64 0), (.int .i64 r13)])), (44, (.agg #[(.int .i64 0), (.int .i64 t154)])), (48, (.agg #[(.int .i64 t153), (.int .i64 r13)])), (51, (.int .i64 r174))]) ⟨rfl, rfl, rfl, rfl, rfl, rfl, rfl, rfl, rfl, rfl, trivial⟩ ?_
              exact H167 r174 r175
          have H173 : ∀ (r176 : Int) (r177 : Int), Nx 83 (gB F [cellCh b1 [v2, (.int .i64 r_0_p)] 122] w0) (feet [cellCh b1 [v2, (.int .i64 r_0_p)] 122]) w0 (wpAnyH Tryd.prog .any (opsAt Tryd.f123 [1, 1, 1, 1, 1, 0, 1, 0]) Qd (Mem (gB F [cellCh b1 [v2, (.int .i64 r_0_p)] 122] w0) (feet [cellCh b1 [v2, (.int .i64 r_0_p)] 122]) w0 [cellCh b11 [(.int .i64 r7), (.int .i64 0), (.int .i64 0), (.bool (decide (r9 = 0)))] 173, cellCh b5 [(.int .i64 0), (.int .i64 0), (.int .i64 0), (.bool false)] 173, snapCh w0 F]) 5 #[true, true, true, true, false, true, true, true, true, false, true, true, false, false, false]) [(0, (.pointer (some ⟨b1, 0, none⟩))), (1, (.int .i64 n_1)), (4, (.pointer (some ⟨b5, 0, none⟩))), (5, (.pointer (some ⟨b11, 0, none⟩))), (6, (.int .i64 r13)), (7, (.pointer (some ⟨b16, 0, none⟩))), (41, (.agg #[(.int .i64 0), (.int .i64 r13)])), (48, (.agg #[(.int .i64 t153), (.int .i64 r13)])), (51, (.int .i64 r176)), (43, (.int .i64 t154))] [cellCh b1 [v2, (.int .i64 r177)] 122, cellCh b16 [(.int .i64 t153), (.int .i64 t154)] 83, cellCh b11 [(.int .i64 r7), (.int .i64 0), (.int .i64 0), (.bool (decide (r9 = 0)))] 173, cellCh b5 [(.int .i64 0), (.int .i64 0), (.int .i64 0), (.bool false)] 173, snapCh w0 F] (idxW ([(GSpan.mk 0 r13), (GSpan.mk 0 t154), (GSpan.mk t153 r13)]) r176 (fun e165 => k161 (r177, e165.xLo, e165.xHi))) := by
            intro r176 r177
            refine o_bld (dt 4 (fun w m => m.pick [2, 3, 4] rfl)) (qs := [(0, (.int .i64 0)), (1, (.int .i64 t154))]) (cells := [(.int .i64 0), (.int .i64 t154)]) (by intro ρ h; simp only [List.map_toArray, List.map_cons, List.map_nil, h (.const (.int .i64 0)) _ rfl, h (.tmp 43) _ rfl]) rfl bld83 rfl ?_
            refine d_one (i := 9) rfl (by kernel_rfl) (o_bsl (enc := encGSpan) (qs := [(0, (.agg #[(.int .i64 0), (.int .i64 r13)])), (1, (.agg #[(.int .i64 0), (.int .i64 t154)])), (2, (.agg #[(.int .i64 t153), (.int .i64 r13)]))]) (cells := [(.int .i64 0), (.int .i64 r13), (.int .i64 0), (.int .i64 t154), (.int .i64 t153), (.int .i64 r13)]) ([(GSpan.mk 0 r13), (GSpan.mk 0 t154), (GSpan.mk t153 r13)]) flelGSpan (by intro ρ h; simp only [List.map_toArray, List.map_cons, List.map_nil, h (.tmp 41) _ rfl, h (.tmp 44) _ rfl, h (.tmp 48) _ rfl]) rfl el84 zero83 rfl rfl rfl rfl rfl rfl ?_); intro v178
            refine d_and (fun w m => m.pick [3, 4, 5] rfl) ?_
            refine pk [1, 0, 2, 3, 4, 5] rfl ?_
            refine re (E' := [(0, (.pointer (some ⟨b1, 0, none⟩))), (1, (.int .i64 n_1)), (4, (.pointer (some ⟨b5, 0, none⟩))), (5, (.pointer (some ⟨b11, 0, none⟩))), (6, (.int .i64 r13)), (7, (.pointer (some ⟨b16, 0, none⟩))), (49, v178), (51, (.int .i64 r176))]) ⟨rfl, rfl, rfl, rfl, rfl, rfl, rfl, rfl, trivial⟩ ?_
            exact H165 v178 r176 r177
          have H174 : ∀ (r176 : Int) (r177 : Int), Nx 83 (gB F [cellCh b1 [v2, (.int .i64 r_0_p)] 122] w0) (feet [cellCh b1 [v2, (.int .i64 r_0_p)] 122]) w0 (wpAnyH Tryd.prog .any (opsAt Tryd.f123 [1, 1, 1, 1, 1, 0, 1, 0]) Qd (Mem (gB F [cellCh b1 [v2, (.int .i64 r_0_p)] 122] w0) (feet [cellCh b1 [v2, (.int .i64 r_0_p)] 122]) w0 [cellCh b11 [(.int .i64 r7), (.int .i64 0), (.int .i64 0), (.bool (decide (r9 = 0)))] 173, cellCh b5 [(.int .i64 0), (.int .i64 0), (.int .i64 0), (.bool false)] 173, snapCh w0 F]) 6 #[true, true, true, false, false, true, true, true, true, false, true, true, false, false, false]) [(0, (.pointer (some ⟨b1, 0, none⟩))), (1, (.int .i64 n_1)), (4, (.pointer (some ⟨b5, 0, none⟩))), (5, (.pointer (some ⟨b11, 0, none⟩))), (6, (.int .i64 r13)), (7, (.pointer (some ⟨b16, 0, none⟩))), (41, (.agg #[(.int .i64 0), (.int .i64 r13)])), (42, (.pointer (some ⟨b16, 1, none⟩))), (48, (.agg #[(.int .i64 t153), (.int .i64 r13)])), (51, (.int .i64 r176))] [cellCh b1 [v2, (.int .i64 r177)] 122, cellCh b16 [(.int .i64 t153), (.int .i64 t154)] 83, cellCh b11 [(.int .i64 r7), (.int .i64 0), (.int .i64 0), (.bool (decide (r9 = 0)))] 173, cellCh b5 [(.int .i64 0), (.int .i64 0), (.int .i64 0), (.bool false)] 173, snapCh w0 F] (idxW ([(GSpan.mk 0 r13), (GSpan.mk 0 t154), (GSpan.mk t153 r13)]) r176 (fun e165 => k161 (r177, e165.xLo, e165.xHi))) := by
            intro r176 r177
            refine d_one (i := 3) rfl (by kernel_rfl) (o_ldc m_op (v := (.int .i64 t154)) 1 rfl rfl rfl ty3 rfl ?_)
            refine d_and (fun w m => m.pick [2, 3, 4] rfl) ?_
            refine pk [0, 1, 2, 3, 4] rfl ?_
            refine re (E' := [(0, (.pointer (some ⟨b1, 0, none⟩))), (1, (.int .i64 n_1)), (4, (.pointer (some ⟨b5, 0, none⟩))), (5, (.pointer (some ⟨b11, 0, none⟩))), (6, (.int .i64 r13)), (7, (.pointer (some ⟨b16, 0, none⟩))), (41, (.agg #[(.int .i64 0), (.int .i64 r13)])), (48, (.agg #[(.int .i64 t153), (.int .i64 r13)])), (51, (.int .i64 r176)), (43, (.int .i64 t154))]) ⟨rfl, rfl, rfl, rfl, rfl, rfl, rfl, rfl, rfl, rfl, trivial⟩ ?_
            exact H173 r176 r177
          have H175 : ∀ (_ : Unit), Nx 83 (gB F [cellCh b1 [v2, (.int .i64 r_0_p)] 122] w0) (feet [cellCh b1 [v2, (.int .i64 r_0_p)] 122]) w0 (wpAnyH Tryd.prog .any (opsAt Tryd.f123 [1, 1, 1, 1, 1, 0, 1, 0]) Qd (Mem (gB F [cellCh b1 [v2, (.int .i64 r_0_p)] 122] w0) (feet [cellCh b1 [v2, (.int .i64 r_0_p)] 122]) w0 [cellCh b11 [(.int .i64 r7), (.int .i64 0), (.int .i64 0), (.bool (decide (r9 = 0)))] 173, cellCh b5 [(.int .i64 0), (.int .i64 0), (.int .i64 0), (.bool false)] 173, snapCh w0 F]) 8 #[true, true, true, false, false, true, true, true, false, false, true, false, false, false, false]) [(0, (.pointer (some ⟨b1, 0, none⟩))), (1, (.int .i64 n_1)), (4, (.pointer (some ⟨b5, 0, none⟩))), (5, (.pointer (some ⟨b11, 0, none⟩))), (6, (.int .i64 r13)), (7, (.pointer (some ⟨b16, 0, none⟩))), (41, (.agg #[(.int .i64 0), (.int .i64 r13)])), (42, (.pointer (some ⟨b16, 1, none⟩))), (47, (.int .i64 r13)), (50, (.pointer (some ⟨b1, 0, none⟩))), (46, (.int .i64 t153))] [cellCh b1 [v2, (.int .i64 r157)] 122, cellCh b16 [(.int .i64 t153), (.int .i64 t154)] 83, cellCh b11 [(.int .i64 r7), (.int .i64 0), (.int .i64 0), (.bool (decide (r9 = 0)))] 173, cellCh b5 [(.int .i64 0), (.int .i64 0), (.int .i64 0), (.bool false)] 173, snapCh w0 F] (L_spec_l20Rd_pick r_0_b r157 3 (fun (r163, r164) => idxW ([(GSpan.mk 0 r13), (GSpan.mk 0 t154), (GSpan.mk t153 r13)]) r163 (fun e165 => k161 (r164, e165.xLo, e165.xHi)))) := by
            intro _
            refine o_bld (dt 8 (fun w m => m.pick [2, 3, 4] rfl)) (qs := [(0, (.int .i64 t153)), (1, (.int .i64 r13))]) (cells := [(.int .i64 t153), (.int .i64 r13)]) (by intro ρ h; simp only [List.map_toArray, List.map_cons, List.map_nil, h (.tmp 46) _ rfl, h (.tmp 47) _ rfl]) rfl bld83 rfl ?_
            refine d_two (i := 3) (j := 11) rfl rfl (by kernel_rfl) ?_ ?_
            · intro o ho; cases ho
              refine o_ldc m_op (v := (.int .i64 t154)) 1 rfl rfl rfl ty3 rfl ?_
              refine d_and (fun w m => m.pick [2, 3, 4] rfl) ?_
              refine pk [0, 1, 2, 3, 4] rfl ?_
              refine re (E' := [(0, (.pointer (some ⟨b1, 0, none⟩))), (1, (.int .i64 n_1)), (4, (.pointer (some ⟨b5, 0, none⟩))), (5, (.pointer (some ⟨b11, 0, none⟩))), (6, (.int .i64 r13)), (7, (.pointer (some ⟨b16, 0, none⟩))), (41, (.agg #[(.int .i64 0), (.int .i64 r13)])), (50, (.pointer (some ⟨b1, 0, none⟩))), (48, (.agg #[(.int .i64 t153), (.int .i64 r13)])), (43, (.int .i64 t154))]) ⟨rfl, rfl, rfl, rfl, rfl, rfl, rfl, rfl, rfl, rfl, trivial⟩ ?_
              exact H172 ()
            · intro o ho; cases ho
              refine o_call (vs := [(.pointer (some ⟨b1, 0, none⟩)), (.int .i64 3)]) (M0 := [cellCh b1 [v2, (.int .i64 r157)] 122]) Tryd.call68 rfl rfl (by intro w m h; exact (w_spec_l20Rd_pick (F := allB [cellCh b1 [v2, (.int .i64 r157)] 122] w) (r_0_b := r_0_b) (r_0_p := r157) (n_1 := 3) allB_ok m.given (m.rdM 3 rfl (reads_snap hv2)) h).mono (fun _ _ k => ret_free (fun r u => (fr_cons free_cell fr_nil)) k)) ?_; rintro ⟨r176, r177⟩ _
              refine d_and (fun w m => m.pick [2, 3, 4] rfl) ?_
              refine pk [0, 1, 2, 3, 4] rfl ?_
              refine re (E' := [(0, (.pointer (some ⟨b1, 0, none⟩))), (1, (.int .i64 n_1)), (4, (.pointer (some ⟨b5, 0, none⟩))), (5, (.pointer (some ⟨b11, 0, none⟩))), (6, (.int .i64 r13)), (7, (.pointer (some ⟨b16, 0, none⟩))), (41, (.agg #[(.int .i64 0), (.int .i64 r13)])), (42, (.pointer (some ⟨b16, 1, none⟩))), (48, (.agg #[(.int .i64 t153), (.int .i64 r13)])), (51, (.int .i64 r176))]) ⟨rfl, rfl, rfl, rfl, rfl, rfl, rfl, rfl, rfl, rfl, trivial⟩ ?_
              exact H174 r176 r177
          have H176 : ∀ (r179 : Int) (r180 : Int), Nx 83 (gB F [cellCh b1 [v2, (.int .i64 r_0_p)] 122] w0) (feet [cellCh b1 [v2, (.int .i64 r_0_p)] 122]) w0 (wpAnyH Tryd.prog .any (opsAt Tryd.f123 [1, 1, 1, 1, 1, 0, 1, 0]) Qd (Mem (gB F [cellCh b1 [v2, (.int .i64 r_0_p)] 122] w0) (feet [cellCh b1 [v2, (.int .i64 r_0_p)] 122]) w0 [cellCh b11 [(.int .i64 r7), (.int .i64 0), (.int .i64 0), (.bool (decide (r9 = 0)))] 173, cellCh b5 [(.int .i64 0), (.int .i64 0), (.int .i64 0), (.bool false)] 173, snapCh w0 F]) 7 #[true, true, true, true, false, true, false, true, false, false, true, true, false, false, false]) [(0, (.pointer (some ⟨b1, 0, none⟩))), (1, (.int .i64 n_1)), (4, (.pointer (some ⟨b5, 0, none⟩))), (5, (.pointer (some ⟨b11, 0, none⟩))), (6, (.int .i64 r13)), (7, (.pointer (some ⟨b16, 0, none⟩))), (41, (.agg #[(.int .i64 0), (.int .i64 r13)])), (45, (.pointer (some ⟨b16, 0, none⟩))), (47, (.int .i64 r13)), (51, (.int .i64 r179)), (43, (.int .i64 t154))] [cellCh b1 [v2, (.int .i64 r180)] 122, cellCh b16 [(.int .i64 t153), (.int .i64 t154)] 83, cellCh b11 [(.int .i64 r7), (.int .i64 0), (.int .i64 0), (.bool (decide (r9 = 0)))] 173, cellCh b5 [(.int .i64 0), (.int .i64 0), (.int .i64 0), (.bool false)] 173, snapCh w0 F] (idxW ([(GSpan.mk 0 r13), (GSpan.mk 0 t154), (GSpan.mk t153 r13)]) r179 (fun e165 => k161 (r180, e165.xLo, e165.xHi))) := by
            intro r179 r180
            refine o_bld (dt 4 (fun w m => m.pick [2, 3, 4] rfl)) (qs := [(0, (.int .i64 0)), (1, (.int .i64 t154))]) (cells := [(.int .i64 0), (.int .i64 t154)]) (by intro ρ h; simp only [List.map_toArray, List.map_cons, List.map_nil, h (.const (.int .i64 0)) _ rfl, h (.tmp 43) _ rfl]) rfl bld83 rfl ?_
            refine d_one (i := 6) rfl (by kernel_rfl) (o_ldc m_op (v := (.int .i64 t153)) 1 rfl rfl rfl ty3 rfl ?_)
            refine d_and (fun w m => m.pick [2, 3, 4] rfl) ?_
            refine pk [0, 1, 2, 3, 4] rfl ?_
            refine re (E' := [(0, (.pointer (some ⟨b1, 0, none⟩))), (1, (.int .i64 n_1)), (4, (.pointer (some ⟨b5, 0, none⟩))), (5, (.pointer (some ⟨b11, 0, none⟩))), (6, (.int .i64 r13)), (7, (.pointer (some ⟨b16, 0, none⟩))), (41, (.agg #[(.int .i64 0), (.int .i64 r13)])), (47, (.int .i64 r13)), (44, (.agg #[(.int .i64 0), (.int .i64 t154)])), (51, (.int .i64 r179)), (46, (.int .i64 t153))]) ⟨rfl, rfl, rfl, rfl, rfl, rfl, rfl, rfl, rfl, rfl, rfl, trivial⟩ ?_
            exact H169 r179 r180
          have H177 : ∀ (r179 : Int) (r180 : Int), Nx 83 (gB F [cellCh b1 [v2, (.int .i64 r_0_p)] 122] w0) (feet [cellCh b1 [v2, (.int .i64 r_0_p)] 122]) w0 (wpAnyH Tryd.prog .any (opsAt Tryd.f123 [1, 1, 1, 1, 1, 0, 1, 0]) Qd (Mem (gB F [cellCh b1 [v2, (.int .i64 r_0_p)] 122] w0) (feet [cellCh b1 [v2, (.int .i64 r_0_p)] 122]) w0 [cellCh b11 [(.int .i64 r7), (.int .i64 0), (.int .i64 0), (.bool (decide (r9 = 0)))] 173, cellCh b5 [(.int .i64 0), (.int .i64 0), (.int .i64 0), (.bool false)] 173, snapCh w0 F]) 7 #[true, true, true, false, false, true, true, true, false, false, true, true, false, false, false]) [(0, (.pointer (some ⟨b1, 0, none⟩))), (1, (.int .i64 n_1)), (4, (.pointer (some ⟨b5, 0, none⟩))), (5, (.pointer (some ⟨b11, 0, none⟩))), (6, (.int .i64 r13)), (7, (.pointer (some ⟨b16, 0, none⟩))), (41, (.agg #[(.int .i64 0), (.int .i64 r13)])), (42, (.pointer (some ⟨b16, 1, none⟩))), (47, (.int .i64 r13)), (51, (.int .i64 r179)), (46, (.int .i64 t153))] [cellCh b1 [v2, (.int .i64 r180)] 122, cellCh b16 [(.int .i64 t153), (.int .i64 t154)] 83, cellCh b11 [(.int .i64 r7), (.int .i64 0), (.int .i64 0), (.bool (decide (r9 = 0)))] 173, cellCh b5 [(.int .i64 0), (.int .i64 0), (.int .i64 0), (.bool false)] 173, snapCh w0 F] (idxW ([(GSpan.mk 0 r13), (GSpan.mk 0 t154), (GSpan.mk t153 r13)]) r179 (fun e165 => k161 (r180, e165.xLo, e165.xHi))) := by
            intro r179 r180
            refine o_bld (dt 8 (fun w m => m.pick [2, 3, 4] rfl)) (qs := [(0, (.int .i64 t153)), (1, (.int .i64 r13))]) (cells := [(.int .i64 t153), (.int .i64 r13)]) (by intro ρ h; simp only [List.map_toArray, List.map_cons, List.map_nil, h (.tmp 46) _ rfl, h (.tmp 47) _ rfl]) rfl bld83 rfl ?_
            refine d_one (i := 3) rfl (by kernel_rfl) (o_ldc m_op (v := (.int .i64 t154)) 1 rfl rfl rfl ty3 rfl ?_)
            refine d_and (fun w m => m.pick [2, 3, 4] rfl) ?_
            refine pk [0, 1, 2, 3, 4] rfl ?_
            refine re (E' := [(0, (.pointer (some ⟨b1, 0, none⟩))), (1, (.int .i64 n_1)), (4, (.pointer (some ⟨b5, 0, none⟩))), (5, (.pointer (some ⟨b11, 0, none⟩))), (6, (.int .i64 r13)), (7, (.pointer (some ⟨b16, 0, none⟩))), (41, (.agg #[(.int .i64 0), (.int .i64 r13)])), (48, (.agg #[(.int .i64 t153), (.int .i64 r13)])), (51, (.int .i64 r179)), (43, (.int .i64 t154))]) ⟨rfl, rfl, rfl, rfl, rfl, rfl, rfl, rfl, rfl, rfl, trivial⟩ ?_
            exact H173 r179 r180
          have H178 : ∀ (r179 : Int) (r180 : Int), Nx 83 (gB F [cellCh b1 [v2, (.int .i64 r_0_p)] 122] w0) (feet [cellCh b1 [v2, (.int .i64 r_0_p)] 122]) w0 (wpAnyH Tryd.prog .any (opsAt Tryd.f123 [1, 1, 1, 1, 1, 0, 1, 0]) Qd (Mem (gB F [cellCh b1 [v2, (.int .i64 r_0_p)] 122] w0) (feet [cellCh b1 [v2, (.int .i64 r_0_p)] 122]) w0 [cellCh b11 [(.int .i64 r7), (.int .i64 0), (.int .i64 0), (.bool (decide (r9 = 0)))] 173, cellCh b5 [(.int .i64 0), (.int .i64 0), (.int .i64 0), (.bool false)] 173, snapCh w0 F]) 8 #[true, true, true, false, false, true, false, true, false, false, true, true, false, false, false]) [(0, (.pointer (some ⟨b1, 0, none⟩))), (1, (.int .i64 n_1)), (4, (.pointer (some ⟨b5, 0, none⟩))), (5, (.pointer (some ⟨b11, 0, none⟩))), (6, (.int .i64 r13)), (7, (.pointer (some ⟨b16, 0, none⟩))), (41, (.agg #[(.int .i64 0), (.int .i64 r13)])), (42, (.pointer (some ⟨b16, 1, none⟩))), (45, (.pointer (some ⟨b16, 0, none⟩))), (47, (.int .i64 r13)), (51, (.int .i64 r179))] [cellCh b1 [v2, (.int .i64 r180)] 122, cellCh b16 [(.int .i64 t153), (.int .i64 t154)] 83, cellCh b11 [(.int .i64 r7), (.int .i64 0), (.int .i64 0), (.bool (decide (r9 = 0)))] 173, cellCh b5 [(.int .i64 0), (.int .i64 0), (.int .i64 0), (.bool false)] 173, snapCh w0 F] (idxW ([(GSpan.mk 0 r13), (GSpan.mk 0 t154), (GSpan.mk t153 r13)]) r179 (fun e165 => k161 (r180, e165.xLo, e165.xHi))) := by
            intro r179 r180
            refine d_two (i := 3) (j := 6) rfl rfl (by kernel_rfl) ?_ ?_
            · intro o ho; cases ho
              refine o_ldc m_op (v := (.int .i64 t154)) 1 rfl rfl rfl ty3 rfl ?_
              refine d_and (fun w m => m.pick [2, 3, 4] rfl) ?_
              refine pk [0, 1, 2, 3, 4] rfl ?_
              refine re (E' := [(0, (.pointer (some ⟨b1, 0, none⟩))), (1, (.int .i64 n_1)), (4, (.pointer (some ⟨b5, 0, none⟩))), (5, (.pointer (some ⟨b11, 0, none⟩))), (6, (.int .i64 r13)), (7, (.pointer (some ⟨b16, 0, none⟩))), (41, (.agg #[(.int .i64 0), (.int .i64 r13)])), (45, (.pointer (some ⟨b16, 0, none⟩))), (47, (.int .i64 r13)), (51, (.int .i64 r179)), (43, (.int .i64 t154))]) ⟨rfl, rfl, rfl, rfl, rfl, rfl, rfl, rfl, rfl, rfl, rfl, trivial⟩ ?_
              exact H176 r179 r180
            · intro o ho; cases ho
              refine o_ldc m_op (v := (.int .i64 t153)) 1 rfl rfl rfl ty3 rfl ?_
              refine d_and (fun w m => m.pick [2, 3, 4] rfl) ?_
              refine pk [0, 1, 2, 3, 4] rfl ?_
              refine re (E' := [(0, (.pointer (some ⟨b1, 0, none⟩))), (1, (.int .i64 n_1)), (4, (.pointer (some ⟨b5, 0, none⟩))), (5, (.pointer (some ⟨b11, 0, none⟩))), (6, (.int .i64 r13)), (7, (.pointer (some ⟨b16, 0, none⟩))), (41, (.agg #[(.int .i64 0), (.int .i64 r13)])), (42, (.pointer (some ⟨b16, 1, none⟩))), (47, (.int .i64 r13)), (51, (.int .i64 r179)), (46, (.int .i64 t153))]) ⟨rfl, rfl, rfl, rfl, rfl, rfl, rfl, rfl, rfl, rfl, rfl, trivial⟩ ?_
              exact H177 r179 r180
          refine o_mv (dt 0 (fun w m => m.pick [2, 3, 4] rfl)) rfl rfl ?_
          refine o_bld (dt 1 (fun w m => m.pick [2, 3, 4] rfl)) (qs := [(0, (.int .i64 0)), (1, (.int .i64 r13))]) (cells := [(.int .i64 0), (.int .i64 r13)]) (by intro ρ h; simp only [List.map_toArray, List.map_cons, List.map_nil, h (.const (.int .i64 0)) _ rfl, h (.tmp 40) _ rfl]) rfl bld83 rfl ?_
          refine o_fad (dt 2 (fun w m => m.pick [2, 3, 4] rfl)) rfl rfl fld83_1 rfl ?_
          refine o_fad (dt 5 (fun w m => m.pick [2, 3, 4] rfl)) rfl rfl fld83_0 rfl ?_
          refine o_mv (dt 7 (fun w m => m.pick [2, 3, 4] rfl)) rfl rfl ?_
          refine o_mv (dt 10 (fun w m => m.pick [2, 3, 4] rfl)) rfl rfl ?_
          refine d_three (i := 3) (j := 6) (l := 11) rfl rfl rfl (by kernel_rfl) ?_ ?_ ?_
          · intro o ho; cases ho
            refine o_ldc m_op (v := (.int .i64 t154)) 1 rfl rfl rfl ty3 rfl ?_
            refine d_and (fun w m => m.pick [2, 3, 4] rfl) ?_
            refine pk [0, 1, 2, 3, 4] rfl ?_
            refine re (E' := [(0, (.pointer (some ⟨b1, 0, none⟩))), (1, (.int .i64 n_1)), (4, (.pointer (some ⟨b5, 0, none⟩))), (5, (.pointer (some ⟨b11, 0, none⟩))), (6, (.int .i64 r13)), (7, (.pointer (some ⟨b16, 0, none⟩))), (41, (.agg #[(.int .i64 0), (.int .i64 r13)])), (45, (.pointer (some ⟨b16, 0, none⟩))), (47, (.int .i64 r13)), (50, (.pointer (some ⟨b1, 0, none⟩))), (43, (.int .i64 t154))]) ⟨rfl, rfl, rfl, rfl, rfl, rfl, rfl, rfl, rfl, rfl, rfl, trivial⟩ ?_
            exact H171 ()
          · intro o ho; cases ho
            refine o_ldc m_op (v := (.int .i64 t153)) 1 rfl rfl rfl ty3 rfl ?_
            refine d_and (fun w m => m.pick [2, 3, 4] rfl) ?_
            refine pk [0, 1, 2, 3, 4] rfl ?_
            refine re (E' := [(0, (.pointer (some ⟨b1, 0, none⟩))), (1, (.int .i64 n_1)), (4, (.pointer (some ⟨b5, 0, none⟩))), (5, (.pointer (some ⟨b11, 0, none⟩))), (6, (.int .i64 r13)), (7, (.pointer (some ⟨b16, 0, none⟩))), (41, (.agg #[(.int .i64 0), (.int .i64 r13)])), (42, (.pointer (some ⟨b16, 1, none⟩))), (47, (.int .i64 r13)), (50, (.pointer (some ⟨b1, 0, none⟩))), (46, (.int .i64 t153))]) ⟨rfl, rfl, rfl, rfl, rfl, rfl, rfl, rfl, rfl, rfl, rfl, trivial⟩ ?_
            exact H175 ()
          · intro o ho; cases ho
            refine o_call (vs := [(.pointer (some ⟨b1, 0, none⟩)), (.int .i64 3)]) (M0 := [cellCh b1 [v2, (.int .i64 r157)] 122]) Tryd.call68 rfl rfl (by intro w m h; exact (w_spec_l20Rd_pick (F := allB [cellCh b1 [v2, (.int .i64 r157)] 122] w) (r_0_b := r_0_b) (r_0_p := r157) (n_1 := 3) allB_ok m.given (m.rdM 3 rfl (reads_snap hv2)) h).mono (fun _ _ k => ret_free (fun r u => (fr_cons free_cell fr_nil)) k)) ?_; rintro ⟨r179, r180⟩ _
            refine d_and (fun w m => m.pick [2, 3, 4] rfl) ?_
            refine pk [0, 1, 2, 3, 4] rfl ?_
            refine re (E' := [(0, (.pointer (some ⟨b1, 0, none⟩))), (1, (.int .i64 n_1)), (4, (.pointer (some ⟨b5, 0, none⟩))), (5, (.pointer (some ⟨b11, 0, none⟩))), (6, (.int .i64 r13)), (7, (.pointer (some ⟨b16, 0, none⟩))), (41, (.agg #[(.int .i64 0), (.int .i64 r13)])), (42, (.pointer (some ⟨b16, 1, none⟩))), (45, (.pointer (some ⟨b16, 0, none⟩))), (47, (.int .i64 r13)), (51, (.int .i64 r179))]) ⟨rfl, rfl, rfl, rfl, rfl, rfl, rfl, rfl, rfl, rfl, rfl, trivial⟩ ?_
            exact H178 r179 r180
        · rintro ⟨t158, t159, t160⟩ a w ⟨hE, hm⟩ h
          refine nx_of hE hm h ?_
          clear hE hm h
          exact l_join (t158, t159, t160) (fun a w hE hm => ⟨hE.sub ⟨rfl, rfl, rfl, rfl, rfl, rfl, trivial⟩, (hm.pick [0, 1, 2, 3, 4] rfl)⟩)
      · refine c_skip ?_
        exact l_join (r157, t153, t154) (fun a w hE hm => ⟨hE.sub ⟨rfl, rfl, rfl, rfl, rfl, rfl, trivial⟩, (hm.pick [0, 1, 2, 3, 4] rfl)⟩)
    · rintro ⟨t241, t242, t243⟩ a w ⟨hE, hm⟩ h
      refine nx_of hE hm h ?_
      clear hE hm h
      refine c_seq ?_
      refine c_region ?_
      refine o_fad st rfl rfl fld83_0 rfl ?_
      refine o_ldc st (v := (.int .i64 t242)) 1 rfl rfl rfl ty3 rfl ?_
      refine o_fad st rfl rfl fld173_1 rfl ?_
      refine stw (o_stc (cs' := [(.int .i64 r7), (.int .i64 t242), (.int .i64 0), (.bool (decide (r9 = 0)))]) 2 rfl rfl rfl ty3 rfl rfl rfl rfl ?_)
      refine c_nil ?_
      refine l_then ?_
      refine c_seq ?_
      refine c_region ?_
      refine o_fad st rfl rfl fld83_1 rfl ?_
      refine o_ldc st (v := (.int .i64 t243)) 1 rfl rfl rfl ty3 rfl ?_
      refine o_fad st rfl rfl fld173_2 rfl ?_
      refine stw (o_stc (cs' := [(.int .i64 r7), (.int .i64 t242), (.int .i64 t243), (.bool (decide (r9 = 0)))]) 2 rfl rfl rfl ty3 rfl rfl rfl rfl ?_)
      refine c_nil ?_
      refine l_then ?_
      refine c_join (σ := (Int × Int × Int × Int)) (fun ((t317, t318, t319, t320) : (Int × Int × Int × Int)) (a : Act) (w : World) => Has 83 [(4, (.pointer (some ⟨b5, 0, none⟩))), (5, (.pointer (some ⟨b11, 0, none⟩)))] a ∧ Mem (gB F [cellCh b1 [v2, (.int .i64 r_0_p)] 122] w0) (feet [cellCh b1 [v2, (.int .i64 r_0_p)] 122]) w0 [cellCh b1 [v2, (.int .i64 t317)] 122, cellCh b11 [(.int .i64 t318), (.int .i64 t319), (.int .i64 t320), (.bool (decide (r9 = 0)))] 173, cellCh b5 [(.int .i64 0), (.int .i64 0), (.int .i64 0), (.bool false)] 173, snapCh w0 F] w) ?_ ?_
      · intro k321
        refine c_seq ?_
        refine c_region ?_
        refine o_mv st rfl rfl ?_
        refine o_mv st rfl rfl ?_
        refine stw (o_call (vs := [(.pointer (some ⟨b1, 0, none⟩)), (.int .i64 n_1)]) (M0 := [cellCh b1 [v2, (.int .i64 t241)] 122]) Tryd.call85 rfl rfl (by intro w m h; exact (w_spec_l20Rd_odd (F := allB [cellCh b1 [v2, (.int .i64 t241)] 122] w) (r_0_b := r_0_b) (r_0_p := t241) (n_1 := n_1) allB_ok m.given (m.rdM 3 rfl (reads_snap hv2)) h).mono (fun _ _ k => ret_free (fun r u => (fr_cons free_cell fr_nil)) k)) ?_); rintro ⟨r245, r246⟩ _
        refine c_nil ?_
        refine l_then ?_
        refine c_cond rfl ?_ ?_
        · refine c_seq ?_
          refine c_region ?_
          refine o_mv st rfl rfl ?_
          refine stw (o_call (vs := [(.pointer (some ⟨b1, 0, none⟩)), (.int .i64 3)]) (M0 := [cellCh b1 [v2, (.int .i64 r246)] 122]) Tryd.call68 rfl rfl (by intro w m h; exact (w_spec_l20Rd_pick (F := allB [cellCh b1 [v2, (.int .i64 r246)] 122] w) (r_0_b := r_0_b) (r_0_p := r246) (n_1 := 3) allB_ok m.given (m.rdM 3 rfl (reads_snap hv2)) h).mono (fun _ _ k => ret_free (fun r u => (fr_cons free_cell fr_nil)) k)) ?_); rintro ⟨r247, r248⟩ _
          refine c_nil ?_
          refine l_then ?_
          refine c_block ?_
          refine c_seq ?_
          refine c_region ?_
          refine o_eql st und3 rfl rfl rfl ?_
          refine o_as st rfl rfl ?_
          refine c_nil ?_
          refine l_then ?_
          refine c_cond rfl ?_ ?_
          · refine c_region ?_
            refine stw (o_bsl (enc := encInt) (qs := [(0, (.int .i64 (-1))), (1, (.int .i64 4))]) (cells := [(.int .i64 (-1)), (.int .i64 4)]) ([(-1), 4]) flelInt (by intro ρ h; simp only [List.map_toArray, List.map_cons, List.map_nil, h (.const (.int .i64 (-1))) _ rfl, h (.const (.int .i64 4)) _ rfl]) rfl el99 zero3 rfl rfl rfl rfl rfl rfl ?_); intro v249
            refine o_mv st rfl rfl ?_
            refine pk [1, 0, 2, 3, 4, 5] rfl ?_
            refine stw (o_call (vs := [(.pointer (some ⟨b1, 0, none⟩)), (.int .i64 2)]) (M0 := [cellCh b1 [v2, (.int .i64 r248)] 122]) Tryd.call68 rfl rfl (by intro w m h; exact (w_spec_l20Rd_pick (F := allB [cellCh b1 [v2, (.int .i64 r248)] 122] w) (r_0_b := r_0_b) (r_0_p := r248) (n_1 := 2) allB_ok m.given (m.rdM 4 rfl (reads_snap hv2)) h).mono (fun _ _ k => ret_free (fun r u => (fr_cons free_cell fr_nil)) k)) ?_); rintro ⟨r251, r252⟩ _
            refine o_idx st 1 rfl reads_own rfl rfl rfl el99 ?_; intro e253 h254
            refine o_lds st (enc := encInt) (u := (.int .i64 e253)) 1 rfl reads_own flelInt rfl h254 rfl rfl ty3 rfl ?_
            refine o_fad st rfl rfl fld173_0 rfl ?_
            refine stw (o_stc (cs' := [(.int .i64 e253), (.int .i64 t242), (.int .i64 t243), (.bool (decide (r9 = 0)))]) 3 rfl rfl rfl ty3 rfl rfl rfl rfl ?_)
            refine c_nil ?_
            refine b_norm ?_
            exact l_join (r252, e253, t242, t243) (fun a w hE hm => ⟨hE.sub ⟨rfl, rfl, trivial⟩, (hm.pick [0, 3, 4, 5] rfl)⟩)
          · refine c_seq ?_
            refine c_region ?_
            refine o_eql st und3 rfl rfl rfl ?_
            refine o_as st rfl rfl ?_
            refine c_nil ?_
            refine l_then ?_
            refine c_cond rfl ?_ ?_
            · refine c_region ?_
              refine o_fad st rfl rfl fld173_2 rfl ?_
              refine o_ldc st (v := (.int .i64 t243)) 2 rfl rfl rfl ty3 rfl ?_
              refine o_add st rfl rfl rfl ?_; intro t255
              refine o_fad st rfl rfl fld173_1 rfl ?_
              refine stw (o_stc (cs' := [(.int .i64 r7), (.int .i64 t255), (.int .i64 t243), (.bool (decide (r9 = 0)))]) 2 rfl rfl rfl ty3 rfl rfl rfl rfl ?_)
              refine c_nil ?_
              refine b_norm ?_
              exact l_join (r248, r7, t255, t243) (fun a w hE hm => ⟨hE.sub ⟨rfl, rfl, trivial⟩, (hm.pick [0, 2, 3, 4] rfl)⟩)
            · refine c_region ?_
              refine o_mv st rfl rfl ?_
              refine o_add st rfl rfl rfl ?_; intro t256
              refine o_fad st rfl rfl fld173_2 rfl ?_
              refine stw (o_stc (cs' := [(.int .i64 r7), (.int .i64 t242), (.int .i64 t256), (.bool (decide (r9 = 0)))]) 2 rfl rfl rfl ty3 rfl rfl rfl rfl ?_)
              refine c_nil ?_
              refine b_norm ?_
              exact l_join (r248, r7, t242, t256) (fun a w hE hm => ⟨hE.sub ⟨rfl, rfl, trivial⟩, (hm.pick [0, 2, 3, 4] rfl)⟩)
        · refine c_skip ?_
          exact l_join (r246, r7, t242, t243) (fun a w hE hm => ⟨hE.sub ⟨rfl, rfl, trivial⟩, (hm.pick [0, 2, 3, 4] rfl)⟩)
      · rintro ⟨t317, t318, t319, t320⟩ a w ⟨hE, hm⟩ h
        refine nx_of hE hm h ?_
        clear hE hm h
        refine c_seq ?_
        refine c_region ?_
        refine o_ldc st (v := (.agg #[(.int .i64 t318), (.int .i64 t319), (.int .i64 t320), (.bool (decide (r9 = 0)))])) 1 rfl rfl rfl ty173 rfl ?_
        refine stw (o_stc (cs' := [(.int .i64 t318), (.int .i64 t319), (.int .i64 t320), (.bool (decide (r9 = 0)))]) 2 rfl rfl rfl ty173 rfl rfl rfl rfl ?_)
        refine c_nil ?_
        refine l_then ?_
        refine c_ret ?_
        exact l_end1 Tryd.results123 ((GTest.mk t318 t319 t320 (decide (r9 = 0))), t317) () (rv_c 2 rfl rfl ty173 rfl) (fun w m => NewCh.ofB m [0] rfl)

set_option maxRecDepth 100000 in
set_option maxHeartbeats 8000000 in
theorem w_spec_l20Tests {w0 : World} {F : Nat → Prop} {b1 : Nat} {v2 : Value} {r_0_b : (List UInt8)} {r_0_p : Int} {n_1 : Int} {κ : ((List GTest) × Int) → Prop} (hF : ∀ b, F b → b < w0.heap.size ∧ ¬ feet [cellCh b1 [v2, (.int .i64 r_0_p)] 122] b) (hg : Given [cellCh b1 [v2, (.int .i64 r_0_p)] 122] F w0) (hv2 : Sl elU8 F w0 v2 r_0_b) (h : L_spec_l20Tests r_0_b r_0_p n_1 κ) :
    Calls Tryd.prog 116 #[(.pointer (some ⟨b1, 0, none⟩)), (.int .i64 n_1)] w0 (Ret [cellCh b1 [v2, (.int .i64 r_0_p)] 122] F w0 κ (fun (r : ((List GTest) × Int)) (u : Value) => u) (fun (r : ((List GTest) × Int)) (u : Value) => [ownCh elGTest 173 u r.1, cellCh b1 [v2, (.int .i64 r.2)] 122])) := by
  refine enterS (args := [(.pointer (some ⟨b1, 0, none⟩)), (.int .i64 n_1)]) [cellCh b1 [v2, (.int .i64 r_0_p)] 122] hF hg Tryd.func116 rfl Tryd.ntmps116 rfl h ?_
  clear h hF hg
  refine c_seq ?_
  refine c_region ?_
  refine stw (o_asn elGTest 173 rfl rfl ?_)
  refine c_nil ?_
  refine l_then ?_
  refine c_seq ?_
  refine c_region ?_
  refine stw (o_bsl (enc := encGTest) (qs := []) (cells := []) ([] : (List GTest)) flelGTest (by intro ρ h; simp only [List.map_toArray, List.map_cons, List.map_nil]) rfl el102 zero173 rfl rfl rfl rfl rfl rfl ?_); intro v6
  refine o_as st rfl rfl ?_
  refine c_nil ?_
  refine l_then ?_
  refine c_seq ?_
  refine c_seq ?_
  refine c_region ?_
  refine o_mv st rfl rfl ?_
  refine pk [2, 0, 1, 3] rfl ?_
  refine stw (o_call (vs := [(.pointer (some ⟨b1, 0, none⟩)), (.int .i64 4)]) (M0 := [cellCh b1 [v2, (.int .i64 r_0_p)] 122]) Tryd.call68 rfl rfl (by intro w m h; exact (w_spec_l20Rd_pick (F := allB [cellCh b1 [v2, (.int .i64 r_0_p)] 122] w) (r_0_b := r_0_b) (r_0_p := r_0_p) (n_1 := 4) allB_ok m.given (m.rdM 2 rfl (reads_snap hv2)) h).mono (fun _ _ k => ret_free (fun r u => (fr_cons free_cell fr_nil)) k)) ?_); rintro ⟨r8, r9⟩ _
  refine o_as st rfl rfl ?_
  refine c_nil ?_
  refine l_then ?_
  refine c_block ?_
  refine c_loop (σ := (Int × (List GTest) × Int)) (fun ((t10, xs12, t15) : (Int × (List GTest) × Int)) (a : Act) (w : World) => ∃ (v11 : Value), Has 32 [(0, (.pointer (some ⟨b1, 0, none⟩))), (1, (.int .i64 n_1)), (5, v11), (6, (.int .i64 t15))] a ∧ Mem (gB F [cellCh b1 [v2, (.int .i64 r_0_p)] 122] w0) (feet [cellCh b1 [v2, (.int .i64 r_0_p)] 122]) w0 [cellCh b1 [v2, (.int .i64 t10)] 122, snapCh w0 F, ownCh elGTest 173 v11 xs12] w) (fun a w hE hm => ⟨v6, hE.sub ⟨rfl, rfl, rfl, rfl, trivial⟩, (hm.pick [0, 3, 1] rfl)⟩) ?_
  rintro nx16 ⟨t10, xs12, t15⟩ a w ⟨v11, hE, hm⟩ h
  refine nx_of hE hm h ?_
  clear hE hm h
  refine c_seq ?_
  refine c_seq ?_
  refine c_region ?_
  refine o_mv st rfl rfl ?_
  refine o_gtr st rfl rfl rfl ?_
  refine c_nil ?_
  refine l_then ?_
  refine c_cond rfl ?_ ?_
  · refine c_skip ?_
    refine l_then ?_
    refine c_seq ?_
    refine c_block ?_
    refine c_region ?_
    refine o_mv st rfl rfl ?_
    refine o_mv st rfl rfl ?_
    refine stw (o_call (vs := [(.pointer (some ⟨b1, 0, none⟩)), (.int .i64 0)]) (M0 := [cellCh b1 [v2, (.int .i64 t10)] 122]) Tryd.call123 rfl rfl (by intro w m h; exact (w_spec_l20Test (F := allB [cellCh b1 [v2, (.int .i64 t10)] 122] w) (r_0_b := r_0_b) (r_0_p := t10) (n_1 := 0) allB_ok m.given (m.rdM 0 rfl (reads_snap hv2)) h).mono (fun _ _ k => ret_free (fun r u => (fr_cons free_cell fr_nil)) k)) ?_); rintro ⟨r17, r18⟩ _
    refine stw (o_bsl (enc := encGTest) (qs := [(0, (.agg #[(.int .i64 r17.xField), (.int .i64 r17.xLo), (.int .i64 r17.xHi), (.bool r17.xNot)]))]) (cells := [(.int .i64 r17.xField), (.int .i64 r17.xLo), (.int .i64 r17.xHi), (.bool r17.xNot)]) ([r17]) flelGTest (by intro ρ h; simp only [List.map_toArray, List.map_cons, List.map_nil, h (.tmp 16) _ rfl]) rfl el102 zero173 rfl rfl rfl rfl rfl rfl ?_); intro v19
    refine stw (o_app 3 0 rfl rfl (src_flat flelGTest reads_own) rfl rfl rfl el102 rfl zero173 rfl rfl ?_); intro v21
    refine o_as st rfl rfl ?_
    refine c_nil ?_
    refine b_norm ?_
    refine l_then ?_
    refine c_region ?_
    refine o_mv st rfl rfl ?_
    refine o_sub st rfl rfl rfl ?_; intro t23
    refine o_as st rfl rfl ?_
    refine c_nil ?_
    exact l_join (r18, (xs12 ++ ([r17])), t23) (fun a w hE hm => ⟨v21, hE.sub ⟨rfl, rfl, rfl, rfl, trivial⟩, (hm.pick [1, 2, 3] rfl)⟩)
  · refine c_exit ?_
    refine l_exit ?_
    refine l_exit ?_
    refine b_exit ?_
    refine l_then ?_
    refine c_join (σ := (Int × (List GTest))) (fun ((t97, xs99) : (Int × (List GTest))) (a : Act) (w : World) => ∃ (v98 : Value), Has 32 [(5, v98)] a ∧ Mem (gB F [cellCh b1 [v2, (.int .i64 r_0_p)] 122] w0) (feet [cellCh b1 [v2, (.int .i64 r_0_p)] 122]) w0 [cellCh b1 [v2, (.int .i64 t97)] 122, snapCh w0 F, ownCh elGTest 173 v98 xs99] w) ?_ ?_
    · intro k102
      refine c_seq ?_
      refine c_region ?_
      refine o_mv st rfl rfl ?_
      refine o_mv st rfl rfl ?_
      refine stw (o_call (vs := [(.pointer (some ⟨b1, 0, none⟩)), (.int .i64 n_1)]) (M0 := [cellCh b1 [v2, (.int .i64 t10)] 122]) Tryd.call85 rfl rfl (by intro w m h; exact (w_spec_l20Rd_odd (F := allB [cellCh b1 [v2, (.int .i64 t10)] 122] w) (r_0_b := r_0_b) (r_0_p := t10) (n_1 := n_1) allB_ok m.given (m.rdM 0 rfl (reads_snap hv2)) h).mono (fun _ _ k => ret_free (fun r u => (fr_cons free_cell fr_nil)) k)) ?_); rintro ⟨r24, r25⟩ _
      refine c_nil ?_
      refine l_then ?_
      refine c_cond rfl ?_ ?_
      · refine c_seq ?_
        refine c_region ?_
        refine o_mv st rfl rfl ?_
        refine stw (o_call (vs := [(.pointer (some ⟨b1, 0, none⟩)), (.int .i64 2)]) (M0 := [cellCh b1 [v2, (.int .i64 r25)] 122]) Tryd.call68 rfl rfl (by intro w m h; exact (w_spec_l20Rd_pick (F := allB [cellCh b1 [v2, (.int .i64 r25)] 122] w) (r_0_b := r_0_b) (r_0_p := r25) (n_1 := 2) allB_ok m.given (m.rdM 0 rfl (reads_snap hv2)) h).mono (fun _ _ k => ret_free (fun r u => (fr_cons free_cell fr_nil)) k)) ?_); rintro ⟨r26, r27⟩ _
        refine o_eql st und3 rfl rfl rfl ?_
        refine c_nil ?_
        refine l_then ?_
        refine c_cond rfl ?_ ?_
        · refine c_region ?_
          refine o_mv st rfl rfl ?_
          refine o_mv st rfl rfl ?_
          refine stw (o_call (vs := [(.pointer (some ⟨b1, 0, none⟩)), (.int .i64 1)]) (M0 := [cellCh b1 [v2, (.int .i64 r27)] 122]) Tryd.call123 rfl rfl (by intro w m h; exact (w_spec_l20Test (F := allB [cellCh b1 [v2, (.int .i64 r27)] 122] w) (r_0_b := r_0_b) (r_0_p := r27) (n_1 := 1) allB_ok m.given (m.rdM 0 rfl (reads_snap hv2)) h).mono (fun _ _ k => ret_free (fun r u => (fr_cons free_cell fr_nil)) k)) ?_); rintro ⟨r28, r29⟩ _
          refine stw (o_bsl (enc := encGTest) (qs := [(0, (.agg #[(.int .i64 r28.xField), (.int .i64 r28.xLo), (.int .i64 r28.xHi), (.bool r28.xNot)]))]) (cells := [(.int .i64 r28.xField), (.int .i64 r28.xLo), (.int .i64 r28.xHi), (.bool r28.xNot)]) ([r28]) flelGTest (by intro ρ h; simp only [List.map_toArray, List.map_cons, List.map_nil, h (.tmp 27) _ rfl]) rfl el102 zero173 rfl rfl rfl rfl rfl rfl ?_); intro v30
          refine stw (o_app 3 0 rfl rfl (src_flat flelGTest reads_own) rfl rfl rfl el102 rfl zero173 rfl rfl ?_); intro v32
          refine o_as st rfl rfl ?_
          refine c_nil ?_
          exact l_join (r29, (xs12 ++ ([r28]))) (fun a w hE hm => ⟨v32, hE.sub ⟨rfl, trivial⟩, (hm.pick [1, 2, 3] rfl)⟩)
        · refine c_region ?_
          refine stw (o_make (z := (GTest.mk 0 0 0 false)) flelGTest rfl rfl rfl el102 rfl zero173 rfl rfl ?_); intro v34 xs35
          refine o_as st rfl rfl ?_
          refine c_nil ?_
          exact l_join (r27, xs35) (fun a w hE hm => ⟨v34, hE.sub ⟨rfl, trivial⟩, (hm.pick [1, 2, 0] rfl)⟩)
      · refine c_skip ?_
        exact l_join (r25, xs12) (fun a w hE hm => ⟨v11, hE.sub ⟨rfl, trivial⟩, (hm.pick [0, 1, 2] rfl)⟩)
    · rintro ⟨t97, xs99⟩ a w ⟨v98, hE, hm⟩ h
      refine nx_of hE hm h ?_
      clear hE hm h
      refine c_seq ?_
      refine c_region ?_
      refine o_mv st rfl rfl ?_
      refine o_as st rfl rfl ?_
      refine c_nil ?_
      refine l_then ?_
      refine c_ret ?_
      exact l_end1 Tryd.results116 (xs99, t97) v98 (rv_t rfl) (fun w m => NewCh.ofB m [2, 0] rfl)



end
section
open Go.RowKit
set_option maxRecDepth 100000 in
set_option maxHeartbeats 8000000 in
theorem w_spec_l20Rule {w0 : World} {F : Nat → Prop} {b1 : Nat} {v2 : Value} {r_0_b : (List UInt8)} {r_0_p : Int} {first_1 : Int} {chains_2 : Int} {n_3 : Int} {κ : (GRule × Int) → Prop} (hF : ∀ b, F b → b < w0.heap.size ∧ ¬ feet [cellCh b1 [v2, (.int .i64 r_0_p)] 122] b) (hg : Given [cellCh b1 [v2, (.int .i64 r_0_p)] 122] F w0) (hv2 : Sl elU8 F w0 v2 r_0_b) (h : L_spec_l20Rule r_0_b r_0_p first_1 chains_2 n_3 κ) :
    Calls Tryd.prog 102 #[(.pointer (some ⟨b1, 0, none⟩)), (.int .i64 first_1), (.int .i64 chains_2), (.int .i64 n_3)] w0 (Ret [cellCh b1 [v2, (.int .i64 r_0_p)] 122] F w0 κ (fun (r : (GRule × Int)) (u : Value) => (.agg #[u, (.int .i64 r.1.xAction), (.int .i64 r.1.xChain)])) (fun (r : (GRule × Int)) (u : Value) => [ownCh elGTest 173 u r.1.xTests, cellCh b1 [v2, (.int .i64 r.2)] 122])) := by
  refine enterS (args := [(.pointer (some ⟨b1, 0, none⟩)), (.int .i64 first_1), (.int .i64 chains_2), (.int .i64 n_3)]) [cellCh b1 [v2, (.int .i64 r_0_p)] 122] hF hg Tryd.func102 rfl Tryd.ntmps102 rfl h ?_
  clear h hF hg
  refine c_seq ?_
  refine c_region ?_
  refine stw (o_alloc rfl [(.slice none 0 0), (.int .i64 0), (.int .i64 0)] zero104 ?_); intro b5
  refine c_nil ?_
  refine l_then ?_
  refine c_seq ?_
  refine c_region ?_
  refine o_mv st rfl rfl ?_
  refine pk [1, 0, 2] rfl ?_
  refine stw (o_call (vs := [(.pointer (some ⟨b1, 0, none⟩)), (.int .i64 0)]) (M0 := [cellCh b1 [v2, (.int .i64 r_0_p)] 122]) Tryd.call116 rfl rfl (by intro w m h; exact (w_spec_l20Tests (F := allB [cellCh b1 [v2, (.int .i64 r_0_p)] 122] w) (r_0_b := r_0_b) (r_0_p := r_0_p) (n_1 := 0) allB_ok m.given (m.rdM 1 rfl (reads_snap hv2)) h).mono (fun _ _ k => ret_free (fun r u => (fr_cons (free_own flelGTest) (fr_cons free_cell fr_nil))) k)) ?_); rintro ⟨r7, r10⟩ v8
  refine stw (o_bsl (enc := encInt) (qs := [(0, (.int .i64 1)), (1, (.int .i64 1)), (2, (.int .i64 2)), (3, (.int .i64 2)), (4, (.int .i64 3)), (5, (.int .i64 3)), (6, (.int .i64 4)), (7, (.int .i64 5))]) (cells := [(.int .i64 1), (.int .i64 1), (.int .i64 2), (.int .i64 2), (.int .i64 3), (.int .i64 3), (.int .i64 4), (.int .i64 5)]) ([1, 1, 2, 2, 3, 3, 4, 5]) flelInt (by intro ρ h; simp only [List.map_toArray, List.map_cons, List.map_nil, h (.const (.int .i64 1)) _ rfl, h (.const (.int .i64 1)) _ rfl, h (.const (.int .i64 2)) _ rfl, h (.const (.int .i64 2)) _ rfl, h (.const (.int .i64 3)) _ rfl, h (.const (.int .i64 3)) _ rfl, h (.const (.int .i64 4)) _ rfl, h (.const (.int .i64 5)) _ rfl]) rfl el99 zero3 rfl rfl rfl rfl rfl rfl ?_); intro v11
  refine o_mv st rfl rfl ?_
  refine pk [2, 0, 1, 3, 4] rfl ?_
  refine stw (o_call (vs := [(.pointer (some ⟨b1, 0, none⟩)), (.int .i64 8)]) (M0 := [cellCh b1 [v2, (.int .i64 r10)] 122]) Tryd.call68 rfl rfl (by intro w m h; exact (w_spec_l20Rd_pick (F := allB [cellCh b1 [v2, (.int .i64 r10)] 122] w) (r_0_b := r_0_b) (r_0_p := r10) (n_1 := 8) allB_ok m.given (m.rdM 3 rfl (reads_snap hv2)) h).mono (fun _ _ k => ret_free (fun r u => (fr_cons free_cell fr_nil)) k)) ?_); rintro ⟨r13, r14⟩ _
  refine o_idx st 1 rfl reads_own rfl rfl rfl el99 ?_; intro e15 h16
  refine o_lds st (enc := encInt) (u := (.int .i64 e15)) 1 rfl reads_own flelInt rfl h16 rfl rfl ty3 rfl ?_
  refine nx_own 2 rfl ?_; rintro a17 l18 q19 rfl
  refine o_bld st (qs := [(0, (.slice a17 l18 q19)), (1, (.int .i64 e15))]) (cells := [(.slice a17 l18 q19), (.int .i64 e15), (.int .i64 0)]) (by intro ρ h; simp only [List.map_toArray, List.map_cons, List.map_nil, h (.tmp 11) _ rfl, h (.tmp 16) _ rfl]) rfl bld104 rfl ?_
  refine stw (o_alloc rfl [(.slice none 0 0), (.int .i64 0), (.int .i64 0)] zero104 ?_); intro b20
  refine stw (o_stc (cs' := [(.slice a17 l18 q19), (.int .i64 e15), (.int .i64 0)]) 0 rfl rfl rfl ty104 rfl rfl rfl rfl ?_)
  refine c_nil ?_
  refine l_then ?_
  refine c_join (σ := (Int × Int × Int)) (fun ((t86, t87, t88) : (Int × Int × Int)) (a : Act) (w : World) => Has 58 [(0, (.pointer (some ⟨b1, 0, none⟩))), (3, (.int .i64 n_3)), (8, (.pointer (some ⟨b5, 0, none⟩))), (9, (.pointer (some ⟨b20, 0, none⟩)))] a ∧ Mem (gB F [cellCh b1 [v2, (.int .i64 r_0_p)] 122] w0) (feet [cellCh b1 [v2, (.int .i64 r_0_p)] 122]) w0 [cellCh b20 [(.slice a17 l18 q19), (.int .i64 t86), (.int .i64 t87)] 104, cellCh b1 [v2, (.int .i64 t88)] 122, ownCh elGTest 173 (.slice a17 l18 q19) r7, cellCh b5 [(.slice none 0 0), (.int .i64 0), (.int .i64 0)] 104, snapCh w0 F] w) ?_ ?_
  · intro k89
    refine c_seq ?_
    refine c_region ?_
    refine o_fad st rfl rfl fld104_1 rfl ?_
    refine o_ldc st (v := (.int .i64 e15)) 0 rfl rfl rfl ty3 rfl ?_
    refine o_eql st und3 rfl rfl rfl ?_
    refine c_nil ?_
    refine l_then ?_
    refine c_cond rfl ?_ ?_
    · refine c_seq ?_
      refine c_region ?_
      refine o_mv st rfl rfl ?_
      refine o_mv st rfl rfl ?_
      refine o_geq st rfl rfl rfl ?_
      refine c_nil ?_
      refine l_then ?_
      refine c_cond rfl ?_ ?_
      · refine c_region ?_
        refine o_fad st rfl rfl fld104_1 rfl ?_
        refine stw (o_stc (cs' := [(.slice a17 l18 q19), (.int .i64 2), (.int .i64 0)]) 0 rfl rfl rfl ty3 rfl rfl rfl rfl ?_)
        refine c_nil ?_
        exact l_join (2, 0, r14) (fun a w hE hm => ⟨hE.sub ⟨rfl, rfl, rfl, rfl, trivial⟩, (hm.pick [0, 1, 3, 4, 5] rfl)⟩)
      · refine c_region ?_
        refine o_mv st rfl rfl ?_
        refine o_mv st rfl rfl ?_
        refine o_mv st rfl rfl ?_
        refine o_mv st rfl rfl ?_
        refine o_sub st rfl rfl rfl ?_; intro t22
        refine pk [1, 0, 2, 3, 4, 5] rfl ?_
        refine stw (o_call (vs := [(.pointer (some ⟨b1, 0, none⟩)), (.int .i64 t22)]) (M0 := [cellCh b1 [v2, (.int .i64 r14)] 122]) Tryd.call68 rfl rfl (by intro w m h; exact (w_spec_l20Rd_pick (F := allB [cellCh b1 [v2, (.int .i64 r14)] 122] w) (r_0_b := r_0_b) (r_0_p := r14) (n_1 := t22) allB_ok m.given (m.rdM 4 rfl (reads_snap hv2)) h).mono (fun _ _ k => ret_free (fun r u => (fr_cons free_cell fr_nil)) k)) ?_); rintro ⟨r23, r24⟩ _
        refine o_add st rfl rfl rfl ?_; intro t25
        refine o_fad st rfl rfl fld104_2 rfl ?_
        refine stw (o_stc (cs' := [(.slice a17 l18 q19), (.int .i64 e15), (.int .i64 t25)]) 1 rfl rfl rfl ty3 rfl rfl rfl rfl ?_)
        refine c_nil ?_
        exact l_join (e15, t25, r24) (fun a w hE hm => ⟨hE.sub ⟨rfl, rfl, rfl, rfl, trivial⟩, (hm.pick [1, 0, 3, 4, 5] rfl)⟩)
    · refine c_skip ?_
      exact l_join (e15, 0, r14) (fun a w hE hm => ⟨hE.sub ⟨rfl, rfl, rfl, rfl, trivial⟩, (hm.pick [0, 1, 3, 4, 5] rfl)⟩)
  · rintro ⟨t86, t87, t88⟩ a w ⟨hE, hm⟩ h
    refine nx_of hE hm h ?_
    clear hE hm h
    refine c_join (σ := (Int × (List GTest) × Int × Int)) (fun ((t173, xs175, t178, t179) : (Int × (List GTest) × Int × Int)) (a : Act) (w : World) => ∃ (v174 : Value), Has 58 [(8, (.pointer (some ⟨b5, 0, none⟩))), (9, (.pointer (some ⟨b20, 0, none⟩)))] a ∧ Mem (gB F [cellCh b1 [v2, (.int .i64 r_0_p)] 122] w0) (feet [cellCh b1 [v2, (.int .i64 r_0_p)] 122]) w0 [cellCh b1 [v2, (.int .i64 t173)] 122, cellCh b20 [v174, (.int .i64 t178), (.int .i64 t179)] 104, cellCh b5 [(.slice none 0 0), (.int .i64 0), (.int .i64 0)] 104, snapCh w0 F, ownCh elGTest 173 v174 xs175] w) ?_ ?_
    · intro k180
      refine c_seq ?_
      refine c_region ?_
      refine o_mv st rfl rfl ?_
      refine o_mv st rfl rfl ?_
      refine pk [1, 0, 2, 3, 4] rfl ?_
      refine stw (o_call (vs := [(.pointer (some ⟨b1, 0, none⟩)), (.int .i64 n_3)]) (M0 := [cellCh b1 [v2, (.int .i64 t88)] 122]) Tryd.call85 rfl rfl (by intro w m h; exact (w_spec_l20Rd_odd (F := allB [cellCh b1 [v2, (.int .i64 t88)] 122] w) (r_0_b := r_0_b) (r_0_p := t88) (n_1 := n_3) allB_ok m.given (m.rdM 3 rfl (reads_snap hv2)) h).mono (fun _ _ k => ret_free (fun r u => (fr_cons free_cell fr_nil)) k)) ?_); rintro ⟨r90, r91⟩ _
      refine c_nil ?_
      refine l_then ?_
      refine c_cond rfl ?_ ?_
      · refine c_seq ?_
        refine c_region ?_
        refine o_mv st rfl rfl ?_
        refine stw (o_call (vs := [(.pointer (some ⟨b1, 0, none⟩)), (.int .i64 3)]) (M0 := [cellCh b1 [v2, (.int .i64 r91)] 122]) Tryd.call68 rfl rfl (by intro w m h; exact (w_spec_l20Rd_pick (F := allB [cellCh b1 [v2, (.int .i64 r91)] 122] w) (r_0_b := r_0_b) (r_0_p := r91) (n_1 := 3) allB_ok m.given (m.rdM 3 rfl (reads_snap hv2)) h).mono (fun _ _ k => ret_free (fun r u => (fr_cons free_cell fr_nil)) k)) ?_); rintro ⟨r92, r93⟩ _
        refine c_nil ?_
        refine l_then ?_
        refine c_block ?_
        refine c_seq ?_
        refine c_region ?_
        refine o_eql st und3 rfl rfl rfl ?_
        refine o_as st rfl rfl ?_
        refine c_nil ?_
        refine l_then ?_
        refine c_cond rfl ?_ ?_
        · refine c_region ?_
          refine stw (o_bsl (enc := encInt) (qs := [(0, (.int .i64 0)), (1, (.int .i64 6))]) (cells := [(.int .i64 0), (.int .i64 6)]) ([0, 6]) flelInt (by intro ρ h; simp only [List.map_toArray, List.map_cons, List.map_nil, h (.const (.int .i64 0)) _ rfl, h (.const (.int .i64 6)) _ rfl]) rfl el99 zero3 rfl rfl rfl rfl rfl rfl ?_); intro v94
          refine o_mv st rfl rfl ?_
          refine pk [1, 0, 2, 3, 4, 5] rfl ?_
          refine stw (o_call (vs := [(.pointer (some ⟨b1, 0, none⟩)), (.int .i64 2)]) (M0 := [cellCh b1 [v2, (.int .i64 r93)] 122]) Tryd.call68 rfl rfl (by intro w m h; exact (w_spec_l20Rd_pick (F := allB [cellCh b1 [v2, (.int .i64 r93)] 122] w) (r_0_b := r_0_b) (r_0_p := r93) (n_1 := 2) allB_ok m.given (m.rdM 4 rfl (reads_snap hv2)) h).mono (fun _ _ k => ret_free (fun r u => (fr_cons free_cell fr_nil)) k)) ?_); rintro ⟨r96, r97⟩ _
          refine o_idx st 1 rfl reads_own rfl rfl rfl el99 ?_; intro e98 h99
          refine o_lds st (enc := encInt) (u := (.int .i64 e98)) 1 rfl reads_own flelInt rfl h99 rfl rfl ty3 rfl ?_
          refine o_fad st rfl rfl fld104_1 rfl ?_
          refine stw (o_stc (cs' := [(.slice a17 l18 q19), (.int .i64 e98), (.int .i64 t87)]) 2 rfl rfl rfl ty3 rfl rfl rfl rfl ?_)
          refine c_nil ?_
          refine b_norm ?_
          exact l_join (r97, r7, e98, t87) (fun a w hE hm => ⟨(.slice a17 l18 q19), hE.sub ⟨rfl, rfl, trivial⟩, (hm.pick [0, 2, 4, 5, 3] rfl)⟩)
        · refine c_seq ?_
          refine c_region ?_
          refine o_eql st und3 rfl rfl rfl ?_
          refine o_as st rfl rfl ?_
          refine c_nil ?_
          refine l_then ?_
          refine c_cond rfl ?_ ?_
          · refine c_region ?_
            refine stw (o_bsl (enc := encInt) (qs := [(0, (.int .i64 (-1))), (1, (.int .i64 5)), (2, (.int .i64 1))]) (cells := [(.int .i64 (-1)), (.int .i64 5), (.int .i64 1)]) ([(-1), 5, 1]) flelInt (by intro ρ h; simp only [List.map_toArray, List.map_cons, List.map_nil, h (.const (.int .i64 (-1))) _ rfl, h (.const (.int .i64 5)) _ rfl, h (.const (.int .i64 1)) _ rfl]) rfl el99 zero3 rfl rfl rfl rfl rfl rfl ?_); intro v100
            refine o_mv st rfl rfl ?_
            refine pk [1, 0, 2, 3, 4, 5] rfl ?_
            refine stw (o_call (vs := [(.pointer (some ⟨b1, 0, none⟩)), (.int .i64 3)]) (M0 := [cellCh b1 [v2, (.int .i64 r93)] 122]) Tryd.call68 rfl rfl (by intro w m h; exact (w_spec_l20Rd_pick (F := allB [cellCh b1 [v2, (.int .i64 r93)] 122] w) (r_0_b := r_0_b) (r_0_p := r93) (n_1 := 3) allB_ok m.given (m.rdM 4 rfl (reads_snap hv2)) h).mono (fun _ _ k => ret_free (fun r u => (fr_cons free_cell fr_nil)) k)) ?_); rintro ⟨r102, r103⟩ _
            refine o_idx st 1 rfl reads_own rfl rfl rfl el99 ?_; intro e104 h105
            refine o_lds st (enc := encInt) (u := (.int .i64 e104)) 1 rfl reads_own flelInt rfl h105 rfl rfl ty3 rfl ?_
            refine o_fad st rfl rfl fld104_2 rfl ?_
            refine stw (o_stc (cs' := [(.slice a17 l18 q19), (.int .i64 t86), (.int .i64 e104)]) 2 rfl rfl rfl ty3 rfl rfl rfl rfl ?_)
            refine c_nil ?_
            refine b_norm ?_
            exact l_join (r103, r7, t86, e104) (fun a w hE hm => ⟨(.slice a17 l18 q19), hE.sub ⟨rfl, rfl, trivial⟩, (hm.pick [0, 2, 4, 5, 3] rfl)⟩)
          · refine c_region ?_
            refine o_mv st rfl rfl ?_
            refine stw (o_call (vs := [(.pointer (some ⟨b1, 0, none⟩)), (.int .i64 1)]) (M0 := [cellCh b1 [v2, (.int .i64 r93)] 122]) Tryd.call116 rfl rfl (by intro w m h; exact (w_spec_l20Tests (F := allB [cellCh b1 [v2, (.int .i64 r93)] 122] w) (r_0_b := r_0_b) (r_0_p := r93) (n_1 := 1) allB_ok m.given (m.rdM 3 rfl (reads_snap hv2)) h).mono (fun _ _ k => ret_free (fun r u => (fr_cons (free_own flelGTest) (fr_cons free_cell fr_nil))) k)) ?_); rintro ⟨r106, r109⟩ v107
            refine o_fad st rfl rfl fld104_0 rfl ?_
            refine nx_own 0 rfl ?_; rintro a110 l111 q112 rfl
            refine stw (o_stc (cs' := [(.slice a110 l111 q112), (.int .i64 t86), (.int .i64 t87)]) 2 rfl rfl rfl ty102 rfl rfl rfl rfl ?_)
            refine c_nil ?_
            refine b_norm ?_
            exact l_join (r109, r106, t86, t87) (fun a w hE hm => ⟨(.slice a110 l111 q112), hE.sub ⟨rfl, rfl, trivial⟩, (hm.pick [1, 2, 4, 5, 0] rfl)⟩)
      · refine c_skip ?_
        exact l_join (r91, r7, t86, t87) (fun a w hE hm => ⟨(.slice a17 l18 q19), hE.sub ⟨rfl, rfl, trivial⟩, (hm.pick [0, 1, 3, 4, 2] rfl)⟩)
    · rintro ⟨t173, xs175, t178, t179⟩ a w ⟨v174, hE, hm⟩ h
      refine nx_of hE hm h ?_
      clear hE hm h
      refine c_seq ?_
      refine c_region ?_
      refine o_ldc st (v := (.agg #[v174, (.int .i64 t178), (.int .i64 t179)])) 1 rfl rfl rfl ty104 rfl ?_
      refine nx_own 4 rfl ?_; rintro a181 l182 q183 rfl
      refine stw (o_stc (cs' := [(.slice a181 l182 q183), (.int .i64 t178), (.int .i64 t179)]) 2 rfl rfl rfl ty104 rfl rfl rfl rfl ?_)
      refine c_nil ?_
      refine l_then ?_
      refine c_ret ?_
      exact l_end1 Tryd.results102 ((GRule.mk xs175 t178 t179), t173) (.slice a181 l182 q183) (rv_c 2 rfl rfl ty104 rfl) (fun w m => NewCh.ofB m [4, 0] rfl)

set_option maxRecDepth 100000 in
set_option maxHeartbeats 8000000 in
theorem w_spec_l20Rules {w0 : World} {F : Nat → Prop} {b1 : Nat} {v2 : Value} {r_0_b : (List UInt8)} {r_0_p : Int} {first_1 : Int} {chains_2 : Int} {n_3 : Int} {κ : ((List GRule) × Int) → Prop} (hF : ∀ b, F b → b < w0.heap.size ∧ ¬ feet [cellCh b1 [v2, (.int .i64 r_0_p)] 122] b) (hg : Given [cellCh b1 [v2, (.int .i64 r_0_p)] 122] F w0) (hv2 : Sl elU8 F w0 v2 r_0_b) (h : L_spec_l20Rules r_0_b r_0_p first_1 chains_2 n_3 κ) :
    Calls Tryd.prog 84 #[(.pointer (some ⟨b1, 0, none⟩)), (.int .i64 first_1), (.int .i64 chains_2), (.int .i64 n_3)] w0 (Ret [cellCh b1 [v2, (.int .i64 r_0_p)] 122] F w0 κ (fun (r : ((List GRule) × Int)) (u : Value × List Nat) => u.1) (fun (r : ((List GRule) × Int)) (u : Value × List Nat) => [dpCh dGRule 104 u.2 u.1 r.1, cellCh b1 [v2, (.int .i64 r.2)] 122])) := by
  refine enterS (args := [(.pointer (some ⟨b1, 0, none⟩)), (.int .i64 first_1), (.int .i64 chains_2), (.int .i64 n_3)]) [cellCh b1 [v2, (.int .i64 r_0_p)] 122] hF hg Tryd.func84 rfl Tryd.ntmps84 rfl h ?_
  clear h hF hg
  refine c_seq ?_
  refine c_region ?_
  refine stw (o_asd dGRule 104 rfl rfl ?_)
  refine c_nil ?_
  refine l_then ?_
  refine c_seq ?_
  refine c_region ?_
  refine stw (o_bslD0 (E' := dGRule) (qs := []) (by intro ρ h; simp only [List.map_toArray, List.map_cons, List.map_nil]) rfl el101 zero104 rfl rfl rfl ?_); intro bb7 v6
  refine o_as st rfl rfl ?_
  refine c_nil ?_
  refine l_then ?_
  refine c_seq ?_
  refine c_seq ?_
  refine c_region ?_
  refine o_mv st rfl rfl ?_
  refine pk [2, 0, 1, 3] rfl ?_
  refine stw (o_call (vs := [(.pointer (some ⟨b1, 0, none⟩)), (.int .i64 5)]) (M0 := [cellCh b1 [v2, (.int .i64 r_0_p)] 122]) Tryd.call68 rfl rfl (by intro w m h; exact (w_spec_l20Rd_pick (F := allB [cellCh b1 [v2, (.int .i64 r_0_p)] 122] w) (r_0_b := r_0_b) (r_0_p := r_0_p) (n_1 := 5) allB_ok m.given (m.rdM 2 rfl (reads_snap hv2)) h).mono (fun _ _ k => ret_free (fun r u => (fr_cons free_cell fr_nil)) k)) ?_); rintro ⟨r9, r10⟩ _
  refine o_as st rfl rfl ?_
  refine c_nil ?_
  refine l_then ?_
  refine c_block ?_
  refine c_loop (σ := (Int × (List GRule) × Int)) (fun ((t11, xs13, t17) : (Int × (List GRule) × Int)) (a : Act) (w : World) => ∃ (v12 : Value) (bb15 : List Nat), Has 46 [(0, (.pointer (some ⟨b1, 0, none⟩))), (1, (.int .i64 first_1)), (2, (.int .i64 chains_2)), (3, (.int .i64 n_3)), (9, v12), (10, (.int .i64 t17))] a ∧ Mem (gB F [cellCh b1 [v2, (.int .i64 r_0_p)] 122] w0) (feet [cellCh b1 [v2, (.int .i64 r_0_p)] 122]) w0 [cellCh b1 [v2, (.int .i64 t11)] 122, snapCh w0 F, dpCh dGRule 104 bb15 v12 xs13] w) (fun a w hE hm => ⟨v6, bb7, hE.sub ⟨rfl, rfl, rfl, rfl, rfl, rfl, trivial⟩, (hm.pick [0, 3, 1] rfl)⟩) ?_
  rintro nx18 ⟨t11, xs13, t17⟩ a w ⟨v12, bb15, hE, hm⟩ h
  refine nx_of hE hm h ?_
  clear hE hm h
  refine c_seq ?_
  refine c_seq ?_
  refine c_region ?_
  refine o_mv st rfl rfl ?_
  refine o_gtr st rfl rfl rfl ?_
  refine c_nil ?_
  refine l_then ?_
  refine c_cond rfl ?_ ?_
  · refine c_skip ?_
    refine l_then ?_
    refine c_seq ?_
    refine c_block ?_
    refine c_region ?_
    refine o_mv st rfl rfl ?_
    refine o_mv st rfl rfl ?_
    refine o_mv st rfl rfl ?_
    refine o_mv st rfl rfl ?_
    refine stw (o_call (vs := [(.pointer (some ⟨b1, 0, none⟩)), (.int .i64 first_1), (.int .i64 chains_2), (.int .i64 0)]) (M0 := [cellCh b1 [v2, (.int .i64 t11)] 122]) Tryd.call102 rfl rfl (by intro w m h; exact (w_spec_l20Rule (F := allB [cellCh b1 [v2, (.int .i64 t11)] 122] w) (r_0_b := r_0_b) (r_0_p := t11) (first_1 := first_1) (chains_2 := chains_2) (n_3 := 0) allB_ok m.given (m.rdM 0 rfl (reads_snap hv2)) h).mono (fun _ _ k => ret_free (fun r u => (fr_cons (free_own flelGTest) (fr_cons free_cell fr_nil))) k)) ?_); rintro ⟨r19, r22⟩ v20
    refine nx_own 0 rfl ?_; rintro a23 l24 q25 rfl
    refine stw (o_bslD (M := [ownCh elGTest 173 (.slice a23 l24 q25) r19.xTests]) (E' := dGRule) (qs := [(0, (.agg #[(.slice a23 l24 q25), (.int .i64 r19.xAction), (.int .i64 r19.xChain)]))]) (cs := [(.slice a23 l24 q25), (.int .i64 r19.xAction), (.int .i64 r19.xChain)]) r19 (absorb_one (gives_own flelGTest) (fun B w h => ⟨_, rfl, h⟩)) (by intro ρ h; simp only [List.map_toArray, List.map_cons, List.map_nil, h (.tmp 22) _ rfl]) rfl el101 zero104 rfl rfl rfl rfl ?_); intro bb27 v26
    refine pk [3, 0, 1, 2] rfl ?_
    refine stw (o_appD rfl rfl rfl el101 rfl zero104 rfl rfl ?_); intro bb30 v29
    refine o_as st rfl rfl ?_
    refine c_nil ?_
    refine b_norm ?_
    refine l_then ?_
    refine c_region ?_
    refine o_mv st rfl rfl ?_
    refine o_sub st rfl rfl rfl ?_; intro t32
    refine o_as st rfl rfl ?_
    refine c_nil ?_
    exact l_join (r22, (xs13 ++ ([r19])), t32) (fun a w hE hm => ⟨v29, bb30, hE.sub ⟨rfl, rfl, rfl, rfl, rfl, rfl, trivial⟩, (hm.pick [1, 2, 0] rfl)⟩)
  · refine c_exit ?_
    refine l_exit ?_
    refine l_exit ?_
    refine b_exit ?_
    refine l_then ?_
    refine c_join (σ := (Int × (List GRule))) (fun ((t122, xs124) : (Int × (List GRule))) (a : Act) (w : World) => ∃ (v123 : Value) (bb126 : List Nat), Has 46 [(9, v123)] a ∧ Mem (gB F [cellCh b1 [v2, (.int .i64 r_0_p)] 122] w0) (feet [cellCh b1 [v2, (.int .i64 r_0_p)] 122]) w0 [cellCh b1 [v2, (.int .i64 t122)] 122, snapCh w0 F, dpCh dGRule 104 bb126 v123 xs124] w) ?_ ?_
    · intro k128
      refine c_seq ?_
      refine c_region ?_
      refine o_mv st rfl rfl ?_
      refine o_mv st rfl rfl ?_
      refine stw (o_call (vs := [(.pointer (some ⟨b1, 0, none⟩)), (.int .i64 n_3)]) (M0 := [cellCh b1 [v2, (.int .i64 t11)] 122]) Tryd.call85 rfl rfl (by intro w m h; exact (w_spec_l20Rd_odd (F := allB [cellCh b1 [v2, (.int .i64 t11)] 122] w) (r_0_b := r_0_b) (r_0_p := t11) (n_1 := n_3) allB_ok m.given (m.rdM 0 rfl (reads_snap hv2)) h).mono (fun _ _ k => ret_free (fun r u => (fr_cons free_cell fr_nil)) k)) ?_); rintro ⟨r33, r34⟩ _
      refine c_nil ?_
      refine l_then ?_
      refine c_cond rfl ?_ ?_
      · refine c_seq ?_
        refine c_region ?_
        refine o_mv st rfl rfl ?_
        refine stw (o_call (vs := [(.pointer (some ⟨b1, 0, none⟩)), (.int .i64 2)]) (M0 := [cellCh b1 [v2, (.int .i64 r34)] 122]) Tryd.call68 rfl rfl (by intro w m h; exact (w_spec_l20Rd_pick (F := allB [cellCh b1 [v2, (.int .i64 r34)] 122] w) (r_0_b := r_0_b) (r_0_p := r34) (n_1 := 2) allB_ok m.given (m.rdM 0 rfl (reads_snap hv2)) h).mono (fun _ _ k => ret_free (fun r u => (fr_cons free_cell fr_nil)) k)) ?_); rintro ⟨r35, r36⟩ _
        refine o_eql st und3 rfl rfl rfl ?_
        refine c_nil ?_
        refine l_then ?_
        refine c_cond rfl ?_ ?_
        · refine c_region ?_
          refine o_mv st rfl rfl ?_
          refine o_mv st rfl rfl ?_
          refine o_mv st rfl rfl ?_
          refine o_mv st rfl rfl ?_
          refine stw (o_call (vs := [(.pointer (some ⟨b1, 0, none⟩)), (.int .i64 first_1), (.int .i64 chains_2), (.int .i64 1)]) (M0 := [cellCh b1 [v2, (.int .i64 r36)] 122]) Tryd.call102 rfl rfl (by intro w m h; exact (w_spec_l20Rule (F := allB [cellCh b1 [v2, (.int .i64 r36)] 122] w) (r_0_b := r_0_b) (r_0_p := r36) (first_1 := first_1) (chains_2 := chains_2) (n_3 := 1) allB_ok m.given (m.rdM 0 rfl (reads_snap hv2)) h).mono (fun _ _ k => ret_free (fun r u => (fr_cons (free_own flelGTest) (fr_cons free_cell fr_nil))) k)) ?_); rintro ⟨r37, r40⟩ v38
          refine nx_own 0 rfl ?_; rintro a41 l42 q43 rfl
          refine stw (o_bslD (M := [ownCh elGTest 173 (.slice a41 l42 q43) r37.xTests]) (E' := dGRule) (qs := [(0, (.agg #[(.slice a41 l42 q43), (.int .i64 r37.xAction), (.int .i64 r37.xChain)]))]) (cs := [(.slice a41 l42 q43), (.int .i64 r37.xAction), (.int .i64 r37.xChain)]) r37 (absorb_one (gives_own flelGTest) (fun B w h => ⟨_, rfl, h⟩)) (by intro ρ h; simp only [List.map_toArray, List.map_cons, List.map_nil, h (.tmp 35) _ rfl]) rfl el101 zero104 rfl rfl rfl rfl ?_); intro bb45 v44
          refine pk [3, 0, 1, 2] rfl ?_
          refine stw (o_appD rfl rfl rfl el101 rfl zero104 rfl rfl ?_); intro bb48 v47
          refine o_as st rfl rfl ?_
          refine c_nil ?_
          exact l_join (r40, (xs13 ++ ([r37]))) (fun a w hE hm => ⟨v47, bb48, hE.sub ⟨rfl, trivial⟩, (hm.pick [1, 2, 0] rfl)⟩)
        · refine c_block ?_
          refine c_loop (σ := (List GRule)) (fun (xs51 : (List GRule)) (a : Act) (w : World) => ∃ (v50 : Value) (bb53 : List Nat), Has 46 [(9, v50)] a ∧ Mem (gB F [cellCh b1 [v2, (.int .i64 r_0_p)] 122] w0) (feet [cellCh b1 [v2, (.int .i64 r_0_p)] 122]) w0 [cellCh b1 [v2, (.int .i64 r36)] 122, snapCh w0 F, dpCh dGRule 104 bb53 v50 xs51] w) (fun a w hE hm => ⟨v12, bb15, hE.sub ⟨rfl, trivial⟩, (hm.pick [0, 1, 2] rfl)⟩) ?_
          rintro nx55 xs51 a w ⟨v50, bb53, hE, hm⟩ h
          refine nx_of hE hm h ?_
          clear hE hm h
          refine c_seq ?_
          refine c_seq ?_
          refine c_region ?_
          refine o_mv st rfl rfl ?_
          refine o_len st el101 2 rfl reads_dp rfl rfl ?_
          refine o_leq st rfl rfl rfl ?_
          refine c_nil ?_
          refine l_then ?_
          refine c_cond rfl ?_ ?_
          · refine c_skip ?_
            refine l_then ?_
            refine c_block ?_
            refine c_region ?_
            refine o_mv st rfl rfl ?_
            refine o_bld st (qs := [(1, (.int .i64 5))]) (cells := [(.slice none 0 0), (.int .i64 5), (.int .i64 0)]) (by intro ρ h; simp only [List.map_toArray, List.map_cons, List.map_nil, h (.const (.int .i64 5)) _ rfl]) rfl bld104 rfl ?_
            refine stw (o_bslD (M := []) (E' := dGRule) (qs := [(0, (.agg #[(.slice none 0 0), (.int .i64 5), (.int .i64 0)]))]) (cs := [(.slice none 0 0), (.int .i64 5), (.int .i64 0)]) (GRule.mk ([]) 5 0) (absorb_nil (fun w => ⟨_, rfl, Dp.nil⟩)) (by intro ρ h; simp only [List.map_toArray, List.map_cons, List.map_nil, h (.tmp 42) _ rfl]) rfl el101 zero104 rfl rfl rfl rfl ?_); intro bb57 v56
            refine pk [3, 0, 1, 2] rfl ?_
            refine stw (o_appD rfl rfl rfl el101 rfl zero104 rfl rfl ?_); intro bb60 v59
            refine o_as st rfl rfl ?_
            refine c_nil ?_
            refine b_norm ?_
            exact l_join (xs51 ++ ([(GRule.mk ([]) 5 0)])) (fun a w hE hm => ⟨v59, bb60, hE.sub ⟨rfl, trivial⟩, (hm.pick [1, 2, 0] rfl)⟩)
          · refine c_exit ?_
            refine l_exit ?_
            refine l_exit ?_
            refine b_exit ?_
            exact l_join (r36, xs51) (fun a w hE hm => ⟨v50, bb53, hE.sub ⟨rfl, trivial⟩, (hm.pick [0, 1, 2] rfl)⟩)
      · refine c_skip ?_
        exact l_join (r34, xs13) (fun a w hE hm => ⟨v12, bb15, hE.sub ⟨rfl, trivial⟩, (hm.pick [0, 1, 2] rfl)⟩)
    · rintro ⟨t122, xs124⟩ a w ⟨v123, bb126, hE, hm⟩ h
      refine nx_of hE hm h ?_
      clear hE hm h
      refine c_seq ?_
      refine c_region ?_
      refine o_mv st rfl rfl ?_
      refine o_as st rfl rfl ?_
      refine c_nil ?_
      refine l_then ?_
      refine c_ret ?_
      exact l_end1 Tryd.results84 (xs124, t122) (v123, bb126) (rv_t rfl) (fun w m => NewCh.ofB m [2, 0] rfl)

set_option maxRecDepth 100000 in
set_option maxHeartbeats 8000000 in
theorem w_spec_l20Ruleset {w0 : World} {F : Nat → Prop} {b1 : Nat} {v2 : Value} {r_0_b : (List UInt8)} {r_0_p : Int} {n_1 : Int} {κ : (GRuleset × Int) → Prop} (hF : ∀ b, F b → b < w0.heap.size ∧ ¬ feet [cellCh b1 [v2, (.int .i64 r_0_p)] 122] b) (hg : Given [cellCh b1 [v2, (.int .i64 r_0_p)] 122] F w0) (hv2 : Sl elU8 F w0 v2 r_0_b) (h : L_spec_l20Ruleset r_0_b r_0_p n_1 κ) :
    Calls Tryd.prog 50 #[(.pointer (some ⟨b1, 0, none⟩)), (.int .i64 n_1)] w0 (Ret [cellCh b1 [v2, (.int .i64 r_0_p)] 122] F w0 κ (fun (r : (GRuleset × Int)) (u : Value × List Nat) => (.agg #[u.1, (.bool r.1.xAccept)])) (fun (r : (GRuleset × Int)) (u : Value × List Nat) => [dpCh (dSl dGRule 104) 101 u.2 u.1 r.1.xChains, cellCh b1 [v2, (.int .i64 r.2)] 122])) := by
  refine enterS (args := [(.pointer (some ⟨b1, 0, none⟩)), (.int .i64 n_1)]) [cellCh b1 [v2, (.int .i64 r_0_p)] 122] hF hg Tryd.func50 rfl Tryd.ntmps50 rfl h ?_
  clear h hF hg
  refine c_seq ?_
  refine c_region ?_
  refine stw (o_alloc rfl [(.slice none 0 0), (.bool false)] zero25 ?_); intro b5
  refine c_nil ?_
  refine l_then ?_
  refine c_seq ?_
  refine c_region ?_
  refine o_mv st rfl rfl ?_
  refine pk [1, 0, 2] rfl ?_
  refine stw (o_call (vs := [(.pointer (some ⟨b1, 0, none⟩)), (.int .i64 2)]) (M0 := [cellCh b1 [v2, (.int .i64 r_0_p)] 122]) Tryd.call68 rfl rfl (by intro w m h; exact (w_spec_l20Rd_pick (F := allB [cellCh b1 [v2, (.int .i64 r_0_p)] 122] w) (r_0_b := r_0_b) (r_0_p := r_0_p) (n_1 := 2) allB_ok m.given (m.rdM 1 rfl (reads_snap hv2)) h).mono (fun _ _ k => ret_free (fun r u => (fr_cons free_cell fr_nil)) k)) ?_); rintro ⟨r7, r8⟩ _
  refine o_eql st und3 rfl rfl rfl ?_
  refine o_bld st (qs := [(1, (.bool (decide (r7 = 0))))]) (cells := [(.slice none 0 0), (.bool (decide (r7 = 0)))]) (by intro ρ h; simp only [List.map_toArray, List.map_cons, List.map_nil, h (.tmp 10) _ rfl]) rfl bld25 rfl ?_
  refine stw (o_alloc rfl [(.slice none 0 0), (.bool false)] zero25 ?_); intro b9
  refine stw (o_stc (cs' := [(.slice none 0 0), (.bool (decide (r7 = 0)))]) 0 rfl rfl rfl ty25 rfl rfl rfl rfl ?_)
  refine c_nil ?_
  refine l_then ?_
  refine c_seq ?_
  refine c_region ?_
  refine o_mv st rfl rfl ?_
  refine pk [1, 0, 2, 3] rfl ?_
  refine stw (o_call (vs := [(.pointer (some ⟨b1, 0, none⟩)), (.int .i64 3)]) (M0 := [cellCh b1 [v2, (.int .i64 r8)] 122]) Tryd.call68 rfl rfl (by intro w m h; exact (w_spec_l20Rd_pick (F := allB [cellCh b1 [v2, (.int .i64 r8)] 122] w) (r_0_b := r_0_b) (r_0_p := r8) (n_1 := 3) allB_ok m.given (m.rdM 2 rfl (reads_snap hv2)) h).mono (fun _ _ k => ret_free (fun r u => (fr_cons free_cell fr_nil)) k)) ?_); rintro ⟨r11, r12⟩ _
  refine o_add st rfl rfl rfl ?_; intro t13
  refine o_as st rfl rfl ?_
  refine c_nil ?_
  refine l_then ?_
  refine c_seq ?_
  refine c_seq ?_
  refine c_region ?_
  refine o_as st rfl rfl ?_
  refine c_nil ?_
  refine l_then ?_
  refine c_block ?_
  refine c_loop (σ := (Int × (List (List GRule)) × Int)) (fun ((t14, xs16, t20) : (Int × (List (List GRule)) × Int)) (a : Act) (w : World) => ∃ (v15 : Value) (bb18 : List Nat), Has 80 [(0, (.pointer (some ⟨b1, 0, none⟩))), (1, (.int .i64 n_1)), (4, (.pointer (some ⟨b5, 0, none⟩))), (5, (.pointer (some ⟨b9, 0, none⟩))), (6, (.int .i64 t13)), (7, (.int .i64 t20))] a ∧ Mem (gB F [cellCh b1 [v2, (.int .i64 r_0_p)] 122] w0) (feet [cellCh b1 [v2, (.int .i64 r_0_p)] 122]) w0 [cellCh b1 [v2, (.int .i64 t14)] 122, cellCh b9 [v15, (.bool (decide (r7 = 0)))] 25, cellCh b5 [(.slice none 0 0), (.bool false)] 25, snapCh w0 F, dpCh (dSl dGRule 104) 101 bb18 v15 xs16] w) (fun a w hE hm => ⟨(.slice none 0 0), [], hE.sub ⟨rfl, rfl, rfl, rfl, rfl, rfl, trivial⟩, ((mem_dnil (dSl dGRule 104) 101 hm).pick [1, 2, 3, 4, 0] rfl)⟩) ?_
  rintro nx21 ⟨t14, xs16, t20⟩ a w ⟨v15, bb18, hE, hm⟩ h
  refine nx_of hE hm h ?_
  clear hE hm h
  refine c_seq ?_
  refine c_seq ?_
  refine c_region ?_
  refine o_mv st rfl rfl ?_
  refine o_mv st rfl rfl ?_
  refine o_lss st rfl rfl rfl ?_
  refine c_nil ?_
  refine l_then ?_
  refine c_cond rfl ?_ ?_
  · refine c_skip ?_
    refine l_then ?_
    refine c_seq ?_
    refine c_block ?_
    refine nx_dp 4 rfl ?_; rintro a22 l23 q24 rfl
    refine c_join1 (σ := ((List (List GRule)) × Int)) (fun ((xs25, t29) : ((List (List GRule)) × Int)) (a : Act) (w : World) => ∃ (v26 : Value) (bb28 : List Nat), Has 80 [(0, (.pointer (some ⟨b1, 0, none⟩))), (1, (.int .i64 n_1)), (4, (.pointer (some ⟨b5, 0, none⟩))), (5, (.pointer (some ⟨b9, 0, none⟩))), (6, (.int .i64 t13)), (7, (.int .i64 t20))] a ∧ Mem (gB F [cellCh b1 [v2, (.int .i64 r_0_p)] 122] w0) (feet [cellCh b1 [v2, (.int .i64 r_0_p)] 122]) w0 [dpCh (dSl dGRule 104) 101 bb28 v26 xs25, cellCh b1 [v2, (.int .i64 t29)] 122, cellCh b9 [v26, (.bool (decide (r7 = 0)))] 25, cellCh b5 [(.slice none 0 0), (.bool false)] 25, snapCh w0 F] w) ?_ ?_
    · intro k30
      refine c_drawQ mixed 11 rfl [cellCh b5 [(.slice none 0 0), (.bool false)] 25, snapCh w0 F] ?_
      intro Qd hP hQ
      have H416 : ∀ (r31 : (List GRule)) (a35 : Option Addr) (l36 : Nat) (q37 : Nat) (bb33 : List Nat) (r34 : Int) (v38 : Value) (bb39 : List Nat) (a43 : Option Addr) (l44 : Nat) (q45 : Nat) (bb41 : List Nat), Nx 80 (gB F [cellCh b1 [v2, (.int .i64 r_0_p)] 122] w0) (feet [cellCh b1 [v2, (.int .i64 r_0_p)] 122]) w0 (wpAnyH Tryd.prog .any (opsAt Tryd.f50 [1, 1, 1, 0, 1, 0, 0, 1, 0, 0]) Qd (Mem (gB F [cellCh b1 [v2, (.int .i64 r_0_p)] 122] w0) (feet [cellCh b1 [v2, (.int .i64 r_0_p)] 122]) w0 [cellCh b5 [(.slice none 0 0), (.bool false)] 25, snapCh w0 F]) 0 #[true, true, true, true, true, true, true, true, true, true, true]) [(0, (.pointer (some ⟨b1, 0, none⟩))), (1, (.int .i64 n_1)), (4, (.pointer (some ⟨b5, 0, none⟩))), (5, (.pointer (some ⟨b9, 0, none⟩))), (6, (.int .i64 t13)), (7, (.int .i64 t20))] [dpCh (dSl dGRule 104) 101 bb41 (.slice a43 l44 q45) (xs16 ++ ([r31])), cellCh b1 [v2, (.int .i64 r34)] 122, cellCh b9 [(.slice a43 l44 q45), (.bool (decide (r7 = 0)))] 25, cellCh b5 [(.slice none 0 0), (.bool false)] 25, snapCh w0 F] (k30 ((xs16 ++ ([r31])), r34)) := by
        intro r31 a35 l36 q37 bb33 r34 v38 bb39 a43 l44 q45 bb41
        refine d_done (by kernel_rfl) ?_
        exact fun a w hE hm hφ => hQ ((xs16 ++ ([r31])), r34) a w hφ ((fun a w hE hm => ⟨(.slice a43 l44 q45), bb41, hE.sub ⟨rfl, rfl, rfl, rfl, rfl, rfl, trivial⟩, (hm.pick [0, 1, 2, 3, 4] rfl)⟩) a w hE hm)
      have H417 : ∀ (r31 : (List GRule)) (a35 : Option Addr) (l36 : Nat) (q37 : Nat) (bb33 : List Nat) (r34 : Int) (v38 : Value) (bb39 : List Nat) (v40 : Value) (bb41 : List Nat), Nx 80 (gB F [cellCh b1 [v2, (.int .i64 r_0_p)] 122] w0) (feet [cellCh b1 [v2, (.int .i64 r_0_p)] 122]) w0 (wpAnyH Tryd.prog .any (opsAt Tryd.f50 [1, 1, 1, 0, 1, 0, 0, 1, 0, 0]) Qd (Mem (gB F [cellCh b1 [v2, (.int .i64 r_0_p)] 122] w0) (feet [cellCh b1 [v2, (.int .i64 r_0_p)] 122]) w0 [cellCh b5 [(.slice none 0 0), (.bool false)] 25, snapCh w0 F]) 2 #[true, true, true, true, true, true, true, true, true, false, false]) [(0, (.pointer (some ⟨b1, 0, none⟩))), (1, (.int .i64 n_1)), (4, (.pointer (some ⟨b5, 0, none⟩))), (5, (.pointer (some ⟨b9, 0, none⟩))), (6, (.int .i64 t13)), (7, (.int .i64 t20)), (28, v40)] [dpCh (dSl dGRule 104) 101 bb41 v40 (xs16 ++ ([r31])), cellCh b1 [v2, (.int .i64 r34)] 122, cellCh b9 [(.slice a22 l23 q24), (.bool (decide (r7 = 0)))] 25, cellCh b5 [(.slice none 0 0), (.bool false)] 25, snapCh w0 F] (k30 ((xs16 ++ ([r31])), r34)) := by
        intro r31 a35 l36 q37 bb33 r34 v38 bb39 v40 bb41
        refine o_fad (dt 9 (fun w m => m.pick [3, 4] rfl)) rfl rfl fld25_0 rfl ?_
        refine nx_dp 0 rfl ?_; rintro a43 l44 q45 rfl
        refine d_one (i := 10) rfl (by kernel_rfl) (o_stc (cs' := [(.slice a43 l44 q45), (.bool (decide (r7 = 0)))]) 2 rfl rfl rfl ty23 rfl rfl rfl rfl ?_)
        refine d_and (fun w m => m.pick [3, 4] rfl) ?_
        refine pk [0, 1, 2, 3, 4] rfl ?_
        refine re (E' := [(0, (.pointer (some ⟨b1, 0, none⟩))), (1, (.int .i64 n_1)), (4, (.pointer (some ⟨b5, 0, none⟩))), (5, (.pointer (some ⟨b9, 0, none⟩))), (6, (.int .i64 t13)), (7, (.int .i64 t20))]) ⟨rfl, rfl, rfl, rfl, rfl, rfl, trivial⟩ ?_
        exact H416 r31 a35 l36 q37 bb33 r34 v38 bb39 a43 l44 q45 bb41
      have H418 : ∀ (r31 : (List GRule)) (a35 : Option Addr) (l36 : Nat) (q37 : Nat) (bb33 : List Nat) (r34 : Int) (v38 : Value) (bb39 : List Nat), Nx 80 (gB F [cellCh b1 [v2, (.int .i64 r_0_p)] 122] w0) (feet [cellCh b1 [v2, (.int .i64 r_0_p)] 122]) w0 (wpAnyH Tryd.prog .any (opsAt Tryd.f50 [1, 1, 1, 0, 1, 0, 0, 1, 0, 0]) Qd (Mem (gB F [cellCh b1 [v2, (.int .i64 r_0_p)] 122] w0) (feet [cellCh b1 [v2, (.int .i64 r_0_p)] 122]) w0 [cellCh b5 [(.slice none 0 0), (.bool false)] 25, snapCh w0 F]) 3 #[true, true, true, true, true, true, true, true, false, false, false]) [(0, (.pointer (some ⟨b1, 0, none⟩))), (1, (.int .i64 n_1)), (4, (.pointer (some ⟨b5, 0, none⟩))), (5, (.pointer (some ⟨b9, 0, none⟩))), (6, (.int .i64 t13)), (7, (.int .i64 t20)), (21, (.slice a22 l23 q24)), (27, v38)] [dpCh (dSl dGRule 104) 101 bb39 v38 ([r31]), cellCh b1 [v2, (.int .i64 r34)] 122, cellCh b9 [(.slice a22 l23 q24), (.bool (decide (r7 = 0)))] 25, cellCh b5 [(.slice none 0 0), (.bool false)] 25, snapCh w0 F, dpCh (dSl dGRule 104) 101 bb18 (.slice a22 l23 q24) xs16] (appW xs16 ([r31]) (fun _ => k30 ((xs16 ++ ([r31])), r34))) := by
        intro r31 a35 l36 q37 bb33 r34 v38 bb39
        refine pk [5, 0, 1, 2, 3, 4] rfl ?_
        refine d_one (i := 8) rfl (by kernel_rfl) (o_appD rfl rfl rfl el23 rfl zero101 rfl rfl ?_); intro bb41 v40
        refine d_and (fun w m => m.pick [3, 4] rfl) ?_
        refine pk [0, 1, 2, 3, 4] rfl ?_
        refine re (E' := [(0, (.pointer (some ⟨b1, 0, none⟩))), (1, (.int .i64 n_1)), (4, (.pointer (some ⟨b5, 0, none⟩))), (5, (.pointer (some ⟨b9, 0, none⟩))), (6, (.int .i64 t13)), (7, (.int .i64 t20)), (28, v40)]) ⟨rfl, rfl, rfl, rfl, rfl, rfl, rfl, trivial⟩ ?_
        exact H417 r31 a35 l36 q37 bb33 r34 v38 bb39 v40 bb41
      have H419 : ∀ (r31 : (List GRule)) (v32 : Value) (bb33 : List Nat) (r34 : Int), Nx 80 (gB F [cellCh b1 [v2, (.int .i64 r_0_p)] 122] w0) (feet [cellCh b1 [v2, (.int .i64 r_0_p)] 122]) w0 (wpAnyH Tryd.prog .any (opsAt Tryd.f50 [1, 1, 1, 0, 1, 0, 0, 1, 0, 0]) Qd (Mem (gB F [cellCh b1 [v2, (.int .i64 r_0_p)] 122] w0) (feet [cellCh b1 [v2, (.int .i64 r_0_p)] 122]) w0 [cellCh b5 [(.slice none 0 0), (.bool false)] 25, snapCh w0 F]) 4 #[true, true, true, true, true, true, true, false, false, false, false]) [(0, (.pointer (some ⟨b1, 0, none⟩))), (1, (.int .i64 n_1)), (4, (.pointer (some ⟨b5, 0, none⟩))), (5, (.pointer (some ⟨b9, 0, none⟩))), (6, (.int .i64 t13)), (7, (.int .i64 t20)), (21, (.slice a22 l23 q24)), (26, v32)] [dpCh dGRule 104 bb33 v32 r31, cellCh b1 [v2, (.int .i64 r34)] 122, cellCh b9 [(.slice a22 l23 q24), (.bool (decide (r7 = 0)))] 25, cellCh b5 [(.slice none 0 0), (.bool false)] 25, snapCh w0 F, dpCh (dSl dGRule 104) 101 bb18 (.slice a22 l23 q24) xs16] (appW xs16 ([r31]) (fun _ => k30 ((xs16 ++ ([r31])), r34))) := by
        intro r31 v32 bb33 r34
        refine nx_dp 0 rfl ?_; rintro a35 l36 q37 rfl
        refine d_one (i := 7) rfl (by kernel_rfl) (o_bslD (M := [dpCh dGRule 104 bb33 (.slice a35 l36 q37) r31]) (E' := (dSl dGRule 104)) (qs := [(0, (.slice a35 l36 q37))]) (cs := [(.slice a35 l36 q37)]) r31 (absorb_one gives_dp (fun B w h => ⟨_, rfl, h⟩)) (by intro ρ h; simp only [List.map_toArray, List.map_cons, List.map_nil, h (.tmp 26) _ rfl]) rfl el23 zero101 rfl rfl rfl rfl ?_); intro bb39 v38
        refine d_and (fun w m => m.pick [3, 4] rfl) ?_
        refine pk [0, 1, 2, 3, 4, 5] rfl ?_
        refine re (E' := [(0, (.pointer (some ⟨b1, 0, none⟩))), (1, (.int .i64 n_1)), (4, (.pointer (some ⟨b5, 0, none⟩))), (5, (.pointer (some ⟨b9, 0, none⟩))), (6, (.int .i64 t13)), (7, (.int .i64 t20)), (21, (.slice a22 l23 q24)), (27, v38)]) ⟨rfl, rfl, rfl, rfl, rfl, rfl, rfl, rfl, trivial⟩ ?_
        exact H418 r31 a35 l36 q37 bb33 r34 v38 bb39
      have H420 : ∀ (_ : Unit), Nx 80 (gB F [cellCh b1 [v2, (.int .i64 r_0_p)] 122] w0) (feet [cellCh b1 [v2, (.int .i64 r_0_p)] 122]) w0 (wpAnyH Tryd.prog .any (opsAt Tryd.f50 [1, 1, 1, 0, 1, 0, 0, 1, 0, 0]) Qd (Mem (gB F [cellCh b1 [v2, (.int .i64 r_0_p)] 122] w0) (feet [cellCh b1 [v2, (.int .i64 r_0_p)] 122]) w0 [cellCh b5 [(.slice none 0 0), (.bool false)] 25, snapCh w0 F]) 5 #[true, true, true, true, true, true, false, false, false, false, false]) [(0, (.pointer (some ⟨b1, 0, none⟩))), (1, (.int .i64 n_1)), (4, (.pointer (some ⟨b5, 0, none⟩))), (5, (.pointer (some ⟨b9, 0, none⟩))), (6, (.int .i64 t13)), (7, (.int .i64 t20)), (22, (.pointer (some ⟨b1, 0, none⟩))), (24, (.int .i64 (w64 (t20 + 1)))), (25, (.int .i64 t13)), (21, (.slice a22 l23 q24))] [cellCh b1 [v2, (.int .i64 t14)] 122, cellCh b9 [(.slice a22 l23 q24), (.bool (decide (r7 = 0)))] 25, cellCh b5 [(.slice none 0 0), (.bool false)] 25, snapCh w0 F, dpCh (dSl dGRule 104) 101 bb18 (.slice a22 l23 q24) xs16] (L_spec_l20Rules r_0_b t14 (w64 (t20 + 1)) t13 0 (fun (r31, r34) => appW xs16 ([r31]) (fun _ => k30 ((xs16 ++ ([r31])), r34)))) := by
        intro _
        refine d_one (i := 6) rfl (by kernel_rfl) (o_call (vs := [(.pointer (some ⟨b1, 0, none⟩)), (.int .i64 (w64 (t20 + 1))), (.int .i64 t13), (.int .i64 0)]) (M0 := [cellCh b1 [v2, (.int .i64 t14)] 122]) Tryd.call84 rfl rfl (by intro w m h; exact (w_spec_l20Rules (F := allB [cellCh b1 [v2, (.int .i64 t14)] 122] w) (r_0_b := r_0_b) (r_0_p := t14) (first_1 := (w64 (t20 + 1))) (chains_2 := t13) (n_3 := 0) allB_ok m.given (m.rdM 2 rfl (reads_snap hv2)) h).mono (fun _ _ k => ret_free (fun r u => (fr_cons free_dp (fr_cons free_cell fr_nil))) k)) ?_); rintro ⟨r31, r34⟩ ⟨v32, bb33⟩
        refine d_and (fun w m => m.pick [3, 4] rfl) ?_
        refine pk [0, 1, 2, 3, 4, 5] rfl ?_
        refine re (E' := [(0, (.pointer (some ⟨b1, 0, none⟩))), (1, (.int .i64 n_1)), (4, (.pointer (some ⟨b5, 0, none⟩))), (5, (.pointer (some ⟨b9, 0, none⟩))), (6, (.int .i64 t13)), (7, (.int .i64 t20)), (21, (.slice a22 l23 q24)), (26, v32)]) ⟨rfl, rfl, rfl, rfl, rfl, rfl, rfl, rfl, trivial⟩ ?_
        exact H419 r31 v32 bb33 r34
      have H421 : ∀ (r46 : (List GRule)) (a50 : Option Addr) (l51 : Nat) (q52 : Nat) (bb48 : List Nat) (r49 : Int) (v53 : Value) (bb54 : List Nat), Nx 80 (gB F [cellCh b1 [v2, (.int .i64 r_0_p)] 122] w0) (feet [cellCh b1 [v2, (.int .i64 r_0_p)] 122]) w0 (wpAnyH Tryd.prog .any (opsAt Tryd.f50 [1, 1, 1, 0, 1, 0, 0, 1, 0, 0]) Qd (Mem (gB F [cellCh b1 [v2, (.int .i64 r_0_p)] 122] w0) (feet [cellCh b1 [v2, (.int .i64 r_0_p)] 122]) w0 [cellCh b5 [(.slice none 0 0), (.bool false)] 25, snapCh w0 F]) 4 #[true, false, true, true, true, true, true, true, false, false, false]) [(0, (.pointer (some ⟨b1, 0, none⟩))), (1, (.int .i64 n_1)), (4, (.pointer (some ⟨b5, 0, none⟩))), (5, (.pointer (some ⟨b9, 0, none⟩))), (6, (.int .i64 t13)), (7, (.int .i64 t20)), (20, (.pointer (some ⟨b9, 0, none⟩))), (27, v53)] [dpCh (dSl dGRule 104) 101 bb54 v53 ([r46]), cellCh b1 [v2, (.int .i64 r49)] 122, cellCh b9 [(.slice a22 l23 q24), (.bool (decide (r7 = 0)))] 25, cellCh b5 [(.slice none 0 0), (.bool false)] 25, snapCh w0 F, dpCh (dSl dGRule 104) 101 bb18 (.slice a22 l23 q24) xs16] (appW xs16 ([r46]) (fun _ => k30 ((xs16 ++ ([r46])), r49))) := by
        intro r46 a50 l51 q52 bb48 r49 v53 bb54
        refine d_one (i := 1) rfl (by kernel_rfl) (o_ldc m_op (v := (.slice a22 l23 q24)) 2 rfl rfl rfl ty23 rfl ?_)
        refine d_and (fun w m => m.pick [3, 4] rfl) ?_
        refine pk [0, 1, 2, 3, 4, 5] rfl ?_
        refine re (E' := [(0, (.pointer (some ⟨b1, 0, none⟩))), (1, (.int .i64 n_1)), (4, (.pointer (some ⟨b5, 0, none⟩))), (5, (.pointer (some ⟨b9, 0, none⟩))), (6, (.int .i64 t13)), (7, (.int .i64 t20)), (21, (.slice a22 l23 q24)), (27, v53)]) ⟨rfl, rfl, rfl, rfl, rfl, rfl, rfl, rfl, trivial⟩ ?_
        exact H418 r46 a50 l51 q52 bb48 r49 v53 bb54
      have H422 : ∀ (r46 : (List GRule)) (v47 : Value) (bb48 : List Nat) (r49 : Int), Nx 80 (gB F [cellCh b1 [v2, (.int .i64 r_0_p)] 122] w0) (feet [cellCh b1 [v2, (.int .i64 r_0_p)] 122]) w0 (wpAnyH Tryd.prog .any (opsAt Tryd.f50 [1, 1, 1, 0, 1, 0, 0, 1, 0, 0]) Qd (Mem (gB F [cellCh b1 [v2, (.int .i64 r_0_p)] 122] w0) (feet [cellCh b1 [v2, (.int .i64 r_0_p)] 122]) w0 [cellCh b5 [(.slice none 0 0), (.bool false)] 25, snapCh w0 F]) 5 #[true, false, true, true, true, true, true, false, false, false, false]) [(0, (.pointer (some ⟨b1, 0, none⟩))), (1, (.int .i64 n_1)), (4, (.pointer (some ⟨b5, 0, none⟩))), (5, (.pointer (some ⟨b9, 0, none⟩))), (6, (.int .i64 t13)), (7, (.int .i64 t20)), (20, (.pointer (some ⟨b9, 0, none⟩))), (26, v47)] [dpCh dGRule 104 bb48 v47 r46, cellCh b1 [v2, (.int .i64 r49)] 122, cellCh b9 [(.slice a22 l23 q24), (.bool (decide (r7 = 0)))] 25, cellCh b5 [(.slice none 0 0), (.bool false)] 25, snapCh w0 F, dpCh (dSl dGRule 104) 101 bb18 (.slice a22 l23 q24) xs16] (appW xs16 ([r46]) (fun _ => k30 ((xs16 ++ ([r46])), r49))) := by
        intro r46 v47 bb48 r49
        refine d_two (i := 1) (j := 7) rfl rfl (by kernel_rfl) ?_ ?_
        · intro o ho; cases ho
          refine o_ldc m_op (v := (.slice a22 l23 q24)) 2 rfl rfl rfl ty23 rfl ?_
          refine d_and (fun w m => m.pick [3, 4] rfl) ?_
          refine pk [0, 1, 2, 3, 4, 5] rfl ?_
          refine re (E' := [(0, (.pointer (some ⟨b1, 0, none⟩))), (1, (.int .i64 n_1)), (4, (.pointer (some ⟨b5, 0, none⟩))), (5, (.pointer (some ⟨b9, 0, none⟩))), (6, (.int .i64 t13)), (7, (.int .i64 t20)), (21, (.slice a22 l23 q24)), (26, v47)]) ⟨rfl, rfl, rfl, rfl, rfl, rfl, rfl, rfl, trivial⟩ ?_
          exact H419 r46 v47 bb48 r49
        · intro o ho; cases ho
          refine nx_dp 0 rfl ?_; rintro a50 l51 q52 rfl
          refine o_bslD (M := [dpCh dGRule 104 bb48 (.slice a50 l51 q52) r46]) (E' := (dSl dGRule 104)) (qs := [(0, (.slice a50 l51 q52))]) (cs := [(.slice a50 l51 q52)]) r46 (absorb_one gives_dp (fun B w h => ⟨_, rfl, h⟩)) (by intro ρ h; simp only [List.map_toArray, List.map_cons, List.map_nil, h (.tmp 26) _ rfl]) rfl el23 zero101 rfl rfl rfl rfl ?_; intro bb54 v53
          refine d_and (fun w m => m.pick [3, 4] rfl) ?_
          refine pk [0, 1, 2, 3, 4, 5] rfl ?_
          refine re (E' := [(0, (.pointer (some ⟨b1, 0, none⟩))), (1, (.int .i64 n_1)), (4, (.pointer (some ⟨b5, 0, none⟩))), (5, (.pointer (some ⟨b9, 0, none⟩))), (6, (.int .i64 t13)), (7, (.int .i64 t20)), (20, (.pointer (some ⟨b9, 0, none⟩))), (27, v53)]) ⟨rfl, rfl, rfl, rfl, rfl, rfl, rfl, rfl, trivial⟩ ?_
          exact H421 r46 a50 l51 q52 bb48 r49 v53 bb54
      refine o_fad (dt 0 (fun w m => m.pick [2, 3] rfl)) rfl rfl fld25_0 rfl ?_
      refine o_mv (dt 2 (fun w m => m.pick [2, 3] rfl)) rfl rfl ?_
      refine o_mv (dt 3 (fun w m => m.pick [2, 3] rfl)) rfl rfl ?_
      refine o_addw (dt 4 (fun w m => m.pick [2, 3] rfl)) rfl rfl rfl ?_
      refine o_mv (dt 5 (fun w m => m.pick [2, 3] rfl)) rfl rfl ?_
      refine d_two (i := 1) (j := 6) rfl rfl (by kernel_rfl) ?_ ?_
      · intro o ho; cases ho
        refine o_ldc m_op (v := (.slice a22 l23 q24)) 1 rfl rfl rfl ty23 rfl ?_
        refine d_and (fun w m => m.pick [2, 3] rfl) ?_
        refine pk [0, 1, 2, 3, 4] rfl ?_
        refine re (E' := [(0, (.pointer (some ⟨b1, 0, none⟩))), (1, (.int .i64 n_1)), (4, (.pointer (some ⟨b5, 0, none⟩))), (5, (.pointer (some ⟨b9, 0, none⟩))), (6, (.int .i64 t13)), (7, (.int .i64 t20)), (22, (.pointer (some ⟨b1, 0, none⟩))), (24, (.int .i64 (w64 (t20 + 1)))), (25, (.int .i64 t13)), (21, (.slice a22 l23 q24))]) ⟨rfl, rfl, rfl, rfl, rfl, rfl, rfl, rfl, rfl, rfl, trivial⟩ ?_
        exact H420 ()
      · intro o ho; cases ho
        refine o_call (vs := [(.pointer (some ⟨b1, 0, none⟩)), (.int .i64 (w64 (t20 + 1))), (.int .i64 t13), (.int .i64 0)]) (M0 := [cellCh b1 [v2, (.int .i64 t14)] 122]) Tryd.call84 rfl rfl (by intro w m h; exact (w_spec_l20Rules (F := allB [cellCh b1 [v2, (.int .i64 t14)] 122] w) (r_0_b := r_0_b) (r_0_p := t14) (first_1 := (w64 (t20 + 1))) (chains_2 := t13) (n_3 := 0) allB_ok m.given (m.rdM 2 rfl (reads_snap hv2)) h).mono (fun _ _ k => ret_free (fun r u => (fr_cons free_dp (fr_cons free_cell fr_nil))) k)) ?_; rintro ⟨r46, r49⟩ ⟨v47, bb48⟩
        refine d_and (fun w m => m.pick [3, 4] rfl) ?_
        refine pk [0, 1, 2, 3, 4, 5] rfl ?_
        refine re (E' := [(0, (.pointer (some ⟨b1, 0, none⟩))), (1, (.int .i64 n_1)), (4, (.pointer (some ⟨b5, 0, none⟩))), (5, (.pointer (some ⟨b9, 0, none⟩))), (6, (.int .i64 t13)), (7, (.int .i64 t20)), (20, (.pointer (some ⟨b9, 0, none⟩))), (26, v47)]) ⟨rfl, rfl, rfl, rfl, rfl, rfl, rfl, rfl, trivial⟩ ?_
        exact H422 r46 v47 bb48 r49
    · rintro ⟨xs25, t29⟩ a w ⟨v26, bb28, hE, hm⟩ h
      refine nx_of hE hm h ?_
      clear hE hm h
      refine b_norm ?_
      refine l_then ?_
      refine c_region ?_
      refine o_mv st rfl rfl ?_
      refine o_add st rfl rfl rfl ?_; intro t55
      refine o_as st rfl rfl ?_
      refine c_nil ?_
      exact l_join (t29, xs25, t55) (fun a w hE hm => ⟨v26, bb28, hE.sub ⟨rfl, rfl, rfl, rfl, rfl, rfl, trivial⟩, (hm.pick [1, 2, 3, 4, 0] rfl)⟩)
  · refine c_exit ?_
    refine l_exit ?_
    refine l_exit ?_
    refine b_exit ?_
    refine l_then ?_
    refine c_join (σ := (Int × (List (List GRule)))) (fun ((t253, xs255) : (Int × (List (List GRule)))) (a : Act) (w : World) => ∃ (v254 : Value) (bb257 : List Nat), Has 80 [(4, (.pointer (some ⟨b5, 0, none⟩))), (5, (.pointer (some ⟨b9, 0, none⟩)))] a ∧ Mem (gB F [cellCh b1 [v2, (.int .i64 r_0_p)] 122] w0) (feet [cellCh b1 [v2, (.int .i64 r_0_p)] 122]) w0 [cellCh b1 [v2, (.int .i64 t253)] 122, cellCh b9 [v254, (.bool (decide (r7 = 0)))] 25, cellCh b5 [(.slice none 0 0), (.bool false)] 25, snapCh w0 F, dpCh (dSl dGRule 104) 101 bb257 v254 xs255] w) ?_ ?_
    · intro k259
      refine c_seq ?_
      refine c_region ?_
      refine o_mv st rfl rfl ?_
      refine o_mv st rfl rfl ?_
      refine stw (o_call (vs := [(.pointer (some ⟨b1, 0, none⟩)), (.int .i64 n_1)]) (M0 := [cellCh b1 [v2, (.int .i64 t14)] 122]) Tryd.call85 rfl rfl (by intro w m h; exact (w_spec_l20Rd_odd (F := allB [cellCh b1 [v2, (.int .i64 t14)] 122] w) (r_0_b := r_0_b) (r_0_p := t14) (n_1 := n_1) allB_ok m.given (m.rdM 2 rfl (reads_snap hv2)) h).mono (fun _ _ k => ret_free (fun r u => (fr_cons free_cell fr_nil)) k)) ?_); rintro ⟨r56, r57⟩ _
      refine c_nil ?_
      refine l_then ?_
      refine c_cond rfl ?_ ?_
      · refine c_seq ?_
        refine c_region ?_
        refine o_mv st rfl rfl ?_
        refine stw (o_call (vs := [(.pointer (some ⟨b1, 0, none⟩)), (.int .i64 4)]) (M0 := [cellCh b1 [v2, (.int .i64 r57)] 122]) Tryd.call68 rfl rfl (by intro w m h; exact (w_spec_l20Rd_pick (F := allB [cellCh b1 [v2, (.int .i64 r57)] 122] w) (r_0_b := r_0_b) (r_0_p := r57) (n_1 := 4) allB_ok m.given (m.rdM 2 rfl (reads_snap hv2)) h).mono (fun _ _ k => ret_free (fun r u => (fr_cons free_cell fr_nil)) k)) ?_); rintro ⟨r58, r59⟩ _
        refine c_nil ?_
        refine l_then ?_
        refine c_block ?_
        refine c_seq ?_
        refine c_region ?_
        refine o_eql st und3 rfl rfl rfl ?_
        refine o_as st rfl rfl ?_
        refine c_nil ?_
        refine l_then ?_
        refine c_cond rfl ?_ ?_
        · refine c_region ?_
          refine stw (o_bslD0 (E' := (dSl dGRule 104)) (qs := []) (by intro ρ h; simp only [List.map_toArray, List.map_cons, List.map_nil]) rfl el23 zero101 rfl rfl rfl ?_); intro bb61 v60
          refine o_fad st rfl rfl fld25_0 rfl ?_
          refine nx_dp 0 rfl ?_; rintro a63 l64 q65 rfl
          refine stw (o_stc (cs' := [(.slice a63 l64 q65), (.bool (decide (r7 = 0)))]) 2 rfl rfl rfl ty23 rfl rfl rfl rfl ?_)
          refine c_nil ?_
          refine b_norm ?_
          exact l_join (r59, []) (fun a w hE hm => ⟨(.slice a63 l64 q65), bb61, hE.sub ⟨rfl, rfl, trivial⟩, (hm.pick [1, 2, 3, 4, 0] rfl)⟩)
        · refine c_seq ?_
          refine c_region ?_
          refine o_eql st und3 rfl rfl rfl ?_
          refine o_as st rfl rfl ?_
          refine c_nil ?_
          refine l_then ?_
          refine c_cond rfl ?_ ?_
          · refine nx_dp 4 rfl ?_; rintro a66 l67 q68 rfl
            refine c_join1 (σ := ((List (List GRule)) × Int)) (fun ((xs69, t72) : ((List (List GRule)) × Int)) (a : Act) (w : World) => ∃ (bb71 : List Nat), Has 80 [(4, (.pointer (some ⟨b5, 0, none⟩))), (5, (.pointer (some ⟨b9, 0, none⟩)))] a ∧ Mem (gB F [cellCh b1 [v2, (.int .i64 r_0_p)] 122] w0) (feet [cellCh b1 [v2, (.int .i64 r_0_p)] 122]) w0 [dpCh (dSl dGRule 104) 101 bb71 (.slice a66 l67 q68) xs69, cellCh b1 [v2, (.int .i64 t72)] 122, cellCh b9 [(.slice a66 l67 q68), (.bool (decide (r7 = 0)))] 25, cellCh b5 [(.slice none 0 0), (.bool false)] 25, snapCh w0 F] w) ?_ ?_
            · intro k73
              refine c_drawQ mixed 17 rfl [cellCh b9 [(.slice a66 l67 q68), (.bool (decide (r7 = 0)))] 25, cellCh b5 [(.slice none 0 0), (.bool false)] 25, snapCh w0 F] ?_
              intro Qd hP hQ
              have H450 : ∀ (e74 : (List GRule)) (h75 : xs16[(0 : Int).toNat]? = some e74) (v76 : Value) (bb77 : List Nat) (bb78 : List Nat) (v79 : Value) (r80 : Int) (r81 : Int) (e82 : Int) (h83 : ([0, t13])[(r80).toNat]? = some e82) (v84 : Value) (bb85 : List Nat) (a91 : Option Addr) (l92 : Nat) (q93 : Nat) (bb87 : List Nat) (e89 : (List GRule)) (h90 : xs16[(0 : Int).toNat]? = some e89) (bb94 : List Nat), Nx 80 (gB F [cellCh b1 [v2, (.int .i64 r_0_p)] 122] w0) (feet [cellCh b1 [v2, (.int .i64 r_0_p)] 122]) w0 (wpAnyH Tryd.prog .any (opsAt Tryd.f50 [1, 1, 1, 1, 0, 1, 0, 1, 0, 1, 1, 1, 0]) Qd (Mem (gB F [cellCh b1 [v2, (.int .i64 r_0_p)] 122] w0) (feet [cellCh b1 [v2, (.int .i64 r_0_p)] 122]) w0 [cellCh b9 [(.slice a66 l67 q68), (.bool (decide (r7 = 0)))] 25, cellCh b5 [(.slice none 0 0), (.bool false)] 25, snapCh w0 F]) 0 #[true, true, true, true, true, true, true, true, true, true, true, true, true, true, true, true, true]) [(4, (.pointer (some ⟨b5, 0, none⟩))), (5, (.pointer (some ⟨b9, 0, none⟩)))] [dpCh (dSl dGRule 104) 101 bb94 (.slice a66 l67 q68) (xs16.set (0 : Int).toNat (e74 ++ ([(GRule.mk ([]) 3 e82)]))), cellCh b1 [v2, (.int .i64 r81)] 122, cellCh b9 [(.slice a66 l67 q68), (.bool (decide (r7 = 0)))] 25, cellCh b5 [(.slice none 0 0), (.bool false)] 25, snapCh w0 F] (k73 ((xs16.set (0 : Int).toNat (e74 ++ ([(GRule.mk ([]) 3 e82)]))), r81)) := by
                intro e74 h75 v76 bb77 bb78 v79 r80 r81 e82 h83 v84 bb85 a91 l92 q93 bb87 e89 h90 bb94
                refine d_done (by kernel_rfl) ?_
                exact fun a w hE hm hφ => hQ ((xs16.set (0 : Int).toNat (e74 ++ ([(GRule.mk ([]) 3 e82)]))), r81) a w hφ ((fun a w hE hm => ⟨bb94, hE.sub ⟨rfl, rfl, trivial⟩, (hm.pick [0, 1, 2, 3, 4] rfl)⟩) a w hE hm)
              have H451 : ∀ (e74 : (List GRule)) (h75 : xs16[(0 : Int).toNat]? = some e74) (v76 : Value) (bb77 : List Nat) (bb78 : List Nat) (v79 : Value) (r80 : Int) (r81 : Int) (e82 : Int) (h83 : ([0, t13])[(r80).toNat]? = some e82) (v84 : Value) (bb85 : List Nat) (v86 : Value) (bb87 : List Nat) (e89 : (List GRule)) (h90 : xs16[(0 : Int).toNat]? = some e89), Nx 80 (gB F [cellCh b1 [v2, (.int .i64 r_0_p)] 122] w0) (feet [cellCh b1 [v2, (.int .i64 r_0_p)] 122]) w0 (wpAnyH Tryd.prog .any (opsAt Tryd.f50 [1, 1, 1, 1, 0, 1, 0, 1, 0, 1, 1, 1, 0]) Qd (Mem (gB F [cellCh b1 [v2, (.int .i64 r_0_p)] 122] w0) (feet [cellCh b1 [v2, (.int .i64 r_0_p)] 122]) w0 [cellCh b9 [(.slice a66 l67 q68), (.bool (decide (r7 = 0)))] 25, cellCh b5 [(.slice none 0 0), (.bool false)] 25, snapCh w0 F]) 1 #[true, true, true, true, true, true, true, true, true, true, true, true, true, true, true, true, false]) [(4, (.pointer (some ⟨b5, 0, none⟩))), (5, (.pointer (some ⟨b9, 0, none⟩))), (61, v86), (62, (pEl (.slice a66 l67 q68) 0 1 0))] [dpCh dGRule 104 bb87 v86 (e74 ++ ([(GRule.mk ([]) 3 e82)])), cellCh b1 [v2, (.int .i64 r81)] 122, holeCh (dSl dGRule 104) 101 bb77 (.slice a66 l67 q68) xs16 (0 : Int).toNat [v76], cellCh b9 [(.slice a66 l67 q68), (.bool (decide (r7 = 0)))] 25, cellCh b5 [(.slice none 0 0), (.bool false)] 25, snapCh w0 F] (k73 ((xs16.set (0 : Int).toNat (e74 ++ ([(GRule.mk ([]) 3 e82)]))), r81)) := by
                intro e74 h75 v76 bb77 bb78 v79 r80 r81 e82 h83 v84 bb85 v86 bb87 e89 h90
                refine nx_dp 0 rfl ?_; rintro a91 l92 q93 rfl
                refine pk [2, 0, 1, 3, 4, 5] rfl ?_
                refine d_one (i := 16) rfl (by kernel_rfl) (o_stH (M := [dpCh dGRule 104 bb87 (.slice a91 l92 q93) (e74 ++ ([(GRule.mk ([]) 3 e82)]))]) (y' := (e74 ++ ([(GRule.mk ([]) 3 e82)]))) rfl (.inr (lt_of_get h75)) (absorb_one gives_dp (fun B w h => ⟨_, rfl, h⟩)) ty101 rfl rfl rfl rfl rfl ?_); intro bb94
                refine d_and (fun w m => m.pick [2, 3, 4] rfl) ?_
                refine pk [0, 1, 2, 3, 4] rfl ?_
                refine re (E' := [(4, (.pointer (some ⟨b5, 0, none⟩))), (5, (.pointer (some ⟨b9, 0, none⟩)))]) ⟨rfl, rfl, trivial⟩ ?_
                exact H450 e74 h75 v76 bb77 bb78 v79 r80 r81 e82 h83 v84 bb85 a91 l92 q93 bb87 e89 h90 bb94
              have H452 : ∀ (e74 : (List GRule)) (h75 : xs16[(0 : Int).toNat]? = some e74) (v76 : Value) (bb77 : List Nat) (bb78 : List Nat) (v79 : Value) (r80 : Int) (r81 : Int) (e82 : Int) (h83 : ([0, t13])[(r80).toNat]? = some e82) (v84 : Value) (bb85 : List Nat) (v86 : Value) (bb87 : List Nat), Nx 80 (gB F [cellCh b1 [v2, (.int .i64 r_0_p)] 122] w0) (feet [cellCh b1 [v2, (.int .i64 r_0_p)] 122]) w0 (wpAnyH Tryd.prog .any (opsAt Tryd.f50 [1, 1, 1, 1, 0, 1, 0, 1, 0, 1, 1, 1, 0]) Qd (Mem (gB F [cellCh b1 [v2, (.int .i64 r_0_p)] 122] w0) (feet [cellCh b1 [v2, (.int .i64 r_0_p)] 122]) w0 [cellCh b9 [(.slice a66 l67 q68), (.bool (decide (r7 = 0)))] 25, cellCh b5 [(.slice none 0 0), (.bool false)] 25, snapCh w0 F]) 2 #[true, true, true, true, true, true, true, true, true, true, true, true, true, true, true, false, false]) [(4, (.pointer (some ⟨b5, 0, none⟩))), (5, (.pointer (some ⟨b9, 0, none⟩))), (48, (.slice a66 l67 q68)), (61, v86)] [dpCh dGRule 104 bb87 v86 (e74 ++ ([(GRule.mk ([]) 3 e82)])), cellCh b1 [v2, (.int .i64 r81)] 122, holeCh (dSl dGRule 104) 101 bb77 (.slice a66 l67 q68) xs16 (0 : Int).toNat [v76], cellCh b9 [(.slice a66 l67 q68), (.bool (decide (r7 = 0)))] 25, cellCh b5 [(.slice none 0 0), (.bool false)] 25, snapCh w0 F] (idxW xs16 0 (fun e89 => k73 ((xs16.set (0 : Int).toNat (e74 ++ ([(GRule.mk ([]) 3 e82)]))), r81))) := by
                intro e74 h75 v76 bb77 bb78 v79 r80 r81 e82 h83 v84 bb85 v86 bb87
                refine d_one (i := 15) rfl (by kernel_rfl) (o_idxH m_op 2 rfl rfl rfl rfl el23 ?_); intro e89 h90
                refine d_and (fun w m => m.pick [3, 4, 5] rfl) ?_
                refine pk [0, 1, 2, 3, 4, 5] rfl ?_
                refine re (E' := [(4, (.pointer (some ⟨b5, 0, none⟩))), (5, (.pointer (some ⟨b9, 0, none⟩))), (61, v86), (62, (pEl (.slice a66 l67 q68) 0 1 0))]) ⟨rfl, rfl, rfl, rfl, trivial⟩ ?_
                exact H451 e74 h75 v76 bb77 bb78 v79 r80 r81 e82 h83 v84 bb85 v86 bb87 e89 h90
              have H453 : ∀ (e74 : (List GRule)) (h75 : xs16[(0 : Int).toNat]? = some e74) (v76 : Value) (bb77 : List Nat) (bb78 : List Nat) (v79 : Value) (r80 : Int) (r81 : Int) (e82 : Int) (h83 : ([0, t13])[(r80).toNat]? = some e82) (v84 : Value) (bb85 : List Nat), Nx 80 (gB F [cellCh b1 [v2, (.int .i64 r_0_p)] 122] w0) (feet [cellCh b1 [v2, (.int .i64 r_0_p)] 122]) w0 (wpAnyH Tryd.prog .any (opsAt Tryd.f50 [1, 1, 1, 1, 0, 1, 0, 1, 0, 1, 1, 1, 0]) Qd (Mem (gB F [cellCh b1 [v2, (.int .i64 r_0_p)] 122] w0) (feet [cellCh b1 [v2, (.int .i64 r_0_p)] 122]) w0 [cellCh b9 [(.slice a66 l67 q68), (.bool (decide (r7 = 0)))] 25, cellCh b5 [(.slice none 0 0), (.bool false)] 25, snapCh w0 F]) 3 #[true, true, true, true, true, true, true, true, true, true, true, true, true, true, false, false, false]) [(4, (.pointer (some ⟨b5, 0, none⟩))), (5, (.pointer (some ⟨b9, 0, none⟩))), (48, (.slice a66 l67 q68)), (52, v76), (60, v84)] [dpCh dGRule 104 bb85 v84 ([(GRule.mk ([]) 3 e82)]), cellCh b1 [v2, (.int .i64 r81)] 122, holeCh (dSl dGRule 104) 101 bb77 (.slice a66 l67 q68) xs16 (0 : Int).toNat [v76], dpCh dGRule 104 bb78 v76 e74, cellCh b9 [(.slice a66 l67 q68), (.bool (decide (r7 = 0)))] 25, cellCh b5 [(.slice none 0 0), (.bool false)] 25, snapCh w0 F] (appW e74 ([(GRule.mk ([]) 3 e82)]) (fun _ => idxW xs16 0 (fun e89 => k73 ((xs16.set (0 : Int).toNat (e74 ++ ([(GRule.mk ([]) 3 e82)]))), r81)))) := by
                intro e74 h75 v76 bb77 bb78 v79 r80 r81 e82 h83 v84 bb85
                refine pk [3, 0, 1, 2, 4, 5, 6] rfl ?_
                refine d_one (i := 14) rfl (by kernel_rfl) (o_appD rfl rfl rfl el101 rfl zero104 rfl rfl ?_); intro bb87 v86
                refine d_and (fun w m => m.pick [3, 4, 5] rfl) ?_
                refine pk [0, 1, 2, 3, 4, 5] rfl ?_
                refine re (E' := [(4, (.pointer (some ⟨b5, 0, none⟩))), (5, (.pointer (some ⟨b9, 0, none⟩))), (48, (.slice a66 l67 q68)), (61, v86)]) ⟨rfl, rfl, rfl, rfl, trivial⟩ ?_
                exact H452 e74 h75 v76 bb77 bb78 v79 r80 r81 e82 h83 v84 bb85 v86 bb87
              have H454 : ∀ (e74 : (List GRule)) (h75 : xs16[(0 : Int).toNat]? = some e74) (v76 : Value) (bb77 : List Nat) (bb78 : List Nat) (v79 : Value) (r80 : Int) (r81 : Int) (e82 : Int) (h83 : ([0, t13])[(r80).toNat]? = some e82), Nx 80 (gB F [cellCh b1 [v2, (.int .i64 r_0_p)] 122] w0) (feet [cellCh b1 [v2, (.int .i64 r_0_p)] 122]) w0 (wpAnyH Tryd.prog .any (opsAt Tryd.f50 [1, 1, 1, 1, 0, 1, 0, 1, 0, 1, 1, 1, 0]) Qd (Mem (gB F [cellCh b1 [v2, (.int .i64 r_0_p)] 122] w0) (feet [cellCh b1 [v2, (.int .i64 r_0_p)] 122]) w0 [cellCh b9 [(.slice a66 l67 q68), (.bool (decide (r7 = 0)))] 25, cellCh b5 [(.slice none 0 0), (.bool false)] 25, snapCh w0 F]) 5 #[true, true, true, true, true, true, true, true, true, true, true, true, false, false, false, false, false]) [(4, (.pointer (some ⟨b5, 0, none⟩))), (5, (.pointer (some ⟨b9, 0, none⟩))), (48, (.slice a66 l67 q68)), (52, v76), (58, (.int .i64 e82))] [cellCh b1 [v2, (.int .i64 r81)] 122, holeCh (dSl dGRule 104) 101 bb77 (.slice a66 l67 q68) xs16 (0 : Int).toNat [v76], dpCh dGRule 104 bb78 v76 e74, cellCh b9 [(.slice a66 l67 q68), (.bool (decide (r7 = 0)))] 25, cellCh b5 [(.slice none 0 0), (.bool false)] 25, snapCh w0 F] (appW e74 ([(GRule.mk ([]) 3 e82)]) (fun _ => idxW xs16 0 (fun e89 => k73 ((xs16.set (0 : Int).toNat (e74 ++ ([(GRule.mk ([]) 3 e82)]))), r81)))) := by
                intro e74 h75 v76 bb77 bb78 v79 r80 r81 e82 h83
                refine o_bld (dt 12 (fun w m => m.pick [3, 4, 5] rfl)) (qs := [(1, (.int .i64 3)), (2, (.int .i64 e82))]) (cells := [(.slice none 0 0), (.int .i64 3), (.int .i64 e82)]) (by intro ρ h; simp only [List.map_toArray, List.map_cons, List.map_nil, h (.const (.int .i64 3)) _ rfl, h (.tmp 58) _ rfl]) rfl bld104 rfl ?_
                refine d_one (i := 13) rfl (by kernel_rfl) (o_bslD (M := []) (E' := dGRule) (qs := [(0, (.agg #[(.slice none 0 0), (.int .i64 3), (.int .i64 e82)]))]) (cs := [(.slice none 0 0), (.int .i64 3), (.int .i64 e82)]) (GRule.mk ([]) 3 e82) (absorb_nil (fun w => ⟨_, rfl, Dp.nil⟩)) (by intro ρ h; simp only [List.map_toArray, List.map_cons, List.map_nil, h (.tmp 59) _ rfl]) rfl el101 zero104 rfl rfl rfl rfl ?_); intro bb85 v84
                refine d_and (fun w m => m.pick [4, 5, 6] rfl) ?_
                refine pk [0, 1, 2, 3, 4, 5, 6] rfl ?_
                refine re (E' := [(4, (.pointer (some ⟨b5, 0, none⟩))), (5, (.pointer (some ⟨b9, 0, none⟩))), (48, (.slice a66 l67 q68)), (52, v76), (60, v84)]) ⟨rfl, rfl, rfl, rfl, rfl, trivial⟩ ?_
                exact H453 e74 h75 v76 bb77 bb78 v79 r80 r81 e82 h83 v84 bb85
              have H455 : ∀ (e74 : (List GRule)) (h75 : xs16[(0 : Int).toNat]? = some e74) (v76 : Value) (bb77 : List Nat) (bb78 : List Nat) (v79 : Value) (r80 : Int) (r81 : Int) (e82 : Int) (h83 : ([0, t13])[(r80).toNat]? = some e82), Nx 80 (gB F [cellCh b1 [v2, (.int .i64 r_0_p)] 122] w0) (feet [cellCh b1 [v2, (.int .i64 r_0_p)] 122]) w0 (wpAnyH Tryd.prog .any (opsAt Tryd.f50 [1, 1, 1, 1, 0, 1, 0, 1, 0, 1, 1, 1, 0]) Qd (Mem (gB F [cellCh b1 [v2, (.int .i64 r_0_p)] 122] w0) (feet [cellCh b1 [v2, (.int .i64 r_0_p)] 122]) w0 [cellCh b9 [(.slice a66 l67 q68), (.bool (decide (r7 = 0)))] 25, cellCh b5 [(.slice none 0 0), (.bool false)] 25, snapCh w0 F]) 6 #[true, true, true, true, true, true, true, true, true, true, true, false, false, false, false, false, false]) [(4, (.pointer (some ⟨b5, 0, none⟩))), (5, (.pointer (some ⟨b9, 0, none⟩))), (48, (.slice a66 l67 q68)), (52, v76), (57, (pEl v79 r80 1 0))] [cellCh b1 [v2, (.int .i64 r81)] 122, ownCh elInt 3 v79 ([0, t13]), holeCh (dSl dGRule 104) 101 bb77 (.slice a66 l67 q68) xs16 (0 : Int).toNat [v76], dpCh dGRule 104 bb78 v76 e74, cellCh b9 [(.slice a66 l67 q68), (.bool (decide (r7 = 0)))] 25, cellCh b5 [(.slice none 0 0), (.bool false)] 25, snapCh w0 F] (appW e74 ([(GRule.mk ([]) 3 e82)]) (fun _ => idxW xs16 0 (fun e89 => k73 ((xs16.set (0 : Int).toNat (e74 ++ ([(GRule.mk ([]) 3 e82)]))), r81)))) := by
                intro e74 h75 v76 bb77 bb78 v79 r80 r81 e82 h83
                refine d_one (i := 11) rfl (by kernel_rfl) (o_lds m_op (enc := encInt) (u := (.int .i64 e82)) 1 rfl reads_own flelInt rfl h83 rfl rfl ty3 rfl ?_)
                refine d_and (fun w m => m.pick [4, 5, 6] rfl) ?_
                refine pk [0, 2, 3, 4, 5, 6] rfl ?_
                refine re (E' := [(4, (.pointer (some ⟨b5, 0, none⟩))), (5, (.pointer (some ⟨b9, 0, none⟩))), (48, (.slice a66 l67 q68)), (52, v76), (58, (.int .i64 e82))]) ⟨rfl, rfl, rfl, rfl, rfl, trivial⟩ ?_
                exact H454 e74 h75 v76 bb77 bb78 v79 r80 r81 e82 h83
              have H456 : ∀ (e74 : (List GRule)) (h75 : xs16[(0 : Int).toNat]? = some e74) (v76 : Value) (bb77 : List Nat) (bb78 : List Nat) (v79 : Value) (r80 : Int) (r81 : Int), Nx 80 (gB F [cellCh b1 [v2, (.int .i64 r_0_p)] 122] w0) (feet [cellCh b1 [v2, (.int .i64 r_0_p)] 122]) w0 (wpAnyH Tryd.prog .any (opsAt Tryd.f50 [1, 1, 1, 1, 0, 1, 0, 1, 0, 1, 1, 1, 0]) Qd (Mem (gB F [cellCh b1 [v2, (.int .i64 r_0_p)] 122] w0) (feet [cellCh b1 [v2, (.int .i64 r_0_p)] 122]) w0 [cellCh b9 [(.slice a66 l67 q68), (.bool (decide (r7 = 0)))] 25, cellCh b5 [(.slice none 0 0), (.bool false)] 25, snapCh w0 F]) 7 #[true, true, true, true, true, true, true, true, true, true, false, false, false, false, false, false, false]) [(4, (.pointer (some ⟨b5, 0, none⟩))), (5, (.pointer (some ⟨b9, 0, none⟩))), (48, (.slice a66 l67 q68)), (52, v76), (54, v79), (56, (.int .i64 r80))] [cellCh b1 [v2, (.int .i64 r81)] 122, ownCh elInt 3 v79 ([0, t13]), holeCh (dSl dGRule 104) 101 bb77 (.slice a66 l67 q68) xs16 (0 : Int).toNat [v76], dpCh dGRule 104 bb78 v76 e74, cellCh b9 [(.slice a66 l67 q68), (.bool (decide (r7 = 0)))] 25, cellCh b5 [(.slice none 0 0), (.bool false)] 25, snapCh w0 F] (idxW ([0, t13]) r80 (fun e82 => appW e74 ([(GRule.mk ([]) 3 e82)]) (fun _ => idxW xs16 0 (fun e89 => k73 ((xs16.set (0 : Int).toNat (e74 ++ ([(GRule.mk ([]) 3 e82)]))), r81))))) := by
                intro e74 h75 v76 bb77 bb78 v79 r80 r81
                refine d_one (i := 10) rfl (by kernel_rfl) (o_idx m_op 1 rfl reads_own rfl rfl rfl el99 ?_); intro e82 h83
                refine d_and (fun w m => m.pick [4, 5, 6] rfl) ?_
                refine pk [0, 1, 2, 3, 4, 5, 6] rfl ?_
                refine re (E' := [(4, (.pointer (some ⟨b5, 0, none⟩))), (5, (.pointer (some ⟨b9, 0, none⟩))), (48, (.slice a66 l67 q68)), (52, v76), (57, (pEl v79 r80 1 0))]) ⟨rfl, rfl, rfl, rfl, rfl, trivial⟩ ?_
                exact H455 e74 h75 v76 bb77 bb78 v79 r80 r81 e82 h83
              have H457 : ∀ (e74 : (List GRule)) (h75 : xs16[(0 : Int).toNat]? = some e74) (v76 : Value) (bb77 : List Nat) (bb78 : List Nat) (v79 : Value), Nx 80 (gB F [cellCh b1 [v2, (.int .i64 r_0_p)] 122] w0) (feet [cellCh b1 [v2, (.int .i64 r_0_p)] 122]) w0 (wpAnyH Tryd.prog .any (opsAt Tryd.f50 [1, 1, 1, 1, 0, 1, 0, 1, 0, 1, 1, 1, 0]) Qd (Mem (gB F [cellCh b1 [v2, (.int .i64 r_0_p)] 122] w0) (feet [cellCh b1 [v2, (.int .i64 r_0_p)] 122]) w0 [cellCh b9 [(.slice a66 l67 q68), (.bool (decide (r7 = 0)))] 25, cellCh b5 [(.slice none 0 0), (.bool false)] 25, snapCh w0 F]) 8 #[true, true, true, true, true, true, true, true, true, false, false, false, false, false, false, false, false]) [(4, (.pointer (some ⟨b5, 0, none⟩))), (5, (.pointer (some ⟨b9, 0, none⟩))), (48, (.slice a66 l67 q68)), (55, (.pointer (some ⟨b1, 0, none⟩))), (52, v76), (54, v79)] [ownCh elInt 3 v79 ([0, t13]), holeCh (dSl dGRule 104) 101 bb77 (.slice a66 l67 q68) xs16 (0 : Int).toNat [v76], dpCh dGRule 104 bb78 v76 e74, cellCh b1 [v2, (.int .i64 r59)] 122, cellCh b9 [(.slice a66 l67 q68), (.bool (decide (r7 = 0)))] 25, cellCh b5 [(.slice none 0 0), (.bool false)] 25, snapCh w0 F] (L_spec_l20Rd_pick r_0_b r59 2 (fun (r80, r81) => idxW ([0, t13]) r80 (fun e82 => appW e74 ([(GRule.mk ([]) 3 e82)]) (fun _ => idxW xs16 0 (fun e89 => k73 ((xs16.set (0 : Int).toNat (e74 ++ ([(GRule.mk ([]) 3 e82)]))), r81)))))) := by
                intro e74 h75 v76 bb77 bb78 v79
                refine pk [3, 0, 1, 2, 4, 5, 6] rfl ?_
                refine d_one (i := 9) rfl (by kernel_rfl) (o_call (vs := [(.pointer (some ⟨b1, 0, none⟩)), (.int .i64 2)]) (M0 := [cellCh b1 [v2, (.int .i64 r59)] 122]) Tryd.call68 rfl rfl (by intro w m h; exact (w_spec_l20Rd_pick (F := allB [cellCh b1 [v2, (.int .i64 r59)] 122] w) (r_0_b := r_0_b) (r_0_p := r59) (n_1 := 2) allB_ok m.given (m.rdM 5 rfl (reads_snap hv2)) h).mono (fun _ _ k => ret_free (fun r u => (fr_cons free_cell fr_nil)) k)) ?_); rintro ⟨r80, r81⟩ _
                refine d_and (fun w m => m.pick [4, 5, 6] rfl) ?_
                refine pk [0, 1, 2, 3, 4, 5, 6] rfl ?_
                refine re (E' := [(4, (.pointer (some ⟨b5, 0, none⟩))), (5, (.pointer (some ⟨b9, 0, none⟩))), (48, (.slice a66 l67 q68)), (52, v76), (54, v79), (56, (.int .i64 r80))]) ⟨rfl, rfl, rfl, rfl, rfl, rfl, trivial⟩ ?_
                exact H456 e74 h75 v76 bb77 bb78 v79 r80 r81
              have H458 : ∀ (e74 : (List GRule)) (h75 : xs16[(0 : Int).toNat]? = some e74) (v76 : Value) (bb77 : List Nat) (bb78 : List Nat) (r96 : Int) (r97 : Int), Nx 80 (gB F [cellCh b1 [v2, (.int .i64 r_0_p)] 122] w0) (feet [cellCh b1 [v2, (.int .i64 r_0_p)] 122]) w0 (wpAnyH Tryd.prog .any (opsAt Tryd.f50 [1, 1, 1, 1, 0, 1, 0, 1, 0, 1, 1, 1, 0]) Qd (Mem (gB F [cellCh b1 [v2, (.int .i64 r_0_p)] 122] w0) (feet [cellCh b1 [v2, (.int .i64 r_0_p)] 122]) w0 [cellCh b9 [(.slice a66 l67 q68), (.bool (decide (r7 = 0)))] 25, cellCh b5 [(.slice none 0 0), (.bool false)] 25, snapCh w0 F]) 8 #[true, true, true, true, true, true, true, false, true, true, false, false, false, false, false, false, false]) [(4, (.pointer (some ⟨b5, 0, none⟩))), (5, (.pointer (some ⟨b9, 0, none⟩))), (48, (.slice a66 l67 q68)), (53, (.int .i64 t13)), (52, v76), (56, (.int .i64 r96))] [cellCh b1 [v2, (.int .i64 r97)] 122, holeCh (dSl dGRule 104) 101 bb77 (.slice a66 l67 q68) xs16 (0 : Int).toNat [v76], dpCh dGRule 104 bb78 v76 e74, cellCh b9 [(.slice a66 l67 q68), (.bool (decide (r7 = 0)))] 25, cellCh b5 [(.slice none 0 0), (.bool false)] 25, snapCh w0 F] (idxW ([0, t13]) r96 (fun e82 => appW e74 ([(GRule.mk ([]) 3 e82)]) (fun _ => idxW xs16 0 (fun e89 => k73 ((xs16.set (0 : Int).toNat (e74 ++ ([(GRule.mk ([]) 3 e82)]))), r97))))) := by
                intro e74 h75 v76 bb77 bb78 r96 r97
                refine d_one (i := 7) rfl (by kernel_rfl) (o_bsl (enc := encInt) (qs := [(0, (.int .i64 0)), (1, (.int .i64 t13))]) (cells := [(.int .i64 0), (.int .i64 t13)]) ([0, t13]) flelInt (by intro ρ h; simp only [List.map_toArray, List.map_cons, List.map_nil, h (.const (.int .i64 0)) _ rfl, h (.tmp 53) _ rfl]) rfl el99 zero3 rfl rfl rfl rfl rfl rfl ?_); intro v98
                refine d_and (fun w m => m.pick [4, 5, 6] rfl) ?_
                refine pk [1, 0, 2, 3, 4, 5, 6] rfl ?_
                refine re (E' := [(4, (.pointer (some ⟨b5, 0, none⟩))), (5, (.pointer (some ⟨b9, 0, none⟩))), (48, (.slice a66 l67 q68)), (52, v76), (54, v98), (56, (.int .i64 r96))]) ⟨rfl, rfl, rfl, rfl, rfl, rfl, trivial⟩ ?_
                exact H456 e74 h75 v76 bb77 bb78 v98 r96 r97
              have H459 : ∀ (e74 : (List GRule)) (h75 : xs16[(0 : Int).toNat]? = some e74) (v76 : Value) (bb77 : List Nat) (bb78 : List Nat), Nx 80 (gB F [cellCh b1 [v2, (.int .i64 r_0_p)] 122] w0) (feet [cellCh b1 [v2, (.int .i64 r_0_p)] 122]) w0 (wpAnyH Tryd.prog .any (opsAt Tryd.f50 [1, 1, 1, 1, 0, 1, 0, 1, 0, 1, 1, 1, 0]) Qd (Mem (gB F [cellCh b1 [v2, (.int .i64 r_0_p)] 122] w0) (feet [cellCh b1 [v2, (.int .i64 r_0_p)] 122]) w0 [cellCh b9 [(.slice a66 l67 q68), (.bool (decide (r7 = 0)))] 25, cellCh b5 [(.slice none 0 0), (.bool false)] 25, snapCh w0 F]) 9 #[true, true, true, true, true, true, true, false, true, false, false, false, false, false, false, false, false]) [(4, (.pointer (some ⟨b5, 0, none⟩))), (5, (.pointer (some ⟨b9, 0, none⟩))), (48, (.slice a66 l67 q68)), (53, (.int .i64 t13)), (55, (.pointer (some ⟨b1, 0, none⟩))), (52, v76)] [holeCh (dSl dGRule 104) 101 bb77 (.slice a66 l67 q68) xs16 (0 : Int).toNat [v76], dpCh dGRule 104 bb78 v76 e74, cellCh b1 [v2, (.int .i64 r59)] 122, cellCh b9 [(.slice a66 l67 q68), (.bool (decide (r7 = 0)))] 25, cellCh b5 [(.slice none 0 0), (.bool false)] 25, snapCh w0 F] (L_spec_l20Rd_pick r_0_b r59 2 (fun (r80, r81) => idxW ([0, t13]) r80 (fun e82 => appW e74 ([(GRule.mk ([]) 3 e82)]) (fun _ => idxW xs16 0 (fun e89 => k73 ((xs16.set (0 : Int).toNat (e74 ++ ([(GRule.mk ([]) 3 e82)]))), r81)))))) := by
                intro e74 h75 v76 bb77 bb78
                refine d_two (i := 7) (j := 9) rfl rfl (by kernel_rfl) ?_ ?_
                · intro o ho; cases ho
                  refine o_bsl (enc := encInt) (qs := [(0, (.int .i64 0)), (1, (.int .i64 t13))]) (cells := [(.int .i64 0), (.int .i64 t13)]) ([0, t13]) flelInt (by intro ρ h; simp only [List.map_toArray, List.map_cons, List.map_nil, h (.const (.int .i64 0)) _ rfl, h (.tmp 53) _ rfl]) rfl el99 zero3 rfl rfl rfl rfl rfl rfl ?_; intro v79
                  refine d_and (fun w m => m.pick [4, 5, 6] rfl) ?_
                  refine pk [0, 1, 2, 3, 4, 5, 6] rfl ?_
                  refine re (E' := [(4, (.pointer (some ⟨b5, 0, none⟩))), (5, (.pointer (some ⟨b9, 0, none⟩))), (48, (.slice a66 l67 q68)), (55, (.pointer (some ⟨b1, 0, none⟩))), (52, v76), (54, v79)]) ⟨rfl, rfl, rfl, rfl, rfl, rfl, trivial⟩ ?_
                  exact H457 e74 h75 v76 bb77 bb78 v79
                · intro o ho; cases ho
                  refine pk [2, 0, 1, 3, 4, 5] rfl ?_
                  refine o_call (vs := [(.pointer (some ⟨b1, 0, none⟩)), (.int .i64 2)]) (M0 := [cellCh b1 [v2, (.int .i64 r59)] 122]) Tryd.call68 rfl rfl (by intro w m h; exact (w_spec_l20Rd_pick (F := allB [cellCh b1 [v2, (.int .i64 r59)] 122] w) (r_0_b := r_0_b) (r_0_p := r59) (n_1 := 2) allB_ok m.given (m.rdM 4 rfl (reads_snap hv2)) h).mono (fun _ _ k => ret_free (fun r u => (fr_cons free_cell fr_nil)) k)) ?_; rintro ⟨r96, r97⟩ _
                  refine d_and (fun w m => m.pick [3, 4, 5] rfl) ?_
                  refine pk [0, 1, 2, 3, 4, 5] rfl ?_
                  refine re (E' := [(4, (.pointer (some ⟨b5, 0, none⟩))), (5, (.pointer (some ⟨b9, 0, none⟩))), (48, (.slice a66 l67 q68)), (53, (.int .i64 t13)), (52, v76), (56, (.int .i64 r96))]) ⟨rfl, rfl, rfl, rfl, rfl, rfl, trivial⟩ ?_
                  exact H458 e74 h75 v76 bb77 bb78 r96 r97
              have H460 : ∀ (e74 : (List GRule)) (h75 : xs16[(0 : Int).toNat]? = some e74) (v99 : Value) (r103 : Int) (r104 : Int) (e108 : Int) (h109 : ([0, t13])[(r103).toNat]? = some e108) (v113 : Value) (bb114 : List Nat) (bb115 : List Nat), Nx 80 (gB F [cellCh b1 [v2, (.int .i64 r_0_p)] 122] w0) (feet [cellCh b1 [v2, (.int .i64 r_0_p)] 122]) w0 (wpAnyH Tryd.prog .any (opsAt Tryd.f50 [1, 1, 1, 1, 0, 1, 0, 1, 0, 1, 1, 1, 0]) Qd (Mem (gB F [cellCh b1 [v2, (.int .i64 r_0_p)] 122] w0) (feet [cellCh b1 [v2, (.int .i64 r_0_p)] 122]) w0 [cellCh b9 [(.slice a66 l67 q68), (.bool (decide (r7 = 0)))] 25, cellCh b5 [(.slice none 0 0), (.bool false)] 25, snapCh w0 F]) 4 #[true, true, true, true, true, true, true, true, true, true, true, true, true, false, false, false, false]) [(4, (.pointer (some ⟨b5, 0, none⟩))), (5, (.pointer (some ⟨b9, 0, none⟩))), (48, (.slice a66 l67 q68)), (59, (.agg #[(.slice none 0 0), (.int .i64 3), (.int .i64 e108)])), (52, v113)] [holeCh (dSl dGRule 104) 101 bb114 (.slice a66 l67 q68) xs16 (0 : Int).toNat [v113], dpCh dGRule 104 bb115 v113 e74, cellCh b1 [v2, (.int .i64 r104)] 122, cellCh b9 [(.slice a66 l67 q68), (.bool (decide (r7 = 0)))] 25, cellCh b5 [(.slice none 0 0), (.bool false)] 25, snapCh w0 F] (appW e74 ([(GRule.mk ([]) 3 e108)]) (fun _ => idxW xs16 0 (fun e89 => k73 ((xs16.set (0 : Int).toNat (e74 ++ ([(GRule.mk ([]) 3 e108)]))), r104)))) := by
                intro e74 h75 v99 r103 r104 e108 h109 v113 bb114 bb115
                refine d_one (i := 13) rfl (by kernel_rfl) (o_bslD (M := []) (E' := dGRule) (qs := [(0, (.agg #[(.slice none 0 0), (.int .i64 3), (.int .i64 e108)]))]) (cs := [(.slice none 0 0), (.int .i64 3), (.int .i64 e108)]) (GRule.mk ([]) 3 e108) (absorb_nil (fun w => ⟨_, rfl, Dp.nil⟩)) (by intro ρ h; simp only [List.map_toArray, List.map_cons, List.map_nil, h (.tmp 59) _ rfl]) rfl el101 zero104 rfl rfl rfl rfl ?_); intro bb117 v116
                refine d_and (fun w m => m.pick [4, 5, 6] rfl) ?_
                refine pk [0, 3, 1, 2, 4, 5, 6] rfl ?_
                refine re (E' := [(4, (.pointer (some ⟨b5, 0, none⟩))), (5, (.pointer (some ⟨b9, 0, none⟩))), (48, (.slice a66 l67 q68)), (52, v113), (60, v116)]) ⟨rfl, rfl, rfl, rfl, rfl, trivial⟩ ?_
                exact H453 e74 h75 v113 bb114 bb115 v99 r103 r104 e108 h109 v116 bb117
              have H461 : ∀ (e74 : (List GRule)) (h75 : xs16[(0 : Int).toNat]? = some e74) (v99 : Value) (r103 : Int) (r104 : Int) (e108 : Int) (h109 : ([0, t13])[(r103).toNat]? = some e108) (v118 : Value) (bb119 : List Nat), Nx 80 (gB F [cellCh b1 [v2, (.int .i64 r_0_p)] 122] w0) (feet [cellCh b1 [v2, (.int .i64 r_0_p)] 122]) w0 (wpAnyH Tryd.prog .any (opsAt Tryd.f50 [1, 1, 1, 1, 0, 1, 0, 1, 0, 1, 1, 1, 0]) Qd (Mem (gB F [cellCh b1 [v2, (.int .i64 r_0_p)] 122] w0) (feet [cellCh b1 [v2, (.int .i64 r_0_p)] 122]) w0 [cellCh b9 [(.slice a66 l67 q68), (.bool (decide (r7 = 0)))] 25, cellCh b5 [(.slice none 0 0), (.bool false)] 25, snapCh w0 F]) 4 #[true, true, true, true, true, false, true, true, true, true, true, true, true, true, false, false, false]) [(4, (.pointer (some ⟨b5, 0, none⟩))), (5, (.pointer (some ⟨b9, 0, none⟩))), (48, (.slice a66 l67 q68)), (51, (pEl (.slice a66 l67 q68) 0 1 0)), (60, v118)] [dpCh dGRule 104 bb119 v118 ([(GRule.mk ([]) 3 e108)]), cellCh b1 [v2, (.int .i64 r104)] 122, cellCh b9 [(.slice a66 l67 q68), (.bool (decide (r7 = 0)))] 25, cellCh b5 [(.slice none 0 0), (.bool false)] 25, snapCh w0 F, dpCh (dSl dGRule 104) 101 bb18 (.slice a66 l67 q68) xs16] (appW e74 ([(GRule.mk ([]) 3 e108)]) (fun _ => idxW xs16 0 (fun e89 => k73 ((xs16.set (0 : Int).toNat (e74 ++ ([(GRule.mk ([]) 3 e108)]))), r104)))) := by
                intro e74 h75 v99 r103 r104 e108 h109 v118 bb119
                refine pk [5, 0, 1, 2, 3, 4] rfl ?_
                refine d_one (i := 5) rfl (by kernel_rfl) (o_ldF (E1 := dGRule) (t1 := 104) (zin := e74) (encz := fun v => [v]) rfl h75 (fun B w cs h => h) rfl rfl ty101 ?_); rintro v120 bb121 bb122; refine ⟨v120, rfl, ?_⟩
                refine d_and (fun w m => m.pick [4, 5, 6] rfl) ?_
                refine pk [2, 3, 0, 1, 4, 5, 6] rfl ?_
                refine re (E' := [(4, (.pointer (some ⟨b5, 0, none⟩))), (5, (.pointer (some ⟨b9, 0, none⟩))), (48, (.slice a66 l67 q68)), (52, v120), (60, v118)]) ⟨rfl, rfl, rfl, rfl, rfl, trivial⟩ ?_
                exact H453 e74 h75 v120 bb121 bb122 v99 r103 r104 e108 h109 v118 bb119
              have H462 : ∀ (e74 : (List GRule)) (h75 : xs16[(0 : Int).toNat]? = some e74) (v99 : Value) (r103 : Int) (r104 : Int) (e108 : Int) (h109 : ([0, t13])[(r103).toNat]? = some e108), Nx 80 (gB F [cellCh b1 [v2, (.int .i64 r_0_p)] 122] w0) (feet [cellCh b1 [v2, (.int .i64 r_0_p)] 122]) w0 (wpAnyH Tryd.prog .any (opsAt Tryd.f50 [1, 1, 1, 1, 0, 1, 0, 1, 0, 1, 1, 1, 0]) Qd (Mem (gB F [cellCh b1 [v2, (.int .i64 r_0_p)] 122] w0) (feet [cellCh b1 [v2, (.int .i64 r_0_p)] 122]) w0 [cellCh b9 [(.slice a66 l67 q68), (.bool (decide (r7 = 0)))] 25, cellCh b5 [(.slice none 0 0), (.bool false)] 25, snapCh w0 F]) 6 #[true, true, true, true, true, false, true, true, true, true, true, true, false, false, false, false, false]) [(4, (.pointer (some ⟨b5, 0, none⟩))), (5, (.pointer (some ⟨b9, 0, none⟩))), (48, (.slice a66 l67 q68)), (51, (pEl (.slice a66 l67 q68) 0 1 0)), (58, (.int .i64 e108))] [cellCh b1 [v2, (.int .i64 r104)] 122, cellCh b9 [(.slice a66 l67 q68), (.bool (decide (r7 = 0)))] 25, cellCh b5 [(.slice none 0 0), (.bool false)] 25, snapCh w0 F, dpCh (dSl dGRule 104) 101 bb18 (.slice a66 l67 q68) xs16] (appW e74 ([(GRule.mk ([]) 3 e108)]) (fun _ => idxW xs16 0 (fun e89 => k73 ((xs16.set (0 : Int).toNat (e74 ++ ([(GRule.mk ([]) 3 e108)]))), r104)))) := by
                intro e74 h75 v99 r103 r104 e108 h109
                refine o_bld (dt 12 (fun w m => m.pick [1, 2, 3] rfl)) (qs := [(1, (.int .i64 3)), (2, (.int .i64 e108))]) (cells := [(.slice none 0 0), (.int .i64 3), (.int .i64 e108)]) (by intro ρ h; simp only [List.map_toArray, List.map_cons, List.map_nil, h (.const (.int .i64 3)) _ rfl, h (.tmp 58) _ rfl]) rfl bld104 rfl ?_
                refine d_two (i := 5) (j := 13) rfl rfl (by kernel_rfl) ?_ ?_
                · intro o ho; cases ho
                  refine pk [4, 0, 1, 2, 3] rfl ?_
                  refine o_ldF (E1 := dGRule) (t1 := 104) (zin := e74) (encz := fun v => [v]) rfl h75 (fun B w cs h => h) rfl rfl ty101 ?_; rintro v113 bb114 bb115; refine ⟨v113, rfl, ?_⟩
                  refine d_and (fun w m => m.pick [3, 4, 5] rfl) ?_
                  refine pk [0, 1, 2, 3, 4, 5] rfl ?_
                  refine re (E' := [(4, (.pointer (some ⟨b5, 0, none⟩))), (5, (.pointer (some ⟨b9, 0, none⟩))), (48, (.slice a66 l67 q68)), (59, (.agg #[(.slice none 0 0), (.int .i64 3), (.int .i64 e108)])), (52, v113)]) ⟨rfl, rfl, rfl, rfl, rfl, trivial⟩ ?_
                  exact H460 e74 h75 v99 r103 r104 e108 h109 v113 bb114 bb115
                · intro o ho; cases ho
                  refine o_bslD (M := []) (E' := dGRule) (qs := [(0, (.agg #[(.slice none 0 0), (.int .i64 3), (.int .i64 e108)]))]) (cs := [(.slice none 0 0), (.int .i64 3), (.int .i64 e108)]) (GRule.mk ([]) 3 e108) (absorb_nil (fun w => ⟨_, rfl, Dp.nil⟩)) (by intro ρ h; simp only [List.map_toArray, List.map_cons, List.map_nil, h (.tmp 59) _ rfl]) rfl el101 zero104 rfl rfl rfl rfl ?_; intro bb119 v118
                  refine d_and (fun w m => m.pick [2, 3, 4] rfl) ?_
                  refine pk [0, 1, 2, 3, 4, 5] rfl ?_
                  refine re (E' := [(4, (.pointer (some ⟨b5, 0, none⟩))), (5, (.pointer (some ⟨b9, 0, none⟩))), (48, (.slice a66 l67 q68)), (51, (pEl (.slice a66 l67 q68) 0 1 0)), (60, v118)]) ⟨rfl, rfl, rfl, rfl, rfl, trivial⟩ ?_
                  exact H461 e74 h75 v99 r103 r104 e108 h109 v118 bb119
              have H463 : ∀ (e74 : (List GRule)) (h75 : xs16[(0 : Int).toNat]? = some e74) (v99 : Value) (r103 : Int) (r104 : Int) (e108 : Int) (h109 : ([0, t13])[(r103).toNat]? = some e108), Nx 80 (gB F [cellCh b1 [v2, (.int .i64 r_0_p)] 122] w0) (feet [cellCh b1 [v2, (.int .i64 r_0_p)] 122]) w0 (wpAnyH Tryd.prog .any (opsAt Tryd.f50 [1, 1, 1, 1, 0, 1, 0, 1, 0, 1, 1, 1, 0]) Qd (Mem (gB F [cellCh b1 [v2, (.int .i64 r_0_p)] 122] w0) (feet [cellCh b1 [v2, (.int .i64 r_0_p)] 122]) w0 [cellCh b9 [(.slice a66 l67 q68), (.bool (decide (r7 = 0)))] 25, cellCh b5 [(.slice none 0 0), (.bool false)] 25, snapCh w0 F]) 7 #[true, true, true, true, true, false, true, true, true, true, true, false, false, false, false, false, false]) [(4, (.pointer (some ⟨b5, 0, none⟩))), (5, (.pointer (some ⟨b9, 0, none⟩))), (48, (.slice a66 l67 q68)), (51, (pEl (.slice a66 l67 q68) 0 1 0)), (57, (pEl v99 r103 1 0))] [cellCh b1 [v2, (.int .i64 r104)] 122, ownCh elInt 3 v99 ([0, t13]), cellCh b9 [(.slice a66 l67 q68), (.bool (decide (r7 = 0)))] 25, cellCh b5 [(.slice none 0 0), (.bool false)] 25, snapCh w0 F, dpCh (dSl dGRule 104) 101 bb18 (.slice a66 l67 q68) xs16] (appW e74 ([(GRule.mk ([]) 3 e108)]) (fun _ => idxW xs16 0 (fun e89 => k73 ((xs16.set (0 : Int).toNat (e74 ++ ([(GRule.mk ([]) 3 e108)]))), r104)))) := by
                intro e74 h75 v99 r103 r104 e108 h109
                refine d_two (i := 5) (j := 11) rfl rfl (by kernel_rfl) ?_ ?_
                · intro o ho; cases ho
                  refine pk [5, 0, 1, 2, 3, 4] rfl ?_
                  refine o_ldF (E1 := dGRule) (t1 := 104) (zin := e74) (encz := fun v => [v]) rfl h75 (fun B w cs h => h) rfl rfl ty101 ?_; rintro v110 bb111 bb112; refine ⟨v110, rfl, ?_⟩
                  refine d_and (fun w m => m.pick [4, 5, 6] rfl) ?_
                  refine pk [2, 3, 0, 1, 4, 5, 6] rfl ?_
                  refine re (E' := [(4, (.pointer (some ⟨b5, 0, none⟩))), (5, (.pointer (some ⟨b9, 0, none⟩))), (48, (.slice a66 l67 q68)), (52, v110), (57, (pEl v99 r103 1 0))]) ⟨rfl, rfl, rfl, rfl, rfl, trivial⟩ ?_
                  exact H455 e74 h75 v110 bb111 bb112 v99 r103 r104 e108 h109
                · intro o ho; cases ho
                  refine o_lds m_op (enc := encInt) (u := (.int .i64 e108)) 1 rfl reads_own flelInt rfl h109 rfl rfl ty3 rfl ?_
                  refine d_and (fun w m => m.pick [2, 3, 4] rfl) ?_
                  refine pk [0, 2, 3, 4, 5] rfl ?_
                  refine re (E' := [(4, (.pointer (some ⟨b5, 0, none⟩))), (5, (.pointer (some ⟨b9, 0, none⟩))), (48, (.slice a66 l67 q68)), (51, (pEl (.slice a66 l67 q68) 0 1 0)), (58, (.int .i64 e108))]) ⟨rfl, rfl, rfl, rfl, rfl, trivial⟩ ?_
                  exact H462 e74 h75 v99 r103 r104 e108 h109
              have H464 : ∀ (e74 : (List GRule)) (h75 : xs16[(0 : Int).toNat]? = some e74) (v99 : Value) (r103 : Int) (r104 : Int), Nx 80 (gB F [cellCh b1 [v2, (.int .i64 r_0_p)] 122] w0) (feet [cellCh b1 [v2, (.int .i64 r_0_p)] 122]) w0 (wpAnyH Tryd.prog .any (opsAt Tryd.f50 [1, 1, 1, 1, 0, 1, 0, 1, 0, 1, 1, 1, 0]) Qd (Mem (gB F [cellCh b1 [v2, (.int .i64 r_0_p)] 122] w0) (feet [cellCh b1 [v2, (.int .i64 r_0_p)] 122]) w0 [cellCh b9 [(.slice a66 l67 q68), (.bool (decide (r7 = 0)))] 25, cellCh b5 [(.slice none 0 0), (.bool false)] 25, snapCh w0 F]) 8 #[true, true, true, true, true, false, true, true, true, true, false, false, false, false, false, false, false]) [(4, (.pointer (some ⟨b5, 0, none⟩))), (5, (.pointer (some ⟨b9, 0, none⟩))), (48, (.slice a66 l67 q68)), (51, (pEl (.slice a66 l67 q68) 0 1 0)), (54, v99), (56, (.int .i64 r103))] [cellCh b1 [v2, (.int .i64 r104)] 122, ownCh elInt 3 v99 ([0, t13]), cellCh b9 [(.slice a66 l67 q68), (.bool (decide (r7 = 0)))] 25, cellCh b5 [(.slice none 0 0), (.bool false)] 25, snapCh w0 F, dpCh (dSl dGRule 104) 101 bb18 (.slice a66 l67 q68) xs16] (idxW ([0, t13]) r103 (fun e82 => appW e74 ([(GRule.mk ([]) 3 e82)]) (fun _ => idxW xs16 0 (fun e89 => k73 ((xs16.set (0 : Int).toNat (e74 ++ ([(GRule.mk ([]) 3 e82)]))), r104))))) := by
                intro e74 h75 v99 r103 r104
                refine d_two (i := 5) (j := 10) rfl rfl (by kernel_rfl) ?_ ?_
                · intro o ho; cases ho
                  refine pk [5, 0, 1, 2, 3, 4] rfl ?_
                  refine o_ldF (E1 := dGRule) (t1 := 104) (zin := e74) (encz := fun v => [v]) rfl h75 (fun B w cs h => h) rfl rfl ty101 ?_; rintro v105 bb106 bb107; refine ⟨v105, rfl, ?_⟩
                  refine d_and (fun w m => m.pick [4, 5, 6] rfl) ?_
                  refine pk [2, 3, 0, 1, 4, 5, 6] rfl ?_
                  refine re (E' := [(4, (.pointer (some ⟨b5, 0, none⟩))), (5, (.pointer (some ⟨b9, 0, none⟩))), (48, (.slice a66 l67 q68)), (52, v105), (54, v99), (56, (.int .i64 r103))]) ⟨rfl, rfl, rfl, rfl, rfl, rfl, trivial⟩ ?_
                  exact H456 e74 h75 v105 bb106 bb107 v99 r103 r104
                · intro o ho; cases ho
                  refine o_idx m_op 1 rfl reads_own rfl rfl rfl el99 ?_; intro e108 h109
                  refine d_and (fun w m => m.pick [2, 3, 4] rfl) ?_
                  refine pk [0, 1, 2, 3, 4, 5] rfl ?_
                  refine re (E' := [(4, (.pointer (some ⟨b5, 0, none⟩))), (5, (.pointer (some ⟨b9, 0, none⟩))), (48, (.slice a66 l67 q68)), (51, (pEl (.slice a66 l67 q68) 0 1 0)), (57, (pEl v99 r103 1 0))]) ⟨rfl, rfl, rfl, rfl, rfl, trivial⟩ ?_
                  exact H463 e74 h75 v99 r103 r104 e108 h109
              have H465 : ∀ (e74 : (List GRule)) (h75 : xs16[(0 : Int).toNat]? = some e74) (v99 : Value), Nx 80 (gB F [cellCh b1 [v2, (.int .i64 r_0_p)] 122] w0) (feet [cellCh b1 [v2, (.int .i64 r_0_p)] 122]) w0 (wpAnyH Tryd.prog .any (opsAt Tryd.f50 [1, 1, 1, 1, 0, 1, 0, 1, 0, 1, 1, 1, 0]) Qd (Mem (gB F [cellCh b1 [v2, (.int .i64 r_0_p)] 122] w0) (feet [cellCh b1 [v2, (.int .i64 r_0_p)] 122]) w0 [cellCh b9 [(.slice a66 l67 q68), (.bool (decide (r7 = 0)))] 25, cellCh b5 [(.slice none 0 0), (.bool false)] 25, snapCh w0 F]) 9 #[true, true, true, true, true, false, true, true, true, false, false, false, false, false, false, false, false]) [(4, (.pointer (some ⟨b5, 0, none⟩))), (5, (.pointer (some ⟨b9, 0, none⟩))), (48, (.slice a66 l67 q68)), (55, (.pointer (some ⟨b1, 0, none⟩))), (51, (pEl (.slice a66 l67 q68) 0 1 0)), (54, v99)] [ownCh elInt 3 v99 ([0, t13]), cellCh b1 [v2, (.int .i64 r59)] 122, cellCh b9 [(.slice a66 l67 q68), (.bool (decide (r7 = 0)))] 25, cellCh b5 [(.slice none 0 0), (.bool false)] 25, snapCh w0 F, dpCh (dSl dGRule 104) 101 bb18 (.slice a66 l67 q68) xs16] (L_spec_l20Rd_pick r_0_b r59 2 (fun (r80, r81) => idxW ([0, t13]) r80 (fun e82 => appW e74 ([(GRule.mk ([]) 3 e82)]) (fun _ => idxW xs16 0 (fun e89 => k73 ((xs16.set (0 : Int).toNat (e74 ++ ([(GRule.mk ([]) 3 e82)]))), r81)))))) := by
                intro e74 h75 v99
                refine d_two (i := 5) (j := 9) rfl rfl (by kernel_rfl) ?_ ?_
                · intro o ho; cases ho
                  refine pk [5, 0, 1, 2, 3, 4] rfl ?_
                  refine o_ldF (E1 := dGRule) (t1 := 104) (zin := e74) (encz := fun v => [v]) rfl h75 (fun B w cs h => h) rfl rfl ty101 ?_; rintro v100 bb101 bb102; refine ⟨v100, rfl, ?_⟩
                  refine d_and (fun w m => m.pick [4, 5, 6] rfl) ?_
                  refine pk [2, 0, 1, 3, 4, 5, 6] rfl ?_
                  refine re (E' := [(4, (.pointer (some ⟨b5, 0, none⟩))), (5, (.pointer (some ⟨b9, 0, none⟩))), (48, (.slice a66 l67 q68)), (55, (.pointer (some ⟨b1, 0, none⟩))), (52, v100), (54, v99)]) ⟨rfl, rfl, rfl, rfl, rfl, rfl, trivial⟩ ?_
                  exact H457 e74 h75 v100 bb101 bb102 v99
                · intro o ho; cases ho
                  refine pk [1, 0, 2, 3, 4, 5] rfl ?_
                  refine o_call (vs := [(.pointer (some ⟨b1, 0, none⟩)), (.int .i64 2)]) (M0 := [cellCh b1 [v2, (.int .i64 r59)] 122]) Tryd.call68 rfl rfl (by intro w m h; exact (w_spec_l20Rd_pick (F := allB [cellCh b1 [v2, (.int .i64 r59)] 122] w) (r_0_b := r_0_b) (r_0_p := r59) (n_1 := 2) allB_ok m.given (m.rdM 3 rfl (reads_snap hv2)) h).mono (fun _ _ k => ret_free (fun r u => (fr_cons free_cell fr_nil)) k)) ?_; rintro ⟨r103, r104⟩ _
                  refine d_and (fun w m => m.pick [2, 3, 4] rfl) ?_
                  refine pk [0, 1, 2, 3, 4, 5] rfl ?_
                  refine re (E' := [(4, (.pointer (some ⟨b5, 0, none⟩))), (5, (.pointer (some ⟨b9, 0, none⟩))), (48, (.slice a66 l67 q68)), (51, (pEl (.slice a66 l67 q68) 0 1 0)), (54, v99), (56, (.int .i64 r103))]) ⟨rfl, rfl, rfl, rfl, rfl, rfl, trivial⟩ ?_
                  exact H464 e74 h75 v99 r103 r104
              have H466 : ∀ (e74 : (List GRule)) (h75 : xs16[(0 : Int).toNat]? = some e74) (r123 : Int) (r124 : Int), Nx 80 (gB F [cellCh b1 [v2, (.int .i64 r_0_p)] 122] w0) (feet [cellCh b1 [v2, (.int .i64 r_0_p)] 122]) w0 (wpAnyH Tryd.prog .any (opsAt Tryd.f50 [1, 1, 1, 1, 0, 1, 0, 1, 0, 1, 1, 1, 0]) Qd (Mem (gB F [cellCh b1 [v2, (.int .i64 r_0_p)] 122] w0) (feet [cellCh b1 [v2, (.int .i64 r_0_p)] 122]) w0 [cellCh b9 [(.slice a66 l67 q68), (.bool (decide (r7 = 0)))] 25, cellCh b5 [(.slice none 0 0), (.bool false)] 25, snapCh w0 F]) 9 #[true, true, true, true, true, false, true, false, true, true, false, false, false, false, false, false, false]) [(4, (.pointer (some ⟨b5, 0, none⟩))), (5, (.pointer (some ⟨b9, 0, none⟩))), (48, (.slice a66 l67 q68)), (53, (.int .i64 t13)), (51, (pEl (.slice a66 l67 q68) 0 1 0)), (56, (.int .i64 r123))] [cellCh b1 [v2, (.int .i64 r124)] 122, cellCh b9 [(.slice a66 l67 q68), (.bool (decide (r7 = 0)))] 25, cellCh b5 [(.slice none 0 0), (.bool false)] 25, snapCh w0 F, dpCh (dSl dGRule 104) 101 bb18 (.slice a66 l67 q68) xs16] (idxW ([0, t13]) r123 (fun e82 => appW e74 ([(GRule.mk ([]) 3 e82)]) (fun _ => idxW xs16 0 (fun e89 => k73 ((xs16.set (0 : Int).toNat (e74 ++ ([(GRule.mk ([]) 3 e82)]))), r124))))) := by
                intro e74 h75 r123 r124
                refine d_two (i := 5) (j := 7) rfl rfl (by kernel_rfl) ?_ ?_
                · intro o ho; cases ho
                  refine pk [4, 0, 1, 2, 3] rfl ?_
                  refine o_ldF (E1 := dGRule) (t1 := 104) (zin := e74) (encz := fun v => [v]) rfl h75 (fun B w cs h => h) rfl rfl ty101 ?_; rintro v125 bb126 bb127; refine ⟨v125, rfl, ?_⟩
                  refine d_and (fun w m => m.pick [3, 4, 5] rfl) ?_
                  refine pk [2, 0, 1, 3, 4, 5] rfl ?_
                  refine re (E' := [(4, (.pointer (some ⟨b5, 0, none⟩))), (5, (.pointer (some ⟨b9, 0, none⟩))), (48, (.slice a66 l67 q68)), (53, (.int .i64 t13)), (52, v125), (56, (.int .i64 r123))]) ⟨rfl, rfl, rfl, rfl, rfl, rfl, trivial⟩ ?_
                  exact H458 e74 h75 v125 bb126 bb127 r123 r124
                · intro o ho; cases ho
                  refine o_bsl (enc := encInt) (qs := [(0, (.int .i64 0)), (1, (.int .i64 t13))]) (cells := [(.int .i64 0), (.int .i64 t13)]) ([0, t13]) flelInt (by intro ρ h; simp only [List.map_toArray, List.map_cons, List.map_nil, h (.const (.int .i64 0)) _ rfl, h (.tmp 53) _ rfl]) rfl el99 zero3 rfl rfl rfl rfl rfl rfl ?_; intro v128
                  refine d_and (fun w m => m.pick [2, 3, 4] rfl) ?_
                  refine pk [1, 0, 2, 3, 4, 5] rfl ?_
                  refine re (E' := [(4, (.pointer (some ⟨b5, 0, none⟩))), (5, (.pointer (some ⟨b9, 0, none⟩))), (48, (.slice a66 l67 q68)), (51, (pEl (.slice a66 l67 q68) 0 1 0)), (54, v128), (56, (.int .i64 r123))]) ⟨rfl, rfl, rfl, rfl, rfl, rfl, trivial⟩ ?_
                  exact H464 e74 h75 v128 r123 r124
              have H467 : ∀ (e74 : (List GRule)) (h75 : xs16[(0 : Int).toNat]? = some e74), Nx 80 (gB F [cellCh b1 [v2, (.int .i64 r_0_p)] 122] w0) (feet [cellCh b1 [v2, (.int .i64 r_0_p)] 122]) w0 (wpAnyH Tryd.prog .any (opsAt Tryd.f50 [1, 1, 1, 1, 0, 1, 0, 1, 0, 1, 1, 1, 0]) Qd (Mem (gB F [cellCh b1 [v2, (.int .i64 r_0_p)] 122] w0) (feet [cellCh b1 [v2, (.int .i64 r_0_p)] 122]) w0 [cellCh b9 [(.slice a66 l67 q68), (.bool (decide (r7 = 0)))] 25, cellCh b5 [(.slice none 0 0), (.bool false)] 25, snapCh w0 F]) 10 #[true, true, true, true, true, false, true, false, true, false, false, false, false, false, false, false, false]) [(4, (.pointer (some ⟨b5, 0, none⟩))), (5, (.pointer (some ⟨b9, 0, none⟩))), (48, (.slice a66 l67 q68)), (53, (.int .i64 t13)), (55, (.pointer (some ⟨b1, 0, none⟩))), (51, (pEl (.slice a66 l67 q68) 0 1 0))] [cellCh b1 [v2, (.int .i64 r59)] 122, cellCh b9 [(.slice a66 l67 q68), (.bool (decide (r7 = 0)))] 25, cellCh b5 [(.slice none 0 0), (.bool false)] 25, snapCh w0 F, dpCh (dSl dGRule 104) 101 bb18 (.slice a66 l67 q68) xs16] (L_spec_l20Rd_pick r_0_b r59 2 (fun (r80, r81) => idxW ([0, t13]) r80 (fun e82 => appW e74 ([(GRule.mk ([]) 3 e82)]) (fun _ => idxW xs16 0 (fun e89 => k73 ((xs16.set (0 : Int).toNat (e74 ++ ([(GRule.mk ([]) 3 e82)]))), r81)))))) := by
                intro e74 h75
                refine d_three (i := 5) (j := 7) (l := 9) rfl rfl rfl (by kernel_rfl) ?_ ?_ ?_
                · intro o ho; cases ho
                  refine pk [4, 0, 1, 2, 3] rfl ?_
                  refine o_ldF (E1 := dGRule) (t1 := 104) (zin := e74) (encz := fun v => [v]) rfl h75 (fun B w cs h => h) rfl rfl ty101 ?_; rintro v76 bb77 bb78; refine ⟨v76, rfl, ?_⟩
                  refine d_and (fun w m => m.pick [3, 4, 5] rfl) ?_
                  refine pk [0, 1, 2, 3, 4, 5] rfl ?_
                  refine re (E' := [(4, (.pointer (some ⟨b5, 0, none⟩))), (5, (.pointer (some ⟨b9, 0, none⟩))), (48, (.slice a66 l67 q68)), (53, (.int .i64 t13)), (55, (.pointer (some ⟨b1, 0, none⟩))), (52, v76)]) ⟨rfl, rfl, rfl, rfl, rfl, rfl, trivial⟩ ?_
                  exact H459 e74 h75 v76 bb77 bb78
                · intro o ho; cases ho
                  refine o_bsl (enc := encInt) (qs := [(0, (.int .i64 0)), (1, (.int .i64 t13))]) (cells := [(.int .i64 0), (.int .i64 t13)]) ([0, t13]) flelInt (by intro ρ h; simp only [List.map_toArray, List.map_cons, List.map_nil, h (.const (.int .i64 0)) _ rfl, h (.tmp 53) _ rfl]) rfl el99 zero3 rfl rfl rfl rfl rfl rfl ?_; intro v99
                  refine d_and (fun w m => m.pick [2, 3, 4] rfl) ?_
                  refine pk [0, 1, 2, 3, 4, 5] rfl ?_
                  refine re (E' := [(4, (.pointer (some ⟨b5, 0, none⟩))), (5, (.pointer (some ⟨b9, 0, none⟩))), (48, (.slice a66 l67 q68)), (55, (.pointer (some ⟨b1, 0, none⟩))), (51, (pEl (.slice a66 l67 q68) 0 1 0)), (54, v99)]) ⟨rfl, rfl, rfl, rfl, rfl, rfl, trivial⟩ ?_
                  exact H465 e74 h75 v99
                · intro o ho; cases ho
                  refine o_call (vs := [(.pointer (some ⟨b1, 0, none⟩)), (.int .i64 2)]) (M0 := [cellCh b1 [v2, (.int .i64 r59)] 122]) Tryd.call68 rfl rfl (by intro w m h; exact (w_spec_l20Rd_pick (F := allB [cellCh b1 [v2, (.int .i64 r59)] 122] w) (r_0_b := r_0_b) (r_0_p := r59) (n_1 := 2) allB_ok m.given (m.rdM 2 rfl (reads_snap hv2)) h).mono (fun _ _ k => ret_free (fun r u => (fr_cons free_cell fr_nil)) k)) ?_; rintro ⟨r123, r124⟩ _
                  refine d_and (fun w m => m.pick [1, 2, 3] rfl) ?_
                  refine pk [0, 1, 2, 3, 4] rfl ?_
                  refine re (E' := [(4, (.pointer (some ⟨b5, 0, none⟩))), (5, (.pointer (some ⟨b9, 0, none⟩))), (48, (.slice a66 l67 q68)), (53, (.int .i64 t13)), (51, (pEl (.slice a66 l67 q68) 0 1 0)), (56, (.int .i64 r123))]) ⟨rfl, rfl, rfl, rfl, rfl, rfl, trivial⟩ ?_
                  exact H466 e74 h75 r123 r124
              have H468 : ∀ (v129 : Value) (r132 : Int) (r133 : Int) (e136 : Int) (h137 : ([0, t13])[(r132).toNat]? = some e136) (e140 : (List GRule)) (h141 : xs16[(0 : Int).toNat]? = some e140), Nx 80 (gB F [cellCh b1 [v2, (.int .i64 r_0_p)] 122] w0) (feet [cellCh b1 [v2, (.int .i64 r_0_p)] 122]) w0 (wpAnyH Tryd.prog .any (opsAt Tryd.f50 [1, 1, 1, 1, 0, 1, 0, 1, 0, 1, 1, 1, 0]) Qd (Mem (gB F [cellCh b1 [v2, (.int .i64 r_0_p)] 122] w0) (feet [cellCh b1 [v2, (.int .i64 r_0_p)] 122]) w0 [cellCh b9 [(.slice a66 l67 q68), (.bool (decide (r7 = 0)))] 25, cellCh b5 [(.slice none 0 0), (.bool false)] 25, snapCh w0 F]) 5 #[true, true, true, true, true, false, true, true, true, true, true, true, true, false, false, false, false]) [(4, (.pointer (some ⟨b5, 0, none⟩))), (5, (.pointer (some ⟨b9, 0, none⟩))), (48, (.slice a66 l67 q68)), (59, (.agg #[(.slice none 0 0), (.int .i64 3), (.int .i64 e136)])), (51, (pEl (.slice a66 l67 q68) 0 1 0))] [cellCh b1 [v2, (.int .i64 r133)] 122, cellCh b9 [(.slice a66 l67 q68), (.bool (decide (r7 = 0)))] 25, cellCh b5 [(.slice none 0 0), (.bool false)] 25, snapCh w0 F, dpCh (dSl dGRule 104) 101 bb18 (.slice a66 l67 q68) xs16] (appW e140 ([(GRule.mk ([]) 3 e136)]) (fun _ => idxW xs16 0 (fun e89 => k73 ((xs16.set (0 : Int).toNat (e140 ++ ([(GRule.mk ([]) 3 e136)]))), r133)))) := by
                intro v129 r132 r133 e136 h137 e140 h141
                refine d_two (i := 5) (j := 13) rfl rfl (by kernel_rfl) ?_ ?_
                · intro o ho; cases ho
                  refine pk [4, 0, 1, 2, 3] rfl ?_
                  refine o_ldF (E1 := dGRule) (t1 := 104) (zin := e140) (encz := fun v => [v]) rfl h141 (fun B w cs h => h) rfl rfl ty101 ?_; rintro v142 bb143 bb144; refine ⟨v142, rfl, ?_⟩
                  refine d_and (fun w m => m.pick [3, 4, 5] rfl) ?_
                  refine pk [0, 1, 2, 3, 4, 5] rfl ?_
                  refine re (E' := [(4, (.pointer (some ⟨b5, 0, none⟩))), (5, (.pointer (some ⟨b9, 0, none⟩))), (48, (.slice a66 l67 q68)), (59, (.agg #[(.slice none 0 0), (.int .i64 3), (.int .i64 e136)])), (52, v142)]) ⟨rfl, rfl, rfl, rfl, rfl, trivial⟩ ?_
                  exact H460 e140 h141 v129 r132 r133 e136 h137 v142 bb143 bb144
                · intro o ho; cases ho
                  refine o_bslD (M := []) (E' := dGRule) (qs := [(0, (.agg #[(.slice none 0 0), (.int .i64 3), (.int .i64 e136)]))]) (cs := [(.slice none 0 0), (.int .i64 3), (.int .i64 e136)]) (GRule.mk ([]) 3 e136) (absorb_nil (fun w => ⟨_, rfl, Dp.nil⟩)) (by intro ρ h; simp only [List.map_toArray, List.map_cons, List.map_nil, h (.tmp 59) _ rfl]) rfl el101 zero104 rfl rfl rfl rfl ?_; intro bb146 v145
                  refine d_and (fun w m => m.pick [2, 3, 4] rfl) ?_
                  refine pk [0, 1, 2, 3, 4, 5] rfl ?_
                  refine re (E' := [(4, (.pointer (some ⟨b5, 0, none⟩))), (5, (.pointer (some ⟨b9, 0, none⟩))), (48, (.slice a66 l67 q68)), (51, (pEl (.slice a66 l67 q68) 0 1 0)), (60, v145)]) ⟨rfl, rfl, rfl, rfl, rfl, trivial⟩ ?_
                  exact H461 e140 h141 v129 r132 r133 e136 h137 v145 bb146
              have H469 : ∀ (v129 : Value) (r132 : Int) (r133 : Int) (e136 : Int) (h137 : ([0, t13])[(r132).toNat]? = some e136) (v147 : Value) (bb148 : List Nat), Nx 80 (gB F [cellCh b1 [v2, (.int .i64 r_0_p)] 122] w0) (feet [cellCh b1 [v2, (.int .i64 r_0_p)] 122]) w0 (wpAnyH Tryd.prog .any (opsAt Tryd.f50 [1, 1, 1, 1, 0, 1, 0, 1, 0, 1, 1, 1, 0]) Qd (Mem (gB F [cellCh b1 [v2, (.int .i64 r_0_p)] 122] w0) (feet [cellCh b1 [v2, (.int .i64 r_0_p)] 122]) w0 [cellCh b9 [(.slice a66 l67 q68), (.bool (decide (r7 = 0)))] 25, cellCh b5 [(.slice none 0 0), (.bool false)] 25, snapCh w0 F]) 5 #[true, true, true, true, false, false, true, true, true, true, true, true, true, true, false, false, false]) [(4, (.pointer (some ⟨b5, 0, none⟩))), (5, (.pointer (some ⟨b9, 0, none⟩))), (48, (.slice a66 l67 q68)), (50, (.slice a66 l67 q68)), (60, v147)] [dpCh dGRule 104 bb148 v147 ([(GRule.mk ([]) 3 e136)]), cellCh b1 [v2, (.int .i64 r133)] 122, cellCh b9 [(.slice a66 l67 q68), (.bool (decide (r7 = 0)))] 25, cellCh b5 [(.slice none 0 0), (.bool false)] 25, snapCh w0 F, dpCh (dSl dGRule 104) 101 bb18 (.slice a66 l67 q68) xs16] (idxW xs16 0 (fun e149 => appW e149 ([(GRule.mk ([]) 3 e136)]) (fun _ => idxW xs16 0 (fun e89 => k73 ((xs16.set (0 : Int).toNat (e149 ++ ([(GRule.mk ([]) 3 e136)]))), r133))))) := by
                intro v129 r132 r133 e136 h137 v147 bb148
                refine d_one (i := 4) rfl (by kernel_rfl) (o_idx m_op 5 rfl reads_dp rfl rfl rfl el23 ?_); intro e149 h150
                refine d_and (fun w m => m.pick [2, 3, 4] rfl) ?_
                refine pk [0, 1, 2, 3, 4, 5] rfl ?_
                refine re (E' := [(4, (.pointer (some ⟨b5, 0, none⟩))), (5, (.pointer (some ⟨b9, 0, none⟩))), (48, (.slice a66 l67 q68)), (51, (pEl (.slice a66 l67 q68) 0 1 0)), (60, v147)]) ⟨rfl, rfl, rfl, rfl, rfl, trivial⟩ ?_
                exact H461 e149 h150 v129 r132 r133 e136 h137 v147 bb148
              have H470 : ∀ (v129 : Value) (r132 : Int) (r133 : Int) (e136 : Int) (h137 : ([0, t13])[(r132).toNat]? = some e136), Nx 80 (gB F [cellCh b1 [v2, (.int .i64 r_0_p)] 122] w0) (feet [cellCh b1 [v2, (.int .i64 r_0_p)] 122]) w0 (wpAnyH Tryd.prog .any (opsAt Tryd.f50 [1, 1, 1, 1, 0, 1, 0, 1, 0, 1, 1, 1, 0]) Qd (Mem (gB F [cellCh b1 [v2, (.int .i64 r_0_p)] 122] w0) (feet [cellCh b1 [v2, (.int .i64 r_0_p)] 122]) w0 [cellCh b9 [(.slice a66 l67 q68), (.bool (decide (r7 = 0)))] 25, cellCh b5 [(.slice none 0 0), (.bool false)] 25, snapCh w0 F]) 7 #[true, true, true, true, false, false, true, true, true, true, true, true, false, false, false, false, false]) [(4, (.pointer (some ⟨b5, 0, none⟩))), (5, (.pointer (some ⟨b9, 0, none⟩))), (48, (.slice a66 l67 q68)), (50, (.slice a66 l67 q68)), (58, (.int .i64 e136))] [cellCh b1 [v2, (.int .i64 r133)] 122, cellCh b9 [(.slice a66 l67 q68), (.bool (decide (r7 = 0)))] 25, cellCh b5 [(.slice none 0 0), (.bool false)] 25, snapCh w0 F, dpCh (dSl dGRule 104) 101 bb18 (.slice a66 l67 q68) xs16] (idxW xs16 0 (fun e140 => appW e140 ([(GRule.mk ([]) 3 e136)]) (fun _ => idxW xs16 0 (fun e89 => k73 ((xs16.set (0 : Int).toNat (e140 ++ ([(GRule.mk ([]) 3 e136)]))), r133))))) := by
                intro v129 r132 r133 e136 h137
                refine o_bld (dt 12 (fun w m => m.pick [1, 2, 3] rfl)) (qs := [(1, (.int .i64 3)), (2, (.int .i64 e136))]) (cells := [(.slice none 0 0), (.int .i64 3), (.int .i64 e136)]) (by intro ρ h; simp only [List.map_toArray, List.map_cons, List.map_nil, h (.const (.int .i64 3)) _ rfl, h (.tmp 58) _ rfl]) rfl bld104 rfl ?_
                refine d_two (i := 4) (j := 13) rfl rfl (by kernel_rfl) ?_ ?_
                · intro o ho; cases ho
                  refine o_idx m_op 4 rfl reads_dp rfl rfl rfl el23 ?_; intro e140 h141
                  refine d_and (fun w m => m.pick [1, 2, 3] rfl) ?_
                  refine pk [0, 1, 2, 3, 4] rfl ?_
                  refine re (E' := [(4, (.pointer (some ⟨b5, 0, none⟩))), (5, (.pointer (some ⟨b9, 0, none⟩))), (48, (.slice a66 l67 q68)), (59, (.agg #[(.slice none 0 0), (.int .i64 3), (.int .i64 e136)])), (51, (pEl (.slice a66 l67 q68) 0 1 0))]) ⟨rfl, rfl, rfl, rfl, rfl, trivial⟩ ?_
                  exact H468 v129 r132 r133 e136 h137 e140 h141
                · intro o ho; cases ho
                  refine o_bslD (M := []) (E' := dGRule) (qs := [(0, (.agg #[(.slice none 0 0), (.int .i64 3), (.int .i64 e136)]))]) (cs := [(.slice none 0 0), (.int .i64 3), (.int .i64 e136)]) (GRule.mk ([]) 3 e136) (absorb_nil (fun w => ⟨_, rfl, Dp.nil⟩)) (by intro ρ h; simp only [List.map_toArray, List.map_cons, List.map_nil, h (.tmp 59) _ rfl]) rfl el101 zero104 rfl rfl rfl rfl ?_; intro bb148 v147
                  refine d_and (fun w m => m.pick [2, 3, 4] rfl) ?_
                  refine pk [0, 1, 2, 3, 4, 5] rfl ?_
                  refine re (E' := [(4, (.pointer (some ⟨b5, 0, none⟩))), (5, (.pointer (some ⟨b9, 0, none⟩))), (48, (.slice a66 l67 q68)), (50, (.slice a66 l67 q68)), (60, v147)]) ⟨rfl, rfl, rfl, rfl, rfl, trivial⟩ ?_
                  exact H469 v129 r132 r133 e136 h137 v147 bb148
              have H471 : ∀ (v129 : Value) (r132 : Int) (r133 : Int) (e136 : Int) (h137 : ([0, t13])[(r132).toNat]? = some e136), Nx 80 (gB F [cellCh b1 [v2, (.int .i64 r_0_p)] 122] w0) (feet [cellCh b1 [v2, (.int .i64 r_0_p)] 122]) w0 (wpAnyH Tryd.prog .any (opsAt Tryd.f50 [1, 1, 1, 1, 0, 1, 0, 1, 0, 1, 1, 1, 0]) Qd (Mem (gB F [cellCh b1 [v2, (.int .i64 r_0_p)] 122] w0) (feet [cellCh b1 [v2, (.int .i64 r_0_p)] 122]) w0 [cellCh b9 [(.slice a66 l67 q68), (.bool (decide (r7 = 0)))] 25, cellCh b5 [(.slice none 0 0), (.bool false)] 25, snapCh w0 F]) 8 #[true, true, true, true, false, false, true, true, true, true, true, false, false, false, false, false, false]) [(4, (.pointer (some ⟨b5, 0, none⟩))), (5, (.pointer (some ⟨b9, 0, none⟩))), (48, (.slice a66 l67 q68)), (50, (.slice a66 l67 q68)), (57, (pEl v129 r132 1 0))] [cellCh b1 [v2, (.int .i64 r133)] 122, ownCh elInt 3 v129 ([0, t13]), cellCh b9 [(.slice a66 l67 q68), (.bool (decide (r7 = 0)))] 25, cellCh b5 [(.slice none 0 0), (.bool false)] 25, snapCh w0 F, dpCh (dSl dGRule 104) 101 bb18 (.slice a66 l67 q68) xs16] (idxW xs16 0 (fun e138 => appW e138 ([(GRule.mk ([]) 3 e136)]) (fun _ => idxW xs16 0 (fun e89 => k73 ((xs16.set (0 : Int).toNat (e138 ++ ([(GRule.mk ([]) 3 e136)]))), r133))))) := by
                intro v129 r132 r133 e136 h137
                refine d_two (i := 4) (j := 11) rfl rfl (by kernel_rfl) ?_ ?_
                · intro o ho; cases ho
                  refine o_idx m_op 5 rfl reads_dp rfl rfl rfl el23 ?_; intro e138 h139
                  refine d_and (fun w m => m.pick [2, 3, 4] rfl) ?_
                  refine pk [0, 1, 2, 3, 4, 5] rfl ?_
                  refine re (E' := [(4, (.pointer (some ⟨b5, 0, none⟩))), (5, (.pointer (some ⟨b9, 0, none⟩))), (48, (.slice a66 l67 q68)), (51, (pEl (.slice a66 l67 q68) 0 1 0)), (57, (pEl v129 r132 1 0))]) ⟨rfl, rfl, rfl, rfl, rfl, trivial⟩ ?_
                  exact H463 e138 h139 v129 r132 r133 e136 h137
                · intro o ho; cases ho
                  refine o_lds m_op (enc := encInt) (u := (.int .i64 e136)) 1 rfl reads_own flelInt rfl h137 rfl rfl ty3 rfl ?_
                  refine d_and (fun w m => m.pick [2, 3, 4] rfl) ?_
                  refine pk [0, 2, 3, 4, 5] rfl ?_
                  refine re (E' := [(4, (.pointer (some ⟨b5, 0, none⟩))), (5, (.pointer (some ⟨b9, 0, none⟩))), (48, (.slice a66 l67 q68)), (50, (.slice a66 l67 q68)), (58, (.int .i64 e136))]) ⟨rfl, rfl, rfl, rfl, rfl, trivial⟩ ?_
                  exact H470 v129 r132 r133 e136 h137
              have H472 : ∀ (v129 : Value) (r132 : Int) (r133 : Int), Nx 80 (gB F [cellCh b1 [v2, (.int .i64 r_0_p)] 122] w0) (feet [cellCh b1 [v2, (.int .i64 r_0_p)] 122]) w0 (wpAnyH Tryd.prog .any (opsAt Tryd.f50 [1, 1, 1, 1, 0, 1, 0, 1, 0, 1, 1, 1, 0]) Qd (Mem (gB F [cellCh b1 [v2, (.int .i64 r_0_p)] 122] w0) (feet [cellCh b1 [v2, (.int .i64 r_0_p)] 122]) w0 [cellCh b9 [(.slice a66 l67 q68), (.bool (decide (r7 = 0)))] 25, cellCh b5 [(.slice none 0 0), (.bool false)] 25, snapCh w0 F]) 9 #[true, true, true, true, false, false, true, true, true, true, false, false, false, false, false, false, false]) [(4, (.pointer (some ⟨b5, 0, none⟩))), (5, (.pointer (some ⟨b9, 0, none⟩))), (48, (.slice a66 l67 q68)), (50, (.slice a66 l67 q68)), (54, v129), (56, (.int .i64 r132))] [cellCh b1 [v2, (.int .i64 r133)] 122, ownCh elInt 3 v129 ([0, t13]), cellCh b9 [(.slice a66 l67 q68), (.bool (decide (r7 = 0)))] 25, cellCh b5 [(.slice none 0 0), (.bool false)] 25, snapCh w0 F, dpCh (dSl dGRule 104) 101 bb18 (.slice a66 l67 q68) xs16] ((idxW xs16 0 (fun e134 => idxW ([0, t13]) r132 (fun e82 => appW e134 ([(GRule.mk ([]) 3 e82)]) (fun _ => idxW xs16 0 (fun e89 => k73 ((xs16.set (0 : Int).toNat (e134 ++ ([(GRule.mk ([]) 3 e82)]))), r133)))))) ∧ (idxW ([0, t13]) r132 (fun e136 => idxW xs16 0 (fun e138 => appW e138 ([(GRule.mk ([]) 3 e136)]) (fun _ => idxW xs16 0 (fun e89 => k73 ((xs16.set (0 : Int).toNat (e138 ++ ([(GRule.mk ([]) 3 e136)]))), r133))))))) := by
                intro v129 r132 r133
                refine d_two (i := 4) (j := 10) rfl rfl (by kernel_rfl) ?_ ?_
                · intro o ho; cases ho
                  refine nx_l ?_
                  refine o_idx m_op 5 rfl reads_dp rfl rfl rfl el23 ?_; intro e134 h135
                  refine d_and (fun w m => m.pick [2, 3, 4] rfl) ?_
                  refine pk [0, 1, 2, 3, 4, 5] rfl ?_
                  refine re (E' := [(4, (.pointer (some ⟨b5, 0, none⟩))), (5, (.pointer (some ⟨b9, 0, none⟩))), (48, (.slice a66 l67 q68)), (51, (pEl (.slice a66 l67 q68) 0 1 0)), (54, v129), (56, (.int .i64 r132))]) ⟨rfl, rfl, rfl, rfl, rfl, rfl, trivial⟩ ?_
                  exact H464 e134 h135 v129 r132 r133
                · intro o ho; cases ho
                  refine nx_r ?_
                  refine o_idx m_op 1 rfl reads_own rfl rfl rfl el99 ?_; intro e136 h137
                  refine d_and (fun w m => m.pick [2, 3, 4] rfl) ?_
                  refine pk [0, 1, 2, 3, 4, 5] rfl ?_
                  refine re (E' := [(4, (.pointer (some ⟨b5, 0, none⟩))), (5, (.pointer (some ⟨b9, 0, none⟩))), (48, (.slice a66 l67 q68)), (50, (.slice a66 l67 q68)), (57, (pEl v129 r132 1 0))]) ⟨rfl, rfl, rfl, rfl, rfl, trivial⟩ ?_
                  exact H471 v129 r132 r133 e136 h137
              have H473 : ∀ (v129 : Value), Nx 80 (gB F [cellCh b1 [v2, (.int .i64 r_0_p)] 122] w0) (feet [cellCh b1 [v2, (.int .i64 r_0_p)] 122]) w0 (wpAnyH Tryd.prog .any (opsAt Tryd.f50 [1, 1, 1, 1, 0, 1, 0, 1, 0, 1, 1, 1, 0]) Qd (Mem (gB F [cellCh b1 [v2, (.int .i64 r_0_p)] 122] w0) (feet [cellCh b1 [v2, (.int .i64 r_0_p)] 122]) w0 [cellCh b9 [(.slice a66 l67 q68), (.bool (decide (r7 = 0)))] 25, cellCh b5 [(.slice none 0 0), (.bool false)] 25, snapCh w0 F]) 10 #[true, true, true, true, false, false, true, true, true, false, false, false, false, false, false, false, false]) [(4, (.pointer (some ⟨b5, 0, none⟩))), (5, (.pointer (some ⟨b9, 0, none⟩))), (48, (.slice a66 l67 q68)), (50, (.slice a66 l67 q68)), (55, (.pointer (some ⟨b1, 0, none⟩))), (54, v129)] [ownCh elInt 3 v129 ([0, t13]), cellCh b1 [v2, (.int .i64 r59)] 122, cellCh b9 [(.slice a66 l67 q68), (.bool (decide (r7 = 0)))] 25, cellCh b5 [(.slice none 0 0), (.bool false)] 25, snapCh w0 F, dpCh (dSl dGRule 104) 101 bb18 (.slice a66 l67 q68) xs16] ((idxW xs16 0 (fun e130 => L_spec_l20Rd_pick r_0_b r59 2 (fun (r80, r81) => idxW ([0, t13]) r80 (fun e82 => appW e130 ([(GRule.mk ([]) 3 e82)]) (fun _ => idxW xs16 0 (fun e89 => k73 ((xs16.set (0 : Int).toNat (e130 ++ ([(GRule.mk ([]) 3 e82)]))), r81))))))) ∧ (L_spec_l20Rd_pick r_0_b r59 2 (fun (r132, r133) => (idxW xs16 0 (fun e134 => idxW ([0, t13]) r132 (fun e82 => appW e134 ([(GRule.mk ([]) 3 e82)]) (fun _ => idxW xs16 0 (fun e89 => k73 ((xs16.set (0 : Int).toNat (e134 ++ ([(GRule.mk ([]) 3 e82)]))), r133)))))) ∧ (idxW ([0, t13]) r132 (fun e136 => idxW xs16 0 (fun e138 => appW e138 ([(GRule.mk ([]) 3 e136)]) (fun _ => idxW xs16 0 (fun e89 => k73 ((xs16.set (0 : Int).toNat (e138 ++ ([(GRule.mk ([]) 3 e136)]))), r133))))))))) := by
                intro v129
                refine d_two (i := 4) (j := 9) rfl rfl (by kernel_rfl) ?_ ?_
                · intro o ho; cases ho
                  refine nx_l ?_
                  refine o_idx m_op 5 rfl reads_dp rfl rfl rfl el23 ?_; intro e130 h131
                  refine d_and (fun w m => m.pick [2, 3, 4] rfl) ?_
                  refine pk [0, 1, 2, 3, 4, 5] rfl ?_
                  refine re (E' := [(4, (.pointer (some ⟨b5, 0, none⟩))), (5, (.pointer (some ⟨b9, 0, none⟩))), (48, (.slice a66 l67 q68)), (55, (.pointer (some ⟨b1, 0, none⟩))), (51, (pEl (.slice a66 l67 q68) 0 1 0)), (54, v129)]) ⟨rfl, rfl, rfl, rfl, rfl, rfl, trivial⟩ ?_
                  exact H465 e130 h131 v129
                · intro o ho; cases ho
                  refine nx_r ?_
                  refine pk [1, 0, 2, 3, 4, 5] rfl ?_
                  refine o_call (vs := [(.pointer (some ⟨b1, 0, none⟩)), (.int .i64 2)]) (M0 := [cellCh b1 [v2, (.int .i64 r59)] 122]) Tryd.call68 rfl rfl (by intro w m h; exact (w_spec_l20Rd_pick (F := allB [cellCh b1 [v2, (.int .i64 r59)] 122] w) (r_0_b := r_0_b) (r_0_p := r59) (n_1 := 2) allB_ok m.given (m.rdM 3 rfl (reads_snap hv2)) h).mono (fun _ _ k => ret_free (fun r u => (fr_cons free_cell fr_nil)) k)) ?_; rintro ⟨r132, r133⟩ _
                  refine d_and (fun w m => m.pick [2, 3, 4] rfl) ?_
                  refine pk [0, 1, 2, 3, 4, 5] rfl ?_
                  refine re (E' := [(4, (.pointer (some ⟨b5, 0, none⟩))), (5, (.pointer (some ⟨b9, 0, none⟩))), (48, (.slice a66 l67 q68)), (50, (.slice a66 l67 q68)), (54, v129), (56, (.int .i64 r132))]) ⟨rfl, rfl, rfl, rfl, rfl, rfl, trivial⟩ ?_
                  exact H472 v129 r132 r133
              have H474 : ∀ (r151 : Int) (r152 : Int), Nx 80 (gB F [cellCh b1 [v2, (.int .i64 r_0_p)] 122] w0) (feet [cellCh b1 [v2, (.int .i64 r_0_p)] 122]) w0 (wpAnyH Tryd.prog .any (opsAt Tryd.f50 [1, 1, 1, 1, 0, 1, 0, 1, 0, 1, 1, 1, 0]) Qd (Mem (gB F [cellCh b1 [v2, (.int .i64 r_0_p)] 122] w0) (feet [cellCh b1 [v2, (.int .i64 r_0_p)] 122]) w0 [cellCh b9 [(.slice a66 l67 q68), (.bool (decide (r7 = 0)))] 25, cellCh b5 [(.slice none 0 0), (.bool false)] 25, snapCh w0 F]) 10 #[true, true, true, true, false, false, true, false, true, true, false, false, false, false, false, false, false]) [(4, (.pointer (some ⟨b5, 0, none⟩))), (5, (.pointer (some ⟨b9, 0, none⟩))), (48, (.slice a66 l67 q68)), (50, (.slice a66 l67 q68)), (53, (.int .i64 t13)), (56, (.int .i64 r151))] [cellCh b1 [v2, (.int .i64 r152)] 122, cellCh b9 [(.slice a66 l67 q68), (.bool (decide (r7 = 0)))] 25, cellCh b5 [(.slice none 0 0), (.bool false)] 25, snapCh w0 F, dpCh (dSl dGRule 104) 101 bb18 (.slice a66 l67 q68) xs16] ((idxW xs16 0 (fun e153 => idxW ([0, t13]) r151 (fun e82 => appW e153 ([(GRule.mk ([]) 3 e82)]) (fun _ => idxW xs16 0 (fun e89 => k73 ((xs16.set (0 : Int).toNat (e153 ++ ([(GRule.mk ([]) 3 e82)]))), r152)))))) ∧ ((idxW xs16 0 (fun e134 => idxW ([0, t13]) r151 (fun e82 => appW e134 ([(GRule.mk ([]) 3 e82)]) (fun _ => idxW xs16 0 (fun e89 => k73 ((xs16.set (0 : Int).toNat (e134 ++ ([(GRule.mk ([]) 3 e82)]))), r152)))))) ∧ (idxW ([0, t13]) r151 (fun e136 => idxW xs16 0 (fun e138 => appW e138 ([(GRule.mk ([]) 3 e136)]) (fun _ => idxW xs16 0 (fun e89 => k73 ((xs16.set (0 : Int).toNat (e138 ++ ([(GRule.mk ([]) 3 e136)]))), r152)))))))) := by
                intro r151 r152
                refine d_two (i := 4) (j := 7) rfl rfl (by kernel_rfl) ?_ ?_
                · intro o ho; cases ho
                  refine nx_l ?_
                  refine o_idx m_op 4 rfl reads_dp rfl rfl rfl el23 ?_; intro e153 h154
                  refine d_and (fun w m => m.pick [1, 2, 3] rfl) ?_
                  refine pk [0, 1, 2, 3, 4] rfl ?_
                  refine re (E' := [(4, (.pointer (some ⟨b5, 0, none⟩))), (5, (.pointer (some ⟨b9, 0, none⟩))), (48, (.slice a66 l67 q68)), (53, (.int .i64 t13)), (51, (pEl (.slice a66 l67 q68) 0 1 0)), (56, (.int .i64 r151))]) ⟨rfl, rfl, rfl, rfl, rfl, rfl, trivial⟩ ?_
                  exact H466 e153 h154 r151 r152
                · intro o ho; cases ho
                  refine nx_r ?_
                  refine o_bsl (enc := encInt) (qs := [(0, (.int .i64 0)), (1, (.int .i64 t13))]) (cells := [(.int .i64 0), (.int .i64 t13)]) ([0, t13]) flelInt (by intro ρ h; simp only [List.map_toArray, List.map_cons, List.map_nil, h (.const (.int .i64 0)) _ rfl, h (.tmp 53) _ rfl]) rfl el99 zero3 rfl rfl rfl rfl rfl rfl ?_; intro v155
                  refine d_and (fun w m => m.pick [2, 3, 4] rfl) ?_
                  refine pk [1, 0, 2, 3, 4, 5] rfl ?_
                  refine re (E' := [(4, (.pointer (some ⟨b5, 0, none⟩))), (5, (.pointer (some ⟨b9, 0, none⟩))), (48, (.slice a66 l67 q68)), (50, (.slice a66 l67 q68)), (54, v155), (56, (.int .i64 r151))]) ⟨rfl, rfl, rfl, rfl, rfl, rfl, trivial⟩ ?_
                  exact H472 v155 r151 r152
              refine o_fad (dt 0 (fun w m => m.pick [1, 2, 3] rfl)) rfl rfl fld25_0 rfl ?_
              refine o_ldc (dt 1 (fun w m => m.pick [1, 2, 3] rfl)) (v := (.slice a66 l67 q68)) 0 rfl rfl rfl ty23 rfl ?_
              refine o_fad (dt 2 (fun w m => m.pick [1, 2, 3] rfl)) rfl rfl fld25_0 rfl ?_
              refine o_ldc (dt 3 (fun w m => m.pick [1, 2, 3] rfl)) (v := (.slice a66 l67 q68)) 0 rfl rfl rfl ty23 rfl ?_
              refine o_mv (dt 6 (fun w m => m.pick [1, 2, 3] rfl)) rfl rfl ?_
              refine o_mv (dt 8 (fun w m => m.pick [1, 2, 3] rfl)) rfl rfl ?_
              refine d_three (i := 4) (j := 7) (l := 9) rfl rfl rfl (by kernel_rfl) ?_ ?_ ?_
              · intro o ho; cases ho
                refine nx_l ?_
                refine o_idx m_op 4 rfl reads_dp rfl rfl rfl el23 ?_; intro e74 h75
                refine d_and (fun w m => m.pick [1, 2, 3] rfl) ?_
                refine pk [0, 1, 2, 3, 4] rfl ?_
                refine re (E' := [(4, (.pointer (some ⟨b5, 0, none⟩))), (5, (.pointer (some ⟨b9, 0, none⟩))), (48, (.slice a66 l67 q68)), (53, (.int .i64 t13)), (55, (.pointer (some ⟨b1, 0, none⟩))), (51, (pEl (.slice a66 l67 q68) 0 1 0))]) ⟨rfl, rfl, rfl, rfl, rfl, rfl, trivial⟩ ?_
                exact H467 e74 h75
              · intro o ho; cases ho
                refine nx_r ?_
                refine nx_l ?_
                refine o_bsl (enc := encInt) (qs := [(0, (.int .i64 0)), (1, (.int .i64 t13))]) (cells := [(.int .i64 0), (.int .i64 t13)]) ([0, t13]) flelInt (by intro ρ h; simp only [List.map_toArray, List.map_cons, List.map_nil, h (.const (.int .i64 0)) _ rfl, h (.tmp 53) _ rfl]) rfl el99 zero3 rfl rfl rfl rfl rfl rfl ?_; intro v129
                refine d_and (fun w m => m.pick [2, 3, 4] rfl) ?_
                refine pk [0, 1, 2, 3, 4, 5] rfl ?_
                refine re (E' := [(4, (.pointer (some ⟨b5, 0, none⟩))), (5, (.pointer (some ⟨b9, 0, none⟩))), (48, (.slice a66 l67 q68)), (50, (.slice a66 l67 q68)), (55, (.pointer (some ⟨b1, 0, none⟩))), (54, v129)]) ⟨rfl, rfl, rfl, rfl, rfl, rfl, trivial⟩ ?_
                exact H473 v129
              · intro o ho; cases ho
                refine nx_r ?_
                refine nx_r ?_
                refine o_call (vs := [(.pointer (some ⟨b1, 0, none⟩)), (.int .i64 2)]) (M0 := [cellCh b1 [v2, (.int .i64 r59)] 122]) Tryd.call68 rfl rfl (by intro w m h; exact (w_spec_l20Rd_pick (F := allB [cellCh b1 [v2, (.int .i64 r59)] 122] w) (r_0_b := r_0_b) (r_0_p := r59) (n_1 := 2) allB_ok m.given (m.rdM 2 rfl (reads_snap hv2)) h).mono (fun _ _ k => ret_free (fun r u => (fr_cons free_cell fr_nil)) k)) ?_; rintro ⟨r151, r152⟩ _
                refine d_and (fun w m => m.pick [1, 2, 3] rfl) ?_
                refine pk [0, 1, 2, 3, 4] rfl ?_
                refine re (E' := [(4, (.pointer (some ⟨b5, 0, none⟩))), (5, (.pointer (some ⟨b9, 0, none⟩))), (48, (.slice a66 l67 q68)), (50, (.slice a66 l67 q68)), (53, (.int .i64 t13)), (56, (.int .i64 r151))]) ⟨rfl, rfl, rfl, rfl, rfl, rfl, trivial⟩ ?_
                exact H474 r151 r152
            · rintro ⟨xs69, t72⟩ a w ⟨bb71, hE, hm⟩ h
              refine nx_of hE hm h ?_
              clear hE hm h
              refine b_norm ?_
              exact l_join (t72, xs69) (fun a w hE hm => ⟨(.slice a66 l67 q68), bb71, hE.sub ⟨rfl, rfl, trivial⟩, (hm.pick [1, 2, 3, 4, 0] rfl)⟩)
          · refine c_seq ?_
            refine c_region ?_
            refine o_eql st und3 rfl rfl rfl ?_
            refine o_as st rfl rfl ?_
            refine c_nil ?_
            refine l_then ?_
            refine c_cond rfl ?_ ?_
            · refine c_seq ?_
              refine c_region ?_
              refine o_fad st rfl rfl fld25_0 rfl ?_
              refine o_ldc st (v := v15) 1 rfl rfl rfl ty23 rfl ?_
              refine o_mv st rfl rfl ?_
              refine o_sub st rfl rfl rfl ?_; intro t156
              refine o_bld st (qs := [(1, (.int .i64 3))]) (cells := [(.slice none 0 0), (.int .i64 3), (.int .i64 0)]) (by intro ρ h; simp only [List.map_toArray, List.map_cons, List.map_nil, h (.const (.int .i64 3)) _ rfl]) rfl bld104 rfl ?_
              refine stw (o_bslD (M := []) (E' := dGRule) (qs := [(0, (.agg #[(.slice none 0 0), (.int .i64 3), (.int .i64 0)]))]) (cs := [(.slice none 0 0), (.int .i64 3), (.int .i64 0)]) (GRule.mk ([]) 3 0) (absorb_nil (fun w => ⟨_, rfl, Dp.nil⟩)) (by intro ρ h; simp only [List.map_toArray, List.map_cons, List.map_nil, h (.tmp 69) _ rfl]) rfl el101 zero104 rfl rfl rfl rfl ?_); intro bb158 v157
              refine o_idx st 5 rfl reads_dp rfl rfl rfl el23 ?_; intro e160 h161
              refine nx_dp 0 rfl ?_; rintro a162 l163 q164 rfl
              refine pk [5, 0, 1, 2, 3, 4] rfl ?_
              refine stw (o_stD (M := [dpCh dGRule 104 bb158 (.slice a162 l163 q164) ([(GRule.mk ([]) 3 0)])]) (y' := [(GRule.mk ([]) 3 0)]) rfl h161 (fun w B cz h => by obtain ⟨u, rfl, _⟩ := h; exact (absorb_one gives_dp (fun B w h => ⟨_, rfl, h⟩))) ty101 rfl rfl rfl rfl rfl ?_); intro bb165
              refine c_nil ?_
              refine l_then ?_
              refine c_region ?_
              refine o_fad st rfl rfl fld25_0 rfl ?_
              refine o_ldc st (v := v15) 2 rfl rfl rfl ty23 rfl ?_
              refine o_mv st rfl rfl ?_
              refine o_sub st rfl rfl rfl ?_; intro t167
              refine o_bld st (qs := [(1, (.int .i64 3)), (2, (.int .i64 t167))]) (cells := [(.slice none 0 0), (.int .i64 3), (.int .i64 t167)]) (by intro ρ h; simp only [List.map_toArray, List.map_cons, List.map_nil, h (.const (.int .i64 3)) _ rfl, h (.tmp 75) _ rfl]) rfl bld104 rfl ?_
              refine stw (o_bslD (M := []) (E' := dGRule) (qs := [(0, (.agg #[(.slice none 0 0), (.int .i64 3), (.int .i64 t167)]))]) (cs := [(.slice none 0 0), (.int .i64 3), (.int .i64 t167)]) (GRule.mk ([]) 3 t167) (absorb_nil (fun w => ⟨_, rfl, Dp.nil⟩)) (by intro ρ h; simp only [List.map_toArray, List.map_cons, List.map_nil, h (.tmp 76) _ rfl]) rfl el101 zero104 rfl rfl rfl rfl ?_); intro bb169 v168
              refine o_idx st 1 rfl reads_dp rfl rfl rfl el23 ?_; intro e171 h172
              refine nx_dp 0 rfl ?_; rintro a173 l174 q175 rfl
              refine pk [1, 0, 2, 3, 4, 5] rfl ?_
              refine stw (o_stD (M := [dpCh dGRule 104 bb169 (.slice a173 l174 q175) ([(GRule.mk ([]) 3 t167)])]) (y' := [(GRule.mk ([]) 3 t167)]) rfl h172 (fun w B cz h => by obtain ⟨u, rfl, _⟩ := h; exact (absorb_one gives_dp (fun B w h => ⟨_, rfl, h⟩))) ty101 rfl rfl rfl rfl rfl ?_); intro bb176
              refine c_nil ?_
              refine b_norm ?_
              exact l_join (r59, ((xs16.set (t156).toNat ([(GRule.mk ([]) 3 0)])).set (0 : Int).toNat ([(GRule.mk ([]) 3 t167)]))) (fun a w hE hm => ⟨v15, bb176, hE.sub ⟨rfl, rfl, trivial⟩, (hm.pick [1, 2, 3, 4, 0] rfl)⟩)
            · refine nx_dp 4 rfl ?_; rintro a178 l179 q180 rfl
              refine c_draw mixed 7 rfl [cellCh b9 [(.slice a178 l179 q180), (.bool (decide (r7 = 0)))] 25, cellCh b5 [(.slice none 0 0), (.bool false)] 25, snapCh w0 F] ?_
              refine o_fad (dt 0 (fun w m => m.pick [1, 2, 3] rfl)) rfl rfl fld25_0 rfl ?_
              refine o_ldc (dt 1 (fun w m => m.pick [1, 2, 3] rfl)) (v := (.slice a178 l179 q180)) 0 rfl rfl rfl ty23 rfl ?_
              refine o_mv (dt 2 (fun w m => m.pick [1, 2, 3] rfl)) rfl rfl ?_
              refine o_mv (dt 3 (fun w m => m.pick [1, 2, 3] rfl)) rfl rfl ?_
              refine d_one (i := 4) rfl (by kernel_rfl) (o_call (vs := [(.pointer (some ⟨b1, 0, none⟩)), (.int .i64 1), (.int .i64 t13), (.int .i64 1)]) (M0 := [cellCh b1 [v2, (.int .i64 r59)] 122]) Tryd.call84 rfl rfl (by intro w m h; exact (w_spec_l20Rules (F := allB [cellCh b1 [v2, (.int .i64 r59)] 122] w) (r_0_b := r_0_b) (r_0_p := r59) (first_1 := 1) (chains_2 := t13) (n_3 := 1) allB_ok m.given (m.rdM 2 rfl (reads_snap hv2)) h).mono (fun _ _ k => ret_free (fun r u => (fr_cons free_dp (fr_cons free_cell fr_nil))) k)) ?_); rintro ⟨r181, r185⟩ ⟨v182, bb183⟩
              refine d_and (fun w m => m.pick [2, 3, 4] rfl) ?_
              refine d_one (i := 5) rfl (by kernel_rfl) (o_idx m_op 5 rfl reads_dp rfl rfl rfl el23 ?_); intro e186 h187
              refine d_and (fun w m => m.pick [2, 3, 4] rfl) ?_
              refine nx_dp 0 rfl ?_; rintro a188 l189 q190 rfl
              refine pk [5, 0, 1, 2, 3, 4] rfl ?_
              refine d_one (i := 6) rfl (by kernel_rfl) (o_stD (M := [dpCh dGRule 104 bb183 (.slice a188 l189 q190) r181]) (y' := r181) rfl h187 (fun w B cz h => by obtain ⟨u, rfl, _⟩ := h; exact (absorb_one gives_dp (fun B w h => ⟨_, rfl, h⟩))) ty101 rfl rfl rfl rfl rfl ?_); intro bb191
              refine d_and (fun w m => m.pick [2, 3, 4] rfl) ?_
              refine d_done (by kernel_rfl) ?_
              refine b_norm ?_
              exact l_join (r185, (xs16.set (0 : Int).toNat r181)) (fun a w hE hm => ⟨(.slice a178 l179 q180), bb191, hE.sub ⟨rfl, rfl, trivial⟩, (hm.pick [1, 2, 3, 4, 0] rfl)⟩)
      · refine c_skip ?_
        exact l_join (r57, xs16) (fun a w hE hm => ⟨v15, bb18, hE.sub ⟨rfl, rfl, trivial⟩, (hm.pick [0, 1, 2, 3, 4] rfl)⟩)
    · rintro ⟨t253, xs255⟩ a w ⟨v254, bb257, hE, hm⟩ h
      refine nx_of hE hm h ?_
      clear hE hm h
      refine c_seq ?_
      refine c_region ?_
      refine o_ldc st (v := (.agg #[v254, (.bool (decide (r7 = 0)))])) 1 rfl rfl rfl ty25 rfl ?_
      refine nx_dp 4 rfl ?_; rintro a260 l261 q262 rfl
      refine stw (o_stc (cs' := [(.slice a260 l261 q262), (.bool (decide (r7 = 0)))]) 2 rfl rfl rfl ty25 rfl rfl rfl rfl ?_)
      refine c_nil ?_
      refine l_then ?_
      refine c_ret ?_
      exact l_end1 Tryd.results50 ((GRuleset.mk xs255 (decide (r7 = 0))), t253) ((.slice a260 l261 q262), bb257) (rv_c 2 rfl rfl ty25 rfl) (fun w m => NewCh.ofB m [4, 0] rfl)

set_option maxRecDepth 100000 in
set_option maxHeartbeats 8000000 in
theorem w_spec_l1In {w0 : World} {F : Nat → Prop} {n_0 : Int} {lo_1 : Int} {hi_2 : Int} {κ : Bool → Prop} (hF : ∀ b, F b → b < w0.heap.size ∧ ¬ feet [] b) (h : L_spec_l1In n_0 lo_1 hi_2 κ) :
    Calls Tryd.prog 58 #[(.int .i64 n_0), (.int .i64 lo_1), (.int .i64 hi_2)] w0 (Ret [] F w0 κ (fun (r : Bool) (u : Unit) => (.bool r)) (fun (r : Bool) (u : Unit) => [])) := by
  refine enter0 (args := [(.int .i64 n_0), (.int .i64 lo_1), (.int .i64 hi_2)]) [] hF (Given.nil _ _) Tryd.func58 rfl Tryd.ntmps58 rfl h ?_
  clear h hF
  refine c_seq ?_
  refine c_region ?_
  refine o_as st rfl rfl ?_
  refine c_nil ?_
  refine l_then ?_
  refine c_join (σ := Bool) (fun (t61 : Bool) (a : Act) (w : World) => Has 15 [(6, (.bool t61))] a ∧ Mem (gB F [] w0) (feet []) w0 [] w) ?_ ?_
  · intro k62
    refine c_region ?_
    refine o_mv st rfl rfl ?_
    refine o_mv st rfl rfl ?_
    refine o_geq st rfl rfl rfl ?_
    refine o_mv st rfl rfl ?_
    refine st_sp (dj := 10) rfl ?_ ?_
    · refine o_mv (st_g rfl rfl) rfl rfl ?_
      refine o_mv (st_g rfl rfl) rfl rfl ?_
      refine o_leq (st_g rfl rfl) rfl rfl rfl ?_
      refine o_pickT st rfl rfl rfl ?_
      refine o_as st rfl rfl ?_
      refine c_nil ?_
      exact l_join (decide (n_0 ≤ hi_2)) (fun a w hE hm => ⟨hE.sub ⟨rfl, trivial⟩, (hm.pick [] rfl)⟩)
    · refine st_s rfl rfl rfl rfl ?_
      refine st_s rfl rfl rfl rfl ?_
      refine st_s rfl rfl rfl rfl ?_
      refine o_pickF st rfl rfl rfl ?_
      refine o_as st rfl rfl ?_
      refine c_nil ?_
      exact l_join false (fun a w hE hm => ⟨hE.sub ⟨rfl, trivial⟩, (hm.pick [] rfl)⟩)
  · rintro t61 a w ⟨hE, hm⟩ h
    refine nx_of hE hm h ?_
    clear hE hm h
    refine c_ret ?_
    exact l_end1 Tryd.results58 t61 () (rv_t rfl) (fun _ _ => NewCh.nil _ _ _ _)

set_option maxRecDepth 100000 in
set_option maxHeartbeats 8000000 in
theorem w_spec_PacketValid {w0 : World} {F : Nat → Prop} {p_0 : GPacket} {κ : Bool → Prop} (hF : ∀ b, F b → b < w0.heap.size ∧ ¬ feet [] b) (h : L_spec_PacketValid p_0 κ) :
    Calls Tryd.prog 23 #[(.agg #[(.int .i64 p_0.xFrom), (.int .i64 p_0.xTo), (.int .i64 p_0.xPort), (.int .i64 p_0.xProto)])] w0 (Ret [] F w0 κ (fun (r : Bool) (u : Unit) => (.bool r)) (fun (r : Bool) (u : Unit) => [])) := by
  refine enter0 (args := [(.agg #[(.int .i64 p_0.xFrom), (.int .i64 p_0.xTo), (.int .i64 p_0.xPort), (.int .i64 p_0.xProto)])]) [] hF (Given.nil _ _) Tryd.func23 rfl Tryd.ntmps23 rfl h ?_
  clear h hF
  refine c_seq ?_
  refine c_region ?_
  refine stw (o_box rfl rfl [(.int .i64 p_0.xFrom), (.int .i64 p_0.xTo), (.int .i64 p_0.xPort), (.int .i64 p_0.xProto)] rfl ?_); intro b1
  refine o_as st rfl rfl ?_
  refine c_nil ?_
  refine l_then ?_
  refine c_join (σ := Bool) (fun (t67 : Bool) (a : Act) (w : World) => Has 21 [(2, (.bool t67))] a ∧ Mem (gB F [] w0) (feet []) w0 [] w) ?_ ?_
  · intro k68
    refine c_region ?_
    refine o_fad st rfl rfl fld40_0 rfl ?_
    refine o_ldc st (v := (.int .i64 p_0.xFrom)) 0 rfl rfl rfl ty3 rfl ?_
    refine stw (o_callP (vs := [(.int .i64 p_0.xFrom), (.int .i64 0), (.int .i64 65535)]) Tryd.call58 rfl rfl (by intro w m h; exact (w_spec_l1In (F := allB [] w) (n_0 := p_0.xFrom) (lo_1 := 0) (hi_2 := 65535) allB_ok h).mono (fun _ _ k => ret_free (fun r u => fr_nil) k)) ?_); rintro r3 _
    refine o_mv st rfl rfl ?_
    refine st_sp (dj := 6) rfl ?_ ?_
    · refine o_fad (st_g rfl rfl) rfl rfl fld40_1 rfl ?_
      refine o_ldc (st_g rfl rfl) (v := (.int .i64 p_0.xTo)) 0 rfl rfl rfl ty3 rfl ?_
      refine st_gw rfl rfl (o_callP (vs := [(.int .i64 p_0.xTo), (.int .i64 0), (.int .i64 65535)]) Tryd.call58 rfl rfl (by intro w m h; exact (w_spec_l1In (F := allB [] w) (n_0 := p_0.xTo) (lo_1 := 0) (hi_2 := 65535) allB_ok h).mono (fun _ _ k => ret_free (fun r u => fr_nil) k)) ?_); rintro r4 _
      refine o_pickT st rfl rfl rfl ?_
      refine o_mv st rfl rfl ?_
      refine st_sp (dj := 11) rfl ?_ ?_
      · refine o_fad (st_g rfl rfl) rfl rfl fld40_2 rfl ?_
        refine o_ldc (st_g rfl rfl) (v := (.int .i64 p_0.xPort)) 0 rfl rfl rfl ty3 rfl ?_
        refine st_gw rfl rfl (o_callP (vs := [(.int .i64 p_0.xPort), (.int .i64 0), (.int .i64 255)]) Tryd.call58 rfl rfl (by intro w m h; exact (w_spec_l1In (F := allB [] w) (n_0 := p_0.xPort) (lo_1 := 0) (hi_2 := 255) allB_ok h).mono (fun _ _ k => ret_free (fun r u => fr_nil) k)) ?_); rintro r5 _
        refine o_pickT st rfl rfl rfl ?_
        refine o_mv st rfl rfl ?_
        refine st_sp (dj := 16) rfl ?_ ?_
        · refine o_fad (st_g rfl rfl) rfl rfl fld40_3 rfl ?_
          refine o_ldc (st_g rfl rfl) (v := (.int .i64 p_0.xProto)) 0 rfl rfl rfl ty3 rfl ?_
          refine st_gw rfl rfl (o_callP (vs := [(.int .i64 p_0.xProto), (.int .i64 0), (.int .i64 7)]) Tryd.call58 rfl rfl (by intro w m h; exact (w_spec_l1In (F := allB [] w) (n_0 := p_0.xProto) (lo_1 := 0) (hi_2 := 7) allB_ok h).mono (fun _ _ k => ret_free (fun r u => fr_nil) k)) ?_); rintro r6 _
          refine o_pickT st rfl rfl rfl ?_
          refine o_as st rfl rfl ?_
          refine c_nil ?_
          exact l_join r6 (fun a w hE hm => ⟨hE.sub ⟨rfl, trivial⟩, (hm.pick [] rfl)⟩)
        · refine st_s rfl rfl rfl rfl ?_
          refine st_s rfl rfl rfl rfl ?_
          refine st_s rfl rfl rfl rfl ?_
          refine o_pickF st rfl rfl rfl ?_
          refine o_as st rfl rfl ?_
          refine c_nil ?_
          exact l_join false (fun a w hE hm => ⟨hE.sub ⟨rfl, trivial⟩, (hm.pick [] rfl)⟩)
      · refine st_s rfl rfl rfl rfl ?_
        refine st_s rfl rfl rfl rfl ?_
        refine st_s rfl rfl rfl rfl ?_
        refine o_pickF st rfl rfl rfl ?_
        refine o_mv st rfl rfl ?_
        refine st_s rfl rfl rfl rfl ?_
        refine st_s rfl rfl rfl rfl ?_
        refine st_s rfl rfl rfl rfl ?_
        refine o_pickF st rfl rfl rfl ?_
        refine o_as st rfl rfl ?_
        refine c_nil ?_
        exact l_join false (fun a w hE hm => ⟨hE.sub ⟨rfl, trivial⟩, (hm.pick [] rfl)⟩)
    · refine st_s rfl rfl rfl rfl ?_
      refine st_s rfl rfl rfl rfl ?_
      refine st_s rfl rfl rfl rfl ?_
      refine o_pickF st rfl rfl rfl ?_
      refine o_mv st rfl rfl ?_
      refine st_s rfl rfl rfl rfl ?_
      refine st_s rfl rfl rfl rfl ?_
      refine st_s rfl rfl rfl rfl ?_
      refine o_pickF st rfl rfl rfl ?_
      refine o_mv st rfl rfl ?_
      refine st_s rfl rfl rfl rfl ?_
      refine st_s rfl rfl rfl rfl ?_
      refine st_s rfl rfl rfl rfl ?_
      refine o_pickF st rfl rfl rfl ?_
      refine o_as st rfl rfl ?_
      refine c_nil ?_
      exact l_join false (fun a w hE hm => ⟨hE.sub ⟨rfl, trivial⟩, (hm.pick [] rfl)⟩)
  · rintro t67 a w ⟨hE, hm⟩ h
    refine nx_of hE hm h ?_
    clear hE hm h
    refine c_ret ?_
    exact l_end1 Tryd.results23 t67 () (rv_t rfl) (fun _ _ => NewCh.nil _ _ _ _)

set_option maxRecDepth 100000 in
set_option maxHeartbeats 8000000 in
theorem w_spec_ReversePacket {w0 : World} {F : Nat → Prop} {p_0 : GPacket} {κ : GPacket → Prop} (hF : ∀ b, F b → b < w0.heap.size ∧ ¬ feet [] b) (h : L_spec_ReversePacket p_0 κ) :
    Calls Tryd.prog 59 #[(.agg #[(.int .i64 p_0.xFrom), (.int .i64 p_0.xTo), (.int .i64 p_0.xPort), (.int .i64 p_0.xProto)])] w0 (Ret [] F w0 κ (fun (r : GPacket) (u : Unit) => (.agg #[(.int .i64 r.xFrom), (.int .i64 r.xTo), (.int .i64 r.xPort), (.int .i64 r.xProto)])) (fun (r : GPacket) (u : Unit) => [])) := by
  refine enter0 (args := [(.agg #[(.int .i64 p_0.xFrom), (.int .i64 p_0.xTo), (.int .i64 p_0.xPort), (.int .i64 p_0.xProto)])]) [] hF (Given.nil _ _) Tryd.func59 rfl Tryd.ntmps59 rfl h ?_
  clear h hF
  refine c_seq ?_
  refine c_region ?_
  refine stw (o_box rfl rfl [(.int .i64 p_0.xFrom), (.int .i64 p_0.xTo), (.int .i64 p_0.xPort), (.int .i64 p_0.xProto)] rfl ?_); intro b1
  refine stw (o_alloc rfl [(.int .i64 0), (.int .i64 0), (.int .i64 0), (.int .i64 0)] zero40 ?_); intro b3
  refine c_nil ?_
  refine l_then ?_
  refine c_seq ?_
  refine c_seq ?_
  refine c_region ?_
  refine o_ldc st (v := (.agg #[(.int .i64 p_0.xFrom), (.int .i64 p_0.xTo), (.int .i64 p_0.xPort), (.int .i64 p_0.xProto)])) 1 rfl rfl rfl ty40 rfl ?_
  refine stw (o_callP (vs := [(.agg #[(.int .i64 p_0.xFrom), (.int .i64 p_0.xTo), (.int .i64 p_0.xPort), (.int .i64 p_0.xProto)])]) Tryd.call23 rfl rfl (by intro w m h; exact (w_spec_PacketValid (F := allB [] w) (p_0 := p_0) allB_ok h).mono (fun _ _ k => ret_free (fun r u => fr_nil) k)) ?_); rintro r5 _
  refine o_not st rfl rfl ?_
  refine c_nil ?_
  refine l_then ?_
  refine c_cond rfl ?_ ?_
  · refine c_seq ?_
    refine c_region ?_
    refine o_bld st (qs := []) (cells := [(.int .i64 0), (.int .i64 0), (.int .i64 0), (.int .i64 0)]) (by intro ρ h; simp only [List.map_toArray, List.map_cons, List.map_nil]) rfl bld40 rfl ?_
    refine stw (o_stc (cs' := [(.int .i64 0), (.int .i64 0), (.int .i64 0), (.int .i64 0)]) 0 rfl rfl rfl ty40 rfl rfl rfl rfl ?_)
    refine c_nil ?_
    refine l_then ?_
    refine c_ret ?_
    refine l_ret ?_
    exact l_end1 Tryd.results59 (GPacket.mk 0 0 0 0) () (rv_c 0 rfl rfl ty40 rfl) (fun _ _ => NewCh.nil _ _ _ _)
  · refine c_skip ?_
    refine l_then ?_
    refine c_seq ?_
    refine c_region ?_
    refine o_fad st rfl rfl fld40_1 rfl ?_
    refine o_ldc st (v := (.int .i64 p_0.xTo)) 1 rfl rfl rfl ty3 rfl ?_
    refine o_fad st rfl rfl fld40_0 rfl ?_
    refine o_ldc st (v := (.int .i64 p_0.xFrom)) 1 rfl rfl rfl ty3 rfl ?_
    refine o_fad st rfl rfl fld40_2 rfl ?_
    refine o_ldc st (v := (.int .i64 p_0.xPort)) 1 rfl rfl rfl ty3 rfl ?_
    refine o_fad st rfl rfl fld40_3 rfl ?_
    refine o_ldc st (v := (.int .i64 p_0.xProto)) 1 rfl rfl rfl ty3 rfl ?_
    refine o_bld st (qs := [(0, (.int .i64 p_0.xTo)), (1, (.int .i64 p_0.xFrom)), (2, (.int .i64 p_0.xPort)), (3, (.int .i64 p_0.xProto))]) (cells := [(.int .i64 p_0.xTo), (.int .i64 p_0.xFrom), (.int .i64 p_0.xPort), (.int .i64 p_0.xProto)]) (by intro ρ h; simp only [List.map_toArray, List.map_cons, List.map_nil, h (.tmp 8) _ rfl, h (.tmp 10) _ rfl, h (.tmp 12) _ rfl, h (.tmp 14) _ rfl]) rfl bld40 rfl ?_
    refine stw (o_stc (cs' := [(.int .i64 p_0.xTo), (.int .i64 p_0.xFrom), (.int .i64 p_0.xPort), (.int .i64 p_0.xProto)]) 0 rfl rfl rfl ty40 rfl rfl rfl rfl ?_)
    refine c_nil ?_
    refine l_then ?_
    refine c_ret ?_
    exact l_end1 Tryd.results59 (GPacket.mk p_0.xTo p_0.xFrom p_0.xPort p_0.xProto) () (rv_c 0 rfl rfl ty40 rfl) (fun _ _ => NewCh.nil _ _ _ _)

set_option maxRecDepth 100000 in
set_option maxHeartbeats 8000000 in
theorem w_spec_l20Packet {w0 : World} {F : Nat → Prop} {b1 : Nat} {v2 : Value} {r_0_b : (List UInt8)} {r_0_p : Int} {n_1 : Int} {κ : (GPacket × Int) → Prop} (hF : ∀ b, F b → b < w0.heap.size ∧ ¬ feet [cellCh b1 [v2, (.int .i64 r_0_p)] 122] b) (hg : Given [cellCh b1 [v2, (.int .i64 r_0_p)] 122] F w0) (hv2 : Sl elU8 F w0 v2 r_0_b) (h : L_spec_l20Packet r_0_b r_0_p n_1 κ) :
    Calls Tryd.prog 86 #[(.pointer (some ⟨b1, 0, none⟩)), (.int .i64 n_1)] w0 (Ret [cellCh b1 [v2, (.int .i64 r_0_p)] 122] F w0 κ (fun (r : (GPacket × Int)) (u : Unit) => (.agg #[(.int .i64 r.1.xFrom), (.int .i64 r.1.xTo), (.int .i64 r.1.xPort), (.int .i64 r.1.xProto)])) (fun (r : (GPacket × Int)) (u : Unit) => [cellCh b1 [v2, (.int .i64 r.2)] 122])) := by
  refine enterS (args := [(.pointer (some ⟨b1, 0, none⟩)), (.int .i64 n_1)]) [cellCh b1 [v2, (.int .i64 r_0_p)] 122] hF hg Tryd.func86 rfl Tryd.ntmps86 rfl h ?_
  clear h hF hg
  refine c_seq ?_
  refine c_region ?_
  refine stw (o_alloc rfl [(.int .i64 0), (.int .i64 0), (.int .i64 0), (.int .i64 0)] zero40 ?_); intro b5
  refine c_nil ?_
  refine l_then ?_
  refine c_seq ?_
  refine c_region ?_
  refine o_mv st rfl rfl ?_
  refine pk [1, 0, 2] rfl ?_
  refine stw (o_call (vs := [(.pointer (some ⟨b1, 0, none⟩)), (.int .i64 20)]) (M0 := [cellCh b1 [v2, (.int .i64 r_0_p)] 122]) Tryd.call68 rfl rfl (by intro w m h; exact (w_spec_l20Rd_pick (F := allB [cellCh b1 [v2, (.int .i64 r_0_p)] 122] w) (r_0_b := r_0_b) (r_0_p := r_0_p) (n_1 := 20) allB_ok m.given (m.rdM 1 rfl (reads_snap hv2)) h).mono (fun _ _ k => ret_free (fun r u => (fr_cons free_cell fr_nil)) k)) ?_); rintro ⟨r7, r8⟩ _
  refine o_mv st rfl rfl ?_
  refine stw (o_call (vs := [(.pointer (some ⟨b1, 0, none⟩)), (.int .i64 20)]) (M0 := [cellCh b1 [v2, (.int .i64 r8)] 122]) Tryd.call68 rfl rfl (by intro w m h; exact (w_spec_l20Rd_pick (F := allB [cellCh b1 [v2, (.int .i64 r8)] 122] w) (r_0_b := r_0_b) (r_0_p := r8) (n_1 := 20) allB_ok m.given (m.rdM 1 rfl (reads_snap hv2)) h).mono (fun _ _ k => ret_free (fun r u => (fr_cons free_cell fr_nil)) k)) ?_); rintro ⟨r9, r10⟩ _
  refine o_mv st rfl rfl ?_
  refine stw (o_call (vs := [(.pointer (some ⟨b1, 0, none⟩)), (.int .i64 256)]) (M0 := [cellCh b1 [v2, (.int .i64 r10)] 122]) Tryd.call68 rfl rfl (by intro w m h; exact (w_spec_l20Rd_pick (F := allB [cellCh b1 [v2, (.int .i64 r10)] 122] w) (r_0_b := r_0_b) (r_0_p := r10) (n_1 := 256) allB_ok m.given (m.rdM 1 rfl (reads_snap hv2)) h).mono (fun _ _ k => ret_free (fun r u => (fr_cons free_cell fr_nil)) k)) ?_); rintro ⟨r11, r12⟩ _
  refine o_mv st rfl rfl ?_
  refine stw (o_call (vs := [(.pointer (some ⟨b1, 0, none⟩)), (.int .i64 8)]) (M0 := [cellCh b1 [v2, (.int .i64 r12)] 122]) Tryd.call68 rfl rfl (by intro w m h; exact (w_spec_l20Rd_pick (F := allB [cellCh b1 [v2, (.int .i64 r12)] 122] w) (r_0_b := r_0_b) (r_0_p := r12) (n_1 := 8) allB_ok m.given (m.rdM 1 rfl (reads_snap hv2)) h).mono (fun _ _ k => ret_free (fun r u => (fr_cons free_cell fr_nil)) k)) ?_); rintro ⟨r13, r14⟩ _
  refine o_bld st (qs := [(0, (.int .i64 r7)), (1, (.int .i64 r9)), (2, (.int .i64 r11)), (3, (.int .i64 r13))]) (cells := [(.int .i64 r7), (.int .i64 r9), (.int .i64 r11), (.int .i64 r13)]) (by intro ρ h; simp only [List.map_toArray, List.map_cons, List.map_nil, h (.tmp 7) _ rfl, h (.tmp 9) _ rfl, h (.tmp 11) _ rfl, h (.tmp 13) _ rfl]) rfl bld40 rfl ?_
  refine stw (o_alloc rfl [(.int .i64 0), (.int .i64 0), (.int .i64 0), (.int .i64 0)] zero40 ?_); intro b15
  refine stw (o_stc (cs' := [(.int .i64 r7), (.int .i64 r9), (.int .i64 r11), (.int .i64 r13)]) 0 rfl rfl rfl ty40 rfl rfl rfl rfl ?_)
  refine c_nil ?_
  refine l_then ?_
  refine c_join (σ := (Int × Int × Int × Int)) (fun ((t93, t94, t95, t96) : (Int × Int × Int × Int)) (a : Act) (w : World) => Has 71 [(0, (.pointer (some ⟨b1, 0, none⟩))), (1, (.int .i64 n_1)), (4, (.pointer (some ⟨b5, 0, none⟩))), (5, (.pointer (some ⟨b15, 0, none⟩)))] a ∧ Mem (gB F [cellCh b1 [v2, (.int .i64 r_0_p)] 122] w0) (feet [cellCh b1 [v2, (.int .i64 r_0_p)] 122]) w0 [cellCh b1 [v2, (.int .i64 t93)] 122, cellCh b15 [(.int .i64 t94), (.int .i64 t95), (.int .i64 t96), (.int .i64 r13)] 40, cellCh b5 [(.int .i64 0), (.int .i64 0), (.int .i64 0), (.int .i64 0)] 40, snapCh w0 F] w) ?_ ?_
  · intro k97
    refine c_seq ?_
    refine c_region ?_
    refine o_mv st rfl rfl ?_
    refine pk [1, 0, 2, 3] rfl ?_
    refine stw (o_call (vs := [(.pointer (some ⟨b1, 0, none⟩)), (.int .i64 2)]) (M0 := [cellCh b1 [v2, (.int .i64 r14)] 122]) Tryd.call68 rfl rfl (by intro w m h; exact (w_spec_l20Rd_pick (F := allB [cellCh b1 [v2, (.int .i64 r14)] 122] w) (r_0_b := r_0_b) (r_0_p := r14) (n_1 := 2) allB_ok m.given (m.rdM 2 rfl (reads_snap hv2)) h).mono (fun _ _ k => ret_free (fun r u => (fr_cons free_cell fr_nil)) k)) ?_); rintro ⟨r17, r18⟩ _
    refine o_eql st und3 rfl rfl rfl ?_
    refine c_nil ?_
    refine l_then ?_
    refine c_cond rfl ?_ ?_
    · refine c_seq ?_
      refine c_region ?_
      refine o_mv st rfl rfl ?_
      refine stw (o_call (vs := [(.pointer (some ⟨b1, 0, none⟩)), (.int .i64 256)]) (M0 := [cellCh b1 [v2, (.int .i64 r18)] 122]) Tryd.call68 rfl rfl (by intro w m h; exact (w_spec_l20Rd_pick (F := allB [cellCh b1 [v2, (.int .i64 r18)] 122] w) (r_0_b := r_0_b) (r_0_p := r18) (n_1 := 256) allB_ok m.given (m.rdM 2 rfl (reads_snap hv2)) h).mono (fun _ _ k => ret_free (fun r u => (fr_cons free_cell fr_nil)) k)) ?_); rintro ⟨r19, r20⟩ _
      refine o_mul st rfl rfl rfl ?_; intro t21
      refine o_mv st rfl rfl ?_
      refine stw (o_call (vs := [(.pointer (some ⟨b1, 0, none⟩)), (.int .i64 256)]) (M0 := [cellCh b1 [v2, (.int .i64 r20)] 122]) Tryd.call68 rfl rfl (by intro w m h; exact (w_spec_l20Rd_pick (F := allB [cellCh b1 [v2, (.int .i64 r20)] 122] w) (r_0_b := r_0_b) (r_0_p := r20) (n_1 := 256) allB_ok m.given (m.rdM 2 rfl (reads_snap hv2)) h).mono (fun _ _ k => ret_free (fun r u => (fr_cons free_cell fr_nil)) k)) ?_); rintro ⟨r22, r23⟩ _
      refine o_add st rfl rfl rfl ?_; intro t24
      refine o_fad st rfl rfl fld40_0 rfl ?_
      refine stw (o_stc (cs' := [(.int .i64 t24), (.int .i64 r9), (.int .i64 r11), (.int .i64 r13)]) 1 rfl rfl rfl ty3 rfl rfl rfl rfl ?_)
      refine c_nil ?_
      refine l_then ?_
      refine c_seq ?_
      refine c_region ?_
      refine o_mv st rfl rfl ?_
      refine stw (o_call (vs := [(.pointer (some ⟨b1, 0, none⟩)), (.int .i64 4)]) (M0 := [cellCh b1 [v2, (.int .i64 r23)] 122]) Tryd.call68 rfl rfl (by intro w m h; exact (w_spec_l20Rd_pick (F := allB [cellCh b1 [v2, (.int .i64 r23)] 122] w) (r_0_b := r_0_b) (r_0_p := r23) (n_1 := 4) allB_ok m.given (m.rdM 2 rfl (reads_snap hv2)) h).mono (fun _ _ k => ret_free (fun r u => (fr_cons free_cell fr_nil)) k)) ?_); rintro ⟨r25, r26⟩ _
      refine o_mul st rfl rfl rfl ?_; intro t27
      refine o_mv st rfl rfl ?_
      refine stw (o_call (vs := [(.pointer (some ⟨b1, 0, none⟩)), (.int .i64 256)]) (M0 := [cellCh b1 [v2, (.int .i64 r26)] 122]) Tryd.call68 rfl rfl (by intro w m h; exact (w_spec_l20Rd_pick (F := allB [cellCh b1 [v2, (.int .i64 r26)] 122] w) (r_0_b := r_0_b) (r_0_p := r26) (n_1 := 256) allB_ok m.given (m.rdM 2 rfl (reads_snap hv2)) h).mono (fun _ _ k => ret_free (fun r u => (fr_cons free_cell fr_nil)) k)) ?_); rintro ⟨r28, r29⟩ _
      refine o_add st rfl rfl rfl ?_; intro t30
      refine o_fad st rfl rfl fld40_1 rfl ?_
      refine stw (o_stc (cs' := [(.int .i64 t24), (.int .i64 t30), (.int .i64 r11), (.int .i64 r13)]) 1 rfl rfl rfl ty3 rfl rfl rfl rfl ?_)
      refine c_nil ?_
      refine l_then ?_
      refine c_region ?_
      refine o_mv st rfl rfl ?_
      refine stw (o_call (vs := [(.pointer (some ⟨b1, 0, none⟩)), (.int .i64 12)]) (M0 := [cellCh b1 [v2, (.int .i64 r29)] 122]) Tryd.call68 rfl rfl (by intro w m h; exact (w_spec_l20Rd_pick (F := allB [cellCh b1 [v2, (.int .i64 r29)] 122] w) (r_0_b := r_0_b) (r_0_p := r29) (n_1 := 12) allB_ok m.given (m.rdM 2 rfl (reads_snap hv2)) h).mono (fun _ _ k => ret_free (fun r u => (fr_cons free_cell fr_nil)) k)) ?_); rintro ⟨r31, r32⟩ _
      refine o_fad st rfl rfl fld40_2 rfl ?_
      refine stw (o_stc (cs' := [(.int .i64 t24), (.int .i64 t30), (.int .i64 r31), (.int .i64 r13)]) 1 rfl rfl rfl ty3 rfl rfl rfl rfl ?_)
      refine c_nil ?_
      exact l_join (r32, t24, t30, r31) (fun a w hE hm => ⟨hE.sub ⟨rfl, rfl, rfl, rfl, trivial⟩, (hm.pick [0, 1, 2, 3] rfl)⟩)
    · refine c_skip ?_
      exact l_join (r18, r7, r9, r11) (fun a w hE hm => ⟨hE.sub ⟨rfl, rfl, rfl, rfl, trivial⟩, (hm.pick [0, 1, 2, 3] rfl)⟩)
  · rintro ⟨t93, t94, t95, t96⟩ a w ⟨hE, hm⟩ h
    refine nx_of hE hm h ?_
    clear hE hm h
    refine c_join (σ := (Int × Int × Int × Int × Int)) (fun ((t186, t187, t188, t189, t190) : (Int × Int × Int × Int × Int)) (a : Act) (w : World) => Has 71 [(4, (.pointer (some ⟨b5, 0, none⟩))), (5, (.pointer (some ⟨b15, 0, none⟩)))] a ∧ Mem (gB F [cellCh b1 [v2, (.int .i64 r_0_p)] 122] w0) (feet [cellCh b1 [v2, (.int .i64 r_0_p)] 122]) w0 [cellCh b1 [v2, (.int .i64 t186)] 122, cellCh b15 [(.int .i64 t187), (.int .i64 t188), (.int .i64 t189), (.int .i64 t190)] 40, cellCh b5 [(.int .i64 0), (.int .i64 0), (.int .i64 0), (.int .i64 0)] 40, snapCh w0 F] w) ?_ ?_
    · intro k191
      refine c_seq ?_
      refine c_region ?_
      refine o_mv st rfl rfl ?_
      refine o_mv st rfl rfl ?_
      refine stw (o_call (vs := [(.pointer (some ⟨b1, 0, none⟩)), (.int .i64 n_1)]) (M0 := [cellCh b1 [v2, (.int .i64 t93)] 122]) Tryd.call85 rfl rfl (by intro w m h; exact (w_spec_l20Rd_odd (F := allB [cellCh b1 [v2, (.int .i64 t93)] 122] w) (r_0_b := r_0_b) (r_0_p := t93) (n_1 := n_1) allB_ok m.given (m.rdM 2 rfl (reads_snap hv2)) h).mono (fun _ _ k => ret_free (fun r u => (fr_cons free_cell fr_nil)) k)) ?_); rintro ⟨r98, r99⟩ _
      refine c_nil ?_
      refine l_then ?_
      refine c_cond rfl ?_ ?_
      · refine c_seq ?_
        refine c_region ?_
        refine o_mv st rfl rfl ?_
        refine stw (o_call (vs := [(.pointer (some ⟨b1, 0, none⟩)), (.int .i64 4)]) (M0 := [cellCh b1 [v2, (.int .i64 r99)] 122]) Tryd.call68 rfl rfl (by intro w m h; exact (w_spec_l20Rd_pick (F := allB [cellCh b1 [v2, (.int .i64 r99)] 122] w) (r_0_b := r_0_b) (r_0_p := r99) (n_1 := 4) allB_ok m.given (m.rdM 2 rfl (reads_snap hv2)) h).mono (fun _ _ k => ret_free (fun r u => (fr_cons free_cell fr_nil)) k)) ?_); rintro ⟨r100, r101⟩ _
        refine c_nil ?_
        refine l_then ?_
        refine c_block ?_
        refine c_seq ?_
        refine c_region ?_
        refine o_eql st und3 rfl rfl rfl ?_
        refine o_as st rfl rfl ?_
        refine c_nil ?_
        refine l_then ?_
        refine c_cond rfl ?_ ?_
        · refine c_region ?_
          refine stw (o_bsl (enc := encInt) (qs := [(0, (.int .i64 (-1))), (1, (.int .i64 65536))]) (cells := [(.int .i64 (-1)), (.int .i64 65536)]) ([(-1), 65536]) flelInt (by intro ρ h; simp only [List.map_toArray, List.map_cons, List.map_nil, h (.const (.int .i64 (-1))) _ rfl, h (.const (.int .i64 65536)) _ rfl]) rfl el99 zero3 rfl rfl rfl rfl rfl rfl ?_); intro v102
          refine o_mv st rfl rfl ?_
          refine pk [1, 0, 2, 3, 4] rfl ?_
          refine stw (o_call (vs := [(.pointer (some ⟨b1, 0, none⟩)), (.int .i64 2)]) (M0 := [cellCh b1 [v2, (.int .i64 r101)] 122]) Tryd.call68 rfl rfl (by intro w m h; exact (w_spec_l20Rd_pick (F := allB [cellCh b1 [v2, (.int .i64 r101)] 122] w) (r_0_b := r_0_b) (r_0_p := r101) (n_1 := 2) allB_ok m.given (m.rdM 3 rfl (reads_snap hv2)) h).mono (fun _ _ k => ret_free (fun r u => (fr_cons free_cell fr_nil)) k)) ?_); rintro ⟨r104, r105⟩ _
          refine o_idx st 1 rfl reads_own rfl rfl rfl el99 ?_; intro e106 h107
          refine o_lds st (enc := encInt) (u := (.int .i64 e106)) 1 rfl reads_own flelInt rfl h107 rfl rfl ty3 rfl ?_
          refine o_fad st rfl rfl fld40_0 rfl ?_
          refine stw (o_stc (cs' := [(.int .i64 e106), (.int .i64 t95), (.int .i64 t96), (.int .i64 r13)]) 2 rfl rfl rfl ty3 rfl rfl rfl rfl ?_)
          refine c_nil ?_
          refine b_norm ?_
          exact l_join (r105, e106, t95, t96, r13) (fun a w hE hm => ⟨hE.sub ⟨rfl, rfl, trivial⟩, (hm.pick [0, 2, 3, 4] rfl)⟩)
        · refine c_seq ?_
          refine c_region ?_
          refine o_eql st und3 rfl rfl rfl ?_
          refine o_as st rfl rfl ?_
          refine c_nil ?_
          refine l_then ?_
          refine c_cond rfl ?_ ?_
          · refine c_region ?_
            refine stw (o_bsl (enc := encInt) (qs := [(0, (.int .i64 (-1))), (1, (.int .i64 65536))]) (cells := [(.int .i64 (-1)), (.int .i64 65536)]) ([(-1), 65536]) flelInt (by intro ρ h; simp only [List.map_toArray, List.map_cons, List.map_nil, h (.const (.int .i64 (-1))) _ rfl, h (.const (.int .i64 65536)) _ rfl]) rfl el99 zero3 rfl rfl rfl rfl rfl rfl ?_); intro v108
            refine o_mv st rfl rfl ?_
            refine pk [1, 0, 2, 3, 4] rfl ?_
            refine stw (o_call (vs := [(.pointer (some ⟨b1, 0, none⟩)), (.int .i64 2)]) (M0 := [cellCh b1 [v2, (.int .i64 r101)] 122]) Tryd.call68 rfl rfl (by intro w m h; exact (w_spec_l20Rd_pick (F := allB [cellCh b1 [v2, (.int .i64 r101)] 122] w) (r_0_b := r_0_b) (r_0_p := r101) (n_1 := 2) allB_ok m.given (m.rdM 3 rfl (reads_snap hv2)) h).mono (fun _ _ k => ret_free (fun r u => (fr_cons free_cell fr_nil)) k)) ?_); rintro ⟨r110, r111⟩ _
            refine o_idx st 1 rfl reads_own rfl rfl rfl el99 ?_; intro e112 h113
            refine o_lds st (enc := encInt) (u := (.int .i64 e112)) 1 rfl reads_own flelInt rfl h113 rfl rfl ty3 rfl ?_
            refine o_fad st rfl rfl fld40_1 rfl ?_
            refine stw (o_stc (cs' := [(.int .i64 t94), (.int .i64 e112), (.int .i64 t96), (.int .i64 r13)]) 2 rfl rfl rfl ty3 rfl rfl rfl rfl ?_)
            refine c_nil ?_
            refine b_norm ?_
            exact l_join (r111, t94, e112, t96, r13) (fun a w hE hm => ⟨hE.sub ⟨rfl, rfl, trivial⟩, (hm.pick [0, 2, 3, 4] rfl)⟩)
          · refine c_seq ?_
            refine c_region ?_
            refine o_eql st und3 rfl rfl rfl ?_
            refine o_as st rfl rfl ?_
            refine c_nil ?_
            refine l_then ?_
            refine c_cond rfl ?_ ?_
            · refine c_region ?_
              refine stw (o_bsl (enc := encInt) (qs := [(0, (.int .i64 (-1))), (1, (.int .i64 256))]) (cells := [(.int .i64 (-1)), (.int .i64 256)]) ([(-1), 256]) flelInt (by intro ρ h; simp only [List.map_toArray, List.map_cons, List.map_nil, h (.const (.int .i64 (-1))) _ rfl, h (.const (.int .i64 256)) _ rfl]) rfl el99 zero3 rfl rfl rfl rfl rfl rfl ?_); intro v114
              refine o_mv st rfl rfl ?_
              refine pk [1, 0, 2, 3, 4] rfl ?_
              refine stw (o_call (vs := [(.pointer (some ⟨b1, 0, none⟩)), (.int .i64 2)]) (M0 := [cellCh b1 [v2, (.int .i64 r101)] 122]) Tryd.call68 rfl rfl (by intro w m h; exact (w_spec_l20Rd_pick (F := allB [cellCh b1 [v2, (.int .i64 r101)] 122] w) (r_0_b := r_0_b) (r_0_p := r101) (n_1 := 2) allB_ok m.given (m.rdM 3 rfl (reads_snap hv2)) h).mono (fun _ _ k => ret_free (fun r u => (fr_cons free_cell fr_nil)) k)) ?_); rintro ⟨r116, r117⟩ _
              refine o_idx st 1 rfl reads_own rfl rfl rfl el99 ?_; intro e118 h119
              refine o_lds st (enc := encInt) (u := (.int .i64 e118)) 1 rfl reads_own flelInt rfl h119 rfl rfl ty3 rfl ?_
              refine o_fad st rfl rfl fld40_2 rfl ?_
              refine stw (o_stc (cs' := [(.int .i64 t94), (.int .i64 t95), (.int .i64 e118), (.int .i64 r13)]) 2 rfl rfl rfl ty3 rfl rfl rfl rfl ?_)
              refine c_nil ?_
              refine b_norm ?_
              exact l_join (r117, t94, t95, e118, r13) (fun a w hE hm => ⟨hE.sub ⟨rfl, rfl, trivial⟩, (hm.pick [0, 2, 3, 4] rfl)⟩)
            · refine c_region ?_
              refine stw (o_bsl (enc := encInt) (qs := [(0, (.int .i64 (-1))), (1, (.int .i64 8))]) (cells := [(.int .i64 (-1)), (.int .i64 8)]) ([(-1), 8]) flelInt (by intro ρ h; simp only [List.map_toArray, List.map_cons, List.map_nil, h (.const (.int .i64 (-1))) _ rfl, h (.const (.int .i64 8)) _ rfl]) rfl el99 zero3 rfl rfl rfl rfl rfl rfl ?_); intro v120
              refine o_mv st rfl rfl ?_
              refine pk [1, 0, 2, 3, 4] rfl ?_
              refine stw (o_call (vs := [(.pointer (some ⟨b1, 0, none⟩)), (.int .i64 2)]) (M0 := [cellCh b1 [v2, (.int .i64 r101)] 122]) Tryd.call68 rfl rfl (by intro w m h; exact (w_spec_l20Rd_pick (F := allB [cellCh b1 [v2, (.int .i64 r101)] 122] w) (r_0_b := r_0_b) (r_0_p := r101) (n_1 := 2) allB_ok m.given (m.rdM 3 rfl (reads_snap hv2)) h).mono (fun _ _ k => ret_free (fun r u => (fr_cons free_cell fr_nil)) k)) ?_); rintro ⟨r122, r123⟩ _
              refine o_idx st 1 rfl reads_own rfl rfl rfl el99 ?_; intro e124 h125
              refine o_lds st (enc := encInt) (u := (.int .i64 e124)) 1 rfl reads_own flelInt rfl h125 rfl rfl ty3 rfl ?_
              refine o_fad st rfl rfl fld40_3 rfl ?_
              refine stw (o_stc (cs' := [(.int .i64 t94), (.int .i64 t95), (.int .i64 t96), (.int .i64 e124)]) 2 rfl rfl rfl ty3 rfl rfl rfl rfl ?_)
              refine c_nil ?_
              refine b_norm ?_
              exact l_join (r123, t94, t95, t96, e124) (fun a w hE hm => ⟨hE.sub ⟨rfl, rfl, trivial⟩, (hm.pick [0, 2, 3, 4] rfl)⟩)
      · refine c_skip ?_
        exact l_join (r99, t94, t95, t96, r13) (fun a w hE hm => ⟨hE.sub ⟨rfl, rfl, trivial⟩, (hm.pick [0, 1, 2, 3] rfl)⟩)
    · rintro ⟨t186, t187, t188, t189, t190⟩ a w ⟨hE, hm⟩ h
      refine nx_of hE hm h ?_
      clear hE hm h
      refine c_seq ?_
      refine c_region ?_
      refine o_ldc st (v := (.agg #[(.int .i64 t187), (.int .i64 t188), (.int .i64 t189), (.int .i64 t190)])) 1 rfl rfl rfl ty40 rfl ?_
      refine stw (o_stc (cs' := [(.int .i64 t187), (.int .i64 t188), (.int .i64 t189), (.int .i64 t190)]) 2 rfl rfl rfl ty40 rfl rfl rfl rfl ?_)
      refine c_nil ?_
      refine l_then ?_
      refine c_ret ?_
      exact l_end1 Tryd.results86 ((GPacket.mk t187 t188 t189 t190), t186) () (rv_c 2 rfl rfl ty40 rfl) (fun w m => NewCh.ofB m [0] rfl)

set_option maxRecDepth 100000 in
set_option maxHeartbeats 8000000 in
theorem w_spec_l20Packets {w0 : World} {F : Nat → Prop} {b1 : Nat} {v2 : Value} {r_0_b : (List UInt8)} {r_0_p : Int} {n_1 : Int} {κ : ((List GPacket) × Int) → Prop} (hF : ∀ b, F b → b < w0.heap.size ∧ ¬ feet [cellCh b1 [v2, (.int .i64 r_0_p)] 122] b) (hg : Given [cellCh b1 [v2, (.int .i64 r_0_p)] 122] F w0) (hv2 : Sl elU8 F w0 v2 r_0_b) (h : L_spec_l20Packets r_0_b r_0_p n_1 κ) :
    Calls Tryd.prog 51 #[(.pointer (some ⟨b1, 0, none⟩)), (.int .i64 n_1)] w0 (Ret [cellCh b1 [v2, (.int .i64 r_0_p)] 122] F w0 κ (fun (r : ((List GPacket) × Int)) (u : Value) => u) (fun (r : ((List GPacket) × Int)) (u : Value) => [ownCh elGPacket 40 u r.1, cellCh b1 [v2, (.int .i64 r.2)] 122])) := by
  refine enterS (args := [(.pointer (some ⟨b1, 0, none⟩)), (.int .i64 n_1)]) [cellCh b1 [v2, (.int .i64 r_0_p)] 122] hF hg Tryd.func51 rfl Tryd.ntmps51 rfl h ?_
  clear h hF hg
  refine c_seq ?_
  refine c_region ?_
  refine stw (o_asn elGPacket 40 rfl rfl ?_)
  refine c_nil ?_
  refine l_then ?_
  refine c_seq ?_
  refine c_region ?_
  refine stw (o_bsl (enc := encGPacket) (qs := []) (cells := []) ([] : (List GPacket)) flelGPacket (by intro ρ h; simp only [List.map_toArray, List.map_cons, List.map_nil]) rfl el26 zero40 rfl rfl rfl rfl rfl rfl ?_); intro v6
  refine o_as st rfl rfl ?_
  refine c_nil ?_
  refine l_then ?_
  refine c_seq ?_
  refine c_seq ?_
  refine c_region ?_
  refine o_mv st rfl rfl ?_
  refine pk [2, 0, 1, 3] rfl ?_
  refine stw (o_call (vs := [(.pointer (some ⟨b1, 0, none⟩)), (.int .i64 7)]) (M0 := [cellCh b1 [v2, (.int .i64 r_0_p)] 122]) Tryd.call68 rfl rfl (by intro w m h; exact (w_spec_l20Rd_pick (F := allB [cellCh b1 [v2, (.int .i64 r_0_p)] 122] w) (r_0_b := r_0_b) (r_0_p := r_0_p) (n_1 := 7) allB_ok m.given (m.rdM 2 rfl (reads_snap hv2)) h).mono (fun _ _ k => ret_free (fun r u => (fr_cons free_cell fr_nil)) k)) ?_); rintro ⟨r8, r9⟩ _
  refine o_as st rfl rfl ?_
  refine c_nil ?_
  refine l_then ?_
  refine c_block ?_
  refine c_loop (σ := (Int × (List GPacket) × Int)) (fun ((t10, xs12, t15) : (Int × (List GPacket) × Int)) (a : Act) (w : World) => ∃ (v11 : Value), Has 51 [(0, (.pointer (some ⟨b1, 0, none⟩))), (1, (.int .i64 n_1)), (5, v11), (6, (.int .i64 t15))] a ∧ Mem (gB F [cellCh b1 [v2, (.int .i64 r_0_p)] 122] w0) (feet [cellCh b1 [v2, (.int .i64 r_0_p)] 122]) w0 [cellCh b1 [v2, (.int .i64 t10)] 122, snapCh w0 F, ownCh elGPacket 40 v11 xs12] w) (fun a w hE hm => ⟨v6, hE.sub ⟨rfl, rfl, rfl, rfl, trivial⟩, (hm.pick [0, 3, 1] rfl)⟩) ?_
  rintro nx16 ⟨t10, xs12, t15⟩ a w ⟨v11, hE, hm⟩ h
  refine nx_of hE hm h ?_
  clear hE hm h
  refine c_seq ?_
  refine c_seq ?_
  refine c_region ?_
  refine o_mv st rfl rfl ?_
  refine o_gtr st rfl rfl rfl ?_
  refine c_nil ?_
  refine l_then ?_
  refine c_cond rfl ?_ ?_
  · refine c_skip ?_
    refine l_then ?_
    refine c_join (σ := ((List GPacket) × Int)) (fun ((xs157, t160) : ((List GPacket) × Int)) (a : Act) (w : World) => ∃ (v158 : Value), Has 51 [(0, (.pointer (some ⟨b1, 0, none⟩))), (1, (.int .i64 n_1)), (5, v158), (6, (.int .i64 t15))] a ∧ Mem (gB F [cellCh b1 [v2, (.int .i64 r_0_p)] 122] w0) (feet [cellCh b1 [v2, (.int .i64 r_0_p)] 122]) w0 [cellCh b1 [v2, (.int .i64 t160)] 122, ownCh elGPacket 40 v158 xs157, snapCh w0 F] w) ?_ ?_
    · intro k161
      refine c_block ?_
      refine c_seq ?_
      refine c_region ?_
      refine o_mv st rfl rfl ?_
      refine o_mv st rfl rfl ?_
      refine stw (o_call (vs := [(.pointer (some ⟨b1, 0, none⟩)), (.int .i64 0)]) (M0 := [cellCh b1 [v2, (.int .i64 t10)] 122]) Tryd.call86 rfl rfl (by intro w m h; exact (w_spec_l20Packet (F := allB [cellCh b1 [v2, (.int .i64 t10)] 122] w) (r_0_b := r_0_b) (r_0_p := t10) (n_1 := 0) allB_ok m.given (m.rdM 0 rfl (reads_snap hv2)) h).mono (fun _ _ k => ret_free (fun r u => (fr_cons free_cell fr_nil)) k)) ?_); rintro ⟨r17, r18⟩ _
      refine stw (o_bsl (enc := encGPacket) (qs := [(0, (.agg #[(.int .i64 r17.xFrom), (.int .i64 r17.xTo), (.int .i64 r17.xPort), (.int .i64 r17.xProto)]))]) (cells := [(.int .i64 r17.xFrom), (.int .i64 r17.xTo), (.int .i64 r17.xPort), (.int .i64 r17.xProto)]) ([r17]) flelGPacket (by intro ρ h; simp only [List.map_toArray, List.map_cons, List.map_nil, h (.tmp 16) _ rfl]) rfl el26 zero40 rfl rfl rfl rfl rfl rfl ?_); intro v19
      refine stw (o_app 3 0 rfl rfl (src_flat flelGPacket reads_own) rfl rfl rfl el26 rfl zero40 rfl rfl ?_); intro v21
      refine o_as st rfl rfl ?_
      refine c_nil ?_
      refine l_then ?_
      refine c_join (σ := (Int × Bool)) (fun ((t85, t86) : (Int × Bool)) (a : Act) (w : World) => Has 51 [(0, (.pointer (some ⟨b1, 0, none⟩))), (1, (.int .i64 n_1)), (5, v21), (6, (.int .i64 t15)), (26, (.bool t86))] a ∧ Mem (gB F [cellCh b1 [v2, (.int .i64 r_0_p)] 122] w0) (feet [cellCh b1 [v2, (.int .i64 r_0_p)] 122]) w0 [cellCh b1 [v2, (.int .i64 t85)] 122, ownCh elGPacket 40 v21 (xs12 ++ ([r17])), snapCh w0 F] w) ?_ ?_
      · intro k87
        refine c_region ?_
        refine o_mv st rfl rfl ?_
        refine o_len st el26 3 rfl reads_own rfl rfl ?_
        refine o_gtr st rfl rfl rfl ?_
        refine o_mv st rfl rfl ?_
        refine st_sp (dj := 22) rfl ?_ ?_
        · refine o_mv (st_g rfl rfl) rfl rfl ?_
          refine pk [1, 0, 2, 3] rfl ?_
          refine st_gw rfl rfl (o_call (vs := [(.pointer (some ⟨b1, 0, none⟩)), (.int .i64 3)]) (M0 := [cellCh b1 [v2, (.int .i64 r18)] 122]) Tryd.call68 rfl rfl (by intro w m h; exact (w_spec_l20Rd_pick (F := allB [cellCh b1 [v2, (.int .i64 r18)] 122] w) (r_0_b := r_0_b) (r_0_p := r18) (n_1 := 3) allB_ok m.given (m.rdM 1 rfl (reads_snap hv2)) h).mono (fun _ _ k => ret_free (fun r u => (fr_cons free_cell fr_nil)) k)) ?_); rintro ⟨r23, r24⟩ _
          refine o_eql (st_g rfl rfl) und3 rfl rfl rfl ?_
          refine o_pickT st rfl rfl rfl ?_
          refine c_nil ?_
          exact l_join (r24, (decide (r23 = 0))) (fun a w hE hm => ⟨hE.sub ⟨rfl, rfl, rfl, rfl, rfl, trivial⟩, (hm.pick [0, 3, 2] rfl)⟩)
        · refine st_s rfl rfl rfl rfl ?_
          refine st_s rfl rfl rfl rfl ?_
          refine st_s rfl rfl rfl rfl ?_
          refine o_pickF st rfl rfl rfl ?_
          refine c_nil ?_
          exact l_join (r18, false) (fun a w hE hm => ⟨hE.sub ⟨rfl, rfl, rfl, rfl, rfl, trivial⟩, (hm.pick [1, 3, 2] rfl)⟩)
      · rintro ⟨t85, t86⟩ a w ⟨hE, hm⟩ h
        refine nx_of hE hm h ?_
        clear hE hm h
        refine c_cond rfl ?_ ?_
        · refine c_region ?_
          refine o_mv st rfl rfl ?_
          refine o_mv st rfl rfl ?_
          refine o_mv st rfl rfl ?_
          refine o_mv st rfl rfl ?_
          refine o_len st el26 1 rfl reads_own rfl rfl ?_
          refine stw (o_call (vs := [(.pointer (some ⟨b1, 0, none⟩)), (.int .i64 ((xs12 ++ ([r17])).length : Int))]) (M0 := [cellCh b1 [v2, (.int .i64 t85)] 122]) Tryd.call68 rfl rfl (by intro w m h; exact (w_spec_l20Rd_pick (F := allB [cellCh b1 [v2, (.int .i64 t85)] 122] w) (r_0_b := r_0_b) (r_0_p := t85) (n_1 := ((xs12 ++ ([r17])).length : Int)) allB_ok m.given (m.rdM 1 rfl (reads_snap hv2)) h).mono (fun _ _ k => ret_free (fun r u => (fr_cons free_cell fr_nil)) k)) ?_); rintro ⟨r88, r89⟩ _
          refine o_idx st 1 rfl reads_own rfl rfl rfl el26 ?_; intro e90 h91
          refine o_lds st (enc := encGPacket) (u := (.agg #[(.int .i64 e90.xFrom), (.int .i64 e90.xTo), (.int .i64 e90.xPort), (.int .i64 e90.xProto)])) 1 rfl reads_own flelGPacket rfl h91 rfl rfl ty40 rfl ?_
          refine stw (o_callP (vs := [(.agg #[(.int .i64 e90.xFrom), (.int .i64 e90.xTo), (.int .i64 e90.xPort), (.int .i64 e90.xProto)])]) Tryd.call59 rfl rfl (by intro w m h; exact (w_spec_ReversePacket (F := allB [] w) (p_0 := e90) allB_ok h).mono (fun _ _ k => ret_free (fun r u => fr_nil) k)) ?_); rintro r92 _
          refine stw (o_bsl (enc := encGPacket) (qs := [(0, (.agg #[(.int .i64 r92.xFrom), (.int .i64 r92.xTo), (.int .i64 r92.xPort), (.int .i64 r92.xProto)]))]) (cells := [(.int .i64 r92.xFrom), (.int .i64 r92.xTo), (.int .i64 r92.xPort), (.int .i64 r92.xProto)]) ([r92]) flelGPacket (by intro ρ h; simp only [List.map_toArray, List.map_cons, List.map_nil, h (.tmp 35) _ rfl]) rfl el26 zero40 rfl rfl rfl rfl rfl rfl ?_); intro v93
          refine stw (o_app 2 0 rfl rfl (src_flat flelGPacket reads_own) rfl rfl rfl el26 rfl zero40 rfl rfl ?_); intro v95
          refine o_as st rfl rfl ?_
          refine c_nil ?_
          refine b_norm ?_
          exact l_join (((xs12 ++ ([r17])) ++ ([r92])), r89) (fun a w hE hm => ⟨v95, hE.sub ⟨rfl, rfl, rfl, rfl, trivial⟩, (hm.pick [1, 2, 3] rfl)⟩)
        · refine c_skip ?_
          refine b_norm ?_
          exact l_join ((xs12 ++ ([r17])), t85) (fun a w hE hm => ⟨v21, hE.sub ⟨rfl, rfl, rfl, rfl, trivial⟩, (hm.pick [0, 1, 2] rfl)⟩)
    · rintro ⟨xs157, t160⟩ a w ⟨v158, hE, hm⟩ h
      refine nx_of hE hm h ?_
      clear hE hm h
      refine c_region ?_
      refine o_mv st rfl rfl ?_
      refine o_sub st rfl rfl rfl ?_; intro t162
      refine o_as st rfl rfl ?_
      refine c_nil ?_
      exact l_join (t160, xs157, t162) (fun a w hE hm => ⟨v158, hE.sub ⟨rfl, rfl, rfl, rfl, trivial⟩, (hm.pick [0, 2, 1] rfl)⟩)
  · refine c_exit ?_
    refine l_exit ?_
    refine l_exit ?_
    refine b_exit ?_
    refine l_then ?_
    refine c_join (σ := (Int × (List GPacket))) (fun ((t236, xs238) : (Int × (List GPacket))) (a : Act) (w : World) => ∃ (v237 : Value), Has 51 [(5, v237)] a ∧ Mem (gB F [cellCh b1 [v2, (.int .i64 r_0_p)] 122] w0) (feet [cellCh b1 [v2, (.int .i64 r_0_p)] 122]) w0 [cellCh b1 [v2, (.int .i64 t236)] 122, snapCh w0 F, ownCh elGPacket 40 v237 xs238] w) ?_ ?_
    · intro k241
      refine c_seq ?_
      refine c_region ?_
      refine o_mv st rfl rfl ?_
      refine o_mv st rfl rfl ?_
      refine stw (o_call (vs := [(.pointer (some ⟨b1, 0, none⟩)), (.int .i64 n_1)]) (M0 := [cellCh b1 [v2, (.int .i64 t10)] 122]) Tryd.call85 rfl rfl (by intro w m h; exact (w_spec_l20Rd_odd (F := allB [cellCh b1 [v2, (.int .i64 t10)] 122] w) (r_0_b := r_0_b) (r_0_p := t10) (n_1 := n_1) allB_ok m.given (m.rdM 0 rfl (reads_snap hv2)) h).mono (fun _ _ k => ret_free (fun r u => (fr_cons free_cell fr_nil)) k)) ?_); rintro ⟨r163, r164⟩ _
      refine c_nil ?_
      refine l_then ?_
      refine c_cond rfl ?_ ?_
      · refine c_seq ?_
        refine c_region ?_
        refine o_mv st rfl rfl ?_
        refine stw (o_call (vs := [(.pointer (some ⟨b1, 0, none⟩)), (.int .i64 2)]) (M0 := [cellCh b1 [v2, (.int .i64 r164)] 122]) Tryd.call68 rfl rfl (by intro w m h; exact (w_spec_l20Rd_pick (F := allB [cellCh b1 [v2, (.int .i64 r164)] 122] w) (r_0_b := r_0_b) (r_0_p := r164) (n_1 := 2) allB_ok m.given (m.rdM 0 rfl (reads_snap hv2)) h).mono (fun _ _ k => ret_free (fun r u => (fr_cons free_cell fr_nil)) k)) ?_); rintro ⟨r165, r166⟩ _
        refine o_eql st und3 rfl rfl rfl ?_
        refine c_nil ?_
        refine l_then ?_
        refine c_cond rfl ?_ ?_
        · refine c_region ?_
          refine o_mv st rfl rfl ?_
          refine o_mv st rfl rfl ?_
          refine stw (o_call (vs := [(.pointer (some ⟨b1, 0, none⟩)), (.int .i64 1)]) (M0 := [cellCh b1 [v2, (.int .i64 r166)] 122]) Tryd.call86 rfl rfl (by intro w m h; exact (w_spec_l20Packet (F := allB [cellCh b1 [v2, (.int .i64 r166)] 122] w) (r_0_b := r_0_b) (r_0_p := r166) (n_1 := 1) allB_ok m.given (m.rdM 0 rfl (reads_snap hv2)) h).mono (fun _ _ k => ret_free (fun r u => (fr_cons free_cell fr_nil)) k)) ?_); rintro ⟨r167, r168⟩ _
          refine stw (o_bsl (enc := encGPacket) (qs := [(0, (.agg #[(.int .i64 r167.xFrom), (.int .i64 r167.xTo), (.int .i64 r167.xPort), (.int .i64 r167.xProto)]))]) (cells := [(.int .i64 r167.xFrom), (.int .i64 r167.xTo), (.int .i64 r167.xPort), (.int .i64 r167.xProto)]) ([r167]) flelGPacket (by intro ρ h; simp only [List.map_toArray, List.map_cons, List.map_nil, h (.tmp 46) _ rfl]) rfl el26 zero40 rfl rfl rfl rfl rfl rfl ?_); intro v169
          refine stw (o_app 3 0 rfl rfl (src_flat flelGPacket reads_own) rfl rfl rfl el26 rfl zero40 rfl rfl ?_); intro v171
          refine o_as st rfl rfl ?_
          refine c_nil ?_
          exact l_join (r168, (xs12 ++ ([r167]))) (fun a w hE hm => ⟨v171, hE.sub ⟨rfl, trivial⟩, (hm.pick [1, 2, 3] rfl)⟩)
        · refine c_region ?_
          refine stw (o_make (z := (GPacket.mk 0 0 0 0)) flelGPacket rfl rfl rfl el26 rfl zero40 rfl rfl ?_); intro v173 xs174
          refine o_as st rfl rfl ?_
          refine c_nil ?_
          exact l_join (r166, xs174) (fun a w hE hm => ⟨v173, hE.sub ⟨rfl, trivial⟩, (hm.pick [1, 2, 0] rfl)⟩)
      · refine c_skip ?_
        exact l_join (r164, xs12) (fun a w hE hm => ⟨v11, hE.sub ⟨rfl, trivial⟩, (hm.pick [0, 1, 2] rfl)⟩)
    · rintro ⟨t236, xs238⟩ a w ⟨v237, hE, hm⟩ h
      refine nx_of hE hm h ?_
      clear hE hm h
      refine c_seq ?_
      refine c_region ?_
      refine o_mv st rfl rfl ?_
      refine o_as st rfl rfl ?_
      refine c_nil ?_
      refine l_then ?_
      refine c_ret ?_
      exact l_end1 Tryd.results51 (xs238, t236) v237 (rv_t rfl) (fun w m => NewCh.ofB m [2, 0] rfl)

set_option maxRecDepth 100000 in
set_option maxHeartbeats 8000000 in
theorem w_spec_DrawJudgeAll {w0 : World} {F : Nat → Prop} {v1 : Value} {code_0 : (List UInt8)} {κ : (GRuleset × (List GPacket)) → Prop} (hF : ∀ b, F b → b < w0.heap.size ∧ ¬ feet [] b) (hv1 : Sl elU8 F w0 v1 code_0) (h : L_spec_DrawJudgeAll code_0 κ) :
    Calls Tryd.prog 11 #[v1] w0 (Ret [] F w0 κ (fun (r : (GRuleset × (List GPacket))) (u : Value × List Nat × Value) => .tuple #[(.agg #[u.1, (.bool r.1.xAccept)]), u.2.2]) (fun (r : (GRuleset × (List GPacket))) (u : Value × List Nat × Value) => [dpCh (dSl dGRule 104) 101 u.2.1 u.1 r.1.xChains, ownCh elGPacket 40 u.2.2 r.2])) := by
  refine enterS (args := [v1]) [] hF (Given.nil _ _) Tryd.func11 rfl Tryd.ntmps11 rfl h ?_
  clear h hF
  refine c_seq ?_
  refine c_region ?_
  refine stw (o_alloc rfl [(.slice none 0 0), (.bool false)] zero25 ?_); intro b3
  refine stw (o_asn elGPacket 40 rfl rfl ?_)
  refine c_nil ?_
  refine l_then ?_
  refine c_seq ?_
  refine c_region ?_
  refine o_mv st rfl rfl ?_
  refine stw (o_callP (vs := [v1]) Tryd.call49 rfl rfl (by intro w m h; exact w_spec_l20Open (code_0 := code_0) fz_ok0 (m.roS 2 rfl hv1) h) ?_); rintro ⟨r8, r11⟩ ⟨b6, v9⟩
  refine o_as st rfl rfl ?_
  refine c_nil ?_
  refine l_then ?_
  refine c_seq ?_
  refine c_region ?_
  refine o_mv st rfl rfl ?_
  refine stw (o_call (vs := [(.pointer (some ⟨b6, 0, none⟩)), (.int .i64 14)]) (M0 := [cellCh b6 [v9, (.int .i64 r11)] 122]) Tryd.call50 rfl rfl (by intro w m h; exact (w_spec_l20Ruleset (F := allB [cellCh b6 [v9, (.int .i64 r11)] 122] w) (r_0_b := r8) (r_0_p := r11) (n_1 := 14) allB_ok m.given (m.rdM 0 rfl reads_ro) h).mono (fun _ _ k => ret_free (fun r u => (fr_cons free_dp (fr_cons free_cell fr_nil))) k)) ?_); rintro ⟨r12, r16⟩ ⟨v13, bb14⟩
  refine stw (o_alloc rfl [(.slice none 0 0), (.bool false)] zero25 ?_); intro b17
  refine nx_dp 1 rfl ?_; rintro a19 l20 q21 rfl
  refine stw (o_stc (cs' := [(.slice a19 l20 q21), (.bool r12.xAccept)]) 0 rfl rfl rfl ty25 rfl rfl rfl rfl ?_)
  refine c_nil ?_
  refine l_then ?_
  refine c_seq ?_
  refine nx_ro 3 rfl ?_; rintro a22 l23 q24 rfl
  refine c_draw mixed 5 rfl [cellCh b17 [(.slice a19 l20 q21), (.bool r12.xAccept)] 25, dpCh (dSl dGRule 104) 101 bb14 (.slice a19 l20 q21) r12.xChains, roCh elU8 (.slice a22 l23 q24) r8, ownCh elGPacket 40 (.slice none 0 0) ([]), snapCh w0 F] ?_
  refine o_ldc (dt 0 (fun w m => m.pick [0, 1, 3, 4, 6] rfl)) (v := (.agg #[(.slice a19 l20 q21), (.bool r12.xAccept)])) 0 rfl rfl rfl ty25 rfl ?_
  refine o_mv (dt 1 (fun w m => m.pick [0, 1, 3, 4, 6] rfl)) rfl rfl ?_
  refine pk [2, 0, 1, 3, 4, 5, 6] rfl ?_
  refine d_one (i := 2) rfl (by kernel_rfl) (o_call (vs := [(.pointer (some ⟨b6, 0, none⟩)), (.int .i64 12)]) (M0 := [cellCh b6 [(.slice a22 l23 q24), (.int .i64 r16)] 122]) Tryd.call51 rfl rfl (by intro w m h; exact (w_spec_l20Packets (F := allB [cellCh b6 [(.slice a22 l23 q24), (.int .i64 r16)] 122] w) (r_0_b := r8) (r_0_p := r16) (n_1 := 12) allB_ok m.given (m.rdM 2 rfl reads_ro) h).mono (fun _ _ k => ret_free (fun r u => (fr_cons (free_own flelGPacket) (fr_cons free_cell fr_nil))) k)) ?_); rintro ⟨r25, r28⟩ v26
  refine d_and (fun w m => m.pick [2, 3, 4, 5, 7] rfl) ?_
  refine d_one (i := 3) rfl (by kernel_rfl) (o_stc (cs' := [(.slice a19 l20 q21), (.bool r12.xAccept)]) 6 rfl rfl rfl ty25 rfl rfl rfl rfl ?_)
  refine d_and (fun w m => m.pick [2, 3, 4, 5, 7] rfl) ?_
  refine o_as (dt 4 (fun w m => m.pick [2, 3, 4, 5, 7] rfl)) rfl rfl ?_
  refine d_done (by kernel_rfl) ?_
  refine l_then ?_
  refine c_ret ?_
  exact l_end2 Tryd.results11 (r12, r25) ((.slice a19 l20 q21), bb14, v26) (rv_c 6 rfl rfl ty25 rfl) (rv_t rfl) rfl (fun w m => NewCh.ofB m [3, 0] rfl)

set_option maxRecDepth 100000 in
set_option maxHeartbeats 8000000 in
theorem w_impl_FieldTop {w0 : World} {F : Nat → Prop} {n_0 : Int} {κ : Int → Prop} (hF : ∀ b, F b → b < w0.heap.size ∧ ¬ feet [] b) (hgl0 : Sl elGFieldShape F w0 (.slice (some ⟨0, 0, none⟩) 4 4) gl_impl_fieldShapes) (h : L_impl_FieldTop n_0 κ) :
    Calls Tryd.prog 95 #[(.int .i64 n_0)] w0 (Ret [] F w0 κ (fun (r : Int) (u : Unit) => (.int .i64 r)) (fun (r : Int) (u : Unit) => [])) := by
  refine enterS (args := [(.int .i64 n_0)]) [] hF (Given.nil _ _) Tryd.func95 rfl Tryd.ntmps95 rfl h ?_
  clear h hF
  refine c_seq ?_
  refine c_region ?_
  refine o_as st rfl rfl ?_
  refine c_nil ?_
  refine l_then ?_
  refine c_seq ?_
  refine c_join (σ := Bool) (fun (t61 : Bool) (a : Act) (w : World) => Has 13 [(0, (.int .i64 n_0)), (8, (.bool t61))] a ∧ Mem (gB F [] w0) (feet []) w0 [snapCh w0 F] w) ?_ ?_
  · intro k62
    refine c_region ?_
    refine o_mv st rfl rfl ?_
    refine o_lss st rfl rfl rfl ?_
    refine o_mv st rfl rfl ?_
    refine st_sp (dj := 5) rfl ?_ ?_
    · refine st_s rfl rfl rfl rfl ?_
      refine st_s rfl rfl rfl rfl ?_
      refine o_pickT st rfl rfl rfl ?_
      refine c_nil ?_
      exact l_join true (fun a w hE hm => ⟨hE.sub ⟨rfl, rfl, trivial⟩, (hm.pick [0] rfl)⟩)
    · refine o_mv (st_g rfl rfl) rfl rfl ?_
      refine o_geq (st_g rfl rfl) rfl rfl rfl ?_
      refine o_pickF st rfl rfl rfl ?_
      refine c_nil ?_
      exact l_join (decide (4 ≤ n_0)) (fun a w hE hm => ⟨hE.sub ⟨rfl, rfl, trivial⟩, (hm.pick [0] rfl)⟩)
  · rintro t61 a w ⟨hE, hm⟩ h
    refine nx_of hE hm h ?_
    clear hE hm h
    refine c_cond rfl ?_ ?_
    · refine c_seq ?_
      refine c_region ?_
      refine o_as st rfl rfl ?_
      refine c_nil ?_
      refine l_then ?_
      refine c_ret ?_
      refine l_ret ?_
      exact l_end1 Tryd.results95 (-1) () (rv_t rfl) (fun _ _ => NewCh.nil _ _ _ _)
    · refine c_skip ?_
      refine l_then ?_
      refine c_seq ?_
      refine c_region ?_
      refine o_mv st rfl rfl ?_
      refine o_ixa st 0 rfl (reads_snap hgl0) rfl rfl rfl arr169 ?_; intro e63 h64
      refine o_fadS st 0 rfl (reads_snap hgl0) h64 rfl rfl fld168_1 rfl ?_
      refine o_lds st (enc := encGFieldShape) (u := (.int .i64 e63.xTop)) 0 rfl (reads_snap hgl0) flelGFieldShape rfl h64 rfl rfl ty3 rfl ?_
      refine o_as st rfl rfl ?_
      refine c_nil ?_
      refine l_then ?_
      refine c_ret ?_
      exact l_end1 Tryd.results95 e63.xTop () (rv_t rfl) (fun _ _ => NewCh.nil _ _ _ _)

set_option maxRecDepth 100000 in
set_option maxHeartbeats 8000000 in
theorem w_impl_TestValid {w0 : World} {F : Nat → Prop} {t_0 : GTest} {κ : Bool → Prop} (hF : ∀ b, F b → b < w0.heap.size ∧ ¬ feet [] b) (hgl0 : Sl elGFieldShape F w0 (.slice (some ⟨0, 0, none⟩) 4 4) gl_impl_fieldShapes) (h : L_impl_TestValid t_0 κ) :
    Calls Tryd.prog 124 #[(.agg #[(.int .i64 t_0.xField), (.int .i64 t_0.xLo), (.int .i64 t_0.xHi), (.bool t_0.xNot)])] w0 (Ret [] F w0 κ (fun (r : Bool) (u : Unit) => (.bool r)) (fun (r : Bool) (u : Unit) => [])) := by
  refine enterS (args := [(.agg #[(.int .i64 t_0.xField), (.int .i64 t_0.xLo), (.int .i64 t_0.xHi), (.bool t_0.xNot)])]) [] hF (Given.nil _ _) Tryd.func124 rfl Tryd.ntmps124 rfl h ?_
  clear h hF
  refine c_seq ?_
  refine c_region ?_
  refine stw (o_box rfl rfl [(.int .i64 t_0.xField), (.int .i64 t_0.xLo), (.int .i64 t_0.xHi), (.bool t_0.xNot)] rfl ?_); intro b1
  refine o_as st rfl rfl ?_
  refine c_nil ?_
  refine l_then ?_
  refine c_join (σ := Bool) (fun (t64 : Bool) (a : Act) (w : World) => Has 31 [(2, (.bool t64))] a ∧ Mem (gB F [] w0) (feet []) w0 [snapCh w0 F] w) ?_ ?_
  · intro k65
    refine c_draw mixed 29 rfl [cellCh b1 [(.int .i64 t_0.xField), (.int .i64 t_0.xLo), (.int .i64 t_0.xHi), (.bool t_0.xNot)] 173, snapCh w0 F] ?_
    refine o_fad (dt 0 (fun _ m => m)) rfl rfl fld173_0 rfl ?_
    refine o_ldc (dt 1 (fun _ m => m)) (v := (.int .i64 t_0.xField)) 0 rfl rfl rfl ty3 rfl ?_
    refine o_geq (dt 2 (fun _ m => m)) rfl rfl rfl ?_
    refine o_mv (dt 3 (fun _ m => m)) rfl rfl ?_
    refine st_sp (dj := 6) rfl ?_ ?_
    · refine o_fad (dtg 4 (fun _ m => m)) rfl rfl fld173_0 rfl ?_
      refine o_ldc (dtg 5 (fun _ m => m)) (v := (.int .i64 t_0.xField)) 0 rfl rfl rfl ty3 rfl ?_
      refine o_lss (dtg 6 (fun _ m => m)) rfl rfl rfl ?_
      refine o_pickT (dt 7 (fun _ m => m)) rfl rfl rfl ?_
      refine o_mv (dt 8 (fun _ m => m)) rfl rfl ?_
      refine st_sp (dj := 11) rfl ?_ ?_
      · refine o_fad (dtg 9 (fun _ m => m)) rfl rfl fld173_1 rfl ?_
        refine o_ldc (dtg 10 (fun _ m => m)) (v := (.int .i64 t_0.xLo)) 0 rfl rfl rfl ty3 rfl ?_
        refine o_geq (dtg 11 (fun _ m => m)) rfl rfl rfl ?_
        refine o_pickT (dt 12 (fun _ m => m)) rfl rfl rfl ?_
        refine o_mv (dt 13 (fun _ m => m)) rfl rfl ?_
        refine st_sp (dj := 16) rfl ?_ ?_
        · refine o_fad (dtg 14 (fun _ m => m)) rfl rfl fld173_1 rfl ?_
          refine o_ldc (dtg 15 (fun _ m => m)) (v := (.int .i64 t_0.xLo)) 0 rfl rfl rfl ty3 rfl ?_
          refine o_fad (dtg 16 (fun _ m => m)) rfl rfl fld173_2 rfl ?_
          refine o_ldc (dtg 17 (fun _ m => m)) (v := (.int .i64 t_0.xHi)) 0 rfl rfl rfl ty3 rfl ?_
          refine o_leq (dtg 18 (fun _ m => m)) rfl rfl rfl ?_
          refine o_pickT (dt 19 (fun _ m => m)) rfl rfl rfl ?_
          refine o_mv (dt 20 (fun _ m => m)) rfl rfl ?_
          refine st_sp (dj := 23) rfl ?_ ?_
          · refine o_fad (dtg 21 (fun _ m => m)) rfl rfl fld173_2 rfl ?_
            refine o_ldc (dtg 22 (fun _ m => m)) (v := (.int .i64 t_0.xHi)) 0 rfl rfl rfl ty3 rfl ?_
            refine o_fad (dtg 23 (fun _ m => m)) rfl rfl fld173_0 rfl ?_
            refine o_ldc (dtg 24 (fun _ m => m)) (v := (.int .i64 t_0.xField)) 0 rfl rfl rfl ty3 rfl ?_
            refine d_oneg (i := 25) rfl rfl rfl (by kernel_rfl) (o_callP (vs := [(.int .i64 t_0.xField)]) Tryd.call95 rfl rfl (by intro w m h; exact (w_impl_FieldTop (F := allB [] w) (n_0 := t_0.xField) allB_ok (m.rd0 1 rfl (reads_snap hgl0)) h).mono (fun _ _ k => ret_free (fun r u => fr_nil) k)) ?_); rintro r3 _
            refine d_and (fun _ m => m) ?_
            refine o_leq (dtg 26 (fun _ m => m)) rfl rfl rfl ?_
            refine o_pickT (dt 27 (fun _ m => m)) rfl rfl rfl ?_
            refine o_as (dt 28 (fun _ m => m)) rfl rfl ?_
            refine d_done (by kernel_rfl) ?_
            exact l_join (decide (t_0.xHi ≤ r3)) (fun a w hE hm => ⟨hE.sub ⟨rfl, trivial⟩, (hm.pick [1] rfl)⟩)
          · refine dsk 21 (fun _ m => m) rfl (by kernel_rfl) rfl rfl rfl rfl ?_
            refine dsk 22 (fun _ m => m) rfl (by kernel_rfl) rfl rfl rfl rfl ?_
            refine dsk 23 (fun _ m => m) rfl (by kernel_rfl) rfl rfl rfl rfl ?_
            refine dsk 24 (fun _ m => m) rfl (by kernel_rfl) rfl rfl rfl rfl ?_
            refine dsk 25 (fun _ m => m) rfl (by kernel_rfl) rfl rfl rfl rfl ?_
            refine dsk 26 (fun _ m => m) rfl (by kernel_rfl) rfl rfl rfl rfl ?_
            refine o_pickF (dt 27 (fun _ m => m)) rfl rfl rfl ?_
            refine o_as (dt 28 (fun _ m => m)) rfl rfl ?_
            refine d_done (by kernel_rfl) ?_
            exact l_join false (fun a w hE hm => ⟨hE.sub ⟨rfl, trivial⟩, (hm.pick [1] rfl)⟩)
        · refine dsk 14 (fun _ m => m) rfl (by kernel_rfl) rfl rfl rfl rfl ?_
          refine dsk 15 (fun _ m => m) rfl (by kernel_rfl) rfl rfl rfl rfl ?_
          refine dsk 16 (fun _ m => m) rfl (by kernel_rfl) rfl rfl rfl rfl ?_
          refine dsk 17 (fun _ m => m) rfl (by kernel_rfl) rfl rfl rfl rfl ?_
          refine dsk 18 (fun _ m => m) rfl (by kernel_rfl) rfl rfl rfl rfl ?_
          refine o_pickF (dt 19 (fun _ m => m)) rfl rfl rfl ?_
          refine o_mv (dt 20 (fun _ m => m)) rfl rfl ?_
          refine dsk 21 (fun _ m => m) rfl (by kernel_rfl) rfl rfl rfl rfl ?_
          refine dsk 22 (fun _ m => m) rfl (by kernel_rfl) rfl rfl rfl rfl ?_
          refine dsk 23 (fun _ m => m) rfl (by kernel_rfl) rfl rfl rfl rfl ?_
          refine dsk 24 (fun _ m => m) rfl (by kernel_rfl) rfl rfl rfl rfl ?_
          refine dsk 25 (fun _ m => m) rfl (by kernel_rfl) rfl rfl rfl rfl ?_
          refine dsk 26 (fun _ m => m) rfl (by kernel_rfl) rfl rfl rfl rfl ?_
          refine o_pickF (dt 27 (fun _ m => m)) rfl rfl rfl ?_
          refine o_as (dt 28 (fun _ m => m)) rfl rfl ?_
          refine d_done (by kernel_rfl) ?_
          exact l_join false (fun a w hE hm => ⟨hE.sub ⟨rfl, trivial⟩, (hm.pick [1] rfl)⟩)
      · refine dsk 9 (fun _ m => m) rfl (by kernel_rfl) rfl rfl rfl rfl ?_
        refine dsk 10 (fun _ m => m) rfl (by kernel_rfl) rfl rfl rfl rfl ?_
        refine dsk 11 (fun _ m => m) rfl (by kernel_rfl) rfl rfl rfl rfl ?_
        refine o_pickF (dt 12 (fun _ m => m)) rfl rfl rfl ?_
        refine o_mv (dt 13 (fun _ m => m)) rfl rfl ?_
        refine dsk 14 (fun _ m => m) rfl (by kernel_rfl) rfl rfl rfl rfl ?_
        refine dsk 15 (fun _ m => m) rfl (by kernel_rfl) rfl rfl rfl rfl ?_
        refine dsk 16 (fun _ m => m) rfl (by kernel_rfl) rfl rfl rfl rfl ?_
        refine dsk 17 (fun _ m => m) rfl (by kernel_rfl) rfl rfl rfl rfl ?_
        refine dsk 18 (fun _ m => m) rfl (by kernel_rfl) rfl rfl rfl rfl ?_
        refine o_pickF (dt 19 (fun _ m => m)) rfl rfl rfl ?_
        refine o_mv (dt 20 (fun _ m => m)) rfl rfl ?_
        refine dsk 21 (fun _ m => m) rfl (by kernel_rfl) rfl rfl rfl rfl ?_
        refine dsk 22 (fun _ m => m) rfl (by kernel_rfl) rfl rfl rfl rfl ?_
        refine dsk 23 (fun _ m => m) rfl (by kernel_rfl) rfl rfl rfl rfl ?_
        refine dsk 24 (fun _ m => m) rfl (by kernel_rfl) rfl rfl rfl rfl ?_
        refine dsk 25 (fun _ m => m) rfl (by kernel_rfl) rfl rfl rfl rfl ?_
        refine dsk 26 (fun _ m => m) rfl (by kernel_rfl) rfl rfl rfl rfl ?_
        refine o_pickF (dt 27 (fun _ m => m)) rfl rfl rfl ?_
        refine o_as (dt 28 (fun _ m => m)) rfl rfl ?_
        refine d_done (by kernel_rfl) ?_
        exact l_join false (fun a w hE hm => ⟨hE.sub ⟨rfl, trivial⟩, (hm.pick [1] rfl)⟩)
    · refine dsk 4 (fun _ m => m) rfl (by kernel_rfl) rfl rfl rfl rfl ?_
      refine dsk 5 (fun _ m => m) rfl (by kernel_rfl) rfl rfl rfl rfl ?_
      refine dsk 6 (fun _ m => m) rfl (by kernel_rfl) rfl rfl rfl rfl ?_
      refine o_pickF (dt 7 (fun _ m => m)) rfl rfl rfl ?_
      refine o_mv (dt 8 (fun _ m => m)) rfl rfl ?_
      refine dsk 9 (fun _ m => m) rfl (by kernel_rfl) rfl rfl rfl rfl ?_
      refine dsk 10 (fun _ m => m) rfl (by kernel_rfl) rfl rfl rfl rfl ?_
      refine dsk 11 (fun _ m => m) rfl (by kernel_rfl) rfl rfl rfl rfl ?_
      refine o_pickF (dt 12 (fun _ m => m)) rfl rfl rfl ?_
      refine o_mv (dt 13 (fun _ m => m)) rfl rfl ?_
      refine dsk 14 (fun _ m => m) rfl (by kernel_rfl) rfl rfl rfl rfl ?_
      refine dsk 15 (fun _ m => m) rfl (by kernel_rfl) rfl rfl rfl rfl ?_
      refine dsk 16 (fun _ m => m) rfl (by kernel_rfl) rfl rfl rfl rfl ?_
      refine dsk 17 (fun _ m => m) rfl (by kernel_rfl) rfl rfl rfl rfl ?_
      refine dsk 18 (fun _ m => m) rfl (by kernel_rfl) rfl rfl rfl rfl ?_
      refine o_pickF (dt 19 (fun _ m => m)) rfl rfl rfl ?_
      refine o_mv (dt 20 (fun _ m => m)) rfl rfl ?_
      refine dsk 21 (fun _ m => m) rfl (by kernel_rfl) rfl rfl rfl rfl ?_
      refine dsk 22 (fun _ m => m) rfl (by kernel_rfl) rfl rfl rfl rfl ?_
      refine dsk 23 (fun _ m => m) rfl (by kernel_rfl) rfl rfl rfl rfl ?_
      refine dsk 24 (fun _ m => m) rfl (by kernel_rfl) rfl rfl rfl rfl ?_
      refine dsk 25 (fun _ m => m) rfl (by kernel_rfl) rfl rfl rfl rfl ?_
      refine dsk 26 (fun _ m => m) rfl (by kernel_rfl) rfl rfl rfl rfl ?_
      refine o_pickF (dt 27 (fun _ m => m)) rfl rfl rfl ?_
      refine o_as (dt 28 (fun _ m => m)) rfl rfl ?_
      refine d_done (by kernel_rfl) ?_
      exact l_join false (fun a w hE hm => ⟨hE.sub ⟨rfl, trivial⟩, (hm.pick [1] rfl)⟩)
  · rintro t64 a w ⟨hE, hm⟩ h
    refine nx_of hE hm h ?_
    clear hE hm h
    refine c_ret ?_
    exact l_end1 Tryd.results124 t64 () (rv_t rfl) (fun _ _ => NewCh.nil _ _ _ _)

set_option maxRecDepth 100000 in
set_option maxHeartbeats 8000000 in
theorem w_impl_TestsValid {w0 : World} {F : Nat → Prop} {v1 : Value} {list_0 : (List GTest)} {κ : Bool → Prop} (hF : ∀ b, F b → b < w0.heap.size ∧ ¬ feet [] b) (hv1 : Sl elGTest F w0 v1 list_0) (hgl0 : Sl elGFieldShape F w0 (.slice (some ⟨0, 0, none⟩) 4 4) gl_impl_fieldShapes) (h : L_impl_TestsValid list_0 κ) :
    Calls Tryd.prog 117 #[v1] w0 (Ret [] F w0 κ (fun (r : Bool) (u : Unit) => (.bool r)) (fun (r : Bool) (u : Unit) => [])) := by
  refine enterS (args := [v1]) [] hF (Given.nil _ _) Tryd.func117 rfl Tryd.ntmps117 rfl h ?_
  clear h hF
  refine c_seq ?_
  refine c_region ?_
  refine o_as st rfl rfl ?_
  refine c_nil ?_
  refine l_then ?_
  refine c_seq ?_
  refine c_seq ?_
  refine c_region ?_
  refine o_mv st rfl rfl ?_
  refine o_len st el102 0 rfl (reads_snap hv1) rfl rfl ?_
  refine o_gtr st rfl rfl rfl ?_
  refine c_nil ?_
  refine l_then ?_
  refine c_cond rfl ?_ ?_
  · refine c_seq ?_
    refine c_region ?_
    refine o_as st rfl rfl ?_
    refine c_nil ?_
    refine l_then ?_
    refine c_ret ?_
    refine l_ret ?_
    exact l_end1 Tryd.results117 false () (rv_t rfl) (fun _ _ => NewCh.nil _ _ _ _)
  · refine c_skip ?_
    refine l_then ?_
    refine c_seq ?_
    refine c_seq ?_
    refine c_region ?_
    refine o_mv st rfl rfl ?_
    refine o_len st el102 0 rfl (reads_snap hv1) rfl rfl ?_
    refine o_mv st rfl rfl ?_
    refine c_nil ?_
    refine l_then ?_
    refine c_block ?_
    refine c_loop (σ := Int) (fun (t3 : Int) (a : Act) (w : World) => Has 18 [(8, v1), (9, (.int .i64 (list_0.length : Int))), (10, (.int .i64 t3))] a ∧ Mem (gB F [] w0) (feet []) w0 [snapCh w0 F] w) (fun a w hE hm => ⟨hE.sub ⟨rfl, rfl, rfl, trivial⟩, (hm.pick [0] rfl)⟩) ?_
    rintro nx4 t3 a w ⟨hE, hm⟩ h
    refine nx_of hE hm h ?_
    clear hE hm h
    refine c_seq ?_
    refine c_region ?_
    refine o_lss st rfl rfl rfl ?_
    refine c_nil ?_
    refine l_then ?_
    refine c_seq ?_
    refine c_cond rfl ?_ ?_
    · refine c_skip ?_
      refine l_then ?_
      refine c_seq ?_
      refine c_block ?_
      refine c_seq ?_
      refine c_region ?_
      refine o_idx st 0 rfl (reads_snap hv1) rfl rfl rfl el102 ?_; intro e5 h6
      refine o_lds st (enc := encGTest) (u := (.agg #[(.int .i64 e5.xField), (.int .i64 e5.xLo), (.int .i64 e5.xHi), (.bool e5.xNot)])) 0 rfl (reads_snap hv1) flelGTest rfl h6 rfl rfl ty173 rfl ?_
      refine stw (o_alloc rfl [(.int .i64 0), (.int .i64 0), (.int .i64 0), (.bool false)] zero173 ?_); intro b7
      refine stw (o_stc (cs' := [(.int .i64 e5.xField), (.int .i64 e5.xLo), (.int .i64 e5.xHi), (.bool e5.xNot)]) 0 rfl rfl rfl ty173 rfl rfl rfl rfl ?_)
      refine c_nil ?_
      refine l_then ?_
      refine c_seq ?_
      refine c_region ?_
      refine o_ldc st (v := (.agg #[(.int .i64 e5.xField), (.int .i64 e5.xLo), (.int .i64 e5.xHi), (.bool e5.xNot)])) 0 rfl rfl rfl ty173 rfl ?_
      refine stw (o_callP (vs := [(.agg #[(.int .i64 e5.xField), (.int .i64 e5.xLo), (.int .i64 e5.xHi), (.bool e5.xNot)])]) Tryd.call124 rfl rfl (by intro w m h; exact (w_impl_TestValid (F := allB [] w) (t_0 := e5) allB_ok (m.rd0 1 rfl (reads_snap hgl0)) h).mono (fun _ _ k => ret_free (fun r u => fr_nil) k)) ?_); rintro r9 _
      refine o_not st rfl rfl ?_
      refine c_nil ?_
      refine l_then ?_
      refine c_cond rfl ?_ ?_
      · refine c_seq ?_
        refine c_region ?_
        refine o_as st rfl rfl ?_
        refine c_nil ?_
        refine l_then ?_
        refine c_ret ?_
        refine b_ret ?_
        refine l_ret ?_
        refine l_ret ?_
        refine b_ret ?_
        refine l_ret ?_
        exact l_end1 Tryd.results117 false () (rv_t rfl) (fun _ _ => NewCh.nil _ _ _ _)
      · refine c_skip ?_
        refine b_norm ?_
        refine l_then ?_
        refine c_region ?_
        refine o_add st rfl rfl rfl ?_; intro t10
        refine o_mv st rfl rfl ?_
        refine c_nil ?_
        exact l_join t10 (fun a w hE hm => ⟨hE.sub ⟨rfl, rfl, rfl, trivial⟩, (hm.pick [1] rfl)⟩)
    · refine c_exit ?_
      refine l_exit ?_
      refine l_exit ?_
      refine b_exit ?_
      refine l_then ?_
      refine c_seq ?_
      refine c_region ?_
      refine o_as st rfl rfl ?_
      refine c_nil ?_
      refine l_then ?_
      refine c_ret ?_
      exact l_end1 Tryd.results117 true () (rv_t rfl) (fun _ _ => NewCh.nil _ _ _ _)

set_option maxRecDepth 100000 in
set_option maxHeartbeats 8000000 in
theorem w_impl_RuleValid {w0 : World} {F : Nat → Prop} {v1 : Value} {r_0 : GRule} {κ : Bool → Prop} (hF : ∀ b, F b → b < w0.heap.size ∧ ¬ feet [] b) (hv1 : Sl elGTest F w0 v1 r_0.xTests) (hgl0 : Sl elGFieldShape F w0 (.slice (some ⟨0, 0, none⟩) 4 4) gl_impl_fieldShapes) (h : L_impl_RuleValid r_0 κ) :
    Calls Tryd.prog 103 #[(.agg #[v1, (.int .i64 r_0.xAction), (.int .i64 r_0.xChain)])] w0 (Ret [] F w0 κ (fun (r : Bool) (u : Unit) => (.bool r)) (fun (r : Bool) (u : Unit) => [])) := by
  refine enterS (args := [(.agg #[v1, (.int .i64 r_0.xAction), (.int .i64 r_0.xChain)])]) [] hF (Given.nil _ _) Tryd.func103 rfl Tryd.ntmps103 rfl h ?_
  clear h hF
  refine c_seq ?_
  refine c_region ?_
  obtain ⟨a3, l4, q5, hs_⟩ := sl_val hv1; subst hs_
  refine stw (o_box rfl rfl [(.slice a3 l4 q5), (.int .i64 r_0.xAction), (.int .i64 r_0.xChain)] rfl ?_); intro b6
  refine o_as st rfl rfl ?_
  refine c_nil ?_
  refine l_then ?_
  refine c_seq ?_
  refine c_seq ?_
  refine c_region ?_
  refine o_fad st rfl rfl fld104_0 rfl ?_
  refine o_ldc st (v := (.slice a3 l4 q5)) 0 rfl rfl rfl ty102 rfl ?_
  refine stw (o_callP (vs := [(.slice a3 l4 q5)]) Tryd.call117 rfl rfl (by intro w m h; exact (w_impl_TestsValid (F := allB [] w) (list_0 := r_0.xTests) allB_ok (m.rd0 1 rfl (reads_snap hv1)) (m.rd0 1 rfl (reads_snap hgl0)) h).mono (fun _ _ k => ret_free (fun r u => fr_nil) k)) ?_); rintro r8 _
  refine o_not st rfl rfl ?_
  refine c_nil ?_
  refine l_then ?_
  refine c_cond rfl ?_ ?_
  · refine c_seq ?_
    refine c_region ?_
    refine o_as st rfl rfl ?_
    refine c_nil ?_
    refine l_then ?_
    refine c_ret ?_
    refine l_ret ?_
    exact l_end1 Tryd.results103 false () (rv_t rfl) (fun _ _ => NewCh.nil _ _ _ _)
  · refine c_skip ?_
    refine l_then ?_
    refine c_seq ?_
    refine c_seq ?_
    refine c_region ?_
    refine o_fad st rfl rfl fld104_1 rfl ?_
    refine o_ldc st (v := (.int .i64 r_0.xAction)) 0 rfl rfl rfl ty3 rfl ?_
    refine c_nil ?_
    refine l_then ?_
    refine c_block ?_
    refine c_seq ?_
    refine c_region ?_
    refine o_eql st und3 rfl rfl rfl ?_
    refine o_as st rfl rfl ?_
    refine c_nil ?_
    refine l_then ?_
    refine c_cond rfl ?_ ?_
    · refine c_join (σ := Bool) (fun (t69 : Bool) (a : Act) (w : World) => Has 27 [(2, (.bool t69))] a ∧ Mem (gB F [] w0) (feet []) w0 [snapCh w0 F] w) ?_ ?_
      · intro k70
        refine c_region ?_
        refine o_fad st rfl rfl fld104_2 rfl ?_
        refine o_ldc st (v := (.int .i64 r_0.xChain)) 0 rfl rfl rfl ty3 rfl ?_
        refine o_geq st rfl rfl rfl ?_
        refine o_mv st rfl rfl ?_
        refine st_sp (dj := 14) rfl ?_ ?_
        · refine o_fad (st_g rfl rfl) rfl rfl fld104_2 rfl ?_
          refine o_ldc (st_g rfl rfl) (v := (.int .i64 r_0.xChain)) 0 rfl rfl rfl ty3 rfl ?_
          refine o_lss (st_g rfl rfl) rfl rfl rfl ?_
          refine o_pickT st rfl rfl rfl ?_
          refine o_as st rfl rfl ?_
          refine c_nil ?_
          exact l_join (decide (r_0.xChain < 5)) (fun a w hE hm => ⟨hE.sub ⟨rfl, trivial⟩, (hm.pick [1] rfl)⟩)
        · refine st_s rfl rfl rfl rfl ?_
          refine st_s rfl rfl rfl rfl ?_
          refine st_s rfl rfl rfl rfl ?_
          refine o_pickF st rfl rfl rfl ?_
          refine o_as st rfl rfl ?_
          refine c_nil ?_
          exact l_join false (fun a w hE hm => ⟨hE.sub ⟨rfl, trivial⟩, (hm.pick [1] rfl)⟩)
      · rintro t69 a w ⟨hE, hm⟩ h
        refine nx_of hE hm h ?_
        clear hE hm h
        refine c_ret ?_
        refine b_ret ?_
        refine l_ret ?_
        exact l_end1 Tryd.results103 t69 () (rv_t rfl) (fun _ _ => NewCh.nil _ _ _ _)
    · refine c_join (σ := Bool) (fun (t131 : Bool) (a : Act) (w : World) => Has 27 [(1, (.pointer (some ⟨b6, 0, none⟩))), (19, (.bool t131))] a ∧ Mem (gB F [] w0) (feet []) w0 [cellCh b6 [(.slice a3 l4 q5), (.int .i64 r_0.xAction), (.int .i64 r_0.xChain)] 104, snapCh w0 F] w) ?_ ?_
      · intro k132
        refine c_seq ?_
        refine c_region ?_
        refine o_eql st und3 rfl rfl rfl ?_
        refine o_as st rfl rfl ?_
        refine c_nil ?_
        refine l_then ?_
        refine c_cond rfl ?_ ?_
        · refine c_skip ?_
          exact l_join (decide (r_0.xAction = 1)) (fun a w hE hm => ⟨hE.sub ⟨rfl, rfl, trivial⟩, (hm.pick [0, 1] rfl)⟩)
        · refine c_seq ?_
          refine c_region ?_
          refine o_eql st und3 rfl rfl rfl ?_
          refine o_as st rfl rfl ?_
          refine c_nil ?_
          refine l_then ?_
          refine c_cond rfl ?_ ?_
          · refine c_skip ?_
            exact l_join (decide (r_0.xAction = 2)) (fun a w hE hm => ⟨hE.sub ⟨rfl, rfl, trivial⟩, (hm.pick [0, 1] rfl)⟩)
          · refine c_seq ?_
            refine c_region ?_
            refine o_eql st und3 rfl rfl rfl ?_
            refine o_as st rfl rfl ?_
            refine c_nil ?_
            refine l_then ?_
            refine c_cond rfl ?_ ?_
            · refine c_skip ?_
              exact l_join (decide (r_0.xAction = 4)) (fun a w hE hm => ⟨hE.sub ⟨rfl, rfl, trivial⟩, (hm.pick [0, 1] rfl)⟩)
            · refine c_region ?_
              refine o_eql st und3 rfl rfl rfl ?_
              refine o_as st rfl rfl ?_
              refine c_nil ?_
              exact l_join (decide (r_0.xAction = 5)) (fun a w hE hm => ⟨hE.sub ⟨rfl, rfl, trivial⟩, (hm.pick [0, 1] rfl)⟩)
      · rintro t131 a w ⟨hE, hm⟩ h
        refine nx_of hE hm h ?_
        clear hE hm h
        refine c_cond rfl ?_ ?_
        · refine c_seq ?_
          refine c_region ?_
          refine o_fad st rfl rfl fld104_2 rfl ?_
          refine o_ldc st (v := (.int .i64 r_0.xChain)) 0 rfl rfl rfl ty3 rfl ?_
          refine o_eql st und3 rfl rfl rfl ?_
          refine o_as st rfl rfl ?_
          refine c_nil ?_
          refine l_then ?_
          refine c_ret ?_
          refine b_ret ?_
          refine l_ret ?_
          exact l_end1 Tryd.results103 (decide (r_0.xChain = 0)) () (rv_t rfl) (fun _ _ => NewCh.nil _ _ _ _)
        · refine c_skip ?_
          refine b_norm ?_
          refine l_then ?_
          refine c_seq ?_
          refine c_region ?_
          refine o_as st rfl rfl ?_
          refine c_nil ?_
          refine l_then ?_
          refine c_ret ?_
          exact l_end1 Tryd.results103 false () (rv_t rfl) (fun _ _ => NewCh.nil _ _ _ _)

end

end Go.Proofs.YtigdghiknfehhaaDoor
