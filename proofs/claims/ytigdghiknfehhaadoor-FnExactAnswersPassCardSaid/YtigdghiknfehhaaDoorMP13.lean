/- Texts of this seat, put together. -/
import Derived.Test.YtigdghiknfehhaaDoorMP12
set_option linter.unusedSimpArgs false
set_option linter.unusedVariables false
namespace Go.Proofs.YtigdghiknfehhaaDoor
section
open Go.RowKit
set_option maxRecDepth 100000 in
set_option maxHeartbeats 8000000 in
theorem w_impl_indexFlows {w0 : World} {F : Nat → Prop} {v1 : Value} {list_0 : (List GFlow)} {κ : ((List (GPacket × Int)) × Bool) → Prop} (hF : ∀ b, F b → b < w0.heap.size ∧ ¬ feet [] b) (hv1 : Sl elGFlow F w0 v1 list_0) (hgl0 : Sl elGFieldShape F w0 (.slice (some ⟨0, 0, none⟩) 4 4) gl_impl_fieldShapes) (h : L_impl_indexFlows list_0 κ) :
    Calls Tryd.prog 77 #[v1] w0 (Ret [] F w0 κ (fun (r : ((List (GPacket × Int)) × Bool)) (u : Value) => .tuple #[u, (.bool r.2)]) (fun (r : ((List (GPacket × Int)) × Bool)) (u : Value) => [mOwn encGPacket u r.1])) := by
  refine enterS (args := [v1]) [] hF (Given.nil _ _) Tryd.func77 rfl Tryd.ntmps77 rfl h ?_
  clear h hF
  refine c_seq ?_
  refine c_region ?_
  refine stw (o_asm encGPacket rfl rfl ?_)
  refine o_as st rfl rfl ?_
  refine c_nil ?_
  refine l_then ?_
  refine c_seq ?_
  refine c_seq ?_
  refine c_region ?_
  refine o_mv st rfl rfl ?_
  refine o_len st el53 1 rfl (reads_snap hv1) rfl rfl ?_
  refine o_gtr st rfl rfl rfl ?_
  refine c_nil ?_
  refine l_then ?_
  refine c_cond rfl ?_ ?_
  · refine c_seq ?_
    refine c_region ?_
    refine stw (o_asm encGPacket rfl rfl ?_)
    refine o_as st rfl rfl ?_
    refine c_nil ?_
    refine l_then ?_
    refine c_ret ?_
    refine l_ret ?_
    exact l_end2 Tryd.results77 ([], false) (.map none) (rv_t rfl) (rv_t rfl) rfl (fun w m => NewCh.ofB m [0] rfl)
  · refine c_skip ?_
    refine l_then ?_
    refine c_seq ?_
    refine c_region ?_
    refine stw (o_mkm encGPacket rfl ?_); intro b5
    refine o_as st rfl rfl ?_
    refine c_nil ?_
    refine l_then ?_
    refine c_seq ?_
    refine c_seq ?_
    refine c_region ?_
    refine o_mv st rfl rfl ?_
    refine o_len st el53 2 rfl (reads_snap hv1) rfl rfl ?_
    refine o_mv st rfl rfl ?_
    refine c_nil ?_
    refine l_then ?_
    refine c_block ?_
    refine c_loop (σ := ((List (GPacket × Int)) × Int)) (fun ((xs7, t9) : ((List (GPacket × Int)) × Int)) (a : Act) (w : World) => Has 49 [(4, (.map (some b5))), (13, v1), (14, (.int .i64 (list_0.length : Int))), (15, (.int .i64 t9))] a ∧ Mem (gB F [] w0) (feet []) w0 [mOwn encGPacket (.map (some b5)) xs7, snapCh w0 F] w) (fun a w hE hm => ⟨hE.sub ⟨rfl, rfl, rfl, rfl, trivial⟩, (hm.pick [0, 2] rfl)⟩) ?_
    rintro nx10 ⟨xs7, t9⟩ a w ⟨hE, hm⟩ h
    refine nx_of hE hm h ?_
    clear hE hm h
    refine c_seq ?_
    refine c_region ?_
    refine o_lss st rfl rfl rfl ?_
    refine c_nil ?_
    refine l_then ?_
    refine c_seq ?_
    refine c_cond rfl ?_ ?_
    · refine c_skip ?_
      refine l_then ?_
      refine c_seq ?_
      refine c_block ?_
      refine c_seq ?_
      refine c_region ?_
      refine o_mv st rfl rfl ?_
      refine o_idx st 1 rfl (reads_snap hv1) rfl rfl rfl el53 ?_; intro e11 h12
      refine o_lds st (enc := encGFlow) (u := (.agg #[(.int .i64 e11.xWho.xFrom), (.int .i64 e11.xWho.xTo), (.int .i64 e11.xWho.xPort), (.int .i64 e11.xWho.xProto), (.int .i64 e11.xUntil)])) 1 rfl (reads_snap hv1) flelGFlow rfl h12 rfl rfl ty110 rfl ?_
      refine stw (o_alloc rfl [(.int .i64 0), (.int .i64 0), (.int .i64 0), (.int .i64 0), (.int .i64 0)] zero110 ?_); intro b13
      refine o_as st rfl rfl ?_
      refine stw (o_stc (cs' := [(.int .i64 e11.xWho.xFrom), (.int .i64 e11.xWho.xTo), (.int .i64 e11.xWho.xPort), (.int .i64 e11.xWho.xProto), (.int .i64 e11.xUntil)]) 0 rfl rfl rfl ty110 rfl rfl rfl rfl ?_)
      refine c_nil ?_
      refine l_then ?_
      refine c_seq ?_
      refine c_join (σ := Bool) (fun (t77 : Bool) (a : Act) (w : World) => Has 49 [(4, (.map (some b5))), (13, v1), (14, (.int .i64 (list_0.length : Int))), (15, (.int .i64 t9)), (6, (.pointer (some ⟨b13, 0, none⟩))), (5, (.int .i64 t9)), (29, (.bool t77))] a ∧ Mem (gB F [] w0) (feet []) w0 [cellCh b13 [(.int .i64 e11.xWho.xFrom), (.int .i64 e11.xWho.xTo), (.int .i64 e11.xWho.xPort), (.int .i64 e11.xWho.xProto), (.int .i64 e11.xUntil)] 110, mOwn encGPacket (.map (some b5)) xs7, snapCh w0 F] w) ?_ ?_
      · intro k78
        refine c_region ?_
        refine o_fad st rfl rfl fld110_0 rfl ?_
        refine o_ldc st (v := (.agg #[(.int .i64 e11.xWho.xFrom), (.int .i64 e11.xWho.xTo), (.int .i64 e11.xWho.xPort), (.int .i64 e11.xWho.xProto)])) 0 rfl rfl rfl ty40 rfl ?_
        refine stw (o_callP (vs := [(.agg #[(.int .i64 e11.xWho.xFrom), (.int .i64 e11.xWho.xTo), (.int .i64 e11.xWho.xPort), (.int .i64 e11.xWho.xProto)])]) Tryd.call61 rfl rfl (by intro w m h; exact (w_impl_PacketValid (F := allB [] w) (p_0 := e11.xWho) allB_ok (m.rd0 2 rfl (reads_snap hgl0)) h).mono (fun _ _ k => ret_free (fun r u => fr_nil) k)) ?_); rintro r15 _
        refine o_not st rfl rfl ?_
        refine o_mv st rfl rfl ?_
        refine st_sp (dj := 24) rfl ?_ ?_
        · refine st_s rfl rfl rfl rfl ?_
          refine st_s rfl rfl rfl rfl ?_
          refine st_s rfl rfl rfl rfl ?_
          refine st_s rfl rfl rfl rfl ?_
          refine o_pickT st rfl rfl rfl ?_
          refine c_nil ?_
          exact l_join true (fun a w hE hm => ⟨hE.sub ⟨rfl, rfl, rfl, rfl, rfl, rfl, rfl, trivial⟩, (hm.pick [0, 1, 2] rfl)⟩)
        · refine o_fad (st_g rfl rfl) rfl rfl fld110_1 rfl ?_
          refine o_ldc (st_g rfl rfl) (v := (.int .i64 e11.xUntil)) 0 rfl rfl rfl ty3 rfl ?_
          refine st_gw rfl rfl (o_callP (vs := [(.int .i64 e11.xUntil)]) Tryd.call72 rfl rfl (by intro w m h; exact (w_impl_timeValid (F := allB [] w) (now_0 := e11.xUntil) allB_ok h).mono (fun _ _ k => ret_free (fun r u => fr_nil) k)) ?_); rintro r16 _
          refine o_not (st_g rfl rfl) rfl rfl ?_
          refine o_pickF st rfl rfl rfl ?_
          refine c_nil ?_
          exact l_join (!r16) (fun a w hE hm => ⟨hE.sub ⟨rfl, rfl, rfl, rfl, rfl, rfl, rfl, trivial⟩, (hm.pick [0, 1, 2] rfl)⟩)
      · rintro t77 a w ⟨hE, hm⟩ h
        refine nx_of hE hm h ?_
        clear hE hm h
        refine c_cond rfl ?_ ?_
        · refine c_seq ?_
          refine c_region ?_
          refine stw (o_asm encGPacket rfl rfl ?_)
          refine o_as st rfl rfl ?_
          refine c_nil ?_
          refine l_then ?_
          refine c_ret ?_
          refine l_ret ?_
          refine b_ret ?_
          refine l_ret ?_
          refine l_ret ?_
          refine b_ret ?_
          refine l_ret ?_
          exact l_end2 Tryd.results77 ([], false) (.map none) (rv_t rfl) (rv_t rfl) rfl (fun w m => NewCh.ofB m [0] rfl)
        · refine c_skip ?_
          refine l_then ?_
          refine c_seq ?_
          refine c_seq ?_
          refine c_region ?_
          refine o_mv st rfl rfl ?_
          refine o_fad st rfl rfl fld110_0 rfl ?_
          refine o_ldc st (v := (.agg #[(.int .i64 e11.xWho.xFrom), (.int .i64 e11.xWho.xTo), (.int .i64 e11.xWho.xPort), (.int .i64 e11.xWho.xProto)])) 0 rfl rfl rfl ty40 rfl ?_
          refine o_lkp st (k0 := e11.xWho) 1 rfl mreads_own rfl rfl rfl mapty113 ?_
          refine o_mv st rfl rfl ?_
          refine o_ext st (vs := [(.int .i64 ((mget e11.xWho xs7).1)), (.bool ((mget e11.xWho xs7).2))]) rfl rfl rfl ?_
          refine o_ext st (vs := [(.int .i64 ((mget e11.xWho xs7).1)), (.bool ((mget e11.xWho xs7).2))]) rfl rfl rfl ?_
          refine o_as st rfl rfl ?_
          refine o_as st rfl rfl ?_
          refine c_nil ?_
          refine l_then ?_
          refine c_seq ?_
          refine c_region ?_
          refine o_mv st rfl rfl ?_
          refine c_nil ?_
          refine l_then ?_
          refine c_cond rfl ?_ ?_
          · refine c_seq ?_
            refine c_region ?_
            refine stw (o_asm encGPacket rfl rfl ?_)
            refine o_as st rfl rfl ?_
            refine c_nil ?_
            refine l_then ?_
            refine c_ret ?_
            refine l_ret ?_
            refine b_ret ?_
            refine l_ret ?_
            refine l_ret ?_
            refine b_ret ?_
            refine l_ret ?_
            exact l_end2 Tryd.results77 ([], false) (.map none) (rv_t rfl) (rv_t rfl) rfl (fun w m => NewCh.ofB m [0] rfl)
          · refine c_skip ?_
            refine l_then ?_
            refine c_seq ?_
            refine c_region ?_
            refine o_mv st rfl rfl ?_
            refine o_fad st rfl rfl fld110_0 rfl ?_
            refine o_ldc st (v := (.agg #[(.int .i64 e11.xWho.xFrom), (.int .i64 e11.xWho.xTo), (.int .i64 e11.xWho.xPort), (.int .i64 e11.xWho.xProto)])) 0 rfl rfl rfl ty40 rfl ?_
            refine o_mv st rfl rfl ?_
            refine stw (o_mput (k0 := e11.xWho) 1 rfl rfl rfl rfl mapty113 ?_)
            refine c_nil ?_
            refine l_then ?_
            refine c_region ?_
            refine o_mv st rfl rfl ?_
            refine o_fad st rfl rfl fld110_0 rfl ?_
            refine o_ldc st (v := (.agg #[(.int .i64 e11.xWho.xFrom), (.int .i64 e11.xWho.xTo), (.int .i64 e11.xWho.xPort), (.int .i64 e11.xWho.xProto)])) 0 rfl rfl rfl ty40 rfl ?_
            refine stw (o_callP (vs := [(.agg #[(.int .i64 e11.xWho.xFrom), (.int .i64 e11.xWho.xTo), (.int .i64 e11.xWho.xPort), (.int .i64 e11.xWho.xProto)])]) Tryd.call64 rfl rfl (by intro w m h; exact (w_impl_Packet_reverse (F := allB [] w) (p_0 := e11.xWho) allB_ok h).mono (fun _ _ k => ret_free (fun r u => fr_nil) k)) ?_); rintro r82 _
            refine o_mv st rfl rfl ?_
            refine stw (o_mput (k0 := r82) 1 rfl rfl rfl rfl mapty113 ?_)
            refine c_nil ?_
            refine b_norm ?_
            refine l_then ?_
            refine c_region ?_
            refine o_add st rfl rfl rfl ?_; intro t84
            refine o_mv st rfl rfl ?_
            refine c_nil ?_
            exact l_join ((mput r82 t9 (mput e11.xWho t9 xs7)), t84) (fun a w hE hm => ⟨hE.sub ⟨rfl, rfl, rfl, rfl, trivial⟩, (hm.pick [1, 2] rfl)⟩)
    · refine c_exit ?_
      refine l_exit ?_
      refine l_exit ?_
      refine b_exit ?_
      refine l_then ?_
      refine c_seq ?_
      refine c_region ?_
      refine o_mv st rfl rfl ?_
      refine o_as st rfl rfl ?_
      refine o_as st rfl rfl ?_
      refine c_nil ?_
      refine l_then ?_
      refine c_ret ?_
      exact l_end2 Tryd.results77 (xs7, true) (.map (some b5)) (rv_t rfl) (rv_t rfl) rfl (fun w m => NewCh.ofB m [0] rfl)

set_option maxRecDepth 100000 in
set_option maxHeartbeats 8000000 in
theorem w_impl_flowIndex_known {w0 : World} {F : Nat → Prop} {v1 : Value} {v3 : Value} {x_0 : (List (GPacket × Int))} {list_1 : (List GFlow)} {p_2 : GPacket} {now_3 : Int} {κ : Int → Prop} (hF : ∀ b, F b → b < w0.heap.size ∧ ¬ feet [] b) (hv1 : Mp encGPacket F w0 v1 x_0) (hv3 : Sl elGFlow F w0 v3 list_1) (h : L_impl_flowIndex_known x_0 list_1 p_2 now_3 κ) :
    Calls Tryd.prog 78 #[v1, v3, (.agg #[(.int .i64 p_2.xFrom), (.int .i64 p_2.xTo), (.int .i64 p_2.xPort), (.int .i64 p_2.xProto)]), (.int .i64 now_3)] w0 (Ret [] F w0 κ (fun (r : Int) (u : Unit) => (.int .i64 r)) (fun (r : Int) (u : Unit) => [])) := by
  refine enterS (args := [v1, v3, (.agg #[(.int .i64 p_2.xFrom), (.int .i64 p_2.xTo), (.int .i64 p_2.xPort), (.int .i64 p_2.xProto)]), (.int .i64 now_3)]) [] hF (Given.nil _ _) Tryd.func78 rfl Tryd.ntmps78 rfl h ?_
  clear h hF
  refine c_seq ?_
  refine c_region ?_
  refine stw (o_box rfl rfl [(.int .i64 p_2.xFrom), (.int .i64 p_2.xTo), (.int .i64 p_2.xPort), (.int .i64 p_2.xProto)] rfl ?_); intro b5
  refine o_as st rfl rfl ?_
  refine c_nil ?_
  refine l_then ?_
  refine c_seq ?_
  refine c_region ?_
  refine o_mv st rfl rfl ?_
  refine o_ldc st (v := (.agg #[(.int .i64 p_2.xFrom), (.int .i64 p_2.xTo), (.int .i64 p_2.xPort), (.int .i64 p_2.xProto)])) 0 rfl rfl rfl ty40 rfl ?_
  refine o_lkp st (k0 := p_2) 1 rfl (mreads_snap hv1) rfl rfl rfl mapty113 ?_
  refine o_mv st rfl rfl ?_
  refine o_ext st (vs := [(.int .i64 ((mget p_2 x_0).1)), (.bool ((mget p_2 x_0).2))]) rfl rfl rfl ?_
  refine o_ext st (vs := [(.int .i64 ((mget p_2 x_0).1)), (.bool ((mget p_2 x_0).2))]) rfl rfl rfl ?_
  refine o_as st rfl rfl ?_
  refine o_as st rfl rfl ?_
  refine c_nil ?_
  refine l_then ?_
  refine c_seq ?_
  refine c_join (σ := Bool) (fun (t69 : Bool) (a : Act) (w : World) => Has 29 [(9, (.int .i64 ((mget p_2 x_0).1))), (27, (.bool t69))] a ∧ Mem (gB F [] w0) (feet []) w0 [] w) ?_ ?_
  · intro k70
    refine c_region ?_
    refine o_mv st rfl rfl ?_
    refine o_not st rfl rfl ?_
    refine o_mv st rfl rfl ?_
    refine st_sp (dj := 19) rfl ?_ ?_
    · refine st_s rfl rfl rfl rfl ?_
      refine st_s rfl rfl rfl rfl ?_
      refine st_s rfl rfl rfl rfl ?_
      refine st_s rfl rfl rfl rfl ?_
      refine st_s rfl rfl rfl rfl ?_
      refine st_s rfl rfl rfl rfl ?_
      refine st_s rfl rfl rfl rfl ?_
      refine o_pickT st rfl rfl rfl ?_
      refine c_nil ?_
      exact l_join true (fun a w hE hm => ⟨hE.sub ⟨rfl, rfl, trivial⟩, (hm.pick [] rfl)⟩)
    · refine o_mv (st_g rfl rfl) rfl rfl ?_
      refine o_mv (st_g rfl rfl) rfl rfl ?_
      refine o_idx (st_g rfl rfl) 1 rfl (reads_snap hv3) rfl rfl rfl el53 ?_; intro e7 h8
      refine o_fadS (st_g rfl rfl) 1 rfl (reads_snap hv3) h8 rfl rfl fld110_1 rfl ?_
      refine o_lds (st_g rfl rfl) (enc := encGFlow) (u := (.int .i64 e7.xUntil)) 1 rfl (reads_snap hv3) flelGFlow rfl h8 rfl rfl ty3 rfl ?_
      refine o_mv (st_g rfl rfl) rfl rfl ?_
      refine o_lss (st_g rfl rfl) rfl rfl rfl ?_
      refine o_pickF st rfl rfl rfl ?_
      refine c_nil ?_
      exact l_join (decide (e7.xUntil < now_3)) (fun a w hE hm => ⟨hE.sub ⟨rfl, rfl, trivial⟩, (hm.pick [] rfl)⟩)
  · rintro t69 a w ⟨hE, hm⟩ h
    refine nx_of hE hm h ?_
    clear hE hm h
    refine c_cond rfl ?_ ?_
    · refine c_seq ?_
      refine c_region ?_
      refine o_as st rfl rfl ?_
      refine c_nil ?_
      refine l_then ?_
      refine c_ret ?_
      refine l_ret ?_
      exact l_end1 Tryd.results78 (-1) () (rv_t rfl) (fun _ _ => NewCh.nil _ _ _ _)
    · refine c_skip ?_
      refine l_then ?_
      refine c_seq ?_
      refine c_region ?_
      refine o_mv st rfl rfl ?_
      refine o_as st rfl rfl ?_
      refine c_nil ?_
      refine l_then ?_
      refine c_ret ?_
      exact l_end1 Tryd.results78 ((mget p_2 x_0).1) () (rv_t rfl) (fun _ _ => NewCh.nil _ _ _ _)

set_option maxRecDepth 100000 in
set_option maxHeartbeats 8000000 in
theorem w_impl_KnownFlow {w0 : World} {F : Nat → Prop} {v1 : Value} {list_0 : (List GFlow)} {p_1 : GPacket} {now_2 : Int} {κ : Int → Prop} (hF : ∀ b, F b → b < w0.heap.size ∧ ¬ feet [] b) (hv1 : Sl elGFlow F w0 v1 list_0) (hgl0 : Sl elGFieldShape F w0 (.slice (some ⟨0, 0, none⟩) 4 4) gl_impl_fieldShapes) (h : L_impl_KnownFlow list_0 p_1 now_2 κ) :
    Calls Tryd.prog 33 #[v1, (.agg #[(.int .i64 p_1.xFrom), (.int .i64 p_1.xTo), (.int .i64 p_1.xPort), (.int .i64 p_1.xProto)]), (.int .i64 now_2)] w0 (Ret [] F w0 κ (fun (r : Int) (u : Unit) => (.int .i64 r)) (fun (r : Int) (u : Unit) => [])) := by
  refine enterS (args := [v1, (.agg #[(.int .i64 p_1.xFrom), (.int .i64 p_1.xTo), (.int .i64 p_1.xPort), (.int .i64 p_1.xProto)]), (.int .i64 now_2)]) [] hF (Given.nil _ _) Tryd.func33 rfl Tryd.ntmps33 rfl h ?_
  clear h hF
  refine c_seq ?_
  refine c_region ?_
  refine stw (o_box rfl rfl [(.int .i64 p_1.xFrom), (.int .i64 p_1.xTo), (.int .i64 p_1.xPort), (.int .i64 p_1.xProto)] rfl ?_); intro b3
  refine o_as st rfl rfl ?_
  refine c_nil ?_
  refine l_then ?_
  refine c_seq ?_
  refine c_region ?_
  refine o_mv st rfl rfl ?_
  refine stw (o_callP (vs := [v1]) Tryd.call77 rfl rfl (by intro w m h; exact (w_impl_indexFlows (F := allB [] w) (list_0 := list_0) allB_ok (m.rd0 1 rfl (reads_snap hv1)) (m.rd0 1 rfl (reads_snap hgl0)) h).mono (fun _ _ k => ret_free (fun r u => (fr_cons free_mown fr_nil)) k)) ?_); rintro ⟨r5, r8⟩ v6
  refine o_mv st rfl rfl ?_
  refine o_ext st (vs := [v6, (.bool r8)]) rfl rfl rfl ?_
  refine o_ext st (vs := [v6, (.bool r8)]) rfl rfl rfl ?_
  refine o_as st rfl rfl ?_
  refine o_as st rfl rfl ?_
  refine c_nil ?_
  refine l_then ?_
  refine c_seq ?_
  refine c_join (σ := Bool) (fun (t71 : Bool) (a : Act) (w : World) => Has 31 [(0, v1), (2, (.int .i64 now_2)), (4, (.pointer (some ⟨b3, 0, none⟩))), (7, v6), (25, (.bool t71))] a ∧ Mem (gB F [] w0) (feet []) w0 [mOwn encGPacket v6 r5, cellCh b3 [(.int .i64 p_1.xFrom), (.int .i64 p_1.xTo), (.int .i64 p_1.xPort), (.int .i64 p_1.xProto)] 40, snapCh w0 F] w) ?_ ?_
  · intro k72
    refine c_region ?_
    refine o_mv st rfl rfl ?_
    refine o_not st rfl rfl ?_
    refine o_mv st rfl rfl ?_
    refine st_sp (dj := 16) rfl ?_ ?_
    · refine st_s rfl rfl rfl rfl ?_
      refine st_s rfl rfl rfl rfl ?_
      refine st_s rfl rfl rfl rfl ?_
      refine o_pickT st rfl rfl rfl ?_
      refine o_mv st rfl rfl ?_
      refine st_s rfl rfl rfl rfl ?_
      refine st_s rfl rfl rfl rfl ?_
      refine st_s rfl rfl rfl rfl ?_
      refine o_pickT st rfl rfl rfl ?_
      refine c_nil ?_
      exact l_join true (fun a w hE hm => ⟨hE.sub ⟨rfl, rfl, rfl, rfl, rfl, trivial⟩, (hm.pick [0, 1, 2] rfl)⟩)
    · refine o_ldc (st_g rfl rfl) (v := (.agg #[(.int .i64 p_1.xFrom), (.int .i64 p_1.xTo), (.int .i64 p_1.xPort), (.int .i64 p_1.xProto)])) 1 rfl rfl rfl ty40 rfl ?_
      refine st_gw rfl rfl (o_callP (vs := [(.agg #[(.int .i64 p_1.xFrom), (.int .i64 p_1.xTo), (.int .i64 p_1.xPort), (.int .i64 p_1.xProto)])]) Tryd.call61 rfl rfl (by intro w m h; exact (w_impl_PacketValid (F := allB [] w) (p_0 := p_1) allB_ok (m.rd0 2 rfl (reads_snap hgl0)) h).mono (fun _ _ k => ret_free (fun r u => fr_nil) k)) ?_); rintro r9 _
      refine o_not (st_g rfl rfl) rfl rfl ?_
      refine o_pickF st rfl rfl rfl ?_
      refine o_mv st rfl rfl ?_
      refine st_sp (dj := 21) rfl ?_ ?_
      · refine st_s rfl rfl rfl rfl ?_
        refine st_s rfl rfl rfl rfl ?_
        refine st_s rfl rfl rfl rfl ?_
        refine o_pickT st rfl rfl rfl ?_
        refine c_nil ?_
        exact l_join true (fun a w hE hm => ⟨hE.sub ⟨rfl, rfl, rfl, rfl, rfl, trivial⟩, (hm.pick [0, 1, 2] rfl)⟩)
      · refine o_mv (st_g rfl rfl) rfl rfl ?_
        refine st_gw rfl rfl (o_callP (vs := [(.int .i64 now_2)]) Tryd.call72 rfl rfl (by intro w m h; exact (w_impl_timeValid (F := allB [] w) (now_0 := now_2) allB_ok h).mono (fun _ _ k => ret_free (fun r u => fr_nil) k)) ?_); rintro r10 _
        refine o_not (st_g rfl rfl) rfl rfl ?_
        refine o_pickF st rfl rfl rfl ?_
        refine c_nil ?_
        exact l_join (!r10) (fun a w hE hm => ⟨hE.sub ⟨rfl, rfl, rfl, rfl, rfl, trivial⟩, (hm.pick [0, 1, 2] rfl)⟩)
  · rintro t71 a w ⟨hE, hm⟩ h
    refine nx_of hE hm h ?_
    clear hE hm h
    refine c_cond rfl ?_ ?_
    · refine c_seq ?_
      refine c_region ?_
      refine o_as st rfl rfl ?_
      refine c_nil ?_
      refine l_then ?_
      refine c_ret ?_
      refine l_ret ?_
      exact l_end1 Tryd.results33 (-1) () (rv_t rfl) (fun _ _ => NewCh.nil _ _ _ _)
    · refine c_skip ?_
      refine l_then ?_
      refine c_seq ?_
      refine c_region ?_
      refine o_mv st rfl rfl ?_
      refine o_mv st rfl rfl ?_
      refine o_ldc st (v := (.agg #[(.int .i64 p_1.xFrom), (.int .i64 p_1.xTo), (.int .i64 p_1.xPort), (.int .i64 p_1.xProto)])) 1 rfl rfl rfl ty40 rfl ?_
      refine o_mv st rfl rfl ?_
      refine stw (o_callP (vs := [v6, v1, (.agg #[(.int .i64 p_1.xFrom), (.int .i64 p_1.xTo), (.int .i64 p_1.xPort), (.int .i64 p_1.xProto)]), (.int .i64 now_2)]) Tryd.call78 rfl rfl (by intro w m h; exact (w_impl_flowIndex_known (F := allB [] w) (x_0 := r5) (list_1 := list_0) (p_2 := p_1) (now_3 := now_2) allB_ok (m.mrd0 0 rfl mreads_own) (m.rd0 2 rfl (reads_snap hv1)) h).mono (fun _ _ k => ret_free (fun r u => fr_nil) k)) ?_); rintro r73 _
      refine o_as st rfl rfl ?_
      refine c_nil ?_
      refine l_then ?_
      refine c_ret ?_
      exact l_end1 Tryd.results33 r73 () (rv_t rfl) (fun _ _ => NewCh.nil _ _ _ _)

set_option maxRecDepth 100000 in
set_option maxHeartbeats 8000000 in
theorem w_impl_notExpired {w0 : World} {F : Nat → Prop} {v1 : Value} {list_0 : (List GFlow)} {now_1 : Int} {κ : (List GFlow) → Prop} (hF : ∀ b, F b → b < w0.heap.size ∧ ¬ feet [] b) (hv1 : Sl elGFlow F w0 v1 list_0) (h : L_impl_notExpired list_0 now_1 κ) :
    Calls Tryd.prog 79 #[v1, (.int .i64 now_1)] w0 (Ret [] F w0 κ (fun (r : (List GFlow)) (u : Value) => u) (fun (r : (List GFlow)) (u : Value) => [ownCh elGFlow 110 u r])) := by
  refine enterS (args := [v1, (.int .i64 now_1)]) [] hF (Given.nil _ _) Tryd.func79 rfl Tryd.ntmps79 rfl h ?_
  clear h hF
  refine c_seq ?_
  refine c_region ?_
  refine stw (o_asn elGFlow 110 rfl rfl ?_)
  refine c_nil ?_
  refine l_then ?_
  refine c_seq ?_
  refine c_region ?_
  refine o_mv st rfl rfl ?_
  refine o_len st el53 1 rfl (reads_snap hv1) rfl rfl ?_
  refine stw (o_make (z := (GFlow.mk (GPacket.mk 0 0 0 0) 0)) flelGFlow rfl rfl rfl el53 rfl zero110 rfl rfl ?_); intro v4 xs5
  refine o_as st rfl rfl ?_
  refine c_nil ?_
  refine l_then ?_
  refine c_seq ?_
  refine c_seq ?_
  refine c_region ?_
  refine o_mv st rfl rfl ?_
  refine o_len st el53 2 rfl (reads_snap hv1) rfl rfl ?_
  refine o_mv st rfl rfl ?_
  refine c_nil ?_
  refine l_then ?_
  refine c_block ?_
  refine c_loop (σ := ((List GFlow) × Int)) (fun ((xs8, t11) : ((List GFlow) × Int)) (a : Act) (w : World) => ∃ (v7 : Value), Has 27 [(1, (.int .i64 now_1)), (5, v7), (11, v1), (12, (.int .i64 (list_0.length : Int))), (13, (.int .i64 t11))] a ∧ Mem (gB F [] w0) (feet []) w0 [snapCh w0 F, ownCh elGFlow 110 v7 xs8] w) (fun a w hE hm => ⟨v4, hE.sub ⟨rfl, rfl, rfl, rfl, rfl, trivial⟩, (hm.pick [2, 0] rfl)⟩) ?_
  rintro nx12 ⟨xs8, t11⟩ a w ⟨v7, hE, hm⟩ h
  refine nx_of hE hm h ?_
  clear hE hm h
  refine c_seq ?_
  refine c_region ?_
  refine o_lss st rfl rfl rfl ?_
  refine c_nil ?_
  refine l_then ?_
  refine c_seq ?_
  refine c_cond rfl ?_ ?_
  · refine c_skip ?_
    refine l_then ?_
    refine c_join (σ := (List GFlow)) (fun (xs81 : (List GFlow)) (a : Act) (w : World) => ∃ (v82 : Value), Has 27 [(1, (.int .i64 now_1)), (5, v82), (11, v1), (12, (.int .i64 (list_0.length : Int))), (13, (.int .i64 t11))] a ∧ Mem (gB F [] w0) (feet []) w0 [ownCh elGFlow 110 v82 xs81, snapCh w0 F] w) ?_ ?_
    · intro k84
      refine c_block ?_
      refine c_seq ?_
      refine c_region ?_
      refine o_idx st 0 rfl (reads_snap hv1) rfl rfl rfl el53 ?_; intro e13 h14
      refine o_lds st (enc := encGFlow) (u := (.agg #[(.int .i64 e13.xWho.xFrom), (.int .i64 e13.xWho.xTo), (.int .i64 e13.xWho.xPort), (.int .i64 e13.xWho.xProto), (.int .i64 e13.xUntil)])) 0 rfl (reads_snap hv1) flelGFlow rfl h14 rfl rfl ty110 rfl ?_
      refine stw (o_alloc rfl [(.int .i64 0), (.int .i64 0), (.int .i64 0), (.int .i64 0), (.int .i64 0)] zero110 ?_); intro b15
      refine stw (o_stc (cs' := [(.int .i64 e13.xWho.xFrom), (.int .i64 e13.xWho.xTo), (.int .i64 e13.xWho.xPort), (.int .i64 e13.xWho.xProto), (.int .i64 e13.xUntil)]) 0 rfl rfl rfl ty110 rfl rfl rfl rfl ?_)
      refine c_nil ?_
      refine l_then ?_
      refine c_seq ?_
      refine c_region ?_
      refine o_fad st rfl rfl fld110_1 rfl ?_
      refine o_ldc st (v := (.int .i64 e13.xUntil)) 0 rfl rfl rfl ty3 rfl ?_
      refine o_mv st rfl rfl ?_
      refine o_geq st rfl rfl rfl ?_
      refine c_nil ?_
      refine l_then ?_
      refine c_cond rfl ?_ ?_
      · refine c_region ?_
        refine o_mv st rfl rfl ?_
        refine o_ldc st (v := (.agg #[(.int .i64 e13.xWho.xFrom), (.int .i64 e13.xWho.xTo), (.int .i64 e13.xWho.xPort), (.int .i64 e13.xWho.xProto), (.int .i64 e13.xUntil)])) 0 rfl rfl rfl ty110 rfl ?_
        refine stw (o_bsl (enc := encGFlow) (qs := [(0, (.agg #[(.int .i64 e13.xWho.xFrom), (.int .i64 e13.xWho.xTo), (.int .i64 e13.xWho.xPort), (.int .i64 e13.xWho.xProto), (.int .i64 e13.xUntil)]))]) (cells := [(.int .i64 e13.xWho.xFrom), (.int .i64 e13.xWho.xTo), (.int .i64 e13.xWho.xPort), (.int .i64 e13.xWho.xProto), (.int .i64 e13.xUntil)]) ([e13]) flelGFlow (by intro ρ h; simp only [List.map_toArray, List.map_cons, List.map_nil, h (.tmp 22) _ rfl]) rfl el53 zero110 rfl rfl rfl rfl rfl rfl ?_); intro v17
        refine stw (o_app 3 0 rfl rfl (src_flat flelGFlow reads_own) rfl rfl rfl el53 rfl zero110 rfl rfl ?_); intro v19
        refine o_as st rfl rfl ?_
        refine c_nil ?_
        refine b_norm ?_
        exact l_join (xs8 ++ ([e13])) (fun a w hE hm => ⟨v19, hE.sub ⟨rfl, rfl, rfl, rfl, rfl, trivial⟩, (hm.pick [3, 2] rfl)⟩)
      · refine c_skip ?_
        refine b_norm ?_
        exact l_join xs8 (fun a w hE hm => ⟨v7, hE.sub ⟨rfl, rfl, rfl, rfl, rfl, trivial⟩, (hm.pick [2, 1] rfl)⟩)
    · rintro xs81 a w ⟨v82, hE, hm⟩ h
      refine nx_of hE hm h ?_
      clear hE hm h
      refine c_region ?_
      refine o_add st rfl rfl rfl ?_; intro t85
      refine o_mv st rfl rfl ?_
      refine c_nil ?_
      exact l_join (xs81, t85) (fun a w hE hm => ⟨v82, hE.sub ⟨rfl, rfl, rfl, rfl, rfl, trivial⟩, (hm.pick [1, 0] rfl)⟩)
  · refine c_exit ?_
    refine l_exit ?_
    refine l_exit ?_
    refine b_exit ?_
    refine l_then ?_
    refine c_seq ?_
    refine c_region ?_
    refine o_mv st rfl rfl ?_
    refine o_as st rfl rfl ?_
    refine c_nil ?_
    refine l_then ?_
    refine c_ret ?_
    exact l_end1 Tryd.results79 xs8 v7 (rv_t rfl) (fun w m => NewCh.ofB m [1] rfl)

set_option maxRecDepth 100000 in
set_option maxHeartbeats 8000000 in
theorem w_impl_trackValid {w0 : World} {F : Nat → Prop} {v1 : Value} {list_0 : (List GFlow)} {p_1 : GPacket} {now_2 : Int} {life_3 : Int} {κ : ((List GFlow) × Bool) → Prop} (hF : ∀ b, F b → b < w0.heap.size ∧ ¬ feet [] b) (hv1 : Sl elGFlow F w0 v1 list_0) (hgl0 : Sl elGFieldShape F w0 (.slice (some ⟨0, 0, none⟩) 4 4) gl_impl_fieldShapes) (h : L_impl_trackValid list_0 p_1 now_2 life_3 κ) :
    Calls Tryd.prog 96 #[v1, (.agg #[(.int .i64 p_1.xFrom), (.int .i64 p_1.xTo), (.int .i64 p_1.xPort), (.int .i64 p_1.xProto)]), (.int .i64 now_2), (.int .i64 life_3)] w0 (Ret [] F w0 κ (fun (r : ((List GFlow) × Bool)) (u : Value) => .tuple #[u, (.bool r.2)]) (fun (r : ((List GFlow) × Bool)) (u : Value) => [ownCh elGFlow 110 u r.1])) := by
  refine enterS (args := [v1, (.agg #[(.int .i64 p_1.xFrom), (.int .i64 p_1.xTo), (.int .i64 p_1.xPort), (.int .i64 p_1.xProto)]), (.int .i64 now_2), (.int .i64 life_3)]) [] hF (Given.nil _ _) Tryd.func96 rfl Tryd.ntmps96 rfl h ?_
  clear h hF
  refine c_seq ?_
  refine c_region ?_
  refine stw (o_box rfl rfl [(.int .i64 p_1.xFrom), (.int .i64 p_1.xTo), (.int .i64 p_1.xPort), (.int .i64 p_1.xProto)] rfl ?_); intro b3
  refine stw (o_asn elGFlow 110 rfl rfl ?_)
  refine o_as st rfl rfl ?_
  refine c_nil ?_
  refine l_then ?_
  refine c_seq ?_
  refine c_region ?_
  refine o_mv st rfl rfl ?_
  refine o_mv st rfl rfl ?_
  refine stw (o_callP (vs := [v1, (.int .i64 now_2)]) Tryd.call79 rfl rfl (by intro w m h; exact (w_impl_notExpired (F := allB [] w) (list_0 := list_0) (now_1 := now_2) allB_ok (m.rd0 2 rfl (reads_snap hv1)) h).mono (fun _ _ k => ret_free (fun r u => (fr_cons (free_own flelGFlow) fr_nil)) k)) ?_); rintro r6 v7
  refine o_as st rfl rfl ?_
  refine c_nil ?_
  refine l_then ?_
  refine c_seq ?_
  refine c_region ?_
  refine o_mv st rfl rfl ?_
  refine o_mv st rfl rfl ?_
  refine o_add st rfl rfl rfl ?_; intro t9
  refine o_min st rfl rfl rfl ?_
  refine o_as st rfl rfl ?_
  refine c_nil ?_
  refine l_then ?_
  refine c_seq ?_
  refine c_region ?_
  refine o_mv st rfl rfl ?_
  refine stw (o_callP (vs := [v7]) Tryd.call77 rfl rfl (by intro w m h; exact (w_impl_indexFlows (F := allB [] w) (list_0 := r6) allB_ok (m.rd0 0 rfl reads_own) (m.rd0 3 rfl (reads_snap hgl0)) h).mono (fun _ _ k => ret_free (fun r u => (fr_cons free_mown fr_nil)) k)) ?_); rintro ⟨r10, r13⟩ v11
  refine o_mv st rfl rfl ?_
  refine o_ext st (vs := [v11, (.bool r13)]) rfl rfl rfl ?_
  refine o_ext st (vs := [v11, (.bool r13)]) rfl rfl rfl ?_
  refine o_as st rfl rfl ?_
  refine o_as st rfl rfl ?_
  refine c_nil ?_
  refine l_then ?_
  refine c_seq ?_
  refine c_seq ?_
  refine c_region ?_
  refine o_mv st rfl rfl ?_
  refine o_mv st rfl rfl ?_
  refine o_ldc st (v := (.agg #[(.int .i64 p_1.xFrom), (.int .i64 p_1.xTo), (.int .i64 p_1.xPort), (.int .i64 p_1.xProto)])) 3 rfl rfl rfl ty40 rfl ?_
  refine o_mv st rfl rfl ?_
  refine stw (o_callP (vs := [v11, v7, (.agg #[(.int .i64 p_1.xFrom), (.int .i64 p_1.xTo), (.int .i64 p_1.xPort), (.int .i64 p_1.xProto)]), (.int .i64 now_2)]) Tryd.call78 rfl rfl (by intro w m h; exact (w_impl_flowIndex_known (F := allB [] w) (x_0 := r10) (list_1 := r6) (p_2 := p_1) (now_3 := now_2) allB_ok (m.mrd0 0 rfl mreads_own) (m.rd0 1 rfl reads_own) h).mono (fun _ _ k => ret_free (fun r u => fr_nil) k)) ?_); rintro r14 _
  refine o_as st rfl rfl ?_
  refine c_nil ?_
  refine l_then ?_
  refine c_seq ?_
  refine c_region ?_
  refine o_mv st rfl rfl ?_
  refine o_geq st rfl rfl rfl ?_
  refine c_nil ?_
  refine l_then ?_
  refine c_cond rfl ?_ ?_
  · refine c_seq ?_
    refine c_region ?_
    refine o_mv st rfl rfl ?_
    refine o_mv st rfl rfl ?_
    refine o_mv st rfl rfl ?_
    refine o_idx st 1 rfl reads_own rfl rfl rfl el53 ?_; intro e15 h16
    refine o_fadS st 1 rfl reads_own h16 rfl rfl fld110_1 rfl ?_
    refine stw (o_sts (enc := encGFlow) (y' := (GFlow.mk e15.xWho (min t9 1000000))) 1 rfl flelGFlow rfl h16 ty3 rfl rfl rfl rfl rfl rfl ?_)
    refine c_nil ?_
    refine l_then ?_
    refine c_seq ?_
    refine c_region ?_
    refine o_mv st rfl rfl ?_
    refine o_as st rfl rfl ?_
    refine o_as st rfl rfl ?_
    refine c_nil ?_
    refine l_then ?_
    refine c_ret ?_
    refine l_ret ?_
    exact l_end2 Tryd.results96 ((r6.set (r14).toNat (GFlow.mk e15.xWho (min t9 1000000))), true) v7 (rv_t rfl) (rv_t rfl) rfl (fun w m => NewCh.ofB m [1] rfl)
  · refine c_skip ?_
    refine l_then ?_
    refine c_seq ?_
    refine c_seq ?_
    refine c_region ?_
    refine o_mv st rfl rfl ?_
    refine o_len st el53 1 rfl reads_own rfl rfl ?_
    refine o_eql st und3 rfl rfl rfl ?_
    refine c_nil ?_
    refine l_then ?_
    refine c_cond rfl ?_ ?_
    · refine c_seq ?_
      refine c_region ?_
      refine o_mv st rfl rfl ?_
      refine o_as st rfl rfl ?_
      refine o_as st rfl rfl ?_
      refine c_nil ?_
      refine l_then ?_
      refine c_ret ?_
      refine l_ret ?_
      exact l_end2 Tryd.results96 (r6, false) v7 (rv_t rfl) (rv_t rfl) rfl (fun w m => NewCh.ofB m [1] rfl)
    · refine c_skip ?_
      refine l_then ?_
      refine c_seq ?_
      refine c_region ?_
      refine o_mv st rfl rfl ?_
      refine o_ldc st (v := (.agg #[(.int .i64 p_1.xFrom), (.int .i64 p_1.xTo), (.int .i64 p_1.xPort), (.int .i64 p_1.xProto)])) 3 rfl rfl rfl ty40 rfl ?_
      refine o_mv st rfl rfl ?_
      refine o_bld st (qs := [(0, (.agg #[(.int .i64 p_1.xFrom), (.int .i64 p_1.xTo), (.int .i64 p_1.xPort), (.int .i64 p_1.xProto)])), (1, (.int .i64 (min t9 1000000)))]) (cells := [(.int .i64 p_1.xFrom), (.int .i64 p_1.xTo), (.int .i64 p_1.xPort), (.int .i64 p_1.xProto), (.int .i64 (min t9 1000000))]) (by intro ρ h; simp only [List.map_toArray, List.map_cons, List.map_nil, h (.tmp 45) _ rfl, h (.tmp 46) _ rfl]) rfl bld110 rfl ?_
      refine stw (o_bsl (enc := encGFlow) (qs := [(0, (.agg #[(.int .i64 p_1.xFrom), (.int .i64 p_1.xTo), (.int .i64 p_1.xPort), (.int .i64 p_1.xProto), (.int .i64 (min t9 1000000))]))]) (cells := [(.int .i64 p_1.xFrom), (.int .i64 p_1.xTo), (.int .i64 p_1.xPort), (.int .i64 p_1.xProto), (.int .i64 (min t9 1000000))]) ([(GFlow.mk p_1 (min t9 1000000))]) flelGFlow (by intro ρ h; simp only [List.map_toArray, List.map_cons, List.map_nil, h (.tmp 47) _ rfl]) rfl el53 zero110 rfl rfl rfl rfl rfl rfl ?_); intro v18
      refine stw (o_app 2 0 rfl rfl (src_flat flelGFlow reads_own) rfl rfl rfl el53 rfl zero110 rfl rfl ?_); intro v20
      refine o_as st rfl rfl ?_
      refine o_as st rfl rfl ?_
      refine c_nil ?_
      refine l_then ?_
      refine c_ret ?_
      exact l_end2 Tryd.results96 ((r6 ++ ([(GFlow.mk p_1 (min t9 1000000))])), true) v20 (rv_t rfl) (rv_t rfl) rfl (fun w m => NewCh.ofB m [2] rfl)



end
section
open Go.RowKit
set_option maxRecDepth 100000 in
set_option maxHeartbeats 8000000 in
theorem w_impl_tracker_pass {w0 : World} {F : Nat → Prop} {b1 : Nat} {v2 : Value} {v4 : Value} {t_0_set_Chains : (List (List GRule))} {t_0_set_Accept : Bool} {t_0_flows : (List GFlow)} {t_0_life : Int} {p_1 : GPacket} {now_2 : Int} {κ : (Bool × (List GFlow)) → Prop} (hF : ∀ b, F b → b < w0.heap.size ∧ ¬ feet [cellCh b1 [v2, (.bool t_0_set_Accept), v4, (.int .i64 t_0_life)] 91] b) (hg : Given [cellCh b1 [v2, (.bool t_0_set_Accept), v4, (.int .i64 t_0_life)] 91] F w0) (hv2 : Sl (elSl elGRule) F w0 v2 t_0_set_Chains) (hv4 : Sl elGFlow F w0 v4 t_0_flows) (hgl0 : Sl elGFieldShape F w0 (.slice (some ⟨0, 0, none⟩) 4 4) gl_impl_fieldShapes) (h : L_impl_tracker_pass t_0_set_Chains t_0_set_Accept t_0_flows t_0_life p_1 now_2 κ) :
    Calls Tryd.prog 63 #[(.pointer (some ⟨b1, 0, none⟩)), (.agg #[(.int .i64 p_1.xFrom), (.int .i64 p_1.xTo), (.int .i64 p_1.xPort), (.int .i64 p_1.xProto)]), (.int .i64 now_2)] w0 (Ret [cellCh b1 [v2, (.bool t_0_set_Accept), v4, (.int .i64 t_0_life)] 91] F w0 κ (fun (r : (Bool × (List GFlow))) (u : Value) => (.bool r.1)) (fun (r : (Bool × (List GFlow))) (u : Value) => [cellCh b1 [v2, (.bool t_0_set_Accept), u, (.int .i64 t_0_life)] 91, ownCh elGFlow 110 u r.2])) := by
  refine enterS (args := [(.pointer (some ⟨b1, 0, none⟩)), (.agg #[(.int .i64 p_1.xFrom), (.int .i64 p_1.xTo), (.int .i64 p_1.xPort), (.int .i64 p_1.xProto)]), (.int .i64 now_2)]) [cellCh b1 [v2, (.bool t_0_set_Accept), v4, (.int .i64 t_0_life)] 91] hF hg Tryd.func63 rfl Tryd.ntmps63 rfl h ?_
  clear h hF hg
  refine c_seq ?_
  refine c_region ?_
  refine stw (o_box rfl rfl [(.int .i64 p_1.xFrom), (.int .i64 p_1.xTo), (.int .i64 p_1.xPort), (.int .i64 p_1.xProto)] rfl ?_); intro b7
  refine o_as st rfl rfl ?_
  refine c_nil ?_
  refine l_then ?_
  refine c_seq ?_
  refine c_join (σ := Bool) (fun (t71 : Bool) (a : Act) (w : World) => Has 50 [(0, (.pointer (some ⟨b1, 0, none⟩))), (2, (.int .i64 now_2)), (4, (.pointer (some ⟨b7, 0, none⟩))), (23, (.bool t71))] a ∧ Mem (gB F [cellCh b1 [v2, (.bool t_0_set_Accept), v4, (.int .i64 t_0_life)] 91] w0) (feet [cellCh b1 [v2, (.bool t_0_set_Accept), v4, (.int .i64 t_0_life)] 91]) w0 [cellCh b7 [(.int .i64 p_1.xFrom), (.int .i64 p_1.xTo), (.int .i64 p_1.xPort), (.int .i64 p_1.xProto)] 40, cellCh b1 [v2, (.bool t_0_set_Accept), v4, (.int .i64 t_0_life)] 91, snapCh w0 F] w) ?_ ?_
  · intro k72
    refine c_draw mixed 17 rfl [cellCh b7 [(.int .i64 p_1.xFrom), (.int .i64 p_1.xTo), (.int .i64 p_1.xPort), (.int .i64 p_1.xProto)] 40, cellCh b1 [v2, (.bool t_0_set_Accept), v4, (.int .i64 t_0_life)] 91, snapCh w0 F] ?_
    refine o_mv (dt 0 (fun _ m => m)) rfl rfl ?_
    refine o_nilc (dt 1 (fun _ m => m)) rfl rfl ?_
    refine o_fad (dt 2 (fun _ m => m)) rfl rfl fld91_1 rfl ?_
    refine o_ldc (dt 3 (fun _ m => m)) (v := v4) 1 rfl rfl rfl ty53 rfl ?_
    refine o_ldc (dt 4 (fun _ m => m)) (v := (.agg #[(.int .i64 p_1.xFrom), (.int .i64 p_1.xTo), (.int .i64 p_1.xPort), (.int .i64 p_1.xProto)])) 0 rfl rfl rfl ty40 rfl ?_
    refine o_mv (dt 5 (fun _ m => m)) rfl rfl ?_
    refine d_one (i := 6) rfl (by kernel_rfl) (o_callP (vs := [v4, (.agg #[(.int .i64 p_1.xFrom), (.int .i64 p_1.xTo), (.int .i64 p_1.xPort), (.int .i64 p_1.xProto)]), (.int .i64 now_2)]) Tryd.call33 rfl rfl (by intro w m h; exact (w_impl_KnownFlow (F := allB [] w) (list_0 := t_0_flows) (p_1 := p_1) (now_2 := now_2) allB_ok (m.rd0 2 rfl (reads_snap hv4)) (m.rd0 2 rfl (reads_snap hgl0)) h).mono (fun _ _ k => ret_free (fun r u => fr_nil) k)) ?_); rintro r9 _
    refine d_and (fun _ m => m) ?_
    refine o_lss (dt 7 (fun _ m => m)) rfl rfl rfl ?_
    refine o_mv (dt 8 (fun _ m => m)) rfl rfl ?_
    refine st_sp (dj := 15) rfl ?_ ?_
    · refine o_mv (dtg 9 (fun _ m => m)) rfl rfl ?_
      refine o_nilc (dtg 10 (fun _ m => m)) rfl rfl ?_
      refine o_fad (dtg 11 (fun _ m => m)) rfl rfl fld91_0 rfl ?_
      refine o_ldc (dtg 12 (fun _ m => m)) (v := (.agg #[v2, (.bool t_0_set_Accept)])) 1 rfl rfl rfl ty25 rfl ?_
      refine o_ldc (dtg 13 (fun _ m => m)) (v := (.agg #[(.int .i64 p_1.xFrom), (.int .i64 p_1.xTo), (.int .i64 p_1.xPort), (.int .i64 p_1.xProto)])) 0 rfl rfl rfl ty40 rfl ?_
      refine d_oneg (i := 14) rfl rfl rfl (by kernel_rfl) (o_callP (vs := [(.agg #[v2, (.bool t_0_set_Accept)]), (.agg #[(.int .i64 p_1.xFrom), (.int .i64 p_1.xTo), (.int .i64 p_1.xPort), (.int .i64 p_1.xProto)])]) Tryd.call54 rfl rfl (by intro w m h; exact (w_impl_judgeValid (F := allB [] w) (s_0 := (GRuleset.mk t_0_set_Chains t_0_set_Accept)) (p_1 := p_1) allB_ok (m.rd0 2 rfl (reads_snap hv2)) h).mono (fun _ _ k => ret_free (fun r u => fr_nil) k)) ?_); rintro r10 _
      refine d_and (fun _ m => m) ?_
      refine o_not (dtg 15 (fun _ m => m)) rfl rfl ?_
      refine o_pickT (dt 16 (fun _ m => m)) rfl rfl rfl ?_
      refine d_done (by kernel_rfl) ?_
      exact l_join (!r10) (fun a w hE hm => ⟨hE.sub ⟨rfl, rfl, rfl, rfl, trivial⟩, (hm.pick [0, 1, 2] rfl)⟩)
    · refine dsk 9 (fun _ m => m) rfl (by kernel_rfl) rfl rfl rfl rfl ?_
      refine dsk 10 (fun _ m => m) rfl (by kernel_rfl) rfl rfl rfl rfl ?_
      refine dsk 11 (fun _ m => m) rfl (by kernel_rfl) rfl rfl rfl rfl ?_
      refine dsk 12 (fun _ m => m) rfl (by kernel_rfl) rfl rfl rfl rfl ?_
      refine dsk 13 (fun _ m => m) rfl (by kernel_rfl) rfl rfl rfl rfl ?_
      refine dsk 14 (fun _ m => m) rfl (by kernel_rfl) rfl rfl rfl rfl ?_
      refine dsk 15 (fun _ m => m) rfl (by kernel_rfl) rfl rfl rfl rfl ?_
      refine o_pickF (dt 16 (fun _ m => m)) rfl rfl rfl ?_
      refine d_done (by kernel_rfl) ?_
      exact l_join false (fun a w hE hm => ⟨hE.sub ⟨rfl, rfl, rfl, rfl, trivial⟩, (hm.pick [0, 1, 2] rfl)⟩)
  · rintro t71 a w ⟨hE, hm⟩ h
    refine nx_of hE hm h ?_
    clear hE hm h
    refine c_cond rfl ?_ ?_
    · refine c_seq ?_
      refine c_region ?_
      refine o_mv st rfl rfl ?_
      refine o_mv st rfl rfl ?_
      refine o_nilc st rfl rfl ?_
      refine o_fad st rfl rfl fld91_1 rfl ?_
      refine o_ldc st (v := v4) 1 rfl rfl rfl ty53 rfl ?_
      refine o_mv st rfl rfl ?_
      refine stw (o_callP (vs := [v4, (.int .i64 now_2)]) Tryd.call79 rfl rfl (by intro w m h; exact (w_impl_notExpired (F := allB [] w) (list_0 := t_0_flows) (now_1 := now_2) allB_ok (m.rd0 2 rfl (reads_snap hv4)) h).mono (fun _ _ k => ret_free (fun r u => (fr_cons (free_own flelGFlow) fr_nil)) k)) ?_); rintro r73 v74
      refine o_nilc st rfl rfl ?_
      refine o_fad st rfl rfl fld91_1 rfl ?_
      refine nx_own 0 rfl ?_; rintro a76 l77 q78 rfl
      refine stw (o_stc (cs' := [v2, (.bool t_0_set_Accept), (.slice a76 l77 q78), (.int .i64 t_0_life)]) 2 rfl rfl rfl ty53 rfl rfl rfl rfl ?_)
      refine c_nil ?_
      refine l_then ?_
      refine c_seq ?_
      refine c_region ?_
      refine o_as st rfl rfl ?_
      refine c_nil ?_
      refine l_then ?_
      refine c_ret ?_
      refine l_ret ?_
      exact l_end1 Tryd.results63 (false, r73) (.slice a76 l77 q78) (rv_t rfl) (fun w m => NewCh.ofB m [2, 0] rfl)
    · refine c_skip ?_
      refine l_then ?_
      refine c_join (σ := (List GFlow)) (fun (xs79 : (List GFlow)) (a : Act) (w : World) => ∃ (v80 : Value), Has 50 [] a ∧ Mem (gB F [cellCh b1 [v2, (.bool t_0_set_Accept), v4, (.int .i64 t_0_life)] 91] w0) (feet [cellCh b1 [v2, (.bool t_0_set_Accept), v4, (.int .i64 t_0_life)] 91]) w0 [ownCh elGFlow 110 v80 xs79, cellCh b1 [v2, (.bool t_0_set_Accept), v80, (.int .i64 t_0_life)] 91, snapCh w0 F] w) ?_ ?_
      · intro k82
        refine c_drawQ mixed 18 rfl [cellCh b7 [(.int .i64 p_1.xFrom), (.int .i64 p_1.xTo), (.int .i64 p_1.xPort), (.int .i64 p_1.xProto)] 40, snapCh w0 F] ?_
        intro Qd hP hQ
        have H584 : ∀ (r83 : (List GFlow)) (a86 : Option Addr) (l87 : Nat) (q88 : Nat) (r85 : Bool), Nx 50 (gB F [cellCh b1 [v2, (.bool t_0_set_Accept), v4, (.int .i64 t_0_life)] 91] w0) (feet [cellCh b1 [v2, (.bool t_0_set_Accept), v4, (.int .i64 t_0_life)] 91]) w0 (wpAnyH Tryd.prog .any (opsAt Tryd.f63 [1, 1, 0]) Qd (Mem (gB F [cellCh b1 [v2, (.bool t_0_set_Accept), v4, (.int .i64 t_0_life)] 91] w0) (feet [cellCh b1 [v2, (.bool t_0_set_Accept), v4, (.int .i64 t_0_life)] 91]) w0 [cellCh b7 [(.int .i64 p_1.xFrom), (.int .i64 p_1.xTo), (.int .i64 p_1.xPort), (.int .i64 p_1.xProto)] 40, snapCh w0 F]) 0 #[true, true, true, true, true, true, true, true, true, true, true, true, true, true, true, true, true, true]) [] [ownCh elGFlow 110 (.slice a86 l87 q88) r83, cellCh b7 [(.int .i64 p_1.xFrom), (.int .i64 p_1.xTo), (.int .i64 p_1.xPort), (.int .i64 p_1.xProto)] 40, cellCh b1 [v2, (.bool t_0_set_Accept), (.slice a86 l87 q88), (.int .i64 t_0_life)] 91, snapCh w0 F] (k82 r83) := by
          intro r83 a86 l87 q88 r85
          refine d_done (by kernel_rfl) ?_
          exact fun a w hE hm hφ => hQ r83 a w hφ ((fun a w hE hm => ⟨(.slice a86 l87 q88), hE.sub trivial, (hm.pick [0, 2, 3] rfl)⟩) a w hE hm)
        have H585 : ∀ (r83 : (List GFlow)) (v84 : Value) (r85 : Bool), Nx 50 (gB F [cellCh b1 [v2, (.bool t_0_set_Accept), v4, (.int .i64 t_0_life)] 91] w0) (feet [cellCh b1 [v2, (.bool t_0_set_Accept), v4, (.int .i64 t_0_life)] 91]) w0 (wpAnyH Tryd.prog .any (opsAt Tryd.f63 [1, 1, 0]) Qd (Mem (gB F [cellCh b1 [v2, (.bool t_0_set_Accept), v4, (.int .i64 t_0_life)] 91] w0) (feet [cellCh b1 [v2, (.bool t_0_set_Accept), v4, (.int .i64 t_0_life)] 91]) w0 [cellCh b7 [(.int .i64 p_1.xFrom), (.int .i64 p_1.xTo), (.int .i64 p_1.xPort), (.int .i64 p_1.xProto)] 40, snapCh w0 F]) 6 #[true, true, true, true, true, true, true, true, true, true, true, true, false, false, false, false, false, false]) [(34, (.pointer (some ⟨b1, 0, none⟩))), (45, (.tuple #[v84, (.bool r85)]))] [ownCh elGFlow 110 v84 r83, cellCh b7 [(.int .i64 p_1.xFrom), (.int .i64 p_1.xTo), (.int .i64 p_1.xPort), (.int .i64 p_1.xProto)] 40, cellCh b1 [v2, (.bool t_0_set_Accept), v4, (.int .i64 t_0_life)] 91, snapCh w0 F] (k82 r83) := by
          intro r83 v84 r85
          refine o_mv (dt 12 (fun w m => m.pick [1, 3] rfl)) rfl rfl ?_
          refine o_ext (dt 13 (fun w m => m.pick [1, 3] rfl)) (vs := [v84, (.bool r85)]) rfl rfl rfl ?_
          refine o_ext (dt 14 (fun w m => m.pick [1, 3] rfl)) (vs := [v84, (.bool r85)]) rfl rfl rfl ?_
          refine o_nilc (dt 15 (fun w m => m.pick [1, 3] rfl)) rfl rfl ?_
          refine o_fad (dt 16 (fun w m => m.pick [1, 3] rfl)) rfl rfl fld91_1 rfl ?_
          refine nx_own 0 rfl ?_; rintro a86 l87 q88 rfl
          refine d_one (i := 17) rfl (by kernel_rfl) (o_stc (cs' := [v2, (.bool t_0_set_Accept), (.slice a86 l87 q88), (.int .i64 t_0_life)]) 2 rfl rfl rfl ty53 rfl rfl rfl rfl ?_)
          refine d_and (fun w m => m.pick [1, 3] rfl) ?_
          refine pk [0, 1, 2, 3] rfl ?_
          refine re (E' := []) trivial ?_
          exact H584 r83 a86 l87 q88 r85
        have H586 : ∀ (_ : Unit), Nx 50 (gB F [cellCh b1 [v2, (.bool t_0_set_Accept), v4, (.int .i64 t_0_life)] 91] w0) (feet [cellCh b1 [v2, (.bool t_0_set_Accept), v4, (.int .i64 t_0_life)] 91]) w0 (wpAnyH Tryd.prog .any (opsAt Tryd.f63 [1, 1, 0]) Qd (Mem (gB F [cellCh b1 [v2, (.bool t_0_set_Accept), v4, (.int .i64 t_0_life)] 91] w0) (feet [cellCh b1 [v2, (.bool t_0_set_Accept), v4, (.int .i64 t_0_life)] 91]) w0 [cellCh b7 [(.int .i64 p_1.xFrom), (.int .i64 p_1.xTo), (.int .i64 p_1.xPort), (.int .i64 p_1.xProto)] 40, snapCh w0 F]) 7 #[true, true, true, true, true, true, true, true, true, true, true, false, false, false, false, false, false, false]) [(34, (.pointer (some ⟨b1, 0, none⟩))), (39, (.agg #[(.int .i64 p_1.xFrom), (.int .i64 p_1.xTo), (.int .i64 p_1.xPort), (.int .i64 p_1.xProto)])), (40, (.int .i64 now_2)), (38, v4), (44, (.int .i64 t_0_life))] [cellCh b7 [(.int .i64 p_1.xFrom), (.int .i64 p_1.xTo), (.int .i64 p_1.xPort), (.int .i64 p_1.xProto)] 40, cellCh b1 [v2, (.bool t_0_set_Accept), v4, (.int .i64 t_0_life)] 91, snapCh w0 F] (L_impl_trackValid t_0_flows p_1 now_2 t_0_life (fun (r83, r85) => k82 r83)) := by
          intro _
          refine d_one (i := 11) rfl (by kernel_rfl) (o_callP (vs := [v4, (.agg #[(.int .i64 p_1.xFrom), (.int .i64 p_1.xTo), (.int .i64 p_1.xPort), (.int .i64 p_1.xProto)]), (.int .i64 now_2), (.int .i64 t_0_life)]) Tryd.call96 rfl rfl (by intro w m h; exact (w_impl_trackValid (F := allB [] w) (list_0 := t_0_flows) (p_1 := p_1) (now_2 := now_2) (life_3 := t_0_life) allB_ok (m.rd0 2 rfl (reads_snap hv4)) (m.rd0 2 rfl (reads_snap hgl0)) h).mono (fun _ _ k => ret_free (fun r u => (fr_cons (free_own flelGFlow) fr_nil)) k)) ?_); rintro ⟨r83, r85⟩ v84
          refine d_and (fun w m => m.pick [1, 3] rfl) ?_
          refine pk [0, 1, 2, 3] rfl ?_
          refine re (E' := [(34, (.pointer (some ⟨b1, 0, none⟩))), (45, (.tuple #[v84, (.bool r85)]))]) ⟨rfl, rfl, trivial⟩ ?_
          exact H585 r83 v84 r85
        have H587 : ∀ (_ : Unit), Nx 50 (gB F [cellCh b1 [v2, (.bool t_0_set_Accept), v4, (.int .i64 t_0_life)] 91] w0) (feet [cellCh b1 [v2, (.bool t_0_set_Accept), v4, (.int .i64 t_0_life)] 91]) w0 (wpAnyH Tryd.prog .any (opsAt Tryd.f63 [1, 1, 0]) Qd (Mem (gB F [cellCh b1 [v2, (.bool t_0_set_Accept), v4, (.int .i64 t_0_life)] 91] w0) (feet [cellCh b1 [v2, (.bool t_0_set_Accept), v4, (.int .i64 t_0_life)] 91]) w0 [cellCh b7 [(.int .i64 p_1.xFrom), (.int .i64 p_1.xTo), (.int .i64 p_1.xPort), (.int .i64 p_1.xProto)] 40, snapCh w0 F]) 8 #[true, true, true, true, true, true, true, true, true, true, false, false, false, false, false, false, false, false]) [(34, (.pointer (some ⟨b1, 0, none⟩))), (39, (.agg #[(.int .i64 p_1.xFrom), (.int .i64 p_1.xTo), (.int .i64 p_1.xPort), (.int .i64 p_1.xProto)])), (40, (.int .i64 now_2)), (43, (.pointer (some ⟨b1, 3, none⟩))), (38, v4)] [cellCh b7 [(.int .i64 p_1.xFrom), (.int .i64 p_1.xTo), (.int .i64 p_1.xPort), (.int .i64 p_1.xProto)] 40, cellCh b1 [v2, (.bool t_0_set_Accept), v4, (.int .i64 t_0_life)] 91, snapCh w0 F] (L_impl_trackValid t_0_flows p_1 now_2 t_0_life (fun (r83, r85) => k82 r83)) := by
          intro _
          refine d_one (i := 10) rfl (by kernel_rfl) (o_ldc m_op (v := (.int .i64 t_0_life)) 1 rfl rfl rfl ty3 rfl ?_)
          refine d_and (fun w m => m.pick [0, 2] rfl) ?_
          refine pk [0, 1, 2] rfl ?_
          refine re (E' := [(34, (.pointer (some ⟨b1, 0, none⟩))), (39, (.agg #[(.int .i64 p_1.xFrom), (.int .i64 p_1.xTo), (.int .i64 p_1.xPort), (.int .i64 p_1.xProto)])), (40, (.int .i64 now_2)), (38, v4), (44, (.int .i64 t_0_life))]) ⟨rfl, rfl, rfl, rfl, rfl, trivial⟩ ?_
          exact H586 ()
        have H588 : ∀ (_ : Unit), Nx 50 (gB F [cellCh b1 [v2, (.bool t_0_set_Accept), v4, (.int .i64 t_0_life)] 91] w0) (feet [cellCh b1 [v2, (.bool t_0_set_Accept), v4, (.int .i64 t_0_life)] 91]) w0 (wpAnyH Tryd.prog .any (opsAt Tryd.f63 [1, 1, 0]) Qd (Mem (gB F [cellCh b1 [v2, (.bool t_0_set_Accept), v4, (.int .i64 t_0_life)] 91] w0) (feet [cellCh b1 [v2, (.bool t_0_set_Accept), v4, (.int .i64 t_0_life)] 91]) w0 [cellCh b7 [(.int .i64 p_1.xFrom), (.int .i64 p_1.xTo), (.int .i64 p_1.xPort), (.int .i64 p_1.xProto)] 40, snapCh w0 F]) 8 #[true, true, true, true, false, true, true, true, true, true, true, false, false, false, false, false, false, false]) [(34, (.pointer (some ⟨b1, 0, none⟩))), (37, (.pointer (some ⟨b1, 2, none⟩))), (39, (.agg #[(.int .i64 p_1.xFrom), (.int .i64 p_1.xTo), (.int .i64 p_1.xPort), (.int .i64 p_1.xProto)])), (40, (.int .i64 now_2)), (44, (.int .i64 t_0_life))] [cellCh b7 [(.int .i64 p_1.xFrom), (.int .i64 p_1.xTo), (.int .i64 p_1.xPort), (.int .i64 p_1.xProto)] 40, cellCh b1 [v2, (.bool t_0_set_Accept), v4, (.int .i64 t_0_life)] 91, snapCh w0 F] (L_impl_trackValid t_0_flows p_1 now_2 t_0_life (fun (r83, r85) => k82 r83)) := by
          intro _
          refine d_one (i := 4) rfl (by kernel_rfl) (o_ldc m_op (v := v4) 1 rfl rfl rfl ty53 rfl ?_)
          refine d_and (fun w m => m.pick [0, 2] rfl) ?_
          refine pk [0, 1, 2] rfl ?_
          refine re (E' := [(34, (.pointer (some ⟨b1, 0, none⟩))), (39, (.agg #[(.int .i64 p_1.xFrom), (.int .i64 p_1.xTo), (.int .i64 p_1.xPort), (.int .i64 p_1.xProto)])), (40, (.int .i64 now_2)), (38, v4), (44, (.int .i64 t_0_life))]) ⟨rfl, rfl, rfl, rfl, rfl, trivial⟩ ?_
          exact H586 ()
        refine o_mv (dt 0 (fun w m => m.pick [0, 2] rfl)) rfl rfl ?_
        refine o_mv (dt 1 (fun w m => m.pick [0, 2] rfl)) rfl rfl ?_
        refine o_nilc (dt 2 (fun w m => m.pick [0, 2] rfl)) rfl rfl ?_
        refine o_fad (dt 3 (fun w m => m.pick [0, 2] rfl)) rfl rfl fld91_1 rfl ?_
        refine o_ldc (dt 5 (fun w m => m.pick [0, 2] rfl)) (v := (.agg #[(.int .i64 p_1.xFrom), (.int .i64 p_1.xTo), (.int .i64 p_1.xPort), (.int .i64 p_1.xProto)])) 0 rfl rfl rfl ty40 rfl ?_
        refine o_mv (dt 6 (fun w m => m.pick [0, 2] rfl)) rfl rfl ?_
        refine o_mv (dt 7 (fun w m => m.pick [0, 2] rfl)) rfl rfl ?_
        refine o_nilc (dt 8 (fun w m => m.pick [0, 2] rfl)) rfl rfl ?_
        refine o_fad (dt 9 (fun w m => m.pick [0, 2] rfl)) rfl rfl fld91_2 rfl ?_
        refine d_two (i := 4) (j := 10) rfl rfl (by kernel_rfl) ?_ ?_
        · intro o ho; cases ho
          refine o_ldc m_op (v := v4) 1 rfl rfl rfl ty53 rfl ?_
          refine d_and (fun w m => m.pick [0, 2] rfl) ?_
          refine pk [0, 1, 2] rfl ?_
          refine re (E' := [(34, (.pointer (some ⟨b1, 0, none⟩))), (39, (.agg #[(.int .i64 p_1.xFrom), (.int .i64 p_1.xTo), (.int .i64 p_1.xPort), (.int .i64 p_1.xProto)])), (40, (.int .i64 now_2)), (43, (.pointer (some ⟨b1, 3, none⟩))), (38, v4)]) ⟨rfl, rfl, rfl, rfl, rfl, trivial⟩ ?_
          exact H587 ()
        · intro o ho; cases ho
          refine o_ldc m_op (v := (.int .i64 t_0_life)) 1 rfl rfl rfl ty3 rfl ?_
          refine d_and (fun w m => m.pick [0, 2] rfl) ?_
          refine pk [0, 1, 2] rfl ?_
          refine re (E' := [(34, (.pointer (some ⟨b1, 0, none⟩))), (37, (.pointer (some ⟨b1, 2, none⟩))), (39, (.agg #[(.int .i64 p_1.xFrom), (.int .i64 p_1.xTo), (.int .i64 p_1.xPort), (.int .i64 p_1.xProto)])), (40, (.int .i64 now_2)), (44, (.int .i64 t_0_life))]) ⟨rfl, rfl, rfl, rfl, rfl, trivial⟩ ?_
          exact H588 ()
      · rintro xs79 a w ⟨v80, hE, hm⟩ h
        refine nx_of hE hm h ?_
        clear hE hm h
        refine c_seq ?_
        refine c_region ?_
        refine o_as st rfl rfl ?_
        refine c_nil ?_
        refine l_then ?_
        refine c_ret ?_
        exact l_end1 Tryd.results63 (true, xs79) v80 (rv_t rfl) (fun w m => NewCh.ofB m [1, 0] rfl)

set_option maxRecDepth 100000 in
set_option maxHeartbeats 8000000 in
theorem w_impl_AnswersPass {w0 : World} {F : Nat → Prop} {v1 : Value} {s_0 : GRuleset} {p_1 : GPacket} {life_2 : Int} {later_3 : Int} {κ : Bool → Prop} (hF : ∀ b, F b → b < w0.heap.size ∧ ¬ feet [] b) (hv1 : Sl (elSl elGRule) F w0 v1 s_0.xChains) (hgl0 : Sl elGFieldShape F w0 (.slice (some ⟨0, 0, none⟩) 4 4) gl_impl_fieldShapes) (h : L_impl_AnswersPass s_0 p_1 life_2 later_3 κ) :
    Calls Tryd.prog 19 #[(.agg #[v1, (.bool s_0.xAccept)]), (.agg #[(.int .i64 p_1.xFrom), (.int .i64 p_1.xTo), (.int .i64 p_1.xPort), (.int .i64 p_1.xProto)]), (.int .i64 life_2), (.int .i64 later_3)] w0 (Ret [] F w0 κ (fun (r : Bool) (u : Unit) => (.bool r)) (fun (r : Bool) (u : Unit) => [])) := by
  refine enterS (args := [(.agg #[v1, (.bool s_0.xAccept)]), (.agg #[(.int .i64 p_1.xFrom), (.int .i64 p_1.xTo), (.int .i64 p_1.xPort), (.int .i64 p_1.xProto)]), (.int .i64 life_2), (.int .i64 later_3)]) [] hF (Given.nil _ _) Tryd.func19 rfl Tryd.ntmps19 rfl h ?_
  clear h hF
  refine c_seq ?_
  refine c_region ?_
  obtain ⟨a3, l4, q5, hs_⟩ := sl_val hv1; subst hs_
  refine stw (o_box rfl rfl [(.slice a3 l4 q5), (.bool s_0.xAccept)] rfl ?_); intro b6
  refine stw (o_box rfl rfl [(.int .i64 p_1.xFrom), (.int .i64 p_1.xTo), (.int .i64 p_1.xPort), (.int .i64 p_1.xProto)] rfl ?_); intro b8
  refine o_as st rfl rfl ?_
  refine c_nil ?_
  refine l_then ?_
  refine c_seq ?_
  refine c_join (σ := Bool) (fun (t73 : Bool) (a : Act) (w : World) => Has 42 [(2, (.int .i64 life_2)), (3, (.int .i64 later_3)), (4, (.pointer (some ⟨b6, 0, none⟩))), (5, (.pointer (some ⟨b8, 0, none⟩))), (31, (.bool t73))] a ∧ Mem (gB F [] w0) (feet []) w0 [cellCh b8 [(.int .i64 p_1.xFrom), (.int .i64 p_1.xTo), (.int .i64 p_1.xPort), (.int .i64 p_1.xProto)] 40, cellCh b6 [(.slice a3 l4 q5), (.bool s_0.xAccept)] 25, snapCh w0 F] w) ?_ ?_
  · intro k74
    refine c_region ?_
    refine o_ldc st (v := (.agg #[(.slice a3 l4 q5), (.bool s_0.xAccept)])) 1 rfl rfl rfl ty25 rfl ?_
    refine stw (o_callP (vs := [(.agg #[(.slice a3 l4 q5), (.bool s_0.xAccept)])]) Tryd.call52 rfl rfl (by intro w m h; exact (w_impl_RulesetValid (F := allB [] w) (s_0 := s_0) allB_ok (m.rd0 2 rfl (reads_snap hv1)) (m.rd0 2 rfl (reads_snap hgl0)) h).mono (fun _ _ k => ret_free (fun r u => fr_nil) k)) ?_); rintro r10 _
    refine o_not st rfl rfl ?_
    refine o_mv st rfl rfl ?_
    refine st_sp (dj := 13) rfl ?_ ?_
    · refine st_s rfl rfl rfl rfl ?_
      refine st_s rfl rfl rfl rfl ?_
      refine st_s rfl rfl rfl rfl ?_
      refine o_pickT st rfl rfl rfl ?_
      refine o_mv st rfl rfl ?_
      refine st_s rfl rfl rfl rfl ?_
      refine st_s rfl rfl rfl rfl ?_
      refine st_s rfl rfl rfl rfl ?_
      refine o_pickT st rfl rfl rfl ?_
      refine o_mv st rfl rfl ?_
      refine st_s rfl rfl rfl rfl ?_
      refine st_s rfl rfl rfl rfl ?_
      refine o_pickT st rfl rfl rfl ?_
      refine o_mv st rfl rfl ?_
      refine st_s rfl rfl rfl rfl ?_
      refine st_s rfl rfl rfl rfl ?_
      refine st_s rfl rfl rfl rfl ?_
      refine o_pickT st rfl rfl rfl ?_
      refine c_nil ?_
      exact l_join true (fun a w hE hm => ⟨hE.sub ⟨rfl, rfl, rfl, rfl, rfl, trivial⟩, (hm.pick [0, 1, 2] rfl)⟩)
    · refine o_ldc (st_g rfl rfl) (v := (.agg #[(.int .i64 p_1.xFrom), (.int .i64 p_1.xTo), (.int .i64 p_1.xPort), (.int .i64 p_1.xProto)])) 0 rfl rfl rfl ty40 rfl ?_
      refine st_gw rfl rfl (o_callP (vs := [(.agg #[(.int .i64 p_1.xFrom), (.int .i64 p_1.xTo), (.int .i64 p_1.xPort), (.int .i64 p_1.xProto)])]) Tryd.call61 rfl rfl (by intro w m h; exact (w_impl_PacketValid (F := allB [] w) (p_0 := p_1) allB_ok (m.rd0 2 rfl (reads_snap hgl0)) h).mono (fun _ _ k => ret_free (fun r u => fr_nil) k)) ?_); rintro r11 _
      refine o_not (st_g rfl rfl) rfl rfl ?_
      refine o_pickF st rfl rfl rfl ?_
      refine o_mv st rfl rfl ?_
      refine st_sp (dj := 18) rfl ?_ ?_
      · refine st_s rfl rfl rfl rfl ?_
        refine st_s rfl rfl rfl rfl ?_
        refine st_s rfl rfl rfl rfl ?_
        refine o_pickT st rfl rfl rfl ?_
        refine o_mv st rfl rfl ?_
        refine st_s rfl rfl rfl rfl ?_
        refine st_s rfl rfl rfl rfl ?_
        refine o_pickT st rfl rfl rfl ?_
        refine o_mv st rfl rfl ?_
        refine st_s rfl rfl rfl rfl ?_
        refine st_s rfl rfl rfl rfl ?_
        refine st_s rfl rfl rfl rfl ?_
        refine o_pickT st rfl rfl rfl ?_
        refine c_nil ?_
        exact l_join true (fun a w hE hm => ⟨hE.sub ⟨rfl, rfl, rfl, rfl, rfl, trivial⟩, (hm.pick [0, 1, 2] rfl)⟩)
      · refine o_mv (st_g rfl rfl) rfl rfl ?_
        refine st_gw rfl rfl (o_callP (vs := [(.int .i64 life_2)]) Tryd.call62 rfl rfl (by intro w m h; exact (w_impl_lifeValid (F := allB [] w) (life_0 := life_2) allB_ok h).mono (fun _ _ k => ret_free (fun r u => fr_nil) k)) ?_); rintro r12 _
        refine o_not (st_g rfl rfl) rfl rfl ?_
        refine o_pickF st rfl rfl rfl ?_
        refine o_mv st rfl rfl ?_
        refine st_sp (dj := 23) rfl ?_ ?_
        · refine st_s rfl rfl rfl rfl ?_
          refine st_s rfl rfl rfl rfl ?_
          refine o_pickT st rfl rfl rfl ?_
          refine o_mv st rfl rfl ?_
          refine st_s rfl rfl rfl rfl ?_
          refine st_s rfl rfl rfl rfl ?_
          refine st_s rfl rfl rfl rfl ?_
          refine o_pickT st rfl rfl rfl ?_
          refine c_nil ?_
          exact l_join true (fun a w hE hm => ⟨hE.sub ⟨rfl, rfl, rfl, rfl, rfl, trivial⟩, (hm.pick [0, 1, 2] rfl)⟩)
        · refine o_mv (st_g rfl rfl) rfl rfl ?_
          refine o_lss (st_g rfl rfl) rfl rfl rfl ?_
          refine o_pickF st rfl rfl rfl ?_
          refine o_mv st rfl rfl ?_
          refine st_sp (dj := 27) rfl ?_ ?_
          · refine st_s rfl rfl rfl rfl ?_
            refine st_s rfl rfl rfl rfl ?_
            refine st_s rfl rfl rfl rfl ?_
            refine o_pickT st rfl rfl rfl ?_
            refine c_nil ?_
            exact l_join true (fun a w hE hm => ⟨hE.sub ⟨rfl, rfl, rfl, rfl, rfl, trivial⟩, (hm.pick [0, 1, 2] rfl)⟩)
          · refine o_mv (st_g rfl rfl) rfl rfl ?_
            refine o_mv (st_g rfl rfl) rfl rfl ?_
            refine o_gtr (st_g rfl rfl) rfl rfl rfl ?_
            refine o_pickF st rfl rfl rfl ?_
            refine c_nil ?_
            exact l_join (decide (life_2 < later_3)) (fun a w hE hm => ⟨hE.sub ⟨rfl, rfl, rfl, rfl, rfl, trivial⟩, (hm.pick [0, 1, 2] rfl)⟩)
  · rintro t73 a w ⟨hE, hm⟩ h
    refine nx_of hE hm h ?_
    clear hE hm h
    refine c_cond rfl ?_ ?_
    · refine c_seq ?_
      refine c_region ?_
      refine o_as st rfl rfl ?_
      refine c_nil ?_
      refine l_then ?_
      refine c_ret ?_
      refine l_ret ?_
      exact l_end1 Tryd.results19 false () (rv_t rfl) (fun _ _ => NewCh.nil _ _ _ _)
    · refine c_skip ?_
      refine l_then ?_
      refine c_seq ?_
      refine c_region ?_
      refine o_ldc st (v := (.agg #[(.slice a3 l4 q5), (.bool s_0.xAccept)])) 1 rfl rfl rfl ty25 rfl ?_
      refine o_mv st rfl rfl ?_
      refine o_bld st (qs := [(0, (.agg #[(.slice a3 l4 q5), (.bool s_0.xAccept)])), (2, (.int .i64 life_2))]) (cells := [(.slice a3 l4 q5), (.bool s_0.xAccept), (.slice none 0 0), (.int .i64 life_2)]) (by intro ρ h; simp only [List.map_toArray, List.map_cons, List.map_nil, h (.tmp 32) _ rfl, h (.tmp 33) _ rfl]) rfl bld91 rfl ?_
      refine stw (o_alloc rfl [(.slice none 0 0), (.bool false), (.slice none 0 0), (.int .i64 0)] zero91 ?_); intro b75
      refine stw (o_stc (cs' := [(.slice a3 l4 q5), (.bool s_0.xAccept), (.slice none 0 0), (.int .i64 life_2)]) 0 rfl rfl rfl ty91 rfl rfl rfl rfl ?_)
      refine c_nil ?_
      refine l_then ?_
      refine c_seq ?_
      refine c_seq ?_
      refine c_region ?_
      refine o_ldc st (v := (.agg #[(.int .i64 p_1.xFrom), (.int .i64 p_1.xTo), (.int .i64 p_1.xPort), (.int .i64 p_1.xProto)])) 1 rfl rfl rfl ty40 rfl ?_
      refine stw (o_call (vs := [(.pointer (some ⟨b75, 0, none⟩)), (.agg #[(.int .i64 p_1.xFrom), (.int .i64 p_1.xTo), (.int .i64 p_1.xPort), (.int .i64 p_1.xProto)]), (.int .i64 0)]) (M0 := [cellCh b75 [(.slice a3 l4 q5), (.bool s_0.xAccept), (.slice none 0 0), (.int .i64 life_2)] 91]) Tryd.call63 rfl rfl (by intro w m h; exact (w_impl_tracker_pass (F := allB [cellCh b75 [(.slice a3 l4 q5), (.bool s_0.xAccept), (.slice none 0 0), (.int .i64 life_2)] 91] w) (t_0_set_Chains := s_0.xChains) (t_0_set_Accept := s_0.xAccept) (t_0_flows := ([])) (t_0_life := life_2) (p_1 := p_1) (now_2 := 0) allB_ok m.given (m.rdM 2 rfl (reads_snap hv1)) (Sl.nil _ _ _ _ _) (m.rdM 2 rfl (reads_snap hgl0)) h).mono (fun _ _ k => ret_free (fun r u => (fr_cons free_cell (fr_cons (free_own flelGFlow) fr_nil))) k)) ?_); rintro ⟨r77, r78⟩ v79
      refine o_not st rfl rfl ?_
      refine c_nil ?_
      refine l_then ?_
      refine c_cond rfl ?_ ?_
      · refine c_seq ?_
        refine c_region ?_
        refine o_as st rfl rfl ?_
        refine c_nil ?_
        refine l_then ?_
        refine c_ret ?_
        refine l_ret ?_
        exact l_end1 Tryd.results19 true () (rv_t rfl) (fun _ _ => NewCh.nil _ _ _ _)
      · refine c_skip ?_
        refine l_then ?_
        refine c_seq ?_
        refine c_region ?_
        refine o_ldc st (v := (.agg #[(.int .i64 p_1.xFrom), (.int .i64 p_1.xTo), (.int .i64 p_1.xPort), (.int .i64 p_1.xProto)])) 2 rfl rfl rfl ty40 rfl ?_
        refine stw (o_callP (vs := [(.agg #[(.int .i64 p_1.xFrom), (.int .i64 p_1.xTo), (.int .i64 p_1.xPort), (.int .i64 p_1.xProto)])]) Tryd.call64 rfl rfl (by intro w m h; exact (w_impl_Packet_reverse (F := allB [] w) (p_0 := p_1) allB_ok h).mono (fun _ _ k => ret_free (fun r u => fr_nil) k)) ?_); rintro r81 _
        refine o_mv st rfl rfl ?_
        refine stw (o_call (vs := [(.pointer (some ⟨b75, 0, none⟩)), (.agg #[(.int .i64 r81.xFrom), (.int .i64 r81.xTo), (.int .i64 r81.xPort), (.int .i64 r81.xProto)]), (.int .i64 later_3)]) (M0 := [cellCh b75 [(.slice a3 l4 q5), (.bool s_0.xAccept), v79, (.int .i64 life_2)] 91]) Tryd.call63 rfl rfl (by intro w m h; exact (w_impl_tracker_pass (F := allB [cellCh b75 [(.slice a3 l4 q5), (.bool s_0.xAccept), v79, (.int .i64 life_2)] 91] w) (t_0_set_Chains := s_0.xChains) (t_0_set_Accept := s_0.xAccept) (t_0_flows := r78) (t_0_life := life_2) (p_1 := r81) (now_2 := later_3) allB_ok m.given (m.rdM 3 rfl (reads_snap hv1)) (m.rdM 0 rfl reads_own) (m.rdM 3 rfl (reads_snap hgl0)) h).mono (fun _ _ k => ret_free (fun r u => (fr_cons free_cell (fr_cons (free_own flelGFlow) fr_nil))) k)) ?_); rintro ⟨r82, r83⟩ v84
        refine o_as st rfl rfl ?_
        refine c_nil ?_
        refine l_then ?_
        refine c_ret ?_
        exact l_end1 Tryd.results19 r82 () (rv_t rfl) (fun _ _ => NewCh.nil _ _ _ _)

set_option maxRecDepth 100000 in
set_option maxHeartbeats 8000000 in
theorem w_laws_eqTest {w0 : World} {F : Nat → Prop} {a_0 : GTest} {b_1 : GTest} {κ : Bool → Prop} (hF : ∀ b, F b → b < w0.heap.size ∧ ¬ feet [] b) (h : L_laws_eqTest a_0 b_1 κ) :
    Calls Tryd.prog 127 #[(.agg #[(.int .i64 a_0.xField), (.int .i64 a_0.xLo), (.int .i64 a_0.xHi), (.bool a_0.xNot)]), (.agg #[(.int .i64 b_1.xField), (.int .i64 b_1.xLo), (.int .i64 b_1.xHi), (.bool b_1.xNot)])] w0 (Ret [] F w0 κ (fun (r : Bool) (u : Unit) => (.bool r)) (fun (r : Bool) (u : Unit) => [])) := by
  refine enter0 (args := [(.agg #[(.int .i64 a_0.xField), (.int .i64 a_0.xLo), (.int .i64 a_0.xHi), (.bool a_0.xNot)]), (.agg #[(.int .i64 b_1.xField), (.int .i64 b_1.xLo), (.int .i64 b_1.xHi), (.bool b_1.xNot)])]) [] hF (Given.nil _ _) Tryd.func127 rfl Tryd.ntmps127 rfl h ?_
  clear h hF
  refine c_seq ?_
  refine c_region ?_
  refine stw (o_box rfl rfl [(.int .i64 a_0.xField), (.int .i64 a_0.xLo), (.int .i64 a_0.xHi), (.bool a_0.xNot)] rfl ?_); intro b1
  refine stw (o_box rfl rfl [(.int .i64 b_1.xField), (.int .i64 b_1.xLo), (.int .i64 b_1.xHi), (.bool b_1.xNot)] rfl ?_); intro b3
  refine o_as st rfl rfl ?_
  refine c_nil ?_
  refine l_then ?_
  refine c_seq ?_
  refine c_seq ?_
  refine c_region ?_
  refine o_fad st rfl rfl fld173_0 rfl ?_
  refine o_ldc st (v := (.int .i64 a_0.xField)) 1 rfl rfl rfl ty3 rfl ?_
  refine o_fad st rfl rfl fld173_0 rfl ?_
  refine o_ldc st (v := (.int .i64 b_1.xField)) 0 rfl rfl rfl ty3 rfl ?_
  refine o_neq st und3 rfl rfl rfl ?_
  refine c_nil ?_
  refine l_then ?_
  refine c_cond rfl ?_ ?_
  · refine c_seq ?_
    refine c_region ?_
    refine o_as st rfl rfl ?_
    refine c_nil ?_
    refine l_then ?_
    refine c_ret ?_
    refine l_ret ?_
    exact l_end1 Tryd.results127 false () (rv_t rfl) (fun _ _ => NewCh.nil _ _ _ _)
  · refine c_skip ?_
    refine l_then ?_
    refine c_seq ?_
    refine c_seq ?_
    refine c_region ?_
    refine o_fad st rfl rfl fld173_1 rfl ?_
    refine o_ldc st (v := (.int .i64 a_0.xLo)) 1 rfl rfl rfl ty3 rfl ?_
    refine o_fad st rfl rfl fld173_1 rfl ?_
    refine o_ldc st (v := (.int .i64 b_1.xLo)) 0 rfl rfl rfl ty3 rfl ?_
    refine o_neq st und3 rfl rfl rfl ?_
    refine c_nil ?_
    refine l_then ?_
    refine c_cond rfl ?_ ?_
    · refine c_seq ?_
      refine c_region ?_
      refine o_as st rfl rfl ?_
      refine c_nil ?_
      refine l_then ?_
      refine c_ret ?_
      refine l_ret ?_
      exact l_end1 Tryd.results127 false () (rv_t rfl) (fun _ _ => NewCh.nil _ _ _ _)
    · refine c_skip ?_
      refine l_then ?_
      refine c_seq ?_
      refine c_seq ?_
      refine c_region ?_
      refine o_fad st rfl rfl fld173_2 rfl ?_
      refine o_ldc st (v := (.int .i64 a_0.xHi)) 1 rfl rfl rfl ty3 rfl ?_
      refine o_fad st rfl rfl fld173_2 rfl ?_
      refine o_ldc st (v := (.int .i64 b_1.xHi)) 0 rfl rfl rfl ty3 rfl ?_
      refine o_neq st und3 rfl rfl rfl ?_
      refine c_nil ?_
      refine l_then ?_
      refine c_cond rfl ?_ ?_
      · refine c_seq ?_
        refine c_region ?_
        refine o_as st rfl rfl ?_
        refine c_nil ?_
        refine l_then ?_
        refine c_ret ?_
        refine l_ret ?_
        exact l_end1 Tryd.results127 false () (rv_t rfl) (fun _ _ => NewCh.nil _ _ _ _)
      · refine c_skip ?_
        refine l_then ?_
        refine c_seq ?_
        refine c_seq ?_
        refine c_region ?_
        refine o_fad st rfl rfl fld173_3 rfl ?_
        refine o_ldc st (v := (.bool a_0.xNot)) 1 rfl rfl rfl ty4 rfl ?_
        refine o_fad st rfl rfl fld173_3 rfl ?_
        refine o_ldc st (v := (.bool b_1.xNot)) 0 rfl rfl rfl ty4 rfl ?_
        refine o_neqB st und4 rfl rfl rfl ?_
        refine c_nil ?_
        refine l_then ?_
        refine c_cond rfl ?_ ?_
        · refine c_seq ?_
          refine c_region ?_
          refine o_as st rfl rfl ?_
          refine c_nil ?_
          refine l_then ?_
          refine c_ret ?_
          refine l_ret ?_
          exact l_end1 Tryd.results127 false () (rv_t rfl) (fun _ _ => NewCh.nil _ _ _ _)
        · refine c_skip ?_
          refine l_then ?_
          refine c_seq ?_
          refine c_region ?_
          refine o_as st rfl rfl ?_
          refine c_nil ?_
          refine l_then ?_
          refine c_ret ?_
          exact l_end1 Tryd.results127 true () (rv_t rfl) (fun _ _ => NewCh.nil _ _ _ _)

set_option maxRecDepth 100000 in
set_option maxHeartbeats 8000000 in
theorem w_laws_eqTestS {w0 : World} {F : Nat → Prop} {v1 : Value} {v3 : Value} {a_0 : (List GTest)} {b_1 : (List GTest)} {κ : Bool → Prop} (hF : ∀ b, F b → b < w0.heap.size ∧ ¬ feet [] b) (hv1 : Sl elGTest F w0 v1 a_0) (hv3 : Sl elGTest F w0 v3 b_1) (h : L_laws_eqTestS a_0 b_1 κ) :
    Calls Tryd.prog 122 #[v1, v3] w0 (Ret [] F w0 κ (fun (r : Bool) (u : Unit) => (.bool r)) (fun (r : Bool) (u : Unit) => [])) := by
  refine enterS (args := [v1, v3]) [] hF (Given.nil _ _) Tryd.func122 rfl Tryd.ntmps122 rfl h ?_
  clear h hF
  refine c_seq ?_
  refine c_region ?_
  refine o_as st rfl rfl ?_
  refine c_nil ?_
  refine l_then ?_
  refine c_seq ?_
  refine c_seq ?_
  refine c_region ?_
  refine o_mv st rfl rfl ?_
  refine o_len st el102 0 rfl (reads_snap hv1) rfl rfl ?_
  refine o_mv st rfl rfl ?_
  refine o_len st el102 0 rfl (reads_snap hv3) rfl rfl ?_
  refine o_neq st und3 rfl rfl rfl ?_
  refine c_nil ?_
  refine l_then ?_
  refine c_cond rfl ?_ ?_
  · refine c_seq ?_
    refine c_region ?_
    refine o_as st rfl rfl ?_
    refine c_nil ?_
    refine l_then ?_
    refine c_ret ?_
    refine l_ret ?_
    exact l_end1 Tryd.results122 false () (rv_t rfl) (fun _ _ => NewCh.nil _ _ _ _)
  · refine c_skip ?_
    refine l_then ?_
    refine c_seq ?_
    refine c_seq ?_
    refine c_region ?_
    refine o_as st rfl rfl ?_
    refine c_nil ?_
    refine l_then ?_
    refine c_block ?_
    refine c_loop (σ := Int) (fun (t5 : Int) (a : Act) (w : World) => Has 27 [(0, v1), (1, v3), (5, (.int .i64 t5))] a ∧ Mem (gB F [] w0) (feet []) w0 [snapCh w0 F] w) (fun a w hE hm => ⟨hE.sub ⟨rfl, rfl, rfl, trivial⟩, (hm.pick [0] rfl)⟩) ?_
    rintro nx6 t5 a w ⟨hE, hm⟩ h
    refine nx_of hE hm h ?_
    clear hE hm h
    refine c_seq ?_
    refine c_seq ?_
    refine c_region ?_
    refine o_mv st rfl rfl ?_
    refine o_mv st rfl rfl ?_
    refine o_len st el102 0 rfl (reads_snap hv1) rfl rfl ?_
    refine o_lss st rfl rfl rfl ?_
    refine c_nil ?_
    refine l_then ?_
    refine c_cond rfl ?_ ?_
    · refine c_skip ?_
      refine l_then ?_
      refine c_seq ?_
      refine c_block ?_
      refine c_seq ?_
      refine c_draw mixed 10 rfl [snapCh w0 F] ?_
      refine o_mv (dt 0 (fun _ m => m)) rfl rfl ?_
      refine o_mv (dt 1 (fun _ m => m)) rfl rfl ?_
      refine o_idx (dt 2 (fun _ m => m)) 0 rfl (reads_snap hv1) rfl rfl rfl el102 ?_; intro e7 h8
      refine o_lds (dt 3 (fun _ m => m)) (enc := encGTest) (u := (.agg #[(.int .i64 e7.xField), (.int .i64 e7.xLo), (.int .i64 e7.xHi), (.bool e7.xNot)])) 0 rfl (reads_snap hv1) flelGTest rfl h8 rfl rfl ty173 rfl ?_
      refine o_mv (dt 4 (fun _ m => m)) rfl rfl ?_
      refine o_mv (dt 5 (fun _ m => m)) rfl rfl ?_
      refine o_idx (dt 6 (fun _ m => m)) 0 rfl (reads_snap hv3) rfl rfl rfl el102 ?_; intro e9 h10
      refine o_lds (dt 7 (fun _ m => m)) (enc := encGTest) (u := (.agg #[(.int .i64 e9.xField), (.int .i64 e9.xLo), (.int .i64 e9.xHi), (.bool e9.xNot)])) 0 rfl (reads_snap hv3) flelGTest rfl h10 rfl rfl ty173 rfl ?_
      refine d_one (i := 8) rfl (by kernel_rfl) (o_callP (vs := [(.agg #[(.int .i64 e7.xField), (.int .i64 e7.xLo), (.int .i64 e7.xHi), (.bool e7.xNot)]), (.agg #[(.int .i64 e9.xField), (.int .i64 e9.xLo), (.int .i64 e9.xHi), (.bool e9.xNot)])]) Tryd.call127 rfl rfl (by intro w m h; exact (w_laws_eqTest (F := allB [] w) (a_0 := e7) (b_1 := e9) allB_ok h).mono (fun _ _ k => ret_free (fun r u => fr_nil) k)) ?_); rintro r11 _
      refine d_and (fun _ m => m) ?_
      refine o_not (dt 9 (fun _ m => m)) rfl rfl ?_
      refine d_done (by kernel_rfl) ?_
      refine l_then ?_
      refine c_cond rfl ?_ ?_
      · refine c_seq ?_
        refine c_region ?_
        refine o_as st rfl rfl ?_
        refine c_nil ?_
        refine l_then ?_
        refine c_ret ?_
        refine b_ret ?_
        refine l_ret ?_
        refine l_ret ?_
        refine b_ret ?_
        refine l_ret ?_
        exact l_end1 Tryd.results122 false () (rv_t rfl) (fun _ _ => NewCh.nil _ _ _ _)
      · refine c_skip ?_
        refine b_norm ?_
        refine l_then ?_
        refine c_region ?_
        refine o_mv st rfl rfl ?_
        refine o_add st rfl rfl rfl ?_; intro t12
        refine o_as st rfl rfl ?_
        refine c_nil ?_
        exact l_join t12 (fun a w hE hm => ⟨hE.sub ⟨rfl, rfl, rfl, trivial⟩, (hm.pick [0] rfl)⟩)
    · refine c_exit ?_
      refine l_exit ?_
      refine l_exit ?_
      refine b_exit ?_
      refine l_then ?_
      refine c_seq ?_
      refine c_region ?_
      refine o_as st rfl rfl ?_
      refine c_nil ?_
      refine l_then ?_
      refine c_ret ?_
      exact l_end1 Tryd.results122 true () (rv_t rfl) (fun _ _ => NewCh.nil _ _ _ _)

set_option maxRecDepth 100000 in
set_option maxHeartbeats 8000000 in
theorem w_laws_eqRule {w0 : World} {F : Nat → Prop} {v1 : Value} {v3 : Value} {a_0 : GRule} {b_1 : GRule} {κ : Bool → Prop} (hF : ∀ b, F b → b < w0.heap.size ∧ ¬ feet [] b) (hv1 : Sl elGTest F w0 v1 a_0.xTests) (hv3 : Sl elGTest F w0 v3 b_1.xTests) (h : L_laws_eqRule a_0 b_1 κ) :
    Calls Tryd.prog 111 #[(.agg #[v1, (.int .i64 a_0.xAction), (.int .i64 a_0.xChain)]), (.agg #[v3, (.int .i64 b_1.xAction), (.int .i64 b_1.xChain)])] w0 (Ret [] F w0 κ (fun (r : Bool) (u : Unit) => (.bool r)) (fun (r : Bool) (u : Unit) => [])) := by
  refine enterS (args := [(.agg #[v1, (.int .i64 a_0.xAction), (.int .i64 a_0.xChain)]), (.agg #[v3, (.int .i64 b_1.xAction), (.int .i64 b_1.xChain)])]) [] hF (Given.nil _ _) Tryd.func111 rfl Tryd.ntmps111 rfl h ?_
  clear h hF
  refine c_seq ?_
  refine c_region ?_
  obtain ⟨a5, l6, q7, hs_⟩ := sl_val hv1; subst hs_
  refine stw (o_box rfl rfl [(.slice a5 l6 q7), (.int .i64 a_0.xAction), (.int .i64 a_0.xChain)] rfl ?_); intro b8
  obtain ⟨a10, l11, q12, hs_⟩ := sl_val hv3; subst hs_
  refine stw (o_box rfl rfl [(.slice a10 l11 q12), (.int .i64 b_1.xAction), (.int .i64 b_1.xChain)] rfl ?_); intro b13
  refine o_as st rfl rfl ?_
  refine c_nil ?_
  refine l_then ?_
  refine c_seq ?_
  refine c_seq ?_
  refine c_region ?_
  refine o_fad st rfl rfl fld104_0 rfl ?_
  refine o_ldc st (v := (.slice a5 l6 q7)) 1 rfl rfl rfl ty102 rfl ?_
  refine o_fad st rfl rfl fld104_0 rfl ?_
  refine o_ldc st (v := (.slice a10 l11 q12)) 0 rfl rfl rfl ty102 rfl ?_
  refine stw (o_callP (vs := [(.slice a5 l6 q7), (.slice a10 l11 q12)]) Tryd.call122 rfl rfl (by intro w m h; exact (w_laws_eqTestS (F := allB [] w) (a_0 := a_0.xTests) (b_1 := b_1.xTests) allB_ok (m.rd0 2 rfl (reads_snap hv1)) (m.rd0 2 rfl (reads_snap hv3)) h).mono (fun _ _ k => ret_free (fun r u => fr_nil) k)) ?_); rintro r15 _
  refine o_not st rfl rfl ?_
  refine c_nil ?_
  refine l_then ?_
  refine c_cond rfl ?_ ?_
  · refine c_seq ?_
    refine c_region ?_
    refine o_as st rfl rfl ?_
    refine c_nil ?_
    refine l_then ?_
    refine c_ret ?_
    refine l_ret ?_
    exact l_end1 Tryd.results111 false () (rv_t rfl) (fun _ _ => NewCh.nil _ _ _ _)
  · refine c_skip ?_
    refine l_then ?_
    refine c_seq ?_
    refine c_seq ?_
    refine c_region ?_
    refine o_fad st rfl rfl fld104_1 rfl ?_
    refine o_ldc st (v := (.int .i64 a_0.xAction)) 1 rfl rfl rfl ty3 rfl ?_
    refine o_fad st rfl rfl fld104_1 rfl ?_
    refine o_ldc st (v := (.int .i64 b_1.xAction)) 0 rfl rfl rfl ty3 rfl ?_
    refine o_neq st und3 rfl rfl rfl ?_
    refine c_nil ?_
    refine l_then ?_
    refine c_cond rfl ?_ ?_
    · refine c_seq ?_
      refine c_region ?_
      refine o_as st rfl rfl ?_
      refine c_nil ?_
      refine l_then ?_
      refine c_ret ?_
      refine l_ret ?_
      exact l_end1 Tryd.results111 false () (rv_t rfl) (fun _ _ => NewCh.nil _ _ _ _)
    · refine c_skip ?_
      refine l_then ?_
      refine c_seq ?_
      refine c_seq ?_
      refine c_region ?_
      refine o_fad st rfl rfl fld104_2 rfl ?_
      refine o_ldc st (v := (.int .i64 a_0.xChain)) 1 rfl rfl rfl ty3 rfl ?_
      refine o_fad st rfl rfl fld104_2 rfl ?_
      refine o_ldc st (v := (.int .i64 b_1.xChain)) 0 rfl rfl rfl ty3 rfl ?_
      refine o_neq st und3 rfl rfl rfl ?_
      refine c_nil ?_
      refine l_then ?_
      refine c_cond rfl ?_ ?_
      · refine c_seq ?_
        refine c_region ?_
        refine o_as st rfl rfl ?_
        refine c_nil ?_
        refine l_then ?_
        refine c_ret ?_
        refine l_ret ?_
        exact l_end1 Tryd.results111 false () (rv_t rfl) (fun _ _ => NewCh.nil _ _ _ _)
      · refine c_skip ?_
        refine l_then ?_
        refine c_seq ?_
        refine c_region ?_
        refine o_as st rfl rfl ?_
        refine c_nil ?_
        refine l_then ?_
        refine c_ret ?_
        exact l_end1 Tryd.results111 true () (rv_t rfl) (fun _ _ => NewCh.nil _ _ _ _)

set_option maxRecDepth 100000 in
set_option maxHeartbeats 8000000 in
theorem w_laws_eqRuleS {w0 : World} {F : Nat → Prop} {v1 : Value} {v3 : Value} {a_0 : (List GRule)} {b_1 : (List GRule)} {κ : Bool → Prop} (hF : ∀ b, F b → b < w0.heap.size ∧ ¬ feet [] b) (hv1 : Sl elGRule F w0 v1 a_0) (hv3 : Sl elGRule F w0 v3 b_1) (h : L_laws_eqRuleS a_0 b_1 κ) :
    Calls Tryd.prog 97 #[v1, v3] w0 (Ret [] F w0 κ (fun (r : Bool) (u : Unit) => (.bool r)) (fun (r : Bool) (u : Unit) => [])) := by
  refine enterS (args := [v1, v3]) [] hF (Given.nil _ _) Tryd.func97 rfl Tryd.ntmps97 rfl h ?_
  clear h hF
  refine c_seq ?_
  refine c_region ?_
  refine o_as st rfl rfl ?_
  refine c_nil ?_
  refine l_then ?_
  refine c_seq ?_
  refine c_seq ?_
  refine c_region ?_
  refine o_mv st rfl rfl ?_
  refine o_len st el101 0 rfl (reads_snap hv1) rfl rfl ?_
  refine o_mv st rfl rfl ?_
  refine o_len st el101 0 rfl (reads_snap hv3) rfl rfl ?_
  refine o_neq st und3 rfl rfl rfl ?_
  refine c_nil ?_
  refine l_then ?_
  refine c_cond rfl ?_ ?_
  · refine c_seq ?_
    refine c_region ?_
    refine o_as st rfl rfl ?_
    refine c_nil ?_
    refine l_then ?_
    refine c_ret ?_
    refine l_ret ?_
    exact l_end1 Tryd.results97 false () (rv_t rfl) (fun _ _ => NewCh.nil _ _ _ _)
  · refine c_skip ?_
    refine l_then ?_
    refine c_seq ?_
    refine c_seq ?_
    refine c_region ?_
    refine o_as st rfl rfl ?_
    refine c_nil ?_
    refine l_then ?_
    refine c_block ?_
    refine c_loop (σ := Int) (fun (t5 : Int) (a : Act) (w : World) => Has 27 [(0, v1), (1, v3), (5, (.int .i64 t5))] a ∧ Mem (gB F [] w0) (feet []) w0 [snapCh w0 F] w) (fun a w hE hm => ⟨hE.sub ⟨rfl, rfl, rfl, trivial⟩, (hm.pick [0] rfl)⟩) ?_
    rintro nx6 t5 a w ⟨hE, hm⟩ h
    refine nx_of hE hm h ?_
    clear hE hm h
    refine c_seq ?_
    refine c_seq ?_
    refine c_region ?_
    refine o_mv st rfl rfl ?_
    refine o_mv st rfl rfl ?_
    refine o_len st el101 0 rfl (reads_snap hv1) rfl rfl ?_
    refine o_lss st rfl rfl rfl ?_
    refine c_nil ?_
    refine l_then ?_
    refine c_cond rfl ?_ ?_
    · refine c_skip ?_
      refine l_then ?_
      refine c_seq ?_
      refine c_block ?_
      refine c_seq ?_
      refine c_draw mixed 10 rfl [snapCh w0 F] ?_
      refine o_mv (dt 0 (fun _ m => m)) rfl rfl ?_
      refine o_mv (dt 1 (fun _ m => m)) rfl rfl ?_
      refine o_idx (dt 2 (fun _ m => m)) 0 rfl (reads_snap hv1) rfl rfl rfl el101 ?_; intro e7 h8
      obtain ⟨_, ⟨v10, rfl, sl11⟩, rw9⟩ := sl_open hv1 h8
      refine o_ldR (dt 3 (fun _ m => m)) (u := (.agg #[v10, (.int .i64 e7.xAction), (.int .i64 e7.xChain)])) 0 rfl rw9 rfl rfl ty104 rfl ?_
      refine o_mv (dt 4 (fun _ m => m)) rfl rfl ?_
      refine o_mv (dt 5 (fun _ m => m)) rfl rfl ?_
      refine o_idx (dt 6 (fun _ m => m)) 0 rfl (reads_snap hv3) rfl rfl rfl el101 ?_; intro e13 h14
      obtain ⟨_, ⟨v16, rfl, sl17⟩, rw15⟩ := sl_open hv3 h14
      refine o_ldR (dt 7 (fun _ m => m)) (u := (.agg #[v16, (.int .i64 e13.xAction), (.int .i64 e13.xChain)])) 0 rfl rw15 rfl rfl ty104 rfl ?_
      refine d_one (i := 8) rfl (by kernel_rfl) (o_callP (vs := [(.agg #[v10, (.int .i64 e7.xAction), (.int .i64 e7.xChain)]), (.agg #[v16, (.int .i64 e13.xAction), (.int .i64 e13.xChain)])]) Tryd.call111 rfl rfl (by intro w m h; exact (w_laws_eqRule (F := allB [] w) (a_0 := e7) (b_1 := e13) allB_ok (m.rd0 0 rfl (reads_snap sl11)) (m.rd0 0 rfl (reads_snap sl17)) h).mono (fun _ _ k => ret_free (fun r u => fr_nil) k)) ?_); rintro r19 _
      refine d_and (fun _ m => m) ?_
      refine o_not (dt 9 (fun _ m => m)) rfl rfl ?_
      refine d_done (by kernel_rfl) ?_
      refine l_then ?_
      refine c_cond rfl ?_ ?_
      · refine c_seq ?_
        refine c_region ?_
        refine o_as st rfl rfl ?_
        refine c_nil ?_
        refine l_then ?_
        refine c_ret ?_
        refine b_ret ?_
        refine l_ret ?_
        refine l_ret ?_
        refine b_ret ?_
        refine l_ret ?_
        exact l_end1 Tryd.results97 false () (rv_t rfl) (fun _ _ => NewCh.nil _ _ _ _)
      · refine c_skip ?_
        refine b_norm ?_
        refine l_then ?_
        refine c_region ?_
        refine o_mv st rfl rfl ?_
        refine o_add st rfl rfl rfl ?_; intro t20
        refine o_as st rfl rfl ?_
        refine c_nil ?_
        exact l_join t20 (fun a w hE hm => ⟨hE.sub ⟨rfl, rfl, rfl, trivial⟩, (hm.pick [0] rfl)⟩)
    · refine c_exit ?_
      refine l_exit ?_
      refine l_exit ?_
      refine b_exit ?_
      refine l_then ?_
      refine c_seq ?_
      refine c_region ?_
      refine o_as st rfl rfl ?_
      refine c_nil ?_
      refine l_then ?_
      refine c_ret ?_
      exact l_end1 Tryd.results97 true () (rv_t rfl) (fun _ _ => NewCh.nil _ _ _ _)

set_option maxRecDepth 100000 in
set_option maxHeartbeats 8000000 in
theorem w_laws_eqRuleSS {w0 : World} {F : Nat → Prop} {v1 : Value} {v3 : Value} {a_0 : (List (List GRule))} {b_1 : (List (List GRule))} {κ : Bool → Prop} (hF : ∀ b, F b → b < w0.heap.size ∧ ¬ feet [] b) (hv1 : Sl (elSl elGRule) F w0 v1 a_0) (hv3 : Sl (elSl elGRule) F w0 v3 b_1) (h : L_laws_eqRuleSS a_0 b_1 κ) :
    Calls Tryd.prog 65 #[v1, v3] w0 (Ret [] F w0 κ (fun (r : Bool) (u : Unit) => (.bool r)) (fun (r : Bool) (u : Unit) => [])) := by
  refine enterS (args := [v1, v3]) [] hF (Given.nil _ _) Tryd.func65 rfl Tryd.ntmps65 rfl h ?_
  clear h hF
  refine c_seq ?_
  refine c_region ?_
  refine o_as st rfl rfl ?_
  refine c_nil ?_
  refine l_then ?_
  refine c_seq ?_
  refine c_seq ?_
  refine c_region ?_
  refine o_mv st rfl rfl ?_
  refine o_len st el23 0 rfl (reads_snap hv1) rfl rfl ?_
  refine o_mv st rfl rfl ?_
  refine o_len st el23 0 rfl (reads_snap hv3) rfl rfl ?_
  refine o_neq st und3 rfl rfl rfl ?_
  refine c_nil ?_
  refine l_then ?_
  refine c_cond rfl ?_ ?_
  · refine c_seq ?_
    refine c_region ?_
    refine o_as st rfl rfl ?_
    refine c_nil ?_
    refine l_then ?_
    refine c_ret ?_
    refine l_ret ?_
    exact l_end1 Tryd.results65 false () (rv_t rfl) (fun _ _ => NewCh.nil _ _ _ _)
  · refine c_skip ?_
    refine l_then ?_
    refine c_seq ?_
    refine c_seq ?_
    refine c_region ?_
    refine o_as st rfl rfl ?_
    refine c_nil ?_
    refine l_then ?_
    refine c_block ?_
    refine c_loop (σ := Int) (fun (t5 : Int) (a : Act) (w : World) => Has 27 [(0, v1), (1, v3), (5, (.int .i64 t5))] a ∧ Mem (gB F [] w0) (feet []) w0 [snapCh w0 F] w) (fun a w hE hm => ⟨hE.sub ⟨rfl, rfl, rfl, trivial⟩, (hm.pick [0] rfl)⟩) ?_
    rintro nx6 t5 a w ⟨hE, hm⟩ h
    refine nx_of hE hm h ?_
    clear hE hm h
    refine c_seq ?_
    refine c_seq ?_
    refine c_region ?_
    refine o_mv st rfl rfl ?_
    refine o_mv st rfl rfl ?_
    refine o_len st el23 0 rfl (reads_snap hv1) rfl rfl ?_
    refine o_lss st rfl rfl rfl ?_
    refine c_nil ?_
    refine l_then ?_
    refine c_cond rfl ?_ ?_
    · refine c_skip ?_
      refine l_then ?_
      refine c_seq ?_
      refine c_block ?_
      refine c_seq ?_
      refine c_draw mixed 10 rfl [snapCh w0 F] ?_
      refine o_mv (dt 0 (fun _ m => m)) rfl rfl ?_
      refine o_mv (dt 1 (fun _ m => m)) rfl rfl ?_
      refine o_idx (dt 2 (fun _ m => m)) 0 rfl (reads_snap hv1) rfl rfl rfl el23 ?_; intro e7 h8
      obtain ⟨_, ⟨v10, rfl, sl11⟩, rw9⟩ := sl_open hv1 h8
      refine o_ldR (dt 3 (fun _ m => m)) (u := v10) 0 rfl rw9 rfl rfl ty101 rfl ?_
      refine o_mv (dt 4 (fun _ m => m)) rfl rfl ?_
      refine o_mv (dt 5 (fun _ m => m)) rfl rfl ?_
      refine o_idx (dt 6 (fun _ m => m)) 0 rfl (reads_snap hv3) rfl rfl rfl el23 ?_; intro e13 h14
      obtain ⟨_, ⟨v16, rfl, sl17⟩, rw15⟩ := sl_open hv3 h14
      refine o_ldR (dt 7 (fun _ m => m)) (u := v16) 0 rfl rw15 rfl rfl ty101 rfl ?_
      refine d_one (i := 8) rfl (by kernel_rfl) (o_callP (vs := [v10, v16]) Tryd.call97 rfl rfl (by intro w m h; exact (w_laws_eqRuleS (F := allB [] w) (a_0 := e7) (b_1 := e13) allB_ok (m.rd0 0 rfl (reads_snap sl11)) (m.rd0 0 rfl (reads_snap sl17)) h).mono (fun _ _ k => ret_free (fun r u => fr_nil) k)) ?_); rintro r19 _
      refine d_and (fun _ m => m) ?_
      refine o_not (dt 9 (fun _ m => m)) rfl rfl ?_
      refine d_done (by kernel_rfl) ?_
      refine l_then ?_
      refine c_cond rfl ?_ ?_
      · refine c_seq ?_
        refine c_region ?_
        refine o_as st rfl rfl ?_
        refine c_nil ?_
        refine l_then ?_
        refine c_ret ?_
        refine b_ret ?_
        refine l_ret ?_
        refine l_ret ?_
        refine b_ret ?_
        refine l_ret ?_
        exact l_end1 Tryd.results65 false () (rv_t rfl) (fun _ _ => NewCh.nil _ _ _ _)
      · refine c_skip ?_
        refine b_norm ?_
        refine l_then ?_
        refine c_region ?_
        refine o_mv st rfl rfl ?_
        refine o_add st rfl rfl rfl ?_; intro t20
        refine o_as st rfl rfl ?_
        refine c_nil ?_
        exact l_join t20 (fun a w hE hm => ⟨hE.sub ⟨rfl, rfl, rfl, trivial⟩, (hm.pick [0] rfl)⟩)
    · refine c_exit ?_
      refine l_exit ?_
      refine l_exit ?_
      refine b_exit ?_
      refine l_then ?_
      refine c_seq ?_
      refine c_region ?_
      refine o_as st rfl rfl ?_
      refine c_nil ?_
      refine l_then ?_
      refine c_ret ?_
      exact l_end1 Tryd.results65 true () (rv_t rfl) (fun _ _ => NewCh.nil _ _ _ _)

set_option maxRecDepth 100000 in
set_option maxHeartbeats 8000000 in
theorem w_laws_eqRuleset {w0 : World} {F : Nat → Prop} {v1 : Value} {v3 : Value} {a_0 : GRuleset} {b_1 : GRuleset} {κ : Bool → Prop} (hF : ∀ b, F b → b < w0.heap.size ∧ ¬ feet [] b) (hv1 : Sl (elSl elGRule) F w0 v1 a_0.xChains) (hv3 : Sl (elSl elGRule) F w0 v3 b_1.xChains) (h : L_laws_eqRuleset a_0 b_1 κ) :
    Calls Tryd.prog 20 #[(.agg #[v1, (.bool a_0.xAccept)]), (.agg #[v3, (.bool b_1.xAccept)])] w0 (Ret [] F w0 κ (fun (r : Bool) (u : Unit) => (.bool r)) (fun (r : Bool) (u : Unit) => [])) := by
  refine enterS (args := [(.agg #[v1, (.bool a_0.xAccept)]), (.agg #[v3, (.bool b_1.xAccept)])]) [] hF (Given.nil _ _) Tryd.func20 rfl Tryd.ntmps20 rfl h ?_
  clear h hF
  refine c_seq ?_
  refine c_region ?_
  obtain ⟨a5, l6, q7, hs_⟩ := sl_val hv1; subst hs_
  refine stw (o_box rfl rfl [(.slice a5 l6 q7), (.bool a_0.xAccept)] rfl ?_); intro b8
  obtain ⟨a10, l11, q12, hs_⟩ := sl_val hv3; subst hs_
  refine stw (o_box rfl rfl [(.slice a10 l11 q12), (.bool b_1.xAccept)] rfl ?_); intro b13
  refine o_as st rfl rfl ?_
  refine c_nil ?_
  refine l_then ?_
  refine c_seq ?_
  refine c_seq ?_
  refine c_region ?_
  refine o_fad st rfl rfl fld25_0 rfl ?_
  refine o_ldc st (v := (.slice a5 l6 q7)) 1 rfl rfl rfl ty23 rfl ?_
  refine o_fad st rfl rfl fld25_0 rfl ?_
  refine o_ldc st (v := (.slice a10 l11 q12)) 0 rfl rfl rfl ty23 rfl ?_
  refine stw (o_callP (vs := [(.slice a5 l6 q7), (.slice a10 l11 q12)]) Tryd.call65 rfl rfl (by intro w m h; exact (w_laws_eqRuleSS (F := allB [] w) (a_0 := a_0.xChains) (b_1 := b_1.xChains) allB_ok (m.rd0 2 rfl (reads_snap hv1)) (m.rd0 2 rfl (reads_snap hv3)) h).mono (fun _ _ k => ret_free (fun r u => fr_nil) k)) ?_); rintro r15 _
  refine o_not st rfl rfl ?_
  refine c_nil ?_
  refine l_then ?_
  refine c_cond rfl ?_ ?_
  · refine c_seq ?_
    refine c_region ?_
    refine o_as st rfl rfl ?_
    refine c_nil ?_
    refine l_then ?_
    refine c_ret ?_
    refine l_ret ?_
    exact l_end1 Tryd.results20 false () (rv_t rfl) (fun _ _ => NewCh.nil _ _ _ _)
  · refine c_skip ?_
    refine l_then ?_
    refine c_seq ?_
    refine c_seq ?_
    refine c_region ?_
    refine o_fad st rfl rfl fld25_1 rfl ?_
    refine o_ldc st (v := (.bool a_0.xAccept)) 1 rfl rfl rfl ty4 rfl ?_
    refine o_fad st rfl rfl fld25_1 rfl ?_
    refine o_ldc st (v := (.bool b_1.xAccept)) 0 rfl rfl rfl ty4 rfl ?_
    refine o_neqB st und4 rfl rfl rfl ?_
    refine c_nil ?_
    refine l_then ?_
    refine c_cond rfl ?_ ?_
    · refine c_seq ?_
      refine c_region ?_
      refine o_as st rfl rfl ?_
      refine c_nil ?_
      refine l_then ?_
      refine c_ret ?_
      refine l_ret ?_
      exact l_end1 Tryd.results20 false () (rv_t rfl) (fun _ _ => NewCh.nil _ _ _ _)
    · refine c_skip ?_
      refine l_then ?_
      refine c_seq ?_
      refine c_region ?_
      refine o_as st rfl rfl ?_
      refine c_nil ?_
      refine l_then ?_
      refine c_ret ?_
      exact l_end1 Tryd.results20 true () (rv_t rfl) (fun _ _ => NewCh.nil _ _ _ _)

set_option maxRecDepth 100000 in
set_option maxHeartbeats 8000000 in
theorem w_laws_FnExactAnswersPass {w0 : World} {F : Nat → Prop} {v1 : Value} {aS_0 : GRuleset} {aP_1 : GPacket} {aLife_2 : Int} {aLater_3 : Int} {κ : Bool → Prop} (hF : ∀ b, F b → b < w0.heap.size ∧ ¬ feet [] b) (hv1 : Sl (elSl elGRule) F w0 v1 aS_0.xChains) (hgl0 : Sl elGFieldShape F w0 (.slice (some ⟨0, 0, none⟩) 4 4) gl_impl_fieldShapes) (h : L_laws_FnExactAnswersPass aS_0 aP_1 aLife_2 aLater_3 κ) :
    Calls Tryd.prog 4 #[(.agg #[v1, (.bool aS_0.xAccept)]), (.agg #[(.int .i64 aP_1.xFrom), (.int .i64 aP_1.xTo), (.int .i64 aP_1.xPort), (.int .i64 aP_1.xProto)]), (.int .i64 aLife_2), (.int .i64 aLater_3)] w0 (Ret [] F w0 κ (fun (r : Bool) (u : Unit) => (.bool r)) (fun (r : Bool) (u : Unit) => [])) := by
  refine enterS (args := [(.agg #[v1, (.bool aS_0.xAccept)]), (.agg #[(.int .i64 aP_1.xFrom), (.int .i64 aP_1.xTo), (.int .i64 aP_1.xPort), (.int .i64 aP_1.xProto)]), (.int .i64 aLife_2), (.int .i64 aLater_3)]) [] hF (Given.nil _ _) Tryd.func4 rfl Tryd.ntmps4 rfl h ?_
  clear h hF
  refine c_seq ?_
  refine c_region ?_
  obtain ⟨a3, l4, q5, hs_⟩ := sl_val hv1; subst hs_
  refine stw (o_box rfl rfl [(.slice a3 l4 q5), (.bool aS_0.xAccept)] rfl ?_); intro b6
  refine stw (o_box rfl rfl [(.int .i64 aP_1.xFrom), (.int .i64 aP_1.xTo), (.int .i64 aP_1.xPort), (.int .i64 aP_1.xProto)] rfl ?_); intro b8
  refine o_as st rfl rfl ?_
  refine c_nil ?_
  refine l_then ?_
  refine c_seq ?_
  refine c_region ?_
  refine o_as st rfl rfl ?_
  refine c_nil ?_
  refine l_then ?_
  refine c_seq ?_
  refine c_region ?_
  refine o_ldc st (v := (.agg #[(.slice a3 l4 q5), (.bool aS_0.xAccept)])) 1 rfl rfl rfl ty34 rfl ?_
  refine o_mv st rfl rfl ?_
  refine stw (o_callP (vs := [(.agg #[(.slice a3 l4 q5), (.bool aS_0.xAccept)]), (.int .i64 1048576)]) Tryd.call15 rfl rfl (by intro w m h; exact (w_laws_szRuleset (F := allB [] w) (a_0 := aS_0) (left_1 := 1048576) allB_ok (m.rd0 2 rfl (reads_snap hv1)) h).mono (fun _ _ k => ret_free (fun r u => fr_nil) k)) ?_); rintro r10 _
  refine o_as st rfl rfl ?_
  refine c_nil ?_
  refine l_then ?_
  refine c_seq ?_
  refine c_seq ?_
  refine c_region ?_
  refine o_mv st rfl rfl ?_
  refine o_lss st rfl rfl rfl ?_
  refine c_nil ?_
  refine l_then ?_
  refine c_cond rfl ?_ ?_
  · refine c_seq ?_
    refine c_region ?_
    refine o_as st rfl rfl ?_
    refine c_nil ?_
    refine l_then ?_
    refine c_ret ?_
    refine l_ret ?_
    exact l_end1 Tryd.results4 true () (rv_t rfl) (fun _ _ => NewCh.nil _ _ _ _)
  · refine c_skip ?_
    refine l_then ?_
    refine c_seq ?_
    refine c_draw mixed 8 rfl [cellCh b8 [(.int .i64 aP_1.xFrom), (.int .i64 aP_1.xTo), (.int .i64 aP_1.xPort), (.int .i64 aP_1.xProto)] 36, cellCh b6 [(.slice a3 l4 q5), (.bool aS_0.xAccept)] 34, snapCh w0 F] ?_
    refine o_ldc (dt 0 (fun _ m => m)) (v := (.agg #[(.slice a3 l4 q5), (.bool aS_0.xAccept)])) 1 rfl rfl rfl ty34 rfl ?_
    refine o_ldc (dt 2 (fun _ m => m)) (v := (.agg #[(.int .i64 aP_1.xFrom), (.int .i64 aP_1.xTo), (.int .i64 aP_1.xPort), (.int .i64 aP_1.xProto)])) 0 rfl rfl rfl ty36 rfl ?_
    refine o_mv (dt 4 (fun _ m => m)) rfl rfl ?_
    refine o_mv (dt 5 (fun _ m => m)) rfl rfl ?_
    refine d_one (i := 1) rfl (by kernel_rfl) (o_callP (vs := [(.agg #[(.slice a3 l4 q5), (.bool aS_0.xAccept)])]) Tryd.call17 rfl rfl (by intro w m h; exact (w_laws_toRuleset (F := allB [] w) (a_0 := aS_0) allB_ok (m.rd0 2 rfl (reads_snap hv1)) h).mono (fun _ _ k => ret_free (fun r u => (fr_cons free_dp fr_nil)) k)) ?_); rintro r11 ⟨v12, bb13⟩
    refine d_and (fun w m => m.pick [1, 2, 3] rfl) ?_
    refine d_one (i := 3) rfl (by kernel_rfl) (o_callP (vs := [(.agg #[(.int .i64 aP_1.xFrom), (.int .i64 aP_1.xTo), (.int .i64 aP_1.xPort), (.int .i64 aP_1.xProto)])]) Tryd.call18 rfl rfl (by intro w m h; exact (w_laws_toPacket (F := allB [] w) (a_0 := aP_1) allB_ok h).mono (fun _ _ k => ret_free (fun r u => fr_nil) k)) ?_); rintro r15 _
    refine d_and (fun w m => m.pick [1, 2, 3] rfl) ?_
    refine d_one (i := 6) rfl (by kernel_rfl) (o_callP (vs := [(.agg #[v12, (.bool r11.xAccept)]), (.agg #[(.int .i64 r15.xFrom), (.int .i64 r15.xTo), (.int .i64 r15.xPort), (.int .i64 r15.xProto)]), (.int .i64 aLife_2), (.int .i64 aLater_3)]) Tryd.call16 rfl rfl (by intro w m h; exact (w_spec_AnswersPass (F := allB [] w) (s_0 := r11) (p_1 := r15) (life_2 := aLife_2) (later_3 := aLater_3) allB_ok (m.rd0 0 rfl reads_dp) h).mono (fun _ _ k => ret_free (fun r u => fr_nil) k)) ?_); rintro r16 _
    refine d_and (fun w m => m.pick [1, 2, 3] rfl) ?_
    refine o_as (dt 7 (fun w m => m.pick [1, 2, 3] rfl)) rfl rfl ?_
    refine d_done (by kernel_rfl) ?_
    refine l_then ?_
    refine c_seq ?_
    refine c_region ?_
    refine o_ldc st (v := (.agg #[(.slice a3 l4 q5), (.bool aS_0.xAccept)])) 2 rfl rfl rfl ty34 rfl ?_
    refine stw (o_callP (vs := [(.agg #[(.slice a3 l4 q5), (.bool aS_0.xAccept)])]) Tryd.call17 rfl rfl (by intro w m h; exact (w_laws_toRuleset (F := allB [] w) (a_0 := aS_0) allB_ok (m.rd0 3 rfl (reads_snap hv1)) h).mono (fun _ _ k => ret_free (fun r u => (fr_cons free_dp fr_nil)) k)) ?_); rintro r17 ⟨v18, bb19⟩
    refine stw (o_alloc rfl [(.slice none 0 0), (.bool false)] zero25 ?_); intro b21
    refine nx_dp 1 rfl ?_; rintro a23 l24 q25 rfl
    refine stw (o_stc (cs' := [(.slice a23 l24 q25), (.bool r17.xAccept)]) 0 rfl rfl rfl ty25 rfl rfl rfl rfl ?_)
    refine c_nil ?_
    refine l_then ?_
    refine c_seq ?_
    refine c_draw mixed 7 rfl [cellCh b21 [(.slice a23 l24 q25), (.bool r17.xAccept)] 25, dpCh (dSl dGRule 104) 101 bb19 (.slice a23 l24 q25) r17.xChains, dpCh (dSl dGRule 104) 101 bb13 v12 r11.xChains, cellCh b8 [(.int .i64 aP_1.xFrom), (.int .i64 aP_1.xTo), (.int .i64 aP_1.xPort), (.int .i64 aP_1.xProto)] 36, cellCh b6 [(.slice a3 l4 q5), (.bool aS_0.xAccept)] 34, snapCh w0 F] ?_
    refine o_ldc (dt 0 (fun _ m => m)) (v := (.agg #[(.slice a23 l24 q25), (.bool r17.xAccept)])) 0 rfl rfl rfl ty25 rfl ?_
    refine o_ldc (dt 1 (fun _ m => m)) (v := (.agg #[(.int .i64 aP_1.xFrom), (.int .i64 aP_1.xTo), (.int .i64 aP_1.xPort), (.int .i64 aP_1.xProto)])) 3 rfl rfl rfl ty36 rfl ?_
    refine o_mv (dt 3 (fun _ m => m)) rfl rfl ?_
    refine o_mv (dt 4 (fun _ m => m)) rfl rfl ?_
    refine d_one (i := 2) rfl (by kernel_rfl) (o_callP (vs := [(.agg #[(.int .i64 aP_1.xFrom), (.int .i64 aP_1.xTo), (.int .i64 aP_1.xPort), (.int .i64 aP_1.xProto)])]) Tryd.call18 rfl rfl (by intro w m h; exact (w_laws_toPacket (F := allB [] w) (a_0 := aP_1) allB_ok h).mono (fun _ _ k => ret_free (fun r u => fr_nil) k)) ?_); rintro r26 _
    refine d_and (fun _ m => m) ?_
    refine d_one (i := 5) rfl (by kernel_rfl) (o_callP (vs := [(.agg #[(.slice a23 l24 q25), (.bool r17.xAccept)]), (.agg #[(.int .i64 r26.xFrom), (.int .i64 r26.xTo), (.int .i64 r26.xPort), (.int .i64 r26.xProto)]), (.int .i64 aLife_2), (.int .i64 aLater_3)]) Tryd.call19 rfl rfl (by intro w m h; exact (w_impl_AnswersPass (F := allB [] w) (s_0 := r17) (p_1 := r26) (life_2 := aLife_2) (later_3 := aLater_3) allB_ok (m.rd0 1 rfl reads_dp) (m.rd0 5 rfl (reads_snap hgl0)) h).mono (fun _ _ k => ret_free (fun r u => fr_nil) k)) ?_); rintro r27 _
    refine d_and (fun _ m => m) ?_
    refine o_as (dt 6 (fun _ m => m)) rfl rfl ?_
    refine d_done (by kernel_rfl) ?_
    refine l_then ?_
    refine c_seq ?_
    refine c_seq ?_
    refine c_region ?_
    refine o_mv st rfl rfl ?_
    refine o_mv st rfl rfl ?_
    refine o_neqB st und4 rfl rfl rfl ?_
    refine c_nil ?_
    refine l_then ?_
    refine c_cond rfl ?_ ?_
    · refine c_seq ?_
      refine c_region ?_
      refine o_as st rfl rfl ?_
      refine c_nil ?_
      refine l_then ?_
      refine c_ret ?_
      refine l_ret ?_
      exact l_end1 Tryd.results4 false () (rv_t rfl) (fun _ _ => NewCh.nil _ _ _ _)
    · refine c_skip ?_
      refine l_then ?_
      refine c_seq ?_
      refine c_seq ?_
      refine c_draw mixed 5 rfl [cellCh b21 [(.slice a23 l24 q25), (.bool r17.xAccept)] 25, dpCh (dSl dGRule 104) 101 bb19 (.slice a23 l24 q25) r17.xChains, dpCh (dSl dGRule 104) 101 bb13 v12 r11.xChains, cellCh b8 [(.int .i64 aP_1.xFrom), (.int .i64 aP_1.xTo), (.int .i64 aP_1.xPort), (.int .i64 aP_1.xProto)] 36, cellCh b6 [(.slice a3 l4 q5), (.bool aS_0.xAccept)] 34, snapCh w0 F] ?_
      refine o_ldc (dt 0 (fun _ m => m)) (v := (.agg #[(.slice a23 l24 q25), (.bool r17.xAccept)])) 0 rfl rfl rfl ty25 rfl ?_
      refine o_ldc (dt 1 (fun _ m => m)) (v := (.agg #[(.slice a3 l4 q5), (.bool aS_0.xAccept)])) 4 rfl rfl rfl ty34 rfl ?_
      refine d_one (i := 2) rfl (by kernel_rfl) (o_callP (vs := [(.agg #[(.slice a3 l4 q5), (.bool aS_0.xAccept)])]) Tryd.call17 rfl rfl (by intro w m h; exact (w_laws_toRuleset (F := allB [] w) (a_0 := aS_0) allB_ok (m.rd0 5 rfl (reads_snap hv1)) h).mono (fun _ _ k => ret_free (fun r u => (fr_cons free_dp fr_nil)) k)) ?_); rintro r28 ⟨v29, bb30⟩
      refine d_and (fun w m => m.pick [1, 2, 3, 4, 5, 6] rfl) ?_
      refine d_one (i := 3) rfl (by kernel_rfl) (o_callP (vs := [(.agg #[(.slice a23 l24 q25), (.bool r17.xAccept)]), (.agg #[v29, (.bool r28.xAccept)])]) Tryd.call20 rfl rfl (by intro w m h; exact (w_laws_eqRuleset (F := allB [] w) (a_0 := r17) (b_1 := r28) allB_ok (m.rd0 2 rfl reads_dp) (m.rd0 0 rfl reads_dp) h).mono (fun _ _ k => ret_free (fun r u => fr_nil) k)) ?_); rintro r32 _
      refine d_and (fun w m => m.pick [1, 2, 3, 4, 5, 6] rfl) ?_
      refine o_not (dt 4 (fun w m => m.pick [1, 2, 3, 4, 5, 6] rfl)) rfl rfl ?_
      refine d_done (by kernel_rfl) ?_
      refine l_then ?_
      refine c_cond rfl ?_ ?_
      · refine c_seq ?_
        refine c_region ?_
        refine o_as st rfl rfl ?_
        refine c_nil ?_
        refine l_then ?_
        refine c_ret ?_
        refine l_ret ?_
        exact l_end1 Tryd.results4 false () (rv_t rfl) (fun _ _ => NewCh.nil _ _ _ _)
      · refine c_skip ?_
        refine l_then ?_
        refine c_seq ?_
        refine c_region ?_
        refine o_as st rfl rfl ?_
        refine c_nil ?_
        refine l_then ?_
        refine c_ret ?_
        exact l_end1 Tryd.results4 true () (rv_t rfl) (fun _ _ => NewCh.nil _ _ _ _)

end

end Go.Proofs.YtigdghiknfehhaaDoor
