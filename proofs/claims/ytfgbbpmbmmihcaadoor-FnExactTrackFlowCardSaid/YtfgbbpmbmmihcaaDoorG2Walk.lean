/- The walks of the functions of this seat (printed). -/
import Derived.Test.YtfgbbpmbmmihcaaDoorRows
import Derived.Test.YtfgbbpmbmmihcaaDoorG2Pure
set_option linter.unusedSimpArgs false
set_option linter.unusedVariables false
namespace Go.Proofs.YtfgbbpmbmmihcaaDoor
open Go.RowKit
theorem arr124 : arrB Tryd.prog 124 = some (4, 3, false, 1) := by kernel_rfl
theorem arr152 : arrB Tryd.prog 152 = some (4, 151, true, 2) := by kernel_rfl
theorem bld124 : bldA Tryd.prog 124 = some (1, [(.int .i64 0), (.int .i64 0), (.int .i64 0), (.int .i64 0)]) := by kernel_rfl
theorem bld127 : bldB Tryd.prog 127 = some (#[(0, 1), (1, 1)], [(.slice none 0 0), (.int .i64 0)]) := by kernel_rfl
theorem bld30 : bldB Tryd.prog 30 = some (#[(0, 1), (1, 1), (2, 1), (3, 1)], [(.int .i64 0), (.int .i64 0), (.int .i64 0), (.int .i64 0)]) := by kernel_rfl
theorem bld83 : bldB Tryd.prog 83 = some (#[(0, 4), (4, 1)], [(.int .i64 0), (.int .i64 0), (.int .i64 0), (.int .i64 0), (.int .i64 0)]) := by kernel_rfl
theorem bld96 : bldB Tryd.prog 96 = some (#[(0, 1), (1, 1)], [(.int .i64 0), (.int .i64 0)]) := by kernel_rfl
theorem el115 : elB Tryd.prog 115 = some (3, 1, 8) := by kernel_rfl
theorem el22 : elB Tryd.prog 22 = some (86, 5, 40) := by kernel_rfl
theorem el26 : elB Tryd.prog 26 = some (83, 5, 40) := by kernel_rfl
theorem el35 : elB Tryd.prog 35 = some (5, 1, 1) := by kernel_rfl
theorem el97 : elB Tryd.prog 97 = some (96, 2, 16) := by kernel_rfl
theorem eqls30 (x y : Operand) (a0 : Int) (a1 : Int) (a2 : Int) (a3 : Int) (b0 : Int) (b1 : Int) (b2 : Int) (b3 : Int) (w : World) : (do eqGuard .eql 30 x y (.agg #[(.int .i64 a0), (.int .i64 a1), (.int .i64 a2), (.int .i64 a3)]) (.agg #[(.int .i64 b0), (.int .i64 b1), (.int .i64 b2), (.int .i64 b3)]); binOp .eql 30 (.agg #[(.int .i64 a0), (.int .i64 a1), (.int .i64 a2), (.int .i64 a3)]) (.agg #[(.int .i64 b0), (.int .i64 b1), (.int .i64 b2), (.int .i64 b3)]) : Sem Value).run Tryd.prog w = .ok (.bool (decide ((GPacket.mk a0 a1 a2 a3) = (GPacket.mk b0 b1 b2 b3)))) w := by
  simp [go_sem, binOp, Op.equal, Op.maxDepth]
  repeat' split
  all_goals simp_all
theorem neqs83 (x y : Operand) (a0 : Int) (a1 : Int) (a2 : Int) (a3 : Int) (a4 : Int) (b0 : Int) (b1 : Int) (b2 : Int) (b3 : Int) (b4 : Int) (w : World) : (do eqGuard .neq 83 x y (.agg #[(.int .i64 a0), (.int .i64 a1), (.int .i64 a2), (.int .i64 a3), (.int .i64 a4)]) (.agg #[(.int .i64 b0), (.int .i64 b1), (.int .i64 b2), (.int .i64 b3), (.int .i64 b4)]); binOp .neq 83 (.agg #[(.int .i64 a0), (.int .i64 a1), (.int .i64 a2), (.int .i64 a3), (.int .i64 a4)]) (.agg #[(.int .i64 b0), (.int .i64 b1), (.int .i64 b2), (.int .i64 b3), (.int .i64 b4)]) : Sem Value).run Tryd.prog w = .ok (.bool (!decide ((GFlow.mk (GPacket.mk a0 a1 a2 a3) a4) = (GFlow.mk (GPacket.mk b0 b1 b2 b3) b4)))) w := by
  simp [go_sem, binOp, Op.equal, Op.maxDepth]
  repeat' split
  all_goals simp_all
theorem fld127_0 : fldB Tryd.prog 127 0 = some (0, false, 1) := by kernel_rfl
theorem fld127_1 : fldB Tryd.prog 127 1 = some (1, false, 1) := by kernel_rfl
theorem fld151_1 : fldB Tryd.prog 151 1 = some (1, false, 1) := by kernel_rfl
theorem fld24_0 : fldB Tryd.prog 24 0 = some (0, false, 1) := by kernel_rfl
theorem fld24_1 : fldB Tryd.prog 24 1 = some (1, false, 1) := by kernel_rfl
theorem fld24_2 : fldB Tryd.prog 24 2 = some (2, false, 1) := by kernel_rfl
theorem fld24_3 : fldB Tryd.prog 24 3 = some (3, false, 1) := by kernel_rfl
theorem fld30_0 : fldB Tryd.prog 30 0 = some (0, false, 1) := by kernel_rfl
theorem fld30_1 : fldB Tryd.prog 30 1 = some (1, false, 1) := by kernel_rfl
theorem fld30_2 : fldB Tryd.prog 30 2 = some (2, false, 1) := by kernel_rfl
theorem fld30_3 : fldB Tryd.prog 30 3 = some (3, false, 1) := by kernel_rfl
theorem fld83_0 : fldB Tryd.prog 83 0 = some (0, true, 4) := by kernel_rfl
theorem fld83_1 : fldB Tryd.prog 83 1 = some (4, false, 1) := by kernel_rfl
theorem fld86_0 : fldB Tryd.prog 86 0 = some (0, true, 4) := by kernel_rfl
theorem fld86_1 : fldB Tryd.prog 86 1 = some (4, false, 1) := by kernel_rfl
theorem fld96_0 : fldB Tryd.prog 96 0 = some (0, false, 1) := by kernel_rfl
theorem fld96_1 : fldB Tryd.prog 96 1 = some (1, false, 1) := by kernel_rfl
theorem mapty100 : MapTy Tryd.prog 100 encGPacket := ⟨⟨30, 3, by kernel_rfl, struct_of (by kernel_rfl), fun w => by kernel_rfl, fun a b w => by
  simp [go_sem, Op.equal, Op.maxDepth, encGPacket]
  repeat' split
  all_goals simp_all [GPacket.ext_iff], fun e a w => by kernel_rfl⟩, fun a => by simp [Instr.sameBits, encGPacket]⟩
theorem ty124 : tyB Tryd.prog 124 = some (true, 4) := by kernel_rfl
theorem ty24 : tyB Tryd.prog 24 = some (true, 4) := by kernel_rfl
theorem ty3 : tyB Tryd.prog 3 = some (false, 1) := by kernel_rfl
theorem ty30 : tyB Tryd.prog 30 = some (true, 4) := by kernel_rfl
theorem ty35 : tyB Tryd.prog 35 = some (false, 1) := by kernel_rfl
theorem ty5 : tyB Tryd.prog 5 = some (false, 1) := by kernel_rfl
theorem ty83 : tyB Tryd.prog 83 = some (true, 5) := by kernel_rfl
theorem ty86 : tyB Tryd.prog 86 = some (true, 5) := by kernel_rfl
theorem ty96 : tyB Tryd.prog 96 = some (true, 2) := by kernel_rfl
theorem und3 : Tryd.prog.underlying 3 = some (.int .i64) := by kernel_rfl
theorem und4 : Tryd.prog.underlying 4 = some .bool := by kernel_rfl
theorem und5 : Tryd.prog.underlying 5 = some (.int .u8) := by kernel_rfl
theorem zero124 : zeroB Tryd.prog 124 = some [(.int .i64 0), (.int .i64 0), (.int .i64 0), (.int .i64 0)] := by kernel_rfl
theorem zero3 : zeroB Tryd.prog 3 = some [(.int .i64 0)] := by kernel_rfl
theorem zero30 : zeroB Tryd.prog 30 = some [(.int .i64 0), (.int .i64 0), (.int .i64 0), (.int .i64 0)] := by kernel_rfl
theorem zero83 : zeroB Tryd.prog 83 = some [(.int .i64 0), (.int .i64 0), (.int .i64 0), (.int .i64 0), (.int .i64 0)] := by kernel_rfl
theorem zero96 : zeroB Tryd.prog 96 = some [(.int .i64 0), (.int .i64 0)] := by kernel_rfl
theorem mixed : Tryd.prog.follows .mixedOrders = true := by kernel_rfl

set_option maxRecDepth 100000 in
set_option maxHeartbeats 8000000 in
theorem w_laws_szFlowS {w0 : World} {F : Nat → Prop} {v1 : Value} {a_0 : (List GFlow)} {left_1 : Int} {κ : Int → Prop} (hv1 : Sl elGFlow (fun b => b < w0.heap.size ∧ ¬ feet [] b) w0 v1 a_0) (h : L_laws_szFlowS a_0 left_1 κ) :
    Calls Tryd.prog 14 #[v1, (.int .i64 left_1)] w0 (Ret [] F w0 κ (fun (r : Int) (u : Unit) => (.int .i64 r)) (fun (r : Int) (u : Unit) => [])) := by
  refine enter (args := [v1, (.int .i64 left_1)]) [] Tryd.func14 rfl Tryd.ntmps14 rfl [roCh elGFlow v1 a_0] (hf_cons hf_nil) (hh_cons hv1 hh_nil) (Given.nil w0).lt (Given.nil w0).disj (Given.nil w0).hold h ?_
  clear h hv1
  refine c_seq ?_
  refine c_region ?_
  refine o_as st rfl rfl ?_
  refine c_nil ?_
  refine l_then ?_
  refine c_seq ?_
  refine c_region ?_
  refine o_mv st rfl rfl ?_
  refine o_mv st rfl rfl ?_
  refine o_len st el22 0 rfl reads_ro rfl rfl ?_
  refine o_sub st rfl rfl rfl ?_; intro t3
  refine o_as st rfl rfl ?_
  refine c_nil ?_
  refine l_then ?_
  refine c_seq ?_
  refine c_seq ?_
  refine c_region ?_
  refine o_mv st rfl rfl ?_
  refine o_lss st rfl rfl rfl ?_
  refine c_nil ?_
  refine l_then ?_
  refine c_cond rfl ?_ ?_
  · refine c_seq ?_
    refine c_region ?_
    refine o_as st rfl rfl ?_
    refine c_nil ?_
    refine l_then ?_
    refine c_ret ?_
    refine l_ret ?_
    exact l_end1 Tryd.results14 (-1) () (rv_t rfl) (fun _ _ => NewCh.nil _ _ _ _)
  · refine c_skip ?_
    refine l_then ?_
    refine c_seq ?_
    refine c_region ?_
    refine o_mv st rfl rfl ?_
    refine o_as st rfl rfl ?_
    refine c_nil ?_
    refine l_then ?_
    refine c_ret ?_
    exact l_end1 Tryd.results14 t3 () (rv_t rfl) (fun _ _ => NewCh.nil _ _ _ _)

set_option maxRecDepth 100000 in
set_option maxHeartbeats 8000000 in
theorem w_spec_l1In {w0 : World} {F : Nat → Prop} {n_0 : Int} {lo_1 : Int} {hi_2 : Int} {κ : Bool → Prop} (h : L_spec_l1In n_0 lo_1 hi_2 κ) :
    Calls Tryd.prog 56 #[(.int .i64 n_0), (.int .i64 lo_1), (.int .i64 hi_2)] w0 (Ret [] F w0 κ (fun (r : Bool) (u : Unit) => (.bool r)) (fun (r : Bool) (u : Unit) => [])) := by
  refine enter (args := [(.int .i64 n_0), (.int .i64 lo_1), (.int .i64 hi_2)]) [] Tryd.func56 rfl Tryd.ntmps56 rfl [] hf_nil hh_nil (Given.nil w0).lt (Given.nil w0).disj (Given.nil w0).hold h ?_
  clear h
  refine c_seq ?_
  refine c_region ?_
  refine o_as st rfl rfl ?_
  refine c_nil ?_
  refine l_then ?_
  refine c_join (σ := Bool) (fun (t1 : Bool) (a : Act) (w : World) => Has 15 [(6, (.bool t1))] a ∧ Mem (fun _ => True) (feet []) w0 [] w) ?_ ?_
  · intro k2
    refine c_region ?_
    refine o_mv st rfl rfl ?_
    refine o_mv st rfl rfl ?_
    refine o_geq st rfl rfl rfl ?_
    refine o_mv st rfl rfl ?_
    refine st_sp (dj := 10) rfl ?_ ?_
    · refine o_mv (st_g rfl rfl) rfl rfl ?_
      refine o_mv (st_g rfl rfl) rfl rfl ?_
      refine o_leq (st_g rfl rfl) rfl rfl rfl ?_
      refine o_pickT st rfl rfl rfl ?_
      refine o_as st rfl rfl ?_
      refine c_nil ?_
      exact l_join (decide (n_0 ≤ hi_2)) (fun a w hE hm => ⟨hE.sub ⟨rfl, trivial⟩, (hm.pick [] rfl)⟩)
    · refine st_s rfl rfl rfl rfl ?_
      refine st_s rfl rfl rfl rfl ?_
      refine st_s rfl rfl rfl rfl ?_
      refine o_pickF st rfl rfl rfl ?_
      refine o_as st rfl rfl ?_
      refine c_nil ?_
      exact l_join false (fun a w hE hm => ⟨hE.sub ⟨rfl, trivial⟩, (hm.pick [] rfl)⟩)
  · rintro t1 a w ⟨hE, hm⟩ h
    refine nx_of hE hm h ?_
    clear hE hm h
    refine c_ret ?_
    exact l_end1 Tryd.results56 t1 () (rv_t rfl) (fun _ _ => NewCh.nil _ _ _ _)

set_option maxRecDepth 100000 in
set_option maxHeartbeats 8000000 in
theorem w_spec_PacketValid {w0 : World} {F : Nat → Prop} {p_0 : GPacket} {κ : Bool → Prop} (h : L_spec_PacketValid p_0 κ) :
    Calls Tryd.prog 39 #[(.agg #[(.int .i64 p_0.xFrom), (.int .i64 p_0.xTo), (.int .i64 p_0.xPort), (.int .i64 p_0.xProto)])] w0 (Ret [] F w0 κ (fun (r : Bool) (u : Unit) => (.bool r)) (fun (r : Bool) (u : Unit) => [])) := by
  refine enter (args := [(.agg #[(.int .i64 p_0.xFrom), (.int .i64 p_0.xTo), (.int .i64 p_0.xPort), (.int .i64 p_0.xProto)])]) [] Tryd.func39 rfl Tryd.ntmps39 rfl [] hf_nil hh_nil (Given.nil w0).lt (Given.nil w0).disj (Given.nil w0).hold h ?_
  clear h
  refine c_seq ?_
  refine c_region ?_
  refine stw (o_box rfl rfl [(.int .i64 p_0.xFrom), (.int .i64 p_0.xTo), (.int .i64 p_0.xPort), (.int .i64 p_0.xProto)] rfl ?_); intro b1
  refine o_as st rfl rfl ?_
  refine c_nil ?_
  refine l_then ?_
  refine c_join (σ := Bool) (fun (t3 : Bool) (a : Act) (w : World) => Has 21 [(2, (.bool t3))] a ∧ Mem (fun _ => True) (feet []) w0 [] w) ?_ ?_
  · intro k4
    refine c_region ?_
    refine o_fad st rfl rfl fld30_0 rfl ?_
    refine o_ldc st (v := (.int .i64 p_0.xFrom)) 0 rfl rfl rfl ty3 rfl ?_
    refine stw (o_callP (vs := [(.int .i64 p_0.xFrom), (.int .i64 0), (.int .i64 65535)]) Tryd.call56 rfl rfl (by intro w m h; exact w_spec_l1In (n_0 := p_0.xFrom) (lo_1 := 0) (hi_2 := 65535) h) ?_); rintro r5 _
    refine o_mv st rfl rfl ?_
    refine st_sp (dj := 6) rfl ?_ ?_
    · refine o_fad (st_g rfl rfl) rfl rfl fld30_1 rfl ?_
      refine o_ldc (st_g rfl rfl) (v := (.int .i64 p_0.xTo)) 0 rfl rfl rfl ty3 rfl ?_
      refine st_gw rfl rfl (o_callP (vs := [(.int .i64 p_0.xTo), (.int .i64 0), (.int .i64 65535)]) Tryd.call56 rfl rfl (by intro w m h; exact w_spec_l1In (n_0 := p_0.xTo) (lo_1 := 0) (hi_2 := 65535) h) ?_); rintro r6 _
      refine o_pickT st rfl rfl rfl ?_
      refine o_mv st rfl rfl ?_
      refine st_sp (dj := 11) rfl ?_ ?_
      · refine o_fad (st_g rfl rfl) rfl rfl fld30_2 rfl ?_
        refine o_ldc (st_g rfl rfl) (v := (.int .i64 p_0.xPort)) 0 rfl rfl rfl ty3 rfl ?_
        refine st_gw rfl rfl (o_callP (vs := [(.int .i64 p_0.xPort), (.int .i64 0), (.int .i64 255)]) Tryd.call56 rfl rfl (by intro w m h; exact w_spec_l1In (n_0 := p_0.xPort) (lo_1 := 0) (hi_2 := 255) h) ?_); rintro r7 _
        refine o_pickT st rfl rfl rfl ?_
        refine o_mv st rfl rfl ?_
        refine st_sp (dj := 16) rfl ?_ ?_
        · refine o_fad (st_g rfl rfl) rfl rfl fld30_3 rfl ?_
          refine o_ldc (st_g rfl rfl) (v := (.int .i64 p_0.xProto)) 0 rfl rfl rfl ty3 rfl ?_
          refine st_gw rfl rfl (o_callP (vs := [(.int .i64 p_0.xProto), (.int .i64 0), (.int .i64 7)]) Tryd.call56 rfl rfl (by intro w m h; exact w_spec_l1In (n_0 := p_0.xProto) (lo_1 := 0) (hi_2 := 7) h) ?_); rintro r8 _
          refine o_pickT st rfl rfl rfl ?_
          refine o_as st rfl rfl ?_
          refine c_nil ?_
          exact l_join r8 (fun a w hE hm => ⟨hE.sub ⟨rfl, trivial⟩, (hm.pick [] rfl)⟩)
        · refine st_s rfl rfl rfl rfl ?_
          refine st_s rfl rfl rfl rfl ?_
          refine st_s rfl rfl rfl rfl ?_
          refine o_pickF st rfl rfl rfl ?_
          refine o_as st rfl rfl ?_
          refine c_nil ?_
          exact l_join false (fun a w hE hm => ⟨hE.sub ⟨rfl, trivial⟩, (hm.pick [] rfl)⟩)
      · refine st_s rfl rfl rfl rfl ?_
        refine st_s rfl rfl rfl rfl ?_
        refine st_s rfl rfl rfl rfl ?_
        refine o_pickF st rfl rfl rfl ?_
        refine o_mv st rfl rfl ?_
        refine st_s rfl rfl rfl rfl ?_
        refine st_s rfl rfl rfl rfl ?_
        refine st_s rfl rfl rfl rfl ?_
        refine o_pickF st rfl rfl rfl ?_
        refine o_as st rfl rfl ?_
        refine c_nil ?_
        exact l_join false (fun a w hE hm => ⟨hE.sub ⟨rfl, trivial⟩, (hm.pick [] rfl)⟩)
    · refine st_s rfl rfl rfl rfl ?_
      refine st_s rfl rfl rfl rfl ?_
      refine st_s rfl rfl rfl rfl ?_
      refine o_pickF st rfl rfl rfl ?_
      refine o_mv st rfl rfl ?_
      refine st_s rfl rfl rfl rfl ?_
      refine st_s rfl rfl rfl rfl ?_
      refine st_s rfl rfl rfl rfl ?_
      refine o_pickF st rfl rfl rfl ?_
      refine o_mv st rfl rfl ?_
      refine st_s rfl rfl rfl rfl ?_
      refine st_s rfl rfl rfl rfl ?_
      refine st_s rfl rfl rfl rfl ?_
      refine o_pickF st rfl rfl rfl ?_
      refine o_as st rfl rfl ?_
      refine c_nil ?_
      exact l_join false (fun a w hE hm => ⟨hE.sub ⟨rfl, trivial⟩, (hm.pick [] rfl)⟩)
  · rintro t3 a w ⟨hE, hm⟩ h
    refine nx_of hE hm h ?_
    clear hE hm h
    refine c_ret ?_
    exact l_end1 Tryd.results39 t3 () (rv_t rfl) (fun _ _ => NewCh.nil _ _ _ _)

set_option maxRecDepth 100000 in
set_option maxHeartbeats 8000000 in
theorem w_spec_ReversePacket {w0 : World} {F : Nat → Prop} {p_0 : GPacket} {κ : GPacket → Prop} (h : L_spec_ReversePacket p_0 κ) :
    Calls Tryd.prog 80 #[(.agg #[(.int .i64 p_0.xFrom), (.int .i64 p_0.xTo), (.int .i64 p_0.xPort), (.int .i64 p_0.xProto)])] w0 (Ret [] F w0 κ (fun (r : GPacket) (u : Unit) => (.agg #[(.int .i64 r.xFrom), (.int .i64 r.xTo), (.int .i64 r.xPort), (.int .i64 r.xProto)])) (fun (r : GPacket) (u : Unit) => [])) := by
  refine enter (args := [(.agg #[(.int .i64 p_0.xFrom), (.int .i64 p_0.xTo), (.int .i64 p_0.xPort), (.int .i64 p_0.xProto)])]) [] Tryd.func80 rfl Tryd.ntmps80 rfl [] hf_nil hh_nil (Given.nil w0).lt (Given.nil w0).disj (Given.nil w0).hold h ?_
  clear h
  refine c_seq ?_
  refine c_region ?_
  refine stw (o_box rfl rfl [(.int .i64 p_0.xFrom), (.int .i64 p_0.xTo), (.int .i64 p_0.xPort), (.int .i64 p_0.xProto)] rfl ?_); intro b1
  refine stw (o_alloc rfl [(.int .i64 0), (.int .i64 0), (.int .i64 0), (.int .i64 0)] zero30 ?_); intro b3
  refine c_nil ?_
  refine l_then ?_
  refine c_seq ?_
  refine c_seq ?_
  refine c_region ?_
  refine o_ldc st (v := (.agg #[(.int .i64 p_0.xFrom), (.int .i64 p_0.xTo), (.int .i64 p_0.xPort), (.int .i64 p_0.xProto)])) 1 rfl rfl rfl ty30 rfl ?_
  refine stw (o_callP (vs := [(.agg #[(.int .i64 p_0.xFrom), (.int .i64 p_0.xTo), (.int .i64 p_0.xPort), (.int .i64 p_0.xProto)])]) Tryd.call39 rfl rfl (by intro w m h; exact w_spec_PacketValid (p_0 := p_0) h) ?_); rintro r5 _
  refine o_not st rfl rfl ?_
  refine c_nil ?_
  refine l_then ?_
  refine c_cond rfl ?_ ?_
  · refine c_seq ?_
    refine c_region ?_
    refine o_bld st (qs := []) (cells := [(.int .i64 0), (.int .i64 0), (.int .i64 0), (.int .i64 0)]) (by intro ρ h; simp only [List.map_toArray, List.map_cons, List.map_nil]) rfl bld30 rfl ?_
    refine stw (o_stc (cs' := [(.int .i64 0), (.int .i64 0), (.int .i64 0), (.int .i64 0)]) 0 rfl rfl rfl ty30 rfl rfl rfl rfl ?_)
    refine c_nil ?_
    refine l_then ?_
    refine c_ret ?_
    refine l_ret ?_
    exact l_end1 Tryd.results80 (GPacket.mk 0 0 0 0) () (rv_c 0 rfl rfl ty30 rfl) (fun _ _ => NewCh.nil _ _ _ _)
  · refine c_skip ?_
    refine l_then ?_
    refine c_seq ?_
    refine c_region ?_
    refine o_fad st rfl rfl fld30_1 rfl ?_
    refine o_ldc st (v := (.int .i64 p_0.xTo)) 1 rfl rfl rfl ty3 rfl ?_
    refine o_fad st rfl rfl fld30_0 rfl ?_
    refine o_ldc st (v := (.int .i64 p_0.xFrom)) 1 rfl rfl rfl ty3 rfl ?_
    refine o_fad st rfl rfl fld30_2 rfl ?_
    refine o_ldc st (v := (.int .i64 p_0.xPort)) 1 rfl rfl rfl ty3 rfl ?_
    refine o_fad st rfl rfl fld30_3 rfl ?_
    refine o_ldc st (v := (.int .i64 p_0.xProto)) 1 rfl rfl rfl ty3 rfl ?_
    refine o_bld st (qs := [(0, (.int .i64 p_0.xTo)), (1, (.int .i64 p_0.xFrom)), (2, (.int .i64 p_0.xPort)), (3, (.int .i64 p_0.xProto))]) (cells := [(.int .i64 p_0.xTo), (.int .i64 p_0.xFrom), (.int .i64 p_0.xPort), (.int .i64 p_0.xProto)]) (by intro ρ h; simp only [List.map_toArray, List.map_cons, List.map_nil, h (.tmp 8) _ rfl, h (.tmp 10) _ rfl, h (.tmp 12) _ rfl, h (.tmp 14) _ rfl]) rfl bld30 rfl ?_
    refine stw (o_stc (cs' := [(.int .i64 p_0.xTo), (.int .i64 p_0.xFrom), (.int .i64 p_0.xPort), (.int .i64 p_0.xProto)]) 0 rfl rfl rfl ty30 rfl rfl rfl rfl ?_)
    refine c_nil ?_
    refine l_then ?_
    refine c_ret ?_
    exact l_end1 Tryd.results80 (GPacket.mk p_0.xTo p_0.xFrom p_0.xPort p_0.xProto) () (rv_c 0 rfl rfl ty30 rfl) (fun _ _ => NewCh.nil _ _ _ _)

set_option maxRecDepth 100000 in
set_option maxHeartbeats 8000000 in
theorem w_spec_l19Same {w0 : World} {F : Nat → Prop} {a_0 : GPacket} {b_1 : GPacket} {κ : Bool → Prop} (h : L_spec_l19Same a_0 b_1 κ) :
    Calls Tryd.prog 88 #[(.agg #[(.int .i64 a_0.xFrom), (.int .i64 a_0.xTo), (.int .i64 a_0.xPort), (.int .i64 a_0.xProto)]), (.agg #[(.int .i64 b_1.xFrom), (.int .i64 b_1.xTo), (.int .i64 b_1.xPort), (.int .i64 b_1.xProto)])] w0 (Ret [] F w0 κ (fun (r : Bool) (u : Unit) => (.bool r)) (fun (r : Bool) (u : Unit) => [])) := by
  refine enter (args := [(.agg #[(.int .i64 a_0.xFrom), (.int .i64 a_0.xTo), (.int .i64 a_0.xPort), (.int .i64 a_0.xProto)]), (.agg #[(.int .i64 b_1.xFrom), (.int .i64 b_1.xTo), (.int .i64 b_1.xPort), (.int .i64 b_1.xProto)])]) [] Tryd.func88 rfl Tryd.ntmps88 rfl [] hf_nil hh_nil (Given.nil w0).lt (Given.nil w0).disj (Given.nil w0).hold h ?_
  clear h
  refine c_seq ?_
  refine c_region ?_
  refine stw (o_box rfl rfl [(.int .i64 a_0.xFrom), (.int .i64 a_0.xTo), (.int .i64 a_0.xPort), (.int .i64 a_0.xProto)] rfl ?_); intro b1
  refine stw (o_box rfl rfl [(.int .i64 b_1.xFrom), (.int .i64 b_1.xTo), (.int .i64 b_1.xPort), (.int .i64 b_1.xProto)] rfl ?_); intro b3
  refine o_as st rfl rfl ?_
  refine c_nil ?_
  refine l_then ?_
  refine c_join (σ := Bool) (fun (t5 : Bool) (a : Act) (w : World) => Has 14 [(4, (.bool t5))] a ∧ Mem (fun _ => True) (feet []) w0 [] w) ?_ ?_
  · intro k6
    refine c_draw mixed 10 rfl [cellCh b3 [(.int .i64 b_1.xFrom), (.int .i64 b_1.xTo), (.int .i64 b_1.xPort), (.int .i64 b_1.xProto)] 30, cellCh b1 [(.int .i64 a_0.xFrom), (.int .i64 a_0.xTo), (.int .i64 a_0.xPort), (.int .i64 a_0.xProto)] 30] ?_
    refine o_ldc (d_take (i := 0) rfl (by kernel_rfl) (by kernel_rfl) (by kernel_rfl) (fun c a d v w h => by cases d <;> exact h) (fun w m => m.pick [0, 1] rfl)) (v := (.agg #[(.int .i64 a_0.xFrom), (.int .i64 a_0.xTo), (.int .i64 a_0.xPort), (.int .i64 a_0.xProto)])) 1 rfl rfl rfl ty30 rfl ?_
    refine o_ldc (d_take (i := 1) rfl (by kernel_rfl) (by kernel_rfl) (by kernel_rfl) (fun c a d v w h => by cases d <;> exact h) (fun w m => m.pick [0, 1] rfl)) (v := (.agg #[(.int .i64 b_1.xFrom), (.int .i64 b_1.xTo), (.int .i64 b_1.xPort), (.int .i64 b_1.xProto)])) 0 rfl rfl rfl ty30 rfl ?_
    refine o_bin (d_take (i := 2) rfl (by kernel_rfl) (by kernel_rfl) (by kernel_rfl) (fun c a d v w h => by cases d <;> exact h) (fun w m => m.pick [0, 1] rfl)) (.bool (decide (a_0 = b_1))) rfl rfl rfl (eqls30 _ _ a_0.xFrom a_0.xTo a_0.xPort a_0.xProto b_1.xFrom b_1.xTo b_1.xPort b_1.xProto) ?_
    refine o_mv (d_take (i := 3) rfl (by kernel_rfl) (by kernel_rfl) (by kernel_rfl) (fun c a d v w h => by cases d <;> exact h) (fun w m => m.pick [0, 1] rfl)) rfl rfl ?_
    refine st_sp (dj := 8) rfl ?_ ?_
    · refine d_skip (i := 4) rfl (by kernel_rfl) (by kernel_rfl) (by kernel_rfl) (fun c a d v w h => by cases d <;> exact h) (fun w m => m.pick [0, 1] rfl) rfl rfl rfl rfl ?_
      refine d_skip (i := 5) rfl (by kernel_rfl) (by kernel_rfl) (by kernel_rfl) (fun c a d v w h => by cases d <;> exact h) (fun w m => m.pick [0, 1] rfl) rfl rfl rfl rfl ?_
      refine d_skip (i := 6) rfl (by kernel_rfl) (by kernel_rfl) (by kernel_rfl) (fun c a d v w h => by cases d <;> exact h) (fun w m => m.pick [0, 1] rfl) rfl rfl rfl rfl ?_
      refine d_skip (i := 7) rfl (by kernel_rfl) (by kernel_rfl) (by kernel_rfl) (fun c a d v w h => by cases d <;> exact h) (fun w m => m.pick [0, 1] rfl) rfl rfl rfl rfl ?_
      refine o_pickT (d_take (i := 8) rfl (by kernel_rfl) (by kernel_rfl) (by kernel_rfl) (fun c a d v w h => by cases d <;> exact h) (fun w m => m.pick [0, 1] rfl)) rfl rfl rfl ?_
      refine o_as (d_take (i := 9) rfl (by kernel_rfl) (by kernel_rfl) (by kernel_rfl) (fun c a d v w h => by cases d <;> exact h) (fun w m => m.pick [0, 1] rfl)) rfl rfl ?_
      refine d_done (by kernel_rfl) ?_
      exact l_join true (fun a w hE hm => ⟨hE.sub ⟨rfl, trivial⟩, (hm.pick [] rfl)⟩)
    · refine o_ldc (d_takeg (i := 4) rfl (by kernel_rfl) (by kernel_rfl) (by kernel_rfl) (fun c a d v w h => by cases d <;> exact h) (fun w m => m.pick [0, 1] rfl) rfl rfl) (v := (.agg #[(.int .i64 a_0.xFrom), (.int .i64 a_0.xTo), (.int .i64 a_0.xPort), (.int .i64 a_0.xProto)])) 1 rfl rfl rfl ty30 rfl ?_
      refine o_ldc (d_takeg (i := 5) rfl (by kernel_rfl) (by kernel_rfl) (by kernel_rfl) (fun c a d v w h => by cases d <;> exact h) (fun w m => m.pick [0, 1] rfl) rfl rfl) (v := (.agg #[(.int .i64 b_1.xFrom), (.int .i64 b_1.xTo), (.int .i64 b_1.xPort), (.int .i64 b_1.xProto)])) 0 rfl rfl rfl ty30 rfl ?_
      refine d_oneg (i := 6) rfl rfl rfl (by kernel_rfl) (o_callP (vs := [(.agg #[(.int .i64 b_1.xFrom), (.int .i64 b_1.xTo), (.int .i64 b_1.xPort), (.int .i64 b_1.xProto)])]) Tryd.call80 rfl rfl (by intro w m h; exact w_spec_ReversePacket (p_0 := b_1) h) ?_); rintro r7 _
      refine d_and (fun w m => m.pick [0, 1] rfl) ?_
      refine o_bin (d_takeg (i := 7) rfl (by kernel_rfl) (by kernel_rfl) (by kernel_rfl) (fun c a d v w h => by cases d <;> exact h) (fun w m => m.pick [0, 1] rfl) rfl rfl) (.bool (decide (a_0 = r7))) rfl rfl rfl (eqls30 _ _ a_0.xFrom a_0.xTo a_0.xPort a_0.xProto r7.xFrom r7.xTo r7.xPort r7.xProto) ?_
      refine o_pickF (d_take (i := 8) rfl (by kernel_rfl) (by kernel_rfl) (by kernel_rfl) (fun c a d v w h => by cases d <;> exact h) (fun w m => m.pick [0, 1] rfl)) rfl rfl rfl ?_
      refine o_as (d_take (i := 9) rfl (by kernel_rfl) (by kernel_rfl) (by kernel_rfl) (fun c a d v w h => by cases d <;> exact h) (fun w m => m.pick [0, 1] rfl)) rfl rfl ?_
      refine d_done (by kernel_rfl) ?_
      exact l_join (decide (a_0 = r7)) (fun a w hE hm => ⟨hE.sub ⟨rfl, trivial⟩, (hm.pick [] rfl)⟩)
  · rintro t5 a w ⟨hE, hm⟩ h
    refine nx_of hE hm h ?_
    clear hE hm h
    refine c_ret ?_
    exact l_end1 Tryd.results88 t5 () (rv_t rfl) (fun _ _ => NewCh.nil _ _ _ _)

set_option maxRecDepth 100000 in
set_option maxHeartbeats 8000000 in
theorem w_spec_FlowsValid {w0 : World} {F : Nat → Prop} {v1 : Value} {list_0 : (List GFlow)} {κ : Bool → Prop} (hv1 : Sl elGFlow (fun b => b < w0.heap.size ∧ ¬ feet [] b) w0 v1 list_0) (h : L_spec_FlowsValid list_0 κ) :
    Calls Tryd.prog 47 #[v1] w0 (Ret [] F w0 κ (fun (r : Bool) (u : Unit) => (.bool r)) (fun (r : Bool) (u : Unit) => [])) := by
  refine enter (args := [v1]) [] Tryd.func47 rfl Tryd.ntmps47 rfl [roCh elGFlow v1 list_0] (hf_cons hf_nil) (hh_cons hv1 hh_nil) (Given.nil w0).lt (Given.nil w0).disj (Given.nil w0).hold h ?_
  clear h hv1
  refine c_seq ?_
  refine c_region ?_
  refine o_as st rfl rfl ?_
  refine c_nil ?_
  refine l_then ?_
  refine c_seq ?_
  refine c_seq ?_
  refine c_region ?_
  refine o_as st rfl rfl ?_
  refine c_nil ?_
  refine l_then ?_
  refine c_block ?_
  refine c_loop (σ := Int) (fun (t3 : Int) (a : Act) (w : World) => Has 46 [(0, v1), (3, (.int .i64 t3))] a ∧ Mem (fun _ => True) (feet []) w0 [roCh elGFlow v1 list_0] w) (fun a w hE hm => ⟨hE.sub ⟨rfl, rfl, trivial⟩, (hm.pick [0] rfl)⟩) ?_
  rintro nx4 t3 a w ⟨hE, hm⟩ h
  refine nx_of hE hm h ?_
  clear hE hm h
  refine c_seq ?_
  refine c_seq ?_
  refine c_region ?_
  refine o_mv st rfl rfl ?_
  refine o_mv st rfl rfl ?_
  refine o_len st el26 0 rfl reads_ro rfl rfl ?_
  refine o_lss st rfl rfl rfl ?_
  refine c_nil ?_
  refine l_then ?_
  refine c_cond rfl ?_ ?_
  · refine c_skip ?_
    refine l_then ?_
    refine c_seq ?_
    refine c_block ?_
    refine c_seq ?_
    refine c_join (σ := Bool) (fun (t5 : Bool) (a : Act) (w : World) => Has 46 [(0, v1), (3, (.int .i64 t3)), (26, (.bool t5))] a ∧ Mem (fun _ => True) (feet []) w0 [roCh elGFlow v1 list_0] w) ?_ ?_
    · intro k6
      refine c_region ?_
      refine o_mv st rfl rfl ?_
      refine o_mv st rfl rfl ?_
      refine o_idx st 0 rfl reads_ro rfl rfl rfl el26 ?_; intro e7 h8
      refine o_fadS st 0 rfl reads_ro h8 rfl rfl fld83_0 rfl ?_
      refine o_lds st (enc := encGFlow) (u := (.agg #[(.int .i64 e7.xWho.xFrom), (.int .i64 e7.xWho.xTo), (.int .i64 e7.xWho.xPort), (.int .i64 e7.xWho.xProto)])) 0 rfl reads_ro flelGFlow rfl h8 rfl rfl ty30 rfl ?_
      refine stw (o_callP (vs := [(.agg #[(.int .i64 e7.xWho.xFrom), (.int .i64 e7.xWho.xTo), (.int .i64 e7.xWho.xPort), (.int .i64 e7.xWho.xProto)])]) Tryd.call39 rfl rfl (by intro w m h; exact w_spec_PacketValid (p_0 := e7.xWho) h) ?_); rintro r9 _
      refine o_not st rfl rfl ?_
      refine o_mv st rfl rfl ?_
      refine st_sp (dj := 18) rfl ?_ ?_
      · refine st_s rfl rfl rfl rfl ?_
        refine st_s rfl rfl rfl rfl ?_
        refine st_s rfl rfl rfl rfl ?_
        refine st_s rfl rfl rfl rfl ?_
        refine st_s rfl rfl rfl rfl ?_
        refine st_s rfl rfl rfl rfl ?_
        refine st_s rfl rfl rfl rfl ?_
        refine o_pickT st rfl rfl rfl ?_
        refine c_nil ?_
        exact l_join true (fun a w hE hm => ⟨hE.sub ⟨rfl, rfl, rfl, trivial⟩, (hm.pick [0] rfl)⟩)
      · refine o_mv (st_g rfl rfl) rfl rfl ?_
        refine o_mv (st_g rfl rfl) rfl rfl ?_
        refine o_idx (st_g rfl rfl) 0 rfl reads_ro rfl rfl rfl el26 ?_; intro e10 h11
        refine o_fadS (st_g rfl rfl) 0 rfl reads_ro h11 rfl rfl fld83_1 rfl ?_
        refine o_lds (st_g rfl rfl) (enc := encGFlow) (u := (.int .i64 e10.xUntil)) 0 rfl reads_ro flelGFlow rfl h11 rfl rfl ty3 rfl ?_
        refine st_gw rfl rfl (o_callP (vs := [(.int .i64 e10.xUntil), (.int .i64 0), (.int .i64 1000000)]) Tryd.call56 rfl rfl (by intro w m h; exact w_spec_l1In (n_0 := e10.xUntil) (lo_1 := 0) (hi_2 := 1000000) h) ?_); rintro r12 _
        refine o_not (st_g rfl rfl) rfl rfl ?_
        refine o_pickF st rfl rfl rfl ?_
        refine c_nil ?_
        exact l_join (!r12) (fun a w hE hm => ⟨hE.sub ⟨rfl, rfl, rfl, trivial⟩, (hm.pick [0] rfl)⟩)
    · rintro t5 a w ⟨hE, hm⟩ h
      refine nx_of hE hm h ?_
      clear hE hm h
      refine c_cond rfl ?_ ?_
      · refine c_seq ?_
        refine c_region ?_
        refine o_as st rfl rfl ?_
        refine c_nil ?_
        refine l_then ?_
        refine c_ret ?_
        refine l_ret ?_
        refine b_ret ?_
        refine l_ret ?_
        refine l_ret ?_
        refine b_ret ?_
        refine l_ret ?_
        exact l_end1 Tryd.results47 false () (rv_t rfl) (fun _ _ => NewCh.nil _ _ _ _)
      · refine c_skip ?_
        refine l_then ?_
        refine c_seq ?_
        refine c_region ?_
        refine o_as st rfl rfl ?_
        refine c_nil ?_
        refine l_then ?_
        refine c_block ?_
        refine c_loop (σ := Int) (fun (t13 : Int) (a : Act) (w : World) => Has 46 [(0, v1), (3, (.int .i64 t3)), (4, (.int .i64 t13))] a ∧ Mem (fun _ => True) (feet []) w0 [roCh elGFlow v1 list_0] w) (fun a w hE hm => ⟨hE.sub ⟨rfl, rfl, rfl, trivial⟩, (hm.pick [0] rfl)⟩) ?_
        rintro nx14 t13 a w ⟨hE, hm⟩ h
        refine nx_of hE hm h ?_
        clear hE hm h
        refine c_seq ?_
        refine c_seq ?_
        refine c_region ?_
        refine o_mv st rfl rfl ?_
        refine o_mv st rfl rfl ?_
        refine o_lss st rfl rfl rfl ?_
        refine c_nil ?_
        refine l_then ?_
        refine c_cond rfl ?_ ?_
        · refine c_skip ?_
          refine l_then ?_
          refine c_seq ?_
          refine c_block ?_
          refine c_seq ?_
          refine c_draw mixed 11 rfl [roCh elGFlow v1 list_0] ?_
          refine o_mv (d_take (i := 0) rfl (by kernel_rfl) (by kernel_rfl) (by kernel_rfl) (fun c a d v w h => by cases d <;> exact h) (fun w m => m.pick [0] rfl)) rfl rfl ?_
          refine o_mv (d_take (i := 1) rfl (by kernel_rfl) (by kernel_rfl) (by kernel_rfl) (fun c a d v w h => by cases d <;> exact h) (fun w m => m.pick [0] rfl)) rfl rfl ?_
          refine o_idx (d_take (i := 2) rfl (by kernel_rfl) (by kernel_rfl) (by kernel_rfl) (fun c a d v w h => by cases d <;> exact h) (fun w m => m.pick [0] rfl)) 0 rfl reads_ro rfl rfl rfl el26 ?_; intro e15 h16
          refine o_fadS (d_take (i := 3) rfl (by kernel_rfl) (by kernel_rfl) (by kernel_rfl) (fun c a d v w h => by cases d <;> exact h) (fun w m => m.pick [0] rfl)) 0 rfl reads_ro h16 rfl rfl fld83_0 rfl ?_
          refine o_lds (d_take (i := 4) rfl (by kernel_rfl) (by kernel_rfl) (by kernel_rfl) (fun c a d v w h => by cases d <;> exact h) (fun w m => m.pick [0] rfl)) (enc := encGFlow) (u := (.agg #[(.int .i64 e15.xWho.xFrom), (.int .i64 e15.xWho.xTo), (.int .i64 e15.xWho.xPort), (.int .i64 e15.xWho.xProto)])) 0 rfl reads_ro flelGFlow rfl h16 rfl rfl ty30 rfl ?_
          refine o_mv (d_take (i := 5) rfl (by kernel_rfl) (by kernel_rfl) (by kernel_rfl) (fun c a d v w h => by cases d <;> exact h) (fun w m => m.pick [0] rfl)) rfl rfl ?_
          refine o_mv (d_take (i := 6) rfl (by kernel_rfl) (by kernel_rfl) (by kernel_rfl) (fun c a d v w h => by cases d <;> exact h) (fun w m => m.pick [0] rfl)) rfl rfl ?_
          refine o_idx (d_take (i := 7) rfl (by kernel_rfl) (by kernel_rfl) (by kernel_rfl) (fun c a d v w h => by cases d <;> exact h) (fun w m => m.pick [0] rfl)) 0 rfl reads_ro rfl rfl rfl el26 ?_; intro e17 h18
          refine o_fadS (d_take (i := 8) rfl (by kernel_rfl) (by kernel_rfl) (by kernel_rfl) (fun c a d v w h => by cases d <;> exact h) (fun w m => m.pick [0] rfl)) 0 rfl reads_ro h18 rfl rfl fld83_0 rfl ?_
          refine o_lds (d_take (i := 9) rfl (by kernel_rfl) (by kernel_rfl) (by kernel_rfl) (fun c a d v w h => by cases d <;> exact h) (fun w m => m.pick [0] rfl)) (enc := encGFlow) (u := (.agg #[(.int .i64 e17.xWho.xFrom), (.int .i64 e17.xWho.xTo), (.int .i64 e17.xWho.xPort), (.int .i64 e17.xWho.xProto)])) 0 rfl reads_ro flelGFlow rfl h18 rfl rfl ty30 rfl ?_
          refine d_one (i := 10) rfl (by kernel_rfl) (o_callP (vs := [(.agg #[(.int .i64 e15.xWho.xFrom), (.int .i64 e15.xWho.xTo), (.int .i64 e15.xWho.xPort), (.int .i64 e15.xWho.xProto)]), (.agg #[(.int .i64 e17.xWho.xFrom), (.int .i64 e17.xWho.xTo), (.int .i64 e17.xWho.xPort), (.int .i64 e17.xWho.xProto)])]) Tryd.call88 rfl rfl (by intro w m h; exact w_spec_l19Same (a_0 := e15.xWho) (b_1 := e17.xWho) h) ?_); rintro r19 _
          refine d_and (fun w m => m.pick [0] rfl) ?_
          refine d_done (by kernel_rfl) ?_
          refine l_then ?_
          refine c_cond rfl ?_ ?_
          · refine c_seq ?_
            refine c_region ?_
            refine o_as st rfl rfl ?_
            refine c_nil ?_
            refine l_then ?_
            refine c_ret ?_
            refine b_ret ?_
            refine l_ret ?_
            refine l_ret ?_
            refine b_ret ?_
            refine b_ret ?_
            refine l_ret ?_
            refine l_ret ?_
            refine b_ret ?_
            refine l_ret ?_
            exact l_end1 Tryd.results47 false () (rv_t rfl) (fun _ _ => NewCh.nil _ _ _ _)
          · refine c_skip ?_
            refine b_norm ?_
            refine l_then ?_
            refine c_region ?_
            refine o_mv st rfl rfl ?_
            refine o_add st rfl rfl rfl ?_; intro t20
            refine o_as st rfl rfl ?_
            refine c_nil ?_
            exact l_join t20 (fun a w hE hm => ⟨hE.sub ⟨rfl, rfl, rfl, trivial⟩, (hm.pick [0] rfl)⟩)
        · refine c_exit ?_
          refine l_exit ?_
          refine l_exit ?_
          refine b_exit ?_
          refine b_norm ?_
          refine l_then ?_
          refine c_region ?_
          refine o_mv st rfl rfl ?_
          refine o_add st rfl rfl rfl ?_; intro t21
          refine o_as st rfl rfl ?_
          refine c_nil ?_
          exact l_join t21 (fun a w hE hm => ⟨hE.sub ⟨rfl, rfl, trivial⟩, (hm.pick [0] rfl)⟩)
  · refine c_exit ?_
    refine l_exit ?_
    refine l_exit ?_
    refine b_exit ?_
    refine l_then ?_
    refine c_seq ?_
    refine c_region ?_
    refine o_mv st rfl rfl ?_
    refine o_len st el26 0 rfl reads_ro rfl rfl ?_
    refine o_leq st rfl rfl rfl ?_
    refine o_as st rfl rfl ?_
    refine c_nil ?_
    refine l_then ?_
    refine c_ret ?_
    exact l_end1 Tryd.results47 (decide ((list_0.length : Int) ≤ 20)) () (rv_t rfl) (fun _ _ => NewCh.nil _ _ _ _)

set_option maxRecDepth 100000 in
set_option maxHeartbeats 8000000 in
theorem w_spec_ExpireFlows {w0 : World} {F : Nat → Prop} {v1 : Value} {list_0 : (List GFlow)} {now_1 : Int} {κ : (List GFlow) → Prop} (hv1 : Sl elGFlow (fun b => b < w0.heap.size ∧ ¬ feet [] b) w0 v1 list_0) (h : L_spec_ExpireFlows list_0 now_1 κ) :
    Calls Tryd.prog 57 #[v1, (.int .i64 now_1)] w0 (Ret [] F w0 κ (fun (r : (List GFlow)) (u : Value) => u) (fun (r : (List GFlow)) (u : Value) => [ownCh elGFlow 83 u (r)])) := by
  refine enter (args := [v1, (.int .i64 now_1)]) [] Tryd.func57 rfl Tryd.ntmps57 rfl [roCh elGFlow v1 list_0] (hf_cons hf_nil) (hh_cons hv1 hh_nil) (Given.nil w0).lt (Given.nil w0).disj (Given.nil w0).hold h ?_
  clear h hv1
  refine c_seq ?_
  refine c_region ?_
  refine stw (o_asn elGFlow 83 rfl rfl ?_)
  refine c_nil ?_
  refine l_then ?_
  refine c_seq ?_
  refine c_region ?_
  refine stw (o_bsl (enc := encGFlow) (qs := []) (cells := []) ([]) flelGFlow (by intro ρ h; simp only [List.map_toArray, List.map_cons, List.map_nil]) rfl el26 zero83 rfl rfl rfl rfl rfl rfl ?_); intro v4
  refine o_as st rfl rfl ?_
  refine c_nil ?_
  refine l_then ?_
  refine c_seq ?_
  refine c_seq ?_
  refine c_region ?_
  refine o_as st rfl rfl ?_
  refine c_nil ?_
  refine l_then ?_
  refine c_block ?_
  refine c_loop (σ := ((List GFlow) × Int)) (fun ((xs7, t10) : ((List GFlow) × Int)) (a : Act) (w : World) => ∃ (v8 : Value), Has 37 [(0, v1), (1, (.int .i64 now_1)), (5, v8), (6, (.int .i64 t10))] a ∧ Mem (fun _ => True) (feet []) w0 [roCh elGFlow v1 list_0, ownCh elGFlow 83 v8 xs7] w) (fun a w hE hm => ⟨v4, hE.sub ⟨rfl, rfl, rfl, rfl, trivial⟩, (hm.pick [2, 0] rfl)⟩) ?_
  rintro nx11 ⟨xs7, t10⟩ a w ⟨v8, hE, hm⟩ h
  refine nx_of hE hm h ?_
  clear hE hm h
  refine c_seq ?_
  refine c_join (σ := Bool) (fun (t12 : Bool) (a : Act) (w : World) => Has 37 [(0, v1), (1, (.int .i64 now_1)), (5, v8), (6, (.int .i64 t10)), (19, (.bool t12))] a ∧ Mem (fun _ => True) (feet []) w0 [roCh elGFlow v1 list_0, ownCh elGFlow 83 v8 xs7] w) ?_ ?_
  · intro k13
    refine c_region ?_
    refine o_mv st rfl rfl ?_
    refine o_mv st rfl rfl ?_
    refine o_len st el26 0 rfl reads_ro rfl rfl ?_
    refine o_lss st rfl rfl rfl ?_
    refine o_mv st rfl rfl ?_
    refine st_sp (dj := 12) rfl ?_ ?_
    · refine o_mv (st_g rfl rfl) rfl rfl ?_
      refine st_gw rfl rfl (o_callP (vs := [v1]) Tryd.call47 rfl rfl (by intro w m h; exact w_spec_FlowsValid (list_0 := list_0) (m.rd0 0 rfl reads_ro) h) ?_); rintro r14 _
      refine o_pickT st rfl rfl rfl ?_
      refine o_mv st rfl rfl ?_
      refine st_sp (dj := 16) rfl ?_ ?_
      · refine o_mv (st_g rfl rfl) rfl rfl ?_
        refine st_gw rfl rfl (o_callP (vs := [(.int .i64 now_1), (.int .i64 0), (.int .i64 1000000)]) Tryd.call56 rfl rfl (by intro w m h; exact w_spec_l1In (n_0 := now_1) (lo_1 := 0) (hi_2 := 1000000) h) ?_); rintro r15 _
        refine o_pickT st rfl rfl rfl ?_
        refine c_nil ?_
        exact l_join r15 (fun a w hE hm => ⟨hE.sub ⟨rfl, rfl, rfl, rfl, rfl, trivial⟩, (hm.pick [0, 1] rfl)⟩)
      · refine st_s rfl rfl rfl rfl ?_
        refine st_s rfl rfl rfl rfl ?_
        refine o_pickF st rfl rfl rfl ?_
        refine c_nil ?_
        exact l_join false (fun a w hE hm => ⟨hE.sub ⟨rfl, rfl, rfl, rfl, rfl, trivial⟩, (hm.pick [0, 1] rfl)⟩)
    · refine st_s rfl rfl rfl rfl ?_
      refine st_s rfl rfl rfl rfl ?_
      refine o_pickF st rfl rfl rfl ?_
      refine o_mv st rfl rfl ?_
      refine st_s rfl rfl rfl rfl ?_
      refine st_s rfl rfl rfl rfl ?_
      refine o_pickF st rfl rfl rfl ?_
      refine c_nil ?_
      exact l_join false (fun a w hE hm => ⟨hE.sub ⟨rfl, rfl, rfl, rfl, rfl, trivial⟩, (hm.pick [0, 1] rfl)⟩)
  · rintro t12 a w ⟨hE, hm⟩ h
    refine nx_of hE hm h ?_
    clear hE hm h
    refine c_cond rfl ?_ ?_
    · refine c_skip ?_
      refine l_then ?_
      refine c_join (σ := (List GFlow)) (fun (xs16 : (List GFlow)) (a : Act) (w : World) => ∃ (v17 : Value), Has 37 [(0, v1), (1, (.int .i64 now_1)), (5, v17), (6, (.int .i64 t10))] a ∧ Mem (fun _ => True) (feet []) w0 [roCh elGFlow v1 list_0, ownCh elGFlow 83 v17 xs16] w) ?_ ?_
      · intro k19
        refine c_block ?_
        refine c_seq ?_
        refine c_region ?_
        refine o_mv st rfl rfl ?_
        refine o_mv st rfl rfl ?_
        refine o_idx st 0 rfl reads_ro rfl rfl rfl el26 ?_; intro e20 h21
        refine o_fadS st 0 rfl reads_ro h21 rfl rfl fld83_1 rfl ?_
        refine o_lds st (enc := encGFlow) (u := (.int .i64 e20.xUntil)) 0 rfl reads_ro flelGFlow rfl h21 rfl rfl ty3 rfl ?_
        refine o_mv st rfl rfl ?_
        refine o_geq st rfl rfl rfl ?_
        refine c_nil ?_
        refine l_then ?_
        refine c_cond rfl ?_ ?_
        · refine c_region ?_
          refine o_mv st rfl rfl ?_
          refine o_mv st rfl rfl ?_
          refine o_mv st rfl rfl ?_
          refine o_idx st 0 rfl reads_ro rfl rfl rfl el26 ?_; intro e22 h23
          refine o_lds st (enc := encGFlow) (u := (.agg #[(.int .i64 e22.xWho.xFrom), (.int .i64 e22.xWho.xTo), (.int .i64 e22.xWho.xPort), (.int .i64 e22.xWho.xProto), (.int .i64 e22.xUntil)])) 0 rfl reads_ro flelGFlow rfl h23 rfl rfl ty83 rfl ?_
          refine stw (o_bsl (enc := encGFlow) (qs := [(0, (.agg #[(.int .i64 e22.xWho.xFrom), (.int .i64 e22.xWho.xTo), (.int .i64 e22.xWho.xPort), (.int .i64 e22.xWho.xProto), (.int .i64 e22.xUntil)]))]) (cells := [(.int .i64 e22.xWho.xFrom), (.int .i64 e22.xWho.xTo), (.int .i64 e22.xWho.xPort), (.int .i64 e22.xWho.xProto), (.int .i64 e22.xUntil)]) ([e22]) flelGFlow (by intro ρ h; simp only [List.map_toArray, List.map_cons, List.map_nil, h (.tmp 33) _ rfl]) rfl el26 zero83 rfl rfl rfl rfl rfl rfl ?_); intro v24
          refine stw (o_app 2 0 rfl rfl reads_own (.inr flelGFlow.free) rfl rfl rfl el26 rfl zero83 rfl rfl ?_); intro v26
          refine o_as st rfl rfl ?_
          refine c_nil ?_
          refine b_norm ?_
          exact l_join (xs7 ++ ([e22])) (fun a w hE hm => ⟨v26, hE.sub ⟨rfl, rfl, rfl, rfl, trivial⟩, (hm.pick [1, 2] rfl)⟩)
        · refine c_skip ?_
          refine b_norm ?_
          exact l_join xs7 (fun a w hE hm => ⟨v8, hE.sub ⟨rfl, rfl, rfl, rfl, trivial⟩, (hm.pick [0, 1] rfl)⟩)
      · rintro xs16 a w ⟨v17, hE, hm⟩ h
        refine nx_of hE hm h ?_
        clear hE hm h
        refine c_region ?_
        refine o_mv st rfl rfl ?_
        refine o_add st rfl rfl rfl ?_; intro t28
        refine o_as st rfl rfl ?_
        refine c_nil ?_
        exact l_join (xs16, t28) (fun a w hE hm => ⟨v17, hE.sub ⟨rfl, rfl, rfl, rfl, trivial⟩, (hm.pick [0, 1] rfl)⟩)
    · refine c_exit ?_
      refine l_exit ?_
      refine l_exit ?_
      refine b_exit ?_
      refine l_then ?_
      refine c_seq ?_
      refine c_region ?_
      refine o_mv st rfl rfl ?_
      refine o_as st rfl rfl ?_
      refine c_nil ?_
      refine l_then ?_
      refine c_ret ?_
      exact l_end1 Tryd.results57 xs7 v8 (rv_t rfl) (fun w m => NewCh.of m [1] rfl (fr_cons (free_own flelGFlow) fr_nil))

set_option maxRecDepth 100000 in
set_option maxHeartbeats 8000000 in
theorem w_spec_KnownFlow {w0 : World} {F : Nat → Prop} {v1 : Value} {list_0 : (List GFlow)} {p_1 : GPacket} {now_2 : Int} {κ : Int → Prop} (hv1 : Sl elGFlow (fun b => b < w0.heap.size ∧ ¬ feet [] b) w0 v1 list_0) (h : L_spec_KnownFlow list_0 p_1 now_2 κ) :
    Calls Tryd.prog 58 #[v1, (.agg #[(.int .i64 p_1.xFrom), (.int .i64 p_1.xTo), (.int .i64 p_1.xPort), (.int .i64 p_1.xProto)]), (.int .i64 now_2)] w0 (Ret [] F w0 κ (fun (r : Int) (u : Unit) => (.int .i64 r)) (fun (r : Int) (u : Unit) => [])) := by
  refine enter (args := [v1, (.agg #[(.int .i64 p_1.xFrom), (.int .i64 p_1.xTo), (.int .i64 p_1.xPort), (.int .i64 p_1.xProto)]), (.int .i64 now_2)]) [] Tryd.func58 rfl Tryd.ntmps58 rfl [roCh elGFlow v1 list_0] (hf_cons hf_nil) (hh_cons hv1 hh_nil) (Given.nil w0).lt (Given.nil w0).disj (Given.nil w0).hold h ?_
  clear h hv1
  refine c_seq ?_
  refine c_region ?_
  refine stw (o_box rfl rfl [(.int .i64 p_1.xFrom), (.int .i64 p_1.xTo), (.int .i64 p_1.xPort), (.int .i64 p_1.xProto)] rfl ?_); intro b3
  refine o_as st rfl rfl ?_
  refine c_nil ?_
  refine l_then ?_
  refine c_seq ?_
  refine c_seq ?_
  refine c_region ?_
  refine o_as st rfl rfl ?_
  refine c_nil ?_
  refine l_then ?_
  refine c_block ?_
  refine c_loop (σ := Int) (fun (t5 : Int) (a : Act) (w : World) => Has 43 [(0, v1), (2, (.int .i64 now_2)), (4, (.pointer (some ⟨b3, 0, none⟩))), (7, (.int .i64 t5))] a ∧ Mem (fun _ => True) (feet []) w0 [cellCh b3 [(.int .i64 p_1.xFrom), (.int .i64 p_1.xTo), (.int .i64 p_1.xPort), (.int .i64 p_1.xProto)] 30, roCh elGFlow v1 list_0] w) (fun a w hE hm => ⟨hE.sub ⟨rfl, rfl, rfl, rfl, trivial⟩, (hm.pick [0, 1] rfl)⟩) ?_
  rintro nx6 t5 a w ⟨hE, hm⟩ h
  refine nx_of hE hm h ?_
  clear hE hm h
  refine c_seq ?_
  refine c_join (σ := Bool) (fun (t7 : Bool) (a : Act) (w : World) => Has 43 [(0, v1), (2, (.int .i64 now_2)), (4, (.pointer (some ⟨b3, 0, none⟩))), (7, (.int .i64 t5)), (23, (.bool t7))] a ∧ Mem (fun _ => True) (feet []) w0 [cellCh b3 [(.int .i64 p_1.xFrom), (.int .i64 p_1.xTo), (.int .i64 p_1.xPort), (.int .i64 p_1.xProto)] 30, roCh elGFlow v1 list_0] w) ?_ ?_
  · intro k8
    refine c_region ?_
    refine o_mv st rfl rfl ?_
    refine o_mv st rfl rfl ?_
    refine o_len st el26 1 rfl reads_ro rfl rfl ?_
    refine o_lss st rfl rfl rfl ?_
    refine o_mv st rfl rfl ?_
    refine st_sp (dj := 12) rfl ?_ ?_
    · refine o_mv (st_g rfl rfl) rfl rfl ?_
      refine st_gw rfl rfl (o_callP (vs := [v1]) Tryd.call47 rfl rfl (by intro w m h; exact w_spec_FlowsValid (list_0 := list_0) (m.rd0 1 rfl reads_ro) h) ?_); rintro r9 _
      refine o_pickT st rfl rfl rfl ?_
      refine o_mv st rfl rfl ?_
      refine st_sp (dj := 16) rfl ?_ ?_
      · refine o_ldc (st_g rfl rfl) (v := (.agg #[(.int .i64 p_1.xFrom), (.int .i64 p_1.xTo), (.int .i64 p_1.xPort), (.int .i64 p_1.xProto)])) 0 rfl rfl rfl ty30 rfl ?_
        refine st_gw rfl rfl (o_callP (vs := [(.agg #[(.int .i64 p_1.xFrom), (.int .i64 p_1.xTo), (.int .i64 p_1.xPort), (.int .i64 p_1.xProto)])]) Tryd.call39 rfl rfl (by intro w m h; exact w_spec_PacketValid (p_0 := p_1) h) ?_); rintro r10 _
        refine o_pickT st rfl rfl rfl ?_
        refine o_mv st rfl rfl ?_
        refine st_sp (dj := 20) rfl ?_ ?_
        · refine o_mv (st_g rfl rfl) rfl rfl ?_
          refine st_gw rfl rfl (o_callP (vs := [(.int .i64 now_2), (.int .i64 0), (.int .i64 1000000)]) Tryd.call56 rfl rfl (by intro w m h; exact w_spec_l1In (n_0 := now_2) (lo_1 := 0) (hi_2 := 1000000) h) ?_); rintro r11 _
          refine o_pickT st rfl rfl rfl ?_
          refine c_nil ?_
          exact l_join r11 (fun a w hE hm => ⟨hE.sub ⟨rfl, rfl, rfl, rfl, rfl, trivial⟩, (hm.pick [0, 1] rfl)⟩)
        · refine st_s rfl rfl rfl rfl ?_
          refine st_s rfl rfl rfl rfl ?_
          refine o_pickF st rfl rfl rfl ?_
          refine c_nil ?_
          exact l_join false (fun a w hE hm => ⟨hE.sub ⟨rfl, rfl, rfl, rfl, rfl, trivial⟩, (hm.pick [0, 1] rfl)⟩)
      · refine st_s rfl rfl rfl rfl ?_
        refine st_s rfl rfl rfl rfl ?_
        refine o_pickF st rfl rfl rfl ?_
        refine o_mv st rfl rfl ?_
        refine st_s rfl rfl rfl rfl ?_
        refine st_s rfl rfl rfl rfl ?_
        refine o_pickF st rfl rfl rfl ?_
        refine c_nil ?_
        exact l_join false (fun a w hE hm => ⟨hE.sub ⟨rfl, rfl, rfl, rfl, rfl, trivial⟩, (hm.pick [0, 1] rfl)⟩)
    · refine st_s rfl rfl rfl rfl ?_
      refine st_s rfl rfl rfl rfl ?_
      refine o_pickF st rfl rfl rfl ?_
      refine o_mv st rfl rfl ?_
      refine st_s rfl rfl rfl rfl ?_
      refine st_s rfl rfl rfl rfl ?_
      refine o_pickF st rfl rfl rfl ?_
      refine o_mv st rfl rfl ?_
      refine st_s rfl rfl rfl rfl ?_
      refine st_s rfl rfl rfl rfl ?_
      refine o_pickF st rfl rfl rfl ?_
      refine c_nil ?_
      exact l_join false (fun a w hE hm => ⟨hE.sub ⟨rfl, rfl, rfl, rfl, rfl, trivial⟩, (hm.pick [0, 1] rfl)⟩)
  · rintro t7 a w ⟨hE, hm⟩ h
    refine nx_of hE hm h ?_
    clear hE hm h
    refine c_cond rfl ?_ ?_
    · refine c_skip ?_
      refine l_then ?_
      refine c_seq ?_
      refine c_block ?_
      refine c_join (σ := Bool) (fun (t12 : Bool) (a : Act) (w : World) => Has 43 [(0, v1), (2, (.int .i64 now_2)), (4, (.pointer (some ⟨b3, 0, none⟩))), (7, (.int .i64 t5)), (41, (.bool t12))] a ∧ Mem (fun _ => True) (feet []) w0 [cellCh b3 [(.int .i64 p_1.xFrom), (.int .i64 p_1.xTo), (.int .i64 p_1.xPort), (.int .i64 p_1.xProto)] 30, roCh elGFlow v1 list_0] w) ?_ ?_
      · intro k13
        refine c_draw mixed 16 rfl [cellCh b3 [(.int .i64 p_1.xFrom), (.int .i64 p_1.xTo), (.int .i64 p_1.xPort), (.int .i64 p_1.xProto)] 30, roCh elGFlow v1 list_0] ?_
        refine o_mv (d_take (i := 0) rfl (by kernel_rfl) (by kernel_rfl) (by kernel_rfl) (fun c a d v w h => by cases d <;> exact h) (fun w m => m.pick [0, 1] rfl)) rfl rfl ?_
        refine o_mv (d_take (i := 1) rfl (by kernel_rfl) (by kernel_rfl) (by kernel_rfl) (fun c a d v w h => by cases d <;> exact h) (fun w m => m.pick [0, 1] rfl)) rfl rfl ?_
        refine o_idx (d_take (i := 2) rfl (by kernel_rfl) (by kernel_rfl) (by kernel_rfl) (fun c a d v w h => by cases d <;> exact h) (fun w m => m.pick [0, 1] rfl)) 1 rfl reads_ro rfl rfl rfl el26 ?_; intro e14 h15
        refine o_fadS (d_take (i := 3) rfl (by kernel_rfl) (by kernel_rfl) (by kernel_rfl) (fun c a d v w h => by cases d <;> exact h) (fun w m => m.pick [0, 1] rfl)) 1 rfl reads_ro h15 rfl rfl fld83_0 rfl ?_
        refine o_lds (d_take (i := 4) rfl (by kernel_rfl) (by kernel_rfl) (by kernel_rfl) (fun c a d v w h => by cases d <;> exact h) (fun w m => m.pick [0, 1] rfl)) (enc := encGFlow) (u := (.agg #[(.int .i64 e14.xWho.xFrom), (.int .i64 e14.xWho.xTo), (.int .i64 e14.xWho.xPort), (.int .i64 e14.xWho.xProto)])) 1 rfl reads_ro flelGFlow rfl h15 rfl rfl ty30 rfl ?_
        refine o_ldc (d_take (i := 5) rfl (by kernel_rfl) (by kernel_rfl) (by kernel_rfl) (fun c a d v w h => by cases d <;> exact h) (fun w m => m.pick [0, 1] rfl)) (v := (.agg #[(.int .i64 p_1.xFrom), (.int .i64 p_1.xTo), (.int .i64 p_1.xPort), (.int .i64 p_1.xProto)])) 0 rfl rfl rfl ty30 rfl ?_
        refine d_one (i := 6) rfl (by kernel_rfl) (o_callP (vs := [(.agg #[(.int .i64 e14.xWho.xFrom), (.int .i64 e14.xWho.xTo), (.int .i64 e14.xWho.xPort), (.int .i64 e14.xWho.xProto)]), (.agg #[(.int .i64 p_1.xFrom), (.int .i64 p_1.xTo), (.int .i64 p_1.xPort), (.int .i64 p_1.xProto)])]) Tryd.call88 rfl rfl (by intro w m h; exact w_spec_l19Same (a_0 := e14.xWho) (b_1 := p_1) h) ?_); rintro r16 _
        refine d_and (fun w m => m.pick [0, 1] rfl) ?_
        refine o_mv (d_take (i := 7) rfl (by kernel_rfl) (by kernel_rfl) (by kernel_rfl) (fun c a d v w h => by cases d <;> exact h) (fun w m => m.pick [0, 1] rfl)) rfl rfl ?_
        refine st_sp (dj := 33) rfl ?_ ?_
        · refine o_mv (d_takeg (i := 8) rfl (by kernel_rfl) (by kernel_rfl) (by kernel_rfl) (fun c a d v w h => by cases d <;> exact h) (fun w m => m.pick [0, 1] rfl) rfl rfl) rfl rfl ?_
          refine o_mv (d_takeg (i := 9) rfl (by kernel_rfl) (by kernel_rfl) (by kernel_rfl) (fun c a d v w h => by cases d <;> exact h) (fun w m => m.pick [0, 1] rfl) rfl rfl) rfl rfl ?_
          refine o_idx (d_takeg (i := 10) rfl (by kernel_rfl) (by kernel_rfl) (by kernel_rfl) (fun c a d v w h => by cases d <;> exact h) (fun w m => m.pick [0, 1] rfl) rfl rfl) 1 rfl reads_ro rfl rfl rfl el26 ?_; intro e17 h18
          refine o_fadS (d_takeg (i := 11) rfl (by kernel_rfl) (by kernel_rfl) (by kernel_rfl) (fun c a d v w h => by cases d <;> exact h) (fun w m => m.pick [0, 1] rfl) rfl rfl) 1 rfl reads_ro h18 rfl rfl fld83_1 rfl ?_
          refine o_lds (d_takeg (i := 12) rfl (by kernel_rfl) (by kernel_rfl) (by kernel_rfl) (fun c a d v w h => by cases d <;> exact h) (fun w m => m.pick [0, 1] rfl) rfl rfl) (enc := encGFlow) (u := (.int .i64 e17.xUntil)) 1 rfl reads_ro flelGFlow rfl h18 rfl rfl ty3 rfl ?_
          refine o_mv (d_takeg (i := 13) rfl (by kernel_rfl) (by kernel_rfl) (by kernel_rfl) (fun c a d v w h => by cases d <;> exact h) (fun w m => m.pick [0, 1] rfl) rfl rfl) rfl rfl ?_
          refine o_geq (d_takeg (i := 14) rfl (by kernel_rfl) (by kernel_rfl) (by kernel_rfl) (fun c a d v w h => by cases d <;> exact h) (fun w m => m.pick [0, 1] rfl) rfl rfl) rfl rfl rfl ?_
          refine o_pickT (d_take (i := 15) rfl (by kernel_rfl) (by kernel_rfl) (by kernel_rfl) (fun c a d v w h => by cases d <;> exact h) (fun w m => m.pick [0, 1] rfl)) rfl rfl rfl ?_
          refine d_done (by kernel_rfl) ?_
          exact l_join (decide (now_2 ≤ e17.xUntil)) (fun a w hE hm => ⟨hE.sub ⟨rfl, rfl, rfl, rfl, rfl, trivial⟩, (hm.pick [0, 1] rfl)⟩)
        · refine d_skip (i := 8) rfl (by kernel_rfl) (by kernel_rfl) (by kernel_rfl) (fun c a d v w h => by cases d <;> exact h) (fun w m => m.pick [0, 1] rfl) rfl rfl rfl rfl ?_
          refine d_skip (i := 9) rfl (by kernel_rfl) (by kernel_rfl) (by kernel_rfl) (fun c a d v w h => by cases d <;> exact h) (fun w m => m.pick [0, 1] rfl) rfl rfl rfl rfl ?_
          refine d_skip (i := 10) rfl (by kernel_rfl) (by kernel_rfl) (by kernel_rfl) (fun c a d v w h => by cases d <;> exact h) (fun w m => m.pick [0, 1] rfl) rfl rfl rfl rfl ?_
          refine d_skip (i := 11) rfl (by kernel_rfl) (by kernel_rfl) (by kernel_rfl) (fun c a d v w h => by cases d <;> exact h) (fun w m => m.pick [0, 1] rfl) rfl rfl rfl rfl ?_
          refine d_skip (i := 12) rfl (by kernel_rfl) (by kernel_rfl) (by kernel_rfl) (fun c a d v w h => by cases d <;> exact h) (fun w m => m.pick [0, 1] rfl) rfl rfl rfl rfl ?_
          refine d_skip (i := 13) rfl (by kernel_rfl) (by kernel_rfl) (by kernel_rfl) (fun c a d v w h => by cases d <;> exact h) (fun w m => m.pick [0, 1] rfl) rfl rfl rfl rfl ?_
          refine d_skip (i := 14) rfl (by kernel_rfl) (by kernel_rfl) (by kernel_rfl) (fun c a d v w h => by cases d <;> exact h) (fun w m => m.pick [0, 1] rfl) rfl rfl rfl rfl ?_
          refine o_pickF (d_take (i := 15) rfl (by kernel_rfl) (by kernel_rfl) (by kernel_rfl) (fun c a d v w h => by cases d <;> exact h) (fun w m => m.pick [0, 1] rfl)) rfl rfl rfl ?_
          refine d_done (by kernel_rfl) ?_
          exact l_join false (fun a w hE hm => ⟨hE.sub ⟨rfl, rfl, rfl, rfl, rfl, trivial⟩, (hm.pick [0, 1] rfl)⟩)
      · rintro t12 a w ⟨hE, hm⟩ h
        refine nx_of hE hm h ?_
        clear hE hm h
        refine c_cond rfl ?_ ?_
        · refine c_seq ?_
          refine c_region ?_
          refine o_mv st rfl rfl ?_
          refine o_as st rfl rfl ?_
          refine c_nil ?_
          refine l_then ?_
          refine c_ret ?_
          refine b_ret ?_
          refine l_ret ?_
          refine l_ret ?_
          refine b_ret ?_
          refine l_ret ?_
          exact l_end1 Tryd.results58 t5 () (rv_t rfl) (fun _ _ => NewCh.nil _ _ _ _)
        · refine c_skip ?_
          refine b_norm ?_
          refine l_then ?_
          refine c_region ?_
          refine o_mv st rfl rfl ?_
          refine o_add st rfl rfl rfl ?_; intro t19
          refine o_as st rfl rfl ?_
          refine c_nil ?_
          exact l_join t19 (fun a w hE hm => ⟨hE.sub ⟨rfl, rfl, rfl, rfl, trivial⟩, (hm.pick [0, 1] rfl)⟩)
    · refine c_exit ?_
      refine l_exit ?_
      refine l_exit ?_
      refine b_exit ?_
      refine l_then ?_
      refine c_seq ?_
      refine c_region ?_
      refine o_as st rfl rfl ?_
      refine c_nil ?_
      refine l_then ?_
      refine c_ret ?_
      exact l_end1 Tryd.results58 (-1) () (rv_t rfl) (fun _ _ => NewCh.nil _ _ _ _)

set_option maxRecDepth 100000 in
set_option maxHeartbeats 8000000 in
theorem w_spec_TrackFlow {w0 : World} {F : Nat → Prop} {v1 : Value} {list_0 : (List GFlow)} {p_1 : GPacket} {now_2 : Int} {life_3 : Int} {κ : ((List GFlow) × Bool) → Prop} (hv1 : Sl elGFlow (fun b => b < w0.heap.size ∧ ¬ feet [] b) w0 v1 list_0) (h : L_spec_TrackFlow list_0 p_1 now_2 life_3 κ) :
    Calls Tryd.prog 15 #[v1, (.agg #[(.int .i64 p_1.xFrom), (.int .i64 p_1.xTo), (.int .i64 p_1.xPort), (.int .i64 p_1.xProto)]), (.int .i64 now_2), (.int .i64 life_3)] w0 (Ret [] F w0 κ (fun (r : ((List GFlow) × Bool)) (u : Value) => .tuple #[u, (.bool r.2)]) (fun (r : ((List GFlow) × Bool)) (u : Value) => [ownCh elGFlow 83 u (r.1)])) := by
  refine enter (args := [v1, (.agg #[(.int .i64 p_1.xFrom), (.int .i64 p_1.xTo), (.int .i64 p_1.xPort), (.int .i64 p_1.xProto)]), (.int .i64 now_2), (.int .i64 life_3)]) [] Tryd.func15 rfl Tryd.ntmps15 rfl [roCh elGFlow v1 list_0] (hf_cons hf_nil) (hh_cons hv1 hh_nil) (Given.nil w0).lt (Given.nil w0).disj (Given.nil w0).hold h ?_
  clear h hv1
  refine c_seq ?_
  refine c_region ?_
  refine stw (o_box rfl rfl [(.int .i64 p_1.xFrom), (.int .i64 p_1.xTo), (.int .i64 p_1.xPort), (.int .i64 p_1.xProto)] rfl ?_); intro b3
  refine stw (o_asn elGFlow 83 rfl rfl ?_)
  refine o_as st rfl rfl ?_
  refine c_nil ?_
  refine l_then ?_
  refine c_seq ?_
  refine c_join (σ := Bool) (fun (t6 : Bool) (a : Act) (w : World) => Has 61 [(0, v1), (2, (.int .i64 now_2)), (3, (.int .i64 life_3)), (5, (.pointer (some ⟨b3, 0, none⟩))), (30, (.bool t6))] a ∧ Mem (fun _ => True) (feet []) w0 [cellCh b3 [(.int .i64 p_1.xFrom), (.int .i64 p_1.xTo), (.int .i64 p_1.xPort), (.int .i64 p_1.xProto)] 30, roCh elGFlow v1 list_0] w) ?_ ?_
  · intro k7
    refine c_region ?_
    refine o_mv st rfl rfl ?_
    refine stw (o_callP (vs := [v1]) Tryd.call47 rfl rfl (by intro w m h; exact w_spec_FlowsValid (list_0 := list_0) (m.rd0 2 rfl reads_ro) h) ?_); rintro r8 _
    refine o_not st rfl rfl ?_
    refine o_mv st rfl rfl ?_
    refine st_sp (dj := 16) rfl ?_ ?_
    · refine st_s rfl rfl rfl rfl ?_
      refine st_s rfl rfl rfl rfl ?_
      refine st_s rfl rfl rfl rfl ?_
      refine o_pickT st rfl rfl rfl ?_
      refine o_mv st rfl rfl ?_
      refine st_s rfl rfl rfl rfl ?_
      refine st_s rfl rfl rfl rfl ?_
      refine st_s rfl rfl rfl rfl ?_
      refine o_pickT st rfl rfl rfl ?_
      refine o_mv st rfl rfl ?_
      refine st_s rfl rfl rfl rfl ?_
      refine st_s rfl rfl rfl rfl ?_
      refine st_s rfl rfl rfl rfl ?_
      refine o_pickT st rfl rfl rfl ?_
      refine c_nil ?_
      exact l_join true (fun a w hE hm => ⟨hE.sub ⟨rfl, rfl, rfl, rfl, rfl, trivial⟩, (hm.pick [1, 2] rfl)⟩)
    · refine o_ldc (st_g rfl rfl) (v := (.agg #[(.int .i64 p_1.xFrom), (.int .i64 p_1.xTo), (.int .i64 p_1.xPort), (.int .i64 p_1.xProto)])) 1 rfl rfl rfl ty30 rfl ?_
      refine st_gw rfl rfl (o_callP (vs := [(.agg #[(.int .i64 p_1.xFrom), (.int .i64 p_1.xTo), (.int .i64 p_1.xPort), (.int .i64 p_1.xProto)])]) Tryd.call39 rfl rfl (by intro w m h; exact w_spec_PacketValid (p_0 := p_1) h) ?_); rintro r9 _
      refine o_not (st_g rfl rfl) rfl rfl ?_
      refine o_pickF st rfl rfl rfl ?_
      refine o_mv st rfl rfl ?_
      refine st_sp (dj := 21) rfl ?_ ?_
      · refine st_s rfl rfl rfl rfl ?_
        refine st_s rfl rfl rfl rfl ?_
        refine st_s rfl rfl rfl rfl ?_
        refine o_pickT st rfl rfl rfl ?_
        refine o_mv st rfl rfl ?_
        refine st_s rfl rfl rfl rfl ?_
        refine st_s rfl rfl rfl rfl ?_
        refine st_s rfl rfl rfl rfl ?_
        refine o_pickT st rfl rfl rfl ?_
        refine c_nil ?_
        exact l_join true (fun a w hE hm => ⟨hE.sub ⟨rfl, rfl, rfl, rfl, rfl, trivial⟩, (hm.pick [1, 2] rfl)⟩)
      · refine o_mv (st_g rfl rfl) rfl rfl ?_
        refine st_gw rfl rfl (o_callP (vs := [(.int .i64 now_2), (.int .i64 0), (.int .i64 1000000)]) Tryd.call56 rfl rfl (by intro w m h; exact w_spec_l1In (n_0 := now_2) (lo_1 := 0) (hi_2 := 1000000) h) ?_); rintro r10 _
        refine o_not (st_g rfl rfl) rfl rfl ?_
        refine o_pickF st rfl rfl rfl ?_
        refine o_mv st rfl rfl ?_
        refine st_sp (dj := 26) rfl ?_ ?_
        · refine st_s rfl rfl rfl rfl ?_
          refine st_s rfl rfl rfl rfl ?_
          refine st_s rfl rfl rfl rfl ?_
          refine o_pickT st rfl rfl rfl ?_
          refine c_nil ?_
          exact l_join true (fun a w hE hm => ⟨hE.sub ⟨rfl, rfl, rfl, rfl, rfl, trivial⟩, (hm.pick [1, 2] rfl)⟩)
        · refine o_mv (st_g rfl rfl) rfl rfl ?_
          refine st_gw rfl rfl (o_callP (vs := [(.int .i64 life_3), (.int .i64 0), (.int .i64 1000)]) Tryd.call56 rfl rfl (by intro w m h; exact w_spec_l1In (n_0 := life_3) (lo_1 := 0) (hi_2 := 1000) h) ?_); rintro r11 _
          refine o_not (st_g rfl rfl) rfl rfl ?_
          refine o_pickF st rfl rfl rfl ?_
          refine c_nil ?_
          exact l_join (!r11) (fun a w hE hm => ⟨hE.sub ⟨rfl, rfl, rfl, rfl, rfl, trivial⟩, (hm.pick [1, 2] rfl)⟩)
  · rintro t6 a w ⟨hE, hm⟩ h
    refine nx_of hE hm h ?_
    clear hE hm h
    refine c_cond rfl ?_ ?_
    · refine c_seq ?_
      refine c_region ?_
      refine stw (o_bsl (enc := encGFlow) (qs := []) (cells := []) ([]) flelGFlow (by intro ρ h; simp only [List.map_toArray, List.map_cons, List.map_nil]) rfl el26 zero83 rfl rfl rfl rfl rfl rfl ?_); intro v12
      refine o_as st rfl rfl ?_
      refine o_as st rfl rfl ?_
      refine c_nil ?_
      refine l_then ?_
      refine c_ret ?_
      refine l_ret ?_
      exact l_end2 Tryd.results15 ([], false) v12 (rv_t rfl) (rv_t rfl) rfl (fun w m => NewCh.of m [0] rfl (fr_cons (free_own flelGFlow) fr_nil))
    · refine c_skip ?_
      refine l_then ?_
      refine c_seq ?_
      refine c_region ?_
      refine o_mv st rfl rfl ?_
      refine o_mv st rfl rfl ?_
      refine stw (o_callP (vs := [v1, (.int .i64 now_2)]) Tryd.call57 rfl rfl (by intro w m h; exact w_spec_ExpireFlows (list_0 := list_0) (now_1 := now_2) (m.rd0 1 rfl reads_ro) h) ?_); rintro r14 v15
      refine o_as st rfl rfl ?_
      refine c_nil ?_
      refine l_then ?_
      refine c_seq ?_
      refine c_region ?_
      refine o_mv st rfl rfl ?_
      refine o_mv st rfl rfl ?_
      refine o_add st rfl rfl rfl ?_; intro t17
      refine o_min st rfl rfl rfl ?_
      refine o_as st rfl rfl ?_
      refine c_nil ?_
      refine l_then ?_
      refine c_seq ?_
      refine c_region ?_
      refine o_mv st rfl rfl ?_
      refine o_ldc st (v := (.agg #[(.int .i64 p_1.xFrom), (.int .i64 p_1.xTo), (.int .i64 p_1.xPort), (.int .i64 p_1.xProto)])) 1 rfl rfl rfl ty30 rfl ?_
      refine o_mv st rfl rfl ?_
      refine stw (o_callP (vs := [v15, (.agg #[(.int .i64 p_1.xFrom), (.int .i64 p_1.xTo), (.int .i64 p_1.xPort), (.int .i64 p_1.xProto)]), (.int .i64 now_2)]) Tryd.call58 rfl rfl (by intro w m h; exact w_spec_KnownFlow (list_0 := r14) (p_1 := p_1) (now_2 := now_2) (m.rd0 0 rfl reads_own) h) ?_); rintro r18 _
      refine o_as st rfl rfl ?_
      refine c_nil ?_
      refine l_then ?_
      refine c_seq ?_
      refine c_seq ?_
      refine c_region ?_
      refine o_mv st rfl rfl ?_
      refine o_geq st rfl rfl rfl ?_
      refine c_nil ?_
      refine l_then ?_
      refine c_cond rfl ?_ ?_
      · refine c_seq ?_
        refine c_region ?_
        refine o_mv st rfl rfl ?_
        refine o_mv st rfl rfl ?_
        refine o_mv st rfl rfl ?_
        refine o_idx st 0 rfl reads_own rfl rfl rfl el26 ?_; intro e19 h20
        refine o_fadS st 0 rfl reads_own h20 rfl rfl fld83_1 rfl ?_
        refine stw (o_sts (enc := encGFlow) (y' := (GFlow.mk e19.xWho (min 1000000 t17))) 0 rfl flelGFlow rfl h20 ty3 rfl rfl rfl rfl rfl rfl ?_)
        refine c_nil ?_
        refine l_then ?_
        refine c_seq ?_
        refine c_region ?_
        refine o_mv st rfl rfl ?_
        refine o_as st rfl rfl ?_
        refine o_as st rfl rfl ?_
        refine c_nil ?_
        refine l_then ?_
        refine c_ret ?_
        refine l_ret ?_
        exact l_end2 Tryd.results15 ((r14.set r18.toNat (GFlow.mk e19.xWho (min 1000000 t17))), true) v15 (rv_t rfl) (rv_t rfl) rfl (fun w m => NewCh.of m [0] rfl (fr_cons (free_own flelGFlow) fr_nil))
      · refine c_skip ?_
        refine l_then ?_
        refine c_seq ?_
        refine c_seq ?_
        refine c_region ?_
        refine o_mv st rfl rfl ?_
        refine o_len st el26 0 rfl reads_own rfl rfl ?_
        refine o_eql st und3 rfl rfl rfl ?_
        refine c_nil ?_
        refine l_then ?_
        refine c_cond rfl ?_ ?_
        · refine c_seq ?_
          refine c_region ?_
          refine o_mv st rfl rfl ?_
          refine o_as st rfl rfl ?_
          refine o_as st rfl rfl ?_
          refine c_nil ?_
          refine l_then ?_
          refine c_ret ?_
          refine l_ret ?_
          exact l_end2 Tryd.results15 (r14, false) v15 (rv_t rfl) (rv_t rfl) rfl (fun w m => NewCh.of m [0] rfl (fr_cons (free_own flelGFlow) fr_nil))
        · refine c_skip ?_
          refine l_then ?_
          refine c_seq ?_
          refine c_region ?_
          refine o_mv st rfl rfl ?_
          refine o_ldc st (v := (.agg #[(.int .i64 p_1.xFrom), (.int .i64 p_1.xTo), (.int .i64 p_1.xPort), (.int .i64 p_1.xProto)])) 1 rfl rfl rfl ty30 rfl ?_
          refine o_mv st rfl rfl ?_
          refine o_bld st (qs := [(0, (.agg #[(.int .i64 p_1.xFrom), (.int .i64 p_1.xTo), (.int .i64 p_1.xPort), (.int .i64 p_1.xProto)])), (1, (.int .i64 (min 1000000 t17)))]) (cells := [(.int .i64 p_1.xFrom), (.int .i64 p_1.xTo), (.int .i64 p_1.xPort), (.int .i64 p_1.xProto), (.int .i64 (min 1000000 t17))]) (by intro ρ h; simp only [List.map_toArray, List.map_cons, List.map_nil, h (.tmp 56) _ rfl, h (.tmp 57) _ rfl]) rfl bld83 rfl ?_
          refine stw (o_bsl (enc := encGFlow) (qs := [(0, (.agg #[(.int .i64 p_1.xFrom), (.int .i64 p_1.xTo), (.int .i64 p_1.xPort), (.int .i64 p_1.xProto), (.int .i64 (min 1000000 t17))]))]) (cells := [(.int .i64 p_1.xFrom), (.int .i64 p_1.xTo), (.int .i64 p_1.xPort), (.int .i64 p_1.xProto), (.int .i64 (min 1000000 t17))]) ([(GFlow.mk p_1 (min 1000000 t17))]) flelGFlow (by intro ρ h; simp only [List.map_toArray, List.map_cons, List.map_nil, h (.tmp 58) _ rfl]) rfl el26 zero83 rfl rfl rfl rfl rfl rfl ?_); intro v22
          refine stw (o_app 1 0 rfl rfl reads_own (.inr flelGFlow.free) rfl rfl rfl el26 rfl zero83 rfl rfl ?_); intro v24
          refine o_as st rfl rfl ?_
          refine o_as st rfl rfl ?_
          refine c_nil ?_
          refine l_then ?_
          refine c_ret ?_
          exact l_end2 Tryd.results15 ((r14 ++ ([(GFlow.mk p_1 (min 1000000 t17))])), true) v24 (rv_t rfl) (rv_t rfl) rfl (fun w m => NewCh.of m [1] rfl (fr_cons (free_own flelGFlow) fr_nil))

set_option maxRecDepth 100000 in
set_option maxHeartbeats 8000000 in
theorem w_laws_toPacket {w0 : World} {F : Nat → Prop} {a_0 : GPacket} {κ : GPacket → Prop} (h : L_laws_toPacket a_0 κ) :
    Calls Tryd.prog 17 #[(.agg #[(.int .i64 a_0.xFrom), (.int .i64 a_0.xTo), (.int .i64 a_0.xPort), (.int .i64 a_0.xProto)])] w0 (Ret [] F w0 κ (fun (r : GPacket) (u : Unit) => (.agg #[(.int .i64 r.xFrom), (.int .i64 r.xTo), (.int .i64 r.xPort), (.int .i64 r.xProto)])) (fun (r : GPacket) (u : Unit) => [])) := by
  refine enter (args := [(.agg #[(.int .i64 a_0.xFrom), (.int .i64 a_0.xTo), (.int .i64 a_0.xPort), (.int .i64 a_0.xProto)])]) [] Tryd.func17 rfl Tryd.ntmps17 rfl [] hf_nil hh_nil (Given.nil w0).lt (Given.nil w0).disj (Given.nil w0).hold h ?_
  clear h
  refine c_seq ?_
  refine c_region ?_
  refine stw (o_box rfl rfl [(.int .i64 a_0.xFrom), (.int .i64 a_0.xTo), (.int .i64 a_0.xPort), (.int .i64 a_0.xProto)] rfl ?_); intro b1
  refine stw (o_alloc rfl [(.int .i64 0), (.int .i64 0), (.int .i64 0), (.int .i64 0)] zero30 ?_); intro b3
  refine c_nil ?_
  refine l_then ?_
  refine c_seq ?_
  refine c_region ?_
  refine stw (o_alloc rfl [(.int .i64 0), (.int .i64 0), (.int .i64 0), (.int .i64 0)] zero30 ?_); intro b5
  refine c_nil ?_
  refine l_then ?_
  refine c_seq ?_
  refine c_region ?_
  refine o_fad st rfl rfl fld24_0 rfl ?_
  refine o_ldc st (v := (.int .i64 a_0.xFrom)) 2 rfl rfl rfl ty3 rfl ?_
  refine o_fad st rfl rfl fld30_0 rfl ?_
  refine stw (o_stc (cs' := [(.int .i64 a_0.xFrom), (.int .i64 0), (.int .i64 0), (.int .i64 0)]) 0 rfl rfl rfl ty3 rfl rfl rfl rfl ?_)
  refine c_nil ?_
  refine l_then ?_
  refine c_seq ?_
  refine c_region ?_
  refine o_fad st rfl rfl fld24_1 rfl ?_
  refine o_ldc st (v := (.int .i64 a_0.xTo)) 2 rfl rfl rfl ty3 rfl ?_
  refine o_fad st rfl rfl fld30_1 rfl ?_
  refine stw (o_stc (cs' := [(.int .i64 a_0.xFrom), (.int .i64 a_0.xTo), (.int .i64 0), (.int .i64 0)]) 0 rfl rfl rfl ty3 rfl rfl rfl rfl ?_)
  refine c_nil ?_
  refine l_then ?_
  refine c_seq ?_
  refine c_region ?_
  refine o_fad st rfl rfl fld24_2 rfl ?_
  refine o_ldc st (v := (.int .i64 a_0.xPort)) 2 rfl rfl rfl ty3 rfl ?_
  refine o_fad st rfl rfl fld30_2 rfl ?_
  refine stw (o_stc (cs' := [(.int .i64 a_0.xFrom), (.int .i64 a_0.xTo), (.int .i64 a_0.xPort), (.int .i64 0)]) 0 rfl rfl rfl ty3 rfl rfl rfl rfl ?_)
  refine c_nil ?_
  refine l_then ?_
  refine c_seq ?_
  refine c_region ?_
  refine o_fad st rfl rfl fld24_3 rfl ?_
  refine o_ldc st (v := (.int .i64 a_0.xProto)) 2 rfl rfl rfl ty3 rfl ?_
  refine o_fad st rfl rfl fld30_3 rfl ?_
  refine stw (o_stc (cs' := [(.int .i64 a_0.xFrom), (.int .i64 a_0.xTo), (.int .i64 a_0.xPort), (.int .i64 a_0.xProto)]) 0 rfl rfl rfl ty3 rfl rfl rfl rfl ?_)
  refine c_nil ?_
  refine l_then ?_
  refine c_seq ?_
  refine c_region ?_
  refine o_ldc st (v := (.agg #[(.int .i64 a_0.xFrom), (.int .i64 a_0.xTo), (.int .i64 a_0.xPort), (.int .i64 a_0.xProto)])) 0 rfl rfl rfl ty30 rfl ?_
  refine stw (o_stc (cs' := [(.int .i64 a_0.xFrom), (.int .i64 a_0.xTo), (.int .i64 a_0.xPort), (.int .i64 a_0.xProto)]) 1 rfl rfl rfl ty30 rfl rfl rfl rfl ?_)
  refine c_nil ?_
  refine l_then ?_
  refine c_ret ?_
  exact l_end1 Tryd.results17 a_0 () (rv_c 1 rfl rfl ty30 rfl) (fun _ _ => NewCh.nil _ _ _ _)

set_option maxRecDepth 100000 in
set_option maxHeartbeats 8000000 in
theorem w_laws_toFlow {w0 : World} {F : Nat → Prop} {a_0 : GFlow} {κ : GFlow → Prop} (h : L_laws_toFlow a_0 κ) :
    Calls Tryd.prog 59 #[(.agg #[(.int .i64 a_0.xWho.xFrom), (.int .i64 a_0.xWho.xTo), (.int .i64 a_0.xWho.xPort), (.int .i64 a_0.xWho.xProto), (.int .i64 a_0.xUntil)])] w0 (Ret [] F w0 κ (fun (r : GFlow) (u : Unit) => (.agg #[(.int .i64 r.xWho.xFrom), (.int .i64 r.xWho.xTo), (.int .i64 r.xWho.xPort), (.int .i64 r.xWho.xProto), (.int .i64 r.xUntil)])) (fun (r : GFlow) (u : Unit) => [])) := by
  refine enter (args := [(.agg #[(.int .i64 a_0.xWho.xFrom), (.int .i64 a_0.xWho.xTo), (.int .i64 a_0.xWho.xPort), (.int .i64 a_0.xWho.xProto), (.int .i64 a_0.xUntil)])]) [] Tryd.func59 rfl Tryd.ntmps59 rfl [] hf_nil hh_nil (Given.nil w0).lt (Given.nil w0).disj (Given.nil w0).hold h ?_
  clear h
  refine c_seq ?_
  refine c_region ?_
  refine stw (o_box rfl rfl [(.int .i64 a_0.xWho.xFrom), (.int .i64 a_0.xWho.xTo), (.int .i64 a_0.xWho.xPort), (.int .i64 a_0.xWho.xProto), (.int .i64 a_0.xUntil)] rfl ?_); intro b1
  refine stw (o_alloc rfl [(.int .i64 0), (.int .i64 0), (.int .i64 0), (.int .i64 0), (.int .i64 0)] zero83 ?_); intro b3
  refine c_nil ?_
  refine l_then ?_
  refine c_seq ?_
  refine c_region ?_
  refine stw (o_alloc rfl [(.int .i64 0), (.int .i64 0), (.int .i64 0), (.int .i64 0), (.int .i64 0)] zero83 ?_); intro b5
  refine c_nil ?_
  refine l_then ?_
  refine c_seq ?_
  refine c_region ?_
  refine o_fad st rfl rfl fld86_0 rfl ?_
  refine o_ldc st (v := (.agg #[(.int .i64 a_0.xWho.xFrom), (.int .i64 a_0.xWho.xTo), (.int .i64 a_0.xWho.xPort), (.int .i64 a_0.xWho.xProto)])) 2 rfl rfl rfl ty24 rfl ?_
  refine stw (o_callP (vs := [(.agg #[(.int .i64 a_0.xWho.xFrom), (.int .i64 a_0.xWho.xTo), (.int .i64 a_0.xWho.xPort), (.int .i64 a_0.xWho.xProto)])]) Tryd.call17 rfl rfl (by intro w m h; exact w_laws_toPacket (a_0 := a_0.xWho) h) ?_); rintro r7 _
  refine o_fad st rfl rfl fld83_0 rfl ?_
  refine stw (o_stc (cs' := [(.int .i64 r7.xFrom), (.int .i64 r7.xTo), (.int .i64 r7.xPort), (.int .i64 r7.xProto), (.int .i64 0)]) 0 rfl rfl rfl ty30 rfl rfl rfl rfl ?_)
  refine c_nil ?_
  refine l_then ?_
  refine c_seq ?_
  refine c_region ?_
  refine o_fad st rfl rfl fld86_1 rfl ?_
  refine o_ldc st (v := (.int .i64 a_0.xUntil)) 2 rfl rfl rfl ty3 rfl ?_
  refine o_fad st rfl rfl fld83_1 rfl ?_
  refine stw (o_stc (cs' := [(.int .i64 r7.xFrom), (.int .i64 r7.xTo), (.int .i64 r7.xPort), (.int .i64 r7.xProto), (.int .i64 a_0.xUntil)]) 0 rfl rfl rfl ty3 rfl rfl rfl rfl ?_)
  refine c_nil ?_
  refine l_then ?_
  refine c_seq ?_
  refine c_region ?_
  refine o_ldc st (v := (.agg #[(.int .i64 r7.xFrom), (.int .i64 r7.xTo), (.int .i64 r7.xPort), (.int .i64 r7.xProto), (.int .i64 a_0.xUntil)])) 0 rfl rfl rfl ty83 rfl ?_
  refine stw (o_stc (cs' := [(.int .i64 r7.xFrom), (.int .i64 r7.xTo), (.int .i64 r7.xPort), (.int .i64 r7.xProto), (.int .i64 a_0.xUntil)]) 1 rfl rfl rfl ty83 rfl rfl rfl rfl ?_)
  refine c_nil ?_
  refine l_then ?_
  refine c_ret ?_
  exact l_end1 Tryd.results59 (GFlow.mk r7 a_0.xUntil) () (rv_c 1 rfl rfl ty83 rfl) (fun _ _ => NewCh.nil _ _ _ _)

set_option maxRecDepth 100000 in
set_option maxHeartbeats 8000000 in
theorem w_laws_toFlowS {w0 : World} {F : Nat → Prop} {v1 : Value} {a_0 : (List GFlow)} {κ : (List GFlow) → Prop} (hv1 : Sl elGFlow (fun b => b < w0.heap.size ∧ ¬ feet [] b) w0 v1 a_0) (h : L_laws_toFlowS a_0 κ) :
    Calls Tryd.prog 16 #[v1] w0 (Ret [] F w0 κ (fun (r : (List GFlow)) (u : Value) => u) (fun (r : (List GFlow)) (u : Value) => [ownCh elGFlow 83 u (r)])) := by
  refine enter (args := [v1]) [] Tryd.func16 rfl Tryd.ntmps16 rfl [roCh elGFlow v1 a_0] (hf_cons hf_nil) (hh_cons hv1 hh_nil) (Given.nil w0).lt (Given.nil w0).disj (Given.nil w0).hold h ?_
  clear h hv1
  refine c_seq ?_
  refine c_region ?_
  refine stw (o_asn elGFlow 83 rfl rfl ?_)
  refine c_nil ?_
  refine l_then ?_
  refine c_seq ?_
  refine c_region ?_
  refine o_mv st rfl rfl ?_
  refine o_len st el22 1 rfl reads_ro rfl rfl ?_
  refine stw (o_make (z := (GFlow.mk (GPacket.mk 0 0 0 0) 0)) flelGFlow rfl rfl rfl el26 rfl zero83 rfl rfl ?_); intro v4 xs5
  refine o_as st rfl rfl ?_
  refine c_nil ?_
  refine l_then ?_
  refine c_seq ?_
  refine c_seq ?_
  refine c_region ?_
  refine o_as st rfl rfl ?_
  refine c_nil ?_
  refine l_then ?_
  refine c_block ?_
  refine c_loop (σ := ((List GFlow) × Int)) (fun ((xs7, t9) : ((List GFlow) × Int)) (a : Act) (w : World) => Has 23 [(0, v1), (3, v4), (4, (.int .i64 t9))] a ∧ Mem (fun _ => True) (feet []) w0 [ownCh elGFlow 83 v4 xs7, roCh elGFlow v1 a_0] w) (fun a w hE hm => ⟨hE.sub ⟨rfl, rfl, rfl, trivial⟩, (hm.pick [0, 2] rfl)⟩) ?_
  rintro nx10 ⟨xs7, t9⟩ a w ⟨hE, hm⟩ h
  refine nx_of hE hm h ?_
  clear hE hm h
  refine c_seq ?_
  refine c_seq ?_
  refine c_region ?_
  refine o_mv st rfl rfl ?_
  refine o_mv st rfl rfl ?_
  refine o_len st el22 1 rfl reads_ro rfl rfl ?_
  refine o_lss st rfl rfl rfl ?_
  refine c_nil ?_
  refine l_then ?_
  refine c_cond rfl ?_ ?_
  · refine c_skip ?_
    refine l_then ?_
    refine c_seq ?_
    refine c_block ?_
    refine c_region ?_
    refine o_mv st rfl rfl ?_
    refine o_mv st rfl rfl ?_
    refine o_mv st rfl rfl ?_
    refine o_mv st rfl rfl ?_
    refine o_idx st 1 rfl reads_ro rfl rfl rfl el22 ?_; intro e11 h12
    refine o_lds st (enc := encGFlow) (u := (.agg #[(.int .i64 e11.xWho.xFrom), (.int .i64 e11.xWho.xTo), (.int .i64 e11.xWho.xPort), (.int .i64 e11.xWho.xProto), (.int .i64 e11.xUntil)])) 1 rfl reads_ro flelGFlow rfl h12 rfl rfl ty86 rfl ?_
    refine stw (o_callP (vs := [(.agg #[(.int .i64 e11.xWho.xFrom), (.int .i64 e11.xWho.xTo), (.int .i64 e11.xWho.xPort), (.int .i64 e11.xWho.xProto), (.int .i64 e11.xUntil)])]) Tryd.call59 rfl rfl (by intro w m h; exact w_laws_toFlow (a_0 := e11) h) ?_); rintro r13 _
    refine o_idx st 0 rfl reads_own rfl rfl rfl el26 ?_; intro e14 h15
    refine stw (o_sts (enc := encGFlow) (y' := r13) 0 rfl flelGFlow rfl h15 ty83 rfl rfl rfl rfl rfl rfl ?_)
    refine c_nil ?_
    refine b_norm ?_
    refine l_then ?_
    refine c_region ?_
    refine o_mv st rfl rfl ?_
    refine o_add st rfl rfl rfl ?_; intro t17
    refine o_as st rfl rfl ?_
    refine c_nil ?_
    exact l_join ((xs7.set t9.toNat r13), t17) (fun a w hE hm => ⟨hE.sub ⟨rfl, rfl, rfl, trivial⟩, (hm.pick [0, 1] rfl)⟩)
  · refine c_exit ?_
    refine l_exit ?_
    refine l_exit ?_
    refine b_exit ?_
    refine l_then ?_
    refine c_seq ?_
    refine c_region ?_
    refine o_mv st rfl rfl ?_
    refine o_as st rfl rfl ?_
    refine c_nil ?_
    refine l_then ?_
    refine c_ret ?_
    exact l_end1 Tryd.results16 xs7 v4 (rv_t rfl) (fun w m => NewCh.of m [0] rfl (fr_cons (free_own flelGFlow) fr_nil))

set_option maxRecDepth 100000 in
set_option maxHeartbeats 8000000 in
theorem w_impl_Packet_fields {w0 : World} {F : Nat → Prop} {p_0 : GPacket} {κ : A4Int → Prop} (h : L_impl_Packet_fields p_0 κ) :
    Calls Tryd.prog 91 #[(.agg #[(.int .i64 p_0.xFrom), (.int .i64 p_0.xTo), (.int .i64 p_0.xPort), (.int .i64 p_0.xProto)])] w0 (Ret [] F w0 κ (fun (r : A4Int) (u : Unit) => (.agg #[(.int .i64 r.x0), (.int .i64 r.x1), (.int .i64 r.x2), (.int .i64 r.x3)])) (fun (r : A4Int) (u : Unit) => [])) := by
  refine enter (args := [(.agg #[(.int .i64 p_0.xFrom), (.int .i64 p_0.xTo), (.int .i64 p_0.xPort), (.int .i64 p_0.xProto)])]) [] Tryd.func91 rfl Tryd.ntmps91 rfl [] hf_nil hh_nil (Given.nil w0).lt (Given.nil w0).disj (Given.nil w0).hold h ?_
  clear h
  refine c_seq ?_
  refine c_region ?_
  refine stw (o_box rfl rfl [(.int .i64 p_0.xFrom), (.int .i64 p_0.xTo), (.int .i64 p_0.xPort), (.int .i64 p_0.xProto)] rfl ?_); intro b1
  refine stw (o_alloc rfl [(.int .i64 0), (.int .i64 0), (.int .i64 0), (.int .i64 0)] zero124 ?_); intro b3
  refine c_nil ?_
  refine l_then ?_
  refine c_seq ?_
  refine c_region ?_
  refine o_fad st rfl rfl fld30_0 rfl ?_
  refine o_ldc st (v := (.int .i64 p_0.xFrom)) 1 rfl rfl rfl ty3 rfl ?_
  refine o_fad st rfl rfl fld30_1 rfl ?_
  refine o_ldc st (v := (.int .i64 p_0.xTo)) 1 rfl rfl rfl ty3 rfl ?_
  refine o_fad st rfl rfl fld30_2 rfl ?_
  refine o_ldc st (v := (.int .i64 p_0.xPort)) 1 rfl rfl rfl ty3 rfl ?_
  refine o_fad st rfl rfl fld30_3 rfl ?_
  refine o_ldc st (v := (.int .i64 p_0.xProto)) 1 rfl rfl rfl ty3 rfl ?_
  refine o_bldA st (qs := [(0, (.int .i64 p_0.xFrom)), (1, (.int .i64 p_0.xTo)), (2, (.int .i64 p_0.xPort)), (3, (.int .i64 p_0.xProto))]) (cells := [(.int .i64 p_0.xFrom), (.int .i64 p_0.xTo), (.int .i64 p_0.xPort), (.int .i64 p_0.xProto)]) (by intro ρ h; simp only [List.map_toArray, List.map_cons, List.map_nil, h (.tmp 4) _ rfl, h (.tmp 6) _ rfl, h (.tmp 8) _ rfl, h (.tmp 10) _ rfl]) rfl bld124 rfl ?_
  refine stw (o_stc (cs' := [(.int .i64 p_0.xFrom), (.int .i64 p_0.xTo), (.int .i64 p_0.xPort), (.int .i64 p_0.xProto)]) 0 rfl rfl rfl ty124 rfl rfl rfl rfl ?_)
  refine c_nil ?_
  refine l_then ?_
  refine c_ret ?_
  exact l_end1 Tryd.results91 (A4Int.mk p_0.xFrom p_0.xTo p_0.xPort p_0.xProto) () (rv_c 0 rfl rfl ty124 rfl) (fun _ _ => NewCh.nil _ _ _ _)

set_option maxRecDepth 100000 in
set_option maxHeartbeats 8000000 in
theorem w_impl_FieldTop {w0 : World} {F : Nat → Prop} {n_0 : Int} {κ : Int → Prop} (hgl0 : Sl elGFieldShape (fun b => b < w0.heap.size ∧ ¬ feet [] b) w0 (.slice (some ⟨0, 0, none⟩) 4 4) gl_impl_fieldShapes) (h : L_impl_FieldTop n_0 κ) :
    Calls Tryd.prog 92 #[(.int .i64 n_0)] w0 (Ret [] F w0 κ (fun (r : Int) (u : Unit) => (.int .i64 r)) (fun (r : Int) (u : Unit) => [])) := by
  refine enter (args := [(.int .i64 n_0)]) [] Tryd.func92 rfl Tryd.ntmps92 rfl [roCh elGFieldShape (.slice (some ⟨0, 0, none⟩) 4 4) gl_impl_fieldShapes] (hf_cons hf_nil) (hh_cons hgl0 hh_nil) (Given.nil w0).lt (Given.nil w0).disj (Given.nil w0).hold h ?_
  clear h hgl0
  refine c_seq ?_
  refine c_region ?_
  refine o_as st rfl rfl ?_
  refine c_nil ?_
  refine l_then ?_
  refine c_seq ?_
  refine c_join (σ := Bool) (fun (t1 : Bool) (a : Act) (w : World) => Has 13 [(0, (.int .i64 n_0)), (8, (.bool t1))] a ∧ Mem (fun _ => True) (feet []) w0 [roCh elGFieldShape (.slice (some ⟨0, 0, none⟩) 4 4) gl_impl_fieldShapes] w) ?_ ?_
  · intro k2
    refine c_region ?_
    refine o_mv st rfl rfl ?_
    refine o_lss st rfl rfl rfl ?_
    refine o_mv st rfl rfl ?_
    refine st_sp (dj := 5) rfl ?_ ?_
    · refine st_s rfl rfl rfl rfl ?_
      refine st_s rfl rfl rfl rfl ?_
      refine o_pickT st rfl rfl rfl ?_
      refine c_nil ?_
      exact l_join true (fun a w hE hm => ⟨hE.sub ⟨rfl, rfl, trivial⟩, (hm.pick [0] rfl)⟩)
    · refine o_mv (st_g rfl rfl) rfl rfl ?_
      refine o_geq (st_g rfl rfl) rfl rfl rfl ?_
      refine o_pickF st rfl rfl rfl ?_
      refine c_nil ?_
      exact l_join (decide (4 ≤ n_0)) (fun a w hE hm => ⟨hE.sub ⟨rfl, rfl, trivial⟩, (hm.pick [0] rfl)⟩)
  · rintro t1 a w ⟨hE, hm⟩ h
    refine nx_of hE hm h ?_
    clear hE hm h
    refine c_cond rfl ?_ ?_
    · refine c_seq ?_
      refine c_region ?_
      refine o_as st rfl rfl ?_
      refine c_nil ?_
      refine l_then ?_
      refine c_ret ?_
      refine l_ret ?_
      exact l_end1 Tryd.results92 (-1) () (rv_t rfl) (fun _ _ => NewCh.nil _ _ _ _)
    · refine c_skip ?_
      refine l_then ?_
      refine c_seq ?_
      refine c_region ?_
      refine o_mv st rfl rfl ?_
      refine o_ixa st 0 rfl reads_ro rfl rfl rfl arr152 ?_; intro e3 h4
      refine o_fadS st 0 rfl reads_ro h4 rfl rfl fld151_1 rfl ?_
      refine o_lds st (enc := encGFieldShape) (u := (.int .i64 e3.xTop)) 0 rfl reads_ro flelGFieldShape rfl h4 rfl rfl ty3 rfl ?_
      refine o_as st rfl rfl ?_
      refine c_nil ?_
      refine l_then ?_
      refine c_ret ?_
      exact l_end1 Tryd.results92 e3.xTop () (rv_t rfl) (fun _ _ => NewCh.nil _ _ _ _)

set_option maxRecDepth 100000 in
set_option maxHeartbeats 8000000 in
theorem w_impl_PacketValid {w0 : World} {F : Nat → Prop} {p_0 : GPacket} {κ : Bool → Prop} (hgl0 : Sl elGFieldShape (fun b => b < w0.heap.size ∧ ¬ feet [] b) w0 (.slice (some ⟨0, 0, none⟩) 4 4) gl_impl_fieldShapes) (h : L_impl_PacketValid p_0 κ) :
    Calls Tryd.prog 60 #[(.agg #[(.int .i64 p_0.xFrom), (.int .i64 p_0.xTo), (.int .i64 p_0.xPort), (.int .i64 p_0.xProto)])] w0 (Ret [] F w0 κ (fun (r : Bool) (u : Unit) => (.bool r)) (fun (r : Bool) (u : Unit) => [])) := by
  refine enter (args := [(.agg #[(.int .i64 p_0.xFrom), (.int .i64 p_0.xTo), (.int .i64 p_0.xPort), (.int .i64 p_0.xProto)])]) [] Tryd.func60 rfl Tryd.ntmps60 rfl [roCh elGFieldShape (.slice (some ⟨0, 0, none⟩) 4 4) gl_impl_fieldShapes] (hf_cons hf_nil) (hh_cons hgl0 hh_nil) (Given.nil w0).lt (Given.nil w0).disj (Given.nil w0).hold h ?_
  clear h hgl0
  refine c_seq ?_
  refine c_region ?_
  refine stw (o_box rfl rfl [(.int .i64 p_0.xFrom), (.int .i64 p_0.xTo), (.int .i64 p_0.xPort), (.int .i64 p_0.xProto)] rfl ?_); intro b1
  refine o_as st rfl rfl ?_
  refine c_nil ?_
  refine l_then ?_
  refine c_seq ?_
  refine c_seq ?_
  refine c_region ?_
  refine o_ldc st (v := (.agg #[(.int .i64 p_0.xFrom), (.int .i64 p_0.xTo), (.int .i64 p_0.xPort), (.int .i64 p_0.xProto)])) 0 rfl rfl rfl ty30 rfl ?_
  refine stw (o_callP (vs := [(.agg #[(.int .i64 p_0.xFrom), (.int .i64 p_0.xTo), (.int .i64 p_0.xPort), (.int .i64 p_0.xProto)])]) Tryd.call91 rfl rfl (by intro w m h; exact w_impl_Packet_fields (p_0 := p_0) h) ?_); rintro r3 _
  refine o_mv st rfl rfl ?_
  refine c_nil ?_
  refine l_then ?_
  refine c_block ?_
  refine c_loop (σ := Int) (fun (t4 : Int) (a : Act) (w : World) => Has 20 [(6, (.agg #[(.int .i64 r3.x0), (.int .i64 r3.x1), (.int .i64 r3.x2), (.int .i64 r3.x3)])), (7, (.int .i64 t4))] a ∧ Mem (fun _ => True) (feet []) w0 [roCh elGFieldShape (.slice (some ⟨0, 0, none⟩) 4 4) gl_impl_fieldShapes] w) (fun a w hE hm => ⟨hE.sub ⟨rfl, rfl, trivial⟩, (hm.pick [1] rfl)⟩) ?_
  rintro nx5 t4 a w ⟨hE, hm⟩ h
  refine nx_of hE hm h ?_
  clear hE hm h
  refine c_seq ?_
  refine c_region ?_
  refine o_lss st rfl rfl rfl ?_
  refine c_nil ?_
  refine l_then ?_
  refine c_seq ?_
  refine c_cond rfl ?_ ?_
  · refine c_skip ?_
    refine l_then ?_
    refine c_seq ?_
    refine c_block ?_
    refine c_seq ?_
    refine c_region ?_
    refine o_mv st rfl rfl ?_
    refine o_ixv st (enc := encInt) (zs := [r3.x0, r3.x1, r3.x2, r3.x3]) (u := fun (e6 : Int) => (.int .i64 e6)) rfl rfl rfl arr124 rfl rfl (fun _ => rfl) (fun _ => rfl) ?_; intro e6
    refine o_as st rfl rfl ?_
    refine o_as st rfl rfl ?_
    refine c_nil ?_
    refine l_then ?_
    refine c_join (σ := Bool) (fun (t7 : Bool) (a : Act) (w : World) => Has 20 [(6, (.agg #[(.int .i64 r3.x0), (.int .i64 r3.x1), (.int .i64 r3.x2), (.int .i64 r3.x3)])), (7, (.int .i64 t4)), (18, (.bool t7))] a ∧ Mem (fun _ => True) (feet []) w0 [roCh elGFieldShape (.slice (some ⟨0, 0, none⟩) 4 4) gl_impl_fieldShapes] w) ?_ ?_
    · intro k8
      refine c_region ?_
      refine o_mv st rfl rfl ?_
      refine o_lss st rfl rfl rfl ?_
      refine o_mv st rfl rfl ?_
      refine st_sp (dj := 13) rfl ?_ ?_
      · refine st_s rfl rfl rfl rfl ?_
        refine st_s rfl rfl rfl rfl ?_
        refine st_s rfl rfl rfl rfl ?_
        refine st_s rfl rfl rfl rfl ?_
        refine o_pickT st rfl rfl rfl ?_
        refine c_nil ?_
        exact l_join true (fun a w hE hm => ⟨hE.sub ⟨rfl, rfl, rfl, trivial⟩, (hm.pick [0] rfl)⟩)
      · refine o_mv (st_g rfl rfl) rfl rfl ?_
        refine o_mv (st_g rfl rfl) rfl rfl ?_
        refine st_gw rfl rfl (o_callP (vs := [(.int .i64 t4)]) Tryd.call92 rfl rfl (by intro w m h; exact w_impl_FieldTop (n_0 := t4) (m.rd0 0 rfl reads_ro) h) ?_); rintro r9 _
        refine o_gtr (st_g rfl rfl) rfl rfl rfl ?_
        refine o_pickF st rfl rfl rfl ?_
        refine c_nil ?_
        exact l_join (decide (r9 < e6)) (fun a w hE hm => ⟨hE.sub ⟨rfl, rfl, rfl, trivial⟩, (hm.pick [0] rfl)⟩)
    · rintro t7 a w ⟨hE, hm⟩ h
      refine nx_of hE hm h ?_
      clear hE hm h
      refine c_cond rfl ?_ ?_
      · refine c_seq ?_
        refine c_region ?_
        refine o_as st rfl rfl ?_
        refine c_nil ?_
        refine l_then ?_
        refine c_ret ?_
        refine b_ret ?_
        refine l_ret ?_
        refine l_ret ?_
        refine b_ret ?_
        refine l_ret ?_
        exact l_end1 Tryd.results60 false () (rv_t rfl) (fun _ _ => NewCh.nil _ _ _ _)
      · refine c_skip ?_
        refine b_norm ?_
        refine l_then ?_
        refine c_region ?_
        refine o_add st rfl rfl rfl ?_; intro t10
        refine o_mv st rfl rfl ?_
        refine c_nil ?_
        exact l_join t10 (fun a w hE hm => ⟨hE.sub ⟨rfl, rfl, trivial⟩, (hm.pick [0] rfl)⟩)
  · refine c_exit ?_
    refine l_exit ?_
    refine l_exit ?_
    refine b_exit ?_
    refine l_then ?_
    refine c_seq ?_
    refine c_region ?_
    refine o_as st rfl rfl ?_
    refine c_nil ?_
    refine l_then ?_
    refine c_ret ?_
    exact l_end1 Tryd.results60 true () (rv_t rfl) (fun _ _ => NewCh.nil _ _ _ _)

set_option maxRecDepth 100000 in
set_option maxHeartbeats 8000000 in
theorem w_impl_timeValid {w0 : World} {F : Nat → Prop} {now_0 : Int} {κ : Bool → Prop} (h : L_impl_timeValid now_0 κ) :
    Calls Tryd.prog 61 #[(.int .i64 now_0)] w0 (Ret [] F w0 κ (fun (r : Bool) (u : Unit) => (.bool r)) (fun (r : Bool) (u : Unit) => [])) := by
  refine enter (args := [(.int .i64 now_0)]) [] Tryd.func61 rfl Tryd.ntmps61 rfl [] hf_nil hh_nil (Given.nil w0).lt (Given.nil w0).disj (Given.nil w0).hold h ?_
  clear h
  refine c_seq ?_
  refine c_region ?_
  refine o_as st rfl rfl ?_
  refine c_nil ?_
  refine l_then ?_
  refine c_join (σ := Bool) (fun (t1 : Bool) (a : Act) (w : World) => Has 9 [(2, (.bool t1))] a ∧ Mem (fun _ => True) (feet []) w0 [] w) ?_ ?_
  · intro k2
    refine c_region ?_
    refine o_mv st rfl rfl ?_
    refine o_geq st rfl rfl rfl ?_
    refine o_mv st rfl rfl ?_
    refine st_sp (dj := 5) rfl ?_ ?_
    · refine o_mv (st_g rfl rfl) rfl rfl ?_
      refine o_leq (st_g rfl rfl) rfl rfl rfl ?_
      refine o_pickT st rfl rfl rfl ?_
      refine o_as st rfl rfl ?_
      refine c_nil ?_
      exact l_join (decide (now_0 ≤ 1000000)) (fun a w hE hm => ⟨hE.sub ⟨rfl, trivial⟩, (hm.pick [] rfl)⟩)
    · refine st_s rfl rfl rfl rfl ?_
      refine st_s rfl rfl rfl rfl ?_
      refine o_pickF st rfl rfl rfl ?_
      refine o_as st rfl rfl ?_
      refine c_nil ?_
      exact l_join false (fun a w hE hm => ⟨hE.sub ⟨rfl, trivial⟩, (hm.pick [] rfl)⟩)
  · rintro t1 a w ⟨hE, hm⟩ h
    refine nx_of hE hm h ?_
    clear hE hm h
    refine c_ret ?_
    exact l_end1 Tryd.results61 t1 () (rv_t rfl) (fun _ _ => NewCh.nil _ _ _ _)

set_option maxRecDepth 100000 in
set_option maxHeartbeats 8000000 in
theorem w_impl_Packet_reverse {w0 : World} {F : Nat → Prop} {p_0 : GPacket} {κ : GPacket → Prop} (h : L_impl_Packet_reverse p_0 κ) :
    Calls Tryd.prog 69 #[(.agg #[(.int .i64 p_0.xFrom), (.int .i64 p_0.xTo), (.int .i64 p_0.xPort), (.int .i64 p_0.xProto)])] w0 (Ret [] F w0 κ (fun (r : GPacket) (u : Unit) => (.agg #[(.int .i64 r.xFrom), (.int .i64 r.xTo), (.int .i64 r.xPort), (.int .i64 r.xProto)])) (fun (r : GPacket) (u : Unit) => [])) := by
  refine enter (args := [(.agg #[(.int .i64 p_0.xFrom), (.int .i64 p_0.xTo), (.int .i64 p_0.xPort), (.int .i64 p_0.xProto)])]) [] Tryd.func69 rfl Tryd.ntmps69 rfl [] hf_nil hh_nil (Given.nil w0).lt (Given.nil w0).disj (Given.nil w0).hold h ?_
  clear h
  refine c_seq ?_
  refine c_region ?_
  refine stw (o_box rfl rfl [(.int .i64 p_0.xFrom), (.int .i64 p_0.xTo), (.int .i64 p_0.xPort), (.int .i64 p_0.xProto)] rfl ?_); intro b1
  refine stw (o_alloc rfl [(.int .i64 0), (.int .i64 0), (.int .i64 0), (.int .i64 0)] zero30 ?_); intro b3
  refine c_nil ?_
  refine l_then ?_
  refine c_seq ?_
  refine c_region ?_
  refine o_fad st rfl rfl fld30_1 rfl ?_
  refine o_ldc st (v := (.int .i64 p_0.xTo)) 1 rfl rfl rfl ty3 rfl ?_
  refine o_fad st rfl rfl fld30_0 rfl ?_
  refine o_ldc st (v := (.int .i64 p_0.xFrom)) 1 rfl rfl rfl ty3 rfl ?_
  refine o_fad st rfl rfl fld30_0 rfl ?_
  refine stw (o_stc (cs' := [(.int .i64 p_0.xTo), (.int .i64 p_0.xTo), (.int .i64 p_0.xPort), (.int .i64 p_0.xProto)]) 1 rfl rfl rfl ty3 rfl rfl rfl rfl ?_)
  refine o_fad st rfl rfl fld30_1 rfl ?_
  refine stw (o_stc (cs' := [(.int .i64 p_0.xTo), (.int .i64 p_0.xFrom), (.int .i64 p_0.xPort), (.int .i64 p_0.xProto)]) 1 rfl rfl rfl ty3 rfl rfl rfl rfl ?_)
  refine c_nil ?_
  refine l_then ?_
  refine c_seq ?_
  refine c_region ?_
  refine o_ldc st (v := (.agg #[(.int .i64 p_0.xTo), (.int .i64 p_0.xFrom), (.int .i64 p_0.xPort), (.int .i64 p_0.xProto)])) 1 rfl rfl rfl ty30 rfl ?_
  refine stw (o_stc (cs' := [(.int .i64 p_0.xTo), (.int .i64 p_0.xFrom), (.int .i64 p_0.xPort), (.int .i64 p_0.xProto)]) 0 rfl rfl rfl ty30 rfl rfl rfl rfl ?_)
  refine c_nil ?_
  refine l_then ?_
  refine c_ret ?_
  exact l_end1 Tryd.results69 (GPacket.mk p_0.xTo p_0.xFrom p_0.xPort p_0.xProto) () (rv_c 0 rfl rfl ty30 rfl) (fun _ _ => NewCh.nil _ _ _ _)

set_option maxRecDepth 100000 in
set_option maxHeartbeats 8000000 in
theorem w_impl_indexFlows {w0 : World} {F : Nat → Prop} {v1 : Value} {list_0 : (List GFlow)} {κ : ((List (GPacket × Int)) × Bool) → Prop} (hv1 : Sl elGFlow (fun b => b < w0.heap.size ∧ ¬ feet [] b) w0 v1 list_0) (hgl0 : Sl elGFieldShape (fun b => b < w0.heap.size ∧ ¬ feet [] b) w0 (.slice (some ⟨0, 0, none⟩) 4 4) gl_impl_fieldShapes) (h : L_impl_indexFlows list_0 κ) :
    Calls Tryd.prog 71 #[v1] w0 (Ret [] F w0 κ (fun (r : ((List (GPacket × Int)) × Bool)) (u : Value) => .tuple #[u, (.bool r.2)]) (fun (r : ((List (GPacket × Int)) × Bool)) (u : Value) => [mOwn encGPacket u (r.1)])) := by
  refine enter (args := [v1]) [] Tryd.func71 rfl Tryd.ntmps71 rfl [roCh elGFlow v1 list_0, roCh elGFieldShape (.slice (some ⟨0, 0, none⟩) 4 4) gl_impl_fieldShapes] (hf_cons (hf_cons hf_nil)) (hh_cons hv1 (hh_cons hgl0 hh_nil)) (Given.nil w0).lt (Given.nil w0).disj (Given.nil w0).hold h ?_
  clear h hv1 hgl0
  refine c_seq ?_
  refine c_region ?_
  refine stw (o_asm encGPacket rfl rfl ?_)
  refine o_as st rfl rfl ?_
  refine c_nil ?_
  refine l_then ?_
  refine c_seq ?_
  refine c_seq ?_
  refine c_region ?_
  refine o_mv st rfl rfl ?_
  refine o_len st el26 1 rfl reads_ro rfl rfl ?_
  refine o_gtr st rfl rfl rfl ?_
  refine c_nil ?_
  refine l_then ?_
  refine c_cond rfl ?_ ?_
  · refine c_seq ?_
    refine c_region ?_
    refine stw (o_asm encGPacket rfl rfl ?_)
    refine o_as st rfl rfl ?_
    refine c_nil ?_
    refine l_then ?_
    refine c_ret ?_
    refine l_ret ?_
    exact l_end2 Tryd.results71 ([], false) (.map none) (rv_t rfl) (rv_t rfl) rfl (fun w m => NewCh.of m [0] rfl (fr_cons free_mown fr_nil))
  · refine c_skip ?_
    refine l_then ?_
    refine c_seq ?_
    refine c_region ?_
    refine stw (o_mkm encGPacket rfl ?_); intro b5
    refine o_as st rfl rfl ?_
    refine c_nil ?_
    refine l_then ?_
    refine c_seq ?_
    refine c_seq ?_
    refine c_region ?_
    refine o_mv st rfl rfl ?_
    refine o_len st el26 2 rfl reads_ro rfl rfl ?_
    refine o_mv st rfl rfl ?_
    refine c_nil ?_
    refine l_then ?_
    refine c_block ?_
    refine c_loop (σ := ((List (GPacket × Int)) × Int)) (fun ((xs7, t9) : ((List (GPacket × Int)) × Int)) (a : Act) (w : World) => Has 49 [(4, (.map (some b5))), (13, v1), (14, (.int .i64 (list_0.length : Int))), (15, (.int .i64 t9))] a ∧ Mem (fun _ => True) (feet []) w0 [mOwn encGPacket (.map (some b5)) xs7, roCh elGFlow v1 list_0, roCh elGFieldShape (.slice (some ⟨0, 0, none⟩) 4 4) gl_impl_fieldShapes] w) (fun a w hE hm => ⟨hE.sub ⟨rfl, rfl, rfl, rfl, trivial⟩, (hm.pick [0, 2, 3] rfl)⟩) ?_
    rintro nx10 ⟨xs7, t9⟩ a w ⟨hE, hm⟩ h
    refine nx_of hE hm h ?_
    clear hE hm h
    refine c_seq ?_
    refine c_region ?_
    refine o_lss st rfl rfl rfl ?_
    refine c_nil ?_
    refine l_then ?_
    refine c_seq ?_
    refine c_cond rfl ?_ ?_
    · refine c_skip ?_
      refine l_then ?_
      refine c_seq ?_
      refine c_block ?_
      refine c_seq ?_
      refine c_region ?_
      refine o_mv st rfl rfl ?_
      refine o_idx st 1 rfl reads_ro rfl rfl rfl el26 ?_; intro e11 h12
      refine o_lds st (enc := encGFlow) (u := (.agg #[(.int .i64 e11.xWho.xFrom), (.int .i64 e11.xWho.xTo), (.int .i64 e11.xWho.xPort), (.int .i64 e11.xWho.xProto), (.int .i64 e11.xUntil)])) 1 rfl reads_ro flelGFlow rfl h12 rfl rfl ty83 rfl ?_
      refine stw (o_alloc rfl [(.int .i64 0), (.int .i64 0), (.int .i64 0), (.int .i64 0), (.int .i64 0)] zero83 ?_); intro b13
      refine o_as st rfl rfl ?_
      refine stw (o_stc (cs' := [(.int .i64 e11.xWho.xFrom), (.int .i64 e11.xWho.xTo), (.int .i64 e11.xWho.xPort), (.int .i64 e11.xWho.xProto), (.int .i64 e11.xUntil)]) 0 rfl rfl rfl ty83 rfl rfl rfl rfl ?_)
      refine c_nil ?_
      refine l_then ?_
      refine c_seq ?_
      refine c_join (σ := Bool) (fun (t15 : Bool) (a : Act) (w : World) => Has 49 [(4, (.map (some b5))), (13, v1), (14, (.int .i64 (list_0.length : Int))), (15, (.int .i64 t9)), (6, (.pointer (some ⟨b13, 0, none⟩))), (5, (.int .i64 t9)), (29, (.bool t15))] a ∧ Mem (fun _ => True) (feet []) w0 [cellCh b13 [(.int .i64 e11.xWho.xFrom), (.int .i64 e11.xWho.xTo), (.int .i64 e11.xWho.xPort), (.int .i64 e11.xWho.xProto), (.int .i64 e11.xUntil)] 83, mOwn encGPacket (.map (some b5)) xs7, roCh elGFlow v1 list_0, roCh elGFieldShape (.slice (some ⟨0, 0, none⟩) 4 4) gl_impl_fieldShapes] w) ?_ ?_
      · intro k16
        refine c_region ?_
        refine o_fad st rfl rfl fld83_0 rfl ?_
        refine o_ldc st (v := (.agg #[(.int .i64 e11.xWho.xFrom), (.int .i64 e11.xWho.xTo), (.int .i64 e11.xWho.xPort), (.int .i64 e11.xWho.xProto)])) 0 rfl rfl rfl ty30 rfl ?_
        refine stw (o_callP (vs := [(.agg #[(.int .i64 e11.xWho.xFrom), (.int .i64 e11.xWho.xTo), (.int .i64 e11.xWho.xPort), (.int .i64 e11.xWho.xProto)])]) Tryd.call60 rfl rfl (by intro w m h; exact w_impl_PacketValid (p_0 := e11.xWho) (m.rd0 3 rfl reads_ro) h) ?_); rintro r17 _
        refine o_not st rfl rfl ?_
        refine o_mv st rfl rfl ?_
        refine st_sp (dj := 24) rfl ?_ ?_
        · refine st_s rfl rfl rfl rfl ?_
          refine st_s rfl rfl rfl rfl ?_
          refine st_s rfl rfl rfl rfl ?_
          refine st_s rfl rfl rfl rfl ?_
          refine o_pickT st rfl rfl rfl ?_
          refine c_nil ?_
          exact l_join true (fun a w hE hm => ⟨hE.sub ⟨rfl, rfl, rfl, rfl, rfl, rfl, rfl, trivial⟩, (hm.pick [0, 1, 2, 3] rfl)⟩)
        · refine o_fad (st_g rfl rfl) rfl rfl fld83_1 rfl ?_
          refine o_ldc (st_g rfl rfl) (v := (.int .i64 e11.xUntil)) 0 rfl rfl rfl ty3 rfl ?_
          refine st_gw rfl rfl (o_callP (vs := [(.int .i64 e11.xUntil)]) Tryd.call61 rfl rfl (by intro w m h; exact w_impl_timeValid (now_0 := e11.xUntil) h) ?_); rintro r18 _
          refine o_not (st_g rfl rfl) rfl rfl ?_
          refine o_pickF st rfl rfl rfl ?_
          refine c_nil ?_
          exact l_join (!r18) (fun a w hE hm => ⟨hE.sub ⟨rfl, rfl, rfl, rfl, rfl, rfl, rfl, trivial⟩, (hm.pick [0, 1, 2, 3] rfl)⟩)
      · rintro t15 a w ⟨hE, hm⟩ h
        refine nx_of hE hm h ?_
        clear hE hm h
        refine c_cond rfl ?_ ?_
        · refine c_seq ?_
          refine c_region ?_
          refine stw (o_asm encGPacket rfl rfl ?_)
          refine o_as st rfl rfl ?_
          refine c_nil ?_
          refine l_then ?_
          refine c_ret ?_
          refine l_ret ?_
          refine b_ret ?_
          refine l_ret ?_
          refine l_ret ?_
          refine b_ret ?_
          refine l_ret ?_
          exact l_end2 Tryd.results71 ([], false) (.map none) (rv_t rfl) (rv_t rfl) rfl (fun w m => NewCh.of m [0] rfl (fr_cons free_mown fr_nil))
        · refine c_skip ?_
          refine l_then ?_
          refine c_seq ?_
          refine c_seq ?_
          refine c_region ?_
          refine o_mv st rfl rfl ?_
          refine o_fad st rfl rfl fld83_0 rfl ?_
          refine o_ldc st (v := (.agg #[(.int .i64 e11.xWho.xFrom), (.int .i64 e11.xWho.xTo), (.int .i64 e11.xWho.xPort), (.int .i64 e11.xWho.xProto)])) 0 rfl rfl rfl ty30 rfl ?_
          refine o_lkp st (k0 := e11.xWho) 1 rfl mreads_own rfl rfl rfl mapty100 ?_
          refine o_mv st rfl rfl ?_
          refine o_ext st (vs := [(.int .i64 ((mget e11.xWho xs7).1)), (.bool ((mget e11.xWho xs7).2))]) rfl rfl rfl ?_
          refine o_ext st (vs := [(.int .i64 ((mget e11.xWho xs7).1)), (.bool ((mget e11.xWho xs7).2))]) rfl rfl rfl ?_
          refine o_as st rfl rfl ?_
          refine o_as st rfl rfl ?_
          refine c_nil ?_
          refine l_then ?_
          refine c_seq ?_
          refine c_region ?_
          refine o_mv st rfl rfl ?_
          refine c_nil ?_
          refine l_then ?_
          refine c_cond rfl ?_ ?_
          · refine c_seq ?_
            refine c_region ?_
            refine stw (o_asm encGPacket rfl rfl ?_)
            refine o_as st rfl rfl ?_
            refine c_nil ?_
            refine l_then ?_
            refine c_ret ?_
            refine l_ret ?_
            refine b_ret ?_
            refine l_ret ?_
            refine l_ret ?_
            refine b_ret ?_
            refine l_ret ?_
            exact l_end2 Tryd.results71 ([], false) (.map none) (rv_t rfl) (rv_t rfl) rfl (fun w m => NewCh.of m [0] rfl (fr_cons free_mown fr_nil))
          · refine c_skip ?_
            refine l_then ?_
            refine c_seq ?_
            refine c_region ?_
            refine o_mv st rfl rfl ?_
            refine o_fad st rfl rfl fld83_0 rfl ?_
            refine o_ldc st (v := (.agg #[(.int .i64 e11.xWho.xFrom), (.int .i64 e11.xWho.xTo), (.int .i64 e11.xWho.xPort), (.int .i64 e11.xWho.xProto)])) 0 rfl rfl rfl ty30 rfl ?_
            refine o_mv st rfl rfl ?_
            refine stw (o_mput (k0 := e11.xWho) 1 rfl rfl rfl rfl mapty100 ?_)
            refine c_nil ?_
            refine l_then ?_
            refine c_region ?_
            refine o_mv st rfl rfl ?_
            refine o_fad st rfl rfl fld83_0 rfl ?_
            refine o_ldc st (v := (.agg #[(.int .i64 e11.xWho.xFrom), (.int .i64 e11.xWho.xTo), (.int .i64 e11.xWho.xPort), (.int .i64 e11.xWho.xProto)])) 0 rfl rfl rfl ty30 rfl ?_
            refine stw (o_callP (vs := [(.agg #[(.int .i64 e11.xWho.xFrom), (.int .i64 e11.xWho.xTo), (.int .i64 e11.xWho.xPort), (.int .i64 e11.xWho.xProto)])]) Tryd.call69 rfl rfl (by intro w m h; exact w_impl_Packet_reverse (p_0 := e11.xWho) h) ?_); rintro r22 _
            refine o_mv st rfl rfl ?_
            refine stw (o_mput (k0 := r22) 1 rfl rfl rfl rfl mapty100 ?_)
            refine c_nil ?_
            refine b_norm ?_
            refine l_then ?_
            refine c_region ?_
            refine o_add st rfl rfl rfl ?_; intro t24
            refine o_mv st rfl rfl ?_
            refine c_nil ?_
            exact l_join ((mput r22 t9 (mput e11.xWho t9 xs7)), t24) (fun a w hE hm => ⟨hE.sub ⟨rfl, rfl, rfl, rfl, trivial⟩, (hm.pick [1, 2, 3] rfl)⟩)
    · refine c_exit ?_
      refine l_exit ?_
      refine l_exit ?_
      refine b_exit ?_
      refine l_then ?_
      refine c_seq ?_
      refine c_region ?_
      refine o_mv st rfl rfl ?_
      refine o_as st rfl rfl ?_
      refine o_as st rfl rfl ?_
      refine c_nil ?_
      refine l_then ?_
      refine c_ret ?_
      exact l_end2 Tryd.results71 (xs7, true) (.map (some b5)) (rv_t rfl) (rv_t rfl) rfl (fun w m => NewCh.of m [0] rfl (fr_cons free_mown fr_nil))

set_option maxRecDepth 100000 in
set_option maxHeartbeats 8000000 in
theorem w_impl_FlowsValid {w0 : World} {F : Nat → Prop} {v1 : Value} {list_0 : (List GFlow)} {κ : Bool → Prop} (hv1 : Sl elGFlow (fun b => b < w0.heap.size ∧ ¬ feet [] b) w0 v1 list_0) (hgl0 : Sl elGFieldShape (fun b => b < w0.heap.size ∧ ¬ feet [] b) w0 (.slice (some ⟨0, 0, none⟩) 4 4) gl_impl_fieldShapes) (h : L_impl_FlowsValid list_0 κ) :
    Calls Tryd.prog 27 #[v1] w0 (Ret [] F w0 κ (fun (r : Bool) (u : Unit) => (.bool r)) (fun (r : Bool) (u : Unit) => [])) := by
  refine enter (args := [v1]) [] Tryd.func27 rfl Tryd.ntmps27 rfl [roCh elGFlow v1 list_0, roCh elGFieldShape (.slice (some ⟨0, 0, none⟩) 4 4) gl_impl_fieldShapes] (hf_cons (hf_cons hf_nil)) (hh_cons hv1 (hh_cons hgl0 hh_nil)) (Given.nil w0).lt (Given.nil w0).disj (Given.nil w0).hold h ?_
  clear h hv1 hgl0
  refine c_seq ?_
  refine c_region ?_
  refine o_as st rfl rfl ?_
  refine c_nil ?_
  refine l_then ?_
  refine c_seq ?_
  refine c_region ?_
  refine o_mv st rfl rfl ?_
  refine stw (o_callP (vs := [v1]) Tryd.call71 rfl rfl (by intro w m h; exact w_impl_indexFlows (list_0 := list_0) (m.rd0 0 rfl reads_ro) (m.rd0 1 rfl reads_ro) h) ?_); rintro ⟨r3, r4⟩ v5
  refine o_mv st rfl rfl ?_
  refine o_ext st (vs := [v5, (.bool r4)]) rfl rfl rfl ?_
  refine o_ext st (vs := [v5, (.bool r4)]) rfl rfl rfl ?_
  refine o_as st rfl rfl ?_
  refine o_as st rfl rfl ?_
  refine c_nil ?_
  refine l_then ?_
  refine c_seq ?_
  refine c_region ?_
  refine o_mv st rfl rfl ?_
  refine o_as st rfl rfl ?_
  refine c_nil ?_
  refine l_then ?_
  refine c_ret ?_
  exact l_end1 Tryd.results27 r4 () (rv_t rfl) (fun _ _ => NewCh.nil _ _ _ _)

set_option maxRecDepth 100000 in
set_option maxHeartbeats 8000000 in
theorem w_impl_lifeValid {w0 : World} {F : Nat → Prop} {life_0 : Int} {κ : Bool → Prop} (h : L_impl_lifeValid life_0 κ) :
    Calls Tryd.prog 62 #[(.int .i64 life_0)] w0 (Ret [] F w0 κ (fun (r : Bool) (u : Unit) => (.bool r)) (fun (r : Bool) (u : Unit) => [])) := by
  refine enter (args := [(.int .i64 life_0)]) [] Tryd.func62 rfl Tryd.ntmps62 rfl [] hf_nil hh_nil (Given.nil w0).lt (Given.nil w0).disj (Given.nil w0).hold h ?_
  clear h
  refine c_seq ?_
  refine c_region ?_
  refine o_as st rfl rfl ?_
  refine c_nil ?_
  refine l_then ?_
  refine c_join (σ := Bool) (fun (t1 : Bool) (a : Act) (w : World) => Has 9 [(2, (.bool t1))] a ∧ Mem (fun _ => True) (feet []) w0 [] w) ?_ ?_
  · intro k2
    refine c_region ?_
    refine o_mv st rfl rfl ?_
    refine o_geq st rfl rfl rfl ?_
    refine o_mv st rfl rfl ?_
    refine st_sp (dj := 5) rfl ?_ ?_
    · refine o_mv (st_g rfl rfl) rfl rfl ?_
      refine o_leq (st_g rfl rfl) rfl rfl rfl ?_
      refine o_pickT st rfl rfl rfl ?_
      refine o_as st rfl rfl ?_
      refine c_nil ?_
      exact l_join (decide (life_0 ≤ 1000)) (fun a w hE hm => ⟨hE.sub ⟨rfl, trivial⟩, (hm.pick [] rfl)⟩)
    · refine st_s rfl rfl rfl rfl ?_
      refine st_s rfl rfl rfl rfl ?_
      refine o_pickF st rfl rfl rfl ?_
      refine o_as st rfl rfl ?_
      refine c_nil ?_
      exact l_join false (fun a w hE hm => ⟨hE.sub ⟨rfl, trivial⟩, (hm.pick [] rfl)⟩)
  · rintro t1 a w ⟨hE, hm⟩ h
    refine nx_of hE hm h ?_
    clear hE hm h
    refine c_ret ?_
    exact l_end1 Tryd.results62 t1 () (rv_t rfl) (fun _ _ => NewCh.nil _ _ _ _)

set_option maxRecDepth 100000 in
set_option maxHeartbeats 8000000 in
theorem w_impl_notExpired {w0 : World} {F : Nat → Prop} {v1 : Value} {list_0 : (List GFlow)} {now_1 : Int} {κ : (List GFlow) → Prop} (hv1 : Sl elGFlow (fun b => b < w0.heap.size ∧ ¬ feet [] b) w0 v1 list_0) (h : L_impl_notExpired list_0 now_1 κ) :
    Calls Tryd.prog 70 #[v1, (.int .i64 now_1)] w0 (Ret [] F w0 κ (fun (r : (List GFlow)) (u : Value) => u) (fun (r : (List GFlow)) (u : Value) => [ownCh elGFlow 83 u (r)])) := by
  refine enter (args := [v1, (.int .i64 now_1)]) [] Tryd.func70 rfl Tryd.ntmps70 rfl [roCh elGFlow v1 list_0] (hf_cons hf_nil) (hh_cons hv1 hh_nil) (Given.nil w0).lt (Given.nil w0).disj (Given.nil w0).hold h ?_
  clear h hv1
  refine c_seq ?_
  refine c_region ?_
  refine stw (o_asn elGFlow 83 rfl rfl ?_)
  refine c_nil ?_
  refine l_then ?_
  refine c_seq ?_
  refine c_region ?_
  refine o_mv st rfl rfl ?_
  refine o_len st el26 1 rfl reads_ro rfl rfl ?_
  refine stw (o_make (z := (GFlow.mk (GPacket.mk 0 0 0 0) 0)) flelGFlow rfl rfl rfl el26 rfl zero83 rfl rfl ?_); intro v4 xs5
  refine o_as st rfl rfl ?_
  refine c_nil ?_
  refine l_then ?_
  refine c_seq ?_
  refine c_seq ?_
  refine c_region ?_
  refine o_mv st rfl rfl ?_
  refine o_len st el26 2 rfl reads_ro rfl rfl ?_
  refine o_mv st rfl rfl ?_
  refine c_nil ?_
  refine l_then ?_
  refine c_block ?_
  refine c_loop (σ := ((List GFlow) × Int)) (fun ((xs8, t11) : ((List GFlow) × Int)) (a : Act) (w : World) => ∃ (v9 : Value), Has 27 [(1, (.int .i64 now_1)), (5, v9), (11, v1), (12, (.int .i64 (list_0.length : Int))), (13, (.int .i64 t11))] a ∧ Mem (fun _ => True) (feet []) w0 [roCh elGFlow v1 list_0, ownCh elGFlow 83 v9 xs8] w) (fun a w hE hm => ⟨v4, hE.sub ⟨rfl, rfl, rfl, rfl, rfl, trivial⟩, (hm.pick [2, 0] rfl)⟩) ?_
  rintro nx12 ⟨xs8, t11⟩ a w ⟨v9, hE, hm⟩ h
  refine nx_of hE hm h ?_
  clear hE hm h
  refine c_seq ?_
  refine c_region ?_
  refine o_lss st rfl rfl rfl ?_
  refine c_nil ?_
  refine l_then ?_
  refine c_seq ?_
  refine c_cond rfl ?_ ?_
  · refine c_skip ?_
    refine l_then ?_
    refine c_join (σ := (List GFlow)) (fun (xs13 : (List GFlow)) (a : Act) (w : World) => ∃ (v14 : Value), Has 27 [(1, (.int .i64 now_1)), (5, v14), (11, v1), (12, (.int .i64 (list_0.length : Int))), (13, (.int .i64 t11))] a ∧ Mem (fun _ => True) (feet []) w0 [roCh elGFlow v1 list_0, ownCh elGFlow 83 v14 xs13] w) ?_ ?_
    · intro k16
      refine c_block ?_
      refine c_seq ?_
      refine c_region ?_
      refine o_idx st 0 rfl reads_ro rfl rfl rfl el26 ?_; intro e17 h18
      refine o_lds st (enc := encGFlow) (u := (.agg #[(.int .i64 e17.xWho.xFrom), (.int .i64 e17.xWho.xTo), (.int .i64 e17.xWho.xPort), (.int .i64 e17.xWho.xProto), (.int .i64 e17.xUntil)])) 0 rfl reads_ro flelGFlow rfl h18 rfl rfl ty83 rfl ?_
      refine stw (o_alloc rfl [(.int .i64 0), (.int .i64 0), (.int .i64 0), (.int .i64 0), (.int .i64 0)] zero83 ?_); intro b19
      refine stw (o_stc (cs' := [(.int .i64 e17.xWho.xFrom), (.int .i64 e17.xWho.xTo), (.int .i64 e17.xWho.xPort), (.int .i64 e17.xWho.xProto), (.int .i64 e17.xUntil)]) 0 rfl rfl rfl ty83 rfl rfl rfl rfl ?_)
      refine c_nil ?_
      refine l_then ?_
      refine c_seq ?_
      refine c_region ?_
      refine o_fad st rfl rfl fld83_1 rfl ?_
      refine o_ldc st (v := (.int .i64 e17.xUntil)) 0 rfl rfl rfl ty3 rfl ?_
      refine o_mv st rfl rfl ?_
      refine o_geq st rfl rfl rfl ?_
      refine c_nil ?_
      refine l_then ?_
      refine c_cond rfl ?_ ?_
      · refine c_region ?_
        refine o_mv st rfl rfl ?_
        refine o_ldc st (v := (.agg #[(.int .i64 e17.xWho.xFrom), (.int .i64 e17.xWho.xTo), (.int .i64 e17.xWho.xPort), (.int .i64 e17.xWho.xProto), (.int .i64 e17.xUntil)])) 0 rfl rfl rfl ty83 rfl ?_
        refine stw (o_bsl (enc := encGFlow) (qs := [(0, (.agg #[(.int .i64 e17.xWho.xFrom), (.int .i64 e17.xWho.xTo), (.int .i64 e17.xWho.xPort), (.int .i64 e17.xWho.xProto), (.int .i64 e17.xUntil)]))]) (cells := [(.int .i64 e17.xWho.xFrom), (.int .i64 e17.xWho.xTo), (.int .i64 e17.xWho.xPort), (.int .i64 e17.xWho.xProto), (.int .i64 e17.xUntil)]) ([e17]) flelGFlow (by intro ρ h; simp only [List.map_toArray, List.map_cons, List.map_nil, h (.tmp 22) _ rfl]) rfl el26 zero83 rfl rfl rfl rfl rfl rfl ?_); intro v21
        refine stw (o_app 3 0 rfl rfl reads_own (.inr flelGFlow.free) rfl rfl rfl el26 rfl zero83 rfl rfl ?_); intro v23
        refine o_as st rfl rfl ?_
        refine c_nil ?_
        refine b_norm ?_
        exact l_join (xs8 ++ ([e17])) (fun a w hE hm => ⟨v23, hE.sub ⟨rfl, rfl, rfl, rfl, rfl, trivial⟩, (hm.pick [2, 3] rfl)⟩)
      · refine c_skip ?_
        refine b_norm ?_
        exact l_join xs8 (fun a w hE hm => ⟨v9, hE.sub ⟨rfl, rfl, rfl, rfl, rfl, trivial⟩, (hm.pick [1, 2] rfl)⟩)
    · rintro xs13 a w ⟨v14, hE, hm⟩ h
      refine nx_of hE hm h ?_
      clear hE hm h
      refine c_region ?_
      refine o_add st rfl rfl rfl ?_; intro t25
      refine o_mv st rfl rfl ?_
      refine c_nil ?_
      exact l_join (xs13, t25) (fun a w hE hm => ⟨v14, hE.sub ⟨rfl, rfl, rfl, rfl, rfl, trivial⟩, (hm.pick [0, 1] rfl)⟩)
  · refine c_exit ?_
    refine l_exit ?_
    refine l_exit ?_
    refine b_exit ?_
    refine l_then ?_
    refine c_seq ?_
    refine c_region ?_
    refine o_mv st rfl rfl ?_
    refine o_as st rfl rfl ?_
    refine c_nil ?_
    refine l_then ?_
    refine c_ret ?_
    exact l_end1 Tryd.results70 xs8 v9 (rv_t rfl) (fun w m => NewCh.of m [1] rfl (fr_cons (free_own flelGFlow) fr_nil))

set_option maxRecDepth 100000 in
set_option maxHeartbeats 8000000 in
theorem w_impl_flowIndex_known {w0 : World} {F : Nat → Prop} {v1 v3 : Value} {x_0 : (List (GPacket × Int))} {list_1 : (List GFlow)} {p_2 : GPacket} {now_3 : Int} {κ : Int → Prop} (hv1 : Mp encGPacket (fun b => b < w0.heap.size ∧ ¬ feet [] b) w0 v1 x_0) (hv3 : Sl elGFlow (fun b => b < w0.heap.size ∧ ¬ feet [] b) w0 v3 list_1) (h : L_impl_flowIndex_known x_0 list_1 p_2 now_3 κ) :
    Calls Tryd.prog 72 #[v1, v3, (.agg #[(.int .i64 p_2.xFrom), (.int .i64 p_2.xTo), (.int .i64 p_2.xPort), (.int .i64 p_2.xProto)]), (.int .i64 now_3)] w0 (Ret [] F w0 κ (fun (r : Int) (u : Unit) => (.int .i64 r)) (fun (r : Int) (u : Unit) => [])) := by
  refine enter (args := [v1, v3, (.agg #[(.int .i64 p_2.xFrom), (.int .i64 p_2.xTo), (.int .i64 p_2.xPort), (.int .i64 p_2.xProto)]), (.int .i64 now_3)]) [] Tryd.func72 rfl Tryd.ntmps72 rfl [mRo encGPacket v1 x_0, roCh elGFlow v3 list_1] (hf_consM (hf_cons hf_nil)) (hh_cons hv1 (hh_cons hv3 hh_nil)) (Given.nil w0).lt (Given.nil w0).disj (Given.nil w0).hold h ?_
  clear h hv1 hv3
  refine c_seq ?_
  refine c_region ?_
  refine stw (o_box rfl rfl [(.int .i64 p_2.xFrom), (.int .i64 p_2.xTo), (.int .i64 p_2.xPort), (.int .i64 p_2.xProto)] rfl ?_); intro b5
  refine o_as st rfl rfl ?_
  refine c_nil ?_
  refine l_then ?_
  refine c_seq ?_
  refine c_region ?_
  refine o_mv st rfl rfl ?_
  refine o_ldc st (v := (.agg #[(.int .i64 p_2.xFrom), (.int .i64 p_2.xTo), (.int .i64 p_2.xPort), (.int .i64 p_2.xProto)])) 0 rfl rfl rfl ty30 rfl ?_
  refine o_lkp st (k0 := p_2) 1 rfl mreads_ro rfl rfl rfl mapty100 ?_
  refine o_mv st rfl rfl ?_
  refine o_ext st (vs := [(.int .i64 ((mget p_2 x_0).1)), (.bool ((mget p_2 x_0).2))]) rfl rfl rfl ?_
  refine o_ext st (vs := [(.int .i64 ((mget p_2 x_0).1)), (.bool ((mget p_2 x_0).2))]) rfl rfl rfl ?_
  refine o_as st rfl rfl ?_
  refine o_as st rfl rfl ?_
  refine c_nil ?_
  refine l_then ?_
  refine c_seq ?_
  refine c_join (σ := Bool) (fun (t7 : Bool) (a : Act) (w : World) => Has 29 [(9, (.int .i64 ((mget p_2 x_0).1))), (27, (.bool t7))] a ∧ Mem (fun _ => True) (feet []) w0 [] w) ?_ ?_
  · intro k8
    refine c_region ?_
    refine o_mv st rfl rfl ?_
    refine o_not st rfl rfl ?_
    refine o_mv st rfl rfl ?_
    refine st_sp (dj := 19) rfl ?_ ?_
    · refine st_s rfl rfl rfl rfl ?_
      refine st_s rfl rfl rfl rfl ?_
      refine st_s rfl rfl rfl rfl ?_
      refine st_s rfl rfl rfl rfl ?_
      refine st_s rfl rfl rfl rfl ?_
      refine st_s rfl rfl rfl rfl ?_
      refine st_s rfl rfl rfl rfl ?_
      refine o_pickT st rfl rfl rfl ?_
      refine c_nil ?_
      exact l_join true (fun a w hE hm => ⟨hE.sub ⟨rfl, rfl, trivial⟩, (hm.pick [] rfl)⟩)
    · refine o_mv (st_g rfl rfl) rfl rfl ?_
      refine o_mv (st_g rfl rfl) rfl rfl ?_
      refine o_idx (st_g rfl rfl) 2 rfl reads_ro rfl rfl rfl el26 ?_; intro e9 h10
      refine o_fadS (st_g rfl rfl) 2 rfl reads_ro h10 rfl rfl fld83_1 rfl ?_
      refine o_lds (st_g rfl rfl) (enc := encGFlow) (u := (.int .i64 e9.xUntil)) 2 rfl reads_ro flelGFlow rfl h10 rfl rfl ty3 rfl ?_
      refine o_mv (st_g rfl rfl) rfl rfl ?_
      refine o_lss (st_g rfl rfl) rfl rfl rfl ?_
      refine o_pickF st rfl rfl rfl ?_
      refine c_nil ?_
      exact l_join (decide (e9.xUntil < now_3)) (fun a w hE hm => ⟨hE.sub ⟨rfl, rfl, trivial⟩, (hm.pick [] rfl)⟩)
  · rintro t7 a w ⟨hE, hm⟩ h
    refine nx_of hE hm h ?_
    clear hE hm h
    refine c_cond rfl ?_ ?_
    · refine c_seq ?_
      refine c_region ?_
      refine o_as st rfl rfl ?_
      refine c_nil ?_
      refine l_then ?_
      refine c_ret ?_
      refine l_ret ?_
      exact l_end1 Tryd.results72 (-1) () (rv_t rfl) (fun _ _ => NewCh.nil _ _ _ _)
    · refine c_skip ?_
      refine l_then ?_
      refine c_seq ?_
      refine c_region ?_
      refine o_mv st rfl rfl ?_
      refine o_as st rfl rfl ?_
      refine c_nil ?_
      refine l_then ?_
      refine c_ret ?_
      exact l_end1 Tryd.results72 ((mget p_2 x_0).1) () (rv_t rfl) (fun _ _ => NewCh.nil _ _ _ _)

set_option maxRecDepth 100000 in
set_option maxHeartbeats 8000000 in
theorem w_impl_trackValid {w0 : World} {F : Nat → Prop} {v1 : Value} {list_0 : (List GFlow)} {p_1 : GPacket} {now_2 : Int} {life_3 : Int} {κ : ((List GFlow) × Bool) → Prop} (hv1 : Sl elGFlow (fun b => b < w0.heap.size ∧ ¬ feet [] b) w0 v1 list_0) (hgl0 : Sl elGFieldShape (fun b => b < w0.heap.size ∧ ¬ feet [] b) w0 (.slice (some ⟨0, 0, none⟩) 4 4) gl_impl_fieldShapes) (h : L_impl_trackValid list_0 p_1 now_2 life_3 κ) :
    Calls Tryd.prog 63 #[v1, (.agg #[(.int .i64 p_1.xFrom), (.int .i64 p_1.xTo), (.int .i64 p_1.xPort), (.int .i64 p_1.xProto)]), (.int .i64 now_2), (.int .i64 life_3)] w0 (Ret [] F w0 κ (fun (r : ((List GFlow) × Bool)) (u : Value) => .tuple #[u, (.bool r.2)]) (fun (r : ((List GFlow) × Bool)) (u : Value) => [ownCh elGFlow 83 u (r.1)])) := by
  refine enter (args := [v1, (.agg #[(.int .i64 p_1.xFrom), (.int .i64 p_1.xTo), (.int .i64 p_1.xPort), (.int .i64 p_1.xProto)]), (.int .i64 now_2), (.int .i64 life_3)]) [] Tryd.func63 rfl Tryd.ntmps63 rfl [roCh elGFlow v1 list_0, roCh elGFieldShape (.slice (some ⟨0, 0, none⟩) 4 4) gl_impl_fieldShapes] (hf_cons (hf_cons hf_nil)) (hh_cons hv1 (hh_cons hgl0 hh_nil)) (Given.nil w0).lt (Given.nil w0).disj (Given.nil w0).hold h ?_
  clear h hv1 hgl0
  refine c_seq ?_
  refine c_region ?_
  refine stw (o_box rfl rfl [(.int .i64 p_1.xFrom), (.int .i64 p_1.xTo), (.int .i64 p_1.xPort), (.int .i64 p_1.xProto)] rfl ?_); intro b3
  refine stw (o_asn elGFlow 83 rfl rfl ?_)
  refine o_as st rfl rfl ?_
  refine c_nil ?_
  refine l_then ?_
  refine c_seq ?_
  refine c_region ?_
  refine o_mv st rfl rfl ?_
  refine o_mv st rfl rfl ?_
  refine stw (o_callP (vs := [v1, (.int .i64 now_2)]) Tryd.call70 rfl rfl (by intro w m h; exact w_impl_notExpired (list_0 := list_0) (now_1 := now_2) (m.rd0 2 rfl reads_ro) h) ?_); rintro r6 v7
  refine o_as st rfl rfl ?_
  refine c_nil ?_
  refine l_then ?_
  refine c_seq ?_
  refine c_region ?_
  refine o_mv st rfl rfl ?_
  refine o_mv st rfl rfl ?_
  refine o_add st rfl rfl rfl ?_; intro t9
  refine o_min st rfl rfl rfl ?_
  refine o_as st rfl rfl ?_
  refine c_nil ?_
  refine l_then ?_
  refine c_seq ?_
  refine c_region ?_
  refine o_mv st rfl rfl ?_
  refine stw (o_callP (vs := [v7]) Tryd.call71 rfl rfl (by intro w m h; exact w_impl_indexFlows (list_0 := r6) (m.rd0 0 rfl reads_own) (m.rd0 4 rfl reads_ro) h) ?_); rintro ⟨r10, r11⟩ v12
  refine o_mv st rfl rfl ?_
  refine o_ext st (vs := [v12, (.bool r11)]) rfl rfl rfl ?_
  refine o_ext st (vs := [v12, (.bool r11)]) rfl rfl rfl ?_
  refine o_as st rfl rfl ?_
  refine o_as st rfl rfl ?_
  refine c_nil ?_
  refine l_then ?_
  refine c_seq ?_
  refine c_seq ?_
  refine c_region ?_
  refine o_mv st rfl rfl ?_
  refine o_mv st rfl rfl ?_
  refine o_ldc st (v := (.agg #[(.int .i64 p_1.xFrom), (.int .i64 p_1.xTo), (.int .i64 p_1.xPort), (.int .i64 p_1.xProto)])) 3 rfl rfl rfl ty30 rfl ?_
  refine o_mv st rfl rfl ?_
  refine stw (o_callP (vs := [v12, v7, (.agg #[(.int .i64 p_1.xFrom), (.int .i64 p_1.xTo), (.int .i64 p_1.xPort), (.int .i64 p_1.xProto)]), (.int .i64 now_2)]) Tryd.call72 rfl rfl (by intro w m h; exact w_impl_flowIndex_known (x_0 := r10) (list_1 := r6) (p_2 := p_1) (now_3 := now_2) (m.mrd0 0 rfl mreads_own) (m.rd0 1 rfl reads_own) h) ?_); rintro r14 _
  refine o_as st rfl rfl ?_
  refine c_nil ?_
  refine l_then ?_
  refine c_seq ?_
  refine c_region ?_
  refine o_mv st rfl rfl ?_
  refine o_geq st rfl rfl rfl ?_
  refine c_nil ?_
  refine l_then ?_
  refine c_cond rfl ?_ ?_
  · refine c_seq ?_
    refine c_region ?_
    refine o_mv st rfl rfl ?_
    refine o_mv st rfl rfl ?_
    refine o_mv st rfl rfl ?_
    refine o_idx st 1 rfl reads_own rfl rfl rfl el26 ?_; intro e15 h16
    refine o_fadS st 1 rfl reads_own h16 rfl rfl fld83_1 rfl ?_
    refine stw (o_sts (enc := encGFlow) (y' := (GFlow.mk e15.xWho (min t9 1000000))) 1 rfl flelGFlow rfl h16 ty3 rfl rfl rfl rfl rfl rfl ?_)
    refine c_nil ?_
    refine l_then ?_
    refine c_seq ?_
    refine c_region ?_
    refine o_mv st rfl rfl ?_
    refine o_as st rfl rfl ?_
    refine o_as st rfl rfl ?_
    refine c_nil ?_
    refine l_then ?_
    refine c_ret ?_
    refine l_ret ?_
    exact l_end2 Tryd.results63 ((r6.set r14.toNat (GFlow.mk e15.xWho (min t9 1000000))), true) v7 (rv_t rfl) (rv_t rfl) rfl (fun w m => NewCh.of m [1] rfl (fr_cons (free_own flelGFlow) fr_nil))
  · refine c_skip ?_
    refine l_then ?_
    refine c_seq ?_
    refine c_seq ?_
    refine c_region ?_
    refine o_mv st rfl rfl ?_
    refine o_len st el26 1 rfl reads_own rfl rfl ?_
    refine o_eql st und3 rfl rfl rfl ?_
    refine c_nil ?_
    refine l_then ?_
    refine c_cond rfl ?_ ?_
    · refine c_seq ?_
      refine c_region ?_
      refine o_mv st rfl rfl ?_
      refine o_as st rfl rfl ?_
      refine o_as st rfl rfl ?_
      refine c_nil ?_
      refine l_then ?_
      refine c_ret ?_
      refine l_ret ?_
      exact l_end2 Tryd.results63 (r6, false) v7 (rv_t rfl) (rv_t rfl) rfl (fun w m => NewCh.of m [1] rfl (fr_cons (free_own flelGFlow) fr_nil))
    · refine c_skip ?_
      refine l_then ?_
      refine c_seq ?_
      refine c_region ?_
      refine o_mv st rfl rfl ?_
      refine o_ldc st (v := (.agg #[(.int .i64 p_1.xFrom), (.int .i64 p_1.xTo), (.int .i64 p_1.xPort), (.int .i64 p_1.xProto)])) 3 rfl rfl rfl ty30 rfl ?_
      refine o_mv st rfl rfl ?_
      refine o_bld st (qs := [(0, (.agg #[(.int .i64 p_1.xFrom), (.int .i64 p_1.xTo), (.int .i64 p_1.xPort), (.int .i64 p_1.xProto)])), (1, (.int .i64 (min t9 1000000)))]) (cells := [(.int .i64 p_1.xFrom), (.int .i64 p_1.xTo), (.int .i64 p_1.xPort), (.int .i64 p_1.xProto), (.int .i64 (min t9 1000000))]) (by intro ρ h; simp only [List.map_toArray, List.map_cons, List.map_nil, h (.tmp 45) _ rfl, h (.tmp 46) _ rfl]) rfl bld83 rfl ?_
      refine stw (o_bsl (enc := encGFlow) (qs := [(0, (.agg #[(.int .i64 p_1.xFrom), (.int .i64 p_1.xTo), (.int .i64 p_1.xPort), (.int .i64 p_1.xProto), (.int .i64 (min t9 1000000))]))]) (cells := [(.int .i64 p_1.xFrom), (.int .i64 p_1.xTo), (.int .i64 p_1.xPort), (.int .i64 p_1.xProto), (.int .i64 (min t9 1000000))]) ([(GFlow.mk p_1 (min t9 1000000))]) flelGFlow (by intro ρ h; simp only [List.map_toArray, List.map_cons, List.map_nil, h (.tmp 47) _ rfl]) rfl el26 zero83 rfl rfl rfl rfl rfl rfl ?_); intro v18
      refine stw (o_app 2 0 rfl rfl reads_own (.inr flelGFlow.free) rfl rfl rfl el26 rfl zero83 rfl rfl ?_); intro v20
      refine o_as st rfl rfl ?_
      refine o_as st rfl rfl ?_
      refine c_nil ?_
      refine l_then ?_
      refine c_ret ?_
      exact l_end2 Tryd.results63 ((r6 ++ ([(GFlow.mk p_1 (min t9 1000000))])), true) v20 (rv_t rfl) (rv_t rfl) rfl (fun w m => NewCh.of m [2] rfl (fr_cons (free_own flelGFlow) fr_nil))

set_option maxRecDepth 100000 in
set_option maxHeartbeats 8000000 in
theorem w_impl_TrackFlow {w0 : World} {F : Nat → Prop} {v1 : Value} {list_0 : (List GFlow)} {p_1 : GPacket} {now_2 : Int} {life_3 : Int} {κ : ((List GFlow) × Bool) → Prop} (hv1 : Sl elGFlow (fun b => b < w0.heap.size ∧ ¬ feet [] b) w0 v1 list_0) (hgl0 : Sl elGFieldShape (fun b => b < w0.heap.size ∧ ¬ feet [] b) w0 (.slice (some ⟨0, 0, none⟩) 4 4) gl_impl_fieldShapes) (h : L_impl_TrackFlow list_0 p_1 now_2 life_3 κ) :
    Calls Tryd.prog 18 #[v1, (.agg #[(.int .i64 p_1.xFrom), (.int .i64 p_1.xTo), (.int .i64 p_1.xPort), (.int .i64 p_1.xProto)]), (.int .i64 now_2), (.int .i64 life_3)] w0 (Ret [] F w0 κ (fun (r : ((List GFlow) × Bool)) (u : Value) => .tuple #[u, (.bool r.2)]) (fun (r : ((List GFlow) × Bool)) (u : Value) => [ownCh elGFlow 83 u (r.1)])) := by
  refine enter (args := [v1, (.agg #[(.int .i64 p_1.xFrom), (.int .i64 p_1.xTo), (.int .i64 p_1.xPort), (.int .i64 p_1.xProto)]), (.int .i64 now_2), (.int .i64 life_3)]) [] Tryd.func18 rfl Tryd.ntmps18 rfl [roCh elGFlow v1 list_0, roCh elGFieldShape (.slice (some ⟨0, 0, none⟩) 4 4) gl_impl_fieldShapes] (hf_cons (hf_cons hf_nil)) (hh_cons hv1 (hh_cons hgl0 hh_nil)) (Given.nil w0).lt (Given.nil w0).disj (Given.nil w0).hold h ?_
  clear h hv1 hgl0
  refine c_seq ?_
  refine c_region ?_
  refine stw (o_box rfl rfl [(.int .i64 p_1.xFrom), (.int .i64 p_1.xTo), (.int .i64 p_1.xPort), (.int .i64 p_1.xProto)] rfl ?_); intro b3
  refine stw (o_asn elGFlow 83 rfl rfl ?_)
  refine o_as st rfl rfl ?_
  refine c_nil ?_
  refine l_then ?_
  refine c_seq ?_
  refine c_join (σ := Bool) (fun (t6 : Bool) (a : Act) (w : World) => Has 35 [(0, v1), (2, (.int .i64 now_2)), (3, (.int .i64 life_3)), (5, (.pointer (some ⟨b3, 0, none⟩))), (27, (.bool t6))] a ∧ Mem (fun _ => True) (feet []) w0 [cellCh b3 [(.int .i64 p_1.xFrom), (.int .i64 p_1.xTo), (.int .i64 p_1.xPort), (.int .i64 p_1.xProto)] 30, roCh elGFlow v1 list_0, roCh elGFieldShape (.slice (some ⟨0, 0, none⟩) 4 4) gl_impl_fieldShapes] w) ?_ ?_
  · intro k7
    refine c_region ?_
    refine o_mv st rfl rfl ?_
    refine stw (o_callP (vs := [v1]) Tryd.call27 rfl rfl (by intro w m h; exact w_impl_FlowsValid (list_0 := list_0) (m.rd0 2 rfl reads_ro) (m.rd0 3 rfl reads_ro) h) ?_); rintro r8 _
    refine o_not st rfl rfl ?_
    refine o_mv st rfl rfl ?_
    refine st_sp (dj := 13) rfl ?_ ?_
    · refine st_s rfl rfl rfl rfl ?_
      refine st_s rfl rfl rfl rfl ?_
      refine st_s rfl rfl rfl rfl ?_
      refine o_pickT st rfl rfl rfl ?_
      refine o_mv st rfl rfl ?_
      refine st_s rfl rfl rfl rfl ?_
      refine st_s rfl rfl rfl rfl ?_
      refine st_s rfl rfl rfl rfl ?_
      refine o_pickT st rfl rfl rfl ?_
      refine o_mv st rfl rfl ?_
      refine st_s rfl rfl rfl rfl ?_
      refine st_s rfl rfl rfl rfl ?_
      refine st_s rfl rfl rfl rfl ?_
      refine o_pickT st rfl rfl rfl ?_
      refine c_nil ?_
      exact l_join true (fun a w hE hm => ⟨hE.sub ⟨rfl, rfl, rfl, rfl, rfl, trivial⟩, (hm.pick [1, 2, 3] rfl)⟩)
    · refine o_ldc (st_g rfl rfl) (v := (.agg #[(.int .i64 p_1.xFrom), (.int .i64 p_1.xTo), (.int .i64 p_1.xPort), (.int .i64 p_1.xProto)])) 1 rfl rfl rfl ty30 rfl ?_
      refine st_gw rfl rfl (o_callP (vs := [(.agg #[(.int .i64 p_1.xFrom), (.int .i64 p_1.xTo), (.int .i64 p_1.xPort), (.int .i64 p_1.xProto)])]) Tryd.call60 rfl rfl (by intro w m h; exact w_impl_PacketValid (p_0 := p_1) (m.rd0 3 rfl reads_ro) h) ?_); rintro r9 _
      refine o_not (st_g rfl rfl) rfl rfl ?_
      refine o_pickF st rfl rfl rfl ?_
      refine o_mv st rfl rfl ?_
      refine st_sp (dj := 18) rfl ?_ ?_
      · refine st_s rfl rfl rfl rfl ?_
        refine st_s rfl rfl rfl rfl ?_
        refine st_s rfl rfl rfl rfl ?_
        refine o_pickT st rfl rfl rfl ?_
        refine o_mv st rfl rfl ?_
        refine st_s rfl rfl rfl rfl ?_
        refine st_s rfl rfl rfl rfl ?_
        refine st_s rfl rfl rfl rfl ?_
        refine o_pickT st rfl rfl rfl ?_
        refine c_nil ?_
        exact l_join true (fun a w hE hm => ⟨hE.sub ⟨rfl, rfl, rfl, rfl, rfl, trivial⟩, (hm.pick [1, 2, 3] rfl)⟩)
      · refine o_mv (st_g rfl rfl) rfl rfl ?_
        refine st_gw rfl rfl (o_callP (vs := [(.int .i64 now_2)]) Tryd.call61 rfl rfl (by intro w m h; exact w_impl_timeValid (now_0 := now_2) h) ?_); rintro r10 _
        refine o_not (st_g rfl rfl) rfl rfl ?_
        refine o_pickF st rfl rfl rfl ?_
        refine o_mv st rfl rfl ?_
        refine st_sp (dj := 23) rfl ?_ ?_
        · refine st_s rfl rfl rfl rfl ?_
          refine st_s rfl rfl rfl rfl ?_
          refine st_s rfl rfl rfl rfl ?_
          refine o_pickT st rfl rfl rfl ?_
          refine c_nil ?_
          exact l_join true (fun a w hE hm => ⟨hE.sub ⟨rfl, rfl, rfl, rfl, rfl, trivial⟩, (hm.pick [1, 2, 3] rfl)⟩)
        · refine o_mv (st_g rfl rfl) rfl rfl ?_
          refine st_gw rfl rfl (o_callP (vs := [(.int .i64 life_3)]) Tryd.call62 rfl rfl (by intro w m h; exact w_impl_lifeValid (life_0 := life_3) h) ?_); rintro r11 _
          refine o_not (st_g rfl rfl) rfl rfl ?_
          refine o_pickF st rfl rfl rfl ?_
          refine c_nil ?_
          exact l_join (!r11) (fun a w hE hm => ⟨hE.sub ⟨rfl, rfl, rfl, rfl, rfl, trivial⟩, (hm.pick [1, 2, 3] rfl)⟩)
  · rintro t6 a w ⟨hE, hm⟩ h
    refine nx_of hE hm h ?_
    clear hE hm h
    refine c_cond rfl ?_ ?_
    · refine c_seq ?_
      refine c_region ?_
      refine stw (o_asn elGFlow 83 rfl rfl ?_)
      refine o_as st rfl rfl ?_
      refine c_nil ?_
      refine l_then ?_
      refine c_ret ?_
      refine l_ret ?_
      exact l_end2 Tryd.results18 ([], false) (.slice none 0 0) (rv_t rfl) (rv_t rfl) rfl (fun w m => NewCh.of m [0] rfl (fr_cons (free_own flelGFlow) fr_nil))
    · refine c_skip ?_
      refine l_then ?_
      refine c_seq ?_
      refine c_region ?_
      refine o_mv st rfl rfl ?_
      refine o_ldc st (v := (.agg #[(.int .i64 p_1.xFrom), (.int .i64 p_1.xTo), (.int .i64 p_1.xPort), (.int .i64 p_1.xProto)])) 0 rfl rfl rfl ty30 rfl ?_
      refine o_mv st rfl rfl ?_
      refine o_mv st rfl rfl ?_
      refine stw (o_callP (vs := [v1, (.agg #[(.int .i64 p_1.xFrom), (.int .i64 p_1.xTo), (.int .i64 p_1.xPort), (.int .i64 p_1.xProto)]), (.int .i64 now_2), (.int .i64 life_3)]) Tryd.call63 rfl rfl (by intro w m h; exact w_impl_trackValid (list_0 := list_0) (p_1 := p_1) (now_2 := now_2) (life_3 := life_3) (m.rd0 1 rfl reads_ro) (m.rd0 2 rfl reads_ro) h) ?_); rintro ⟨r13, r14⟩ v15
      refine o_ext st (vs := [v15, (.bool r14)]) rfl rfl rfl ?_
      refine o_ext st (vs := [v15, (.bool r14)]) rfl rfl rfl ?_
      refine o_as st rfl rfl ?_
      refine o_as st rfl rfl ?_
      refine c_nil ?_
      refine l_then ?_
      refine c_ret ?_
      exact l_end2 Tryd.results18 (r13, r14) v15 (rv_t rfl) (rv_t rfl) rfl (fun w m => NewCh.of m [0] rfl (fr_cons (free_own flelGFlow) fr_nil))

set_option maxRecDepth 100000 in
set_option maxHeartbeats 8000000 in
theorem w_laws_eqPacket {w0 : World} {F : Nat → Prop} {a_0 : GPacket} {b_1 : GPacket} {κ : Bool → Prop} (h : L_laws_eqPacket a_0 b_1 κ) :
    Calls Tryd.prog 90 #[(.agg #[(.int .i64 a_0.xFrom), (.int .i64 a_0.xTo), (.int .i64 a_0.xPort), (.int .i64 a_0.xProto)]), (.agg #[(.int .i64 b_1.xFrom), (.int .i64 b_1.xTo), (.int .i64 b_1.xPort), (.int .i64 b_1.xProto)])] w0 (Ret [] F w0 κ (fun (r : Bool) (u : Unit) => (.bool r)) (fun (r : Bool) (u : Unit) => [])) := by
  refine enter (args := [(.agg #[(.int .i64 a_0.xFrom), (.int .i64 a_0.xTo), (.int .i64 a_0.xPort), (.int .i64 a_0.xProto)]), (.agg #[(.int .i64 b_1.xFrom), (.int .i64 b_1.xTo), (.int .i64 b_1.xPort), (.int .i64 b_1.xProto)])]) [] Tryd.func90 rfl Tryd.ntmps90 rfl [] hf_nil hh_nil (Given.nil w0).lt (Given.nil w0).disj (Given.nil w0).hold h ?_
  clear h
  refine c_seq ?_
  refine c_region ?_
  refine stw (o_box rfl rfl [(.int .i64 a_0.xFrom), (.int .i64 a_0.xTo), (.int .i64 a_0.xPort), (.int .i64 a_0.xProto)] rfl ?_); intro b1
  refine stw (o_box rfl rfl [(.int .i64 b_1.xFrom), (.int .i64 b_1.xTo), (.int .i64 b_1.xPort), (.int .i64 b_1.xProto)] rfl ?_); intro b3
  refine o_as st rfl rfl ?_
  refine c_nil ?_
  refine l_then ?_
  refine c_seq ?_
  refine c_seq ?_
  refine c_region ?_
  refine o_fad st rfl rfl fld30_0 rfl ?_
  refine o_ldc st (v := (.int .i64 a_0.xFrom)) 1 rfl rfl rfl ty3 rfl ?_
  refine o_fad st rfl rfl fld30_0 rfl ?_
  refine o_ldc st (v := (.int .i64 b_1.xFrom)) 0 rfl rfl rfl ty3 rfl ?_
  refine o_neq st und3 rfl rfl rfl ?_
  refine c_nil ?_
  refine l_then ?_
  refine c_cond rfl ?_ ?_
  · refine c_seq ?_
    refine c_region ?_
    refine o_as st rfl rfl ?_
    refine c_nil ?_
    refine l_then ?_
    refine c_ret ?_
    refine l_ret ?_
    exact l_end1 Tryd.results90 false () (rv_t rfl) (fun _ _ => NewCh.nil _ _ _ _)
  · refine c_skip ?_
    refine l_then ?_
    refine c_seq ?_
    refine c_seq ?_
    refine c_region ?_
    refine o_fad st rfl rfl fld30_1 rfl ?_
    refine o_ldc st (v := (.int .i64 a_0.xTo)) 1 rfl rfl rfl ty3 rfl ?_
    refine o_fad st rfl rfl fld30_1 rfl ?_
    refine o_ldc st (v := (.int .i64 b_1.xTo)) 0 rfl rfl rfl ty3 rfl ?_
    refine o_neq st und3 rfl rfl rfl ?_
    refine c_nil ?_
    refine l_then ?_
    refine c_cond rfl ?_ ?_
    · refine c_seq ?_
      refine c_region ?_
      refine o_as st rfl rfl ?_
      refine c_nil ?_
      refine l_then ?_
      refine c_ret ?_
      refine l_ret ?_
      exact l_end1 Tryd.results90 false () (rv_t rfl) (fun _ _ => NewCh.nil _ _ _ _)
    · refine c_skip ?_
      refine l_then ?_
      refine c_seq ?_
      refine c_seq ?_
      refine c_region ?_
      refine o_fad st rfl rfl fld30_2 rfl ?_
      refine o_ldc st (v := (.int .i64 a_0.xPort)) 1 rfl rfl rfl ty3 rfl ?_
      refine o_fad st rfl rfl fld30_2 rfl ?_
      refine o_ldc st (v := (.int .i64 b_1.xPort)) 0 rfl rfl rfl ty3 rfl ?_
      refine o_neq st und3 rfl rfl rfl ?_
      refine c_nil ?_
      refine l_then ?_
      refine c_cond rfl ?_ ?_
      · refine c_seq ?_
        refine c_region ?_
        refine o_as st rfl rfl ?_
        refine c_nil ?_
        refine l_then ?_
        refine c_ret ?_
        refine l_ret ?_
        exact l_end1 Tryd.results90 false () (rv_t rfl) (fun _ _ => NewCh.nil _ _ _ _)
      · refine c_skip ?_
        refine l_then ?_
        refine c_seq ?_
        refine c_seq ?_
        refine c_region ?_
        refine o_fad st rfl rfl fld30_3 rfl ?_
        refine o_ldc st (v := (.int .i64 a_0.xProto)) 1 rfl rfl rfl ty3 rfl ?_
        refine o_fad st rfl rfl fld30_3 rfl ?_
        refine o_ldc st (v := (.int .i64 b_1.xProto)) 0 rfl rfl rfl ty3 rfl ?_
        refine o_neq st und3 rfl rfl rfl ?_
        refine c_nil ?_
        refine l_then ?_
        refine c_cond rfl ?_ ?_
        · refine c_seq ?_
          refine c_region ?_
          refine o_as st rfl rfl ?_
          refine c_nil ?_
          refine l_then ?_
          refine c_ret ?_
          refine l_ret ?_
          exact l_end1 Tryd.results90 false () (rv_t rfl) (fun _ _ => NewCh.nil _ _ _ _)
        · refine c_skip ?_
          refine l_then ?_
          refine c_seq ?_
          refine c_region ?_
          refine o_as st rfl rfl ?_
          refine c_nil ?_
          refine l_then ?_
          refine c_ret ?_
          exact l_end1 Tryd.results90 true () (rv_t rfl) (fun _ _ => NewCh.nil _ _ _ _)

set_option maxRecDepth 100000 in
set_option maxHeartbeats 8000000 in
theorem w_laws_eqFlow {w0 : World} {F : Nat → Prop} {a_0 : GFlow} {b_1 : GFlow} {κ : Bool → Prop} (h : L_laws_eqFlow a_0 b_1 κ) :
    Calls Tryd.prog 64 #[(.agg #[(.int .i64 a_0.xWho.xFrom), (.int .i64 a_0.xWho.xTo), (.int .i64 a_0.xWho.xPort), (.int .i64 a_0.xWho.xProto), (.int .i64 a_0.xUntil)]), (.agg #[(.int .i64 b_1.xWho.xFrom), (.int .i64 b_1.xWho.xTo), (.int .i64 b_1.xWho.xPort), (.int .i64 b_1.xWho.xProto), (.int .i64 b_1.xUntil)])] w0 (Ret [] F w0 κ (fun (r : Bool) (u : Unit) => (.bool r)) (fun (r : Bool) (u : Unit) => [])) := by
  refine enter (args := [(.agg #[(.int .i64 a_0.xWho.xFrom), (.int .i64 a_0.xWho.xTo), (.int .i64 a_0.xWho.xPort), (.int .i64 a_0.xWho.xProto), (.int .i64 a_0.xUntil)]), (.agg #[(.int .i64 b_1.xWho.xFrom), (.int .i64 b_1.xWho.xTo), (.int .i64 b_1.xWho.xPort), (.int .i64 b_1.xWho.xProto), (.int .i64 b_1.xUntil)])]) [] Tryd.func64 rfl Tryd.ntmps64 rfl [] hf_nil hh_nil (Given.nil w0).lt (Given.nil w0).disj (Given.nil w0).hold h ?_
  clear h
  refine c_seq ?_
  refine c_region ?_
  refine stw (o_box rfl rfl [(.int .i64 a_0.xWho.xFrom), (.int .i64 a_0.xWho.xTo), (.int .i64 a_0.xWho.xPort), (.int .i64 a_0.xWho.xProto), (.int .i64 a_0.xUntil)] rfl ?_); intro b1
  refine stw (o_box rfl rfl [(.int .i64 b_1.xWho.xFrom), (.int .i64 b_1.xWho.xTo), (.int .i64 b_1.xWho.xPort), (.int .i64 b_1.xWho.xProto), (.int .i64 b_1.xUntil)] rfl ?_); intro b3
  refine o_as st rfl rfl ?_
  refine c_nil ?_
  refine l_then ?_
  refine c_seq ?_
  refine c_seq ?_
  refine c_region ?_
  refine o_fad st rfl rfl fld83_0 rfl ?_
  refine o_ldc st (v := (.agg #[(.int .i64 a_0.xWho.xFrom), (.int .i64 a_0.xWho.xTo), (.int .i64 a_0.xWho.xPort), (.int .i64 a_0.xWho.xProto)])) 1 rfl rfl rfl ty30 rfl ?_
  refine o_fad st rfl rfl fld83_0 rfl ?_
  refine o_ldc st (v := (.agg #[(.int .i64 b_1.xWho.xFrom), (.int .i64 b_1.xWho.xTo), (.int .i64 b_1.xWho.xPort), (.int .i64 b_1.xWho.xProto)])) 0 rfl rfl rfl ty30 rfl ?_
  refine stw (o_callP (vs := [(.agg #[(.int .i64 a_0.xWho.xFrom), (.int .i64 a_0.xWho.xTo), (.int .i64 a_0.xWho.xPort), (.int .i64 a_0.xWho.xProto)]), (.agg #[(.int .i64 b_1.xWho.xFrom), (.int .i64 b_1.xWho.xTo), (.int .i64 b_1.xWho.xPort), (.int .i64 b_1.xWho.xProto)])]) Tryd.call90 rfl rfl (by intro w m h; exact w_laws_eqPacket (a_0 := a_0.xWho) (b_1 := b_1.xWho) h) ?_); rintro r5 _
  refine o_not st rfl rfl ?_
  refine c_nil ?_
  refine l_then ?_
  refine c_cond rfl ?_ ?_
  · refine c_seq ?_
    refine c_region ?_
    refine o_as st rfl rfl ?_
    refine c_nil ?_
    refine l_then ?_
    refine c_ret ?_
    refine l_ret ?_
    exact l_end1 Tryd.results64 false () (rv_t rfl) (fun _ _ => NewCh.nil _ _ _ _)
  · refine c_skip ?_
    refine l_then ?_
    refine c_seq ?_
    refine c_seq ?_
    refine c_region ?_
    refine o_fad st rfl rfl fld83_1 rfl ?_
    refine o_ldc st (v := (.int .i64 a_0.xUntil)) 1 rfl rfl rfl ty3 rfl ?_
    refine o_fad st rfl rfl fld83_1 rfl ?_
    refine o_ldc st (v := (.int .i64 b_1.xUntil)) 0 rfl rfl rfl ty3 rfl ?_
    refine o_neq st und3 rfl rfl rfl ?_
    refine c_nil ?_
    refine l_then ?_
    refine c_cond rfl ?_ ?_
    · refine c_seq ?_
      refine c_region ?_
      refine o_as st rfl rfl ?_
      refine c_nil ?_
      refine l_then ?_
      refine c_ret ?_
      refine l_ret ?_
      exact l_end1 Tryd.results64 false () (rv_t rfl) (fun _ _ => NewCh.nil _ _ _ _)
    · refine c_skip ?_
      refine l_then ?_
      refine c_seq ?_
      refine c_region ?_
      refine o_as st rfl rfl ?_
      refine c_nil ?_
      refine l_then ?_
      refine c_ret ?_
      exact l_end1 Tryd.results64 true () (rv_t rfl) (fun _ _ => NewCh.nil _ _ _ _)

set_option maxRecDepth 100000 in
set_option maxHeartbeats 8000000 in
theorem w_laws_eqFlowS {w0 : World} {F : Nat → Prop} {v1 v3 : Value} {a_0 : (List GFlow)} {b_1 : (List GFlow)} {κ : Bool → Prop} (hv1 : Sl elGFlow (fun b => b < w0.heap.size ∧ ¬ feet [] b) w0 v1 a_0) (hv3 : Sl elGFlow (fun b => b < w0.heap.size ∧ ¬ feet [] b) w0 v3 b_1) (h : L_laws_eqFlowS a_0 b_1 κ) :
    Calls Tryd.prog 19 #[v1, v3] w0 (Ret [] F w0 κ (fun (r : Bool) (u : Unit) => (.bool r)) (fun (r : Bool) (u : Unit) => [])) := by
  refine enter (args := [v1, v3]) [] Tryd.func19 rfl Tryd.ntmps19 rfl [roCh elGFlow v1 a_0, roCh elGFlow v3 b_1] (hf_cons (hf_cons hf_nil)) (hh_cons hv1 (hh_cons hv3 hh_nil)) (Given.nil w0).lt (Given.nil w0).disj (Given.nil w0).hold h ?_
  clear h hv1 hv3
  refine c_seq ?_
  refine c_region ?_
  refine o_as st rfl rfl ?_
  refine c_nil ?_
  refine l_then ?_
  refine c_seq ?_
  refine c_seq ?_
  refine c_region ?_
  refine o_mv st rfl rfl ?_
  refine o_len st el26 0 rfl reads_ro rfl rfl ?_
  refine o_mv st rfl rfl ?_
  refine o_len st el26 1 rfl reads_ro rfl rfl ?_
  refine o_neq st und3 rfl rfl rfl ?_
  refine c_nil ?_
  refine l_then ?_
  refine c_cond rfl ?_ ?_
  · refine c_seq ?_
    refine c_region ?_
    refine o_as st rfl rfl ?_
    refine c_nil ?_
    refine l_then ?_
    refine c_ret ?_
    refine l_ret ?_
    exact l_end1 Tryd.results19 false () (rv_t rfl) (fun _ _ => NewCh.nil _ _ _ _)
  · refine c_skip ?_
    refine l_then ?_
    refine c_seq ?_
    refine c_seq ?_
    refine c_region ?_
    refine o_as st rfl rfl ?_
    refine c_nil ?_
    refine l_then ?_
    refine c_block ?_
    refine c_loop (σ := Int) (fun (t5 : Int) (a : Act) (w : World) => Has 27 [(0, v1), (1, v3), (5, (.int .i64 t5))] a ∧ Mem (fun _ => True) (feet []) w0 [roCh elGFlow v1 a_0, roCh elGFlow v3 b_1] w) (fun a w hE hm => ⟨hE.sub ⟨rfl, rfl, rfl, trivial⟩, (hm.pick [0, 1] rfl)⟩) ?_
    rintro nx6 t5 a w ⟨hE, hm⟩ h
    refine nx_of hE hm h ?_
    clear hE hm h
    refine c_seq ?_
    refine c_seq ?_
    refine c_region ?_
    refine o_mv st rfl rfl ?_
    refine o_mv st rfl rfl ?_
    refine o_len st el26 0 rfl reads_ro rfl rfl ?_
    refine o_lss st rfl rfl rfl ?_
    refine c_nil ?_
    refine l_then ?_
    refine c_cond rfl ?_ ?_
    · refine c_skip ?_
      refine l_then ?_
      refine c_seq ?_
      refine c_block ?_
      refine c_seq ?_
      refine c_draw mixed 10 rfl [roCh elGFlow v1 a_0, roCh elGFlow v3 b_1] ?_
      refine o_mv (d_take (i := 0) rfl (by kernel_rfl) (by kernel_rfl) (by kernel_rfl) (fun c a d v w h => by cases d <;> exact h) (fun w m => m.pick [0, 1] rfl)) rfl rfl ?_
      refine o_mv (d_take (i := 1) rfl (by kernel_rfl) (by kernel_rfl) (by kernel_rfl) (fun c a d v w h => by cases d <;> exact h) (fun w m => m.pick [0, 1] rfl)) rfl rfl ?_
      refine o_idx (d_take (i := 2) rfl (by kernel_rfl) (by kernel_rfl) (by kernel_rfl) (fun c a d v w h => by cases d <;> exact h) (fun w m => m.pick [0, 1] rfl)) 0 rfl reads_ro rfl rfl rfl el26 ?_; intro e7 h8
      refine o_lds (d_take (i := 3) rfl (by kernel_rfl) (by kernel_rfl) (by kernel_rfl) (fun c a d v w h => by cases d <;> exact h) (fun w m => m.pick [0, 1] rfl)) (enc := encGFlow) (u := (.agg #[(.int .i64 e7.xWho.xFrom), (.int .i64 e7.xWho.xTo), (.int .i64 e7.xWho.xPort), (.int .i64 e7.xWho.xProto), (.int .i64 e7.xUntil)])) 0 rfl reads_ro flelGFlow rfl h8 rfl rfl ty83 rfl ?_
      refine o_mv (d_take (i := 4) rfl (by kernel_rfl) (by kernel_rfl) (by kernel_rfl) (fun c a d v w h => by cases d <;> exact h) (fun w m => m.pick [0, 1] rfl)) rfl rfl ?_
      refine o_mv (d_take (i := 5) rfl (by kernel_rfl) (by kernel_rfl) (by kernel_rfl) (fun c a d v w h => by cases d <;> exact h) (fun w m => m.pick [0, 1] rfl)) rfl rfl ?_
      refine o_idx (d_take (i := 6) rfl (by kernel_rfl) (by kernel_rfl) (by kernel_rfl) (fun c a d v w h => by cases d <;> exact h) (fun w m => m.pick [0, 1] rfl)) 1 rfl reads_ro rfl rfl rfl el26 ?_; intro e9 h10
      refine o_lds (d_take (i := 7) rfl (by kernel_rfl) (by kernel_rfl) (by kernel_rfl) (fun c a d v w h => by cases d <;> exact h) (fun w m => m.pick [0, 1] rfl)) (enc := encGFlow) (u := (.agg #[(.int .i64 e9.xWho.xFrom), (.int .i64 e9.xWho.xTo), (.int .i64 e9.xWho.xPort), (.int .i64 e9.xWho.xProto), (.int .i64 e9.xUntil)])) 1 rfl reads_ro flelGFlow rfl h10 rfl rfl ty83 rfl ?_
      refine d_one (i := 8) rfl (by kernel_rfl) (o_callP (vs := [(.agg #[(.int .i64 e7.xWho.xFrom), (.int .i64 e7.xWho.xTo), (.int .i64 e7.xWho.xPort), (.int .i64 e7.xWho.xProto), (.int .i64 e7.xUntil)]), (.agg #[(.int .i64 e9.xWho.xFrom), (.int .i64 e9.xWho.xTo), (.int .i64 e9.xWho.xPort), (.int .i64 e9.xWho.xProto), (.int .i64 e9.xUntil)])]) Tryd.call64 rfl rfl (by intro w m h; exact w_laws_eqFlow (a_0 := e7) (b_1 := e9) h) ?_); rintro r11 _
      refine d_and (fun w m => m.pick [0, 1] rfl) ?_
      refine o_not (d_take (i := 9) rfl (by kernel_rfl) (by kernel_rfl) (by kernel_rfl) (fun c a d v w h => by cases d <;> exact h) (fun w m => m.pick [0, 1] rfl)) rfl rfl ?_
      refine d_done (by kernel_rfl) ?_
      refine l_then ?_
      refine c_cond rfl ?_ ?_
      · refine c_seq ?_
        refine c_region ?_
        refine o_as st rfl rfl ?_
        refine c_nil ?_
        refine l_then ?_
        refine c_ret ?_
        refine b_ret ?_
        refine l_ret ?_
        refine l_ret ?_
        refine b_ret ?_
        refine l_ret ?_
        exact l_end1 Tryd.results19 false () (rv_t rfl) (fun _ _ => NewCh.nil _ _ _ _)
      · refine c_skip ?_
        refine b_norm ?_
        refine l_then ?_
        refine c_region ?_
        refine o_mv st rfl rfl ?_
        refine o_add st rfl rfl rfl ?_; intro t12
        refine o_as st rfl rfl ?_
        refine c_nil ?_
        exact l_join t12 (fun a w hE hm => ⟨hE.sub ⟨rfl, rfl, rfl, trivial⟩, (hm.pick [0, 1] rfl)⟩)
    · refine c_exit ?_
      refine l_exit ?_
      refine l_exit ?_
      refine b_exit ?_
      refine l_then ?_
      refine c_seq ?_
      refine c_region ?_
      refine o_as st rfl rfl ?_
      refine c_nil ?_
      refine l_then ?_
      refine c_ret ?_
      exact l_end1 Tryd.results19 true () (rv_t rfl) (fun _ _ => NewCh.nil _ _ _ _)

set_option maxRecDepth 100000 in
set_option maxHeartbeats 8000000 in
theorem w_laws_markFlowS {w0 : World} {F : Nat → Prop} {v1 : Value} {a_0 : (List GFlow)} {k_1 : Int} {κ : (Int × (List GFlow)) → Prop} (hg : Given [ownCh elGFlow 83 v1 a_0] w0) (h : L_laws_markFlowS a_0 k_1 κ) :
    Calls Tryd.prog 20 #[v1, (.int .i64 k_1)] w0 (Ret [ownCh elGFlow 83 v1 a_0] F w0 κ (fun (r : (Int × (List GFlow))) (u : Unit) => (.int .i64 r.1)) (fun (r : (Int × (List GFlow))) (u : Unit) => [ownCh elGFlow 83 v1 (r.2)])) := by
  refine enter (args := [v1, (.int .i64 k_1)]) [ownCh elGFlow 83 v1 a_0] Tryd.func20 rfl Tryd.ntmps20 rfl [] hf_nil hh_nil hg.lt hg.disj hg.hold h ?_
  clear h hg
  refine c_seq ?_
  refine c_region ?_
  refine o_as st rfl rfl ?_
  refine c_nil ?_
  refine l_then ?_
  refine c_seq ?_
  refine c_seq ?_
  refine c_region ?_
  refine o_as st rfl rfl ?_
  refine c_nil ?_
  refine l_then ?_
  refine c_block ?_
  refine c_loop (σ := ((List GFlow) × Int × Int)) (fun ((xs3, t5, t6) : ((List GFlow) × Int × Int)) (a : Act) (w : World) => Has 52 [(0, v1), (1, (.int .i64 t5)), (5, (.int .i64 t6))] a ∧ Mem (fun _ => True) (feet [ownCh elGFlow 83 v1 a_0]) w0 [ownCh elGFlow 83 v1 xs3] w) (fun a w hE hm => ⟨hE.sub ⟨rfl, rfl, rfl, trivial⟩, (hm.pick [0] rfl)⟩) ?_
  rintro nx7 ⟨xs3, t5, t6⟩ a w ⟨hE, hm⟩ h
  refine nx_of hE hm h ?_
  clear hE hm h
  refine c_seq ?_
  refine c_seq ?_
  refine c_region ?_
  refine o_mv st rfl rfl ?_
  refine o_mv st rfl rfl ?_
  refine o_len st el26 0 rfl reads_own rfl rfl ?_
  refine o_lss st rfl rfl rfl ?_
  refine c_nil ?_
  refine l_then ?_
  refine c_cond rfl ?_ ?_
  · refine c_skip ?_
    refine l_then ?_
    refine c_seq ?_
    refine c_block ?_
    refine c_seq ?_
    refine c_region ?_
    refine o_mv st rfl rfl ?_
    refine o_mv st rfl rfl ?_
    refine o_mv st rfl rfl ?_
    refine o_idx st 0 rfl reads_own rfl rfl rfl el26 ?_; intro e8 h9
    refine o_fadS st 0 rfl reads_own h9 rfl rfl fld83_0 rfl ?_
    refine o_fadS st 0 rfl reads_own h9 rfl rfl fld30_0 rfl ?_
    refine stw (o_sts (enc := encGFlow) (y' := (GFlow.mk (GPacket.mk t5 e8.xWho.xTo e8.xWho.xPort e8.xWho.xProto) e8.xUntil)) 0 rfl flelGFlow rfl h9 ty3 rfl rfl rfl rfl rfl rfl ?_)
    refine c_nil ?_
    refine l_then ?_
    refine c_seq ?_
    refine c_region ?_
    refine o_mv st rfl rfl ?_
    refine o_add st rfl rfl rfl ?_; intro t11
    refine o_as st rfl rfl ?_
    refine c_nil ?_
    refine l_then ?_
    refine c_seq ?_
    refine c_region ?_
    refine o_mv st rfl rfl ?_
    refine o_mv st rfl rfl ?_
    refine o_mv st rfl rfl ?_
    refine o_idx st 0 rfl reads_own rfl rfl rfl el26 ?_; intro e12 h13
    refine o_fadS st 0 rfl reads_own h13 rfl rfl fld83_0 rfl ?_
    refine o_fadS st 0 rfl reads_own h13 rfl rfl fld30_1 rfl ?_
    refine stw (o_sts (enc := encGFlow) (y' := (GFlow.mk (GPacket.mk e12.xWho.xFrom t11 e12.xWho.xPort e12.xWho.xProto) e12.xUntil)) 0 rfl flelGFlow rfl h13 ty3 rfl rfl rfl rfl rfl rfl ?_)
    refine c_nil ?_
    refine l_then ?_
    refine c_seq ?_
    refine c_region ?_
    refine o_mv st rfl rfl ?_
    refine o_add st rfl rfl rfl ?_; intro t15
    refine o_as st rfl rfl ?_
    refine c_nil ?_
    refine l_then ?_
    refine c_seq ?_
    refine c_region ?_
    refine o_mv st rfl rfl ?_
    refine o_mv st rfl rfl ?_
    refine o_mv st rfl rfl ?_
    refine o_idx st 0 rfl reads_own rfl rfl rfl el26 ?_; intro e16 h17
    refine o_fadS st 0 rfl reads_own h17 rfl rfl fld83_0 rfl ?_
    refine o_fadS st 0 rfl reads_own h17 rfl rfl fld30_2 rfl ?_
    refine stw (o_sts (enc := encGFlow) (y' := (GFlow.mk (GPacket.mk e16.xWho.xFrom e16.xWho.xTo t15 e16.xWho.xProto) e16.xUntil)) 0 rfl flelGFlow rfl h17 ty3 rfl rfl rfl rfl rfl rfl ?_)
    refine c_nil ?_
    refine l_then ?_
    refine c_seq ?_
    refine c_region ?_
    refine o_mv st rfl rfl ?_
    refine o_add st rfl rfl rfl ?_; intro t19
    refine o_as st rfl rfl ?_
    refine c_nil ?_
    refine l_then ?_
    refine c_seq ?_
    refine c_region ?_
    refine o_mv st rfl rfl ?_
    refine o_mv st rfl rfl ?_
    refine o_mv st rfl rfl ?_
    refine o_idx st 0 rfl reads_own rfl rfl rfl el26 ?_; intro e20 h21
    refine o_fadS st 0 rfl reads_own h21 rfl rfl fld83_0 rfl ?_
    refine o_fadS st 0 rfl reads_own h21 rfl rfl fld30_3 rfl ?_
    refine stw (o_sts (enc := encGFlow) (y' := (GFlow.mk (GPacket.mk e20.xWho.xFrom e20.xWho.xTo e20.xWho.xPort t19) e20.xUntil)) 0 rfl flelGFlow rfl h21 ty3 rfl rfl rfl rfl rfl rfl ?_)
    refine c_nil ?_
    refine l_then ?_
    refine c_seq ?_
    refine c_region ?_
    refine o_mv st rfl rfl ?_
    refine o_add st rfl rfl rfl ?_; intro t23
    refine o_as st rfl rfl ?_
    refine c_nil ?_
    refine l_then ?_
    refine c_seq ?_
    refine c_region ?_
    refine o_mv st rfl rfl ?_
    refine o_mv st rfl rfl ?_
    refine o_mv st rfl rfl ?_
    refine o_idx st 0 rfl reads_own rfl rfl rfl el26 ?_; intro e24 h25
    refine o_fadS st 0 rfl reads_own h25 rfl rfl fld83_1 rfl ?_
    refine stw (o_sts (enc := encGFlow) (y' := (GFlow.mk e24.xWho t23)) 0 rfl flelGFlow rfl h25 ty3 rfl rfl rfl rfl rfl rfl ?_)
    refine c_nil ?_
    refine l_then ?_
    refine c_region ?_
    refine o_mv st rfl rfl ?_
    refine o_add st rfl rfl rfl ?_; intro t27
    refine o_as st rfl rfl ?_
    refine c_nil ?_
    refine b_norm ?_
    refine l_then ?_
    refine c_region ?_
    refine o_mv st rfl rfl ?_
    refine o_add st rfl rfl rfl ?_; intro t28
    refine o_as st rfl rfl ?_
    refine c_nil ?_
    exact l_join ((((((xs3.set t6.toNat (GFlow.mk (GPacket.mk t5 e8.xWho.xTo e8.xWho.xPort e8.xWho.xProto) e8.xUntil)).set t6.toNat (GFlow.mk (GPacket.mk e12.xWho.xFrom t11 e12.xWho.xPort e12.xWho.xProto) e12.xUntil)).set t6.toNat (GFlow.mk (GPacket.mk e16.xWho.xFrom e16.xWho.xTo t15 e16.xWho.xProto) e16.xUntil)).set t6.toNat (GFlow.mk (GPacket.mk e20.xWho.xFrom e20.xWho.xTo e20.xWho.xPort t19) e20.xUntil)).set t6.toNat (GFlow.mk e24.xWho t23)), t27, t28) (fun a w hE hm => ⟨hE.sub ⟨rfl, rfl, rfl, trivial⟩, (hm.pick [0] rfl)⟩)
  · refine c_exit ?_
    refine l_exit ?_
    refine l_exit ?_
    refine b_exit ?_
    refine l_then ?_
    refine c_seq ?_
    refine c_region ?_
    refine o_mv st rfl rfl ?_
    refine o_as st rfl rfl ?_
    refine c_nil ?_
    refine l_then ?_
    refine c_ret ?_
    exact l_end1 Tryd.results20 (t5, xs3) () (rv_t rfl) (fun w m => NewCh.of m [0] rfl (fr_cons (free_own flelGFlow) fr_nil))

set_option maxRecDepth 100000 in
set_option maxHeartbeats 8000000 in
theorem w_laws_heldFlowS {w0 : World} {F : Nat → Prop} {v1 : Value} {a_0 : (List GFlow)} {k_1 : Int} {κ : Int → Prop} (hv1 : Sl elGFlow (fun b => b < w0.heap.size ∧ ¬ feet [] b) w0 v1 a_0) (h : L_laws_heldFlowS a_0 k_1 κ) :
    Calls Tryd.prog 21 #[v1, (.int .i64 k_1)] w0 (Ret [] F w0 κ (fun (r : Int) (u : Unit) => (.int .i64 r)) (fun (r : Int) (u : Unit) => [])) := by
  refine enter (args := [v1, (.int .i64 k_1)]) [] Tryd.func21 rfl Tryd.ntmps21 rfl [roCh elGFlow v1 a_0] (hf_cons hf_nil) (hh_cons hv1 hh_nil) (Given.nil w0).lt (Given.nil w0).disj (Given.nil w0).hold h ?_
  clear h hv1
  refine c_seq ?_
  refine c_region ?_
  refine o_as st rfl rfl ?_
  refine c_nil ?_
  refine l_then ?_
  refine c_seq ?_
  refine c_seq ?_
  refine c_region ?_
  refine o_as st rfl rfl ?_
  refine c_nil ?_
  refine l_then ?_
  refine c_block ?_
  refine c_loop (σ := (Int × Int)) (fun ((t3, t4) : (Int × Int)) (a : Act) (w : World) => Has 62 [(0, v1), (1, (.int .i64 t3)), (5, (.int .i64 t4))] a ∧ Mem (fun _ => True) (feet []) w0 [roCh elGFlow v1 a_0] w) (fun a w hE hm => ⟨hE.sub ⟨rfl, rfl, rfl, trivial⟩, (hm.pick [0] rfl)⟩) ?_
  rintro nx5 ⟨t3, t4⟩ a w ⟨hE, hm⟩ h
  refine nx_of hE hm h ?_
  clear hE hm h
  refine c_seq ?_
  refine c_seq ?_
  refine c_region ?_
  refine o_mv st rfl rfl ?_
  refine o_mv st rfl rfl ?_
  refine o_len st el26 0 rfl reads_ro rfl rfl ?_
  refine o_lss st rfl rfl rfl ?_
  refine c_nil ?_
  refine l_then ?_
  refine c_cond rfl ?_ ?_
  · refine c_skip ?_
    refine l_then ?_
    refine c_seq ?_
    refine c_block ?_
    refine c_seq ?_
    refine c_seq ?_
    refine c_region ?_
    refine o_mv st rfl rfl ?_
    refine o_mv st rfl rfl ?_
    refine o_idx st 0 rfl reads_ro rfl rfl rfl el26 ?_; intro e6 h7
    refine o_fadS st 0 rfl reads_ro h7 rfl rfl fld83_0 rfl ?_
    refine o_fadS st 0 rfl reads_ro h7 rfl rfl fld30_0 rfl ?_
    refine o_lds st (enc := encGFlow) (u := (.int .i64 e6.xWho.xFrom)) 0 rfl reads_ro flelGFlow rfl h7 rfl rfl ty3 rfl ?_
    refine o_mv st rfl rfl ?_
    refine o_neq st und3 rfl rfl rfl ?_
    refine c_nil ?_
    refine l_then ?_
    refine c_cond rfl ?_ ?_
    · refine c_seq ?_
      refine c_region ?_
      refine o_as st rfl rfl ?_
      refine c_nil ?_
      refine l_then ?_
      refine c_ret ?_
      refine l_ret ?_
      refine b_ret ?_
      refine l_ret ?_
      refine l_ret ?_
      refine b_ret ?_
      refine l_ret ?_
      exact l_end1 Tryd.results21 (-1) () (rv_t rfl) (fun _ _ => NewCh.nil _ _ _ _)
    · refine c_skip ?_
      refine l_then ?_
      refine c_seq ?_
      refine c_region ?_
      refine o_mv st rfl rfl ?_
      refine o_add st rfl rfl rfl ?_; intro t8
      refine o_as st rfl rfl ?_
      refine c_nil ?_
      refine l_then ?_
      refine c_seq ?_
      refine c_seq ?_
      refine c_region ?_
      refine o_mv st rfl rfl ?_
      refine o_mv st rfl rfl ?_
      refine o_idx st 0 rfl reads_ro rfl rfl rfl el26 ?_; intro e9 h10
      refine o_fadS st 0 rfl reads_ro h10 rfl rfl fld83_0 rfl ?_
      refine o_fadS st 0 rfl reads_ro h10 rfl rfl fld30_1 rfl ?_
      refine o_lds st (enc := encGFlow) (u := (.int .i64 e9.xWho.xTo)) 0 rfl reads_ro flelGFlow rfl h10 rfl rfl ty3 rfl ?_
      refine o_mv st rfl rfl ?_
      refine o_neq st und3 rfl rfl rfl ?_
      refine c_nil ?_
      refine l_then ?_
      refine c_cond rfl ?_ ?_
      · refine c_seq ?_
        refine c_region ?_
        refine o_as st rfl rfl ?_
        refine c_nil ?_
        refine l_then ?_
        refine c_ret ?_
        refine l_ret ?_
        refine b_ret ?_
        refine l_ret ?_
        refine l_ret ?_
        refine b_ret ?_
        refine l_ret ?_
        exact l_end1 Tryd.results21 (-1) () (rv_t rfl) (fun _ _ => NewCh.nil _ _ _ _)
      · refine c_skip ?_
        refine l_then ?_
        refine c_seq ?_
        refine c_region ?_
        refine o_mv st rfl rfl ?_
        refine o_add st rfl rfl rfl ?_; intro t11
        refine o_as st rfl rfl ?_
        refine c_nil ?_
        refine l_then ?_
        refine c_seq ?_
        refine c_seq ?_
        refine c_region ?_
        refine o_mv st rfl rfl ?_
        refine o_mv st rfl rfl ?_
        refine o_idx st 0 rfl reads_ro rfl rfl rfl el26 ?_; intro e12 h13
        refine o_fadS st 0 rfl reads_ro h13 rfl rfl fld83_0 rfl ?_
        refine o_fadS st 0 rfl reads_ro h13 rfl rfl fld30_2 rfl ?_
        refine o_lds st (enc := encGFlow) (u := (.int .i64 e12.xWho.xPort)) 0 rfl reads_ro flelGFlow rfl h13 rfl rfl ty3 rfl ?_
        refine o_mv st rfl rfl ?_
        refine o_neq st und3 rfl rfl rfl ?_
        refine c_nil ?_
        refine l_then ?_
        refine c_cond rfl ?_ ?_
        · refine c_seq ?_
          refine c_region ?_
          refine o_as st rfl rfl ?_
          refine c_nil ?_
          refine l_then ?_
          refine c_ret ?_
          refine l_ret ?_
          refine b_ret ?_
          refine l_ret ?_
          refine l_ret ?_
          refine b_ret ?_
          refine l_ret ?_
          exact l_end1 Tryd.results21 (-1) () (rv_t rfl) (fun _ _ => NewCh.nil _ _ _ _)
        · refine c_skip ?_
          refine l_then ?_
          refine c_seq ?_
          refine c_region ?_
          refine o_mv st rfl rfl ?_
          refine o_add st rfl rfl rfl ?_; intro t14
          refine o_as st rfl rfl ?_
          refine c_nil ?_
          refine l_then ?_
          refine c_seq ?_
          refine c_seq ?_
          refine c_region ?_
          refine o_mv st rfl rfl ?_
          refine o_mv st rfl rfl ?_
          refine o_idx st 0 rfl reads_ro rfl rfl rfl el26 ?_; intro e15 h16
          refine o_fadS st 0 rfl reads_ro h16 rfl rfl fld83_0 rfl ?_
          refine o_fadS st 0 rfl reads_ro h16 rfl rfl fld30_3 rfl ?_
          refine o_lds st (enc := encGFlow) (u := (.int .i64 e15.xWho.xProto)) 0 rfl reads_ro flelGFlow rfl h16 rfl rfl ty3 rfl ?_
          refine o_mv st rfl rfl ?_
          refine o_neq st und3 rfl rfl rfl ?_
          refine c_nil ?_
          refine l_then ?_
          refine c_cond rfl ?_ ?_
          · refine c_seq ?_
            refine c_region ?_
            refine o_as st rfl rfl ?_
            refine c_nil ?_
            refine l_then ?_
            refine c_ret ?_
            refine l_ret ?_
            refine b_ret ?_
            refine l_ret ?_
            refine l_ret ?_
            refine b_ret ?_
            refine l_ret ?_
            exact l_end1 Tryd.results21 (-1) () (rv_t rfl) (fun _ _ => NewCh.nil _ _ _ _)
          · refine c_skip ?_
            refine l_then ?_
            refine c_seq ?_
            refine c_region ?_
            refine o_mv st rfl rfl ?_
            refine o_add st rfl rfl rfl ?_; intro t17
            refine o_as st rfl rfl ?_
            refine c_nil ?_
            refine l_then ?_
            refine c_seq ?_
            refine c_seq ?_
            refine c_region ?_
            refine o_mv st rfl rfl ?_
            refine o_mv st rfl rfl ?_
            refine o_idx st 0 rfl reads_ro rfl rfl rfl el26 ?_; intro e18 h19
            refine o_fadS st 0 rfl reads_ro h19 rfl rfl fld83_1 rfl ?_
            refine o_lds st (enc := encGFlow) (u := (.int .i64 e18.xUntil)) 0 rfl reads_ro flelGFlow rfl h19 rfl rfl ty3 rfl ?_
            refine o_mv st rfl rfl ?_
            refine o_neq st und3 rfl rfl rfl ?_
            refine c_nil ?_
            refine l_then ?_
            refine c_cond rfl ?_ ?_
            · refine c_seq ?_
              refine c_region ?_
              refine o_as st rfl rfl ?_
              refine c_nil ?_
              refine l_then ?_
              refine c_ret ?_
              refine l_ret ?_
              refine b_ret ?_
              refine l_ret ?_
              refine l_ret ?_
              refine b_ret ?_
              refine l_ret ?_
              exact l_end1 Tryd.results21 (-1) () (rv_t rfl) (fun _ _ => NewCh.nil _ _ _ _)
            · refine c_skip ?_
              refine l_then ?_
              refine c_region ?_
              refine o_mv st rfl rfl ?_
              refine o_add st rfl rfl rfl ?_; intro t20
              refine o_as st rfl rfl ?_
              refine c_nil ?_
              refine b_norm ?_
              refine l_then ?_
              refine c_region ?_
              refine o_mv st rfl rfl ?_
              refine o_add st rfl rfl rfl ?_; intro t21
              refine o_as st rfl rfl ?_
              refine c_nil ?_
              exact l_join (t20, t21) (fun a w hE hm => ⟨hE.sub ⟨rfl, rfl, rfl, trivial⟩, (hm.pick [0] rfl)⟩)
  · refine c_exit ?_
    refine l_exit ?_
    refine l_exit ?_
    refine b_exit ?_
    refine l_then ?_
    refine c_seq ?_
    refine c_region ?_
    refine o_mv st rfl rfl ?_
    refine o_as st rfl rfl ?_
    refine c_nil ?_
    refine l_then ?_
    refine c_ret ?_
    exact l_end1 Tryd.results21 t3 () (rv_t rfl) (fun _ _ => NewCh.nil _ _ _ _)

set_option maxRecDepth 100000 in
set_option maxHeartbeats 8000000 in
theorem w_laws_FnExactTrackFlow {w0 : World} {F : Nat → Prop} {v1 : Value} {aList_0 : (List GFlow)} {aP_1 : GPacket} {aNow_2 : Int} {aLife_3 : Int} {κ : Bool → Prop} (hv1 : Sl elGFlow (fun b => b < w0.heap.size ∧ ¬ feet [] b) w0 v1 aList_0) (hgl0 : Sl elGFieldShape (fun b => b < w0.heap.size ∧ ¬ feet [] b) w0 (.slice (some ⟨0, 0, none⟩) 4 4) gl_impl_fieldShapes) (h : L_laws_FnExactTrackFlow aList_0 aP_1 aNow_2 aLife_3 κ) :
    Calls Tryd.prog 3 #[v1, (.agg #[(.int .i64 aP_1.xFrom), (.int .i64 aP_1.xTo), (.int .i64 aP_1.xPort), (.int .i64 aP_1.xProto)]), (.int .i64 aNow_2), (.int .i64 aLife_3)] w0 (Ret [] F w0 κ (fun (r : Bool) (u : Unit) => (.bool r)) (fun (r : Bool) (u : Unit) => [])) := by
  refine enter (args := [v1, (.agg #[(.int .i64 aP_1.xFrom), (.int .i64 aP_1.xTo), (.int .i64 aP_1.xPort), (.int .i64 aP_1.xProto)]), (.int .i64 aNow_2), (.int .i64 aLife_3)]) [] Tryd.func3 rfl Tryd.ntmps3 rfl [roCh elGFlow v1 aList_0, roCh elGFieldShape (.slice (some ⟨0, 0, none⟩) 4 4) gl_impl_fieldShapes] (hf_cons (hf_cons hf_nil)) (hh_cons hv1 (hh_cons hgl0 hh_nil)) (Given.nil w0).lt (Given.nil w0).disj (Given.nil w0).hold h ?_
  clear h hv1 hgl0
  refine c_seq ?_
  refine c_region ?_
  refine stw (o_box rfl rfl [(.int .i64 aP_1.xFrom), (.int .i64 aP_1.xTo), (.int .i64 aP_1.xPort), (.int .i64 aP_1.xProto)] rfl ?_); intro b3
  refine o_as st rfl rfl ?_
  refine c_nil ?_
  refine l_then ?_
  refine c_seq ?_
  refine c_region ?_
  refine o_as st rfl rfl ?_
  refine c_nil ?_
  refine l_then ?_
  refine c_seq ?_
  refine c_region ?_
  refine o_mv st rfl rfl ?_
  refine o_mv st rfl rfl ?_
  refine stw (o_callP (vs := [v1, (.int .i64 1048576)]) Tryd.call14 rfl rfl (by intro w m h; exact w_laws_szFlowS (a_0 := aList_0) (left_1 := 1048576) (m.rd0 1 rfl reads_ro) h) ?_); rintro r5 _
  refine o_as st rfl rfl ?_
  refine c_nil ?_
  refine l_then ?_
  refine c_seq ?_
  refine c_seq ?_
  refine c_region ?_
  refine o_mv st rfl rfl ?_
  refine o_lss st rfl rfl rfl ?_
  refine c_nil ?_
  refine l_then ?_
  refine c_cond rfl ?_ ?_
  · refine c_seq ?_
    refine c_region ?_
    refine o_as st rfl rfl ?_
    refine c_nil ?_
    refine l_then ?_
    refine c_ret ?_
    refine l_ret ?_
    exact l_end1 Tryd.results3 true () (rv_t rfl) (fun _ _ => NewCh.nil _ _ _ _)
  · refine c_skip ?_
    refine l_then ?_
    refine c_seq ?_
    refine c_draw mixed 12 rfl [cellCh b3 [(.int .i64 aP_1.xFrom), (.int .i64 aP_1.xTo), (.int .i64 aP_1.xPort), (.int .i64 aP_1.xProto)] 24, roCh elGFlow v1 aList_0, roCh elGFieldShape (.slice (some ⟨0, 0, none⟩) 4 4) gl_impl_fieldShapes] ?_
    refine o_mv (d_take (i := 0) rfl (by kernel_rfl) (by kernel_rfl) (by kernel_rfl) (fun c a d v w h => by cases d <;> exact h) (fun w m => m.pick [0, 1, 2] rfl)) rfl rfl ?_
    refine o_ldc (d_take (i := 2) rfl (by kernel_rfl) (by kernel_rfl) (by kernel_rfl) (fun c a d v w h => by cases d <;> exact h) (fun w m => m.pick [0, 1, 2] rfl)) (v := (.agg #[(.int .i64 aP_1.xFrom), (.int .i64 aP_1.xTo), (.int .i64 aP_1.xPort), (.int .i64 aP_1.xProto)])) 0 rfl rfl rfl ty24 rfl ?_
    refine o_mv (d_take (i := 4) rfl (by kernel_rfl) (by kernel_rfl) (by kernel_rfl) (fun c a d v w h => by cases d <;> exact h) (fun w m => m.pick [0, 1, 2] rfl)) rfl rfl ?_
    refine o_mv (d_take (i := 5) rfl (by kernel_rfl) (by kernel_rfl) (by kernel_rfl) (fun c a d v w h => by cases d <;> exact h) (fun w m => m.pick [0, 1, 2] rfl)) rfl rfl ?_
    refine d_one (i := 1) rfl (by kernel_rfl) (o_callP (vs := [v1]) Tryd.call16 rfl rfl (by intro w m h; exact w_laws_toFlowS (a_0 := aList_0) (m.rd0 1 rfl reads_ro) h) ?_); rintro r6 v7
    refine d_and (fun w m => m.pick [1, 2, 3] rfl) ?_
    refine d_one (i := 3) rfl (by kernel_rfl) (o_callP (vs := [(.agg #[(.int .i64 aP_1.xFrom), (.int .i64 aP_1.xTo), (.int .i64 aP_1.xPort), (.int .i64 aP_1.xProto)])]) Tryd.call17 rfl rfl (by intro w m h; exact w_laws_toPacket (a_0 := aP_1) h) ?_); rintro r9 _
    refine d_and (fun w m => m.pick [1, 2, 3] rfl) ?_
    refine d_one (i := 6) rfl (by kernel_rfl) (o_callP (vs := [v7, (.agg #[(.int .i64 r9.xFrom), (.int .i64 r9.xTo), (.int .i64 r9.xPort), (.int .i64 r9.xProto)]), (.int .i64 aNow_2), (.int .i64 aLife_3)]) Tryd.call15 rfl rfl (by intro w m h; exact w_spec_TrackFlow (list_0 := r6) (p_1 := r9) (now_2 := aNow_2) (life_3 := aLife_3) (m.rd0 0 rfl reads_own) h) ?_); rintro ⟨r10, r11⟩ v12
    refine d_and (fun w m => m.pick [2, 3, 4] rfl) ?_
    refine o_mv (d_take (i := 7) rfl (by kernel_rfl) (by kernel_rfl) (by kernel_rfl) (fun c a d v w h => by cases d <;> exact h) (fun w m => m.pick [2, 3, 4] rfl)) rfl rfl ?_
    refine o_ext (d_take (i := 8) rfl (by kernel_rfl) (by kernel_rfl) (by kernel_rfl) (fun c a d v w h => by cases d <;> exact h) (fun w m => m.pick [2, 3, 4] rfl)) (vs := [v12, (.bool r11)]) rfl rfl rfl ?_
    refine o_ext (d_take (i := 9) rfl (by kernel_rfl) (by kernel_rfl) (by kernel_rfl) (fun c a d v w h => by cases d <;> exact h) (fun w m => m.pick [2, 3, 4] rfl)) (vs := [v12, (.bool r11)]) rfl rfl rfl ?_
    refine o_as (d_take (i := 10) rfl (by kernel_rfl) (by kernel_rfl) (by kernel_rfl) (fun c a d v w h => by cases d <;> exact h) (fun w m => m.pick [2, 3, 4] rfl)) rfl rfl ?_
    refine o_as (d_take (i := 11) rfl (by kernel_rfl) (by kernel_rfl) (by kernel_rfl) (fun c a d v w h => by cases d <;> exact h) (fun w m => m.pick [2, 3, 4] rfl)) rfl rfl ?_
    refine d_done (by kernel_rfl) ?_
    refine l_then ?_
    refine c_seq ?_
    refine c_region ?_
    refine o_mv st rfl rfl ?_
    refine stw (o_callP (vs := [v1]) Tryd.call16 rfl rfl (by intro w m h; exact w_laws_toFlowS (a_0 := aList_0) (m.rd0 3 rfl reads_ro) h) ?_); rintro r14 v15
    refine o_as st rfl rfl ?_
    refine c_nil ?_
    refine l_then ?_
    refine c_seq ?_
    refine c_region ?_
    refine o_mv st rfl rfl ?_
    refine o_ldc st (v := (.agg #[(.int .i64 aP_1.xFrom), (.int .i64 aP_1.xTo), (.int .i64 aP_1.xPort), (.int .i64 aP_1.xProto)])) 3 rfl rfl rfl ty24 rfl ?_
    refine stw (o_callP (vs := [(.agg #[(.int .i64 aP_1.xFrom), (.int .i64 aP_1.xTo), (.int .i64 aP_1.xPort), (.int .i64 aP_1.xProto)])]) Tryd.call17 rfl rfl (by intro w m h; exact w_laws_toPacket (a_0 := aP_1) h) ?_); rintro r17 _
    refine o_mv st rfl rfl ?_
    refine o_mv st rfl rfl ?_
    refine stw (o_callP (vs := [v15, (.agg #[(.int .i64 r17.xFrom), (.int .i64 r17.xTo), (.int .i64 r17.xPort), (.int .i64 r17.xProto)]), (.int .i64 aNow_2), (.int .i64 aLife_3)]) Tryd.call18 rfl rfl (by intro w m h; exact w_impl_TrackFlow (list_0 := r14) (p_1 := r17) (now_2 := aNow_2) (life_3 := aLife_3) (m.rd0 0 rfl reads_own) (m.rd0 5 rfl reads_ro) h) ?_); rintro ⟨r18, r19⟩ v20
    refine o_mv st rfl rfl ?_
    refine o_ext st (vs := [v20, (.bool r19)]) rfl rfl rfl ?_
    refine o_ext st (vs := [v20, (.bool r19)]) rfl rfl rfl ?_
    refine o_as st rfl rfl ?_
    refine o_as st rfl rfl ?_
    refine c_nil ?_
    refine l_then ?_
    refine c_seq ?_
    refine c_join (σ := Bool) (fun (t22 : Bool) (a : Act) (w : World) => Has 114 [(0, v1), (2, (.int .i64 aNow_2)), (3, (.int .i64 aLife_3)), (5, (.pointer (some ⟨b3, 0, none⟩))), (10, v12), (11, (.bool r11)), (12, v15), (13, v20), (14, (.bool r19)), (54, (.bool t22))] a ∧ Mem (fun _ => True) (feet []) w0 [ownCh elGFlow 83 v20 r18, ownCh elGFlow 83 v15 r14, ownCh elGFlow 83 v12 r10, cellCh b3 [(.int .i64 aP_1.xFrom), (.int .i64 aP_1.xTo), (.int .i64 aP_1.xPort), (.int .i64 aP_1.xProto)] 24, roCh elGFlow v1 aList_0, roCh elGFieldShape (.slice (some ⟨0, 0, none⟩) 4 4) gl_impl_fieldShapes] w) ?_ ?_
    · intro k23
      refine c_region ?_
      refine o_mv st rfl rfl ?_
      refine o_mv st rfl rfl ?_
      refine stw (o_callP (vs := [v20, v12]) Tryd.call19 rfl rfl (by intro w m h; exact w_laws_eqFlowS (a_0 := r18) (b_1 := r10) (m.rd0 0 rfl reads_own) (m.rd0 2 rfl reads_own) h) ?_); rintro r24 _
      refine o_not st rfl rfl ?_
      refine o_mv st rfl rfl ?_
      refine st_sp (dj := 50) rfl ?_ ?_
      · refine st_s rfl rfl rfl rfl ?_
        refine st_s rfl rfl rfl rfl ?_
        refine st_s rfl rfl rfl rfl ?_
        refine o_pickT st rfl rfl rfl ?_
        refine c_nil ?_
        exact l_join true (fun a w hE hm => ⟨hE.sub ⟨rfl, rfl, rfl, rfl, rfl, rfl, rfl, rfl, rfl, rfl, trivial⟩, (hm.pick [0, 1, 2, 4, 5, 6] rfl)⟩)
      · refine o_mv (st_g rfl rfl) rfl rfl ?_
        refine o_mv (st_g rfl rfl) rfl rfl ?_
        refine o_neqB (st_g rfl rfl) und4 rfl rfl rfl ?_
        refine o_pickF st rfl rfl rfl ?_
        refine c_nil ?_
        exact l_join (!(decide (r19 = r11))) (fun a w hE hm => ⟨hE.sub ⟨rfl, rfl, rfl, rfl, rfl, rfl, rfl, rfl, rfl, rfl, trivial⟩, (hm.pick [0, 1, 2, 4, 5, 6] rfl)⟩)
    · rintro t22 a w ⟨hE, hm⟩ h
      refine nx_of hE hm h ?_
      clear hE hm h
      refine c_cond rfl ?_ ?_
      · refine c_seq ?_
        refine c_region ?_
        refine o_as st rfl rfl ?_
        refine c_nil ?_
        refine l_then ?_
        refine c_ret ?_
        refine l_ret ?_
        exact l_end1 Tryd.results3 false () (rv_t rfl) (fun _ _ => NewCh.nil _ _ _ _)
      · refine c_skip ?_
        refine l_then ?_
        refine c_seq ?_
        refine c_seq ?_
        refine c_region ?_
        refine o_mv st rfl rfl ?_
        refine o_mv st rfl rfl ?_
        refine stw (o_callP (vs := [v1]) Tryd.call16 rfl rfl (by intro w m h; exact w_laws_toFlowS (a_0 := aList_0) (m.rd0 4 rfl reads_ro) h) ?_); rintro r25 v26
        refine stw (o_callP (vs := [v15, v26]) Tryd.call19 rfl rfl (by intro w m h; exact w_laws_eqFlowS (a_0 := r14) (b_1 := r25) (m.rd0 2 rfl reads_own) (m.rd0 0 rfl reads_own) h) ?_); rintro r28 _
        refine o_not st rfl rfl ?_
        refine c_nil ?_
        refine l_then ?_
        refine c_cond rfl ?_ ?_
        · refine c_seq ?_
          refine c_region ?_
          refine o_as st rfl rfl ?_
          refine c_nil ?_
          refine l_then ?_
          refine c_ret ?_
          refine l_ret ?_
          exact l_end1 Tryd.results3 false () (rv_t rfl) (fun _ _ => NewCh.nil _ _ _ _)
        · refine c_skip ?_
          refine l_then ?_
          refine c_seq ?_
          refine c_region ?_
          refine o_as st rfl rfl ?_
          refine c_nil ?_
          refine l_then ?_
          refine c_seq ?_
          refine c_region ?_
          refine o_mv st rfl rfl ?_
          refine o_mv st rfl rfl ?_
          refine pk [2, 0, 1, 3, 4, 5, 6] rfl ?_
          refine stw (o_call (vs := [v15, (.int .i64 1)]) (M0 := [ownCh elGFlow 83 v15 r14]) Tryd.call20 rfl rfl (by intro w m h; exact w_laws_markFlowS (a_0 := r14) (k_1 := 1) m.given h) ?_); rintro ⟨r29, r30⟩ _
          refine o_as st rfl rfl ?_
          refine c_nil ?_
          refine l_then ?_
          refine c_seq ?_
          refine c_join (σ := Bool) (fun (t32 : Bool) (a : Act) (w : World) => Has 114 [(0, v1), (2, (.int .i64 aNow_2)), (3, (.int .i64 aLife_3)), (5, (.pointer (some ⟨b3, 0, none⟩))), (10, v12), (11, (.bool r11)), (13, v20), (75, (.bool t32))] a ∧ Mem (fun _ => True) (feet []) w0 [ownCh elGFlow 83 v20 r18, ownCh elGFlow 83 v12 r10, cellCh b3 [(.int .i64 aP_1.xFrom), (.int .i64 aP_1.xTo), (.int .i64 aP_1.xPort), (.int .i64 aP_1.xProto)] 24, roCh elGFlow v1 aList_0, roCh elGFieldShape (.slice (some ⟨0, 0, none⟩) 4 4) gl_impl_fieldShapes] w) ?_ ?_
          · intro k33
            refine c_region ?_
            refine o_mv st rfl rfl ?_
            refine o_lss st rfl rfl rfl ?_
            refine o_mv st rfl rfl ?_
            refine st_sp (dj := 65) rfl ?_ ?_
            · refine st_s rfl rfl rfl rfl ?_
              refine st_s rfl rfl rfl rfl ?_
              refine st_s rfl rfl rfl rfl ?_
              refine st_s rfl rfl rfl rfl ?_
              refine o_pickT st rfl rfl rfl ?_
              refine o_mv st rfl rfl ?_
              refine st_s rfl rfl rfl rfl ?_
              refine st_s rfl rfl rfl rfl ?_
              refine st_s rfl rfl rfl rfl ?_
              refine o_pickT st rfl rfl rfl ?_
              refine c_nil ?_
              exact l_join true (fun a w hE hm => ⟨hE.sub ⟨rfl, rfl, rfl, rfl, rfl, rfl, rfl, rfl, trivial⟩, (hm.pick [2, 3, 4, 5, 6] rfl)⟩)
            · refine o_mv (st_g rfl rfl) rfl rfl ?_
              refine o_mv (st_g rfl rfl) rfl rfl ?_
              refine st_gw rfl rfl (o_callP (vs := [v20, v12]) Tryd.call19 rfl rfl (by intro w m h; exact w_laws_eqFlowS (a_0 := r18) (b_1 := r10) (m.rd0 2 rfl reads_own) (m.rd0 3 rfl reads_own) h) ?_); rintro r34 _
              refine o_not (st_g rfl rfl) rfl rfl ?_
              refine o_pickF st rfl rfl rfl ?_
              refine o_mv st rfl rfl ?_
              refine st_sp (dj := 71) rfl ?_ ?_
              · refine st_s rfl rfl rfl rfl ?_
                refine st_s rfl rfl rfl rfl ?_
                refine st_s rfl rfl rfl rfl ?_
                refine o_pickT st rfl rfl rfl ?_
                refine c_nil ?_
                exact l_join true (fun a w hE hm => ⟨hE.sub ⟨rfl, rfl, rfl, rfl, rfl, rfl, rfl, rfl, trivial⟩, (hm.pick [2, 3, 4, 5, 6] rfl)⟩)
              · refine o_mv (st_g rfl rfl) rfl rfl ?_
                refine o_mv (st_g rfl rfl) rfl rfl ?_
                refine o_neqB (st_g rfl rfl) und4 rfl rfl rfl ?_
                refine o_pickF st rfl rfl rfl ?_
                refine c_nil ?_
                exact l_join (!(decide (r19 = r11))) (fun a w hE hm => ⟨hE.sub ⟨rfl, rfl, rfl, rfl, rfl, rfl, rfl, rfl, trivial⟩, (hm.pick [2, 3, 4, 5, 6] rfl)⟩)
          · rintro t32 a w ⟨hE, hm⟩ h
            refine nx_of hE hm h ?_
            clear hE hm h
            refine c_cond rfl ?_ ?_
            · refine c_seq ?_
              refine c_region ?_
              refine o_as st rfl rfl ?_
              refine c_nil ?_
              refine l_then ?_
              refine c_ret ?_
              refine l_ret ?_
              exact l_end1 Tryd.results3 false () (rv_t rfl) (fun _ _ => NewCh.nil _ _ _ _)
            · refine c_skip ?_
              refine l_then ?_
              refine c_seq ?_
              refine c_region ?_
              refine o_as st rfl rfl ?_
              refine c_nil ?_
              refine l_then ?_
              refine c_seq ?_
              refine c_region ?_
              refine o_mv st rfl rfl ?_
              refine o_mv st rfl rfl ?_
              refine pk [0, 1, 2, 3, 4] rfl ?_
              refine stw (o_call (vs := [v20, (.int .i64 1)]) (M0 := [ownCh elGFlow 83 v20 r18]) Tryd.call20 rfl rfl (by intro w m h; exact w_laws_markFlowS (a_0 := r18) (k_1 := 1) m.given h) ?_); rintro ⟨r35, r36⟩ _
              refine o_as st rfl rfl ?_
              refine c_nil ?_
              refine l_then ?_
              refine c_seq ?_
              refine c_region ?_
              refine o_as st rfl rfl ?_
              refine c_nil ?_
              refine l_then ?_
              refine c_seq ?_
              refine c_region ?_
              refine o_mv st rfl rfl ?_
              refine o_mv st rfl rfl ?_
              refine stw (o_callP (vs := [v20, (.int .i64 1)]) Tryd.call21 rfl rfl (by intro w m h; exact w_laws_heldFlowS (a_0 := r36) (k_1 := 1) (m.rd0 0 rfl reads_own) h) ?_); rintro r38 _
              refine o_as st rfl rfl ?_
              refine c_nil ?_
              refine l_then ?_
              refine c_seq ?_
              refine c_seq ?_
              refine c_region ?_
              refine o_mv st rfl rfl ?_
              refine o_lss st rfl rfl rfl ?_
              refine c_nil ?_
              refine l_then ?_
              refine c_cond rfl ?_ ?_
              · refine c_seq ?_
                refine c_region ?_
                refine o_as st rfl rfl ?_
                refine c_nil ?_
                refine l_then ?_
                refine c_ret ?_
                refine l_ret ?_
                exact l_end1 Tryd.results3 false () (rv_t rfl) (fun _ _ => NewCh.nil _ _ _ _)
              · refine c_skip ?_
                refine l_then ?_
                refine c_seq ?_
                refine c_seq ?_
                refine c_region ?_
                refine o_mv st rfl rfl ?_
                refine o_mv st rfl rfl ?_
                refine o_neq st und3 rfl rfl rfl ?_
                refine c_nil ?_
                refine l_then ?_
                refine c_cond rfl ?_ ?_
                · refine c_seq ?_
                  refine c_region ?_
                  refine o_as st rfl rfl ?_
                  refine c_nil ?_
                  refine l_then ?_
                  refine c_ret ?_
                  refine l_ret ?_
                  exact l_end1 Tryd.results3 false () (rv_t rfl) (fun _ _ => NewCh.nil _ _ _ _)
                · refine c_skip ?_
                  refine l_then ?_
                  refine c_seq ?_
                  refine c_draw mixed 12 rfl [ownCh elGFlow 83 v20 r36, ownCh elGFlow 83 v12 r10, cellCh b3 [(.int .i64 aP_1.xFrom), (.int .i64 aP_1.xTo), (.int .i64 aP_1.xPort), (.int .i64 aP_1.xProto)] 24, roCh elGFlow v1 aList_0, roCh elGFieldShape (.slice (some ⟨0, 0, none⟩) 4 4) gl_impl_fieldShapes] ?_
                  refine o_mv (d_take (i := 0) rfl (by kernel_rfl) (by kernel_rfl) (by kernel_rfl) (fun c a d v w h => by cases d <;> exact h) (fun w m => m.pick [0, 1, 2, 3, 4] rfl)) rfl rfl ?_
                  refine o_ldc (d_take (i := 2) rfl (by kernel_rfl) (by kernel_rfl) (by kernel_rfl) (fun c a d v w h => by cases d <;> exact h) (fun w m => m.pick [0, 1, 2, 3, 4] rfl)) (v := (.agg #[(.int .i64 aP_1.xFrom), (.int .i64 aP_1.xTo), (.int .i64 aP_1.xPort), (.int .i64 aP_1.xProto)])) 2 rfl rfl rfl ty24 rfl ?_
                  refine o_mv (d_take (i := 4) rfl (by kernel_rfl) (by kernel_rfl) (by kernel_rfl) (fun c a d v w h => by cases d <;> exact h) (fun w m => m.pick [0, 1, 2, 3, 4] rfl)) rfl rfl ?_
                  refine o_mv (d_take (i := 5) rfl (by kernel_rfl) (by kernel_rfl) (by kernel_rfl) (fun c a d v w h => by cases d <;> exact h) (fun w m => m.pick [0, 1, 2, 3, 4] rfl)) rfl rfl ?_
                  refine d_one (i := 1) rfl (by kernel_rfl) (o_callP (vs := [v1]) Tryd.call16 rfl rfl (by intro w m h; exact w_laws_toFlowS (a_0 := aList_0) (m.rd0 3 rfl reads_ro) h) ?_); rintro r39 v40
                  refine d_and (fun w m => m.pick [1, 2, 3, 4, 5] rfl) ?_
                  refine d_one (i := 3) rfl (by kernel_rfl) (o_callP (vs := [(.agg #[(.int .i64 aP_1.xFrom), (.int .i64 aP_1.xTo), (.int .i64 aP_1.xPort), (.int .i64 aP_1.xProto)])]) Tryd.call17 rfl rfl (by intro w m h; exact w_laws_toPacket (a_0 := aP_1) h) ?_); rintro r42 _
                  refine d_and (fun w m => m.pick [1, 2, 3, 4, 5] rfl) ?_
                  refine d_one (i := 6) rfl (by kernel_rfl) (o_callP (vs := [v40, (.agg #[(.int .i64 r42.xFrom), (.int .i64 r42.xTo), (.int .i64 r42.xPort), (.int .i64 r42.xProto)]), (.int .i64 aNow_2), (.int .i64 aLife_3)]) Tryd.call18 rfl rfl (by intro w m h; exact w_impl_TrackFlow (list_0 := r39) (p_1 := r42) (now_2 := aNow_2) (life_3 := aLife_3) (m.rd0 0 rfl reads_own) (m.rd0 5 rfl reads_ro) h) ?_); rintro ⟨r43, r44⟩ v45
                  refine d_and (fun w m => m.pick [2, 3, 4, 5, 6] rfl) ?_
                  refine o_mv (d_take (i := 7) rfl (by kernel_rfl) (by kernel_rfl) (by kernel_rfl) (fun c a d v w h => by cases d <;> exact h) (fun w m => m.pick [2, 3, 4, 5, 6] rfl)) rfl rfl ?_
                  refine o_ext (d_take (i := 8) rfl (by kernel_rfl) (by kernel_rfl) (by kernel_rfl) (fun c a d v w h => by cases d <;> exact h) (fun w m => m.pick [2, 3, 4, 5, 6] rfl)) (vs := [v45, (.bool r44)]) rfl rfl rfl ?_
                  refine o_ext (d_take (i := 9) rfl (by kernel_rfl) (by kernel_rfl) (by kernel_rfl) (fun c a d v w h => by cases d <;> exact h) (fun w m => m.pick [2, 3, 4, 5, 6] rfl)) (vs := [v45, (.bool r44)]) rfl rfl rfl ?_
                  refine o_as (d_take (i := 10) rfl (by kernel_rfl) (by kernel_rfl) (by kernel_rfl) (fun c a d v w h => by cases d <;> exact h) (fun w m => m.pick [2, 3, 4, 5, 6] rfl)) rfl rfl ?_
                  refine o_as (d_take (i := 11) rfl (by kernel_rfl) (by kernel_rfl) (by kernel_rfl) (fun c a d v w h => by cases d <;> exact h) (fun w m => m.pick [2, 3, 4, 5, 6] rfl)) rfl rfl ?_
                  refine d_done (by kernel_rfl) ?_
                  refine l_then ?_
                  refine c_seq ?_
                  refine c_join (σ := Bool) (fun (t47 : Bool) (a : Act) (w : World) => Has 114 [(13, v20), (16, (.int .i64 r35)), (105, (.bool t47))] a ∧ Mem (fun _ => True) (feet []) w0 [ownCh elGFlow 83 v20 r36, roCh elGFieldShape (.slice (some ⟨0, 0, none⟩) 4 4) gl_impl_fieldShapes] w) ?_ ?_
                  · intro k48
                    refine c_region ?_
                    refine o_mv st rfl rfl ?_
                    refine o_mv st rfl rfl ?_
                    refine stw (o_callP (vs := [v45, v12]) Tryd.call19 rfl rfl (by intro w m h; exact w_laws_eqFlowS (a_0 := r43) (b_1 := r10) (m.rd0 0 rfl reads_own) (m.rd0 3 rfl reads_own) h) ?_); rintro r49 _
                    refine o_not st rfl rfl ?_
                    refine o_mv st rfl rfl ?_
                    refine st_sp (dj := 101) rfl ?_ ?_
                    · refine st_s rfl rfl rfl rfl ?_
                      refine st_s rfl rfl rfl rfl ?_
                      refine st_s rfl rfl rfl rfl ?_
                      refine o_pickT st rfl rfl rfl ?_
                      refine c_nil ?_
                      exact l_join true (fun a w hE hm => ⟨hE.sub ⟨rfl, rfl, rfl, trivial⟩, (hm.pick [2, 6] rfl)⟩)
                    · refine o_mv (st_g rfl rfl) rfl rfl ?_
                      refine o_mv (st_g rfl rfl) rfl rfl ?_
                      refine o_neqB (st_g rfl rfl) und4 rfl rfl rfl ?_
                      refine o_pickF st rfl rfl rfl ?_
                      refine c_nil ?_
                      exact l_join (!(decide (r44 = r11))) (fun a w hE hm => ⟨hE.sub ⟨rfl, rfl, rfl, trivial⟩, (hm.pick [2, 6] rfl)⟩)
                  · rintro t47 a w ⟨hE, hm⟩ h
                    refine nx_of hE hm h ?_
                    clear hE hm h
                    refine c_cond rfl ?_ ?_
                    · refine c_seq ?_
                      refine c_region ?_
                      refine o_as st rfl rfl ?_
                      refine c_nil ?_
                      refine l_then ?_
                      refine c_ret ?_
                      refine l_ret ?_
                      exact l_end1 Tryd.results3 false () (rv_t rfl) (fun _ _ => NewCh.nil _ _ _ _)
                    · refine c_skip ?_
                      refine l_then ?_
                      refine c_seq ?_
                      refine c_region ?_
                      refine o_as st rfl rfl ?_
                      refine c_nil ?_
                      refine l_then ?_
                      refine c_seq ?_
                      refine c_region ?_
                      refine o_mv st rfl rfl ?_
                      refine o_mv st rfl rfl ?_
                      refine stw (o_callP (vs := [v20, (.int .i64 1)]) Tryd.call21 rfl rfl (by intro w m h; exact w_laws_heldFlowS (a_0 := r36) (k_1 := 1) (m.rd0 0 rfl reads_own) h) ?_); rintro r50 _
                      refine o_as st rfl rfl ?_
                      refine c_nil ?_
                      refine l_then ?_
                      refine c_seq ?_
                      refine c_seq ?_
                      refine c_region ?_
                      refine o_mv st rfl rfl ?_
                      refine o_lss st rfl rfl rfl ?_
                      refine c_nil ?_
                      refine l_then ?_
                      refine c_cond rfl ?_ ?_
                      · refine c_seq ?_
                        refine c_region ?_
                        refine o_as st rfl rfl ?_
                        refine c_nil ?_
                        refine l_then ?_
                        refine c_ret ?_
                        refine l_ret ?_
                        exact l_end1 Tryd.results3 false () (rv_t rfl) (fun _ _ => NewCh.nil _ _ _ _)
                      · refine c_skip ?_
                        refine l_then ?_
                        refine c_seq ?_
                        refine c_seq ?_
                        refine c_region ?_
                        refine o_mv st rfl rfl ?_
                        refine o_mv st rfl rfl ?_
                        refine o_neq st und3 rfl rfl rfl ?_
                        refine c_nil ?_
                        refine l_then ?_
                        refine c_cond rfl ?_ ?_
                        · refine c_seq ?_
                          refine c_region ?_
                          refine o_as st rfl rfl ?_
                          refine c_nil ?_
                          refine l_then ?_
                          refine c_ret ?_
                          refine l_ret ?_
                          exact l_end1 Tryd.results3 false () (rv_t rfl) (fun _ _ => NewCh.nil _ _ _ _)
                        · refine c_skip ?_
                          refine l_then ?_
                          refine c_seq ?_
                          refine c_region ?_
                          refine o_as st rfl rfl ?_
                          refine c_nil ?_
                          refine l_then ?_
                          refine c_ret ?_
                          exact l_end1 Tryd.results3 true () (rv_t rfl) (fun _ _ => NewCh.nil _ _ _ _)

set_option maxRecDepth 100000 in
set_option maxHeartbeats 8000000 in
theorem w_spec_l20Open {w0 : World} {F : Nat → Prop} {v1 : Value} {code_0 : (List UInt8)} {κ : ((List UInt8) × Int) → Prop} (hF : ∀ b, F b → b < w0.heap.size ∧ ¬ feet [] b) (hv1 : Sl elU8 F w0 v1 code_0) (h : L_spec_l20Open code_0 κ) :
    Calls Tryd.prog 65 #[v1] w0 (Ret [] F w0 κ (fun (r : ((List UInt8) × Int)) (u : (Nat × Value)) => .pointer (some ⟨u.1, 0, none⟩)) (fun (r : ((List UInt8) × Int)) (u : (Nat × Value)) => [cellCh u.1 [u.2, (.int .i64 r.2)] 127, roCh elU8 u.2 r.1])) := by
  refine enterB (args := [v1]) [] hF Tryd.func65 rfl Tryd.ntmps65 rfl [roCh elU8 v1 code_0] (hf_cons hf_nil) (hh_cons hv1 hh_nil) hM_nil List.Pairwise.nil hh_nil h ?_
  clear h hF hv1
  refine c_seq ?_
  refine c_region ?_
  refine o_as st rfl rfl ?_
  refine c_nil ?_
  refine l_then ?_
  refine c_join (σ := (List UInt8)) (fun (xs4 : (List UInt8)) (a : Act) (w : World) => ∃ (v5 : Value), Has 11 [(0, v5)] a ∧ Mem (gB F w0) (feet []) w0 [roCh elU8 v5 xs4] w) ?_ ?_
  · intro k7
    refine c_seq ?_
    refine c_region ?_
    refine o_mv st rfl rfl ?_
    refine o_len st el35 0 rfl reads_ro rfl rfl ?_
    refine o_gtr st rfl rfl rfl ?_
    refine c_nil ?_
    refine l_then ?_
    refine c_cond rfl ?_ ?_
    · refine c_region ?_
      refine o_mv st rfl rfl ?_
      refine stw (o_slc (I := 0) (J := 2000) 0 rfl rfl rfl rfl rfl el35 rfl ?_); intro v8 xs9
      refine o_as st rfl rfl ?_
      refine c_nil ?_
      exact l_join xs9 (fun a w hE hm => ⟨v8, hE.sub ⟨rfl, trivial⟩, (hm.pick [0] rfl)⟩)
    · refine c_skip ?_
      exact l_join code_0 (fun a w hE hm => ⟨v1, hE.sub ⟨rfl, trivial⟩, (hm.pick [0] rfl)⟩)
  · rintro xs4 a w ⟨v5, hE, hm⟩ h
    refine nx_of hE hm h ?_
    clear hE hm h
    refine c_seq ?_
    refine c_region ?_
    refine o_mv st rfl rfl ?_
    refine nx_ro 0 rfl ?_; rintro a11 l12 q13 rfl
    refine o_bld st (qs := [(0, (.slice a11 l12 q13))]) (cells := [(.slice a11 l12 q13), (.int .i64 0)]) (by intro ρ h; simp only [List.map_toArray, List.map_cons, List.map_nil, h (.tmp 8) _ rfl]) rfl bld127 rfl ?_
    refine stw (o_box rfl rfl [(.slice a11 l12 q13), (.int .i64 0)] rfl ?_); intro b14
    refine o_as st rfl rfl ?_
    refine c_nil ?_
    refine l_then ?_
    refine c_ret ?_
    exact l_end1 Tryd.results65 (xs4, 0) (b14, (.slice a11 l12 q13)) (rv_t rfl) (fun w m => NewCh.ofB m [0, 1] rfl)

set_option maxRecDepth 100000 in
set_option maxHeartbeats 8000000 in
theorem w_spec_l20Rd_pick {w0 : World} {F : Nat → Prop} {b1 : Nat} {v2 : Value} {r_0_b : (List UInt8)} {r_0_p : Int} {n_1 : Int} {κ : (Int × Int) → Prop} (hg : Given [cellCh b1 [v2, (.int .i64 r_0_p)] 127] w0) (hv2 : Sl elU8 (fun b => b < w0.heap.size ∧ ¬ feet [cellCh b1 [v2, (.int .i64 r_0_p)] 127] b) w0 v2 r_0_b) (h : L_spec_l20Rd_pick r_0_b r_0_p n_1 κ) :
    Calls Tryd.prog 85 #[(.pointer (some ⟨b1, 0, none⟩)), (.int .i64 n_1)] w0 (Ret [cellCh b1 [v2, (.int .i64 r_0_p)] 127] F w0 κ (fun (r : (Int × Int)) (u : Unit) => (.int .i64 r.1)) (fun (r : (Int × Int)) (u : Unit) => [cellCh b1 [v2, (.int .i64 r.2)] 127])) := by
  refine enter (args := [(.pointer (some ⟨b1, 0, none⟩)), (.int .i64 n_1)]) [cellCh b1 [v2, (.int .i64 r_0_p)] 127] Tryd.func85 rfl Tryd.ntmps85 rfl [roCh elU8 v2 r_0_b] (hf_cons hf_nil) (hh_cons hv2 hh_nil) hg.lt hg.disj hg.hold h ?_
  clear h hg hv2
  refine c_seq ?_
  refine c_region ?_
  refine o_as st rfl rfl ?_
  refine c_nil ?_
  refine l_then ?_
  refine c_seq ?_
  refine c_region ?_
  refine o_mv st rfl rfl ?_
  refine o_mv st rfl rfl ?_
  refine o_nilc st rfl rfl ?_
  refine o_fad st rfl rfl fld127_1 rfl ?_
  refine o_ldc st (v := (.int .i64 r_0_p)) 0 rfl rfl rfl ty3 rfl ?_
  refine o_add st rfl rfl rfl ?_; intro t5
  refine o_nilc st rfl rfl ?_
  refine o_fad st rfl rfl fld127_1 rfl ?_
  refine stw (o_stc (cs' := [v2, (.int .i64 t5)]) 0 rfl rfl rfl ty3 rfl rfl rfl rfl ?_)
  refine c_nil ?_
  refine l_then ?_
  refine c_seq ?_
  refine c_join (σ := Bool) (fun (t6 : Bool) (a : Act) (w : World) => Has 99 [(0, (.pointer (some ⟨b1, 0, none⟩))), (1, (.int .i64 n_1)), (24, (.bool t6))] a ∧ Mem (fun _ => True) (feet [cellCh b1 [v2, (.int .i64 r_0_p)] 127]) w0 [cellCh b1 [v2, (.int .i64 t5)] 127, roCh elU8 v2 r_0_b] w) ?_ ?_
  · intro k7
    refine c_region ?_
    refine o_mv st rfl rfl ?_
    refine o_lss st rfl rfl rfl ?_
    refine o_mv st rfl rfl ?_
    refine st_sp (dj := 17) rfl ?_ ?_
    · refine st_s rfl rfl rfl rfl ?_
      refine st_s rfl rfl rfl rfl ?_
      refine st_s rfl rfl rfl rfl ?_
      refine st_s rfl rfl rfl rfl ?_
      refine st_s rfl rfl rfl rfl ?_
      refine st_s rfl rfl rfl rfl ?_
      refine o_pickT st rfl rfl rfl ?_
      refine c_nil ?_
      exact l_join true (fun a w hE hm => ⟨hE.sub ⟨rfl, rfl, rfl, trivial⟩, (hm.pick [0, 1] rfl)⟩)
    · refine o_mv (st_g rfl rfl) rfl rfl ?_
      refine o_nilc (st_g rfl rfl) rfl rfl ?_
      refine o_fad (st_g rfl rfl) rfl rfl fld127_0 rfl ?_
      refine o_ldc (st_g rfl rfl) (v := v2) 0 rfl rfl rfl ty35 rfl ?_
      refine o_len (st_g rfl rfl) el35 1 rfl reads_ro rfl rfl ?_
      refine o_eql (st_g rfl rfl) und3 rfl rfl rfl ?_
      refine o_pickF st rfl rfl rfl ?_
      refine c_nil ?_
      exact l_join (decide ((r_0_b.length : Int) = 0)) (fun a w hE hm => ⟨hE.sub ⟨rfl, rfl, rfl, trivial⟩, (hm.pick [0, 1] rfl)⟩)
  · rintro t6 a w ⟨hE, hm⟩ h
    refine nx_of hE hm h ?_
    clear hE hm h
    refine c_cond rfl ?_ ?_
    · refine c_seq ?_
      refine c_region ?_
      refine o_as st rfl rfl ?_
      refine c_nil ?_
      refine l_then ?_
      refine c_ret ?_
      refine l_ret ?_
      exact l_end1 Tryd.results85 (0, t5) () (rv_t rfl) (fun w m => NewCh.of m [0] rfl (fr_cons free_cell fr_nil))
    · refine c_skip ?_
      refine l_then ?_
      refine c_seq ?_
      refine c_region ?_
      refine o_mv st rfl rfl ?_
      refine o_nilc st rfl rfl ?_
      refine o_fad st rfl rfl fld127_1 rfl ?_
      refine o_ldc st (v := (.int .i64 t5)) 0 rfl rfl rfl ty3 rfl ?_
      refine o_sub st rfl rfl rfl ?_; intro t8
      refine o_as st rfl rfl ?_
      refine c_nil ?_
      refine l_then ?_
      refine c_seq ?_
      refine c_seq ?_
      refine c_region ?_
      refine o_mv st rfl rfl ?_
      refine o_mv st rfl rfl ?_
      refine o_nilc st rfl rfl ?_
      refine o_fad st rfl rfl fld127_0 rfl ?_
      refine o_ldc st (v := v2) 0 rfl rfl rfl ty35 rfl ?_
      refine o_len st el35 1 rfl reads_ro rfl rfl ?_
      refine o_lss st rfl rfl rfl ?_
      refine c_nil ?_
      refine l_then ?_
      refine c_cond rfl ?_ ?_
      · refine c_seq ?_
        refine c_region ?_
        refine o_mv st rfl rfl ?_
        refine o_nilc st rfl rfl ?_
        refine o_fad st rfl rfl fld127_0 rfl ?_
        refine o_ldc st (v := v2) 0 rfl rfl rfl ty35 rfl ?_
        refine o_mv st rfl rfl ?_
        refine o_idx st 1 rfl reads_ro rfl rfl rfl el35 ?_; intro e9 h10
        refine o_lds st (enc := encU8) (u := (.int .u8 (e9.toNat : Int))) 1 rfl reads_ro flelU8 rfl h10 rfl rfl ty5 rfl ?_
        refine o_cnvI st und5 und3 rfl rfl ?_
        refine o_mv st rfl rfl ?_
        refine o_rem st rfl rfl rfl ?_; intro t11
        refine o_as st rfl rfl ?_
        refine c_nil ?_
        refine l_then ?_
        refine c_ret ?_
        refine l_ret ?_
        exact l_end1 Tryd.results85 (t11, t5) () (rv_t rfl) (fun w m => NewCh.of m [0] rfl (fr_cons free_cell fr_nil))
      · refine c_skip ?_
        refine l_then ?_
        refine c_seq ?_
        refine c_draw mixed 46 rfl [cellCh b1 [v2, (.int .i64 t5)] 127, roCh elU8 v2 r_0_b] ?_
        refine o_mv (d_take (i := 0) rfl (by kernel_rfl) (by kernel_rfl) (by kernel_rfl) (fun c a d v w h => by cases d <;> exact h) (fun w m => m.pick [0, 1] rfl)) rfl rfl ?_
        refine o_nilc (d_take (i := 1) rfl (by kernel_rfl) (by kernel_rfl) (by kernel_rfl) (fun c a d v w h => by cases d <;> exact h) (fun w m => m.pick [0, 1] rfl)) rfl rfl ?_
        refine o_fad (d_take (i := 2) rfl (by kernel_rfl) (by kernel_rfl) (by kernel_rfl) (fun c a d v w h => by cases d <;> exact h) (fun w m => m.pick [0, 1] rfl)) rfl rfl fld127_0 rfl ?_
        refine o_ldc (d_take (i := 3) rfl (by kernel_rfl) (by kernel_rfl) (by kernel_rfl) (fun c a d v w h => by cases d <;> exact h) (fun w m => m.pick [0, 1] rfl)) (v := v2) 0 rfl rfl rfl ty35 rfl ?_
        refine o_mv (d_take (i := 4) rfl (by kernel_rfl) (by kernel_rfl) (by kernel_rfl) (fun c a d v w h => by cases d <;> exact h) (fun w m => m.pick [0, 1] rfl)) rfl rfl ?_
        refine o_mv (d_take (i := 5) rfl (by kernel_rfl) (by kernel_rfl) (by kernel_rfl) (fun c a d v w h => by cases d <;> exact h) (fun w m => m.pick [0, 1] rfl)) rfl rfl ?_
        refine o_nilc (d_take (i := 6) rfl (by kernel_rfl) (by kernel_rfl) (by kernel_rfl) (fun c a d v w h => by cases d <;> exact h) (fun w m => m.pick [0, 1] rfl)) rfl rfl ?_
        refine o_fad (d_take (i := 7) rfl (by kernel_rfl) (by kernel_rfl) (by kernel_rfl) (fun c a d v w h => by cases d <;> exact h) (fun w m => m.pick [0, 1] rfl)) rfl rfl fld127_0 rfl ?_
        refine o_ldc (d_take (i := 8) rfl (by kernel_rfl) (by kernel_rfl) (by kernel_rfl) (fun c a d v w h => by cases d <;> exact h) (fun w m => m.pick [0, 1] rfl)) (v := v2) 0 rfl rfl rfl ty35 rfl ?_
        refine o_len (d_take (i := 9) rfl (by kernel_rfl) (by kernel_rfl) (by kernel_rfl) (fun c a d v w h => by cases d <;> exact h) (fun w m => m.pick [0, 1] rfl)) el35 1 rfl reads_ro rfl rfl ?_
        refine o_rem (d_take (i := 10) rfl (by kernel_rfl) (by kernel_rfl) (by kernel_rfl) (fun c a d v w h => by cases d <;> exact h) (fun w m => m.pick [0, 1] rfl)) rfl rfl rfl ?_; intro t12
        refine o_idx (d_take (i := 11) rfl (by kernel_rfl) (by kernel_rfl) (by kernel_rfl) (fun c a d v w h => by cases d <;> exact h) (fun w m => m.pick [0, 1] rfl)) 1 rfl reads_ro rfl rfl rfl el35 ?_; intro e13 h14
        refine o_lds (d_take (i := 12) rfl (by kernel_rfl) (by kernel_rfl) (by kernel_rfl) (fun c a d v w h => by cases d <;> exact h) (fun w m => m.pick [0, 1] rfl)) (enc := encU8) (u := (.int .u8 (e13.toNat : Int))) 1 rfl reads_ro flelU8 rfl h14 rfl rfl ty5 rfl ?_
        refine o_cnvI (d_take (i := 13) rfl (by kernel_rfl) (by kernel_rfl) (by kernel_rfl) (fun c a d v w h => by cases d <;> exact h) (fun w m => m.pick [0, 1] rfl)) und5 und3 rfl rfl ?_
        refine o_mul (d_take (i := 14) rfl (by kernel_rfl) (by kernel_rfl) (by kernel_rfl) (fun c a d v w h => by cases d <;> exact h) (fun w m => m.pick [0, 1] rfl)) rfl rfl rfl ?_; intro t15
        refine o_mv (d_take (i := 15) rfl (by kernel_rfl) (by kernel_rfl) (by kernel_rfl) (fun c a d v w h => by cases d <;> exact h) (fun w m => m.pick [0, 1] rfl)) rfl rfl ?_
        refine o_nilc (d_take (i := 16) rfl (by kernel_rfl) (by kernel_rfl) (by kernel_rfl) (fun c a d v w h => by cases d <;> exact h) (fun w m => m.pick [0, 1] rfl)) rfl rfl ?_
        refine o_fad (d_take (i := 17) rfl (by kernel_rfl) (by kernel_rfl) (by kernel_rfl) (fun c a d v w h => by cases d <;> exact h) (fun w m => m.pick [0, 1] rfl)) rfl rfl fld127_0 rfl ?_
        refine o_ldc (d_take (i := 18) rfl (by kernel_rfl) (by kernel_rfl) (by kernel_rfl) (fun c a d v w h => by cases d <;> exact h) (fun w m => m.pick [0, 1] rfl)) (v := v2) 0 rfl rfl rfl ty35 rfl ?_
        refine o_mv (d_take (i := 19) rfl (by kernel_rfl) (by kernel_rfl) (by kernel_rfl) (fun c a d v w h => by cases d <;> exact h) (fun w m => m.pick [0, 1] rfl)) rfl rfl ?_
        refine o_mul (d_take (i := 20) rfl (by kernel_rfl) (by kernel_rfl) (by kernel_rfl) (fun c a d v w h => by cases d <;> exact h) (fun w m => m.pick [0, 1] rfl)) rfl rfl rfl ?_; intro t16
        refine o_add (d_take (i := 21) rfl (by kernel_rfl) (by kernel_rfl) (by kernel_rfl) (fun c a d v w h => by cases d <;> exact h) (fun w m => m.pick [0, 1] rfl)) rfl rfl rfl ?_; intro t17
        refine o_mv (d_take (i := 22) rfl (by kernel_rfl) (by kernel_rfl) (by kernel_rfl) (fun c a d v w h => by cases d <;> exact h) (fun w m => m.pick [0, 1] rfl)) rfl rfl ?_
        refine o_nilc (d_take (i := 23) rfl (by kernel_rfl) (by kernel_rfl) (by kernel_rfl) (fun c a d v w h => by cases d <;> exact h) (fun w m => m.pick [0, 1] rfl)) rfl rfl ?_
        refine o_fad (d_take (i := 24) rfl (by kernel_rfl) (by kernel_rfl) (by kernel_rfl) (fun c a d v w h => by cases d <;> exact h) (fun w m => m.pick [0, 1] rfl)) rfl rfl fld127_0 rfl ?_
        refine o_ldc (d_take (i := 25) rfl (by kernel_rfl) (by kernel_rfl) (by kernel_rfl) (fun c a d v w h => by cases d <;> exact h) (fun w m => m.pick [0, 1] rfl)) (v := v2) 0 rfl rfl rfl ty35 rfl ?_
        refine o_len (d_take (i := 26) rfl (by kernel_rfl) (by kernel_rfl) (by kernel_rfl) (fun c a d v w h => by cases d <;> exact h) (fun w m => m.pick [0, 1] rfl)) el35 1 rfl reads_ro rfl rfl ?_
        refine o_rem (d_take (i := 27) rfl (by kernel_rfl) (by kernel_rfl) (by kernel_rfl) (fun c a d v w h => by cases d <;> exact h) (fun w m => m.pick [0, 1] rfl)) rfl rfl rfl ?_; intro t18
        refine o_idx (d_take (i := 28) rfl (by kernel_rfl) (by kernel_rfl) (by kernel_rfl) (fun c a d v w h => by cases d <;> exact h) (fun w m => m.pick [0, 1] rfl)) 1 rfl reads_ro rfl rfl rfl el35 ?_; intro e19 h20
        refine o_lds (d_take (i := 29) rfl (by kernel_rfl) (by kernel_rfl) (by kernel_rfl) (fun c a d v w h => by cases d <;> exact h) (fun w m => m.pick [0, 1] rfl)) (enc := encU8) (u := (.int .u8 (e19.toNat : Int))) 1 rfl reads_ro flelU8 rfl h20 rfl rfl ty5 rfl ?_
        refine o_cnvI (d_take (i := 30) rfl (by kernel_rfl) (by kernel_rfl) (by kernel_rfl) (fun c a d v w h => by cases d <;> exact h) (fun w m => m.pick [0, 1] rfl)) und5 und3 rfl rfl ?_
        refine o_mul (d_take (i := 31) rfl (by kernel_rfl) (by kernel_rfl) (by kernel_rfl) (fun c a d v w h => by cases d <;> exact h) (fun w m => m.pick [0, 1] rfl)) rfl rfl rfl ?_; intro t21
        refine o_add (d_take (i := 32) rfl (by kernel_rfl) (by kernel_rfl) (by kernel_rfl) (fun c a d v w h => by cases d <;> exact h) (fun w m => m.pick [0, 1] rfl)) rfl rfl rfl ?_; intro t22
        refine o_mv (d_take (i := 33) rfl (by kernel_rfl) (by kernel_rfl) (by kernel_rfl) (fun c a d v w h => by cases d <;> exact h) (fun w m => m.pick [0, 1] rfl)) rfl rfl ?_
        refine o_mul (d_take (i := 34) rfl (by kernel_rfl) (by kernel_rfl) (by kernel_rfl) (fun c a d v w h => by cases d <;> exact h) (fun w m => m.pick [0, 1] rfl)) rfl rfl rfl ?_; intro t23
        refine o_add (d_take (i := 35) rfl (by kernel_rfl) (by kernel_rfl) (by kernel_rfl) (fun c a d v w h => by cases d <;> exact h) (fun w m => m.pick [0, 1] rfl)) rfl rfl rfl ?_; intro t24
        refine o_mv (d_take (i := 36) rfl (by kernel_rfl) (by kernel_rfl) (by kernel_rfl) (fun c a d v w h => by cases d <;> exact h) (fun w m => m.pick [0, 1] rfl)) rfl rfl ?_
        refine o_mv (d_take (i := 37) rfl (by kernel_rfl) (by kernel_rfl) (by kernel_rfl) (fun c a d v w h => by cases d <;> exact h) (fun w m => m.pick [0, 1] rfl)) rfl rfl ?_
        refine o_nilc (d_take (i := 38) rfl (by kernel_rfl) (by kernel_rfl) (by kernel_rfl) (fun c a d v w h => by cases d <;> exact h) (fun w m => m.pick [0, 1] rfl)) rfl rfl ?_
        refine o_fad (d_take (i := 39) rfl (by kernel_rfl) (by kernel_rfl) (by kernel_rfl) (fun c a d v w h => by cases d <;> exact h) (fun w m => m.pick [0, 1] rfl)) rfl rfl fld127_0 rfl ?_
        refine o_ldc (d_take (i := 40) rfl (by kernel_rfl) (by kernel_rfl) (by kernel_rfl) (fun c a d v w h => by cases d <;> exact h) (fun w m => m.pick [0, 1] rfl)) (v := v2) 0 rfl rfl rfl ty35 rfl ?_
        refine o_len (d_take (i := 41) rfl (by kernel_rfl) (by kernel_rfl) (by kernel_rfl) (fun c a d v w h => by cases d <;> exact h) (fun w m => m.pick [0, 1] rfl)) el35 1 rfl reads_ro rfl rfl ?_
        refine o_quo (d_take (i := 42) rfl (by kernel_rfl) (by kernel_rfl) (by kernel_rfl) (fun c a d v w h => by cases d <;> exact h) (fun w m => m.pick [0, 1] rfl)) rfl rfl rfl ?_; intro t25
        refine o_mul (d_take (i := 43) rfl (by kernel_rfl) (by kernel_rfl) (by kernel_rfl) (fun c a d v w h => by cases d <;> exact h) (fun w m => m.pick [0, 1] rfl)) rfl rfl rfl ?_; intro t26
        refine o_add (d_take (i := 44) rfl (by kernel_rfl) (by kernel_rfl) (by kernel_rfl) (fun c a d v w h => by cases d <;> exact h) (fun w m => m.pick [0, 1] rfl)) rfl rfl rfl ?_; intro t27
        refine o_as (d_take (i := 45) rfl (by kernel_rfl) (by kernel_rfl) (by kernel_rfl) (fun c a d v w h => by cases d <;> exact h) (fun w m => m.pick [0, 1] rfl)) rfl rfl ?_
        refine d_done (by kernel_rfl) ?_
        refine l_then ?_
        refine c_seq ?_
        refine c_region ?_
        refine o_mv st rfl rfl ?_
        refine o_mv st rfl rfl ?_
        refine o_quo st rfl rfl rfl ?_; intro t28
        refine o_xor st rfl rfl rfl ?_; intro t29
        refine o_as st rfl rfl ?_
        refine c_nil ?_
        refine l_then ?_
        refine c_seq ?_
        refine c_region ?_
        refine o_mv st rfl rfl ?_
        refine o_mv st rfl rfl ?_
        refine o_rem st rfl rfl rfl ?_; intro t30
        refine o_as st rfl rfl ?_
        refine c_nil ?_
        refine l_then ?_
        refine c_ret ?_
        exact l_end1 Tryd.results85 (t30, t5) () (rv_t rfl) (fun w m => NewCh.of m [0] rfl (fr_cons free_cell fr_nil))

set_option maxRecDepth 100000 in
set_option maxHeartbeats 8000000 in
theorem w_spec_l20Rd_odd {w0 : World} {F : Nat → Prop} {b1 : Nat} {v2 : Value} {r_0_b : (List UInt8)} {r_0_p : Int} {n_1 : Int} {κ : (Bool × Int) → Prop} (hg : Given [cellCh b1 [v2, (.int .i64 r_0_p)] 127] w0) (hv2 : Sl elU8 (fun b => b < w0.heap.size ∧ ¬ feet [cellCh b1 [v2, (.int .i64 r_0_p)] 127] b) w0 v2 r_0_b) (h : L_spec_l20Rd_odd r_0_b r_0_p n_1 κ) :
    Calls Tryd.prog 96 #[(.pointer (some ⟨b1, 0, none⟩)), (.int .i64 n_1)] w0 (Ret [cellCh b1 [v2, (.int .i64 r_0_p)] 127] F w0 κ (fun (r : (Bool × Int)) (u : Unit) => (.bool r.1)) (fun (r : (Bool × Int)) (u : Unit) => [cellCh b1 [v2, (.int .i64 r.2)] 127])) := by
  refine enter (args := [(.pointer (some ⟨b1, 0, none⟩)), (.int .i64 n_1)]) [cellCh b1 [v2, (.int .i64 r_0_p)] 127] Tryd.func96 rfl Tryd.ntmps96 rfl [roCh elU8 v2 r_0_b] (hf_cons hf_nil) (hh_cons hv2 hh_nil) hg.lt hg.disj hg.hold h ?_
  clear h hg hv2
  refine c_seq ?_
  refine c_region ?_
  refine o_as st rfl rfl ?_
  refine c_nil ?_
  refine l_then ?_
  refine c_join (σ := (Int × Bool)) (fun ((t5, t6) : (Int × Bool)) (a : Act) (w : World) => Has 15 [(4, (.bool t6))] a ∧ Mem (fun _ => True) (feet [cellCh b1 [v2, (.int .i64 r_0_p)] 127]) w0 [cellCh b1 [v2, (.int .i64 t5)] 127, roCh elU8 v2 r_0_b] w) ?_ ?_
  · intro k7
    refine c_region ?_
    refine o_mv st rfl rfl ?_
    refine o_gtr st rfl rfl rfl ?_
    refine o_mv st rfl rfl ?_
    refine st_sp (dj := 7) rfl ?_ ?_
    · refine o_mv (st_g rfl rfl) rfl rfl ?_
      refine o_mv (st_g rfl rfl) rfl rfl ?_
      refine pk [0, 1] rfl ?_
      refine st_gw rfl rfl (o_call (vs := [(.pointer (some ⟨b1, 0, none⟩)), (.int .i64 n_1)]) (M0 := [cellCh b1 [v2, (.int .i64 r_0_p)] 127]) Tryd.call85 rfl rfl (by intro w m h; exact w_spec_l20Rd_pick (r_0_b := r_0_b) (r_0_p := r_0_p) (n_1 := n_1) m.given (m.rdM 0 rfl reads_ro) h) ?_); rintro ⟨r8, r9⟩ _
      refine o_mv (st_g rfl rfl) rfl rfl ?_
      refine o_sub (st_g rfl rfl) rfl rfl rfl ?_; intro t10
      refine o_eql (st_g rfl rfl) und3 rfl rfl rfl ?_
      refine o_pickT st rfl rfl rfl ?_
      refine o_as st rfl rfl ?_
      refine c_nil ?_
      exact l_join (r9, (decide (r8 = t10))) (fun a w hE hm => ⟨hE.sub ⟨rfl, trivial⟩, (hm.pick [0, 1] rfl)⟩)
    · refine st_s rfl rfl rfl rfl ?_
      refine st_s rfl rfl rfl rfl ?_
      refine st_s rfl rfl rfl rfl ?_
      refine st_s rfl rfl rfl rfl ?_
      refine st_s rfl rfl rfl rfl ?_
      refine st_s rfl rfl rfl rfl ?_
      refine o_pickF st rfl rfl rfl ?_
      refine o_as st rfl rfl ?_
      refine c_nil ?_
      exact l_join (r_0_p, false) (fun a w hE hm => ⟨hE.sub ⟨rfl, trivial⟩, (hm.pick [0, 1] rfl)⟩)
  · rintro ⟨t5, t6⟩ a w ⟨hE, hm⟩ h
    refine nx_of hE hm h ?_
    clear hE hm h
    refine c_ret ?_
    exact l_end1 Tryd.results96 (t6, t5) () (rv_t rfl) (fun w m => NewCh.of m [0] rfl (fr_cons free_cell fr_nil))


end Go.Proofs.YtfgbbpmbmmihcaaDoor
