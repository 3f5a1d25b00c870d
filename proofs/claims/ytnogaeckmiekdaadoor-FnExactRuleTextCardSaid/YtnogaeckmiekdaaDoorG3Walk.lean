/- The walks of the functions of this seat (printed). -/
import Derived.Test.YtnogaeckmiekdaaDoorRows
import Derived.Test.YtnogaeckmiekdaaDoorG3Pure
import Derived.Test.YtnogaeckmiekdaaDoorLibS
set_option linter.unusedSimpArgs false
set_option linter.unusedVariables false
namespace Go.Proofs.YtnogaeckmiekdaaDoor
open Go.RowKit
theorem arr107 : arrB Tryd.prog 107 = some (4, 106, true, 2) := by kernel_rfl
theorem bld111 : bldB Tryd.prog 111 = some (#[(0, 1), (1, 1)], [(.slice none 0 0), (.int .i64 0)]) := by kernel_rfl
theorem bld123 : bldB Tryd.prog 123 = some (#[(0, 1)], [(.bool false)]) := by kernel_rfl
theorem bld125 : bldB Tryd.prog 125 = some (#[(0, 1)], [(.int .i64 0)]) := by kernel_rfl
theorem bld127 : bldB Tryd.prog 127 = some (#[], []) := by kernel_rfl
theorem bld128 : bldB Tryd.prog 128 = some (#[], []) := by kernel_rfl
theorem bld25 : bldB Tryd.prog 25 = some (#[(0, 1), (1, 1), (2, 1), (3, 1)], [(.int .i64 0), (.int .i64 0), (.int .i64 0), (.bool false)]) := by kernel_rfl
theorem bld29 : bldB Tryd.prog 29 = some (#[(0, 1), (1, 1)], [(.int .i64 0), (.int .i64 0)]) := by kernel_rfl
theorem bld53 : bldB Tryd.prog 53 = some (#[(0, 1), (1, 1), (2, 1)], [(.slice none 0 0), (.int .i64 0), (.int .i64 0)]) := by kernel_rfl
theorem bld77 : bldB Tryd.prog 77 = some (#[(0, 1), (1, 1)], [(.string (ByteArray.mk #[])), (.int .i64 0)]) := by kernel_rfl
theorem bld87 : bldB Tryd.prog 87 = some (#[(0, 1), (1, 1)], [(.int .i64 0), (.int .i64 0)]) := by kernel_rfl
theorem el103 : elB Tryd.prog 103 = some (3, 1, 8) := by kernel_rfl
theorem el34 : elB Tryd.prog 34 = some (5, 1, 1) := by kernel_rfl
theorem el46 : elB Tryd.prog 46 = some (23, 4, 32) := by kernel_rfl
theorem el51 : elB Tryd.prog 51 = some (25, 4, 32) := by kernel_rfl
theorem el66 : elB Tryd.prog 66 = some (9, 1, 16) := by kernel_rfl
theorem el88 : elB Tryd.prog 88 = some (87, 2, 16) := by kernel_rfl
theorem eqls25 (x y : Operand) (a0 : Int) (a1 : Int) (a2 : Int) (a3 : Bool) (b0 : Int) (b1 : Int) (b2 : Int) (b3 : Bool) (w : World) : (do eqGuard .eql 25 x y (.agg #[(.int .i64 a0), (.int .i64 a1), (.int .i64 a2), (.bool a3)]) (.agg #[(.int .i64 b0), (.int .i64 b1), (.int .i64 b2), (.bool b3)]); binOp .eql 25 (.agg #[(.int .i64 a0), (.int .i64 a1), (.int .i64 a2), (.bool a3)]) (.agg #[(.int .i64 b0), (.int .i64 b1), (.int .i64 b2), (.bool b3)]) : Sem Value).run Tryd.prog w = .ok (.bool (decide ((GTest.mk a0 a1 a2 a3) = (GTest.mk b0 b1 b2 b3)))) w := by
  simp [go_sem, binOp, Op.equal, Op.maxDepth]
  repeat' split
  all_goals simp_all
theorem neqs25 (x y : Operand) (a0 : Int) (a1 : Int) (a2 : Int) (a3 : Bool) (b0 : Int) (b1 : Int) (b2 : Int) (b3 : Bool) (w : World) : (do eqGuard .neq 25 x y (.agg #[(.int .i64 a0), (.int .i64 a1), (.int .i64 a2), (.bool a3)]) (.agg #[(.int .i64 b0), (.int .i64 b1), (.int .i64 b2), (.bool b3)]); binOp .neq 25 (.agg #[(.int .i64 a0), (.int .i64 a1), (.int .i64 a2), (.bool a3)]) (.agg #[(.int .i64 b0), (.int .i64 b1), (.int .i64 b2), (.bool b3)]) : Sem Value).run Tryd.prog w = .ok (.bool (!decide ((GTest.mk a0 a1 a2 a3) = (GTest.mk b0 b1 b2 b3)))) w := by
  simp [go_sem, binOp, Op.equal, Op.maxDepth]
  repeat' split
  all_goals simp_all
theorem eqls29 (x y : Operand) (a0 : Int) (a1 : Int) (b0 : Int) (b1 : Int) (w : World) : (do eqGuard .eql 29 x y (.agg #[(.int .i64 a0), (.int .i64 a1)]) (.agg #[(.int .i64 b0), (.int .i64 b1)]); binOp .eql 29 (.agg #[(.int .i64 a0), (.int .i64 a1)]) (.agg #[(.int .i64 b0), (.int .i64 b1)]) : Sem Value).run Tryd.prog w = .ok (.bool (decide ((GPrefix.mk a0 a1) = (GPrefix.mk b0 b1)))) w := by
  simp [go_sem, binOp, Op.equal, Op.maxDepth]
  repeat' split
  all_goals simp_all
theorem neqs29 (x y : Operand) (a0 : Int) (a1 : Int) (b0 : Int) (b1 : Int) (w : World) : (do eqGuard .neq 29 x y (.agg #[(.int .i64 a0), (.int .i64 a1)]) (.agg #[(.int .i64 b0), (.int .i64 b1)]); binOp .neq 29 (.agg #[(.int .i64 a0), (.int .i64 a1)]) (.agg #[(.int .i64 b0), (.int .i64 b1)]) : Sem Value).run Tryd.prog w = .ok (.bool (!decide ((GPrefix.mk a0 a1) = (GPrefix.mk b0 b1)))) w := by
  simp [go_sem, binOp, Op.equal, Op.maxDepth]
  repeat' split
  all_goals simp_all
theorem fld106_0 : fldB Tryd.prog 106 0 = some (0, false, 1) := by kernel_rfl
theorem fld106_1 : fldB Tryd.prog 106 1 = some (1, false, 1) := by kernel_rfl
theorem fld111_0 : fldB Tryd.prog 111 0 = some (0, false, 1) := by kernel_rfl
theorem fld111_1 : fldB Tryd.prog 111 1 = some (1, false, 1) := by kernel_rfl
theorem fld123_0 : fldB Tryd.prog 123 0 = some (0, false, 1) := by kernel_rfl
theorem fld23_0 : fldB Tryd.prog 23 0 = some (0, false, 1) := by kernel_rfl
theorem fld23_1 : fldB Tryd.prog 23 1 = some (1, false, 1) := by kernel_rfl
theorem fld23_2 : fldB Tryd.prog 23 2 = some (2, false, 1) := by kernel_rfl
theorem fld23_3 : fldB Tryd.prog 23 3 = some (3, false, 1) := by kernel_rfl
theorem fld25_0 : fldB Tryd.prog 25 0 = some (0, false, 1) := by kernel_rfl
theorem fld25_1 : fldB Tryd.prog 25 1 = some (1, false, 1) := by kernel_rfl
theorem fld25_2 : fldB Tryd.prog 25 2 = some (2, false, 1) := by kernel_rfl
theorem fld25_3 : fldB Tryd.prog 25 3 = some (3, false, 1) := by kernel_rfl
theorem fld29_0 : fldB Tryd.prog 29 0 = some (0, false, 1) := by kernel_rfl
theorem fld29_1 : fldB Tryd.prog 29 1 = some (1, false, 1) := by kernel_rfl
theorem fld48_0 : fldB Tryd.prog 48 0 = some (0, false, 1) := by kernel_rfl
theorem fld48_1 : fldB Tryd.prog 48 1 = some (1, false, 1) := by kernel_rfl
theorem fld48_2 : fldB Tryd.prog 48 2 = some (2, false, 1) := by kernel_rfl
theorem fld53_0 : fldB Tryd.prog 53 0 = some (0, false, 1) := by kernel_rfl
theorem fld53_1 : fldB Tryd.prog 53 1 = some (1, false, 1) := by kernel_rfl
theorem fld53_2 : fldB Tryd.prog 53 2 = some (2, false, 1) := by kernel_rfl
theorem fld77_0 : fldB Tryd.prog 77 0 = some (0, false, 1) := by kernel_rfl
theorem fld77_1 : fldB Tryd.prog 77 1 = some (1, false, 1) := by kernel_rfl
theorem fld87_0 : fldB Tryd.prog 87 0 = some (0, false, 1) := by kernel_rfl
theorem fld87_1 : fldB Tryd.prog 87 1 = some (1, false, 1) := by kernel_rfl
theorem meth123_word (v : Value) (w : World) : (method (Tryd.prog.types.size + Made.depth) 123 v "loop.example/packetfilter/impl.word").run Tryd.prog w = .ok (130, v) w := by kernel_rfl
theorem meth125_word (v : Value) (w : World) : (method (Tryd.prog.types.size + Made.depth) 125 v "loop.example/packetfilter/impl.word").run Tryd.prog w = .ok (133, v) w := by kernel_rfl
theorem meth127_word (v : Value) (w : World) : (method (Tryd.prog.types.size + Made.depth) 127 v "loop.example/packetfilter/impl.word").run Tryd.prog w = .ok (136, v) w := by kernel_rfl
theorem meth128_word (v : Value) (w : World) : (method (Tryd.prog.types.size + Made.depth) 128 v "loop.example/packetfilter/impl.word").run Tryd.prog w = .ok (139, v) w := by kernel_rfl
theorem mki123 : ∀ v w, (Instr.makeInterface 123 v).run Tryd.prog w = .ok (.iface 123 v) w := fun v w => by kernel_rfl
theorem mki125 : ∀ v w, (Instr.makeInterface 125 v).run Tryd.prog w = .ok (.iface 125 v) w := fun v w => by kernel_rfl
theorem mki127 : ∀ v w, (Instr.makeInterface 127 v).run Tryd.prog w = .ok (.iface 127 v) w := fun v w => by kernel_rfl
theorem mki128 : ∀ v w, (Instr.makeInterface 128 v).run Tryd.prog w = .ok (.iface 128 v) w := fun v w => by kernel_rfl
theorem ty23 : tyB Tryd.prog 23 = some (true, 4) := by kernel_rfl
theorem ty25 : tyB Tryd.prog 25 = some (true, 4) := by kernel_rfl
theorem ty29 : tyB Tryd.prog 29 = some (true, 2) := by kernel_rfl
theorem ty3 : tyB Tryd.prog 3 = some (false, 1) := by kernel_rfl
theorem ty34 : tyB Tryd.prog 34 = some (false, 1) := by kernel_rfl
theorem ty4 : tyB Tryd.prog 4 = some (false, 1) := by kernel_rfl
theorem ty46 : tyB Tryd.prog 46 = some (false, 1) := by kernel_rfl
theorem ty48 : tyB Tryd.prog 48 = some (true, 3) := by kernel_rfl
theorem ty5 : tyB Tryd.prog 5 = some (false, 1) := by kernel_rfl
theorem ty51 : tyB Tryd.prog 51 = some (false, 1) := by kernel_rfl
theorem ty53 : tyB Tryd.prog 53 = some (true, 3) := by kernel_rfl
theorem ty77 : tyB Tryd.prog 77 = some (true, 2) := by kernel_rfl
theorem ty87 : tyB Tryd.prog 87 = some (true, 2) := by kernel_rfl
theorem ty9 : tyB Tryd.prog 9 = some (false, 1) := by kernel_rfl
theorem und3 : Tryd.prog.underlying 3 = some (.int .i64) := by kernel_rfl
theorem und34 : Tryd.prog.underlying 34 = some (.slice 5) := by kernel_rfl
theorem und4 : Tryd.prog.underlying 4 = some .bool := by kernel_rfl
theorem und5 : Tryd.prog.underlying 5 = some (.int .u8) := by kernel_rfl
theorem und9 : Tryd.prog.underlying 9 = some .string := by kernel_rfl
theorem zero25 : zeroB Tryd.prog 25 = some [(.int .i64 0), (.int .i64 0), (.int .i64 0), (.bool false)] := by kernel_rfl
theorem zero29 : zeroB Tryd.prog 29 = some [(.int .i64 0), (.int .i64 0)] := by kernel_rfl
theorem zero3 : zeroB Tryd.prog 3 = some [(.int .i64 0)] := by kernel_rfl
theorem zero5 : zeroB Tryd.prog 5 = some [(.int .u8 0)] := by kernel_rfl
theorem zero53 : zeroB Tryd.prog 53 = some [(.slice none 0 0), (.int .i64 0), (.int .i64 0)] := by kernel_rfl
theorem zero77 : zeroB Tryd.prog 77 = some [(.string (ByteArray.mk #[])), (.int .i64 0)] := by kernel_rfl
theorem zero87 : zeroB Tryd.prog 87 = some [(.int .i64 0), (.int .i64 0)] := by kernel_rfl
theorem zero9 : zeroB Tryd.prog 9 = some [(.string (ByteArray.mk #[]))] := by kernel_rfl
theorem mixed : Tryd.prog.follows .mixedOrders = true := by kernel_rfl

set_option maxRecDepth 100000 in
set_option maxHeartbeats 8000000 in
theorem w_spec_l1In {w0 : World} {F : Nat → Prop} {n_0 : Int} {lo_1 : Int} {hi_2 : Int} {κ : Bool → Prop} (hF : ∀ b, F b → b < w0.heap.size ∧ ¬ feet [] b) (h : L_spec_l1In n_0 lo_1 hi_2 κ) :
    Calls Tryd.prog 62 #[(.int .i64 n_0), (.int .i64 lo_1), (.int .i64 hi_2)] w0 (Ret [] F w0 κ (fun (r : Bool) (u : Unit) => (.bool r)) (fun (r : Bool) (u : Unit) => [])) := by
  refine enter0 (args := [(.int .i64 n_0), (.int .i64 lo_1), (.int .i64 hi_2)]) [] hF (Given.nil _ _) Tryd.func62 rfl Tryd.ntmps62 rfl h ?_
  clear h hF
  refine c_seq ?_
  refine c_region ?_
  refine o_as st rfl rfl ?_
  refine c_nil ?_
  refine l_then ?_
  refine c_join (σ := Bool) (fun (t61 : Bool) (a : Act) (w : World) => Has 15 [(6, (.bool t61))] a ∧ Mem (gB F [] w0) (feet []) w0 [] w) ?_ ?_
  · intro k62
    refine c_region ?_
    refine o_mv st rfl rfl ?_
    refine o_mv st rfl rfl ?_
    refine o_geq st rfl rfl rfl ?_
    refine o_mv st rfl rfl ?_
    refine st_sp (dj := 10) rfl ?_ ?_
    · refine o_mv (st_g rfl rfl) rfl rfl ?_
      refine o_mv (st_g rfl rfl) rfl rfl ?_
      refine o_leq (st_g rfl rfl) rfl rfl rfl ?_
      refine o_pickT st rfl rfl rfl ?_
      refine o_as st rfl rfl ?_
      refine c_nil ?_
      exact l_join (decide (n_0 ≤ hi_2)) (fun a w hE hm => ⟨hE.sub ⟨rfl, trivial⟩, (hm.pick [] rfl)⟩)
    · refine st_s rfl rfl rfl rfl ?_
      refine st_s rfl rfl rfl rfl ?_
      refine st_s rfl rfl rfl rfl ?_
      refine o_pickF st rfl rfl rfl ?_
      refine o_as st rfl rfl ?_
      refine c_nil ?_
      exact l_join false (fun a w hE hm => ⟨hE.sub ⟨rfl, trivial⟩, (hm.pick [] rfl)⟩)
  · rintro t61 a w ⟨hE, hm⟩ h
    refine nx_of hE hm h ?_
    clear hE hm h
    refine c_ret ?_
    exact l_end1 Tryd.results62 t61 () (rv_t rfl) (fun _ _ => NewCh.nil _ _ _ _)

set_option maxRecDepth 100000 in
set_option maxHeartbeats 8000000 in
theorem w_spec_FieldTop {w0 : World} {F : Nat → Prop} {n_0 : Int} {κ : Int → Prop} (hF : ∀ b, F b → b < w0.heap.size ∧ ¬ feet [] b) (h : L_spec_FieldTop n_0 κ) :
    Calls Tryd.prog 69 #[(.int .i64 n_0)] w0 (Ret [] F w0 κ (fun (r : Int) (u : Unit) => (.int .i64 r)) (fun (r : Int) (u : Unit) => [])) := by
  refine enter0 (args := [(.int .i64 n_0)]) [] hF (Given.nil _ _) Tryd.func69 rfl Tryd.ntmps69 rfl h ?_
  clear h hF
  refine c_seq ?_
  refine c_region ?_
  refine o_as st rfl rfl ?_
  refine c_nil ?_
  refine l_then ?_
  refine c_seq ?_
  refine c_seq ?_
  refine c_region ?_
  refine o_mv st rfl rfl ?_
  refine c_nil ?_
  refine l_then ?_
  refine c_block ?_
  refine c_join (σ := Bool) (fun (t61 : Bool) (a : Act) (w : World) => Has 11 [(3, (.int .i64 n_0)), (4, (.bool t61))] a ∧ Mem (gB F [] w0) (feet []) w0 [] w) ?_ ?_
  · intro k62
    refine c_seq ?_
    refine c_region ?_
    refine o_eql st und3 rfl rfl rfl ?_
    refine o_as st rfl rfl ?_
    refine c_nil ?_
    refine l_then ?_
    refine c_cond rfl ?_ ?_
    · refine c_skip ?_
      exact l_join (decide (n_0 = 0)) (fun a w hE hm => ⟨hE.sub ⟨rfl, rfl, trivial⟩, (hm.pick [] rfl)⟩)
    · refine c_region ?_
      refine o_eql st und3 rfl rfl rfl ?_
      refine o_as st rfl rfl ?_
      refine c_nil ?_
      exact l_join (decide (n_0 = 1)) (fun a w hE hm => ⟨hE.sub ⟨rfl, rfl, trivial⟩, (hm.pick [] rfl)⟩)
  · rintro t61 a w ⟨hE, hm⟩ h
    refine nx_of hE hm h ?_
    clear hE hm h
    refine c_cond rfl ?_ ?_
    · refine c_seq ?_
      refine c_region ?_
      refine o_as st rfl rfl ?_
      refine c_nil ?_
      refine l_then ?_
      refine c_ret ?_
      refine b_ret ?_
      refine l_ret ?_
      exact l_end1 Tryd.results69 65535 () (rv_t rfl) (fun _ _ => NewCh.nil _ _ _ _)
    · refine c_seq ?_
      refine c_region ?_
      refine o_eql st und3 rfl rfl rfl ?_
      refine o_as st rfl rfl ?_
      refine c_nil ?_
      refine l_then ?_
      refine c_cond rfl ?_ ?_
      · refine c_seq ?_
        refine c_region ?_
        refine o_as st rfl rfl ?_
        refine c_nil ?_
        refine l_then ?_
        refine c_ret ?_
        refine b_ret ?_
        refine l_ret ?_
        exact l_end1 Tryd.results69 255 () (rv_t rfl) (fun _ _ => NewCh.nil _ _ _ _)
      · refine c_seq ?_
        refine c_region ?_
        refine o_eql st und3 rfl rfl rfl ?_
        refine o_as st rfl rfl ?_
        refine c_nil ?_
        refine l_then ?_
        refine c_cond rfl ?_ ?_
        · refine c_seq ?_
          refine c_region ?_
          refine o_as st rfl rfl ?_
          refine c_nil ?_
          refine l_then ?_
          refine c_ret ?_
          refine b_ret ?_
          refine l_ret ?_
          exact l_end1 Tryd.results69 7 () (rv_t rfl) (fun _ _ => NewCh.nil _ _ _ _)
        · refine c_skip ?_
          refine b_norm ?_
          refine l_then ?_
          refine c_seq ?_
          refine c_region ?_
          refine o_as st rfl rfl ?_
          refine c_nil ?_
          refine l_then ?_
          refine c_ret ?_
          exact l_end1 Tryd.results69 (-1) () (rv_t rfl) (fun _ _ => NewCh.nil _ _ _ _)

set_option maxRecDepth 100000 in
set_option maxHeartbeats 8000000 in
theorem w_spec_TestValid {w0 : World} {F : Nat → Prop} {t_0 : GTest} {κ : Bool → Prop} (hF : ∀ b, F b → b < w0.heap.size ∧ ¬ feet [] b) (h : L_spec_TestValid t_0 κ) :
    Calls Tryd.prog 31 #[(.agg #[(.int .i64 t_0.xField), (.int .i64 t_0.xLo), (.int .i64 t_0.xHi), (.bool t_0.xNot)])] w0 (Ret [] F w0 κ (fun (r : Bool) (u : Unit) => (.bool r)) (fun (r : Bool) (u : Unit) => [])) := by
  refine enter0 (args := [(.agg #[(.int .i64 t_0.xField), (.int .i64 t_0.xLo), (.int .i64 t_0.xHi), (.bool t_0.xNot)])]) [] hF (Given.nil _ _) Tryd.func31 rfl Tryd.ntmps31 rfl h ?_
  clear h hF
  refine c_seq ?_
  refine c_region ?_
  refine stw (o_box rfl rfl [(.int .i64 t_0.xField), (.int .i64 t_0.xLo), (.int .i64 t_0.xHi), (.bool t_0.xNot)] rfl ?_); intro b1
  refine o_as st rfl rfl ?_
  refine c_nil ?_
  refine l_then ?_
  refine c_join (σ := Bool) (fun (t66 : Bool) (a : Act) (w : World) => Has 21 [(2, (.bool t66))] a ∧ Mem (gB F [] w0) (feet []) w0 [] w) ?_ ?_
  · intro k67
    refine c_draw mixed 19 rfl [cellCh b1 [(.int .i64 t_0.xField), (.int .i64 t_0.xLo), (.int .i64 t_0.xHi), (.bool t_0.xNot)] 25] ?_
    refine o_fad (dt 0 (fun _ m => m)) rfl rfl fld25_0 rfl ?_
    refine o_ldc (dt 1 (fun _ m => m)) (v := (.int .i64 t_0.xField)) 0 rfl rfl rfl ty3 rfl ?_
    refine d_one (i := 2) rfl (by kernel_rfl) (o_callP (vs := [(.int .i64 t_0.xField), (.int .i64 0), (.int .i64 3)]) Tryd.call62 rfl rfl (by intro w m h; exact (w_spec_l1In (F := allB [] w) (n_0 := t_0.xField) (lo_1 := 0) (hi_2 := 3) allB_ok h).mono (fun _ _ k => ret_free (fun r u => fr_nil) k)) ?_); rintro r3 _
    refine d_and (fun _ m => m) ?_
    refine o_mv (dt 3 (fun _ m => m)) rfl rfl ?_
    refine st_sp (dj := 6) rfl ?_ ?_
    · refine o_fad (dtg 4 (fun _ m => m)) rfl rfl fld25_1 rfl ?_
      refine o_ldc (dtg 5 (fun _ m => m)) (v := (.int .i64 t_0.xLo)) 0 rfl rfl rfl ty3 rfl ?_
      refine o_fad (dtg 6 (fun _ m => m)) rfl rfl fld25_2 rfl ?_
      refine o_ldc (dtg 7 (fun _ m => m)) (v := (.int .i64 t_0.xHi)) 0 rfl rfl rfl ty3 rfl ?_
      refine d_oneg (i := 8) rfl rfl rfl (by kernel_rfl) (o_callP (vs := [(.int .i64 t_0.xLo), (.int .i64 0), (.int .i64 t_0.xHi)]) Tryd.call62 rfl rfl (by intro w m h; exact (w_spec_l1In (F := allB [] w) (n_0 := t_0.xLo) (lo_1 := 0) (hi_2 := t_0.xHi) allB_ok h).mono (fun _ _ k => ret_free (fun r u => fr_nil) k)) ?_); rintro r4 _
      refine d_and (fun _ m => m) ?_
      refine o_pickT (dt 9 (fun _ m => m)) rfl rfl rfl ?_
      refine o_mv (dt 10 (fun _ m => m)) rfl rfl ?_
      refine st_sp (dj := 13) rfl ?_ ?_
      · refine o_fad (dtg 11 (fun _ m => m)) rfl rfl fld25_2 rfl ?_
        refine o_ldc (dtg 12 (fun _ m => m)) (v := (.int .i64 t_0.xHi)) 0 rfl rfl rfl ty3 rfl ?_
        refine o_fad (dtg 13 (fun _ m => m)) rfl rfl fld25_0 rfl ?_
        refine o_ldc (dtg 14 (fun _ m => m)) (v := (.int .i64 t_0.xField)) 0 rfl rfl rfl ty3 rfl ?_
        refine d_oneg (i := 15) rfl rfl rfl (by kernel_rfl) (o_callP (vs := [(.int .i64 t_0.xField)]) Tryd.call69 rfl rfl (by intro w m h; exact (w_spec_FieldTop (F := allB [] w) (n_0 := t_0.xField) allB_ok h).mono (fun _ _ k => ret_free (fun r u => fr_nil) k)) ?_); rintro r5 _
        refine d_and (fun _ m => m) ?_
        refine o_leq (dtg 16 (fun _ m => m)) rfl rfl rfl ?_
        refine o_pickT (dt 17 (fun _ m => m)) rfl rfl rfl ?_
        refine o_as (dt 18 (fun _ m => m)) rfl rfl ?_
        refine d_done (by kernel_rfl) ?_
        exact l_join (decide (t_0.xHi ≤ r5)) (fun a w hE hm => ⟨hE.sub ⟨rfl, trivial⟩, (hm.pick [] rfl)⟩)
      · refine dsk 11 (fun _ m => m) rfl (by kernel_rfl) rfl rfl rfl rfl ?_
        refine dsk 12 (fun _ m => m) rfl (by kernel_rfl) rfl rfl rfl rfl ?_
        refine dsk 13 (fun _ m => m) rfl (by kernel_rfl) rfl rfl rfl rfl ?_
        refine dsk 14 (fun _ m => m) rfl (by kernel_rfl) rfl rfl rfl rfl ?_
        refine dsk 15 (fun _ m => m) rfl (by kernel_rfl) rfl rfl rfl rfl ?_
        refine dsk 16 (fun _ m => m) rfl (by kernel_rfl) rfl rfl rfl rfl ?_
        refine o_pickF (dt 17 (fun _ m => m)) rfl rfl rfl ?_
        refine o_as (dt 18 (fun _ m => m)) rfl rfl ?_
        refine d_done (by kernel_rfl) ?_
        exact l_join false (fun a w hE hm => ⟨hE.sub ⟨rfl, trivial⟩, (hm.pick [] rfl)⟩)
    · refine dsk 4 (fun _ m => m) rfl (by kernel_rfl) rfl rfl rfl rfl ?_
      refine dsk 5 (fun _ m => m) rfl (by kernel_rfl) rfl rfl rfl rfl ?_
      refine dsk 6 (fun _ m => m) rfl (by kernel_rfl) rfl rfl rfl rfl ?_
      refine dsk 7 (fun _ m => m) rfl (by kernel_rfl) rfl rfl rfl rfl ?_
      refine dsk 8 (fun _ m => m) rfl (by kernel_rfl) rfl rfl rfl rfl ?_
      refine o_pickF (dt 9 (fun _ m => m)) rfl rfl rfl ?_
      refine o_mv (dt 10 (fun _ m => m)) rfl rfl ?_
      refine dsk 11 (fun _ m => m) rfl (by kernel_rfl) rfl rfl rfl rfl ?_
      refine dsk 12 (fun _ m => m) rfl (by kernel_rfl) rfl rfl rfl rfl ?_
      refine dsk 13 (fun _ m => m) rfl (by kernel_rfl) rfl rfl rfl rfl ?_
      refine dsk 14 (fun _ m => m) rfl (by kernel_rfl) rfl rfl rfl rfl ?_
      refine dsk 15 (fun _ m => m) rfl (by kernel_rfl) rfl rfl rfl rfl ?_
      refine dsk 16 (fun _ m => m) rfl (by kernel_rfl) rfl rfl rfl rfl ?_
      refine o_pickF (dt 17 (fun _ m => m)) rfl rfl rfl ?_
      refine o_as (dt 18 (fun _ m => m)) rfl rfl ?_
      refine d_done (by kernel_rfl) ?_
      exact l_join false (fun a w hE hm => ⟨hE.sub ⟨rfl, trivial⟩, (hm.pick [] rfl)⟩)
  · rintro t66 a w ⟨hE, hm⟩ h
    refine nx_of hE hm h ?_
    clear hE hm h
    refine c_ret ?_
    exact l_end1 Tryd.results31 t66 () (rv_t rfl) (fun _ _ => NewCh.nil _ _ _ _)

set_option maxRecDepth 100000 in
set_option maxHeartbeats 8000000 in
theorem w_spec_l3Number {w0 : World} {F : Nat → Prop} {n_0 : Int} {κ : ByteArray → Prop} (hF : ∀ b, F b → b < w0.heap.size ∧ ¬ feet [] b) (h : L_spec_l3Number n_0 κ) :
    Calls Tryd.prog 51 #[(.int .i64 n_0)] w0 (Ret [] F w0 κ (fun (r : ByteArray) (u : Unit) => (.string r)) (fun (r : ByteArray) (u : Unit) => [])) := by
  refine enter0 (args := [(.int .i64 n_0)]) [] hF (Given.nil _ _) Tryd.func51 rfl Tryd.ntmps51 rfl h ?_
  clear h hF
  refine c_seq ?_
  refine c_region ?_
  refine o_as st rfl rfl ?_
  refine c_nil ?_
  refine l_then ?_
  refine c_seq ?_
  refine c_region ?_
  refine o_mv st rfl rfl ?_
  refine o_rem st rfl rfl rfl ?_; intro t1
  refine o_add st rfl rfl rfl ?_; intro t2
  refine o_cnvU st und3 und5 rfl rfl ?_; intro t3
  refine stw (o_bsl (enc := encU8) (qs := [(0, (.int .u8 (t3.toNat : Int)))]) (cells := [(.int .u8 (t3.toNat : Int))]) ([t3]) flelU8 (by intro ρ h; simp only [List.map_toArray, List.map_cons, List.map_nil, h (.tmp 7) _ rfl]) rfl el34 zero5 rfl rfl rfl rfl rfl rfl ?_); intro v4
  refine o_b2s st 0 rfl reads_own flelU8 rfl und34 und5 und9 rfl rfl ?_
  refine o_as st rfl rfl ?_
  refine c_nil ?_
  refine l_then ?_
  refine c_seq ?_
  refine c_block ?_
  refine c_loop (σ := (Int × ByteArray)) (fun ((t6, t7) : (Int × ByteArray)) (a : Act) (w : World) => Has 23 [(0, (.int .i64 t6)), (3, (.string t7))] a ∧ Mem (gB F [] w0) (feet []) w0 [] w) (fun a w hE hm => ⟨hE.sub ⟨rfl, rfl, trivial⟩, (hm.pick [] rfl)⟩) ?_
  rintro nx8 ⟨t6, t7⟩ a w ⟨hE, hm⟩ h
  refine nx_of hE hm h ?_
  clear hE hm h
  refine c_seq ?_
  refine c_seq ?_
  refine c_region ?_
  refine o_mv st rfl rfl ?_
  refine o_gtr st rfl rfl rfl ?_
  refine c_nil ?_
  refine l_then ?_
  refine c_cond rfl ?_ ?_
  · refine c_skip ?_
    refine l_then ?_
    refine c_block ?_
    refine c_seq ?_
    refine c_region ?_
    refine o_mv st rfl rfl ?_
    refine o_quo st rfl rfl rfl ?_; intro t9
    refine o_as st rfl rfl ?_
    refine c_nil ?_
    refine l_then ?_
    refine c_region ?_
    refine o_mv st rfl rfl ?_
    refine o_rem st rfl rfl rfl ?_; intro t10
    refine o_add st rfl rfl rfl ?_; intro t11
    refine o_cnvU st und3 und5 rfl rfl ?_; intro t12
    refine stw (o_bsl (enc := encU8) (qs := [(0, (.int .u8 (t12.toNat : Int)))]) (cells := [(.int .u8 (t12.toNat : Int))]) ([t12]) flelU8 (by intro ρ h; simp only [List.map_toArray, List.map_cons, List.map_nil, h (.tmp 17) _ rfl]) rfl el34 zero5 rfl rfl rfl rfl rfl rfl ?_); intro v13
    refine o_b2s st 0 rfl reads_own flelU8 rfl und34 und5 und9 rfl rfl ?_
    refine o_mv st rfl rfl ?_
    refine o_cat st rfl rfl rfl ?_; intro s15
    refine o_as st rfl rfl ?_
    refine c_nil ?_
    refine b_norm ?_
    exact l_join (t9, s15) (fun a w hE hm => ⟨hE.sub ⟨rfl, rfl, trivial⟩, (hm.pick [] rfl)⟩)
  · refine c_exit ?_
    refine l_exit ?_
    refine l_exit ?_
    refine b_exit ?_
    refine l_then ?_
    refine c_seq ?_
    refine c_region ?_
    refine o_mv st rfl rfl ?_
    refine o_as st rfl rfl ?_
    refine c_nil ?_
    refine l_then ?_
    refine c_ret ?_
    exact l_end1 Tryd.results51 t7 () (rv_t rfl) (fun _ _ => NewCh.nil _ _ _ _)

set_option maxRecDepth 100000 in
set_option maxHeartbeats 8000000 in
theorem w_spec_TestText {w0 : World} {F : Nat → Prop} {t_0 : GTest} {κ : ByteArray → Prop} (hF : ∀ b, F b → b < w0.heap.size ∧ ¬ feet [] b) (h : L_spec_TestText t_0 κ) :
    Calls Tryd.prog 15 #[(.agg #[(.int .i64 t_0.xField), (.int .i64 t_0.xLo), (.int .i64 t_0.xHi), (.bool t_0.xNot)])] w0 (Ret [] F w0 κ (fun (r : ByteArray) (u : Unit) => (.string r)) (fun (r : ByteArray) (u : Unit) => [])) := by
  refine enter0 (args := [(.agg #[(.int .i64 t_0.xField), (.int .i64 t_0.xLo), (.int .i64 t_0.xHi), (.bool t_0.xNot)])]) [] hF (Given.nil _ _) Tryd.func15 rfl Tryd.ntmps15 rfl h ?_
  clear h hF
  refine c_seq ?_
  refine c_region ?_
  refine stw (o_box rfl rfl [(.int .i64 t_0.xField), (.int .i64 t_0.xLo), (.int .i64 t_0.xHi), (.bool t_0.xNot)] rfl ?_); intro b1
  refine o_as st rfl rfl ?_
  refine c_nil ?_
  refine l_then ?_
  refine c_seq ?_
  refine c_seq ?_
  refine c_region ?_
  refine o_ldc st (v := (.agg #[(.int .i64 t_0.xField), (.int .i64 t_0.xLo), (.int .i64 t_0.xHi), (.bool t_0.xNot)])) 0 rfl rfl rfl ty25 rfl ?_
  refine stw (o_callP (vs := [(.agg #[(.int .i64 t_0.xField), (.int .i64 t_0.xLo), (.int .i64 t_0.xHi), (.bool t_0.xNot)])]) Tryd.call31 rfl rfl (by intro w m h; exact (w_spec_TestValid (F := allB [] w) (t_0 := t_0) allB_ok h).mono (fun _ _ k => ret_free (fun r u => fr_nil) k)) ?_); rintro r3 _
  refine o_not st rfl rfl ?_
  refine c_nil ?_
  refine l_then ?_
  refine c_cond rfl ?_ ?_
  · refine c_seq ?_
    refine c_region ?_
    refine o_as st rfl rfl ?_
    refine c_nil ?_
    refine l_then ?_
    refine c_ret ?_
    refine l_ret ?_
    exact l_end1 Tryd.results15 (ByteArray.mk #[]) () (rv_t rfl) (fun _ _ => NewCh.nil _ _ _ _)
  · refine c_skip ?_
    refine l_then ?_
    refine c_join (σ := ByteArray) (fun (t4 : ByteArray) (a : Act) (w : World) => Has 33 [(1, (.pointer (some ⟨b1, 0, none⟩))), (3, (.string t4))] a ∧ Mem (gB F [] w0) (feet []) w0 [cellCh b1 [(.int .i64 t_0.xField), (.int .i64 t_0.xLo), (.int .i64 t_0.xHi), (.bool t_0.xNot)] 25] w) ?_ ?_
    · intro k5
      refine c_drawQ mixed 11 rfl [cellCh b1 [(.int .i64 t_0.xField), (.int .i64 t_0.xLo), (.int .i64 t_0.xHi), (.bool t_0.xNot)] 25] ?_
      intro Qd hP hQ
      have H2 : ∀ (v6 : Value) (e7 : ByteArray) (h8 : ([(ByteArray.mk #[102, 114, 111, 109]), (ByteArray.mk #[116, 111]), (ByteArray.mk #[112, 111, 114, 116]), (ByteArray.mk #[112, 114, 111, 116, 111])])[(t_0.xField).toNat]? = some e7) (s9 : ByteArray) (r10 : ByteArray), Nx 33 (gB F [] w0) (feet []) w0 (wpAnyH Tryd.prog .any (opsAt Tryd.f15 [1, 1, 0]) Qd (Mem (gB F [] w0) (feet []) w0 [cellCh b1 [(.int .i64 t_0.xField), (.int .i64 t_0.xLo), (.int .i64 t_0.xHi), (.bool t_0.xNot)] 25]) 2 #[true, true, true, true, true, true, true, true, true, false, false]) [(1, (.pointer (some ⟨b1, 0, none⟩))), (12, (.string s9)), (15, (.string r10))] [cellCh b1 [(.int .i64 t_0.xField), (.int .i64 t_0.xLo), (.int .i64 t_0.xHi), (.bool t_0.xNot)] 25] (catW s9 r10 (fun s11 => k5 s11)) := by
        intro v6 e7 h8 s9 r10
        refine o_cat (dt 9 (fun _ m => m)) rfl rfl rfl ?_; intro s11
        refine o_as (dt 10 (fun _ m => m)) rfl rfl ?_
        refine d_done (by kernel_rfl) ?_
        exact fun a w hE hm hφ => hQ s11 a w hφ ((fun a w hE hm => ⟨hE.sub ⟨rfl, rfl, trivial⟩, (hm.pick [0] rfl)⟩) a w hE hm)
      have H3 : ∀ (v6 : Value) (e7 : ByteArray) (h8 : ([(ByteArray.mk #[102, 114, 111, 109]), (ByteArray.mk #[116, 111]), (ByteArray.mk #[112, 111, 114, 116]), (ByteArray.mk #[112, 114, 111, 116, 111])])[(t_0.xField).toNat]? = some e7), Nx 33 (gB F [] w0) (feet []) w0 (wpAnyH Tryd.prog .any (opsAt Tryd.f15 [1, 1, 0]) Qd (Mem (gB F [] w0) (feet []) w0 [cellCh b1 [(.int .i64 t_0.xField), (.int .i64 t_0.xLo), (.int .i64 t_0.xHi), (.bool t_0.xNot)] 25]) 4 #[true, true, true, true, true, false, true, true, false, false, false]) [(1, (.pointer (some ⟨b1, 0, none⟩))), (14, (.int .i64 t_0.xLo)), (11, (.string e7))] [cellCh b1 [(.int .i64 t_0.xField), (.int .i64 t_0.xLo), (.int .i64 t_0.xHi), (.bool t_0.xNot)] 25] (catW e7 (ByteArray.mk #[32]) (fun s9 => L_spec_l3Number t_0.xLo (fun r10 => catW s9 r10 (fun s11 => k5 s11)))) := by
        intro v6 e7 h8
        refine o_cat (dt 5 (fun _ m => m)) rfl rfl rfl ?_; intro s9
        refine d_one (i := 8) rfl (by kernel_rfl) (o_callP (vs := [(.int .i64 t_0.xLo)]) Tryd.call51 rfl rfl (by intro w m h; exact (w_spec_l3Number (F := allB [] w) (n_0 := t_0.xLo) allB_ok h).mono (fun _ _ k => ret_free (fun r u => fr_nil) k)) ?_); rintro r10 _
        refine d_and (fun _ m => m) ?_
        refine pk [0] rfl ?_
        refine re (E' := [(1, (.pointer (some ⟨b1, 0, none⟩))), (12, (.string s9)), (15, (.string r10))]) ⟨rfl, rfl, rfl, trivial⟩ ?_
        exact H2 v6 e7 h8 s9 r10
      have H4 : ∀ (v6 : Value) (e7 : ByteArray) (h8 : ([(ByteArray.mk #[102, 114, 111, 109]), (ByteArray.mk #[116, 111]), (ByteArray.mk #[112, 111, 114, 116]), (ByteArray.mk #[112, 114, 111, 116, 111])])[(t_0.xField).toNat]? = some e7) (r12 : ByteArray), Nx 33 (gB F [] w0) (feet []) w0 (wpAnyH Tryd.prog .any (opsAt Tryd.f15 [1, 1, 0]) Qd (Mem (gB F [] w0) (feet []) w0 [cellCh b1 [(.int .i64 t_0.xField), (.int .i64 t_0.xLo), (.int .i64 t_0.xHi), (.bool t_0.xNot)] 25]) 3 #[true, true, true, true, true, false, true, true, true, false, false]) [(1, (.pointer (some ⟨b1, 0, none⟩))), (15, (.string r12)), (11, (.string e7))] [cellCh b1 [(.int .i64 t_0.xField), (.int .i64 t_0.xLo), (.int .i64 t_0.xHi), (.bool t_0.xNot)] 25] (catW e7 (ByteArray.mk #[32]) (fun s13 => catW s13 r12 (fun s14 => k5 s14))) := by
        intro v6 e7 h8 r12
        refine o_cat (dt 5 (fun _ m => m)) rfl rfl rfl ?_; intro s13
        refine o_cat (dt 9 (fun _ m => m)) rfl rfl rfl ?_; intro s14
        refine o_as (dt 10 (fun _ m => m)) rfl rfl ?_
        refine d_done (by kernel_rfl) ?_
        exact fun a w hE hm hφ => hQ s14 a w hφ ((fun a w hE hm => ⟨hE.sub ⟨rfl, rfl, trivial⟩, (hm.pick [0] rfl)⟩) a w hE hm)
      have H5 : ∀ (v6 : Value) (e7 : ByteArray) (h8 : ([(ByteArray.mk #[102, 114, 111, 109]), (ByteArray.mk #[116, 111]), (ByteArray.mk #[112, 111, 114, 116]), (ByteArray.mk #[112, 114, 111, 116, 111])])[(t_0.xField).toNat]? = some e7) (r12 : ByteArray), Nx 33 (gB F [] w0) (feet []) w0 (wpAnyH Tryd.prog .any (opsAt Tryd.f15 [1, 1, 0]) Qd (Mem (gB F [] w0) (feet []) w0 [cellCh b1 [(.int .i64 t_0.xField), (.int .i64 t_0.xLo), (.int .i64 t_0.xHi), (.bool t_0.xNot)] 25]) 4 #[true, true, true, true, false, false, true, true, true, false, false]) [(1, (.pointer (some ⟨b1, 0, none⟩))), (10, (pEl v6 t_0.xField 1 0)), (15, (.string r12))] [ownCh elStr 9 v6 ([(ByteArray.mk #[102, 114, 111, 109]), (ByteArray.mk #[116, 111]), (ByteArray.mk #[112, 111, 114, 116]), (ByteArray.mk #[112, 114, 111, 116, 111])]), cellCh b1 [(.int .i64 t_0.xField), (.int .i64 t_0.xLo), (.int .i64 t_0.xHi), (.bool t_0.xNot)] 25] (catW e7 (ByteArray.mk #[32]) (fun s13 => catW s13 r12 (fun s14 => k5 s14))) := by
        intro v6 e7 h8 r12
        refine d_one (i := 4) rfl (by kernel_rfl) (o_lds m_op (enc := encStr) (u := (.string e7)) 0 rfl reads_own flelStr rfl h8 rfl rfl ty9 rfl ?_)
        refine d_and (fun w m => m.pick [1] rfl) ?_
        refine pk [1] rfl ?_
        refine re (E' := [(1, (.pointer (some ⟨b1, 0, none⟩))), (15, (.string r12)), (11, (.string e7))]) ⟨rfl, rfl, rfl, trivial⟩ ?_
        exact H4 v6 e7 h8 r12
      have H6 : ∀ (v6 : Value) (e7 : ByteArray) (h8 : ([(ByteArray.mk #[102, 114, 111, 109]), (ByteArray.mk #[116, 111]), (ByteArray.mk #[112, 111, 114, 116]), (ByteArray.mk #[112, 114, 111, 116, 111])])[(t_0.xField).toNat]? = some e7), Nx 33 (gB F [] w0) (feet []) w0 (wpAnyH Tryd.prog .any (opsAt Tryd.f15 [1, 1, 0]) Qd (Mem (gB F [] w0) (feet []) w0 [cellCh b1 [(.int .i64 t_0.xField), (.int .i64 t_0.xLo), (.int .i64 t_0.xHi), (.bool t_0.xNot)] 25]) 5 #[true, true, true, true, false, false, true, true, false, false, false]) [(1, (.pointer (some ⟨b1, 0, none⟩))), (14, (.int .i64 t_0.xLo)), (10, (pEl v6 t_0.xField 1 0))] [ownCh elStr 9 v6 ([(ByteArray.mk #[102, 114, 111, 109]), (ByteArray.mk #[116, 111]), (ByteArray.mk #[112, 111, 114, 116]), (ByteArray.mk #[112, 114, 111, 116, 111])]), cellCh b1 [(.int .i64 t_0.xField), (.int .i64 t_0.xLo), (.int .i64 t_0.xHi), (.bool t_0.xNot)] 25] ((catW e7 (ByteArray.mk #[32]) (fun s9 => L_spec_l3Number t_0.xLo (fun r10 => catW s9 r10 (fun s11 => k5 s11)))) ∧ (L_spec_l3Number t_0.xLo (fun r12 => catW e7 (ByteArray.mk #[32]) (fun s13 => catW s13 r12 (fun s14 => k5 s14))))) := by
        intro v6 e7 h8
        refine d_two (i := 4) (j := 8) rfl rfl (by kernel_rfl) ?_ ?_
        · intro o ho; cases ho
          refine nx_l ?_
          refine o_lds m_op (enc := encStr) (u := (.string e7)) 0 rfl reads_own flelStr rfl h8 rfl rfl ty9 rfl ?_
          refine d_and (fun w m => m.pick [1] rfl) ?_
          refine pk [1] rfl ?_
          refine re (E' := [(1, (.pointer (some ⟨b1, 0, none⟩))), (14, (.int .i64 t_0.xLo)), (11, (.string e7))]) ⟨rfl, rfl, rfl, trivial⟩ ?_
          exact H3 v6 e7 h8
        · intro o ho; cases ho
          refine nx_r ?_
          refine o_callP (vs := [(.int .i64 t_0.xLo)]) Tryd.call51 rfl rfl (by intro w m h; exact (w_spec_l3Number (F := allB [] w) (n_0 := t_0.xLo) allB_ok h).mono (fun _ _ k => ret_free (fun r u => fr_nil) k)) ?_; rintro r12 _
          refine d_and (fun w m => m.pick [1] rfl) ?_
          refine pk [0, 1] rfl ?_
          refine re (E' := [(1, (.pointer (some ⟨b1, 0, none⟩))), (10, (pEl v6 t_0.xField 1 0)), (15, (.string r12))]) ⟨rfl, rfl, rfl, trivial⟩ ?_
          exact H5 v6 e7 h8 r12
      have H7 : ∀ (v6 : Value) (r15 : ByteArray), Nx 33 (gB F [] w0) (feet []) w0 (wpAnyH Tryd.prog .any (opsAt Tryd.f15 [1, 1, 0]) Qd (Mem (gB F [] w0) (feet []) w0 [cellCh b1 [(.int .i64 t_0.xField), (.int .i64 t_0.xLo), (.int .i64 t_0.xHi), (.bool t_0.xNot)] 25]) 5 #[true, true, true, false, false, false, true, true, true, false, false]) [(1, (.pointer (some ⟨b1, 0, none⟩))), (9, (.int .i64 t_0.xField)), (7, v6), (15, (.string r15))] [ownCh elStr 9 v6 ([(ByteArray.mk #[102, 114, 111, 109]), (ByteArray.mk #[116, 111]), (ByteArray.mk #[112, 111, 114, 116]), (ByteArray.mk #[112, 114, 111, 116, 111])]), cellCh b1 [(.int .i64 t_0.xField), (.int .i64 t_0.xLo), (.int .i64 t_0.xHi), (.bool t_0.xNot)] 25] (idxW ([(ByteArray.mk #[102, 114, 111, 109]), (ByteArray.mk #[116, 111]), (ByteArray.mk #[112, 111, 114, 116]), (ByteArray.mk #[112, 114, 111, 116, 111])]) t_0.xField (fun e16 => catW e16 (ByteArray.mk #[32]) (fun s13 => catW s13 r15 (fun s14 => k5 s14)))) := by
        intro v6 r15
        refine d_one (i := 3) rfl (by kernel_rfl) (o_idx m_op 0 rfl reads_own rfl rfl rfl el66 ?_); intro e16 h17
        refine d_and (fun w m => m.pick [1] rfl) ?_
        refine pk [0, 1] rfl ?_
        refine re (E' := [(1, (.pointer (some ⟨b1, 0, none⟩))), (10, (pEl v6 t_0.xField 1 0)), (15, (.string r15))]) ⟨rfl, rfl, rfl, trivial⟩ ?_
        exact H5 v6 e16 h17 r15
      have H8 : ∀ (v6 : Value), Nx 33 (gB F [] w0) (feet []) w0 (wpAnyH Tryd.prog .any (opsAt Tryd.f15 [1, 1, 0]) Qd (Mem (gB F [] w0) (feet []) w0 [cellCh b1 [(.int .i64 t_0.xField), (.int .i64 t_0.xLo), (.int .i64 t_0.xHi), (.bool t_0.xNot)] 25]) 6 #[true, true, true, false, false, false, true, true, false, false, false]) [(1, (.pointer (some ⟨b1, 0, none⟩))), (9, (.int .i64 t_0.xField)), (14, (.int .i64 t_0.xLo)), (7, v6)] [ownCh elStr 9 v6 ([(ByteArray.mk #[102, 114, 111, 109]), (ByteArray.mk #[116, 111]), (ByteArray.mk #[112, 111, 114, 116]), (ByteArray.mk #[112, 114, 111, 116, 111])]), cellCh b1 [(.int .i64 t_0.xField), (.int .i64 t_0.xLo), (.int .i64 t_0.xHi), (.bool t_0.xNot)] 25] ((idxW ([(ByteArray.mk #[102, 114, 111, 109]), (ByteArray.mk #[116, 111]), (ByteArray.mk #[112, 111, 114, 116]), (ByteArray.mk #[112, 114, 111, 116, 111])]) t_0.xField (fun e7 => (catW e7 (ByteArray.mk #[32]) (fun s9 => L_spec_l3Number t_0.xLo (fun r10 => catW s9 r10 (fun s11 => k5 s11)))) ∧ (L_spec_l3Number t_0.xLo (fun r12 => catW e7 (ByteArray.mk #[32]) (fun s13 => catW s13 r12 (fun s14 => k5 s14)))))) ∧ (L_spec_l3Number t_0.xLo (fun r15 => idxW ([(ByteArray.mk #[102, 114, 111, 109]), (ByteArray.mk #[116, 111]), (ByteArray.mk #[112, 111, 114, 116]), (ByteArray.mk #[112, 114, 111, 116, 111])]) t_0.xField (fun e16 => catW e16 (ByteArray.mk #[32]) (fun s13 => catW s13 r15 (fun s14 => k5 s14)))))) := by
        intro v6
        refine d_two (i := 3) (j := 8) rfl rfl (by kernel_rfl) ?_ ?_
        · intro o ho; cases ho
          refine nx_l ?_
          refine o_idx m_op 0 rfl reads_own rfl rfl rfl el66 ?_; intro e7 h8
          refine d_and (fun w m => m.pick [1] rfl) ?_
          refine pk [0, 1] rfl ?_
          refine re (E' := [(1, (.pointer (some ⟨b1, 0, none⟩))), (14, (.int .i64 t_0.xLo)), (10, (pEl v6 t_0.xField 1 0))]) ⟨rfl, rfl, rfl, trivial⟩ ?_
          exact H6 v6 e7 h8
        · intro o ho; cases ho
          refine nx_r ?_
          refine o_callP (vs := [(.int .i64 t_0.xLo)]) Tryd.call51 rfl rfl (by intro w m h; exact (w_spec_l3Number (F := allB [] w) (n_0 := t_0.xLo) allB_ok h).mono (fun _ _ k => ret_free (fun r u => fr_nil) k)) ?_; rintro r15 _
          refine d_and (fun w m => m.pick [1] rfl) ?_
          refine pk [0, 1] rfl ?_
          refine re (E' := [(1, (.pointer (some ⟨b1, 0, none⟩))), (9, (.int .i64 t_0.xField)), (7, v6), (15, (.string r15))]) ⟨rfl, rfl, rfl, rfl, trivial⟩ ?_
          exact H7 v6 r15
      have H9 : ∀ (r18 : ByteArray), Nx 33 (gB F [] w0) (feet []) w0 (wpAnyH Tryd.prog .any (opsAt Tryd.f15 [1, 1, 0]) Qd (Mem (gB F [] w0) (feet []) w0 [cellCh b1 [(.int .i64 t_0.xField), (.int .i64 t_0.xLo), (.int .i64 t_0.xHi), (.bool t_0.xNot)] 25]) 6 #[false, true, true, false, false, false, true, true, true, false, false]) [(1, (.pointer (some ⟨b1, 0, none⟩))), (9, (.int .i64 t_0.xField)), (15, (.string r18))] [cellCh b1 [(.int .i64 t_0.xField), (.int .i64 t_0.xLo), (.int .i64 t_0.xHi), (.bool t_0.xNot)] 25] (idxW ([(ByteArray.mk #[102, 114, 111, 109]), (ByteArray.mk #[116, 111]), (ByteArray.mk #[112, 111, 114, 116]), (ByteArray.mk #[112, 114, 111, 116, 111])]) t_0.xField (fun e16 => catW e16 (ByteArray.mk #[32]) (fun s13 => catW s13 r18 (fun s14 => k5 s14)))) := by
        intro r18
        refine d_one (i := 0) rfl (by kernel_rfl) (o_bsl (enc := encStr) (qs := [(0, (.string (ByteArray.mk #[102, 114, 111, 109]))), (1, (.string (ByteArray.mk #[116, 111]))), (2, (.string (ByteArray.mk #[112, 111, 114, 116]))), (3, (.string (ByteArray.mk #[112, 114, 111, 116, 111])))]) (cells := [(.string (ByteArray.mk #[102, 114, 111, 109])), (.string (ByteArray.mk #[116, 111])), (.string (ByteArray.mk #[112, 111, 114, 116])), (.string (ByteArray.mk #[112, 114, 111, 116, 111]))]) ([(ByteArray.mk #[102, 114, 111, 109]), (ByteArray.mk #[116, 111]), (ByteArray.mk #[112, 111, 114, 116]), (ByteArray.mk #[112, 114, 111, 116, 111])]) flelStr (by intro ρ h; simp only [List.map_toArray, List.map_cons, List.map_nil, h (.const (.string (ByteArray.mk #[102, 114, 111, 109]))) _ rfl, h (.const (.string (ByteArray.mk #[116, 111]))) _ rfl, h (.const (.string (ByteArray.mk #[112, 111, 114, 116]))) _ rfl, h (.const (.string (ByteArray.mk #[112, 114, 111, 116, 111]))) _ rfl]) rfl el66 zero9 rfl rfl rfl rfl rfl rfl ?_); intro v19
        refine d_and (fun w m => m.pick [1] rfl) ?_
        refine pk [0, 1] rfl ?_
        refine re (E' := [(1, (.pointer (some ⟨b1, 0, none⟩))), (9, (.int .i64 t_0.xField)), (7, v19), (15, (.string r18))]) ⟨rfl, rfl, rfl, rfl, trivial⟩ ?_
        exact H7 v19 r18
      refine o_fad (dt 1 (fun _ m => m)) rfl rfl fld25_0 rfl ?_
      refine o_ldc (dt 2 (fun _ m => m)) (v := (.int .i64 t_0.xField)) 0 rfl rfl rfl ty3 rfl ?_
      refine o_fad (dt 6 (fun _ m => m)) rfl rfl fld25_1 rfl ?_
      refine o_ldc (dt 7 (fun _ m => m)) (v := (.int .i64 t_0.xLo)) 0 rfl rfl rfl ty3 rfl ?_
      refine d_two (i := 0) (j := 8) rfl rfl (by kernel_rfl) ?_ ?_
      · intro o ho; cases ho
        refine nx_l ?_
        refine o_bsl (enc := encStr) (qs := [(0, (.string (ByteArray.mk #[102, 114, 111, 109]))), (1, (.string (ByteArray.mk #[116, 111]))), (2, (.string (ByteArray.mk #[112, 111, 114, 116]))), (3, (.string (ByteArray.mk #[112, 114, 111, 116, 111])))]) (cells := [(.string (ByteArray.mk #[102, 114, 111, 109])), (.string (ByteArray.mk #[116, 111])), (.string (ByteArray.mk #[112, 111, 114, 116])), (.string (ByteArray.mk #[112, 114, 111, 116, 111]))]) ([(ByteArray.mk #[102, 114, 111, 109]), (ByteArray.mk #[116, 111]), (ByteArray.mk #[112, 111, 114, 116]), (ByteArray.mk #[112, 114, 111, 116, 111])]) flelStr (by intro ρ h; simp only [List.map_toArray, List.map_cons, List.map_nil, h (.const (.string (ByteArray.mk #[102, 114, 111, 109]))) _ rfl, h (.const (.string (ByteArray.mk #[116, 111]))) _ rfl, h (.const (.string (ByteArray.mk #[112, 111, 114, 116]))) _ rfl, h (.const (.string (ByteArray.mk #[112, 114, 111, 116, 111]))) _ rfl]) rfl el66 zero9 rfl rfl rfl rfl rfl rfl ?_; intro v6
        refine d_and (fun w m => m.pick [1] rfl) ?_
        refine pk [0, 1] rfl ?_
        refine re (E' := [(1, (.pointer (some ⟨b1, 0, none⟩))), (9, (.int .i64 t_0.xField)), (14, (.int .i64 t_0.xLo)), (7, v6)]) ⟨rfl, rfl, rfl, rfl, trivial⟩ ?_
        exact H8 v6
      · intro o ho; cases ho
        refine nx_r ?_
        refine o_callP (vs := [(.int .i64 t_0.xLo)]) Tryd.call51 rfl rfl (by intro w m h; exact (w_spec_l3Number (F := allB [] w) (n_0 := t_0.xLo) allB_ok h).mono (fun _ _ k => ret_free (fun r u => fr_nil) k)) ?_; rintro r18 _
        refine d_and (fun _ m => m) ?_
        refine pk [0] rfl ?_
        refine re (E' := [(1, (.pointer (some ⟨b1, 0, none⟩))), (9, (.int .i64 t_0.xField)), (15, (.string r18))]) ⟨rfl, rfl, rfl, trivial⟩ ?_
        exact H9 r18
    · rintro t4 a w ⟨hE, hm⟩ h
      refine nx_of hE hm h ?_
      clear hE hm h
      refine c_join (σ := ByteArray) (fun (t81 : ByteArray) (a : Act) (w : World) => Has 33 [(1, (.pointer (some ⟨b1, 0, none⟩))), (3, (.string t81))] a ∧ Mem (gB F [] w0) (feet []) w0 [cellCh b1 [(.int .i64 t_0.xField), (.int .i64 t_0.xLo), (.int .i64 t_0.xHi), (.bool t_0.xNot)] 25] w) ?_ ?_
      · intro k82
        refine c_seq ?_
        refine c_region ?_
        refine o_fad st rfl rfl fld25_3 rfl ?_
        refine o_ldc st (v := (.bool t_0.xNot)) 0 rfl rfl rfl ty4 rfl ?_
        refine c_nil ?_
        refine l_then ?_
        refine c_cond rfl ?_ ?_
        · refine c_region ?_
          refine o_mv st rfl rfl ?_
          refine o_cat st rfl rfl rfl ?_; intro s20
          refine o_as st rfl rfl ?_
          refine c_nil ?_
          exact l_join s20 (fun a w hE hm => ⟨hE.sub ⟨rfl, rfl, trivial⟩, (hm.pick [0] rfl)⟩)
        · refine c_skip ?_
          exact l_join t4 (fun a w hE hm => ⟨hE.sub ⟨rfl, rfl, trivial⟩, (hm.pick [0] rfl)⟩)
      · rintro t81 a w ⟨hE, hm⟩ h
        refine nx_of hE hm h ?_
        clear hE hm h
        refine c_join (σ := ByteArray) (fun (t146 : ByteArray) (a : Act) (w : World) => Has 33 [(3, (.string t146))] a ∧ Mem (gB F [] w0) (feet []) w0 [] w) ?_ ?_
        · intro k147
          refine c_seq ?_
          refine c_region ?_
          refine o_fad st rfl rfl fld25_2 rfl ?_
          refine o_ldc st (v := (.int .i64 t_0.xHi)) 0 rfl rfl rfl ty3 rfl ?_
          refine o_fad st rfl rfl fld25_1 rfl ?_
          refine o_ldc st (v := (.int .i64 t_0.xLo)) 0 rfl rfl rfl ty3 rfl ?_
          refine o_neq st und3 rfl rfl rfl ?_
          refine c_nil ?_
          refine l_then ?_
          refine c_cond rfl ?_ ?_
          · refine c_region ?_
            refine o_mv st rfl rfl ?_
            refine o_cat st rfl rfl rfl ?_; intro s83
            refine o_fad st rfl rfl fld25_2 rfl ?_
            refine o_ldc st (v := (.int .i64 t_0.xHi)) 0 rfl rfl rfl ty3 rfl ?_
            refine stw (o_callP (vs := [(.int .i64 t_0.xHi)]) Tryd.call51 rfl rfl (by intro w m h; exact (w_spec_l3Number (F := allB [] w) (n_0 := t_0.xHi) allB_ok h).mono (fun _ _ k => ret_free (fun r u => fr_nil) k)) ?_); rintro r84 _
            refine o_cat st rfl rfl rfl ?_; intro s85
            refine o_as st rfl rfl ?_
            refine c_nil ?_
            exact l_join s85 (fun a w hE hm => ⟨hE.sub ⟨rfl, trivial⟩, (hm.pick [] rfl)⟩)
          · refine c_skip ?_
            exact l_join t81 (fun a w hE hm => ⟨hE.sub ⟨rfl, trivial⟩, (hm.pick [] rfl)⟩)
        · rintro t146 a w ⟨hE, hm⟩ h
          refine nx_of hE hm h ?_
          clear hE hm h
          refine c_seq ?_
          refine c_region ?_
          refine o_mv st rfl rfl ?_
          refine o_as st rfl rfl ?_
          refine c_nil ?_
          refine l_then ?_
          refine c_ret ?_
          exact l_end1 Tryd.results15 t146 () (rv_t rfl) (fun _ _ => NewCh.nil _ _ _ _)

set_option maxRecDepth 100000 in
set_option maxHeartbeats 8000000 in
theorem w_laws_toTest {w0 : World} {F : Nat → Prop} {a_0 : GTest} {κ : GTest → Prop} (hF : ∀ b, F b → b < w0.heap.size ∧ ¬ feet [] b) (h : L_laws_toTest a_0 κ) :
    Calls Tryd.prog 16 #[(.agg #[(.int .i64 a_0.xField), (.int .i64 a_0.xLo), (.int .i64 a_0.xHi), (.bool a_0.xNot)])] w0 (Ret [] F w0 κ (fun (r : GTest) (u : Unit) => (.agg #[(.int .i64 r.xField), (.int .i64 r.xLo), (.int .i64 r.xHi), (.bool r.xNot)])) (fun (r : GTest) (u : Unit) => [])) := by
  refine enter0 (args := [(.agg #[(.int .i64 a_0.xField), (.int .i64 a_0.xLo), (.int .i64 a_0.xHi), (.bool a_0.xNot)])]) [] hF (Given.nil _ _) Tryd.func16 rfl Tryd.ntmps16 rfl h ?_
  clear h hF
  refine c_seq ?_
  refine c_region ?_
  refine stw (o_box rfl rfl [(.int .i64 a_0.xField), (.int .i64 a_0.xLo), (.int .i64 a_0.xHi), (.bool a_0.xNot)] rfl ?_); intro b1
  refine stw (o_alloc rfl [(.int .i64 0), (.int .i64 0), (.int .i64 0), (.bool false)] zero25 ?_); intro b3
  refine c_nil ?_
  refine l_then ?_
  refine c_seq ?_
  refine c_region ?_
  refine stw (o_alloc rfl [(.int .i64 0), (.int .i64 0), (.int .i64 0), (.bool false)] zero25 ?_); intro b5
  refine c_nil ?_
  refine l_then ?_
  refine c_seq ?_
  refine c_region ?_
  refine o_fad st rfl rfl fld23_0 rfl ?_
  refine o_ldc st (v := (.int .i64 a_0.xField)) 2 rfl rfl rfl ty3 rfl ?_
  refine o_fad st rfl rfl fld25_0 rfl ?_
  refine stw (o_stc (cs' := [(.int .i64 a_0.xField), (.int .i64 0), (.int .i64 0), (.bool false)]) 0 rfl rfl rfl ty3 rfl rfl rfl rfl ?_)
  refine c_nil ?_
  refine l_then ?_
  refine c_seq ?_
  refine c_region ?_
  refine o_fad st rfl rfl fld23_1 rfl ?_
  refine o_ldc st (v := (.int .i64 a_0.xLo)) 2 rfl rfl rfl ty3 rfl ?_
  refine o_fad st rfl rfl fld25_1 rfl ?_
  refine stw (o_stc (cs' := [(.int .i64 a_0.xField), (.int .i64 a_0.xLo), (.int .i64 0), (.bool false)]) 0 rfl rfl rfl ty3 rfl rfl rfl rfl ?_)
  refine c_nil ?_
  refine l_then ?_
  refine c_seq ?_
  refine c_region ?_
  refine o_fad st rfl rfl fld23_2 rfl ?_
  refine o_ldc st (v := (.int .i64 a_0.xHi)) 2 rfl rfl rfl ty3 rfl ?_
  refine o_fad st rfl rfl fld25_2 rfl ?_
  refine stw (o_stc (cs' := [(.int .i64 a_0.xField), (.int .i64 a_0.xLo), (.int .i64 a_0.xHi), (.bool false)]) 0 rfl rfl rfl ty3 rfl rfl rfl rfl ?_)
  refine c_nil ?_
  refine l_then ?_
  refine c_seq ?_
  refine c_region ?_
  refine o_fad st rfl rfl fld23_3 rfl ?_
  refine o_ldc st (v := (.bool a_0.xNot)) 2 rfl rfl rfl ty4 rfl ?_
  refine o_fad st rfl rfl fld25_3 rfl ?_
  refine stw (o_stc (cs' := [(.int .i64 a_0.xField), (.int .i64 a_0.xLo), (.int .i64 a_0.xHi), (.bool a_0.xNot)]) 0 rfl rfl rfl ty4 rfl rfl rfl rfl ?_)
  refine c_nil ?_
  refine l_then ?_
  refine c_seq ?_
  refine c_region ?_
  refine o_ldc st (v := (.agg #[(.int .i64 a_0.xField), (.int .i64 a_0.xLo), (.int .i64 a_0.xHi), (.bool a_0.xNot)])) 0 rfl rfl rfl ty25 rfl ?_
  refine stw (o_stc (cs' := [(.int .i64 a_0.xField), (.int .i64 a_0.xLo), (.int .i64 a_0.xHi), (.bool a_0.xNot)]) 1 rfl rfl rfl ty25 rfl rfl rfl rfl ?_)
  refine c_nil ?_
  refine l_then ?_
  refine c_ret ?_
  exact l_end1 Tryd.results16 a_0 () (rv_c 1 rfl rfl ty25 rfl) (fun _ _ => NewCh.nil _ _ _ _)

set_option maxRecDepth 100000 in
set_option maxHeartbeats 8000000 in
theorem w_impl_FieldTop {w0 : World} {F : Nat → Prop} {n_0 : Int} {κ : Int → Prop} (hF : ∀ b, F b → b < w0.heap.size ∧ ¬ feet [] b) (hgl0 : Sl elGFieldShape F w0 (.slice (some ⟨0, 0, none⟩) 4 4) gl_impl_fieldShapes) (h : L_impl_FieldTop n_0 κ) :
    Calls Tryd.prog 86 #[(.int .i64 n_0)] w0 (Ret [] F w0 κ (fun (r : Int) (u : Unit) => (.int .i64 r)) (fun (r : Int) (u : Unit) => [])) := by
  refine enterS (args := [(.int .i64 n_0)]) [] hF (Given.nil _ _) Tryd.func86 rfl Tryd.ntmps86 rfl h ?_
  clear h hF
  refine c_seq ?_
  refine c_region ?_
  refine o_as st rfl rfl ?_
  refine c_nil ?_
  refine l_then ?_
  refine c_seq ?_
  refine c_join (σ := Bool) (fun (t61 : Bool) (a : Act) (w : World) => Has 13 [(0, (.int .i64 n_0)), (8, (.bool t61))] a ∧ Mem (gB F [] w0) (feet []) w0 [snapCh w0 F] w) ?_ ?_
  · intro k62
    refine c_region ?_
    refine o_mv st rfl rfl ?_
    refine o_lss st rfl rfl rfl ?_
    refine o_mv st rfl rfl ?_
    refine st_sp (dj := 5) rfl ?_ ?_
    · refine st_s rfl rfl rfl rfl ?_
      refine st_s rfl rfl rfl rfl ?_
      refine o_pickT st rfl rfl rfl ?_
      refine c_nil ?_
      exact l_join true (fun a w hE hm => ⟨hE.sub ⟨rfl, rfl, trivial⟩, (hm.pick [0] rfl)⟩)
    · refine o_mv (st_g rfl rfl) rfl rfl ?_
      refine o_geq (st_g rfl rfl) rfl rfl rfl ?_
      refine o_pickF st rfl rfl rfl ?_
      refine c_nil ?_
      exact l_join (decide (4 ≤ n_0)) (fun a w hE hm => ⟨hE.sub ⟨rfl, rfl, trivial⟩, (hm.pick [0] rfl)⟩)
  · rintro t61 a w ⟨hE, hm⟩ h
    refine nx_of hE hm h ?_
    clear hE hm h
    refine c_cond rfl ?_ ?_
    · refine c_seq ?_
      refine c_region ?_
      refine o_as st rfl rfl ?_
      refine c_nil ?_
      refine l_then ?_
      refine c_ret ?_
      refine l_ret ?_
      exact l_end1 Tryd.results86 (-1) () (rv_t rfl) (fun _ _ => NewCh.nil _ _ _ _)
    · refine c_skip ?_
      refine l_then ?_
      refine c_seq ?_
      refine c_region ?_
      refine o_mv st rfl rfl ?_
      refine o_ixa st 0 rfl (reads_snap hgl0) rfl rfl rfl arr107 ?_; intro e63 h64
      refine o_fadS st 0 rfl (reads_snap hgl0) h64 rfl rfl fld106_1 rfl ?_
      refine o_lds st (enc := encGFieldShape) (u := (.int .i64 e63.xTop)) 0 rfl (reads_snap hgl0) flelGFieldShape rfl h64 rfl rfl ty3 rfl ?_
      refine o_as st rfl rfl ?_
      refine c_nil ?_
      refine l_then ?_
      refine c_ret ?_
      exact l_end1 Tryd.results86 e63.xTop () (rv_t rfl) (fun _ _ => NewCh.nil _ _ _ _)

set_option maxRecDepth 100000 in
set_option maxHeartbeats 8000000 in
theorem w_impl_TestValid {w0 : World} {F : Nat → Prop} {t_0 : GTest} {κ : Bool → Prop} (hF : ∀ b, F b → b < w0.heap.size ∧ ¬ feet [] b) (hgl0 : Sl elGFieldShape F w0 (.slice (some ⟨0, 0, none⟩) 4 4) gl_impl_fieldShapes) (h : L_impl_TestValid t_0 κ) :
    Calls Tryd.prog 52 #[(.agg #[(.int .i64 t_0.xField), (.int .i64 t_0.xLo), (.int .i64 t_0.xHi), (.bool t_0.xNot)])] w0 (Ret [] F w0 κ (fun (r : Bool) (u : Unit) => (.bool r)) (fun (r : Bool) (u : Unit) => [])) := by
  refine enterS (args := [(.agg #[(.int .i64 t_0.xField), (.int .i64 t_0.xLo), (.int .i64 t_0.xHi), (.bool t_0.xNot)])]) [] hF (Given.nil _ _) Tryd.func52 rfl Tryd.ntmps52 rfl h ?_
  clear h hF
  refine c_seq ?_
  refine c_region ?_
  refine stw (o_box rfl rfl [(.int .i64 t_0.xField), (.int .i64 t_0.xLo), (.int .i64 t_0.xHi), (.bool t_0.xNot)] rfl ?_); intro b1
  refine o_as st rfl rfl ?_
  refine c_nil ?_
  refine l_then ?_
  refine c_join (σ := Bool) (fun (t64 : Bool) (a : Act) (w : World) => Has 31 [(2, (.bool t64))] a ∧ Mem (gB F [] w0) (feet []) w0 [snapCh w0 F] w) ?_ ?_
  · intro k65
    refine c_draw mixed 29 rfl [cellCh b1 [(.int .i64 t_0.xField), (.int .i64 t_0.xLo), (.int .i64 t_0.xHi), (.bool t_0.xNot)] 25, snapCh w0 F] ?_
    refine o_fad (dt 0 (fun _ m => m)) rfl rfl fld25_0 rfl ?_
    refine o_ldc (dt 1 (fun _ m => m)) (v := (.int .i64 t_0.xField)) 0 rfl rfl rfl ty3 rfl ?_
    refine o_geq (dt 2 (fun _ m => m)) rfl rfl rfl ?_
    refine o_mv (dt 3 (fun _ m => m)) rfl rfl ?_
    refine st_sp (dj := 6) rfl ?_ ?_
    · refine o_fad (dtg 4 (fun _ m => m)) rfl rfl fld25_0 rfl ?_
      refine o_ldc (dtg 5 (fun _ m => m)) (v := (.int .i64 t_0.xField)) 0 rfl rfl rfl ty3 rfl ?_
      refine o_lss (dtg 6 (fun _ m => m)) rfl rfl rfl ?_
      refine o_pickT (dt 7 (fun _ m => m)) rfl rfl rfl ?_
      refine o_mv (dt 8 (fun _ m => m)) rfl rfl ?_
      refine st_sp (dj := 11) rfl ?_ ?_
      · refine o_fad (dtg 9 (fun _ m => m)) rfl rfl fld25_1 rfl ?_
        refine o_ldc (dtg 10 (fun _ m => m)) (v := (.int .i64 t_0.xLo)) 0 rfl rfl rfl ty3 rfl ?_
        refine o_geq (dtg 11 (fun _ m => m)) rfl rfl rfl ?_
        refine o_pickT (dt 12 (fun _ m => m)) rfl rfl rfl ?_
        refine o_mv (dt 13 (fun _ m => m)) rfl rfl ?_
        refine st_sp (dj := 16) rfl ?_ ?_
        · refine o_fad (dtg 14 (fun _ m => m)) rfl rfl fld25_1 rfl ?_
          refine o_ldc (dtg 15 (fun _ m => m)) (v := (.int .i64 t_0.xLo)) 0 rfl rfl rfl ty3 rfl ?_
          refine o_fad (dtg 16 (fun _ m => m)) rfl rfl fld25_2 rfl ?_
          refine o_ldc (dtg 17 (fun _ m => m)) (v := (.int .i64 t_0.xHi)) 0 rfl rfl rfl ty3 rfl ?_
          refine o_leq (dtg 18 (fun _ m => m)) rfl rfl rfl ?_
          refine o_pickT (dt 19 (fun _ m => m)) rfl rfl rfl ?_
          refine o_mv (dt 20 (fun _ m => m)) rfl rfl ?_
          refine st_sp (dj := 23) rfl ?_ ?_
          · refine o_fad (dtg 21 (fun _ m => m)) rfl rfl fld25_2 rfl ?_
            refine o_ldc (dtg 22 (fun _ m => m)) (v := (.int .i64 t_0.xHi)) 0 rfl rfl rfl ty3 rfl ?_
            refine o_fad (dtg 23 (fun _ m => m)) rfl rfl fld25_0 rfl ?_
            refine o_ldc (dtg 24 (fun _ m => m)) (v := (.int .i64 t_0.xField)) 0 rfl rfl rfl ty3 rfl ?_
            refine d_oneg (i := 25) rfl rfl rfl (by kernel_rfl) (o_callP (vs := [(.int .i64 t_0.xField)]) Tryd.call86 rfl rfl (by intro w m h; exact (w_impl_FieldTop (F := allB [] w) (n_0 := t_0.xField) allB_ok (m.rd0 1 rfl (reads_snap hgl0)) h).mono (fun _ _ k => ret_free (fun r u => fr_nil) k)) ?_); rintro r3 _
            refine d_and (fun _ m => m) ?_
            refine o_leq (dtg 26 (fun _ m => m)) rfl rfl rfl ?_
            refine o_pickT (dt 27 (fun _ m => m)) rfl rfl rfl ?_
            refine o_as (dt 28 (fun _ m => m)) rfl rfl ?_
            refine d_done (by kernel_rfl) ?_
            exact l_join (decide (t_0.xHi ≤ r3)) (fun a w hE hm => ⟨hE.sub ⟨rfl, trivial⟩, (hm.pick [1] rfl)⟩)
          · refine dsk 21 (fun _ m => m) rfl (by kernel_rfl) rfl rfl rfl rfl ?_
            refine dsk 22 (fun _ m => m) rfl (by kernel_rfl) rfl rfl rfl rfl ?_
            refine dsk 23 (fun _ m => m) rfl (by kernel_rfl) rfl rfl rfl rfl ?_
            refine dsk 24 (fun _ m => m) rfl (by kernel_rfl) rfl rfl rfl rfl ?_
            refine dsk 25 (fun _ m => m) rfl (by kernel_rfl) rfl rfl rfl rfl ?_
            refine dsk 26 (fun _ m => m) rfl (by kernel_rfl) rfl rfl rfl rfl ?_
            refine o_pickF (dt 27 (fun _ m => m)) rfl rfl rfl ?_
            refine o_as (dt 28 (fun _ m => m)) rfl rfl ?_
            refine d_done (by kernel_rfl) ?_
            exact l_join false (fun a w hE hm => ⟨hE.sub ⟨rfl, trivial⟩, (hm.pick [1] rfl)⟩)
        · refine dsk 14 (fun _ m => m) rfl (by kernel_rfl) rfl rfl rfl rfl ?_
          refine dsk 15 (fun _ m => m) rfl (by kernel_rfl) rfl rfl rfl rfl ?_
          refine dsk 16 (fun _ m => m) rfl (by kernel_rfl) rfl rfl rfl rfl ?_
          refine dsk 17 (fun _ m => m) rfl (by kernel_rfl) rfl rfl rfl rfl ?_
          refine dsk 18 (fun _ m => m) rfl (by kernel_rfl) rfl rfl rfl rfl ?_
          refine o_pickF (dt 19 (fun _ m => m)) rfl rfl rfl ?_
          refine o_mv (dt 20 (fun _ m => m)) rfl rfl ?_
          refine dsk 21 (fun _ m => m) rfl (by kernel_rfl) rfl rfl rfl rfl ?_
          refine dsk 22 (fun _ m => m) rfl (by kernel_rfl) rfl rfl rfl rfl ?_
          refine dsk 23 (fun _ m => m) rfl (by kernel_rfl) rfl rfl rfl rfl ?_
          refine dsk 24 (fun _ m => m) rfl (by kernel_rfl) rfl rfl rfl rfl ?_
          refine dsk 25 (fun _ m => m) rfl (by kernel_rfl) rfl rfl rfl rfl ?_
          refine dsk 26 (fun _ m => m) rfl (by kernel_rfl) rfl rfl rfl rfl ?_
          refine o_pickF (dt 27 (fun _ m => m)) rfl rfl rfl ?_
          refine o_as (dt 28 (fun _ m => m)) rfl rfl ?_
          refine d_done (by kernel_rfl) ?_
          exact l_join false (fun a w hE hm => ⟨hE.sub ⟨rfl, trivial⟩, (hm.pick [1] rfl)⟩)
      · refine dsk 9 (fun _ m => m) rfl (by kernel_rfl) rfl rfl rfl rfl ?_
        refine dsk 10 (fun _ m => m) rfl (by kernel_rfl) rfl rfl rfl rfl ?_
        refine dsk 11 (fun _ m => m) rfl (by kernel_rfl) rfl rfl rfl rfl ?_
        refine o_pickF (dt 12 (fun _ m => m)) rfl rfl rfl ?_
        refine o_mv (dt 13 (fun _ m => m)) rfl rfl ?_
        refine dsk 14 (fun _ m => m) rfl (by kernel_rfl) rfl rfl rfl rfl ?_
        refine dsk 15 (fun _ m => m) rfl (by kernel_rfl) rfl rfl rfl rfl ?_
        refine dsk 16 (fun _ m => m) rfl (by kernel_rfl) rfl rfl rfl rfl ?_
        refine dsk 17 (fun _ m => m) rfl (by kernel_rfl) rfl rfl rfl rfl ?_
        refine dsk 18 (fun _ m => m) rfl (by kernel_rfl) rfl rfl rfl rfl ?_
        refine o_pickF (dt 19 (fun _ m => m)) rfl rfl rfl ?_
        refine o_mv (dt 20 (fun _ m => m)) rfl rfl ?_
        refine dsk 21 (fun _ m => m) rfl (by kernel_rfl) rfl rfl rfl rfl ?_
        refine dsk 22 (fun _ m => m) rfl (by kernel_rfl) rfl rfl rfl rfl ?_
        refine dsk 23 (fun _ m => m) rfl (by kernel_rfl) rfl rfl rfl rfl ?_
        refine dsk 24 (fun _ m => m) rfl (by kernel_rfl) rfl rfl rfl rfl ?_
        refine dsk 25 (fun _ m => m) rfl (by kernel_rfl) rfl rfl rfl rfl ?_
        refine dsk 26 (fun _ m => m) rfl (by kernel_rfl) rfl rfl rfl rfl ?_
        refine o_pickF (dt 27 (fun _ m => m)) rfl rfl rfl ?_
        refine o_as (dt 28 (fun _ m => m)) rfl rfl ?_
        refine d_done (by kernel_rfl) ?_
        exact l_join false (fun a w hE hm => ⟨hE.sub ⟨rfl, trivial⟩, (hm.pick [1] rfl)⟩)
    · refine dsk 4 (fun _ m => m) rfl (by kernel_rfl) rfl rfl rfl rfl ?_
      refine dsk 5 (fun _ m => m) rfl (by kernel_rfl) rfl rfl rfl rfl ?_
      refine dsk 6 (fun _ m => m) rfl (by kernel_rfl) rfl rfl rfl rfl ?_
      refine o_pickF (dt 7 (fun _ m => m)) rfl rfl rfl ?_
      refine o_mv (dt 8 (fun _ m => m)) rfl rfl ?_
      refine dsk 9 (fun _ m => m) rfl (by kernel_rfl) rfl rfl rfl rfl ?_
      refine dsk 10 (fun _ m => m) rfl (by kernel_rfl) rfl rfl rfl rfl ?_
      refine dsk 11 (fun _ m => m) rfl (by kernel_rfl) rfl rfl rfl rfl ?_
      refine o_pickF (dt 12 (fun _ m => m)) rfl rfl rfl ?_
      refine o_mv (dt 13 (fun _ m => m)) rfl rfl ?_
      refine dsk 14 (fun _ m => m) rfl (by kernel_rfl) rfl rfl rfl rfl ?_
      refine dsk 15 (fun _ m => m) rfl (by kernel_rfl) rfl rfl rfl rfl ?_
      refine dsk 16 (fun _ m => m) rfl (by kernel_rfl) rfl rfl rfl rfl ?_
      refine dsk 17 (fun _ m => m) rfl (by kernel_rfl) rfl rfl rfl rfl ?_
      refine dsk 18 (fun _ m => m) rfl (by kernel_rfl) rfl rfl rfl rfl ?_
      refine o_pickF (dt 19 (fun _ m => m)) rfl rfl rfl ?_
      refine o_mv (dt 20 (fun _ m => m)) rfl rfl ?_
      refine dsk 21 (fun _ m => m) rfl (by kernel_rfl) rfl rfl rfl rfl ?_
      refine dsk 22 (fun _ m => m) rfl (by kernel_rfl) rfl rfl rfl rfl ?_
      refine dsk 23 (fun _ m => m) rfl (by kernel_rfl) rfl rfl rfl rfl ?_
      refine dsk 24 (fun _ m => m) rfl (by kernel_rfl) rfl rfl rfl rfl ?_
      refine dsk 25 (fun _ m => m) rfl (by kernel_rfl) rfl rfl rfl rfl ?_
      refine dsk 26 (fun _ m => m) rfl (by kernel_rfl) rfl rfl rfl rfl ?_
      refine o_pickF (dt 27 (fun _ m => m)) rfl rfl rfl ?_
      refine o_as (dt 28 (fun _ m => m)) rfl rfl ?_
      refine d_done (by kernel_rfl) ?_
      exact l_join false (fun a w hE hm => ⟨hE.sub ⟨rfl, trivial⟩, (hm.pick [1] rfl)⟩)
  · rintro t64 a w ⟨hE, hm⟩ h
    refine nx_of hE hm h ?_
    clear hE hm h
    refine c_ret ?_
    exact l_end1 Tryd.results52 t64 () (rv_t rfl) (fun _ _ => NewCh.nil _ _ _ _)

set_option maxRecDepth 100000 in
set_option maxHeartbeats 8000000 in
theorem w_impl_Test_text {w0 : World} {F : Nat → Prop} {t_0 : GTest} {κ : ByteArray → Prop} (hF : ∀ b, F b → b < w0.heap.size ∧ ¬ feet [] b) (hgl0 : Sl elGFieldShape F w0 (.slice (some ⟨0, 0, none⟩) 4 4) gl_impl_fieldShapes) (hgl1 : Tb F w0) (h : L_impl_Test_text t_0 κ) :
    Calls Tryd.prog 53 #[(.agg #[(.int .i64 t_0.xField), (.int .i64 t_0.xLo), (.int .i64 t_0.xHi), (.bool t_0.xNot)])] w0 (Ret [] F w0 κ (fun (r : ByteArray) (u : Unit) => (.string r)) (fun (r : ByteArray) (u : Unit) => [])) := by
  refine enterS (args := [(.agg #[(.int .i64 t_0.xField), (.int .i64 t_0.xLo), (.int .i64 t_0.xHi), (.bool t_0.xNot)])]) [] hF (Given.nil _ _) Tryd.func53 rfl Tryd.ntmps53 rfl h ?_
  clear h hF
  refine c_seq ?_
  refine c_region ?_
  refine stw (o_box rfl rfl [(.int .i64 t_0.xField), (.int .i64 t_0.xLo), (.int .i64 t_0.xHi), (.bool t_0.xNot)] rfl ?_); intro b1
  refine o_as st rfl rfl ?_
  refine c_nil ?_
  refine l_then ?_
  refine c_seq ?_
  refine c_draw mixed 11 rfl [cellCh b1 [(.int .i64 t_0.xField), (.int .i64 t_0.xLo), (.int .i64 t_0.xHi), (.bool t_0.xNot)] 25, snapCh w0 F] ?_
  refine o_fad (dt 0 (fun _ m => m)) rfl rfl fld25_0 rfl ?_
  refine o_ldc (dt 1 (fun _ m => m)) (v := (.int .i64 t_0.xField)) 0 rfl rfl rfl ty3 rfl ?_
  refine o_ixa (dt 2 (fun _ m => m)) 1 rfl (reads_snap hgl0) rfl rfl rfl arr107 ?_; intro e3 h4
  refine o_fadS (dt 3 (fun _ m => m)) 1 rfl (reads_snap hgl0) h4 rfl rfl fld106_0 rfl ?_
  refine o_lds (dt 4 (fun _ m => m)) (enc := encGFieldShape) (u := (.string e3.xName)) 1 rfl (reads_snap hgl0) flelGFieldShape rfl h4 rfl rfl ty9 rfl ?_
  refine o_cat (dt 5 (fun _ m => m)) rfl rfl rfl ?_; intro s5
  refine o_fad (dt 6 (fun _ m => m)) rfl rfl fld25_1 rfl ?_
  refine o_ldc (dt 7 (fun _ m => m)) (v := (.int .i64 t_0.xLo)) 0 rfl rfl rfl ty3 rfl ?_
  refine d_one (i := 8) rfl (by kernel_rfl) (o_callP (vs := [(.int .i64 t_0.xLo)]) Tryd.call61 rfl rfl (by intro w m h; exact w_lib_Itoa (n_0 := t_0.xLo) (hgl1.of (m.get (i := 1) rfl)) h) ?_); rintro r6 _
  refine d_and (fun _ m => m) ?_
  refine o_cat (dt 9 (fun _ m => m)) rfl rfl rfl ?_; intro s7
  refine o_as (dt 10 (fun _ m => m)) rfl rfl ?_
  refine d_done (by kernel_rfl) ?_
  refine l_then ?_
  refine c_join (σ := ByteArray) (fun (t69 : ByteArray) (a : Act) (w : World) => Has 30 [(1, (.pointer (some ⟨b1, 0, none⟩))), (3, (.string t69))] a ∧ Mem (gB F [] w0) (feet []) w0 [cellCh b1 [(.int .i64 t_0.xField), (.int .i64 t_0.xLo), (.int .i64 t_0.xHi), (.bool t_0.xNot)] 25, snapCh w0 F] w) ?_ ?_
  · intro k70
    refine c_seq ?_
    refine c_region ?_
    refine o_fad st rfl rfl fld25_3 rfl ?_
    refine o_ldc st (v := (.bool t_0.xNot)) 0 rfl rfl rfl ty4 rfl ?_
    refine c_nil ?_
    refine l_then ?_
    refine c_cond rfl ?_ ?_
    · refine c_region ?_
      refine o_mv st rfl rfl ?_
      refine o_cat st rfl rfl rfl ?_; intro s8
      refine o_as st rfl rfl ?_
      refine c_nil ?_
      exact l_join s8 (fun a w hE hm => ⟨hE.sub ⟨rfl, rfl, trivial⟩, (hm.pick [0, 1] rfl)⟩)
    · refine c_skip ?_
      exact l_join s7 (fun a w hE hm => ⟨hE.sub ⟨rfl, rfl, trivial⟩, (hm.pick [0, 1] rfl)⟩)
  · rintro t69 a w ⟨hE, hm⟩ h
    refine nx_of hE hm h ?_
    clear hE hm h
    refine c_join (σ := ByteArray) (fun (t134 : ByteArray) (a : Act) (w : World) => Has 30 [(3, (.string t134))] a ∧ Mem (gB F [] w0) (feet []) w0 [snapCh w0 F] w) ?_ ?_
    · intro k135
      refine c_seq ?_
      refine c_region ?_
      refine o_fad st rfl rfl fld25_2 rfl ?_
      refine o_ldc st (v := (.int .i64 t_0.xHi)) 0 rfl rfl rfl ty3 rfl ?_
      refine o_fad st rfl rfl fld25_1 rfl ?_
      refine o_ldc st (v := (.int .i64 t_0.xLo)) 0 rfl rfl rfl ty3 rfl ?_
      refine o_neq st und3 rfl rfl rfl ?_
      refine c_nil ?_
      refine l_then ?_
      refine c_cond rfl ?_ ?_
      · refine c_region ?_
        refine o_mv st rfl rfl ?_
        refine o_fad st rfl rfl fld25_2 rfl ?_
        refine o_ldc st (v := (.int .i64 t_0.xHi)) 0 rfl rfl rfl ty3 rfl ?_
        refine stw (o_callP (vs := [(.int .i64 t_0.xHi)]) Tryd.call61 rfl rfl (by intro w m h; exact w_lib_Itoa (n_0 := t_0.xHi) (hgl1.of (m.get (i := 1) rfl)) h) ?_); rintro r71 _
        refine o_cat st rfl rfl rfl ?_; intro s72
        refine o_cat st rfl rfl rfl ?_; intro s73
        refine o_as st rfl rfl ?_
        refine c_nil ?_
        exact l_join s73 (fun a w hE hm => ⟨hE.sub ⟨rfl, trivial⟩, (hm.pick [1] rfl)⟩)
      · refine c_skip ?_
        exact l_join t69 (fun a w hE hm => ⟨hE.sub ⟨rfl, trivial⟩, (hm.pick [1] rfl)⟩)
    · rintro t134 a w ⟨hE, hm⟩ h
      refine nx_of hE hm h ?_
      clear hE hm h
      refine c_seq ?_
      refine c_region ?_
      refine o_mv st rfl rfl ?_
      refine o_as st rfl rfl ?_
      refine c_nil ?_
      refine l_then ?_
      refine c_ret ?_
      exact l_end1 Tryd.results53 t134 () (rv_t rfl) (fun _ _ => NewCh.nil _ _ _ _)

set_option maxRecDepth 100000 in
set_option maxHeartbeats 8000000 in
theorem w_impl_TestText {w0 : World} {F : Nat → Prop} {t_0 : GTest} {κ : ByteArray → Prop} (hF : ∀ b, F b → b < w0.heap.size ∧ ¬ feet [] b) (hgl0 : Sl elGFieldShape F w0 (.slice (some ⟨0, 0, none⟩) 4 4) gl_impl_fieldShapes) (hgl1 : Tb F w0) (h : L_impl_TestText t_0 κ) :
    Calls Tryd.prog 17 #[(.agg #[(.int .i64 t_0.xField), (.int .i64 t_0.xLo), (.int .i64 t_0.xHi), (.bool t_0.xNot)])] w0 (Ret [] F w0 κ (fun (r : ByteArray) (u : Unit) => (.string r)) (fun (r : ByteArray) (u : Unit) => [])) := by
  refine enterS (args := [(.agg #[(.int .i64 t_0.xField), (.int .i64 t_0.xLo), (.int .i64 t_0.xHi), (.bool t_0.xNot)])]) [] hF (Given.nil _ _) Tryd.func17 rfl Tryd.ntmps17 rfl h ?_
  clear h hF
  refine c_seq ?_
  refine c_region ?_
  refine stw (o_box rfl rfl [(.int .i64 t_0.xField), (.int .i64 t_0.xLo), (.int .i64 t_0.xHi), (.bool t_0.xNot)] rfl ?_); intro b1
  refine o_as st rfl rfl ?_
  refine c_nil ?_
  refine l_then ?_
  refine c_seq ?_
  refine c_seq ?_
  refine c_region ?_
  refine o_ldc st (v := (.agg #[(.int .i64 t_0.xField), (.int .i64 t_0.xLo), (.int .i64 t_0.xHi), (.bool t_0.xNot)])) 0 rfl rfl rfl ty25 rfl ?_
  refine stw (o_callP (vs := [(.agg #[(.int .i64 t_0.xField), (.int .i64 t_0.xLo), (.int .i64 t_0.xHi), (.bool t_0.xNot)])]) Tryd.call52 rfl rfl (by intro w m h; exact (w_impl_TestValid (F := allB [] w) (t_0 := t_0) allB_ok (m.rd0 1 rfl (reads_snap hgl0)) h).mono (fun _ _ k => ret_free (fun r u => fr_nil) k)) ?_); rintro r3 _
  refine o_not st rfl rfl ?_
  refine c_nil ?_
  refine l_then ?_
  refine c_cond rfl ?_ ?_
  · refine c_seq ?_
    refine c_region ?_
    refine o_as st rfl rfl ?_
    refine c_nil ?_
    refine l_then ?_
    refine c_ret ?_
    refine l_ret ?_
    exact l_end1 Tryd.results17 (ByteArray.mk #[]) () (rv_t rfl) (fun _ _ => NewCh.nil _ _ _ _)
  · refine c_skip ?_
    refine l_then ?_
    refine c_seq ?_
    refine c_region ?_
    refine o_ldc st (v := (.agg #[(.int .i64 t_0.xField), (.int .i64 t_0.xLo), (.int .i64 t_0.xHi), (.bool t_0.xNot)])) 0 rfl rfl rfl ty25 rfl ?_
    refine stw (o_callP (vs := [(.agg #[(.int .i64 t_0.xField), (.int .i64 t_0.xLo), (.int .i64 t_0.xHi), (.bool t_0.xNot)])]) Tryd.call53 rfl rfl (by intro w m h; exact (w_impl_Test_text (F := allB [] w) (t_0 := t_0) allB_ok (m.rd0 1 rfl (reads_snap hgl0)) ((hgl1.of (m.get (i := 1) rfl)).mono fz_ok0) h).mono (fun _ _ k => ret_free (fun r u => fr_nil) k)) ?_); rintro r4 _
    refine o_as st rfl rfl ?_
    refine c_nil ?_
    refine l_then ?_
    refine c_ret ?_
    exact l_end1 Tryd.results17 r4 () (rv_t rfl) (fun _ _ => NewCh.nil _ _ _ _)

set_option maxRecDepth 100000 in
set_option maxHeartbeats 8000000 in
theorem w_laws_FnExactTestText {w0 : World} {F : Nat → Prop} {aT_0 : GTest} {κ : Bool → Prop} (hF : ∀ b, F b → b < w0.heap.size ∧ ¬ feet [] b) (hgl0 : Sl elGFieldShape F w0 (.slice (some ⟨0, 0, none⟩) 4 4) gl_impl_fieldShapes) (hgl1 : Tb F w0) (h : L_laws_FnExactTestText aT_0 κ) :
    Calls Tryd.prog 3 #[(.agg #[(.int .i64 aT_0.xField), (.int .i64 aT_0.xLo), (.int .i64 aT_0.xHi), (.bool aT_0.xNot)])] w0 (Ret [] F w0 κ (fun (r : Bool) (u : Unit) => (.bool r)) (fun (r : Bool) (u : Unit) => [])) := by
  refine enterS (args := [(.agg #[(.int .i64 aT_0.xField), (.int .i64 aT_0.xLo), (.int .i64 aT_0.xHi), (.bool aT_0.xNot)])]) [] hF (Given.nil _ _) Tryd.func3 rfl Tryd.ntmps3 rfl h ?_
  clear h hF
  refine c_seq ?_
  refine c_region ?_
  refine stw (o_box rfl rfl [(.int .i64 aT_0.xField), (.int .i64 aT_0.xLo), (.int .i64 aT_0.xHi), (.bool aT_0.xNot)] rfl ?_); intro b1
  refine o_as st rfl rfl ?_
  refine c_nil ?_
  refine l_then ?_
  refine c_seq ?_
  refine c_region ?_
  refine o_ldc st (v := (.agg #[(.int .i64 aT_0.xField), (.int .i64 aT_0.xLo), (.int .i64 aT_0.xHi), (.bool aT_0.xNot)])) 0 rfl rfl rfl ty23 rfl ?_
  refine stw (o_callP (vs := [(.agg #[(.int .i64 aT_0.xField), (.int .i64 aT_0.xLo), (.int .i64 aT_0.xHi), (.bool aT_0.xNot)])]) Tryd.call16 rfl rfl (by intro w m h; exact (w_laws_toTest (F := allB [] w) (a_0 := aT_0) allB_ok h).mono (fun _ _ k => ret_free (fun r u => fr_nil) k)) ?_); rintro r3 _
  refine stw (o_callP (vs := [(.agg #[(.int .i64 r3.xField), (.int .i64 r3.xLo), (.int .i64 r3.xHi), (.bool r3.xNot)])]) Tryd.call15 rfl rfl (by intro w m h; exact (w_spec_TestText (F := allB [] w) (t_0 := r3) allB_ok h).mono (fun _ _ k => ret_free (fun r u => fr_nil) k)) ?_); rintro r4 _
  refine o_as st rfl rfl ?_
  refine c_nil ?_
  refine l_then ?_
  refine c_seq ?_
  refine c_region ?_
  refine o_ldc st (v := (.agg #[(.int .i64 aT_0.xField), (.int .i64 aT_0.xLo), (.int .i64 aT_0.xHi), (.bool aT_0.xNot)])) 0 rfl rfl rfl ty23 rfl ?_
  refine stw (o_callP (vs := [(.agg #[(.int .i64 aT_0.xField), (.int .i64 aT_0.xLo), (.int .i64 aT_0.xHi), (.bool aT_0.xNot)])]) Tryd.call16 rfl rfl (by intro w m h; exact (w_laws_toTest (F := allB [] w) (a_0 := aT_0) allB_ok h).mono (fun _ _ k => ret_free (fun r u => fr_nil) k)) ?_); rintro r5 _
  refine stw (o_callP (vs := [(.agg #[(.int .i64 r5.xField), (.int .i64 r5.xLo), (.int .i64 r5.xHi), (.bool r5.xNot)])]) Tryd.call17 rfl rfl (by intro w m h; exact (w_impl_TestText (F := allB [] w) (t_0 := r5) allB_ok (m.rd0 1 rfl (reads_snap hgl0)) ((hgl1.of (m.get (i := 1) rfl)).mono fz_ok0) h).mono (fun _ _ k => ret_free (fun r u => fr_nil) k)) ?_); rintro r6 _
  refine o_as st rfl rfl ?_
  refine c_nil ?_
  refine l_then ?_
  refine c_seq ?_
  refine c_seq ?_
  refine c_region ?_
  refine o_mv st rfl rfl ?_
  refine o_mv st rfl rfl ?_
  refine o_neqS st und9 rfl rfl rfl ?_
  refine c_nil ?_
  refine l_then ?_
  refine c_cond rfl ?_ ?_
  · refine c_seq ?_
    refine c_region ?_
    refine o_as st rfl rfl ?_
    refine c_nil ?_
    refine l_then ?_
    refine c_ret ?_
    refine l_ret ?_
    exact l_end1 Tryd.results3 false () (rv_t rfl) (fun _ _ => NewCh.nil _ _ _ _)
  · refine c_skip ?_
    refine l_then ?_
    refine c_seq ?_
    refine c_region ?_
    refine o_as st rfl rfl ?_
    refine c_nil ?_
    refine l_then ?_
    refine c_ret ?_
    exact l_end1 Tryd.results3 true () (rv_t rfl) (fun _ _ => NewCh.nil _ _ _ _)

set_option maxRecDepth 100000 in
set_option maxHeartbeats 8000000 in
theorem w_spec_PrefixValid {w0 : World} {F : Nat → Prop} {p_0 : GPrefix} {κ : Bool → Prop} (hF : ∀ b, F b → b < w0.heap.size ∧ ¬ feet [] b) (h : L_spec_PrefixValid p_0 κ) :
    Calls Tryd.prog 24 #[(.agg #[(.int .i64 p_0.xBase), (.int .i64 p_0.xLength)])] w0 (Ret [] F w0 κ (fun (r : Bool) (u : Unit) => (.bool r)) (fun (r : Bool) (u : Unit) => [])) := by
  refine enter0 (args := [(.agg #[(.int .i64 p_0.xBase), (.int .i64 p_0.xLength)])]) [] hF (Given.nil _ _) Tryd.func24 rfl Tryd.ntmps24 rfl h ?_
  clear h hF
  refine c_seq ?_
  refine c_region ?_
  refine stw (o_box rfl rfl [(.int .i64 p_0.xBase), (.int .i64 p_0.xLength)] rfl ?_); intro b1
  refine o_as st rfl rfl ?_
  refine c_nil ?_
  refine l_then ?_
  refine c_join (σ := Bool) (fun (t68 : Bool) (a : Act) (w : World) => Has 21 [(2, (.bool t68))] a ∧ Mem (gB F [] w0) (feet []) w0 [] w) ?_ ?_
  · intro k69
    refine c_draw mixed 19 rfl [cellCh b1 [(.int .i64 p_0.xBase), (.int .i64 p_0.xLength)] 29] ?_
    refine o_fad (dt 0 (fun _ m => m)) rfl rfl fld29_1 rfl ?_
    refine o_ldc (dt 1 (fun _ m => m)) (v := (.int .i64 p_0.xLength)) 0 rfl rfl rfl ty3 rfl ?_
    refine d_one (i := 2) rfl (by kernel_rfl) (o_callP (vs := [(.int .i64 p_0.xLength), (.int .i64 0), (.int .i64 16)]) Tryd.call62 rfl rfl (by intro w m h; exact (w_spec_l1In (F := allB [] w) (n_0 := p_0.xLength) (lo_1 := 0) (hi_2 := 16) allB_ok h).mono (fun _ _ k => ret_free (fun r u => fr_nil) k)) ?_); rintro r3 _
    refine d_and (fun _ m => m) ?_
    refine o_mv (dt 3 (fun _ m => m)) rfl rfl ?_
    refine st_sp (dj := 6) rfl ?_ ?_
    · refine o_fad (dtg 4 (fun _ m => m)) rfl rfl fld29_0 rfl ?_
      refine o_ldc (dtg 5 (fun _ m => m)) (v := (.int .i64 p_0.xBase)) 0 rfl rfl rfl ty3 rfl ?_
      refine d_oneg (i := 6) rfl rfl rfl (by kernel_rfl) (o_callP (vs := [(.int .i64 p_0.xBase), (.int .i64 0), (.int .i64 65535)]) Tryd.call62 rfl rfl (by intro w m h; exact (w_spec_l1In (F := allB [] w) (n_0 := p_0.xBase) (lo_1 := 0) (hi_2 := 65535) allB_ok h).mono (fun _ _ k => ret_free (fun r u => fr_nil) k)) ?_); rintro r4 _
      refine d_and (fun _ m => m) ?_
      refine o_pickT (dt 7 (fun _ m => m)) rfl rfl rfl ?_
      refine o_mv (dt 8 (fun _ m => m)) rfl rfl ?_
      refine st_sp (dj := 11) rfl ?_ ?_
      · refine o_fad (dtg 9 (fun _ m => m)) rfl rfl fld29_0 rfl ?_
        refine o_ldc (dtg 10 (fun _ m => m)) (v := (.int .i64 p_0.xBase)) 0 rfl rfl rfl ty3 rfl ?_
        refine o_fad (dtg 11 (fun _ m => m)) rfl rfl fld29_1 rfl ?_
        refine o_ldc (dtg 12 (fun _ m => m)) (v := (.int .i64 p_0.xLength)) 0 rfl rfl rfl ty3 rfl ?_
        refine o_sub (dtg 13 (fun _ m => m)) rfl rfl rfl ?_; intro t5
        refine o_shl (dtg 14 (fun _ m => m)) rfl rfl rfl ?_; intro t6
        refine o_rem (dtg 15 (fun _ m => m)) rfl rfl rfl ?_; intro t7
        refine o_eql (dtg 16 (fun _ m => m)) und3 rfl rfl rfl ?_
        refine o_pickT (dt 17 (fun _ m => m)) rfl rfl rfl ?_
        refine o_as (dt 18 (fun _ m => m)) rfl rfl ?_
        refine d_done (by kernel_rfl) ?_
        exact l_join (decide (t7 = 0)) (fun a w hE hm => ⟨hE.sub ⟨rfl, trivial⟩, (hm.pick [] rfl)⟩)
      · refine dsk 9 (fun _ m => m) rfl (by kernel_rfl) rfl rfl rfl rfl ?_
        refine dsk 10 (fun _ m => m) rfl (by kernel_rfl) rfl rfl rfl rfl ?_
        refine dsk 11 (fun _ m => m) rfl (by kernel_rfl) rfl rfl rfl rfl ?_
        refine dsk 12 (fun _ m => m) rfl (by kernel_rfl) rfl rfl rfl rfl ?_
        refine dsk 13 (fun _ m => m) rfl (by kernel_rfl) rfl rfl rfl rfl ?_
        refine dsk 14 (fun _ m => m) rfl (by kernel_rfl) rfl rfl rfl rfl ?_
        refine dsk 15 (fun _ m => m) rfl (by kernel_rfl) rfl rfl rfl rfl ?_
        refine dsk 16 (fun _ m => m) rfl (by kernel_rfl) rfl rfl rfl rfl ?_
        refine o_pickF (dt 17 (fun _ m => m)) rfl rfl rfl ?_
        refine o_as (dt 18 (fun _ m => m)) rfl rfl ?_
        refine d_done (by kernel_rfl) ?_
        exact l_join false (fun a w hE hm => ⟨hE.sub ⟨rfl, trivial⟩, (hm.pick [] rfl)⟩)
    · refine dsk 4 (fun _ m => m) rfl (by kernel_rfl) rfl rfl rfl rfl ?_
      refine dsk 5 (fun _ m => m) rfl (by kernel_rfl) rfl rfl rfl rfl ?_
      refine dsk 6 (fun _ m => m) rfl (by kernel_rfl) rfl rfl rfl rfl ?_
      refine o_pickF (dt 7 (fun _ m => m)) rfl rfl rfl ?_
      refine o_mv (dt 8 (fun _ m => m)) rfl rfl ?_
      refine dsk 9 (fun _ m => m) rfl (by kernel_rfl) rfl rfl rfl rfl ?_
      refine dsk 10 (fun _ m => m) rfl (by kernel_rfl) rfl rfl rfl rfl ?_
      refine dsk 11 (fun _ m => m) rfl (by kernel_rfl) rfl rfl rfl rfl ?_
      refine dsk 12 (fun _ m => m) rfl (by kernel_rfl) rfl rfl rfl rfl ?_
      refine dsk 13 (fun _ m => m) rfl (by kernel_rfl) rfl rfl rfl rfl ?_
      refine dsk 14 (fun _ m => m) rfl (by kernel_rfl) rfl rfl rfl rfl ?_
      refine dsk 15 (fun _ m => m) rfl (by kernel_rfl) rfl rfl rfl rfl ?_
      refine dsk 16 (fun _ m => m) rfl (by kernel_rfl) rfl rfl rfl rfl ?_
      refine o_pickF (dt 17 (fun _ m => m)) rfl rfl rfl ?_
      refine o_as (dt 18 (fun _ m => m)) rfl rfl ?_
      refine d_done (by kernel_rfl) ?_
      exact l_join false (fun a w hE hm => ⟨hE.sub ⟨rfl, trivial⟩, (hm.pick [] rfl)⟩)
  · rintro t68 a w ⟨hE, hm⟩ h
    refine nx_of hE hm h ?_
    clear hE hm h
    refine c_ret ?_
    exact l_end1 Tryd.results24 t68 () (rv_t rfl) (fun _ _ => NewCh.nil _ _ _ _)

set_option maxRecDepth 100000 in
set_option maxHeartbeats 8000000 in
theorem w_spec_PrefixText {w0 : World} {F : Nat → Prop} {p_0 : GPrefix} {κ : ByteArray → Prop} (hF : ∀ b, F b → b < w0.heap.size ∧ ¬ feet [] b) (h : L_spec_PrefixText p_0 κ) :
    Calls Tryd.prog 23 #[(.agg #[(.int .i64 p_0.xBase), (.int .i64 p_0.xLength)])] w0 (Ret [] F w0 κ (fun (r : ByteArray) (u : Unit) => (.string r)) (fun (r : ByteArray) (u : Unit) => [])) := by
  refine enter0 (args := [(.agg #[(.int .i64 p_0.xBase), (.int .i64 p_0.xLength)])]) [] hF (Given.nil _ _) Tryd.func23 rfl Tryd.ntmps23 rfl h ?_
  clear h hF
  refine c_seq ?_
  refine c_region ?_
  refine stw (o_box rfl rfl [(.int .i64 p_0.xBase), (.int .i64 p_0.xLength)] rfl ?_); intro b1
  refine o_as st rfl rfl ?_
  refine c_nil ?_
  refine l_then ?_
  refine c_seq ?_
  refine c_seq ?_
  refine c_region ?_
  refine o_ldc st (v := (.agg #[(.int .i64 p_0.xBase), (.int .i64 p_0.xLength)])) 0 rfl rfl rfl ty29 rfl ?_
  refine stw (o_callP (vs := [(.agg #[(.int .i64 p_0.xBase), (.int .i64 p_0.xLength)])]) Tryd.call24 rfl rfl (by intro w m h; exact (w_spec_PrefixValid (F := allB [] w) (p_0 := p_0) allB_ok h).mono (fun _ _ k => ret_free (fun r u => fr_nil) k)) ?_); rintro r3 _
  refine o_not st rfl rfl ?_
  refine c_nil ?_
  refine l_then ?_
  refine c_cond rfl ?_ ?_
  · refine c_seq ?_
    refine c_region ?_
    refine o_as st rfl rfl ?_
    refine c_nil ?_
    refine l_then ?_
    refine c_ret ?_
    refine l_ret ?_
    exact l_end1 Tryd.results23 (ByteArray.mk #[]) () (rv_t rfl) (fun _ _ => NewCh.nil _ _ _ _)
  · refine c_skip ?_
    refine l_then ?_
    refine c_seq ?_
    refine c_draw mixed 16 rfl [cellCh b1 [(.int .i64 p_0.xBase), (.int .i64 p_0.xLength)] 29] ?_
    refine o_fad (dt 0 (fun _ m => m)) rfl rfl fld29_0 rfl ?_
    refine o_ldc (dt 1 (fun _ m => m)) (v := (.int .i64 p_0.xBase)) 0 rfl rfl rfl ty3 rfl ?_
    refine o_quo (dt 2 (fun _ m => m)) rfl rfl rfl ?_; intro t4
    refine o_fad (dt 5 (fun _ m => m)) rfl rfl fld29_0 rfl ?_
    refine o_ldc (dt 6 (fun _ m => m)) (v := (.int .i64 p_0.xBase)) 0 rfl rfl rfl ty3 rfl ?_
    refine o_rem (dt 7 (fun _ m => m)) rfl rfl rfl ?_; intro t5
    refine o_fad (dt 11 (fun _ m => m)) rfl rfl fld29_1 rfl ?_
    refine o_ldc (dt 12 (fun _ m => m)) (v := (.int .i64 p_0.xLength)) 0 rfl rfl rfl ty3 rfl ?_
    refine d_one (i := 3) rfl (by kernel_rfl) (o_callP (vs := [(.int .i64 t4)]) Tryd.call51 rfl rfl (by intro w m h; exact (w_spec_l3Number (F := allB [] w) (n_0 := t4) allB_ok h).mono (fun _ _ k => ret_free (fun r u => fr_nil) k)) ?_); rintro r6 _
    refine d_and (fun _ m => m) ?_
    refine o_cat (dt 4 (fun _ m => m)) rfl rfl rfl ?_; intro s7
    refine d_one (i := 8) rfl (by kernel_rfl) (o_callP (vs := [(.int .i64 t5)]) Tryd.call51 rfl rfl (by intro w m h; exact (w_spec_l3Number (F := allB [] w) (n_0 := t5) allB_ok h).mono (fun _ _ k => ret_free (fun r u => fr_nil) k)) ?_); rintro r8 _
    refine d_and (fun _ m => m) ?_
    refine o_cat (dt 9 (fun _ m => m)) rfl rfl rfl ?_; intro s9
    refine o_cat (dt 10 (fun _ m => m)) rfl rfl rfl ?_; intro s10
    refine d_one (i := 13) rfl (by kernel_rfl) (o_callP (vs := [(.int .i64 p_0.xLength)]) Tryd.call51 rfl rfl (by intro w m h; exact (w_spec_l3Number (F := allB [] w) (n_0 := p_0.xLength) allB_ok h).mono (fun _ _ k => ret_free (fun r u => fr_nil) k)) ?_); rintro r11 _
    refine d_and (fun _ m => m) ?_
    refine o_cat (dt 14 (fun _ m => m)) rfl rfl rfl ?_; intro s12
    refine o_as (dt 15 (fun _ m => m)) rfl rfl ?_
    refine d_done (by kernel_rfl) ?_
    refine l_then ?_
    refine c_ret ?_
    exact l_end1 Tryd.results23 s12 () (rv_t rfl) (fun _ _ => NewCh.nil _ _ _ _)

set_option maxRecDepth 100000 in
set_option maxHeartbeats 8000000 in
theorem w_spec_l3Cut {w0 : World} {F : Nat → Prop} {s_0 : ByteArray} {c_1 : UInt8} {κ : (ByteArray × ByteArray) → Prop} (hF : ∀ b, F b → b < w0.heap.size ∧ ¬ feet [] b) (h : L_spec_l3Cut s_0 c_1 κ) :
    Calls Tryd.prog 54 #[(.string s_0), (.int .u8 (c_1.toNat : Int))] w0 (Ret [] F w0 κ (fun (r : (ByteArray × ByteArray)) (u : Unit) => .tuple #[(.string r.1), (.string r.2)]) (fun (r : (ByteArray × ByteArray)) (u : Unit) => [])) := by
  refine enter0 (args := [(.string s_0), (.int .u8 (c_1.toNat : Int))]) [] hF (Given.nil _ _) Tryd.func54 rfl Tryd.ntmps54 rfl h ?_
  clear h hF
  refine c_seq ?_
  refine c_region ?_
  refine o_as st rfl rfl ?_
  refine o_as st rfl rfl ?_
  refine c_nil ?_
  refine l_then ?_
  refine c_seq ?_
  refine c_seq ?_
  refine c_region ?_
  refine o_as st rfl rfl ?_
  refine c_nil ?_
  refine l_then ?_
  refine c_block ?_
  refine c_loop (σ := Int) (fun (t1 : Int) (a : Act) (w : World) => Has 26 [(0, (.string s_0)), (1, (.int .u8 (c_1.toNat : Int))), (6, (.int .i64 t1))] a ∧ Mem (gB F [] w0) (feet []) w0 [] w) (fun a w hE hm => ⟨hE.sub ⟨rfl, rfl, rfl, trivial⟩, (hm.pick [] rfl)⟩) ?_
  rintro nx2 t1 a w ⟨hE, hm⟩ h
  refine nx_of hE hm h ?_
  clear hE hm h
  refine c_seq ?_
  refine c_seq ?_
  refine c_region ?_
  refine o_mv st rfl rfl ?_
  refine o_mv st rfl rfl ?_
  refine o_lenS st und9 rfl rfl ?_
  refine o_lss st rfl rfl rfl ?_
  refine c_nil ?_
  refine l_then ?_
  refine c_cond rfl ?_ ?_
  · refine c_skip ?_
    refine l_then ?_
    refine c_seq ?_
    refine c_block ?_
    refine c_seq ?_
    refine c_region ?_
    refine o_mv st rfl rfl ?_
    refine o_mv st rfl rfl ?_
    refine o_ixs st und9 rfl rfl rfl ?_; intro e3
    refine o_mv st rfl rfl ?_
    refine o_eql st und5 rfl rfl rfl ?_
    refine c_nil ?_
    refine l_then ?_
    refine c_cond rfl ?_ ?_
    · refine c_seq ?_
      refine c_draw mixed 9 rfl [] ?_
      refine o_mv (dt 0 (fun _ m => m)) rfl rfl ?_
      refine o_mv (dt 1 (fun _ m => m)) rfl rfl ?_
      refine o_sls (dt 2 (fun _ m => m)) und9 rfl rfl rfl rfl ?_; intro s4
      refine o_mv (dt 3 (fun _ m => m)) rfl rfl ?_
      refine o_mv (dt 4 (fun _ m => m)) rfl rfl ?_
      refine o_add (dt 5 (fun _ m => m)) rfl rfl rfl ?_; intro t5
      refine o_sls (dt 6 (fun _ m => m)) und9 rfl rfl rfl rfl ?_; intro s6
      refine o_as (dt 7 (fun _ m => m)) rfl rfl ?_
      refine o_as (dt 8 (fun _ m => m)) rfl rfl ?_
      refine d_done (by kernel_rfl) ?_
      refine l_then ?_
      refine c_ret ?_
      refine b_ret ?_
      refine l_ret ?_
      refine l_ret ?_
      refine b_ret ?_
      refine l_ret ?_
      exact l_end2 Tryd.results54 (s4, s6) () (rv_t rfl) (rv_t rfl) rfl (fun _ _ => NewCh.nil _ _ _ _)
    · refine c_skip ?_
      refine b_norm ?_
      refine l_then ?_
      refine c_region ?_
      refine o_mv st rfl rfl ?_
      refine o_add st rfl rfl rfl ?_; intro t7
      refine o_as st rfl rfl ?_
      refine c_nil ?_
      exact l_join t7 (fun a w hE hm => ⟨hE.sub ⟨rfl, rfl, rfl, trivial⟩, (hm.pick [] rfl)⟩)
  · refine c_exit ?_
    refine l_exit ?_
    refine l_exit ?_
    refine b_exit ?_
    refine l_then ?_
    refine c_seq ?_
    refine c_region ?_
    refine o_mv st rfl rfl ?_
    refine o_as st rfl rfl ?_
    refine o_as st rfl rfl ?_
    refine c_nil ?_
    refine l_then ?_
    refine c_ret ?_
    exact l_end2 Tryd.results54 (s_0, (ByteArray.mk #[])) () (rv_t rfl) (rv_t rfl) rfl (fun _ _ => NewCh.nil _ _ _ _)

set_option maxRecDepth 100000 in
set_option maxHeartbeats 8000000 in
theorem w_spec_l3Value {w0 : World} {F : Nat → Prop} {s_0 : ByteArray} {κ : Int → Prop} (hF : ∀ b, F b → b < w0.heap.size ∧ ¬ feet [] b) (h : L_spec_l3Value s_0 κ) :
    Calls Tryd.prog 55 #[(.string s_0)] w0 (Ret [] F w0 κ (fun (r : Int) (u : Unit) => (.int .i64 r)) (fun (r : Int) (u : Unit) => [])) := by
  refine enter0 (args := [(.string s_0)]) [] hF (Given.nil _ _) Tryd.func55 rfl Tryd.ntmps55 rfl h ?_
  clear h hF
  refine c_seq ?_
  refine c_region ?_
  refine o_as st rfl rfl ?_
  refine c_nil ?_
  refine l_then ?_
  refine c_seq ?_
  refine c_region ?_
  refine o_as st rfl rfl ?_
  refine c_nil ?_
  refine l_then ?_
  refine c_seq ?_
  refine c_seq ?_
  refine c_region ?_
  refine o_as st rfl rfl ?_
  refine c_nil ?_
  refine l_then ?_
  refine c_block ?_
  refine c_loop (σ := (Int × Int)) (fun ((t1, t2) : (Int × Int)) (a : Act) (w : World) => Has 43 [(0, (.string s_0)), (3, (.int .i64 t1)), (4, (.int .i64 t2))] a ∧ Mem (gB F [] w0) (feet []) w0 [] w) (fun a w hE hm => ⟨hE.sub ⟨rfl, rfl, rfl, trivial⟩, (hm.pick [] rfl)⟩) ?_
  rintro nx3 ⟨t1, t2⟩ a w ⟨hE, hm⟩ h
  refine nx_of hE hm h ?_
  clear hE hm h
  refine c_seq ?_
  refine c_join (σ := Bool) (fun (t64 : Bool) (a : Act) (w : World) => Has 43 [(0, (.string s_0)), (3, (.int .i64 t1)), (4, (.int .i64 t2)), (12, (.bool t64))] a ∧ Mem (gB F [] w0) (feet []) w0 [] w) ?_ ?_
  · intro k65
    refine c_region ?_
    refine o_mv st rfl rfl ?_
    refine o_mv st rfl rfl ?_
    refine o_lenS st und9 rfl rfl ?_
    refine o_lss st rfl rfl rfl ?_
    refine o_mv st rfl rfl ?_
    refine st_sp (dj := 9) rfl ?_ ?_
    · refine o_mv (st_g rfl rfl) rfl rfl ?_
      refine o_lss (st_g rfl rfl) rfl rfl rfl ?_
      refine o_pickT st rfl rfl rfl ?_
      refine c_nil ?_
      exact l_join (decide (t2 < 6)) (fun a w hE hm => ⟨hE.sub ⟨rfl, rfl, rfl, rfl, trivial⟩, (hm.pick [] rfl)⟩)
    · refine st_s rfl rfl rfl rfl ?_
      refine st_s rfl rfl rfl rfl ?_
      refine o_pickF st rfl rfl rfl ?_
      refine c_nil ?_
      exact l_join false (fun a w hE hm => ⟨hE.sub ⟨rfl, rfl, rfl, rfl, trivial⟩, (hm.pick [] rfl)⟩)
  · rintro t64 a w ⟨hE, hm⟩ h
    refine nx_of hE hm h ?_
    clear hE hm h
    refine c_cond rfl ?_ ?_
    · refine c_skip ?_
      refine l_then ?_
      refine c_seq ?_
      refine c_block ?_
      refine c_seq ?_
      refine c_join (σ := Bool) (fun (t128 : Bool) (a : Act) (w : World) => Has 43 [(0, (.string s_0)), (3, (.int .i64 t1)), (4, (.int .i64 t2)), (24, (.bool t128))] a ∧ Mem (gB F [] w0) (feet []) w0 [] w) ?_ ?_
      · intro k129
        refine c_region ?_
        refine o_mv st rfl rfl ?_
        refine o_mv st rfl rfl ?_
        refine o_ixs st und9 rfl rfl rfl ?_; intro e66
        refine o_lss st rfl rfl rfl ?_
        refine o_mv st rfl rfl ?_
        refine st_sp (dj := 19) rfl ?_ ?_
        · refine st_s rfl rfl rfl rfl ?_
          refine st_s rfl rfl rfl rfl ?_
          refine st_s rfl rfl rfl rfl ?_
          refine st_s rfl rfl rfl rfl ?_
          refine o_pickT st rfl rfl rfl ?_
          refine c_nil ?_
          exact l_join true (fun a w hE hm => ⟨hE.sub ⟨rfl, rfl, rfl, rfl, trivial⟩, (hm.pick [] rfl)⟩)
        · refine o_mv (st_g rfl rfl) rfl rfl ?_
          refine o_mv (st_g rfl rfl) rfl rfl ?_
          refine o_ixs (st_g rfl rfl) und9 rfl rfl rfl ?_; intro e67
          refine o_gtr (st_g rfl rfl) rfl rfl rfl ?_
          refine o_pickF st rfl rfl rfl ?_
          refine c_nil ?_
          exact l_join (decide (57 < (e67.toNat : Int))) (fun a w hE hm => ⟨hE.sub ⟨rfl, rfl, rfl, rfl, trivial⟩, (hm.pick [] rfl)⟩)
      · rintro t128 a w ⟨hE, hm⟩ h
        refine nx_of hE hm h ?_
        clear hE hm h
        refine c_cond rfl ?_ ?_
        · refine c_seq ?_
          refine c_region ?_
          refine o_as st rfl rfl ?_
          refine c_nil ?_
          refine l_then ?_
          refine c_ret ?_
          refine l_ret ?_
          refine b_ret ?_
          refine l_ret ?_
          refine l_ret ?_
          refine b_ret ?_
          refine l_ret ?_
          exact l_end1 Tryd.results55 (-1) () (rv_t rfl) (fun _ _ => NewCh.nil _ _ _ _)
        · refine c_skip ?_
          refine l_then ?_
          refine c_region ?_
          refine o_mv st rfl rfl ?_
          refine o_mul st rfl rfl rfl ?_; intro t130
          refine o_mv st rfl rfl ?_
          refine o_mv st rfl rfl ?_
          refine o_ixs st und9 rfl rfl rfl ?_; intro e131
          refine o_sub8 st rfl rfl rfl ?_; intro t132
          refine o_cnvi st und5 und3 rfl rfl ?_
          refine o_add st rfl rfl rfl ?_; intro t133
          refine o_as st rfl rfl ?_
          refine c_nil ?_
          refine b_norm ?_
          refine l_then ?_
          refine c_region ?_
          refine o_mv st rfl rfl ?_
          refine o_add st rfl rfl rfl ?_; intro t134
          refine o_as st rfl rfl ?_
          refine c_nil ?_
          exact l_join (t133, t134) (fun a w hE hm => ⟨hE.sub ⟨rfl, rfl, rfl, trivial⟩, (hm.pick [] rfl)⟩)
    · refine c_exit ?_
      refine l_exit ?_
      refine l_exit ?_
      refine b_exit ?_
      refine l_then ?_
      refine c_seq ?_
      refine c_join (σ := Bool) (fun (t196 : Bool) (a : Act) (w : World) => Has 43 [(3, (.int .i64 t1)), (41, (.bool t196))] a ∧ Mem (gB F [] w0) (feet []) w0 [] w) ?_ ?_
      · intro k197
        refine c_region ?_
        refine o_mv st rfl rfl ?_
        refine o_lenS st und9 rfl rfl ?_
        refine o_gtr st rfl rfl rfl ?_
        refine o_mv st rfl rfl ?_
        refine st_sp (dj := 36) rfl ?_ ?_
        · refine st_s rfl rfl rfl rfl ?_
          refine st_s rfl rfl rfl rfl ?_
          refine st_s rfl rfl rfl rfl ?_
          refine st_s rfl rfl rfl rfl ?_
          refine o_pickT st rfl rfl rfl ?_
          refine c_nil ?_
          exact l_join true (fun a w hE hm => ⟨hE.sub ⟨rfl, rfl, trivial⟩, (hm.pick [] rfl)⟩)
        · refine o_mv (st_g rfl rfl) rfl rfl ?_
          refine st_gw rfl rfl (o_callP (vs := [(.int .i64 t1)]) Tryd.call51 rfl rfl (by intro w m h; exact (w_spec_l3Number (F := allB [] w) (n_0 := t1) allB_ok h).mono (fun _ _ k => ret_free (fun r u => fr_nil) k)) ?_); rintro r135 _
          refine o_mv (st_g rfl rfl) rfl rfl ?_
          refine o_neqS (st_g rfl rfl) und9 rfl rfl rfl ?_
          refine o_pickF st rfl rfl rfl ?_
          refine c_nil ?_
          exact l_join (!(decide (r135 = s_0))) (fun a w hE hm => ⟨hE.sub ⟨rfl, rfl, trivial⟩, (hm.pick [] rfl)⟩)
      · rintro t196 a w ⟨hE, hm⟩ h
        refine nx_of hE hm h ?_
        clear hE hm h
        refine c_cond rfl ?_ ?_
        · refine c_seq ?_
          refine c_region ?_
          refine o_as st rfl rfl ?_
          refine c_nil ?_
          refine l_then ?_
          refine c_ret ?_
          refine l_ret ?_
          exact l_end1 Tryd.results55 (-1) () (rv_t rfl) (fun _ _ => NewCh.nil _ _ _ _)
        · refine c_skip ?_
          refine l_then ?_
          refine c_seq ?_
          refine c_region ?_
          refine o_mv st rfl rfl ?_
          refine o_as st rfl rfl ?_
          refine c_nil ?_
          refine l_then ?_
          refine c_ret ?_
          exact l_end1 Tryd.results55 t1 () (rv_t rfl) (fun _ _ => NewCh.nil _ _ _ _)

set_option maxRecDepth 100000 in
set_option maxHeartbeats 8000000 in
theorem w_spec_ReadPrefix {w0 : World} {F : Nat → Prop} {s_0 : ByteArray} {κ : (GPrefix × Bool) → Prop} (hF : ∀ b, F b → b < w0.heap.size ∧ ¬ feet [] b) (h : L_spec_ReadPrefix s_0 κ) :
    Calls Tryd.prog 18 #[(.string s_0)] w0 (Ret [] F w0 κ (fun (r : (GPrefix × Bool)) (u : Unit) => .tuple #[(.agg #[(.int .i64 r.1.xBase), (.int .i64 r.1.xLength)]), (.bool r.2)]) (fun (r : (GPrefix × Bool)) (u : Unit) => [])) := by
  refine enter0 (args := [(.string s_0)]) [] hF (Given.nil _ _) Tryd.func18 rfl Tryd.ntmps18 rfl h ?_
  clear h hF
  refine c_seq ?_
  refine c_region ?_
  refine stw (o_alloc rfl [(.int .i64 0), (.int .i64 0)] zero29 ?_); intro b1
  refine o_as st rfl rfl ?_
  refine c_nil ?_
  refine l_then ?_
  refine c_seq ?_
  refine c_region ?_
  refine o_mv st rfl rfl ?_
  refine stw (o_callP (vs := [(.string s_0), (.int .u8 46)]) Tryd.call54 rfl rfl (by intro w m h; exact (w_spec_l3Cut (F := allB [] w) (s_0 := s_0) (c_1 := (46 : UInt8)) allB_ok h).mono (fun _ _ k => ret_free (fun r u => fr_nil) k)) ?_); rintro ⟨r3, r4⟩ _
  refine o_mv st rfl rfl ?_
  refine o_ext st (vs := [(.string r3), (.string r4)]) rfl rfl rfl ?_
  refine o_ext st (vs := [(.string r3), (.string r4)]) rfl rfl rfl ?_
  refine o_as st rfl rfl ?_
  refine o_as st rfl rfl ?_
  refine c_nil ?_
  refine l_then ?_
  refine c_seq ?_
  refine c_region ?_
  refine o_mv st rfl rfl ?_
  refine stw (o_callP (vs := [(.string r4), (.int .u8 47)]) Tryd.call54 rfl rfl (by intro w m h; exact (w_spec_l3Cut (F := allB [] w) (s_0 := r4) (c_1 := (47 : UInt8)) allB_ok h).mono (fun _ _ k => ret_free (fun r u => fr_nil) k)) ?_); rintro ⟨r5, r6⟩ _
  refine o_mv st rfl rfl ?_
  refine o_ext st (vs := [(.string r5), (.string r6)]) rfl rfl rfl ?_
  refine o_ext st (vs := [(.string r5), (.string r6)]) rfl rfl rfl ?_
  refine o_as st rfl rfl ?_
  refine o_as st rfl rfl ?_
  refine c_nil ?_
  refine l_then ?_
  refine c_seq ?_
  refine c_region ?_
  refine o_mv st rfl rfl ?_
  refine stw (o_callP (vs := [(.string r3)]) Tryd.call55 rfl rfl (by intro w m h; exact (w_spec_l3Value (F := allB [] w) (s_0 := r3) allB_ok h).mono (fun _ _ k => ret_free (fun r u => fr_nil) k)) ?_); rintro r7 _
  refine o_mul st rfl rfl rfl ?_; intro t8
  refine o_mv st rfl rfl ?_
  refine stw (o_callP (vs := [(.string r5)]) Tryd.call55 rfl rfl (by intro w m h; exact (w_spec_l3Value (F := allB [] w) (s_0 := r5) allB_ok h).mono (fun _ _ k => ret_free (fun r u => fr_nil) k)) ?_); rintro r9 _
  refine o_add st rfl rfl rfl ?_; intro t10
  refine o_mv st rfl rfl ?_
  refine stw (o_callP (vs := [(.string r6)]) Tryd.call55 rfl rfl (by intro w m h; exact (w_spec_l3Value (F := allB [] w) (s_0 := r6) allB_ok h).mono (fun _ _ k => ret_free (fun r u => fr_nil) k)) ?_); rintro r11 _
  refine o_bld st (qs := [(0, (.int .i64 t10)), (1, (.int .i64 r11))]) (cells := [(.int .i64 t10), (.int .i64 r11)]) (by intro ρ h; simp only [List.map_toArray, List.map_cons, List.map_nil, h (.tmp 24) _ rfl, h (.tmp 26) _ rfl]) rfl bld29 rfl ?_
  refine stw (o_alloc rfl [(.int .i64 0), (.int .i64 0)] zero29 ?_); intro b12
  refine stw (o_stc (cs' := [(.int .i64 t10), (.int .i64 r11)]) 0 rfl rfl rfl ty29 rfl rfl rfl rfl ?_)
  refine c_nil ?_
  refine l_then ?_
  refine c_seq ?_
  refine c_join (σ := Bool) (fun (t75 : Bool) (a : Act) (w : World) => Has 38 [(2, (.pointer (some ⟨b1, 0, none⟩))), (8, (.pointer (some ⟨b12, 0, none⟩))), (35, (.bool t75))] a ∧ Mem (gB F [] w0) (feet []) w0 [cellCh b12 [(.int .i64 t10), (.int .i64 r11)] 29, cellCh b1 [(.int .i64 0), (.int .i64 0)] 29] w) ?_ ?_
  · intro k76
    refine c_region ?_
    refine o_ldc st (v := (.agg #[(.int .i64 t10), (.int .i64 r11)])) 0 rfl rfl rfl ty29 rfl ?_
    refine stw (o_callP (vs := [(.agg #[(.int .i64 t10), (.int .i64 r11)])]) Tryd.call23 rfl rfl (by intro w m h; exact (w_spec_PrefixText (F := allB [] w) (p_0 := (GPrefix.mk t10 r11)) allB_ok h).mono (fun _ _ k => ret_free (fun r u => fr_nil) k)) ?_); rintro r14 _
    refine o_mv st rfl rfl ?_
    refine o_neqS st und9 rfl rfl rfl ?_
    refine o_mv st rfl rfl ?_
    refine st_sp (dj := 32) rfl ?_ ?_
    · refine st_s rfl rfl rfl rfl ?_
      refine st_s rfl rfl rfl rfl ?_
      refine o_pickT st rfl rfl rfl ?_
      refine c_nil ?_
      exact l_join true (fun a w hE hm => ⟨hE.sub ⟨rfl, rfl, rfl, trivial⟩, (hm.pick [0, 1] rfl)⟩)
    · refine o_mv (st_g rfl rfl) rfl rfl ?_
      refine o_eqlS (st_g rfl rfl) und9 rfl rfl rfl ?_
      refine o_pickF st rfl rfl rfl ?_
      refine c_nil ?_
      exact l_join (decide (s_0 = (ByteArray.mk #[]))) (fun a w hE hm => ⟨hE.sub ⟨rfl, rfl, rfl, trivial⟩, (hm.pick [0, 1] rfl)⟩)
  · rintro t75 a w ⟨hE, hm⟩ h
    refine nx_of hE hm h ?_
    clear hE hm h
    refine c_cond rfl ?_ ?_
    · refine c_seq ?_
      refine c_region ?_
      refine o_bld st (qs := []) (cells := [(.int .i64 0), (.int .i64 0)]) (by intro ρ h; simp only [List.map_toArray, List.map_cons, List.map_nil]) rfl bld29 rfl ?_
      refine stw (o_stc (cs' := [(.int .i64 0), (.int .i64 0)]) 1 rfl rfl rfl ty29 rfl rfl rfl rfl ?_)
      refine o_as st rfl rfl ?_
      refine c_nil ?_
      refine l_then ?_
      refine c_ret ?_
      refine l_ret ?_
      exact l_end2 Tryd.results18 ((GPrefix.mk 0 0), false) () (rv_c 1 rfl rfl ty29 rfl) (rv_t rfl) rfl (fun _ _ => NewCh.nil _ _ _ _)
    · refine c_skip ?_
      refine l_then ?_
      refine c_seq ?_
      refine c_region ?_
      refine o_ldc st (v := (.agg #[(.int .i64 t10), (.int .i64 r11)])) 0 rfl rfl rfl ty29 rfl ?_
      refine stw (o_stc (cs' := [(.int .i64 t10), (.int .i64 r11)]) 1 rfl rfl rfl ty29 rfl rfl rfl rfl ?_)
      refine o_as st rfl rfl ?_
      refine c_nil ?_
      refine l_then ?_
      refine c_ret ?_
      exact l_end2 Tryd.results18 ((GPrefix.mk t10 r11), true) () (rv_c 1 rfl rfl ty29 rfl) (rv_t rfl) rfl (fun _ _ => NewCh.nil _ _ _ _)

set_option maxRecDepth 100000 in
set_option maxHeartbeats 8000000 in
theorem w_impl_hostMask {w0 : World} {F : Nat → Prop} {length_0 : Int} {κ : Int → Prop} (hF : ∀ b, F b → b < w0.heap.size ∧ ¬ feet [] b) (h : L_impl_hostMask length_0 κ) :
    Calls Tryd.prog 88 #[(.int .i64 length_0)] w0 (Ret [] F w0 κ (fun (r : Int) (u : Unit) => (.int .i64 r)) (fun (r : Int) (u : Unit) => [])) := by
  refine enter0 (args := [(.int .i64 length_0)]) [] hF (Given.nil _ _) Tryd.func88 rfl Tryd.ntmps88 rfl h ?_
  clear h hF
  refine c_seq ?_
  refine c_region ?_
  refine o_as st rfl rfl ?_
  refine c_nil ?_
  refine l_then ?_
  refine c_seq ?_
  refine c_region ?_
  refine o_mv st rfl rfl ?_
  refine o_sub st rfl rfl rfl ?_; intro t1
  refine o_shl st rfl rfl rfl ?_; intro t2
  refine o_sub st rfl rfl rfl ?_; intro t3
  refine o_as st rfl rfl ?_
  refine c_nil ?_
  refine l_then ?_
  refine c_ret ?_
  exact l_end1 Tryd.results88 t3 () (rv_t rfl) (fun _ _ => NewCh.nil _ _ _ _)

set_option maxRecDepth 100000 in
set_option maxHeartbeats 8000000 in
theorem w_impl_PrefixValid {w0 : World} {F : Nat → Prop} {p_0 : GPrefix} {κ : Bool → Prop} (hF : ∀ b, F b → b < w0.heap.size ∧ ¬ feet [] b) (h : L_impl_PrefixValid p_0 κ) :
    Calls Tryd.prog 58 #[(.agg #[(.int .i64 p_0.xBase), (.int .i64 p_0.xLength)])] w0 (Ret [] F w0 κ (fun (r : Bool) (u : Unit) => (.bool r)) (fun (r : Bool) (u : Unit) => [])) := by
  refine enter0 (args := [(.agg #[(.int .i64 p_0.xBase), (.int .i64 p_0.xLength)])]) [] hF (Given.nil _ _) Tryd.func58 rfl Tryd.ntmps58 rfl h ?_
  clear h hF
  refine c_seq ?_
  refine c_region ?_
  refine stw (o_box rfl rfl [(.int .i64 p_0.xBase), (.int .i64 p_0.xLength)] rfl ?_); intro b1
  refine o_as st rfl rfl ?_
  refine c_nil ?_
  refine l_then ?_
  refine c_seq ?_
  refine c_join (σ := Bool) (fun (t63 : Bool) (a : Act) (w : World) => Has 28 [(1, (.pointer (some ⟨b1, 0, none⟩))), (20, (.bool t63))] a ∧ Mem (gB F [] w0) (feet []) w0 [cellCh b1 [(.int .i64 p_0.xBase), (.int .i64 p_0.xLength)] 29] w) ?_ ?_
  · intro k64
    refine c_region ?_
    refine o_fad st rfl rfl fld29_1 rfl ?_
    refine o_ldc st (v := (.int .i64 p_0.xLength)) 0 rfl rfl rfl ty3 rfl ?_
    refine o_lss st rfl rfl rfl ?_
    refine o_mv st rfl rfl ?_
    refine st_sp (dj := 6) rfl ?_ ?_
    · refine st_s rfl rfl rfl rfl ?_
      refine st_s rfl rfl rfl rfl ?_
      refine st_s rfl rfl rfl rfl ?_
      refine o_pickT st rfl rfl rfl ?_
      refine o_mv st rfl rfl ?_
      refine st_s rfl rfl rfl rfl ?_
      refine st_s rfl rfl rfl rfl ?_
      refine st_s rfl rfl rfl rfl ?_
      refine o_pickT st rfl rfl rfl ?_
      refine o_mv st rfl rfl ?_
      refine st_s rfl rfl rfl rfl ?_
      refine st_s rfl rfl rfl rfl ?_
      refine st_s rfl rfl rfl rfl ?_
      refine o_pickT st rfl rfl rfl ?_
      refine c_nil ?_
      exact l_join true (fun a w hE hm => ⟨hE.sub ⟨rfl, rfl, trivial⟩, (hm.pick [0] rfl)⟩)
    · refine o_fad (st_g rfl rfl) rfl rfl fld29_1 rfl ?_
      refine o_ldc (st_g rfl rfl) (v := (.int .i64 p_0.xLength)) 0 rfl rfl rfl ty3 rfl ?_
      refine o_gtr (st_g rfl rfl) rfl rfl rfl ?_
      refine o_pickF st rfl rfl rfl ?_
      refine o_mv st rfl rfl ?_
      refine st_sp (dj := 11) rfl ?_ ?_
      · refine st_s rfl rfl rfl rfl ?_
        refine st_s rfl rfl rfl rfl ?_
        refine st_s rfl rfl rfl rfl ?_
        refine o_pickT st rfl rfl rfl ?_
        refine o_mv st rfl rfl ?_
        refine st_s rfl rfl rfl rfl ?_
        refine st_s rfl rfl rfl rfl ?_
        refine st_s rfl rfl rfl rfl ?_
        refine o_pickT st rfl rfl rfl ?_
        refine c_nil ?_
        exact l_join true (fun a w hE hm => ⟨hE.sub ⟨rfl, rfl, trivial⟩, (hm.pick [0] rfl)⟩)
      · refine o_fad (st_g rfl rfl) rfl rfl fld29_0 rfl ?_
        refine o_ldc (st_g rfl rfl) (v := (.int .i64 p_0.xBase)) 0 rfl rfl rfl ty3 rfl ?_
        refine o_lss (st_g rfl rfl) rfl rfl rfl ?_
        refine o_pickF st rfl rfl rfl ?_
        refine o_mv st rfl rfl ?_
        refine st_sp (dj := 16) rfl ?_ ?_
        · refine st_s rfl rfl rfl rfl ?_
          refine st_s rfl rfl rfl rfl ?_
          refine st_s rfl rfl rfl rfl ?_
          refine o_pickT st rfl rfl rfl ?_
          refine c_nil ?_
          exact l_join true (fun a w hE hm => ⟨hE.sub ⟨rfl, rfl, trivial⟩, (hm.pick [0] rfl)⟩)
        · refine o_fad (st_g rfl rfl) rfl rfl fld29_0 rfl ?_
          refine o_ldc (st_g rfl rfl) (v := (.int .i64 p_0.xBase)) 0 rfl rfl rfl ty3 rfl ?_
          refine o_gtr (st_g rfl rfl) rfl rfl rfl ?_
          refine o_pickF st rfl rfl rfl ?_
          refine c_nil ?_
          exact l_join (decide (65535 < p_0.xBase)) (fun a w hE hm => ⟨hE.sub ⟨rfl, rfl, trivial⟩, (hm.pick [0] rfl)⟩)
  · rintro t63 a w ⟨hE, hm⟩ h
    refine nx_of hE hm h ?_
    clear hE hm h
    refine c_cond rfl ?_ ?_
    · refine c_seq ?_
      refine c_region ?_
      refine o_as st rfl rfl ?_
      refine c_nil ?_
      refine l_then ?_
      refine c_ret ?_
      refine l_ret ?_
      exact l_end1 Tryd.results58 false () (rv_t rfl) (fun _ _ => NewCh.nil _ _ _ _)
    · refine c_skip ?_
      refine l_then ?_
      refine c_seq ?_
      refine c_draw mixed 8 rfl [cellCh b1 [(.int .i64 p_0.xBase), (.int .i64 p_0.xLength)] 29] ?_
      refine o_fad (dt 0 (fun _ m => m)) rfl rfl fld29_0 rfl ?_
      refine o_ldc (dt 1 (fun _ m => m)) (v := (.int .i64 p_0.xBase)) 0 rfl rfl rfl ty3 rfl ?_
      refine o_fad (dt 2 (fun _ m => m)) rfl rfl fld29_1 rfl ?_
      refine o_ldc (dt 3 (fun _ m => m)) (v := (.int .i64 p_0.xLength)) 0 rfl rfl rfl ty3 rfl ?_
      refine d_one (i := 4) rfl (by kernel_rfl) (o_callP (vs := [(.int .i64 p_0.xLength)]) Tryd.call88 rfl rfl (by intro w m h; exact (w_impl_hostMask (F := allB [] w) (length_0 := p_0.xLength) allB_ok h).mono (fun _ _ k => ret_free (fun r u => fr_nil) k)) ?_); rintro r65 _
      refine d_and (fun _ m => m) ?_
      refine o_and (dt 5 (fun _ m => m)) rfl rfl rfl ?_
      refine o_eql (dt 6 (fun _ m => m)) und3 rfl rfl rfl ?_
      refine o_as (dt 7 (fun _ m => m)) rfl rfl ?_
      refine d_done (by kernel_rfl) ?_
      refine l_then ?_
      refine c_ret ?_
      exact l_end1 Tryd.results58 (decide ((bits .and .i64 p_0.xBase r65) = 0)) () (rv_t rfl) (fun _ _ => NewCh.nil _ _ _ _)

set_option maxRecDepth 100000 in
set_option maxHeartbeats 8000000 in
theorem w_impl_PrefixText {w0 : World} {F : Nat → Prop} {p_0 : GPrefix} {κ : ByteArray → Prop} (hF : ∀ b, F b → b < w0.heap.size ∧ ¬ feet [] b) (hgl1 : Tb F w0) (h : L_impl_PrefixText p_0 κ) :
    Calls Tryd.prog 22 #[(.agg #[(.int .i64 p_0.xBase), (.int .i64 p_0.xLength)])] w0 (Ret [] F w0 κ (fun (r : ByteArray) (u : Unit) => (.string r)) (fun (r : ByteArray) (u : Unit) => [])) := by
  refine enterS (args := [(.agg #[(.int .i64 p_0.xBase), (.int .i64 p_0.xLength)])]) [] hF (Given.nil _ _) Tryd.func22 rfl Tryd.ntmps22 rfl h ?_
  clear h hF
  refine c_seq ?_
  refine c_region ?_
  refine stw (o_box rfl rfl [(.int .i64 p_0.xBase), (.int .i64 p_0.xLength)] rfl ?_); intro b1
  refine o_as st rfl rfl ?_
  refine c_nil ?_
  refine l_then ?_
  refine c_seq ?_
  refine c_seq ?_
  refine c_region ?_
  refine o_ldc st (v := (.agg #[(.int .i64 p_0.xBase), (.int .i64 p_0.xLength)])) 0 rfl rfl rfl ty29 rfl ?_
  refine stw (o_callP (vs := [(.agg #[(.int .i64 p_0.xBase), (.int .i64 p_0.xLength)])]) Tryd.call58 rfl rfl (by intro w m h; exact (w_impl_PrefixValid (F := allB [] w) (p_0 := p_0) allB_ok h).mono (fun _ _ k => ret_free (fun r u => fr_nil) k)) ?_); rintro r3 _
  refine o_not st rfl rfl ?_
  refine c_nil ?_
  refine l_then ?_
  refine c_cond rfl ?_ ?_
  · refine c_seq ?_
    refine c_region ?_
    refine o_as st rfl rfl ?_
    refine c_nil ?_
    refine l_then ?_
    refine c_ret ?_
    refine l_ret ?_
    exact l_end1 Tryd.results22 (ByteArray.mk #[]) () (rv_t rfl) (fun _ _ => NewCh.nil _ _ _ _)
  · refine c_skip ?_
    refine l_then ?_
    refine c_seq ?_
    refine c_draw mixed 16 rfl [cellCh b1 [(.int .i64 p_0.xBase), (.int .i64 p_0.xLength)] 29, snapCh w0 F] ?_
    refine o_fad (dt 0 (fun _ m => m)) rfl rfl fld29_0 rfl ?_
    refine o_ldc (dt 1 (fun _ m => m)) (v := (.int .i64 p_0.xBase)) 0 rfl rfl rfl ty3 rfl ?_
    refine o_shr (dt 2 (fun _ m => m)) rfl rfl rfl ?_; intro t4
    refine o_fad (dt 5 (fun _ m => m)) rfl rfl fld29_0 rfl ?_
    refine o_ldc (dt 6 (fun _ m => m)) (v := (.int .i64 p_0.xBase)) 0 rfl rfl rfl ty3 rfl ?_
    refine o_and (dt 7 (fun _ m => m)) rfl rfl rfl ?_
    refine o_fad (dt 11 (fun _ m => m)) rfl rfl fld29_1 rfl ?_
    refine o_ldc (dt 12 (fun _ m => m)) (v := (.int .i64 p_0.xLength)) 0 rfl rfl rfl ty3 rfl ?_
    refine d_one (i := 3) rfl (by kernel_rfl) (o_callP (vs := [(.int .i64 t4)]) Tryd.call61 rfl rfl (by intro w m h; exact w_lib_Itoa (n_0 := t4) (hgl1.of (m.get (i := 1) rfl)) h) ?_); rintro r5 _
    refine d_and (fun _ m => m) ?_
    refine o_cat (dt 4 (fun _ m => m)) rfl rfl rfl ?_; intro s6
    refine d_one (i := 8) rfl (by kernel_rfl) (o_callP (vs := [(.int .i64 (bits .and .i64 p_0.xBase 255))]) Tryd.call61 rfl rfl (by intro w m h; exact w_lib_Itoa (n_0 := (bits .and .i64 p_0.xBase 255)) (hgl1.of (m.get (i := 1) rfl)) h) ?_); rintro r7 _
    refine d_and (fun _ m => m) ?_
    refine o_cat (dt 9 (fun _ m => m)) rfl rfl rfl ?_; intro s8
    refine o_cat (dt 10 (fun _ m => m)) rfl rfl rfl ?_; intro s9
    refine d_one (i := 13) rfl (by kernel_rfl) (o_callP (vs := [(.int .i64 p_0.xLength)]) Tryd.call61 rfl rfl (by intro w m h; exact w_lib_Itoa (n_0 := p_0.xLength) (hgl1.of (m.get (i := 1) rfl)) h) ?_); rintro r10 _
    refine d_and (fun _ m => m) ?_
    refine o_cat (dt 14 (fun _ m => m)) rfl rfl rfl ?_; intro s11
    refine o_as (dt 15 (fun _ m => m)) rfl rfl ?_
    refine d_done (by kernel_rfl) ?_
    refine l_then ?_
    refine c_ret ?_
    exact l_end1 Tryd.results22 s11 () (rv_t rfl) (fun _ _ => NewCh.nil _ _ _ _)

set_option maxRecDepth 100000 in
set_option maxHeartbeats 8000000 in
theorem w_impl_scanner_done {w0 : World} {F : Nat → Prop} {b1 : Nat} {in_0_text : ByteArray} {in_0_at : Int} {κ : Bool → Prop} (hF : ∀ b, F b → b < w0.heap.size ∧ ¬ feet [cellCh b1 [(.string in_0_text), (.int .i64 in_0_at)] 77] b) (hg : Given [cellCh b1 [(.string in_0_text), (.int .i64 in_0_at)] 77] F w0) (h : L_impl_scanner_done in_0_text in_0_at κ) :
    Calls Tryd.prog 67 #[(.pointer (some ⟨b1, 0, none⟩))] w0 (Ret [cellCh b1 [(.string in_0_text), (.int .i64 in_0_at)] 77] F w0 κ (fun (r : Bool) (u : Unit) => (.bool r)) (fun (r : Bool) (u : Unit) => [cellCh b1 [(.string in_0_text), (.int .i64 in_0_at)] 77])) := by
  refine enter0 (args := [(.pointer (some ⟨b1, 0, none⟩))]) [cellCh b1 [(.string in_0_text), (.int .i64 in_0_at)] 77] hF hg Tryd.func67 rfl Tryd.ntmps67 rfl h ?_
  clear h hF hg
  refine c_seq ?_
  refine c_region ?_
  refine o_as st rfl rfl ?_
  refine c_nil ?_
  refine l_then ?_
  refine c_seq ?_
  refine c_draw mixed 11 rfl [cellCh b1 [(.string in_0_text), (.int .i64 in_0_at)] 77] ?_
  refine o_mv (dt 0 (fun _ m => m)) rfl rfl ?_
  refine o_nilc (dt 1 (fun _ m => m)) rfl rfl ?_
  refine o_fad (dt 2 (fun _ m => m)) rfl rfl fld77_1 rfl ?_
  refine o_ldc (dt 3 (fun _ m => m)) (v := (.int .i64 in_0_at)) 0 rfl rfl rfl ty3 rfl ?_
  refine o_mv (dt 4 (fun _ m => m)) rfl rfl ?_
  refine o_nilc (dt 5 (fun _ m => m)) rfl rfl ?_
  refine o_fad (dt 6 (fun _ m => m)) rfl rfl fld77_0 rfl ?_
  refine o_ldc (dt 7 (fun _ m => m)) (v := (.string in_0_text)) 0 rfl rfl rfl ty9 rfl ?_
  refine o_lenS (dt 8 (fun _ m => m)) und9 rfl rfl ?_
  refine o_eql (dt 9 (fun _ m => m)) und3 rfl rfl rfl ?_
  refine o_as (dt 10 (fun _ m => m)) rfl rfl ?_
  refine d_done (by kernel_rfl) ?_
  refine l_then ?_
  refine c_ret ?_
  exact l_end1 Tryd.results67 (decide (in_0_at = (in_0_text.size : Int))) () (rv_t rfl) (fun w m => NewCh.ofB m [0] rfl)

set_option maxRecDepth 100000 in
set_option maxHeartbeats 8000000 in
theorem w_impl_scanner_number {w0 : World} {F : Nat → Prop} {b1 : Nat} {in_0_text : ByteArray} {in_0_at : Int} {κ : (Int × Bool × Int) → Prop} (hF : ∀ b, F b → b < w0.heap.size ∧ ¬ feet [cellCh b1 [(.string in_0_text), (.int .i64 in_0_at)] 77] b) (hg : Given [cellCh b1 [(.string in_0_text), (.int .i64 in_0_at)] 77] F w0) (h : L_impl_scanner_number in_0_text in_0_at κ) :
    Calls Tryd.prog 56 #[(.pointer (some ⟨b1, 0, none⟩))] w0 (Ret [cellCh b1 [(.string in_0_text), (.int .i64 in_0_at)] 77] F w0 κ (fun (r : (Int × Bool × Int)) (u : Unit) => .tuple #[(.int .i64 r.1), (.bool r.2.1)]) (fun (r : (Int × Bool × Int)) (u : Unit) => [cellCh b1 [(.string in_0_text), (.int .i64 r.2.2)] 77])) := by
  refine enter0 (args := [(.pointer (some ⟨b1, 0, none⟩))]) [cellCh b1 [(.string in_0_text), (.int .i64 in_0_at)] 77] hF hg Tryd.func56 rfl Tryd.ntmps56 rfl h ?_
  clear h hF hg
  refine c_seq ?_
  refine c_region ?_
  refine o_as st rfl rfl ?_
  refine o_as st rfl rfl ?_
  refine c_nil ?_
  refine l_then ?_
  refine c_seq ?_
  refine c_region ?_
  refine o_mv st rfl rfl ?_
  refine o_nilc st rfl rfl ?_
  refine o_fad st rfl rfl fld77_1 rfl ?_
  refine o_ldc st (v := (.int .i64 in_0_at)) 0 rfl rfl rfl ty3 rfl ?_
  refine o_as st rfl rfl ?_
  refine c_nil ?_
  refine l_then ?_
  refine c_seq ?_
  refine c_region ?_
  refine o_as st rfl rfl ?_
  refine c_nil ?_
  refine l_then ?_
  refine c_join (σ := (Int × Int)) (fun ((t199, t200) : (Int × Int)) (a : Act) (w : World) => Has 58 [(0, (.pointer (some ⟨b1, 0, none⟩))), (4, (.int .i64 in_0_at)), (5, (.int .i64 t200))] a ∧ Mem (gB F [cellCh b1 [(.string in_0_text), (.int .i64 in_0_at)] 77] w0) (feet [cellCh b1 [(.string in_0_text), (.int .i64 in_0_at)] 77]) w0 [cellCh b1 [(.string in_0_text), (.int .i64 t199)] 77] w) ?_ ?_
  · intro k201
    refine c_block ?_
    refine c_loop (σ := (Int × Int)) (fun ((t3, t4) : (Int × Int)) (a : Act) (w : World) => Has 58 [(0, (.pointer (some ⟨b1, 0, none⟩))), (4, (.int .i64 in_0_at)), (5, (.int .i64 t4))] a ∧ Mem (gB F [cellCh b1 [(.string in_0_text), (.int .i64 in_0_at)] 77] w0) (feet [cellCh b1 [(.string in_0_text), (.int .i64 in_0_at)] 77]) w0 [cellCh b1 [(.string in_0_text), (.int .i64 t3)] 77] w) (fun a w hE hm => ⟨hE.sub ⟨rfl, rfl, rfl, trivial⟩, (hm.pick [0] rfl)⟩) ?_
    rintro nx5 ⟨t3, t4⟩ a w ⟨hE, hm⟩ h
    refine nx_of hE hm h ?_
    clear hE hm h
    refine c_seq ?_
    refine c_join (σ := Bool) (fun (t68 : Bool) (a : Act) (w : World) => Has 58 [(0, (.pointer (some ⟨b1, 0, none⟩))), (4, (.int .i64 in_0_at)), (5, (.int .i64 t4)), (22, (.bool t68))] a ∧ Mem (gB F [cellCh b1 [(.string in_0_text), (.int .i64 in_0_at)] 77] w0) (feet [cellCh b1 [(.string in_0_text), (.int .i64 in_0_at)] 77]) w0 [cellCh b1 [(.string in_0_text), (.int .i64 t3)] 77] w) ?_ ?_
    · intro k69
      refine c_region ?_
      refine o_mv st rfl rfl ?_
      refine stw (o_call (vs := [(.pointer (some ⟨b1, 0, none⟩))]) (M0 := [cellCh b1 [(.string in_0_text), (.int .i64 t3)] 77]) Tryd.call67 rfl rfl (by intro w m h; exact (w_impl_scanner_done (F := allB [cellCh b1 [(.string in_0_text), (.int .i64 t3)] 77] w) (in_0_text := in_0_text) (in_0_at := t3) allB_ok m.given h).mono (fun _ _ k => ret_free (fun r u => (fr_cons free_cell fr_nil)) k)) ?_); rintro r6 _
      refine o_not st rfl rfl ?_
      refine o_mv st rfl rfl ?_
      refine st_sp (dj := 14) rfl ?_ ?_
      · refine o_mv (st_g rfl rfl) rfl rfl ?_
        refine o_nilc (st_g rfl rfl) rfl rfl ?_
        refine o_fad (st_g rfl rfl) rfl rfl fld77_1 rfl ?_
        refine o_ldc (st_g rfl rfl) (v := (.int .i64 t3)) 0 rfl rfl rfl ty3 rfl ?_
        refine o_mv (st_g rfl rfl) rfl rfl ?_
        refine o_add (st_g rfl rfl) rfl rfl rfl ?_; intro t7
        refine o_lss (st_g rfl rfl) rfl rfl rfl ?_
        refine o_pickT st rfl rfl rfl ?_
        refine c_nil ?_
        exact l_join (decide (t3 < t7)) (fun a w hE hm => ⟨hE.sub ⟨rfl, rfl, rfl, rfl, trivial⟩, (hm.pick [0] rfl)⟩)
      · refine st_s rfl rfl rfl rfl ?_
        refine st_s rfl rfl rfl rfl ?_
        refine st_s rfl rfl rfl rfl ?_
        refine st_s rfl rfl rfl rfl ?_
        refine st_s rfl rfl rfl rfl ?_
        refine st_s rfl rfl rfl rfl ?_
        refine st_s rfl rfl rfl rfl ?_
        refine o_pickF st rfl rfl rfl ?_
        refine c_nil ?_
        exact l_join false (fun a w hE hm => ⟨hE.sub ⟨rfl, rfl, rfl, rfl, trivial⟩, (hm.pick [0] rfl)⟩)
    · rintro t68 a w ⟨hE, hm⟩ h
      refine nx_of hE hm h ?_
      clear hE hm h
      refine c_cond rfl ?_ ?_
      · refine c_skip ?_
        refine l_then ?_
        refine c_block ?_
        refine c_seq ?_
        refine c_join1 (σ := UInt8) (fun (t70 : UInt8) (a : Act) (w : World) => Has 58 [(0, (.pointer (some ⟨b1, 0, none⟩))), (4, (.int .i64 in_0_at)), (5, (.int .i64 t4)), (6, (.int .u8 (t70.toNat : Int)))] a ∧ Mem (gB F [cellCh b1 [(.string in_0_text), (.int .i64 in_0_at)] 77] w0) (feet [cellCh b1 [(.string in_0_text), (.int .i64 in_0_at)] 77]) w0 [cellCh b1 [(.string in_0_text), (.int .i64 t3)] 77] w) ?_ ?_
        · intro k71
          refine c_drawQ mixed 10 rfl [cellCh b1 [(.string in_0_text), (.int .i64 t3)] 77] ?_
          intro Qd hP hQ
          refine o_mv (dt 0 (fun _ m => m)) rfl rfl ?_
          refine o_nilc (dt 1 (fun _ m => m)) rfl rfl ?_
          refine o_fad (dt 2 (fun _ m => m)) rfl rfl fld77_0 rfl ?_
          refine o_ldc (dt 3 (fun _ m => m)) (v := (.string in_0_text)) 0 rfl rfl rfl ty9 rfl ?_
          refine o_mv (dt 4 (fun _ m => m)) rfl rfl ?_
          refine o_nilc (dt 5 (fun _ m => m)) rfl rfl ?_
          refine o_fad (dt 6 (fun _ m => m)) rfl rfl fld77_1 rfl ?_
          refine o_ldc (dt 7 (fun _ m => m)) (v := (.int .i64 t3)) 0 rfl rfl rfl ty3 rfl ?_
          refine o_ixs (dt 8 (fun _ m => m)) und9 rfl rfl rfl ?_; intro e72
          refine o_as (dt 9 (fun _ m => m)) rfl rfl ?_
          refine d_done (by kernel_rfl) ?_
          exact fun a w hE hm hφ => hQ e72 a w hφ ((fun a w hE hm => ⟨hE.sub ⟨rfl, rfl, rfl, rfl, trivial⟩, (hm.pick [0] rfl)⟩) a w hE hm)
        · rintro t70 a w ⟨hE, hm⟩ h
          refine nx_of hE hm h ?_
          clear hE hm h
          refine l_then ?_
          refine c_seq ?_
          refine c_join (σ := Bool) (fun (t133 : Bool) (a : Act) (w : World) => Has 58 [(0, (.pointer (some ⟨b1, 0, none⟩))), (4, (.int .i64 in_0_at)), (5, (.int .i64 t4)), (6, (.int .u8 (t70.toNat : Int))), (37, (.bool t133))] a ∧ Mem (gB F [cellCh b1 [(.string in_0_text), (.int .i64 in_0_at)] 77] w0) (feet [cellCh b1 [(.string in_0_text), (.int .i64 in_0_at)] 77]) w0 [cellCh b1 [(.string in_0_text), (.int .i64 t3)] 77] w) ?_ ?_
          · intro k134
            refine c_region ?_
            refine o_mv st rfl rfl ?_
            refine o_lss st rfl rfl rfl ?_
            refine o_mv st rfl rfl ?_
            refine st_sp (dj := 34) rfl ?_ ?_
            · refine st_s rfl rfl rfl rfl ?_
              refine st_s rfl rfl rfl rfl ?_
              refine o_pickT st rfl rfl rfl ?_
              refine c_nil ?_
              exact l_join true (fun a w hE hm => ⟨hE.sub ⟨rfl, rfl, rfl, rfl, rfl, trivial⟩, (hm.pick [0] rfl)⟩)
            · refine o_mv (st_g rfl rfl) rfl rfl ?_
              refine o_gtr (st_g rfl rfl) rfl rfl rfl ?_
              refine o_pickF st rfl rfl rfl ?_
              refine c_nil ?_
              exact l_join (decide (57 < (t70.toNat : Int))) (fun a w hE hm => ⟨hE.sub ⟨rfl, rfl, rfl, rfl, rfl, trivial⟩, (hm.pick [0] rfl)⟩)
          · rintro t133 a w ⟨hE, hm⟩ h
            refine nx_of hE hm h ?_
            clear hE hm h
            refine c_cond rfl ?_ ?_
            · refine c_exit ?_
              refine l_exit ?_
              refine b_pass rfl ?_
              refine l_exit ?_
              refine b_exit ?_
              exact l_join (t3, t4) (fun a w hE hm => ⟨hE.sub ⟨rfl, rfl, rfl, trivial⟩, (hm.pick [0] rfl)⟩)
            · refine c_skip ?_
              refine l_then ?_
              refine c_seq ?_
              refine c_region ?_
              refine o_mv st rfl rfl ?_
              refine o_mul st rfl rfl rfl ?_; intro t135
              refine o_mv st rfl rfl ?_
              refine o_sub8 st rfl rfl rfl ?_; intro t136
              refine o_cnvi st und5 und3 rfl rfl ?_
              refine o_add st rfl rfl rfl ?_; intro t137
              refine o_as st rfl rfl ?_
              refine c_nil ?_
              refine l_then ?_
              refine c_region ?_
              refine o_mv st rfl rfl ?_
              refine o_nilc st rfl rfl ?_
              refine o_fad st rfl rfl fld77_1 rfl ?_
              refine o_ldc st (v := (.int .i64 t3)) 0 rfl rfl rfl ty3 rfl ?_
              refine o_add st rfl rfl rfl ?_; intro t138
              refine o_nilc st rfl rfl ?_
              refine o_fad st rfl rfl fld77_1 rfl ?_
              refine stw (o_stc (cs' := [(.string in_0_text), (.int .i64 t138)]) 0 rfl rfl rfl ty3 rfl rfl rfl rfl ?_)
              refine c_nil ?_
              refine b_norm ?_
              exact l_join (t138, t137) (fun a w hE hm => ⟨hE.sub ⟨rfl, rfl, rfl, trivial⟩, (hm.pick [0] rfl)⟩)
      · refine c_exit ?_
        refine l_exit ?_
        refine l_exit ?_
        refine b_exit ?_
        exact l_join (t3, t4) (fun a w hE hm => ⟨hE.sub ⟨rfl, rfl, rfl, trivial⟩, (hm.pick [0] rfl)⟩)
  · rintro ⟨t199, t200⟩ a w ⟨hE, hm⟩ h
    refine nx_of hE hm h ?_
    clear hE hm h
    refine c_seq ?_
    refine c_draw mixed 9 rfl [cellCh b1 [(.string in_0_text), (.int .i64 t199)] 77] ?_
    refine o_mv (dt 0 (fun _ m => m)) rfl rfl ?_
    refine o_mv (dt 1 (fun _ m => m)) rfl rfl ?_
    refine o_nilc (dt 2 (fun _ m => m)) rfl rfl ?_
    refine o_fad (dt 3 (fun _ m => m)) rfl rfl fld77_1 rfl ?_
    refine o_ldc (dt 4 (fun _ m => m)) (v := (.int .i64 t199)) 0 rfl rfl rfl ty3 rfl ?_
    refine o_mv (dt 5 (fun _ m => m)) rfl rfl ?_
    refine o_gtr (dt 6 (fun _ m => m)) rfl rfl rfl ?_
    refine o_as (dt 7 (fun _ m => m)) rfl rfl ?_
    refine o_as (dt 8 (fun _ m => m)) rfl rfl ?_
    refine d_done (by kernel_rfl) ?_
    refine l_then ?_
    refine c_ret ?_
    exact l_end2 Tryd.results56 (t200, (decide (in_0_at < t199)), t199) () (rv_t rfl) (rv_t rfl) rfl (fun w m => NewCh.ofB m [0] rfl)

set_option maxRecDepth 100000 in
set_option maxHeartbeats 8000000 in
theorem w_impl_scanner_word {w0 : World} {F : Nat → Prop} {b1 : Nat} {in_0_text : ByteArray} {in_0_at : Int} {w_1 : ByteArray} {κ : (Bool × Int) → Prop} (hF : ∀ b, F b → b < w0.heap.size ∧ ¬ feet [cellCh b1 [(.string in_0_text), (.int .i64 in_0_at)] 77] b) (hg : Given [cellCh b1 [(.string in_0_text), (.int .i64 in_0_at)] 77] F w0) (h : L_impl_scanner_word in_0_text in_0_at w_1 κ) :
    Calls Tryd.prog 57 #[(.pointer (some ⟨b1, 0, none⟩)), (.string w_1)] w0 (Ret [cellCh b1 [(.string in_0_text), (.int .i64 in_0_at)] 77] F w0 κ (fun (r : (Bool × Int)) (u : Unit) => (.bool r.1)) (fun (r : (Bool × Int)) (u : Unit) => [cellCh b1 [(.string in_0_text), (.int .i64 r.2)] 77])) := by
  refine enter0 (args := [(.pointer (some ⟨b1, 0, none⟩)), (.string w_1)]) [cellCh b1 [(.string in_0_text), (.int .i64 in_0_at)] 77] hF hg Tryd.func57 rfl Tryd.ntmps57 rfl h ?_
  clear h hF hg
  refine c_seq ?_
  refine c_region ?_
  refine o_as st rfl rfl ?_
  refine c_nil ?_
  refine l_then ?_
  refine c_seq ?_
  refine c_seq ?_
  refine c_join1 (σ := Bool) (fun (t3 : Bool) (a : Act) (w : World) => Has 26 [(0, (.pointer (some ⟨b1, 0, none⟩))), (1, (.string w_1)), (16, (.bool t3))] a ∧ Mem (gB F [cellCh b1 [(.string in_0_text), (.int .i64 in_0_at)] 77] w0) (feet [cellCh b1 [(.string in_0_text), (.int .i64 in_0_at)] 77]) w0 [cellCh b1 [(.string in_0_text), (.int .i64 in_0_at)] 77] w) ?_ ?_
  · intro k4
    refine c_drawQ mixed 12 rfl [cellCh b1 [(.string in_0_text), (.int .i64 in_0_at)] 77] ?_
    intro Qd hP hQ
    have H25 : ∀ (s5 : ByteArray) (r6 : Bool), Nx 26 (gB F [cellCh b1 [(.string in_0_text), (.int .i64 in_0_at)] 77] w0) (feet [cellCh b1 [(.string in_0_text), (.int .i64 in_0_at)] 77]) w0 (wpAnyH Tryd.prog .any (opsAt Tryd.f57 [1, 0, 0]) Qd (Mem (gB F [cellCh b1 [(.string in_0_text), (.int .i64 in_0_at)] 77] w0) (feet [cellCh b1 [(.string in_0_text), (.int .i64 in_0_at)] 77]) w0 [cellCh b1 [(.string in_0_text), (.int .i64 in_0_at)] 77]) 1 #[true, true, true, true, true, true, true, true, true, true, true, false]) [(0, (.pointer (some ⟨b1, 0, none⟩))), (1, (.string w_1)), (15, (.bool r6))] [cellCh b1 [(.string in_0_text), (.int .i64 in_0_at)] 77] (k4 (!r6)) := by
      intro s5 r6
      refine o_not (dt 11 (fun _ m => m)) rfl rfl ?_
      refine d_done (by kernel_rfl) ?_
      exact fun a w hE hm hφ => hQ (!r6) a w hφ ((fun a w hE hm => ⟨hE.sub ⟨rfl, rfl, rfl, trivial⟩, (hm.pick [0] rfl)⟩) a w hE hm)
    refine o_mv (dt 0 (fun _ m => m)) rfl rfl ?_
    refine o_nilc (dt 1 (fun _ m => m)) rfl rfl ?_
    refine o_fad (dt 2 (fun _ m => m)) rfl rfl fld77_0 rfl ?_
    refine o_ldc (dt 3 (fun _ m => m)) (v := (.string in_0_text)) 0 rfl rfl rfl ty9 rfl ?_
    refine o_mv (dt 4 (fun _ m => m)) rfl rfl ?_
    refine o_nilc (dt 5 (fun _ m => m)) rfl rfl ?_
    refine o_fad (dt 6 (fun _ m => m)) rfl rfl fld77_1 rfl ?_
    refine o_ldc (dt 7 (fun _ m => m)) (v := (.int .i64 in_0_at)) 0 rfl rfl rfl ty3 rfl ?_
    refine o_sls (dt 8 (fun _ m => m)) und9 rfl rfl rfl rfl ?_; intro s5
    refine o_mv (dt 9 (fun _ m => m)) rfl rfl ?_
    refine d_one (i := 10) rfl (by kernel_rfl) (o_callP (vs := [(.string s5), (.string w_1)]) Tryd.call87 rfl rfl (by intro w m h; exact w_lib_HasPrefix (s_0 := s5) (p_1 := w_1) h) ?_); rintro r6 _
    refine d_and (fun _ m => m) ?_
    refine pk [0] rfl ?_
    refine re (E' := [(0, (.pointer (some ⟨b1, 0, none⟩))), (1, (.string w_1)), (15, (.bool r6))]) ⟨rfl, rfl, rfl, trivial⟩ ?_
    exact H25 s5 r6
  · rintro t3 a w ⟨hE, hm⟩ h
    refine nx_of hE hm h ?_
    clear hE hm h
    refine l_then ?_
    refine c_cond rfl ?_ ?_
    · refine c_seq ?_
      refine c_region ?_
      refine o_as st rfl rfl ?_
      refine c_nil ?_
      refine l_then ?_
      refine c_ret ?_
      refine l_ret ?_
      exact l_end1 Tryd.results57 (false, in_0_at) () (rv_t rfl) (fun w m => NewCh.ofB m [0] rfl)
    · refine c_skip ?_
      refine l_then ?_
      refine c_seq ?_
      refine c_region ?_
      refine o_mv st rfl rfl ?_
      refine o_nilc st rfl rfl ?_
      refine o_fad st rfl rfl fld77_1 rfl ?_
      refine o_ldc st (v := (.int .i64 in_0_at)) 0 rfl rfl rfl ty3 rfl ?_
      refine o_mv st rfl rfl ?_
      refine o_lenS st und9 rfl rfl ?_
      refine o_add st rfl rfl rfl ?_; intro t7
      refine o_nilc st rfl rfl ?_
      refine o_fad st rfl rfl fld77_1 rfl ?_
      refine stw (o_stc (cs' := [(.string in_0_text), (.int .i64 t7)]) 0 rfl rfl rfl ty3 rfl rfl rfl rfl ?_)
      refine c_nil ?_
      refine l_then ?_
      refine c_seq ?_
      refine c_region ?_
      refine o_as st rfl rfl ?_
      refine c_nil ?_
      refine l_then ?_
      refine c_ret ?_
      exact l_end1 Tryd.results57 (true, t7) () (rv_t rfl) (fun w m => NewCh.ofB m [0] rfl)

set_option maxRecDepth 100000 in
set_option maxHeartbeats 8000000 in
theorem w_impl_ReadPrefix {w0 : World} {F : Nat → Prop} {s_0 : ByteArray} {κ : (GPrefix × Bool) → Prop} (hF : ∀ b, F b → b < w0.heap.size ∧ ¬ feet [] b) (hgl1 : Tb F w0) (h : L_impl_ReadPrefix s_0 κ) :
    Calls Tryd.prog 19 #[(.string s_0)] w0 (Ret [] F w0 κ (fun (r : (GPrefix × Bool)) (u : Unit) => .tuple #[(.agg #[(.int .i64 r.1.xBase), (.int .i64 r.1.xLength)]), (.bool r.2)]) (fun (r : (GPrefix × Bool)) (u : Unit) => [])) := by
  refine enterS (args := [(.string s_0)]) [] hF (Given.nil _ _) Tryd.func19 rfl Tryd.ntmps19 rfl h ?_
  clear h hF
  refine c_seq ?_
  refine c_region ?_
  refine stw (o_alloc rfl [(.int .i64 0), (.int .i64 0)] zero29 ?_); intro b1
  refine o_as st rfl rfl ?_
  refine c_nil ?_
  refine l_then ?_
  refine c_seq ?_
  refine c_region ?_
  refine o_mv st rfl rfl ?_
  refine o_bld st (qs := [(0, (.string s_0))]) (cells := [(.string s_0), (.int .i64 0)]) (by intro ρ h; simp only [List.map_toArray, List.map_cons, List.map_nil, h (.tmp 14) _ rfl]) rfl bld77 rfl ?_
  refine stw (o_alloc rfl [(.string (ByteArray.mk #[])), (.int .i64 0)] zero77 ?_); intro b3
  refine stw (o_stc (cs' := [(.string s_0), (.int .i64 0)]) 0 rfl rfl rfl ty77 rfl rfl rfl rfl ?_)
  refine c_nil ?_
  refine l_then ?_
  refine c_seq ?_
  refine c_region ?_
  refine stw (o_call (vs := [(.pointer (some ⟨b3, 0, none⟩))]) (M0 := [cellCh b3 [(.string s_0), (.int .i64 0)] 77]) Tryd.call56 rfl rfl (by intro w m h; exact (w_impl_scanner_number (F := allB [cellCh b3 [(.string s_0), (.int .i64 0)] 77] w) (in_0_text := s_0) (in_0_at := 0) allB_ok m.given h).mono (fun _ _ k => ret_free (fun r u => (fr_cons free_cell fr_nil)) k)) ?_); rintro ⟨r5, r6, r7⟩ _
  refine o_mv st rfl rfl ?_
  refine o_ext st (vs := [(.int .i64 r5), (.bool r6)]) rfl rfl rfl ?_
  refine o_ext st (vs := [(.int .i64 r5), (.bool r6)]) rfl rfl rfl ?_
  refine o_as st rfl rfl ?_
  refine o_as st rfl rfl ?_
  refine c_nil ?_
  refine l_then ?_
  refine c_seq ?_
  refine c_region ?_
  refine stw (o_call (vs := [(.pointer (some ⟨b3, 0, none⟩)), (.string (ByteArray.mk #[46]))]) (M0 := [cellCh b3 [(.string s_0), (.int .i64 r7)] 77]) Tryd.call57 rfl rfl (by intro w m h; exact (w_impl_scanner_word (F := allB [cellCh b3 [(.string s_0), (.int .i64 r7)] 77] w) (in_0_text := s_0) (in_0_at := r7) (w_1 := (ByteArray.mk #[46])) allB_ok m.given h).mono (fun _ _ k => ret_free (fun r u => (fr_cons free_cell fr_nil)) k)) ?_); rintro ⟨r8, r9⟩ _
  refine o_as st rfl rfl ?_
  refine c_nil ?_
  refine l_then ?_
  refine c_seq ?_
  refine c_region ?_
  refine stw (o_call (vs := [(.pointer (some ⟨b3, 0, none⟩))]) (M0 := [cellCh b3 [(.string s_0), (.int .i64 r9)] 77]) Tryd.call56 rfl rfl (by intro w m h; exact (w_impl_scanner_number (F := allB [cellCh b3 [(.string s_0), (.int .i64 r9)] 77] w) (in_0_text := s_0) (in_0_at := r9) allB_ok m.given h).mono (fun _ _ k => ret_free (fun r u => (fr_cons free_cell fr_nil)) k)) ?_); rintro ⟨r10, r11, r12⟩ _
  refine o_mv st rfl rfl ?_
  refine o_ext st (vs := [(.int .i64 r10), (.bool r11)]) rfl rfl rfl ?_
  refine o_ext st (vs := [(.int .i64 r10), (.bool r11)]) rfl rfl rfl ?_
  refine o_as st rfl rfl ?_
  refine o_as st rfl rfl ?_
  refine c_nil ?_
  refine l_then ?_
  refine c_seq ?_
  refine c_region ?_
  refine stw (o_call (vs := [(.pointer (some ⟨b3, 0, none⟩)), (.string (ByteArray.mk #[47]))]) (M0 := [cellCh b3 [(.string s_0), (.int .i64 r12)] 77]) Tryd.call57 rfl rfl (by intro w m h; exact (w_impl_scanner_word (F := allB [cellCh b3 [(.string s_0), (.int .i64 r12)] 77] w) (in_0_text := s_0) (in_0_at := r12) (w_1 := (ByteArray.mk #[47])) allB_ok m.given h).mono (fun _ _ k => ret_free (fun r u => (fr_cons free_cell fr_nil)) k)) ?_); rintro ⟨r13, r14⟩ _
  refine o_as st rfl rfl ?_
  refine c_nil ?_
  refine l_then ?_
  refine c_seq ?_
  refine c_region ?_
  refine stw (o_call (vs := [(.pointer (some ⟨b3, 0, none⟩))]) (M0 := [cellCh b3 [(.string s_0), (.int .i64 r14)] 77]) Tryd.call56 rfl rfl (by intro w m h; exact (w_impl_scanner_number (F := allB [cellCh b3 [(.string s_0), (.int .i64 r14)] 77] w) (in_0_text := s_0) (in_0_at := r14) allB_ok m.given h).mono (fun _ _ k => ret_free (fun r u => (fr_cons free_cell fr_nil)) k)) ?_); rintro ⟨r15, r16, r17⟩ _
  refine o_mv st rfl rfl ?_
  refine o_ext st (vs := [(.int .i64 r15), (.bool r16)]) rfl rfl rfl ?_
  refine o_ext st (vs := [(.int .i64 r15), (.bool r16)]) rfl rfl rfl ?_
  refine o_as st rfl rfl ?_
  refine o_as st rfl rfl ?_
  refine c_nil ?_
  refine l_then ?_
  refine c_seq ?_
  refine c_join (σ := Bool) (fun (t78 : Bool) (a : Act) (w : World) => Has 66 [(0, (.string s_0)), (2, (.pointer (some ⟨b1, 0, none⟩))), (5, (.int .i64 r5)), (8, (.int .i64 r10)), (11, (.int .i64 r15)), (47, (.bool t78))] a ∧ Mem (gB F [] w0) (feet []) w0 [cellCh b1 [(.int .i64 0), (.int .i64 0)] 29, snapCh w0 F] w) ?_ ?_
  · intro k79
    refine c_region ?_
    refine o_mv st rfl rfl ?_
    refine o_not st rfl rfl ?_
    refine o_mv st rfl rfl ?_
    refine st_sp (dj := 32) rfl ?_ ?_
    · refine st_s rfl rfl rfl rfl ?_
      refine st_s rfl rfl rfl rfl ?_
      refine o_pickT st rfl rfl rfl ?_
      refine o_mv st rfl rfl ?_
      refine st_s rfl rfl rfl rfl ?_
      refine st_s rfl rfl rfl rfl ?_
      refine o_pickT st rfl rfl rfl ?_
      refine o_mv st rfl rfl ?_
      refine st_s rfl rfl rfl rfl ?_
      refine st_s rfl rfl rfl rfl ?_
      refine o_pickT st rfl rfl rfl ?_
      refine o_mv st rfl rfl ?_
      refine st_s rfl rfl rfl rfl ?_
      refine st_s rfl rfl rfl rfl ?_
      refine o_pickT st rfl rfl rfl ?_
      refine c_nil ?_
      exact l_join true (fun a w hE hm => ⟨hE.sub ⟨rfl, rfl, rfl, rfl, rfl, rfl, trivial⟩, (hm.pick [1, 2] rfl)⟩)
    · refine o_mv (st_g rfl rfl) rfl rfl ?_
      refine o_not (st_g rfl rfl) rfl rfl ?_
      refine o_pickF st rfl rfl rfl ?_
      refine o_mv st rfl rfl ?_
      refine st_sp (dj := 36) rfl ?_ ?_
      · refine st_s rfl rfl rfl rfl ?_
        refine st_s rfl rfl rfl rfl ?_
        refine o_pickT st rfl rfl rfl ?_
        refine o_mv st rfl rfl ?_
        refine st_s rfl rfl rfl rfl ?_
        refine st_s rfl rfl rfl rfl ?_
        refine o_pickT st rfl rfl rfl ?_
        refine o_mv st rfl rfl ?_
        refine st_s rfl rfl rfl rfl ?_
        refine st_s rfl rfl rfl rfl ?_
        refine o_pickT st rfl rfl rfl ?_
        refine c_nil ?_
        exact l_join true (fun a w hE hm => ⟨hE.sub ⟨rfl, rfl, rfl, rfl, rfl, rfl, trivial⟩, (hm.pick [1, 2] rfl)⟩)
      · refine o_mv (st_g rfl rfl) rfl rfl ?_
        refine o_not (st_g rfl rfl) rfl rfl ?_
        refine o_pickF st rfl rfl rfl ?_
        refine o_mv st rfl rfl ?_
        refine st_sp (dj := 40) rfl ?_ ?_
        · refine st_s rfl rfl rfl rfl ?_
          refine st_s rfl rfl rfl rfl ?_
          refine o_pickT st rfl rfl rfl ?_
          refine o_mv st rfl rfl ?_
          refine st_s rfl rfl rfl rfl ?_
          refine st_s rfl rfl rfl rfl ?_
          refine o_pickT st rfl rfl rfl ?_
          refine c_nil ?_
          exact l_join true (fun a w hE hm => ⟨hE.sub ⟨rfl, rfl, rfl, rfl, rfl, rfl, trivial⟩, (hm.pick [1, 2] rfl)⟩)
        · refine o_mv (st_g rfl rfl) rfl rfl ?_
          refine o_not (st_g rfl rfl) rfl rfl ?_
          refine o_pickF st rfl rfl rfl ?_
          refine o_mv st rfl rfl ?_
          refine st_sp (dj := 44) rfl ?_ ?_
          · refine st_s rfl rfl rfl rfl ?_
            refine st_s rfl rfl rfl rfl ?_
            refine o_pickT st rfl rfl rfl ?_
            refine c_nil ?_
            exact l_join true (fun a w hE hm => ⟨hE.sub ⟨rfl, rfl, rfl, rfl, rfl, rfl, trivial⟩, (hm.pick [1, 2] rfl)⟩)
          · refine o_mv (st_g rfl rfl) rfl rfl ?_
            refine o_not (st_g rfl rfl) rfl rfl ?_
            refine o_pickF st rfl rfl rfl ?_
            refine c_nil ?_
            exact l_join (!r16) (fun a w hE hm => ⟨hE.sub ⟨rfl, rfl, rfl, rfl, rfl, rfl, trivial⟩, (hm.pick [1, 2] rfl)⟩)
  · rintro t78 a w ⟨hE, hm⟩ h
    refine nx_of hE hm h ?_
    clear hE hm h
    refine c_cond rfl ?_ ?_
    · refine c_seq ?_
      refine c_region ?_
      refine o_bld st (qs := []) (cells := [(.int .i64 0), (.int .i64 0)]) (by intro ρ h; simp only [List.map_toArray, List.map_cons, List.map_nil]) rfl bld29 rfl ?_
      refine stw (o_stc (cs' := [(.int .i64 0), (.int .i64 0)]) 0 rfl rfl rfl ty29 rfl rfl rfl rfl ?_)
      refine o_as st rfl rfl ?_
      refine c_nil ?_
      refine l_then ?_
      refine c_ret ?_
      refine l_ret ?_
      exact l_end2 Tryd.results19 ((GPrefix.mk 0 0), false) () (rv_c 0 rfl rfl ty29 rfl) (rv_t rfl) rfl (fun _ _ => NewCh.nil _ _ _ _)
    · refine c_skip ?_
      refine l_then ?_
      refine c_seq ?_
      refine c_region ?_
      refine o_mv st rfl rfl ?_
      refine o_shl st rfl rfl rfl ?_; intro t80
      refine o_mv st rfl rfl ?_
      refine o_add st rfl rfl rfl ?_; intro t81
      refine o_mv st rfl rfl ?_
      refine o_bld st (qs := [(0, (.int .i64 t81)), (1, (.int .i64 r15))]) (cells := [(.int .i64 t81), (.int .i64 r15)]) (by intro ρ h; simp only [List.map_toArray, List.map_cons, List.map_nil, h (.tmp 52) _ rfl, h (.tmp 53) _ rfl]) rfl bld29 rfl ?_
      refine stw (o_alloc rfl [(.int .i64 0), (.int .i64 0)] zero29 ?_); intro b82
      refine stw (o_stc (cs' := [(.int .i64 t81), (.int .i64 r15)]) 0 rfl rfl rfl ty29 rfl rfl rfl rfl ?_)
      refine c_nil ?_
      refine l_then ?_
      refine c_seq ?_
      refine c_join (σ := Bool) (fun (t146 : Bool) (a : Act) (w : World) => Has 66 [(2, (.pointer (some ⟨b1, 0, none⟩))), (13, (.pointer (some ⟨b82, 0, none⟩))), (63, (.bool t146))] a ∧ Mem (gB F [] w0) (feet []) w0 [cellCh b82 [(.int .i64 t81), (.int .i64 r15)] 29, cellCh b1 [(.int .i64 0), (.int .i64 0)] 29, snapCh w0 F] w) ?_ ?_
      · intro k147
        refine c_region ?_
        refine o_ldc st (v := (.agg #[(.int .i64 t81), (.int .i64 r15)])) 0 rfl rfl rfl ty29 rfl ?_
        refine stw (o_callP (vs := [(.agg #[(.int .i64 t81), (.int .i64 r15)])]) Tryd.call58 rfl rfl (by intro w m h; exact (w_impl_PrefixValid (F := allB [] w) (p_0 := (GPrefix.mk t81 r15)) allB_ok h).mono (fun _ _ k => ret_free (fun r u => fr_nil) k)) ?_); rintro r84 _
        refine o_not st rfl rfl ?_
        refine o_mv st rfl rfl ?_
        refine st_sp (dj := 58) rfl ?_ ?_
        · refine st_s rfl rfl rfl rfl ?_
          refine st_s rfl rfl rfl rfl ?_
          refine st_s rfl rfl rfl rfl ?_
          refine st_s rfl rfl rfl rfl ?_
          refine o_pickT st rfl rfl rfl ?_
          refine c_nil ?_
          exact l_join true (fun a w hE hm => ⟨hE.sub ⟨rfl, rfl, rfl, trivial⟩, (hm.pick [0, 1, 2] rfl)⟩)
        · refine o_ldc (st_g rfl rfl) (v := (.agg #[(.int .i64 t81), (.int .i64 r15)])) 0 rfl rfl rfl ty29 rfl ?_
          refine st_gw rfl rfl (o_callP (vs := [(.agg #[(.int .i64 t81), (.int .i64 r15)])]) Tryd.call22 rfl rfl (by intro w m h; exact (w_impl_PrefixText (F := allB [] w) (p_0 := (GPrefix.mk t81 r15)) allB_ok ((hgl1.of (m.get (i := 2) rfl)).mono fz_ok0) h).mono (fun _ _ k => ret_free (fun r u => fr_nil) k)) ?_); rintro r85 _
          refine o_mv (st_g rfl rfl) rfl rfl ?_
          refine o_neqS (st_g rfl rfl) und9 rfl rfl rfl ?_
          refine o_pickF st rfl rfl rfl ?_
          refine c_nil ?_
          exact l_join (!(decide (r85 = s_0))) (fun a w hE hm => ⟨hE.sub ⟨rfl, rfl, rfl, trivial⟩, (hm.pick [0, 1, 2] rfl)⟩)
      · rintro t146 a w ⟨hE, hm⟩ h
        refine nx_of hE hm h ?_
        clear hE hm h
        refine c_cond rfl ?_ ?_
        · refine c_seq ?_
          refine c_region ?_
          refine o_bld st (qs := []) (cells := [(.int .i64 0), (.int .i64 0)]) (by intro ρ h; simp only [List.map_toArray, List.map_cons, List.map_nil]) rfl bld29 rfl ?_
          refine stw (o_stc (cs' := [(.int .i64 0), (.int .i64 0)]) 1 rfl rfl rfl ty29 rfl rfl rfl rfl ?_)
          refine o_as st rfl rfl ?_
          refine c_nil ?_
          refine l_then ?_
          refine c_ret ?_
          refine l_ret ?_
          exact l_end2 Tryd.results19 ((GPrefix.mk 0 0), false) () (rv_c 1 rfl rfl ty29 rfl) (rv_t rfl) rfl (fun _ _ => NewCh.nil _ _ _ _)
        · refine c_skip ?_
          refine l_then ?_
          refine c_seq ?_
          refine c_region ?_
          refine o_ldc st (v := (.agg #[(.int .i64 t81), (.int .i64 r15)])) 0 rfl rfl rfl ty29 rfl ?_
          refine stw (o_stc (cs' := [(.int .i64 t81), (.int .i64 r15)]) 1 rfl rfl rfl ty29 rfl rfl rfl rfl ?_)
          refine o_as st rfl rfl ?_
          refine c_nil ?_
          refine l_then ?_
          refine c_ret ?_
          exact l_end2 Tryd.results19 ((GPrefix.mk t81 r15), true) () (rv_c 1 rfl rfl ty29 rfl) (rv_t rfl) rfl (fun _ _ => NewCh.nil _ _ _ _)

set_option maxRecDepth 100000 in
set_option maxHeartbeats 8000000 in
theorem w_laws_eqPrefix {w0 : World} {F : Nat → Prop} {a_0 : GPrefix} {b_1 : GPrefix} {κ : Bool → Prop} (hF : ∀ b, F b → b < w0.heap.size ∧ ¬ feet [] b) (h : L_laws_eqPrefix a_0 b_1 κ) :
    Calls Tryd.prog 20 #[(.agg #[(.int .i64 a_0.xBase), (.int .i64 a_0.xLength)]), (.agg #[(.int .i64 b_1.xBase), (.int .i64 b_1.xLength)])] w0 (Ret [] F w0 κ (fun (r : Bool) (u : Unit) => (.bool r)) (fun (r : Bool) (u : Unit) => [])) := by
  refine enter0 (args := [(.agg #[(.int .i64 a_0.xBase), (.int .i64 a_0.xLength)]), (.agg #[(.int .i64 b_1.xBase), (.int .i64 b_1.xLength)])]) [] hF (Given.nil _ _) Tryd.func20 rfl Tryd.ntmps20 rfl h ?_
  clear h hF
  refine c_seq ?_
  refine c_region ?_
  refine stw (o_box rfl rfl [(.int .i64 a_0.xBase), (.int .i64 a_0.xLength)] rfl ?_); intro b1
  refine stw (o_box rfl rfl [(.int .i64 b_1.xBase), (.int .i64 b_1.xLength)] rfl ?_); intro b3
  refine o_as st rfl rfl ?_
  refine c_nil ?_
  refine l_then ?_
  refine c_seq ?_
  refine c_seq ?_
  refine c_region ?_
  refine o_fad st rfl rfl fld29_0 rfl ?_
  refine o_ldc st (v := (.int .i64 a_0.xBase)) 1 rfl rfl rfl ty3 rfl ?_
  refine o_fad st rfl rfl fld29_0 rfl ?_
  refine o_ldc st (v := (.int .i64 b_1.xBase)) 0 rfl rfl rfl ty3 rfl ?_
  refine o_neq st und3 rfl rfl rfl ?_
  refine c_nil ?_
  refine l_then ?_
  refine c_cond rfl ?_ ?_
  · refine c_seq ?_
    refine c_region ?_
    refine o_as st rfl rfl ?_
    refine c_nil ?_
    refine l_then ?_
    refine c_ret ?_
    refine l_ret ?_
    exact l_end1 Tryd.results20 false () (rv_t rfl) (fun _ _ => NewCh.nil _ _ _ _)
  · refine c_skip ?_
    refine l_then ?_
    refine c_seq ?_
    refine c_seq ?_
    refine c_region ?_
    refine o_fad st rfl rfl fld29_1 rfl ?_
    refine o_ldc st (v := (.int .i64 a_0.xLength)) 1 rfl rfl rfl ty3 rfl ?_
    refine o_fad st rfl rfl fld29_1 rfl ?_
    refine o_ldc st (v := (.int .i64 b_1.xLength)) 0 rfl rfl rfl ty3 rfl ?_
    refine o_neq st und3 rfl rfl rfl ?_
    refine c_nil ?_
    refine l_then ?_
    refine c_cond rfl ?_ ?_
    · refine c_seq ?_
      refine c_region ?_
      refine o_as st rfl rfl ?_
      refine c_nil ?_
      refine l_then ?_
      refine c_ret ?_
      refine l_ret ?_
      exact l_end1 Tryd.results20 false () (rv_t rfl) (fun _ _ => NewCh.nil _ _ _ _)
    · refine c_skip ?_
      refine l_then ?_
      refine c_seq ?_
      refine c_region ?_
      refine o_as st rfl rfl ?_
      refine c_nil ?_
      refine l_then ?_
      refine c_ret ?_
      exact l_end1 Tryd.results20 true () (rv_t rfl) (fun _ _ => NewCh.nil _ _ _ _)

set_option maxRecDepth 100000 in
set_option maxHeartbeats 8000000 in
theorem w_laws_FnExactReadPrefix {w0 : World} {F : Nat → Prop} {aS_0 : ByteArray} {κ : Bool → Prop} (hF : ∀ b, F b → b < w0.heap.size ∧ ¬ feet [] b) (hgl1 : Tb F w0) (h : L_laws_FnExactReadPrefix aS_0 κ) :
    Calls Tryd.prog 4 #[(.string aS_0)] w0 (Ret [] F w0 κ (fun (r : Bool) (u : Unit) => (.bool r)) (fun (r : Bool) (u : Unit) => [])) := by
  refine enterS (args := [(.string aS_0)]) [] hF (Given.nil _ _) Tryd.func4 rfl Tryd.ntmps4 rfl h ?_
  clear h hF
  refine c_seq ?_
  refine c_region ?_
  refine o_as st rfl rfl ?_
  refine c_nil ?_
  refine l_then ?_
  refine c_seq ?_
  refine c_seq ?_
  refine c_region ?_
  refine o_mv st rfl rfl ?_
  refine o_lenS st und9 rfl rfl ?_
  refine o_gtr st rfl rfl rfl ?_
  refine c_nil ?_
  refine l_then ?_
  refine c_cond rfl ?_ ?_
  · refine c_seq ?_
    refine c_region ?_
    refine o_as st rfl rfl ?_
    refine c_nil ?_
    refine l_then ?_
    refine c_ret ?_
    refine l_ret ?_
    exact l_end1 Tryd.results4 true () (rv_t rfl) (fun _ _ => NewCh.nil _ _ _ _)
  · refine c_skip ?_
    refine l_then ?_
    refine c_seq ?_
    refine c_region ?_
    refine o_mv st rfl rfl ?_
    refine stw (o_callP (vs := [(.string aS_0)]) Tryd.call18 rfl rfl (by intro w m h; exact (w_spec_ReadPrefix (F := allB [] w) (s_0 := aS_0) allB_ok h).mono (fun _ _ k => ret_free (fun r u => fr_nil) k)) ?_); rintro ⟨r1, r2⟩ _
    refine o_mv st rfl rfl ?_
    refine o_ext st (vs := [(.agg #[(.int .i64 r1.xBase), (.int .i64 r1.xLength)]), (.bool r2)]) rfl rfl rfl ?_
    refine o_ext st (vs := [(.agg #[(.int .i64 r1.xBase), (.int .i64 r1.xLength)]), (.bool r2)]) rfl rfl rfl ?_
    refine stw (o_alloc rfl [(.int .i64 0), (.int .i64 0)] zero29 ?_); intro b3
    refine stw (o_stc (cs' := [(.int .i64 r1.xBase), (.int .i64 r1.xLength)]) 0 rfl rfl rfl ty29 rfl rfl rfl rfl ?_)
    refine o_as st rfl rfl ?_
    refine c_nil ?_
    refine l_then ?_
    refine c_seq ?_
    refine c_region ?_
    refine o_mv st rfl rfl ?_
    refine stw (o_callP (vs := [(.string aS_0)]) Tryd.call19 rfl rfl (by intro w m h; exact (w_impl_ReadPrefix (F := allB [] w) (s_0 := aS_0) allB_ok ((hgl1.of (m.get (i := 1) rfl)).mono fz_ok0) h).mono (fun _ _ k => ret_free (fun r u => fr_nil) k)) ?_); rintro ⟨r5, r6⟩ _
    refine o_mv st rfl rfl ?_
    refine o_ext st (vs := [(.agg #[(.int .i64 r5.xBase), (.int .i64 r5.xLength)]), (.bool r6)]) rfl rfl rfl ?_
    refine o_ext st (vs := [(.agg #[(.int .i64 r5.xBase), (.int .i64 r5.xLength)]), (.bool r6)]) rfl rfl rfl ?_
    refine stw (o_alloc rfl [(.int .i64 0), (.int .i64 0)] zero29 ?_); intro b7
    refine stw (o_stc (cs' := [(.int .i64 r5.xBase), (.int .i64 r5.xLength)]) 0 rfl rfl rfl ty29 rfl rfl rfl rfl ?_)
    refine o_as st rfl rfl ?_
    refine c_nil ?_
    refine l_then ?_
    refine c_seq ?_
    refine c_join (σ := Bool) (fun (t70 : Bool) (a : Act) (w : World) => Has 29 [(28, (.bool t70))] a ∧ Mem (gB F [] w0) (feet []) w0 [snapCh w0 F] w) ?_ ?_
    · intro k71
      refine c_region ?_
      refine o_ldc st (v := (.agg #[(.int .i64 r5.xBase), (.int .i64 r5.xLength)])) 0 rfl rfl rfl ty29 rfl ?_
      refine o_ldc st (v := (.agg #[(.int .i64 r1.xBase), (.int .i64 r1.xLength)])) 1 rfl rfl rfl ty29 rfl ?_
      refine stw (o_callP (vs := [(.agg #[(.int .i64 r5.xBase), (.int .i64 r5.xLength)]), (.agg #[(.int .i64 r1.xBase), (.int .i64 r1.xLength)])]) Tryd.call20 rfl rfl (by intro w m h; exact (w_laws_eqPrefix (F := allB [] w) (a_0 := r5) (b_1 := r1) allB_ok h).mono (fun _ _ k => ret_free (fun r u => fr_nil) k)) ?_); rintro r9 _
      refine o_not st rfl rfl ?_
      refine o_mv st rfl rfl ?_
      refine st_sp (dj := 24) rfl ?_ ?_
      · refine st_s rfl rfl rfl rfl ?_
        refine st_s rfl rfl rfl rfl ?_
        refine st_s rfl rfl rfl rfl ?_
        refine o_pickT st rfl rfl rfl ?_
        refine c_nil ?_
        exact l_join true (fun a w hE hm => ⟨hE.sub ⟨rfl, trivial⟩, (hm.pick [2] rfl)⟩)
      · refine o_mv (st_g rfl rfl) rfl rfl ?_
        refine o_mv (st_g rfl rfl) rfl rfl ?_
        refine o_neqB (st_g rfl rfl) und4 rfl rfl rfl ?_
        refine o_pickF st rfl rfl rfl ?_
        refine c_nil ?_
        exact l_join (!(decide (r6 = r2))) (fun a w hE hm => ⟨hE.sub ⟨rfl, trivial⟩, (hm.pick [2] rfl)⟩)
    · rintro t70 a w ⟨hE, hm⟩ h
      refine nx_of hE hm h ?_
      clear hE hm h
      refine c_cond rfl ?_ ?_
      · refine c_seq ?_
        refine c_region ?_
        refine o_as st rfl rfl ?_
        refine c_nil ?_
        refine l_then ?_
        refine c_ret ?_
        refine l_ret ?_
        exact l_end1 Tryd.results4 false () (rv_t rfl) (fun _ _ => NewCh.nil _ _ _ _)
      · refine c_skip ?_
        refine l_then ?_
        refine c_seq ?_
        refine c_region ?_
        refine o_as st rfl rfl ?_
        refine c_nil ?_
        refine l_then ?_
        refine c_ret ?_
        exact l_end1 Tryd.results4 true () (rv_t rfl) (fun _ _ => NewCh.nil _ _ _ _)

set_option maxRecDepth 100000 in
set_option maxHeartbeats 8000000 in
theorem w_spec_l20Rd_pick {w0 : World} {F : Nat → Prop} {b1 : Nat} {v2 : Value} {r_0_b : (List UInt8)} {r_0_p : Int} {n_1 : Int} {κ : (Int × Int) → Prop} (hF : ∀ b, F b → b < w0.heap.size ∧ ¬ feet [cellCh b1 [v2, (.int .i64 r_0_p)] 111] b) (hg : Given [cellCh b1 [v2, (.int .i64 r_0_p)] 111] F w0) (hv2 : Sl elU8 F w0 v2 r_0_b) (h : L_spec_l20Rd_pick r_0_b r_0_p n_1 κ) :
    Calls Tryd.prog 65 #[(.pointer (some ⟨b1, 0, none⟩)), (.int .i64 n_1)] w0 (Ret [cellCh b1 [v2, (.int .i64 r_0_p)] 111] F w0 κ (fun (r : (Int × Int)) (u : Unit) => (.int .i64 r.1)) (fun (r : (Int × Int)) (u : Unit) => [cellCh b1 [v2, (.int .i64 r.2)] 111])) := by
  refine enterS (args := [(.pointer (some ⟨b1, 0, none⟩)), (.int .i64 n_1)]) [cellCh b1 [v2, (.int .i64 r_0_p)] 111] hF hg Tryd.func65 rfl Tryd.ntmps65 rfl h ?_
  clear h hF hg
  refine c_seq ?_
  refine c_region ?_
  refine o_as st rfl rfl ?_
  refine c_nil ?_
  refine l_then ?_
  refine c_seq ?_
  refine c_region ?_
  refine o_mv st rfl rfl ?_
  refine o_mv st rfl rfl ?_
  refine o_nilc st rfl rfl ?_
  refine o_fad st rfl rfl fld111_1 rfl ?_
  refine o_ldc st (v := (.int .i64 r_0_p)) 0 rfl rfl rfl ty3 rfl ?_
  refine o_add st rfl rfl rfl ?_; intro t5
  refine o_nilc st rfl rfl ?_
  refine o_fad st rfl rfl fld111_1 rfl ?_
  refine stw (o_stc (cs' := [v2, (.int .i64 t5)]) 0 rfl rfl rfl ty3 rfl rfl rfl rfl ?_)
  refine c_nil ?_
  refine l_then ?_
  refine c_seq ?_
  refine c_join (σ := Bool) (fun (t66 : Bool) (a : Act) (w : World) => Has 99 [(0, (.pointer (some ⟨b1, 0, none⟩))), (1, (.int .i64 n_1)), (24, (.bool t66))] a ∧ Mem (gB F [cellCh b1 [v2, (.int .i64 r_0_p)] 111] w0) (feet [cellCh b1 [v2, (.int .i64 r_0_p)] 111]) w0 [cellCh b1 [v2, (.int .i64 t5)] 111, snapCh w0 F] w) ?_ ?_
  · intro k67
    refine c_region ?_
    refine o_mv st rfl rfl ?_
    refine o_lss st rfl rfl rfl ?_
    refine o_mv st rfl rfl ?_
    refine st_sp (dj := 17) rfl ?_ ?_
    · refine st_s rfl rfl rfl rfl ?_
      refine st_s rfl rfl rfl rfl ?_
      refine st_s rfl rfl rfl rfl ?_
      refine st_s rfl rfl rfl rfl ?_
      refine st_s rfl rfl rfl rfl ?_
      refine st_s rfl rfl rfl rfl ?_
      refine o_pickT st rfl rfl rfl ?_
      refine c_nil ?_
      exact l_join true (fun a w hE hm => ⟨hE.sub ⟨rfl, rfl, rfl, trivial⟩, (hm.pick [0, 1] rfl)⟩)
    · refine o_mv (st_g rfl rfl) rfl rfl ?_
      refine o_nilc (st_g rfl rfl) rfl rfl ?_
      refine o_fad (st_g rfl rfl) rfl rfl fld111_0 rfl ?_
      refine o_ldc (st_g rfl rfl) (v := v2) 0 rfl rfl rfl ty34 rfl ?_
      refine o_len (st_g rfl rfl) el34 1 rfl (reads_snap hv2) rfl rfl ?_
      refine o_eql (st_g rfl rfl) und3 rfl rfl rfl ?_
      refine o_pickF st rfl rfl rfl ?_
      refine c_nil ?_
      exact l_join (decide ((r_0_b.length : Int) = 0)) (fun a w hE hm => ⟨hE.sub ⟨rfl, rfl, rfl, trivial⟩, (hm.pick [0, 1] rfl)⟩)
  · rintro t66 a w ⟨hE, hm⟩ h
    refine nx_of hE hm h ?_
    clear hE hm h
    refine c_cond rfl ?_ ?_
    · refine c_seq ?_
      refine c_region ?_
      refine o_as st rfl rfl ?_
      refine c_nil ?_
      refine l_then ?_
      refine c_ret ?_
      refine l_ret ?_
      exact l_end1 Tryd.results65 (0, t5) () (rv_t rfl) (fun w m => NewCh.ofB m [0] rfl)
    · refine c_skip ?_
      refine l_then ?_
      refine c_seq ?_
      refine c_region ?_
      refine o_mv st rfl rfl ?_
      refine o_nilc st rfl rfl ?_
      refine o_fad st rfl rfl fld111_1 rfl ?_
      refine o_ldc st (v := (.int .i64 t5)) 0 rfl rfl rfl ty3 rfl ?_
      refine o_sub st rfl rfl rfl ?_; intro t68
      refine o_as st rfl rfl ?_
      refine c_nil ?_
      refine l_then ?_
      refine c_seq ?_
      refine c_seq ?_
      refine c_region ?_
      refine o_mv st rfl rfl ?_
      refine o_mv st rfl rfl ?_
      refine o_nilc st rfl rfl ?_
      refine o_fad st rfl rfl fld111_0 rfl ?_
      refine o_ldc st (v := v2) 0 rfl rfl rfl ty34 rfl ?_
      refine o_len st el34 1 rfl (reads_snap hv2) rfl rfl ?_
      refine o_lss st rfl rfl rfl ?_
      refine c_nil ?_
      refine l_then ?_
      refine c_cond rfl ?_ ?_
      · refine c_seq ?_
        refine c_region ?_
        refine o_mv st rfl rfl ?_
        refine o_nilc st rfl rfl ?_
        refine o_fad st rfl rfl fld111_0 rfl ?_
        refine o_ldc st (v := v2) 0 rfl rfl rfl ty34 rfl ?_
        refine o_mv st rfl rfl ?_
        refine o_idx st 1 rfl (reads_snap hv2) rfl rfl rfl el34 ?_; intro e69 h70
        refine o_lds st (enc := encU8) (u := (.int .u8 (e69.toNat : Int))) 1 rfl (reads_snap hv2) flelU8 rfl h70 rfl rfl ty5 rfl ?_
        refine o_cnvI st und5 und3 rfl rfl ?_
        refine o_mv st rfl rfl ?_
        refine o_rem st rfl rfl rfl ?_; intro t71
        refine o_as st rfl rfl ?_
        refine c_nil ?_
        refine l_then ?_
        refine c_ret ?_
        refine l_ret ?_
        exact l_end1 Tryd.results65 (t71, t5) () (rv_t rfl) (fun w m => NewCh.ofB m [0] rfl)
      · refine c_skip ?_
        refine l_then ?_
        refine c_seq ?_
        refine c_draw mixed 46 rfl [cellCh b1 [v2, (.int .i64 t5)] 111, snapCh w0 F] ?_
        refine o_mv (dt 0 (fun _ m => m)) rfl rfl ?_
        refine o_nilc (dt 1 (fun _ m => m)) rfl rfl ?_
        refine o_fad (dt 2 (fun _ m => m)) rfl rfl fld111_0 rfl ?_
        refine o_ldc (dt 3 (fun _ m => m)) (v := v2) 0 rfl rfl rfl ty34 rfl ?_
        refine o_mv (dt 4 (fun _ m => m)) rfl rfl ?_
        refine o_mv (dt 5 (fun _ m => m)) rfl rfl ?_
        refine o_nilc (dt 6 (fun _ m => m)) rfl rfl ?_
        refine o_fad (dt 7 (fun _ m => m)) rfl rfl fld111_0 rfl ?_
        refine o_ldc (dt 8 (fun _ m => m)) (v := v2) 0 rfl rfl rfl ty34 rfl ?_
        refine o_len (dt 9 (fun _ m => m)) el34 1 rfl (reads_snap hv2) rfl rfl ?_
        refine o_rem (dt 10 (fun _ m => m)) rfl rfl rfl ?_; intro t72
        refine o_idx (dt 11 (fun _ m => m)) 1 rfl (reads_snap hv2) rfl rfl rfl el34 ?_; intro e73 h74
        refine o_lds (dt 12 (fun _ m => m)) (enc := encU8) (u := (.int .u8 (e73.toNat : Int))) 1 rfl (reads_snap hv2) flelU8 rfl h74 rfl rfl ty5 rfl ?_
        refine o_cnvI (dt 13 (fun _ m => m)) und5 und3 rfl rfl ?_
        refine o_mul (dt 14 (fun _ m => m)) rfl rfl rfl ?_; intro t75
        refine o_mv (dt 15 (fun _ m => m)) rfl rfl ?_
        refine o_nilc (dt 16 (fun _ m => m)) rfl rfl ?_
        refine o_fad (dt 17 (fun _ m => m)) rfl rfl fld111_0 rfl ?_
        refine o_ldc (dt 18 (fun _ m => m)) (v := v2) 0 rfl rfl rfl ty34 rfl ?_
        refine o_mv (dt 19 (fun _ m => m)) rfl rfl ?_
        refine o_mul (dt 20 (fun _ m => m)) rfl rfl rfl ?_; intro t76
        refine o_add (dt 21 (fun _ m => m)) rfl rfl rfl ?_; intro t77
        refine o_mv (dt 22 (fun _ m => m)) rfl rfl ?_
        refine o_nilc (dt 23 (fun _ m => m)) rfl rfl ?_
        refine o_fad (dt 24 (fun _ m => m)) rfl rfl fld111_0 rfl ?_
        refine o_ldc (dt 25 (fun _ m => m)) (v := v2) 0 rfl rfl rfl ty34 rfl ?_
        refine o_len (dt 26 (fun _ m => m)) el34 1 rfl (reads_snap hv2) rfl rfl ?_
        refine o_rem (dt 27 (fun _ m => m)) rfl rfl rfl ?_; intro t78
        refine o_idx (dt 28 (fun _ m => m)) 1 rfl (reads_snap hv2) rfl rfl rfl el34 ?_; intro e79 h80
        refine o_lds (dt 29 (fun _ m => m)) (enc := encU8) (u := (.int .u8 (e79.toNat : Int))) 1 rfl (reads_snap hv2) flelU8 rfl h80 rfl rfl ty5 rfl ?_
        refine o_cnvI (dt 30 (fun _ m => m)) und5 und3 rfl rfl ?_
        refine o_mul (dt 31 (fun _ m => m)) rfl rfl rfl ?_; intro t81
        refine o_add (dt 32 (fun _ m => m)) rfl rfl rfl ?_; intro t82
        refine o_mv (dt 33 (fun _ m => m)) rfl rfl ?_
        refine o_mul (dt 34 (fun _ m => m)) rfl rfl rfl ?_; intro t83
        refine o_add (dt 35 (fun _ m => m)) rfl rfl rfl ?_; intro t84
        refine o_mv (dt 36 (fun _ m => m)) rfl rfl ?_
        refine o_mv (dt 37 (fun _ m => m)) rfl rfl ?_
        refine o_nilc (dt 38 (fun _ m => m)) rfl rfl ?_
        refine o_fad (dt 39 (fun _ m => m)) rfl rfl fld111_0 rfl ?_
        refine o_ldc (dt 40 (fun _ m => m)) (v := v2) 0 rfl rfl rfl ty34 rfl ?_
        refine o_len (dt 41 (fun _ m => m)) el34 1 rfl (reads_snap hv2) rfl rfl ?_
        refine o_quo (dt 42 (fun _ m => m)) rfl rfl rfl ?_; intro t85
        refine o_mul (dt 43 (fun _ m => m)) rfl rfl rfl ?_; intro t86
        refine o_add (dt 44 (fun _ m => m)) rfl rfl rfl ?_; intro t87
        refine o_as (dt 45 (fun _ m => m)) rfl rfl ?_
        refine d_done (by kernel_rfl) ?_
        refine l_then ?_
        refine c_seq ?_
        refine c_region ?_
        refine o_mv st rfl rfl ?_
        refine o_mv st rfl rfl ?_
        refine o_quo st rfl rfl rfl ?_; intro t88
        refine o_xor st rfl rfl rfl ?_; intro t89
        refine o_as st rfl rfl ?_
        refine c_nil ?_
        refine l_then ?_
        refine c_seq ?_
        refine c_region ?_
        refine o_mv st rfl rfl ?_
        refine o_mv st rfl rfl ?_
        refine o_rem st rfl rfl rfl ?_; intro t90
        refine o_as st rfl rfl ?_
        refine c_nil ?_
        refine l_then ?_
        refine c_ret ?_
        exact l_end1 Tryd.results65 (t90, t5) () (rv_t rfl) (fun w m => NewCh.ofB m [0] rfl)

set_option maxRecDepth 100000 in
set_option maxHeartbeats 8000000 in
theorem w_spec_l20Rd_odd {w0 : World} {F : Nat → Prop} {b1 : Nat} {v2 : Value} {r_0_b : (List UInt8)} {r_0_p : Int} {n_1 : Int} {κ : (Bool × Int) → Prop} (hF : ∀ b, F b → b < w0.heap.size ∧ ¬ feet [cellCh b1 [v2, (.int .i64 r_0_p)] 111] b) (hg : Given [cellCh b1 [v2, (.int .i64 r_0_p)] 111] F w0) (hv2 : Sl elU8 F w0 v2 r_0_b) (h : L_spec_l20Rd_odd r_0_b r_0_p n_1 κ) :
    Calls Tryd.prog 64 #[(.pointer (some ⟨b1, 0, none⟩)), (.int .i64 n_1)] w0 (Ret [cellCh b1 [v2, (.int .i64 r_0_p)] 111] F w0 κ (fun (r : (Bool × Int)) (u : Unit) => (.bool r.1)) (fun (r : (Bool × Int)) (u : Unit) => [cellCh b1 [v2, (.int .i64 r.2)] 111])) := by
  refine enterS (args := [(.pointer (some ⟨b1, 0, none⟩)), (.int .i64 n_1)]) [cellCh b1 [v2, (.int .i64 r_0_p)] 111] hF hg Tryd.func64 rfl Tryd.ntmps64 rfl h ?_
  clear h hF hg
  refine c_seq ?_
  refine c_region ?_
  refine o_as st rfl rfl ?_
  refine c_nil ?_
  refine l_then ?_
  refine c_join (σ := (Int × Bool)) (fun ((t68, t69) : (Int × Bool)) (a : Act) (w : World) => Has 15 [(4, (.bool t69))] a ∧ Mem (gB F [cellCh b1 [v2, (.int .i64 r_0_p)] 111] w0) (feet [cellCh b1 [v2, (.int .i64 r_0_p)] 111]) w0 [cellCh b1 [v2, (.int .i64 t68)] 111, snapCh w0 F] w) ?_ ?_
  · intro k70
    refine c_region ?_
    refine o_mv st rfl rfl ?_
    refine o_gtr st rfl rfl rfl ?_
    refine o_mv st rfl rfl ?_
    refine st_sp (dj := 7) rfl ?_ ?_
    · refine o_mv (st_g rfl rfl) rfl rfl ?_
      refine o_mv (st_g rfl rfl) rfl rfl ?_
      refine st_gw rfl rfl (o_call (vs := [(.pointer (some ⟨b1, 0, none⟩)), (.int .i64 n_1)]) (M0 := [cellCh b1 [v2, (.int .i64 r_0_p)] 111]) Tryd.call65 rfl rfl (by intro w m h; exact (w_spec_l20Rd_pick (F := allB [cellCh b1 [v2, (.int .i64 r_0_p)] 111] w) (r_0_b := r_0_b) (r_0_p := r_0_p) (n_1 := n_1) allB_ok m.given (m.rdM 0 rfl (reads_snap hv2)) h).mono (fun _ _ k => ret_free (fun r u => (fr_cons free_cell fr_nil)) k)) ?_); rintro ⟨r5, r6⟩ _
      refine o_mv (st_g rfl rfl) rfl rfl ?_
      refine o_sub (st_g rfl rfl) rfl rfl rfl ?_; intro t7
      refine o_eql (st_g rfl rfl) und3 rfl rfl rfl ?_
      refine o_pickT st rfl rfl rfl ?_
      refine o_as st rfl rfl ?_
      refine c_nil ?_
      exact l_join (r6, (decide (r5 = t7))) (fun a w hE hm => ⟨hE.sub ⟨rfl, trivial⟩, (hm.pick [0, 1] rfl)⟩)
    · refine st_s rfl rfl rfl rfl ?_
      refine st_s rfl rfl rfl rfl ?_
      refine st_s rfl rfl rfl rfl ?_
      refine st_s rfl rfl rfl rfl ?_
      refine st_s rfl rfl rfl rfl ?_
      refine st_s rfl rfl rfl rfl ?_
      refine o_pickF st rfl rfl rfl ?_
      refine o_as st rfl rfl ?_
      refine c_nil ?_
      exact l_join (r_0_p, false) (fun a w hE hm => ⟨hE.sub ⟨rfl, trivial⟩, (hm.pick [0, 1] rfl)⟩)
  · rintro ⟨t68, t69⟩ a w ⟨hE, hm⟩ h
    refine nx_of hE hm h ?_
    clear hE hm h
    refine c_ret ?_
    exact l_end1 Tryd.results64 (t69, t68) () (rv_t rfl) (fun w m => NewCh.ofB m [0] rfl)


end Go.Proofs.YtnogaeckmiekdaaDoor
