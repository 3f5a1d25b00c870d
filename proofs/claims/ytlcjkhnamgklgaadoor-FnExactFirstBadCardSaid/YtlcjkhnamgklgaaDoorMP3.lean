/- Texts of this seat, put together. -/
import Derived.Test.YtlcjkhnamgklgaaDoorRows
import Derived.Test.YtlcjkhnamgklgaaDoorMP2
import Derived.Test.YtlcjkhnamgklgaaDoorLibS
import Derived.Test.YtlcjkhnamgklgaaDoorMA1
set_option linter.unusedSimpArgs false
set_option linter.unusedVariables false
namespace Go.Proofs.YtlcjkhnamgklgaaDoor
section
open Go.RowKit
theorem arr103 : arrB Tryd.prog 103 = some (5, 4, false, 1) := by kernel_rfl
theorem arr104 : arrB Tryd.prog 104 = some (5, 3, false, 1) := by kernel_rfl
theorem arr123 : arrB Tryd.prog 123 = some (4, 122, true, 2) := by kernel_rfl
theorem bld115 : bldB Tryd.prog 115 = some (#[(0, 1)], [(.bool false)]) := by kernel_rfl
theorem bld117 : bldB Tryd.prog 117 = some (#[(0, 1)], [(.int .i64 0)]) := by kernel_rfl
theorem bld119 : bldB Tryd.prog 119 = some (#[], []) := by kernel_rfl
theorem bld120 : bldB Tryd.prog 120 = some (#[], []) := by kernel_rfl
theorem bld133 : bldB Tryd.prog 133 = some (#[(0, 1), (1, 1)], [(.string (ByteArray.mk #[])), (.int .i64 0)]) := by kernel_rfl
theorem bld30 : bldB Tryd.prog 30 = some (#[(0, 1), (1, 1)], [(.slice none 0 0), (.bool false)]) := by kernel_rfl
theorem bld54 : bldB Tryd.prog 54 = some (#[(0, 1), (1, 1), (2, 1)], [(.slice none 0 0), (.int .i64 0), (.int .i64 0)]) := by kernel_rfl
theorem bld84 : bldB Tryd.prog 84 = some (#[(0, 1), (1, 1), (2, 1), (3, 1)], [(.int .i64 0), (.int .i64 0), (.int .i64 0), (.bool false)]) := by kernel_rfl
theorem el26 : elB Tryd.prog 26 = some (9, 1, 16) := by kernel_rfl
theorem el28 : elB Tryd.prog 28 = some (50, 1, 24) := by kernel_rfl
theorem el40 : elB Tryd.prog 40 = some (5, 1, 1) := by kernel_rfl
theorem el50 : elB Tryd.prog 50 = some (54, 3, 40) := by kernel_rfl
theorem el52 : elB Tryd.prog 52 = some (84, 4, 32) := by kernel_rfl
theorem el67 : elB Tryd.prog 67 = some (3, 1, 8) := by kernel_rfl
theorem el97 : elB Tryd.prog 97 = some (4, 1, 1) := by kernel_rfl
theorem fld115_0 : fldB Tryd.prog 115 0 = some (0, false, 1) := by kernel_rfl
theorem fld122_0 : fldB Tryd.prog 122 0 = some (0, false, 1) := by kernel_rfl
theorem fld122_1 : fldB Tryd.prog 122 1 = some (1, false, 1) := by kernel_rfl
theorem fld133_0 : fldB Tryd.prog 133 0 = some (0, false, 1) := by kernel_rfl
theorem fld133_1 : fldB Tryd.prog 133 1 = some (1, false, 1) := by kernel_rfl
theorem fld30_0 : fldB Tryd.prog 30 0 = some (0, false, 1) := by kernel_rfl
theorem fld30_1 : fldB Tryd.prog 30 1 = some (1, false, 1) := by kernel_rfl
theorem fld54_0 : fldB Tryd.prog 54 0 = some (0, false, 1) := by kernel_rfl
theorem fld54_1 : fldB Tryd.prog 54 1 = some (1, false, 1) := by kernel_rfl
theorem fld54_2 : fldB Tryd.prog 54 2 = some (2, false, 1) := by kernel_rfl
theorem fld60_0 : fldB Tryd.prog 60 0 = some (0, false, 1) := by kernel_rfl
theorem fld60_1 : fldB Tryd.prog 60 1 = some (1, true, 2) := by kernel_rfl
theorem fld84_0 : fldB Tryd.prog 84 0 = some (0, false, 1) := by kernel_rfl
theorem fld84_1 : fldB Tryd.prog 84 1 = some (1, false, 1) := by kernel_rfl
theorem fld84_2 : fldB Tryd.prog 84 2 = some (2, false, 1) := by kernel_rfl
theorem fld84_3 : fldB Tryd.prog 84 3 = some (3, false, 1) := by kernel_rfl
theorem meth115_word (v : Value) (w : World) : (method (Tryd.prog.types.size + Made.depth) 115 v "loop.example/packetfilter/impl.word").run Tryd.prog w = .ok (137, v) w := by kernel_rfl
theorem meth117_word (v : Value) (w : World) : (method (Tryd.prog.types.size + Made.depth) 117 v "loop.example/packetfilter/impl.word").run Tryd.prog w = .ok (140, v) w := by kernel_rfl
theorem meth119_word (v : Value) (w : World) : (method (Tryd.prog.types.size + Made.depth) 119 v "loop.example/packetfilter/impl.word").run Tryd.prog w = .ok (143, v) w := by kernel_rfl
theorem meth120_word (v : Value) (w : World) : (method (Tryd.prog.types.size + Made.depth) 120 v "loop.example/packetfilter/impl.word").run Tryd.prog w = .ok (146, v) w := by kernel_rfl
theorem mki115 : ∀ v w, (Instr.makeInterface 115 v).run Tryd.prog w = .ok (.iface 115 v) w := fun v w => by kernel_rfl
theorem mki117 : ∀ v w, (Instr.makeInterface 117 v).run Tryd.prog w = .ok (.iface 117 v) w := fun v w => by kernel_rfl
theorem mki119 : ∀ v w, (Instr.makeInterface 119 v).run Tryd.prog w = .ok (.iface 119 v) w := fun v w => by kernel_rfl
theorem mki120 : ∀ v w, (Instr.makeInterface 120 v).run Tryd.prog w = .ok (.iface 120 v) w := fun v w => by kernel_rfl
theorem ty103 : tyB Tryd.prog 103 = some (true, 5) := by kernel_rfl
theorem ty133 : tyB Tryd.prog 133 = some (true, 2) := by kernel_rfl
theorem ty28 : tyB Tryd.prog 28 = some (false, 1) := by kernel_rfl
theorem ty3 : tyB Tryd.prog 3 = some (false, 1) := by kernel_rfl
theorem ty30 : tyB Tryd.prog 30 = some (true, 2) := by kernel_rfl
theorem ty4 : tyB Tryd.prog 4 = some (false, 1) := by kernel_rfl
theorem ty50 : tyB Tryd.prog 50 = some (false, 1) := by kernel_rfl
theorem ty52 : tyB Tryd.prog 52 = some (false, 1) := by kernel_rfl
theorem ty54 : tyB Tryd.prog 54 = some (true, 3) := by kernel_rfl
theorem ty84 : tyB Tryd.prog 84 = some (true, 4) := by kernel_rfl
theorem ty9 : tyB Tryd.prog 9 = some (false, 1) := by kernel_rfl
theorem und3 : Tryd.prog.underlying 3 = some (.int .i64) := by kernel_rfl
theorem und40 : Tryd.prog.underlying 40 = some (.slice 5) := by kernel_rfl
theorem und5 : Tryd.prog.underlying 5 = some (.int .u8) := by kernel_rfl
theorem und9 : Tryd.prog.underlying 9 = some .string := by kernel_rfl
theorem zero103 : zeroB Tryd.prog 103 = some [(.bool false), (.bool false), (.bool false), (.bool false), (.bool false)] := by kernel_rfl
theorem zero104 : zeroB Tryd.prog 104 = some [(.int .i64 0), (.int .i64 0), (.int .i64 0), (.int .i64 0), (.int .i64 0)] := by kernel_rfl
theorem zero133 : zeroB Tryd.prog 133 = some [(.string (ByteArray.mk #[])), (.int .i64 0)] := by kernel_rfl
theorem zero3 : zeroB Tryd.prog 3 = some [(.int .i64 0)] := by kernel_rfl
theorem zero30 : zeroB Tryd.prog 30 = some [(.slice none 0 0), (.bool false)] := by kernel_rfl
theorem zero4 : zeroB Tryd.prog 4 = some [(.bool false)] := by kernel_rfl
theorem zero5 : zeroB Tryd.prog 5 = some [(.int .u8 0)] := by kernel_rfl
theorem zero50 : zeroB Tryd.prog 50 = some [(.slice none 0 0)] := by kernel_rfl
theorem zero54 : zeroB Tryd.prog 54 = some [(.slice none 0 0), (.int .i64 0), (.int .i64 0)] := by kernel_rfl
theorem zero60 : zeroB Tryd.prog 60 = some [(.int .i64 0), (.slice none 0 0), (.bool false)] := by kernel_rfl
theorem zero84 : zeroB Tryd.prog 84 = some [(.int .i64 0), (.int .i64 0), (.int .i64 0), (.bool false)] := by kernel_rfl
theorem zero9 : zeroB Tryd.prog 9 = some [(.string (ByteArray.mk #[]))] := by kernel_rfl
theorem mixed : Tryd.prog.follows .mixedOrders = true := by kernel_rfl

set_option maxRecDepth 100000 in
set_option maxHeartbeats 8000000 in
theorem w_spec_l1In {w0 : World} {F : Nat → Prop} {n_0 : Int} {lo_1 : Int} {hi_2 : Int} {κ : Bool → Prop} (hF : ∀ b, F b → b < w0.heap.size ∧ ¬ feet [] b) (h : L_spec_l1In n_0 lo_1 hi_2 κ) :
    Calls Tryd.prog 47 #[(.int .i64 n_0), (.int .i64 lo_1), (.int .i64 hi_2)] w0 (Ret [] F w0 κ (fun (r : Bool) (u : Unit) => (.bool r)) (fun (r : Bool) (u : Unit) => [])) := by
  refine enter0 (args := [(.int .i64 n_0), (.int .i64 lo_1), (.int .i64 hi_2)]) [] hF (Given.nil _ _) Tryd.func47 rfl Tryd.ntmps47 rfl h ?_
  clear h hF
  refine c_seq ?_
  refine c_region ?_
  refine o_as st rfl rfl ?_
  refine c_nil ?_
  refine l_then ?_
  refine c_join (σ := Bool) (fun (t61 : Bool) (a : Act) (w : World) => Has 15 [(6, (.bool t61))] a ∧ Mem (gB F [] w0) (feet []) w0 [] w) ?_ ?_
  · intro k62
    refine c_region ?_
    refine o_mv st rfl rfl ?_
    refine o_mv st rfl rfl ?_
    refine o_geq st rfl rfl rfl ?_
    refine o_mv st rfl rfl ?_
    refine st_sp (dj := 10) rfl ?_ ?_
    · refine o_mv (st_g rfl rfl) rfl rfl ?_
      refine o_mv (st_g rfl rfl) rfl rfl ?_
      refine o_leq (st_g rfl rfl) rfl rfl rfl ?_
      refine o_pickT st rfl rfl rfl ?_
      refine o_as st rfl rfl ?_
      refine c_nil ?_
      exact l_join (decide (n_0 ≤ hi_2)) (fun a w hE hm => ⟨hE.sub ⟨rfl, trivial⟩, (hm.pick [] rfl)⟩)
    · refine st_s rfl rfl rfl rfl ?_
      refine st_s rfl rfl rfl rfl ?_
      refine st_s rfl rfl rfl rfl ?_
      refine o_pickF st rfl rfl rfl ?_
      refine o_as st rfl rfl ?_
      refine c_nil ?_
      exact l_join false (fun a w hE hm => ⟨hE.sub ⟨rfl, trivial⟩, (hm.pick [] rfl)⟩)
  · rintro t61 a w ⟨hE, hm⟩ h
    refine nx_of hE hm h ?_
    clear hE hm h
    refine c_ret ?_
    exact l_end1 Tryd.results47 t61 () (rv_t rfl) (fun _ _ => NewCh.nil _ _ _ _)

set_option maxRecDepth 100000 in
set_option maxHeartbeats 8000000 in
theorem w_spec_FieldTop {w0 : World} {F : Nat → Prop} {n_0 : Int} {κ : Int → Prop} (hF : ∀ b, F b → b < w0.heap.size ∧ ¬ feet [] b) (h : L_spec_FieldTop n_0 κ) :
    Calls Tryd.prog 90 #[(.int .i64 n_0)] w0 (Ret [] F w0 κ (fun (r : Int) (u : Unit) => (.int .i64 r)) (fun (r : Int) (u : Unit) => [])) := by
  refine enter0 (args := [(.int .i64 n_0)]) [] hF (Given.nil _ _) Tryd.func90 rfl Tryd.ntmps90 rfl h ?_
  clear h hF
  refine c_seq ?_
  refine c_region ?_
  refine o_as st rfl rfl ?_
  refine c_nil ?_
  refine l_then ?_
  refine c_seq ?_
  refine c_seq ?_
  refine c_region ?_
  refine o_mv st rfl rfl ?_
  refine c_nil ?_
  refine l_then ?_
  refine c_block ?_
  refine c_join (σ := Bool) (fun (t61 : Bool) (a : Act) (w : World) => Has 11 [(3, (.int .i64 n_0)), (4, (.bool t61))] a ∧ Mem (gB F [] w0) (feet []) w0 [] w) ?_ ?_
  · intro k62
    refine c_seq ?_
    refine c_region ?_
    refine o_eql st und3 rfl rfl rfl ?_
    refine o_as st rfl rfl ?_
    refine c_nil ?_
    refine l_then ?_
    refine c_cond rfl ?_ ?_
    · refine c_skip ?_
      exact l_join (decide (n_0 = 0)) (fun a w hE hm => ⟨hE.sub ⟨rfl, rfl, trivial⟩, (hm.pick [] rfl)⟩)
    · refine c_region ?_
      refine o_eql st und3 rfl rfl rfl ?_
      refine o_as st rfl rfl ?_
      refine c_nil ?_
      exact l_join (decide (n_0 = 1)) (fun a w hE hm => ⟨hE.sub ⟨rfl, rfl, trivial⟩, (hm.pick [] rfl)⟩)
  · rintro t61 a w ⟨hE, hm⟩ h
    refine nx_of hE hm h ?_
    clear hE hm h
    refine c_cond rfl ?_ ?_
    · refine c_seq ?_
      refine c_region ?_
      refine o_as st rfl rfl ?_
      refine c_nil ?_
      refine l_then ?_
      refine c_ret ?_
      refine b_ret ?_
      refine l_ret ?_
      exact l_end1 Tryd.results90 65535 () (rv_t rfl) (fun _ _ => NewCh.nil _ _ _ _)
    · refine c_seq ?_
      refine c_region ?_
      refine o_eql st und3 rfl rfl rfl ?_
      refine o_as st rfl rfl ?_
      refine c_nil ?_
      refine l_then ?_
      refine c_cond rfl ?_ ?_
      · refine c_seq ?_
        refine c_region ?_
        refine o_as st rfl rfl ?_
        refine c_nil ?_
        refine l_then ?_
        refine c_ret ?_
        refine b_ret ?_
        refine l_ret ?_
        exact l_end1 Tryd.results90 255 () (rv_t rfl) (fun _ _ => NewCh.nil _ _ _ _)
      · refine c_seq ?_
        refine c_region ?_
        refine o_eql st und3 rfl rfl rfl ?_
        refine o_as st rfl rfl ?_
        refine c_nil ?_
        refine l_then ?_
        refine c_cond rfl ?_ ?_
        · refine c_seq ?_
          refine c_region ?_
          refine o_as st rfl rfl ?_
          refine c_nil ?_
          refine l_then ?_
          refine c_ret ?_
          refine b_ret ?_
          refine l_ret ?_
          exact l_end1 Tryd.results90 7 () (rv_t rfl) (fun _ _ => NewCh.nil _ _ _ _)
        · refine c_skip ?_
          refine b_norm ?_
          refine l_then ?_
          refine c_seq ?_
          refine c_region ?_
          refine o_as st rfl rfl ?_
          refine c_nil ?_
          refine l_then ?_
          refine c_ret ?_
          exact l_end1 Tryd.results90 (-1) () (rv_t rfl) (fun _ _ => NewCh.nil _ _ _ _)

set_option maxRecDepth 100000 in
set_option maxHeartbeats 8000000 in
theorem w_spec_TestValid {w0 : World} {F : Nat → Prop} {t_0 : GTest} {κ : Bool → Prop} (hF : ∀ b, F b → b < w0.heap.size ∧ ¬ feet [] b) (h : L_spec_TestValid t_0 κ) :
    Calls Tryd.prog 79 #[(.agg #[(.int .i64 t_0.xField), (.int .i64 t_0.xLo), (.int .i64 t_0.xHi), (.bool t_0.xNot)])] w0 (Ret [] F w0 κ (fun (r : Bool) (u : Unit) => (.bool r)) (fun (r : Bool) (u : Unit) => [])) := by
  refine enter0 (args := [(.agg #[(.int .i64 t_0.xField), (.int .i64 t_0.xLo), (.int .i64 t_0.xHi), (.bool t_0.xNot)])]) [] hF (Given.nil _ _) Tryd.func79 rfl Tryd.ntmps79 rfl h ?_
  clear h hF
  refine c_seq ?_
  refine c_region ?_
  refine stw (o_box rfl rfl [(.int .i64 t_0.xField), (.int .i64 t_0.xLo), (.int .i64 t_0.xHi), (.bool t_0.xNot)] rfl ?_); intro b1
  refine o_as st rfl rfl ?_
  refine c_nil ?_
  refine l_then ?_
  refine c_join (σ := Bool) (fun (t66 : Bool) (a : Act) (w : World) => Has 21 [(2, (.bool t66))] a ∧ Mem (gB F [] w0) (feet []) w0 [] w) ?_ ?_
  · intro k67
    refine c_draw mixed 19 rfl [cellCh b1 [(.int .i64 t_0.xField), (.int .i64 t_0.xLo), (.int .i64 t_0.xHi), (.bool t_0.xNot)] 84] ?_
    refine o_fad (dt 0 (fun _ m => m)) rfl rfl fld84_0 rfl ?_
    refine o_ldc (dt 1 (fun _ m => m)) (v := (.int .i64 t_0.xField)) 0 rfl rfl rfl ty3 rfl ?_
    refine d_one (i := 2) rfl (by kernel_rfl) (o_callP (vs := [(.int .i64 t_0.xField), (.int .i64 0), (.int .i64 3)]) Tryd.call47 rfl rfl (by intro w m h; exact (w_spec_l1In (F := allB [] w) (n_0 := t_0.xField) (lo_1 := 0) (hi_2 := 3) allB_ok h).mono (fun _ _ k => ret_free (fun r u => fr_nil) k)) ?_); rintro r3 _
    refine d_and (fun _ m => m) ?_
    refine o_mv (dt 3 (fun _ m => m)) rfl rfl ?_
    refine st_sp (dj := 6) rfl ?_ ?_
    · refine o_fad (dtg 4 (fun _ m => m)) rfl rfl fld84_1 rfl ?_
      refine o_ldc (dtg 5 (fun _ m => m)) (v := (.int .i64 t_0.xLo)) 0 rfl rfl rfl ty3 rfl ?_
      refine o_fad (dtg 6 (fun _ m => m)) rfl rfl fld84_2 rfl ?_
      refine o_ldc (dtg 7 (fun _ m => m)) (v := (.int .i64 t_0.xHi)) 0 rfl rfl rfl ty3 rfl ?_
      refine d_oneg (i := 8) rfl rfl rfl (by kernel_rfl) (o_callP (vs := [(.int .i64 t_0.xLo), (.int .i64 0), (.int .i64 t_0.xHi)]) Tryd.call47 rfl rfl (by intro w m h; exact (w_spec_l1In (F := allB [] w) (n_0 := t_0.xLo) (lo_1 := 0) (hi_2 := t_0.xHi) allB_ok h).mono (fun _ _ k => ret_free (fun r u => fr_nil) k)) ?_); rintro r4 _
      refine d_and (fun _ m => m) ?_
      refine o_pickT (dt 9 (fun _ m => m)) rfl rfl rfl ?_
      refine o_mv (dt 10 (fun _ m => m)) rfl rfl ?_
      refine st_sp (dj := 13) rfl ?_ ?_
      · refine o_fad (dtg 11 (fun _ m => m)) rfl rfl fld84_2 rfl ?_
        refine o_ldc (dtg 12 (fun _ m => m)) (v := (.int .i64 t_0.xHi)) 0 rfl rfl rfl ty3 rfl ?_
        refine o_fad (dtg 13 (fun _ m => m)) rfl rfl fld84_0 rfl ?_
        refine o_ldc (dtg 14 (fun _ m => m)) (v := (.int .i64 t_0.xField)) 0 rfl rfl rfl ty3 rfl ?_
        refine d_oneg (i := 15) rfl rfl rfl (by kernel_rfl) (o_callP (vs := [(.int .i64 t_0.xField)]) Tryd.call90 rfl rfl (by intro w m h; exact (w_spec_FieldTop (F := allB [] w) (n_0 := t_0.xField) allB_ok h).mono (fun _ _ k => ret_free (fun r u => fr_nil) k)) ?_); rintro r5 _
        refine d_and (fun _ m => m) ?_
        refine o_leq (dtg 16 (fun _ m => m)) rfl rfl rfl ?_
        refine o_pickT (dt 17 (fun _ m => m)) rfl rfl rfl ?_
        refine o_as (dt 18 (fun _ m => m)) rfl rfl ?_
        refine d_done (by kernel_rfl) ?_
        exact l_join (decide (t_0.xHi ≤ r5)) (fun a w hE hm => ⟨hE.sub ⟨rfl, trivial⟩, (hm.pick [] rfl)⟩)
      · refine dsk 11 (fun _ m => m) rfl (by kernel_rfl) rfl rfl rfl rfl ?_
        refine dsk 12 (fun _ m => m) rfl (by kernel_rfl) rfl rfl rfl rfl ?_
        refine dsk 13 (fun _ m => m) rfl (by kernel_rfl) rfl rfl rfl rfl ?_
        refine dsk 14 (fun _ m => m) rfl (by kernel_rfl) rfl rfl rfl rfl ?_
        refine dsk 15 (fun _ m => m) rfl (by kernel_rfl) rfl rfl rfl rfl ?_
        refine dsk 16 (fun _ m => m) rfl (by kernel_rfl) rfl rfl rfl rfl ?_
        refine o_pickF (dt 17 (fun _ m => m)) rfl rfl rfl ?_
        refine o_as (dt 18 (fun _ m => m)) rfl rfl ?_
        refine d_done (by kernel_rfl) ?_
        exact l_join false (fun a w hE hm => ⟨hE.sub ⟨rfl, trivial⟩, (hm.pick [] rfl)⟩)
    · refine dsk 4 (fun _ m => m) rfl (by kernel_rfl) rfl rfl rfl rfl ?_
      refine dsk 5 (fun _ m => m) rfl (by kernel_rfl) rfl rfl rfl rfl ?_
      refine dsk 6 (fun _ m => m) rfl (by kernel_rfl) rfl rfl rfl rfl ?_
      refine dsk 7 (fun _ m => m) rfl (by kernel_rfl) rfl rfl rfl rfl ?_
      refine dsk 8 (fun _ m => m) rfl (by kernel_rfl) rfl rfl rfl rfl ?_
      refine o_pickF (dt 9 (fun _ m => m)) rfl rfl rfl ?_
      refine o_mv (dt 10 (fun _ m => m)) rfl rfl ?_
      refine dsk 11 (fun _ m => m) rfl (by kernel_rfl) rfl rfl rfl rfl ?_
      refine dsk 12 (fun _ m => m) rfl (by kernel_rfl) rfl rfl rfl rfl ?_
      refine dsk 13 (fun _ m => m) rfl (by kernel_rfl) rfl rfl rfl rfl ?_
      refine dsk 14 (fun _ m => m) rfl (by kernel_rfl) rfl rfl rfl rfl ?_
      refine dsk 15 (fun _ m => m) rfl (by kernel_rfl) rfl rfl rfl rfl ?_
      refine dsk 16 (fun _ m => m) rfl (by kernel_rfl) rfl rfl rfl rfl ?_
      refine o_pickF (dt 17 (fun _ m => m)) rfl rfl rfl ?_
      refine o_as (dt 18 (fun _ m => m)) rfl rfl ?_
      refine d_done (by kernel_rfl) ?_
      exact l_join false (fun a w hE hm => ⟨hE.sub ⟨rfl, trivial⟩, (hm.pick [] rfl)⟩)
  · rintro t66 a w ⟨hE, hm⟩ h
    refine nx_of hE hm h ?_
    clear hE hm h
    refine c_ret ?_
    exact l_end1 Tryd.results79 t66 () (rv_t rfl) (fun _ _ => NewCh.nil _ _ _ _)

set_option maxRecDepth 100000 in
set_option maxHeartbeats 8000000 in
theorem w_spec_TestsValid {w0 : World} {F : Nat → Prop} {v1 : Value} {list_0 : (List GTest)} {κ : Bool → Prop} (hF : ∀ b, F b → b < w0.heap.size ∧ ¬ feet [] b) (hv1 : Sl elGTest F w0 v1 list_0) (h : L_spec_TestsValid list_0 κ) :
    Calls Tryd.prog 78 #[v1] w0 (Ret [] F w0 κ (fun (r : Bool) (u : Unit) => (.bool r)) (fun (r : Bool) (u : Unit) => [])) := by
  refine enterS (args := [v1]) [] hF (Given.nil _ _) Tryd.func78 rfl Tryd.ntmps78 rfl h ?_
  clear h hF
  refine c_seq ?_
  refine c_region ?_
  refine o_as st rfl rfl ?_
  refine c_nil ?_
  refine l_then ?_
  refine c_seq ?_
  refine c_seq ?_
  refine c_region ?_
  refine o_as st rfl rfl ?_
  refine c_nil ?_
  refine l_then ?_
  refine c_block ?_
  refine c_loop (σ := Int) (fun (t3 : Int) (a : Act) (w : World) => Has 19 [(0, v1), (3, (.int .i64 t3))] a ∧ Mem (gB F [] w0) (feet []) w0 [snapCh w0 F] w) (fun a w hE hm => ⟨hE.sub ⟨rfl, rfl, trivial⟩, (hm.pick [0] rfl)⟩) ?_
  rintro nx4 t3 a w ⟨hE, hm⟩ h
  refine nx_of hE hm h ?_
  clear hE hm h
  refine c_seq ?_
  refine c_seq ?_
  refine c_region ?_
  refine o_mv st rfl rfl ?_
  refine o_mv st rfl rfl ?_
  refine o_len st el52 0 rfl (reads_snap hv1) rfl rfl ?_
  refine o_lss st rfl rfl rfl ?_
  refine c_nil ?_
  refine l_then ?_
  refine c_cond rfl ?_ ?_
  · refine c_skip ?_
    refine l_then ?_
    refine c_seq ?_
    refine c_block ?_
    refine c_seq ?_
    refine c_region ?_
    refine o_mv st rfl rfl ?_
    refine o_mv st rfl rfl ?_
    refine o_idx st 0 rfl (reads_snap hv1) rfl rfl rfl el52 ?_; intro e5 h6
    refine o_lds st (enc := encGTest) (u := (.agg #[(.int .i64 e5.xField), (.int .i64 e5.xLo), (.int .i64 e5.xHi), (.bool e5.xNot)])) 0 rfl (reads_snap hv1) flelGTest rfl h6 rfl rfl ty84 rfl ?_
    refine stw (o_callP (vs := [(.agg #[(.int .i64 e5.xField), (.int .i64 e5.xLo), (.int .i64 e5.xHi), (.bool e5.xNot)])]) Tryd.call79 rfl rfl (by intro w m h; exact (w_spec_TestValid (F := allB [] w) (t_0 := e5) allB_ok h).mono (fun _ _ k => ret_free (fun r u => fr_nil) k)) ?_); rintro r7 _
    refine o_not st rfl rfl ?_
    refine c_nil ?_
    refine l_then ?_
    refine c_cond rfl ?_ ?_
    · refine c_seq ?_
      refine c_region ?_
      refine o_as st rfl rfl ?_
      refine c_nil ?_
      refine l_then ?_
      refine c_ret ?_
      refine b_ret ?_
      refine l_ret ?_
      refine l_ret ?_
      refine b_ret ?_
      refine l_ret ?_
      exact l_end1 Tryd.results78 false () (rv_t rfl) (fun _ _ => NewCh.nil _ _ _ _)
    · refine c_skip ?_
      refine b_norm ?_
      refine l_then ?_
      refine c_region ?_
      refine o_mv st rfl rfl ?_
      refine o_add st rfl rfl rfl ?_; intro t8
      refine o_as st rfl rfl ?_
      refine c_nil ?_
      exact l_join t8 (fun a w hE hm => ⟨hE.sub ⟨rfl, rfl, trivial⟩, (hm.pick [0] rfl)⟩)
  · refine c_exit ?_
    refine l_exit ?_
    refine l_exit ?_
    refine b_exit ?_
    refine l_then ?_
    refine c_seq ?_
    refine c_region ?_
    refine o_mv st rfl rfl ?_
    refine o_len st el52 0 rfl (reads_snap hv1) rfl rfl ?_
    refine o_leq st rfl rfl rfl ?_
    refine o_as st rfl rfl ?_
    refine c_nil ?_
    refine l_then ?_
    refine c_ret ?_
    exact l_end1 Tryd.results78 (decide ((list_0.length : Int) ≤ 6)) () (rv_t rfl) (fun _ _ => NewCh.nil _ _ _ _)

set_option maxRecDepth 100000 in
set_option maxHeartbeats 8000000 in
theorem w_spec_RuleValid {w0 : World} {F : Nat → Prop} {v1 : Value} {r_0 : GRule} {κ : Bool → Prop} (hF : ∀ b, F b → b < w0.heap.size ∧ ¬ feet [] b) (hv1 : Sl elGTest F w0 v1 r_0.xTests) (h : L_spec_RuleValid r_0 κ) :
    Calls Tryd.prog 58 #[(.agg #[v1, (.int .i64 r_0.xAction), (.int .i64 r_0.xChain)])] w0 (Ret [] F w0 κ (fun (r : Bool) (u : Unit) => (.bool r)) (fun (r : Bool) (u : Unit) => [])) := by
  refine enterS (args := [(.agg #[v1, (.int .i64 r_0.xAction), (.int .i64 r_0.xChain)])]) [] hF (Given.nil _ _) Tryd.func58 rfl Tryd.ntmps58 rfl h ?_
  clear h hF
  refine c_seq ?_
  refine c_region ?_
  obtain ⟨a3, l4, q5, hs_⟩ := sl_val hv1; subst hs_
  refine stw (o_box rfl rfl [(.slice a3 l4 q5), (.int .i64 r_0.xAction), (.int .i64 r_0.xChain)] rfl ?_); intro b6
  refine o_as st rfl rfl ?_
  refine c_nil ?_
  refine l_then ?_
  refine c_join (σ := Bool) (fun (t71 : Bool) (a : Act) (w : World) => Has 31 [(2, (.bool t71))] a ∧ Mem (gB F [] w0) (feet []) w0 [] w) ?_ ?_
  · intro k72
    refine c_region ?_
    refine o_fad st rfl rfl fld54_0 rfl ?_
    refine o_ldc st (v := (.slice a3 l4 q5)) 0 rfl rfl rfl ty52 rfl ?_
    refine stw (o_callP (vs := [(.slice a3 l4 q5)]) Tryd.call78 rfl rfl (by intro w m h; exact (w_spec_TestsValid (F := allB [] w) (list_0 := r_0.xTests) allB_ok (m.rd0 1 rfl (reads_snap hv1)) h).mono (fun _ _ k => ret_free (fun r u => fr_nil) k)) ?_); rintro r8 _
    refine o_mv st rfl rfl ?_
    refine st_sp (dj := 6) rfl ?_ ?_
    · refine o_fad (st_g rfl rfl) rfl rfl fld54_1 rfl ?_
      refine o_ldc (st_g rfl rfl) (v := (.int .i64 r_0.xAction)) 0 rfl rfl rfl ty3 rfl ?_
      refine st_gw rfl rfl (o_callP (vs := [(.int .i64 r_0.xAction), (.int .i64 1), (.int .i64 5)]) Tryd.call47 rfl rfl (by intro w m h; exact (w_spec_l1In (F := allB [] w) (n_0 := r_0.xAction) (lo_1 := 1) (hi_2 := 5) allB_ok h).mono (fun _ _ k => ret_free (fun r u => fr_nil) k)) ?_); rintro r9 _
      refine o_pickT st rfl rfl rfl ?_
      refine o_mv st rfl rfl ?_
      refine st_sp (dj := 11) rfl ?_ ?_
      · refine o_fad (st_g rfl rfl) rfl rfl fld54_1 rfl ?_
        refine o_ldc (st_g rfl rfl) (v := (.int .i64 r_0.xAction)) 0 rfl rfl rfl ty3 rfl ?_
        refine o_eql (st_g rfl rfl) und3 rfl rfl rfl ?_
        refine o_mv (st_g rfl rfl) rfl rfl ?_
        refine st_sp (dj := 15) rfl ?_ ?_
        · refine o_fad (st_g rfl rfl) rfl rfl fld54_2 rfl ?_
          refine o_ldc (st_g rfl rfl) (v := (.int .i64 r_0.xChain)) 0 rfl rfl rfl ty3 rfl ?_
          refine st_gw rfl rfl (o_callP (vs := [(.int .i64 r_0.xChain), (.int .i64 0), (.int .i64 4)]) Tryd.call47 rfl rfl (by intro w m h; exact (w_spec_l1In (F := allB [] w) (n_0 := r_0.xChain) (lo_1 := 0) (hi_2 := 4) allB_ok h).mono (fun _ _ k => ret_free (fun r u => fr_nil) k)) ?_); rintro r10 _
          refine o_pickT (st_g rfl rfl) rfl rfl rfl ?_
          refine o_mv (st_g rfl rfl) rfl rfl ?_
          refine st_sp (dj := 20) rfl ?_ ?_
          · refine st_s rfl rfl rfl rfl ?_
            refine st_s rfl rfl rfl rfl ?_
            refine st_s rfl rfl rfl rfl ?_
            refine st_s rfl rfl rfl rfl ?_
            refine st_s rfl rfl rfl rfl ?_
            refine st_s rfl rfl rfl rfl ?_
            refine st_s rfl rfl rfl rfl ?_
            refine st_s rfl rfl rfl rfl ?_
            refine o_pickT (st_g rfl rfl) rfl rfl rfl ?_
            refine o_pickT st rfl rfl rfl ?_
            refine o_as st rfl rfl ?_
            refine c_nil ?_
            exact l_join true (fun a w hE hm => ⟨hE.sub ⟨rfl, trivial⟩, (hm.pick [] rfl)⟩)
          · refine o_fad (st_g rfl rfl) rfl rfl fld54_1 rfl ?_
            refine o_ldc (st_g rfl rfl) (v := (.int .i64 r_0.xAction)) 0 rfl rfl rfl ty3 rfl ?_
            refine o_neq (st_g rfl rfl) und3 rfl rfl rfl ?_
            refine o_mv (st_g rfl rfl) rfl rfl ?_
            refine st_sp (dj := 24) rfl ?_ ?_
            · refine o_fad (st_g rfl rfl) rfl rfl fld54_2 rfl ?_
              refine o_ldc (st_g rfl rfl) (v := (.int .i64 r_0.xChain)) 0 rfl rfl rfl ty3 rfl ?_
              refine o_eql (st_g rfl rfl) und3 rfl rfl rfl ?_
              refine o_pickT (st_g rfl rfl) rfl rfl rfl ?_
              refine o_pickF (st_g rfl rfl) rfl rfl rfl ?_
              refine o_pickT st rfl rfl rfl ?_
              refine o_as st rfl rfl ?_
              refine c_nil ?_
              exact l_join (decide (r_0.xChain = 0)) (fun a w hE hm => ⟨hE.sub ⟨rfl, trivial⟩, (hm.pick [] rfl)⟩)
            · refine st_s rfl rfl rfl rfl ?_
              refine st_s rfl rfl rfl rfl ?_
              refine st_s rfl rfl rfl rfl ?_
              refine o_pickF (st_g rfl rfl) rfl rfl rfl ?_
              refine o_pickF (st_g rfl rfl) rfl rfl rfl ?_
              refine o_pickT st rfl rfl rfl ?_
              refine o_as st rfl rfl ?_
              refine c_nil ?_
              exact l_join false (fun a w hE hm => ⟨hE.sub ⟨rfl, trivial⟩, (hm.pick [] rfl)⟩)
        · refine st_s rfl rfl rfl rfl ?_
          refine st_s rfl rfl rfl rfl ?_
          refine st_s rfl rfl rfl rfl ?_
          refine o_pickF (st_g rfl rfl) rfl rfl rfl ?_
          refine o_mv (st_g rfl rfl) rfl rfl ?_
          refine o_fad (st_g rfl rfl) rfl rfl fld54_1 rfl ?_
          refine o_ldc (st_g rfl rfl) (v := (.int .i64 r_0.xAction)) 0 rfl rfl rfl ty3 rfl ?_
          refine o_neq (st_g rfl rfl) und3 rfl rfl rfl ?_
          refine o_mv (st_g rfl rfl) rfl rfl ?_
          refine st_sp (dj := 24) rfl ?_ ?_
          · refine o_fad (st_g rfl rfl) rfl rfl fld54_2 rfl ?_
            refine o_ldc (st_g rfl rfl) (v := (.int .i64 r_0.xChain)) 0 rfl rfl rfl ty3 rfl ?_
            refine o_eql (st_g rfl rfl) und3 rfl rfl rfl ?_
            refine o_pickT (st_g rfl rfl) rfl rfl rfl ?_
            refine o_pickF (st_g rfl rfl) rfl rfl rfl ?_
            refine o_pickT st rfl rfl rfl ?_
            refine o_as st rfl rfl ?_
            refine c_nil ?_
            exact l_join (decide (r_0.xChain = 0)) (fun a w hE hm => ⟨hE.sub ⟨rfl, trivial⟩, (hm.pick [] rfl)⟩)
          · refine st_s rfl rfl rfl rfl ?_
            refine st_s rfl rfl rfl rfl ?_
            refine st_s rfl rfl rfl rfl ?_
            refine o_pickF (st_g rfl rfl) rfl rfl rfl ?_
            refine o_pickF (st_g rfl rfl) rfl rfl rfl ?_
            refine o_pickT st rfl rfl rfl ?_
            refine o_as st rfl rfl ?_
            refine c_nil ?_
            exact l_join false (fun a w hE hm => ⟨hE.sub ⟨rfl, trivial⟩, (hm.pick [] rfl)⟩)
      · refine st_s rfl rfl rfl rfl ?_
        refine st_s rfl rfl rfl rfl ?_
        refine st_s rfl rfl rfl rfl ?_
        refine st_s rfl rfl rfl rfl ?_
        refine st_s rfl rfl rfl rfl ?_
        refine st_s rfl rfl rfl rfl ?_
        refine st_s rfl rfl rfl rfl ?_
        refine st_s rfl rfl rfl rfl ?_
        refine st_s rfl rfl rfl rfl ?_
        refine st_s rfl rfl rfl rfl ?_
        refine st_s rfl rfl rfl rfl ?_
        refine st_s rfl rfl rfl rfl ?_
        refine st_s rfl rfl rfl rfl ?_
        refine st_s rfl rfl rfl rfl ?_
        refine st_s rfl rfl rfl rfl ?_
        refine st_s rfl rfl rfl rfl ?_
        refine st_s rfl rfl rfl rfl ?_
        refine st_s rfl rfl rfl rfl ?_
        refine o_pickF st rfl rfl rfl ?_
        refine o_as st rfl rfl ?_
        refine c_nil ?_
        exact l_join false (fun a w hE hm => ⟨hE.sub ⟨rfl, trivial⟩, (hm.pick [] rfl)⟩)
    · refine st_s rfl rfl rfl rfl ?_
      refine st_s rfl rfl rfl rfl ?_
      refine st_s rfl rfl rfl rfl ?_
      refine o_pickF st rfl rfl rfl ?_
      refine o_mv st rfl rfl ?_
      refine st_s rfl rfl rfl rfl ?_
      refine st_s rfl rfl rfl rfl ?_
      refine st_s rfl rfl rfl rfl ?_
      refine st_s rfl rfl rfl rfl ?_
      refine st_s rfl rfl rfl rfl ?_
      refine st_s rfl rfl rfl rfl ?_
      refine st_s rfl rfl rfl rfl ?_
      refine st_s rfl rfl rfl rfl ?_
      refine st_s rfl rfl rfl rfl ?_
      refine st_s rfl rfl rfl rfl ?_
      refine st_s rfl rfl rfl rfl ?_
      refine st_s rfl rfl rfl rfl ?_
      refine st_s rfl rfl rfl rfl ?_
      refine st_s rfl rfl rfl rfl ?_
      refine st_s rfl rfl rfl rfl ?_
      refine st_s rfl rfl rfl rfl ?_
      refine st_s rfl rfl rfl rfl ?_
      refine st_s rfl rfl rfl rfl ?_
      refine o_pickF st rfl rfl rfl ?_
      refine o_as st rfl rfl ?_
      refine c_nil ?_
      exact l_join false (fun a w hE hm => ⟨hE.sub ⟨rfl, trivial⟩, (hm.pick [] rfl)⟩)
  · rintro t71 a w ⟨hE, hm⟩ h
    refine nx_of hE hm h ?_
    clear hE hm h
    refine c_ret ?_
    exact l_end1 Tryd.results58 t71 () (rv_t rfl) (fun _ _ => NewCh.nil _ _ _ _)

set_option maxRecDepth 100000 in
set_option maxHeartbeats 8000000 in
theorem w_spec_RulesValid {w0 : World} {F : Nat → Prop} {v1 : Value} {list_0 : (List GRule)} {κ : Bool → Prop} (hF : ∀ b, F b → b < w0.heap.size ∧ ¬ feet [] b) (hv1 : Sl elGRule F w0 v1 list_0) (h : L_spec_RulesValid list_0 κ) :
    Calls Tryd.prog 46 #[v1] w0 (Ret [] F w0 κ (fun (r : Bool) (u : Unit) => (.bool r)) (fun (r : Bool) (u : Unit) => [])) := by
  refine enterS (args := [v1]) [] hF (Given.nil _ _) Tryd.func46 rfl Tryd.ntmps46 rfl h ?_
  clear h hF
  refine c_seq ?_
  refine c_region ?_
  refine o_as st rfl rfl ?_
  refine c_nil ?_
  refine l_then ?_
  refine c_seq ?_
  refine c_seq ?_
  refine c_region ?_
  refine o_as st rfl rfl ?_
  refine c_nil ?_
  refine l_then ?_
  refine c_block ?_
  refine c_loop (σ := Int) (fun (t3 : Int) (a : Act) (w : World) => Has 19 [(0, v1), (3, (.int .i64 t3))] a ∧ Mem (gB F [] w0) (feet []) w0 [snapCh w0 F] w) (fun a w hE hm => ⟨hE.sub ⟨rfl, rfl, trivial⟩, (hm.pick [0] rfl)⟩) ?_
  rintro nx4 t3 a w ⟨hE, hm⟩ h
  refine nx_of hE hm h ?_
  clear hE hm h
  refine c_seq ?_
  refine c_seq ?_
  refine c_region ?_
  refine o_mv st rfl rfl ?_
  refine o_mv st rfl rfl ?_
  refine o_len st el50 0 rfl (reads_snap hv1) rfl rfl ?_
  refine o_lss st rfl rfl rfl ?_
  refine c_nil ?_
  refine l_then ?_
  refine c_cond rfl ?_ ?_
  · refine c_skip ?_
    refine l_then ?_
    refine c_seq ?_
    refine c_block ?_
    refine c_seq ?_
    refine c_region ?_
    refine o_mv st rfl rfl ?_
    refine o_mv st rfl rfl ?_
    refine o_idx st 0 rfl (reads_snap hv1) rfl rfl rfl el50 ?_; intro e5 h6
    obtain ⟨_, ⟨v8, rfl, sl9⟩, rw7⟩ := sl_open hv1 h6
    refine o_ldR st (u := (.agg #[v8, (.int .i64 e5.xAction), (.int .i64 e5.xChain)])) 0 rfl rw7 rfl rfl ty54 rfl ?_
    refine stw (o_callP (vs := [(.agg #[v8, (.int .i64 e5.xAction), (.int .i64 e5.xChain)])]) Tryd.call58 rfl rfl (by intro w m h; exact (w_spec_RuleValid (F := allB [] w) (r_0 := e5) allB_ok (m.rd0 0 rfl (reads_snap sl9)) h).mono (fun _ _ k => ret_free (fun r u => fr_nil) k)) ?_); rintro r11 _
    refine o_not st rfl rfl ?_
    refine c_nil ?_
    refine l_then ?_
    refine c_cond rfl ?_ ?_
    · refine c_seq ?_
      refine c_region ?_
      refine o_as st rfl rfl ?_
      refine c_nil ?_
      refine l_then ?_
      refine c_ret ?_
      refine b_ret ?_
      refine l_ret ?_
      refine l_ret ?_
      refine b_ret ?_
      refine l_ret ?_
      exact l_end1 Tryd.results46 false () (rv_t rfl) (fun _ _ => NewCh.nil _ _ _ _)
    · refine c_skip ?_
      refine b_norm ?_
      refine l_then ?_
      refine c_region ?_
      refine o_mv st rfl rfl ?_
      refine o_add st rfl rfl rfl ?_; intro t12
      refine o_as st rfl rfl ?_
      refine c_nil ?_
      exact l_join t12 (fun a w hE hm => ⟨hE.sub ⟨rfl, rfl, trivial⟩, (hm.pick [0] rfl)⟩)
  · refine c_exit ?_
    refine l_exit ?_
    refine l_exit ?_
    refine b_exit ?_
    refine l_then ?_
    refine c_seq ?_
    refine c_region ?_
    refine o_mv st rfl rfl ?_
    refine o_len st el50 0 rfl (reads_snap hv1) rfl rfl ?_
    refine o_leq st rfl rfl rfl ?_
    refine o_as st rfl rfl ?_
    refine c_nil ?_
    refine l_then ?_
    refine c_ret ?_
    exact l_end1 Tryd.results46 (decide ((list_0.length : Int) ≤ 8)) () (rv_t rfl) (fun _ _ => NewCh.nil _ _ _ _)

set_option maxRecDepth 100000 in
set_option maxHeartbeats 8000000 in
theorem w_spec_l8Order {w0 : World} {F : Nat → Prop} {v1 : Value} {s_0 : GRuleset} {κ : (List Int) → Prop} (hF : ∀ b, F b → b < w0.heap.size ∧ ¬ feet [] b) (hv1 : Sl (elSl elGRule) F w0 v1 s_0.xChains) (h : L_spec_l8Order s_0 κ) :
    Calls Tryd.prog 48 #[(.agg #[v1, (.bool s_0.xAccept)])] w0 (Ret [] F w0 κ (fun (r : (List Int)) (u : Value) => u) (fun (r : (List Int)) (u : Value) => [ownCh elInt 3 u r])) := by
  refine enterS (args := [(.agg #[v1, (.bool s_0.xAccept)])]) [] hF (Given.nil _ _) Tryd.func48 rfl Tryd.ntmps48 rfl h ?_
  clear h hF
  refine c_seq ?_
  refine c_region ?_
  obtain ⟨a3, l4, q5, hs_⟩ := sl_val hv1; subst hs_
  refine stw (o_box rfl rfl [(.slice a3 l4 q5), (.bool s_0.xAccept)] rfl ?_); intro b6
  refine stw (o_asn elInt 3 rfl rfl ?_)
  refine c_nil ?_
  refine l_then ?_
  refine c_seq ?_
  refine c_region ?_
  refine o_fad st rfl rfl fld30_0 rfl ?_
  refine o_ldc st (v := (.slice a3 l4 q5)) 1 rfl rfl rfl ty28 rfl ?_
  refine o_len st el28 2 rfl (reads_snap hv1) rfl rfl ?_
  refine stw (o_make (z := false) flelBool rfl rfl rfl el97 rfl zero4 rfl rfl ?_); intro v9 xs10
  refine o_as st rfl rfl ?_
  refine c_nil ?_
  refine l_then ?_
  refine c_seq ?_
  refine c_region ?_
  refine stw (o_bsl (enc := encInt) (qs := []) (cells := []) ([] : (List Int)) flelInt (by intro ρ h; simp only [List.map_toArray, List.map_cons, List.map_nil]) rfl el67 zero3 rfl rfl rfl rfl rfl rfl ?_); intro v12
  refine o_as st rfl rfl ?_
  refine c_nil ?_
  refine l_then ?_
  refine c_seq ?_
  refine c_seq ?_
  refine c_region ?_
  refine o_as st rfl rfl ?_
  refine c_nil ?_
  refine l_then ?_
  refine c_block ?_
  refine c_loop (σ := ((List Bool) × (List Int) × Int)) (fun ((xs14, xs17, t20) : ((List Bool) × (List Int) × Int)) (a : Act) (w : World) => ∃ (v16 : Value), Has 74 [(1, (.pointer (some ⟨b6, 0, none⟩))), (3, v9), (4, v16), (5, (.int .i64 t20))] a ∧ Mem (gB F [] w0) (feet []) w0 [ownCh elBool 4 v9 xs14, cellCh b6 [(.slice a3 l4 q5), (.bool s_0.xAccept)] 30, snapCh w0 F, ownCh elInt 3 v16 xs17] w) (fun a w hE hm => ⟨v12, hE.sub ⟨rfl, rfl, rfl, rfl, trivial⟩, (hm.pick [1, 3, 4, 0] rfl)⟩) ?_
  rintro nx21 ⟨xs14, xs17, t20⟩ a w ⟨v16, hE, hm⟩ h
  refine nx_of hE hm h ?_
  clear hE hm h
  refine c_seq ?_
  refine c_seq ?_
  refine c_region ?_
  refine o_mv st rfl rfl ?_
  refine o_fad st rfl rfl fld30_0 rfl ?_
  refine o_ldc st (v := (.slice a3 l4 q5)) 1 rfl rfl rfl ty28 rfl ?_
  refine o_len st el28 2 rfl (reads_snap hv1) rfl rfl ?_
  refine o_lss st rfl rfl rfl ?_
  refine c_nil ?_
  refine l_then ?_
  refine c_cond rfl ?_ ?_
  · refine c_skip ?_
    refine l_then ?_
    refine c_seq ?_
    refine c_block ?_
    refine c_seq ?_
    refine c_region ?_
    refine o_as st rfl rfl ?_
    refine c_nil ?_
    refine l_then ?_
    refine c_block ?_
    refine c_loop (σ := ((List Bool) × (List Int) × Int)) (fun ((xs22, xs25, t28) : ((List Bool) × (List Int) × Int)) (a : Act) (w : World) => ∃ (v24 : Value), Has 74 [(1, (.pointer (some ⟨b6, 0, none⟩))), (3, v9), (4, v24), (5, (.int .i64 t20)), (6, (.int .i64 t28))] a ∧ Mem (gB F [] w0) (feet []) w0 [ownCh elBool 4 v9 xs22, cellCh b6 [(.slice a3 l4 q5), (.bool s_0.xAccept)] 30, snapCh w0 F, ownCh elInt 3 v24 xs25] w) (fun a w hE hm => ⟨v16, hE.sub ⟨rfl, rfl, rfl, rfl, rfl, trivial⟩, (hm.pick [0, 1, 2, 3] rfl)⟩) ?_
    rintro nx29 ⟨xs22, xs25, t28⟩ a w ⟨v24, hE, hm⟩ h
    refine nx_of hE hm h ?_
    clear hE hm h
    refine c_seq ?_
    refine c_seq ?_
    refine c_region ?_
    refine o_mv st rfl rfl ?_
    refine o_fad st rfl rfl fld30_0 rfl ?_
    refine o_ldc st (v := (.slice a3 l4 q5)) 1 rfl rfl rfl ty28 rfl ?_
    refine o_len st el28 2 rfl (reads_snap hv1) rfl rfl ?_
    refine o_lss st rfl rfl rfl ?_
    refine c_nil ?_
    refine l_then ?_
    refine c_cond rfl ?_ ?_
    · refine c_skip ?_
      refine l_then ?_
      refine c_join (σ := ((List Bool) × (List Int))) (fun ((xs190, xs192) : ((List Bool) × (List Int))) (a : Act) (w : World) => ∃ (v193 : Value), Has 74 [(1, (.pointer (some ⟨b6, 0, none⟩))), (3, v9), (4, v193), (5, (.int .i64 t20)), (6, (.int .i64 t28))] a ∧ Mem (gB F [] w0) (feet []) w0 [ownCh elBool 4 v9 xs190, cellCh b6 [(.slice a3 l4 q5), (.bool s_0.xAccept)] 30, ownCh elInt 3 v193 xs192, snapCh w0 F] w) ?_ ?_
      · intro k195
        refine c_block ?_
        refine c_seq ?_
        refine c_region ?_
        refine o_mv st rfl rfl ?_
        refine o_mv st rfl rfl ?_
        refine o_idx st 0 rfl reads_own rfl rfl rfl el97 ?_; intro e30 h31
        refine o_lds st (enc := encBool) (u := (.bool e30)) 0 rfl reads_own flelBool rfl h31 rfl rfl ty4 rfl ?_
        refine o_not st rfl rfl ?_
        refine o_as st rfl rfl ?_
        refine c_nil ?_
        refine l_then ?_
        refine c_seq ?_
        refine c_seq ?_
        refine c_region ?_
        refine o_as st rfl rfl ?_
        refine c_nil ?_
        refine l_then ?_
        refine c_block ?_
        refine c_loop (σ := (Bool × Int)) (fun ((t32, t33) : (Bool × Int)) (a : Act) (w : World) => Has 74 [(1, (.pointer (some ⟨b6, 0, none⟩))), (3, v9), (4, v24), (5, (.int .i64 t20)), (6, (.int .i64 t28)), (7, (.bool t32)), (8, (.int .i64 t33))] a ∧ Mem (gB F [] w0) (feet []) w0 [ownCh elBool 4 v9 xs22, cellCh b6 [(.slice a3 l4 q5), (.bool s_0.xAccept)] 30, ownCh elInt 3 v24 xs25, snapCh w0 F] w) (fun a w hE hm => ⟨hE.sub ⟨rfl, rfl, rfl, rfl, rfl, rfl, rfl, trivial⟩, (hm.pick [0, 1, 3, 2] rfl)⟩) ?_
        rintro nx34 ⟨t32, t33⟩ a w ⟨hE, hm⟩ h
        refine nx_of hE hm h ?_
        clear hE hm h
        refine c_seq ?_
        refine c_seq ?_
        refine c_region ?_
        refine o_mv st rfl rfl ?_
        refine o_fad st rfl rfl fld30_0 rfl ?_
        refine o_ldc st (v := (.slice a3 l4 q5)) 1 rfl rfl rfl ty28 rfl ?_
        refine o_mv st rfl rfl ?_
        refine o_idx st 3 rfl (reads_snap hv1) rfl rfl rfl el28 ?_; intro e35 h36
        obtain ⟨_, ⟨v38, rfl, sl39⟩, rw37⟩ := sl_open hv1 h36
        refine o_ldR st (u := v38) 3 rfl rw37 rfl rfl ty50 rfl ?_
        refine o_len st el50 3 rfl (reads_snap sl39) rfl rfl ?_
        refine o_lss st rfl rfl rfl ?_
        refine c_nil ?_
        refine l_then ?_
        refine c_cond rfl ?_ ?_
        · refine c_skip ?_
          refine l_then ?_
          refine c_join (σ := Bool) (fun (t120 : Bool) (a : Act) (w : World) => Has 74 [(1, (.pointer (some ⟨b6, 0, none⟩))), (3, v9), (4, v24), (5, (.int .i64 t20)), (6, (.int .i64 t28)), (7, (.bool t120)), (8, (.int .i64 t33))] a ∧ Mem (gB F [] w0) (feet []) w0 [ownCh elBool 4 v9 xs22, cellCh b6 [(.slice a3 l4 q5), (.bool s_0.xAccept)] 30, ownCh elInt 3 v24 xs25, snapCh w0 F] w) ?_ ?_
          · intro k121
            refine c_block ?_
            refine c_seq ?_
            refine c_region ?_
            refine o_fad st rfl rfl fld30_0 rfl ?_
            refine o_ldc st (v := (.slice a3 l4 q5)) 1 rfl rfl rfl ty28 rfl ?_
            refine o_mv st rfl rfl ?_
            refine o_idx st 3 rfl (reads_snap hv1) rfl rfl rfl el28 ?_; intro e41 h42
            obtain ⟨_, ⟨v44, rfl, sl45⟩, rw43⟩ := sl_open hv1 h42
            refine o_ldR st (u := v44) 3 rfl rw43 rfl rfl ty50 rfl ?_
            refine o_mv st rfl rfl ?_
            refine o_idx st 3 rfl (reads_snap sl45) rfl rfl rfl el50 ?_; intro e47 h48
            obtain ⟨_, ⟨v50, rfl, sl51⟩, rw49⟩ := sl_open sl45 h48
            refine o_ldR st (u := (.agg #[v50, (.int .i64 e47.xAction), (.int .i64 e47.xChain)])) 3 rfl rw49 rfl rfl ty54 rfl ?_
            refine stw (o_alloc rfl [(.slice none 0 0), (.int .i64 0), (.int .i64 0)] zero54 ?_); intro b53
            obtain ⟨a55, l56, q57, hs_⟩ := sl_val sl51; subst hs_
            refine stw (o_stc (cs' := [(.slice a55 l56 q57), (.int .i64 e47.xAction), (.int .i64 e47.xChain)]) 0 rfl rfl rfl ty54 rfl rfl rfl rfl ?_)
            refine c_nil ?_
            refine l_then ?_
            refine c_region ?_
            refine o_mv st rfl rfl ?_
            refine o_mv st rfl rfl ?_
            refine st_sp (dj := 53) rfl ?_ ?_
            · refine o_fad (st_g rfl rfl) rfl rfl fld54_1 rfl ?_
              refine o_ldc (st_g rfl rfl) (v := (.int .i64 e47.xAction)) 0 rfl rfl rfl ty3 rfl ?_
              refine o_neq (st_g rfl rfl) und3 rfl rfl rfl ?_
              refine o_mv (st_g rfl rfl) rfl rfl ?_
              refine st_sp (dj := 57) rfl ?_ ?_
              · refine st_s rfl rfl rfl rfl ?_
                refine st_s rfl rfl rfl rfl ?_
                refine st_s rfl rfl rfl rfl ?_
                refine st_s rfl rfl rfl rfl ?_
                refine st_s rfl rfl rfl rfl ?_
                refine o_pickT (st_g rfl rfl) rfl rfl rfl ?_
                refine o_pickT st rfl rfl rfl ?_
                refine o_as st rfl rfl ?_
                refine c_nil ?_
                refine b_norm ?_
                exact l_join true (fun a w hE hm => ⟨hE.sub ⟨rfl, rfl, rfl, rfl, rfl, rfl, rfl, trivial⟩, (hm.pick [1, 2, 3, 4] rfl)⟩)
              · refine o_mv (st_g rfl rfl) rfl rfl ?_
                refine o_fad (st_g rfl rfl) rfl rfl fld54_2 rfl ?_
                refine o_ldc (st_g rfl rfl) (v := (.int .i64 e47.xChain)) 0 rfl rfl rfl ty3 rfl ?_
                refine o_idx (st_g rfl rfl) 1 rfl reads_own rfl rfl rfl el97 ?_; intro e58 h59
                refine o_lds (st_g rfl rfl) (enc := encBool) (u := (.bool e58)) 1 rfl reads_own flelBool rfl h59 rfl rfl ty4 rfl ?_
                refine o_pickF (st_g rfl rfl) rfl rfl rfl ?_
                refine o_pickT st rfl rfl rfl ?_
                refine o_as st rfl rfl ?_
                refine c_nil ?_
                refine b_norm ?_
                exact l_join e58 (fun a w hE hm => ⟨hE.sub ⟨rfl, rfl, rfl, rfl, rfl, rfl, rfl, trivial⟩, (hm.pick [1, 2, 3, 4] rfl)⟩)
            · refine st_s rfl rfl rfl rfl ?_
              refine st_s rfl rfl rfl rfl ?_
              refine st_s rfl rfl rfl rfl ?_
              refine st_s rfl rfl rfl rfl ?_
              refine st_s rfl rfl rfl rfl ?_
              refine st_s rfl rfl rfl rfl ?_
              refine st_s rfl rfl rfl rfl ?_
              refine st_s rfl rfl rfl rfl ?_
              refine st_s rfl rfl rfl rfl ?_
              refine st_s rfl rfl rfl rfl ?_
              refine o_pickF st rfl rfl rfl ?_
              refine o_as st rfl rfl ?_
              refine c_nil ?_
              refine b_norm ?_
              exact l_join false (fun a w hE hm => ⟨hE.sub ⟨rfl, rfl, rfl, rfl, rfl, rfl, rfl, trivial⟩, (hm.pick [1, 2, 3, 4] rfl)⟩)
          · rintro t120 a w ⟨hE, hm⟩ h
            refine nx_of hE hm h ?_
            clear hE hm h
            refine c_region ?_
            refine o_mv st rfl rfl ?_
            refine o_add st rfl rfl rfl ?_; intro t122
            refine o_as st rfl rfl ?_
            refine c_nil ?_
            exact l_join (t120, t122) (fun a w hE hm => ⟨hE.sub ⟨rfl, rfl, rfl, rfl, rfl, rfl, rfl, trivial⟩, (hm.pick [0, 1, 2, 3] rfl)⟩)
        · refine c_exit ?_
          refine l_exit ?_
          refine l_exit ?_
          refine b_exit ?_
          refine l_then ?_
          refine c_seq ?_
          refine c_region ?_
          refine o_mv st rfl rfl ?_
          refine c_nil ?_
          refine l_then ?_
          refine c_cond rfl ?_ ?_
          · refine c_seq ?_
            refine c_region ?_
            refine o_mv st rfl rfl ?_
            refine o_mv st rfl rfl ?_
            refine o_idx st 0 rfl reads_own rfl rfl rfl el97 ?_; intro e123 h124
            refine stw (o_sts (enc := encBool) (y' := true) 0 rfl flelBool rfl h124 ty4 rfl rfl rfl rfl rfl rfl ?_)
            refine c_nil ?_
            refine l_then ?_
            refine c_region ?_
            refine o_mv st rfl rfl ?_
            refine o_mv st rfl rfl ?_
            refine stw (o_bsl (enc := encInt) (qs := [(0, (.int .i64 t28))]) (cells := [(.int .i64 t28)]) ([t28]) flelInt (by intro ρ h; simp only [List.map_toArray, List.map_cons, List.map_nil, h (.tmp 70) _ rfl]) rfl el67 zero3 rfl rfl rfl rfl rfl rfl ?_); intro v126
            refine stw (o_app 3 0 rfl rfl (src_flat flelInt reads_own) rfl rfl rfl el67 rfl zero3 rfl rfl ?_); intro v128
            refine o_as st rfl rfl ?_
            refine c_nil ?_
            refine b_norm ?_
            exact l_join ((xs22.set (t28).toNat true), (xs25 ++ ([t28]))) (fun a w hE hm => ⟨v128, hE.sub ⟨rfl, rfl, rfl, rfl, rfl, trivial⟩, (hm.pick [1, 2, 3, 4] rfl)⟩)
          · refine c_skip ?_
            refine b_norm ?_
            exact l_join (xs22, xs25) (fun a w hE hm => ⟨v24, hE.sub ⟨rfl, rfl, rfl, rfl, rfl, trivial⟩, (hm.pick [0, 1, 2, 3] rfl)⟩)
      · rintro ⟨xs190, xs192⟩ a w ⟨v193, hE, hm⟩ h
        refine nx_of hE hm h ?_
        clear hE hm h
        refine c_region ?_
        refine o_mv st rfl rfl ?_
        refine o_add st rfl rfl rfl ?_; intro t196
        refine o_as st rfl rfl ?_
        refine c_nil ?_
        exact l_join (xs190, xs192, t196) (fun a w hE hm => ⟨v193, hE.sub ⟨rfl, rfl, rfl, rfl, rfl, trivial⟩, (hm.pick [0, 1, 3, 2] rfl)⟩)
    · refine c_exit ?_
      refine l_exit ?_
      refine l_exit ?_
      refine b_exit ?_
      refine b_norm ?_
      refine l_then ?_
      refine c_region ?_
      refine o_mv st rfl rfl ?_
      refine o_add st rfl rfl rfl ?_; intro t197
      refine o_as st rfl rfl ?_
      refine c_nil ?_
      exact l_join (xs22, xs25, t197) (fun a w hE hm => ⟨v24, hE.sub ⟨rfl, rfl, rfl, rfl, trivial⟩, (hm.pick [0, 1, 2, 3] rfl)⟩)
  · refine c_exit ?_
    refine l_exit ?_
    refine l_exit ?_
    refine b_exit ?_
    refine l_then ?_
    refine c_seq ?_
    refine c_region ?_
    refine o_mv st rfl rfl ?_
    refine o_as st rfl rfl ?_
    refine c_nil ?_
    refine l_then ?_
    refine c_ret ?_
    exact l_end1 Tryd.results48 xs17 v16 (rv_t rfl) (fun w m => NewCh.ofB m [3] rfl)

set_option maxRecDepth 100000 in
set_option maxHeartbeats 8000000 in
theorem w_spec_RulesetValid {w0 : World} {F : Nat → Prop} {v1 : Value} {s_0 : GRuleset} {κ : Bool → Prop} (hF : ∀ b, F b → b < w0.heap.size ∧ ¬ feet [] b) (hv1 : Sl (elSl elGRule) F w0 v1 s_0.xChains) (h : L_spec_RulesetValid s_0 κ) :
    Calls Tryd.prog 24 #[(.agg #[v1, (.bool s_0.xAccept)])] w0 (Ret [] F w0 κ (fun (r : Bool) (u : Unit) => (.bool r)) (fun (r : Bool) (u : Unit) => [])) := by
  refine enterS (args := [(.agg #[v1, (.bool s_0.xAccept)])]) [] hF (Given.nil _ _) Tryd.func24 rfl Tryd.ntmps24 rfl h ?_
  clear h hF
  refine c_seq ?_
  refine c_region ?_
  obtain ⟨a3, l4, q5, hs_⟩ := sl_val hv1; subst hs_
  refine stw (o_box rfl rfl [(.slice a3 l4 q5), (.bool s_0.xAccept)] rfl ?_); intro b6
  refine o_as st rfl rfl ?_
  refine c_nil ?_
  refine l_then ?_
  refine c_seq ?_
  refine c_seq ?_
  refine c_region ?_
  refine o_as st rfl rfl ?_
  refine c_nil ?_
  refine l_then ?_
  refine c_block ?_
  refine c_loop (σ := Int) (fun (t8 : Int) (a : Act) (w : World) => Has 55 [(1, (.pointer (some ⟨b6, 0, none⟩))), (3, (.int .i64 t8))] a ∧ Mem (gB F [] w0) (feet []) w0 [cellCh b6 [(.slice a3 l4 q5), (.bool s_0.xAccept)] 30, snapCh w0 F] w) (fun a w hE hm => ⟨hE.sub ⟨rfl, rfl, trivial⟩, (hm.pick [0, 1] rfl)⟩) ?_
  rintro nx9 t8 a w ⟨hE, hm⟩ h
  refine nx_of hE hm h ?_
  clear hE hm h
  refine c_seq ?_
  refine c_seq ?_
  refine c_region ?_
  refine o_mv st rfl rfl ?_
  refine o_fad st rfl rfl fld30_0 rfl ?_
  refine o_ldc st (v := (.slice a3 l4 q5)) 0 rfl rfl rfl ty28 rfl ?_
  refine o_len st el28 1 rfl (reads_snap hv1) rfl rfl ?_
  refine o_lss st rfl rfl rfl ?_
  refine c_nil ?_
  refine l_then ?_
  refine c_cond rfl ?_ ?_
  · refine c_skip ?_
    refine l_then ?_
    refine c_seq ?_
    refine c_block ?_
    refine c_seq ?_
    refine c_seq ?_
    refine c_region ?_
    refine o_fad st rfl rfl fld30_0 rfl ?_
    refine o_ldc st (v := (.slice a3 l4 q5)) 0 rfl rfl rfl ty28 rfl ?_
    refine o_mv st rfl rfl ?_
    refine o_idx st 1 rfl (reads_snap hv1) rfl rfl rfl el28 ?_; intro e10 h11
    obtain ⟨_, ⟨v13, rfl, sl14⟩, rw12⟩ := sl_open hv1 h11
    refine o_ldR st (u := v13) 1 rfl rw12 rfl rfl ty50 rfl ?_
    refine stw (o_callP (vs := [v13]) Tryd.call46 rfl rfl (by intro w m h; exact (w_spec_RulesValid (F := allB [] w) (list_0 := e10) allB_ok (m.rd0 1 rfl (reads_snap sl14)) h).mono (fun _ _ k => ret_free (fun r u => fr_nil) k)) ?_); rintro r16 _
    refine o_not st rfl rfl ?_
    refine c_nil ?_
    refine l_then ?_
    refine c_cond rfl ?_ ?_
    · refine c_seq ?_
      refine c_region ?_
      refine o_as st rfl rfl ?_
      refine c_nil ?_
      refine l_then ?_
      refine c_ret ?_
      refine l_ret ?_
      refine b_ret ?_
      refine l_ret ?_
      refine l_ret ?_
      refine b_ret ?_
      refine l_ret ?_
      exact l_end1 Tryd.results24 false () (rv_t rfl) (fun _ _ => NewCh.nil _ _ _ _)
    · refine c_skip ?_
      refine l_then ?_
      refine c_seq ?_
      refine c_region ?_
      refine o_as st rfl rfl ?_
      refine c_nil ?_
      refine l_then ?_
      refine c_block ?_
      refine c_loop (σ := Int) (fun (t17 : Int) (a : Act) (w : World) => Has 55 [(1, (.pointer (some ⟨b6, 0, none⟩))), (3, (.int .i64 t8)), (4, (.int .i64 t17))] a ∧ Mem (gB F [] w0) (feet []) w0 [cellCh b6 [(.slice a3 l4 q5), (.bool s_0.xAccept)] 30, snapCh w0 F] w) (fun a w hE hm => ⟨hE.sub ⟨rfl, rfl, rfl, trivial⟩, (hm.pick [0, 1] rfl)⟩) ?_
      rintro nx18 t17 a w ⟨hE, hm⟩ h
      refine nx_of hE hm h ?_
      clear hE hm h
      refine c_seq ?_
      refine c_seq ?_
      refine c_region ?_
      refine o_mv st rfl rfl ?_
      refine o_fad st rfl rfl fld30_0 rfl ?_
      refine o_ldc st (v := (.slice a3 l4 q5)) 0 rfl rfl rfl ty28 rfl ?_
      refine o_mv st rfl rfl ?_
      refine o_idx st 1 rfl (reads_snap hv1) rfl rfl rfl el28 ?_; intro e19 h20
      obtain ⟨_, ⟨v22, rfl, sl23⟩, rw21⟩ := sl_open hv1 h20
      refine o_ldR st (u := v22) 1 rfl rw21 rfl rfl ty50 rfl ?_
      refine o_len st el50 1 rfl (reads_snap sl23) rfl rfl ?_
      refine o_lss st rfl rfl rfl ?_
      refine c_nil ?_
      refine l_then ?_
      refine c_cond rfl ?_ ?_
      · refine c_skip ?_
        refine l_then ?_
        refine c_seq ?_
        refine c_block ?_
        refine c_seq ?_
        refine c_draw mixed 13 rfl [cellCh b6 [(.slice a3 l4 q5), (.bool s_0.xAccept)] 30, snapCh w0 F] ?_
        refine o_fad (dt 0 (fun _ m => m)) rfl rfl fld30_0 rfl ?_
        refine o_ldc (dt 1 (fun _ m => m)) (v := (.slice a3 l4 q5)) 0 rfl rfl rfl ty28 rfl ?_
        refine o_mv (dt 2 (fun _ m => m)) rfl rfl ?_
        refine o_idx (dt 3 (fun _ m => m)) 1 rfl (reads_snap hv1) rfl rfl rfl el28 ?_; intro e25 h26
        obtain ⟨_, ⟨v28, rfl, sl29⟩, rw27⟩ := sl_open hv1 h26
        refine o_ldR (dt 4 (fun _ m => m)) (u := v28) 1 rfl rw27 rfl rfl ty50 rfl ?_
        refine o_mv (dt 5 (fun _ m => m)) rfl rfl ?_
        refine o_idx (dt 6 (fun _ m => m)) 1 rfl (reads_snap sl29) rfl rfl rfl el50 ?_; intro e31 h32
        refine o_fadS (dt 7 (fun _ m => m)) 1 rfl (reads_snap sl29) h32 rfl rfl fld54_2 rfl ?_
        refine o_ldP (dt 8 (fun _ m => m)) (u := (.int .i64 e31.xChain)) 1 rfl (reads_snap sl29) h32 rfl rfl rfl ty3 (fun F w cs h => by obtain ⟨u, rfl, _⟩ := h; rfl) ?_
        refine o_fad (dt 9 (fun _ m => m)) rfl rfl fld30_0 rfl ?_
        refine o_ldc (dt 10 (fun _ m => m)) (v := (.slice a3 l4 q5)) 0 rfl rfl rfl ty28 rfl ?_
        refine o_len (dt 11 (fun _ m => m)) el28 1 rfl (reads_snap hv1) rfl rfl ?_
        refine o_geq (dt 12 (fun _ m => m)) rfl rfl rfl ?_
        refine d_done (by kernel_rfl) ?_
        refine l_then ?_
        refine c_cond rfl ?_ ?_
        · refine c_seq ?_
          refine c_region ?_
          refine o_as st rfl rfl ?_
          refine c_nil ?_
          refine l_then ?_
          refine c_ret ?_
          refine b_ret ?_
          refine l_ret ?_
          refine l_ret ?_
          refine b_ret ?_
          refine b_ret ?_
          refine l_ret ?_
          refine l_ret ?_
          refine b_ret ?_
          refine l_ret ?_
          exact l_end1 Tryd.results24 false () (rv_t rfl) (fun _ _ => NewCh.nil _ _ _ _)
        · refine c_skip ?_
          refine b_norm ?_
          refine l_then ?_
          refine c_region ?_
          refine o_mv st rfl rfl ?_
          refine o_add st rfl rfl rfl ?_; intro t33
          refine o_as st rfl rfl ?_
          refine c_nil ?_
          exact l_join t33 (fun a w hE hm => ⟨hE.sub ⟨rfl, rfl, rfl, trivial⟩, (hm.pick [0, 1] rfl)⟩)
      · refine c_exit ?_
        refine l_exit ?_
        refine l_exit ?_
        refine b_exit ?_
        refine b_norm ?_
        refine l_then ?_
        refine c_region ?_
        refine o_mv st rfl rfl ?_
        refine o_add st rfl rfl rfl ?_; intro t34
        refine o_as st rfl rfl ?_
        refine c_nil ?_
        exact l_join t34 (fun a w hE hm => ⟨hE.sub ⟨rfl, rfl, trivial⟩, (hm.pick [0, 1] rfl)⟩)
  · refine c_exit ?_
    refine l_exit ?_
    refine l_exit ?_
    refine b_exit ?_
    refine l_then ?_
    refine c_join (σ := Bool) (fun (t99 : Bool) (a : Act) (w : World) => Has 55 [(2, (.bool t99))] a ∧ Mem (gB F [] w0) (feet []) w0 [] w) ?_ ?_
    · intro k100
      refine c_draw mixed 14 rfl [cellCh b6 [(.slice a3 l4 q5), (.bool s_0.xAccept)] 30, snapCh w0 F] ?_
      refine o_fad (dt 0 (fun _ m => m)) rfl rfl fld30_0 rfl ?_
      refine o_ldc (dt 1 (fun _ m => m)) (v := (.slice a3 l4 q5)) 0 rfl rfl rfl ty28 rfl ?_
      refine o_len (dt 2 (fun _ m => m)) el28 1 rfl (reads_snap hv1) rfl rfl ?_
      refine d_one (i := 3) rfl (by kernel_rfl) (o_callP (vs := [(.int .i64 (s_0.xChains.length : Int)), (.int .i64 1), (.int .i64 5)]) Tryd.call47 rfl rfl (by intro w m h; exact (w_spec_l1In (F := allB [] w) (n_0 := (s_0.xChains.length : Int)) (lo_1 := 1) (hi_2 := 5) allB_ok h).mono (fun _ _ k => ret_free (fun r u => fr_nil) k)) ?_); rintro r35 _
      refine d_and (fun _ m => m) ?_
      refine o_mv (dt 4 (fun _ m => m)) rfl rfl ?_
      refine st_sp (dj := 46) rfl ?_ ?_
      · refine o_ldc (dtg 5 (fun _ m => m)) (v := (.agg #[(.slice a3 l4 q5), (.bool s_0.xAccept)])) 0 rfl rfl rfl ty30 rfl ?_
        refine o_fad (dtg 8 (fun _ m => m)) rfl rfl fld30_0 rfl ?_
        refine o_ldc (dtg 9 (fun _ m => m)) (v := (.slice a3 l4 q5)) 0 rfl rfl rfl ty28 rfl ?_
        refine o_len (dtg 10 (fun _ m => m)) el28 1 rfl (reads_snap hv1) rfl rfl ?_
        refine d_oneg (i := 6) rfl rfl rfl (by kernel_rfl) (o_callP (vs := [(.agg #[(.slice a3 l4 q5), (.bool s_0.xAccept)])]) Tryd.call48 rfl rfl (by intro w m h; exact (w_spec_l8Order (F := allB [] w) (s_0 := s_0) allB_ok (m.rd0 1 rfl (reads_snap hv1)) h).mono (fun _ _ k => ret_free (fun r u => (fr_cons (free_own flelInt) fr_nil)) k)) ?_); rintro r36 v37
        refine d_and (fun w m => m.pick [1, 2] rfl) ?_
        refine d_oneg (i := 7) rfl rfl rfl (by kernel_rfl) (o_len m_op el67 0 rfl reads_own rfl rfl ?_)
        refine d_and (fun w m => m.pick [1, 2] rfl) ?_
        refine o_eql (dtg 11 (fun w m => m.pick [1, 2] rfl)) und3 rfl rfl rfl ?_
        refine o_pickT (dt 12 (fun w m => m.pick [1, 2] rfl)) rfl rfl rfl ?_
        refine o_as (dt 13 (fun w m => m.pick [1, 2] rfl)) rfl rfl ?_
        refine d_done (by kernel_rfl) ?_
        exact l_join (decide ((r36.length : Int) = (s_0.xChains.length : Int))) (fun a w hE hm => ⟨hE.sub ⟨rfl, trivial⟩, (hm.pick [] rfl)⟩)
      · refine dsk 5 (fun _ m => m) rfl (by kernel_rfl) rfl rfl rfl rfl ?_
        refine dsk 6 (fun _ m => m) rfl (by kernel_rfl) rfl rfl rfl rfl ?_
        refine dsk 7 (fun _ m => m) rfl (by kernel_rfl) rfl rfl rfl rfl ?_
        refine dsk 8 (fun _ m => m) rfl (by kernel_rfl) rfl rfl rfl rfl ?_
        refine dsk 9 (fun _ m => m) rfl (by kernel_rfl) rfl rfl rfl rfl ?_
        refine dsk 10 (fun _ m => m) rfl (by kernel_rfl) rfl rfl rfl rfl ?_
        refine dsk 11 (fun _ m => m) rfl (by kernel_rfl) rfl rfl rfl rfl ?_
        refine o_pickF (dt 12 (fun _ m => m)) rfl rfl rfl ?_
        refine o_as (dt 13 (fun _ m => m)) rfl rfl ?_
        refine d_done (by kernel_rfl) ?_
        exact l_join false (fun a w hE hm => ⟨hE.sub ⟨rfl, trivial⟩, (hm.pick [] rfl)⟩)
    · rintro t99 a w ⟨hE, hm⟩ h
      refine nx_of hE hm h ?_
      clear hE hm h
      refine c_ret ?_
      exact l_end1 Tryd.results24 t99 () (rv_t rfl) (fun _ _ => NewCh.nil _ _ _ _)

set_option maxRecDepth 100000 in
set_option maxHeartbeats 8000000 in
theorem w_spec_l3Number {w0 : World} {F : Nat → Prop} {n_0 : Int} {κ : ByteArray → Prop} (hF : ∀ b, F b → b < w0.heap.size ∧ ¬ feet [] b) (h : L_spec_l3Number n_0 κ) :
    Calls Tryd.prog 34 #[(.int .i64 n_0)] w0 (Ret [] F w0 κ (fun (r : ByteArray) (u : Unit) => (.string r)) (fun (r : ByteArray) (u : Unit) => [])) := by
  refine enter0 (args := [(.int .i64 n_0)]) [] hF (Given.nil _ _) Tryd.func34 rfl Tryd.ntmps34 rfl h ?_
  clear h hF
  refine c_seq ?_
  refine c_region ?_
  refine o_as st rfl rfl ?_
  refine c_nil ?_
  refine l_then ?_
  refine c_seq ?_
  refine c_region ?_
  refine o_mv st rfl rfl ?_
  refine o_rem st rfl rfl rfl ?_; intro t1
  refine o_add st rfl rfl rfl ?_; intro t2
  refine o_cnvU st und3 und5 rfl rfl ?_; intro t3
  refine stw (o_bsl (enc := encU8) (qs := [(0, (.int .u8 (t3.toNat : Int)))]) (cells := [(.int .u8 (t3.toNat : Int))]) ([t3]) flelU8 (by intro ρ h; simp only [List.map_toArray, List.map_cons, List.map_nil, h (.tmp 7) _ rfl]) rfl el40 zero5 rfl rfl rfl rfl rfl rfl ?_); intro v4
  refine o_b2s st 0 rfl reads_own flelU8 rfl und40 und5 und9 rfl rfl ?_
  refine o_as st rfl rfl ?_
  refine c_nil ?_
  refine l_then ?_
  refine c_seq ?_
  refine c_block ?_
  refine c_loop (σ := (Int × ByteArray)) (fun ((t6, t7) : (Int × ByteArray)) (a : Act) (w : World) => Has 23 [(0, (.int .i64 t6)), (3, (.string t7))] a ∧ Mem (gB F [] w0) (feet []) w0 [] w) (fun a w hE hm => ⟨hE.sub ⟨rfl, rfl, trivial⟩, (hm.pick [] rfl)⟩) ?_
  rintro nx8 ⟨t6, t7⟩ a w ⟨hE, hm⟩ h
  refine nx_of hE hm h ?_
  clear hE hm h
  refine c_seq ?_
  refine c_seq ?_
  refine c_region ?_
  refine o_mv st rfl rfl ?_
  refine o_gtr st rfl rfl rfl ?_
  refine c_nil ?_
  refine l_then ?_
  refine c_cond rfl ?_ ?_
  · refine c_skip ?_
    refine l_then ?_
    refine c_block ?_
    refine c_seq ?_
    refine c_region ?_
    refine o_mv st rfl rfl ?_
    refine o_quo st rfl rfl rfl ?_; intro t9
    refine o_as st rfl rfl ?_
    refine c_nil ?_
    refine l_then ?_
    refine c_region ?_
    refine o_mv st rfl rfl ?_
    refine o_rem st rfl rfl rfl ?_; intro t10
    refine o_add st rfl rfl rfl ?_; intro t11
    refine o_cnvU st und3 und5 rfl rfl ?_; intro t12
    refine stw (o_bsl (enc := encU8) (qs := [(0, (.int .u8 (t12.toNat : Int)))]) (cells := [(.int .u8 (t12.toNat : Int))]) ([t12]) flelU8 (by intro ρ h; simp only [List.map_toArray, List.map_cons, List.map_nil, h (.tmp 17) _ rfl]) rfl el40 zero5 rfl rfl rfl rfl rfl rfl ?_); intro v13
    refine o_b2s st 0 rfl reads_own flelU8 rfl und40 und5 und9 rfl rfl ?_
    refine o_mv st rfl rfl ?_
    refine o_cat st rfl rfl rfl ?_; intro s15
    refine o_as st rfl rfl ?_
    refine c_nil ?_
    refine b_norm ?_
    exact l_join (t9, s15) (fun a w hE hm => ⟨hE.sub ⟨rfl, rfl, trivial⟩, (hm.pick [] rfl)⟩)
  · refine c_exit ?_
    refine l_exit ?_
    refine l_exit ?_
    refine b_exit ?_
    refine l_then ?_
    refine c_seq ?_
    refine c_region ?_
    refine o_mv st rfl rfl ?_
    refine o_as st rfl rfl ?_
    refine c_nil ?_
    refine l_then ?_
    refine c_ret ?_
    exact l_end1 Tryd.results34 t7 () (rv_t rfl) (fun _ _ => NewCh.nil _ _ _ _)

set_option maxRecDepth 100000 in
set_option maxHeartbeats 8000000 in
theorem w_spec_TestText {w0 : World} {F : Nat → Prop} {t_0 : GTest} {κ : ByteArray → Prop} (hF : ∀ b, F b → b < w0.heap.size ∧ ¬ feet [] b) (h : L_spec_TestText t_0 κ) :
    Calls Tryd.prog 59 #[(.agg #[(.int .i64 t_0.xField), (.int .i64 t_0.xLo), (.int .i64 t_0.xHi), (.bool t_0.xNot)])] w0 (Ret [] F w0 κ (fun (r : ByteArray) (u : Unit) => (.string r)) (fun (r : ByteArray) (u : Unit) => [])) := by
  refine enter0 (args := [(.agg #[(.int .i64 t_0.xField), (.int .i64 t_0.xLo), (.int .i64 t_0.xHi), (.bool t_0.xNot)])]) [] hF (Given.nil _ _) Tryd.func59 rfl Tryd.ntmps59 rfl h ?_
  clear h hF
  refine c_seq ?_
  refine c_region ?_
  refine stw (o_box rfl rfl [(.int .i64 t_0.xField), (.int .i64 t_0.xLo), (.int .i64 t_0.xHi), (.bool t_0.xNot)] rfl ?_); intro b1
  refine o_as st rfl rfl ?_
  refine c_nil ?_
  refine l_then ?_
  refine c_seq ?_
  refine c_seq ?_
  refine c_region ?_
  refine o_ldc st (v := (.agg #[(.int .i64 t_0.xField), (.int .i64 t_0.xLo), (.int .i64 t_0.xHi), (.bool t_0.xNot)])) 0 rfl rfl rfl ty84 rfl ?_
  refine stw (o_callP (vs := [(.agg #[(.int .i64 t_0.xField), (.int .i64 t_0.xLo), (.int .i64 t_0.xHi), (.bool t_0.xNot)])]) Tryd.call79 rfl rfl (by intro w m h; exact (w_spec_TestValid (F := allB [] w) (t_0 := t_0) allB_ok h).mono (fun _ _ k => ret_free (fun r u => fr_nil) k)) ?_); rintro r3 _
  refine o_not st rfl rfl ?_
  refine c_nil ?_
  refine l_then ?_
  refine c_cond rfl ?_ ?_
  · refine c_seq ?_
    refine c_region ?_
    refine o_as st rfl rfl ?_
    refine c_nil ?_
    refine l_then ?_
    refine c_ret ?_
    refine l_ret ?_
    exact l_end1 Tryd.results59 (ByteArray.mk #[]) () (rv_t rfl) (fun _ _ => NewCh.nil _ _ _ _)
  · refine c_skip ?_
    refine l_then ?_
    refine c_join (σ := ByteArray) (fun (t4 : ByteArray) (a : Act) (w : World) => Has 33 [(1, (.pointer (some ⟨b1, 0, none⟩))), (3, (.string t4))] a ∧ Mem (gB F [] w0) (feet []) w0 [cellCh b1 [(.int .i64 t_0.xField), (.int .i64 t_0.xLo), (.int .i64 t_0.xHi), (.bool t_0.xNot)] 84] w) ?_ ?_
    · intro k5
      refine c_drawQ mixed 11 rfl [cellCh b1 [(.int .i64 t_0.xField), (.int .i64 t_0.xLo), (.int .i64 t_0.xHi), (.bool t_0.xNot)] 84] ?_
      intro Qd hP hQ
      have H2 : ∀ (v6 : Value) (e7 : ByteArray) (h8 : ([(ByteArray.mk #[102, 114, 111, 109]), (ByteArray.mk #[116, 111]), (ByteArray.mk #[112, 111, 114, 116]), (ByteArray.mk #[112, 114, 111, 116, 111])])[(t_0.xField).toNat]? = some e7) (s9 : ByteArray) (r10 : ByteArray), Nx 33 (gB F [] w0) (feet []) w0 (wpAnyH Tryd.prog .any (opsAt Tryd.f59 [1, 1, 0]) Qd (Mem (gB F [] w0) (feet []) w0 [cellCh b1 [(.int .i64 t_0.xField), (.int .i64 t_0.xLo), (.int .i64 t_0.xHi), (.bool t_0.xNot)] 84]) 2 #[true, true, true, true, true, true, true, true, true, false, false]) [(1, (.pointer (some ⟨b1, 0, none⟩))), (12, (.string s9)), (15, (.string r10))] [cellCh b1 [(.int .i64 t_0.xField), (.int .i64 t_0.xLo), (.int .i64 t_0.xHi), (.bool t_0.xNot)] 84] (catW s9 r10 (fun s11 => k5 s11)) := by
        intro v6 e7 h8 s9 r10
        refine o_cat (dt 9 (fun _ m => m)) rfl rfl rfl ?_; intro s11
        refine o_as (dt 10 (fun _ m => m)) rfl rfl ?_
        refine d_done (by kernel_rfl) ?_
        exact fun a w hE hm hφ => hQ s11 a w hφ ((fun a w hE hm => ⟨hE.sub ⟨rfl, rfl, trivial⟩, (hm.pick [0] rfl)⟩) a w hE hm)
      have H3 : ∀ (v6 : Value) (e7 : ByteArray) (h8 : ([(ByteArray.mk #[102, 114, 111, 109]), (ByteArray.mk #[116, 111]), (ByteArray.mk #[112, 111, 114, 116]), (ByteArray.mk #[112, 114, 111, 116, 111])])[(t_0.xField).toNat]? = some e7), Nx 33 (gB F [] w0) (feet []) w0 (wpAnyH Tryd.prog .any (opsAt Tryd.f59 [1, 1, 0]) Qd (Mem (gB F [] w0) (feet []) w0 [cellCh b1 [(.int .i64 t_0.xField), (.int .i64 t_0.xLo), (.int .i64 t_0.xHi), (.bool t_0.xNot)] 84]) 4 #[true, true, true, true, true, false, true, true, false, false, false]) [(1, (.pointer (some ⟨b1, 0, none⟩))), (14, (.int .i64 t_0.xLo)), (11, (.string e7))] [cellCh b1 [(.int .i64 t_0.xField), (.int .i64 t_0.xLo), (.int .i64 t_0.xHi), (.bool t_0.xNot)] 84] (catW e7 (ByteArray.mk #[32]) (fun s9 => L_spec_l3Number t_0.xLo (fun r10 => catW s9 r10 (fun s11 => k5 s11)))) := by
        intro v6 e7 h8
        refine o_cat (dt 5 (fun _ m => m)) rfl rfl rfl ?_; intro s9
        refine d_one (i := 8) rfl (by kernel_rfl) (o_callP (vs := [(.int .i64 t_0.xLo)]) Tryd.call34 rfl rfl (by intro w m h; exact (w_spec_l3Number (F := allB [] w) (n_0 := t_0.xLo) allB_ok h).mono (fun _ _ k => ret_free (fun r u => fr_nil) k)) ?_); rintro r10 _
        refine d_and (fun _ m => m) ?_
        refine pk [0] rfl ?_
        refine re (E' := [(1, (.pointer (some ⟨b1, 0, none⟩))), (12, (.string s9)), (15, (.string r10))]) ⟨rfl, rfl, rfl, trivial⟩ ?_
        exact H2 v6 e7 h8 s9 r10
      have H4 : ∀ (v6 : Value) (e7 : ByteArray) (h8 : ([(ByteArray.mk #[102, 114, 111, 109]), (ByteArray.mk #[116, 111]), (ByteArray.mk #[112, 111, 114, 116]), (ByteArray.mk #[112, 114, 111, 116, 111])])[(t_0.xField).toNat]? = some e7) (r12 : ByteArray), Nx 33 (gB F [] w0) (feet []) w0 (wpAnyH Tryd.prog .any (opsAt Tryd.f59 [1, 1, 0]) Qd (Mem (gB F [] w0) (feet []) w0 [cellCh b1 [(.int .i64 t_0.xField), (.int .i64 t_0.xLo), (.int .i64 t_0.xHi), (.bool t_0.xNot)] 84]) 3 #[true, true, true, true, true, false, true, true, true, false, false]) [(1, (.pointer (some ⟨b1, 0, none⟩))), (15, (.string r12)), (11, (.string e7))] [cellCh b1 [(.int .i64 t_0.xField), (.int .i64 t_0.xLo), (.int .i64 t_0.xHi), (.bool t_0.xNot)] 84] (catW e7 (ByteArray.mk #[32]) (fun s13 => catW s13 r12 (fun s14 => k5 s14))) := by
        intro v6 e7 h8 r12
        refine o_cat (dt 5 (fun _ m => m)) rfl rfl rfl ?_; intro s13
        refine o_cat (dt 9 (fun _ m => m)) rfl rfl rfl ?_; intro s14
        refine o_as (dt 10 (fun _ m => m)) rfl rfl ?_
        refine d_done (by kernel_rfl) ?_
        exact fun a w hE hm hφ => hQ s14 a w hφ ((fun a w hE hm => ⟨hE.sub ⟨rfl, rfl, trivial⟩, (hm.pick [0] rfl)⟩) a w hE hm)
      have H5 : ∀ (v6 : Value) (e7 : ByteArray) (h8 : ([(ByteArray.mk #[102, 114, 111, 109]), (ByteArray.mk #[116, 111]), (ByteArray.mk #[112, 111, 114, 116]), (ByteArray.mk #[112, 114, 111, 116, 111])])[(t_0.xField).toNat]? = some e7) (r12 : ByteArray), Nx 33 (gB F [] w0) (feet []) w0 (wpAnyH Tryd.prog .any (opsAt Tryd.f59 [1, 1, 0]) Qd (Mem (gB F [] w0) (feet []) w0 [cellCh b1 [(.int .i64 t_0.xField), (.int .i64 t_0.xLo), (.int .i64 t_0.xHi), (.bool t_0.xNot)] 84]) 4 #[true, true, true, true, false, false, true, true, true, false, false]) [(1, (.pointer (some ⟨b1, 0, none⟩))), (10, (pEl v6 t_0.xField 1 0)), (15, (.string r12))] [ownCh elStr 9 v6 ([(ByteArray.mk #[102, 114, 111, 109]), (ByteArray.mk #[116, 111]), (ByteArray.mk #[112, 111, 114, 116]), (ByteArray.mk #[112, 114, 111, 116, 111])]), cellCh b1 [(.int .i64 t_0.xField), (.int .i64 t_0.xLo), (.int .i64 t_0.xHi), (.bool t_0.xNot)] 84] (catW e7 (ByteArray.mk #[32]) (fun s13 => catW s13 r12 (fun s14 => k5 s14))) := by
        intro v6 e7 h8 r12
        refine d_one (i := 4) rfl (by kernel_rfl) (o_lds m_op (enc := encStr) (u := (.string e7)) 0 rfl reads_own flelStr rfl h8 rfl rfl ty9 rfl ?_)
        refine d_and (fun w m => m.pick [1] rfl) ?_
        refine pk [1] rfl ?_
        refine re (E' := [(1, (.pointer (some ⟨b1, 0, none⟩))), (15, (.string r12)), (11, (.string e7))]) ⟨rfl, rfl, rfl, trivial⟩ ?_
        exact H4 v6 e7 h8 r12
      have H6 : ∀ (v6 : Value) (e7 : ByteArray) (h8 : ([(ByteArray.mk #[102, 114, 111, 109]), (ByteArray.mk #[116, 111]), (ByteArray.mk #[112, 111, 114, 116]), (ByteArray.mk #[112, 114, 111, 116, 111])])[(t_0.xField).toNat]? = some e7), Nx 33 (gB F [] w0) (feet []) w0 (wpAnyH Tryd.prog .any (opsAt Tryd.f59 [1, 1, 0]) Qd (Mem (gB F [] w0) (feet []) w0 [cellCh b1 [(.int .i64 t_0.xField), (.int .i64 t_0.xLo), (.int .i64 t_0.xHi), (.bool t_0.xNot)] 84]) 5 #[true, true, true, true, false, false, true, true, false, false, false]) [(1, (.pointer (some ⟨b1, 0, none⟩))), (14, (.int .i64 t_0.xLo)), (10, (pEl v6 t_0.xField 1 0))] [ownCh elStr 9 v6 ([(ByteArray.mk #[102, 114, 111, 109]), (ByteArray.mk #[116, 111]), (ByteArray.mk #[112, 111, 114, 116]), (ByteArray.mk #[112, 114, 111, 116, 111])]), cellCh b1 [(.int .i64 t_0.xField), (.int .i64 t_0.xLo), (.int .i64 t_0.xHi), (.bool t_0.xNot)] 84] ((catW e7 (ByteArray.mk #[32]) (fun s9 => L_spec_l3Number t_0.xLo (fun r10 => catW s9 r10 (fun s11 => k5 s11)))) ∧ (L_spec_l3Number t_0.xLo (fun r12 => catW e7 (ByteArray.mk #[32]) (fun s13 => catW s13 r12 (fun s14 => k5 s14))))) := by
        intro v6 e7 h8
        refine d_two (i := 4) (j := 8) rfl rfl (by kernel_rfl) ?_ ?_
        · intro o ho; cases ho
          refine nx_l ?_
          refine o_lds m_op (enc := encStr) (u := (.string e7)) 0 rfl reads_own flelStr rfl h8 rfl rfl ty9 rfl ?_
          refine d_and (fun w m => m.pick [1] rfl) ?_
          refine pk [1] rfl ?_
          refine re (E' := [(1, (.pointer (some ⟨b1, 0, none⟩))), (14, (.int .i64 t_0.xLo)), (11, (.string e7))]) ⟨rfl, rfl, rfl, trivial⟩ ?_
          exact H3 v6 e7 h8
        · intro o ho; cases ho
          refine nx_r ?_
          refine o_callP (vs := [(.int .i64 t_0.xLo)]) Tryd.call34 rfl rfl (by intro w m h; exact (w_spec_l3Number (F := allB [] w) (n_0 := t_0.xLo) allB_ok h).mono (fun _ _ k => ret_free (fun r u => fr_nil) k)) ?_; rintro r12 _
          refine d_and (fun w m => m.pick [1] rfl) ?_
          refine pk [0, 1] rfl ?_
          refine re (E' := [(1, (.pointer (some ⟨b1, 0, none⟩))), (10, (pEl v6 t_0.xField 1 0)), (15, (.string r12))]) ⟨rfl, rfl, rfl, trivial⟩ ?_
          exact H5 v6 e7 h8 r12
      have H7 : ∀ (v6 : Value) (r15 : ByteArray), Nx 33 (gB F [] w0) (feet []) w0 (wpAnyH Tryd.prog .any (opsAt Tryd.f59 [1, 1, 0]) Qd (Mem (gB F [] w0) (feet []) w0 [cellCh b1 [(.int .i64 t_0.xField), (.int .i64 t_0.xLo), (.int .i64 t_0.xHi), (.bool t_0.xNot)] 84]) 5 #[true, true, true, false, false, false, true, true, true, false, false]) [(1, (.pointer (some ⟨b1, 0, none⟩))), (9, (.int .i64 t_0.xField)), (7, v6), (15, (.string r15))] [ownCh elStr 9 v6 ([(ByteArray.mk #[102, 114, 111, 109]), (ByteArray.mk #[116, 111]), (ByteArray.mk #[112, 111, 114, 116]), (ByteArray.mk #[112, 114, 111, 116, 111])]), cellCh b1 [(.int .i64 t_0.xField), (.int .i64 t_0.xLo), (.int .i64 t_0.xHi), (.bool t_0.xNot)] 84] (idxW ([(ByteArray.mk #[102, 114, 111, 109]), (ByteArray.mk #[116, 111]), (ByteArray.mk #[112, 111, 114, 116]), (ByteArray.mk #[112, 114, 111, 116, 111])]) t_0.xField (fun e16 => catW e16 (ByteArray.mk #[32]) (fun s13 => catW s13 r15 (fun s14 => k5 s14)))) := by
        intro v6 r15
        refine d_one (i := 3) rfl (by kernel_rfl) (o_idx m_op 0 rfl reads_own rfl rfl rfl el26 ?_); intro e16 h17
        refine d_and (fun w m => m.pick [1] rfl) ?_
        refine pk [0, 1] rfl ?_
        refine re (E' := [(1, (.pointer (some ⟨b1, 0, none⟩))), (10, (pEl v6 t_0.xField 1 0)), (15, (.string r15))]) ⟨rfl, rfl, rfl, trivial⟩ ?_
        exact H5 v6 e16 h17 r15
      have H8 : ∀ (v6 : Value), Nx 33 (gB F [] w0) (feet []) w0 (wpAnyH Tryd.prog .any (opsAt Tryd.f59 [1, 1, 0]) Qd (Mem (gB F [] w0) (feet []) w0 [cellCh b1 [(.int .i64 t_0.xField), (.int .i64 t_0.xLo), (.int .i64 t_0.xHi), (.bool t_0.xNot)] 84]) 6 #[true, true, true, false, false, false, true, true, false, false, false]) [(1, (.pointer (some ⟨b1, 0, none⟩))), (9, (.int .i64 t_0.xField)), (14, (.int .i64 t_0.xLo)), (7, v6)] [ownCh elStr 9 v6 ([(ByteArray.mk #[102, 114, 111, 109]), (ByteArray.mk #[116, 111]), (ByteArray.mk #[112, 111, 114, 116]), (ByteArray.mk #[112, 114, 111, 116, 111])]), cellCh b1 [(.int .i64 t_0.xField), (.int .i64 t_0.xLo), (.int .i64 t_0.xHi), (.bool t_0.xNot)] 84] ((idxW ([(ByteArray.mk #[102, 114, 111, 109]), (ByteArray.mk #[116, 111]), (ByteArray.mk #[112, 111, 114, 116]), (ByteArray.mk #[112, 114, 111, 116, 111])]) t_0.xField (fun e7 => (catW e7 (ByteArray.mk #[32]) (fun s9 => L_spec_l3Number t_0.xLo (fun r10 => catW s9 r10 (fun s11 => k5 s11)))) ∧ (L_spec_l3Number t_0.xLo (fun r12 => catW e7 (ByteArray.mk #[32]) (fun s13 => catW s13 r12 (fun s14 => k5 s14)))))) ∧ (L_spec_l3Number t_0.xLo (fun r15 => idxW ([(ByteArray.mk #[102, 114, 111, 109]), (ByteArray.mk #[116, 111]), (ByteArray.mk #[112, 111, 114, 116]), (ByteArray.mk #[112, 114, 111, 116, 111])]) t_0.xField (fun e16 => catW e16 (ByteArray.mk #[32]) (fun s13 => catW s13 r15 (fun s14 => k5 s14)))))) := by
        intro v6
        refine d_two (i := 3) (j := 8) rfl rfl (by kernel_rfl) ?_ ?_
        · intro o ho; cases ho
          refine nx_l ?_
          refine o_idx m_op 0 rfl reads_own rfl rfl rfl el26 ?_; intro e7 h8
          refine d_and (fun w m => m.pick [1] rfl) ?_
          refine pk [0, 1] rfl ?_
          refine re (E' := [(1, (.pointer (some ⟨b1, 0, none⟩))), (14, (.int .i64 t_0.xLo)), (10, (pEl v6 t_0.xField 1 0))]) ⟨rfl, rfl, rfl, trivial⟩ ?_
          exact H6 v6 e7 h8
        · intro o ho; cases ho
          refine nx_r ?_
          refine o_callP (vs := [(.int .i64 t_0.xLo)]) Tryd.call34 rfl rfl (by intro w m h; exact (w_spec_l3Number (F := allB [] w) (n_0 := t_0.xLo) allB_ok h).mono (fun _ _ k => ret_free (fun r u => fr_nil) k)) ?_; rintro r15 _
          refine d_and (fun w m => m.pick [1] rfl) ?_
          refine pk [0, 1] rfl ?_
          refine re (E' := [(1, (.pointer (some ⟨b1, 0, none⟩))), (9, (.int .i64 t_0.xField)), (7, v6), (15, (.string r15))]) ⟨rfl, rfl, rfl, rfl, trivial⟩ ?_
          exact H7 v6 r15
      have H9 : ∀ (r18 : ByteArray), Nx 33 (gB F [] w0) (feet []) w0 (wpAnyH Tryd.prog .any (opsAt Tryd.f59 [1, 1, 0]) Qd (Mem (gB F [] w0) (feet []) w0 [cellCh b1 [(.int .i64 t_0.xField), (.int .i64 t_0.xLo), (.int .i64 t_0.xHi), (.bool t_0.xNot)] 84]) 6 #[false, true, true, false, false, false, true, true, true, false, false]) [(1, (.pointer (some ⟨b1, 0, none⟩))), (9, (.int .i64 t_0.xField)), (15, (.string r18))] [cellCh b1 [(.int .i64 t_0.xField), (.int .i64 t_0.xLo), (.int .i64 t_0.xHi), (.bool t_0.xNot)] 84] (idxW ([(ByteArray.mk #[102, 114, 111, 109]), (ByteArray.mk #[116, 111]), (ByteArray.mk #[112, 111, 114, 116]), (ByteArray.mk #[112, 114, 111, 116, 111])]) t_0.xField (fun e16 => catW e16 (ByteArray.mk #[32]) (fun s13 => catW s13 r18 (fun s14 => k5 s14)))) := by
        intro r18
        refine d_one (i := 0) rfl (by kernel_rfl) (o_bsl (enc := encStr) (qs := [(0, (.string (ByteArray.mk #[102, 114, 111, 109]))), (1, (.string (ByteArray.mk #[116, 111]))), (2, (.string (ByteArray.mk #[112, 111, 114, 116]))), (3, (.string (ByteArray.mk #[112, 114, 111, 116, 111])))]) (cells := [(.string (ByteArray.mk #[102, 114, 111, 109])), (.string (ByteArray.mk #[116, 111])), (.string (ByteArray.mk #[112, 111, 114, 116])), (.string (ByteArray.mk #[112, 114, 111, 116, 111]))]) ([(ByteArray.mk #[102, 114, 111, 109]), (ByteArray.mk #[116, 111]), (ByteArray.mk #[112, 111, 114, 116]), (ByteArray.mk #[112, 114, 111, 116, 111])]) flelStr (by intro ρ h; simp only [List.map_toArray, List.map_cons, List.map_nil, h (.const (.string (ByteArray.mk #[102, 114, 111, 109]))) _ rfl, h (.const (.string (ByteArray.mk #[116, 111]))) _ rfl, h (.const (.string (ByteArray.mk #[112, 111, 114, 116]))) _ rfl, h (.const (.string (ByteArray.mk #[112, 114, 111, 116, 111]))) _ rfl]) rfl el26 zero9 rfl rfl rfl rfl rfl rfl ?_); intro v19
        refine d_and (fun w m => m.pick [1] rfl) ?_
        refine pk [0, 1] rfl ?_
        refine re (E' := [(1, (.pointer (some ⟨b1, 0, none⟩))), (9, (.int .i64 t_0.xField)), (7, v19), (15, (.string r18))]) ⟨rfl, rfl, rfl, rfl, trivial⟩ ?_
        exact H7 v19 r18
      refine o_fad (dt 1 (fun _ m => m)) rfl rfl fld84_0 rfl ?_
      refine o_ldc (dt 2 (fun _ m => m)) (v := (.int .i64 t_0.xField)) 0 rfl rfl rfl ty3 rfl ?_
      refine o_fad (dt 6 (fun _ m => m)) rfl rfl fld84_1 rfl ?_
      refine o_ldc (dt 7 (fun _ m => m)) (v := (.int .i64 t_0.xLo)) 0 rfl rfl rfl ty3 rfl ?_
      refine d_two (i := 0) (j := 8) rfl rfl (by kernel_rfl) ?_ ?_
      · intro o ho; cases ho
        refine nx_l ?_
        refine o_bsl (enc := encStr) (qs := [(0, (.string (ByteArray.mk #[102, 114, 111, 109]))), (1, (.string (ByteArray.mk #[116, 111]))), (2, (.string (ByteArray.mk #[112, 111, 114, 116]))), (3, (.string (ByteArray.mk #[112, 114, 111, 116, 111])))]) (cells := [(.string (ByteArray.mk #[102, 114, 111, 109])), (.string (ByteArray.mk #[116, 111])), (.string (ByteArray.mk #[112, 111, 114, 116])), (.string (ByteArray.mk #[112, 114, 111, 116, 111]))]) ([(ByteArray.mk #[102, 114, 111, 109]), (ByteArray.mk #[116, 111]), (ByteArray.mk #[112, 111, 114, 116]), (ByteArray.mk #[112, 114, 111, 116, 111])]) flelStr (by intro ρ h; simp only [List.map_toArray, List.map_cons, List.map_nil, h (.const (.string (ByteArray.mk #[102, 114, 111, 109]))) _ rfl, h (.const (.string (ByteArray.mk #[116, 111]))) _ rfl, h (.const (.string (ByteArray.mk #[112, 111, 114, 116]))) _ rfl, h (.const (.string (ByteArray.mk #[112, 114, 111, 116, 111]))) _ rfl]) rfl el26 zero9 rfl rfl rfl rfl rfl rfl ?_; intro v6
        refine d_and (fun w m => m.pick [1] rfl) ?_
        refine pk [0, 1] rfl ?_
        refine re (E' := [(1, (.pointer (some ⟨b1, 0, none⟩))), (9, (.int .i64 t_0.xField)), (14, (.int .i64 t_0.xLo)), (7, v6)]) ⟨rfl, rfl, rfl, rfl, trivial⟩ ?_
        exact H8 v6
      · intro o ho; cases ho
        refine nx_r ?_
        refine o_callP (vs := [(.int .i64 t_0.xLo)]) Tryd.call34 rfl rfl (by intro w m h; exact (w_spec_l3Number (F := allB [] w) (n_0 := t_0.xLo) allB_ok h).mono (fun _ _ k => ret_free (fun r u => fr_nil) k)) ?_; rintro r18 _
        refine d_and (fun _ m => m) ?_
        refine pk [0] rfl ?_
        refine re (E' := [(1, (.pointer (some ⟨b1, 0, none⟩))), (9, (.int .i64 t_0.xField)), (15, (.string r18))]) ⟨rfl, rfl, rfl, trivial⟩ ?_
        exact H9 r18
    · rintro t4 a w ⟨hE, hm⟩ h
      refine nx_of hE hm h ?_
      clear hE hm h
      refine c_join (σ := ByteArray) (fun (t81 : ByteArray) (a : Act) (w : World) => Has 33 [(1, (.pointer (some ⟨b1, 0, none⟩))), (3, (.string t81))] a ∧ Mem (gB F [] w0) (feet []) w0 [cellCh b1 [(.int .i64 t_0.xField), (.int .i64 t_0.xLo), (.int .i64 t_0.xHi), (.bool t_0.xNot)] 84] w) ?_ ?_
      · intro k82
        refine c_seq ?_
        refine c_region ?_
        refine o_fad st rfl rfl fld84_3 rfl ?_
        refine o_ldc st (v := (.bool t_0.xNot)) 0 rfl rfl rfl ty4 rfl ?_
        refine c_nil ?_
        refine l_then ?_
        refine c_cond rfl ?_ ?_
        · refine c_region ?_
          refine o_mv st rfl rfl ?_
          refine o_cat st rfl rfl rfl ?_; intro s20
          refine o_as st rfl rfl ?_
          refine c_nil ?_
          exact l_join s20 (fun a w hE hm => ⟨hE.sub ⟨rfl, rfl, trivial⟩, (hm.pick [0] rfl)⟩)
        · refine c_skip ?_
          exact l_join t4 (fun a w hE hm => ⟨hE.sub ⟨rfl, rfl, trivial⟩, (hm.pick [0] rfl)⟩)
      · rintro t81 a w ⟨hE, hm⟩ h
        refine nx_of hE hm h ?_
        clear hE hm h
        refine c_join (σ := ByteArray) (fun (t146 : ByteArray) (a : Act) (w : World) => Has 33 [(3, (.string t146))] a ∧ Mem (gB F [] w0) (feet []) w0 [] w) ?_ ?_
        · intro k147
          refine c_seq ?_
          refine c_region ?_
          refine o_fad st rfl rfl fld84_2 rfl ?_
          refine o_ldc st (v := (.int .i64 t_0.xHi)) 0 rfl rfl rfl ty3 rfl ?_
          refine o_fad st rfl rfl fld84_1 rfl ?_
          refine o_ldc st (v := (.int .i64 t_0.xLo)) 0 rfl rfl rfl ty3 rfl ?_
          refine o_neq st und3 rfl rfl rfl ?_
          refine c_nil ?_
          refine l_then ?_
          refine c_cond rfl ?_ ?_
          · refine c_region ?_
            refine o_mv st rfl rfl ?_
            refine o_cat st rfl rfl rfl ?_; intro s83
            refine o_fad st rfl rfl fld84_2 rfl ?_
            refine o_ldc st (v := (.int .i64 t_0.xHi)) 0 rfl rfl rfl ty3 rfl ?_
            refine stw (o_callP (vs := [(.int .i64 t_0.xHi)]) Tryd.call34 rfl rfl (by intro w m h; exact (w_spec_l3Number (F := allB [] w) (n_0 := t_0.xHi) allB_ok h).mono (fun _ _ k => ret_free (fun r u => fr_nil) k)) ?_); rintro r84 _
            refine o_cat st rfl rfl rfl ?_; intro s85
            refine o_as st rfl rfl ?_
            refine c_nil ?_
            exact l_join s85 (fun a w hE hm => ⟨hE.sub ⟨rfl, trivial⟩, (hm.pick [] rfl)⟩)
          · refine c_skip ?_
            exact l_join t81 (fun a w hE hm => ⟨hE.sub ⟨rfl, trivial⟩, (hm.pick [] rfl)⟩)
        · rintro t146 a w ⟨hE, hm⟩ h
          refine nx_of hE hm h ?_
          clear hE hm h
          refine c_seq ?_
          refine c_region ?_
          refine o_mv st rfl rfl ?_
          refine o_as st rfl rfl ?_
          refine c_nil ?_
          refine l_then ?_
          refine c_ret ?_
          exact l_end1 Tryd.results59 t146 () (rv_t rfl) (fun _ _ => NewCh.nil _ _ _ _)

set_option maxRecDepth 100000 in
set_option maxHeartbeats 8000000 in
theorem w_spec_RuleText {w0 : World} {F : Nat → Prop} {v1 : Value} {r_0 : GRule} {κ : ByteArray → Prop} (hF : ∀ b, F b → b < w0.heap.size ∧ ¬ feet [] b) (hv1 : Sl elGTest F w0 v1 r_0.xTests) (h : L_spec_RuleText r_0 κ) :
    Calls Tryd.prog 35 #[(.agg #[v1, (.int .i64 r_0.xAction), (.int .i64 r_0.xChain)])] w0 (Ret [] F w0 κ (fun (r : ByteArray) (u : Unit) => (.string r)) (fun (r : ByteArray) (u : Unit) => [])) := by
  refine enterS (args := [(.agg #[v1, (.int .i64 r_0.xAction), (.int .i64 r_0.xChain)])]) [] hF (Given.nil _ _) Tryd.func35 rfl Tryd.ntmps35 rfl h ?_
  clear h hF
  refine c_seq ?_
  refine c_region ?_
  obtain ⟨a3, l4, q5, hs_⟩ := sl_val hv1; subst hs_
  refine stw (o_box rfl rfl [(.slice a3 l4 q5), (.int .i64 r_0.xAction), (.int .i64 r_0.xChain)] rfl ?_); intro b6
  refine o_as st rfl rfl ?_
  refine c_nil ?_
  refine l_then ?_
  refine c_seq ?_
  refine c_seq ?_
  refine c_region ?_
  refine o_ldc st (v := (.agg #[(.slice a3 l4 q5), (.int .i64 r_0.xAction), (.int .i64 r_0.xChain)])) 0 rfl rfl rfl ty54 rfl ?_
  refine stw (o_callP (vs := [(.agg #[(.slice a3 l4 q5), (.int .i64 r_0.xAction), (.int .i64 r_0.xChain)])]) Tryd.call58 rfl rfl (by intro w m h; exact (w_spec_RuleValid (F := allB [] w) (r_0 := r_0) allB_ok (m.rd0 1 rfl (reads_snap hv1)) h).mono (fun _ _ k => ret_free (fun r u => fr_nil) k)) ?_); rintro r8 _
  refine o_not st rfl rfl ?_
  refine c_nil ?_
  refine l_then ?_
  refine c_cond rfl ?_ ?_
  · refine c_seq ?_
    refine c_region ?_
    refine o_as st rfl rfl ?_
    refine c_nil ?_
    refine l_then ?_
    refine c_ret ?_
    refine l_ret ?_
    exact l_end1 Tryd.results35 (ByteArray.mk #[]) () (rv_t rfl) (fun _ _ => NewCh.nil _ _ _ _)
  · refine c_skip ?_
    refine l_then ?_
    refine c_seq ?_
    refine c_region ?_
    refine stw (o_bsl (enc := encStr) (qs := [(0, (.string (ByteArray.mk #[97, 99, 99, 101, 112, 116]))), (1, (.string (ByteArray.mk #[100, 114, 111, 112]))), (2, (.string (ByteArray.mk #[99, 97, 108, 108]))), (3, (.string (ByteArray.mk #[114, 101, 116, 117, 114, 110]))), (4, (.string (ByteArray.mk #[110, 111, 110, 101])))]) (cells := [(.string (ByteArray.mk #[97, 99, 99, 101, 112, 116])), (.string (ByteArray.mk #[100, 114, 111, 112])), (.string (ByteArray.mk #[99, 97, 108, 108])), (.string (ByteArray.mk #[114, 101, 116, 117, 114, 110])), (.string (ByteArray.mk #[110, 111, 110, 101]))]) ([(ByteArray.mk #[97, 99, 99, 101, 112, 116]), (ByteArray.mk #[100, 114, 111, 112]), (ByteArray.mk #[99, 97, 108, 108]), (ByteArray.mk #[114, 101, 116, 117, 114, 110]), (ByteArray.mk #[110, 111, 110, 101])]) flelStr (by intro ρ h; simp only [List.map_toArray, List.map_cons, List.map_nil, h (.const (.string (ByteArray.mk #[97, 99, 99, 101, 112, 116]))) _ rfl, h (.const (.string (ByteArray.mk #[100, 114, 111, 112]))) _ rfl, h (.const (.string (ByteArray.mk #[99, 97, 108, 108]))) _ rfl, h (.const (.string (ByteArray.mk #[114, 101, 116, 117, 114, 110]))) _ rfl, h (.const (.string (ByteArray.mk #[110, 111, 110, 101]))) _ rfl]) rfl el26 zero9 rfl rfl rfl rfl rfl rfl ?_); intro v9
    refine o_fad st rfl rfl fld54_1 rfl ?_
    refine o_ldc st (v := (.int .i64 r_0.xAction)) 1 rfl rfl rfl ty3 rfl ?_
    refine o_sub st rfl rfl rfl ?_; intro t11
    refine o_idx st 0 rfl reads_own rfl rfl rfl el26 ?_; intro e12 h13
    refine o_lds st (enc := encStr) (u := (.string e12)) 0 rfl reads_own flelStr rfl h13 rfl rfl ty9 rfl ?_
    refine o_as st rfl rfl ?_
    refine c_nil ?_
    refine l_then ?_
    refine c_join (σ := ByteArray) (fun (t77 : ByteArray) (a : Act) (w : World) => Has 40 [(1, (.pointer (some ⟨b6, 0, none⟩))), (3, (.string t77))] a ∧ Mem (gB F [] w0) (feet []) w0 [cellCh b6 [(.slice a3 l4 q5), (.int .i64 r_0.xAction), (.int .i64 r_0.xChain)] 54, snapCh w0 F] w) ?_ ?_
    · intro k78
      refine c_seq ?_
      refine c_region ?_
      refine o_fad st rfl rfl fld54_1 rfl ?_
      refine o_ldc st (v := (.int .i64 r_0.xAction)) 1 rfl rfl rfl ty3 rfl ?_
      refine o_eql st und3 rfl rfl rfl ?_
      refine c_nil ?_
      refine l_then ?_
      refine c_cond rfl ?_ ?_
      · refine c_region ?_
        refine o_mv st rfl rfl ?_
        refine o_cat st rfl rfl rfl ?_; intro s14
        refine o_fad st rfl rfl fld54_2 rfl ?_
        refine o_ldc st (v := (.int .i64 r_0.xChain)) 1 rfl rfl rfl ty3 rfl ?_
        refine stw (o_callP (vs := [(.int .i64 r_0.xChain)]) Tryd.call34 rfl rfl (by intro w m h; exact (w_spec_l3Number (F := allB [] w) (n_0 := r_0.xChain) allB_ok h).mono (fun _ _ k => ret_free (fun r u => fr_nil) k)) ?_); rintro r15 _
        refine o_cat st rfl rfl rfl ?_; intro s16
        refine o_as st rfl rfl ?_
        refine c_nil ?_
        exact l_join s16 (fun a w hE hm => ⟨hE.sub ⟨rfl, rfl, trivial⟩, (hm.pick [1, 2] rfl)⟩)
      · refine c_skip ?_
        exact l_join e12 (fun a w hE hm => ⟨hE.sub ⟨rfl, rfl, trivial⟩, (hm.pick [1, 2] rfl)⟩)
    · rintro t77 a w ⟨hE, hm⟩ h
      refine nx_of hE hm h ?_
      clear hE hm h
      refine c_seq ?_
      refine c_seq ?_
      refine c_region ?_
      refine o_as st rfl rfl ?_
      refine c_nil ?_
      refine l_then ?_
      refine c_block ?_
      refine c_loop (σ := (ByteArray × Int)) (fun ((t79, t80) : (ByteArray × Int)) (a : Act) (w : World) => Has 40 [(1, (.pointer (some ⟨b6, 0, none⟩))), (3, (.string t79)), (4, (.int .i64 t80))] a ∧ Mem (gB F [] w0) (feet []) w0 [cellCh b6 [(.slice a3 l4 q5), (.int .i64 r_0.xAction), (.int .i64 r_0.xChain)] 54, snapCh w0 F] w) (fun a w hE hm => ⟨hE.sub ⟨rfl, rfl, rfl, trivial⟩, (hm.pick [0, 1] rfl)⟩) ?_
      rintro nx81 ⟨t79, t80⟩ a w ⟨hE, hm⟩ h
      refine nx_of hE hm h ?_
      clear hE hm h
      refine c_seq ?_
      refine c_seq ?_
      refine c_region ?_
      refine o_mv st rfl rfl ?_
      refine o_fad st rfl rfl fld54_0 rfl ?_
      refine o_ldc st (v := (.slice a3 l4 q5)) 0 rfl rfl rfl ty52 rfl ?_
      refine o_len st el52 1 rfl (reads_snap hv1) rfl rfl ?_
      refine o_lss st rfl rfl rfl ?_
      refine c_nil ?_
      refine l_then ?_
      refine c_cond rfl ?_ ?_
      · refine c_skip ?_
        refine l_then ?_
        refine c_seq ?_
        refine c_block ?_
        refine c_region ?_
        refine o_mv st rfl rfl ?_
        refine o_cat st rfl rfl rfl ?_; intro s82
        refine o_fad st rfl rfl fld54_0 rfl ?_
        refine o_ldc st (v := (.slice a3 l4 q5)) 0 rfl rfl rfl ty52 rfl ?_
        refine o_mv st rfl rfl ?_
        refine o_idx st 1 rfl (reads_snap hv1) rfl rfl rfl el52 ?_; intro e83 h84
        refine o_lds st (enc := encGTest) (u := (.agg #[(.int .i64 e83.xField), (.int .i64 e83.xLo), (.int .i64 e83.xHi), (.bool e83.xNot)])) 1 rfl (reads_snap hv1) flelGTest rfl h84 rfl rfl ty84 rfl ?_
        refine stw (o_callP (vs := [(.agg #[(.int .i64 e83.xField), (.int .i64 e83.xLo), (.int .i64 e83.xHi), (.bool e83.xNot)])]) Tryd.call59 rfl rfl (by intro w m h; exact (w_spec_TestText (F := allB [] w) (t_0 := e83) allB_ok h).mono (fun _ _ k => ret_free (fun r u => fr_nil) k)) ?_); rintro r85 _
        refine o_cat st rfl rfl rfl ?_; intro s86
        refine o_as st rfl rfl ?_
        refine c_nil ?_
        refine b_norm ?_
        refine l_then ?_
        refine c_region ?_
        refine o_mv st rfl rfl ?_
        refine o_add st rfl rfl rfl ?_; intro t87
        refine o_as st rfl rfl ?_
        refine c_nil ?_
        exact l_join (s86, t87) (fun a w hE hm => ⟨hE.sub ⟨rfl, rfl, rfl, trivial⟩, (hm.pick [0, 1] rfl)⟩)
      · refine c_exit ?_
        refine l_exit ?_
        refine l_exit ?_
        refine b_exit ?_
        refine l_then ?_
        refine c_seq ?_
        refine c_region ?_
        refine o_mv st rfl rfl ?_
        refine o_as st rfl rfl ?_
        refine c_nil ?_
        refine l_then ?_
        refine c_ret ?_
        exact l_end1 Tryd.results35 t79 () (rv_t rfl) (fun _ _ => NewCh.nil _ _ _ _)

set_option maxRecDepth 100000 in
set_option maxHeartbeats 8000000 in
theorem w_impl_FieldTop {w0 : World} {F : Nat → Prop} {n_0 : Int} {κ : Int → Prop} (hF : ∀ b, F b → b < w0.heap.size ∧ ¬ feet [] b) (hgl0 : Sl elGFieldShape F w0 (.slice (some ⟨0, 0, none⟩) 4 4) gl_impl_fieldShapes) (h : L_impl_FieldTop n_0 κ) :
    Calls Tryd.prog 110 #[(.int .i64 n_0)] w0 (Ret [] F w0 κ (fun (r : Int) (u : Unit) => (.int .i64 r)) (fun (r : Int) (u : Unit) => [])) := by
  refine enterS (args := [(.int .i64 n_0)]) [] hF (Given.nil _ _) Tryd.func110 rfl Tryd.ntmps110 rfl h ?_
  clear h hF
  refine c_seq ?_
  refine c_region ?_
  refine o_as st rfl rfl ?_
  refine c_nil ?_
  refine l_then ?_
  refine c_seq ?_
  refine c_join (σ := Bool) (fun (t61 : Bool) (a : Act) (w : World) => Has 13 [(0, (.int .i64 n_0)), (8, (.bool t61))] a ∧ Mem (gB F [] w0) (feet []) w0 [snapCh w0 F] w) ?_ ?_
  · intro k62
    refine c_region ?_
    refine o_mv st rfl rfl ?_
    refine o_lss st rfl rfl rfl ?_
    refine o_mv st rfl rfl ?_
    refine st_sp (dj := 5) rfl ?_ ?_
    · refine st_s rfl rfl rfl rfl ?_
      refine st_s rfl rfl rfl rfl ?_
      refine o_pickT st rfl rfl rfl ?_
      refine c_nil ?_
      exact l_join true (fun a w hE hm => ⟨hE.sub ⟨rfl, rfl, trivial⟩, (hm.pick [0] rfl)⟩)
    · refine o_mv (st_g rfl rfl) rfl rfl ?_
      refine o_geq (st_g rfl rfl) rfl rfl rfl ?_
      refine o_pickF st rfl rfl rfl ?_
      refine c_nil ?_
      exact l_join (decide (4 ≤ n_0)) (fun a w hE hm => ⟨hE.sub ⟨rfl, rfl, trivial⟩, (hm.pick [0] rfl)⟩)
  · rintro t61 a w ⟨hE, hm⟩ h
    refine nx_of hE hm h ?_
    clear hE hm h
    refine c_cond rfl ?_ ?_
    · refine c_seq ?_
      refine c_region ?_
      refine o_as st rfl rfl ?_
      refine c_nil ?_
      refine l_then ?_
      refine c_ret ?_
      refine l_ret ?_
      exact l_end1 Tryd.results110 (-1) () (rv_t rfl) (fun _ _ => NewCh.nil _ _ _ _)
    · refine c_skip ?_
      refine l_then ?_
      refine c_seq ?_
      refine c_region ?_
      refine o_mv st rfl rfl ?_
      refine o_ixa st 0 rfl (reads_snap hgl0) rfl rfl rfl arr123 ?_; intro e63 h64
      refine o_fadS st 0 rfl (reads_snap hgl0) h64 rfl rfl fld122_1 rfl ?_
      refine o_lds st (enc := encGFieldShape) (u := (.int .i64 e63.xTop)) 0 rfl (reads_snap hgl0) flelGFieldShape rfl h64 rfl rfl ty3 rfl ?_
      refine o_as st rfl rfl ?_
      refine c_nil ?_
      refine l_then ?_
      refine c_ret ?_
      exact l_end1 Tryd.results110 e63.xTop () (rv_t rfl) (fun _ _ => NewCh.nil _ _ _ _)

set_option maxRecDepth 100000 in
set_option maxHeartbeats 8000000 in
theorem w_impl_TestValid {w0 : World} {F : Nat → Prop} {t_0 : GTest} {κ : Bool → Prop} (hF : ∀ b, F b → b < w0.heap.size ∧ ¬ feet [] b) (hgl0 : Sl elGFieldShape F w0 (.slice (some ⟨0, 0, none⟩) 4 4) gl_impl_fieldShapes) (h : L_impl_TestValid t_0 κ) :
    Calls Tryd.prog 99 #[(.agg #[(.int .i64 t_0.xField), (.int .i64 t_0.xLo), (.int .i64 t_0.xHi), (.bool t_0.xNot)])] w0 (Ret [] F w0 κ (fun (r : Bool) (u : Unit) => (.bool r)) (fun (r : Bool) (u : Unit) => [])) := by
  refine enterS (args := [(.agg #[(.int .i64 t_0.xField), (.int .i64 t_0.xLo), (.int .i64 t_0.xHi), (.bool t_0.xNot)])]) [] hF (Given.nil _ _) Tryd.func99 rfl Tryd.ntmps99 rfl h ?_
  clear h hF
  refine c_seq ?_
  refine c_region ?_
  refine stw (o_box rfl rfl [(.int .i64 t_0.xField), (.int .i64 t_0.xLo), (.int .i64 t_0.xHi), (.bool t_0.xNot)] rfl ?_); intro b1
  refine o_as st rfl rfl ?_
  refine c_nil ?_
  refine l_then ?_
  refine c_join (σ := Bool) (fun (t64 : Bool) (a : Act) (w : World) => Has 31 [(2, (.bool t64))] a ∧ Mem (gB F [] w0) (feet []) w0 [snapCh w0 F] w) ?_ ?_
  · intro k65
    refine c_draw mixed 29 rfl [cellCh b1 [(.int .i64 t_0.xField), (.int .i64 t_0.xLo), (.int .i64 t_0.xHi), (.bool t_0.xNot)] 84, snapCh w0 F] ?_
    refine o_fad (dt 0 (fun _ m => m)) rfl rfl fld84_0 rfl ?_
    refine o_ldc (dt 1 (fun _ m => m)) (v := (.int .i64 t_0.xField)) 0 rfl rfl rfl ty3 rfl ?_
    refine o_geq (dt 2 (fun _ m => m)) rfl rfl rfl ?_
    refine o_mv (dt 3 (fun _ m => m)) rfl rfl ?_
    refine st_sp (dj := 6) rfl ?_ ?_
    · refine o_fad (dtg 4 (fun _ m => m)) rfl rfl fld84_0 rfl ?_
      refine o_ldc (dtg 5 (fun _ m => m)) (v := (.int .i64 t_0.xField)) 0 rfl rfl rfl ty3 rfl ?_
      refine o_lss (dtg 6 (fun _ m => m)) rfl rfl rfl ?_
      refine o_pickT (dt 7 (fun _ m => m)) rfl rfl rfl ?_
      refine o_mv (dt 8 (fun _ m => m)) rfl rfl ?_
      refine st_sp (dj := 11) rfl ?_ ?_
      · refine o_fad (dtg 9 (fun _ m => m)) rfl rfl fld84_1 rfl ?_
        refine o_ldc (dtg 10 (fun _ m => m)) (v := (.int .i64 t_0.xLo)) 0 rfl rfl rfl ty3 rfl ?_
        refine o_geq (dtg 11 (fun _ m => m)) rfl rfl rfl ?_
        refine o_pickT (dt 12 (fun _ m => m)) rfl rfl rfl ?_
        refine o_mv (dt 13 (fun _ m => m)) rfl rfl ?_
        refine st_sp (dj := 16) rfl ?_ ?_
        · refine o_fad (dtg 14 (fun _ m => m)) rfl rfl fld84_1 rfl ?_
          refine o_ldc (dtg 15 (fun _ m => m)) (v := (.int .i64 t_0.xLo)) 0 rfl rfl rfl ty3 rfl ?_
          refine o_fad (dtg 16 (fun _ m => m)) rfl rfl fld84_2 rfl ?_
          refine o_ldc (dtg 17 (fun _ m => m)) (v := (.int .i64 t_0.xHi)) 0 rfl rfl rfl ty3 rfl ?_
          refine o_leq (dtg 18 (fun _ m => m)) rfl rfl rfl ?_
          refine o_pickT (dt 19 (fun _ m => m)) rfl rfl rfl ?_
          refine o_mv (dt 20 (fun _ m => m)) rfl rfl ?_
          refine st_sp (dj := 23) rfl ?_ ?_
          · refine o_fad (dtg 21 (fun _ m => m)) rfl rfl fld84_2 rfl ?_
            refine o_ldc (dtg 22 (fun _ m => m)) (v := (.int .i64 t_0.xHi)) 0 rfl rfl rfl ty3 rfl ?_
            refine o_fad (dtg 23 (fun _ m => m)) rfl rfl fld84_0 rfl ?_
            refine o_ldc (dtg 24 (fun _ m => m)) (v := (.int .i64 t_0.xField)) 0 rfl rfl rfl ty3 rfl ?_
            refine d_oneg (i := 25) rfl rfl rfl (by kernel_rfl) (o_callP (vs := [(.int .i64 t_0.xField)]) Tryd.call110 rfl rfl (by intro w m h; exact (w_impl_FieldTop (F := allB [] w) (n_0 := t_0.xField) allB_ok (m.rd0 1 rfl (reads_snap hgl0)) h).mono (fun _ _ k => ret_free (fun r u => fr_nil) k)) ?_); rintro r3 _
            refine d_and (fun _ m => m) ?_
            refine o_leq (dtg 26 (fun _ m => m)) rfl rfl rfl ?_
            refine o_pickT (dt 27 (fun _ m => m)) rfl rfl rfl ?_
            refine o_as (dt 28 (fun _ m => m)) rfl rfl ?_
            refine d_done (by kernel_rfl) ?_
            exact l_join (decide (t_0.xHi ≤ r3)) (fun a w hE hm => ⟨hE.sub ⟨rfl, trivial⟩, (hm.pick [1] rfl)⟩)
          · refine dsk 21 (fun _ m => m) rfl (by kernel_rfl) rfl rfl rfl rfl ?_
            refine dsk 22 (fun _ m => m) rfl (by kernel_rfl) rfl rfl rfl rfl ?_
            refine dsk 23 (fun _ m => m) rfl (by kernel_rfl) rfl rfl rfl rfl ?_
            refine dsk 24 (fun _ m => m) rfl (by kernel_rfl) rfl rfl rfl rfl ?_
            refine dsk 25 (fun _ m => m) rfl (by kernel_rfl) rfl rfl rfl rfl ?_
            refine dsk 26 (fun _ m => m) rfl (by kernel_rfl) rfl rfl rfl rfl ?_
            refine o_pickF (dt 27 (fun _ m => m)) rfl rfl rfl ?_
            refine o_as (dt 28 (fun _ m => m)) rfl rfl ?_
            refine d_done (by kernel_rfl) ?_
            exact l_join false (fun a w hE hm => ⟨hE.sub ⟨rfl, trivial⟩, (hm.pick [1] rfl)⟩)
        · refine dsk 14 (fun _ m => m) rfl (by kernel_rfl) rfl rfl rfl rfl ?_
          refine dsk 15 (fun _ m => m) rfl (by kernel_rfl) rfl rfl rfl rfl ?_
          refine dsk 16 (fun _ m => m) rfl (by kernel_rfl) rfl rfl rfl rfl ?_
          refine dsk 17 (fun _ m => m) rfl (by kernel_rfl) rfl rfl rfl rfl ?_
          refine dsk 18 (fun _ m => m) rfl (by kernel_rfl) rfl rfl rfl rfl ?_
          refine o_pickF (dt 19 (fun _ m => m)) rfl rfl rfl ?_
          refine o_mv (dt 20 (fun _ m => m)) rfl rfl ?_
          refine dsk 21 (fun _ m => m) rfl (by kernel_rfl) rfl rfl rfl rfl ?_
          refine dsk 22 (fun _ m => m) rfl (by kernel_rfl) rfl rfl rfl rfl ?_
          refine dsk 23 (fun _ m => m) rfl (by kernel_rfl) rfl rfl rfl rfl ?_
          refine dsk 24 (fun _ m => m) rfl (by kernel_rfl) rfl rfl rfl rfl ?_
          refine dsk 25 (fun _ m => m) rfl (by kernel_rfl) rfl rfl rfl rfl ?_
          refine dsk 26 (fun _ m => m) rfl (by kernel_rfl) rfl rfl rfl rfl ?_
          refine o_pickF (dt 27 (fun _ m => m)) rfl rfl rfl ?_
          refine o_as (dt 28 (fun _ m => m)) rfl rfl ?_
          refine d_done (by kernel_rfl) ?_
          exact l_join false (fun a w hE hm => ⟨hE.sub ⟨rfl, trivial⟩, (hm.pick [1] rfl)⟩)
      · refine dsk 9 (fun _ m => m) rfl (by kernel_rfl) rfl rfl rfl rfl ?_
        refine dsk 10 (fun _ m => m) rfl (by kernel_rfl) rfl rfl rfl rfl ?_
        refine dsk 11 (fun _ m => m) rfl (by kernel_rfl) rfl rfl rfl rfl ?_
        refine o_pickF (dt 12 (fun _ m => m)) rfl rfl rfl ?_
        refine o_mv (dt 13 (fun _ m => m)) rfl rfl ?_
        refine dsk 14 (fun _ m => m) rfl (by kernel_rfl) rfl rfl rfl rfl ?_
        refine dsk 15 (fun _ m => m) rfl (by kernel_rfl) rfl rfl rfl rfl ?_
        refine dsk 16 (fun _ m => m) rfl (by kernel_rfl) rfl rfl rfl rfl ?_
        refine dsk 17 (fun _ m => m) rfl (by kernel_rfl) rfl rfl rfl rfl ?_
        refine dsk 18 (fun _ m => m) rfl (by kernel_rfl) rfl rfl rfl rfl ?_
        refine o_pickF (dt 19 (fun _ m => m)) rfl rfl rfl ?_
        refine o_mv (dt 20 (fun _ m => m)) rfl rfl ?_
        refine dsk 21 (fun _ m => m) rfl (by kernel_rfl) rfl rfl rfl rfl ?_
        refine dsk 22 (fun _ m => m) rfl (by kernel_rfl) rfl rfl rfl rfl ?_
        refine dsk 23 (fun _ m => m) rfl (by kernel_rfl) rfl rfl rfl rfl ?_
        refine dsk 24 (fun _ m => m) rfl (by kernel_rfl) rfl rfl rfl rfl ?_
        refine dsk 25 (fun _ m => m) rfl (by kernel_rfl) rfl rfl rfl rfl ?_
        refine dsk 26 (fun _ m => m) rfl (by kernel_rfl) rfl rfl rfl rfl ?_
        refine o_pickF (dt 27 (fun _ m => m)) rfl rfl rfl ?_
        refine o_as (dt 28 (fun _ m => m)) rfl rfl ?_
        refine d_done (by kernel_rfl) ?_
        exact l_join false (fun a w hE hm => ⟨hE.sub ⟨rfl, trivial⟩, (hm.pick [1] rfl)⟩)
    · refine dsk 4 (fun _ m => m) rfl (by kernel_rfl) rfl rfl rfl rfl ?_
      refine dsk 5 (fun _ m => m) rfl (by kernel_rfl) rfl rfl rfl rfl ?_
      refine dsk 6 (fun _ m => m) rfl (by kernel_rfl) rfl rfl rfl rfl ?_
      refine o_pickF (dt 7 (fun _ m => m)) rfl rfl rfl ?_
      refine o_mv (dt 8 (fun _ m => m)) rfl rfl ?_
      refine dsk 9 (fun _ m => m) rfl (by kernel_rfl) rfl rfl rfl rfl ?_
      refine dsk 10 (fun _ m => m) rfl (by kernel_rfl) rfl rfl rfl rfl ?_
      refine dsk 11 (fun _ m => m) rfl (by kernel_rfl) rfl rfl rfl rfl ?_
      refine o_pickF (dt 12 (fun _ m => m)) rfl rfl rfl ?_
      refine o_mv (dt 13 (fun _ m => m)) rfl rfl ?_
      refine dsk 14 (fun _ m => m) rfl (by kernel_rfl) rfl rfl rfl rfl ?_
      refine dsk 15 (fun _ m => m) rfl (by kernel_rfl) rfl rfl rfl rfl ?_
      refine dsk 16 (fun _ m => m) rfl (by kernel_rfl) rfl rfl rfl rfl ?_
      refine dsk 17 (fun _ m => m) rfl (by kernel_rfl) rfl rfl rfl rfl ?_
      refine dsk 18 (fun _ m => m) rfl (by kernel_rfl) rfl rfl rfl rfl ?_
      refine o_pickF (dt 19 (fun _ m => m)) rfl rfl rfl ?_
      refine o_mv (dt 20 (fun _ m => m)) rfl rfl ?_
      refine dsk 21 (fun _ m => m) rfl (by kernel_rfl) rfl rfl rfl rfl ?_
      refine dsk 22 (fun _ m => m) rfl (by kernel_rfl) rfl rfl rfl rfl ?_
      refine dsk 23 (fun _ m => m) rfl (by kernel_rfl) rfl rfl rfl rfl ?_
      refine dsk 24 (fun _ m => m) rfl (by kernel_rfl) rfl rfl rfl rfl ?_
      refine dsk 25 (fun _ m => m) rfl (by kernel_rfl) rfl rfl rfl rfl ?_
      refine dsk 26 (fun _ m => m) rfl (by kernel_rfl) rfl rfl rfl rfl ?_
      refine o_pickF (dt 27 (fun _ m => m)) rfl rfl rfl ?_
      refine o_as (dt 28 (fun _ m => m)) rfl rfl ?_
      refine d_done (by kernel_rfl) ?_
      exact l_join false (fun a w hE hm => ⟨hE.sub ⟨rfl, trivial⟩, (hm.pick [1] rfl)⟩)
  · rintro t64 a w ⟨hE, hm⟩ h
    refine nx_of hE hm h ?_
    clear hE hm h
    refine c_ret ?_
    exact l_end1 Tryd.results99 t64 () (rv_t rfl) (fun _ _ => NewCh.nil _ _ _ _)

set_option maxRecDepth 100000 in
set_option maxHeartbeats 8000000 in
theorem w_impl_TestsValid {w0 : World} {F : Nat → Prop} {v1 : Value} {list_0 : (List GTest)} {κ : Bool → Prop} (hF : ∀ b, F b → b < w0.heap.size ∧ ¬ feet [] b) (hv1 : Sl elGTest F w0 v1 list_0) (hgl0 : Sl elGFieldShape F w0 (.slice (some ⟨0, 0, none⟩) 4 4) gl_impl_fieldShapes) (h : L_impl_TestsValid list_0 κ) :
    Calls Tryd.prog 88 #[v1] w0 (Ret [] F w0 κ (fun (r : Bool) (u : Unit) => (.bool r)) (fun (r : Bool) (u : Unit) => [])) := by
  refine enterS (args := [v1]) [] hF (Given.nil _ _) Tryd.func88 rfl Tryd.ntmps88 rfl h ?_
  clear h hF
  refine c_seq ?_
  refine c_region ?_
  refine o_as st rfl rfl ?_
  refine c_nil ?_
  refine l_then ?_
  refine c_seq ?_
  refine c_seq ?_
  refine c_region ?_
  refine o_mv st rfl rfl ?_
  refine o_len st el52 0 rfl (reads_snap hv1) rfl rfl ?_
  refine o_gtr st rfl rfl rfl ?_
  refine c_nil ?_
  refine l_then ?_
  refine c_cond rfl ?_ ?_
  · refine c_seq ?_
    refine c_region ?_
    refine o_as st rfl rfl ?_
    refine c_nil ?_
    refine l_then ?_
    refine c_ret ?_
    refine l_ret ?_
    exact l_end1 Tryd.results88 false () (rv_t rfl) (fun _ _ => NewCh.nil _ _ _ _)
  · refine c_skip ?_
    refine l_then ?_
    refine c_seq ?_
    refine c_seq ?_
    refine c_region ?_
    refine o_mv st rfl rfl ?_
    refine o_len st el52 0 rfl (reads_snap hv1) rfl rfl ?_
    refine o_mv st rfl rfl ?_
    refine c_nil ?_
    refine l_then ?_
    refine c_block ?_
    refine c_loop (σ := Int) (fun (t3 : Int) (a : Act) (w : World) => Has 18 [(8, v1), (9, (.int .i64 (list_0.length : Int))), (10, (.int .i64 t3))] a ∧ Mem (gB F [] w0) (feet []) w0 [snapCh w0 F] w) (fun a w hE hm => ⟨hE.sub ⟨rfl, rfl, rfl, trivial⟩, (hm.pick [0] rfl)⟩) ?_
    rintro nx4 t3 a w ⟨hE, hm⟩ h
    refine nx_of hE hm h ?_
    clear hE hm h
    refine c_seq ?_
    refine c_region ?_
    refine o_lss st rfl rfl rfl ?_
    refine c_nil ?_
    refine l_then ?_
    refine c_seq ?_
    refine c_cond rfl ?_ ?_
    · refine c_skip ?_
      refine l_then ?_
      refine c_seq ?_
      refine c_block ?_
      refine c_seq ?_
      refine c_region ?_
      refine o_idx st 0 rfl (reads_snap hv1) rfl rfl rfl el52 ?_; intro e5 h6
      refine o_lds st (enc := encGTest) (u := (.agg #[(.int .i64 e5.xField), (.int .i64 e5.xLo), (.int .i64 e5.xHi), (.bool e5.xNot)])) 0 rfl (reads_snap hv1) flelGTest rfl h6 rfl rfl ty84 rfl ?_
      refine stw (o_alloc rfl [(.int .i64 0), (.int .i64 0), (.int .i64 0), (.bool false)] zero84 ?_); intro b7
      refine stw (o_stc (cs' := [(.int .i64 e5.xField), (.int .i64 e5.xLo), (.int .i64 e5.xHi), (.bool e5.xNot)]) 0 rfl rfl rfl ty84 rfl rfl rfl rfl ?_)
      refine c_nil ?_
      refine l_then ?_
      refine c_seq ?_
      refine c_region ?_
      refine o_ldc st (v := (.agg #[(.int .i64 e5.xField), (.int .i64 e5.xLo), (.int .i64 e5.xHi), (.bool e5.xNot)])) 0 rfl rfl rfl ty84 rfl ?_
      refine stw (o_callP (vs := [(.agg #[(.int .i64 e5.xField), (.int .i64 e5.xLo), (.int .i64 e5.xHi), (.bool e5.xNot)])]) Tryd.call99 rfl rfl (by intro w m h; exact (w_impl_TestValid (F := allB [] w) (t_0 := e5) allB_ok (m.rd0 1 rfl (reads_snap hgl0)) h).mono (fun _ _ k => ret_free (fun r u => fr_nil) k)) ?_); rintro r9 _
      refine o_not st rfl rfl ?_
      refine c_nil ?_
      refine l_then ?_
      refine c_cond rfl ?_ ?_
      · refine c_seq ?_
        refine c_region ?_
        refine o_as st rfl rfl ?_
        refine c_nil ?_
        refine l_then ?_
        refine c_ret ?_
        refine b_ret ?_
        refine l_ret ?_
        refine l_ret ?_
        refine b_ret ?_
        refine l_ret ?_
        exact l_end1 Tryd.results88 false () (rv_t rfl) (fun _ _ => NewCh.nil _ _ _ _)
      · refine c_skip ?_
        refine b_norm ?_
        refine l_then ?_
        refine c_region ?_
        refine o_add st rfl rfl rfl ?_; intro t10
        refine o_mv st rfl rfl ?_
        refine c_nil ?_
        exact l_join t10 (fun a w hE hm => ⟨hE.sub ⟨rfl, rfl, rfl, trivial⟩, (hm.pick [1] rfl)⟩)
    · refine c_exit ?_
      refine l_exit ?_
      refine l_exit ?_
      refine b_exit ?_
      refine l_then ?_
      refine c_seq ?_
      refine c_region ?_
      refine o_as st rfl rfl ?_
      refine c_nil ?_
      refine l_then ?_
      refine c_ret ?_
      exact l_end1 Tryd.results88 true () (rv_t rfl) (fun _ _ => NewCh.nil _ _ _ _)

set_option maxRecDepth 100000 in
set_option maxHeartbeats 8000000 in
theorem w_impl_RuleValid {w0 : World} {F : Nat → Prop} {v1 : Value} {r_0 : GRule} {κ : Bool → Prop} (hF : ∀ b, F b → b < w0.heap.size ∧ ¬ feet [] b) (hv1 : Sl elGTest F w0 v1 r_0.xTests) (hgl0 : Sl elGFieldShape F w0 (.slice (some ⟨0, 0, none⟩) 4 4) gl_impl_fieldShapes) (h : L_impl_RuleValid r_0 κ) :
    Calls Tryd.prog 75 #[(.agg #[v1, (.int .i64 r_0.xAction), (.int .i64 r_0.xChain)])] w0 (Ret [] F w0 κ (fun (r : Bool) (u : Unit) => (.bool r)) (fun (r : Bool) (u : Unit) => [])) := by
  refine enterS (args := [(.agg #[v1, (.int .i64 r_0.xAction), (.int .i64 r_0.xChain)])]) [] hF (Given.nil _ _) Tryd.func75 rfl Tryd.ntmps75 rfl h ?_
  clear h hF
  refine c_seq ?_
  refine c_region ?_
  obtain ⟨a3, l4, q5, hs_⟩ := sl_val hv1; subst hs_
  refine stw (o_box rfl rfl [(.slice a3 l4 q5), (.int .i64 r_0.xAction), (.int .i64 r_0.xChain)] rfl ?_); intro b6
  refine o_as st rfl rfl ?_
  refine c_nil ?_
  refine l_then ?_
  refine c_seq ?_
  refine c_seq ?_
  refine c_region ?_
  refine o_fad st rfl rfl fld54_0 rfl ?_
  refine o_ldc st (v := (.slice a3 l4 q5)) 0 rfl rfl rfl ty52 rfl ?_
  refine stw (o_callP (vs := [(.slice a3 l4 q5)]) Tryd.call88 rfl rfl (by intro w m h; exact (w_impl_TestsValid (F := allB [] w) (list_0 := r_0.xTests) allB_ok (m.rd0 1 rfl (reads_snap hv1)) (m.rd0 1 rfl (reads_snap hgl0)) h).mono (fun _ _ k => ret_free (fun r u => fr_nil) k)) ?_); rintro r8 _
  refine o_not st rfl rfl ?_
  refine c_nil ?_
  refine l_then ?_
  refine c_cond rfl ?_ ?_
  · refine c_seq ?_
    refine c_region ?_
    refine o_as st rfl rfl ?_
    refine c_nil ?_
    refine l_then ?_
    refine c_ret ?_
    refine l_ret ?_
    exact l_end1 Tryd.results75 false () (rv_t rfl) (fun _ _ => NewCh.nil _ _ _ _)
  · refine c_skip ?_
    refine l_then ?_
    refine c_seq ?_
    refine c_seq ?_
    refine c_region ?_
    refine o_fad st rfl rfl fld54_1 rfl ?_
    refine o_ldc st (v := (.int .i64 r_0.xAction)) 0 rfl rfl rfl ty3 rfl ?_
    refine c_nil ?_
    refine l_then ?_
    refine c_block ?_
    refine c_seq ?_
    refine c_region ?_
    refine o_eql st und3 rfl rfl rfl ?_
    refine o_as st rfl rfl ?_
    refine c_nil ?_
    refine l_then ?_
    refine c_cond rfl ?_ ?_
    · refine c_join (σ := Bool) (fun (t69 : Bool) (a : Act) (w : World) => Has 27 [(2, (.bool t69))] a ∧ Mem (gB F [] w0) (feet []) w0 [snapCh w0 F] w) ?_ ?_
      · intro k70
        refine c_region ?_
        refine o_fad st rfl rfl fld54_2 rfl ?_
        refine o_ldc st (v := (.int .i64 r_0.xChain)) 0 rfl rfl rfl ty3 rfl ?_
        refine o_geq st rfl rfl rfl ?_
        refine o_mv st rfl rfl ?_
        refine st_sp (dj := 14) rfl ?_ ?_
        · refine o_fad (st_g rfl rfl) rfl rfl fld54_2 rfl ?_
          refine o_ldc (st_g rfl rfl) (v := (.int .i64 r_0.xChain)) 0 rfl rfl rfl ty3 rfl ?_
          refine o_lss (st_g rfl rfl) rfl rfl rfl ?_
          refine o_pickT st rfl rfl rfl ?_
          refine o_as st rfl rfl ?_
          refine c_nil ?_
          exact l_join (decide (r_0.xChain < 5)) (fun a w hE hm => ⟨hE.sub ⟨rfl, trivial⟩, (hm.pick [1] rfl)⟩)
        · refine st_s rfl rfl rfl rfl ?_
          refine st_s rfl rfl rfl rfl ?_
          refine st_s rfl rfl rfl rfl ?_
          refine o_pickF st rfl rfl rfl ?_
          refine o_as st rfl rfl ?_
          refine c_nil ?_
          exact l_join false (fun a w hE hm => ⟨hE.sub ⟨rfl, trivial⟩, (hm.pick [1] rfl)⟩)
      · rintro t69 a w ⟨hE, hm⟩ h
        refine nx_of hE hm h ?_
        clear hE hm h
        refine c_ret ?_
        refine b_ret ?_
        refine l_ret ?_
        exact l_end1 Tryd.results75 t69 () (rv_t rfl) (fun _ _ => NewCh.nil _ _ _ _)
    · refine c_join (σ := Bool) (fun (t131 : Bool) (a : Act) (w : World) => Has 27 [(1, (.pointer (some ⟨b6, 0, none⟩))), (19, (.bool t131))] a ∧ Mem (gB F [] w0) (feet []) w0 [cellCh b6 [(.slice a3 l4 q5), (.int .i64 r_0.xAction), (.int .i64 r_0.xChain)] 54, snapCh w0 F] w) ?_ ?_
      · intro k132
        refine c_seq ?_
        refine c_region ?_
        refine o_eql st und3 rfl rfl rfl ?_
        refine o_as st rfl rfl ?_
        refine c_nil ?_
        refine l_then ?_
        refine c_cond rfl ?_ ?_
        · refine c_skip ?_
          exact l_join (decide (r_0.xAction = 1)) (fun a w hE hm => ⟨hE.sub ⟨rfl, rfl, trivial⟩, (hm.pick [0, 1] rfl)⟩)
        · refine c_seq ?_
          refine c_region ?_
          refine o_eql st und3 rfl rfl rfl ?_
          refine o_as st rfl rfl ?_
          refine c_nil ?_
          refine l_then ?_
          refine c_cond rfl ?_ ?_
          · refine c_skip ?_
            exact l_join (decide (r_0.xAction = 2)) (fun a w hE hm => ⟨hE.sub ⟨rfl, rfl, trivial⟩, (hm.pick [0, 1] rfl)⟩)
          · refine c_seq ?_
            refine c_region ?_
            refine o_eql st und3 rfl rfl rfl ?_
            refine o_as st rfl rfl ?_
            refine c_nil ?_
            refine l_then ?_
            refine c_cond rfl ?_ ?_
            · refine c_skip ?_
              exact l_join (decide (r_0.xAction = 4)) (fun a w hE hm => ⟨hE.sub ⟨rfl, rfl, trivial⟩, (hm.pick [0, 1] rfl)⟩)
            · refine c_region ?_
              refine o_eql st und3 rfl rfl rfl ?_
              refine o_as st rfl rfl ?_
              refine c_nil ?_
              exact l_join (decide (r_0.xAction = 5)) (fun a w hE hm => ⟨hE.sub ⟨rfl, rfl, trivial⟩, (hm.pick [0, 1] rfl)⟩)
      · rintro t131 a w ⟨hE, hm⟩ h
        refine nx_of hE hm h ?_
        clear hE hm h
        refine c_cond rfl ?_ ?_
        · refine c_seq ?_
          refine c_region ?_
          refine o_fad st rfl rfl fld54_2 rfl ?_
          refine o_ldc st (v := (.int .i64 r_0.xChain)) 0 rfl rfl rfl ty3 rfl ?_
          refine o_eql st und3 rfl rfl rfl ?_
          refine o_as st rfl rfl ?_
          refine c_nil ?_
          refine l_then ?_
          refine c_ret ?_
          refine b_ret ?_
          refine l_ret ?_
          exact l_end1 Tryd.results75 (decide (r_0.xChain = 0)) () (rv_t rfl) (fun _ _ => NewCh.nil _ _ _ _)
        · refine c_skip ?_
          refine b_norm ?_
          refine l_then ?_
          refine c_seq ?_
          refine c_region ?_
          refine o_as st rfl rfl ?_
          refine c_nil ?_
          refine l_then ?_
          refine c_ret ?_
          exact l_end1 Tryd.results75 false () (rv_t rfl) (fun _ _ => NewCh.nil _ _ _ _)

set_option maxRecDepth 100000 in
set_option maxHeartbeats 8000000 in
theorem w_impl_RulesValid {w0 : World} {F : Nat → Prop} {v1 : Value} {list_0 : (List GRule)} {κ : Bool → Prop} (hF : ∀ b, F b → b < w0.heap.size ∧ ¬ feet [] b) (hv1 : Sl elGRule F w0 v1 list_0) (hgl0 : Sl elGFieldShape F w0 (.slice (some ⟨0, 0, none⟩) 4 4) gl_impl_fieldShapes) (h : L_impl_RulesValid list_0 κ) :
    Calls Tryd.prog 54 #[v1] w0 (Ret [] F w0 κ (fun (r : Bool) (u : Unit) => (.bool r)) (fun (r : Bool) (u : Unit) => [])) := by
  refine enterS (args := [v1]) [] hF (Given.nil _ _) Tryd.func54 rfl Tryd.ntmps54 rfl h ?_
  clear h hF
  refine c_seq ?_
  refine c_region ?_
  refine o_as st rfl rfl ?_
  refine c_nil ?_
  refine l_then ?_
  refine c_seq ?_
  refine c_seq ?_
  refine c_region ?_
  refine o_mv st rfl rfl ?_
  refine o_len st el50 0 rfl (reads_snap hv1) rfl rfl ?_
  refine o_gtr st rfl rfl rfl ?_
  refine c_nil ?_
  refine l_then ?_
  refine c_cond rfl ?_ ?_
  · refine c_seq ?_
    refine c_region ?_
    refine o_as st rfl rfl ?_
    refine c_nil ?_
    refine l_then ?_
    refine c_ret ?_
    refine l_ret ?_
    exact l_end1 Tryd.results54 false () (rv_t rfl) (fun _ _ => NewCh.nil _ _ _ _)
  · refine c_skip ?_
    refine l_then ?_
    refine c_seq ?_
    refine c_seq ?_
    refine c_region ?_
    refine o_mv st rfl rfl ?_
    refine o_len st el50 0 rfl (reads_snap hv1) rfl rfl ?_
    refine o_mv st rfl rfl ?_
    refine c_nil ?_
    refine l_then ?_
    refine c_block ?_
    refine c_loop (σ := Int) (fun (t3 : Int) (a : Act) (w : World) => Has 18 [(8, v1), (9, (.int .i64 (list_0.length : Int))), (10, (.int .i64 t3))] a ∧ Mem (gB F [] w0) (feet []) w0 [snapCh w0 F] w) (fun a w hE hm => ⟨hE.sub ⟨rfl, rfl, rfl, trivial⟩, (hm.pick [0] rfl)⟩) ?_
    rintro nx4 t3 a w ⟨hE, hm⟩ h
    refine nx_of hE hm h ?_
    clear hE hm h
    refine c_seq ?_
    refine c_region ?_
    refine o_lss st rfl rfl rfl ?_
    refine c_nil ?_
    refine l_then ?_
    refine c_seq ?_
    refine c_cond rfl ?_ ?_
    · refine c_skip ?_
      refine l_then ?_
      refine c_seq ?_
      refine c_block ?_
      refine c_seq ?_
      refine c_region ?_
      refine o_idx st 0 rfl (reads_snap hv1) rfl rfl rfl el50 ?_; intro e5 h6
      obtain ⟨_, ⟨v8, rfl, sl9⟩, rw7⟩ := sl_open hv1 h6
      refine o_ldR st (u := (.agg #[v8, (.int .i64 e5.xAction), (.int .i64 e5.xChain)])) 0 rfl rw7 rfl rfl ty54 rfl ?_
      refine stw (o_alloc rfl [(.slice none 0 0), (.int .i64 0), (.int .i64 0)] zero54 ?_); intro b11
      obtain ⟨a13, l14, q15, hs_⟩ := sl_val sl9; subst hs_
      refine stw (o_stc (cs' := [(.slice a13 l14 q15), (.int .i64 e5.xAction), (.int .i64 e5.xChain)]) 0 rfl rfl rfl ty54 rfl rfl rfl rfl ?_)
      refine c_nil ?_
      refine l_then ?_
      refine c_seq ?_
      refine c_region ?_
      refine o_ldc st (v := (.agg #[(.slice a13 l14 q15), (.int .i64 e5.xAction), (.int .i64 e5.xChain)])) 0 rfl rfl rfl ty54 rfl ?_
      refine stw (o_callP (vs := [(.agg #[(.slice a13 l14 q15), (.int .i64 e5.xAction), (.int .i64 e5.xChain)])]) Tryd.call75 rfl rfl (by intro w m h; exact (w_impl_RuleValid (F := allB [] w) (r_0 := e5) allB_ok (m.rd0 1 rfl (reads_snap sl9)) (m.rd0 1 rfl (reads_snap hgl0)) h).mono (fun _ _ k => ret_free (fun r u => fr_nil) k)) ?_); rintro r16 _
      refine o_not st rfl rfl ?_
      refine c_nil ?_
      refine l_then ?_
      refine c_cond rfl ?_ ?_
      · refine c_seq ?_
        refine c_region ?_
        refine o_as st rfl rfl ?_
        refine c_nil ?_
        refine l_then ?_
        refine c_ret ?_
        refine b_ret ?_
        refine l_ret ?_
        refine l_ret ?_
        refine b_ret ?_
        refine l_ret ?_
        exact l_end1 Tryd.results54 false () (rv_t rfl) (fun _ _ => NewCh.nil _ _ _ _)
      · refine c_skip ?_
        refine b_norm ?_
        refine l_then ?_
        refine c_region ?_
        refine o_add st rfl rfl rfl ?_; intro t17
        refine o_mv st rfl rfl ?_
        refine c_nil ?_
        exact l_join t17 (fun a w hE hm => ⟨hE.sub ⟨rfl, rfl, rfl, trivial⟩, (hm.pick [1] rfl)⟩)
    · refine c_exit ?_
      refine l_exit ?_
      refine l_exit ?_
      refine b_exit ?_
      refine l_then ?_
      refine c_seq ?_
      refine c_region ?_
      refine o_as st rfl rfl ?_
      refine c_nil ?_
      refine l_then ?_
      refine c_ret ?_
      exact l_end1 Tryd.results54 true () (rv_t rfl) (fun _ _ => NewCh.nil _ _ _ _)

set_option maxRecDepth 100000 in
set_option maxHeartbeats 8000000 in
theorem w_impl_callsIn {w0 : World} {F : Nat → Prop} {v1 : Value} {rules_0 : (List GRule)} {κ : (List Int) → Prop} (hF : ∀ b, F b → b < w0.heap.size ∧ ¬ feet [] b) (hv1 : Sl elGRule F w0 v1 rules_0) (h : L_impl_callsIn rules_0 κ) :
    Calls Tryd.prog 55 #[v1] w0 (Ret [] F w0 κ (fun (r : (List Int)) (u : Value) => u) (fun (r : (List Int)) (u : Value) => [ownCh elInt 3 u r])) := by
  refine enterS (args := [v1]) [] hF (Given.nil _ _) Tryd.func55 rfl Tryd.ntmps55 rfl h ?_
  clear h hF
  refine c_seq ?_
  refine c_region ?_
  refine stw (o_asn elInt 3 rfl rfl ?_)
  refine c_nil ?_
  refine l_then ?_
  refine c_seq ?_
  refine c_region ?_
  refine stw (o_allocA (El' := elBool) (z := (false : Bool)) (len := 5) (zs := [(.bool false)]) (fun F w => (flelBool _ _ _ _).2 rfl) rfl zero103 rfl rfl ?_); intro b4
  refine c_nil ?_
  refine l_then ?_
  refine c_seq ?_
  refine c_seq ?_
  refine c_region ?_
  refine o_mv st rfl rfl ?_
  refine o_len st el50 2 rfl (reads_snap hv1) rfl rfl ?_
  refine o_mv st rfl rfl ?_
  refine c_nil ?_
  refine l_then ?_
  refine c_block ?_
  refine c_loop (σ := ((List Bool) × Int)) (fun ((xs6, t8) : ((List Bool) × Int)) (a : Act) (w : World) => Has 34 [(3, (.pointer (some ⟨b4, 0, none⟩))), (9, v1), (10, (.int .i64 (rules_0.length : Int))), (11, (.int .i64 t8))] a ∧ Mem (gB F [] w0) (feet []) w0 [ownCh elBool 103 (.slice (some ⟨b4, 0, none⟩) 5 5) xs6, snapCh w0 F] w) (fun a w hE hm => ⟨hE.sub ⟨rfl, rfl, rfl, rfl, trivial⟩, (hm.pick [0, 2] rfl)⟩) ?_
  rintro nx9 ⟨xs6, t8⟩ a w ⟨hE, hm⟩ h
  refine nx_of hE hm h ?_
  clear hE hm h
  refine c_seq ?_
  refine c_region ?_
  refine o_lss st rfl rfl rfl ?_
  refine c_nil ?_
  refine l_then ?_
  refine c_seq ?_
  refine c_cond rfl ?_ ?_
  · refine c_skip ?_
    refine l_then ?_
    refine c_join (σ := (List Bool)) (fun (xs84 : (List Bool)) (a : Act) (w : World) => Has 34 [(3, (.pointer (some ⟨b4, 0, none⟩))), (9, v1), (10, (.int .i64 (rules_0.length : Int))), (11, (.int .i64 t8))] a ∧ Mem (gB F [] w0) (feet []) w0 [ownCh elBool 103 (.slice (some ⟨b4, 0, none⟩) 5 5) xs84, snapCh w0 F] w) ?_ ?_
    · intro k86
      refine c_block ?_
      refine c_seq ?_
      refine c_region ?_
      refine o_idx st 1 rfl (reads_snap hv1) rfl rfl rfl el50 ?_; intro e10 h11
      obtain ⟨_, ⟨v13, rfl, sl14⟩, rw12⟩ := sl_open hv1 h11
      refine o_ldR st (u := (.agg #[v13, (.int .i64 e10.xAction), (.int .i64 e10.xChain)])) 1 rfl rw12 rfl rfl ty54 rfl ?_
      refine stw (o_alloc rfl [(.slice none 0 0), (.int .i64 0), (.int .i64 0)] zero54 ?_); intro b16
      obtain ⟨a18, l19, q20, hs_⟩ := sl_val sl14; subst hs_
      refine stw (o_stc (cs' := [(.slice a18 l19 q20), (.int .i64 e10.xAction), (.int .i64 e10.xChain)]) 0 rfl rfl rfl ty54 rfl rfl rfl rfl ?_)
      refine c_nil ?_
      refine l_then ?_
      refine c_seq ?_
      refine c_region ?_
      refine o_fad st rfl rfl fld54_1 rfl ?_
      refine o_ldc st (v := (.int .i64 e10.xAction)) 0 rfl rfl rfl ty3 rfl ?_
      refine o_eql st und3 rfl rfl rfl ?_
      refine c_nil ?_
      refine l_then ?_
      refine c_cond rfl ?_ ?_
      · refine c_region ?_
        refine o_fad st rfl rfl fld54_2 rfl ?_
        refine o_ldc st (v := (.int .i64 e10.xChain)) 0 rfl rfl rfl ty3 rfl ?_
        refine o_ixa st 1 rfl reads_own rfl rfl rfl arr103 ?_; intro e21 h22
        refine stw (o_sts (enc := encBool) (y' := true) 1 rfl flelBool rfl h22 ty4 rfl rfl rfl rfl rfl rfl ?_)
        refine c_nil ?_
        refine b_norm ?_
        exact l_join (xs6.set (e10.xChain).toNat true) (fun a w hE hm => ⟨hE.sub ⟨rfl, rfl, rfl, rfl, trivial⟩, (hm.pick [1, 2] rfl)⟩)
      · refine c_skip ?_
        refine b_norm ?_
        exact l_join xs6 (fun a w hE hm => ⟨hE.sub ⟨rfl, rfl, rfl, rfl, trivial⟩, (hm.pick [1, 2] rfl)⟩)
    · rintro xs84 a w ⟨hE, hm⟩ h
      refine nx_of hE hm h ?_
      clear hE hm h
      refine c_region ?_
      refine o_add st rfl rfl rfl ?_; intro t87
      refine o_mv st rfl rfl ?_
      refine c_nil ?_
      exact l_join (xs84, t87) (fun a w hE hm => ⟨hE.sub ⟨rfl, rfl, rfl, rfl, trivial⟩, (hm.pick [0, 1] rfl)⟩)
  · refine c_exit ?_
    refine l_exit ?_
    refine l_exit ?_
    refine b_exit ?_
    refine l_then ?_
    refine c_seq ?_
    refine c_region ?_
    refine stw (o_asn elInt 3 rfl rfl ?_)
    refine c_nil ?_
    refine l_then ?_
    refine c_seq ?_
    refine c_seq ?_
    refine c_region ?_
    refine nx_unl5 1 rfl ?_; intro e89 e90 e91 e92 e93
    refine stw (o_ldA m_op (u := [(.bool e89), (.bool e90), (.bool e91), (.bool e92), (.bool e93)]) 1 rfl reads_own flelBool rfl rfl ty103 rfl rfl ?_)
    refine o_mv st rfl rfl ?_
    refine c_nil ?_
    refine l_then ?_
    refine c_block ?_
    refine c_loop (σ := ((List Int) × Int)) (fun ((xs96, t99) : ((List Int) × Int)) (a : Act) (w : World) => ∃ (v95 : Value), Has 34 [(6, v95), (22, (.agg #[(.bool e89), (.bool e90), (.bool e91), (.bool e92), (.bool e93)])), (23, (.int .i64 t99))] a ∧ Mem (gB F [] w0) (feet []) w0 [ownCh elInt 3 v95 xs96] w) (fun a w hE hm => ⟨(.slice none 0 0), hE.sub ⟨rfl, rfl, rfl, trivial⟩, (hm.pick [0] rfl)⟩) ?_
    rintro nx100 ⟨xs96, t99⟩ a w ⟨v95, hE, hm⟩ h
    refine nx_of hE hm h ?_
    clear hE hm h
    refine c_seq ?_
    refine c_region ?_
    refine o_lss st rfl rfl rfl ?_
    refine c_nil ?_
    refine l_then ?_
    refine c_seq ?_
    refine c_cond rfl ?_ ?_
    · refine c_skip ?_
      refine l_then ?_
      refine c_join (σ := (List Int)) (fun (xs166 : (List Int)) (a : Act) (w : World) => ∃ (v167 : Value), Has 34 [(6, v167), (22, (.agg #[(.bool e89), (.bool e90), (.bool e91), (.bool e92), (.bool e93)])), (23, (.int .i64 t99))] a ∧ Mem (gB F [] w0) (feet []) w0 [ownCh elInt 3 v167 xs166] w) ?_ ?_
      · intro k169
        refine c_block ?_
        refine c_seq ?_
        refine c_region ?_
        refine o_mv st rfl rfl ?_
        refine o_ixv st (enc := encBool) (zs := [e89, e90, e91, e92, e93]) (u := fun (e101 : Bool) => (.bool e101)) rfl rfl rfl arr103 rfl rfl (fun _ => rfl) (fun _ => rfl) ?_; intro e101
        refine o_as st rfl rfl ?_
        refine o_as st rfl rfl ?_
        refine c_nil ?_
        refine l_then ?_
        refine c_seq ?_
        refine c_region ?_
        refine o_mv st rfl rfl ?_
        refine c_nil ?_
        refine l_then ?_
        refine c_cond rfl ?_ ?_
        · refine c_region ?_
          refine o_mv st rfl rfl ?_
          refine o_mv st rfl rfl ?_
          refine stw (o_bsl (enc := encInt) (qs := [(0, (.int .i64 t99))]) (cells := [(.int .i64 t99)]) ([t99]) flelInt (by intro ρ h; simp only [List.map_toArray, List.map_cons, List.map_nil, h (.tmp 29) _ rfl]) rfl el67 zero3 rfl rfl rfl rfl rfl rfl ?_); intro v102
          refine stw (o_app 1 0 rfl rfl (src_flat flelInt reads_own) rfl rfl rfl el67 rfl zero3 rfl rfl ?_); intro v104
          refine o_as st rfl rfl ?_
          refine c_nil ?_
          refine b_norm ?_
          exact l_join (xs96 ++ ([t99])) (fun a w hE hm => ⟨v104, hE.sub ⟨rfl, rfl, rfl, trivial⟩, (hm.pick [1] rfl)⟩)
        · refine c_skip ?_
          refine b_norm ?_
          exact l_join xs96 (fun a w hE hm => ⟨v95, hE.sub ⟨rfl, rfl, rfl, trivial⟩, (hm.pick [0] rfl)⟩)
      · rintro xs166 a w ⟨v167, hE, hm⟩ h
        refine nx_of hE hm h ?_
        clear hE hm h
        refine c_region ?_
        refine o_add st rfl rfl rfl ?_; intro t170
        refine o_mv st rfl rfl ?_
        refine c_nil ?_
        exact l_join (xs166, t170) (fun a w hE hm => ⟨v167, hE.sub ⟨rfl, rfl, rfl, trivial⟩, (hm.pick [0] rfl)⟩)
    · refine c_exit ?_
      refine l_exit ?_
      refine l_exit ?_
      refine b_exit ?_
      refine l_then ?_
      refine c_seq ?_
      refine c_region ?_
      refine o_mv st rfl rfl ?_
      refine o_as st rfl rfl ?_
      refine c_nil ?_
      refine l_then ?_
      refine c_ret ?_
      exact l_end1 Tryd.results55 xs96 v95 (rv_t rfl) (fun w m => NewCh.ofB m [0] rfl)

set_option maxRecDepth 100000 in
set_option maxHeartbeats 8000000 in
theorem wr_impl_visitCalls : ∀ (n : Nat) {w0 : World} {F : Nat → Prop} {b3 : Nat} {v1 : Value} {chains_0 : (List (List GRule))} {chain_1 : Int} {colours_2 : (List Int)} {κ : (Bool × (List Int)) → Prop} (hF : ∀ b, F b → b < w0.heap.size ∧ ¬ feet [ownCh elInt 104 (.slice (some ⟨b3, 0, none⟩) 5 5) colours_2] b) (hg : Given [ownCh elInt 104 (.slice (some ⟨b3, 0, none⟩) 5 5) colours_2] F w0) (hv1 : Sl (elSl elGRule) F w0 v1 chains_0) (h : R_impl_visitCalls n chains_0 chain_1 colours_2 κ),
    Calls Tryd.prog 76 #[v1, (.int .i64 chain_1), (.pointer (some ⟨b3, 0, none⟩))] w0 (Ret [ownCh elInt 104 (.slice (some ⟨b3, 0, none⟩) 5 5) colours_2] F w0 κ (fun (r : (Bool × (List Int))) (u : Unit) => (.bool r.1)) (fun (r : (Bool × (List Int))) (u : Unit) => [ownCh elInt 104 (.slice (some ⟨b3, 0, none⟩) 5 5) r.2])) := by
  intro n
  induction n with
  | zero =>
    intro w0 F b3 v1 chains_0 chain_1 colours_2 κ hF hg hv1 h
    exact (h : False).elim
  | succ n ih =>
    intro w0 F b3 v1 chains_0 chain_1 colours_2 κ hF hg hv1 h
    replace h : B_impl_visitCalls (R_impl_visitCalls n) chains_0 chain_1 colours_2 κ := h
    revert h ih
    generalize R_impl_visitCalls n = rec
    intro ih h
    refine enterS (args := [v1, (.int .i64 chain_1), (.pointer (some ⟨b3, 0, none⟩))]) [ownCh elInt 104 (.slice (some ⟨b3, 0, none⟩) 5 5) colours_2] hF hg Tryd.func76 rfl Tryd.ntmps76 rfl h ?_
    clear h hF hg
    refine c_seq ?_
    refine c_region ?_
    refine o_as st rfl rfl ?_
    refine c_nil ?_
    refine l_then ?_
    refine c_seq ?_
    refine c_seq ?_
    refine c_region ?_
    refine o_mv st rfl rfl ?_
    refine o_mv st rfl rfl ?_
    refine o_len st el28 1 rfl (reads_snap hv1) rfl rfl ?_
    refine o_geq st rfl rfl rfl ?_
    refine c_nil ?_
    refine l_then ?_
    refine c_cond rfl ?_ ?_
    · refine c_seq ?_
      refine c_region ?_
      refine o_as st rfl rfl ?_
      refine c_nil ?_
      refine l_then ?_
      refine c_ret ?_
      refine l_ret ?_
      exact l_end1 Tryd.results76 (true, colours_2) () (rv_t rfl) (fun w m => NewCh.ofB m [0] rfl)
    · refine c_skip ?_
      refine l_then ?_
      refine c_seq ?_
      refine c_seq ?_
      refine c_region ?_
      refine o_mv st rfl rfl ?_
      refine o_mv st rfl rfl ?_
      refine o_nilc st rfl rfl ?_
      refine o_ixa st 0 rfl reads_own rfl rfl rfl arr104 ?_; intro e5 h6
      refine o_lds st (enc := encInt) (u := (.int .i64 e5)) 0 rfl reads_own flelInt rfl h6 rfl rfl ty3 rfl ?_
      refine c_nil ?_
      refine l_then ?_
      refine c_block ?_
      refine c_seq ?_
      refine c_region ?_
      refine o_eql st und3 rfl rfl rfl ?_
      refine o_as st rfl rfl ?_
      refine c_nil ?_
      refine l_then ?_
      refine c_cond rfl ?_ ?_
      · refine c_seq ?_
        refine c_region ?_
        refine o_as st rfl rfl ?_
        refine c_nil ?_
        refine l_then ?_
        refine c_ret ?_
        refine b_ret ?_
        refine l_ret ?_
        exact l_end1 Tryd.results76 (false, colours_2) () (rv_t rfl) (fun w m => NewCh.ofB m [0] rfl)
      · refine c_seq ?_
        refine c_region ?_
        refine o_eql st und3 rfl rfl rfl ?_
        refine o_as st rfl rfl ?_
        refine c_nil ?_
        refine l_then ?_
        refine c_cond rfl ?_ ?_
        · refine c_seq ?_
          refine c_region ?_
          refine o_as st rfl rfl ?_
          refine c_nil ?_
          refine l_then ?_
          refine c_ret ?_
          refine b_ret ?_
          refine l_ret ?_
          exact l_end1 Tryd.results76 (true, colours_2) () (rv_t rfl) (fun w m => NewCh.ofB m [0] rfl)
        · refine c_skip ?_
          refine b_norm ?_
          refine l_then ?_
          refine c_seq ?_
          refine c_region ?_
          refine o_mv st rfl rfl ?_
          refine o_mv st rfl rfl ?_
          refine o_nilc st rfl rfl ?_
          refine o_ixa st 0 rfl reads_own rfl rfl rfl arr104 ?_; intro e7 h8
          refine stw (o_sts (enc := encInt) (y' := 1) 0 rfl flelInt rfl h8 ty3 rfl rfl rfl rfl rfl rfl ?_)
          refine c_nil ?_
          refine l_then ?_
          refine c_seq ?_
          refine c_region ?_
          refine o_as st rfl rfl ?_
          refine c_nil ?_
          refine l_then ?_
          refine c_seq ?_
          refine c_seq ?_
          refine c_region ?_
          refine o_mv st rfl rfl ?_
          refine o_mv st rfl rfl ?_
          refine o_idx st 1 rfl (reads_snap hv1) rfl rfl rfl el28 ?_; intro e10 h11
          obtain ⟨_, ⟨v13, rfl, sl14⟩, rw12⟩ := sl_open hv1 h11
          refine o_ldR st (u := v13) 1 rfl rw12 rfl rfl ty50 rfl ?_
          refine stw (o_callP (vs := [v13]) Tryd.call55 rfl rfl (by intro w m h; exact (w_impl_callsIn (F := allB [] w) (rules_0 := e10) allB_ok (m.rd0 1 rfl (reads_snap sl14)) h).mono (fun _ _ k => ret_free (fun r u => (fr_cons (free_own flelInt) fr_nil)) k)) ?_); rintro r16 v17
          refine o_len st el67 0 rfl reads_own rfl rfl ?_
          refine o_mv st rfl rfl ?_
          refine c_nil ?_
          refine l_then ?_
          refine c_block ?_
          refine c_loop (σ := ((List Int) × Bool × Int)) (fun ((xs19, t21, t22) : ((List Int) × Bool × Int)) (a : Act) (w : World) => Has 48 [(0, v1), (1, (.int .i64 chain_1)), (2, (.pointer (some ⟨b3, 0, none⟩))), (7, (.bool t21)), (31, v17), (32, (.int .i64 (r16.length : Int))), (33, (.int .i64 t22))] a ∧ Mem (gB F [ownCh elInt 104 (.slice (some ⟨b3, 0, none⟩) 5 5) colours_2] w0) (feet [ownCh elInt 104 (.slice (some ⟨b3, 0, none⟩) 5 5) colours_2]) w0 [ownCh elInt 3 v17 r16, ownCh elInt 104 (.slice (some ⟨b3, 0, none⟩) 5 5) xs19, snapCh w0 F] w) (fun a w hE hm => ⟨hE.sub ⟨rfl, rfl, rfl, rfl, rfl, rfl, rfl, trivial⟩, (hm.pick [0, 1, 2] rfl)⟩) ?_
          rintro nx23 ⟨xs19, t21, t22⟩ a w ⟨hE, hm⟩ h
          refine nx_of hE hm h ?_
          clear hE hm h
          refine c_seq ?_
          refine c_region ?_
          refine o_lss st rfl rfl rfl ?_
          refine c_nil ?_
          refine l_then ?_
          refine c_seq ?_
          refine c_cond rfl ?_ ?_
          · refine c_skip ?_
            refine l_then ?_
            refine c_join (σ := ((List Int) × Bool)) (fun ((xs89, t91) : ((List Int) × Bool)) (a : Act) (w : World) => Has 48 [(0, v1), (1, (.int .i64 chain_1)), (2, (.pointer (some ⟨b3, 0, none⟩))), (7, (.bool t91)), (31, v17), (32, (.int .i64 (r16.length : Int))), (33, (.int .i64 t22))] a ∧ Mem (gB F [ownCh elInt 104 (.slice (some ⟨b3, 0, none⟩) 5 5) colours_2] w0) (feet [ownCh elInt 104 (.slice (some ⟨b3, 0, none⟩) 5 5) colours_2]) w0 [ownCh elInt 104 (.slice (some ⟨b3, 0, none⟩) 5 5) xs89, ownCh elInt 3 v17 r16, snapCh w0 F] w) ?_ ?_
            · intro k92
              refine c_block ?_
              refine c_seq ?_
              refine c_region ?_
              refine o_idx st 0 rfl reads_own rfl rfl rfl el67 ?_; intro e24 h25
              refine o_lds st (enc := encInt) (u := (.int .i64 e24)) 0 rfl reads_own flelInt rfl h25 rfl rfl ty3 rfl ?_
              refine o_as st rfl rfl ?_
              refine c_nil ?_
              refine l_then ?_
              refine c_seq ?_
              refine c_region ?_
              refine o_mv st rfl rfl ?_
              refine o_mv st rfl rfl ?_
              refine o_mv st rfl rfl ?_
              refine pk [1, 0, 2] rfl ?_
              refine stw (o_call (vs := [v1, (.int .i64 e24), (.pointer (some ⟨b3, 0, none⟩))]) (M0 := [ownCh elInt 104 (.slice (some ⟨b3, 0, none⟩) 5 5) xs19]) Tryd.call76 rfl rfl (by intro w m h; exact (ih (F := allB [ownCh elInt 104 (.slice (some ⟨b3, 0, none⟩) 5 5) xs19] w) (chains_0 := chains_0) (chain_1 := e24) (colours_2 := xs19) allB_ok m.given (m.rdM 1 rfl (reads_snap hv1)) h).mono (fun _ _ k => ret_free (fun r u => (fr_cons (free_own flelInt) fr_nil)) k)) ?_); rintro ⟨r26, r27⟩ _
              refine o_not st rfl rfl ?_
              refine c_nil ?_
              refine l_then ?_
              refine c_cond rfl ?_ ?_
              · refine c_region ?_
                refine o_as st rfl rfl ?_
                refine c_nil ?_
                refine b_norm ?_
                exact l_join (r27, false) (fun a w hE hm => ⟨hE.sub ⟨rfl, rfl, rfl, rfl, rfl, rfl, rfl, trivial⟩, (hm.pick [0, 1, 2] rfl)⟩)
              · refine c_skip ?_
                refine b_norm ?_
                exact l_join (r27, t21) (fun a w hE hm => ⟨hE.sub ⟨rfl, rfl, rfl, rfl, rfl, rfl, rfl, trivial⟩, (hm.pick [0, 1, 2] rfl)⟩)
            · rintro ⟨xs89, t91⟩ a w ⟨hE, hm⟩ h
              refine nx_of hE hm h ?_
              clear hE hm h
              refine c_region ?_
              refine o_add st rfl rfl rfl ?_; intro t93
              refine o_mv st rfl rfl ?_
              refine c_nil ?_
              exact l_join (xs89, t91, t93) (fun a w hE hm => ⟨hE.sub ⟨rfl, rfl, rfl, rfl, rfl, rfl, rfl, trivial⟩, (hm.pick [1, 0, 2] rfl)⟩)
          · refine c_exit ?_
            refine l_exit ?_
            refine l_exit ?_
            refine b_exit ?_
            refine l_then ?_
            refine c_seq ?_
            refine c_region ?_
            refine o_mv st rfl rfl ?_
            refine o_mv st rfl rfl ?_
            refine o_nilc st rfl rfl ?_
            refine o_ixa st 1 rfl reads_own rfl rfl rfl arr104 ?_; intro e94 h95
            refine stw (o_sts (enc := encInt) (y' := 2) 1 rfl flelInt rfl h95 ty3 rfl rfl rfl rfl rfl rfl ?_)
            refine c_nil ?_
            refine l_then ?_
            refine c_seq ?_
            refine c_region ?_
            refine o_mv st rfl rfl ?_
            refine o_as st rfl rfl ?_
            refine c_nil ?_
            refine l_then ?_
            refine c_ret ?_
            exact l_end1 Tryd.results76 (t21, (xs19.set (chain_1).toNat 2)) () (rv_t rfl) (fun w m => NewCh.ofB m [1] rfl)
theorem w_impl_visitCalls {w0 : World} {F : Nat → Prop} {b3 : Nat} {v1 : Value} {chains_0 : (List (List GRule))} {chain_1 : Int} {colours_2 : (List Int)} {κ : (Bool × (List Int)) → Prop} (hF : ∀ b, F b → b < w0.heap.size ∧ ¬ feet [ownCh elInt 104 (.slice (some ⟨b3, 0, none⟩) 5 5) colours_2] b) (hg : Given [ownCh elInt 104 (.slice (some ⟨b3, 0, none⟩) 5 5) colours_2] F w0) (hv1 : Sl (elSl elGRule) F w0 v1 chains_0) (h : L_impl_visitCalls chains_0 chain_1 colours_2 κ) :
    Calls Tryd.prog 76 #[v1, (.int .i64 chain_1), (.pointer (some ⟨b3, 0, none⟩))] w0 (Ret [ownCh elInt 104 (.slice (some ⟨b3, 0, none⟩) 5 5) colours_2] F w0 κ (fun (r : (Bool × (List Int))) (u : Unit) => (.bool r.1)) (fun (r : (Bool × (List Int))) (u : Unit) => [ownCh elInt 104 (.slice (some ⟨b3, 0, none⟩) 5 5) r.2])) := by
  obtain ⟨n, h⟩ := h
  exact wr_impl_visitCalls n hF hg hv1 h

set_option maxRecDepth 100000 in
set_option maxHeartbeats 8000000 in
theorem w_impl_acyclic {w0 : World} {F : Nat → Prop} {v1 : Value} {chains_0 : (List (List GRule))} {κ : Bool → Prop} (hF : ∀ b, F b → b < w0.heap.size ∧ ¬ feet [] b) (hv1 : Sl (elSl elGRule) F w0 v1 chains_0) (h : L_impl_acyclic chains_0 κ) :
    Calls Tryd.prog 56 #[v1] w0 (Ret [] F w0 κ (fun (r : Bool) (u : Unit) => (.bool r)) (fun (r : Bool) (u : Unit) => [])) := by
  refine enterS (args := [v1]) [] hF (Given.nil _ _) Tryd.func56 rfl Tryd.ntmps56 rfl h ?_
  clear h hF
  refine c_seq ?_
  refine c_region ?_
  refine o_as st rfl rfl ?_
  refine c_nil ?_
  refine l_then ?_
  refine c_seq ?_
  refine c_region ?_
  refine stw (o_allocA (El' := elInt) (z := (0 : Int)) (len := 5) (zs := [(.int .i64 0)]) (fun F w => (flelInt _ _ _ _).2 rfl) rfl zero104 rfl rfl ?_); intro b3
  refine c_nil ?_
  refine l_then ?_
  refine c_seq ?_
  refine c_seq ?_
  refine c_region ?_
  refine o_mv st rfl rfl ?_
  refine o_len st el28 1 rfl (reads_snap hv1) rfl rfl ?_
  refine o_mv st rfl rfl ?_
  refine c_nil ?_
  refine l_then ?_
  refine c_block ?_
  refine c_loop (σ := ((List Int) × Int)) (fun ((xs5, t7) : ((List Int) × Int)) (a : Act) (w : World) => Has 15 [(0, v1), (3, (.pointer (some ⟨b3, 0, none⟩))), (6, (.int .i64 (chains_0.length : Int))), (7, (.int .i64 t7))] a ∧ Mem (gB F [] w0) (feet []) w0 [ownCh elInt 104 (.slice (some ⟨b3, 0, none⟩) 5 5) xs5, snapCh w0 F] w) (fun a w hE hm => ⟨hE.sub ⟨rfl, rfl, rfl, rfl, trivial⟩, (hm.pick [0, 1] rfl)⟩) ?_
  rintro nx8 ⟨xs5, t7⟩ a w ⟨hE, hm⟩ h
  refine nx_of hE hm h ?_
  clear hE hm h
  refine c_seq ?_
  refine c_region ?_
  refine o_lss st rfl rfl rfl ?_
  refine c_nil ?_
  refine l_then ?_
  refine c_seq ?_
  refine c_cond rfl ?_ ?_
  · refine c_skip ?_
    refine l_then ?_
    refine c_seq ?_
    refine c_block ?_
    refine c_seq ?_
    refine c_region ?_
    refine o_mv st rfl rfl ?_
    refine o_as st rfl rfl ?_
    refine c_nil ?_
    refine l_then ?_
    refine c_seq ?_
    refine c_region ?_
    refine o_mv st rfl rfl ?_
    refine o_mv st rfl rfl ?_
    refine stw (o_call (vs := [v1, (.int .i64 t7), (.pointer (some ⟨b3, 0, none⟩))]) (M0 := [ownCh elInt 104 (.slice (some ⟨b3, 0, none⟩) 5 5) xs5]) Tryd.call76 rfl rfl (by intro w m h; exact (w_impl_visitCalls (F := allB [ownCh elInt 104 (.slice (some ⟨b3, 0, none⟩) 5 5) xs5] w) (chains_0 := chains_0) (chain_1 := t7) (colours_2 := xs5) allB_ok m.given (m.rdM 0 rfl (reads_snap hv1)) h).mono (fun _ _ k => ret_free (fun r u => (fr_cons (free_own flelInt) fr_nil)) k)) ?_); rintro ⟨r9, r10⟩ _
    refine o_not st rfl rfl ?_
    refine c_nil ?_
    refine l_then ?_
    refine c_cond rfl ?_ ?_
    · refine c_seq ?_
      refine c_region ?_
      refine o_as st rfl rfl ?_
      refine c_nil ?_
      refine l_then ?_
      refine c_ret ?_
      refine b_ret ?_
      refine l_ret ?_
      refine l_ret ?_
      refine b_ret ?_
      refine l_ret ?_
      exact l_end1 Tryd.results56 false () (rv_t rfl) (fun _ _ => NewCh.nil _ _ _ _)
    · refine c_skip ?_
      refine b_norm ?_
      refine l_then ?_
      refine c_region ?_
      refine o_add st rfl rfl rfl ?_; intro t12
      refine o_mv st rfl rfl ?_
      refine c_nil ?_
      exact l_join (r10, t12) (fun a w hE hm => ⟨hE.sub ⟨rfl, rfl, rfl, rfl, trivial⟩, (hm.pick [0, 1] rfl)⟩)
  · refine c_exit ?_
    refine l_exit ?_
    refine l_exit ?_
    refine b_exit ?_
    refine l_then ?_
    refine c_seq ?_
    refine c_region ?_
    refine o_as st rfl rfl ?_
    refine c_nil ?_
    refine l_then ?_
    refine c_ret ?_
    exact l_end1 Tryd.results56 true () (rv_t rfl) (fun _ _ => NewCh.nil _ _ _ _)

set_option maxRecDepth 100000 in
set_option maxHeartbeats 8000000 in
theorem w_impl_RulesetValid {w0 : World} {F : Nat → Prop} {v1 : Value} {s_0 : GRuleset} {κ : Bool → Prop} (hF : ∀ b, F b → b < w0.heap.size ∧ ¬ feet [] b) (hv1 : Sl (elSl elGRule) F w0 v1 s_0.xChains) (hgl0 : Sl elGFieldShape F w0 (.slice (some ⟨0, 0, none⟩) 4 4) gl_impl_fieldShapes) (h : L_impl_RulesetValid s_0 κ) :
    Calls Tryd.prog 32 #[(.agg #[v1, (.bool s_0.xAccept)])] w0 (Ret [] F w0 κ (fun (r : Bool) (u : Unit) => (.bool r)) (fun (r : Bool) (u : Unit) => [])) := by
  refine enterS (args := [(.agg #[v1, (.bool s_0.xAccept)])]) [] hF (Given.nil _ _) Tryd.func32 rfl Tryd.ntmps32 rfl h ?_
  clear h hF
  refine c_seq ?_
  refine c_region ?_
  obtain ⟨a3, l4, q5, hs_⟩ := sl_val hv1; subst hs_
  refine stw (o_box rfl rfl [(.slice a3 l4 q5), (.bool s_0.xAccept)] rfl ?_); intro b6
  refine o_as st rfl rfl ?_
  refine c_nil ?_
  refine l_then ?_
  refine c_seq ?_
  refine c_join (σ := Bool) (fun (t68 : Bool) (a : Act) (w : World) => Has 54 [(1, (.pointer (some ⟨b6, 0, none⟩))), (18, (.bool t68))] a ∧ Mem (gB F [] w0) (feet []) w0 [cellCh b6 [(.slice a3 l4 q5), (.bool s_0.xAccept)] 30, snapCh w0 F] w) ?_ ?_
  · intro k69
    refine c_region ?_
    refine o_fad st rfl rfl fld30_0 rfl ?_
    refine o_ldc st (v := (.slice a3 l4 q5)) 0 rfl rfl rfl ty28 rfl ?_
    refine o_len st el28 1 rfl (reads_snap hv1) rfl rfl ?_
    refine o_lss st rfl rfl rfl ?_
    refine o_mv st rfl rfl ?_
    refine st_sp (dj := 13) rfl ?_ ?_
    · refine st_s rfl rfl rfl rfl ?_
      refine st_s rfl rfl rfl rfl ?_
      refine st_s rfl rfl rfl rfl ?_
      refine st_s rfl rfl rfl rfl ?_
      refine o_pickT st rfl rfl rfl ?_
      refine c_nil ?_
      exact l_join true (fun a w hE hm => ⟨hE.sub ⟨rfl, rfl, trivial⟩, (hm.pick [0, 1] rfl)⟩)
    · refine o_fad (st_g rfl rfl) rfl rfl fld30_0 rfl ?_
      refine o_ldc (st_g rfl rfl) (v := (.slice a3 l4 q5)) 0 rfl rfl rfl ty28 rfl ?_
      refine o_len (st_g rfl rfl) el28 1 rfl (reads_snap hv1) rfl rfl ?_
      refine o_gtr (st_g rfl rfl) rfl rfl rfl ?_
      refine o_pickF st rfl rfl rfl ?_
      refine c_nil ?_
      exact l_join (decide (5 < (s_0.xChains.length : Int))) (fun a w hE hm => ⟨hE.sub ⟨rfl, rfl, trivial⟩, (hm.pick [0, 1] rfl)⟩)
  · rintro t68 a w ⟨hE, hm⟩ h
    refine nx_of hE hm h ?_
    clear hE hm h
    refine c_cond rfl ?_ ?_
    · refine c_seq ?_
      refine c_region ?_
      refine o_as st rfl rfl ?_
      refine c_nil ?_
      refine l_then ?_
      refine c_ret ?_
      refine l_ret ?_
      exact l_end1 Tryd.results32 false () (rv_t rfl) (fun _ _ => NewCh.nil _ _ _ _)
    · refine c_skip ?_
      refine l_then ?_
      refine c_seq ?_
      refine c_seq ?_
      refine c_region ?_
      refine o_fad st rfl rfl fld30_0 rfl ?_
      refine o_ldc st (v := (.slice a3 l4 q5)) 0 rfl rfl rfl ty28 rfl ?_
      refine o_len st el28 1 rfl (reads_snap hv1) rfl rfl ?_
      refine o_mv st rfl rfl ?_
      refine c_nil ?_
      refine l_then ?_
      refine c_block ?_
      refine c_loop (σ := Int) (fun (t70 : Int) (a : Act) (w : World) => Has 54 [(1, (.pointer (some ⟨b6, 0, none⟩))), (20, (.slice a3 l4 q5)), (21, (.int .i64 (s_0.xChains.length : Int))), (22, (.int .i64 t70))] a ∧ Mem (gB F [] w0) (feet []) w0 [cellCh b6 [(.slice a3 l4 q5), (.bool s_0.xAccept)] 30, snapCh w0 F] w) (fun a w hE hm => ⟨hE.sub ⟨rfl, rfl, rfl, rfl, trivial⟩, (hm.pick [0, 1] rfl)⟩) ?_
      rintro nx71 t70 a w ⟨hE, hm⟩ h
      refine nx_of hE hm h ?_
      clear hE hm h
      refine c_seq ?_
      refine c_region ?_
      refine o_lss st rfl rfl rfl ?_
      refine c_nil ?_
      refine l_then ?_
      refine c_seq ?_
      refine c_cond rfl ?_ ?_
      · refine c_skip ?_
        refine l_then ?_
        refine c_seq ?_
        refine c_block ?_
        refine c_seq ?_
        refine c_region ?_
        refine o_idx st 1 rfl (reads_snap hv1) rfl rfl rfl el28 ?_; intro e72 h73
        obtain ⟨_, ⟨v75, rfl, sl76⟩, rw74⟩ := sl_open hv1 h73
        refine o_ldR st (u := v75) 1 rfl rw74 rfl rfl ty50 rfl ?_
        refine o_as st rfl rfl ?_
        refine c_nil ?_
        refine l_then ?_
        refine c_seq ?_
        refine c_region ?_
        refine o_mv st rfl rfl ?_
        refine stw (o_callP (vs := [v75]) Tryd.call54 rfl rfl (by intro w m h; exact (w_impl_RulesValid (F := allB [] w) (list_0 := e72) allB_ok (m.rd0 1 rfl (reads_snap sl76)) (m.rd0 1 rfl (reads_snap hgl0)) h).mono (fun _ _ k => ret_free (fun r u => fr_nil) k)) ?_); rintro r78 _
        refine o_not st rfl rfl ?_
        refine c_nil ?_
        refine l_then ?_
        refine c_cond rfl ?_ ?_
        · refine c_seq ?_
          refine c_region ?_
          refine o_as st rfl rfl ?_
          refine c_nil ?_
          refine l_then ?_
          refine c_ret ?_
          refine b_ret ?_
          refine l_ret ?_
          refine l_ret ?_
          refine b_ret ?_
          refine l_ret ?_
          exact l_end1 Tryd.results32 false () (rv_t rfl) (fun _ _ => NewCh.nil _ _ _ _)
        · refine c_skip ?_
          refine b_norm ?_
          refine l_then ?_
          refine c_region ?_
          refine o_add st rfl rfl rfl ?_; intro t79
          refine o_mv st rfl rfl ?_
          refine c_nil ?_
          exact l_join t79 (fun a w hE hm => ⟨hE.sub ⟨rfl, rfl, rfl, rfl, trivial⟩, (hm.pick [0, 1] rfl)⟩)
      · refine c_exit ?_
        refine l_exit ?_
        refine l_exit ?_
        refine b_exit ?_
        refine l_then ?_
        refine c_seq ?_
        refine c_seq ?_
        refine c_region ?_
        refine o_fad st rfl rfl fld30_0 rfl ?_
        refine o_ldc st (v := (.slice a3 l4 q5)) 0 rfl rfl rfl ty28 rfl ?_
        refine o_len st el28 1 rfl (reads_snap hv1) rfl rfl ?_
        refine o_mv st rfl rfl ?_
        refine c_nil ?_
        refine l_then ?_
        refine c_block ?_
        refine c_loop (σ := Int) (fun (t80 : Int) (a : Act) (w : World) => Has 54 [(1, (.pointer (some ⟨b6, 0, none⟩))), (31, (.slice a3 l4 q5)), (32, (.int .i64 (s_0.xChains.length : Int))), (33, (.int .i64 t80))] a ∧ Mem (gB F [] w0) (feet []) w0 [cellCh b6 [(.slice a3 l4 q5), (.bool s_0.xAccept)] 30, snapCh w0 F] w) (fun a w hE hm => ⟨hE.sub ⟨rfl, rfl, rfl, rfl, trivial⟩, (hm.pick [0, 1] rfl)⟩) ?_
        rintro nx81 t80 a w ⟨hE, hm⟩ h
        refine nx_of hE hm h ?_
        clear hE hm h
        refine c_seq ?_
        refine c_region ?_
        refine o_lss st rfl rfl rfl ?_
        refine c_nil ?_
        refine l_then ?_
        refine c_seq ?_
        refine c_cond rfl ?_ ?_
        · refine c_skip ?_
          refine l_then ?_
          refine c_seq ?_
          refine c_block ?_
          refine c_seq ?_
          refine c_region ?_
          refine o_idx st 1 rfl (reads_snap hv1) rfl rfl rfl el28 ?_; intro e82 h83
          obtain ⟨_, ⟨v85, rfl, sl86⟩, rw84⟩ := sl_open hv1 h83
          refine o_ldR st (u := v85) 1 rfl rw84 rfl rfl ty50 rfl ?_
          refine o_as st rfl rfl ?_
          refine c_nil ?_
          refine l_then ?_
          refine c_seq ?_
          refine c_region ?_
          refine o_mv st rfl rfl ?_
          refine stw (o_callP (vs := [v85]) Tryd.call55 rfl rfl (by intro w m h; exact (w_impl_callsIn (F := allB [] w) (rules_0 := e82) allB_ok (m.rd0 1 rfl (reads_snap sl86)) h).mono (fun _ _ k => ret_free (fun r u => (fr_cons (free_own flelInt) fr_nil)) k)) ?_); rintro r88 v89
          refine o_len st el67 0 rfl reads_own rfl rfl ?_
          refine o_mv st rfl rfl ?_
          refine c_nil ?_
          refine l_then ?_
          refine c_block ?_
          refine c_loop (σ := Int) (fun (t91 : Int) (a : Act) (w : World) => Has 54 [(1, (.pointer (some ⟨b6, 0, none⟩))), (31, (.slice a3 l4 q5)), (32, (.int .i64 (s_0.xChains.length : Int))), (33, (.int .i64 t80)), (38, v89), (39, (.int .i64 (r88.length : Int))), (40, (.int .i64 t91))] a ∧ Mem (gB F [] w0) (feet []) w0 [ownCh elInt 3 v89 r88, cellCh b6 [(.slice a3 l4 q5), (.bool s_0.xAccept)] 30, snapCh w0 F] w) (fun a w hE hm => ⟨hE.sub ⟨rfl, rfl, rfl, rfl, rfl, rfl, rfl, trivial⟩, (hm.pick [0, 1, 2] rfl)⟩) ?_
          rintro nx92 t91 a w ⟨hE, hm⟩ h
          refine nx_of hE hm h ?_
          clear hE hm h
          refine c_seq ?_
          refine c_region ?_
          refine o_lss st rfl rfl rfl ?_
          refine c_nil ?_
          refine l_then ?_
          refine c_seq ?_
          refine c_cond rfl ?_ ?_
          · refine c_skip ?_
            refine l_then ?_
            refine c_seq ?_
            refine c_block ?_
            refine c_seq ?_
            refine c_region ?_
            refine o_idx st 0 rfl reads_own rfl rfl rfl el67 ?_; intro e93 h94
            refine o_lds st (enc := encInt) (u := (.int .i64 e93)) 0 rfl reads_own flelInt rfl h94 rfl rfl ty3 rfl ?_
            refine o_as st rfl rfl ?_
            refine c_nil ?_
            refine l_then ?_
            refine c_seq ?_
            refine c_region ?_
            refine o_mv st rfl rfl ?_
            refine o_fad st rfl rfl fld30_0 rfl ?_
            refine o_ldc st (v := (.slice a3 l4 q5)) 1 rfl rfl rfl ty28 rfl ?_
            refine o_len st el28 2 rfl (reads_snap hv1) rfl rfl ?_
            refine o_geq st rfl rfl rfl ?_
            refine c_nil ?_
            refine l_then ?_
            refine c_cond rfl ?_ ?_
            · refine c_seq ?_
              refine c_region ?_
              refine o_as st rfl rfl ?_
              refine c_nil ?_
              refine l_then ?_
              refine c_ret ?_
              refine b_ret ?_
              refine l_ret ?_
              refine l_ret ?_
              refine b_ret ?_
              refine b_ret ?_
              refine l_ret ?_
              refine l_ret ?_
              refine b_ret ?_
              refine l_ret ?_
              exact l_end1 Tryd.results32 false () (rv_t rfl) (fun _ _ => NewCh.nil _ _ _ _)
            · refine c_skip ?_
              refine b_norm ?_
              refine l_then ?_
              refine c_region ?_
              refine o_add st rfl rfl rfl ?_; intro t95
              refine o_mv st rfl rfl ?_
              refine c_nil ?_
              exact l_join t95 (fun a w hE hm => ⟨hE.sub ⟨rfl, rfl, rfl, rfl, rfl, rfl, rfl, trivial⟩, (hm.pick [0, 1, 2] rfl)⟩)
          · refine c_exit ?_
            refine l_exit ?_
            refine l_exit ?_
            refine b_exit ?_
            refine b_norm ?_
            refine l_then ?_
            refine c_region ?_
            refine o_add st rfl rfl rfl ?_; intro t96
            refine o_mv st rfl rfl ?_
            refine c_nil ?_
            exact l_join t96 (fun a w hE hm => ⟨hE.sub ⟨rfl, rfl, rfl, rfl, trivial⟩, (hm.pick [1, 2] rfl)⟩)
        · refine c_exit ?_
          refine l_exit ?_
          refine l_exit ?_
          refine b_exit ?_
          refine l_then ?_
          refine c_seq ?_
          refine c_region ?_
          refine o_fad st rfl rfl fld30_0 rfl ?_
          refine o_ldc st (v := (.slice a3 l4 q5)) 0 rfl rfl rfl ty28 rfl ?_
          refine stw (o_callP (vs := [(.slice a3 l4 q5)]) Tryd.call56 rfl rfl (by intro w m h; exact (w_impl_acyclic (F := allB [] w) (chains_0 := s_0.xChains) allB_ok (m.rd0 1 rfl (reads_snap hv1)) h).mono (fun _ _ k => ret_free (fun r u => fr_nil) k)) ?_); rintro r97 _
          refine o_as st rfl rfl ?_
          refine c_nil ?_
          refine l_then ?_
          refine c_ret ?_
          exact l_end1 Tryd.results32 r97 () (rv_t rfl) (fun _ _ => NewCh.nil _ _ _ _)

set_option maxRecDepth 100000 in
set_option maxHeartbeats 8000000 in
theorem w_impl_chainLine {w0 : World} {F : Nat → Prop} {number_0 : Int} {κ : ByteArray → Prop} (hF : ∀ b, F b → b < w0.heap.size ∧ ¬ feet [] b) (hgl1 : Tb F w0) (h : L_impl_chainLine number_0 κ) :
    Calls Tryd.prog 37 #[(.int .i64 number_0)] w0 (Ret [] F w0 κ (fun (r : ByteArray) (u : Unit) => (.string r)) (fun (r : ByteArray) (u : Unit) => [])) := by
  refine enterS (args := [(.int .i64 number_0)]) [] hF (Given.nil _ _) Tryd.func37 rfl Tryd.ntmps37 rfl h ?_
  clear h hF
  refine c_seq ?_
  refine c_region ?_
  refine o_as st rfl rfl ?_
  refine c_nil ?_
  refine l_then ?_
  refine c_seq ?_
  refine c_region ?_
  refine o_mv st rfl rfl ?_
  refine stw (o_callP (vs := [(.int .i64 number_0)]) Tryd.call61 rfl rfl (by intro w m h; exact w_lib_Itoa (n_0 := number_0) (hgl1.of (m.get (i := 0) rfl)) h) ?_); rintro r1 _
  refine o_cat st rfl rfl rfl ?_; intro s2
  refine o_as st rfl rfl ?_
  refine c_nil ?_
  refine l_then ?_
  refine c_ret ?_
  exact l_end1 Tryd.results37 s2 () (rv_t rfl) (fun _ _ => NewCh.nil _ _ _ _)



end
section
open Go.RowKit
set_option maxRecDepth 100000 in
set_option maxHeartbeats 8000000 in
theorem w_impl_actionOf {w0 : World} {F : Nat → Prop} {v1 : Value} {r_0 : GRule} {κ : IAction → Prop} (hF : ∀ b, F b → b < w0.heap.size ∧ ¬ feet [] b) (hv1 : Sl elGTest F w0 v1 r_0.xTests) (h : L_impl_actionOf r_0 κ) :
    Calls Tryd.prog 62 #[(.agg #[v1, (.int .i64 r_0.xAction), (.int .i64 r_0.xChain)])] w0 (Ret [] F w0 κ (fun (r : IAction) (u : Unit) => (ivIAction r)) (fun (r : IAction) (u : Unit) => [])) := by
  refine enterS (args := [(.agg #[v1, (.int .i64 r_0.xAction), (.int .i64 r_0.xChain)])]) [] hF (Given.nil _ _) Tryd.func62 rfl Tryd.ntmps62 rfl h ?_
  clear h hF
  refine c_seq ?_
  refine c_region ?_
  obtain ⟨a3, l4, q5, hs_⟩ := sl_val hv1; subst hs_
  refine stw (o_box rfl rfl [(.slice a3 l4 q5), (.int .i64 r_0.xAction), (.int .i64 r_0.xChain)] rfl ?_); intro b6
  refine o_as st rfl rfl ?_
  refine c_nil ?_
  refine l_then ?_
  refine c_seq ?_
  refine c_seq ?_
  refine c_region ?_
  refine o_fad st rfl rfl fld54_1 rfl ?_
  refine o_ldc st (v := (.int .i64 r_0.xAction)) 0 rfl rfl rfl ty3 rfl ?_
  refine c_nil ?_
  refine l_then ?_
  refine c_block ?_
  refine c_seq ?_
  refine c_region ?_
  refine o_eql st und3 rfl rfl rfl ?_
  refine o_as st rfl rfl ?_
  refine c_nil ?_
  refine l_then ?_
  refine c_cond rfl ?_ ?_
  · refine c_seq ?_
    refine c_region ?_
    refine o_bld st (qs := [(0, (.bool true))]) (cells := [(.bool true)]) (by intro ρ h; simp only [List.map_toArray, List.map_cons, List.map_nil, h (.const (.bool true)) _ rfl]) rfl bld115 rfl ?_
    refine o_mki st (u := (ivIAction (IAction.kDeciding (GDeciding.mk true)))) mki115 rfl rfl rfl ?_
    refine o_as st rfl rfl ?_
    refine c_nil ?_
    refine l_then ?_
    refine c_ret ?_
    refine b_ret ?_
    refine l_ret ?_
    exact l_end1 Tryd.results62 (IAction.kDeciding (GDeciding.mk true)) () (rv_t rfl) (fun _ _ => NewCh.nil _ _ _ _)
  · refine c_seq ?_
    refine c_region ?_
    refine o_eql st und3 rfl rfl rfl ?_
    refine o_as st rfl rfl ?_
    refine c_nil ?_
    refine l_then ?_
    refine c_cond rfl ?_ ?_
    · refine c_seq ?_
      refine c_region ?_
      refine o_bld st (qs := [(0, (.bool false))]) (cells := [(.bool false)]) (by intro ρ h; simp only [List.map_toArray, List.map_cons, List.map_nil, h (.const (.bool false)) _ rfl]) rfl bld115 rfl ?_
      refine o_mki st (u := (ivIAction (IAction.kDeciding (GDeciding.mk false)))) mki115 rfl rfl rfl ?_
      refine o_as st rfl rfl ?_
      refine c_nil ?_
      refine l_then ?_
      refine c_ret ?_
      refine b_ret ?_
      refine l_ret ?_
      exact l_end1 Tryd.results62 (IAction.kDeciding (GDeciding.mk false)) () (rv_t rfl) (fun _ _ => NewCh.nil _ _ _ _)
    · refine c_seq ?_
      refine c_region ?_
      refine o_eql st und3 rfl rfl rfl ?_
      refine o_as st rfl rfl ?_
      refine c_nil ?_
      refine l_then ?_
      refine c_cond rfl ?_ ?_
      · refine c_seq ?_
        refine c_region ?_
        refine o_fad st rfl rfl fld54_2 rfl ?_
        refine o_ldc st (v := (.int .i64 r_0.xChain)) 0 rfl rfl rfl ty3 rfl ?_
        refine o_bld st (qs := [(0, (.int .i64 r_0.xChain))]) (cells := [(.int .i64 r_0.xChain)]) (by intro ρ h; simp only [List.map_toArray, List.map_cons, List.map_nil, h (.tmp 16) _ rfl]) rfl bld117 rfl ?_
        refine o_mki st (u := (ivIAction (IAction.kCalling (GCalling.mk r_0.xChain)))) mki117 rfl rfl rfl ?_
        refine o_as st rfl rfl ?_
        refine c_nil ?_
        refine l_then ?_
        refine c_ret ?_
        refine b_ret ?_
        refine l_ret ?_
        exact l_end1 Tryd.results62 (IAction.kCalling (GCalling.mk r_0.xChain)) () (rv_t rfl) (fun _ _ => NewCh.nil _ _ _ _)
      · refine c_seq ?_
        refine c_region ?_
        refine o_eql st und3 rfl rfl rfl ?_
        refine o_as st rfl rfl ?_
        refine c_nil ?_
        refine l_then ?_
        refine c_cond rfl ?_ ?_
        · refine c_seq ?_
          refine c_region ?_
          refine o_bld st (qs := []) (cells := []) (by intro ρ h; simp only [List.map_toArray, List.map_cons, List.map_nil]) rfl bld119 rfl ?_
          refine o_mki st (u := (ivIAction (IAction.kReturning (GReturning.mk )))) mki119 rfl rfl rfl ?_
          refine o_as st rfl rfl ?_
          refine c_nil ?_
          refine l_then ?_
          refine c_ret ?_
          refine b_ret ?_
          refine l_ret ?_
          exact l_end1 Tryd.results62 (IAction.kReturning (GReturning.mk )) () (rv_t rfl) (fun _ _ => NewCh.nil _ _ _ _)
        · refine c_skip ?_
          refine b_norm ?_
          refine l_then ?_
          refine c_seq ?_
          refine c_region ?_
          refine o_bld st (qs := []) (cells := []) (by intro ρ h; simp only [List.map_toArray, List.map_cons, List.map_nil]) rfl bld120 rfl ?_
          refine o_mki st (u := (ivIAction (IAction.kPassing (GPassing.mk )))) mki120 rfl rfl rfl ?_
          refine o_as st rfl rfl ?_
          refine c_nil ?_
          refine l_then ?_
          refine c_ret ?_
          exact l_end1 Tryd.results62 (IAction.kPassing (GPassing.mk )) () (rv_t rfl) (fun _ _ => NewCh.nil _ _ _ _)

set_option maxRecDepth 100000 in
set_option maxHeartbeats 8000000 in
theorem w_impl_Test_text {w0 : World} {F : Nat → Prop} {t_0 : GTest} {κ : ByteArray → Prop} (hF : ∀ b, F b → b < w0.heap.size ∧ ¬ feet [] b) (hgl0 : Sl elGFieldShape F w0 (.slice (some ⟨0, 0, none⟩) 4 4) gl_impl_fieldShapes) (hgl1 : Tb F w0) (h : L_impl_Test_text t_0 κ) :
    Calls Tryd.prog 63 #[(.agg #[(.int .i64 t_0.xField), (.int .i64 t_0.xLo), (.int .i64 t_0.xHi), (.bool t_0.xNot)])] w0 (Ret [] F w0 κ (fun (r : ByteArray) (u : Unit) => (.string r)) (fun (r : ByteArray) (u : Unit) => [])) := by
  refine enterS (args := [(.agg #[(.int .i64 t_0.xField), (.int .i64 t_0.xLo), (.int .i64 t_0.xHi), (.bool t_0.xNot)])]) [] hF (Given.nil _ _) Tryd.func63 rfl Tryd.ntmps63 rfl h ?_
  clear h hF
  refine c_seq ?_
  refine c_region ?_
  refine stw (o_box rfl rfl [(.int .i64 t_0.xField), (.int .i64 t_0.xLo), (.int .i64 t_0.xHi), (.bool t_0.xNot)] rfl ?_); intro b1
  refine o_as st rfl rfl ?_
  refine c_nil ?_
  refine l_then ?_
  refine c_seq ?_
  refine c_draw mixed 11 rfl [cellCh b1 [(.int .i64 t_0.xField), (.int .i64 t_0.xLo), (.int .i64 t_0.xHi), (.bool t_0.xNot)] 84, snapCh w0 F] ?_
  refine o_fad (dt 0 (fun _ m => m)) rfl rfl fld84_0 rfl ?_
  refine o_ldc (dt 1 (fun _ m => m)) (v := (.int .i64 t_0.xField)) 0 rfl rfl rfl ty3 rfl ?_
  refine o_ixa (dt 2 (fun _ m => m)) 1 rfl (reads_snap hgl0) rfl rfl rfl arr123 ?_; intro e3 h4
  refine o_fadS (dt 3 (fun _ m => m)) 1 rfl (reads_snap hgl0) h4 rfl rfl fld122_0 rfl ?_
  refine o_lds (dt 4 (fun _ m => m)) (enc := encGFieldShape) (u := (.string e3.xName)) 1 rfl (reads_snap hgl0) flelGFieldShape rfl h4 rfl rfl ty9 rfl ?_
  refine o_cat (dt 5 (fun _ m => m)) rfl rfl rfl ?_; intro s5
  refine o_fad (dt 6 (fun _ m => m)) rfl rfl fld84_1 rfl ?_
  refine o_ldc (dt 7 (fun _ m => m)) (v := (.int .i64 t_0.xLo)) 0 rfl rfl rfl ty3 rfl ?_
  refine d_one (i := 8) rfl (by kernel_rfl) (o_callP (vs := [(.int .i64 t_0.xLo)]) Tryd.call61 rfl rfl (by intro w m h; exact w_lib_Itoa (n_0 := t_0.xLo) (hgl1.of (m.get (i := 1) rfl)) h) ?_); rintro r6 _
  refine d_and (fun _ m => m) ?_
  refine o_cat (dt 9 (fun _ m => m)) rfl rfl rfl ?_; intro s7
  refine o_as (dt 10 (fun _ m => m)) rfl rfl ?_
  refine d_done (by kernel_rfl) ?_
  refine l_then ?_
  refine c_join (σ := ByteArray) (fun (t69 : ByteArray) (a : Act) (w : World) => Has 30 [(1, (.pointer (some ⟨b1, 0, none⟩))), (3, (.string t69))] a ∧ Mem (gB F [] w0) (feet []) w0 [cellCh b1 [(.int .i64 t_0.xField), (.int .i64 t_0.xLo), (.int .i64 t_0.xHi), (.bool t_0.xNot)] 84, snapCh w0 F] w) ?_ ?_
  · intro k70
    refine c_seq ?_
    refine c_region ?_
    refine o_fad st rfl rfl fld84_3 rfl ?_
    refine o_ldc st (v := (.bool t_0.xNot)) 0 rfl rfl rfl ty4 rfl ?_
    refine c_nil ?_
    refine l_then ?_
    refine c_cond rfl ?_ ?_
    · refine c_region ?_
      refine o_mv st rfl rfl ?_
      refine o_cat st rfl rfl rfl ?_; intro s8
      refine o_as st rfl rfl ?_
      refine c_nil ?_
      exact l_join s8 (fun a w hE hm => ⟨hE.sub ⟨rfl, rfl, trivial⟩, (hm.pick [0, 1] rfl)⟩)
    · refine c_skip ?_
      exact l_join s7 (fun a w hE hm => ⟨hE.sub ⟨rfl, rfl, trivial⟩, (hm.pick [0, 1] rfl)⟩)
  · rintro t69 a w ⟨hE, hm⟩ h
    refine nx_of hE hm h ?_
    clear hE hm h
    refine c_join (σ := ByteArray) (fun (t134 : ByteArray) (a : Act) (w : World) => Has 30 [(3, (.string t134))] a ∧ Mem (gB F [] w0) (feet []) w0 [snapCh w0 F] w) ?_ ?_
    · intro k135
      refine c_seq ?_
      refine c_region ?_
      refine o_fad st rfl rfl fld84_2 rfl ?_
      refine o_ldc st (v := (.int .i64 t_0.xHi)) 0 rfl rfl rfl ty3 rfl ?_
      refine o_fad st rfl rfl fld84_1 rfl ?_
      refine o_ldc st (v := (.int .i64 t_0.xLo)) 0 rfl rfl rfl ty3 rfl ?_
      refine o_neq st und3 rfl rfl rfl ?_
      refine c_nil ?_
      refine l_then ?_
      refine c_cond rfl ?_ ?_
      · refine c_region ?_
        refine o_mv st rfl rfl ?_
        refine o_fad st rfl rfl fld84_2 rfl ?_
        refine o_ldc st (v := (.int .i64 t_0.xHi)) 0 rfl rfl rfl ty3 rfl ?_
        refine stw (o_callP (vs := [(.int .i64 t_0.xHi)]) Tryd.call61 rfl rfl (by intro w m h; exact w_lib_Itoa (n_0 := t_0.xHi) (hgl1.of (m.get (i := 1) rfl)) h) ?_); rintro r71 _
        refine o_cat st rfl rfl rfl ?_; intro s72
        refine o_cat st rfl rfl rfl ?_; intro s73
        refine o_as st rfl rfl ?_
        refine c_nil ?_
        exact l_join s73 (fun a w hE hm => ⟨hE.sub ⟨rfl, trivial⟩, (hm.pick [1] rfl)⟩)
      · refine c_skip ?_
        exact l_join t69 (fun a w hE hm => ⟨hE.sub ⟨rfl, trivial⟩, (hm.pick [1] rfl)⟩)
    · rintro t134 a w ⟨hE, hm⟩ h
      refine nx_of hE hm h ?_
      clear hE hm h
      refine c_seq ?_
      refine c_region ?_
      refine o_mv st rfl rfl ?_
      refine o_as st rfl rfl ?_
      refine c_nil ?_
      refine l_then ?_
      refine c_ret ?_
      exact l_end1 Tryd.results63 t134 () (rv_t rfl) (fun _ _ => NewCh.nil _ _ _ _)

set_option maxRecDepth 100000 in
set_option maxHeartbeats 8000000 in
theorem w_impl_deciding_word {w0 : World} {F : Nat → Prop} {d_0 : GDeciding} {κ : ByteArray → Prop} (hF : ∀ b, F b → b < w0.heap.size ∧ ¬ feet [] b) (h : L_impl_deciding_word d_0 κ) :
    Calls Tryd.prog 137 #[(.agg #[(.bool d_0.xAccept)])] w0 (Ret [] F w0 κ (fun (r : ByteArray) (u : Unit) => (.string r)) (fun (r : ByteArray) (u : Unit) => [])) := by
  refine enter0 (args := [(.agg #[(.bool d_0.xAccept)])]) [] hF (Given.nil _ _) Tryd.func137 rfl Tryd.ntmps137 rfl h ?_
  clear h hF
  refine c_seq ?_
  refine c_region ?_
  refine stw (o_box rfl rfl [(.bool d_0.xAccept)] rfl ?_); intro b1
  refine o_as st rfl rfl ?_
  refine c_nil ?_
  refine l_then ?_
  refine c_seq ?_
  refine c_seq ?_
  refine c_region ?_
  refine o_fad st rfl rfl fld115_0 rfl ?_
  refine o_ldc st (v := (.bool d_0.xAccept)) 0 rfl rfl rfl ty4 rfl ?_
  refine c_nil ?_
  refine l_then ?_
  refine c_cond rfl ?_ ?_
  · refine c_seq ?_
    refine c_region ?_
    refine o_as st rfl rfl ?_
    refine c_nil ?_
    refine l_then ?_
    refine c_ret ?_
    refine l_ret ?_
    exact l_end1 Tryd.results137 (ByteArray.mk #[97, 99, 99, 101, 112, 116]) () (rv_t rfl) (fun _ _ => NewCh.nil _ _ _ _)
  · refine c_skip ?_
    refine l_then ?_
    refine c_seq ?_
    refine c_region ?_
    refine o_as st rfl rfl ?_
    refine c_nil ?_
    refine l_then ?_
    refine c_ret ?_
    exact l_end1 Tryd.results137 (ByteArray.mk #[100, 114, 111, 112]) () (rv_t rfl) (fun _ _ => NewCh.nil _ _ _ _)

set_option maxRecDepth 100000 in
set_option maxHeartbeats 8000000 in
theorem w_impl_calling_word {w0 : World} {F : Nat → Prop} {a_0 : GCalling} {κ : ByteArray → Prop} (hF : ∀ b, F b → b < w0.heap.size ∧ ¬ feet [] b) (h : L_impl_calling_word a_0 κ) :
    Calls Tryd.prog 140 #[(.agg #[(.int .i64 a_0.xChain)])] w0 (Ret [] F w0 κ (fun (r : ByteArray) (u : Unit) => (.string r)) (fun (r : ByteArray) (u : Unit) => [])) := by
  refine enter0 (args := [(.agg #[(.int .i64 a_0.xChain)])]) [] hF (Given.nil _ _) Tryd.func140 rfl Tryd.ntmps140 rfl h ?_
  clear h hF
  refine c_seq ?_
  refine c_region ?_
  refine stw (o_box rfl rfl [(.int .i64 a_0.xChain)] rfl ?_); intro b1
  refine o_as st rfl rfl ?_
  refine c_nil ?_
  refine l_then ?_
  refine c_seq ?_
  refine c_region ?_
  refine o_as st rfl rfl ?_
  refine c_nil ?_
  refine l_then ?_
  refine c_ret ?_
  exact l_end1 Tryd.results140 (ByteArray.mk #[99, 97, 108, 108]) () (rv_t rfl) (fun _ _ => NewCh.nil _ _ _ _)

set_option maxRecDepth 100000 in
set_option maxHeartbeats 8000000 in
theorem w_impl_returning_word {w0 : World} {F : Nat → Prop} {a_0 : GReturning} {κ : ByteArray → Prop} (hF : ∀ b, F b → b < w0.heap.size ∧ ¬ feet [] b) (h : L_impl_returning_word a_0 κ) :
    Calls Tryd.prog 143 #[(.agg #[])] w0 (Ret [] F w0 κ (fun (r : ByteArray) (u : Unit) => (.string r)) (fun (r : ByteArray) (u : Unit) => [])) := by
  refine enter0 (args := [(.agg #[])]) [] hF (Given.nil _ _) Tryd.func143 rfl Tryd.ntmps143 rfl h ?_
  clear h hF
  refine c_seq ?_
  refine c_region ?_
  refine stw (o_box rfl rfl [] rfl ?_); intro b1
  refine o_as st rfl rfl ?_
  refine c_nil ?_
  refine l_then ?_
  refine c_seq ?_
  refine c_region ?_
  refine o_as st rfl rfl ?_
  refine c_nil ?_
  refine l_then ?_
  refine c_ret ?_
  exact l_end1 Tryd.results143 (ByteArray.mk #[114, 101, 116, 117, 114, 110]) () (rv_t rfl) (fun _ _ => NewCh.nil _ _ _ _)

set_option maxRecDepth 100000 in
set_option maxHeartbeats 8000000 in
theorem w_impl_passing_word {w0 : World} {F : Nat → Prop} {a_0 : GPassing} {κ : ByteArray → Prop} (hF : ∀ b, F b → b < w0.heap.size ∧ ¬ feet [] b) (h : L_impl_passing_word a_0 κ) :
    Calls Tryd.prog 146 #[(.agg #[])] w0 (Ret [] F w0 κ (fun (r : ByteArray) (u : Unit) => (.string r)) (fun (r : ByteArray) (u : Unit) => [])) := by
  refine enter0 (args := [(.agg #[])]) [] hF (Given.nil _ _) Tryd.func146 rfl Tryd.ntmps146 rfl h ?_
  clear h hF
  refine c_seq ?_
  refine c_region ?_
  refine stw (o_box rfl rfl [] rfl ?_); intro b1
  refine o_as st rfl rfl ?_
  refine c_nil ?_
  refine l_then ?_
  refine c_seq ?_
  refine c_region ?_
  refine o_as st rfl rfl ?_
  refine c_nil ?_
  refine l_then ?_
  refine c_ret ?_
  exact l_end1 Tryd.results146 (ByteArray.mk #[110, 111, 110, 101]) () (rv_t rfl) (fun _ _ => NewCh.nil _ _ _ _)

set_option maxRecDepth 100000 in
set_option maxHeartbeats 8000000 in
theorem w_impl_Rule_text {w0 : World} {F : Nat → Prop} {v1 : Value} {r_0 : GRule} {κ : ByteArray → Prop} (hF : ∀ b, F b → b < w0.heap.size ∧ ¬ feet [] b) (hv1 : Sl elGTest F w0 v1 r_0.xTests) (hgl0 : Sl elGFieldShape F w0 (.slice (some ⟨0, 0, none⟩) 4 4) gl_impl_fieldShapes) (hgl1 : Tb F w0) (h : L_impl_Rule_text r_0 κ) :
    Calls Tryd.prog 38 #[(.agg #[v1, (.int .i64 r_0.xAction), (.int .i64 r_0.xChain)])] w0 (Ret [] F w0 κ (fun (r : ByteArray) (u : Unit) => (.string r)) (fun (r : ByteArray) (u : Unit) => [])) := by
  refine enterS (args := [(.agg #[v1, (.int .i64 r_0.xAction), (.int .i64 r_0.xChain)])]) [] hF (Given.nil _ _) Tryd.func38 rfl Tryd.ntmps38 rfl h ?_
  clear h hF
  refine c_seq ?_
  refine c_region ?_
  obtain ⟨a3, l4, q5, hs_⟩ := sl_val hv1; subst hs_
  refine stw (o_box rfl rfl [(.slice a3 l4 q5), (.int .i64 r_0.xAction), (.int .i64 r_0.xChain)] rfl ?_); intro b6
  refine o_as st rfl rfl ?_
  refine c_nil ?_
  refine l_then ?_
  refine c_seq ?_
  refine c_region ?_
  refine o_ldc st (v := (.agg #[(.slice a3 l4 q5), (.int .i64 r_0.xAction), (.int .i64 r_0.xChain)])) 0 rfl rfl rfl ty54 rfl ?_
  refine stw (o_callP (vs := [(.agg #[(.slice a3 l4 q5), (.int .i64 r_0.xAction), (.int .i64 r_0.xChain)])]) Tryd.call62 rfl rfl (by intro w m h; exact (w_impl_actionOf (F := allB [] w) (r_0 := r_0) allB_ok (m.rd0 1 rfl (reads_snap hv1)) h).mono (fun _ _ k => ret_free (fun r u => fr_nil) k)) ?_); rintro r8 _
  rcases r8 with x9 | x10 | x11 | x12
  · dsimp only [IAction.casesW]
    refine stw (o_callXP rfl (runs_inv rfl rfl (fun w => meth115_word _ w) Tryd.call137) rfl (by intro w m h; exact (w_impl_deciding_word (F := allB [] w) (d_0 := x9) allB_ok h).mono (fun _ _ k => ret_free (fun r u => fr_nil) k)) ?_); rintro r13 _
    refine o_as st rfl rfl ?_
    refine c_nil ?_
    refine l_then ?_
    refine c_join (σ := ByteArray) (fun (t77 : ByteArray) (a : Act) (w : World) => Has 32 [(1, (.pointer (some ⟨b6, 0, none⟩))), (3, (.string t77))] a ∧ Mem (gB F [] w0) (feet []) w0 [cellCh b6 [(.slice a3 l4 q5), (.int .i64 r_0.xAction), (.int .i64 r_0.xChain)] 54, snapCh w0 F] w) ?_ ?_
    · intro k78
      refine c_seq ?_
      refine c_region ?_
      refine o_fad st rfl rfl fld54_1 rfl ?_
      refine o_ldc st (v := (.int .i64 r_0.xAction)) 0 rfl rfl rfl ty3 rfl ?_
      refine o_eql st und3 rfl rfl rfl ?_
      refine c_nil ?_
      refine l_then ?_
      refine c_cond rfl ?_ ?_
      · refine c_region ?_
        refine o_mv st rfl rfl ?_
        refine o_fad st rfl rfl fld54_2 rfl ?_
        refine o_ldc st (v := (.int .i64 r_0.xChain)) 0 rfl rfl rfl ty3 rfl ?_
        refine stw (o_callP (vs := [(.int .i64 r_0.xChain)]) Tryd.call61 rfl rfl (by intro w m h; exact w_lib_Itoa (n_0 := r_0.xChain) (hgl1.of (m.get (i := 1) rfl)) h) ?_); rintro r14 _
        refine o_cat st rfl rfl rfl ?_; intro s15
        refine o_cat st rfl rfl rfl ?_; intro s16
        refine o_as st rfl rfl ?_
        refine c_nil ?_
        exact l_join s16 (fun a w hE hm => ⟨hE.sub ⟨rfl, rfl, trivial⟩, (hm.pick [0, 1] rfl)⟩)
      · refine c_skip ?_
        exact l_join r13 (fun a w hE hm => ⟨hE.sub ⟨rfl, rfl, trivial⟩, (hm.pick [0, 1] rfl)⟩)
    · rintro t77 a w ⟨hE, hm⟩ h
      refine nx_of hE hm h ?_
      clear hE hm h
      refine c_seq ?_
      refine c_seq ?_
      refine c_region ?_
      refine o_fad st rfl rfl fld54_0 rfl ?_
      refine o_ldc st (v := (.slice a3 l4 q5)) 0 rfl rfl rfl ty52 rfl ?_
      refine o_len st el52 1 rfl (reads_snap hv1) rfl rfl ?_
      refine o_mv st rfl rfl ?_
      refine c_nil ?_
      refine l_then ?_
      refine c_block ?_
      refine c_loop (σ := (ByteArray × Int)) (fun ((t79, t80) : (ByteArray × Int)) (a : Act) (w : World) => Has 32 [(3, (.string t79)), (19, (.slice a3 l4 q5)), (20, (.int .i64 (r_0.xTests.length : Int))), (21, (.int .i64 t80))] a ∧ Mem (gB F [] w0) (feet []) w0 [snapCh w0 F] w) (fun a w hE hm => ⟨hE.sub ⟨rfl, rfl, rfl, rfl, trivial⟩, (hm.pick [1] rfl)⟩) ?_
      rintro nx81 ⟨t79, t80⟩ a w ⟨hE, hm⟩ h
      refine nx_of hE hm h ?_
      clear hE hm h
      refine c_seq ?_
      refine c_region ?_
      refine o_lss st rfl rfl rfl ?_
      refine c_nil ?_
      refine l_then ?_
      refine c_seq ?_
      refine c_cond rfl ?_ ?_
      · refine c_skip ?_
        refine l_then ?_
        refine c_seq ?_
        refine c_block ?_
        refine c_seq ?_
        refine c_region ?_
        refine o_idx st 0 rfl (reads_snap hv1) rfl rfl rfl el52 ?_; intro e82 h83
        refine o_lds st (enc := encGTest) (u := (.agg #[(.int .i64 e82.xField), (.int .i64 e82.xLo), (.int .i64 e82.xHi), (.bool e82.xNot)])) 0 rfl (reads_snap hv1) flelGTest rfl h83 rfl rfl ty84 rfl ?_
        refine stw (o_alloc rfl [(.int .i64 0), (.int .i64 0), (.int .i64 0), (.bool false)] zero84 ?_); intro b84
        refine stw (o_stc (cs' := [(.int .i64 e82.xField), (.int .i64 e82.xLo), (.int .i64 e82.xHi), (.bool e82.xNot)]) 0 rfl rfl rfl ty84 rfl rfl rfl rfl ?_)
        refine c_nil ?_
        refine l_then ?_
        refine c_region ?_
        refine o_mv st rfl rfl ?_
        refine o_ldc st (v := (.agg #[(.int .i64 e82.xField), (.int .i64 e82.xLo), (.int .i64 e82.xHi), (.bool e82.xNot)])) 0 rfl rfl rfl ty84 rfl ?_
        refine stw (o_callP (vs := [(.agg #[(.int .i64 e82.xField), (.int .i64 e82.xLo), (.int .i64 e82.xHi), (.bool e82.xNot)])]) Tryd.call63 rfl rfl (by intro w m h; exact (w_impl_Test_text (F := allB [] w) (t_0 := e82) allB_ok (m.rd0 1 rfl (reads_snap hgl0)) ((hgl1.of (m.get (i := 1) rfl)).mono fz_ok0) h).mono (fun _ _ k => ret_free (fun r u => fr_nil) k)) ?_); rintro r86 _
        refine o_cat st rfl rfl rfl ?_; intro s87
        refine o_cat st rfl rfl rfl ?_; intro s88
        refine o_as st rfl rfl ?_
        refine c_nil ?_
        refine b_norm ?_
        refine l_then ?_
        refine c_region ?_
        refine o_add st rfl rfl rfl ?_; intro t89
        refine o_mv st rfl rfl ?_
        refine c_nil ?_
        exact l_join (s88, t89) (fun a w hE hm => ⟨hE.sub ⟨rfl, rfl, rfl, rfl, trivial⟩, (hm.pick [1] rfl)⟩)
      · refine c_exit ?_
        refine l_exit ?_
        refine l_exit ?_
        refine b_exit ?_
        refine l_then ?_
        refine c_seq ?_
        refine c_region ?_
        refine o_mv st rfl rfl ?_
        refine o_as st rfl rfl ?_
        refine c_nil ?_
        refine l_then ?_
        refine c_ret ?_
        exact l_end1 Tryd.results38 t79 () (rv_t rfl) (fun _ _ => NewCh.nil _ _ _ _)
  · dsimp only [IAction.casesW]
    refine stw (o_callXP rfl (runs_inv rfl rfl (fun w => meth117_word _ w) Tryd.call140) rfl (by intro w m h; exact (w_impl_calling_word (F := allB [] w) (a_0 := x10) allB_ok h).mono (fun _ _ k => ret_free (fun r u => fr_nil) k)) ?_); rintro r90 _
    refine o_as st rfl rfl ?_
    refine c_nil ?_
    refine l_then ?_
    refine c_join (σ := ByteArray) (fun (t154 : ByteArray) (a : Act) (w : World) => Has 32 [(1, (.pointer (some ⟨b6, 0, none⟩))), (3, (.string t154))] a ∧ Mem (gB F [] w0) (feet []) w0 [cellCh b6 [(.slice a3 l4 q5), (.int .i64 r_0.xAction), (.int .i64 r_0.xChain)] 54, snapCh w0 F] w) ?_ ?_
    · intro k155
      refine c_seq ?_
      refine c_region ?_
      refine o_fad st rfl rfl fld54_1 rfl ?_
      refine o_ldc st (v := (.int .i64 r_0.xAction)) 0 rfl rfl rfl ty3 rfl ?_
      refine o_eql st und3 rfl rfl rfl ?_
      refine c_nil ?_
      refine l_then ?_
      refine c_cond rfl ?_ ?_
      · refine c_region ?_
        refine o_mv st rfl rfl ?_
        refine o_fad st rfl rfl fld54_2 rfl ?_
        refine o_ldc st (v := (.int .i64 r_0.xChain)) 0 rfl rfl rfl ty3 rfl ?_
        refine stw (o_callP (vs := [(.int .i64 r_0.xChain)]) Tryd.call61 rfl rfl (by intro w m h; exact w_lib_Itoa (n_0 := r_0.xChain) (hgl1.of (m.get (i := 1) rfl)) h) ?_); rintro r91 _
        refine o_cat st rfl rfl rfl ?_; intro s92
        refine o_cat st rfl rfl rfl ?_; intro s93
        refine o_as st rfl rfl ?_
        refine c_nil ?_
        exact l_join s93 (fun a w hE hm => ⟨hE.sub ⟨rfl, rfl, trivial⟩, (hm.pick [0, 1] rfl)⟩)
      · refine c_skip ?_
        exact l_join r90 (fun a w hE hm => ⟨hE.sub ⟨rfl, rfl, trivial⟩, (hm.pick [0, 1] rfl)⟩)
    · rintro t154 a w ⟨hE, hm⟩ h
      refine nx_of hE hm h ?_
      clear hE hm h
      refine c_seq ?_
      refine c_seq ?_
      refine c_region ?_
      refine o_fad st rfl rfl fld54_0 rfl ?_
      refine o_ldc st (v := (.slice a3 l4 q5)) 0 rfl rfl rfl ty52 rfl ?_
      refine o_len st el52 1 rfl (reads_snap hv1) rfl rfl ?_
      refine o_mv st rfl rfl ?_
      refine c_nil ?_
      refine l_then ?_
      refine c_block ?_
      refine c_loop (σ := (ByteArray × Int)) (fun ((t156, t157) : (ByteArray × Int)) (a : Act) (w : World) => Has 32 [(3, (.string t156)), (19, (.slice a3 l4 q5)), (20, (.int .i64 (r_0.xTests.length : Int))), (21, (.int .i64 t157))] a ∧ Mem (gB F [] w0) (feet []) w0 [snapCh w0 F] w) (fun a w hE hm => ⟨hE.sub ⟨rfl, rfl, rfl, rfl, trivial⟩, (hm.pick [1] rfl)⟩) ?_
      rintro nx158 ⟨t156, t157⟩ a w ⟨hE, hm⟩ h
      refine nx_of hE hm h ?_
      clear hE hm h
      refine c_seq ?_
      refine c_region ?_
      refine o_lss st rfl rfl rfl ?_
      refine c_nil ?_
      refine l_then ?_
      refine c_seq ?_
      refine c_cond rfl ?_ ?_
      · refine c_skip ?_
        refine l_then ?_
        refine c_seq ?_
        refine c_block ?_
        refine c_seq ?_
        refine c_region ?_
        refine o_idx st 0 rfl (reads_snap hv1) rfl rfl rfl el52 ?_; intro e159 h160
        refine o_lds st (enc := encGTest) (u := (.agg #[(.int .i64 e159.xField), (.int .i64 e159.xLo), (.int .i64 e159.xHi), (.bool e159.xNot)])) 0 rfl (reads_snap hv1) flelGTest rfl h160 rfl rfl ty84 rfl ?_
        refine stw (o_alloc rfl [(.int .i64 0), (.int .i64 0), (.int .i64 0), (.bool false)] zero84 ?_); intro b161
        refine stw (o_stc (cs' := [(.int .i64 e159.xField), (.int .i64 e159.xLo), (.int .i64 e159.xHi), (.bool e159.xNot)]) 0 rfl rfl rfl ty84 rfl rfl rfl rfl ?_)
        refine c_nil ?_
        refine l_then ?_
        refine c_region ?_
        refine o_mv st rfl rfl ?_
        refine o_ldc st (v := (.agg #[(.int .i64 e159.xField), (.int .i64 e159.xLo), (.int .i64 e159.xHi), (.bool e159.xNot)])) 0 rfl rfl rfl ty84 rfl ?_
        refine stw (o_callP (vs := [(.agg #[(.int .i64 e159.xField), (.int .i64 e159.xLo), (.int .i64 e159.xHi), (.bool e159.xNot)])]) Tryd.call63 rfl rfl (by intro w m h; exact (w_impl_Test_text (F := allB [] w) (t_0 := e159) allB_ok (m.rd0 1 rfl (reads_snap hgl0)) ((hgl1.of (m.get (i := 1) rfl)).mono fz_ok0) h).mono (fun _ _ k => ret_free (fun r u => fr_nil) k)) ?_); rintro r163 _
        refine o_cat st rfl rfl rfl ?_; intro s164
        refine o_cat st rfl rfl rfl ?_; intro s165
        refine o_as st rfl rfl ?_
        refine c_nil ?_
        refine b_norm ?_
        refine l_then ?_
        refine c_region ?_
        refine o_add st rfl rfl rfl ?_; intro t166
        refine o_mv st rfl rfl ?_
        refine c_nil ?_
        exact l_join (s165, t166) (fun a w hE hm => ⟨hE.sub ⟨rfl, rfl, rfl, rfl, trivial⟩, (hm.pick [1] rfl)⟩)
      · refine c_exit ?_
        refine l_exit ?_
        refine l_exit ?_
        refine b_exit ?_
        refine l_then ?_
        refine c_seq ?_
        refine c_region ?_
        refine o_mv st rfl rfl ?_
        refine o_as st rfl rfl ?_
        refine c_nil ?_
        refine l_then ?_
        refine c_ret ?_
        exact l_end1 Tryd.results38 t156 () (rv_t rfl) (fun _ _ => NewCh.nil _ _ _ _)
  · dsimp only [IAction.casesW]
    refine stw (o_callXP rfl (runs_inv rfl rfl (fun w => meth119_word _ w) Tryd.call143) rfl (by intro w m h; exact (w_impl_returning_word (F := allB [] w) (a_0 := (GReturning.mk )) allB_ok h).mono (fun _ _ k => ret_free (fun r u => fr_nil) k)) ?_); rintro r167 _
    refine o_as st rfl rfl ?_
    refine c_nil ?_
    refine l_then ?_
    refine c_join (σ := ByteArray) (fun (t231 : ByteArray) (a : Act) (w : World) => Has 32 [(1, (.pointer (some ⟨b6, 0, none⟩))), (3, (.string t231))] a ∧ Mem (gB F [] w0) (feet []) w0 [cellCh b6 [(.slice a3 l4 q5), (.int .i64 r_0.xAction), (.int .i64 r_0.xChain)] 54, snapCh w0 F] w) ?_ ?_
    · intro k232
      refine c_seq ?_
      refine c_region ?_
      refine o_fad st rfl rfl fld54_1 rfl ?_
      refine o_ldc st (v := (.int .i64 r_0.xAction)) 0 rfl rfl rfl ty3 rfl ?_
      refine o_eql st und3 rfl rfl rfl ?_
      refine c_nil ?_
      refine l_then ?_
      refine c_cond rfl ?_ ?_
      · refine c_region ?_
        refine o_mv st rfl rfl ?_
        refine o_fad st rfl rfl fld54_2 rfl ?_
        refine o_ldc st (v := (.int .i64 r_0.xChain)) 0 rfl rfl rfl ty3 rfl ?_
        refine stw (o_callP (vs := [(.int .i64 r_0.xChain)]) Tryd.call61 rfl rfl (by intro w m h; exact w_lib_Itoa (n_0 := r_0.xChain) (hgl1.of (m.get (i := 1) rfl)) h) ?_); rintro r168 _
        refine o_cat st rfl rfl rfl ?_; intro s169
        refine o_cat st rfl rfl rfl ?_; intro s170
        refine o_as st rfl rfl ?_
        refine c_nil ?_
        exact l_join s170 (fun a w hE hm => ⟨hE.sub ⟨rfl, rfl, trivial⟩, (hm.pick [0, 1] rfl)⟩)
      · refine c_skip ?_
        exact l_join r167 (fun a w hE hm => ⟨hE.sub ⟨rfl, rfl, trivial⟩, (hm.pick [0, 1] rfl)⟩)
    · rintro t231 a w ⟨hE, hm⟩ h
      refine nx_of hE hm h ?_
      clear hE hm h
      refine c_seq ?_
      refine c_seq ?_
      refine c_region ?_
      refine o_fad st rfl rfl fld54_0 rfl ?_
      refine o_ldc st (v := (.slice a3 l4 q5)) 0 rfl rfl rfl ty52 rfl ?_
      refine o_len st el52 1 rfl (reads_snap hv1) rfl rfl ?_
      refine o_mv st rfl rfl ?_
      refine c_nil ?_
      refine l_then ?_
      refine c_block ?_
      refine c_loop (σ := (ByteArray × Int)) (fun ((t233, t234) : (ByteArray × Int)) (a : Act) (w : World) => Has 32 [(3, (.string t233)), (19, (.slice a3 l4 q5)), (20, (.int .i64 (r_0.xTests.length : Int))), (21, (.int .i64 t234))] a ∧ Mem (gB F [] w0) (feet []) w0 [snapCh w0 F] w) (fun a w hE hm => ⟨hE.sub ⟨rfl, rfl, rfl, rfl, trivial⟩, (hm.pick [1] rfl)⟩) ?_
      rintro nx235 ⟨t233, t234⟩ a w ⟨hE, hm⟩ h
      refine nx_of hE hm h ?_
      clear hE hm h
      refine c_seq ?_
      refine c_region ?_
      refine o_lss st rfl rfl rfl ?_
      refine c_nil ?_
      refine l_then ?_
      refine c_seq ?_
      refine c_cond rfl ?_ ?_
      · refine c_skip ?_
        refine l_then ?_
        refine c_seq ?_
        refine c_block ?_
        refine c_seq ?_
        refine c_region ?_
        refine o_idx st 0 rfl (reads_snap hv1) rfl rfl rfl el52 ?_; intro e236 h237
        refine o_lds st (enc := encGTest) (u := (.agg #[(.int .i64 e236.xField), (.int .i64 e236.xLo), (.int .i64 e236.xHi), (.bool e236.xNot)])) 0 rfl (reads_snap hv1) flelGTest rfl h237 rfl rfl ty84 rfl ?_
        refine stw (o_alloc rfl [(.int .i64 0), (.int .i64 0), (.int .i64 0), (.bool false)] zero84 ?_); intro b238
        refine stw (o_stc (cs' := [(.int .i64 e236.xField), (.int .i64 e236.xLo), (.int .i64 e236.xHi), (.bool e236.xNot)]) 0 rfl rfl rfl ty84 rfl rfl rfl rfl ?_)
        refine c_nil ?_
        refine l_then ?_
        refine c_region ?_
        refine o_mv st rfl rfl ?_
        refine o_ldc st (v := (.agg #[(.int .i64 e236.xField), (.int .i64 e236.xLo), (.int .i64 e236.xHi), (.bool e236.xNot)])) 0 rfl rfl rfl ty84 rfl ?_
        refine stw (o_callP (vs := [(.agg #[(.int .i64 e236.xField), (.int .i64 e236.xLo), (.int .i64 e236.xHi), (.bool e236.xNot)])]) Tryd.call63 rfl rfl (by intro w m h; exact (w_impl_Test_text (F := allB [] w) (t_0 := e236) allB_ok (m.rd0 1 rfl (reads_snap hgl0)) ((hgl1.of (m.get (i := 1) rfl)).mono fz_ok0) h).mono (fun _ _ k => ret_free (fun r u => fr_nil) k)) ?_); rintro r240 _
        refine o_cat st rfl rfl rfl ?_; intro s241
        refine o_cat st rfl rfl rfl ?_; intro s242
        refine o_as st rfl rfl ?_
        refine c_nil ?_
        refine b_norm ?_
        refine l_then ?_
        refine c_region ?_
        refine o_add st rfl rfl rfl ?_; intro t243
        refine o_mv st rfl rfl ?_
        refine c_nil ?_
        exact l_join (s242, t243) (fun a w hE hm => ⟨hE.sub ⟨rfl, rfl, rfl, rfl, trivial⟩, (hm.pick [1] rfl)⟩)
      · refine c_exit ?_
        refine l_exit ?_
        refine l_exit ?_
        refine b_exit ?_
        refine l_then ?_
        refine c_seq ?_
        refine c_region ?_
        refine o_mv st rfl rfl ?_
        refine o_as st rfl rfl ?_
        refine c_nil ?_
        refine l_then ?_
        refine c_ret ?_
        exact l_end1 Tryd.results38 t233 () (rv_t rfl) (fun _ _ => NewCh.nil _ _ _ _)
  · dsimp only [IAction.casesW]
    refine stw (o_callXP rfl (runs_inv rfl rfl (fun w => meth120_word _ w) Tryd.call146) rfl (by intro w m h; exact (w_impl_passing_word (F := allB [] w) (a_0 := (GPassing.mk )) allB_ok h).mono (fun _ _ k => ret_free (fun r u => fr_nil) k)) ?_); rintro r244 _
    refine o_as st rfl rfl ?_
    refine c_nil ?_
    refine l_then ?_
    refine c_join (σ := ByteArray) (fun (t308 : ByteArray) (a : Act) (w : World) => Has 32 [(1, (.pointer (some ⟨b6, 0, none⟩))), (3, (.string t308))] a ∧ Mem (gB F [] w0) (feet []) w0 [cellCh b6 [(.slice a3 l4 q5), (.int .i64 r_0.xAction), (.int .i64 r_0.xChain)] 54, snapCh w0 F] w) ?_ ?_
    · intro k309
      refine c_seq ?_
      refine c_region ?_
      refine o_fad st rfl rfl fld54_1 rfl ?_
      refine o_ldc st (v := (.int .i64 r_0.xAction)) 0 rfl rfl rfl ty3 rfl ?_
      refine o_eql st und3 rfl rfl rfl ?_
      refine c_nil ?_
      refine l_then ?_
      refine c_cond rfl ?_ ?_
      · refine c_region ?_
        refine o_mv st rfl rfl ?_
        refine o_fad st rfl rfl fld54_2 rfl ?_
        refine o_ldc st (v := (.int .i64 r_0.xChain)) 0 rfl rfl rfl ty3 rfl ?_
        refine stw (o_callP (vs := [(.int .i64 r_0.xChain)]) Tryd.call61 rfl rfl (by intro w m h; exact w_lib_Itoa (n_0 := r_0.xChain) (hgl1.of (m.get (i := 1) rfl)) h) ?_); rintro r245 _
        refine o_cat st rfl rfl rfl ?_; intro s246
        refine o_cat st rfl rfl rfl ?_; intro s247
        refine o_as st rfl rfl ?_
        refine c_nil ?_
        exact l_join s247 (fun a w hE hm => ⟨hE.sub ⟨rfl, rfl, trivial⟩, (hm.pick [0, 1] rfl)⟩)
      · refine c_skip ?_
        exact l_join r244 (fun a w hE hm => ⟨hE.sub ⟨rfl, rfl, trivial⟩, (hm.pick [0, 1] rfl)⟩)
    · rintro t308 a w ⟨hE, hm⟩ h
      refine nx_of hE hm h ?_
      clear hE hm h
      refine c_seq ?_
      refine c_seq ?_
      refine c_region ?_
      refine o_fad st rfl rfl fld54_0 rfl ?_
      refine o_ldc st (v := (.slice a3 l4 q5)) 0 rfl rfl rfl ty52 rfl ?_
      refine o_len st el52 1 rfl (reads_snap hv1) rfl rfl ?_
      refine o_mv st rfl rfl ?_
      refine c_nil ?_
      refine l_then ?_
      refine c_block ?_
      refine c_loop (σ := (ByteArray × Int)) (fun ((t310, t311) : (ByteArray × Int)) (a : Act) (w : World) => Has 32 [(3, (.string t310)), (19, (.slice a3 l4 q5)), (20, (.int .i64 (r_0.xTests.length : Int))), (21, (.int .i64 t311))] a ∧ Mem (gB F [] w0) (feet []) w0 [snapCh w0 F] w) (fun a w hE hm => ⟨hE.sub ⟨rfl, rfl, rfl, rfl, trivial⟩, (hm.pick [1] rfl)⟩) ?_
      rintro nx312 ⟨t310, t311⟩ a w ⟨hE, hm⟩ h
      refine nx_of hE hm h ?_
      clear hE hm h
      refine c_seq ?_
      refine c_region ?_
      refine o_lss st rfl rfl rfl ?_
      refine c_nil ?_
      refine l_then ?_
      refine c_seq ?_
      refine c_cond rfl ?_ ?_
      · refine c_skip ?_
        refine l_then ?_
        refine c_seq ?_
        refine c_block ?_
        refine c_seq ?_
        refine c_region ?_
        refine o_idx st 0 rfl (reads_snap hv1) rfl rfl rfl el52 ?_; intro e313 h314
        refine o_lds st (enc := encGTest) (u := (.agg #[(.int .i64 e313.xField), (.int .i64 e313.xLo), (.int .i64 e313.xHi), (.bool e313.xNot)])) 0 rfl (reads_snap hv1) flelGTest rfl h314 rfl rfl ty84 rfl ?_
        refine stw (o_alloc rfl [(.int .i64 0), (.int .i64 0), (.int .i64 0), (.bool false)] zero84 ?_); intro b315
        refine stw (o_stc (cs' := [(.int .i64 e313.xField), (.int .i64 e313.xLo), (.int .i64 e313.xHi), (.bool e313.xNot)]) 0 rfl rfl rfl ty84 rfl rfl rfl rfl ?_)
        refine c_nil ?_
        refine l_then ?_
        refine c_region ?_
        refine o_mv st rfl rfl ?_
        refine o_ldc st (v := (.agg #[(.int .i64 e313.xField), (.int .i64 e313.xLo), (.int .i64 e313.xHi), (.bool e313.xNot)])) 0 rfl rfl rfl ty84 rfl ?_
        refine stw (o_callP (vs := [(.agg #[(.int .i64 e313.xField), (.int .i64 e313.xLo), (.int .i64 e313.xHi), (.bool e313.xNot)])]) Tryd.call63 rfl rfl (by intro w m h; exact (w_impl_Test_text (F := allB [] w) (t_0 := e313) allB_ok (m.rd0 1 rfl (reads_snap hgl0)) ((hgl1.of (m.get (i := 1) rfl)).mono fz_ok0) h).mono (fun _ _ k => ret_free (fun r u => fr_nil) k)) ?_); rintro r317 _
        refine o_cat st rfl rfl rfl ?_; intro s318
        refine o_cat st rfl rfl rfl ?_; intro s319
        refine o_as st rfl rfl ?_
        refine c_nil ?_
        refine b_norm ?_
        refine l_then ?_
        refine c_region ?_
        refine o_add st rfl rfl rfl ?_; intro t320
        refine o_mv st rfl rfl ?_
        refine c_nil ?_
        exact l_join (s319, t320) (fun a w hE hm => ⟨hE.sub ⟨rfl, rfl, rfl, rfl, trivial⟩, (hm.pick [1] rfl)⟩)
      · refine c_exit ?_
        refine l_exit ?_
        refine l_exit ?_
        refine b_exit ?_
        refine l_then ?_
        refine c_seq ?_
        refine c_region ?_
        refine o_mv st rfl rfl ?_
        refine o_as st rfl rfl ?_
        refine c_nil ?_
        refine l_then ?_
        refine c_ret ?_
        exact l_end1 Tryd.results38 t310 () (rv_t rfl) (fun _ _ => NewCh.nil _ _ _ _)

set_option maxRecDepth 100000 in
set_option maxHeartbeats 8000000 in
theorem w_laws_eqStringS {w0 : World} {F : Nat → Prop} {v1 : Value} {v3 : Value} {a_0 : (List ByteArray)} {b_1 : (List ByteArray)} {κ : Bool → Prop} (hF : ∀ b, F b → b < w0.heap.size ∧ ¬ feet [] b) (hv1 : Sl elStr F w0 v1 a_0) (hv3 : Sl elStr F w0 v3 b_1) (h : L_laws_eqStringS a_0 b_1 κ) :
    Calls Tryd.prog 13 #[v1, v3] w0 (Ret [] F w0 κ (fun (r : Bool) (u : Unit) => (.bool r)) (fun (r : Bool) (u : Unit) => [])) := by
  refine enterS (args := [v1, v3]) [] hF (Given.nil _ _) Tryd.func13 rfl Tryd.ntmps13 rfl h ?_
  clear h hF
  refine c_seq ?_
  refine c_region ?_
  refine o_as st rfl rfl ?_
  refine c_nil ?_
  refine l_then ?_
  refine c_seq ?_
  refine c_seq ?_
  refine c_region ?_
  refine o_mv st rfl rfl ?_
  refine o_len st el26 0 rfl (reads_snap hv1) rfl rfl ?_
  refine o_mv st rfl rfl ?_
  refine o_len st el26 0 rfl (reads_snap hv3) rfl rfl ?_
  refine o_neq st und3 rfl rfl rfl ?_
  refine c_nil ?_
  refine l_then ?_
  refine c_cond rfl ?_ ?_
  · refine c_seq ?_
    refine c_region ?_
    refine o_as st rfl rfl ?_
    refine c_nil ?_
    refine l_then ?_
    refine c_ret ?_
    refine l_ret ?_
    exact l_end1 Tryd.results13 false () (rv_t rfl) (fun _ _ => NewCh.nil _ _ _ _)
  · refine c_skip ?_
    refine l_then ?_
    refine c_seq ?_
    refine c_seq ?_
    refine c_region ?_
    refine o_as st rfl rfl ?_
    refine c_nil ?_
    refine l_then ?_
    refine c_block ?_
    refine c_loop (σ := Int) (fun (t5 : Int) (a : Act) (w : World) => Has 26 [(0, v1), (1, v3), (5, (.int .i64 t5))] a ∧ Mem (gB F [] w0) (feet []) w0 [snapCh w0 F] w) (fun a w hE hm => ⟨hE.sub ⟨rfl, rfl, rfl, trivial⟩, (hm.pick [0] rfl)⟩) ?_
    rintro nx6 t5 a w ⟨hE, hm⟩ h
    refine nx_of hE hm h ?_
    clear hE hm h
    refine c_seq ?_
    refine c_seq ?_
    refine c_region ?_
    refine o_mv st rfl rfl ?_
    refine o_mv st rfl rfl ?_
    refine o_len st el26 0 rfl (reads_snap hv1) rfl rfl ?_
    refine o_lss st rfl rfl rfl ?_
    refine c_nil ?_
    refine l_then ?_
    refine c_cond rfl ?_ ?_
    · refine c_skip ?_
      refine l_then ?_
      refine c_seq ?_
      refine c_block ?_
      refine c_seq ?_
      refine c_draw mixed 9 rfl [snapCh w0 F] ?_
      refine o_mv (dt 0 (fun _ m => m)) rfl rfl ?_
      refine o_mv (dt 1 (fun _ m => m)) rfl rfl ?_
      refine o_idx (dt 2 (fun _ m => m)) 0 rfl (reads_snap hv1) rfl rfl rfl el26 ?_; intro e7 h8
      refine o_lds (dt 3 (fun _ m => m)) (enc := encStr) (u := (.string e7)) 0 rfl (reads_snap hv1) flelStr rfl h8 rfl rfl ty9 rfl ?_
      refine o_mv (dt 4 (fun _ m => m)) rfl rfl ?_
      refine o_mv (dt 5 (fun _ m => m)) rfl rfl ?_
      refine o_idx (dt 6 (fun _ m => m)) 0 rfl (reads_snap hv3) rfl rfl rfl el26 ?_; intro e9 h10
      refine o_lds (dt 7 (fun _ m => m)) (enc := encStr) (u := (.string e9)) 0 rfl (reads_snap hv3) flelStr rfl h10 rfl rfl ty9 rfl ?_
      refine o_neqS (dt 8 (fun _ m => m)) und9 rfl rfl rfl ?_
      refine d_done (by kernel_rfl) ?_
      refine l_then ?_
      refine c_cond rfl ?_ ?_
      · refine c_seq ?_
        refine c_region ?_
        refine o_as st rfl rfl ?_
        refine c_nil ?_
        refine l_then ?_
        refine c_ret ?_
        refine b_ret ?_
        refine l_ret ?_
        refine l_ret ?_
        refine b_ret ?_
        refine l_ret ?_
        exact l_end1 Tryd.results13 false () (rv_t rfl) (fun _ _ => NewCh.nil _ _ _ _)
      · refine c_skip ?_
        refine b_norm ?_
        refine l_then ?_
        refine c_region ?_
        refine o_mv st rfl rfl ?_
        refine o_add st rfl rfl rfl ?_; intro t11
        refine o_as st rfl rfl ?_
        refine c_nil ?_
        exact l_join t11 (fun a w hE hm => ⟨hE.sub ⟨rfl, rfl, rfl, trivial⟩, (hm.pick [0] rfl)⟩)
    · refine c_exit ?_
      refine l_exit ?_
      refine l_exit ?_
      refine b_exit ?_
      refine l_then ?_
      refine c_seq ?_
      refine c_region ?_
      refine o_as st rfl rfl ?_
      refine c_nil ?_
      refine l_then ?_
      refine c_ret ?_
      exact l_end1 Tryd.results13 true () (rv_t rfl) (fun _ _ => NewCh.nil _ _ _ _)

set_option maxRecDepth 100000 in
set_option maxHeartbeats 8000000 in
theorem w_laws_szStringS {w0 : World} {F : Nat → Prop} {v1 : Value} {a_0 : (List ByteArray)} {left_1 : Int} {κ : Int → Prop} (hF : ∀ b, F b → b < w0.heap.size ∧ ¬ feet [] b) (hv1 : Sl elStr F w0 v1 a_0) (h : L_laws_szStringS a_0 left_1 κ) :
    Calls Tryd.prog 18 #[v1, (.int .i64 left_1)] w0 (Ret [] F w0 κ (fun (r : Int) (u : Unit) => (.int .i64 r)) (fun (r : Int) (u : Unit) => [])) := by
  refine enterS (args := [v1, (.int .i64 left_1)]) [] hF (Given.nil _ _) Tryd.func18 rfl Tryd.ntmps18 rfl h ?_
  clear h hF
  refine c_seq ?_
  refine c_region ?_
  refine o_as st rfl rfl ?_
  refine c_nil ?_
  refine l_then ?_
  refine c_seq ?_
  refine c_region ?_
  refine o_mv st rfl rfl ?_
  refine o_mv st rfl rfl ?_
  refine o_len st el26 0 rfl (reads_snap hv1) rfl rfl ?_
  refine o_sub st rfl rfl rfl ?_; intro t3
  refine o_as st rfl rfl ?_
  refine c_nil ?_
  refine l_then ?_
  refine c_seq ?_
  refine c_seq ?_
  refine c_region ?_
  refine o_mv st rfl rfl ?_
  refine o_lss st rfl rfl rfl ?_
  refine c_nil ?_
  refine l_then ?_
  refine c_cond rfl ?_ ?_
  · refine c_seq ?_
    refine c_region ?_
    refine o_as st rfl rfl ?_
    refine c_nil ?_
    refine l_then ?_
    refine c_ret ?_
    refine l_ret ?_
    exact l_end1 Tryd.results18 (-1) () (rv_t rfl) (fun _ _ => NewCh.nil _ _ _ _)
  · refine c_skip ?_
    refine l_then ?_
    refine c_seq ?_
    refine c_seq ?_
    refine c_region ?_
    refine o_as st rfl rfl ?_
    refine c_nil ?_
    refine l_then ?_
    refine c_block ?_
    refine c_loop (σ := (Int × Int)) (fun ((t4, t5) : (Int × Int)) (a : Act) (w : World) => Has 28 [(0, v1), (1, (.int .i64 t4)), (5, (.int .i64 t5))] a ∧ Mem (gB F [] w0) (feet []) w0 [snapCh w0 F] w) (fun a w hE hm => ⟨hE.sub ⟨rfl, rfl, rfl, trivial⟩, (hm.pick [0] rfl)⟩) ?_
    rintro nx6 ⟨t4, t5⟩ a w ⟨hE, hm⟩ h
    refine nx_of hE hm h ?_
    clear hE hm h
    refine c_seq ?_
    refine c_seq ?_
    refine c_region ?_
    refine o_mv st rfl rfl ?_
    refine o_mv st rfl rfl ?_
    refine o_len st el26 0 rfl (reads_snap hv1) rfl rfl ?_
    refine o_lss st rfl rfl rfl ?_
    refine c_nil ?_
    refine l_then ?_
    refine c_cond rfl ?_ ?_
    · refine c_skip ?_
      refine l_then ?_
      refine c_seq ?_
      refine c_block ?_
      refine c_seq ?_
      refine c_region ?_
      refine o_mv st rfl rfl ?_
      refine o_mv st rfl rfl ?_
      refine o_mv st rfl rfl ?_
      refine o_idx st 0 rfl (reads_snap hv1) rfl rfl rfl el26 ?_; intro e7 h8
      refine o_lds st (enc := encStr) (u := (.string e7)) 0 rfl (reads_snap hv1) flelStr rfl h8 rfl rfl ty9 rfl ?_
      refine o_lenS st und9 rfl rfl ?_
      refine o_sub st rfl rfl rfl ?_; intro t9
      refine o_as st rfl rfl ?_
      refine c_nil ?_
      refine l_then ?_
      refine c_seq ?_
      refine c_region ?_
      refine o_mv st rfl rfl ?_
      refine o_lss st rfl rfl rfl ?_
      refine c_nil ?_
      refine l_then ?_
      refine c_cond rfl ?_ ?_
      · refine c_seq ?_
        refine c_region ?_
        refine o_as st rfl rfl ?_
        refine c_nil ?_
        refine l_then ?_
        refine c_ret ?_
        refine b_ret ?_
        refine l_ret ?_
        refine l_ret ?_
        refine b_ret ?_
        refine l_ret ?_
        exact l_end1 Tryd.results18 (-1) () (rv_t rfl) (fun _ _ => NewCh.nil _ _ _ _)
      · refine c_skip ?_
        refine b_norm ?_
        refine l_then ?_
        refine c_region ?_
        refine o_mv st rfl rfl ?_
        refine o_add st rfl rfl rfl ?_; intro t10
        refine o_as st rfl rfl ?_
        refine c_nil ?_
        exact l_join (t9, t10) (fun a w hE hm => ⟨hE.sub ⟨rfl, rfl, rfl, trivial⟩, (hm.pick [0] rfl)⟩)
    · refine c_exit ?_
      refine l_exit ?_
      refine l_exit ?_
      refine b_exit ?_
      refine l_then ?_
      refine c_seq ?_
      refine c_region ?_
      refine o_mv st rfl rfl ?_
      refine o_as st rfl rfl ?_
      refine c_nil ?_
      refine l_then ?_
      refine c_ret ?_
      exact l_end1 Tryd.results18 t4 () (rv_t rfl) (fun _ _ => NewCh.nil _ _ _ _)

set_option maxRecDepth 100000 in
set_option maxHeartbeats 8000000 in
theorem w_spec_l3Cut {w0 : World} {F : Nat → Prop} {s_0 : ByteArray} {c_1 : UInt8} {κ : (ByteArray × ByteArray) → Prop} (hF : ∀ b, F b → b < w0.heap.size ∧ ¬ feet [] b) (h : L_spec_l3Cut s_0 c_1 κ) :
    Calls Tryd.prog 71 #[(.string s_0), (.int .u8 (c_1.toNat : Int))] w0 (Ret [] F w0 κ (fun (r : (ByteArray × ByteArray)) (u : Unit) => .tuple #[(.string r.1), (.string r.2)]) (fun (r : (ByteArray × ByteArray)) (u : Unit) => [])) := by
  refine enter0 (args := [(.string s_0), (.int .u8 (c_1.toNat : Int))]) [] hF (Given.nil _ _) Tryd.func71 rfl Tryd.ntmps71 rfl h ?_
  clear h hF
  refine c_seq ?_
  refine c_region ?_
  refine o_as st rfl rfl ?_
  refine o_as st rfl rfl ?_
  refine c_nil ?_
  refine l_then ?_
  refine c_seq ?_
  refine c_seq ?_
  refine c_region ?_
  refine o_as st rfl rfl ?_
  refine c_nil ?_
  refine l_then ?_
  refine c_block ?_
  refine c_loop (σ := Int) (fun (t1 : Int) (a : Act) (w : World) => Has 26 [(0, (.string s_0)), (1, (.int .u8 (c_1.toNat : Int))), (6, (.int .i64 t1))] a ∧ Mem (gB F [] w0) (feet []) w0 [] w) (fun a w hE hm => ⟨hE.sub ⟨rfl, rfl, rfl, trivial⟩, (hm.pick [] rfl)⟩) ?_
  rintro nx2 t1 a w ⟨hE, hm⟩ h
  refine nx_of hE hm h ?_
  clear hE hm h
  refine c_seq ?_
  refine c_seq ?_
  refine c_region ?_
  refine o_mv st rfl rfl ?_
  refine o_mv st rfl rfl ?_
  refine o_lenS st und9 rfl rfl ?_
  refine o_lss st rfl rfl rfl ?_
  refine c_nil ?_
  refine l_then ?_
  refine c_cond rfl ?_ ?_
  · refine c_skip ?_
    refine l_then ?_
    refine c_seq ?_
    refine c_block ?_
    refine c_seq ?_
    refine c_region ?_
    refine o_mv st rfl rfl ?_
    refine o_mv st rfl rfl ?_
    refine o_ixs st und9 rfl rfl rfl ?_; intro e3
    refine o_mv st rfl rfl ?_
    refine o_eql st und5 rfl rfl rfl ?_
    refine c_nil ?_
    refine l_then ?_
    refine c_cond rfl ?_ ?_
    · refine c_seq ?_
      refine c_draw mixed 9 rfl [] ?_
      refine o_mv (dt 0 (fun _ m => m)) rfl rfl ?_
      refine o_mv (dt 1 (fun _ m => m)) rfl rfl ?_
      refine o_sls (dt 2 (fun _ m => m)) und9 rfl rfl rfl rfl ?_; intro s4
      refine o_mv (dt 3 (fun _ m => m)) rfl rfl ?_
      refine o_mv (dt 4 (fun _ m => m)) rfl rfl ?_
      refine o_add (dt 5 (fun _ m => m)) rfl rfl rfl ?_; intro t5
      refine o_sls (dt 6 (fun _ m => m)) und9 rfl rfl rfl rfl ?_; intro s6
      refine o_as (dt 7 (fun _ m => m)) rfl rfl ?_
      refine o_as (dt 8 (fun _ m => m)) rfl rfl ?_
      refine d_done (by kernel_rfl) ?_
      refine l_then ?_
      refine c_ret ?_
      refine b_ret ?_
      refine l_ret ?_
      refine l_ret ?_
      refine b_ret ?_
      refine l_ret ?_
      exact l_end2 Tryd.results71 (s4, s6) () (rv_t rfl) (rv_t rfl) rfl (fun _ _ => NewCh.nil _ _ _ _)
    · refine c_skip ?_
      refine b_norm ?_
      refine l_then ?_
      refine c_region ?_
      refine o_mv st rfl rfl ?_
      refine o_add st rfl rfl rfl ?_; intro t7
      refine o_as st rfl rfl ?_
      refine c_nil ?_
      exact l_join t7 (fun a w hE hm => ⟨hE.sub ⟨rfl, rfl, rfl, trivial⟩, (hm.pick [] rfl)⟩)
  · refine c_exit ?_
    refine l_exit ?_
    refine l_exit ?_
    refine b_exit ?_
    refine l_then ?_
    refine c_seq ?_
    refine c_region ?_
    refine o_mv st rfl rfl ?_
    refine o_as st rfl rfl ?_
    refine o_as st rfl rfl ?_
    refine c_nil ?_
    refine l_then ?_
    refine c_ret ?_
    exact l_end2 Tryd.results71 (s_0, (ByteArray.mk #[])) () (rv_t rfl) (rv_t rfl) rfl (fun _ _ => NewCh.nil _ _ _ _)

set_option maxRecDepth 100000 in
set_option maxHeartbeats 8000000 in
theorem w_spec_l3Value {w0 : World} {F : Nat → Prop} {s_0 : ByteArray} {κ : Int → Prop} (hF : ∀ b, F b → b < w0.heap.size ∧ ¬ feet [] b) (h : L_spec_l3Value s_0 κ) :
    Calls Tryd.prog 86 #[(.string s_0)] w0 (Ret [] F w0 κ (fun (r : Int) (u : Unit) => (.int .i64 r)) (fun (r : Int) (u : Unit) => [])) := by
  refine enter0 (args := [(.string s_0)]) [] hF (Given.nil _ _) Tryd.func86 rfl Tryd.ntmps86 rfl h ?_
  clear h hF
  refine c_seq ?_
  refine c_region ?_
  refine o_as st rfl rfl ?_
  refine c_nil ?_
  refine l_then ?_
  refine c_seq ?_
  refine c_region ?_
  refine o_as st rfl rfl ?_
  refine c_nil ?_
  refine l_then ?_
  refine c_seq ?_
  refine c_seq ?_
  refine c_region ?_
  refine o_as st rfl rfl ?_
  refine c_nil ?_
  refine l_then ?_
  refine c_block ?_
  refine c_loop (σ := (Int × Int)) (fun ((t1, t2) : (Int × Int)) (a : Act) (w : World) => Has 43 [(0, (.string s_0)), (3, (.int .i64 t1)), (4, (.int .i64 t2))] a ∧ Mem (gB F [] w0) (feet []) w0 [] w) (fun a w hE hm => ⟨hE.sub ⟨rfl, rfl, rfl, trivial⟩, (hm.pick [] rfl)⟩) ?_
  rintro nx3 ⟨t1, t2⟩ a w ⟨hE, hm⟩ h
  refine nx_of hE hm h ?_
  clear hE hm h
  refine c_seq ?_
  refine c_join (σ := Bool) (fun (t64 : Bool) (a : Act) (w : World) => Has 43 [(0, (.string s_0)), (3, (.int .i64 t1)), (4, (.int .i64 t2)), (12, (.bool t64))] a ∧ Mem (gB F [] w0) (feet []) w0 [] w) ?_ ?_
  · intro k65
    refine c_region ?_
    refine o_mv st rfl rfl ?_
    refine o_mv st rfl rfl ?_
    refine o_lenS st und9 rfl rfl ?_
    refine o_lss st rfl rfl rfl ?_
    refine o_mv st rfl rfl ?_
    refine st_sp (dj := 9) rfl ?_ ?_
    · refine o_mv (st_g rfl rfl) rfl rfl ?_
      refine o_lss (st_g rfl rfl) rfl rfl rfl ?_
      refine o_pickT st rfl rfl rfl ?_
      refine c_nil ?_
      exact l_join (decide (t2 < 6)) (fun a w hE hm => ⟨hE.sub ⟨rfl, rfl, rfl, rfl, trivial⟩, (hm.pick [] rfl)⟩)
    · refine st_s rfl rfl rfl rfl ?_
      refine st_s rfl rfl rfl rfl ?_
      refine o_pickF st rfl rfl rfl ?_
      refine c_nil ?_
      exact l_join false (fun a w hE hm => ⟨hE.sub ⟨rfl, rfl, rfl, rfl, trivial⟩, (hm.pick [] rfl)⟩)
  · rintro t64 a w ⟨hE, hm⟩ h
    refine nx_of hE hm h ?_
    clear hE hm h
    refine c_cond rfl ?_ ?_
    · refine c_skip ?_
      refine l_then ?_
      refine c_seq ?_
      refine c_block ?_
      refine c_seq ?_
      refine c_join (σ := Bool) (fun (t128 : Bool) (a : Act) (w : World) => Has 43 [(0, (.string s_0)), (3, (.int .i64 t1)), (4, (.int .i64 t2)), (24, (.bool t128))] a ∧ Mem (gB F [] w0) (feet []) w0 [] w) ?_ ?_
      · intro k129
        refine c_region ?_
        refine o_mv st rfl rfl ?_
        refine o_mv st rfl rfl ?_
        refine o_ixs st und9 rfl rfl rfl ?_; intro e66
        refine o_lss st rfl rfl rfl ?_
        refine o_mv st rfl rfl ?_
        refine st_sp (dj := 19) rfl ?_ ?_
        · refine st_s rfl rfl rfl rfl ?_
          refine st_s rfl rfl rfl rfl ?_
          refine st_s rfl rfl rfl rfl ?_
          refine st_s rfl rfl rfl rfl ?_
          refine o_pickT st rfl rfl rfl ?_
          refine c_nil ?_
          exact l_join true (fun a w hE hm => ⟨hE.sub ⟨rfl, rfl, rfl, rfl, trivial⟩, (hm.pick [] rfl)⟩)
        · refine o_mv (st_g rfl rfl) rfl rfl ?_
          refine o_mv (st_g rfl rfl) rfl rfl ?_
          refine o_ixs (st_g rfl rfl) und9 rfl rfl rfl ?_; intro e67
          refine o_gtr (st_g rfl rfl) rfl rfl rfl ?_
          refine o_pickF st rfl rfl rfl ?_
          refine c_nil ?_
          exact l_join (decide (57 < (e67.toNat : Int))) (fun a w hE hm => ⟨hE.sub ⟨rfl, rfl, rfl, rfl, trivial⟩, (hm.pick [] rfl)⟩)
      · rintro t128 a w ⟨hE, hm⟩ h
        refine nx_of hE hm h ?_
        clear hE hm h
        refine c_cond rfl ?_ ?_
        · refine c_seq ?_
          refine c_region ?_
          refine o_as st rfl rfl ?_
          refine c_nil ?_
          refine l_then ?_
          refine c_ret ?_
          refine l_ret ?_
          refine b_ret ?_
          refine l_ret ?_
          refine l_ret ?_
          refine b_ret ?_
          refine l_ret ?_
          exact l_end1 Tryd.results86 (-1) () (rv_t rfl) (fun _ _ => NewCh.nil _ _ _ _)
        · refine c_skip ?_
          refine l_then ?_
          refine c_region ?_
          refine o_mv st rfl rfl ?_
          refine o_mul st rfl rfl rfl ?_; intro t130
          refine o_mv st rfl rfl ?_
          refine o_mv st rfl rfl ?_
          refine o_ixs st und9 rfl rfl rfl ?_; intro e131
          refine o_sub8 st rfl rfl rfl ?_; intro t132
          refine o_cnvi st und5 und3 rfl rfl ?_
          refine o_add st rfl rfl rfl ?_; intro t133
          refine o_as st rfl rfl ?_
          refine c_nil ?_
          refine b_norm ?_
          refine l_then ?_
          refine c_region ?_
          refine o_mv st rfl rfl ?_
          refine o_add st rfl rfl rfl ?_; intro t134
          refine o_as st rfl rfl ?_
          refine c_nil ?_
          exact l_join (t133, t134) (fun a w hE hm => ⟨hE.sub ⟨rfl, rfl, rfl, trivial⟩, (hm.pick [] rfl)⟩)
    · refine c_exit ?_
      refine l_exit ?_
      refine l_exit ?_
      refine b_exit ?_
      refine l_then ?_
      refine c_seq ?_
      refine c_join (σ := Bool) (fun (t196 : Bool) (a : Act) (w : World) => Has 43 [(3, (.int .i64 t1)), (41, (.bool t196))] a ∧ Mem (gB F [] w0) (feet []) w0 [] w) ?_ ?_
      · intro k197
        refine c_region ?_
        refine o_mv st rfl rfl ?_
        refine o_lenS st und9 rfl rfl ?_
        refine o_gtr st rfl rfl rfl ?_
        refine o_mv st rfl rfl ?_
        refine st_sp (dj := 36) rfl ?_ ?_
        · refine st_s rfl rfl rfl rfl ?_
          refine st_s rfl rfl rfl rfl ?_
          refine st_s rfl rfl rfl rfl ?_
          refine st_s rfl rfl rfl rfl ?_
          refine o_pickT st rfl rfl rfl ?_
          refine c_nil ?_
          exact l_join true (fun a w hE hm => ⟨hE.sub ⟨rfl, rfl, trivial⟩, (hm.pick [] rfl)⟩)
        · refine o_mv (st_g rfl rfl) rfl rfl ?_
          refine st_gw rfl rfl (o_callP (vs := [(.int .i64 t1)]) Tryd.call34 rfl rfl (by intro w m h; exact (w_spec_l3Number (F := allB [] w) (n_0 := t1) allB_ok h).mono (fun _ _ k => ret_free (fun r u => fr_nil) k)) ?_); rintro r135 _
          refine o_mv (st_g rfl rfl) rfl rfl ?_
          refine o_neqS (st_g rfl rfl) und9 rfl rfl rfl ?_
          refine o_pickF st rfl rfl rfl ?_
          refine c_nil ?_
          exact l_join (!(decide (r135 = s_0))) (fun a w hE hm => ⟨hE.sub ⟨rfl, rfl, trivial⟩, (hm.pick [] rfl)⟩)
      · rintro t196 a w ⟨hE, hm⟩ h
        refine nx_of hE hm h ?_
        clear hE hm h
        refine c_cond rfl ?_ ?_
        · refine c_seq ?_
          refine c_region ?_
          refine o_as st rfl rfl ?_
          refine c_nil ?_
          refine l_then ?_
          refine c_ret ?_
          refine l_ret ?_
          exact l_end1 Tryd.results86 (-1) () (rv_t rfl) (fun _ _ => NewCh.nil _ _ _ _)
        · refine c_skip ?_
          refine l_then ?_
          refine c_seq ?_
          refine c_region ?_
          refine o_mv st rfl rfl ?_
          refine o_as st rfl rfl ?_
          refine c_nil ?_
          refine l_then ?_
          refine c_ret ?_
          exact l_end1 Tryd.results86 t1 () (rv_t rfl) (fun _ _ => NewCh.nil _ _ _ _)

set_option maxRecDepth 100000 in
set_option maxHeartbeats 8000000 in
theorem w_spec_ReadTest {w0 : World} {F : Nat → Prop} {s_0 : ByteArray} {κ : (GTest × Bool) → Prop} (hF : ∀ b, F b → b < w0.heap.size ∧ ¬ feet [] b) (h : L_spec_ReadTest s_0 κ) :
    Calls Tryd.prog 72 #[(.string s_0)] w0 (Ret [] F w0 κ (fun (r : (GTest × Bool)) (u : Unit) => .tuple #[(.agg #[(.int .i64 r.1.xField), (.int .i64 r.1.xLo), (.int .i64 r.1.xHi), (.bool r.1.xNot)]), (.bool r.2)]) (fun (r : (GTest × Bool)) (u : Unit) => [])) := by
  refine enter0 (args := [(.string s_0)]) [] hF (Given.nil _ _) Tryd.func72 rfl Tryd.ntmps72 rfl h ?_
  clear h hF
  refine c_seq ?_
  refine c_region ?_
  refine stw (o_alloc rfl [(.int .i64 0), (.int .i64 0), (.int .i64 0), (.bool false)] zero84 ?_); intro b1
  refine o_as st rfl rfl ?_
  refine c_nil ?_
  refine l_then ?_
  refine c_seq ?_
  refine c_region ?_
  refine o_bld st (qs := [(0, (.int .i64 (-1)))]) (cells := [(.int .i64 (-1)), (.int .i64 0), (.int .i64 0), (.bool false)]) (by intro ρ h; simp only [List.map_toArray, List.map_cons, List.map_nil, h (.const (.int .i64 (-1))) _ rfl]) rfl bld84 rfl ?_
  refine stw (o_alloc rfl [(.int .i64 0), (.int .i64 0), (.int .i64 0), (.bool false)] zero84 ?_); intro b3
  refine stw (o_stc (cs' := [(.int .i64 (-1)), (.int .i64 0), (.int .i64 0), (.bool false)]) 0 rfl rfl rfl ty84 rfl rfl rfl rfl ?_)
  refine c_nil ?_
  refine l_then ?_
  refine c_seq ?_
  refine c_region ?_
  refine o_mv st rfl rfl ?_
  refine o_as st rfl rfl ?_
  refine c_nil ?_
  refine l_then ?_
  refine c_join (σ := (Bool × ByteArray)) (fun ((t129, t130) : (Bool × ByteArray)) (a : Act) (w : World) => Has 69 [(0, (.string s_0)), (2, (.pointer (some ⟨b1, 0, none⟩))), (4, (.pointer (some ⟨b3, 0, none⟩))), (5, (.string t130))] a ∧ Mem (gB F [] w0) (feet []) w0 [cellCh b3 [(.int .i64 (-1)), (.int .i64 0), (.int .i64 0), (.bool t129)] 84, cellCh b1 [(.int .i64 0), (.int .i64 0), (.int .i64 0), (.bool false)] 84] w) ?_ ?_
  · intro k131
    refine c_join (σ := Bool) (fun (t66 : Bool) (a : Act) (w : World) => Has 69 [(0, (.string s_0)), (2, (.pointer (some ⟨b1, 0, none⟩))), (4, (.pointer (some ⟨b3, 0, none⟩))), (5, (.string s_0)), (21, (.bool t66))] a ∧ Mem (gB F [] w0) (feet []) w0 [cellCh b3 [(.int .i64 (-1)), (.int .i64 0), (.int .i64 0), (.bool false)] 84, cellCh b1 [(.int .i64 0), (.int .i64 0), (.int .i64 0), (.bool false)] 84] w) ?_ ?_
    · intro k67
      refine c_region ?_
      refine o_mv st rfl rfl ?_
      refine o_lenS st und9 rfl rfl ?_
      refine o_gtr st rfl rfl rfl ?_
      refine o_mv st rfl rfl ?_
      refine st_sp (dj := 17) rfl ?_ ?_
      · refine o_mv (st_g rfl rfl) rfl rfl ?_
        refine o_sls (st_g rfl rfl) und9 rfl rfl rfl rfl ?_; intro s5
        refine o_eqlS (st_g rfl rfl) und9 rfl rfl rfl ?_
        refine o_pickT st rfl rfl rfl ?_
        refine c_nil ?_
        exact l_join (decide (s5 = (ByteArray.mk #[110, 111, 116, 32]))) (fun a w hE hm => ⟨hE.sub ⟨rfl, rfl, rfl, rfl, rfl, trivial⟩, (hm.pick [0, 1] rfl)⟩)
      · refine st_s rfl rfl rfl rfl ?_
        refine st_s rfl rfl rfl rfl ?_
        refine st_s rfl rfl rfl rfl ?_
        refine o_pickF st rfl rfl rfl ?_
        refine c_nil ?_
        exact l_join false (fun a w hE hm => ⟨hE.sub ⟨rfl, rfl, rfl, rfl, rfl, trivial⟩, (hm.pick [0, 1] rfl)⟩)
    · rintro t66 a w ⟨hE, hm⟩ h
      refine nx_of hE hm h ?_
      clear hE hm h
      refine c_cond rfl ?_ ?_
      · refine c_seq ?_
        refine c_region ?_
        refine o_fad st rfl rfl fld84_3 rfl ?_
        refine stw (o_stc (cs' := [(.int .i64 (-1)), (.int .i64 0), (.int .i64 0), (.bool true)]) 0 rfl rfl rfl ty4 rfl rfl rfl rfl ?_)
        refine c_nil ?_
        refine l_then ?_
        refine c_region ?_
        refine o_mv st rfl rfl ?_
        refine o_sls st und9 rfl rfl rfl rfl ?_; intro s68
        refine o_as st rfl rfl ?_
        refine c_nil ?_
        exact l_join (true, s68) (fun a w hE hm => ⟨hE.sub ⟨rfl, rfl, rfl, rfl, trivial⟩, (hm.pick [0, 1] rfl)⟩)
      · refine c_skip ?_
        exact l_join (false, s_0) (fun a w hE hm => ⟨hE.sub ⟨rfl, rfl, rfl, rfl, trivial⟩, (hm.pick [0, 1] rfl)⟩)
  · rintro ⟨t129, t130⟩ a w ⟨hE, hm⟩ h
    refine nx_of hE hm h ?_
    clear hE hm h
    refine c_seq ?_
    refine c_region ?_
    refine o_mv st rfl rfl ?_
    refine stw (o_callP (vs := [(.string t130), (.int .u8 32)]) Tryd.call71 rfl rfl (by intro w m h; exact (w_spec_l3Cut (F := allB [] w) (s_0 := t130) (c_1 := (32 : UInt8)) allB_ok h).mono (fun _ _ k => ret_free (fun r u => fr_nil) k)) ?_); rintro ⟨r132, r133⟩ _
    refine o_mv st rfl rfl ?_
    refine o_ext st (vs := [(.string r132), (.string r133)]) rfl rfl rfl ?_
    refine o_ext st (vs := [(.string r132), (.string r133)]) rfl rfl rfl ?_
    refine o_as st rfl rfl ?_
    refine o_as st rfl rfl ?_
    refine c_nil ?_
    refine l_then ?_
    refine c_seq ?_
    refine c_region ?_
    refine o_mv st rfl rfl ?_
    refine stw (o_callP (vs := [(.string r133), (.int .u8 45)]) Tryd.call71 rfl rfl (by intro w m h; exact (w_spec_l3Cut (F := allB [] w) (s_0 := r133) (c_1 := (45 : UInt8)) allB_ok h).mono (fun _ _ k => ret_free (fun r u => fr_nil) k)) ?_); rintro ⟨r134, r135⟩ _
    refine o_mv st rfl rfl ?_
    refine o_ext st (vs := [(.string r134), (.string r135)]) rfl rfl rfl ?_
    refine o_ext st (vs := [(.string r134), (.string r135)]) rfl rfl rfl ?_
    refine o_as st rfl rfl ?_
    refine o_as st rfl rfl ?_
    refine c_nil ?_
    refine l_then ?_
    refine c_join (σ := ByteArray) (fun (t196 : ByteArray) (a : Act) (w : World) => Has 69 [(0, (.string s_0)), (2, (.pointer (some ⟨b1, 0, none⟩))), (4, (.pointer (some ⟨b3, 0, none⟩))), (6, (.string r132)), (8, (.string r134)), (9, (.string t196))] a ∧ Mem (gB F [] w0) (feet []) w0 [cellCh b3 [(.int .i64 (-1)), (.int .i64 0), (.int .i64 0), (.bool t129)] 84, cellCh b1 [(.int .i64 0), (.int .i64 0), (.int .i64 0), (.bool false)] 84] w) ?_ ?_
    · intro k197
      refine c_seq ?_
      refine c_region ?_
      refine o_mv st rfl rfl ?_
      refine o_eqlS st und9 rfl rfl rfl ?_
      refine c_nil ?_
      refine l_then ?_
      refine c_cond rfl ?_ ?_
      · refine c_region ?_
        refine o_mv st rfl rfl ?_
        refine o_as st rfl rfl ?_
        refine c_nil ?_
        exact l_join r134 (fun a w hE hm => ⟨hE.sub ⟨rfl, rfl, rfl, rfl, rfl, rfl, trivial⟩, (hm.pick [0, 1] rfl)⟩)
      · refine c_skip ?_
        exact l_join r135 (fun a w hE hm => ⟨hE.sub ⟨rfl, rfl, rfl, rfl, rfl, rfl, trivial⟩, (hm.pick [0, 1] rfl)⟩)
    · rintro t196 a w ⟨hE, hm⟩ h
      refine nx_of hE hm h ?_
      clear hE hm h
      refine c_seq ?_
      refine c_region ?_
      refine stw (o_bsl (enc := encStr) (qs := [(0, (.string (ByteArray.mk #[102, 114, 111, 109]))), (1, (.string (ByteArray.mk #[116, 111]))), (2, (.string (ByteArray.mk #[112, 111, 114, 116]))), (3, (.string (ByteArray.mk #[112, 114, 111, 116, 111])))]) (cells := [(.string (ByteArray.mk #[102, 114, 111, 109])), (.string (ByteArray.mk #[116, 111])), (.string (ByteArray.mk #[112, 111, 114, 116])), (.string (ByteArray.mk #[112, 114, 111, 116, 111]))]) ([(ByteArray.mk #[102, 114, 111, 109]), (ByteArray.mk #[116, 111]), (ByteArray.mk #[112, 111, 114, 116]), (ByteArray.mk #[112, 114, 111, 116, 111])]) flelStr (by intro ρ h; simp only [List.map_toArray, List.map_cons, List.map_nil, h (.const (.string (ByteArray.mk #[102, 114, 111, 109]))) _ rfl, h (.const (.string (ByteArray.mk #[116, 111]))) _ rfl, h (.const (.string (ByteArray.mk #[112, 111, 114, 116]))) _ rfl, h (.const (.string (ByteArray.mk #[112, 114, 111, 116, 111]))) _ rfl]) rfl el26 zero9 rfl rfl rfl rfl rfl rfl ?_); intro v198
      refine o_as st rfl rfl ?_
      refine c_nil ?_
      refine l_then ?_
      refine c_seq ?_
      refine c_seq ?_
      refine c_region ?_
      refine o_as st rfl rfl ?_
      refine c_nil ?_
      refine l_then ?_
      refine c_block ?_
      refine c_loop (σ := (Int × Int)) (fun ((t200, t201) : (Int × Int)) (a : Act) (w : World) => Has 69 [(0, (.string s_0)), (2, (.pointer (some ⟨b1, 0, none⟩))), (4, (.pointer (some ⟨b3, 0, none⟩))), (6, (.string r132)), (8, (.string r134)), (9, (.string t196)), (10, v198), (11, (.int .i64 t201))] a ∧ Mem (gB F [] w0) (feet []) w0 [ownCh elStr 9 v198 ([(ByteArray.mk #[102, 114, 111, 109]), (ByteArray.mk #[116, 111]), (ByteArray.mk #[112, 111, 114, 116]), (ByteArray.mk #[112, 114, 111, 116, 111])]), cellCh b3 [(.int .i64 t200), (.int .i64 0), (.int .i64 0), (.bool t129)] 84, cellCh b1 [(.int .i64 0), (.int .i64 0), (.int .i64 0), (.bool false)] 84] w) (fun a w hE hm => ⟨hE.sub ⟨rfl, rfl, rfl, rfl, rfl, rfl, rfl, rfl, trivial⟩, (hm.pick [0, 1, 2] rfl)⟩) ?_
      rintro nx202 ⟨t200, t201⟩ a w ⟨hE, hm⟩ h
      refine nx_of hE hm h ?_
      clear hE hm h
      refine c_seq ?_
      refine c_seq ?_
      refine c_region ?_
      refine o_mv st rfl rfl ?_
      refine o_mv st rfl rfl ?_
      refine o_len st el26 0 rfl reads_own rfl rfl ?_
      refine o_lss st rfl rfl rfl ?_
      refine c_nil ?_
      refine l_then ?_
      refine c_cond rfl ?_ ?_
      · refine c_skip ?_
        refine l_then ?_
        refine c_join (σ := Int) (fun (t265 : Int) (a : Act) (w : World) => Has 69 [(0, (.string s_0)), (2, (.pointer (some ⟨b1, 0, none⟩))), (4, (.pointer (some ⟨b3, 0, none⟩))), (6, (.string r132)), (8, (.string r134)), (9, (.string t196)), (10, v198), (11, (.int .i64 t201))] a ∧ Mem (gB F [] w0) (feet []) w0 [ownCh elStr 9 v198 ([(ByteArray.mk #[102, 114, 111, 109]), (ByteArray.mk #[116, 111]), (ByteArray.mk #[112, 111, 114, 116]), (ByteArray.mk #[112, 114, 111, 116, 111])]), cellCh b3 [(.int .i64 t265), (.int .i64 0), (.int .i64 0), (.bool t129)] 84, cellCh b1 [(.int .i64 0), (.int .i64 0), (.int .i64 0), (.bool false)] 84] w) ?_ ?_
        · intro k266
          refine c_block ?_
          refine c_seq ?_
          refine c_region ?_
          refine o_mv st rfl rfl ?_
          refine o_mv st rfl rfl ?_
          refine o_mv st rfl rfl ?_
          refine o_idx st 0 rfl reads_own rfl rfl rfl el26 ?_; intro e203 h204
          refine o_lds st (enc := encStr) (u := (.string e203)) 0 rfl reads_own flelStr rfl h204 rfl rfl ty9 rfl ?_
          refine o_eqlS st und9 rfl rfl rfl ?_
          refine c_nil ?_
          refine l_then ?_
          refine c_cond rfl ?_ ?_
          · refine c_region ?_
            refine o_mv st rfl rfl ?_
            refine o_fad st rfl rfl fld84_0 rfl ?_
            refine stw (o_stc (cs' := [(.int .i64 t201), (.int .i64 0), (.int .i64 0), (.bool t129)]) 1 rfl rfl rfl ty3 rfl rfl rfl rfl ?_)
            refine c_nil ?_
            refine b_norm ?_
            exact l_join t201 (fun a w hE hm => ⟨hE.sub ⟨rfl, rfl, rfl, rfl, rfl, rfl, rfl, rfl, trivial⟩, (hm.pick [0, 1, 2] rfl)⟩)
          · refine c_skip ?_
            refine b_norm ?_
            exact l_join t200 (fun a w hE hm => ⟨hE.sub ⟨rfl, rfl, rfl, rfl, rfl, rfl, rfl, rfl, trivial⟩, (hm.pick [0, 1, 2] rfl)⟩)
        · rintro t265 a w ⟨hE, hm⟩ h
          refine nx_of hE hm h ?_
          clear hE hm h
          refine c_region ?_
          refine o_mv st rfl rfl ?_
          refine o_add st rfl rfl rfl ?_; intro t267
          refine o_as st rfl rfl ?_
          refine c_nil ?_
          exact l_join (t265, t267) (fun a w hE hm => ⟨hE.sub ⟨rfl, rfl, rfl, rfl, rfl, rfl, rfl, rfl, trivial⟩, (hm.pick [0, 1, 2] rfl)⟩)
      · refine c_exit ?_
        refine l_exit ?_
        refine l_exit ?_
        refine b_exit ?_
        refine l_then ?_
        refine c_seq ?_
        refine c_region ?_
        refine o_mv st rfl rfl ?_
        refine stw (o_callP (vs := [(.string r134)]) Tryd.call86 rfl rfl (by intro w m h; exact (w_spec_l3Value (F := allB [] w) (s_0 := r134) allB_ok h).mono (fun _ _ k => ret_free (fun r u => fr_nil) k)) ?_); rintro r268 _
        refine o_fad st rfl rfl fld84_1 rfl ?_
        refine stw (o_stc (cs' := [(.int .i64 t200), (.int .i64 r268), (.int .i64 0), (.bool t129)]) 1 rfl rfl rfl ty3 rfl rfl rfl rfl ?_)
        refine c_nil ?_
        refine l_then ?_
        refine c_seq ?_
        refine c_region ?_
        refine o_mv st rfl rfl ?_
        refine stw (o_callP (vs := [(.string t196)]) Tryd.call86 rfl rfl (by intro w m h; exact (w_spec_l3Value (F := allB [] w) (s_0 := t196) allB_ok h).mono (fun _ _ k => ret_free (fun r u => fr_nil) k)) ?_); rintro r269 _
        refine o_fad st rfl rfl fld84_2 rfl ?_
        refine stw (o_stc (cs' := [(.int .i64 t200), (.int .i64 r268), (.int .i64 r269), (.bool t129)]) 1 rfl rfl rfl ty3 rfl rfl rfl rfl ?_)
        refine c_nil ?_
        refine l_then ?_
        refine c_seq ?_
        refine c_join (σ := Bool) (fun (t331 : Bool) (a : Act) (w : World) => Has 69 [(2, (.pointer (some ⟨b1, 0, none⟩))), (4, (.pointer (some ⟨b3, 0, none⟩))), (66, (.bool t331))] a ∧ Mem (gB F [] w0) (feet []) w0 [cellCh b3 [(.int .i64 t200), (.int .i64 r268), (.int .i64 r269), (.bool t129)] 84, cellCh b1 [(.int .i64 0), (.int .i64 0), (.int .i64 0), (.bool false)] 84] w) ?_ ?_
        · intro k332
          refine c_region ?_
          refine o_ldc st (v := (.agg #[(.int .i64 t200), (.int .i64 r268), (.int .i64 r269), (.bool t129)])) 1 rfl rfl rfl ty84 rfl ?_
          refine stw (o_callP (vs := [(.agg #[(.int .i64 t200), (.int .i64 r268), (.int .i64 r269), (.bool t129)])]) Tryd.call59 rfl rfl (by intro w m h; exact (w_spec_TestText (F := allB [] w) (t_0 := (GTest.mk t200 r268 r269 t129)) allB_ok h).mono (fun _ _ k => ret_free (fun r u => fr_nil) k)) ?_); rintro r270 _
          refine o_mv st rfl rfl ?_
          refine o_neqS st und9 rfl rfl rfl ?_
          refine o_mv st rfl rfl ?_
          refine st_sp (dj := 63) rfl ?_ ?_
          · refine st_s rfl rfl rfl rfl ?_
            refine st_s rfl rfl rfl rfl ?_
            refine o_pickT st rfl rfl rfl ?_
            refine c_nil ?_
            exact l_join true (fun a w hE hm => ⟨hE.sub ⟨rfl, rfl, rfl, trivial⟩, (hm.pick [1, 2] rfl)⟩)
          · refine o_mv (st_g rfl rfl) rfl rfl ?_
            refine o_eqlS (st_g rfl rfl) und9 rfl rfl rfl ?_
            refine o_pickF st rfl rfl rfl ?_
            refine c_nil ?_
            exact l_join (decide (s_0 = (ByteArray.mk #[]))) (fun a w hE hm => ⟨hE.sub ⟨rfl, rfl, rfl, trivial⟩, (hm.pick [1, 2] rfl)⟩)
        · rintro t331 a w ⟨hE, hm⟩ h
          refine nx_of hE hm h ?_
          clear hE hm h
          refine c_cond rfl ?_ ?_
          · refine c_seq ?_
            refine c_region ?_
            refine o_bld st (qs := []) (cells := [(.int .i64 0), (.int .i64 0), (.int .i64 0), (.bool false)]) (by intro ρ h; simp only [List.map_toArray, List.map_cons, List.map_nil]) rfl bld84 rfl ?_
            refine stw (o_stc (cs' := [(.int .i64 0), (.int .i64 0), (.int .i64 0), (.bool false)]) 1 rfl rfl rfl ty84 rfl rfl rfl rfl ?_)
            refine o_as st rfl rfl ?_
            refine c_nil ?_
            refine l_then ?_
            refine c_ret ?_
            refine l_ret ?_
            exact l_end2 Tryd.results72 ((GTest.mk 0 0 0 false), false) () (rv_c 1 rfl rfl ty84 rfl) (rv_t rfl) rfl (fun _ _ => NewCh.nil _ _ _ _)
          · refine c_skip ?_
            refine l_then ?_
            refine c_seq ?_
            refine c_region ?_
            refine o_ldc st (v := (.agg #[(.int .i64 t200), (.int .i64 r268), (.int .i64 r269), (.bool t129)])) 0 rfl rfl rfl ty84 rfl ?_
            refine stw (o_stc (cs' := [(.int .i64 t200), (.int .i64 r268), (.int .i64 r269), (.bool t129)]) 1 rfl rfl rfl ty84 rfl rfl rfl rfl ?_)
            refine o_as st rfl rfl ?_
            refine c_nil ?_
            refine l_then ?_
            refine c_ret ?_
            exact l_end2 Tryd.results72 ((GTest.mk t200 r268 r269 t129), true) () (rv_c 1 rfl rfl ty84 rfl) (rv_t rfl) rfl (fun _ _ => NewCh.nil _ _ _ _)

set_option maxRecDepth 100000 in
set_option maxHeartbeats 8000000 in
theorem w_spec_ReadRule {w0 : World} {F : Nat → Prop} {s_0 : ByteArray} {κ : (GRule × Bool) → Prop} (hF : ∀ b, F b → b < w0.heap.size ∧ ¬ feet [] b) (h : L_spec_ReadRule s_0 κ) :
    Calls Tryd.prog 51 #[(.string s_0)] w0 (Ret [] F w0 κ (fun (r : (GRule × Bool)) (u : Value) => .tuple #[(.agg #[u, (.int .i64 r.1.xAction), (.int .i64 r.1.xChain)]), (.bool r.2)]) (fun (r : (GRule × Bool)) (u : Value) => [ownCh elGTest 84 u r.1.xTests])) := by
  refine enter0 (args := [(.string s_0)]) [] hF (Given.nil _ _) Tryd.func51 rfl Tryd.ntmps51 rfl h ?_
  clear h hF
  refine c_seq ?_
  refine c_region ?_
  refine stw (o_alloc rfl [(.slice none 0 0), (.int .i64 0), (.int .i64 0)] zero54 ?_); intro b1
  refine o_as st rfl rfl ?_
  refine c_nil ?_
  refine l_then ?_
  refine c_seq ?_
  refine c_region ?_
  refine o_bld st (qs := []) (cells := [(.slice none 0 0), (.int .i64 0), (.int .i64 0)]) (by intro ρ h; simp only [List.map_toArray, List.map_cons, List.map_nil]) rfl bld54 rfl ?_
  refine stw (o_alloc rfl [(.slice none 0 0), (.int .i64 0), (.int .i64 0)] zero54 ?_); intro b3
  refine stw (o_stc (cs' := [(.slice none 0 0), (.int .i64 0), (.int .i64 0)]) 0 rfl rfl rfl ty54 rfl rfl rfl rfl ?_)
  refine c_nil ?_
  refine l_then ?_
  refine c_seq ?_
  refine c_region ?_
  refine o_mv st rfl rfl ?_
  refine stw (o_callP (vs := [(.string s_0), (.int .u8 44)]) Tryd.call71 rfl rfl (by intro w m h; exact (w_spec_l3Cut (F := allB [] w) (s_0 := s_0) (c_1 := (44 : UInt8)) allB_ok h).mono (fun _ _ k => ret_free (fun r u => fr_nil) k)) ?_); rintro ⟨r5, r6⟩ _
  refine o_mv st rfl rfl ?_
  refine o_ext st (vs := [(.string r5), (.string r6)]) rfl rfl rfl ?_
  refine o_ext st (vs := [(.string r5), (.string r6)]) rfl rfl rfl ?_
  refine o_as st rfl rfl ?_
  refine o_as st rfl rfl ?_
  refine c_nil ?_
  refine l_then ?_
  refine c_seq ?_
  refine c_seq ?_
  refine c_region ?_
  refine o_as st rfl rfl ?_
  refine c_nil ?_
  refine l_then ?_
  refine c_block ?_
  refine c_loop (σ := (Int × Int × Int)) (fun ((t7, t8, t9) : (Int × Int × Int)) (a : Act) (w : World) => Has 87 [(0, (.string s_0)), (2, (.pointer (some ⟨b1, 0, none⟩))), (4, (.pointer (some ⟨b3, 0, none⟩))), (5, (.string r5)), (6, (.string r6)), (7, (.int .i64 t9))] a ∧ Mem (gB F [] w0) (feet []) w0 [cellCh b3 [(.slice none 0 0), (.int .i64 t7), (.int .i64 t8)] 54, cellCh b1 [(.slice none 0 0), (.int .i64 0), (.int .i64 0)] 54] w) (fun a w hE hm => ⟨hE.sub ⟨rfl, rfl, rfl, rfl, rfl, rfl, trivial⟩, (hm.pick [0, 1] rfl)⟩) ?_
  rintro nx10 ⟨t7, t8, t9⟩ a w ⟨hE, hm⟩ h
  refine nx_of hE hm h ?_
  clear hE hm h
  refine c_seq ?_
  refine c_seq ?_
  refine c_region ?_
  refine o_mv st rfl rfl ?_
  refine o_leq st rfl rfl rfl ?_
  refine c_nil ?_
  refine l_then ?_
  refine c_cond rfl ?_ ?_
  · refine c_skip ?_
    refine l_then ?_
    refine c_seq ?_
    refine c_block ?_
    refine c_seq ?_
    refine c_region ?_
    refine o_as st rfl rfl ?_
    refine c_nil ?_
    refine l_then ?_
    refine c_block ?_
    refine c_loop (σ := (Int × Int × Int)) (fun ((t11, t12, t13) : (Int × Int × Int)) (a : Act) (w : World) => Has 87 [(0, (.string s_0)), (2, (.pointer (some ⟨b1, 0, none⟩))), (4, (.pointer (some ⟨b3, 0, none⟩))), (5, (.string r5)), (6, (.string r6)), (7, (.int .i64 t9)), (8, (.int .i64 t13))] a ∧ Mem (gB F [] w0) (feet []) w0 [cellCh b3 [(.slice none 0 0), (.int .i64 t11), (.int .i64 t12)] 54, cellCh b1 [(.slice none 0 0), (.int .i64 0), (.int .i64 0)] 54] w) (fun a w hE hm => ⟨hE.sub ⟨rfl, rfl, rfl, rfl, rfl, rfl, rfl, trivial⟩, (hm.pick [0, 1] rfl)⟩) ?_
    rintro nx14 ⟨t11, t12, t13⟩ a w ⟨hE, hm⟩ h
    refine nx_of hE hm h ?_
    clear hE hm h
    refine c_seq ?_
    refine c_seq ?_
    refine c_region ?_
    refine o_mv st rfl rfl ?_
    refine o_lss st rfl rfl rfl ?_
    refine c_nil ?_
    refine l_then ?_
    refine c_cond rfl ?_ ?_
    · refine c_skip ?_
      refine l_then ?_
      refine c_join (σ := (Int × Int)) (fun ((t140, t141) : (Int × Int)) (a : Act) (w : World) => Has 87 [(0, (.string s_0)), (2, (.pointer (some ⟨b1, 0, none⟩))), (4, (.pointer (some ⟨b3, 0, none⟩))), (5, (.string r5)), (6, (.string r6)), (7, (.int .i64 t9)), (8, (.int .i64 t13))] a ∧ Mem (gB F [] w0) (feet []) w0 [cellCh b3 [(.slice none 0 0), (.int .i64 t140), (.int .i64 t141)] 54, cellCh b1 [(.slice none 0 0), (.int .i64 0), (.int .i64 0)] 54] w) ?_ ?_
      · intro k142
        refine c_block ?_
        refine c_seq ?_
        refine c_region ?_
        refine o_mv st rfl rfl ?_
        refine o_bld st (qs := [(1, (.int .i64 t9))]) (cells := [(.slice none 0 0), (.int .i64 t9), (.int .i64 0)]) (by intro ρ h; simp only [List.map_toArray, List.map_cons, List.map_nil, h (.tmp 29) _ rfl]) rfl bld54 rfl ?_
        refine stw (o_alloc rfl [(.slice none 0 0), (.int .i64 0), (.int .i64 0)] zero54 ?_); intro b15
        refine stw (o_stc (cs' := [(.slice none 0 0), (.int .i64 t9), (.int .i64 0)]) 0 rfl rfl rfl ty54 rfl rfl rfl rfl ?_)
        refine c_nil ?_
        refine l_then ?_
        refine c_join (σ := Int) (fun (t77 : Int) (a : Act) (w : World) => Has 87 [(0, (.string s_0)), (2, (.pointer (some ⟨b1, 0, none⟩))), (4, (.pointer (some ⟨b3, 0, none⟩))), (5, (.string r5)), (6, (.string r6)), (7, (.int .i64 t9)), (8, (.int .i64 t13)), (9, (.pointer (some ⟨b15, 0, none⟩)))] a ∧ Mem (gB F [] w0) (feet []) w0 [cellCh b15 [(.slice none 0 0), (.int .i64 t9), (.int .i64 t77)] 54, cellCh b3 [(.slice none 0 0), (.int .i64 t11), (.int .i64 t12)] 54, cellCh b1 [(.slice none 0 0), (.int .i64 0), (.int .i64 0)] 54] w) ?_ ?_
        · intro k78
          refine c_seq ?_
          refine c_region ?_
          refine o_mv st rfl rfl ?_
          refine o_eql st und3 rfl rfl rfl ?_
          refine c_nil ?_
          refine l_then ?_
          refine c_cond rfl ?_ ?_
          · refine c_region ?_
            refine o_mv st rfl rfl ?_
            refine o_fad st rfl rfl fld54_2 rfl ?_
            refine stw (o_stc (cs' := [(.slice none 0 0), (.int .i64 t9), (.int .i64 t13)]) 0 rfl rfl rfl ty3 rfl rfl rfl rfl ?_)
            refine c_nil ?_
            exact l_join t13 (fun a w hE hm => ⟨hE.sub ⟨rfl, rfl, rfl, rfl, rfl, rfl, rfl, rfl, trivial⟩, (hm.pick [0, 1, 2] rfl)⟩)
          · refine c_skip ?_
            exact l_join 0 (fun a w hE hm => ⟨hE.sub ⟨rfl, rfl, rfl, rfl, rfl, rfl, rfl, rfl, trivial⟩, (hm.pick [0, 1, 2] rfl)⟩)
        · rintro t77 a w ⟨hE, hm⟩ h
          refine nx_of hE hm h ?_
          clear hE hm h
          refine c_seq ?_
          refine c_region ?_
          refine o_ldc st (v := (.agg #[(.slice none 0 0), (.int .i64 t9), (.int .i64 t77)])) 0 rfl rfl rfl ty54 rfl ?_
          refine stw (o_callP (vs := [(.agg #[(.slice none 0 0), (.int .i64 t9), (.int .i64 t77)])]) Tryd.call35 rfl rfl (by intro w m h; exact (w_spec_RuleText (F := allB [] w) (r_0 := (GRule.mk ([]) t9 t77)) allB_ok (Sl.nil _ _ _ _ _) h).mono (fun _ _ k => ret_free (fun r u => fr_nil) k)) ?_); rintro r79 _
          refine o_mv st rfl rfl ?_
          refine o_eqlS st und9 rfl rfl rfl ?_
          refine c_nil ?_
          refine l_then ?_
          refine c_cond rfl ?_ ?_
          · refine c_region ?_
            refine o_ldc st (v := (.agg #[(.slice none 0 0), (.int .i64 t9), (.int .i64 t77)])) 0 rfl rfl rfl ty54 rfl ?_
            refine stw (o_stc (cs' := [(.slice none 0 0), (.int .i64 t9), (.int .i64 t77)]) 1 rfl rfl rfl ty54 rfl rfl rfl rfl ?_)
            refine c_nil ?_
            refine b_norm ?_
            exact l_join (t9, t77) (fun a w hE hm => ⟨hE.sub ⟨rfl, rfl, rfl, rfl, rfl, rfl, rfl, trivial⟩, (hm.pick [1, 2] rfl)⟩)
          · refine c_skip ?_
            refine b_norm ?_
            exact l_join (t11, t12) (fun a w hE hm => ⟨hE.sub ⟨rfl, rfl, rfl, rfl, rfl, rfl, rfl, trivial⟩, (hm.pick [1, 2] rfl)⟩)
      · rintro ⟨t140, t141⟩ a w ⟨hE, hm⟩ h
        refine nx_of hE hm h ?_
        clear hE hm h
        refine c_region ?_
        refine o_mv st rfl rfl ?_
        refine o_add st rfl rfl rfl ?_; intro t143
        refine o_as st rfl rfl ?_
        refine c_nil ?_
        exact l_join (t140, t141, t143) (fun a w hE hm => ⟨hE.sub ⟨rfl, rfl, rfl, rfl, rfl, rfl, rfl, trivial⟩, (hm.pick [0, 1] rfl)⟩)
    · refine c_exit ?_
      refine l_exit ?_
      refine l_exit ?_
      refine b_exit ?_
      refine b_norm ?_
      refine l_then ?_
      refine c_region ?_
      refine o_mv st rfl rfl ?_
      refine o_add st rfl rfl rfl ?_; intro t144
      refine o_as st rfl rfl ?_
      refine c_nil ?_
      exact l_join (t11, t12, t144) (fun a w hE hm => ⟨hE.sub ⟨rfl, rfl, rfl, rfl, rfl, rfl, trivial⟩, (hm.pick [0, 1] rfl)⟩)
  · refine c_exit ?_
    refine l_exit ?_
    refine l_exit ?_
    refine b_exit ?_
    refine l_then ?_
    refine c_seq ?_
    refine c_seq ?_
    refine c_region ?_
    refine o_as st rfl rfl ?_
    refine c_nil ?_
    refine l_then ?_
    refine c_block ?_
    refine c_loop (σ := ((List GTest) × ByteArray × Int)) (fun ((xs146, t149, t150) : ((List GTest) × ByteArray × Int)) (a : Act) (w : World) => ∃ (v145 : Value), Has 87 [(0, (.string s_0)), (2, (.pointer (some ⟨b1, 0, none⟩))), (4, (.pointer (some ⟨b3, 0, none⟩))), (6, (.string t149)), (10, (.int .i64 t150))] a ∧ Mem (gB F [] w0) (feet []) w0 [cellCh b3 [v145, (.int .i64 t7), (.int .i64 t8)] 54, cellCh b1 [(.slice none 0 0), (.int .i64 0), (.int .i64 0)] 54, ownCh elGTest 84 v145 xs146] w) (fun a w hE hm => ⟨(.slice none 0 0), hE.sub ⟨rfl, rfl, rfl, rfl, rfl, trivial⟩, ((mem_nil elGTest 84 hm).pick [1, 2, 0] rfl)⟩) ?_
    rintro nx151 ⟨xs146, t149, t150⟩ a w ⟨v145, hE, hm⟩ h
    refine nx_of hE hm h ?_
    clear hE hm h
    refine c_seq ?_
    refine c_join (σ := Bool) (fun (t212 : Bool) (a : Act) (w : World) => Has 87 [(0, (.string s_0)), (2, (.pointer (some ⟨b1, 0, none⟩))), (4, (.pointer (some ⟨b3, 0, none⟩))), (6, (.string t149)), (10, (.int .i64 t150)), (45, (.bool t212))] a ∧ Mem (gB F [] w0) (feet []) w0 [cellCh b3 [v145, (.int .i64 t7), (.int .i64 t8)] 54, cellCh b1 [(.slice none 0 0), (.int .i64 0), (.int .i64 0)] 54, ownCh elGTest 84 v145 xs146] w) ?_ ?_
    · intro k213
      refine c_region ?_
      refine o_mv st rfl rfl ?_
      refine o_neqS st und9 rfl rfl rfl ?_
      refine o_mv st rfl rfl ?_
      refine st_sp (dj := 42) rfl ?_ ?_
      · refine o_mv (st_g rfl rfl) rfl rfl ?_
        refine o_leq (st_g rfl rfl) rfl rfl rfl ?_
        refine o_pickT st rfl rfl rfl ?_
        refine c_nil ?_
        exact l_join (decide (t150 ≤ 6)) (fun a w hE hm => ⟨hE.sub ⟨rfl, rfl, rfl, rfl, rfl, rfl, trivial⟩, (hm.pick [0, 1, 2] rfl)⟩)
      · refine st_s rfl rfl rfl rfl ?_
        refine st_s rfl rfl rfl rfl ?_
        refine o_pickF st rfl rfl rfl ?_
        refine c_nil ?_
        exact l_join false (fun a w hE hm => ⟨hE.sub ⟨rfl, rfl, rfl, rfl, rfl, rfl, trivial⟩, (hm.pick [0, 1, 2] rfl)⟩)
    · rintro t212 a w ⟨hE, hm⟩ h
      refine nx_of hE hm h ?_
      clear hE hm h
      refine c_cond rfl ?_ ?_
      · refine c_skip ?_
        refine l_then ?_
        refine c_seq ?_
        refine c_block ?_
        refine c_seq ?_
        refine c_region ?_
        refine o_mv st rfl rfl ?_
        refine stw (o_callP (vs := [(.string t149), (.int .u8 44)]) Tryd.call71 rfl rfl (by intro w m h; exact (w_spec_l3Cut (F := allB [] w) (s_0 := t149) (c_1 := (44 : UInt8)) allB_ok h).mono (fun _ _ k => ret_free (fun r u => fr_nil) k)) ?_); rintro ⟨r214, r215⟩ _
        refine o_mv st rfl rfl ?_
        refine o_ext st (vs := [(.string r214), (.string r215)]) rfl rfl rfl ?_
        refine o_ext st (vs := [(.string r214), (.string r215)]) rfl rfl rfl ?_
        refine o_as st rfl rfl ?_
        refine o_as st rfl rfl ?_
        refine c_nil ?_
        refine l_then ?_
        refine c_seq ?_
        refine c_join (σ := Bool) (fun (t277 : Bool) (a : Act) (w : World) => Has 87 [(0, (.string s_0)), (2, (.pointer (some ⟨b1, 0, none⟩))), (4, (.pointer (some ⟨b3, 0, none⟩))), (10, (.int .i64 t150)), (11, (.string r214)), (12, (.string r215)), (59, (.bool t277))] a ∧ Mem (gB F [] w0) (feet []) w0 [cellCh b3 [v145, (.int .i64 t7), (.int .i64 t8)] 54, cellCh b1 [(.slice none 0 0), (.int .i64 0), (.int .i64 0)] 54, ownCh elGTest 84 v145 xs146] w) ?_ ?_
        · intro k278
          refine c_region ?_
          refine o_mv st rfl rfl ?_
          refine o_eqlS st und9 rfl rfl rfl ?_
          refine o_mv st rfl rfl ?_
          refine st_sp (dj := 55) rfl ?_ ?_
          · refine st_s rfl rfl rfl rfl ?_
            refine st_s rfl rfl rfl rfl ?_
            refine st_s rfl rfl rfl rfl ?_
            refine o_pickT st rfl rfl rfl ?_
            refine c_nil ?_
            exact l_join true (fun a w hE hm => ⟨hE.sub ⟨rfl, rfl, rfl, rfl, rfl, rfl, rfl, trivial⟩, (hm.pick [0, 1, 2] rfl)⟩)
          · refine o_mv (st_g rfl rfl) rfl rfl ?_
            refine o_ixs (st_g rfl rfl) und9 rfl rfl rfl ?_; intro e216
            refine o_neq (st_g rfl rfl) und5 rfl rfl rfl ?_
            refine o_pickF st rfl rfl rfl ?_
            refine c_nil ?_
            exact l_join (!(decide ((e216.toNat : Int) = 32))) (fun a w hE hm => ⟨hE.sub ⟨rfl, rfl, rfl, rfl, rfl, rfl, rfl, trivial⟩, (hm.pick [0, 1, 2] rfl)⟩)
        · rintro t277 a w ⟨hE, hm⟩ h
          refine nx_of hE hm h ?_
          clear hE hm h
          refine c_cond rfl ?_ ?_
          · refine c_seq ?_
            refine c_region ?_
            refine o_bld st (qs := []) (cells := [(.slice none 0 0), (.int .i64 0), (.int .i64 0)]) (by intro ρ h; simp only [List.map_toArray, List.map_cons, List.map_nil]) rfl bld54 rfl ?_
            refine stw (o_stc (cs' := [(.slice none 0 0), (.int .i64 0), (.int .i64 0)]) 1 rfl rfl rfl ty54 rfl rfl rfl rfl ?_)
            refine o_as st rfl rfl ?_
            refine c_nil ?_
            refine l_then ?_
            refine c_ret ?_
            refine l_ret ?_
            refine b_ret ?_
            refine l_ret ?_
            refine l_ret ?_
            refine b_ret ?_
            refine l_ret ?_
            refine nx_nil elGTest 84 ?_
            exact l_end2 Tryd.results51 ((GRule.mk ([]) 0 0), false) (.slice none 0 0) (rv_c 2 rfl rfl ty54 rfl) (rv_t rfl) rfl (fun w m => NewCh.ofB m [0] rfl)
          · refine c_skip ?_
            refine l_then ?_
            refine c_seq ?_
            refine c_region ?_
            refine o_mv st rfl rfl ?_
            refine o_sls st und9 rfl rfl rfl rfl ?_; intro s280
            refine stw (o_callP (vs := [(.string s280)]) Tryd.call72 rfl rfl (by intro w m h; exact (w_spec_ReadTest (F := allB [] w) (s_0 := s280) allB_ok h).mono (fun _ _ k => ret_free (fun r u => fr_nil) k)) ?_); rintro ⟨r281, r282⟩ _
            refine o_mv st rfl rfl ?_
            refine o_ext st (vs := [(.agg #[(.int .i64 r281.xField), (.int .i64 r281.xLo), (.int .i64 r281.xHi), (.bool r281.xNot)]), (.bool r282)]) rfl rfl rfl ?_
            refine o_ext st (vs := [(.agg #[(.int .i64 r281.xField), (.int .i64 r281.xLo), (.int .i64 r281.xHi), (.bool r281.xNot)]), (.bool r282)]) rfl rfl rfl ?_
            refine stw (o_alloc rfl [(.int .i64 0), (.int .i64 0), (.int .i64 0), (.bool false)] zero84 ?_); intro b283
            refine stw (o_stc (cs' := [(.int .i64 r281.xField), (.int .i64 r281.xLo), (.int .i64 r281.xHi), (.bool r281.xNot)]) 0 rfl rfl rfl ty84 rfl rfl rfl rfl ?_)
            refine o_as st rfl rfl ?_
            refine c_nil ?_
            refine l_then ?_
            refine c_seq ?_
            refine c_seq ?_
            refine c_region ?_
            refine o_mv st rfl rfl ?_
            refine o_not st rfl rfl ?_
            refine c_nil ?_
            refine l_then ?_
            refine c_cond rfl ?_ ?_
            · refine c_seq ?_
              refine c_region ?_
              refine o_bld st (qs := []) (cells := [(.slice none 0 0), (.int .i64 0), (.int .i64 0)]) (by intro ρ h; simp only [List.map_toArray, List.map_cons, List.map_nil]) rfl bld54 rfl ?_
              refine stw (o_stc (cs' := [(.slice none 0 0), (.int .i64 0), (.int .i64 0)]) 2 rfl rfl rfl ty54 rfl rfl rfl rfl ?_)
              refine o_as st rfl rfl ?_
              refine c_nil ?_
              refine l_then ?_
              refine c_ret ?_
              refine l_ret ?_
              refine b_ret ?_
              refine l_ret ?_
              refine l_ret ?_
              refine b_ret ?_
              refine l_ret ?_
              refine nx_nil elGTest 84 ?_
              exact l_end2 Tryd.results51 ((GRule.mk ([]) 0 0), false) (.slice none 0 0) (rv_c 3 rfl rfl ty54 rfl) (rv_t rfl) rfl (fun w m => NewCh.ofB m [0] rfl)
            · refine c_skip ?_
              refine l_then ?_
              refine c_seq ?_
              refine c_region ?_
              refine o_fad st rfl rfl fld54_0 rfl ?_
              refine o_ldc st (v := v145) 1 rfl rfl rfl ty52 rfl ?_
              refine o_ldc st (v := (.agg #[(.int .i64 r281.xField), (.int .i64 r281.xLo), (.int .i64 r281.xHi), (.bool r281.xNot)])) 0 rfl rfl rfl ty84 rfl ?_
              refine stw (o_bsl (enc := encGTest) (qs := [(0, (.agg #[(.int .i64 r281.xField), (.int .i64 r281.xLo), (.int .i64 r281.xHi), (.bool r281.xNot)]))]) (cells := [(.int .i64 r281.xField), (.int .i64 r281.xLo), (.int .i64 r281.xHi), (.bool r281.xNot)]) ([r281]) flelGTest (by intro ρ h; simp only [List.map_toArray, List.map_cons, List.map_nil, h (.tmp 72) _ rfl]) rfl el52 zero84 rfl rfl rfl rfl rfl rfl ?_); intro v286
              refine stw (o_app 4 0 rfl rfl (src_flat flelGTest reads_own) rfl rfl rfl el52 rfl zero84 rfl rfl ?_); intro v288
              refine o_fad st rfl rfl fld54_0 rfl ?_
              refine nx_own 4 rfl ?_; rintro a290 l291 q292 rfl
              refine stw (o_stc (cs' := [(.slice a290 l291 q292), (.int .i64 t7), (.int .i64 t8)]) 2 rfl rfl rfl ty52 rfl rfl rfl rfl ?_)
              refine c_nil ?_
              refine l_then ?_
              refine c_region ?_
              refine o_mv st rfl rfl ?_
              refine o_as st rfl rfl ?_
              refine c_nil ?_
              refine b_norm ?_
              refine l_then ?_
              refine c_region ?_
              refine o_mv st rfl rfl ?_
              refine o_add st rfl rfl rfl ?_; intro t293
              refine o_as st rfl rfl ?_
              refine c_nil ?_
              exact l_join ((xs146 ++ ([r281])), r215, t293) (fun a w hE hm => ⟨(.slice a290 l291 q292), hE.sub ⟨rfl, rfl, rfl, rfl, rfl, trivial⟩, (hm.pick [2, 3, 4] rfl)⟩)
      · refine c_exit ?_
        refine l_exit ?_
        refine l_exit ?_
        refine b_exit ?_
        refine l_then ?_
        refine c_seq ?_
        refine c_join (σ := Bool) (fun (t355 : Bool) (a : Act) (w : World) => Has 87 [(2, (.pointer (some ⟨b1, 0, none⟩))), (4, (.pointer (some ⟨b3, 0, none⟩))), (84, (.bool t355))] a ∧ Mem (gB F [] w0) (feet []) w0 [cellCh b3 [v145, (.int .i64 t7), (.int .i64 t8)] 54, cellCh b1 [(.slice none 0 0), (.int .i64 0), (.int .i64 0)] 54, ownCh elGTest 84 v145 xs146] w) ?_ ?_
        · intro k356
          refine c_region ?_
          refine o_ldc st (v := (.agg #[v145, (.int .i64 t7), (.int .i64 t8)])) 0 rfl rfl rfl ty54 rfl ?_
          refine stw (o_callP (vs := [(.agg #[v145, (.int .i64 t7), (.int .i64 t8)])]) Tryd.call35 rfl rfl (by intro w m h; exact (w_spec_RuleText (F := allB [] w) (r_0 := (GRule.mk xs146 t7 t8)) allB_ok (m.rd0 2 rfl reads_own) h).mono (fun _ _ k => ret_free (fun r u => fr_nil) k)) ?_); rintro r294 _
          refine o_mv st rfl rfl ?_
          refine o_neqS st und9 rfl rfl rfl ?_
          refine o_mv st rfl rfl ?_
          refine st_sp (dj := 81) rfl ?_ ?_
          · refine st_s rfl rfl rfl rfl ?_
            refine st_s rfl rfl rfl rfl ?_
            refine o_pickT st rfl rfl rfl ?_
            refine c_nil ?_
            exact l_join true (fun a w hE hm => ⟨hE.sub ⟨rfl, rfl, rfl, trivial⟩, (hm.pick [0, 1, 2] rfl)⟩)
          · refine o_mv (st_g rfl rfl) rfl rfl ?_
            refine o_eqlS (st_g rfl rfl) und9 rfl rfl rfl ?_
            refine o_pickF st rfl rfl rfl ?_
            refine c_nil ?_
            exact l_join (decide (s_0 = (ByteArray.mk #[]))) (fun a w hE hm => ⟨hE.sub ⟨rfl, rfl, rfl, trivial⟩, (hm.pick [0, 1, 2] rfl)⟩)
        · rintro t355 a w ⟨hE, hm⟩ h
          refine nx_of hE hm h ?_
          clear hE hm h
          refine c_cond rfl ?_ ?_
          · refine c_seq ?_
            refine c_region ?_
            refine o_bld st (qs := []) (cells := [(.slice none 0 0), (.int .i64 0), (.int .i64 0)]) (by intro ρ h; simp only [List.map_toArray, List.map_cons, List.map_nil]) rfl bld54 rfl ?_
            refine stw (o_stc (cs' := [(.slice none 0 0), (.int .i64 0), (.int .i64 0)]) 1 rfl rfl rfl ty54 rfl rfl rfl rfl ?_)
            refine o_as st rfl rfl ?_
            refine c_nil ?_
            refine l_then ?_
            refine c_ret ?_
            refine l_ret ?_
            refine nx_nil elGTest 84 ?_
            exact l_end2 Tryd.results51 ((GRule.mk ([]) 0 0), false) (.slice none 0 0) (rv_c 2 rfl rfl ty54 rfl) (rv_t rfl) rfl (fun w m => NewCh.ofB m [0] rfl)
          · refine c_skip ?_
            refine l_then ?_
            refine c_seq ?_
            refine c_region ?_
            refine o_ldc st (v := (.agg #[v145, (.int .i64 t7), (.int .i64 t8)])) 0 rfl rfl rfl ty54 rfl ?_
            refine nx_own 2 rfl ?_; rintro a358 l359 q360 rfl
            refine stw (o_stc (cs' := [(.slice a358 l359 q360), (.int .i64 t7), (.int .i64 t8)]) 1 rfl rfl rfl ty54 rfl rfl rfl rfl ?_)
            refine o_as st rfl rfl ?_
            refine c_nil ?_
            refine l_then ?_
            refine c_ret ?_
            exact l_end2 Tryd.results51 ((GRule.mk xs146 t7 t8), true) (.slice a358 l359 q360) (rv_c 1 rfl rfl ty54 rfl) (rv_t rfl) rfl (fun w m => NewCh.ofB m [2] rfl)



end

end Go.Proofs.YtlcjkhnamgklgaaDoor
