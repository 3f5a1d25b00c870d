/- The walks of the functions of this seat (printed). -/
import Derived.Test.YtcinklbbacmihaaRows
import Derived.Test.YtcinklbbacmihaaG1Pure
set_option linter.unusedSimpArgs false
set_option linter.unusedVariables false
namespace Go.Proofs.Ytcinklbbacmihaa
open Go.RowKit
theorem bld25 : bldB Try.prog 25 = some (#[(0, 1), (1, 1), (2, 1), (3, 1)], [(.int .i64 0), (.int .i64 0), (.int .i64 0), (.int .i64 0)]) := by kernel_rfl
theorem bld59 : bldB Try.prog 59 = some (#[(0, 1), (1, 1)], [(.int .i64 0), (.int .i64 0)]) := by kernel_rfl
theorem bld66 : bldB Try.prog 66 = some (#[(0, 1), (1, 1)], [(.slice none 0 0), (.int .i64 0)]) := by kernel_rfl
theorem el28 : elB Try.prog 28 = some (5, 1, 1) := by kernel_rfl
theorem el41 : elB Try.prog 41 = some (3, 1, 8) := by kernel_rfl
theorem el44 : elB Try.prog 44 = some (4, 1, 1) := by kernel_rfl
theorem el60 : elB Try.prog 60 = some (59, 2, 16) := by kernel_rfl
theorem eqls25 (x y : Operand) (a0 : Int) (a1 : Int) (a2 : Int) (a3 : Int) (b0 : Int) (b1 : Int) (b2 : Int) (b3 : Int) (w : World) : (do eqGuard .eql 25 x y (.agg #[(.int .i64 a0), (.int .i64 a1), (.int .i64 a2), (.int .i64 a3)]) (.agg #[(.int .i64 b0), (.int .i64 b1), (.int .i64 b2), (.int .i64 b3)]); binOp .eql 25 (.agg #[(.int .i64 a0), (.int .i64 a1), (.int .i64 a2), (.int .i64 a3)]) (.agg #[(.int .i64 b0), (.int .i64 b1), (.int .i64 b2), (.int .i64 b3)]) : Sem Value).run Try.prog w = .ok (.bool (decide ((GBucket.mk a0 a1 a2 a3) = (GBucket.mk b0 b1 b2 b3)))) w := by
  simp [go_sem, binOp, Op.equal, Op.maxDepth]
  repeat' split
  all_goals simp_all
theorem neqs25 (x y : Operand) (a0 : Int) (a1 : Int) (a2 : Int) (a3 : Int) (b0 : Int) (b1 : Int) (b2 : Int) (b3 : Int) (w : World) : (do eqGuard .neq 25 x y (.agg #[(.int .i64 a0), (.int .i64 a1), (.int .i64 a2), (.int .i64 a3)]) (.agg #[(.int .i64 b0), (.int .i64 b1), (.int .i64 b2), (.int .i64 b3)]); binOp .neq 25 (.agg #[(.int .i64 a0), (.int .i64 a1), (.int .i64 a2), (.int .i64 a3)]) (.agg #[(.int .i64 b0), (.int .i64 b1), (.int .i64 b2), (.int .i64 b3)]) : Sem Value).run Try.prog w = .ok (.bool (!decide ((GBucket.mk a0 a1 a2 a3) = (GBucket.mk b0 b1 b2 b3)))) w := by
  simp [go_sem, binOp, Op.equal, Op.maxDepth]
  repeat' split
  all_goals simp_all
theorem fld23_0 : fldB Try.prog 23 0 = some (0, false, 1) := by kernel_rfl
theorem fld23_1 : fldB Try.prog 23 1 = some (1, false, 1) := by kernel_rfl
theorem fld23_2 : fldB Try.prog 23 2 = some (2, false, 1) := by kernel_rfl
theorem fld23_3 : fldB Try.prog 23 3 = some (3, false, 1) := by kernel_rfl
theorem fld25_0 : fldB Try.prog 25 0 = some (0, false, 1) := by kernel_rfl
theorem fld25_1 : fldB Try.prog 25 1 = some (1, false, 1) := by kernel_rfl
theorem fld25_2 : fldB Try.prog 25 2 = some (2, false, 1) := by kernel_rfl
theorem fld25_3 : fldB Try.prog 25 3 = some (3, false, 1) := by kernel_rfl
theorem fld59_0 : fldB Try.prog 59 0 = some (0, false, 1) := by kernel_rfl
theorem fld59_1 : fldB Try.prog 59 1 = some (1, false, 1) := by kernel_rfl
theorem fld66_0 : fldB Try.prog 66 0 = some (0, false, 1) := by kernel_rfl
theorem fld66_1 : fldB Try.prog 66 1 = some (1, false, 1) := by kernel_rfl
theorem ty23 : tyB Try.prog 23 = some (true, 4) := by kernel_rfl
theorem ty25 : tyB Try.prog 25 = some (true, 4) := by kernel_rfl
theorem ty28 : tyB Try.prog 28 = some (false, 1) := by kernel_rfl
theorem ty3 : tyB Try.prog 3 = some (false, 1) := by kernel_rfl
theorem ty4 : tyB Try.prog 4 = some (false, 1) := by kernel_rfl
theorem ty5 : tyB Try.prog 5 = some (false, 1) := by kernel_rfl
theorem ty59 : tyB Try.prog 59 = some (true, 2) := by kernel_rfl
theorem und3 : Try.prog.underlying 3 = some (.int .i64) := by kernel_rfl
theorem und4 : Try.prog.underlying 4 = some .bool := by kernel_rfl
theorem und5 : Try.prog.underlying 5 = some (.int .u8) := by kernel_rfl
theorem zero25 : zeroB Try.prog 25 = some [(.int .i64 0), (.int .i64 0), (.int .i64 0), (.int .i64 0)] := by kernel_rfl
theorem zero3 : zeroB Try.prog 3 = some [(.int .i64 0)] := by kernel_rfl
theorem zero4 : zeroB Try.prog 4 = some [(.bool false)] := by kernel_rfl
theorem zero59 : zeroB Try.prog 59 = some [(.int .i64 0), (.int .i64 0)] := by kernel_rfl
theorem mixed : Try.prog.follows .mixedOrders = true := by kernel_rfl

set_option maxRecDepth 100000 in
set_option maxHeartbeats 8000000 in
theorem w_laws_toBucket {w0 : World} {F : Nat → Prop} {a_0 : GBucket} {κ : GBucket → Prop} (h : L_laws_toBucket a_0 κ) :
    Calls Try.prog 15 #[(.agg #[(.int .i64 a_0.xSize), (.int .i64 a_0.xEvery), (.int .i64 a_0.xTokens), (.int .i64 a_0.xLast)])] w0 (Ret [] F w0 κ (fun (r : GBucket) (u : Unit) => (.agg #[(.int .i64 r.xSize), (.int .i64 r.xEvery), (.int .i64 r.xTokens), (.int .i64 r.xLast)])) (fun (r : GBucket) (u : Unit) => [])) := by
  refine enter (args := [(.agg #[(.int .i64 a_0.xSize), (.int .i64 a_0.xEvery), (.int .i64 a_0.xTokens), (.int .i64 a_0.xLast)])]) [] Try.func15 rfl Try.ntmps15 rfl [] hf_nil hh_nil (Given.nil w0).lt (Given.nil w0).disj (Given.nil w0).hold h ?_
  clear h
  refine c_seq ?_
  refine c_region ?_
  refine stw (o_box rfl rfl [(.int .i64 a_0.xSize), (.int .i64 a_0.xEvery), (.int .i64 a_0.xTokens), (.int .i64 a_0.xLast)] rfl ?_); intro b1
  refine stw (o_alloc rfl [(.int .i64 0), (.int .i64 0), (.int .i64 0), (.int .i64 0)] zero25 ?_); intro b3
  refine c_nil ?_
  refine l_then ?_
  refine c_seq ?_
  refine c_region ?_
  refine stw (o_alloc rfl [(.int .i64 0), (.int .i64 0), (.int .i64 0), (.int .i64 0)] zero25 ?_); intro b5
  refine c_nil ?_
  refine l_then ?_
  refine c_seq ?_
  refine c_region ?_
  refine o_fad st rfl rfl fld23_0 rfl ?_
  refine o_ldc st (v := (.int .i64 a_0.xSize)) 2 rfl rfl rfl ty3 rfl ?_
  refine o_fad st rfl rfl fld25_0 rfl ?_
  refine stw (o_stc (cs' := [(.int .i64 a_0.xSize), (.int .i64 0), (.int .i64 0), (.int .i64 0)]) 0 rfl rfl rfl ty3 rfl rfl rfl rfl ?_)
  refine c_nil ?_
  refine l_then ?_
  refine c_seq ?_
  refine c_region ?_
  refine o_fad st rfl rfl fld23_1 rfl ?_
  refine o_ldc st (v := (.int .i64 a_0.xEvery)) 2 rfl rfl rfl ty3 rfl ?_
  refine o_fad st rfl rfl fld25_1 rfl ?_
  refine stw (o_stc (cs' := [(.int .i64 a_0.xSize), (.int .i64 a_0.xEvery), (.int .i64 0), (.int .i64 0)]) 0 rfl rfl rfl ty3 rfl rfl rfl rfl ?_)
  refine c_nil ?_
  refine l_then ?_
  refine c_seq ?_
  refine c_region ?_
  refine o_fad st rfl rfl fld23_2 rfl ?_
  refine o_ldc st (v := (.int .i64 a_0.xTokens)) 2 rfl rfl rfl ty3 rfl ?_
  refine o_fad st rfl rfl fld25_2 rfl ?_
  refine stw (o_stc (cs' := [(.int .i64 a_0.xSize), (.int .i64 a_0.xEvery), (.int .i64 a_0.xTokens), (.int .i64 0)]) 0 rfl rfl rfl ty3 rfl rfl rfl rfl ?_)
  refine c_nil ?_
  refine l_then ?_
  refine c_seq ?_
  refine c_region ?_
  refine o_fad st rfl rfl fld23_3 rfl ?_
  refine o_ldc st (v := (.int .i64 a_0.xLast)) 2 rfl rfl rfl ty3 rfl ?_
  refine o_fad st rfl rfl fld25_3 rfl ?_
  refine stw (o_stc (cs' := [(.int .i64 a_0.xSize), (.int .i64 a_0.xEvery), (.int .i64 a_0.xTokens), (.int .i64 a_0.xLast)]) 0 rfl rfl rfl ty3 rfl rfl rfl rfl ?_)
  refine c_nil ?_
  refine l_then ?_
  refine c_seq ?_
  refine c_region ?_
  refine o_ldc st (v := (.agg #[(.int .i64 a_0.xSize), (.int .i64 a_0.xEvery), (.int .i64 a_0.xTokens), (.int .i64 a_0.xLast)])) 0 rfl rfl rfl ty25 rfl ?_
  refine stw (o_stc (cs' := [(.int .i64 a_0.xSize), (.int .i64 a_0.xEvery), (.int .i64 a_0.xTokens), (.int .i64 a_0.xLast)]) 1 rfl rfl rfl ty25 rfl rfl rfl rfl ?_)
  refine c_nil ?_
  refine l_then ?_
  refine c_ret ?_
  exact l_end1 Try.results15 a_0 () (rv_c 1 rfl rfl ty25 rfl) (fun _ _ => NewCh.nil _ _ _ _)

set_option maxRecDepth 100000 in
set_option maxHeartbeats 8000000 in
theorem w_impl_timeValid {w0 : World} {F : Nat → Prop} {now_0 : Int} {κ : Bool → Prop} (h : L_impl_timeValid now_0 κ) :
    Calls Try.prog 39 #[(.int .i64 now_0)] w0 (Ret [] F w0 κ (fun (r : Bool) (u : Unit) => (.bool r)) (fun (r : Bool) (u : Unit) => [])) := by
  refine enter (args := [(.int .i64 now_0)]) [] Try.func39 rfl Try.ntmps39 rfl [] hf_nil hh_nil (Given.nil w0).lt (Given.nil w0).disj (Given.nil w0).hold h ?_
  clear h
  refine c_seq ?_
  refine c_region ?_
  refine o_as st rfl rfl ?_
  refine c_nil ?_
  refine l_then ?_
  refine c_join (σ := Bool) (fun (t1 : Bool) (a : Act) (w : World) => Has 9 [(2, (.bool t1))] a ∧ Mem (fun _ => True) (feet []) w0 [] w) ?_ ?_
  · intro k2
    refine c_region ?_
    refine o_mv st rfl rfl ?_
    refine o_geq st rfl rfl rfl ?_
    refine o_mv st rfl rfl ?_
    refine st_sp (dj := 5) rfl ?_ ?_
    · refine o_mv (st_g rfl rfl) rfl rfl ?_
      refine o_leq (st_g rfl rfl) rfl rfl rfl ?_
      refine o_pickT st rfl rfl rfl ?_
      refine o_as st rfl rfl ?_
      refine c_nil ?_
      exact l_join (decide (now_0 ≤ 1000000)) (fun a w hE hm => ⟨hE.sub ⟨rfl, trivial⟩, (hm.pick [] rfl)⟩)
    · refine st_s rfl rfl rfl rfl ?_
      refine st_s rfl rfl rfl rfl ?_
      refine o_pickF st rfl rfl rfl ?_
      refine o_as st rfl rfl ?_
      refine c_nil ?_
      exact l_join false (fun a w hE hm => ⟨hE.sub ⟨rfl, trivial⟩, (hm.pick [] rfl)⟩)
  · rintro t1 a w ⟨hE, hm⟩ h
    refine nx_of hE hm h ?_
    clear hE hm h
    refine c_ret ?_
    exact l_end1 Try.results39 t1 () (rv_t rfl) (fun _ _ => NewCh.nil _ _ _ _)

set_option maxRecDepth 100000 in
set_option maxHeartbeats 8000000 in
theorem w_impl_BucketValid {w0 : World} {F : Nat → Prop} {b_0 : GBucket} {κ : Bool → Prop} (h : L_impl_BucketValid b_0 κ) :
    Calls Try.prog 16 #[(.agg #[(.int .i64 b_0.xSize), (.int .i64 b_0.xEvery), (.int .i64 b_0.xTokens), (.int .i64 b_0.xLast)])] w0 (Ret [] F w0 κ (fun (r : Bool) (u : Unit) => (.bool r)) (fun (r : Bool) (u : Unit) => [])) := by
  refine enter (args := [(.agg #[(.int .i64 b_0.xSize), (.int .i64 b_0.xEvery), (.int .i64 b_0.xTokens), (.int .i64 b_0.xLast)])]) [] Try.func16 rfl Try.ntmps16 rfl [] hf_nil hh_nil (Given.nil w0).lt (Given.nil w0).disj (Given.nil w0).hold h ?_
  clear h
  refine c_seq ?_
  refine c_region ?_
  refine stw (o_box rfl rfl [(.int .i64 b_0.xSize), (.int .i64 b_0.xEvery), (.int .i64 b_0.xTokens), (.int .i64 b_0.xLast)] rfl ?_); intro b1
  refine o_as st rfl rfl ?_
  refine c_nil ?_
  refine l_then ?_
  refine c_join (σ := Bool) (fun (t3 : Bool) (a : Act) (w : World) => Has 38 [(2, (.bool t3))] a ∧ Mem (fun _ => True) (feet []) w0 [] w) ?_ ?_
  · intro k4
    refine c_region ?_
    refine o_fad st rfl rfl fld25_0 rfl ?_
    refine o_ldc st (v := (.int .i64 b_0.xSize)) 0 rfl rfl rfl ty3 rfl ?_
    refine o_geq st rfl rfl rfl ?_
    refine o_mv st rfl rfl ?_
    refine st_sp (dj := 6) rfl ?_ ?_
    · refine o_fad (st_g rfl rfl) rfl rfl fld25_0 rfl ?_
      refine o_ldc (st_g rfl rfl) (v := (.int .i64 b_0.xSize)) 0 rfl rfl rfl ty3 rfl ?_
      refine o_leq (st_g rfl rfl) rfl rfl rfl ?_
      refine o_pickT st rfl rfl rfl ?_
      refine o_mv st rfl rfl ?_
      refine st_sp (dj := 11) rfl ?_ ?_
      · refine o_fad (st_g rfl rfl) rfl rfl fld25_1 rfl ?_
        refine o_ldc (st_g rfl rfl) (v := (.int .i64 b_0.xEvery)) 0 rfl rfl rfl ty3 rfl ?_
        refine o_geq (st_g rfl rfl) rfl rfl rfl ?_
        refine o_pickT st rfl rfl rfl ?_
        refine o_mv st rfl rfl ?_
        refine st_sp (dj := 16) rfl ?_ ?_
        · refine o_fad (st_g rfl rfl) rfl rfl fld25_1 rfl ?_
          refine o_ldc (st_g rfl rfl) (v := (.int .i64 b_0.xEvery)) 0 rfl rfl rfl ty3 rfl ?_
          refine o_leq (st_g rfl rfl) rfl rfl rfl ?_
          refine o_pickT st rfl rfl rfl ?_
          refine o_mv st rfl rfl ?_
          refine st_sp (dj := 21) rfl ?_ ?_
          · refine o_fad (st_g rfl rfl) rfl rfl fld25_2 rfl ?_
            refine o_ldc (st_g rfl rfl) (v := (.int .i64 b_0.xTokens)) 0 rfl rfl rfl ty3 rfl ?_
            refine o_geq (st_g rfl rfl) rfl rfl rfl ?_
            refine o_pickT st rfl rfl rfl ?_
            refine o_mv st rfl rfl ?_
            refine st_sp (dj := 26) rfl ?_ ?_
            · refine o_fad (st_g rfl rfl) rfl rfl fld25_2 rfl ?_
              refine o_ldc (st_g rfl rfl) (v := (.int .i64 b_0.xTokens)) 0 rfl rfl rfl ty3 rfl ?_
              refine o_fad (st_g rfl rfl) rfl rfl fld25_0 rfl ?_
              refine o_ldc (st_g rfl rfl) (v := (.int .i64 b_0.xSize)) 0 rfl rfl rfl ty3 rfl ?_
              refine o_leq (st_g rfl rfl) rfl rfl rfl ?_
              refine o_pickT st rfl rfl rfl ?_
              refine o_mv st rfl rfl ?_
              refine st_sp (dj := 33) rfl ?_ ?_
              · refine o_fad (st_g rfl rfl) rfl rfl fld25_3 rfl ?_
                refine o_ldc (st_g rfl rfl) (v := (.int .i64 b_0.xLast)) 0 rfl rfl rfl ty3 rfl ?_
                refine st_gw rfl rfl (o_callP (vs := [(.int .i64 b_0.xLast)]) Try.call39 rfl rfl (by intro w m h; exact w_impl_timeValid (now_0 := b_0.xLast) h) ?_); rintro r5 _
                refine o_pickT st rfl rfl rfl ?_
                refine o_as st rfl rfl ?_
                refine c_nil ?_
                exact l_join r5 (fun a w hE hm => ⟨hE.sub ⟨rfl, trivial⟩, (hm.pick [] rfl)⟩)
              · refine st_s rfl rfl rfl rfl ?_
                refine st_s rfl rfl rfl rfl ?_
                refine st_s rfl rfl rfl rfl ?_
                refine o_pickF st rfl rfl rfl ?_
                refine o_as st rfl rfl ?_
                refine c_nil ?_
                exact l_join false (fun a w hE hm => ⟨hE.sub ⟨rfl, trivial⟩, (hm.pick [] rfl)⟩)
            · refine st_s rfl rfl rfl rfl ?_
              refine st_s rfl rfl rfl rfl ?_
              refine st_s rfl rfl rfl rfl ?_
              refine st_s rfl rfl rfl rfl ?_
              refine st_s rfl rfl rfl rfl ?_
              refine o_pickF st rfl rfl rfl ?_
              refine o_mv st rfl rfl ?_
              refine st_s rfl rfl rfl rfl ?_
              refine st_s rfl rfl rfl rfl ?_
              refine st_s rfl rfl rfl rfl ?_
              refine o_pickF st rfl rfl rfl ?_
              refine o_as st rfl rfl ?_
              refine c_nil ?_
              exact l_join false (fun a w hE hm => ⟨hE.sub ⟨rfl, trivial⟩, (hm.pick [] rfl)⟩)
          · refine st_s rfl rfl rfl rfl ?_
            refine st_s rfl rfl rfl rfl ?_
            refine st_s rfl rfl rfl rfl ?_
            refine o_pickF st rfl rfl rfl ?_
            refine o_mv st rfl rfl ?_
            refine st_s rfl rfl rfl rfl ?_
            refine st_s rfl rfl rfl rfl ?_
            refine st_s rfl rfl rfl rfl ?_
            refine st_s rfl rfl rfl rfl ?_
            refine st_s rfl rfl rfl rfl ?_
            refine o_pickF st rfl rfl rfl ?_
            refine o_mv st rfl rfl ?_
            refine st_s rfl rfl rfl rfl ?_
            refine st_s rfl rfl rfl rfl ?_
            refine st_s rfl rfl rfl rfl ?_
            refine o_pickF st rfl rfl rfl ?_
            refine o_as st rfl rfl ?_
            refine c_nil ?_
            exact l_join false (fun a w hE hm => ⟨hE.sub ⟨rfl, trivial⟩, (hm.pick [] rfl)⟩)
        · refine st_s rfl rfl rfl rfl ?_
          refine st_s rfl rfl rfl rfl ?_
          refine st_s rfl rfl rfl rfl ?_
          refine o_pickF st rfl rfl rfl ?_
          refine o_mv st rfl rfl ?_
          refine st_s rfl rfl rfl rfl ?_
          refine st_s rfl rfl rfl rfl ?_
          refine st_s rfl rfl rfl rfl ?_
          refine o_pickF st rfl rfl rfl ?_
          refine o_mv st rfl rfl ?_
          refine st_s rfl rfl rfl rfl ?_
          refine st_s rfl rfl rfl rfl ?_
          refine st_s rfl rfl rfl rfl ?_
          refine st_s rfl rfl rfl rfl ?_
          refine st_s rfl rfl rfl rfl ?_
          refine o_pickF st rfl rfl rfl ?_
          refine o_mv st rfl rfl ?_
          refine st_s rfl rfl rfl rfl ?_
          refine st_s rfl rfl rfl rfl ?_
          refine st_s rfl rfl rfl rfl ?_
          refine o_pickF st rfl rfl rfl ?_
          refine o_as st rfl rfl ?_
          refine c_nil ?_
          exact l_join false (fun a w hE hm => ⟨hE.sub ⟨rfl, trivial⟩, (hm.pick [] rfl)⟩)
      · refine st_s rfl rfl rfl rfl ?_
        refine st_s rfl rfl rfl rfl ?_
        refine st_s rfl rfl rfl rfl ?_
        refine o_pickF st rfl rfl rfl ?_
        refine o_mv st rfl rfl ?_
        refine st_s rfl rfl rfl rfl ?_
        refine st_s rfl rfl rfl rfl ?_
        refine st_s rfl rfl rfl rfl ?_
        refine o_pickF st rfl rfl rfl ?_
        refine o_mv st rfl rfl ?_
        refine st_s rfl rfl rfl rfl ?_
        refine st_s rfl rfl rfl rfl ?_
        refine st_s rfl rfl rfl rfl ?_
        refine o_pickF st rfl rfl rfl ?_
        refine o_mv st rfl rfl ?_
        refine st_s rfl rfl rfl rfl ?_
        refine st_s rfl rfl rfl rfl ?_
        refine st_s rfl rfl rfl rfl ?_
        refine st_s rfl rfl rfl rfl ?_
        refine st_s rfl rfl rfl rfl ?_
        refine o_pickF st rfl rfl rfl ?_
        refine o_mv st rfl rfl ?_
        refine st_s rfl rfl rfl rfl ?_
        refine st_s rfl rfl rfl rfl ?_
        refine st_s rfl rfl rfl rfl ?_
        refine o_pickF st rfl rfl rfl ?_
        refine o_as st rfl rfl ?_
        refine c_nil ?_
        exact l_join false (fun a w hE hm => ⟨hE.sub ⟨rfl, trivial⟩, (hm.pick [] rfl)⟩)
    · refine st_s rfl rfl rfl rfl ?_
      refine st_s rfl rfl rfl rfl ?_
      refine st_s rfl rfl rfl rfl ?_
      refine o_pickF st rfl rfl rfl ?_
      refine o_mv st rfl rfl ?_
      refine st_s rfl rfl rfl rfl ?_
      refine st_s rfl rfl rfl rfl ?_
      refine st_s rfl rfl rfl rfl ?_
      refine o_pickF st rfl rfl rfl ?_
      refine o_mv st rfl rfl ?_
      refine st_s rfl rfl rfl rfl ?_
      refine st_s rfl rfl rfl rfl ?_
      refine st_s rfl rfl rfl rfl ?_
      refine o_pickF st rfl rfl rfl ?_
      refine o_mv st rfl rfl ?_
      refine st_s rfl rfl rfl rfl ?_
      refine st_s rfl rfl rfl rfl ?_
      refine st_s rfl rfl rfl rfl ?_
      refine o_pickF st rfl rfl rfl ?_
      refine o_mv st rfl rfl ?_
      refine st_s rfl rfl rfl rfl ?_
      refine st_s rfl rfl rfl rfl ?_
      refine st_s rfl rfl rfl rfl ?_
      refine st_s rfl rfl rfl rfl ?_
      refine st_s rfl rfl rfl rfl ?_
      refine o_pickF st rfl rfl rfl ?_
      refine o_mv st rfl rfl ?_
      refine st_s rfl rfl rfl rfl ?_
      refine st_s rfl rfl rfl rfl ?_
      refine st_s rfl rfl rfl rfl ?_
      refine o_pickF st rfl rfl rfl ?_
      refine o_as st rfl rfl ?_
      refine c_nil ?_
      exact l_join false (fun a w hE hm => ⟨hE.sub ⟨rfl, trivial⟩, (hm.pick [] rfl)⟩)
  · rintro t3 a w ⟨hE, hm⟩ h
    refine nx_of hE hm h ?_
    clear hE hm h
    refine c_ret ?_
    exact l_end1 Try.results16 t3 () (rv_t rfl) (fun _ _ => NewCh.nil _ _ _ _)

set_option maxRecDepth 100000 in
set_option maxHeartbeats 8000000 in
theorem w_impl_Bucket_fullAt {w0 : World} {F : Nat → Prop} {b_0 : GBucket} {κ : Int → Prop} (h : L_impl_Bucket_fullAt b_0 κ) :
    Calls Try.prog 49 #[(.agg #[(.int .i64 b_0.xSize), (.int .i64 b_0.xEvery), (.int .i64 b_0.xTokens), (.int .i64 b_0.xLast)])] w0 (Ret [] F w0 κ (fun (r : Int) (u : Unit) => (.int .i64 r)) (fun (r : Int) (u : Unit) => [])) := by
  refine enter (args := [(.agg #[(.int .i64 b_0.xSize), (.int .i64 b_0.xEvery), (.int .i64 b_0.xTokens), (.int .i64 b_0.xLast)])]) [] Try.func49 rfl Try.ntmps49 rfl [] hf_nil hh_nil (Given.nil w0).lt (Given.nil w0).disj (Given.nil w0).hold h ?_
  clear h
  refine c_seq ?_
  refine c_region ?_
  refine stw (o_box rfl rfl [(.int .i64 b_0.xSize), (.int .i64 b_0.xEvery), (.int .i64 b_0.xTokens), (.int .i64 b_0.xLast)] rfl ?_); intro b1
  refine o_as st rfl rfl ?_
  refine c_nil ?_
  refine l_then ?_
  refine c_seq ?_
  refine c_region ?_
  refine o_fad st rfl rfl fld25_3 rfl ?_
  refine o_ldc st (v := (.int .i64 b_0.xLast)) 0 rfl rfl rfl ty3 rfl ?_
  refine o_fad st rfl rfl fld25_0 rfl ?_
  refine o_ldc st (v := (.int .i64 b_0.xSize)) 0 rfl rfl rfl ty3 rfl ?_
  refine o_fad st rfl rfl fld25_2 rfl ?_
  refine o_ldc st (v := (.int .i64 b_0.xTokens)) 0 rfl rfl rfl ty3 rfl ?_
  refine o_sub st rfl rfl rfl ?_; intro t3
  refine o_fad st rfl rfl fld25_1 rfl ?_
  refine o_ldc st (v := (.int .i64 b_0.xEvery)) 0 rfl rfl rfl ty3 rfl ?_
  refine o_mul st rfl rfl rfl ?_; intro t4
  refine o_add st rfl rfl rfl ?_; intro t5
  refine o_as st rfl rfl ?_
  refine c_nil ?_
  refine l_then ?_
  refine c_ret ?_
  exact l_end1 Try.results49 t5 () (rv_t rfl) (fun _ _ => NewCh.nil _ _ _ _)

set_option maxRecDepth 100000 in
set_option maxHeartbeats 8000000 in
theorem w_impl_Bucket_at {w0 : World} {F : Nat → Prop} {b_0 : GBucket} {now_1 : Int} {κ : GBucket → Prop} (h : L_impl_Bucket_at b_0 now_1 κ) :
    Calls Try.prog 44 #[(.agg #[(.int .i64 b_0.xSize), (.int .i64 b_0.xEvery), (.int .i64 b_0.xTokens), (.int .i64 b_0.xLast)]), (.int .i64 now_1)] w0 (Ret [] F w0 κ (fun (r : GBucket) (u : Unit) => (.agg #[(.int .i64 r.xSize), (.int .i64 r.xEvery), (.int .i64 r.xTokens), (.int .i64 r.xLast)])) (fun (r : GBucket) (u : Unit) => [])) := by
  refine enter (args := [(.agg #[(.int .i64 b_0.xSize), (.int .i64 b_0.xEvery), (.int .i64 b_0.xTokens), (.int .i64 b_0.xLast)]), (.int .i64 now_1)]) [] Try.func44 rfl Try.ntmps44 rfl [] hf_nil hh_nil (Given.nil w0).lt (Given.nil w0).disj (Given.nil w0).hold h ?_
  clear h
  refine c_seq ?_
  refine c_region ?_
  refine stw (o_box rfl rfl [(.int .i64 b_0.xSize), (.int .i64 b_0.xEvery), (.int .i64 b_0.xTokens), (.int .i64 b_0.xLast)] rfl ?_); intro b1
  refine stw (o_alloc rfl [(.int .i64 0), (.int .i64 0), (.int .i64 0), (.int .i64 0)] zero25 ?_); intro b3
  refine c_nil ?_
  refine l_then ?_
  refine c_seq ?_
  refine c_seq ?_
  refine c_region ?_
  refine o_mv st rfl rfl ?_
  refine o_ldc st (v := (.agg #[(.int .i64 b_0.xSize), (.int .i64 b_0.xEvery), (.int .i64 b_0.xTokens), (.int .i64 b_0.xLast)])) 1 rfl rfl rfl ty25 rfl ?_
  refine stw (o_callP (vs := [(.agg #[(.int .i64 b_0.xSize), (.int .i64 b_0.xEvery), (.int .i64 b_0.xTokens), (.int .i64 b_0.xLast)])]) Try.call49 rfl rfl (by intro w m h; exact w_impl_Bucket_fullAt (b_0 := b_0) h) ?_); rintro r5 _
  refine o_geq st rfl rfl rfl ?_
  refine c_nil ?_
  refine l_then ?_
  refine c_cond rfl ?_ ?_
  · refine c_seq ?_
    refine c_region ?_
    refine o_fad st rfl rfl fld25_0 rfl ?_
    refine o_ldc st (v := (.int .i64 b_0.xSize)) 1 rfl rfl rfl ty3 rfl ?_
    refine o_fad st rfl rfl fld25_2 rfl ?_
    refine stw (o_stc (cs' := [(.int .i64 b_0.xSize), (.int .i64 b_0.xEvery), (.int .i64 b_0.xSize), (.int .i64 b_0.xLast)]) 1 rfl rfl rfl ty3 rfl rfl rfl rfl ?_)
    refine c_nil ?_
    refine l_then ?_
    refine c_seq ?_
    refine c_region ?_
    refine o_mv st rfl rfl ?_
    refine o_fad st rfl rfl fld25_3 rfl ?_
    refine stw (o_stc (cs' := [(.int .i64 b_0.xSize), (.int .i64 b_0.xEvery), (.int .i64 b_0.xSize), (.int .i64 now_1)]) 1 rfl rfl rfl ty3 rfl rfl rfl rfl ?_)
    refine c_nil ?_
    refine l_then ?_
    refine c_seq ?_
    refine c_region ?_
    refine o_ldc st (v := (.agg #[(.int .i64 b_0.xSize), (.int .i64 b_0.xEvery), (.int .i64 b_0.xSize), (.int .i64 now_1)])) 1 rfl rfl rfl ty25 rfl ?_
    refine stw (o_stc (cs' := [(.int .i64 b_0.xSize), (.int .i64 b_0.xEvery), (.int .i64 b_0.xSize), (.int .i64 now_1)]) 0 rfl rfl rfl ty25 rfl rfl rfl rfl ?_)
    refine c_nil ?_
    refine l_then ?_
    refine c_ret ?_
    refine l_ret ?_
    exact l_end1 Try.results44 (GBucket.mk b_0.xSize b_0.xEvery b_0.xSize now_1) () (rv_c 0 rfl rfl ty25 rfl) (fun _ _ => NewCh.nil _ _ _ _)
  · refine c_skip ?_
    refine l_then ?_
    refine c_seq ?_
    refine c_region ?_
    refine o_mv st rfl rfl ?_
    refine o_fad st rfl rfl fld25_3 rfl ?_
    refine o_ldc st (v := (.int .i64 b_0.xLast)) 1 rfl rfl rfl ty3 rfl ?_
    refine o_sub st rfl rfl rfl ?_; intro t6
    refine o_fad st rfl rfl fld25_1 rfl ?_
    refine o_ldc st (v := (.int .i64 b_0.xEvery)) 1 rfl rfl rfl ty3 rfl ?_
    refine o_quo st rfl rfl rfl ?_; intro t7
    refine o_as st rfl rfl ?_
    refine c_nil ?_
    refine l_then ?_
    refine c_seq ?_
    refine c_region ?_
    refine o_fad st rfl rfl fld25_2 rfl ?_
    refine o_ldc st (v := (.int .i64 b_0.xTokens)) 1 rfl rfl rfl ty3 rfl ?_
    refine o_mv st rfl rfl ?_
    refine o_add st rfl rfl rfl ?_; intro t8
    refine o_fad st rfl rfl fld25_2 rfl ?_
    refine stw (o_stc (cs' := [(.int .i64 b_0.xSize), (.int .i64 b_0.xEvery), (.int .i64 t8), (.int .i64 b_0.xLast)]) 1 rfl rfl rfl ty3 rfl rfl rfl rfl ?_)
    refine c_nil ?_
    refine l_then ?_
    refine c_seq ?_
    refine c_region ?_
    refine o_fad st rfl rfl fld25_3 rfl ?_
    refine o_ldc st (v := (.int .i64 b_0.xLast)) 1 rfl rfl rfl ty3 rfl ?_
    refine o_mv st rfl rfl ?_
    refine o_fad st rfl rfl fld25_1 rfl ?_
    refine o_ldc st (v := (.int .i64 b_0.xEvery)) 1 rfl rfl rfl ty3 rfl ?_
    refine o_mul st rfl rfl rfl ?_; intro t9
    refine o_add st rfl rfl rfl ?_; intro t10
    refine o_fad st rfl rfl fld25_3 rfl ?_
    refine stw (o_stc (cs' := [(.int .i64 b_0.xSize), (.int .i64 b_0.xEvery), (.int .i64 t8), (.int .i64 t10)]) 1 rfl rfl rfl ty3 rfl rfl rfl rfl ?_)
    refine c_nil ?_
    refine l_then ?_
    refine c_seq ?_
    refine c_region ?_
    refine o_ldc st (v := (.agg #[(.int .i64 b_0.xSize), (.int .i64 b_0.xEvery), (.int .i64 t8), (.int .i64 t10)])) 1 rfl rfl rfl ty25 rfl ?_
    refine stw (o_stc (cs' := [(.int .i64 b_0.xSize), (.int .i64 b_0.xEvery), (.int .i64 t8), (.int .i64 t10)]) 0 rfl rfl rfl ty25 rfl rfl rfl rfl ?_)
    refine c_nil ?_
    refine l_then ?_
    refine c_ret ?_
    exact l_end1 Try.results44 (GBucket.mk b_0.xSize b_0.xEvery t8 t10) () (rv_c 0 rfl rfl ty25 rfl) (fun _ _ => NewCh.nil _ _ _ _)

set_option maxRecDepth 100000 in
set_option maxHeartbeats 8000000 in
theorem w_impl_Bucket_take {w0 : World} {F : Nat → Prop} {b_0 : GBucket} {now_1 : Int} {κ : (GBucket × Bool) → Prop} (h : L_impl_Bucket_take b_0 now_1 κ) :
    Calls Try.prog 45 #[(.agg #[(.int .i64 b_0.xSize), (.int .i64 b_0.xEvery), (.int .i64 b_0.xTokens), (.int .i64 b_0.xLast)]), (.int .i64 now_1)] w0 (Ret [] F w0 κ (fun (r : (GBucket × Bool)) (u : Unit) => .tuple #[(.agg #[(.int .i64 r.1.xSize), (.int .i64 r.1.xEvery), (.int .i64 r.1.xTokens), (.int .i64 r.1.xLast)]), (.bool r.2)]) (fun (r : (GBucket × Bool)) (u : Unit) => [])) := by
  refine enter (args := [(.agg #[(.int .i64 b_0.xSize), (.int .i64 b_0.xEvery), (.int .i64 b_0.xTokens), (.int .i64 b_0.xLast)]), (.int .i64 now_1)]) [] Try.func45 rfl Try.ntmps45 rfl [] hf_nil hh_nil (Given.nil w0).lt (Given.nil w0).disj (Given.nil w0).hold h ?_
  clear h
  refine c_seq ?_
  refine c_region ?_
  refine stw (o_box rfl rfl [(.int .i64 b_0.xSize), (.int .i64 b_0.xEvery), (.int .i64 b_0.xTokens), (.int .i64 b_0.xLast)] rfl ?_); intro b1
  refine stw (o_alloc rfl [(.int .i64 0), (.int .i64 0), (.int .i64 0), (.int .i64 0)] zero25 ?_); intro b3
  refine o_as st rfl rfl ?_
  refine c_nil ?_
  refine l_then ?_
  refine c_seq ?_
  refine c_region ?_
  refine o_ldc st (v := (.agg #[(.int .i64 b_0.xSize), (.int .i64 b_0.xEvery), (.int .i64 b_0.xTokens), (.int .i64 b_0.xLast)])) 1 rfl rfl rfl ty25 rfl ?_
  refine o_mv st rfl rfl ?_
  refine stw (o_callP (vs := [(.agg #[(.int .i64 b_0.xSize), (.int .i64 b_0.xEvery), (.int .i64 b_0.xTokens), (.int .i64 b_0.xLast)]), (.int .i64 now_1)]) Try.call44 rfl rfl (by intro w m h; exact w_impl_Bucket_at (b_0 := b_0) (now_1 := now_1) h) ?_); rintro r5 _
  refine stw (o_stc (cs' := [(.int .i64 r5.xSize), (.int .i64 r5.xEvery), (.int .i64 r5.xTokens), (.int .i64 r5.xLast)]) 1 rfl rfl rfl ty25 rfl rfl rfl rfl ?_)
  refine c_nil ?_
  refine l_then ?_
  refine c_seq ?_
  refine c_seq ?_
  refine c_region ?_
  refine o_fad st rfl rfl fld25_2 rfl ?_
  refine o_ldc st (v := (.int .i64 r5.xTokens)) 1 rfl rfl rfl ty3 rfl ?_
  refine o_eql st und3 rfl rfl rfl ?_
  refine c_nil ?_
  refine l_then ?_
  refine c_cond rfl ?_ ?_
  · refine c_seq ?_
    refine c_region ?_
    refine o_ldc st (v := (.agg #[(.int .i64 r5.xSize), (.int .i64 r5.xEvery), (.int .i64 r5.xTokens), (.int .i64 r5.xLast)])) 1 rfl rfl rfl ty25 rfl ?_
    refine stw (o_stc (cs' := [(.int .i64 r5.xSize), (.int .i64 r5.xEvery), (.int .i64 r5.xTokens), (.int .i64 r5.xLast)]) 0 rfl rfl rfl ty25 rfl rfl rfl rfl ?_)
    refine o_as st rfl rfl ?_
    refine c_nil ?_
    refine l_then ?_
    refine c_ret ?_
    refine l_ret ?_
    exact l_end2 Try.results45 (r5, false) () (rv_c 0 rfl rfl ty25 rfl) (rv_t rfl) rfl (fun _ _ => NewCh.nil _ _ _ _)
  · refine c_skip ?_
    refine l_then ?_
    refine c_seq ?_
    refine c_region ?_
    refine o_fad st rfl rfl fld25_2 rfl ?_
    refine o_ldc st (v := (.int .i64 r5.xTokens)) 1 rfl rfl rfl ty3 rfl ?_
    refine o_sub st rfl rfl rfl ?_; intro t6
    refine o_fad st rfl rfl fld25_2 rfl ?_
    refine stw (o_stc (cs' := [(.int .i64 r5.xSize), (.int .i64 r5.xEvery), (.int .i64 t6), (.int .i64 r5.xLast)]) 1 rfl rfl rfl ty3 rfl rfl rfl rfl ?_)
    refine c_nil ?_
    refine l_then ?_
    refine c_seq ?_
    refine c_region ?_
    refine o_ldc st (v := (.agg #[(.int .i64 r5.xSize), (.int .i64 r5.xEvery), (.int .i64 t6), (.int .i64 r5.xLast)])) 1 rfl rfl rfl ty25 rfl ?_
    refine stw (o_stc (cs' := [(.int .i64 r5.xSize), (.int .i64 r5.xEvery), (.int .i64 t6), (.int .i64 r5.xLast)]) 0 rfl rfl rfl ty25 rfl rfl rfl rfl ?_)
    refine o_as st rfl rfl ?_
    refine c_nil ?_
    refine l_then ?_
    refine c_ret ?_
    exact l_end2 Try.results45 ((GBucket.mk r5.xSize r5.xEvery t6 r5.xLast), true) () (rv_c 0 rfl rfl ty25 rfl) (rv_t rfl) rfl (fun _ _ => NewCh.nil _ _ _ _)

set_option maxRecDepth 100000 in
set_option maxHeartbeats 8000000 in
theorem w_impl_TakeMany {w0 : World} {F : Nat → Prop} {v1 : Value} {b_0 : GBucket} {times_1 : (List Int)} {κ : (List Bool) → Prop} (hv1 : Sl elInt (fun b => b < w0.heap.size ∧ ¬ feet [] b) w0 v1 times_1) (h : L_impl_TakeMany b_0 times_1 κ) :
    Calls Try.prog 28 #[(.agg #[(.int .i64 b_0.xSize), (.int .i64 b_0.xEvery), (.int .i64 b_0.xTokens), (.int .i64 b_0.xLast)]), v1] w0 (Ret [] F w0 κ (fun (r : (List Bool)) (u : Value) => u) (fun (r : (List Bool)) (u : Value) => [ownCh elBool 4 u (r)])) := by
  refine enter (args := [(.agg #[(.int .i64 b_0.xSize), (.int .i64 b_0.xEvery), (.int .i64 b_0.xTokens), (.int .i64 b_0.xLast)]), v1]) [] Try.func28 rfl Try.ntmps28 rfl [roCh elInt v1 times_1] (hf_cons hf_nil) (hh_cons hv1 hh_nil) (Given.nil w0).lt (Given.nil w0).disj (Given.nil w0).hold h ?_
  clear h hv1
  refine c_seq ?_
  refine c_region ?_
  refine stw (o_box rfl rfl [(.int .i64 b_0.xSize), (.int .i64 b_0.xEvery), (.int .i64 b_0.xTokens), (.int .i64 b_0.xLast)] rfl ?_); intro b3
  refine stw (o_asn elBool 4 rfl rfl ?_)
  refine c_nil ?_
  refine l_then ?_
  refine c_seq ?_
  refine c_join (σ := Bool) (fun (t6 : Bool) (a : Act) (w : World) => Has 57 [(1, v1), (2, (.pointer (some ⟨b3, 0, none⟩))), (18, (.bool t6))] a ∧ Mem (fun _ => True) (feet []) w0 [cellCh b3 [(.int .i64 b_0.xSize), (.int .i64 b_0.xEvery), (.int .i64 b_0.xTokens), (.int .i64 b_0.xLast)] 25, roCh elInt v1 times_1] w) ?_ ?_
  · intro k7
    refine c_region ?_
    refine o_ldc st (v := (.agg #[(.int .i64 b_0.xSize), (.int .i64 b_0.xEvery), (.int .i64 b_0.xTokens), (.int .i64 b_0.xLast)])) 1 rfl rfl rfl ty25 rfl ?_
    refine stw (o_callP (vs := [(.agg #[(.int .i64 b_0.xSize), (.int .i64 b_0.xEvery), (.int .i64 b_0.xTokens), (.int .i64 b_0.xLast)])]) Try.call16 rfl rfl (by intro w m h; exact w_impl_BucketValid (b_0 := b_0) h) ?_); rintro r8 _
    refine o_not st rfl rfl ?_
    refine o_mv st rfl rfl ?_
    refine st_sp (dj := 14) rfl ?_ ?_
    · refine st_s rfl rfl rfl rfl ?_
      refine st_s rfl rfl rfl rfl ?_
      refine st_s rfl rfl rfl rfl ?_
      refine o_pickT st rfl rfl rfl ?_
      refine c_nil ?_
      exact l_join true (fun a w hE hm => ⟨hE.sub ⟨rfl, rfl, rfl, trivial⟩, (hm.pick [1, 2] rfl)⟩)
    · refine o_mv (st_g rfl rfl) rfl rfl ?_
      refine o_len (st_g rfl rfl) el41 2 rfl reads_ro rfl rfl ?_
      refine o_gtr (st_g rfl rfl) rfl rfl rfl ?_
      refine o_pickF st rfl rfl rfl ?_
      refine c_nil ?_
      exact l_join (decide (50 < (times_1.length : Int))) (fun a w hE hm => ⟨hE.sub ⟨rfl, rfl, rfl, trivial⟩, (hm.pick [1, 2] rfl)⟩)
  · rintro t6 a w ⟨hE, hm⟩ h
    refine nx_of hE hm h ?_
    clear hE hm h
    refine c_cond rfl ?_ ?_
    · refine c_seq ?_
      refine c_region ?_
      refine stw (o_asn elBool 4 rfl rfl ?_)
      refine c_nil ?_
      refine l_then ?_
      refine c_ret ?_
      refine l_ret ?_
      exact l_end1 Try.results28 ([]) (.slice none 0 0) (rv_t rfl) (fun w m => NewCh.of m [0] rfl (fr_cons (free_own flelBool) fr_nil))
    · refine c_skip ?_
      refine l_then ?_
      refine c_seq ?_
      refine c_region ?_
      refine o_fad st rfl rfl fld25_3 rfl ?_
      refine o_ldc st (v := (.int .i64 b_0.xLast)) 0 rfl rfl rfl ty3 rfl ?_
      refine o_as st rfl rfl ?_
      refine c_nil ?_
      refine l_then ?_
      refine c_seq ?_
      refine c_seq ?_
      refine c_region ?_
      refine o_mv st rfl rfl ?_
      refine o_len st el41 1 rfl reads_ro rfl rfl ?_
      refine o_mv st rfl rfl ?_
      refine c_nil ?_
      refine l_then ?_
      refine c_block ?_
      refine c_loop (σ := (Int × Int)) (fun ((t10, t11) : (Int × Int)) (a : Act) (w : World) => Has 57 [(1, v1), (2, (.pointer (some ⟨b3, 0, none⟩))), (5, (.int .i64 t10)), (21, v1), (22, (.int .i64 (times_1.length : Int))), (23, (.int .i64 t11))] a ∧ Mem (fun _ => True) (feet []) w0 [cellCh b3 [(.int .i64 b_0.xSize), (.int .i64 b_0.xEvery), (.int .i64 b_0.xTokens), (.int .i64 b_0.xLast)] 25, roCh elInt v1 times_1] w) (fun a w hE hm => ⟨hE.sub ⟨rfl, rfl, rfl, rfl, rfl, rfl, trivial⟩, (hm.pick [0, 1] rfl)⟩) ?_
      rintro nx12 ⟨t10, t11⟩ a w ⟨hE, hm⟩ h
      refine nx_of hE hm h ?_
      clear hE hm h
      refine c_seq ?_
      refine c_region ?_
      refine o_lss st rfl rfl rfl ?_
      refine c_nil ?_
      refine l_then ?_
      refine c_seq ?_
      refine c_cond rfl ?_ ?_
      · refine c_skip ?_
        refine l_then ?_
        refine c_seq ?_
        refine c_block ?_
        refine c_seq ?_
        refine c_region ?_
        refine o_idx st 1 rfl reads_ro rfl rfl rfl el41 ?_; intro e13 h14
        refine o_lds st (enc := encInt) (u := (.int .i64 e13)) 1 rfl reads_ro flelInt rfl h14 rfl rfl ty3 rfl ?_
        refine o_as st rfl rfl ?_
        refine c_nil ?_
        refine l_then ?_
        refine c_seq ?_
        refine c_join (σ := Bool) (fun (t15 : Bool) (a : Act) (w : World) => Has 57 [(1, v1), (2, (.pointer (some ⟨b3, 0, none⟩))), (21, v1), (22, (.int .i64 (times_1.length : Int))), (23, (.int .i64 t11)), (7, (.int .i64 e13)), (33, (.bool t15))] a ∧ Mem (fun _ => True) (feet []) w0 [cellCh b3 [(.int .i64 b_0.xSize), (.int .i64 b_0.xEvery), (.int .i64 b_0.xTokens), (.int .i64 b_0.xLast)] 25, roCh elInt v1 times_1] w) ?_ ?_
        · intro k16
          refine c_region ?_
          refine o_mv st rfl rfl ?_
          refine o_mv st rfl rfl ?_
          refine o_lss st rfl rfl rfl ?_
          refine o_mv st rfl rfl ?_
          refine st_sp (dj := 30) rfl ?_ ?_
          · refine st_s rfl rfl rfl rfl ?_
            refine st_s rfl rfl rfl rfl ?_
            refine o_pickT st rfl rfl rfl ?_
            refine c_nil ?_
            exact l_join true (fun a w hE hm => ⟨hE.sub ⟨rfl, rfl, rfl, rfl, rfl, rfl, rfl, trivial⟩, (hm.pick [0, 1] rfl)⟩)
          · refine o_mv (st_g rfl rfl) rfl rfl ?_
            refine o_gtr (st_g rfl rfl) rfl rfl rfl ?_
            refine o_pickF st rfl rfl rfl ?_
            refine c_nil ?_
            exact l_join (decide (1000000 < e13)) (fun a w hE hm => ⟨hE.sub ⟨rfl, rfl, rfl, rfl, rfl, rfl, rfl, trivial⟩, (hm.pick [0, 1] rfl)⟩)
        · rintro t15 a w ⟨hE, hm⟩ h
          refine nx_of hE hm h ?_
          clear hE hm h
          refine c_cond rfl ?_ ?_
          · refine c_seq ?_
            refine c_region ?_
            refine stw (o_asn elBool 4 rfl rfl ?_)
            refine c_nil ?_
            refine l_then ?_
            refine c_ret ?_
            refine l_ret ?_
            refine b_ret ?_
            refine l_ret ?_
            refine l_ret ?_
            refine b_ret ?_
            refine l_ret ?_
            exact l_end1 Try.results28 ([]) (.slice none 0 0) (rv_t rfl) (fun w m => NewCh.of m [0] rfl (fr_cons (free_own flelBool) fr_nil))
          · refine c_skip ?_
            refine l_then ?_
            refine c_region ?_
            refine o_mv st rfl rfl ?_
            refine o_as st rfl rfl ?_
            refine c_nil ?_
            refine b_norm ?_
            refine l_then ?_
            refine c_region ?_
            refine o_add st rfl rfl rfl ?_; intro t18
            refine o_mv st rfl rfl ?_
            refine c_nil ?_
            exact l_join (e13, t18) (fun a w hE hm => ⟨hE.sub ⟨rfl, rfl, rfl, rfl, rfl, rfl, trivial⟩, (hm.pick [0, 1] rfl)⟩)
      · refine c_exit ?_
        refine l_exit ?_
        refine l_exit ?_
        refine b_exit ?_
        refine l_then ?_
        refine c_seq ?_
        refine c_region ?_
        refine o_mv st rfl rfl ?_
        refine o_len st el41 1 rfl reads_ro rfl rfl ?_
        refine stw (o_make (z := false) flelBool rfl rfl rfl el44 rfl zero4 rfl rfl ?_); intro v19 xs20
        refine o_as st rfl rfl ?_
        refine c_nil ?_
        refine l_then ?_
        refine c_seq ?_
        refine c_seq ?_
        refine c_region ?_
        refine o_mv st rfl rfl ?_
        refine o_len st el41 2 rfl reads_ro rfl rfl ?_
        refine o_mv st rfl rfl ?_
        refine c_nil ?_
        refine l_then ?_
        refine c_block ?_
        refine c_loop (σ := ((List Bool) × Int × Int × Int × Int × Int)) (fun ((xs22, t24, t25, t26, t27, t28) : ((List Bool) × Int × Int × Int × Int × Int)) (a : Act) (w : World) => Has 57 [(2, (.pointer (some ⟨b3, 0, none⟩))), (8, v19), (39, v1), (40, (.int .i64 (times_1.length : Int))), (41, (.int .i64 t28))] a ∧ Mem (fun _ => True) (feet []) w0 [ownCh elBool 4 v19 xs22, cellCh b3 [(.int .i64 t24), (.int .i64 t25), (.int .i64 t26), (.int .i64 t27)] 25, roCh elInt v1 times_1] w) (fun a w hE hm => ⟨hE.sub ⟨rfl, rfl, rfl, rfl, rfl, trivial⟩, (hm.pick [0, 1, 2] rfl)⟩) ?_
        rintro nx29 ⟨xs22, t24, t25, t26, t27, t28⟩ a w ⟨hE, hm⟩ h
        refine nx_of hE hm h ?_
        clear hE hm h
        refine c_seq ?_
        refine c_region ?_
        refine o_lss st rfl rfl rfl ?_
        refine c_nil ?_
        refine l_then ?_
        refine c_seq ?_
        refine c_cond rfl ?_ ?_
        · refine c_skip ?_
          refine l_then ?_
          refine c_seq ?_
          refine c_block ?_
          refine c_seq ?_
          refine c_region ?_
          refine o_mv st rfl rfl ?_
          refine o_idx st 2 rfl reads_ro rfl rfl rfl el41 ?_; intro e30 h31
          refine o_lds st (enc := encInt) (u := (.int .i64 e30)) 2 rfl reads_ro flelInt rfl h31 rfl rfl ty3 rfl ?_
          refine o_as st rfl rfl ?_
          refine o_as st rfl rfl ?_
          refine c_nil ?_
          refine l_then ?_
          refine c_region ?_
          refine o_mv st rfl rfl ?_
          refine o_mv st rfl rfl ?_
          refine o_ldc st (v := (.agg #[(.int .i64 t24), (.int .i64 t25), (.int .i64 t26), (.int .i64 t27)])) 1 rfl rfl rfl ty25 rfl ?_
          refine o_mv st rfl rfl ?_
          refine stw (o_callP (vs := [(.agg #[(.int .i64 t24), (.int .i64 t25), (.int .i64 t26), (.int .i64 t27)]), (.int .i64 e30)]) Try.call45 rfl rfl (by intro w m h; exact w_impl_Bucket_take (b_0 := (GBucket.mk t24 t25 t26 t27)) (now_1 := e30) h) ?_); rintro ⟨r32, r33⟩ _
          refine o_mv st rfl rfl ?_
          refine o_ext st (vs := [(.agg #[(.int .i64 r32.xSize), (.int .i64 r32.xEvery), (.int .i64 r32.xTokens), (.int .i64 r32.xLast)]), (.bool r33)]) rfl rfl rfl ?_
          refine o_ext st (vs := [(.agg #[(.int .i64 r32.xSize), (.int .i64 r32.xEvery), (.int .i64 r32.xTokens), (.int .i64 r32.xLast)]), (.bool r33)]) rfl rfl rfl ?_
          refine stw (o_stc (cs' := [(.int .i64 r32.xSize), (.int .i64 r32.xEvery), (.int .i64 r32.xTokens), (.int .i64 r32.xLast)]) 1 rfl rfl rfl ty25 rfl rfl rfl rfl ?_)
          refine o_idx st 0 rfl reads_own rfl rfl rfl el44 ?_; intro e34 h35
          refine stw (o_sts (enc := encBool) (y' := r33) 0 rfl flelBool rfl h35 ty4 rfl rfl rfl rfl rfl rfl ?_)
          refine c_nil ?_
          refine b_norm ?_
          refine l_then ?_
          refine c_region ?_
          refine o_add st rfl rfl rfl ?_; intro t37
          refine o_mv st rfl rfl ?_
          refine c_nil ?_
          exact l_join ((xs22.set t28.toNat r33), r32.xSize, r32.xEvery, r32.xTokens, r32.xLast, t37) (fun a w hE hm => ⟨hE.sub ⟨rfl, rfl, rfl, rfl, rfl, trivial⟩, (hm.pick [0, 1, 2] rfl)⟩)
        · refine c_exit ?_
          refine l_exit ?_
          refine l_exit ?_
          refine b_exit ?_
          refine l_then ?_
          refine c_seq ?_
          refine c_region ?_
          refine o_mv st rfl rfl ?_
          refine o_as st rfl rfl ?_
          refine c_nil ?_
          refine l_then ?_
          refine c_ret ?_
          exact l_end1 Try.results28 xs22 v19 (rv_t rfl) (fun w m => NewCh.of m [0] rfl (fr_cons (free_own flelBool) fr_nil))

set_option maxRecDepth 100000 in
set_option maxHeartbeats 8000000 in
theorem w_spec_l1In {w0 : World} {F : Nat → Prop} {n_0 : Int} {lo_1 : Int} {hi_2 : Int} {κ : Bool → Prop} (h : L_spec_l1In n_0 lo_1 hi_2 κ) :
    Calls Try.prog 38 #[(.int .i64 n_0), (.int .i64 lo_1), (.int .i64 hi_2)] w0 (Ret [] F w0 κ (fun (r : Bool) (u : Unit) => (.bool r)) (fun (r : Bool) (u : Unit) => [])) := by
  refine enter (args := [(.int .i64 n_0), (.int .i64 lo_1), (.int .i64 hi_2)]) [] Try.func38 rfl Try.ntmps38 rfl [] hf_nil hh_nil (Given.nil w0).lt (Given.nil w0).disj (Given.nil w0).hold h ?_
  clear h
  refine c_seq ?_
  refine c_region ?_
  refine o_as st rfl rfl ?_
  refine c_nil ?_
  refine l_then ?_
  refine c_join (σ := Bool) (fun (t1 : Bool) (a : Act) (w : World) => Has 15 [(6, (.bool t1))] a ∧ Mem (fun _ => True) (feet []) w0 [] w) ?_ ?_
  · intro k2
    refine c_region ?_
    refine o_mv st rfl rfl ?_
    refine o_mv st rfl rfl ?_
    refine o_geq st rfl rfl rfl ?_
    refine o_mv st rfl rfl ?_
    refine st_sp (dj := 10) rfl ?_ ?_
    · refine o_mv (st_g rfl rfl) rfl rfl ?_
      refine o_mv (st_g rfl rfl) rfl rfl ?_
      refine o_leq (st_g rfl rfl) rfl rfl rfl ?_
      refine o_pickT st rfl rfl rfl ?_
      refine o_as st rfl rfl ?_
      refine c_nil ?_
      exact l_join (decide (n_0 ≤ hi_2)) (fun a w hE hm => ⟨hE.sub ⟨rfl, trivial⟩, (hm.pick [] rfl)⟩)
    · refine st_s rfl rfl rfl rfl ?_
      refine st_s rfl rfl rfl rfl ?_
      refine st_s rfl rfl rfl rfl ?_
      refine o_pickF st rfl rfl rfl ?_
      refine o_as st rfl rfl ?_
      refine c_nil ?_
      exact l_join false (fun a w hE hm => ⟨hE.sub ⟨rfl, trivial⟩, (hm.pick [] rfl)⟩)
  · rintro t1 a w ⟨hE, hm⟩ h
    refine nx_of hE hm h ?_
    clear hE hm h
    refine c_ret ?_
    exact l_end1 Try.results38 t1 () (rv_t rfl) (fun _ _ => NewCh.nil _ _ _ _)

set_option maxRecDepth 100000 in
set_option maxHeartbeats 8000000 in
theorem w_spec_BucketValid {w0 : World} {F : Nat → Prop} {b_0 : GBucket} {κ : Bool → Prop} (h : L_spec_BucketValid b_0 κ) :
    Calls Try.prog 14 #[(.agg #[(.int .i64 b_0.xSize), (.int .i64 b_0.xEvery), (.int .i64 b_0.xTokens), (.int .i64 b_0.xLast)])] w0 (Ret [] F w0 κ (fun (r : Bool) (u : Unit) => (.bool r)) (fun (r : Bool) (u : Unit) => [])) := by
  refine enter (args := [(.agg #[(.int .i64 b_0.xSize), (.int .i64 b_0.xEvery), (.int .i64 b_0.xTokens), (.int .i64 b_0.xLast)])]) [] Try.func14 rfl Try.ntmps14 rfl [] hf_nil hh_nil (Given.nil w0).lt (Given.nil w0).disj (Given.nil w0).hold h ?_
  clear h
  refine c_seq ?_
  refine c_region ?_
  refine stw (o_box rfl rfl [(.int .i64 b_0.xSize), (.int .i64 b_0.xEvery), (.int .i64 b_0.xTokens), (.int .i64 b_0.xLast)] rfl ?_); intro b1
  refine o_as st rfl rfl ?_
  refine c_nil ?_
  refine l_then ?_
  refine c_join (σ := Bool) (fun (t3 : Bool) (a : Act) (w : World) => Has 23 [(2, (.bool t3))] a ∧ Mem (fun _ => True) (feet []) w0 [] w) ?_ ?_
  · intro k4
    refine c_region ?_
    refine o_fad st rfl rfl fld25_0 rfl ?_
    refine o_ldc st (v := (.int .i64 b_0.xSize)) 0 rfl rfl rfl ty3 rfl ?_
    refine stw (o_callP (vs := [(.int .i64 b_0.xSize), (.int .i64 1), (.int .i64 100)]) Try.call38 rfl rfl (by intro w m h; exact w_spec_l1In (n_0 := b_0.xSize) (lo_1 := 1) (hi_2 := 100) h) ?_); rintro r5 _
    refine o_mv st rfl rfl ?_
    refine st_sp (dj := 6) rfl ?_ ?_
    · refine o_fad (st_g rfl rfl) rfl rfl fld25_1 rfl ?_
      refine o_ldc (st_g rfl rfl) (v := (.int .i64 b_0.xEvery)) 0 rfl rfl rfl ty3 rfl ?_
      refine st_gw rfl rfl (o_callP (vs := [(.int .i64 b_0.xEvery), (.int .i64 1), (.int .i64 1000)]) Try.call38 rfl rfl (by intro w m h; exact w_spec_l1In (n_0 := b_0.xEvery) (lo_1 := 1) (hi_2 := 1000) h) ?_); rintro r6 _
      refine o_pickT st rfl rfl rfl ?_
      refine o_mv st rfl rfl ?_
      refine st_sp (dj := 11) rfl ?_ ?_
      · refine o_fad (st_g rfl rfl) rfl rfl fld25_2 rfl ?_
        refine o_ldc (st_g rfl rfl) (v := (.int .i64 b_0.xTokens)) 0 rfl rfl rfl ty3 rfl ?_
        refine o_fad (st_g rfl rfl) rfl rfl fld25_0 rfl ?_
        refine o_ldc (st_g rfl rfl) (v := (.int .i64 b_0.xSize)) 0 rfl rfl rfl ty3 rfl ?_
        refine st_gw rfl rfl (o_callP (vs := [(.int .i64 b_0.xTokens), (.int .i64 0), (.int .i64 b_0.xSize)]) Try.call38 rfl rfl (by intro w m h; exact w_spec_l1In (n_0 := b_0.xTokens) (lo_1 := 0) (hi_2 := b_0.xSize) h) ?_); rintro r7 _
        refine o_pickT st rfl rfl rfl ?_
        refine o_mv st rfl rfl ?_
        refine st_sp (dj := 18) rfl ?_ ?_
        · refine o_fad (st_g rfl rfl) rfl rfl fld25_3 rfl ?_
          refine o_ldc (st_g rfl rfl) (v := (.int .i64 b_0.xLast)) 0 rfl rfl rfl ty3 rfl ?_
          refine st_gw rfl rfl (o_callP (vs := [(.int .i64 b_0.xLast), (.int .i64 0), (.int .i64 1000000)]) Try.call38 rfl rfl (by intro w m h; exact w_spec_l1In (n_0 := b_0.xLast) (lo_1 := 0) (hi_2 := 1000000) h) ?_); rintro r8 _
          refine o_pickT st rfl rfl rfl ?_
          refine o_as st rfl rfl ?_
          refine c_nil ?_
          exact l_join r8 (fun a w hE hm => ⟨hE.sub ⟨rfl, trivial⟩, (hm.pick [] rfl)⟩)
        · refine st_s rfl rfl rfl rfl ?_
          refine st_s rfl rfl rfl rfl ?_
          refine st_s rfl rfl rfl rfl ?_
          refine o_pickF st rfl rfl rfl ?_
          refine o_as st rfl rfl ?_
          refine c_nil ?_
          exact l_join false (fun a w hE hm => ⟨hE.sub ⟨rfl, trivial⟩, (hm.pick [] rfl)⟩)
      · refine st_s rfl rfl rfl rfl ?_
        refine st_s rfl rfl rfl rfl ?_
        refine st_s rfl rfl rfl rfl ?_
        refine st_s rfl rfl rfl rfl ?_
        refine st_s rfl rfl rfl rfl ?_
        refine o_pickF st rfl rfl rfl ?_
        refine o_mv st rfl rfl ?_
        refine st_s rfl rfl rfl rfl ?_
        refine st_s rfl rfl rfl rfl ?_
        refine st_s rfl rfl rfl rfl ?_
        refine o_pickF st rfl rfl rfl ?_
        refine o_as st rfl rfl ?_
        refine c_nil ?_
        exact l_join false (fun a w hE hm => ⟨hE.sub ⟨rfl, trivial⟩, (hm.pick [] rfl)⟩)
    · refine st_s rfl rfl rfl rfl ?_
      refine st_s rfl rfl rfl rfl ?_
      refine st_s rfl rfl rfl rfl ?_
      refine o_pickF st rfl rfl rfl ?_
      refine o_mv st rfl rfl ?_
      refine st_s rfl rfl rfl rfl ?_
      refine st_s rfl rfl rfl rfl ?_
      refine st_s rfl rfl rfl rfl ?_
      refine st_s rfl rfl rfl rfl ?_
      refine st_s rfl rfl rfl rfl ?_
      refine o_pickF st rfl rfl rfl ?_
      refine o_mv st rfl rfl ?_
      refine st_s rfl rfl rfl rfl ?_
      refine st_s rfl rfl rfl rfl ?_
      refine st_s rfl rfl rfl rfl ?_
      refine o_pickF st rfl rfl rfl ?_
      refine o_as st rfl rfl ?_
      refine c_nil ?_
      exact l_join false (fun a w hE hm => ⟨hE.sub ⟨rfl, trivial⟩, (hm.pick [] rfl)⟩)
  · rintro t3 a w ⟨hE, hm⟩ h
    refine nx_of hE hm h ?_
    clear hE hm h
    refine c_ret ?_
    exact l_end1 Try.results14 t3 () (rv_t rfl) (fun _ _ => NewCh.nil _ _ _ _)

set_option maxRecDepth 100000 in
set_option maxHeartbeats 8000000 in
theorem w_spec_BucketAt {w0 : World} {F : Nat → Prop} {b_0 : GBucket} {now_1 : Int} {κ : GBucket → Prop} (h : L_spec_BucketAt b_0 now_1 κ) :
    Calls Try.prog 21 #[(.agg #[(.int .i64 b_0.xSize), (.int .i64 b_0.xEvery), (.int .i64 b_0.xTokens), (.int .i64 b_0.xLast)]), (.int .i64 now_1)] w0 (Ret [] F w0 κ (fun (r : GBucket) (u : Unit) => (.agg #[(.int .i64 r.xSize), (.int .i64 r.xEvery), (.int .i64 r.xTokens), (.int .i64 r.xLast)])) (fun (r : GBucket) (u : Unit) => [])) := by
  refine enter (args := [(.agg #[(.int .i64 b_0.xSize), (.int .i64 b_0.xEvery), (.int .i64 b_0.xTokens), (.int .i64 b_0.xLast)]), (.int .i64 now_1)]) [] Try.func21 rfl Try.ntmps21 rfl [] hf_nil hh_nil (Given.nil w0).lt (Given.nil w0).disj (Given.nil w0).hold h ?_
  clear h
  refine c_seq ?_
  refine c_region ?_
  refine stw (o_box rfl rfl [(.int .i64 b_0.xSize), (.int .i64 b_0.xEvery), (.int .i64 b_0.xTokens), (.int .i64 b_0.xLast)] rfl ?_); intro b1
  refine stw (o_alloc rfl [(.int .i64 0), (.int .i64 0), (.int .i64 0), (.int .i64 0)] zero25 ?_); intro b3
  refine c_nil ?_
  refine l_then ?_
  refine c_seq ?_
  refine c_join (σ := Bool) (fun (t5 : Bool) (a : Act) (w : World) => Has 51 [(1, (.int .i64 now_1)), (2, (.pointer (some ⟨b1, 0, none⟩))), (4, (.pointer (some ⟨b3, 0, none⟩))), (15, (.bool t5))] a ∧ Mem (fun _ => True) (feet []) w0 [cellCh b3 [(.int .i64 0), (.int .i64 0), (.int .i64 0), (.int .i64 0)] 25, cellCh b1 [(.int .i64 b_0.xSize), (.int .i64 b_0.xEvery), (.int .i64 b_0.xTokens), (.int .i64 b_0.xLast)] 25] w) ?_ ?_
  · intro k6
    refine c_region ?_
    refine o_ldc st (v := (.agg #[(.int .i64 b_0.xSize), (.int .i64 b_0.xEvery), (.int .i64 b_0.xTokens), (.int .i64 b_0.xLast)])) 1 rfl rfl rfl ty25 rfl ?_
    refine stw (o_callP (vs := [(.agg #[(.int .i64 b_0.xSize), (.int .i64 b_0.xEvery), (.int .i64 b_0.xTokens), (.int .i64 b_0.xLast)])]) Try.call14 rfl rfl (by intro w m h; exact w_spec_BucketValid (b_0 := b_0) h) ?_); rintro r7 _
    refine o_not st rfl rfl ?_
    refine o_mv st rfl rfl ?_
    refine st_sp (dj := 9) rfl ?_ ?_
    · refine st_s rfl rfl rfl rfl ?_
      refine st_s rfl rfl rfl rfl ?_
      refine st_s rfl rfl rfl rfl ?_
      refine st_s rfl rfl rfl rfl ?_
      refine st_s rfl rfl rfl rfl ?_
      refine o_pickT st rfl rfl rfl ?_
      refine c_nil ?_
      exact l_join true (fun a w hE hm => ⟨hE.sub ⟨rfl, rfl, rfl, rfl, trivial⟩, (hm.pick [0, 1] rfl)⟩)
    · refine o_mv (st_g rfl rfl) rfl rfl ?_
      refine o_fad (st_g rfl rfl) rfl rfl fld25_3 rfl ?_
      refine o_ldc (st_g rfl rfl) (v := (.int .i64 b_0.xLast)) 1 rfl rfl rfl ty3 rfl ?_
      refine st_gw rfl rfl (o_callP (vs := [(.int .i64 now_1), (.int .i64 b_0.xLast), (.int .i64 1000000)]) Try.call38 rfl rfl (by intro w m h; exact w_spec_l1In (n_0 := now_1) (lo_1 := b_0.xLast) (hi_2 := 1000000) h) ?_); rintro r8 _
      refine o_not (st_g rfl rfl) rfl rfl ?_
      refine o_pickF st rfl rfl rfl ?_
      refine c_nil ?_
      exact l_join (!r8) (fun a w hE hm => ⟨hE.sub ⟨rfl, rfl, rfl, rfl, trivial⟩, (hm.pick [0, 1] rfl)⟩)
  · rintro t5 a w ⟨hE, hm⟩ h
    refine nx_of hE hm h ?_
    clear hE hm h
    refine c_cond rfl ?_ ?_
    · refine c_seq ?_
      refine c_region ?_
      refine o_bld st (qs := []) (cells := [(.int .i64 0), (.int .i64 0), (.int .i64 0), (.int .i64 0)]) (by intro ρ h; simp only [List.map_toArray, List.map_cons, List.map_nil]) rfl bld25 rfl ?_
      refine stw (o_stc (cs' := [(.int .i64 0), (.int .i64 0), (.int .i64 0), (.int .i64 0)]) 0 rfl rfl rfl ty25 rfl rfl rfl rfl ?_)
      refine c_nil ?_
      refine l_then ?_
      refine c_ret ?_
      refine l_ret ?_
      exact l_end1 Try.results21 (GBucket.mk 0 0 0 0) () (rv_c 0 rfl rfl ty25 rfl) (fun _ _ => NewCh.nil _ _ _ _)
    · refine c_skip ?_
      refine l_then ?_
      refine c_seq ?_
      refine c_region ?_
      refine o_mv st rfl rfl ?_
      refine o_fad st rfl rfl fld25_3 rfl ?_
      refine o_ldc st (v := (.int .i64 b_0.xLast)) 1 rfl rfl rfl ty3 rfl ?_
      refine o_sub st rfl rfl rfl ?_; intro t9
      refine o_fad st rfl rfl fld25_1 rfl ?_
      refine o_ldc st (v := (.int .i64 b_0.xEvery)) 1 rfl rfl rfl ty3 rfl ?_
      refine o_quo st rfl rfl rfl ?_; intro t10
      refine o_as st rfl rfl ?_
      refine c_nil ?_
      refine l_then ?_
      refine c_seq ?_
      refine c_seq ?_
      refine c_region ?_
      refine o_fad st rfl rfl fld25_2 rfl ?_
      refine o_ldc st (v := (.int .i64 b_0.xTokens)) 1 rfl rfl rfl ty3 rfl ?_
      refine o_mv st rfl rfl ?_
      refine o_add st rfl rfl rfl ?_; intro t11
      refine o_fad st rfl rfl fld25_0 rfl ?_
      refine o_ldc st (v := (.int .i64 b_0.xSize)) 1 rfl rfl rfl ty3 rfl ?_
      refine o_geq st rfl rfl rfl ?_
      refine c_nil ?_
      refine l_then ?_
      refine c_cond rfl ?_ ?_
      · refine c_seq ?_
        refine c_region ?_
        refine o_fad st rfl rfl fld25_0 rfl ?_
        refine o_ldc st (v := (.int .i64 b_0.xSize)) 1 rfl rfl rfl ty3 rfl ?_
        refine o_fad st rfl rfl fld25_2 rfl ?_
        refine stw (o_stc (cs' := [(.int .i64 b_0.xSize), (.int .i64 b_0.xEvery), (.int .i64 b_0.xSize), (.int .i64 b_0.xLast)]) 1 rfl rfl rfl ty3 rfl rfl rfl rfl ?_)
        refine c_nil ?_
        refine l_then ?_
        refine c_seq ?_
        refine c_region ?_
        refine o_mv st rfl rfl ?_
        refine o_fad st rfl rfl fld25_3 rfl ?_
        refine stw (o_stc (cs' := [(.int .i64 b_0.xSize), (.int .i64 b_0.xEvery), (.int .i64 b_0.xSize), (.int .i64 now_1)]) 1 rfl rfl rfl ty3 rfl rfl rfl rfl ?_)
        refine c_nil ?_
        refine l_then ?_
        refine c_seq ?_
        refine c_region ?_
        refine o_ldc st (v := (.agg #[(.int .i64 b_0.xSize), (.int .i64 b_0.xEvery), (.int .i64 b_0.xSize), (.int .i64 now_1)])) 1 rfl rfl rfl ty25 rfl ?_
        refine stw (o_stc (cs' := [(.int .i64 b_0.xSize), (.int .i64 b_0.xEvery), (.int .i64 b_0.xSize), (.int .i64 now_1)]) 0 rfl rfl rfl ty25 rfl rfl rfl rfl ?_)
        refine c_nil ?_
        refine l_then ?_
        refine c_ret ?_
        refine l_ret ?_
        exact l_end1 Try.results21 (GBucket.mk b_0.xSize b_0.xEvery b_0.xSize now_1) () (rv_c 0 rfl rfl ty25 rfl) (fun _ _ => NewCh.nil _ _ _ _)
      · refine c_skip ?_
        refine l_then ?_
        refine c_seq ?_
        refine c_region ?_
        refine o_fad st rfl rfl fld25_2 rfl ?_
        refine o_ldc st (v := (.int .i64 b_0.xTokens)) 1 rfl rfl rfl ty3 rfl ?_
        refine o_mv st rfl rfl ?_
        refine o_add st rfl rfl rfl ?_; intro t12
        refine o_fad st rfl rfl fld25_2 rfl ?_
        refine stw (o_stc (cs' := [(.int .i64 b_0.xSize), (.int .i64 b_0.xEvery), (.int .i64 t12), (.int .i64 b_0.xLast)]) 1 rfl rfl rfl ty3 rfl rfl rfl rfl ?_)
        refine c_nil ?_
        refine l_then ?_
        refine c_seq ?_
        refine c_region ?_
        refine o_fad st rfl rfl fld25_3 rfl ?_
        refine o_ldc st (v := (.int .i64 b_0.xLast)) 1 rfl rfl rfl ty3 rfl ?_
        refine o_mv st rfl rfl ?_
        refine o_fad st rfl rfl fld25_1 rfl ?_
        refine o_ldc st (v := (.int .i64 b_0.xEvery)) 1 rfl rfl rfl ty3 rfl ?_
        refine o_mul st rfl rfl rfl ?_; intro t13
        refine o_add st rfl rfl rfl ?_; intro t14
        refine o_fad st rfl rfl fld25_3 rfl ?_
        refine stw (o_stc (cs' := [(.int .i64 b_0.xSize), (.int .i64 b_0.xEvery), (.int .i64 t12), (.int .i64 t14)]) 1 rfl rfl rfl ty3 rfl rfl rfl rfl ?_)
        refine c_nil ?_
        refine l_then ?_
        refine c_seq ?_
        refine c_region ?_
        refine o_ldc st (v := (.agg #[(.int .i64 b_0.xSize), (.int .i64 b_0.xEvery), (.int .i64 t12), (.int .i64 t14)])) 1 rfl rfl rfl ty25 rfl ?_
        refine stw (o_stc (cs' := [(.int .i64 b_0.xSize), (.int .i64 b_0.xEvery), (.int .i64 t12), (.int .i64 t14)]) 0 rfl rfl rfl ty25 rfl rfl rfl rfl ?_)
        refine c_nil ?_
        refine l_then ?_
        refine c_ret ?_
        exact l_end1 Try.results21 (GBucket.mk b_0.xSize b_0.xEvery t12 t14) () (rv_c 0 rfl rfl ty25 rfl) (fun _ _ => NewCh.nil _ _ _ _)

set_option maxRecDepth 100000 in
set_option maxHeartbeats 8000000 in
theorem w_spec_TakeToken {w0 : World} {F : Nat → Prop} {b_0 : GBucket} {now_1 : Int} {κ : (GBucket × Bool) → Prop} (h : L_spec_TakeToken b_0 now_1 κ) :
    Calls Try.prog 24 #[(.agg #[(.int .i64 b_0.xSize), (.int .i64 b_0.xEvery), (.int .i64 b_0.xTokens), (.int .i64 b_0.xLast)]), (.int .i64 now_1)] w0 (Ret [] F w0 κ (fun (r : (GBucket × Bool)) (u : Unit) => .tuple #[(.agg #[(.int .i64 r.1.xSize), (.int .i64 r.1.xEvery), (.int .i64 r.1.xTokens), (.int .i64 r.1.xLast)]), (.bool r.2)]) (fun (r : (GBucket × Bool)) (u : Unit) => [])) := by
  refine enter (args := [(.agg #[(.int .i64 b_0.xSize), (.int .i64 b_0.xEvery), (.int .i64 b_0.xTokens), (.int .i64 b_0.xLast)]), (.int .i64 now_1)]) [] Try.func24 rfl Try.ntmps24 rfl [] hf_nil hh_nil (Given.nil w0).lt (Given.nil w0).disj (Given.nil w0).hold h ?_
  clear h
  refine c_seq ?_
  refine c_region ?_
  refine stw (o_box rfl rfl [(.int .i64 b_0.xSize), (.int .i64 b_0.xEvery), (.int .i64 b_0.xTokens), (.int .i64 b_0.xLast)] rfl ?_); intro b1
  refine stw (o_alloc rfl [(.int .i64 0), (.int .i64 0), (.int .i64 0), (.int .i64 0)] zero25 ?_); intro b3
  refine o_as st rfl rfl ?_
  refine c_nil ?_
  refine l_then ?_
  refine c_seq ?_
  refine c_join (σ := Bool) (fun (t5 : Bool) (a : Act) (w : World) => Has 29 [(1, (.int .i64 now_1)), (2, (.pointer (some ⟨b1, 0, none⟩))), (4, (.pointer (some ⟨b3, 0, none⟩))), (15, (.bool t5))] a ∧ Mem (fun _ => True) (feet []) w0 [cellCh b3 [(.int .i64 0), (.int .i64 0), (.int .i64 0), (.int .i64 0)] 25, cellCh b1 [(.int .i64 b_0.xSize), (.int .i64 b_0.xEvery), (.int .i64 b_0.xTokens), (.int .i64 b_0.xLast)] 25] w) ?_ ?_
  · intro k6
    refine c_region ?_
    refine o_ldc st (v := (.agg #[(.int .i64 b_0.xSize), (.int .i64 b_0.xEvery), (.int .i64 b_0.xTokens), (.int .i64 b_0.xLast)])) 1 rfl rfl rfl ty25 rfl ?_
    refine stw (o_callP (vs := [(.agg #[(.int .i64 b_0.xSize), (.int .i64 b_0.xEvery), (.int .i64 b_0.xTokens), (.int .i64 b_0.xLast)])]) Try.call14 rfl rfl (by intro w m h; exact w_spec_BucketValid (b_0 := b_0) h) ?_); rintro r7 _
    refine o_not st rfl rfl ?_
    refine o_mv st rfl rfl ?_
    refine st_sp (dj := 9) rfl ?_ ?_
    · refine st_s rfl rfl rfl rfl ?_
      refine st_s rfl rfl rfl rfl ?_
      refine st_s rfl rfl rfl rfl ?_
      refine st_s rfl rfl rfl rfl ?_
      refine st_s rfl rfl rfl rfl ?_
      refine o_pickT st rfl rfl rfl ?_
      refine c_nil ?_
      exact l_join true (fun a w hE hm => ⟨hE.sub ⟨rfl, rfl, rfl, rfl, trivial⟩, (hm.pick [0, 1] rfl)⟩)
    · refine o_mv (st_g rfl rfl) rfl rfl ?_
      refine o_fad (st_g rfl rfl) rfl rfl fld25_3 rfl ?_
      refine o_ldc (st_g rfl rfl) (v := (.int .i64 b_0.xLast)) 1 rfl rfl rfl ty3 rfl ?_
      refine st_gw rfl rfl (o_callP (vs := [(.int .i64 now_1), (.int .i64 b_0.xLast), (.int .i64 1000000)]) Try.call38 rfl rfl (by intro w m h; exact w_spec_l1In (n_0 := now_1) (lo_1 := b_0.xLast) (hi_2 := 1000000) h) ?_); rintro r8 _
      refine o_not (st_g rfl rfl) rfl rfl ?_
      refine o_pickF st rfl rfl rfl ?_
      refine c_nil ?_
      exact l_join (!r8) (fun a w hE hm => ⟨hE.sub ⟨rfl, rfl, rfl, rfl, trivial⟩, (hm.pick [0, 1] rfl)⟩)
  · rintro t5 a w ⟨hE, hm⟩ h
    refine nx_of hE hm h ?_
    clear hE hm h
    refine c_cond rfl ?_ ?_
    · refine c_seq ?_
      refine c_region ?_
      refine o_bld st (qs := []) (cells := [(.int .i64 0), (.int .i64 0), (.int .i64 0), (.int .i64 0)]) (by intro ρ h; simp only [List.map_toArray, List.map_cons, List.map_nil]) rfl bld25 rfl ?_
      refine stw (o_stc (cs' := [(.int .i64 0), (.int .i64 0), (.int .i64 0), (.int .i64 0)]) 0 rfl rfl rfl ty25 rfl rfl rfl rfl ?_)
      refine o_as st rfl rfl ?_
      refine c_nil ?_
      refine l_then ?_
      refine c_ret ?_
      refine l_ret ?_
      exact l_end2 Try.results24 ((GBucket.mk 0 0 0 0), false) () (rv_c 0 rfl rfl ty25 rfl) (rv_t rfl) rfl (fun _ _ => NewCh.nil _ _ _ _)
    · refine c_skip ?_
      refine l_then ?_
      refine c_seq ?_
      refine c_region ?_
      refine o_ldc st (v := (.agg #[(.int .i64 b_0.xSize), (.int .i64 b_0.xEvery), (.int .i64 b_0.xTokens), (.int .i64 b_0.xLast)])) 1 rfl rfl rfl ty25 rfl ?_
      refine o_mv st rfl rfl ?_
      refine stw (o_callP (vs := [(.agg #[(.int .i64 b_0.xSize), (.int .i64 b_0.xEvery), (.int .i64 b_0.xTokens), (.int .i64 b_0.xLast)]), (.int .i64 now_1)]) Try.call21 rfl rfl (by intro w m h; exact w_spec_BucketAt (b_0 := b_0) (now_1 := now_1) h) ?_); rintro r9 _
      refine stw (o_stc (cs' := [(.int .i64 r9.xSize), (.int .i64 r9.xEvery), (.int .i64 r9.xTokens), (.int .i64 r9.xLast)]) 1 rfl rfl rfl ty25 rfl rfl rfl rfl ?_)
      refine c_nil ?_
      refine l_then ?_
      refine c_seq ?_
      refine c_seq ?_
      refine c_region ?_
      refine o_fad st rfl rfl fld25_2 rfl ?_
      refine o_ldc st (v := (.int .i64 r9.xTokens)) 1 rfl rfl rfl ty3 rfl ?_
      refine o_eql st und3 rfl rfl rfl ?_
      refine c_nil ?_
      refine l_then ?_
      refine c_cond rfl ?_ ?_
      · refine c_seq ?_
        refine c_region ?_
        refine o_ldc st (v := (.agg #[(.int .i64 r9.xSize), (.int .i64 r9.xEvery), (.int .i64 r9.xTokens), (.int .i64 r9.xLast)])) 1 rfl rfl rfl ty25 rfl ?_
        refine stw (o_stc (cs' := [(.int .i64 r9.xSize), (.int .i64 r9.xEvery), (.int .i64 r9.xTokens), (.int .i64 r9.xLast)]) 0 rfl rfl rfl ty25 rfl rfl rfl rfl ?_)
        refine o_as st rfl rfl ?_
        refine c_nil ?_
        refine l_then ?_
        refine c_ret ?_
        refine l_ret ?_
        exact l_end2 Try.results24 (r9, false) () (rv_c 0 rfl rfl ty25 rfl) (rv_t rfl) rfl (fun _ _ => NewCh.nil _ _ _ _)
      · refine c_skip ?_
        refine l_then ?_
        refine c_seq ?_
        refine c_region ?_
        refine o_fad st rfl rfl fld25_2 rfl ?_
        refine o_ldc st (v := (.int .i64 r9.xTokens)) 1 rfl rfl rfl ty3 rfl ?_
        refine o_sub st rfl rfl rfl ?_; intro t10
        refine o_fad st rfl rfl fld25_2 rfl ?_
        refine stw (o_stc (cs' := [(.int .i64 r9.xSize), (.int .i64 r9.xEvery), (.int .i64 t10), (.int .i64 r9.xLast)]) 1 rfl rfl rfl ty3 rfl rfl rfl rfl ?_)
        refine c_nil ?_
        refine l_then ?_
        refine c_seq ?_
        refine c_region ?_
        refine o_ldc st (v := (.agg #[(.int .i64 r9.xSize), (.int .i64 r9.xEvery), (.int .i64 t10), (.int .i64 r9.xLast)])) 1 rfl rfl rfl ty25 rfl ?_
        refine stw (o_stc (cs' := [(.int .i64 r9.xSize), (.int .i64 r9.xEvery), (.int .i64 t10), (.int .i64 r9.xLast)]) 0 rfl rfl rfl ty25 rfl rfl rfl rfl ?_)
        refine o_as st rfl rfl ?_
        refine c_nil ?_
        refine l_then ?_
        refine c_ret ?_
        exact l_end2 Try.results24 ((GBucket.mk r9.xSize r9.xEvery t10 r9.xLast), true) () (rv_c 0 rfl rfl ty25 rfl) (rv_t rfl) rfl (fun _ _ => NewCh.nil _ _ _ _)

set_option maxRecDepth 100000 in
set_option maxHeartbeats 8000000 in
theorem w_spec_TakeMany {w0 : World} {F : Nat → Prop} {v1 : Value} {b_0 : GBucket} {times_1 : (List Int)} {κ : (List Bool) → Prop} (hv1 : Sl elInt (fun b => b < w0.heap.size ∧ ¬ feet [] b) w0 v1 times_1) (h : L_spec_TakeMany b_0 times_1 κ) :
    Calls Try.prog 31 #[(.agg #[(.int .i64 b_0.xSize), (.int .i64 b_0.xEvery), (.int .i64 b_0.xTokens), (.int .i64 b_0.xLast)]), v1] w0 (Ret [] F w0 κ (fun (r : (List Bool)) (u : Value) => u) (fun (r : (List Bool)) (u : Value) => [ownCh elBool 4 u (r)])) := by
  refine enter (args := [(.agg #[(.int .i64 b_0.xSize), (.int .i64 b_0.xEvery), (.int .i64 b_0.xTokens), (.int .i64 b_0.xLast)]), v1]) [] Try.func31 rfl Try.ntmps31 rfl [roCh elInt v1 times_1] (hf_cons hf_nil) (hh_cons hv1 hh_nil) (Given.nil w0).lt (Given.nil w0).disj (Given.nil w0).hold h ?_
  clear h hv1
  refine c_seq ?_
  refine c_region ?_
  refine stw (o_box rfl rfl [(.int .i64 b_0.xSize), (.int .i64 b_0.xEvery), (.int .i64 b_0.xTokens), (.int .i64 b_0.xLast)] rfl ?_); intro b3
  refine stw (o_asn elBool 4 rfl rfl ?_)
  refine c_nil ?_
  refine l_then ?_
  refine c_seq ?_
  refine c_region ?_
  refine stw (o_bsl (enc := encBool) (qs := []) (cells := []) ([]) flelBool (by intro ρ h; simp only [List.map_toArray, List.map_cons, List.map_nil]) rfl el44 zero4 rfl rfl rfl rfl rfl rfl ?_); intro v6
  refine o_as st rfl rfl ?_
  refine c_nil ?_
  refine l_then ?_
  refine c_seq ?_
  refine c_join (σ := Bool) (fun (t8 : Bool) (a : Act) (w : World) => Has 65 [(1, v1), (2, (.pointer (some ⟨b3, 0, none⟩))), (5, v6), (17, (.bool t8))] a ∧ Mem (fun _ => True) (feet []) w0 [ownCh elBool 4 v6 ([]), cellCh b3 [(.int .i64 b_0.xSize), (.int .i64 b_0.xEvery), (.int .i64 b_0.xTokens), (.int .i64 b_0.xLast)] 25, roCh elInt v1 times_1] w) ?_ ?_
  · intro k9
    refine c_region ?_
    refine o_ldc st (v := (.agg #[(.int .i64 b_0.xSize), (.int .i64 b_0.xEvery), (.int .i64 b_0.xTokens), (.int .i64 b_0.xLast)])) 2 rfl rfl rfl ty25 rfl ?_
    refine stw (o_callP (vs := [(.agg #[(.int .i64 b_0.xSize), (.int .i64 b_0.xEvery), (.int .i64 b_0.xTokens), (.int .i64 b_0.xLast)])]) Try.call14 rfl rfl (by intro w m h; exact w_spec_BucketValid (b_0 := b_0) h) ?_); rintro r10 _
    refine o_not st rfl rfl ?_
    refine o_mv st rfl rfl ?_
    refine st_sp (dj := 13) rfl ?_ ?_
    · refine st_s rfl rfl rfl rfl ?_
      refine st_s rfl rfl rfl rfl ?_
      refine st_s rfl rfl rfl rfl ?_
      refine o_pickT st rfl rfl rfl ?_
      refine c_nil ?_
      exact l_join true (fun a w hE hm => ⟨hE.sub ⟨rfl, rfl, rfl, rfl, trivial⟩, (hm.pick [0, 2, 3] rfl)⟩)
    · refine o_mv (st_g rfl rfl) rfl rfl ?_
      refine o_len (st_g rfl rfl) el41 3 rfl reads_ro rfl rfl ?_
      refine o_gtr (st_g rfl rfl) rfl rfl rfl ?_
      refine o_pickF st rfl rfl rfl ?_
      refine c_nil ?_
      exact l_join (decide (50 < (times_1.length : Int))) (fun a w hE hm => ⟨hE.sub ⟨rfl, rfl, rfl, rfl, trivial⟩, (hm.pick [0, 2, 3] rfl)⟩)
  · rintro t8 a w ⟨hE, hm⟩ h
    refine nx_of hE hm h ?_
    clear hE hm h
    refine c_cond rfl ?_ ?_
    · refine c_seq ?_
      refine c_region ?_
      refine o_mv st rfl rfl ?_
      refine o_as st rfl rfl ?_
      refine c_nil ?_
      refine l_then ?_
      refine c_ret ?_
      refine l_ret ?_
      exact l_end1 Try.results31 ([]) v6 (rv_t rfl) (fun w m => NewCh.of m [0] rfl (fr_cons (free_own flelBool) fr_nil))
    · refine c_skip ?_
      refine l_then ?_
      refine c_seq ?_
      refine c_seq ?_
      refine c_region ?_
      refine o_as st rfl rfl ?_
      refine c_nil ?_
      refine l_then ?_
      refine c_block ?_
      refine c_loop (σ := (Int × Int × Int × Int × (List Bool) × Int)) (fun ((t11, t12, t13, t14, xs16, t19) : (Int × Int × Int × Int × (List Bool) × Int)) (a : Act) (w : World) => ∃ (v17 : Value), Has 65 [(1, v1), (2, (.pointer (some ⟨b3, 0, none⟩))), (5, v17), (6, (.int .i64 t19))] a ∧ Mem (fun _ => True) (feet []) w0 [cellCh b3 [(.int .i64 t11), (.int .i64 t12), (.int .i64 t13), (.int .i64 t14)] 25, roCh elInt v1 times_1, ownCh elBool 4 v17 xs16] w) (fun a w hE hm => ⟨v6, hE.sub ⟨rfl, rfl, rfl, rfl, trivial⟩, (hm.pick [1, 2, 0] rfl)⟩) ?_
      rintro nx20 ⟨t11, t12, t13, t14, xs16, t19⟩ a w ⟨v17, hE, hm⟩ h
      refine nx_of hE hm h ?_
      clear hE hm h
      refine c_seq ?_
      refine c_seq ?_
      refine c_region ?_
      refine o_mv st rfl rfl ?_
      refine o_mv st rfl rfl ?_
      refine o_len st el41 1 rfl reads_ro rfl rfl ?_
      refine o_lss st rfl rfl rfl ?_
      refine c_nil ?_
      refine l_then ?_
      refine c_cond rfl ?_ ?_
      · refine c_skip ?_
        refine l_then ?_
        refine c_seq ?_
        refine c_block ?_
        refine c_seq ?_
        refine c_join (σ := Bool) (fun (t21 : Bool) (a : Act) (w : World) => Has 65 [(1, v1), (2, (.pointer (some ⟨b3, 0, none⟩))), (5, v17), (6, (.int .i64 t19)), (48, (.bool t21))] a ∧ Mem (fun _ => True) (feet []) w0 [cellCh b3 [(.int .i64 t11), (.int .i64 t12), (.int .i64 t13), (.int .i64 t14)] 25, roCh elInt v1 times_1, ownCh elBool 4 v17 xs16] w) ?_ ?_
        · intro k22
          refine c_draw mixed 24 rfl [cellCh b3 [(.int .i64 t11), (.int .i64 t12), (.int .i64 t13), (.int .i64 t14)] 25, roCh elInt v1 times_1, ownCh elBool 4 v17 xs16] ?_
          refine o_mv (d_take (i := 0) rfl (by kernel_rfl) (by kernel_rfl) (by kernel_rfl) (fun c a d v w h => by cases d <;> exact h) (fun w m => m.pick [0, 1, 2] rfl)) rfl rfl ?_
          refine o_mv (d_take (i := 1) rfl (by kernel_rfl) (by kernel_rfl) (by kernel_rfl) (fun c a d v w h => by cases d <;> exact h) (fun w m => m.pick [0, 1, 2] rfl)) rfl rfl ?_
          refine o_idx (d_take (i := 2) rfl (by kernel_rfl) (by kernel_rfl) (by kernel_rfl) (fun c a d v w h => by cases d <;> exact h) (fun w m => m.pick [0, 1, 2] rfl)) 1 rfl reads_ro rfl rfl rfl el41 ?_; intro e23 h24
          refine o_lds (d_take (i := 3) rfl (by kernel_rfl) (by kernel_rfl) (by kernel_rfl) (fun c a d v w h => by cases d <;> exact h) (fun w m => m.pick [0, 1, 2] rfl)) (enc := encInt) (u := (.int .i64 e23)) 1 rfl reads_ro flelInt rfl h24 rfl rfl ty3 rfl ?_
          refine o_fad (d_take (i := 4) rfl (by kernel_rfl) (by kernel_rfl) (by kernel_rfl) (fun c a d v w h => by cases d <;> exact h) (fun w m => m.pick [0, 1, 2] rfl)) rfl rfl fld25_3 rfl ?_
          refine o_ldc (d_take (i := 5) rfl (by kernel_rfl) (by kernel_rfl) (by kernel_rfl) (fun c a d v w h => by cases d <;> exact h) (fun w m => m.pick [0, 1, 2] rfl)) (v := (.int .i64 t14)) 0 rfl rfl rfl ty3 rfl ?_
          refine d_one (i := 6) rfl (by kernel_rfl) (o_callP (vs := [(.int .i64 e23), (.int .i64 t14), (.int .i64 1000000)]) Try.call38 rfl rfl (by intro w m h; exact w_spec_l1In (n_0 := e23) (lo_1 := t14) (hi_2 := 1000000) h) ?_); rintro r25 _
          refine d_and (fun w m => m.pick [0, 1, 2] rfl) ?_
          refine o_not (d_take (i := 7) rfl (by kernel_rfl) (by kernel_rfl) (by kernel_rfl) (fun c a d v w h => by cases d <;> exact h) (fun w m => m.pick [0, 1, 2] rfl)) rfl rfl ?_
          refine o_mv (d_take (i := 8) rfl (by kernel_rfl) (by kernel_rfl) (by kernel_rfl) (fun c a d v w h => by cases d <;> exact h) (fun w m => m.pick [0, 1, 2] rfl)) rfl rfl ?_
          refine st_sp (dj := 33) rfl ?_ ?_
          · refine d_skip (i := 9) rfl (by kernel_rfl) (by kernel_rfl) (by kernel_rfl) (fun c a d v w h => by cases d <;> exact h) (fun w m => m.pick [0, 1, 2] rfl) rfl rfl rfl rfl ?_
            refine d_skip (i := 10) rfl (by kernel_rfl) (by kernel_rfl) (by kernel_rfl) (fun c a d v w h => by cases d <;> exact h) (fun w m => m.pick [0, 1, 2] rfl) rfl rfl rfl rfl ?_
            refine d_skip (i := 11) rfl (by kernel_rfl) (by kernel_rfl) (by kernel_rfl) (fun c a d v w h => by cases d <;> exact h) (fun w m => m.pick [0, 1, 2] rfl) rfl rfl rfl rfl ?_
            refine d_skip (i := 12) rfl (by kernel_rfl) (by kernel_rfl) (by kernel_rfl) (fun c a d v w h => by cases d <;> exact h) (fun w m => m.pick [0, 1, 2] rfl) rfl rfl rfl rfl ?_
            refine d_skip (i := 13) rfl (by kernel_rfl) (by kernel_rfl) (by kernel_rfl) (fun c a d v w h => by cases d <;> exact h) (fun w m => m.pick [0, 1, 2] rfl) rfl rfl rfl rfl ?_
            refine d_skip (i := 14) rfl (by kernel_rfl) (by kernel_rfl) (by kernel_rfl) (fun c a d v w h => by cases d <;> exact h) (fun w m => m.pick [0, 1, 2] rfl) rfl rfl rfl rfl ?_
            refine d_skip (i := 15) rfl (by kernel_rfl) (by kernel_rfl) (by kernel_rfl) (fun c a d v w h => by cases d <;> exact h) (fun w m => m.pick [0, 1, 2] rfl) rfl rfl rfl rfl ?_
            refine d_skip (i := 16) rfl (by kernel_rfl) (by kernel_rfl) (by kernel_rfl) (fun c a d v w h => by cases d <;> exact h) (fun w m => m.pick [0, 1, 2] rfl) rfl rfl rfl rfl ?_
            refine d_skip (i := 17) rfl (by kernel_rfl) (by kernel_rfl) (by kernel_rfl) (fun c a d v w h => by cases d <;> exact h) (fun w m => m.pick [0, 1, 2] rfl) rfl rfl rfl rfl ?_
            refine d_skip (i := 18) rfl (by kernel_rfl) (by kernel_rfl) (by kernel_rfl) (fun c a d v w h => by cases d <;> exact h) (fun w m => m.pick [0, 1, 2] rfl) rfl rfl rfl rfl ?_
            refine d_skip (i := 19) rfl (by kernel_rfl) (by kernel_rfl) (by kernel_rfl) (fun c a d v w h => by cases d <;> exact h) (fun w m => m.pick [0, 1, 2] rfl) rfl rfl rfl rfl ?_
            refine d_skip (i := 20) rfl (by kernel_rfl) (by kernel_rfl) (by kernel_rfl) (fun c a d v w h => by cases d <;> exact h) (fun w m => m.pick [0, 1, 2] rfl) rfl rfl rfl rfl ?_
            refine d_skip (i := 21) rfl (by kernel_rfl) (by kernel_rfl) (by kernel_rfl) (fun c a d v w h => by cases d <;> exact h) (fun w m => m.pick [0, 1, 2] rfl) rfl rfl rfl rfl ?_
            refine d_skip (i := 22) rfl (by kernel_rfl) (by kernel_rfl) (by kernel_rfl) (fun c a d v w h => by cases d <;> exact h) (fun w m => m.pick [0, 1, 2] rfl) rfl rfl rfl rfl ?_
            refine o_pickT (d_take (i := 23) rfl (by kernel_rfl) (by kernel_rfl) (by kernel_rfl) (fun c a d v w h => by cases d <;> exact h) (fun w m => m.pick [0, 1, 2] rfl)) rfl rfl rfl ?_
            refine d_done (by kernel_rfl) ?_
            exact l_join true (fun a w hE hm => ⟨hE.sub ⟨rfl, rfl, rfl, rfl, rfl, trivial⟩, (hm.pick [0, 1, 2] rfl)⟩)
          · refine o_mv (d_takeg (i := 9) rfl (by kernel_rfl) (by kernel_rfl) (by kernel_rfl) (fun c a d v w h => by cases d <;> exact h) (fun w m => m.pick [0, 1, 2] rfl) rfl rfl) rfl rfl ?_
            refine o_gtr (d_takeg (i := 10) rfl (by kernel_rfl) (by kernel_rfl) (by kernel_rfl) (fun c a d v w h => by cases d <;> exact h) (fun w m => m.pick [0, 1, 2] rfl) rfl rfl) rfl rfl rfl ?_
            refine o_mv (d_takeg (i := 11) rfl (by kernel_rfl) (by kernel_rfl) (by kernel_rfl) (fun c a d v w h => by cases d <;> exact h) (fun w m => m.pick [0, 1, 2] rfl) rfl rfl) rfl rfl ?_
            refine st_sp (dj := 36) rfl ?_ ?_
            · refine o_mv (d_takeg (i := 12) rfl (by kernel_rfl) (by kernel_rfl) (by kernel_rfl) (fun c a d v w h => by cases d <;> exact h) (fun w m => m.pick [0, 1, 2] rfl) rfl rfl) rfl rfl ?_
              refine o_mv (d_takeg (i := 13) rfl (by kernel_rfl) (by kernel_rfl) (by kernel_rfl) (fun c a d v w h => by cases d <;> exact h) (fun w m => m.pick [0, 1, 2] rfl) rfl rfl) rfl rfl ?_
              refine o_idx (d_takeg (i := 14) rfl (by kernel_rfl) (by kernel_rfl) (by kernel_rfl) (fun c a d v w h => by cases d <;> exact h) (fun w m => m.pick [0, 1, 2] rfl) rfl rfl) 1 rfl reads_ro rfl rfl rfl el41 ?_; intro e26 h27
              refine o_lds (d_takeg (i := 15) rfl (by kernel_rfl) (by kernel_rfl) (by kernel_rfl) (fun c a d v w h => by cases d <;> exact h) (fun w m => m.pick [0, 1, 2] rfl) rfl rfl) (enc := encInt) (u := (.int .i64 e26)) 1 rfl reads_ro flelInt rfl h27 rfl rfl ty3 rfl ?_
              refine o_mv (d_takeg (i := 16) rfl (by kernel_rfl) (by kernel_rfl) (by kernel_rfl) (fun c a d v w h => by cases d <;> exact h) (fun w m => m.pick [0, 1, 2] rfl) rfl rfl) rfl rfl ?_
              refine o_mv (d_takeg (i := 17) rfl (by kernel_rfl) (by kernel_rfl) (by kernel_rfl) (fun c a d v w h => by cases d <;> exact h) (fun w m => m.pick [0, 1, 2] rfl) rfl rfl) rfl rfl ?_
              refine o_sub (d_takeg (i := 18) rfl (by kernel_rfl) (by kernel_rfl) (by kernel_rfl) (fun c a d v w h => by cases d <;> exact h) (fun w m => m.pick [0, 1, 2] rfl) rfl rfl) rfl rfl rfl ?_; intro t28
              refine o_idx (d_takeg (i := 19) rfl (by kernel_rfl) (by kernel_rfl) (by kernel_rfl) (fun c a d v w h => by cases d <;> exact h) (fun w m => m.pick [0, 1, 2] rfl) rfl rfl) 1 rfl reads_ro rfl rfl rfl el41 ?_; intro e29 h30
              refine o_lds (d_takeg (i := 20) rfl (by kernel_rfl) (by kernel_rfl) (by kernel_rfl) (fun c a d v w h => by cases d <;> exact h) (fun w m => m.pick [0, 1, 2] rfl) rfl rfl) (enc := encInt) (u := (.int .i64 e29)) 1 rfl reads_ro flelInt rfl h30 rfl rfl ty3 rfl ?_
              refine o_lss (d_takeg (i := 21) rfl (by kernel_rfl) (by kernel_rfl) (by kernel_rfl) (fun c a d v w h => by cases d <;> exact h) (fun w m => m.pick [0, 1, 2] rfl) rfl rfl) rfl rfl rfl ?_
              refine o_pickT (d_takeg (i := 22) rfl (by kernel_rfl) (by kernel_rfl) (by kernel_rfl) (fun c a d v w h => by cases d <;> exact h) (fun w m => m.pick [0, 1, 2] rfl) rfl rfl) rfl rfl rfl ?_
              refine o_pickF (d_take (i := 23) rfl (by kernel_rfl) (by kernel_rfl) (by kernel_rfl) (fun c a d v w h => by cases d <;> exact h) (fun w m => m.pick [0, 1, 2] rfl)) rfl rfl rfl ?_
              refine d_done (by kernel_rfl) ?_
              exact l_join (decide (e26 < e29)) (fun a w hE hm => ⟨hE.sub ⟨rfl, rfl, rfl, rfl, rfl, trivial⟩, (hm.pick [0, 1, 2] rfl)⟩)
            · refine d_skip (i := 12) rfl (by kernel_rfl) (by kernel_rfl) (by kernel_rfl) (fun c a d v w h => by cases d <;> exact h) (fun w m => m.pick [0, 1, 2] rfl) rfl rfl rfl rfl ?_
              refine d_skip (i := 13) rfl (by kernel_rfl) (by kernel_rfl) (by kernel_rfl) (fun c a d v w h => by cases d <;> exact h) (fun w m => m.pick [0, 1, 2] rfl) rfl rfl rfl rfl ?_
              refine d_skip (i := 14) rfl (by kernel_rfl) (by kernel_rfl) (by kernel_rfl) (fun c a d v w h => by cases d <;> exact h) (fun w m => m.pick [0, 1, 2] rfl) rfl rfl rfl rfl ?_
              refine d_skip (i := 15) rfl (by kernel_rfl) (by kernel_rfl) (by kernel_rfl) (fun c a d v w h => by cases d <;> exact h) (fun w m => m.pick [0, 1, 2] rfl) rfl rfl rfl rfl ?_
              refine d_skip (i := 16) rfl (by kernel_rfl) (by kernel_rfl) (by kernel_rfl) (fun c a d v w h => by cases d <;> exact h) (fun w m => m.pick [0, 1, 2] rfl) rfl rfl rfl rfl ?_
              refine d_skip (i := 17) rfl (by kernel_rfl) (by kernel_rfl) (by kernel_rfl) (fun c a d v w h => by cases d <;> exact h) (fun w m => m.pick [0, 1, 2] rfl) rfl rfl rfl rfl ?_
              refine d_skip (i := 18) rfl (by kernel_rfl) (by kernel_rfl) (by kernel_rfl) (fun c a d v w h => by cases d <;> exact h) (fun w m => m.pick [0, 1, 2] rfl) rfl rfl rfl rfl ?_
              refine d_skip (i := 19) rfl (by kernel_rfl) (by kernel_rfl) (by kernel_rfl) (fun c a d v w h => by cases d <;> exact h) (fun w m => m.pick [0, 1, 2] rfl) rfl rfl rfl rfl ?_
              refine d_skip (i := 20) rfl (by kernel_rfl) (by kernel_rfl) (by kernel_rfl) (fun c a d v w h => by cases d <;> exact h) (fun w m => m.pick [0, 1, 2] rfl) rfl rfl rfl rfl ?_
              refine d_skip (i := 21) rfl (by kernel_rfl) (by kernel_rfl) (by kernel_rfl) (fun c a d v w h => by cases d <;> exact h) (fun w m => m.pick [0, 1, 2] rfl) rfl rfl rfl rfl ?_
              refine o_pickF (d_takeg (i := 22) rfl (by kernel_rfl) (by kernel_rfl) (by kernel_rfl) (fun c a d v w h => by cases d <;> exact h) (fun w m => m.pick [0, 1, 2] rfl) rfl rfl) rfl rfl rfl ?_
              refine o_pickF (d_take (i := 23) rfl (by kernel_rfl) (by kernel_rfl) (by kernel_rfl) (fun c a d v w h => by cases d <;> exact h) (fun w m => m.pick [0, 1, 2] rfl)) rfl rfl rfl ?_
              refine d_done (by kernel_rfl) ?_
              exact l_join false (fun a w hE hm => ⟨hE.sub ⟨rfl, rfl, rfl, rfl, rfl, trivial⟩, (hm.pick [0, 1, 2] rfl)⟩)
        · rintro t21 a w ⟨hE, hm⟩ h
          refine nx_of hE hm h ?_
          clear hE hm h
          refine c_cond rfl ?_ ?_
          · refine c_seq ?_
            refine c_region ?_
            refine stw (o_bsl (enc := encBool) (qs := []) (cells := []) ([]) flelBool (by intro ρ h; simp only [List.map_toArray, List.map_cons, List.map_nil]) rfl el44 zero4 rfl rfl rfl rfl rfl rfl ?_); intro v31
            refine o_as st rfl rfl ?_
            refine c_nil ?_
            refine l_then ?_
            refine c_ret ?_
            refine l_ret ?_
            refine b_ret ?_
            refine l_ret ?_
            refine l_ret ?_
            refine b_ret ?_
            refine l_ret ?_
            exact l_end1 Try.results31 ([]) v31 (rv_t rfl) (fun w m => NewCh.of m [0] rfl (fr_cons (free_own flelBool) fr_nil))
          · refine c_skip ?_
            refine l_then ?_
            refine c_join (σ := (Int × Int × Int × Int × Bool)) (fun ((t34, t35, t36, t37, t38) : (Int × Int × Int × Int × Bool)) (a : Act) (w : World) => ∃ (b33 : Nat), Has 65 [(1, v1), (2, (.pointer (some ⟨b3, 0, none⟩))), (5, v17), (6, (.int .i64 t19)), (7, (.pointer (some ⟨b33, 0, none⟩))), (8, (.bool t38))] a ∧ Mem (fun _ => True) (feet []) w0 [cellCh b33 [(.int .i64 t34), (.int .i64 t35), (.int .i64 t36), (.int .i64 t37)] 25, cellCh b3 [(.int .i64 t11), (.int .i64 t12), (.int .i64 t13), (.int .i64 t14)] 25, roCh elInt v1 times_1, ownCh elBool 4 v17 xs16] w) ?_ ?_
            · intro k39
              refine c_drawQ mixed 12 rfl [cellCh b3 [(.int .i64 t11), (.int .i64 t12), (.int .i64 t13), (.int .i64 t14)] 25, roCh elInt v1 times_1, ownCh elBool 4 v17 xs16] (fun c a d v w h => by cases d <;> exact h) ?_
              intro Qd hP hQ
              have H68 : ∀ (e40 : Int) (h41 : times_1[(t19).toNat]? = some e40) (r42 : GBucket) (r43 : Bool) (b44 : Nat), Nx 65 (fun _ => True) (feet []) w0 (wpAnyH Try.prog .any (opsAt Try.f31 [1, 1, 1, 0, 1, 0, 0, 1, 0, 0, 1, 0]) Qd (Mem (fun _ => True) (feet []) w0 [cellCh b3 [(.int .i64 t11), (.int .i64 t12), (.int .i64 t13), (.int .i64 t14)] 25, roCh elInt v1 times_1, ownCh elBool 4 v17 xs16]) 1 #[true, true, true, true, true, true, true, true, true, true, true, false]) [(1, v1), (2, (.pointer (some ⟨b3, 0, none⟩))), (5, v17), (6, (.int .i64 t19)), (58, (.bool r43)), (7, (.pointer (some ⟨b44, 0, none⟩)))] [cellCh b44 [(.int .i64 r42.xSize), (.int .i64 r42.xEvery), (.int .i64 r42.xTokens), (.int .i64 r42.xLast)] 25, cellCh b3 [(.int .i64 t11), (.int .i64 t12), (.int .i64 t13), (.int .i64 t14)] 25, roCh elInt v1 times_1, ownCh elBool 4 v17 xs16] (k39 (r42.xSize, r42.xEvery, r42.xTokens, r42.xLast, r43)) := by
                intro e40 h41 r42 r43 b44
                refine o_as (d_take (i := 11) rfl (by kernel_rfl) (by kernel_rfl) (by kernel_rfl) hP (fun w m => m.pick [1, 2, 3] rfl)) rfl rfl ?_
                refine d_done (by kernel_rfl) ?_
                exact fun a w hE hm hφ => hQ (r42.xSize, r42.xEvery, r42.xTokens, r42.xLast, r43) a w hφ ((fun a w hE hm => ⟨b44, hE.sub ⟨rfl, rfl, rfl, rfl, rfl, rfl, trivial⟩, (hm.pick [0, 1, 2, 3] rfl)⟩) a w hE hm)
              have H69 : ∀ (e40 : Int) (h41 : times_1[(t19).toNat]? = some e40) (r42 : GBucket) (r43 : Bool) (b44 : Nat), Nx 65 (fun _ => True) (feet []) w0 (wpAnyH Try.prog .any (opsAt Try.f31 [1, 1, 1, 0, 1, 0, 0, 1, 0, 0, 1, 0]) Qd (Mem (fun _ => True) (feet []) w0 [cellCh b3 [(.int .i64 t11), (.int .i64 t12), (.int .i64 t13), (.int .i64 t14)] 25, roCh elInt v1 times_1, ownCh elBool 4 v17 xs16]) 2 #[true, true, true, true, true, true, true, true, true, true, false, false]) [(1, v1), (2, (.pointer (some ⟨b3, 0, none⟩))), (5, v17), (6, (.int .i64 t19)), (57, (.agg #[(.int .i64 r42.xSize), (.int .i64 r42.xEvery), (.int .i64 r42.xTokens), (.int .i64 r42.xLast)])), (58, (.bool r43)), (7, (.pointer (some ⟨b44, 0, none⟩)))] [cellCh b44 [(.int .i64 0), (.int .i64 0), (.int .i64 0), (.int .i64 0)] 25, cellCh b3 [(.int .i64 t11), (.int .i64 t12), (.int .i64 t13), (.int .i64 t14)] 25, roCh elInt v1 times_1, ownCh elBool 4 v17 xs16] (k39 (r42.xSize, r42.xEvery, r42.xTokens, r42.xLast, r43)) := by
                intro e40 h41 r42 r43 b44
                refine d_one (i := 10) rfl (by kernel_rfl) (o_stc (cs' := [(.int .i64 r42.xSize), (.int .i64 r42.xEvery), (.int .i64 r42.xTokens), (.int .i64 r42.xLast)]) 0 rfl rfl rfl ty25 rfl rfl rfl rfl ?_)
                refine d_and (fun w m => m.pick [1, 2, 3] rfl) ?_
                refine pk [0, 1, 2, 3] rfl ?_
                refine re (E' := [(1, v1), (2, (.pointer (some ⟨b3, 0, none⟩))), (5, v17), (6, (.int .i64 t19)), (58, (.bool r43)), (7, (.pointer (some ⟨b44, 0, none⟩)))]) ⟨rfl, rfl, rfl, rfl, rfl, rfl, trivial⟩ ?_
                exact H68 e40 h41 r42 r43 b44
              have H70 : ∀ (e40 : Int) (h41 : times_1[(t19).toNat]? = some e40) (r42 : GBucket) (r43 : Bool), Nx 65 (fun _ => True) (feet []) w0 (wpAnyH Try.prog .any (opsAt Try.f31 [1, 1, 1, 0, 1, 0, 0, 1, 0, 0, 1, 0]) Qd (Mem (fun _ => True) (feet []) w0 [cellCh b3 [(.int .i64 t11), (.int .i64 t12), (.int .i64 t13), (.int .i64 t14)] 25, roCh elInt v1 times_1, ownCh elBool 4 v17 xs16]) 6 #[true, true, true, true, true, true, false, false, false, false, false, false]) [(1, v1), (2, (.pointer (some ⟨b3, 0, none⟩))), (5, v17), (6, (.int .i64 t19)), (56, (.tuple #[(.agg #[(.int .i64 r42.xSize), (.int .i64 r42.xEvery), (.int .i64 r42.xTokens), (.int .i64 r42.xLast)]), (.bool r43)]))] [cellCh b3 [(.int .i64 t11), (.int .i64 t12), (.int .i64 t13), (.int .i64 t14)] 25, roCh elInt v1 times_1, ownCh elBool 4 v17 xs16] (k39 (r42.xSize, r42.xEvery, r42.xTokens, r42.xLast, r43)) := by
                intro e40 h41 r42 r43
                refine o_mv (d_take (i := 6) rfl (by kernel_rfl) (by kernel_rfl) (by kernel_rfl) hP (fun w m => m.pick [0, 1, 2] rfl)) rfl rfl ?_
                refine o_ext (d_take (i := 7) rfl (by kernel_rfl) (by kernel_rfl) (by kernel_rfl) hP (fun w m => m.pick [0, 1, 2] rfl)) (vs := [(.agg #[(.int .i64 r42.xSize), (.int .i64 r42.xEvery), (.int .i64 r42.xTokens), (.int .i64 r42.xLast)]), (.bool r43)]) rfl rfl rfl ?_
                refine o_ext (d_take (i := 8) rfl (by kernel_rfl) (by kernel_rfl) (by kernel_rfl) hP (fun w m => m.pick [0, 1, 2] rfl)) (vs := [(.agg #[(.int .i64 r42.xSize), (.int .i64 r42.xEvery), (.int .i64 r42.xTokens), (.int .i64 r42.xLast)]), (.bool r43)]) rfl rfl rfl ?_
                refine d_one (i := 9) rfl (by kernel_rfl) (o_alloc rfl [(.int .i64 0), (.int .i64 0), (.int .i64 0), (.int .i64 0)] zero25 ?_); intro b44
                refine d_and (fun w m => m.pick [1, 2, 3] rfl) ?_
                refine pk [0, 1, 2, 3] rfl ?_
                refine re (E' := [(1, v1), (2, (.pointer (some ⟨b3, 0, none⟩))), (5, v17), (6, (.int .i64 t19)), (57, (.agg #[(.int .i64 r42.xSize), (.int .i64 r42.xEvery), (.int .i64 r42.xTokens), (.int .i64 r42.xLast)])), (58, (.bool r43)), (7, (.pointer (some ⟨b44, 0, none⟩)))]) ⟨rfl, rfl, rfl, rfl, rfl, rfl, rfl, trivial⟩ ?_
                exact H69 e40 h41 r42 r43 b44
              have H71 : ∀ (e40 : Int) (h41 : times_1[(t19).toNat]? = some e40) (b45 : Nat) (r46 : GBucket) (r47 : Bool), Nx 65 (fun _ => True) (feet []) w0 (wpAnyH Try.prog .any (opsAt Try.f31 [1, 1, 1, 0, 1, 0, 0, 1, 0, 0, 1, 0]) Qd (Mem (fun _ => True) (feet []) w0 [cellCh b3 [(.int .i64 t11), (.int .i64 t12), (.int .i64 t13), (.int .i64 t14)] 25, roCh elInt v1 times_1, ownCh elBool 4 v17 xs16]) 5 #[true, true, true, true, true, true, false, false, false, true, false, false]) [(1, v1), (2, (.pointer (some ⟨b3, 0, none⟩))), (5, v17), (6, (.int .i64 t19)), (7, (.pointer (some ⟨b45, 0, none⟩))), (56, (.tuple #[(.agg #[(.int .i64 r46.xSize), (.int .i64 r46.xEvery), (.int .i64 r46.xTokens), (.int .i64 r46.xLast)]), (.bool r47)]))] [cellCh b45 [(.int .i64 0), (.int .i64 0), (.int .i64 0), (.int .i64 0)] 25, cellCh b3 [(.int .i64 t11), (.int .i64 t12), (.int .i64 t13), (.int .i64 t14)] 25, roCh elInt v1 times_1, ownCh elBool 4 v17 xs16] (k39 (r46.xSize, r46.xEvery, r46.xTokens, r46.xLast, r47)) := by
                intro e40 h41 b45 r46 r47
                refine o_mv (d_take (i := 6) rfl (by kernel_rfl) (by kernel_rfl) (by kernel_rfl) hP (fun w m => m.pick [1, 2, 3] rfl)) rfl rfl ?_
                refine o_ext (d_take (i := 7) rfl (by kernel_rfl) (by kernel_rfl) (by kernel_rfl) hP (fun w m => m.pick [1, 2, 3] rfl)) (vs := [(.agg #[(.int .i64 r46.xSize), (.int .i64 r46.xEvery), (.int .i64 r46.xTokens), (.int .i64 r46.xLast)]), (.bool r47)]) rfl rfl rfl ?_
                refine o_ext (d_take (i := 8) rfl (by kernel_rfl) (by kernel_rfl) (by kernel_rfl) hP (fun w m => m.pick [1, 2, 3] rfl)) (vs := [(.agg #[(.int .i64 r46.xSize), (.int .i64 r46.xEvery), (.int .i64 r46.xTokens), (.int .i64 r46.xLast)]), (.bool r47)]) rfl rfl rfl ?_
                refine d_one (i := 10) rfl (by kernel_rfl) (o_stc (cs' := [(.int .i64 r46.xSize), (.int .i64 r46.xEvery), (.int .i64 r46.xTokens), (.int .i64 r46.xLast)]) 0 rfl rfl rfl ty25 rfl rfl rfl rfl ?_)
                refine d_and (fun w m => m.pick [1, 2, 3] rfl) ?_
                refine pk [0, 1, 2, 3] rfl ?_
                refine re (E' := [(1, v1), (2, (.pointer (some ⟨b3, 0, none⟩))), (5, v17), (6, (.int .i64 t19)), (58, (.bool r47)), (7, (.pointer (some ⟨b45, 0, none⟩)))]) ⟨rfl, rfl, rfl, rfl, rfl, rfl, trivial⟩ ?_
                exact H68 e40 h41 r46 r47 b45
              have H72 : ∀ (e40 : Int) (h41 : times_1[(t19).toNat]? = some e40) (b45 : Nat), Nx 65 (fun _ => True) (feet []) w0 (wpAnyH Try.prog .any (opsAt Try.f31 [1, 1, 1, 0, 1, 0, 0, 1, 0, 0, 1, 0]) Qd (Mem (fun _ => True) (feet []) w0 [cellCh b3 [(.int .i64 t11), (.int .i64 t12), (.int .i64 t13), (.int .i64 t14)] 25, roCh elInt v1 times_1, ownCh elBool 4 v17 xs16]) 6 #[true, true, true, true, true, false, false, false, false, true, false, false]) [(1, v1), (2, (.pointer (some ⟨b3, 0, none⟩))), (5, v17), (6, (.int .i64 t19)), (51, (.agg #[(.int .i64 t11), (.int .i64 t12), (.int .i64 t13), (.int .i64 t14)])), (55, (.int .i64 e40)), (7, (.pointer (some ⟨b45, 0, none⟩)))] [cellCh b45 [(.int .i64 0), (.int .i64 0), (.int .i64 0), (.int .i64 0)] 25, cellCh b3 [(.int .i64 t11), (.int .i64 t12), (.int .i64 t13), (.int .i64 t14)] 25, roCh elInt v1 times_1, ownCh elBool 4 v17 xs16] (L_spec_TakeToken (GBucket.mk t11 t12 t13 t14) e40 (fun (r46, r47) => k39 (r46.xSize, r46.xEvery, r46.xTokens, r46.xLast, r47))) := by
                intro e40 h41 b45
                refine d_one (i := 5) rfl (by kernel_rfl) (o_callP (vs := [(.agg #[(.int .i64 t11), (.int .i64 t12), (.int .i64 t13), (.int .i64 t14)]), (.int .i64 e40)]) Try.call24 rfl rfl (by intro w m h; exact w_spec_TakeToken (b_0 := (GBucket.mk t11 t12 t13 t14)) (now_1 := e40) h) ?_); rintro ⟨r46, r47⟩ _
                refine d_and (fun w m => m.pick [1, 2, 3] rfl) ?_
                refine pk [0, 1, 2, 3] rfl ?_
                refine re (E' := [(1, v1), (2, (.pointer (some ⟨b3, 0, none⟩))), (5, v17), (6, (.int .i64 t19)), (7, (.pointer (some ⟨b45, 0, none⟩))), (56, (.tuple #[(.agg #[(.int .i64 r46.xSize), (.int .i64 r46.xEvery), (.int .i64 r46.xTokens), (.int .i64 r46.xLast)]), (.bool r47)]))]) ⟨rfl, rfl, rfl, rfl, rfl, rfl, trivial⟩ ?_
                exact H71 e40 h41 b45 r46 r47
              refine o_ldc (d_take (i := 0) rfl (by kernel_rfl) (by kernel_rfl) (by kernel_rfl) hP (fun w m => m.pick [0, 1, 2] rfl)) (v := (.agg #[(.int .i64 t11), (.int .i64 t12), (.int .i64 t13), (.int .i64 t14)])) 0 rfl rfl rfl ty25 rfl ?_
              refine o_mv (d_take (i := 1) rfl (by kernel_rfl) (by kernel_rfl) (by kernel_rfl) hP (fun w m => m.pick [0, 1, 2] rfl)) rfl rfl ?_
              refine o_mv (d_take (i := 2) rfl (by kernel_rfl) (by kernel_rfl) (by kernel_rfl) hP (fun w m => m.pick [0, 1, 2] rfl)) rfl rfl ?_
              refine o_idx (d_take (i := 3) rfl (by kernel_rfl) (by kernel_rfl) (by kernel_rfl) hP (fun w m => m.pick [0, 1, 2] rfl)) 1 rfl reads_ro rfl rfl rfl el41 ?_; intro e40 h41
              refine o_lds (d_take (i := 4) rfl (by kernel_rfl) (by kernel_rfl) (by kernel_rfl) hP (fun w m => m.pick [0, 1, 2] rfl)) (enc := encInt) (u := (.int .i64 e40)) 1 rfl reads_ro flelInt rfl h41 rfl rfl ty3 rfl ?_
              refine d_two (i := 5) (j := 9) rfl rfl (by kernel_rfl) ?_ ?_
              · intro o ho; cases ho
                refine o_callP (vs := [(.agg #[(.int .i64 t11), (.int .i64 t12), (.int .i64 t13), (.int .i64 t14)]), (.int .i64 e40)]) Try.call24 rfl rfl (by intro w m h; exact w_spec_TakeToken (b_0 := (GBucket.mk t11 t12 t13 t14)) (now_1 := e40) h) ?_; rintro ⟨r42, r43⟩ _
                refine d_and (fun w m => m.pick [0, 1, 2] rfl) ?_
                refine pk [0, 1, 2] rfl ?_
                refine re (E' := [(1, v1), (2, (.pointer (some ⟨b3, 0, none⟩))), (5, v17), (6, (.int .i64 t19)), (56, (.tuple #[(.agg #[(.int .i64 r42.xSize), (.int .i64 r42.xEvery), (.int .i64 r42.xTokens), (.int .i64 r42.xLast)]), (.bool r43)]))]) ⟨rfl, rfl, rfl, rfl, rfl, trivial⟩ ?_
                exact H70 e40 h41 r42 r43
              · intro o ho; cases ho
                refine o_alloc rfl [(.int .i64 0), (.int .i64 0), (.int .i64 0), (.int .i64 0)] zero25 ?_; intro b45
                refine d_and (fun w m => m.pick [1, 2, 3] rfl) ?_
                refine pk [0, 1, 2, 3] rfl ?_
                refine re (E' := [(1, v1), (2, (.pointer (some ⟨b3, 0, none⟩))), (5, v17), (6, (.int .i64 t19)), (51, (.agg #[(.int .i64 t11), (.int .i64 t12), (.int .i64 t13), (.int .i64 t14)])), (55, (.int .i64 e40)), (7, (.pointer (some ⟨b45, 0, none⟩)))]) ⟨rfl, rfl, rfl, rfl, rfl, rfl, rfl, trivial⟩ ?_
                exact H72 e40 h41 b45
            · rintro ⟨t34, t35, t36, t37, t38⟩ a w ⟨b33, hE, hm⟩ h
              refine nx_of hE hm h ?_
              clear hE hm h
              refine c_seq ?_
              refine c_region ?_
              refine o_ldc st (v := (.agg #[(.int .i64 t34), (.int .i64 t35), (.int .i64 t36), (.int .i64 t37)])) 0 rfl rfl rfl ty25 rfl ?_
              refine stw (o_stc (cs' := [(.int .i64 t34), (.int .i64 t35), (.int .i64 t36), (.int .i64 t37)]) 1 rfl rfl rfl ty25 rfl rfl rfl rfl ?_)
              refine c_nil ?_
              refine l_then ?_
              refine c_region ?_
              refine o_mv st rfl rfl ?_
              refine o_mv st rfl rfl ?_
              refine stw (o_bsl (enc := encBool) (qs := [(0, (.bool t38))]) (cells := [(.bool t38)]) ([t38]) flelBool (by intro ρ h; simp only [List.map_toArray, List.map_cons, List.map_nil, h (.tmp 61) _ rfl]) rfl el44 zero4 rfl rfl rfl rfl rfl rfl ?_); intro v48
              refine stw (o_app 4 0 rfl rfl reads_own (.inr flelBool.free) rfl rfl rfl el44 rfl zero4 rfl rfl ?_); intro v50
              refine o_as st rfl rfl ?_
              refine c_nil ?_
              refine b_norm ?_
              refine l_then ?_
              refine c_region ?_
              refine o_mv st rfl rfl ?_
              refine o_add st rfl rfl rfl ?_; intro t52
              refine o_as st rfl rfl ?_
              refine c_nil ?_
              exact l_join (t34, t35, t36, t37, (xs16 ++ ([t38])), t52) (fun a w hE hm => ⟨v50, hE.sub ⟨rfl, rfl, rfl, rfl, trivial⟩, (hm.pick [2, 3, 4] rfl)⟩)
      · refine c_exit ?_
        refine l_exit ?_
        refine l_exit ?_
        refine b_exit ?_
        refine l_then ?_
        refine c_seq ?_
        refine c_region ?_
        refine o_mv st rfl rfl ?_
        refine o_as st rfl rfl ?_
        refine c_nil ?_
        refine l_then ?_
        refine c_ret ?_
        exact l_end1 Try.results31 xs16 v17 (rv_t rfl) (fun w m => NewCh.of m [2] rfl (fr_cons (free_own flelBool) fr_nil))

set_option maxRecDepth 100000 in
set_option maxHeartbeats 8000000 in
theorem w_laws_toIntS {w0 : World} {F : Nat → Prop} {v1 : Value} {a_0 : (List Int)} {κ : (List Int) → Prop} (hv1 : Sl elInt (fun b => b < w0.heap.size ∧ ¬ feet [] b) w0 v1 a_0) (h : L_laws_toIntS a_0 κ) :
    Calls Try.prog 32 #[v1] w0 (Ret [] F w0 κ (fun (r : (List Int)) (u : Value) => u) (fun (r : (List Int)) (u : Value) => [ownCh elInt 3 u (r)])) := by
  refine enter (args := [v1]) [] Try.func32 rfl Try.ntmps32 rfl [roCh elInt v1 a_0] (hf_cons hf_nil) (hh_cons hv1 hh_nil) (Given.nil w0).lt (Given.nil w0).disj (Given.nil w0).hold h ?_
  clear h hv1
  refine c_seq ?_
  refine c_region ?_
  refine stw (o_asn elInt 3 rfl rfl ?_)
  refine c_nil ?_
  refine l_then ?_
  refine c_seq ?_
  refine c_region ?_
  refine o_mv st rfl rfl ?_
  refine o_len st el41 1 rfl reads_ro rfl rfl ?_
  refine stw (o_make (z := 0) flelInt rfl rfl rfl el41 rfl zero3 rfl rfl ?_); intro v4 xs5
  refine o_as st rfl rfl ?_
  refine c_nil ?_
  refine l_then ?_
  refine c_seq ?_
  refine c_seq ?_
  refine c_region ?_
  refine o_as st rfl rfl ?_
  refine c_nil ?_
  refine l_then ?_
  refine c_block ?_
  refine c_loop (σ := ((List Int) × Int)) (fun ((xs7, t9) : ((List Int) × Int)) (a : Act) (w : World) => Has 22 [(0, v1), (3, v4), (4, (.int .i64 t9))] a ∧ Mem (fun _ => True) (feet []) w0 [ownCh elInt 3 v4 xs7, roCh elInt v1 a_0] w) (fun a w hE hm => ⟨hE.sub ⟨rfl, rfl, rfl, trivial⟩, (hm.pick [0, 2] rfl)⟩) ?_
  rintro nx10 ⟨xs7, t9⟩ a w ⟨hE, hm⟩ h
  refine nx_of hE hm h ?_
  clear hE hm h
  refine c_seq ?_
  refine c_seq ?_
  refine c_region ?_
  refine o_mv st rfl rfl ?_
  refine o_mv st rfl rfl ?_
  refine o_len st el41 1 rfl reads_ro rfl rfl ?_
  refine o_lss st rfl rfl rfl ?_
  refine c_nil ?_
  refine l_then ?_
  refine c_cond rfl ?_ ?_
  · refine c_skip ?_
    refine l_then ?_
    refine c_seq ?_
    refine c_block ?_
    refine c_region ?_
    refine o_mv st rfl rfl ?_
    refine o_mv st rfl rfl ?_
    refine o_mv st rfl rfl ?_
    refine o_mv st rfl rfl ?_
    refine o_idx st 1 rfl reads_ro rfl rfl rfl el41 ?_; intro e11 h12
    refine o_lds st (enc := encInt) (u := (.int .i64 e11)) 1 rfl reads_ro flelInt rfl h12 rfl rfl ty3 rfl ?_
    refine o_idx st 0 rfl reads_own rfl rfl rfl el41 ?_; intro e13 h14
    refine stw (o_sts (enc := encInt) (y' := e11) 0 rfl flelInt rfl h14 ty3 rfl rfl rfl rfl rfl rfl ?_)
    refine c_nil ?_
    refine b_norm ?_
    refine l_then ?_
    refine c_region ?_
    refine o_mv st rfl rfl ?_
    refine o_add st rfl rfl rfl ?_; intro t16
    refine o_as st rfl rfl ?_
    refine c_nil ?_
    exact l_join ((xs7.set t9.toNat e11), t16) (fun a w hE hm => ⟨hE.sub ⟨rfl, rfl, rfl, trivial⟩, (hm.pick [0, 1] rfl)⟩)
  · refine c_exit ?_
    refine l_exit ?_
    refine l_exit ?_
    refine b_exit ?_
    refine l_then ?_
    refine c_seq ?_
    refine c_region ?_
    refine o_mv st rfl rfl ?_
    refine o_as st rfl rfl ?_
    refine c_nil ?_
    refine l_then ?_
    refine c_ret ?_
    exact l_end1 Try.results32 xs7 v4 (rv_t rfl) (fun w m => NewCh.of m [0] rfl (fr_cons (free_own flelInt) fr_nil))

set_option maxRecDepth 100000 in
set_option maxHeartbeats 8000000 in
theorem w_laws_eqBoolS {w0 : World} {F : Nat → Prop} {v1 v3 : Value} {a_0 : (List Bool)} {b_1 : (List Bool)} {κ : Bool → Prop} (hv1 : Sl elBool (fun b => b < w0.heap.size ∧ ¬ feet [] b) w0 v1 a_0) (hv3 : Sl elBool (fun b => b < w0.heap.size ∧ ¬ feet [] b) w0 v3 b_1) (h : L_laws_eqBoolS a_0 b_1 κ) :
    Calls Try.prog 33 #[v1, v3] w0 (Ret [] F w0 κ (fun (r : Bool) (u : Unit) => (.bool r)) (fun (r : Bool) (u : Unit) => [])) := by
  refine enter (args := [v1, v3]) [] Try.func33 rfl Try.ntmps33 rfl [roCh elBool v1 a_0, roCh elBool v3 b_1] (hf_cons (hf_cons hf_nil)) (hh_cons hv1 (hh_cons hv3 hh_nil)) (Given.nil w0).lt (Given.nil w0).disj (Given.nil w0).hold h ?_
  clear h hv1 hv3
  refine c_seq ?_
  refine c_region ?_
  refine o_as st rfl rfl ?_
  refine c_nil ?_
  refine l_then ?_
  refine c_seq ?_
  refine c_seq ?_
  refine c_region ?_
  refine o_mv st rfl rfl ?_
  refine o_len st el44 0 rfl reads_ro rfl rfl ?_
  refine o_mv st rfl rfl ?_
  refine o_len st el44 1 rfl reads_ro rfl rfl ?_
  refine o_neq st und3 rfl rfl rfl ?_
  refine c_nil ?_
  refine l_then ?_
  refine c_cond rfl ?_ ?_
  · refine c_seq ?_
    refine c_region ?_
    refine o_as st rfl rfl ?_
    refine c_nil ?_
    refine l_then ?_
    refine c_ret ?_
    refine l_ret ?_
    exact l_end1 Try.results33 false () (rv_t rfl) (fun _ _ => NewCh.nil _ _ _ _)
  · refine c_skip ?_
    refine l_then ?_
    refine c_seq ?_
    refine c_seq ?_
    refine c_region ?_
    refine o_as st rfl rfl ?_
    refine c_nil ?_
    refine l_then ?_
    refine c_block ?_
    refine c_loop (σ := Int) (fun (t5 : Int) (a : Act) (w : World) => Has 26 [(0, v1), (1, v3), (5, (.int .i64 t5))] a ∧ Mem (fun _ => True) (feet []) w0 [roCh elBool v1 a_0, roCh elBool v3 b_1] w) (fun a w hE hm => ⟨hE.sub ⟨rfl, rfl, rfl, trivial⟩, (hm.pick [0, 1] rfl)⟩) ?_
    rintro nx6 t5 a w ⟨hE, hm⟩ h
    refine nx_of hE hm h ?_
    clear hE hm h
    refine c_seq ?_
    refine c_seq ?_
    refine c_region ?_
    refine o_mv st rfl rfl ?_
    refine o_mv st rfl rfl ?_
    refine o_len st el44 0 rfl reads_ro rfl rfl ?_
    refine o_lss st rfl rfl rfl ?_
    refine c_nil ?_
    refine l_then ?_
    refine c_cond rfl ?_ ?_
    · refine c_skip ?_
      refine l_then ?_
      refine c_seq ?_
      refine c_block ?_
      refine c_seq ?_
      refine c_draw mixed 9 rfl [roCh elBool v1 a_0, roCh elBool v3 b_1] ?_
      refine o_mv (d_take (i := 0) rfl (by kernel_rfl) (by kernel_rfl) (by kernel_rfl) (fun c a d v w h => by cases d <;> exact h) (fun w m => m.pick [0, 1] rfl)) rfl rfl ?_
      refine o_mv (d_take (i := 1) rfl (by kernel_rfl) (by kernel_rfl) (by kernel_rfl) (fun c a d v w h => by cases d <;> exact h) (fun w m => m.pick [0, 1] rfl)) rfl rfl ?_
      refine o_idx (d_take (i := 2) rfl (by kernel_rfl) (by kernel_rfl) (by kernel_rfl) (fun c a d v w h => by cases d <;> exact h) (fun w m => m.pick [0, 1] rfl)) 0 rfl reads_ro rfl rfl rfl el44 ?_; intro e7 h8
      refine o_lds (d_take (i := 3) rfl (by kernel_rfl) (by kernel_rfl) (by kernel_rfl) (fun c a d v w h => by cases d <;> exact h) (fun w m => m.pick [0, 1] rfl)) (enc := encBool) (u := (.bool e7)) 0 rfl reads_ro flelBool rfl h8 rfl rfl ty4 rfl ?_
      refine o_mv (d_take (i := 4) rfl (by kernel_rfl) (by kernel_rfl) (by kernel_rfl) (fun c a d v w h => by cases d <;> exact h) (fun w m => m.pick [0, 1] rfl)) rfl rfl ?_
      refine o_mv (d_take (i := 5) rfl (by kernel_rfl) (by kernel_rfl) (by kernel_rfl) (fun c a d v w h => by cases d <;> exact h) (fun w m => m.pick [0, 1] rfl)) rfl rfl ?_
      refine o_idx (d_take (i := 6) rfl (by kernel_rfl) (by kernel_rfl) (by kernel_rfl) (fun c a d v w h => by cases d <;> exact h) (fun w m => m.pick [0, 1] rfl)) 1 rfl reads_ro rfl rfl rfl el44 ?_; intro e9 h10
      refine o_lds (d_take (i := 7) rfl (by kernel_rfl) (by kernel_rfl) (by kernel_rfl) (fun c a d v w h => by cases d <;> exact h) (fun w m => m.pick [0, 1] rfl)) (enc := encBool) (u := (.bool e9)) 1 rfl reads_ro flelBool rfl h10 rfl rfl ty4 rfl ?_
      refine o_neqB (d_take (i := 8) rfl (by kernel_rfl) (by kernel_rfl) (by kernel_rfl) (fun c a d v w h => by cases d <;> exact h) (fun w m => m.pick [0, 1] rfl)) und4 rfl rfl rfl ?_
      refine d_done (by kernel_rfl) ?_
      refine l_then ?_
      refine c_cond rfl ?_ ?_
      · refine c_seq ?_
        refine c_region ?_
        refine o_as st rfl rfl ?_
        refine c_nil ?_
        refine l_then ?_
        refine c_ret ?_
        refine b_ret ?_
        refine l_ret ?_
        refine l_ret ?_
        refine b_ret ?_
        refine l_ret ?_
        exact l_end1 Try.results33 false () (rv_t rfl) (fun _ _ => NewCh.nil _ _ _ _)
      · refine c_skip ?_
        refine b_norm ?_
        refine l_then ?_
        refine c_region ?_
        refine o_mv st rfl rfl ?_
        refine o_add st rfl rfl rfl ?_; intro t11
        refine o_as st rfl rfl ?_
        refine c_nil ?_
        exact l_join t11 (fun a w hE hm => ⟨hE.sub ⟨rfl, rfl, rfl, trivial⟩, (hm.pick [0, 1] rfl)⟩)
    · refine c_exit ?_
      refine l_exit ?_
      refine l_exit ?_
      refine b_exit ?_
      refine l_then ?_
      refine c_seq ?_
      refine c_region ?_
      refine o_as st rfl rfl ?_
      refine c_nil ?_
      refine l_then ?_
      refine c_ret ?_
      exact l_end1 Try.results33 true () (rv_t rfl) (fun _ _ => NewCh.nil _ _ _ _)

set_option maxRecDepth 100000 in
set_option maxHeartbeats 8000000 in
theorem w_laws_eqIntS {w0 : World} {F : Nat → Prop} {v1 v3 : Value} {a_0 : (List Int)} {b_1 : (List Int)} {κ : Bool → Prop} (hv1 : Sl elInt (fun b => b < w0.heap.size ∧ ¬ feet [] b) w0 v1 a_0) (hv3 : Sl elInt (fun b => b < w0.heap.size ∧ ¬ feet [] b) w0 v3 b_1) (h : L_laws_eqIntS a_0 b_1 κ) :
    Calls Try.prog 34 #[v1, v3] w0 (Ret [] F w0 κ (fun (r : Bool) (u : Unit) => (.bool r)) (fun (r : Bool) (u : Unit) => [])) := by
  refine enter (args := [v1, v3]) [] Try.func34 rfl Try.ntmps34 rfl [roCh elInt v1 a_0, roCh elInt v3 b_1] (hf_cons (hf_cons hf_nil)) (hh_cons hv1 (hh_cons hv3 hh_nil)) (Given.nil w0).lt (Given.nil w0).disj (Given.nil w0).hold h ?_
  clear h hv1 hv3
  refine c_seq ?_
  refine c_region ?_
  refine o_as st rfl rfl ?_
  refine c_nil ?_
  refine l_then ?_
  refine c_seq ?_
  refine c_seq ?_
  refine c_region ?_
  refine o_mv st rfl rfl ?_
  refine o_len st el41 0 rfl reads_ro rfl rfl ?_
  refine o_mv st rfl rfl ?_
  refine o_len st el41 1 rfl reads_ro rfl rfl ?_
  refine o_neq st und3 rfl rfl rfl ?_
  refine c_nil ?_
  refine l_then ?_
  refine c_cond rfl ?_ ?_
  · refine c_seq ?_
    refine c_region ?_
    refine o_as st rfl rfl ?_
    refine c_nil ?_
    refine l_then ?_
    refine c_ret ?_
    refine l_ret ?_
    exact l_end1 Try.results34 false () (rv_t rfl) (fun _ _ => NewCh.nil _ _ _ _)
  · refine c_skip ?_
    refine l_then ?_
    refine c_seq ?_
    refine c_seq ?_
    refine c_region ?_
    refine o_as st rfl rfl ?_
    refine c_nil ?_
    refine l_then ?_
    refine c_block ?_
    refine c_loop (σ := Int) (fun (t5 : Int) (a : Act) (w : World) => Has 26 [(0, v1), (1, v3), (5, (.int .i64 t5))] a ∧ Mem (fun _ => True) (feet []) w0 [roCh elInt v1 a_0, roCh elInt v3 b_1] w) (fun a w hE hm => ⟨hE.sub ⟨rfl, rfl, rfl, trivial⟩, (hm.pick [0, 1] rfl)⟩) ?_
    rintro nx6 t5 a w ⟨hE, hm⟩ h
    refine nx_of hE hm h ?_
    clear hE hm h
    refine c_seq ?_
    refine c_seq ?_
    refine c_region ?_
    refine o_mv st rfl rfl ?_
    refine o_mv st rfl rfl ?_
    refine o_len st el41 0 rfl reads_ro rfl rfl ?_
    refine o_lss st rfl rfl rfl ?_
    refine c_nil ?_
    refine l_then ?_
    refine c_cond rfl ?_ ?_
    · refine c_skip ?_
      refine l_then ?_
      refine c_seq ?_
      refine c_block ?_
      refine c_seq ?_
      refine c_draw mixed 9 rfl [roCh elInt v1 a_0, roCh elInt v3 b_1] ?_
      refine o_mv (d_take (i := 0) rfl (by kernel_rfl) (by kernel_rfl) (by kernel_rfl) (fun c a d v w h => by cases d <;> exact h) (fun w m => m.pick [0, 1] rfl)) rfl rfl ?_
      refine o_mv (d_take (i := 1) rfl (by kernel_rfl) (by kernel_rfl) (by kernel_rfl) (fun c a d v w h => by cases d <;> exact h) (fun w m => m.pick [0, 1] rfl)) rfl rfl ?_
      refine o_idx (d_take (i := 2) rfl (by kernel_rfl) (by kernel_rfl) (by kernel_rfl) (fun c a d v w h => by cases d <;> exact h) (fun w m => m.pick [0, 1] rfl)) 0 rfl reads_ro rfl rfl rfl el41 ?_; intro e7 h8
      refine o_lds (d_take (i := 3) rfl (by kernel_rfl) (by kernel_rfl) (by kernel_rfl) (fun c a d v w h => by cases d <;> exact h) (fun w m => m.pick [0, 1] rfl)) (enc := encInt) (u := (.int .i64 e7)) 0 rfl reads_ro flelInt rfl h8 rfl rfl ty3 rfl ?_
      refine o_mv (d_take (i := 4) rfl (by kernel_rfl) (by kernel_rfl) (by kernel_rfl) (fun c a d v w h => by cases d <;> exact h) (fun w m => m.pick [0, 1] rfl)) rfl rfl ?_
      refine o_mv (d_take (i := 5) rfl (by kernel_rfl) (by kernel_rfl) (by kernel_rfl) (fun c a d v w h => by cases d <;> exact h) (fun w m => m.pick [0, 1] rfl)) rfl rfl ?_
      refine o_idx (d_take (i := 6) rfl (by kernel_rfl) (by kernel_rfl) (by kernel_rfl) (fun c a d v w h => by cases d <;> exact h) (fun w m => m.pick [0, 1] rfl)) 1 rfl reads_ro rfl rfl rfl el41 ?_; intro e9 h10
      refine o_lds (d_take (i := 7) rfl (by kernel_rfl) (by kernel_rfl) (by kernel_rfl) (fun c a d v w h => by cases d <;> exact h) (fun w m => m.pick [0, 1] rfl)) (enc := encInt) (u := (.int .i64 e9)) 1 rfl reads_ro flelInt rfl h10 rfl rfl ty3 rfl ?_
      refine o_neq (d_take (i := 8) rfl (by kernel_rfl) (by kernel_rfl) (by kernel_rfl) (fun c a d v w h => by cases d <;> exact h) (fun w m => m.pick [0, 1] rfl)) und3 rfl rfl rfl ?_
      refine d_done (by kernel_rfl) ?_
      refine l_then ?_
      refine c_cond rfl ?_ ?_
      · refine c_seq ?_
        refine c_region ?_
        refine o_as st rfl rfl ?_
        refine c_nil ?_
        refine l_then ?_
        refine c_ret ?_
        refine b_ret ?_
        refine l_ret ?_
        refine l_ret ?_
        refine b_ret ?_
        refine l_ret ?_
        exact l_end1 Try.results34 false () (rv_t rfl) (fun _ _ => NewCh.nil _ _ _ _)
      · refine c_skip ?_
        refine b_norm ?_
        refine l_then ?_
        refine c_region ?_
        refine o_mv st rfl rfl ?_
        refine o_add st rfl rfl rfl ?_; intro t11
        refine o_as st rfl rfl ?_
        refine c_nil ?_
        exact l_join t11 (fun a w hE hm => ⟨hE.sub ⟨rfl, rfl, rfl, trivial⟩, (hm.pick [0, 1] rfl)⟩)
    · refine c_exit ?_
      refine l_exit ?_
      refine l_exit ?_
      refine b_exit ?_
      refine l_then ?_
      refine c_seq ?_
      refine c_region ?_
      refine o_as st rfl rfl ?_
      refine c_nil ?_
      refine l_then ?_
      refine c_ret ?_
      exact l_end1 Try.results34 true () (rv_t rfl) (fun _ _ => NewCh.nil _ _ _ _)

set_option maxRecDepth 100000 in
set_option maxHeartbeats 8000000 in
theorem w_laws_markIntS {w0 : World} {F : Nat → Prop} {v1 : Value} {a_0 : (List Int)} {k_1 : Int} {κ : (Int × (List Int)) → Prop} (hg : Given [ownCh elInt 3 v1 a_0] w0) (h : L_laws_markIntS a_0 k_1 κ) :
    Calls Try.prog 35 #[v1, (.int .i64 k_1)] w0 (Ret [ownCh elInt 3 v1 a_0] F w0 κ (fun (r : (Int × (List Int))) (u : Unit) => (.int .i64 r.1)) (fun (r : (Int × (List Int))) (u : Unit) => [ownCh elInt 3 v1 (r.2)])) := by
  refine enter (args := [v1, (.int .i64 k_1)]) [ownCh elInt 3 v1 a_0] Try.func35 rfl Try.ntmps35 rfl [] hf_nil hh_nil hg.lt hg.disj hg.hold h ?_
  clear h hg
  refine c_seq ?_
  refine c_region ?_
  refine o_as st rfl rfl ?_
  refine c_nil ?_
  refine l_then ?_
  refine c_seq ?_
  refine c_seq ?_
  refine c_region ?_
  refine o_as st rfl rfl ?_
  refine c_nil ?_
  refine l_then ?_
  refine c_block ?_
  refine c_loop (σ := ((List Int) × Int × Int)) (fun ((xs3, t5, t6) : ((List Int) × Int × Int)) (a : Act) (w : World) => Has 19 [(0, v1), (1, (.int .i64 t5)), (5, (.int .i64 t6))] a ∧ Mem (fun _ => True) (feet [ownCh elInt 3 v1 a_0]) w0 [ownCh elInt 3 v1 xs3] w) (fun a w hE hm => ⟨hE.sub ⟨rfl, rfl, rfl, trivial⟩, (hm.pick [0] rfl)⟩) ?_
  rintro nx7 ⟨xs3, t5, t6⟩ a w ⟨hE, hm⟩ h
  refine nx_of hE hm h ?_
  clear hE hm h
  refine c_seq ?_
  refine c_seq ?_
  refine c_region ?_
  refine o_mv st rfl rfl ?_
  refine o_mv st rfl rfl ?_
  refine o_len st el41 0 rfl reads_own rfl rfl ?_
  refine o_lss st rfl rfl rfl ?_
  refine c_nil ?_
  refine l_then ?_
  refine c_cond rfl ?_ ?_
  · refine c_skip ?_
    refine l_then ?_
    refine c_seq ?_
    refine c_block ?_
    refine c_seq ?_
    refine c_region ?_
    refine o_mv st rfl rfl ?_
    refine o_mv st rfl rfl ?_
    refine o_mv st rfl rfl ?_
    refine o_idx st 0 rfl reads_own rfl rfl rfl el41 ?_; intro e8 h9
    refine stw (o_sts (enc := encInt) (y' := t5) 0 rfl flelInt rfl h9 ty3 rfl rfl rfl rfl rfl rfl ?_)
    refine c_nil ?_
    refine l_then ?_
    refine c_region ?_
    refine o_mv st rfl rfl ?_
    refine o_add st rfl rfl rfl ?_; intro t11
    refine o_as st rfl rfl ?_
    refine c_nil ?_
    refine b_norm ?_
    refine l_then ?_
    refine c_region ?_
    refine o_mv st rfl rfl ?_
    refine o_add st rfl rfl rfl ?_; intro t12
    refine o_as st rfl rfl ?_
    refine c_nil ?_
    exact l_join ((xs3.set t6.toNat t5), t11, t12) (fun a w hE hm => ⟨hE.sub ⟨rfl, rfl, rfl, trivial⟩, (hm.pick [0] rfl)⟩)
  · refine c_exit ?_
    refine l_exit ?_
    refine l_exit ?_
    refine b_exit ?_
    refine l_then ?_
    refine c_seq ?_
    refine c_region ?_
    refine o_mv st rfl rfl ?_
    refine o_as st rfl rfl ?_
    refine c_nil ?_
    refine l_then ?_
    refine c_ret ?_
    exact l_end1 Try.results35 (t5, xs3) () (rv_t rfl) (fun w m => NewCh.of m [0] rfl (fr_cons (free_own flelInt) fr_nil))

set_option maxRecDepth 100000 in
set_option maxHeartbeats 8000000 in
theorem w_laws_markBoolS {w0 : World} {F : Nat → Prop} {v1 : Value} {a_0 : (List Bool)} {k_1 : Int} {κ : (Int × (List Bool)) → Prop} (hg : Given [ownCh elBool 4 v1 a_0] w0) (h : L_laws_markBoolS a_0 k_1 κ) :
    Calls Try.prog 36 #[v1, (.int .i64 k_1)] w0 (Ret [ownCh elBool 4 v1 a_0] F w0 κ (fun (r : (Int × (List Bool))) (u : Unit) => (.int .i64 r.1)) (fun (r : (Int × (List Bool))) (u : Unit) => [ownCh elBool 4 v1 (r.2)])) := by
  refine enter (args := [v1, (.int .i64 k_1)]) [ownCh elBool 4 v1 a_0] Try.func36 rfl Try.ntmps36 rfl [] hf_nil hh_nil hg.lt hg.disj hg.hold h ?_
  clear h hg
  refine c_seq ?_
  refine c_region ?_
  refine o_as st rfl rfl ?_
  refine c_nil ?_
  refine l_then ?_
  refine c_seq ?_
  refine c_seq ?_
  refine c_region ?_
  refine o_as st rfl rfl ?_
  refine c_nil ?_
  refine l_then ?_
  refine c_block ?_
  refine c_loop (σ := ((List Bool) × Int × Int)) (fun ((xs3, t5, t6) : ((List Bool) × Int × Int)) (a : Act) (w : World) => Has 21 [(0, v1), (1, (.int .i64 t5)), (5, (.int .i64 t6))] a ∧ Mem (fun _ => True) (feet [ownCh elBool 4 v1 a_0]) w0 [ownCh elBool 4 v1 xs3] w) (fun a w hE hm => ⟨hE.sub ⟨rfl, rfl, rfl, trivial⟩, (hm.pick [0] rfl)⟩) ?_
  rintro nx7 ⟨xs3, t5, t6⟩ a w ⟨hE, hm⟩ h
  refine nx_of hE hm h ?_
  clear hE hm h
  refine c_seq ?_
  refine c_seq ?_
  refine c_region ?_
  refine o_mv st rfl rfl ?_
  refine o_mv st rfl rfl ?_
  refine o_len st el44 0 rfl reads_own rfl rfl ?_
  refine o_lss st rfl rfl rfl ?_
  refine c_nil ?_
  refine l_then ?_
  refine c_cond rfl ?_ ?_
  · refine c_skip ?_
    refine l_then ?_
    refine c_seq ?_
    refine c_block ?_
    refine c_seq ?_
    refine c_region ?_
    refine o_mv st rfl rfl ?_
    refine o_mv st rfl rfl ?_
    refine o_mv st rfl rfl ?_
    refine o_rem st rfl rfl rfl ?_; intro t8
    refine o_eql st und3 rfl rfl rfl ?_
    refine o_idx st 0 rfl reads_own rfl rfl rfl el44 ?_; intro e9 h10
    refine stw (o_sts (enc := encBool) (y' := (decide (t8 = 0))) 0 rfl flelBool rfl h10 ty4 rfl rfl rfl rfl rfl rfl ?_)
    refine c_nil ?_
    refine l_then ?_
    refine c_region ?_
    refine o_mv st rfl rfl ?_
    refine o_add st rfl rfl rfl ?_; intro t12
    refine o_as st rfl rfl ?_
    refine c_nil ?_
    refine b_norm ?_
    refine l_then ?_
    refine c_region ?_
    refine o_mv st rfl rfl ?_
    refine o_add st rfl rfl rfl ?_; intro t13
    refine o_as st rfl rfl ?_
    refine c_nil ?_
    exact l_join ((xs3.set t6.toNat (decide (t8 = 0))), t12, t13) (fun a w hE hm => ⟨hE.sub ⟨rfl, rfl, rfl, trivial⟩, (hm.pick [0] rfl)⟩)
  · refine c_exit ?_
    refine l_exit ?_
    refine l_exit ?_
    refine b_exit ?_
    refine l_then ?_
    refine c_seq ?_
    refine c_region ?_
    refine o_mv st rfl rfl ?_
    refine o_as st rfl rfl ?_
    refine c_nil ?_
    refine l_then ?_
    refine c_ret ?_
    exact l_end1 Try.results36 (t5, xs3) () (rv_t rfl) (fun w m => NewCh.of m [0] rfl (fr_cons (free_own flelBool) fr_nil))

set_option maxRecDepth 100000 in
set_option maxHeartbeats 8000000 in
theorem w_laws_heldBoolS {w0 : World} {F : Nat → Prop} {v1 : Value} {a_0 : (List Bool)} {k_1 : Int} {κ : Int → Prop} (hv1 : Sl elBool (fun b => b < w0.heap.size ∧ ¬ feet [] b) w0 v1 a_0) (h : L_laws_heldBoolS a_0 k_1 κ) :
    Calls Try.prog 37 #[v1, (.int .i64 k_1)] w0 (Ret [] F w0 κ (fun (r : Int) (u : Unit) => (.int .i64 r)) (fun (r : Int) (u : Unit) => [])) := by
  refine enter (args := [v1, (.int .i64 k_1)]) [] Try.func37 rfl Try.ntmps37 rfl [roCh elBool v1 a_0] (hf_cons hf_nil) (hh_cons hv1 hh_nil) (Given.nil w0).lt (Given.nil w0).disj (Given.nil w0).hold h ?_
  clear h hv1
  refine c_seq ?_
  refine c_region ?_
  refine o_as st rfl rfl ?_
  refine c_nil ?_
  refine l_then ?_
  refine c_seq ?_
  refine c_seq ?_
  refine c_region ?_
  refine o_as st rfl rfl ?_
  refine c_nil ?_
  refine l_then ?_
  refine c_block ?_
  refine c_loop (σ := (Int × Int)) (fun ((t3, t4) : (Int × Int)) (a : Act) (w : World) => Has 23 [(0, v1), (1, (.int .i64 t3)), (5, (.int .i64 t4))] a ∧ Mem (fun _ => True) (feet []) w0 [roCh elBool v1 a_0] w) (fun a w hE hm => ⟨hE.sub ⟨rfl, rfl, rfl, trivial⟩, (hm.pick [0] rfl)⟩) ?_
  rintro nx5 ⟨t3, t4⟩ a w ⟨hE, hm⟩ h
  refine nx_of hE hm h ?_
  clear hE hm h
  refine c_seq ?_
  refine c_seq ?_
  refine c_region ?_
  refine o_mv st rfl rfl ?_
  refine o_mv st rfl rfl ?_
  refine o_len st el44 0 rfl reads_ro rfl rfl ?_
  refine o_lss st rfl rfl rfl ?_
  refine c_nil ?_
  refine l_then ?_
  refine c_cond rfl ?_ ?_
  · refine c_skip ?_
    refine l_then ?_
    refine c_seq ?_
    refine c_block ?_
    refine c_seq ?_
    refine c_seq ?_
    refine c_region ?_
    refine o_mv st rfl rfl ?_
    refine o_mv st rfl rfl ?_
    refine o_idx st 0 rfl reads_ro rfl rfl rfl el44 ?_; intro e6 h7
    refine o_lds st (enc := encBool) (u := (.bool e6)) 0 rfl reads_ro flelBool rfl h7 rfl rfl ty4 rfl ?_
    refine o_mv st rfl rfl ?_
    refine o_rem st rfl rfl rfl ?_; intro t8
    refine o_eql st und3 rfl rfl rfl ?_
    refine o_neqB st und4 rfl rfl rfl ?_
    refine c_nil ?_
    refine l_then ?_
    refine c_cond rfl ?_ ?_
    · refine c_seq ?_
      refine c_region ?_
      refine o_as st rfl rfl ?_
      refine c_nil ?_
      refine l_then ?_
      refine c_ret ?_
      refine l_ret ?_
      refine b_ret ?_
      refine l_ret ?_
      refine l_ret ?_
      refine b_ret ?_
      refine l_ret ?_
      exact l_end1 Try.results37 (-1) () (rv_t rfl) (fun _ _ => NewCh.nil _ _ _ _)
    · refine c_skip ?_
      refine l_then ?_
      refine c_region ?_
      refine o_mv st rfl rfl ?_
      refine o_add st rfl rfl rfl ?_; intro t9
      refine o_as st rfl rfl ?_
      refine c_nil ?_
      refine b_norm ?_
      refine l_then ?_
      refine c_region ?_
      refine o_mv st rfl rfl ?_
      refine o_add st rfl rfl rfl ?_; intro t10
      refine o_as st rfl rfl ?_
      refine c_nil ?_
      exact l_join (t9, t10) (fun a w hE hm => ⟨hE.sub ⟨rfl, rfl, rfl, trivial⟩, (hm.pick [0] rfl)⟩)
  · refine c_exit ?_
    refine l_exit ?_
    refine l_exit ?_
    refine b_exit ?_
    refine l_then ?_
    refine c_seq ?_
    refine c_region ?_
    refine o_mv st rfl rfl ?_
    refine o_as st rfl rfl ?_
    refine c_nil ?_
    refine l_then ?_
    refine c_ret ?_
    exact l_end1 Try.results37 t3 () (rv_t rfl) (fun _ _ => NewCh.nil _ _ _ _)

set_option maxRecDepth 100000 in
set_option maxHeartbeats 8000000 in
theorem w_laws_FnExactTakeMany {w0 : World} {F : Nat → Prop} {v1 : Value} {aB_0 : GBucket} {aTimes_1 : (List Int)} {κ : Bool → Prop} (hv1 : Sl elInt (fun b => b < w0.heap.size ∧ ¬ feet [] b) w0 v1 aTimes_1) (h : L_laws_FnExactTakeMany aB_0 aTimes_1 κ) :
    Calls Try.prog 12 #[(.agg #[(.int .i64 aB_0.xSize), (.int .i64 aB_0.xEvery), (.int .i64 aB_0.xTokens), (.int .i64 aB_0.xLast)]), v1] w0 (Ret [] F w0 κ (fun (r : Bool) (u : Unit) => (.bool r)) (fun (r : Bool) (u : Unit) => [])) := by
  refine enter (args := [(.agg #[(.int .i64 aB_0.xSize), (.int .i64 aB_0.xEvery), (.int .i64 aB_0.xTokens), (.int .i64 aB_0.xLast)]), v1]) [] Try.func12 rfl Try.ntmps12 rfl [roCh elInt v1 aTimes_1] (hf_cons hf_nil) (hh_cons hv1 hh_nil) (Given.nil w0).lt (Given.nil w0).disj (Given.nil w0).hold h ?_
  clear h hv1
  refine c_seq ?_
  refine c_region ?_
  refine stw (o_box rfl rfl [(.int .i64 aB_0.xSize), (.int .i64 aB_0.xEvery), (.int .i64 aB_0.xTokens), (.int .i64 aB_0.xLast)] rfl ?_); intro b3
  refine o_as st rfl rfl ?_
  refine c_nil ?_
  refine l_then ?_
  refine c_seq ?_
  refine c_seq ?_
  refine c_region ?_
  refine o_mv st rfl rfl ?_
  refine o_len st el41 1 rfl reads_ro rfl rfl ?_
  refine o_gtr st rfl rfl rfl ?_
  refine c_nil ?_
  refine l_then ?_
  refine c_cond rfl ?_ ?_
  · refine c_seq ?_
    refine c_region ?_
    refine o_as st rfl rfl ?_
    refine c_nil ?_
    refine l_then ?_
    refine c_ret ?_
    refine l_ret ?_
    exact l_end1 Try.results12 true () (rv_t rfl) (fun _ _ => NewCh.nil _ _ _ _)
  · refine c_skip ?_
    refine l_then ?_
    refine c_seq ?_
    refine c_region ?_
    refine o_ldc st (v := (.agg #[(.int .i64 aB_0.xSize), (.int .i64 aB_0.xEvery), (.int .i64 aB_0.xTokens), (.int .i64 aB_0.xLast)])) 0 rfl rfl rfl ty23 rfl ?_
    refine stw (o_callP (vs := [(.agg #[(.int .i64 aB_0.xSize), (.int .i64 aB_0.xEvery), (.int .i64 aB_0.xTokens), (.int .i64 aB_0.xLast)])]) Try.call15 rfl rfl (by intro w m h; exact w_laws_toBucket (a_0 := aB_0) h) ?_); rintro r5 _
    refine o_mv st rfl rfl ?_
    refine stw (o_callP (vs := [v1]) Try.call32 rfl rfl (by intro w m h; exact w_laws_toIntS (a_0 := aTimes_1) (m.rd0 1 rfl reads_ro) h) ?_); rintro r6 v7
    refine stw (o_callP (vs := [(.agg #[(.int .i64 r5.xSize), (.int .i64 r5.xEvery), (.int .i64 r5.xTokens), (.int .i64 r5.xLast)]), v7]) Try.call31 rfl rfl (by intro w m h; exact w_spec_TakeMany (b_0 := r5) (times_1 := r6) (m.rd0 0 rfl reads_own) h) ?_); rintro r9 v10
    refine o_as st rfl rfl ?_
    refine c_nil ?_
    refine l_then ?_
    refine c_seq ?_
    refine c_region ?_
    refine o_mv st rfl rfl ?_
    refine stw (o_callP (vs := [v1]) Try.call32 rfl rfl (by intro w m h; exact w_laws_toIntS (a_0 := aTimes_1) (m.rd0 3 rfl reads_ro) h) ?_); rintro r12 v13
    refine o_as st rfl rfl ?_
    refine c_nil ?_
    refine l_then ?_
    refine c_seq ?_
    refine c_region ?_
    refine o_ldc st (v := (.agg #[(.int .i64 aB_0.xSize), (.int .i64 aB_0.xEvery), (.int .i64 aB_0.xTokens), (.int .i64 aB_0.xLast)])) 3 rfl rfl rfl ty23 rfl ?_
    refine stw (o_callP (vs := [(.agg #[(.int .i64 aB_0.xSize), (.int .i64 aB_0.xEvery), (.int .i64 aB_0.xTokens), (.int .i64 aB_0.xLast)])]) Try.call15 rfl rfl (by intro w m h; exact w_laws_toBucket (a_0 := aB_0) h) ?_); rintro r15 _
    refine o_mv st rfl rfl ?_
    refine stw (o_callP (vs := [(.agg #[(.int .i64 r15.xSize), (.int .i64 r15.xEvery), (.int .i64 r15.xTokens), (.int .i64 r15.xLast)]), v13]) Try.call28 rfl rfl (by intro w m h; exact w_impl_TakeMany (b_0 := r15) (times_1 := r12) (m.rd0 0 rfl reads_own) h) ?_); rintro r16 v17
    refine o_as st rfl rfl ?_
    refine c_nil ?_
    refine l_then ?_
    refine c_seq ?_
    refine c_seq ?_
    refine c_region ?_
    refine o_mv st rfl rfl ?_
    refine o_mv st rfl rfl ?_
    refine stw (o_callP (vs := [v17, v10]) Try.call33 rfl rfl (by intro w m h; exact w_laws_eqBoolS (a_0 := r16) (b_1 := r9) (m.rd0 0 rfl reads_own) (m.rd0 2 rfl reads_own) h) ?_); rintro r19 _
    refine o_not st rfl rfl ?_
    refine c_nil ?_
    refine l_then ?_
    refine c_cond rfl ?_ ?_
    · refine c_seq ?_
      refine c_region ?_
      refine o_as st rfl rfl ?_
      refine c_nil ?_
      refine l_then ?_
      refine c_ret ?_
      refine l_ret ?_
      exact l_end1 Try.results12 false () (rv_t rfl) (fun _ _ => NewCh.nil _ _ _ _)
    · refine c_skip ?_
      refine l_then ?_
      refine c_seq ?_
      refine c_seq ?_
      refine c_region ?_
      refine o_mv st rfl rfl ?_
      refine o_mv st rfl rfl ?_
      refine stw (o_callP (vs := [v1]) Try.call32 rfl rfl (by intro w m h; exact w_laws_toIntS (a_0 := aTimes_1) (m.rd0 5 rfl reads_ro) h) ?_); rintro r20 v21
      refine stw (o_callP (vs := [v13, v21]) Try.call34 rfl rfl (by intro w m h; exact w_laws_eqIntS (a_0 := r12) (b_1 := r20) (m.rd0 2 rfl reads_own) (m.rd0 0 rfl reads_own) h) ?_); rintro r23 _
      refine o_not st rfl rfl ?_
      refine c_nil ?_
      refine l_then ?_
      refine c_cond rfl ?_ ?_
      · refine c_seq ?_
        refine c_region ?_
        refine o_as st rfl rfl ?_
        refine c_nil ?_
        refine l_then ?_
        refine c_ret ?_
        refine l_ret ?_
        exact l_end1 Try.results12 false () (rv_t rfl) (fun _ _ => NewCh.nil _ _ _ _)
      · refine c_skip ?_
        refine l_then ?_
        refine c_seq ?_
        refine c_region ?_
        refine o_as st rfl rfl ?_
        refine c_nil ?_
        refine l_then ?_
        refine c_seq ?_
        refine c_region ?_
        refine o_mv st rfl rfl ?_
        refine o_mv st rfl rfl ?_
        refine pk [2, 0, 1, 3, 4, 5, 6] rfl ?_
        refine stw (o_call (vs := [v13, (.int .i64 1)]) (M0 := [ownCh elInt 3 v13 r12]) Try.call35 rfl rfl (by intro w m h; exact w_laws_markIntS (a_0 := r12) (k_1 := 1) m.given h) ?_); rintro ⟨r24, r25⟩ _
        refine o_as st rfl rfl ?_
        refine c_nil ?_
        refine l_then ?_
        refine c_seq ?_
        refine c_join (σ := Bool) (fun (t27 : Bool) (a : Act) (w : World) => Has 74 [(1, v1), (2, (.pointer (some ⟨b3, 0, none⟩))), (5, v10), (7, v17), (45, (.bool t27))] a ∧ Mem (fun _ => True) (feet []) w0 [ownCh elBool 4 v17 r16, ownCh elBool 4 v10 r9, cellCh b3 [(.int .i64 aB_0.xSize), (.int .i64 aB_0.xEvery), (.int .i64 aB_0.xTokens), (.int .i64 aB_0.xLast)] 23, roCh elInt v1 aTimes_1] w) ?_ ?_
        · intro k28
          refine c_region ?_
          refine o_mv st rfl rfl ?_
          refine o_lss st rfl rfl rfl ?_
          refine o_mv st rfl rfl ?_
          refine st_sp (dj := 40) rfl ?_ ?_
          · refine st_s rfl rfl rfl rfl ?_
            refine st_s rfl rfl rfl rfl ?_
            refine st_s rfl rfl rfl rfl ?_
            refine st_s rfl rfl rfl rfl ?_
            refine o_pickT st rfl rfl rfl ?_
            refine c_nil ?_
            exact l_join true (fun a w hE hm => ⟨hE.sub ⟨rfl, rfl, rfl, rfl, rfl, trivial⟩, (hm.pick [2, 3, 5, 6] rfl)⟩)
          · refine o_mv (st_g rfl rfl) rfl rfl ?_
            refine o_mv (st_g rfl rfl) rfl rfl ?_
            refine st_gw rfl rfl (o_callP (vs := [v17, v10]) Try.call33 rfl rfl (by intro w m h; exact w_laws_eqBoolS (a_0 := r16) (b_1 := r9) (m.rd0 2 rfl reads_own) (m.rd0 3 rfl reads_own) h) ?_); rintro r29 _
            refine o_not (st_g rfl rfl) rfl rfl ?_
            refine o_pickF st rfl rfl rfl ?_
            refine c_nil ?_
            exact l_join (!r29) (fun a w hE hm => ⟨hE.sub ⟨rfl, rfl, rfl, rfl, rfl, trivial⟩, (hm.pick [2, 3, 5, 6] rfl)⟩)
        · rintro t27 a w ⟨hE, hm⟩ h
          refine nx_of hE hm h ?_
          clear hE hm h
          refine c_cond rfl ?_ ?_
          · refine c_seq ?_
            refine c_region ?_
            refine o_as st rfl rfl ?_
            refine c_nil ?_
            refine l_then ?_
            refine c_ret ?_
            refine l_ret ?_
            exact l_end1 Try.results12 false () (rv_t rfl) (fun _ _ => NewCh.nil _ _ _ _)
          · refine c_skip ?_
            refine l_then ?_
            refine c_seq ?_
            refine c_region ?_
            refine o_as st rfl rfl ?_
            refine c_nil ?_
            refine l_then ?_
            refine c_seq ?_
            refine c_region ?_
            refine o_mv st rfl rfl ?_
            refine o_mv st rfl rfl ?_
            refine pk [0, 1, 2, 3] rfl ?_
            refine stw (o_call (vs := [v17, (.int .i64 1)]) (M0 := [ownCh elBool 4 v17 r16]) Try.call36 rfl rfl (by intro w m h; exact w_laws_markBoolS (a_0 := r16) (k_1 := 1) m.given h) ?_); rintro ⟨r30, r31⟩ _
            refine o_as st rfl rfl ?_
            refine c_nil ?_
            refine l_then ?_
            refine c_seq ?_
            refine c_region ?_
            refine o_as st rfl rfl ?_
            refine c_nil ?_
            refine l_then ?_
            refine c_seq ?_
            refine c_region ?_
            refine o_mv st rfl rfl ?_
            refine o_mv st rfl rfl ?_
            refine stw (o_callP (vs := [v17, (.int .i64 1)]) Try.call37 rfl rfl (by intro w m h; exact w_laws_heldBoolS (a_0 := r31) (k_1 := 1) (m.rd0 0 rfl reads_own) h) ?_); rintro r33 _
            refine o_as st rfl rfl ?_
            refine c_nil ?_
            refine l_then ?_
            refine c_seq ?_
            refine c_seq ?_
            refine c_region ?_
            refine o_mv st rfl rfl ?_
            refine o_lss st rfl rfl rfl ?_
            refine c_nil ?_
            refine l_then ?_
            refine c_cond rfl ?_ ?_
            · refine c_seq ?_
              refine c_region ?_
              refine o_as st rfl rfl ?_
              refine c_nil ?_
              refine l_then ?_
              refine c_ret ?_
              refine l_ret ?_
              exact l_end1 Try.results12 false () (rv_t rfl) (fun _ _ => NewCh.nil _ _ _ _)
            · refine c_skip ?_
              refine l_then ?_
              refine c_seq ?_
              refine c_seq ?_
              refine c_region ?_
              refine o_mv st rfl rfl ?_
              refine o_mv st rfl rfl ?_
              refine o_neq st und3 rfl rfl rfl ?_
              refine c_nil ?_
              refine l_then ?_
              refine c_cond rfl ?_ ?_
              · refine c_seq ?_
                refine c_region ?_
                refine o_as st rfl rfl ?_
                refine c_nil ?_
                refine l_then ?_
                refine c_ret ?_
                refine l_ret ?_
                exact l_end1 Try.results12 false () (rv_t rfl) (fun _ _ => NewCh.nil _ _ _ _)
              · refine c_skip ?_
                refine l_then ?_
                refine c_seq ?_
                refine c_region ?_
                refine o_ldc st (v := (.agg #[(.int .i64 aB_0.xSize), (.int .i64 aB_0.xEvery), (.int .i64 aB_0.xTokens), (.int .i64 aB_0.xLast)])) 2 rfl rfl rfl ty23 rfl ?_
                refine stw (o_callP (vs := [(.agg #[(.int .i64 aB_0.xSize), (.int .i64 aB_0.xEvery), (.int .i64 aB_0.xTokens), (.int .i64 aB_0.xLast)])]) Try.call15 rfl rfl (by intro w m h; exact w_laws_toBucket (a_0 := aB_0) h) ?_); rintro r34 _
                refine o_mv st rfl rfl ?_
                refine stw (o_callP (vs := [v1]) Try.call32 rfl rfl (by intro w m h; exact w_laws_toIntS (a_0 := aTimes_1) (m.rd0 3 rfl reads_ro) h) ?_); rintro r35 v36
                refine stw (o_callP (vs := [(.agg #[(.int .i64 r34.xSize), (.int .i64 r34.xEvery), (.int .i64 r34.xTokens), (.int .i64 r34.xLast)]), v36]) Try.call28 rfl rfl (by intro w m h; exact w_impl_TakeMany (b_0 := r34) (times_1 := r35) (m.rd0 0 rfl reads_own) h) ?_); rintro r38 v39
                refine o_as st rfl rfl ?_
                refine c_nil ?_
                refine l_then ?_
                refine c_seq ?_
                refine c_seq ?_
                refine c_region ?_
                refine o_mv st rfl rfl ?_
                refine o_mv st rfl rfl ?_
                refine stw (o_callP (vs := [v39, v10]) Try.call33 rfl rfl (by intro w m h; exact w_laws_eqBoolS (a_0 := r38) (b_1 := r9) (m.rd0 0 rfl reads_own) (m.rd0 3 rfl reads_own) h) ?_); rintro r41 _
                refine o_not st rfl rfl ?_
                refine c_nil ?_
                refine l_then ?_
                refine c_cond rfl ?_ ?_
                · refine c_seq ?_
                  refine c_region ?_
                  refine o_as st rfl rfl ?_
                  refine c_nil ?_
                  refine l_then ?_
                  refine c_ret ?_
                  refine l_ret ?_
                  exact l_end1 Try.results12 false () (rv_t rfl) (fun _ _ => NewCh.nil _ _ _ _)
                · refine c_skip ?_
                  refine l_then ?_
                  refine c_seq ?_
                  refine c_region ?_
                  refine o_as st rfl rfl ?_
                  refine c_nil ?_
                  refine l_then ?_
                  refine c_seq ?_
                  refine c_region ?_
                  refine o_mv st rfl rfl ?_
                  refine o_mv st rfl rfl ?_
                  refine stw (o_callP (vs := [v17, (.int .i64 1)]) Try.call37 rfl rfl (by intro w m h; exact w_laws_heldBoolS (a_0 := r31) (k_1 := 1) (m.rd0 2 rfl reads_own) h) ?_); rintro r42 _
                  refine o_as st rfl rfl ?_
                  refine c_nil ?_
                  refine l_then ?_
                  refine c_seq ?_
                  refine c_seq ?_
                  refine c_region ?_
                  refine o_mv st rfl rfl ?_
                  refine o_lss st rfl rfl rfl ?_
                  refine c_nil ?_
                  refine l_then ?_
                  refine c_cond rfl ?_ ?_
                  · refine c_seq ?_
                    refine c_region ?_
                    refine o_as st rfl rfl ?_
                    refine c_nil ?_
                    refine l_then ?_
                    refine c_ret ?_
                    refine l_ret ?_
                    exact l_end1 Try.results12 false () (rv_t rfl) (fun _ _ => NewCh.nil _ _ _ _)
                  · refine c_skip ?_
                    refine l_then ?_
                    refine c_seq ?_
                    refine c_seq ?_
                    refine c_region ?_
                    refine o_mv st rfl rfl ?_
                    refine o_mv st rfl rfl ?_
                    refine o_neq st und3 rfl rfl rfl ?_
                    refine c_nil ?_
                    refine l_then ?_
                    refine c_cond rfl ?_ ?_
                    · refine c_seq ?_
                      refine c_region ?_
                      refine o_as st rfl rfl ?_
                      refine c_nil ?_
                      refine l_then ?_
                      refine c_ret ?_
                      refine l_ret ?_
                      exact l_end1 Try.results12 false () (rv_t rfl) (fun _ _ => NewCh.nil _ _ _ _)
                    · refine c_skip ?_
                      refine l_then ?_
                      refine c_seq ?_
                      refine c_region ?_
                      refine o_as st rfl rfl ?_
                      refine c_nil ?_
                      refine l_then ?_
                      refine c_ret ?_
                      exact l_end1 Try.results12 true () (rv_t rfl) (fun _ _ => NewCh.nil _ _ _ _)

set_option maxRecDepth 100000 in
set_option maxHeartbeats 8000000 in
theorem w_impl_SpansHave {w0 : World} {F : Nat → Prop} {v1 : Value} {list_0 : (List GSpan)} {n_1 : Int} {κ : Bool → Prop} (hv1 : Sl elGSpan (fun b => b < w0.heap.size ∧ ¬ feet [] b) w0 v1 list_0) (h : L_impl_SpansHave list_0 n_1 κ) :
    Calls Try.prog 42 #[v1, (.int .i64 n_1)] w0 (Ret [] F w0 κ (fun (r : Bool) (u : Unit) => (.bool r)) (fun (r : Bool) (u : Unit) => [])) := by
  refine enter (args := [v1, (.int .i64 n_1)]) [] Try.func42 rfl Try.ntmps42 rfl [roCh elGSpan v1 list_0] (hf_cons hf_nil) (hh_cons hv1 hh_nil) (Given.nil w0).lt (Given.nil w0).disj (Given.nil w0).hold h ?_
  clear h hv1
  refine c_seq ?_
  refine c_region ?_
  refine o_as st rfl rfl ?_
  refine c_nil ?_
  refine l_then ?_
  refine c_seq ?_
  refine c_seq ?_
  refine c_region ?_
  refine o_mv st rfl rfl ?_
  refine o_len st el60 0 rfl reads_ro rfl rfl ?_
  refine o_mv st rfl rfl ?_
  refine c_nil ?_
  refine l_then ?_
  refine c_block ?_
  refine c_loop (σ := Int) (fun (t3 : Int) (a : Act) (w : World) => Has 24 [(1, (.int .i64 n_1)), (7, v1), (8, (.int .i64 (list_0.length : Int))), (9, (.int .i64 t3))] a ∧ Mem (fun _ => True) (feet []) w0 [roCh elGSpan v1 list_0] w) (fun a w hE hm => ⟨hE.sub ⟨rfl, rfl, rfl, rfl, trivial⟩, (hm.pick [0] rfl)⟩) ?_
  rintro nx4 t3 a w ⟨hE, hm⟩ h
  refine nx_of hE hm h ?_
  clear hE hm h
  refine c_seq ?_
  refine c_region ?_
  refine o_lss st rfl rfl rfl ?_
  refine c_nil ?_
  refine l_then ?_
  refine c_seq ?_
  refine c_cond rfl ?_ ?_
  · refine c_skip ?_
    refine l_then ?_
    refine c_seq ?_
    refine c_block ?_
    refine c_seq ?_
    refine c_region ?_
    refine o_idx st 0 rfl reads_ro rfl rfl rfl el60 ?_; intro e5 h6
    refine o_lds st (enc := encGSpan) (u := (.agg #[(.int .i64 e5.xLo), (.int .i64 e5.xHi)])) 0 rfl reads_ro flelGSpan rfl h6 rfl rfl ty59 rfl ?_
    refine stw (o_alloc rfl [(.int .i64 0), (.int .i64 0)] zero59 ?_); intro b7
    refine stw (o_stc (cs' := [(.int .i64 e5.xLo), (.int .i64 e5.xHi)]) 0 rfl rfl rfl ty59 rfl rfl rfl rfl ?_)
    refine c_nil ?_
    refine l_then ?_
    refine c_join (σ := Bool) (fun (t9 : Bool) (a : Act) (w : World) => Has 24 [(1, (.int .i64 n_1)), (7, v1), (8, (.int .i64 (list_0.length : Int))), (9, (.int .i64 t3)), (22, (.bool t9))] a ∧ Mem (fun _ => True) (feet []) w0 [roCh elGSpan v1 list_0] w) ?_ ?_
    · intro k10
      refine c_region ?_
      refine o_fad st rfl rfl fld59_0 rfl ?_
      refine o_ldc st (v := (.int .i64 e5.xLo)) 0 rfl rfl rfl ty3 rfl ?_
      refine o_mv st rfl rfl ?_
      refine o_leq st rfl rfl rfl ?_
      refine o_mv st rfl rfl ?_
      refine st_sp (dj := 17) rfl ?_ ?_
      · refine o_mv (st_g rfl rfl) rfl rfl ?_
        refine o_fad (st_g rfl rfl) rfl rfl fld59_1 rfl ?_
        refine o_ldc (st_g rfl rfl) (v := (.int .i64 e5.xHi)) 0 rfl rfl rfl ty3 rfl ?_
        refine o_leq (st_g rfl rfl) rfl rfl rfl ?_
        refine o_pickT st rfl rfl rfl ?_
        refine c_nil ?_
        exact l_join (decide (n_1 ≤ e5.xHi)) (fun a w hE hm => ⟨hE.sub ⟨rfl, rfl, rfl, rfl, rfl, trivial⟩, (hm.pick [1] rfl)⟩)
      · refine st_s rfl rfl rfl rfl ?_
        refine st_s rfl rfl rfl rfl ?_
        refine st_s rfl rfl rfl rfl ?_
        refine st_s rfl rfl rfl rfl ?_
        refine o_pickF st rfl rfl rfl ?_
        refine c_nil ?_
        exact l_join false (fun a w hE hm => ⟨hE.sub ⟨rfl, rfl, rfl, rfl, rfl, trivial⟩, (hm.pick [1] rfl)⟩)
    · rintro t9 a w ⟨hE, hm⟩ h
      refine nx_of hE hm h ?_
      clear hE hm h
      refine c_cond rfl ?_ ?_
      · refine c_seq ?_
        refine c_region ?_
        refine o_as st rfl rfl ?_
        refine c_nil ?_
        refine l_then ?_
        refine c_ret ?_
        refine b_ret ?_
        refine l_ret ?_
        refine l_ret ?_
        refine b_ret ?_
        refine l_ret ?_
        exact l_end1 Try.results42 true () (rv_t rfl) (fun _ _ => NewCh.nil _ _ _ _)
      · refine c_skip ?_
        refine b_norm ?_
        refine l_then ?_
        refine c_region ?_
        refine o_add st rfl rfl rfl ?_; intro t11
        refine o_mv st rfl rfl ?_
        refine c_nil ?_
        exact l_join t11 (fun a w hE hm => ⟨hE.sub ⟨rfl, rfl, rfl, rfl, trivial⟩, (hm.pick [0] rfl)⟩)
  · refine c_exit ?_
    refine l_exit ?_
    refine l_exit ?_
    refine b_exit ?_
    refine l_then ?_
    refine c_seq ?_
    refine c_region ?_
    refine o_as st rfl rfl ?_
    refine c_nil ?_
    refine l_then ?_
    refine c_ret ?_
    exact l_end1 Try.results42 false () (rv_t rfl) (fun _ _ => NewCh.nil _ _ _ _)

set_option maxRecDepth 100000 in
set_option maxHeartbeats 8000000 in
theorem w_laws_alive {w0 : World} {F : Nat → Prop} {κ : Bool → Prop} (h : L_laws_alive κ) :
    Calls Try.prog 18 #[] w0 (Ret [] F w0 κ (fun (r : Bool) (u : Unit) => (.bool r)) (fun (r : Bool) (u : Unit) => [])) := by
  refine enter (args := []) [] Try.func18 rfl Try.ntmps18 rfl [] hf_nil hh_nil (Given.nil w0).lt (Given.nil w0).disj (Given.nil w0).hold h ?_
  clear h
  refine c_seq ?_
  refine c_region ?_
  refine o_as st rfl rfl ?_
  refine c_nil ?_
  refine l_then ?_
  refine c_seq ?_
  refine c_region ?_
  refine o_bld st (qs := [(0, (.int .i64 2)), (1, (.int .i64 4))]) (cells := [(.int .i64 2), (.int .i64 4)]) (by intro ρ h; simp only [List.map_toArray, List.map_cons, List.map_nil, h (.const (.int .i64 2)) _ rfl, h (.const (.int .i64 4)) _ rfl]) rfl bld59 rfl ?_
  refine stw (o_bsl (enc := encGSpan) (qs := [(0, (.agg #[(.int .i64 2), (.int .i64 4)]))]) (cells := [(.int .i64 2), (.int .i64 4)]) ([(GSpan.mk 2 4)]) flelGSpan (by intro ρ h; simp only [List.map_toArray, List.map_cons, List.map_nil, h (.tmp 1) _ rfl]) rfl el60 zero59 rfl rfl rfl rfl rfl rfl ?_); intro v1
  refine stw (o_callP (vs := [v1, (.int .i64 3)]) Try.call42 rfl rfl (by intro w m h; exact w_impl_SpansHave (list_0 := ([(GSpan.mk 2 4)])) (n_1 := 3) (m.rd0 0 rfl reads_own) h) ?_); rintro r3 _
  refine o_as st rfl rfl ?_
  refine c_nil ?_
  refine l_then ?_
  refine c_ret ?_
  exact l_end1 Try.results18 r3 () (rv_t rfl) (fun _ _ => NewCh.nil _ _ _ _)

set_option maxRecDepth 100000 in
set_option maxHeartbeats 8000000 in
theorem w_spec_l20Rd_pick {w0 : World} {F : Nat → Prop} {b1 : Nat} {v2 : Value} {r_0_b : (List UInt8)} {r_0_p : Int} {n_1 : Int} {κ : (Int × Int) → Prop} (hg : Given [cellCh b1 [v2, (.int .i64 r_0_p)] 66] w0) (hv2 : Sl elU8 (fun b => b < w0.heap.size ∧ ¬ feet [cellCh b1 [v2, (.int .i64 r_0_p)] 66] b) w0 v2 r_0_b) (h : L_spec_l20Rd_pick r_0_b r_0_p n_1 κ) :
    Calls Try.prog 47 #[(.pointer (some ⟨b1, 0, none⟩)), (.int .i64 n_1)] w0 (Ret [cellCh b1 [v2, (.int .i64 r_0_p)] 66] F w0 κ (fun (r : (Int × Int)) (u : Unit) => (.int .i64 r.1)) (fun (r : (Int × Int)) (u : Unit) => [cellCh b1 [v2, (.int .i64 r.2)] 66])) := by
  refine enter (args := [(.pointer (some ⟨b1, 0, none⟩)), (.int .i64 n_1)]) [cellCh b1 [v2, (.int .i64 r_0_p)] 66] Try.func47 rfl Try.ntmps47 rfl [roCh elU8 v2 r_0_b] (hf_cons hf_nil) (hh_cons hv2 hh_nil) hg.lt hg.disj hg.hold h ?_
  clear h hg hv2
  refine c_seq ?_
  refine c_region ?_
  refine o_as st rfl rfl ?_
  refine c_nil ?_
  refine l_then ?_
  refine c_seq ?_
  refine c_region ?_
  refine o_mv st rfl rfl ?_
  refine o_mv st rfl rfl ?_
  refine o_nilc st rfl rfl ?_
  refine o_fad st rfl rfl fld66_1 rfl ?_
  refine o_ldc st (v := (.int .i64 r_0_p)) 0 rfl rfl rfl ty3 rfl ?_
  refine o_add st rfl rfl rfl ?_; intro t5
  refine o_nilc st rfl rfl ?_
  refine o_fad st rfl rfl fld66_1 rfl ?_
  refine stw (o_stc (cs' := [v2, (.int .i64 t5)]) 0 rfl rfl rfl ty3 rfl rfl rfl rfl ?_)
  refine c_nil ?_
  refine l_then ?_
  refine c_seq ?_
  refine c_join (σ := Bool) (fun (t6 : Bool) (a : Act) (w : World) => Has 99 [(0, (.pointer (some ⟨b1, 0, none⟩))), (1, (.int .i64 n_1)), (24, (.bool t6))] a ∧ Mem (fun _ => True) (feet [cellCh b1 [v2, (.int .i64 r_0_p)] 66]) w0 [cellCh b1 [v2, (.int .i64 t5)] 66, roCh elU8 v2 r_0_b] w) ?_ ?_
  · intro k7
    refine c_region ?_
    refine o_mv st rfl rfl ?_
    refine o_lss st rfl rfl rfl ?_
    refine o_mv st rfl rfl ?_
    refine st_sp (dj := 17) rfl ?_ ?_
    · refine st_s rfl rfl rfl rfl ?_
      refine st_s rfl rfl rfl rfl ?_
      refine st_s rfl rfl rfl rfl ?_
      refine st_s rfl rfl rfl rfl ?_
      refine st_s rfl rfl rfl rfl ?_
      refine st_s rfl rfl rfl rfl ?_
      refine o_pickT st rfl rfl rfl ?_
      refine c_nil ?_
      exact l_join true (fun a w hE hm => ⟨hE.sub ⟨rfl, rfl, rfl, trivial⟩, (hm.pick [0, 1] rfl)⟩)
    · refine o_mv (st_g rfl rfl) rfl rfl ?_
      refine o_nilc (st_g rfl rfl) rfl rfl ?_
      refine o_fad (st_g rfl rfl) rfl rfl fld66_0 rfl ?_
      refine o_ldc (st_g rfl rfl) (v := v2) 0 rfl rfl rfl ty28 rfl ?_
      refine o_len (st_g rfl rfl) el28 1 rfl reads_ro rfl rfl ?_
      refine o_eql (st_g rfl rfl) und3 rfl rfl rfl ?_
      refine o_pickF st rfl rfl rfl ?_
      refine c_nil ?_
      exact l_join (decide ((r_0_b.length : Int) = 0)) (fun a w hE hm => ⟨hE.sub ⟨rfl, rfl, rfl, trivial⟩, (hm.pick [0, 1] rfl)⟩)
  · rintro t6 a w ⟨hE, hm⟩ h
    refine nx_of hE hm h ?_
    clear hE hm h
    refine c_cond rfl ?_ ?_
    · refine c_seq ?_
      refine c_region ?_
      refine o_as st rfl rfl ?_
      refine c_nil ?_
      refine l_then ?_
      refine c_ret ?_
      refine l_ret ?_
      exact l_end1 Try.results47 (0, t5) () (rv_t rfl) (fun w m => NewCh.of m [0] rfl (fr_cons free_cell fr_nil))
    · refine c_skip ?_
      refine l_then ?_
      refine c_seq ?_
      refine c_region ?_
      refine o_mv st rfl rfl ?_
      refine o_nilc st rfl rfl ?_
      refine o_fad st rfl rfl fld66_1 rfl ?_
      refine o_ldc st (v := (.int .i64 t5)) 0 rfl rfl rfl ty3 rfl ?_
      refine o_sub st rfl rfl rfl ?_; intro t8
      refine o_as st rfl rfl ?_
      refine c_nil ?_
      refine l_then ?_
      refine c_seq ?_
      refine c_seq ?_
      refine c_region ?_
      refine o_mv st rfl rfl ?_
      refine o_mv st rfl rfl ?_
      refine o_nilc st rfl rfl ?_
      refine o_fad st rfl rfl fld66_0 rfl ?_
      refine o_ldc st (v := v2) 0 rfl rfl rfl ty28 rfl ?_
      refine o_len st el28 1 rfl reads_ro rfl rfl ?_
      refine o_lss st rfl rfl rfl ?_
      refine c_nil ?_
      refine l_then ?_
      refine c_cond rfl ?_ ?_
      · refine c_seq ?_
        refine c_region ?_
        refine o_mv st rfl rfl ?_
        refine o_nilc st rfl rfl ?_
        refine o_fad st rfl rfl fld66_0 rfl ?_
        refine o_ldc st (v := v2) 0 rfl rfl rfl ty28 rfl ?_
        refine o_mv st rfl rfl ?_
        refine o_idx st 1 rfl reads_ro rfl rfl rfl el28 ?_; intro e9 h10
        refine o_lds st (enc := encU8) (u := (.int .u8 (e9.toNat : Int))) 1 rfl reads_ro flelU8 rfl h10 rfl rfl ty5 rfl ?_
        refine o_cnvI st und5 und3 rfl rfl ?_
        refine o_mv st rfl rfl ?_
        refine o_rem st rfl rfl rfl ?_; intro t11
        refine o_as st rfl rfl ?_
        refine c_nil ?_
        refine l_then ?_
        refine c_ret ?_
        refine l_ret ?_
        exact l_end1 Try.results47 (t11, t5) () (rv_t rfl) (fun w m => NewCh.of m [0] rfl (fr_cons free_cell fr_nil))
      · refine c_skip ?_
        refine l_then ?_
        refine c_seq ?_
        refine c_draw mixed 46 rfl [cellCh b1 [v2, (.int .i64 t5)] 66, roCh elU8 v2 r_0_b] ?_
        refine o_mv (d_take (i := 0) rfl (by kernel_rfl) (by kernel_rfl) (by kernel_rfl) (fun c a d v w h => by cases d <;> exact h) (fun w m => m.pick [0, 1] rfl)) rfl rfl ?_
        refine o_nilc (d_take (i := 1) rfl (by kernel_rfl) (by kernel_rfl) (by kernel_rfl) (fun c a d v w h => by cases d <;> exact h) (fun w m => m.pick [0, 1] rfl)) rfl rfl ?_
        refine o_fad (d_take (i := 2) rfl (by kernel_rfl) (by kernel_rfl) (by kernel_rfl) (fun c a d v w h => by cases d <;> exact h) (fun w m => m.pick [0, 1] rfl)) rfl rfl fld66_0 rfl ?_
        refine o_ldc (d_take (i := 3) rfl (by kernel_rfl) (by kernel_rfl) (by kernel_rfl) (fun c a d v w h => by cases d <;> exact h) (fun w m => m.pick [0, 1] rfl)) (v := v2) 0 rfl rfl rfl ty28 rfl ?_
        refine o_mv (d_take (i := 4) rfl (by kernel_rfl) (by kernel_rfl) (by kernel_rfl) (fun c a d v w h => by cases d <;> exact h) (fun w m => m.pick [0, 1] rfl)) rfl rfl ?_
        refine o_mv (d_take (i := 5) rfl (by kernel_rfl) (by kernel_rfl) (by kernel_rfl) (fun c a d v w h => by cases d <;> exact h) (fun w m => m.pick [0, 1] rfl)) rfl rfl ?_
        refine o_nilc (d_take (i := 6) rfl (by kernel_rfl) (by kernel_rfl) (by kernel_rfl) (fun c a d v w h => by cases d <;> exact h) (fun w m => m.pick [0, 1] rfl)) rfl rfl ?_
        refine o_fad (d_take (i := 7) rfl (by kernel_rfl) (by kernel_rfl) (by kernel_rfl) (fun c a d v w h => by cases d <;> exact h) (fun w m => m.pick [0, 1] rfl)) rfl rfl fld66_0 rfl ?_
        refine o_ldc (d_take (i := 8) rfl (by kernel_rfl) (by kernel_rfl) (by kernel_rfl) (fun c a d v w h => by cases d <;> exact h) (fun w m => m.pick [0, 1] rfl)) (v := v2) 0 rfl rfl rfl ty28 rfl ?_
        refine o_len (d_take (i := 9) rfl (by kernel_rfl) (by kernel_rfl) (by kernel_rfl) (fun c a d v w h => by cases d <;> exact h) (fun w m => m.pick [0, 1] rfl)) el28 1 rfl reads_ro rfl rfl ?_
        refine o_rem (d_take (i := 10) rfl (by kernel_rfl) (by kernel_rfl) (by kernel_rfl) (fun c a d v w h => by cases d <;> exact h) (fun w m => m.pick [0, 1] rfl)) rfl rfl rfl ?_; intro t12
        refine o_idx (d_take (i := 11) rfl (by kernel_rfl) (by kernel_rfl) (by kernel_rfl) (fun c a d v w h => by cases d <;> exact h) (fun w m => m.pick [0, 1] rfl)) 1 rfl reads_ro rfl rfl rfl el28 ?_; intro e13 h14
        refine o_lds (d_take (i := 12) rfl (by kernel_rfl) (by kernel_rfl) (by kernel_rfl) (fun c a d v w h => by cases d <;> exact h) (fun w m => m.pick [0, 1] rfl)) (enc := encU8) (u := (.int .u8 (e13.toNat : Int))) 1 rfl reads_ro flelU8 rfl h14 rfl rfl ty5 rfl ?_
        refine o_cnvI (d_take (i := 13) rfl (by kernel_rfl) (by kernel_rfl) (by kernel_rfl) (fun c a d v w h => by cases d <;> exact h) (fun w m => m.pick [0, 1] rfl)) und5 und3 rfl rfl ?_
        refine o_mul (d_take (i := 14) rfl (by kernel_rfl) (by kernel_rfl) (by kernel_rfl) (fun c a d v w h => by cases d <;> exact h) (fun w m => m.pick [0, 1] rfl)) rfl rfl rfl ?_; intro t15
        refine o_mv (d_take (i := 15) rfl (by kernel_rfl) (by kernel_rfl) (by kernel_rfl) (fun c a d v w h => by cases d <;> exact h) (fun w m => m.pick [0, 1] rfl)) rfl rfl ?_
        refine o_nilc (d_take (i := 16) rfl (by kernel_rfl) (by kernel_rfl) (by kernel_rfl) (fun c a d v w h => by cases d <;> exact h) (fun w m => m.pick [0, 1] rfl)) rfl rfl ?_
        refine o_fad (d_take (i := 17) rfl (by kernel_rfl) (by kernel_rfl) (by kernel_rfl) (fun c a d v w h => by cases d <;> exact h) (fun w m => m.pick [0, 1] rfl)) rfl rfl fld66_0 rfl ?_
        refine o_ldc (d_take (i := 18) rfl (by kernel_rfl) (by kernel_rfl) (by kernel_rfl) (fun c a d v w h => by cases d <;> exact h) (fun w m => m.pick [0, 1] rfl)) (v := v2) 0 rfl rfl rfl ty28 rfl ?_
        refine o_mv (d_take (i := 19) rfl (by kernel_rfl) (by kernel_rfl) (by kernel_rfl) (fun c a d v w h => by cases d <;> exact h) (fun w m => m.pick [0, 1] rfl)) rfl rfl ?_
        refine o_mul (d_take (i := 20) rfl (by kernel_rfl) (by kernel_rfl) (by kernel_rfl) (fun c a d v w h => by cases d <;> exact h) (fun w m => m.pick [0, 1] rfl)) rfl rfl rfl ?_; intro t16
        refine o_add (d_take (i := 21) rfl (by kernel_rfl) (by kernel_rfl) (by kernel_rfl) (fun c a d v w h => by cases d <;> exact h) (fun w m => m.pick [0, 1] rfl)) rfl rfl rfl ?_; intro t17
        refine o_mv (d_take (i := 22) rfl (by kernel_rfl) (by kernel_rfl) (by kernel_rfl) (fun c a d v w h => by cases d <;> exact h) (fun w m => m.pick [0, 1] rfl)) rfl rfl ?_
        refine o_nilc (d_take (i := 23) rfl (by kernel_rfl) (by kernel_rfl) (by kernel_rfl) (fun c a d v w h => by cases d <;> exact h) (fun w m => m.pick [0, 1] rfl)) rfl rfl ?_
        refine o_fad (d_take (i := 24) rfl (by kernel_rfl) (by kernel_rfl) (by kernel_rfl) (fun c a d v w h => by cases d <;> exact h) (fun w m => m.pick [0, 1] rfl)) rfl rfl fld66_0 rfl ?_
        refine o_ldc (d_take (i := 25) rfl (by kernel_rfl) (by kernel_rfl) (by kernel_rfl) (fun c a d v w h => by cases d <;> exact h) (fun w m => m.pick [0, 1] rfl)) (v := v2) 0 rfl rfl rfl ty28 rfl ?_
        refine o_len (d_take (i := 26) rfl (by kernel_rfl) (by kernel_rfl) (by kernel_rfl) (fun c a d v w h => by cases d <;> exact h) (fun w m => m.pick [0, 1] rfl)) el28 1 rfl reads_ro rfl rfl ?_
        refine o_rem (d_take (i := 27) rfl (by kernel_rfl) (by kernel_rfl) (by kernel_rfl) (fun c a d v w h => by cases d <;> exact h) (fun w m => m.pick [0, 1] rfl)) rfl rfl rfl ?_; intro t18
        refine o_idx (d_take (i := 28) rfl (by kernel_rfl) (by kernel_rfl) (by kernel_rfl) (fun c a d v w h => by cases d <;> exact h) (fun w m => m.pick [0, 1] rfl)) 1 rfl reads_ro rfl rfl rfl el28 ?_; intro e19 h20
        refine o_lds (d_take (i := 29) rfl (by kernel_rfl) (by kernel_rfl) (by kernel_rfl) (fun c a d v w h => by cases d <;> exact h) (fun w m => m.pick [0, 1] rfl)) (enc := encU8) (u := (.int .u8 (e19.toNat : Int))) 1 rfl reads_ro flelU8 rfl h20 rfl rfl ty5 rfl ?_
        refine o_cnvI (d_take (i := 30) rfl (by kernel_rfl) (by kernel_rfl) (by kernel_rfl) (fun c a d v w h => by cases d <;> exact h) (fun w m => m.pick [0, 1] rfl)) und5 und3 rfl rfl ?_
        refine o_mul (d_take (i := 31) rfl (by kernel_rfl) (by kernel_rfl) (by kernel_rfl) (fun c a d v w h => by cases d <;> exact h) (fun w m => m.pick [0, 1] rfl)) rfl rfl rfl ?_; intro t21
        refine o_add (d_take (i := 32) rfl (by kernel_rfl) (by kernel_rfl) (by kernel_rfl) (fun c a d v w h => by cases d <;> exact h) (fun w m => m.pick [0, 1] rfl)) rfl rfl rfl ?_; intro t22
        refine o_mv (d_take (i := 33) rfl (by kernel_rfl) (by kernel_rfl) (by kernel_rfl) (fun c a d v w h => by cases d <;> exact h) (fun w m => m.pick [0, 1] rfl)) rfl rfl ?_
        refine o_mul (d_take (i := 34) rfl (by kernel_rfl) (by kernel_rfl) (by kernel_rfl) (fun c a d v w h => by cases d <;> exact h) (fun w m => m.pick [0, 1] rfl)) rfl rfl rfl ?_; intro t23
        refine o_add (d_take (i := 35) rfl (by kernel_rfl) (by kernel_rfl) (by kernel_rfl) (fun c a d v w h => by cases d <;> exact h) (fun w m => m.pick [0, 1] rfl)) rfl rfl rfl ?_; intro t24
        refine o_mv (d_take (i := 36) rfl (by kernel_rfl) (by kernel_rfl) (by kernel_rfl) (fun c a d v w h => by cases d <;> exact h) (fun w m => m.pick [0, 1] rfl)) rfl rfl ?_
        refine o_mv (d_take (i := 37) rfl (by kernel_rfl) (by kernel_rfl) (by kernel_rfl) (fun c a d v w h => by cases d <;> exact h) (fun w m => m.pick [0, 1] rfl)) rfl rfl ?_
        refine o_nilc (d_take (i := 38) rfl (by kernel_rfl) (by kernel_rfl) (by kernel_rfl) (fun c a d v w h => by cases d <;> exact h) (fun w m => m.pick [0, 1] rfl)) rfl rfl ?_
        refine o_fad (d_take (i := 39) rfl (by kernel_rfl) (by kernel_rfl) (by kernel_rfl) (fun c a d v w h => by cases d <;> exact h) (fun w m => m.pick [0, 1] rfl)) rfl rfl fld66_0 rfl ?_
        refine o_ldc (d_take (i := 40) rfl (by kernel_rfl) (by kernel_rfl) (by kernel_rfl) (fun c a d v w h => by cases d <;> exact h) (fun w m => m.pick [0, 1] rfl)) (v := v2) 0 rfl rfl rfl ty28 rfl ?_
        refine o_len (d_take (i := 41) rfl (by kernel_rfl) (by kernel_rfl) (by kernel_rfl) (fun c a d v w h => by cases d <;> exact h) (fun w m => m.pick [0, 1] rfl)) el28 1 rfl reads_ro rfl rfl ?_
        refine o_quo (d_take (i := 42) rfl (by kernel_rfl) (by kernel_rfl) (by kernel_rfl) (fun c a d v w h => by cases d <;> exact h) (fun w m => m.pick [0, 1] rfl)) rfl rfl rfl ?_; intro t25
        refine o_mul (d_take (i := 43) rfl (by kernel_rfl) (by kernel_rfl) (by kernel_rfl) (fun c a d v w h => by cases d <;> exact h) (fun w m => m.pick [0, 1] rfl)) rfl rfl rfl ?_; intro t26
        refine o_add (d_take (i := 44) rfl (by kernel_rfl) (by kernel_rfl) (by kernel_rfl) (fun c a d v w h => by cases d <;> exact h) (fun w m => m.pick [0, 1] rfl)) rfl rfl rfl ?_; intro t27
        refine o_as (d_take (i := 45) rfl (by kernel_rfl) (by kernel_rfl) (by kernel_rfl) (fun c a d v w h => by cases d <;> exact h) (fun w m => m.pick [0, 1] rfl)) rfl rfl ?_
        refine d_done (by kernel_rfl) ?_
        refine l_then ?_
        refine c_seq ?_
        refine c_region ?_
        refine o_mv st rfl rfl ?_
        refine o_mv st rfl rfl ?_
        refine o_quo st rfl rfl rfl ?_; intro t28
        refine o_xor st rfl rfl rfl ?_; intro t29
        refine o_as st rfl rfl ?_
        refine c_nil ?_
        refine l_then ?_
        refine c_seq ?_
        refine c_region ?_
        refine o_mv st rfl rfl ?_
        refine o_mv st rfl rfl ?_
        refine o_rem st rfl rfl rfl ?_; intro t30
        refine o_as st rfl rfl ?_
        refine c_nil ?_
        refine l_then ?_
        refine c_ret ?_
        exact l_end1 Try.results47 (t30, t5) () (rv_t rfl) (fun w m => NewCh.of m [0] rfl (fr_cons free_cell fr_nil))

set_option maxRecDepth 100000 in
set_option maxHeartbeats 8000000 in
theorem w_spec_l20Rd_odd {w0 : World} {F : Nat → Prop} {b1 : Nat} {v2 : Value} {r_0_b : (List UInt8)} {r_0_p : Int} {n_1 : Int} {κ : (Bool × Int) → Prop} (hg : Given [cellCh b1 [v2, (.int .i64 r_0_p)] 66] w0) (hv2 : Sl elU8 (fun b => b < w0.heap.size ∧ ¬ feet [cellCh b1 [v2, (.int .i64 r_0_p)] 66] b) w0 v2 r_0_b) (h : L_spec_l20Rd_odd r_0_b r_0_p n_1 κ) :
    Calls Try.prog 48 #[(.pointer (some ⟨b1, 0, none⟩)), (.int .i64 n_1)] w0 (Ret [cellCh b1 [v2, (.int .i64 r_0_p)] 66] F w0 κ (fun (r : (Bool × Int)) (u : Unit) => (.bool r.1)) (fun (r : (Bool × Int)) (u : Unit) => [cellCh b1 [v2, (.int .i64 r.2)] 66])) := by
  refine enter (args := [(.pointer (some ⟨b1, 0, none⟩)), (.int .i64 n_1)]) [cellCh b1 [v2, (.int .i64 r_0_p)] 66] Try.func48 rfl Try.ntmps48 rfl [roCh elU8 v2 r_0_b] (hf_cons hf_nil) (hh_cons hv2 hh_nil) hg.lt hg.disj hg.hold h ?_
  clear h hg hv2
  refine c_seq ?_
  refine c_region ?_
  refine o_as st rfl rfl ?_
  refine c_nil ?_
  refine l_then ?_
  refine c_join (σ := (Int × Bool)) (fun ((t5, t6) : (Int × Bool)) (a : Act) (w : World) => Has 15 [(4, (.bool t6))] a ∧ Mem (fun _ => True) (feet [cellCh b1 [v2, (.int .i64 r_0_p)] 66]) w0 [cellCh b1 [v2, (.int .i64 t5)] 66, roCh elU8 v2 r_0_b] w) ?_ ?_
  · intro k7
    refine c_region ?_
    refine o_mv st rfl rfl ?_
    refine o_gtr st rfl rfl rfl ?_
    refine o_mv st rfl rfl ?_
    refine st_sp (dj := 7) rfl ?_ ?_
    · refine o_mv (st_g rfl rfl) rfl rfl ?_
      refine o_mv (st_g rfl rfl) rfl rfl ?_
      refine pk [0, 1] rfl ?_
      refine st_gw rfl rfl (o_call (vs := [(.pointer (some ⟨b1, 0, none⟩)), (.int .i64 n_1)]) (M0 := [cellCh b1 [v2, (.int .i64 r_0_p)] 66]) Try.call47 rfl rfl (by intro w m h; exact w_spec_l20Rd_pick (r_0_b := r_0_b) (r_0_p := r_0_p) (n_1 := n_1) m.given (m.rdM 0 rfl reads_ro) h) ?_); rintro ⟨r8, r9⟩ _
      refine o_mv (st_g rfl rfl) rfl rfl ?_
      refine o_sub (st_g rfl rfl) rfl rfl rfl ?_; intro t10
      refine o_eql (st_g rfl rfl) und3 rfl rfl rfl ?_
      refine o_pickT st rfl rfl rfl ?_
      refine o_as st rfl rfl ?_
      refine c_nil ?_
      exact l_join (r9, (decide (r8 = t10))) (fun a w hE hm => ⟨hE.sub ⟨rfl, trivial⟩, (hm.pick [0, 1] rfl)⟩)
    · refine st_s rfl rfl rfl rfl ?_
      refine st_s rfl rfl rfl rfl ?_
      refine st_s rfl rfl rfl rfl ?_
      refine st_s rfl rfl rfl rfl ?_
      refine st_s rfl rfl rfl rfl ?_
      refine st_s rfl rfl rfl rfl ?_
      refine o_pickF st rfl rfl rfl ?_
      refine o_as st rfl rfl ?_
      refine c_nil ?_
      exact l_join (r_0_p, false) (fun a w hE hm => ⟨hE.sub ⟨rfl, trivial⟩, (hm.pick [0, 1] rfl)⟩)
  · rintro ⟨t5, t6⟩ a w ⟨hE, hm⟩ h
    refine nx_of hE hm h ?_
    clear hE hm h
    refine c_ret ?_
    exact l_end1 Try.results48 (t6, t5) () (rv_t rfl) (fun w m => NewCh.of m [0] rfl (fr_cons free_cell fr_nil))

set_option maxRecDepth 100000 in
set_option maxHeartbeats 8000000 in
theorem w_spec_l20Bucket {w0 : World} {F : Nat → Prop} {b1 : Nat} {v2 : Value} {r_0_b : (List UInt8)} {r_0_p : Int} {n_1 : Int} {κ : (GBucket × Int) → Prop} (hg : Given [cellCh b1 [v2, (.int .i64 r_0_p)] 66] w0) (hv2 : Sl elU8 (fun b => b < w0.heap.size ∧ ¬ feet [cellCh b1 [v2, (.int .i64 r_0_p)] 66] b) w0 v2 r_0_b) (h : L_spec_l20Bucket r_0_b r_0_p n_1 κ) :
    Calls Try.prog 40 #[(.pointer (some ⟨b1, 0, none⟩)), (.int .i64 n_1)] w0 (Ret [cellCh b1 [v2, (.int .i64 r_0_p)] 66] F w0 κ (fun (r : (GBucket × Int)) (u : Unit) => (.agg #[(.int .i64 r.1.xSize), (.int .i64 r.1.xEvery), (.int .i64 r.1.xTokens), (.int .i64 r.1.xLast)])) (fun (r : (GBucket × Int)) (u : Unit) => [cellCh b1 [v2, (.int .i64 r.2)] 66])) := by
  refine enter (args := [(.pointer (some ⟨b1, 0, none⟩)), (.int .i64 n_1)]) [cellCh b1 [v2, (.int .i64 r_0_p)] 66] Try.func40 rfl Try.ntmps40 rfl [roCh elU8 v2 r_0_b] (hf_cons hf_nil) (hh_cons hv2 hh_nil) hg.lt hg.disj hg.hold h ?_
  clear h hg hv2
  refine c_seq ?_
  refine c_region ?_
  refine stw (o_alloc rfl [(.int .i64 0), (.int .i64 0), (.int .i64 0), (.int .i64 0)] zero25 ?_); intro b5
  refine c_nil ?_
  refine l_then ?_
  refine c_seq ?_
  refine c_region ?_
  refine o_mv st rfl rfl ?_
  refine pk [1, 0, 2] rfl ?_
  refine stw (o_call (vs := [(.pointer (some ⟨b1, 0, none⟩)), (.int .i64 5)]) (M0 := [cellCh b1 [v2, (.int .i64 r_0_p)] 66]) Try.call47 rfl rfl (by intro w m h; exact w_spec_l20Rd_pick (r_0_b := r_0_b) (r_0_p := r_0_p) (n_1 := 5) m.given (m.rdM 1 rfl reads_ro) h) ?_); rintro ⟨r7, r8⟩ _
  refine o_add st rfl rfl rfl ?_; intro t9
  refine o_mv st rfl rfl ?_
  refine pk [0, 1, 2] rfl ?_
  refine stw (o_call (vs := [(.pointer (some ⟨b1, 0, none⟩)), (.int .i64 20)]) (M0 := [cellCh b1 [v2, (.int .i64 r8)] 66]) Try.call47 rfl rfl (by intro w m h; exact w_spec_l20Rd_pick (r_0_b := r_0_b) (r_0_p := r8) (n_1 := 20) m.given (m.rdM 1 rfl reads_ro) h) ?_); rintro ⟨r10, r11⟩ _
  refine o_add st rfl rfl rfl ?_; intro t12
  refine o_mv st rfl rfl ?_
  refine pk [0, 1, 2] rfl ?_
  refine stw (o_call (vs := [(.pointer (some ⟨b1, 0, none⟩)), (.int .i64 50)]) (M0 := [cellCh b1 [v2, (.int .i64 r11)] 66]) Try.call47 rfl rfl (by intro w m h; exact w_spec_l20Rd_pick (r_0_b := r_0_b) (r_0_p := r11) (n_1 := 50) m.given (m.rdM 1 rfl reads_ro) h) ?_); rintro ⟨r13, r14⟩ _
  refine o_bld st (qs := [(0, (.int .i64 t9)), (1, (.int .i64 t12)), (3, (.int .i64 r13))]) (cells := [(.int .i64 t9), (.int .i64 t12), (.int .i64 0), (.int .i64 r13)]) (by intro ρ h; simp only [List.map_toArray, List.map_cons, List.map_nil, h (.tmp 8) _ rfl, h (.tmp 11) _ rfl, h (.tmp 13) _ rfl]) rfl bld25 rfl ?_
  refine stw (o_alloc rfl [(.int .i64 0), (.int .i64 0), (.int .i64 0), (.int .i64 0)] zero25 ?_); intro b15
  refine stw (o_stc (cs' := [(.int .i64 t9), (.int .i64 t12), (.int .i64 0), (.int .i64 r13)]) 0 rfl rfl rfl ty25 rfl rfl rfl rfl ?_)
  refine c_nil ?_
  refine l_then ?_
  refine c_seq ?_
  refine c_region ?_
  refine o_mv st rfl rfl ?_
  refine o_fad st rfl rfl fld25_0 rfl ?_
  refine o_ldc st (v := (.int .i64 t9)) 0 rfl rfl rfl ty3 rfl ?_
  refine o_add st rfl rfl rfl ?_; intro t17
  refine pk [1, 0, 2, 3] rfl ?_
  refine stw (o_call (vs := [(.pointer (some ⟨b1, 0, none⟩)), (.int .i64 t17)]) (M0 := [cellCh b1 [v2, (.int .i64 r14)] 66]) Try.call47 rfl rfl (by intro w m h; exact w_spec_l20Rd_pick (r_0_b := r_0_b) (r_0_p := r14) (n_1 := t17) m.given (m.rdM 2 rfl reads_ro) h) ?_); rintro ⟨r18, r19⟩ _
  refine o_fad st rfl rfl fld25_2 rfl ?_
  refine stw (o_stc (cs' := [(.int .i64 t9), (.int .i64 t12), (.int .i64 r18), (.int .i64 r13)]) 1 rfl rfl rfl ty3 rfl rfl rfl rfl ?_)
  refine c_nil ?_
  refine l_then ?_
  refine c_join (σ := (Int × Int × Int × Int × Int)) (fun ((t20, t21, t22, t23, t24) : (Int × Int × Int × Int × Int)) (a : Act) (w : World) => Has 60 [(4, (.pointer (some ⟨b5, 0, none⟩))), (5, (.pointer (some ⟨b15, 0, none⟩)))] a ∧ Mem (fun _ => True) (feet [cellCh b1 [v2, (.int .i64 r_0_p)] 66]) w0 [cellCh b1 [v2, (.int .i64 t20)] 66, cellCh b15 [(.int .i64 t21), (.int .i64 t22), (.int .i64 t23), (.int .i64 t24)] 25, cellCh b5 [(.int .i64 0), (.int .i64 0), (.int .i64 0), (.int .i64 0)] 25, roCh elU8 v2 r_0_b] w) ?_ ?_
  · intro k25
    refine c_seq ?_
    refine c_region ?_
    refine o_mv st rfl rfl ?_
    refine o_mv st rfl rfl ?_
    refine pk [0, 1, 2, 3] rfl ?_
    refine stw (o_call (vs := [(.pointer (some ⟨b1, 0, none⟩)), (.int .i64 n_1)]) (M0 := [cellCh b1 [v2, (.int .i64 r19)] 66]) Try.call48 rfl rfl (by intro w m h; exact w_spec_l20Rd_odd (r_0_b := r_0_b) (r_0_p := r19) (n_1 := n_1) m.given (m.rdM 2 rfl reads_ro) h) ?_); rintro ⟨r26, r27⟩ _
    refine c_nil ?_
    refine l_then ?_
    refine c_cond rfl ?_ ?_
    · refine c_seq ?_
      refine c_region ?_
      refine o_mv st rfl rfl ?_
      refine pk [0, 1, 2, 3] rfl ?_
      refine stw (o_call (vs := [(.pointer (some ⟨b1, 0, none⟩)), (.int .i64 4)]) (M0 := [cellCh b1 [v2, (.int .i64 r27)] 66]) Try.call47 rfl rfl (by intro w m h; exact w_spec_l20Rd_pick (r_0_b := r_0_b) (r_0_p := r27) (n_1 := 4) m.given (m.rdM 2 rfl reads_ro) h) ?_); rintro ⟨r28, r29⟩ _
      refine c_nil ?_
      refine l_then ?_
      refine c_block ?_
      refine c_seq ?_
      refine c_region ?_
      refine o_eql st und3 rfl rfl rfl ?_
      refine o_as st rfl rfl ?_
      refine c_nil ?_
      refine l_then ?_
      refine c_cond rfl ?_ ?_
      · refine c_region ?_
        refine stw (o_bsl (enc := encInt) (qs := [(0, (.int .i64 0)), (1, (.int .i64 101))]) (cells := [(.int .i64 0), (.int .i64 101)]) ([0, 101]) flelInt (by intro ρ h; simp only [List.map_toArray, List.map_cons, List.map_nil, h (.const (.int .i64 0)) _ rfl, h (.const (.int .i64 101)) _ rfl]) rfl el41 zero3 rfl rfl rfl rfl rfl rfl ?_); intro v30
        refine o_mv st rfl rfl ?_
        refine pk [1, 0, 2, 3, 4] rfl ?_
        refine stw (o_call (vs := [(.pointer (some ⟨b1, 0, none⟩)), (.int .i64 2)]) (M0 := [cellCh b1 [v2, (.int .i64 r29)] 66]) Try.call47 rfl rfl (by intro w m h; exact w_spec_l20Rd_pick (r_0_b := r_0_b) (r_0_p := r29) (n_1 := 2) m.given (m.rdM 3 rfl reads_ro) h) ?_); rintro ⟨r32, r33⟩ _
        refine o_idx st 1 rfl reads_own rfl rfl rfl el41 ?_; intro e34 h35
        refine o_lds st (enc := encInt) (u := (.int .i64 e34)) 1 rfl reads_own flelInt rfl h35 rfl rfl ty3 rfl ?_
        refine o_fad st rfl rfl fld25_0 rfl ?_
        refine stw (o_stc (cs' := [(.int .i64 e34), (.int .i64 t12), (.int .i64 r18), (.int .i64 r13)]) 2 rfl rfl rfl ty3 rfl rfl rfl rfl ?_)
        refine c_nil ?_
        refine b_norm ?_
        exact l_join (r33, e34, t12, r18, r13) (fun a w hE hm => ⟨hE.sub ⟨rfl, rfl, trivial⟩, (hm.pick [0, 2, 3, 4] rfl)⟩)
      · refine c_seq ?_
        refine c_region ?_
        refine o_eql st und3 rfl rfl rfl ?_
        refine o_as st rfl rfl ?_
        refine c_nil ?_
        refine l_then ?_
        refine c_cond rfl ?_ ?_
        · refine c_region ?_
          refine stw (o_bsl (enc := encInt) (qs := [(0, (.int .i64 0)), (1, (.int .i64 1001))]) (cells := [(.int .i64 0), (.int .i64 1001)]) ([0, 1001]) flelInt (by intro ρ h; simp only [List.map_toArray, List.map_cons, List.map_nil, h (.const (.int .i64 0)) _ rfl, h (.const (.int .i64 1001)) _ rfl]) rfl el41 zero3 rfl rfl rfl rfl rfl rfl ?_); intro v36
          refine o_mv st rfl rfl ?_
          refine pk [1, 0, 2, 3, 4] rfl ?_
          refine stw (o_call (vs := [(.pointer (some ⟨b1, 0, none⟩)), (.int .i64 2)]) (M0 := [cellCh b1 [v2, (.int .i64 r29)] 66]) Try.call47 rfl rfl (by intro w m h; exact w_spec_l20Rd_pick (r_0_b := r_0_b) (r_0_p := r29) (n_1 := 2) m.given (m.rdM 3 rfl reads_ro) h) ?_); rintro ⟨r38, r39⟩ _
          refine o_idx st 1 rfl reads_own rfl rfl rfl el41 ?_; intro e40 h41
          refine o_lds st (enc := encInt) (u := (.int .i64 e40)) 1 rfl reads_own flelInt rfl h41 rfl rfl ty3 rfl ?_
          refine o_fad st rfl rfl fld25_1 rfl ?_
          refine stw (o_stc (cs' := [(.int .i64 t9), (.int .i64 e40), (.int .i64 r18), (.int .i64 r13)]) 2 rfl rfl rfl ty3 rfl rfl rfl rfl ?_)
          refine c_nil ?_
          refine b_norm ?_
          exact l_join (r39, t9, e40, r18, r13) (fun a w hE hm => ⟨hE.sub ⟨rfl, rfl, trivial⟩, (hm.pick [0, 2, 3, 4] rfl)⟩)
        · refine c_seq ?_
          refine c_region ?_
          refine o_eql st und3 rfl rfl rfl ?_
          refine o_as st rfl rfl ?_
          refine c_nil ?_
          refine l_then ?_
          refine c_cond rfl ?_ ?_
          · refine c_join1 (σ := (Int × Int)) (fun ((t42, t43) : (Int × Int)) (a : Act) (w : World) => Has 60 [(4, (.pointer (some ⟨b5, 0, none⟩))), (5, (.pointer (some ⟨b15, 0, none⟩)))] a ∧ Mem (fun _ => True) (feet [cellCh b1 [v2, (.int .i64 r_0_p)] 66]) w0 [cellCh b1 [v2, (.int .i64 t42)] 66, cellCh b15 [(.int .i64 t9), (.int .i64 t12), (.int .i64 t43), (.int .i64 r13)] 25, cellCh b5 [(.int .i64 0), (.int .i64 0), (.int .i64 0), (.int .i64 0)] 25, roCh elU8 v2 r_0_b] w) ?_ ?_
            · intro k44
              refine c_drawQ mixed 10 rfl [cellCh b5 [(.int .i64 0), (.int .i64 0), (.int .i64 0), (.int .i64 0)] 25, roCh elU8 v2 r_0_b] (fun c a d v w h => by cases d <;> exact h) ?_
              intro Qd hP hQ
              have H104 : ∀ (v45 : Value) (r46 : Int) (r47 : Int) (e48 : Int) (h49 : ([(-1), (w64 (t9 + 1))])[(r46).toNat]? = some e48), Nx 60 (fun _ => True) (feet [cellCh b1 [v2, (.int .i64 r_0_p)] 66]) w0 (wpAnyH Try.prog .any (opsAt Try.f40 [1, 1, 1, 0, 1, 0, 1, 0, 1, 1, 1, 1, 1, 0]) Qd (Mem (fun _ => True) (feet [cellCh b1 [v2, (.int .i64 r_0_p)] 66]) w0 [cellCh b5 [(.int .i64 0), (.int .i64 0), (.int .i64 0), (.int .i64 0)] 25, roCh elU8 v2 r_0_b]) 0 #[true, true, true, true, true, true, true, true, true, true]) [(4, (.pointer (some ⟨b5, 0, none⟩))), (5, (.pointer (some ⟨b15, 0, none⟩)))] [cellCh b1 [v2, (.int .i64 r47)] 66, cellCh b15 [(.int .i64 t9), (.int .i64 t12), (.int .i64 e48), (.int .i64 r13)] 25, cellCh b5 [(.int .i64 0), (.int .i64 0), (.int .i64 0), (.int .i64 0)] 25, roCh elU8 v2 r_0_b] (k44 (r47, e48)) := by
                intro v45 r46 r47 e48 h49
                refine d_done (by kernel_rfl) ?_
                exact fun a w hE hm hφ => hQ (r47, e48) a w hφ ((fun a w hE hm => ⟨hE.sub ⟨rfl, rfl, trivial⟩, (hm.pick [0, 1, 2, 3] rfl)⟩) a w hE hm)
              have H105 : ∀ (v45 : Value) (r46 : Int) (r47 : Int) (e48 : Int) (h49 : ([(-1), (w64 (t9 + 1))])[(r46).toNat]? = some e48), Nx 60 (fun _ => True) (feet [cellCh b1 [v2, (.int .i64 r_0_p)] 66]) w0 (wpAnyH Try.prog .any (opsAt Try.f40 [1, 1, 1, 0, 1, 0, 1, 0, 1, 1, 1, 1, 1, 0]) Qd (Mem (fun _ => True) (feet [cellCh b1 [v2, (.int .i64 r_0_p)] 66]) w0 [cellCh b5 [(.int .i64 0), (.int .i64 0), (.int .i64 0), (.int .i64 0)] 25, roCh elU8 v2 r_0_b]) 2 #[true, true, true, true, true, true, true, true, false, false]) [(4, (.pointer (some ⟨b5, 0, none⟩))), (5, (.pointer (some ⟨b15, 0, none⟩))), (57, (.int .i64 e48))] [cellCh b1 [v2, (.int .i64 r47)] 66, cellCh b15 [(.int .i64 t9), (.int .i64 t12), (.int .i64 r18), (.int .i64 r13)] 25, cellCh b5 [(.int .i64 0), (.int .i64 0), (.int .i64 0), (.int .i64 0)] 25, roCh elU8 v2 r_0_b] (k44 (r47, e48)) := by
                intro v45 r46 r47 e48 h49
                refine o_fad (d_take (i := 8) rfl (by kernel_rfl) (by kernel_rfl) (by kernel_rfl) hP (fun w m => m.pick [2, 3] rfl)) rfl rfl fld25_2 rfl ?_
                refine d_one (i := 9) rfl (by kernel_rfl) (o_stc (cs' := [(.int .i64 t9), (.int .i64 t12), (.int .i64 e48), (.int .i64 r13)]) 1 rfl rfl rfl ty3 rfl rfl rfl rfl ?_)
                refine d_and (fun w m => m.pick [2, 3] rfl) ?_
                refine pk [0, 1, 2, 3] rfl ?_
                refine re (E' := [(4, (.pointer (some ⟨b5, 0, none⟩))), (5, (.pointer (some ⟨b15, 0, none⟩)))]) ⟨rfl, rfl, trivial⟩ ?_
                exact H104 v45 r46 r47 e48 h49
              have H106 : ∀ (v45 : Value) (r46 : Int) (r47 : Int) (e48 : Int) (h49 : ([(-1), (w64 (t9 + 1))])[(r46).toNat]? = some e48), Nx 60 (fun _ => True) (feet [cellCh b1 [v2, (.int .i64 r_0_p)] 66]) w0 (wpAnyH Try.prog .any (opsAt Try.f40 [1, 1, 1, 0, 1, 0, 1, 0, 1, 1, 1, 1, 1, 0]) Qd (Mem (fun _ => True) (feet [cellCh b1 [v2, (.int .i64 r_0_p)] 66]) w0 [cellCh b5 [(.int .i64 0), (.int .i64 0), (.int .i64 0), (.int .i64 0)] 25, roCh elU8 v2 r_0_b]) 3 #[true, true, true, true, true, true, true, false, false, false]) [(4, (.pointer (some ⟨b5, 0, none⟩))), (5, (.pointer (some ⟨b15, 0, none⟩))), (56, (pEl v45 r46 1 0))] [cellCh b1 [v2, (.int .i64 r47)] 66, ownCh elInt 3 v45 ([(-1), (w64 (t9 + 1))]), cellCh b15 [(.int .i64 t9), (.int .i64 t12), (.int .i64 r18), (.int .i64 r13)] 25, cellCh b5 [(.int .i64 0), (.int .i64 0), (.int .i64 0), (.int .i64 0)] 25, roCh elU8 v2 r_0_b] (k44 (r47, e48)) := by
                intro v45 r46 r47 e48 h49
                refine d_one (i := 7) rfl (by kernel_rfl) (o_lds m_op (enc := encInt) (u := (.int .i64 e48)) 1 rfl reads_own flelInt rfl h49 rfl rfl ty3 rfl ?_)
                refine d_and (fun w m => m.pick [3, 4] rfl) ?_
                refine pk [0, 2, 3, 4] rfl ?_
                refine re (E' := [(4, (.pointer (some ⟨b5, 0, none⟩))), (5, (.pointer (some ⟨b15, 0, none⟩))), (57, (.int .i64 e48))]) ⟨rfl, rfl, rfl, trivial⟩ ?_
                exact H105 v45 r46 r47 e48 h49
              have H107 : ∀ (v45 : Value) (r46 : Int) (r47 : Int), Nx 60 (fun _ => True) (feet [cellCh b1 [v2, (.int .i64 r_0_p)] 66]) w0 (wpAnyH Try.prog .any (opsAt Try.f40 [1, 1, 1, 0, 1, 0, 1, 0, 1, 1, 1, 1, 1, 0]) Qd (Mem (fun _ => True) (feet [cellCh b1 [v2, (.int .i64 r_0_p)] 66]) w0 [cellCh b5 [(.int .i64 0), (.int .i64 0), (.int .i64 0), (.int .i64 0)] 25, roCh elU8 v2 r_0_b]) 4 #[true, true, true, true, true, true, false, false, false, false]) [(4, (.pointer (some ⟨b5, 0, none⟩))), (5, (.pointer (some ⟨b15, 0, none⟩))), (53, v45), (55, (.int .i64 r46))] [cellCh b1 [v2, (.int .i64 r47)] 66, ownCh elInt 3 v45 ([(-1), (w64 (t9 + 1))]), cellCh b15 [(.int .i64 t9), (.int .i64 t12), (.int .i64 r18), (.int .i64 r13)] 25, cellCh b5 [(.int .i64 0), (.int .i64 0), (.int .i64 0), (.int .i64 0)] 25, roCh elU8 v2 r_0_b] (idxW ([(-1), (w64 (t9 + 1))]) r46 (fun e48 => k44 (r47, e48))) := by
                intro v45 r46 r47
                refine d_one (i := 6) rfl (by kernel_rfl) (o_idx m_op 1 rfl reads_own rfl rfl rfl el41 ?_); intro e48 h49
                refine d_and (fun w m => m.pick [3, 4] rfl) ?_
                refine pk [0, 1, 2, 3, 4] rfl ?_
                refine re (E' := [(4, (.pointer (some ⟨b5, 0, none⟩))), (5, (.pointer (some ⟨b15, 0, none⟩))), (56, (pEl v45 r46 1 0))]) ⟨rfl, rfl, rfl, trivial⟩ ?_
                exact H106 v45 r46 r47 e48 h49
              have H108 : ∀ (v45 : Value), Nx 60 (fun _ => True) (feet [cellCh b1 [v2, (.int .i64 r_0_p)] 66]) w0 (wpAnyH Try.prog .any (opsAt Try.f40 [1, 1, 1, 0, 1, 0, 1, 0, 1, 1, 1, 1, 1, 0]) Qd (Mem (fun _ => True) (feet [cellCh b1 [v2, (.int .i64 r_0_p)] 66]) w0 [cellCh b5 [(.int .i64 0), (.int .i64 0), (.int .i64 0), (.int .i64 0)] 25, roCh elU8 v2 r_0_b]) 5 #[true, true, true, true, true, false, false, false, false, false]) [(4, (.pointer (some ⟨b5, 0, none⟩))), (5, (.pointer (some ⟨b15, 0, none⟩))), (54, (.pointer (some ⟨b1, 0, none⟩))), (53, v45)] [ownCh elInt 3 v45 ([(-1), (w64 (t9 + 1))]), cellCh b1 [v2, (.int .i64 r29)] 66, cellCh b15 [(.int .i64 t9), (.int .i64 t12), (.int .i64 r18), (.int .i64 r13)] 25, cellCh b5 [(.int .i64 0), (.int .i64 0), (.int .i64 0), (.int .i64 0)] 25, roCh elU8 v2 r_0_b] (L_spec_l20Rd_pick r_0_b r29 2 (fun (r46, r47) => idxW ([(-1), (w64 (t9 + 1))]) r46 (fun e48 => k44 (r47, e48)))) := by
                intro v45
                refine pk [1, 0, 2, 3, 4] rfl ?_
                refine d_one (i := 5) rfl (by kernel_rfl) (o_call (vs := [(.pointer (some ⟨b1, 0, none⟩)), (.int .i64 2)]) (M0 := [cellCh b1 [v2, (.int .i64 r29)] 66]) Try.call47 rfl rfl (by intro w m h; exact w_spec_l20Rd_pick (r_0_b := r_0_b) (r_0_p := r29) (n_1 := 2) m.given (m.rdM 3 rfl reads_ro) h) ?_); rintro ⟨r46, r47⟩ _
                refine d_and (fun w m => m.pick [3, 4] rfl) ?_
                refine pk [0, 1, 2, 3, 4] rfl ?_
                refine re (E' := [(4, (.pointer (some ⟨b5, 0, none⟩))), (5, (.pointer (some ⟨b15, 0, none⟩))), (53, v45), (55, (.int .i64 r46))]) ⟨rfl, rfl, rfl, rfl, trivial⟩ ?_
                exact H107 v45 r46 r47
              have H109 : ∀ (r50 : Int) (r51 : Int), Nx 60 (fun _ => True) (feet [cellCh b1 [v2, (.int .i64 r_0_p)] 66]) w0 (wpAnyH Try.prog .any (opsAt Try.f40 [1, 1, 1, 0, 1, 0, 1, 0, 1, 1, 1, 1, 1, 0]) Qd (Mem (fun _ => True) (feet [cellCh b1 [v2, (.int .i64 r_0_p)] 66]) w0 [cellCh b5 [(.int .i64 0), (.int .i64 0), (.int .i64 0), (.int .i64 0)] 25, roCh elU8 v2 r_0_b]) 5 #[true, true, true, false, true, true, false, false, false, false]) [(4, (.pointer (some ⟨b5, 0, none⟩))), (5, (.pointer (some ⟨b15, 0, none⟩))), (52, (.int .i64 (w64 (t9 + 1)))), (55, (.int .i64 r50))] [cellCh b1 [v2, (.int .i64 r51)] 66, cellCh b15 [(.int .i64 t9), (.int .i64 t12), (.int .i64 r18), (.int .i64 r13)] 25, cellCh b5 [(.int .i64 0), (.int .i64 0), (.int .i64 0), (.int .i64 0)] 25, roCh elU8 v2 r_0_b] (idxW ([(-1), (w64 (t9 + 1))]) r50 (fun e48 => k44 (r51, e48))) := by
                intro r50 r51
                refine d_one (i := 3) rfl (by kernel_rfl) (o_bsl (enc := encInt) (qs := [(0, (.int .i64 (-1))), (1, (.int .i64 (w64 (t9 + 1))))]) (cells := [(.int .i64 (-1)), (.int .i64 (w64 (t9 + 1)))]) ([(-1), (w64 (t9 + 1))]) flelInt (by intro ρ h; simp only [List.map_toArray, List.map_cons, List.map_nil, h (.const (.int .i64 (-1))) _ rfl, h (.tmp 52) _ rfl]) rfl el41 zero3 rfl rfl rfl rfl rfl rfl ?_); intro v52
                refine d_and (fun w m => m.pick [3, 4] rfl) ?_
                refine pk [1, 0, 2, 3, 4] rfl ?_
                refine re (E' := [(4, (.pointer (some ⟨b5, 0, none⟩))), (5, (.pointer (some ⟨b15, 0, none⟩))), (53, v52), (55, (.int .i64 r50))]) ⟨rfl, rfl, rfl, rfl, trivial⟩ ?_
                exact H107 v52 r50 r51
              have H110 : ∀ (_ : Unit), Nx 60 (fun _ => True) (feet [cellCh b1 [v2, (.int .i64 r_0_p)] 66]) w0 (wpAnyH Try.prog .any (opsAt Try.f40 [1, 1, 1, 0, 1, 0, 1, 0, 1, 1, 1, 1, 1, 0]) Qd (Mem (fun _ => True) (feet [cellCh b1 [v2, (.int .i64 r_0_p)] 66]) w0 [cellCh b5 [(.int .i64 0), (.int .i64 0), (.int .i64 0), (.int .i64 0)] 25, roCh elU8 v2 r_0_b]) 7 #[true, true, false, false, true, false, false, false, false, false]) [(4, (.pointer (some ⟨b5, 0, none⟩))), (5, (.pointer (some ⟨b15, 0, none⟩))), (54, (.pointer (some ⟨b1, 0, none⟩))), (51, (.int .i64 t9))] [cellCh b1 [v2, (.int .i64 r29)] 66, cellCh b15 [(.int .i64 t9), (.int .i64 t12), (.int .i64 r18), (.int .i64 r13)] 25, cellCh b5 [(.int .i64 0), (.int .i64 0), (.int .i64 0), (.int .i64 0)] 25, roCh elU8 v2 r_0_b] (L_spec_l20Rd_pick r_0_b r29 2 (fun (r46, r47) => idxW ([(-1), (w64 (t9 + 1))]) r46 (fun e48 => k44 (r47, e48)))) := by
                intro _
                refine o_addw (d_take (i := 2) rfl (by kernel_rfl) (by kernel_rfl) (by kernel_rfl) hP (fun w m => m.pick [2, 3] rfl)) rfl rfl rfl ?_
                refine d_two (i := 3) (j := 5) rfl rfl (by kernel_rfl) ?_ ?_
                · intro o ho; cases ho
                  refine o_bsl (enc := encInt) (qs := [(0, (.int .i64 (-1))), (1, (.int .i64 (w64 (t9 + 1))))]) (cells := [(.int .i64 (-1)), (.int .i64 (w64 (t9 + 1)))]) ([(-1), (w64 (t9 + 1))]) flelInt (by intro ρ h; simp only [List.map_toArray, List.map_cons, List.map_nil, h (.const (.int .i64 (-1))) _ rfl, h (.tmp 52) _ rfl]) rfl el41 zero3 rfl rfl rfl rfl rfl rfl ?_; intro v45
                  refine d_and (fun w m => m.pick [3, 4] rfl) ?_
                  refine pk [0, 1, 2, 3, 4] rfl ?_
                  refine re (E' := [(4, (.pointer (some ⟨b5, 0, none⟩))), (5, (.pointer (some ⟨b15, 0, none⟩))), (54, (.pointer (some ⟨b1, 0, none⟩))), (53, v45)]) ⟨rfl, rfl, rfl, rfl, trivial⟩ ?_
                  exact H108 v45
                · intro o ho; cases ho
                  refine pk [0, 1, 2, 3] rfl ?_
                  refine o_call (vs := [(.pointer (some ⟨b1, 0, none⟩)), (.int .i64 2)]) (M0 := [cellCh b1 [v2, (.int .i64 r29)] 66]) Try.call47 rfl rfl (by intro w m h; exact w_spec_l20Rd_pick (r_0_b := r_0_b) (r_0_p := r29) (n_1 := 2) m.given (m.rdM 2 rfl reads_ro) h) ?_; rintro ⟨r50, r51⟩ _
                  refine d_and (fun w m => m.pick [2, 3] rfl) ?_
                  refine pk [0, 1, 2, 3] rfl ?_
                  refine re (E' := [(4, (.pointer (some ⟨b5, 0, none⟩))), (5, (.pointer (some ⟨b15, 0, none⟩))), (52, (.int .i64 (w64 (t9 + 1)))), (55, (.int .i64 r50))]) ⟨rfl, rfl, rfl, rfl, trivial⟩ ?_
                  exact H109 r50 r51
              have H111 : ∀ (r53 : Int) (r54 : Int), Nx 60 (fun _ => True) (feet [cellCh b1 [v2, (.int .i64 r_0_p)] 66]) w0 (wpAnyH Try.prog .any (opsAt Try.f40 [1, 1, 1, 0, 1, 0, 1, 0, 1, 1, 1, 1, 1, 0]) Qd (Mem (fun _ => True) (feet [cellCh b1 [v2, (.int .i64 r_0_p)] 66]) w0 [cellCh b5 [(.int .i64 0), (.int .i64 0), (.int .i64 0), (.int .i64 0)] 25, roCh elU8 v2 r_0_b]) 6 #[true, true, false, false, true, true, false, false, false, false]) [(4, (.pointer (some ⟨b5, 0, none⟩))), (5, (.pointer (some ⟨b15, 0, none⟩))), (55, (.int .i64 r53)), (51, (.int .i64 t9))] [cellCh b1 [v2, (.int .i64 r54)] 66, cellCh b15 [(.int .i64 t9), (.int .i64 t12), (.int .i64 r18), (.int .i64 r13)] 25, cellCh b5 [(.int .i64 0), (.int .i64 0), (.int .i64 0), (.int .i64 0)] 25, roCh elU8 v2 r_0_b] (idxW ([(-1), (w64 (t9 + 1))]) r53 (fun e48 => k44 (r54, e48))) := by
                intro r53 r54
                refine o_addw (d_take (i := 2) rfl (by kernel_rfl) (by kernel_rfl) (by kernel_rfl) hP (fun w m => m.pick [2, 3] rfl)) rfl rfl rfl ?_
                refine d_one (i := 3) rfl (by kernel_rfl) (o_bsl (enc := encInt) (qs := [(0, (.int .i64 (-1))), (1, (.int .i64 (w64 (t9 + 1))))]) (cells := [(.int .i64 (-1)), (.int .i64 (w64 (t9 + 1)))]) ([(-1), (w64 (t9 + 1))]) flelInt (by intro ρ h; simp only [List.map_toArray, List.map_cons, List.map_nil, h (.const (.int .i64 (-1))) _ rfl, h (.tmp 52) _ rfl]) rfl el41 zero3 rfl rfl rfl rfl rfl rfl ?_); intro v55
                refine d_and (fun w m => m.pick [3, 4] rfl) ?_
                refine pk [1, 0, 2, 3, 4] rfl ?_
                refine re (E' := [(4, (.pointer (some ⟨b5, 0, none⟩))), (5, (.pointer (some ⟨b15, 0, none⟩))), (53, v55), (55, (.int .i64 r53))]) ⟨rfl, rfl, rfl, rfl, trivial⟩ ?_
                exact H107 v55 r53 r54
              have H112 : ∀ (r53 : Int) (r54 : Int), Nx 60 (fun _ => True) (feet [cellCh b1 [v2, (.int .i64 r_0_p)] 66]) w0 (wpAnyH Try.prog .any (opsAt Try.f40 [1, 1, 1, 0, 1, 0, 1, 0, 1, 1, 1, 1, 1, 0]) Qd (Mem (fun _ => True) (feet [cellCh b1 [v2, (.int .i64 r_0_p)] 66]) w0 [cellCh b5 [(.int .i64 0), (.int .i64 0), (.int .i64 0), (.int .i64 0)] 25, roCh elU8 v2 r_0_b]) 7 #[true, false, false, false, true, true, false, false, false, false]) [(4, (.pointer (some ⟨b5, 0, none⟩))), (5, (.pointer (some ⟨b15, 0, none⟩))), (50, (.pointer (some ⟨b15, 0, none⟩))), (55, (.int .i64 r53))] [cellCh b1 [v2, (.int .i64 r54)] 66, cellCh b15 [(.int .i64 t9), (.int .i64 t12), (.int .i64 r18), (.int .i64 r13)] 25, cellCh b5 [(.int .i64 0), (.int .i64 0), (.int .i64 0), (.int .i64 0)] 25, roCh elU8 v2 r_0_b] (idxW ([(-1), (w64 (t9 + 1))]) r53 (fun e48 => k44 (r54, e48))) := by
                intro r53 r54
                refine d_one (i := 1) rfl (by kernel_rfl) (o_ldc m_op (v := (.int .i64 t9)) 1 rfl rfl rfl ty3 rfl ?_)
                refine d_and (fun w m => m.pick [2, 3] rfl) ?_
                refine pk [0, 1, 2, 3] rfl ?_
                refine re (E' := [(4, (.pointer (some ⟨b5, 0, none⟩))), (5, (.pointer (some ⟨b15, 0, none⟩))), (55, (.int .i64 r53)), (51, (.int .i64 t9))]) ⟨rfl, rfl, rfl, rfl, trivial⟩ ?_
                exact H111 r53 r54
              refine o_fad (d_take (i := 0) rfl (by kernel_rfl) (by kernel_rfl) (by kernel_rfl) hP (fun w m => m.pick [2, 3] rfl)) rfl rfl fld25_0 rfl ?_
              refine o_mv (d_take (i := 4) rfl (by kernel_rfl) (by kernel_rfl) (by kernel_rfl) hP (fun w m => m.pick [2, 3] rfl)) rfl rfl ?_
              refine d_two (i := 1) (j := 5) rfl rfl (by kernel_rfl) ?_ ?_
              · intro o ho; cases ho
                refine o_ldc m_op (v := (.int .i64 t9)) 1 rfl rfl rfl ty3 rfl ?_
                refine d_and (fun w m => m.pick [2, 3] rfl) ?_
                refine pk [0, 1, 2, 3] rfl ?_
                refine re (E' := [(4, (.pointer (some ⟨b5, 0, none⟩))), (5, (.pointer (some ⟨b15, 0, none⟩))), (54, (.pointer (some ⟨b1, 0, none⟩))), (51, (.int .i64 t9))]) ⟨rfl, rfl, rfl, rfl, trivial⟩ ?_
                exact H110 ()
              · intro o ho; cases ho
                refine pk [0, 1, 2, 3] rfl ?_
                refine o_call (vs := [(.pointer (some ⟨b1, 0, none⟩)), (.int .i64 2)]) (M0 := [cellCh b1 [v2, (.int .i64 r29)] 66]) Try.call47 rfl rfl (by intro w m h; exact w_spec_l20Rd_pick (r_0_b := r_0_b) (r_0_p := r29) (n_1 := 2) m.given (m.rdM 2 rfl reads_ro) h) ?_; rintro ⟨r53, r54⟩ _
                refine d_and (fun w m => m.pick [2, 3] rfl) ?_
                refine pk [0, 1, 2, 3] rfl ?_
                refine re (E' := [(4, (.pointer (some ⟨b5, 0, none⟩))), (5, (.pointer (some ⟨b15, 0, none⟩))), (50, (.pointer (some ⟨b15, 0, none⟩))), (55, (.int .i64 r53))]) ⟨rfl, rfl, rfl, rfl, trivial⟩ ?_
                exact H112 r53 r54
            · rintro ⟨t42, t43⟩ a w ⟨hE, hm⟩ h
              refine nx_of hE hm h ?_
              clear hE hm h
              refine b_norm ?_
              exact l_join (t42, t9, t12, t43, r13) (fun a w hE hm => ⟨hE.sub ⟨rfl, rfl, trivial⟩, (hm.pick [0, 1, 2, 3] rfl)⟩)
          · refine c_region ?_
            refine stw (o_bsl (enc := encInt) (qs := [(0, (.int .i64 (-1))), (1, (.int .i64 1000001))]) (cells := [(.int .i64 (-1)), (.int .i64 1000001)]) ([(-1), 1000001]) flelInt (by intro ρ h; simp only [List.map_toArray, List.map_cons, List.map_nil, h (.const (.int .i64 (-1))) _ rfl, h (.const (.int .i64 1000001)) _ rfl]) rfl el41 zero3 rfl rfl rfl rfl rfl rfl ?_); intro v56
            refine o_mv st rfl rfl ?_
            refine pk [1, 0, 2, 3, 4] rfl ?_
            refine stw (o_call (vs := [(.pointer (some ⟨b1, 0, none⟩)), (.int .i64 2)]) (M0 := [cellCh b1 [v2, (.int .i64 r29)] 66]) Try.call47 rfl rfl (by intro w m h; exact w_spec_l20Rd_pick (r_0_b := r_0_b) (r_0_p := r29) (n_1 := 2) m.given (m.rdM 3 rfl reads_ro) h) ?_); rintro ⟨r58, r59⟩ _
            refine o_idx st 1 rfl reads_own rfl rfl rfl el41 ?_; intro e60 h61
            refine o_lds st (enc := encInt) (u := (.int .i64 e60)) 1 rfl reads_own flelInt rfl h61 rfl rfl ty3 rfl ?_
            refine o_fad st rfl rfl fld25_3 rfl ?_
            refine stw (o_stc (cs' := [(.int .i64 t9), (.int .i64 t12), (.int .i64 r18), (.int .i64 e60)]) 2 rfl rfl rfl ty3 rfl rfl rfl rfl ?_)
            refine c_nil ?_
            refine b_norm ?_
            exact l_join (r59, t9, t12, r18, e60) (fun a w hE hm => ⟨hE.sub ⟨rfl, rfl, trivial⟩, (hm.pick [0, 2, 3, 4] rfl)⟩)
    · refine c_skip ?_
      exact l_join (r27, t9, t12, r18, r13) (fun a w hE hm => ⟨hE.sub ⟨rfl, rfl, trivial⟩, (hm.pick [0, 1, 2, 3] rfl)⟩)
  · rintro ⟨t20, t21, t22, t23, t24⟩ a w ⟨hE, hm⟩ h
    refine nx_of hE hm h ?_
    clear hE hm h
    refine c_seq ?_
    refine c_region ?_
    refine o_ldc st (v := (.agg #[(.int .i64 t21), (.int .i64 t22), (.int .i64 t23), (.int .i64 t24)])) 1 rfl rfl rfl ty25 rfl ?_
    refine stw (o_stc (cs' := [(.int .i64 t21), (.int .i64 t22), (.int .i64 t23), (.int .i64 t24)]) 2 rfl rfl rfl ty25 rfl rfl rfl rfl ?_)
    refine c_nil ?_
    refine l_then ?_
    refine c_ret ?_
    exact l_end1 Try.results40 ((GBucket.mk t21 t22 t23 t24), t20) () (rv_c 2 rfl rfl ty25 rfl) (fun w m => NewCh.of m [0] rfl (fr_cons free_cell fr_nil))

set_option maxRecDepth 100000 in
set_option maxHeartbeats 8000000 in
theorem w_spec_l20Open {w0 : World} {F : Nat → Prop} {v1 : Value} {code_0 : (List UInt8)} {κ : ((List UInt8) × Int) → Prop} (hF : ∀ b, F b → b < w0.heap.size ∧ ¬ feet [] b) (hv1 : Sl elU8 F w0 v1 code_0) (h : L_spec_l20Open code_0 κ) :
    Calls Try.prog 41 #[v1] w0 (Ret [] F w0 κ (fun (r : ((List UInt8) × Int)) (u : (Nat × Value)) => .pointer (some ⟨u.1, 0, none⟩)) (fun (r : ((List UInt8) × Int)) (u : (Nat × Value)) => [cellCh u.1 [u.2, (.int .i64 r.2)] 66, roCh elU8 u.2 r.1])) := by
  refine enterB (args := [v1]) [] hF Try.func41 rfl Try.ntmps41 rfl [roCh elU8 v1 code_0] (hf_cons hf_nil) (hh_cons hv1 hh_nil) hM_nil List.Pairwise.nil hh_nil h ?_
  clear h hF hv1
  refine c_seq ?_
  refine c_region ?_
  refine o_as st rfl rfl ?_
  refine c_nil ?_
  refine l_then ?_
  refine c_join (σ := (List UInt8)) (fun (xs4 : (List UInt8)) (a : Act) (w : World) => ∃ (v5 : Value), Has 11 [(0, v5)] a ∧ Mem (gB F w0) (feet []) w0 [roCh elU8 v5 xs4] w) ?_ ?_
  · intro k7
    refine c_seq ?_
    refine c_region ?_
    refine o_mv st rfl rfl ?_
    refine o_len st el28 0 rfl reads_ro rfl rfl ?_
    refine o_gtr st rfl rfl rfl ?_
    refine c_nil ?_
    refine l_then ?_
    refine c_cond rfl ?_ ?_
    · refine c_region ?_
      refine o_mv st rfl rfl ?_
      refine stw (o_slc (I := 0) (J := 2000) 0 rfl rfl rfl rfl rfl el28 rfl ?_); intro v8 xs9
      refine o_as st rfl rfl ?_
      refine c_nil ?_
      exact l_join xs9 (fun a w hE hm => ⟨v8, hE.sub ⟨rfl, trivial⟩, (hm.pick [0] rfl)⟩)
    · refine c_skip ?_
      exact l_join code_0 (fun a w hE hm => ⟨v1, hE.sub ⟨rfl, trivial⟩, (hm.pick [0] rfl)⟩)
  · rintro xs4 a w ⟨v5, hE, hm⟩ h
    refine nx_of hE hm h ?_
    clear hE hm h
    refine c_seq ?_
    refine c_region ?_
    refine o_mv st rfl rfl ?_
    refine nx_ro 0 rfl ?_; rintro a11 l12 q13 rfl
    refine o_bld st (qs := [(0, (.slice a11 l12 q13))]) (cells := [(.slice a11 l12 q13), (.int .i64 0)]) (by intro ρ h; simp only [List.map_toArray, List.map_cons, List.map_nil, h (.tmp 8) _ rfl]) rfl bld66 rfl ?_
    refine stw (o_box rfl rfl [(.slice a11 l12 q13), (.int .i64 0)] rfl ?_); intro b14
    refine o_as st rfl rfl ?_
    refine c_nil ?_
    refine l_then ?_
    refine c_ret ?_
    exact l_end1 Try.results41 (xs4, 0) (b14, (.slice a11 l12 q13)) (rv_t rfl) (fun w m => NewCh.ofB m [0, 1] rfl)

set_option maxRecDepth 100000 in
set_option maxHeartbeats 8000000 in
theorem w_spec_DrawTakeMany {w0 : World} {F : Nat → Prop} {v1 : Value} {code_0 : (List UInt8)} {κ : (GBucket × (List Int)) → Prop} (hv1 : Sl elU8 (fun b => b < w0.heap.size ∧ ¬ feet [] b) w0 v1 code_0) (h : L_spec_DrawTakeMany code_0 κ) :
    Calls Try.prog 27 #[v1] w0 (Ret [] F w0 κ (fun (r : (GBucket × (List Int))) (u : Value) => .tuple #[(.agg #[(.int .i64 r.1.xSize), (.int .i64 r.1.xEvery), (.int .i64 r.1.xTokens), (.int .i64 r.1.xLast)]), u]) (fun (r : (GBucket × (List Int))) (u : Value) => [ownCh elInt 3 u (r.2)])) := by
  refine enter (args := [v1]) [] Try.func27 rfl Try.ntmps27 rfl [roCh elU8 v1 code_0] (hf_cons hf_nil) (hh_cons hv1 hh_nil) (Given.nil w0).lt (Given.nil w0).disj (Given.nil w0).hold h ?_
  clear h hv1
  refine c_seq ?_
  refine c_region ?_
  refine stw (o_alloc rfl [(.int .i64 0), (.int .i64 0), (.int .i64 0), (.int .i64 0)] zero25 ?_); intro b3
  refine stw (o_asn elInt 3 rfl rfl ?_)
  refine c_nil ?_
  refine l_then ?_
  refine c_seq ?_
  refine c_region ?_
  refine o_mv st rfl rfl ?_
  refine stw (o_callP (vs := [v1]) Try.call41 rfl rfl (by intro w m h; exact w_spec_l20Open (code_0 := code_0) fz_ok0 (m.ro 2 rfl) h) ?_); rintro ⟨r8, r11⟩ ⟨b7, v9⟩
  refine o_as st rfl rfl ?_
  refine c_nil ?_
  refine l_then ?_
  refine c_seq ?_
  refine c_region ?_
  refine o_mv st rfl rfl ?_
  refine pk [0, 1, 2, 3, 4] rfl ?_
  refine stw (o_call (vs := [(.pointer (some ⟨b7, 0, none⟩)), (.int .i64 14)]) (M0 := [cellCh b7 [v9, (.int .i64 r11)] 66]) Try.call40 rfl rfl (by intro w m h; exact w_spec_l20Bucket (r_0_b := r8) (r_0_p := r11) (n_1 := 14) m.given (m.rdM 0 rfl reads_ro) h) ?_); rintro ⟨r13, r14⟩ _
  refine stw (o_alloc rfl [(.int .i64 0), (.int .i64 0), (.int .i64 0), (.int .i64 0)] zero25 ?_); intro b15
  refine stw (o_stc (cs' := [(.int .i64 r13.xSize), (.int .i64 r13.xEvery), (.int .i64 r13.xTokens), (.int .i64 r13.xLast)]) 0 rfl rfl rfl ty25 rfl rfl rfl rfl ?_)
  refine c_nil ?_
  refine l_then ?_
  refine c_seq ?_
  refine c_region ?_
  refine o_fad st rfl rfl fld25_3 rfl ?_
  refine o_ldc st (v := (.int .i64 r13.xLast)) 0 rfl rfl rfl ty3 rfl ?_
  refine o_as st rfl rfl ?_
  refine c_nil ?_
  refine l_then ?_
  refine c_seq ?_
  refine c_region ?_
  refine stw (o_bsl (enc := encInt) (qs := []) (cells := []) ([]) flelInt (by intro ρ h; simp only [List.map_toArray, List.map_cons, List.map_nil]) rfl el41 zero3 rfl rfl rfl rfl rfl rfl ?_); intro v17
  refine o_as st rfl rfl ?_
  refine c_nil ?_
  refine l_then ?_
  refine c_seq ?_
  refine c_seq ?_
  refine c_region ?_
  refine o_mv st rfl rfl ?_
  refine pk [2, 0, 1, 3, 4, 5, 6] rfl ?_
  refine stw (o_call (vs := [(.pointer (some ⟨b7, 0, none⟩)), (.int .i64 14)]) (M0 := [cellCh b7 [v9, (.int .i64 r14)] 66]) Try.call47 rfl rfl (by intro w m h; exact w_spec_l20Rd_pick (r_0_b := r8) (r_0_p := r14) (n_1 := 14) m.given (m.rdM 2 rfl reads_ro) h) ?_); rintro ⟨r19, r20⟩ _
  refine o_as st rfl rfl ?_
  refine c_nil ?_
  refine l_then ?_
  refine c_block ?_
  refine c_loop (σ := (Int × Int × (List Int) × Int)) (fun ((t21, t22, xs24, t27) : (Int × Int × (List Int) × Int)) (a : Act) (w : World) => ∃ (v25 : Value), Has 47 [(2, (.pointer (some ⟨b3, 0, none⟩))), (4, (.pointer (some ⟨b7, 0, none⟩))), (5, (.pointer (some ⟨b15, 0, none⟩))), (6, (.int .i64 t22)), (7, v25), (8, (.int .i64 t27))] a ∧ Mem (fun _ => True) (feet []) w0 [cellCh b7 [v9, (.int .i64 t21)] 66, cellCh b15 [(.int .i64 r13.xSize), (.int .i64 r13.xEvery), (.int .i64 r13.xTokens), (.int .i64 r13.xLast)] 25, roCh elU8 v9 r8, cellCh b3 [(.int .i64 0), (.int .i64 0), (.int .i64 0), (.int .i64 0)] 25, ownCh elInt 3 v25 xs24] w) (fun a w hE hm => ⟨v17, hE.sub ⟨rfl, rfl, rfl, rfl, rfl, rfl, trivial⟩, (hm.pick [0, 2, 3, 5, 1] rfl)⟩) ?_
  rintro nx28 ⟨t21, t22, xs24, t27⟩ a w ⟨v25, hE, hm⟩ h
  refine nx_of hE hm h ?_
  clear hE hm h
  refine c_seq ?_
  refine c_seq ?_
  refine c_region ?_
  refine o_mv st rfl rfl ?_
  refine o_gtr st rfl rfl rfl ?_
  refine c_nil ?_
  refine l_then ?_
  refine c_cond rfl ?_ ?_
  · refine c_skip ?_
    refine l_then ?_
    refine c_seq ?_
    refine c_block ?_
    refine c_seq ?_
    refine c_region ?_
    refine o_mv st rfl rfl ?_
    refine o_mv st rfl rfl ?_
    refine pk [0, 1, 2, 3, 4] rfl ?_
    refine stw (o_call (vs := [(.pointer (some ⟨b7, 0, none⟩)), (.int .i64 9)]) (M0 := [cellCh b7 [v9, (.int .i64 t21)] 66]) Try.call47 rfl rfl (by intro w m h; exact w_spec_l20Rd_pick (r_0_b := r8) (r_0_p := t21) (n_1 := 9) m.given (m.rdM 1 rfl reads_ro) h) ?_); rintro ⟨r29, r30⟩ _
    refine o_add st rfl rfl rfl ?_; intro t31
    refine o_as st rfl rfl ?_
    refine c_nil ?_
    refine l_then ?_
    refine c_region ?_
    refine o_mv st rfl rfl ?_
    refine o_mv st rfl rfl ?_
    refine stw (o_bsl (enc := encInt) (qs := [(0, (.int .i64 t31))]) (cells := [(.int .i64 t31)]) ([t31]) flelInt (by intro ρ h; simp only [List.map_toArray, List.map_cons, List.map_nil, h (.tmp 27) _ rfl]) rfl el41 zero3 rfl rfl rfl rfl rfl rfl ?_); intro v32
    refine stw (o_app 5 0 rfl rfl reads_own (.inr flelInt.free) rfl rfl rfl el41 rfl zero3 rfl rfl ?_); intro v34
    refine o_as st rfl rfl ?_
    refine c_nil ?_
    refine b_norm ?_
    refine l_then ?_
    refine c_region ?_
    refine o_mv st rfl rfl ?_
    refine o_sub st rfl rfl rfl ?_; intro t36
    refine o_as st rfl rfl ?_
    refine c_nil ?_
    exact l_join (r30, t31, (xs24 ++ ([t31])), t36) (fun a w hE hm => ⟨v34, hE.sub ⟨rfl, rfl, rfl, rfl, rfl, rfl, trivial⟩, (hm.pick [1, 2, 3, 4, 5] rfl)⟩)
  · refine c_exit ?_
    refine l_exit ?_
    refine l_exit ?_
    refine b_exit ?_
    refine l_then ?_
    refine c_join (σ := (Int × (List Int))) (fun ((t37, xs38) : (Int × (List Int))) (a : Act) (w : World) => ∃ (v39 : Value), Has 47 [(2, (.pointer (some ⟨b3, 0, none⟩))), (4, (.pointer (some ⟨b7, 0, none⟩))), (5, (.pointer (some ⟨b15, 0, none⟩))), (7, v39)] a ∧ Mem (fun _ => True) (feet []) w0 [cellCh b7 [v9, (.int .i64 t37)] 66, cellCh b15 [(.int .i64 r13.xSize), (.int .i64 r13.xEvery), (.int .i64 r13.xTokens), (.int .i64 r13.xLast)] 25, roCh elU8 v9 r8, cellCh b3 [(.int .i64 0), (.int .i64 0), (.int .i64 0), (.int .i64 0)] 25, ownCh elInt 3 v39 xs38] w) ?_ ?_
    · intro k41
      refine c_seq ?_
      refine c_region ?_
      refine o_mv st rfl rfl ?_
      refine pk [0, 1, 2, 3, 4] rfl ?_
      refine stw (o_call (vs := [(.pointer (some ⟨b7, 0, none⟩)), (.int .i64 12)]) (M0 := [cellCh b7 [v9, (.int .i64 t21)] 66]) Try.call48 rfl rfl (by intro w m h; exact w_spec_l20Rd_odd (r_0_b := r8) (r_0_p := t21) (n_1 := 12) m.given (m.rdM 1 rfl reads_ro) h) ?_); rintro ⟨r42, r43⟩ _
      refine c_nil ?_
      refine l_then ?_
      refine c_cond rfl ?_ ?_
      · refine c_region ?_
        refine o_mv st rfl rfl ?_
        refine o_mv st rfl rfl ?_
        refine o_sub st rfl rfl rfl ?_; intro t44
        refine stw (o_bsl (enc := encInt) (qs := [(0, (.int .i64 t44)), (1, (.int .i64 1000001))]) (cells := [(.int .i64 t44), (.int .i64 1000001)]) ([t44, 1000001]) flelInt (by intro ρ h; simp only [List.map_toArray, List.map_cons, List.map_nil, h (.tmp 34) _ rfl, h (.const (.int .i64 1000001)) _ rfl]) rfl el41 zero3 rfl rfl rfl rfl rfl rfl ?_); intro v45
        refine o_mv st rfl rfl ?_
        refine pk [1, 0, 2, 3, 4, 5] rfl ?_
        refine stw (o_call (vs := [(.pointer (some ⟨b7, 0, none⟩)), (.int .i64 2)]) (M0 := [cellCh b7 [v9, (.int .i64 r43)] 66]) Try.call47 rfl rfl (by intro w m h; exact w_spec_l20Rd_pick (r_0_b := r8) (r_0_p := r43) (n_1 := 2) m.given (m.rdM 2 rfl reads_ro) h) ?_); rintro ⟨r47, r48⟩ _
        refine o_idx st 1 rfl reads_own rfl rfl rfl el41 ?_; intro e49 h50
        refine o_lds st (enc := encInt) (u := (.int .i64 e49)) 1 rfl reads_own flelInt rfl h50 rfl rfl ty3 rfl ?_
        refine stw (o_bsl (enc := encInt) (qs := [(0, (.int .i64 e49))]) (cells := [(.int .i64 e49)]) ([e49]) flelInt (by intro ρ h; simp only [List.map_toArray, List.map_cons, List.map_nil, h (.tmp 39) _ rfl]) rfl el41 zero3 rfl rfl rfl rfl rfl rfl ?_); intro v51
        refine stw (o_app 6 0 rfl rfl reads_own (.inr flelInt.free) rfl rfl rfl el41 rfl zero3 rfl rfl ?_); intro v53
        refine o_as st rfl rfl ?_
        refine c_nil ?_
        exact l_join (r48, (xs24 ++ ([e49]))) (fun a w hE hm => ⟨v53, hE.sub ⟨rfl, rfl, rfl, rfl, trivial⟩, (hm.pick [1, 3, 4, 5, 6] rfl)⟩)
      · refine c_skip ?_
        exact l_join (r43, xs24) (fun a w hE hm => ⟨v25, hE.sub ⟨rfl, rfl, rfl, rfl, trivial⟩, (hm.pick [0, 1, 2, 3, 4] rfl)⟩)
    · rintro ⟨t37, xs38⟩ a w ⟨v39, hE, hm⟩ h
      refine nx_of hE hm h ?_
      clear hE hm h
      refine c_join (σ := (List Int)) (fun (xs56 : (List Int)) (a : Act) (w : World) => ∃ (v57 : Value), Has 47 [(2, (.pointer (some ⟨b3, 0, none⟩))), (5, (.pointer (some ⟨b15, 0, none⟩))), (7, v57)] a ∧ Mem (fun _ => True) (feet []) w0 [cellCh b15 [(.int .i64 r13.xSize), (.int .i64 r13.xEvery), (.int .i64 r13.xTokens), (.int .i64 r13.xLast)] 25, cellCh b3 [(.int .i64 0), (.int .i64 0), (.int .i64 0), (.int .i64 0)] 25, ownCh elInt 3 v57 xs56] w) ?_ ?_
      · intro k59
        refine c_seq ?_
        refine c_region ?_
        refine o_mv st rfl rfl ?_
        refine pk [0, 1, 2, 3, 4] rfl ?_
        refine stw (o_call (vs := [(.pointer (some ⟨b7, 0, none⟩)), (.int .i64 24)]) (M0 := [cellCh b7 [v9, (.int .i64 t37)] 66]) Try.call48 rfl rfl (by intro w m h; exact w_spec_l20Rd_odd (r_0_b := r8) (r_0_p := t37) (n_1 := 24) m.given (m.rdM 1 rfl reads_ro) h) ?_); rintro ⟨r60, r61⟩ _
        refine c_nil ?_
        refine l_then ?_
        refine c_cond rfl ?_ ?_
        · refine c_region ?_
          refine stw (o_make (z := 0) flelInt rfl rfl rfl el41 rfl zero3 rfl rfl ?_); intro v62 xs63
          refine o_as st rfl rfl ?_
          refine c_nil ?_
          exact l_join xs63 (fun a w hE hm => ⟨v62, hE.sub ⟨rfl, rfl, rfl, trivial⟩, (hm.pick [2, 4, 0] rfl)⟩)
        · refine c_skip ?_
          exact l_join xs38 (fun a w hE hm => ⟨v39, hE.sub ⟨rfl, rfl, rfl, trivial⟩, (hm.pick [1, 3, 4] rfl)⟩)
      · rintro xs56 a w ⟨v57, hE, hm⟩ h
        refine nx_of hE hm h ?_
        clear hE hm h
        refine c_seq ?_
        refine c_region ?_
        refine o_ldc st (v := (.agg #[(.int .i64 r13.xSize), (.int .i64 r13.xEvery), (.int .i64 r13.xTokens), (.int .i64 r13.xLast)])) 0 rfl rfl rfl ty25 rfl ?_
        refine o_mv st rfl rfl ?_
        refine stw (o_stc (cs' := [(.int .i64 r13.xSize), (.int .i64 r13.xEvery), (.int .i64 r13.xTokens), (.int .i64 r13.xLast)]) 1 rfl rfl rfl ty25 rfl rfl rfl rfl ?_)
        refine o_as st rfl rfl ?_
        refine c_nil ?_
        refine l_then ?_
        refine c_ret ?_
        exact l_end2 Try.results27 (r13, xs56) v57 (rv_c 1 rfl rfl ty25 rfl) (rv_t rfl) rfl (fun w m => NewCh.of m [2] rfl (fr_cons (free_own flelInt) fr_nil))


end Go.Proofs.Ytcinklbbacmihaa
