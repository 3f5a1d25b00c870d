/- The walks of the functions of this seat (printed). -/
import Derived.Test.YtcinklbbacmihaaRows
import Derived.Test.YtcinklbbacmihaaG1Pure
set_option linter.unusedSimpArgs false
set_option linter.unusedVariables false
namespace Go.Proofs.Ytcinklbbacmihaa
open Go.RowKit
theorem bld25 : bldB Try.prog 25 = some (#[(0, 1), (1, 1), (2, 1), (3, 1)], [(.int .i64 0), (.int .i64 0), (.int .i64 0), (.int .i64 0)]) := by kernel_rfl
theorem el41 : elB Try.prog 41 = some (3, 1, 8) := by kernel_rfl
theorem el44 : elB Try.prog 44 = some (4, 1, 1) := by kernel_rfl
theorem fld23_0 : fldB Try.prog 23 0 = some (0, false, 1) := by kernel_rfl
theorem fld23_1 : fldB Try.prog 23 1 = some (1, false, 1) := by kernel_rfl
theorem fld23_2 : fldB Try.prog 23 2 = some (2, false, 1) := by kernel_rfl
theorem fld23_3 : fldB Try.prog 23 3 = some (3, false, 1) := by kernel_rfl
theorem fld25_0 : fldB Try.prog 25 0 = some (0, false, 1) := by kernel_rfl
theorem fld25_1 : fldB Try.prog 25 1 = some (1, false, 1) := by kernel_rfl
theorem fld25_2 : fldB Try.prog 25 2 = some (2, false, 1) := by kernel_rfl
theorem fld25_3 : fldB Try.prog 25 3 = some (3, false, 1) := by kernel_rfl
theorem ty23 : tyB Try.prog 23 = some (true, 4) := by kernel_rfl
theorem ty25 : tyB Try.prog 25 = some (true, 4) := by kernel_rfl
theorem ty3 : tyB Try.prog 3 = some (false, 1) := by kernel_rfl
theorem ty4 : tyB Try.prog 4 = some (false, 1) := by kernel_rfl
theorem und3 : Try.prog.underlying 3 = some (.int .i64) := by kernel_rfl
theorem und4 : Try.prog.underlying 4 = some .bool := by kernel_rfl
theorem zero25 : zeroB Try.prog 25 = some [(.int .i64 0), (.int .i64 0), (.int .i64 0), (.int .i64 0)] := by kernel_rfl
theorem zero3 : zeroB Try.prog 3 = some [(.int .i64 0)] := by kernel_rfl
theorem zero4 : zeroB Try.prog 4 = some [(.bool false)] := by kernel_rfl
theorem mixed : Try.prog.follows .mixedOrders = true := by kernel_rfl

set_option maxRecDepth 100000 in
theorem w_laws_toBucket {w0 : World} {F : Nat → Prop} {a_0 : GBucket} {κ : GBucket → Prop} (h : L_laws_toBucket a_0 κ) :
    Calls Try.prog 15 #[(.agg #[(.int .i64 a_0.xSize), (.int .i64 a_0.xEvery), (.int .i64 a_0.xTokens), (.int .i64 a_0.xLast)])] w0 (Ret [] F w0 κ (fun (r : GBucket) (u : Unit) => (.agg #[(.int .i64 r.xSize), (.int .i64 r.xEvery), (.int .i64 r.xTokens), (.int .i64 r.xLast)])) (fun (r : GBucket) (u : Unit) => [])) := by
  refine enter (args := [(.agg #[(.int .i64 a_0.xSize), (.int .i64 a_0.xEvery), (.int .i64 a_0.xTokens), (.int .i64 a_0.xLast)])]) [] Try.func15 rfl Try.ntmps15 rfl [] hf_nil hh_nil (Given.nil w0).lt (Given.nil w0).disj (Given.nil w0).hold h ?_
  clear h
  refine c_seq ?_
  refine c_region ?_
  refine stw (o_box rfl rfl [(.int .i64 a_0.xSize), (.int .i64 a_0.xEvery), (.int .i64 a_0.xTokens), (.int .i64 a_0.xLast)] rfl ?_); intro b1
  refine stw (o_alloc rfl [(.int .i64 0), (.int .i64 0), (.int .i64 0), (.int .i64 0)] zero25 ?_); intro b3
  refine c_nil ?_
  refine l_then ?_
  refine c_seq ?_
  refine c_region ?_
  refine stw (o_alloc rfl [(.int .i64 0), (.int .i64 0), (.int .i64 0), (.int .i64 0)] zero25 ?_); intro b5
  refine c_nil ?_
  refine l_then ?_
  refine c_seq ?_
  refine c_region ?_
  refine o_fad st rfl rfl fld23_0 rfl ?_
  refine o_ldc st (v := (.int .i64 a_0.xSize)) 2 rfl rfl rfl ty3 rfl ?_
  refine o_fad st rfl rfl fld25_0 rfl ?_
  refine stw (o_stc (cs' := [(.int .i64 a_0.xSize), (.int .i64 0), (.int .i64 0), (.int .i64 0)]) 0 rfl rfl rfl ty3 rfl rfl rfl rfl ?_)
  refine c_nil ?_
  refine l_then ?_
  refine c_seq ?_
  refine c_region ?_
  refine o_fad st rfl rfl fld23_1 rfl ?_
  refine o_ldc st (v := (.int .i64 a_0.xEvery)) 2 rfl rfl rfl ty3 rfl ?_
  refine o_fad st rfl rfl fld25_1 rfl ?_
  refine stw (o_stc (cs' := [(.int .i64 a_0.xSize), (.int .i64 a_0.xEvery), (.int .i64 0), (.int .i64 0)]) 0 rfl rfl rfl ty3 rfl rfl rfl rfl ?_)
  refine c_nil ?_
  refine l_then ?_
  refine c_seq ?_
  refine c_region ?_
  refine o_fad st rfl rfl fld23_2 rfl ?_
  refine o_ldc st (v := (.int .i64 a_0.xTokens)) 2 rfl rfl rfl ty3 rfl ?_
  refine o_fad st rfl rfl fld25_2 rfl ?_
  refine stw (o_stc (cs' := [(.int .i64 a_0.xSize), (.int .i64 a_0.xEvery), (.int .i64 a_0.xTokens), (.int .i64 0)]) 0 rfl rfl rfl ty3 rfl rfl rfl rfl ?_)
  refine c_nil ?_
  refine l_then ?_
  refine c_seq ?_
  refine c_region ?_
  refine o_fad st rfl rfl fld23_3 rfl ?_
  refine o_ldc st (v := (.int .i64 a_0.xLast)) 2 rfl rfl rfl ty3 rfl ?_
  refine o_fad st rfl rfl fld25_3 rfl ?_
  refine stw (o_stc (cs' := [(.int .i64 a_0.xSize), (.int .i64 a_0.xEvery), (.int .i64 a_0.xTokens), (.int .i64 a_0.xLast)]) 0 rfl rfl rfl ty3 rfl rfl rfl rfl ?_)
  refine c_nil ?_
  refine l_then ?_
  refine c_seq ?_
  refine c_region ?_
  refine o_ldc st (v := (.agg #[(.int .i64 a_0.xSize), (.int .i64 a_0.xEvery), (.int .i64 a_0.xTokens), (.int .i64 a_0.xLast)])) 0 rfl rfl rfl ty25 rfl ?_
  refine stw (o_stc (cs' := [(.int .i64 a_0.xSize), (.int .i64 a_0.xEvery), (.int .i64 a_0.xTokens), (.int .i64 a_0.xLast)]) 1 rfl rfl rfl ty25 rfl rfl rfl rfl ?_)
  refine c_nil ?_
  refine l_then ?_
  refine c_ret ?_
  exact l_end1 Try.results15 a_0 () (rv_c 1 rfl rfl ty25 rfl) (fun _ _ => NewCh.nil _ _ _ _)

set_option maxRecDepth 100000 in
theorem w_impl_timeValid {w0 : World} {F : Nat → Prop} {now_0 : Int} {κ : Bool → Prop} (h : L_impl_timeValid now_0 κ) :
    Calls Try.prog 39 #[(.int .i64 now_0)] w0 (Ret [] F w0 κ (fun (r : Bool) (u : Unit) => (.bool r)) (fun (r : Bool) (u : Unit) => [])) := by
  refine enter (args := [(.int .i64 now_0)]) [] Try.func39 rfl Try.ntmps39 rfl [] hf_nil hh_nil (Given.nil w0).lt (Given.nil w0).disj (Given.nil w0).hold h ?_
  clear h
  refine c_seq ?_
  refine c_region ?_
  refine o_as st rfl rfl ?_
  refine c_nil ?_
  refine l_then ?_
  refine c_join (σ := Bool) (fun (t1 : Bool) (a : Act) (w : World) => Has 9 [(2, (.bool t1))] a ∧ Mem (fun _ => True) (feet []) w0 [] w) ?_ ?_
  · intro k2
    refine c_region ?_
    refine o_mv st rfl rfl ?_
    refine o_geq st rfl rfl rfl ?_
    refine o_mv st rfl rfl ?_
    refine st_sp (dj := 5) rfl ?_ ?_
    · refine o_mv (st_g rfl rfl) rfl rfl ?_
      refine o_leq (st_g rfl rfl) rfl rfl rfl ?_
      refine o_pickT st rfl rfl rfl ?_
      refine o_as st rfl rfl ?_
      refine c_nil ?_
      exact l_join (decide (now_0 ≤ 1000000)) (fun a w hE hm => ⟨hE.sub ⟨rfl, trivial⟩, (hm.pick [] rfl)⟩)
    · refine st_s rfl rfl rfl rfl ?_
      refine st_s rfl rfl rfl rfl ?_
      refine o_pickF st rfl rfl rfl ?_
      refine o_as st rfl rfl ?_
      refine c_nil ?_
      exact l_join false (fun a w hE hm => ⟨hE.sub ⟨rfl, trivial⟩, (hm.pick [] rfl)⟩)
  · rintro t1 a w ⟨hE, hm⟩ h
    refine nx_of hE hm h ?_
    clear hE hm h
    refine c_ret ?_
    exact l_end1 Try.results39 t1 () (rv_t rfl) (fun _ _ => NewCh.nil _ _ _ _)

set_option maxRecDepth 100000 in
theorem w_impl_BucketValid {w0 : World} {F : Nat → Prop} {b_0 : GBucket} {κ : Bool → Prop} (h : L_impl_BucketValid b_0 κ) :
    Calls Try.prog 16 #[(.agg #[(.int .i64 b_0.xSize), (.int .i64 b_0.xEvery), (.int .i64 b_0.xTokens), (.int .i64 b_0.xLast)])] w0 (Ret [] F w0 κ (fun (r : Bool) (u : Unit) => (.bool r)) (fun (r : Bool) (u : Unit) => [])) := by
  refine enter (args := [(.agg #[(.int .i64 b_0.xSize), (.int .i64 b_0.xEvery), (.int .i64 b_0.xTokens), (.int .i64 b_0.xLast)])]) [] Try.func16 rfl Try.ntmps16 rfl [] hf_nil hh_nil (Given.nil w0).lt (Given.nil w0).disj (Given.nil w0).hold h ?_
  clear h
  refine c_seq ?_
  refine c_region ?_
  refine stw (o_box rfl rfl [(.int .i64 b_0.xSize), (.int .i64 b_0.xEvery), (.int .i64 b_0.xTokens), (.int .i64 b_0.xLast)] rfl ?_); intro b1
  refine o_as st rfl rfl ?_
  refine c_nil ?_
  refine l_then ?_
  refine c_join (σ := Bool) (fun (t3 : Bool) (a : Act) (w : World) => Has 38 [(2, (.bool t3))] a ∧ Mem (fun _ => True) (feet []) w0 [] w) ?_ ?_
  · intro k4
    refine c_region ?_
    refine o_fad st rfl rfl fld25_0 rfl ?_
    refine o_ldc st (v := (.int .i64 b_0.xSize)) 0 rfl rfl rfl ty3 rfl ?_
    refine o_geq st rfl rfl rfl ?_
    refine o_mv st rfl rfl ?_
    refine st_sp (dj := 6) rfl ?_ ?_
    · refine o_fad (st_g rfl rfl) rfl rfl fld25_0 rfl ?_
      refine o_ldc (st_g rfl rfl) (v := (.int .i64 b_0.xSize)) 0 rfl rfl rfl ty3 rfl ?_
      refine o_leq (st_g rfl rfl) rfl rfl rfl ?_
      refine o_pickT st rfl rfl rfl ?_
      refine o_mv st rfl rfl ?_
      refine st_sp (dj := 11) rfl ?_ ?_
      · refine o_fad (st_g rfl rfl) rfl rfl fld25_1 rfl ?_
        refine o_ldc (st_g rfl rfl) (v := (.int .i64 b_0.xEvery)) 0 rfl rfl rfl ty3 rfl ?_
        refine o_geq (st_g rfl rfl) rfl rfl rfl ?_
        refine o_pickT st rfl rfl rfl ?_
        refine o_mv st rfl rfl ?_
        refine st_sp (dj := 16) rfl ?_ ?_
        · refine o_fad (st_g rfl rfl) rfl rfl fld25_1 rfl ?_
          refine o_ldc (st_g rfl rfl) (v := (.int .i64 b_0.xEvery)) 0 rfl rfl rfl ty3 rfl ?_
          refine o_leq (st_g rfl rfl) rfl rfl rfl ?_
          refine o_pickT st rfl rfl rfl ?_
          refine o_mv st rfl rfl ?_
          refine st_sp (dj := 21) rfl ?_ ?_
          · refine o_fad (st_g rfl rfl) rfl rfl fld25_2 rfl ?_
            refine o_ldc (st_g rfl rfl) (v := (.int .i64 b_0.xTokens)) 0 rfl rfl rfl ty3 rfl ?_
            refine o_geq (st_g rfl rfl) rfl rfl rfl ?_
            refine o_pickT st rfl rfl rfl ?_
            refine o_mv st rfl rfl ?_
            refine st_sp (dj := 26) rfl ?_ ?_
            · refine o_fad (st_g rfl rfl) rfl rfl fld25_2 rfl ?_
              refine o_ldc (st_g rfl rfl) (v := (.int .i64 b_0.xTokens)) 0 rfl rfl rfl ty3 rfl ?_
              refine o_fad (st_g rfl rfl) rfl rfl fld25_0 rfl ?_
              refine o_ldc (st_g rfl rfl) (v := (.int .i64 b_0.xSize)) 0 rfl rfl rfl ty3 rfl ?_
              refine o_leq (st_g rfl rfl) rfl rfl rfl ?_
              refine o_pickT st rfl rfl rfl ?_
              refine o_mv st rfl rfl ?_
              refine st_sp (dj := 33) rfl ?_ ?_
              · refine o_fad (st_g rfl rfl) rfl rfl fld25_3 rfl ?_
                refine o_ldc (st_g rfl rfl) (v := (.int .i64 b_0.xLast)) 0 rfl rfl rfl ty3 rfl ?_
                refine st_gw rfl rfl (o_callP (vs := [(.int .i64 b_0.xLast)]) Try.call39 rfl rfl (by intro w m h; exact w_impl_timeValid (now_0 := b_0.xLast) h) ?_); rintro r5 _
                refine o_pickT st rfl rfl rfl ?_
                refine o_as st rfl rfl ?_
                refine c_nil ?_
                exact l_join r5 (fun a w hE hm => ⟨hE.sub ⟨rfl, trivial⟩, (hm.pick [] rfl)⟩)
              · refine st_s rfl rfl rfl rfl ?_
                refine st_s rfl rfl rfl rfl ?_
                refine st_s rfl rfl rfl rfl ?_
                refine o_pickF st rfl rfl rfl ?_
                refine o_as st rfl rfl ?_
                refine c_nil ?_
                exact l_join false (fun a w hE hm => ⟨hE.sub ⟨rfl, trivial⟩, (hm.pick [] rfl)⟩)
            · refine st_s rfl rfl rfl rfl ?_
              refine st_s rfl rfl rfl rfl ?_
              refine st_s rfl rfl rfl rfl ?_
              refine st_s rfl rfl rfl rfl ?_
              refine st_s rfl rfl rfl rfl ?_
              refine o_pickF st rfl rfl rfl ?_
              refine o_mv st rfl rfl ?_
              refine st_s rfl rfl rfl rfl ?_
              refine st_s rfl rfl rfl rfl ?_
              refine st_s rfl rfl rfl rfl ?_
              refine o_pickF st rfl rfl rfl ?_
              refine o_as st rfl rfl ?_
              refine c_nil ?_
              exact l_join false (fun a w hE hm => ⟨hE.sub ⟨rfl, trivial⟩, (hm.pick [] rfl)⟩)
          · refine st_s rfl rfl rfl rfl ?_
            refine st_s rfl rfl rfl rfl ?_
            refine st_s rfl rfl rfl rfl ?_
            refine o_pickF st rfl rfl rfl ?_
            refine o_mv st rfl rfl ?_
            refine st_s rfl rfl rfl rfl ?_
            refine st_s rfl rfl rfl rfl ?_
            refine st_s rfl rfl rfl rfl ?_
            refine st_s rfl rfl rfl rfl ?_
            refine st_s rfl rfl rfl rfl ?_
            refine o_pickF st rfl rfl rfl ?_
            refine o_mv st rfl rfl ?_
            refine st_s rfl rfl rfl rfl ?_
            refine st_s rfl rfl rfl rfl ?_
            refine st_s rfl rfl rfl rfl ?_
            refine o_pickF st rfl rfl rfl ?_
            refine o_as st rfl rfl ?_
            refine c_nil ?_
            exact l_join false (fun a w hE hm => ⟨hE.sub ⟨rfl, trivial⟩, (hm.pick [] rfl)⟩)
        · refine st_s rfl rfl rfl rfl ?_
          refine st_s rfl rfl rfl rfl ?_
          refine st_s rfl rfl rfl rfl ?_
          refine o_pickF st rfl rfl rfl ?_
          refine o_mv st rfl rfl ?_
          refine st_s rfl rfl rfl rfl ?_
          refine st_s rfl rfl rfl rfl ?_
          refine st_s rfl rfl rfl rfl ?_
          refine o_pickF st rfl rfl rfl ?_
          refine o_mv st rfl rfl ?_
          refine st_s rfl rfl rfl rfl ?_
          refine st_s rfl rfl rfl rfl ?_
          refine st_s rfl rfl rfl rfl ?_
          refine st_s rfl rfl rfl rfl ?_
          refine st_s rfl rfl rfl rfl ?_
          refine o_pickF st rfl rfl rfl ?_
          refine o_mv st rfl rfl ?_
          refine st_s rfl rfl rfl rfl ?_
          refine st_s rfl rfl rfl rfl ?_
          refine st_s rfl rfl rfl rfl ?_
          refine o_pickF st rfl rfl rfl ?_
          refine o_as st rfl rfl ?_
          refine c_nil ?_
          exact l_join false (fun a w hE hm => ⟨hE.sub ⟨rfl, trivial⟩, (hm.pick [] rfl)⟩)
      · refine st_s rfl rfl rfl rfl ?_
        refine st_s rfl rfl rfl rfl ?_
        refine st_s rfl rfl rfl rfl ?_
        refine o_pickF st rfl rfl rfl ?_
        refine o_mv st rfl rfl ?_
        refine st_s rfl rfl rfl rfl ?_
        refine st_s rfl rfl rfl rfl ?_
        refine st_s rfl rfl rfl rfl ?_
        refine o_pickF st rfl rfl rfl ?_
        refine o_mv st rfl rfl ?_
        refine st_s rfl rfl rfl rfl ?_
        refine st_s rfl rfl rfl rfl ?_
        refine st_s rfl rfl rfl rfl ?_
        refine o_pickF st rfl rfl rfl ?_
        refine o_mv st rfl rfl ?_
        refine st_s rfl rfl rfl rfl ?_
        refine st_s rfl rfl rfl rfl ?_
        refine st_s rfl rfl rfl rfl ?_
        refine st_s rfl rfl rfl rfl ?_
        refine st_s rfl rfl rfl rfl ?_
        refine o_pickF st rfl rfl rfl ?_
        refine o_mv st rfl rfl ?_
        refine st_s rfl rfl rfl rfl ?_
        refine st_s rfl rfl rfl rfl ?_
        refine st_s rfl rfl rfl rfl ?_
        refine o_pickF st rfl rfl rfl ?_
        refine o_as st rfl rfl ?_
        refine c_nil ?_
        exact l_join false (fun a w hE hm => ⟨hE.sub ⟨rfl, trivial⟩, (hm.pick [] rfl)⟩)
    · refine st_s rfl rfl rfl rfl ?_
      refine st_s rfl rfl rfl rfl ?_
      refine st_s rfl rfl rfl rfl ?_
      refine o_pickF st rfl rfl rfl ?_
      refine o_mv st rfl rfl ?_
      refine st_s rfl rfl rfl rfl ?_
      refine st_s rfl rfl rfl rfl ?_
      refine st_s rfl rfl rfl rfl ?_
      refine o_pickF st rfl rfl rfl ?_
      refine o_mv st rfl rfl ?_
      refine st_s rfl rfl rfl rfl ?_
      refine st_s rfl rfl rfl rfl ?_
      refine st_s rfl rfl rfl rfl ?_
      refine o_pickF st rfl rfl rfl ?_
      refine o_mv st rfl rfl ?_
      refine st_s rfl rfl rfl rfl ?_
      refine st_s rfl rfl rfl rfl ?_
      refine st_s rfl rfl rfl rfl ?_
      refine o_pickF st rfl rfl rfl ?_
      refine o_mv st rfl rfl ?_
      refine st_s rfl rfl rfl rfl ?_
      refine st_s rfl rfl rfl rfl ?_
      refine st_s rfl rfl rfl rfl ?_
      refine st_s rfl rfl rfl rfl ?_
      refine st_s rfl rfl rfl rfl ?_
      refine o_pickF st rfl rfl rfl ?_
      refine o_mv st rfl rfl ?_
      refine st_s rfl rfl rfl rfl ?_
      refine st_s rfl rfl rfl rfl ?_
      refine st_s rfl rfl rfl rfl ?_
      refine o_pickF st rfl rfl rfl ?_
      refine o_as st rfl rfl ?_
      refine c_nil ?_
      exact l_join false (fun a w hE hm => ⟨hE.sub ⟨rfl, trivial⟩, (hm.pick [] rfl)⟩)
  · rintro t3 a w ⟨hE, hm⟩ h
    refine nx_of hE hm h ?_
    clear hE hm h
    refine c_ret ?_
    exact l_end1 Try.results16 t3 () (rv_t rfl) (fun _ _ => NewCh.nil _ _ _ _)

set_option maxRecDepth 100000 in
theorem w_impl_Bucket_fullAt {w0 : World} {F : Nat → Prop} {b_0 : GBucket} {κ : Int → Prop} (h : L_impl_Bucket_fullAt b_0 κ) :
    Calls Try.prog 49 #[(.agg #[(.int .i64 b_0.xSize), (.int .i64 b_0.xEvery), (.int .i64 b_0.xTokens), (.int .i64 b_0.xLast)])] w0 (Ret [] F w0 κ (fun (r : Int) (u : Unit) => (.int .i64 r)) (fun (r : Int) (u : Unit) => [])) := by
  refine enter (args := [(.agg #[(.int .i64 b_0.xSize), (.int .i64 b_0.xEvery), (.int .i64 b_0.xTokens), (.int .i64 b_0.xLast)])]) [] Try.func49 rfl Try.ntmps49 rfl [] hf_nil hh_nil (Given.nil w0).lt (Given.nil w0).disj (Given.nil w0).hold h ?_
  clear h
  refine c_seq ?_
  refine c_region ?_
  refine stw (o_box rfl rfl [(.int .i64 b_0.xSize), (.int .i64 b_0.xEvery), (.int .i64 b_0.xTokens), (.int .i64 b_0.xLast)] rfl ?_); intro b1
  refine o_as st rfl rfl ?_
  refine c_nil ?_
  refine l_then ?_
  refine c_seq ?_
  refine c_region ?_
  refine o_fad st rfl rfl fld25_3 rfl ?_
  refine o_ldc st (v := (.int .i64 b_0.xLast)) 0 rfl rfl rfl ty3 rfl ?_
  refine o_fad st rfl rfl fld25_0 rfl ?_
  refine o_ldc st (v := (.int .i64 b_0.xSize)) 0 rfl rfl rfl ty3 rfl ?_
  refine o_fad st rfl rfl fld25_2 rfl ?_
  refine o_ldc st (v := (.int .i64 b_0.xTokens)) 0 rfl rfl rfl ty3 rfl ?_
  refine o_sub st rfl rfl rfl ?_; intro t3
  refine o_fad st rfl rfl fld25_1 rfl ?_
  refine o_ldc st (v := (.int .i64 b_0.xEvery)) 0 rfl rfl rfl ty3 rfl ?_
  refine o_mul st rfl rfl rfl ?_; intro t4
  refine o_add st rfl rfl rfl ?_; intro t5
  refine o_as st rfl rfl ?_
  refine c_nil ?_
  refine l_then ?_
  refine c_ret ?_
  exact l_end1 Try.results49 t5 () (rv_t rfl) (fun _ _ => NewCh.nil _ _ _ _)

set_option maxRecDepth 100000 in
theorem w_impl_Bucket_at {w0 : World} {F : Nat → Prop} {b_0 : GBucket} {now_1 : Int} {κ : GBucket → Prop} (h : L_impl_Bucket_at b_0 now_1 κ) :
    Calls Try.prog 44 #[(.agg #[(.int .i64 b_0.xSize), (.int .i64 b_0.xEvery), (.int .i64 b_0.xTokens), (.int .i64 b_0.xLast)]), (.int .i64 now_1)] w0 (Ret [] F w0 κ (fun (r : GBucket) (u : Unit) => (.agg #[(.int .i64 r.xSize), (.int .i64 r.xEvery), (.int .i64 r.xTokens), (.int .i64 r.xLast)])) (fun (r : GBucket) (u : Unit) => [])) := by
  refine enter (args := [(.agg #[(.int .i64 b_0.xSize), (.int .i64 b_0.xEvery), (.int .i64 b_0.xTokens), (.int .i64 b_0.xLast)]), (.int .i64 now_1)]) [] Try.func44 rfl Try.ntmps44 rfl [] hf_nil hh_nil (Given.nil w0).lt (Given.nil w0).disj (Given.nil w0).hold h ?_
  clear h
  refine c_seq ?_
  refine c_region ?_
  refine stw (o_box rfl rfl [(.int .i64 b_0.xSize), (.int .i64 b_0.xEvery), (.int .i64 b_0.xTokens), (.int .i64 b_0.xLast)] rfl ?_); intro b1
  refine stw (o_alloc rfl [(.int .i64 0), (.int .i64 0), (.int .i64 0), (.int .i64 0)] zero25 ?_); intro b3
  refine c_nil ?_
  refine l_then ?_
  refine c_seq ?_
  refine c_seq ?_
  refine c_region ?_
  refine o_mv st rfl rfl ?_
  refine o_ldc st (v := (.agg #[(.int .i64 b_0.xSize), (.int .i64 b_0.xEvery), (.int .i64 b_0.xTokens), (.int .i64 b_0.xLast)])) 1 rfl rfl rfl ty25 rfl ?_
  refine stw (o_callP (vs := [(.agg #[(.int .i64 b_0.xSize), (.int .i64 b_0.xEvery), (.int .i64 b_0.xTokens), (.int .i64 b_0.xLast)])]) Try.call49 rfl rfl (by intro w m h; exact w_impl_Bucket_fullAt (b_0 := b_0) h) ?_); rintro r5 _
  refine o_geq st rfl rfl rfl ?_
  refine c_nil ?_
  refine l_then ?_
  refine c_cond rfl ?_ ?_
  · refine c_seq ?_
    refine c_region ?_
    refine o_fad st rfl rfl fld25_0 rfl ?_
    refine o_ldc st (v := (.int .i64 b_0.xSize)) 1 rfl rfl rfl ty3 rfl ?_
    refine o_fad st rfl rfl fld25_2 rfl ?_
    refine stw (o_stc (cs' := [(.int .i64 b_0.xSize), (.int .i64 b_0.xEvery), (.int .i64 b_0.xSize), (.int .i64 b_0.xLast)]) 1 rfl rfl rfl ty3 rfl rfl rfl rfl ?_)
    refine c_nil ?_
    refine l_then ?_
    refine c_seq ?_
    refine c_region ?_
    refine o_mv st rfl rfl ?_
    refine o_fad st rfl rfl fld25_3 rfl ?_
    refine stw (o_stc (cs' := [(.int .i64 b_0.xSize), (.int .i64 b_0.xEvery), (.int .i64 b_0.xSize), (.int .i64 now_1)]) 1 rfl rfl rfl ty3 rfl rfl rfl rfl ?_)
    refine c_nil ?_
    refine l_then ?_
    refine c_seq ?_
    refine c_region ?_
    refine o_ldc st (v := (.agg #[(.int .i64 b_0.xSize), (.int .i64 b_0.xEvery), (.int .i64 b_0.xSize), (.int .i64 now_1)])) 1 rfl rfl rfl ty25 rfl ?_
    refine stw (o_stc (cs' := [(.int .i64 b_0.xSize), (.int .i64 b_0.xEvery), (.int .i64 b_0.xSize), (.int .i64 now_1)]) 0 rfl rfl rfl ty25 rfl rfl rfl rfl ?_)
    refine c_nil ?_
    refine l_then ?_
    refine c_ret ?_
    refine l_ret ?_
    exact l_end1 Try.results44 (GBucket.mk b_0.xSize b_0.xEvery b_0.xSize now_1) () (rv_c 0 rfl rfl ty25 rfl) (fun _ _ => NewCh.nil _ _ _ _)
  · refine c_skip ?_
    refine l_then ?_
    refine c_seq ?_
    refine c_region ?_
    refine o_mv st rfl rfl ?_
    refine o_fad st rfl rfl fld25_3 rfl ?_
    refine o_ldc st (v := (.int .i64 b_0.xLast)) 1 rfl rfl rfl ty3 rfl ?_
    refine o_sub st rfl rfl rfl ?_; intro t6
    refine o_fad st rfl rfl fld25_1 rfl ?_
    refine o_ldc st (v := (.int .i64 b_0.xEvery)) 1 rfl rfl rfl ty3 rfl ?_
    refine o_quo st rfl rfl rfl ?_; intro t7
    refine o_as st rfl rfl ?_
    refine c_nil ?_
    refine l_then ?_
    refine c_seq ?_
    refine c_region ?_
    refine o_fad st rfl rfl fld25_2 rfl ?_
    refine o_ldc st (v := (.int .i64 b_0.xTokens)) 1 rfl rfl rfl ty3 rfl ?_
    refine o_mv st rfl rfl ?_
    refine o_add st rfl rfl rfl ?_; intro t8
    refine o_fad st rfl rfl fld25_2 rfl ?_
    refine stw (o_stc (cs' := [(.int .i64 b_0.xSize), (.int .i64 b_0.xEvery), (.int .i64 t8), (.int .i64 b_0.xLast)]) 1 rfl rfl rfl ty3 rfl rfl rfl rfl ?_)
    refine c_nil ?_
    refine l_then ?_
    refine c_seq ?_
    refine c_region ?_
    refine o_fad st rfl rfl fld25_3 rfl ?_
    refine o_ldc st (v := (.int .i64 b_0.xLast)) 1 rfl rfl rfl ty3 rfl ?_
    refine o_mv st rfl rfl ?_
    refine o_fad st rfl rfl fld25_1 rfl ?_
    refine o_ldc st (v := (.int .i64 b_0.xEvery)) 1 rfl rfl rfl ty3 rfl ?_
    refine o_mul st rfl rfl rfl ?_; intro t9
    refine o_add st rfl rfl rfl ?_; intro t10
    refine o_fad st rfl rfl fld25_3 rfl ?_
    refine stw (o_stc (cs' := [(.int .i64 b_0.xSize), (.int .i64 b_0.xEvery), (.int .i64 t8), (.int .i64 t10)]) 1 rfl rfl rfl ty3 rfl rfl rfl rfl ?_)
    refine c_nil ?_
    refine l_then ?_
    refine c_seq ?_
    refine c_region ?_
    refine o_ldc st (v := (.agg #[(.int .i64 b_0.xSize), (.int .i64 b_0.xEvery), (.int .i64 t8), (.int .i64 t10)])) 1 rfl rfl rfl ty25 rfl ?_
    refine stw (o_stc (cs' := [(.int .i64 b_0.xSize), (.int .i64 b_0.xEvery), (.int .i64 t8), (.int .i64 t10)]) 0 rfl rfl rfl ty25 rfl rfl rfl rfl ?_)
    refine c_nil ?_
    refine l_then ?_
    refine c_ret ?_
    exact l_end1 Try.results44 (GBucket.mk b_0.xSize b_0.xEvery t8 t10) () (rv_c 0 rfl rfl ty25 rfl) (fun _ _ => NewCh.nil _ _ _ _)

set_option maxRecDepth 100000 in
theorem w_impl_Bucket_take {w0 : World} {F : Nat → Prop} {b_0 : GBucket} {now_1 : Int} {κ : (GBucket × Bool) → Prop} (h : L_impl_Bucket_take b_0 now_1 κ) :
    Calls Try.prog 45 #[(.agg #[(.int .i64 b_0.xSize), (.int .i64 b_0.xEvery), (.int .i64 b_0.xTokens), (.int .i64 b_0.xLast)]), (.int .i64 now_1)] w0 (Ret [] F w0 κ (fun (r : (GBucket × Bool)) (u : Unit) => .tuple #[(.agg #[(.int .i64 r.1.xSize), (.int .i64 r.1.xEvery), (.int .i64 r.1.xTokens), (.int .i64 r.1.xLast)]), (.bool r.2)]) (fun (r : (GBucket × Bool)) (u : Unit) => [])) := by
  refine enter (args := [(.agg #[(.int .i64 b_0.xSize), (.int .i64 b_0.xEvery), (.int .i64 b_0.xTokens), (.int .i64 b_0.xLast)]), (.int .i64 now_1)]) [] Try.func45 rfl Try.ntmps45 rfl [] hf_nil hh_nil (Given.nil w0).lt (Given.nil w0).disj (Given.nil w0).hold h ?_
  clear h
  refine c_seq ?_
  refine c_region ?_
  refine stw (o_box rfl rfl [(.int .i64 b_0.xSize), (.int .i64 b_0.xEvery), (.int .i64 b_0.xTokens), (.int .i64 b_0.xLast)] rfl ?_); intro b1
  refine stw (o_alloc rfl [(.int .i64 0), (.int .i64 0), (.int .i64 0), (.int .i64 0)] zero25 ?_); intro b3
  refine o_as st rfl rfl ?_
  refine c_nil ?_
  refine l_then ?_
  refine c_seq ?_
  refine c_region ?_
  refine o_ldc st (v := (.agg #[(.int .i64 b_0.xSize), (.int .i64 b_0.xEvery), (.int .i64 b_0.xTokens), (.int .i64 b_0.xLast)])) 1 rfl rfl rfl ty25 rfl ?_
  refine o_mv st rfl rfl ?_
  refine stw (o_callP (vs := [(.agg #[(.int .i64 b_0.xSize), (.int .i64 b_0.xEvery), (.int .i64 b_0.xTokens), (.int .i64 b_0.xLast)]), (.int .i64 now_1)]) Try.call44 rfl rfl (by intro w m h; exact w_impl_Bucket_at (b_0 := b_0) (now_1 := now_1) h) ?_); rintro r5 _
  refine stw (o_stc (cs' := [(.int .i64 r5.xSize), (.int .i64 r5.xEvery), (.int .i64 r5.xTokens), (.int .i64 r5.xLast)]) 1 rfl rfl rfl ty25 rfl rfl rfl rfl ?_)
  refine c_nil ?_
  refine l_then ?_
  refine c_seq ?_
  refine c_seq ?_
  refine c_region ?_
  refine o_fad st rfl rfl fld25_2 rfl ?_
  refine o_ldc st (v := (.int .i64 r5.xTokens)) 1 rfl rfl rfl ty3 rfl ?_
  refine o_eql st und3 rfl rfl rfl ?_
  refine c_nil ?_
  refine l_then ?_
  refine c_cond rfl ?_ ?_
  · refine c_seq ?_
    refine c_region ?_
    refine o_ldc st (v := (.agg #[(.int .i64 r5.xSize), (.int .i64 r5.xEvery), (.int .i64 r5.xTokens), (.int .i64 r5.xLast)])) 1 rfl rfl rfl ty25 rfl ?_
    refine stw (o_stc (cs' := [(.int .i64 r5.xSize), (.int .i64 r5.xEvery), (.int .i64 r5.xTokens), (.int .i64 r5.xLast)]) 0 rfl rfl rfl ty25 rfl rfl rfl rfl ?_)
    refine o_as st rfl rfl ?_
    refine c_nil ?_
    refine l_then ?_
    refine c_ret ?_
    refine l_ret ?_
    exact l_end2 Try.results45 (r5, false) () (rv_c 0 rfl rfl ty25 rfl) (rv_t rfl) rfl (fun _ _ => NewCh.nil _ _ _ _)
  · refine c_skip ?_
    refine l_then ?_
    refine c_seq ?_
    refine c_region ?_
    refine o_fad st rfl rfl fld25_2 rfl ?_
    refine o_ldc st (v := (.int .i64 r5.xTokens)) 1 rfl rfl rfl ty3 rfl ?_
    refine o_sub st rfl rfl rfl ?_; intro t6
    refine o_fad st rfl rfl fld25_2 rfl ?_
    refine stw (o_stc (cs' := [(.int .i64 r5.xSize), (.int .i64 r5.xEvery), (.int .i64 t6), (.int .i64 r5.xLast)]) 1 rfl rfl rfl ty3 rfl rfl rfl rfl ?_)
    refine c_nil ?_
    refine l_then ?_
    refine c_seq ?_
    refine c_region ?_
    refine o_ldc st (v := (.agg #[(.int .i64 r5.xSize), (.int .i64 r5.xEvery), (.int .i64 t6), (.int .i64 r5.xLast)])) 1 rfl rfl rfl ty25 rfl ?_
    refine stw (o_stc (cs' := [(.int .i64 r5.xSize), (.int .i64 r5.xEvery), (.int .i64 t6), (.int .i64 r5.xLast)]) 0 rfl rfl rfl ty25 rfl rfl rfl rfl ?_)
    refine o_as st rfl rfl ?_
    refine c_nil ?_
    refine l_then ?_
    refine c_ret ?_
    exact l_end2 Try.results45 ((GBucket.mk r5.xSize r5.xEvery t6 r5.xLast), true) () (rv_c 0 rfl rfl ty25 rfl) (rv_t rfl) rfl (fun _ _ => NewCh.nil _ _ _ _)

set_option maxRecDepth 100000 in
theorem w_impl_TakeMany {w0 : World} {F : Nat → Prop} {v1 : Value} {b_0 : GBucket} {times_1 : (List Int)} {κ : (List Bool) → Prop} (hv1 : Sl elInt (fun b => b < w0.heap.size ∧ ¬ feet [] b) w0 v1 times_1) (h : L_impl_TakeMany b_0 times_1 κ) :
    Calls Try.prog 28 #[(.agg #[(.int .i64 b_0.xSize), (.int .i64 b_0.xEvery), (.int .i64 b_0.xTokens), (.int .i64 b_0.xLast)]), v1] w0 (Ret [] F w0 κ (fun (r : (List Bool)) (u : Value) => u) (fun (r : (List Bool)) (u : Value) => [ownCh elBool 4 u (r)])) := by
  refine enter (args := [(.agg #[(.int .i64 b_0.xSize), (.int .i64 b_0.xEvery), (.int .i64 b_0.xTokens), (.int .i64 b_0.xLast)]), v1]) [] Try.func28 rfl Try.ntmps28 rfl [roCh elInt v1 times_1] (hf_cons hf_nil) (hh_cons hv1 hh_nil) (Given.nil w0).lt (Given.nil w0).disj (Given.nil w0).hold h ?_
  clear h hv1
  refine c_seq ?_
  refine c_region ?_
  refine stw (o_box rfl rfl [(.int .i64 b_0.xSize), (.int .i64 b_0.xEvery), (.int .i64 b_0.xTokens), (.int .i64 b_0.xLast)] rfl ?_); intro b3
  refine stw (o_asn elBool 4 rfl rfl ?_)
  refine c_nil ?_
  refine l_then ?_
  refine c_seq ?_
  refine c_join (σ := Bool) (fun (t6 : Bool) (a : Act) (w : World) => Has 57 [(1, v1), (2, (.pointer (some ⟨b3, 0, none⟩))), (18, (.bool t6))] a ∧ Mem (fun _ => True) (feet []) w0 [cellCh b3 [(.int .i64 b_0.xSize), (.int .i64 b_0.xEvery), (.int .i64 b_0.xTokens), (.int .i64 b_0.xLast)] 25, roCh elInt v1 times_1] w) ?_ ?_
  · intro k7
    refine c_region ?_
    refine o_ldc st (v := (.agg #[(.int .i64 b_0.xSize), (.int .i64 b_0.xEvery), (.int .i64 b_0.xTokens), (.int .i64 b_0.xLast)])) 1 rfl rfl rfl ty25 rfl ?_
    refine stw (o_callP (vs := [(.agg #[(.int .i64 b_0.xSize), (.int .i64 b_0.xEvery), (.int .i64 b_0.xTokens), (.int .i64 b_0.xLast)])]) Try.call16 rfl rfl (by intro w m h; exact w_impl_BucketValid (b_0 := b_0) h) ?_); rintro r8 _
    refine o_not st rfl rfl ?_
    refine o_mv st rfl rfl ?_
    refine st_sp (dj := 14) rfl ?_ ?_
    · refine st_s rfl rfl rfl rfl ?_
      refine st_s rfl rfl rfl rfl ?_
      refine st_s rfl rfl rfl rfl ?_
      refine o_pickT st rfl rfl rfl ?_
      refine c_nil ?_
      exact l_join true (fun a w hE hm => ⟨hE.sub ⟨rfl, rfl, rfl, trivial⟩, (hm.pick [1, 2] rfl)⟩)
    · refine o_mv (st_g rfl rfl) rfl rfl ?_
      refine o_len (st_g rfl rfl) el41 2 rfl reads_ro rfl rfl ?_
      refine o_gtr (st_g rfl rfl) rfl rfl rfl ?_
      refine o_pickF st rfl rfl rfl ?_
      refine c_nil ?_
      exact l_join (decide (50 < (times_1.length : Int))) (fun a w hE hm => ⟨hE.sub ⟨rfl, rfl, rfl, trivial⟩, (hm.pick [1, 2] rfl)⟩)
  · rintro t6 a w ⟨hE, hm⟩ h
    refine nx_of hE hm h ?_
    clear hE hm h
    refine c_cond rfl ?_ ?_
    · refine c_seq ?_
      refine c_region ?_
      refine stw (o_asn elBool 4 rfl rfl ?_)
      refine c_nil ?_
      refine l_then ?_
      refine c_ret ?_
      refine l_ret ?_
      exact l_end1 Try.results28 ([]) (.slice none 0 0) (rv_t rfl) (fun w m => NewCh.of m [0] rfl (fr_cons (free_own flelBool) fr_nil))
    · refine c_skip ?_
      refine l_then ?_
      refine c_seq ?_
      refine c_region ?_
      refine o_fad st rfl rfl fld25_3 rfl ?_
      refine o_ldc st (v := (.int .i64 b_0.xLast)) 0 rfl rfl rfl ty3 rfl ?_
      refine o_as st rfl rfl ?_
      refine c_nil ?_
      refine l_then ?_
      refine c_seq ?_
      refine c_seq ?_
      refine c_region ?_
      refine o_mv st rfl rfl ?_
      refine o_len st el41 1 rfl reads_ro rfl rfl ?_
      refine o_mv st rfl rfl ?_
      refine c_nil ?_
      refine l_then ?_
      refine c_block ?_
      refine c_loop (σ := (Int × Int)) (fun ((t10, t11) : (Int × Int)) (a : Act) (w : World) => Has 57 [(1, v1), (2, (.pointer (some ⟨b3, 0, none⟩))), (5, (.int .i64 t10)), (21, v1), (22, (.int .i64 (times_1.length : Int))), (23, (.int .i64 t11))] a ∧ Mem (fun _ => True) (feet []) w0 [cellCh b3 [(.int .i64 b_0.xSize), (.int .i64 b_0.xEvery), (.int .i64 b_0.xTokens), (.int .i64 b_0.xLast)] 25, roCh elInt v1 times_1] w) (fun a w hE hm => ⟨hE.sub ⟨rfl, rfl, rfl, rfl, rfl, rfl, trivial⟩, (hm.pick [0, 1] rfl)⟩) ?_
      rintro nx12 ⟨t10, t11⟩ a w ⟨hE, hm⟩ h
      refine nx_of hE hm h ?_
      clear hE hm h
      refine c_seq ?_
      refine c_region ?_
      refine o_lss st rfl rfl rfl ?_
      refine c_nil ?_
      refine l_then ?_
      refine c_seq ?_
      refine c_cond rfl ?_ ?_
      · refine c_skip ?_
        refine l_then ?_
        refine c_seq ?_
        refine c_block ?_
        refine c_seq ?_
        refine c_region ?_
        refine o_idx st 1 rfl reads_ro rfl rfl rfl el41 ?_; intro e13 h14
        refine o_lds st (enc := encInt) (u := (.int .i64 e13)) 1 rfl reads_ro flelInt rfl h14 rfl rfl ty3 rfl ?_
        refine o_as st rfl rfl ?_
        refine c_nil ?_
        refine l_then ?_
        refine c_seq ?_
        refine c_join (σ := Bool) (fun (t15 : Bool) (a : Act) (w : World) => Has 57 [(1, v1), (2, (.pointer (some ⟨b3, 0, none⟩))), (21, v1), (22, (.int .i64 (times_1.length : Int))), (23, (.int .i64 t11)), (7, (.int .i64 e13)), (33, (.bool t15))] a ∧ Mem (fun _ => True) (feet []) w0 [cellCh b3 [(.int .i64 b_0.xSize), (.int .i64 b_0.xEvery), (.int .i64 b_0.xTokens), (.int .i64 b_0.xLast)] 25, roCh elInt v1 times_1] w) ?_ ?_
        · intro k16
          refine c_region ?_
          refine o_mv st rfl rfl ?_
          refine o_mv st rfl rfl ?_
          refine o_lss st rfl rfl rfl ?_
          refine o_mv st rfl rfl ?_
          refine st_sp (dj := 30) rfl ?_ ?_
          · refine st_s rfl rfl rfl rfl ?_
            refine st_s rfl rfl rfl rfl ?_
            refine o_pickT st rfl rfl rfl ?_
            refine c_nil ?_
            exact l_join true (fun a w hE hm => ⟨hE.sub ⟨rfl, rfl, rfl, rfl, rfl, rfl, rfl, trivial⟩, (hm.pick [0, 1] rfl)⟩)
          · refine o_mv (st_g rfl rfl) rfl rfl ?_
            refine o_gtr (st_g rfl rfl) rfl rfl rfl ?_
            refine o_pickF st rfl rfl rfl ?_
            refine c_nil ?_
            exact l_join (decide (1000000 < e13)) (fun a w hE hm => ⟨hE.sub ⟨rfl, rfl, rfl, rfl, rfl, rfl, rfl, trivial⟩, (hm.pick [0, 1] rfl)⟩)
        · rintro t15 a w ⟨hE, hm⟩ h
          refine nx_of hE hm h ?_
          clear hE hm h
          refine c_cond rfl ?_ ?_
          · refine c_seq ?_
            refine c_region ?_
            refine stw (o_asn elBool 4 rfl rfl ?_)
            refine c_nil ?_
            refine l_then ?_
            refine c_ret ?_
            refine l_ret ?_
            refine b_ret ?_
            refine l_ret ?_
            refine l_ret ?_
            refine b_ret ?_
            refine l_ret ?_
            exact l_end1 Try.results28 ([]) (.slice none 0 0) (rv_t rfl) (fun w m => NewCh.of m [0] rfl (fr_cons (free_own flelBool) fr_nil))
          · refine c_skip ?_
            refine l_then ?_
            refine c_region ?_
            refine o_mv st rfl rfl ?_
            refine o_as st rfl rfl ?_
            refine c_nil ?_
            refine b_norm ?_
            refine l_then ?_
            refine c_region ?_
            refine o_add st rfl rfl rfl ?_; intro t18
            refine o_mv st rfl rfl ?_
            refine c_nil ?_
            exact l_join (e13, t18) (fun a w hE hm => ⟨hE.sub ⟨rfl, rfl, rfl, rfl, rfl, rfl, trivial⟩, (hm.pick [0, 1] rfl)⟩)
      · refine c_exit ?_
        refine l_exit ?_
        refine l_exit ?_
        refine b_exit ?_
        refine l_then ?_
        refine c_seq ?_
        refine c_region ?_
        refine o_mv st rfl rfl ?_
        refine o_len st el41 1 rfl reads_ro rfl rfl ?_
        refine stw (o_make (z := false) flelBool rfl rfl rfl el44 rfl zero4 rfl rfl ?_); intro v19 xs20
        refine o_as st rfl rfl ?_
        refine c_nil ?_
        refine l_then ?_
        refine c_seq ?_
        refine c_seq ?_
        refine c_region ?_
        refine o_mv st rfl rfl ?_
        refine o_len st el41 2 rfl reads_ro rfl rfl ?_
        refine o_mv st rfl rfl ?_
        refine c_nil ?_
        refine l_then ?_
        refine c_block ?_
        refine c_loop (σ := ((List Bool) × Int × Int × Int × Int × Int)) (fun ((xs22, t24, t25, t26, t27, t28) : ((List Bool) × Int × Int × Int × Int × Int)) (a : Act) (w : World) => Has 57 [(2, (.pointer (some ⟨b3, 0, none⟩))), (8, v19), (39, v1), (40, (.int .i64 (times_1.length : Int))), (41, (.int .i64 t28))] a ∧ Mem (fun _ => True) (feet []) w0 [ownCh elBool 4 v19 xs22, cellCh b3 [(.int .i64 t24), (.int .i64 t25), (.int .i64 t26), (.int .i64 t27)] 25, roCh elInt v1 times_1] w) (fun a w hE hm => ⟨hE.sub ⟨rfl, rfl, rfl, rfl, rfl, trivial⟩, (hm.pick [0, 1, 2] rfl)⟩) ?_
        rintro nx29 ⟨xs22, t24, t25, t26, t27, t28⟩ a w ⟨hE, hm⟩ h
        refine nx_of hE hm h ?_
        clear hE hm h
        refine c_seq ?_
        refine c_region ?_
        refine o_lss st rfl rfl rfl ?_
        refine c_nil ?_
        refine l_then ?_
        refine c_seq ?_
        refine c_cond rfl ?_ ?_
        · refine c_skip ?_
          refine l_then ?_
          refine c_seq ?_
          refine c_block ?_
          refine c_seq ?_
          refine c_region ?_
          refine o_mv st rfl rfl ?_
          refine o_idx st 2 rfl reads_ro rfl rfl rfl el41 ?_; intro e30 h31
          refine o_lds st (enc := encInt) (u := (.int .i64 e30)) 2 rfl reads_ro flelInt rfl h31 rfl rfl ty3 rfl ?_
          refine o_as st rfl rfl ?_
          refine o_as st rfl rfl ?_
          refine c_nil ?_
          refine l_then ?_
          refine c_region ?_
          refine o_mv st rfl rfl ?_
          refine o_mv st rfl rfl ?_
          refine o_ldc st (v := (.agg #[(.int .i64 t24), (.int .i64 t25), (.int .i64 t26), (.int .i64 t27)])) 1 rfl rfl rfl ty25 rfl ?_
          refine o_mv st rfl rfl ?_
          refine stw (o_callP (vs := [(.agg #[(.int .i64 t24), (.int .i64 t25), (.int .i64 t26), (.int .i64 t27)]), (.int .i64 e30)]) Try.call45 rfl rfl (by intro w m h; exact w_impl_Bucket_take (b_0 := (GBucket.mk t24 t25 t26 t27)) (now_1 := e30) h) ?_); rintro ⟨r32, r33⟩ _
          refine o_mv st rfl rfl ?_
          refine o_ext st (vs := [(.agg #[(.int .i64 r32.xSize), (.int .i64 r32.xEvery), (.int .i64 r32.xTokens), (.int .i64 r32.xLast)]), (.bool r33)]) rfl rfl rfl ?_
          refine o_ext st (vs := [(.agg #[(.int .i64 r32.xSize), (.int .i64 r32.xEvery), (.int .i64 r32.xTokens), (.int .i64 r32.xLast)]), (.bool r33)]) rfl rfl rfl ?_
          refine stw (o_stc (cs' := [(.int .i64 r32.xSize), (.int .i64 r32.xEvery), (.int .i64 r32.xTokens), (.int .i64 r32.xLast)]) 1 rfl rfl rfl ty25 rfl rfl rfl rfl ?_)
          refine o_idx st 0 rfl reads_own rfl rfl rfl el44 ?_; intro e34 h35
          refine stw (o_sts (enc := encBool) (y' := r33) 0 rfl flelBool rfl h35 ty4 rfl rfl rfl rfl rfl rfl ?_)
          refine c_nil ?_
          refine b_norm ?_
          refine l_then ?_
          refine c_region ?_
          refine o_add st rfl rfl rfl ?_; intro t37
          refine o_mv st rfl rfl ?_
          refine c_nil ?_
          exact l_join ((xs22.set t28.toNat r33), r32.xSize, r32.xEvery, r32.xTokens, r32.xLast, t37) (fun a w hE hm => ⟨hE.sub ⟨rfl, rfl, rfl, rfl, rfl, trivial⟩, (hm.pick [0, 1, 2] rfl)⟩)
        · refine c_exit ?_
          refine l_exit ?_
          refine l_exit ?_
          refine b_exit ?_
          refine l_then ?_
          refine c_seq ?_
          refine c_region ?_
          refine o_mv st rfl rfl ?_
          refine o_as st rfl rfl ?_
          refine c_nil ?_
          refine l_then ?_
          refine c_ret ?_
          exact l_end1 Try.results28 xs22 v19 (rv_t rfl) (fun w m => NewCh.of m [0] rfl (fr_cons (free_own flelBool) fr_nil))

set_option maxRecDepth 100000 in
theorem w_spec_l1In {w0 : World} {F : Nat → Prop} {n_0 : Int} {lo_1 : Int} {hi_2 : Int} {κ : Bool → Prop} (h : L_spec_l1In n_0 lo_1 hi_2 κ) :
    Calls Try.prog 38 #[(.int .i64 n_0), (.int .i64 lo_1), (.int .i64 hi_2)] w0 (Ret [] F w0 κ (fun (r : Bool) (u : Unit) => (.bool r)) (fun (r : Bool) (u : Unit) => [])) := by
  refine enter (args := [(.int .i64 n_0), (.int .i64 lo_1), (.int .i64 hi_2)]) [] Try.func38 rfl Try.ntmps38 rfl [] hf_nil hh_nil (Given.nil w0).lt (Given.nil w0).disj (Given.nil w0).hold h ?_
  clear h
  refine c_seq ?_
  refine c_region ?_
  refine o_as st rfl rfl ?_
  refine c_nil ?_
  refine l_then ?_
  refine c_join (σ := Bool) (fun (t1 : Bool) (a : Act) (w : World) => Has 15 [(6, (.bool t1))] a ∧ Mem (fun _ => True) (feet []) w0 [] w) ?_ ?_
  · intro k2
    refine c_region ?_
    refine o_mv st rfl rfl ?_
    refine o_mv st rfl rfl ?_
    refine o_geq st rfl rfl rfl ?_
    refine o_mv st rfl rfl ?_
    refine st_sp (dj := 10) rfl ?_ ?_
    · refine o_mv (st_g rfl rfl) rfl rfl ?_
      refine o_mv (st_g rfl rfl) rfl rfl ?_
      refine o_leq (st_g rfl rfl) rfl rfl rfl ?_
      refine o_pickT st rfl rfl rfl ?_
      refine o_as st rfl rfl ?_
      refine c_nil ?_
      exact l_join (decide (n_0 ≤ hi_2)) (fun a w hE hm => ⟨hE.sub ⟨rfl, trivial⟩, (hm.pick [] rfl)⟩)
    · refine st_s rfl rfl rfl rfl ?_
      refine st_s rfl rfl rfl rfl ?_
      refine st_s rfl rfl rfl rfl ?_
      refine o_pickF st rfl rfl rfl ?_
      refine o_as st rfl rfl ?_
      refine c_nil ?_
      exact l_join false (fun a w hE hm => ⟨hE.sub ⟨rfl, trivial⟩, (hm.pick [] rfl)⟩)
  · rintro t1 a w ⟨hE, hm⟩ h
    refine nx_of hE hm h ?_
    clear hE hm h
    refine c_ret ?_
    exact l_end1 Try.results38 t1 () (rv_t rfl) (fun _ _ => NewCh.nil _ _ _ _)

set_option maxRecDepth 100000 in
theorem w_spec_BucketValid {w0 : World} {F : Nat → Prop} {b_0 : GBucket} {κ : Bool → Prop} (h : L_spec_BucketValid b_0 κ) :
    Calls Try.prog 14 #[(.agg #[(.int .i64 b_0.xSize), (.int .i64 b_0.xEvery), (.int .i64 b_0.xTokens), (.int .i64 b_0.xLast)])] w0 (Ret [] F w0 κ (fun (r : Bool) (u : Unit) => (.bool r)) (fun (r : Bool) (u : Unit) => [])) := by
  refine enter (args := [(.agg #[(.int .i64 b_0.xSize), (.int .i64 b_0.xEvery), (.int .i64 b_0.xTokens), (.int .i64 b_0.xLast)])]) [] Try.func14 rfl Try.ntmps14 rfl [] hf_nil hh_nil (Given.nil w0).lt (Given.nil w0).disj (Given.nil w0).hold h ?_
  clear h
  refine c_seq ?_
  refine c_region ?_
  refine stw (o_box rfl rfl [(.int .i64 b_0.xSize), (.int .i64 b_0.xEvery), (.int .i64 b_0.xTokens), (.int .i64 b_0.xLast)] rfl ?_); intro b1
  refine o_as st rfl rfl ?_
  refine c_nil ?_
  refine l_then ?_
  refine c_join (σ := Bool) (fun (t3 : Bool) (a : Act) (w : World) => Has 23 [(2, (.bool t3))] a ∧ Mem (fun _ => True) (feet []) w0 [] w) ?_ ?_
  · intro k4
    refine c_region ?_
    refine o_fad st rfl rfl fld25_0 rfl ?_
    refine o_ldc st (v := (.int .i64 b_0.xSize)) 0 rfl rfl rfl ty3 rfl ?_
    refine stw (o_callP (vs := [(.int .i64 b_0.xSize), (.int .i64 1), (.int .i64 100)]) Try.call38 rfl rfl (by intro w m h; exact w_spec_l1In (n_0 := b_0.xSize) (lo_1 := 1) (hi_2 := 100) h) ?_); rintro r5 _
    refine o_mv st rfl rfl ?_
    refine st_sp (dj := 6) rfl ?_ ?_
    · refine o_fad (st_g rfl rfl) rfl rfl fld25_1 rfl ?_
      refine o_ldc (st_g rfl rfl) (v := (.int .i64 b_0.xEvery)) 0 rfl rfl rfl ty3 rfl ?_
      refine st_gw rfl rfl (o_callP (vs := [(.int .i64 b_0.xEvery), (.int .i64 1), (.int .i64 1000)]) Try.call38 rfl rfl (by intro w m h; exact w_spec_l1In (n_0 := b_0.xEvery) (lo_1 := 1) (hi_2 := 1000) h) ?_); rintro r6 _
      refine o_pickT st rfl rfl rfl ?_
      refine o_mv st rfl rfl ?_
      refine st_sp (dj := 11) rfl ?_ ?_
      · refine o_fad (st_g rfl rfl) rfl rfl fld25_2 rfl ?_
        refine o_ldc (st_g rfl rfl) (v := (.int .i64 b_0.xTokens)) 0 rfl rfl rfl ty3 rfl ?_
        refine o_fad (st_g rfl rfl) rfl rfl fld25_0 rfl ?_
        refine o_ldc (st_g rfl rfl) (v := (.int .i64 b_0.xSize)) 0 rfl rfl rfl ty3 rfl ?_
        refine st_gw rfl rfl (o_callP (vs := [(.int .i64 b_0.xTokens), (.int .i64 0), (.int .i64 b_0.xSize)]) Try.call38 rfl rfl (by intro w m h; exact w_spec_l1In (n_0 := b_0.xTokens) (lo_1 := 0) (hi_2 := b_0.xSize) h) ?_); rintro r7 _
        refine o_pickT st rfl rfl rfl ?_
        refine o_mv st rfl rfl ?_
        refine st_sp (dj := 18) rfl ?_ ?_
        · refine o_fad (st_g rfl rfl) rfl rfl fld25_3 rfl ?_
          refine o_ldc (st_g rfl rfl) (v := (.int .i64 b_0.xLast)) 0 rfl rfl rfl ty3 rfl ?_
          refine st_gw rfl rfl (o_callP (vs := [(.int .i64 b_0.xLast), (.int .i64 0), (.int .i64 1000000)]) Try.call38 rfl rfl (by intro w m h; exact w_spec_l1In (n_0 := b_0.xLast) (lo_1 := 0) (hi_2 := 1000000) h) ?_); rintro r8 _
          refine o_pickT st rfl rfl rfl ?_
          refine o_as st rfl rfl ?_
          refine c_nil ?_
          exact l_join r8 (fun a w hE hm => ⟨hE.sub ⟨rfl, trivial⟩, (hm.pick [] rfl)⟩)
        · refine st_s rfl rfl rfl rfl ?_
          refine st_s rfl rfl rfl rfl ?_
          refine st_s rfl rfl rfl rfl ?_
          refine o_pickF st rfl rfl rfl ?_
          refine o_as st rfl rfl ?_
          refine c_nil ?_
          exact l_join false (fun a w hE hm => ⟨hE.sub ⟨rfl, trivial⟩, (hm.pick [] rfl)⟩)
      · refine st_s rfl rfl rfl rfl ?_
        refine st_s rfl rfl rfl rfl ?_
        refine st_s rfl rfl rfl rfl ?_
        refine st_s rfl rfl rfl rfl ?_
        refine st_s rfl rfl rfl rfl ?_
        refine o_pickF st rfl rfl rfl ?_
        refine o_mv st rfl rfl ?_
        refine st_s rfl rfl rfl rfl ?_
        refine st_s rfl rfl rfl rfl ?_
        refine st_s rfl rfl rfl rfl ?_
        refine o_pickF st rfl rfl rfl ?_
        refine o_as st rfl rfl ?_
        refine c_nil ?_
        exact l_join false (fun a w hE hm => ⟨hE.sub ⟨rfl, trivial⟩, (hm.pick [] rfl)⟩)
    · refine st_s rfl rfl rfl rfl ?_
      refine st_s rfl rfl rfl rfl ?_
      refine st_s rfl rfl rfl rfl ?_
      refine o_pickF st rfl rfl rfl ?_
      refine o_mv st rfl rfl ?_
      refine st_s rfl rfl rfl rfl ?_
      refine st_s rfl rfl rfl rfl ?_
      refine st_s rfl rfl rfl rfl ?_
      refine st_s rfl rfl rfl rfl ?_
      refine st_s rfl rfl rfl rfl ?_
      refine o_pickF st rfl rfl rfl ?_
      refine o_mv st rfl rfl ?_
      refine st_s rfl rfl rfl rfl ?_
      refine st_s rfl rfl rfl rfl ?_
      refine st_s rfl rfl rfl rfl ?_
      refine o_pickF st rfl rfl rfl ?_
      refine o_as st rfl rfl ?_
      refine c_nil ?_
      exact l_join false (fun a w hE hm => ⟨hE.sub ⟨rfl, trivial⟩, (hm.pick [] rfl)⟩)
  · rintro t3 a w ⟨hE, hm⟩ h
    refine nx_of hE hm h ?_
    clear hE hm h
    refine c_ret ?_
    exact l_end1 Try.results14 t3 () (rv_t rfl) (fun _ _ => NewCh.nil _ _ _ _)

set_option maxRecDepth 100000 in
theorem w_spec_BucketAt {w0 : World} {F : Nat → Prop} {b_0 : GBucket} {now_1 : Int} {κ : GBucket → Prop} (h : L_spec_BucketAt b_0 now_1 κ) :
    Calls Try.prog 21 #[(.agg #[(.int .i64 b_0.xSize), (.int .i64 b_0.xEvery), (.int .i64 b_0.xTokens), (.int .i64 b_0.xLast)]), (.int .i64 now_1)] w0 (Ret [] F w0 κ (fun (r : GBucket) (u : Unit) => (.agg #[(.int .i64 r.xSize), (.int .i64 r.xEvery), (.int .i64 r.xTokens), (.int .i64 r.xLast)])) (fun (r : GBucket) (u : Unit) => [])) := by
  refine enter (args := [(.agg #[(.int .i64 b_0.xSize), (.int .i64 b_0.xEvery), (.int .i64 b_0.xTokens), (.int .i64 b_0.xLast)]), (.int .i64 now_1)]) [] Try.func21 rfl Try.ntmps21 rfl [] hf_nil hh_nil (Given.nil w0).lt (Given.nil w0).disj (Given.nil w0).hold h ?_
  clear h
  refine c_seq ?_
  refine c_region ?_
  refine stw (o_box rfl rfl [(.int .i64 b_0.xSize), (.int .i64 b_0.xEvery), (.int .i64 b_0.xTokens), (.int .i64 b_0.xLast)] rfl ?_); intro b1
  refine stw (o_alloc rfl [(.int .i64 0), (.int .i64 0), (.int .i64 0), (.int .i64 0)] zero25 ?_); intro b3
  refine c_nil ?_
  refine l_then ?_
  refine c_seq ?_
  refine c_join (σ := Bool) (fun (t5 : Bool) (a : Act) (w : World) => Has 51 [(1, (.int .i64 now_1)), (2, (.pointer (some ⟨b1, 0, none⟩))), (4, (.pointer (some ⟨b3, 0, none⟩))), (15, (.bool t5))] a ∧ Mem (fun _ => True) (feet []) w0 [cellCh b3 [(.int .i64 0), (.int .i64 0), (.int .i64 0), (.int .i64 0)] 25, cellCh b1 [(.int .i64 b_0.xSize), (.int .i64 b_0.xEvery), (.int .i64 b_0.xTokens), (.int .i64 b_0.xLast)] 25] w) ?_ ?_
  · intro k6
    refine c_region ?_
    refine o_ldc st (v := (.agg #[(.int .i64 b_0.xSize), (.int .i64 b_0.xEvery), (.int .i64 b_0.xTokens), (.int .i64 b_0.xLast)])) 1 rfl rfl rfl ty25 rfl ?_
    refine stw (o_callP (vs := [(.agg #[(.int .i64 b_0.xSize), (.int .i64 b_0.xEvery), (.int .i64 b_0.xTokens), (.int .i64 b_0.xLast)])]) Try.call14 rfl rfl (by intro w m h; exact w_spec_BucketValid (b_0 := b_0) h) ?_); rintro r7 _
    refine o_not st rfl rfl ?_
    refine o_mv st rfl rfl ?_
    refine st_sp (dj := 9) rfl ?_ ?_
    · refine st_s rfl rfl rfl rfl ?_
      refine st_s rfl rfl rfl rfl ?_
      refine st_s rfl rfl rfl rfl ?_
      refine st_s rfl rfl rfl rfl ?_
      refine st_s rfl rfl rfl rfl ?_
      refine o_pickT st rfl rfl rfl ?_
      refine c_nil ?_
      exact l_join true (fun a w hE hm => ⟨hE.sub ⟨rfl, rfl, rfl, rfl, trivial⟩, (hm.pick [0, 1] rfl)⟩)
    · refine o_mv (st_g rfl rfl) rfl rfl ?_
      refine o_fad (st_g rfl rfl) rfl rfl fld25_3 rfl ?_
      refine o_ldc (st_g rfl rfl) (v := (.int .i64 b_0.xLast)) 1 rfl rfl rfl ty3 rfl ?_
      refine st_gw rfl rfl (o_callP (vs := [(.int .i64 now_1), (.int .i64 b_0.xLast), (.int .i64 1000000)]) Try.call38 rfl rfl (by intro w m h; exact w_spec_l1In (n_0 := now_1) (lo_1 := b_0.xLast) (hi_2 := 1000000) h) ?_); rintro r8 _
      refine o_not (st_g rfl rfl) rfl rfl ?_
      refine o_pickF st rfl rfl rfl ?_
      refine c_nil ?_
      exact l_join (!r8) (fun a w hE hm => ⟨hE.sub ⟨rfl, rfl, rfl, rfl, trivial⟩, (hm.pick [0, 1] rfl)⟩)
  · rintro t5 a w ⟨hE, hm⟩ h
    refine nx_of hE hm h ?_
    clear hE hm h
    refine c_cond rfl ?_ ?_
    · refine c_seq ?_
      refine c_region ?_
      refine o_bld st (qs := []) (cells := [(.int .i64 0), (.int .i64 0), (.int .i64 0), (.int .i64 0)]) (by intro ρ h; simp only [List.map_toArray, List.map_cons, List.map_nil]) rfl bld25 rfl ?_
      refine stw (o_stc (cs' := [(.int .i64 0), (.int .i64 0), (.int .i64 0), (.int .i64 0)]) 0 rfl rfl rfl ty25 rfl rfl rfl rfl ?_)
      refine c_nil ?_
      refine l_then ?_
      refine c_ret ?_
      refine l_ret ?_
      exact l_end1 Try.results21 (GBucket.mk 0 0 0 0) () (rv_c 0 rfl rfl ty25 rfl) (fun _ _ => NewCh.nil _ _ _ _)
    · refine c_skip ?_
      refine l_then ?_
      refine c_seq ?_
      refine c_region ?_
      refine o_mv st rfl rfl ?_
      refine o_fad st rfl rfl fld25_3 rfl ?_
      refine o_ldc st (v := (.int .i64 b_0.xLast)) 1 rfl rfl rfl ty3 rfl ?_
      refine o_sub st rfl rfl rfl ?_; intro t9
      refine o_fad st rfl rfl fld25_1 rfl ?_
      refine o_ldc st (v := (.int .i64 b_0.xEvery)) 1 rfl rfl rfl ty3 rfl ?_
      refine o_quo st rfl rfl rfl ?_; intro t10
      refine o_as st rfl rfl ?_
      refine c_nil ?_
      refine l_then ?_
      refine c_seq ?_
      refine c_seq ?_
      refine c_region ?_
      refine o_fad st rfl rfl fld25_2 rfl ?_
      refine o_ldc st (v := (.int .i64 b_0.xTokens)) 1 rfl rfl rfl ty3 rfl ?_
      refine o_mv st rfl rfl ?_
      refine o_add st rfl rfl rfl ?_; intro t11
      refine o_fad st rfl rfl fld25_0 rfl ?_
      refine o_ldc st (v := (.int .i64 b_0.xSize)) 1 rfl rfl rfl ty3 rfl ?_
      refine o_geq st rfl rfl rfl ?_
      refine c_nil ?_
      refine l_then ?_
      refine c_cond rfl ?_ ?_
      · refine c_seq ?_
        refine c_region ?_
        refine o_fad st rfl rfl fld25_0 rfl ?_
        refine o_ldc st (v := (.int .i64 b_0.xSize)) 1 rfl rfl rfl ty3 rfl ?_
        refine o_fad st rfl rfl fld25_2 rfl ?_
        refine stw (o_stc (cs' := [(.int .i64 b_0.xSize), (.int .i64 b_0.xEvery), (.int .i64 b_0.xSize), (.int .i64 b_0.xLast)]) 1 rfl rfl rfl ty3 rfl rfl rfl rfl ?_)
        refine c_nil ?_
        refine l_then ?_
        refine c_seq ?_
        refine c_region ?_
        refine o_mv st rfl rfl ?_
        refine o_fad st rfl rfl fld25_3 rfl ?_
        refine stw (o_stc (cs' := [(.int .i64 b_0.xSize), (.int .i64 b_0.xEvery), (.int .i64 b_0.xSize), (.int .i64 now_1)]) 1 rfl rfl rfl ty3 rfl rfl rfl rfl ?_)
        refine c_nil ?_
        refine l_then ?_
        refine c_seq ?_
        refine c_region ?_
        refine o_ldc st (v := (.agg #[(.int .i64 b_0.xSize), (.int .i64 b_0.xEvery), (.int .i64 b_0.xSize), (.int .i64 now_1)])) 1 rfl rfl rfl ty25 rfl ?_
        refine stw (o_stc (cs' := [(.int .i64 b_0.xSize), (.int .i64 b_0.xEvery), (.int .i64 b_0.xSize), (.int .i64 now_1)]) 0 rfl rfl rfl ty25 rfl rfl rfl rfl ?_)
        refine c_nil ?_
        refine l_then ?_
        refine c_ret ?_
        refine l_ret ?_
        exact l_end1 Try.results21 (GBucket.mk b_0.xSize b_0.xEvery b_0.xSize now_1) () (rv_c 0 rfl rfl ty25 rfl) (fun _ _ => NewCh.nil _ _ _ _)
      · refine c_skip ?_
        refine l_then ?_
        refine c_seq ?_
        refine c_region ?_
        refine o_fad st rfl rfl fld25_2 rfl ?_
        refine o_ldc st (v := (.int .i64 b_0.xTokens)) 1 rfl rfl rfl ty3 rfl ?_
        refine o_mv st rfl rfl ?_
        refine o_add st rfl rfl rfl ?_; intro t12
        refine o_fad st rfl rfl fld25_2 rfl ?_
        refine stw (o_stc (cs' := [(.int .i64 b_0.xSize), (.int .i64 b_0.xEvery), (.int .i64 t12), (.int .i64 b_0.xLast)]) 1 rfl rfl rfl ty3 rfl rfl rfl rfl ?_)
        refine c_nil ?_
        refine l_then ?_
        refine c_seq ?_
        refine c_region ?_
        refine o_fad st rfl rfl fld25_3 rfl ?_
        refine o_ldc st (v := (.int .i64 b_0.xLast)) 1 rfl rfl rfl ty3 rfl ?_
        refine o_mv st rfl rfl ?_
        refine o_fad st rfl rfl fld25_1 rfl ?_
        refine o_ldc st (v := (.int .i64 b_0.xEvery)) 1 rfl rfl rfl ty3 rfl ?_
        refine o_mul st rfl rfl rfl ?_; intro t13
        refine o_add st rfl rfl rfl ?_; intro t14
        refine o_fad st rfl rfl fld25_3 rfl ?_
        refine stw (o_stc (cs' := [(.int .i64 b_0.xSize), (.int .i64 b_0.xEvery), (.int .i64 t12), (.int .i64 t14)]) 1 rfl rfl rfl ty3 rfl rfl rfl rfl ?_)
        refine c_nil ?_
        refine l_then ?_
        refine c_seq ?_
        refine c_region ?_
        refine o_ldc st (v := (.agg #[(.int .i64 b_0.xSize), (.int .i64 b_0.xEvery), (.int .i64 t12), (.int .i64 t14)])) 1 rfl rfl rfl ty25 rfl ?_
        refine stw (o_stc (cs' := [(.int .i64 b_0.xSize), (.int .i64 b_0.xEvery), (.int .i64 t12), (.int .i64 t14)]) 0 rfl rfl rfl ty25 rfl rfl rfl rfl ?_)
        refine c_nil ?_
        refine l_then ?_
        refine c_ret ?_
        exact l_end1 Try.results21 (GBucket.mk b_0.xSize b_0.xEvery t12 t14) () (rv_c 0 rfl rfl ty25 rfl) (fun _ _ => NewCh.nil _ _ _ _)

set_option maxRecDepth 100000 in
theorem w_spec_TakeToken {w0 : World} {F : Nat → Prop} {b_0 : GBucket} {now_1 : Int} {κ : (GBucket × Bool) → Prop} (h : L_spec_TakeToken b_0 now_1 κ) :
    Calls Try.prog 24 #[(.agg #[(.int .i64 b_0.xSize), (.int .i64 b_0.xEvery), (.int .i64 b_0.xTokens), (.int .i64 b_0.xLast)]), (.int .i64 now_1)] w0 (Ret [] F w0 κ (fun (r : (GBucket × Bool)) (u : Unit) => .tuple #[(.agg #[(.int .i64 r.1.xSize), (.int .i64 r.1.xEvery), (.int .i64 r.1.xTokens), (.int .i64 r.1.xLast)]), (.bool r.2)]) (fun (r : (GBucket × Bool)) (u : Unit) => [])) := by
  refine enter (args := [(.agg #[(.int .i64 b_0.xSize), (.int .i64 b_0.xEvery), (.int .i64 b_0.xTokens), (.int .i64 b_0.xLast)]), (.int .i64 now_1)]) [] Try.func24 rfl Try.ntmps24 rfl [] hf_nil hh_nil (Given.nil w0).lt (Given.nil w0).disj (Given.nil w0).hold h ?_
  clear h
  refine c_seq ?_
  refine c_region ?_
  refine stw (o_box rfl rfl [(.int .i64 b_0.xSize), (.int .i64 b_0.xEvery), (.int .i64 b_0.xTokens), (.int .i64 b_0.xLast)] rfl ?_); intro b1
  refine stw (o_alloc rfl [(.int .i64 0), (.int .i64 0), (.int .i64 0), (.int .i64 0)] zero25 ?_); intro b3
  refine o_as st rfl rfl ?_
  refine c_nil ?_
  refine l_then ?_
  refine c_seq ?_
  refine c_join (σ := Bool) (fun (t5 : Bool) (a : Act) (w : World) => Has 29 [(1, (.int .i64 now_1)), (2, (.pointer (some ⟨b1, 0, none⟩))), (4, (.pointer (some ⟨b3, 0, none⟩))), (15, (.bool t5))] a ∧ Mem (fun _ => True) (feet []) w0 [cellCh b3 [(.int .i64 0), (.int .i64 0), (.int .i64 0), (.int .i64 0)] 25, cellCh b1 [(.int .i64 b_0.xSize), (.int .i64 b_0.xEvery), (.int .i64 b_0.xTokens), (.int .i64 b_0.xLast)] 25] w) ?_ ?_
  · intro k6
    refine c_region ?_
    refine o_ldc st (v := (.agg #[(.int .i64 b_0.xSize), (.int .i64 b_0.xEvery), (.int .i64 b_0.xTokens), (.int .i64 b_0.xLast)])) 1 rfl rfl rfl ty25 rfl ?_
    refine stw (o_callP (vs := [(.agg #[(.int .i64 b_0.xSize), (.int .i64 b_0.xEvery), (.int .i64 b_0.xTokens), (.int .i64 b_0.xLast)])]) Try.call14 rfl rfl (by intro w m h; exact w_spec_BucketValid (b_0 := b_0) h) ?_); rintro r7 _
    refine o_not st rfl rfl ?_
    refine o_mv st rfl rfl ?_
    refine st_sp (dj := 9) rfl ?_ ?_
    · refine st_s rfl rfl rfl rfl ?_
      refine st_s rfl rfl rfl rfl ?_
      refine st_s rfl rfl rfl rfl ?_
      refine st_s rfl rfl rfl rfl ?_
      refine st_s rfl rfl rfl rfl ?_
      refine o_pickT st rfl rfl rfl ?_
      refine c_nil ?_
      exact l_join true (fun a w hE hm => ⟨hE.sub ⟨rfl, rfl, rfl, rfl, trivial⟩, (hm.pick [0, 1] rfl)⟩)
    · refine o_mv (st_g rfl rfl) rfl rfl ?_
      refine o_fad (st_g rfl rfl) rfl rfl fld25_3 rfl ?_
      refine o_ldc (st_g rfl rfl) (v := (.int .i64 b_0.xLast)) 1 rfl rfl rfl ty3 rfl ?_
      refine st_gw rfl rfl (o_callP (vs := [(.int .i64 now_1), (.int .i64 b_0.xLast), (.int .i64 1000000)]) Try.call38 rfl rfl (by intro w m h; exact w_spec_l1In (n_0 := now_1) (lo_1 := b_0.xLast) (hi_2 := 1000000) h) ?_); rintro r8 _
      refine o_not (st_g rfl rfl) rfl rfl ?_
      refine o_pickF st rfl rfl rfl ?_
      refine c_nil ?_
      exact l_join (!r8) (fun a w hE hm => ⟨hE.sub ⟨rfl, rfl, rfl, rfl, trivial⟩, (hm.pick [0, 1] rfl)⟩)
  · rintro t5 a w ⟨hE, hm⟩ h
    refine nx_of hE hm h ?_
    clear hE hm h
    refine c_cond rfl ?_ ?_
    · refine c_seq ?_
      refine c_region ?_
      refine o_bld st (qs := []) (cells := [(.int .i64 0), (.int .i64 0), (.int .i64 0), (.int .i64 0)]) (by intro ρ h; simp only [List.map_toArray, List.map_cons, List.map_nil]) rfl bld25 rfl ?_
      refine stw (o_stc (cs' := [(.int .i64 0), (.int .i64 0), (.int .i64 0), (.int .i64 0)]) 0 rfl rfl rfl ty25 rfl rfl rfl rfl ?_)
      refine o_as st rfl rfl ?_
      refine c_nil ?_
      refine l_then ?_
      refine c_ret ?_
      refine l_ret ?_
      exact l_end2 Try.results24 ((GBucket.mk 0 0 0 0), false) () (rv_c 0 rfl rfl ty25 rfl) (rv_t rfl) rfl (fun _ _ => NewCh.nil _ _ _ _)
    · refine c_skip ?_
      refine l_then ?_
      refine c_seq ?_
      refine c_region ?_
      refine o_ldc st (v := (.agg #[(.int .i64 b_0.xSize), (.int .i64 b_0.xEvery), (.int .i64 b_0.xTokens), (.int .i64 b_0.xLast)])) 1 rfl rfl rfl ty25 rfl ?_
      refine o_mv st rfl rfl ?_
      refine stw (o_callP (vs := [(.agg #[(.int .i64 b_0.xSize), (.int .i64 b_0.xEvery), (.int .i64 b_0.xTokens), (.int .i64 b_0.xLast)]), (.int .i64 now_1)]) Try.call21 rfl rfl (by intro w m h; exact w_spec_BucketAt (b_0 := b_0) (now_1 := now_1) h) ?_); rintro r9 _
      refine stw (o_stc (cs' := [(.int .i64 r9.xSize), (.int .i64 r9.xEvery), (.int .i64 r9.xTokens), (.int .i64 r9.xLast)]) 1 rfl rfl rfl ty25 rfl rfl rfl rfl ?_)
      refine c_nil ?_
      refine l_then ?_
      refine c_seq ?_
      refine c_seq ?_
      refine c_region ?_
      refine o_fad st rfl rfl fld25_2 rfl ?_
      refine o_ldc st (v := (.int .i64 r9.xTokens)) 1 rfl rfl rfl ty3 rfl ?_
      refine o_eql st und3 rfl rfl rfl ?_
      refine c_nil ?_
      refine l_then ?_
      refine c_cond rfl ?_ ?_
      · refine c_seq ?_
        refine c_region ?_
        refine o_ldc st (v := (.agg #[(.int .i64 r9.xSize), (.int .i64 r9.xEvery), (.int .i64 r9.xTokens), (.int .i64 r9.xLast)])) 1 rfl rfl rfl ty25 rfl ?_
        refine stw (o_stc (cs' := [(.int .i64 r9.xSize), (.int .i64 r9.xEvery), (.int .i64 r9.xTokens), (.int .i64 r9.xLast)]) 0 rfl rfl rfl ty25 rfl rfl rfl rfl ?_)
        refine o_as st rfl rfl ?_
        refine c_nil ?_
        refine l_then ?_
        refine c_ret ?_
        refine l_ret ?_
        exact l_end2 Try.results24 (r9, false) () (rv_c 0 rfl rfl ty25 rfl) (rv_t rfl) rfl (fun _ _ => NewCh.nil _ _ _ _)
      · refine c_skip ?_
        refine l_then ?_
        refine c_seq ?_
        refine c_region ?_
        refine o_fad st rfl rfl fld25_2 rfl ?_
        refine o_ldc st (v := (.int .i64 r9.xTokens)) 1 rfl rfl rfl ty3 rfl ?_
        refine o_sub st rfl rfl rfl ?_; intro t10
        refine o_fad st rfl rfl fld25_2 rfl ?_
        refine stw (o_stc (cs' := [(.int .i64 r9.xSize), (.int .i64 r9.xEvery), (.int .i64 t10), (.int .i64 r9.xLast)]) 1 rfl rfl rfl ty3 rfl rfl rfl rfl ?_)
        refine c_nil ?_
        refine l_then ?_
        refine c_seq ?_
        refine c_region ?_
        refine o_ldc st (v := (.agg #[(.int .i64 r9.xSize), (.int .i64 r9.xEvery), (.int .i64 t10), (.int .i64 r9.xLast)])) 1 rfl rfl rfl ty25 rfl ?_
        refine stw (o_stc (cs' := [(.int .i64 r9.xSize), (.int .i64 r9.xEvery), (.int .i64 t10), (.int .i64 r9.xLast)]) 0 rfl rfl rfl ty25 rfl rfl rfl rfl ?_)
        refine o_as st rfl rfl ?_
        refine c_nil ?_
        refine l_then ?_
        refine c_ret ?_
        exact l_end2 Try.results24 ((GBucket.mk r9.xSize r9.xEvery t10 r9.xLast), true) () (rv_c 0 rfl rfl ty25 rfl) (rv_t rfl) rfl (fun _ _ => NewCh.nil _ _ _ _)

set_option maxRecDepth 100000 in
theorem w_spec_TakeMany {w0 : World} {F : Nat → Prop} {v1 : Value} {b_0 : GBucket} {times_1 : (List Int)} {κ : (List Bool) → Prop} (hv1 : Sl elInt (fun b => b < w0.heap.size ∧ ¬ feet [] b) w0 v1 times_1) (h : L_spec_TakeMany b_0 times_1 κ) :
    Calls Try.prog 31 #[(.agg #[(.int .i64 b_0.xSize), (.int .i64 b_0.xEvery), (.int .i64 b_0.xTokens), (.int .i64 b_0.xLast)]), v1] w0 (Ret [] F w0 κ (fun (r : (List Bool)) (u : Value) => u) (fun (r : (List Bool)) (u : Value) => [ownCh elBool 4 u (r)])) := by
  refine enter (args := [(.agg #[(.int .i64 b_0.xSize), (.int .i64 b_0.xEvery), (.int .i64 b_0.xTokens), (.int .i64 b_0.xLast)]), v1]) [] Try.func31 rfl Try.ntmps31 rfl [roCh elInt v1 times_1] (hf_cons hf_nil) (hh_cons hv1 hh_nil) (Given.nil w0).lt (Given.nil w0).disj (Given.nil w0).hold h ?_
  clear h hv1
  refine c_seq ?_
  refine c_region ?_
  refine stw (o_box rfl rfl [(.int .i64 b_0.xSize), (.int .i64 b_0.xEvery), (.int .i64 b_0.xTokens), (.int .i64 b_0.xLast)] rfl ?_); intro b3
  refine stw (o_asn elBool 4 rfl rfl ?_)
  refine c_nil ?_
  refine l_then ?_
  refine c_seq ?_
  refine c_region ?_
  refine stw (o_bsl (enc := encBool) (qs := []) (cells := []) ([]) flelBool (by intro ρ h; simp only [List.map_toArray, List.map_cons, List.map_nil]) rfl el44 zero4 rfl rfl rfl rfl rfl rfl ?_); intro v6
  refine o_as st rfl rfl ?_
  refine c_nil ?_
  refine l_then ?_
  refine c_seq ?_
  refine c_join (σ := Bool) (fun (t8 : Bool) (a : Act) (w : World) => Has 65 [(1, v1), (2, (.pointer (some ⟨b3, 0, none⟩))), (5, v6), (17, (.bool t8))] a ∧ Mem (fun _ => True) (feet []) w0 [ownCh elBool 4 v6 ([]), cellCh b3 [(.int .i64 b_0.xSize), (.int .i64 b_0.xEvery), (.int .i64 b_0.xTokens), (.int .i64 b_0.xLast)] 25, roCh elInt v1 times_1] w) ?_ ?_
  · intro k9
    refine c_region ?_
    refine o_ldc st (v := (.agg #[(.int .i64 b_0.xSize), (.int .i64 b_0.xEvery), (.int .i64 b_0.xTokens), (.int .i64 b_0.xLast)])) 2 rfl rfl rfl ty25 rfl ?_
    refine stw (o_callP (vs := [(.agg #[(.int .i64 b_0.xSize), (.int .i64 b_0.xEvery), (.int .i64 b_0.xTokens), (.int .i64 b_0.xLast)])]) Try.call14 rfl rfl (by intro w m h; exact w_spec_BucketValid (b_0 := b_0) h) ?_); rintro r10 _
    refine o_not st rfl rfl ?_
    refine o_mv st rfl rfl ?_
    refine st_sp (dj := 13) rfl ?_ ?_
    · refine st_s rfl rfl rfl rfl ?_
      refine st_s rfl rfl rfl rfl ?_
      refine st_s rfl rfl rfl rfl ?_
      refine o_pickT st rfl rfl rfl ?_
      refine c_nil ?_
      exact l_join true (fun a w hE hm => ⟨hE.sub ⟨rfl, rfl, rfl, rfl, trivial⟩, (hm.pick [0, 2, 3] rfl)⟩)
    · refine o_mv (st_g rfl rfl) rfl rfl ?_
      refine o_len (st_g rfl rfl) el41 3 rfl reads_ro rfl rfl ?_
      refine o_gtr (st_g rfl rfl) rfl rfl rfl ?_
      refine o_pickF st rfl rfl rfl ?_
      refine c_nil ?_
      exact l_join (decide (50 < (times_1.length : Int))) (fun a w hE hm => ⟨hE.sub ⟨rfl, rfl, rfl, rfl, trivial⟩, (hm.pick [0, 2, 3] rfl)⟩)
  · rintro t8 a w ⟨hE, hm⟩ h
    refine nx_of hE hm h ?_
    clear hE hm h
    refine c_cond rfl ?_ ?_
    · refine c_seq ?_
      refine c_region ?_
      refine o_mv st rfl rfl ?_
      refine o_as st rfl rfl ?_
      refine c_nil ?_
      refine l_then ?_
      refine c_ret ?_
      refine l_ret ?_
      exact l_end1 Try.results31 ([]) v6 (rv_t rfl) (fun w m => NewCh.of m [0] rfl (fr_cons (free_own flelBool) fr_nil))
    · refine c_skip ?_
      refine l_then ?_
      refine c_seq ?_
      refine c_seq ?_
      refine c_region ?_
      refine o_as st rfl rfl ?_
      refine c_nil ?_
      refine l_then ?_
      refine c_block ?_
      refine c_loop (σ := (Int × Int × Int × Int × (List Bool) × Int)) (fun ((t11, t12, t13, t14, xs16, t19) : (Int × Int × Int × Int × (List Bool) × Int)) (a : Act) (w : World) => ∃ (v17 : Value), Has 65 [(1, v1), (2, (.pointer (some ⟨b3, 0, none⟩))), (5, v17), (6, (.int .i64 t19))] a ∧ Mem (fun _ => True) (feet []) w0 [cellCh b3 [(.int .i64 t11), (.int .i64 t12), (.int .i64 t13), (.int .i64 t14)] 25, roCh elInt v1 times_1, ownCh elBool 4 v17 xs16] w) (fun a w hE hm => ⟨v6, hE.sub ⟨rfl, rfl, rfl, rfl, trivial⟩, (hm.pick [1, 2, 0] rfl)⟩) ?_
      rintro nx20 ⟨t11, t12, t13, t14, xs16, t19⟩ a w ⟨v17, hE, hm⟩ h
      refine nx_of hE hm h ?_
      clear hE hm h
      refine c_seq ?_
      refine c_seq ?_
      refine c_region ?_
      refine o_mv st rfl rfl ?_
      refine o_mv st rfl rfl ?_
      refine o_len st el41 1 rfl reads_ro rfl rfl ?_
      refine o_lss st rfl rfl rfl ?_
      refine c_nil ?_
      refine l_then ?_
      refine c_cond rfl ?_ ?_
      · refine c_skip ?_
        refine l_then ?_
        refine c_join (σ := (Int × Int × Int × Int × (List Bool))) (fun ((t21, t22, t23, t24, xs25) : (Int × Int × Int × Int × (List Bool))) (a : Act) (w : World) => ∃ (v26 : Value), Has 65 [(1, v1), (2, (.pointer (some ⟨b3, 0, none⟩))), (5, v26), (6, (.int .i64 t19))] a ∧ Mem (fun _ => True) (feet []) w0 [cellCh b3 [(.int .i64 t21), (.int .i64 t22), (.int .i64 t23), (.int .i64 t24)] 25, roCh elInt v1 times_1, ownCh elBool 4 v26 xs25] w) ?_ ?_
        · intro k28
          refine c_block ?_
          refine c_seq ?_
          refine c_join (σ := Bool) (fun (t29 : Bool) (a : Act) (w : World) => Has 65 [(1, v1), (2, (.pointer (some ⟨b3, 0, none⟩))), (5, v17), (6, (.int .i64 t19)), (48, (.bool t29))] a ∧ Mem (fun _ => True) (feet []) w0 [cellCh b3 [(.int .i64 t11), (.int .i64 t12), (.int .i64 t13), (.int .i64 t14)] 25, roCh elInt v1 times_1, ownCh elBool 4 v17 xs16] w) ?_ ?_
          · intro k30
            refine c_draw mixed 24 rfl [cellCh b3 [(.int .i64 t11), (.int .i64 t12), (.int .i64 t13), (.int .i64 t14)] 25, roCh elInt v1 times_1, ownCh elBool 4 v17 xs16] ?_
            refine o_mv (d_take (i := 0) rfl (by kernel_rfl) (by kernel_rfl) (by kernel_rfl) (fun c a d v w h => by cases d <;> exact h) (fun w m => m.pick [0, 1, 2] rfl)) rfl rfl ?_
            refine o_mv (d_take (i := 1) rfl (by kernel_rfl) (by kernel_rfl) (by kernel_rfl) (fun c a d v w h => by cases d <;> exact h) (fun w m => m.pick [0, 1, 2] rfl)) rfl rfl ?_
            refine o_idx (d_take (i := 2) rfl (by kernel_rfl) (by kernel_rfl) (by kernel_rfl) (fun c a d v w h => by cases d <;> exact h) (fun w m => m.pick [0, 1, 2] rfl)) 1 rfl reads_ro rfl rfl rfl el41 ?_; intro e31 h32
            refine o_lds (d_take (i := 3) rfl (by kernel_rfl) (by kernel_rfl) (by kernel_rfl) (fun c a d v w h => by cases d <;> exact h) (fun w m => m.pick [0, 1, 2] rfl)) (enc := encInt) (u := (.int .i64 e31)) 1 rfl reads_ro flelInt rfl h32 rfl rfl ty3 rfl ?_
            refine o_fad (d_take (i := 4) rfl (by kernel_rfl) (by kernel_rfl) (by kernel_rfl) (fun c a d v w h => by cases d <;> exact h) (fun w m => m.pick [0, 1, 2] rfl)) rfl rfl fld25_3 rfl ?_
            refine o_ldc (d_take (i := 5) rfl (by kernel_rfl) (by kernel_rfl) (by kernel_rfl) (fun c a d v w h => by cases d <;> exact h) (fun w m => m.pick [0, 1, 2] rfl)) (v := (.int .i64 t14)) 0 rfl rfl rfl ty3 rfl ?_
            refine d_one (i := 6) rfl (by kernel_rfl) (o_callP (vs := [(.int .i64 e31), (.int .i64 t14), (.int .i64 1000000)]) Try.call38 rfl rfl (by intro w m h; exact w_spec_l1In (n_0 := e31) (lo_1 := t14) (hi_2 := 1000000) h) ?_); rintro r33 _
            refine d_and (fun w m => m.pick [0, 1, 2] rfl) ?_
            refine o_not (d_take (i := 7) rfl (by kernel_rfl) (by kernel_rfl) (by kernel_rfl) (fun c a d v w h => by cases d <;> exact h) (fun w m => m.pick [0, 1, 2] rfl)) rfl rfl ?_
            refine o_mv (d_take (i := 8) rfl (by kernel_rfl) (by kernel_rfl) (by kernel_rfl) (fun c a d v w h => by cases d <;> exact h) (fun w m => m.pick [0, 1, 2] rfl)) rfl rfl ?_
            refine st_sp (dj := 33) rfl ?_ ?_
            · refine d_skip (i := 9) rfl (by kernel_rfl) (by kernel_rfl) (by kernel_rfl) (fun c a d v w h => by cases d <;> exact h) (fun w m => m.pick [0, 1, 2] rfl) rfl rfl rfl rfl ?_
              refine d_skip (i := 10) rfl (by kernel_rfl) (by kernel_rfl) (by kernel_rfl) (fun c a d v w h => by cases d <;> exact h) (fun w m => m.pick [0, 1, 2] rfl) rfl rfl rfl rfl ?_
              refine d_skip (i := 11) rfl (by kernel_rfl) (by kernel_rfl) (by kernel_rfl) (fun c a d v w h => by cases d <;> exact h) (fun w m => m.pick [0, 1, 2] rfl) rfl rfl rfl rfl ?_
              refine d_skip (i := 12) rfl (by kernel_rfl) (by kernel_rfl) (by kernel_rfl) (fun c a d v w h => by cases d <;> exact h) (fun w m => m.pick [0, 1, 2] rfl) rfl rfl rfl rfl ?_
              refine d_skip (i := 13) rfl (by kernel_rfl) (by kernel_rfl) (by kernel_rfl) (fun c a d v w h => by cases d <;> exact h) (fun w m => m.pick [0, 1, 2] rfl) rfl rfl rfl rfl ?_
              refine d_skip (i := 14) rfl (by kernel_rfl) (by kernel_rfl) (by kernel_rfl) (fun c a d v w h => by cases d <;> exact h) (fun w m => m.pick [0, 1, 2] rfl) rfl rfl rfl rfl ?_
              refine d_skip (i := 15) rfl (by kernel_rfl) (by kernel_rfl) (by kernel_rfl) (fun c a d v w h => by cases d <;> exact h) (fun w m => m.pick [0, 1, 2] rfl) rfl rfl rfl rfl ?_
              refine d_skip (i := 16) rfl (by kernel_rfl) (by kernel_rfl) (by kernel_rfl) (fun c a d v w h => by cases d <;> exact h) (fun w m => m.pick [0, 1, 2] rfl) rfl rfl rfl rfl ?_
              refine d_skip (i := 17) rfl (by kernel_rfl) (by kernel_rfl) (by kernel_rfl) (fun c a d v w h => by cases d <;> exact h) (fun w m => m.pick [0, 1, 2] rfl) rfl rfl rfl rfl ?_
              refine d_skip (i := 18) rfl (by kernel_rfl) (by kernel_rfl) (by kernel_rfl) (fun c a d v w h => by cases d <;> exact h) (fun w m => m.pick [0, 1, 2] rfl) rfl rfl rfl rfl ?_
              refine d_skip (i := 19) rfl (by kernel_rfl) (by kernel_rfl) (by kernel_rfl) (fun c a d v w h => by cases d <;> exact h) (fun w m => m.pick [0, 1, 2] rfl) rfl rfl rfl rfl ?_
              refine d_skip (i := 20) rfl (by kernel_rfl) (by kernel_rfl) (by kernel_rfl) (fun c a d v w h => by cases d <;> exact h) (fun w m => m.pick [0, 1, 2] rfl) rfl rfl rfl rfl ?_
              refine d_skip (i := 21) rfl (by kernel_rfl) (by kernel_rfl) (by kernel_rfl) (fun c a d v w h => by cases d <;> exact h) (fun w m => m.pick [0, 1, 2] rfl) rfl rfl rfl rfl ?_
              refine d_skip (i := 22) rfl (by kernel_rfl) (by kernel_rfl) (by kernel_rfl) (fun c a d v w h => by cases d <;> exact h) (fun w m => m.pick [0, 1, 2] rfl) rfl rfl rfl rfl ?_
              refine o_pickT (d_take (i := 23) rfl (by kernel_rfl) (by kernel_rfl) (by kernel_rfl) (fun c a d v w h => by cases d <;> exact h) (fun w m => m.pick [0, 1, 2] rfl)) rfl rfl rfl ?_
              refine d_done (by kernel_rfl) ?_
              exact l_join true (fun a w hE hm => ⟨hE.sub ⟨rfl, rfl, rfl, rfl, rfl, trivial⟩, (hm.pick [0, 1, 2] rfl)⟩)
            · refine o_mv (d_takeg (i := 9) rfl (by kernel_rfl) (by kernel_rfl) (by kernel_rfl) (fun c a d v w h => by cases d <;> exact h) (fun w m => m.pick [0, 1, 2] rfl) rfl rfl) rfl rfl ?_
              refine o_gtr (d_takeg (i := 10) rfl (by kernel_rfl) (by kernel_rfl) (by kernel_rfl) (fun c a d v w h => by cases d <;> exact h) (fun w m => m.pick [0, 1, 2] rfl) rfl rfl) rfl rfl rfl ?_
              refine o_mv (d_takeg (i := 11) rfl (by kernel_rfl) (by kernel_rfl) (by kernel_rfl) (fun c a d v w h => by cases d <;> exact h) (fun w m => m.pick [0, 1, 2] rfl) rfl rfl) rfl rfl ?_
              refine st_sp (dj := 36) rfl ?_ ?_
              · refine o_mv (d_takeg (i := 12) rfl (by kernel_rfl) (by kernel_rfl) (by kernel_rfl) (fun c a d v w h => by cases d <;> exact h) (fun w m => m.pick [0, 1, 2] rfl) rfl rfl) rfl rfl ?_
                refine o_mv (d_takeg (i := 13) rfl (by kernel_rfl) (by kernel_rfl) (by kernel_rfl) (fun c a d v w h => by cases d <;> exact h) (fun w m => m.pick [0, 1, 2] rfl) rfl rfl) rfl rfl ?_
                refine o_idx (d_takeg (i := 14) rfl (by kernel_rfl) (by kernel_rfl) (by kernel_rfl) (fun c a d v w h => by cases d <;> exact h) (fun w m => m.pick [0, 1, 2] rfl) rfl rfl) 1 rfl reads_ro rfl rfl rfl el41 ?_; intro e34 h35
                refine o_lds (d_takeg (i := 15) rfl (by kernel_rfl) (by kernel_rfl) (by kernel_rfl) (fun c a d v w h => by cases d <;> exact h) (fun w m => m.pick [0, 1, 2] rfl) rfl rfl) (enc := encInt) (u := (.int .i64 e34)) 1 rfl reads_ro flelInt rfl h35 rfl rfl ty3 rfl ?_
                refine o_mv (d_takeg (i := 16) rfl (by kernel_rfl) (by kernel_rfl) (by kernel_rfl) (fun c a d v w h => by cases d <;> exact h) (fun w m => m.pick [0, 1, 2] rfl) rfl rfl) rfl rfl ?_
                refine o_mv (d_takeg (i := 17) rfl (by kernel_rfl) (by kernel_rfl) (by kernel_rfl) (fun c a d v w h => by cases d <;> exact h) (fun w m => m.pick [0, 1, 2] rfl) rfl rfl) rfl rfl ?_
                refine o_sub (d_takeg (i := 18) rfl (by kernel_rfl) (by kernel_rfl) (by kernel_rfl) (fun c a d v w h => by cases d <;> exact h) (fun w m => m.pick [0, 1, 2] rfl) rfl rfl) rfl rfl rfl ?_; intro t36
                refine o_idx (d_takeg (i := 19) rfl (by kernel_rfl) (by kernel_rfl) (by kernel_rfl) (fun c a d v w h => by cases d <;> exact h) (fun w m => m.pick [0, 1, 2] rfl) rfl rfl) 1 rfl reads_ro rfl rfl rfl el41 ?_; intro e37 h38
                refine o_lds (d_takeg (i := 20) rfl (by kernel_rfl) (by kernel_rfl) (by kernel_rfl) (fun c a d v w h => by cases d <;> exact h) (fun w m => m.pick [0, 1, 2] rfl) rfl rfl) (enc := encInt) (u := (.int .i64 e37)) 1 rfl reads_ro flelInt rfl h38 rfl rfl ty3 rfl ?_
                refine o_lss (d_takeg (i := 21) rfl (by kernel_rfl) (by kernel_rfl) (by kernel_rfl) (fun c a d v w h => by cases d <;> exact h) (fun w m => m.pick [0, 1, 2] rfl) rfl rfl) rfl rfl rfl ?_
                refine o_pickT (d_takeg (i := 22) rfl (by kernel_rfl) (by kernel_rfl) (by kernel_rfl) (fun c a d v w h => by cases d <;> exact h) (fun w m => m.pick [0, 1, 2] rfl) rfl rfl) rfl rfl rfl ?_
                refine o_pickF (d_take (i := 23) rfl (by kernel_rfl) (by kernel_rfl) (by kernel_rfl) (fun c a d v w h => by cases d <;> exact h) (fun w m => m.pick [0, 1, 2] rfl)) rfl rfl rfl ?_
                refine d_done (by kernel_rfl) ?_
                exact l_join (decide (e34 < e37)) (fun a w hE hm => ⟨hE.sub ⟨rfl, rfl, rfl, rfl, rfl, trivial⟩, (hm.pick [0, 1, 2] rfl)⟩)
              · refine d_skip (i := 12) rfl (by kernel_rfl) (by kernel_rfl) (by kernel_rfl) (fun c a d v w h => by cases d <;> exact h) (fun w m => m.pick [0, 1, 2] rfl) rfl rfl rfl rfl ?_
                refine d_skip (i := 13) rfl (by kernel_rfl) (by kernel_rfl) (by kernel_rfl) (fun c a d v w h => by cases d <;> exact h) (fun w m => m.pick [0, 1, 2] rfl) rfl rfl rfl rfl ?_
                refine d_skip (i := 14) rfl (by kernel_rfl) (by kernel_rfl) (by kernel_rfl) (fun c a d v w h => by cases d <;> exact h) (fun w m => m.pick [0, 1, 2] rfl) rfl rfl rfl rfl ?_
                refine d_skip (i := 15) rfl (by kernel_rfl) (by kernel_rfl) (by kernel_rfl) (fun c a d v w h => by cases d <;> exact h) (fun w m => m.pick [0, 1, 2] rfl) rfl rfl rfl rfl ?_
                refine d_skip (i := 16) rfl (by kernel_rfl) (by kernel_rfl) (by kernel_rfl) (fun c a d v w h => by cases d <;> exact h) (fun w m => m.pick [0, 1, 2] rfl) rfl rfl rfl rfl ?_
                refine d_skip (i := 17) rfl (by kernel_rfl) (by kernel_rfl) (by kernel_rfl) (fun c a d v w h => by cases d <;> exact h) (fun w m => m.pick [0, 1, 2] rfl) rfl rfl rfl rfl ?_
                refine d_skip (i := 18) rfl (by kernel_rfl) (by kernel_rfl) (by kernel_rfl) (fun c a d v w h => by cases d <;> exact h) (fun w m => m.pick [0, 1, 2] rfl) rfl rfl rfl rfl ?_
                refine d_skip (i := 19) rfl (by kernel_rfl) (by kernel_rfl) (by kernel_rfl) (fun c a d v w h => by cases d <;> exact h) (fun w m => m.pick [0, 1, 2] rfl) rfl rfl rfl rfl ?_
                refine d_skip (i := 20) rfl (by kernel_rfl) (by kernel_rfl) (by kernel_rfl) (fun c a d v w h => by cases d <;> exact h) (fun w m => m.pick [0, 1, 2] rfl) rfl rfl rfl rfl ?_
                refine d_skip (i := 21) rfl (by kernel_rfl) (by kernel_rfl) (by kernel_rfl) (fun c a d v w h => by cases d <;> exact h) (fun w m => m.pick [0, 1, 2] rfl) rfl rfl rfl rfl ?_
                refine o_pickF (d_takeg (i := 22) rfl (by kernel_rfl) (by kernel_rfl) (by kernel_rfl) (fun c a d v w h => by cases d <;> exact h) (fun w m => m.pick [0, 1, 2] rfl) rfl rfl) rfl rfl rfl ?_
                refine o_pickF (d_take (i := 23) rfl (by kernel_rfl) (by kernel_rfl) (by kernel_rfl) (fun c a d v w h => by cases d <;> exact h) (fun w m => m.pick [0, 1, 2] rfl)) rfl rfl rfl ?_
                refine d_done (by kernel_rfl) ?_
                exact l_join false (fun a w hE hm => ⟨hE.sub ⟨rfl, rfl, rfl, rfl, rfl, trivial⟩, (hm.pick [0, 1, 2] rfl)⟩)
          · rintro t29 a w ⟨hE, hm⟩ h
            refine nx_of hE hm h ?_
            clear hE hm h
            refine c_cond rfl ?_ ?_
            · refine c_seq ?_
              refine c_region ?_
              refine stw (o_bsl (enc := encBool) (qs := []) (cells := []) ([]) flelBool (by intro ρ h; simp only [List.map_toArray, List.map_cons, List.map_nil]) rfl el44 zero4 rfl rfl rfl rfl rfl rfl ?_); intro v39
              refine o_as st rfl rfl ?_
              refine c_nil ?_
              refine l_then ?_
              refine c_ret ?_
              refine l_ret ?_
              refine b_ret ?_
              refine l_ret ?_
              refine l_ret ?_
              refine b_ret ?_
              refine l_ret ?_
              exact l_end1 Try.results31 ([]) v39 (rv_t rfl) (fun w m => NewCh.of m [0] rfl (fr_cons (free_own flelBool) fr_nil))
            · refine c_skip ?_
              refine l_then ?_
              refine c_seq ?_
              refine c_draw mixed 12 rfl [roCh elInt v1 times_1] ?_
              refine o_mv (d_take (i := 1) rfl (by kernel_rfl) (by kernel_rfl) (by kernel_rfl) (fun c a d v w h => by cases d <;> exact h) (fun w m => m.pick [1] rfl)) rfl rfl ?_
              refine o_mv (d_take (i := 2) rfl (by kernel_rfl) (by kernel_rfl) (by kernel_rfl) (fun c a d v w h => by cases d <;> exact h) (fun w m => m.pick [1] rfl)) rfl rfl ?_
              refine o_idx (d_take (i := 3) rfl (by kernel_rfl) (by kernel_rfl) (by kernel_rfl) (fun c a d v w h => by cases d <;> exact h) (fun w m => m.pick [1] rfl)) 0 rfl reads_ro rfl rfl rfl el41 ?_; intro e41 h42
              refine o_lds (d_take (i := 4) rfl (by kernel_rfl) (by kernel_rfl) (by kernel_rfl) (fun c a d v w h => by cases d <;> exact h) (fun w m => m.pick [1] rfl)) (enc := encInt) (u := (.int .i64 e41)) 0 rfl reads_ro flelInt rfl h42 rfl rfl ty3 rfl ?_
              refine d_two (i := 0) (j := 9) rfl rfl (by kernel_rfl) ?_ ?_
              · intro o ho; cases ho
                refine o_ldc m_op (v := (.agg #[(.int .i64 t11), (.int .i64 t12), (.int .i64 t13), (.int .i64 t14)])) 0 rfl rfl rfl ty25 rfl ?_
                refine d_and (fun w m => m.pick [1] rfl) ?_
                refine d_two (i := 5) (j := 9) rfl rfl (by kernel_rfl) ?_ ?_
                · intro o ho; cases ho
                  refine o_callP (vs := [(.agg #[(.int .i64 t11), (.int .i64 t12), (.int .i64 t13), (.int .i64 t14)]), (.int .i64 e41)]) Try.call24 rfl rfl (by intro w m h; exact w_spec_TakeToken (b_0 := (GBucket.mk t11 t12 t13 t14)) (now_1 := e41) h) ?_; rintro ⟨r43, r44⟩ _
                  refine d_and (fun w m => m.pick [1] rfl) ?_
                  refine o_mv (d_take (i := 6) rfl (by kernel_rfl) (by kernel_rfl) (by kernel_rfl) (fun c a d v w h => by cases d <;> exact h) (fun w m => m.pick [1] rfl)) rfl rfl ?_
                  refine o_ext (d_take (i := 7) rfl (by kernel_rfl) (by kernel_rfl) (by kernel_rfl) (fun c a d v w h => by cases d <;> exact h) (fun w m => m.pick [1] rfl)) (vs := [(.agg #[(.int .i64 r43.xSize), (.int .i64 r43.xEvery), (.int .i64 r43.xTokens), (.int .i64 r43.xLast)]), (.bool r44)]) rfl rfl rfl ?_
                  refine o_ext (d_take (i := 8) rfl (by kernel_rfl) (by kernel_rfl) (by kernel_rfl) (fun c a d v w h => by cases d <;> exact h) (fun w m => m.pick [1] rfl)) (vs := [(.agg #[(.int .i64 r43.xSize), (.int .i64 r43.xEvery), (.int .i64 r43.xTokens), (.int .i64 r43.xLast)]), (.bool r44)]) rfl rfl rfl ?_
                  refine d_one (i := 9) rfl (by kernel_rfl) (o_alloc rfl [(.int .i64 0), (.int .i64 0), (.int .i64 0), (.int .i64 0)] zero25 ?_); intro b45
                  refine d_and (fun w m => m.pick [2] rfl) ?_
                  refine d_one (i := 10) rfl (by kernel_rfl) (o_stc (cs' := [(.int .i64 r43.xSize), (.int .i64 r43.xEvery), (.int .i64 r43.xTokens), (.int .i64 r43.xLast)]) 0 rfl rfl rfl ty25 rfl rfl rfl rfl ?_)
                  refine d_and (fun w m => m.pick [2] rfl) ?_
                  refine o_as (d_take (i := 11) rfl (by kernel_rfl) (by kernel_rfl) (by kernel_rfl) (fun c a d v w h => by cases d <;> exact h) (fun w m => m.pick [2] rfl)) rfl rfl ?_
                  refine d_done (by kernel_rfl) ?_
                  refine l_then ?_
                  refine c_seq ?_
                  refine c_region ?_
                  refine o_ldc st (v := (.agg #[(.int .i64 r43.xSize), (.int .i64 r43.xEvery), (.int .i64 r43.xTokens), (.int .i64 r43.xLast)])) 0 rfl rfl rfl ty25 rfl ?_
                  refine stw (o_stc (cs' := [(.int .i64 r43.xSize), (.int .i64 r43.xEvery), (.int .i64 r43.xTokens), (.int .i64 r43.xLast)]) 1 rfl rfl rfl ty25 rfl rfl rfl rfl ?_)
                  refine c_nil ?_
                  refine l_then ?_
                  refine c_region ?_
                  refine o_mv st rfl rfl ?_
                  refine o_mv st rfl rfl ?_
                  refine stw (o_bsl (enc := encBool) (qs := [(0, (.bool r44))]) (cells := [(.bool r44)]) ([r44]) flelBool (by intro ρ h; simp only [List.map_toArray, List.map_cons, List.map_nil, h (.tmp 61) _ rfl]) rfl el44 zero4 rfl rfl rfl rfl rfl rfl ?_); intro v47
                  refine stw (o_app 4 0 rfl rfl reads_own (.inr flelBool.free) rfl rfl rfl el44 rfl zero4 rfl rfl ?_); intro v49
                  refine o_as st rfl rfl ?_
                  refine c_nil ?_
                  refine b_norm ?_
                  exact l_join (r43.xSize, r43.xEvery, r43.xTokens, r43.xLast, (xs16 ++ ([r44]))) (fun a w hE hm => ⟨v49, hE.sub ⟨rfl, rfl, rfl, rfl, trivial⟩, (hm.pick [2, 3, 4] rfl)⟩)
                · intro o ho; cases ho
                  refine o_alloc rfl [(.int .i64 0), (.int .i64 0), (.int .i64 0), (.int .i64 0)] zero25 ?_; intro b51
                  refine d_and (fun w m => m.pick [2] rfl) ?_
                  refine d_one (i := 5) rfl (by kernel_rfl) (o_callP (vs := [(.agg #[(.int .i64 t11), (.int .i64 t12), (.int .i64 t13), (.int .i64 t14)]), (.int .i64 e41)]) Try.call24 rfl rfl (by intro w m h; exact w_spec_TakeToken (b_0 := (GBucket.mk t11 t12 t13 t14)) (now_1 := e41) h) ?_); rintro ⟨r53, r54⟩ _
                  refine d_and (fun w m => m.pick [2] rfl) ?_
                  refine o_mv (d_take (i := 6) rfl (by kernel_rfl) (by kernel_rfl) (by kernel_rfl) (fun c a d v w h => by cases d <;> exact h) (fun w m => m.pick [2] rfl)) rfl rfl ?_
                  refine o_ext (d_take (i := 7) rfl (by kernel_rfl) (by kernel_rfl) (by kernel_rfl) (fun c a d v w h => by cases d <;> exact h) (fun w m => m.pick [2] rfl)) (vs := [(.agg #[(.int .i64 r53.xSize), (.int .i64 r53.xEvery), (.int .i64 r53.xTokens), (.int .i64 r53.xLast)]), (.bool r54)]) rfl rfl rfl ?_
                  refine o_ext (d_take (i := 8) rfl (by kernel_rfl) (by kernel_rfl) (by kernel_rfl) (fun c a d v w h => by cases d <;> exact h) (fun w m => m.pick [2] rfl)) (vs := [(.agg #[(.int .i64 r53.xSize), (.int .i64 r53.xEvery), (.int .i64 r53.xTokens), (.int .i64 r53.xLast)]), (.bool r54)]) rfl rfl rfl ?_
                  refine d_one (i := 10) rfl (by kernel_rfl) (o_stc (cs' := [(.int .i64 r53.xSize), (.int .i64 r53.xEvery), (.int .i64 r53.xTokens), (.int .i64 r53.xLast)]) 0 rfl rfl rfl ty25 rfl rfl rfl rfl ?_)
                  refine d_and (fun w m => m.pick [2] rfl) ?_
                  refine o_as (d_take (i := 11) rfl (by kernel_rfl) (by kernel_rfl) (by kernel_rfl) (fun c a d v w h => by cases d <;> exact h) (fun w m => m.pick [2] rfl)) rfl rfl ?_
                  refine d_done (by kernel_rfl) ?_
                  refine l_then ?_
                  refine c_seq ?_
                  refine c_region ?_
                  refine o_ldc st (v := (.agg #[(.int .i64 r53.xSize), (.int .i64 r53.xEvery), (.int .i64 r53.xTokens), (.int .i64 r53.xLast)])) 0 rfl rfl rfl ty25 rfl ?_
                  refine stw (o_stc (cs' := [(.int .i64 r53.xSize), (.int .i64 r53.xEvery), (.int .i64 r53.xTokens), (.int .i64 r53.xLast)]) 1 rfl rfl rfl ty25 rfl rfl rfl rfl ?_)
                  refine c_nil ?_
                  refine l_then ?_
                  refine c_region ?_
                  refine o_mv st rfl rfl ?_
                  refine o_mv st rfl rfl ?_
                  refine stw (o_bsl (enc := encBool) (qs := [(0, (.bool r54))]) (cells := [(.bool r54)]) ([r54]) flelBool (by intro ρ h; simp only [List.map_toArray, List.map_cons, List.map_nil, h (.tmp 61) _ rfl]) rfl el44 zero4 rfl rfl rfl rfl rfl rfl ?_); intro v55
                  refine stw (o_app 4 0 rfl rfl reads_own (.inr flelBool.free) rfl rfl rfl el44 rfl zero4 rfl rfl ?_); intro v57
                  refine o_as st rfl rfl ?_
                  refine c_nil ?_
                  refine b_norm ?_
                  exact l_join (r53.xSize, r53.xEvery, r53.xTokens, r53.xLast, (xs16 ++ ([r54]))) (fun a w hE hm => ⟨v57, hE.sub ⟨rfl, rfl, rfl, rfl, trivial⟩, (hm.pick [2, 3, 4] rfl)⟩)
              · intro o ho; cases ho
                refine o_alloc rfl [(.int .i64 0), (.int .i64 0), (.int .i64 0), (.int .i64 0)] zero25 ?_; intro b59
                refine d_and (fun w m => m.pick [2] rfl) ?_
                refine d_one (i := 0) rfl (by kernel_rfl) (o_ldc m_op (v := (.agg #[(.int .i64 t11), (.int .i64 t12), (.int .i64 t13), (.int .i64 t14)])) 1 rfl rfl rfl ty25 rfl ?_)
                refine d_and (fun w m => m.pick [2] rfl) ?_
                refine d_one (i := 5) rfl (by kernel_rfl) (o_callP (vs := [(.agg #[(.int .i64 t11), (.int .i64 t12), (.int .i64 t13), (.int .i64 t14)]), (.int .i64 e41)]) Try.call24 rfl rfl (by intro w m h; exact w_spec_TakeToken (b_0 := (GBucket.mk t11 t12 t13 t14)) (now_1 := e41) h) ?_); rintro ⟨r61, r62⟩ _
                refine d_and (fun w m => m.pick [2] rfl) ?_
                refine o_mv (d_take (i := 6) rfl (by kernel_rfl) (by kernel_rfl) (by kernel_rfl) (fun c a d v w h => by cases d <;> exact h) (fun w m => m.pick [2] rfl)) rfl rfl ?_
                refine o_ext (d_take (i := 7) rfl (by kernel_rfl) (by kernel_rfl) (by kernel_rfl) (fun c a d v w h => by cases d <;> exact h) (fun w m => m.pick [2] rfl)) (vs := [(.agg #[(.int .i64 r61.xSize), (.int .i64 r61.xEvery), (.int .i64 r61.xTokens), (.int .i64 r61.xLast)]), (.bool r62)]) rfl rfl rfl ?_
                refine o_ext (d_take (i := 8) rfl (by kernel_rfl) (by kernel_rfl) (by kernel_rfl) (fun c a d v w h => by cases d <;> exact h) (fun w m => m.pick [2] rfl)) (vs := [(.agg #[(.int .i64 r61.xSize), (.int .i64 r61.xEvery), (.int .i64 r61.xTokens), (.int .i64 r61.xLast)]), (.bool r62)]) rfl rfl rfl ?_
                refine d_one (i := 10) rfl (by kernel_rfl) (o_stc (cs' := [(.int .i64 r61.xSize), (.int .i64 r61.xEvery), (.int .i64 r61.xTokens), (.int .i64 r61.xLast)]) 0 rfl rfl rfl ty25 rfl rfl rfl rfl ?_)
                refine d_and (fun w m => m.pick [2] rfl) ?_
                refine o_as (d_take (i := 11) rfl (by kernel_rfl) (by kernel_rfl) (by kernel_rfl) (fun c a d v w h => by cases d <;> exact h) (fun w m => m.pick [2] rfl)) rfl rfl ?_
                refine d_done (by kernel_rfl) ?_
                refine l_then ?_
                refine c_seq ?_
                refine c_region ?_
                refine o_ldc st (v := (.agg #[(.int .i64 r61.xSize), (.int .i64 r61.xEvery), (.int .i64 r61.xTokens), (.int .i64 r61.xLast)])) 0 rfl rfl rfl ty25 rfl ?_
                refine stw (o_stc (cs' := [(.int .i64 r61.xSize), (.int .i64 r61.xEvery), (.int .i64 r61.xTokens), (.int .i64 r61.xLast)]) 1 rfl rfl rfl ty25 rfl rfl rfl rfl ?_)
                refine c_nil ?_
                refine l_then ?_
                refine c_region ?_
                refine o_mv st rfl rfl ?_
                refine o_mv st rfl rfl ?_
                refine stw (o_bsl (enc := encBool) (qs := [(0, (.bool r62))]) (cells := [(.bool r62)]) ([r62]) flelBool (by intro ρ h; simp only [List.map_toArray, List.map_cons, List.map_nil, h (.tmp 61) _ rfl]) rfl el44 zero4 rfl rfl rfl rfl rfl rfl ?_); intro v63
                refine stw (o_app 4 0 rfl rfl reads_own (.inr flelBool.free) rfl rfl rfl el44 rfl zero4 rfl rfl ?_); intro v65
                refine o_as st rfl rfl ?_
                refine c_nil ?_
                refine b_norm ?_
                exact l_join (r61.xSize, r61.xEvery, r61.xTokens, r61.xLast, (xs16 ++ ([r62]))) (fun a w hE hm => ⟨v65, hE.sub ⟨rfl, rfl, rfl, rfl, trivial⟩, (hm.pick [2, 3, 4] rfl)⟩)
        · rintro ⟨t21, t22, t23, t24, xs25⟩ a w ⟨v26, hE, hm⟩ h
          refine nx_of hE hm h ?_
          clear hE hm h
          refine c_region ?_
          refine o_mv st rfl rfl ?_
          refine o_add st rfl rfl rfl ?_; intro t67
          refine o_as st rfl rfl ?_
          refine c_nil ?_
          exact l_join (t21, t22, t23, t24, xs25, t67) (fun a w hE hm => ⟨v26, hE.sub ⟨rfl, rfl, rfl, rfl, trivial⟩, (hm.pick [0, 1, 2] rfl)⟩)
      · refine c_exit ?_
        refine l_exit ?_
        refine l_exit ?_
        refine b_exit ?_
        refine l_then ?_
        refine c_seq ?_
        refine c_region ?_
        refine o_mv st rfl rfl ?_
        refine o_as st rfl rfl ?_
        refine c_nil ?_
        refine l_then ?_
        refine c_ret ?_
        exact l_end1 Try.results31 xs16 v17 (rv_t rfl) (fun w m => NewCh.of m [2] rfl (fr_cons (free_own flelBool) fr_nil))

set_option maxRecDepth 100000 in
theorem w_laws_toIntS {w0 : World} {F : Nat → Prop} {v1 : Value} {a_0 : (List Int)} {κ : (List Int) → Prop} (hv1 : Sl elInt (fun b => b < w0.heap.size ∧ ¬ feet [] b) w0 v1 a_0) (h : L_laws_toIntS a_0 κ) :
    Calls Try.prog 32 #[v1] w0 (Ret [] F w0 κ (fun (r : (List Int)) (u : Value) => u) (fun (r : (List Int)) (u : Value) => [ownCh elInt 3 u (r)])) := by
  refine enter (args := [v1]) [] Try.func32 rfl Try.ntmps32 rfl [roCh elInt v1 a_0] (hf_cons hf_nil) (hh_cons hv1 hh_nil) (Given.nil w0).lt (Given.nil w0).disj (Given.nil w0).hold h ?_
  clear h hv1
  refine c_seq ?_
  refine c_region ?_
  refine stw (o_asn elInt 3 rfl rfl ?_)
  refine c_nil ?_
  refine l_then ?_
  refine c_seq ?_
  refine c_region ?_
  refine o_mv st rfl rfl ?_
  refine o_len st el41 1 rfl reads_ro rfl rfl ?_
  refine stw (o_make (z := 0) flelInt rfl rfl rfl el41 rfl zero3 rfl rfl ?_); intro v4 xs5
  refine o_as st rfl rfl ?_
  refine c_nil ?_
  refine l_then ?_
  refine c_seq ?_
  refine c_seq ?_
  refine c_region ?_
  refine o_as st rfl rfl ?_
  refine c_nil ?_
  refine l_then ?_
  refine c_block ?_
  refine c_loop (σ := ((List Int) × Int)) (fun ((xs7, t9) : ((List Int) × Int)) (a : Act) (w : World) => Has 22 [(0, v1), (3, v4), (4, (.int .i64 t9))] a ∧ Mem (fun _ => True) (feet []) w0 [ownCh elInt 3 v4 xs7, roCh elInt v1 a_0] w) (fun a w hE hm => ⟨hE.sub ⟨rfl, rfl, rfl, trivial⟩, (hm.pick [0, 2] rfl)⟩) ?_
  rintro nx10 ⟨xs7, t9⟩ a w ⟨hE, hm⟩ h
  refine nx_of hE hm h ?_
  clear hE hm h
  refine c_seq ?_
  refine c_seq ?_
  refine c_region ?_
  refine o_mv st rfl rfl ?_
  refine o_mv st rfl rfl ?_
  refine o_len st el41 1 rfl reads_ro rfl rfl ?_
  refine o_lss st rfl rfl rfl ?_
  refine c_nil ?_
  refine l_then ?_
  refine c_cond rfl ?_ ?_
  · refine c_skip ?_
    refine l_then ?_
    refine c_seq ?_
    refine c_block ?_
    refine c_region ?_
    refine o_mv st rfl rfl ?_
    refine o_mv st rfl rfl ?_
    refine o_mv st rfl rfl ?_
    refine o_mv st rfl rfl ?_
    refine o_idx st 1 rfl reads_ro rfl rfl rfl el41 ?_; intro e11 h12
    refine o_lds st (enc := encInt) (u := (.int .i64 e11)) 1 rfl reads_ro flelInt rfl h12 rfl rfl ty3 rfl ?_
    refine o_idx st 0 rfl reads_own rfl rfl rfl el41 ?_; intro e13 h14
    refine stw (o_sts (enc := encInt) (y' := e11) 0 rfl flelInt rfl h14 ty3 rfl rfl rfl rfl rfl rfl ?_)
    refine c_nil ?_
    refine b_norm ?_
    refine l_then ?_
    refine c_region ?_
    refine o_mv st rfl rfl ?_
    refine o_add st rfl rfl rfl ?_; intro t16
    refine o_as st rfl rfl ?_
    refine c_nil ?_
    exact l_join ((xs7.set t9.toNat e11), t16) (fun a w hE hm => ⟨hE.sub ⟨rfl, rfl, rfl, trivial⟩, (hm.pick [0, 1] rfl)⟩)
  · refine c_exit ?_
    refine l_exit ?_
    refine l_exit ?_
    refine b_exit ?_
    refine l_then ?_
    refine c_seq ?_
    refine c_region ?_
    refine o_mv st rfl rfl ?_
    refine o_as st rfl rfl ?_
    refine c_nil ?_
    refine l_then ?_
    refine c_ret ?_
    exact l_end1 Try.results32 xs7 v4 (rv_t rfl) (fun w m => NewCh.of m [0] rfl (fr_cons (free_own flelInt) fr_nil))

set_option maxRecDepth 100000 in
theorem w_laws_eqBoolS {w0 : World} {F : Nat → Prop} {v1 v3 : Value} {a_0 : (List Bool)} {b_1 : (List Bool)} {κ : Bool → Prop} (hv1 : Sl elBool (fun b => b < w0.heap.size ∧ ¬ feet [] b) w0 v1 a_0) (hv3 : Sl elBool (fun b => b < w0.heap.size ∧ ¬ feet [] b) w0 v3 b_1) (h : L_laws_eqBoolS a_0 b_1 κ) :
    Calls Try.prog 33 #[v1, v3] w0 (Ret [] F w0 κ (fun (r : Bool) (u : Unit) => (.bool r)) (fun (r : Bool) (u : Unit) => [])) := by
  refine enter (args := [v1, v3]) [] Try.func33 rfl Try.ntmps33 rfl [roCh elBool v1 a_0, roCh elBool v3 b_1] (hf_cons (hf_cons hf_nil)) (hh_cons hv1 (hh_cons hv3 hh_nil)) (Given.nil w0).lt (Given.nil w0).disj (Given.nil w0).hold h ?_
  clear h hv1 hv3
  refine c_seq ?_
  refine c_region ?_
  refine o_as st rfl rfl ?_
  refine c_nil ?_
  refine l_then ?_
  refine c_seq ?_
  refine c_seq ?_
  refine c_region ?_
  refine o_mv st rfl rfl ?_
  refine o_len st el44 0 rfl reads_ro rfl rfl ?_
  refine o_mv st rfl rfl ?_
  refine o_len st el44 1 rfl reads_ro rfl rfl ?_
  refine o_neq st und3 rfl rfl rfl ?_
  refine c_nil ?_
  refine l_then ?_
  refine c_cond rfl ?_ ?_
  · refine c_seq ?_
    refine c_region ?_
    refine o_as st rfl rfl ?_
    refine c_nil ?_
    refine l_then ?_
    refine c_ret ?_
    refine l_ret ?_
    exact l_end1 Try.results33 false () (rv_t rfl) (fun _ _ => NewCh.nil _ _ _ _)
  · refine c_skip ?_
    refine l_then ?_
    refine c_seq ?_
    refine c_seq ?_
    refine c_region ?_
    refine o_as st rfl rfl ?_
    refine c_nil ?_
    refine l_then ?_
    refine c_block ?_
    refine c_loop (σ := Int) (fun (t5 : Int) (a : Act) (w : World) => Has 26 [(0, v1), (1, v3), (5, (.int .i64 t5))] a ∧ Mem (fun _ => True) (feet []) w0 [roCh elBool v1 a_0, roCh elBool v3 b_1] w) (fun a w hE hm => ⟨hE.sub ⟨rfl, rfl, rfl, trivial⟩, (hm.pick [0, 1] rfl)⟩) ?_
    rintro nx6 t5 a w ⟨hE, hm⟩ h
    refine nx_of hE hm h ?_
    clear hE hm h
    refine c_seq ?_
    refine c_seq ?_
    refine c_region ?_
    refine o_mv st rfl rfl ?_
    refine o_mv st rfl rfl ?_
    refine o_len st el44 0 rfl reads_ro rfl rfl ?_
    refine o_lss st rfl rfl rfl ?_
    refine c_nil ?_
    refine l_then ?_
    refine c_cond rfl ?_ ?_
    · refine c_skip ?_
      refine l_then ?_
      refine c_seq ?_
      refine c_block ?_
      refine c_seq ?_
      refine c_draw mixed 9 rfl [roCh elBool v1 a_0, roCh elBool v3 b_1] ?_
      refine o_mv (d_take (i := 0) rfl (by kernel_rfl) (by kernel_rfl) (by kernel_rfl) (fun c a d v w h => by cases d <;> exact h) (fun w m => m.pick [0, 1] rfl)) rfl rfl ?_
      refine o_mv (d_take (i := 1) rfl (by kernel_rfl) (by kernel_rfl) (by kernel_rfl) (fun c a d v w h => by cases d <;> exact h) (fun w m => m.pick [0, 1] rfl)) rfl rfl ?_
      refine o_idx (d_take (i := 2) rfl (by kernel_rfl) (by kernel_rfl) (by kernel_rfl) (fun c a d v w h => by cases d <;> exact h) (fun w m => m.pick [0, 1] rfl)) 0 rfl reads_ro rfl rfl rfl el44 ?_; intro e7 h8
      refine o_lds (d_take (i := 3) rfl (by kernel_rfl) (by kernel_rfl) (by kernel_rfl) (fun c a d v w h => by cases d <;> exact h) (fun w m => m.pick [0, 1] rfl)) (enc := encBool) (u := (.bool e7)) 0 rfl reads_ro flelBool rfl h8 rfl rfl ty4 rfl ?_
      refine o_mv (d_take (i := 4) rfl (by kernel_rfl) (by kernel_rfl) (by kernel_rfl) (fun c a d v w h => by cases d <;> exact h) (fun w m => m.pick [0, 1] rfl)) rfl rfl ?_
      refine o_mv (d_take (i := 5) rfl (by kernel_rfl) (by kernel_rfl) (by kernel_rfl) (fun c a d v w h => by cases d <;> exact h) (fun w m => m.pick [0, 1] rfl)) rfl rfl ?_
      refine o_idx (d_take (i := 6) rfl (by kernel_rfl) (by kernel_rfl) (by kernel_rfl) (fun c a d v w h => by cases d <;> exact h) (fun w m => m.pick [0, 1] rfl)) 1 rfl reads_ro rfl rfl rfl el44 ?_; intro e9 h10
      refine o_lds (d_take (i := 7) rfl (by kernel_rfl) (by kernel_rfl) (by kernel_rfl) (fun c a d v w h => by cases d <;> exact h) (fun w m => m.pick [0, 1] rfl)) (enc := encBool) (u := (.bool e9)) 1 rfl reads_ro flelBool rfl h10 rfl rfl ty4 rfl ?_
      refine o_neqB (d_take (i := 8) rfl (by kernel_rfl) (by kernel_rfl) (by kernel_rfl) (fun c a d v w h => by cases d <;> exact h) (fun w m => m.pick [0, 1] rfl)) und4 rfl rfl rfl ?_
      refine d_done (by kernel_rfl) ?_
      refine l_then ?_
      refine c_cond rfl ?_ ?_
      · refine c_seq ?_
        refine c_region ?_
        refine o_as st rfl rfl ?_
        refine c_nil ?_
        refine l_then ?_
        refine c_ret ?_
        refine b_ret ?_
        refine l_ret ?_
        refine l_ret ?_
        refine b_ret ?_
        refine l_ret ?_
        exact l_end1 Try.results33 false () (rv_t rfl) (fun _ _ => NewCh.nil _ _ _ _)
      · refine c_skip ?_
        refine b_norm ?_
        refine l_then ?_
        refine c_region ?_
        refine o_mv st rfl rfl ?_
        refine o_add st rfl rfl rfl ?_; intro t11
        refine o_as st rfl rfl ?_
        refine c_nil ?_
        exact l_join t11 (fun a w hE hm => ⟨hE.sub ⟨rfl, rfl, rfl, trivial⟩, (hm.pick [0, 1] rfl)⟩)
    · refine c_exit ?_
      refine l_exit ?_
      refine l_exit ?_
      refine b_exit ?_
      refine l_then ?_
      refine c_seq ?_
      refine c_region ?_
      refine o_as st rfl rfl ?_
      refine c_nil ?_
      refine l_then ?_
      refine c_ret ?_
      exact l_end1 Try.results33 true () (rv_t rfl) (fun _ _ => NewCh.nil _ _ _ _)

set_option maxRecDepth 100000 in
theorem w_laws_eqIntS {w0 : World} {F : Nat → Prop} {v1 v3 : Value} {a_0 : (List Int)} {b_1 : (List Int)} {κ : Bool → Prop} (hv1 : Sl elInt (fun b => b < w0.heap.size ∧ ¬ feet [] b) w0 v1 a_0) (hv3 : Sl elInt (fun b => b < w0.heap.size ∧ ¬ feet [] b) w0 v3 b_1) (h : L_laws_eqIntS a_0 b_1 κ) :
    Calls Try.prog 34 #[v1, v3] w0 (Ret [] F w0 κ (fun (r : Bool) (u : Unit) => (.bool r)) (fun (r : Bool) (u : Unit) => [])) := by
  refine enter (args := [v1, v3]) [] Try.func34 rfl Try.ntmps34 rfl [roCh elInt v1 a_0, roCh elInt v3 b_1] (hf_cons (hf_cons hf_nil)) (hh_cons hv1 (hh_cons hv3 hh_nil)) (Given.nil w0).lt (Given.nil w0).disj (Given.nil w0).hold h ?_
  clear h hv1 hv3
  refine c_seq ?_
  refine c_region ?_
  refine o_as st rfl rfl ?_
  refine c_nil ?_
  refine l_then ?_
  refine c_seq ?_
  refine c_seq ?_
  refine c_region ?_
  refine o_mv st rfl rfl ?_
  refine o_len st el41 0 rfl reads_ro rfl rfl ?_
  refine o_mv st rfl rfl ?_
  refine o_len st el41 1 rfl reads_ro rfl rfl ?_
  refine o_neq st und3 rfl rfl rfl ?_
  refine c_nil ?_
  refine l_then ?_
  refine c_cond rfl ?_ ?_
  · refine c_seq ?_
    refine c_region ?_
    refine o_as st rfl rfl ?_
    refine c_nil ?_
    refine l_then ?_
    refine c_ret ?_
    refine l_ret ?_
    exact l_end1 Try.results34 false () (rv_t rfl) (fun _ _ => NewCh.nil _ _ _ _)
  · refine c_skip ?_
    refine l_then ?_
    refine c_seq ?_
    refine c_seq ?_
    refine c_region ?_
    refine o_as st rfl rfl ?_
    refine c_nil ?_
    refine l_then ?_
    refine c_block ?_
    refine c_loop (σ := Int) (fun (t5 : Int) (a : Act) (w : World) => Has 26 [(0, v1), (1, v3), (5, (.int .i64 t5))] a ∧ Mem (fun _ => True) (feet []) w0 [roCh elInt v1 a_0, roCh elInt v3 b_1] w) (fun a w hE hm => ⟨hE.sub ⟨rfl, rfl, rfl, trivial⟩, (hm.pick [0, 1] rfl)⟩) ?_
    rintro nx6 t5 a w ⟨hE, hm⟩ h
    refine nx_of hE hm h ?_
    clear hE hm h
    refine c_seq ?_
    refine c_seq ?_
    refine c_region ?_
    refine o_mv st rfl rfl ?_
    refine o_mv st rfl rfl ?_
    refine o_len st el41 0 rfl reads_ro rfl rfl ?_
    refine o_lss st rfl rfl rfl ?_
    refine c_nil ?_
    refine l_then ?_
    refine c_cond rfl ?_ ?_
    · refine c_skip ?_
      refine l_then ?_
      refine c_seq ?_
      refine c_block ?_
      refine c_seq ?_
      refine c_draw mixed 9 rfl [roCh elInt v1 a_0, roCh elInt v3 b_1] ?_
      refine o_mv (d_take (i := 0) rfl (by kernel_rfl) (by kernel_rfl) (by kernel_rfl) (fun c a d v w h => by cases d <;> exact h) (fun w m => m.pick [0, 1] rfl)) rfl rfl ?_
      refine o_mv (d_take (i := 1) rfl (by kernel_rfl) (by kernel_rfl) (by kernel_rfl) (fun c a d v w h => by cases d <;> exact h) (fun w m => m.pick [0, 1] rfl)) rfl rfl ?_
      refine o_idx (d_take (i := 2) rfl (by kernel_rfl) (by kernel_rfl) (by kernel_rfl) (fun c a d v w h => by cases d <;> exact h) (fun w m => m.pick [0, 1] rfl)) 0 rfl reads_ro rfl rfl rfl el41 ?_; intro e7 h8
      refine o_lds (d_take (i := 3) rfl (by kernel_rfl) (by kernel_rfl) (by kernel_rfl) (fun c a d v w h => by cases d <;> exact h) (fun w m => m.pick [0, 1] rfl)) (enc := encInt) (u := (.int .i64 e7)) 0 rfl reads_ro flelInt rfl h8 rfl rfl ty3 rfl ?_
      refine o_mv (d_take (i := 4) rfl (by kernel_rfl) (by kernel_rfl) (by kernel_rfl) (fun c a d v w h => by cases d <;> exact h) (fun w m => m.pick [0, 1] rfl)) rfl rfl ?_
      refine o_mv (d_take (i := 5) rfl (by kernel_rfl) (by kernel_rfl) (by kernel_rfl) (fun c a d v w h => by cases d <;> exact h) (fun w m => m.pick [0, 1] rfl)) rfl rfl ?_
      refine o_idx (d_take (i := 6) rfl (by kernel_rfl) (by kernel_rfl) (by kernel_rfl) (fun c a d v w h => by cases d <;> exact h) (fun w m => m.pick [0, 1] rfl)) 1 rfl reads_ro rfl rfl rfl el41 ?_; intro e9 h10
      refine o_lds (d_take (i := 7) rfl (by kernel_rfl) (by kernel_rfl) (by kernel_rfl) (fun c a d v w h => by cases d <;> exact h) (fun w m => m.pick [0, 1] rfl)) (enc := encInt) (u := (.int .i64 e9)) 1 rfl reads_ro flelInt rfl h10 rfl rfl ty3 rfl ?_
      refine o_neq (d_take (i := 8) rfl (by kernel_rfl) (by kernel_rfl) (by kernel_rfl) (fun c a d v w h => by cases d <;> exact h) (fun w m => m.pick [0, 1] rfl)) und3 rfl rfl rfl ?_
      refine d_done (by kernel_rfl) ?_
      refine l_then ?_
      refine c_cond rfl ?_ ?_
      · refine c_seq ?_
        refine c_region ?_
        refine o_as st rfl rfl ?_
        refine c_nil ?_
        refine l_then ?_
        refine c_ret ?_
        refine b_ret ?_
        refine l_ret ?_
        refine l_ret ?_
        refine b_ret ?_
        refine l_ret ?_
        exact l_end1 Try.results34 false () (rv_t rfl) (fun _ _ => NewCh.nil _ _ _ _)
      · refine c_skip ?_
        refine b_norm ?_
        refine l_then ?_
        refine c_region ?_
        refine o_mv st rfl rfl ?_
        refine o_add st rfl rfl rfl ?_; intro t11
        refine o_as st rfl rfl ?_
        refine c_nil ?_
        exact l_join t11 (fun a w hE hm => ⟨hE.sub ⟨rfl, rfl, rfl, trivial⟩, (hm.pick [0, 1] rfl)⟩)
    · refine c_exit ?_
      refine l_exit ?_
      refine l_exit ?_
      refine b_exit ?_
      refine l_then ?_
      refine c_seq ?_
      refine c_region ?_
      refine o_as st rfl rfl ?_
      refine c_nil ?_
      refine l_then ?_
      refine c_ret ?_
      exact l_end1 Try.results34 true () (rv_t rfl) (fun _ _ => NewCh.nil _ _ _ _)

set_option maxRecDepth 100000 in
theorem w_laws_markIntS {w0 : World} {F : Nat → Prop} {v1 : Value} {a_0 : (List Int)} {k_1 : Int} {κ : (Int × (List Int)) → Prop} (hg : Given [ownCh elInt 3 v1 a_0] w0) (h : L_laws_markIntS a_0 k_1 κ) :
    Calls Try.prog 35 #[v1, (.int .i64 k_1)] w0 (Ret [ownCh elInt 3 v1 a_0] F w0 κ (fun (r : (Int × (List Int))) (u : Unit) => (.int .i64 r.1)) (fun (r : (Int × (List Int))) (u : Unit) => [ownCh elInt 3 v1 (r.2)])) := by
  refine enter (args := [v1, (.int .i64 k_1)]) [ownCh elInt 3 v1 a_0] Try.func35 rfl Try.ntmps35 rfl [] hf_nil hh_nil hg.lt hg.disj hg.hold h ?_
  clear h hg
  refine c_seq ?_
  refine c_region ?_
  refine o_as st rfl rfl ?_
  refine c_nil ?_
  refine l_then ?_
  refine c_seq ?_
  refine c_seq ?_
  refine c_region ?_
  refine o_as st rfl rfl ?_
  refine c_nil ?_
  refine l_then ?_
  refine c_block ?_
  refine c_loop (σ := ((List Int) × Int × Int)) (fun ((xs3, t5, t6) : ((List Int) × Int × Int)) (a : Act) (w : World) => Has 19 [(0, v1), (1, (.int .i64 t5)), (5, (.int .i64 t6))] a ∧ Mem (fun _ => True) (feet [ownCh elInt 3 v1 a_0]) w0 [ownCh elInt 3 v1 xs3] w) (fun a w hE hm => ⟨hE.sub ⟨rfl, rfl, rfl, trivial⟩, (hm.pick [0] rfl)⟩) ?_
  rintro nx7 ⟨xs3, t5, t6⟩ a w ⟨hE, hm⟩ h
  refine nx_of hE hm h ?_
  clear hE hm h
  refine c_seq ?_
  refine c_seq ?_
  refine c_region ?_
  refine o_mv st rfl rfl ?_
  refine o_mv st rfl rfl ?_
  refine o_len st el41 0 rfl reads_own rfl rfl ?_
  refine o_lss st rfl rfl rfl ?_
  refine c_nil ?_
  refine l_then ?_
  refine c_cond rfl ?_ ?_
  · refine c_skip ?_
    refine l_then ?_
    refine c_seq ?_
    refine c_block ?_
    refine c_seq ?_
    refine c_region ?_
    refine o_mv st rfl rfl ?_
    refine o_mv st rfl rfl ?_
    refine o_mv st rfl rfl ?_
    refine o_idx st 0 rfl reads_own rfl rfl rfl el41 ?_; intro e8 h9
    refine stw (o_sts (enc := encInt) (y' := t5) 0 rfl flelInt rfl h9 ty3 rfl rfl rfl rfl rfl rfl ?_)
    refine c_nil ?_
    refine l_then ?_
    refine c_region ?_
    refine o_mv st rfl rfl ?_
    refine o_add st rfl rfl rfl ?_; intro t11
    refine o_as st rfl rfl ?_
    refine c_nil ?_
    refine b_norm ?_
    refine l_then ?_
    refine c_region ?_
    refine o_mv st rfl rfl ?_
    refine o_add st rfl rfl rfl ?_; intro t12
    refine o_as st rfl rfl ?_
    refine c_nil ?_
    exact l_join ((xs3.set t6.toNat t5), t11, t12) (fun a w hE hm => ⟨hE.sub ⟨rfl, rfl, rfl, trivial⟩, (hm.pick [0] rfl)⟩)
  · refine c_exit ?_
    refine l_exit ?_
    refine l_exit ?_
    refine b_exit ?_
    refine l_then ?_
    refine c_seq ?_
    refine c_region ?_
    refine o_mv st rfl rfl ?_
    refine o_as st rfl rfl ?_
    refine c_nil ?_
    refine l_then ?_
    refine c_ret ?_
    exact l_end1 Try.results35 (t5, xs3) () (rv_t rfl) (fun w m => NewCh.of m [0] rfl (fr_cons (free_own flelInt) fr_nil))

set_option maxRecDepth 100000 in
theorem w_laws_markBoolS {w0 : World} {F : Nat → Prop} {v1 : Value} {a_0 : (List Bool)} {k_1 : Int} {κ : (Int × (List Bool)) → Prop} (hg : Given [ownCh elBool 4 v1 a_0] w0) (h : L_laws_markBoolS a_0 k_1 κ) :
    Calls Try.prog 36 #[v1, (.int .i64 k_1)] w0 (Ret [ownCh elBool 4 v1 a_0] F w0 κ (fun (r : (Int × (List Bool))) (u : Unit) => (.int .i64 r.1)) (fun (r : (Int × (List Bool))) (u : Unit) => [ownCh elBool 4 v1 (r.2)])) := by
  refine enter (args := [v1, (.int .i64 k_1)]) [ownCh elBool 4 v1 a_0] Try.func36 rfl Try.ntmps36 rfl [] hf_nil hh_nil hg.lt hg.disj hg.hold h ?_
  clear h hg
  refine c_seq ?_
  refine c_region ?_
  refine o_as st rfl rfl ?_
  refine c_nil ?_
  refine l_then ?_
  refine c_seq ?_
  refine c_seq ?_
  refine c_region ?_
  refine o_as st rfl rfl ?_
  refine c_nil ?_
  refine l_then ?_
  refine c_block ?_
  refine c_loop (σ := ((List Bool) × Int × Int)) (fun ((xs3, t5, t6) : ((List Bool) × Int × Int)) (a : Act) (w : World) => Has 21 [(0, v1), (1, (.int .i64 t5)), (5, (.int .i64 t6))] a ∧ Mem (fun _ => True) (feet [ownCh elBool 4 v1 a_0]) w0 [ownCh elBool 4 v1 xs3] w) (fun a w hE hm => ⟨hE.sub ⟨rfl, rfl, rfl, trivial⟩, (hm.pick [0] rfl)⟩) ?_
  rintro nx7 ⟨xs3, t5, t6⟩ a w ⟨hE, hm⟩ h
  refine nx_of hE hm h ?_
  clear hE hm h
  refine c_seq ?_
  refine c_seq ?_
  refine c_region ?_
  refine o_mv st rfl rfl ?_
  refine o_mv st rfl rfl ?_
  refine o_len st el44 0 rfl reads_own rfl rfl ?_
  refine o_lss st rfl rfl rfl ?_
  refine c_nil ?_
  refine l_then ?_
  refine c_cond rfl ?_ ?_
  · refine c_skip ?_
    refine l_then ?_
    refine c_seq ?_
    refine c_block ?_
    refine c_seq ?_
    refine c_region ?_
    refine o_mv st rfl rfl ?_
    refine o_mv st rfl rfl ?_
    refine o_mv st rfl rfl ?_
    refine o_rem st rfl rfl rfl ?_; intro t8
    refine o_eql st und3 rfl rfl rfl ?_
    refine o_idx st 0 rfl reads_own rfl rfl rfl el44 ?_; intro e9 h10
    refine stw (o_sts (enc := encBool) (y' := (decide (t8 = 0))) 0 rfl flelBool rfl h10 ty4 rfl rfl rfl rfl rfl rfl ?_)
    refine c_nil ?_
    refine l_then ?_
    refine c_region ?_
    refine o_mv st rfl rfl ?_
    refine o_add st rfl rfl rfl ?_; intro t12
    refine o_as st rfl rfl ?_
    refine c_nil ?_
    refine b_norm ?_
    refine l_then ?_
    refine c_region ?_
    refine o_mv st rfl rfl ?_
    refine o_add st rfl rfl rfl ?_; intro t13
    refine o_as st rfl rfl ?_
    refine c_nil ?_
    exact l_join ((xs3.set t6.toNat (decide (t8 = 0))), t12, t13) (fun a w hE hm => ⟨hE.sub ⟨rfl, rfl, rfl, trivial⟩, (hm.pick [0] rfl)⟩)
  · refine c_exit ?_
    refine l_exit ?_
    refine l_exit ?_
    refine b_exit ?_
    refine l_then ?_
    refine c_seq ?_
    refine c_region ?_
    refine o_mv st rfl rfl ?_
    refine o_as st rfl rfl ?_
    refine c_nil ?_
    refine l_then ?_
    refine c_ret ?_
    exact l_end1 Try.results36 (t5, xs3) () (rv_t rfl) (fun w m => NewCh.of m [0] rfl (fr_cons (free_own flelBool) fr_nil))

set_option maxRecDepth 100000 in
theorem w_laws_heldBoolS {w0 : World} {F : Nat → Prop} {v1 : Value} {a_0 : (List Bool)} {k_1 : Int} {κ : Int → Prop} (hv1 : Sl elBool (fun b => b < w0.heap.size ∧ ¬ feet [] b) w0 v1 a_0) (h : L_laws_heldBoolS a_0 k_1 κ) :
    Calls Try.prog 37 #[v1, (.int .i64 k_1)] w0 (Ret [] F w0 κ (fun (r : Int) (u : Unit) => (.int .i64 r)) (fun (r : Int) (u : Unit) => [])) := by
  refine enter (args := [v1, (.int .i64 k_1)]) [] Try.func37 rfl Try.ntmps37 rfl [roCh elBool v1 a_0] (hf_cons hf_nil) (hh_cons hv1 hh_nil) (Given.nil w0).lt (Given.nil w0).disj (Given.nil w0).hold h ?_
  clear h hv1
  refine c_seq ?_
  refine c_region ?_
  refine o_as st rfl rfl ?_
  refine c_nil ?_
  refine l_then ?_
  refine c_seq ?_
  refine c_seq ?_
  refine c_region ?_
  refine o_as st rfl rfl ?_
  refine c_nil ?_
  refine l_then ?_
  refine c_block ?_
  refine c_loop (σ := (Int × Int)) (fun ((t3, t4) : (Int × Int)) (a : Act) (w : World) => Has 23 [(0, v1), (1, (.int .i64 t3)), (5, (.int .i64 t4))] a ∧ Mem (fun _ => True) (feet []) w0 [roCh elBool v1 a_0] w) (fun a w hE hm => ⟨hE.sub ⟨rfl, rfl, rfl, trivial⟩, (hm.pick [0] rfl)⟩) ?_
  rintro nx5 ⟨t3, t4⟩ a w ⟨hE, hm⟩ h
  refine nx_of hE hm h ?_
  clear hE hm h
  refine c_seq ?_
  refine c_seq ?_
  refine c_region ?_
  refine o_mv st rfl rfl ?_
  refine o_mv st rfl rfl ?_
  refine o_len st el44 0 rfl reads_ro rfl rfl ?_
  refine o_lss st rfl rfl rfl ?_
  refine c_nil ?_
  refine l_then ?_
  refine c_cond rfl ?_ ?_
  · refine c_skip ?_
    refine l_then ?_
    refine c_seq ?_
    refine c_block ?_
    refine c_seq ?_
    refine c_seq ?_
    refine c_region ?_
    refine o_mv st rfl rfl ?_
    refine o_mv st rfl rfl ?_
    refine o_idx st 0 rfl reads_ro rfl rfl rfl el44 ?_; intro e6 h7
    refine o_lds st (enc := encBool) (u := (.bool e6)) 0 rfl reads_ro flelBool rfl h7 rfl rfl ty4 rfl ?_
    refine o_mv st rfl rfl ?_
    refine o_rem st rfl rfl rfl ?_; intro t8
    refine o_eql st und3 rfl rfl rfl ?_
    refine o_neqB st und4 rfl rfl rfl ?_
    refine c_nil ?_
    refine l_then ?_
    refine c_cond rfl ?_ ?_
    · refine c_seq ?_
      refine c_region ?_
      refine o_as st rfl rfl ?_
      refine c_nil ?_
      refine l_then ?_
      refine c_ret ?_
      refine l_ret ?_
      refine b_ret ?_
      refine l_ret ?_
      refine l_ret ?_
      refine b_ret ?_
      refine l_ret ?_
      exact l_end1 Try.results37 (-1) () (rv_t rfl) (fun _ _ => NewCh.nil _ _ _ _)
    · refine c_skip ?_
      refine l_then ?_
      refine c_region ?_
      refine o_mv st rfl rfl ?_
      refine o_add st rfl rfl rfl ?_; intro t9
      refine o_as st rfl rfl ?_
      refine c_nil ?_
      refine b_norm ?_
      refine l_then ?_
      refine c_region ?_
      refine o_mv st rfl rfl ?_
      refine o_add st rfl rfl rfl ?_; intro t10
      refine o_as st rfl rfl ?_
      refine c_nil ?_
      exact l_join (t9, t10) (fun a w hE hm => ⟨hE.sub ⟨rfl, rfl, rfl, trivial⟩, (hm.pick [0] rfl)⟩)
  · refine c_exit ?_
    refine l_exit ?_
    refine l_exit ?_
    refine b_exit ?_
    refine l_then ?_
    refine c_seq ?_
    refine c_region ?_
    refine o_mv st rfl rfl ?_
    refine o_as st rfl rfl ?_
    refine c_nil ?_
    refine l_then ?_
    refine c_ret ?_
    exact l_end1 Try.results37 t3 () (rv_t rfl) (fun _ _ => NewCh.nil _ _ _ _)

set_option maxRecDepth 100000 in
theorem w_laws_FnExactTakeMany {w0 : World} {F : Nat → Prop} {v1 : Value} {aB_0 : GBucket} {aTimes_1 : (List Int)} {κ : Bool → Prop} (hv1 : Sl elInt (fun b => b < w0.heap.size ∧ ¬ feet [] b) w0 v1 aTimes_1) (h : L_laws_FnExactTakeMany aB_0 aTimes_1 κ) :
    Calls Try.prog 12 #[(.agg #[(.int .i64 aB_0.xSize), (.int .i64 aB_0.xEvery), (.int .i64 aB_0.xTokens), (.int .i64 aB_0.xLast)]), v1] w0 (Ret [] F w0 κ (fun (r : Bool) (u : Unit) => (.bool r)) (fun (r : Bool) (u : Unit) => [])) := by
  refine enter (args := [(.agg #[(.int .i64 aB_0.xSize), (.int .i64 aB_0.xEvery), (.int .i64 aB_0.xTokens), (.int .i64 aB_0.xLast)]), v1]) [] Try.func12 rfl Try.ntmps12 rfl [roCh elInt v1 aTimes_1] (hf_cons hf_nil) (hh_cons hv1 hh_nil) (Given.nil w0).lt (Given.nil w0).disj (Given.nil w0).hold h ?_
  clear h hv1
  refine c_seq ?_
  refine c_region ?_
  refine stw (o_box rfl rfl [(.int .i64 aB_0.xSize), (.int .i64 aB_0.xEvery), (.int .i64 aB_0.xTokens), (.int .i64 aB_0.xLast)] rfl ?_); intro b3
  refine o_as st rfl rfl ?_
  refine c_nil ?_
  refine l_then ?_
  refine c_seq ?_
  refine c_seq ?_
  refine c_region ?_
  refine o_mv st rfl rfl ?_
  refine o_len st el41 1 rfl reads_ro rfl rfl ?_
  refine o_gtr st rfl rfl rfl ?_
  refine c_nil ?_
  refine l_then ?_
  refine c_cond rfl ?_ ?_
  · refine c_seq ?_
    refine c_region ?_
    refine o_as st rfl rfl ?_
    refine c_nil ?_
    refine l_then ?_
    refine c_ret ?_
    refine l_ret ?_
    exact l_end1 Try.results12 true () (rv_t rfl) (fun _ _ => NewCh.nil _ _ _ _)
  · refine c_skip ?_
    refine l_then ?_
    refine c_seq ?_
    refine c_region ?_
    refine o_ldc st (v := (.agg #[(.int .i64 aB_0.xSize), (.int .i64 aB_0.xEvery), (.int .i64 aB_0.xTokens), (.int .i64 aB_0.xLast)])) 0 rfl rfl rfl ty23 rfl ?_
    refine stw (o_callP (vs := [(.agg #[(.int .i64 aB_0.xSize), (.int .i64 aB_0.xEvery), (.int .i64 aB_0.xTokens), (.int .i64 aB_0.xLast)])]) Try.call15 rfl rfl (by intro w m h; exact w_laws_toBucket (a_0 := aB_0) h) ?_); rintro r5 _
    refine o_mv st rfl rfl ?_
    refine stw (o_callP (vs := [v1]) Try.call32 rfl rfl (by intro w m h; exact w_laws_toIntS (a_0 := aTimes_1) (m.rd0 1 rfl reads_ro) h) ?_); rintro r6 v7
    refine stw (o_callP (vs := [(.agg #[(.int .i64 r5.xSize), (.int .i64 r5.xEvery), (.int .i64 r5.xTokens), (.int .i64 r5.xLast)]), v7]) Try.call31 rfl rfl (by intro w m h; exact w_spec_TakeMany (b_0 := r5) (times_1 := r6) (m.rd0 0 rfl reads_own) h) ?_); rintro r9 v10
    refine o_as st rfl rfl ?_
    refine c_nil ?_
    refine l_then ?_
    refine c_seq ?_
    refine c_region ?_
    refine o_mv st rfl rfl ?_
    refine stw (o_callP (vs := [v1]) Try.call32 rfl rfl (by intro w m h; exact w_laws_toIntS (a_0 := aTimes_1) (m.rd0 3 rfl reads_ro) h) ?_); rintro r12 v13
    refine o_as st rfl rfl ?_
    refine c_nil ?_
    refine l_then ?_
    refine c_seq ?_
    refine c_region ?_
    refine o_ldc st (v := (.agg #[(.int .i64 aB_0.xSize), (.int .i64 aB_0.xEvery), (.int .i64 aB_0.xTokens), (.int .i64 aB_0.xLast)])) 3 rfl rfl rfl ty23 rfl ?_
    refine stw (o_callP (vs := [(.agg #[(.int .i64 aB_0.xSize), (.int .i64 aB_0.xEvery), (.int .i64 aB_0.xTokens), (.int .i64 aB_0.xLast)])]) Try.call15 rfl rfl (by intro w m h; exact w_laws_toBucket (a_0 := aB_0) h) ?_); rintro r15 _
    refine o_mv st rfl rfl ?_
    refine stw (o_callP (vs := [(.agg #[(.int .i64 r15.xSize), (.int .i64 r15.xEvery), (.int .i64 r15.xTokens), (.int .i64 r15.xLast)]), v13]) Try.call28 rfl rfl (by intro w m h; exact w_impl_TakeMany (b_0 := r15) (times_1 := r12) (m.rd0 0 rfl reads_own) h) ?_); rintro r16 v17
    refine o_as st rfl rfl ?_
    refine c_nil ?_
    refine l_then ?_
    refine c_seq ?_
    refine c_seq ?_
    refine c_region ?_
    refine o_mv st rfl rfl ?_
    refine o_mv st rfl rfl ?_
    refine stw (o_callP (vs := [v17, v10]) Try.call33 rfl rfl (by intro w m h; exact w_laws_eqBoolS (a_0 := r16) (b_1 := r9) (m.rd0 0 rfl reads_own) (m.rd0 2 rfl reads_own) h) ?_); rintro r19 _
    refine o_not st rfl rfl ?_
    refine c_nil ?_
    refine l_then ?_
    refine c_cond rfl ?_ ?_
    · refine c_seq ?_
      refine c_region ?_
      refine o_as st rfl rfl ?_
      refine c_nil ?_
      refine l_then ?_
      refine c_ret ?_
      refine l_ret ?_
      exact l_end1 Try.results12 false () (rv_t rfl) (fun _ _ => NewCh.nil _ _ _ _)
    · refine c_skip ?_
      refine l_then ?_
      refine c_seq ?_
      refine c_seq ?_
      refine c_region ?_
      refine o_mv st rfl rfl ?_
      refine o_mv st rfl rfl ?_
      refine stw (o_callP (vs := [v1]) Try.call32 rfl rfl (by intro w m h; exact w_laws_toIntS (a_0 := aTimes_1) (m.rd0 5 rfl reads_ro) h) ?_); rintro r20 v21
      refine stw (o_callP (vs := [v13, v21]) Try.call34 rfl rfl (by intro w m h; exact w_laws_eqIntS (a_0 := r12) (b_1 := r20) (m.rd0 2 rfl reads_own) (m.rd0 0 rfl reads_own) h) ?_); rintro r23 _
      refine o_not st rfl rfl ?_
      refine c_nil ?_
      refine l_then ?_
      refine c_cond rfl ?_ ?_
      · refine c_seq ?_
        refine c_region ?_
        refine o_as st rfl rfl ?_
        refine c_nil ?_
        refine l_then ?_
        refine c_ret ?_
        refine l_ret ?_
        exact l_end1 Try.results12 false () (rv_t rfl) (fun _ _ => NewCh.nil _ _ _ _)
      · refine c_skip ?_
        refine l_then ?_
        refine c_seq ?_
        refine c_region ?_
        refine o_as st rfl rfl ?_
        refine c_nil ?_
        refine l_then ?_
        refine c_seq ?_
        refine c_region ?_
        refine o_mv st rfl rfl ?_
        refine o_mv st rfl rfl ?_
        refine pk [2, 0, 1, 3, 4, 5, 6] rfl ?_
        refine stw (o_call (vs := [v13, (.int .i64 1)]) (M0 := [ownCh elInt 3 v13 r12]) Try.call35 rfl rfl (by intro w m h; exact w_laws_markIntS (a_0 := r12) (k_1 := 1) m.given h) ?_); rintro ⟨r24, r25⟩ _
        refine o_as st rfl rfl ?_
        refine c_nil ?_
        refine l_then ?_
        refine c_seq ?_
        refine c_join (σ := Bool) (fun (t27 : Bool) (a : Act) (w : World) => Has 74 [(1, v1), (2, (.pointer (some ⟨b3, 0, none⟩))), (5, v10), (7, v17), (45, (.bool t27))] a ∧ Mem (fun _ => True) (feet []) w0 [ownCh elBool 4 v17 r16, ownCh elBool 4 v10 r9, cellCh b3 [(.int .i64 aB_0.xSize), (.int .i64 aB_0.xEvery), (.int .i64 aB_0.xTokens), (.int .i64 aB_0.xLast)] 23, roCh elInt v1 aTimes_1] w) ?_ ?_
        · intro k28
          refine c_region ?_
          refine o_mv st rfl rfl ?_
          refine o_lss st rfl rfl rfl ?_
          refine o_mv st rfl rfl ?_
          refine st_sp (dj := 40) rfl ?_ ?_
          · refine st_s rfl rfl rfl rfl ?_
            refine st_s rfl rfl rfl rfl ?_
            refine st_s rfl rfl rfl rfl ?_
            refine st_s rfl rfl rfl rfl ?_
            refine o_pickT st rfl rfl rfl ?_
            refine c_nil ?_
            exact l_join true (fun a w hE hm => ⟨hE.sub ⟨rfl, rfl, rfl, rfl, rfl, trivial⟩, (hm.pick [2, 3, 5, 6] rfl)⟩)
          · refine o_mv (st_g rfl rfl) rfl rfl ?_
            refine o_mv (st_g rfl rfl) rfl rfl ?_
            refine st_gw rfl rfl (o_callP (vs := [v17, v10]) Try.call33 rfl rfl (by intro w m h; exact w_laws_eqBoolS (a_0 := r16) (b_1 := r9) (m.rd0 2 rfl reads_own) (m.rd0 3 rfl reads_own) h) ?_); rintro r29 _
            refine o_not (st_g rfl rfl) rfl rfl ?_
            refine o_pickF st rfl rfl rfl ?_
            refine c_nil ?_
            exact l_join (!r29) (fun a w hE hm => ⟨hE.sub ⟨rfl, rfl, rfl, rfl, rfl, trivial⟩, (hm.pick [2, 3, 5, 6] rfl)⟩)
        · rintro t27 a w ⟨hE, hm⟩ h
          refine nx_of hE hm h ?_
          clear hE hm h
          refine c_cond rfl ?_ ?_
          · refine c_seq ?_
            refine c_region ?_
            refine o_as st rfl rfl ?_
            refine c_nil ?_
            refine l_then ?_
            refine c_ret ?_
            refine l_ret ?_
            exact l_end1 Try.results12 false () (rv_t rfl) (fun _ _ => NewCh.nil _ _ _ _)
          · refine c_skip ?_
            refine l_then ?_
            refine c_seq ?_
            refine c_region ?_
            refine o_as st rfl rfl ?_
            refine c_nil ?_
            refine l_then ?_
            refine c_seq ?_
            refine c_region ?_
            refine o_mv st rfl rfl ?_
            refine o_mv st rfl rfl ?_
            refine pk [0, 1, 2, 3] rfl ?_
            refine stw (o_call (vs := [v17, (.int .i64 1)]) (M0 := [ownCh elBool 4 v17 r16]) Try.call36 rfl rfl (by intro w m h; exact w_laws_markBoolS (a_0 := r16) (k_1 := 1) m.given h) ?_); rintro ⟨r30, r31⟩ _
            refine o_as st rfl rfl ?_
            refine c_nil ?_
            refine l_then ?_
            refine c_seq ?_
            refine c_region ?_
            refine o_as st rfl rfl ?_
            refine c_nil ?_
            refine l_then ?_
            refine c_seq ?_
            refine c_region ?_
            refine o_mv st rfl rfl ?_
            refine o_mv st rfl rfl ?_
            refine stw (o_callP (vs := [v17, (.int .i64 1)]) Try.call37 rfl rfl (by intro w m h; exact w_laws_heldBoolS (a_0 := r31) (k_1 := 1) (m.rd0 0 rfl reads_own) h) ?_); rintro r33 _
            refine o_as st rfl rfl ?_
            refine c_nil ?_
            refine l_then ?_
            refine c_seq ?_
            refine c_seq ?_
            refine c_region ?_
            refine o_mv st rfl rfl ?_
            refine o_lss st rfl rfl rfl ?_
            refine c_nil ?_
            refine l_then ?_
            refine c_cond rfl ?_ ?_
            · refine c_seq ?_
              refine c_region ?_
              refine o_as st rfl rfl ?_
              refine c_nil ?_
              refine l_then ?_
              refine c_ret ?_
              refine l_ret ?_
              exact l_end1 Try.results12 false () (rv_t rfl) (fun _ _ => NewCh.nil _ _ _ _)
            · refine c_skip ?_
              refine l_then ?_
              refine c_seq ?_
              refine c_seq ?_
              refine c_region ?_
              refine o_mv st rfl rfl ?_
              refine o_mv st rfl rfl ?_
              refine o_neq st und3 rfl rfl rfl ?_
              refine c_nil ?_
              refine l_then ?_
              refine c_cond rfl ?_ ?_
              · refine c_seq ?_
                refine c_region ?_
                refine o_as st rfl rfl ?_
                refine c_nil ?_
                refine l_then ?_
                refine c_ret ?_
                refine l_ret ?_
                exact l_end1 Try.results12 false () (rv_t rfl) (fun _ _ => NewCh.nil _ _ _ _)
              · refine c_skip ?_
                refine l_then ?_
                refine c_seq ?_
                refine c_region ?_
                refine o_ldc st (v := (.agg #[(.int .i64 aB_0.xSize), (.int .i64 aB_0.xEvery), (.int .i64 aB_0.xTokens), (.int .i64 aB_0.xLast)])) 2 rfl rfl rfl ty23 rfl ?_
                refine stw (o_callP (vs := [(.agg #[(.int .i64 aB_0.xSize), (.int .i64 aB_0.xEvery), (.int .i64 aB_0.xTokens), (.int .i64 aB_0.xLast)])]) Try.call15 rfl rfl (by intro w m h; exact w_laws_toBucket (a_0 := aB_0) h) ?_); rintro r34 _
                refine o_mv st rfl rfl ?_
                refine stw (o_callP (vs := [v1]) Try.call32 rfl rfl (by intro w m h; exact w_laws_toIntS (a_0 := aTimes_1) (m.rd0 3 rfl reads_ro) h) ?_); rintro r35 v36
                refine stw (o_callP (vs := [(.agg #[(.int .i64 r34.xSize), (.int .i64 r34.xEvery), (.int .i64 r34.xTokens), (.int .i64 r34.xLast)]), v36]) Try.call28 rfl rfl (by intro w m h; exact w_impl_TakeMany (b_0 := r34) (times_1 := r35) (m.rd0 0 rfl reads_own) h) ?_); rintro r38 v39
                refine o_as st rfl rfl ?_
                refine c_nil ?_
                refine l_then ?_
                refine c_seq ?_
                refine c_seq ?_
                refine c_region ?_
                refine o_mv st rfl rfl ?_
                refine o_mv st rfl rfl ?_
                refine stw (o_callP (vs := [v39, v10]) Try.call33 rfl rfl (by intro w m h; exact w_laws_eqBoolS (a_0 := r38) (b_1 := r9) (m.rd0 0 rfl reads_own) (m.rd0 3 rfl reads_own) h) ?_); rintro r41 _
                refine o_not st rfl rfl ?_
                refine c_nil ?_
                refine l_then ?_
                refine c_cond rfl ?_ ?_
                · refine c_seq ?_
                  refine c_region ?_
                  refine o_as st rfl rfl ?_
                  refine c_nil ?_
                  refine l_then ?_
                  refine c_ret ?_
                  refine l_ret ?_
                  exact l_end1 Try.results12 false () (rv_t rfl) (fun _ _ => NewCh.nil _ _ _ _)
                · refine c_skip ?_
                  refine l_then ?_
                  refine c_seq ?_
                  refine c_region ?_
                  refine o_as st rfl rfl ?_
                  refine c_nil ?_
                  refine l_then ?_
                  refine c_seq ?_
                  refine c_region ?_
                  refine o_mv st rfl rfl ?_
                  refine o_mv st rfl rfl ?_
                  refine stw (o_callP (vs := [v17, (.int .i64 1)]) Try.call37 rfl rfl (by intro w m h; exact w_laws_heldBoolS (a_0 := r31) (k_1 := 1) (m.rd0 2 rfl reads_own) h) ?_); rintro r42 _
                  refine o_as st rfl rfl ?_
                  refine c_nil ?_
                  refine l_then ?_
                  refine c_seq ?_
                  refine c_seq ?_
                  refine c_region ?_
                  refine o_mv st rfl rfl ?_
                  refine o_lss st rfl rfl rfl ?_
                  refine c_nil ?_
                  refine l_then ?_
                  refine c_cond rfl ?_ ?_
                  · refine c_seq ?_
                    refine c_region ?_
                    refine o_as st rfl rfl ?_
                    refine c_nil ?_
                    refine l_then ?_
                    refine c_ret ?_
                    refine l_ret ?_
                    exact l_end1 Try.results12 false () (rv_t rfl) (fun _ _ => NewCh.nil _ _ _ _)
                  · refine c_skip ?_
                    refine l_then ?_
                    refine c_seq ?_
                    refine c_seq ?_
                    refine c_region ?_
                    refine o_mv st rfl rfl ?_
                    refine o_mv st rfl rfl ?_
                    refine o_neq st und3 rfl rfl rfl ?_
                    refine c_nil ?_
                    refine l_then ?_
                    refine c_cond rfl ?_ ?_
                    · refine c_seq ?_
                      refine c_region ?_
                      refine o_as st rfl rfl ?_
                      refine c_nil ?_
                      refine l_then ?_
                      refine c_ret ?_
                      refine l_ret ?_
                      exact l_end1 Try.results12 false () (rv_t rfl) (fun _ _ => NewCh.nil _ _ _ _)
                    · refine c_skip ?_
                      refine l_then ?_
                      refine c_seq ?_
                      refine c_region ?_
                      refine o_as st rfl rfl ?_
                      refine c_nil ?_
                      refine l_then ?_
                      refine c_ret ?_
                      exact l_end1 Try.results12 true () (rv_t rfl) (fun _ _ => NewCh.nil _ _ _ _)


end Go.Proofs.Ytcinklbbacmihaa
