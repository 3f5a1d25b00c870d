/- The walks of the functions of this seat (printed), on. -/
import Derived.Test.YtnogaeckmiekdaaDoorG3Walk4
set_option linter.unusedSimpArgs false
set_option linter.unusedVariables false
namespace Go.Proofs.YtnogaeckmiekdaaDoor
open Go.RowKit
set_option maxRecDepth 100000 in
set_option maxHeartbeats 8000000 in
theorem w_spec_ReadRule {w0 : World} {F : Nat → Prop} {s_0 : ByteArray} {κ : (GRule × Bool) → Prop} (hF : ∀ b, F b → b < w0.heap.size ∧ ¬ feet [] b) (h : L_spec_ReadRule s_0 κ) :
    Calls Tryd.prog 42 #[(.string s_0)] w0 (Ret [] F w0 κ (fun (r : (GRule × Bool)) (u : Value) => .tuple #[(.agg #[u, (.int .i64 r.1.xAction), (.int .i64 r.1.xChain)]), (.bool r.2)]) (fun (r : (GRule × Bool)) (u : Value) => [ownCh elGTest 25 u r.1.xTests])) := by
  refine enter0 (args := [(.string s_0)]) [] hF (Given.nil _ _) Tryd.func42 rfl Tryd.ntmps42 rfl h ?_
  clear h hF
  refine c_seq ?_
  refine c_region ?_
  refine stw (o_alloc rfl [(.slice none 0 0), (.int .i64 0), (.int .i64 0)] zero53 ?_); intro b1
  refine o_as st rfl rfl ?_
  refine c_nil ?_
  refine l_then ?_
  refine c_seq ?_
  refine c_region ?_
  refine o_bld st (qs := []) (cells := [(.slice none 0 0), (.int .i64 0), (.int .i64 0)]) (by intro ρ h; simp only [List.map_toArray, List.map_cons, List.map_nil]) rfl bld53 rfl ?_
  refine stw (o_alloc rfl [(.slice none 0 0), (.int .i64 0), (.int .i64 0)] zero53 ?_); intro b3
  refine stw (o_stc (cs' := [(.slice none 0 0), (.int .i64 0), (.int .i64 0)]) 0 rfl rfl rfl ty53 rfl rfl rfl rfl ?_)
  refine c_nil ?_
  refine l_then ?_
  refine c_seq ?_
  refine c_region ?_
  refine o_mv st rfl rfl ?_
  refine stw (o_callP (vs := [(.string s_0), (.int .u8 44)]) Tryd.call54 rfl rfl (by intro w m h; exact (w_spec_l3Cut (F := allB [] w) (s_0 := s_0) (c_1 := (44 : UInt8)) allB_ok h).mono (fun _ _ k => ret_free (fun r u => fr_nil) k)) ?_); rintro ⟨r5, r6⟩ _
  refine o_mv st rfl rfl ?_
  refine o_ext st (vs := [(.string r5), (.string r6)]) rfl rfl rfl ?_
  refine o_ext st (vs := [(.string r5), (.string r6)]) rfl rfl rfl ?_
  refine o_as st rfl rfl ?_
  refine o_as st rfl rfl ?_
  refine c_nil ?_
  refine l_then ?_
  refine c_seq ?_
  refine c_seq ?_
  refine c_region ?_
  refine o_as st rfl rfl ?_
  refine c_nil ?_
  refine l_then ?_
  refine c_block ?_
  refine c_loop (σ := (Int × Int × Int)) (fun ((t7, t8, t9) : (Int × Int × Int)) (a : Act) (w : World) => Has 87 [(0, (.string s_0)), (2, (.pointer (some ⟨b1, 0, none⟩))), (4, (.pointer (some ⟨b3, 0, none⟩))), (5, (.string r5)), (6, (.string r6)), (7, (.int .i64 t9))] a ∧ Mem (gB F [] w0) (feet []) w0 [cellCh b3 [(.slice none 0 0), (.int .i64 t7), (.int .i64 t8)] 53, cellCh b1 [(.slice none 0 0), (.int .i64 0), (.int .i64 0)] 53] w) (fun a w hE hm => ⟨hE.sub ⟨rfl, rfl, rfl, rfl, rfl, rfl, trivial⟩, (hm.pick [0, 1] rfl)⟩) ?_
  rintro nx10 ⟨t7, t8, t9⟩ a w ⟨hE, hm⟩ h
  refine nx_of hE hm h ?_
  clear hE hm h
  refine c_seq ?_
  refine c_seq ?_
  refine c_region ?_
  refine o_mv st rfl rfl ?_
  refine o_leq st rfl rfl rfl ?_
  refine c_nil ?_
  refine l_then ?_
  refine c_cond rfl ?_ ?_
  · refine c_skip ?_
    refine l_then ?_
    refine c_seq ?_
    refine c_block ?_
    refine c_seq ?_
    refine c_region ?_
    refine o_as st rfl rfl ?_
    refine c_nil ?_
    refine l_then ?_
    refine c_block ?_
    refine c_loop (σ := (Int × Int × Int)) (fun ((t11, t12, t13) : (Int × Int × Int)) (a : Act) (w : World) => Has 87 [(0, (.string s_0)), (2, (.pointer (some ⟨b1, 0, none⟩))), (4, (.pointer (some ⟨b3, 0, none⟩))), (5, (.string r5)), (6, (.string r6)), (7, (.int .i64 t9)), (8, (.int .i64 t13))] a ∧ Mem (gB F [] w0) (feet []) w0 [cellCh b3 [(.slice none 0 0), (.int .i64 t11), (.int .i64 t12)] 53, cellCh b1 [(.slice none 0 0), (.int .i64 0), (.int .i64 0)] 53] w) (fun a w hE hm => ⟨hE.sub ⟨rfl, rfl, rfl, rfl, rfl, rfl, rfl, trivial⟩, (hm.pick [0, 1] rfl)⟩) ?_
    rintro nx14 ⟨t11, t12, t13⟩ a w ⟨hE, hm⟩ h
    refine nx_of hE hm h ?_
    clear hE hm h
    refine c_seq ?_
    refine c_seq ?_
    refine c_region ?_
    refine o_mv st rfl rfl ?_
    refine o_lss st rfl rfl rfl ?_
    refine c_nil ?_
    refine l_then ?_
    refine c_cond rfl ?_ ?_
    · refine c_skip ?_
      refine l_then ?_
      refine c_join (σ := (Int × Int)) (fun ((t140, t141) : (Int × Int)) (a : Act) (w : World) => Has 87 [(0, (.string s_0)), (2, (.pointer (some ⟨b1, 0, none⟩))), (4, (.pointer (some ⟨b3, 0, none⟩))), (5, (.string r5)), (6, (.string r6)), (7, (.int .i64 t9)), (8, (.int .i64 t13))] a ∧ Mem (gB F [] w0) (feet []) w0 [cellCh b3 [(.slice none 0 0), (.int .i64 t140), (.int .i64 t141)] 53, cellCh b1 [(.slice none 0 0), (.int .i64 0), (.int .i64 0)] 53] w) ?_ ?_
      · intro k142
        refine c_block ?_
        refine c_seq ?_
        refine c_region ?_
        refine o_mv st rfl rfl ?_
        refine o_bld st (qs := [(1, (.int .i64 t9))]) (cells := [(.slice none 0 0), (.int .i64 t9), (.int .i64 0)]) (by intro ρ h; simp only [List.map_toArray, List.map_cons, List.map_nil, h (.tmp 29) _ rfl]) rfl bld53 rfl ?_
        refine stw (o_alloc rfl [(.slice none 0 0), (.int .i64 0), (.int .i64 0)] zero53 ?_); intro b15
        refine stw (o_stc (cs' := [(.slice none 0 0), (.int .i64 t9), (.int .i64 0)]) 0 rfl rfl rfl ty53 rfl rfl rfl rfl ?_)
        refine c_nil ?_
        refine l_then ?_
        refine c_join (σ := Int) (fun (t77 : Int) (a : Act) (w : World) => Has 87 [(0, (.string s_0)), (2, (.pointer (some ⟨b1, 0, none⟩))), (4, (.pointer (some ⟨b3, 0, none⟩))), (5, (.string r5)), (6, (.string r6)), (7, (.int .i64 t9)), (8, (.int .i64 t13)), (9, (.pointer (some ⟨b15, 0, none⟩)))] a ∧ Mem (gB F [] w0) (feet []) w0 [cellCh b15 [(.slice none 0 0), (.int .i64 t9), (.int .i64 t77)] 53, cellCh b3 [(.slice none 0 0), (.int .i64 t11), (.int .i64 t12)] 53, cellCh b1 [(.slice none 0 0), (.int .i64 0), (.int .i64 0)] 53] w) ?_ ?_
        · intro k78
          refine c_seq ?_
          refine c_region ?_
          refine o_mv st rfl rfl ?_
          refine o_eql st und3 rfl rfl rfl ?_
          refine c_nil ?_
          refine l_then ?_
          refine c_cond rfl ?_ ?_
          · refine c_region ?_
            refine o_mv st rfl rfl ?_
            refine o_fad st rfl rfl fld53_2 rfl ?_
            refine stw (o_stc (cs' := [(.slice none 0 0), (.int .i64 t9), (.int .i64 t13)]) 0 rfl rfl rfl ty3 rfl rfl rfl rfl ?_)
            refine c_nil ?_
            exact l_join t13 (fun a w hE hm => ⟨hE.sub ⟨rfl, rfl, rfl, rfl, rfl, rfl, rfl, rfl, trivial⟩, (hm.pick [0, 1, 2] rfl)⟩)
          · refine c_skip ?_
            exact l_join 0 (fun a w hE hm => ⟨hE.sub ⟨rfl, rfl, rfl, rfl, rfl, rfl, rfl, rfl, trivial⟩, (hm.pick [0, 1, 2] rfl)⟩)
        · rintro t77 a w ⟨hE, hm⟩ h
          refine nx_of hE hm h ?_
          clear hE hm h
          refine c_seq ?_
          refine c_region ?_
          refine o_ldc st (v := (.agg #[(.slice none 0 0), (.int .i64 t9), (.int .i64 t77)])) 0 rfl rfl rfl ty53 rfl ?_
          refine stw (o_callP (vs := [(.agg #[(.slice none 0 0), (.int .i64 t9), (.int .i64 t77)])]) Tryd.call33 rfl rfl (by intro w m h; exact (w_spec_RuleText (F := allB [] w) (r_0 := (GRule.mk ([]) t9 t77)) allB_ok (Sl.nil _ _ _ _ _) h).mono (fun _ _ k => ret_free (fun r u => fr_nil) k)) ?_); rintro r79 _
          refine o_mv st rfl rfl ?_
          refine o_eqlS st und9 rfl rfl rfl ?_
          refine c_nil ?_
          refine l_then ?_
          refine c_cond rfl ?_ ?_
          · refine c_region ?_
            refine o_ldc st (v := (.agg #[(.slice none 0 0), (.int .i64 t9), (.int .i64 t77)])) 0 rfl rfl rfl ty53 rfl ?_
            refine stw (o_stc (cs' := [(.slice none 0 0), (.int .i64 t9), (.int .i64 t77)]) 1 rfl rfl rfl ty53 rfl rfl rfl rfl ?_)
            refine c_nil ?_
            refine b_norm ?_
            exact l_join (t9, t77) (fun a w hE hm => ⟨hE.sub ⟨rfl, rfl, rfl, rfl, rfl, rfl, rfl, trivial⟩, (hm.pick [1, 2] rfl)⟩)
          · refine c_skip ?_
            refine b_norm ?_
            exact l_join (t11, t12) (fun a w hE hm => ⟨hE.sub ⟨rfl, rfl, rfl, rfl, rfl, rfl, rfl, trivial⟩, (hm.pick [1, 2] rfl)⟩)
      · rintro ⟨t140, t141⟩ a w ⟨hE, hm⟩ h
        refine nx_of hE hm h ?_
        clear hE hm h
        refine c_region ?_
        refine o_mv st rfl rfl ?_
        refine o_add st rfl rfl rfl ?_; intro t143
        refine o_as st rfl rfl ?_
        refine c_nil ?_
        exact l_join (t140, t141, t143) (fun a w hE hm => ⟨hE.sub ⟨rfl, rfl, rfl, rfl, rfl, rfl, rfl, trivial⟩, (hm.pick [0, 1] rfl)⟩)
    · refine c_exit ?_
      refine l_exit ?_
      refine l_exit ?_
      refine b_exit ?_
      refine b_norm ?_
      refine l_then ?_
      refine c_region ?_
      refine o_mv st rfl rfl ?_
      refine o_add st rfl rfl rfl ?_; intro t144
      refine o_as st rfl rfl ?_
      refine c_nil ?_
      exact l_join (t11, t12, t144) (fun a w hE hm => ⟨hE.sub ⟨rfl, rfl, rfl, rfl, rfl, rfl, trivial⟩, (hm.pick [0, 1] rfl)⟩)
  · refine c_exit ?_
    refine l_exit ?_
    refine l_exit ?_
    refine b_exit ?_
    refine l_then ?_
    refine c_seq ?_
    refine c_seq ?_
    refine c_region ?_
    refine o_as st rfl rfl ?_
    refine c_nil ?_
    refine l_then ?_
    refine c_block ?_
    refine c_loop (σ := ((List GTest) × ByteArray × Int)) (fun ((xs146, t149, t150) : ((List GTest) × ByteArray × Int)) (a : Act) (w : World) => ∃ (v145 : Value), Has 87 [(0, (.string s_0)), (2, (.pointer (some ⟨b1, 0, none⟩))), (4, (.pointer (some ⟨b3, 0, none⟩))), (6, (.string t149)), (10, (.int .i64 t150))] a ∧ Mem (gB F [] w0) (feet []) w0 [cellCh b3 [v145, (.int .i64 t7), (.int .i64 t8)] 53, cellCh b1 [(.slice none 0 0), (.int .i64 0), (.int .i64 0)] 53, ownCh elGTest 25 v145 xs146] w) (fun a w hE hm => ⟨(.slice none 0 0), hE.sub ⟨rfl, rfl, rfl, rfl, rfl, trivial⟩, ((mem_nil elGTest 25 hm).pick [1, 2, 0] rfl)⟩) ?_
    rintro nx151 ⟨xs146, t149, t150⟩ a w ⟨v145, hE, hm⟩ h
    refine nx_of hE hm h ?_
    clear hE hm h
    refine c_seq ?_
    refine c_join (σ := Bool) (fun (t212 : Bool) (a : Act) (w : World) => Has 87 [(0, (.string s_0)), (2, (.pointer (some ⟨b1, 0, none⟩))), (4, (.pointer (some ⟨b3, 0, none⟩))), (6, (.string t149)), (10, (.int .i64 t150)), (45, (.bool t212))] a ∧ Mem (gB F [] w0) (feet []) w0 [cellCh b3 [v145, (.int .i64 t7), (.int .i64 t8)] 53, cellCh b1 [(.slice none 0 0), (.int .i64 0), (.int .i64 0)] 53, ownCh elGTest 25 v145 xs146] w) ?_ ?_
    · intro k213
      refine c_region ?_
      refine o_mv st rfl rfl ?_
      refine o_neqS st und9 rfl rfl rfl ?_
      refine o_mv st rfl rfl ?_
      refine st_sp (dj := 42) rfl ?_ ?_
      · refine o_mv (st_g rfl rfl) rfl rfl ?_
        refine o_leq (st_g rfl rfl) rfl rfl rfl ?_
        refine o_pickT st rfl rfl rfl ?_
        refine c_nil ?_
        exact l_join (decide (t150 ≤ 6)) (fun a w hE hm => ⟨hE.sub ⟨rfl, rfl, rfl, rfl, rfl, rfl, trivial⟩, (hm.pick [0, 1, 2] rfl)⟩)
      · refine st_s rfl rfl rfl rfl ?_
        refine st_s rfl rfl rfl rfl ?_
        refine o_pickF st rfl rfl rfl ?_
        refine c_nil ?_
        exact l_join false (fun a w hE hm => ⟨hE.sub ⟨rfl, rfl, rfl, rfl, rfl, rfl, trivial⟩, (hm.pick [0, 1, 2] rfl)⟩)
    · rintro t212 a w ⟨hE, hm⟩ h
      refine nx_of hE hm h ?_
      clear hE hm h
      refine c_cond rfl ?_ ?_
      · refine c_skip ?_
        refine l_then ?_
        refine c_seq ?_
        refine c_block ?_
        refine c_seq ?_
        refine c_region ?_
        refine o_mv st rfl rfl ?_
        refine stw (o_callP (vs := [(.string t149), (.int .u8 44)]) Tryd.call54 rfl rfl (by intro w m h; exact (w_spec_l3Cut (F := allB [] w) (s_0 := t149) (c_1 := (44 : UInt8)) allB_ok h).mono (fun _ _ k => ret_free (fun r u => fr_nil) k)) ?_); rintro ⟨r214, r215⟩ _
        refine o_mv st rfl rfl ?_
        refine o_ext st (vs := [(.string r214), (.string r215)]) rfl rfl rfl ?_
        refine o_ext st (vs := [(.string r214), (.string r215)]) rfl rfl rfl ?_
        refine o_as st rfl rfl ?_
        refine o_as st rfl rfl ?_
        refine c_nil ?_
        refine l_then ?_
        refine c_seq ?_
        refine c_join (σ := Bool) (fun (t277 : Bool) (a : Act) (w : World) => Has 87 [(0, (.string s_0)), (2, (.pointer (some ⟨b1, 0, none⟩))), (4, (.pointer (some ⟨b3, 0, none⟩))), (10, (.int .i64 t150)), (11, (.string r214)), (12, (.string r215)), (59, (.bool t277))] a ∧ Mem (gB F [] w0) (feet []) w0 [cellCh b3 [v145, (.int .i64 t7), (.int .i64 t8)] 53, cellCh b1 [(.slice none 0 0), (.int .i64 0), (.int .i64 0)] 53, ownCh elGTest 25 v145 xs146] w) ?_ ?_
        · intro k278
          refine c_region ?_
          refine o_mv st rfl rfl ?_
          refine o_eqlS st und9 rfl rfl rfl ?_
          refine o_mv st rfl rfl ?_
          refine st_sp (dj := 55) rfl ?_ ?_
          · refine st_s rfl rfl rfl rfl ?_
            refine st_s rfl rfl rfl rfl ?_
            refine st_s rfl rfl rfl rfl ?_
            refine o_pickT st rfl rfl rfl ?_
            refine c_nil ?_
            exact l_join true (fun a w hE hm => ⟨hE.sub ⟨rfl, rfl, rfl, rfl, rfl, rfl, rfl, trivial⟩, (hm.pick [0, 1, 2] rfl)⟩)
          · refine o_mv (st_g rfl rfl) rfl rfl ?_
            refine o_ixs (st_g rfl rfl) und9 rfl rfl rfl ?_; intro e216
            refine o_neq (st_g rfl rfl) und5 rfl rfl rfl ?_
            refine o_pickF st rfl rfl rfl ?_
            refine c_nil ?_
            exact l_join (!(decide ((e216.toNat : Int) = 32))) (fun a w hE hm => ⟨hE.sub ⟨rfl, rfl, rfl, rfl, rfl, rfl, rfl, trivial⟩, (hm.pick [0, 1, 2] rfl)⟩)
        · rintro t277 a w ⟨hE, hm⟩ h
          refine nx_of hE hm h ?_
          clear hE hm h
          refine c_cond rfl ?_ ?_
          · refine c_seq ?_
            refine c_region ?_
            refine o_bld st (qs := []) (cells := [(.slice none 0 0), (.int .i64 0), (.int .i64 0)]) (by intro ρ h; simp only [List.map_toArray, List.map_cons, List.map_nil]) rfl bld53 rfl ?_
            refine stw (o_stc (cs' := [(.slice none 0 0), (.int .i64 0), (.int .i64 0)]) 1 rfl rfl rfl ty53 rfl rfl rfl rfl ?_)
            refine o_as st rfl rfl ?_
            refine c_nil ?_
            refine l_then ?_
            refine c_ret ?_
            refine l_ret ?_
            refine b_ret ?_
            refine l_ret ?_
            refine l_ret ?_
            refine b_ret ?_
            refine l_ret ?_
            refine nx_nil elGTest 25 ?_
            exact l_end2 Tryd.results42 ((GRule.mk ([]) 0 0), false) (.slice none 0 0) (rv_c 2 rfl rfl ty53 rfl) (rv_t rfl) rfl (fun w m => NewCh.ofB m [0] rfl)
          · refine c_skip ?_
            refine l_then ?_
            refine c_seq ?_
            refine c_region ?_
            refine o_mv st rfl rfl ?_
            refine o_sls st und9 rfl rfl rfl rfl ?_; intro s280
            refine stw (o_callP (vs := [(.string s280)]) Tryd.call27 rfl rfl (by intro w m h; exact (w_spec_ReadTest (F := allB [] w) (s_0 := s280) allB_ok h).mono (fun _ _ k => ret_free (fun r u => fr_nil) k)) ?_); rintro ⟨r281, r282⟩ _
            refine o_mv st rfl rfl ?_
            refine o_ext st (vs := [(.agg #[(.int .i64 r281.xField), (.int .i64 r281.xLo), (.int .i64 r281.xHi), (.bool r281.xNot)]), (.bool r282)]) rfl rfl rfl ?_
            refine o_ext st (vs := [(.agg #[(.int .i64 r281.xField), (.int .i64 r281.xLo), (.int .i64 r281.xHi), (.bool r281.xNot)]), (.bool r282)]) rfl rfl rfl ?_
            refine stw (o_alloc rfl [(.int .i64 0), (.int .i64 0), (.int .i64 0), (.bool false)] zero25 ?_); intro b283
            refine stw (o_stc (cs' := [(.int .i64 r281.xField), (.int .i64 r281.xLo), (.int .i64 r281.xHi), (.bool r281.xNot)]) 0 rfl rfl rfl ty25 rfl rfl rfl rfl ?_)
            refine o_as st rfl rfl ?_
            refine c_nil ?_
            refine l_then ?_
            refine c_seq ?_
            refine c_seq ?_
            refine c_region ?_
            refine o_mv st rfl rfl ?_
            refine o_not st rfl rfl ?_
            refine c_nil ?_
            refine l_then ?_
            refine c_cond rfl ?_ ?_
            · refine c_seq ?_
              refine c_region ?_
              refine o_bld st (qs := []) (cells := [(.slice none 0 0), (.int .i64 0), (.int .i64 0)]) (by intro ρ h; simp only [List.map_toArray, List.map_cons, List.map_nil]) rfl bld53 rfl ?_
              refine stw (o_stc (cs' := [(.slice none 0 0), (.int .i64 0), (.int .i64 0)]) 2 rfl rfl rfl ty53 rfl rfl rfl rfl ?_)
              refine o_as st rfl rfl ?_
              refine c_nil ?_
              refine l_then ?_
              refine c_ret ?_
              refine l_ret ?_
              refine b_ret ?_
              refine l_ret ?_
              refine l_ret ?_
              refine b_ret ?_
              refine l_ret ?_
              refine nx_nil elGTest 25 ?_
              exact l_end2 Tryd.results42 ((GRule.mk ([]) 0 0), false) (.slice none 0 0) (rv_c 3 rfl rfl ty53 rfl) (rv_t rfl) rfl (fun w m => NewCh.ofB m [0] rfl)
            · refine c_skip ?_
              refine l_then ?_
              refine c_seq ?_
              refine c_region ?_
              refine o_fad st rfl rfl fld53_0 rfl ?_
              refine o_ldc st (v := v145) 1 rfl rfl rfl ty51 rfl ?_
              refine o_ldc st (v := (.agg #[(.int .i64 r281.xField), (.int .i64 r281.xLo), (.int .i64 r281.xHi), (.bool r281.xNot)])) 0 rfl rfl rfl ty25 rfl ?_
              refine stw (o_bsl (enc := encGTest) (qs := [(0, (.agg #[(.int .i64 r281.xField), (.int .i64 r281.xLo), (.int .i64 r281.xHi), (.bool r281.xNot)]))]) (cells := [(.int .i64 r281.xField), (.int .i64 r281.xLo), (.int .i64 r281.xHi), (.bool r281.xNot)]) ([r281]) flelGTest (by intro ρ h; simp only [List.map_toArray, List.map_cons, List.map_nil, h (.tmp 72) _ rfl]) rfl el51 zero25 rfl rfl rfl rfl rfl rfl ?_); intro v286
              refine stw (o_app 4 0 rfl rfl (src_flat flelGTest reads_own) rfl rfl rfl el51 rfl zero25 rfl rfl ?_); intro v288
              refine o_fad st rfl rfl fld53_0 rfl ?_
              refine nx_own 4 rfl ?_; rintro a290 l291 q292 rfl
              refine stw (o_stc (cs' := [(.slice a290 l291 q292), (.int .i64 t7), (.int .i64 t8)]) 2 rfl rfl rfl ty51 rfl rfl rfl rfl ?_)
              refine c_nil ?_
              refine l_then ?_
              refine c_region ?_
              refine o_mv st rfl rfl ?_
              refine o_as st rfl rfl ?_
              refine c_nil ?_
              refine b_norm ?_
              refine l_then ?_
              refine c_region ?_
              refine o_mv st rfl rfl ?_
              refine o_add st rfl rfl rfl ?_; intro t293
              refine o_as st rfl rfl ?_
              refine c_nil ?_
              exact l_join ((xs146 ++ ([r281])), r215, t293) (fun a w hE hm => ⟨(.slice a290 l291 q292), hE.sub ⟨rfl, rfl, rfl, rfl, rfl, trivial⟩, (hm.pick [2, 3, 4] rfl)⟩)
      · refine c_exit ?_
        refine l_exit ?_
        refine l_exit ?_
        refine b_exit ?_
        refine l_then ?_
        refine c_seq ?_
        refine c_join (σ := Bool) (fun (t355 : Bool) (a : Act) (w : World) => Has 87 [(2, (.pointer (some ⟨b1, 0, none⟩))), (4, (.pointer (some ⟨b3, 0, none⟩))), (84, (.bool t355))] a ∧ Mem (gB F [] w0) (feet []) w0 [cellCh b3 [v145, (.int .i64 t7), (.int .i64 t8)] 53, cellCh b1 [(.slice none 0 0), (.int .i64 0), (.int .i64 0)] 53, ownCh elGTest 25 v145 xs146] w) ?_ ?_
        · intro k356
          refine c_region ?_
          refine o_ldc st (v := (.agg #[v145, (.int .i64 t7), (.int .i64 t8)])) 0 rfl rfl rfl ty53 rfl ?_
          refine stw (o_callP (vs := [(.agg #[v145, (.int .i64 t7), (.int .i64 t8)])]) Tryd.call33 rfl rfl (by intro w m h; exact (w_spec_RuleText (F := allB [] w) (r_0 := (GRule.mk xs146 t7 t8)) allB_ok (m.rd0 2 rfl reads_own) h).mono (fun _ _ k => ret_free (fun r u => fr_nil) k)) ?_); rintro r294 _
          refine o_mv st rfl rfl ?_
          refine o_neqS st und9 rfl rfl rfl ?_
          refine o_mv st rfl rfl ?_
          refine st_sp (dj := 81) rfl ?_ ?_
          · refine st_s rfl rfl rfl rfl ?_
            refine st_s rfl rfl rfl rfl ?_
            refine o_pickT st rfl rfl rfl ?_
            refine c_nil ?_
            exact l_join true (fun a w hE hm => ⟨hE.sub ⟨rfl, rfl, rfl, trivial⟩, (hm.pick [0, 1, 2] rfl)⟩)
          · refine o_mv (st_g rfl rfl) rfl rfl ?_
            refine o_eqlS (st_g rfl rfl) und9 rfl rfl rfl ?_
            refine o_pickF st rfl rfl rfl ?_
            refine c_nil ?_
            exact l_join (decide (s_0 = (ByteArray.mk #[]))) (fun a w hE hm => ⟨hE.sub ⟨rfl, rfl, rfl, trivial⟩, (hm.pick [0, 1, 2] rfl)⟩)
        · rintro t355 a w ⟨hE, hm⟩ h
          refine nx_of hE hm h ?_
          clear hE hm h
          refine c_cond rfl ?_ ?_
          · refine c_seq ?_
            refine c_region ?_
            refine o_bld st (qs := []) (cells := [(.slice none 0 0), (.int .i64 0), (.int .i64 0)]) (by intro ρ h; simp only [List.map_toArray, List.map_cons, List.map_nil]) rfl bld53 rfl ?_
            refine stw (o_stc (cs' := [(.slice none 0 0), (.int .i64 0), (.int .i64 0)]) 1 rfl rfl rfl ty53 rfl rfl rfl rfl ?_)
            refine o_as st rfl rfl ?_
            refine c_nil ?_
            refine l_then ?_
            refine c_ret ?_
            refine l_ret ?_
            refine nx_nil elGTest 25 ?_
            exact l_end2 Tryd.results42 ((GRule.mk ([]) 0 0), false) (.slice none 0 0) (rv_c 2 rfl rfl ty53 rfl) (rv_t rfl) rfl (fun w m => NewCh.ofB m [0] rfl)
          · refine c_skip ?_
            refine l_then ?_
            refine c_seq ?_
            refine c_region ?_
            refine o_ldc st (v := (.agg #[v145, (.int .i64 t7), (.int .i64 t8)])) 0 rfl rfl rfl ty53 rfl ?_
            refine nx_own 2 rfl ?_; rintro a358 l359 q360 rfl
            refine stw (o_stc (cs' := [(.slice a358 l359 q360), (.int .i64 t7), (.int .i64 t8)]) 1 rfl rfl rfl ty53 rfl rfl rfl rfl ?_)
            refine o_as st rfl rfl ?_
            refine c_nil ?_
            refine l_then ?_
            refine c_ret ?_
            exact l_end2 Tryd.results42 ((GRule.mk xs146 t7 t8), true) (.slice a358 l359 q360) (rv_c 1 rfl rfl ty53 rfl) (rv_t rfl) rfl (fun w m => NewCh.ofB m [2] rfl)

set_option maxRecDepth 100000 in
set_option maxHeartbeats 8000000 in
theorem w_laws_markTestS {w0 : World} {F : Nat → Prop} {v1 : Value} {a_0 : (List GTest)} {k_1 : Int} {κ : (Int × (List GTest)) → Prop} (hF : ∀ b, F b → b < w0.heap.size ∧ ¬ feet [ownCh elGTest 25 v1 a_0] b) (hg : Given [ownCh elGTest 25 v1 a_0] F w0) (h : L_laws_markTestS a_0 k_1 κ) :
    Calls Tryd.prog 78 #[v1, (.int .i64 k_1)] w0 (Ret [ownCh elGTest 25 v1 a_0] F w0 κ (fun (r : (Int × (List GTest))) (u : Unit) => (.int .i64 r.1)) (fun (r : (Int × (List GTest))) (u : Unit) => [ownCh elGTest 25 v1 r.2])) := by
  refine enter0 (args := [v1, (.int .i64 k_1)]) [ownCh elGTest 25 v1 a_0] hF hg Tryd.func78 rfl Tryd.ntmps78 rfl h ?_
  clear h hF hg
  refine c_seq ?_
  refine c_region ?_
  refine o_as st rfl rfl ?_
  refine c_nil ?_
  refine l_then ?_
  refine c_seq ?_
  refine c_seq ?_
  refine c_region ?_
  refine o_as st rfl rfl ?_
  refine c_nil ?_
  refine l_then ?_
  refine c_block ?_
  refine c_loop (σ := ((List GTest) × Int × Int)) (fun ((xs3, t5, t6) : ((List GTest) × Int × Int)) (a : Act) (w : World) => Has 43 [(0, v1), (1, (.int .i64 t5)), (5, (.int .i64 t6))] a ∧ Mem (gB F [ownCh elGTest 25 v1 a_0] w0) (feet [ownCh elGTest 25 v1 a_0]) w0 [ownCh elGTest 25 v1 xs3] w) (fun a w hE hm => ⟨hE.sub ⟨rfl, rfl, rfl, trivial⟩, (hm.pick [0] rfl)⟩) ?_
  rintro nx7 ⟨xs3, t5, t6⟩ a w ⟨hE, hm⟩ h
  refine nx_of hE hm h ?_
  clear hE hm h
  refine c_seq ?_
  refine c_seq ?_
  refine c_region ?_
  refine o_mv st rfl rfl ?_
  refine o_mv st rfl rfl ?_
  refine o_len st el51 0 rfl reads_own rfl rfl ?_
  refine o_lss st rfl rfl rfl ?_
  refine c_nil ?_
  refine l_then ?_
  refine c_cond rfl ?_ ?_
  · refine c_skip ?_
    refine l_then ?_
    refine c_seq ?_
    refine c_block ?_
    refine c_seq ?_
    refine c_region ?_
    refine o_mv st rfl rfl ?_
    refine o_mv st rfl rfl ?_
    refine o_mv st rfl rfl ?_
    refine o_idx st 0 rfl reads_own rfl rfl rfl el51 ?_; intro e8 h9
    refine o_fadS st 0 rfl reads_own h9 rfl rfl fld25_0 rfl ?_
    refine stw (o_sts (enc := encGTest) (y' := (GTest.mk t5 e8.xLo e8.xHi e8.xNot)) 0 rfl flelGTest rfl h9 ty3 rfl rfl rfl rfl rfl rfl ?_)
    refine c_nil ?_
    refine l_then ?_
    refine c_seq ?_
    refine c_region ?_
    refine o_mv st rfl rfl ?_
    refine o_add st rfl rfl rfl ?_; intro t11
    refine o_as st rfl rfl ?_
    refine c_nil ?_
    refine l_then ?_
    refine c_seq ?_
    refine c_region ?_
    refine o_mv st rfl rfl ?_
    refine o_mv st rfl rfl ?_
    refine o_mv st rfl rfl ?_
    refine o_idx st 0 rfl reads_own rfl rfl rfl el51 ?_; intro e12 h13
    refine o_fadS st 0 rfl reads_own h13 rfl rfl fld25_1 rfl ?_
    refine stw (o_sts (enc := encGTest) (y' := (GTest.mk e12.xField t11 e12.xHi e12.xNot)) 0 rfl flelGTest rfl h13 ty3 rfl rfl rfl rfl rfl rfl ?_)
    refine c_nil ?_
    refine l_then ?_
    refine c_seq ?_
    refine c_region ?_
    refine o_mv st rfl rfl ?_
    refine o_add st rfl rfl rfl ?_; intro t15
    refine o_as st rfl rfl ?_
    refine c_nil ?_
    refine l_then ?_
    refine c_seq ?_
    refine c_region ?_
    refine o_mv st rfl rfl ?_
    refine o_mv st rfl rfl ?_
    refine o_mv st rfl rfl ?_
    refine o_idx st 0 rfl reads_own rfl rfl rfl el51 ?_; intro e16 h17
    refine o_fadS st 0 rfl reads_own h17 rfl rfl fld25_2 rfl ?_
    refine stw (o_sts (enc := encGTest) (y' := (GTest.mk e16.xField e16.xLo t15 e16.xNot)) 0 rfl flelGTest rfl h17 ty3 rfl rfl rfl rfl rfl rfl ?_)
    refine c_nil ?_
    refine l_then ?_
    refine c_seq ?_
    refine c_region ?_
    refine o_mv st rfl rfl ?_
    refine o_add st rfl rfl rfl ?_; intro t19
    refine o_as st rfl rfl ?_
    refine c_nil ?_
    refine l_then ?_
    refine c_seq ?_
    refine c_region ?_
    refine o_mv st rfl rfl ?_
    refine o_mv st rfl rfl ?_
    refine o_mv st rfl rfl ?_
    refine o_rem st rfl rfl rfl ?_; intro t20
    refine o_eql st und3 rfl rfl rfl ?_
    refine o_idx st 0 rfl reads_own rfl rfl rfl el51 ?_; intro e21 h22
    refine o_fadS st 0 rfl reads_own h22 rfl rfl fld25_3 rfl ?_
    refine stw (o_sts (enc := encGTest) (y' := (GTest.mk e21.xField e21.xLo e21.xHi (decide (t20 = 0)))) 0 rfl flelGTest rfl h22 ty4 rfl rfl rfl rfl rfl rfl ?_)
    refine c_nil ?_
    refine l_then ?_
    refine c_region ?_
    refine o_mv st rfl rfl ?_
    refine o_add st rfl rfl rfl ?_; intro t24
    refine o_as st rfl rfl ?_
    refine c_nil ?_
    refine b_norm ?_
    refine l_then ?_
    refine c_region ?_
    refine o_mv st rfl rfl ?_
    refine o_add st rfl rfl rfl ?_; intro t25
    refine o_as st rfl rfl ?_
    refine c_nil ?_
    exact l_join (((((xs3.set (t6).toNat (GTest.mk t5 e8.xLo e8.xHi e8.xNot)).set (t6).toNat (GTest.mk e12.xField t11 e12.xHi e12.xNot)).set (t6).toNat (GTest.mk e16.xField e16.xLo t15 e16.xNot)).set (t6).toNat (GTest.mk e21.xField e21.xLo e21.xHi (decide (t20 = 0)))), t24, t25) (fun a w hE hm => ⟨hE.sub ⟨rfl, rfl, rfl, trivial⟩, (hm.pick [0] rfl)⟩)
  · refine c_exit ?_
    refine l_exit ?_
    refine l_exit ?_
    refine b_exit ?_
    refine l_then ?_
    refine c_seq ?_
    refine c_region ?_
    refine o_mv st rfl rfl ?_
    refine o_as st rfl rfl ?_
    refine c_nil ?_
    refine l_then ?_
    refine c_ret ?_
    exact l_end1 Tryd.results78 (t5, xs3) () (rv_t rfl) (fun w m => NewCh.ofB m [0] rfl)

set_option maxRecDepth 100000 in
set_option maxHeartbeats 8000000 in
theorem w_laws_markRule {w0 : World} {F : Nat → Prop} {v1 : Value} {a_0_Tests : (List GTest)} {a_0_Action : Int} {a_0_Chain : Int} {k_1 : Int} {κ : (Int × (List GTest)) → Prop} (hF : ∀ b, F b → b < w0.heap.size ∧ ¬ feet [ownCh elGTest 25 v1 a_0_Tests] b) (hg : Given [ownCh elGTest 25 v1 a_0_Tests] F w0) (h : L_laws_markRule a_0_Tests a_0_Action a_0_Chain k_1 κ) :
    Calls Tryd.prog 43 #[(.agg #[v1, (.int .i64 a_0_Action), (.int .i64 a_0_Chain)]), (.int .i64 k_1)] w0 (Ret [ownCh elGTest 25 v1 a_0_Tests] F w0 κ (fun (r : (Int × (List GTest))) (u : Unit) => (.int .i64 r.1)) (fun (r : (Int × (List GTest))) (u : Unit) => [ownCh elGTest 25 v1 r.2])) := by
  refine enter0 (args := [(.agg #[v1, (.int .i64 a_0_Action), (.int .i64 a_0_Chain)]), (.int .i64 k_1)]) [ownCh elGTest 25 v1 a_0_Tests] hF hg Tryd.func43 rfl Tryd.ntmps43 rfl h ?_
  clear h hF hg
  refine c_seq ?_
  refine c_region ?_
  refine stw (o_box rfl rfl [v1, (.int .i64 a_0_Action), (.int .i64 a_0_Chain)] rfl ?_); intro b3
  refine o_as st rfl rfl ?_
  refine c_nil ?_
  refine l_then ?_
  refine c_seq ?_
  refine c_region ?_
  refine o_fad st rfl rfl fld53_0 rfl ?_
  refine o_ldc st (v := v1) 0 rfl rfl rfl ty51 rfl ?_
  refine o_mv st rfl rfl ?_
  refine pk [1, 0] rfl ?_
  refine stw (o_call (vs := [v1, (.int .i64 k_1)]) (M0 := [ownCh elGTest 25 v1 a_0_Tests]) Tryd.call78 rfl rfl (by intro w m h; exact (w_laws_markTestS (F := allB [ownCh elGTest 25 v1 a_0_Tests] w) (a_0 := a_0_Tests) (k_1 := k_1) allB_ok m.given h).mono (fun _ _ k => ret_free (fun r u => (fr_cons (free_own flelGTest) fr_nil)) k)) ?_); rintro ⟨r5, r6⟩ _
  refine o_as st rfl rfl ?_
  refine c_nil ?_
  refine l_then ?_
  refine c_seq ?_
  refine c_region ?_
  refine o_mv st rfl rfl ?_
  refine o_as st rfl rfl ?_
  refine c_nil ?_
  refine l_then ?_
  refine c_ret ?_
  exact l_end1 Tryd.results43 (r5, r6) () (rv_t rfl) (fun w m => NewCh.ofB m [0] rfl)

set_option maxRecDepth 100000 in
set_option maxHeartbeats 8000000 in
theorem w_laws_heldTestS {w0 : World} {F : Nat → Prop} {v1 : Value} {a_0 : (List GTest)} {k_1 : Int} {κ : Int → Prop} (hF : ∀ b, F b → b < w0.heap.size ∧ ¬ feet [] b) (hv1 : Sl elGTest F w0 v1 a_0) (h : L_laws_heldTestS a_0 k_1 κ) :
    Calls Tryd.prog 79 #[v1, (.int .i64 k_1)] w0 (Ret [] F w0 κ (fun (r : Int) (u : Unit) => (.int .i64 r)) (fun (r : Int) (u : Unit) => [])) := by
  refine enterS (args := [v1, (.int .i64 k_1)]) [] hF (Given.nil _ _) Tryd.func79 rfl Tryd.ntmps79 rfl h ?_
  clear h hF
  refine c_seq ?_
  refine c_region ?_
  refine o_as st rfl rfl ?_
  refine c_nil ?_
  refine l_then ?_
  refine c_seq ?_
  refine c_seq ?_
  refine c_region ?_
  refine o_as st rfl rfl ?_
  refine c_nil ?_
  refine l_then ?_
  refine c_block ?_
  refine c_loop (σ := (Int × Int)) (fun ((t3, t4) : (Int × Int)) (a : Act) (w : World) => Has 51 [(0, v1), (1, (.int .i64 t3)), (5, (.int .i64 t4))] a ∧ Mem (gB F [] w0) (feet []) w0 [snapCh w0 F] w) (fun a w hE hm => ⟨hE.sub ⟨rfl, rfl, rfl, trivial⟩, (hm.pick [0] rfl)⟩) ?_
  rintro nx5 ⟨t3, t4⟩ a w ⟨hE, hm⟩ h
  refine nx_of hE hm h ?_
  clear hE hm h
  refine c_seq ?_
  refine c_seq ?_
  refine c_region ?_
  refine o_mv st rfl rfl ?_
  refine o_mv st rfl rfl ?_
  refine o_len st el51 0 rfl (reads_snap hv1) rfl rfl ?_
  refine o_lss st rfl rfl rfl ?_
  refine c_nil ?_
  refine l_then ?_
  refine c_cond rfl ?_ ?_
  · refine c_skip ?_
    refine l_then ?_
    refine c_seq ?_
    refine c_block ?_
    refine c_seq ?_
    refine c_seq ?_
    refine c_region ?_
    refine o_mv st rfl rfl ?_
    refine o_mv st rfl rfl ?_
    refine o_idx st 0 rfl (reads_snap hv1) rfl rfl rfl el51 ?_; intro e6 h7
    refine o_fadS st 0 rfl (reads_snap hv1) h7 rfl rfl fld25_0 rfl ?_
    refine o_lds st (enc := encGTest) (u := (.int .i64 e6.xField)) 0 rfl (reads_snap hv1) flelGTest rfl h7 rfl rfl ty3 rfl ?_
    refine o_mv st rfl rfl ?_
    refine o_neq st und3 rfl rfl rfl ?_
    refine c_nil ?_
    refine l_then ?_
    refine c_cond rfl ?_ ?_
    · refine c_seq ?_
      refine c_region ?_
      refine o_as st rfl rfl ?_
      refine c_nil ?_
      refine l_then ?_
      refine c_ret ?_
      refine l_ret ?_
      refine b_ret ?_
      refine l_ret ?_
      refine l_ret ?_
      refine b_ret ?_
      refine l_ret ?_
      exact l_end1 Tryd.results79 (-1) () (rv_t rfl) (fun _ _ => NewCh.nil _ _ _ _)
    · refine c_skip ?_
      refine l_then ?_
      refine c_seq ?_
      refine c_region ?_
      refine o_mv st rfl rfl ?_
      refine o_add st rfl rfl rfl ?_; intro t8
      refine o_as st rfl rfl ?_
      refine c_nil ?_
      refine l_then ?_
      refine c_seq ?_
      refine c_seq ?_
      refine c_region ?_
      refine o_mv st rfl rfl ?_
      refine o_mv st rfl rfl ?_
      refine o_idx st 0 rfl (reads_snap hv1) rfl rfl rfl el51 ?_; intro e9 h10
      refine o_fadS st 0 rfl (reads_snap hv1) h10 rfl rfl fld25_1 rfl ?_
      refine o_lds st (enc := encGTest) (u := (.int .i64 e9.xLo)) 0 rfl (reads_snap hv1) flelGTest rfl h10 rfl rfl ty3 rfl ?_
      refine o_mv st rfl rfl ?_
      refine o_neq st und3 rfl rfl rfl ?_
      refine c_nil ?_
      refine l_then ?_
      refine c_cond rfl ?_ ?_
      · refine c_seq ?_
        refine c_region ?_
        refine o_as st rfl rfl ?_
        refine c_nil ?_
        refine l_then ?_
        refine c_ret ?_
        refine l_ret ?_
        refine b_ret ?_
        refine l_ret ?_
        refine l_ret ?_
        refine b_ret ?_
        refine l_ret ?_
        exact l_end1 Tryd.results79 (-1) () (rv_t rfl) (fun _ _ => NewCh.nil _ _ _ _)
      · refine c_skip ?_
        refine l_then ?_
        refine c_seq ?_
        refine c_region ?_
        refine o_mv st rfl rfl ?_
        refine o_add st rfl rfl rfl ?_; intro t11
        refine o_as st rfl rfl ?_
        refine c_nil ?_
        refine l_then ?_
        refine c_seq ?_
        refine c_seq ?_
        refine c_region ?_
        refine o_mv st rfl rfl ?_
        refine o_mv st rfl rfl ?_
        refine o_idx st 0 rfl (reads_snap hv1) rfl rfl rfl el51 ?_; intro e12 h13
        refine o_fadS st 0 rfl (reads_snap hv1) h13 rfl rfl fld25_2 rfl ?_
        refine o_lds st (enc := encGTest) (u := (.int .i64 e12.xHi)) 0 rfl (reads_snap hv1) flelGTest rfl h13 rfl rfl ty3 rfl ?_
        refine o_mv st rfl rfl ?_
        refine o_neq st und3 rfl rfl rfl ?_
        refine c_nil ?_
        refine l_then ?_
        refine c_cond rfl ?_ ?_
        · refine c_seq ?_
          refine c_region ?_
          refine o_as st rfl rfl ?_
          refine c_nil ?_
          refine l_then ?_
          refine c_ret ?_
          refine l_ret ?_
          refine b_ret ?_
          refine l_ret ?_
          refine l_ret ?_
          refine b_ret ?_
          refine l_ret ?_
          exact l_end1 Tryd.results79 (-1) () (rv_t rfl) (fun _ _ => NewCh.nil _ _ _ _)
        · refine c_skip ?_
          refine l_then ?_
          refine c_seq ?_
          refine c_region ?_
          refine o_mv st rfl rfl ?_
          refine o_add st rfl rfl rfl ?_; intro t14
          refine o_as st rfl rfl ?_
          refine c_nil ?_
          refine l_then ?_
          refine c_seq ?_
          refine c_seq ?_
          refine c_region ?_
          refine o_mv st rfl rfl ?_
          refine o_mv st rfl rfl ?_
          refine o_idx st 0 rfl (reads_snap hv1) rfl rfl rfl el51 ?_; intro e15 h16
          refine o_fadS st 0 rfl (reads_snap hv1) h16 rfl rfl fld25_3 rfl ?_
          refine o_lds st (enc := encGTest) (u := (.bool e15.xNot)) 0 rfl (reads_snap hv1) flelGTest rfl h16 rfl rfl ty4 rfl ?_
          refine o_mv st rfl rfl ?_
          refine o_rem st rfl rfl rfl ?_; intro t17
          refine o_eql st und3 rfl rfl rfl ?_
          refine o_neqB st und4 rfl rfl rfl ?_
          refine c_nil ?_
          refine l_then ?_
          refine c_cond rfl ?_ ?_
          · refine c_seq ?_
            refine c_region ?_
            refine o_as st rfl rfl ?_
            refine c_nil ?_
            refine l_then ?_
            refine c_ret ?_
            refine l_ret ?_
            refine b_ret ?_
            refine l_ret ?_
            refine l_ret ?_
            refine b_ret ?_
            refine l_ret ?_
            exact l_end1 Tryd.results79 (-1) () (rv_t rfl) (fun _ _ => NewCh.nil _ _ _ _)
          · refine c_skip ?_
            refine l_then ?_
            refine c_region ?_
            refine o_mv st rfl rfl ?_
            refine o_add st rfl rfl rfl ?_; intro t18
            refine o_as st rfl rfl ?_
            refine c_nil ?_
            refine b_norm ?_
            refine l_then ?_
            refine c_region ?_
            refine o_mv st rfl rfl ?_
            refine o_add st rfl rfl rfl ?_; intro t19
            refine o_as st rfl rfl ?_
            refine c_nil ?_
            exact l_join (t18, t19) (fun a w hE hm => ⟨hE.sub ⟨rfl, rfl, rfl, trivial⟩, (hm.pick [0] rfl)⟩)
  · refine c_exit ?_
    refine l_exit ?_
    refine l_exit ?_
    refine b_exit ?_
    refine l_then ?_
    refine c_seq ?_
    refine c_region ?_
    refine o_mv st rfl rfl ?_
    refine o_as st rfl rfl ?_
    refine c_nil ?_
    refine l_then ?_
    refine c_ret ?_
    exact l_end1 Tryd.results79 t3 () (rv_t rfl) (fun _ _ => NewCh.nil _ _ _ _)

set_option maxRecDepth 100000 in
set_option maxHeartbeats 8000000 in
theorem w_laws_heldRule {w0 : World} {F : Nat → Prop} {v1 : Value} {a_0 : GRule} {k_1 : Int} {κ : Int → Prop} (hF : ∀ b, F b → b < w0.heap.size ∧ ¬ feet [] b) (hv1 : Sl elGTest F w0 v1 a_0.xTests) (h : L_laws_heldRule a_0 k_1 κ) :
    Calls Tryd.prog 44 #[(.agg #[v1, (.int .i64 a_0.xAction), (.int .i64 a_0.xChain)]), (.int .i64 k_1)] w0 (Ret [] F w0 κ (fun (r : Int) (u : Unit) => (.int .i64 r)) (fun (r : Int) (u : Unit) => [])) := by
  refine enterS (args := [(.agg #[v1, (.int .i64 a_0.xAction), (.int .i64 a_0.xChain)]), (.int .i64 k_1)]) [] hF (Given.nil _ _) Tryd.func44 rfl Tryd.ntmps44 rfl h ?_
  clear h hF
  refine c_seq ?_
  refine c_region ?_
  obtain ⟨a3, l4, q5, hs_⟩ := sl_val hv1; subst hs_
  refine stw (o_box rfl rfl [(.slice a3 l4 q5), (.int .i64 a_0.xAction), (.int .i64 a_0.xChain)] rfl ?_); intro b6
  refine o_as st rfl rfl ?_
  refine c_nil ?_
  refine l_then ?_
  refine c_seq ?_
  refine c_region ?_
  refine o_fad st rfl rfl fld53_0 rfl ?_
  refine o_ldc st (v := (.slice a3 l4 q5)) 0 rfl rfl rfl ty51 rfl ?_
  refine o_mv st rfl rfl ?_
  refine stw (o_callP (vs := [(.slice a3 l4 q5), (.int .i64 k_1)]) Tryd.call79 rfl rfl (by intro w m h; exact (w_laws_heldTestS (F := allB [] w) (a_0 := a_0.xTests) (k_1 := k_1) allB_ok (m.rd0 1 rfl (reads_snap hv1)) h).mono (fun _ _ k => ret_free (fun r u => fr_nil) k)) ?_); rintro r8 _
  refine o_as st rfl rfl ?_
  refine c_nil ?_
  refine l_then ?_
  refine c_seq ?_
  refine c_seq ?_
  refine c_region ?_
  refine o_mv st rfl rfl ?_
  refine o_lss st rfl rfl rfl ?_
  refine c_nil ?_
  refine l_then ?_
  refine c_cond rfl ?_ ?_
  · refine c_seq ?_
    refine c_region ?_
    refine o_as st rfl rfl ?_
    refine c_nil ?_
    refine l_then ?_
    refine c_ret ?_
    refine l_ret ?_
    exact l_end1 Tryd.results44 (-1) () (rv_t rfl) (fun _ _ => NewCh.nil _ _ _ _)
  · refine c_skip ?_
    refine l_then ?_
    refine c_seq ?_
    refine c_region ?_
    refine o_mv st rfl rfl ?_
    refine o_as st rfl rfl ?_
    refine c_nil ?_
    refine l_then ?_
    refine c_ret ?_
    exact l_end1 Tryd.results44 r8 () (rv_t rfl) (fun _ _ => NewCh.nil _ _ _ _)

set_option maxRecDepth 100000 in
set_option maxHeartbeats 8000000 in
theorem w_laws_FnExactReadRule {w0 : World} {F : Nat → Prop} {aS_0 : ByteArray} {κ : Bool → Prop} (hF : ∀ b, F b → b < w0.heap.size ∧ ¬ feet [] b) (hgl0 : Sl elGFieldShape F w0 (.slice (some ⟨0, 0, none⟩) 4 4) gl_impl_fieldShapes) (hgl1 : Tb F w0) (h : L_laws_FnExactReadRule aS_0 κ) :
    Calls Tryd.prog 12 #[(.string aS_0)] w0 (Ret [] F w0 κ (fun (r : Bool) (u : Unit) => (.bool r)) (fun (r : Bool) (u : Unit) => [])) := by
  refine enterS (args := [(.string aS_0)]) [] hF (Given.nil _ _) Tryd.func12 rfl Tryd.ntmps12 rfl h ?_
  clear h hF
  refine c_seq ?_
  refine c_region ?_
  refine o_as st rfl rfl ?_
  refine c_nil ?_
  refine l_then ?_
  refine c_seq ?_
  refine c_seq ?_
  refine c_region ?_
  refine o_mv st rfl rfl ?_
  refine o_lenS st und9 rfl rfl ?_
  refine o_gtr st rfl rfl rfl ?_
  refine c_nil ?_
  refine l_then ?_
  refine c_cond rfl ?_ ?_
  · refine c_seq ?_
    refine c_region ?_
    refine o_as st rfl rfl ?_
    refine c_nil ?_
    refine l_then ?_
    refine c_ret ?_
    refine l_ret ?_
    exact l_end1 Tryd.results12 true () (rv_t rfl) (fun _ _ => NewCh.nil _ _ _ _)
  · refine c_skip ?_
    refine l_then ?_
    refine c_seq ?_
    refine c_region ?_
    refine o_mv st rfl rfl ?_
    refine stw (o_callP (vs := [(.string aS_0)]) Tryd.call42 rfl rfl (by intro w m h; exact (w_spec_ReadRule (F := allB [] w) (s_0 := aS_0) allB_ok h).mono (fun _ _ k => ret_free (fun r u => (fr_cons (free_own flelGTest) fr_nil)) k)) ?_); rintro ⟨r1, r4⟩ v2
    refine o_mv st rfl rfl ?_
    refine o_ext st (vs := [(.agg #[v2, (.int .i64 r1.xAction), (.int .i64 r1.xChain)]), (.bool r4)]) rfl rfl rfl ?_
    refine o_ext st (vs := [(.agg #[v2, (.int .i64 r1.xAction), (.int .i64 r1.xChain)]), (.bool r4)]) rfl rfl rfl ?_
    refine stw (o_alloc rfl [(.slice none 0 0), (.int .i64 0), (.int .i64 0)] zero53 ?_); intro b5
    refine nx_own 1 rfl ?_; rintro a7 l8 q9 rfl
    refine stw (o_stc (cs' := [(.slice a7 l8 q9), (.int .i64 r1.xAction), (.int .i64 r1.xChain)]) 0 rfl rfl rfl ty53 rfl rfl rfl rfl ?_)
    refine o_as st rfl rfl ?_
    refine c_nil ?_
    refine l_then ?_
    refine c_seq ?_
    refine c_region ?_
    refine o_mv st rfl rfl ?_
    refine stw (o_callP (vs := [(.string aS_0)]) Tryd.call40 rfl rfl (by intro w m h; exact (w_impl_ReadRule (F := allB [] w) (s_0 := aS_0) allB_ok (m.rd0 2 rfl (reads_snap hgl0)) ((hgl1.of (m.get (i := 2) rfl)).mono fz_ok0) h).mono (fun _ _ k => ret_free (fun r u => (fr_cons (free_own flelGTest) fr_nil)) k)) ?_); rintro ⟨r10, r13⟩ v11
    refine o_mv st rfl rfl ?_
    refine o_ext st (vs := [(.agg #[v11, (.int .i64 r10.xAction), (.int .i64 r10.xChain)]), (.bool r13)]) rfl rfl rfl ?_
    refine o_ext st (vs := [(.agg #[v11, (.int .i64 r10.xAction), (.int .i64 r10.xChain)]), (.bool r13)]) rfl rfl rfl ?_
    refine stw (o_alloc rfl [(.slice none 0 0), (.int .i64 0), (.int .i64 0)] zero53 ?_); intro b14
    refine nx_own 1 rfl ?_; rintro a16 l17 q18 rfl
    refine stw (o_stc (cs' := [(.slice a16 l17 q18), (.int .i64 r10.xAction), (.int .i64 r10.xChain)]) 0 rfl rfl rfl ty53 rfl rfl rfl rfl ?_)
    refine o_as st rfl rfl ?_
    refine c_nil ?_
    refine l_then ?_
    refine c_seq ?_
    refine c_join (σ := Bool) (fun (t80 : Bool) (a : Act) (w : World) => Has 66 [(0, (.string aS_0)), (3, (.pointer (some ⟨b5, 0, none⟩))), (4, (.bool r4)), (5, (.pointer (some ⟨b14, 0, none⟩))), (32, (.bool t80))] a ∧ Mem (gB F [] w0) (feet []) w0 [cellCh b14 [(.slice a16 l17 q18), (.int .i64 r10.xAction), (.int .i64 r10.xChain)] 53, ownCh elGTest 25 (.slice a16 l17 q18) r10.xTests, cellCh b5 [(.slice a7 l8 q9), (.int .i64 r1.xAction), (.int .i64 r1.xChain)] 53, ownCh elGTest 25 (.slice a7 l8 q9) r1.xTests, snapCh w0 F] w) ?_ ?_
    · intro k81
      refine c_region ?_
      refine o_ldc st (v := (.agg #[(.slice a16 l17 q18), (.int .i64 r10.xAction), (.int .i64 r10.xChain)])) 0 rfl rfl rfl ty53 rfl ?_
      refine o_ldc st (v := (.agg #[(.slice a7 l8 q9), (.int .i64 r1.xAction), (.int .i64 r1.xChain)])) 2 rfl rfl rfl ty53 rfl ?_
      refine stw (o_callP (vs := [(.agg #[(.slice a16 l17 q18), (.int .i64 r10.xAction), (.int .i64 r10.xChain)]), (.agg #[(.slice a7 l8 q9), (.int .i64 r1.xAction), (.int .i64 r1.xChain)])]) Tryd.call36 rfl rfl (by intro w m h; exact (w_laws_eqRule (F := allB [] w) (a_0 := r10) (b_1 := r1) allB_ok (m.rd0 1 rfl reads_own) (m.rd0 3 rfl reads_own) h).mono (fun _ _ k => ret_free (fun r u => fr_nil) k)) ?_); rintro r19 _
      refine o_not st rfl rfl ?_
      refine o_mv st rfl rfl ?_
      refine st_sp (dj := 28) rfl ?_ ?_
      · refine st_s rfl rfl rfl rfl ?_
        refine st_s rfl rfl rfl rfl ?_
        refine st_s rfl rfl rfl rfl ?_
        refine o_pickT st rfl rfl rfl ?_
        refine c_nil ?_
        exact l_join true (fun a w hE hm => ⟨hE.sub ⟨rfl, rfl, rfl, rfl, rfl, trivial⟩, (hm.pick [0, 1, 2, 3, 4] rfl)⟩)
      · refine o_mv (st_g rfl rfl) rfl rfl ?_
        refine o_mv (st_g rfl rfl) rfl rfl ?_
        refine o_neqB (st_g rfl rfl) und4 rfl rfl rfl ?_
        refine o_pickF st rfl rfl rfl ?_
        refine c_nil ?_
        exact l_join (!(decide (r13 = r4))) (fun a w hE hm => ⟨hE.sub ⟨rfl, rfl, rfl, rfl, rfl, trivial⟩, (hm.pick [0, 1, 2, 3, 4] rfl)⟩)
    · rintro t80 a w ⟨hE, hm⟩ h
      refine nx_of hE hm h ?_
      clear hE hm h
      refine c_cond rfl ?_ ?_
      · refine c_seq ?_
        refine c_region ?_
        refine o_as st rfl rfl ?_
        refine c_nil ?_
        refine l_then ?_
        refine c_ret ?_
        refine l_ret ?_
        exact l_end1 Tryd.results12 false () (rv_t rfl) (fun _ _ => NewCh.nil _ _ _ _)
      · refine c_skip ?_
        refine l_then ?_
        refine c_seq ?_
        refine c_region ?_
        refine o_as st rfl rfl ?_
        refine c_nil ?_
        refine l_then ?_
        refine c_seq ?_
        refine c_region ?_
        refine o_ldc st (v := (.agg #[(.slice a16 l17 q18), (.int .i64 r10.xAction), (.int .i64 r10.xChain)])) 0 rfl rfl rfl ty53 rfl ?_
        refine o_mv st rfl rfl ?_
        refine pk [1, 0, 2, 3, 4] rfl ?_
        refine stw (o_call (vs := [(.agg #[(.slice a16 l17 q18), (.int .i64 r10.xAction), (.int .i64 r10.xChain)]), (.int .i64 1)]) (M0 := [ownCh elGTest 25 (.slice a16 l17 q18) r10.xTests]) Tryd.call43 rfl rfl (by intro w m h; exact (w_laws_markRule (F := allB [ownCh elGTest 25 (.slice a16 l17 q18) r10.xTests] w) (a_0_Tests := r10.xTests) (a_0_Action := r10.xAction) (a_0_Chain := r10.xChain) (k_1 := 1) allB_ok m.given h).mono (fun _ _ k => ret_free (fun r u => (fr_cons (free_own flelGTest) fr_nil)) k)) ?_); rintro ⟨r82, r83⟩ _
        refine o_as st rfl rfl ?_
        refine c_nil ?_
        refine l_then ?_
        refine c_seq ?_
        refine c_region ?_
        refine o_as st rfl rfl ?_
        refine c_nil ?_
        refine l_then ?_
        refine c_seq ?_
        refine c_region ?_
        refine o_ldc st (v := (.agg #[(.slice a16 l17 q18), (.int .i64 r10.xAction), (.int .i64 r10.xChain)])) 1 rfl rfl rfl ty53 rfl ?_
        refine o_mv st rfl rfl ?_
        refine stw (o_callP (vs := [(.agg #[(.slice a16 l17 q18), (.int .i64 r10.xAction), (.int .i64 r10.xChain)]), (.int .i64 1)]) Tryd.call44 rfl rfl (by intro w m h; exact (w_laws_heldRule (F := allB [] w) (a_0 := (GRule.mk r83 r10.xAction r10.xChain)) (k_1 := 1) allB_ok (m.rd0 0 rfl reads_own) h).mono (fun _ _ k => ret_free (fun r u => fr_nil) k)) ?_); rintro r85 _
        refine o_as st rfl rfl ?_
        refine c_nil ?_
        refine l_then ?_
        refine c_seq ?_
        refine c_seq ?_
        refine c_region ?_
        refine o_mv st rfl rfl ?_
        refine o_lss st rfl rfl rfl ?_
        refine c_nil ?_
        refine l_then ?_
        refine c_cond rfl ?_ ?_
        · refine c_seq ?_
          refine c_region ?_
          refine o_as st rfl rfl ?_
          refine c_nil ?_
          refine l_then ?_
          refine c_ret ?_
          refine l_ret ?_
          exact l_end1 Tryd.results12 false () (rv_t rfl) (fun _ _ => NewCh.nil _ _ _ _)
        · refine c_skip ?_
          refine l_then ?_
          refine c_seq ?_
          refine c_seq ?_
          refine c_region ?_
          refine o_mv st rfl rfl ?_
          refine o_mv st rfl rfl ?_
          refine o_neq st und3 rfl rfl rfl ?_
          refine c_nil ?_
          refine l_then ?_
          refine c_cond rfl ?_ ?_
          · refine c_seq ?_
            refine c_region ?_
            refine o_as st rfl rfl ?_
            refine c_nil ?_
            refine l_then ?_
            refine c_ret ?_
            refine l_ret ?_
            exact l_end1 Tryd.results12 false () (rv_t rfl) (fun _ _ => NewCh.nil _ _ _ _)
          · refine c_skip ?_
            refine l_then ?_
            refine c_seq ?_
            refine c_region ?_
            refine o_mv st rfl rfl ?_
            refine stw (o_callP (vs := [(.string aS_0)]) Tryd.call40 rfl rfl (by intro w m h; exact (w_impl_ReadRule (F := allB [] w) (s_0 := aS_0) allB_ok (m.rd0 4 rfl (reads_snap hgl0)) ((hgl1.of (m.get (i := 4) rfl)).mono fz_ok0) h).mono (fun _ _ k => ret_free (fun r u => (fr_cons (free_own flelGTest) fr_nil)) k)) ?_); rintro ⟨r86, r89⟩ v87
            refine o_mv st rfl rfl ?_
            refine o_ext st (vs := [(.agg #[v87, (.int .i64 r86.xAction), (.int .i64 r86.xChain)]), (.bool r89)]) rfl rfl rfl ?_
            refine o_ext st (vs := [(.agg #[v87, (.int .i64 r86.xAction), (.int .i64 r86.xChain)]), (.bool r89)]) rfl rfl rfl ?_
            refine stw (o_alloc rfl [(.slice none 0 0), (.int .i64 0), (.int .i64 0)] zero53 ?_); intro b90
            refine nx_own 1 rfl ?_; rintro a92 l93 q94 rfl
            refine stw (o_stc (cs' := [(.slice a92 l93 q94), (.int .i64 r86.xAction), (.int .i64 r86.xChain)]) 0 rfl rfl rfl ty53 rfl rfl rfl rfl ?_)
            refine o_as st rfl rfl ?_
            refine c_nil ?_
            refine l_then ?_
            refine c_seq ?_
            refine c_join (σ := Bool) (fun (t156 : Bool) (a : Act) (w : World) => Has 66 [(5, (.pointer (some ⟨b14, 0, none⟩))), (7, (.int .i64 r82)), (57, (.bool t156))] a ∧ Mem (gB F [] w0) (feet []) w0 [ownCh elGTest 25 (.slice a16 l17 q18) r83, cellCh b14 [(.slice a16 l17 q18), (.int .i64 r10.xAction), (.int .i64 r10.xChain)] 53, snapCh w0 F] w) ?_ ?_
            · intro k157
              refine c_region ?_
              refine o_ldc st (v := (.agg #[(.slice a92 l93 q94), (.int .i64 r86.xAction), (.int .i64 r86.xChain)])) 0 rfl rfl rfl ty53 rfl ?_
              refine o_ldc st (v := (.agg #[(.slice a7 l8 q9), (.int .i64 r1.xAction), (.int .i64 r1.xChain)])) 4 rfl rfl rfl ty53 rfl ?_
              refine stw (o_callP (vs := [(.agg #[(.slice a92 l93 q94), (.int .i64 r86.xAction), (.int .i64 r86.xChain)]), (.agg #[(.slice a7 l8 q9), (.int .i64 r1.xAction), (.int .i64 r1.xChain)])]) Tryd.call36 rfl rfl (by intro w m h; exact (w_laws_eqRule (F := allB [] w) (a_0 := r86) (b_1 := r1) allB_ok (m.rd0 1 rfl reads_own) (m.rd0 5 rfl reads_own) h).mono (fun _ _ k => ret_free (fun r u => fr_nil) k)) ?_); rintro r95 _
              refine o_not st rfl rfl ?_
              refine o_mv st rfl rfl ?_
              refine st_sp (dj := 53) rfl ?_ ?_
              · refine st_s rfl rfl rfl rfl ?_
                refine st_s rfl rfl rfl rfl ?_
                refine st_s rfl rfl rfl rfl ?_
                refine o_pickT st rfl rfl rfl ?_
                refine c_nil ?_
                exact l_join true (fun a w hE hm => ⟨hE.sub ⟨rfl, rfl, rfl, trivial⟩, (hm.pick [2, 3, 6] rfl)⟩)
              · refine o_mv (st_g rfl rfl) rfl rfl ?_
                refine o_mv (st_g rfl rfl) rfl rfl ?_
                refine o_neqB (st_g rfl rfl) und4 rfl rfl rfl ?_
                refine o_pickF st rfl rfl rfl ?_
                refine c_nil ?_
                exact l_join (!(decide (r89 = r4))) (fun a w hE hm => ⟨hE.sub ⟨rfl, rfl, rfl, trivial⟩, (hm.pick [2, 3, 6] rfl)⟩)
            · rintro t156 a w ⟨hE, hm⟩ h
              refine nx_of hE hm h ?_
              clear hE hm h
              refine c_cond rfl ?_ ?_
              · refine c_seq ?_
                refine c_region ?_
                refine o_as st rfl rfl ?_
                refine c_nil ?_
                refine l_then ?_
                refine c_ret ?_
                refine l_ret ?_
                exact l_end1 Tryd.results12 false () (rv_t rfl) (fun _ _ => NewCh.nil _ _ _ _)
              · refine c_skip ?_
                refine l_then ?_
                refine c_seq ?_
                refine c_region ?_
                refine o_as st rfl rfl ?_
                refine c_nil ?_
                refine l_then ?_
                refine c_seq ?_
                refine c_region ?_
                refine o_ldc st (v := (.agg #[(.slice a16 l17 q18), (.int .i64 r10.xAction), (.int .i64 r10.xChain)])) 1 rfl rfl rfl ty53 rfl ?_
                refine o_mv st rfl rfl ?_
                refine stw (o_callP (vs := [(.agg #[(.slice a16 l17 q18), (.int .i64 r10.xAction), (.int .i64 r10.xChain)]), (.int .i64 1)]) Tryd.call44 rfl rfl (by intro w m h; exact (w_laws_heldRule (F := allB [] w) (a_0 := (GRule.mk r83 r10.xAction r10.xChain)) (k_1 := 1) allB_ok (m.rd0 0 rfl reads_own) h).mono (fun _ _ k => ret_free (fun r u => fr_nil) k)) ?_); rintro r158 _
                refine o_as st rfl rfl ?_
                refine c_nil ?_
                refine l_then ?_
                refine c_seq ?_
                refine c_seq ?_
                refine c_region ?_
                refine o_mv st rfl rfl ?_
                refine o_lss st rfl rfl rfl ?_
                refine c_nil ?_
                refine l_then ?_
                refine c_cond rfl ?_ ?_
                · refine c_seq ?_
                  refine c_region ?_
                  refine o_as st rfl rfl ?_
                  refine c_nil ?_
                  refine l_then ?_
                  refine c_ret ?_
                  refine l_ret ?_
                  exact l_end1 Tryd.results12 false () (rv_t rfl) (fun _ _ => NewCh.nil _ _ _ _)
                · refine c_skip ?_
                  refine l_then ?_
                  refine c_seq ?_
                  refine c_seq ?_
                  refine c_region ?_
                  refine o_mv st rfl rfl ?_
                  refine o_mv st rfl rfl ?_
                  refine o_neq st und3 rfl rfl rfl ?_
                  refine c_nil ?_
                  refine l_then ?_
                  refine c_cond rfl ?_ ?_
                  · refine c_seq ?_
                    refine c_region ?_
                    refine o_as st rfl rfl ?_
                    refine c_nil ?_
                    refine l_then ?_
                    refine c_ret ?_
                    refine l_ret ?_
                    exact l_end1 Tryd.results12 false () (rv_t rfl) (fun _ _ => NewCh.nil _ _ _ _)
                  · refine c_skip ?_
                    refine l_then ?_
                    refine c_seq ?_
                    refine c_region ?_
                    refine o_as st rfl rfl ?_
                    refine c_nil ?_
                    refine l_then ?_
                    refine c_ret ?_
                    exact l_end1 Tryd.results12 true () (rv_t rfl) (fun _ _ => NewCh.nil _ _ _ _)

set_option maxRecDepth 100000 in
set_option maxHeartbeats 8000000 in
theorem w_spec_l20Line {w0 : World} {F : Nat → Prop} {b1 : Nat} {v2 : Value} {r_0_b : (List UInt8)} {r_0_p : Int} {n_1 : Int} {κ : (ByteArray × Int) → Prop} (hF : ∀ b, F b → b < w0.heap.size ∧ ¬ feet [cellCh b1 [v2, (.int .i64 r_0_p)] 111] b) (hg : Given [cellCh b1 [v2, (.int .i64 r_0_p)] 111] F w0) (hv2 : Sl elU8 F w0 v2 r_0_b) (h : L_spec_l20Line r_0_b r_0_p n_1 κ) :
    Calls Tryd.prog 80 #[(.pointer (some ⟨b1, 0, none⟩)), (.int .i64 n_1)] w0 (Ret [cellCh b1 [v2, (.int .i64 r_0_p)] 111] F w0 κ (fun (r : (ByteArray × Int)) (u : Unit) => (.string r.1)) (fun (r : (ByteArray × Int)) (u : Unit) => [cellCh b1 [v2, (.int .i64 r.2)] 111])) := by
  refine enterS (args := [(.pointer (some ⟨b1, 0, none⟩)), (.int .i64 n_1)]) [cellCh b1 [v2, (.int .i64 r_0_p)] 111] hF hg Tryd.func80 rfl Tryd.ntmps80 rfl h ?_
  clear h hF hg
  refine c_seq ?_
  refine c_region ?_
  refine o_as st rfl rfl ?_
  refine c_nil ?_
  refine l_then ?_
  refine c_seq ?_
  refine c_region ?_
  refine o_mv st rfl rfl ?_
  refine stw (o_call (vs := [(.pointer (some ⟨b1, 0, none⟩)), (.int .i64 1), (.int .i64 3), (.int .i64 0)]) (M0 := [cellCh b1 [v2, (.int .i64 r_0_p)] 111]) Tryd.call75 rfl rfl (by intro w m h; exact (w_spec_l20Rule (F := allB [cellCh b1 [v2, (.int .i64 r_0_p)] 111] w) (r_0_b := r_0_b) (r_0_p := r_0_p) (first_1 := 1) (chains_2 := 3) (n_3 := 0) allB_ok m.given (m.rdM 0 rfl (reads_snap hv2)) h).mono (fun _ _ k => ret_free (fun r u => (fr_cons (free_own flelGTest) (fr_cons free_cell fr_nil))) k)) ?_); rintro ⟨r5, r8⟩ v6
  refine stw (o_callP (vs := [(.agg #[v6, (.int .i64 r5.xAction), (.int .i64 r5.xChain)])]) Tryd.call33 rfl rfl (by intro w m h; exact (w_spec_RuleText (F := allB [] w) (r_0 := r5) allB_ok (m.rd0 0 rfl reads_own) h).mono (fun _ _ k => ret_free (fun r u => fr_nil) k)) ?_); rintro r9 _
  refine o_as st rfl rfl ?_
  refine c_nil ?_
  refine l_then ?_
  refine c_join (σ := (Int × ByteArray)) (fun ((t81, t82) : (Int × ByteArray)) (a : Act) (w : World) => Has 24 [(5, (.string t82))] a ∧ Mem (gB F [cellCh b1 [v2, (.int .i64 r_0_p)] 111] w0) (feet [cellCh b1 [v2, (.int .i64 r_0_p)] 111]) w0 [cellCh b1 [v2, (.int .i64 t81)] 111, snapCh w0 F] w) ?_ ?_
  · intro k83
    refine c_seq ?_
    refine c_region ?_
    refine o_mv st rfl rfl ?_
    refine o_mv st rfl rfl ?_
    refine pk [1, 0, 2] rfl ?_
    refine stw (o_call (vs := [(.pointer (some ⟨b1, 0, none⟩)), (.int .i64 n_1)]) (M0 := [cellCh b1 [v2, (.int .i64 r8)] 111]) Tryd.call64 rfl rfl (by intro w m h; exact (w_spec_l20Rd_odd (F := allB [cellCh b1 [v2, (.int .i64 r8)] 111] w) (r_0_b := r_0_b) (r_0_p := r8) (n_1 := n_1) allB_ok m.given (m.rdM 1 rfl (reads_snap hv2)) h).mono (fun _ _ k => ret_free (fun r u => (fr_cons free_cell fr_nil)) k)) ?_); rintro ⟨r10, r11⟩ _
    refine c_nil ?_
    refine l_then ?_
    refine c_cond rfl ?_ ?_
    · refine c_region ?_
      refine o_mv st rfl rfl ?_
      refine o_cat st rfl rfl rfl ?_; intro s12
      refine o_mv st rfl rfl ?_
      refine o_cat st rfl rfl rfl ?_; intro s13
      refine o_mv st rfl rfl ?_
      refine o_cat st rfl rfl rfl ?_; intro s14
      refine stw (o_bsl (enc := encStr) (qs := [(0, (.string s12)), (1, (.string s13)), (2, (.string (ByteArray.mk #[99, 97, 108, 108]))), (3, (.string (ByteArray.mk #[99, 97, 108, 108, 32, 53]))), (4, (.string (ByteArray.mk #[97, 99, 99, 101, 112, 116, 32, 49]))), (5, (.string (ByteArray.mk #[]))), (6, (.string (ByteArray.mk #[100, 114, 111, 112, 44, 116, 111, 32, 49]))), (7, (.string (ByteArray.mk #[114, 101, 116, 117, 114, 110, 44, 32, 102, 114, 111, 109, 32, 57, 45, 56]))), (8, (.string s14)), (9, (.string (ByteArray.mk #[99, 104, 97, 105, 110, 32, 48]))), (10, (.string (ByteArray.mk #[110, 111, 110, 101, 44, 32, 112, 111, 114, 116, 32, 49, 44, 32, 112, 111, 114, 116, 32, 49, 44, 32, 112, 111, 114, 116, 32, 49, 44, 32, 112, 111, 114, 116, 32, 49, 44, 32, 112, 111, 114, 116, 32, 49, 44, 32, 112, 111, 114, 116, 32, 49, 44, 32, 112, 111, 114, 116, 32, 49])))]) (cells := [(.string s12), (.string s13), (.string (ByteArray.mk #[99, 97, 108, 108])), (.string (ByteArray.mk #[99, 97, 108, 108, 32, 53])), (.string (ByteArray.mk #[97, 99, 99, 101, 112, 116, 32, 49])), (.string (ByteArray.mk #[])), (.string (ByteArray.mk #[100, 114, 111, 112, 44, 116, 111, 32, 49])), (.string (ByteArray.mk #[114, 101, 116, 117, 114, 110, 44, 32, 102, 114, 111, 109, 32, 57, 45, 56])), (.string s14), (.string (ByteArray.mk #[99, 104, 97, 105, 110, 32, 48])), (.string (ByteArray.mk #[110, 111, 110, 101, 44, 32, 112, 111, 114, 116, 32, 49, 44, 32, 112, 111, 114, 116, 32, 49, 44, 32, 112, 111, 114, 116, 32, 49, 44, 32, 112, 111, 114, 116, 32, 49, 44, 32, 112, 111, 114, 116, 32, 49, 44, 32, 112, 111, 114, 116, 32, 49, 44, 32, 112, 111, 114, 116, 32, 49]))]) ([s12, s13, (ByteArray.mk #[99, 97, 108, 108]), (ByteArray.mk #[99, 97, 108, 108, 32, 53]), (ByteArray.mk #[97, 99, 99, 101, 112, 116, 32, 49]), (ByteArray.mk #[]), (ByteArray.mk #[100, 114, 111, 112, 44, 116, 111, 32, 49]), (ByteArray.mk #[114, 101, 116, 117, 114, 110, 44, 32, 102, 114, 111, 109, 32, 57, 45, 56]), s14, (ByteArray.mk #[99, 104, 97, 105, 110, 32, 48]), (ByteArray.mk #[110, 111, 110, 101, 44, 32, 112, 111, 114, 116, 32, 49, 44, 32, 112, 111, 114, 116, 32, 49, 44, 32, 112, 111, 114, 116, 32, 49, 44, 32, 112, 111, 114, 116, 32, 49, 44, 32, 112, 111, 114, 116, 32, 49, 44, 32, 112, 111, 114, 116, 32, 49, 44, 32, 112, 111, 114, 116, 32, 49])]) flelStr (by intro ρ h; simp only [List.map_toArray, List.map_cons, List.map_nil, h (.tmp 13) _ rfl, h (.tmp 15) _ rfl, h (.const (.string (ByteArray.mk #[99, 97, 108, 108]))) _ rfl, h (.const (.string (ByteArray.mk #[99, 97, 108, 108, 32, 53]))) _ rfl, h (.const (.string (ByteArray.mk #[97, 99, 99, 101, 112, 116, 32, 49]))) _ rfl, h (.const (.string (ByteArray.mk #[]))) _ rfl, h (.const (.string (ByteArray.mk #[100, 114, 111, 112, 44, 116, 111, 32, 49]))) _ rfl, h (.const (.string (ByteArray.mk #[114, 101, 116, 117, 114, 110, 44, 32, 102, 114, 111, 109, 32, 57, 45, 56]))) _ rfl, h (.tmp 17) _ rfl, h (.const (.string (ByteArray.mk #[99, 104, 97, 105, 110, 32, 48]))) _ rfl, h (.const (.string (ByteArray.mk #[110, 111, 110, 101, 44, 32, 112, 111, 114, 116, 32, 49, 44, 32, 112, 111, 114, 116, 32, 49, 44, 32, 112, 111, 114, 116, 32, 49, 44, 32, 112, 111, 114, 116, 32, 49, 44, 32, 112, 111, 114, 116, 32, 49, 44, 32, 112, 111, 114, 116, 32, 49, 44, 32, 112, 111, 114, 116, 32, 49]))) _ rfl]) rfl el66 zero9 rfl rfl rfl rfl rfl rfl ?_); intro v15
      refine o_mv st rfl rfl ?_
      refine pk [1, 0, 2, 3] rfl ?_
      refine stw (o_call (vs := [(.pointer (some ⟨b1, 0, none⟩)), (.int .i64 11)]) (M0 := [cellCh b1 [v2, (.int .i64 r11)] 111]) Tryd.call65 rfl rfl (by intro w m h; exact (w_spec_l20Rd_pick (F := allB [cellCh b1 [v2, (.int .i64 r11)] 111] w) (r_0_b := r_0_b) (r_0_p := r11) (n_1 := 11) allB_ok m.given (m.rdM 2 rfl (reads_snap hv2)) h).mono (fun _ _ k => ret_free (fun r u => (fr_cons free_cell fr_nil)) k)) ?_); rintro ⟨r17, r18⟩ _
      refine o_idx st 1 rfl reads_own rfl rfl rfl el66 ?_; intro e19 h20
      refine o_lds st (enc := encStr) (u := (.string e19)) 1 rfl reads_own flelStr rfl h20 rfl rfl ty9 rfl ?_
      refine o_as st rfl rfl ?_
      refine c_nil ?_
      exact l_join (r18, e19) (fun a w hE hm => ⟨hE.sub ⟨rfl, trivial⟩, (hm.pick [0, 3] rfl)⟩)
    · refine c_skip ?_
      exact l_join (r11, r9) (fun a w hE hm => ⟨hE.sub ⟨rfl, trivial⟩, (hm.pick [0, 2] rfl)⟩)
  · rintro ⟨t81, t82⟩ a w ⟨hE, hm⟩ h
    refine nx_of hE hm h ?_
    clear hE hm h
    refine c_seq ?_
    refine c_region ?_
    refine o_mv st rfl rfl ?_
    refine o_as st rfl rfl ?_
    refine c_nil ?_
    refine l_then ?_
    refine c_ret ?_
    exact l_end1 Tryd.results80 (t82, t81) () (rv_t rfl) (fun w m => NewCh.ofB m [0] rfl)

set_option maxRecDepth 100000 in
set_option maxHeartbeats 8000000 in
theorem w_spec_DrawReadRule {w0 : World} {F : Nat → Prop} {v1 : Value} {code_0 : (List UInt8)} {κ : ByteArray → Prop} (hF : ∀ b, F b → b < w0.heap.size ∧ ¬ feet [] b) (hv1 : Sl elU8 F w0 v1 code_0) (h : L_spec_DrawReadRule code_0 κ) :
    Calls Tryd.prog 45 #[v1] w0 (Ret [] F w0 κ (fun (r : ByteArray) (u : Unit) => (.string r)) (fun (r : ByteArray) (u : Unit) => [])) := by
  refine enterS (args := [v1]) [] hF (Given.nil _ _) Tryd.func45 rfl Tryd.ntmps45 rfl h ?_
  clear h hF
  refine c_seq ?_
  refine c_region ?_
  refine o_as st rfl rfl ?_
  refine c_nil ?_
  refine l_then ?_
  refine c_seq ?_
  refine c_region ?_
  refine o_mv st rfl rfl ?_
  refine stw (o_callP (vs := [v1]) Tryd.call60 rfl rfl (by intro w m h; exact w_spec_l20Open (code_0 := code_0) fz_ok0 (m.roS 0 rfl hv1) h) ?_); rintro ⟨r5, r8⟩ ⟨b3, v6⟩
  refine stw (o_call (vs := [(.pointer (some ⟨b3, 0, none⟩)), (.int .i64 3)]) (M0 := [cellCh b3 [v6, (.int .i64 r8)] 111]) Tryd.call80 rfl rfl (by intro w m h; exact (w_spec_l20Line (F := allB [cellCh b3 [v6, (.int .i64 r8)] 111] w) (r_0_b := r5) (r_0_p := r8) (n_1 := 3) allB_ok m.given (m.rdM 0 rfl reads_ro) h).mono (fun _ _ k => ret_free (fun r u => (fr_cons free_cell fr_nil)) k)) ?_); rintro ⟨r9, r10⟩ _
  refine o_as st rfl rfl ?_
  refine c_nil ?_
  refine l_then ?_
  refine c_ret ?_
  exact l_end1 Tryd.results45 r9 () (rv_t rfl) (fun _ _ => NewCh.nil _ _ _ _)

set_option maxRecDepth 100000 in
set_option maxHeartbeats 8000000 in
theorem w_laws_FnReadRule {w0 : World} {F : Nat → Prop} {v1 : Value} {code_0 : (List UInt8)} {κ : Bool → Prop} (hF : ∀ b, F b → b < w0.heap.size ∧ ¬ feet [] b) (hv1 : Sl elU8 F w0 v1 code_0) (hgl0 : Sl elGFieldShape F w0 (.slice (some ⟨0, 0, none⟩) 4 4) gl_impl_fieldShapes) (hgl1 : Tb F w0) (h : L_laws_FnReadRule code_0 κ) :
    Calls Tryd.prog 13 #[v1] w0 (Ret [] F w0 κ (fun (r : Bool) (u : Unit) => (.bool r)) (fun (r : Bool) (u : Unit) => [])) := by
  refine enterS (args := [v1]) [] hF (Given.nil _ _) Tryd.func13 rfl Tryd.ntmps13 rfl h ?_
  clear h hF
  refine c_seq ?_
  refine c_region ?_
  refine o_as st rfl rfl ?_
  refine c_nil ?_
  refine l_then ?_
  refine c_seq ?_
  refine c_seq ?_
  refine c_region ?_
  refine o_mv st rfl rfl ?_
  refine o_len st el34 0 rfl (reads_snap hv1) rfl rfl ?_
  refine o_gtr st rfl rfl rfl ?_
  refine c_nil ?_
  refine l_then ?_
  refine c_cond rfl ?_ ?_
  · refine c_seq ?_
    refine c_region ?_
    refine o_as st rfl rfl ?_
    refine c_nil ?_
    refine l_then ?_
    refine c_ret ?_
    refine l_ret ?_
    exact l_end1 Tryd.results13 true () (rv_t rfl) (fun _ _ => NewCh.nil _ _ _ _)
  · refine c_skip ?_
    refine l_then ?_
    refine c_seq ?_
    refine c_region ?_
    refine o_mv st rfl rfl ?_
    refine stw (o_callP (vs := [v1]) Tryd.call45 rfl rfl (by intro w m h; exact (w_spec_DrawReadRule (F := allB [] w) (code_0 := code_0) allB_ok (m.rd0 0 rfl (reads_snap hv1)) h).mono (fun _ _ k => ret_free (fun r u => fr_nil) k)) ?_); rintro r3 _
    refine o_as st rfl rfl ?_
    refine c_nil ?_
    refine l_then ?_
    refine c_seq ?_
    refine c_region ?_
    refine o_mv st rfl rfl ?_
    refine stw (o_callP (vs := [(.string r3)]) Tryd.call40 rfl rfl (by intro w m h; exact (w_impl_ReadRule (F := allB [] w) (s_0 := r3) allB_ok (m.rd0 0 rfl (reads_snap hgl0)) ((hgl1.of (m.get (i := 0) rfl)).mono fz_ok0) h).mono (fun _ _ k => ret_free (fun r u => (fr_cons (free_own flelGTest) fr_nil)) k)) ?_); rintro ⟨r4, r7⟩ v5
    refine o_mv st rfl rfl ?_
    refine o_ext st (vs := [(.agg #[v5, (.int .i64 r4.xAction), (.int .i64 r4.xChain)]), (.bool r7)]) rfl rfl rfl ?_
    refine o_ext st (vs := [(.agg #[v5, (.int .i64 r4.xAction), (.int .i64 r4.xChain)]), (.bool r7)]) rfl rfl rfl ?_
    refine stw (o_alloc rfl [(.slice none 0 0), (.int .i64 0), (.int .i64 0)] zero53 ?_); intro b8
    refine nx_own 1 rfl ?_; rintro a10 l11 q12 rfl
    refine stw (o_stc (cs' := [(.slice a10 l11 q12), (.int .i64 r4.xAction), (.int .i64 r4.xChain)]) 0 rfl rfl rfl ty53 rfl rfl rfl rfl ?_)
    refine o_as st rfl rfl ?_
    refine c_nil ?_
    refine l_then ?_
    refine c_seq ?_
    refine c_region ?_
    refine o_mv st rfl rfl ?_
    refine stw (o_callP (vs := [(.string r3)]) Tryd.call42 rfl rfl (by intro w m h; exact (w_spec_ReadRule (F := allB [] w) (s_0 := r3) allB_ok h).mono (fun _ _ k => ret_free (fun r u => (fr_cons (free_own flelGTest) fr_nil)) k)) ?_); rintro ⟨r13, r16⟩ v14
    refine o_mv st rfl rfl ?_
    refine o_ext st (vs := [(.agg #[v14, (.int .i64 r13.xAction), (.int .i64 r13.xChain)]), (.bool r16)]) rfl rfl rfl ?_
    refine o_ext st (vs := [(.agg #[v14, (.int .i64 r13.xAction), (.int .i64 r13.xChain)]), (.bool r16)]) rfl rfl rfl ?_
    refine stw (o_alloc rfl [(.slice none 0 0), (.int .i64 0), (.int .i64 0)] zero53 ?_); intro b17
    refine nx_own 1 rfl ?_; rintro a19 l20 q21 rfl
    refine stw (o_stc (cs' := [(.slice a19 l20 q21), (.int .i64 r13.xAction), (.int .i64 r13.xChain)]) 0 rfl rfl rfl ty53 rfl rfl rfl rfl ?_)
    refine o_as st rfl rfl ?_
    refine c_nil ?_
    refine l_then ?_
    refine c_seq ?_
    refine c_join (σ := Bool) (fun (t83 : Bool) (a : Act) (w : World) => Has 51 [(3, (.string r3)), (4, (.pointer (some ⟨b8, 0, none⟩))), (5, (.bool r7)), (31, (.bool t83))] a ∧ Mem (gB F [] w0) (feet []) w0 [cellCh b8 [(.slice a10 l11 q12), (.int .i64 r4.xAction), (.int .i64 r4.xChain)] 53, ownCh elGTest 25 (.slice a10 l11 q12) r4.xTests, snapCh w0 F] w) ?_ ?_
    · intro k84
      refine c_region ?_
      refine o_ldc st (v := (.agg #[(.slice a10 l11 q12), (.int .i64 r4.xAction), (.int .i64 r4.xChain)])) 2 rfl rfl rfl ty53 rfl ?_
      refine o_ldc st (v := (.agg #[(.slice a19 l20 q21), (.int .i64 r13.xAction), (.int .i64 r13.xChain)])) 0 rfl rfl rfl ty53 rfl ?_
      refine stw (o_callP (vs := [(.agg #[(.slice a10 l11 q12), (.int .i64 r4.xAction), (.int .i64 r4.xChain)]), (.agg #[(.slice a19 l20 q21), (.int .i64 r13.xAction), (.int .i64 r13.xChain)])]) Tryd.call41 rfl rfl (by intro w m h; exact (w_laws_sameRule (F := allB [] w) (a_0 := r4) (b_1 := r13) allB_ok (m.rd0 3 rfl reads_own) (m.rd0 1 rfl reads_own) h).mono (fun _ _ k => ret_free (fun r u => fr_nil) k)) ?_); rintro r22 _
      refine o_not st rfl rfl ?_
      refine o_mv st rfl rfl ?_
      refine st_sp (dj := 27) rfl ?_ ?_
      · refine st_s rfl rfl rfl rfl ?_
        refine st_s rfl rfl rfl rfl ?_
        refine st_s rfl rfl rfl rfl ?_
        refine o_pickT st rfl rfl rfl ?_
        refine c_nil ?_
        exact l_join true (fun a w hE hm => ⟨hE.sub ⟨rfl, rfl, rfl, rfl, trivial⟩, (hm.pick [2, 3, 4] rfl)⟩)
      · refine o_mv (st_g rfl rfl) rfl rfl ?_
        refine o_mv (st_g rfl rfl) rfl rfl ?_
        refine o_neqB (st_g rfl rfl) und4 rfl rfl rfl ?_
        refine o_pickF st rfl rfl rfl ?_
        refine c_nil ?_
        exact l_join (!(decide (r7 = r16))) (fun a w hE hm => ⟨hE.sub ⟨rfl, rfl, rfl, rfl, trivial⟩, (hm.pick [2, 3, 4] rfl)⟩)
    · rintro t83 a w ⟨hE, hm⟩ h
      refine nx_of hE hm h ?_
      clear hE hm h
      refine c_cond rfl ?_ ?_
      · refine c_seq ?_
        refine c_region ?_
        refine o_as st rfl rfl ?_
        refine c_nil ?_
        refine l_then ?_
        refine c_ret ?_
        refine l_ret ?_
        exact l_end1 Tryd.results13 false () (rv_t rfl) (fun _ _ => NewCh.nil _ _ _ _)
      · refine c_skip ?_
        refine l_then ?_
        refine c_join (σ := Bool) (fun (t150 : Bool) (a : Act) (w : World) => Has 51 [(2, (.bool t150))] a ∧ Mem (gB F [] w0) (feet []) w0 [snapCh w0 F] w) ?_ ?_
        · intro k151
          refine c_region ?_
          refine o_mv st rfl rfl ?_
          refine o_not st rfl rfl ?_
          refine o_mv st rfl rfl ?_
          refine st_sp (dj := 34) rfl ?_ ?_
          · refine o_ldc (st_g rfl rfl) (v := (.agg #[(.slice a10 l11 q12), (.int .i64 r4.xAction), (.int .i64 r4.xChain)])) 0 rfl rfl rfl ty53 rfl ?_
            refine o_bld (st_g rfl rfl) (qs := []) (cells := [(.slice none 0 0), (.int .i64 0), (.int .i64 0)]) (by intro ρ h; simp only [List.map_toArray, List.map_cons, List.map_nil]) rfl bld53 rfl ?_
            refine st_gw rfl rfl (o_callP (vs := [(.agg #[(.slice a10 l11 q12), (.int .i64 r4.xAction), (.int .i64 r4.xChain)]), (.agg #[(.slice none 0 0), (.int .i64 0), (.int .i64 0)])]) Tryd.call41 rfl rfl (by intro w m h; exact (w_laws_sameRule (F := allB [] w) (a_0 := r4) (b_1 := (GRule.mk ([]) 0 0)) allB_ok (m.rd0 1 rfl reads_own) (Sl.nil _ _ _ _ _) h).mono (fun _ _ k => ret_free (fun r u => fr_nil) k)) ?_); rintro r85 _
            refine o_pickT st rfl rfl rfl ?_
            refine o_mv st rfl rfl ?_
            refine st_sp (dj := 39) rfl ?_ ?_
            · refine st_gw rfl rfl (o_callP (vs := []) Tryd.call25 rfl rfl (by intro w m h; exact (w_laws_alive (F := allB [] w) allB_ok h).mono (fun _ _ k => ret_free (fun r u => fr_nil) k)) ?_); rintro r86 _
              refine o_pickT st rfl rfl rfl ?_
              refine o_mv st rfl rfl ?_
              refine st_sp (dj := 42) rfl ?_ ?_
              · refine st_s rfl rfl rfl rfl ?_
                refine st_s rfl rfl rfl rfl ?_
                refine st_s rfl rfl rfl rfl ?_
                refine st_s rfl rfl rfl rfl ?_
                refine st_s rfl rfl rfl rfl ?_
                refine st_s rfl rfl rfl rfl ?_
                refine st_s rfl rfl rfl rfl ?_
                refine o_pickT st rfl rfl rfl ?_
                refine o_as st rfl rfl ?_
                refine c_nil ?_
                exact l_join true (fun a w hE hm => ⟨hE.sub ⟨rfl, trivial⟩, (hm.pick [2] rfl)⟩)
              · refine o_mv (st_g rfl rfl) rfl rfl ?_
                refine o_mv (st_g rfl rfl) rfl rfl ?_
                refine st_sp (dj := 44) rfl ?_ ?_
                · refine o_ldc (st_g rfl rfl) (v := (.agg #[(.slice a10 l11 q12), (.int .i64 r4.xAction), (.int .i64 r4.xChain)])) 0 rfl rfl rfl ty53 rfl ?_
                  refine st_gw rfl rfl (o_callP (vs := [(.agg #[(.slice a10 l11 q12), (.int .i64 r4.xAction), (.int .i64 r4.xChain)])]) Tryd.call35 rfl rfl (by intro w m h; exact (w_impl_RuleText (F := allB [] w) (r_0 := r4) allB_ok (m.rd0 1 rfl reads_own) (m.rd0 2 rfl (reads_snap hgl0)) ((hgl1.of (m.get (i := 2) rfl)).mono fz_ok0) h).mono (fun _ _ k => ret_free (fun r u => fr_nil) k)) ?_); rintro r87 _
                  refine o_mv (st_g rfl rfl) rfl rfl ?_
                  refine o_eqlS (st_g rfl rfl) und9 rfl rfl rfl ?_
                  refine o_pickT (st_g rfl rfl) rfl rfl rfl ?_
                  refine o_pickF st rfl rfl rfl ?_
                  refine o_as st rfl rfl ?_
                  refine c_nil ?_
                  exact l_join (decide (r87 = r3)) (fun a w hE hm => ⟨hE.sub ⟨rfl, trivial⟩, (hm.pick [2] rfl)⟩)
                · refine st_s rfl rfl rfl rfl ?_
                  refine st_s rfl rfl rfl rfl ?_
                  refine st_s rfl rfl rfl rfl ?_
                  refine st_s rfl rfl rfl rfl ?_
                  refine o_pickF (st_g rfl rfl) rfl rfl rfl ?_
                  refine o_pickF st rfl rfl rfl ?_
                  refine o_as st rfl rfl ?_
                  refine c_nil ?_
                  exact l_join false (fun a w hE hm => ⟨hE.sub ⟨rfl, trivial⟩, (hm.pick [2] rfl)⟩)
            · refine st_s rfl rfl rfl rfl ?_
              refine o_pickF st rfl rfl rfl ?_
              refine o_mv st rfl rfl ?_
              refine o_mv (st_g rfl rfl) rfl rfl ?_
              refine o_mv (st_g rfl rfl) rfl rfl ?_
              refine st_sp (dj := 44) rfl ?_ ?_
              · refine o_ldc (st_g rfl rfl) (v := (.agg #[(.slice a10 l11 q12), (.int .i64 r4.xAction), (.int .i64 r4.xChain)])) 0 rfl rfl rfl ty53 rfl ?_
                refine st_gw rfl rfl (o_callP (vs := [(.agg #[(.slice a10 l11 q12), (.int .i64 r4.xAction), (.int .i64 r4.xChain)])]) Tryd.call35 rfl rfl (by intro w m h; exact (w_impl_RuleText (F := allB [] w) (r_0 := r4) allB_ok (m.rd0 1 rfl reads_own) (m.rd0 2 rfl (reads_snap hgl0)) ((hgl1.of (m.get (i := 2) rfl)).mono fz_ok0) h).mono (fun _ _ k => ret_free (fun r u => fr_nil) k)) ?_); rintro r88 _
                refine o_mv (st_g rfl rfl) rfl rfl ?_
                refine o_eqlS (st_g rfl rfl) und9 rfl rfl rfl ?_
                refine o_pickT (st_g rfl rfl) rfl rfl rfl ?_
                refine o_pickF st rfl rfl rfl ?_
                refine o_as st rfl rfl ?_
                refine c_nil ?_
                exact l_join (decide (r88 = r3)) (fun a w hE hm => ⟨hE.sub ⟨rfl, trivial⟩, (hm.pick [2] rfl)⟩)
              · refine st_s rfl rfl rfl rfl ?_
                refine st_s rfl rfl rfl rfl ?_
                refine st_s rfl rfl rfl rfl ?_
                refine st_s rfl rfl rfl rfl ?_
                refine o_pickF (st_g rfl rfl) rfl rfl rfl ?_
                refine o_pickF st rfl rfl rfl ?_
                refine o_as st rfl rfl ?_
                refine c_nil ?_
                exact l_join false (fun a w hE hm => ⟨hE.sub ⟨rfl, trivial⟩, (hm.pick [2] rfl)⟩)
          · refine st_s rfl rfl rfl rfl ?_
            refine st_s rfl rfl rfl rfl ?_
            refine st_s rfl rfl rfl rfl ?_
            refine o_pickF st rfl rfl rfl ?_
            refine o_mv st rfl rfl ?_
            refine st_s rfl rfl rfl rfl ?_
            refine o_pickF st rfl rfl rfl ?_
            refine o_mv st rfl rfl ?_
            refine o_mv (st_g rfl rfl) rfl rfl ?_
            refine o_mv (st_g rfl rfl) rfl rfl ?_
            refine st_sp (dj := 44) rfl ?_ ?_
            · refine o_ldc (st_g rfl rfl) (v := (.agg #[(.slice a10 l11 q12), (.int .i64 r4.xAction), (.int .i64 r4.xChain)])) 0 rfl rfl rfl ty53 rfl ?_
              refine st_gw rfl rfl (o_callP (vs := [(.agg #[(.slice a10 l11 q12), (.int .i64 r4.xAction), (.int .i64 r4.xChain)])]) Tryd.call35 rfl rfl (by intro w m h; exact (w_impl_RuleText (F := allB [] w) (r_0 := r4) allB_ok (m.rd0 1 rfl reads_own) (m.rd0 2 rfl (reads_snap hgl0)) ((hgl1.of (m.get (i := 2) rfl)).mono fz_ok0) h).mono (fun _ _ k => ret_free (fun r u => fr_nil) k)) ?_); rintro r89 _
              refine o_mv (st_g rfl rfl) rfl rfl ?_
              refine o_eqlS (st_g rfl rfl) und9 rfl rfl rfl ?_
              refine o_pickT (st_g rfl rfl) rfl rfl rfl ?_
              refine o_pickF st rfl rfl rfl ?_
              refine o_as st rfl rfl ?_
              refine c_nil ?_
              exact l_join (decide (r89 = r3)) (fun a w hE hm => ⟨hE.sub ⟨rfl, trivial⟩, (hm.pick [2] rfl)⟩)
            · refine st_s rfl rfl rfl rfl ?_
              refine st_s rfl rfl rfl rfl ?_
              refine st_s rfl rfl rfl rfl ?_
              refine st_s rfl rfl rfl rfl ?_
              refine o_pickF (st_g rfl rfl) rfl rfl rfl ?_
              refine o_pickF st rfl rfl rfl ?_
              refine o_as st rfl rfl ?_
              refine c_nil ?_
              exact l_join false (fun a w hE hm => ⟨hE.sub ⟨rfl, trivial⟩, (hm.pick [2] rfl)⟩)
        · rintro t150 a w ⟨hE, hm⟩ h
          refine nx_of hE hm h ?_
          clear hE hm h
          refine c_ret ?_
          exact l_end1 Tryd.results13 t150 () (rv_t rfl) (fun _ _ => NewCh.nil _ _ _ _)


end Go.Proofs.YtnogaeckmiekdaaDoor
