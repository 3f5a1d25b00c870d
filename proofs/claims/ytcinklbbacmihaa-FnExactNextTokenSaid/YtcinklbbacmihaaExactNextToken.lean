/- For every bucket and every time the program's NextToken returns what the reference's returns. No condition. -/
import Derived.Test.YtcinklbbacmihaaBkLaw
import Derived.ProofKit
import Derived.OpenShut
import Derived.ChangeOld
import Derived.Lib.SmallJoins
namespace Go.Proofs.Ytcinklbbacmihaa.exactNextToken
open Go.ChangeShapes Go.WideShapes Go.ChangeAt Go.RowKit Go.Joins
set_option linter.unusedVariables false
set_option linter.unusedSimpArgs false

theorem walk (s e t l now : Int) (w : World) : Calls Try.prog 5 #[.agg #[.int .i64 s, .int .i64 e, .int .i64 t, .int .i64 l], .int .i64 now] w fun en w' =>
    en = .returned (.bool true) ∧ Below w.heap.size w w' := by
  cases h : cl s e t l now
  · have H := Lib.hid h; clear h
    go_enter Try.func5, Try.ntmps5
    go_wp2_with (first | (go_at_call 15; refine (toBucket_any _ _ _ _ _).mono ?_; rintro e w1 ⟨rfl, hb⟩; obtain ⟨os, d, rfl⟩ := ext_of hb; clear hb) | (go_at_call 23; refine (eqBucket_same _ _ _ _ _).mono ?_; rintro e w1 ⟨rfl, hb⟩; obtain ⟨os, d, rfl⟩ := ext_of hb; clear hb) | (go_at_call 19; refine (specNT_no _ _ _ _ _ _ H.out).mono ?_; rintro e w1 ⟨rfl, hb⟩; obtain ⟨os, d, rfl⟩ := ext_of hb; clear hb) | (go_at_call 20; refine (implNT_no _ _ _ _ _ _ H.out).mono ?_; rintro e w1 ⟨rfl, hb⟩; obtain ⟨os, d, rfl⟩ := ext_of hb; clear hb))
    go_ret
    exact ⟨rfl, (by repeat (first | exact Below.refl _ _ | (refine below_ext (by first | omega | (repeat (first | exact Nat.le_refl _ | refine le_ext ?_ | refine le_alloc _ ?_ | refine le_set _ _ ?_ | refine Nat.le_add_right_of_le ?_))) ?_) | (refine below_alloc _ (by first | omega | (repeat (first | exact Nat.le_refl _ | refine le_ext ?_ | refine le_alloc _ ?_ | refine le_set _ _ ?_ | refine Nat.le_add_right_of_le ?_))) ?_) | (refine below_setCell _ _ _ (by first | omega | (repeat (first | exact Nat.le_refl _ | refine le_ext ?_ | refine le_alloc _ ?_ | refine le_set _ _ ?_ | refine Nat.le_add_right_of_le ?_))) ?_) | refine Below.drew ?_ | (apply below_after; assumption; exact (by first | omega | (repeat (first | exact Nat.le_refl _ | refine le_ext ?_ | refine le_alloc _ ?_ | refine le_set _ _ ?_ | refine Nat.le_add_right_of_le ?_))))))⟩
  · have H := Lib.hid h; clear h
    go_enter Try.func5, Try.ntmps5
    go_wp2_with (first | (go_at_call 15; refine (toBucket_any _ _ _ _ _).mono ?_; rintro e w1 ⟨rfl, hb⟩; obtain ⟨os, d, rfl⟩ := ext_of hb; clear hb) | (go_at_call 23; refine (eqBucket_same _ _ _ _ _).mono ?_; rintro e w1 ⟨rfl, hb⟩; obtain ⟨os, d, rfl⟩ := ext_of hb; clear hb) | (go_at_call 19; refine (specNT_yes _ _ _ _ _ _ H.out).mono ?_; rintro e w1 ⟨rfl, hb⟩; obtain ⟨os, d, rfl⟩ := ext_of hb; clear hb) | (go_at_call 20; refine (implNT_yes _ _ _ _ _ _ H.out).mono ?_; rintro e w1 ⟨rfl, hb⟩; obtain ⟨os, d, rfl⟩ := ext_of hb; clear hb))
    go_ret
    exact ⟨rfl, (by repeat (first | exact Below.refl _ _ | (refine below_ext (by first | omega | (repeat (first | exact Nat.le_refl _ | refine le_ext ?_ | refine le_alloc _ ?_ | refine le_set _ _ ?_ | refine Nat.le_add_right_of_le ?_))) ?_) | (refine below_alloc _ (by first | omega | (repeat (first | exact Nat.le_refl _ | refine le_ext ?_ | refine le_alloc _ ?_ | refine le_set _ _ ?_ | refine Nat.le_add_right_of_le ?_))) ?_) | (refine below_setCell _ _ _ (by first | omega | (repeat (first | exact Nat.le_refl _ | refine le_ext ?_ | refine le_alloc _ ?_ | refine le_set _ _ ?_ | refine Nat.le_add_right_of_le ?_))) ?_) | refine Below.drew ?_ | (apply below_after; assumption; exact (by first | omega | (repeat (first | exact Nat.le_refl _ | refine le_ext ?_ | refine le_alloc _ ?_ | refine le_set _ _ ?_ | refine Nat.le_add_right_of_le ?_))))))⟩

theorem own : ownKnob Try.prog.godebug = none := by kernel_rfl
theorem laidOut : laidOutB Try.prog = true := by kernel_rfl
set_option maxRecDepth 100000 in
theorem lifted (os : Os) (started : os.Started) (H : Type) (enc : TypeId × Value → H) :
    ReturnsInHanded {} Try.checked os 5 .any (Rows.fnExactNextTokenSpec.pre6 enc Try.prog Try.f5 Rows.fnExactNextTokenRow.domain false) (Rows.fnExactNextTokenSpec.post enc Try.prog Try.f5 false true false false) := by
  refine returnsInHanded_of_change (C := Try.checked) own started (by kernel_rfl) Try.func5
    (ChangeSpec.witness6 (enc := enc) (C := Try.checked) false ⟨#[], #[.agg #[.int .i64 0, .int .i64 0, .int .i64 0, .int .i64 0], .int .i64 0], []⟩ 8 (by kernel_rfl) (by kernel_rfl) (by kernel_rfl) (by kernel_rfl)) ?_
  intro W base args ds gs before hval0 hW hcnd hsz
  have hval : ∀ (j : Nat) t v, Try.f5.params[j]? = some t → args[j]? = some v → Value.okWide Try.prog W .any base t v := hval0
  have hW' := hW
  obtain ⟨p, q, hA0, hV, rfl, hfz, hnd⟩ := hW
  have hA : DataW.TrodAll enc Try.prog W 0 (fun _ => true) true Try.f5.params.toList args.toList ds p := hA0
  rw [Try.params5] at hA hval
  obtain ⟨v0, vs0, d0, ds0, p0, q0, hargs, rfl, rfl, h0, r0⟩ := trodAll_cons hA
  obtain ⟨v1, vs1, d1, ds1, p1, q1, rfl, rfl, rfl, h1, r1⟩ := trodAll_cons r0
  obtain ⟨rfl, rfl, rfl⟩ := trodAll_nil r1
  obtain rfl : args = #[v0, v1] := by cases args; simp_all
  obtain ⟨rfl, rfl⟩ := trodVars_none hV
  have k0 := h0
  have lt0 : ∀ x ∈ p0, x.block < W.heap.size := by obtain ⟨m, hm⟩ := k0; exact DataW.trod_lt m _ _ _ hm
  have hv0 := hval 0 23 v0 rfl rfl
  have k1 := h1
  have lt1 : ∀ x ∈ p1, x.block < W.heap.size := by obtain ⟨m, hm⟩ := k1; exact DataW.trod_lt m _ _ _ hm
  have hv1 := hval 1 3 v1 rfl rfl
  obtain ⟨c0, c1, c2, c3, y0, y1, y2, y3, m, rfl, rfl, rfl, hy0, hy1, hy2, hy3⟩ := open_agg4 Try.underlying23 (by kernel_rfl) (by kernel_rfl) hv0 h0
  obtain ⟨s, e0, rfl, w0⟩ := DataW.trod_int Try.underlying3 hy0
  obtain ⟨e, e1, rfl, w1⟩ := DataW.trod_int Try.underlying3 hy1
  obtain ⟨t, e2, rfl, w2⟩ := DataW.trod_int Try.underlying3 hy2
  obtain ⟨l, e3, rfl, w3⟩ := DataW.trod_int Try.underlying3 hy3
  simp at e0 e1 e2 e3
  subst e0 e1 e2 e3
  obtain ⟨now, rfl, rfl, rfl, wn⟩ := open_int Try.underlying3 hv1 h1
  clear hA0 hval0
  refine (walk s e t l now W).mono fun e W' ⟨he, bel⟩ => ?_
  subst he
  exact ⟨_, rfl, _, _, _, [], _, [], hW', trodAll_mk1 (shut_bool Try.underlying4 _), (trodAll_cons_mk (Below.trod laidOut (by kernel_rfl) (of_decide_eq_true (by kernel_rfl)) k0 bel lt0) (trodAll_cons_mk (Below.trod laidOut (by kernel_rfl) (of_decide_eq_true (by kernel_rfl)) k1 bel lt1) trodAll_mk0)), rfl, bel.frame _, fun h => by cases h⟩

theorem over : Rows.fnExactNextTokenRow.holds Try.pinned (OpenSpec.ofChange Rows.fnExactNextTokenSpec) :=
  OpenClaim.holds_of_wide 5 Try.f5 rfl rfl rfl rfl rfl rfl rfl ⟨rfl, rfl, rfl, rfl, rfl⟩ rfl rfl rfl rfl rfl (by kernel_rfl) Try.func5 (by kernel_rfl)
    (of_decide_eq_true (by kernel_rfl)) (by unfold Func.isWrapper; first | (rw [if_pos (by decide +kernel)]; kernel_rfl) | (rw [if_neg (by decide +kernel)]; exact ⟨rfl, rfl⟩))
    (fun os started H enc _ => lifted os started H enc)

/-- the statement -/
theorem proved : Rows.FnExactNextTokenSaid := over
end Go.Proofs.Ytcinklbbacmihaa.exactNextToken
