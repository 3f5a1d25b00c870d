/- For every code the law FnBucketValid holds: a bucket with more tokens than its size is invalid. No condition. -/
import Derived.Test.YtcinklbbacmihaaDrawBk3
import Derived.Test.YtcinklbbacmihaaBkLaw
import Derived.ProofKit
import Derived.OpenShut
import Derived.ChangeOld
import Derived.Lib.SmallJoins
namespace Go.Proofs.Ytcinklbbacmihaa.bucketValid
open Go.ChangeShapes Go.WideShapes Go.ChangeAt Go.RowKit Go.Joins
set_option linter.unusedVariables false
set_option linter.unusedSimpArgs false

set_option maxHeartbeats 800000 in
theorem walk (a : Option Addr) (len cap : Nat) (f : Nat → Int) (w : World) (h : CodeAt w a len cap f) : Calls Try.prog 4 #[.slice a len cap] w fun en w' =>
    en = .returned (.bool true) ∧ Below w.heap.size w w' := by
  by_cases hl : 1048576 < len
  · go_enter Try.func4, Try.ntmps4
    go_wp2_with fail
    go_ret
    exact ⟨rfl, (by repeat (first | exact Below.refl _ _ | (refine below_ext (by first | omega | (repeat (first | exact Nat.le_refl _ | refine le_ext ?_ | refine le_alloc _ ?_ | refine le_set _ _ ?_ | refine Nat.le_add_right_of_le ?_))) ?_) | (refine below_alloc _ (by first | omega | (repeat (first | exact Nat.le_refl _ | refine le_ext ?_ | refine le_alloc _ ?_ | refine le_set _ _ ?_ | refine Nat.le_add_right_of_le ?_))) ?_) | (refine below_setCell _ _ _ (by first | omega | (repeat (first | exact Nat.le_refl _ | refine le_ext ?_ | refine le_alloc _ ?_ | refine le_set _ _ ?_ | refine Nat.le_add_right_of_le ?_))) ?_) | refine Below.drew ?_ | (apply below_after; assumption; exact (by first | omega | (repeat (first | exact Nat.le_refl _ | refine le_ext ?_ | refine le_alloc _ ?_ | refine le_set _ _ ?_ | refine Nat.le_add_right_of_le ?_))))))⟩
  · go_enter Try.func4, Try.ntmps4
    go_wp2_with fail
    refine (drawBucketValid _ a len cap f (CodeAt.below h (by repeat (first | exact Below.refl _ _ | (refine below_ext (by first | omega | (repeat (first | exact Nat.le_refl _ | refine le_ext ?_ | refine le_alloc _ ?_ | refine le_set _ _ ?_ | refine Nat.le_add_right_of_le ?_))) ?_) | (refine below_alloc _ (by first | omega | (repeat (first | exact Nat.le_refl _ | refine le_ext ?_ | refine le_alloc _ ?_ | refine le_set _ _ ?_ | refine Nat.le_add_right_of_le ?_))) ?_) | (refine below_setCell _ _ _ (by first | omega | (repeat (first | exact Nat.le_refl _ | refine le_ext ?_ | refine le_alloc _ ?_ | refine le_set _ _ ?_ | refine Nat.le_add_right_of_le ?_))) ?_) | refine Below.drew ?_ | (apply below_after; assumption; exact (by first | omega | (repeat (first | exact Nat.le_refl _ | refine le_ext ?_ | refine le_alloc _ ?_ | refine le_set _ _ ?_ | refine Nat.le_add_right_of_le ?_)))))))).mono ?_
    rintro e w1 ⟨s, ev, t, l, rfl, ⟨⟨m1, m2⟩, _, _, _⟩, hb⟩
    obtain ⟨os, d, rfl⟩ := ext_of hb
    clear hb
    have e1 : bv s ev (s + 1) l = false := by
      rw [← Bool.not_eq_true, bv_iff]
      omega
    have e2 : bv 0 0 0 0 = false := rfl
    go_wp2_with (first | (go_at_call 14; refine (specBV _ _ _ _ _).mono ?_; rintro e w1 ⟨rfl, hb⟩; obtain ⟨os, d, rfl⟩ := ext_of hb; clear hb) | (go_at_call 16; refine (implBV _ _ _ _ _).mono ?_; rintro e w1 ⟨rfl, hb⟩; obtain ⟨os, d, rfl⟩ := ext_of hb; clear hb) | (go_at_call 18; refine (alive_any _).mono ?_; rintro e w1 ⟨rfl, hb⟩; obtain ⟨os, d, rfl⟩ := ext_of hb; clear hb))
    all_goals (go_ret; exact ⟨rfl, (by repeat (first | exact Below.refl _ _ | (refine below_ext (by first | omega | (repeat (first | exact Nat.le_refl _ | refine le_ext ?_ | refine le_alloc _ ?_ | refine le_set _ _ ?_ | refine Nat.le_add_right_of_le ?_))) ?_) | (refine below_alloc _ (by first | omega | (repeat (first | exact Nat.le_refl _ | refine le_ext ?_ | refine le_alloc _ ?_ | refine le_set _ _ ?_ | refine Nat.le_add_right_of_le ?_))) ?_) | (refine below_setCell _ _ _ (by first | omega | (repeat (first | exact Nat.le_refl _ | refine le_ext ?_ | refine le_alloc _ ?_ | refine le_set _ _ ?_ | refine Nat.le_add_right_of_le ?_))) ?_) | refine Below.drew ?_ | (apply below_after; assumption; exact (by first | omega | (repeat (first | exact Nat.le_refl _ | refine le_ext ?_ | refine le_alloc _ ?_ | refine le_set _ _ ?_ | refine Nat.le_add_right_of_le ?_))))))⟩)

theorem own : ownKnob Try.prog.godebug = none := by kernel_rfl
theorem laidOut : laidOutB Try.prog = true := by kernel_rfl
set_option maxRecDepth 100000 in
theorem lifted (os : Os) (started : os.Started) (H : Type) (enc : TypeId × Value → H) :
    ReturnsInHanded {} Try.checked os 4 .any (Rows.fnBucketValidSpec.pre6 enc Try.prog Try.f4 Rows.fnBucketValidRow.domain false) (Rows.fnBucketValidSpec.post enc Try.prog Try.f4 false true false false) := by
  refine returnsInHanded_of_change (C := Try.checked) own started (by kernel_rfl) Try.func4
    (ChangeSpec.witness6 (enc := enc) (C := Try.checked) false ⟨#[], #[.slice none 0 0], []⟩ 8 (by kernel_rfl) (by kernel_rfl) (by kernel_rfl) (by kernel_rfl)) ?_
  intro W base args ds gs before hval0 hW hcnd hsz
  have hval : ∀ (j : Nat) t v, Try.f4.params[j]? = some t → args[j]? = some v → Value.okWide Try.prog W .any base t v := hval0
  have hW' := hW
  obtain ⟨p, q, hA0, hV, rfl, hfz, hnd⟩ := hW
  have hA : DataW.TrodAll enc Try.prog W 0 (fun _ => true) true Try.f4.params.toList args.toList ds p := hA0
  rw [Try.params4] at hA hval
  obtain ⟨v0, vs0, d0, ds0, p0, q0, hargs, rfl, rfl, h0, r0⟩ := trodAll_cons hA
  obtain ⟨rfl, rfl, rfl⟩ := trodAll_nil r0
  obtain rfl : args = #[v0] := by cases args; simp_all
  obtain ⟨rfl, rfl⟩ := trodVars_none hV
  have k0 := h0
  have lt0 : ∀ x ∈ p0, x.block < W.heap.size := by obtain ⟨m, hm⟩ := k0; exact DataW.trod_lt m _ _ _ hm
  have hv0 := hval 0 28 v0 rfl rfl
  obtain ⟨a0, len0, cap0, rfl⟩ := okWide_slice Try.underlying28 hv0
  obtain ⟨f0, C0⟩ : ∃ f, CodeAt W a0 len0 cap0 f := by
    obtain ⟨fuel, hf⟩ := h0
    rcases open_ints Try.underlying28 Try.underlying5 (by kernel_rfl) hf with ⟨hcs, _⟩ | ⟨x, l, c, zs, hcs, _, hl, hm, hz, _, hcell, hwz⟩
    · simp [Value.cells] at hcs
      obtain ⟨rfl, rfl, rfl⟩ := hcs
      exact ⟨_, code_nil W⟩
    · simp [Value.cells] at hcs
      obtain ⟨rfl, rfl, rfl⟩ := hcs
      exact ⟨_, code_row hl hm (by simpa using hz) hcell hwz⟩
  clear hA0 hval0
  refine (walk a0 len0 cap0 f0 W C0).mono fun e W' ⟨he, bel⟩ => ?_
  subst he
  exact ⟨_, rfl, _, _, _, [], _, [], hW', trodAll_mk1 (shut_bool Try.underlying4 _), (trodAll_cons_mk (Below.trod laidOut (by kernel_rfl) (of_decide_eq_true (by kernel_rfl)) k0 bel lt0) trodAll_mk0), rfl, bel.frame _, fun h => by cases h⟩

theorem over : Rows.fnBucketValidRow.holds Try.pinned (OpenSpec.ofChange Rows.fnBucketValidSpec) :=
  OpenClaim.holds_of_wide 4 Try.f4 rfl rfl rfl rfl rfl rfl rfl ⟨rfl, rfl, rfl, rfl, rfl⟩ rfl rfl rfl rfl rfl (by kernel_rfl) Try.func4 (by kernel_rfl)
    (of_decide_eq_true (by kernel_rfl)) (by unfold Func.isWrapper; first | (rw [if_pos (by decide +kernel)]; kernel_rfl) | (rw [if_neg (by decide +kernel)]; exact ⟨rfl, rfl⟩))
    (fun os started H enc _ => lifted os started H enc)

/-- the statement -/
theorem proved : Rows.FnBucketValidSaid := over
end Go.Proofs.Ytcinklbbacmihaa.bucketValid
