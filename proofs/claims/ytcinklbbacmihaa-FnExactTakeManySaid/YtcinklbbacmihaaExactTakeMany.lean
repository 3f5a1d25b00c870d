/- For every bucket and all times the program's TakeMany returns what the reference's returns, in memory of its own. No condition. -/
import Derived.Test.YtcinklbbacmihaaTakeManyPure
import Derived.Test.YtcinklbbacmihaaG1Walk
import Derived.Test.YtcinklbbacmihaaOpen
namespace Go.Proofs.Ytcinklbbacmihaa.exactTakeMany
open Go.ChangeShapes Go.WideShapes Go.ChangeAt Go.RowKit Go.Joins
set_option linter.unusedVariables false
set_option linter.unusedSimpArgs false

theorem walk {v : Value} (s e t l : Int) (xs : List Int) (w : World) (S : Sl elInt (fun b => b < w.heap.size ∧ ¬ feet [] b) w v xs) : Calls Try.prog 12 #[.agg #[.int .i64 s, .int .i64 e, .int .i64 t, .int .i64 l], v] w fun en w' =>
    en = .returned (.bool true) ∧ Below w.heap.size w w' :=
  (w_laws_FnExactTakeMany (F := fun _ => True) (aB_0 := ⟨s, e, t, l⟩) S (exactTakeMany_pure ⟨s, e, t, l⟩ xs)).mono fun en w' ⟨r, _, h1, h2, h3, _⟩ => ⟨by rw [h2, h1], h3.below⟩

theorem own : ownKnob Try.prog.godebug = none := by kernel_rfl
theorem laidOut : laidOutB Try.prog = true := by kernel_rfl
set_option maxRecDepth 100000 in
theorem lifted (os : Os) (started : os.Started) (H : Type) (enc : TypeId × Value → H) :
    ReturnsInHanded {} Try.checked os 12 .any (Rows.fnExactTakeManySpec.pre6 enc Try.prog Try.f12 Rows.fnExactTakeManyRow.domain false) (Rows.fnExactTakeManySpec.post enc Try.prog Try.f12 false true false false) := by
  refine returnsInHanded_of_change (C := Try.checked) own started (by kernel_rfl) Try.func12
    (ChangeSpec.witness6 (enc := enc) (C := Try.checked) false ⟨#[], #[.agg #[.int .i64 0, .int .i64 0, .int .i64 0, .int .i64 0], .slice none 0 0], []⟩ 8 (by kernel_rfl) (by kernel_rfl) (by kernel_rfl) (by kernel_rfl)) ?_
  intro W base args ds gs before hval0 hW hcnd hsz
  have hval : ∀ (j : Nat) t v, Try.f12.params[j]? = some t → args[j]? = some v → Value.okWide Try.prog W .any base t v := hval0
  have hW' := hW
  obtain ⟨p, q, hA0, hV, rfl, hfz, hnd⟩ := hW
  have hA : DataW.TrodAll enc Try.prog W 0 (fun _ => true) true Try.f12.params.toList args.toList ds p := hA0
  rw [Try.params12] at hA hval
  obtain ⟨v0, vs0, d0, ds0, p0, q0, hargs, rfl, rfl, h0, r0⟩ := trodAll_cons hA
  obtain ⟨v1, vs1, d1, ds1, p1, q1, rfl, rfl, rfl, h1, r1⟩ := trodAll_cons r0
  obtain ⟨rfl, rfl, rfl⟩ := trodAll_nil r1
  obtain rfl : args = #[v0, v1] := by cases args; simp_all
  obtain ⟨rfl, rfl⟩ := trodVars_none hV
  have k0 := h0
  have lt0 : ∀ x ∈ p0, x.block < W.heap.size := by obtain ⟨m, hm⟩ := k0; exact DataW.trod_lt m _ _ _ hm
  have hv0 := hval 0 23 v0 rfl rfl
  have k1 := h1
  have lt1 : ∀ x ∈ p1, x.block < W.heap.size := by obtain ⟨m, hm⟩ := k1; exact DataW.trod_lt m _ _ _ hm
  have hv1 := hval 1 41 v1 rfl rfl
  obtain ⟨c0, c1, c2, c3, y0, y1, y2, y3, m, rfl, rfl, rfl, hy0, hy1, hy2, hy3⟩ := open_agg4 Try.underlying23 (by kernel_rfl) (by kernel_rfl) hv0 h0
  obtain ⟨s, e0, rfl, w0⟩ := DataW.trod_int Try.underlying3 hy0
  obtain ⟨e, e1, rfl, w1⟩ := DataW.trod_int Try.underlying3 hy1
  obtain ⟨t, e2, rfl, w2⟩ := DataW.trod_int Try.underlying3 hy2
  obtain ⟨l, e3, rfl, w3⟩ := DataW.trod_int Try.underlying3 hy3
  simp at e0 e1 e2 e3
  subst e0 e1 e2 e3
  obtain ⟨a1, len1, cap1, rfl⟩ := okWide_slice Try.underlying41 hv1
  obtain ⟨xs1, S1⟩ : ∃ xs, Sl elInt (fun b => b < W.heap.size ∧ ¬ feet [] b) W (.slice a1 len1 cap1) xs := by
    obtain ⟨fuel, hf⟩ := h1
    rcases open_ints Try.underlying41 Try.underlying3 (by kernel_rfl) hf with ⟨hcs, _⟩ | ⟨x, l, c, zs, hcs, _, hl, hm, hz, _, hcell, hwz⟩
    · simp [Value.cells] at hcs
      obtain ⟨rfl, rfl, rfl⟩ := hcs
      exact ⟨_, Sl.nil ..⟩
    · simp [Value.cells] at hcs
      obtain ⟨rfl, rfl, rfl⟩ := hcs
      exact ⟨_, sl_row flelInt (fun _ => rfl) rfl hl (by simp at hz; omega) hcell⟩
  clear hA0 hval0
  refine (walk s e t l xs1 W S1).mono fun e W' ⟨he, bel⟩ => ?_
  subst he
  exact ⟨_, rfl, _, _, _, [], _, [], hW', trodAll_mk1 (shut_bool Try.underlying4 _), (trodAll_cons_mk (Below.trod laidOut (by kernel_rfl) (of_decide_eq_true (by kernel_rfl)) k0 bel lt0) (trodAll_cons_mk (Below.trod laidOut (by kernel_rfl) (of_decide_eq_true (by kernel_rfl)) k1 bel lt1) trodAll_mk0)), rfl, bel.frame _, fun h => by cases h⟩

theorem over : Rows.fnExactTakeManyRow.holds Try.pinned (OpenSpec.ofChange Rows.fnExactTakeManySpec) :=
  OpenClaim.holds_of_wide 12 Try.f12 rfl rfl rfl rfl rfl rfl rfl ⟨rfl, rfl, rfl, rfl, rfl⟩ rfl rfl rfl rfl rfl (by kernel_rfl) Try.func12 (by kernel_rfl)
    (of_decide_eq_true (by kernel_rfl)) (by unfold Func.isWrapper; first | (rw [if_pos (by decide +kernel)]; kernel_rfl) | (rw [if_neg (by decide +kernel)]; exact ⟨rfl, rfl⟩))
    (fun os started H enc _ => lifted os started H enc)

/-- the statement -/
theorem proved : Rows.FnExactTakeManySaid := over
end Go.Proofs.Ytcinklbbacmihaa.exactTakeMany
