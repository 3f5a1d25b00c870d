/- For every code the law FnNextToken holds: waiting is as long as needed. No condition. -/
import Derived.Test.YtcinklbbacmihaaDrawBk3
import Derived.Test.YtcinklbbacmihaaBkLaw
import Derived.Test.YtcinklbbacmihaaSz
import Derived.ProofKit
import Derived.OpenShut
import Derived.ChangeOld
import Derived.Lib.SmallJoins
namespace Go.Proofs.Ytcinklbbacmihaa.nextToken
open Go.ChangeShapes Go.WideShapes Go.ChangeAt Go.RowKit Go.Joins
set_option linter.unusedVariables false
set_option linter.unusedSimpArgs false

theorem empty_now {s e t l now : Int} (h : bv s e t l = true) (hl : l ≤ now) (h0 : ¬ 0 < atT s e t l now) : t = 0 ∧ (now - l) / e = 0 ∧ now ≤ l + e - 1 ∧ atL s e t l now = l := by
  obtain ⟨h1, h2, h3, h4, h5, h6, h7, h8⟩ := bv_iff.1 h
  obtain ⟨d1, d2, d3, d4⟩ := div_bd (now - l) e (by omega) h3
  unfold atT at h0
  split at h0
  · omega
  · rename_i hs
    have hz : (now - l) / e = 0 := by omega
    have hlt : now - l < e := by
      by_cases h' : now - l < e
      · exact h'
      · have := (Int.le_ediv_iff_mul_le (c := e) (a := 1) (b := now - l) (by omega)).2 (by omega)
        omega
    refine ⟨by omega, hz, by omega, ?_⟩
    unfold atL
    rw [if_neg hs, hz]
    omega

theorem full_next {s e l : Int} (h : bv s e 0 l = true) : 0 < atT s e 0 l (l + e) := by
  obtain ⟨h1, h2, h3, h4, h5, h6, h7, h8⟩ := bv_iff.1 h
  unfold atT
  rw [show l + e - l = e from by omega, Int.ediv_self (by omega)]
  split <;> omega
theorem none_before {s e l : Int} (h : bv s e 0 l = true) : atT s e 0 l (l + e - 1) = 0 := by
  obtain ⟨h1, h2, h3, h4, h5, h6, h7, h8⟩ := bv_iff.1 h
  unfold atT
  have hz : (l + e - 1 - l) / e = 0 := Int.ediv_eq_zero_of_lt (by omega) (by omega)
  rw [hz, if_neg (by omega)]
  rfl

set_option maxHeartbeats 1600000 in
theorem walk (a : Option Addr) (len cap : Nat) (f : Nat → Int) (w : World) (h : CodeAt w a len cap f) : Calls Try.prog 11 #[.slice a len cap] w fun en w' =>
    en = .returned (.bool true) ∧ Below w.heap.size w w' := by
  by_cases hl : 1048576 < len
  · go_enter Try.func11, Try.ntmps11
    go_wp2_with fail
    go_ret
    exact ⟨rfl, (by repeat (first | exact Below.refl _ _ | (refine below_ext (by first | omega | (repeat (first | exact Nat.le_refl _ | refine le_ext ?_ | refine le_alloc _ ?_ | refine le_set _ _ ?_ | refine Nat.le_add_right_of_le ?_))) ?_) | (refine below_alloc _ (by first | omega | (repeat (first | exact Nat.le_refl _ | refine le_ext ?_ | refine le_alloc _ ?_ | refine le_set _ _ ?_ | refine Nat.le_add_right_of_le ?_))) ?_) | (refine below_setCell _ _ _ (by first | omega | (repeat (first | exact Nat.le_refl _ | refine le_ext ?_ | refine le_alloc _ ?_ | refine le_set _ _ ?_ | refine Nat.le_add_right_of_le ?_))) ?_) | refine Below.drew ?_ | (apply below_after; assumption; exact (by first | omega | (repeat (first | exact Nat.le_refl _ | refine le_ext ?_ | refine le_alloc _ ?_ | refine le_set _ _ ?_ | refine Nat.le_add_right_of_le ?_))))))⟩
  · go_enter Try.func11, Try.ntmps11
    go_wp2_with fail
    refine (drawNextToken _ a len cap f (CodeAt.below h (by repeat (first | exact Below.refl _ _ | (refine below_ext (by first | omega | (repeat (first | exact Nat.le_refl _ | refine le_ext ?_ | refine le_alloc _ ?_ | refine le_set _ _ ?_ | refine Nat.le_add_right_of_le ?_))) ?_) | (refine below_alloc _ (by first | omega | (repeat (first | exact Nat.le_refl _ | refine le_ext ?_ | refine le_alloc _ ?_ | refine le_set _ _ ?_ | refine Nat.le_add_right_of_le ?_))) ?_) | (refine below_setCell _ _ _ (by first | omega | (repeat (first | exact Nat.le_refl _ | refine le_ext ?_ | refine le_alloc _ ?_ | refine le_set _ _ ?_ | refine Nat.le_add_right_of_le ?_))) ?_) | refine Below.drew ?_ | (apply below_after; assumption; exact (by first | omega | (repeat (first | exact Nat.le_refl _ | refine le_ext ?_ | refine le_alloc _ ?_ | refine le_set _ _ ?_ | refine Nat.le_add_right_of_le ?_)))))))).mono ?_
    rintro e w1 ⟨s, ev, t, l, now, rfl, ⟨⟨m1, m2⟩, ⟨m3, m4⟩, _, ⟨m5, m6⟩, m7, m8⟩, hb⟩
    obtain ⟨os, d, rfl⟩ := ext_of hb
    clear hb h
    cases hc : cl s ev t l now
    · have H := Lib.hid hc
      clear hc
      go_wp2_with (first | (go_at_call 19; refine (specNT_no _ _ _ _ _ _ H.out).mono ?_; rintro e w1 ⟨rfl, hb⟩; obtain ⟨os, d, rfl⟩ := ext_of hb; clear hb) | (go_at_call 20; refine (implNT_no _ _ _ _ _ _ H.out).mono ?_; rintro e w1 ⟨rfl, hb⟩; obtain ⟨os, d, rfl⟩ := ext_of hb; clear hb) | (go_at_call 18; refine (alive_any _).mono ?_; rintro e w1 ⟨rfl, hb⟩; obtain ⟨os, d, rfl⟩ := ext_of hb; clear hb))
      all_goals (go_ret; exact ⟨rfl, (by repeat (first | exact Below.refl _ _ | (refine below_ext (by first | omega | (repeat (first | exact Nat.le_refl _ | refine le_ext ?_ | refine le_alloc _ ?_ | refine le_set _ _ ?_ | refine Nat.le_add_right_of_le ?_))) ?_) | (refine below_alloc _ (by first | omega | (repeat (first | exact Nat.le_refl _ | refine le_ext ?_ | refine le_alloc _ ?_ | refine le_set _ _ ?_ | refine Nat.le_add_right_of_le ?_))) ?_) | (refine below_setCell _ _ _ (by first | omega | (repeat (first | exact Nat.le_refl _ | refine le_ext ?_ | refine le_alloc _ ?_ | refine le_set _ _ ?_ | refine Nat.le_add_right_of_le ?_))) ?_) | refine Below.drew ?_ | (apply below_after; assumption; exact (by first | omega | (repeat (first | exact Nat.le_refl _ | refine le_ext ?_ | refine le_alloc _ ?_ | refine le_set _ _ ?_ | refine Nat.le_add_right_of_le ?_))))))⟩)
    · obtain ⟨hbv, hl1, hn1⟩ := cl_iff.1 hc
      obtain ⟨h1, h2, h3, h4, h5, h6, h7, h8⟩ := bv_iff.1 hbv
      have sN := fun w => specNT_yes s ev t l now w hc
      have iN := fun w => implNT_yes s ev t l now w hc
      by_cases h0 : 0 < atT s ev t l now
      · rw [show ntT s ev t l now = now from if_pos h0] at sN iN
        have hB : tkB (atT s ev t l now) = true := by unfold tkB; exact decide_eq_true (by omega)
        have iT := fun w => implTT_yes s ev t l now w hc
        rw [hB] at iT
        have hq : (now == now) = true := beq_self_eq_true now
        have hmax : max now (now - 1) = now := by omega
        clear hc hbv h0 hB
        go_wp2_with (first | (go_at_call 19; refine (sN _).mono ?_; rintro e w1 ⟨rfl, hb⟩; obtain ⟨os, d, rfl⟩ := ext_of hb; clear hb) | (go_at_call 20; refine (iN _).mono ?_; rintro e w1 ⟨rfl, hb⟩; obtain ⟨os, d, rfl⟩ := ext_of hb; clear hb) | (go_at_call 25; refine (iT _).mono ?_; rintro e w1 ⟨rfl, hb⟩; obtain ⟨os, d, rfl⟩ := ext_of hb; clear hb))
        go_ret
        exact ⟨rfl, (by repeat (first | exact Below.refl _ _ | (refine below_ext (by first | omega | (repeat (first | exact Nat.le_refl _ | refine le_ext ?_ | refine le_alloc _ ?_ | refine le_set _ _ ?_ | refine Nat.le_add_right_of_le ?_))) ?_) | (refine below_alloc _ (by first | omega | (repeat (first | exact Nat.le_refl _ | refine le_ext ?_ | refine le_alloc _ ?_ | refine le_set _ _ ?_ | refine Nat.le_add_right_of_le ?_))) ?_) | (refine below_setCell _ _ _ (by first | omega | (repeat (first | exact Nat.le_refl _ | refine le_ext ?_ | refine le_alloc _ ?_ | refine le_set _ _ ?_ | refine Nat.le_add_right_of_le ?_))) ?_) | refine Below.drew ?_ | (apply below_after; assumption; exact (by first | omega | (repeat (first | exact Nat.le_refl _ | refine le_ext ?_ | refine le_alloc _ ?_ | refine le_set _ _ ?_ | refine Nat.le_add_right_of_le ?_))))))⟩
      · obtain ⟨rfl, hz, hlt, hL⟩ := empty_now hbv hl1 h0
        rw [show ntT s ev 0 l now = l + ev by unfold ntT; rw [if_neg h0, hL]] at sN iN
        have hfull := full_next hbv
        have hnone := none_before hbv
        clear hL h0 hz
        have hq : (l + ev == l + ev) = true := beq_self_eq_true _
        by_cases hM : 1000000 < l + ev
        · clear hc hbv hfull hnone
          go_wp2_with (first | (go_at_call 19; refine (sN _).mono ?_; rintro e w1 ⟨rfl, hb⟩; obtain ⟨os, d, rfl⟩ := ext_of hb; clear hb) | (go_at_call 20; refine (iN _).mono ?_; rintro e w1 ⟨rfl, hb⟩; obtain ⟨os, d, rfl⟩ := ext_of hb; clear hb))
          go_ret
          exact ⟨rfl, (by repeat (first | exact Below.refl _ _ | (refine below_ext (by first | omega | (repeat (first | exact Nat.le_refl _ | refine le_ext ?_ | refine le_alloc _ ?_ | refine le_set _ _ ?_ | refine Nat.le_add_right_of_le ?_))) ?_) | (refine below_alloc _ (by first | omega | (repeat (first | exact Nat.le_refl _ | refine le_ext ?_ | refine le_alloc _ ?_ | refine le_set _ _ ?_ | refine Nat.le_add_right_of_le ?_))) ?_) | (refine below_setCell _ _ _ (by first | omega | (repeat (first | exact Nat.le_refl _ | refine le_ext ?_ | refine le_alloc _ ?_ | refine le_set _ _ ?_ | refine Nat.le_add_right_of_le ?_))) ?_) | refine Below.drew ?_ | (apply below_after; assumption; exact (by first | omega | (repeat (first | exact Nat.le_refl _ | refine le_ext ?_ | refine le_alloc _ ?_ | refine le_set _ _ ?_ | refine Nat.le_add_right_of_le ?_))))))⟩
        · have hc2 : cl s ev 0 l (l + ev) = true := cl_iff.2 ⟨hbv, by omega, by omega⟩
          have hc3 : cl s ev 0 l (l + ev - 1) = true := cl_iff.2 ⟨hbv, by omega, by omega⟩
          have iT := fun w => implTT_yes s ev 0 l (l + ev) w hc2
          have iE := fun w => implTT_yes s ev 0 l (l + ev - 1) w hc3
          rw [show tkB (atT s ev 0 l (l + ev)) = true by unfold tkB; exact decide_eq_true (by omega)] at iT
          rw [show tkB (atT s ev 0 l (l + ev - 1)) = false by unfold tkB; rw [hnone]; rfl] at iE
          clear hc hbv hfull hnone hc2 hc3 hq
          obtain ⟨T, hT⟩ : ∃ T, l + ev = T := ⟨_, rfl⟩
          obtain ⟨U, hU⟩ : ∃ U, T - 1 = U := ⟨_, rfl⟩
          rw [hT] at sN iN iT iE hM hlt
          rw [hU] at iE hlt
          have iE2 : ∀ (w : World) (x : Int), x = U → Calls Try.prog 25 #[.agg #[.int .i64 s, .int .i64 ev, .int .i64 0, .int .i64 l], .int .i64 x] w fun en w' =>
              en = .returned (.tuple #[.agg #[.int .i64 (s), .int .i64 (ev), .int .i64 (tkT (atT s ev 0 l U)), .int .i64 (atL s ev 0 l U)], .bool false]) ∧ Below w.heap.size w w' := by
            intro w x hx
            rw [hx]
            exact iE w
          clear iE
          have hq : (T == T) = true := beq_self_eq_true _
          go_wp2_with (first | (go_at_call 19; refine (sN _).mono ?_; rintro e w1 ⟨rfl, hb⟩; obtain ⟨os, d, rfl⟩ := ext_of hb; clear hb) | (go_at_call 20; refine (iN _).mono ?_; rintro e w1 ⟨rfl, hb⟩; obtain ⟨os, d, rfl⟩ := ext_of hb; clear hb) | (go_at_call 25; first | (refine (iE2 _ _ ?_).mono ?_; (focus (split <;> omega)); rintro e w1 ⟨rfl, hb⟩; obtain ⟨os, d, rfl⟩ := ext_of hb; clear hb) | (refine (iT _).mono ?_; rintro e w1 ⟨rfl, hb⟩; obtain ⟨os, d, rfl⟩ := ext_of hb; clear hb)))
          all_goals (go_ret; exact ⟨rfl, (by repeat (first | exact Below.refl _ _ | (refine below_ext (by first | omega | (repeat (first | exact Nat.le_refl _ | refine le_ext ?_ | refine le_alloc _ ?_ | refine le_set _ _ ?_ | refine Nat.le_add_right_of_le ?_))) ?_) | (refine below_alloc _ (by first | omega | (repeat (first | exact Nat.le_refl _ | refine le_ext ?_ | refine le_alloc _ ?_ | refine le_set _ _ ?_ | refine Nat.le_add_right_of_le ?_))) ?_) | (refine below_setCell _ _ _ (by first | omega | (repeat (first | exact Nat.le_refl _ | refine le_ext ?_ | refine le_alloc _ ?_ | refine le_set _ _ ?_ | refine Nat.le_add_right_of_le ?_))) ?_) | refine Below.drew ?_ | (apply below_after; assumption; exact (by first | omega | (repeat (first | exact Nat.le_refl _ | refine le_ext ?_ | refine le_alloc _ ?_ | refine le_set _ _ ?_ | refine Nat.le_add_right_of_le ?_))))))⟩)
theorem own : ownKnob Try.prog.godebug = none := by kernel_rfl
theorem laidOut : laidOutB Try.prog = true := by kernel_rfl
set_option maxRecDepth 100000 in
theorem lifted (os : Os) (started : os.Started) (H : Type) (enc : TypeId × Value → H) :
    ReturnsInHanded {} Try.checked os 11 .any (Rows.fnNextTokenSpec.pre6 enc Try.prog Try.f11 Rows.fnNextTokenRow.domain false) (Rows.fnNextTokenSpec.post enc Try.prog Try.f11 false true false false) := by
  refine returnsInHanded_of_change (C := Try.checked) own started (by kernel_rfl) Try.func11
    (ChangeSpec.witness6 (enc := enc) (C := Try.checked) false ⟨#[], #[.slice none 0 0], []⟩ 8 (by kernel_rfl) (by kernel_rfl) (by kernel_rfl) (by kernel_rfl)) ?_
  intro W base args ds gs before hval0 hW hcnd hsz
  have hval : ∀ (j : Nat) t v, Try.f11.params[j]? = some t → args[j]? = some v → Value.okWide Try.prog W .any base t v := hval0
  have hW' := hW
  obtain ⟨p, q, hA0, hV, rfl, hfz, hnd⟩ := hW
  have hA : DataW.TrodAll enc Try.prog W 0 (fun _ => true) true Try.f11.params.toList args.toList ds p := hA0
  rw [Try.params11] at hA hval
  obtain ⟨v0, vs0, d0, ds0, p0, q0, hargs, rfl, rfl, h0, r0⟩ := trodAll_cons hA
  obtain ⟨rfl, rfl, rfl⟩ := trodAll_nil r0
  obtain rfl : args = #[v0] := by cases args; simp_all
  obtain ⟨rfl, rfl⟩ := trodVars_none hV
  have k0 := h0
  have lt0 : ∀ x ∈ p0, x.block < W.heap.size := by obtain ⟨m, hm⟩ := k0; exact DataW.trod_lt m _ _ _ hm
  have hv0 := hval 0 28 v0 rfl rfl
  obtain ⟨a0, len0, cap0, rfl⟩ := okWide_slice Try.underlying28 hv0
  obtain ⟨f0, C0⟩ : ∃ f, CodeAt W a0 len0 cap0 f := by
    obtain ⟨fuel, hf⟩ := h0
    rcases open_ints Try.underlying28 Try.underlying5 (by kernel_rfl) hf with ⟨hcs, _⟩ | ⟨x, l, c, zs, hcs, _, hl, hm, hz, _, hcell, hwz⟩
    · simp [Value.cells] at hcs
      obtain ⟨rfl, rfl, rfl⟩ := hcs
      exact ⟨_, code_nil W⟩
    · simp [Value.cells] at hcs
      obtain ⟨rfl, rfl, rfl⟩ := hcs
      exact ⟨_, code_row hl hm (by simpa using hz) hcell hwz⟩
  clear hA0 hval0
  refine (walk a0 len0 cap0 f0 W C0).mono fun e W' ⟨he, bel⟩ => ?_
  subst he
  exact ⟨_, rfl, _, _, _, [], _, [], hW', trodAll_mk1 (shut_bool Try.underlying4 _), (trodAll_cons_mk (Below.trod laidOut (by kernel_rfl) (of_decide_eq_true (by kernel_rfl)) k0 bel lt0) trodAll_mk0), rfl, bel.frame _, fun h => by cases h⟩

theorem over : Rows.fnNextTokenRow.holds Try.pinned (OpenSpec.ofChange Rows.fnNextTokenSpec) :=
  OpenClaim.holds_of_wide 11 Try.f11 rfl rfl rfl rfl rfl rfl rfl ⟨rfl, rfl, rfl, rfl, rfl⟩ rfl rfl rfl rfl rfl (by kernel_rfl) Try.func11 (by kernel_rfl)
    (of_decide_eq_true (by kernel_rfl)) (by unfold Func.isWrapper; first | (rw [if_pos (by decide +kernel)]; kernel_rfl) | (rw [if_neg (by decide +kernel)]; exact ⟨rfl, rfl⟩))
    (fun os started H enc _ => lifted os started H enc)

/-- the statement -/
theorem proved : Rows.FnNextTokenSaid := over
end Go.Proofs.Ytcinklbbacmihaa.nextToken
