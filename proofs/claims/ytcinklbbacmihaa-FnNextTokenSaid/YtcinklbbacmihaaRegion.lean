/- A region that draws its order, by what each of its operations leaves: linear in the number of operations. -/
import Derived.Test.YtcinklbbacmihaaLib
import Derived.Orders
set_option linter.unusedSimpArgs false
set_option linter.unusedVariables false
namespace Go.Proofs.Ytcinklbbacmihaa
open Go.RowKit

section
variable {P : Program} {ops : Array Oper} {Q : Exit → Act → World → Prop} {md : Region.Mode}

theorem count_false_set {l : Array Bool} {i : Nat} (h : l.getD i true = false) : (l.setIfInBounds i true).count false + 1 = l.count false := by
  have hi : i < l.size := by
    rcases Nat.lt_or_ge i l.size with h' | h'
    · exact h'
    · simp [Array.getElem?_eq_none h'] at h
  have hv : l[i] = false := by simpa [hi] using h
  have hpos : 0 < l.count false := Array.count_pos_iff.2 (hv ▸ Array.getElem_mem hi)
  rw [Array.setIfInBounds, dif_pos hi, Array.count_set hi, hv]
  simp
  omega

theorem count_tf : ∀ l : List Bool, l.count true + l.count false = l.length
  | [] => rfl
  | b :: r => by
    have := count_tf r
    cases b <;> simp [List.count_cons] <;> omega

theorem wpAny_inv (I : Array Bool → Act → World → Prop) (hsz : ∀ l a w, I l a w → l.size = ops.size)
    (hstep : ∀ l a w i, I l a w → i ∈ Region.ready md ops l → wpOp P ops Q i (fun a' w' => I (l.setIfInBounds i true) a' w') a w)
    (hend : ∀ l a w, I l a w → Region.ready md ops l = [] → Q .normal a w) :
    ∀ (fuel : Nat) (l : Array Bool) (a : Act) (w : World), I l a w → l.count false ≤ fuel → wpAny P md ops Q fuel l a w := by
  intro fuel
  induction fuel with
  | zero =>
    intro l a w hI hc
    have hr : Region.ready md ops l = [] := by
      apply List.eq_nil_iff_forall_not_mem.2
      intro j hj
      have := count_false_set (mem_ready.1 hj).1
      omega
    exact ⟨hr, hend l a w hI hr⟩
  | succ fuel ih =>
    intro l a w hI hc
    refine ⟨fun hr => hend l a w hI hr, fun i hi => ?_⟩
    have := count_false_set (mem_ready.1 hi).1
    exact wpOp_mono (fun a' w' hI' => ih _ _ _ hI' (by omega)) (hstep l a w i hI hi)

/-- the frame's slot holds the value -/
def slotIs (a : Act) (d : Option Tmp) (v : Value) : Prop := match d with | some d => a.tmps[d]? = some v | none => True
theorem slotIs_some {a : Act} {d : Tmp} {v : Value} : slotIs a (some d) v = (a.tmps[d]? = some v) := rfl

/-- blocks outside D are as they were -/
structure Upd (D : Nat → Prop) (w w' : World) : Prop where
  os : w'.os = w.os
  tape : w'.tape = w.tape
  output : w'.output = w.output
  size : w.heap.size ≤ w'.heap.size
  block : ∀ b, b < w.heap.size → ¬ D b → w'.heap[b]? = w.heap[b]?

/-- the frame with all operations' values put -/
def putList : List Oper → Nat → (Nat → Value) → Act → Act
  | [], _, _, a => a
  | o :: r, i, vs, a => putList r (i + 1) vs (a.put o.dst (vs i))

/-- the operations' slots differ, and lie in the frame; each waits for earlier ones alone -/
def goodDsts (ops : Array Oper) (n : Nat) : Bool :=
  decide (ops.toList.filterMap (·.dst)).Nodup && (ops.toList.filterMap (·.dst)).all (fun d => decide (d < n)) &&
  (List.range ops.size).all fun i => match ops[i]? with | some o => o.after.toList.all (fun e => !Region.binds .any e || decide (e.on < i)) | none => true

theorem goodDsts_spec {ops : Array Oper} {n : Nat} (h : goodDsts ops n = true) :
    (ops.toList.filterMap (·.dst)).Nodup ∧ (∀ d ∈ ops.toList.filterMap (·.dst), d < n) ∧ ∀ (i : Nat) (o : Oper), ops[i]? = some o → ∀ e ∈ o.after, Region.binds .any e = true → e.on < i := by
  unfold goodDsts at h
  rw [Bool.and_eq_true, Bool.and_eq_true] at h
  obtain ⟨⟨h1, h2⟩, h3⟩ := h
  refine ⟨of_decide_eq_true h1, fun d hd => of_decide_eq_true (List.all_eq_true.1 h2 d hd), fun i o ho e he hb => ?_⟩
  have hi : i < ops.size := by
    rcases Nat.lt_or_ge i ops.size with h' | h'
    · exact h'
    · simp [Array.getElem?_eq_none h'] at ho
  have := List.all_eq_true.1 h3 i (List.mem_range.2 hi)
  rw [ho] at this
  have := List.all_eq_true.1 this e (by simpa using he)
  rw [hb] at this
  exact of_decide_eq_true (by simpa using this)

theorem nodup_uniq : ∀ (l : List Oper), (l.filterMap (·.dst)).Nodup → ∀ (i j : Nat) (o o' : Oper) (d : Tmp), l[i]? = some o → l[j]? = some o' → o.dst = some d → o'.dst = some d → i = j
  | [], _, i, j, o, o', d, h, _, _, _ => by simp at h
  | x :: r, hn, i, j, o, o', d, hi, hj, hd, hd' => by
    have hn' : (r.filterMap (·.dst)).Nodup := by
      cases ho : x.dst with
      | none => simpa [ho] using hn
      | some d => simp [ho] at hn; exact hn.2
    have hno : ∀ (k : Nat) (y : Oper), r[k]? = some y → x.dst = some d → y.dst ≠ some d := by
      intro k y hy hx hyd
      simp [hx] at hn
      exact hn.1 y (List.mem_of_getElem? hy) hyd
    cases i with
    | zero =>
      cases j with
      | zero => rfl
      | succ j =>
        simp at hi hj
        subst hi
        exact absurd hd' (hno j o' hj hd)
    | succ i =>
      cases j with
      | zero =>
        simp at hi hj
        subst hj
        exact absurd hd (hno i o hi hd')
      | succ j =>
        have := nodup_uniq r hn' i j o o' d (by simpa using hi) (by simpa using hj) hd hd'
        omega

theorem size_put (a : Act) (d : Option Tmp) (v : Value) : (a.put d v).tmps.size = a.tmps.size := by
  cases d <;> simp [Act.put]
theorem defers_put (a : Act) (d : Option Tmp) (v : Value) : (a.put d v).defers = a.defers := by
  cases d <;> simp [Act.put]
theorem tmps_put (a : Act) (d : Option Tmp) (v : Value) (t : Tmp) : (a.put d v).tmps[t]? = if d = some t ∧ t < a.tmps.size then some v else a.tmps[t]? := by
  cases d with
  | none => simp [Act.put]
  | some d =>
    simp only [Act.put, Option.some.injEq, Array.getElem?_setIfInBounds]
    by_cases h : d = t
    · subst h
      by_cases h2 : d < a.tmps.size
      · simp [h2]
      · simp [h2]
    · simp [h]

theorem putList_spec (vs : Nat → Value) : ∀ (l : List Oper) (k : Nat) (a : Act), (l.filterMap (·.dst)).Nodup → (∀ d ∈ l.filterMap (·.dst), d < a.tmps.size) →
    (putList l k vs a).defers = a.defers ∧ (putList l k vs a).tmps.size = a.tmps.size ∧
    (∀ t, (∀ o ∈ l, o.dst ≠ some t) → (putList l k vs a).tmps[t]? = a.tmps[t]?) ∧
    (∀ i o d, l[i]? = some o → o.dst = some d → (putList l k vs a).tmps[d]? = some (vs (k + i))) := by
  intro l
  induction l with
  | nil => intro k a _ _; exact ⟨rfl, rfl, fun _ _ => rfl, fun i o d h => by simp at h⟩
  | cons o r ih =>
    intro k a hn hb
    have hn' : (r.filterMap (·.dst)).Nodup := by
      cases ho : o.dst with
      | none => simpa [ho] using hn
      | some d => simp [ho] at hn; exact hn.2
    have hb' : ∀ d ∈ r.filterMap (·.dst), d < (a.put o.dst (vs k)).tmps.size := by
      intro d hd
      rw [size_put]
      refine hb d ?_
      rw [List.filterMap_cons]
      cases ho : o.dst with
      | none => exact hd
      | some d' => exact List.mem_cons_of_mem _ hd
    obtain ⟨h1, h2, h3, h4⟩ := ih (k + 1) (a.put o.dst (vs k)) hn' hb'
    refine ⟨by rw [putList, h1, defers_put], by rw [putList, h2, size_put], fun t ht => ?_, fun i o' d hi hd => ?_⟩
    · rw [putList, h3 t (fun o' ho' => ht o' (List.mem_cons_of_mem _ ho')), tmps_put, if_neg]
      intro ⟨h, _⟩
      exact ht o (List.mem_cons_self ..) h
    · cases i with
      | zero =>
        simp at hi
        subst hi
        have hlt : d < a.tmps.size := hb d (by simp [hd])
        have hnot : ∀ o' ∈ r, o'.dst ≠ some d := by
          intro o' ho' hd'
          simp [hd] at hn
          exact hn.1 o' ho' hd'
        rw [putList, h3 d hnot, tmps_put, if_pos ⟨hd, hlt⟩]
        rfl
      | succ i =>
        rw [putList, h4 i o' d (by simpa using hi) hd]
        congr 2
        omega

theorem act_eq {a b : Act} (h1 : a.defers = b.defers) (h2 : a.tmps = b.tmps) : a = b := by
  cases a; cases b; simp_all

/-- A REGION THAT DRAWS ITS ORDER. S: what operation i leaves; Inv: what holds of the world behind k operations; D: the blocks that operation i may write. -/
theorem region_inv {id : Nat} {a0 : Act} {w0 : World} (hm : P.follows .mixedOrders = true) (hd : goodDsts ops a0.tmps.size = true)
    (S : Nat → Value → World → Prop) (Inv : Nat → World → Prop) (D : Nat → Nat → Prop)
    (hS : ∀ i j v w w', i ≠ j → S j v w → Upd (D i) w w' → S j v w')
    (h0 : Inv 0 w0.drew)
    (hstep : ∀ k i o, ops[i]? = some o → ∀ a w, Inv k w → k < ops.size → a.defers = a0.defers → a.tmps.size = a0.tmps.size → (∀ t, (∀ o ∈ ops, o.dst ≠ some t) → a.tmps[t]? = a0.tmps[t]?) →
      (∀ e ∈ o.after, Region.binds .any e = true → ∀ o', ops[e.on]? = some o' → ∃ v, slotIs a o'.dst v ∧ S e.on v w) →
      wpOp P ops Q i (fun a' w' => ∃ v, a' = a.put o.dst v ∧ S i v w' ∧ Inv (k + 1) w' ∧ Upd (D i) w w') a w)
    (hend : ∀ (vs : Nat → Value) w, Inv ops.size w → (∀ i, i < ops.size → S i (vs i) w) → Q .normal (putList ops.toList 0 vs a0) w) :
    (Code.region id ops true).wp P Q a0 w0 := by
  obtain ⟨hnd1, hnd2, hback⟩ := goodDsts_spec hd
  have huniq : ∀ (i j : Nat) (o o' : Oper) (d : Tmp), ops[i]? = some o → ops[j]? = some o' → o.dst = some d → o'.dst = some d → i = j := by
    intro i j o o' d hi hj
    exact nodup_uniq ops.toList hnd1 i j o o' d (by simpa using hi) (by simpa using hj)
  refine wp_region_any hm (wpAny_inv (fun l a w => l.size = ops.size ∧ Inv (l.count true) w ∧ a.defers = a0.defers ∧ a.tmps.size = a0.tmps.size ∧ (∀ t, (∀ o ∈ ops, o.dst ≠ some t) → a.tmps[t]? = a0.tmps[t]?) ∧
    ∀ i o, ops[i]? = some o → l.getD i false = true → ∃ v, slotIs a o.dst v ∧ S i v w) (fun l a w h => h.1) ?_ ?_ ops.size _ a0 _ ?_ ?_)
  · intro l a w i ⟨hl, hI, hdf, hsz, hfr, hsl⟩ hi
    obtain ⟨hun, o, ho, hall⟩ := mem_ready.1 hi
    have hli : i < l.size := by
      rcases Nat.lt_or_ge i l.size with h' | h'
      · exact h'
      · simp [Array.getElem?_eq_none h'] at hun
    have hlv : l[i] = false := by simpa [hli] using hun
    have hklt : l.count true < ops.size := by
      have h1 := count_false_set hun
      have h2 : l.count true + l.count false = l.size := by
        rw [← Array.count_toList, ← Array.count_toList, count_tf]
        simp
      omega
    refine wpOp_mono ?_ (hstep (l.count true) i o ho a w hI hklt hdf hsz hfr (fun e he hb o' ho' => hsl e.on o' ho' (hall e he hb)))
    rintro a' w' ⟨v, rfl, hv, hI', hu⟩
    have hcount : (l.setIfInBounds i true).count true = l.count true + 1 := by
      rw [Array.setIfInBounds, dif_pos hli, Array.count_set hli, hlv]
      simp
    refine ⟨by simpa using hl, by rw [hcount]; exact hI', by rw [defers_put]; exact hdf, by rw [size_put]; exact hsz, fun t ht => ?_, fun j oj hoj hj => ?_⟩
    · rw [tmps_put, if_neg (fun h => ht o (Array.mem_of_getElem? ho) h.1)]
      exact hfr t ht
    · by_cases hij : i = j
      · subst hij
        obtain rfl : o = oj := by rw [ho] at hoj; exact Option.some.inj hoj
        refine ⟨v, ?_, hv⟩
        cases hdd : o.dst with
        | none => trivial
        | some d =>
          have hlt : d < a.tmps.size := by
            rw [hsz]
            exact hnd2 d (List.mem_filterMap.2 ⟨o, by simpa using Array.mem_of_getElem? ho, hdd⟩)
          rw [slotIs_some, tmps_put, if_pos ⟨rfl, hlt⟩]
      · have hj' : l.getD j false = true := by
          simpa [Array.getElem?_setIfInBounds_ne hij] using hj
        obtain ⟨u, hu1, hu2⟩ := hsl j oj hoj hj'
        refine ⟨u, ?_, hS i j u w w' hij hu2 hu⟩
        cases hdd : oj.dst with
        | none => trivial
        | some d =>
          rw [hdd] at hu1
          rw [slotIs_some] at hu1 ⊢
          rw [tmps_put, if_neg (fun h => hij (huniq i j o oj d ho hoj h.1 hdd))]
          exact hu1
  · intro l a w ⟨hl, hI, hdf, hsz, hfr, hsl⟩ hr
    have hall : ∀ n i, i < n → i < ops.size → l.getD i true = true := by
      intro n
      induction n with
      | zero => intro i hi; omega
      | succ n ih =>
        intro i hi his
        cases hv : l.getD i true with
        | true => rfl
        | false =>
          exfalso
          have hin : i ∈ Region.ready .any ops l := mem_ready.2 ⟨hv, ops[i], Array.getElem?_eq_getElem his, fun e he hbd => by
            have hlt := hback i ops[i] (Array.getElem?_eq_getElem his) e he hbd
            have := ih e.on (by omega) (by omega)
            have hel : e.on < l.size := by omega
            simpa [hel] using this⟩
          rw [hr] at hin
          cases hin
    have hget : ∀ i (h : i < l.size), l[i] = true := by
      intro i h
      have := hall (i + 1) i (by omega) (by omega)
      simpa [h] using this
    have hcount : l.count true = ops.size := by
      rw [← hl]
      exact Array.count_eq_size.2 (fun b hb => by obtain ⟨i, h, rfl⟩ := Array.getElem_of_mem hb; exact (hget i h).symm)
    rw [hcount] at hI
    have hval : ∀ i, ∃ v, i < ops.size → slotIs a ((ops[i]?).bind (·.dst)) v ∧ S i v w := by
      intro i
      by_cases hi : i < ops.size
      · obtain ⟨v, h1, h2⟩ := hsl i ops[i] (Array.getElem?_eq_getElem hi) (by have := hget i (by omega); simp [hl, hi, this])
        exact ⟨v, fun _ => ⟨by rw [Array.getElem?_eq_getElem hi]; exact h1, h2⟩⟩
      · exact ⟨undef, fun h => absurd h hi⟩
    obtain ⟨vs, hvs⟩ := Classical.axiomOfChoice hval
    have hspec := putList_spec vs ops.toList 0 a0 hnd1 hnd2
    have hact : a = putList ops.toList 0 vs a0 := by
      refine act_eq (by rw [hdf, hspec.1]) (Array.ext_getElem? fun t => ?_)
      by_cases ht : ∃ o ∈ ops, o.dst = some t
      · obtain ⟨o, ho, hd⟩ := ht
        obtain ⟨i, hi, rfl⟩ := Array.getElem_of_mem ho
        have h1 := hspec.2.2.2 i ops[i] t (by simp [hi]) hd
        have h2 := (hvs i hi).1
        rw [Array.getElem?_eq_getElem hi, Option.bind_some, hd, slotIs_some] at h2
        rw [h2, h1]
        simp
      · have hno : ∀ o ∈ ops, o.dst ≠ some t := fun o ho hd => ht ⟨o, ho, hd⟩
        rw [hfr t hno, hspec.2.2.1 t (fun o ho => hno o (by simpa using ho))]
    rw [hact]
    exact hend vs w hI (fun i hi => (hvs i hi).2)
  · refine ⟨by simp, ?_, rfl, rfl, fun _ _ => rfl, fun i o ho hi => ?_⟩
    · have : (Array.replicate ops.size false).count true = 0 := by
        rw [Array.count_eq_zero]
        intro h
        simp at h
      rw [this]
      exact h0
    · exfalso
      by_cases hi' : i < ops.size
      · simp [hi'] at hi
      · simp [Array.getElem?_eq_none (Nat.le_of_not_lt hi')] at ho
  · exact Nat.le_trans Array.count_le_size (by simp)

theorem eval_of {a : Act} {t : Tmp} {v : Value} (h : a.tmps[t]? = some v) : a.eval (.tmp t) = v := by simp [Act.eval, h]
theorem eval_slot {a : Act} {t : Tmp} {v : Value} (h : slotIs a (some t) v) : a.eval (.tmp t) = v := eval_of h
theorem eval_const (a : Act) (v : Value) : a.eval (.const v) = v := rfl
theorem eval_func (a : Act) (f : FuncId) : a.eval (.func f) = .func (.func f) #[] #[] := rfl
theorem step_val {i : Nat} {o : Oper} {K : Act → World → Prop} {a : Act} {w w' : World} {v : Value} (hi : ops[i]? = some o) (hg : o.guard = none)
    (hr : (execOp a.eval o).run P w = .ok (.value v) w') (hK : K (a.put o.dst v) w') : wpOp P ops Q i K a w := by
  unfold wpOp
  simp only [hi, Region.wanted, hg, if_true, Oper.wp, hr, Oper.upon]
  exact .inl hK
theorem step_skip {i : Nat} {o : Oper} {K : Act → World → Prop} {a : Act} {w w' : World} (hi : ops[i]? = some o) (hg : o.guard = none)
    (hr : (execOp a.eval o).run P w = .ok .skip w') (hK : K (a.put o.dst undef) w') : wpOp P ops Q i K a w := by
  unfold wpOp
  simp only [hi, Region.wanted, hg, if_true, Oper.wp, hr, Oper.upon]
  exact .inl hK
theorem step_call {i : Nat} {o : Oper} {K : Act → World → Prop} {a : Act} {w w' : World} {f : FuncId} {vals : Array Value} (hi : ops[i]? = some o) (hg : o.guard = none)
    (hr : (execOp a.eval o).run P w = .ok (.enter f vals) w') (hK : Calls P f vals w' fun e w'' => ∃ v, e = .returned v ∧ K (a.put o.dst v) w'') : wpOp P ops Q i K a w := by
  unfold wpOp
  simp only [hi, Region.wanted, hg, if_true, Oper.wp, hr, Oper.upon]
  refine .inl (hK.mono ?_)
  rintro e w'' ⟨v, rfl, hk⟩
  exact hk
end
end Go.Proofs.Ytcinklbbacmihaa
