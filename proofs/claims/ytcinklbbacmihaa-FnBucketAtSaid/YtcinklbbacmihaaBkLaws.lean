/- The laws of the drawn bucket functions, on their pure forms. -/
import Derived.Test.YtcinklbbacmihaaDrawPure
import Derived.Test.YtcinklbbacmihaaTakeManyPure
set_option linter.unusedSimpArgs false
set_option linter.unusedVariables false
namespace Go.Proofs.Ytcinklbbacmihaa

theorem S_canLook {b : GBucket} {now : Int} {κ : Bool → Prop} (h : κ (decide (lookP b now))) : L_impl_Bucket_canLook b now κ := by
  unfold L_impl_Bucket_canLook jnW
  unfold lookP at h
  refine S_BucketValid (ifW_of (fun hv => ?_) (fun hv => ?_))
  · simp at hv
    refine ifW_of (fun h1 => ?_) (fun h1 => ?_)
    · simp at h1
      simpa [hv, h1] using h
    · simp at h1
      simpa [show ¬ (b.xLast ≤ now) by omega] using h
  · simp at hv
    simpa [hv] using h
theorem S_implBucketAt {b : GBucket} {now : Int} {κ : GBucket → Prop} (h : κ (if lookP b now then bkAt b now else ⟨0, 0, 0, 0⟩)) : L_impl_BucketAt b now κ := by
  unfold L_impl_BucketAt
  refine S_canLook (ifW_of (fun hc => ?_) (fun hc => ?_))
  · simp at hc
    rwa [if_neg hc] at h
  · simp at hc
    rw [if_pos hc] at h
    exact S_at hc h
theorem S_implTakeToken {b : GBucket} {now : Int} {κ : GBucket × Bool → Prop} (h : κ (if lookP b now then bkTake b now else (⟨0, 0, 0, 0⟩, false))) : L_impl_TakeToken b now κ := by
  unfold L_impl_TakeToken
  refine S_canLook (ifW_of (fun hc => ?_) (fun hc => ?_))
  · simp at hc
    rwa [if_neg hc] at h
  · simp at hc
    rw [if_pos hc] at h
    exact S_take hc h

theorem S_implTT_y {b : GBucket} {now : Int} (hl : lookP b now) {κ : GBucket × Bool → Prop} (h : ∀ A ok, bkTake b now = (A, ok) → κ (A, ok)) : L_impl_TakeToken b now κ := S_implTakeToken (by rw [if_pos hl]; exact h _ _ rfl)
theorem S_implTT_n {b : GBucket} {now : Int} (hl : ¬ lookP b now) {κ : GBucket × Bool → Prop} (h : κ (⟨0, 0, 0, 0⟩, false)) : L_impl_TakeToken b now κ := S_implTakeToken (by rw [if_neg hl]; exact h)
theorem S_specTT_y {b : GBucket} {now : Int} (hl : lookP b now) {κ : GBucket × Bool → Prop} (h : ∀ A ok, bkTake b now = (A, ok) → κ (A, ok)) : L_spec_TakeToken b now κ := S_specTakeToken (by rw [if_pos hl]; exact h _ _ rfl)
theorem S_specTT_n {b : GBucket} {now : Int} (hl : ¬ lookP b now) {κ : GBucket × Bool → Prop} (h : κ (⟨0, 0, 0, 0⟩, false)) : L_spec_TakeToken b now κ := S_specTakeToken (by rw [if_neg hl]; exact h)

/-! a bucket looked at twice -/
theorem div_shift (x q e : Int) (h : 1 ≤ e) : (x - q * e) / e = x / e - q := by
  rw [Int.sub_eq_add_neg, ← Int.neg_mul, Int.add_mul_ediv_right _ _ (by omega)]
  omega
theorem bkAt_at {b : GBucket} {now later : Int} (h : lookP b now) (h2 : now ≤ later) : bkAt (bkAt b now) later = bkAt b later := by
  obtain ⟨hb, h1, _⟩ := h
  obtain ⟨b1, b2, b3, b4, b5, b6, b7, b8⟩ := hb
  have hm : (now - b.xLast) / b.xEvery ≤ (later - b.xLast) / b.xEvery := Int.ediv_le_ediv (by omega) (by omega)
  have hn : 0 ≤ (later - now) / b.xEvery := Int.ediv_nonneg (by omega) (by omega)
  by_cases hf : b.xSize ≤ b.xTokens + (now - b.xLast) / b.xEvery
  · have e1 : bkAt b now = ⟨b.xSize, b.xEvery, b.xSize, now⟩ := if_pos hf
    have e2 : bkAt b later = ⟨b.xSize, b.xEvery, b.xSize, later⟩ := if_pos (by omega)
    rw [e1, e2]
    exact if_pos (by simp only; omega)
  · have e1 : bkAt b now = ⟨b.xSize, b.xEvery, b.xTokens + (now - b.xLast) / b.xEvery, b.xLast + (now - b.xLast) / b.xEvery * b.xEvery⟩ := if_neg hf
    have hd : (later - (b.xLast + (now - b.xLast) / b.xEvery * b.xEvery)) / b.xEvery = (later - b.xLast) / b.xEvery - (now - b.xLast) / b.xEvery := by
      rw [← div_shift _ _ _ b3]
      congr 1
      omega
    rw [e1]
    unfold bkAt
    simp only
    rw [hd]
    have hx : b.xTokens + (now - b.xLast) / b.xEvery + ((later - b.xLast) / b.xEvery - (now - b.xLast) / b.xEvery) = b.xTokens + (later - b.xLast) / b.xEvery := by omega
    have hy : b.xLast + (now - b.xLast) / b.xEvery * b.xEvery + ((later - b.xLast) / b.xEvery - (now - b.xLast) / b.xEvery) * b.xEvery = b.xLast + (later - b.xLast) / b.xEvery * b.xEvery := by
      rw [Int.sub_mul]; omega
    rw [hx, hy]
theorem bkAt_last {b : GBucket} {now : Int} (h : lookP b now) : ((bkAt b now).xTokens = b.xSize ∧ (bkAt b now).xLast = now) ∨ ((bkAt b now).xTokens < b.xSize ∧ now - (bkAt b now).xLast < b.xEvery) := by
  obtain ⟨hb, h1, _⟩ := h
  obtain ⟨b1, b2, b3, b4, b5, b6, b7, b8⟩ := hb
  unfold bkAt
  split
  · exact .inl ⟨rfl, rfl⟩
  · refine .inr ⟨by simp only; omega, ?_⟩
    have := Int.lt_ediv_add_one_mul_self (now - b.xLast) (show 0 < b.xEvery by omega)
    rw [Int.add_mul] at this
    simp only
    omega
/-- looked at again at the same time, nothing changes -/
theorem bkAt_still {b : GBucket} {now : Int} (h : bvP b) (h1 : b.xLast ≤ now) (h2 : b.xTokens < b.xSize) (h3 : now - b.xLast < b.xEvery) : bkAt b now = b := by
  obtain ⟨b1, b2, b3, b4, b5, b6, b7, b8⟩ := h
  have hz : (now - b.xLast) / b.xEvery = 0 := Int.ediv_eq_zero_of_lt (by omega) h3
  unfold bkAt
  rw [hz, if_neg (by omega)]
  cases b
  simp

theorem S_zeroAlive {A : GBucket} (hA : A = ⟨0, 0, 0, 0⟩) : ifW (decide (A = (GBucket.mk 0 0 0 0))) (L_laws_alive (fun r => r = true)) (false = true) := by
  subst hA
  exact ifW_of (fun _ => S_alive rfl) (fun hc => by simp at hc)

theorem bucketAt_pure (code more : List UInt8) : L_laws_FnBucketAt code more (fun r => r = true) := by
  unfold L_laws_FnBucketAt jnW
  refine ifW_of (fun _ => by simp only [ifW_true]) (fun hc => ifW_of (fun _ => rfl) (fun hm => S_DrawBucketAt (fun b now hb n1 n2 => S_implBucketAt (S_specBucketAt ?_))))
  simp at hm hc
  refine ifW_of (fun hne => by simp at hne) (fun _ => S_specBucketValid ?_)
  by_cases hl : lookP b now
  · have hl' := hl
    obtain ⟨hv, hl1, hl2⟩ := hl'
    have ho := bkAt_ok hl
    have hla := bkAt_last hl
    obtain ⟨o1, o2, o3, o4, o5, o6⟩ := ho
    refine ifW_of (fun h => by simp [hv] at h) (fun _ => ifW_of (fun h => by simp at h; omega) (fun _ => ifW_of (fun h => by simp at h; omega) (fun _ => ?_)))
    rw [if_pos hl]
    refine remW_lt (by omega) (by omega) (by omega) (fun z z1 z2 => addW_of (by omega) (by omega) (S_implBucketAt (S_implBucketAt ?_)))
    have hla1 : lookP (bkAt b now) (min 1000000 (now + z)) := ⟨o1, by omega, by omega⟩
    have hla2 : lookP b (min 1000000 (now + z)) := ⟨hv, by omega, by omega⟩
    rw [if_pos hla1, if_pos hla2, bkAt_at hl (by omega)]
    refine S_BucketValid ?_
    simp only [o1, o6, o2, decide_true, ifW_true]
    refine ifW_of (fun _ => trivial) (fun h => ?_)
    simp at h
    obtain ⟨_, _, _, _, _, _, _, _⟩ := id o1
    refine subW_of (by omega) (by omega) ?_
    simp only [decide_eq_true_eq]
    rcases hla with ⟨e, _⟩ | ⟨_, e⟩
    · exact absurd (e.trans o4.symm) h
    · exact e
  · rw [if_neg hl]
    have fin := S_zeroAlive (A := ⟨0, 0, 0, 0⟩) rfl
    refine ifW_of (fun _ => ?_) (fun h1 => ifW_of (fun _ => ?_) (fun h2 => ifW_of (fun _ => ?_) (fun h3 => ?_)))
    · exact ifW_of (fun _ => fin) (fun h => by simp at h)
    · exact ifW_of (fun _ => fin) (fun h => by simp at h)
    · exact fin
    · simp at h1 h2 h3
      exact absurd ⟨h1, h2, h3⟩ hl

theorem takeToken_pure (code : List UInt8) : L_laws_FnTakeToken code (fun r => r = true) := by
  unfold L_laws_FnTakeToken jnW
  refine ifW_of (fun _ => rfl) (fun hc => S_DrawTakeToken (fun b now hb n1 n2 => ?_))
  simp at hc
  by_cases hl : lookP b now
  · refine S_implTT_y hl (fun A ok hR => S_specTT_y hl (fun A' ok' hR' => ?_))
    obtain ⟨rfl, rfl⟩ := Prod.mk.inj (hR.symm.trans hR')
    clear hR'
    refine ifW_of (fun hne => by simp at hne) (fun _ => ifW_of (fun hne => by simp at hne) (fun _ => S_specBucketValid ?_))
    have hl' := hl
    obtain ⟨hv, hl1, hl2⟩ := hl'
    have ho := bkAt_ok hl
    have hla := bkAt_last hl
    have htk := bkTake_ok hl
    obtain ⟨o1, o2, o3, o4, o5, o6⟩ := ho
    obtain ⟨b1, b2, b3, b4, b5, b6, b7, b8⟩ := id o1
    refine ifW_of (fun h => by simp [hv] at h) (fun _ => ifW_of (fun h => by simp at h; omega) (fun _ => ifW_of (fun h => by simp at h; omega) (fun _ => ?_)))
    refine S_implBucketAt ?_
    rw [if_pos hl]
    show loopW _ _
    -- the state after k takes
    have hv' : b.xSize ≤ 100 := by unfold bvP at hv; omega
    refine count_loop 101 (fun s => s.2.2.2.2) (fun k s => s.2.2.2.2 = (k : Int) ∧ (k : Int) ≤ (bkAt b now).xTokens ∧ (⟨s.1, s.2.1, s.2.2.1, s.2.2.2.1⟩ : GBucket) = (if k = 0 then b else ⟨b.xSize, b.xEvery, (bkAt b now).xTokens - k, (bkAt b now).xLast⟩)) (fun k s h => h.1) (fun k s h => by have := h.2.1; omega) ?_
      ⟨rfl, by omega, rfl⟩
    rintro k ⟨s, e, t, la, q⟩ next ⟨hq, hk, hs⟩ hn
    simp only at hq hs
    subst hq
    refine ifW_of (fun hle => ?_) (fun hle => by simp at hle; omega)
    rw [hs]
    have hst : lookP (if k = 0 then b else ⟨b.xSize, b.xEvery, (bkAt b now).xTokens - k, (bkAt b now).xLast⟩) now ∧ bkAt (if k = 0 then b else ⟨b.xSize, b.xEvery, (bkAt b now).xTokens - k, (bkAt b now).xLast⟩) now = ⟨b.xSize, b.xEvery, (bkAt b now).xTokens - k, (bkAt b now).xLast⟩ := by
      by_cases h0 : k = 0
      · subst h0
        rw [if_pos rfl]
        refine ⟨hl, ?_⟩
        rw [← o4, ← o5]
        simp
      · rw [if_neg h0]
        have hvv : bvP ⟨b.xSize, b.xEvery, (bkAt b now).xTokens - k, (bkAt b now).xLast⟩ := by
          unfold bvP at hv ⊢
          simp only
          omega
        refine ⟨⟨hvv, o2, hl2⟩, bkAt_still hvv o2 ?_ ?_⟩
        · simp only; omega
        · simp only
          unfold bvP at hv
          omega
    generalize (if k = 0 then b else (⟨b.xSize, b.xEvery, (bkAt b now).xTokens - k, (bkAt b now).xLast⟩ : GBucket)) = B at hst hs
    obtain ⟨hB, eB⟩ := hst
    have eT : bkTake B now = if (bkAt b now).xTokens - (k : Int) = 0 then (⟨b.xSize, b.xEvery, (bkAt b now).xTokens - k, (bkAt b now).xLast⟩, false) else (⟨b.xSize, b.xEvery, (bkAt b now).xTokens - k - 1, (bkAt b now).xLast⟩, true) := by
      unfold bkTake
      rw [eB]
    have htk := htk.1
    rw [hR] at htk
    refine S_implTT_y hB (fun A2 ok2 hR2 => ?_)
    rw [eT] at hR2
    unfold bkTake at hR
    by_cases hz : (bkAt b now).xTokens - (k : Int) = 0
    · rw [if_pos hz] at hR2
      obtain ⟨rfl, rfl⟩ := Prod.mk.inj hR2
      simp only [Bool.not_false, ifW_true]
      have e1 : (k : Int) = (bkAt b now).xTokens := by omega
      rw [e1]
      by_cases hx : (bkAt b now).xTokens = 0
      · rw [if_pos hx] at hR
        obtain ⟨rfl, rfl⟩ := Prod.mk.inj hR
        simp only [hx]
        refine ifW_of (fun _ => ?_) (fun h => by simp at h)
        refine ifW_of (fun _ => ?_) (fun h => by simp at h)
        exact S_BucketValid (by simpa using o1)
      · rw [if_neg hx] at hR
        obtain ⟨rfl, rfl⟩ := Prod.mk.inj hR
        refine ifW_of (fun _ => ?_) (fun h => by simp at h; omega)
        refine ifW_of (fun _ => ?_) (fun h => by simp at h)
        exact S_BucketValid (by simpa using htk)
    · rw [if_neg hz] at hR2
      obtain ⟨rfl, rfl⟩ := Prod.mk.inj hR2
      simp only [Bool.not_true, ifW_false]
      refine addW_of (by omega) (by omega) (hn (by omega) _ ⟨by simp, by omega, ?_⟩)
      rw [if_neg (by omega)]
      simp only [GBucket.mk.injEq, true_and]
      refine ⟨?_, trivial⟩
      omega
  · refine S_implTT_n hl (S_specTT_n hl ?_)
    refine ifW_of (fun hne => by simp at hne) (fun _ => ifW_of (fun hne => by simp at hne) (fun _ => S_specBucketValid ?_))
    have fin : ifW (!false) (ifW (decide ((GBucket.mk 0 0 0 0) = (GBucket.mk 0 0 0 0))) (L_laws_alive (fun r => r = true)) (false = true)) (false = true) :=
      ifW_of (fun _ => S_zeroAlive rfl) (fun h => by simp at h)
    refine ifW_of (fun _ => ?_) (fun h1 => ifW_of (fun _ => ?_) (fun h2 => ifW_of (fun _ => ?_) (fun h3 => ?_)))
    · exact ifW_of (fun _ => fin) (fun h => by simp at h)
    · exact ifW_of (fun _ => fin) (fun h => by simp at h)
    · exact fin
    · simp at h1 h2 h3
      exact absurd ⟨h1, h2, h3⟩ hl

/-! many requests -/
theorem runTake_get : ∀ (l : List Int) (b : GBucket) (k : Nat) (h : k < l.length), (runTake b l)[k]? = some (bkTake (endTake b (l.take k)) l[k]).2
  | t :: l, b, 0, h => rfl
  | t :: l, b, k + 1, h => by
    simp only [runTake, List.getElem?_cons_succ, List.take_succ_cons, endTake, List.getElem_cons_succ]
    exact runTake_get l _ k (by simpa using h)
theorem endTake_succ : ∀ (l : List Int) (b : GBucket) (k : Nat) (h : k < l.length), endTake b (l.take (k + 1)) = (bkTake (endTake b (l.take k)) l[k]).1
  | t :: l, b, 0, h => by simp [endTake]
  | t :: l, b, k + 1, h => by
    rw [List.take_succ_cons, List.take_succ_cons]
    simp only [endTake, List.getElem_cons_succ]
    exact endTake_succ l _ k (by simpa using h)
theorem look_at {l : List Int} {b : GBucket} (hv : bvP b) (ho : okTimes b.xLast l = true) (k : Nat) (h : k < l.length) : lookP (endTake b (l.take k)) l[k] ∧ (endTake b (l.take k)).xSize = b.xSize ∧ (endTake b (l.take k)).xEvery = b.xEvery := by
  have ht : l.take (k + 1) = l.take k ++ [l[k]] := List.take_succ_eq_append_getElem h
  have h3 : okTimes b.xLast (l.take k ++ ([l[k]] ++ l.drop (k + 1))) = true := by
    rw [← List.append_assoc, ← ht, List.take_append_drop]; exact ho
  rw [okTimes_append, okTimes_append] at h3
  simp only [Bool.and_eq_true, okTimes, decide_eq_true_eq] at h3
  obtain ⟨g1, ⟨⟨g2, g3⟩, _⟩, _⟩ := h3
  obtain ⟨e1, e2, e3, e4⟩ := endTake_ok (l.take k) b b.xLast hv (Int.le_refl _) g1
  exact ⟨⟨e1, by omega, g3⟩, e3, e4⟩
theorem okTimes_ge : ∀ (l : List Int) (last : Int), okTimes last l = true → ∀ x ∈ l, last ≤ x ∧ x ≤ 1000000
  | t :: l, last, h, x, hx => by
    simp only [okTimes, Bool.and_eq_true, decide_eq_true_eq] at h
    rcases List.mem_cons.1 hx with rfl | hx
    · exact h.1
    · have := okTimes_ge l t h.2 x hx
      omega
theorem okTimes_mono : ∀ (l : List Int) (last : Int), okTimes last l = true → ∀ (i j : Nat) (hi : i < l.length) (hj : j < l.length), i ≤ j → l[i] ≤ l[j]
  | t :: l, last, h, 0, 0, hi, hj, hij => Int.le_refl _
  | t :: l, last, h, 0, j + 1, hi, hj, hij => by
    simp only [okTimes, Bool.and_eq_true, decide_eq_true_eq] at h
    exact (okTimes_ge l t h.2 _ (List.getElem_mem (by simpa using hj))).1
  | t :: l, last, h, i + 1, j + 1, hi, hj, hij => by
    simp only [okTimes, Bool.and_eq_true, decide_eq_true_eq] at h
    exact okTimes_mono l t h.2 i j (by simpa using hi) (by simpa using hj) (by omega)
/-- what a bucket holds, in time -/
def held (b : GBucket) : Int := b.xTokens * b.xEvery - b.xLast
def passed (c : Bool) : Int := if c then 1 else 0
theorem held_at {b : GBucket} {now : Int} (h : lookP b now) : held (bkAt b now) ≤ held b ∧ held (bkAt b now) ≤ b.xSize * b.xEvery - now := by
  obtain ⟨hb, h1, h2⟩ := h
  obtain ⟨b1, b2, b3, b4, b5, b6, b7, b8⟩ := hb
  obtain ⟨d1, d2, d3, d4⟩ := div_bd (now - b.xLast) b.xEvery (by omega) b3
  have hlt := Int.lt_ediv_add_one_mul_self (now - b.xLast) (show 0 < b.xEvery by omega)
  rw [Int.add_mul] at hlt
  unfold held bkAt
  split
  · rename_i hf
    simp only
    have : (b.xSize - b.xTokens) * b.xEvery ≤ (now - b.xLast) / b.xEvery * b.xEvery := Int.mul_le_mul_of_nonneg_right (by omega) (by omega)
    rw [Int.sub_mul] at this
    omega
  · rename_i hf
    simp only
    have : (b.xTokens + (now - b.xLast) / b.xEvery) * b.xEvery ≤ (b.xSize - 1) * b.xEvery := Int.mul_le_mul_of_nonneg_right (by omega) (by omega)
    rw [Int.sub_mul] at this
    rw [Int.add_mul] at this ⊢
    omega
theorem held_take {b : GBucket} {now : Int} (h : lookP b now) : passed (bkTake b now).2 * b.xEvery + held (bkTake b now).1 = held (bkAt b now) := by
  obtain ⟨_, _, _, _, o5, _⟩ := bkAt_ok h
  unfold bkTake passed
  split
  · simp
  · simp only [if_true]
    unfold held
    simp only
    rw [o5, Int.sub_mul]
    omega

theorem takeMany_pure (code : List UInt8) : L_laws_FnTakeMany code (fun r => r = true) := by
  unfold L_laws_FnTakeMany
  refine ifW_of (fun _ => rfl) (fun hc => S_DrawTakeMany (fun b l hb hl => S_implTakeMany (by omega) (S_specTakeMany (by omega) ?_)))
  refine ifW_of (fun h => by simp at h) (fun _ => ifW_of (fun _ => S_alive rfl) (fun hne => ?_))
  have hok : bvP b ∧ l.length ≤ 50 ∧ okTimes b.xLast l = true := by
    refine Decidable.byContradiction (fun hno => ?_)
    unfold takeMany at hne
    rw [if_neg hno] at hne
    simp at hne
  have hres : takeMany b l = runTake b l := if_pos hok
  rw [hres]
  obtain ⟨hv, h50, ho⟩ := hok
  obtain ⟨b1, b2, b3, b4, b5, b6, b7, b8⟩ := id hv
  have hlen := runTake_length l b
  clear hne hres
  refine count_loop l.length (fun s => s) (fun k s => s = (k : Int) ∧ k ≤ l.length) (fun k s h => h.1) (fun k s h => h.2) ?_ ⟨rfl, Nat.zero_le _⟩
  rintro i _ next ⟨rfl, hi⟩ hn
  refine ifW_of (fun hlt => ?_) (fun _ => by simp [hlen])
  have hlt : i < l.length := by simpa [hlen] using hlt
  have hli := okTimes_ge l _ ho _ (List.getElem_mem hlt)
  refine idxW_of i rfl (by omega) (idxW_of i rfl (by omega) (ifW_of (fun h => by simp at h) (fun _ => ?_)))
  refine count_loop_from i l.length (fun s => s.2) (fun k s => s.2 = (k : Int) ∧ k ≤ l.length ∧ i ≤ k ∧ (0 ≤ s.1 ∧ s.1 ≤ (k : Int) - i) ∧ (i < k → s.1 * b.xEvery + held (endTake b (l.take k)) ≤ b.xSize * b.xEvery - l[i])) (fun k s h => h.1) (fun k s h => h.2.1) ?_ ⟨rfl, hi, Nat.le_refl _, by simp only; omega, fun h => absurd h (by omega)⟩
  rintro k ⟨c, q⟩ next2 ⟨rfl, hk, hik, hcb, hinv⟩ hn2
  simp only at hcb hinv
  refine ifW_of (fun hlk => ?_) (fun hlk => ?_)
  · have hlk : k < l.length := by simpa [hlen] using hlk
    have hlkk := okTimes_ge l _ ho _ (List.getElem_mem hlk)
    have hmono := okTimes_mono l _ ho i k hlt hlk hik
    obtain ⟨lk, ls, le⟩ := look_at hv ho k hlk
    have hg := runTake_get l b k hlk
    have hes := endTake_succ l b k hlk
    have ha := held_at lk
    have ht := held_take lk
    have htk := bkTake_ok lk
    rw [le] at ht
    rw [ls, le] at ha
    rw [← hes] at ht htk
    have hbit : ∀ c', c' = c + passed (bkTake (endTake b (l.take k)) l[k]).2 → c' * b.xEvery + held (endTake b (l.take (k + 1))) ≤ b.xSize * b.xEvery - l[i] := fun c' hc' => by
      subst hc'
      rw [Int.add_mul]
      by_cases h : i < k
      · have := hinv h
        omega
      · have : i = k := by omega
        subst this
        have : c = 0 := by omega
        subst this
        omega
    have hrest : ∀ c', c' = c + passed (bkTake (endTake b (l.take k)) l[k]).2 → (0 ≤ c' ∧ c' ≤ (k : Int) + 1 - i) → idxW l (k : Int) (fun e30 => idxW l (i : Int) (fun e32 => subW e30 e32 (fun t34 => quoW t34 b.xEvery (fun t35 => addW b.xSize t35 (fun t36 => addW t36 1 (fun t37 => ifW (decide (t37 < c')) (false = true) (addW (k : Int) 1 (fun t38 => next2 (c', t38))))))))) := fun c' hc' hb' => by
      have hb1 := hbit c' hc'
      obtain ⟨d1, d2, d3, d4⟩ := div_bd (l[k] - l[i]) b.xEvery (by omega) b3
      refine idxW_of k rfl hlk (idxW_of i rfl hlt (subW_of (by omega) (by omega) (quoW_of (by omega) (by omega) (by omega) (addW_of (by omega) (by omega) (addW_of (by omega) (by omega) (ifW_of (fun h => ?_) (fun h => addW_of (by omega) (by omega) (hn2 hlk _ ⟨by simp, by omega, by omega, by simp only; omega, fun _ => hb1⟩))))))))
      exfalso
      simp at h
      have h9 : c' - b.xSize ≤ (l[k] - l[i]) / b.xEvery := by
        refine (Int.le_ediv_iff_mul_le (by omega)).2 ?_
        rw [Int.sub_mul]
        have hh : 0 ≤ (endTake b (l.take (k + 1))).xTokens * (endTake b (l.take (k + 1))).xEvery := by
          obtain ⟨⟨_, _, g3, _, g5, _⟩, _⟩ := htk
          exact Int.mul_nonneg g5 (by omega)
        have := htk.2.1
        unfold held at hb1
        omega
      omega
    obtain ⟨hk', hg'⟩ := List.getElem?_eq_some_iff.1 hg
    refine idxW_of k rfl hk' ?_
    rw [hg']
    refine ifW_of (fun hp => addW_of (by omega) (by omega) (hrest _ ?_ ?_)) (fun hp => hrest _ ?_ ?_)
    · rw [hp]; rfl
    · omega
    · rw [hp]; simp [passed]
    · omega
  · refine addW_of (by omega) (by omega) (hn hlt _ ⟨by simp, by omega⟩)

/-! steady requests -/
def steadyT (b : GBucket) (k : Nat) : List Int := (List.range k).map fun (i : Nat) => b.xLast + (i : Int) * b.xEvery
theorem steady {b : GBucket} (hv : bvP b) (ht : b.xTokens ≠ 0) (h20 : b.xLast + 20 * b.xEvery ≤ 1000000) : ∀ k : Nat, k ≤ 21 → okTimes b.xLast (steadyT b k) = true ∧ lastT b.xLast (steadyT b k) = b.xLast + ((k - 1 : Nat) : Int) * b.xEvery ∧ runTake b (steadyT b k) = List.replicate k true ∧
    endTake b (steadyT b k) = (if k = 0 then b else ⟨b.xSize, b.xEvery, b.xTokens - 1, b.xLast + ((k - 1 : Nat) : Int) * b.xEvery⟩) := by
  obtain ⟨b1, b2, b3, b4, b5, b6, b7, b8⟩ := id hv
  intro k
  induction k with
  | zero => intro _; simp [steadyT, okTimes, lastT, runTake, endTake]
  | succ k ih =>
    intro hk
    obtain ⟨i1, i2, i3, i4⟩ := ih (by omega)
    have es : steadyT b (k + 1) = steadyT b k ++ [b.xLast + (k : Int) * b.xEvery] := by unfold steadyT; rw [List.range_succ]; simp
    have hm : 0 ≤ (k : Int) * b.xEvery := Int.mul_nonneg (by omega) (by omega)
    have hm2 : (k : Int) * b.xEvery ≤ 20 * b.xEvery := Int.mul_le_mul_of_nonneg_right (by omega) (by omega)
    have hstep : bkTake (endTake b (steadyT b k)) (b.xLast + (k : Int) * b.xEvery) = (⟨b.xSize, b.xEvery, b.xTokens - 1, b.xLast + (k : Int) * b.xEvery⟩, true) := by
      rw [i4]
      by_cases h0 : k = 0
      · subst h0
        rw [if_pos rfl]
        have e0 : bkAt b (b.xLast + ((0 : Nat) : Int) * b.xEvery) = b := by
          unfold bkAt
          have : b.xLast + ((0 : Nat) : Int) * b.xEvery = b.xLast := by simp
          rw [this]
          simp only [Int.sub_self, Int.zero_ediv, Int.add_zero, Int.zero_mul]
          split
          · have : b.xTokens = b.xSize := by omega
            cases b; simp_all
          · rfl
        unfold bkTake
        rw [e0, if_neg ht]
        simp
      · rw [if_neg h0]
        have ek : ((k - 1 : Nat) : Int) = (k : Int) - 1 := by omega
        rw [ek]
        have hd : (b.xLast + (k : Int) * b.xEvery - (b.xLast + ((k : Int) - 1) * b.xEvery)) = b.xEvery := by rw [Int.sub_mul]; omega
        have e0 : bkAt ⟨b.xSize, b.xEvery, b.xTokens - 1, b.xLast + ((k : Int) - 1) * b.xEvery⟩ (b.xLast + (k : Int) * b.xEvery) = ⟨b.xSize, b.xEvery, b.xTokens, b.xLast + (k : Int) * b.xEvery⟩ := by
          unfold bkAt
          simp only
          rw [hd, Int.ediv_self (by omega)]
          split
          · simp only [GBucket.mk.injEq, true_and, and_true]; omega
          · simp only [GBucket.mk.injEq, true_and]; refine ⟨by omega, by omega⟩
        unfold bkTake
        rw [e0]
        simp only
        rw [if_neg ht]
    refine ⟨?_, ?_, ?_, ?_⟩
    · rw [es, okTimes_snoc, i1, i2]
      have hle : ((k - 1 : Nat) : Int) * b.xEvery ≤ (k : Int) * b.xEvery := Int.mul_le_mul_of_nonneg_right (by omega) (by omega)
      simp
      omega
    · rw [es, lastT_snoc]; simp
    · rw [es, runTake_append, i3, List.replicate_succ']
      simp only [runTake]
      rw [hstep]
    · rw [es, endTake_append]
      simp only [endTake]
      rw [hstep, if_neg (by omega)]
      simp

theorem takeSteady_pure (code : List UInt8) : L_laws_FnTakeSteady code (fun r => r = true) := by
  unfold L_laws_FnTakeSteady jnW
  refine ifW_of (fun _ => rfl) (fun hc => S_DrawTakeMany (fun b l hb hl => S_BucketValid (S_specBucketValid ?_)))
  refine ifW_of (fun h => by simp at h) (fun _ => S_specBucketValid (ifW_of (fun hv => ?_) (fun hv => ?_)))
  · simp only [ifW_true]; exact S_alive rfl
  simp at hv
  obtain ⟨b1, b2, b3, b4, b5, b6, b7, b8⟩ := id hv
  refine ifW_of (fun h => ?_) (fun ht => mulW_of (by omega) (by omega) (addW_of (by omega) (by omega) (ifW_of (fun h => S_alive rfl) (fun h20 => ?_))))
  · simp only [ifW_true]; exact S_alive rfl
  simp at ht h20
  have hst := steady hv ht (by omega)
  refine count_loop 21 (fun s => s.2) (fun k s => s.2 = (k : Int) ∧ k ≤ 21 ∧ s.1 = steadyT b k) (fun k s h => h.1) (fun k s h => h.2.1) ?_ ⟨rfl, by omega, rfl⟩
  rintro k ⟨xs, q⟩ next ⟨rfl, hk, hx⟩ hn
  simp only at hx
  subst hx
  have hsl : (steadyT b k).length = k := by simp [steadyT]
  refine ifW_of (fun hle => ?_) (fun hle => ?_)
  · simp at hle
    have hm : 0 ≤ (k : Int) * b.xEvery := Int.mul_nonneg (by omega) (by omega)
    have hm2 : (k : Int) * b.xEvery ≤ 20 * b.xEvery := Int.mul_le_mul_of_nonneg_right (by omega) (by omega)
    refine mulW_of (by omega) (by omega) (addW_of (by omega) (by omega) (appW_of (by rw [hsl]; simp; omega) (addW_of (by omega) (by omega) (hn (by omega) _ ⟨by simp, by omega, ?_⟩))))
    simp only
    unfold steadyT
    rw [List.range_succ]
    simp
  · simp at hle
    have : k = 21 := by omega
    subst this
    obtain ⟨i1, i2, i3, i4⟩ := hst 21 (by omega)
    refine S_implTakeMany (by rw [hsl]; omega) ?_
    have hres : takeMany b (steadyT b 21) = List.replicate 21 true := by
      rw [← i3]
      exact if_pos ⟨hv, by rw [hsl]; omega, i1⟩
    rw [hres]
    refine count_loop 21 (fun s => s) (fun k s => s = (k : Int) ∧ k ≤ 21) (fun k s h => h.1) (fun k s h => h.2) ?_ ⟨rfl, by omega⟩
    rintro j _ next2 ⟨rfl, hj⟩ hn2
    refine ifW_of (fun hlt => ?_) (fun _ => by simp)
    have hlt : j < 21 := by simp at hlt; omega
    refine idxW_of j rfl (by simp; omega) ?_
    simp only [List.getElem_replicate, Bool.not_true, ifW_false]
    exact addW_of (by omega) (by omega) (hn2 hlt _ ⟨by simp, by omega⟩)
end Go.Proofs.Ytcinklbbacmihaa
