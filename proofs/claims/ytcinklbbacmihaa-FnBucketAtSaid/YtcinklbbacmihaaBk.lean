/- What the bucket functions compute, in plain Lean. -/
import Derived.Test.YtcinklbbacmihaaG1Pure
import Derived.Test.YtcinklbbacmihaaPlib
set_option linter.unusedSimpArgs false
set_option linter.unusedVariables false
namespace Go.Proofs.Ytcinklbbacmihaa

def bvP (b : GBucket) : Prop := 1 ≤ b.xSize ∧ b.xSize ≤ 100 ∧ 1 ≤ b.xEvery ∧ b.xEvery ≤ 1000 ∧ 0 ≤ b.xTokens ∧ b.xTokens ≤ b.xSize ∧ 0 ≤ b.xLast ∧ b.xLast ≤ 1000000
instance (b : GBucket) : Decidable (bvP b) := by unfold bvP; infer_instance
def bkAt (b : GBucket) (now : Int) : GBucket :=
  if b.xSize ≤ b.xTokens + (now - b.xLast) / b.xEvery then ⟨b.xSize, b.xEvery, b.xSize, now⟩ else ⟨b.xSize, b.xEvery, b.xTokens + (now - b.xLast) / b.xEvery, b.xLast + (now - b.xLast) / b.xEvery * b.xEvery⟩
def bkTake (b : GBucket) (now : Int) : GBucket × Bool :=
  if (bkAt b now).xTokens = 0 then (bkAt b now, false) else (⟨(bkAt b now).xSize, (bkAt b now).xEvery, (bkAt b now).xTokens - 1, (bkAt b now).xLast⟩, true)
def lookP (b : GBucket) (now : Int) : Prop := bvP b ∧ b.xLast ≤ now ∧ now ≤ 1000000
instance (b : GBucket) (now : Int) : Decidable (lookP b now) := by unfold lookP; infer_instance

theorem mul_bd (a b : Int) (h1 : 0 ≤ a) (h2 : a ≤ 100) (h3 : 1 ≤ b) (h4 : b ≤ 1000) : 0 ≤ a * b ∧ a * b ≤ 100000 :=
  ⟨Int.mul_nonneg h1 (by omega), by have := Int.mul_le_mul h2 h4 (by omega) (by omega); omega⟩
theorem div_bd (x e : Int) (h1 : 0 ≤ x) (h3 : 1 ≤ e) : 0 ≤ x / e ∧ x / e ≤ x ∧ 0 ≤ x / e * e ∧ x / e * e ≤ x := by
  have a := Int.ediv_nonneg h1 (show 0 ≤ e by omega)
  have b : x / e ≤ x := Int.ediv_le_self e h1
  have c := Int.ediv_mul_le x (show e ≠ 0 by omega)
  exact ⟨a, b, Int.mul_nonneg a (by omega), c⟩
theorem full_iff (s e t l now : Int) (h3 : 1 ≤ e) : (s ≤ t + (now - l) / e) ↔ (l + (s - t) * e ≤ now) := by
  have : (s - t ≤ (now - l) / e) ↔ ((s - t) * e ≤ now - l) := Int.le_ediv_iff_mul_le (by omega)
  omega

theorem bkAt_ok {b : GBucket} {now : Int} (h : lookP b now) : bvP (bkAt b now) ∧ (bkAt b now).xLast ≤ now ∧ b.xLast ≤ (bkAt b now).xLast ∧ (bkAt b now).xSize = b.xSize ∧ (bkAt b now).xEvery = b.xEvery ∧ b.xTokens ≤ (bkAt b now).xTokens := by
  obtain ⟨hb, h1, h2⟩ := h
  have hb' := hb
  obtain ⟨a1, a2, a3, a4, a5, a6, a7, a8⟩ := hb
  obtain ⟨d1, d2, d3, d4⟩ := div_bd (now - b.xLast) b.xEvery (by omega) a3
  unfold bkAt bvP
  split <;> refine ⟨⟨?_, ?_, ?_, ?_, ?_, ?_, ?_, ?_⟩, ?_, ?_, ?_, ?_, ?_⟩ <;> simp only <;> omega
theorem bkTake_ok {b : GBucket} {now : Int} (h : lookP b now) : bvP (bkTake b now).1 ∧ (bkTake b now).1.xLast ≤ now ∧ b.xLast ≤ (bkTake b now).1.xLast ∧ (bkTake b now).1.xSize = b.xSize ∧ (bkTake b now).1.xEvery = b.xEvery := by
  obtain ⟨h1, h2, h3, h4, h5, h6⟩ := bkAt_ok h
  unfold bkTake
  split
  · exact ⟨h1, h2, h3, h4, h5⟩
  · obtain ⟨a1, a2, a3, a4, a5, a6, a7, a8⟩ := h1
    refine ⟨?_, h2, h3, h4, h5⟩
    unfold bvP
    simp only
    omega

/-! the functions -/
theorem S_timeValid {now : Int} {κ : Bool → Prop} (h : κ (decide (0 ≤ now ∧ now ≤ 1000000))) : L_impl_timeValid now κ := by
  unfold L_impl_timeValid jnW
  refine ifW_of (fun hc => ?_) (fun hc => ?_)
  · simp at hc; simpa [hc] using h
  · simp at hc; simpa [show ¬ (0 ≤ now) by omega] using h
theorem S_BucketValid {b : GBucket} {κ : Bool → Prop} (h : κ (decide (bvP b))) : L_impl_BucketValid b κ := by
  unfold L_impl_BucketValid jnW
  unfold bvP at h
  by_cases h1 : 1 ≤ b.xSize
  · by_cases h2 : b.xSize ≤ 100
    · by_cases h3 : 1 ≤ b.xEvery
      · by_cases h4 : b.xEvery ≤ 1000
        · by_cases h5 : 0 ≤ b.xTokens
          · by_cases h6 : b.xTokens ≤ b.xSize
            · simp only [h1, h2, h3, h4, h5, h6, decide_true, ifW_true]
              refine S_timeValid ?_
              simpa [h1, h2, h3, h4, h5, h6] using h
            all_goals simpa [h1, h2, h3, h4, h5, h6] using h
          · simpa [h1, h2, h3, h4, h5] using h
        · simpa [h1, h2, h3, h4] using h
      · simpa [h1, h2, h3] using h
    · simpa [h1, h2] using h
  · simpa [h1] using h
theorem S_l1In {n lo hi : Int} {κ : Bool → Prop} (h : κ (decide (lo ≤ n ∧ n ≤ hi))) : L_spec_l1In n lo hi κ := by
  unfold L_spec_l1In jnW
  refine ifW_of (fun hc => ?_) (fun hc => ?_)
  · simp at hc; simpa [hc] using h
  · simp at hc; simpa [show ¬ (lo ≤ n) by omega] using h
theorem S_specBucketValid {b : GBucket} {κ : Bool → Prop} (h : κ (decide (bvP b))) : L_spec_BucketValid b κ := by
  unfold L_spec_BucketValid jnW
  refine S_l1In (ifW_of (fun h1 => S_l1In (ifW_of (fun h2 => S_l1In (ifW_of (fun h3 => S_l1In ?_) (fun h3 => ?_))) (fun h2 => ?_))) (fun h1 => ?_))
  all_goals
    refine (congrArg κ ?_).mp h
    clear h
    first
      | (refine decide_eq_decide.2 ?_; simp only [decide_eq_true_eq] at *; unfold bvP; constructor <;> (intro k; omega))
      | (refine decide_eq_false ?_; simp only [decide_eq_true_eq, decide_eq_false_iff_not] at *; unfold bvP; intro k; omega)
theorem S_fullAt {b : GBucket} (hb : bvP b) {κ : Int → Prop} (h : κ (b.xLast + (b.xSize - b.xTokens) * b.xEvery)) : L_impl_Bucket_fullAt b κ := by
  obtain ⟨a1, a2, a3, a4, a5, a6, a7, a8⟩ := hb
  obtain ⟨m1, m2⟩ := mul_bd (b.xSize - b.xTokens) b.xEvery (by omega) (by omega) a3 a4
  exact subW_of (by omega) (by omega) (mulW_of (by omega) (by omega) (addW_of (by omega) (by omega) h))
theorem S_at {b : GBucket} {now : Int} (hl : lookP b now) {κ : GBucket → Prop} (h : κ (bkAt b now)) : L_impl_Bucket_at b now κ := by
  obtain ⟨hb, h1, h2⟩ := hl
  have hb' := hb
  obtain ⟨a1, a2, a3, a4, a5, a6, a7, a8⟩ := hb
  obtain ⟨d1, d2, d3, d4⟩ := div_bd (now - b.xLast) b.xEvery (by omega) a3
  have hf := full_iff b.xSize b.xEvery b.xTokens b.xLast now a3
  refine S_fullAt hb' (ifW_of (fun hc => ?_) (fun hc => ?_))
  · simp at hc
    unfold bkAt at h
    rwa [if_pos (hf.2 hc)] at h
  · simp at hc
    unfold bkAt at h
    rw [if_neg (fun k => by have := hf.1 k; omega)] at h
    exact subW_of (by omega) (by omega) (quoW_of (by omega) (by omega) (by omega) (addW_of (by omega) (by omega) (mulW_of (by omega) (by omega) (addW_of (by omega) (by omega) h))))
theorem S_take {b : GBucket} {now : Int} (hl : lookP b now) {κ : GBucket × Bool → Prop} (h : κ (bkTake b now)) : L_impl_Bucket_take b now κ := by
  have ho := (bkAt_ok hl).1
  obtain ⟨a1, a2, a3, a4, a5, a6, a7, a8⟩ := ho
  refine S_at hl (ifW_of (fun hc => ?_) (fun hc => ?_))
  · simp at hc
    unfold bkTake at h
    rwa [if_pos hc] at h
  · simp at hc
    unfold bkTake at h
    rw [if_neg hc] at h
    exact subW_of (by omega) (by omega) h
theorem S_specBucketAt {b : GBucket} {now : Int} {κ : GBucket → Prop} (h : κ (if lookP b now then bkAt b now else ⟨0, 0, 0, 0⟩)) : L_spec_BucketAt b now κ := by
  unfold L_spec_BucketAt jnW
  refine S_specBucketValid (ifW_of (fun hv => ?_) (fun hv => S_l1In ?_))
  · simp at hv
    rw [if_neg (fun k => hv k.1)] at h
    simpa using h
  · simp at hv
    refine ifW_of (fun hc => ?_) (fun hc => ?_)
    · rw [if_neg (fun k => by have := k.2; simp at hc; omega)] at h
      exact h
    · have hl : lookP b now := ⟨hv, by simp at hc; omega⟩
      rw [if_pos hl] at h
      obtain ⟨_, h1, h2⟩ := hl
      obtain ⟨a1, a2, a3, a4, a5, a6, a7, a8⟩ := hv
      obtain ⟨d1, d2, d3, d4⟩ := div_bd (now - b.xLast) b.xEvery (by omega) a3
      refine subW_of (by omega) (by omega) (quoW_of (by omega) (by omega) (by omega) (addW_of (by omega) (by omega) (ifW_of (fun hc => ?_) (fun hc => addW_of (by omega) (by omega) (mulW_of (by omega) (by omega) (addW_of (by omega) (by omega) ?_))))))
      · simp at hc; unfold bkAt at h; rwa [if_pos hc] at h
      · simp at hc; unfold bkAt at h; rwa [if_neg (by omega)] at h
theorem S_specTakeToken {b : GBucket} {now : Int} {κ : GBucket × Bool → Prop} (h : κ (if lookP b now then bkTake b now else (⟨0, 0, 0, 0⟩, false))) : L_spec_TakeToken b now κ := by
  unfold L_spec_TakeToken jnW
  refine S_specBucketValid (ifW_of (fun hv => ?_) (fun hv => S_l1In ?_))
  · simp at hv
    rw [if_neg (fun k => hv k.1)] at h
    simpa using h
  · simp at hv
    refine ifW_of (fun hc => ?_) (fun hc => ?_)
    · rw [if_neg (fun k => by have := k.2; simp at hc; omega)] at h
      exact h
    · have hl : lookP b now := ⟨hv, by simp at hc; omega⟩
      rw [if_pos hl] at h
      have ho := (bkAt_ok hl).1
      obtain ⟨a1, a2, a3, a4, a5, a6, a7, a8⟩ := ho
      refine S_specBucketAt ?_
      rw [if_pos hl]
      refine ifW_of (fun hc => ?_) (fun hc => ?_)
      · simp at hc
        unfold bkTake at h
        rwa [if_pos hc] at h
      · simp at hc
        unfold bkTake at h
        rw [if_neg hc] at h
        exact subW_of (by omega) (by omega) h

/-! many requests -/
def okTimes (last : Int) : List Int → Bool
  | [] => true
  | t :: r => (decide (last ≤ t) && decide (t ≤ 1000000)) && okTimes t r
def runTake (b : GBucket) : List Int → List Bool
  | [] => []
  | t :: r => (bkTake b t).2 :: runTake (bkTake b t).1 r
def endTake (b : GBucket) : List Int → GBucket
  | [] => b
  | t :: r => endTake (bkTake b t).1 r
def takeMany (b : GBucket) (l : List Int) : List Bool := if bvP b ∧ l.length ≤ 50 ∧ okTimes b.xLast l = true then runTake b l else []
theorem runTake_append : ∀ (l r : List Int) (b : GBucket), runTake b (l ++ r) = runTake b l ++ runTake (endTake b l) r
  | [], _, _ => rfl
  | t :: l, r, b => by simp [runTake, endTake, runTake_append l r]
theorem endTake_append : ∀ (l r : List Int) (b : GBucket), endTake b (l ++ r) = endTake (endTake b l) r
  | [], _, _ => rfl
  | t :: l, r, b => by simp [endTake, endTake_append l r]
theorem runTake_length : ∀ (l : List Int) (b : GBucket), (runTake b l).length = l.length
  | [], _ => rfl
  | t :: l, b => by simp [runTake, runTake_length l]
/-- the last time of a list -/
def lastT (last : Int) : List Int → Int
  | [] => last
  | t :: r => lastT t r
theorem okTimes_snoc : ∀ (l : List Int) (last t : Int), okTimes last (l ++ [t]) = (okTimes last l && (decide (lastT last l ≤ t) && decide (t ≤ 1000000)))
  | [], last, t => by simp only [List.nil_append, okTimes, lastT, Bool.and_true, Bool.true_and]; rfl
  | x :: l, last, t => by simp only [List.cons_append, okTimes, lastT, okTimes_snoc l x t, Bool.and_assoc]; rfl
theorem okTimes_append : ∀ (l r : List Int) (last : Int), okTimes last (l ++ r) = (okTimes last l && okTimes (lastT last l) r)
  | [], r, last => by simp [okTimes, lastT]
  | x :: l, r, last => by simp only [List.cons_append, okTimes, lastT, okTimes_append l r x, Bool.and_assoc]
theorem lastT_snoc : ∀ (l : List Int) (last t : Int), lastT last (l ++ [t]) = t
  | [], last, t => rfl
  | x :: l, last, t => by simp only [List.cons_append, lastT]; exact lastT_snoc l x t
theorem endTake_ok : ∀ (l : List Int) (b : GBucket) (last : Int), bvP b → b.xLast ≤ last → okTimes last l = true → bvP (endTake b l) ∧ (endTake b l).xLast ≤ lastT last l ∧ (endTake b l).xSize = b.xSize ∧ (endTake b l).xEvery = b.xEvery
  | [], b, last, h, hl, _ => ⟨h, hl, rfl, rfl⟩
  | t :: l, b, last, h, hl, ho => by
    simp only [okTimes, Bool.and_eq_true, decide_eq_true_eq] at ho
    obtain ⟨⟨h1, h2⟩, h3⟩ := ho
    obtain ⟨k1, k2, k3, k4, k5⟩ := bkTake_ok (b := b) (now := t) ⟨h, by omega, h2⟩
    obtain ⟨g1, g2, g3, g4⟩ := endTake_ok l (bkTake b t).1 t k1 k2 h3
    exact ⟨g1, g2, g3.trans k4, g4.trans k5⟩
theorem lastT_get : ∀ (l : List Int) (last : Int) (h : 0 < l.length), lastT last l = l[l.length - 1]
  | [t], last, h => rfl
  | t :: u :: l, last, h => by
    have := lastT_get (u :: l) t (by simp)
    simp only [lastT] at this ⊢
    rw [this]
    simp
end Go.Proofs.Ytcinklbbacmihaa
