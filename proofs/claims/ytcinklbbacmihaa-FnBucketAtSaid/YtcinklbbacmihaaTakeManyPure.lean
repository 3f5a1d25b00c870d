/- TakeMany of the program and of the reference, in plain Lean; the exact law. -/
import Derived.Test.YtcinklbbacmihaaBk
set_option linter.unusedSimpArgs false
set_option linter.unusedVariables false
namespace Go.Proofs.Ytcinklbbacmihaa

theorem S_toBucket {b : GBucket} {κ : GBucket → Prop} (h : κ b) : L_laws_toBucket b κ := h
theorem S_toIntS {a : List Int} (hl : a.length ≤ 4294967296) {κ : List Int → Prop} (h : κ a) : L_laws_toIntS a κ := by
  unfold L_laws_toIntS
  refine makeW_of a.length rfl (Int.le_refl _) (by omega) ?_
  exact copy_loop a id hl (fun e ψ => ψ e) (fun _ _ _ h => h) (by simpa using h) (by simp) _ (fun nx xs t h => h)
theorem S_eqBoolS {a b : List Bool} (hl : a.length ≤ 4294967296) {κ : Bool → Prop} (h : κ (decide (a = b))) : L_laws_eqBoolS a b κ := by
  unfold L_laws_eqBoolS
  refine ifW_of (fun hc => ?_) (fun hc => ?_)
  · have : a ≠ b := fun e => by subst e; simp at hc
    rwa [decide_eq_false this] at h
  · refine eq_loop a b (by simp at hc; omega) hl (κ := κ) (fun x y A => ifW (!decide (x = y)) (κ false) A) (fun x y A h1 h2 => ifW_of (fun h3 => h2 (by simpa using h3)) (fun h3 => h1 (by simpa using h3))) h _ (fun nx t h => h)
theorem S_eqIntS {a b : List Int} (hl : a.length ≤ 4294967296) {κ : Bool → Prop} (h : κ (decide (a = b))) : L_laws_eqIntS a b κ := by
  unfold L_laws_eqIntS
  refine ifW_of (fun hc => ?_) (fun hc => ?_)
  · have : a ≠ b := fun e => by subst e; simp at hc
    rwa [decide_eq_false this] at h
  · refine eq_loop a b (by simp at hc; omega) hl (κ := κ) (fun x y A => ifW (!decide (x = y)) (κ false) A) (fun x y A h1 h2 => ifW_of (fun h3 => h2 (by simpa using h3)) (fun h3 => h1 (by simpa using h3))) h _ (fun nx t h => h)
theorem S_markIntS {a : List Int} (hl : a.length ≤ 4294967296) {k : Int} (h1 : 0 ≤ k) (h2 : k ≤ 1000000000000000000) {κ : Int × List Int → Prop} (h : κ (k + a.length, marks (fun k => k) k a.length)) : L_laws_markIntS a k κ := by
  unfold L_laws_markIntS
  exact mark_loop a (fun k => k) k hl h1 h2 (fun k A => A) (fun _ _ _ _ h => h) h _ (fun nx xs k t h => h)
def mkBool (k : Int) : Bool := decide (k % 3 = 0)
theorem S_markBoolS {a : List Bool} (hl : a.length ≤ 4294967296) {k : Int} (h1 : 0 ≤ k) (h2 : k ≤ 1000000000000000000) {κ : Int × List Bool → Prop} (h : κ (k + a.length, marks mkBool k a.length)) : L_laws_markBoolS a k κ := by
  unfold L_laws_markBoolS
  refine mark_loop a mkBool k hl h1 h2 (fun k A => 0 ≤ k ∧ k ≤ 2000000000000000000 ∧ A) (fun _ _ h1 h2 h => ⟨h1, h2, h⟩) h _ (fun nx xs k t h => ?_)
  refine ifW_of (fun hc => ?_) (fun hc => h.2 hc)
  obtain ⟨g1, g2, g3⟩ := h.1 hc
  exact remW_of g1 (by omega) (by decide) g3
theorem S_heldBoolS {n : Nat} (hl : n ≤ 4294967296) {k : Int} (h1 : 0 ≤ k) (h2 : k ≤ 1000000000000000000) {κ : Int → Prop} (h : κ (k + n)) : L_laws_heldBoolS (marks mkBool k n) k κ := by
  unfold L_laws_heldBoolS
  refine held_loop mkBool k n hl h1 h2 (fun e k A => remW k 3 (fun t => ifW (!decide (e = decide (t = 0))) (κ (-1)) A)) (fun k A g1 g2 g => remW_of g1 (by omega) (by decide) (by simpa [mkBool] using g)) h _ (fun nx k t h => h)

theorem S_implTakeMany {b : GBucket} {l : List Int} (hl : l.length ≤ 4294967296) {κ : List Bool → Prop} (h : κ (takeMany b l)) : L_impl_TakeMany b l κ := by
  unfold L_impl_TakeMany jnW
  refine S_BucketValid (ifW_of (fun hv => ?_) (fun hv => ?_))
  · simp at hv
    unfold takeMany at h
    rw [if_neg (fun k => hv k.1)] at h
    simpa using h
  simp at hv
  refine ifW_of (fun hc => ?_) (fun hc => ?_)
  · simp at hc
    unfold takeMany at h
    rw [if_neg (fun k => by have := k.2.1; omega)] at h
    exact h
  simp at hc
  have h50 : l.length ≤ 50 := by omega
  -- the times are looked through
  refine count_loop l.length (fun s => s.2) (fun k s => s.2 = (k : Int) ∧ k ≤ l.length ∧ s.1 = lastT b.xLast (l.take k) ∧ okTimes b.xLast (l.take k) = true) (fun k s h => h.1) (fun k s h => h.2.1) ?_ ⟨rfl, Nat.zero_le _, rfl, rfl⟩
  rintro k ⟨last, t⟩ next ⟨rfl, hk, h1, h2⟩ hn
  simp only at h1
  subst h1
  refine ifW_of (fun hlt => ?_) (fun hge => ?_)
  · have hlt : k < l.length := by simpa using hlt
    have ht : l.take (k + 1) = l.take k ++ [l[k]] := List.take_succ_eq_append_getElem hlt
    have hs := okTimes_snoc (l.take k) b.xLast l[k]
    have hbad : ¬ (lastT b.xLast (l.take k) ≤ l[k] ∧ l[k] ≤ 1000000) → κ [] := fun hno => by
      unfold takeMany at h
      rw [if_neg] at h
      · exact h
      · rintro ⟨_, _, h3⟩
        rw [← List.take_append_drop (k + 1) l, okTimes_append, ht, hs] at h3
        simp only [Bool.and_eq_true, decide_eq_true_eq] at h3
        exact hno h3.1.2
    refine idxW_of k rfl hlt ?_
    refine ifW_of (fun hlt2 => ?_) (fun hge2 => ifW_of (fun h3 => ?_) (fun h3 => ?_))
    · simp only [ifW_true]
      exact hbad (by simp at hlt2; omega)
    · exact hbad (by simp at h3; omega)
    · refine addW_of (by omega) (by omega) (hn hlt _ ⟨by simp, by omega, ?_, ?_⟩)
      · rw [ht, lastT_snoc]
      · rw [ht, hs, h2]
        simp at hge2 h3 ⊢
        omega
  · have hk' : k = l.length := by simp at hge; omega
    subst hk'
    rw [List.take_length] at h2
    have hres : takeMany b l = runTake b l := if_pos ⟨hv, h50, h2⟩
    rw [hres] at h
    refine makeW_of l.length rfl (Int.le_refl _) (by omega) ?_
    clear hn hge hk
    refine count_loop l.length (fun s => s.2.2.2.2.2) (fun k s => s.2.2.2.2.2 = (k : Int) ∧ k ≤ l.length ∧ s.1.length = l.length ∧ (⟨s.2.1, s.2.2.1, s.2.2.2.1, s.2.2.2.2.1⟩ : GBucket) = endTake b (l.take k) ∧ ∀ i, i < k → s.1[i]? = (runTake b l)[i]?) (fun k s h => h.1) (fun k s h => h.2.1) ?_
      ⟨rfl, Nat.zero_le _, by simp, rfl, fun i hi => by omega⟩
    rintro k ⟨ys, s, e, t, la, q⟩ next ⟨hq, hk, hy, hb, hi⟩ hn
    simp only at hq hy hb hi
    subst hq
    refine ifW_of (fun hlt => ?_) (fun hge => ?_)
    · have hlt : k < l.length := by simpa using hlt
      have ht : l.take (k + 1) = l.take k ++ [l[k]] := List.take_succ_eq_append_getElem hlt
      have h3 : okTimes b.xLast (l.take k ++ ([l[k]] ++ l.drop (k + 1))) = true := by
        rw [← List.append_assoc, ← ht, List.take_append_drop]; exact h2
      rw [okTimes_append, okTimes_append] at h3
      simp only [Bool.and_eq_true, okTimes, decide_eq_true_eq] at h3
      obtain ⟨g1, ⟨⟨g2, g3⟩, _⟩, _⟩ := h3
      obtain ⟨e1, e2, e3, e4⟩ := endTake_ok (l.take k) b b.xLast hv (Int.le_refl _) g1
      refine idxW_of k rfl hlt ?_
      rw [hb]
      refine S_take ⟨e1, by omega, g3⟩ (idxW_of k rfl (by omega) (addW_of (by omega) (by omega) (hn hlt _ ⟨by simp, by omega, by simpa using hy, ?_, fun i hi' => ?_⟩)))
      · simp only
        rw [ht, endTake_append]
        rfl
      · simp only [Int.toNat_natCast]
        by_cases e : i = k
        · subst e
          rw [List.getElem?_set_self (by omega)]
          have hsplit : l = l.take i ++ (l[i] :: l.drop (i + 1)) := by
            rw [← List.singleton_append, ← List.append_assoc, ← ht, List.take_append_drop]
          conv => rhs; rw [hsplit, runTake_append]
          rw [List.getElem?_append_right (by rw [runTake_length]; simp; omega), runTake_length]
          simp [runTake, Nat.min_eq_left hk]
          rfl
        · rw [List.getElem?_set_ne (by omega)]
          exact hi i (by omega)
    · have hk' : k = l.length := by simp at hge; omega
      have : ys = runTake b l := by
        apply List.ext_getElem?
        intro i
        by_cases h' : i < k
        · exact hi i h'
        · rw [List.getElem?_eq_none (by omega), List.getElem?_eq_none (by rw [runTake_length]; omega)]
      rw [this]; exact h

theorem S_specTakeMany {b : GBucket} {l : List Int} (hl : l.length ≤ 4294967296) {κ : List Bool → Prop} (h : κ (takeMany b l)) : L_spec_TakeMany b l κ := by
  unfold L_spec_TakeMany jnW
  refine S_specBucketValid (ifW_of (fun hv => ?_) (fun hv => ?_))
  · simp at hv
    unfold takeMany at h
    rw [if_neg (fun k => hv k.1)] at h
    simpa using h
  simp at hv
  refine ifW_of (fun hc => ?_) (fun hc => ?_)
  · simp at hc
    unfold takeMany at h
    rw [if_neg (fun k => by have := k.2.1; omega)] at h
    exact h
  simp at hc
  have h50 : l.length ≤ 50 := by omega
  refine count_loop l.length (fun s => s.2.2.2.2.2) (fun k s => s.2.2.2.2.2 = (k : Int) ∧ k ≤ l.length ∧ okTimes b.xLast (l.take k) = true ∧ (⟨s.1, s.2.1, s.2.2.1, s.2.2.2.1⟩ : GBucket) = endTake b (l.take k) ∧ s.2.2.2.2.1 = runTake b (l.take k)) (fun k s h => h.1) (fun k s h => h.2.1) ?_
    ⟨rfl, Nat.zero_le _, rfl, rfl, rfl⟩
  rintro k ⟨s, e, t, la, ys, q⟩ next ⟨hq, hk, ho, hb, hy⟩ hn
  simp only at hq hy hb ho
  subst hq hy
  refine ifW_of (fun hlt => ?_) (fun hge => ?_)
  · have hlt : k < l.length := by simpa using hlt
    have ht : l.take (k + 1) = l.take k ++ [l[k]] := List.take_succ_eq_append_getElem hlt
    have hs := okTimes_snoc (l.take k) b.xLast l[k]
    obtain ⟨e1, e2, e3, e4⟩ := endTake_ok (l.take k) b b.xLast hv (Int.le_refl _) ho
    have hbad : ¬ (lastT b.xLast (l.take k) ≤ l[k] ∧ l[k] ≤ 1000000) → κ [] := fun hno => by
      unfold takeMany at h
      rw [if_neg] at h
      · exact h
      · rintro ⟨_, _, h3⟩
        rw [← List.take_append_drop (k + 1) l, okTimes_append, ht, hs] at h3
        simp only [Bool.and_eq_true, decide_eq_true_eq] at h3
        exact hno h3.1.2
    have hgood : lastT b.xLast (l.take k) ≤ l[k] ∧ l[k] ≤ 1000000 → L_spec_TakeToken (endTake b (l.take k)) l[k] (fun (x : GBucket × Bool) => appW (runTake b (l.take k)) [x.2] (fun _ => addW (k : Int) 1 (fun u => next (x.1.xSize, x.1.xEvery, x.1.xTokens, x.1.xLast, runTake b (l.take k) ++ [x.2], u)))) := fun hg => by
      refine S_specTakeToken ?_
      rw [if_pos (show lookP _ _ from ⟨e1, by omega, hg.2⟩)]
      refine appW_of (by rw [runTake_length]; simp; omega) (addW_of (by omega) (by omega) (hn hlt _ ⟨by simp, by omega, ?_, ?_, ?_⟩))
      · rw [ht, hs, ho]; simpa using hg
      · simp only
        rw [ht, endTake_append]
        rfl
      · simp only
        rw [ht, runTake_append]
        rfl
    have hl0 : la = (endTake b (l.take k)).xLast := by rw [← hb]
    simp only [hb]
    refine idxW_of k rfl hlt ?_
    refine S_l1In ?_
    refine ifW_of (fun h1 => ?_) (fun h1 => ?_)
    · simp only [ifW_true]
      refine hbad (fun hg => ?_)
      simp at h1
      rw [← hl0] at e2
      omega
    · simp at h1
      refine ifW_of (fun h2 => ?_) (fun h2 => ?_)
      · have hk0 : 0 < k := by simpa using h2
        refine idxW_of k rfl hlt (subW_of (by omega) (by omega) (idxW_of (k - 1) (by omega) (by omega) ?_))
        have hlast : lastT b.xLast (l.take k) = l[k - 1] := by
          rw [lastT_get _ _ (by simp; omega)]
          simp [Nat.min_eq_left hk]
        refine ifW_of (fun h3 => ?_) (fun h3 => ?_)
        · refine hbad (fun hg => ?_)
          simp at h3
          omega
        · refine idxW_of k rfl hlt ?_
          have := hgood ⟨by simp at h3; omega, h1.2⟩
          exact this
      · have hk0 : k = 0 := by simp at h2; omega
        subst hk0
        simp only [ifW_false]
        refine idxW_of 0 rfl hlt ?_
        have := hgood ⟨by simp [lastT, endTake] at hl0 ⊢; omega, h1.2⟩
        exact this
  · have hk' : k = l.length := by simp at hge; omega
    subst hk'
    rw [List.take_length] at ho ⊢
    have hres : takeMany b l = runTake b l := if_pos ⟨hv, h50, ho⟩
    rw [hres] at h
    exact h

/-- THE EXACT LAW, on its pure form -/
theorem exactTakeMany_pure (b : GBucket) (l : List Int) : L_laws_FnExactTakeMany b l (fun r => r = true) := by
  unfold L_laws_FnExactTakeMany jnW
  refine ifW_of (fun _ => rfl) (fun hc => ?_)
  have hl : l.length ≤ 4294967296 := by simp at hc; omega
  have hlen : (takeMany b l).length ≤ 4294967296 := by
    unfold takeMany
    split
    · rw [runTake_length]; exact hl
    · simp
  refine S_toBucket (S_toIntS hl (S_specTakeMany hl (S_toIntS hl (S_toBucket (S_implTakeMany hl (S_eqBoolS hlen ?_))))))
  simp only [decide_true, Bool.not_true, ifW_false]
  refine S_toIntS hl (S_eqIntS hl ?_)
  simp only [decide_true, Bool.not_true, ifW_false]
  refine S_markIntS hl (by omega) (by omega) ?_
  refine ifW_of (fun h => ?_) (fun h => S_eqBoolS hlen ?_)
  · simp at h; omega
  simp only [decide_true, Bool.not_true, ifW_false]
  refine S_markBoolS hlen (by omega) (by omega) (S_heldBoolS hlen (by omega) (by omega) ?_)
  refine ifW_of (fun h => ?_) (fun _ => ?_)
  · simp at h; omega
  simp only [decide_true, Bool.not_true, ifW_false]
  refine S_toBucket (S_toIntS hl (S_implTakeMany hl (S_eqBoolS hlen ?_)))
  simp only [decide_true, Bool.not_true, ifW_false]
  refine S_heldBoolS hlen (by omega) (by omega) ?_
  refine ifW_of (fun h => ?_) (fun _ => ?_)
  · simp at h; omega
  simp only [decide_true, Bool.not_true, ifW_false]
end Go.Proofs.Ytcinklbbacmihaa
