/- Rulesets: the order by layers; validity. -/
import Derived.Test.YtnogaeckmiekdaaDoorRs
set_option linter.unusedSimpArgs false
set_option linter.unusedVariables false
namespace Go.Proofs.YtnogaeckmiekdaaDoor

/-- all that i calls is done -/
def Rdy (cs : List (List GRule)) (D : List Bool) (i : Nat) : Prop := ∀ j, Ca cs i j → D[j]? = some true
theorem ca_lt {cs : List (List GRule)} (ht : Tg cs) {i j : Nat} (h : Ca cs i j) : i < cs.length ∧ j < cs.length := by
  obtain ⟨c, h1, r, h2, h3, h4⟩ := h
  have hm := List.mem_of_getElem? h1
  have := (ht.2 c hm).2 r h2
  exact ⟨(List.getElem?_eq_some_iff.1 h1).1, by have := this.2; omega⟩
theorem stuck_sf {cs : List (List GRule)} (ht : Tg cs) {D : List Bool} (hst : ∀ i, i < cs.length → Rdy cs D i → D[i]? = some true) {i : Nat} (hs : Sf cs i) : i < cs.length → D[i]? = some true := by
  induction hs with
  | intro x _ ih => exact fun hx => hst x hx (fun j hj => ih j hj (ca_lt ht hj).2)
theorem count_all {D : List Bool} (h : ∀ i, i < D.length → D[i]? = some true) : D.count true = D.length := by
  rw [List.count_eq_length]
  intro b hb
  obtain ⟨i, hi⟩ := List.getElem?_of_mem hb
  have := h i (List.getElem?_eq_some_iff.1 hi).1
  rw [hi] at this; exact (Option.some.inj this).symm
theorem all_count {D : List Bool} (h : D.count true = D.length) {i : Nat} (hi : i < D.length) : D[i]? = some true := by
  rw [List.getElem?_eq_getElem hi]
  exact congrArg some (List.count_eq_length.1 h _ (List.getElem_mem hi)).symm

theorem S_l8Order {s : GRuleset} {κ : List Int → Prop} (ht : Tg s.xChains) (h1 : (∀ i, i < s.xChains.length → Sf s.xChains i) → ∀ ys : List Int, ys.length = s.xChains.length → κ ys) (h2 : (¬ ∀ i, i < s.xChains.length → Sf s.xChains i) → ∀ ys : List Int, ys.length ≠ s.xChains.length → κ ys) : L_spec_l8Order s κ := by
  have hn5 := ht.1
  generalize hcs : s.xChains = cs at *
  unfold L_spec_l8Order
  rw [hcs]
  refine makeW_of cs.length rfl (by omega) (by omega) ?_
  refine count_loop cs.length (fun s => s.2.2) (fun k s => s.2.2 = (k : Int) ∧ k ≤ cs.length ∧ s.1.length = cs.length ∧ s.2.1.length = s.1.count true ∧ (∀ i : Nat, s.1[i]? = some true → Sf cs i) ∧ (k ≤ s.1.count true ∨ ∀ i, i < cs.length → Rdy cs s.1 i → s.1[i]? = some true)) (fun k s h => h.1) (fun k s h => h.2.1) ?_
    ⟨rfl, Nat.zero_le _, by simp, by simp [List.count_replicate], fun i hi => ?_, .inl (Nat.zero_le _)⟩
  · rintro k ⟨D0, ys0, _⟩ next ⟨rfl, hk, hD0, hy0, hs0, hst0⟩ hnx
    simp only at hD0 hy0 hs0 hst0
    refine ifW_of (fun hc => ?_) (fun hc => ?_)
    · have hltk : k < cs.length := by simpa using hc
      refine count_loop cs.length (fun s => s.2.2) (fun m s => s.2.2 = (m : Int) ∧ m ≤ cs.length ∧ s.1.length = cs.length ∧ s.2.1.length = s.1.count true ∧ (∀ i : Nat, s.1[i]? = some true → Sf cs i) ∧ (∀ i : Nat, D0[i]? = some true → s.1[i]? = some true) ∧ (s.1 = D0 ∨ D0.count true < s.1.count true) ∧ (∀ i, i < m → Rdy cs D0 i → s.1[i]? = some true)) (fun k s h => h.1) (fun k s h => h.2.1) ?_
        ⟨rfl, Nat.zero_le _, hD0, hy0, hs0, fun i hi => hi, .inl rfl, fun i hi => by omega⟩
      rintro m ⟨D, ys, _⟩ next2 ⟨rfl, hm, hD, hy, hs, hmono, hcnt, hrd⟩ hn2
      simp only at hD hy hs hmono hcnt hrd
      have hDc : D.count true ≤ 5 := by have := List.count_le_length (a := true) (l := D); omega
      refine ifW_of (fun hc2 => ?_) (fun hc2 => ?_)
      · have hlt : m < cs.length := by simpa using hc2
        have hmD : m < D.length := by omega
        have hch := ht.2 _ (List.getElem_mem hlt)
        have hcm : cs[m]? = some cs[m] := List.getElem?_eq_getElem hlt
        unfold jnW
        refine idxW_of m rfl hmD ?_
        refine count_loop cs[m].length (fun s => s.2) (fun j s => s.2 = (j : Int) ∧ j ≤ cs[m].length ∧ (s.1 = true ↔ (D[m] = false ∧ ∀ r, r ∈ cs[m].take j → r.xAction = 3 → D[r.xChain.toNat]? = some true))) (fun k s h => h.1) (fun k s h => h.2.1) ?_ ⟨rfl, Nat.zero_le _, by simp⟩
        rintro j ⟨fl, _⟩ next3 ⟨rfl, hj, hfl⟩ hn3
        simp only at hfl
        refine idxW_of m rfl hlt (ifW_of (fun hc3 => ?_) (fun hc3 => ?_))
        · have hltj : j < cs[m].length := by simpa using hc3
          have htk : ∀ r, r ∈ cs[m].take (j + 1) ↔ r ∈ cs[m].take j ∨ r = cs[m][j] := fun r => by
            rw [List.take_succ_eq_append_getElem hltj, List.mem_append, List.mem_singleton]
          have hrv := hch.2 _ (List.getElem_mem hltj)
          refine idxW_of m rfl hlt (idxW_of j rfl hltj (ifW_of (fun hf => ?_) (fun hf => ?_)))
          · obtain ⟨f1, f2⟩ := hfl.1 hf
            refine ifW_of (fun h3 => ?_) (fun h3 => ?_)
            · refine addW_of (by omega) (by omega) (hn3 hltj _ ⟨by simp, by omega, ⟨fun _ => ⟨f1, fun r hr hr3 => ?_⟩, fun _ => rfl⟩⟩)
              rcases (htk r).1 hr with hr | rfl
              · exact f2 r hr hr3
              · simp at h3; exact absurd hr3 h3
            · have h3' : cs[m][j].xAction = 3 := by simpa using h3
              have hcc := hrv.1.2.2.2.1 h3'
              have hc5 := hrv.2
              obtain ⟨q, hq⟩ := Int.eq_ofNat_of_zero_le hcc.1
              have hqD : q < D.length := by omega
              refine idxW_of q hq hqD (addW_of (by omega) (by omega) (hn3 hltj _ ⟨by simp, by omega, ⟨fun e => ⟨f1, fun r hr hr3 => ?_⟩, fun hh => ?_⟩⟩))
              · rcases (htk r).1 hr with hr | rfl
                · exact f2 r hr hr3
                · rw [hq, Int.toNat_natCast, List.getElem?_eq_getElem hqD]; exact congrArg some e
              · have := hh.2 _ ((htk _).2 (.inr rfl)) h3'
                rw [hq, Int.toNat_natCast, List.getElem?_eq_getElem hqD] at this
                exact Option.some.inj this
          · refine addW_of (by omega) (by omega) (hn3 hltj _ ⟨by simp, by omega, ⟨fun e => (by cases e), fun hh => ?_⟩⟩)
            have : fl = true := hfl.2 ⟨hh.1, fun r hr hr3 => hh.2 r ((htk r).2 (.inl hr)) hr3⟩
            rw [this] at hf; cases hf
        · have hge : cs[m].length ≤ j := by simpa using hc3
          rw [List.take_of_length_le hge] at hfl
          have rdy_of : ∀ D' : List Bool, Rdy cs D' m → ∀ r, r ∈ cs[m] → r.xAction = 3 → D'[r.xChain.toNat]? = some true := by
            intro D' hh r hr hr3
            have hcc := (hch.2 r hr).1.2.2.2.1 hr3
            exact hh _ ⟨_, hcm, r, hr, hr3, by omega⟩
          refine ifW_of (fun hf => ?_) (fun hf => ?_)
          · obtain ⟨f1, f2⟩ := hfl.1 hf
            have hr : Rdy cs D m := by
              rintro q ⟨c', e1, r, e2, e3, e4⟩
              rw [hcm] at e1; cases e1
              have := f2 r e2 e3
              rw [e4] at this; simpa using this
            have set1 : ∀ i : Nat, (D.set m true)[i]? = if i = m then some true else D[i]? := fun i => by
              by_cases e : i = m
              · subst e; simp [hmD]
              · rw [List.getElem?_set_ne (by omega), if_neg e]
            have hcs' : (D.set m true).count true = D.count true + 1 := by
              rw [List.count_set hmD]; simp [f1]
            refine idxW_of m rfl hmD (appW_of (by simp; omega) (addW_of (by omega) (by omega) (hn2 hlt _ ⟨by simp, by omega, by simpa using hD, ?_, fun i hi => ?_, fun i hi => ?_, .inr ?_, fun i hi hri => ?_⟩)))
            · simp only [Int.toNat_natCast, hcs']; simp; omega
            · simp only [Int.toNat_natCast, set1] at hi
              by_cases e : i = m
              · subst e; exact sf_of (fun j hj => hs j (hr j hj))
              · rw [if_neg e] at hi; exact hs i hi
            · simp only [Int.toNat_natCast, set1]; split
              · rfl
              · exact hmono i hi
            · simp only [Int.toNat_natCast, hcs']
              rcases hcnt with rfl | h
              · omega
              · omega
            · simp only [Int.toNat_natCast, set1]; split
              · rfl
              · exact hrd i (by omega) hri
          · refine addW_of (by omega) (by omega) (hn2 hlt _ ⟨by simp, by omega, hD, hy, hs, hmono, hcnt, fun i hi hri => ?_⟩)
            by_cases e : i = m
            · subst e
              rw [List.getElem?_eq_getElem hmD]
              by_cases hDm : D[i] = false
              · have : fl = true := hfl.2 ⟨hDm, fun r hr hr3 => hmono _ (rdy_of D0 hri r hr hr3)⟩
                rw [this] at hf; cases hf
              · simpa using hDm
            · exact hrd i (by omega) hri
      · have hme : m = cs.length := by simp at hc2; omega
        subst hme
        refine addW_of (by omega) (by omega) (hnx hltk _ ⟨by simp, by omega, hD, hy, hs, ?_⟩)
        rcases hcnt with rfl | hlt2
        · exact .inr (fun i hi hri => hrd i hi hri)
        · rcases hst0 with h0 | h0
          · exact .inl (by simp only; omega)
          · refine .inr (fun i hi hri => ?_)
            -- nothing can be marked in a pass over a state in which all that is ready is done
            exfalso
            have hall : ∀ i : Nat, D[i]? = some true → D0[i]? = some true := fun i hi => stuck_sf ht h0 (hs i hi) (by have := (List.getElem?_eq_some_iff.1 hi).1; omega)
            have heq : D = D0 := by
              apply List.ext_getElem?
              intro i
              by_cases hi : i < D.length
              · rw [List.getElem?_eq_getElem hi, List.getElem?_eq_getElem (show i < D0.length by omega)]
                cases hb : D[i] with
                | true =>
                  have := hall i (by rw [List.getElem?_eq_getElem hi, hb])
                  rw [List.getElem?_eq_getElem (show i < D0.length by omega)] at this
                  exact this.symm
                | false =>
                  cases hb0 : D0[i]'(by omega) with
                  | false => rfl
                  | true =>
                    have := hmono i (by rw [List.getElem?_eq_getElem (show i < D0.length by omega), hb0])
                    rw [List.getElem?_eq_getElem hi, hb] at this
                    exact this
              · rw [List.getElem?_eq_none (by omega), List.getElem?_eq_none (by omega)]
            rw [heq] at hlt2; omega
    · have hge : k = cs.length := by simp at hc; omega
      subst hge
      have hle := List.count_le_length (a := true) (l := D0)
      by_cases hcn : D0.count true = cs.length
      · exact h1 (fun i hi => hs0 i (all_count (by omega) (by omega))) ys0 (by omega)
      · refine h2 (fun hall => ?_) ys0 (by omega)
        rcases hst0 with h0 | h0
        · omega
        · exact hcn ((count_all (fun i hi => stuck_sf ht h0 (hall i (by omega)) (by omega))).trans hD0)
  · exfalso
    simp only [List.getElem?_replicate] at hi
    split at hi <;> simp at hi
end Go.Proofs.YtnogaeckmiekdaaDoor
