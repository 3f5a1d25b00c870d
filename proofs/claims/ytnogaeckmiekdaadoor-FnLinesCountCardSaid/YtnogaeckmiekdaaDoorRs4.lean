/- Rulesets: their lines; the law FnLinesCount on its pure form. -/
import Derived.Test.YtnogaeckmiekdaaDoorRs3
set_option linter.unusedSimpArgs false
set_option linter.unusedVariables false
namespace Go.Proofs.YtnogaeckmiekdaaDoor
open Go.Lib (decDigits)

theorem appW_1 {xs : List ByteArray} {y : ByteArray} {κ : List ByteArray → Prop} (h1 : xs.length ≤ 1000) (h : κ (xs ++ [y])) : appW xs [y] κ := appW_of (by simp; omega) h
theorem S_impl_RulesetText {s : GRuleset} {κ : List ByteArray → Prop} (hb : Bd s) (h1 : SV s → κ (rlines s)) (h2 : ¬ SV s → κ []) : L_impl_RulesetText s κ := by
  unfold L_impl_RulesetText
  refine S_impl_RulesetValid hb (fun b hbv => ifW_of (fun hc => h2 (fun hh => ?_)) (fun hc => ?_))
  · rw [hbv.2 hh] at hc; cases hc
  have hv : SV s := hbv.1 (by simpa using hc)
  have hcl := hv.1.1
  have key : ∀ d : List UInt8, d = dft s → loopW (fun (nx80 : ((List ByteArray) × Int) → Prop) ((xs76, t79) : ((List ByteArray) × Int)) => ifW (decide (t79 < (s.xChains.length : Int))) (idxW s.xChains t79 (fun e81 => L_impl_chainLine t79 (fun r87 => appW xs76 ([r87]) (fun _ => loopW (fun (nx97 : ((List ByteArray) × Int) → Prop) ((xs93, t96) : ((List ByteArray) × Int)) => ifW (decide (t96 < (e81.length : Int))) (idxW e81 t96 (fun e98 => L_impl_Rule_text e98 (fun r109 => appW xs93 ([r109]) (fun _ => addW t96 1 (fun t114 => nx97 ((xs93 ++ ([r109])), t114)))))) (addW t79 1 (fun t115 => nx80 (xs93, t115)))) ((xs76 ++ ([r87])), 0))))) (κ xs76)) ([B d], 0) := by
    rintro d rfl
    refine count_loop s.xChains.length (fun s => s.2) (fun k t => t = (B (dft s) :: lsF 0 (s.xChains.take k), (k : Int)) ∧ k ≤ s.xChains.length) (fun k s h => by rw [h.1]) (fun k s h => h.2) ?_ ⟨by simp [lsF], Nat.zero_le _⟩
    rintro k _ next ⟨rfl, hk⟩ hn
    have hs := sumL_le (s.xChains.take k) (fun c hc => (hv.1.2 c (List.mem_of_mem_take hc)).1)
    have hll := lsF_len 0 (s.xChains.take k)
    rw [List.length_take] at hs hll
    refine ifW_of (fun hc => ?_) (fun hc => ?_)
    · have hlt : k < s.xChains.length := by simpa using hc
      have hch := hv.1.2 _ (List.getElem_mem hlt)
      have hd := dec_le (n := k) (by omega)
      unfold L_impl_chainLine
      refine idxW_of k rfl hlt (S_itoa (by omega) (by omega) (catW_B (l := [99, 104, 97, 105, 110, 32]) (by simp; omega) (appW_1 (by simp; omega) ?_)))
      refine count_loop s.xChains[k].length (fun s => s.2) (fun j t => t = ((B (dft s) :: lsF 0 (s.xChains.take k)) ++ (B (chl k) :: (s.xChains[k].take j).map (fun r => B (rtx0 r))), (j : Int)) ∧ j ≤ s.xChains[k].length) (fun k s h => by rw [h.1]) (fun k s h => h.2) ?_ ⟨by simp [chl], Nat.zero_le _⟩
      rintro j _ next2 ⟨rfl, hj⟩ hn2
      refine ifW_of (fun hc2 => ?_) (fun hc2 => ?_)
      · have hltj : j < s.xChains[k].length := by simpa using hc2
        refine idxW_of j rfl hltj (S_impl_Rule_text (hch.2 _ (List.getElem_mem hltj)).1 (appW_1 (by simp; omega) (addW_of (by omega) (by omega) (hn2 hltj _ ⟨?_, by omega⟩))))
        simp [-List.map_take]
        rw [List.take_succ_eq_append_getElem hltj, List.map_append]; rfl
      · have hge : s.xChains[k].length ≤ j := by simpa using hc2
        rw [List.take_of_length_le hge]
        refine addW_of (by omega) (by omega) (hn hlt _ ⟨?_, by omega⟩)
        rw [List.take_succ_eq_append_getElem hlt, lsF_snoc, List.length_take, Nat.min_eq_left hk, Nat.zero_add]
        simp
    · have hge : s.xChains.length ≤ k := by simpa using hc
      rw [List.take_of_length_le hge]
      exact h1 hv
  unfold jnW
  refine ifW_of (fun ha => key _ (by simp [dft, ha])) (fun ha => key _ (by simp [dft, ha]))
theorem S_spec_RulesetText {s : GRuleset} {κ : List ByteArray → Prop} (hb : Bd s) (h1 : SV s → κ (rlines s)) (h2 : ¬ SV s → κ []) : L_spec_RulesetText s κ := by
  unfold L_spec_RulesetText
  refine S_spec_RulesetValid hb (fun b hbv => ifW_of (fun hc => h2 (fun hh => ?_)) (fun hc => ?_))
  · rw [hbv.2 hh] at hc; cases hc
  have hv : SV s := hbv.1 (by simpa using hc)
  have hcl := hv.1.1
  have key : ∀ d : List UInt8, d = dft s → loopW (fun (nx89 : ((List ByteArray) × Int) → Prop) ((xs85, t88) : ((List ByteArray) × Int)) => ifW (decide (t88 < (s.xChains.length : Int))) (L_spec_l3Number t88 (fun r90 => catW (ByteArray.mk #[99, 104, 97, 105, 110, 32]) r90 (fun s91 => appW xs85 ([s91]) (fun _ => loopW (fun (nx101 : ((List ByteArray) × Int) → Prop) ((xs97, t100) : ((List ByteArray) × Int)) => idxW s.xChains t88 (fun e102 => ifW (decide (t100 < (e102.length : Int))) (idxW s.xChains t88 (fun e108 => idxW e108 t100 (fun e114 => L_spec_RuleText e114 (fun r120 => appW xs97 ([r120]) (fun _ => addW t100 1 (fun t125 => nx101 ((xs97 ++ ([r120])), t125))))))) (addW t88 1 (fun t126 => nx89 (xs97, t126))))) ((xs85 ++ ([s91])), 0))))) (κ xs85)) ([B d], 0) := by
    rintro d rfl
    refine count_loop s.xChains.length (fun s => s.2) (fun k t => t = (B (dft s) :: lsF 0 (s.xChains.take k), (k : Int)) ∧ k ≤ s.xChains.length) (fun k s h => by rw [h.1]) (fun k s h => h.2) ?_ ⟨by simp [lsF], Nat.zero_le _⟩
    rintro k _ next ⟨rfl, hk⟩ hn
    have hs := sumL_le (s.xChains.take k) (fun c hc => (hv.1.2 c (List.mem_of_mem_take hc)).1)
    have hll := lsF_len 0 (s.xChains.take k)
    rw [List.length_take] at hs hll
    refine ifW_of (fun hc => ?_) (fun hc => ?_)
    · have hlt : k < s.xChains.length := by simpa using hc
      have hch := hv.1.2 _ (List.getElem_mem hlt)
      have hd := dec_le (n := k) (by omega)
      refine S_l3Number (by omega) (by omega) (catW_B (l := [99, 104, 97, 105, 110, 32]) (by simp; omega) (appW_1 (by simp; omega) ?_))
      refine count_loop s.xChains[k].length (fun s => s.2) (fun j t => t = ((B (dft s) :: lsF 0 (s.xChains.take k)) ++ (B (chl k) :: (s.xChains[k].take j).map (fun r => B (rtx0 r))), (j : Int)) ∧ j ≤ s.xChains[k].length) (fun k s h => by rw [h.1]) (fun k s h => h.2) ?_ ⟨by simp [chl], Nat.zero_le _⟩
      rintro j _ next2 ⟨rfl, hj⟩ hn2
      refine idxW_of k rfl hlt (ifW_of (fun hc2 => ?_) (fun hc2 => ?_))
      · have hltj : j < s.xChains[k].length := by simpa using hc2
        have hrv := (hch.2 _ (List.getElem_mem hltj)).1
        have h6 := hrv.1.2
        refine idxW_of k rfl hlt (idxW_of j rfl hltj (S_spec_RuleText (by omega) ?_))
        rw [rtext, if_pos hrv]
        refine appW_1 (by simp; omega) (addW_of (by omega) (by omega) (hn2 hltj _ ⟨?_, by omega⟩))
        simp [-List.map_take]
        rw [List.take_succ_eq_append_getElem hltj, List.map_append]; rfl
      · have hge : s.xChains[k].length ≤ j := by simpa using hc2
        rw [List.take_of_length_le hge]
        refine addW_of (by omega) (by omega) (hn hlt _ ⟨?_, by omega⟩)
        rw [List.take_succ_eq_append_getElem hlt, lsF_snoc, List.length_take, Nat.min_eq_left hk, Nat.zero_add]
        simp
    · have hge : s.xChains.length ≤ k := by simpa using hc
      rw [List.take_of_length_le hge]
      exact h1 hv
  unfold jnW
  refine ifW_of (fun ha => appW_1 (by simp) ?_) (fun ha => appW_1 (by simp) ?_)
  · exact key _ (by simp [dft, ha])
  · exact key _ (by simp [dft, ha])
theorem sameTexts_self {a : List ByteArray} {κ : Bool → Prop} (hl : a.length ≤ 4294967296) (h : κ true) : L_laws_sameTexts a a κ := by
  unfold L_laws_sameTexts
  refine ifW_of (fun hc => by simp at hc) (fun _ => ?_)
  refine eq_loop a a rfl hl (fun x y A => ifW (!(decide (x = y))) (κ false) A) (fun x y A h1 h2 => ifW_of (fun hc => h2 (by simpa using hc)) (fun hc => h1 (by simpa using hc))) (by simpa using h) _ (fun nx t hh => hh)

/-! draws -/
/-- a chain as it is drawn -/
def Dc (c : List GRule) : Prop := c.length ≤ 100 ∧ ∀ r, r ∈ c → r.xTests.length ≤ 8
theorem dc_app {c : List GRule} {r : GRule} {n : Nat} (h : Dc c) (hn : c.length ≤ n) (hn' : n < 100) (hr : r.xTests.length ≤ 8) : Dc (c ++ [r]) := ⟨by simp; omega, fun x hx => by
  rcases List.mem_append.1 hx with hx | hx
  · exact h.2 x hx
  · rw [List.mem_singleton] at hx; subst hx; exact hr⟩
theorem S_l20Rules {b : List UInt8} {p n first chains : Int} (hb : b.length ≤ 2000) (h0 : 0 ≤ p) (hp : p ≤ 500000) (hn : n ≤ 4294967296) (hf0 : 0 ≤ first) (hf1 : first ≤ 100) (hc0 : 0 ≤ chains) (hc1 : chains ≤ 100) {κ : List GRule × Int → Prop} (h : ∀ c p', p ≤ p' → p' ≤ p + 5000 → Dc c → c.length ≤ 9 → κ (c, p')) : L_spec_l20Rules b p first chains n κ := by
  have rd : ∀ p', p ≤ p' → p' ≤ p + 5000 → RdP b p' := fun p' a c => ⟨hb, by omega, by omega⟩
  unfold L_spec_l20Rules
  refine S_pick (rd p (by omega) (by omega)) (fun v a c => ?_)
  refine loopW_inv (fun s => 0 ≤ s.2.2 ∧ s.2.2 ≤ 4 ∧ p ≤ s.1 ∧ s.1 ≤ p + 1 + 700 * (4 - s.2.2) ∧ s.2.1.length + s.2.2.toNat ≤ 4 ∧ Dc s.2.1) (fun s => s.2.2.toNat) ?_ ⟨a, by simp only; omega, by simp only; omega, by simp only; omega, by simp only [List.length_nil]; omega, by simp [Dc]⟩
  rintro ⟨q, xs, k⟩ next ⟨k0, k1, q0, q1, hx, hdc⟩ hnx
  simp only at k0 k1 q0 q1 hx hdc
  refine ifW_of (fun hc => ?_) (fun hc => ?_)
  · simp at hc
    refine S_l20Rule hb (by omega) (by omega) (by omega) hf0 hf1 hc0 hc1 (fun r p' g1 g2 hr => appW_of (by simp; omega) (subW_of (by omega) (by omega) (hnx _ ⟨by simp only; omega, by simp only; omega, by simp only; omega, by simp only; omega, by simp; omega, dc_app (n := 4) hdc (by omega) (by omega) hr⟩ (by simp only; omega))))
  · simp at hc
    unfold jnW
    refine S_odd (rd _ (by omega) (by omega)) hn (fun o p1 f1 f2 => ifW_of (fun _ => ?_) (fun _ => h _ _ (by omega) (by omega) hdc (by omega)))
    refine S_pick (rd _ (by omega) (by omega)) (fun v2 a2 c2 => ifW_of (fun _ => ?_) (fun _ => ?_))
    · exact S_l20Rule hb (by omega) (by omega) (by omega) hf0 hf1 hc0 hc1 (fun r p' g1 g2 hr => appW_of (by simp; omega) (h _ _ (by omega) (by omega) (dc_app (n := 4) hdc (by omega) (by omega) hr) (by simp; omega)))
    · refine loopW_inv (fun s => s.length ≤ 9 ∧ Dc s) (fun s => 9 - s.length) ?_ ⟨by omega, hdc⟩
      rintro ys next2 ⟨hy, hyd⟩ hn2
      refine ifW_of (fun hc3 => ?_) (fun hc3 => h _ _ (by omega) (by omega) hyd hy)
      simp at hc3
      exact appW_of (by simp; omega) (hn2 _ ⟨by simp; omega, dc_app (n := 8) hyd (by omega) (by omega) (by simp)⟩ (by simp; omega))

theorem dc_set {xs : List (List GRule)} {i : Nat} {c : List GRule} (h : ∀ x, x ∈ xs → Dc x) (hc : Dc c) : ∀ x, x ∈ xs.set i c → Dc x := fun x hx => by
  rcases List.mem_or_eq_of_mem_set hx with hx | rfl
  · exact h x hx
  · exact hc
theorem dc_one {r : GRule} (h : r.xTests.length ≤ 8) : Dc [r] := ⟨by simp, fun x hx => by rw [List.mem_singleton] at hx; subst hx; exact h⟩
theorem S_l20Ruleset {b : List UInt8} {n : Int} (hb : b.length ≤ 2000) (hn : n ≤ 4294967296) {κ : GRuleset × Int → Prop} (h : ∀ s p', s.xChains.length ≤ 3 → (∀ c, c ∈ s.xChains → Dc c) → κ (s, p')) : L_spec_l20Ruleset b 0 n κ := by
  have rd : ∀ p', 0 ≤ p' → p' ≤ 100000 → RdP b p' := fun p' a c => ⟨hb, by omega, by omega⟩
  unfold L_spec_l20Ruleset
  refine S_pick (rd 0 (by omega) (by omega)) (fun v0 a0 c0 => S_pick (rd _ (by omega) (by omega)) (fun v a c => addW_of (by omega) (by omega) ?_))
  refine loopW_inv (fun s => 0 ≤ s.2.2 ∧ s.2.2 ≤ 1 + v ∧ 0 ≤ s.1 ∧ s.1 ≤ 2 + 5000 * s.2.2 ∧ (s.2.1.length : Int) = s.2.2 ∧ ∀ c, c ∈ s.2.1 → Dc c ∧ c.length ≤ 9) (fun s => (1 + v - s.2.2).toNat) ?_ ⟨by simp, by simp only; omega, by simp only; omega, by simp only; omega, rfl, by simp⟩
  rintro ⟨q, xs, k⟩ next ⟨k0, k1, q0, q1, hx, hdc9⟩ hnx
  simp only at k0 k1 q0 q1 hx hdc9
  have hdc : ∀ c, c ∈ xs → Dc c := fun c hc => (hdc9 c hc).1
  unfold jnW
  refine ifW_of (fun hc => ?_) (fun hc => ?_)
  · simp at hc
    have hw : w64 (k + 1) = k + 1 := w64_small (by omega) (by omega)
    rw [hw]
    refine S_l20Rules hb (by omega) (by omega) (by omega) (by omega) (by omega) (by omega) (by omega) (fun ch p' g1 g2 hd hl => appW_of (by simp; omega) (addW_of (by omega) (by omega) (hnx _ ⟨by simp only; omega, by simp only; omega, by simp only; omega, by simp only; omega, by simp; omega, fun x hx' => ?_⟩ (by simp only; omega))))
    simp only [List.mem_append, List.mem_singleton] at hx'
    rcases hx' with hx' | rfl
    · exact hdc9 x hx'
    · exact ⟨hd, hl⟩
  · simp at hc
    have hk : k = 1 + v := by omega
    have hl0 : 0 < xs.length := by omega
    have hd0 : Dc xs[0] := hdc _ (List.getElem_mem hl0)
    have fin : ∀ (p' : Int) (ys : List (List GRule)), ys.length ≤ 3 → (∀ c, c ∈ ys → Dc c) → κ ((GRuleset.mk ys (decide (v0 = 0))), p') := fun p' ys g1 g2 => h _ _ g1 g2
    have hx3 : xs.length ≤ 3 := by omega
    refine S_odd (rd _ (by omega) (by omega)) hn (fun o p1 f1 f2 => ifW_of (fun _ => ?_) (fun _ => fin _ _ hx3 hdc))
    refine S_pick (rd _ (by omega) (by omega)) (fun v2 a2 c2 => ifW_of (fun _ => fin _ _ (by simp) (by simp)) (fun _ => ifW_of (fun _ => ?_) (fun _ => ifW_of (fun _ => ?_) (fun _ => ?_))))
    · have ap : ∀ (e p' : Int), appW xs[0] ([(GRule.mk ([]) 3 e)]) (fun _ => idxW xs 0 (fun e155 => κ ((GRuleset.mk (xs.set (0 : Int).toNat (xs[0] ++ ([(GRule.mk ([]) 3 e)]))) (decide (v0 = 0))), p'))) := by
        intro e p'
        have h9 := (hdc9 _ (List.getElem_mem hl0)).2
        exact appW_of (by simp; omega) (idxW_of 0 rfl hl0 (fin _ _ (by rw [List.length_set]; exact hx3) (dc_set hdc ⟨by simp; omega, fun r hr => by
          rcases List.mem_append.1 hr with hr | hr
          · exact hd0.2 r hr
          · rw [List.mem_singleton] at hr; subst hr; simp⟩)))
      have pk : ∀ (v3 p' : Int), 0 ≤ v3 → (v3 = 0 ∨ v3 < 2) → idxW ([0, 1 + v]) v3 (fun e148 => appW xs[0] ([(GRule.mk ([]) 3 e148)]) (fun _ => idxW xs 0 (fun e155 => κ ((GRuleset.mk (xs.set (0 : Int).toNat (xs[0] ++ ([(GRule.mk ([]) 3 e148)]))) (decide (v0 = 0))), p')))) := fun v3 p' g0 g1 => idxW_any g0 (by simp; omega) (fun e _ => ap e p')
      have ix : ∀ (K : List GRule → Prop), K xs[0] → idxW xs 0 K := fun K hK => idxW_of 0 rfl hl0 hK
      refine ⟨ix _ (S_pick (rd _ (by omega) (by omega)) (fun v3 a3 c3 => pk _ _ a3 c3)), ⟨ix _ (S_pick (rd _ (by omega) (by omega)) (fun v3 a3 c3 => pk _ _ a3 c3)), S_pick (rd _ (by omega) (by omega)) (fun v3 a3 c3 => ⟨ix _ (pk _ _ a3 c3), idxW_any a3 (by simp; omega) (fun e _ => ix _ (ap e _))⟩)⟩, S_pick (rd _ (by omega) (by omega)) (fun v3 a3 c3 => ⟨ix _ (pk _ _ a3 c3), ix _ (pk _ _ a3 c3), idxW_any a3 (by simp; omega) (fun e _ => ix _ (ap e _))⟩)⟩
    · have hvn : v.toNat < xs.length := by omega
      refine subW_of (by omega) (by omega) (idxW_of v.toNat (by omega) hvn (subW_of (by omega) (by omega) (idxW_of 0 rfl (by rw [List.length_set]; exact hl0) ?_)))
      exact fin _ _ (by rw [List.length_set, List.length_set]; exact hx3) (dc_set (dc_set hdc (dc_one (by simp))) (dc_one (by simp)))
    · refine S_l20Rules hb (by omega) (by omega) (by omega) (by omega) (by omega) (by omega) (by omega) (fun ch p' g1 g2 hd hl => idxW_of 0 rfl hl0 (fin _ _ (by rw [List.length_set]; exact hx3) (dc_set hdc hd)))
theorem pureFnLinesCount (code : List UInt8) : L_laws_FnLinesCount code (fun r => r = true) := by
  unfold L_laws_FnLinesCount
  refine ifW_of (fun _ => rfl) (fun hc => ?_)
  unfold L_spec_DrawRulesetText
  refine S_l20Open (fun b hb => S_l20Ruleset hb (by omega) (fun s p' hl hd => ?_))
  have hbd : Bd s := ⟨by omega, fun c hc => ⟨by have := (hd c hc).1; omega, fun r hr => by have := (hd c hc).2 r hr; omega⟩⟩
  have hsum : ∀ k, sumL (s.xChains.take k) ≤ 100 * 3 := by
    intro k
    have gen : ∀ (a : List (List GRule)), (∀ c, c ∈ a → c.length ≤ 100) → sumL a ≤ 100 * a.length := by
      intro a
      induction a with
      | nil => intro _; simp [sumL]
      | cons x a ih =>
        intro h
        have := ih (fun c hc => h c (by simp [hc]))
        have := h x (by simp)
        simp only [sumL, List.length_cons]; omega
    have h1 := gen (s.xChains.take k) (fun c hc => (hd c (List.mem_of_mem_take hc)).1)
    rw [List.length_take] at h1
    omega
  have fin : ∀ ls : List ByteArray, ls.length ≤ 4294967296 → (SV s → ls.length = 1 + s.xChains.length + sumL s.xChains) → L_laws_sameTexts ls ls (fun r18 => ifW (!r18) (false = true) (addW 1 (s.xChains.length : Int) (fun t19 => loopW (fun (nx22 : (Int × Int) → Prop) ((t20, t21) : (Int × Int)) => ifW (decide (t21 < (s.xChains.length : Int))) (idxW s.xChains t21 (fun e23 => addW t20 (e23.length : Int) (fun t31 => addW t21 1 (fun t32 => nx22 (t31, t32))))) (jnW (fun (t96 : Bool) => t96 = true) (fun k97 => L_spec_RulesetValid s (fun r33 => ifW (!r33) (L_laws_alive (fun r34 => k97 r34)) (ifW (decide ((ls.length : Int) = t20)) (L_laws_alive (fun r35 => k97 r35)) (k97 false)))))) (t19, 0)))) := by
    intro ls hls hv
    refine sameTexts_self hls ?_
    simp only [Bool.not_true, ifW_false]
    refine addW_of (by omega) (by omega) ?_
    refine count_loop s.xChains.length (fun s => s.2) (fun k t => t = (1 + (s.xChains.length : Int) + (sumL (s.xChains.take k) : Int), (k : Int)) ∧ k ≤ s.xChains.length) (fun k s h => by rw [h.1]) (fun k s h => h.2) ?_ ⟨by simp [sumL], Nat.zero_le _⟩
    rintro k _ next ⟨rfl, hk⟩ hn
    have hs := hsum k
    refine ifW_of (fun hc => ?_) (fun hc => ?_)
    · have hlt : k < s.xChains.length := by simpa using hc
      have h100 := (hd _ (List.getElem_mem hlt)).1
      refine idxW_of k rfl hlt (addW_of (by omega) (by omega) (addW_of (by omega) (by omega) (hn hlt _ ⟨?_, by omega⟩)))
      rw [List.take_succ_eq_append_getElem hlt, sumL_snoc]
      simp only [Prod.mk.injEq]
      omega
    · have hge : s.xChains.length ≤ k := by simpa using hc
      rw [List.take_of_length_le hge]
      unfold jnW
      refine S_spec_RulesetValid hbd (fun b hbv => ifW_of (fun _ => S_alive rfl) (fun hf => ?_))
      have hvv := hv (hbv.1 (by simpa using hf))
      refine ifW_of (fun _ => S_alive rfl) (fun hx => ?_)
      simp at hx; omega
  refine S_impl_RulesetText hbd (fun hv => S_spec_RulesetText hbd (fun _ => ?_) (fun hn => absurd hv hn)) (fun hv => S_spec_RulesetText hbd (fun hn => absurd hn hv) (fun _ => ?_))
  · have hle := sumL_le s.xChains (fun c hc => (hv.1.2 c hc).1)
    refine fin (rlines s) ?_ (fun _ => ?_)
    · simp [rlines, lsF_len]; omega
    · simp [rlines, lsF_len]; omega
  · exact fin [] (by simp) (fun hn => absurd hn hv)
end Go.Proofs.YtnogaeckmiekdaaDoor
