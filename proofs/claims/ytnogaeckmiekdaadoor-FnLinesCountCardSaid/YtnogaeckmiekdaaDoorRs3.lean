/- Rulesets: validity and texts, of the program and of the reference. -/
import Derived.Test.YtnogaeckmiekdaaDoorRs2
set_option linter.unusedSimpArgs false
set_option linter.unusedVariables false
namespace Go.Proofs.YtnogaeckmiekdaaDoor
open Go.Lib (decDigits)

def RsV (c : List GRule) : Prop := c.length ≤ 8 ∧ ∀ r, r ∈ c → RV r
def SV (s : GRuleset) : Prop := Tg s.xChains ∧ 1 ≤ s.xChains.length ∧ ∀ i, i < s.xChains.length → Sf s.xChains i
/-- lengths in range -/
def Bc (c : List GRule) : Prop := c.length ≤ 4294967296 ∧ ∀ r, r ∈ c → r.xTests.length ≤ 4294967296
def Bd (s : GRuleset) : Prop := s.xChains.length ≤ 4294967296 ∧ ∀ c, c ∈ s.xChains → Bc c
theorem mem_snoc {α : Type} {l : List α} {k : Nat} (h : k < l.length) (x : α) : x ∈ l.take (k + 1) ↔ x ∈ l.take k ∨ x = l[k] := by
  rw [List.take_succ_eq_append_getElem h, List.mem_append, List.mem_singleton]

theorem S_impl_RulesValid {c : List GRule} {κ : Bool → Prop} (hb : Bc c) (h : ∀ b, (b = true ↔ RsV c) → κ b) : L_impl_RulesValid c κ := by
  have hl := hb.1
  unfold L_impl_RulesValid
  refine ifW_of (fun hc => h _ ⟨fun e => (by cases e), fun hh => by have := hh.1; simp at hc; omega⟩) (fun hc0 => ?_)
  simp at hc0
  refine count_loop c.length (fun s => s) (fun k s => s = (k : Int) ∧ k ≤ c.length ∧ ∀ r, r ∈ c.take k → RV r) (fun k s h => h.1) (fun k s h => h.2.1) ?_ ⟨rfl, Nat.zero_le _, by simp⟩
  rintro k _ next ⟨rfl, hk, he⟩ hn
  refine ifW_of (fun hc => ?_) (fun hc => ?_)
  · have hlt : k < c.length := by simpa using hc
    refine idxW_of k rfl hlt (S_impl_RuleValid (hb.2 _ (List.getElem_mem hlt)) (ifW_of (fun hc2 => ?_) (fun hc2 => ?_)))
    · simp at hc2
      exact h _ ⟨fun e => (by cases e), fun hh => absurd (hh.2 _ (List.getElem_mem hlt)) hc2⟩
    · simp at hc2
      refine addW_of (by omega) (by omega) (hn hlt _ ⟨by omega, by omega, fun r hr => ?_⟩)
      rcases (mem_snoc hlt r).1 hr with hr | rfl
      · exact he r hr
      · exact hc2
  · have hge : c.length ≤ k := by simpa using hc
    rw [List.take_of_length_le hge] at he
    exact h _ ⟨fun _ => ⟨by omega, he⟩, fun _ => rfl⟩
theorem S_spec_RulesValid {c : List GRule} {κ : Bool → Prop} (hb : Bc c) (h : ∀ b, (b = true ↔ RsV c) → κ b) : L_spec_RulesValid c κ := by
  have hl := hb.1
  unfold L_spec_RulesValid
  refine count_loop c.length (fun s => s) (fun k s => s = (k : Int) ∧ k ≤ c.length ∧ ∀ r, r ∈ c.take k → RV r) (fun k s h => h.1) (fun k s h => h.2.1) ?_ ⟨rfl, Nat.zero_le _, by simp⟩
  rintro k _ next ⟨rfl, hk, he⟩ hn
  refine ifW_of (fun hc => ?_) (fun hc => ?_)
  · have hlt : k < c.length := by simpa using hc
    refine idxW_of k rfl hlt (S_spec_RuleValid (hb.2 _ (List.getElem_mem hlt)) (ifW_of (fun hc2 => ?_) (fun hc2 => ?_)))
    · simp at hc2
      exact h _ ⟨fun e => (by cases e), fun hh => absurd (hh.2 _ (List.getElem_mem hlt)) hc2⟩
    · simp at hc2
      refine addW_of (by omega) (by omega) (hn hlt _ ⟨by omega, by omega, fun r hr => ?_⟩)
      rcases (mem_snoc hlt r).1 hr with hr | rfl
      · exact he r hr
      · exact hc2
  · have hge : c.length ≤ k := by simpa using hc
    rw [List.take_of_length_le hge] at he
    exact h _ ⟨fun e => ⟨by simp at e; omega, he⟩, fun hh => by have := hh.1; simp; omega⟩

theorem S_spec_RulesetValid {s : GRuleset} {κ : Bool → Prop} (hb : Bd s) (h : ∀ b, (b = true ↔ SV s) → κ b) : L_spec_RulesetValid s κ := by
  have hn := hb.1
  have no : ¬ SV s → κ false := fun hns => h _ ⟨fun e => (by cases e), fun hh => absurd hh hns⟩
  unfold L_spec_RulesetValid
  refine count_loop s.xChains.length (fun s => s) (fun k t => t = (k : Int) ∧ k ≤ s.xChains.length ∧ ∀ c, c ∈ s.xChains.take k → RsV c ∧ ∀ r, r ∈ c → r.xChain < s.xChains.length) (fun k s h => h.1) (fun k s h => h.2.1) ?_ ⟨rfl, Nat.zero_le _, by simp⟩
  rintro k _ next ⟨rfl, hk, he⟩ hnx
  refine ifW_of (fun hc => ?_) (fun hc => ?_)
  · have hlt : k < s.xChains.length := by simpa using hc
    have hmem := List.getElem_mem hlt
    have hbc := hb.2 _ hmem
    have hbl := hbc.1
    refine idxW_of k rfl hlt (S_spec_RulesValid hbc (fun b hbv => ifW_of (fun hf => no (fun hh => ?_)) (fun hf => ?_)))
    · have : b = true := hbv.2 ⟨(hh.1.2 _ hmem).1, fun r hr => ((hh.1.2 _ hmem).2 r hr).1⟩
      rw [this] at hf; cases hf
    · have hv : RsV s.xChains[k] := hbv.1 (by simpa using hf)
      refine count_loop s.xChains[k].length (fun s => s) (fun j t => t = (j : Int) ∧ j ≤ s.xChains[k].length ∧ ∀ r, r ∈ s.xChains[k].take j → r.xChain < s.xChains.length) (fun k s h => h.1) (fun k s h => h.2.1) ?_ ⟨rfl, Nat.zero_le _, by simp⟩
      rintro j _ next2 ⟨rfl, hj, he2⟩ hn2
      refine idxW_of k rfl hlt (ifW_of (fun hc3 => ?_) (fun hc3 => ?_))
      · have hltj : j < s.xChains[k].length := by simpa using hc3
        refine idxW_of k rfl hlt (idxW_of j rfl hltj (ifW_of (fun h3 => no (fun hh => ?_)) (fun h3 => ?_)))
        · have := ((hh.1.2 _ hmem).2 _ (List.getElem_mem hltj)).2
          simp at h3; omega
        · simp at h3
          refine addW_of (by omega) (by omega) (hn2 hltj _ ⟨by omega, by omega, fun r hr => ?_⟩)
          rcases (mem_snoc hltj r).1 hr with hr | rfl
          · exact he2 r hr
          · omega
      · have hge : s.xChains[k].length ≤ j := by simpa using hc3
        rw [List.take_of_length_le hge] at he2
        refine addW_of (by omega) (by omega) (hnx hlt _ ⟨by omega, by omega, fun c hc => ?_⟩)
        rcases (mem_snoc hlt c).1 hc with hc | rfl
        · exact he c hc
        · exact ⟨hv, he2⟩
  · have hge : s.xChains.length ≤ k := by simpa using hc
    rw [List.take_of_length_le hge] at he
    unfold jnW
    refine S_l1In (ifW_of (fun h5 => ?_) (fun h5 => no (fun hh => ?_)))
    · simp at h5
      have ht : Tg s.xChains := ⟨by omega, fun c hc => ⟨(he c hc).1.1, fun r hr => ⟨(he c hc).1.2 r hr, (he c hc).2 r hr⟩⟩⟩
      refine S_l8Order ht (fun hall ys hy => h _ ⟨fun _ => ⟨ht, by omega, hall⟩, fun _ => by simp; omega⟩) (fun hall ys hy => h _ ⟨fun e => absurd (by simp at e; omega) hy, fun hh => absurd hh.2.2 hall⟩)
    · have := hh.1.1; have := hh.2.1
      simp at h5; omega
theorem S_impl_RulesetValid {s : GRuleset} {κ : Bool → Prop} (hb : Bd s) (h : ∀ b, (b = true ↔ SV s) → κ b) : L_impl_RulesetValid s κ := by
  have no : ¬ SV s → κ false := fun hns => h _ ⟨fun e => (by cases e), fun hh => absurd hh hns⟩
  unfold L_impl_RulesetValid jnW
  simp only [ifW_true]
  refine ifW_of (fun hc => no (fun hh => by have := hh.2.1; simp at hc; omega)) (fun h1 => ifW_of (fun hc => no (fun hh => by have := hh.1.1; simp at hc; omega)) (fun h5 => ?_))
  simp at h1 h5
  refine count_loop s.xChains.length (fun s => s) (fun k t => t = (k : Int) ∧ k ≤ s.xChains.length ∧ ∀ c, c ∈ s.xChains.take k → RsV c) (fun k s h => h.1) (fun k s h => h.2.1) ?_ ⟨rfl, Nat.zero_le _, by simp⟩
  rintro k _ next ⟨rfl, hk, he⟩ hnx
  refine ifW_of (fun hc => ?_) (fun hc => ?_)
  · have hlt : k < s.xChains.length := by simpa using hc
    have hmem := List.getElem_mem hlt
    refine idxW_of k rfl hlt (S_impl_RulesValid (hb.2 _ hmem) (fun b hbv => ifW_of (fun hf => no (fun hh => ?_)) (fun hf => ?_)))
    · have : b = true := hbv.2 ⟨(hh.1.2 _ hmem).1, fun r hr => ((hh.1.2 _ hmem).2 r hr).1⟩
      rw [this] at hf; cases hf
    · refine addW_of (by omega) (by omega) (hnx hlt _ ⟨by omega, by omega, fun c hc => ?_⟩)
      rcases (mem_snoc hlt c).1 hc with hc | rfl
      · exact he c hc
      · exact hbv.1 (by simpa using hf)
  · have hge : s.xChains.length ≤ k := by simpa using hc
    rw [List.take_of_length_le hge] at he
    refine count_loop s.xChains.length (fun s => s) (fun k t => t = (k : Int) ∧ k ≤ s.xChains.length ∧ ∀ c, c ∈ s.xChains.take k → ∀ r, r ∈ c → r.xChain < s.xChains.length) (fun k s h => h.1) (fun k s h => h.2.1) ?_ ⟨rfl, Nat.zero_le _, by simp⟩
    rintro m _ next2 ⟨rfl, hm, he2⟩ hn2
    refine ifW_of (fun hc2 => ?_) (fun hc2 => ?_)
    · have hlt : m < s.xChains.length := by simpa using hc2
      have hmem := List.getElem_mem hlt
      have hv := he _ hmem
      refine idxW_of m rfl hlt (S_callsIn hv.1 hv.2 (fun ys hyl hys => ?_))
      refine count_loop ys.length (fun s => s) (fun j t => t = (j : Int) ∧ j ≤ ys.length ∧ ∀ x, x ∈ ys.take j → x < s.xChains.length) (fun k s h => h.1) (fun k s h => h.2.1) ?_ ⟨rfl, Nat.zero_le _, by simp⟩
      rintro j _ next3 ⟨rfl, hj, he3⟩ hn3
      refine ifW_of (fun hc3 => ?_) (fun hc3 => ?_)
      · have hltj : j < ys.length := by simpa using hc3
        refine idxW_of j rfl hltj (ifW_of (fun hx => no (fun hh => ?_)) (fun hx => ?_))
        · obtain ⟨r, hr, _, hrc⟩ := (hys _).1 (List.getElem_mem hltj)
          have := ((hh.1.2 _ hmem).2 r hr).2
          simp at hx; omega
        · simp at hx
          refine addW_of (by omega) (by omega) (hn3 hltj _ ⟨by omega, by omega, fun x hxx => ?_⟩)
          rcases (mem_snoc hltj x).1 hxx with hxx | rfl
          · exact he3 x hxx
          · omega
      · have hgej : ys.length ≤ j := by simpa using hc3
        rw [List.take_of_length_le hgej] at he3
        refine addW_of (by omega) (by omega) (hn2 hlt _ ⟨by omega, by omega, fun c hc => ?_⟩)
        rcases (mem_snoc hlt c).1 hc with hc | rfl
        · exact he2 c hc
        · intro r hr
          by_cases h3 : r.xAction = 3
          · exact he3 _ ((hys _).2 ⟨r, hr, h3, rfl⟩)
          · have := (hv.2 r hr).2.2.2.2 h3
            omega
    · have hgem : s.xChains.length ≤ m := by simpa using hc2
      rw [List.take_of_length_le hgem] at he2
      have ht : Tg s.xChains := ⟨by omega, fun c hc => ⟨(he c hc).1, fun r hr => ⟨(he c hc).2 r hr, he2 c hc r hr⟩⟩⟩
      exact S_acyclic ht (fun hall => h _ ⟨fun _ => ⟨ht, by omega, hall⟩, fun _ => rfl⟩) (fun hall => h _ ⟨fun e => (by cases e), fun hh => absurd hh.2.2 hall⟩)

/-! texts -/
def chl (k : Nat) : List UInt8 := [99, 104, 97, 105, 110, 32] ++ decDigits k
def lsF : Nat → List (List GRule) → List ByteArray
  | _, [] => []
  | k, c :: cs => (B (chl k) :: c.map (fun r => B (rtx0 r))) ++ lsF (k + 1) cs
theorem lsF_snoc : ∀ (k : Nat) (a : List (List GRule)) (c : List GRule), lsF k (a ++ [c]) = lsF k a ++ (B (chl (k + a.length)) :: c.map (fun r => B (rtx0 r)))
  | k, [], c => by simp [lsF]
  | k, x :: a, c => by
    simp only [List.cons_append, lsF, lsF_snoc (k + 1) a c, List.length_cons]
    rw [show k + 1 + a.length = k + (a.length + 1) by omega]
    simp
def sumL : List (List GRule) → Nat
  | [] => 0
  | c :: cs => c.length + sumL cs
theorem sumL_snoc : ∀ (a : List (List GRule)) (c : List GRule), sumL (a ++ [c]) = sumL a + c.length
  | [], c => by simp [sumL]
  | x :: a, c => by simp only [List.cons_append, sumL, sumL_snoc a c]; omega
theorem lsF_len : ∀ (k : Nat) (a : List (List GRule)), (lsF k a).length = a.length + sumL a
  | k, [] => rfl
  | k, x :: a => by simp only [lsF, List.length_append, List.length_cons, List.length_map, lsF_len (k + 1) a, sumL]; omega
theorem sumL_le : ∀ (a : List (List GRule)), (∀ c, c ∈ a → c.length ≤ 8) → sumL a ≤ 8 * a.length
  | [], _ => by simp [sumL]
  | x :: a, h => by
    have := sumL_le a (fun c hc => h c (by simp [hc]))
    have := h x (by simp)
    simp only [sumL, List.length_cons]; omega
def dft (s : GRuleset) : List UInt8 := if s.xAccept then [100, 101, 102, 97, 117, 108, 116, 32, 97, 99, 99, 101, 112, 116] else [100, 101, 102, 97, 117, 108, 116, 32, 100, 114, 111, 112]
def rlines (s : GRuleset) : List ByteArray := B (dft s) :: lsF 0 s.xChains
end Go.Proofs.YtnogaeckmiekdaaDoor
