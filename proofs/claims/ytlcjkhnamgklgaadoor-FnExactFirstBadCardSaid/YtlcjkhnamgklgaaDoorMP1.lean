/- Texts of this seat, put together. -/
import Derived.Test.YtlcjkhnamgklgaaDoorMA0
set_option linter.unusedSimpArgs false
set_option linter.unusedVariables false
namespace Go.Proofs.YtlcjkhnamgklgaaDoor
section


theorem ifW_t {A B : Prop} (h : A) : ifW true A B := ⟨fun _ => h, (fun e => by cases e)⟩
theorem ifW_f {A B : Prop} (h : B) : ifW false A B := ⟨(fun e => by cases e), fun _ => h⟩
theorem ifW_of {c : Bool} {A B : Prop} (ht : c = true → A) (hf : c = false → B) : ifW c A B := ⟨ht, hf⟩
@[simp] theorem ifW_true {A B : Prop} : ifW true A B = A := propext ⟨fun h => h.1 rfl, ifW_t⟩
@[simp] theorem ifW_false {A B : Prop} : ifW false A B = B := propext ⟨fun h => h.2 rfl, ifW_f⟩
theorem addW_of {x y : Int} {κ : Int → Prop} (h1 : -9223372036854775808 ≤ x + y) (h2 : x + y ≤ 9223372036854775807) (h : κ (x + y)) : addW x y κ := ⟨⟨h1, h2⟩, h⟩
theorem subW_of {x y : Int} {κ : Int → Prop} (h1 : -9223372036854775808 ≤ x - y) (h2 : x - y ≤ 9223372036854775807) (h : κ (x - y)) : subW x y κ := ⟨⟨h1, h2⟩, h⟩
theorem mulW_of {x y : Int} {κ : Int → Prop} (h1 : -9223372036854775808 ≤ x * y) (h2 : x * y ≤ 9223372036854775807) (h : κ (x * y)) : mulW x y κ := ⟨⟨h1, h2⟩, h⟩
theorem quoW_of {x y : Int} {κ : Int → Prop} (h1 : 0 ≤ x) (h2 : x ≤ 9223372036854775807) (h3 : 0 < y) (h : κ (x / y)) : quoW x y κ := ⟨h1, h3, ⟨by omega, h2⟩, h⟩
theorem remW_of {x y : Int} {κ : Int → Prop} (h1 : 0 ≤ x) (h2 : x ≤ 9223372036854775807) (h3 : 0 < y) (h : κ (x % y)) : remW x y κ := ⟨h1, h3, ⟨by omega, h2⟩, h⟩
theorem idxW_of {α : Type} {xs : List α} {i : Int} {κ : α → Prop} (n : Nat) (hi : i = n) (hn : n < xs.length) (h : κ xs[n]) : idxW xs i κ := by
  subst hi
  exact ⟨xs[n], by omega, by simp [hn], h⟩
theorem appW_of {α : Type} {xs ys : List α} {κ : List α → Prop} (h1 : xs.length + ys.length ≤ 4294967296) (h : κ (xs ++ ys)) : appW xs ys κ := ⟨h1, h⟩
theorem makeW_of {α : Type} {z : α} {n m : Int} {κ : List α → Prop} (k : Nat) (hn : n = k) (h1 : n ≤ m) (h2 : m ≤ 4294967296) (h : κ (List.replicate k z)) : makeW z n m κ := by
  subst hn
  refine ⟨by omega, h1, ?_, by simpa using h⟩
  unfold lenOk
  omega

/-- a loop that counts a place up to a length, with a state: after each round the state's law holds of the next place -/
theorem count_loop {σ : Type} {F : (σ → Prop) → σ → Prop} (len : Nat) (pos : σ → Int) (I : Nat → σ → Prop) (hpos : ∀ k s, I k s → pos s = k) (hle : ∀ k s, I k s → k ≤ len)
    (h : ∀ k s next, I k s → (k < len → ∀ s', I (k + 1) s' → next s') → F next s) {s : σ} (h0 : I 0 s) : loopW F s := by
  refine loopW_inv (fun s => ∃ k, I k s) (fun s => len - (pos s).toNat) (fun s next ⟨k, hk⟩ hn => ?_) ⟨0, h0⟩
  refine h k s next hk (fun hlt s' hs' => hn s' ⟨k + 1, hs'⟩ ?_)
  rw [hpos _ _ hk, hpos _ _ hs']
  omega

/-- the same, from a place k0 on -/
theorem count_loop_from {σ : Type} {F : (σ → Prop) → σ → Prop} (k0 len : Nat) (pos : σ → Int) (I : Nat → σ → Prop) (hpos : ∀ k s, I k s → pos s = k) (hle : ∀ k s, I k s → k ≤ len)
    (h : ∀ k s next, I k s → (k < len → ∀ s', I (k + 1) s' → next s') → F next s) {s : σ} (h0 : I k0 s) : loopW F s := by
  refine loopW_inv (fun s => ∃ k, I k s) (fun s => len - (pos s).toNat) (fun s next ⟨k, hk⟩ hn => ?_) ⟨k0, h0⟩
  refine h k s next hk (fun hlt s' hs' => hn s' ⟨k + 1, hs'⟩ ?_)
  rw [hpos _ _ hk, hpos _ _ hs']
  omega

/-- a copy element by element -/
theorem copy_loop {α β : Type} (a : List α) (f : α → β) (hl : a.length ≤ 4294967296) {κ : List β → Prop} (T : α → (β → Prop) → Prop) (hT : ∀ x ψ, x ∈ a → ψ (f x) → T x ψ) (hκ : κ (a.map f)) {xs : List β} (hx : xs.length = a.length)
    (F : (List β × Int → Prop) → List β × Int → Prop)
    (hF : ∀ nx xs t, (ifW (decide (t < (a.length : Int))) (idxW a t (fun e => T e (fun r => idxW xs t (fun _ => addW t 1 (fun u => nx (xs.set t.toNat r, u)))))) (κ xs)) → F nx (xs, t)) : loopW F (xs, 0) := by
  refine count_loop a.length (fun s => s.2) (fun k s => s.2 = (k : Int) ∧ k ≤ a.length ∧ s.1.length = a.length ∧ ∀ i, i < k → s.1[i]? = (a.map f)[i]?) (fun k s h => h.1) (fun k s h => h.2.1) ?_ ⟨rfl, Nat.zero_le _, hx, fun i hi => by omega⟩
  rintro k ⟨ys, t⟩ next ⟨rfl, hk, hy, hi⟩ hn
  simp only at hy hi
  refine hF _ _ _ (ifW_of (fun hc => ?_) (fun hc => ?_))
  · have hlt : k < a.length := by simpa using hc
    refine idxW_of k rfl hlt (hT _ _ (List.getElem_mem hlt) (idxW_of k rfl (by omega) (addW_of (by omega) (by omega) (hn hlt _ ?_))))
    refine ⟨by simp, by omega, by simpa using hy, fun i hi' => ?_⟩
    simp only [Int.toNat_natCast]
    by_cases e : i = k
    · subst e
      simp [hy, hlt]
    · rw [List.getElem?_set_ne (by omega)]
      exact hi i (by omega)
  · have hge : a.length ≤ k := by simpa using hc
    have : ys = a.map f := by
      apply List.ext_getElem?
      intro i
      by_cases h : i < k
      · exact hi i h
      · rw [List.getElem?_eq_none (by omega), List.getElem?_eq_none (by simp; omega)]
    rw [this]; exact hκ

/-- the marks that are laid into a list from k on -/
def marks {α : Type} (f : Int → α) (k : Int) (n : Nat) : List α := (List.range n).map fun (i : Nat) => f (k + (i : Int))
end

end Go.Proofs.YtlcjkhnamgklgaaDoor
