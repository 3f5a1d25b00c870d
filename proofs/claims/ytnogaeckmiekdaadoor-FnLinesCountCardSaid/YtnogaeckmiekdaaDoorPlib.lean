/- The pure side: rules for the forms of loops that the laws use; no program in sight. -/
import Derived.Test.YtnogaeckmiekdaaDoorDrawn
set_option linter.unusedSimpArgs false
set_option linter.unusedVariables false
namespace Go.Proofs.YtnogaeckmiekdaaDoor

theorem ifW_t {A B : Prop} (h : A) : ifW true A B := ⟨fun _ => h, (fun e => by cases e)⟩
theorem ifW_f {A B : Prop} (h : B) : ifW false A B := ⟨(fun e => by cases e), fun _ => h⟩
theorem ifW_of {c : Bool} {A B : Prop} (ht : c = true → A) (hf : c = false → B) : ifW c A B := ⟨ht, hf⟩
@[simp] theorem ifW_true {A B : Prop} : ifW true A B = A := propext ⟨fun h => h.1 rfl, ifW_t⟩
@[simp] theorem ifW_false {A B : Prop} : ifW false A B = B := propext ⟨fun h => h.2 rfl, ifW_f⟩
theorem addW_of {x y : Int} {κ : Int → Prop} (h1 : -9223372036854775808 ≤ x + y) (h2 : x + y ≤ 9223372036854775807) (h : κ (x + y)) : addW x y κ := ⟨⟨h1, h2⟩, h⟩
theorem subW_of {x y : Int} {κ : Int → Prop} (h1 : -9223372036854775808 ≤ x - y) (h2 : x - y ≤ 9223372036854775807) (h : κ (x - y)) : subW x y κ := ⟨⟨h1, h2⟩, h⟩
theorem mulW_of {x y : Int} {κ : Int → Prop} (h1 : -9223372036854775808 ≤ x * y) (h2 : x * y ≤ 9223372036854775807) (h : κ (x * y)) : mulW x y κ := ⟨⟨h1, h2⟩, h⟩
theorem quoW_of {x y : Int} {κ : Int → Prop} (h1 : 0 ≤ x) (h2 : x ≤ 9223372036854775807) (h3 : 0 < y) (h : κ (x / y)) : quoW x y κ := ⟨h1, h3, ⟨by omega, h2⟩, h⟩
theorem remW_of {x y : Int} {κ : Int → Prop} (h1 : 0 ≤ x) (h2 : x ≤ 9223372036854775807) (h3 : 0 < y) (h : κ (x % y)) : remW x y κ := ⟨h1, h3, ⟨by omega, h2⟩, h⟩
theorem idxW_of {α : Type} {xs : List α} {i : Int} {κ : α → Prop} (n : Nat) (hi : i = n) (hn : n < xs.length) (h : κ xs[n]) : idxW xs i κ := by
  subst hi
  exact ⟨xs[n], by omega, by simp [hn], h⟩
theorem appW_of {α : Type} {xs ys : List α} {κ : List α → Prop} (h1 : xs.length + ys.length ≤ 4294967296) (h : κ (xs ++ ys)) : appW xs ys κ := ⟨h1, h⟩
theorem makeW_of {α : Type} {z : α} {n m : Int} {κ : List α → Prop} (k : Nat) (hn : n = k) (h1 : n ≤ m) (h2 : m ≤ 4294967296) (h : κ (List.replicate k z)) : makeW z n m κ := by
  subst hn
  refine ⟨by omega, h1, ?_, by simpa using h⟩
  unfold lenOk
  omega

/-- a loop that counts a place up to a length, with a state: after each round the state's law holds of the next place -/
theorem count_loop {σ : Type} {F : (σ → Prop) → σ → Prop} (len : Nat) (pos : σ → Int) (I : Nat → σ → Prop) (hpos : ∀ k s, I k s → pos s = k) (hle : ∀ k s, I k s → k ≤ len)
    (h : ∀ k s next, I k s → (k < len → ∀ s', I (k + 1) s' → next s') → F next s) {s : σ} (h0 : I 0 s) : loopW F s := by
  refine loopW_inv (fun s => ∃ k, I k s) (fun s => len - (pos s).toNat) (fun s next ⟨k, hk⟩ hn => ?_) ⟨0, h0⟩
  refine h k s next hk (fun hlt s' hs' => hn s' ⟨k + 1, hs'⟩ ?_)
  rw [hpos _ _ hk, hpos _ _ hs']
  omega

/-- the same, from a place k0 on -/
theorem count_loop_from {σ : Type} {F : (σ → Prop) → σ → Prop} (k0 len : Nat) (pos : σ → Int) (I : Nat → σ → Prop) (hpos : ∀ k s, I k s → pos s = k) (hle : ∀ k s, I k s → k ≤ len)
    (h : ∀ k s next, I k s → (k < len → ∀ s', I (k + 1) s' → next s') → F next s) {s : σ} (h0 : I k0 s) : loopW F s := by
  refine loopW_inv (fun s => ∃ k, I k s) (fun s => len - (pos s).toNat) (fun s next ⟨k, hk⟩ hn => ?_) ⟨k0, h0⟩
  refine h k s next hk (fun hlt s' hs' => hn s' ⟨k + 1, hs'⟩ ?_)
  rw [hpos _ _ hk, hpos _ _ hs']
  omega

/-- a copy element by element -/
theorem copy_loop {α β : Type} (a : List α) (f : α → β) (hl : a.length ≤ 4294967296) {κ : List β → Prop} (T : α → (β → Prop) → Prop) (hT : ∀ x ψ, x ∈ a → ψ (f x) → T x ψ) (hκ : κ (a.map f)) {xs : List β} (hx : xs.length = a.length)
    (F : (List β × Int → Prop) → List β × Int → Prop)
    (hF : ∀ nx xs t, (ifW (decide (t < (a.length : Int))) (idxW a t (fun e => T e (fun r => idxW xs t (fun _ => addW t 1 (fun u => nx (xs.set t.toNat r, u)))))) (κ xs)) → F nx (xs, t)) : loopW F (xs, 0) := by
  refine count_loop a.length (fun s => s.2) (fun k s => s.2 = (k : Int) ∧ k ≤ a.length ∧ s.1.length = a.length ∧ ∀ i, i < k → s.1[i]? = (a.map f)[i]?) (fun k s h => h.1) (fun k s h => h.2.1) ?_ ⟨rfl, Nat.zero_le _, hx, fun i hi => by omega⟩
  rintro k ⟨ys, t⟩ next ⟨rfl, hk, hy, hi⟩ hn
  simp only at hy hi
  refine hF _ _ _ (ifW_of (fun hc => ?_) (fun hc => ?_))
  · have hlt : k < a.length := by simpa using hc
    refine idxW_of k rfl hlt (hT _ _ (List.getElem_mem hlt) (idxW_of k rfl (by omega) (addW_of (by omega) (by omega) (hn hlt _ ?_))))
    refine ⟨by simp, by omega, by simpa using hy, fun i hi' => ?_⟩
    simp only [Int.toNat_natCast]
    by_cases e : i = k
    · subst e
      simp [hy, hlt]
    · rw [List.getElem?_set_ne (by omega)]
      exact hi i (by omega)
  · have hge : a.length ≤ k := by simpa using hc
    have : ys = a.map f := by
      apply List.ext_getElem?
      intro i
      by_cases h : i < k
      · exact hi i h
      · rw [List.getElem?_eq_none (by omega), List.getElem?_eq_none (by simp; omega)]
    rw [this]; exact hκ

/-- two lists are held against each other -/
theorem eq_loop {α : Type} [DecidableEq α] (a b : List α) (hab : a.length = b.length) (hl : a.length ≤ 4294967296) {κ : Bool → Prop} (T : α → α → Prop → Prop) (hT : ∀ x y A, (x = y → A) → (x ≠ y → κ false) → T x y A) (hκ : κ (decide (a = b)))
    (F : (Int → Prop) → Int → Prop) (hF : ∀ nx t, (ifW (decide (t < (a.length : Int))) (idxW a t (fun x => idxW b t (fun y => T x y (addW t 1 (fun u => nx u))))) (κ true)) → F nx t) : loopW F 0 := by
  refine count_loop a.length (fun s => s) (fun k s => s = (k : Int) ∧ k ≤ a.length ∧ a.take k = b.take k) (fun k s h => h.1) (fun k s h => h.2.1) ?_ ⟨rfl, Nat.zero_le _, by simp⟩
  rintro k _ next ⟨rfl, hk, he⟩ hn
  refine hF _ _ (ifW_of (fun hc => ?_) (fun hc => ?_))
  · have hlt : k < a.length := by simpa using hc
    refine idxW_of k rfl hlt (idxW_of k rfl (by omega) (hT _ _ _ (fun e => addW_of (by omega) (by omega) (hn hlt _ ⟨by simp, by omega, ?_⟩)) (fun e => ?_)))
    · rw [List.take_succ_eq_append_getElem hlt, List.take_succ_eq_append_getElem (by omega), he, e]
    · have : a ≠ b := fun h => by subst h; exact e rfl
      rw [decide_eq_false this] at hκ; exact hκ
  · have hge : a.length ≤ k := by simpa using hc
    have : a = b := by
      rw [List.take_of_length_le hge, List.take_of_length_le (by omega)] at he
      exact he
    rw [decide_eq_true this] at hκ; exact hκ

/-- the marks that are laid into a list from k on -/
def marks {α : Type} (f : Int → α) (k : Int) (n : Nat) : List α := (List.range n).map fun (i : Nat) => f (k + (i : Int))
theorem marks_length {α : Type} (f : Int → α) (k : Int) (n : Nat) : (marks f k n).length = n := by simp [marks]
theorem marks_get {α : Type} (f : Int → α) (k : Int) (n i : Nat) (h : i < n) : (marks f k n)[i]? = some (f (k + i)) := by simp [marks, h]
theorem mark_loop {α : Type} (a : List α) (f : Int → α) (k0 : Int) (hl : a.length ≤ 4294967296) (hk1 : 0 ≤ k0) (hk2 : k0 ≤ 1000000000000000000) {κ : Int × List α → Prop} (T : Int → Prop → Prop) (hT : ∀ k A, 0 ≤ k → k ≤ 2000000000000000000 → A → T k A)
    (hκ : κ (k0 + a.length, marks f k0 a.length))
    (F : (List α × Int × Int → Prop) → List α × Int × Int → Prop)
    (hF : ∀ nx xs k t, (ifW (decide (t < (xs.length : Int))) (T k (idxW xs t (fun _ => addW k 1 (fun k' => addW t 1 (fun u => nx (xs.set t.toNat (f k), k', u)))))) (κ (k, xs))) → F nx (xs, k, t)) : loopW F (a, k0, 0) := by
  refine count_loop a.length (fun s => s.2.2) (fun k s => s.2.2 = (k : Int) ∧ k ≤ a.length ∧ s.1.length = a.length ∧ s.2.1 = k0 + k ∧ ∀ i, i < k → s.1[i]? = some (f (k0 + i))) (fun k s h => h.1) (fun k s h => h.2.1) ?_ ⟨rfl, Nat.zero_le _, rfl, by simp, fun i hi => by omega⟩
  rintro k ⟨ys, q, t⟩ next ⟨rfl, hk, hy, hq, hi⟩ hn
  simp only at hy hi hq
  subst hq
  refine hF _ _ _ _ (ifW_of (fun hc => ?_) (fun hc => ?_))
  · have hlt : k < a.length := by rw [hy] at hc; simpa using hc
    refine hT _ _ (by omega) (by omega) (idxW_of k rfl (by omega) (addW_of (by omega) (by omega) (addW_of (by omega) (by omega) (hn hlt _ ⟨by simp, by omega, by simpa using hy, ?_, fun i hi' => ?_⟩))))
    · simp only; omega
    · simp only [Int.toNat_natCast]
      by_cases e : i = k
      · subst e; simp [hy, hlt]
      · rw [List.getElem?_set_ne (by omega)]; exact hi i (by omega)
  · have hge : a.length ≤ k := by rw [hy] at hc; simpa using hc
    have hke : k = a.length := by omega
    have : ys = marks f k0 a.length := by
      apply List.ext_getElem?
      intro i
      by_cases h : i < k
      · rw [hi i h, marks_get _ _ _ _ (by omega)]
      · rw [List.getElem?_eq_none (by omega), List.getElem?_eq_none (by rw [marks_length]; omega)]
    rw [this, hke]; exact hκ
theorem held_loop {α : Type} (f : Int → α) (k0 : Int) (n : Nat) (hl : n ≤ 4294967296) (hk1 : 0 ≤ k0) (hk2 : k0 ≤ 1000000000000000000) {κ : Int → Prop} (T : α → Int → Prop → Prop) (hT : ∀ k A, 0 ≤ k → k ≤ 2000000000000000000 → A → T (f k) k A)
    (hκ : κ (k0 + n)) (F : (Int × Int → Prop) → Int × Int → Prop)
    (hF : ∀ nx k t, (ifW (decide (t < ((marks f k0 n).length : Int))) (idxW (marks f k0 n) t (fun e => T e k (addW k 1 (fun k' => addW t 1 (fun u => nx (k', u)))))) (κ k)) → F nx (k, t)) : loopW F (k0, 0) := by
  refine count_loop n (fun s => s.2) (fun k s => s.2 = (k : Int) ∧ k ≤ n ∧ s.1 = k0 + k) (fun k s h => h.1) (fun k s h => h.2.1) ?_ ⟨rfl, Nat.zero_le _, by simp⟩
  rintro k ⟨q, t⟩ next ⟨rfl, hk, hq⟩ hn
  simp only at hq
  subst hq
  refine hF _ _ _ (ifW_of (fun hc => ?_) (fun hc => ?_))
  · have hlt : k < n := by rw [marks_length] at hc; simpa using hc
    refine idxW_of k rfl (by rw [marks_length]; exact hlt) ?_
    have e : (marks f k0 n)[k]'(by rw [marks_length]; exact hlt) = f (k0 + k) := by simp [marks]
    rw [e]
    exact hT _ _ (by omega) (by omega) (addW_of (by omega) (by omega) (addW_of (by omega) (by omega) (hn hlt _ ⟨by simp, by omega, by simp only; omega⟩)))
  · have hge : n ≤ k := by rw [marks_length] at hc; simpa using hc
    have : k = n := by omega
    rw [this]; exact hκ

theorem idxW_set {α : Type} {xs : List α} {t : Nat} {a : α} {κ : α → Prop} (h : t < xs.length) (hk : κ a) : idxW (xs.set ((t : Int)).toNat a) (t : Int) κ := ⟨a, by omega, by simp [h], hk⟩
theorem set_lt {α : Type} {xs : List α} {t i : Nat} {a : α} (h : t < xs.length) : t < (xs.set i a).length := by rw [List.length_set]; exact h
/-- marks of several numbers an element -/
def marksN {α : Type} (f : Int → α) (c k : Int) (n : Nat) : List α := (List.range n).map fun (i : Nat) => f (k + c * (i : Int))
theorem marksN_length {α : Type} (f : Int → α) (c k : Int) (n : Nat) : (marksN f c k n).length = n := by simp [marksN]
theorem marksN_get {α : Type} (f : Int → α) (c k : Int) (n i : Nat) (h : i < n) : (marksN f c k n)[i]? = some (f (k + c * i)) := by simp [marksN, h]
theorem mulN_bd (c : Int) (k : Nat) (h1 : 0 ≤ c) (h2 : c ≤ 1000) (hk : k ≤ 4294967296) : 0 ≤ c * (k : Int) ∧ c * (k : Int) ≤ 4294967296000 :=
  ⟨Int.mul_nonneg h1 (by omega), by have := Int.mul_le_mul h2 (show (k : Int) ≤ 4294967296 by omega) (by omega) (by omega); omega⟩
theorem markN_loop {α : Type} (f : Int → α) (c : Int) (a : List α) (k0 : Int) (hl : a.length ≤ 4294967296) (hk1 : 0 ≤ k0) (hk2 : k0 ≤ 1000000000000000000) (hc1 : 0 ≤ c) (hc2 : c ≤ 1000) {κ : Int × List α → Prop}
    (hκ : κ (k0 + c * a.length, marksN f c k0 a.length)) (F : (List α × Int × Int → Prop) → List α × Int × Int → Prop)
    (hF : ∀ (nx : List α × Int × Int → Prop) (xs : List α) (k : Int) (t : Nat), xs.length ≤ 4294967296 → 0 ≤ k → k ≤ 2000000000000000000 → (t < xs.length → nx (xs.set t (f k), k + c, (t : Int) + 1)) → (¬ t < xs.length → κ (k, xs)) → F nx (xs, k, (t : Int))) : loopW F (a, k0, 0) := by
  refine count_loop a.length (fun s => s.2.2) (fun k s => s.2.2 = (k : Int) ∧ k ≤ a.length ∧ s.1.length = a.length ∧ s.2.1 = k0 + c * k ∧ ∀ i, i < k → s.1[i]? = some (f (k0 + c * i))) (fun k s h => h.1) (fun k s h => h.2.1) ?_ ⟨rfl, Nat.zero_le _, rfl, by simp, fun i hi => by omega⟩
  rintro k ⟨ys, q, t⟩ next ⟨rfl, hk, hy, hq, hi⟩ hn
  simp only at hy hi hq
  subst hq
  obtain ⟨b1, b2⟩ := mulN_bd c k hc1 hc2 (by omega)
  refine hF _ _ _ _ (by omega) (by omega) (by omega) (fun hlt => ?_) (fun hge => ?_)
  · rw [hy] at hlt
    refine hn hlt _ ⟨by simp, by omega, by simpa using hy, ?_, fun i hi' => ?_⟩
    · simp only
      rw [Int.natCast_add, Int.mul_add]
      simp
      omega
    · simp only
      by_cases e : i = k
      · subst e; simp [hy, hlt]
      · rw [List.getElem?_set_ne (by omega)]; exact hi i (by omega)
  · have hke : k = a.length := by omega
    have : ys = marksN f c k0 a.length := by
      apply List.ext_getElem?
      intro i
      by_cases h : i < k
      · rw [hi i h, marksN_get _ _ _ _ _ (by omega)]
      · rw [List.getElem?_eq_none (by omega), List.getElem?_eq_none (by rw [marksN_length]; omega)]
    rw [this, hke]; exact hκ
theorem heldN_loop {α : Type} (f : Int → α) (c k0 : Int) (n : Nat) (hl : n ≤ 4294967296) (hk1 : 0 ≤ k0) (hk2 : k0 ≤ 1000000000000000000) (hc1 : 0 ≤ c) (hc2 : c ≤ 1000) {κ : Int → Prop}
    (hκ : κ (k0 + c * n)) (F : (Int × Int → Prop) → Int × Int → Prop)
    (hF : ∀ (nx : Int × Int → Prop) (k : Int) (t : Nat), t ≤ 4294967296 → 0 ≤ k → k ≤ 2000000000000000000 → (t < n → (marksN f c k0 n)[t]? = some (f k) ∧ nx (k + c, (t : Int) + 1)) → (¬ t < n → κ k) → F nx (k, (t : Int))) : loopW F (k0, 0) := by
  refine count_loop n (fun s => s.2) (fun k s => s.2 = (k : Int) ∧ k ≤ n ∧ s.1 = k0 + c * k) (fun k s h => h.1) (fun k s h => h.2.1) ?_ ⟨rfl, Nat.zero_le _, by simp⟩
  rintro k ⟨q, t⟩ next ⟨rfl, hk, hq⟩ hn
  simp only at hq
  subst hq
  obtain ⟨b1, b2⟩ := mulN_bd c k hc1 hc2 (by omega)
  refine hF _ _ _ (by omega) (by omega) (by omega) (fun hlt => ⟨marksN_get _ _ _ _ _ hlt, hn hlt _ ⟨by simp, by omega, ?_⟩⟩) (fun hge => ?_)
  · simp only
    rw [Int.natCast_add, Int.mul_add]
    simp
    omega
  · have hke : k = n := by omega
    rw [hke]; exact hκ
end Go.Proofs.YtnogaeckmiekdaaDoor
