/- Elements of slices, what slices hold, chunks of memory; no program in sight. -/
import Derived.Test.YtnogaeckmiekdaaDoorCore
set_option linter.unusedSimpArgs false
set_option linter.unusedVariables false
namespace Go.Proofs.YtnogaeckmiekdaaDoor
open Go.RowKit

structure El (α : Type) where
  size : Nat
  cells : (Nat → Prop) → World → α → List Value → Prop
  pos : 0 < size
  len : ∀ F w x cs, cells F w x cs → cs.length = size
  one : ∀ F w x cs, cells F w x cs → ∀ u ∈ cs, u.oneCell' = true
  keep : ∀ F F' w w' x cs, (∀ b, F b → F' b) → (∀ b, F b → w'.heap[b]? = w.heap[b]?) → cells F w x cs → cells F' w' x cs

/-- elements without memory behind them -/
def El.flat {α : Type} (n : Nat) (enc : α → List Value) (hp : 0 < n) (hl : ∀ x, (enc x).length = n) (h1 : ∀ x, ∀ u ∈ enc x, u.oneCell' = true) : El α where
  size := n
  cells := fun _ _ x cs => cs = enc x
  pos := hp
  len := fun _ _ x cs h => by rw [h]; exact hl x
  one := fun _ _ x cs h => by rw [h]; exact h1 x
  keep := fun _ _ _ _ _ _ _ _ h => h

/-- a slice that reads as xs; all that it reaches lies in F -/
def Sl {α : Type} (E : El α) (F : Nat → Prop) (w : World) (v : Value) (xs : List α) : Prop :=
  ∃ a cap, v = .slice a xs.length cap ∧ xs.length ≤ cap ∧
    (0 < xs.length → ∃ b off, a = some ⟨b, off, none⟩ ∧ F b ∧ ∀ i x, xs[i]? = some x → ∃ cs, E.cells F w x cs ∧ w.rangeAt b (off + i * E.size) cs)

theorem rangeAt_keep {w w' : World} {b o : Nat} {cs : List Value} (h : w.rangeAt b o cs) (hb : w'.heap[b]? = w.heap[b]?) : w'.rangeAt b o cs :=
  fun j v hv => (World.cell?_of_block (w := w) hb).trans (h j v hv)

section
variable {α : Type} {E : El α} {F : Nat → Prop} {w : World} {v : Value} {xs : List α}
theorem Sl.keep {F' : Nat → Prop} {w' : World} (h : Sl E F w v xs) (hF : ∀ b, F b → F' b) (hb : ∀ b, F b → w'.heap[b]? = w.heap[b]?) : Sl E F' w' v xs := by
  obtain ⟨a, cap, rfl, hc, hr⟩ := h
  refine ⟨a, cap, rfl, hc, fun h0 => ?_⟩
  obtain ⟨b, off, rfl, hfb, hx⟩ := hr h0
  exact ⟨b, off, rfl, hF b hfb, fun i x hi => by
    obtain ⟨cs, h1, h2⟩ := hx i x hi
    exact ⟨cs, E.keep F F' w w' x cs hF hb h1, rangeAt_keep h2 (hb b hfb)⟩⟩
theorem Sl.nil (E : El α) (F : Nat → Prop) (w : World) (a : Option Addr) (cap : Nat) : Sl E F w (.slice a 0 cap) [] := ⟨a, cap, rfl, Nat.zero_le _, fun h => by simp at h⟩
/-- where element i lies -/
theorem Sl.at (h : Sl E F w v xs) {i : Nat} {x : α} (hi : xs[i]? = some x) :
    ∃ b off cap cs, v = .slice (some ⟨b, off, none⟩) xs.length cap ∧ E.cells F w x cs ∧ w.rangeAt b (off + i * E.size) cs := by
  obtain ⟨a, cap, rfl, hc, hr⟩ := h
  obtain ⟨b, off, rfl, hfb, hx⟩ := hr (by have := (List.getElem?_eq_some_iff.1 hi).1; omega)
  obtain ⟨cs, h1, h2⟩ := hx i x hi
  exact ⟨b, off, cap, cs, rfl, h1, h2⟩
theorem Sl.len_eq (h : Sl E F w v xs) : ∃ a cap, v = .slice a xs.length cap := by
  obtain ⟨a, cap, rfl, _⟩ := h
  exact ⟨a, cap, rfl⟩
end

/-- the cells of all elements, one behind the other -/
def Rows {α : Type} (E : El α) (F : Nat → Prop) (w : World) : List α → List (List Value) → Prop
  | [], [] => True
  | x :: xs, cs :: css => E.cells F w x cs ∧ Rows E F w xs css
  | _, _ => False

section
variable {α : Type} {E : El α} {F : Nat → Prop} {w : World}
theorem Rows.keep {F' : Nat → Prop} {w' : World} (hF : ∀ b, F b → F' b) (hb : ∀ b, F b → w'.heap[b]? = w.heap[b]?) : ∀ {xs : List α} {css : List (List Value)}, Rows E F w xs css → Rows E F' w' xs css
  | [], [], _ => trivial
  | _ :: _, _ :: _, h => ⟨E.keep F F' w w' _ _ hF hb h.1, Rows.keep hF hb h.2⟩
  | [], _ :: _, h => h.elim
  | _ :: _, [], h => h.elim
theorem Rows.length : ∀ {xs : List α} {css : List (List Value)}, Rows E F w xs css → css.flatten.length = xs.length * E.size
  | [], [], _ => by simp
  | _ :: xs, cs :: css, h => by simp [E.len _ _ _ _ h.1, Rows.length h.2, Nat.add_mul, Nat.add_comm]
  | [], _ :: _, h => h.elim
  | _ :: _, [], h => h.elim
theorem Rows.one : ∀ {xs : List α} {css : List (List Value)}, Rows E F w xs css → ∀ u ∈ css.flatten, u.oneCell' = true
  | [], [], _ => by simp
  | _ :: xs, cs :: css, h => by
    intro u hu
    simp only [List.flatten_cons, List.mem_append] at hu
    rcases hu with hu | hu
    · exact E.one _ _ _ _ h.1 u hu
    · exact Rows.one h.2 u hu
  | [], _ :: _, h => h.elim
  | _ :: _, [], h => h.elim
theorem Rows.append : ∀ {xs ys : List α} {css dss : List (List Value)}, Rows E F w xs css → Rows E F w ys dss → Rows E F w (xs ++ ys) (css ++ dss)
  | [], _, [], _, _, h => h
  | _ :: _, _, _ :: _, _, h, k => ⟨h.1, Rows.append h.2 k⟩
  | [], _, _ :: _, _, h, _ => h.elim
  | _ :: _, _, [], _, h, _ => h.elim
/-- element i among the cells -/
theorem Rows.get : ∀ {xs : List α} {css : List (List Value)}, Rows E F w xs css → ∀ {i : Nat} {x : α}, xs[i]? = some x → ∃ cs, E.cells F w x cs ∧ ∀ j v, cs[j]? = some v → css.flatten[i * E.size + j]? = some v
  | [], [], _, i, x, h => by simp at h
  | y :: xs, cs :: css, h, i, x, hi => by
    have hl := E.len _ _ _ _ h.1
    cases i with
    | zero =>
      simp at hi
      subst hi
      exact ⟨cs, h.1, fun j v hv => by
        have hj := (List.getElem?_eq_some_iff.1 hv).1
        simp only [List.flatten_cons, Nat.zero_mul, Nat.zero_add, List.getElem?_append, hj, if_true, hv]⟩
    | succ i =>
      simp at hi
      obtain ⟨ds, h1, h2⟩ := Rows.get h.2 hi
      refine ⟨ds, h1, fun j v hv => ?_⟩
      have e : (i + 1) * E.size + j = cs.length + (i * E.size + j) := by rw [hl, Nat.add_mul]; omega
      rw [List.flatten_cons, e, List.getElem?_append_right (by omega)]
      simpa using h2 j v hv
  | [], _ :: _, h, _, _, _ => h.elim
  | _ :: _, [], h, _, _, _ => h.elim
/-- element i is replaced -/
theorem Rows.set : ∀ {xs : List α} {css : List (List Value)}, Rows E F w xs css → ∀ (i : Nat) {y : α} {ds : List Value}, i < xs.length → E.cells F w y ds →
    ∃ pre post old, css.flatten = pre ++ old ++ post ∧ pre.length = i * E.size ∧ old.length = E.size ∧ ∃ css', css'.flatten = pre ++ ds ++ post ∧ Rows E F w (xs.set i y) css'
  | [], [], _, i, y, ds, hi, _ => by simp at hi
  | x :: xs, cs :: css, h, i, y, ds, hi, hy => by
    have hl := E.len _ _ _ _ h.1
    cases i with
    | zero => exact ⟨[], css.flatten, cs, by simp, by simp, hl, ds :: css, by simp, hy, h.2⟩
    | succ i =>
      obtain ⟨pre, post, old, h1, h2, h3, css', h4, h5⟩ := Rows.set h.2 i (by simpa using hi) hy
      exact ⟨cs ++ pre, post, old, by simp [h1], by simp [h2, hl, Nat.add_mul]; omega, h3, cs :: css', by simp [h4], h.1, h5⟩
  | [], _ :: _, h, _, _, _, _, _ => h.elim
  | _ :: _, [], h, _, _, _, _, _ => h.elim
end

/-- a slice of the call's own, made or grown by it -/
def Own {α : Type} (E : El α) (ty : TypeId) (F : Nat → Prop) (w : World) (v : Value) (xs : List α) : Prop :=
  ∃ css, Rows E F w xs css ∧ w.ownsRow 0 ty E.size v xs.length css.flatten

theorem ownsRow_keep {w w' : World} {B : Nat} {ty : TypeId} {k n : Nat} {v : Value} {cs : List Value} (h : w.ownsRow B ty k v n cs) (hb : ∀ b, v.ownBlock = some b → w'.heap[b]? = w.heap[b]?) : w'.ownsRow B ty k v n cs := by
  refine ⟨h.1, ?_⟩
  rcases h.2 with h2 | ⟨g, cap, cur, rfl, h3, h4, h5⟩
  · exact .inl h2
  · exact .inr ⟨g, cap, cur, rfl, h3, (hb g rfl).trans h4, h5⟩
theorem ownsRow_base {w : World} {B B' : Nat} {ty : TypeId} {k n : Nat} {v : Value} {cs : List Value} (h : w.ownsRow B ty k v n cs) (hb : ∀ b, v.ownBlock = some b → B' ≤ b) : w.ownsRow B' ty k v n cs := by
  refine ⟨h.1, ?_⟩
  rcases h.2 with h2 | ⟨g, cap, cur, rfl, h3, h4, h5⟩
  · exact .inl h2
  · exact .inr ⟨g, cap, cur, rfl, hb g rfl, h4, h5⟩

section
variable {α : Type} {E : El α} {ty : TypeId} {F : Nat → Prop} {w : World} {v : Value} {xs : List α}
theorem Own.keep {F' : Nat → Prop} {w' : World} (h : Own E ty F w v xs) (hF : ∀ b, F b → F' b) (hb : ∀ b, F b ∨ v.ownBlock = some b → w'.heap[b]? = w.heap[b]?) : Own E ty F' w' v xs := by
  obtain ⟨css, h1, h2⟩ := h
  exact ⟨css, h1.keep hF (fun b h => hb b (.inl h)), ownsRow_keep h2 (fun b h => hb b (.inr h))⟩
theorem Own.sl {F' : Nat → Prop} (h : Own E ty F w v xs) (hF : ∀ b, F b → F' b) (hv : ∀ b, v.ownBlock = some b → F' b) : Sl E F' w v xs := by
  obtain ⟨css, h1, h2, h3⟩ := h
  rcases h3 with ⟨rfl, h4⟩ | ⟨g, cap, cur, rfl, _, hg, hle, _, hcur, htake⟩
  · have : xs = [] := List.eq_nil_of_length_eq_zero h4
    subst this
    exact Sl.nil ..
  · refine ⟨_, cap, rfl, hle, fun _ => ⟨g, 0, rfl, hv g rfl, fun i x hi => ?_⟩⟩
    obtain ⟨cs, k1, k2⟩ := (h1.keep hF (fun _ _ => rfl)).get hi
    refine ⟨cs, k1, fun j u hu => ?_⟩
    rw [cell_of_row w g _ cur ty (0, 0) hg]
    have := k2 j u hu
    rw [← htake, List.getElem?_take] at this
    split at this
    · simpa using this
    · cases this
theorem Own.nil (E : El α) (ty : TypeId) (F : Nat → Prop) (w : World) : Own E ty F w (.slice none 0 0) [] := ⟨[], trivial, World.ownsRow_nil ..⟩
theorem Own.lt (h : Own E ty F w v xs) : ∀ b, v.ownBlock = some b → b < w.heap.size := by
  obtain ⟨css, h1, h2⟩ := h
  exact fun b hb => (h2.lt b hb).2
end

/-! ### kinds of chunks -/
def cellCh (b : Nat) (cs : List Value) (T : TypeId) : Ch where
  foot := fun x => x = b
  holds := fun _ w => w.heap[b]? = some (.cells cs.toArray T (0, 0))
  keep := fun _ _ _ _ _ h k => (h b (.inr rfl)).trans k
def roCh {α : Type} (E : El α) (v : Value) (xs : List α) : Ch where
  foot := fun _ => False
  holds := fun F w => Sl E F w v xs
  keep := fun _ _ _ _ hF hb h => h.keep hF (fun b hb' => hb b (.inl hb'))
def ownCh {α : Type} (E : El α) (ty : TypeId) (v : Value) (xs : List α) : Ch where
  foot := fun b => v.ownBlock = some b
  holds := fun F w => Own E ty F w v xs
  keep := fun _ _ _ _ hF hb h => h.keep hF hb

/-- the chunk lets the slice be read -/
def Reads {α : Type} (c : Ch) (E : El α) (v : Value) (xs : List α) : Prop := ∀ F w, c.holds F w → Sl E (fun b => F b ∨ c.foot b) w v xs
theorem reads_ro {α : Type} {E : El α} {v : Value} {xs : List α} : Reads (roCh E v xs) E v xs := fun F w h => h.keep (fun b hb => .inl hb) (fun _ _ => rfl)
theorem reads_own {α : Type} {E : El α} {ty : TypeId} {v : Value} {xs : List α} : Reads (ownCh E ty v xs) E v xs := fun F w h => h.sl (fun b hb => .inl hb) (fun b hb => .inr hb)

section
variable {α : Type} {E' : El α} {w : World} {F : Nat → Prop} {v : Value} {xs : List α}
/-- the slice reads; what its elements hang on lies in F, its row in F' -/
def Sl2 {α : Type} (E : El α) (F F' : Nat → Prop) (w : World) (v : Value) (xs : List α) : Prop :=
  ∃ a cap, v = .slice a xs.length cap ∧ xs.length ≤ cap ∧
    (0 < xs.length → ∃ b off, a = some ⟨b, off, none⟩ ∧ F' b ∧ ∀ i x, xs[i]? = some x → ∃ cs, E.cells F w x cs ∧ w.rangeAt b (off + i * E.size) cs)
/-- the chunk lets the slice be read, what its elements hang on standing still -/
def Src {α : Type} (c : Ch) (E : El α) (v : Value) (xs : List α) : Prop := ∀ F w, c.holds F w → Sl2 E F (fun b => F b ∨ c.foot b) w v xs
theorem src_ro : Src (roCh E' v xs) E' v xs := fun F w ⟨a, cap, h1, h2, h3⟩ => ⟨a, cap, h1, h2, fun h0 => by
  obtain ⟨b, off, k1, k2, k3⟩ := h3 h0
  exact ⟨b, off, k1, .inl k2, k3⟩⟩
theorem src_own {e : TypeId} : Src (ownCh E' e v xs) E' v xs := fun F w ⟨css, h1, h2, h3⟩ => by
  rcases h3 with ⟨rfl, h4⟩ | ⟨g, cap, cur, rfl, _, hg, hle, _, hcur, htake⟩
  · have : xs = [] := List.eq_nil_of_length_eq_zero h4
    subst this
    exact ⟨none, 0, rfl, Nat.le_refl _, fun h => by simp at h⟩
  · refine ⟨_, cap, rfl, hle, fun _ => ⟨g, 0, rfl, .inr rfl, fun i x hi => ?_⟩⟩
    obtain ⟨cs, k1, k2⟩ := h1.get hi
    refine ⟨cs, k1, fun j u hu => ?_⟩
    rw [cell_of_row w g _ cur e (0, 0) hg]
    have := k2 j u hu
    rw [← htake, List.getElem?_take] at this
    split at this
    · simpa using this
    · cases this
theorem Sl2.at {F' : Nat → Prop} (h : Sl2 E' F F' w v xs) {i : Nat} {x : α} (hi : xs[i]? = some x) :
    ∃ b off cap cs, v = .slice (some ⟨b, off, none⟩) xs.length cap ∧ F' b ∧ E'.cells F w x cs ∧ w.rangeAt b (off + i * E'.size) cs := by
  obtain ⟨a, cap, rfl, hc, hr⟩ := h
  obtain ⟨b, off, rfl, hfb, hx⟩ := hr (by have := (List.getElem?_eq_some_iff.1 hi).1; omega)
  obtain ⟨cs, h1, h2⟩ := hx i x hi
  exact ⟨b, off, cap, cs, rfl, hfb, h1, h2⟩
end
/-- what a block's cells are behind a store -/
def lput : List Value → Nat → List Value → List Value
  | cs, _, [] => cs
  | cs, o, v :: r => lput (cs.set o v) (o + 1) r
theorem lput_length : ∀ (vs cs : List Value) (o : Nat), (lput cs o vs).length = cs.length
  | [], _, _ => rfl
  | v :: r, cs, o => by rw [lput, lput_length r]; simp
theorem setCells_heap (b : Nat) (T : TypeId) (z : Nat × Nat) : ∀ (vs : List Value) (o : Nat) (cs : List Value) (w : World), w.heap[b]? = some (.cells cs.toArray T z) →
    (w.setCells b o vs).heap[b]? = some (.cells (lput cs o vs).toArray T z)
  | [], _, _, _, h => h
  | v :: r, o, cs, w, h => by
    rw [World.setCells, lput]
    refine setCells_heap b T z r (o + 1) (cs.set o v) _ ?_
    simp [World.setCell, Array.getElem?_modify, h]
theorem setCells_other (b : Nat) : ∀ (vs : List Value) (o : Nat) (w : World) (k : Nat), k ≠ b → (w.setCells b o vs).heap[k]? = w.heap[k]?
  | [], _, _, _, _ => rfl
  | v :: r, o, w, k, h => by rw [World.setCells, setCells_other b r _ _ k h, Below.heap_setCell _ _ _ _ h]
theorem setCells_size (b : Nat) : ∀ (vs : List Value) (o : Nat) (w : World), (w.setCells b o vs).heap.size = w.heap.size
  | [], _, _ => rfl
  | v :: r, o, w => by rw [World.setCells, setCells_size b r]; simp [World.setCell]
theorem setCells_rest (b : Nat) : ∀ (vs : List Value) (o : Nat) (w : World), (w.setCells b o vs).os = w.os ∧ (w.setCells b o vs).tape = w.tape ∧ (w.setCells b o vs).output = w.output
  | [], _, _ => ⟨rfl, rfl, rfl⟩
  | v :: r, o, w => by rw [World.setCells]; exact setCells_rest b r _ _
end Go.Proofs.YtnogaeckmiekdaaDoor
