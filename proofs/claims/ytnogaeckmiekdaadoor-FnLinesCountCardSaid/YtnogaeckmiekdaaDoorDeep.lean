/- Slices that own all that is inside them. -/
import Derived.Test.YtnogaeckmiekdaaDoorNest
set_option linter.unusedSimpArgs false
set_option linter.unusedVariables false
set_option linter.unusedSectionVars false
namespace Go.Proofs.YtnogaeckmiekdaaDoor
open Go.RowKit

/-- elements that own the blocks B -/
structure DEl (α : Type) where
  el : El α
  own : List Nat → World → α → List Value → Prop
  read : ∀ B w x cs, own B w x cs → el.cells (fun b => b ∈ B) w x cs
  keep : ∀ B w w' x cs, (∀ b, b ∈ B → w'.heap[b]? = w.heap[b]?) → own B w x cs → own B w' x cs
  lt : ∀ B w x cs, own B w x cs → ∀ b, b ∈ B → b < w.heap.size
def blkL (v : Value) : List Nat := v.ownBlock.toList
theorem mem_blkL {v : Value} {b : Nat} : b ∈ blkL v ↔ v.ownBlock = some b := by simp [blkL]
structure DRows {α : Type} (E : DEl α) (w : World) (xs : List α) (css : List (List Value)) (Bs : List (List Nat)) : Prop where
  lc : css.length = xs.length
  lb : Bs.length = xs.length
  own : ∀ (i : Nat) x cs B, xs[i]? = some x → css[i]? = some cs → Bs[i]? = some B → E.own B w x cs
def Dp {α : Type} (E : DEl α) (ty : TypeId) (B : List Nat) (w : World) (v : Value) (xs : List α) : Prop :=
  ∃ css Bs, DRows E w xs css Bs ∧ w.ownsRow 0 ty E.el.size v xs.length css.flatten ∧ B.Perm (blkL v ++ Bs.flatten)

section
variable {α : Type} {E : DEl α} {w w' : World} {xs ys : List α} {css dss : List (List Value)} {Bs Cs : List (List Nat)} {ty : TypeId} {B : List Nat} {v : Value}
theorem DRows.mem (h : DRows E w xs css Bs) {b : Nat} (hb : b ∈ Bs.flatten) : ∃ (i : Nat) (x : α) (cs : List Value) (B : List Nat), xs[i]? = some x ∧ css[i]? = some cs ∧ Bs[i]? = some B ∧ b ∈ B ∧ E.own B w x cs := by
  obtain ⟨C, hC, hbC⟩ := List.mem_flatten.1 hb
  obtain ⟨i, hi, e⟩ := List.getElem_of_mem hC
  have h1 : i < xs.length := by rw [← h.lb]; exact hi
  have h2 : i < css.length := by rw [h.lc]; exact h1
  refine ⟨i, xs[i], css[i], C, List.getElem?_eq_getElem h1, List.getElem?_eq_getElem h2, by rw [List.getElem?_eq_getElem hi, e], hbC, ?_⟩
  exact h.own i _ _ _ (List.getElem?_eq_getElem h1) (List.getElem?_eq_getElem h2) (by rw [List.getElem?_eq_getElem hi, e])
theorem DRows.lt (h : DRows E w xs css Bs) : ∀ b, b ∈ Bs.flatten → b < w.heap.size := fun b hb => by
  obtain ⟨i, x, cs, C, _, _, _, hbC, ho⟩ := h.mem hb
  exact E.lt _ _ _ _ ho b hbC
theorem DRows.keep (h : DRows E w xs css Bs) (hk : ∀ b, b ∈ Bs.flatten → w'.heap[b]? = w.heap[b]?) : DRows E w' xs css Bs :=
  ⟨h.lc, h.lb, fun i x cs C h1 h2 h3 => E.keep _ _ _ _ _ (fun b hb => hk b (List.mem_flatten.2 ⟨C, List.mem_of_getElem? h3, hb⟩)) (h.own i x cs C h1 h2 h3)⟩
theorem DRows.nil : DRows E w [] [] [] := ⟨rfl, rfl, fun i x cs C h => by simp at h⟩
theorem DRows.one {x : α} {cs : List Value} {C : List Nat} (h : E.own C w x cs) : DRows E w [x] [cs] [C] := ⟨rfl, rfl, fun i y ds D h1 h2 h3 => by
  cases i with
  | zero => simp at h1 h2 h3; subst h1 h2 h3; exact h
  | succ i => simp at h1⟩
theorem DRows.append (h : DRows E w xs css Bs) (k : DRows E w ys dss Cs) : DRows E w (xs ++ ys) (css ++ dss) (Bs ++ Cs) :=
  ⟨by simp [h.lc, k.lc], by simp [h.lb, k.lb], fun i x cs C h1 h2 h3 => by
    have e1 := h.lc
    have e2 := h.lb
    by_cases hi : i < xs.length
    · rw [List.getElem?_append_left (by omega)] at h1 h2 h3
      exact h.own i x cs C h1 h2 h3
    · rw [List.getElem?_append_right (by omega)] at h1 h2 h3
      rw [e1] at h2
      rw [e2] at h3
      exact k.own _ x cs C h1 h2 h3⟩
theorem DRows.replicate {z : α} {zs : List Value} (h : E.own [] w z zs) (n : Nat) : DRows E w (List.replicate n z) (List.replicate n zs) (List.replicate n []) :=
  ⟨by simp, by simp, fun i x cs C h1 h2 h3 => by
    rw [List.getElem?_replicate] at h1 h2 h3
    split at h1
    · rename_i hi
      rw [if_pos hi] at h2 h3
      cases h1; cases h2; cases h3
      exact h
    · cases h1⟩
theorem DRows.set (h : DRows E w xs css Bs) (I : Nat) {y : α} {ds : List Value} {C : List Nat} (hy : E.own C w y ds) : DRows E w (xs.set I y) (css.set I ds) (Bs.set I C) :=
  ⟨by simp [h.lc], by simp [h.lb], fun i x cs D h1 h2 h3 => by
    rw [List.getElem?_set] at h1 h2 h3
    by_cases e : I = i
    · subst e
      simp only [if_true] at h1 h2 h3
      split at h1
      · rename_i hl
        rw [h.lc, if_pos hl] at h2
        rw [h.lb, if_pos hl] at h3
        cases h1; cases h2; cases h3
        exact hy
      · cases h1
    · rw [if_neg e] at h1 h2 h3
      exact h.own i x cs D h1 h2 h3⟩
theorem rows_at : ∀ {xs : List α} {css : List (List Value)} {F : Nat → Prop} {E : El α}, css.length = xs.length → (∀ (i : Nat) x cs, xs[i]? = some x → css[i]? = some cs → E.cells F w x cs) → Rows E F w xs css
  | [], [], _, _, _, _ => trivial
  | x :: xs, cs :: css, _, _, hl, h => ⟨h 0 x cs rfl rfl, rows_at (by simpa using hl) (fun i y ds h1 h2 => h (i + 1) y ds (by simpa using h1) (by simpa using h2))⟩
  | [], _ :: _, _, _, hl, _ => by simp at hl
  | _ :: _, [], _, _, hl, _ => by simp at hl
theorem DRows.rows {F : Nat → Prop} (h : DRows E w xs css Bs) (hF : ∀ b, b ∈ Bs.flatten → F b) : Rows E.el F w xs css := rows_at h.lc (fun i x cs h1 h2 => by
  have hi := (List.getElem?_eq_some_iff.1 h1).1
  have h3 : Bs[i]? = some (Bs[i]'(by rw [h.lb]; exact hi)) := List.getElem?_eq_getElem _
  exact E.el.keep _ _ w w x cs (fun b hb => hF b (List.mem_flatten.2 ⟨_, List.mem_of_getElem? h3, hb⟩)) (fun _ _ => rfl) (E.read _ _ _ _ (h.own i x cs _ h1 h2 h3)))
theorem DRows.size (h : DRows E w xs css Bs) : ∀ cs ∈ css, cs.length = E.el.size := fun cs hc => by
  obtain ⟨i, hi, e⟩ := List.getElem_of_mem hc
  have h1 : i < xs.length := by rw [← h.lc]; exact hi
  have h3 : i < Bs.length := by rw [h.lb]; exact h1
  exact E.el.len _ _ _ _ (E.read _ _ _ _ (h.own i _ cs _ (List.getElem?_eq_getElem h1) (by rw [List.getElem?_eq_getElem hi, e]) (List.getElem?_eq_getElem h3)))
theorem Dp.own {F : Nat → Prop} (h : Dp E ty B w v xs) (hF : ∀ b, b ∈ B → F b) : Own E.el ty F w v xs := by
  obtain ⟨css, Bs, h1, h2, h3⟩ := h
  exact ⟨css, h1.rows (fun b hb => hF b (h3.symm.subset (List.mem_append.2 (.inr hb)))), h2⟩
theorem Dp.blk (h : Dp E ty B w v xs) : ∀ b, v.ownBlock = some b → b ∈ B := fun b hb => by
  obtain ⟨css, Bs, h1, h2, h3⟩ := h
  exact h3.symm.subset (List.mem_append.2 (.inl (mem_blkL.2 hb)))
theorem Dp.lt (h : Dp E ty B w v xs) : ∀ b, b ∈ B → b < w.heap.size := fun b hb => by
  obtain ⟨css, Bs, h1, h2, h3⟩ := h
  rcases List.mem_append.1 (h3.subset hb) with hb | hb
  · exact (h2.lt b (mem_blkL.1 hb)).2
  · exact h1.lt b hb
theorem Dp.keep (h : Dp E ty B w v xs) (hk : ∀ b, b ∈ B → w'.heap[b]? = w.heap[b]?) : Dp E ty B w' v xs := by
  obtain ⟨css, Bs, h1, h2, h3⟩ := h
  exact ⟨css, Bs, h1.keep (fun b hb => hk b (h3.symm.subset (List.mem_append.2 (.inr hb)))), ownsRow_keep h2 (fun b hb => hk b (h3.symm.subset (List.mem_append.2 (.inl (mem_blkL.2 hb))))), h3⟩
theorem Dp.nil : Dp E ty [] w (.slice none 0 0) [] := ⟨[], [], DRows.nil, World.ownsRow_nil .., by simp [blkL, Value.ownBlock]⟩
theorem Dp.sl (h : Dp E ty B w v xs) : Sl E.el (fun b => b ∈ B) w v xs := (h.own (F := fun b => b ∈ B) (fun b hb => hb)).sl (fun b hb => hb) (fun b hb => h.blk b hb)
end

/-! elements -/
def dflat {α : Type} (E : El α) (enc : α → List Value) (hfl : Flat E enc) : DEl α where
  el := E
  own := fun B w x cs => B = [] ∧ cs = enc x
  read := fun B w x cs h => (hfl _ _ _ _).2 h.2
  keep := fun B w w' x cs _ h => h
  lt := fun B w x cs h b hb => by rw [h.1] at hb; cases hb
def dSl {α : Type} (E : DEl α) (ty : TypeId) : DEl (List α) where
  el := elSl E.el
  own := fun B w xs cs => ∃ v, cs = [v] ∧ Dp E ty B w v xs
  read := fun B w x cs ⟨v, h1, h2⟩ => ⟨v, h1, h2.sl⟩
  keep := fun B w w' x cs hk ⟨v, h1, h2⟩ => ⟨v, h1, h2.keep hk⟩
  lt := fun B w x cs ⟨v, h1, h2⟩ => h2.lt

def dpCh {α : Type} (E : DEl α) (ty : TypeId) (B : List Nat) (v : Value) (xs : List α) : Ch where
  foot := fun b => b ∈ B
  holds := fun _ w => B.Nodup ∧ Dp E ty B w v xs
  keep := fun _ _ _ _ _ hb h => ⟨h.1, h.2.keep (fun b hb' => hb b (.inr hb'))⟩
theorem free_dp {α : Type} {E : DEl α} {ty : TypeId} {B : List Nat} {v : Value} {xs : List α} : (dpCh E ty B v xs).free := fun _ _ _ h => h
/-- but for what is inside of element I, whose cells are cs -/
structure HRows {α : Type} (E : DEl α) (w : World) (xs : List α) (css : List (List Value)) (Bs : List (List Nat)) (I : Nat) (cz : List Value) : Prop where
  lc : css.length = xs.length
  lb : Bs.length = xs.length
  own : ∀ (i : Nat) x cs B, i ≠ I → xs[i]? = some x → css[i]? = some cs → Bs[i]? = some B → E.own B w x cs
  here : css[I]? = some cz
  none : Bs[I]? = some []
  size : ∀ cs ∈ css, cs.length = E.el.size
theorem HRows.lt {α : Type} {E : DEl α} {w : World} {xs : List α} {css : List (List Value)} {Bs : List (List Nat)} {I : Nat} {cz : List Value} (h : HRows E w xs css Bs I cz) : ∀ b, b ∈ Bs.flatten → b < w.heap.size := fun b hb => by
  obtain ⟨C, hC, hbC⟩ := List.mem_flatten.1 hb
  obtain ⟨i, hi, e⟩ := List.getElem_of_mem hC
  have h1 : i < xs.length := by rw [← h.lb]; exact hi
  have h2 : i < css.length := by rw [h.lc]; exact h1
  have hC' : Bs[i]? = some C := by rw [List.getElem?_eq_getElem hi, e]
  by_cases hI : i = I
  · subst hI; rw [h.none] at hC'; cases hC'; cases hbC
  · exact E.lt _ _ _ _ (h.own i _ _ _ hI (List.getElem?_eq_getElem h1) (List.getElem?_eq_getElem h2) hC') b hbC
def holeCh {α : Type} (E : DEl α) (ty : TypeId) (B : List Nat) (v : Value) (xs : List α) (I : Nat) (cz : List Value) : Ch where
  foot := fun b => b ∈ B
  holds := fun _ w => B.Nodup ∧ ∃ css Bs, HRows E w xs css Bs I cz ∧ w.ownsRow 0 ty E.el.size v xs.length css.flatten ∧ B.Perm (blkL v ++ Bs.flatten)
  keep := fun _ _ w w' _ hb ⟨h0, css, Bs, h1, h2, h3⟩ => ⟨h0, css, Bs, ⟨h1.lc, h1.lb, fun i x cs C hne k1 k2 k3 => E.keep _ _ _ _ _ (fun b hb' => hb b (.inr (h3.symm.subset (List.mem_append.2 (.inr (List.mem_flatten.2 ⟨C, List.mem_of_getElem? k3, hb'⟩)))))) (h1.own i x cs C hne k1 k2 k3), h1.here, h1.none, h1.size⟩,
    ownsRow_keep h2 (fun b hb' => hb b (.inr (h3.symm.subset (List.mem_append.2 (.inl (mem_blkL.2 hb')))))), h3⟩

/-! lists of blocks -/
theorem perm_out : ∀ {Bs : List (List Nat)} {i : Nat} {B : List Nat}, Bs[i]? = some B → Bs.flatten.Perm (B ++ (Bs.set i []).flatten)
  | [], i, B, h => by simp at h
  | C :: Bs, 0, B, h => by simp at h; subst h; simp
  | C :: Bs, i + 1, B, h => by
    have ih := perm_out (Bs := Bs) (i := i) (B := B) (by simpa using h)
    simp only [List.flatten_cons, List.set_cons_succ]
    refine (List.Perm.append_left C ih).trans ?_
    rw [← List.append_assoc, ← List.append_assoc]
    exact List.Perm.append_right _ List.perm_append_comm
theorem perm_in {Bs : List (List Nat)} {i : Nat} (h : i < Bs.length) (C : List Nat) : (Bs.set i C).flatten.Perm (C ++ (Bs.set i []).flatten) := by
  have := perm_out (Bs := Bs.set i C) (i := i) (B := C) (by simp [h])
  rwa [List.set_set] at this
theorem set_same {α : Type} : ∀ {l : List α} {i : Nat} {x : α}, l[i]? = some x → l.set i x = l
  | [], i, x, h => by simp at h
  | a :: l, 0, x, h => by simp at h; subst h; rfl
  | a :: l, i + 1, x, h => by simp at h; simp [set_same h]
theorem nodup_of {A B C : List Nat} (h : (A ++ (B ++ C)).Nodup) (D : List Nat) (hD : D.Nodup) (hdis : ∀ b, b ∈ D → b ∉ A ++ C) : (A ++ (D ++ C)).Nodup := by
  simp only [List.nodup_append, List.mem_append] at h hdis ⊢
  obtain ⟨h1, ⟨h2, h3, h4⟩, h5⟩ := h
  refine ⟨h1, ⟨hD, h3, fun a ha b hb e => hdis a ha (.inr (e ▸ hb))⟩, fun a ha b hb e => ?_⟩
  rcases hb with hb | hb
  · exact hdis b hb (.inl (e ▸ ha))
  · exact h5 a ha b (.inr hb) e
theorem flat_len {css : List (List Value)} {z : Nat} (h : ∀ cs ∈ css, cs.length = z) : css.flatten.length = css.length * z := by
  induction css with
  | nil => simp
  | cons c r ih =>
    rw [List.flatten_cons, List.length_append, ih (fun cs hc => h cs (List.mem_cons_of_mem _ hc)), h c (List.mem_cons_self ..), List.length_cons, Nat.succ_mul]
    omega
/-- a store into row I -/
theorem ownsRow_store {w : World} {css : List (List Value)} {I o z n cap g : Nat} {e : TypeId} {cz us : List Value} (hl : ∀ cs ∈ css, cs.length = z) (hn : css.length = n) (h : w.ownsRow 0 e z (.slice (some ⟨g, 0, none⟩) n cap) n css.flatten) (hI : css[I]? = some cz) (hle : o + us.length ≤ z) :
    (w.setCells g (I * z + o) us).ownsRow 0 e z (.slice (some ⟨g, 0, none⟩) n cap) n (css.set I (lput cz o us)).flatten := by
  obtain ⟨h0, hown⟩ := h
  rcases hown with ⟨h, _⟩ | ⟨g', cap', cur, h, hg0, hg, hnc, hcm, hcs, htake⟩
  · cases h
  cases h
  have hlt := (List.getElem?_eq_some_iff.1 hI).1
  have hcz : css[I] = cz := (List.getElem?_eq_some_iff.1 hI).2
  have hb : w.heap[g]? = some (.cells cur.toList.toArray e (0, 0)) := by simpa using hg
  have hup := setCells_heap g e (0, 0) us (I * z + o) cur.toList w hb
  have hlz : cz.length = z := hl cz (List.mem_of_getElem? hI)
  have hsp : css = css.take I ++ cz :: css.drop (I + 1) := by rw [← hcz]; simp
  have hset : css.set I (lput cz o us) = css.take I ++ lput cz o us :: css.drop (I + 1) := by rw [List.set_eq_take_append_cons_drop, if_pos hlt]
  have hpl : (css.take I).flatten.length = I * z := by rw [flat_len (z := z) (fun cs hc => hl cs (List.mem_of_mem_take hc)), List.length_take]; congr 1; omega
  have hll : ∀ cs ∈ css.set I (lput cz o us), cs.length = z := fun cs hc => by
    rcases List.mem_or_eq_of_mem_set hc with h | h
    · exact hl cs h
    · rw [h, lput_length]; exact hlz
  have hfl : (css.set I (lput cz o us)).flatten.length = n * z := by rw [flat_len hll, List.length_set, hn]
  refine ⟨hfl, .inr ⟨g, cap, (lput cur.toList (I * z + o) us).toArray, rfl, hg0, hup, hnc, hcm, by simpa [lput_length] using hcs, ?_⟩⟩
  have hct : cur.toList = (css.take I).flatten ++ cz ++ ((css.drop (I + 1)).flatten ++ cur.toList.drop (n * z)) := by
    have e1 : css.flatten = (css.take I).flatten ++ cz ++ (css.drop (I + 1)).flatten := by
      conv => lhs; rw [hsp]
      simp
    rw [← List.append_assoc, ← e1, ← htake, List.take_append_drop]
  rw [hct, ← hpl, lput_append_mid _ _ _ _ _ (by omega), ← List.append_assoc, ← hfl]
  rw [show (css.set I (lput cz o us)).flatten = (css.take I).flatten ++ lput cz o us ++ (css.drop (I + 1)).flatten by rw [hset]; simp]
  exact List.take_left

section
variable {G D : Nat → Prop} {w0 w : World} {L : List Ch}
theorem Mem.repl {w' : World} {M0 N : List Ch} (m : Mem G D w0 (M0 ++ L) w) (hb : UpdD (feet M0) w w') (hf : ∀ c ∈ N, ∀ b, c.foot b → (w.heap.size ≤ b ∨ feet M0 b) ∧ b < w'.heap.size) (hd : N.Pairwise fun c d => ∀ b, c.foot b → ¬ d.foot b) (hh : ∀ c ∈ N, ∀ F, c.holds F w') : Mem G D w0 (N ++ L) w' :=
  m.call hb ⟨hf, hd, fun c hc => hh c hc _⟩
theorem feet_mem {M : List Ch} {c : Ch} {b : Nat} (hc : c ∈ M) (h : c.foot b) : feet M b := ⟨c, hc, h⟩
theorem updD_refl {M : List Ch} : UpdD (feet M) w w := ⟨rfl, rfl, rfl, Nat.le_refl _, fun _ _ _ => rfl⟩
theorem updD_set {M : List Ch} {g o : Nat} {us : List Value} (h : feet M g) : UpdD (feet M) w (w.setCells g o us) := by
  obtain ⟨s1, s2, s3⟩ := setCells_rest g us o w
  exact ⟨s1, s2, s3, by rw [setCells_size]; exact Nat.le_refl _, fun b _ hb => setCells_other g _ _ _ _ (fun e => hb (by rw [e]; exact h))⟩
end
/-- the chunk's slice with all that is inside -/
def Gives {α : Type} (c : Ch) (E : DEl α) (ty : TypeId) (v : Value) (xs : List α) : Prop := ∀ F w, c.holds F w → ∃ B : List Nat, B.Nodup ∧ Dp E ty B w v xs ∧ ∀ b, b ∈ B → c.foot b
theorem gives_dp {α : Type} {E : DEl α} {ty : TypeId} {B : List Nat} {v : Value} {xs : List α} : Gives (dpCh E ty B v xs) E ty v xs := fun F w h => ⟨B, h.1, h.2, fun _ hb => hb⟩
theorem drows_flat {α : Type} {E : El α} {enc : α → List Value} {hfl : Flat E enc} {F : Nat → Prop} {w : World} : ∀ {xs : List α} {css : List (List Value)}, Rows E F w xs css → DRows (dflat E enc hfl) w xs css (List.replicate xs.length []) := fun {xs css} h => by
  induction xs generalizing css with
  | nil => cases css with
    | nil => exact DRows.nil
    | cons _ _ => exact h.elim
  | cons x xs ih => cases css with
    | nil => exact h.elim
    | cons cs css =>
      have := (DRows.one (E := dflat E enc hfl) (w := w) (x := x) (cs := cs) (C := []) ⟨rfl, (hfl _ _ _ _).1 h.1⟩).append (ih h.2)
      simpa [List.replicate_succ] using this
theorem flatten_nils (n : Nat) : (List.replicate n ([] : List Nat)).flatten = [] := by induction n with
  | zero => rfl
  | succ n ih => rw [List.replicate_succ, List.flatten_cons, ih]; rfl
theorem nodup_blkL (v : Value) : (blkL v).Nodup := by
  unfold blkL
  cases v.ownBlock <;> simp
theorem gives_own {α : Type} {E : El α} {enc : α → List Value} (hfl : Flat E enc) {ty : TypeId} {v : Value} {xs : List α} : Gives (ownCh E ty v xs) (dflat E enc hfl) ty v xs := fun F w ⟨css, h1, h2⟩ =>
  ⟨blkL v, nodup_blkL v, ⟨css, _, drows_flat h1, h2, by rw [flatten_nils, List.append_nil]⟩, fun b hb => mem_blkL.1 hb⟩
theorem reads_dp {α : Type} {E : DEl α} {ty : TypeId} {B : List Nat} {v : Value} {xs : List α} : Reads (dpCh E ty B v xs) E.el v xs := fun F w h => h.2.sl.keep (fun b hb => .inr hb) (fun _ _ => rfl)
/-- what a new element is made of -/
def Absorb {α : Type} (M : List Ch) (E : DEl α) (y : α) (cs : List Value) : Prop := ∀ F w, (∀ c ∈ M, c.holds F w) → ∃ B : List Nat, B.Nodup ∧ E.own B w y cs ∧ ∀ b, b ∈ B → feet M b
theorem absorb_one {α β : Type} {c : Ch} {E : DEl α} {E1 : DEl β} {t1 : TypeId} {v : Value} {xs : List β} {y : α} {cs : List Value} (hg : Gives c E1 t1 v xs) (h : ∀ B w, Dp E1 t1 B w v xs → E.own B w y cs) : Absorb [c] E y cs := fun F w hc => by
  obtain ⟨B, h1, h2, h3⟩ := hg F w (hc c (List.mem_cons_self ..))
  exact ⟨B, h1, h B w h2, fun b hb => ⟨c, List.mem_cons_self .., h3 b hb⟩⟩
theorem absorb_nil {α : Type} {E : DEl α} {y : α} {cs : List Value} (h : ∀ w, E.own [] w y cs) : Absorb [] E y cs := fun F w _ => ⟨[], List.nodup_nil, h w, fun b hb => by cases hb⟩
theorem holds_front {G D : Nat → Prop} {w0 w : World} {M L : List Ch} (m : Mem G D w0 (M ++ L) w) : ∀ c ∈ M, c.holds (fz G (M ++ L) w) w := fun c hc => m.hold c (List.mem_append.2 (.inl hc))

section
variable {P : Program} {n : Nat} {G D : Nat → Prop} {w0 : World} {Q : Exit → Act → World → Prop} {R : Act → World → Prop} {E : Env} {L M : List Ch} {φ : Prop}
variable {d : Tmp} {ty : TypeId} {pos : String} {aft : Array Edge} {gd : Option (Nat × Bool)} {Tk : Act → World → Prop} {Lr : List Ch} {x y : Operand} {T T' S : TypeId} {e sz by' : Nat}

/-- nil -/
theorem mem_dnil {α : Type} (E' : DEl α) (e : TypeId) {w : World} (m : Mem G D w0 L w) : Mem G D w0 (dpCh E' e [] (.slice none 0 0) [] :: L) w :=
  m.note (fun b hb => by cases hb) ⟨List.nodup_nil, Dp.nil⟩
theorem o_mvd {α : Type} (E' : DEl α) (e : TypeId) (hx : oev E x = some (.slice none 0 0)) (hd : Nat.blt d n = true) (k : Nx n G D w0 R ((d, .slice none 0 0) :: E) (dpCh E' e [] (.slice none 0 0) [] :: L) φ) : Nx n G D w0 (fun a w => Oper.wp P ⟨some d, .move x, ty, pos, aft, gd⟩ a w R Q) E L φ :=
  o_gen hd rfl fun ρ w hE hm hφ => ⟨_, w, _, φ, by simp [execOp, hE _ _ hx], mem_dnil E' e hm, hφ, k⟩
theorem o_asd {α : Type} (E' : DEl α) (e : TypeId) (hx : oev E x = some (.slice none 0 0)) (hd : Nat.blt d n = true) (k : Nx n G D w0 R ((d, .slice none 0 0) :: E) (dpCh E' e [] (.slice none 0 0) [] :: L) φ) : Nx n G D w0 (fun a w => Oper.wp P ⟨some d, .assign x, ty, pos, aft, gd⟩ a w R Q) E L φ :=
  o_gen hd rfl fun ρ w hE hm hφ => ⟨_, w, _, φ, by simp [execOp, hE _ _ hx], mem_dnil E' e hm, hφ, k⟩
/-- what is inside stands still from now on -/
theorem Mem.undp {α : Type} {E' : DEl α} {e : TypeId} {B : List Nat} {v : Value} {xs : List α} {w : World} (m : Mem G D w0 L w) (i : Nat) (hi : lget L i = some (dpCh E' e B v xs)) : Mem G D w0 (lset L i (ownCh E'.el e v xs)) w := by
  obtain ⟨hnd, css, Bs, h1, h2, h3⟩ := m.get hi
  have hmem := lget_mem hi
  refine m.upd hi rfl rfl rfl (Nat.le_refl _) (fun _ _ _ => rfl) (fun b hb => ?_) ⟨css, h1.rows (fun b hb => ?_), h2⟩
  · have hb' : b ∈ B := h3.symm.subset (List.mem_append.2 (.inl (mem_blkL.2 hb)))
    exact ⟨(m.range _ hmem b hb').1, .inl hb'⟩
  · have hb' : b ∈ B := h3.symm.subset (List.mem_append.2 (.inr hb))
    refine ⟨(m.range _ hmem b hb').1, m.fresh b (m.range _ hmem b hb').2, fun d hd => ?_⟩
    rcases mem_lset hi m.disj hd with e' | ⟨e1, e2⟩
    · subst e'
      intro hk
      have := h3.nodup_iff.1 hnd
      rw [List.nodup_append] at this
      exact this.2.2 b (mem_blkL.2 hk) b hb rfl
    · exact fun h => e2 b h hb'
theorem nx_undp {α : Type} {E' : DEl α} {e : TypeId} {B : List Nat} {v : Value} {xs : List α} (i : Nat) (hi : lget L i = some (dpCh E' e B v xs)) (h : Nx n G D w0 R E (lset L i (ownCh E'.el e v xs)) φ) : Nx n G D w0 R E L φ := fun a w hE hm hφ => h a w hE (hm.undp i hi) hφ
/-- nothing is inside -/
theorem nx_flatdp {α : Type} {El' : El α} {enc : α → List Value} {hfl : Flat El' enc} {e : TypeId} {B : List Nat} {v : Value} {xs : List α} (i : Nat) (hi : lget L i = some (dpCh (dflat El' enc hfl) e B v xs)) (h : Nx n G D w0 R E (lset L i (ownCh El' e v xs)) φ) : Nx n G D w0 R E L φ := nx_undp i hi h

theorem nx_dp {α : Type} {E' : DEl α} {e : TypeId} {B : List Nat} {v : Value} {xs : List α} (i : Nat) (hi : lget L i = some (dpCh E' e B v xs)) (h : ∀ a l c, v = .slice a l c → Nx n G D w0 R E L φ) : Nx n G D w0 R E L φ := fun a w hE hm hφ => by
  obtain ⟨_, css, Bs, _, ⟨_, hv⟩, _⟩ := hm.get hi
  rcases hv with ⟨hv, _⟩ | ⟨g, cap, cur, hv, _⟩
  · exact h _ _ _ hv a w hE hm hφ
  · exact h _ _ _ hv a w hE hm hφ
theorem o_makeD {α : Type} {E' : DEl α} {z : α} {N M : Int} {κ : List α → Prop} {zs : List Value} (hz : ∀ w, E'.own [] w z zs) (hx : oev E x = some (.int .i64 N)) (hy : oev E y = some (.int .i64 M)) (hd : Nat.blt d n = true)
    (hT : elB P T = some (e, sz, by')) (hby : Nat.ble by' 32768 = true) (hzr : zeroB P e = some zs) (hes : E'.el.size = sz)
    (k : ∀ B v xs, Nx n G D w0 R ((d, v) :: E) (dpCh E' e B v xs :: L) (κ xs)) :
    Nx n G D w0 (fun a w => Oper.wp P ⟨some d, .makeSlice T x y, ty, pos, aft, gd⟩ a w R Q) E L (makeW z N M κ) :=
  o_gen hd rfl fun ρ w hE hm hφ => by
    obtain ⟨h0, h1, h2, h3⟩ := hφ
    obtain ⟨hu, i, hi, rfl, rfl⟩ := elB_spec hT
    obtain ⟨z', hz', hzc⟩ := zeroB_spec hzr hi
    unfold lenOk at h2
    have hbl := Nat.le_of_ble_eq_true hby
    obtain ⟨M', rfl⟩ := Int.eq_ofNat_of_zero_le (show 0 ≤ M by omega)
    have hb : (i.bytes : Int) * (M' : Int) ≤ 281474976710656 := by
      have h5 : i.bytes * M' ≤ 32768 * 4294967296 := Nat.mul_le_mul hbl (by simpa using h2)
      rw [← Int.natCast_mul]
      omega
    have hr := run_make (P := P) w T e i z' hu hi hz' .i64 .i64 N M' h0 h1 hb (by simp at h2; omega)
    have hlz : zs.length = E'.el.size := E'.el.len _ _ _ _ (E'.read _ _ _ _ (hz w))
    have hpos := E'.el.pos
    rw [hzc, ← hes, ← hlz] at hr
    rw [Int.toNat_natCast] at hr h2
    refine ⟨.slice (some ⟨w.heap.size, 0, none⟩) N.toNat M', w.alloc (.cells (madeCells zs.toArray (M' * zs.length)) e), _, κ (List.replicate N.toNat z), by simp [execOp, hE _ _ hx, hE _ _ hy, hr], ?_, h3, k [w.heap.size] _ _⟩
    refine hm.add _ ((Below.refl _ _).alloc (Nat.le_refl _) _) (fun b hb => by simp [dpCh] at hb; rw [World.size_alloc]; omega) ⟨by simp, ?_⟩

    have hr := DRows.replicate (E := E') (w := w.alloc (.cells (madeCells zs.toArray (M' * zs.length)) e)) (hz _) N.toNat
    refine ⟨_, _, hr, ?_, by rw [flatten_nils]; simp [blkL, Value.ownBlock]⟩
    rw [List.length_replicate]
    refine ⟨by simp [hlz], .inr ⟨w.heap.size, M', madeCells zs.toArray (M' * zs.length), rfl, Nat.zero_le _, heap_alloc_new w _, by omega, by unfold maxLen; omega, by rw [size_madeCells, hlz], ?_⟩⟩
    rw [madeCells_flatten _ _ (by omega), ← hlz]
    have : List.replicate M' zs = List.replicate N.toNat zs ++ List.replicate (M' - N.toNat) zs := by rw [List.replicate_append_replicate]; congr 1; omega
    rw [this, List.flatten_append, List.take_left' (by simp)]
/-- a literal of one element -/
theorem o_bslD {α : Type} {E' : DEl α} {ps : Array (Nat × Operand)} {qs : List (Nat × Value)} {zs cs : List Value} (y0 : α) (hc : Absorb M E' y0 cs)
    (hq : ∀ ρ : Operand → Value, (∀ x v, oev E x = some v → ρ x = v) → (ps.map fun (i, x) => (i, ρ x)) = qs.toArray) (hd : Nat.blt d n = true)
    (hT : elB P T = some (e, sz, by')) (hzr : zeroB P e = some zs) (hes : E'.el.size = sz) (hlen : Nat.ble (1 * sz) 16777216 = true)
    (hzl : Nat.beq zs.length sz = true) (hfill' : lfill (fun i => some (i * sz, sz)) (List.replicate 1 zs).flatten qs = some cs)
    (k : ∀ B v, Nx n G D w0 R ((d, v) :: E) (dpCh E' e B v [y0] :: L) φ) :
    Nx n G D w0 (fun a w => Oper.wp P ⟨some d, .buildSlice T 1 ps, ty, pos, aft, gd⟩ a w R Q) E (M ++ L) φ :=
  o_gen hd rfl fun ρ w hE hm hφ => by
    have hp := E'.el.pos
    have hrun := bsl_run (P := P) (w := w) (qs := qs) hT hzr (by omega) hlen hzl hfill'
    obtain ⟨B, b1, b2, b3⟩ := hc _ w (holds_front hm)
    have hlt := E'.lt _ _ _ _ b2
    have hl : cs.length = sz := by rw [← hes]; exact E'.el.len _ _ _ _ (E'.read _ _ _ _ b2)
    have hle := Nat.le_of_ble_eq_true hlen
    refine ⟨.slice (some ⟨w.heap.size, 0, none⟩) 1 1, w.alloc (.cells cs.toArray e), _, φ, by simp only [execOp, hq ρ hE, Sem.run_bind, hrun]; rfl, ?_, hφ, k (w.heap.size :: B) _⟩
    refine hm.repl (M0 := M) (N := [dpCh E' e (w.heap.size :: B) (.slice (some ⟨w.heap.size, 0, none⟩) 1 1) [y0]]) ⟨rfl, rfl, rfl, by rw [World.size_alloc]; omega, fun b hb _ => heap_alloc_old w _ hb⟩ (fun c hc b hb => ?_) (List.pairwise_singleton _ _) (fun c hc F => ?_)
    · simp only [List.mem_cons, List.not_mem_nil, or_false] at hc
      subst hc
      rcases List.mem_cons.1 hb with hb | hb
      · subst hb; exact ⟨.inl (Nat.le_refl _), by rw [World.size_alloc]; omega⟩
      · exact ⟨.inr (b3 b hb), by have := hlt b hb; rw [World.size_alloc]; omega⟩
    · simp only [List.mem_cons, List.not_mem_nil, or_false] at hc
      subst hc
      refine ⟨List.nodup_cons.2 ⟨fun h => by have := hlt _ h; omega, b1⟩, [cs], [B], DRows.one (E'.keep _ _ _ _ _ (fun b hb => heap_alloc_old w _ (hlt b hb)) b2), ⟨by simp [hl, hes], .inr ⟨w.heap.size, 1, cs.toArray, rfl, Nat.zero_le _, heap_alloc_new w _, Nat.le_refl _, by decide, by simp [hl, hes], by simp [List.take_of_length_le, hl, hes]⟩⟩, by simp [blkL, Value.ownBlock]⟩
/-- a literal without elements -/
theorem o_bslD0 {α : Type} {E' : DEl α} {qs : List (Nat × Value)} {zs : List Value} {ps : Array (Nat × Operand)}
    (hq : ∀ ρ : Operand → Value, (∀ x v, oev E x = some v → ρ x = v) → (ps.map fun (i, x) => (i, ρ x)) = qs.toArray) (hd : Nat.blt d n = true)
    (hT : elB P T = some (e, sz, by')) (hzr : zeroB P e = some zs) (hes : E'.el.size = sz) 
    (hzl : Nat.beq zs.length sz = true) (hfill' : lfill (fun i => some (i * sz, sz)) (List.replicate 0 zs).flatten qs = some [])
    (k : ∀ B v, Nx n G D w0 R ((d, v) :: E) (dpCh E' e B v [] :: L) φ) :
    Nx n G D w0 (fun a w => Oper.wp P ⟨some d, .buildSlice T 0 ps, ty, pos, aft, gd⟩ a w R Q) E L φ :=
  o_gen hd rfl fun ρ w hE hm hφ => by
    have hp := E'.el.pos
    have hrun := bsl_run (P := P) (w := w) (qs := qs) (len := 0) hT hzr (by omega) (by simp) hzl hfill'
    refine ⟨.slice (some ⟨w.heap.size, 0, none⟩) 0 0, w.alloc (.cells ([] : List Value).toArray e), _, φ, by simp only [execOp, hq ρ hE, Sem.run_bind, hrun]; rfl, ?_, hφ, k [w.heap.size] _⟩
    exact hm.add _ ((Below.refl _ _).alloc (Nat.le_refl _) _) (fun b hb => by simp [dpCh] at hb; rw [World.size_alloc]; omega) ⟨by simp, [], [], DRows.nil, ⟨by simp, .inr ⟨w.heap.size, 0, #[], rfl, Nat.zero_le _, heap_alloc_new w _, Nat.le_refl _, by decide, by simp, by simp⟩⟩, by simp [blkL, Value.ownBlock]⟩
/-- append, with all that is inside -/
theorem o_appD {α : Type} {E' : DEl α} {v u : Value} {xs ys : List α} {B C : List Nat} {κ : List α → Prop} {zs : List Value}
    (hx : oev E x = some v) (hy : oev E y = some u) (hd : Nat.blt d n = true) (hT : elB P T = some (e, sz, by')) (hby : Nat.ble by' 32768 = true) (hzr : zeroB P e = some zs) (hzl : zs.length = sz) (hes : E'.el.size = sz)
    (k : ∀ B' v', Nx n G D w0 R ((d, v') :: E) (dpCh E' e B' v' (xs ++ ys) :: L) (κ (xs ++ ys))) :
    Nx n G D w0 (fun a w => Oper.wp P ⟨some d, .call { callee := .builtin .append, args := #[x, y], argTypes := #[T, T] }, ty, pos, aft, gd⟩ a w R Q) E (dpCh E' e B v xs :: dpCh E' e C u ys :: L) (appW xs ys κ) :=
  o_gen hd rfl fun ρ w hE hm hφ => by
    obtain ⟨h0, h1⟩ := hφ
    obtain ⟨hu, inf, hinf, rfl, rfl⟩ := elB_spec hT
    obtain ⟨z', hz', hzc⟩ := zeroB_spec hzr hinf
    unfold lenOk at h0
    have hbl := Nat.le_of_ble_eq_true hby
    obtain ⟨bn, css, Bs, hr, how, hB⟩ := hm.hold _ (List.mem_cons_self ..)
    obtain ⟨cn, dss, Cs, hrd, hod, hC⟩ := hm.hold (dpCh E' e C u ys) (List.mem_cons_of_mem _ (List.mem_cons_self ..))
    have hdis : ∀ b, b ∈ B → b ∉ C := fun b hb => (List.pairwise_cons.1 hm.disj).1 _ (List.mem_cons_self ..) b hb
    have hBn := hB.nodup_iff.1 bn
    have hCn := hC.nodup_iff.1 cn
    rw [List.nodup_append] at hBn hCn
    have hinB : ∀ b, b ∈ Bs.flatten → b ∈ B := fun b hb => hB.symm.subset (List.mem_append.2 (.inr hb))
    have hinC : ∀ b, b ∈ Cs.flatten → b ∈ C := fun b hb => hC.symm.subset (List.mem_append.2 (.inr hb))
    have hvB : ∀ b, v.ownBlock = some b → b ∈ B := fun b hb => hB.symm.subset (List.mem_append.2 (.inl (mem_blkL.2 hb)))
    have hlB := hr.lt
    have hlC := hrd.lt
    have hone := (hrd.rows (F := fun _ => True) (fun _ _ => trivial)).one
    have hlen := (hrd.rows (F := fun _ => True) (fun _ _ => trivial)).length
    rw [hes] at hlen
    have hsrc : ∃ a cap, u = .slice a ys.length cap ∧ ((∃ ad, a = some ad ∧ ∀ j q, dss.flatten[j]? = some q → w.cell? (ad.add j) = some q) ∨ (ys = [] ∧ a = none)) := by
      rcases hod.2 with ⟨rfl, hn⟩ | ⟨g, cap, cur, rfl, _, hg, _, _, _, ht⟩
      · have : ys = [] := List.eq_nil_of_length_eq_zero hn
        subst this
        exact ⟨none, 0, rfl, .inr ⟨rfl, rfl⟩⟩
      · refine ⟨_, cap, rfl, .inl ⟨_, rfl, fun j q hq => ?_⟩⟩
        rw [Addr.add_mid, cell_of_row w g _ cur e (0, 0) hg]
        rw [← ht, List.getElem?_take] at hq
        split at hq
        · simpa using hq
        · cases hq
    obtain ⟨a, cap, rfl, hsrc⟩ := hsrc
    rcases hsrc with ⟨ad, rfl, hcell⟩ | ⟨rfl, rfl⟩
    · obtain ⟨v', w', g1, g2, g3, _, g5⟩ := run_append_own_at (P := P) w 0 T ty e inf z' inf.size inf.bytes hu hinf hz' rfl rfl (by rw [hzc]; simpa using hzl) (by rw [← hes]; exact E'.el.pos)
        v xs.length css.flatten (by rw [← hes]; exact how) ad ys.length cap dss.flatten hlen hcell hone (by unfold maxLen; omega) (by
          have := Nat.mul_le_mul h0 hbl
          omega) (Nat.zero_le _)
      have hv' : ∀ b, v'.ownBlock = some b → v.ownBlock = some b ∨ b = w.heap.size := fun b hb => by
        rcases g5 with g5 | g5
        · exact .inl (by rw [← g5]; exact hb)
        · right; rw [hb] at g5; simpa using g5
      have hkeepB : ∀ b, b ∈ Bs.flatten → w'.heap[b]? = w.heap[b]? := fun b hb => g3.block b (hlB b hb) (fun e' => hBn.2.2 b (mem_blkL.2 e'.symm) b hb rfl)
      have hkeepC : ∀ b, b ∈ Cs.flatten → w'.heap[b]? = w.heap[b]? := fun b hb => g3.block b (hlC b hb) (fun e' => hdis b (hvB b e'.symm) (hinC b hb))
      refine ⟨v', w', _, κ (xs ++ ys), by simp [execOp, resolve, invoke, builtin, hE _ _ hx, hE _ _ hy, g1], ?_, h1, k (blkL v' ++ (Bs ++ Cs).flatten) v'⟩
      refine hm.repl (M0 := [dpCh E' e B v xs, dpCh E' e C (.slice (some ad) ys.length cap) ys]) (N := [dpCh E' e (blkL v' ++ (Bs ++ Cs).flatten) v' (xs ++ ys)])
        ⟨g3.os, g3.tape, g3.output, g3.size, fun b hb hne => g3.block b hb (fun e' => hne ⟨_, List.mem_cons_self .., hvB b e'.symm⟩)⟩ (fun c hc b hb => ?_) (List.pairwise_singleton _ _) (fun c hc F => ?_)
      · simp only [List.mem_cons, List.not_mem_nil, or_false] at hc
        subst hc
        have hb' : b ∈ blkL v' ++ (Bs ++ Cs).flatten := hb
        rw [List.flatten_append] at hb'
        have hsz := g3.size
        rcases List.mem_append.1 hb' with hb' | hb'
        · have hlt := (g2.lt b (mem_blkL.1 hb')).2
          rcases hv' b (mem_blkL.1 hb') with h | h
          · exact ⟨.inr ⟨_, List.mem_cons_self .., hvB b h⟩, hlt⟩
          · exact ⟨.inl (by omega), hlt⟩
        · rcases List.mem_append.1 hb' with hb' | hb'
          · exact ⟨.inr ⟨_, List.mem_cons_self .., hinB b hb'⟩, by have := hlB b hb'; omega⟩
          · exact ⟨.inr ⟨_, List.mem_cons_of_mem _ (List.mem_cons_self ..), hinC b hb'⟩, by have := hlC b hb'; omega⟩
      · simp only [List.mem_cons, List.not_mem_nil, or_false] at hc
        subst hc
        refine ⟨?_, css ++ dss, Bs ++ Cs, (hr.keep hkeepB).append (hrd.keep hkeepC), by rw [List.flatten_append, List.length_append, hes]; exact g2, List.Perm.refl _⟩
        rw [List.flatten_append, List.nodup_append, List.nodup_append]
        refine ⟨nodup_blkL _, ⟨hBn.2.1, hCn.2.1, fun b hb c hc e' => hdis b (hinB b hb) (by rw [e']; exact hinC c hc)⟩, fun b hb c hc e' => ?_⟩
        subst e'
        rcases hv' b (mem_blkL.1 hb) with h | h
        · rcases List.mem_append.1 hc with hc | hc
          · exact hBn.2.2 b (mem_blkL.2 h) b hc rfl
          · exact hdis b (hvB b h) (hinC b hc)
        · rcases List.mem_append.1 hc with hc | hc
          · have := hlB b hc; omega
          · have := hlC b hc; omega
    · have hrun : (Builtin.append_ #[T, T] ty #[v, .slice none 0 cap]).run P w = .ok v w := by
        rcases how.2 with ⟨rfl, hn0⟩ | ⟨g, cap', cur, rfl, _, _, hnc, _⟩
        · simp [Builtin.append_, run_underlying hu, sizeOf, typeInfo, hinf, Builtin.lenOf, Builtin.firstCells]
        · simp [Builtin.append_, run_underlying hu, sizeOf, typeInfo, hinf, Builtin.lenOf, Builtin.firstCells, hnc, storeCells]
      refine ⟨v, w, dpCh E' e B v xs :: L, κ xs, by simp [execOp, resolve, invoke, builtin, hE _ _ hx, hE _ _ hy, hrun], hm.sub ((List.sublist_cons_self _ _).cons_cons _), by simpa using h1, ?_⟩
      have := k B v
      rwa [List.append_nil] at this
/-- an element is stored, with what is inside; or a part of it -/
theorem o_stD {α : Type} {E' : DEl α} {v u : Value} {xs : List α} {B : List Nat} {I : Int} {z y' : α} {o fs : Nat} {row : Bool} (hes : E'.el.size = sz) (hz : xs[I.toNat]? = some z)
    (hc : ∀ w B cz, E'.own B w z cz → Absorb M E' y' (lput cz o u.cells.toList))
    (hT : tyB P T = some (row, fs)) (hx : oev E x = some (pEl v I sz o)) (hy : oev E y = some u) (hsz : Nat.beq u.cells.size fs = true) (h1 : u.cells.toList.all (·.oneCell') = true) (hle : Nat.ble (o + fs) sz = true)
    (k : ∀ B', Nx n G D w0 R E (dpCh E' e B' v (xs.set I.toNat y') :: L) φ) : Nx n G D w0 (fun a w => Oper.wp P ⟨none, .store T x y, ty, pos, aft, gd⟩ a w R Q) E (dpCh E' e B v xs :: (M ++ L)) φ :=
  o_skip rfl fun ρ w hE hm hφ => by
    have hlt := (List.getElem?_eq_some_iff.1 hz).1
    obtain ⟨bn, css, Bs, hr, how, hB⟩ := hm.hold _ (List.mem_cons_self ..)
    have hlc : I.toNat < css.length := by rw [hr.lc]; exact hlt
    have hlb : I.toNat < Bs.length := by rw [hr.lb]; exact hlt
    have hcI : css[I.toNat]? = some css[I.toNat] := List.getElem?_eq_getElem hlc
    have hbI : Bs[I.toNat]? = some Bs[I.toNat] := List.getElem?_eq_getElem hlb
    have hoz := hr.own _ _ _ _ hz hcI hbI
    obtain ⟨C, c1, c2, c3⟩ := hc w _ _ hoz _ w (fun c hc => hm.hold c (List.mem_cons_of_mem _ (List.mem_append.2 (.inl hc))))
    obtain ⟨g, cap, hv⟩ : ∃ g cap, v = .slice (some ⟨g, 0, none⟩) xs.length cap := by
      rcases how.2 with ⟨_, hn⟩ | ⟨g, cap, cur, hv, _⟩
      · omega
      · exact ⟨g, cap, hv⟩
    subst hv
    rw [pEl_slice] at hx
    have hzs := Nat.eq_of_beq_eq_true hsz
    have hle' := Nat.le_of_ble_eq_true hle
    have hgB : g ∈ B := hB.symm.subset (List.mem_append.2 (.inl (mem_blkL.2 rfl)))
    have hrun : (Instr.storeAt T (.pointer (some ⟨g, 0 + I.toNat * sz + o, none⟩)) u).run P w = .ok () (w.setCells g (0 + I.toNat * sz + o) u.cells.toList) := by
      rcases how.2 with ⟨h, _⟩ | ⟨g', cap', cur, h, _, hg, hnc, _, hcs, _⟩
      · cases h
      cases h
      have hb : w.heap[g]? = some (.cells cur.toList.toArray e (0, 0)) := by simpa using hg
      have hsub : I.toNat * sz + sz ≤ xs.length * sz := by rw [← Nat.succ_mul]; exact Nat.mul_le_mul_right _ hlt
      have hcap : xs.length * sz ≤ cap * sz := Nat.mul_le_mul_right _ hnc
      have hcl : cur.toList.length = cap * sz := by rw [Array.length_toList, hcs, hes]
      exact run_stv (P := P) (w := w) hT hsz h1 (b := g) (o := 0 + I.toNat * sz + o) (there_of_row hb (by rw [hzs, hcl]; omega))
    rw [Nat.zero_add] at hrun
    have how' := ownsRow_store (o := o) (us := u.cells.toList) hr.size hr.lc how hcI (by simp; omega)
    have hBn := hB.nodup_iff.1 bn
    have hdis : ∀ b, b ∈ B → ¬ feet M b := fun b hb ⟨c, hc, hcb⟩ => (List.pairwise_cons.1 hm.disj).1 c (List.mem_append.2 (.inl hc)) b hb hcb
    have hout := perm_out hbI
    have hlt2 : ∀ b, feet M b → b < w.heap.size := fun b ⟨c, hc, hcb⟩ => (hm.range c (List.mem_cons_of_mem _ (List.mem_append.2 (.inl hc))) b hcb).1
    have hall : ∀ b, b ∈ blkL (.slice (some ⟨g, 0, none⟩) xs.length cap) ++ (Bs.set I.toNat C).flatten → b ∈ B ∨ feet M b := fun b hb => by
      rcases List.mem_append.1 hb with hb | hb
      · exact .inl (hB.symm.subset (List.mem_append.2 (.inl hb)))
      · rcases List.mem_append.1 ((perm_in hlb C).subset hb) with hb | hb
        · exact .inr (c3 b hb)
        · exact .inl (hB.symm.subset (List.mem_append.2 (.inr (hout.symm.subset (List.mem_append.2 (.inr hb))))))
    have hsame : ∀ b, b ≠ g → (w.setCells g (I.toNat * sz + o) u.cells.toList).heap[b]? = w.heap[b]? := fun b hb => setCells_other g _ _ _ _ hb
    refine ⟨_, dpCh E' e (blkL (.slice (some ⟨g, 0, none⟩) xs.length cap) ++ (Bs.set I.toNat C).flatten) (.slice (some ⟨g, 0, none⟩) xs.length cap) (xs.set I.toNat y') :: L, φ, by simp [execOp, hE _ _ hx, hE _ _ hy] at hrun ⊢; rw [hrun]; rfl, ?_, hφ, k _⟩
    have hgn : ∀ b, b ∈ Bs.flatten → b ≠ g := fun b hb e' => by
      rw [List.nodup_append] at hBn
      exact hBn.2.2 g (mem_blkL.2 rfl) b hb e'.symm
    refine hm.repl (M0 := dpCh E' e B (.slice (some ⟨g, 0, none⟩) xs.length cap) xs :: M) (N := [dpCh E' e _ (.slice (some ⟨g, 0, none⟩) xs.length cap) (xs.set I.toNat y')]) (updD_set ⟨_, List.mem_cons_self .., hgB⟩) (fun c hc b hb => ?_) (List.pairwise_singleton _ _) (fun c hc F => ?_)
    · simp only [List.mem_cons, List.not_mem_nil, or_false] at hc
      subst hc
      rw [setCells_size]
      rcases hall b hb with h | h
      · exact ⟨.inr ⟨_, List.mem_cons_self .., h⟩, (hm.range _ (List.mem_cons_self ..) b h).1⟩
      · obtain ⟨c, hc, hcb⟩ := h
        exact ⟨.inr ⟨c, List.mem_cons_of_mem _ hc, hcb⟩, (hm.range c (List.mem_cons_of_mem _ (List.mem_append.2 (.inl hc))) b hcb).1⟩
    · simp only [List.mem_cons, List.not_mem_nil, or_false] at hc
      subst hc
      refine ⟨?_, css.set I.toNat (lput css[I.toNat] o u.cells.toList), Bs.set I.toNat C, ?_, ?_, List.Perm.refl _⟩
      · have := nodup_of (A := blkL (.slice (some ⟨g, 0, none⟩) xs.length cap)) (B := Bs[I.toNat]) (C := (Bs.set I.toNat []).flatten) ((List.Perm.append_left _ hout).nodup_iff.1 hBn) C c1 (fun b hb h => by
          have hbB : b ∈ B := by
            rcases List.mem_append.1 h with h | h
            · exact hB.symm.subset (List.mem_append.2 (.inl h))
            · exact hB.symm.subset (List.mem_append.2 (.inr (hout.symm.subset (List.mem_append.2 (.inr h)))))
          exact hdis b hbB (c3 b hb))
        exact (List.Perm.append_left _ (perm_in hlb C)).symm.nodup_iff.1 this
      · refine (hr.set I.toNat c2).keep (fun b hb => hsame b ?_)
        rcases List.mem_append.1 ((perm_in hlb C).subset hb) with hb | hb
        · exact fun e' => hdis g hgB (by rw [← e']; exact c3 b hb)
        · exact hgn b (hout.symm.subset (List.mem_append.2 (.inr hb)))
      · rw [List.length_set, hes] 
        rw [hes] at how'
        exact how'
/-- a part of an element is stored, what is inside stays -/
theorem o_stP {α : Type} {E' : DEl α} {v u : Value} {xs : List α} {B : List Nat} {I : Int} {z y' : α} {o fs : Nat} {row : Bool} (i : Nat) (hi : lget L i = some (dpCh E' e B v xs)) (hes : E'.el.size = sz) (hz : xs[I.toNat]? = some z)
    (hc : ∀ w B cz, E'.own B w z cz → E'.own B w y' (lput cz o u.cells.toList))
    (hT : tyB P T = some (row, fs)) (hx : oev E x = some (pEl v I sz o)) (hy : oev E y = some u) (hsz : Nat.beq u.cells.size fs = true) (h1 : u.cells.toList.all (·.oneCell') = true) (hle : Nat.ble (o + fs) sz = true)
    (k : Nx n G D w0 R E (lset L i (dpCh E' e B v (xs.set I.toNat y'))) φ) : Nx n G D w0 (fun a w => Oper.wp P ⟨none, .store T x y, ty, pos, aft, gd⟩ a w R Q) E L φ :=
  o_skip rfl fun ρ w hE hm hφ => by
    have hlt := (List.getElem?_eq_some_iff.1 hz).1
    obtain ⟨bn, css, Bs, hr, how, hB⟩ := hm.get hi
    have hlc : I.toNat < css.length := by rw [hr.lc]; exact hlt
    have hlb : I.toNat < Bs.length := by rw [hr.lb]; exact hlt
    have hcI : css[I.toNat]? = some css[I.toNat] := List.getElem?_eq_getElem hlc
    have hbI : Bs[I.toNat]? = some Bs[I.toNat] := List.getElem?_eq_getElem hlb
    have hoz := hc w _ _ (hr.own _ _ _ _ hz hcI hbI)
    obtain ⟨g, cap, hv⟩ : ∃ g cap, v = .slice (some ⟨g, 0, none⟩) xs.length cap := by
      rcases how.2 with ⟨_, hn⟩ | ⟨g, cap, cur, hv, _⟩
      · omega
      · exact ⟨g, cap, hv⟩
    subst hv
    rw [pEl_slice] at hx
    have hzs := Nat.eq_of_beq_eq_true hsz
    have hle' := Nat.le_of_ble_eq_true hle
    have hgB : g ∈ B := hB.symm.subset (List.mem_append.2 (.inl (mem_blkL.2 rfl)))
    have hrun : (Instr.storeAt T (.pointer (some ⟨g, 0 + I.toNat * sz + o, none⟩)) u).run P w = .ok () (w.setCells g (0 + I.toNat * sz + o) u.cells.toList) := by
      rcases how.2 with ⟨h, _⟩ | ⟨g', cap', cur, h, _, hg, hnc, _, hcs, _⟩
      · cases h
      cases h
      have hb : w.heap[g]? = some (.cells cur.toList.toArray e (0, 0)) := by simpa using hg
      have hsub : I.toNat * sz + sz ≤ xs.length * sz := by rw [← Nat.succ_mul]; exact Nat.mul_le_mul_right _ hlt
      have hcap : xs.length * sz ≤ cap * sz := Nat.mul_le_mul_right _ hnc
      have hcl : cur.toList.length = cap * sz := by rw [Array.length_toList, hcs, hes]
      exact run_stv (P := P) (w := w) hT hsz h1 (b := g) (o := 0 + I.toNat * sz + o) (there_of_row hb (by rw [hzs, hcl]; omega))
    rw [Nat.zero_add] at hrun
    have how' := ownsRow_store (o := o) (us := u.cells.toList) hr.size hr.lc how hcI (by simp; omega)
    have hBn := hB.nodup_iff.1 bn
    have hsame : ∀ b, b ≠ g → (w.setCells g (I.toNat * sz + o) u.cells.toList).heap[b]? = w.heap[b]? := fun b hb => setCells_other g _ _ _ _ hb
    have hgn : ∀ b, b ∈ Bs.flatten → b ≠ g := fun b hb e' => by
      rw [List.nodup_append] at hBn
      exact hBn.2.2 g (mem_blkL.2 rfl) b hb e'.symm
    obtain ⟨s1, s2, s3⟩ := setCells_rest g u.cells.toList (I.toNat * sz + o) w
    refine ⟨_, _, φ, by simp [execOp, hE _ _ hx, hE _ _ hy] at hrun ⊢; rw [hrun]; rfl, ?_, hφ, k⟩
    refine hm.upd hi s1 s2 s3 (by rw [setCells_size]; exact Nat.le_refl _) (fun x _ hx => setCells_other g _ _ _ _ (fun e => hx (by rw [e]; exact hgB))) (fun x hx => ⟨?_, .inl hx⟩) ⟨bn, css.set I.toNat (lput css[I.toNat] o u.cells.toList), Bs, ?_, ?_, hB⟩
    · rw [setCells_size]; exact (hm.range _ (lget_mem hi) x hx).1
    · have := (hr.set I.toNat hoz).keep (w' := w.setCells g (I.toNat * sz + o) u.cells.toList) (fun b hb => hsame b (hgn b (by rwa [set_same hbI] at hb)))
      rwa [set_same hbI] at this
    · rw [List.length_set, hes]
      rw [hes] at how'
      exact how'

/-! what is inside one element, taken out -/
theorem o_ldF {α β : Type} {E' : DEl α} {E1 : DEl β} {t1 : TypeId} {v : Value} {xs : List α} {B : List Nat} {I : Int} {z : α} {zin : List β} {o fs : Nat} {row : Bool} {encz : Value → List Value} (hes : E'.el.size = sz) (hz : xs[I.toNat]? = some z)
    (hop : ∀ B w cs, E'.own B w z cs → ∃ v0, cs = encz v0 ∧ Dp E1 t1 B w v0 zin) (hx : oev E x = some (pEl v I sz o)) (hd : Nat.blt d n = true) (hT : tyB P T = some (row, fs))
    (k : ∀ v0 B' C, ∃ u, ldv row o fs (encz v0) = some u ∧ Nx n G D w0 R ((d, u) :: E) (holeCh E' e B' v xs I.toNat (encz v0) :: dpCh E1 t1 C v0 zin :: L) φ) :
    Nx n G D w0 (fun a w => Oper.wp P ⟨some d, .load T x, ty, pos, aft, gd⟩ a w R Q) E (dpCh E' e B v xs :: L) φ :=
  o_gen hd rfl fun ρ w hE hm hφ => by
    have hlt := (List.getElem?_eq_some_iff.1 hz).1
    obtain ⟨bn, css, Bs, hr, how, hB⟩ := hm.hold _ (List.mem_cons_self ..)
    have hlc : I.toNat < css.length := by rw [hr.lc]; exact hlt
    have hlb : I.toNat < Bs.length := by rw [hr.lb]; exact hlt
    have hcI : css[I.toNat]? = some css[I.toNat] := List.getElem?_eq_getElem hlc
    have hbI : Bs[I.toNat]? = some Bs[I.toNat] := List.getElem?_eq_getElem hlb
    obtain ⟨v0, hv0, hdp⟩ := hop _ _ _ (hr.own _ _ _ _ hz hcI hbI)
    have hlz := hr.size _ (List.mem_of_getElem? hcI)
    obtain ⟨g, cap, hv⟩ : ∃ g cap, v = .slice (some ⟨g, 0, none⟩) xs.length cap := by
      rcases how.2 with ⟨_, hn⟩ | ⟨g, cap, cur, hv, _⟩
      · omega
      · exact ⟨g, cap, hv⟩
    subst hv
    have hBn := hB.nodup_iff.1 bn
    have hout := perm_out hbI
    obtain ⟨u, hu, hk⟩ := k v0 (blkL (.slice (some ⟨g, 0, none⟩) xs.length cap) ++ (Bs.set I.toNat []).flatten) Bs[I.toNat]
    have hrange : w.rangeAt g (0 + I.toNat * E'.el.size) css[I.toNat] := by
      have hs := (hr.rows (F := fun _ => True) (fun _ _ => trivial)).get hz
      rcases how.2 with ⟨h, _⟩ | ⟨g', cap', cur, h, _, hg, hnc, _, hcs, ht⟩
      · cases h
      cases h
      intro j q hq
      rw [cell_of_row w g _ cur e (0, 0) hg]
      have hj := (List.getElem?_eq_some_iff.1 hq).1
      have hfl : css.flatten[I.toNat * E'.el.size + j]? = some q := by
        have hsp : css = css.take I.toNat ++ css[I.toNat] :: css.drop (I.toNat + 1) := by simp
        have hpl : (css.take I.toNat).flatten.length = I.toNat * E'.el.size := by rw [flat_len (z := E'.el.size) (fun cs hc => hr.size cs (List.mem_of_mem_take hc)), List.length_take]; congr 1; omega
        rw [hsp, List.flatten_append, List.getElem?_append_right (by omega), hpl, Nat.add_sub_cancel_left, List.flatten_cons, List.getElem?_append_left (by simpa using hj)]
        simpa using hq
      rw [← ht, List.getElem?_take] at hfl
      split at hfl
      · simpa using hfl
      · cases hfl
    have hld := run_ldv (P := P) hT hrange (by rw [hv0]; exact hu)
    rw [pEl_slice, ← hes] at hx
    simp only [Nat.zero_add] at hx hld
    refine ⟨u, w, _, φ, by simp [execOp, hE _ _ hx, hld], ?_, hφ, hk⟩
    refine hm.repl (M0 := [dpCh E' e B (.slice (some ⟨g, 0, none⟩) xs.length cap) xs]) (N := [holeCh E' e _ (.slice (some ⟨g, 0, none⟩) xs.length cap) xs I.toNat (encz v0), dpCh E1 t1 Bs[I.toNat] v0 zin]) updD_refl (fun c hc b hb => ?_) ?_ (fun c hc F => ?_)
    · have hb' : b ∈ B := by
        simp only [List.mem_cons, List.not_mem_nil, or_false] at hc
        rcases hc with rfl | rfl
        · rcases List.mem_append.1 hb with hb | hb
          · exact hB.symm.subset (List.mem_append.2 (.inl hb))
          · exact hB.symm.subset (List.mem_append.2 (.inr (hout.symm.subset (List.mem_append.2 (.inr hb)))))
        · exact hB.symm.subset (List.mem_append.2 (.inr (hout.symm.subset (List.mem_append.2 (.inl hb)))))
      exact ⟨.inr ⟨_, List.mem_cons_self .., hb'⟩, (hm.range _ (List.mem_cons_self ..) b hb').1⟩
    · refine List.pairwise_cons.2 ⟨fun c hc b hb hcb => ?_, List.pairwise_singleton _ _⟩
      simp only [List.mem_cons, List.not_mem_nil, or_false] at hc
      subst hc
      have h2 := (List.Perm.append_left (blkL (.slice (some ⟨g, 0, none⟩) xs.length cap)) hout).nodup_iff.1 hBn
      simp only [List.nodup_append, List.mem_append] at h2
      rcases List.mem_append.1 hb with hb | hb
      · exact h2.2.2 b hb b (.inl hcb) rfl
      · exact h2.2.1.2.2 b hcb b hb rfl
    · simp only [List.mem_cons, List.not_mem_nil, or_false] at hc
      have h2 := (List.Perm.append_left (blkL (.slice (some ⟨g, 0, none⟩) xs.length cap)) hout).nodup_iff.1 hBn
      rcases hc with rfl | rfl
      · refine ⟨?_, css, Bs.set I.toNat [], ⟨hr.lc, by simp [hr.lb], fun i x cs C hne k1 k2 k3 => ?_, by rw [hcI, hv0], by simp [hlb], hr.size⟩, how, List.Perm.refl _⟩
        · simp only [List.nodup_append, List.mem_append] at h2 ⊢
          exact ⟨h2.1, h2.2.1.2.1, fun a ha b hb => h2.2.2 a ha b (.inr hb)⟩
        · rw [List.getElem?_set_ne (fun e => hne e.symm)] at k3
          exact hr.own i x cs C k1 k2 k3
      · refine ⟨?_, hdp⟩
        simp only [List.nodup_append, List.mem_append] at h2
        exact h2.2.1.1
/-- once more, the same cell -/
theorem o_ldH {α : Type} {E' : DEl α} {v : Value} {xs : List α} {B : List Nat} {I : Int} {o fs : Nat} {row : Bool} {cz : List Value} {u : Value} (i : Nat) (hi : lget L i = some (holeCh E' e B v xs I.toNat cz)) (hes : E'.el.size = sz) (hx : oev E x = some (pEl v I sz o)) (hd : Nat.blt d n = true) (hT : tyB P T = some (row, fs))
    (hu : ldv row o fs cz = some u) (k : Nx n G D w0 R ((d, u) :: E) L φ) :
    Nx n G D w0 (fun a w => Oper.wp P ⟨some d, .load T x, ty, pos, aft, gd⟩ a w R Q) E L φ :=
  o_gen hd rfl fun ρ w hE hm hφ => by
    obtain ⟨bn, css, Bs, hr, how, hB⟩ := hm.get hi
    have hlc := (List.getElem?_eq_some_iff.1 hr.here).1
    have hce := (List.getElem?_eq_some_iff.1 hr.here).2
    have hlx : I.toNat < xs.length := by rw [← hr.lc]; exact hlc
    have hlz := hr.size _ (List.mem_of_getElem? hr.here)
    rcases how.2 with ⟨_, hn⟩ | ⟨g, cap, cur, hv, _, hg, hnc, _, hcs, ht⟩
    · omega
    subst hv
    have hrange : w.rangeAt g (0 + I.toNat * E'.el.size) cz := by
      intro j q hq
      rw [cell_of_row w g _ cur e (0, 0) hg]
      have hj := (List.getElem?_eq_some_iff.1 hq).1
      have hfl : css.flatten[I.toNat * E'.el.size + j]? = some q := by
        have hsp : css = css.take I.toNat ++ css[I.toNat] :: css.drop (I.toNat + 1) := by simp
        have hpl : (css.take I.toNat).flatten.length = I.toNat * E'.el.size := by rw [flat_len (z := E'.el.size) (fun cs hc => hr.size cs (List.mem_of_mem_take hc)), List.length_take]; congr 1; omega
        rw [hsp, List.flatten_append, List.getElem?_append_right (by omega), hpl, Nat.add_sub_cancel_left, List.flatten_cons, List.getElem?_append_left (by rw [hce]; exact hj)]
        rw [hce]; exact hq
      rw [← ht, List.getElem?_take] at hfl
      split at hfl
      · simpa using hfl
      · cases hfl
    have hld := run_ldv (P := P) hT hrange hu
    rw [pEl_slice, ← hes] at hx
    simp only [Nat.zero_add] at hx hld
    exact ⟨u, w, _, φ, by simp [execOp, hE _ _ hx, hld], hm, hφ, k⟩
/-- put back as it lies -/
theorem nx_close {α : Type} {E' : DEl α} {v : Value} {xs : List α} {B : List Nat} {I : Nat} {cz : List Value} {y' : α} (hc : Absorb M E' y' cz) (k : ∀ B', Nx n G D w0 R E (dpCh E' e B' v (xs.set I y') :: L) φ) : Nx n G D w0 R E (holeCh E' e B v xs I cz :: (M ++ L)) φ := fun a w hE hm hφ => by
  obtain ⟨bn, css, Bs, hr, how, hB⟩ := hm.hold _ (List.mem_cons_self ..)
  obtain ⟨C, c1, c2, c3⟩ := hc _ w (fun c hc => hm.hold c (List.mem_cons_of_mem _ (List.mem_append.2 (.inl hc))))
  have hlb := (List.getElem?_eq_some_iff.1 hr.none).1
  have hBn := hB.nodup_iff.1 bn
  have hdis : ∀ b, b ∈ B → ¬ feet M b := fun b hb ⟨c, hc, hcb⟩ => (List.pairwise_cons.1 hm.disj).1 c (List.mem_append.2 (.inl hc)) b hb hcb
  have hset : Bs.set I [] = Bs := set_same hr.none
  have hpin := perm_in hlb C
  rw [hset] at hpin
  refine k (blkL v ++ (Bs.set I C).flatten) a w hE ?_ hφ
  refine hm.repl (M0 := holeCh E' e B v xs I cz :: M) (N := [dpCh E' e _ v (xs.set I y')]) updD_refl (fun c hc b hb => ?_) (List.pairwise_singleton _ _) (fun c hc F => ?_)
  · simp only [List.mem_cons, List.not_mem_nil, or_false] at hc
    subst hc
    have h : b ∈ B ∨ feet M b := by
      rcases List.mem_append.1 hb with hb | hb
      · exact .inl (hB.symm.subset (List.mem_append.2 (.inl hb)))
      · rcases List.mem_append.1 (hpin.subset hb) with hb | hb
        · exact .inr (c3 b hb)
        · exact .inl (hB.symm.subset (List.mem_append.2 (.inr hb)))
    rcases h with h | ⟨c, hc, hcb⟩
    · exact ⟨.inr ⟨_, List.mem_cons_self .., h⟩, (hm.range _ (List.mem_cons_self ..) b h).1⟩
    · exact ⟨.inr ⟨c, List.mem_cons_of_mem _ hc, hcb⟩, (hm.range c (List.mem_cons_of_mem _ (List.mem_append.2 (.inl hc))) b hcb).1⟩
  · simp only [List.mem_cons, List.not_mem_nil, or_false] at hc
    subst hc
    refine ⟨?_, css, Bs.set I C, ⟨by simp [hr.lc], by simp [hr.lb], fun i x cs D h1 h2 h3 => ?_⟩, by simpa using how, List.Perm.refl _⟩
    · refine (List.Perm.append_left _ hpin).symm.nodup_iff.1 ?_
      exact nodup_of (A := blkL v) (B := []) (C := Bs.flatten) (by simpa using hBn) C c1 (fun b hb h => hdis b (hB.symm.subset h) (c3 b hb))
    · by_cases e' : i = I
      · subst e'
        rw [hr.here] at h2
        rw [List.getElem?_set] at h1 h3
        simp only [if_true] at h1 h3
        split at h1
        · rw [if_pos hlb] at h3
          cases h1; cases h2; cases h3
          exact c2
        · cases h1
      · rw [List.getElem?_set_ne (fun e => e' e.symm)] at h1 h3
        exact hr.own i x cs D e' h1 h2 h3
/-- put back by a store of the slice -/
theorem o_stH {α : Type} {E' : DEl α} {v u : Value} {xs : List α} {B : List Nat} {I : Int} {cz : List Value} {y' : α} {o fs : Nat} {row : Bool} (hes : E'.el.size = sz) (hlen : Nat.blt I.toNat xs.length = true ∨ I.toNat < xs.length)
    (hc : Absorb M E' y' (lput cz o u.cells.toList))
    (hT : tyB P T = some (row, fs)) (hx : oev E x = some (pEl v I sz o)) (hy : oev E y = some u) (hsz : Nat.beq u.cells.size fs = true) (h1 : u.cells.toList.all (·.oneCell') = true) (hle : Nat.ble (o + fs) sz = true)
    (k : ∀ B', Nx n G D w0 R E (dpCh E' e B' v (xs.set I.toNat y') :: L) φ) : Nx n G D w0 (fun a w => Oper.wp P ⟨none, .store T x y, ty, pos, aft, gd⟩ a w R Q) E (holeCh E' e B v xs I.toNat cz :: (M ++ L)) φ :=
  o_skip rfl fun ρ w hE hm hφ => by
    obtain ⟨bn, css, Bs, hr, how, hB⟩ := hm.hold _ (List.mem_cons_self ..)
    have hlb := (List.getElem?_eq_some_iff.1 hr.none).1
    have hlt : I.toNat < xs.length := by rw [← hr.lb]; exact hlb
    obtain ⟨C, c1, c2, c3⟩ := hc _ w (fun c hc => hm.hold c (List.mem_cons_of_mem _ (List.mem_append.2 (.inl hc))))
    obtain ⟨g, cap, hv⟩ : ∃ g cap, v = .slice (some ⟨g, 0, none⟩) xs.length cap := by
      rcases how.2 with ⟨_, hn⟩ | ⟨g, cap, cur, hv, _⟩
      · omega
      · exact ⟨g, cap, hv⟩
    subst hv
    rw [pEl_slice] at hx
    have hzs := Nat.eq_of_beq_eq_true hsz
    have hle' := Nat.le_of_ble_eq_true hle
    have hgB : g ∈ B := hB.symm.subset (List.mem_append.2 (.inl (mem_blkL.2 rfl)))
    have hrun : (Instr.storeAt T (.pointer (some ⟨g, 0 + I.toNat * sz + o, none⟩)) u).run P w = .ok () (w.setCells g (0 + I.toNat * sz + o) u.cells.toList) := by
      rcases how.2 with ⟨h, _⟩ | ⟨g', cap', cur, h, _, hg, hnc, _, hcs, _⟩
      · cases h
      cases h
      have hb : w.heap[g]? = some (.cells cur.toList.toArray e (0, 0)) := by simpa using hg
      have hsub : I.toNat * sz + sz ≤ xs.length * sz := by rw [← Nat.succ_mul]; exact Nat.mul_le_mul_right _ hlt
      have hcap : xs.length * sz ≤ cap * sz := Nat.mul_le_mul_right _ hnc
      have hcl : cur.toList.length = cap * sz := by rw [Array.length_toList, hcs, hes]
      exact run_stv (P := P) (w := w) hT hsz h1 (b := g) (o := 0 + I.toNat * sz + o) (there_of_row hb (by rw [hzs, hcl]; omega))
    rw [Nat.zero_add] at hrun
    have how' := ownsRow_store (o := o) (us := u.cells.toList) hr.size hr.lc how hr.here (by simp; omega)
    have hBn := hB.nodup_iff.1 bn
    have hdis : ∀ b, b ∈ B → ¬ feet M b := fun b hb ⟨c, hc, hcb⟩ => (List.pairwise_cons.1 hm.disj).1 c (List.mem_append.2 (.inl hc)) b hb hcb
    have hset : Bs.set I.toNat [] = Bs := set_same hr.none
    have hpin := perm_in hlb C
    rw [hset] at hpin
    have hsame : ∀ b, b ≠ g → (w.setCells g (I.toNat * sz + o) u.cells.toList).heap[b]? = w.heap[b]? := fun b hb => setCells_other g _ _ _ _ hb
    have hgn : ∀ b, b ∈ Bs.flatten → b ≠ g := fun b hb e' => by
      rw [List.nodup_append] at hBn
      exact hBn.2.2 g (mem_blkL.2 rfl) b hb e'.symm
    refine ⟨_, dpCh E' e (blkL (.slice (some ⟨g, 0, none⟩) xs.length cap) ++ (Bs.set I.toNat C).flatten) (.slice (some ⟨g, 0, none⟩) xs.length cap) (xs.set I.toNat y') :: L, φ, by simp [execOp, hE _ _ hx, hE _ _ hy] at hrun ⊢; rw [hrun]; rfl, ?_, hφ, k _⟩
    refine hm.repl (M0 := holeCh E' e B (.slice (some ⟨g, 0, none⟩) xs.length cap) xs I.toNat cz :: M) (N := [dpCh E' e _ (.slice (some ⟨g, 0, none⟩) xs.length cap) (xs.set I.toNat y')]) (updD_set ⟨_, List.mem_cons_self .., hgB⟩) (fun c hc b hb => ?_) (List.pairwise_singleton _ _) (fun c hc F => ?_)
    · simp only [List.mem_cons, List.not_mem_nil, or_false] at hc
      subst hc
      rw [setCells_size]
      have h : b ∈ B ∨ feet M b := by
        rcases List.mem_append.1 hb with hb | hb
        · exact .inl (hB.symm.subset (List.mem_append.2 (.inl hb)))
        · rcases List.mem_append.1 (hpin.subset hb) with hb | hb
          · exact .inr (c3 b hb)
          · exact .inl (hB.symm.subset (List.mem_append.2 (.inr hb)))
      rcases h with h | ⟨c, hc, hcb⟩
      · exact ⟨.inr ⟨_, List.mem_cons_self .., h⟩, (hm.range _ (List.mem_cons_self ..) b h).1⟩
      · exact ⟨.inr ⟨c, List.mem_cons_of_mem _ hc, hcb⟩, (hm.range c (List.mem_cons_of_mem _ (List.mem_append.2 (.inl hc))) b hcb).1⟩
    · simp only [List.mem_cons, List.not_mem_nil, or_false] at hc
      subst hc
      refine ⟨?_, css.set I.toNat (lput cz o u.cells.toList), Bs.set I.toNat C, ⟨by simp [hr.lc], by simp [hr.lb], fun i x cs D h1 h2 h3 => ?_⟩, by rw [List.length_set, hes]; rw [hes] at how'; exact how', List.Perm.refl _⟩
      · refine (List.Perm.append_left _ hpin).symm.nodup_iff.1 ?_
        exact nodup_of (A := blkL (.slice (some ⟨g, 0, none⟩) xs.length cap)) (B := []) (C := Bs.flatten) (by simpa using hBn) C c1 (fun b hb h => hdis b (hB.symm.subset h) (c3 b hb))
      · by_cases e' : i = I.toNat
        · subst e'
          rw [List.getElem?_set] at h1 h2 h3
          simp only [if_true] at h1 h2 h3
          split at h1
          · rw [if_pos hlb] at h3
            rw [hr.lc, if_pos hlt] at h2
            cases h1; cases h2; cases h3
            exact E'.keep _ _ _ _ _ (fun b hb => hsame b (fun e' => hdis g hgB (by rw [← e']; exact c3 b hb))) c2
          · rename_i hno; exact absurd hlt hno
        · rw [List.getElem?_set_ne (fun e => e' e.symm)] at h1 h2 h3
          exact E'.keep _ _ _ _ _ (fun b hb => hsame b (hgn b (List.mem_flatten.2 ⟨D, List.mem_of_getElem? h3, hb⟩))) (hr.own i x cs D e' h1 h2 h3)
end
end Go.Proofs.YtnogaeckmiekdaaDoor
