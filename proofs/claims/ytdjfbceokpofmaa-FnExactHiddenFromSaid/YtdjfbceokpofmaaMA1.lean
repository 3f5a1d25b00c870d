/- Texts of this seat, put together. -/
import Derived.Test.YtdjfbceokpofmaaMA0
import Derived.MapKept
import Derived.Laws.BytesString
import Derived.Laws.Cells
set_option linter.unusedSimpArgs false
set_option linter.unusedVariables false
set_option linter.unusedSectionVars false
namespace Go.Proofs.Ytdjfbceokpofmaa
section

open Go.RowKit

section
variable {P : Program} {n : Nat} {G D : Nat → Prop} {w0 : World} {Q : Exit → Act → World → Prop} {R : Act → World → Prop} {E : Env} {L : List Ch} {φ : Prop}
variable {d : Tmp} {ty : TypeId} {pos : String} {aft : Array Edge} {gd : Option (Nat × Bool)} {Tk : Act → World → Prop} {Lr : List Ch} {x y : Operand} {T T' S : TypeId}

/-! arrays are built -/
end

end
section

open Go.RowKit

section
variable {K : Type} [DecidableEq K]
end
abbrev ent {K : Type} (enc : K → List Value) (p : K × Int) : Value × Value := (.agg (enc p.1).toArray, .int .i64 p.2)
abbrev kv (e : MapEntry) : Value × Value := (e.key, e.val)
/-- the value reads as this map -/
def Mp {K : Type} (enc : K → List Value) (F : Nat → Prop) (w : World) (v : Value) (m : List (K × Int)) : Prop :=
  (v = .map none ∧ m = []) ∨ ∃ b es clock, v = .map (some b) ∧ F b ∧ w.heap[b]? = some (.map es clock) ∧ es.toList.map kv = m.map (ent enc)
theorem Mp.keep {K : Type} {enc : K → List Value} {F F' : Nat → Prop} {w w' : World} {v : Value} {m : List (K × Int)} (h : Mp enc F w v m) (hF : ∀ b, F b → F' b) (hb : ∀ b, F b → w'.heap[b]? = w.heap[b]?) : Mp enc F' w' v m := by
  rcases h with h | ⟨b, es, cl, h1, h2, h3, h4⟩
  · exact .inl h
  · exact .inr ⟨b, es, cl, h1, hF b h2, (hb b h2).trans h3, h4⟩
theorem Mp.nil {K : Type} (enc : K → List Value) (F : Nat → Prop) (w : World) : Mp enc F w (.map none) [] := .inl ⟨rfl, rfl⟩
def MReads {K : Type} (c : Ch) (enc : K → List Value) (v : Value) (m : List (K × Int)) : Prop := ∀ F w, c.holds F w → Mp enc (fun b => F b ∨ c.foot b) w v m
section
variable {K : Type} {enc : K → List Value} {G D : Nat → Prop} {w0 w : World} {v : Value} {xs : List (K × Int)} {c : Ch} {L : List Ch}
theorem Mem.mrdM {M0 L' : List Ch} (m : Mem G D w0 (M0 ++ L') w) (i : Nat) (hi : lget L' i = some c) (hc : MReads c enc v xs) : Mp enc (fun b => b < w.heap.size ∧ ¬ feet M0 b) w v xs := by
  have hmem : c ∈ M0 ++ L' := List.mem_append.2 (.inr (lget_mem hi))
  refine (hc _ _ (m.hold c hmem)).keep (fun b hb => ?_) (fun _ _ => rfl)
  rcases hb with hb | hb
  · exact ⟨hb.1, fun ⟨d, hd, h⟩ => hb.2.2 d (List.mem_append.2 (.inl hd)) h⟩
  · exact ⟨(m.range c hmem b hb).1, fun ⟨d, hd, h⟩ => (List.pairwise_append.1 m.disj).2.2 d hd c (lget_mem hi) b h hb⟩
theorem Mem.mrd0 (m : Mem G D w0 L w) (i : Nat) (hi : lget L i = some c) (hc : MReads c enc v xs) : Mp enc (fun b => b < w.heap.size ∧ ¬ feet [] b) w v xs :=
  Mem.mrdM (M0 := []) m i hi hc
end

section
variable {P : Program} {n : Nat} {G D : Nat → Prop} {w0 : World} {Q : Exit → Act → World → Prop} {R : Act → World → Prop} {E : Env} {L : List Ch} {φ : Prop}
variable {d : Tmp} {ty : TypeId} {pos : String} {aft : Array Edge} {gd : Option (Nat × Bool)} {Tk : Act → World → Prop} {Lr : List Ch} {x y z : Operand} {T T' S : TypeId}
variable {K : Type} [DecidableEq K] {enc : K → List Value}

/-! the end of a function with four results -/
end

end
section

open Go.RowKit

/-! the pure side -/
section
variable {P : Program} {n : Nat} {G D : Nat → Prop} {w0 : World} {Q : Exit → Act → World → Prop} {R : Act → World → Prop} {E : Env} {L : List Ch} {φ : Prop}
variable {d : Tmp} {ty : TypeId} {pos : String} {aft : Array Edge} {gd : Option (Nat × Bool)} {Tk : Act → World → Prop} {Lr : List Ch} {x y : Operand} {T T' S : TypeId}

/-! one of two conditions -/
/-! a byte of an int -/
/-! bit operations, as values -/
theorem o_and (M : Mode P n G D w0 E ⟨some d, .binOp .and T x y T', ty, pos, aft, gd⟩ Tk R Lr L) {X Y : Int} (hx : oev E x = some (.int .i64 X)) (hy : oev E y = some (.int .i64 Y)) (hd : Nat.blt d n = true) (k : Nx n G D w0 R ((d, .int .i64 (bits .and .i64 X Y)) :: E) L φ) : Nx n G D w0 Tk E L φ :=
  M.val hd rfl (fun ρ w hE _ _ => by simp [execOp, hE _ _ hx, hE _ _ hy, go_sem]) id k
theorem o_or (M : Mode P n G D w0 E ⟨some d, .binOp .or T x y T', ty, pos, aft, gd⟩ Tk R Lr L) {X Y : Int} (hx : oev E x = some (.int .i64 X)) (hy : oev E y = some (.int .i64 Y)) (hd : Nat.blt d n = true) (k : Nx n G D w0 R ((d, .int .i64 (bits .or .i64 X Y)) :: E) L φ) : Nx n G D w0 Tk E L φ :=
  M.val hd rfl (fun ρ w hE _ _ => by simp [execOp, hE _ _ hx, hE _ _ hy, go_sem]) id k
/-! bytes to a string -/
end

end
section

open Go.RowKit

/-- what stood still when it was taken: F0 of the world wr -/
def snapCh (wr : World) (F0 : Nat → Prop) : Ch where
  foot := fun _ => False
  holds := fun F w => (∀ b, F0 b → F b) ∧ ∀ b, F0 b → w.heap[b]? = wr.heap[b]?
  keep := fun F F' w w' hF hb h => ⟨fun b hb0 => hF b (h.1 b hb0), fun b hb0 => (hb b (.inl (h.1 b hb0))).trans (h.2 b hb0)⟩
theorem Sl.one {α : Type} {E : El α} {F : Nat → Prop} {w : World} {v : Value} {xs : List α} (h : Sl E F w v xs) : v.oneCell' = true := by
  obtain ⟨a, cap, rfl, _⟩ := h
  rfl
section
variable {α : Type} {E' : El α} {wr w : World} {F0 F : Nat → Prop} {v : Value} {xs : List α} {G D : Nat → Prop} {w0 : World} {L : List Ch}
theorem reads_snap (S : Sl E' F0 wr v xs) : Reads (snapCh wr F0) E' v xs := fun F w h => S.keep (fun b hb => .inl (h.1 b hb)) h.2
theorem Sl.of (S : Sl E' F0 wr v xs) (h : (snapCh wr F0).holds F w) : Sl E' F w v xs := S.keep h.1 h.2
theorem Mem.roS (m : Mem G D w0 L w) (i : Nat) (hi : lget L i = some (snapCh wr F0)) (S : Sl E' F0 wr v xs) : Sl E' (fz G L w) w v xs := S.of (m.get hi)
/-- a slice that stands still as a chunk of its own -/
theorem Mem.snote (m : Mem G D w0 L w) (i : Nat) (hi : lget L i = some (snapCh wr F0)) (S : Sl E' F0 wr v xs) : Mem G D w0 (roCh E' v xs :: L) w := m.note (fun b hb => hb) (m.roS i hi S)

/-- nothing hangs on memory: whatever may be read will do -/
theorem src_flat {enc : α → List Value} {c : Ch} (hfl : Flat E' enc) (h : Reads c E' v xs) : Src c E' v xs := fun F w hc => by
  obtain ⟨a, cap, h1, h2, h3⟩ := h F w hc
  refine ⟨a, cap, h1, h2, fun h0 => ?_⟩
  obtain ⟨b, off, k1, k2, k3⟩ := h3 h0
  exact ⟨b, off, k1, k2, fun i x hi => by
    obtain ⟨cs, c1, c2⟩ := k3 i x hi
    exact ⟨cs, hfl.free _ _ _ _ _ _ c1, c2⟩⟩
end

section
variable {P : Program} {n : Nat} {G D : Nat → Prop} {w0 : World} {Q : Exit → Act → World → Prop} {R : Act → World → Prop} {E : Env} {L : List Ch} {φ : Prop}
variable {d : Tmp} {ty : TypeId} {pos : String} {aft : Array Edge} {gd : Option (Nat × Bool)} {Tk : Act → World → Prop} {Lr : List Ch} {x y : Operand} {T T' S : TypeId} {e sz by' : Nat}

end

end
section

open Go.RowKit

/-- elements that own the blocks B -/
structure DEl (α : Type) where
  el : El α
  own : List Nat → World → α → List Value → Prop
  read : ∀ B w x cs, own B w x cs → el.cells (fun b => b ∈ B) w x cs
  keep : ∀ B w w' x cs, (∀ b, b ∈ B → w'.heap[b]? = w.heap[b]?) → own B w x cs → own B w' x cs
  lt : ∀ B w x cs, own B w x cs → ∀ b, b ∈ B → b < w.heap.size
def blkL (v : Value) : List Nat := v.ownBlock.toList
theorem mem_blkL {v : Value} {b : Nat} : b ∈ blkL v ↔ v.ownBlock = some b := by simp [blkL]
structure DRows {α : Type} (E : DEl α) (w : World) (xs : List α) (css : List (List Value)) (Bs : List (List Nat)) : Prop where
  lc : css.length = xs.length
  lb : Bs.length = xs.length
  own : ∀ (i : Nat) x cs B, xs[i]? = some x → css[i]? = some cs → Bs[i]? = some B → E.own B w x cs
def Dp {α : Type} (E : DEl α) (ty : TypeId) (B : List Nat) (w : World) (v : Value) (xs : List α) : Prop :=
  ∃ css Bs, DRows E w xs css Bs ∧ w.ownsRow 0 ty E.el.size v xs.length css.flatten ∧ B.Perm (blkL v ++ Bs.flatten)

section
variable {α : Type} {E : DEl α} {w w' : World} {xs ys : List α} {css dss : List (List Value)} {Bs Cs : List (List Nat)} {ty : TypeId} {B : List Nat} {v : Value}
theorem DRows.mem (h : DRows E w xs css Bs) {b : Nat} (hb : b ∈ Bs.flatten) : ∃ (i : Nat) (x : α) (cs : List Value) (B : List Nat), xs[i]? = some x ∧ css[i]? = some cs ∧ Bs[i]? = some B ∧ b ∈ B ∧ E.own B w x cs := by
  obtain ⟨C, hC, hbC⟩ := List.mem_flatten.1 hb
  obtain ⟨i, hi, e⟩ := List.getElem_of_mem hC
  have h1 : i < xs.length := by rw [← h.lb]; exact hi
  have h2 : i < css.length := by rw [h.lc]; exact h1
  refine ⟨i, xs[i], css[i], C, List.getElem?_eq_getElem h1, List.getElem?_eq_getElem h2, by rw [List.getElem?_eq_getElem hi, e], hbC, ?_⟩
  exact h.own i _ _ _ (List.getElem?_eq_getElem h1) (List.getElem?_eq_getElem h2) (by rw [List.getElem?_eq_getElem hi, e])
theorem DRows.lt (h : DRows E w xs css Bs) : ∀ b, b ∈ Bs.flatten → b < w.heap.size := fun b hb => by
  obtain ⟨i, x, cs, C, _, _, _, hbC, ho⟩ := h.mem hb
  exact E.lt _ _ _ _ ho b hbC
theorem DRows.keep (h : DRows E w xs css Bs) (hk : ∀ b, b ∈ Bs.flatten → w'.heap[b]? = w.heap[b]?) : DRows E w' xs css Bs :=
  ⟨h.lc, h.lb, fun i x cs C h1 h2 h3 => E.keep _ _ _ _ _ (fun b hb => hk b (List.mem_flatten.2 ⟨C, List.mem_of_getElem? h3, hb⟩)) (h.own i x cs C h1 h2 h3)⟩
theorem DRows.nil : DRows E w [] [] [] := ⟨rfl, rfl, fun i x cs C h => by simp at h⟩
theorem DRows.one {x : α} {cs : List Value} {C : List Nat} (h : E.own C w x cs) : DRows E w [x] [cs] [C] := ⟨rfl, rfl, fun i y ds D h1 h2 h3 => by
  cases i with
  | zero => simp at h1 h2 h3; subst h1 h2 h3; exact h
  | succ i => simp at h1⟩
theorem DRows.append (h : DRows E w xs css Bs) (k : DRows E w ys dss Cs) : DRows E w (xs ++ ys) (css ++ dss) (Bs ++ Cs) :=
  ⟨by simp [h.lc, k.lc], by simp [h.lb, k.lb], fun i x cs C h1 h2 h3 => by
    have e1 := h.lc
    have e2 := h.lb
    by_cases hi : i < xs.length
    · rw [List.getElem?_append_left (by omega)] at h1 h2 h3
      exact h.own i x cs C h1 h2 h3
    · rw [List.getElem?_append_right (by omega)] at h1 h2 h3
      rw [e1] at h2
      rw [e2] at h3
      exact k.own _ x cs C h1 h2 h3⟩
theorem DRows.replicate {z : α} {zs : List Value} (h : E.own [] w z zs) (n : Nat) : DRows E w (List.replicate n z) (List.replicate n zs) (List.replicate n []) :=
  ⟨by simp, by simp, fun i x cs C h1 h2 h3 => by
    rw [List.getElem?_replicate] at h1 h2 h3
    split at h1
    · rename_i hi
      rw [if_pos hi] at h2 h3
      cases h1; cases h2; cases h3
      exact h
    · cases h1⟩
theorem DRows.set (h : DRows E w xs css Bs) (I : Nat) {y : α} {ds : List Value} {C : List Nat} (hy : E.own C w y ds) : DRows E w (xs.set I y) (css.set I ds) (Bs.set I C) :=
  ⟨by simp [h.lc], by simp [h.lb], fun i x cs D h1 h2 h3 => by
    rw [List.getElem?_set] at h1 h2 h3
    by_cases e : I = i
    · subst e
      simp only [if_true] at h1 h2 h3
      split at h1
      · rename_i hl
        rw [h.lc, if_pos hl] at h2
        rw [h.lb, if_pos hl] at h3
        cases h1; cases h2; cases h3
        exact hy
      · cases h1
    · rw [if_neg e] at h1 h2 h3
      exact h.own i x cs D h1 h2 h3⟩
theorem rows_at : ∀ {xs : List α} {css : List (List Value)} {F : Nat → Prop} {E : El α}, css.length = xs.length → (∀ (i : Nat) x cs, xs[i]? = some x → css[i]? = some cs → E.cells F w x cs) → Rows E F w xs css
  | [], [], _, _, _, _ => trivial
  | x :: xs, cs :: css, _, _, hl, h => ⟨h 0 x cs rfl rfl, rows_at (by simpa using hl) (fun i y ds h1 h2 => h (i + 1) y ds (by simpa using h1) (by simpa using h2))⟩
  | [], _ :: _, _, _, hl, _ => by simp at hl
  | _ :: _, [], _, _, hl, _ => by simp at hl
theorem DRows.rows {F : Nat → Prop} (h : DRows E w xs css Bs) (hF : ∀ b, b ∈ Bs.flatten → F b) : Rows E.el F w xs css := rows_at h.lc (fun i x cs h1 h2 => by
  have hi := (List.getElem?_eq_some_iff.1 h1).1
  have h3 : Bs[i]? = some (Bs[i]'(by rw [h.lb]; exact hi)) := List.getElem?_eq_getElem _
  exact E.el.keep _ _ w w x cs (fun b hb => hF b (List.mem_flatten.2 ⟨_, List.mem_of_getElem? h3, hb⟩)) (fun _ _ => rfl) (E.read _ _ _ _ (h.own i x cs _ h1 h2 h3)))
theorem DRows.size (h : DRows E w xs css Bs) : ∀ cs ∈ css, cs.length = E.el.size := fun cs hc => by
  obtain ⟨i, hi, e⟩ := List.getElem_of_mem hc
  have h1 : i < xs.length := by rw [← h.lc]; exact hi
  have h3 : i < Bs.length := by rw [h.lb]; exact h1
  exact E.el.len _ _ _ _ (E.read _ _ _ _ (h.own i _ cs _ (List.getElem?_eq_getElem h1) (by rw [List.getElem?_eq_getElem hi, e]) (List.getElem?_eq_getElem h3)))
theorem Dp.own {F : Nat → Prop} (h : Dp E ty B w v xs) (hF : ∀ b, b ∈ B → F b) : Own E.el ty F w v xs := by
  obtain ⟨css, Bs, h1, h2, h3⟩ := h
  exact ⟨css, h1.rows (fun b hb => hF b (h3.symm.subset (List.mem_append.2 (.inr hb)))), h2⟩
theorem Dp.blk (h : Dp E ty B w v xs) : ∀ b, v.ownBlock = some b → b ∈ B := fun b hb => by
  obtain ⟨css, Bs, h1, h2, h3⟩ := h
  exact h3.symm.subset (List.mem_append.2 (.inl (mem_blkL.2 hb)))
theorem Dp.lt (h : Dp E ty B w v xs) : ∀ b, b ∈ B → b < w.heap.size := fun b hb => by
  obtain ⟨css, Bs, h1, h2, h3⟩ := h
  rcases List.mem_append.1 (h3.subset hb) with hb | hb
  · exact (h2.lt b (mem_blkL.1 hb)).2
  · exact h1.lt b hb
theorem Dp.keep (h : Dp E ty B w v xs) (hk : ∀ b, b ∈ B → w'.heap[b]? = w.heap[b]?) : Dp E ty B w' v xs := by
  obtain ⟨css, Bs, h1, h2, h3⟩ := h
  exact ⟨css, Bs, h1.keep (fun b hb => hk b (h3.symm.subset (List.mem_append.2 (.inr hb)))), ownsRow_keep h2 (fun b hb => hk b (h3.symm.subset (List.mem_append.2 (.inl (mem_blkL.2 hb))))), h3⟩
theorem Dp.nil : Dp E ty [] w (.slice none 0 0) [] := ⟨[], [], DRows.nil, World.ownsRow_nil .., by simp [blkL, Value.ownBlock]⟩
theorem Dp.sl (h : Dp E ty B w v xs) : Sl E.el (fun b => b ∈ B) w v xs := (h.own (F := fun b => b ∈ B) (fun b hb => hb)).sl (fun b hb => hb) (fun b hb => h.blk b hb)
end

/-! elements -/
def dflat {α : Type} (E : El α) (enc : α → List Value) (hfl : Flat E enc) : DEl α where
  el := E
  own := fun B w x cs => B = [] ∧ cs = enc x
  read := fun B w x cs h => (hfl _ _ _ _).2 h.2
  keep := fun B w w' x cs _ h => h
  lt := fun B w x cs h b hb => by rw [h.1] at hb; cases hb
def dpCh {α : Type} (E : DEl α) (ty : TypeId) (B : List Nat) (v : Value) (xs : List α) : Ch where
  foot := fun b => b ∈ B
  holds := fun _ w => B.Nodup ∧ Dp E ty B w v xs
  keep := fun _ _ _ _ _ hb h => ⟨h.1, h.2.keep (fun b hb' => hb b (.inr hb'))⟩
/-- but for what is inside of element I, whose cells are cs -/
structure HRows {α : Type} (E : DEl α) (w : World) (xs : List α) (css : List (List Value)) (Bs : List (List Nat)) (I : Nat) (cz : List Value) : Prop where
  lc : css.length = xs.length
  lb : Bs.length = xs.length
  own : ∀ (i : Nat) x cs B, i ≠ I → xs[i]? = some x → css[i]? = some cs → Bs[i]? = some B → E.own B w x cs
  here : css[I]? = some cz
  none : Bs[I]? = some []
  size : ∀ cs ∈ css, cs.length = E.el.size
theorem HRows.lt {α : Type} {E : DEl α} {w : World} {xs : List α} {css : List (List Value)} {Bs : List (List Nat)} {I : Nat} {cz : List Value} (h : HRows E w xs css Bs I cz) : ∀ b, b ∈ Bs.flatten → b < w.heap.size := fun b hb => by
  obtain ⟨C, hC, hbC⟩ := List.mem_flatten.1 hb
  obtain ⟨i, hi, e⟩ := List.getElem_of_mem hC
  have h1 : i < xs.length := by rw [← h.lb]; exact hi
  have h2 : i < css.length := by rw [h.lc]; exact h1
  have hC' : Bs[i]? = some C := by rw [List.getElem?_eq_getElem hi, e]
  by_cases hI : i = I
  · subst hI; rw [h.none] at hC'; cases hC'; cases hbC
  · exact E.lt _ _ _ _ (h.own i _ _ _ hI (List.getElem?_eq_getElem h1) (List.getElem?_eq_getElem h2) hC') b hbC
/-! lists of blocks -/
section
variable {G D : Nat → Prop} {w0 w : World} {L : List Ch}
theorem Mem.repl {w' : World} {M0 N : List Ch} (m : Mem G D w0 (M0 ++ L) w) (hb : UpdD (feet M0) w w') (hf : ∀ c ∈ N, ∀ b, c.foot b → (w.heap.size ≤ b ∨ feet M0 b) ∧ b < w'.heap.size) (hd : N.Pairwise fun c d => ∀ b, c.foot b → ¬ d.foot b) (hh : ∀ c ∈ N, ∀ F, c.holds F w') : Mem G D w0 (N ++ L) w' :=
  m.call hb ⟨hf, hd, fun c hc => hh c hc _⟩
end
section
variable {P : Program} {n : Nat} {G D : Nat → Prop} {w0 : World} {Q : Exit → Act → World → Prop} {R : Act → World → Prop} {E : Env} {L M : List Ch} {φ : Prop}
variable {d : Tmp} {ty : TypeId} {pos : String} {aft : Array Edge} {gd : Option (Nat × Bool)} {Tk : Act → World → Prop} {Lr : List Ch} {x y : Operand} {T T' S : TypeId} {e sz by' : Nat}

/-- what is inside stands still from now on -/
theorem Mem.undp {α : Type} {E' : DEl α} {e : TypeId} {B : List Nat} {v : Value} {xs : List α} {w : World} (m : Mem G D w0 L w) (i : Nat) (hi : lget L i = some (dpCh E' e B v xs)) : Mem G D w0 (lset L i (ownCh E'.el e v xs)) w := by
  obtain ⟨hnd, css, Bs, h1, h2, h3⟩ := m.get hi
  have hmem := lget_mem hi
  refine m.upd hi rfl rfl rfl (Nat.le_refl _) (fun _ _ _ => rfl) (fun b hb => ?_) ⟨css, h1.rows (fun b hb => ?_), h2⟩
  · have hb' : b ∈ B := h3.symm.subset (List.mem_append.2 (.inl (mem_blkL.2 hb)))
    exact ⟨(m.range _ hmem b hb').1, .inl hb'⟩
  · have hb' : b ∈ B := h3.symm.subset (List.mem_append.2 (.inr hb))
    refine ⟨(m.range _ hmem b hb').1, m.fresh b (m.range _ hmem b hb').2, fun d hd => ?_⟩
    rcases mem_lset hi m.disj hd with e' | ⟨e1, e2⟩
    · subst e'
      intro hk
      have := h3.nodup_iff.1 hnd
      rw [List.nodup_append] at this
      exact this.2.2 b (mem_blkL.2 hk) b hb rfl
    · exact fun h => e2 b h hb'
/-! what is inside one element, taken out -/
end

end
section

open Go.RowKit

section
variable {P : Program} {n : Nat} {G D : Nat → Prop} {w0 : World} {Q : Exit → Act → World → Prop} {R : Act → World → Prop} {E : Env} {L M : List Ch} {φ : Prop}
variable {d : Tmp} {ty : TypeId} {pos : String} {aft : Array Edge} {gd : Option (Nat × Bool)} {Tk : Act → World → Prop} {Lr : List Ch} {x y : Operand} {T T' S : TypeId} {e sz by' : Nat}
/-- the beginning, with a snapshot of all that may be read -/
theorem enterS {F : Nat → Prop} {f : Nat} {fn : Func} {c : Code} {args : List Value} {K : Ending → World → Prop} (M0 : List Ch) (hF : ∀ b, F b → b < w0.heap.size ∧ ¬ feet M0 b) (hg : Given M0 F w0) (hf : P.funcs[f]? = some fn) (hb : fn.body = some c) (hn : fn.ntmps = n) (hle : Nat.ble args.length n = true)
    (hφ : φ) (h : Nx n (gB F M0 w0) (feet M0) w0 (c.wp P (bodyPost P fn K)) (eargs 0 args) (M0 ++ [snapCh w0 F]) φ) : Calls P f args.toArray w0 K :=
  enterB M0 hF hf hb hn hle [snapCh w0 F] (fun c hc b h => by simp only [List.mem_cons, List.not_mem_nil, or_false] at hc; subst hc; exact h) (fun c hc => by simp only [List.mem_cons, List.not_mem_nil, or_false] at hc; subst hc; exact ⟨fun _ h => h, fun _ _ => rfl⟩) hg.lt hg.disj hg.hold hφ h
theorem enter0 {F : Nat → Prop} {f : Nat} {fn : Func} {c : Code} {args : List Value} {K : Ending → World → Prop} (M0 : List Ch) (hF : ∀ b, F b → b < w0.heap.size ∧ ¬ feet M0 b) (hg : Given M0 F w0) (hf : P.funcs[f]? = some fn) (hb : fn.body = some c) (hn : fn.ntmps = n) (hle : Nat.ble args.length n = true)
    (hφ : φ) (h : Nx n (gB F M0 w0) (feet M0) w0 (c.wp P (bodyPost P fn K)) (eargs 0 args) (M0 ++ []) φ) : Calls P f args.toArray w0 K :=
  enterB M0 hF hf hb hn hle [] (fun c hc b h => by simp at hc) (fun c hc => by simp at hc) hg.lt hg.disj hg.hold hφ h
theorem Mem.dup {α : Type} {El' : El α} {v : Value} {xs : List α} {w : World} (m : Mem G D w0 L w) (i : Nat) (hi : lget L i = some (roCh El' v xs)) : Mem G D w0 (roCh El' v xs :: L) w := m.note (fun b hb => hb) (m.get hi)
/-! nil -/
/-! arrays in memory -/
end

end
section

open Go.RowKit

def SlAll {α : Type} (E : El α) (F : Nat → Prop) (w : World) : List Value → List (List α) → Prop
  | [], [] => True
  | v :: vs, x :: xs => Sl E F w v x ∧ SlAll E F w vs xs
  | _, _ => False
theorem SlAll.get {α : Type} {E : El α} {F : Nat → Prop} {w : World} : ∀ {vs : List Value} {xs : List (List α)}, SlAll E F w vs xs → ∀ {i : Nat} {z : List α}, xs[i]? = some z → ∃ v, vs[i]? = some v ∧ Sl E F w v z
  | [], [], _, i, z, h => by simp at h
  | v :: vs, x :: xs, h, 0, z, hz => by simp at hz; subst hz; exact ⟨v, rfl, h.1⟩
  | v :: vs, x :: xs, h, i + 1, z, hz => by simpa using SlAll.get h.2 (by simpa using hz)
  | [], _ :: _, h, _, _, _ => h.elim
  | _ :: _, [], h, _, _, _ => h.elim

section
variable {P : Program} {n : Nat} {G D : Nat → Prop} {w0 : World} {Q : Exit → Act → World → Prop} {R : Act → World → Prop} {E : Env} {L M : List Ch} {φ : Prop}
variable {d : Tmp} {ty : TypeId} {pos : String} {aft : Array Edge} {gd : Option (Nat × Bool)} {Tk : Act → World → Prop} {Lr : List Ch} {x y : Operand} {T T' S : TypeId} {e sz by' : Nat} {dst : Option Tmp} {at' : Array TypeId}
end

end

end Go.Proofs.Ytdjfbceokpofmaa
