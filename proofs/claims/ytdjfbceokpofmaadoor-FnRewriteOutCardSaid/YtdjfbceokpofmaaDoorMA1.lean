/- Texts of this seat, put together. -/
import Derived.Test.YtdjfbceokpofmaaDoorMA0
import Derived.MapKept
import Derived.Laws.BytesString
import Derived.Laws.Cells
set_option linter.unusedSimpArgs false
set_option linter.unusedVariables false
set_option linter.unusedSectionVars false
namespace Go.Proofs.YtdjfbceokpofmaaDoor
section

open Go.RowKit

def arrB (P : Program) (T : TypeId) : Option (Nat × TypeId × Bool × Nat) :=
  match P.underlying T with
  | some (.array len e) => match tyB P e with
    | some (r, s) => some (len, e, r, s)
    | none => none
  | _ => none
section
variable {P : Program} {n : Nat} {G D : Nat → Prop} {w0 : World} {Q : Exit → Act → World → Prop} {R : Act → World → Prop} {E : Env} {L : List Ch} {φ : Prop}
variable {d : Tmp} {ty : TypeId} {pos : String} {aft : Array Edge} {gd : Option (Nat × Bool)} {Tk : Act → World → Prop} {Lr : List Ch} {x y : Operand} {T T' S : TypeId}

theorem arr_of {len : Nat} {e : TypeId} {row : Bool} {sz : Nat} (h : arrB P T = some (len, e, row, sz)) : P.underlying T = some (.array len e) ∧ tyB P e = some (row, sz) := by
  unfold arrB at h
  split at h
  · rename_i l e' hu
    split at h
    · rename_i r s ht
      simp at h
      obtain ⟨rfl, rfl, rfl, rfl⟩ := h
      exact ⟨hu, ht⟩
    · simp at h
  · simp at h
theorem info_sz {row : Bool} {sz : Nat} (hT : tyB P T = some (row, sz)) : ∃ i, P.info? T = some i ∧ i.size = sz := by
  have := info_of hT
  cases hq : P.info? T with
  | none => simp [hq] at this
  | some i => exact ⟨i, rfl, by simpa [hq] using this⟩
theorem run_partv {w : World} {row : Bool} {sz o : Nat} {cs : List Value} {v : Value} (hT : tyB P T = some (row, sz)) (hv : ldv row o sz cs = some v) : (part T cs.toArray o).run P w = .ok v w := by
  obtain ⟨i, hq, hi⟩ := info_sz hT
  unfold tyB at hT
  cases row with
  | true =>
    simp only [ldv] at hv
    cases hl : Nat.beq ((cs.drop o).take sz).length sz with
    | false => rw [hl] at hv; simp at hv
    | true =>
      rw [hl] at hv
      simp only [cond_true, Option.some.injEq] at hv
      have ha : (isAgg T).run P w = .ok true w := by
        unfold isAgg
        split at hT
        · rename_i hu' _; simp [Sem.run_bind, run_underlying hu' w]
        · rename_i hu' _; simp [Sem.run_bind, run_underlying hu' w]
        · simp at hT
        · simp at hT
      subst hv
      simp [part, ha, sizeOf, typeInfo, hq, hi, List.extract_eq_take_drop]
  | false =>
    simp only [ldv] at hv
    cases hl : Nat.beq sz 1 with
    | false => rw [hl] at hv; simp at hv
    | true =>
      rw [hl] at hv
      simp only [cond_true] at hv
      have ha : (isAgg T).run P w = .ok false w := by
        unfold isAgg
        split at hT
        · simp at hT
        · simp at hT
        · rename_i d i hns hna hu' hi'; rw [Sem.run_bind, run_underlying hu' w]; cases d <;> simp_all
        · simp at hT
      simp [part, ha, hv]
/-- an element of an array that is a value -/
theorem flat_get {α : Type} {enc : α → List Value} {sz : Nat} (he : ∀ z, (enc z).length = sz) : ∀ (zs : List α) (i : Nat) (z : α), zs[i]? = some z → ∀ row v, ldv row 0 sz (enc z) = some v → ldv row (i * sz) sz (zs.flatMap enc) = some v
  | [], i, z, h, _, _, _ => by simp at h
  | x :: r, 0, z, h, row, v, hv => by
    simp at h; subst h
    have hl := he x
    rw [Nat.zero_mul, List.flatMap_cons]
    cases row with
    | true =>
      simp only [ldv, List.drop_zero] at hv ⊢
      rw [List.take_append_of_le_length (by omega)]
      exact hv
    | false =>
      simp only [ldv] at hv ⊢
      cases h1 : Nat.beq sz 1 with
      | false => rw [h1] at hv; simp at hv
      | true =>
        rw [h1] at hv
        have := Nat.eq_of_beq_eq_true h1
        simp only [cond_true] at hv ⊢
        rw [List.getElem?_append_left (by omega)]
        exact hv
  | x :: r, i + 1, z, h, row, v, hv => by
    have hl := he x
    have ih := flat_get he r i z (by simpa using h) row v hv
    rw [List.flatMap_cons]
    have e : (i + 1) * sz = (enc x).length + i * sz := by rw [Nat.add_mul, hl]; omega
    rw [e]
    cases row with
    | true =>
      simp only [ldv] at ih ⊢
      rw [List.drop_append, List.drop_of_length_le (by omega), Nat.add_sub_cancel_left, List.nil_append]
      exact ih
    | false =>
      simp only [ldv] at ih ⊢
      rw [List.getElem?_append_right (by omega), Nat.add_sub_cancel_left]
      exact ih
theorem o_ixv (M : Mode P n G D w0 E ⟨some d, .index T x y, ty, pos, aft, gd⟩ Tk R Lr L) {α : Type} {enc : α → List Value} {zs : List α} {cs : List Value} {I : Int} {κ : α → Prop} {u : α → Value} {len e sz : Nat} {row : Bool}
    (hx : oev E x = some (.agg cs.toArray)) (hy : oev E y = some (.int .i64 I)) (hd : Nat.blt d n = true) (hT : arrB P T = some (len, e, row, sz)) (hcs : zs.flatMap enc = cs) (hl : zs.length = len) (he : ∀ z, (enc z).length = sz) (hu : ∀ z, ldv row 0 sz (enc z) = some (u z))
    (k : ∀ z, Nx n G D w0 R ((d, u z) :: E) L (κ z)) : Nx n G D w0 Tk E L (idxW zs I κ) := fun a w hE hm hφ => by
  obtain ⟨z, h0, h1, h2⟩ := hφ
  refine (M.val (v := u z) (φ := κ z) (ψ := κ z) hd rfl (fun ρ w hE hm hφ => ?_) id (k z)) a w hE hm h2
  obtain ⟨hu', ht⟩ := arr_of hT
  obtain ⟨i, hq, hi⟩ := info_sz ht
  have hlt := (List.getElem?_eq_some_iff.1 h1).1
  have h5 : I < len := by omega
  have hr := run_partv (P := P) (w := w) ht (flat_get he zs _ _ h1 row _ (hu z))
  rw [hcs] at hr
  simp [execOp, hE _ _ hx, hE _ _ hy, Instr.index, asIntOf, run_underlying hu', sizeOf, typeInfo, hq, hi, h0, h5, hr]
/-- an element of an array in memory -/
theorem o_ixa (M : Mode P n G D w0 E ⟨some d, .indexAddr T x y, ty, pos, aft, gd⟩ Tk R Lr L) {α : Type} {El' : El α} {b o cap : Nat} {xs : List α} {c : Ch} {I : Int} {κ : α → Prop} {len e sz : Nat} {row : Bool} (i : Nat) (hi : lget Lr i = some c) (hc : Reads c El' (.slice (some ⟨b, o, none⟩) len cap) xs) (hx : oev E x = some (.pointer (some ⟨b, o, none⟩))) (hy : oev E y = some (.int .i64 I)) (hd : Nat.blt d n = true)
    (hT : arrB P T = some (len, e, row, sz)) (k : ∀ z, xs[I.toNat]? = some z → Nx n G D w0 R ((d, pEl (.slice (some ⟨b, o, none⟩) len cap) I sz 0) :: E) L (κ z)) :
    Nx n G D w0 Tk E L (idxW xs I κ) :=
  M.val (v := pEl (.slice (some ⟨b, o, none⟩) len cap) I sz 0) (ψ := idxW xs I κ) hd rfl (fun ρ w hE hm hφ => by
    obtain ⟨z, h0, h1, h2⟩ := hφ
    obtain ⟨a', cap', he, _⟩ := hc _ _ (hm.get hi)
    have hln : xs.length = len := by simp at he; exact he.2.1.symm
    have hlt := (List.getElem?_eq_some_iff.1 h1).1
    obtain ⟨hu', ht⟩ := arr_of hT
    obtain ⟨i, hq, hi⟩ := info_sz ht
    have h5 : I < len := by omega
    rw [pEl_slice]
    simp [execOp, hE _ _ hx, hE _ _ hy, Instr.indexAt, Instr.sureAddr, asIntOf, run_underlying hu', sizeOf, typeInfo, hq, hi, h0, h5, Addr.add_mid]) id (fun a w hE hm ⟨z, _, h1, h2⟩ => k z h1 a w hE hm h2)
/-! arrays are built -/
def bldA (P : Program) (T : TypeId) : Option (Nat × List Value) :=
  match P.underlying T, zeroB P T with
  | some (.array _ e), some zs => (P.info? e).map fun i => (i.size, zs)
  | _, _ => none
theorem o_bldA {ps : Array (Nat × Operand)} (M : Mode P n G D w0 E ⟨some d, .build T ps, ty, pos, aft, gd⟩ Tk R Lr L) {qs : List (Nat × Value)} {cells zs : List Value} {sz : Nat}
    (hq : ∀ ρ : Operand → Value, (∀ x v, oev E x = some v → ρ x = v) → (ps.map fun (i, x) => (i, ρ x)) = qs.toArray) (hd : Nat.blt d n = true) (hT : bldA P T = some (sz, zs)) (hfill' : lfill (fun i => some (i * sz, sz)) zs qs = some cells)
    (k : Nx n G D w0 R ((d, .agg cells.toArray) :: E) L φ) : Nx n G D w0 Tk E L φ :=
  M.val hd rfl (fun ρ w hE hm _ => by
    have hfill := fill_of _ _ _ _ hfill'
    unfold bldA at hT
    split at hT
    · rename_i l e zs' hu hz
      cases he : P.info? e with
      | none => simp [he] at hT
      | some j =>
        simp [he] at hT
        obtain ⟨rfl, rfl⟩ := hT
        cases hi : P.info? T with
        | none => simp [zeroB, hi] at hz
        | some i =>
          obtain ⟨z, hz1, hz2⟩ := zeroB_spec hz hi
          have hz3 : (zeroValue T).run P w = .ok z w := by simp [zeroValue, typeInfo, hi, hz1]
          have hb : (Instr.build T qs.toArray).run P w = .ok (.agg cells.toArray) w := by
            unfold Instr.build
            rw [Sem.run_bind, hz3, Result.andThen_ok, Sem.run_bind, run_underlying hu, Result.andThen_ok]
            simp only
            rw [Sem.run_bind]
            have : (sizeOf e).run P w = .ok j.size w := by simp [sizeOf, typeInfo, he]
            rw [this, Result.andThen_ok, hz2]
            rw [hfill]
            rfl
          simp only [execOp, hq ρ hE, Sem.run_bind, hb]
          rfl
    · simp at hT) id k
end

end
section

open Go.RowKit

section
variable {K : Type} [DecidableEq K]
end
abbrev ent {K : Type} (enc : K → List Value) (p : K × Int) : Value × Value := (.agg (enc p.1).toArray, .int .i64 p.2)
abbrev kv (e : MapEntry) : Value × Value := (e.key, e.val)
/-- the value reads as this map -/
def Mp {K : Type} (enc : K → List Value) (F : Nat → Prop) (w : World) (v : Value) (m : List (K × Int)) : Prop :=
  (v = .map none ∧ m = []) ∨ ∃ b es clock, v = .map (some b) ∧ F b ∧ w.heap[b]? = some (.map es clock) ∧ es.toList.map kv = m.map (ent enc)
theorem Mp.keep {K : Type} {enc : K → List Value} {F F' : Nat → Prop} {w w' : World} {v : Value} {m : List (K × Int)} (h : Mp enc F w v m) (hF : ∀ b, F b → F' b) (hb : ∀ b, F b → w'.heap[b]? = w.heap[b]?) : Mp enc F' w' v m := by
  rcases h with h | ⟨b, es, cl, h1, h2, h3, h4⟩
  · exact .inl h
  · exact .inr ⟨b, es, cl, h1, hF b h2, (hb b h2).trans h3, h4⟩
theorem Mp.nil {K : Type} (enc : K → List Value) (F : Nat → Prop) (w : World) : Mp enc F w (.map none) [] := .inl ⟨rfl, rfl⟩
def MReads {K : Type} (c : Ch) (enc : K → List Value) (v : Value) (m : List (K × Int)) : Prop := ∀ F w, c.holds F w → Mp enc (fun b => F b ∨ c.foot b) w v m
section
variable {K : Type} {enc : K → List Value} {G D : Nat → Prop} {w0 w : World} {v : Value} {xs : List (K × Int)} {c : Ch} {L : List Ch}
theorem Mem.mrdM {M0 L' : List Ch} (m : Mem G D w0 (M0 ++ L') w) (i : Nat) (hi : lget L' i = some c) (hc : MReads c enc v xs) : Mp enc (fun b => b < w.heap.size ∧ ¬ feet M0 b) w v xs := by
  have hmem : c ∈ M0 ++ L' := List.mem_append.2 (.inr (lget_mem hi))
  refine (hc _ _ (m.hold c hmem)).keep (fun b hb => ?_) (fun _ _ => rfl)
  rcases hb with hb | hb
  · exact ⟨hb.1, fun ⟨d, hd, h⟩ => hb.2.2 d (List.mem_append.2 (.inl hd)) h⟩
  · exact ⟨(m.range c hmem b hb).1, fun ⟨d, hd, h⟩ => (List.pairwise_append.1 m.disj).2.2 d hd c (lget_mem hi) b h hb⟩
theorem Mem.mrd0 (m : Mem G D w0 L w) (i : Nat) (hi : lget L i = some c) (hc : MReads c enc v xs) : Mp enc (fun b => b < w.heap.size ∧ ¬ feet [] b) w v xs :=
  Mem.mrdM (M0 := []) m i hi hc
end

section
variable {P : Program} {n : Nat} {G D : Nat → Prop} {w0 : World} {Q : Exit → Act → World → Prop} {R : Act → World → Prop} {E : Env} {L : List Ch} {φ : Prop}
variable {d : Tmp} {ty : TypeId} {pos : String} {aft : Array Edge} {gd : Option (Nat × Bool)} {Tk : Act → World → Prop} {Lr : List Ch} {x y z : Operand} {T T' S : TypeId}
variable {K : Type} [DecidableEq K] {enc : K → List Value}

/-! the end of a function with four results -/
end

end
section

open Go.RowKit

/-! the pure side -/
section
variable {P : Program} {n : Nat} {G D : Nat → Prop} {w0 : World} {Q : Exit → Act → World → Prop} {R : Act → World → Prop} {E : Env} {L : List Ch} {φ : Prop}
variable {d : Tmp} {ty : TypeId} {pos : String} {aft : Array Edge} {gd : Option (Nat × Bool)} {Tk : Act → World → Prop} {Lr : List Ch} {x y : Operand} {T T' S : TypeId}

/-! one of two conditions -/
/-! a byte of an int -/
/-- a number that is not negative, taken as one without a sign and back -/
def posW (x : Int) (κ : Int → Prop) : Prop := 0 ≤ x ∧ x ≤ 9223372036854775807 ∧ κ x
theorem o_cnvIU (M : Mode P n G D w0 E ⟨some d, .convert T T' x, ty, pos, aft, gd⟩ Tk R Lr L) {X : Int} {κ : Int → Prop} (hT : P.underlying T = some (.int .i64)) (hT' : P.underlying T' = some (.int .u64)) (hx : oev E x = some (.int .i64 X)) (hd : Nat.blt d n = true) (k : Nx n G D w0 R ((d, .int .u64 X) :: E) L (κ X)) : Nx n G D w0 Tk E L (posW X κ) :=
  M.val hd rfl (fun ρ w hE _ hφ => by
    obtain ⟨h1, h2, _⟩ := hφ
    have e : IntKind.u64.wrap X = X := by simp [IntKind.wrap, IntKind.signed, IntKind.bits]; omega
    simp [execOp, hE _ _ hx, go_sem, convert, run_underlying hT, run_underlying hT', e]) (fun h => h.2.2) k
theorem o_cnvUI (M : Mode P n G D w0 E ⟨some d, .convert T T' x, ty, pos, aft, gd⟩ Tk R Lr L) {X : Int} {κ : Int → Prop} (hT : P.underlying T = some (.int .u64)) (hT' : P.underlying T' = some (.int .i64)) (hx : oev E x = some (.int .u64 X)) (hd : Nat.blt d n = true) (k : Nx n G D w0 R ((d, .int .i64 X) :: E) L (κ X)) : Nx n G D w0 Tk E L (posW X κ) :=
  M.val hd rfl (fun ρ w hE _ hφ => by
    obtain ⟨h1, h2, _⟩ := hφ
    have e : IntKind.i64.wrap X = X := by rw [IntKind.wrap_i64]; omega
    simp [execOp, hE _ _ hx, go_sem, convert, run_underlying hT, run_underlying hT', e]) (fun h => h.2.2) k
theorem o_shrU (M : Mode P n G D w0 E ⟨some d, .binOp .shr T x y T', ty, pos, aft, gd⟩ Tk R Lr L) {X Y : Int} {K : IntKind} {κ : Int → Prop} (hx : oev E x = some (.int .u64 X)) (hy : oev E y = some (.int K Y)) (hd : Nat.blt d n = true) (k : ∀ z, Nx n G D w0 R ((d, .int .u64 z) :: E) L (κ z)) : Nx n G D w0 Tk E L (shrW X Y κ) :=
  M.val (v := .int .u64 (X / 2 ^ Y.toNat)) hd rfl (fun ρ w hE _ hφ => by
    obtain ⟨h1, h2, h3, h4, _⟩ := hφ
    have e1 : ¬ Y < 0 := by omega
    have e2 : ¬ (64 ≤ Y.toNat) := by omega
    simp [execOp, hE _ _ hx, hE _ _ hy, go_sem, Op.shift, e1, e2, IntKind.bits]) (fun h => h.2.2.2.2) (k _)
/-! bit operations, as values -/
theorem o_and (M : Mode P n G D w0 E ⟨some d, .binOp .and T x y T', ty, pos, aft, gd⟩ Tk R Lr L) {X Y : Int} (hx : oev E x = some (.int .i64 X)) (hy : oev E y = some (.int .i64 Y)) (hd : Nat.blt d n = true) (k : Nx n G D w0 R ((d, .int .i64 (bits .and .i64 X Y)) :: E) L φ) : Nx n G D w0 Tk E L φ :=
  M.val hd rfl (fun ρ w hE _ _ => by simp [execOp, hE _ _ hx, hE _ _ hy, go_sem]) id k
theorem o_or (M : Mode P n G D w0 E ⟨some d, .binOp .or T x y T', ty, pos, aft, gd⟩ Tk R Lr L) {X Y : Int} (hx : oev E x = some (.int .i64 X)) (hy : oev E y = some (.int .i64 Y)) (hd : Nat.blt d n = true) (k : Nx n G D w0 R ((d, .int .i64 (bits .or .i64 X Y)) :: E) L φ) : Nx n G D w0 Tk E L φ :=
  M.val hd rfl (fun ρ w hE _ _ => by simp [execOp, hE _ _ hx, hE _ _ hy, go_sem]) id k
/-! bytes to a string -/
end

end
section

open Go.RowKit

/-- what stood still when it was taken: F0 of the world wr -/
def snapCh (wr : World) (F0 : Nat → Prop) : Ch where
  foot := fun _ => False
  holds := fun F w => (∀ b, F0 b → F b) ∧ ∀ b, F0 b → w.heap[b]? = wr.heap[b]?
  keep := fun F F' w w' hF hb h => ⟨fun b hb0 => hF b (h.1 b hb0), fun b hb0 => (hb b (.inl (h.1 b hb0))).trans (h.2 b hb0)⟩
theorem Sl.one {α : Type} {E : El α} {F : Nat → Prop} {w : World} {v : Value} {xs : List α} (h : Sl E F w v xs) : v.oneCell' = true := by
  obtain ⟨a, cap, rfl, _⟩ := h
  rfl
section
variable {α : Type} {E' : El α} {wr w : World} {F0 F : Nat → Prop} {v : Value} {xs : List α} {G D : Nat → Prop} {w0 : World} {L : List Ch}
theorem reads_snap (S : Sl E' F0 wr v xs) : Reads (snapCh wr F0) E' v xs := fun F w h => S.keep (fun b hb => .inl (h.1 b hb)) h.2
theorem Sl.of (S : Sl E' F0 wr v xs) (h : (snapCh wr F0).holds F w) : Sl E' F w v xs := S.keep h.1 h.2
theorem Mem.roS (m : Mem G D w0 L w) (i : Nat) (hi : lget L i = some (snapCh wr F0)) (S : Sl E' F0 wr v xs) : Sl E' (fz G L w) w v xs := S.of (m.get hi)
/-- a slice that stands still as a chunk of its own -/
theorem Mem.snote (m : Mem G D w0 L w) (i : Nat) (hi : lget L i = some (snapCh wr F0)) (S : Sl E' F0 wr v xs) : Mem G D w0 (roCh E' v xs :: L) w := m.note (fun b hb => hb) (m.roS i hi S)

/-- nothing hangs on memory: whatever may be read will do -/
theorem src_flat {enc : α → List Value} {c : Ch} (hfl : Flat E' enc) (h : Reads c E' v xs) : Src c E' v xs := fun F w hc => by
  obtain ⟨a, cap, h1, h2, h3⟩ := h F w hc
  refine ⟨a, cap, h1, h2, fun h0 => ?_⟩
  obtain ⟨b, off, k1, k2, k3⟩ := h3 h0
  exact ⟨b, off, k1, k2, fun i x hi => by
    obtain ⟨cs, c1, c2⟩ := k3 i x hi
    exact ⟨cs, hfl.free _ _ _ _ _ _ c1, c2⟩⟩
end

section
variable {P : Program} {n : Nat} {G D : Nat → Prop} {w0 : World} {Q : Exit → Act → World → Prop} {R : Act → World → Prop} {E : Env} {L : List Ch} {φ : Prop}
variable {d : Tmp} {ty : TypeId} {pos : String} {aft : Array Edge} {gd : Option (Nat × Bool)} {Tk : Act → World → Prop} {Lr : List Ch} {x y : Operand} {T T' S : TypeId} {e sz by' : Nat}

/-- a slice that stands still as a chunk of its own -/
theorem nx_note {α : Type} {E' : El α} {wr : World} {F0 : Nat → Prop} {v : Value} {xs : List α} (i : Nat) (hi : lget L i = some (snapCh wr F0)) (S : Sl E' F0 wr v xs) (h : Nx n G D w0 R E (roCh E' v xs :: L) φ) : Nx n G D w0 R E L φ := fun a w hE hm hφ => h a w hE (hm.snote i hi S) hφ
/-- an array in memory that is written at places which are not known ahead -/
theorem o_allocA {α : Type} {El' : El α} {z : α} {len : Nat} {cs zs : List Value} (hz : ∀ F w, El'.cells F w z zs) (hd : Nat.blt d n = true) (hzr : zeroB P T = some cs) (hcs : (List.replicate len zs).flatten = cs) (hlen : Nat.ble len 65536 = true)
    (k : ∀ b, Nx n G D w0 R ((d, .pointer (some ⟨b, 0, none⟩)) :: E) (ownCh El' T (.slice (some ⟨b, 0, none⟩) len len) (List.replicate len z) :: L) φ) :
    Nx n G D w0 (fun a w => Oper.wp P ⟨some d, .alloc T, ty, pos, aft, gd⟩ a w R Q) E L φ :=
  o_gen hd rfl fun ρ w hE hm hφ => by
    unfold zeroB at hzr
    cases hi : P.info? T with
    | none => simp [hi] at hzr
    | some i =>
      cases hz' : i.zero with
      | none => simp [hi, hz'] at hzr
      | some zv =>
        simp [hi, hz'] at hzr
        have hlz : zs.length = El'.size := El'.len _ _ _ _ (hz (fun _ => True) w)
        refine ⟨_, w.alloc (.cells cs.toArray T), _, φ, by simp [execOp, Instr.alloc, zeroValue, typeInfo, hi, hz', newVar, newRow, ← hzr], ?_, hφ, k w.heap.size⟩
        refine hm.add _ ((Below.refl _ _).alloc (Nat.le_refl _) _) (fun b hb => by simp [ownCh, Value.ownBlock] at hb; rw [World.size_alloc]; omega) ?_
        have hle := Nat.le_of_ble_eq_true hlen
        have hown := own_new (El' := El') (F := fz G (ownCh El' T (.slice (some ⟨w.heap.size, 0, none⟩) len len) (List.replicate len z) :: L) (w.alloc (.cells cs.toArray T))) (w := w.alloc (.cells cs.toArray T)) (ty := T) (b := w.heap.size) (cap := len)
          (Rows.replicate (hz _ _) len) (heap_alloc_new w _) (by simp) (by unfold maxLen; omega) (by rw [← hcs]; simp [hlz]) (by
            rw [← hcs, List.length_replicate, List.take_of_length_le (by simp [hlz])])
        rw [List.length_replicate] at hown
        exact hown
end

end
section

open Go.RowKit

/-- elements that own the blocks B -/
structure DEl (α : Type) where
  el : El α
  own : List Nat → World → α → List Value → Prop
  read : ∀ B w x cs, own B w x cs → el.cells (fun b => b ∈ B) w x cs
  keep : ∀ B w w' x cs, (∀ b, b ∈ B → w'.heap[b]? = w.heap[b]?) → own B w x cs → own B w' x cs
  lt : ∀ B w x cs, own B w x cs → ∀ b, b ∈ B → b < w.heap.size
def blkL (v : Value) : List Nat := v.ownBlock.toList
theorem mem_blkL {v : Value} {b : Nat} : b ∈ blkL v ↔ v.ownBlock = some b := by simp [blkL]
structure DRows {α : Type} (E : DEl α) (w : World) (xs : List α) (css : List (List Value)) (Bs : List (List Nat)) : Prop where
  lc : css.length = xs.length
  lb : Bs.length = xs.length
  own : ∀ (i : Nat) x cs B, xs[i]? = some x → css[i]? = some cs → Bs[i]? = some B → E.own B w x cs
def Dp {α : Type} (E : DEl α) (ty : TypeId) (B : List Nat) (w : World) (v : Value) (xs : List α) : Prop :=
  ∃ css Bs, DRows E w xs css Bs ∧ w.ownsRow 0 ty E.el.size v xs.length css.flatten ∧ B.Perm (blkL v ++ Bs.flatten)

section
variable {α : Type} {E : DEl α} {w w' : World} {xs ys : List α} {css dss : List (List Value)} {Bs Cs : List (List Nat)} {ty : TypeId} {B : List Nat} {v : Value}
theorem DRows.mem (h : DRows E w xs css Bs) {b : Nat} (hb : b ∈ Bs.flatten) : ∃ (i : Nat) (x : α) (cs : List Value) (B : List Nat), xs[i]? = some x ∧ css[i]? = some cs ∧ Bs[i]? = some B ∧ b ∈ B ∧ E.own B w x cs := by
  obtain ⟨C, hC, hbC⟩ := List.mem_flatten.1 hb
  obtain ⟨i, hi, e⟩ := List.getElem_of_mem hC
  have h1 : i < xs.length := by rw [← h.lb]; exact hi
  have h2 : i < css.length := by rw [h.lc]; exact h1
  refine ⟨i, xs[i], css[i], C, List.getElem?_eq_getElem h1, List.getElem?_eq_getElem h2, by rw [List.getElem?_eq_getElem hi, e], hbC, ?_⟩
  exact h.own i _ _ _ (List.getElem?_eq_getElem h1) (List.getElem?_eq_getElem h2) (by rw [List.getElem?_eq_getElem hi, e])
theorem DRows.lt (h : DRows E w xs css Bs) : ∀ b, b ∈ Bs.flatten → b < w.heap.size := fun b hb => by
  obtain ⟨i, x, cs, C, _, _, _, hbC, ho⟩ := h.mem hb
  exact E.lt _ _ _ _ ho b hbC
theorem DRows.keep (h : DRows E w xs css Bs) (hk : ∀ b, b ∈ Bs.flatten → w'.heap[b]? = w.heap[b]?) : DRows E w' xs css Bs :=
  ⟨h.lc, h.lb, fun i x cs C h1 h2 h3 => E.keep _ _ _ _ _ (fun b hb => hk b (List.mem_flatten.2 ⟨C, List.mem_of_getElem? h3, hb⟩)) (h.own i x cs C h1 h2 h3)⟩
theorem DRows.nil : DRows E w [] [] [] := ⟨rfl, rfl, fun i x cs C h => by simp at h⟩
theorem DRows.one {x : α} {cs : List Value} {C : List Nat} (h : E.own C w x cs) : DRows E w [x] [cs] [C] := ⟨rfl, rfl, fun i y ds D h1 h2 h3 => by
  cases i with
  | zero => simp at h1 h2 h3; subst h1 h2 h3; exact h
  | succ i => simp at h1⟩
theorem DRows.append (h : DRows E w xs css Bs) (k : DRows E w ys dss Cs) : DRows E w (xs ++ ys) (css ++ dss) (Bs ++ Cs) :=
  ⟨by simp [h.lc, k.lc], by simp [h.lb, k.lb], fun i x cs C h1 h2 h3 => by
    have e1 := h.lc
    have e2 := h.lb
    by_cases hi : i < xs.length
    · rw [List.getElem?_append_left (by omega)] at h1 h2 h3
      exact h.own i x cs C h1 h2 h3
    · rw [List.getElem?_append_right (by omega)] at h1 h2 h3
      rw [e1] at h2
      rw [e2] at h3
      exact k.own _ x cs C h1 h2 h3⟩
theorem DRows.replicate {z : α} {zs : List Value} (h : E.own [] w z zs) (n : Nat) : DRows E w (List.replicate n z) (List.replicate n zs) (List.replicate n []) :=
  ⟨by simp, by simp, fun i x cs C h1 h2 h3 => by
    rw [List.getElem?_replicate] at h1 h2 h3
    split at h1
    · rename_i hi
      rw [if_pos hi] at h2 h3
      cases h1; cases h2; cases h3
      exact h
    · cases h1⟩
theorem DRows.set (h : DRows E w xs css Bs) (I : Nat) {y : α} {ds : List Value} {C : List Nat} (hy : E.own C w y ds) : DRows E w (xs.set I y) (css.set I ds) (Bs.set I C) :=
  ⟨by simp [h.lc], by simp [h.lb], fun i x cs D h1 h2 h3 => by
    rw [List.getElem?_set] at h1 h2 h3
    by_cases e : I = i
    · subst e
      simp only [if_true] at h1 h2 h3
      split at h1
      · rename_i hl
        rw [h.lc, if_pos hl] at h2
        rw [h.lb, if_pos hl] at h3
        cases h1; cases h2; cases h3
        exact hy
      · cases h1
    · rw [if_neg e] at h1 h2 h3
      exact h.own i x cs D h1 h2 h3⟩
theorem rows_at : ∀ {xs : List α} {css : List (List Value)} {F : Nat → Prop} {E : El α}, css.length = xs.length → (∀ (i : Nat) x cs, xs[i]? = some x → css[i]? = some cs → E.cells F w x cs) → Rows E F w xs css
  | [], [], _, _, _, _ => trivial
  | x :: xs, cs :: css, _, _, hl, h => ⟨h 0 x cs rfl rfl, rows_at (by simpa using hl) (fun i y ds h1 h2 => h (i + 1) y ds (by simpa using h1) (by simpa using h2))⟩
  | [], _ :: _, _, _, hl, _ => by simp at hl
  | _ :: _, [], _, _, hl, _ => by simp at hl
theorem DRows.rows {F : Nat → Prop} (h : DRows E w xs css Bs) (hF : ∀ b, b ∈ Bs.flatten → F b) : Rows E.el F w xs css := rows_at h.lc (fun i x cs h1 h2 => by
  have hi := (List.getElem?_eq_some_iff.1 h1).1
  have h3 : Bs[i]? = some (Bs[i]'(by rw [h.lb]; exact hi)) := List.getElem?_eq_getElem _
  exact E.el.keep _ _ w w x cs (fun b hb => hF b (List.mem_flatten.2 ⟨_, List.mem_of_getElem? h3, hb⟩)) (fun _ _ => rfl) (E.read _ _ _ _ (h.own i x cs _ h1 h2 h3)))
theorem DRows.size (h : DRows E w xs css Bs) : ∀ cs ∈ css, cs.length = E.el.size := fun cs hc => by
  obtain ⟨i, hi, e⟩ := List.getElem_of_mem hc
  have h1 : i < xs.length := by rw [← h.lc]; exact hi
  have h3 : i < Bs.length := by rw [h.lb]; exact h1
  exact E.el.len _ _ _ _ (E.read _ _ _ _ (h.own i _ cs _ (List.getElem?_eq_getElem h1) (by rw [List.getElem?_eq_getElem hi, e]) (List.getElem?_eq_getElem h3)))
theorem Dp.own {F : Nat → Prop} (h : Dp E ty B w v xs) (hF : ∀ b, b ∈ B → F b) : Own E.el ty F w v xs := by
  obtain ⟨css, Bs, h1, h2, h3⟩ := h
  exact ⟨css, h1.rows (fun b hb => hF b (h3.symm.subset (List.mem_append.2 (.inr hb)))), h2⟩
theorem Dp.blk (h : Dp E ty B w v xs) : ∀ b, v.ownBlock = some b → b ∈ B := fun b hb => by
  obtain ⟨css, Bs, h1, h2, h3⟩ := h
  exact h3.symm.subset (List.mem_append.2 (.inl (mem_blkL.2 hb)))
theorem Dp.lt (h : Dp E ty B w v xs) : ∀ b, b ∈ B → b < w.heap.size := fun b hb => by
  obtain ⟨css, Bs, h1, h2, h3⟩ := h
  rcases List.mem_append.1 (h3.subset hb) with hb | hb
  · exact (h2.lt b (mem_blkL.1 hb)).2
  · exact h1.lt b hb
theorem Dp.keep (h : Dp E ty B w v xs) (hk : ∀ b, b ∈ B → w'.heap[b]? = w.heap[b]?) : Dp E ty B w' v xs := by
  obtain ⟨css, Bs, h1, h2, h3⟩ := h
  exact ⟨css, Bs, h1.keep (fun b hb => hk b (h3.symm.subset (List.mem_append.2 (.inr hb)))), ownsRow_keep h2 (fun b hb => hk b (h3.symm.subset (List.mem_append.2 (.inl (mem_blkL.2 hb))))), h3⟩
theorem Dp.nil : Dp E ty [] w (.slice none 0 0) [] := ⟨[], [], DRows.nil, World.ownsRow_nil .., by simp [blkL, Value.ownBlock]⟩
theorem Dp.sl (h : Dp E ty B w v xs) : Sl E.el (fun b => b ∈ B) w v xs := (h.own (F := fun b => b ∈ B) (fun b hb => hb)).sl (fun b hb => hb) (fun b hb => h.blk b hb)
end

/-! elements -/
def dflat {α : Type} (E : El α) (enc : α → List Value) (hfl : Flat E enc) : DEl α where
  el := E
  own := fun B w x cs => B = [] ∧ cs = enc x
  read := fun B w x cs h => (hfl _ _ _ _).2 h.2
  keep := fun B w w' x cs _ h => h
  lt := fun B w x cs h b hb => by rw [h.1] at hb; cases hb
def dpCh {α : Type} (E : DEl α) (ty : TypeId) (B : List Nat) (v : Value) (xs : List α) : Ch where
  foot := fun b => b ∈ B
  holds := fun _ w => B.Nodup ∧ Dp E ty B w v xs
  keep := fun _ _ _ _ _ hb h => ⟨h.1, h.2.keep (fun b hb' => hb b (.inr hb'))⟩
/-- but for what is inside of element I, whose cells are cs -/
structure HRows {α : Type} (E : DEl α) (w : World) (xs : List α) (css : List (List Value)) (Bs : List (List Nat)) (I : Nat) (cz : List Value) : Prop where
  lc : css.length = xs.length
  lb : Bs.length = xs.length
  own : ∀ (i : Nat) x cs B, i ≠ I → xs[i]? = some x → css[i]? = some cs → Bs[i]? = some B → E.own B w x cs
  here : css[I]? = some cz
  none : Bs[I]? = some []
  size : ∀ cs ∈ css, cs.length = E.el.size
theorem HRows.lt {α : Type} {E : DEl α} {w : World} {xs : List α} {css : List (List Value)} {Bs : List (List Nat)} {I : Nat} {cz : List Value} (h : HRows E w xs css Bs I cz) : ∀ b, b ∈ Bs.flatten → b < w.heap.size := fun b hb => by
  obtain ⟨C, hC, hbC⟩ := List.mem_flatten.1 hb
  obtain ⟨i, hi, e⟩ := List.getElem_of_mem hC
  have h1 : i < xs.length := by rw [← h.lb]; exact hi
  have h2 : i < css.length := by rw [h.lc]; exact h1
  have hC' : Bs[i]? = some C := by rw [List.getElem?_eq_getElem hi, e]
  by_cases hI : i = I
  · subst hI; rw [h.none] at hC'; cases hC'; cases hbC
  · exact E.lt _ _ _ _ (h.own i _ _ _ hI (List.getElem?_eq_getElem h1) (List.getElem?_eq_getElem h2) hC') b hbC
/-! lists of blocks -/
section
variable {G D : Nat → Prop} {w0 w : World} {L : List Ch}
theorem Mem.repl {w' : World} {M0 N : List Ch} (m : Mem G D w0 (M0 ++ L) w) (hb : UpdD (feet M0) w w') (hf : ∀ c ∈ N, ∀ b, c.foot b → (w.heap.size ≤ b ∨ feet M0 b) ∧ b < w'.heap.size) (hd : N.Pairwise fun c d => ∀ b, c.foot b → ¬ d.foot b) (hh : ∀ c ∈ N, ∀ F, c.holds F w') : Mem G D w0 (N ++ L) w' :=
  m.call hb ⟨hf, hd, fun c hc => hh c hc _⟩
end
section
variable {P : Program} {n : Nat} {G D : Nat → Prop} {w0 : World} {Q : Exit → Act → World → Prop} {R : Act → World → Prop} {E : Env} {L M : List Ch} {φ : Prop}
variable {d : Tmp} {ty : TypeId} {pos : String} {aft : Array Edge} {gd : Option (Nat × Bool)} {Tk : Act → World → Prop} {Lr : List Ch} {x y : Operand} {T T' S : TypeId} {e sz by' : Nat}

/-- what is inside stands still from now on -/
theorem Mem.undp {α : Type} {E' : DEl α} {e : TypeId} {B : List Nat} {v : Value} {xs : List α} {w : World} (m : Mem G D w0 L w) (i : Nat) (hi : lget L i = some (dpCh E' e B v xs)) : Mem G D w0 (lset L i (ownCh E'.el e v xs)) w := by
  obtain ⟨hnd, css, Bs, h1, h2, h3⟩ := m.get hi
  have hmem := lget_mem hi
  refine m.upd hi rfl rfl rfl (Nat.le_refl _) (fun _ _ _ => rfl) (fun b hb => ?_) ⟨css, h1.rows (fun b hb => ?_), h2⟩
  · have hb' : b ∈ B := h3.symm.subset (List.mem_append.2 (.inl (mem_blkL.2 hb)))
    exact ⟨(m.range _ hmem b hb').1, .inl hb'⟩
  · have hb' : b ∈ B := h3.symm.subset (List.mem_append.2 (.inr hb))
    refine ⟨(m.range _ hmem b hb').1, m.fresh b (m.range _ hmem b hb').2, fun d hd => ?_⟩
    rcases mem_lset hi m.disj hd with e' | ⟨e1, e2⟩
    · subst e'
      intro hk
      have := h3.nodup_iff.1 hnd
      rw [List.nodup_append] at this
      exact this.2.2 b (mem_blkL.2 hk) b hb rfl
    · exact fun h => e2 b h hb'
/-! what is inside one element, taken out -/
end

end
section

open Go.RowKit

section
variable {P : Program} {n : Nat} {G D : Nat → Prop} {w0 : World} {Q : Exit → Act → World → Prop} {R : Act → World → Prop} {E : Env} {L M : List Ch} {φ : Prop}
variable {d : Tmp} {ty : TypeId} {pos : String} {aft : Array Edge} {gd : Option (Nat × Bool)} {Tk : Act → World → Prop} {Lr : List Ch} {x y : Operand} {T T' S : TypeId} {e sz by' : Nat}
/-- the beginning, with a snapshot of all that may be read -/
theorem enterS {F : Nat → Prop} {f : Nat} {fn : Func} {c : Code} {args : List Value} {K : Ending → World → Prop} (M0 : List Ch) (hF : ∀ b, F b → b < w0.heap.size ∧ ¬ feet M0 b) (hg : Given M0 F w0) (hf : P.funcs[f]? = some fn) (hb : fn.body = some c) (hn : fn.ntmps = n) (hle : Nat.ble args.length n = true)
    (hφ : φ) (h : Nx n (gB F M0 w0) (feet M0) w0 (c.wp P (bodyPost P fn K)) (eargs 0 args) (M0 ++ [snapCh w0 F]) φ) : Calls P f args.toArray w0 K :=
  enterB M0 hF hf hb hn hle [snapCh w0 F] (fun c hc b h => by simp only [List.mem_cons, List.not_mem_nil, or_false] at hc; subst hc; exact h) (fun c hc => by simp only [List.mem_cons, List.not_mem_nil, or_false] at hc; subst hc; exact ⟨fun _ h => h, fun _ _ => rfl⟩) hg.lt hg.disj hg.hold hφ h
theorem enter0 {F : Nat → Prop} {f : Nat} {fn : Func} {c : Code} {args : List Value} {K : Ending → World → Prop} (M0 : List Ch) (hF : ∀ b, F b → b < w0.heap.size ∧ ¬ feet M0 b) (hg : Given M0 F w0) (hf : P.funcs[f]? = some fn) (hb : fn.body = some c) (hn : fn.ntmps = n) (hle : Nat.ble args.length n = true)
    (hφ : φ) (h : Nx n (gB F M0 w0) (feet M0) w0 (c.wp P (bodyPost P fn K)) (eargs 0 args) (M0 ++ []) φ) : Calls P f args.toArray w0 K :=
  enterB M0 hF hf hb hn hle [] (fun c hc b h => by simp at hc) (fun c hc => by simp at hc) hg.lt hg.disj hg.hold hφ h
theorem Mem.dup {α : Type} {El' : El α} {v : Value} {xs : List α} {w : World} (m : Mem G D w0 L w) (i : Nat) (hi : lget L i = some (roCh El' v xs)) : Mem G D w0 (roCh El' v xs :: L) w := m.note (fun b hb => hb) (m.get hi)
/-! nil -/
/-! arrays in memory -/
/-- a whole array is stored -/
theorem o_stA {α : Type} {El' : El α} {u : Value} {cs : List Value} {len b fs : Nat} {xs0 : List α} {row : Bool} {e' : TypeId} (i : Nat) (hi : lget L i = some (ownCh El' e' (.slice (some ⟨b, 0, none⟩) len len) xs0)) (xs : List α) (css : List (List Value)) (hr : ∀ w, Mem G D w0 L w → Rows El' (fz G L w) w xs css) (hx : oev E x = some (.pointer (some ⟨b, 0, none⟩))) (hy : oev E y = some u)
    (hcs : u.cells = cs.toArray) (hfl : css.flatten = cs) (hl : xs.length = len) (h1 : u.cells.toList.all (·.oneCell') = true) (hT : tyB P T = some (row, fs)) (hsz : Nat.beq u.cells.size fs = true) (hpos : Nat.beq len 0 = false)
    (k : Nx n G D w0 R E (lset L i (ownCh El' e' (.slice (some ⟨b, 0, none⟩) len len) xs)) φ) : Nx n G D w0 (fun a w => Oper.wp P ⟨none, .store T x y, ty, pos, aft, gd⟩ a w R Q) E L φ :=
  o_skip rfl fun ρ w hE hm hφ => by
    obtain ⟨css0, hr0, how⟩ := hm.get hi
    obtain ⟨h0, hown⟩ := how
    have hlp : len ≠ 0 := fun e => by rw [e] at hpos; simp at hpos
    rcases hown with ⟨h, _⟩ | ⟨g, cap, cur, h, hg0, hg, hnc, hcm, hcz, htake⟩
    · cases h
    simp only [Value.slice.injEq, Option.some.injEq, Addr.mk.injEq] at h
    obtain ⟨⟨rfl, -, -⟩, hln, rfl⟩ := h
    have hrows := hr w hm
    have hlen := hrows.length
    rw [hfl, hl] at hlen
    have hb : w.heap[b]? = some (.cells cur.toList.toArray e' (0, 0)) := by simpa using hg
    have hcl : cur.toList.length = len * El'.size := by rw [Array.length_toList, hcz]
    have hus : u.cells.toList = cs := by rw [hcs]
    have hzs := Nat.eq_of_beq_eq_true hsz
    have hr' := run_stv (P := P) (w := w) hT hsz h1 (b := b) (o := 0) (there_of_row hb (by rw [hcl]; rw [hcs]; simp [hlen]))
    refine ⟨_, _, φ, by simp [execOp, hE _ _ hx, hE _ _ hy, hr']; rfl, ?_, hφ, k⟩
    obtain ⟨s1, s2, s3⟩ := setCells_rest b u.cells.toList 0 w
    have hput : lput cur.toList 0 cs = cs := by
      have key : ∀ (vs l : List Value), vs.length = l.length → ∀ p : List Value, lput (p ++ l) p.length vs = p ++ vs := by
        intro vs
        induction vs with
        | nil => intro l hl p; cases l with
          | nil => rfl
          | cons _ _ => simp at hl
        | cons a r ih => intro l hl p; cases l with
          | nil => simp at hl
          | cons c l =>
            rw [lput]
            have : (p ++ c :: l).set p.length a = (p ++ [a]) ++ l := by simp
            rw [this]
            have := ih l (by simpa using hl) (p ++ [a])
            simpa using this
      simpa using key cs cur.toList (by omega) []
    have hup := setCells_heap b e' (0, 0) u.cells.toList 0 cur.toList w hb
    rw [hus, hput] at hup
    refine hm.upd hi s1 s2 s3 (by rw [setCells_size]; exact Nat.le_refl _) (fun x _ hx => setCells_other b _ _ _ _ (fun e => hx (by rw [e]; rfl))) (fun x hx => ⟨?_, .inl hx⟩) ?_
    · have hx' : some b = some x := hx
      cases hx'
      rw [setCells_size]
      exact (Array.getElem?_eq_some_iff.1 hg).1
    · have hsame : ∀ c, fz G L w c → (w.setCells b 0 u.cells.toList).heap[c]? = w.heap[c]? := fun c hc => setCells_other b _ _ _ _ (fun e'' => hc.2.2 _ (lget_mem hi) (by rw [e'']; rfl))
      have hk := hrows.keep (F' := fz G (lset L i (ownCh El' e' (.slice (some ⟨b, 0, none⟩) len len) xs)) (w.setCells b 0 u.cells.toList)) (fun c hc => ⟨by rw [setCells_size]; exact hc.1, hc.2.1, fun x hx => by
        rcases mem_lset hi hm.disj hx with e'' | ⟨e1, _⟩
        · subst e''; exact fun hk => hc.2.2 _ (lget_mem hi) hk
        · exact hc.2.2 x e1⟩) hsame
      subst hl
      have h0' := hk.length
      rw [hfl] at h0'
      refine ⟨css, hk, by rw [hfl]; exact h0', .inr ⟨b, xs.length, cs.toArray, rfl, hg0, by rw [hus]; exact hup, Nat.le_refl _, hcm, by simpa using h0', by rw [hfl, ← h0']; simp⟩⟩
theorem rows_l4 {α : Type} {El' : El α} {F : Nat → Prop} {w : World} {a b c d : α} {css : List (List Value)} (h : Rows El' F w [a, b, c, d] css) : ∃ c0 c1 c2 c3, css = [c0, c1, c2, c3] ∧ El'.cells F w a c0 ∧ El'.cells F w b c1 ∧ El'.cells F w c c2 ∧ El'.cells F w d c3 := by
  match css, h with
  | [c0, c1, c2, c3], h => exact ⟨c0, c1, c2, c3, rfl, h.1, h.2.1, h.2.2.1, h.2.2.2.1⟩
  | [], h => exact h.elim
  | [_], h => exact h.2.elim
  | [_, _], h => exact h.2.2.elim
  | [_, _, _], h => exact h.2.2.2.elim
  | _ :: _ :: _ :: _ :: _ :: _, h => exact h.2.2.2.2.elim
end

end
section

open Go.RowKit

def SlAll {α : Type} (E : El α) (F : Nat → Prop) (w : World) : List Value → List (List α) → Prop
  | [], [] => True
  | v :: vs, x :: xs => Sl E F w v x ∧ SlAll E F w vs xs
  | _, _ => False
theorem SlAll.get {α : Type} {E : El α} {F : Nat → Prop} {w : World} : ∀ {vs : List Value} {xs : List (List α)}, SlAll E F w vs xs → ∀ {i : Nat} {z : List α}, xs[i]? = some z → ∃ v, vs[i]? = some v ∧ Sl E F w v z
  | [], [], _, i, z, h => by simp at h
  | v :: vs, x :: xs, h, 0, z, hz => by simp at hz; subst hz; exact ⟨v, rfl, h.1⟩
  | v :: vs, x :: xs, h, i + 1, z, hz => by simpa using SlAll.get h.2 (by simpa using hz)
  | [], _ :: _, h, _, _, _ => h.elim
  | _ :: _, [], h, _, _, _ => h.elim

section
variable {P : Program} {n : Nat} {G D : Nat → Prop} {w0 : World} {Q : Exit → Act → World → Prop} {R : Act → World → Prop} {E : Env} {L M : List Ch} {φ : Prop}
variable {d : Tmp} {ty : TypeId} {pos : String} {aft : Array Edge} {gd : Option (Nat × Bool)} {Tk : Act → World → Prop} {Lr : List Ch} {x y : Operand} {T T' S : TypeId} {e sz by' : Nat} {dst : Option Tmp} {at' : Array TypeId}
/-- what a call runs -/
def Runs (P : Program) (E : Env) (o : Oper) (f : Nat) (vs : List Value) : Prop := ∀ (ρ : Operand → Value) w, (∀ x v, oev E x = some v → ρ x = v) → (execOp ρ o).run P w = .ok (.enter f vs.toArray) w
theorem runs_val {f : Nat} {l : List Operand} {vs : List Value} {cv : Array Value} (hx : oev E x = some (.func (.func f) #[] cv)) (hargs : oevs E l = some vs) (hf : ∀ args w, (callFunc f args).run P w = .ok (.enter f args) w) :
    Runs P E ⟨dst, .call { callee := .value x, args := l.toArray, argTypes := at' }, ty, pos, aft, gd⟩ f (vs ++ cv.toList) := fun ρ w hE => by
  have h := oevs_map hE hargs
  simp [execOp, resolve, Deferred.ofValue, hE _ _ hx, invoke, hf, ← h]
theorem o_callX {o : Oper} {ρ ν : Type} {f : Nat} {vs : List Value} {κ : ρ → Prop} {val : ρ → ν → Value} {N : ρ → ν → List Ch} {M0 L' : List Ch} (ho : o.dst = some d) (hr : Runs P E o f vs) (hd : Nat.blt d n = true)
    (hc : ∀ w, Mem G D w0 (M0 ++ L') w → φ → Calls P f vs.toArray w (Ret M0 (fz G (M0 ++ L') w) w κ val N)) (k : ∀ r s, Nx n G D w0 R ((d, val r s) :: E) (N r s ++ L') (κ r)) :
    Nx n G D w0 (fun a w => Oper.wp P o a w R Q) E (M0 ++ L') φ := fun a w hE hm hφ => by
  show Oper.upon P _ a R Q _
  rw [hr a.eval w (fun x v h => hE.eval h), Oper.upon_enter]
  refine (hc w hm hφ).mono ?_
  rintro e w' ⟨r, s, h1, rfl, h2, h3⟩
  rw [ho]
  exact k r s _ _ (hE.put hd _) (hm.call h2 h3) h1
theorem o_callXP {o : Oper} {ρ ν : Type} {f : Nat} {vs : List Value} {κ : ρ → Prop} {val : ρ → ν → Value} {N : ρ → ν → List Ch} (ho : o.dst = some d) (hr : Runs P E o f vs) (hd : Nat.blt d n = true)
    (hc : ∀ w, Mem G D w0 L w → φ → Calls P f vs.toArray w (Ret [] (fz G L w) w κ val N)) (k : ∀ r s, Nx n G D w0 R ((d, val r s) :: E) (N r s ++ L) (κ r)) : Nx n G D w0 (fun a w => Oper.wp P o a w R Q) E L φ :=
  o_callX (M0 := []) (L' := L) ho hr hd hc k
/-- an array in memory as plain cells -/
theorem nx_unarr {α : Type} {El' : El α} {xs : List α} {b len : Nat} (i : Nat) (hi : lget L i = some (ownCh El' T (.slice (some ⟨b, 0, none⟩) len len) xs)) (h1 : xs.length = len) (hes : len * El'.size = sz) (hpos : 0 < len) (h : ∀ wr F0 css, Rows El' F0 wr xs css → Nx n G D w0 R E (snapCh wr F0 :: lset L i (cellCh b css.flatten T)) φ) : Nx n G D w0 R E L φ := fun a w hE hm hφ => by
  obtain ⟨css, hr, h0, how⟩ := hm.get hi
  rcases how with ⟨h, _⟩ | ⟨g, cap, cur, h, hg0, hg, hnc, hcm, hcz, htake⟩
  · cases h
  simp only [Value.slice.injEq, Option.some.injEq, Addr.mk.injEq] at h
  obtain ⟨⟨rfl, -, -⟩, -, rfl⟩ := h
  have hcur : cur.toList = css.flatten := by
    rw [← htake, h1, List.take_of_length_le (by rw [Array.length_toList, hcz]; exact Nat.le_refl _)]
  have hmem := lget_mem hi
  have hup : Mem G D w0 (lset L i (cellCh b css.flatten T)) w := by
    refine hm.upd hi rfl rfl rfl (Nat.le_refl _) (fun _ _ _ => rfl) (fun c hc => ?_) ?_
    · have hc' : c = b := hc
      subst hc'
      exact ⟨(Array.getElem?_eq_some_iff.1 hg).1, .inl rfl⟩
    · show w.heap[b]? = some (.cells css.flatten.toArray T (0, 0))
      rw [hg, ← hcur]
  refine h w (fz G L w) css hr a w hE (hup.note (fun b hb => hb) ⟨fun c hc => ⟨hc.1, hc.2.1, fun d hd => ?_⟩, fun _ _ => rfl⟩) hφ
  rcases mem_lset hi hm.disj hd with e' | ⟨e1, _⟩
  · subst e'; exact fun hk => hc.2.2 _ hmem (by rw [show c = b from hk]; rfl)
  · exact hc.2.2 d e1
theorem rows_f4 {α : Type} {El' : El α} {enc : α → List Value} (hfl : Flat El' enc) {F : Nat → Prop} {w : World} {a b c d : α} {css : List (List Value)} (h : Rows El' F w [a, b, c, d] css) : css = [enc a, enc b, enc c, enc d] := by
  obtain ⟨_, _, _, _, rfl, h0, h1, h2, h3⟩ := rows_l4 h
  rw [(hfl _ _ _ _).1 h0, (hfl _ _ _ _).1 h1, (hfl _ _ _ _).1 h2, (hfl _ _ _ _).1 h3]
end

end

end Go.Proofs.YtdjfbceokpofmaaDoor
