/- Steps of printed walks: arrays, package-level variables. -/
import Derived.Test.YtnogaeckmiekdaaDoorStep6
set_option linter.unusedSimpArgs false
set_option linter.unusedVariables false
namespace Go.Proofs.YtnogaeckmiekdaaDoor
open Go.RowKit

def arrB (P : Program) (T : TypeId) : Option (Nat × TypeId × Bool × Nat) :=
  match P.underlying T with
  | some (.array len e) => match tyB P e with
    | some (r, s) => some (len, e, r, s)
    | none => none
  | _ => none
section
variable {P : Program} {n : Nat} {G D : Nat → Prop} {w0 : World} {Q : Exit → Act → World → Prop} {R : Act → World → Prop} {E : Env} {L : List Ch} {φ : Prop}
variable {d : Tmp} {ty : TypeId} {pos : String} {aft : Array Edge} {gd : Option (Nat × Bool)} {Tk : Act → World → Prop} {Lr : List Ch} {x y : Operand} {T T' S : TypeId}

theorem arr_of {len : Nat} {e : TypeId} {row : Bool} {sz : Nat} (h : arrB P T = some (len, e, row, sz)) : P.underlying T = some (.array len e) ∧ tyB P e = some (row, sz) := by
  unfold arrB at h
  split at h
  · rename_i l e' hu
    split at h
    · rename_i r s ht
      simp at h
      obtain ⟨rfl, rfl, rfl, rfl⟩ := h
      exact ⟨hu, ht⟩
    · simp at h
  · simp at h
theorem info_sz {row : Bool} {sz : Nat} (hT : tyB P T = some (row, sz)) : ∃ i, P.info? T = some i ∧ i.size = sz := by
  have := info_of hT
  cases hq : P.info? T with
  | none => simp [hq] at this
  | some i => exact ⟨i, rfl, by simpa [hq] using this⟩
theorem run_partv {w : World} {row : Bool} {sz o : Nat} {cs : List Value} {v : Value} (hT : tyB P T = some (row, sz)) (hv : ldv row o sz cs = some v) : (part T cs.toArray o).run P w = .ok v w := by
  obtain ⟨i, hq, hi⟩ := info_sz hT
  unfold tyB at hT
  cases row with
  | true =>
    simp only [ldv] at hv
    cases hl : Nat.beq ((cs.drop o).take sz).length sz with
    | false => rw [hl] at hv; simp at hv
    | true =>
      rw [hl] at hv
      simp only [cond_true, Option.some.injEq] at hv
      have ha : (isAgg T).run P w = .ok true w := by
        unfold isAgg
        split at hT
        · rename_i hu' _; simp [Sem.run_bind, run_underlying hu' w]
        · rename_i hu' _; simp [Sem.run_bind, run_underlying hu' w]
        · simp at hT
        · simp at hT
      subst hv
      simp [part, ha, sizeOf, typeInfo, hq, hi, List.extract_eq_take_drop]
  | false =>
    simp only [ldv] at hv
    cases hl : Nat.beq sz 1 with
    | false => rw [hl] at hv; simp at hv
    | true =>
      rw [hl] at hv
      simp only [cond_true] at hv
      have ha : (isAgg T).run P w = .ok false w := by
        unfold isAgg
        split at hT
        · simp at hT
        · simp at hT
        · rename_i d i hns hna hu' hi'; rw [Sem.run_bind, run_underlying hu' w]; cases d <;> simp_all
        · simp at hT
      simp [part, ha, hv]
/-- an element of an array that is a value -/
theorem flat_get {α : Type} {enc : α → List Value} {sz : Nat} (he : ∀ z, (enc z).length = sz) : ∀ (zs : List α) (i : Nat) (z : α), zs[i]? = some z → ∀ row v, ldv row 0 sz (enc z) = some v → ldv row (i * sz) sz (zs.flatMap enc) = some v
  | [], i, z, h, _, _, _ => by simp at h
  | x :: r, 0, z, h, row, v, hv => by
    simp at h; subst h
    have hl := he x
    rw [Nat.zero_mul, List.flatMap_cons]
    cases row with
    | true =>
      simp only [ldv, List.drop_zero] at hv ⊢
      rw [List.take_append_of_le_length (by omega)]
      exact hv
    | false =>
      simp only [ldv] at hv ⊢
      cases h1 : Nat.beq sz 1 with
      | false => rw [h1] at hv; simp at hv
      | true =>
        rw [h1] at hv
        have := Nat.eq_of_beq_eq_true h1
        simp only [cond_true] at hv ⊢
        rw [List.getElem?_append_left (by omega)]
        exact hv
  | x :: r, i + 1, z, h, row, v, hv => by
    have hl := he x
    have ih := flat_get he r i z (by simpa using h) row v hv
    rw [List.flatMap_cons]
    have e : (i + 1) * sz = (enc x).length + i * sz := by rw [Nat.add_mul, hl]; omega
    rw [e]
    cases row with
    | true =>
      simp only [ldv] at ih ⊢
      rw [List.drop_append, List.drop_of_length_le (by omega), Nat.add_sub_cancel_left, List.nil_append]
      exact ih
    | false =>
      simp only [ldv] at ih ⊢
      rw [List.getElem?_append_right (by omega), Nat.add_sub_cancel_left]
      exact ih
theorem o_ixv (M : Mode P n G D w0 E ⟨some d, .index T x y, ty, pos, aft, gd⟩ Tk R Lr L) {α : Type} {enc : α → List Value} {zs : List α} {cs : List Value} {I : Int} {κ : α → Prop} {u : α → Value} {len e sz : Nat} {row : Bool}
    (hx : oev E x = some (.agg cs.toArray)) (hy : oev E y = some (.int .i64 I)) (hd : Nat.blt d n = true) (hT : arrB P T = some (len, e, row, sz)) (hcs : zs.flatMap enc = cs) (hl : zs.length = len) (he : ∀ z, (enc z).length = sz) (hu : ∀ z, ldv row 0 sz (enc z) = some (u z))
    (k : ∀ z, Nx n G D w0 R ((d, u z) :: E) L (κ z)) : Nx n G D w0 Tk E L (idxW zs I κ) := fun a w hE hm hφ => by
  obtain ⟨z, h0, h1, h2⟩ := hφ
  refine (M.val (v := u z) (φ := κ z) (ψ := κ z) hd rfl (fun ρ w hE hm hφ => ?_) id (k z)) a w hE hm h2
  obtain ⟨hu', ht⟩ := arr_of hT
  obtain ⟨i, hq, hi⟩ := info_sz ht
  have hlt := (List.getElem?_eq_some_iff.1 h1).1
  have h5 : I < len := by omega
  have hr := run_partv (P := P) (w := w) ht (flat_get he zs _ _ h1 row _ (hu z))
  rw [hcs] at hr
  simp [execOp, hE _ _ hx, hE _ _ hy, Instr.index, asIntOf, run_underlying hu', sizeOf, typeInfo, hq, hi, h0, h5, hr]
/-- an element of an array in memory -/
theorem o_ixa (M : Mode P n G D w0 E ⟨some d, .indexAddr T x y, ty, pos, aft, gd⟩ Tk R Lr L) {α : Type} {El' : El α} {b o cap : Nat} {xs : List α} {c : Ch} {I : Int} {κ : α → Prop} {len e sz : Nat} {row : Bool} (i : Nat) (hi : lget Lr i = some c) (hc : Reads c El' (.slice (some ⟨b, o, none⟩) len cap) xs) (hx : oev E x = some (.pointer (some ⟨b, o, none⟩))) (hy : oev E y = some (.int .i64 I)) (hd : Nat.blt d n = true)
    (hT : arrB P T = some (len, e, row, sz)) (k : ∀ z, xs[I.toNat]? = some z → Nx n G D w0 R ((d, pEl (.slice (some ⟨b, o, none⟩) len cap) I sz 0) :: E) L (κ z)) :
    Nx n G D w0 Tk E L (idxW xs I κ) :=
  M.val (v := pEl (.slice (some ⟨b, o, none⟩) len cap) I sz 0) (ψ := idxW xs I κ) hd rfl (fun ρ w hE hm hφ => by
    obtain ⟨z, h0, h1, h2⟩ := hφ
    obtain ⟨a', cap', he, _⟩ := hc _ _ (hm.get hi)
    have hln : xs.length = len := by simp at he; exact he.2.1.symm
    have hlt := (List.getElem?_eq_some_iff.1 h1).1
    obtain ⟨hu', ht⟩ := arr_of hT
    obtain ⟨i, hq, hi⟩ := info_sz ht
    have h5 : I < len := by omega
    rw [pEl_slice]
    simp [execOp, hE _ _ hx, hE _ _ hy, Instr.indexAt, Instr.sureAddr, asIntOf, run_underlying hu', sizeOf, typeInfo, hq, hi, h0, h5, Addr.add_mid]) id (fun a w hE hm ⟨z, _, h1, h2⟩ => k z h1 a w hE hm h2)
/-! arrays are built -/
def bldA (P : Program) (T : TypeId) : Option (Nat × List Value) :=
  match P.underlying T, zeroB P T with
  | some (.array _ e), some zs => (P.info? e).map fun i => (i.size, zs)
  | _, _ => none
theorem o_bldA {ps : Array (Nat × Operand)} (M : Mode P n G D w0 E ⟨some d, .build T ps, ty, pos, aft, gd⟩ Tk R Lr L) {qs : List (Nat × Value)} {cells zs : List Value} {sz : Nat}
    (hq : ∀ ρ : Operand → Value, (∀ x v, oev E x = some v → ρ x = v) → (ps.map fun (i, x) => (i, ρ x)) = qs.toArray) (hd : Nat.blt d n = true) (hT : bldA P T = some (sz, zs)) (hfill' : lfill (fun i => some (i * sz, sz)) zs qs = some cells)
    (k : Nx n G D w0 R ((d, .agg cells.toArray) :: E) L φ) : Nx n G D w0 Tk E L φ :=
  M.val hd rfl (fun ρ w hE hm _ => by
    have hfill := fill_of _ _ _ _ hfill'
    unfold bldA at hT
    split at hT
    · rename_i l e zs' hu hz
      cases he : P.info? e with
      | none => simp [he] at hT
      | some j =>
        simp [he] at hT
        obtain ⟨rfl, rfl⟩ := hT
        cases hi : P.info? T with
        | none => simp [zeroB, hi] at hz
        | some i =>
          obtain ⟨z, hz1, hz2⟩ := zeroB_spec hz hi
          have hz3 : (zeroValue T).run P w = .ok z w := by simp [zeroValue, typeInfo, hi, hz1]
          have hb : (Instr.build T qs.toArray).run P w = .ok (.agg cells.toArray) w := by
            unfold Instr.build
            rw [Sem.run_bind, hz3, Result.andThen_ok, Sem.run_bind, run_underlying hu, Result.andThen_ok]
            simp only
            rw [Sem.run_bind]
            have : (sizeOf e).run P w = .ok j.size w := by simp [sizeOf, typeInfo, he]
            rw [this, Result.andThen_ok, hz2]
            rw [hfill]
            rfl
          simp only [execOp, hq ρ hE, Sem.run_bind, hb]
          rfl
    · simp at hT) id k
end
end Go.Proofs.YtnogaeckmiekdaaDoor
