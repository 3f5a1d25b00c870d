/- The steps of printed walks: memory, calls, the end of a function. -/
import Derived.Test.YtnogaeckmiekdaaDoorStep
set_option linter.unusedSimpArgs false
set_option linter.unusedVariables false
namespace Go.Proofs.YtnogaeckmiekdaaDoor
open Go.RowKit

/-! ### what the program's tables say -/
def tyB (P : Program) (T : TypeId) : Option (Bool × Nat) :=
  match P.underlying T, P.info? T with
  | some (.struct _), some i => some (true, i.size)
  | some (.array _ _), some i => some (true, i.size)
  | some _, some i => some (false, i.size)
  | _, _ => none
def fldB (P : Program) (S k : Nat) : Option (Nat × Bool × Nat) :=
  match P.underlying S with
  | some (.struct fs) => match fs[k]? with
    | some f => match tyB P f.type with
      | some (r, s) => some (f.offset, r, s)
      | none => none
    | none => none
  | _ => none
def elB (P : Program) (T : TypeId) : Option (TypeId × Nat × Nat) :=
  match P.underlying T with
  | some (.slice e) => match P.info? e with
    | some i => some (e, i.size, i.bytes)
    | none => none
  | _ => none
def zeroB (P : Program) (T : TypeId) : Option (List Value) := (P.info? T).bind fun i => i.zero.map (·.cells.toList)

/-- the value of so many cells from a place on -/
def ldv (row : Bool) (o sz : Nat) (cs : List Value) : Option Value :=
  match row with
  | true => bif Nat.beq ((cs.drop o).take sz).length sz then some (.agg ((cs.drop o).take sz).toArray) else none
  | false => bif Nat.beq sz 1 then cs[o]? else none

section
variable {P : Program} {w : World}
theorem run_ldv {T : TypeId} {row : Bool} {sz b o : Nat} {cs : List Value} {p : Nat} {v : Value} (hT : tyB P T = some (row, sz)) (hr : w.rangeAt b p cs) (hv : ldv row o sz cs = some v) :
    (Instr.loadAt T (.pointer (some ⟨b, p + o, none⟩))).run P w = .ok v w := by
  unfold tyB at hT
  cases row with
  | true =>
    simp only [ldv] at hv
    cases hl : Nat.beq ((cs.drop o).take sz).length sz with
    | false => rw [hl] at hv; simp at hv
    | true =>
      rw [hl] at hv
      simp only [cond_true, Option.some.injEq] at hv
      have hl' := Nat.eq_of_beq_eq_true hl
      have hr' : w.rangeAt b (p + o) ((cs.drop o).take sz) := fun j u hu => by
        rw [List.getElem?_take] at hu
        split at hu
        · rw [List.getElem?_drop] at hu
          have := hr (o + j) u hu
          rwa [← Nat.add_assoc] at this
        · cases hu
      subst hv
      split at hT
      · rename_i fs i hu hi
        simp at hT
        exact run_loadAt_mid w b (p + o) T _ _ hr' hu rfl (by rw [hi]; simpa [hT] using hl'.symm)
      · rename_i a c i hu hi
        simp at hT
        exact run_loadAt_mid w b (p + o) T _ _ hr' hu rfl (by rw [hi]; simpa [hT] using hl'.symm)
      · simp at hT
      · simp at hT
  | false =>
    simp only [ldv] at hv
    cases hl : Nat.beq sz 1 with
    | false => rw [hl] at hv; simp at hv
    | true =>
      rw [hl] at hv
      simp only [cond_true] at hv
      have hc := hr o v hv
      split at hT
      · simp at hT
      · simp at hT
      · rename_i d i hns hna hu hi
        have ha : (isAgg T).run P w = .ok false w := by
          unfold isAgg
          rw [Sem.run_bind, run_underlying hu w]
          cases d <;> simp_all
        simp [Instr.loadAt, Instr.sureAddr, loadVar, Sem.run_bind, ha, hc]
      · simp at hT

theorem info_of {T : TypeId} {row : Bool} {sz : Nat} (hT : tyB P T = some (row, sz)) : (P.info? T).map (·.size) = some sz := by
  unfold tyB at hT
  split at hT <;> simp_all

/-- a store -/
theorem run_stv {T : TypeId} {row : Bool} {sz b o : Nat} {u : Value} (hT : tyB P T = some (row, sz)) (hsz : Nat.beq u.cells.size sz = true) (h1 : u.cells.toList.all (·.oneCell') = true)
    (ht : w.there b o u.cells.size) : (Instr.storeAt T (.pointer (some ⟨b, o, none⟩)) u).run P w = .ok () (w.setCells b o u.cells.toList) := by
  have hz := Nat.eq_of_beq_eq_true hsz
  have hi := info_of hT
  have := run_storeCells_cells (P := P) b o u.cells.toList 0 w (fun j hj => by simpa using (ht j (by simpa using hj)).1) (fun j hj => by simpa using (ht j (by simpa using hj)).2)
    (fun v hv => List.all_eq_true.1 h1 v (by simpa using hv))
  simp only [Nat.add_zero] at this
  cases hq : P.info? T with
  | none => simp [hq] at hi
  | some i =>
    have hs : u.cells.size = i.size := by simp [hq] at hi; omega
    simp [Instr.storeAt, Instr.sureAddr, storeVar, sizeOf, typeInfo, hq, hs, this]

theorem run_fldv {S k off sz : Nat} {row : Bool} {a : Addr} (hS : fldB P S k = some (off, row, sz)) (hp : Nat.beq sz 0 = false) :
    (Instr.fieldAt S (.pointer (some a)) k).run P w = .ok (.pointer (some (a.add off))) w := by
  unfold fldB at hS
  split at hS
  · rename_i fs hu
    split at hS
    · rename_i f hf
      split at hS
      · rename_i r s hT
        simp at hS
        obtain ⟨rfl, rfl, rfl⟩ := hS
        have hi := info_of hT
        have hne : s ≠ 0 := fun e => by rw [e] at hp; simp at hp
        cases hq : P.info? f.type with
        | none => simp [hq] at hi
        | some i =>
          simp [hq] at hi
          simp [Instr.fieldAt, run_underlying hu, hf, Instr.sureAddr, fieldPlace, sizeOf, typeInfo, hq, hi, hne]
      · simp at hS
    · simp at hS
  · simp at hS

theorem run_fieldv {S k off sz : Nat} {row : Bool} {cs : List Value} {v : Value} (hS : fldB P S k = some (off, row, sz)) (hv : ldv row off sz cs = some v) :
    (Instr.field S (.agg cs.toArray) k).run P w = .ok v w := by
  unfold fldB at hS
  split at hS
  · rename_i fs hu
    split at hS
    · rename_i f hf
      split at hS
      · rename_i r s hT
        simp at hS
        obtain ⟨rfl, rfl, rfl⟩ := hS
        have hi := info_of hT
        unfold tyB at hT
        cases hq : P.info? f.type with
        | none => simp [hq] at hi
        | some i =>
          simp [hq] at hi
          cases r with
          | true =>
            simp only [ldv] at hv
            cases hl : Nat.beq ((cs.drop f.offset).take s).length s with
            | false => rw [hl] at hv; simp at hv
            | true =>
              rw [hl] at hv
              simp only [cond_true, Option.some.injEq] at hv
              have ha : (isAgg f.type).run P w = .ok true w := by
                unfold isAgg
                split at hT
                · rename_i hu' _; simp [Sem.run_bind, run_underlying hu' w]
                · rename_i hu' _; simp [Sem.run_bind, run_underlying hu' w]
                · simp at hT
                · simp at hT
              subst hv
              simp [Instr.field, run_underlying hu, hf, part, ha, asAgg, sizeOf, typeInfo, hq, hi, List.extract_eq_take_drop]
          | false =>
            simp only [ldv] at hv
            cases hl : Nat.beq s 1 with
            | false => rw [hl] at hv; simp at hv
            | true =>
              rw [hl] at hv
              simp only [cond_true] at hv
              have ha : (isAgg f.type).run P w = .ok false w := by
                unfold isAgg
                split at hT
                · simp at hT
                · simp at hT
                · rename_i d i hns hna hu' hi'; rw [Sem.run_bind, run_underlying hu' w]; cases d <;> simp_all
                · simp at hT
              simp [Instr.field, run_underlying hu, hf, part, ha, asAgg, hv]
      · simp at hS
    · simp at hS
  · simp at hS
end
end Go.Proofs.YtnogaeckmiekdaaDoor
