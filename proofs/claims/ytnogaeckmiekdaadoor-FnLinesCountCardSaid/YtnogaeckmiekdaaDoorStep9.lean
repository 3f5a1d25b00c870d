/- Steps of printed walks: strings. -/
import Derived.Test.YtnogaeckmiekdaaDoorStep8
import Derived.Laws.BytesString
import Derived.Laws.Cells
set_option linter.unusedSimpArgs false
set_option linter.unusedVariables false
set_option linter.unusedSectionVars false
namespace Go.Proofs.YtnogaeckmiekdaaDoor
open Go.RowKit

/-! the pure side -/
def byteU (x : Int) (κ : UInt8 → Prop) : Prop := 0 ≤ x ∧ x ≤ 255 ∧ κ (UInt8.ofNat x.toNat)
def catW (a b : ByteArray) (κ : ByteArray → Prop) : Prop := a.size + b.size ≤ 9223372036854775807 ∧ κ (a ++ b)
def sliceS (s : ByteArray) (lo hi : Int) (κ : ByteArray → Prop) : Prop := 0 ≤ lo ∧ lo ≤ hi ∧ hi ≤ s.size ∧ κ (s.extract lo.toNat hi.toNat)

theorem bytes_get (s : ByteArray) (n : Nat) : s[n]? = s.data.toList[n]? := by
  obtain ⟨d⟩ := s
  rw [Array.getElem?_toList]
  by_cases h : n < d.size
  · rw [Array.getElem?_eq_getElem h]
    exact getElem?_pos (ByteArray.mk d) n h
  · rw [Array.getElem?_eq_none (by show d.size ≤ n; omega)]
    exact getElem?_neg (ByteArray.mk d) n h
section
variable {P : Program} {n : Nat} {G D : Nat → Prop} {w0 : World} {Q : Exit → Act → World → Prop} {R : Act → World → Prop} {E : Env} {L : List Ch} {φ : Prop}
variable {d : Tmp} {ty : TypeId} {pos : String} {aft : Array Edge} {gd : Option (Nat × Bool)} {Tk : Act → World → Prop} {Lr : List Ch} {x y : Operand} {T T' S : TypeId}

theorem o_lenS (M : Mode P n G D w0 E ⟨some d, .call { callee := .builtin .len, args := #[x], argTypes := #[T] }, ty, pos, aft, gd⟩ Tk R Lr L) {X : ByteArray} (hT : P.underlying T = some .string) (hx : oev E x = some (.string X)) (hd : Nat.blt d n = true)
    (k : Nx n G D w0 R ((d, .int .i64 X.size) :: E) L φ) : Nx n G D w0 Tk E L φ :=
  M.val hd rfl (fun ρ w hE hm _ => by simp [execOp, go_sem, hE _ _ hx, run_underlying hT, hT]) id k
theorem o_ixs (M : Mode P n G D w0 E ⟨some d, .index T x y, ty, pos, aft, gd⟩ Tk R Lr L) {X : ByteArray} {I : Int} {κ : UInt8 → Prop} (hT : P.underlying T = some .string) (hx : oev E x = some (.string X)) (hy : oev E y = some (.int .i64 I)) (hd : Nat.blt d n = true)
    (k : ∀ z : UInt8, Nx n G D w0 R ((d, .int .u8 (z.toNat : Int)) :: E) L (κ z)) : Nx n G D w0 Tk E L (idxW X.data.toList I κ) := fun a w hE hm hφ => by
  obtain ⟨z, h0, h1, h2⟩ := hφ
  refine (M.val (v := .int .u8 (z.toNat : Int)) (φ := κ z) (ψ := κ z) hd rfl (fun ρ w hE hm hφ => ?_) id (k z)) a w hE hm h2
  rw [← bytes_get] at h1
  simp [execOp, hE _ _ hx, hE _ _ hy, Instr.index, asIntOf, run_underlying hT, h0, h1]
theorem o_sls {lo hi : Option Operand} {X : ByteArray} {I J : Int} {κ : ByteArray → Prop} (M : Mode P n G D w0 E ⟨some d, .slice T x lo hi none, ty, pos, aft, gd⟩ Tk R Lr L) (hT : P.underlying T = some .string) (hx : oev E x = some (.string X))
    (hlo : match lo with | none => I = 0 | some l => oev E l = some (.int .i64 I)) (hhi : match hi with | none => J = X.size | some h => oev E h = some (.int .i64 J)) (hd : Nat.blt d n = true)
    (k : ∀ z, Nx n G D w0 R ((d, .string z) :: E) L (κ z)) : Nx n G D w0 Tk E L (sliceS X I J κ) := fun a w hE hm hφ => by
  obtain ⟨h0, h1, h2, h3⟩ := hφ
  refine (M.val (v := .string (X.extract I.toNat J.toNat)) (φ := κ _) (ψ := κ _) hd rfl (fun ρ w hE hm hφ => ?_) id (k _)) a w hE hm h3
  have e2 : 0 ≤ J := by omega
  cases lo with
  | none =>
    cases hi with
    | none =>
      simp only at hlo hhi
      subst hlo hhi
      simp [execOp, hE _ _ hx, Instr.sliceAt, Instr.slice, Instr.sliceBounds, run_underlying hT]
    | some hh =>
      simp only at hlo hhi
      subst hlo
      simp [execOp, hE _ _ hx, hE _ _ hhi, Instr.sliceAt, Instr.slice, Instr.sliceBounds, Instr.sliceBound, asIntOf, run_underlying hT, h2, e2]
  | some ll =>
    cases hi with
    | none =>
      simp only at hlo hhi
      subst hhi
      simp [execOp, hE _ _ hx, hE _ _ hlo, Instr.sliceAt, Instr.slice, Instr.sliceBounds, Instr.sliceBound, asIntOf, run_underlying hT, h0, h1]
    | some hh =>
      simp only at hlo hhi
      have e3 : I ≤ ((J.toNat : Nat) : Int) := by omega
      have e4 : I ≤ J := h1
      have e5 : ¬ (max J 0 < I) := by omega
      simp [execOp, hE _ _ hx, hE _ _ hlo, hE _ _ hhi, Instr.sliceAt, Instr.slice, Instr.sliceBounds, Instr.sliceBound, asIntOf, run_underlying hT, h0, h2, e2, e3, e4, e5]
theorem o_cat (M : Mode P n G D w0 E ⟨some d, .binOp .add T x y T', ty, pos, aft, gd⟩ Tk R Lr L) {X Y : ByteArray} {κ : ByteArray → Prop} (hx : oev E x = some (.string X)) (hy : oev E y = some (.string Y)) (hd : Nat.blt d n = true) (k : ∀ z, Nx n G D w0 R ((d, .string z) :: E) L (κ z)) :
    Nx n G D w0 Tk E L (catW X Y κ) := fun a w hE hm hφ => by
  refine (M.val (v := .string (X ++ Y)) (φ := κ _) (ψ := κ _) hd rfl (fun ρ w hE hm h => ?_) id (k _)) a w hE hm hφ.2
  have h1 : ¬ (9223372036854775807 < (X.size : Int) + (Y.size : Int)) := by have := hφ.1; omega
  simp [execOp, hE _ _ hx, hE _ _ hy, go_sem, Op.stringOp, IntKind.max, IntKind.signed, IntKind.bits, h1]
theorem str_eq (X Y : ByteArray) : (X.toList == Y.toList) = decide (X = Y) := by
  rw [ByteArray.toList_eq, ByteArray.toList_eq]
  by_cases h : X = Y
  · subst h; simp
  · have : ¬ X.data = Y.data := fun e => h (by obtain ⟨a⟩ := X; obtain ⟨b⟩ := Y; simp only at e; rw [e])
    simp [h, this]
theorem o_eqlS (M : Mode P n G D w0 E ⟨some d, .binOp .eql T x y T', ty, pos, aft, gd⟩ Tk R Lr L) {X Y : ByteArray} (hT : P.underlying T = some .string) (hx : oev E x = some (.string X)) (hy : oev E y = some (.string Y)) (hd : Nat.blt d n = true) (k : Nx n G D w0 R ((d, .bool (decide (X = Y))) :: E) L φ) :
    Nx n G D w0 Tk E L φ :=
  M.val hd rfl (fun ρ w hE _ _ => by simp [execOp, hE _ _ hx, hE _ _ hy, go_sem, hT, run_underlying hT, Op.stringOp, str_eq]) id k
theorem o_neqS (M : Mode P n G D w0 E ⟨some d, .binOp .neq T x y T', ty, pos, aft, gd⟩ Tk R Lr L) {X Y : ByteArray} (hT : P.underlying T = some .string) (hx : oev E x = some (.string X)) (hy : oev E y = some (.string Y)) (hd : Nat.blt d n = true) (k : Nx n G D w0 R ((d, .bool (!decide (X = Y))) :: E) L φ) :
    Nx n G D w0 Tk E L φ :=
  M.val hd rfl (fun ρ w hE _ _ => by simp [execOp, hE _ _ hx, hE _ _ hy, go_sem, hT, run_underlying hT, Op.stringOp, str_eq]) id k

/-! one of two conditions -/
theorem nx_l {A B : Prop} (h : Nx n G D w0 R E L A) : Nx n G D w0 R E L (A ∧ B) := fun a w hE hm hφ => h a w hE hm hφ.1
theorem nx_r {A B : Prop} (h : Nx n G D w0 R E L B) : Nx n G D w0 R E L (A ∧ B) := fun a w hE hm hφ => h a w hE hm hφ.2
/-! a byte of an int -/
theorem o_cnvU (M : Mode P n G D w0 E ⟨some d, .convert T T' x, ty, pos, aft, gd⟩ Tk R Lr L) {X : Int} {κ : UInt8 → Prop} (hT : P.underlying T = some (.int .i64)) (hT' : P.underlying T' = some (.int .u8)) (hx : oev E x = some (.int .i64 X)) (hd : Nat.blt d n = true) (k : ∀ z : UInt8, Nx n G D w0 R ((d, .int .u8 (z.toNat : Int)) :: E) L (κ z)) :
    Nx n G D w0 Tk E L (byteU X κ) := fun a w hE hm hφ => by
  obtain ⟨h1, h2, h3⟩ := hφ
  refine (o_cnvB (κ := fun z => z = X) M hT hT' hx hd (fun z => ?_)) a w hE hm ⟨h1, h2, rfl⟩
  rintro a' w' hE' hm' rfl
  have e : ((UInt8.ofNat z.toNat).toNat : Int) = z := by
    simp
    omega
  have hk := k (UInt8.ofNat z.toNat)
  rw [e] at hk
  exact hk a' w' hE' hm' h3
/-! bit operations, as values -/
theorem o_and (M : Mode P n G D w0 E ⟨some d, .binOp .and T x y T', ty, pos, aft, gd⟩ Tk R Lr L) {X Y : Int} (hx : oev E x = some (.int .i64 X)) (hy : oev E y = some (.int .i64 Y)) (hd : Nat.blt d n = true) (k : Nx n G D w0 R ((d, .int .i64 (bits .and .i64 X Y)) :: E) L φ) : Nx n G D w0 Tk E L φ :=
  M.val hd rfl (fun ρ w hE _ _ => by simp [execOp, hE _ _ hx, hE _ _ hy, go_sem]) id k
theorem o_or (M : Mode P n G D w0 E ⟨some d, .binOp .or T x y T', ty, pos, aft, gd⟩ Tk R Lr L) {X Y : Int} (hx : oev E x = some (.int .i64 X)) (hy : oev E y = some (.int .i64 Y)) (hd : Nat.blt d n = true) (k : Nx n G D w0 R ((d, .int .i64 (bits .or .i64 X Y)) :: E) L φ) : Nx n G D w0 Tk E L φ :=
  M.val hd rfl (fun ρ w hE _ _ => by simp [execOp, hE _ _ hx, hE _ _ hy, go_sem]) id k
theorem o_andNot (M : Mode P n G D w0 E ⟨some d, .binOp .andNot T x y T', ty, pos, aft, gd⟩ Tk R Lr L) {X Y : Int} (hx : oev E x = some (.int .i64 X)) (hy : oev E y = some (.int .i64 Y)) (hd : Nat.blt d n = true) (k : Nx n G D w0 R ((d, .int .i64 (bits .andNot .i64 X Y)) :: E) L φ) : Nx n G D w0 Tk E L φ :=
  M.val hd rfl (fun ρ w hE _ _ => by simp [execOp, hE _ _ hx, hE _ _ hy, go_sem]) id k
/-! bytes to a string -/
def encU8' (x : UInt8) : List Value := [.int .u8 (x.toNat : Int)]
theorem push_all : ∀ (xs : List UInt8) (s : ByteArray), (xs.map fun x => (x.toNat : Int)).foldl (fun r n => r.push (UInt8.ofNat n.toNat)) s = ⟨s.data ++ xs.toArray⟩
  | [], s => by simp
  | x :: r, s => by
    simp only [List.map_cons, List.foldl_cons]
    rw [push_all r]
    obtain ⟨d⟩ := s
    simp [ByteArray.push]
theorem o_b2s (M : Mode P n G D w0 E ⟨some d, .convert T T' x, ty, pos, aft, gd⟩ Tk R Lr L) {El' : El UInt8} {v : Value} {xs : List UInt8} {c : Ch} {e : TypeId} (i : Nat) (hi : lget Lr i = some c) (hc : Reads c El' v xs) (hfl : Flat El' encU8') (hsz : El'.size = 1)
    (hT : P.underlying T = some (.slice e)) (hE : P.underlying e = some (.int .u8)) (hT' : P.underlying T' = some .string) (hx : oev E x = some v) (hd : Nat.blt d n = true) (k : Nx n G D w0 R ((d, .string ⟨xs.toArray⟩) :: E) L φ) : Nx n G D w0 Tk E L φ :=
  M.val hd rfl (fun ρ w hEv hm _ => by
    obtain ⟨a, cap, rfl, hcap, hr⟩ := hc _ _ (hm.get hi)
    have key : (Conv.bytesToString (.slice a xs.length cap)).run P w = .ok (.string ⟨xs.toArray⟩) w := by
      cases xs with
      | nil =>
        cases a with
        | none => simp [Conv.bytesToString, Sem.run_pure]; rfl
        | some a =>
          have := run_bytesToString (P := P) w a 0 cap [] (by simp [loadCells, loadCellsFrom])
          have e0 : (⟨([] : List UInt8).toArray⟩ : ByteArray) = ByteArray.empty := rfl
          rw [e0]
          simpa using this
      | cons z r =>
        obtain ⟨b, off, rfl, _, hx'⟩ := hr (by simp)
        have hl := run_loadCells_list (P := P) (w := w) ⟨b, off, none⟩ ((z :: r).map fun x => .int .u8 (x.toNat : Int)) (fun j v hv => by
          rw [List.getElem?_map] at hv
          cases hz : (z :: r)[j]? with
          | none => rw [hz] at hv; simp at hv
          | some q =>
            rw [hz] at hv
            simp at hv
            subst hv
            obtain ⟨cs, h1, h2⟩ := hx' j q hz
            rw [(hfl _ _ _ _).1 h1] at h2
            have := h2 0 (.int .u8 (q.toNat : Int)) rfl
            rw [hsz] at this
            rw [Addr.add_mid]
            simpa using this)
        have hl' : (loadCells ⟨b, off, none⟩ (z :: r).length).run P w = .ok (((z :: r).map fun x => (x.toNat : Int)).map (Value.int .u8)).toArray w := by
          have e1 : ((z :: r).map fun x => Value.int .u8 (x.toNat : Int)) = (((z :: r).map fun x => (x.toNat : Int)).map (Value.int .u8)) := by simp
          rw [e1] at hl
          simpa using hl
        have := run_bytesToString (P := P) w ⟨b, off, none⟩ (z :: r).length cap ((z :: r).map fun x => (x.toNat : Int)) hl'
        rw [push_all] at this
        rw [this]
        congr 3
        simp [ByteArray.empty, ByteArray.emptyWithCapacity]
        rfl
    have hcv := run_convert_bytes_string (P := P) w T T' e a xs.length cap hT hE hT'
    simp only [execOp, hEv _ _ hx, Sem.run_bind, hcv, key]
    rfl) id k
end
end Go.Proofs.YtnogaeckmiekdaaDoor
