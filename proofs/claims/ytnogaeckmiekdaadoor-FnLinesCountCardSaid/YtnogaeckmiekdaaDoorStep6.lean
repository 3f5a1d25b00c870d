/- The steps of printed walks: further operations. -/
import Derived.Test.YtnogaeckmiekdaaDoorDrawn
import Derived.Laws.StructEq
set_option linter.unusedSimpArgs false
set_option linter.unusedVariables false
namespace Go.Proofs.YtnogaeckmiekdaaDoor
open Go.RowKit

def xorW (x y : Int) (κ : Int → Prop) : Prop := 0 ≤ x ∧ x < 4611686018427387904 ∧ 0 ≤ y ∧ y < 4611686018427387904 ∧ κ ((x.toNat ^^^ y.toNat : Nat) : Int)
def sliceW {α : Type} (xs : List α) (lo hi : Int) (κ : List α → Prop) : Prop := 0 ≤ lo ∧ lo ≤ hi ∧ hi ≤ xs.length ∧ κ ((xs.take hi.toNat).drop lo.toNat)
def byteW (x : Int) (κ : Int → Prop) : Prop := 0 ≤ x ∧ x ≤ 255 ∧ κ x
def sub8W (x y : Int) (κ : Int → Prop) : Prop := 0 ≤ y ∧ y ≤ x ∧ x ≤ 255 ∧ κ (x - y)
def shlW (x y : Int) (κ : Int → Prop) : Prop := 0 ≤ y ∧ y ≤ 62 ∧ I64 (x * 2 ^ y.toNat) ∧ κ (x * 2 ^ y.toNat)
def shrW (x y : Int) (κ : Int → Prop) : Prop := 0 ≤ y ∧ y ≤ 62 ∧ 0 ≤ x ∧ I64 x ∧ κ (x / 2 ^ y.toNat)

theorem wraps62 (n : Int) (h₀ : 0 ≤ n) (h₁ : n < 2 ^ 62) : IntKind.i64.wrap n = n := by
  have e : (2 : Int) ^ 62 = 4611686018427387904 := by decide
  rw [e] at h₁
  rw [IntKind.wrap_i64]; omega
theorem xor62 (a b : Nat) (ha : a < 2 ^ 62) (hb : b < 2 ^ 62) : bits .xor .i64 a b = ((a ^^^ b : Nat) : Int) := by
  have hp : 2 ^ 62 ≤ 2 ^ IntKind.i64.bits := by decide
  have ha' : a % 2 ^ IntKind.i64.bits = a := Nat.mod_eq_of_lt (Nat.lt_of_lt_of_le ha hp)
  have hb' : b % 2 ^ IntKind.i64.bits = b := Nat.mod_eq_of_lt (Nat.lt_of_lt_of_le hb hp)
  have cast : ∀ n : Nat, n < 2 ^ 62 → ((n : Nat) : Int) < 2 ^ 62 := fun n h => by exact_mod_cast h
  simp only [bits, BitVec.ofInt_natCast, BitVec.toNat_xor, BitVec.toNat_ofNat, ha', hb']
  exact wraps62 _ (Int.natCast_nonneg _) (cast _ (Nat.xor_lt_two_pow ha hb))

section
variable {P : Program} {n : Nat} {G D : Nat → Prop} {w0 : World} {Q : Exit → Act → World → Prop} {R : Act → World → Prop} {E : Env} {L : List Ch} {φ : Prop}
variable {d : Tmp} {ty : TypeId} {pos : String} {aft : Array Edge} {gd : Option (Nat × Bool)} {Tk : Act → World → Prop} {Lr : List Ch} {x y : Operand} {T T' S : TypeId} {e sz by' : Nat} {at' : Array TypeId}

theorem o_max (M : Mode P n G D w0 E ⟨some d, .call { callee := .builtin .max, args := #[x, y], argTypes := at' }, ty, pos, aft, gd⟩ Tk R Lr L) {X Y : Int} (hx : oev E x = some (.int .i64 X)) (hy : oev E y = some (.int .i64 Y)) (hd : Nat.blt d n = true)
    (k : Nx n G D w0 R ((d, .int .i64 (max X Y)) :: E) L φ) : Nx n G D w0 Tk E L φ :=
  M.val hd rfl (fun ρ w hE _ _ => by
    have e : (if Y > X then Y else X) = max X Y := by rw [Int.max_def]; split <;> split <;> omega
    simp [execOp, resolve, invoke, builtin, hE _ _ hx, hE _ _ hy, Builtin.max_, Builtin.max2, ← e]) id k
theorem o_min (M : Mode P n G D w0 E ⟨some d, .call { callee := .builtin .min, args := #[x, y], argTypes := at' }, ty, pos, aft, gd⟩ Tk R Lr L) {X Y : Int} (hx : oev E x = some (.int .i64 X)) (hy : oev E y = some (.int .i64 Y)) (hd : Nat.blt d n = true)
    (k : Nx n G D w0 R ((d, .int .i64 (min X Y)) :: E) L φ) : Nx n G D w0 Tk E L φ :=
  M.val hd rfl (fun ρ w hE _ _ => by
    have e : (if Y < X then Y else X) = min X Y := by rw [Int.min_def]; split <;> split <;> omega
    simp [execOp, resolve, invoke, builtin, hE _ _ hx, hE _ _ hy, Builtin.min_, Builtin.min2, ← e]) id k
theorem o_xor (M : Mode P n G D w0 E ⟨some d, .binOp .xor T x y T', ty, pos, aft, gd⟩ Tk R Lr L) {X Y : Int} {κ : Int → Prop} (hx : oev E x = some (.int .i64 X)) (hy : oev E y = some (.int .i64 Y)) (hd : Nat.blt d n = true) (k : ∀ z, Nx n G D w0 R ((d, .int .i64 z) :: E) L (κ z)) : Nx n G D w0 Tk E L (xorW X Y κ) :=
  M.val (v := .int .i64 ((X.toNat ^^^ Y.toNat : Nat) : Int)) hd rfl (fun ρ w hE _ hφ => by
    obtain ⟨h1, h2, h3, h4, _⟩ := hφ
    have e0 : (2 : Nat) ^ 62 = 4611686018427387904 := by decide
    have e := xor62 X.toNat Y.toNat (by omega) (by omega)
    rw [Int.toNat_of_nonneg h1, Int.toNat_of_nonneg h3] at e
    simp [execOp, hE _ _ hx, hE _ _ hy, go_sem, e]) (fun h => h.2.2.2.2) (k _)
theorem o_sub8 (M : Mode P n G D w0 E ⟨some d, .binOp .sub T x y T', ty, pos, aft, gd⟩ Tk R Lr L) {X Y : Int} {κ : Int → Prop} (hx : oev E x = some (.int .u8 X)) (hy : oev E y = some (.int .u8 Y)) (hd : Nat.blt d n = true) (k : ∀ z, Nx n G D w0 R ((d, .int .u8 z) :: E) L (κ z)) : Nx n G D w0 Tk E L (sub8W X Y κ) :=
  M.val (v := .int .u8 (X - Y)) hd rfl (fun ρ w hE _ hφ => by
    obtain ⟨h1, h2, h3, _⟩ := hφ
    have e : IntKind.u8.wrap (X - Y) = X - Y := by
      simp [IntKind.wrap, IntKind.signed, IntKind.bits]
      omega
    simp [execOp, hE _ _ hx, hE _ _ hy, go_sem, e]) (fun h => h.2.2.2) (k _)
theorem o_cnvI (M : Mode P n G D w0 E ⟨some d, .convert T T' x, ty, pos, aft, gd⟩ Tk R Lr L) {X : UInt8} (hT : P.underlying T = some (.int .u8)) (hT' : P.underlying T' = some (.int .i64)) (hx : oev E x = some (.int .u8 (X.toNat : Int))) (hd : Nat.blt d n = true) (k : Nx n G D w0 R ((d, .int .i64 (X.toNat : Int)) :: E) L φ) : Nx n G D w0 Tk E L φ :=
  M.val hd rfl (fun ρ w hE _ _ => by
    have h := X.toNat_lt
    have e : IntKind.i64.wrap (X.toNat : Int) = (X.toNat : Int) := by rw [IntKind.wrap_i64]; omega
    simp [execOp, hE _ _ hx, go_sem, convert, run_underlying hT, run_underlying hT', e]) id k
theorem o_cnvi (M : Mode P n G D w0 E ⟨some d, .convert T T' x, ty, pos, aft, gd⟩ Tk R Lr L) {X : Int} {κ : Int → Prop} (hT : P.underlying T = some (.int .u8)) (hT' : P.underlying T' = some (.int .i64)) (hx : oev E x = some (.int .u8 X)) (hd : Nat.blt d n = true) (k : Nx n G D w0 R ((d, .int .i64 X) :: E) L (κ X)) : Nx n G D w0 Tk E L (byteW X κ) :=
  M.val hd rfl (fun ρ w hE _ hφ => by
    obtain ⟨h1, h2, _⟩ := hφ
    have e : IntKind.i64.wrap X = X := by rw [IntKind.wrap_i64]; omega
    simp [execOp, hE _ _ hx, go_sem, convert, run_underlying hT, run_underlying hT', e]) (fun h => h.2.2) k
theorem o_cnvB (M : Mode P n G D w0 E ⟨some d, .convert T T' x, ty, pos, aft, gd⟩ Tk R Lr L) {X : Int} {κ : Int → Prop} (hT : P.underlying T = some (.int .i64)) (hT' : P.underlying T' = some (.int .u8)) (hx : oev E x = some (.int .i64 X)) (hd : Nat.blt d n = true) (k : ∀ z, Nx n G D w0 R ((d, .int .u8 z) :: E) L (κ z)) : Nx n G D w0 Tk E L (byteW X κ) :=
  M.val (v := .int .u8 X) hd rfl (fun ρ w hE _ hφ => by
    obtain ⟨h1, h2, _⟩ := hφ
    have e : IntKind.u8.wrap X = X := by simp [IntKind.wrap, IntKind.signed, IntKind.bits]; omega
    simp [execOp, hE _ _ hx, go_sem, convert, run_underlying hT, run_underlying hT', e]) (fun h => h.2.2) (k _)
theorem o_cnvS (M : Mode P n G D w0 E ⟨some d, .convert T T' x, ty, pos, aft, gd⟩ Tk R Lr L) {X : Int} (hT : P.underlying T = some (.int .i64)) (hT' : P.underlying T' = some (.int .i64)) (hx : oev E x = some (.int .i64 X)) (hd : Nat.blt d n = true) (k : Nx n G D w0 R ((d, .int .i64 (IntKind.i64.wrap X)) :: E) L φ) : Nx n G D w0 Tk E L φ :=
  M.val hd rfl (fun ρ w hE _ _ => by
    simp [execOp, hE _ _ hx, go_sem, convert, run_underlying hT, run_underlying hT']) id k
theorem hM_nil {w : World} : ∀ c ∈ ([] : List Ch), ∀ b, c.foot b → b < w.heap.size := fun c h => by simp at h
theorem o_shl (M : Mode P n G D w0 E ⟨some d, .binOp .shl T x y T', ty, pos, aft, gd⟩ Tk R Lr L) {X Y : Int} {K : IntKind} {κ : Int → Prop} (hx : oev E x = some (.int .i64 X)) (hy : oev E y = some (.int K Y)) (hd : Nat.blt d n = true) (k : ∀ z, Nx n G D w0 R ((d, .int .i64 z) :: E) L (κ z)) : Nx n G D w0 Tk E L (shlW X Y κ) :=
  M.val (v := .int .i64 (X * 2 ^ Y.toNat)) hd rfl (fun ρ w hE _ hφ => by
    obtain ⟨h1, h2, h3, _⟩ := hφ
    have e : IntKind.i64.wrap (X * 2 ^ Y.toNat) = X * 2 ^ Y.toNat := by unfold I64 at h3; rw [IntKind.wrap_i64]; omega
    have e1 : ¬ Y < 0 := by omega
    have e2 : ¬ (64 ≤ Y.toNat) := by omega
    simp [execOp, hE _ _ hx, hE _ _ hy, go_sem, Op.shift, e, e1, e2, IntKind.bits]) (fun h => h.2.2.2) (k _)
theorem o_shr (M : Mode P n G D w0 E ⟨some d, .binOp .shr T x y T', ty, pos, aft, gd⟩ Tk R Lr L) {X Y : Int} {K : IntKind} {κ : Int → Prop} (hx : oev E x = some (.int .i64 X)) (hy : oev E y = some (.int K Y)) (hd : Nat.blt d n = true) (k : ∀ z, Nx n G D w0 R ((d, .int .i64 z) :: E) L (κ z)) : Nx n G D w0 Tk E L (shrW X Y κ) :=
  M.val (v := .int .i64 (X / 2 ^ Y.toNat)) hd rfl (fun ρ w hE _ hφ => by
    obtain ⟨h1, h2, h3, h4, _⟩ := hφ
    have e1 : ¬ Y < 0 := by omega
    have e2 : ¬ (64 ≤ Y.toNat) := by omega
    simp [execOp, hE _ _ hx, hE _ _ hy, go_sem, Op.shift, e1, e2, IntKind.bits]) (fun h => h.2.2.2.2) (k _)

/-- an operation of two operands by its run -/
theorem o_bin {b : BinOp} (M : Mode P n G D w0 E ⟨some d, .binOp b T x y T', ty, pos, aft, gd⟩ Tk R Lr L) {u v : Value} (c : Value) (hx : oev E x = some u) (hy : oev E y = some v) (hd : Nat.blt d n = true)
    (hr : ∀ w, (do eqGuard b T x y u v; binOp b T u v : Sem Value).run P w = .ok c w) (k : Nx n G D w0 R ((d, c) :: E) L φ) : Nx n G D w0 Tk E L φ :=
  M.val hd rfl (fun ρ w hE _ _ => by
    have h := hr w
    simp only [execOp, hE _ _ hx, hE _ _ hy]
    rw [Sem.run_bind, h]
    rfl) id k
/-- a slice's value is written out -/
theorem nx_ro {α : Type} {El' : El α} {v : Value} {xs : List α} (i : Nat) (hi : lget L i = some (roCh El' v xs)) (h : ∀ a l c, v = .slice a l c → Nx n G D w0 R E L φ) : Nx n G D w0 R E L φ := fun a w hE hm hφ => by
  obtain ⟨a', c', hv, _⟩ := (hm.get hi : Sl El' _ w v xs)
  exact h _ _ _ hv a w hE hm hφ
theorem nx_own {α : Type} {El' : El α} {e : Nat} {v : Value} {xs : List α} (i : Nat) (hi : lget L i = some (ownCh El' e v xs)) (h : ∀ a l c, v = .slice a l c → Nx n G D w0 R E L φ) : Nx n G D w0 R E L φ := fun a w hE hm hφ => by
  obtain ⟨css, _, _, hv⟩ := (hm.get hi : Own El' e _ w v xs)
  rcases hv with ⟨hv, _⟩ | ⟨g, cap, cur, hv, _⟩
  · exact h _ _ _ hv a w hE hm hφ
  · exact h _ _ _ hv a w hE hm hφ

/-! a part of a slice, to be read -/
theorem take_drop_get {α : Type} (xs : List α) (lo hi i : Nat) (h : hi ≤ xs.length) : ((xs.take hi).drop lo)[i]? = if lo + i < hi then xs[lo + i]? else none := by
  rw [List.getElem?_drop, List.getElem?_take]
theorem Sl.part {α : Type} {E : El α} {F : Nat → Prop} {w : World} {a : Option Addr} {len cap : Nat} {xs : List α} (h : Sl E F w (.slice a len cap) xs) (lo hi : Nat) (h1 : lo ≤ hi) (h2 : hi ≤ xs.length) :
    Sl E F w (.slice (if cap = lo then a else a.map (·.add (lo * E.size))) (hi - lo) (cap - lo)) ((xs.take hi).drop lo) := by
  obtain ⟨a', cap', he, hc, hr⟩ := h
  simp at he
  obtain ⟨rfl, rfl, rfl⟩ := he
  have hl : ((xs.take hi).drop lo).length = hi - lo := by simp; omega
  refine ⟨_, _, by rw [hl], by omega, fun h0 => ?_⟩
  rw [hl] at h0
  obtain ⟨b, off, rfl, hb, hx⟩ := hr (by omega)
  have hne : cap ≠ lo := by omega
  refine ⟨b, off + lo * E.size, by simp [hne, Addr.add_mid], hb, fun i x hi' => ?_⟩
  rw [take_drop_get _ _ _ _ h2] at hi'
  split at hi'
  · obtain ⟨cs, c1, c2⟩ := hx (lo + i) x hi'
    refine ⟨cs, c1, ?_⟩
    rwa [Nat.add_mul, ← Nat.add_assoc] at c2
  · cases hi'
theorem mem_part {α : Type} {El' : El α} {v u : Value} {xs ys : List α} {w : World} {i : Nat} (hm : Mem G D w0 L w) (hi : lget L i = some (roCh El' v xs)) (h : ∀ F, Sl El' F w v xs → Sl El' F w u ys) : Mem G D w0 (roCh El' u ys :: L) w :=
  hm.note (fun b hb => hb) (h _ (hm.get hi))
theorem o_slc {α : Type} {El' : El α} {v : Value} {xs : List α} {lo hi : Option Operand} {I J : Int} {κ : List α → Prop} (i : Nat) (hi' : lget L i = some (roCh El' v xs)) (hx : oev E x = some v)
    (hlo : match lo with | none => I = 0 | some l => oev E l = some (.int .i64 I)) (hhi : match hi with | none => J = xs.length | some h => oev E h = some (.int .i64 J)) (hd : Nat.blt d n = true) (hT : elB P T = some (e, sz, by')) (hes : El'.size = sz)
    (k : ∀ v' ys, Nx n G D w0 R ((d, v') :: E) (roCh El' v' ys :: L) (κ ys)) : Nx n G D w0 (fun a w => Oper.wp P ⟨some d, .slice T x lo hi none, ty, pos, aft, gd⟩ a w R Q) E L (sliceW xs I J κ) :=
  o_gen hd rfl fun ρ w hE hm hφ => by
    obtain ⟨h0, h1, h2, h3⟩ := hφ
    obtain ⟨hu, inf, hinf, rfl, rfl⟩ := elB_spec hT
    have hsl := hm.ro i hi'
    obtain ⟨a, cap, hv, hcap, _⟩ := hsl
    have hsl := hm.ro i hi'
    subst hv
    have hp := fun (F : Nat → Prop) (h : Sl El' F w (.slice a xs.length cap) xs) => h.part I.toNat J.toNat (by omega) (by omega)
    refine ⟨_, w, _, κ ((xs.take J.toNat).drop I.toNat), ?_, mem_part hm hi' hp, h3, k _ _⟩
    have e1 : (J : Int) ≤ cap := by omega
    have e2 : 0 ≤ J := by omega
    cases lo with
    | none =>
      cases hi with
      | none =>
        simp only at hlo hhi
        subst hlo hhi
        simp [execOp, hE _ _ hx, Instr.sliceAt, Instr.slice, Instr.sliceBounds, run_underlying hu, sizeOf, typeInfo, hinf, hes]
      | some hh =>
        simp only at hlo hhi
        subst hlo
        simp [execOp, hE _ _ hx, hE _ _ hhi, Instr.sliceAt, Instr.slice, Instr.sliceBounds, Instr.sliceBound, asIntOf, run_underlying hu, sizeOf, typeInfo, hinf, e1, e2, hes]
    | some ll =>
      cases hi with
      | none =>
        simp only at hlo hhi
        subst hhi
        have e3 : I ≤ (xs.length : Int) := h1
        simp [execOp, hE _ _ hx, hE _ _ hlo, Instr.sliceAt, Instr.slice, Instr.sliceBounds, Instr.sliceBound, asIntOf, run_underlying hu, sizeOf, typeInfo, hinf, h0, e3, hes]
      | some hh =>
        simp only at hlo hhi
        have e4 : I ≤ (J.toNat : Int) := by omega
        simp [execOp, hE _ _ hx, hE _ _ hlo, hE _ _ hhi, Instr.sliceAt, Instr.slice, Instr.sliceBounds, Instr.sliceBound, asIntOf, run_underlying hu, sizeOf, typeInfo, hinf, h0, e1, e2, e4, hes]
        intro h; omega
end
end Go.Proofs.YtnogaeckmiekdaaDoor
