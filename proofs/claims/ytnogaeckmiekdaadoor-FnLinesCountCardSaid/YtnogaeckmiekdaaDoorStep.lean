/- The steps of printed walks: each operation once. -/
import Derived.Test.YtnogaeckmiekdaaDoorCore2
set_option linter.unusedSimpArgs false
set_option linter.unusedVariables false
namespace Go.Proofs.YtnogaeckmiekdaaDoor
open Go.RowKit

/-- from every frame with these slots and every world with these chunks, under φ, R holds -/
def Nx (n : Nat) (G D : Nat → Prop) (w0 : World) (R : Act → World → Prop) (E : Env) (L : List Ch) (φ : Prop) : Prop :=
  ∀ a w, Has n E a → Mem G D w0 L w → φ → R a w

theorem nx_of {n : Nat} {G D : Nat → Prop} {w0 : World} {R : Act → World → Prop} {E : Env} {L : List Ch} {φ : Prop} {a : Act} {w : World} (hE : Has n E a) (hm : Mem G D w0 L w) (hφ : φ) (h : Nx n G D w0 R E L φ) : R a w := h a w hE hm hφ

/-! ### the pure side -/
def I64 (x : Int) : Prop := -9223372036854775808 ≤ x ∧ x ≤ 9223372036854775807
def addW (x y : Int) (κ : Int → Prop) : Prop := I64 (x + y) ∧ κ (x + y)
def subW (x y : Int) (κ : Int → Prop) : Prop := I64 (x - y) ∧ κ (x - y)
def mulW (x y : Int) (κ : Int → Prop) : Prop := I64 (x * y) ∧ κ (x * y)
def quoW (x y : Int) (κ : Int → Prop) : Prop := 0 ≤ x ∧ 0 < y ∧ I64 x ∧ κ (x / y)
def remW (x y : Int) (κ : Int → Prop) : Prop := 0 ≤ x ∧ 0 < y ∧ I64 x ∧ κ (x % y)
/-- arithmetic as the machine has it -/
def w64 (x : Int) : Int := IntKind.i64.wrap x
theorem w64_id {x : Int} (h1 : -9223372036854775808 ≤ x) (h2 : x ≤ 9223372036854775807) : w64 x = x := by unfold w64; rw [IntKind.wrap_i64]; omega
theorem w64_bd (x : Int) : -9223372036854775808 ≤ w64 x ∧ w64 x ≤ 9223372036854775807 := by unfold w64; rw [IntKind.wrap_i64]; omega
def ifW (c : Bool) (A B : Prop) : Prop := (c = true → A) ∧ (c = false → B)
def idxW {α : Type} (xs : List α) (i : Int) (κ : α → Prop) : Prop := ∃ x, 0 ≤ i ∧ xs[i.toNat]? = some x ∧ κ x
def iterW {σ : Type} (F : (σ → Prop) → σ → Prop) : Nat → σ → Prop
  | 0 => fun _ => False
  | n + 1 => F (iterW F n)
def loopW {σ : Type} (F : (σ → Prop) → σ → Prop) (s : σ) : Prop := ∃ n, iterW F n s
def jnW {σ : Type} (K : σ → Prop) (B : (σ → Prop) → Prop) : Prop := B K
def lenOk (n : Nat) : Prop := n ≤ 4294967296
def appW {α : Type} (xs ys : List α) (κ : List α → Prop) : Prop := lenOk (xs.length + ys.length) ∧ κ (xs ++ ys)
def setW {α : Type} (xs : List α) (i : Int) (y : α) (κ : List α → Prop) : Prop := 0 ≤ i ∧ i.toNat < xs.length ∧ κ (xs.set i.toNat y)
def makeW {α : Type} (z : α) (n m : Int) (κ : List α → Prop) : Prop := 0 ≤ n ∧ n ≤ m ∧ lenOk m.toNat ∧ κ (List.replicate n.toNat z)

theorem loopW_inv {σ : Type} {F : (σ → Prop) → σ → Prop} (I : σ → Prop) (μ : σ → Nat) (h : ∀ s next, I s → (∀ s', I s' → μ s' < μ s → next s') → F next s) {s : σ} (h0 : I s) : loopW F s := by
  have key : ∀ n s, I s → μ s < n → iterW F n s := by
    intro n
    induction n with
    | zero => intro s _ hlt; omega
    | succ n ih => exact fun s hI hlt => h s _ hI (fun s' hI' hlt' => ih s' hI' (by omega))
  exact ⟨μ s + 1, key _ s h0 (by omega)⟩

section
variable {P : Program} {n : Nat} {G D : Nat → Prop} {w0 : World} {Q : Exit → Act → World → Prop} {ops : Array Oper} {rest : List Oper} {R : Act → World → Prop} {E : Env} {L : List Ch} {φ : Prop}

/-! ### code -/
theorem stw {dst : Option Tmp} {op : Op} {ty : TypeId} {pos : String} {aft : Array Edge} (h : Nx n G D w0 (fun a w => Oper.wp P ⟨dst, op, ty, pos, aft, none⟩ a w (wpList P ops Q rest) Q) E L φ) : Nx n G D w0 (wpList P ops Q (⟨dst, op, ty, pos, aft, none⟩ :: rest)) E L φ :=
  fun a w hE hm hφ => by
    unfold wpList
    rw [if_pos (by simp [Region.wanted])]
    exact .inl (h a w hE hm hφ)
theorem c_nil (h : Nx n G D w0 (Q .normal) E L φ) : Nx n G D w0 (wpList P ops Q []) E L φ := h
theorem c_seq {x y : Code} (h : Nx n G D w0 (x.wp P (Exit.then (y.wp P Q) Q)) E L φ) : Nx n G D w0 ((Code.seq x y).wp P Q) E L φ := fun a w hE hm hφ => wp_seq (h a w hE hm hφ)
theorem c_block {id : Nat} {c : Code} (h : Nx n G D w0 (c.wp P (Exit.inBlock id Q)) E L φ) : Nx n G D w0 ((Code.block id c).wp P Q) E L φ := fun a w hE hm hφ => wp_block (h a w hE hm hφ)
theorem c_region {id : Nat} {l : List Oper} (h : Nx n G D w0 (wpList P l.toArray Q l) E L φ) : Nx n G D w0 ((Code.region id l.toArray false).wp P Q) E L φ := fun a w hE hm hφ => wp_region_lit (h a w hE hm hφ)
theorem c_skip (h : Nx n G D w0 (Q .normal) E L φ) : Nx n G D w0 (Code.skip.wp P Q) E L φ := fun a w hE hm hφ => wp_skip (h a w hE hm hφ)
theorem c_ret (h : Nx n G D w0 (Q .ret) E L φ) : Nx n G D w0 (Code.ret.wp P Q) E L φ := fun a w hE hm hφ => wp_ret (h a w hE hm hφ)
theorem c_exit {id : Nat} (h : Nx n G D w0 (Q (.exit id)) E L φ) : Nx n G D w0 ((Code.exit id).wp P Q) E L φ := fun a w hE hm hφ => wp_exit (h a w hE hm hφ)
theorem c_cond {c : Operand} {x y : Code} {t : Bool} {A B : Prop} (hc : oev E c = some (.bool t)) (hx : Nx n G D w0 (x.wp P Q) E L A) (hy : Nx n G D w0 (y.wp P Q) E L B) : Nx n G D w0 ((Code.cond c x y).wp P Q) E L (ifW t A B) :=
  fun a w hE hm hφ => wp_cond_split (hE.eval hc) (fun h => hx a w hE hm (hφ.1 h)) (fun h => hy a w hE hm (hφ.2 h))
/-- the condition is known -/
theorem c_cond_t {c : Operand} {x y : Code} (hc : oev E c = some (.bool true)) (hx : Nx n G D w0 (x.wp P Q) E L φ) : Nx n G D w0 ((Code.cond c x y).wp P Q) E L φ :=
  fun a w hE hm hφ => wp_cond_true (hE.eval hc) (hx a w hE hm hφ)
theorem c_cond_f {c : Operand} {x y : Code} (hc : oev E c = some (.bool false)) (hx : Nx n G D w0 (y.wp P Q) E L φ) : Nx n G D w0 ((Code.cond c x y).wp P Q) E L φ :=
  fun a w hE hm hφ => wp_cond_false (hE.eval hc) (hx a w hE hm hφ)
/-! leaves -/
theorem l_then {K : Act → World → Prop} (h : Nx n G D w0 K E L φ) : Nx n G D w0 (Exit.then K Q .normal) E L φ := h
theorem l_exit {K : Act → World → Prop} {id : Nat} (h : Nx n G D w0 (Q (.exit id)) E L φ) : Nx n G D w0 (Exit.then K Q (.exit id)) E L φ := h
theorem l_ret {K : Act → World → Prop} (h : Nx n G D w0 (Q .ret) E L φ) : Nx n G D w0 (Exit.then K Q .ret) E L φ := h
theorem b_norm {id : Nat} (h : Nx n G D w0 (Q .normal) E L φ) : Nx n G D w0 (Exit.inBlock id Q .normal) E L φ := h
theorem b_ret {id : Nat} (h : Nx n G D w0 (Q .ret) E L φ) : Nx n G D w0 (Exit.inBlock id Q .ret) E L φ := h
theorem b_exit {id : Nat} (h : Nx n G D w0 (Q .normal) E L φ) : Nx n G D w0 (Exit.inBlock id Q (.exit id)) E L φ := fun a w hE hm hφ => by
  show (if id = id then Q .normal a w else Q (.exit id) a w)
  rw [if_pos rfl]; exact h a w hE hm hφ
theorem b_pass {id id' : Nat} (hne : Nat.beq id' id = false) (h : Nx n G D w0 (Q (.exit id')) E L φ) : Nx n G D w0 (Exit.inBlock id Q (.exit id')) E L φ := fun a w hE hm hφ => by
  show (if id' = id then Q .normal a w else Q (.exit id') a w)
  rw [if_neg (fun e => by rw [e] at hne; simp at hne)]; exact h a w hE hm hφ
/-! loops and joins -/
theorem least_of {p : Nat → Prop} (h : ∃ k, p k) : ∃ m, p m ∧ ∀ k, p k → m ≤ k := by
  obtain ⟨k, hk⟩ := h
  induction k using Nat.strongRecOn with
  | _ k ih =>
    by_cases h : ∃ j, j < k ∧ p j
    · obtain ⟨j, hj, hp⟩ := h
      exact ih j hj hp
    · exact ⟨k, hk, fun j hj => Nat.le_of_not_lt fun hlt => h ⟨j, hlt, hj⟩⟩
theorem wp_loop_idx {c : Code} {a : Act} {w : World} (J : Nat → Act → World → Prop) (h0 : ∃ k, J k a w)
    (round : ∀ k a w, J k a w → c.wp P (Exit.then (fun a' w' => ∃ m, m < k ∧ J m a' w') Q) a w) : (Code.loop c).wp P Q a w := by
  have mu : ∀ a w, ∃ m, ∀ k, J k a w → J m a w ∧ m ≤ k := fun a w => by
    by_cases h : ∃ k, J k a w
    · obtain ⟨m, h1, h2⟩ := least_of (p := fun k => J k a w) h
      exact ⟨m, fun k hk => ⟨h1, h2 k hk⟩⟩
    · exact ⟨0, fun k hk => absurd ⟨k, hk⟩ h⟩
  let μ : Act → World → Nat := fun a w => Classical.choose (mu a w)
  have hμ : ∀ a w k, J k a w → J (μ a w) a w ∧ μ a w ≤ k := fun a w => Classical.choose_spec (mu a w)
  refine wp_loop (fun a w => ∃ k, J k a w) μ h0 (fun a w hI => ?_)
  obtain ⟨k, hk⟩ := hI
  refine Code.wp_mono (fun e a' w' q => ?_) (round (μ a w) a w (hμ a w k hk).1)
  cases e with
  | normal =>
    obtain ⟨m, hlt, hJ⟩ := q
    exact ⟨⟨m, hJ⟩, Nat.lt_of_le_of_lt (hμ a' w' m hJ).2 hlt⟩
  | _ => exact q
theorem c_loop {σ : Type} {F : (σ → Prop) → σ → Prop} {s0 : σ} {c : Code} (Rel : σ → Act → World → Prop) (hinit : ∀ a w, Has n E a → Mem G D w0 L w → Rel s0 a w)
    (round : ∀ (nx : σ → Prop) s a w, Rel s a w → F nx s → c.wp P (Exit.then (fun a' w' => ∃ s', nx s' ∧ Rel s' a' w') Q) a w) : Nx n G D w0 ((Code.loop c).wp P Q) E L (loopW F s0) :=
  fun a w hE hm ⟨k, hk⟩ => wp_loop_idx (fun k a w => ∃ s, iterW F k s ∧ Rel s a w) ⟨k, s0, hk, hinit a w hE hm⟩ fun k a w ⟨s, hk, hr⟩ => by
    cases k with
    | zero => exact hk.elim
    | succ k =>
      refine Code.wp_mono (fun e a' w' q => ?_) (round (iterW F k) s a w hr hk)
      cases e with
      | normal =>
        obtain ⟨s', h1, h2⟩ := q
        exact ⟨k, Nat.lt_succ_self _, s', h1, h2⟩
      | _ => exact q
theorem c_join {σ : Type} {K : σ → Prop} {B : (σ → Prop) → Prop} {x y : Code} (Rel : σ → Act → World → Prop) (hx : ∀ k : σ → Prop, Nx n G D w0 (x.wp P (Exit.then (fun a w => ∃ s, k s ∧ Rel s a w) Q)) E L (B k))
    (hy : ∀ s a w, Rel s a w → K s → y.wp P Q a w) : Nx n G D w0 ((Code.seq x y).wp P Q) E L (jnW K B) :=
  fun a w hE hm hφ => wp_seq (Code.wp_mono (fun e a' w' q => by
    cases e with
    | normal => obtain ⟨s, h1, h2⟩ := q; exact hy s a' w' h2 h1
    | _ => exact q) (hx K a w hE hm hφ))
theorem c_join1 {σ : Type} {K : σ → Prop} {B : (σ → Prop) → Prop} {x : Code} (Rel : σ → Act → World → Prop) (hx : ∀ k : σ → Prop, Nx n G D w0 (x.wp P (Exit.then (fun a w => ∃ s, k s ∧ Rel s a w) Q)) E L (B k))
    (hy : ∀ s a w, Rel s a w → K s → Q .normal a w) : Nx n G D w0 (x.wp P Q) E L (jnW K B) :=
  fun a w hE hm hφ => Code.wp_mono (fun e a' w' q => by
    cases e with
    | normal => obtain ⟨s, h1, h2⟩ := q; exact hy s a' w' h2 h1
    | _ => exact q) (hx K a w hE hm hφ)
/-- the end of a way to a join, or of a round -/
theorem l_join {σ : Type} {k : σ → Prop} {Rel : σ → Act → World → Prop} (s : σ) (h : ∀ a w, Has n E a → Mem G D w0 L w → Rel s a w) : Nx n G D w0 (Exit.then (fun a w => ∃ s, k s ∧ Rel s a w) Q .normal) E L (k s) :=
  fun a w hE hm hφ => ⟨s, hφ, h a w hE hm⟩
/-- the frame is written anew -/
theorem re {E' : Env} (hs : Esub E E') (h : Nx n G D w0 R E' L φ) : Nx n G D w0 R E L φ := fun a w hE hm hφ => h a w (hE.sub hs) hm hφ
theorem dropC (i : Nat) (h : Nx n G D w0 R E (ldrop L i) φ) : Nx n G D w0 R E L φ := fun a w hE hm hφ => h a w hE (hm.drop i) hφ
end

/-! ### operations that leave the world alone -/
section
variable {P : Program} {n : Nat} {G D : Nat → Prop} {w0 : World} {Q : Exit → Act → World → Prop} {R : Act → World → Prop} {E : Env} {L : List Ch} {φ : Prop}
variable {d : Tmp} {ty : TypeId} {pos : String} {aft : Array Edge} {gd : Option (Nat × Bool)} {Tk : Act → World → Prop} {Lr : List Ch} {x y : Operand} {T T' : TypeId}

/-- what an operation leaves in its slot; the world stands -/
theorem o_val {o : Oper} {v : Value} (hd : Nat.blt d n = true) (ho : o.dst = some d) (hr : ∀ (ρ : Operand → Value) w, (∀ x v, oev E x = some v → ρ x = v) → Mem G D w0 L w → φ → (execOp ρ o).run P w = .ok (.value v) w)
    {ψ : Prop} (hψ : φ → ψ) (k : Nx n G D w0 R ((d, v) :: E) L ψ) : Nx n G D w0 (fun a w => o.wp P a w R Q) E L φ := fun a w hE hm hφ => by
  show o.upon P a R Q ((execOp a.eval o).run P w)
  rw [hr a.eval w (fun x v h => hE.eval h) hm hφ, Oper.upon_value, ho]
  exact k _ _ (hE.put hd v) hm (hψ hφ)
/-- a way to take an operation that leaves the world alone; the chunks Lr are those that it may read -/
structure Mode (P : Program) (n : Nat) (G D : Nat → Prop) (w0 : World) (E : Env) (o : Oper) (Tk Rk : Act → World → Prop) (Lr L : List Ch) : Prop where
  val : ∀ {φ ψ : Prop} {d : Tmp} {v : Value}, Nat.blt d n = true → o.dst = some d → (∀ (ρ : Operand → Value) w, (∀ x v, oev E x = some v → ρ x = v) → Mem G D w0 Lr w → φ → (execOp ρ o).run P w = .ok (.value v) w) →
    (φ → ψ) → Nx n G D w0 Rk ((d, v) :: E) L ψ → Nx n G D w0 Tk E L φ
/-- the next operation of a plain region -/
theorem st {ops : Array Oper} {rest : List Oper} {dst : Option Tmp} {op : Op} : Mode P n G D w0 E ⟨dst, op, ty, pos, aft, none⟩ (wpList P ops Q (⟨dst, op, ty, pos, aft, none⟩ :: rest)) (wpList P ops Q rest) L L :=
  ⟨fun hd ho hr hψ k => stw (o_val hd ho hr hψ k)⟩
theorem o_mv (M : Mode P n G D w0 E ⟨some d, .move x, ty, pos, aft, gd⟩ Tk R Lr L) {v : Value} (hx : oev E x = some v) (hd : Nat.blt d n = true) (k : Nx n G D w0 R ((d, v) :: E) L φ) : Nx n G D w0 Tk E L φ :=
  M.val hd rfl (fun ρ w hE _ _ => by simp [execOp, hE _ _ hx]) id k
theorem o_as (M : Mode P n G D w0 E ⟨some d, .assign x, ty, pos, aft, gd⟩ Tk R Lr L) {v : Value} (hx : oev E x = some v) (hd : Nat.blt d n = true) (k : Nx n G D w0 R ((d, v) :: E) L φ) : Nx n G D w0 Tk E L φ :=
  M.val hd rfl (fun ρ w hE _ _ => by simp [execOp, hE _ _ hx]) id k
theorem o_not (M : Mode P n G D w0 E ⟨some d, .unOp .not T x, ty, pos, aft, gd⟩ Tk R Lr L) {b : Bool} (hx : oev E x = some (.bool b)) (hd : Nat.blt d n = true) (k : Nx n G D w0 R ((d, .bool (!b)) :: E) L φ) : Nx n G D w0 Tk E L φ :=
  M.val hd rfl (fun ρ w hE _ _ => by simp [execOp, hE _ _ hx, go_sem]) id k
theorem o_addw (M : Mode P n G D w0 E ⟨some d, .binOp .add T x y T', ty, pos, aft, gd⟩ Tk R Lr L) {X Y : Int} (hx : oev E x = some (.int .i64 X)) (hy : oev E y = some (.int .i64 Y)) (hd : Nat.blt d n = true) (k : Nx n G D w0 R ((d, .int .i64 (w64 (X + Y))) :: E) L φ) : Nx n G D w0 Tk E L φ :=
  M.val hd rfl (fun ρ w hE _ _ => by simp [execOp, hE _ _ hx, hE _ _ hy, go_sem, w64]) id k
theorem o_subw (M : Mode P n G D w0 E ⟨some d, .binOp .sub T x y T', ty, pos, aft, gd⟩ Tk R Lr L) {X Y : Int} (hx : oev E x = some (.int .i64 X)) (hy : oev E y = some (.int .i64 Y)) (hd : Nat.blt d n = true) (k : Nx n G D w0 R ((d, .int .i64 (w64 (X - Y))) :: E) L φ) : Nx n G D w0 Tk E L φ :=
  M.val hd rfl (fun ρ w hE _ _ => by simp [execOp, hE _ _ hx, hE _ _ hy, go_sem, w64]) id k
theorem o_mulw (M : Mode P n G D w0 E ⟨some d, .binOp .mul T x y T', ty, pos, aft, gd⟩ Tk R Lr L) {X Y : Int} (hx : oev E x = some (.int .i64 X)) (hy : oev E y = some (.int .i64 Y)) (hd : Nat.blt d n = true) (k : Nx n G D w0 R ((d, .int .i64 (w64 (X * Y))) :: E) L φ) : Nx n G D w0 Tk E L φ :=
  M.val hd rfl (fun ρ w hE _ _ => by simp [execOp, hE _ _ hx, hE _ _ hy, go_sem, w64]) id k
theorem o_add (M : Mode P n G D w0 E ⟨some d, .binOp .add T x y T', ty, pos, aft, gd⟩ Tk R Lr L) {X Y : Int} {κ : Int → Prop} (hx : oev E x = some (.int .i64 X)) (hy : oev E y = some (.int .i64 Y)) (hd : Nat.blt d n = true) (k : ∀ z, Nx n G D w0 R ((d, .int .i64 z) :: E) L (κ z)) :
    Nx n G D w0 Tk E L (addW X Y κ) :=
  M.val (v := .int .i64 (X + Y)) hd rfl (fun ρ w hE _ hφ => by
    have h := hφ.1
    have e : IntKind.i64.wrap (X + Y) = X + Y := by unfold I64 at h; rw [IntKind.wrap_i64]; omega
    simp [execOp, hE _ _ hx, hE _ _ hy, go_sem, e]) (fun h => h.2) (k _)
theorem o_sub (M : Mode P n G D w0 E ⟨some d, .binOp .sub T x y T', ty, pos, aft, gd⟩ Tk R Lr L) {X Y : Int} {κ : Int → Prop} (hx : oev E x = some (.int .i64 X)) (hy : oev E y = some (.int .i64 Y)) (hd : Nat.blt d n = true) (k : ∀ z, Nx n G D w0 R ((d, .int .i64 z) :: E) L (κ z)) :
    Nx n G D w0 Tk E L (subW X Y κ) :=
  M.val (v := .int .i64 (X - Y)) hd rfl (fun ρ w hE _ hφ => by
    have h := hφ.1
    have e : IntKind.i64.wrap (X - Y) = X - Y := by unfold I64 at h; rw [IntKind.wrap_i64]; omega
    simp [execOp, hE _ _ hx, hE _ _ hy, go_sem, e]) (fun h => h.2) (k _)
theorem o_mul (M : Mode P n G D w0 E ⟨some d, .binOp .mul T x y T', ty, pos, aft, gd⟩ Tk R Lr L) {X Y : Int} {κ : Int → Prop} (hx : oev E x = some (.int .i64 X)) (hy : oev E y = some (.int .i64 Y)) (hd : Nat.blt d n = true) (k : ∀ z, Nx n G D w0 R ((d, .int .i64 z) :: E) L (κ z)) :
    Nx n G D w0 Tk E L (mulW X Y κ) :=
  M.val (v := .int .i64 (X * Y)) hd rfl (fun ρ w hE _ hφ => by
    have h := hφ.1
    have e : IntKind.i64.wrap (X * Y) = X * Y := by unfold I64 at h; rw [IntKind.wrap_i64]; omega
    simp [execOp, hE _ _ hx, hE _ _ hy, go_sem, e]) (fun h => h.2) (k _)
theorem o_quo (M : Mode P n G D w0 E ⟨some d, .binOp .quo T x y T', ty, pos, aft, gd⟩ Tk R Lr L) {X Y : Int} {κ : Int → Prop} (hx : oev E x = some (.int .i64 X)) (hy : oev E y = some (.int .i64 Y)) (hd : Nat.blt d n = true) (k : ∀ z, Nx n G D w0 R ((d, .int .i64 z) :: E) L (κ z)) :
    Nx n G D w0 Tk E L (quoW X Y κ) :=
  M.val (v := .int .i64 (X / Y)) hd rfl (fun ρ w hE _ hφ => by
    obtain ⟨h1, h2, h3, _⟩ := hφ
    have e0 : Y ≠ 0 := by omega
    have e1 : X.tdiv Y = X / Y := Int.tdiv_eq_ediv_of_nonneg h1
    have e2 := Int.ediv_nonneg h1 (show 0 ≤ Y by omega)
    have e3 : X / Y ≤ X := Int.ediv_le_self _ h1
    have e : IntKind.i64.wrap (X / Y) = X / Y := by unfold I64 at h3; rw [IntKind.wrap_i64]; omega
    simp [execOp, hE _ _ hx, hE _ _ hy, go_sem, e0, e1, e]) (fun h => h.2.2.2) (k _)
theorem o_rem (M : Mode P n G D w0 E ⟨some d, .binOp .rem T x y T', ty, pos, aft, gd⟩ Tk R Lr L) {X Y : Int} {κ : Int → Prop} (hx : oev E x = some (.int .i64 X)) (hy : oev E y = some (.int .i64 Y)) (hd : Nat.blt d n = true) (k : ∀ z, Nx n G D w0 R ((d, .int .i64 z) :: E) L (κ z)) :
    Nx n G D w0 Tk E L (remW X Y κ) :=
  M.val (v := .int .i64 (X % Y)) hd rfl (fun ρ w hE _ hφ => by
    obtain ⟨h1, h2, h3, _⟩ := hφ
    have e0 : Y ≠ 0 := by omega
    have e1 : X.tmod Y = X % Y := Int.tmod_eq_emod_of_nonneg h1
    simp [execOp, hE _ _ hx, hE _ _ hy, go_sem, e0, e1]) (fun h => h.2.2.2) (k _)
theorem o_lss (M : Mode P n G D w0 E ⟨some d, .binOp .lss T x y T', ty, pos, aft, gd⟩ Tk R Lr L) {X Y : Int} {K : IntKind} (hx : oev E x = some (.int K X)) (hy : oev E y = some (.int K Y)) (hd : Nat.blt d n = true) (k : Nx n G D w0 R ((d, .bool (decide (X < Y))) :: E) L φ) :
    Nx n G D w0 Tk E L φ :=
  M.val hd rfl (fun ρ w hE _ hφ => by simp [execOp, hE _ _ hx, hE _ _ hy, go_sem]) id k
theorem o_leq (M : Mode P n G D w0 E ⟨some d, .binOp .leq T x y T', ty, pos, aft, gd⟩ Tk R Lr L) {X Y : Int} {K : IntKind} (hx : oev E x = some (.int K X)) (hy : oev E y = some (.int K Y)) (hd : Nat.blt d n = true) (k : Nx n G D w0 R ((d, .bool (decide (X ≤ Y))) :: E) L φ) :
    Nx n G D w0 Tk E L φ :=
  M.val hd rfl (fun ρ w hE _ hφ => by simp [execOp, hE _ _ hx, hE _ _ hy, go_sem]) id k
theorem o_gtr (M : Mode P n G D w0 E ⟨some d, .binOp .gtr T x y T', ty, pos, aft, gd⟩ Tk R Lr L) {X Y : Int} {K : IntKind} (hx : oev E x = some (.int K X)) (hy : oev E y = some (.int K Y)) (hd : Nat.blt d n = true) (k : Nx n G D w0 R ((d, .bool (decide (Y < X))) :: E) L φ) :
    Nx n G D w0 Tk E L φ :=
  M.val hd rfl (fun ρ w hE _ hφ => by simp [execOp, hE _ _ hx, hE _ _ hy, go_sem]) id k
theorem o_geq (M : Mode P n G D w0 E ⟨some d, .binOp .geq T x y T', ty, pos, aft, gd⟩ Tk R Lr L) {X Y : Int} {K : IntKind} (hx : oev E x = some (.int K X)) (hy : oev E y = some (.int K Y)) (hd : Nat.blt d n = true) (k : Nx n G D w0 R ((d, .bool (decide (Y ≤ X))) :: E) L φ) :
    Nx n G D w0 Tk E L φ :=
  M.val hd rfl (fun ρ w hE _ hφ => by simp [execOp, hE _ _ hx, hE _ _ hy, go_sem]) id k
end
end Go.Proofs.YtnogaeckmiekdaaDoor
