/- The steps of printed walks: memory. -/
import Derived.Test.YtnogaeckmiekdaaDoorStep2
set_option linter.unusedSimpArgs false
set_option linter.unusedVariables false
namespace Go.Proofs.YtnogaeckmiekdaaDoor
open Go.RowKit

theorem oev_eval {n : Nat} {E : Env} {a : Act} (hE : Has n E a) : ∀ x v, oev E x = some v → a.eval x = v := fun x v h => hE.eval h

/-- the elements stand for these cells, and no memory is behind them -/
def Flat {α : Type} (E : El α) (enc : α → List Value) : Prop := ∀ F w x cs, E.cells F w x cs ↔ cs = enc x
/-- the pointer to a place of an element -/
def pEl (v : Value) (I : Int) (sz o : Nat) : Value :=
  match v with
  | .slice (some a) _ _ => .pointer (some (a.add (I.toNat * sz + o)))
  | _ => undef
theorem pEl_slice (b off l c : Nat) (I : Int) (sz o : Nat) : pEl (.slice (some ⟨b, off, none⟩) l c) I sz o = .pointer (some ⟨b, off + I.toNat * sz + o, none⟩) := by
  simp [pEl, Addr.add_mid, Nat.add_assoc]

theorem Mem.rd {α : Type} {El' : El α} {v : Value} {xs : List α} {c : Ch} {G D : Nat → Prop} {w0 w : World} {L : List Ch} (m : Mem G D w0 L w) (i : Nat) (hi : lget L i = some c) (hc : Reads c El' v xs) : Sl El' (fun b => b < w.heap.size) w v xs :=
  (hc _ _ (m.get hi)).keep (fun b hb => by rcases hb with hb | hb; exact hb.1; exact (m.range c (lget_mem hi) b hb).1) (fun _ _ => rfl)
theorem fz_lset {G D : Nat → Prop} {w0 w : World} {L : List Ch} {c c' : Ch} {i : Nat} (m : Mem G D w0 L w) (hi : lget L i = some c) (hf : ∀ b, ¬ c'.foot b) : ∀ b, (fz G L w b ∨ c.foot b) → fz G (lset L i c') w b := fun b hb => by
  have hmem := lget_mem hi
  refine ⟨?_, ?_, fun d hd => ?_⟩
  · rcases hb with hb | hb
    · exact hb.1
    · exact (m.range _ hmem b hb).1
  · rcases hb with hb | hb
    · exact hb.2.1
    · exact m.fresh b (m.range _ hmem b hb).2
  · rcases mem_lset hi m.disj hd with e' | ⟨e1, e2⟩
    · subst e'; exact hf b
    · rcases hb with hb | hb
      · exact hb.2.2 d e1
      · exact fun h => e2 b h hb
/-- a chunk of the call's own is not written any more: what it has may be read -/
theorem Mem.still {G D : Nat → Prop} {w0 w : World} {L : List Ch} {c c' : Ch} (m : Mem G D w0 L w) (i : Nat) (hi : lget L i = some c) (hf : ∀ b, ¬ c'.foot b) (hc : ∀ F w, c.holds F w → c'.holds (fun b => F b ∨ c.foot b) w) : Mem G D w0 (lset L i c') w :=
  m.upd hi rfl rfl rfl (Nat.le_refl _) (fun _ _ _ => rfl) (fun b hb => absurd hb (hf b)) (c'.keep _ _ w w (fz_lset m hi hf) (fun _ _ => rfl) (hc _ _ (m.get hi)))
theorem Mem.freeze {α : Type} {El' : El α} {v : Value} {xs : List α} {c : Ch} {G D : Nat → Prop} {w0 w : World} {L : List Ch} (m : Mem G D w0 L w) (i : Nat) (hi : lget L i = some c) (hc : Reads c El' v xs) : Mem G D w0 (lset L i (roCh El' v xs)) w :=
  m.still i hi (fun b hb => hb) hc
section
variable {P : Program} {n : Nat} {G D : Nat → Prop} {w0 : World} {Q : Exit → Act → World → Prop} {R : Act → World → Prop} {E : Env} {L : List Ch} {φ : Prop}
variable {d : Tmp} {ty : TypeId} {pos : String} {aft : Array Edge} {gd : Option (Nat × Bool)} {Tk : Act → World → Prop} {Lr : List Ch} {x y : Operand} {T T' S : TypeId}

/-- an operation that makes a value and changes the world -/
theorem o_gen {o : Oper} (hd : Nat.blt d n = true) (ho : o.dst = some d)
    (hr : ∀ (ρ : Operand → Value) w, (∀ x v, oev E x = some v → ρ x = v) → Mem G D w0 L w → φ → ∃ v w' L' ψ, (execOp ρ o).run P w = .ok (.value v) w' ∧ Mem G D w0 L' w' ∧ ψ ∧ Nx n G D w0 R ((d, v) :: E) L' ψ) :
    Nx n G D w0 (fun a w => o.wp P a w R Q) E L φ := fun a w hE hm hφ => by
  obtain ⟨v, w', L', ψ, h1, h2, h3, h4⟩ := hr a.eval w (fun x v h => hE.eval h) hm hφ
  show o.upon P a R Q ((execOp a.eval o).run P w)
  rw [h1, Oper.upon_value, ho]
  exact h4 _ _ (hE.put hd v) h2 h3
theorem o_skip {o : Oper} (ho : o.dst = none)
    (hr : ∀ (ρ : Operand → Value) w, (∀ x v, oev E x = some v → ρ x = v) → Mem G D w0 L w → φ → ∃ w' L' ψ, (execOp ρ o).run P w = .ok .skip w' ∧ Mem G D w0 L' w' ∧ ψ ∧ Nx n G D w0 R E L' ψ) :
    Nx n G D w0 (fun a w => o.wp P a w R Q) E L φ := fun a w hE hm hφ => by
  obtain ⟨w', L', ψ, h1, h2, h3, h4⟩ := hr a.eval w (fun x v h => hE.eval h) hm hφ
  show o.upon P a R Q ((execOp a.eval o).run P w)
  rw [h1, Oper.upon_skip, ho]
  exact h4 _ _ hE h2 h3

/-! cells of the call's own -/
theorem mem_alloc {b : Nat} {cs : List Value} {w : World} (hm : Mem G D w0 L w) (he : w.heap.size = b) : Mem G D w0 (cellCh b cs T :: L) (w.alloc (.cells cs.toArray T)) :=
  hm.add _ ((Below.refl _ _).alloc (Nat.le_refl _) _) (fun k hk => by cases hk; rw [World.size_alloc]; omega) (by rw [← he]; exact heap_alloc_new w _)
theorem o_box {v : Value} (hx : oev E x = some v) (hd : Nat.blt d n = true) (cs : List Value) (hcs : v.cells = cs.toArray) (k : ∀ b, Nx n G D w0 R ((d, .pointer (some ⟨b, 0, none⟩)) :: E) (cellCh b cs T :: L) φ) :
    Nx n G D w0 (fun a w => Oper.wp P ⟨some d, .box T x, ty, pos, aft, gd⟩ a w R Q) E L φ :=
  o_gen hd rfl fun ρ w hE hm hφ => ⟨_, w.alloc (.cells cs.toArray T), _, φ, by simp [execOp, hE _ _ hx, Instr.box, newVar, newRow, hcs], mem_alloc hm rfl, hφ, k w.heap.size⟩
theorem o_alloc (hd : Nat.blt d n = true) (cs : List Value) (hz : zeroB P T = some cs) (k : ∀ b, Nx n G D w0 R ((d, .pointer (some ⟨b, 0, none⟩)) :: E) (cellCh b cs T :: L) φ) :
    Nx n G D w0 (fun a w => Oper.wp P ⟨some d, .alloc T, ty, pos, aft, gd⟩ a w R Q) E L φ :=
  o_gen hd rfl fun ρ w hE hm hφ => by
    unfold zeroB at hz
    cases hi : P.info? T with
    | none => simp [hi] at hz
    | some i =>
      cases hz' : i.zero with
      | none => simp [hi, hz'] at hz
      | some z =>
        simp [hi, hz'] at hz
        refine ⟨_, w.alloc (.cells cs.toArray T), _, φ, ?_, mem_alloc hm rfl, hφ, k w.heap.size⟩
        simp [execOp, Instr.alloc, zeroValue, typeInfo, hi, hz', newVar, newRow, ← hz]
theorem o_ldc (M : Mode P n G D w0 E ⟨some d, .load T x, ty, pos, aft, gd⟩ Tk R Lr L) {b o sz : Nat} {cs : List Value} {T0 : TypeId} {row : Bool} {v : Value} (i : Nat) (hi : lget Lr i = some (cellCh b cs T0)) (hx : oev E x = some (.pointer (some ⟨b, o, none⟩))) (hd : Nat.blt d n = true)
    (hT : tyB P T = some (row, sz)) (hv : ldv row o sz cs = some v) (k : Nx n G D w0 R ((d, v) :: E) L φ) : Nx n G D w0 Tk E L φ :=
  M.val hd rfl (fun ρ w hE hm _ => by
    have hb : w.heap[b]? = some (.cells cs.toArray T0 (0, 0)) := hm.get hi
    have hr : w.rangeAt b 0 cs := fun j u hu => by rw [cell_of_row w b _ cs.toArray T0 (0, 0) hb]; simpa using hu
    have := run_ldv (P := P) hT hr hv
    rw [Nat.zero_add] at this
    simp [execOp, hE _ _ hx, this]) id k
theorem o_fad {k' : Nat} (M : Mode P n G D w0 E ⟨some d, .fieldAddr S x k', ty, pos, aft, gd⟩ Tk R Lr L) {b o off sz : Nat} {row : Bool} (hx : oev E x = some (.pointer (some ⟨b, o, none⟩))) (hd : Nat.blt d n = true) (hS : fldB P S k' = some (off, row, sz)) (hp : Nat.beq sz 0 = false)
    (k : Nx n G D w0 R ((d, .pointer (some ⟨b, o + off, none⟩)) :: E) L φ) : Nx n G D w0 Tk E L φ :=
  M.val hd rfl (fun ρ w hE hm _ => by
    have := run_fldv (P := P) (w := w) (a := ⟨b, o, none⟩) hS hp
    rw [Addr.add_mid] at this
    simp [execOp, hE _ _ hx, this]) id k
theorem there_of_row {w : World} {b o sz : Nat} {cs : List Value} {T0 : TypeId} (hb : w.heap[b]? = some (.cells cs.toArray T0 (0, 0))) (h : o + sz ≤ cs.length) : w.there b o sz := fun j hj =>
  ⟨by rw [cell_of_row w b _ cs.toArray T0 (0, 0) hb]; simp; omega, by simp [World.frozen?, hb]⟩
theorem o_stc {b o sz : Nat} {cs cs' : List Value} {T0 : TypeId} {row : Bool} {u : Value} (i : Nat) (hi : lget L i = some (cellCh b cs T0)) (hx : oev E x = some (.pointer (some ⟨b, o, none⟩))) (hy : oev E y = some u)
    (hT : tyB P T = some (row, sz)) (hsz : Nat.beq u.cells.size sz = true) (h1 : u.cells.toList.all (·.oneCell') = true) (hle : Nat.ble (o + sz) cs.length = true) (hcs : lput cs o u.cells.toList = cs')
    (k : Nx n G D w0 R E (lset L i (cellCh b cs' T0)) φ) : Nx n G D w0 (fun a w => Oper.wp P ⟨none, .store T x y, ty, pos, aft, gd⟩ a w R Q) E L φ :=
  o_skip rfl fun ρ w hE hm hφ => by
    have hb : w.heap[b]? = some (.cells cs.toArray T0 (0, 0)) := hm.get hi
    have hz := Nat.eq_of_beq_eq_true hsz
    have hr := run_stv (P := P) (w := w) hT hsz h1 (b := b) (o := o) (there_of_row hb (by rw [hz]; exact Nat.le_of_ble_eq_true hle))
    refine ⟨_, _, φ, by simp [execOp, hE _ _ hx, hE _ _ hy, hr]; rfl, ?_, hφ, k⟩
    obtain ⟨s1, s2, s3⟩ := setCells_rest b u.cells.toList o w
    refine hm.upd hi s1 s2 s3 (by rw [setCells_size]; exact Nat.le_refl _) (fun x _ hx => setCells_other b _ _ _ _ hx) (fun x hx => ⟨?_, .inl hx⟩) ?_
    · cases hx
      rw [setCells_size]
      exact (Array.getElem?_eq_some_iff.1 hb).1
    · show (w.setCells b o u.cells.toList).heap[b]? = _
      rw [setCells_heap b T0 (0, 0) _ _ cs w hb, hcs]

/-! values of structs -/
theorem o_fld {k' : Nat} (M : Mode P n G D w0 E ⟨some d, .field S x k', ty, pos, aft, gd⟩ Tk R Lr L) {off sz : Nat} {row : Bool} {cs : List Value} {v : Value} (hx : oev E x = some (.agg cs.toArray)) (hd : Nat.blt d n = true) (hS : fldB P S k' = some (off, row, sz)) (hv : ldv row off sz cs = some v)
    (k : Nx n G D w0 R ((d, v) :: E) L φ) : Nx n G D w0 Tk E L φ :=
  M.val hd rfl (fun ρ w hE hm _ => by simp only [execOp, hE _ _ hx, Sem.run_bind, run_fieldv (P := P) hS hv]; rfl) id k
theorem o_ext {k' : Nat} (M : Mode P n G D w0 E ⟨some d, .extract x k', ty, pos, aft, gd⟩ Tk R Lr L) {vs : List Value} {v : Value} (hx : oev E x = some (.tuple vs.toArray)) (hd : Nat.blt d n = true) (hv : vs[k']? = some v) (k : Nx n G D w0 R ((d, v) :: E) L φ) :
    Nx n G D w0 Tk E L φ :=
  M.val hd rfl (fun ρ w hE hm _ => by simp [execOp, hE _ _ hx, Instr.extract, hv]) id k

/-! slices -/
theorem o_len (M : Mode P n G D w0 E ⟨some d, .call { callee := .builtin .len, args := #[x], argTypes := #[T] }, ty, pos, aft, gd⟩ Tk R Lr L) {α : Type} {El' : El α} {v : Value} {xs : List α} {c : Ch} {p : TypeId × Nat × Nat} (hT : elB P T = some p) (i : Nat) (hi : lget Lr i = some c) (hc : Reads c El' v xs) (hx : oev E x = some v) (hd : Nat.blt d n = true)
    (k : Nx n G D w0 R ((d, .int .i64 xs.length) :: E) L φ) :
    Nx n G D w0 Tk E L φ :=
  M.val hd rfl (fun ρ w hE hm _ => by
    obtain ⟨a, cap, rfl⟩ := (hc _ _ (hm.get hi)).len_eq
    obtain ⟨e, hu⟩ : ∃ e, P.underlying T = some (.slice e) := by
      unfold elB at hT
      split at hT
      · exact ⟨_, ‹_›⟩
      · simp at hT
    simp [execOp, resolve, invoke, builtin, hE _ _ hx, go_sem, Builtin.len_, run_underlying hu]) id k
theorem o_idx (M : Mode P n G D w0 E ⟨some d, .indexAddr T x y, ty, pos, aft, gd⟩ Tk R Lr L) {α : Type} {El' : El α} {v : Value} {xs : List α} {c : Ch} {I : Int} {κ : α → Prop} {e sz by' : Nat} (i : Nat) (hi : lget Lr i = some c) (hc : Reads c El' v xs) (hx : oev E x = some v) (hy : oev E y = some (.int .i64 I)) (hd : Nat.blt d n = true)
    (hT : elB P T = some (e, sz, by')) (k : ∀ z, xs[I.toNat]? = some z → Nx n G D w0 R ((d, pEl v I sz 0) :: E) L (κ z)) :
    Nx n G D w0 Tk E L (idxW xs I κ) :=
  M.val (v := pEl v I sz 0) (ψ := idxW xs I κ) hd rfl (fun ρ w hE hm hφ => by
    obtain ⟨z, h0, h1, h2⟩ := hφ
    obtain ⟨b, off, cap, cs, rfl, _, _⟩ := (hc _ _ (hm.get hi)).at h1
    have hlt := (List.getElem?_eq_some_iff.1 h1).1
    unfold elB at hT
    split at hT
    · rename_i e' hu
      split at hT
      · rename_i inf hi'
        simp at hT
        obtain ⟨rfl, rfl, rfl⟩ := hT
        have h5 : I < xs.length := by omega
        rw [pEl_slice]
        simp [execOp, hE _ _ hx, hE _ _ hy, Instr.indexAt, asIntOf, run_underlying hu, sizeOf, typeInfo, hi', h0, h5, Addr.add_mid]
      · simp at hT
    · simp at hT) id (fun a w hE hm ⟨z, _, h1, h2⟩ => k z h1 a w hE hm h2)
theorem o_fadS {k' : Nat} (M : Mode P n G D w0 E ⟨some d, .fieldAddr S x k', ty, pos, aft, gd⟩ Tk R Lr L) {α : Type} {El' : El α} {v : Value} {xs : List α} {c : Ch} {I : Int} {z : α} {o off sz fs : Nat} {row : Bool} (i : Nat) (hi : lget Lr i = some c) (hc : Reads c El' v xs) (hz : xs[I.toNat]? = some z)
    (hx : oev E x = some (pEl v I sz o)) (hd : Nat.blt d n = true) (hS : fldB P S k' = some (off, row, fs)) (hp : Nat.beq fs 0 = false)
    (k : Nx n G D w0 R ((d, pEl v I sz (o + off)) :: E) L φ) : Nx n G D w0 Tk E L φ :=
  M.val hd rfl (fun ρ w hE hm _ => by
    obtain ⟨b, off', cap, cs, rfl, _, _⟩ := (hc _ _ (hm.get hi)).at hz
    rw [pEl_slice] at hx ⊢
    have := run_fldv (P := P) (w := w) (a := ⟨b, off' + I.toNat * sz + o, none⟩) hS hp
    rw [Addr.add_mid] at this
    simp [execOp, hE _ _ hx, this]) id k
theorem o_lds (M : Mode P n G D w0 E ⟨some d, .load T x, ty, pos, aft, gd⟩ Tk R Lr L) {α : Type} {El' : El α} {enc : α → List Value} {v : Value} {xs : List α} {c : Ch} {I : Int} {z : α} {o sz fs : Nat} {row : Bool} {u : Value} (i : Nat) (hi : lget Lr i = some c) (hc : Reads c El' v xs)
    (hfl : Flat El' enc) (hes : El'.size = sz) (hz : xs[I.toNat]? = some z) (hx : oev E x = some (pEl v I sz o)) (hd : Nat.blt d n = true) (hT : tyB P T = some (row, fs)) (hv : ldv row o fs (enc z) = some u)
    (k : Nx n G D w0 R ((d, u) :: E) L φ) : Nx n G D w0 Tk E L φ :=
  M.val hd rfl (fun ρ w hE hm _ => by
    obtain ⟨b, off', cap, cs, rfl, h1, h2⟩ := (hc _ _ (hm.get hi)).at hz
    rw [pEl_slice] at hx
    rw [(hfl _ _ _ _).1 h1, hes] at h2
    have := run_ldv (P := P) hT h2 hv
    simp [execOp, hE _ _ hx, this]) id k
end
end Go.Proofs.YtnogaeckmiekdaaDoor
