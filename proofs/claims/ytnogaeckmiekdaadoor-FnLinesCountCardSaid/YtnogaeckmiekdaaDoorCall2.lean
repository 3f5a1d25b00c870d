/- Calls of function values and by interfaces; comparisons with nil; arrays as values. -/
import Derived.Test.YtnogaeckmiekdaaDoorCall
set_option linter.unusedSimpArgs false
set_option linter.unusedVariables false
set_option linter.unusedSectionVars false
namespace Go.Proofs.YtnogaeckmiekdaaDoor
open Go.RowKit

/-- the answer where a slice is held against nil -/
def nilW {α : Type} (t : Bool) (xs : List α) (κ : Bool → Prop) : Prop := (xs ≠ [] → κ (!t)) ∧ (xs = [] → κ true ∧ κ false)
def SlAll {α : Type} (E : El α) (F : Nat → Prop) (w : World) : List Value → List (List α) → Prop
  | [], [] => True
  | v :: vs, x :: xs => Sl E F w v x ∧ SlAll E F w vs xs
  | _, _ => False
def pickV (vs : List Value) (I : Int) : Value := (vs[I.toNat]?).getD undef
theorem SlAll.get {α : Type} {E : El α} {F : Nat → Prop} {w : World} : ∀ {vs : List Value} {xs : List (List α)}, SlAll E F w vs xs → ∀ {i : Nat} {z : List α}, xs[i]? = some z → ∃ v, vs[i]? = some v ∧ Sl E F w v z
  | [], [], _, i, z, h => by simp at h
  | v :: vs, x :: xs, h, 0, z, hz => by simp at hz; subst hz; exact ⟨v, rfl, h.1⟩
  | v :: vs, x :: xs, h, i + 1, z, hz => by simpa using SlAll.get h.2 (by simpa using hz)
  | [], _ :: _, h, _, _, _ => h.elim
  | _ :: _, [], h, _, _, _ => h.elim

section
variable {P : Program} {n : Nat} {G D : Nat → Prop} {w0 : World} {Q : Exit → Act → World → Prop} {R : Act → World → Prop} {E : Env} {L M : List Ch} {φ : Prop}
variable {d : Tmp} {ty : TypeId} {pos : String} {aft : Array Edge} {gd : Option (Nat × Bool)} {Tk : Act → World → Prop} {Lr : List Ch} {x y : Operand} {T T' S : TypeId} {e sz by' : Nat} {dst : Option Tmp} {at' : Array TypeId}
theorem o_mki (M : Mode P n G D w0 E ⟨some d, .makeInterface T x, ty, pos, aft, gd⟩ Tk R Lr L) {v u : Value} (hm : ∀ v w, (Instr.makeInterface T v).run P w = .ok (.iface T v) w) (hx : oev E x = some v) (hd : Nat.blt d n = true) (hu : Value.iface T v = u) (k : Nx n G D w0 R ((d, u) :: E) L φ) : Nx n G D w0 Tk E L φ :=
  M.val hd rfl (fun ρ w hE _ _ => by simp [execOp, hE _ _ hx, hm, hu]) id k
theorem o_mkf {f : Nat} {ps : Array Operand} {cv : List Value} (M : Mode P n G D w0 E ⟨some d, .makeFunc (.func f) #[] ps, ty, pos, aft, gd⟩ Tk R Lr L) (hc : ∀ ρ : Operand → Value, (∀ x v, oev E x = some v → ρ x = v) → ps.map ρ = cv.toArray) (hd : Nat.blt d n = true)
    (k : Nx n G D w0 R ((d, .func (.func f) #[] cv.toArray) :: E) L φ) : Nx n G D w0 Tk E L φ :=
  M.val hd rfl (fun ρ w hE _ _ => by simp [execOp, hc ρ hE, Instr.makeFunc]) id k
/-- what a call runs -/
def Runs (P : Program) (E : Env) (o : Oper) (f : Nat) (vs : List Value) : Prop := ∀ (ρ : Operand → Value) w, (∀ x v, oev E x = some v → ρ x = v) → (execOp ρ o).run P w = .ok (.enter f vs.toArray) w
theorem runs_val {f : Nat} {l : List Operand} {vs : List Value} {cv : Array Value} (hx : oev E x = some (.func (.func f) #[] cv)) (hargs : oevs E l = some vs) (hf : ∀ args w, (callFunc f args).run P w = .ok (.enter f args) w) :
    Runs P E ⟨dst, .call { callee := .value x, args := l.toArray, argTypes := at' }, ty, pos, aft, gd⟩ f (vs ++ cv.toList) := fun ρ w hE => by
  have h := oevs_map hE hargs
  simp [execOp, resolve, Deferred.ofValue, hE _ _ hx, invoke, hf, ← h]
theorem runs_inv {f : Nat} {l : List Operand} {vs : List Value} {v : Value} {name : String} {T0 : TypeId} (hx : oev E x = some (.iface T0 v)) (hargs : oevs E l = some vs) (hm : ∀ w, (method (P.types.size + Made.depth) T0 v name).run P w = .ok (f, v) w) (hf : ∀ args w, (callFunc f args).run P w = .ok (.enter f args) w) :
    Runs P E ⟨dst, .call { callee := .invoke x name, args := l.toArray, argTypes := at' }, ty, pos, aft, gd⟩ f (v :: vs) := fun ρ w hE => by
  have h := oevs_map hE hargs
  have hp : (program).run P w = .ok P w := rfl
  have ht : List.take l.length (List.map ρ l) = List.map ρ l := List.take_of_length_le (by simp)
  simp [execOp, resolve, hE _ _ hx, invoke, callMethod, Sem.run_bind, hp, hm, hf, ← h, ht]
theorem o_callX {o : Oper} {ρ ν : Type} {f : Nat} {vs : List Value} {κ : ρ → Prop} {val : ρ → ν → Value} {N : ρ → ν → List Ch} {M0 L' : List Ch} (ho : o.dst = some d) (hr : Runs P E o f vs) (hd : Nat.blt d n = true)
    (hc : ∀ w, Mem G D w0 (M0 ++ L') w → φ → Calls P f vs.toArray w (Ret M0 (fz G (M0 ++ L') w) w κ val N)) (k : ∀ r s, Nx n G D w0 R ((d, val r s) :: E) (N r s ++ L') (κ r)) :
    Nx n G D w0 (fun a w => Oper.wp P o a w R Q) E (M0 ++ L') φ := fun a w hE hm hφ => by
  show Oper.upon P _ a R Q _
  rw [hr a.eval w (fun x v h => hE.eval h), Oper.upon_enter]
  refine (hc w hm hφ).mono ?_
  rintro e w' ⟨r, s, h1, rfl, h2, h3⟩
  rw [ho]
  exact k r s _ _ (hE.put hd _) (hm.call h2 h3) h1
theorem o_callX0 {o : Oper} {ρ ν : Type} {f : Nat} {vs : List Value} {κ : ρ → Prop} {val : ρ → ν → Value} {N : ρ → ν → List Ch} {M0 L' : List Ch} (ho : o.dst = none) (hr : Runs P E o f vs)
    (hc : ∀ w, Mem G D w0 (M0 ++ L') w → φ → Calls P f vs.toArray w (Ret M0 (fz G (M0 ++ L') w) w κ val N)) (k : ∀ r s, Nx n G D w0 R E (N r s ++ L') (κ r)) :
    Nx n G D w0 (fun a w => Oper.wp P o a w R Q) E (M0 ++ L') φ := fun a w hE hm hφ => by
  show Oper.upon P _ a R Q _
  rw [hr a.eval w (fun x v h => hE.eval h), Oper.upon_enter]
  refine (hc w hm hφ).mono ?_
  rintro e w' ⟨r, s, h1, rfl, h2, h3⟩
  rw [ho]
  exact k r s _ _ hE (hm.call h2 h3) h1
theorem o_callXP {o : Oper} {ρ ν : Type} {f : Nat} {vs : List Value} {κ : ρ → Prop} {val : ρ → ν → Value} {N : ρ → ν → List Ch} (ho : o.dst = some d) (hr : Runs P E o f vs) (hd : Nat.blt d n = true)
    (hc : ∀ w, Mem G D w0 L w → φ → Calls P f vs.toArray w (Ret [] (fz G L w) w κ val N)) (k : ∀ r s, Nx n G D w0 R ((d, val r s) :: E) (N r s ++ L) (κ r)) : Nx n G D w0 (fun a w => Oper.wp P o a w R Q) E L φ :=
  o_callX (M0 := []) (L' := L) ho hr hd hc k
theorem o_callXP0 {o : Oper} {ρ ν : Type} {f : Nat} {vs : List Value} {κ : ρ → Prop} {val : ρ → ν → Value} {N : ρ → ν → List Ch} (ho : o.dst = none) (hr : Runs P E o f vs)
    (hc : ∀ w, Mem G D w0 L w → φ → Calls P f vs.toArray w (Ret [] (fz G L w) w κ val N)) (k : ∀ r s, Nx n G D w0 R E (N r s ++ L) (κ r)) : Nx n G D w0 (fun a w => Oper.wp P o a w R Q) E L φ :=
  o_callX0 (M0 := []) (L' := L) ho hr hc k
theorem equal_nil {w : World} {e' : TypeId} (hT : P.underlying T = some (.slice e')) (a : Option Addr) (l c : Nat) : (Op.equal T (.slice a l c) (.slice none 0 0)).run P w = .ok a.isNone w := by
  show (Op.equalIn (9999 + 1) T (.slice a l c) (.slice none 0 0)).run P w = _
  unfold Op.equalIn
  rw [Sem.run_bind, run_underlying hT, Result.andThen_ok]
  cases a <;> simp
/-- a slice is held against nil -/
theorem o_eqlN {α : Type} {El' : El α} {v : Value} {xs : List α} {c : Ch} {κ : Bool → Prop} {e' : TypeId} (i : Nat) (hi : lget L i = some c) (hc : Reads c El' v xs) (hx : oev E x = some v) (hy : oev E y = some (.slice none 0 0)) (hd : Nat.blt d n = true) (hT : P.underlying T = some (.slice e'))
    (k : ∀ z, Nx n G D w0 R ((d, .bool z) :: E) L (κ z)) : Nx n G D w0 (fun a w => Oper.wp P ⟨some d, .binOp .eql T x y T', ty, pos, aft, gd⟩ a w R Q) E L (nilW true xs κ) :=
  o_gen hd rfl fun ρ w hE hm hφ => by
    obtain ⟨a, cap, rfl, hcap, hr⟩ := hc _ _ (hm.get hi)
    refine ⟨.bool a.isNone, w, L, κ a.isNone, ?_, hm, ?_, k _⟩
    · simp [execOp, hE _ _ hx, hE _ _ hy, go_sem, hT, run_underlying hT, binOp, equal_nil hT]
    · cases xs with
      | nil => cases a with
        | none => exact (hφ.2 rfl).1
        | some a => exact (hφ.2 rfl).2
      | cons x0 r =>
        obtain ⟨b, off, rfl, _⟩ := hr (by simp)
        exact hφ.1 (by simp)
theorem o_neqN {α : Type} {El' : El α} {v : Value} {xs : List α} {c : Ch} {κ : Bool → Prop} {e' : TypeId} (i : Nat) (hi : lget L i = some c) (hc : Reads c El' v xs) (hx : oev E x = some v) (hy : oev E y = some (.slice none 0 0)) (hd : Nat.blt d n = true) (hT : P.underlying T = some (.slice e'))
    (k : ∀ z, Nx n G D w0 R ((d, .bool z) :: E) L (κ z)) : Nx n G D w0 (fun a w => Oper.wp P ⟨some d, .binOp .neq T x y T', ty, pos, aft, gd⟩ a w R Q) E L (nilW false xs κ) :=
  o_gen hd rfl fun ρ w hE hm hφ => by
    obtain ⟨a, cap, rfl, hcap, hr⟩ := hc _ _ (hm.get hi)
    refine ⟨.bool a.isSome, w, L, κ a.isSome, ?_, hm, ?_, k _⟩
    · simp [execOp, hE _ _ hx, hE _ _ hy, go_sem, hT, run_underlying hT, binOp, equal_nil hT]
    · cases xs with
      | nil => cases a with
        | none => exact (hφ.2 rfl).2
        | some a => exact (hφ.2 rfl).1
      | cons x0 r =>
        obtain ⟨b, off, rfl, _⟩ := hr (by simp)
        exact hφ.1 (by simp)
/-- one of the slices of an array value -/
theorem o_ixN {α : Type} {El' : El α} {vs : List Value} {xs : List (List α)} {I : Int} {κ : List α → Prop} {len e' : Nat} (M : Mode P n G D w0 E ⟨some d, .index T x y, ty, pos, aft, gd⟩ Tk R Lr L) (hfa : ∀ w, Mem G D w0 L w → SlAll El' (fz G L w) w vs xs) (hx : oev E x = some (.agg vs.toArray)) (hy : oev E y = some (.int .i64 I)) (hd : Nat.blt d n = true)
    (hT : arrB P T = some (len, e', false, 1)) (hl : xs.length = len) (k : ∀ v z, xs[I.toNat]? = some z → Nx n G D w0 R ((d, v) :: E) (roCh El' v z :: L) (κ z)) : Nx n G D w0 Tk E L (idxW xs I κ) := fun a w hE hm hφ => by
  refine (M.val (v := pickV vs I) (φ := idxW xs I κ) (ψ := idxW xs I κ) hd rfl (fun ρ w hE hm hφ => ?_) id (fun a' w' hE' hm' hφ' => ?_)) a w hE hm hφ
  · obtain ⟨z, h0, h1, h2⟩ := hφ
    have hlt := (List.getElem?_eq_some_iff.1 h1).1
    obtain ⟨hu', ht⟩ := arr_of hT
    obtain ⟨i, hq, hi⟩ := info_sz ht
    have h5 : I < len := by omega
    have hvl : vs.length = xs.length := by
      have key : ∀ {vs : List Value} {xs : List (List α)} {F : Nat → Prop} {w : World}, SlAll El' F w vs xs → vs.length = xs.length := by
        intro vs
        induction vs with
        | nil => intro xs F w h; cases xs with
          | nil => rfl
          | cons _ _ => exact h.elim
        | cons v vs ih => intro xs F w h; cases xs with
          | nil => exact h.elim
          | cons x xs => simp [ih h.2]
      exact key (hfa _ (by assumption))
    have hv : ldv false (I.toNat * 1) 1 vs = some (pickV vs I) := by
      have : I.toNat < vs.length := by omega
      simp [ldv, pickV, this]
    have hr := run_partv (P := P) (w := w) ht hv
    simp at hr
    simp [execOp, hE _ _ hx, hE _ _ hy, Instr.index, asIntOf, run_underlying hu', sizeOf, typeInfo, hq, hi, h0, h5, hr]
  · obtain ⟨z, h0, h1, h2⟩ := hφ'
    obtain ⟨v, hv, hs⟩ := (hfa w' hm').get h1
    have hp : pickV vs I = v := by simp [pickV, hv]
    rw [hp] at hE'
    exact k v z h1 a' w' hE' (hm'.note (fun b hb => hb) hs) h2
/-- an array in memory as plain cells -/
theorem nx_unarr {α : Type} {El' : El α} {xs : List α} {b len : Nat} (i : Nat) (hi : lget L i = some (ownCh El' T (.slice (some ⟨b, 0, none⟩) len len) xs)) (h1 : xs.length = len) (hes : len * El'.size = sz) (hpos : 0 < len) (h : ∀ wr F0 css, Rows El' F0 wr xs css → Nx n G D w0 R E (snapCh wr F0 :: lset L i (cellCh b css.flatten T)) φ) : Nx n G D w0 R E L φ := fun a w hE hm hφ => by
  obtain ⟨css, hr, h0, how⟩ := hm.get hi
  rcases how with ⟨h, _⟩ | ⟨g, cap, cur, h, hg0, hg, hnc, hcm, hcz, htake⟩
  · cases h
  simp only [Value.slice.injEq, Option.some.injEq, Addr.mk.injEq] at h
  obtain ⟨⟨rfl, -, -⟩, -, rfl⟩ := h
  have hcur : cur.toList = css.flatten := by
    rw [← htake, h1, List.take_of_length_le (by rw [Array.length_toList, hcz]; exact Nat.le_refl _)]
  have hmem := lget_mem hi
  have hup : Mem G D w0 (lset L i (cellCh b css.flatten T)) w := by
    refine hm.upd hi rfl rfl rfl (Nat.le_refl _) (fun _ _ _ => rfl) (fun c hc => ?_) ?_
    · have hc' : c = b := hc
      subst hc'
      exact ⟨(Array.getElem?_eq_some_iff.1 hg).1, .inl rfl⟩
    · show w.heap[b]? = some (.cells css.flatten.toArray T (0, 0))
      rw [hg, ← hcur]
  refine h w (fz G L w) css hr a w hE (hup.note (fun b hb => hb) ⟨fun c hc => ⟨hc.1, hc.2.1, fun d hd => ?_⟩, fun _ _ => rfl⟩) hφ
  rcases mem_lset hi hm.disj hd with e' | ⟨e1, _⟩
  · subst e'; exact fun hk => hc.2.2 _ hmem (by rw [show c = b from hk]; rfl)
  · exact hc.2.2 d e1
theorem rows_f4 {α : Type} {El' : El α} {enc : α → List Value} (hfl : Flat El' enc) {F : Nat → Prop} {w : World} {a b c d : α} {css : List (List Value)} (h : Rows El' F w [a, b, c, d] css) : css = [enc a, enc b, enc c, enc d] := by
  obtain ⟨_, _, _, _, rfl, h0, h1, h2, h3⟩ := rows_l4 h
  rw [(hfl _ _ _ _).1 h0, (hfl _ _ _ _).1 h1, (hfl _ _ _ _).1 h2, (hfl _ _ _ _).1 h3]
end
end Go.Proofs.YtnogaeckmiekdaaDoor
