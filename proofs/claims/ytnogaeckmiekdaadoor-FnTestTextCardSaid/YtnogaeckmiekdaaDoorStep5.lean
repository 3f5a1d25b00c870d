/- The steps of printed walks: calls, comparisons, the beginning and the end of a function. -/
import Derived.Test.YtnogaeckmiekdaaDoorStep4
set_option linter.unusedSimpArgs false
set_option linter.unusedVariables false
namespace Go.Proofs.YtnogaeckmiekdaaDoor
open Go.RowKit

def eargs : Nat → List Value → Env
  | _, [] => []
  | i, v :: r => (i, v) :: eargs (i + 1) r
theorem eargs_get : ∀ (l : List Value) (i s : Nat) (v : Value), eget (eargs i l) s = some v → i ≤ s ∧ l[s - i]? = some v
  | [], i, s, v, h => by simp [eargs, eget] at h
  | u :: r, i, s, v, h => by
    rw [eargs, eget_cons] at h
    by_cases e : i = s
    · subst e; simp at h; subst h; simp
    · rw [if_neg e] at h
      obtain ⟨h1, h2⟩ := eargs_get r (i + 1) s v h
      refine ⟨by omega, ?_⟩
      rw [show s - i = (s - (i + 1)) + 1 by omega]
      simpa using h2
def oevs (E : Env) : List Operand → Option (List Value)
  | [] => some []
  | x :: r => match oev E x, oevs E r with
    | some v, some vs => some (v :: vs)
    | _, _ => none
theorem oevs_map {E : Env} {ρ : Operand → Value} (hE : ∀ x v, oev E x = some v → ρ x = v) : ∀ {xs : List Operand} {vs : List Value}, oevs E xs = some vs → xs.map ρ = vs
  | [], vs, h => by simp [oevs] at h; simp [h]
  | x :: r, vs, h => by
    simp only [oevs] at h
    split at h
    · rename_i v vs' h1 h2
      simp at h
      subst h
      simp [hE _ _ h1, oevs_map hE h2]
    · simp at h

/-- what a call promises: a result under κ, nothing elder changed but what it was given to write, new chunks -/
def Ret {ρ ν : Type} (M0 : List Ch) (F : Nat → Prop) (w : World) (κ : ρ → Prop) (val : ρ → ν → Value) (N : ρ → ν → List Ch) (e : Ending) (w' : World) : Prop :=
  ∃ r s, κ r ∧ e = .returned (val r s) ∧ UpdD (feet M0) w w' ∧ NewCh M0 F w w' (N r s)
theorem free_cell {b : Nat} {cs : List Value} {T : TypeId} : (cellCh b cs T).free := fun _ _ _ h => h
theorem free_own {α : Type} {El' : El α} {enc : α → List Value} {e : Nat} {v : Value} {xs : List α} (hfl : Flat El' enc) : (ownCh El' e v xs).free := fun F F' w ⟨css, h1, h2⟩ => by
  refine ⟨css, ?_, h2⟩
  have go : ∀ (ys : List α) (dss : List (List Value)), Rows El' F w ys dss → Rows El' F' w ys dss := by
    intro ys
    induction ys with
    | nil => intro dss h; cases dss <;> first | trivial | exact h.elim
    | cons y0 r ih => intro dss h; cases dss with
      | nil => exact h.elim
      | cons d0 ds => exact ⟨hfl.free _ _ _ _ _ _ h.1, ih ds h.2⟩
  exact go _ _ h1

section
variable {P : Program} {n : Nat} {G D : Nat → Prop} {w0 : World} {Q : Exit → Act → World → Prop} {R : Act → World → Prop} {E : Env} {L : List Ch} {φ : Prop}
variable {d : Tmp} {ty : TypeId} {pos : String} {aft : Array Edge} {gd : Option (Nat × Bool)} {Tk : Act → World → Prop} {Lr : List Ch} {x y : Operand} {T T' S : TypeId} {e sz by' : Nat}

theorem o_call {ρ ν : Type} {f : Nat} {l : List Operand} {at' : Array TypeId} {vs : List Value} {κ : ρ → Prop} {val : ρ → ν → Value} {N : ρ → ν → List Ch} {M0 L' : List Ch} (hf : ∀ args w, (callFunc f args).run P w = .ok (.enter f args) w) (hargs : oevs E l = some vs) (hd : Nat.blt d n = true)
    (hc : ∀ w, Mem G D w0 (M0 ++ L') w → φ → Calls P f vs.toArray w (Ret M0 (fz G (M0 ++ L') w) w κ val N)) (k : ∀ r s, Nx n G D w0 R ((d, val r s) :: E) (N r s ++ L') (κ r)) :
    Nx n G D w0 (fun a w => Oper.wp P ⟨some d, .call { callee := .value (.func f), args := l.toArray, argTypes := at' }, ty, pos, aft, gd⟩ a w R Q) E (M0 ++ L') φ := fun a w hE hm hφ => by
  have hx := oevs_map (fun x v h => hE.eval h) hargs
  have hr : (execOp a.eval ⟨some d, .call { callee := .value (.func f), args := l.toArray, argTypes := at' }, ty, pos, aft, gd⟩).run P w = .ok (.enter f vs.toArray) w := by
    simp [execOp, resolve, Deferred.ofValue, Act.eval, invoke, hf, ← hx]
  show Oper.upon P _ a R Q _
  rw [hr, Oper.upon_enter]
  refine (hc w hm hφ).mono ?_
  rintro e w' ⟨r, s, h1, rfl, h2, h3⟩
  exact k r s _ _ (hE.put hd _) (hm.call h2 h3) h1
theorem o_call0 {ρ ν : Type} {f : Nat} {l : List Operand} {at' : Array TypeId} {vs : List Value} {κ : ρ → Prop} {val : ρ → ν → Value} {N : ρ → ν → List Ch} {M0 L' : List Ch} (hf : ∀ args w, (callFunc f args).run P w = .ok (.enter f args) w) (hargs : oevs E l = some vs)
    (hc : ∀ w, Mem G D w0 (M0 ++ L') w → φ → Calls P f vs.toArray w (Ret M0 (fz G (M0 ++ L') w) w κ val N)) (k : ∀ r s, Nx n G D w0 R E (N r s ++ L') (κ r)) :
    Nx n G D w0 (fun a w => Oper.wp P ⟨none, .call { callee := .value (.func f), args := l.toArray, argTypes := at' }, ty, pos, aft, gd⟩ a w R Q) E (M0 ++ L') φ := fun a w hE hm hφ => by
  have hx := oevs_map (fun x v h => hE.eval h) hargs
  have hr : (execOp a.eval ⟨none, .call { callee := .value (.func f), args := l.toArray, argTypes := at' }, ty, pos, aft, gd⟩).run P w = .ok (.enter f vs.toArray) w := by
    simp [execOp, resolve, Deferred.ofValue, Act.eval, invoke, hf, ← hx]
  show Oper.upon P _ a R Q _
  rw [hr, Oper.upon_enter]
  refine (hc w hm hφ).mono ?_
  rintro e w' ⟨r, s, h1, rfl, h2, h3⟩
  exact k r s _ _ hE (hm.call h2 h3) h1
/-- results that hang on nothing of the caller's: the callee may read whatever it does not write -/
theorem ret_free {ρ ν : Type} {M0 : List Ch} {F F' : Nat → Prop} {w : World} {κ : ρ → Prop} {val : ρ → ν → Value} {N : ρ → ν → List Ch} (hf : ∀ r s, ∀ c ∈ N r s, c.free) {e : Ending} {w' : World} (h : Ret M0 F w κ val N e w') : Ret M0 F' w κ val N e w' := by
  obtain ⟨r, s, h1, h2, h3, h4⟩ := h
  exact ⟨r, s, h1, h2, h3, h4.free (hf r s)⟩
theorem o_callP {ρ ν : Type} {f : Nat} {l : List Operand} {at' : Array TypeId} {vs : List Value} {κ : ρ → Prop} {val : ρ → ν → Value} {N : ρ → ν → List Ch} (hf : ∀ args w, (callFunc f args).run P w = .ok (.enter f args) w) (hargs : oevs E l = some vs) (hd : Nat.blt d n = true)
    (hc : ∀ w, Mem G D w0 L w → φ → Calls P f vs.toArray w (Ret [] (fz G L w) w κ val N)) (k : ∀ r s, Nx n G D w0 R ((d, val r s) :: E) (N r s ++ L) (κ r)) :
    Nx n G D w0 (fun a w => Oper.wp P ⟨some d, .call { callee := .value (.func f), args := l.toArray, argTypes := at' }, ty, pos, aft, gd⟩ a w R Q) E L φ :=
  o_call (M0 := []) (L' := L) hf hargs hd hc k
theorem o_callP0 {ρ ν : Type} {f : Nat} {l : List Operand} {at' : Array TypeId} {vs : List Value} {κ : ρ → Prop} {val : ρ → ν → Value} {N : ρ → ν → List Ch} (hf : ∀ args w, (callFunc f args).run P w = .ok (.enter f args) w) (hargs : oevs E l = some vs)
    (hc : ∀ w, Mem G D w0 L w → φ → Calls P f vs.toArray w (Ret [] (fz G L w) w κ val N)) (k : ∀ r s, Nx n G D w0 R E (N r s ++ L) (κ r)) :
    Nx n G D w0 (fun a w => Oper.wp P ⟨none, .call { callee := .value (.func f), args := l.toArray, argTypes := at' }, ty, pos, aft, gd⟩ a w R Q) E L φ :=
  o_call0 (M0 := []) (L' := L) hf hargs hc k
/-- the chunks in another order, or fewer -/
theorem pk (l : List Nat) (hl : nodupB l = true) (h : Nx n G D w0 R E (lpick L l) φ) : Nx n G D w0 R E L φ := fun a w hE hm hφ => h a w hE (hm.pick l hl) hφ

/-! ends -/
def resOne (tmps : Array Value) : ResultVar → Sem Value
  | .tmp t => pure (tmps.getD t undef)
  | .cell a t => do loadVar t (← asAddr (tmps.getD a undef))
theorem results_resOne (fn : Func) (tmps : Array Value) : results fn tmps = (do
    let vs ← fn.results.mapM (resOne tmps)
    pure (if h : vs.size = 1 then vs[0] else .tuple vs)) := rfl
def Rv (P : Program) (n : Nat) (G D : Nat → Prop) (w0 : World) (E : Env) (L : List Ch) (rv : ResultVar) (v : Value) : Prop :=
  ∀ a w, Has n E a → Mem G D w0 L w → (resOne a.tmps rv).run P w = .ok v w
theorem rv_t {s : Nat} {v : Value} (hs : eget E s = some v) : Rv P n G D w0 E L (.tmp s) v := fun a w hE _ => by simp [resOne, hE.get _ _ hs]
theorem rv_c {s b sz : Nat} {cs : List Value} {T0 : TypeId} {row : Bool} {v : Value} (i : Nat) (hi : lget L i = some (cellCh b cs T0)) (hs : eget E s = some (.pointer (some ⟨b, 0, none⟩))) (hT : tyB P T = some (row, sz)) (hv : ldv row 0 sz cs = some v) : Rv P n G D w0 E L (.cell s T) v := fun a w hE hm => by
  have hb : w.heap[b]? = some (.cells cs.toArray T0 (0, 0)) := hm.get hi
  have hr : w.rangeAt b 0 cs := fun j u hu => by rw [cell_of_row w b _ cs.toArray T0 (0, 0) hb]; simpa using hu
  have := run_ldv (P := P) hT hr hv
  simp only [Instr.loadAt, Instr.sureAddr, Sem.run_bind, Sem.run_pure, Result.andThen_ok, Nat.add_zero] at this
  simp [resOne, hE.get _ _ hs, asAddr, this]
theorem l_end0 {M0 : List Ch} {ν : Type} {F : Nat → Prop} {fn : Func} {κ : Unit → Prop} {val : Unit → ν → Value} {N : Unit → ν → List Ch} (hres : fn.results = #[]) (u : ν) (hv : val () u = .tuple #[])
    (hN : ∀ w, Mem G (feet M0) w0 L w → NewCh M0 F w0 w (N () u)) : Nx n G (feet M0) w0 (bodyPost P fn (Ret M0 F w0 κ val N) .ret) E L (κ ()) := fun a w hE hm hφ =>
  ⟨hE.defers, val () u, by rw [results_none hres, hv], (), u, hφ, rfl, hm.updD, hN w hm⟩
theorem l_end1 {M0 : List Ch} {ρ ν : Type} {F : Nat → Prop} {fn : Func} {q : ResultVar} {κ : ρ → Prop} {val : ρ → ν → Value} {N : ρ → ν → List Ch} (hres : fn.results = #[q]) (r : ρ) (u : ν) (hs : Rv P n G (feet M0) w0 E L q (val r u))
    (hN : ∀ w, Mem G (feet M0) w0 L w → NewCh M0 F w0 w (N r u)) : Nx n G (feet M0) w0 (bodyPost P fn (Ret M0 F w0 κ val N) .ret) E L (κ r) := fun a w hE hm hφ =>
  ⟨hE.defers, val r u, by simp [results_resOne, hres, hs a w hE hm], r, u, hφ, rfl, hm.updD, hN w hm⟩
theorem l_end2 {M0 : List Ch} {ρ ν : Type} {F : Nat → Prop} {fn : Func} {q q2 : ResultVar} {v v2 : Value} {κ : ρ → Prop} {val : ρ → ν → Value} {N : ρ → ν → List Ch} (hres : fn.results = #[q, q2]) (r : ρ) (u : ν) (hs : Rv P n G (feet M0) w0 E L q v) (ht : Rv P n G (feet M0) w0 E L q2 v2) (hv : val r u = .tuple #[v, v2])
    (hN : ∀ w, Mem G (feet M0) w0 L w → NewCh M0 F w0 w (N r u)) : Nx n G (feet M0) w0 (bodyPost P fn (Ret M0 F w0 κ val N) .ret) E L (κ r) := fun a w hE hm hφ =>
  ⟨hE.defers, val r u, by simp [results_resOne, hres, hs a w hE hm, ht a w hE hm, hv], r, u, hφ, rfl, hm.updD, hN w hm⟩
theorem l_end3 {M0 : List Ch} {ρ ν : Type} {F : Nat → Prop} {fn : Func} {q q2 q3 : ResultVar} {v v2 v3 : Value} {κ : ρ → Prop} {val : ρ → ν → Value} {N : ρ → ν → List Ch} (hres : fn.results = #[q, q2, q3]) (r : ρ) (u : ν) (hs : Rv P n G (feet M0) w0 E L q v) (ht : Rv P n G (feet M0) w0 E L q2 v2) (hq : Rv P n G (feet M0) w0 E L q3 v3) (hv : val r u = .tuple #[v, v2, v3])
    (hN : ∀ w, Mem G (feet M0) w0 L w → NewCh M0 F w0 w (N r u)) : Nx n G (feet M0) w0 (bodyPost P fn (Ret M0 F w0 κ val N) .ret) E L (κ r) := fun a w hE hm hφ =>
  ⟨hE.defers, val r u, by simp [results_resOne, hres, hs a w hE hm, ht a w hE hm, hq a w hE hm, hv], r, u, hφ, rfl, hm.updD, hN w hm⟩

/-! the beginning -/
/-- where results may lie in what came in: F tells what may be read -/
theorem enterB {F : Nat → Prop} {f : Nat} {fn : Func} {c : Code} {args : List Value} {K : Ending → World → Prop} (M0 : List Ch) (hF : ∀ b, F b → b < w0.heap.size ∧ ¬ feet M0 b) (hf : P.funcs[f]? = some fn) (hb : fn.body = some c) (hn : fn.ntmps = n) (hle : Nat.ble args.length n = true)
    (L : List Ch) (hfoot : ∀ c ∈ L, ∀ b, ¬ c.foot b) (hh : ∀ c ∈ L, c.holds F w0)
    (hM : ∀ c ∈ M0, ∀ b, c.foot b → b < w0.heap.size) (hMd : M0.Pairwise fun c d => ∀ b, c.foot b → ¬ d.foot b) (hMh : ∀ c ∈ M0, c.holds F w0) (hφ : φ)
    (h : Nx n (gB F M0 w0) (feet M0) w0 (c.wp P (bodyPost P fn K)) (eargs 0 args) (M0 ++ L) φ) : Calls P f args.toArray w0 K := by
  have hle' := Nat.le_of_ble_eq_true hle
  refine calls_of_wp hf hb ?_
  refine h _ _ ?_ ?_ hφ
  · rw [hn]
    have := Has.enter (args := args) (f := n - args.length) (n := n) (by omega) (eargs 0 args) (fun s v hs => by have := eargs_get args 0 s v hs; simpa using this.2)
    simpa using this
  · have hfz : ∀ b, F b → fz (gB F M0 w0) (M0 ++ L) w0 b := fun b hb => ⟨(hF b hb).1, .inl hb, fun d hd hk => by
      rcases List.mem_append.1 hd with e | e
      · exact (hF b hb).2 ⟨d, e, hk⟩
      · exact hfoot d e b hk⟩
    refine Mem.start w0 _ _ (M0 ++ L) (fun b h => .inr h) (fun c hc b hb => ?_) ?_ (fun c hc => ?_)
    · rcases List.mem_append.1 hc with e | e
      · exact ⟨hM c e b hb, c, e, hb⟩
      · exact absurd hb (hfoot c e b)
    · exact List.pairwise_append.2 ⟨hMd, List.Pairwise.imp_of_mem (R := fun _ _ => True) (fun hc _ _ b hb => absurd hb (hfoot _ hc b)) (List.pairwise_of_forall (fun _ _ => trivial)), fun c _ d hd b _ h2 => hfoot d hd b h2⟩
    · rcases List.mem_append.1 hc with e | e
      · exact c.keep _ _ w0 w0 hfz (fun _ _ => rfl) (hMh c e)
      · exact c.keep _ _ w0 w0 hfz (fun _ _ => rfl) (hh c e)
/-- what the call may read of the caller's -/
theorem fz_ok {w : World} {M0 L' : List Ch} : ∀ b, fz G (M0 ++ L') w b → b < w.heap.size ∧ ¬ feet M0 b := fun b hb => ⟨hb.1, fun ⟨d, hd, h⟩ => hb.2.2 d (List.mem_append.2 (.inl hd)) h⟩
theorem fz_ok0 {w : World} : ∀ b, fz G L w b → b < w.heap.size ∧ ¬ feet [] b := fun b hb => ⟨hb.1, fun ⟨d, hd, _⟩ => by simp at hd⟩
theorem Mem.ro {α : Type} {El' : El α} {v : Value} {xs : List α} {w : World} (m : Mem G D w0 L w) (i : Nat) (hi : lget L i = some (roCh El' v xs)) : Sl El' (fz G L w) w v xs := m.get hi
/-- a slice of the call's own is not written any more -/
theorem frz {α : Type} {El' : El α} {v : Value} {xs : List α} {c : Ch} (i : Nat) (hi : lget L i = some c) (hc : Reads c El' v xs) (h : Nx n G D w0 R E (lset L i (roCh El' v xs)) φ) : Nx n G D w0 R E L φ := fun a w hE hm hφ =>
  h a w hE (hm.freeze i hi hc) hφ
theorem nofeet0 : ∀ b, ¬ feet [] b := fun b ⟨c, hc, _⟩ => by simp at hc
theorem hh_nil {w : World} {F : Nat → Prop} : ∀ c ∈ ([] : List Ch), c.holds F w := fun c h => by simp at h
theorem hh_cons {w : World} {F : Nat → Prop} {c : Ch} {L : List Ch} (h : c.holds F w) (hL : ∀ c ∈ L, c.holds F w) : ∀ d ∈ c :: L, d.holds F w := fun d hd => by
  rcases List.mem_cons.1 hd with e | e
  · subst e; exact h
  · exact hL d e
theorem hf_nil : ∀ c ∈ ([] : List Ch), ∀ b, ¬ c.foot b := fun c h => by simp at h
theorem hf_cons {α : Type} {El' : El α} {v : Value} {xs : List α} {L : List Ch} (hL : ∀ c ∈ L, ∀ b, ¬ c.foot b) : ∀ c ∈ roCh El' v xs :: L, ∀ b, ¬ c.foot b := fun d hd b => by
  rcases List.mem_cons.1 hd with e | e
  · subst e; exact id
  · exact hL d e b

/-! comparisons for equality -/
theorem o_eql (M : Mode P n G D w0 E ⟨some d, .binOp .eql T x y T', ty, pos, aft, gd⟩ Tk R Lr L) {X Y : Int} {K : IntKind} (hT : P.underlying T = some (.int K)) (hx : oev E x = some (.int K X)) (hy : oev E y = some (.int K Y)) (hd : Nat.blt d n = true) (k : Nx n G D w0 R ((d, .bool (decide (X = Y))) :: E) L φ) :
    Nx n G D w0 Tk E L φ :=
  M.val hd rfl (fun ρ w hE _ _ => by simp [execOp, hE _ _ hx, hE _ _ hy, go_sem, hT, run_underlying hT]; rfl) id k
theorem o_neq (M : Mode P n G D w0 E ⟨some d, .binOp .neq T x y T', ty, pos, aft, gd⟩ Tk R Lr L) {X Y : Int} {K : IntKind} (hT : P.underlying T = some (.int K)) (hx : oev E x = some (.int K X)) (hy : oev E y = some (.int K Y)) (hd : Nat.blt d n = true) (k : Nx n G D w0 R ((d, .bool (!decide (X = Y))) :: E) L φ) :
    Nx n G D w0 Tk E L φ :=
  M.val hd rfl (fun ρ w hE _ _ => by simp [execOp, hE _ _ hx, hE _ _ hy, go_sem, hT, run_underlying hT]; rfl) id k
theorem o_eqlB (M : Mode P n G D w0 E ⟨some d, .binOp .eql T x y T', ty, pos, aft, gd⟩ Tk R Lr L) {X Y : Bool} (hT : P.underlying T = some .bool) (hx : oev E x = some (.bool X)) (hy : oev E y = some (.bool Y)) (hd : Nat.blt d n = true) (k : Nx n G D w0 R ((d, .bool (decide (X = Y))) :: E) L φ) :
    Nx n G D w0 Tk E L φ :=
  M.val hd rfl (fun ρ w hE _ _ => by cases X <;> cases Y <;> simp [execOp, hE _ _ hx, hE _ _ hy, go_sem, hT, run_underlying hT]) id k
theorem o_neqB (M : Mode P n G D w0 E ⟨some d, .binOp .neq T x y T', ty, pos, aft, gd⟩ Tk R Lr L) {X Y : Bool} (hT : P.underlying T = some .bool) (hx : oev E x = some (.bool X)) (hy : oev E y = some (.bool Y)) (hd : Nat.blt d n = true) (k : Nx n G D w0 R ((d, .bool (!decide (X = Y))) :: E) L φ) :
    Nx n G D w0 Tk E L φ :=
  M.val hd rfl (fun ρ w hE _ _ => by cases X <;> cases Y <;> simp [execOp, hE _ _ hx, hE _ _ hy, go_sem, hT, run_underlying hT]) id k

theorem o_nilc (M : Mode P n G D w0 E ⟨some d, .nilCheck x, ty, pos, aft, gd⟩ Tk R Lr L) {a : Addr} (hx : oev E x = some (.pointer (some a))) (hd : Nat.blt d n = true) (k : Nx n G D w0 R ((d, .pointer (some a)) :: E) L φ) : Nx n G D w0 Tk E L φ :=
  M.val hd rfl (fun ρ w hE _ _ => by simp [execOp, hE _ _ hx]) id k
/-! structs are built -/
def bldB (P : Program) (T : TypeId) : Option (Array (Nat × Nat) × List Value) :=
  match P.underlying T, zeroB P T with
  | some (.struct fs), some zs => (fs.toList.mapM fun (f : Field) => (P.info? f.type).map fun i => (f.offset, i.size)).map fun l => (l.toArray, zs)
  | _, _ => none
theorem places_run {w : World} : ∀ (fs : List Field) (l : List (Nat × Nat)), (fs.mapM fun (f : Field) => (P.info? f.type).map fun i => (f.offset, i.size)) = some l →
    (fs.mapM fun f => (do pure (f.offset, ← sizeOf f.type) : Sem (Nat × Nat))).run P w = .ok l w
  | [], l, h => by simp at h; subst h; rfl
  | f :: r, l, h => by
    simp only [List.mapM_cons] at h ⊢
    cases hi : P.info? f.type with
    | none => simp [hi] at h
    | some i =>
      cases hr : (r.mapM fun (f : Field) => (P.info? f.type).map fun i => (f.offset, i.size)) with
      | none => simp [hi, hr] at h
      | some l' =>
        simp [hi, hr] at h
        subst h
        have := places_run (w := w) r l' hr
        simp [Sem.run_bind, sizeOf, typeInfo, hi] at this ⊢
        simp [this]
theorem o_bld {ps : Array (Nat × Operand)} (M : Mode P n G D w0 E ⟨some d, .build T ps, ty, pos, aft, gd⟩ Tk R Lr L) {qs : List (Nat × Value)} {cells zs : List Value} {pl : Array (Nat × Nat)}
    (hq : ∀ ρ : Operand → Value, (∀ x v, oev E x = some v → ρ x = v) → (ps.map fun (i, x) => (i, ρ x)) = qs.toArray) (hd : Nat.blt d n = true) (hT : bldB P T = some (pl, zs)) (hfill' : lfill (pl[·]?) zs qs = some cells)
    (k : Nx n G D w0 R ((d, .agg cells.toArray) :: E) L φ) : Nx n G D w0 Tk E L φ :=
  M.val hd rfl (fun ρ w hE hm _ => by
    have hfill := fill_of _ _ _ _ hfill'
    unfold bldB at hT
    split at hT
    · rename_i fs zs' hu hz
      cases hp : (fs.toList.mapM fun (f : Field) => (P.info? f.type).map fun i => (f.offset, i.size)) with
      | none => rw [hp] at hT; simp at hT
      | some l =>
        rw [hp] at hT
        simp at hT
        obtain ⟨rfl, rfl⟩ := hT
        have hr := places_run (w := w) fs.toList l hp
        cases hi : P.info? T with
        | none => simp [zeroB, hi] at hz
        | some i =>
          obtain ⟨z, hz1, hz2⟩ := zeroB_spec hz hi
          have hr' : (fs.mapM fun f => (do pure (f.offset, ← sizeOf f.type) : Sem (Nat × Nat))).run P w = .ok l.toArray w := by
            have h2 : (fs.mapM fun f => (do pure (f.offset, ← sizeOf f.type) : Sem (Nat × Nat))) = Functor.map List.toArray (fs.toList.mapM fun f => (do pure (f.offset, ← sizeOf f.type) : Sem (Nat × Nat))) := by
              rw [← List.mapM_toArray, Array.toArray_toList]
            rw [h2, map_eq_pure_bind, Sem.run_bind, hr]
            rfl
          have hz3 : (zeroValue T).run P w = .ok z w := by simp [zeroValue, typeInfo, hi, hz1]
          have hb : (Instr.build T qs.toArray).run P w = .ok (.agg cells.toArray) w := by
            unfold Instr.build
            rw [Sem.run_bind, hz3, Result.andThen_ok, Sem.run_bind, run_underlying hu, Result.andThen_ok]
            simp only
            rw [Sem.run_bind, hr', Result.andThen_ok]
            rw [hz2, hfill]
            rfl
          simp only [execOp, hq ρ hE, Sem.run_bind, hb]
          rfl
    · simp at hT) id k

/-! guards and picks -/
theorem o_pickT {c : Operand} (M : Mode P n G D w0 E ⟨some d, .pick c x y, ty, pos, aft, gd⟩ Tk R Lr L) {v : Value} (hc : oev E c = some (.bool true)) (hx : oev E x = some v) (hd : Nat.blt d n = true) (k : Nx n G D w0 R ((d, v) :: E) L φ) : Nx n G D w0 Tk E L φ :=
  M.val hd rfl (fun ρ w hE _ _ => by simp [execOp, hE _ _ hc, hE _ _ hx, asBool]) id k
theorem o_pickF {c : Operand} (M : Mode P n G D w0 E ⟨some d, .pick c x y, ty, pos, aft, gd⟩ Tk R Lr L) {v : Value} (hc : oev E c = some (.bool false)) (hx : oev E y = some v) (hd : Nat.blt d n = true) (k : Nx n G D w0 R ((d, v) :: E) L φ) : Nx n G D w0 Tk E L φ :=
  M.val hd rfl (fun ρ w hE _ _ => by simp [execOp, hE _ _ hc, hE _ _ hx, asBool]) id k
theorem yielded_of {ops : Array Oper} {j dj : Nat} {a : Act} {b : Bool} (hj : (ops[j]?).bind (·.dst) = some dj) (hE : Has n E a) (hv : eget E dj = some (.bool b)) : yielded ops a.tmps j = some b := by
  unfold yielded
  cases ho : ops[j]? with
  | none => simp [ho] at hj
  | some o => simp [ho] at hj; simp [ho, hj, hE.get _ _ hv]
theorem st_gw {ops : Array Oper} {rest : List Oper} {dst : Option Tmp} {op : Op} {j dj : Nat} {want : Bool} (hj : (ops[j]?).bind (·.dst) = some dj) (hv : eget E dj = some (.bool want))
    (h : Nx n G D w0 (fun a w => Oper.wp P ⟨dst, op, ty, pos, aft, some (j, want)⟩ a w (wpList P ops Q rest) Q) E L φ) : Nx n G D w0 (wpList P ops Q (⟨dst, op, ty, pos, aft, some (j, want)⟩ :: rest)) E L φ := fun a w hE hm hφ => by
  unfold wpList
  rw [if_pos (by simp [Region.wanted, yielded_of hj hE hv])]
  exact .inl (h a w hE hm hφ)
theorem st_g {ops : Array Oper} {rest : List Oper} {dst : Option Tmp} {op : Op} {j dj : Nat} {want : Bool} (hj : (ops[j]?).bind (·.dst) = some dj) (hv : eget E dj = some (.bool want)) : Mode P n G D w0 E ⟨dst, op, ty, pos, aft, some (j, want)⟩ (wpList P ops Q (⟨dst, op, ty, pos, aft, some (j, want)⟩ :: rest)) (wpList P ops Q rest) L L :=
  ⟨fun hd ho hr hψ k => st_gw hj hv (o_val hd ho hr hψ k)⟩
/-- the guard's value is not the one that is wanted -/
def nw : Value → Bool → Bool
  | .bool b, want => !(b == want)
  | _, _ => true
theorem not_wanted {ops : Array Oper} {j dj : Nat} {a : Act} {v : Value} {o : Oper} {want : Bool} (ho : o.guard = some (j, want)) (hj : (ops[j]?).bind (·.dst) = some dj) (hE : Has n E a) (hv : eget E dj = some v) (hb : nw v want = true) : Region.wanted o (yielded ops a.tmps) = false := by
  have h1 := hE.get _ _ hv
  unfold Region.wanted
  rw [ho]
  simp only
  unfold yielded
  rw [hj]
  simp only [Option.bind_some, h1]
  cases v <;> simp_all [nw]
theorem st_s {ops : Array Oper} {rest : List Oper} {op : Op} {j dj : Nat} {want : Bool} {v : Value} (hj : (ops[j]?).bind (·.dst) = some dj) (hv : eget E dj = some v) (hb : nw v want = true) (hd : Nat.blt d n = true)
    (h : Nx n G D w0 (wpList P ops Q rest) ((d, undef) :: E) L φ) : Nx n G D w0 (wpList P ops Q (⟨some d, op, ty, pos, aft, some (j, want)⟩ :: rest)) E L φ := fun a w hE hm hφ => by
  unfold wpList
  rw [if_neg (by rw [not_wanted rfl hj hE hv hb]; simp)]
  exact h _ _ (hE.put hd _) hm hφ
theorem st_s0 {ops : Array Oper} {rest : List Oper} {op : Op} {j dj : Nat} {want : Bool} {v : Value} (hj : (ops[j]?).bind (·.dst) = some dj) (hv : eget E dj = some v) (hb : nw v want = true)
    (h : Nx n G D w0 (wpList P ops Q rest) E L φ) : Nx n G D w0 (wpList P ops Q (⟨none, op, ty, pos, aft, some (j, want)⟩ :: rest)) E L φ := fun a w hE hm hφ => by
  unfold wpList
  rw [if_neg (by rw [not_wanted rfl hj hE hv hb]; simp)]
  exact h _ _ hE hm hφ
/-- a bool of the frame is parted -/
theorem st_sp {dj : Nat} {b : Bool} {A B : Prop} (hv : eget E dj = some (.bool b)) (ht : Nx n G D w0 R ((dj, .bool true) :: E) L A) (hf : Nx n G D w0 R ((dj, .bool false) :: E) L B) : Nx n G D w0 R E L (ifW b A B) := fun a w hE hm hφ => by
  have key : ∀ c, b = c → Has n ((dj, .bool c) :: E) a := fun c hc => ⟨hE.size, hE.defers, fun s v hs => by
    rw [eget_cons] at hs
    by_cases e : dj = s
    · subst e; rw [if_pos rfl] at hs; cases hs; rw [← hc]; exact hE.get _ _ hv
    · rw [if_neg e] at hs; exact hE.get _ _ hs⟩
  cases hb : b with
  | true => exact ht a w (key _ hb) hm (hφ.1 hb)
  | false => exact hf a w (key _ hb) hm (hφ.2 hb)

/-! nil slices are the call's own -/
theorem mem_nil {α : Type} (El' : El α) (e : Nat) {w : World} (hm : Mem G D w0 L w) : Mem G D w0 (ownCh El' e (.slice none 0 0) [] :: L) w :=
  hm.note (fun b hb => by simp [ownCh, Value.ownBlock] at hb) (Own.nil ..)
theorem o_mvn {α : Type} (El' : El α) (e : Nat) (hx : oev E x = some (.slice none 0 0)) (hd : Nat.blt d n = true) (k : Nx n G D w0 R ((d, .slice none 0 0) :: E) (ownCh El' e (.slice none 0 0) [] :: L) φ) : Nx n G D w0 (fun a w => Oper.wp P ⟨some d, .move x, ty, pos, aft, gd⟩ a w R Q) E L φ :=
  o_gen hd rfl fun ρ w hE hm hφ => ⟨_, w, _, φ, by simp [execOp, hE _ _ hx], mem_nil El' e hm, hφ, k⟩
theorem o_asn {α : Type} (El' : El α) (e : Nat) (hx : oev E x = some (.slice none 0 0)) (hd : Nat.blt d n = true) (k : Nx n G D w0 R ((d, .slice none 0 0) :: E) (ownCh El' e (.slice none 0 0) [] :: L) φ) : Nx n G D w0 (fun a w => Oper.wp P ⟨some d, .assign x, ty, pos, aft, gd⟩ a w R Q) E L φ :=
  o_gen hd rfl fun ρ w hE hm hφ => ⟨_, w, _, φ, by simp [execOp, hE _ _ hx], mem_nil El' e hm, hφ, k⟩
/-- what a callee may read that writes M0 alone -/
theorem Mem.rdM {α : Type} {El' : El α} {v : Value} {xs : List α} {c : Ch} {w : World} {M0 L' : List Ch} (m : Mem G D w0 (M0 ++ L') w) (i : Nat) (hi : lget L' i = some c) (hc : Reads c El' v xs) : Sl El' (fun b => b < w.heap.size ∧ ¬ feet M0 b) w v xs := by
  have hmem : c ∈ M0 ++ L' := List.mem_append.2 (.inr (lget_mem hi))
  refine (hc _ _ (m.hold c hmem)).keep (fun b hb => ?_) (fun _ _ => rfl)
  rcases hb with hb | hb
  · exact ⟨hb.1, fun ⟨d, hd, h⟩ => hb.2.2 d (List.mem_append.2 (.inl hd)) h⟩
  · exact ⟨(m.range c hmem b hb).1, fun ⟨d, hd, h⟩ => (List.pairwise_append.1 m.disj).2.2 d hd c (lget_mem hi) b h hb⟩
theorem Mem.rd0 {α : Type} {El' : El α} {v : Value} {xs : List α} {c : Ch} {w : World} (m : Mem G D w0 L w) (i : Nat) (hi : lget L i = some c) (hc : Reads c El' v xs) : Sl El' (fun b => b < w.heap.size ∧ ¬ feet [] b) w v xs :=
  Mem.rdM (M0 := []) (L' := L) m i hi hc
/-- the chunks that a callee is given to write -/
structure Given (M0 : List Ch) (F : Nat → Prop) (w : World) : Prop where
  lt : ∀ c ∈ M0, ∀ b, c.foot b → b < w.heap.size
  disj : M0.Pairwise fun c d => ∀ b, c.foot b → ¬ d.foot b
  hold : ∀ c ∈ M0, c.holds F w
/-- all that the callee does not write -/
def allB (M0 : List Ch) (w : World) (b : Nat) : Prop := b < w.heap.size ∧ ¬ feet M0 b
theorem Mem.given {w : World} {M0 L' : List Ch} (m : Mem G D w0 (M0 ++ L') w) : Given M0 (allB M0 w) w :=
  ⟨fun c hc b h => (m.range c (List.mem_append.2 (.inl hc)) b h).1, (List.pairwise_append.1 m.disj).1,
   fun c hc => c.keep _ _ w w (fun b hb => ⟨hb.1, fun ⟨d, hd, h⟩ => hb.2.2 d (List.mem_append.2 (.inl hd)) h⟩) (fun _ _ => rfl) (m.hold c (List.mem_append.2 (.inl hc)))⟩
theorem Mem.givenB {w : World} {M0 L' : List Ch} (m : Mem G D w0 (M0 ++ L') w) : Given M0 (fz G (M0 ++ L') w) w :=
  ⟨fun c hc b h => (m.range c (List.mem_append.2 (.inl hc)) b h).1, (List.pairwise_append.1 m.disj).1, fun c hc => m.hold c (List.mem_append.2 (.inl hc))⟩
theorem Given.nil (F : Nat → Prop) (w : World) : Given [] F w := ⟨fun c h => by simp at h, List.Pairwise.nil, fun c h => by simp at h⟩
theorem allB_ok {M0 : List Ch} {w : World} : ∀ b, allB M0 w b → b < w.heap.size ∧ ¬ feet M0 b := fun _ h => h
theorem foot_ro {α : Type} {El' : El α} {v : Value} {xs : List α} : ∀ b, ¬ (roCh El' v xs).foot b := fun _ => id

/-! a store into an element of a slice of the call's own -/
theorem lput_append_mid : ∀ (vs pre old post : List Value) (o : Nat), o + vs.length ≤ old.length → lput (pre ++ old ++ post) (pre.length + o) vs = pre ++ lput old o vs ++ post
  | [], _, _, _, _, _ => rfl
  | v :: r, pre, old, post, o, h => by
    simp at h
    have e1 : (pre ++ old ++ post).set (pre.length + o) v = pre ++ old.set o v ++ post := by
      rw [List.append_assoc, List.set_append_right _ _ (by omega), show pre.length + o - pre.length = o by omega, List.set_append_left _ _ (by omega), List.append_assoc]
    rw [lput, e1, Nat.add_assoc, lput_append_mid r pre (old.set o v) post (o + 1) (by simp; omega), lput]
theorem o_sts {α : Type} {El' : El α} {enc : α → List Value} {v : Value} {xs : List α} {I : Int} {z y' : α} {o sz fs : Nat} {row : Bool} {u : Value} (i : Nat) (hi : lget L i = some (ownCh El' e v xs)) (hfl : Flat El' enc) (hes : El'.size = sz) (hz : xs[I.toNat]? = some z)
    (hT : tyB P T = some (row, fs)) (hx : oev E x = some (pEl v I sz o)) (hy : oev E y = some u) (hsz : Nat.beq u.cells.size fs = true) (h1 : u.cells.toList.all (·.oneCell') = true) (hle : Nat.ble (o + fs) sz = true) (hy' : lput (enc z) o u.cells.toList = enc y')
    (k : Nx n G D w0 R E (lset L i (ownCh El' e v (xs.set I.toNat y'))) φ) : Nx n G D w0 (fun a w => Oper.wp P ⟨none, .store T x y, ty, pos, aft, gd⟩ a w R Q) E L φ :=
  o_skip rfl fun ρ w hE hm hφ => by
    have hlt := (List.getElem?_eq_some_iff.1 hz).1
    obtain ⟨css, hr, hown⟩ := hm.get hi
    have hcss := hr.length
    obtain ⟨h0, hown⟩ := hown
    rcases hown with ⟨_, hn⟩ | ⟨g, cap, cur, rfl, hg0, hg, hnc, hcm, hcs, htake⟩
    · omega
    rw [pEl_slice] at hx
    have hzs := Nat.eq_of_beq_eq_true hsz
    have hle' := Nat.le_of_ble_eq_true hle
    have hb : w.heap[g]? = some (.cells cur.toList.toArray e (0, 0)) := by simpa using hg
    have hsub : I.toNat * sz + sz ≤ xs.length * sz := by rw [← Nat.succ_mul]; exact Nat.mul_le_mul_right _ hlt
    have hcap : xs.length * sz ≤ cap * sz := Nat.mul_le_mul_right _ hnc
    have hcl : cur.toList.length = cap * sz := by rw [Array.length_toList, hcs, hes]
    have hr' := run_stv (P := P) (w := w) hT hsz h1 (b := g) (o := 0 + I.toNat * sz + o) (there_of_row hb (by rw [hzs, hcl]; omega))
    refine ⟨_, _, φ, by simp [execOp, hE _ _ hx, hE _ _ hy] at hr' ⊢; rw [hr']; rfl, ?_, hφ, k⟩
    obtain ⟨s1, s2, s3⟩ := setCells_rest g u.cells.toList (I.toNat * sz + o) w
    refine hm.upd hi s1 s2 s3 (by rw [setCells_size]; exact Nat.le_refl _) (fun x _ hx => setCells_other g _ _ _ _ (fun e => hx (by rw [e]; rfl))) (fun x hx => ⟨?_, .inl hx⟩) ?_
    · have hx' : some g = some x := hx
      cases hx'
      rw [setCells_size]
      exact (Array.getElem?_eq_some_iff.1 hg).1
    · -- the new element's cells
      have hcz : El'.cells (fz G L w) w z (enc z) := (hfl _ _ _ _).2 rfl
      obtain ⟨pre, post, old, e1, e2, e3, css', e4, e5⟩ := hr.set I.toNat (y := y') (ds := enc y') hlt ((hfl _ _ _ _).2 rfl)
      have hold : old = enc z := by
        obtain ⟨cs, c1, c2⟩ := hr.get hz
        rw [(hfl _ _ _ _).1 c1] at c2
        apply List.ext_getElem?
        intro j
        by_cases hj : j < (enc z).length
        · have := c2 j (enc z)[j] (List.getElem?_eq_getElem hj)
          rw [e1, List.append_assoc, ← e2, List.getElem?_append_right (by omega), show pre.length + j - pre.length = j by omega, List.getElem?_append_left (by rw [e3, ← hfl.size w z]; exact hj)] at this
          rw [this, List.getElem?_eq_getElem hj]
        · rw [List.getElem?_eq_none (by rw [e3, ← hfl.size w z]; omega), List.getElem?_eq_none (by omega)]
      have hlz : (enc z).length = sz := by rw [hfl.size w z, hes]
      have hup := setCells_heap g e (0, 0) u.cells.toList (I.toNat * sz + o) cur.toList w hb
      refine ⟨css', ?_, ?_, .inr ⟨g, cap, (lput cur.toList (I.toNat * sz + o) u.cells.toList).toArray, by simp, hg0, hup, by simpa using hnc, hcm, by simpa [lput_length] using hcs, ?_⟩⟩
      · have go : ∀ (F F' : Nat → Prop) (w' : World) (ys : List α) (dss : List (List Value)), Rows El' F w ys dss → Rows El' F' w' ys dss := by
          intro F F' w' ys
          induction ys with
          | nil => intro dss h; cases dss <;> first | trivial | exact h.elim
          | cons y0 r ih => intro dss h; cases dss with
            | nil => exact h.elim
            | cons d0 ds => exact ⟨hfl.free _ _ _ _ _ _ h.1, ih ds h.2⟩
        exact go _ _ _ _ _ e5
      · have := e5.length
        simpa using this
      · rw [e4]
        have hct : cur.toList = pre ++ old ++ (post ++ cur.toList.drop (xs.length * sz)) := by
          rw [← List.append_assoc, ← e1, ← htake, hes, List.take_append_drop]
        rw [hct, ← hes, ← e2, lput_append_mid _ _ _ _ _ (by rw [hold, hlz]; simp; omega), hold, hy', ← List.append_assoc]
        rw [List.length_set]
        have hly : (enc y').length = El'.size := hfl.size w y'
        have htot : (pre ++ enc y' ++ post).length = xs.length * El'.size := by
          have h5 := congrArg List.length e1
          rw [hcss] at h5
          simp at h5 ⊢
          omega
        rw [← htot]
        exact List.take_left
end
end Go.Proofs.YtnogaeckmiekdaaDoor
