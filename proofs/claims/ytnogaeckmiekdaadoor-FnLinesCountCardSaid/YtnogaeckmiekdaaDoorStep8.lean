/- Steps of printed walks: maps with struct keys and integers behind them. -/
import Derived.Test.YtnogaeckmiekdaaDoorStep7
import Derived.MapKept
set_option linter.unusedSimpArgs false
set_option linter.unusedVariables false
set_option linter.unusedSectionVars false
namespace Go.Proofs.YtnogaeckmiekdaaDoor
open Go.RowKit

section
variable {K : Type} [DecidableEq K]
def mget (k : K) : List (K × Int) → Int × Bool
  | [] => (0, false)
  | p :: r => if k = p.1 then (p.2, true) else mget k r
def mput (k : K) (v : Int) : List (K × Int) → List (K × Int)
  | [] => [(k, v)]
  | p :: r => if k = p.1 then (k, v) :: r else p :: mput k v r
def mfind (k : K) : List (K × Int) → Nat → Option (Nat × Value)
  | [], _ => none
  | p :: r, i => if k = p.1 then some (i, .int .i64 p.2) else mfind k r (i + 1)
end
def structB (P : Program) (T : TypeId) : Bool := match P.underlying T with | some (.struct _) => true | _ => false
theorem struct_of {P : Program} {T : TypeId} (h : structB P T = true) : ∃ fs, P.underlying T = some (.struct fs) := by
  unfold structB at h
  split at h
  · rename_i fs hu; exact ⟨fs, hu⟩
  · cases h
/-- what the operations ask of a map's type -/
structure MapTy {K : Type} [DecidableEq K] (P : Program) (T : TypeId) (enc : K → List Value) : Prop where
  of : ∃ kt vt, P.underlying T = some (.map kt vt) ∧ (∃ fs, P.underlying kt = some (.struct fs)) ∧ (∀ w, (zeroValue vt).run P w = .ok (.int .i64 0) w) ∧
    (∀ a b w, (Op.equal kt (.agg (enc a).toArray) (.agg (enc b).toArray)).run P w = .ok (decide (a = b)) w) ∧ (∀ e a w, (Instr.checkKey e 10000 kt (.agg (enc a).toArray)).run P w = .ok () w)
  same : ∀ a, Instr.sameBits 10000 (.agg (enc a).toArray) (.agg (enc a).toArray) = true
abbrev ent {K : Type} (enc : K → List Value) (p : K × Int) : Value × Value := (.agg (enc p.1).toArray, .int .i64 p.2)
abbrev kv (e : MapEntry) : Value × Value := (e.key, e.val)
/-- the value reads as this map -/
def Mp {K : Type} (enc : K → List Value) (F : Nat → Prop) (w : World) (v : Value) (m : List (K × Int)) : Prop :=
  (v = .map none ∧ m = []) ∨ ∃ b es clock, v = .map (some b) ∧ F b ∧ w.heap[b]? = some (.map es clock) ∧ es.toList.map kv = m.map (ent enc)
theorem Mp.keep {K : Type} {enc : K → List Value} {F F' : Nat → Prop} {w w' : World} {v : Value} {m : List (K × Int)} (h : Mp enc F w v m) (hF : ∀ b, F b → F' b) (hb : ∀ b, F b → w'.heap[b]? = w.heap[b]?) : Mp enc F' w' v m := by
  rcases h with h | ⟨b, es, cl, h1, h2, h3, h4⟩
  · exact .inl h
  · exact .inr ⟨b, es, cl, h1, hF b h2, (hb b h2).trans h3, h4⟩
theorem Mp.nil {K : Type} (enc : K → List Value) (F : Nat → Prop) (w : World) : Mp enc F w (.map none) [] := .inl ⟨rfl, rfl⟩
def mRo {K : Type} (enc : K → List Value) (v : Value) (m : List (K × Int)) : Ch where
  foot := fun _ => False
  holds := fun F w => Mp enc F w v m
  keep := fun _ _ _ _ hF hb h => h.keep hF (fun b hb' => hb b (.inl hb'))
def mOwn {K : Type} (enc : K → List Value) (v : Value) (m : List (K × Int)) : Ch where
  foot := fun b => v = .map (some b)
  holds := fun _ w => Mp enc (fun b => v = .map (some b)) w v m
  keep := fun _ _ _ _ _ hb h => h.keep (fun _ h => h) (fun b hb' => hb b (.inr hb'))
def MReads {K : Type} (c : Ch) (enc : K → List Value) (v : Value) (m : List (K × Int)) : Prop := ∀ F w, c.holds F w → Mp enc (fun b => F b ∨ c.foot b) w v m
theorem mreads_ro {K : Type} {enc : K → List Value} {v : Value} {m : List (K × Int)} : MReads (mRo enc v m) enc v m := fun F w h => h.keep (fun b hb => .inl hb) (fun _ _ => rfl)
theorem mreads_own {K : Type} {enc : K → List Value} {v : Value} {m : List (K × Int)} : MReads (mOwn enc v m) enc v m := fun F w h => h.keep (fun b hb => .inr hb) (fun _ _ => rfl)
theorem free_mown {K : Type} {enc : K → List Value} {v : Value} {m : List (K × Int)} : (mOwn enc v m).free := fun _ _ _ h => h
theorem hf_consM {K : Type} {enc : K → List Value} {v : Value} {m : List (K × Int)} {L : List Ch} (hL : ∀ c ∈ L, ∀ b, ¬ c.foot b) : ∀ c ∈ mRo enc v m :: L, ∀ b, ¬ c.foot b := fun d hd b => by
  rcases List.mem_cons.1 hd with e | e
  · subst e; exact id
  · exact hL d e b
section
variable {K : Type} {enc : K → List Value} {G D : Nat → Prop} {w0 w : World} {v : Value} {xs : List (K × Int)} {c : Ch} {L : List Ch}
theorem Mem.mrdM {M0 L' : List Ch} (m : Mem G D w0 (M0 ++ L') w) (i : Nat) (hi : lget L' i = some c) (hc : MReads c enc v xs) : Mp enc (fun b => b < w.heap.size ∧ ¬ feet M0 b) w v xs := by
  have hmem : c ∈ M0 ++ L' := List.mem_append.2 (.inr (lget_mem hi))
  refine (hc _ _ (m.hold c hmem)).keep (fun b hb => ?_) (fun _ _ => rfl)
  rcases hb with hb | hb
  · exact ⟨hb.1, fun ⟨d, hd, h⟩ => hb.2.2 d (List.mem_append.2 (.inl hd)) h⟩
  · exact ⟨(m.range c hmem b hb).1, fun ⟨d, hd, h⟩ => (List.pairwise_append.1 m.disj).2.2 d hd c (lget_mem hi) b h hb⟩
theorem Mem.mrd0 (m : Mem G D w0 L w) (i : Nat) (hi : lget L i = some c) (hc : MReads c enc v xs) : Mp enc (fun b => b < w.heap.size ∧ ¬ feet [] b) w v xs :=
  Mem.mrdM (M0 := []) m i hi hc
theorem mem_mnil (enc : K → List Value) (hm : Mem G D w0 L w) : Mem G D w0 (mOwn enc (.map none) [] :: L) w :=
  hm.note (fun b h => by cases h) (Mp.nil _ _ _)
end

section
variable {P : Program} {n : Nat} {G D : Nat → Prop} {w0 : World} {Q : Exit → Act → World → Prop} {R : Act → World → Prop} {E : Env} {L : List Ch} {φ : Prop}
variable {d : Tmp} {ty : TypeId} {pos : String} {aft : Array Edge} {gd : Option (Nat × Bool)} {Tk : Act → World → Prop} {Lr : List Ch} {x y z : Operand} {T T' S : TypeId}
variable {K : Type} [DecidableEq K] {enc : K → List Value}

theorem o_mvm (enc : K → List Value) (hx : oev E x = some (.map none)) (hd : Nat.blt d n = true) (k : Nx n G D w0 R ((d, .map none) :: E) (mOwn enc (.map none) [] :: L) φ) : Nx n G D w0 (fun a w => Oper.wp P ⟨some d, .move x, ty, pos, aft, gd⟩ a w R Q) E L φ :=
  o_gen hd rfl fun ρ w hE hm hφ => ⟨_, w, _, φ, by simp [execOp, hE _ _ hx], mem_mnil enc hm, hφ, k⟩
theorem o_asm (enc : K → List Value) (hx : oev E x = some (.map none)) (hd : Nat.blt d n = true) (k : Nx n G D w0 R ((d, .map none) :: E) (mOwn enc (.map none) [] :: L) φ) : Nx n G D w0 (fun a w => Oper.wp P ⟨some d, .assign x, ty, pos, aft, gd⟩ a w R Q) E L φ :=
  o_gen hd rfl fun ρ w hE hm hφ => ⟨_, w, _, φ, by simp [execOp, hE _ _ hx], mem_mnil enc hm, hφ, k⟩
theorem o_mkm (enc : K → List Value) (hd : Nat.blt d n = true) (k : ∀ b, Nx n G D w0 R ((d, .map (some b)) :: E) (mOwn enc (.map (some b)) [] :: L) φ) : Nx n G D w0 (fun a w => Oper.wp P ⟨some d, .makeMap T none, ty, pos, aft, gd⟩ a w R Q) E L φ :=
  o_gen hd rfl fun ρ w hE hm hφ => ⟨_, w.alloc (.map #[] 0), _, φ, by simp [execOp, Instr.makeMap, newObj, Sem.run], hm.add _ ((Below.refl _ _).alloc (Nat.le_refl _) _) (fun k hk => by cases hk; rw [World.size_alloc]; omega)
    (show Mp enc (fun b => Value.map (some w.heap.size) = .map (some b)) (w.alloc (.map #[] 0)) (.map (some w.heap.size)) [] from .inr ⟨w.heap.size, #[], 0, rfl, rfl, heap_alloc_new w _, by simp⟩), hφ, k w.heap.size⟩

theorem run_asking {kt : TypeId} {w : World} (he : ∀ a b w, (Op.equal kt (.agg (enc a).toArray) (.agg (enc b).toArray)).run P w = .ok (decide (a = b)) w) (k : K) : ∀ (es : List MapEntry) (m : List (K × Int)) (i : Nat), es.map kv = m.map (ent enc) →
    (Instr.findAsking kt (.agg (enc k).toArray) es i).run P w = .ok (mfind k m i) w
  | [], [], i, h => by simp [Instr.findAsking, mfind]
  | e :: es, p :: m, i, h => by
    simp only [List.map_cons, List.cons.injEq, Prod.mk.injEq] at h
    obtain ⟨⟨h1, h2⟩, h3⟩ := h
    have ih := run_asking (w := w) he k es m (i + 1) h3
    unfold Instr.findAsking mfind
    rw [Sem.run_bind, h1, he, Result.andThen_ok]
    by_cases hk : k = p.1
    · simp [hk, h2]
    · simp [hk, ih]
  | [], _ :: _, _, h => by simp at h
  | _ :: _, [], _, h => by simp at h
theorem run_find {kt : TypeId} {w : World} {fs : Array Field} (hu : P.underlying kt = some (.struct fs)) (he : ∀ a b w, (Op.equal kt (.agg (enc a).toArray) (.agg (enc b).toArray)).run P w = .ok (decide (a = b)) w) (k : K) (es : List MapEntry) (m : List (K × Int)) (h : es.map kv = m.map (ent enc)) :
    (Instr.findKey kt (.agg (enc k).toArray) es).run P w = .ok (mfind k m 0) w := by
  unfold Instr.findKey
  rw [Sem.run_bind, run_underlying hu, Result.andThen_ok]
  cases es with
  | nil =>
    have : m = [] := by cases m with
      | nil => rfl
      | cons a r => simp at h
    subst this
    simp [Instr.findNow, mfind]
  | cons e r =>
    have : Instr.findNow (.struct fs) (.agg (enc k).toArray) (e :: r) 0 = none := by simp [Instr.findNow, Instr.sameNow]
    simp only [this]
    exact run_asking he k _ m 0 h
theorem mfind_get (k : K) : ∀ (m : List (K × Int)) (i : Nat), (match mfind k m i with | some (_, v) => (v, true) | none => (Value.int .i64 0, false)) = (.int .i64 (mget k m).1, (mget k m).2)
  | [], i => rfl
  | p :: r, i => by
    unfold mfind mget
    by_cases h : k = p.1
    · simp [h]
    · simp only [h, if_false]; exact mfind_get k r (i + 1)
theorem mfind_put (k : K) (v : Int) (clock : Nat) : ∀ (es : List MapEntry) (m : List (K × Int)) (i : Nat), es.map kv = m.map (ent enc) →
    match mfind k m i with
    | some (j, _) => i ≤ j ∧ (es.modify (j - i) (fun e => { e with key := .agg (enc k).toArray, val := .int .i64 v })).map kv = (mput k v m).map (ent enc) ∧ (es[j - i]?).map (·.key) = some (.agg (enc k).toArray)
    | none => (es ++ [({ key := .agg (enc k).toArray, val := .int .i64 v, born := clock } : MapEntry)]).map kv = (mput k v m).map (ent enc)
  | [], [], i, h => by simp [mfind, mput]
  | e :: es, p :: m, i, h => by
    simp only [List.map_cons, List.cons.injEq, Prod.mk.injEq] at h
    obtain ⟨⟨h1, h2⟩, h3⟩ := h
    have ih := mfind_put k v clock es m (i + 1) h3
    unfold mfind mput
    by_cases hk : k = p.1
    · simp only [hk, if_true]
      refine ⟨Nat.le_refl _, ?_, ?_⟩
      · simp [h3]
      · simp [h1]
    · simp only [hk, if_false]
      cases hf : mfind k m (i + 1) with
      | none =>
        rw [hf] at ih
        simp only at ih ⊢
        rw [List.cons_append, List.map_cons, List.map_cons, ih]
        simp [h1, h2]
      | some q =>
        obtain ⟨j, u⟩ := q
        rw [hf] at ih
        simp only at ih ⊢
        obtain ⟨i1, i2, i3⟩ := ih
        have e' : j - i = (j - (i + 1)) + 1 := by omega
        refine ⟨by omega, ?_, ?_⟩
        · rw [e', List.modify_succ_cons, List.map_cons, List.map_cons, i2]
          simp [h1, h2]
        · rw [e']; simpa using i3
  | [], _ :: _, _, h => by simp at h
  | _ :: _, [], _, h => by simp at h

theorem o_lkp (M : Mode P n G D w0 E ⟨some d, .lookup T x y true, ty, pos, aft, gd⟩ Tk R Lr L) {v : Value} {m : List (K × Int)} {c : Ch} {k0 : K} (i : Nat) (hi : lget Lr i = some c) (hc : MReads c enc v m) (hx : oev E x = some v) (hy : oev E y = some (.agg (enc k0).toArray)) (hd : Nat.blt d n = true)
    (hT : MapTy P T enc) (k : Nx n G D w0 R ((d, .tuple #[.int .i64 (mget k0 m).1, .bool (mget k0 m).2]) :: E) L φ) : Nx n G D w0 Tk E L φ :=
  M.val hd rfl (fun ρ w hE hm _ => by
    obtain ⟨⟨kt, vt, h1, ⟨fs, h2⟩, h3, h4, h5⟩, _⟩ := hT
    have hg := mfind_get k0 m 0
    rcases hc _ _ (hm.get hi) with ⟨rfl, rfl⟩ | ⟨b, es, cl, rfl, _, hb, he⟩
    · have := run_find (w := w) h2 h4 k0 [] [] rfl
      simp [execOp, hE _ _ hx, hE _ _ hy, Instr.lookup, run_underlying h1, h5, h3, this, mfind, mget]
    · have hr := run_find (w := w) h2 h4 k0 es.toList m he
      have hgo := MapKept.run_getObj_map (P := P) hb
      have hl : (Instr.lookup T (.map (some b)) (.agg (enc k0).toArray) true).run P w = .ok (.tuple #[.int .i64 (mget k0 m).1, .bool (mget k0 m).2]) w := by
        unfold Instr.lookup
        rw [Sem.run_bind, run_underlying h1, Result.andThen_ok]
        simp only [Sem.run_bind, hgo, Result.andThen_ok, h5, hr, Sem.run_pure]
        cases hf : mfind k0 m 0 with
        | none =>
          rw [hf] at hg
          simp only [Prod.mk.injEq] at hg
          simp only [Sem.run_bind, h3, Result.andThen_ok, Sem.run_pure, if_true]
          rw [hg.1, hg.2]
        | some q =>
          obtain ⟨j, u⟩ := q
          rw [hf] at hg
          simp only [Prod.mk.injEq] at hg
          simp only [Sem.run_bind, Result.andThen_ok, Sem.run_pure, if_true]
          rw [hg.1, hg.2]
      simp only [execOp, hE _ _ hx, hE _ _ hy, Sem.run_bind, hl]
      rfl) id k
theorem o_mput {b : Nat} {m : List (K × Int)} {k0 : K} {I : Int} (i : Nat) (hi : lget L i = some (mOwn enc (.map (some b)) m)) (hx : oev E x = some (.map (some b))) (hy : oev E y = some (.agg (enc k0).toArray)) (hz : oev E z = some (.int .i64 I))
    (hT : MapTy P T enc) (k : Nx n G D w0 R E (lset L i (mOwn enc (.map (some b)) (mput k0 I m))) φ) : Nx n G D w0 (fun a w => Oper.wp P ⟨none, .mapUpdate T x y z, ty, pos, aft, gd⟩ a w R Q) E L φ :=
  o_skip rfl fun ρ w hE hm hφ => by
    obtain ⟨⟨kt, vt, h1, ⟨fs, h2⟩, h3, h4, h5⟩, h6⟩ := hT
    rcases (hm.get hi : Mp enc _ w (.map (some b)) m) with ⟨h, _⟩ | ⟨b', es, cl, h, _, hb, he⟩
    · cases h
    · cases h
      have hr := run_find (w := w) h2 h4 k0 es.toList m he
      have hp := mfind_put (enc := enc) k0 I cl es.toList m 0 he
      have hgo := MapKept.run_getObj_map (P := P) hb
      have key : ∃ es' cl', (Instr.mapUpdate T (.map (some b)) (.agg (enc k0).toArray) (.int .i64 I)).run P w = .ok () { w with heap := w.heap.setIfInBounds b (.map es' cl') } ∧ es'.toList.map kv = (mput k0 I m).map (ent enc) := by
        cases hf : mfind k0 m 0 with
        | none =>
          rw [hf] at hp hr
          refine ⟨es.push { key := .agg (enc k0).toArray, val := .int .i64 I, born := cl }, cl + 1, ?_, by simpa using hp⟩
          · unfold Instr.mapUpdate
            simp only [Sem.run_bind, run_underlying h1, Result.andThen_ok, hgo, h5, hr, MapKept.run_setObj_map _ hb]
        | some q =>
          obtain ⟨j, u⟩ := q
          rw [hf] at hp hr
          simp only [Nat.sub_zero] at hp
          obtain ⟨_, p2, p3⟩ := hp
          refine ⟨es.modify j (fun e => { e with key := .agg (enc k0).toArray, val := .int .i64 I }), cl, ?_, by rw [Array.toList_modify]; exact p2⟩
          · have hk : (((es[j]?).map (·.key)).getD (.agg (enc k0).toArray)) = .agg (enc k0).toArray := by
              have : es[j]? = es.toList[j]? := by simp
              rw [this, p3]; rfl
            have hks : (Instr.keyThatStays (.agg (enc k0).toArray) (.agg (enc k0).toArray)).run P w = .ok (.agg (enc k0).toArray) w := by
              unfold Instr.keyThatStays
              rw [if_pos (h6 k0)]
              simp
            unfold Instr.mapUpdate
            simp only [Sem.run_bind, run_underlying h1, Result.andThen_ok, hgo, h5, hr, hk, hks, MapKept.run_setObj_map _ hb]
      obtain ⟨es', cl', k1, k2⟩ := key
      have hbl : b < w.heap.size := (Array.getElem?_eq_some_iff.1 hb).1
      refine ⟨_, _, φ, by simp only [execOp, hE _ _ hx, hE _ _ hy, hE _ _ hz, Sem.run_bind, k1]; rfl, ?_, hφ, k⟩
      refine hm.upd hi rfl rfl rfl (by simp) (fun c hc hne => ?_) (fun c hc => ?_) (.inr ⟨b, es', cl', rfl, rfl, by simp [hbl], k2⟩)
      · have : c ≠ b := fun e => hne (by subst e; rfl)
        simp [Array.getElem?_setIfInBounds, this.symm]
      · cases hc
        exact ⟨by simpa using hbl, .inl rfl⟩

/-! the end of a function with four results -/
theorem l_end4 {M0 : List Ch} {ρ ν : Type} {F : Nat → Prop} {fn : Func} {q q2 q3 q4 : ResultVar} {v v2 v3 v4 : Value} {κ : ρ → Prop} {val : ρ → ν → Value} {N : ρ → ν → List Ch} (hres : fn.results = #[q, q2, q3, q4]) (r : ρ) (u : ν) (hs : Rv P n G (feet M0) w0 E L q v) (ht : Rv P n G (feet M0) w0 E L q2 v2) (hq : Rv P n G (feet M0) w0 E L q3 v3) (hq4 : Rv P n G (feet M0) w0 E L q4 v4) (hv : val r u = .tuple #[v, v2, v3, v4])
    (hN : ∀ w, Mem G (feet M0) w0 L w → NewCh M0 F w0 w (N r u)) : Nx n G (feet M0) w0 (bodyPost P fn (Ret M0 F w0 κ val N) .ret) E L (κ r) := fun a w hE hm hφ =>
  ⟨hE.defers, val r u, by simp [results_resOne, hres, hs a w hE hm, ht a w hE hm, hq a w hE hm, hq4 a w hE hm, hv], r, u, hφ, rfl, hm.updD, hN w hm⟩
end
end Go.Proofs.YtnogaeckmiekdaaDoor
