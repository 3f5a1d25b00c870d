/- The beginning of a function; calls; loads of what has nothing inside. -/
import Derived.Test.YtnogaeckmiekdaaDoorDeep
set_option linter.unusedSimpArgs false
set_option linter.unusedVariables false
set_option linter.unusedSectionVars false
namespace Go.Proofs.YtnogaeckmiekdaaDoor
open Go.RowKit

section
variable {P : Program} {n : Nat} {G D : Nat → Prop} {w0 : World} {Q : Exit → Act → World → Prop} {R : Act → World → Prop} {E : Env} {L M : List Ch} {φ : Prop}
variable {d : Tmp} {ty : TypeId} {pos : String} {aft : Array Edge} {gd : Option (Nat × Bool)} {Tk : Act → World → Prop} {Lr : List Ch} {x y : Operand} {T T' S : TypeId} {e sz by' : Nat}
/-- the beginning, with a snapshot of all that may be read -/
theorem enterS {F : Nat → Prop} {f : Nat} {fn : Func} {c : Code} {args : List Value} {K : Ending → World → Prop} (M0 : List Ch) (hF : ∀ b, F b → b < w0.heap.size ∧ ¬ feet M0 b) (hg : Given M0 F w0) (hf : P.funcs[f]? = some fn) (hb : fn.body = some c) (hn : fn.ntmps = n) (hle : Nat.ble args.length n = true)
    (hφ : φ) (h : Nx n (gB F M0 w0) (feet M0) w0 (c.wp P (bodyPost P fn K)) (eargs 0 args) (M0 ++ [snapCh w0 F]) φ) : Calls P f args.toArray w0 K :=
  enterB M0 hF hf hb hn hle [snapCh w0 F] (fun c hc b h => by simp only [List.mem_cons, List.not_mem_nil, or_false] at hc; subst hc; exact h) (fun c hc => by simp only [List.mem_cons, List.not_mem_nil, or_false] at hc; subst hc; exact ⟨fun _ h => h, fun _ _ => rfl⟩) hg.lt hg.disj hg.hold hφ h
theorem enter0 {F : Nat → Prop} {f : Nat} {fn : Func} {c : Code} {args : List Value} {K : Ending → World → Prop} (M0 : List Ch) (hF : ∀ b, F b → b < w0.heap.size ∧ ¬ feet M0 b) (hg : Given M0 F w0) (hf : P.funcs[f]? = some fn) (hb : fn.body = some c) (hn : fn.ntmps = n) (hle : Nat.ble args.length n = true)
    (hφ : φ) (h : Nx n (gB F M0 w0) (feet M0) w0 (c.wp P (bodyPost P fn K)) (eargs 0 args) (M0 ++ []) φ) : Calls P f args.toArray w0 K :=
  enterB M0 hF hf hb hn hle [] (fun c hc b h => by simp at hc) (fun c hc => by simp at hc) hg.lt hg.disj hg.hold hφ h
/-- a part that has nothing inside, of an element that may be read -/
theorem o_ldP {α : Type} {E' : El α} {v : Value} {xs : List α} {c : Ch} {I : Int} {z : α} {o fs : Nat} {row : Bool} {u : Value} (M : Mode P n G D w0 E ⟨some d, .load T x, ty, pos, aft, gd⟩ Tk R Lr L) (i : Nat) (hi : lget Lr i = some c) (hc : Reads c E' v xs) (hz : xs[I.toNat]? = some z) (hx : oev E x = some (pEl v I sz o)) (hes : E'.size = sz) (hd : Nat.blt d n = true) (hT : tyB P T = some (row, fs))
    (hu : ∀ F w cs, E'.cells F w z cs → ldv row o fs cs = some u) (k : Nx n G D w0 R ((d, u) :: E) L φ) : Nx n G D w0 Tk E L φ :=
  M.val hd rfl (fun ρ w hE hm _ => by
    obtain ⟨b, off, cap, cs, rfl, hcs, hr⟩ := (hc _ _ (hm.get hi)).at hz
    have := run_ldv (P := P) hT hr (hu _ _ _ hcs)
    rw [pEl_slice, ← hes] at hx
    simp [execOp, hE _ _ hx, this]) id k
/-- one more of the same -/
theorem nx_dup {α : Type} {El' : El α} {v : Value} {xs : List α} (i : Nat) (hi : lget L i = some (roCh El' v xs)) (h : Nx n G D w0 R E (roCh El' v xs :: L) φ) : Nx n G D w0 R E L φ := fun a w hE hm hφ => h a w hE (hm.note (fun b hb => hb) (hm.get hi)) hφ
theorem Mem.dup {α : Type} {El' : El α} {v : Value} {xs : List α} {w : World} (m : Mem G D w0 L w) (i : Nat) (hi : lget L i = some (roCh El' v xs)) : Mem G D w0 (roCh El' v xs :: L) w := m.note (fun b hb => hb) (m.get hi)
/-! nil -/
theorem mem_rnil {α : Type} (El' : El α) {w : World} (m : Mem G D w0 L w) : Mem G D w0 (roCh El' (.slice none 0 0) [] :: L) w := m.note (fun b hb => hb) (Sl.nil ..)
theorem nx_nil {α : Type} (El' : El α) (e : TypeId) (h : Nx n G D w0 R E (ownCh El' e (.slice none 0 0) [] :: L) φ) : Nx n G D w0 R E L φ := fun a w hE hm hφ => h a w hE (mem_nil El' e hm) hφ
theorem nx_dnil {α : Type} (E' : DEl α) (e : TypeId) (h : Nx n G D w0 R E (dpCh E' e [] (.slice none 0 0) [] :: L) φ) : Nx n G D w0 R E L φ := fun a w hE hm hφ => h a w hE (mem_dnil E' e hm) hφ
theorem nx_rnil {α : Type} (El' : El α) (h : Nx n G D w0 R E (roCh El' (.slice none 0 0) [] :: L) φ) : Nx n G D w0 R E L φ := fun a w hE hm hφ => h a w hE (mem_rnil El' hm) hφ
theorem sl_val {α : Type} {E' : El α} {F : Nat → Prop} {w : World} {v : Value} {xs : List α} (h : Sl E' F w v xs) : ∃ a l c, v = .slice a l c := by
  obtain ⟨a, c, hv, _⟩ := h
  exact ⟨a, _, c, hv⟩
theorem gset {α : Type} {xs : List α} {i : Nat} {z y : α} (h : xs[i]? = some z) : (xs.set i y)[i]? = some y := by
  have := (List.getElem?_eq_some_iff.1 h).1
  simp [this]
theorem lt_of_get {α : Type} {xs : List α} {i : Nat} {z : α} (h : xs[i]? = some z) : i < xs.length := (List.getElem?_eq_some_iff.1 h).1
theorem mreads_snap {K : Type} {enc : K → List Value} {wr : World} {F0 : Nat → Prop} {v : Value} {m : List (K × Int)} (S : Mp enc F0 wr v m) : MReads (snapCh wr F0) enc v m := fun F w h => S.keep (fun b hb => .inl (h.1 b hb)) h.2
/-- the pointer to an element is not nil -/
theorem o_nilE {α : Type} {E' : El α} {v : Value} {xs : List α} {c : Ch} {I : Int} {z : α} {o : Nat} (M : Mode P n G D w0 E ⟨some d, .nilCheck x, ty, pos, aft, gd⟩ Tk R Lr L) (i : Nat) (hi : lget Lr i = some c) (hc : Reads c E' v xs) (hz : xs[I.toNat]? = some z) (hx : oev E x = some (pEl v I sz o)) (hd : Nat.blt d n = true)
    (k : Nx n G D w0 R ((d, pEl v I sz o) :: E) L φ) : Nx n G D w0 Tk E L φ :=
  M.val hd rfl (fun ρ w hE hm _ => by
    obtain ⟨b, off, cap, cs, rfl, hcs, hr⟩ := (hc _ _ (hm.get hi)).at hz
    rw [pEl_slice] at hx
    simp [execOp, hE _ _ hx, pEl_slice]) id k

/-! arrays in memory -/
theorem own_arr {α : Type} {El' : El α} {F : Nat → Prop} {w : World} {T : TypeId} {b len : Nat} {xs : List α} {css : List (List Value)} {cs : List Value} (hr : Rows El' F w xs css) (hb : w.heap[b]? = some (.cells cs.toArray T (0, 0))) (hl : xs.length = len) (hcs : css.flatten = cs) (hlen : len ≤ 65536) : Own El' T F w (.slice (some ⟨b, 0, none⟩) len len) xs := by
  subst hl
  have h0 := hr.length
  rw [hcs] at h0
  exact own_new hr hb (Nat.le_refl _) (by unfold maxLen; omega) (by simpa using h0) (by rw [hcs, ← h0]; simp)
theorem o_boxA {α : Type} {El' : El α} {v : Value} {cs : List Value} {len : Nat} (xs : List α) (css : List (List Value)) (hr : ∀ w, Mem G D w0 L w → Rows El' (fz G L w) w xs css) (hx : oev E x = some v) (hd : Nat.blt d n = true) (hcs : v.cells = cs.toArray) (hfl : css.flatten = cs) (hl : xs.length = len) (hlen : Nat.ble len 65536 = true)
    (k : ∀ b, Nx n G D w0 R ((d, .pointer (some ⟨b, 0, none⟩)) :: E) (ownCh El' T (.slice (some ⟨b, 0, none⟩) len len) xs :: L) φ) :
    Nx n G D w0 (fun a w => Oper.wp P ⟨some d, .box T x, ty, pos, aft, gd⟩ a w R Q) E L φ :=
  o_gen hd rfl fun ρ w hE hm hφ => by
    refine ⟨_, w.alloc (.cells cs.toArray T), _, φ, by simp [execOp, hE _ _ hx, Instr.box, newVar, newRow, hcs], ?_, hφ, k w.heap.size⟩
    refine hm.add _ ((Below.refl _ _).alloc (Nat.le_refl _) _) (fun b hb => by simp [ownCh, Value.ownBlock] at hb; rw [World.size_alloc]; omega) ?_
    refine own_arr ((hr w hm).keep (fun b hb => ⟨by have := hb.1; rw [World.size_alloc]; omega, hb.2.1, fun c hc => ?_⟩) (fun b hb => heap_alloc_old w _ hb.1)) (heap_alloc_new w _) hl hfl (Nat.le_of_ble_eq_true hlen)
    rcases List.mem_cons.1 hc with e' | e'
    · subst e'
      intro h
      simp [ownCh, Value.ownBlock] at h
      have := hb.1
      omega
    · exact hb.2.2 c e'
/-- a whole array is stored -/
theorem o_stA {α : Type} {El' : El α} {u : Value} {cs : List Value} {len b fs : Nat} {xs0 : List α} {row : Bool} {e' : TypeId} (i : Nat) (hi : lget L i = some (ownCh El' e' (.slice (some ⟨b, 0, none⟩) len len) xs0)) (xs : List α) (css : List (List Value)) (hr : ∀ w, Mem G D w0 L w → Rows El' (fz G L w) w xs css) (hx : oev E x = some (.pointer (some ⟨b, 0, none⟩))) (hy : oev E y = some u)
    (hcs : u.cells = cs.toArray) (hfl : css.flatten = cs) (hl : xs.length = len) (h1 : u.cells.toList.all (·.oneCell') = true) (hT : tyB P T = some (row, fs)) (hsz : Nat.beq u.cells.size fs = true) (hpos : Nat.beq len 0 = false)
    (k : Nx n G D w0 R E (lset L i (ownCh El' e' (.slice (some ⟨b, 0, none⟩) len len) xs)) φ) : Nx n G D w0 (fun a w => Oper.wp P ⟨none, .store T x y, ty, pos, aft, gd⟩ a w R Q) E L φ :=
  o_skip rfl fun ρ w hE hm hφ => by
    obtain ⟨css0, hr0, how⟩ := hm.get hi
    obtain ⟨h0, hown⟩ := how
    have hlp : len ≠ 0 := fun e => by rw [e] at hpos; simp at hpos
    rcases hown with ⟨h, _⟩ | ⟨g, cap, cur, h, hg0, hg, hnc, hcm, hcz, htake⟩
    · cases h
    simp only [Value.slice.injEq, Option.some.injEq, Addr.mk.injEq] at h
    obtain ⟨⟨rfl, -, -⟩, hln, rfl⟩ := h
    have hrows := hr w hm
    have hlen := hrows.length
    rw [hfl, hl] at hlen
    have hb : w.heap[b]? = some (.cells cur.toList.toArray e' (0, 0)) := by simpa using hg
    have hcl : cur.toList.length = len * El'.size := by rw [Array.length_toList, hcz]
    have hus : u.cells.toList = cs := by rw [hcs]
    have hzs := Nat.eq_of_beq_eq_true hsz
    have hr' := run_stv (P := P) (w := w) hT hsz h1 (b := b) (o := 0) (there_of_row hb (by rw [hcl]; rw [hcs]; simp [hlen]))
    refine ⟨_, _, φ, by simp [execOp, hE _ _ hx, hE _ _ hy, hr']; rfl, ?_, hφ, k⟩
    obtain ⟨s1, s2, s3⟩ := setCells_rest b u.cells.toList 0 w
    have hput : lput cur.toList 0 cs = cs := by
      have key : ∀ (vs l : List Value), vs.length = l.length → ∀ p : List Value, lput (p ++ l) p.length vs = p ++ vs := by
        intro vs
        induction vs with
        | nil => intro l hl p; cases l with
          | nil => rfl
          | cons _ _ => simp at hl
        | cons a r ih => intro l hl p; cases l with
          | nil => simp at hl
          | cons c l =>
            rw [lput]
            have : (p ++ c :: l).set p.length a = (p ++ [a]) ++ l := by simp
            rw [this]
            have := ih l (by simpa using hl) (p ++ [a])
            simpa using this
      simpa using key cs cur.toList (by omega) []
    have hup := setCells_heap b e' (0, 0) u.cells.toList 0 cur.toList w hb
    rw [hus, hput] at hup
    refine hm.upd hi s1 s2 s3 (by rw [setCells_size]; exact Nat.le_refl _) (fun x _ hx => setCells_other b _ _ _ _ (fun e => hx (by rw [e]; rfl))) (fun x hx => ⟨?_, .inl hx⟩) ?_
    · have hx' : some b = some x := hx
      cases hx'
      rw [setCells_size]
      exact (Array.getElem?_eq_some_iff.1 hg).1
    · have hsame : ∀ c, fz G L w c → (w.setCells b 0 u.cells.toList).heap[c]? = w.heap[c]? := fun c hc => setCells_other b _ _ _ _ (fun e'' => hc.2.2 _ (lget_mem hi) (by rw [e'']; rfl))
      have hk := hrows.keep (F' := fz G (lset L i (ownCh El' e' (.slice (some ⟨b, 0, none⟩) len len) xs)) (w.setCells b 0 u.cells.toList)) (fun c hc => ⟨by rw [setCells_size]; exact hc.1, hc.2.1, fun x hx => by
        rcases mem_lset hi hm.disj hx with e'' | ⟨e1, _⟩
        · subst e''; exact fun hk => hc.2.2 _ (lget_mem hi) hk
        · exact hc.2.2 x e1⟩) hsame
      subst hl
      have h0' := hk.length
      rw [hfl] at h0'
      refine ⟨css, hk, by rw [hfl]; exact h0', .inr ⟨b, xs.length, cs.toArray, rfl, hg0, by rw [hus]; exact hup, Nat.le_refl _, hcm, by simpa using h0', by rw [hfl, ← h0']; simp⟩⟩
/-- a whole array is loaded; nothing is inside -/
theorem flat_rows {α : Type} {El' : El α} {enc : α → List Value} (hfl : Flat El' enc) {F : Nat → Prop} {w : World} : ∀ {xs : List α} {css : List (List Value)}, Rows El' F w xs css → css.flatten = (xs.map enc).flatten
  | [], [], _ => rfl
  | x :: xs, cs :: css, h => by simp [(hfl _ _ _ _).1 h.1, flat_rows hfl h.2]
  | [], _ :: _, h => h.elim
  | _ :: _, [], h => h.elim
theorem sl_rows {α : Type} {El' : El α} {F F' : Nat → Prop} {w : World} {b len cap : Nat} {xs : List α} (h : Sl2 El' F F' w (.slice (some ⟨b, 0, none⟩) len cap) xs) : ∃ css, Rows El' F w xs css ∧ w.rangeAt b 0 css.flatten := by
  obtain ⟨a, c, hv, hc, hr⟩ := h
  simp only [Value.slice.injEq] at hv
  obtain ⟨rfl, rfl, rfl⟩ := hv
  by_cases h0 : 0 < xs.length
  · obtain ⟨b', off, ha, _, hx⟩ := hr h0
    simp only [Option.some.injEq, Addr.mk.injEq] at ha
    obtain ⟨rfl, rfl, _⟩ := ha
    have key : ∀ (ys : List α) (p : Nat), (∀ i x, ys[i]? = some x → ∃ cs, El'.cells F w x cs ∧ w.rangeAt b (0 + (p + i) * El'.size) cs) → ∃ dss, Rows El' F w ys dss ∧ w.rangeAt b (p * El'.size) dss.flatten := by
      intro ys
      induction ys with
      | nil => intro p _; exact ⟨[], trivial, fun j q hq => by simp at hq⟩
      | cons y0 r ih =>
        intro p hp
        obtain ⟨cs, g1, g2⟩ := hp 0 y0 (by simp)
        obtain ⟨dss, g3, g4⟩ := ih (p + 1) (fun i x hix => by
          have := hp (i + 1) x (by simpa using hix)
          rwa [show p + (i + 1) = p + 1 + i by omega] at this)
        refine ⟨cs :: dss, ⟨g1, g3⟩, fun j q hq => ?_⟩
        have hl := El'.len _ _ _ _ g1
        rw [List.flatten_cons, List.getElem?_append] at hq
        split at hq
        · simpa using g2 j q hq
        · have := g4 (j - cs.length) q hq
          rw [hl, Nat.add_mul] at this
          rw [show p * El'.size + j = p * El'.size + 1 * El'.size + (j - El'.size) by omega]
          exact this
    obtain ⟨dss, g1, g2⟩ := key xs 0 (fun i x hix => by simpa using hx i x hix)
    exact ⟨dss, g1, by simpa using g2⟩
  · have : xs = [] := List.eq_nil_of_length_eq_zero (by omega)
    subst this
    exact ⟨[], trivial, fun j q hq => by simp at hq⟩
theorem o_ldA {α : Type} {El' : El α} {enc : α → List Value} {b len cap fs : Nat} {xs : List α} {c : Ch} {u : List Value} (M : Mode P n G D w0 E ⟨some d, .load T x, ty, pos, aft, gd⟩ Tk R Lr L) (i : Nat) (hi : lget Lr i = some c) (hc : Reads c El' (.slice (some ⟨b, 0, none⟩) len cap) xs) (hfl : Flat El' enc) (hx : oev E x = some (.pointer (some ⟨b, 0, none⟩))) (hd : Nat.blt d n = true)
    (hT : tyB P T = some (true, fs)) (hu : (xs.map enc).flatten = u) (hl : Nat.beq u.length fs = true) (k : Nx n G D w0 R ((d, .agg u.toArray) :: E) L φ) : Nx n G D w0 Tk E L φ :=
  M.val hd rfl (fun ρ w hE hm _ => by
    obtain ⟨css, h1, h2⟩ := sl_rows (src_flat hfl hc _ _ (hm.get hi))
    rw [flat_rows hfl h1, hu] at h2
    have hv : ldv true 0 fs u = some (.agg u.toArray) := by
      have := Nat.eq_of_beq_eq_true hl
      simp [ldv, ← this]
    have := run_ldv (P := P) hT h2 hv
    rw [Nat.add_zero] at this
    simp [execOp, hE _ _ hx, this]) id k
/-- a whole array is loaded; slices are inside -/
theorem o_ldAN {α : Type} {El' : El α} {b len cap fs : Nat} {xs : List α} {c : Ch} (i : Nat) (hi : lget L i = some c) (hc : Src c El' (.slice (some ⟨b, 0, none⟩) len cap) xs) (hx : oev E x = some (.pointer (some ⟨b, 0, none⟩))) (hd : Nat.blt d n = true) (hlen : xs.length = len) 
    (hT : tyB P T = some (true, fs)) (hfs : len * El'.size = fs) (k : ∀ wr F0 css, Rows El' F0 wr xs css → ∃ u : List Value, css.flatten = u ∧ Nx n G D w0 R ((d, .agg u.toArray) :: E) (snapCh wr F0 :: L) φ) : Nx n G D w0 (fun a w => Oper.wp P ⟨some d, .load T x, ty, pos, aft, gd⟩ a w R Q) E L φ :=
  o_gen hd rfl fun ρ w hE hm hφ => by
    obtain ⟨css, h1, h2⟩ := sl_rows (hc _ _ (hm.get hi))
    obtain ⟨u, hu, hk⟩ := k w (fz G L w) css h1
    have hl := h1.length
    rw [hu] at h2 hl
    have hv : ldv true 0 fs u = some (.agg u.toArray) := by
      have : u.length = fs := by rw [hl, hlen, hfs]
      simp [ldv, ← this]
    have := run_ldv (P := P) hT h2 hv
    rw [Nat.add_zero] at this
    exact ⟨_, w, snapCh w (fz G L w) :: L, φ, by simp [execOp, hE _ _ hx, this], hm.note (fun b hb => hb) ⟨fun b hb => hb, fun _ _ => rfl⟩, hφ, hk⟩
theorem rows_l4 {α : Type} {El' : El α} {F : Nat → Prop} {w : World} {a b c d : α} {css : List (List Value)} (h : Rows El' F w [a, b, c, d] css) : ∃ c0 c1 c2 c3, css = [c0, c1, c2, c3] ∧ El'.cells F w a c0 ∧ El'.cells F w b c1 ∧ El'.cells F w c c2 ∧ El'.cells F w d c3 := by
  match css, h with
  | [c0, c1, c2, c3], h => exact ⟨c0, c1, c2, c3, rfl, h.1, h.2.1, h.2.2.1, h.2.2.2.1⟩
  | [], h => exact h.elim
  | [_], h => exact h.2.elim
  | [_, _], h => exact h.2.2.elim
  | [_, _, _], h => exact h.2.2.2.elim
  | _ :: _ :: _ :: _ :: _ :: _, h => exact h.2.2.2.2.elim
/-- a list of known length, by its members -/
def unl4 {α : Type} (xs : List α) (κ : α → α → α → α → Prop) : Prop := ∃ a b c d, xs = [a, b, c, d] ∧ κ a b c d
def unl5 {α : Type} (xs : List α) (κ : α → α → α → α → α → Prop) : Prop := ∃ a b c d e, xs = [a, b, c, d, e] ∧ κ a b c d e
theorem nx_unl4 {α : Type} {El' : El α} {v : Value} {xs : List α} {κ : α → α → α → α → Prop} {e' : TypeId} (i : Nat) (hi : lget L i = some (ownCh El' e' v xs)) (h : ∀ a b c d, Nx n G D w0 R E (lset L i (ownCh El' e' v [a, b, c, d])) (κ a b c d)) : Nx n G D w0 R E L (unl4 xs κ) := fun a w hE hm ⟨a0, b0, c0, d0, hx, hφ⟩ => by
  subst hx
  have hid : ∀ {L : List Ch} {i : Nat} {c : Ch}, lget L i = some c → lset L i c = L := by
    intro L
    induction L with
    | nil => intro i c h; rfl
    | cons d r ih => intro i c h; cases i with
      | zero => simp [lget] at h; subst h; rfl
      | succ i => simp [lget] at h; simp [lset, ih h]
  have := h a0 b0 c0 d0
  rw [hid hi] at this
  exact this a w hE hm hφ
theorem nx_unl5 {α : Type} {El' : El α} {v : Value} {xs : List α} {κ : α → α → α → α → α → Prop} {e' : TypeId} (i : Nat) (hi : lget L i = some (ownCh El' e' v xs)) (h : ∀ a b c d e, Nx n G D w0 R E (lset L i (ownCh El' e' v [a, b, c, d, e])) (κ a b c d e)) : Nx n G D w0 R E L (unl5 xs κ) := fun a w hE hm ⟨a0, b0, c0, d0, e0, hx, hφ⟩ => by
  subst hx
  have hid : ∀ {L : List Ch} {i : Nat} {c : Ch}, lget L i = some c → lset L i c = L := by
    intro L
    induction L with
    | nil => intro i c h; rfl
    | cons d r ih => intro i c h; cases i with
      | zero => simp [lget] at h; subst h; rfl
      | succ i => simp [lget] at h; simp [lset, ih h]
  have := h a0 b0 c0 d0 e0
  rw [hid hi] at this
  exact this a w hE hm hφ
end
end Go.Proofs.YtnogaeckmiekdaaDoor
