/- Elements with slices inside: snapshots of what stands still, reading, building. -/
import Derived.Test.YtnogaeckmiekdaaDoorStep9
set_option linter.unusedSimpArgs false
set_option linter.unusedVariables false
set_option linter.unusedSectionVars false
namespace Go.Proofs.YtnogaeckmiekdaaDoor
open Go.RowKit

/-- what stood still when it was taken: F0 of the world wr -/
def snapCh (wr : World) (F0 : Nat → Prop) : Ch where
  foot := fun _ => False
  holds := fun F w => (∀ b, F0 b → F b) ∧ ∀ b, F0 b → w.heap[b]? = wr.heap[b]?
  keep := fun F F' w w' hF hb h => ⟨fun b hb0 => hF b (h.1 b hb0), fun b hb0 => (hb b (.inl (h.1 b hb0))).trans (h.2 b hb0)⟩
/-- a slice as an element -/
def elSl {α : Type} (E : El α) : El (List α) where
  size := 1
  cells := fun F w x cs => ∃ v, cs = [v] ∧ Sl E F w v x
  pos := by decide
  len := fun F w x cs ⟨v, h, _⟩ => by rw [h]; rfl
  one := fun F w x cs ⟨v, h, a, cap, hv, _⟩ u hu => by
    subst h
    simp only [List.mem_cons, List.not_mem_nil, or_false] at hu
    subst hu hv
    rfl
  keep := fun F F' w w' x cs hF hb ⟨v, h, hs⟩ => ⟨v, h, hs.keep hF hb⟩
theorem Sl.one {α : Type} {E : El α} {F : Nat → Prop} {w : World} {v : Value} {xs : List α} (h : Sl E F w v xs) : v.oneCell' = true := by
  obtain ⟨a, cap, rfl, _⟩ := h
  rfl
/-- the row of element I lies there and stands still -/
def RowAt (wr : World) (F0 : Nat → Prop) (v : Value) (I : Int) (sz : Nat) (cs : List Value) : Prop := ∃ b off l c, v = .slice (some ⟨b, off, none⟩) l c ∧ F0 b ∧ wr.rangeAt b (off + I.toNat * sz) cs

section
variable {α : Type} {E' : El α} {wr w : World} {F0 F : Nat → Prop} {v : Value} {xs : List α} {G D : Nat → Prop} {w0 : World} {L : List Ch}
theorem sl_open (S : Sl E' F0 wr v xs) {I : Int} {z : α} (hz : xs[I.toNat]? = some z) : ∃ cs, E'.cells F0 wr z cs ∧ RowAt wr F0 v I E'.size cs := by
  obtain ⟨a, cap, rfl, hc, hr⟩ := S
  obtain ⟨b, off, rfl, hfb, hx⟩ := hr (by have := (List.getElem?_eq_some_iff.1 hz).1; omega)
  obtain ⟨cs, h1, h2⟩ := hx _ z hz
  exact ⟨cs, h1, b, off, _, cap, rfl, hfb, h2⟩
theorem reads_snap (S : Sl E' F0 wr v xs) : Reads (snapCh wr F0) E' v xs := fun F w h => S.keep (fun b hb => .inl (h.1 b hb)) h.2
theorem Sl.of (S : Sl E' F0 wr v xs) (h : (snapCh wr F0).holds F w) : Sl E' F w v xs := S.keep h.1 h.2
theorem Mem.roS (m : Mem G D w0 L w) (i : Nat) (hi : lget L i = some (snapCh wr F0)) (S : Sl E' F0 wr v xs) : Sl E' (fz G L w) w v xs := S.of (m.get hi)
/-- a slice that stands still as a chunk of its own -/
theorem Mem.snote (m : Mem G D w0 L w) (i : Nat) (hi : lget L i = some (snapCh wr F0)) (S : Sl E' F0 wr v xs) : Mem G D w0 (roCh E' v xs :: L) w := m.note (fun b hb => hb) (m.roS i hi S)

theorem src_snap (S : Sl E' F0 wr v xs) : Src (snapCh wr F0) E' v xs := fun F w h => src_ro F w (S.of h)
/-- nothing hangs on memory: whatever may be read will do -/
theorem src_flat {enc : α → List Value} {c : Ch} (hfl : Flat E' enc) (h : Reads c E' v xs) : Src c E' v xs := fun F w hc => by
  obtain ⟨a, cap, h1, h2, h3⟩ := h F w hc
  refine ⟨a, cap, h1, h2, fun h0 => ?_⟩
  obtain ⟨b, off, k1, k2, k3⟩ := h3 h0
  exact ⟨b, off, k1, k2, fun i x hi => by
    obtain ⟨cs, c1, c2⟩ := k3 i x hi
    exact ⟨cs, hfl.free _ _ _ _ _ _ c1, c2⟩⟩
end

section
variable {P : Program} {n : Nat} {G D : Nat → Prop} {w0 : World} {Q : Exit → Act → World → Prop} {R : Act → World → Prop} {E : Env} {L : List Ch} {φ : Prop}
variable {d : Tmp} {ty : TypeId} {pos : String} {aft : Array Edge} {gd : Option (Nat × Bool)} {Tk : Act → World → Prop} {Lr : List Ch} {x y : Operand} {T T' S : TypeId} {e sz by' : Nat}

/-- a snapshot of all that stands still -/
theorem nx_snap (h : ∀ wr F0, (∀ c ∈ L, c.holds F0 wr) → Nx n G D w0 R E (snapCh wr F0 :: L) φ) : Nx n G D w0 R E L φ := fun a w hE hm hφ =>
  h w (fz G L w) (fun c hc => hm.hold c hc) a w hE (hm.note (fun b hb => hb) ⟨fun b hb => hb, fun _ _ => rfl⟩) hφ
/-- a slice that stands still as a chunk of its own -/
theorem nx_note {α : Type} {E' : El α} {wr : World} {F0 : Nat → Prop} {v : Value} {xs : List α} (i : Nat) (hi : lget L i = some (snapCh wr F0)) (S : Sl E' F0 wr v xs) (h : Nx n G D w0 R E (roCh E' v xs :: L) φ) : Nx n G D w0 R E L φ := fun a w hE hm hφ => h a w hE (hm.snote i hi S) hφ
/-- what stands still in the row of element I is loaded -/
theorem o_ldR (M : Mode P n G D w0 E ⟨some d, .load T x, ty, pos, aft, gd⟩ Tk R Lr L) {wr : World} {F0 : Nat → Prop} {v : Value} {I : Int} {o fs : Nat} {cs : List Value} {row : Bool} {u : Value} (i : Nat) (hi : lget Lr i = some (snapCh wr F0)) (hr : RowAt wr F0 v I sz cs)
    (hx : oev E x = some (pEl v I sz o)) (hd : Nat.blt d n = true) (hT : tyB P T = some (row, fs)) (hu : ldv row o fs cs = some u) (k : Nx n G D w0 R ((d, u) :: E) L φ) : Nx n G D w0 Tk E L φ :=
  M.val hd rfl (fun ρ w hE hm _ => by
    obtain ⟨b, off, l, c, rfl, hb, hc⟩ := hr
    have h : (snapCh wr F0).holds _ w := hm.get hi
    have hc' : w.rangeAt b (off + I.toNat * sz) cs := rangeAt_keep hc (h.2 b hb)
    have := run_ldv (P := P) hT hc' hu
    rw [pEl_slice] at hx
    simp [execOp, hE _ _ hx, this]) id k
/-- from an element of a slice: its cells now -/
theorem o_ldE {α : Type} {E' : El α} {v : Value} {xs : List α} {c : Ch} {I : Int} {z : α} {o fs : Nat} {row : Bool} (i : Nat) (hi : lget L i = some c) (hc : Src c E' v xs) (hz : xs[I.toNat]? = some z) (hx : oev E x = some (pEl v I E'.size o)) (hd : Nat.blt d n = true) (hT : tyB P T = some (row, fs))
    (k : ∀ wr F0 cs, E'.cells F0 wr z cs → ∃ u, ldv row o fs cs = some u ∧ Nx n G D w0 R ((d, u) :: E) (snapCh wr F0 :: L) φ) : Nx n G D w0 (fun a w => Oper.wp P ⟨some d, .load T x, ty, pos, aft, gd⟩ a w R Q) E L φ :=
  o_gen hd rfl fun ρ w hE hm hφ => by
    obtain ⟨b, off, cap, cs, rfl, _, hcs, hr⟩ := (hc _ _ (hm.get hi)).at hz
    obtain ⟨u, hu, hk⟩ := k w (fz G L w) cs hcs
    have := run_ldv (P := P) hT hr hu
    rw [pEl_slice] at hx
    exact ⟨u, w, snapCh w (fz G L w) :: L, φ, by simp [execOp, hE _ _ hx, this], hm.note (fun b hb => hb) ⟨fun b hb => hb, fun _ _ => rfl⟩, hφ, hk⟩

/-- made, of elements with slices inside -/
theorem o_makeN {α : Type} {El' : El α} {z : α} {N M : Int} {κ : List α → Prop} {zs : List Value} (hz : ∀ F w, El'.cells F w z zs) (hx : oev E x = some (.int .i64 N)) (hy : oev E y = some (.int .i64 M)) (hd : Nat.blt d n = true)
    (hT : elB P T = some (e, sz, by')) (hby : Nat.ble by' 32768 = true) (hzr : zeroB P e = some zs) (hes : El'.size = sz)
    (k : ∀ v xs, Nx n G D w0 R ((d, v) :: E) (ownCh El' e v xs :: L) (κ xs)) :
    Nx n G D w0 (fun a w => Oper.wp P ⟨some d, .makeSlice T x y, ty, pos, aft, gd⟩ a w R Q) E L (makeW z N M κ) :=
  o_gen hd rfl fun ρ w hE hm hφ => by
    obtain ⟨h0, h1, h2, h3⟩ := hφ
    obtain ⟨hu, i, hi, rfl, rfl⟩ := elB_spec hT
    obtain ⟨z', hz', hzc⟩ := zeroB_spec hzr hi
    unfold lenOk at h2
    have hbl := Nat.le_of_ble_eq_true hby
    obtain ⟨M', rfl⟩ := Int.eq_ofNat_of_zero_le (show 0 ≤ M by omega)
    have hb : (i.bytes : Int) * (M' : Int) ≤ 281474976710656 := by
      have h5 : i.bytes * M' ≤ 32768 * 4294967296 := Nat.mul_le_mul hbl (by simpa using h2)
      rw [← Int.natCast_mul]
      omega
    have hr := run_make (P := P) w T e i z' hu hi hz' .i64 .i64 N M' h0 h1 hb (by simp at h2; omega)
    have hlz : zs.length = El'.size := El'.len _ _ _ _ (hz (fun _ => True) w)
    have hpos := El'.pos
    rw [hzc, ← hes, ← hlz] at hr
    rw [Int.toNat_natCast] at hr h2
    refine ⟨.slice (some ⟨w.heap.size, 0, none⟩) N.toNat M', w.alloc (.cells (madeCells zs.toArray (M' * zs.length)) e), _, κ (List.replicate N.toNat z), by simp [execOp, hE _ _ hx, hE _ _ hy, hr], ?_, h3, k _ _⟩
    refine hm.add _ ((Below.refl _ _).alloc (Nat.le_refl _) _) (fun b hb => by simp [ownCh, Value.ownBlock] at hb; rw [World.size_alloc]; omega) ?_
    have hown := own_new (El' := El') (F := fz G (ownCh El' e (.slice (some ⟨w.heap.size, 0, none⟩) N.toNat M') (List.replicate N.toNat z) :: L) (w.alloc (.cells (madeCells zs.toArray (M' * zs.length)) e))) (w := w.alloc (.cells (madeCells zs.toArray (M' * zs.length)) e)) (ty := e) (b := w.heap.size) (cap := M')
      (Rows.replicate (hz _ _) N.toNat) (heap_alloc_new w _) (by simp; omega) (by unfold maxLen; omega) (by rw [size_madeCells, hlz]) (by
        rw [madeCells_flatten _ _ (by omega), List.length_replicate, ← hlz]
        have : List.replicate M' zs = List.replicate N.toNat zs ++ List.replicate (M' - N.toNat) zs := by rw [List.replicate_append_replicate]; congr 1; omega
        rw [this, List.flatten_append, List.take_left' (by simp)])
    rw [List.length_replicate] at hown
    exact hown
theorem bsl_run {len : Nat} {qs : List (Nat × Value)} {zs cells : List Value} {w : World} (hT : elB P T = some (e, sz, by')) (hzr : zeroB P e = some zs) (hp0 : 0 < sz) (hlen : Nat.ble (len * sz) 16777216 = true)
    (hzl : Nat.beq zs.length sz = true) (hfill' : lfill (fun i => some (i * sz, sz)) (List.replicate len zs).flatten qs = some cells) : (Instr.buildSlice T len qs.toArray).run P w = .ok (.slice (some ⟨w.heap.size, 0, none⟩) len len) (w.alloc (.cells cells.toArray e)) := by
  obtain ⟨hu, i, hi, rfl, rfl⟩ := elB_spec hT
  obtain ⟨z', hz', hzc⟩ := zeroB_spec hzr hi
  have hle := Nat.le_of_ble_eq_true hlen
  have hzl' := Nat.eq_of_beq_eq_true hzl
  have hmade : (Array.range (len * i.size)).map (zs.toArray[· % zs.toArray.size]!) = (List.replicate len zs).flatten.toArray := by
    have := madeCells_flatten zs len (by omega)
    rw [hzl'] at this
    unfold madeCells at this
    rw [← this]
  have hfill0 := fill_of _ _ _ _ hfill'
  have hfill : Instr.fill (fun j => some (j * i.size, i.size)) ((Array.range (len * i.size)).map ((if len * i.size = 0 then #[] else zs.toArray)[· % (if len * i.size = 0 then #[] else zs.toArray).size]!)) qs = some cells.toArray := by
    by_cases h0 : len * i.size = 0
    · have hl0 : len = 0 := by
        rcases Nat.mul_eq_zero.1 h0 with h | h
        · exact h
        · omega
      subst hl0
      simpa [Array.range_zero'] using hfill0
    · simp only [h0, if_false]
      rw [hmade]
      exact hfill0
  have hn : ¬ (16777216 < len * i.size) := by omega
  simp only [Instr.buildSlice, Sem.run_bind, run_underlying hu, Result.andThen_ok]
  by_cases h0 : len * i.size = 0
  · simp [h0] at hfill
    simp [sizeOf, typeInfo, hi, h0, newRow, hfill]
  · simp [h0] at hfill
    simp [sizeOf, typeInfo, hi, h0, hn, zeroValue, hz', hzc, newRow, hfill]
/-- a literal of a slice whose elements have slices inside that stand still -/
theorem o_bslN {α : Type} {El' : El α} {len : Nat} {ps : Array (Nat × Operand)} {qs : List (Nat × Value)} {zs cells : List Value} (xs : List α) (css : List (List Value)) (hc : ∀ w, Mem G D w0 L w → Rows El' (fz G L w) w xs css)
    (hq : ∀ ρ : Operand → Value, (∀ x v, oev E x = some v → ρ x = v) → (ps.map fun (i, x) => (i, ρ x)) = qs.toArray) (hd : Nat.blt d n = true)
    (hT : elB P T = some (e, sz, by')) (hzr : zeroB P e = some zs) (hes : El'.size = sz) (hlen : Nat.ble (len * sz) 16777216 = true) (hxl : xs.length = len)
    (hzl : Nat.beq zs.length sz = true) (hfill' : lfill (fun i => some (i * sz, sz)) (List.replicate len zs).flatten qs = some cells)
    (hcells : css.flatten = cells)
    (k : ∀ v, Nx n G D w0 R ((d, v) :: E) (ownCh El' e v xs :: L) φ) :
    Nx n G D w0 (fun a w => Oper.wp P ⟨some d, .buildSlice T len ps, ty, pos, aft, gd⟩ a w R Q) E L φ :=
  o_gen hd rfl fun ρ w hE hm hφ => by
    have hp := El'.pos
    have hrun := bsl_run (P := P) (w := w) (qs := qs) hT hzr (by omega) hlen hzl hfill'
    have hrows := hc w hm
    have hl := hrows.length
    refine ⟨.slice (some ⟨w.heap.size, 0, none⟩) len len, w.alloc (.cells cells.toArray e), _, φ, by simp only [execOp, hq ρ hE, Sem.run_bind, hrun]; rfl, ?_, hφ, k _⟩
    refine hm.add _ ((Below.refl _ _).alloc (Nat.le_refl _) _) (fun b hb => by simp [ownCh, Value.ownBlock] at hb; rw [World.size_alloc]; omega) ?_
    rw [hcells, hxl] at hl
    subst hxl
    have hrows' := hrows.keep (F' := fz G (ownCh El' e (.slice (some ⟨w.heap.size, 0, none⟩) xs.length xs.length) xs :: L) (w.alloc (.cells cells.toArray e))) (w' := w.alloc (.cells cells.toArray e)) (fun b hb => ⟨by have := hb.1; rw [World.size_alloc]; omega, hb.2.1, fun c hc => by
      rcases List.mem_cons.1 hc with e' | e'
      · subst e'
        intro h
        simp [ownCh, Value.ownBlock] at h
        have := hb.1
        omega
      · exact hb.2.2 c e'⟩) (fun b hb => heap_alloc_old w _ hb.1)
    refine own_new hrows' (heap_alloc_new w _) (Nat.le_refl _) ?_ (by simpa [hes] using hl) ?_
    · have hle := Nat.le_of_ble_eq_true hlen
      have : xs.length ≤ xs.length * sz := Nat.le_mul_of_pos_right _ (by omega)
      unfold maxLen; omega
    · rw [hcells, hes, List.take_of_length_le (by have := hl; rw [hes] at this; simp; omega)]
/-- a store into an element of a slice of the call's own whose elements have slices inside -/
theorem o_stsN {α : Type} {El' : El α} {v : Value} {xs : List α} {I : Int} {z y' : α} {o fs : Nat} {row : Bool} {u : Value} (i : Nat) (hi : lget L i = some (ownCh El' e v xs)) (hes : El'.size = sz) (hz : xs[I.toNat]? = some z)
    (hcell : ∀ w cs, Mem G D w0 L w → El'.cells (fz G L w) w z cs → El'.cells (fz G L w) w y' (lput cs o u.cells.toList))
    (hT : tyB P T = some (row, fs)) (hx : oev E x = some (pEl v I sz o)) (hy : oev E y = some u) (hsz : Nat.beq u.cells.size fs = true) (h1 : u.cells.toList.all (·.oneCell') = true) (hle : Nat.ble (o + fs) sz = true)
    (k : Nx n G D w0 R E (lset L i (ownCh El' e v (xs.set I.toNat y'))) φ) : Nx n G D w0 (fun a w => Oper.wp P ⟨none, .store T x y, ty, pos, aft, gd⟩ a w R Q) E L φ :=
  o_skip rfl fun ρ w hE hm hφ => by
    have hlt := (List.getElem?_eq_some_iff.1 hz).1
    obtain ⟨css, hr, hown⟩ := hm.get hi
    have hcss := hr.length
    obtain ⟨h0, hown⟩ := hown
    rcases hown with ⟨_, hn⟩ | ⟨g, cap, cur, rfl, hg0, hg, hnc, hcm, hcs, htake⟩
    · omega
    rw [pEl_slice] at hx
    have hzs := Nat.eq_of_beq_eq_true hsz
    have hle' := Nat.le_of_ble_eq_true hle
    have hb : w.heap[g]? = some (.cells cur.toList.toArray e (0, 0)) := by simpa using hg
    have hsub : I.toNat * sz + sz ≤ xs.length * sz := by rw [← Nat.succ_mul]; exact Nat.mul_le_mul_right _ hlt
    have hcap : xs.length * sz ≤ cap * sz := Nat.mul_le_mul_right _ hnc
    have hcl : cur.toList.length = cap * sz := by rw [Array.length_toList, hcs, hes]
    have hr' := run_stv (P := P) (w := w) hT hsz h1 (b := g) (o := 0 + I.toNat * sz + o) (there_of_row hb (by rw [hzs, hcl]; omega))
    refine ⟨_, _, φ, by simp [execOp, hE _ _ hx, hE _ _ hy] at hr' ⊢; rw [hr']; rfl, ?_, hφ, k⟩
    obtain ⟨s1, s2, s3⟩ := setCells_rest g u.cells.toList (I.toNat * sz + o) w
    refine hm.upd hi s1 s2 s3 (by rw [setCells_size]; exact Nat.le_refl _) (fun x _ hx => setCells_other g _ _ _ _ (fun e => hx (by rw [e]; rfl))) (fun x hx => ⟨?_, .inl hx⟩) ?_
    · have hx' : some g = some x := hx
      cases hx'
      rw [setCells_size]
      exact (Array.getElem?_eq_some_iff.1 hg).1
    · obtain ⟨cz, c1, c2⟩ := hr.get hz
      have hlz : cz.length = sz := by rw [El'.len _ _ _ _ c1, hes]
      have hnew := hcell w cz hm c1
      obtain ⟨pre, post, old, e1, e2, e3, css', e4, e5⟩ := hr.set I.toNat (y := y') (ds := lput cz o u.cells.toList) hlt hnew
      have hold : old = cz := by
        apply List.ext_getElem?
        intro j
        by_cases hj : j < cz.length
        · have := c2 j cz[j] (List.getElem?_eq_getElem hj)
          rw [e1, List.append_assoc, ← e2, List.getElem?_append_right (by omega), show pre.length + j - pre.length = j by omega, List.getElem?_append_left (by rw [e3, hes]; omega)] at this
          rw [this, List.getElem?_eq_getElem hj]
        · rw [List.getElem?_eq_none (by rw [e3, hes]; omega), List.getElem?_eq_none (by omega)]
      have hup := setCells_heap g e (0, 0) u.cells.toList (I.toNat * sz + o) cur.toList w hb
      -- the rows in the world behind
      have hFz : ∀ b, fz G L w b → fz G (lset L i (ownCh El' e (.slice (some ⟨g, 0, none⟩) xs.length cap) (xs.set I.toNat y'))) (w.setCells g (I.toNat * sz + o) u.cells.toList) b := fun b hb => ⟨by rw [setCells_size]; exact hb.1, hb.2.1, fun x hx => by
        rcases mem_lset hi hm.disj hx with e' | ⟨e1, _⟩
        · subst e'; exact fun hk => hb.2.2 _ (lget_mem hi) hk
        · exact hb.2.2 x e1⟩
      have hsame : ∀ b, fz G L w b → (w.setCells g (I.toNat * sz + o) u.cells.toList).heap[b]? = w.heap[b]? := fun b hb => setCells_other g _ _ _ _ (fun e' => hb.2.2 _ (lget_mem hi) (by rw [e']; rfl))
      refine ⟨css', e5.keep hFz hsame, ?_, .inr ⟨g, cap, (lput cur.toList (I.toNat * sz + o) u.cells.toList).toArray, by simp, hg0, hup, by simpa using hnc, hcm, by simpa [lput_length] using hcs, ?_⟩⟩
      · have := e5.length
        simpa using this
      · rw [e4]
        have hct : cur.toList = pre ++ old ++ (post ++ cur.toList.drop (xs.length * sz)) := by
          rw [← List.append_assoc, ← e1, ← htake, hes, List.take_append_drop]
        rw [hct, ← hes, ← e2, lput_append_mid _ _ _ _ _ (by rw [hold, hlz]; simp; omega), hold, ← List.append_assoc]
        rw [List.length_set]
        have htot : (pre ++ lput cz o u.cells.toList ++ post).length = xs.length * El'.size := by
          have h5 := congrArg List.length e1
          rw [hcss] at h5
          simp [lput_length] at h5 ⊢
          omega
        rw [← htot]
        exact List.take_left
/-- an array in memory that is written at places which are not known ahead -/
theorem o_allocA {α : Type} {El' : El α} {z : α} {len : Nat} {cs zs : List Value} (hz : ∀ F w, El'.cells F w z zs) (hd : Nat.blt d n = true) (hzr : zeroB P T = some cs) (hcs : (List.replicate len zs).flatten = cs) (hlen : Nat.ble len 65536 = true)
    (k : ∀ b, Nx n G D w0 R ((d, .pointer (some ⟨b, 0, none⟩)) :: E) (ownCh El' T (.slice (some ⟨b, 0, none⟩) len len) (List.replicate len z) :: L) φ) :
    Nx n G D w0 (fun a w => Oper.wp P ⟨some d, .alloc T, ty, pos, aft, gd⟩ a w R Q) E L φ :=
  o_gen hd rfl fun ρ w hE hm hφ => by
    unfold zeroB at hzr
    cases hi : P.info? T with
    | none => simp [hi] at hzr
    | some i =>
      cases hz' : i.zero with
      | none => simp [hi, hz'] at hzr
      | some zv =>
        simp [hi, hz'] at hzr
        have hlz : zs.length = El'.size := El'.len _ _ _ _ (hz (fun _ => True) w)
        refine ⟨_, w.alloc (.cells cs.toArray T), _, φ, by simp [execOp, Instr.alloc, zeroValue, typeInfo, hi, hz', newVar, newRow, ← hzr], ?_, hφ, k w.heap.size⟩
        refine hm.add _ ((Below.refl _ _).alloc (Nat.le_refl _) _) (fun b hb => by simp [ownCh, Value.ownBlock] at hb; rw [World.size_alloc]; omega) ?_
        have hle := Nat.le_of_ble_eq_true hlen
        have hown := own_new (El' := El') (F := fz G (ownCh El' T (.slice (some ⟨w.heap.size, 0, none⟩) len len) (List.replicate len z) :: L) (w.alloc (.cells cs.toArray T))) (w := w.alloc (.cells cs.toArray T)) (ty := T) (b := w.heap.size) (cap := len)
          (Rows.replicate (hz _ _) len) (heap_alloc_new w _) (by simp) (by unfold maxLen; omega) (by rw [← hcs]; simp [hlz]) (by
            rw [← hcs, List.length_replicate, List.take_of_length_le (by simp [hlz])])
        rw [List.length_replicate] at hown
        exact hown
end
end Go.Proofs.YtnogaeckmiekdaaDoor
