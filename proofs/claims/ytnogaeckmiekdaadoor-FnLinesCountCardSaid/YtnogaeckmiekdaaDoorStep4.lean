/- The steps of printed walks: slices of the call's own. -/
import Derived.Test.YtnogaeckmiekdaaDoorStep3
import Derived.Maps.AppendAt
import Derived.Laws.MakeOwn
set_option linter.unusedSimpArgs false
set_option linter.unusedVariables false
namespace Go.Proofs.YtnogaeckmiekdaaDoor
open Go.RowKit

theorem elB_spec {P : Program} {T e sz by' : Nat} (h : elB P T = some (e, sz, by')) : P.underlying T = some (.slice e) ∧ ∃ i, P.info? e = some i ∧ i.size = sz ∧ i.bytes = by' := by
  unfold elB at h
  split at h
  · rename_i e' hu
    split at h
    · rename_i inf hi'
      simp at h
      obtain ⟨rfl, rfl, rfl⟩ := h
      exact ⟨hu, inf, hi', rfl, rfl⟩
    · simp at h
  · simp at h
theorem zeroB_spec {P : Program} {T : Nat} {cs : List Value} {i : TypeInfo} (h : zeroB P T = some cs) (hi : P.info? T = some i) : ∃ z, i.zero = some z ∧ z.cells = cs.toArray := by
  unfold zeroB at h
  rw [hi] at h
  cases hz : i.zero with
  | none => simp [hz] at h
  | some z => simp [hz] at h; exact ⟨z, rfl, by rw [← h]⟩

section
variable {α : Type} {El' : El α} {F : Nat → Prop} {w : World}
theorem Rows.replicate {z : α} {zs : List Value} (hz : El'.cells F w z zs) : ∀ n, Rows El' F w (List.replicate n z) (List.replicate n zs)
  | 0 => trivial
  | n + 1 => ⟨hz, Rows.replicate hz n⟩
theorem flatten_replicate_get (zs : List Value) : ∀ (n j : Nat), j < n * zs.length → (List.replicate n zs).flatten[j]? = zs[j % zs.length]?
  | 0, j, h => by simp at h
  | n + 1, j, h => by
    rw [List.replicate_succ, List.flatten_cons]
    by_cases hj : j < zs.length
    · rw [List.getElem?_append_left hj, Nat.mod_eq_of_lt hj]
    · have h' : j - zs.length < n * zs.length := by rw [Nat.succ_mul] at h; omega
      rw [List.getElem?_append_right (by omega), flatten_replicate_get zs n (j - zs.length) h', ← Nat.mod_eq_sub_mod (by omega)]
theorem madeCells_flatten (zs : List Value) (n : Nat) (hp : 0 < zs.length) : (madeCells zs.toArray (n * zs.length)).toList = (List.replicate n zs).flatten := by
  apply List.ext_getElem?
  intro j
  by_cases hj : j < n * zs.length
  · rw [flatten_replicate_get zs n j hj]
    have hm : j % zs.length < zs.length := Nat.mod_lt _ hp
    simp [madeCells, hj, getElem!_pos, hm]
  · have h1 : (madeCells zs.toArray (n * zs.length)).toList.length = n * zs.length := by simp [madeCells]
    have h2 : (List.replicate n zs).flatten.length = n * zs.length := by simp
    rw [List.getElem?_eq_none (by omega), List.getElem?_eq_none (by omega)]
/-- a new row owns its elements -/
theorem own_new {ty b cap : Nat} {xs : List α} {css : List (List Value)} {cur : Array Value} (hr : Rows El' F w xs css) (hb : w.heap[b]? = some (.cells cur ty (0, 0))) (hn : xs.length ≤ cap) (hc : cap ≤ maxLen)
    (hs : cur.size = cap * El'.size) (ht : cur.toList.take (xs.length * El'.size) = css.flatten) : Own El' ty F w (.slice (some ⟨b, 0, none⟩) xs.length cap) xs :=
  ⟨css, hr, hr.length, .inr ⟨b, cap, cur, rfl, Nat.zero_le _, hb, hn, hc, hs, ht⟩⟩
end

theorem flat_flat {α : Type} {n : Nat} {enc : α → List Value} {hp : 0 < n} {hl : ∀ x, (enc x).length = n} {h1 : ∀ x, ∀ u ∈ enc x, u.oneCell' = true} : Flat (El.flat n enc hp hl h1) enc := fun _ _ _ _ => Iff.rfl
theorem Flat.free {α : Type} {E : El α} {enc : α → List Value} (h : Flat E enc) : ∀ F F' w w' x cs, E.cells F w x cs → E.cells F' w' x cs := fun _ _ _ _ _ _ k => (h _ _ _ _).2 ((h _ _ _ _).1 k)
theorem Flat.size {α : Type} {E : El α} {enc : α → List Value} (h : Flat E enc) (w : World) (x : α) : (enc x).length = E.size := E.len (fun _ => True) w x _ ((h _ _ _ _).2 rfl)

section
variable {P : Program} {n : Nat} {G D : Nat → Prop} {w0 : World} {Q : Exit → Act → World → Prop} {R : Act → World → Prop} {E : Env} {L : List Ch} {φ : Prop}
variable {d : Tmp} {ty : TypeId} {pos : String} {aft : Array Edge} {gd : Option (Nat × Bool)} {Tk : Act → World → Prop} {Lr : List Ch} {x y : Operand} {T T' S : TypeId} {e sz by' : Nat}

theorem o_make {α : Type} {El' : El α} {enc : α → List Value} {z : α} {N M : Int} {κ : List α → Prop} {zs : List Value} (hfl : Flat El' enc) (hx : oev E x = some (.int .i64 N)) (hy : oev E y = some (.int .i64 M)) (hd : Nat.blt d n = true)
    (hT : elB P T = some (e, sz, by')) (hby : Nat.ble by' 32768 = true) (hzr : zeroB P e = some zs) (hz : enc z = zs) (hes : El'.size = sz)
    (k : ∀ v xs, Nx n G D w0 R ((d, v) :: E) (ownCh El' e v xs :: L) (κ xs)) :
    Nx n G D w0 (fun a w => Oper.wp P ⟨some d, .makeSlice T x y, ty, pos, aft, gd⟩ a w R Q) E L (makeW z N M κ) :=
  o_gen hd rfl fun ρ w hE hm hφ => by
    obtain ⟨h0, h1, h2, h3⟩ := hφ
    obtain ⟨hu, i, hi, rfl, rfl⟩ := elB_spec hT
    obtain ⟨z', hz', hzc⟩ := zeroB_spec hzr hi
    unfold lenOk at h2
    have hbl := Nat.le_of_ble_eq_true hby
    obtain ⟨M', rfl⟩ := Int.eq_ofNat_of_zero_le (show 0 ≤ M by omega)
    have hb : (i.bytes : Int) * (M' : Int) ≤ 281474976710656 := by
      have h5 : i.bytes * M' ≤ 32768 * 4294967296 := Nat.mul_le_mul hbl (by simpa using h2)
      rw [← Int.natCast_mul]
      omega
    have hr := run_make (P := P) w T e i z' hu hi hz' .i64 .i64 N M' h0 h1 hb (by simp at h2; omega)
    have hlz : (enc z).length = El'.size := hfl.size w z
    have hpos := El'.pos
    rw [hzc, ← hz, ← hes, ← hlz] at hr
    rw [Int.toNat_natCast] at hr h2
    refine ⟨.slice (some ⟨w.heap.size, 0, none⟩) N.toNat M', w.alloc (.cells (madeCells (enc z).toArray (M' * (enc z).length)) e), _, κ (List.replicate N.toNat z), by simp [execOp, hE _ _ hx, hE _ _ hy, hr], ?_, h3, k _ _⟩
    refine hm.add _ ((Below.refl _ _).alloc (Nat.le_refl _) _) (fun b hb => by simp [ownCh, Value.ownBlock] at hb; rw [World.size_alloc]; omega) ?_
    have hown := own_new (El' := El') (F := fz G (ownCh El' e (.slice (some ⟨w.heap.size, 0, none⟩) N.toNat M') (List.replicate N.toNat z) :: L) (w.alloc (.cells (madeCells (enc z).toArray (M' * (enc z).length)) e))) (w := w.alloc (.cells (madeCells (enc z).toArray (M' * (enc z).length)) e)) (ty := e) (b := w.heap.size) (cap := M')
      (Rows.replicate ((hfl _ _ _ _).2 rfl) N.toNat) (heap_alloc_new w _) (by simp; omega) (by unfold maxLen; omega) (by rw [size_madeCells, hlz]) (by
        rw [madeCells_flatten _ _ (by omega), List.length_replicate, ← hlz]
        have : List.replicate M' (enc z) = List.replicate N.toNat (enc z) ++ List.replicate (M' - N.toNat) (enc z) := by rw [List.replicate_append_replicate]; congr 1; omega
        rw [this, List.flatten_append, List.take_left' (by simp)])
    rw [List.length_replicate] at hown
    exact hown

/-- Instr.fill by lists -/
def lfill (place : Nat → Option (Nat × Nat)) : List Value → List (Nat × Value) → Option (List Value)
  | cells, [] => some cells
  | cells, (i, v) :: r =>
    match place i with
    | none => none
    | some (off, size) => bif Nat.beq v.cells.toList.length size && Nat.ble (off + size) cells.length then lfill place (lput cells off v.cells.toList) r else none
theorem foldl_put : ∀ (vs : List Value) (off k : Nat) (cells : List Value), (vs.zipIdx k).foldl (fun (cs : Array Value) (p : Value × Nat) => cs.setIfInBounds (off + p.2) p.1) cells.toArray = (lput cells (off + k) vs).toArray
  | [], _, _, _ => rfl
  | v :: r, off, k, cells => by
    rw [List.zipIdx_cons, List.foldl_cons, lput]
    simp only [List.setIfInBounds_toArray]
    rw [foldl_put r off (k + 1) (cells.set (off + k) v)]
    rfl
theorem fill_of (place : Nat → Option (Nat × Nat)) : ∀ (qs : List (Nat × Value)) (cells cs : List Value), lfill place cells qs = some cs → Instr.fill place cells.toArray qs = some cs.toArray
  | [], cells, cs, h => by simp [lfill] at h; subst h; rfl
  | (i, v) :: r, cells, cs, h => by
    simp only [lfill] at h
    unfold Instr.fill
    cases hp : place i with
    | none => simp [hp] at h
    | some q =>
      obtain ⟨off, size⟩ := q
      simp only [hp] at h ⊢
      cases hc : (Nat.beq v.cells.toList.length size && Nat.ble (off + size) cells.length) with
      | false => rw [hc] at h; simp at h
      | true =>
        rw [hc] at h
        simp only [cond_true] at h
        simp only [Bool.and_eq_true] at hc
        have h1 := Nat.eq_of_beq_eq_true hc.1
        have h2 := Nat.le_of_ble_eq_true hc.2
        have h3 : ¬ (v.cells.size ≠ size || off + v.cells.size > cells.toArray.size) = true := by
          simp at h1 ⊢
          omega
        rw [if_neg h3, ← fill_of place r _ _ h]
        congr 1
        have := foldl_put v.cells.toList off 0 cells
        rw [Nat.add_zero] at this
        rw [← this]
        rw [← Array.foldl_toList, Array.toList_zipIdx]
/-- a literal of a slice -/
theorem o_bsl {α : Type} {El' : El α} {enc : α → List Value} {len : Nat} {ps : Array (Nat × Operand)} {qs : List (Nat × Value)} {zs cells : List Value} (xs : List α) (hfl : Flat El' enc)
    (hq : ∀ ρ : Operand → Value, (∀ x v, oev E x = some v → ρ x = v) → (ps.map fun (i, x) => (i, ρ x)) = qs.toArray) (hd : Nat.blt d n = true)
    (hT : elB P T = some (e, sz, by')) (hzr : zeroB P e = some zs) (hes : El'.size = sz) (hlen : Nat.ble (len * sz) 16777216 = true) (hxl : xs.length = len)
    (hzl : Nat.beq zs.length sz = true) (hfill' : lfill (fun i => some (i * sz, sz)) (List.replicate len zs).flatten qs = some cells)
    (hcells : (xs.map enc).flatten = cells)
    (k : ∀ v, Nx n G D w0 R ((d, v) :: E) (ownCh El' e v xs :: L) φ) :
    Nx n G D w0 (fun a w => Oper.wp P ⟨some d, .buildSlice T len ps, ty, pos, aft, gd⟩ a w R Q) E L φ :=
  o_gen hd rfl fun ρ w hE hm hφ => by
    obtain ⟨hu, i, hi, rfl, rfl⟩ := elB_spec hT
    obtain ⟨z', hz', hzc⟩ := zeroB_spec hzr hi
    have hle := Nat.le_of_ble_eq_true hlen
    have hzl' := Nat.eq_of_beq_eq_true hzl
    have hpos : 0 < zs.length := by rw [hzl', ← hes]; exact El'.pos
    have hmade : (Array.range (len * i.size)).map (zs.toArray[· % zs.toArray.size]!) = (List.replicate len zs).flatten.toArray := by
      have := madeCells_flatten zs len hpos
      rw [hzl'] at this
      unfold madeCells at this
      rw [← this]
    have hfill0 := fill_of _ _ _ _ hfill'
    have hfill : Instr.fill (fun j => some (j * i.size, i.size)) ((Array.range (len * i.size)).map ((if len * i.size = 0 then #[] else zs.toArray)[· % (if len * i.size = 0 then #[] else zs.toArray).size]!)) qs = some cells.toArray := by
      by_cases h0 : len * i.size = 0
      · have hl0 : len = 0 := by
          rcases Nat.mul_eq_zero.1 h0 with h | h
          · exact h
          · have := El'.pos; omega
        subst hl0
        simpa [Array.range_zero'] using hfill0
      · simp only [h0, if_false]
        rw [hmade]
        exact hfill0
    refine ⟨.slice (some ⟨w.heap.size, 0, none⟩) len len, w.alloc (.cells cells.toArray e), _, φ, ?_, ?_, hφ, k _⟩
    · have hn : ¬ (16777216 < len * i.size) := by omega
      have hq' := hq ρ hE
      simp only [execOp, Instr.buildSlice, Sem.run_bind, run_underlying hu, Result.andThen_ok, hq']
      by_cases h0 : len * i.size = 0
      · simp [h0] at hfill
        simp [sizeOf, typeInfo, hi, h0, newRow, hfill]
      · simp [h0] at hfill
        simp [sizeOf, typeInfo, hi, h0, hn, zeroValue, hz', hzc, newRow, hfill]
    · refine hm.add _ ((Below.refl _ _).alloc (Nat.le_refl _) _) (fun b hb => by simp [ownCh, Value.ownBlock] at hb; rw [World.size_alloc]; omega) ?_
      have hrows : ∀ (F : Nat → Prop) (w : World) (xs : List α), Rows El' F w xs (xs.map enc) := by
        intro F w xs
        induction xs with
        | nil => trivial
        | cons x r ih => exact ⟨(hfl _ _ _ _).2 rfl, ih⟩
      have hl := (hrows (fun _ => True) w xs).length
      rw [hcells, hxl] at hl
      subst hxl
      refine own_new (hrows _ _ xs) (heap_alloc_new w _) (Nat.le_refl _) ?_ (by simpa using hl) ?_
      · have hp := El'.pos
        have : xs.length ≤ xs.length * i.size := Nat.le_mul_of_pos_right _ (by omega)
        unfold maxLen; omega
      · rw [hcells, ← hl, List.take_of_length_le (by simp)]

/-- append to a slice of the call's own -/
theorem o_app {α : Type} {El' : El α} {v u : Value} {xs ys : List α} {c : Ch} {κ : List α → Prop} {zs : List Value} (i j : Nat) (hi : lget L i = some (ownCh El' e v xs)) (hj : lget L j = some c) (hc : Src c El' u ys)
    (hx : oev E x = some v) (hy : oev E y = some u) (hd : Nat.blt d n = true) (hT : elB P T = some (e, sz, by')) (hby : Nat.ble by' 32768 = true) (hzr : zeroB P e = some zs) (hzl : zs.length = sz) (hes : El'.size = sz)
    (k : ∀ v', Nx n G D w0 R ((d, v') :: E) (lset L i (ownCh El' e v' (xs ++ ys))) (κ (xs ++ ys))) :
    Nx n G D w0 (fun a w => Oper.wp P ⟨some d, .call { callee := .builtin .append, args := #[x, y], argTypes := #[T, T] }, ty, pos, aft, gd⟩ a w R Q) E L (appW xs ys κ) :=
  o_gen hd rfl fun ρ w hE hm hφ => by
    obtain ⟨h0, h1⟩ := hφ
    obtain ⟨hu, inf, hinf, rfl, rfl⟩ := elB_spec hT
    obtain ⟨z', hz', hzc⟩ := zeroB_spec hzr hinf
    obtain ⟨css, hr, how⟩ := hm.get hi
    have hsl := hc _ _ (hm.get hj)
    unfold lenOk at h0
    have hbl := Nat.le_of_ble_eq_true hby
    -- the cells of what is appended
    obtain ⟨dss, hrd⟩ : ∃ dss, Rows El' (fz G L w) w ys dss ∧ ∃ a cap, u = .slice a ys.length cap ∧ ((∃ ad, a = some ad ∧ ∀ j q, dss.flatten[j]? = some q → w.cell? (ad.add j) = some q) ∨ (ys = [] ∧ a = none)) := by
      obtain ⟨a, cap, rfl, hcap, hrow⟩ := hsl
      by_cases hy0 : 0 < ys.length
      · obtain ⟨b, off, rfl, hfb, hxs⟩ := hrow hy0
        have key : ∀ (ys' : List α) (p : Nat), (∀ i x, ys'[i]? = some x → ∃ cs, El'.cells (fz G L w) w x cs ∧ w.rangeAt b (off + (p + i) * El'.size) cs) →
            ∃ dss, Rows El' (fz G L w) w ys' dss ∧ w.rangeAt b (off + p * El'.size) dss.flatten := by
          intro ys'
          induction ys' with
          | nil => intro p _; exact ⟨[], trivial, fun j q hq => by simp at hq⟩
          | cons y0 r ih =>
            intro p hp
            obtain ⟨cs, g1, g2⟩ := hp 0 y0 (by simp)
            obtain ⟨dss, g3, g4⟩ := ih (p + 1) (fun i x hix => by
              have := hp (i + 1) x (by simpa using hix)
              rwa [show p + (i + 1) = p + 1 + i by omega] at this)
            refine ⟨cs :: dss, ⟨g1, g3⟩, fun j q hq => ?_⟩
            have hl := El'.len _ _ _ _ g1
            rw [List.flatten_cons, List.getElem?_append] at hq
            split at hq
            · simpa using g2 j q hq
            · have := g4 (j - cs.length) q hq
              rw [hl, Nat.add_mul] at this
              rw [show off + p * El'.size + j = off + (p * El'.size + 1 * El'.size) + (j - El'.size) by omega]
              exact this
        obtain ⟨dss, g1, g2⟩ := key ys 0 (fun i x hix => by simpa using hxs i x hix)
        exact ⟨dss, g1, _, cap, rfl, .inl ⟨_, rfl, fun j q hq => by rw [Addr.add_mid]; simpa using g2 j q hq⟩⟩
      · have : ys = [] := List.eq_nil_of_length_eq_zero (by omega)
        subst this
        refine ⟨[], trivial, a, cap, rfl, ?_⟩
        cases a with
        | none => exact .inr ⟨rfl, rfl⟩
        | some ad => exact .inl ⟨ad, rfl, fun j q hq => by simp at hq⟩
    obtain ⟨hrd, a, cap, rfl, hsrc⟩ := hrd
    have hone := hrd.one
    have hlen := hrd.length
    rw [hes] at hlen
    rcases hsrc with ⟨ad, rfl, hcell⟩ | ⟨rfl, rfl⟩
    · obtain ⟨v', w', g1, g2, g3, _, g5⟩ := run_append_own_at (P := P) w 0 T ty e inf z' inf.size inf.bytes hu hinf hz' rfl rfl (by rw [hzc]; simpa using hzl) (by rw [← hes]; exact El'.pos)
        v xs.length css.flatten (by rw [← hes]; exact how) ad ys.length cap dss.flatten hlen hcell hone (by unfold maxLen; omega) (by
          have := Nat.mul_le_mul h0 hbl
          omega) (Nat.zero_le _)
      refine ⟨v', w', _, κ (xs ++ ys), by simp [execOp, resolve, invoke, builtin, hE _ _ hx, hE _ _ hy, g1], ?_, h1, k v'⟩
      refine hm.upd hi g3.os g3.tape g3.output g3.size (fun b hb hne => g3.block b hb (fun e => hne e.symm)) (fun b hb => ?_) ?_
      · have hb' : v'.ownBlock = some b := hb
        have hlt := (g2.lt b hb').2
        refine ⟨hlt, ?_⟩
        rcases g5 with g5 | g5
        · left; show v.ownBlock = some b; rw [← g5]; exact hb'
        · right
          rw [hb'] at g5
          simp at g5
          omega
      · have hFz : ∀ b, fz G L w b → fz G (lset L i (ownCh El' e v' (xs ++ ys))) w' b := fun b hb => by
          refine ⟨by have := hb.1; have := g3.size; omega, hb.2.1, fun x hx => ?_⟩
          rcases mem_lset hi hm.disj hx with e' | ⟨e1, _⟩
          · subst e'
            intro hk
            have hk' : v'.ownBlock = some b := hk
            rcases g5 with g5 | g5
            · exact hb.2.2 _ (lget_mem hi) (show v.ownBlock = some b by rw [← g5]; exact hk')
            · rw [hk'] at g5; simp at g5; have := hb.1; omega
          · exact hb.2.2 x e1
        have hsame : ∀ b, fz G L w b → w'.heap[b]? = w.heap[b]? := fun b hb => g3.block b hb.1 (fun e' => hb.2.2 _ (lget_mem hi) e'.symm)
        refine ⟨css ++ dss, ?_, by rw [List.flatten_append, List.length_append, hes]; exact g2⟩
        refine Rows.append (hr.keep hFz hsame) ?_
        exact hrd.keep hFz hsame
    · have hrun : (Builtin.append_ #[T, T] ty #[v, .slice none 0 cap]).run P w = .ok v w := by
        rcases how.2 with ⟨rfl, hn0⟩ | ⟨g, cap', cur, rfl, _, _, hnc, _⟩
        · simp [Builtin.append_, run_underlying hu, sizeOf, typeInfo, hinf, Builtin.lenOf, Builtin.firstCells]
        · simp [Builtin.append_, run_underlying hu, sizeOf, typeInfo, hinf, Builtin.lenOf, Builtin.firstCells, hnc, storeCells]
      have hid : ∀ {L : List Ch} {i : Nat} {c : Ch}, lget L i = some c → lset L i c = L := by
        intro L
        induction L with
        | nil => intro i c h; rfl
        | cons d r ih => intro i c h; cases i with
          | zero => simp [lget] at h; subst h; rfl
          | succ i => simp [lget] at h; simp [lset, ih h]
      refine ⟨v, w, L, κ xs, by simp [execOp, resolve, invoke, builtin, hE _ _ hx, hE _ _ hy, hrun], hm, by simpa using h1, ?_⟩
      have := k v
      rw [List.append_nil, hid hi] at this
      exact this
end
end Go.Proofs.YtnogaeckmiekdaaDoor
