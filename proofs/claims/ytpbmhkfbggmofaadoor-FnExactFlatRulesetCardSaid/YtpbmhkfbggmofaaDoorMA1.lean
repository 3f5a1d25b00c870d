/- Texts of this seat, put together. -/
import Derived.Test.YtpbmhkfbggmofaaDoorMA0
import Derived.MapKept
import Derived.Laws.BytesString
import Derived.Laws.Cells
set_option linter.unusedSimpArgs false
set_option linter.unusedVariables false
set_option linter.unusedSectionVars false
namespace Go.Proofs.YtpbmhkfbggmofaaDoor
section

open Go.RowKit

def arrB (P : Program) (T : TypeId) : Option (Nat × TypeId × Bool × Nat) :=
  match P.underlying T with
  | some (.array len e) => match tyB P e with
    | some (r, s) => some (len, e, r, s)
    | none => none
  | _ => none
section
variable {P : Program} {n : Nat} {G D : Nat → Prop} {w0 : World} {Q : Exit → Act → World → Prop} {R : Act → World → Prop} {E : Env} {L : List Ch} {φ : Prop}
variable {d : Tmp} {ty : TypeId} {pos : String} {aft : Array Edge} {gd : Option (Nat × Bool)} {Tk : Act → World → Prop} {Lr : List Ch} {x y : Operand} {T T' S : TypeId}

theorem arr_of {len : Nat} {e : TypeId} {row : Bool} {sz : Nat} (h : arrB P T = some (len, e, row, sz)) : P.underlying T = some (.array len e) ∧ tyB P e = some (row, sz) := by
  unfold arrB at h
  split at h
  · rename_i l e' hu
    split at h
    · rename_i r s ht
      simp at h
      obtain ⟨rfl, rfl, rfl, rfl⟩ := h
      exact ⟨hu, ht⟩
    · simp at h
  · simp at h
theorem info_sz {row : Bool} {sz : Nat} (hT : tyB P T = some (row, sz)) : ∃ i, P.info? T = some i ∧ i.size = sz := by
  have := info_of hT
  cases hq : P.info? T with
  | none => simp [hq] at this
  | some i => exact ⟨i, rfl, by simpa [hq] using this⟩
theorem run_partv {w : World} {row : Bool} {sz o : Nat} {cs : List Value} {v : Value} (hT : tyB P T = some (row, sz)) (hv : ldv row o sz cs = some v) : (part T cs.toArray o).run P w = .ok v w := by
  obtain ⟨i, hq, hi⟩ := info_sz hT
  unfold tyB at hT
  cases row with
  | true =>
    simp only [ldv] at hv
    cases hl : Nat.beq ((cs.drop o).take sz).length sz with
    | false => rw [hl] at hv; simp at hv
    | true =>
      rw [hl] at hv
      simp only [cond_true, Option.some.injEq] at hv
      have ha : (isAgg T).run P w = .ok true w := by
        unfold isAgg
        split at hT
        · rename_i hu' _; simp [Sem.run_bind, run_underlying hu' w]
        · rename_i hu' _; simp [Sem.run_bind, run_underlying hu' w]
        · simp at hT
        · simp at hT
      subst hv
      simp [part, ha, sizeOf, typeInfo, hq, hi, List.extract_eq_take_drop]
  | false =>
    simp only [ldv] at hv
    cases hl : Nat.beq sz 1 with
    | false => rw [hl] at hv; simp at hv
    | true =>
      rw [hl] at hv
      simp only [cond_true] at hv
      have ha : (isAgg T).run P w = .ok false w := by
        unfold isAgg
        split at hT
        · simp at hT
        · simp at hT
        · rename_i d i hns hna hu' hi'; rw [Sem.run_bind, run_underlying hu' w]; cases d <;> simp_all
        · simp at hT
      simp [part, ha, hv]
/-- an element of an array in memory -/
theorem o_ixa (M : Mode P n G D w0 E ⟨some d, .indexAddr T x y, ty, pos, aft, gd⟩ Tk R Lr L) {α : Type} {El' : El α} {b o cap : Nat} {xs : List α} {c : Ch} {I : Int} {κ : α → Prop} {len e sz : Nat} {row : Bool} (i : Nat) (hi : lget Lr i = some c) (hc : Reads c El' (.slice (some ⟨b, o, none⟩) len cap) xs) (hx : oev E x = some (.pointer (some ⟨b, o, none⟩))) (hy : oev E y = some (.int .i64 I)) (hd : Nat.blt d n = true)
    (hT : arrB P T = some (len, e, row, sz)) (k : ∀ z, xs[I.toNat]? = some z → Nx n G D w0 R ((d, pEl (.slice (some ⟨b, o, none⟩) len cap) I sz 0) :: E) L (κ z)) :
    Nx n G D w0 Tk E L (idxW xs I κ) :=
  M.val (v := pEl (.slice (some ⟨b, o, none⟩) len cap) I sz 0) (ψ := idxW xs I κ) hd rfl (fun ρ w hE hm hφ => by
    obtain ⟨z, h0, h1, h2⟩ := hφ
    obtain ⟨a', cap', he, _⟩ := hc _ _ (hm.get hi)
    have hln : xs.length = len := by simp at he; exact he.2.1.symm
    have hlt := (List.getElem?_eq_some_iff.1 h1).1
    obtain ⟨hu', ht⟩ := arr_of hT
    obtain ⟨i, hq, hi⟩ := info_sz ht
    have h5 : I < len := by omega
    rw [pEl_slice]
    simp [execOp, hE _ _ hx, hE _ _ hy, Instr.indexAt, Instr.sureAddr, asIntOf, run_underlying hu', sizeOf, typeInfo, hq, hi, h0, h5, Addr.add_mid]) id (fun a w hE hm ⟨z, _, h1, h2⟩ => k z h1 a w hE hm h2)
/-! arrays are built -/
end

end
section

open Go.RowKit

section
variable {K : Type} [DecidableEq K]
end
abbrev ent {K : Type} (enc : K → List Value) (p : K × Int) : Value × Value := (.agg (enc p.1).toArray, .int .i64 p.2)
abbrev kv (e : MapEntry) : Value × Value := (e.key, e.val)
/-- the value reads as this map -/
def Mp {K : Type} (enc : K → List Value) (F : Nat → Prop) (w : World) (v : Value) (m : List (K × Int)) : Prop :=
  (v = .map none ∧ m = []) ∨ ∃ b es clock, v = .map (some b) ∧ F b ∧ w.heap[b]? = some (.map es clock) ∧ es.toList.map kv = m.map (ent enc)
theorem Mp.keep {K : Type} {enc : K → List Value} {F F' : Nat → Prop} {w w' : World} {v : Value} {m : List (K × Int)} (h : Mp enc F w v m) (hF : ∀ b, F b → F' b) (hb : ∀ b, F b → w'.heap[b]? = w.heap[b]?) : Mp enc F' w' v m := by
  rcases h with h | ⟨b, es, cl, h1, h2, h3, h4⟩
  · exact .inl h
  · exact .inr ⟨b, es, cl, h1, hF b h2, (hb b h2).trans h3, h4⟩
theorem Mp.nil {K : Type} (enc : K → List Value) (F : Nat → Prop) (w : World) : Mp enc F w (.map none) [] := .inl ⟨rfl, rfl⟩
def MReads {K : Type} (c : Ch) (enc : K → List Value) (v : Value) (m : List (K × Int)) : Prop := ∀ F w, c.holds F w → Mp enc (fun b => F b ∨ c.foot b) w v m
section
variable {K : Type} {enc : K → List Value} {G D : Nat → Prop} {w0 w : World} {v : Value} {xs : List (K × Int)} {c : Ch} {L : List Ch}
theorem Mem.mrdM {M0 L' : List Ch} (m : Mem G D w0 (M0 ++ L') w) (i : Nat) (hi : lget L' i = some c) (hc : MReads c enc v xs) : Mp enc (fun b => b < w.heap.size ∧ ¬ feet M0 b) w v xs := by
  have hmem : c ∈ M0 ++ L' := List.mem_append.2 (.inr (lget_mem hi))
  refine (hc _ _ (m.hold c hmem)).keep (fun b hb => ?_) (fun _ _ => rfl)
  rcases hb with hb | hb
  · exact ⟨hb.1, fun ⟨d, hd, h⟩ => hb.2.2 d (List.mem_append.2 (.inl hd)) h⟩
  · exact ⟨(m.range c hmem b hb).1, fun ⟨d, hd, h⟩ => (List.pairwise_append.1 m.disj).2.2 d hd c (lget_mem hi) b h hb⟩
theorem Mem.mrd0 (m : Mem G D w0 L w) (i : Nat) (hi : lget L i = some c) (hc : MReads c enc v xs) : Mp enc (fun b => b < w.heap.size ∧ ¬ feet [] b) w v xs :=
  Mem.mrdM (M0 := []) m i hi hc
end

section
variable {P : Program} {n : Nat} {G D : Nat → Prop} {w0 : World} {Q : Exit → Act → World → Prop} {R : Act → World → Prop} {E : Env} {L : List Ch} {φ : Prop}
variable {d : Tmp} {ty : TypeId} {pos : String} {aft : Array Edge} {gd : Option (Nat × Bool)} {Tk : Act → World → Prop} {Lr : List Ch} {x y z : Operand} {T T' S : TypeId}
variable {K : Type} [DecidableEq K] {enc : K → List Value}

/-! the end of a function with four results -/
end

end
section

open Go.RowKit

/-! the pure side -/
section
variable {P : Program} {n : Nat} {G D : Nat → Prop} {w0 : World} {Q : Exit → Act → World → Prop} {R : Act → World → Prop} {E : Env} {L : List Ch} {φ : Prop}
variable {d : Tmp} {ty : TypeId} {pos : String} {aft : Array Edge} {gd : Option (Nat × Bool)} {Tk : Act → World → Prop} {Lr : List Ch} {x y : Operand} {T T' S : TypeId}

/-! one of two conditions -/
/-! a byte of an int -/
/-! bit operations, as values -/
/-! bytes to a string -/
end

end
section

open Go.RowKit

/-- what stood still when it was taken: F0 of the world wr -/
def snapCh (wr : World) (F0 : Nat → Prop) : Ch where
  foot := fun _ => False
  holds := fun F w => (∀ b, F0 b → F b) ∧ ∀ b, F0 b → w.heap[b]? = wr.heap[b]?
  keep := fun F F' w w' hF hb h => ⟨fun b hb0 => hF b (h.1 b hb0), fun b hb0 => (hb b (.inl (h.1 b hb0))).trans (h.2 b hb0)⟩
/-- a slice as an element -/
def elSl {α : Type} (E : El α) : El (List α) where
  size := 1
  cells := fun F w x cs => ∃ v, cs = [v] ∧ Sl E F w v x
  pos := by decide
  len := fun F w x cs ⟨v, h, _⟩ => by rw [h]; rfl
  one := fun F w x cs ⟨v, h, a, cap, hv, _⟩ u hu => by
    subst h
    simp only [List.mem_cons, List.not_mem_nil, or_false] at hu
    subst hu hv
    rfl
  keep := fun F F' w w' x cs hF hb ⟨v, h, hs⟩ => ⟨v, h, hs.keep hF hb⟩
theorem Sl.one {α : Type} {E : El α} {F : Nat → Prop} {w : World} {v : Value} {xs : List α} (h : Sl E F w v xs) : v.oneCell' = true := by
  obtain ⟨a, cap, rfl, _⟩ := h
  rfl
/-- the row of element I lies there and stands still -/
def RowAt (wr : World) (F0 : Nat → Prop) (v : Value) (I : Int) (sz : Nat) (cs : List Value) : Prop := ∃ b off l c, v = .slice (some ⟨b, off, none⟩) l c ∧ F0 b ∧ wr.rangeAt b (off + I.toNat * sz) cs

section
variable {α : Type} {E' : El α} {wr w : World} {F0 F : Nat → Prop} {v : Value} {xs : List α} {G D : Nat → Prop} {w0 : World} {L : List Ch}
theorem sl_open (S : Sl E' F0 wr v xs) {I : Int} {z : α} (hz : xs[I.toNat]? = some z) : ∃ cs, E'.cells F0 wr z cs ∧ RowAt wr F0 v I E'.size cs := by
  obtain ⟨a, cap, rfl, hc, hr⟩ := S
  obtain ⟨b, off, rfl, hfb, hx⟩ := hr (by have := (List.getElem?_eq_some_iff.1 hz).1; omega)
  obtain ⟨cs, h1, h2⟩ := hx _ z hz
  exact ⟨cs, h1, b, off, _, cap, rfl, hfb, h2⟩
theorem reads_snap (S : Sl E' F0 wr v xs) : Reads (snapCh wr F0) E' v xs := fun F w h => S.keep (fun b hb => .inl (h.1 b hb)) h.2
theorem Sl.of (S : Sl E' F0 wr v xs) (h : (snapCh wr F0).holds F w) : Sl E' F w v xs := S.keep h.1 h.2
theorem Mem.roS (m : Mem G D w0 L w) (i : Nat) (hi : lget L i = some (snapCh wr F0)) (S : Sl E' F0 wr v xs) : Sl E' (fz G L w) w v xs := S.of (m.get hi)
/-- a slice that stands still as a chunk of its own -/
theorem Mem.snote (m : Mem G D w0 L w) (i : Nat) (hi : lget L i = some (snapCh wr F0)) (S : Sl E' F0 wr v xs) : Mem G D w0 (roCh E' v xs :: L) w := m.note (fun b hb => hb) (m.roS i hi S)

/-- nothing hangs on memory: whatever may be read will do -/
theorem src_flat {enc : α → List Value} {c : Ch} (hfl : Flat E' enc) (h : Reads c E' v xs) : Src c E' v xs := fun F w hc => by
  obtain ⟨a, cap, h1, h2, h3⟩ := h F w hc
  refine ⟨a, cap, h1, h2, fun h0 => ?_⟩
  obtain ⟨b, off, k1, k2, k3⟩ := h3 h0
  exact ⟨b, off, k1, k2, fun i x hi => by
    obtain ⟨cs, c1, c2⟩ := k3 i x hi
    exact ⟨cs, hfl.free _ _ _ _ _ _ c1, c2⟩⟩
end

section
variable {P : Program} {n : Nat} {G D : Nat → Prop} {w0 : World} {Q : Exit → Act → World → Prop} {R : Act → World → Prop} {E : Env} {L : List Ch} {φ : Prop}
variable {d : Tmp} {ty : TypeId} {pos : String} {aft : Array Edge} {gd : Option (Nat × Bool)} {Tk : Act → World → Prop} {Lr : List Ch} {x y : Operand} {T T' S : TypeId} {e sz by' : Nat}

/-- a slice that stands still as a chunk of its own -/
theorem nx_note {α : Type} {E' : El α} {wr : World} {F0 : Nat → Prop} {v : Value} {xs : List α} (i : Nat) (hi : lget L i = some (snapCh wr F0)) (S : Sl E' F0 wr v xs) (h : Nx n G D w0 R E (roCh E' v xs :: L) φ) : Nx n G D w0 R E L φ := fun a w hE hm hφ => h a w hE (hm.snote i hi S) hφ
/-- what stands still in the row of element I is loaded -/
theorem o_ldR (M : Mode P n G D w0 E ⟨some d, .load T x, ty, pos, aft, gd⟩ Tk R Lr L) {wr : World} {F0 : Nat → Prop} {v : Value} {I : Int} {o fs : Nat} {cs : List Value} {row : Bool} {u : Value} (i : Nat) (hi : lget Lr i = some (snapCh wr F0)) (hr : RowAt wr F0 v I sz cs)
    (hx : oev E x = some (pEl v I sz o)) (hd : Nat.blt d n = true) (hT : tyB P T = some (row, fs)) (hu : ldv row o fs cs = some u) (k : Nx n G D w0 R ((d, u) :: E) L φ) : Nx n G D w0 Tk E L φ :=
  M.val hd rfl (fun ρ w hE hm _ => by
    obtain ⟨b, off, l, c, rfl, hb, hc⟩ := hr
    have h : (snapCh wr F0).holds _ w := hm.get hi
    have hc' : w.rangeAt b (off + I.toNat * sz) cs := rangeAt_keep hc (h.2 b hb)
    have := run_ldv (P := P) hT hc' hu
    rw [pEl_slice] at hx
    simp [execOp, hE _ _ hx, this]) id k
/-- from an element of a slice: its cells now -/
theorem o_ldE {α : Type} {E' : El α} {v : Value} {xs : List α} {c : Ch} {I : Int} {z : α} {o fs : Nat} {row : Bool} (i : Nat) (hi : lget L i = some c) (hc : Src c E' v xs) (hz : xs[I.toNat]? = some z) (hx : oev E x = some (pEl v I E'.size o)) (hd : Nat.blt d n = true) (hT : tyB P T = some (row, fs))
    (k : ∀ wr F0 cs, E'.cells F0 wr z cs → ∃ u, ldv row o fs cs = some u ∧ Nx n G D w0 R ((d, u) :: E) (snapCh wr F0 :: L) φ) : Nx n G D w0 (fun a w => Oper.wp P ⟨some d, .load T x, ty, pos, aft, gd⟩ a w R Q) E L φ :=
  o_gen hd rfl fun ρ w hE hm hφ => by
    obtain ⟨b, off, cap, cs, rfl, _, hcs, hr⟩ := (hc _ _ (hm.get hi)).at hz
    obtain ⟨u, hu, hk⟩ := k w (fz G L w) cs hcs
    have := run_ldv (P := P) hT hr hu
    rw [pEl_slice] at hx
    exact ⟨u, w, snapCh w (fz G L w) :: L, φ, by simp [execOp, hE _ _ hx, this], hm.note (fun b hb => hb) ⟨fun b hb => hb, fun _ _ => rfl⟩, hφ, hk⟩

theorem bsl_run {len : Nat} {qs : List (Nat × Value)} {zs cells : List Value} {w : World} (hT : elB P T = some (e, sz, by')) (hzr : zeroB P e = some zs) (hp0 : 0 < sz) (hlen : Nat.ble (len * sz) 16777216 = true)
    (hzl : Nat.beq zs.length sz = true) (hfill' : lfill (fun i => some (i * sz, sz)) (List.replicate len zs).flatten qs = some cells) : (Instr.buildSlice T len qs.toArray).run P w = .ok (.slice (some ⟨w.heap.size, 0, none⟩) len len) (w.alloc (.cells cells.toArray e)) := by
  obtain ⟨hu, i, hi, rfl, rfl⟩ := elB_spec hT
  obtain ⟨z', hz', hzc⟩ := zeroB_spec hzr hi
  have hle := Nat.le_of_ble_eq_true hlen
  have hzl' := Nat.eq_of_beq_eq_true hzl
  have hmade : (Array.range (len * i.size)).map (zs.toArray[· % zs.toArray.size]!) = (List.replicate len zs).flatten.toArray := by
    have := madeCells_flatten zs len (by omega)
    rw [hzl'] at this
    unfold madeCells at this
    rw [← this]
  have hfill0 := fill_of _ _ _ _ hfill'
  have hfill : Instr.fill (fun j => some (j * i.size, i.size)) ((Array.range (len * i.size)).map ((if len * i.size = 0 then #[] else zs.toArray)[· % (if len * i.size = 0 then #[] else zs.toArray).size]!)) qs = some cells.toArray := by
    by_cases h0 : len * i.size = 0
    · have hl0 : len = 0 := by
        rcases Nat.mul_eq_zero.1 h0 with h | h
        · exact h
        · omega
      subst hl0
      simpa [Array.range_zero'] using hfill0
    · simp only [h0, if_false]
      rw [hmade]
      exact hfill0
  have hn : ¬ (16777216 < len * i.size) := by omega
  simp only [Instr.buildSlice, Sem.run_bind, run_underlying hu, Result.andThen_ok]
  by_cases h0 : len * i.size = 0
  · simp [h0] at hfill
    simp [sizeOf, typeInfo, hi, h0, newRow, hfill]
  · simp [h0] at hfill
    simp [sizeOf, typeInfo, hi, h0, hn, zeroValue, hz', hzc, newRow, hfill]
/-- an array in memory that is written at places which are not known ahead -/
theorem o_allocA {α : Type} {El' : El α} {z : α} {len : Nat} {cs zs : List Value} (hz : ∀ F w, El'.cells F w z zs) (hd : Nat.blt d n = true) (hzr : zeroB P T = some cs) (hcs : (List.replicate len zs).flatten = cs) (hlen : Nat.ble len 65536 = true)
    (k : ∀ b, Nx n G D w0 R ((d, .pointer (some ⟨b, 0, none⟩)) :: E) (ownCh El' T (.slice (some ⟨b, 0, none⟩) len len) (List.replicate len z) :: L) φ) :
    Nx n G D w0 (fun a w => Oper.wp P ⟨some d, .alloc T, ty, pos, aft, gd⟩ a w R Q) E L φ :=
  o_gen hd rfl fun ρ w hE hm hφ => by
    unfold zeroB at hzr
    cases hi : P.info? T with
    | none => simp [hi] at hzr
    | some i =>
      cases hz' : i.zero with
      | none => simp [hi, hz'] at hzr
      | some zv =>
        simp [hi, hz'] at hzr
        have hlz : zs.length = El'.size := El'.len _ _ _ _ (hz (fun _ => True) w)
        refine ⟨_, w.alloc (.cells cs.toArray T), _, φ, by simp [execOp, Instr.alloc, zeroValue, typeInfo, hi, hz', newVar, newRow, ← hzr], ?_, hφ, k w.heap.size⟩
        refine hm.add _ ((Below.refl _ _).alloc (Nat.le_refl _) _) (fun b hb => by simp [ownCh, Value.ownBlock] at hb; rw [World.size_alloc]; omega) ?_
        have hle := Nat.le_of_ble_eq_true hlen
        have hown := own_new (El' := El') (F := fz G (ownCh El' T (.slice (some ⟨w.heap.size, 0, none⟩) len len) (List.replicate len z) :: L) (w.alloc (.cells cs.toArray T))) (w := w.alloc (.cells cs.toArray T)) (ty := T) (b := w.heap.size) (cap := len)
          (Rows.replicate (hz _ _) len) (heap_alloc_new w _) (by simp) (by unfold maxLen; omega) (by rw [← hcs]; simp [hlz]) (by
            rw [← hcs, List.length_replicate, List.take_of_length_le (by simp [hlz])])
        rw [List.length_replicate] at hown
        exact hown
end

end
section

open Go.RowKit

/-- elements that own the blocks B -/
structure DEl (α : Type) where
  el : El α
  own : List Nat → World → α → List Value → Prop
  read : ∀ B w x cs, own B w x cs → el.cells (fun b => b ∈ B) w x cs
  keep : ∀ B w w' x cs, (∀ b, b ∈ B → w'.heap[b]? = w.heap[b]?) → own B w x cs → own B w' x cs
  lt : ∀ B w x cs, own B w x cs → ∀ b, b ∈ B → b < w.heap.size
def blkL (v : Value) : List Nat := v.ownBlock.toList
theorem mem_blkL {v : Value} {b : Nat} : b ∈ blkL v ↔ v.ownBlock = some b := by simp [blkL]
structure DRows {α : Type} (E : DEl α) (w : World) (xs : List α) (css : List (List Value)) (Bs : List (List Nat)) : Prop where
  lc : css.length = xs.length
  lb : Bs.length = xs.length
  own : ∀ (i : Nat) x cs B, xs[i]? = some x → css[i]? = some cs → Bs[i]? = some B → E.own B w x cs
def Dp {α : Type} (E : DEl α) (ty : TypeId) (B : List Nat) (w : World) (v : Value) (xs : List α) : Prop :=
  ∃ css Bs, DRows E w xs css Bs ∧ w.ownsRow 0 ty E.el.size v xs.length css.flatten ∧ B.Perm (blkL v ++ Bs.flatten)

section
variable {α : Type} {E : DEl α} {w w' : World} {xs ys : List α} {css dss : List (List Value)} {Bs Cs : List (List Nat)} {ty : TypeId} {B : List Nat} {v : Value}
theorem DRows.mem (h : DRows E w xs css Bs) {b : Nat} (hb : b ∈ Bs.flatten) : ∃ (i : Nat) (x : α) (cs : List Value) (B : List Nat), xs[i]? = some x ∧ css[i]? = some cs ∧ Bs[i]? = some B ∧ b ∈ B ∧ E.own B w x cs := by
  obtain ⟨C, hC, hbC⟩ := List.mem_flatten.1 hb
  obtain ⟨i, hi, e⟩ := List.getElem_of_mem hC
  have h1 : i < xs.length := by rw [← h.lb]; exact hi
  have h2 : i < css.length := by rw [h.lc]; exact h1
  refine ⟨i, xs[i], css[i], C, List.getElem?_eq_getElem h1, List.getElem?_eq_getElem h2, by rw [List.getElem?_eq_getElem hi, e], hbC, ?_⟩
  exact h.own i _ _ _ (List.getElem?_eq_getElem h1) (List.getElem?_eq_getElem h2) (by rw [List.getElem?_eq_getElem hi, e])
theorem DRows.lt (h : DRows E w xs css Bs) : ∀ b, b ∈ Bs.flatten → b < w.heap.size := fun b hb => by
  obtain ⟨i, x, cs, C, _, _, _, hbC, ho⟩ := h.mem hb
  exact E.lt _ _ _ _ ho b hbC
theorem DRows.keep (h : DRows E w xs css Bs) (hk : ∀ b, b ∈ Bs.flatten → w'.heap[b]? = w.heap[b]?) : DRows E w' xs css Bs :=
  ⟨h.lc, h.lb, fun i x cs C h1 h2 h3 => E.keep _ _ _ _ _ (fun b hb => hk b (List.mem_flatten.2 ⟨C, List.mem_of_getElem? h3, hb⟩)) (h.own i x cs C h1 h2 h3)⟩
theorem DRows.nil : DRows E w [] [] [] := ⟨rfl, rfl, fun i x cs C h => by simp at h⟩
theorem DRows.one {x : α} {cs : List Value} {C : List Nat} (h : E.own C w x cs) : DRows E w [x] [cs] [C] := ⟨rfl, rfl, fun i y ds D h1 h2 h3 => by
  cases i with
  | zero => simp at h1 h2 h3; subst h1 h2 h3; exact h
  | succ i => simp at h1⟩
theorem DRows.append (h : DRows E w xs css Bs) (k : DRows E w ys dss Cs) : DRows E w (xs ++ ys) (css ++ dss) (Bs ++ Cs) :=
  ⟨by simp [h.lc, k.lc], by simp [h.lb, k.lb], fun i x cs C h1 h2 h3 => by
    have e1 := h.lc
    have e2 := h.lb
    by_cases hi : i < xs.length
    · rw [List.getElem?_append_left (by omega)] at h1 h2 h3
      exact h.own i x cs C h1 h2 h3
    · rw [List.getElem?_append_right (by omega)] at h1 h2 h3
      rw [e1] at h2
      rw [e2] at h3
      exact k.own _ x cs C h1 h2 h3⟩
theorem DRows.replicate {z : α} {zs : List Value} (h : E.own [] w z zs) (n : Nat) : DRows E w (List.replicate n z) (List.replicate n zs) (List.replicate n []) :=
  ⟨by simp, by simp, fun i x cs C h1 h2 h3 => by
    rw [List.getElem?_replicate] at h1 h2 h3
    split at h1
    · rename_i hi
      rw [if_pos hi] at h2 h3
      cases h1; cases h2; cases h3
      exact h
    · cases h1⟩
theorem DRows.set (h : DRows E w xs css Bs) (I : Nat) {y : α} {ds : List Value} {C : List Nat} (hy : E.own C w y ds) : DRows E w (xs.set I y) (css.set I ds) (Bs.set I C) :=
  ⟨by simp [h.lc], by simp [h.lb], fun i x cs D h1 h2 h3 => by
    rw [List.getElem?_set] at h1 h2 h3
    by_cases e : I = i
    · subst e
      simp only [if_true] at h1 h2 h3
      split at h1
      · rename_i hl
        rw [h.lc, if_pos hl] at h2
        rw [h.lb, if_pos hl] at h3
        cases h1; cases h2; cases h3
        exact hy
      · cases h1
    · rw [if_neg e] at h1 h2 h3
      exact h.own i x cs D h1 h2 h3⟩
theorem rows_at : ∀ {xs : List α} {css : List (List Value)} {F : Nat → Prop} {E : El α}, css.length = xs.length → (∀ (i : Nat) x cs, xs[i]? = some x → css[i]? = some cs → E.cells F w x cs) → Rows E F w xs css
  | [], [], _, _, _, _ => trivial
  | x :: xs, cs :: css, _, _, hl, h => ⟨h 0 x cs rfl rfl, rows_at (by simpa using hl) (fun i y ds h1 h2 => h (i + 1) y ds (by simpa using h1) (by simpa using h2))⟩
  | [], _ :: _, _, _, hl, _ => by simp at hl
  | _ :: _, [], _, _, hl, _ => by simp at hl
theorem DRows.rows {F : Nat → Prop} (h : DRows E w xs css Bs) (hF : ∀ b, b ∈ Bs.flatten → F b) : Rows E.el F w xs css := rows_at h.lc (fun i x cs h1 h2 => by
  have hi := (List.getElem?_eq_some_iff.1 h1).1
  have h3 : Bs[i]? = some (Bs[i]'(by rw [h.lb]; exact hi)) := List.getElem?_eq_getElem _
  exact E.el.keep _ _ w w x cs (fun b hb => hF b (List.mem_flatten.2 ⟨_, List.mem_of_getElem? h3, hb⟩)) (fun _ _ => rfl) (E.read _ _ _ _ (h.own i x cs _ h1 h2 h3)))
theorem DRows.size (h : DRows E w xs css Bs) : ∀ cs ∈ css, cs.length = E.el.size := fun cs hc => by
  obtain ⟨i, hi, e⟩ := List.getElem_of_mem hc
  have h1 : i < xs.length := by rw [← h.lc]; exact hi
  have h3 : i < Bs.length := by rw [h.lb]; exact h1
  exact E.el.len _ _ _ _ (E.read _ _ _ _ (h.own i _ cs _ (List.getElem?_eq_getElem h1) (by rw [List.getElem?_eq_getElem hi, e]) (List.getElem?_eq_getElem h3)))
theorem Dp.own {F : Nat → Prop} (h : Dp E ty B w v xs) (hF : ∀ b, b ∈ B → F b) : Own E.el ty F w v xs := by
  obtain ⟨css, Bs, h1, h2, h3⟩ := h
  exact ⟨css, h1.rows (fun b hb => hF b (h3.symm.subset (List.mem_append.2 (.inr hb)))), h2⟩
theorem Dp.blk (h : Dp E ty B w v xs) : ∀ b, v.ownBlock = some b → b ∈ B := fun b hb => by
  obtain ⟨css, Bs, h1, h2, h3⟩ := h
  exact h3.symm.subset (List.mem_append.2 (.inl (mem_blkL.2 hb)))
theorem Dp.lt (h : Dp E ty B w v xs) : ∀ b, b ∈ B → b < w.heap.size := fun b hb => by
  obtain ⟨css, Bs, h1, h2, h3⟩ := h
  rcases List.mem_append.1 (h3.subset hb) with hb | hb
  · exact (h2.lt b (mem_blkL.1 hb)).2
  · exact h1.lt b hb
theorem Dp.keep (h : Dp E ty B w v xs) (hk : ∀ b, b ∈ B → w'.heap[b]? = w.heap[b]?) : Dp E ty B w' v xs := by
  obtain ⟨css, Bs, h1, h2, h3⟩ := h
  exact ⟨css, Bs, h1.keep (fun b hb => hk b (h3.symm.subset (List.mem_append.2 (.inr hb)))), ownsRow_keep h2 (fun b hb => hk b (h3.symm.subset (List.mem_append.2 (.inl (mem_blkL.2 hb))))), h3⟩
theorem Dp.nil : Dp E ty [] w (.slice none 0 0) [] := ⟨[], [], DRows.nil, World.ownsRow_nil .., by simp [blkL, Value.ownBlock]⟩
theorem Dp.sl (h : Dp E ty B w v xs) : Sl E.el (fun b => b ∈ B) w v xs := (h.own (F := fun b => b ∈ B) (fun b hb => hb)).sl (fun b hb => hb) (fun b hb => h.blk b hb)
end

/-! elements -/
def dflat {α : Type} (E : El α) (enc : α → List Value) (hfl : Flat E enc) : DEl α where
  el := E
  own := fun B w x cs => B = [] ∧ cs = enc x
  read := fun B w x cs h => (hfl _ _ _ _).2 h.2
  keep := fun B w w' x cs _ h => h
  lt := fun B w x cs h b hb => by rw [h.1] at hb; cases hb
def dSl {α : Type} (E : DEl α) (ty : TypeId) : DEl (List α) where
  el := elSl E.el
  own := fun B w xs cs => ∃ v, cs = [v] ∧ Dp E ty B w v xs
  read := fun B w x cs ⟨v, h1, h2⟩ => ⟨v, h1, h2.sl⟩
  keep := fun B w w' x cs hk ⟨v, h1, h2⟩ => ⟨v, h1, h2.keep hk⟩
  lt := fun B w x cs ⟨v, h1, h2⟩ => h2.lt

def dpCh {α : Type} (E : DEl α) (ty : TypeId) (B : List Nat) (v : Value) (xs : List α) : Ch where
  foot := fun b => b ∈ B
  holds := fun _ w => B.Nodup ∧ Dp E ty B w v xs
  keep := fun _ _ _ _ _ hb h => ⟨h.1, h.2.keep (fun b hb' => hb b (.inr hb'))⟩
theorem free_dp {α : Type} {E : DEl α} {ty : TypeId} {B : List Nat} {v : Value} {xs : List α} : (dpCh E ty B v xs).free := fun _ _ _ h => h
/-- but for what is inside of element I, whose cells are cs -/
structure HRows {α : Type} (E : DEl α) (w : World) (xs : List α) (css : List (List Value)) (Bs : List (List Nat)) (I : Nat) (cz : List Value) : Prop where
  lc : css.length = xs.length
  lb : Bs.length = xs.length
  own : ∀ (i : Nat) x cs B, i ≠ I → xs[i]? = some x → css[i]? = some cs → Bs[i]? = some B → E.own B w x cs
  here : css[I]? = some cz
  none : Bs[I]? = some []
  size : ∀ cs ∈ css, cs.length = E.el.size
theorem HRows.lt {α : Type} {E : DEl α} {w : World} {xs : List α} {css : List (List Value)} {Bs : List (List Nat)} {I : Nat} {cz : List Value} (h : HRows E w xs css Bs I cz) : ∀ b, b ∈ Bs.flatten → b < w.heap.size := fun b hb => by
  obtain ⟨C, hC, hbC⟩ := List.mem_flatten.1 hb
  obtain ⟨i, hi, e⟩ := List.getElem_of_mem hC
  have h1 : i < xs.length := by rw [← h.lb]; exact hi
  have h2 : i < css.length := by rw [h.lc]; exact h1
  have hC' : Bs[i]? = some C := by rw [List.getElem?_eq_getElem hi, e]
  by_cases hI : i = I
  · subst hI; rw [h.none] at hC'; cases hC'; cases hbC
  · exact E.lt _ _ _ _ (h.own i _ _ _ hI (List.getElem?_eq_getElem h1) (List.getElem?_eq_getElem h2) hC') b hbC
def holeCh {α : Type} (E : DEl α) (ty : TypeId) (B : List Nat) (v : Value) (xs : List α) (I : Nat) (cz : List Value) : Ch where
  foot := fun b => b ∈ B
  holds := fun _ w => B.Nodup ∧ ∃ css Bs, HRows E w xs css Bs I cz ∧ w.ownsRow 0 ty E.el.size v xs.length css.flatten ∧ B.Perm (blkL v ++ Bs.flatten)
  keep := fun _ _ w w' _ hb ⟨h0, css, Bs, h1, h2, h3⟩ => ⟨h0, css, Bs, ⟨h1.lc, h1.lb, fun i x cs C hne k1 k2 k3 => E.keep _ _ _ _ _ (fun b hb' => hb b (.inr (h3.symm.subset (List.mem_append.2 (.inr (List.mem_flatten.2 ⟨C, List.mem_of_getElem? k3, hb'⟩)))))) (h1.own i x cs C hne k1 k2 k3), h1.here, h1.none, h1.size⟩,
    ownsRow_keep h2 (fun b hb' => hb b (.inr (h3.symm.subset (List.mem_append.2 (.inl (mem_blkL.2 hb')))))), h3⟩

/-! lists of blocks -/
theorem perm_out : ∀ {Bs : List (List Nat)} {i : Nat} {B : List Nat}, Bs[i]? = some B → Bs.flatten.Perm (B ++ (Bs.set i []).flatten)
  | [], i, B, h => by simp at h
  | C :: Bs, 0, B, h => by simp at h; subst h; simp
  | C :: Bs, i + 1, B, h => by
    have ih := perm_out (Bs := Bs) (i := i) (B := B) (by simpa using h)
    simp only [List.flatten_cons, List.set_cons_succ]
    refine (List.Perm.append_left C ih).trans ?_
    rw [← List.append_assoc, ← List.append_assoc]
    exact List.Perm.append_right _ List.perm_append_comm
theorem perm_in {Bs : List (List Nat)} {i : Nat} (h : i < Bs.length) (C : List Nat) : (Bs.set i C).flatten.Perm (C ++ (Bs.set i []).flatten) := by
  have := perm_out (Bs := Bs.set i C) (i := i) (B := C) (by simp [h])
  rwa [List.set_set] at this
theorem set_same {α : Type} : ∀ {l : List α} {i : Nat} {x : α}, l[i]? = some x → l.set i x = l
  | [], i, x, h => by simp at h
  | a :: l, 0, x, h => by simp at h; subst h; rfl
  | a :: l, i + 1, x, h => by simp at h; simp [set_same h]
theorem nodup_of {A B C : List Nat} (h : (A ++ (B ++ C)).Nodup) (D : List Nat) (hD : D.Nodup) (hdis : ∀ b, b ∈ D → b ∉ A ++ C) : (A ++ (D ++ C)).Nodup := by
  simp only [List.nodup_append, List.mem_append] at h hdis ⊢
  obtain ⟨h1, ⟨h2, h3, h4⟩, h5⟩ := h
  refine ⟨h1, ⟨hD, h3, fun a ha b hb e => hdis a ha (.inr (e ▸ hb))⟩, fun a ha b hb e => ?_⟩
  rcases hb with hb | hb
  · exact hdis b hb (.inl (e ▸ ha))
  · exact h5 a ha b (.inr hb) e
theorem flat_len {css : List (List Value)} {z : Nat} (h : ∀ cs ∈ css, cs.length = z) : css.flatten.length = css.length * z := by
  induction css with
  | nil => simp
  | cons c r ih =>
    rw [List.flatten_cons, List.length_append, ih (fun cs hc => h cs (List.mem_cons_of_mem _ hc)), h c (List.mem_cons_self ..), List.length_cons, Nat.succ_mul]
    omega
/-- a store into row I -/
theorem ownsRow_store {w : World} {css : List (List Value)} {I o z n cap g : Nat} {e : TypeId} {cz us : List Value} (hl : ∀ cs ∈ css, cs.length = z) (hn : css.length = n) (h : w.ownsRow 0 e z (.slice (some ⟨g, 0, none⟩) n cap) n css.flatten) (hI : css[I]? = some cz) (hle : o + us.length ≤ z) :
    (w.setCells g (I * z + o) us).ownsRow 0 e z (.slice (some ⟨g, 0, none⟩) n cap) n (css.set I (lput cz o us)).flatten := by
  obtain ⟨h0, hown⟩ := h
  rcases hown with ⟨h, _⟩ | ⟨g', cap', cur, h, hg0, hg, hnc, hcm, hcs, htake⟩
  · cases h
  cases h
  have hlt := (List.getElem?_eq_some_iff.1 hI).1
  have hcz : css[I] = cz := (List.getElem?_eq_some_iff.1 hI).2
  have hb : w.heap[g]? = some (.cells cur.toList.toArray e (0, 0)) := by simpa using hg
  have hup := setCells_heap g e (0, 0) us (I * z + o) cur.toList w hb
  have hlz : cz.length = z := hl cz (List.mem_of_getElem? hI)
  have hsp : css = css.take I ++ cz :: css.drop (I + 1) := by rw [← hcz]; simp
  have hset : css.set I (lput cz o us) = css.take I ++ lput cz o us :: css.drop (I + 1) := by rw [List.set_eq_take_append_cons_drop, if_pos hlt]
  have hpl : (css.take I).flatten.length = I * z := by rw [flat_len (z := z) (fun cs hc => hl cs (List.mem_of_mem_take hc)), List.length_take]; congr 1; omega
  have hll : ∀ cs ∈ css.set I (lput cz o us), cs.length = z := fun cs hc => by
    rcases List.mem_or_eq_of_mem_set hc with h | h
    · exact hl cs h
    · rw [h, lput_length]; exact hlz
  have hfl : (css.set I (lput cz o us)).flatten.length = n * z := by rw [flat_len hll, List.length_set, hn]
  refine ⟨hfl, .inr ⟨g, cap, (lput cur.toList (I * z + o) us).toArray, rfl, hg0, hup, hnc, hcm, by simpa [lput_length] using hcs, ?_⟩⟩
  have hct : cur.toList = (css.take I).flatten ++ cz ++ ((css.drop (I + 1)).flatten ++ cur.toList.drop (n * z)) := by
    have e1 : css.flatten = (css.take I).flatten ++ cz ++ (css.drop (I + 1)).flatten := by
      conv => lhs; rw [hsp]
      simp
    rw [← List.append_assoc, ← e1, ← htake, List.take_append_drop]
  rw [hct, ← hpl, lput_append_mid _ _ _ _ _ (by omega), ← List.append_assoc, ← hfl]
  rw [show (css.set I (lput cz o us)).flatten = (css.take I).flatten ++ lput cz o us ++ (css.drop (I + 1)).flatten by rw [hset]; simp]
  exact List.take_left

section
variable {G D : Nat → Prop} {w0 w : World} {L : List Ch}
theorem Mem.repl {w' : World} {M0 N : List Ch} (m : Mem G D w0 (M0 ++ L) w) (hb : UpdD (feet M0) w w') (hf : ∀ c ∈ N, ∀ b, c.foot b → (w.heap.size ≤ b ∨ feet M0 b) ∧ b < w'.heap.size) (hd : N.Pairwise fun c d => ∀ b, c.foot b → ¬ d.foot b) (hh : ∀ c ∈ N, ∀ F, c.holds F w') : Mem G D w0 (N ++ L) w' :=
  m.call hb ⟨hf, hd, fun c hc => hh c hc _⟩
theorem updD_refl {M : List Ch} : UpdD (feet M) w w := ⟨rfl, rfl, rfl, Nat.le_refl _, fun _ _ _ => rfl⟩
theorem updD_set {M : List Ch} {g o : Nat} {us : List Value} (h : feet M g) : UpdD (feet M) w (w.setCells g o us) := by
  obtain ⟨s1, s2, s3⟩ := setCells_rest g us o w
  exact ⟨s1, s2, s3, by rw [setCells_size]; exact Nat.le_refl _, fun b _ hb => setCells_other g _ _ _ _ (fun e => hb (by rw [e]; exact h))⟩
end
/-- the chunk's slice with all that is inside -/
def Gives {α : Type} (c : Ch) (E : DEl α) (ty : TypeId) (v : Value) (xs : List α) : Prop := ∀ F w, c.holds F w → ∃ B : List Nat, B.Nodup ∧ Dp E ty B w v xs ∧ ∀ b, b ∈ B → c.foot b
theorem gives_dp {α : Type} {E : DEl α} {ty : TypeId} {B : List Nat} {v : Value} {xs : List α} : Gives (dpCh E ty B v xs) E ty v xs := fun F w h => ⟨B, h.1, h.2, fun _ hb => hb⟩
theorem drows_flat {α : Type} {E : El α} {enc : α → List Value} {hfl : Flat E enc} {F : Nat → Prop} {w : World} : ∀ {xs : List α} {css : List (List Value)}, Rows E F w xs css → DRows (dflat E enc hfl) w xs css (List.replicate xs.length []) := fun {xs css} h => by
  induction xs generalizing css with
  | nil => cases css with
    | nil => exact DRows.nil
    | cons _ _ => exact h.elim
  | cons x xs ih => cases css with
    | nil => exact h.elim
    | cons cs css =>
      have := (DRows.one (E := dflat E enc hfl) (w := w) (x := x) (cs := cs) (C := []) ⟨rfl, (hfl _ _ _ _).1 h.1⟩).append (ih h.2)
      simpa [List.replicate_succ] using this
theorem flatten_nils (n : Nat) : (List.replicate n ([] : List Nat)).flatten = [] := by induction n with
  | zero => rfl
  | succ n ih => rw [List.replicate_succ, List.flatten_cons, ih]; rfl
theorem nodup_blkL (v : Value) : (blkL v).Nodup := by
  unfold blkL
  cases v.ownBlock <;> simp
theorem gives_own {α : Type} {E : El α} {enc : α → List Value} (hfl : Flat E enc) {ty : TypeId} {v : Value} {xs : List α} : Gives (ownCh E ty v xs) (dflat E enc hfl) ty v xs := fun F w ⟨css, h1, h2⟩ =>
  ⟨blkL v, nodup_blkL v, ⟨css, _, drows_flat h1, h2, by rw [flatten_nils, List.append_nil]⟩, fun b hb => mem_blkL.1 hb⟩
theorem reads_dp {α : Type} {E : DEl α} {ty : TypeId} {B : List Nat} {v : Value} {xs : List α} : Reads (dpCh E ty B v xs) E.el v xs := fun F w h => h.2.sl.keep (fun b hb => .inr hb) (fun _ _ => rfl)
/-- what a new element is made of -/
def Absorb {α : Type} (M : List Ch) (E : DEl α) (y : α) (cs : List Value) : Prop := ∀ F w, (∀ c ∈ M, c.holds F w) → ∃ B : List Nat, B.Nodup ∧ E.own B w y cs ∧ ∀ b, b ∈ B → feet M b
theorem absorb_one {α β : Type} {c : Ch} {E : DEl α} {E1 : DEl β} {t1 : TypeId} {v : Value} {xs : List β} {y : α} {cs : List Value} (hg : Gives c E1 t1 v xs) (h : ∀ B w, Dp E1 t1 B w v xs → E.own B w y cs) : Absorb [c] E y cs := fun F w hc => by
  obtain ⟨B, h1, h2, h3⟩ := hg F w (hc c (List.mem_cons_self ..))
  exact ⟨B, h1, h B w h2, fun b hb => ⟨c, List.mem_cons_self .., h3 b hb⟩⟩
theorem holds_front {G D : Nat → Prop} {w0 w : World} {M L : List Ch} (m : Mem G D w0 (M ++ L) w) : ∀ c ∈ M, c.holds (fz G (M ++ L) w) w := fun c hc => m.hold c (List.mem_append.2 (.inl hc))

section
variable {P : Program} {n : Nat} {G D : Nat → Prop} {w0 : World} {Q : Exit → Act → World → Prop} {R : Act → World → Prop} {E : Env} {L M : List Ch} {φ : Prop}
variable {d : Tmp} {ty : TypeId} {pos : String} {aft : Array Edge} {gd : Option (Nat × Bool)} {Tk : Act → World → Prop} {Lr : List Ch} {x y : Operand} {T T' S : TypeId} {e sz by' : Nat}

/-- nil -/
theorem mem_dnil {α : Type} (E' : DEl α) (e : TypeId) {w : World} (m : Mem G D w0 L w) : Mem G D w0 (dpCh E' e [] (.slice none 0 0) [] :: L) w :=
  m.note (fun b hb => by cases hb) ⟨List.nodup_nil, Dp.nil⟩
theorem o_asd {α : Type} (E' : DEl α) (e : TypeId) (hx : oev E x = some (.slice none 0 0)) (hd : Nat.blt d n = true) (k : Nx n G D w0 R ((d, .slice none 0 0) :: E) (dpCh E' e [] (.slice none 0 0) [] :: L) φ) : Nx n G D w0 (fun a w => Oper.wp P ⟨some d, .assign x, ty, pos, aft, gd⟩ a w R Q) E L φ :=
  o_gen hd rfl fun ρ w hE hm hφ => ⟨_, w, _, φ, by simp [execOp, hE _ _ hx], mem_dnil E' e hm, hφ, k⟩
/-- what is inside stands still from now on -/
theorem Mem.undp {α : Type} {E' : DEl α} {e : TypeId} {B : List Nat} {v : Value} {xs : List α} {w : World} (m : Mem G D w0 L w) (i : Nat) (hi : lget L i = some (dpCh E' e B v xs)) : Mem G D w0 (lset L i (ownCh E'.el e v xs)) w := by
  obtain ⟨hnd, css, Bs, h1, h2, h3⟩ := m.get hi
  have hmem := lget_mem hi
  refine m.upd hi rfl rfl rfl (Nat.le_refl _) (fun _ _ _ => rfl) (fun b hb => ?_) ⟨css, h1.rows (fun b hb => ?_), h2⟩
  · have hb' : b ∈ B := h3.symm.subset (List.mem_append.2 (.inl (mem_blkL.2 hb)))
    exact ⟨(m.range _ hmem b hb').1, .inl hb'⟩
  · have hb' : b ∈ B := h3.symm.subset (List.mem_append.2 (.inr hb))
    refine ⟨(m.range _ hmem b hb').1, m.fresh b (m.range _ hmem b hb').2, fun d hd => ?_⟩
    rcases mem_lset hi m.disj hd with e' | ⟨e1, e2⟩
    · subst e'
      intro hk
      have := h3.nodup_iff.1 hnd
      rw [List.nodup_append] at this
      exact this.2.2 b (mem_blkL.2 hk) b hb rfl
    · exact fun h => e2 b h hb'
theorem nx_undp {α : Type} {E' : DEl α} {e : TypeId} {B : List Nat} {v : Value} {xs : List α} (i : Nat) (hi : lget L i = some (dpCh E' e B v xs)) (h : Nx n G D w0 R E (lset L i (ownCh E'.el e v xs)) φ) : Nx n G D w0 R E L φ := fun a w hE hm hφ => h a w hE (hm.undp i hi) hφ
/-- nothing is inside -/
theorem nx_flatdp {α : Type} {El' : El α} {enc : α → List Value} {hfl : Flat El' enc} {e : TypeId} {B : List Nat} {v : Value} {xs : List α} (i : Nat) (hi : lget L i = some (dpCh (dflat El' enc hfl) e B v xs)) (h : Nx n G D w0 R E (lset L i (ownCh El' e v xs)) φ) : Nx n G D w0 R E L φ := nx_undp i hi h

theorem nx_dp {α : Type} {E' : DEl α} {e : TypeId} {B : List Nat} {v : Value} {xs : List α} (i : Nat) (hi : lget L i = some (dpCh E' e B v xs)) (h : ∀ a l c, v = .slice a l c → Nx n G D w0 R E L φ) : Nx n G D w0 R E L φ := fun a w hE hm hφ => by
  obtain ⟨_, css, Bs, _, ⟨_, hv⟩, _⟩ := hm.get hi
  rcases hv with ⟨hv, _⟩ | ⟨g, cap, cur, hv, _⟩
  · exact h _ _ _ hv a w hE hm hφ
  · exact h _ _ _ hv a w hE hm hφ
theorem o_makeD {α : Type} {E' : DEl α} {z : α} {N M : Int} {κ : List α → Prop} {zs : List Value} (hz : ∀ w, E'.own [] w z zs) (hx : oev E x = some (.int .i64 N)) (hy : oev E y = some (.int .i64 M)) (hd : Nat.blt d n = true)
    (hT : elB P T = some (e, sz, by')) (hby : Nat.ble by' 32768 = true) (hzr : zeroB P e = some zs) (hes : E'.el.size = sz)
    (k : ∀ B v xs, Nx n G D w0 R ((d, v) :: E) (dpCh E' e B v xs :: L) (κ xs)) :
    Nx n G D w0 (fun a w => Oper.wp P ⟨some d, .makeSlice T x y, ty, pos, aft, gd⟩ a w R Q) E L (makeW z N M κ) :=
  o_gen hd rfl fun ρ w hE hm hφ => by
    obtain ⟨h0, h1, h2, h3⟩ := hφ
    obtain ⟨hu, i, hi, rfl, rfl⟩ := elB_spec hT
    obtain ⟨z', hz', hzc⟩ := zeroB_spec hzr hi
    unfold lenOk at h2
    have hbl := Nat.le_of_ble_eq_true hby
    obtain ⟨M', rfl⟩ := Int.eq_ofNat_of_zero_le (show 0 ≤ M by omega)
    have hb : (i.bytes : Int) * (M' : Int) ≤ 281474976710656 := by
      have h5 : i.bytes * M' ≤ 32768 * 4294967296 := Nat.mul_le_mul hbl (by simpa using h2)
      rw [← Int.natCast_mul]
      omega
    have hr := run_make (P := P) w T e i z' hu hi hz' .i64 .i64 N M' h0 h1 hb (by simp at h2; omega)
    have hlz : zs.length = E'.el.size := E'.el.len _ _ _ _ (E'.read _ _ _ _ (hz w))
    have hpos := E'.el.pos
    rw [hzc, ← hes, ← hlz] at hr
    rw [Int.toNat_natCast] at hr h2
    refine ⟨.slice (some ⟨w.heap.size, 0, none⟩) N.toNat M', w.alloc (.cells (madeCells zs.toArray (M' * zs.length)) e), _, κ (List.replicate N.toNat z), by simp [execOp, hE _ _ hx, hE _ _ hy, hr], ?_, h3, k [w.heap.size] _ _⟩
    refine hm.add _ ((Below.refl _ _).alloc (Nat.le_refl _) _) (fun b hb => by simp [dpCh] at hb; rw [World.size_alloc]; omega) ⟨by simp, ?_⟩

    have hr := DRows.replicate (E := E') (w := w.alloc (.cells (madeCells zs.toArray (M' * zs.length)) e)) (hz _) N.toNat
    refine ⟨_, _, hr, ?_, by rw [flatten_nils]; simp [blkL, Value.ownBlock]⟩
    rw [List.length_replicate]
    refine ⟨by simp [hlz], .inr ⟨w.heap.size, M', madeCells zs.toArray (M' * zs.length), rfl, Nat.zero_le _, heap_alloc_new w _, by omega, by unfold maxLen; omega, by rw [size_madeCells, hlz], ?_⟩⟩
    rw [madeCells_flatten _ _ (by omega), ← hlz]
    have : List.replicate M' zs = List.replicate N.toNat zs ++ List.replicate (M' - N.toNat) zs := by rw [List.replicate_append_replicate]; congr 1; omega
    rw [this, List.flatten_append, List.take_left' (by simp)]
/-- a literal of one element -/
theorem o_bslD {α : Type} {E' : DEl α} {ps : Array (Nat × Operand)} {qs : List (Nat × Value)} {zs cs : List Value} (y0 : α) (hc : Absorb M E' y0 cs)
    (hq : ∀ ρ : Operand → Value, (∀ x v, oev E x = some v → ρ x = v) → (ps.map fun (i, x) => (i, ρ x)) = qs.toArray) (hd : Nat.blt d n = true)
    (hT : elB P T = some (e, sz, by')) (hzr : zeroB P e = some zs) (hes : E'.el.size = sz) (hlen : Nat.ble (1 * sz) 16777216 = true)
    (hzl : Nat.beq zs.length sz = true) (hfill' : lfill (fun i => some (i * sz, sz)) (List.replicate 1 zs).flatten qs = some cs)
    (k : ∀ B v, Nx n G D w0 R ((d, v) :: E) (dpCh E' e B v [y0] :: L) φ) :
    Nx n G D w0 (fun a w => Oper.wp P ⟨some d, .buildSlice T 1 ps, ty, pos, aft, gd⟩ a w R Q) E (M ++ L) φ :=
  o_gen hd rfl fun ρ w hE hm hφ => by
    have hp := E'.el.pos
    have hrun := bsl_run (P := P) (w := w) (qs := qs) hT hzr (by omega) hlen hzl hfill'
    obtain ⟨B, b1, b2, b3⟩ := hc _ w (holds_front hm)
    have hlt := E'.lt _ _ _ _ b2
    have hl : cs.length = sz := by rw [← hes]; exact E'.el.len _ _ _ _ (E'.read _ _ _ _ b2)
    have hle := Nat.le_of_ble_eq_true hlen
    refine ⟨.slice (some ⟨w.heap.size, 0, none⟩) 1 1, w.alloc (.cells cs.toArray e), _, φ, by simp only [execOp, hq ρ hE, Sem.run_bind, hrun]; rfl, ?_, hφ, k (w.heap.size :: B) _⟩
    refine hm.repl (M0 := M) (N := [dpCh E' e (w.heap.size :: B) (.slice (some ⟨w.heap.size, 0, none⟩) 1 1) [y0]]) ⟨rfl, rfl, rfl, by rw [World.size_alloc]; omega, fun b hb _ => heap_alloc_old w _ hb⟩ (fun c hc b hb => ?_) (List.pairwise_singleton _ _) (fun c hc F => ?_)
    · simp only [List.mem_cons, List.not_mem_nil, or_false] at hc
      subst hc
      rcases List.mem_cons.1 hb with hb | hb
      · subst hb; exact ⟨.inl (Nat.le_refl _), by rw [World.size_alloc]; omega⟩
      · exact ⟨.inr (b3 b hb), by have := hlt b hb; rw [World.size_alloc]; omega⟩
    · simp only [List.mem_cons, List.not_mem_nil, or_false] at hc
      subst hc
      refine ⟨List.nodup_cons.2 ⟨fun h => by have := hlt _ h; omega, b1⟩, [cs], [B], DRows.one (E'.keep _ _ _ _ _ (fun b hb => heap_alloc_old w _ (hlt b hb)) b2), ⟨by simp [hl, hes], .inr ⟨w.heap.size, 1, cs.toArray, rfl, Nat.zero_le _, heap_alloc_new w _, Nat.le_refl _, by decide, by simp [hl, hes], by simp [List.take_of_length_le, hl, hes]⟩⟩, by simp [blkL, Value.ownBlock]⟩
/-- a literal without elements -/
theorem o_bslD0 {α : Type} {E' : DEl α} {qs : List (Nat × Value)} {zs : List Value} {ps : Array (Nat × Operand)}
    (hq : ∀ ρ : Operand → Value, (∀ x v, oev E x = some v → ρ x = v) → (ps.map fun (i, x) => (i, ρ x)) = qs.toArray) (hd : Nat.blt d n = true)
    (hT : elB P T = some (e, sz, by')) (hzr : zeroB P e = some zs) (hes : E'.el.size = sz) 
    (hzl : Nat.beq zs.length sz = true) (hfill' : lfill (fun i => some (i * sz, sz)) (List.replicate 0 zs).flatten qs = some [])
    (k : ∀ B v, Nx n G D w0 R ((d, v) :: E) (dpCh E' e B v [] :: L) φ) :
    Nx n G D w0 (fun a w => Oper.wp P ⟨some d, .buildSlice T 0 ps, ty, pos, aft, gd⟩ a w R Q) E L φ :=
  o_gen hd rfl fun ρ w hE hm hφ => by
    have hp := E'.el.pos
    have hrun := bsl_run (P := P) (w := w) (qs := qs) (len := 0) hT hzr (by omega) (by simp) hzl hfill'
    refine ⟨.slice (some ⟨w.heap.size, 0, none⟩) 0 0, w.alloc (.cells ([] : List Value).toArray e), _, φ, by simp only [execOp, hq ρ hE, Sem.run_bind, hrun]; rfl, ?_, hφ, k [w.heap.size] _⟩
    exact hm.add _ ((Below.refl _ _).alloc (Nat.le_refl _) _) (fun b hb => by simp [dpCh] at hb; rw [World.size_alloc]; omega) ⟨by simp, [], [], DRows.nil, ⟨by simp, .inr ⟨w.heap.size, 0, #[], rfl, Nat.zero_le _, heap_alloc_new w _, Nat.le_refl _, by decide, by simp, by simp⟩⟩, by simp [blkL, Value.ownBlock]⟩
/-- append, with all that is inside -/
theorem o_appD {α : Type} {E' : DEl α} {v u : Value} {xs ys : List α} {B C : List Nat} {κ : List α → Prop} {zs : List Value}
    (hx : oev E x = some v) (hy : oev E y = some u) (hd : Nat.blt d n = true) (hT : elB P T = some (e, sz, by')) (hby : Nat.ble by' 32768 = true) (hzr : zeroB P e = some zs) (hzl : zs.length = sz) (hes : E'.el.size = sz)
    (k : ∀ B' v', Nx n G D w0 R ((d, v') :: E) (dpCh E' e B' v' (xs ++ ys) :: L) (κ (xs ++ ys))) :
    Nx n G D w0 (fun a w => Oper.wp P ⟨some d, .call { callee := .builtin .append, args := #[x, y], argTypes := #[T, T] }, ty, pos, aft, gd⟩ a w R Q) E (dpCh E' e B v xs :: dpCh E' e C u ys :: L) (appW xs ys κ) :=
  o_gen hd rfl fun ρ w hE hm hφ => by
    obtain ⟨h0, h1⟩ := hφ
    obtain ⟨hu, inf, hinf, rfl, rfl⟩ := elB_spec hT
    obtain ⟨z', hz', hzc⟩ := zeroB_spec hzr hinf
    unfold lenOk at h0
    have hbl := Nat.le_of_ble_eq_true hby
    obtain ⟨bn, css, Bs, hr, how, hB⟩ := hm.hold _ (List.mem_cons_self ..)
    obtain ⟨cn, dss, Cs, hrd, hod, hC⟩ := hm.hold (dpCh E' e C u ys) (List.mem_cons_of_mem _ (List.mem_cons_self ..))
    have hdis : ∀ b, b ∈ B → b ∉ C := fun b hb => (List.pairwise_cons.1 hm.disj).1 _ (List.mem_cons_self ..) b hb
    have hBn := hB.nodup_iff.1 bn
    have hCn := hC.nodup_iff.1 cn
    rw [List.nodup_append] at hBn hCn
    have hinB : ∀ b, b ∈ Bs.flatten → b ∈ B := fun b hb => hB.symm.subset (List.mem_append.2 (.inr hb))
    have hinC : ∀ b, b ∈ Cs.flatten → b ∈ C := fun b hb => hC.symm.subset (List.mem_append.2 (.inr hb))
    have hvB : ∀ b, v.ownBlock = some b → b ∈ B := fun b hb => hB.symm.subset (List.mem_append.2 (.inl (mem_blkL.2 hb)))
    have hlB := hr.lt
    have hlC := hrd.lt
    have hone := (hrd.rows (F := fun _ => True) (fun _ _ => trivial)).one
    have hlen := (hrd.rows (F := fun _ => True) (fun _ _ => trivial)).length
    rw [hes] at hlen
    have hsrc : ∃ a cap, u = .slice a ys.length cap ∧ ((∃ ad, a = some ad ∧ ∀ j q, dss.flatten[j]? = some q → w.cell? (ad.add j) = some q) ∨ (ys = [] ∧ a = none)) := by
      rcases hod.2 with ⟨rfl, hn⟩ | ⟨g, cap, cur, rfl, _, hg, _, _, _, ht⟩
      · have : ys = [] := List.eq_nil_of_length_eq_zero hn
        subst this
        exact ⟨none, 0, rfl, .inr ⟨rfl, rfl⟩⟩
      · refine ⟨_, cap, rfl, .inl ⟨_, rfl, fun j q hq => ?_⟩⟩
        rw [Addr.add_mid, cell_of_row w g _ cur e (0, 0) hg]
        rw [← ht, List.getElem?_take] at hq
        split at hq
        · simpa using hq
        · cases hq
    obtain ⟨a, cap, rfl, hsrc⟩ := hsrc
    rcases hsrc with ⟨ad, rfl, hcell⟩ | ⟨rfl, rfl⟩
    · obtain ⟨v', w', g1, g2, g3, _, g5⟩ := run_append_own_at (P := P) w 0 T ty e inf z' inf.size inf.bytes hu hinf hz' rfl rfl (by rw [hzc]; simpa using hzl) (by rw [← hes]; exact E'.el.pos)
        v xs.length css.flatten (by rw [← hes]; exact how) ad ys.length cap dss.flatten hlen hcell hone (by unfold maxLen; omega) (by
          have := Nat.mul_le_mul h0 hbl
          omega) (Nat.zero_le _)
      have hv' : ∀ b, v'.ownBlock = some b → v.ownBlock = some b ∨ b = w.heap.size := fun b hb => by
        rcases g5 with g5 | g5
        · exact .inl (by rw [← g5]; exact hb)
        · right; rw [hb] at g5; simpa using g5
      have hkeepB : ∀ b, b ∈ Bs.flatten → w'.heap[b]? = w.heap[b]? := fun b hb => g3.block b (hlB b hb) (fun e' => hBn.2.2 b (mem_blkL.2 e'.symm) b hb rfl)
      have hkeepC : ∀ b, b ∈ Cs.flatten → w'.heap[b]? = w.heap[b]? := fun b hb => g3.block b (hlC b hb) (fun e' => hdis b (hvB b e'.symm) (hinC b hb))
      refine ⟨v', w', _, κ (xs ++ ys), by simp [execOp, resolve, invoke, builtin, hE _ _ hx, hE _ _ hy, g1], ?_, h1, k (blkL v' ++ (Bs ++ Cs).flatten) v'⟩
      refine hm.repl (M0 := [dpCh E' e B v xs, dpCh E' e C (.slice (some ad) ys.length cap) ys]) (N := [dpCh E' e (blkL v' ++ (Bs ++ Cs).flatten) v' (xs ++ ys)])
        ⟨g3.os, g3.tape, g3.output, g3.size, fun b hb hne => g3.block b hb (fun e' => hne ⟨_, List.mem_cons_self .., hvB b e'.symm⟩)⟩ (fun c hc b hb => ?_) (List.pairwise_singleton _ _) (fun c hc F => ?_)
      · simp only [List.mem_cons, List.not_mem_nil, or_false] at hc
        subst hc
        have hb' : b ∈ blkL v' ++ (Bs ++ Cs).flatten := hb
        rw [List.flatten_append] at hb'
        have hsz := g3.size
        rcases List.mem_append.1 hb' with hb' | hb'
        · have hlt := (g2.lt b (mem_blkL.1 hb')).2
          rcases hv' b (mem_blkL.1 hb') with h | h
          · exact ⟨.inr ⟨_, List.mem_cons_self .., hvB b h⟩, hlt⟩
          · exact ⟨.inl (by omega), hlt⟩
        · rcases List.mem_append.1 hb' with hb' | hb'
          · exact ⟨.inr ⟨_, List.mem_cons_self .., hinB b hb'⟩, by have := hlB b hb'; omega⟩
          · exact ⟨.inr ⟨_, List.mem_cons_of_mem _ (List.mem_cons_self ..), hinC b hb'⟩, by have := hlC b hb'; omega⟩
      · simp only [List.mem_cons, List.not_mem_nil, or_false] at hc
        subst hc
        refine ⟨?_, css ++ dss, Bs ++ Cs, (hr.keep hkeepB).append (hrd.keep hkeepC), by rw [List.flatten_append, List.length_append, hes]; exact g2, List.Perm.refl _⟩
        rw [List.flatten_append, List.nodup_append, List.nodup_append]
        refine ⟨nodup_blkL _, ⟨hBn.2.1, hCn.2.1, fun b hb c hc e' => hdis b (hinB b hb) (by rw [e']; exact hinC c hc)⟩, fun b hb c hc e' => ?_⟩
        subst e'
        rcases hv' b (mem_blkL.1 hb) with h | h
        · rcases List.mem_append.1 hc with hc | hc
          · exact hBn.2.2 b (mem_blkL.2 h) b hc rfl
          · exact hdis b (hvB b h) (hinC b hc)
        · rcases List.mem_append.1 hc with hc | hc
          · have := hlB b hc; omega
          · have := hlC b hc; omega
    · have hrun : (Builtin.append_ #[T, T] ty #[v, .slice none 0 cap]).run P w = .ok v w := by
        rcases how.2 with ⟨rfl, hn0⟩ | ⟨g, cap', cur, rfl, _, _, hnc, _⟩
        · simp [Builtin.append_, run_underlying hu, sizeOf, typeInfo, hinf, Builtin.lenOf, Builtin.firstCells]
        · simp [Builtin.append_, run_underlying hu, sizeOf, typeInfo, hinf, Builtin.lenOf, Builtin.firstCells, hnc, storeCells]
      refine ⟨v, w, dpCh E' e B v xs :: L, κ xs, by simp [execOp, resolve, invoke, builtin, hE _ _ hx, hE _ _ hy, hrun], hm.sub ((List.sublist_cons_self _ _).cons_cons _), by simpa using h1, ?_⟩
      have := k B v
      rwa [List.append_nil] at this
/-- an element is stored, with what is inside; or a part of it -/
theorem o_stD {α : Type} {E' : DEl α} {v u : Value} {xs : List α} {B : List Nat} {I : Int} {z y' : α} {o fs : Nat} {row : Bool} (hes : E'.el.size = sz) (hz : xs[I.toNat]? = some z)
    (hc : ∀ w B cz, E'.own B w z cz → Absorb M E' y' (lput cz o u.cells.toList))
    (hT : tyB P T = some (row, fs)) (hx : oev E x = some (pEl v I sz o)) (hy : oev E y = some u) (hsz : Nat.beq u.cells.size fs = true) (h1 : u.cells.toList.all (·.oneCell') = true) (hle : Nat.ble (o + fs) sz = true)
    (k : ∀ B', Nx n G D w0 R E (dpCh E' e B' v (xs.set I.toNat y') :: L) φ) : Nx n G D w0 (fun a w => Oper.wp P ⟨none, .store T x y, ty, pos, aft, gd⟩ a w R Q) E (dpCh E' e B v xs :: (M ++ L)) φ :=
  o_skip rfl fun ρ w hE hm hφ => by
    have hlt := (List.getElem?_eq_some_iff.1 hz).1
    obtain ⟨bn, css, Bs, hr, how, hB⟩ := hm.hold _ (List.mem_cons_self ..)
    have hlc : I.toNat < css.length := by rw [hr.lc]; exact hlt
    have hlb : I.toNat < Bs.length := by rw [hr.lb]; exact hlt
    have hcI : css[I.toNat]? = some css[I.toNat] := List.getElem?_eq_getElem hlc
    have hbI : Bs[I.toNat]? = some Bs[I.toNat] := List.getElem?_eq_getElem hlb
    have hoz := hr.own _ _ _ _ hz hcI hbI
    obtain ⟨C, c1, c2, c3⟩ := hc w _ _ hoz _ w (fun c hc => hm.hold c (List.mem_cons_of_mem _ (List.mem_append.2 (.inl hc))))
    obtain ⟨g, cap, hv⟩ : ∃ g cap, v = .slice (some ⟨g, 0, none⟩) xs.length cap := by
      rcases how.2 with ⟨_, hn⟩ | ⟨g, cap, cur, hv, _⟩
      · omega
      · exact ⟨g, cap, hv⟩
    subst hv
    rw [pEl_slice] at hx
    have hzs := Nat.eq_of_beq_eq_true hsz
    have hle' := Nat.le_of_ble_eq_true hle
    have hgB : g ∈ B := hB.symm.subset (List.mem_append.2 (.inl (mem_blkL.2 rfl)))
    have hrun : (Instr.storeAt T (.pointer (some ⟨g, 0 + I.toNat * sz + o, none⟩)) u).run P w = .ok () (w.setCells g (0 + I.toNat * sz + o) u.cells.toList) := by
      rcases how.2 with ⟨h, _⟩ | ⟨g', cap', cur, h, _, hg, hnc, _, hcs, _⟩
      · cases h
      cases h
      have hb : w.heap[g]? = some (.cells cur.toList.toArray e (0, 0)) := by simpa using hg
      have hsub : I.toNat * sz + sz ≤ xs.length * sz := by rw [← Nat.succ_mul]; exact Nat.mul_le_mul_right _ hlt
      have hcap : xs.length * sz ≤ cap * sz := Nat.mul_le_mul_right _ hnc
      have hcl : cur.toList.length = cap * sz := by rw [Array.length_toList, hcs, hes]
      exact run_stv (P := P) (w := w) hT hsz h1 (b := g) (o := 0 + I.toNat * sz + o) (there_of_row hb (by rw [hzs, hcl]; omega))
    rw [Nat.zero_add] at hrun
    have how' := ownsRow_store (o := o) (us := u.cells.toList) hr.size hr.lc how hcI (by simp; omega)
    have hBn := hB.nodup_iff.1 bn
    have hdis : ∀ b, b ∈ B → ¬ feet M b := fun b hb ⟨c, hc, hcb⟩ => (List.pairwise_cons.1 hm.disj).1 c (List.mem_append.2 (.inl hc)) b hb hcb
    have hout := perm_out hbI
    have hlt2 : ∀ b, feet M b → b < w.heap.size := fun b ⟨c, hc, hcb⟩ => (hm.range c (List.mem_cons_of_mem _ (List.mem_append.2 (.inl hc))) b hcb).1
    have hall : ∀ b, b ∈ blkL (.slice (some ⟨g, 0, none⟩) xs.length cap) ++ (Bs.set I.toNat C).flatten → b ∈ B ∨ feet M b := fun b hb => by
      rcases List.mem_append.1 hb with hb | hb
      · exact .inl (hB.symm.subset (List.mem_append.2 (.inl hb)))
      · rcases List.mem_append.1 ((perm_in hlb C).subset hb) with hb | hb
        · exact .inr (c3 b hb)
        · exact .inl (hB.symm.subset (List.mem_append.2 (.inr (hout.symm.subset (List.mem_append.2 (.inr hb))))))
    have hsame : ∀ b, b ≠ g → (w.setCells g (I.toNat * sz + o) u.cells.toList).heap[b]? = w.heap[b]? := fun b hb => setCells_other g _ _ _ _ hb
    refine ⟨_, dpCh E' e (blkL (.slice (some ⟨g, 0, none⟩) xs.length cap) ++ (Bs.set I.toNat C).flatten) (.slice (some ⟨g, 0, none⟩) xs.length cap) (xs.set I.toNat y') :: L, φ, by simp [execOp, hE _ _ hx, hE _ _ hy] at hrun ⊢; rw [hrun]; rfl, ?_, hφ, k _⟩
    have hgn : ∀ b, b ∈ Bs.flatten → b ≠ g := fun b hb e' => by
      rw [List.nodup_append] at hBn
      exact hBn.2.2 g (mem_blkL.2 rfl) b hb e'.symm
    refine hm.repl (M0 := dpCh E' e B (.slice (some ⟨g, 0, none⟩) xs.length cap) xs :: M) (N := [dpCh E' e _ (.slice (some ⟨g, 0, none⟩) xs.length cap) (xs.set I.toNat y')]) (updD_set ⟨_, List.mem_cons_self .., hgB⟩) (fun c hc b hb => ?_) (List.pairwise_singleton _ _) (fun c hc F => ?_)
    · simp only [List.mem_cons, List.not_mem_nil, or_false] at hc
      subst hc
      rw [setCells_size]
      rcases hall b hb with h | h
      · exact ⟨.inr ⟨_, List.mem_cons_self .., h⟩, (hm.range _ (List.mem_cons_self ..) b h).1⟩
      · obtain ⟨c, hc, hcb⟩ := h
        exact ⟨.inr ⟨c, List.mem_cons_of_mem _ hc, hcb⟩, (hm.range c (List.mem_cons_of_mem _ (List.mem_append.2 (.inl hc))) b hcb).1⟩
    · simp only [List.mem_cons, List.not_mem_nil, or_false] at hc
      subst hc
      refine ⟨?_, css.set I.toNat (lput css[I.toNat] o u.cells.toList), Bs.set I.toNat C, ?_, ?_, List.Perm.refl _⟩
      · have := nodup_of (A := blkL (.slice (some ⟨g, 0, none⟩) xs.length cap)) (B := Bs[I.toNat]) (C := (Bs.set I.toNat []).flatten) ((List.Perm.append_left _ hout).nodup_iff.1 hBn) C c1 (fun b hb h => by
          have hbB : b ∈ B := by
            rcases List.mem_append.1 h with h | h
            · exact hB.symm.subset (List.mem_append.2 (.inl h))
            · exact hB.symm.subset (List.mem_append.2 (.inr (hout.symm.subset (List.mem_append.2 (.inr h)))))
          exact hdis b hbB (c3 b hb))
        exact (List.Perm.append_left _ (perm_in hlb C)).symm.nodup_iff.1 this
      · refine (hr.set I.toNat c2).keep (fun b hb => hsame b ?_)
        rcases List.mem_append.1 ((perm_in hlb C).subset hb) with hb | hb
        · exact fun e' => hdis g hgB (by rw [← e']; exact c3 b hb)
        · exact hgn b (hout.symm.subset (List.mem_append.2 (.inr hb)))
      · rw [List.length_set, hes] 
        rw [hes] at how'
        exact how'
/-- a part of an element is stored, what is inside stays -/
theorem o_stP {α : Type} {E' : DEl α} {v u : Value} {xs : List α} {B : List Nat} {I : Int} {z y' : α} {o fs : Nat} {row : Bool} (i : Nat) (hi : lget L i = some (dpCh E' e B v xs)) (hes : E'.el.size = sz) (hz : xs[I.toNat]? = some z)
    (hc : ∀ w B cz, E'.own B w z cz → E'.own B w y' (lput cz o u.cells.toList))
    (hT : tyB P T = some (row, fs)) (hx : oev E x = some (pEl v I sz o)) (hy : oev E y = some u) (hsz : Nat.beq u.cells.size fs = true) (h1 : u.cells.toList.all (·.oneCell') = true) (hle : Nat.ble (o + fs) sz = true)
    (k : Nx n G D w0 R E (lset L i (dpCh E' e B v (xs.set I.toNat y'))) φ) : Nx n G D w0 (fun a w => Oper.wp P ⟨none, .store T x y, ty, pos, aft, gd⟩ a w R Q) E L φ :=
  o_skip rfl fun ρ w hE hm hφ => by
    have hlt := (List.getElem?_eq_some_iff.1 hz).1
    obtain ⟨bn, css, Bs, hr, how, hB⟩ := hm.get hi
    have hlc : I.toNat < css.length := by rw [hr.lc]; exact hlt
    have hlb : I.toNat < Bs.length := by rw [hr.lb]; exact hlt
    have hcI : css[I.toNat]? = some css[I.toNat] := List.getElem?_eq_getElem hlc
    have hbI : Bs[I.toNat]? = some Bs[I.toNat] := List.getElem?_eq_getElem hlb
    have hoz := hc w _ _ (hr.own _ _ _ _ hz hcI hbI)
    obtain ⟨g, cap, hv⟩ : ∃ g cap, v = .slice (some ⟨g, 0, none⟩) xs.length cap := by
      rcases how.2 with ⟨_, hn⟩ | ⟨g, cap, cur, hv, _⟩
      · omega
      · exact ⟨g, cap, hv⟩
    subst hv
    rw [pEl_slice] at hx
    have hzs := Nat.eq_of_beq_eq_true hsz
    have hle' := Nat.le_of_ble_eq_true hle
    have hgB : g ∈ B := hB.symm.subset (List.mem_append.2 (.inl (mem_blkL.2 rfl)))
    have hrun : (Instr.storeAt T (.pointer (some ⟨g, 0 + I.toNat * sz + o, none⟩)) u).run P w = .ok () (w.setCells g (0 + I.toNat * sz + o) u.cells.toList) := by
      rcases how.2 with ⟨h, _⟩ | ⟨g', cap', cur, h, _, hg, hnc, _, hcs, _⟩
      · cases h
      cases h
      have hb : w.heap[g]? = some (.cells cur.toList.toArray e (0, 0)) := by simpa using hg
      have hsub : I.toNat * sz + sz ≤ xs.length * sz := by rw [← Nat.succ_mul]; exact Nat.mul_le_mul_right _ hlt
      have hcap : xs.length * sz ≤ cap * sz := Nat.mul_le_mul_right _ hnc
      have hcl : cur.toList.length = cap * sz := by rw [Array.length_toList, hcs, hes]
      exact run_stv (P := P) (w := w) hT hsz h1 (b := g) (o := 0 + I.toNat * sz + o) (there_of_row hb (by rw [hzs, hcl]; omega))
    rw [Nat.zero_add] at hrun
    have how' := ownsRow_store (o := o) (us := u.cells.toList) hr.size hr.lc how hcI (by simp; omega)
    have hBn := hB.nodup_iff.1 bn
    have hsame : ∀ b, b ≠ g → (w.setCells g (I.toNat * sz + o) u.cells.toList).heap[b]? = w.heap[b]? := fun b hb => setCells_other g _ _ _ _ hb
    have hgn : ∀ b, b ∈ Bs.flatten → b ≠ g := fun b hb e' => by
      rw [List.nodup_append] at hBn
      exact hBn.2.2 g (mem_blkL.2 rfl) b hb e'.symm
    obtain ⟨s1, s2, s3⟩ := setCells_rest g u.cells.toList (I.toNat * sz + o) w
    refine ⟨_, _, φ, by simp [execOp, hE _ _ hx, hE _ _ hy] at hrun ⊢; rw [hrun]; rfl, ?_, hφ, k⟩
    refine hm.upd hi s1 s2 s3 (by rw [setCells_size]; exact Nat.le_refl _) (fun x _ hx => setCells_other g _ _ _ _ (fun e => hx (by rw [e]; exact hgB))) (fun x hx => ⟨?_, .inl hx⟩) ⟨bn, css.set I.toNat (lput css[I.toNat] o u.cells.toList), Bs, ?_, ?_, hB⟩
    · rw [setCells_size]; exact (hm.range _ (lget_mem hi) x hx).1
    · have := (hr.set I.toNat hoz).keep (w' := w.setCells g (I.toNat * sz + o) u.cells.toList) (fun b hb => hsame b (hgn b (by rwa [set_same hbI] at hb)))
      rwa [set_same hbI] at this
    · rw [List.length_set, hes]
      rw [hes] at how'
      exact how'

/-! what is inside one element, taken out -/
theorem o_ldF {α β : Type} {E' : DEl α} {E1 : DEl β} {t1 : TypeId} {v : Value} {xs : List α} {B : List Nat} {I : Int} {z : α} {zin : List β} {o fs : Nat} {row : Bool} {encz : Value → List Value} (hes : E'.el.size = sz) (hz : xs[I.toNat]? = some z)
    (hop : ∀ B w cs, E'.own B w z cs → ∃ v0, cs = encz v0 ∧ Dp E1 t1 B w v0 zin) (hx : oev E x = some (pEl v I sz o)) (hd : Nat.blt d n = true) (hT : tyB P T = some (row, fs))
    (k : ∀ v0 B' C, ∃ u, ldv row o fs (encz v0) = some u ∧ Nx n G D w0 R ((d, u) :: E) (holeCh E' e B' v xs I.toNat (encz v0) :: dpCh E1 t1 C v0 zin :: L) φ) :
    Nx n G D w0 (fun a w => Oper.wp P ⟨some d, .load T x, ty, pos, aft, gd⟩ a w R Q) E (dpCh E' e B v xs :: L) φ :=
  o_gen hd rfl fun ρ w hE hm hφ => by
    have hlt := (List.getElem?_eq_some_iff.1 hz).1
    obtain ⟨bn, css, Bs, hr, how, hB⟩ := hm.hold _ (List.mem_cons_self ..)
    have hlc : I.toNat < css.length := by rw [hr.lc]; exact hlt
    have hlb : I.toNat < Bs.length := by rw [hr.lb]; exact hlt
    have hcI : css[I.toNat]? = some css[I.toNat] := List.getElem?_eq_getElem hlc
    have hbI : Bs[I.toNat]? = some Bs[I.toNat] := List.getElem?_eq_getElem hlb
    obtain ⟨v0, hv0, hdp⟩ := hop _ _ _ (hr.own _ _ _ _ hz hcI hbI)
    have hlz := hr.size _ (List.mem_of_getElem? hcI)
    obtain ⟨g, cap, hv⟩ : ∃ g cap, v = .slice (some ⟨g, 0, none⟩) xs.length cap := by
      rcases how.2 with ⟨_, hn⟩ | ⟨g, cap, cur, hv, _⟩
      · omega
      · exact ⟨g, cap, hv⟩
    subst hv
    have hBn := hB.nodup_iff.1 bn
    have hout := perm_out hbI
    obtain ⟨u, hu, hk⟩ := k v0 (blkL (.slice (some ⟨g, 0, none⟩) xs.length cap) ++ (Bs.set I.toNat []).flatten) Bs[I.toNat]
    have hrange : w.rangeAt g (0 + I.toNat * E'.el.size) css[I.toNat] := by
      have hs := (hr.rows (F := fun _ => True) (fun _ _ => trivial)).get hz
      rcases how.2 with ⟨h, _⟩ | ⟨g', cap', cur, h, _, hg, hnc, _, hcs, ht⟩
      · cases h
      cases h
      intro j q hq
      rw [cell_of_row w g _ cur e (0, 0) hg]
      have hj := (List.getElem?_eq_some_iff.1 hq).1
      have hfl : css.flatten[I.toNat * E'.el.size + j]? = some q := by
        have hsp : css = css.take I.toNat ++ css[I.toNat] :: css.drop (I.toNat + 1) := by simp
        have hpl : (css.take I.toNat).flatten.length = I.toNat * E'.el.size := by rw [flat_len (z := E'.el.size) (fun cs hc => hr.size cs (List.mem_of_mem_take hc)), List.length_take]; congr 1; omega
        rw [hsp, List.flatten_append, List.getElem?_append_right (by omega), hpl, Nat.add_sub_cancel_left, List.flatten_cons, List.getElem?_append_left (by simpa using hj)]
        simpa using hq
      rw [← ht, List.getElem?_take] at hfl
      split at hfl
      · simpa using hfl
      · cases hfl
    have hld := run_ldv (P := P) hT hrange (by rw [hv0]; exact hu)
    rw [pEl_slice, ← hes] at hx
    simp only [Nat.zero_add] at hx hld
    refine ⟨u, w, _, φ, by simp [execOp, hE _ _ hx, hld], ?_, hφ, hk⟩
    refine hm.repl (M0 := [dpCh E' e B (.slice (some ⟨g, 0, none⟩) xs.length cap) xs]) (N := [holeCh E' e _ (.slice (some ⟨g, 0, none⟩) xs.length cap) xs I.toNat (encz v0), dpCh E1 t1 Bs[I.toNat] v0 zin]) updD_refl (fun c hc b hb => ?_) ?_ (fun c hc F => ?_)
    · have hb' : b ∈ B := by
        simp only [List.mem_cons, List.not_mem_nil, or_false] at hc
        rcases hc with rfl | rfl
        · rcases List.mem_append.1 hb with hb | hb
          · exact hB.symm.subset (List.mem_append.2 (.inl hb))
          · exact hB.symm.subset (List.mem_append.2 (.inr (hout.symm.subset (List.mem_append.2 (.inr hb)))))
        · exact hB.symm.subset (List.mem_append.2 (.inr (hout.symm.subset (List.mem_append.2 (.inl hb)))))
      exact ⟨.inr ⟨_, List.mem_cons_self .., hb'⟩, (hm.range _ (List.mem_cons_self ..) b hb').1⟩
    · refine List.pairwise_cons.2 ⟨fun c hc b hb hcb => ?_, List.pairwise_singleton _ _⟩
      simp only [List.mem_cons, List.not_mem_nil, or_false] at hc
      subst hc
      have h2 := (List.Perm.append_left (blkL (.slice (some ⟨g, 0, none⟩) xs.length cap)) hout).nodup_iff.1 hBn
      simp only [List.nodup_append, List.mem_append] at h2
      rcases List.mem_append.1 hb with hb | hb
      · exact h2.2.2 b hb b (.inl hcb) rfl
      · exact h2.2.1.2.2 b hcb b hb rfl
    · simp only [List.mem_cons, List.not_mem_nil, or_false] at hc
      have h2 := (List.Perm.append_left (blkL (.slice (some ⟨g, 0, none⟩) xs.length cap)) hout).nodup_iff.1 hBn
      rcases hc with rfl | rfl
      · refine ⟨?_, css, Bs.set I.toNat [], ⟨hr.lc, by simp [hr.lb], fun i x cs C hne k1 k2 k3 => ?_, by rw [hcI, hv0], by simp [hlb], hr.size⟩, how, List.Perm.refl _⟩
        · simp only [List.nodup_append, List.mem_append] at h2 ⊢
          exact ⟨h2.1, h2.2.1.2.1, fun a ha b hb => h2.2.2 a ha b (.inr hb)⟩
        · rw [List.getElem?_set_ne (fun e => hne e.symm)] at k3
          exact hr.own i x cs C k1 k2 k3
      · refine ⟨?_, hdp⟩
        simp only [List.nodup_append, List.mem_append] at h2
        exact h2.2.1.1
/-- put back as it lies -/
theorem nx_close {α : Type} {E' : DEl α} {v : Value} {xs : List α} {B : List Nat} {I : Nat} {cz : List Value} {y' : α} (hc : Absorb M E' y' cz) (k : ∀ B', Nx n G D w0 R E (dpCh E' e B' v (xs.set I y') :: L) φ) : Nx n G D w0 R E (holeCh E' e B v xs I cz :: (M ++ L)) φ := fun a w hE hm hφ => by
  obtain ⟨bn, css, Bs, hr, how, hB⟩ := hm.hold _ (List.mem_cons_self ..)
  obtain ⟨C, c1, c2, c3⟩ := hc _ w (fun c hc => hm.hold c (List.mem_cons_of_mem _ (List.mem_append.2 (.inl hc))))
  have hlb := (List.getElem?_eq_some_iff.1 hr.none).1
  have hBn := hB.nodup_iff.1 bn
  have hdis : ∀ b, b ∈ B → ¬ feet M b := fun b hb ⟨c, hc, hcb⟩ => (List.pairwise_cons.1 hm.disj).1 c (List.mem_append.2 (.inl hc)) b hb hcb
  have hset : Bs.set I [] = Bs := set_same hr.none
  have hpin := perm_in hlb C
  rw [hset] at hpin
  refine k (blkL v ++ (Bs.set I C).flatten) a w hE ?_ hφ
  refine hm.repl (M0 := holeCh E' e B v xs I cz :: M) (N := [dpCh E' e _ v (xs.set I y')]) updD_refl (fun c hc b hb => ?_) (List.pairwise_singleton _ _) (fun c hc F => ?_)
  · simp only [List.mem_cons, List.not_mem_nil, or_false] at hc
    subst hc
    have h : b ∈ B ∨ feet M b := by
      rcases List.mem_append.1 hb with hb | hb
      · exact .inl (hB.symm.subset (List.mem_append.2 (.inl hb)))
      · rcases List.mem_append.1 (hpin.subset hb) with hb | hb
        · exact .inr (c3 b hb)
        · exact .inl (hB.symm.subset (List.mem_append.2 (.inr hb)))
    rcases h with h | ⟨c, hc, hcb⟩
    · exact ⟨.inr ⟨_, List.mem_cons_self .., h⟩, (hm.range _ (List.mem_cons_self ..) b h).1⟩
    · exact ⟨.inr ⟨c, List.mem_cons_of_mem _ hc, hcb⟩, (hm.range c (List.mem_cons_of_mem _ (List.mem_append.2 (.inl hc))) b hcb).1⟩
  · simp only [List.mem_cons, List.not_mem_nil, or_false] at hc
    subst hc
    refine ⟨?_, css, Bs.set I C, ⟨by simp [hr.lc], by simp [hr.lb], fun i x cs D h1 h2 h3 => ?_⟩, by simpa using how, List.Perm.refl _⟩
    · refine (List.Perm.append_left _ hpin).symm.nodup_iff.1 ?_
      exact nodup_of (A := blkL v) (B := []) (C := Bs.flatten) (by simpa using hBn) C c1 (fun b hb h => hdis b (hB.symm.subset h) (c3 b hb))
    · by_cases e' : i = I
      · subst e'
        rw [hr.here] at h2
        rw [List.getElem?_set] at h1 h3
        simp only [if_true] at h1 h3
        split at h1
        · rw [if_pos hlb] at h3
          cases h1; cases h2; cases h3
          exact c2
        · cases h1
      · rw [List.getElem?_set_ne (fun e => e' e.symm)] at h1 h3
        exact hr.own i x cs D e' h1 h2 h3
end

end
section

open Go.RowKit

section
variable {P : Program} {n : Nat} {G D : Nat → Prop} {w0 : World} {Q : Exit → Act → World → Prop} {R : Act → World → Prop} {E : Env} {L M : List Ch} {φ : Prop}
variable {d : Tmp} {ty : TypeId} {pos : String} {aft : Array Edge} {gd : Option (Nat × Bool)} {Tk : Act → World → Prop} {Lr : List Ch} {x y : Operand} {T T' S : TypeId} {e sz by' : Nat}
/-- the beginning, with a snapshot of all that may be read -/
theorem enterS {F : Nat → Prop} {f : Nat} {fn : Func} {c : Code} {args : List Value} {K : Ending → World → Prop} (M0 : List Ch) (hF : ∀ b, F b → b < w0.heap.size ∧ ¬ feet M0 b) (hg : Given M0 F w0) (hf : P.funcs[f]? = some fn) (hb : fn.body = some c) (hn : fn.ntmps = n) (hle : Nat.ble args.length n = true)
    (hφ : φ) (h : Nx n (gB F M0 w0) (feet M0) w0 (c.wp P (bodyPost P fn K)) (eargs 0 args) (M0 ++ [snapCh w0 F]) φ) : Calls P f args.toArray w0 K :=
  enterB M0 hF hf hb hn hle [snapCh w0 F] (fun c hc b h => by simp only [List.mem_cons, List.not_mem_nil, or_false] at hc; subst hc; exact h) (fun c hc => by simp only [List.mem_cons, List.not_mem_nil, or_false] at hc; subst hc; exact ⟨fun _ h => h, fun _ _ => rfl⟩) hg.lt hg.disj hg.hold hφ h
theorem enter0 {F : Nat → Prop} {f : Nat} {fn : Func} {c : Code} {args : List Value} {K : Ending → World → Prop} (M0 : List Ch) (hF : ∀ b, F b → b < w0.heap.size ∧ ¬ feet M0 b) (hg : Given M0 F w0) (hf : P.funcs[f]? = some fn) (hb : fn.body = some c) (hn : fn.ntmps = n) (hle : Nat.ble args.length n = true)
    (hφ : φ) (h : Nx n (gB F M0 w0) (feet M0) w0 (c.wp P (bodyPost P fn K)) (eargs 0 args) (M0 ++ []) φ) : Calls P f args.toArray w0 K :=
  enterB M0 hF hf hb hn hle [] (fun c hc b h => by simp at hc) (fun c hc => by simp at hc) hg.lt hg.disj hg.hold hφ h
/-- a part that has nothing inside, of an element that may be read -/
theorem o_ldP {α : Type} {E' : El α} {v : Value} {xs : List α} {c : Ch} {I : Int} {z : α} {o fs : Nat} {row : Bool} {u : Value} (M : Mode P n G D w0 E ⟨some d, .load T x, ty, pos, aft, gd⟩ Tk R Lr L) (i : Nat) (hi : lget Lr i = some c) (hc : Reads c E' v xs) (hz : xs[I.toNat]? = some z) (hx : oev E x = some (pEl v I sz o)) (hes : E'.size = sz) (hd : Nat.blt d n = true) (hT : tyB P T = some (row, fs))
    (hu : ∀ F w cs, E'.cells F w z cs → ldv row o fs cs = some u) (k : Nx n G D w0 R ((d, u) :: E) L φ) : Nx n G D w0 Tk E L φ :=
  M.val hd rfl (fun ρ w hE hm _ => by
    obtain ⟨b, off, cap, cs, rfl, hcs, hr⟩ := (hc _ _ (hm.get hi)).at hz
    have := run_ldv (P := P) hT hr (hu _ _ _ hcs)
    rw [pEl_slice, ← hes] at hx
    simp [execOp, hE _ _ hx, this]) id k
theorem Mem.dup {α : Type} {El' : El α} {v : Value} {xs : List α} {w : World} (m : Mem G D w0 L w) (i : Nat) (hi : lget L i = some (roCh El' v xs)) : Mem G D w0 (roCh El' v xs :: L) w := m.note (fun b hb => hb) (m.get hi)
/-! nil -/
theorem nx_dnil {α : Type} (E' : DEl α) (e : TypeId) (h : Nx n G D w0 R E (dpCh E' e [] (.slice none 0 0) [] :: L) φ) : Nx n G D w0 R E L φ := fun a w hE hm hφ => h a w hE (mem_dnil E' e hm) hφ
theorem sl_val {α : Type} {E' : El α} {F : Nat → Prop} {w : World} {v : Value} {xs : List α} (h : Sl E' F w v xs) : ∃ a l c, v = .slice a l c := by
  obtain ⟨a, c, hv, _⟩ := h
  exact ⟨a, _, c, hv⟩
/-! arrays in memory -/
theorem own_arr {α : Type} {El' : El α} {F : Nat → Prop} {w : World} {T : TypeId} {b len : Nat} {xs : List α} {css : List (List Value)} {cs : List Value} (hr : Rows El' F w xs css) (hb : w.heap[b]? = some (.cells cs.toArray T (0, 0))) (hl : xs.length = len) (hcs : css.flatten = cs) (hlen : len ≤ 65536) : Own El' T F w (.slice (some ⟨b, 0, none⟩) len len) xs := by
  subst hl
  have h0 := hr.length
  rw [hcs] at h0
  exact own_new hr hb (Nat.le_refl _) (by unfold maxLen; omega) (by simpa using h0) (by rw [hcs, ← h0]; simp)
theorem o_boxA {α : Type} {El' : El α} {v : Value} {cs : List Value} {len : Nat} (xs : List α) (css : List (List Value)) (hr : ∀ w, Mem G D w0 L w → Rows El' (fz G L w) w xs css) (hx : oev E x = some v) (hd : Nat.blt d n = true) (hcs : v.cells = cs.toArray) (hfl : css.flatten = cs) (hl : xs.length = len) (hlen : Nat.ble len 65536 = true)
    (k : ∀ b, Nx n G D w0 R ((d, .pointer (some ⟨b, 0, none⟩)) :: E) (ownCh El' T (.slice (some ⟨b, 0, none⟩) len len) xs :: L) φ) :
    Nx n G D w0 (fun a w => Oper.wp P ⟨some d, .box T x, ty, pos, aft, gd⟩ a w R Q) E L φ :=
  o_gen hd rfl fun ρ w hE hm hφ => by
    refine ⟨_, w.alloc (.cells cs.toArray T), _, φ, by simp [execOp, hE _ _ hx, Instr.box, newVar, newRow, hcs], ?_, hφ, k w.heap.size⟩
    refine hm.add _ ((Below.refl _ _).alloc (Nat.le_refl _) _) (fun b hb => by simp [ownCh, Value.ownBlock] at hb; rw [World.size_alloc]; omega) ?_
    refine own_arr ((hr w hm).keep (fun b hb => ⟨by have := hb.1; rw [World.size_alloc]; omega, hb.2.1, fun c hc => ?_⟩) (fun b hb => heap_alloc_old w _ hb.1)) (heap_alloc_new w _) hl hfl (Nat.le_of_ble_eq_true hlen)
    rcases List.mem_cons.1 hc with e' | e'
    · subst e'
      intro h
      simp [ownCh, Value.ownBlock] at h
      have := hb.1
      omega
    · exact hb.2.2 c e'
/-- a whole array is stored -/
theorem o_stA {α : Type} {El' : El α} {u : Value} {cs : List Value} {len b fs : Nat} {xs0 : List α} {row : Bool} {e' : TypeId} (i : Nat) (hi : lget L i = some (ownCh El' e' (.slice (some ⟨b, 0, none⟩) len len) xs0)) (xs : List α) (css : List (List Value)) (hr : ∀ w, Mem G D w0 L w → Rows El' (fz G L w) w xs css) (hx : oev E x = some (.pointer (some ⟨b, 0, none⟩))) (hy : oev E y = some u)
    (hcs : u.cells = cs.toArray) (hfl : css.flatten = cs) (hl : xs.length = len) (h1 : u.cells.toList.all (·.oneCell') = true) (hT : tyB P T = some (row, fs)) (hsz : Nat.beq u.cells.size fs = true) (hpos : Nat.beq len 0 = false)
    (k : Nx n G D w0 R E (lset L i (ownCh El' e' (.slice (some ⟨b, 0, none⟩) len len) xs)) φ) : Nx n G D w0 (fun a w => Oper.wp P ⟨none, .store T x y, ty, pos, aft, gd⟩ a w R Q) E L φ :=
  o_skip rfl fun ρ w hE hm hφ => by
    obtain ⟨css0, hr0, how⟩ := hm.get hi
    obtain ⟨h0, hown⟩ := how
    have hlp : len ≠ 0 := fun e => by rw [e] at hpos; simp at hpos
    rcases hown with ⟨h, _⟩ | ⟨g, cap, cur, h, hg0, hg, hnc, hcm, hcz, htake⟩
    · cases h
    simp only [Value.slice.injEq, Option.some.injEq, Addr.mk.injEq] at h
    obtain ⟨⟨rfl, -, -⟩, hln, rfl⟩ := h
    have hrows := hr w hm
    have hlen := hrows.length
    rw [hfl, hl] at hlen
    have hb : w.heap[b]? = some (.cells cur.toList.toArray e' (0, 0)) := by simpa using hg
    have hcl : cur.toList.length = len * El'.size := by rw [Array.length_toList, hcz]
    have hus : u.cells.toList = cs := by rw [hcs]
    have hzs := Nat.eq_of_beq_eq_true hsz
    have hr' := run_stv (P := P) (w := w) hT hsz h1 (b := b) (o := 0) (there_of_row hb (by rw [hcl]; rw [hcs]; simp [hlen]))
    refine ⟨_, _, φ, by simp [execOp, hE _ _ hx, hE _ _ hy, hr']; rfl, ?_, hφ, k⟩
    obtain ⟨s1, s2, s3⟩ := setCells_rest b u.cells.toList 0 w
    have hput : lput cur.toList 0 cs = cs := by
      have key : ∀ (vs l : List Value), vs.length = l.length → ∀ p : List Value, lput (p ++ l) p.length vs = p ++ vs := by
        intro vs
        induction vs with
        | nil => intro l hl p; cases l with
          | nil => rfl
          | cons _ _ => simp at hl
        | cons a r ih => intro l hl p; cases l with
          | nil => simp at hl
          | cons c l =>
            rw [lput]
            have : (p ++ c :: l).set p.length a = (p ++ [a]) ++ l := by simp
            rw [this]
            have := ih l (by simpa using hl) (p ++ [a])
            simpa using this
      simpa using key cs cur.toList (by omega) []
    have hup := setCells_heap b e' (0, 0) u.cells.toList 0 cur.toList w hb
    rw [hus, hput] at hup
    refine hm.upd hi s1 s2 s3 (by rw [setCells_size]; exact Nat.le_refl _) (fun x _ hx => setCells_other b _ _ _ _ (fun e => hx (by rw [e]; rfl))) (fun x hx => ⟨?_, .inl hx⟩) ?_
    · have hx' : some b = some x := hx
      cases hx'
      rw [setCells_size]
      exact (Array.getElem?_eq_some_iff.1 hg).1
    · have hsame : ∀ c, fz G L w c → (w.setCells b 0 u.cells.toList).heap[c]? = w.heap[c]? := fun c hc => setCells_other b _ _ _ _ (fun e'' => hc.2.2 _ (lget_mem hi) (by rw [e'']; rfl))
      have hk := hrows.keep (F' := fz G (lset L i (ownCh El' e' (.slice (some ⟨b, 0, none⟩) len len) xs)) (w.setCells b 0 u.cells.toList)) (fun c hc => ⟨by rw [setCells_size]; exact hc.1, hc.2.1, fun x hx => by
        rcases mem_lset hi hm.disj hx with e'' | ⟨e1, _⟩
        · subst e''; exact fun hk => hc.2.2 _ (lget_mem hi) hk
        · exact hc.2.2 x e1⟩) hsame
      subst hl
      have h0' := hk.length
      rw [hfl] at h0'
      refine ⟨css, hk, by rw [hfl]; exact h0', .inr ⟨b, xs.length, cs.toArray, rfl, hg0, by rw [hus]; exact hup, Nat.le_refl _, hcm, by simpa using h0', by rw [hfl, ← h0']; simp⟩⟩
theorem sl_rows {α : Type} {El' : El α} {F F' : Nat → Prop} {w : World} {b len cap : Nat} {xs : List α} (h : Sl2 El' F F' w (.slice (some ⟨b, 0, none⟩) len cap) xs) : ∃ css, Rows El' F w xs css ∧ w.rangeAt b 0 css.flatten := by
  obtain ⟨a, c, hv, hc, hr⟩ := h
  simp only [Value.slice.injEq] at hv
  obtain ⟨rfl, rfl, rfl⟩ := hv
  by_cases h0 : 0 < xs.length
  · obtain ⟨b', off, ha, _, hx⟩ := hr h0
    simp only [Option.some.injEq, Addr.mk.injEq] at ha
    obtain ⟨rfl, rfl, _⟩ := ha
    have key : ∀ (ys : List α) (p : Nat), (∀ i x, ys[i]? = some x → ∃ cs, El'.cells F w x cs ∧ w.rangeAt b (0 + (p + i) * El'.size) cs) → ∃ dss, Rows El' F w ys dss ∧ w.rangeAt b (p * El'.size) dss.flatten := by
      intro ys
      induction ys with
      | nil => intro p _; exact ⟨[], trivial, fun j q hq => by simp at hq⟩
      | cons y0 r ih =>
        intro p hp
        obtain ⟨cs, g1, g2⟩ := hp 0 y0 (by simp)
        obtain ⟨dss, g3, g4⟩ := ih (p + 1) (fun i x hix => by
          have := hp (i + 1) x (by simpa using hix)
          rwa [show p + (i + 1) = p + 1 + i by omega] at this)
        refine ⟨cs :: dss, ⟨g1, g3⟩, fun j q hq => ?_⟩
        have hl := El'.len _ _ _ _ g1
        rw [List.flatten_cons, List.getElem?_append] at hq
        split at hq
        · simpa using g2 j q hq
        · have := g4 (j - cs.length) q hq
          rw [hl, Nat.add_mul] at this
          rw [show p * El'.size + j = p * El'.size + 1 * El'.size + (j - El'.size) by omega]
          exact this
    obtain ⟨dss, g1, g2⟩ := key xs 0 (fun i x hix => by simpa using hx i x hix)
    exact ⟨dss, g1, by simpa using g2⟩
  · have : xs = [] := List.eq_nil_of_length_eq_zero (by omega)
    subst this
    exact ⟨[], trivial, fun j q hq => by simp at hq⟩
/-- a whole array is loaded; slices are inside -/
theorem o_ldAN {α : Type} {El' : El α} {b len cap fs : Nat} {xs : List α} {c : Ch} (i : Nat) (hi : lget L i = some c) (hc : Src c El' (.slice (some ⟨b, 0, none⟩) len cap) xs) (hx : oev E x = some (.pointer (some ⟨b, 0, none⟩))) (hd : Nat.blt d n = true) (hlen : xs.length = len) 
    (hT : tyB P T = some (true, fs)) (hfs : len * El'.size = fs) (k : ∀ wr F0 css, Rows El' F0 wr xs css → ∃ u : List Value, css.flatten = u ∧ Nx n G D w0 R ((d, .agg u.toArray) :: E) (snapCh wr F0 :: L) φ) : Nx n G D w0 (fun a w => Oper.wp P ⟨some d, .load T x, ty, pos, aft, gd⟩ a w R Q) E L φ :=
  o_gen hd rfl fun ρ w hE hm hφ => by
    obtain ⟨css, h1, h2⟩ := sl_rows (hc _ _ (hm.get hi))
    obtain ⟨u, hu, hk⟩ := k w (fz G L w) css h1
    have hl := h1.length
    rw [hu] at h2 hl
    have hv : ldv true 0 fs u = some (.agg u.toArray) := by
      have : u.length = fs := by rw [hl, hlen, hfs]
      simp [ldv, ← this]
    have := run_ldv (P := P) hT h2 hv
    rw [Nat.add_zero] at this
    exact ⟨_, w, snapCh w (fz G L w) :: L, φ, by simp [execOp, hE _ _ hx, this], hm.note (fun b hb => hb) ⟨fun b hb => hb, fun _ _ => rfl⟩, hφ, hk⟩
theorem rows_l4 {α : Type} {El' : El α} {F : Nat → Prop} {w : World} {a b c d : α} {css : List (List Value)} (h : Rows El' F w [a, b, c, d] css) : ∃ c0 c1 c2 c3, css = [c0, c1, c2, c3] ∧ El'.cells F w a c0 ∧ El'.cells F w b c1 ∧ El'.cells F w c c2 ∧ El'.cells F w d c3 := by
  match css, h with
  | [c0, c1, c2, c3], h => exact ⟨c0, c1, c2, c3, rfl, h.1, h.2.1, h.2.2.1, h.2.2.2.1⟩
  | [], h => exact h.elim
  | [_], h => exact h.2.elim
  | [_, _], h => exact h.2.2.elim
  | [_, _, _], h => exact h.2.2.2.elim
  | _ :: _ :: _ :: _ :: _ :: _, h => exact h.2.2.2.2.elim
end

end
section

open Go.RowKit

def SlAll {α : Type} (E : El α) (F : Nat → Prop) (w : World) : List Value → List (List α) → Prop
  | [], [] => True
  | v :: vs, x :: xs => Sl E F w v x ∧ SlAll E F w vs xs
  | _, _ => False
def pickV (vs : List Value) (I : Int) : Value := (vs[I.toNat]?).getD undef
theorem SlAll.get {α : Type} {E : El α} {F : Nat → Prop} {w : World} : ∀ {vs : List Value} {xs : List (List α)}, SlAll E F w vs xs → ∀ {i : Nat} {z : List α}, xs[i]? = some z → ∃ v, vs[i]? = some v ∧ Sl E F w v z
  | [], [], _, i, z, h => by simp at h
  | v :: vs, x :: xs, h, 0, z, hz => by simp at hz; subst hz; exact ⟨v, rfl, h.1⟩
  | v :: vs, x :: xs, h, i + 1, z, hz => by simpa using SlAll.get h.2 (by simpa using hz)
  | [], _ :: _, h, _, _, _ => h.elim
  | _ :: _, [], h, _, _, _ => h.elim

section
variable {P : Program} {n : Nat} {G D : Nat → Prop} {w0 : World} {Q : Exit → Act → World → Prop} {R : Act → World → Prop} {E : Env} {L M : List Ch} {φ : Prop}
variable {d : Tmp} {ty : TypeId} {pos : String} {aft : Array Edge} {gd : Option (Nat × Bool)} {Tk : Act → World → Prop} {Lr : List Ch} {x y : Operand} {T T' S : TypeId} {e sz by' : Nat} {dst : Option Tmp} {at' : Array TypeId}
/-- one of the slices of an array value -/
theorem o_ixN {α : Type} {El' : El α} {vs : List Value} {xs : List (List α)} {I : Int} {κ : List α → Prop} {len e' : Nat} (M : Mode P n G D w0 E ⟨some d, .index T x y, ty, pos, aft, gd⟩ Tk R Lr L) (hfa : ∀ w, Mem G D w0 L w → SlAll El' (fz G L w) w vs xs) (hx : oev E x = some (.agg vs.toArray)) (hy : oev E y = some (.int .i64 I)) (hd : Nat.blt d n = true)
    (hT : arrB P T = some (len, e', false, 1)) (hl : xs.length = len) (k : ∀ v z, xs[I.toNat]? = some z → Nx n G D w0 R ((d, v) :: E) (roCh El' v z :: L) (κ z)) : Nx n G D w0 Tk E L (idxW xs I κ) := fun a w hE hm hφ => by
  refine (M.val (v := pickV vs I) (φ := idxW xs I κ) (ψ := idxW xs I κ) hd rfl (fun ρ w hE hm hφ => ?_) id (fun a' w' hE' hm' hφ' => ?_)) a w hE hm hφ
  · obtain ⟨z, h0, h1, h2⟩ := hφ
    have hlt := (List.getElem?_eq_some_iff.1 h1).1
    obtain ⟨hu', ht⟩ := arr_of hT
    obtain ⟨i, hq, hi⟩ := info_sz ht
    have h5 : I < len := by omega
    have hvl : vs.length = xs.length := by
      have key : ∀ {vs : List Value} {xs : List (List α)} {F : Nat → Prop} {w : World}, SlAll El' F w vs xs → vs.length = xs.length := by
        intro vs
        induction vs with
        | nil => intro xs F w h; cases xs with
          | nil => rfl
          | cons _ _ => exact h.elim
        | cons v vs ih => intro xs F w h; cases xs with
          | nil => exact h.elim
          | cons x xs => simp [ih h.2]
      exact key (hfa _ (by assumption))
    have hv : ldv false (I.toNat * 1) 1 vs = some (pickV vs I) := by
      have : I.toNat < vs.length := by omega
      simp [ldv, pickV, this]
    have hr := run_partv (P := P) (w := w) ht hv
    simp at hr
    simp [execOp, hE _ _ hx, hE _ _ hy, Instr.index, asIntOf, run_underlying hu', sizeOf, typeInfo, hq, hi, h0, h5, hr]
  · obtain ⟨z, h0, h1, h2⟩ := hφ'
    obtain ⟨v, hv, hs⟩ := (hfa w' hm').get h1
    have hp : pickV vs I = v := by simp [pickV, hv]
    rw [hp] at hE'
    exact k v z h1 a' w' hE' (hm'.note (fun b hb => hb) hs) h2
/-- an array in memory as plain cells -/
theorem nx_unarr {α : Type} {El' : El α} {xs : List α} {b len : Nat} (i : Nat) (hi : lget L i = some (ownCh El' T (.slice (some ⟨b, 0, none⟩) len len) xs)) (h1 : xs.length = len) (hes : len * El'.size = sz) (hpos : 0 < len) (h : ∀ wr F0 css, Rows El' F0 wr xs css → Nx n G D w0 R E (snapCh wr F0 :: lset L i (cellCh b css.flatten T)) φ) : Nx n G D w0 R E L φ := fun a w hE hm hφ => by
  obtain ⟨css, hr, h0, how⟩ := hm.get hi
  rcases how with ⟨h, _⟩ | ⟨g, cap, cur, h, hg0, hg, hnc, hcm, hcz, htake⟩
  · cases h
  simp only [Value.slice.injEq, Option.some.injEq, Addr.mk.injEq] at h
  obtain ⟨⟨rfl, -, -⟩, -, rfl⟩ := h
  have hcur : cur.toList = css.flatten := by
    rw [← htake, h1, List.take_of_length_le (by rw [Array.length_toList, hcz]; exact Nat.le_refl _)]
  have hmem := lget_mem hi
  have hup : Mem G D w0 (lset L i (cellCh b css.flatten T)) w := by
    refine hm.upd hi rfl rfl rfl (Nat.le_refl _) (fun _ _ _ => rfl) (fun c hc => ?_) ?_
    · have hc' : c = b := hc
      subst hc'
      exact ⟨(Array.getElem?_eq_some_iff.1 hg).1, .inl rfl⟩
    · show w.heap[b]? = some (.cells css.flatten.toArray T (0, 0))
      rw [hg, ← hcur]
  refine h w (fz G L w) css hr a w hE (hup.note (fun b hb => hb) ⟨fun c hc => ⟨hc.1, hc.2.1, fun d hd => ?_⟩, fun _ _ => rfl⟩) hφ
  rcases mem_lset hi hm.disj hd with e' | ⟨e1, _⟩
  · subst e'; exact fun hk => hc.2.2 _ hmem (by rw [show c = b from hk]; rfl)
  · exact hc.2.2 d e1
end

end
section

open Go.RowKit
theorem Rows.take {α : Type} {E : El α} {F : Nat → Prop} {w : World} : ∀ {xs : List α} {css : List (List Value)} (J : Nat), Rows E F w xs css → Rows E F w (xs.take J) (css.take J) ∧ (css.take J).flatten = css.flatten.take (J * E.size)
  | [], [], J, h => by simp [Rows]
  | x :: xs, cs :: css, 0, h => by simp [Rows]
  | x :: xs, cs :: css, J + 1, h => by
    obtain ⟨h1, h2⟩ := Rows.take (xs := xs) (css := css) J h.2
    have hl := E.len F w x cs h.1
    refine ⟨⟨h.1, h1⟩, ?_⟩
    simp only [List.take_succ_cons, List.flatten_cons, h2]
    have e : (J + 1) * E.size = cs.length + J * E.size := by rw [hl, Nat.add_mul]; omega
    rw [e, List.take_length_add_append]
  | [], _ :: _, _, h => by simp [Rows] at h
  | _ :: _, [], _, h => by simp [Rows] at h
theorem Own.cut {α : Type} {E : El α} {ty : TypeId} {F : Nat → Prop} {w : World} {a : Option Addr} {n cap : Nat} {xs : List α} (h : Own E ty F w (.slice a n cap) xs) (J : Nat) (hJ : J ≤ xs.length) : Own E ty F w (.slice a J cap) (xs.take J) := by
  obtain ⟨css, h1, h2, h3⟩ := h
  obtain ⟨r1, r2⟩ := Rows.take J h1
  have hl : (xs.take J).length = J := by rw [List.length_take]; omega
  refine ⟨css.take J, r1, ?_, ?_⟩
  · rw [r2, List.length_take, h2, hl]
    exact Nat.min_eq_left (Nat.mul_le_mul_right _ hJ)
  · rcases h3 with ⟨e, h4⟩ | ⟨g, cap', cur, e, k1, k2, k3, k4, k5, k6⟩
    · simp at e
      obtain ⟨rfl, _, rfl⟩ := e
      left
      rw [hl]
      exact ⟨by rw [show J = 0 by omega], by omega⟩
    · simp at e
      obtain ⟨rfl, rfl, rfl⟩ := e
      right
      refine ⟨g, cap, cur, by rw [hl], k1, k2, by omega, k4, k5, ?_⟩
      rw [hl, r2, ← k6, List.take_take, Nat.min_eq_left (Nat.mul_le_mul_right _ hJ)]
section
variable {P : Program} {n : Nat} {G D : Nat → Prop} {w0 : World} {Q : Exit → Act → World → Prop} {R : Act → World → Prop} {E : Env} {L M : List Ch} {φ : Prop}
variable {d : Tmp} {ty : TypeId} {pos : String} {aft : Array Edge} {gd : Option (Nat × Bool)} {Tk : Act → World → Prop} {Lr : List Ch} {x y : Operand} {T T' S : TypeId} {e sz by' : Nat}
end

end
section

open Go.RowKit
section
variable {P : Program} {n : Nat} {G D : Nat → Prop} {w0 : World} {Q : Exit → Act → World → Prop} {R : Act → World → Prop} {E : Env} {L M : List Ch} {φ : Prop}
variable {d : Tmp} {ty : TypeId} {pos : String} {aft : Array Edge} {gd : Option (Nat × Bool)} {Tk : Act → World → Prop} {Lr : List Ch} {x y : Operand} {T T' S : TypeId}
end

end

end Go.Proofs.YtpbmhkfbggmofaaDoor
