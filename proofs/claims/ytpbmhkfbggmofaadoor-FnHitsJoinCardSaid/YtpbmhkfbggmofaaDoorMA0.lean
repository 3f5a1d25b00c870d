/- Texts of this seat, put together. -/
import Derived.WalkKit
import Derived.Deep.MidRow
import Derived.OrdersHeld
import Derived.Laws.AppendOwn
import Derived.Below
import Derived.Maps.AppendAt
import Derived.Laws.MakeOwn
import Derived.Laws.StructEq
set_option linter.unusedSimpArgs false
set_option linter.unusedVariables false
namespace Go.Proofs.YtpbmhkfbggmofaaDoor
section

open Go.RowKit

/-! ### slots -/
abbrev Env := List (Nat × Value)
def eget : Env → Nat → Option Value
  | [], _ => none
  | (k, v) :: r, s => bif Nat.beq k s then some v else eget r s

structure Has (n : Nat) (E : Env) (a : Act) : Prop where
  size : a.tmps.size = n
  defers : a.defers = []
  get : ∀ s v, eget E s = some v → a.tmps[s]? = some v

def oev (E : Env) : Operand → Option Value
  | .tmp s => eget E s
  | .const v => some v
  | .global g => some (.pointer (some ⟨g, 0, none⟩))
  | .func f => some (.func (.func f) #[] #[])

section
variable {n : Nat} {E : Env} {a : Act}
theorem Has.eval {x : Operand} {v : Value} (h : Has n E a) (hx : oev E x = some v) : a.eval x = v := by
  cases x with
  | tmp s => simp [oev] at hx; simp [Act.eval, h.get s v hx]
  | const c => simpa [oev, Act.eval] using hx
  | global g => simpa [oev, Act.eval] using hx
  | func f => simpa [oev, Act.eval] using hx
theorem eget_cons (k : Nat) (v : Value) (s : Nat) : eget ((k, v) :: E) s = if k = s then some v else eget E s := by
  show (bif Nat.beq k s then some v else eget E s) = _
  by_cases h : k = s
  · subst h; simp
  · have : Nat.beq k s = false := by
      cases e : Nat.beq k s
      · rfl
      · exact absurd (Nat.eq_of_beq_eq_true e) h
    rw [this, if_neg h]; rfl
theorem Has.put {d : Nat} (h : Has n E a) (hd : Nat.blt d n = true) (v : Value) : Has n ((d, v) :: E) (a.put (some d) v) := by
  have hd' : d < n := Nat.lt_of_succ_le (by simpa [Nat.blt] using hd)
  refine ⟨by simp [Act.put, h.size], by simpa [Act.put] using h.defers, fun s u hs => ?_⟩
  rw [eget_cons] at hs
  simp only [Act.put, Array.getElem?_setIfInBounds]
  by_cases e : d = s
  · subst e
    rw [if_pos rfl] at hs
    rw [if_pos rfl, if_pos (by rw [h.size]; exact hd'), hs]
  · rw [if_neg e] at hs ⊢
    exact h.get s u hs
theorem Has.put_none (h : Has n E a) (v : Value) : Has n E (a.put none v) := h
def Esub (E : Env) : Env → Prop
  | [] => True
  | (s, v) :: r => eget E s = some v ∧ Esub E r
theorem Has.sub {E' : Env} (h : Has n E a) (hs : Esub E E') : Has n E' a := by
  refine ⟨h.size, h.defers, ?_⟩
  induction E' with
  | nil => intro s v hv; simp [eget] at hv
  | cons p r ih =>
    obtain ⟨k, u⟩ := p
    intro s v hv
    rw [eget_cons] at hv
    by_cases e : k = s
    · subst e; rw [if_pos rfl] at hv; cases hv; exact h.get _ _ hs.1
    · rw [if_neg e] at hv; exact ih hs.2 s v hv
theorem Has.enter {args : List Value} {f : Nat} (hn : args.length + f = n) :
    ∀ E, (∀ s v, eget E s = some v → args[s]? = some v) → Has n E { tmps := args.toArray ++ Array.replicate f undef, defers := [] } := fun E hE =>
  ⟨by simp; omega, rfl, fun s v hs => by
    have h := hE s v hs
    have hl : s < args.length := (List.getElem?_eq_some_iff.1 h).1
    simp only [Array.getElem?_append, List.size_toArray, hl, if_true, List.getElem?_toArray, h]⟩
end

/-! ### memory -/
structure Ch where
  foot : Nat → Prop
  holds : (Nat → Prop) → World → Prop
  keep : ∀ F F' w w', (∀ b, F b → F' b) → (∀ b, F b ∨ foot b → w'.heap[b]? = w.heap[b]?) → holds F w → holds F' w'

/-- the blocks that nobody writes: they may be read (G), and no chunk owns them -/
def fz (G : Nat → Prop) (L : List Ch) (w : World) (b : Nat) : Prop := b < w.heap.size ∧ G b ∧ ∀ c ∈ L, ¬ c.foot b

/-- D: elder blocks that may be written; G: the blocks that may be read, all new ones among them -/
structure Mem (G D : Nat → Prop) (w0 : World) (L : List Ch) (w : World) : Prop where
  fresh : ∀ b, (w0.heap.size ≤ b ∨ D b) → G b
  os : w.os = w0.os
  tape : w.tape = w0.tape
  output : w.output = w0.output
  size : w0.heap.size ≤ w.heap.size
  old : ∀ b, b < w0.heap.size → ¬ D b → w.heap[b]? = w0.heap[b]?
  range : ∀ c ∈ L, ∀ b, c.foot b → b < w.heap.size ∧ (w0.heap.size ≤ b ∨ D b)
  disj : L.Pairwise fun c d => ∀ b, c.foot b → ¬ d.foot b
  hold : ∀ c ∈ L, c.holds (fz G L w) w

def lget : List Ch → Nat → Option Ch
  | [], _ => none
  | c :: _, 0 => some c
  | _ :: r, i + 1 => lget r i
def lset : List Ch → Nat → Ch → List Ch
  | [], _, _ => []
  | _ :: r, 0, c => c :: r
  | d :: r, i + 1, c => d :: lset r i c
def ldrop : List Ch → Nat → List Ch
  | [], _ => []
  | _ :: r, 0 => r
  | d :: r, i + 1 => d :: ldrop r i

theorem lget_mem : ∀ {L : List Ch} {i : Nat} {c : Ch}, lget L i = some c → c ∈ L
  | [], _, _, h => by simp [lget] at h
  | d :: r, 0, c, h => by simp [lget] at h; subst h; exact List.mem_cons_self ..
  | d :: r, i + 1, c, h => List.mem_cons_of_mem _ (lget_mem (by simpa [lget] using h))
theorem ldrop_sub : ∀ (L : List Ch) (i : Nat), (ldrop L i).Sublist L
  | [], _ => List.Sublist.refl _
  | _ :: r, 0 => List.sublist_cons_self _ _
  | d :: r, i + 1 => (ldrop_sub r i).cons_cons d
/-- the members of a list with one place set: the new one, or an elder one from another place -/
theorem mem_lset : ∀ {L : List Ch} {i : Nat} {c c' d : Ch}, lget L i = some c → (L.Pairwise fun c d => ∀ b, c.foot b → ¬ d.foot b) → d ∈ lset L i c' → d = c' ∨ (d ∈ L ∧ ∀ b, d.foot b → ¬ c.foot b)
  | [], _, _, _, _, h, _, _ => by simp [lget] at h
  | x :: r, 0, c, c', d, h, hp, hd => by
    simp [lget] at h; subst h
    simp [lset] at hd
    rcases hd with hd | hd
    · exact .inl hd
    · exact .inr ⟨List.mem_cons_of_mem _ hd, fun b h1 h2 => (List.pairwise_cons.1 hp).1 d hd b h2 h1⟩
  | x :: r, i + 1, c, c', d, h, hp, hd => by
    simp [lget] at h
    simp [lset] at hd
    rcases hd with hd | hd
    · subst hd
      exact .inr ⟨List.mem_cons_self .., fun b h1 h2 => (List.pairwise_cons.1 hp).1 c (lget_mem h) b h1 h2⟩
    · rcases mem_lset h (List.pairwise_cons.1 hp).2 hd with e | ⟨e1, e2⟩
      · exact .inl e
      · exact .inr ⟨List.mem_cons_of_mem _ e1, e2⟩
theorem pairwise_lset : ∀ {L : List Ch} {i : Nat} {c c' : Ch}, lget L i = some c → (L.Pairwise fun c d => ∀ b, c.foot b → ¬ d.foot b) →
    (∀ d ∈ L, (∀ b, d.foot b → ¬ c.foot b) → ∀ b, c'.foot b → ¬ d.foot b) → (lset L i c').Pairwise fun c d => ∀ b, c.foot b → ¬ d.foot b
  | [], _, _, _, h, _, _ => by simp [lget] at h
  | x :: r, 0, c, c', h, hp, hc => by
    simp [lget] at h; subst h
    simp only [lset]
    refine List.pairwise_cons.2 ⟨fun d hd => hc d (List.mem_cons_of_mem _ hd) (fun b h1 h2 => (List.pairwise_cons.1 hp).1 d hd b h2 h1), (List.pairwise_cons.1 hp).2⟩
  | x :: r, i + 1, c, c', h, hp, hc => by
    simp [lget] at h
    simp only [lset]
    refine List.pairwise_cons.2 ⟨fun d hd b h1 h2 => ?_, pairwise_lset h (List.pairwise_cons.1 hp).2 (fun d hd => hc d (List.mem_cons_of_mem _ hd))⟩
    rcases mem_lset h (List.pairwise_cons.1 hp).2 hd with e | ⟨e1, e2⟩
    · subst e
      exact hc x (List.mem_cons_self ..) (fun b h3 h4 => (List.pairwise_cons.1 hp).1 c (lget_mem h) b h3 h4) b h2 h1
    · exact (List.pairwise_cons.1 hp).1 d e1 b h1 h2

section
variable {G D : Nat → Prop} {w0 w : World} {L : List Ch}
theorem Mem.start (w0 : World) (G D : Nat → Prop) (L : List Ch) (hG : ∀ b, (w0.heap.size ≤ b ∨ D b) → G b) (hr : ∀ c ∈ L, ∀ b, c.foot b → b < w0.heap.size ∧ D b) (hd : L.Pairwise fun c d => ∀ b, c.foot b → ¬ d.foot b) (hh : ∀ c ∈ L, c.holds (fz G L w0) w0) : Mem G D w0 L w0 :=
  ⟨hG, rfl, rfl, rfl, Nat.le_refl _, fun _ _ _ => rfl, fun c hc b hb => ⟨(hr c hc b hb).1, .inr (hr c hc b hb).2⟩, hd, hh⟩
theorem Mem.base (m : Mem G D w0 L w) (hD : ∀ b, ¬ D b) : Below w0.heap.size w0 w := ⟨m.os, m.tape, m.output, m.size, fun b hb => m.old b hb (hD b)⟩
theorem Mem.sub {L' : List Ch} (m : Mem G D w0 L w) (hs : L'.Sublist L) : Mem G D w0 L' w :=
  ⟨m.fresh, m.os, m.tape, m.output, m.size, m.old, fun c hc => m.range c (hs.subset hc), m.disj.sublist hs,
   fun c hc => c.keep (fz G L w) _ w w (fun b hb => ⟨hb.1, hb.2.1, fun d hd => hb.2.2 d (hs.subset hd)⟩) (fun _ _ => rfl) (m.hold c (hs.subset hc))⟩
theorem Mem.drop (i : Nat) (m : Mem G D w0 L w) : Mem G D w0 (ldrop L i) w := m.sub (ldrop_sub L i)
/-- one chunk changes -/
theorem Mem.upd {i : Nat} {c c' : Ch} {w' : World} (m : Mem G D w0 L w) (hi : lget L i = some c) (ho : w'.os = w.os) (ht : w'.tape = w.tape) (hu : w'.output = w.output) (hz : w.heap.size ≤ w'.heap.size)
    (hb : ∀ b, b < w.heap.size → ¬ c.foot b → w'.heap[b]? = w.heap[b]?) (hf : ∀ b, c'.foot b → b < w'.heap.size ∧ (c.foot b ∨ w.heap.size ≤ b))
    (hh : c'.holds (fz G (lset L i c') w') w') : Mem G D w0 (lset L i c') w' := by
  have hmem := lget_mem hi
  have hfz : ∀ b, fz G L w b → fz G (lset L i c') w' b := fun b hb => ⟨by have := hb.1; omega, hb.2.1, fun d hd => by
    rcases mem_lset hi m.disj hd with e | ⟨e1, _⟩
    · subst e; exact fun h => by rcases (hf b h).2 with h' | h'; exact hb.2.2 c hmem h'; have := hb.1; omega
    · exact hb.2.2 d e1⟩
  refine ⟨m.fresh, ho.trans m.os, ht.trans m.tape, hu.trans m.output, Nat.le_trans m.size hz, fun b hb0 hD => ?_, fun d hd b hdb => ?_, pairwise_lset hi m.disj (fun d hd h b h1 h2 => ?_), fun d hd => ?_⟩
  · refine (hb b (by have := m.size; omega) (fun h => ?_)).trans (m.old b hb0 hD)
    rcases (m.range c hmem b h).2 with h' | h'
    · omega
    · exact hD h'
  · rcases mem_lset hi m.disj hd with e | ⟨e1, _⟩
    · subst e
      refine ⟨(hf b hdb).1, ?_⟩
      rcases (hf b hdb).2 with h | h
      · exact (m.range c hmem b h).2
      · exact .inl (by have := m.size; omega)
    · exact ⟨by have := (m.range d e1 b hdb).1; omega, (m.range d e1 b hdb).2⟩
  · rcases (hf b h1).2 with h' | h'
    · exact h b h2 h'
    · have := (m.range d hd b h2).1; omega
  · rcases mem_lset hi m.disj hd with e | ⟨e1, e2⟩
    · subst e; exact hh
    · refine d.keep (fz G L w) _ w w' hfz (fun b h => ?_) (m.hold d e1)
      rcases h with h | h
      · exact hb b h.1 (h.2.2 c hmem)
      · exact hb b (m.range d e1 b h).1 (e2 b h)
/-- the world grows: nothing that was there changes -/
theorem Mem.grow {w' : World} (m : Mem G D w0 L w) (hb : Below w.heap.size w w') : Mem G D w0 L w' :=
  ⟨m.fresh, hb.os.trans m.os, hb.tape.trans m.tape, hb.output.trans m.output, Nat.le_trans m.size hb.size, fun b h0 hD => (hb.block b (by have := m.size; omega)).trans (m.old b h0 hD),
   fun c hc b h => ⟨by have := (m.range c hc b h).1; have := hb.size; omega, (m.range c hc b h).2⟩, m.disj,
   fun c hc => c.keep (fz G L w) _ w w' (fun b h => ⟨by have := h.1; have := hb.size; omega, h.2.1, h.2.2⟩) (fun b h => hb.block b (by rcases h with h | h; exact h.1; exact (m.range c hc b h).1)) (m.hold c hc)⟩
/-- a new chunk in new memory -/
theorem Mem.add {w' : World} (c : Ch) (m : Mem G D w0 L w) (hb : Below w.heap.size w w') (hf : ∀ b, c.foot b → w.heap.size ≤ b ∧ b < w'.heap.size)
    (hh : c.holds (fz G (c :: L) w') w') : Mem G D w0 (c :: L) w' := by
  have g := m.grow hb
  refine ⟨g.fresh, g.os, g.tape, g.output, g.size, g.old, fun d hd b h => ?_, ?_, fun d hd => ?_⟩
  · rcases List.mem_cons.1 hd with e | e
    · subst e; exact ⟨(hf b h).2, .inl (by have := (hf b h).1; have := m.size; omega)⟩
    · exact g.range d e b h
  · exact List.pairwise_cons.2 ⟨fun d hd b h1 h2 => by have := (hf b h1).1; have := (m.range d hd b h2).1; omega, m.disj⟩
  · rcases List.mem_cons.1 hd with e | e
    · subst e; exact hh
    · refine d.keep (fz G L w) _ w w' (fun b h => ⟨by have := h.1; have := hb.size; omega, h.2.1, fun x hx => ?_⟩) (fun b h => hb.block b (by rcases h with h | h; exact h.1; exact (m.range d e b h).1)) (m.hold d e)
      rcases List.mem_cons.1 hx with e' | e'
      · subst e'; exact fun hk => by have := (hf b hk).1; have := h.1; omega
      · exact h.2.2 x e'
/-- a chunk without blocks of its own -/
theorem Mem.note {c : Ch} (m : Mem G D w0 L w) (hf : ∀ b, ¬ c.foot b) (hh : c.holds (fz G L w) w) : Mem G D w0 (c :: L) w :=
  m.add c (Below.refl _ _) (fun b h => absurd h (hf b)) (c.keep (fz G L w) _ w w (fun b h => ⟨h.1, h.2.1, fun x hx => by
    rcases List.mem_cons.1 hx with e | e
    · subst e; exact hf b
    · exact h.2.2 x e⟩) (fun _ _ => rfl) hh)
def feet (M : List Ch) (b : Nat) : Prop := ∃ c ∈ M, c.foot b
/-- blocks outside D are as they were -/
structure UpdD (D : Nat → Prop) (w w' : World) : Prop where
  os : w'.os = w.os
  tape : w'.tape = w.tape
  output : w'.output = w.output
  size : w.heap.size ≤ w'.heap.size
  block : ∀ b, b < w.heap.size → ¬ D b → w'.heap[b]? = w.heap[b]?
theorem UpdD.below {w w' : World} (h : UpdD (feet []) w w') : Below w.heap.size w w' := ⟨h.os, h.tape, h.output, h.size, fun b hb => h.block b hb (fun ⟨c, hc, _⟩ => by simp at hc)⟩
theorem Mem.updD (m : Mem G D w0 L w) : UpdD D w0 w := ⟨m.os, m.tape, m.output, m.size, m.old⟩
/-- the chunks that a call leaves: in new memory, or where the chunks M0 were that it was given to write -/
structure NewCh (M0 : List Ch) (F : Nat → Prop) (w w' : World) (N : List Ch) : Prop where
  foot : ∀ c ∈ N, ∀ b, c.foot b → (w.heap.size ≤ b ∨ feet M0 b) ∧ b < w'.heap.size
  disj : N.Pairwise fun c d => ∀ b, c.foot b → ¬ d.foot b
  hold : ∀ c ∈ N, c.holds (fz (fun b => F b ∨ w.heap.size ≤ b ∨ feet M0 b) N w') w'
theorem NewCh.nil (M0 : List Ch) (F : Nat → Prop) (w w' : World) : NewCh M0 F w w' [] := ⟨fun c h => by simp at h, List.Pairwise.nil, fun c h => by simp at h⟩
theorem Mem.call {w' : World} {M0 N : List Ch} (m : Mem G D w0 (M0 ++ L) w) (hb : UpdD (feet M0) w w') (hn : NewCh M0 (fz G (M0 ++ L) w) w w' N) : Mem G D w0 (N ++ L) w' := by
  have hz := m.size
  have hapart : ∀ c ∈ L, ∀ b, c.foot b → ¬ feet M0 b := fun c hc b h ⟨d, hd, hdb⟩ => (List.pairwise_append.1 m.disj).2.2 d hd c hc b hdb h
  have inL : ∀ c ∈ L, c ∈ M0 ++ L := fun c hc => List.mem_append.2 (.inr hc)
  have inM : ∀ c ∈ M0, c ∈ M0 ++ L := fun c hc => List.mem_append.2 (.inl hc)
  have footM : ∀ b, feet M0 b → b < w.heap.size ∧ (w0.heap.size ≤ b ∨ D b) := fun b ⟨c, hc, h⟩ => m.range c (inM c hc) b h
  have footN : ∀ c ∈ N, ∀ b, c.foot b → b < w'.heap.size ∧ (w0.heap.size ≤ b ∨ D b) := fun c hc b h => by
    obtain ⟨h1, h2⟩ := hn.foot c hc b h
    refine ⟨h2, ?_⟩
    rcases h1 with h1 | h1
    · exact .inl (by omega)
    · exact (footM b h1).2
  have apartN : ∀ c ∈ N, ∀ d ∈ L, ∀ b, c.foot b → ¬ d.foot b := fun c hc d hd b h1 h2 => by
    rcases (hn.foot c hc b h1).1 with h3 | h3
    · have := (m.range d (inL d hd) b h2).1; omega
    · exact hapart d hd b h2 h3
  refine ⟨m.fresh, hb.os.trans m.os, hb.tape.trans m.tape, hb.output.trans m.output, Nat.le_trans hz hb.size, fun b h0 hD => ?_, fun d hd b h => ?_, ?_, fun d hd => ?_⟩
  · refine (hb.block b (by omega) (fun hf => ?_)).trans (m.old b h0 hD)
    rcases (footM b hf).2 with h | h
    · omega
    · exact hD h
  · rcases List.mem_append.1 hd with e | e
    · exact footN d e b h
    · exact ⟨by have := (m.range d (inL d e) b h).1; have := hb.size; omega, (m.range d (inL d e) b h).2⟩
  · exact List.pairwise_append.2 ⟨hn.disj, (List.pairwise_append.1 m.disj).2.1, apartN⟩
  · rcases List.mem_append.1 hd with e | e
    · refine d.keep _ _ w' w' (fun b h => ?_) (fun _ _ => rfl) (hn.hold d e)
      obtain ⟨h1, h2, h3⟩ := h
      refine ⟨h1, ?_, fun x hx => ?_⟩
      · rcases h2 with h2 | h2 | h2
        · exact h2.2.1
        · exact m.fresh b (.inl (by omega))
        · exact m.fresh b (footM b h2).2
      · rcases List.mem_append.1 hx with e' | e'
        · exact h3 x e'
        · rcases h2 with h2 | h2 | h2
          · exact h2.2.2 x (inL x e')
          · exact fun hk => by have := (m.range x (inL x e') b hk).1; omega
          · exact fun hk => hapart x e' b hk h2
    · refine d.keep (fz G (M0 ++ L) w) _ w w' (fun b h => ⟨by have := h.1; have := hb.size; omega, h.2.1, fun x hx => ?_⟩) (fun b h => ?_) (m.hold d (inL d e))
      · rcases List.mem_append.1 hx with e' | e'
        · intro hk
          rcases (hn.foot x e' b hk).1 with h3 | ⟨c, hc, h3⟩
          · have := h.1; omega
          · exact h.2.2 c (inM c hc) h3
        · exact h.2.2 x (inL x e')
      · rcases h with h | h
        · exact hb.block b h.1 (fun ⟨c, hc, h3⟩ => h.2.2 c (inM c hc) h3)
        · exact hb.block b (m.range d (inL d e) b h).1 (hapart d e b h)
def lpick (L : List Ch) : List Nat → List Ch
  | [] => []
  | i :: r => match lget L i with
    | some c => c :: lpick L r
    | none => lpick L r
def nodupB : List Nat → Bool
  | [] => true
  | i :: r => r.all (fun j => !Nat.beq i j) && nodupB r
theorem lget_disj : ∀ {L : List Ch} {i j : Nat} {c d : Ch}, (L.Pairwise fun c d => ∀ b, c.foot b → ¬ d.foot b) → lget L i = some c → lget L j = some d → i ≠ j → ∀ b, c.foot b → ¬ d.foot b
  | [], _, _, _, _, _, h, _, _ => by simp [lget] at h
  | x :: r, 0, 0, _, _, _, _, _, h => absurd rfl h
  | x :: r, 0, j + 1, c, d, hp, h1, h2, _ => by
    simp [lget] at h1 h2; subst h1
    exact (List.pairwise_cons.1 hp).1 d (lget_mem h2)
  | x :: r, i + 1, 0, c, d, hp, h1, h2, _ => by
    simp [lget] at h1 h2; subst h2
    exact fun b k1 k2 => (List.pairwise_cons.1 hp).1 c (lget_mem h1) b k2 k1
  | x :: r, i + 1, j + 1, c, d, hp, h1, h2, hn => by
    simp [lget] at h1 h2
    exact lget_disj (List.pairwise_cons.1 hp).2 h1 h2 (by omega)
theorem lpick_mem {L : List Ch} : ∀ {l : List Nat} {c : Ch}, c ∈ lpick L l → ∃ i ∈ l, lget L i = some c
  | [], _, h => by simp [lpick] at h
  | i :: r, c, h => by
    simp only [lpick] at h
    split at h
    · rename_i d hd
      rcases List.mem_cons.1 h with e | e
      · exact ⟨i, List.mem_cons_self .., by rw [hd, e]⟩
      · obtain ⟨j, h1, h2⟩ := lpick_mem e; exact ⟨j, List.mem_cons_of_mem _ h1, h2⟩
    · obtain ⟨j, h1, h2⟩ := lpick_mem h; exact ⟨j, List.mem_cons_of_mem _ h1, h2⟩
theorem Mem.pick (l : List Nat) (m : Mem G D w0 L w) (hl : nodupB l = true) : Mem G D w0 (lpick L l) w := by
  have mem : ∀ c ∈ lpick L l, c ∈ L := fun c hc => by obtain ⟨i, _, h⟩ := lpick_mem hc; exact lget_mem h
  refine ⟨m.fresh, m.os, m.tape, m.output, m.size, m.old, fun c hc => m.range c (mem c hc), ?_, fun c hc => c.keep (fz G L w) _ w w (fun b hb => ⟨hb.1, hb.2.1, fun d hd => hb.2.2 d (mem d hd)⟩) (fun _ _ => rfl) (m.hold c (mem c hc))⟩
  clear mem
  induction l with
  | nil => exact List.Pairwise.nil
  | cons i r ih =>
    simp only [nodupB, Bool.and_eq_true, List.all_eq_true] at hl
    simp only [lpick]
    split
    · rename_i c hc
      refine List.pairwise_cons.2 ⟨fun d hd => ?_, ih hl.2⟩
      obtain ⟨j, hj, hd'⟩ := lpick_mem hd
      have hne := hl.1 j hj
      exact lget_disj m.disj hc hd' (fun e => by subst e; simp at hne)
    · exact ih hl.2
/-- nothing of the chunk hangs on what may be read -/
def Ch.free (c : Ch) : Prop := ∀ F F' w, c.holds F w → c.holds F' w
theorem NewCh.of {M0 : List Ch} {F : Nat → Prop} (m : Mem G (feet M0) w0 L w) (l : List Nat) (hl : nodupB l = true) (hf : ∀ c ∈ lpick L l, c.free) : NewCh M0 F w0 w (lpick L l) := by
  have ms := m.pick l hl
  exact ⟨fun c hc b hb => ⟨(ms.range c hc b hb).2, (ms.range c hc b hb).1⟩, ms.disj, fun c hc => hf c hc _ _ _ (ms.hold c hc)⟩
/-- the blocks that a callee may read: F, what is new, and what it may write -/
def gB (F : Nat → Prop) (M0 : List Ch) (w0 : World) (b : Nat) : Prop := F b ∨ w0.heap.size ≤ b ∨ feet M0 b
theorem NewCh.ofB {M0 : List Ch} {F : Nat → Prop} (m : Mem (gB F M0 w0) (feet M0) w0 L w) (l : List Nat) (hl : nodupB l = true) : NewCh M0 F w0 w (lpick L l) := by
  have ms := m.pick l hl
  exact ⟨fun c hc b hb => ⟨(ms.range c hc b hb).2, (ms.range c hc b hb).1⟩, ms.disj, fun c hc => ms.hold c hc⟩
/-- where nothing hangs on what may be read, F is of no weight -/
theorem NewCh.free {M0 N : List Ch} {F F' : Nat → Prop} {w w' : World} (h : NewCh M0 F w w' N) (hf : ∀ c ∈ N, c.free) : NewCh M0 F' w w' N := ⟨h.foot, h.disj, fun c hc => hf c hc _ _ _ (h.hold c hc)⟩
theorem fr_nil : ∀ c ∈ ([] : List Ch), c.free := fun c h => by simp at h
theorem fr_cons {c : Ch} {L : List Ch} (h : c.free) (hL : ∀ c ∈ L, c.free) : ∀ d ∈ c :: L, d.free := fun d hd => by
  rcases List.mem_cons.1 hd with e | e
  · subst e; exact h
  · exact hL d e
theorem Mem.get {i : Nat} {c : Ch} (m : Mem G D w0 L w) (hi : lget L i = some c) : c.holds (fz G L w) w := m.hold c (lget_mem hi)
end

end
section

open Go.RowKit

structure El (α : Type) where
  size : Nat
  cells : (Nat → Prop) → World → α → List Value → Prop
  pos : 0 < size
  len : ∀ F w x cs, cells F w x cs → cs.length = size
  one : ∀ F w x cs, cells F w x cs → ∀ u ∈ cs, u.oneCell' = true
  keep : ∀ F F' w w' x cs, (∀ b, F b → F' b) → (∀ b, F b → w'.heap[b]? = w.heap[b]?) → cells F w x cs → cells F' w' x cs

/-- elements without memory behind them -/
def El.flat {α : Type} (n : Nat) (enc : α → List Value) (hp : 0 < n) (hl : ∀ x, (enc x).length = n) (h1 : ∀ x, ∀ u ∈ enc x, u.oneCell' = true) : El α where
  size := n
  cells := fun _ _ x cs => cs = enc x
  pos := hp
  len := fun _ _ x cs h => by rw [h]; exact hl x
  one := fun _ _ x cs h => by rw [h]; exact h1 x
  keep := fun _ _ _ _ _ _ _ _ h => h

/-- a slice that reads as xs; all that it reaches lies in F -/
def Sl {α : Type} (E : El α) (F : Nat → Prop) (w : World) (v : Value) (xs : List α) : Prop :=
  ∃ a cap, v = .slice a xs.length cap ∧ xs.length ≤ cap ∧
    (0 < xs.length → ∃ b off, a = some ⟨b, off, none⟩ ∧ F b ∧ ∀ i x, xs[i]? = some x → ∃ cs, E.cells F w x cs ∧ w.rangeAt b (off + i * E.size) cs)

theorem rangeAt_keep {w w' : World} {b o : Nat} {cs : List Value} (h : w.rangeAt b o cs) (hb : w'.heap[b]? = w.heap[b]?) : w'.rangeAt b o cs :=
  fun j v hv => (World.cell?_of_block (w := w) hb).trans (h j v hv)

section
variable {α : Type} {E : El α} {F : Nat → Prop} {w : World} {v : Value} {xs : List α}
theorem Sl.keep {F' : Nat → Prop} {w' : World} (h : Sl E F w v xs) (hF : ∀ b, F b → F' b) (hb : ∀ b, F b → w'.heap[b]? = w.heap[b]?) : Sl E F' w' v xs := by
  obtain ⟨a, cap, rfl, hc, hr⟩ := h
  refine ⟨a, cap, rfl, hc, fun h0 => ?_⟩
  obtain ⟨b, off, rfl, hfb, hx⟩ := hr h0
  exact ⟨b, off, rfl, hF b hfb, fun i x hi => by
    obtain ⟨cs, h1, h2⟩ := hx i x hi
    exact ⟨cs, E.keep F F' w w' x cs hF hb h1, rangeAt_keep h2 (hb b hfb)⟩⟩
theorem Sl.nil (E : El α) (F : Nat → Prop) (w : World) (a : Option Addr) (cap : Nat) : Sl E F w (.slice a 0 cap) [] := ⟨a, cap, rfl, Nat.zero_le _, fun h => by simp at h⟩
/-- where element i lies -/
theorem Sl.at (h : Sl E F w v xs) {i : Nat} {x : α} (hi : xs[i]? = some x) :
    ∃ b off cap cs, v = .slice (some ⟨b, off, none⟩) xs.length cap ∧ E.cells F w x cs ∧ w.rangeAt b (off + i * E.size) cs := by
  obtain ⟨a, cap, rfl, hc, hr⟩ := h
  obtain ⟨b, off, rfl, hfb, hx⟩ := hr (by have := (List.getElem?_eq_some_iff.1 hi).1; omega)
  obtain ⟨cs, h1, h2⟩ := hx i x hi
  exact ⟨b, off, cap, cs, rfl, h1, h2⟩
theorem Sl.len_eq (h : Sl E F w v xs) : ∃ a cap, v = .slice a xs.length cap := by
  obtain ⟨a, cap, rfl, _⟩ := h
  exact ⟨a, cap, rfl⟩
end

/-- the cells of all elements, one behind the other -/
def Rows {α : Type} (E : El α) (F : Nat → Prop) (w : World) : List α → List (List Value) → Prop
  | [], [] => True
  | x :: xs, cs :: css => E.cells F w x cs ∧ Rows E F w xs css
  | _, _ => False

section
variable {α : Type} {E : El α} {F : Nat → Prop} {w : World}
theorem Rows.keep {F' : Nat → Prop} {w' : World} (hF : ∀ b, F b → F' b) (hb : ∀ b, F b → w'.heap[b]? = w.heap[b]?) : ∀ {xs : List α} {css : List (List Value)}, Rows E F w xs css → Rows E F' w' xs css
  | [], [], _ => trivial
  | _ :: _, _ :: _, h => ⟨E.keep F F' w w' _ _ hF hb h.1, Rows.keep hF hb h.2⟩
  | [], _ :: _, h => h.elim
  | _ :: _, [], h => h.elim
theorem Rows.length : ∀ {xs : List α} {css : List (List Value)}, Rows E F w xs css → css.flatten.length = xs.length * E.size
  | [], [], _ => by simp
  | _ :: xs, cs :: css, h => by simp [E.len _ _ _ _ h.1, Rows.length h.2, Nat.add_mul, Nat.add_comm]
  | [], _ :: _, h => h.elim
  | _ :: _, [], h => h.elim
theorem Rows.one : ∀ {xs : List α} {css : List (List Value)}, Rows E F w xs css → ∀ u ∈ css.flatten, u.oneCell' = true
  | [], [], _ => by simp
  | _ :: xs, cs :: css, h => by
    intro u hu
    simp only [List.flatten_cons, List.mem_append] at hu
    rcases hu with hu | hu
    · exact E.one _ _ _ _ h.1 u hu
    · exact Rows.one h.2 u hu
  | [], _ :: _, h => h.elim
  | _ :: _, [], h => h.elim
theorem Rows.append : ∀ {xs ys : List α} {css dss : List (List Value)}, Rows E F w xs css → Rows E F w ys dss → Rows E F w (xs ++ ys) (css ++ dss)
  | [], _, [], _, _, h => h
  | _ :: _, _, _ :: _, _, h, k => ⟨h.1, Rows.append h.2 k⟩
  | [], _, _ :: _, _, h, _ => h.elim
  | _ :: _, _, [], _, h, _ => h.elim
/-- element i among the cells -/
theorem Rows.get : ∀ {xs : List α} {css : List (List Value)}, Rows E F w xs css → ∀ {i : Nat} {x : α}, xs[i]? = some x → ∃ cs, E.cells F w x cs ∧ ∀ j v, cs[j]? = some v → css.flatten[i * E.size + j]? = some v
  | [], [], _, i, x, h => by simp at h
  | y :: xs, cs :: css, h, i, x, hi => by
    have hl := E.len _ _ _ _ h.1
    cases i with
    | zero =>
      simp at hi
      subst hi
      exact ⟨cs, h.1, fun j v hv => by
        have hj := (List.getElem?_eq_some_iff.1 hv).1
        simp only [List.flatten_cons, Nat.zero_mul, Nat.zero_add, List.getElem?_append, hj, if_true, hv]⟩
    | succ i =>
      simp at hi
      obtain ⟨ds, h1, h2⟩ := Rows.get h.2 hi
      refine ⟨ds, h1, fun j v hv => ?_⟩
      have e : (i + 1) * E.size + j = cs.length + (i * E.size + j) := by rw [hl, Nat.add_mul]; omega
      rw [List.flatten_cons, e, List.getElem?_append_right (by omega)]
      simpa using h2 j v hv
  | [], _ :: _, h, _, _, _ => h.elim
  | _ :: _, [], h, _, _, _ => h.elim
/-- element i is replaced -/
theorem Rows.set : ∀ {xs : List α} {css : List (List Value)}, Rows E F w xs css → ∀ (i : Nat) {y : α} {ds : List Value}, i < xs.length → E.cells F w y ds →
    ∃ pre post old, css.flatten = pre ++ old ++ post ∧ pre.length = i * E.size ∧ old.length = E.size ∧ ∃ css', css'.flatten = pre ++ ds ++ post ∧ Rows E F w (xs.set i y) css'
  | [], [], _, i, y, ds, hi, _ => by simp at hi
  | x :: xs, cs :: css, h, i, y, ds, hi, hy => by
    have hl := E.len _ _ _ _ h.1
    cases i with
    | zero => exact ⟨[], css.flatten, cs, by simp, by simp, hl, ds :: css, by simp, hy, h.2⟩
    | succ i =>
      obtain ⟨pre, post, old, h1, h2, h3, css', h4, h5⟩ := Rows.set h.2 i (by simpa using hi) hy
      exact ⟨cs ++ pre, post, old, by simp [h1], by simp [h2, hl, Nat.add_mul]; omega, h3, cs :: css', by simp [h4], h.1, h5⟩
  | [], _ :: _, h, _, _, _, _, _ => h.elim
  | _ :: _, [], h, _, _, _, _, _ => h.elim
end

/-- a slice of the call's own, made or grown by it -/
def Own {α : Type} (E : El α) (ty : TypeId) (F : Nat → Prop) (w : World) (v : Value) (xs : List α) : Prop :=
  ∃ css, Rows E F w xs css ∧ w.ownsRow 0 ty E.size v xs.length css.flatten

theorem ownsRow_keep {w w' : World} {B : Nat} {ty : TypeId} {k n : Nat} {v : Value} {cs : List Value} (h : w.ownsRow B ty k v n cs) (hb : ∀ b, v.ownBlock = some b → w'.heap[b]? = w.heap[b]?) : w'.ownsRow B ty k v n cs := by
  refine ⟨h.1, ?_⟩
  rcases h.2 with h2 | ⟨g, cap, cur, rfl, h3, h4, h5⟩
  · exact .inl h2
  · exact .inr ⟨g, cap, cur, rfl, h3, (hb g rfl).trans h4, h5⟩
section
variable {α : Type} {E : El α} {ty : TypeId} {F : Nat → Prop} {w : World} {v : Value} {xs : List α}
theorem Own.keep {F' : Nat → Prop} {w' : World} (h : Own E ty F w v xs) (hF : ∀ b, F b → F' b) (hb : ∀ b, F b ∨ v.ownBlock = some b → w'.heap[b]? = w.heap[b]?) : Own E ty F' w' v xs := by
  obtain ⟨css, h1, h2⟩ := h
  exact ⟨css, h1.keep hF (fun b h => hb b (.inl h)), ownsRow_keep h2 (fun b h => hb b (.inr h))⟩
theorem Own.sl {F' : Nat → Prop} (h : Own E ty F w v xs) (hF : ∀ b, F b → F' b) (hv : ∀ b, v.ownBlock = some b → F' b) : Sl E F' w v xs := by
  obtain ⟨css, h1, h2, h3⟩ := h
  rcases h3 with ⟨rfl, h4⟩ | ⟨g, cap, cur, rfl, _, hg, hle, _, hcur, htake⟩
  · have : xs = [] := List.eq_nil_of_length_eq_zero h4
    subst this
    exact Sl.nil ..
  · refine ⟨_, cap, rfl, hle, fun _ => ⟨g, 0, rfl, hv g rfl, fun i x hi => ?_⟩⟩
    obtain ⟨cs, k1, k2⟩ := (h1.keep hF (fun _ _ => rfl)).get hi
    refine ⟨cs, k1, fun j u hu => ?_⟩
    rw [cell_of_row w g _ cur ty (0, 0) hg]
    have := k2 j u hu
    rw [← htake, List.getElem?_take] at this
    split at this
    · simpa using this
    · cases this
theorem Own.nil (E : El α) (ty : TypeId) (F : Nat → Prop) (w : World) : Own E ty F w (.slice none 0 0) [] := ⟨[], trivial, World.ownsRow_nil ..⟩
theorem Own.lt (h : Own E ty F w v xs) : ∀ b, v.ownBlock = some b → b < w.heap.size := by
  obtain ⟨css, h1, h2⟩ := h
  exact fun b hb => (h2.lt b hb).2
end

/-! ### kinds of chunks -/
def cellCh (b : Nat) (cs : List Value) (T : TypeId) : Ch where
  foot := fun x => x = b
  holds := fun _ w => w.heap[b]? = some (.cells cs.toArray T (0, 0))
  keep := fun _ _ _ _ _ h k => (h b (.inr rfl)).trans k
def roCh {α : Type} (E : El α) (v : Value) (xs : List α) : Ch where
  foot := fun _ => False
  holds := fun F w => Sl E F w v xs
  keep := fun _ _ _ _ hF hb h => h.keep hF (fun b hb' => hb b (.inl hb'))
def ownCh {α : Type} (E : El α) (ty : TypeId) (v : Value) (xs : List α) : Ch where
  foot := fun b => v.ownBlock = some b
  holds := fun F w => Own E ty F w v xs
  keep := fun _ _ _ _ hF hb h => h.keep hF hb

/-- the chunk lets the slice be read -/
def Reads {α : Type} (c : Ch) (E : El α) (v : Value) (xs : List α) : Prop := ∀ F w, c.holds F w → Sl E (fun b => F b ∨ c.foot b) w v xs
theorem reads_ro {α : Type} {E : El α} {v : Value} {xs : List α} : Reads (roCh E v xs) E v xs := fun F w h => h.keep (fun b hb => .inl hb) (fun _ _ => rfl)
theorem reads_own {α : Type} {E : El α} {ty : TypeId} {v : Value} {xs : List α} : Reads (ownCh E ty v xs) E v xs := fun F w h => h.sl (fun b hb => .inl hb) (fun b hb => .inr hb)

section
variable {α : Type} {E' : El α} {w : World} {F : Nat → Prop} {v : Value} {xs : List α}
/-- the slice reads; what its elements hang on lies in F, its row in F' -/
def Sl2 {α : Type} (E : El α) (F F' : Nat → Prop) (w : World) (v : Value) (xs : List α) : Prop :=
  ∃ a cap, v = .slice a xs.length cap ∧ xs.length ≤ cap ∧
    (0 < xs.length → ∃ b off, a = some ⟨b, off, none⟩ ∧ F' b ∧ ∀ i x, xs[i]? = some x → ∃ cs, E.cells F w x cs ∧ w.rangeAt b (off + i * E.size) cs)
/-- the chunk lets the slice be read, what its elements hang on standing still -/
def Src {α : Type} (c : Ch) (E : El α) (v : Value) (xs : List α) : Prop := ∀ F w, c.holds F w → Sl2 E F (fun b => F b ∨ c.foot b) w v xs
theorem src_ro : Src (roCh E' v xs) E' v xs := fun F w ⟨a, cap, h1, h2, h3⟩ => ⟨a, cap, h1, h2, fun h0 => by
  obtain ⟨b, off, k1, k2, k3⟩ := h3 h0
  exact ⟨b, off, k1, .inl k2, k3⟩⟩
theorem src_own {e : TypeId} : Src (ownCh E' e v xs) E' v xs := fun F w ⟨css, h1, h2, h3⟩ => by
  rcases h3 with ⟨rfl, h4⟩ | ⟨g, cap, cur, rfl, _, hg, hle, _, hcur, htake⟩
  · have : xs = [] := List.eq_nil_of_length_eq_zero h4
    subst this
    exact ⟨none, 0, rfl, Nat.le_refl _, fun h => by simp at h⟩
  · refine ⟨_, cap, rfl, hle, fun _ => ⟨g, 0, rfl, .inr rfl, fun i x hi => ?_⟩⟩
    obtain ⟨cs, k1, k2⟩ := h1.get hi
    refine ⟨cs, k1, fun j u hu => ?_⟩
    rw [cell_of_row w g _ cur e (0, 0) hg]
    have := k2 j u hu
    rw [← htake, List.getElem?_take] at this
    split at this
    · simpa using this
    · cases this
theorem Sl2.at {F' : Nat → Prop} (h : Sl2 E' F F' w v xs) {i : Nat} {x : α} (hi : xs[i]? = some x) :
    ∃ b off cap cs, v = .slice (some ⟨b, off, none⟩) xs.length cap ∧ F' b ∧ E'.cells F w x cs ∧ w.rangeAt b (off + i * E'.size) cs := by
  obtain ⟨a, cap, rfl, hc, hr⟩ := h
  obtain ⟨b, off, rfl, hfb, hx⟩ := hr (by have := (List.getElem?_eq_some_iff.1 hi).1; omega)
  obtain ⟨cs, h1, h2⟩ := hx i x hi
  exact ⟨b, off, cap, cs, rfl, hfb, h1, h2⟩
end
/-- what a block's cells are behind a store -/
def lput : List Value → Nat → List Value → List Value
  | cs, _, [] => cs
  | cs, o, v :: r => lput (cs.set o v) (o + 1) r
theorem lput_length : ∀ (vs cs : List Value) (o : Nat), (lput cs o vs).length = cs.length
  | [], _, _ => rfl
  | v :: r, cs, o => by rw [lput, lput_length r]; simp
theorem setCells_heap (b : Nat) (T : TypeId) (z : Nat × Nat) : ∀ (vs : List Value) (o : Nat) (cs : List Value) (w : World), w.heap[b]? = some (.cells cs.toArray T z) →
    (w.setCells b o vs).heap[b]? = some (.cells (lput cs o vs).toArray T z)
  | [], _, _, _, h => h
  | v :: r, o, cs, w, h => by
    rw [World.setCells, lput]
    refine setCells_heap b T z r (o + 1) (cs.set o v) _ ?_
    simp [World.setCell, Array.getElem?_modify, h]
theorem setCells_other (b : Nat) : ∀ (vs : List Value) (o : Nat) (w : World) (k : Nat), k ≠ b → (w.setCells b o vs).heap[k]? = w.heap[k]?
  | [], _, _, _, _ => rfl
  | v :: r, o, w, k, h => by rw [World.setCells, setCells_other b r _ _ k h, Below.heap_setCell _ _ _ _ h]
theorem setCells_size (b : Nat) : ∀ (vs : List Value) (o : Nat) (w : World), (w.setCells b o vs).heap.size = w.heap.size
  | [], _, _ => rfl
  | v :: r, o, w => by rw [World.setCells, setCells_size b r]; simp [World.setCell]
theorem setCells_rest (b : Nat) : ∀ (vs : List Value) (o : Nat) (w : World), (w.setCells b o vs).os = w.os ∧ (w.setCells b o vs).tape = w.tape ∧ (w.setCells b o vs).output = w.output
  | [], _, _ => ⟨rfl, rfl, rfl⟩
  | v :: r, o, w => by rw [World.setCells]; exact setCells_rest b r _ _

end
section

open Go.RowKit

/-- from every frame with these slots and every world with these chunks, under φ, R holds -/
def Nx (n : Nat) (G D : Nat → Prop) (w0 : World) (R : Act → World → Prop) (E : Env) (L : List Ch) (φ : Prop) : Prop :=
  ∀ a w, Has n E a → Mem G D w0 L w → φ → R a w

theorem nx_of {n : Nat} {G D : Nat → Prop} {w0 : World} {R : Act → World → Prop} {E : Env} {L : List Ch} {φ : Prop} {a : Act} {w : World} (hE : Has n E a) (hm : Mem G D w0 L w) (hφ : φ) (h : Nx n G D w0 R E L φ) : R a w := h a w hE hm hφ

/-! ### the pure side -/
def I64 (x : Int) : Prop := -9223372036854775808 ≤ x ∧ x ≤ 9223372036854775807
def addW (x y : Int) (κ : Int → Prop) : Prop := I64 (x + y) ∧ κ (x + y)
def subW (x y : Int) (κ : Int → Prop) : Prop := I64 (x - y) ∧ κ (x - y)
def mulW (x y : Int) (κ : Int → Prop) : Prop := I64 (x * y) ∧ κ (x * y)
def quoW (x y : Int) (κ : Int → Prop) : Prop := 0 < y ∧ I64 x ∧ κ (x.tdiv y)
def remW (x y : Int) (κ : Int → Prop) : Prop := 0 ≤ x ∧ 0 < y ∧ I64 x ∧ κ (x % y)
/-- arithmetic as the machine has it -/
def w64 (x : Int) : Int := IntKind.i64.wrap x
def ifW (c : Bool) (A B : Prop) : Prop := (c = true → A) ∧ (c = false → B)
def idxW {α : Type} (xs : List α) (i : Int) (κ : α → Prop) : Prop := ∃ x, 0 ≤ i ∧ xs[i.toNat]? = some x ∧ κ x
def iterW {σ : Type} (F : (σ → Prop) → σ → Prop) : Nat → σ → Prop
  | 0 => fun _ => False
  | n + 1 => F (iterW F n)
def loopW {σ : Type} (F : (σ → Prop) → σ → Prop) (s : σ) : Prop := ∃ n, iterW F n s
def jnW {σ : Type} (K : σ → Prop) (B : (σ → Prop) → Prop) : Prop := B K
def lenOk (n : Nat) : Prop := n ≤ 4294967296
def appW {α : Type} (xs ys : List α) (κ : List α → Prop) : Prop := lenOk (xs.length + ys.length) ∧ κ (xs ++ ys)
def makeW {α : Type} (z : α) (n m : Int) (κ : List α → Prop) : Prop := 0 ≤ n ∧ n ≤ m ∧ lenOk m.toNat ∧ κ (List.replicate n.toNat z)

theorem loopW_inv {σ : Type} {F : (σ → Prop) → σ → Prop} (I : σ → Prop) (μ : σ → Nat) (h : ∀ s next, I s → (∀ s', I s' → μ s' < μ s → next s') → F next s) {s : σ} (h0 : I s) : loopW F s := by
  have key : ∀ n s, I s → μ s < n → iterW F n s := by
    intro n
    induction n with
    | zero => intro s _ hlt; omega
    | succ n ih => exact fun s hI hlt => h s _ hI (fun s' hI' hlt' => ih s' hI' (by omega))
  exact ⟨μ s + 1, key _ s h0 (by omega)⟩

section
variable {P : Program} {n : Nat} {G D : Nat → Prop} {w0 : World} {Q : Exit → Act → World → Prop} {ops : Array Oper} {rest : List Oper} {R : Act → World → Prop} {E : Env} {L : List Ch} {φ : Prop}

/-! ### code -/
theorem stw {dst : Option Tmp} {op : Op} {ty : TypeId} {pos : String} {aft : Array Edge} (h : Nx n G D w0 (fun a w => Oper.wp P ⟨dst, op, ty, pos, aft, none⟩ a w (wpList P ops Q rest) Q) E L φ) : Nx n G D w0 (wpList P ops Q (⟨dst, op, ty, pos, aft, none⟩ :: rest)) E L φ :=
  fun a w hE hm hφ => by
    unfold wpList
    rw [if_pos (by simp [Region.wanted])]
    exact .inl (h a w hE hm hφ)
theorem c_nil (h : Nx n G D w0 (Q .normal) E L φ) : Nx n G D w0 (wpList P ops Q []) E L φ := h
theorem c_seq {x y : Code} (h : Nx n G D w0 (x.wp P (Exit.then (y.wp P Q) Q)) E L φ) : Nx n G D w0 ((Code.seq x y).wp P Q) E L φ := fun a w hE hm hφ => wp_seq (h a w hE hm hφ)
theorem c_block {id : Nat} {c : Code} (h : Nx n G D w0 (c.wp P (Exit.inBlock id Q)) E L φ) : Nx n G D w0 ((Code.block id c).wp P Q) E L φ := fun a w hE hm hφ => wp_block (h a w hE hm hφ)
theorem c_region {id : Nat} {l : List Oper} (h : Nx n G D w0 (wpList P l.toArray Q l) E L φ) : Nx n G D w0 ((Code.region id l.toArray false).wp P Q) E L φ := fun a w hE hm hφ => wp_region_lit (h a w hE hm hφ)
theorem c_skip (h : Nx n G D w0 (Q .normal) E L φ) : Nx n G D w0 (Code.skip.wp P Q) E L φ := fun a w hE hm hφ => wp_skip (h a w hE hm hφ)
theorem c_ret (h : Nx n G D w0 (Q .ret) E L φ) : Nx n G D w0 (Code.ret.wp P Q) E L φ := fun a w hE hm hφ => wp_ret (h a w hE hm hφ)
theorem c_exit {id : Nat} (h : Nx n G D w0 (Q (.exit id)) E L φ) : Nx n G D w0 ((Code.exit id).wp P Q) E L φ := fun a w hE hm hφ => wp_exit (h a w hE hm hφ)
theorem c_cond {c : Operand} {x y : Code} {t : Bool} {A B : Prop} (hc : oev E c = some (.bool t)) (hx : Nx n G D w0 (x.wp P Q) E L A) (hy : Nx n G D w0 (y.wp P Q) E L B) : Nx n G D w0 ((Code.cond c x y).wp P Q) E L (ifW t A B) :=
  fun a w hE hm hφ => wp_cond_split (hE.eval hc) (fun h => hx a w hE hm (hφ.1 h)) (fun h => hy a w hE hm (hφ.2 h))
/-! leaves -/
theorem l_then {K : Act → World → Prop} (h : Nx n G D w0 K E L φ) : Nx n G D w0 (Exit.then K Q .normal) E L φ := h
theorem l_exit {K : Act → World → Prop} {id : Nat} (h : Nx n G D w0 (Q (.exit id)) E L φ) : Nx n G D w0 (Exit.then K Q (.exit id)) E L φ := h
theorem l_ret {K : Act → World → Prop} (h : Nx n G D w0 (Q .ret) E L φ) : Nx n G D w0 (Exit.then K Q .ret) E L φ := h
theorem b_norm {id : Nat} (h : Nx n G D w0 (Q .normal) E L φ) : Nx n G D w0 (Exit.inBlock id Q .normal) E L φ := h
theorem b_ret {id : Nat} (h : Nx n G D w0 (Q .ret) E L φ) : Nx n G D w0 (Exit.inBlock id Q .ret) E L φ := h
theorem b_exit {id : Nat} (h : Nx n G D w0 (Q .normal) E L φ) : Nx n G D w0 (Exit.inBlock id Q (.exit id)) E L φ := fun a w hE hm hφ => by
  show (if id = id then Q .normal a w else Q (.exit id) a w)
  rw [if_pos rfl]; exact h a w hE hm hφ
/-! loops and joins -/
theorem least_of {p : Nat → Prop} (h : ∃ k, p k) : ∃ m, p m ∧ ∀ k, p k → m ≤ k := by
  obtain ⟨k, hk⟩ := h
  induction k using Nat.strongRecOn with
  | _ k ih =>
    by_cases h : ∃ j, j < k ∧ p j
    · obtain ⟨j, hj, hp⟩ := h
      exact ih j hj hp
    · exact ⟨k, hk, fun j hj => Nat.le_of_not_lt fun hlt => h ⟨j, hlt, hj⟩⟩
theorem wp_loop_idx {c : Code} {a : Act} {w : World} (J : Nat → Act → World → Prop) (h0 : ∃ k, J k a w)
    (round : ∀ k a w, J k a w → c.wp P (Exit.then (fun a' w' => ∃ m, m < k ∧ J m a' w') Q) a w) : (Code.loop c).wp P Q a w := by
  have mu : ∀ a w, ∃ m, ∀ k, J k a w → J m a w ∧ m ≤ k := fun a w => by
    by_cases h : ∃ k, J k a w
    · obtain ⟨m, h1, h2⟩ := least_of (p := fun k => J k a w) h
      exact ⟨m, fun k hk => ⟨h1, h2 k hk⟩⟩
    · exact ⟨0, fun k hk => absurd ⟨k, hk⟩ h⟩
  let μ : Act → World → Nat := fun a w => Classical.choose (mu a w)
  have hμ : ∀ a w k, J k a w → J (μ a w) a w ∧ μ a w ≤ k := fun a w => Classical.choose_spec (mu a w)
  refine wp_loop (fun a w => ∃ k, J k a w) μ h0 (fun a w hI => ?_)
  obtain ⟨k, hk⟩ := hI
  refine Code.wp_mono (fun e a' w' q => ?_) (round (μ a w) a w (hμ a w k hk).1)
  cases e with
  | normal =>
    obtain ⟨m, hlt, hJ⟩ := q
    exact ⟨⟨m, hJ⟩, Nat.lt_of_le_of_lt (hμ a' w' m hJ).2 hlt⟩
  | _ => exact q
theorem c_loop {σ : Type} {F : (σ → Prop) → σ → Prop} {s0 : σ} {c : Code} (Rel : σ → Act → World → Prop) (hinit : ∀ a w, Has n E a → Mem G D w0 L w → Rel s0 a w)
    (round : ∀ (nx : σ → Prop) s a w, Rel s a w → F nx s → c.wp P (Exit.then (fun a' w' => ∃ s', nx s' ∧ Rel s' a' w') Q) a w) : Nx n G D w0 ((Code.loop c).wp P Q) E L (loopW F s0) :=
  fun a w hE hm ⟨k, hk⟩ => wp_loop_idx (fun k a w => ∃ s, iterW F k s ∧ Rel s a w) ⟨k, s0, hk, hinit a w hE hm⟩ fun k a w ⟨s, hk, hr⟩ => by
    cases k with
    | zero => exact hk.elim
    | succ k =>
      refine Code.wp_mono (fun e a' w' q => ?_) (round (iterW F k) s a w hr hk)
      cases e with
      | normal =>
        obtain ⟨s', h1, h2⟩ := q
        exact ⟨k, Nat.lt_succ_self _, s', h1, h2⟩
      | _ => exact q
theorem c_join {σ : Type} {K : σ → Prop} {B : (σ → Prop) → Prop} {x y : Code} (Rel : σ → Act → World → Prop) (hx : ∀ k : σ → Prop, Nx n G D w0 (x.wp P (Exit.then (fun a w => ∃ s, k s ∧ Rel s a w) Q)) E L (B k))
    (hy : ∀ s a w, Rel s a w → K s → y.wp P Q a w) : Nx n G D w0 ((Code.seq x y).wp P Q) E L (jnW K B) :=
  fun a w hE hm hφ => wp_seq (Code.wp_mono (fun e a' w' q => by
    cases e with
    | normal => obtain ⟨s, h1, h2⟩ := q; exact hy s a' w' h2 h1
    | _ => exact q) (hx K a w hE hm hφ))
theorem c_join1 {σ : Type} {K : σ → Prop} {B : (σ → Prop) → Prop} {x : Code} (Rel : σ → Act → World → Prop) (hx : ∀ k : σ → Prop, Nx n G D w0 (x.wp P (Exit.then (fun a w => ∃ s, k s ∧ Rel s a w) Q)) E L (B k))
    (hy : ∀ s a w, Rel s a w → K s → Q .normal a w) : Nx n G D w0 (x.wp P Q) E L (jnW K B) :=
  fun a w hE hm hφ => Code.wp_mono (fun e a' w' q => by
    cases e with
    | normal => obtain ⟨s, h1, h2⟩ := q; exact hy s a' w' h2 h1
    | _ => exact q) (hx K a w hE hm hφ)
/-- the end of a way to a join, or of a round -/
theorem l_join {σ : Type} {k : σ → Prop} {Rel : σ → Act → World → Prop} (s : σ) (h : ∀ a w, Has n E a → Mem G D w0 L w → Rel s a w) : Nx n G D w0 (Exit.then (fun a w => ∃ s, k s ∧ Rel s a w) Q .normal) E L (k s) :=
  fun a w hE hm hφ => ⟨s, hφ, h a w hE hm⟩
/-- the frame is written anew -/
theorem re {E' : Env} (hs : Esub E E') (h : Nx n G D w0 R E' L φ) : Nx n G D w0 R E L φ := fun a w hE hm hφ => h a w (hE.sub hs) hm hφ
end

/-! ### operations that leave the world alone -/
section
variable {P : Program} {n : Nat} {G D : Nat → Prop} {w0 : World} {Q : Exit → Act → World → Prop} {R : Act → World → Prop} {E : Env} {L : List Ch} {φ : Prop}
variable {d : Tmp} {ty : TypeId} {pos : String} {aft : Array Edge} {gd : Option (Nat × Bool)} {Tk : Act → World → Prop} {Lr : List Ch} {x y : Operand} {T T' : TypeId}

/-- what an operation leaves in its slot; the world stands -/
theorem o_val {o : Oper} {v : Value} (hd : Nat.blt d n = true) (ho : o.dst = some d) (hr : ∀ (ρ : Operand → Value) w, (∀ x v, oev E x = some v → ρ x = v) → Mem G D w0 L w → φ → (execOp ρ o).run P w = .ok (.value v) w)
    {ψ : Prop} (hψ : φ → ψ) (k : Nx n G D w0 R ((d, v) :: E) L ψ) : Nx n G D w0 (fun a w => o.wp P a w R Q) E L φ := fun a w hE hm hφ => by
  show o.upon P a R Q ((execOp a.eval o).run P w)
  rw [hr a.eval w (fun x v h => hE.eval h) hm hφ, Oper.upon_value, ho]
  exact k _ _ (hE.put hd v) hm (hψ hφ)
/-- a way to take an operation that leaves the world alone; the chunks Lr are those that it may read -/
structure Mode (P : Program) (n : Nat) (G D : Nat → Prop) (w0 : World) (E : Env) (o : Oper) (Tk Rk : Act → World → Prop) (Lr L : List Ch) : Prop where
  val : ∀ {φ ψ : Prop} {d : Tmp} {v : Value}, Nat.blt d n = true → o.dst = some d → (∀ (ρ : Operand → Value) w, (∀ x v, oev E x = some v → ρ x = v) → Mem G D w0 Lr w → φ → (execOp ρ o).run P w = .ok (.value v) w) →
    (φ → ψ) → Nx n G D w0 Rk ((d, v) :: E) L ψ → Nx n G D w0 Tk E L φ
/-- the next operation of a plain region -/
theorem st {ops : Array Oper} {rest : List Oper} {dst : Option Tmp} {op : Op} : Mode P n G D w0 E ⟨dst, op, ty, pos, aft, none⟩ (wpList P ops Q (⟨dst, op, ty, pos, aft, none⟩ :: rest)) (wpList P ops Q rest) L L :=
  ⟨fun hd ho hr hψ k => stw (o_val hd ho hr hψ k)⟩
theorem o_mv (M : Mode P n G D w0 E ⟨some d, .move x, ty, pos, aft, gd⟩ Tk R Lr L) {v : Value} (hx : oev E x = some v) (hd : Nat.blt d n = true) (k : Nx n G D w0 R ((d, v) :: E) L φ) : Nx n G D w0 Tk E L φ :=
  M.val hd rfl (fun ρ w hE _ _ => by simp [execOp, hE _ _ hx]) id k
theorem o_as (M : Mode P n G D w0 E ⟨some d, .assign x, ty, pos, aft, gd⟩ Tk R Lr L) {v : Value} (hx : oev E x = some v) (hd : Nat.blt d n = true) (k : Nx n G D w0 R ((d, v) :: E) L φ) : Nx n G D w0 Tk E L φ :=
  M.val hd rfl (fun ρ w hE _ _ => by simp [execOp, hE _ _ hx]) id k
theorem o_not (M : Mode P n G D w0 E ⟨some d, .unOp .not T x, ty, pos, aft, gd⟩ Tk R Lr L) {b : Bool} (hx : oev E x = some (.bool b)) (hd : Nat.blt d n = true) (k : Nx n G D w0 R ((d, .bool (!b)) :: E) L φ) : Nx n G D w0 Tk E L φ :=
  M.val hd rfl (fun ρ w hE _ _ => by simp [execOp, hE _ _ hx, go_sem]) id k
theorem o_addw (M : Mode P n G D w0 E ⟨some d, .binOp .add T x y T', ty, pos, aft, gd⟩ Tk R Lr L) {X Y : Int} (hx : oev E x = some (.int .i64 X)) (hy : oev E y = some (.int .i64 Y)) (hd : Nat.blt d n = true) (k : Nx n G D w0 R ((d, .int .i64 (w64 (X + Y))) :: E) L φ) : Nx n G D w0 Tk E L φ :=
  M.val hd rfl (fun ρ w hE _ _ => by simp [execOp, hE _ _ hx, hE _ _ hy, go_sem, w64]) id k
theorem o_mulw (M : Mode P n G D w0 E ⟨some d, .binOp .mul T x y T', ty, pos, aft, gd⟩ Tk R Lr L) {X Y : Int} (hx : oev E x = some (.int .i64 X)) (hy : oev E y = some (.int .i64 Y)) (hd : Nat.blt d n = true) (k : Nx n G D w0 R ((d, .int .i64 (w64 (X * Y))) :: E) L φ) : Nx n G D w0 Tk E L φ :=
  M.val hd rfl (fun ρ w hE _ _ => by simp [execOp, hE _ _ hx, hE _ _ hy, go_sem, w64]) id k
theorem o_add (M : Mode P n G D w0 E ⟨some d, .binOp .add T x y T', ty, pos, aft, gd⟩ Tk R Lr L) {X Y : Int} {κ : Int → Prop} (hx : oev E x = some (.int .i64 X)) (hy : oev E y = some (.int .i64 Y)) (hd : Nat.blt d n = true) (k : ∀ z, Nx n G D w0 R ((d, .int .i64 z) :: E) L (κ z)) :
    Nx n G D w0 Tk E L (addW X Y κ) :=
  M.val (v := .int .i64 (X + Y)) hd rfl (fun ρ w hE _ hφ => by
    have h := hφ.1
    have e : IntKind.i64.wrap (X + Y) = X + Y := by unfold I64 at h; rw [IntKind.wrap_i64]; omega
    simp [execOp, hE _ _ hx, hE _ _ hy, go_sem, e]) (fun h => h.2) (k _)
theorem o_sub (M : Mode P n G D w0 E ⟨some d, .binOp .sub T x y T', ty, pos, aft, gd⟩ Tk R Lr L) {X Y : Int} {κ : Int → Prop} (hx : oev E x = some (.int .i64 X)) (hy : oev E y = some (.int .i64 Y)) (hd : Nat.blt d n = true) (k : ∀ z, Nx n G D w0 R ((d, .int .i64 z) :: E) L (κ z)) :
    Nx n G D w0 Tk E L (subW X Y κ) :=
  M.val (v := .int .i64 (X - Y)) hd rfl (fun ρ w hE _ hφ => by
    have h := hφ.1
    have e : IntKind.i64.wrap (X - Y) = X - Y := by unfold I64 at h; rw [IntKind.wrap_i64]; omega
    simp [execOp, hE _ _ hx, hE _ _ hy, go_sem, e]) (fun h => h.2) (k _)
theorem o_mul (M : Mode P n G D w0 E ⟨some d, .binOp .mul T x y T', ty, pos, aft, gd⟩ Tk R Lr L) {X Y : Int} {κ : Int → Prop} (hx : oev E x = some (.int .i64 X)) (hy : oev E y = some (.int .i64 Y)) (hd : Nat.blt d n = true) (k : ∀ z, Nx n G D w0 R ((d, .int .i64 z) :: E) L (κ z)) :
    Nx n G D w0 Tk E L (mulW X Y κ) :=
  M.val (v := .int .i64 (X * Y)) hd rfl (fun ρ w hE _ hφ => by
    have h := hφ.1
    have e : IntKind.i64.wrap (X * Y) = X * Y := by unfold I64 at h; rw [IntKind.wrap_i64]; omega
    simp [execOp, hE _ _ hx, hE _ _ hy, go_sem, e]) (fun h => h.2) (k _)
theorem o_quo (M : Mode P n G D w0 E ⟨some d, .binOp .quo T x y T', ty, pos, aft, gd⟩ Tk R Lr L) {X Y : Int} {κ : Int → Prop} (hx : oev E x = some (.int .i64 X)) (hy : oev E y = some (.int .i64 Y)) (hd : Nat.blt d n = true) (k : ∀ z, Nx n G D w0 R ((d, .int .i64 z) :: E) L (κ z)) :
    Nx n G D w0 Tk E L (quoW X Y κ) :=
  M.val (v := .int .i64 (X.tdiv Y)) hd rfl (fun ρ w hE _ hφ => by
    obtain ⟨h2, h3, _⟩ := hφ
    have e0 : Y ≠ 0 := by omega
    have e : IntKind.i64.wrap (X.tdiv Y) = X.tdiv Y := by
      unfold I64 at h3
      rw [IntKind.wrap_i64]
      by_cases h1 : 0 ≤ X
      · have e1 : X.tdiv Y = X / Y := Int.tdiv_eq_ediv_of_nonneg h1
        have e2 := Int.ediv_nonneg h1 (show 0 ≤ Y by omega)
        have e3 : X / Y ≤ X := Int.ediv_le_self _ h1
        omega
      · have e1 : X.tdiv Y = -((-X) / Y) := by
          have := Int.neg_tdiv (a := -X) (b := Y)
          rw [Int.neg_neg] at this
          rw [this, Int.tdiv_eq_ediv_of_nonneg (by omega)]
        have e2 := Int.ediv_nonneg (show 0 ≤ -X by omega) (show 0 ≤ Y by omega)
        have e3 : (-X) / Y ≤ -X := Int.ediv_le_self _ (by omega)
        omega
    simp [execOp, hE _ _ hx, hE _ _ hy, go_sem, e0, e]) (fun h => h.2.2) (k _)
theorem o_rem (M : Mode P n G D w0 E ⟨some d, .binOp .rem T x y T', ty, pos, aft, gd⟩ Tk R Lr L) {X Y : Int} {κ : Int → Prop} (hx : oev E x = some (.int .i64 X)) (hy : oev E y = some (.int .i64 Y)) (hd : Nat.blt d n = true) (k : ∀ z, Nx n G D w0 R ((d, .int .i64 z) :: E) L (κ z)) :
    Nx n G D w0 Tk E L (remW X Y κ) :=
  M.val (v := .int .i64 (X % Y)) hd rfl (fun ρ w hE _ hφ => by
    obtain ⟨h1, h2, h3, _⟩ := hφ
    have e0 : Y ≠ 0 := by omega
    have e1 : X.tmod Y = X % Y := Int.tmod_eq_emod_of_nonneg h1
    simp [execOp, hE _ _ hx, hE _ _ hy, go_sem, e0, e1]) (fun h => h.2.2.2) (k _)
theorem o_lss (M : Mode P n G D w0 E ⟨some d, .binOp .lss T x y T', ty, pos, aft, gd⟩ Tk R Lr L) {X Y : Int} {K : IntKind} (hx : oev E x = some (.int K X)) (hy : oev E y = some (.int K Y)) (hd : Nat.blt d n = true) (k : Nx n G D w0 R ((d, .bool (decide (X < Y))) :: E) L φ) :
    Nx n G D w0 Tk E L φ :=
  M.val hd rfl (fun ρ w hE _ hφ => by simp [execOp, hE _ _ hx, hE _ _ hy, go_sem]) id k
theorem o_leq (M : Mode P n G D w0 E ⟨some d, .binOp .leq T x y T', ty, pos, aft, gd⟩ Tk R Lr L) {X Y : Int} {K : IntKind} (hx : oev E x = some (.int K X)) (hy : oev E y = some (.int K Y)) (hd : Nat.blt d n = true) (k : Nx n G D w0 R ((d, .bool (decide (X ≤ Y))) :: E) L φ) :
    Nx n G D w0 Tk E L φ :=
  M.val hd rfl (fun ρ w hE _ hφ => by simp [execOp, hE _ _ hx, hE _ _ hy, go_sem]) id k
theorem o_gtr (M : Mode P n G D w0 E ⟨some d, .binOp .gtr T x y T', ty, pos, aft, gd⟩ Tk R Lr L) {X Y : Int} {K : IntKind} (hx : oev E x = some (.int K X)) (hy : oev E y = some (.int K Y)) (hd : Nat.blt d n = true) (k : Nx n G D w0 R ((d, .bool (decide (Y < X))) :: E) L φ) :
    Nx n G D w0 Tk E L φ :=
  M.val hd rfl (fun ρ w hE _ hφ => by simp [execOp, hE _ _ hx, hE _ _ hy, go_sem]) id k
theorem o_geq (M : Mode P n G D w0 E ⟨some d, .binOp .geq T x y T', ty, pos, aft, gd⟩ Tk R Lr L) {X Y : Int} {K : IntKind} (hx : oev E x = some (.int K X)) (hy : oev E y = some (.int K Y)) (hd : Nat.blt d n = true) (k : Nx n G D w0 R ((d, .bool (decide (Y ≤ X))) :: E) L φ) :
    Nx n G D w0 Tk E L φ :=
  M.val hd rfl (fun ρ w hE _ hφ => by simp [execOp, hE _ _ hx, hE _ _ hy, go_sem]) id k
end

end
section

open Go.RowKit

/-! ### what the program's tables say -/
def tyB (P : Program) (T : TypeId) : Option (Bool × Nat) :=
  match P.underlying T, P.info? T with
  | some (.struct _), some i => some (true, i.size)
  | some (.array _ _), some i => some (true, i.size)
  | some _, some i => some (false, i.size)
  | _, _ => none
def fldB (P : Program) (S k : Nat) : Option (Nat × Bool × Nat) :=
  match P.underlying S with
  | some (.struct fs) => match fs[k]? with
    | some f => match tyB P f.type with
      | some (r, s) => some (f.offset, r, s)
      | none => none
    | none => none
  | _ => none
def elB (P : Program) (T : TypeId) : Option (TypeId × Nat × Nat) :=
  match P.underlying T with
  | some (.slice e) => match P.info? e with
    | some i => some (e, i.size, i.bytes)
    | none => none
  | _ => none
def zeroB (P : Program) (T : TypeId) : Option (List Value) := (P.info? T).bind fun i => i.zero.map (·.cells.toList)

/-- the value of so many cells from a place on -/
def ldv (row : Bool) (o sz : Nat) (cs : List Value) : Option Value :=
  match row with
  | true => bif Nat.beq ((cs.drop o).take sz).length sz then some (.agg ((cs.drop o).take sz).toArray) else none
  | false => bif Nat.beq sz 1 then cs[o]? else none

section
variable {P : Program} {w : World}
theorem run_ldv {T : TypeId} {row : Bool} {sz b o : Nat} {cs : List Value} {p : Nat} {v : Value} (hT : tyB P T = some (row, sz)) (hr : w.rangeAt b p cs) (hv : ldv row o sz cs = some v) :
    (Instr.loadAt T (.pointer (some ⟨b, p + o, none⟩))).run P w = .ok v w := by
  unfold tyB at hT
  cases row with
  | true =>
    simp only [ldv] at hv
    cases hl : Nat.beq ((cs.drop o).take sz).length sz with
    | false => rw [hl] at hv; simp at hv
    | true =>
      rw [hl] at hv
      simp only [cond_true, Option.some.injEq] at hv
      have hl' := Nat.eq_of_beq_eq_true hl
      have hr' : w.rangeAt b (p + o) ((cs.drop o).take sz) := fun j u hu => by
        rw [List.getElem?_take] at hu
        split at hu
        · rw [List.getElem?_drop] at hu
          have := hr (o + j) u hu
          rwa [← Nat.add_assoc] at this
        · cases hu
      subst hv
      split at hT
      · rename_i fs i hu hi
        simp at hT
        exact run_loadAt_mid w b (p + o) T _ _ hr' hu rfl (by rw [hi]; simpa [hT] using hl'.symm)
      · rename_i a c i hu hi
        simp at hT
        exact run_loadAt_mid w b (p + o) T _ _ hr' hu rfl (by rw [hi]; simpa [hT] using hl'.symm)
      · simp at hT
      · simp at hT
  | false =>
    simp only [ldv] at hv
    cases hl : Nat.beq sz 1 with
    | false => rw [hl] at hv; simp at hv
    | true =>
      rw [hl] at hv
      simp only [cond_true] at hv
      have hc := hr o v hv
      split at hT
      · simp at hT
      · simp at hT
      · rename_i d i hns hna hu hi
        have ha : (isAgg T).run P w = .ok false w := by
          unfold isAgg
          rw [Sem.run_bind, run_underlying hu w]
          cases d <;> simp_all
        simp [Instr.loadAt, Instr.sureAddr, loadVar, Sem.run_bind, ha, hc]
      · simp at hT

theorem info_of {T : TypeId} {row : Bool} {sz : Nat} (hT : tyB P T = some (row, sz)) : (P.info? T).map (·.size) = some sz := by
  unfold tyB at hT
  split at hT <;> simp_all

/-- a store -/
theorem run_stv {T : TypeId} {row : Bool} {sz b o : Nat} {u : Value} (hT : tyB P T = some (row, sz)) (hsz : Nat.beq u.cells.size sz = true) (h1 : u.cells.toList.all (·.oneCell') = true)
    (ht : w.there b o u.cells.size) : (Instr.storeAt T (.pointer (some ⟨b, o, none⟩)) u).run P w = .ok () (w.setCells b o u.cells.toList) := by
  have hz := Nat.eq_of_beq_eq_true hsz
  have hi := info_of hT
  have := run_storeCells_cells (P := P) b o u.cells.toList 0 w (fun j hj => by simpa using (ht j (by simpa using hj)).1) (fun j hj => by simpa using (ht j (by simpa using hj)).2)
    (fun v hv => List.all_eq_true.1 h1 v (by simpa using hv))
  simp only [Nat.add_zero] at this
  cases hq : P.info? T with
  | none => simp [hq] at hi
  | some i =>
    have hs : u.cells.size = i.size := by simp [hq] at hi; omega
    simp [Instr.storeAt, Instr.sureAddr, storeVar, sizeOf, typeInfo, hq, hs, this]

theorem run_fldv {S k off sz : Nat} {row : Bool} {a : Addr} (hS : fldB P S k = some (off, row, sz)) (hp : Nat.beq sz 0 = false) :
    (Instr.fieldAt S (.pointer (some a)) k).run P w = .ok (.pointer (some (a.add off))) w := by
  unfold fldB at hS
  split at hS
  · rename_i fs hu
    split at hS
    · rename_i f hf
      split at hS
      · rename_i r s hT
        simp at hS
        obtain ⟨rfl, rfl, rfl⟩ := hS
        have hi := info_of hT
        have hne : s ≠ 0 := fun e => by rw [e] at hp; simp at hp
        cases hq : P.info? f.type with
        | none => simp [hq] at hi
        | some i =>
          simp [hq] at hi
          simp [Instr.fieldAt, run_underlying hu, hf, Instr.sureAddr, fieldPlace, sizeOf, typeInfo, hq, hi, hne]
      · simp at hS
    · simp at hS
  · simp at hS

end

end
section

open Go.RowKit

/-- the elements stand for these cells, and no memory is behind them -/
def Flat {α : Type} (E : El α) (enc : α → List Value) : Prop := ∀ F w x cs, E.cells F w x cs ↔ cs = enc x
/-- the pointer to a place of an element -/
def pEl (v : Value) (I : Int) (sz o : Nat) : Value :=
  match v with
  | .slice (some a) _ _ => .pointer (some (a.add (I.toNat * sz + o)))
  | _ => undef
theorem pEl_slice (b off l c : Nat) (I : Int) (sz o : Nat) : pEl (.slice (some ⟨b, off, none⟩) l c) I sz o = .pointer (some ⟨b, off + I.toNat * sz + o, none⟩) := by
  simp [pEl, Addr.add_mid, Nat.add_assoc]

theorem Mem.rd {α : Type} {El' : El α} {v : Value} {xs : List α} {c : Ch} {G D : Nat → Prop} {w0 w : World} {L : List Ch} (m : Mem G D w0 L w) (i : Nat) (hi : lget L i = some c) (hc : Reads c El' v xs) : Sl El' (fun b => b < w.heap.size) w v xs :=
  (hc _ _ (m.get hi)).keep (fun b hb => by rcases hb with hb | hb; exact hb.1; exact (m.range c (lget_mem hi) b hb).1) (fun _ _ => rfl)
theorem fz_lset {G D : Nat → Prop} {w0 w : World} {L : List Ch} {c c' : Ch} {i : Nat} (m : Mem G D w0 L w) (hi : lget L i = some c) (hf : ∀ b, ¬ c'.foot b) : ∀ b, (fz G L w b ∨ c.foot b) → fz G (lset L i c') w b := fun b hb => by
  have hmem := lget_mem hi
  refine ⟨?_, ?_, fun d hd => ?_⟩
  · rcases hb with hb | hb
    · exact hb.1
    · exact (m.range _ hmem b hb).1
  · rcases hb with hb | hb
    · exact hb.2.1
    · exact m.fresh b (m.range _ hmem b hb).2
  · rcases mem_lset hi m.disj hd with e' | ⟨e1, e2⟩
    · subst e'; exact hf b
    · rcases hb with hb | hb
      · exact hb.2.2 d e1
      · exact fun h => e2 b h hb
/-- a chunk of the call's own is not written any more: what it has may be read -/
theorem Mem.still {G D : Nat → Prop} {w0 w : World} {L : List Ch} {c c' : Ch} (m : Mem G D w0 L w) (i : Nat) (hi : lget L i = some c) (hf : ∀ b, ¬ c'.foot b) (hc : ∀ F w, c.holds F w → c'.holds (fun b => F b ∨ c.foot b) w) : Mem G D w0 (lset L i c') w :=
  m.upd hi rfl rfl rfl (Nat.le_refl _) (fun _ _ _ => rfl) (fun b hb => absurd hb (hf b)) (c'.keep _ _ w w (fz_lset m hi hf) (fun _ _ => rfl) (hc _ _ (m.get hi)))
theorem Mem.freeze {α : Type} {El' : El α} {v : Value} {xs : List α} {c : Ch} {G D : Nat → Prop} {w0 w : World} {L : List Ch} (m : Mem G D w0 L w) (i : Nat) (hi : lget L i = some c) (hc : Reads c El' v xs) : Mem G D w0 (lset L i (roCh El' v xs)) w :=
  m.still i hi (fun b hb => hb) hc
section
variable {P : Program} {n : Nat} {G D : Nat → Prop} {w0 : World} {Q : Exit → Act → World → Prop} {R : Act → World → Prop} {E : Env} {L : List Ch} {φ : Prop}
variable {d : Tmp} {ty : TypeId} {pos : String} {aft : Array Edge} {gd : Option (Nat × Bool)} {Tk : Act → World → Prop} {Lr : List Ch} {x y : Operand} {T T' S : TypeId}

/-- an operation that makes a value and changes the world -/
theorem o_gen {o : Oper} (hd : Nat.blt d n = true) (ho : o.dst = some d)
    (hr : ∀ (ρ : Operand → Value) w, (∀ x v, oev E x = some v → ρ x = v) → Mem G D w0 L w → φ → ∃ v w' L' ψ, (execOp ρ o).run P w = .ok (.value v) w' ∧ Mem G D w0 L' w' ∧ ψ ∧ Nx n G D w0 R ((d, v) :: E) L' ψ) :
    Nx n G D w0 (fun a w => o.wp P a w R Q) E L φ := fun a w hE hm hφ => by
  obtain ⟨v, w', L', ψ, h1, h2, h3, h4⟩ := hr a.eval w (fun x v h => hE.eval h) hm hφ
  show o.upon P a R Q ((execOp a.eval o).run P w)
  rw [h1, Oper.upon_value, ho]
  exact h4 _ _ (hE.put hd v) h2 h3
theorem o_skip {o : Oper} (ho : o.dst = none)
    (hr : ∀ (ρ : Operand → Value) w, (∀ x v, oev E x = some v → ρ x = v) → Mem G D w0 L w → φ → ∃ w' L' ψ, (execOp ρ o).run P w = .ok .skip w' ∧ Mem G D w0 L' w' ∧ ψ ∧ Nx n G D w0 R E L' ψ) :
    Nx n G D w0 (fun a w => o.wp P a w R Q) E L φ := fun a w hE hm hφ => by
  obtain ⟨w', L', ψ, h1, h2, h3, h4⟩ := hr a.eval w (fun x v h => hE.eval h) hm hφ
  show o.upon P a R Q ((execOp a.eval o).run P w)
  rw [h1, Oper.upon_skip, ho]
  exact h4 _ _ hE h2 h3

/-! cells of the call's own -/
theorem mem_alloc {b : Nat} {cs : List Value} {w : World} (hm : Mem G D w0 L w) (he : w.heap.size = b) : Mem G D w0 (cellCh b cs T :: L) (w.alloc (.cells cs.toArray T)) :=
  hm.add _ ((Below.refl _ _).alloc (Nat.le_refl _) _) (fun k hk => by cases hk; rw [World.size_alloc]; omega) (by rw [← he]; exact heap_alloc_new w _)
theorem o_box {v : Value} (hx : oev E x = some v) (hd : Nat.blt d n = true) (cs : List Value) (hcs : v.cells = cs.toArray) (k : ∀ b, Nx n G D w0 R ((d, .pointer (some ⟨b, 0, none⟩)) :: E) (cellCh b cs T :: L) φ) :
    Nx n G D w0 (fun a w => Oper.wp P ⟨some d, .box T x, ty, pos, aft, gd⟩ a w R Q) E L φ :=
  o_gen hd rfl fun ρ w hE hm hφ => ⟨_, w.alloc (.cells cs.toArray T), _, φ, by simp [execOp, hE _ _ hx, Instr.box, newVar, newRow, hcs], mem_alloc hm rfl, hφ, k w.heap.size⟩
theorem o_alloc (hd : Nat.blt d n = true) (cs : List Value) (hz : zeroB P T = some cs) (k : ∀ b, Nx n G D w0 R ((d, .pointer (some ⟨b, 0, none⟩)) :: E) (cellCh b cs T :: L) φ) :
    Nx n G D w0 (fun a w => Oper.wp P ⟨some d, .alloc T, ty, pos, aft, gd⟩ a w R Q) E L φ :=
  o_gen hd rfl fun ρ w hE hm hφ => by
    unfold zeroB at hz
    cases hi : P.info? T with
    | none => simp [hi] at hz
    | some i =>
      cases hz' : i.zero with
      | none => simp [hi, hz'] at hz
      | some z =>
        simp [hi, hz'] at hz
        refine ⟨_, w.alloc (.cells cs.toArray T), _, φ, ?_, mem_alloc hm rfl, hφ, k w.heap.size⟩
        simp [execOp, Instr.alloc, zeroValue, typeInfo, hi, hz', newVar, newRow, ← hz]
theorem o_ldc (M : Mode P n G D w0 E ⟨some d, .load T x, ty, pos, aft, gd⟩ Tk R Lr L) {b o sz : Nat} {cs : List Value} {T0 : TypeId} {row : Bool} {v : Value} (i : Nat) (hi : lget Lr i = some (cellCh b cs T0)) (hx : oev E x = some (.pointer (some ⟨b, o, none⟩))) (hd : Nat.blt d n = true)
    (hT : tyB P T = some (row, sz)) (hv : ldv row o sz cs = some v) (k : Nx n G D w0 R ((d, v) :: E) L φ) : Nx n G D w0 Tk E L φ :=
  M.val hd rfl (fun ρ w hE hm _ => by
    have hb : w.heap[b]? = some (.cells cs.toArray T0 (0, 0)) := hm.get hi
    have hr : w.rangeAt b 0 cs := fun j u hu => by rw [cell_of_row w b _ cs.toArray T0 (0, 0) hb]; simpa using hu
    have := run_ldv (P := P) hT hr hv
    rw [Nat.zero_add] at this
    simp [execOp, hE _ _ hx, this]) id k
theorem o_fad {k' : Nat} (M : Mode P n G D w0 E ⟨some d, .fieldAddr S x k', ty, pos, aft, gd⟩ Tk R Lr L) {b o off sz : Nat} {row : Bool} (hx : oev E x = some (.pointer (some ⟨b, o, none⟩))) (hd : Nat.blt d n = true) (hS : fldB P S k' = some (off, row, sz)) (hp : Nat.beq sz 0 = false)
    (k : Nx n G D w0 R ((d, .pointer (some ⟨b, o + off, none⟩)) :: E) L φ) : Nx n G D w0 Tk E L φ :=
  M.val hd rfl (fun ρ w hE hm _ => by
    have := run_fldv (P := P) (w := w) (a := ⟨b, o, none⟩) hS hp
    rw [Addr.add_mid] at this
    simp [execOp, hE _ _ hx, this]) id k
theorem there_of_row {w : World} {b o sz : Nat} {cs : List Value} {T0 : TypeId} (hb : w.heap[b]? = some (.cells cs.toArray T0 (0, 0))) (h : o + sz ≤ cs.length) : w.there b o sz := fun j hj =>
  ⟨by rw [cell_of_row w b _ cs.toArray T0 (0, 0) hb]; simp; omega, by simp [World.frozen?, hb]⟩
theorem o_stc {b o sz : Nat} {cs cs' : List Value} {T0 : TypeId} {row : Bool} {u : Value} (i : Nat) (hi : lget L i = some (cellCh b cs T0)) (hx : oev E x = some (.pointer (some ⟨b, o, none⟩))) (hy : oev E y = some u)
    (hT : tyB P T = some (row, sz)) (hsz : Nat.beq u.cells.size sz = true) (h1 : u.cells.toList.all (·.oneCell') = true) (hle : Nat.ble (o + sz) cs.length = true) (hcs : lput cs o u.cells.toList = cs')
    (k : Nx n G D w0 R E (lset L i (cellCh b cs' T0)) φ) : Nx n G D w0 (fun a w => Oper.wp P ⟨none, .store T x y, ty, pos, aft, gd⟩ a w R Q) E L φ :=
  o_skip rfl fun ρ w hE hm hφ => by
    have hb : w.heap[b]? = some (.cells cs.toArray T0 (0, 0)) := hm.get hi
    have hz := Nat.eq_of_beq_eq_true hsz
    have hr := run_stv (P := P) (w := w) hT hsz h1 (b := b) (o := o) (there_of_row hb (by rw [hz]; exact Nat.le_of_ble_eq_true hle))
    refine ⟨_, _, φ, by simp [execOp, hE _ _ hx, hE _ _ hy, hr]; rfl, ?_, hφ, k⟩
    obtain ⟨s1, s2, s3⟩ := setCells_rest b u.cells.toList o w
    refine hm.upd hi s1 s2 s3 (by rw [setCells_size]; exact Nat.le_refl _) (fun x _ hx => setCells_other b _ _ _ _ hx) (fun x hx => ⟨?_, .inl hx⟩) ?_
    · cases hx
      rw [setCells_size]
      exact (Array.getElem?_eq_some_iff.1 hb).1
    · show (w.setCells b o u.cells.toList).heap[b]? = _
      rw [setCells_heap b T0 (0, 0) _ _ cs w hb, hcs]

/-! values of structs -/
theorem o_ext {k' : Nat} (M : Mode P n G D w0 E ⟨some d, .extract x k', ty, pos, aft, gd⟩ Tk R Lr L) {vs : List Value} {v : Value} (hx : oev E x = some (.tuple vs.toArray)) (hd : Nat.blt d n = true) (hv : vs[k']? = some v) (k : Nx n G D w0 R ((d, v) :: E) L φ) :
    Nx n G D w0 Tk E L φ :=
  M.val hd rfl (fun ρ w hE hm _ => by simp [execOp, hE _ _ hx, Instr.extract, hv]) id k

/-! slices -/
theorem o_len (M : Mode P n G D w0 E ⟨some d, .call { callee := .builtin .len, args := #[x], argTypes := #[T] }, ty, pos, aft, gd⟩ Tk R Lr L) {α : Type} {El' : El α} {v : Value} {xs : List α} {c : Ch} {p : TypeId × Nat × Nat} (hT : elB P T = some p) (i : Nat) (hi : lget Lr i = some c) (hc : Reads c El' v xs) (hx : oev E x = some v) (hd : Nat.blt d n = true)
    (k : Nx n G D w0 R ((d, .int .i64 xs.length) :: E) L φ) :
    Nx n G D w0 Tk E L φ :=
  M.val hd rfl (fun ρ w hE hm _ => by
    obtain ⟨a, cap, rfl⟩ := (hc _ _ (hm.get hi)).len_eq
    obtain ⟨e, hu⟩ : ∃ e, P.underlying T = some (.slice e) := by
      unfold elB at hT
      split at hT
      · exact ⟨_, ‹_›⟩
      · simp at hT
    simp [execOp, resolve, invoke, builtin, hE _ _ hx, go_sem, Builtin.len_, run_underlying hu]) id k
theorem o_idx (M : Mode P n G D w0 E ⟨some d, .indexAddr T x y, ty, pos, aft, gd⟩ Tk R Lr L) {α : Type} {El' : El α} {v : Value} {xs : List α} {c : Ch} {I : Int} {κ : α → Prop} {e sz by' : Nat} (i : Nat) (hi : lget Lr i = some c) (hc : Reads c El' v xs) (hx : oev E x = some v) (hy : oev E y = some (.int .i64 I)) (hd : Nat.blt d n = true)
    (hT : elB P T = some (e, sz, by')) (k : ∀ z, xs[I.toNat]? = some z → Nx n G D w0 R ((d, pEl v I sz 0) :: E) L (κ z)) :
    Nx n G D w0 Tk E L (idxW xs I κ) :=
  M.val (v := pEl v I sz 0) (ψ := idxW xs I κ) hd rfl (fun ρ w hE hm hφ => by
    obtain ⟨z, h0, h1, h2⟩ := hφ
    obtain ⟨b, off, cap, cs, rfl, _, _⟩ := (hc _ _ (hm.get hi)).at h1
    have hlt := (List.getElem?_eq_some_iff.1 h1).1
    unfold elB at hT
    split at hT
    · rename_i e' hu
      split at hT
      · rename_i inf hi'
        simp at hT
        obtain ⟨rfl, rfl, rfl⟩ := hT
        have h5 : I < xs.length := by omega
        rw [pEl_slice]
        simp [execOp, hE _ _ hx, hE _ _ hy, Instr.indexAt, asIntOf, run_underlying hu, sizeOf, typeInfo, hi', h0, h5, Addr.add_mid]
      · simp at hT
    · simp at hT) id (fun a w hE hm ⟨z, _, h1, h2⟩ => k z h1 a w hE hm h2)
theorem o_fadS {k' : Nat} (M : Mode P n G D w0 E ⟨some d, .fieldAddr S x k', ty, pos, aft, gd⟩ Tk R Lr L) {α : Type} {El' : El α} {v : Value} {xs : List α} {c : Ch} {I : Int} {z : α} {o off sz fs : Nat} {row : Bool} (i : Nat) (hi : lget Lr i = some c) (hc : Reads c El' v xs) (hz : xs[I.toNat]? = some z)
    (hx : oev E x = some (pEl v I sz o)) (hd : Nat.blt d n = true) (hS : fldB P S k' = some (off, row, fs)) (hp : Nat.beq fs 0 = false)
    (k : Nx n G D w0 R ((d, pEl v I sz (o + off)) :: E) L φ) : Nx n G D w0 Tk E L φ :=
  M.val hd rfl (fun ρ w hE hm _ => by
    obtain ⟨b, off', cap, cs, rfl, _, _⟩ := (hc _ _ (hm.get hi)).at hz
    rw [pEl_slice] at hx ⊢
    have := run_fldv (P := P) (w := w) (a := ⟨b, off' + I.toNat * sz + o, none⟩) hS hp
    rw [Addr.add_mid] at this
    simp [execOp, hE _ _ hx, this]) id k
theorem o_lds (M : Mode P n G D w0 E ⟨some d, .load T x, ty, pos, aft, gd⟩ Tk R Lr L) {α : Type} {El' : El α} {enc : α → List Value} {v : Value} {xs : List α} {c : Ch} {I : Int} {z : α} {o sz fs : Nat} {row : Bool} {u : Value} (i : Nat) (hi : lget Lr i = some c) (hc : Reads c El' v xs)
    (hfl : Flat El' enc) (hes : El'.size = sz) (hz : xs[I.toNat]? = some z) (hx : oev E x = some (pEl v I sz o)) (hd : Nat.blt d n = true) (hT : tyB P T = some (row, fs)) (hv : ldv row o fs (enc z) = some u)
    (k : Nx n G D w0 R ((d, u) :: E) L φ) : Nx n G D w0 Tk E L φ :=
  M.val hd rfl (fun ρ w hE hm _ => by
    obtain ⟨b, off', cap, cs, rfl, h1, h2⟩ := (hc _ _ (hm.get hi)).at hz
    rw [pEl_slice] at hx
    rw [(hfl _ _ _ _).1 h1, hes] at h2
    have := run_ldv (P := P) hT h2 hv
    simp [execOp, hE _ _ hx, this]) id k
end

end
section

open Go.RowKit

theorem elB_spec {P : Program} {T e sz by' : Nat} (h : elB P T = some (e, sz, by')) : P.underlying T = some (.slice e) ∧ ∃ i, P.info? e = some i ∧ i.size = sz ∧ i.bytes = by' := by
  unfold elB at h
  split at h
  · rename_i e' hu
    split at h
    · rename_i inf hi'
      simp at h
      obtain ⟨rfl, rfl, rfl⟩ := h
      exact ⟨hu, inf, hi', rfl, rfl⟩
    · simp at h
  · simp at h
theorem zeroB_spec {P : Program} {T : Nat} {cs : List Value} {i : TypeInfo} (h : zeroB P T = some cs) (hi : P.info? T = some i) : ∃ z, i.zero = some z ∧ z.cells = cs.toArray := by
  unfold zeroB at h
  rw [hi] at h
  cases hz : i.zero with
  | none => simp [hz] at h
  | some z => simp [hz] at h; exact ⟨z, rfl, by rw [← h]⟩

section
variable {α : Type} {El' : El α} {F : Nat → Prop} {w : World}
theorem Rows.replicate {z : α} {zs : List Value} (hz : El'.cells F w z zs) : ∀ n, Rows El' F w (List.replicate n z) (List.replicate n zs)
  | 0 => trivial
  | n + 1 => ⟨hz, Rows.replicate hz n⟩
theorem flatten_replicate_get (zs : List Value) : ∀ (n j : Nat), j < n * zs.length → (List.replicate n zs).flatten[j]? = zs[j % zs.length]?
  | 0, j, h => by simp at h
  | n + 1, j, h => by
    rw [List.replicate_succ, List.flatten_cons]
    by_cases hj : j < zs.length
    · rw [List.getElem?_append_left hj, Nat.mod_eq_of_lt hj]
    · have h' : j - zs.length < n * zs.length := by rw [Nat.succ_mul] at h; omega
      rw [List.getElem?_append_right (by omega), flatten_replicate_get zs n (j - zs.length) h', ← Nat.mod_eq_sub_mod (by omega)]
theorem madeCells_flatten (zs : List Value) (n : Nat) (hp : 0 < zs.length) : (madeCells zs.toArray (n * zs.length)).toList = (List.replicate n zs).flatten := by
  apply List.ext_getElem?
  intro j
  by_cases hj : j < n * zs.length
  · rw [flatten_replicate_get zs n j hj]
    have hm : j % zs.length < zs.length := Nat.mod_lt _ hp
    simp [madeCells, hj, getElem!_pos, hm]
  · have h1 : (madeCells zs.toArray (n * zs.length)).toList.length = n * zs.length := by simp [madeCells]
    have h2 : (List.replicate n zs).flatten.length = n * zs.length := by simp
    rw [List.getElem?_eq_none (by omega), List.getElem?_eq_none (by omega)]
/-- a new row owns its elements -/
theorem own_new {ty b cap : Nat} {xs : List α} {css : List (List Value)} {cur : Array Value} (hr : Rows El' F w xs css) (hb : w.heap[b]? = some (.cells cur ty (0, 0))) (hn : xs.length ≤ cap) (hc : cap ≤ maxLen)
    (hs : cur.size = cap * El'.size) (ht : cur.toList.take (xs.length * El'.size) = css.flatten) : Own El' ty F w (.slice (some ⟨b, 0, none⟩) xs.length cap) xs :=
  ⟨css, hr, hr.length, .inr ⟨b, cap, cur, rfl, Nat.zero_le _, hb, hn, hc, hs, ht⟩⟩
end

theorem flat_flat {α : Type} {n : Nat} {enc : α → List Value} {hp : 0 < n} {hl : ∀ x, (enc x).length = n} {h1 : ∀ x, ∀ u ∈ enc x, u.oneCell' = true} : Flat (El.flat n enc hp hl h1) enc := fun _ _ _ _ => Iff.rfl
theorem Flat.free {α : Type} {E : El α} {enc : α → List Value} (h : Flat E enc) : ∀ F F' w w' x cs, E.cells F w x cs → E.cells F' w' x cs := fun _ _ _ _ _ _ k => (h _ _ _ _).2 ((h _ _ _ _).1 k)
theorem Flat.size {α : Type} {E : El α} {enc : α → List Value} (h : Flat E enc) (w : World) (x : α) : (enc x).length = E.size := E.len (fun _ => True) w x _ ((h _ _ _ _).2 rfl)

section
variable {P : Program} {n : Nat} {G D : Nat → Prop} {w0 : World} {Q : Exit → Act → World → Prop} {R : Act → World → Prop} {E : Env} {L : List Ch} {φ : Prop}
variable {d : Tmp} {ty : TypeId} {pos : String} {aft : Array Edge} {gd : Option (Nat × Bool)} {Tk : Act → World → Prop} {Lr : List Ch} {x y : Operand} {T T' S : TypeId} {e sz by' : Nat}

theorem o_make {α : Type} {El' : El α} {enc : α → List Value} {z : α} {N M : Int} {κ : List α → Prop} {zs : List Value} (hfl : Flat El' enc) (hx : oev E x = some (.int .i64 N)) (hy : oev E y = some (.int .i64 M)) (hd : Nat.blt d n = true)
    (hT : elB P T = some (e, sz, by')) (hby : Nat.ble by' 32768 = true) (hzr : zeroB P e = some zs) (hz : enc z = zs) (hes : El'.size = sz)
    (k : ∀ v xs, Nx n G D w0 R ((d, v) :: E) (ownCh El' e v xs :: L) (κ xs)) :
    Nx n G D w0 (fun a w => Oper.wp P ⟨some d, .makeSlice T x y, ty, pos, aft, gd⟩ a w R Q) E L (makeW z N M κ) :=
  o_gen hd rfl fun ρ w hE hm hφ => by
    obtain ⟨h0, h1, h2, h3⟩ := hφ
    obtain ⟨hu, i, hi, rfl, rfl⟩ := elB_spec hT
    obtain ⟨z', hz', hzc⟩ := zeroB_spec hzr hi
    unfold lenOk at h2
    have hbl := Nat.le_of_ble_eq_true hby
    obtain ⟨M', rfl⟩ := Int.eq_ofNat_of_zero_le (show 0 ≤ M by omega)
    have hb : (i.bytes : Int) * (M' : Int) ≤ 281474976710656 := by
      have h5 : i.bytes * M' ≤ 32768 * 4294967296 := Nat.mul_le_mul hbl (by simpa using h2)
      rw [← Int.natCast_mul]
      omega
    have hr := run_make (P := P) w T e i z' hu hi hz' .i64 .i64 N M' h0 h1 hb (by simp at h2; omega)
    have hlz : (enc z).length = El'.size := hfl.size w z
    have hpos := El'.pos
    rw [hzc, ← hz, ← hes, ← hlz] at hr
    rw [Int.toNat_natCast] at hr h2
    refine ⟨.slice (some ⟨w.heap.size, 0, none⟩) N.toNat M', w.alloc (.cells (madeCells (enc z).toArray (M' * (enc z).length)) e), _, κ (List.replicate N.toNat z), by simp [execOp, hE _ _ hx, hE _ _ hy, hr], ?_, h3, k _ _⟩
    refine hm.add _ ((Below.refl _ _).alloc (Nat.le_refl _) _) (fun b hb => by simp [ownCh, Value.ownBlock] at hb; rw [World.size_alloc]; omega) ?_
    have hown := own_new (El' := El') (F := fz G (ownCh El' e (.slice (some ⟨w.heap.size, 0, none⟩) N.toNat M') (List.replicate N.toNat z) :: L) (w.alloc (.cells (madeCells (enc z).toArray (M' * (enc z).length)) e))) (w := w.alloc (.cells (madeCells (enc z).toArray (M' * (enc z).length)) e)) (ty := e) (b := w.heap.size) (cap := M')
      (Rows.replicate ((hfl _ _ _ _).2 rfl) N.toNat) (heap_alloc_new w _) (by simp; omega) (by unfold maxLen; omega) (by rw [size_madeCells, hlz]) (by
        rw [madeCells_flatten _ _ (by omega), List.length_replicate, ← hlz]
        have : List.replicate M' (enc z) = List.replicate N.toNat (enc z) ++ List.replicate (M' - N.toNat) (enc z) := by rw [List.replicate_append_replicate]; congr 1; omega
        rw [this, List.flatten_append, List.take_left' (by simp)])
    rw [List.length_replicate] at hown
    exact hown

/-- Instr.fill by lists -/
def lfill (place : Nat → Option (Nat × Nat)) : List Value → List (Nat × Value) → Option (List Value)
  | cells, [] => some cells
  | cells, (i, v) :: r =>
    match place i with
    | none => none
    | some (off, size) => bif Nat.beq v.cells.toList.length size && Nat.ble (off + size) cells.length then lfill place (lput cells off v.cells.toList) r else none
theorem foldl_put : ∀ (vs : List Value) (off k : Nat) (cells : List Value), (vs.zipIdx k).foldl (fun (cs : Array Value) (p : Value × Nat) => cs.setIfInBounds (off + p.2) p.1) cells.toArray = (lput cells (off + k) vs).toArray
  | [], _, _, _ => rfl
  | v :: r, off, k, cells => by
    rw [List.zipIdx_cons, List.foldl_cons, lput]
    simp only [List.setIfInBounds_toArray]
    rw [foldl_put r off (k + 1) (cells.set (off + k) v)]
    rfl
theorem fill_of (place : Nat → Option (Nat × Nat)) : ∀ (qs : List (Nat × Value)) (cells cs : List Value), lfill place cells qs = some cs → Instr.fill place cells.toArray qs = some cs.toArray
  | [], cells, cs, h => by simp [lfill] at h; subst h; rfl
  | (i, v) :: r, cells, cs, h => by
    simp only [lfill] at h
    unfold Instr.fill
    cases hp : place i with
    | none => simp [hp] at h
    | some q =>
      obtain ⟨off, size⟩ := q
      simp only [hp] at h ⊢
      cases hc : (Nat.beq v.cells.toList.length size && Nat.ble (off + size) cells.length) with
      | false => rw [hc] at h; simp at h
      | true =>
        rw [hc] at h
        simp only [cond_true] at h
        simp only [Bool.and_eq_true] at hc
        have h1 := Nat.eq_of_beq_eq_true hc.1
        have h2 := Nat.le_of_ble_eq_true hc.2
        have h3 : ¬ (v.cells.size ≠ size || off + v.cells.size > cells.toArray.size) = true := by
          simp at h1 ⊢
          omega
        rw [if_neg h3, ← fill_of place r _ _ h]
        congr 1
        have := foldl_put v.cells.toList off 0 cells
        rw [Nat.add_zero] at this
        rw [← this]
        rw [← Array.foldl_toList, Array.toList_zipIdx]
/-- a literal of a slice -/
theorem o_bsl {α : Type} {El' : El α} {enc : α → List Value} {len : Nat} {ps : Array (Nat × Operand)} {qs : List (Nat × Value)} {zs cells : List Value} (xs : List α) (hfl : Flat El' enc)
    (hq : ∀ ρ : Operand → Value, (∀ x v, oev E x = some v → ρ x = v) → (ps.map fun (i, x) => (i, ρ x)) = qs.toArray) (hd : Nat.blt d n = true)
    (hT : elB P T = some (e, sz, by')) (hzr : zeroB P e = some zs) (hes : El'.size = sz) (hlen : Nat.ble (len * sz) 16777216 = true) (hxl : xs.length = len)
    (hzl : Nat.beq zs.length sz = true) (hfill' : lfill (fun i => some (i * sz, sz)) (List.replicate len zs).flatten qs = some cells)
    (hcells : (xs.map enc).flatten = cells)
    (k : ∀ v, Nx n G D w0 R ((d, v) :: E) (ownCh El' e v xs :: L) φ) :
    Nx n G D w0 (fun a w => Oper.wp P ⟨some d, .buildSlice T len ps, ty, pos, aft, gd⟩ a w R Q) E L φ :=
  o_gen hd rfl fun ρ w hE hm hφ => by
    obtain ⟨hu, i, hi, rfl, rfl⟩ := elB_spec hT
    obtain ⟨z', hz', hzc⟩ := zeroB_spec hzr hi
    have hle := Nat.le_of_ble_eq_true hlen
    have hzl' := Nat.eq_of_beq_eq_true hzl
    have hpos : 0 < zs.length := by rw [hzl', ← hes]; exact El'.pos
    have hmade : (Array.range (len * i.size)).map (zs.toArray[· % zs.toArray.size]!) = (List.replicate len zs).flatten.toArray := by
      have := madeCells_flatten zs len hpos
      rw [hzl'] at this
      unfold madeCells at this
      rw [← this]
    have hfill0 := fill_of _ _ _ _ hfill'
    have hfill : Instr.fill (fun j => some (j * i.size, i.size)) ((Array.range (len * i.size)).map ((if len * i.size = 0 then #[] else zs.toArray)[· % (if len * i.size = 0 then #[] else zs.toArray).size]!)) qs = some cells.toArray := by
      by_cases h0 : len * i.size = 0
      · have hl0 : len = 0 := by
          rcases Nat.mul_eq_zero.1 h0 with h | h
          · exact h
          · have := El'.pos; omega
        subst hl0
        simpa [Array.range_zero'] using hfill0
      · simp only [h0, if_false]
        rw [hmade]
        exact hfill0
    refine ⟨.slice (some ⟨w.heap.size, 0, none⟩) len len, w.alloc (.cells cells.toArray e), _, φ, ?_, ?_, hφ, k _⟩
    · have hn : ¬ (16777216 < len * i.size) := by omega
      have hq' := hq ρ hE
      simp only [execOp, Instr.buildSlice, Sem.run_bind, run_underlying hu, Result.andThen_ok, hq']
      by_cases h0 : len * i.size = 0
      · simp [h0] at hfill
        simp [sizeOf, typeInfo, hi, h0, newRow, hfill]
      · simp [h0] at hfill
        simp [sizeOf, typeInfo, hi, h0, hn, zeroValue, hz', hzc, newRow, hfill]
    · refine hm.add _ ((Below.refl _ _).alloc (Nat.le_refl _) _) (fun b hb => by simp [ownCh, Value.ownBlock] at hb; rw [World.size_alloc]; omega) ?_
      have hrows : ∀ (F : Nat → Prop) (w : World) (xs : List α), Rows El' F w xs (xs.map enc) := by
        intro F w xs
        induction xs with
        | nil => trivial
        | cons x r ih => exact ⟨(hfl _ _ _ _).2 rfl, ih⟩
      have hl := (hrows (fun _ => True) w xs).length
      rw [hcells, hxl] at hl
      subst hxl
      refine own_new (hrows _ _ xs) (heap_alloc_new w _) (Nat.le_refl _) ?_ (by simpa using hl) ?_
      · have hp := El'.pos
        have : xs.length ≤ xs.length * i.size := Nat.le_mul_of_pos_right _ (by omega)
        unfold maxLen; omega
      · rw [hcells, ← hl, List.take_of_length_le (by simp)]

/-- append to a slice of the call's own -/
theorem o_app {α : Type} {El' : El α} {v u : Value} {xs ys : List α} {c : Ch} {κ : List α → Prop} {zs : List Value} (i j : Nat) (hi : lget L i = some (ownCh El' e v xs)) (hj : lget L j = some c) (hc : Src c El' u ys)
    (hx : oev E x = some v) (hy : oev E y = some u) (hd : Nat.blt d n = true) (hT : elB P T = some (e, sz, by')) (hby : Nat.ble by' 32768 = true) (hzr : zeroB P e = some zs) (hzl : zs.length = sz) (hes : El'.size = sz)
    (k : ∀ v', Nx n G D w0 R ((d, v') :: E) (lset L i (ownCh El' e v' (xs ++ ys))) (κ (xs ++ ys))) :
    Nx n G D w0 (fun a w => Oper.wp P ⟨some d, .call { callee := .builtin .append, args := #[x, y], argTypes := #[T, T] }, ty, pos, aft, gd⟩ a w R Q) E L (appW xs ys κ) :=
  o_gen hd rfl fun ρ w hE hm hφ => by
    obtain ⟨h0, h1⟩ := hφ
    obtain ⟨hu, inf, hinf, rfl, rfl⟩ := elB_spec hT
    obtain ⟨z', hz', hzc⟩ := zeroB_spec hzr hinf
    obtain ⟨css, hr, how⟩ := hm.get hi
    have hsl := hc _ _ (hm.get hj)
    unfold lenOk at h0
    have hbl := Nat.le_of_ble_eq_true hby
    -- the cells of what is appended
    obtain ⟨dss, hrd⟩ : ∃ dss, Rows El' (fz G L w) w ys dss ∧ ∃ a cap, u = .slice a ys.length cap ∧ ((∃ ad, a = some ad ∧ ∀ j q, dss.flatten[j]? = some q → w.cell? (ad.add j) = some q) ∨ (ys = [] ∧ a = none)) := by
      obtain ⟨a, cap, rfl, hcap, hrow⟩ := hsl
      by_cases hy0 : 0 < ys.length
      · obtain ⟨b, off, rfl, hfb, hxs⟩ := hrow hy0
        have key : ∀ (ys' : List α) (p : Nat), (∀ i x, ys'[i]? = some x → ∃ cs, El'.cells (fz G L w) w x cs ∧ w.rangeAt b (off + (p + i) * El'.size) cs) →
            ∃ dss, Rows El' (fz G L w) w ys' dss ∧ w.rangeAt b (off + p * El'.size) dss.flatten := by
          intro ys'
          induction ys' with
          | nil => intro p _; exact ⟨[], trivial, fun j q hq => by simp at hq⟩
          | cons y0 r ih =>
            intro p hp
            obtain ⟨cs, g1, g2⟩ := hp 0 y0 (by simp)
            obtain ⟨dss, g3, g4⟩ := ih (p + 1) (fun i x hix => by
              have := hp (i + 1) x (by simpa using hix)
              rwa [show p + (i + 1) = p + 1 + i by omega] at this)
            refine ⟨cs :: dss, ⟨g1, g3⟩, fun j q hq => ?_⟩
            have hl := El'.len _ _ _ _ g1
            rw [List.flatten_cons, List.getElem?_append] at hq
            split at hq
            · simpa using g2 j q hq
            · have := g4 (j - cs.length) q hq
              rw [hl, Nat.add_mul] at this
              rw [show off + p * El'.size + j = off + (p * El'.size + 1 * El'.size) + (j - El'.size) by omega]
              exact this
        obtain ⟨dss, g1, g2⟩ := key ys 0 (fun i x hix => by simpa using hxs i x hix)
        exact ⟨dss, g1, _, cap, rfl, .inl ⟨_, rfl, fun j q hq => by rw [Addr.add_mid]; simpa using g2 j q hq⟩⟩
      · have : ys = [] := List.eq_nil_of_length_eq_zero (by omega)
        subst this
        refine ⟨[], trivial, a, cap, rfl, ?_⟩
        cases a with
        | none => exact .inr ⟨rfl, rfl⟩
        | some ad => exact .inl ⟨ad, rfl, fun j q hq => by simp at hq⟩
    obtain ⟨hrd, a, cap, rfl, hsrc⟩ := hrd
    have hone := hrd.one
    have hlen := hrd.length
    rw [hes] at hlen
    rcases hsrc with ⟨ad, rfl, hcell⟩ | ⟨rfl, rfl⟩
    · obtain ⟨v', w', g1, g2, g3, _, g5⟩ := run_append_own_at (P := P) w 0 T ty e inf z' inf.size inf.bytes hu hinf hz' rfl rfl (by rw [hzc]; simpa using hzl) (by rw [← hes]; exact El'.pos)
        v xs.length css.flatten (by rw [← hes]; exact how) ad ys.length cap dss.flatten hlen hcell hone (by unfold maxLen; omega) (by
          have := Nat.mul_le_mul h0 hbl
          omega) (Nat.zero_le _)
      refine ⟨v', w', _, κ (xs ++ ys), by simp [execOp, resolve, invoke, builtin, hE _ _ hx, hE _ _ hy, g1], ?_, h1, k v'⟩
      refine hm.upd hi g3.os g3.tape g3.output g3.size (fun b hb hne => g3.block b hb (fun e => hne e.symm)) (fun b hb => ?_) ?_
      · have hb' : v'.ownBlock = some b := hb
        have hlt := (g2.lt b hb').2
        refine ⟨hlt, ?_⟩
        rcases g5 with g5 | g5
        · left; show v.ownBlock = some b; rw [← g5]; exact hb'
        · right
          rw [hb'] at g5
          simp at g5
          omega
      · have hFz : ∀ b, fz G L w b → fz G (lset L i (ownCh El' e v' (xs ++ ys))) w' b := fun b hb => by
          refine ⟨by have := hb.1; have := g3.size; omega, hb.2.1, fun x hx => ?_⟩
          rcases mem_lset hi hm.disj hx with e' | ⟨e1, _⟩
          · subst e'
            intro hk
            have hk' : v'.ownBlock = some b := hk
            rcases g5 with g5 | g5
            · exact hb.2.2 _ (lget_mem hi) (show v.ownBlock = some b by rw [← g5]; exact hk')
            · rw [hk'] at g5; simp at g5; have := hb.1; omega
          · exact hb.2.2 x e1
        have hsame : ∀ b, fz G L w b → w'.heap[b]? = w.heap[b]? := fun b hb => g3.block b hb.1 (fun e' => hb.2.2 _ (lget_mem hi) e'.symm)
        refine ⟨css ++ dss, ?_, by rw [List.flatten_append, List.length_append, hes]; exact g2⟩
        refine Rows.append (hr.keep hFz hsame) ?_
        exact hrd.keep hFz hsame
    · have hrun : (Builtin.append_ #[T, T] ty #[v, .slice none 0 cap]).run P w = .ok v w := by
        rcases how.2 with ⟨rfl, hn0⟩ | ⟨g, cap', cur, rfl, _, _, hnc, _⟩
        · simp [Builtin.append_, run_underlying hu, sizeOf, typeInfo, hinf, Builtin.lenOf, Builtin.firstCells]
        · simp [Builtin.append_, run_underlying hu, sizeOf, typeInfo, hinf, Builtin.lenOf, Builtin.firstCells, hnc, storeCells]
      have hid : ∀ {L : List Ch} {i : Nat} {c : Ch}, lget L i = some c → lset L i c = L := by
        intro L
        induction L with
        | nil => intro i c h; rfl
        | cons d r ih => intro i c h; cases i with
          | zero => simp [lget] at h; subst h; rfl
          | succ i => simp [lget] at h; simp [lset, ih h]
      refine ⟨v, w, L, κ xs, by simp [execOp, resolve, invoke, builtin, hE _ _ hx, hE _ _ hy, hrun], hm, by simpa using h1, ?_⟩
      have := k v
      rw [List.append_nil, hid hi] at this
      exact this
end

end
section

open Go.RowKit

def eargs : Nat → List Value → Env
  | _, [] => []
  | i, v :: r => (i, v) :: eargs (i + 1) r
theorem eargs_get : ∀ (l : List Value) (i s : Nat) (v : Value), eget (eargs i l) s = some v → i ≤ s ∧ l[s - i]? = some v
  | [], i, s, v, h => by simp [eargs, eget] at h
  | u :: r, i, s, v, h => by
    rw [eargs, eget_cons] at h
    by_cases e : i = s
    · subst e; simp at h; subst h; simp
    · rw [if_neg e] at h
      obtain ⟨h1, h2⟩ := eargs_get r (i + 1) s v h
      refine ⟨by omega, ?_⟩
      rw [show s - i = (s - (i + 1)) + 1 by omega]
      simpa using h2
def oevs (E : Env) : List Operand → Option (List Value)
  | [] => some []
  | x :: r => match oev E x, oevs E r with
    | some v, some vs => some (v :: vs)
    | _, _ => none
theorem oevs_map {E : Env} {ρ : Operand → Value} (hE : ∀ x v, oev E x = some v → ρ x = v) : ∀ {xs : List Operand} {vs : List Value}, oevs E xs = some vs → xs.map ρ = vs
  | [], vs, h => by simp [oevs] at h; simp [h]
  | x :: r, vs, h => by
    simp only [oevs] at h
    split at h
    · rename_i v vs' h1 h2
      simp at h
      subst h
      simp [hE _ _ h1, oevs_map hE h2]
    · simp at h

/-- what a call promises: a result under κ, nothing elder changed but what it was given to write, new chunks -/
def Ret {ρ ν : Type} (M0 : List Ch) (F : Nat → Prop) (w : World) (κ : ρ → Prop) (val : ρ → ν → Value) (N : ρ → ν → List Ch) (e : Ending) (w' : World) : Prop :=
  ∃ r s, κ r ∧ e = .returned (val r s) ∧ UpdD (feet M0) w w' ∧ NewCh M0 F w w' (N r s)
theorem free_cell {b : Nat} {cs : List Value} {T : TypeId} : (cellCh b cs T).free := fun _ _ _ h => h
theorem free_own {α : Type} {El' : El α} {enc : α → List Value} {e : Nat} {v : Value} {xs : List α} (hfl : Flat El' enc) : (ownCh El' e v xs).free := fun F F' w ⟨css, h1, h2⟩ => by
  refine ⟨css, ?_, h2⟩
  have go : ∀ (ys : List α) (dss : List (List Value)), Rows El' F w ys dss → Rows El' F' w ys dss := by
    intro ys
    induction ys with
    | nil => intro dss h; cases dss <;> first | trivial | exact h.elim
    | cons y0 r ih => intro dss h; cases dss with
      | nil => exact h.elim
      | cons d0 ds => exact ⟨hfl.free _ _ _ _ _ _ h.1, ih ds h.2⟩
  exact go _ _ h1

section
variable {P : Program} {n : Nat} {G D : Nat → Prop} {w0 : World} {Q : Exit → Act → World → Prop} {R : Act → World → Prop} {E : Env} {L : List Ch} {φ : Prop}
variable {d : Tmp} {ty : TypeId} {pos : String} {aft : Array Edge} {gd : Option (Nat × Bool)} {Tk : Act → World → Prop} {Lr : List Ch} {x y : Operand} {T T' S : TypeId} {e sz by' : Nat}

theorem o_call {ρ ν : Type} {f : Nat} {l : List Operand} {at' : Array TypeId} {vs : List Value} {κ : ρ → Prop} {val : ρ → ν → Value} {N : ρ → ν → List Ch} {M0 L' : List Ch} (hf : ∀ args w, (callFunc f args).run P w = .ok (.enter f args) w) (hargs : oevs E l = some vs) (hd : Nat.blt d n = true)
    (hc : ∀ w, Mem G D w0 (M0 ++ L') w → φ → Calls P f vs.toArray w (Ret M0 (fz G (M0 ++ L') w) w κ val N)) (k : ∀ r s, Nx n G D w0 R ((d, val r s) :: E) (N r s ++ L') (κ r)) :
    Nx n G D w0 (fun a w => Oper.wp P ⟨some d, .call { callee := .value (.func f), args := l.toArray, argTypes := at' }, ty, pos, aft, gd⟩ a w R Q) E (M0 ++ L') φ := fun a w hE hm hφ => by
  have hx := oevs_map (fun x v h => hE.eval h) hargs
  have hr : (execOp a.eval ⟨some d, .call { callee := .value (.func f), args := l.toArray, argTypes := at' }, ty, pos, aft, gd⟩).run P w = .ok (.enter f vs.toArray) w := by
    simp [execOp, resolve, Deferred.ofValue, Act.eval, invoke, hf, ← hx]
  show Oper.upon P _ a R Q _
  rw [hr, Oper.upon_enter]
  refine (hc w hm hφ).mono ?_
  rintro e w' ⟨r, s, h1, rfl, h2, h3⟩
  exact k r s _ _ (hE.put hd _) (hm.call h2 h3) h1
/-- results that hang on nothing of the caller's: the callee may read whatever it does not write -/
theorem ret_free {ρ ν : Type} {M0 : List Ch} {F F' : Nat → Prop} {w : World} {κ : ρ → Prop} {val : ρ → ν → Value} {N : ρ → ν → List Ch} (hf : ∀ r s, ∀ c ∈ N r s, c.free) {e : Ending} {w' : World} (h : Ret M0 F w κ val N e w') : Ret M0 F' w κ val N e w' := by
  obtain ⟨r, s, h1, h2, h3, h4⟩ := h
  exact ⟨r, s, h1, h2, h3, h4.free (hf r s)⟩
theorem o_callP {ρ ν : Type} {f : Nat} {l : List Operand} {at' : Array TypeId} {vs : List Value} {κ : ρ → Prop} {val : ρ → ν → Value} {N : ρ → ν → List Ch} (hf : ∀ args w, (callFunc f args).run P w = .ok (.enter f args) w) (hargs : oevs E l = some vs) (hd : Nat.blt d n = true)
    (hc : ∀ w, Mem G D w0 L w → φ → Calls P f vs.toArray w (Ret [] (fz G L w) w κ val N)) (k : ∀ r s, Nx n G D w0 R ((d, val r s) :: E) (N r s ++ L) (κ r)) :
    Nx n G D w0 (fun a w => Oper.wp P ⟨some d, .call { callee := .value (.func f), args := l.toArray, argTypes := at' }, ty, pos, aft, gd⟩ a w R Q) E L φ :=
  o_call (M0 := []) (L' := L) hf hargs hd hc k
/-- the chunks in another order, or fewer -/
theorem pk (l : List Nat) (hl : nodupB l = true) (h : Nx n G D w0 R E (lpick L l) φ) : Nx n G D w0 R E L φ := fun a w hE hm hφ => h a w hE (hm.pick l hl) hφ

/-! ends -/
def resOne (tmps : Array Value) : ResultVar → Sem Value
  | .tmp t => pure (tmps.getD t undef)
  | .cell a t => do loadVar t (← asAddr (tmps.getD a undef))
theorem results_resOne (fn : Func) (tmps : Array Value) : results fn tmps = (do
    let vs ← fn.results.mapM (resOne tmps)
    pure (if h : vs.size = 1 then vs[0] else .tuple vs)) := rfl
def Rv (P : Program) (n : Nat) (G D : Nat → Prop) (w0 : World) (E : Env) (L : List Ch) (rv : ResultVar) (v : Value) : Prop :=
  ∀ a w, Has n E a → Mem G D w0 L w → (resOne a.tmps rv).run P w = .ok v w
theorem rv_t {s : Nat} {v : Value} (hs : eget E s = some v) : Rv P n G D w0 E L (.tmp s) v := fun a w hE _ => by simp [resOne, hE.get _ _ hs]
theorem rv_c {s b sz : Nat} {cs : List Value} {T0 : TypeId} {row : Bool} {v : Value} (i : Nat) (hi : lget L i = some (cellCh b cs T0)) (hs : eget E s = some (.pointer (some ⟨b, 0, none⟩))) (hT : tyB P T = some (row, sz)) (hv : ldv row 0 sz cs = some v) : Rv P n G D w0 E L (.cell s T) v := fun a w hE hm => by
  have hb : w.heap[b]? = some (.cells cs.toArray T0 (0, 0)) := hm.get hi
  have hr : w.rangeAt b 0 cs := fun j u hu => by rw [cell_of_row w b _ cs.toArray T0 (0, 0) hb]; simpa using hu
  have := run_ldv (P := P) hT hr hv
  simp only [Instr.loadAt, Instr.sureAddr, Sem.run_bind, Sem.run_pure, Result.andThen_ok, Nat.add_zero] at this
  simp [resOne, hE.get _ _ hs, asAddr, this]
theorem l_end1 {M0 : List Ch} {ρ ν : Type} {F : Nat → Prop} {fn : Func} {q : ResultVar} {κ : ρ → Prop} {val : ρ → ν → Value} {N : ρ → ν → List Ch} (hres : fn.results = #[q]) (r : ρ) (u : ν) (hs : Rv P n G (feet M0) w0 E L q (val r u))
    (hN : ∀ w, Mem G (feet M0) w0 L w → NewCh M0 F w0 w (N r u)) : Nx n G (feet M0) w0 (bodyPost P fn (Ret M0 F w0 κ val N) .ret) E L (κ r) := fun a w hE hm hφ =>
  ⟨hE.defers, val r u, by simp [results_resOne, hres, hs a w hE hm], r, u, hφ, rfl, hm.updD, hN w hm⟩
theorem l_end2 {M0 : List Ch} {ρ ν : Type} {F : Nat → Prop} {fn : Func} {q q2 : ResultVar} {v v2 : Value} {κ : ρ → Prop} {val : ρ → ν → Value} {N : ρ → ν → List Ch} (hres : fn.results = #[q, q2]) (r : ρ) (u : ν) (hs : Rv P n G (feet M0) w0 E L q v) (ht : Rv P n G (feet M0) w0 E L q2 v2) (hv : val r u = .tuple #[v, v2])
    (hN : ∀ w, Mem G (feet M0) w0 L w → NewCh M0 F w0 w (N r u)) : Nx n G (feet M0) w0 (bodyPost P fn (Ret M0 F w0 κ val N) .ret) E L (κ r) := fun a w hE hm hφ =>
  ⟨hE.defers, val r u, by simp [results_resOne, hres, hs a w hE hm, ht a w hE hm, hv], r, u, hφ, rfl, hm.updD, hN w hm⟩
/-! the beginning -/
/-- where results may lie in what came in: F tells what may be read -/
theorem enterB {F : Nat → Prop} {f : Nat} {fn : Func} {c : Code} {args : List Value} {K : Ending → World → Prop} (M0 : List Ch) (hF : ∀ b, F b → b < w0.heap.size ∧ ¬ feet M0 b) (hf : P.funcs[f]? = some fn) (hb : fn.body = some c) (hn : fn.ntmps = n) (hle : Nat.ble args.length n = true)
    (L : List Ch) (hfoot : ∀ c ∈ L, ∀ b, ¬ c.foot b) (hh : ∀ c ∈ L, c.holds F w0)
    (hM : ∀ c ∈ M0, ∀ b, c.foot b → b < w0.heap.size) (hMd : M0.Pairwise fun c d => ∀ b, c.foot b → ¬ d.foot b) (hMh : ∀ c ∈ M0, c.holds F w0) (hφ : φ)
    (h : Nx n (gB F M0 w0) (feet M0) w0 (c.wp P (bodyPost P fn K)) (eargs 0 args) (M0 ++ L) φ) : Calls P f args.toArray w0 K := by
  have hle' := Nat.le_of_ble_eq_true hle
  refine calls_of_wp hf hb ?_
  refine h _ _ ?_ ?_ hφ
  · rw [hn]
    have := Has.enter (args := args) (f := n - args.length) (n := n) (by omega) (eargs 0 args) (fun s v hs => by have := eargs_get args 0 s v hs; simpa using this.2)
    simpa using this
  · have hfz : ∀ b, F b → fz (gB F M0 w0) (M0 ++ L) w0 b := fun b hb => ⟨(hF b hb).1, .inl hb, fun d hd hk => by
      rcases List.mem_append.1 hd with e | e
      · exact (hF b hb).2 ⟨d, e, hk⟩
      · exact hfoot d e b hk⟩
    refine Mem.start w0 _ _ (M0 ++ L) (fun b h => .inr h) (fun c hc b hb => ?_) ?_ (fun c hc => ?_)
    · rcases List.mem_append.1 hc with e | e
      · exact ⟨hM c e b hb, c, e, hb⟩
      · exact absurd hb (hfoot c e b)
    · exact List.pairwise_append.2 ⟨hMd, List.Pairwise.imp_of_mem (R := fun _ _ => True) (fun hc _ _ b hb => absurd hb (hfoot _ hc b)) (List.pairwise_of_forall (fun _ _ => trivial)), fun c _ d hd b _ h2 => hfoot d hd b h2⟩
    · rcases List.mem_append.1 hc with e | e
      · exact c.keep _ _ w0 w0 hfz (fun _ _ => rfl) (hMh c e)
      · exact c.keep _ _ w0 w0 hfz (fun _ _ => rfl) (hh c e)
/-- what the call may read of the caller's -/
theorem fz_ok {w : World} {M0 L' : List Ch} : ∀ b, fz G (M0 ++ L') w b → b < w.heap.size ∧ ¬ feet M0 b := fun b hb => ⟨hb.1, fun ⟨d, hd, h⟩ => hb.2.2 d (List.mem_append.2 (.inl hd)) h⟩
theorem fz_ok0 {w : World} : ∀ b, fz G L w b → b < w.heap.size ∧ ¬ feet [] b := fun b hb => ⟨hb.1, fun ⟨d, hd, _⟩ => by simp at hd⟩
theorem Mem.ro {α : Type} {El' : El α} {v : Value} {xs : List α} {w : World} (m : Mem G D w0 L w) (i : Nat) (hi : lget L i = some (roCh El' v xs)) : Sl El' (fz G L w) w v xs := m.get hi
/-- a slice of the call's own is not written any more -/
theorem frz {α : Type} {El' : El α} {v : Value} {xs : List α} {c : Ch} (i : Nat) (hi : lget L i = some c) (hc : Reads c El' v xs) (h : Nx n G D w0 R E (lset L i (roCh El' v xs)) φ) : Nx n G D w0 R E L φ := fun a w hE hm hφ =>
  h a w hE (hm.freeze i hi hc) hφ
/-! comparisons for equality -/
theorem o_eql (M : Mode P n G D w0 E ⟨some d, .binOp .eql T x y T', ty, pos, aft, gd⟩ Tk R Lr L) {X Y : Int} {K : IntKind} (hT : P.underlying T = some (.int K)) (hx : oev E x = some (.int K X)) (hy : oev E y = some (.int K Y)) (hd : Nat.blt d n = true) (k : Nx n G D w0 R ((d, .bool (decide (X = Y))) :: E) L φ) :
    Nx n G D w0 Tk E L φ :=
  M.val hd rfl (fun ρ w hE _ _ => by simp [execOp, hE _ _ hx, hE _ _ hy, go_sem, hT, run_underlying hT]; rfl) id k
theorem o_neq (M : Mode P n G D w0 E ⟨some d, .binOp .neq T x y T', ty, pos, aft, gd⟩ Tk R Lr L) {X Y : Int} {K : IntKind} (hT : P.underlying T = some (.int K)) (hx : oev E x = some (.int K X)) (hy : oev E y = some (.int K Y)) (hd : Nat.blt d n = true) (k : Nx n G D w0 R ((d, .bool (!decide (X = Y))) :: E) L φ) :
    Nx n G D w0 Tk E L φ :=
  M.val hd rfl (fun ρ w hE _ _ => by simp [execOp, hE _ _ hx, hE _ _ hy, go_sem, hT, run_underlying hT]; rfl) id k
theorem o_nilc (M : Mode P n G D w0 E ⟨some d, .nilCheck x, ty, pos, aft, gd⟩ Tk R Lr L) {a : Addr} (hx : oev E x = some (.pointer (some a))) (hd : Nat.blt d n = true) (k : Nx n G D w0 R ((d, .pointer (some a)) :: E) L φ) : Nx n G D w0 Tk E L φ :=
  M.val hd rfl (fun ρ w hE _ _ => by simp [execOp, hE _ _ hx]) id k
/-! structs are built -/
def bldB (P : Program) (T : TypeId) : Option (Array (Nat × Nat) × List Value) :=
  match P.underlying T, zeroB P T with
  | some (.struct fs), some zs => (fs.toList.mapM fun (f : Field) => (P.info? f.type).map fun i => (f.offset, i.size)).map fun l => (l.toArray, zs)
  | _, _ => none
theorem places_run {w : World} : ∀ (fs : List Field) (l : List (Nat × Nat)), (fs.mapM fun (f : Field) => (P.info? f.type).map fun i => (f.offset, i.size)) = some l →
    (fs.mapM fun f => (do pure (f.offset, ← sizeOf f.type) : Sem (Nat × Nat))).run P w = .ok l w
  | [], l, h => by simp at h; subst h; rfl
  | f :: r, l, h => by
    simp only [List.mapM_cons] at h ⊢
    cases hi : P.info? f.type with
    | none => simp [hi] at h
    | some i =>
      cases hr : (r.mapM fun (f : Field) => (P.info? f.type).map fun i => (f.offset, i.size)) with
      | none => simp [hi, hr] at h
      | some l' =>
        simp [hi, hr] at h
        subst h
        have := places_run (w := w) r l' hr
        simp [Sem.run_bind, sizeOf, typeInfo, hi] at this ⊢
        simp [this]
theorem o_bld {ps : Array (Nat × Operand)} (M : Mode P n G D w0 E ⟨some d, .build T ps, ty, pos, aft, gd⟩ Tk R Lr L) {qs : List (Nat × Value)} {cells zs : List Value} {pl : Array (Nat × Nat)}
    (hq : ∀ ρ : Operand → Value, (∀ x v, oev E x = some v → ρ x = v) → (ps.map fun (i, x) => (i, ρ x)) = qs.toArray) (hd : Nat.blt d n = true) (hT : bldB P T = some (pl, zs)) (hfill' : lfill (pl[·]?) zs qs = some cells)
    (k : Nx n G D w0 R ((d, .agg cells.toArray) :: E) L φ) : Nx n G D w0 Tk E L φ :=
  M.val hd rfl (fun ρ w hE hm _ => by
    have hfill := fill_of _ _ _ _ hfill'
    unfold bldB at hT
    split at hT
    · rename_i fs zs' hu hz
      cases hp : (fs.toList.mapM fun (f : Field) => (P.info? f.type).map fun i => (f.offset, i.size)) with
      | none => rw [hp] at hT; simp at hT
      | some l =>
        rw [hp] at hT
        simp at hT
        obtain ⟨rfl, rfl⟩ := hT
        have hr := places_run (w := w) fs.toList l hp
        cases hi : P.info? T with
        | none => simp [zeroB, hi] at hz
        | some i =>
          obtain ⟨z, hz1, hz2⟩ := zeroB_spec hz hi
          have hr' : (fs.mapM fun f => (do pure (f.offset, ← sizeOf f.type) : Sem (Nat × Nat))).run P w = .ok l.toArray w := by
            have h2 : (fs.mapM fun f => (do pure (f.offset, ← sizeOf f.type) : Sem (Nat × Nat))) = Functor.map List.toArray (fs.toList.mapM fun f => (do pure (f.offset, ← sizeOf f.type) : Sem (Nat × Nat))) := by
              rw [← List.mapM_toArray, Array.toArray_toList]
            rw [h2, map_eq_pure_bind, Sem.run_bind, hr]
            rfl
          have hz3 : (zeroValue T).run P w = .ok z w := by simp [zeroValue, typeInfo, hi, hz1]
          have hb : (Instr.build T qs.toArray).run P w = .ok (.agg cells.toArray) w := by
            unfold Instr.build
            rw [Sem.run_bind, hz3, Result.andThen_ok, Sem.run_bind, run_underlying hu, Result.andThen_ok]
            simp only
            rw [Sem.run_bind, hr', Result.andThen_ok]
            rw [hz2, hfill]
            rfl
          simp only [execOp, hq ρ hE, Sem.run_bind, hb]
          rfl
    · simp at hT) id k

/-! guards and picks -/
theorem o_pickT {c : Operand} (M : Mode P n G D w0 E ⟨some d, .pick c x y, ty, pos, aft, gd⟩ Tk R Lr L) {v : Value} (hc : oev E c = some (.bool true)) (hx : oev E x = some v) (hd : Nat.blt d n = true) (k : Nx n G D w0 R ((d, v) :: E) L φ) : Nx n G D w0 Tk E L φ :=
  M.val hd rfl (fun ρ w hE _ _ => by simp [execOp, hE _ _ hc, hE _ _ hx, asBool]) id k
theorem o_pickF {c : Operand} (M : Mode P n G D w0 E ⟨some d, .pick c x y, ty, pos, aft, gd⟩ Tk R Lr L) {v : Value} (hc : oev E c = some (.bool false)) (hx : oev E y = some v) (hd : Nat.blt d n = true) (k : Nx n G D w0 R ((d, v) :: E) L φ) : Nx n G D w0 Tk E L φ :=
  M.val hd rfl (fun ρ w hE _ _ => by simp [execOp, hE _ _ hc, hE _ _ hx, asBool]) id k
theorem yielded_of {ops : Array Oper} {j dj : Nat} {a : Act} {b : Bool} (hj : (ops[j]?).bind (·.dst) = some dj) (hE : Has n E a) (hv : eget E dj = some (.bool b)) : yielded ops a.tmps j = some b := by
  unfold yielded
  cases ho : ops[j]? with
  | none => simp [ho] at hj
  | some o => simp [ho] at hj; simp [ho, hj, hE.get _ _ hv]
theorem st_gw {ops : Array Oper} {rest : List Oper} {dst : Option Tmp} {op : Op} {j dj : Nat} {want : Bool} (hj : (ops[j]?).bind (·.dst) = some dj) (hv : eget E dj = some (.bool want))
    (h : Nx n G D w0 (fun a w => Oper.wp P ⟨dst, op, ty, pos, aft, some (j, want)⟩ a w (wpList P ops Q rest) Q) E L φ) : Nx n G D w0 (wpList P ops Q (⟨dst, op, ty, pos, aft, some (j, want)⟩ :: rest)) E L φ := fun a w hE hm hφ => by
  unfold wpList
  rw [if_pos (by simp [Region.wanted, yielded_of hj hE hv])]
  exact .inl (h a w hE hm hφ)
theorem st_g {ops : Array Oper} {rest : List Oper} {dst : Option Tmp} {op : Op} {j dj : Nat} {want : Bool} (hj : (ops[j]?).bind (·.dst) = some dj) (hv : eget E dj = some (.bool want)) : Mode P n G D w0 E ⟨dst, op, ty, pos, aft, some (j, want)⟩ (wpList P ops Q (⟨dst, op, ty, pos, aft, some (j, want)⟩ :: rest)) (wpList P ops Q rest) L L :=
  ⟨fun hd ho hr hψ k => st_gw hj hv (o_val hd ho hr hψ k)⟩
/-- the guard's value is not the one that is wanted -/
def nw : Value → Bool → Bool
  | .bool b, want => !(b == want)
  | _, _ => true
theorem not_wanted {ops : Array Oper} {j dj : Nat} {a : Act} {v : Value} {o : Oper} {want : Bool} (ho : o.guard = some (j, want)) (hj : (ops[j]?).bind (·.dst) = some dj) (hE : Has n E a) (hv : eget E dj = some v) (hb : nw v want = true) : Region.wanted o (yielded ops a.tmps) = false := by
  have h1 := hE.get _ _ hv
  unfold Region.wanted
  rw [ho]
  simp only
  unfold yielded
  rw [hj]
  simp only [Option.bind_some, h1]
  cases v <;> simp_all [nw]
theorem st_s {ops : Array Oper} {rest : List Oper} {op : Op} {j dj : Nat} {want : Bool} {v : Value} (hj : (ops[j]?).bind (·.dst) = some dj) (hv : eget E dj = some v) (hb : nw v want = true) (hd : Nat.blt d n = true)
    (h : Nx n G D w0 (wpList P ops Q rest) ((d, undef) :: E) L φ) : Nx n G D w0 (wpList P ops Q (⟨some d, op, ty, pos, aft, some (j, want)⟩ :: rest)) E L φ := fun a w hE hm hφ => by
  unfold wpList
  rw [if_neg (by rw [not_wanted rfl hj hE hv hb]; simp)]
  exact h _ _ (hE.put hd _) hm hφ
/-- a bool of the frame is parted -/
theorem st_sp {dj : Nat} {b : Bool} {A B : Prop} (hv : eget E dj = some (.bool b)) (ht : Nx n G D w0 R ((dj, .bool true) :: E) L A) (hf : Nx n G D w0 R ((dj, .bool false) :: E) L B) : Nx n G D w0 R E L (ifW b A B) := fun a w hE hm hφ => by
  have key : ∀ c, b = c → Has n ((dj, .bool c) :: E) a := fun c hc => ⟨hE.size, hE.defers, fun s v hs => by
    rw [eget_cons] at hs
    by_cases e : dj = s
    · subst e; rw [if_pos rfl] at hs; cases hs; rw [← hc]; exact hE.get _ _ hv
    · rw [if_neg e] at hs; exact hE.get _ _ hs⟩
  cases hb : b with
  | true => exact ht a w (key _ hb) hm (hφ.1 hb)
  | false => exact hf a w (key _ hb) hm (hφ.2 hb)

/-! nil slices are the call's own -/
theorem mem_nil {α : Type} (El' : El α) (e : Nat) {w : World} (hm : Mem G D w0 L w) : Mem G D w0 (ownCh El' e (.slice none 0 0) [] :: L) w :=
  hm.note (fun b hb => by simp [ownCh, Value.ownBlock] at hb) (Own.nil ..)
theorem o_asn {α : Type} (El' : El α) (e : Nat) (hx : oev E x = some (.slice none 0 0)) (hd : Nat.blt d n = true) (k : Nx n G D w0 R ((d, .slice none 0 0) :: E) (ownCh El' e (.slice none 0 0) [] :: L) φ) : Nx n G D w0 (fun a w => Oper.wp P ⟨some d, .assign x, ty, pos, aft, gd⟩ a w R Q) E L φ :=
  o_gen hd rfl fun ρ w hE hm hφ => ⟨_, w, _, φ, by simp [execOp, hE _ _ hx], mem_nil El' e hm, hφ, k⟩
/-- what a callee may read that writes M0 alone -/
theorem Mem.rdM {α : Type} {El' : El α} {v : Value} {xs : List α} {c : Ch} {w : World} {M0 L' : List Ch} (m : Mem G D w0 (M0 ++ L') w) (i : Nat) (hi : lget L' i = some c) (hc : Reads c El' v xs) : Sl El' (fun b => b < w.heap.size ∧ ¬ feet M0 b) w v xs := by
  have hmem : c ∈ M0 ++ L' := List.mem_append.2 (.inr (lget_mem hi))
  refine (hc _ _ (m.hold c hmem)).keep (fun b hb => ?_) (fun _ _ => rfl)
  rcases hb with hb | hb
  · exact ⟨hb.1, fun ⟨d, hd, h⟩ => hb.2.2 d (List.mem_append.2 (.inl hd)) h⟩
  · exact ⟨(m.range c hmem b hb).1, fun ⟨d, hd, h⟩ => (List.pairwise_append.1 m.disj).2.2 d hd c (lget_mem hi) b h hb⟩
theorem Mem.rd0 {α : Type} {El' : El α} {v : Value} {xs : List α} {c : Ch} {w : World} (m : Mem G D w0 L w) (i : Nat) (hi : lget L i = some c) (hc : Reads c El' v xs) : Sl El' (fun b => b < w.heap.size ∧ ¬ feet [] b) w v xs :=
  Mem.rdM (M0 := []) (L' := L) m i hi hc
/-- the chunks that a callee is given to write -/
structure Given (M0 : List Ch) (F : Nat → Prop) (w : World) : Prop where
  lt : ∀ c ∈ M0, ∀ b, c.foot b → b < w.heap.size
  disj : M0.Pairwise fun c d => ∀ b, c.foot b → ¬ d.foot b
  hold : ∀ c ∈ M0, c.holds F w
/-- all that the callee does not write -/
def allB (M0 : List Ch) (w : World) (b : Nat) : Prop := b < w.heap.size ∧ ¬ feet M0 b
theorem Mem.given {w : World} {M0 L' : List Ch} (m : Mem G D w0 (M0 ++ L') w) : Given M0 (allB M0 w) w :=
  ⟨fun c hc b h => (m.range c (List.mem_append.2 (.inl hc)) b h).1, (List.pairwise_append.1 m.disj).1,
   fun c hc => c.keep _ _ w w (fun b hb => ⟨hb.1, fun ⟨d, hd, h⟩ => hb.2.2 d (List.mem_append.2 (.inl hd)) h⟩) (fun _ _ => rfl) (m.hold c (List.mem_append.2 (.inl hc)))⟩
theorem Mem.givenB {w : World} {M0 L' : List Ch} (m : Mem G D w0 (M0 ++ L') w) : Given M0 (fz G (M0 ++ L') w) w :=
  ⟨fun c hc b h => (m.range c (List.mem_append.2 (.inl hc)) b h).1, (List.pairwise_append.1 m.disj).1, fun c hc => m.hold c (List.mem_append.2 (.inl hc))⟩
theorem Given.nil (F : Nat → Prop) (w : World) : Given [] F w := ⟨fun c h => by simp at h, List.Pairwise.nil, fun c h => by simp at h⟩
theorem allB_ok {M0 : List Ch} {w : World} : ∀ b, allB M0 w b → b < w.heap.size ∧ ¬ feet M0 b := fun _ h => h
/-! a store into an element of a slice of the call's own -/
theorem lput_append_mid : ∀ (vs pre old post : List Value) (o : Nat), o + vs.length ≤ old.length → lput (pre ++ old ++ post) (pre.length + o) vs = pre ++ lput old o vs ++ post
  | [], _, _, _, _, _ => rfl
  | v :: r, pre, old, post, o, h => by
    simp at h
    have e1 : (pre ++ old ++ post).set (pre.length + o) v = pre ++ old.set o v ++ post := by
      rw [List.append_assoc, List.set_append_right _ _ (by omega), show pre.length + o - pre.length = o by omega, List.set_append_left _ _ (by omega), List.append_assoc]
    rw [lput, e1, Nat.add_assoc, lput_append_mid r pre (old.set o v) post (o + 1) (by simp; omega), lput]
theorem o_sts {α : Type} {El' : El α} {enc : α → List Value} {v : Value} {xs : List α} {I : Int} {z y' : α} {o sz fs : Nat} {row : Bool} {u : Value} (i : Nat) (hi : lget L i = some (ownCh El' e v xs)) (hfl : Flat El' enc) (hes : El'.size = sz) (hz : xs[I.toNat]? = some z)
    (hT : tyB P T = some (row, fs)) (hx : oev E x = some (pEl v I sz o)) (hy : oev E y = some u) (hsz : Nat.beq u.cells.size fs = true) (h1 : u.cells.toList.all (·.oneCell') = true) (hle : Nat.ble (o + fs) sz = true) (hy' : lput (enc z) o u.cells.toList = enc y')
    (k : Nx n G D w0 R E (lset L i (ownCh El' e v (xs.set I.toNat y'))) φ) : Nx n G D w0 (fun a w => Oper.wp P ⟨none, .store T x y, ty, pos, aft, gd⟩ a w R Q) E L φ :=
  o_skip rfl fun ρ w hE hm hφ => by
    have hlt := (List.getElem?_eq_some_iff.1 hz).1
    obtain ⟨css, hr, hown⟩ := hm.get hi
    have hcss := hr.length
    obtain ⟨h0, hown⟩ := hown
    rcases hown with ⟨_, hn⟩ | ⟨g, cap, cur, rfl, hg0, hg, hnc, hcm, hcs, htake⟩
    · omega
    rw [pEl_slice] at hx
    have hzs := Nat.eq_of_beq_eq_true hsz
    have hle' := Nat.le_of_ble_eq_true hle
    have hb : w.heap[g]? = some (.cells cur.toList.toArray e (0, 0)) := by simpa using hg
    have hsub : I.toNat * sz + sz ≤ xs.length * sz := by rw [← Nat.succ_mul]; exact Nat.mul_le_mul_right _ hlt
    have hcap : xs.length * sz ≤ cap * sz := Nat.mul_le_mul_right _ hnc
    have hcl : cur.toList.length = cap * sz := by rw [Array.length_toList, hcs, hes]
    have hr' := run_stv (P := P) (w := w) hT hsz h1 (b := g) (o := 0 + I.toNat * sz + o) (there_of_row hb (by rw [hzs, hcl]; omega))
    refine ⟨_, _, φ, by simp [execOp, hE _ _ hx, hE _ _ hy] at hr' ⊢; rw [hr']; rfl, ?_, hφ, k⟩
    obtain ⟨s1, s2, s3⟩ := setCells_rest g u.cells.toList (I.toNat * sz + o) w
    refine hm.upd hi s1 s2 s3 (by rw [setCells_size]; exact Nat.le_refl _) (fun x _ hx => setCells_other g _ _ _ _ (fun e => hx (by rw [e]; rfl))) (fun x hx => ⟨?_, .inl hx⟩) ?_
    · have hx' : some g = some x := hx
      cases hx'
      rw [setCells_size]
      exact (Array.getElem?_eq_some_iff.1 hg).1
    · -- the new element's cells
      have hcz : El'.cells (fz G L w) w z (enc z) := (hfl _ _ _ _).2 rfl
      obtain ⟨pre, post, old, e1, e2, e3, css', e4, e5⟩ := hr.set I.toNat (y := y') (ds := enc y') hlt ((hfl _ _ _ _).2 rfl)
      have hold : old = enc z := by
        obtain ⟨cs, c1, c2⟩ := hr.get hz
        rw [(hfl _ _ _ _).1 c1] at c2
        apply List.ext_getElem?
        intro j
        by_cases hj : j < (enc z).length
        · have := c2 j (enc z)[j] (List.getElem?_eq_getElem hj)
          rw [e1, List.append_assoc, ← e2, List.getElem?_append_right (by omega), show pre.length + j - pre.length = j by omega, List.getElem?_append_left (by rw [e3, ← hfl.size w z]; exact hj)] at this
          rw [this, List.getElem?_eq_getElem hj]
        · rw [List.getElem?_eq_none (by rw [e3, ← hfl.size w z]; omega), List.getElem?_eq_none (by omega)]
      have hlz : (enc z).length = sz := by rw [hfl.size w z, hes]
      have hup := setCells_heap g e (0, 0) u.cells.toList (I.toNat * sz + o) cur.toList w hb
      refine ⟨css', ?_, ?_, .inr ⟨g, cap, (lput cur.toList (I.toNat * sz + o) u.cells.toList).toArray, by simp, hg0, hup, by simpa using hnc, hcm, by simpa [lput_length] using hcs, ?_⟩⟩
      · have go : ∀ (F F' : Nat → Prop) (w' : World) (ys : List α) (dss : List (List Value)), Rows El' F w ys dss → Rows El' F' w' ys dss := by
          intro F F' w' ys
          induction ys with
          | nil => intro dss h; cases dss <;> first | trivial | exact h.elim
          | cons y0 r ih => intro dss h; cases dss with
            | nil => exact h.elim
            | cons d0 ds => exact ⟨hfl.free _ _ _ _ _ _ h.1, ih ds h.2⟩
        exact go _ _ _ _ _ e5
      · have := e5.length
        simpa using this
      · rw [e4]
        have hct : cur.toList = pre ++ old ++ (post ++ cur.toList.drop (xs.length * sz)) := by
          rw [← List.append_assoc, ← e1, ← htake, hes, List.take_append_drop]
        rw [hct, ← hes, ← e2, lput_append_mid _ _ _ _ _ (by rw [hold, hlz]; simp; omega), hold, hy', ← List.append_assoc]
        rw [List.length_set]
        have hly : (enc y').length = El'.size := hfl.size w y'
        have htot : (pre ++ enc y' ++ post).length = xs.length * El'.size := by
          have h5 := congrArg List.length e1
          rw [hcss] at h5
          simp at h5 ⊢
          omega
        rw [← htot]
        exact List.take_left
end

end
section

open Go.RowKit

class PanicOk (Q : Exit → Act → World → Prop) : Prop where
  ok : ∀ c a d v w, Q (.panic c) (Act.put a d v) w → Q (.panic c) a w
instance panicThen {K : Act → World → Prop} {Q : Exit → Act → World → Prop} [h : PanicOk Q] : PanicOk (Exit.then K Q) := ⟨fun c a d v w k => h.ok c a d v w k⟩
instance panicIn {id : Nat} {Q : Exit → Act → World → Prop} [h : PanicOk Q] : PanicOk (Exit.inBlock id Q) := ⟨fun c a d v w k => h.ok c a d v w k⟩
instance panicBody {P : Program} {fn : Func} {K : Ending → World → Prop} : PanicOk (bodyPost P fn K) := ⟨fun c a d v w k => by cases d <;> exact k⟩

section
variable {P : Program} {n : Nat} {G D : Nat → Prop} {w0 : World} {Q : Exit → Act → World → Prop} {R : Act → World → Prop} {E : Env} {L Lb : List Ch} {φ : Prop}
variable {dst : Option Tmp} {op : Op} {ty : TypeId} {pos : String} {aft : Array Edge} {ops : Array Oper} {listed : Array Bool} {k : Nat}

theorem Mem.drew {w : World} (m : Mem G D w0 L w) : Mem G D w0 L { w with drawn := w.drawn + 1 } := m.grow ((Below.refl _ _).drew)
theorem c_draw {id : Nat} {l : List Oper} (hm : P.follows .mixedOrders = true) (k : Nat) (hk : l.length = k) (Lb : List Ch)
    (h : Nx n G D w0 (wpAnyH P .any l.toArray Q (Mem G D w0 Lb) k (Array.replicate k false)) E L φ) : Nx n G D w0 ((Code.region id l.toArray true).wp P Q) E L φ := fun a w hE m hφ => by
  refine wp_region_held (S := Mem G D w0 Lb) hm ?_
  have := h a _ hE m.drew hφ
  simpa [hk] using this
/-- an operation that only reads is taken first -/
theorem d_take {i : Nat} (hi : ops[i]? = some ⟨dst, op, ty, pos, aft, none⟩) (hs : Region.noSelect ops = true) (hf : Region.free .any ops listed i = true) (hr : (Region.ready .any ops listed).contains i = true)
    [hQ : PanicOk Q] (hL : ∀ w, Mem G D w0 L w → Mem G D w0 Lb w) :
    Mode P n G D w0 E ⟨dst, op, ty, pos, aft, none⟩ (wpAnyH P .any ops Q (Mem G D w0 Lb) (k + 1) listed) (wpAnyH P .any ops Q (Mem G D w0 Lb) k (listed.setIfInBounds i true)) Lb L :=
  ⟨fun {φ ψ d v} hd ho hrun hψ h a w hE m hφ => wpAnyH_take hi hs hf hr (fun c a w => hQ.ok c a _ v w) (.inl ⟨by simp [Region.wanted], fun w' hS => hrun a.eval w' (fun x v h => hE.eval h) hS hφ⟩) (hL w m) (by
    simp only at ho
    subst ho
    exact h _ _ (hE.put hd v) m (hψ hφ))⟩
theorem d_takeg {i j dj : Nat} {want : Bool} (hi : ops[i]? = some ⟨dst, op, ty, pos, aft, some (j, want)⟩) (hs : Region.noSelect ops = true) (hf : Region.free .any ops listed i = true) (hr : (Region.ready .any ops listed).contains i = true)
    [hQ : PanicOk Q] (hL : ∀ w, Mem G D w0 L w → Mem G D w0 Lb w) (hj : (ops[j]?).bind (·.dst) = some dj) (hv : eget E dj = some (.bool want)) :
    Mode P n G D w0 E ⟨dst, op, ty, pos, aft, some (j, want)⟩ (wpAnyH P .any ops Q (Mem G D w0 Lb) (k + 1) listed) (wpAnyH P .any ops Q (Mem G D w0 Lb) k (listed.setIfInBounds i true)) Lb L :=
  ⟨fun {φ ψ d v} hd ho hrun hψ h a w hE m hφ => wpAnyH_take hi hs hf hr (fun c a w => hQ.ok c a _ v w) (.inl ⟨by simp [Region.wanted, yielded_of hj hE hv], fun w' hS => hrun a.eval w' (fun x v h => hE.eval h) hS hφ⟩) (hL w m) (by
    simp only at ho
    subst ho
    exact h _ _ (hE.put hd v) m (hψ hφ))⟩
/-- an operation whose guard says no -/
theorem d_skip {d : Tmp} {i j dj : Nat} {want : Bool} {v : Value} (hi : ops[i]? = some ⟨some d, op, ty, pos, aft, some (j, want)⟩) (hs : Region.noSelect ops = true) (hf : Region.free .any ops listed i = true) (hr : (Region.ready .any ops listed).contains i = true)
    [hQ : PanicOk Q] (hL : ∀ w, Mem G D w0 L w → Mem G D w0 Lb w) (hj : (ops[j]?).bind (·.dst) = some dj) (hv : eget E dj = some v) (hb : nw v want = true) (hd : Nat.blt d n = true)
    (h : Nx n G D w0 (wpAnyH P .any ops Q (Mem G D w0 Lb) k (listed.setIfInBounds i true)) ((d, undef) :: E) L φ) : Nx n G D w0 (wpAnyH P .any ops Q (Mem G D w0 Lb) (k + 1) listed) E L φ := fun a w hE m hφ =>
  wpAnyH_take hi hs hf hr (fun c a w => hQ.ok c a _ _ w) (.inr ⟨not_wanted rfl hj hE hv hb, rfl⟩) (hL w m) (h _ _ (hE.put hd _) m hφ)
/-- what must hold of a place of a region that is taken first -/
def takB (ops : Array Oper) (listed : Array Bool) (i : Nat) : Bool := Region.noSelect ops && Region.free .any ops listed i && (Region.ready .any ops listed).contains i
theorem dt (i : Nat) (hL : ∀ w, Mem G D w0 L w → Mem G D w0 Lb w) [hQ : PanicOk Q] (hi : ops[i]? = some ⟨dst, op, ty, pos, aft, none⟩ := by rfl) (hr : takB ops listed i = true := by kernel_rfl) :
    Mode P n G D w0 E ⟨dst, op, ty, pos, aft, none⟩ (wpAnyH P .any ops Q (Mem G D w0 Lb) (k + 1) listed) (wpAnyH P .any ops Q (Mem G D w0 Lb) k (listed.setIfInBounds i true)) Lb L := by
  simp only [takB, Bool.and_eq_true] at hr
  exact d_take hi hr.1.1 hr.1.2 hr.2 hL
theorem dtg (i : Nat) {j dj : Nat} {want : Bool} (hL : ∀ w, Mem G D w0 L w → Mem G D w0 Lb w) [hQ : PanicOk Q] (hi : ops[i]? = some ⟨dst, op, ty, pos, aft, some (j, want)⟩ := by rfl) (hr : takB ops listed i = true := by kernel_rfl) (hj : (ops[j]?).bind (·.dst) = some dj := by rfl) (hv : eget E dj = some (.bool want) := by rfl) :
    Mode P n G D w0 E ⟨dst, op, ty, pos, aft, some (j, want)⟩ (wpAnyH P .any ops Q (Mem G D w0 Lb) (k + 1) listed) (wpAnyH P .any ops Q (Mem G D w0 Lb) k (listed.setIfInBounds i true)) Lb L := by
  simp only [takB, Bool.and_eq_true] at hr
  exact d_takeg hi hr.1.1 hr.1.2 hr.2 hL hj hv
theorem dsk (i : Nat) {d : Tmp} {j dj : Nat} {want : Bool} {v : Value} (hL : ∀ w, Mem G D w0 L w → Mem G D w0 Lb w) [hQ : PanicOk Q] (hi : ops[i]? = some ⟨some d, op, ty, pos, aft, some (j, want)⟩) (hr : takB ops listed i = true) (hj : (ops[j]?).bind (·.dst) = some dj) (hv : eget E dj = some v) (hb : nw v want = true) (hd : Nat.blt d n = true)
    (h : Nx n G D w0 (wpAnyH P .any ops Q (Mem G D w0 Lb) k (listed.setIfInBounds i true)) ((d, undef) :: E) L φ) : Nx n G D w0 (wpAnyH P .any ops Q (Mem G D w0 Lb) (k + 1) listed) E L φ := by
  simp only [takB, Bool.and_eq_true] at hr
  exact d_skip hi hr.1.1 hr.1.2 hr.2 hL hj hv hb hd h
/-- the one operation that can come up -/
theorem d_op {i : Nat} {S : World → Prop} {o : Oper} {E' : Env} (hi : ops[i]? = some o) (hw : ∀ a, Has n E a → Region.wanted o (yielded ops a.tmps) = true) (hr : Region.ready .any ops listed = [i])
    (h : Nx n G D w0 (fun a w => Oper.wp P o a w (fun a' w' => S w' ∧ wpAnyH P .any ops Q S k (listed.setIfInBounds i true) a' w') Q) E L φ) : Nx n G D w0 (wpAnyH P .any ops Q S (k + 1) listed) E L φ := fun a w hE m hφ => by
  refine wpAnyH_all hr (by simp) (fun j hj => ?_)
  simp at hj
  subst hj
  unfold wpOp
  simp only [hi, hw a hE, if_true]
  exact .inl (h a w hE m hφ)
theorem d_one {i : Nat} (hi : ops[i]? = some ⟨dst, op, ty, pos, aft, none⟩) (hr : Region.ready .any ops listed = [i])
    (h : Nx n G D w0 (fun a w => Oper.wp P ⟨dst, op, ty, pos, aft, none⟩ a w (fun a' w' => Mem G D w0 Lb w' ∧ wpAnyH P .any ops Q (Mem G D w0 Lb) k (listed.setIfInBounds i true) a' w') Q) E L φ) : Nx n G D w0 (wpAnyH P .any ops Q (Mem G D w0 Lb) (k + 1) listed) E L φ :=
  d_op (E' := E) hi (fun a hE => by simp [Region.wanted]) hr h
theorem d_oneg {i j dj : Nat} {want : Bool} (hi : ops[i]? = some ⟨dst, op, ty, pos, aft, some (j, want)⟩) (hj : (ops[j]?).bind (·.dst) = some dj) (hv : eget E dj = some (.bool want)) (hr : Region.ready .any ops listed = [i])
    (h : Nx n G D w0 (fun a w => Oper.wp P ⟨dst, op, ty, pos, aft, some (j, want)⟩ a w (fun a' w' => Mem G D w0 Lb w' ∧ wpAnyH P .any ops Q (Mem G D w0 Lb) k (listed.setIfInBounds i true) a' w') Q) E L φ) : Nx n G D w0 (wpAnyH P .any ops Q (Mem G D w0 Lb) (k + 1) listed) E L φ :=
  d_op (E' := E) hi (fun a hE => by simp [Region.wanted, yielded_of hj hE hv]) hr h
/-- two operations, either of which can come up -/
theorem d_two {i j : Nat} (hi : ops[i]?.map (·.guard) = some none) (hj : ops[j]?.map (·.guard) = some none) (hr : Region.ready .any ops listed = [i, j])
    (h1 : ∀ o, ops[i]? = some o → Nx n G D w0 (fun a w => Oper.wp P o a w (fun a' w' => Mem G D w0 Lb w' ∧ wpAnyH P .any ops Q (Mem G D w0 Lb) k (listed.setIfInBounds i true) a' w') Q) E L φ)
    (h2 : ∀ o, ops[j]? = some o → Nx n G D w0 (fun a w => Oper.wp P o a w (fun a' w' => Mem G D w0 Lb w' ∧ wpAnyH P .any ops Q (Mem G D w0 Lb) k (listed.setIfInBounds j true) a' w') Q) E L φ) :
    Nx n G D w0 (wpAnyH P .any ops Q (Mem G D w0 Lb) (k + 1) listed) E L φ := fun a w hE m hφ => by
  refine wpAnyH_all hr (by simp) (fun x hx => ?_)
  simp at hx
  unfold wpOp
  rcases hx with rfl | rfl
  · cases ho : ops[x]? with
    | none => simp [ho] at hi
    | some o => simp [ho] at hi; simp only [Region.wanted, hi, if_true]; exact .inl (h1 o ho a w hE m hφ)
  · cases ho : ops[x]? with
    | none => simp [ho] at hj
    | some o => simp [ho] at hj; simp only [Region.wanted, hj, if_true]; exact .inl (h2 o ho a w hE m hφ)
theorem d_three {i j l : Nat} (hi : ops[i]?.map (·.guard) = some none) (hj : ops[j]?.map (·.guard) = some none) (hl : ops[l]?.map (·.guard) = some none) (hr : Region.ready .any ops listed = [i, j, l])
    (h1 : ∀ o, ops[i]? = some o → Nx n G D w0 (fun a w => Oper.wp P o a w (fun a' w' => Mem G D w0 Lb w' ∧ wpAnyH P .any ops Q (Mem G D w0 Lb) k (listed.setIfInBounds i true) a' w') Q) E L φ)
    (h2 : ∀ o, ops[j]? = some o → Nx n G D w0 (fun a w => Oper.wp P o a w (fun a' w' => Mem G D w0 Lb w' ∧ wpAnyH P .any ops Q (Mem G D w0 Lb) k (listed.setIfInBounds j true) a' w') Q) E L φ)
    (h3 : ∀ o, ops[l]? = some o → Nx n G D w0 (fun a w => Oper.wp P o a w (fun a' w' => Mem G D w0 Lb w' ∧ wpAnyH P .any ops Q (Mem G D w0 Lb) k (listed.setIfInBounds l true) a' w') Q) E L φ) :
    Nx n G D w0 (wpAnyH P .any ops Q (Mem G D w0 Lb) (k + 1) listed) E L φ := fun a w hE m hφ => by
  refine wpAnyH_all hr (by simp) (fun x hx => ?_)
  simp at hx
  unfold wpOp
  rcases hx with rfl | rfl | rfl
  · cases ho : ops[x]? with
    | none => simp [ho] at hi
    | some o => simp [ho] at hi; simp only [Region.wanted, hi, if_true]; exact .inl (h1 o ho a w hE m hφ)
  · cases ho : ops[x]? with
    | none => simp [ho] at hj
    | some o => simp [ho] at hj; simp only [Region.wanted, hj, if_true]; exact .inl (h2 o ho a w hE m hφ)
  · cases ho : ops[x]? with
    | none => simp [ho] at hl
    | some o => simp [ho] at hl; simp only [Region.wanted, hl, if_true]; exact .inl (h3 o ho a w hE m hφ)
/-- behind it what may be read is shown anew -/
theorem d_and {K : Act → World → Prop} (hL : ∀ w, Mem G D w0 L w → Mem G D w0 Lb w) (h : Nx n G D w0 K E L φ) : Nx n G D w0 (fun a w => Mem G D w0 Lb w ∧ K a w) E L φ := fun a w hE m hφ => ⟨hL w m, h a w hE m hφ⟩
theorem d_done (hr : Region.ready .any ops listed = []) (h : Nx n G D w0 (Q .normal) E L φ) : Nx n G D w0 (wpAnyH P .any ops Q (Mem G D w0 Lb) k listed) E L φ := fun a w hE m hφ => wpAnyH_done hr (h a w hE m hφ) k
/-- a region whose ways meet again, over whatever stands behind it -/
theorem c_drawQ {σ : Type} {K : σ → Prop} {Rel : σ → Act → World → Prop} {id : Nat} {l : List Oper} (hm : P.follows .mixedOrders = true) (k : Nat) (hk : l.length = k) (Lb : List Ch) [hP : PanicOk (Exit.then (fun a w => ∃ s, K s ∧ Rel s a w) Q)]
    (h : ∀ Q', PanicOk Q' → (∀ s a w, K s → Rel s a w → Q' .normal a w) → Nx n G D w0 (wpAnyH P .any l.toArray Q' (Mem G D w0 Lb) k (Array.replicate k false)) E L φ) :
    Nx n G D w0 ((Code.region id l.toArray true).wp P (Exit.then (fun a w => ∃ s, K s ∧ Rel s a w) Q)) E L φ :=
  c_draw hm k hk Lb (h _ hP (fun s a w h1 h2 => ⟨s, h1, h2⟩))
/-- the operations of a region, by the way to it -/
def codeAt : Code → List Nat → Code
  | c, [] => c
  | .seq a _, 0 :: r => codeAt a r
  | .seq _ b, _ :: r => codeAt b r
  | .cond _ a _, 0 :: r => codeAt a r
  | .cond _ _ b, _ :: r => codeAt b r
  | .block _ b, _ :: r => codeAt b r
  | .loop b, _ :: r => codeAt b r
  | c, _ => c
def opsAt (f : Func) (l : List Nat) : Array Oper :=
  match f.body with
  | some c => match codeAt c l with
    | .region _ ops _ => ops
    | _ => #[]
  | none => #[]
/-- an operation that reads, not taken first: the one that can come up -/
theorem m_op {K : Act → World → Prop} {o : Oper} : Mode P n G D w0 E o (fun a w => Oper.wp P o a w K Q) K L L := ⟨fun hd ho hr hψ k => o_val hd ho hr hψ k⟩
end

end
section

open Go.RowKit

def xorW (x y : Int) (κ : Int → Prop) : Prop := 0 ≤ x ∧ x < 4611686018427387904 ∧ 0 ≤ y ∧ y < 4611686018427387904 ∧ κ ((x.toNat ^^^ y.toNat : Nat) : Int)
def sliceW {α : Type} (xs : List α) (lo hi : Int) (κ : List α → Prop) : Prop := 0 ≤ lo ∧ lo ≤ hi ∧ hi ≤ xs.length ∧ κ ((xs.take hi.toNat).drop lo.toNat)
theorem wraps62 (n : Int) (h₀ : 0 ≤ n) (h₁ : n < 2 ^ 62) : IntKind.i64.wrap n = n := by
  have e : (2 : Int) ^ 62 = 4611686018427387904 := by decide
  rw [e] at h₁
  rw [IntKind.wrap_i64]; omega
theorem xor62 (a b : Nat) (ha : a < 2 ^ 62) (hb : b < 2 ^ 62) : bits .xor .i64 a b = ((a ^^^ b : Nat) : Int) := by
  have hp : 2 ^ 62 ≤ 2 ^ IntKind.i64.bits := by decide
  have ha' : a % 2 ^ IntKind.i64.bits = a := Nat.mod_eq_of_lt (Nat.lt_of_lt_of_le ha hp)
  have hb' : b % 2 ^ IntKind.i64.bits = b := Nat.mod_eq_of_lt (Nat.lt_of_lt_of_le hb hp)
  have cast : ∀ n : Nat, n < 2 ^ 62 → ((n : Nat) : Int) < 2 ^ 62 := fun n h => by exact_mod_cast h
  simp only [bits, BitVec.ofInt_natCast, BitVec.toNat_xor, BitVec.toNat_ofNat, ha', hb']
  exact wraps62 _ (Int.natCast_nonneg _) (cast _ (Nat.xor_lt_two_pow ha hb))

section
variable {P : Program} {n : Nat} {G D : Nat → Prop} {w0 : World} {Q : Exit → Act → World → Prop} {R : Act → World → Prop} {E : Env} {L : List Ch} {φ : Prop}
variable {d : Tmp} {ty : TypeId} {pos : String} {aft : Array Edge} {gd : Option (Nat × Bool)} {Tk : Act → World → Prop} {Lr : List Ch} {x y : Operand} {T T' S : TypeId} {e sz by' : Nat} {at' : Array TypeId}

theorem o_max (M : Mode P n G D w0 E ⟨some d, .call { callee := .builtin .max, args := #[x, y], argTypes := at' }, ty, pos, aft, gd⟩ Tk R Lr L) {X Y : Int} (hx : oev E x = some (.int .i64 X)) (hy : oev E y = some (.int .i64 Y)) (hd : Nat.blt d n = true)
    (k : Nx n G D w0 R ((d, .int .i64 (max X Y)) :: E) L φ) : Nx n G D w0 Tk E L φ :=
  M.val hd rfl (fun ρ w hE _ _ => by
    have e : (if Y > X then Y else X) = max X Y := by rw [Int.max_def]; split <;> split <;> omega
    simp [execOp, resolve, invoke, builtin, hE _ _ hx, hE _ _ hy, Builtin.max_, Builtin.max2, ← e]) id k
theorem o_min (M : Mode P n G D w0 E ⟨some d, .call { callee := .builtin .min, args := #[x, y], argTypes := at' }, ty, pos, aft, gd⟩ Tk R Lr L) {X Y : Int} (hx : oev E x = some (.int .i64 X)) (hy : oev E y = some (.int .i64 Y)) (hd : Nat.blt d n = true)
    (k : Nx n G D w0 R ((d, .int .i64 (min X Y)) :: E) L φ) : Nx n G D w0 Tk E L φ :=
  M.val hd rfl (fun ρ w hE _ _ => by
    have e : (if Y < X then Y else X) = min X Y := by rw [Int.min_def]; split <;> split <;> omega
    simp [execOp, resolve, invoke, builtin, hE _ _ hx, hE _ _ hy, Builtin.min_, Builtin.min2, ← e]) id k
theorem o_xor (M : Mode P n G D w0 E ⟨some d, .binOp .xor T x y T', ty, pos, aft, gd⟩ Tk R Lr L) {X Y : Int} {κ : Int → Prop} (hx : oev E x = some (.int .i64 X)) (hy : oev E y = some (.int .i64 Y)) (hd : Nat.blt d n = true) (k : ∀ z, Nx n G D w0 R ((d, .int .i64 z) :: E) L (κ z)) : Nx n G D w0 Tk E L (xorW X Y κ) :=
  M.val (v := .int .i64 ((X.toNat ^^^ Y.toNat : Nat) : Int)) hd rfl (fun ρ w hE _ hφ => by
    obtain ⟨h1, h2, h3, h4, _⟩ := hφ
    have e0 : (2 : Nat) ^ 62 = 4611686018427387904 := by decide
    have e := xor62 X.toNat Y.toNat (by omega) (by omega)
    rw [Int.toNat_of_nonneg h1, Int.toNat_of_nonneg h3] at e
    simp [execOp, hE _ _ hx, hE _ _ hy, go_sem, e]) (fun h => h.2.2.2.2) (k _)
theorem o_cnvI (M : Mode P n G D w0 E ⟨some d, .convert T T' x, ty, pos, aft, gd⟩ Tk R Lr L) {X : UInt8} (hT : P.underlying T = some (.int .u8)) (hT' : P.underlying T' = some (.int .i64)) (hx : oev E x = some (.int .u8 (X.toNat : Int))) (hd : Nat.blt d n = true) (k : Nx n G D w0 R ((d, .int .i64 (X.toNat : Int)) :: E) L φ) : Nx n G D w0 Tk E L φ :=
  M.val hd rfl (fun ρ w hE _ _ => by
    have h := X.toNat_lt
    have e : IntKind.i64.wrap (X.toNat : Int) = (X.toNat : Int) := by rw [IntKind.wrap_i64]; omega
    simp [execOp, hE _ _ hx, go_sem, convert, run_underlying hT, run_underlying hT', e]) id k
/-- a slice's value is written out -/
theorem nx_ro {α : Type} {El' : El α} {v : Value} {xs : List α} (i : Nat) (hi : lget L i = some (roCh El' v xs)) (h : ∀ a l c, v = .slice a l c → Nx n G D w0 R E L φ) : Nx n G D w0 R E L φ := fun a w hE hm hφ => by
  obtain ⟨a', c', hv, _⟩ := (hm.get hi : Sl El' _ w v xs)
  exact h _ _ _ hv a w hE hm hφ
theorem nx_own {α : Type} {El' : El α} {e : Nat} {v : Value} {xs : List α} (i : Nat) (hi : lget L i = some (ownCh El' e v xs)) (h : ∀ a l c, v = .slice a l c → Nx n G D w0 R E L φ) : Nx n G D w0 R E L φ := fun a w hE hm hφ => by
  obtain ⟨css, _, _, hv⟩ := (hm.get hi : Own El' e _ w v xs)
  rcases hv with ⟨hv, _⟩ | ⟨g, cap, cur, hv, _⟩
  · exact h _ _ _ hv a w hE hm hφ
  · exact h _ _ _ hv a w hE hm hφ

/-! a part of a slice, to be read -/
theorem take_drop_get {α : Type} (xs : List α) (lo hi i : Nat) (h : hi ≤ xs.length) : ((xs.take hi).drop lo)[i]? = if lo + i < hi then xs[lo + i]? else none := by
  rw [List.getElem?_drop, List.getElem?_take]
theorem Sl.part {α : Type} {E : El α} {F : Nat → Prop} {w : World} {a : Option Addr} {len cap : Nat} {xs : List α} (h : Sl E F w (.slice a len cap) xs) (lo hi : Nat) (h1 : lo ≤ hi) (h2 : hi ≤ xs.length) :
    Sl E F w (.slice (if cap = lo then a else a.map (·.add (lo * E.size))) (hi - lo) (cap - lo)) ((xs.take hi).drop lo) := by
  obtain ⟨a', cap', he, hc, hr⟩ := h
  simp at he
  obtain ⟨rfl, rfl, rfl⟩ := he
  have hl : ((xs.take hi).drop lo).length = hi - lo := by simp; omega
  refine ⟨_, _, by rw [hl], by omega, fun h0 => ?_⟩
  rw [hl] at h0
  obtain ⟨b, off, rfl, hb, hx⟩ := hr (by omega)
  have hne : cap ≠ lo := by omega
  refine ⟨b, off + lo * E.size, by simp [hne, Addr.add_mid], hb, fun i x hi' => ?_⟩
  rw [take_drop_get _ _ _ _ h2] at hi'
  split at hi'
  · obtain ⟨cs, c1, c2⟩ := hx (lo + i) x hi'
    refine ⟨cs, c1, ?_⟩
    rwa [Nat.add_mul, ← Nat.add_assoc] at c2
  · cases hi'
theorem mem_part {α : Type} {El' : El α} {v u : Value} {xs ys : List α} {w : World} {i : Nat} (hm : Mem G D w0 L w) (hi : lget L i = some (roCh El' v xs)) (h : ∀ F, Sl El' F w v xs → Sl El' F w u ys) : Mem G D w0 (roCh El' u ys :: L) w :=
  hm.note (fun b hb => hb) (h _ (hm.get hi))
theorem o_slc {α : Type} {El' : El α} {v : Value} {xs : List α} {lo hi : Option Operand} {I J : Int} {κ : List α → Prop} (i : Nat) (hi' : lget L i = some (roCh El' v xs)) (hx : oev E x = some v)
    (hlo : match lo with | none => I = 0 | some l => oev E l = some (.int .i64 I)) (hhi : match hi with | none => J = xs.length | some h => oev E h = some (.int .i64 J)) (hd : Nat.blt d n = true) (hT : elB P T = some (e, sz, by')) (hes : El'.size = sz)
    (k : ∀ v' ys, Nx n G D w0 R ((d, v') :: E) (roCh El' v' ys :: L) (κ ys)) : Nx n G D w0 (fun a w => Oper.wp P ⟨some d, .slice T x lo hi none, ty, pos, aft, gd⟩ a w R Q) E L (sliceW xs I J κ) :=
  o_gen hd rfl fun ρ w hE hm hφ => by
    obtain ⟨h0, h1, h2, h3⟩ := hφ
    obtain ⟨hu, inf, hinf, rfl, rfl⟩ := elB_spec hT
    have hsl := hm.ro i hi'
    obtain ⟨a, cap, hv, hcap, _⟩ := hsl
    have hsl := hm.ro i hi'
    subst hv
    have hp := fun (F : Nat → Prop) (h : Sl El' F w (.slice a xs.length cap) xs) => h.part I.toNat J.toNat (by omega) (by omega)
    refine ⟨_, w, _, κ ((xs.take J.toNat).drop I.toNat), ?_, mem_part hm hi' hp, h3, k _ _⟩
    have e1 : (J : Int) ≤ cap := by omega
    have e2 : 0 ≤ J := by omega
    cases lo with
    | none =>
      cases hi with
      | none =>
        simp only at hlo hhi
        subst hlo hhi
        simp [execOp, hE _ _ hx, Instr.sliceAt, Instr.slice, Instr.sliceBounds, run_underlying hu, sizeOf, typeInfo, hinf, hes]
      | some hh =>
        simp only at hlo hhi
        subst hlo
        simp [execOp, hE _ _ hx, hE _ _ hhi, Instr.sliceAt, Instr.slice, Instr.sliceBounds, Instr.sliceBound, asIntOf, run_underlying hu, sizeOf, typeInfo, hinf, e1, e2, hes]
    | some ll =>
      cases hi with
      | none =>
        simp only at hlo hhi
        subst hhi
        have e3 : I ≤ (xs.length : Int) := h1
        simp [execOp, hE _ _ hx, hE _ _ hlo, Instr.sliceAt, Instr.slice, Instr.sliceBounds, Instr.sliceBound, asIntOf, run_underlying hu, sizeOf, typeInfo, hinf, h0, e3, hes]
      | some hh =>
        simp only at hlo hhi
        have e4 : I ≤ (J.toNat : Int) := by omega
        simp [execOp, hE _ _ hx, hE _ _ hlo, hE _ _ hhi, Instr.sliceAt, Instr.slice, Instr.sliceBounds, Instr.sliceBound, asIntOf, run_underlying hu, sizeOf, typeInfo, hinf, h0, e1, e2, e4, hes]
        intro h; omega
end

end

end Go.Proofs.YtpbmhkfbggmofaaDoor
