/- The core of our printed walks: slots by an association list, memory by a list of chunks; no program in sight. -/
import Derived.WalkKit
import Derived.Deep.MidRow
import Derived.OrdersHeld
import Derived.Laws.AppendOwn
import Derived.Below
set_option linter.unusedSimpArgs false
set_option linter.unusedVariables false
namespace Go.Proofs.YtnogaeckmiekdaaDoor
open Go.RowKit

/-! ### slots -/
abbrev Env := List (Nat × Value)
def eget : Env → Nat → Option Value
  | [], _ => none
  | (k, v) :: r, s => bif Nat.beq k s then some v else eget r s

structure Has (n : Nat) (E : Env) (a : Act) : Prop where
  size : a.tmps.size = n
  defers : a.defers = []
  get : ∀ s v, eget E s = some v → a.tmps[s]? = some v

def oev (E : Env) : Operand → Option Value
  | .tmp s => eget E s
  | .const v => some v
  | .global g => some (.pointer (some ⟨g, 0, none⟩))
  | .func f => some (.func (.func f) #[] #[])

section
variable {n : Nat} {E : Env} {a : Act}
theorem Has.eval {x : Operand} {v : Value} (h : Has n E a) (hx : oev E x = some v) : a.eval x = v := by
  cases x with
  | tmp s => simp [oev] at hx; simp [Act.eval, h.get s v hx]
  | const c => simpa [oev, Act.eval] using hx
  | global g => simpa [oev, Act.eval] using hx
  | func f => simpa [oev, Act.eval] using hx
theorem eget_cons (k : Nat) (v : Value) (s : Nat) : eget ((k, v) :: E) s = if k = s then some v else eget E s := by
  show (bif Nat.beq k s then some v else eget E s) = _
  by_cases h : k = s
  · subst h; simp
  · have : Nat.beq k s = false := by
      cases e : Nat.beq k s
      · rfl
      · exact absurd (Nat.eq_of_beq_eq_true e) h
    rw [this, if_neg h]; rfl
theorem Has.put {d : Nat} (h : Has n E a) (hd : Nat.blt d n = true) (v : Value) : Has n ((d, v) :: E) (a.put (some d) v) := by
  have hd' : d < n := Nat.lt_of_succ_le (by simpa [Nat.blt] using hd)
  refine ⟨by simp [Act.put, h.size], by simpa [Act.put] using h.defers, fun s u hs => ?_⟩
  rw [eget_cons] at hs
  simp only [Act.put, Array.getElem?_setIfInBounds]
  by_cases e : d = s
  · subst e
    rw [if_pos rfl] at hs
    rw [if_pos rfl, if_pos (by rw [h.size]; exact hd'), hs]
  · rw [if_neg e] at hs ⊢
    exact h.get s u hs
theorem Has.put_none (h : Has n E a) (v : Value) : Has n E (a.put none v) := h
def Esub (E : Env) : Env → Prop
  | [] => True
  | (s, v) :: r => eget E s = some v ∧ Esub E r
theorem Has.sub {E' : Env} (h : Has n E a) (hs : Esub E E') : Has n E' a := by
  refine ⟨h.size, h.defers, ?_⟩
  induction E' with
  | nil => intro s v hv; simp [eget] at hv
  | cons p r ih =>
    obtain ⟨k, u⟩ := p
    intro s v hv
    rw [eget_cons] at hv
    by_cases e : k = s
    · subst e; rw [if_pos rfl] at hv; cases hv; exact h.get _ _ hs.1
    · rw [if_neg e] at hv; exact ih hs.2 s v hv
theorem Has.enter {args : List Value} {f : Nat} (hn : args.length + f = n) :
    ∀ E, (∀ s v, eget E s = some v → args[s]? = some v) → Has n E { tmps := args.toArray ++ Array.replicate f undef, defers := [] } := fun E hE =>
  ⟨by simp; omega, rfl, fun s v hs => by
    have h := hE s v hs
    have hl : s < args.length := (List.getElem?_eq_some_iff.1 h).1
    simp only [Array.getElem?_append, List.size_toArray, hl, if_true, List.getElem?_toArray, h]⟩
end

/-! ### memory -/
structure Ch where
  foot : Nat → Prop
  holds : (Nat → Prop) → World → Prop
  keep : ∀ F F' w w', (∀ b, F b → F' b) → (∀ b, F b ∨ foot b → w'.heap[b]? = w.heap[b]?) → holds F w → holds F' w'

/-- the blocks that nobody writes: they may be read (G), and no chunk owns them -/
def fz (G : Nat → Prop) (L : List Ch) (w : World) (b : Nat) : Prop := b < w.heap.size ∧ G b ∧ ∀ c ∈ L, ¬ c.foot b

/-- D: elder blocks that may be written; G: the blocks that may be read, all new ones among them -/
structure Mem (G D : Nat → Prop) (w0 : World) (L : List Ch) (w : World) : Prop where
  fresh : ∀ b, (w0.heap.size ≤ b ∨ D b) → G b
  os : w.os = w0.os
  tape : w.tape = w0.tape
  output : w.output = w0.output
  size : w0.heap.size ≤ w.heap.size
  old : ∀ b, b < w0.heap.size → ¬ D b → w.heap[b]? = w0.heap[b]?
  range : ∀ c ∈ L, ∀ b, c.foot b → b < w.heap.size ∧ (w0.heap.size ≤ b ∨ D b)
  disj : L.Pairwise fun c d => ∀ b, c.foot b → ¬ d.foot b
  hold : ∀ c ∈ L, c.holds (fz G L w) w

def lget : List Ch → Nat → Option Ch
  | [], _ => none
  | c :: _, 0 => some c
  | _ :: r, i + 1 => lget r i
def lset : List Ch → Nat → Ch → List Ch
  | [], _, _ => []
  | _ :: r, 0, c => c :: r
  | d :: r, i + 1, c => d :: lset r i c
def ldrop : List Ch → Nat → List Ch
  | [], _ => []
  | _ :: r, 0 => r
  | d :: r, i + 1 => d :: ldrop r i

theorem lget_mem : ∀ {L : List Ch} {i : Nat} {c : Ch}, lget L i = some c → c ∈ L
  | [], _, _, h => by simp [lget] at h
  | d :: r, 0, c, h => by simp [lget] at h; subst h; exact List.mem_cons_self ..
  | d :: r, i + 1, c, h => List.mem_cons_of_mem _ (lget_mem (by simpa [lget] using h))
theorem ldrop_sub : ∀ (L : List Ch) (i : Nat), (ldrop L i).Sublist L
  | [], _ => List.Sublist.refl _
  | _ :: r, 0 => List.sublist_cons_self _ _
  | d :: r, i + 1 => (ldrop_sub r i).cons_cons d
/-- the members of a list with one place set: the new one, or an elder one from another place -/
theorem mem_lset : ∀ {L : List Ch} {i : Nat} {c c' d : Ch}, lget L i = some c → (L.Pairwise fun c d => ∀ b, c.foot b → ¬ d.foot b) → d ∈ lset L i c' → d = c' ∨ (d ∈ L ∧ ∀ b, d.foot b → ¬ c.foot b)
  | [], _, _, _, _, h, _, _ => by simp [lget] at h
  | x :: r, 0, c, c', d, h, hp, hd => by
    simp [lget] at h; subst h
    simp [lset] at hd
    rcases hd with hd | hd
    · exact .inl hd
    · exact .inr ⟨List.mem_cons_of_mem _ hd, fun b h1 h2 => (List.pairwise_cons.1 hp).1 d hd b h2 h1⟩
  | x :: r, i + 1, c, c', d, h, hp, hd => by
    simp [lget] at h
    simp [lset] at hd
    rcases hd with hd | hd
    · subst hd
      exact .inr ⟨List.mem_cons_self .., fun b h1 h2 => (List.pairwise_cons.1 hp).1 c (lget_mem h) b h1 h2⟩
    · rcases mem_lset h (List.pairwise_cons.1 hp).2 hd with e | ⟨e1, e2⟩
      · exact .inl e
      · exact .inr ⟨List.mem_cons_of_mem _ e1, e2⟩
theorem pairwise_lset : ∀ {L : List Ch} {i : Nat} {c c' : Ch}, lget L i = some c → (L.Pairwise fun c d => ∀ b, c.foot b → ¬ d.foot b) →
    (∀ d ∈ L, (∀ b, d.foot b → ¬ c.foot b) → ∀ b, c'.foot b → ¬ d.foot b) → (lset L i c').Pairwise fun c d => ∀ b, c.foot b → ¬ d.foot b
  | [], _, _, _, h, _, _ => by simp [lget] at h
  | x :: r, 0, c, c', h, hp, hc => by
    simp [lget] at h; subst h
    simp only [lset]
    refine List.pairwise_cons.2 ⟨fun d hd => hc d (List.mem_cons_of_mem _ hd) (fun b h1 h2 => (List.pairwise_cons.1 hp).1 d hd b h2 h1), (List.pairwise_cons.1 hp).2⟩
  | x :: r, i + 1, c, c', h, hp, hc => by
    simp [lget] at h
    simp only [lset]
    refine List.pairwise_cons.2 ⟨fun d hd b h1 h2 => ?_, pairwise_lset h (List.pairwise_cons.1 hp).2 (fun d hd => hc d (List.mem_cons_of_mem _ hd))⟩
    rcases mem_lset h (List.pairwise_cons.1 hp).2 hd with e | ⟨e1, e2⟩
    · subst e
      exact hc x (List.mem_cons_self ..) (fun b h3 h4 => (List.pairwise_cons.1 hp).1 c (lget_mem h) b h3 h4) b h2 h1
    · exact (List.pairwise_cons.1 hp).1 d e1 b h1 h2

section
variable {G D : Nat → Prop} {w0 w : World} {L : List Ch}
theorem Mem.start (w0 : World) (G D : Nat → Prop) (L : List Ch) (hG : ∀ b, (w0.heap.size ≤ b ∨ D b) → G b) (hr : ∀ c ∈ L, ∀ b, c.foot b → b < w0.heap.size ∧ D b) (hd : L.Pairwise fun c d => ∀ b, c.foot b → ¬ d.foot b) (hh : ∀ c ∈ L, c.holds (fz G L w0) w0) : Mem G D w0 L w0 :=
  ⟨hG, rfl, rfl, rfl, Nat.le_refl _, fun _ _ _ => rfl, fun c hc b hb => ⟨(hr c hc b hb).1, .inr (hr c hc b hb).2⟩, hd, hh⟩
theorem Mem.base (m : Mem G D w0 L w) (hD : ∀ b, ¬ D b) : Below w0.heap.size w0 w := ⟨m.os, m.tape, m.output, m.size, fun b hb => m.old b hb (hD b)⟩
theorem Mem.sub {L' : List Ch} (m : Mem G D w0 L w) (hs : L'.Sublist L) : Mem G D w0 L' w :=
  ⟨m.fresh, m.os, m.tape, m.output, m.size, m.old, fun c hc => m.range c (hs.subset hc), m.disj.sublist hs,
   fun c hc => c.keep (fz G L w) _ w w (fun b hb => ⟨hb.1, hb.2.1, fun d hd => hb.2.2 d (hs.subset hd)⟩) (fun _ _ => rfl) (m.hold c (hs.subset hc))⟩
theorem Mem.drop (i : Nat) (m : Mem G D w0 L w) : Mem G D w0 (ldrop L i) w := m.sub (ldrop_sub L i)
/-- one chunk changes -/
theorem Mem.upd {i : Nat} {c c' : Ch} {w' : World} (m : Mem G D w0 L w) (hi : lget L i = some c) (ho : w'.os = w.os) (ht : w'.tape = w.tape) (hu : w'.output = w.output) (hz : w.heap.size ≤ w'.heap.size)
    (hb : ∀ b, b < w.heap.size → ¬ c.foot b → w'.heap[b]? = w.heap[b]?) (hf : ∀ b, c'.foot b → b < w'.heap.size ∧ (c.foot b ∨ w.heap.size ≤ b))
    (hh : c'.holds (fz G (lset L i c') w') w') : Mem G D w0 (lset L i c') w' := by
  have hmem := lget_mem hi
  have hfz : ∀ b, fz G L w b → fz G (lset L i c') w' b := fun b hb => ⟨by have := hb.1; omega, hb.2.1, fun d hd => by
    rcases mem_lset hi m.disj hd with e | ⟨e1, _⟩
    · subst e; exact fun h => by rcases (hf b h).2 with h' | h'; exact hb.2.2 c hmem h'; have := hb.1; omega
    · exact hb.2.2 d e1⟩
  refine ⟨m.fresh, ho.trans m.os, ht.trans m.tape, hu.trans m.output, Nat.le_trans m.size hz, fun b hb0 hD => ?_, fun d hd b hdb => ?_, pairwise_lset hi m.disj (fun d hd h b h1 h2 => ?_), fun d hd => ?_⟩
  · refine (hb b (by have := m.size; omega) (fun h => ?_)).trans (m.old b hb0 hD)
    rcases (m.range c hmem b h).2 with h' | h'
    · omega
    · exact hD h'
  · rcases mem_lset hi m.disj hd with e | ⟨e1, _⟩
    · subst e
      refine ⟨(hf b hdb).1, ?_⟩
      rcases (hf b hdb).2 with h | h
      · exact (m.range c hmem b h).2
      · exact .inl (by have := m.size; omega)
    · exact ⟨by have := (m.range d e1 b hdb).1; omega, (m.range d e1 b hdb).2⟩
  · rcases (hf b h1).2 with h' | h'
    · exact h b h2 h'
    · have := (m.range d hd b h2).1; omega
  · rcases mem_lset hi m.disj hd with e | ⟨e1, e2⟩
    · subst e; exact hh
    · refine d.keep (fz G L w) _ w w' hfz (fun b h => ?_) (m.hold d e1)
      rcases h with h | h
      · exact hb b h.1 (h.2.2 c hmem)
      · exact hb b (m.range d e1 b h).1 (e2 b h)
/-- the world grows: nothing that was there changes -/
theorem Mem.grow {w' : World} (m : Mem G D w0 L w) (hb : Below w.heap.size w w') : Mem G D w0 L w' :=
  ⟨m.fresh, hb.os.trans m.os, hb.tape.trans m.tape, hb.output.trans m.output, Nat.le_trans m.size hb.size, fun b h0 hD => (hb.block b (by have := m.size; omega)).trans (m.old b h0 hD),
   fun c hc b h => ⟨by have := (m.range c hc b h).1; have := hb.size; omega, (m.range c hc b h).2⟩, m.disj,
   fun c hc => c.keep (fz G L w) _ w w' (fun b h => ⟨by have := h.1; have := hb.size; omega, h.2.1, h.2.2⟩) (fun b h => hb.block b (by rcases h with h | h; exact h.1; exact (m.range c hc b h).1)) (m.hold c hc)⟩
/-- a new chunk in new memory -/
theorem Mem.add {w' : World} (c : Ch) (m : Mem G D w0 L w) (hb : Below w.heap.size w w') (hf : ∀ b, c.foot b → w.heap.size ≤ b ∧ b < w'.heap.size)
    (hh : c.holds (fz G (c :: L) w') w') : Mem G D w0 (c :: L) w' := by
  have g := m.grow hb
  refine ⟨g.fresh, g.os, g.tape, g.output, g.size, g.old, fun d hd b h => ?_, ?_, fun d hd => ?_⟩
  · rcases List.mem_cons.1 hd with e | e
    · subst e; exact ⟨(hf b h).2, .inl (by have := (hf b h).1; have := m.size; omega)⟩
    · exact g.range d e b h
  · exact List.pairwise_cons.2 ⟨fun d hd b h1 h2 => by have := (hf b h1).1; have := (m.range d hd b h2).1; omega, m.disj⟩
  · rcases List.mem_cons.1 hd with e | e
    · subst e; exact hh
    · refine d.keep (fz G L w) _ w w' (fun b h => ⟨by have := h.1; have := hb.size; omega, h.2.1, fun x hx => ?_⟩) (fun b h => hb.block b (by rcases h with h | h; exact h.1; exact (m.range d e b h).1)) (m.hold d e)
      rcases List.mem_cons.1 hx with e' | e'
      · subst e'; exact fun hk => by have := (hf b hk).1; have := h.1; omega
      · exact h.2.2 x e'
/-- a chunk without blocks of its own -/
theorem Mem.note {c : Ch} (m : Mem G D w0 L w) (hf : ∀ b, ¬ c.foot b) (hh : c.holds (fz G L w) w) : Mem G D w0 (c :: L) w :=
  m.add c (Below.refl _ _) (fun b h => absurd h (hf b)) (c.keep (fz G L w) _ w w (fun b h => ⟨h.1, h.2.1, fun x hx => by
    rcases List.mem_cons.1 hx with e | e
    · subst e; exact hf b
    · exact h.2.2 x e⟩) (fun _ _ => rfl) hh)
def feet (M : List Ch) (b : Nat) : Prop := ∃ c ∈ M, c.foot b
/-- blocks outside D are as they were -/
structure UpdD (D : Nat → Prop) (w w' : World) : Prop where
  os : w'.os = w.os
  tape : w'.tape = w.tape
  output : w'.output = w.output
  size : w.heap.size ≤ w'.heap.size
  block : ∀ b, b < w.heap.size → ¬ D b → w'.heap[b]? = w.heap[b]?
theorem UpdD.below {w w' : World} (h : UpdD (feet []) w w') : Below w.heap.size w w' := ⟨h.os, h.tape, h.output, h.size, fun b hb => h.block b hb (fun ⟨c, hc, _⟩ => by simp at hc)⟩
theorem Mem.updD (m : Mem G D w0 L w) : UpdD D w0 w := ⟨m.os, m.tape, m.output, m.size, m.old⟩
/-- the chunks that a call leaves: in new memory, or where the chunks M0 were that it was given to write -/
structure NewCh (M0 : List Ch) (F : Nat → Prop) (w w' : World) (N : List Ch) : Prop where
  foot : ∀ c ∈ N, ∀ b, c.foot b → (w.heap.size ≤ b ∨ feet M0 b) ∧ b < w'.heap.size
  disj : N.Pairwise fun c d => ∀ b, c.foot b → ¬ d.foot b
  hold : ∀ c ∈ N, c.holds (fz (fun b => F b ∨ w.heap.size ≤ b ∨ feet M0 b) N w') w'
theorem NewCh.nil (M0 : List Ch) (F : Nat → Prop) (w w' : World) : NewCh M0 F w w' [] := ⟨fun c h => by simp at h, List.Pairwise.nil, fun c h => by simp at h⟩
theorem Mem.call {w' : World} {M0 N : List Ch} (m : Mem G D w0 (M0 ++ L) w) (hb : UpdD (feet M0) w w') (hn : NewCh M0 (fz G (M0 ++ L) w) w w' N) : Mem G D w0 (N ++ L) w' := by
  have hz := m.size
  have hapart : ∀ c ∈ L, ∀ b, c.foot b → ¬ feet M0 b := fun c hc b h ⟨d, hd, hdb⟩ => (List.pairwise_append.1 m.disj).2.2 d hd c hc b hdb h
  have inL : ∀ c ∈ L, c ∈ M0 ++ L := fun c hc => List.mem_append.2 (.inr hc)
  have inM : ∀ c ∈ M0, c ∈ M0 ++ L := fun c hc => List.mem_append.2 (.inl hc)
  have footM : ∀ b, feet M0 b → b < w.heap.size ∧ (w0.heap.size ≤ b ∨ D b) := fun b ⟨c, hc, h⟩ => m.range c (inM c hc) b h
  have footN : ∀ c ∈ N, ∀ b, c.foot b → b < w'.heap.size ∧ (w0.heap.size ≤ b ∨ D b) := fun c hc b h => by
    obtain ⟨h1, h2⟩ := hn.foot c hc b h
    refine ⟨h2, ?_⟩
    rcases h1 with h1 | h1
    · exact .inl (by omega)
    · exact (footM b h1).2
  have apartN : ∀ c ∈ N, ∀ d ∈ L, ∀ b, c.foot b → ¬ d.foot b := fun c hc d hd b h1 h2 => by
    rcases (hn.foot c hc b h1).1 with h3 | h3
    · have := (m.range d (inL d hd) b h2).1; omega
    · exact hapart d hd b h2 h3
  refine ⟨m.fresh, hb.os.trans m.os, hb.tape.trans m.tape, hb.output.trans m.output, Nat.le_trans hz hb.size, fun b h0 hD => ?_, fun d hd b h => ?_, ?_, fun d hd => ?_⟩
  · refine (hb.block b (by omega) (fun hf => ?_)).trans (m.old b h0 hD)
    rcases (footM b hf).2 with h | h
    · omega
    · exact hD h
  · rcases List.mem_append.1 hd with e | e
    · exact footN d e b h
    · exact ⟨by have := (m.range d (inL d e) b h).1; have := hb.size; omega, (m.range d (inL d e) b h).2⟩
  · exact List.pairwise_append.2 ⟨hn.disj, (List.pairwise_append.1 m.disj).2.1, apartN⟩
  · rcases List.mem_append.1 hd with e | e
    · refine d.keep _ _ w' w' (fun b h => ?_) (fun _ _ => rfl) (hn.hold d e)
      obtain ⟨h1, h2, h3⟩ := h
      refine ⟨h1, ?_, fun x hx => ?_⟩
      · rcases h2 with h2 | h2 | h2
        · exact h2.2.1
        · exact m.fresh b (.inl (by omega))
        · exact m.fresh b (footM b h2).2
      · rcases List.mem_append.1 hx with e' | e'
        · exact h3 x e'
        · rcases h2 with h2 | h2 | h2
          · exact h2.2.2 x (inL x e')
          · exact fun hk => by have := (m.range x (inL x e') b hk).1; omega
          · exact fun hk => hapart x e' b hk h2
    · refine d.keep (fz G (M0 ++ L) w) _ w w' (fun b h => ⟨by have := h.1; have := hb.size; omega, h.2.1, fun x hx => ?_⟩) (fun b h => ?_) (m.hold d (inL d e))
      · rcases List.mem_append.1 hx with e' | e'
        · intro hk
          rcases (hn.foot x e' b hk).1 with h3 | ⟨c, hc, h3⟩
          · have := h.1; omega
          · exact h.2.2 c (inM c hc) h3
        · exact h.2.2 x (inL x e')
      · rcases h with h | h
        · exact hb.block b h.1 (fun ⟨c, hc, h3⟩ => h.2.2 c (inM c hc) h3)
        · exact hb.block b (m.range d (inL d e) b h).1 (hapart d e b h)
def lpick (L : List Ch) : List Nat → List Ch
  | [] => []
  | i :: r => match lget L i with
    | some c => c :: lpick L r
    | none => lpick L r
def nodupB : List Nat → Bool
  | [] => true
  | i :: r => r.all (fun j => !Nat.beq i j) && nodupB r
theorem lget_disj : ∀ {L : List Ch} {i j : Nat} {c d : Ch}, (L.Pairwise fun c d => ∀ b, c.foot b → ¬ d.foot b) → lget L i = some c → lget L j = some d → i ≠ j → ∀ b, c.foot b → ¬ d.foot b
  | [], _, _, _, _, _, h, _, _ => by simp [lget] at h
  | x :: r, 0, 0, _, _, _, _, _, h => absurd rfl h
  | x :: r, 0, j + 1, c, d, hp, h1, h2, _ => by
    simp [lget] at h1 h2; subst h1
    exact (List.pairwise_cons.1 hp).1 d (lget_mem h2)
  | x :: r, i + 1, 0, c, d, hp, h1, h2, _ => by
    simp [lget] at h1 h2; subst h2
    exact fun b k1 k2 => (List.pairwise_cons.1 hp).1 c (lget_mem h1) b k2 k1
  | x :: r, i + 1, j + 1, c, d, hp, h1, h2, hn => by
    simp [lget] at h1 h2
    exact lget_disj (List.pairwise_cons.1 hp).2 h1 h2 (by omega)
theorem lpick_mem {L : List Ch} : ∀ {l : List Nat} {c : Ch}, c ∈ lpick L l → ∃ i ∈ l, lget L i = some c
  | [], _, h => by simp [lpick] at h
  | i :: r, c, h => by
    simp only [lpick] at h
    split at h
    · rename_i d hd
      rcases List.mem_cons.1 h with e | e
      · exact ⟨i, List.mem_cons_self .., by rw [hd, e]⟩
      · obtain ⟨j, h1, h2⟩ := lpick_mem e; exact ⟨j, List.mem_cons_of_mem _ h1, h2⟩
    · obtain ⟨j, h1, h2⟩ := lpick_mem h; exact ⟨j, List.mem_cons_of_mem _ h1, h2⟩
theorem Mem.pick (l : List Nat) (m : Mem G D w0 L w) (hl : nodupB l = true) : Mem G D w0 (lpick L l) w := by
  have mem : ∀ c ∈ lpick L l, c ∈ L := fun c hc => by obtain ⟨i, _, h⟩ := lpick_mem hc; exact lget_mem h
  refine ⟨m.fresh, m.os, m.tape, m.output, m.size, m.old, fun c hc => m.range c (mem c hc), ?_, fun c hc => c.keep (fz G L w) _ w w (fun b hb => ⟨hb.1, hb.2.1, fun d hd => hb.2.2 d (mem d hd)⟩) (fun _ _ => rfl) (m.hold c (mem c hc))⟩
  clear mem
  induction l with
  | nil => exact List.Pairwise.nil
  | cons i r ih =>
    simp only [nodupB, Bool.and_eq_true, List.all_eq_true] at hl
    simp only [lpick]
    split
    · rename_i c hc
      refine List.pairwise_cons.2 ⟨fun d hd => ?_, ih hl.2⟩
      obtain ⟨j, hj, hd'⟩ := lpick_mem hd
      have hne := hl.1 j hj
      exact lget_disj m.disj hc hd' (fun e => by subst e; simp at hne)
    · exact ih hl.2
/-- nothing of the chunk hangs on what may be read -/
def Ch.free (c : Ch) : Prop := ∀ F F' w, c.holds F w → c.holds F' w
theorem NewCh.of {M0 : List Ch} {F : Nat → Prop} (m : Mem G (feet M0) w0 L w) (l : List Nat) (hl : nodupB l = true) (hf : ∀ c ∈ lpick L l, c.free) : NewCh M0 F w0 w (lpick L l) := by
  have ms := m.pick l hl
  exact ⟨fun c hc b hb => ⟨(ms.range c hc b hb).2, (ms.range c hc b hb).1⟩, ms.disj, fun c hc => hf c hc _ _ _ (ms.hold c hc)⟩
/-- the blocks that a callee may read: F, what is new, and what it may write -/
def gB (F : Nat → Prop) (M0 : List Ch) (w0 : World) (b : Nat) : Prop := F b ∨ w0.heap.size ≤ b ∨ feet M0 b
theorem NewCh.ofB {M0 : List Ch} {F : Nat → Prop} (m : Mem (gB F M0 w0) (feet M0) w0 L w) (l : List Nat) (hl : nodupB l = true) : NewCh M0 F w0 w (lpick L l) := by
  have ms := m.pick l hl
  exact ⟨fun c hc b hb => ⟨(ms.range c hc b hb).2, (ms.range c hc b hb).1⟩, ms.disj, fun c hc => ms.hold c hc⟩
/-- where nothing hangs on what may be read, F is of no weight -/
theorem NewCh.free {M0 N : List Ch} {F F' : Nat → Prop} {w w' : World} (h : NewCh M0 F w w' N) (hf : ∀ c ∈ N, c.free) : NewCh M0 F' w w' N := ⟨h.foot, h.disj, fun c hc => hf c hc _ _ _ (h.hold c hc)⟩
theorem fr_nil : ∀ c ∈ ([] : List Ch), c.free := fun c h => by simp at h
theorem fr_cons {c : Ch} {L : List Ch} (h : c.free) (hL : ∀ c ∈ L, c.free) : ∀ d ∈ c :: L, d.free := fun d hd => by
  rcases List.mem_cons.1 hd with e | e
  · subst e; exact h
  · exact hL d e
theorem Mem.get {i : Nat} {c : Ch} (m : Mem G D w0 L w) (hi : lget L i = some c) : c.holds (fz G L w) w := m.hold c (lget_mem hi)
end
end Go.Proofs.YtnogaeckmiekdaaDoor
