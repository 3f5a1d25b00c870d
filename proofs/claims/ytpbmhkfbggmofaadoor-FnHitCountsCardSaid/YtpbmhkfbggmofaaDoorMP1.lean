/- Texts of this seat, put together. -/
import Derived.Test.YtpbmhkfbggmofaaDoorMA1
import Derived.RangeFuncMany
import Derived.RangeFuncCalls
import Derived.RangeFuncLeaves
import Derived.TacticsIn
import Derived.Test.YtpbmhkfbggmofaaDoorEls
import Derived.Test.YtpbmhkfbggmofaaDoorMA0
import Derived.Laws.BitsLemmas
import Derived.Lib.AppendZeros
import Derived.ArgAppend
import Derived.Test.YtpbmhkfbggmofaaDoorRows
set_option linter.unusedSimpArgs false
set_option linter.unusedVariables false
set_option linter.unusedSectionVars false
namespace Go.Proofs.YtpbmhkfbggmofaaDoor
section
open Go.RowKit

/-- the first four of a list -/
def pre4 {α : Type} (xs : List α) (κ : α → α → α → α → Prop) : Prop := ∃ a b c d r, xs = a :: b :: c :: d :: r ∧ κ a b c d
theorem rangeAt_app {w : World} {b o : Nat} {cs ds : List Value} (h : w.rangeAt b o cs) (k : w.rangeAt b (o + cs.length) ds) : w.rangeAt b o (cs ++ ds) := fun j v hv => by
  rw [List.getElem?_append] at hv
  split at hv
  · exact h j v hv
  · have := k (j - cs.length) v hv
    rwa [show o + cs.length + (j - cs.length) = o + j by omega] at this
theorem sl_open4 {α : Type} {E' : El α} {F0 : Nat → Prop} {wr : World} {v : Value} {xs : List α} {a b c d : α} (S : Sl E' F0 wr v xs) (h : ∃ r, xs = a :: b :: c :: d :: r) :
    ∃ c0 c1 c2 c3, E'.cells F0 wr a c0 ∧ E'.cells F0 wr b c1 ∧ E'.cells F0 wr c c2 ∧ E'.cells F0 wr d c3 ∧ RowAt wr F0 v 0 E'.size (c0 ++ (c1 ++ (c2 ++ c3))) := by
  obtain ⟨r, rfl⟩ := h
  obtain ⟨p, cap, rfl, hc, hr⟩ := S
  obtain ⟨g, off, rfl, hfb, hx⟩ := hr (by simp)
  obtain ⟨c0, h0, k0⟩ := hx 0 a rfl
  obtain ⟨c1, h1, k1⟩ := hx 1 b rfl
  obtain ⟨c2, h2, k2⟩ := hx 2 c rfl
  obtain ⟨c3, h3, k3⟩ := hx 3 d rfl
  have l0 := E'.len _ _ _ _ h0
  have l1 := E'.len _ _ _ _ h1
  have l2 := E'.len _ _ _ _ h2
  refine ⟨c0, c1, c2, c3, h0, h1, h2, h3, g, off, _, cap, rfl, hfb, ?_⟩
  have e0 : off + (0 : Int).toNat * E'.size = off := by simp
  rw [e0]
  refine rangeAt_app (by simpa using k0) (rangeAt_app ?_ (rangeAt_app ?_ ?_))
  · rw [l0]; simpa using k1
  · rw [l0, l1, show off + E'.size + E'.size = off + 2 * E'.size by omega]; exact k2
  · rw [l0, l1, l2, show off + E'.size + E'.size + E'.size = off + 3 * E'.size by omega]; exact k3
section
variable {P : Program} {n : Nat} {G D : Nat → Prop} {w0 : World} {Q : Exit → Act → World → Prop} {R : Act → World → Prop} {E : Env} {L M : List Ch} {φ : Prop}
variable {d : Tmp} {ty : TypeId} {pos : String} {aft : Array Edge} {gd : Option (Nat × Bool)} {Tk : Act → World → Prop} {Lr : List Ch} {x y : Operand} {T T' S : TypeId} {e sz by' : Nat} {at' : Array TypeId}
/-- an array of four from a slice: a pointer to its beginning -/
theorem o_s2a {α : Type} {El' : El α} {v : Value} {xs : List α} {ch : Ch} {κ : α → α → α → α → Prop} {e' s : Nat} {r : Bool} (M : Mode P n G D w0 E ⟨some d, .sliceToArrayPointer T x, ty, pos, aft, gd⟩ Tk R Lr L) (i : Nat) (hi : lget Lr i = some ch) (hc : Reads ch El' v xs) (hx : oev E x = some v) (hd : Nat.blt d n = true)
    (hT : arrB P T = some (4, e', r, s)) (hes : El'.size = 1) (k : ∀ p q s t, (∃ r, xs = p :: q :: s :: t :: r) → Nx n G D w0 R ((d, pEl v 0 1 0) :: E) L (κ p q s t)) : Nx n G D w0 Tk E L (pre4 xs κ) := fun a w hE hm hφ => by
  obtain ⟨p, q, s, t, r, hxs, hκ⟩ := hφ
  refine M.val (v := pEl v 0 1 0) (φ := κ p q s t) (ψ := κ p q s t) hd rfl (fun ρ w hE hm _ => ?_) id (k p q s t ⟨r, hxs⟩) a w hE hm hκ
  obtain ⟨g, cap, rfl, hcap, hr⟩ := hc _ _ (hm.get hi)
  obtain ⟨b, off, rfl, _⟩ := hr (by rw [hxs]; simp)
  have hl : ¬ xs.length < 4 := by rw [hxs]; simp
  have hu := (arr_of hT).1
  simp [execOp, hE _ _ hx, Instr.arrayAt, run_underlying hu, hl, pEl_slice]
/-! ### objects, packages of chunks -/
def objCh (b : Nat) (o : Obj) : Ch where
  foot := fun x => x = b
  holds := fun _ w => w.heap[b]? = some o
  keep := fun _ _ _ _ _ h k => (h b (.inr rfl)).trans k
/-- a consumer's memory in a state, as one chunk: B are its blocks -/
def consCh {σ : Type} (C : σ → List Ch → Prop) (B : Nat → Prop) (s : σ) : Ch where
  foot := B
  holds := fun F w => ∃ L, C s L ∧ (∀ b, feet L b ↔ B b) ∧ (L.Pairwise fun (c d : Ch) => ∀ b, c.foot b → ¬ d.foot b) ∧ ∀ c ∈ L, c.holds F w
  keep := fun F F' w w' hF hb ⟨L, h1, h2, h3, h4⟩ => ⟨L, h1, h2, h3, fun c hc => c.keep F F' w w' hF (fun b h => hb b (h.imp id (fun k => (h2 b).1 ⟨c, hc, k⟩))) (h4 c hc)⟩
theorem fz_cons {σ : Type} {C : σ → List Ch → Prop} {B : Nat → Prop} {s : σ} {L R : List Ch} {w : World} (h : ∀ b, feet L b ↔ B b) (b : Nat) : fz G (consCh C B s :: R) w b ↔ fz G (L ++ R) w b := by
  constructor
  · rintro ⟨h1, h2, h3⟩
    refine ⟨h1, h2, fun c hc hk => ?_⟩
    rcases List.mem_append.1 hc with e | e
    · exact h3 _ (List.mem_cons_self ..) ((h b).1 ⟨c, e, hk⟩)
    · exact h3 c (List.mem_cons_of_mem _ e) hk
  · rintro ⟨h1, h2, h3⟩
    refine ⟨h1, h2, fun c hc hk => ?_⟩
    rcases List.mem_cons.1 hc with e | e
    · subst e
      obtain ⟨d, hd, hk'⟩ := (h b).2 hk
      exact h3 d (List.mem_append.2 (.inl hd)) hk'
    · exact h3 c (List.mem_append.2 (.inr e)) hk
theorem Mem.openC {σ : Type} {C : σ → List Ch → Prop} {B : Nat → Prop} {s : σ} {R : List Ch} {w : World} (m : Mem G D w0 (consCh C B s :: R) w) : ∃ L, C s L ∧ (∀ b, feet L b ↔ B b) ∧ Mem G D w0 (L ++ R) w := by
  obtain ⟨L, h1, h2, h3, h4⟩ := m.hold _ (List.mem_cons_self ..)
  have hr : ∀ c ∈ L, ∀ b, c.foot b → (consCh C B s).foot b := fun c hc b hb => (h2 b).1 ⟨c, hc, hb⟩
  refine ⟨L, h1, h2, m.fresh, m.os, m.tape, m.output, m.size, m.old, fun c hc b hb => ?_, List.pairwise_append.2 ⟨h3, (List.pairwise_cons.1 m.disj).2, fun c hc d hd b k1 k2 => (List.pairwise_cons.1 m.disj).1 d hd b (hr c hc b k1) k2⟩, fun c hc => ?_⟩
  · rcases List.mem_append.1 hc with e | e
    · exact m.range _ (List.mem_cons_self ..) b (hr c e b hb)
    · exact m.range c (List.mem_cons_of_mem _ e) b hb
  · rcases List.mem_append.1 hc with e | e
    · exact c.keep _ _ w w (fun b hb => (fz_cons h2 b).1 hb) (fun _ _ => rfl) (h4 c e)
    · exact c.keep _ _ w w (fun b hb => (fz_cons h2 b).1 hb) (fun _ _ => rfl) (m.hold c (List.mem_cons_of_mem _ e))
theorem Mem.closeC {σ : Type} {C : σ → List Ch → Prop} {s : σ} {L R : List Ch} {w : World} (m : Mem G D w0 (L ++ R) w) (h : C s L) : Mem G D w0 (consCh C (feet L) s :: R) w := by
  have inL : ∀ c ∈ L, c ∈ L ++ R := fun c hc => List.mem_append.2 (.inl hc)
  have inR : ∀ c ∈ R, c ∈ L ++ R := fun c hc => List.mem_append.2 (.inr hc)
  have hd := List.pairwise_append.1 m.disj
  refine ⟨m.fresh, m.os, m.tape, m.output, m.size, m.old, fun c hc b hb => ?_, List.pairwise_cons.2 ⟨fun d hd' b ⟨c, hc, k1⟩ k2 => hd.2.2 c hc d hd' b k1 k2, hd.2.1⟩, fun c hc => ?_⟩
  · rcases List.mem_cons.1 hc with e | e
    · subst e
      obtain ⟨c, hc, k⟩ := hb
      exact m.range c (inL c hc) b k
    · exact m.range c (inR c e) b hb
  · rcases List.mem_cons.1 hc with e | e
    · subst e
      exact ⟨L, h, fun _ => Iff.rfl, hd.1, fun c hc => c.keep _ _ w w (fun b hb => (fz_cons (fun _ => Iff.rfl) b).2 hb) (fun _ _ => rfl) (m.hold c (inL c hc))⟩
    · exact c.keep _ _ w w (fun b hb => (fz_cons (fun _ => Iff.rfl) b).2 hb) (fun _ _ => rfl) (m.hold c (inR c e))
/-! ### a consumer that keeps its word -/
/-- each call of yield, from memory in the state s, with an element x, leaves memory in a state under κ -/
def Yields {α σ : Type} (P : Program) (l : Nat) (El' : El α) (C : σ → List Ch → Prop) (Y : σ → α → Bool → (Bool × σ → Prop) → Prop) : Prop :=
  ∀ {G D : Nat → Prop} {w0 w : World} {R L : List Ch} {s : σ} {x : α} {ok : Bool} {cs : List Value} {κ : Bool × σ → Prop} (m : Nat), C s L → Mem G D w0 (L ++ R) w → El'.cells (fz G (L ++ R) w) w x cs → Y s x ok κ →
    YieldAt Fence.wide m P l #[.agg cs.toArray, .bool ok] w fun e w' => ∃ b s' L', e = .returned (.bool b) ∧ C s' L' ∧ Mem G D w0 (L' ++ R) w' ∧ κ (b, s')
/-! ### regions with a call of yield -/
theorem op_wide {o : Oper} {a : Act} {w : World} {next : Act → World → Prop} {m : Nat} (h : o.wp P a w next Q) : o.wpIn Fence.wide m P a w next Q := by
  refine ⟨fun f _ => trivial, ?_⟩
  have h' : o.upon P a next Q ((execOp a.eval o).run P w) := h
  show o.uponIn Fence.wide m P a next Q ((execOp a.eval o).run P w)
  revert h'
  generalize (execOp a.eval o).run P w = r
  intro h'
  cases r with
  | ok x w' =>
    cases x <;> first | exact h' | (refine ⟨fun e => by simp [Fence.wide] at e, ?_⟩; exact callsIn_wide.2 h') | (refine ⟨fun e => by simp [Fence.wide] at e, fun c cs _ => ?_⟩; obtain ⟨v, w'', k1, k2⟩ := h' c cs; exact ⟨v, w'', k1, stepsIn_wide.2 k2⟩) | exact False.elim h'
  | halt x w' => cases x <;> first | exact h' | exact False.elim h'
theorem c_regionY {id : Nat} {l : List Oper} (h : Nx n G D w0 (wpListIn Fence.wide 3 P l.toArray Q l) E L φ) : Nx n G D w0 ((Code.region id l.toArray false).wp P Q) E L φ := fun a w hE hm hφ => wpIn_wide.1 (wpIn_region_lit (h a w hE hm hφ))
theorem y_nil {ops : Array Oper} {m : Nat} {F : Fence} (h : Nx n G D w0 (Q .normal) E L φ) : Nx n G D w0 (wpListIn F m P ops Q []) E L φ := h
theorem stYw {m : Nat} {ops : Array Oper} {rest : List Oper} {dst : Option Tmp} {op : Op} (h : Nx n G D w0 (fun a w => Oper.wp P ⟨dst, op, ty, pos, aft, none⟩ a w (wpListIn Fence.wide m P ops Q rest) Q) E L φ) : Nx n G D w0 (wpListIn Fence.wide m P ops Q (⟨dst, op, ty, pos, aft, none⟩ :: rest)) E L φ :=
  fun a w hE hm hφ => wpListIn_plain rfl fun K hK => op_wide (by
    have := h a w hE hm hφ
    show Oper.upon _ _ _ _ _ _
    have h' : Oper.upon P ⟨dst, op, ty, pos, aft, none⟩ a (wpListIn Fence.wide m P ops Q rest) Q ((execOp a.eval ⟨dst, op, ty, pos, aft, none⟩).run P w) := this
    revert h'
    generalize (execOp a.eval ⟨dst, op, ty, pos, aft, none⟩).run P w = r
    intro h'
    cases r with
    | ok x w' =>
      cases x <;> first | exact hK _ _ h' | (refine Calls.mono h' ?_; intro e w'' hh; cases e <;> first | exact hK _ _ hh | exact hh) | (refine Rows.mono h' ?_; intro e w'' hh; exact hK _ _ hh) | exact False.elim h'
    | halt x w' => cases x <;> first | exact h' | exact False.elim h')
theorem stY {m : Nat} {ops : Array Oper} {rest : List Oper} {dst : Option Tmp} {op : Op} : Mode P n G D w0 E ⟨dst, op, ty, pos, aft, none⟩ (wpListIn Fence.wide m P ops Q (⟨dst, op, ty, pos, aft, none⟩ :: rest)) (wpListIn Fence.wide m P ops Q rest) L L :=
  ⟨fun hd ho hr hψ k => stYw (o_val hd ho hr hψ k)⟩
/-- a call of yield -/
theorem y_yield {α σ : Type} {l m : Nat} {El' : El α} {C : σ → List Ch → Prop} {Y : σ → α → Bool → (Bool × σ → Prop) → Prop} (hY : Yields P l El' C Y) {B : Nat → Prop} {s : σ} {z : α} {ok : Bool} {cs : List Value} {κ : Bool × σ → Prop} {f : Operand} {args : List Operand} {ops : Array Oper} {rest : List Oper}
    (hf : oev E f = some (.func (.yield l) #[] #[])) (ha : oevs E args = some [.agg cs.toArray, .bool ok]) (hd : Nat.blt d n = true) (hc : ∀ w, Mem G D w0 (consCh C B s :: L) w → El'.cells (fz G (consCh C B s :: L) w) w z cs)
    (k : ∀ b s' B', Nx n G D w0 (wpListIn Fence.wide m P ops Q rest) ((d, .bool b) :: E) (consCh C B' s' :: L) (κ (b, s'))) :
    Nx n G D w0 (wpListIn Fence.wide m P ops Q (⟨some d, .call { callee := .value f, args := args.toArray, argTypes := at' }, ty, pos, aft, none⟩ :: rest)) E (consCh C B s :: L) (Y s z ok κ) := fun a w hE hm hφ => by
  refine wpListIn_plain rfl fun K hK => ?_
  obtain ⟨Lc, h1, h2, hm'⟩ := hm.openC
  obtain ⟨fn, tmps, assign, body, hy, hR⟩ := hY (m - 1) h1 hm' (El'.keep _ _ w w _ _ (fun b hb => (fz_cons h2 b).1 hb) (fun _ _ => rfl) (hc w hm)) hφ
  have hx := hE.eval hf
  have hargs := oevs_map (fun x v h => hE.eval h) ha
  have hrun : (execOp a.eval ⟨some d, .call { callee := .value f, args := args.toArray, argTypes := at' }, ty, pos, aft, none⟩).run P w = .ok (.round l fn tmps assign body) w := by
    simp [execOp, resolve, Deferred.ofValue, hx, invoke, hargs, hy]
  refine ⟨fun f _ => trivial, ?_⟩
  change Oper.uponIn Fence.wide m P _ a K Q ((execOp a.eval ⟨some d, .call { callee := .value f, args := args.toArray, argTypes := at' }, ty, pos, aft, none⟩).run P w)
  rw [hrun, Oper.uponIn_round]
  refine ⟨fun e => by simp [Fence.wide] at e, hR.mono ?_⟩
  rintro e w' ⟨b, s', L', rfl, q1, q2, q3⟩
  exact hK _ _ (k b s' _ _ w' (hE.put hd _) (q2.closeC q1) q3)
/-! ### code in a round -/
theorem op_round {o : Oper} {a : Act} {w : World} {next : Act → World → Prop} {m l : Nat} (hnd : ∀ c, o.op ≠ .defer c) (h : o.wp P a w next Q) : o.wpIn (Fence.wide.inRound l) m P a w next Q := by
  refine ⟨fun f _ => trivial, ?_⟩
  have h' : o.upon P a next Q ((execOp a.eval o).run P w) := h
  show o.uponIn (Fence.wide.inRound l) m P a next Q ((Oper.semAt (some l) a.eval o).run P w)
  rw [Oper.semAt_some l a.eval o hnd]
  revert h'
  generalize (execOp a.eval o).run P w = r
  intro h'
  cases r with
  | ok x w' =>
    cases x <;> first | exact h' | (refine ⟨fun e => by simp [Fence.wide] at e, ?_⟩; exact CallsIn.inRound l (callsIn_wide.2 h')) | (refine ⟨fun e => by simp [Fence.wide] at e, fun c cs _ => ?_⟩; obtain ⟨v, w'', k1, k2⟩ := h' c cs; exact ⟨v, w'', k1, stepsIn_wide.2 k2⟩) | exact False.elim h'
  | halt x w' => cases x <;> first | exact h' | exact False.elim h'
section
variable {F : Fence} {m l : Nat}
theorem r_seq {x y : Code} (h : Nx n G D w0 (x.wpIn F m P (Exit.then (y.wpIn F m P Q) Q)) E L φ) : Nx n G D w0 ((Code.seq x y).wpIn F m P Q) E L φ := fun a w hE hm hφ => wpIn_seq (h a w hE hm hφ)
theorem r_block {id : Nat} {c : Code} (h : Nx n G D w0 (c.wpIn F m P (Exit.inBlock id Q)) E L φ) : Nx n G D w0 ((Code.block id c).wpIn F m P Q) E L φ := fun a w hE hm hφ => wpIn_block (h a w hE hm hφ)
theorem r_region {id : Nat} {l : List Oper} (h : Nx n G D w0 (wpListIn F m P l.toArray Q l) E L φ) : Nx n G D w0 ((Code.region id l.toArray false).wpIn F m P Q) E L φ := fun a w hE hm hφ => wpIn_region_lit (h a w hE hm hφ)
theorem r_skip (h : Nx n G D w0 (Q .normal) E L φ) : Nx n G D w0 (Code.skip.wpIn F m P Q) E L φ := fun a w hE hm hφ => wpIn_skip (h a w hE hm hφ)
theorem r_ret (h : Nx n G D w0 (Q .ret) E L φ) : Nx n G D w0 (Code.ret.wpIn F m P Q) E L φ := fun a w hE hm hφ => wpIn_ret (h a w hE hm hφ)
theorem r_cond {c : Operand} {x y : Code} {t : Bool} {A B : Prop} (hc : oev E c = some (.bool t)) (hx : Nx n G D w0 (x.wpIn F m P Q) E L A) (hy : Nx n G D w0 (y.wpIn F m P Q) E L B) : Nx n G D w0 ((Code.cond c x y).wpIn F m P Q) E L (ifW t A B) :=
  fun a w hE hm hφ => wpIn_cond_split (hE.eval hc) (fun h => hx a w hE hm (hφ.1 h)) (fun h => hy a w hE hm (hφ.2 h))
theorem stRw {ops : Array Oper} {rest : List Oper} {dst : Option Tmp} {op : Op} (hnd : ∀ c, op ≠ .defer c) (h : Nx n G D w0 (fun a w => Oper.wp P ⟨dst, op, ty, pos, aft, none⟩ a w (wpListIn (Fence.wide.inRound l) m P ops Q rest) Q) E L φ) : Nx n G D w0 (wpListIn (Fence.wide.inRound l) m P ops Q (⟨dst, op, ty, pos, aft, none⟩ :: rest)) E L φ :=
  fun a w hE hm hφ => by
    unfold wpListIn
    rw [if_pos (by simp [Region.wanted])]
    exact op_round hnd (h a w hE hm hφ)
theorem stR {ops : Array Oper} {rest : List Oper} {dst : Option Tmp} {op : Op} (hnd : ∀ c, op ≠ .defer c) : Mode P n G D w0 E ⟨dst, op, ty, pos, aft, none⟩ (wpListIn (Fence.wide.inRound l) m P ops Q (⟨dst, op, ty, pos, aft, none⟩ :: rest)) (wpListIn (Fence.wide.inRound l) m P ops Q rest) L L :=
  ⟨fun hd ho hr hψ k => stRw hnd (o_val hd ho hr hψ k)⟩
end
end

end
section
open Go.RowKit
@[ext] structure GSpan where
  xLo : Int
  xHi : Int
  deriving DecidableEq
def encGSpan (x : GSpan) : List Value := [(.int .i64 x.xLo), (.int .i64 x.xHi)]
def elGSpan : El GSpan := El.flat 2 encGSpan (by decide) (fun _ => rfl) (fun x u h => by simp only [encGSpan, List.mem_cons, List.not_mem_nil, or_false] at h; rcases h with rfl | rfl <;> rfl)
theorem flelGSpan : Flat elGSpan encGSpan := flat_flat
abbrev dGSpan : DEl GSpan := dflat elGSpan encGSpan flelGSpan
@[ext] structure GBox where
  xSides : (List (List GSpan))
  deriving DecidableEq
@[ext] structure GTest where
  xField : Int
  xLo : Int
  xHi : Int
  xNot : Bool
  deriving DecidableEq
def encGTest (x : GTest) : List Value := [(.int .i64 x.xField), (.int .i64 x.xLo), (.int .i64 x.xHi), (.bool x.xNot)]
def elGTest : El GTest := El.flat 4 encGTest (by decide) (fun _ => rfl) (fun x u h => by simp only [encGTest, List.mem_cons, List.not_mem_nil, or_false] at h; rcases h with rfl | rfl | rfl | rfl <;> rfl)
theorem flelGTest : Flat elGTest encGTest := flat_flat
@[ext] structure GFlat where
  xWhere : GBox
  xAccept : Bool
  deriving DecidableEq
def encGFlat (u : Value) (x : GFlat) : List Value := [u, (.bool x.xAccept)]
def elGFlat : El GFlat where
  size := 2
  cells := fun F w x cs => ∃ u : Value, cs = encGFlat u x ∧ Sl (elSl elGSpan) F w u x.xWhere.xSides
  pos := by decide
  len := fun F w x cs ⟨u, e, _⟩ => by rw [e]; rfl
  one := fun F w x cs ⟨u, e, h⟩ v hv => by
    subst e
    simp only [encGFlat, List.mem_cons, List.not_mem_nil, or_false] at hv
    rcases hv with e | e
    · subst e; exact h.one
    · subst e; exact rfl
  keep := fun F F' w w' x cs hF hb ⟨u, e, h⟩ => ⟨u, e, h.keep hF hb⟩
def dGFlat : DEl GFlat where
  el := elGFlat
  own := fun B w x cs => ∃ u : Value, cs = encGFlat u x ∧ Dp (dSl dGSpan 71) 72 B w u x.xWhere.xSides
  read := fun B w x cs ⟨u, e, h⟩ => ⟨u, e, h.sl⟩
  keep := fun B w w' x cs hk ⟨u, e, h⟩ => ⟨u, e, h.keep hk⟩
  lt := fun B w x cs ⟨u, e, h⟩ => h.lt
@[ext] structure GPacket where
  xFrom : Int
  xTo : Int
  xPort : Int
  xProto : Int
  deriving DecidableEq
def encGPacket (x : GPacket) : List Value := [(.int .i64 x.xFrom), (.int .i64 x.xTo), (.int .i64 x.xPort), (.int .i64 x.xProto)]
def elGPacket : El GPacket := El.flat 4 encGPacket (by decide) (fun _ => rfl) (fun x u h => by simp only [encGPacket, List.mem_cons, List.not_mem_nil, or_false] at h; rcases h with rfl | rfl | rfl | rfl <;> rfl)
theorem flelGPacket : Flat elGPacket encGPacket := flat_flat
@[ext] structure A4Int where
  x0 : Int
  x1 : Int
  x2 : Int
  x3 : Int
  deriving DecidableEq
@[ext] structure A4ListGSpan where
  x0 : (List GSpan)
  x1 : (List GSpan)
  x2 : (List GSpan)
  x3 : (List GSpan)
  deriving DecidableEq
def encA4ListGSpan (u : Value × Value × Value × Value) (x : A4ListGSpan) : List Value := [u.1, u.2.1, u.2.2.1, u.2.2.2]
def elA4ListGSpan : El A4ListGSpan where
  size := 4
  cells := fun F w x cs => ∃ u : Value × Value × Value × Value, cs = encA4ListGSpan u x ∧ Sl elGSpan F w u.1 x.x0 ∧ Sl elGSpan F w u.2.1 x.x1 ∧ Sl elGSpan F w u.2.2.1 x.x2 ∧ Sl elGSpan F w u.2.2.2 x.x3
  pos := by decide
  len := fun F w x cs ⟨u, e, _⟩ => by rw [e]; rfl
  one := fun F w x cs ⟨u, e, h⟩ v hv => by
    subst e
    simp only [encA4ListGSpan, List.mem_cons, List.not_mem_nil, or_false] at hv
    rcases hv with e | e | e | e
    · subst e; exact h.1.one
    · subst e; exact h.2.1.one
    · subst e; exact h.2.2.1.one
    · subst e; exact h.2.2.2.one
  keep := fun F F' w w' x cs hF hb ⟨u, e, h⟩ => ⟨u, e, h.1.keep hF hb, h.2.1.keep hF hb, h.2.2.1.keep hF hb, h.2.2.2.keep hF hb⟩
@[ext] structure GIflat where
  xWhere : A4ListGSpan
  xAccept : Bool
  deriving DecidableEq
def encGIflat (u : Value × Value × Value × Value) (x : GIflat) : List Value := [u.1, u.2.1, u.2.2.1, u.2.2.2, (.bool x.xAccept)]
def elGIflat : El GIflat where
  size := 5
  cells := fun F w x cs => ∃ u : Value × Value × Value × Value, cs = encGIflat u x ∧ Sl elGSpan F w u.1 x.xWhere.x0 ∧ Sl elGSpan F w u.2.1 x.xWhere.x1 ∧ Sl elGSpan F w u.2.2.1 x.xWhere.x2 ∧ Sl elGSpan F w u.2.2.2 x.xWhere.x3
  pos := by decide
  len := fun F w x cs ⟨u, e, _⟩ => by rw [e]; rfl
  one := fun F w x cs ⟨u, e, h⟩ v hv => by
    subst e
    simp only [encGIflat, List.mem_cons, List.not_mem_nil, or_false] at hv
    rcases hv with e | e | e | e | e
    · subst e; exact h.1.one
    · subst e; exact h.2.1.one
    · subst e; exact h.2.2.1.one
    · subst e; exact h.2.2.2.one
    · subst e; exact rfl
  keep := fun F F' w w' x cs hF hb ⟨u, e, h⟩ => ⟨u, e, h.1.keep hF hb, h.2.1.keep hF hb, h.2.2.1.keep hF hb, h.2.2.2.keep hF hb⟩
@[ext] structure GRule where
  xTests : (List GTest)
  xAction : Int
  xChain : Int
  deriving DecidableEq
@[ext] structure GRuleset where
  xChains : (List (List GRule))
  xAccept : Bool
  deriving DecidableEq
@[ext] structure GFieldShape where
  xName : ByteArray
  xTop : Int
  deriving DecidableEq
def encGFieldShape (x : GFieldShape) : List Value := [(.string x.xName), (.int .i64 x.xTop)]
def elGFieldShape : El GFieldShape := El.flat 2 encGFieldShape (by decide) (fun _ => rfl) (fun x u h => by simp only [encGFieldShape, List.mem_cons, List.not_mem_nil, or_false] at h; rcases h with rfl | rfl <;> rfl)
theorem flelGFieldShape : Flat elGFieldShape encGFieldShape := flat_flat
@[ext] structure GPlace where
  xChain : Int
  xNext : Int
  deriving DecidableEq
/-- what the package-level variable reads as -/
def gl_impl_fieldShapes : List GFieldShape := [⟨(ByteArray.mk #[102, 114, 111, 109]), 65535⟩, ⟨(ByteArray.mk #[116, 111]), 65535⟩, ⟨(ByteArray.mk #[112, 111, 114, 116]), 255⟩, ⟨(ByteArray.mk #[112, 114, 111, 116, 111]), 7⟩]

def L_spec_l20Open (code_0 : (List UInt8)) (κ : ((List UInt8) × Int) → Prop) : Prop :=
  jnW (fun (xs68 : (List UInt8)) => κ (xs68, 0)) (fun k71 => ifW (decide (2000 < (code_0.length : Int))) (sliceW code_0 0 2000 (fun xs4 => k71 xs4)) (k71 code_0))

def L_spec_l20Rd_pick (r_0_b : (List UInt8)) (r_0_p : Int) (n_1 : Int) (κ : (Int × Int) → Prop) : Prop :=
  addW r_0_p 1 (fun t5 => jnW (fun (t66 : Bool) => ifW t66 (κ (0, t5)) (subW t5 1 (fun t68 => ifW (decide (t68 < (r_0_b.length : Int))) (idxW r_0_b t68 (fun e69 => remW (e69.toNat : Int) n_1 (fun t71 => κ (t71, t5)))) (remW t68 (r_0_b.length : Int) (fun t72 => idxW r_0_b t72 (fun e73 => mulW (e73.toNat : Int) 131 (fun t75 => mulW t68 7 (fun t76 => addW t76 3 (fun t77 => remW t77 (r_0_b.length : Int) (fun t78 => idxW r_0_b t78 (fun e79 => mulW (e79.toNat : Int) 1117 (fun t81 => addW t75 t81 (fun t82 => mulW t68 29 (fun t83 => addW t82 t83 (fun t84 => quoW t68 (r_0_b.length : Int) (fun t85 => mulW t85 53 (fun t86 => addW t84 t86 (fun t87 => quoW t87 64 (fun t88 => xorW t87 t88 (fun t89 => remW t89 n_1 (fun t90 => κ (t90, t5)))))))))))))))))))))) (fun k67 => ifW (decide (n_1 < 1)) (k67 true) (k67 (decide ((r_0_b.length : Int) = 0)))))

def L_spec_l20Rd_odd (r_0_b : (List UInt8)) (r_0_p : Int) (n_1 : Int) (κ : (Bool × Int) → Prop) : Prop :=
  jnW (fun ((t68, t69) : (Int × Bool)) => κ (t69, t68)) (fun k70 => ifW (decide (0 < n_1)) (L_spec_l20Rd_pick r_0_b r_0_p n_1 (fun (r5, r6) => subW n_1 1 (fun t7 => k70 (r6, (decide (r5 = t7)))))) (k70 (r_0_p, false)))

def L_spec_l1In (n_0 : Int) (lo_1 : Int) (hi_2 : Int) (κ : Bool → Prop) : Prop :=
  jnW (fun (t61 : Bool) => κ t61) (fun k62 => ifW (decide (lo_1 ≤ n_0)) (k62 (decide (n_0 ≤ hi_2))) (k62 false))

def L_spec_l1Add (list_0 : (List GSpan)) (s_1 : GSpan) (κ : (List GSpan) → Prop) : Prop :=
  loopW (fun (nx16 : (Int × Int × (List GSpan) × Bool × Int) → Prop) ((t8, t9, xs11, t14, t15) : (Int × Int × (List GSpan) × Bool × Int)) => ifW (decide (t15 < (list_0.length : Int))) (jnW (fun ((xs160, t163, t164, t165) : ((List GSpan) × Int × Int × Bool)) => addW t15 1 (fun t167 => nx16 (t163, t164, xs160, t165, t167))) (fun k166 => idxW list_0 t15 (fun e17 => addW e17.xHi 1 (fun t21 => ifW (decide (t21 < t8)) (appW xs11 ([e17]) (fun _ => k166 ((xs11 ++ ([e17])), t8, t9, t14))) (addW t9 1 (fun t26 => ifW (decide (t26 < e17.xLo)) (jnW (fun ((xs91, t94) : ((List GSpan) × Bool)) => appW xs91 ([e17]) (fun _ => k166 ((xs91 ++ ([e17])), t8, t9, t94))) (fun k95 => ifW (!t14) (appW xs11 ([(GSpan.mk t8 t9)]) (fun _ => k95 ((xs11 ++ ([(GSpan.mk t8 t9)])), true))) (k95 (xs11, t14)))) (k166 (xs11, (min t8 e17.xLo), (max t9 e17.xHi), t14)))))))) (jnW (fun (xs232 : (List GSpan)) => κ xs232) (fun k235 => ifW (!t14) (appW xs11 ([(GSpan.mk t8 t9)]) (fun _ => k235 (xs11 ++ ([(GSpan.mk t8 t9)])))) (k235 xs11)))) (s_1.xLo, s_1.xHi, [], false, 0)

def L_spec_SpansOf (list_0 : (List GSpan)) (top_1 : Int) (κ : (List GSpan) → Prop) : Prop :=
  jnW (fun (t67 : Bool) => ifW t67 (κ ([])) (loopW (fun (nx74 : ((List GSpan) × Int) → Prop) ((xs70, t73) : ((List GSpan) × Int)) => ifW (decide (t73 < (list_0.length : Int))) (jnW (fun (t143 : Bool) => ifW t143 (κ ([])) (idxW list_0 t73 (fun e147 => L_spec_l1Add xs70 e147 (fun r149 => addW t73 1 (fun t152 => nx74 (r149, t152)))))) (fun k144 => idxW list_0 t73 (fun e75 => idxW list_0 t73 (fun e77 => L_spec_l1In e75.xLo 0 e77.xHi (fun r79 => ifW (!r79) (k144 true) (idxW list_0 t73 (fun e80 => L_spec_l1In e80.xHi 0 top_1 (fun r82 => k144 (!r82))))))))) (κ xs70)) ([], 0))) (fun k68 => L_spec_l1In top_1 0 65535 (fun r6 => ifW (!r6) (k68 true) (k68 (decide (40 < (list_0.length : Int))))))

def L_spec_l20Span (r_0_b : (List UInt8)) (r_0_p : Int) (top_1 : Int) (n_2 : Int) (κ : (GSpan × Int) → Prop) : Prop :=
  addW top_1 1 (fun t7 => L_spec_l20Rd_pick r_0_b r_0_p (min 256 t7) (fun (r8, r9) => jnW (fun ((t144, t145) : (Int × Int)) => jnW (fun ((t147, t148) : (Int × Int)) => L_spec_l20Rd_odd r_0_b t147 n_2 (fun (r174, r175) => ifW r174 (jnW (fun ((t176, t177, t178) : (Int × Int × Int)) => κ ((GSpan.mk t177 t178), t176)) (fun k179 => L_spec_l20Rd_pick r_0_b r175 3 (fun (r181, r182) => idxW ([(GSpan.mk (w64 (t148 + 1)) t148), (GSpan.mk (-1) t148), (GSpan.mk t145 (w64 (top_1 + 1)))]) r181 (fun e183 => k179 (r182, e183.xLo, e183.xHi))))) (κ ((GSpan.mk t145 t148), r175)))) (fun k149 => L_spec_l20Rd_pick r_0_b t144 4 (fun (r150, r151) => L_spec_l20Rd_pick r_0_b r151 256 (fun (r152, r153) => L_spec_l20Rd_pick r_0_b r153 4 (fun (r155, r156) => idxW ([0, r150, r152, 4096]) r155 (fun e157 => k149 (r156, (min top_1 (w64 (t145 + e157)))))))))) (fun k146 => jnW (fun ((t74, t75) : (Int × Bool)) => ifW t75 (jnW (fun ((t77, t78) : (Int × Int)) => k146 (t77, t78)) (fun k79 => L_spec_l20Rd_pick r_0_b t74 256 (fun (r80, r81) => k79 (r81, (min top_1 (w64 ((w64 (r8 * 256)) + r80))))))) (k146 (t74, r8))) (fun k76 => ifW (decide (255 < top_1)) (L_spec_l20Rd_pick r_0_b r9 2 (fun (r12, r13) => k76 (r13, (decide (r12 = 0))))) (k76 (r9, false))))))

def L_spec_l20Raw (r_0_b : (List UInt8)) (r_0_p : Int) (top_1 : Int) (n_2 : Int) (κ : ((List GSpan) × Int) → Prop) : Prop :=
  L_spec_l20Rd_pick r_0_b r_0_p 6 (fun (r8, r9) => loopW (fun (nx16 : (Int × (List GSpan) × Int) → Prop) ((t10, xs12, t15) : (Int × (List GSpan) × Int)) => ifW (decide (0 < t15)) (L_spec_l20Span r_0_b t10 top_1 n_2 (fun (r17, r18) => appW xs12 ([r17]) (fun _ => subW t15 1 (fun t23 => nx16 (r18, (xs12 ++ ([r17])), t23))))) (κ (xs12, t10))) (r9, [], r8))

def L_spec_l20Set (r_0_b : (List UInt8)) (r_0_p : Int) (top_1 : Int) (n_2 : Int) (κ : ((List GSpan) × Int) → Prop) : Prop :=
  L_spec_l20Raw r_0_b r_0_p top_1 0 (fun (r6, r9) => L_spec_SpansOf r6 top_1 (fun r10 => jnW (fun ((t90, xs92) : (Int × (List GSpan))) => κ (xs92, t90)) (fun k95 => L_spec_l20Rd_odd r_0_b r9 n_2 (fun (r13, r14) => ifW r13 (L_spec_l20Rd_pick r_0_b r14 3 (fun (r15, r16) => ifW (decide (r15 = 0)) (L_spec_l20Span r_0_b r16 top_1 1 (fun (r17, r18) => appW r10 ([r17]) (fun _ => k95 (r18, (r10 ++ ([r17])))))) (ifW (decide (r15 = 1)) (appW r10 ([(GSpan.mk 1 2), (GSpan.mk 3 3)]) (fun _ => k95 (r16, (r10 ++ ([(GSpan.mk 1 2), (GSpan.mk 3 3)]))))) (makeW ((GSpan.mk 0 0) : GSpan) 41 41 (fun xs28 => k95 (r16, xs28)))))) (k95 (r14, r10))))))

def L_spec_FieldTop (n_0 : Int) (κ : Int → Prop) : Prop :=
  jnW (fun (t61 : Bool) => ifW t61 (κ 65535) (ifW (decide (n_0 = 2)) (κ 255) (ifW (decide (n_0 = 3)) (κ 7) (κ (-1))))) (fun k62 => ifW (decide (n_0 = 0)) (k62 (decide (n_0 = 0))) (k62 (decide (n_0 = 1))))

def L_spec_BoxAll (κ : GBox → Prop) : Prop :=
  loopW (fun (nx11 : ((List (List GSpan)) × Int) → Prop) ((xs6, t10) : ((List (List GSpan)) × Int)) => ifW (decide (t10 < 4)) (jnW (fun (xs15 : (List (List GSpan))) => addW t10 1 (fun t41 => nx11 (xs15, t41))) (fun k19 => L_spec_FieldTop t10 (fun r20 => appW xs6 ([[(GSpan.mk 0 r20)]]) (fun _ => k19 (xs6 ++ ([[(GSpan.mk 0 r20)]])))))) (κ (GBox.mk xs6))) ([], 0)

def L_spec_TestValid (t_0 : GTest) (κ : Bool → Prop) : Prop :=
  jnW (fun (t66 : Bool) => κ t66) (fun k67 => L_spec_l1In t_0.xField 0 3 (fun r3 => ifW r3 (L_spec_l1In t_0.xLo 0 t_0.xHi (fun r4 => ifW r4 (L_spec_FieldTop t_0.xField (fun r5 => k67 (decide (t_0.xHi ≤ r5)))) (k67 false))) (k67 false)))

def L_spec_TestsValid (list_0 : (List GTest)) (κ : Bool → Prop) : Prop :=
  loopW (fun (nx4 : Int → Prop) (t3 : Int) => ifW (decide (t3 < (list_0.length : Int))) (idxW list_0 t3 (fun e5 => L_spec_TestValid e5 (fun r7 => ifW (!r7) (κ false) (addW t3 1 (fun t8 => nx4 t8))))) (κ (decide ((list_0.length : Int) ≤ 6)))) 0

def L_spec_l2Meet (a_0 : (List GSpan)) (b_1 : (List GSpan)) (κ : (List GSpan) → Prop) : Prop :=
  loopW (fun (nx13 : ((List GSpan) × Int) → Prop) ((xs9, t12) : ((List GSpan) × Int)) => ifW (decide (t12 < (a_0.length : Int))) (loopW (fun (nx19 : ((List GSpan) × Int) → Prop) ((xs15, t18) : ((List GSpan) × Int)) => ifW (decide (t18 < (b_1.length : Int))) (jnW (fun (xs92 : (List GSpan)) => addW t18 1 (fun t96 => nx19 (xs92, t96))) (fun k95 => idxW a_0 t12 (fun e20 => idxW b_1 t18 (fun e22 => idxW a_0 t12 (fun e24 => idxW b_1 t18 (fun e26 => ifW (decide ((max e20.xLo e22.xLo) ≤ (min e24.xHi e26.xHi))) (appW xs15 ([(GSpan.mk (max e20.xLo e22.xLo) (min e24.xHi e26.xHi))]) (fun _ => k95 (xs15 ++ ([(GSpan.mk (max e20.xLo e22.xLo) (min e24.xHi e26.xHi))])))) (k95 xs15))))))) (addW t12 1 (fun t97 => nx13 (xs15, t97)))) (xs9, 0)) (κ xs9)) ([], 0)

def L_spec_l2Other (a_0 : (List GSpan)) (top_1 : Int) (κ : (List GSpan) → Prop) : Prop :=
  loopW (fun (nx12 : ((List GSpan) × Int × Int) → Prop) ((xs7, t10, t11) : ((List GSpan) × Int × Int)) => ifW (decide (t11 < (a_0.length : Int))) (jnW (fun (xs82 : (List GSpan)) => idxW a_0 t11 (fun e86 => addW e86.xHi 1 (fun t88 => addW t11 1 (fun t89 => nx12 (xs82, t88, t89))))) (fun k85 => idxW a_0 t11 (fun e13 => ifW (decide (t10 < e13.xLo)) (idxW a_0 t11 (fun e15 => subW e15.xLo 1 (fun t17 => appW xs7 ([(GSpan.mk t10 t17)]) (fun _ => k85 (xs7 ++ ([(GSpan.mk t10 t17)])))))) (k85 xs7)))) (jnW (fun (xs154 : (List GSpan)) => κ xs154) (fun k157 => ifW (decide (t10 ≤ top_1)) (appW xs7 ([(GSpan.mk t10 top_1)]) (fun _ => k157 (xs7 ++ ([(GSpan.mk t10 top_1)])))) (k157 xs7)))) ([], 0, 0)

def L_spec_TestSpans (t_0 : GTest) (κ : (List GSpan) → Prop) : Prop :=
  L_spec_TestValid t_0 (fun r4 => ifW (!r4) (κ ([])) (ifW t_0.xNot (L_spec_FieldTop t_0.xField (fun r9 => L_spec_l2Other ([(GSpan.mk t_0.xLo t_0.xHi)]) r9 (fun r10 => κ r10))) (κ ([(GSpan.mk t_0.xLo t_0.xHi)]))))

def L_spec_TestsBox (list_0 : (List GTest)) (κ : GBox → Prop) : Prop :=
  L_spec_TestsValid list_0 (fun r5 => ifW (!r5) (κ (GBox.mk ([]))) (L_spec_BoxAll (fun r7 => loopW (fun (nx21 : ((List (List GSpan)) × Int) → Prop) ((xs17, t20) : ((List (List GSpan)) × Int)) => ifW (decide (t20 < (list_0.length : Int))) (idxW list_0 t20 (fun e22 => jnW (fun (xs27 : (List (List GSpan))) => addW t20 1 (fun t58 => nx21 (xs27, t58))) (fun k29 => idxW list_0 t20 (fun e30 => (idxW xs17 e22.xField (fun e32 => L_spec_TestSpans e30 (fun r38 => L_spec_l2Meet e32 r38 (fun r40 => idxW xs17 e22.xField (fun e42 => k29 (xs17.set (e22.xField).toNat r40)))))) ∧ (L_spec_TestSpans e30 (fun r54 => idxW xs17 e22.xField (fun e56 => L_spec_l2Meet e56 r54 (fun r40 => idxW xs17 e22.xField (fun e42 => k29 (xs17.set (e22.xField).toNat r40)))))))))) (κ (GBox.mk xs17))) (r7.xSides, 0))))

def L_spec_l20Test (r_0_b : (List UInt8)) (r_0_p : Int) (n_1 : Int) (κ : (GTest × Int) → Prop) : Prop :=
  L_spec_l20Rd_pick r_0_b r_0_p 4 (fun (r7, r8) => L_spec_l20Rd_pick r_0_b r8 4 (fun (r9, r10) => L_spec_FieldTop r7 (fun r13 => L_spec_l20Span r_0_b r10 r13 0 (fun (r14, r15) => jnW (fun ((t152, t153, t154) : (Int × Int × Int)) => jnW (fun ((t241, t242, t243) : (Int × Int × Int)) => jnW (fun ((t317, t318, t319, t320) : (Int × Int × Int × Int)) => κ ((GTest.mk t318 t319 t320 (decide (r9 = 0))), t317)) (fun k321 => L_spec_l20Rd_odd r_0_b t241 n_1 (fun (r245, r246) => ifW r245 (L_spec_l20Rd_pick r_0_b r246 3 (fun (r247, r248) => ifW (decide (r247 = 0)) (L_spec_l20Rd_pick r_0_b r248 2 (fun (r251, r252) => idxW ([(-1), 4]) r251 (fun e253 => k321 (r252, e253, t242, t243)))) (ifW (decide (r247 = 1)) (addW t243 1 (fun t255 => k321 (r248, r7, t255, t243))) (addW r13 1 (fun t256 => k321 (r248, r7, t242, t256)))))) (k321 (r246, r7, t242, t243))))) (fun k244 => L_spec_l20Rd_pick r_0_b t152 8 (fun (r156, r157) => ifW (decide (r156 = 0)) (jnW (fun ((t158, t159, t160) : (Int × Int × Int)) => k244 (t158, t159, t160)) (fun k161 => L_spec_l20Rd_pick r_0_b r157 3 (fun (r163, r164) => idxW ([(GSpan.mk 0 r13), (GSpan.mk 0 t154), (GSpan.mk t153 r13)]) r163 (fun e165 => k161 (r164, e165.xLo, e165.xHi))))) (k244 (r157, t153, t154))))) (fun k155 => jnW (fun ((t80, t81) : (Int × Bool)) => ifW t81 (L_spec_l20Rd_pick r_0_b t80 20 (fun (r83, r84) => jnW (fun ((t85, t86) : (Int × Int)) => k155 (t85, r83, t86)) (fun k87 => L_spec_l20Rd_pick r_0_b r84 8 (fun (r88, r89) => k87 (r89, (w64 (r83 + r88))))))) (k155 (t80, r14.xLo, r14.xHi))) (fun k82 => ifW (decide (r7 < 2)) (L_spec_l20Rd_pick r_0_b r15 2 (fun (r18, r19) => k82 (r19, (decide (r18 = 0))))) (k82 (r15, false))))))))

def L_spec_l20Tests (r_0_b : (List UInt8)) (r_0_p : Int) (n_1 : Int) (κ : ((List GTest) × Int) → Prop) : Prop :=
  L_spec_l20Rd_pick r_0_b r_0_p 4 (fun (r8, r9) => loopW (fun (nx16 : (Int × (List GTest) × Int) → Prop) ((t10, xs12, t15) : (Int × (List GTest) × Int)) => ifW (decide (0 < t15)) (L_spec_l20Test r_0_b t10 0 (fun (r17, r18) => appW xs12 ([r17]) (fun _ => subW t15 1 (fun t23 => nx16 (r18, (xs12 ++ ([r17])), t23))))) (jnW (fun ((t97, xs99) : (Int × (List GTest))) => κ (xs99, t97)) (fun k102 => L_spec_l20Rd_odd r_0_b t10 n_1 (fun (r24, r25) => ifW r24 (L_spec_l20Rd_pick r_0_b r25 2 (fun (r26, r27) => ifW (decide (r26 = 0)) (L_spec_l20Test r_0_b r27 1 (fun (r28, r29) => appW xs12 ([r28]) (fun _ => k102 (r29, (xs12 ++ ([r28])))))) (makeW ((GTest.mk 0 0 0 false) : GTest) 7 7 (fun xs35 => k102 (r27, xs35))))) (k102 (r25, xs12)))))) (r9, [], r8))

def L_spec_l20Box (r_0_b : (List UInt8)) (r_0_p : Int) (n_1 : Int) (κ : (GBox × Int) → Prop) : Prop :=
  L_spec_l20Tests r_0_b r_0_p 0 (fun (r7, r10) => L_spec_TestsBox r7 (fun r11 => jnW (fun ((xs94, t96) : ((List (List GSpan)) × Int)) => jnW (fun ((t189, xs191) : (Int × (List (List GSpan)))) => κ ((GBox.mk xs191), t189)) (fun k194 => L_spec_l20Rd_odd r_0_b t96 n_1 (fun (r98, r99) => ifW r98 (L_spec_l20Rd_pick r_0_b r99 3 (fun (r100, r101) => ifW (decide (r100 = 0)) (sliceW xs94 1 (xs94.length : Int) (fun xs103 => k194 (r101, xs103))) (ifW (decide (r100 = 1)) (idxW xs94 3 (fun e110 => k194 (r101, (xs94.set (3 : Int).toNat ([(GSpan.mk 0 8)]))))) (appW xs94 ([[]]) (fun _ => k194 (r101, (xs94 ++ ([[]])))))))) (k194 (r99, xs94))))) (fun k97 => L_spec_l20Rd_pick r_0_b r10 3 (fun (r19, r20) => ifW (decide (r19 = 0)) (L_spec_l20Rd_pick r_0_b r20 4 (fun (r21, r22) => L_spec_FieldTop r21 (fun r23 => L_spec_l20Set r_0_b r22 r23 0 (fun (r24, r27) => idxW r11.xSides r21 (fun e28 => k97 ((r11.xSides.set (r21).toNat r24), r27)))))) (k97 (r11.xSides, r20))))))

def L_spec_l20Flats (r_0_b : (List UInt8)) (r_0_p : Int) (n_1 : Int) (κ : ((List GFlat) × Int) → Prop) : Prop :=
  L_spec_l20Rd_pick r_0_b r_0_p 7 (fun (r9, r10) => loopW (fun (nx17 : (Int × (List GFlat) × Int) → Prop) ((t11, xs13, t16) : (Int × (List GFlat) × Int)) => ifW (decide (0 < t16)) (L_spec_l20Box r_0_b t11 0 (fun (r18, r21) => L_spec_l20Rd_pick r_0_b r21 2 (fun (r22, r23) => jnW (fun ((t187, xs189, t192) : (Int × (List (List GSpan)) × Bool)) => appW xs13 ([(GFlat.mk (GBox.mk xs189) t192)]) (fun _ => subW t16 1 (fun t201 => nx17 (t187, (xs13 ++ ([(GFlat.mk (GBox.mk xs189) t192)])), t201)))) (fun k193 => jnW (fun ((t91, t92) : (Int × Bool)) => ifW t92 (subW (xs13.length : Int) 1 (fun t97 => idxW xs13 t97 (fun e98 => appW ([]) e98.xWhere.xSides (fun _ => L_spec_l20Rd_pick r_0_b t91 4 (fun (r111, r112) => L_spec_FieldTop r111 (fun r113 => L_spec_l20Set r_0_b r112 r113 0 (fun (r114, r117) => idxW (([]) ++ e98.xWhere.xSides) r111 (fun e118 => subW (xs13.length : Int) 1 (fun t124 => idxW xs13 t124 (fun e125 => k193 (r117, (List.set (([]) ++ e98.xWhere.xSides) (r111).toNat r114), e125.xAccept))))))))))) (k193 (t91, r18.xSides, (decide (r22 = 0))))) (fun k93 => ifW (decide (0 < (xs13.length : Int))) (L_spec_l20Rd_pick r_0_b r23 3 (fun (r29, r30) => k93 (r30, (decide (r29 = 0))))) (k93 (r23, false))))))) (jnW (fun ((t288, xs290) : (Int × (List GFlat))) => κ (xs290, t288)) (fun k293 => L_spec_l20Rd_odd r_0_b t11 n_1 (fun (r202, r203) => ifW r202 (L_spec_l20Rd_pick r_0_b r203 2 (fun (r204, r205) => ifW (decide (r204 = 0)) (appW xs13 ([(GFlat.mk (GBox.mk ([])) false)]) (fun _ => k293 (r205, (xs13 ++ ([(GFlat.mk (GBox.mk ([])) false)]))))) (loopW (fun (nx215 : (List GFlat) → Prop) (xs212 : (List GFlat)) => ifW (decide ((xs212.length : Int) ≤ 60)) (L_spec_BoxAll (fun r216 => appW xs212 ([(GFlat.mk r216 false)]) (fun _ => nx215 (xs212 ++ ([(GFlat.mk r216 false)]))))) (k293 (r205, xs212))) xs13))) (k293 (r203, xs13)))))) (r10, [], r9))

def L_spec_l20Packet (r_0_b : (List UInt8)) (r_0_p : Int) (n_1 : Int) (κ : (GPacket × Int) → Prop) : Prop :=
  L_spec_l20Rd_pick r_0_b r_0_p 20 (fun (r7, r8) => L_spec_l20Rd_pick r_0_b r8 20 (fun (r9, r10) => L_spec_l20Rd_pick r_0_b r10 256 (fun (r11, r12) => L_spec_l20Rd_pick r_0_b r12 8 (fun (r13, r14) => jnW (fun ((t93, t94, t95, t96) : (Int × Int × Int × Int)) => jnW (fun ((t186, t187, t188, t189, t190) : (Int × Int × Int × Int × Int)) => κ ((GPacket.mk t187 t188 t189 t190), t186)) (fun k191 => L_spec_l20Rd_odd r_0_b t93 n_1 (fun (r98, r99) => ifW r98 (L_spec_l20Rd_pick r_0_b r99 4 (fun (r100, r101) => ifW (decide (r100 = 0)) (L_spec_l20Rd_pick r_0_b r101 2 (fun (r104, r105) => idxW ([(-1), 65536]) r104 (fun e106 => k191 (r105, e106, t95, t96, r13)))) (ifW (decide (r100 = 1)) (L_spec_l20Rd_pick r_0_b r101 2 (fun (r110, r111) => idxW ([(-1), 65536]) r110 (fun e112 => k191 (r111, t94, e112, t96, r13)))) (ifW (decide (r100 = 2)) (L_spec_l20Rd_pick r_0_b r101 2 (fun (r116, r117) => idxW ([(-1), 256]) r116 (fun e118 => k191 (r117, t94, t95, e118, r13)))) (L_spec_l20Rd_pick r_0_b r101 2 (fun (r122, r123) => idxW ([(-1), 8]) r122 (fun e124 => k191 (r123, t94, t95, t96, e124)))))))) (k191 (r99, t94, t95, t96, r13))))) (fun k97 => L_spec_l20Rd_pick r_0_b r14 2 (fun (r17, r18) => ifW (decide (r17 = 0)) (L_spec_l20Rd_pick r_0_b r18 256 (fun (r19, r20) => mulW r19 256 (fun t21 => L_spec_l20Rd_pick r_0_b r20 256 (fun (r22, r23) => addW t21 r22 (fun t24 => L_spec_l20Rd_pick r_0_b r23 4 (fun (r25, r26) => mulW r25 16384 (fun t27 => L_spec_l20Rd_pick r_0_b r26 256 (fun (r28, r29) => addW t27 r28 (fun t30 => L_spec_l20Rd_pick r_0_b r29 12 (fun (r31, r32) => k97 (r32, t24, t30, r31))))))))))) (k97 (r18, r7, r9, r11))))))))

def L_spec_PacketValid (p_0 : GPacket) (κ : Bool → Prop) : Prop :=
  jnW (fun (t67 : Bool) => κ t67) (fun k68 => L_spec_l1In p_0.xFrom 0 65535 (fun r3 => ifW r3 (L_spec_l1In p_0.xTo 0 65535 (fun r4 => ifW r4 (L_spec_l1In p_0.xPort 0 255 (fun r5 => ifW r5 (L_spec_l1In p_0.xProto 0 7 (fun r6 => k68 r6)) (k68 false))) (k68 false))) (k68 false)))

def L_spec_ReversePacket (p_0 : GPacket) (κ : GPacket → Prop) : Prop :=
  L_spec_PacketValid p_0 (fun r5 => ifW (!r5) (κ (GPacket.mk 0 0 0 0)) (κ (GPacket.mk p_0.xTo p_0.xFrom p_0.xPort p_0.xProto)))

def L_spec_l20Packets (r_0_b : (List UInt8)) (r_0_p : Int) (n_1 : Int) (κ : ((List GPacket) × Int) → Prop) : Prop :=
  L_spec_l20Rd_pick r_0_b r_0_p 7 (fun (r8, r9) => loopW (fun (nx16 : (Int × (List GPacket) × Int) → Prop) ((t10, xs12, t15) : (Int × (List GPacket) × Int)) => ifW (decide (0 < t15)) (jnW (fun ((xs157, t160) : ((List GPacket) × Int)) => subW t15 1 (fun t162 => nx16 (t160, xs157, t162))) (fun k161 => L_spec_l20Packet r_0_b t10 0 (fun (r17, r18) => appW xs12 ([r17]) (fun _ => jnW (fun ((t85, t86) : (Int × Bool)) => ifW t86 (L_spec_l20Rd_pick r_0_b t85 ((xs12 ++ ([r17])).length : Int) (fun (r88, r89) => idxW (xs12 ++ ([r17])) r88 (fun e90 => L_spec_ReversePacket e90 (fun r92 => appW (xs12 ++ ([r17])) ([r92]) (fun _ => k161 (((xs12 ++ ([r17])) ++ ([r92])), r89)))))) (k161 ((xs12 ++ ([r17])), t85))) (fun k87 => ifW (decide (1 < ((xs12 ++ ([r17])).length : Int))) (L_spec_l20Rd_pick r_0_b r18 3 (fun (r23, r24) => k87 (r24, (decide (r23 = 0))))) (k87 (r18, false))))))) (jnW (fun ((t236, xs238) : (Int × (List GPacket))) => κ (xs238, t236)) (fun k241 => L_spec_l20Rd_odd r_0_b t10 n_1 (fun (r163, r164) => ifW r163 (L_spec_l20Rd_pick r_0_b r164 2 (fun (r165, r166) => ifW (decide (r165 = 0)) (L_spec_l20Packet r_0_b r166 1 (fun (r167, r168) => appW xs12 ([r167]) (fun _ => k241 (r168, (xs12 ++ ([r167])))))) (makeW ((GPacket.mk 0 0 0 0) : GPacket) 51 51 (fun xs174 => k241 (r166, xs174))))) (k241 (r164, xs12)))))) (r9, [], r8))

def L_spec_DrawHitCounts (code_0 : (List UInt8)) (κ : ((List GFlat) × (List GPacket)) → Prop) : Prop :=
  L_spec_l20Open code_0 (fun (r7, r10) => L_spec_l20Flats r7 r10 14 (fun (r11, r14) => L_spec_l20Packets r7 r14 12 (fun (r15, r18) => κ (r11, r15))))

def L_impl_FieldTop (n_0 : Int) (κ : Int → Prop) : Prop :=
  jnW (fun (t61 : Bool) => ifW t61 (κ (-1)) (idxW gl_impl_fieldShapes n_0 (fun e63 => κ e63.xTop))) (fun k62 => ifW (decide (n_0 < 0)) (k62 true) (k62 (decide (4 ≤ n_0))))

def L_impl_topValid (top_0 : Int) (κ : Bool → Prop) : Prop :=
  jnW (fun (t61 : Bool) => κ t61) (fun k62 => ifW (decide (0 ≤ top_0)) (k62 (decide (top_0 ≤ 65535))) (k62 false))

def L_impl_SpansValid (list_0 : (List GSpan)) (top_1 : Int) (κ : Bool → Prop) : Prop :=
  jnW (fun (t64 : Bool) => ifW t64 (κ false) (loopW (fun (nx68 : (Int × Int) → Prop) ((t66, t67) : (Int × Int)) => ifW (decide (t67 < (list_0.length : Int))) (idxW list_0 t67 (fun e69 => jnW (fun (t134 : Bool) => ifW t134 (κ false) (addW t67 1 (fun t136 => nx68 (e69.xHi, t136)))) (fun k135 => addW t66 1 (fun t73 => ifW (decide (e69.xLo ≤ t73)) (k135 true) (ifW (decide (e69.xHi < e69.xLo)) (k135 true) (k135 (decide (top_1 < e69.xHi)))))))) (κ true)) ((-2), 0))) (fun k65 => L_impl_topValid top_1 (fun r3 => ifW (!r3) (k65 true) (k65 (decide (40 < (list_0.length : Int))))))

def L_impl_BoxValid (b_0 : GBox) (κ : Bool → Prop) : Prop :=
  ifW (!(decide ((b_0.xSides.length : Int) = 4))) (κ false) (loopW (fun (nx9 : Int → Prop) (t8 : Int) => ifW (decide (t8 < (b_0.xSides.length : Int))) (idxW b_0.xSides t8 (fun e10 => L_impl_FieldTop t8 (fun r16 => L_impl_SpansValid e10 r16 (fun r17 => ifW (!r17) (κ false) (addW t8 1 (fun t18 => nx9 t18)))))) (κ true)) 0)

def L_impl_FlatsValid (list_0 : (List GFlat)) (κ : Bool → Prop) : Prop :=
  ifW (decide (60 < (list_0.length : Int))) (κ false) (loopW (fun (nx4 : Int → Prop) (t3 : Int) => ifW (decide (t3 < (list_0.length : Int))) (idxW list_0 t3 (fun e5 => L_impl_BoxValid e5.xWhere (fun r16 => ifW (!r16) (κ false) (addW t3 1 (fun t17 => nx4 t17))))) (κ true)) 0)

def L_impl_Packet_fields (p_0 : GPacket) (κ : A4Int → Prop) : Prop :=
  κ (A4Int.mk p_0.xFrom p_0.xTo p_0.xPort p_0.xProto)

def L_impl_PacketValid (p_0 : GPacket) (κ : Bool → Prop) : Prop :=
  L_impl_Packet_fields p_0 (fun r3 => loopW (fun (nx5 : Int → Prop) (t4 : Int) => ifW (decide (t4 < 4)) (idxW ([r3.x0, r3.x1, r3.x2, r3.x3]) t4 (fun e6 => jnW (fun (t68 : Bool) => ifW t68 (κ false) (addW t4 1 (fun t70 => nx5 t70))) (fun k69 => ifW (decide (e6 < 0)) (k69 true) (L_impl_FieldTop t4 (fun r7 => k69 (decide (r7 < e6))))))) (κ true)) 0)

def L_impl_packetsValid (list_0 : (List GPacket)) (κ : Bool → Prop) : Prop :=
  ifW (decide (50 < (list_0.length : Int))) (κ false) (loopW (fun (nx4 : Int → Prop) (t3 : Int) => ifW (decide (t3 < (list_0.length : Int))) (idxW list_0 t3 (fun e5 => L_impl_PacketValid e5 (fun r9 => ifW (!r9) (κ false) (addW t3 1 (fun t10 => nx4 t10))))) (κ true)) 0)

def L_impl_sidesOf (b_0 : GBox) (κ : A4ListGSpan → Prop) : Prop :=
  pre4 b_0.xSides (fun e10 e11 e12 e13 => κ (A4ListGSpan.mk e10 e11 e12 e13))

def L_impl_flatsOf (list_0 : (List GFlat)) (κ : (List GIflat) → Prop) : Prop :=
  makeW ((GIflat.mk (A4ListGSpan.mk ([]) ([]) ([]) ([])) false) : GIflat) 0 (list_0.length : Int) (fun xs5 => loopW (fun (nx12 : ((List GIflat) × Int) → Prop) ((xs8, t11) : ((List GIflat) × Int)) => ifW (decide (t11 < (list_0.length : Int))) (idxW list_0 t11 (fun e13 => L_impl_sidesOf e13.xWhere (fun r24 => appW xs8 ([(GIflat.mk r24 e13.xAccept)]) (fun _ => addW t11 1 (fun t49 => nx12 ((xs8 ++ ([(GIflat.mk r24 e13.xAccept)])), t49)))))) (κ xs8)) (xs5, 0))

def L_impl_SpansHave (list_0 : (List GSpan)) (n_1 : Int) (κ : Bool → Prop) : Prop :=
  loopW (fun (nx4 : Int → Prop) (t3 : Int) => ifW (decide (t3 < (list_0.length : Int))) (idxW list_0 t3 (fun e5 => jnW (fun (t69 : Bool) => ifW t69 (κ true) (addW t3 1 (fun t71 => nx4 t71))) (fun k70 => ifW (decide (e5.xLo ≤ n_1)) (k70 (decide (n_1 ≤ e5.xHi))) (k70 false)))) (κ false)) 0

def L_impl_sides_has (s_0 : A4ListGSpan) (p_1 : GPacket) (κ : Bool → Prop) : Prop :=
  L_impl_Packet_fields p_1 (fun r25 => loopW (fun (nx27 : Int → Prop) (t26 : Int) => ifW (decide (t26 < 4)) (idxW ([r25.x0, r25.x1, r25.x2, r25.x3]) t26 (fun e28 => idxW ([s_0.x0, s_0.x1, s_0.x2, s_0.x3]) t26 (fun e29 => L_impl_SpansHave e29 e28 (fun r37 => ifW (!r37) (κ false) (addW t26 1 (fun t38 => nx27 t38)))))) (κ true)) 0)

def L_impl_firstWith_1 (f_0 : GIflat) (a_1_From : Int) (a_1_To : Int) (a_1_Port : Int) (a_1_Proto : Int) (κ : Bool → Prop) : Prop :=
  L_impl_sides_has f_0.xWhere (GPacket.mk a_1_From a_1_To a_1_Port a_1_Proto) (fun r25 => κ r25)

def L_slices_IndexFunc_impl_flat_impl_flat__impl_firstWith_1 (s_0 : (List GIflat)) (c0_1_From : Int) (c0_1_To : Int) (c0_1_Port : Int) (c0_1_Proto : Int) (κ : Int → Prop) : Prop :=
  loopW (fun (nx6 : Int → Prop) (t5 : Int) => ifW (decide (t5 < (s_0.length : Int))) (idxW s_0 t5 (fun e7 => L_impl_firstWith_1 e7 c0_1_From c0_1_To c0_1_Port c0_1_Proto (fun r22 => ifW r22 (κ t5) (addW t5 1 (fun t23 => nx6 t23))))) (κ (-1))) 0

def L_impl_firstWith (list_0 : (List GIflat)) (p_1 : GPacket) (κ : Int → Prop) : Prop :=
  L_slices_IndexFunc_impl_flat_impl_flat__impl_firstWith_1 list_0 p_1.xFrom p_1.xTo p_1.xPort p_1.xProto (fun r5 => κ r5)

def L_impl_HitCounts (list_0 : (List GFlat)) (packets_1 : (List GPacket)) (κ : (List Int) → Prop) : Prop :=
  jnW (fun (t68 : Bool) => ifW t68 (κ ([])) (L_impl_flatsOf list_0 (fun r71 => addW (r71.length : Int) 1 (fun t74 => makeW (0 : Int) t74 t74 (fun xs76 => loopW (fun (nx81 : ((List Int) × Int) → Prop) ((xs78, t80) : ((List Int) × Int)) => ifW (decide (t80 < (packets_1.length : Int))) (idxW packets_1 t80 (fun e82 => L_impl_firstWith r71 e82 (fun r86 => jnW (fun (t147 : Int) => idxW xs78 t147 (fun e149 => addW e149 1 (fun t151 => idxW xs78 t147 (fun e152 => addW t80 1 (fun t155 => nx81 ((xs78.set (t147).toNat t151), t155)))))) (fun k148 => ifW (decide (r86 < 0)) (k148 (r71.length : Int)) (k148 r86))))) (κ xs78)) (xs76, 0)))))) (fun k69 => L_impl_FlatsValid list_0 (fun r6 => ifW (!r6) (k69 true) (L_impl_packetsValid packets_1 (fun r7 => k69 (!r7)))))

def L_laws_sameInts (a_0 : (List Int)) (b_1 : (List Int)) (κ : Bool → Prop) : Prop :=
  ifW (!(decide ((a_0.length : Int) = (b_1.length : Int)))) (κ false) (loopW (fun (nx6 : Int → Prop) (t5 : Int) => ifW (decide (t5 < (a_0.length : Int))) (idxW a_0 t5 (fun e7 => idxW b_1 t5 (fun e9 => ifW (!(decide (e7 = e9))) (κ false) (addW t5 1 (fun t11 => nx6 t11))))) (κ true)) 0)

def L_spec_SpansValid (list_0 : (List GSpan)) (top_1 : Int) (κ : Bool → Prop) : Prop :=
  loopW (fun (nx4 : Int → Prop) (t3 : Int) => ifW (decide (t3 < (list_0.length : Int))) (jnW (fun (t79 : Bool) => ifW t79 (κ false) (addW t3 1 (fun t81 => nx4 t81))) (fun k80 => idxW list_0 t3 (fun e5 => idxW list_0 t3 (fun e7 => L_spec_l1In e5.xLo 0 e7.xHi (fun r9 => ifW (!r9) (k80 true) (idxW list_0 t3 (fun e10 => L_spec_l1In e10.xHi 0 top_1 (fun r12 => ifW (!r12) (k80 true) (ifW (decide (0 < t3)) (idxW list_0 t3 (fun e13 => subW t3 1 (fun t15 => idxW list_0 t15 (fun e16 => addW e16.xHi 2 (fun t18 => k80 (decide (e13.xLo < t18))))))) (k80 false)))))))))) (jnW (fun (t143 : Bool) => κ t143) (fun k144 => L_spec_l1In top_1 0 65535 (fun r82 => ifW r82 (k144 (decide ((list_0.length : Int) ≤ 40))) (k144 false))))) 0

def L_spec_BoxValid (b_0 : GBox) (κ : Bool → Prop) : Prop :=
  loopW (fun (nx9 : Int → Prop) (t8 : Int) => ifW (decide (t8 < (b_0.xSides.length : Int))) (jnW (fun (t78 : Bool) => ifW t78 (κ false) (addW t8 1 (fun t80 => nx9 t80))) (fun k79 => ifW (decide (4 ≤ t8)) (k79 true) (idxW b_0.xSides t8 (fun e10 => L_spec_FieldTop t8 (fun r16 => L_spec_SpansValid e10 r16 (fun r17 => k79 (!r17))))))) (κ (decide ((b_0.xSides.length : Int) = 4)))) 0

def L_spec_FlatsValid (list_0 : (List GFlat)) (κ : Bool → Prop) : Prop :=
  loopW (fun (nx4 : Int → Prop) (t3 : Int) => ifW (decide (t3 < (list_0.length : Int))) (idxW list_0 t3 (fun e5 => L_spec_BoxValid e5.xWhere (fun r11 => ifW (!r11) (κ false) (addW t3 1 (fun t12 => nx4 t12))))) (κ (decide ((list_0.length : Int) ≤ 60)))) 0

def L_spec_SpansHave (list_0 : (List GSpan)) (n_1 : Int) (κ : Bool → Prop) : Prop :=
  loopW (fun (nx4 : Int → Prop) (t3 : Int) => ifW (decide (t3 < (list_0.length : Int))) (idxW list_0 t3 (fun e5 => idxW list_0 t3 (fun e7 => L_spec_l1In n_1 e5.xLo e7.xHi (fun r9 => ifW r9 (κ true) (addW t3 1 (fun t10 => nx4 t10)))))) (κ false)) 0

def L_spec_PacketField (p_0 : GPacket) (n_1 : Int) (κ : Int → Prop) : Prop :=
  jnW (fun (t65 : Bool) => ifW t65 (κ (-1)) (idxW ([p_0.xFrom, p_0.xTo, p_0.xPort, p_0.xProto]) n_1 (fun e69 => κ e69))) (fun k66 => L_spec_PacketValid p_0 (fun r3 => ifW (!r3) (k66 true) (L_spec_l1In n_1 0 3 (fun r4 => k66 (!r4)))))

def L_spec_BoxHas (b_0 : GBox) (p_1 : GPacket) (κ : Bool → Prop) : Prop :=
  jnW (fun (t72 : Bool) => ifW t72 (κ false) (loopW (fun (nx75 : Int → Prop) (t74 : Int) => ifW (decide (t74 < 4)) (idxW b_0.xSides t74 (fun e76 => L_spec_PacketField p_1 t74 (fun r82 => L_spec_SpansHave e76 r82 (fun r83 => ifW (!r83) (κ false) (addW t74 1 (fun t84 => nx75 t84)))))) (κ true)) 0)) (fun k73 => L_spec_BoxValid b_0 (fun r10 => ifW (!r10) (k73 true) (L_spec_PacketValid p_1 (fun r11 => k73 (!r11)))))

def L_spec_DecidedBy (list_0 : (List GFlat)) (p_1 : GPacket) (κ : Int → Prop) : Prop :=
  loopW (fun (nx6 : Int → Prop) (t5 : Int) => jnW (fun (t68 : Bool) => ifW t68 (idxW list_0 t5 (fun e70 => L_spec_BoxHas e70.xWhere p_1 (fun r76 => ifW r76 (κ t5) (addW t5 1 (fun t77 => nx6 t77))))) (κ (-1))) (fun k69 => ifW (decide (t5 < (list_0.length : Int))) (L_spec_FlatsValid list_0 (fun r7 => k69 r7)) (k69 false))) 0

def L_spec_HitCounts (list_0 : (List GFlat)) (packets_1 : (List GPacket)) (κ : (List Int) → Prop) : Prop :=
  jnW (fun (t67 : Bool) => ifW t67 (κ ([])) (addW (list_0.length : Int) 1 (fun t71 => makeW (0 : Int) t71 t71 (fun xs73 => loopW (fun (nx78 : ((List Int) × Int) → Prop) ((xs75, t77) : ((List Int) × Int)) => ifW (decide (t77 < (packets_1.length : Int))) (idxW packets_1 t77 (fun e79 => L_spec_PacketValid e79 (fun r81 => ifW (!r81) (κ ([])) (idxW packets_1 t77 (fun e84 => L_spec_DecidedBy list_0 e84 (fun r86 => jnW (fun (t147 : Int) => idxW xs75 t147 (fun e149 => addW e149 1 (fun t151 => idxW xs75 t147 (fun e152 => addW t77 1 (fun t155 => nx78 ((xs75.set (t147).toNat t151), t155)))))) (fun k148 => ifW (decide (r86 < 0)) (k148 (list_0.length : Int)) (k148 r86)))))))) (κ xs75)) (xs73, 0))))) (fun k68 => L_spec_FlatsValid list_0 (fun r6 => ifW (!r6) (k68 true) (k68 (decide (50 < (packets_1.length : Int))))))

def L_laws_alive (κ : Bool → Prop) : Prop :=
  L_impl_SpansHave ([(GSpan.mk 2 4)]) 3 (fun r3 => κ r3)

def L_impl_sides_empty (s_0 : A4ListGSpan) (κ : Bool → Prop) : Prop :=
  loopW (fun (nx39 : Int → Prop) (t38 : Int) => ifW (decide (t38 < 4)) (idxW ([s_0.x0, s_0.x1, s_0.x2, s_0.x3]) t38 (fun e41 => ifW (decide ((e41.length : Int) = 0)) (κ true) (addW t38 1 (fun t44 => nx39 t44)))) (κ false)) 0

def L_impl_wheres (list_0 : (List GIflat)) (κ : (List A4ListGSpan) → Prop) : Prop :=
  makeW ((A4ListGSpan.mk ([]) ([]) ([]) ([])) : A4ListGSpan) 0 (list_0.length : Int) (fun xs5 => loopW (fun (nx12 : ((List A4ListGSpan) × Int) → Prop) ((xs8, t11) : ((List A4ListGSpan) × Int)) => ifW (decide (t11 < (list_0.length : Int))) (idxW list_0 t11 (fun e13 => appW xs8 ([e13.xWhere]) (fun _ => addW t11 1 (fun t46 => nx12 ((xs8 ++ ([e13.xWhere])), t46))))) (κ xs8)) (xs5, 0))

def L_impl_firstCommon (a_0 : (List GSpan)) (b_1 : (List GSpan)) (κ : (Int × Bool) → Prop) : Prop :=
  loopW (fun (nx7 : (Int × Int) → Prop) ((t5, t6) : (Int × Int)) => jnW (fun (t68 : Bool) => ifW t68 (idxW a_0 t5 (fun e70 => idxW b_1 t6 (fun e72 => idxW a_0 t5 (fun e74 => idxW b_1 t6 (fun e76 => ifW (decide ((max e70.xLo e72.xLo) ≤ (min e74.xHi e76.xHi))) (κ ((max e70.xLo e72.xLo), true)) (idxW a_0 t5 (fun e78 => idxW b_1 t6 (fun e80 => ifW (decide (e78.xHi < e80.xHi)) (addW t5 1 (fun t82 => nx7 (t82, t6))) (addW t6 1 (fun t83 => nx7 (t5, t83))))))))))) (κ (0, false))) (fun k69 => ifW (decide (t5 < (a_0.length : Int))) (k69 (decide (t6 < (b_1.length : Int)))) (k69 false))) (0, 0)

def L_impl_packetOf (fields_0 : A4Int) (κ : GPacket → Prop) : Prop :=
  idxW ([fields_0.x0, fields_0.x1, fields_0.x2, fields_0.x3]) 0 (fun e5 => idxW ([fields_0.x0, fields_0.x1, fields_0.x2, fields_0.x3]) 1 (fun e7 => idxW ([fields_0.x0, fields_0.x1, fields_0.x2, fields_0.x3]) 2 (fun e9 => idxW ([fields_0.x0, fields_0.x1, fields_0.x2, fields_0.x3]) 3 (fun e11 => κ (GPacket.mk e5 e7 e9 e11)))))

def L_impl_sides_firstCommon (s_0 : A4ListGSpan) (other_1 : A4ListGSpan) (κ : (GPacket × Bool) → Prop) : Prop :=
  loopW (fun (nx52 : ((List Int) × Int) → Prop) ((xs49, t51) : ((List Int) × Int)) => ifW (decide (t51 < 4)) (jnW (fun ((t53, t54) : (Int × Bool)) => ifW (!t54) (κ ((GPacket.mk 0 0 0 0), false)) (idxW xs49 t51 (fun e78 => addW t51 1 (fun t81 => nx52 ((xs49.set (t51).toNat t53), t81))))) (fun k55 => idxW ([s_0.x0, s_0.x1, s_0.x2, s_0.x3]) t51 (fun e56 => idxW ([other_1.x0, other_1.x1, other_1.x2, other_1.x3]) t51 (fun e58 => L_impl_firstCommon e56 e58 (fun (r68, r69) => k55 (r68, r69)))))) (unl4 xs49 (fun e82 e83 e84 e85 => L_impl_packetOf (A4Int.mk e82 e83 e84 e85) (fun r87 => κ (r87, true))))) ([0, 0, 0, 0], 0)

def L_impl_sides_touches (s_0 : A4ListGSpan) (other_1 : A4ListGSpan) (κ : Bool → Prop) : Prop :=
  L_impl_sides_firstCommon s_0 other_1 (fun (r75, r76) => κ r76)

def L_impl_limitSpans (list_0 : (List GSpan)) (κ : ((List GSpan) × Bool) → Prop) : Prop :=
  ifW (decide (40 < (list_0.length : Int))) (κ ([], false)) (κ (list_0, true))

def L_impl_stretch (rest_0 : (List GSpan)) (at_1 : Int) (top_2 : Int) (κ : (Bool × Int) → Prop) : Prop :=
  ifW (decide ((rest_0.length : Int) = 0)) (κ (false, top_2)) (idxW rest_0 0 (fun e3 => ifW (decide (at_1 < e3.xLo)) (idxW rest_0 0 (fun e5 => subW e5.xLo 1 (fun t7 => κ (false, t7)))) (idxW rest_0 0 (fun e8 => κ (true, e8.xHi)))))

def L_impl_inFirstOnly (inA_0 : Bool) (inB_1 : Bool) (κ : Bool → Prop) : Prop :=
  jnW (fun (t61 : Bool) => κ t61) (fun k62 => ifW inA_0 (k62 (!inB_1)) (k62 false))

def L_impl_sweepSpans__impl_inFirstOnly (a_0 : (List GSpan)) (b_1 : (List GSpan)) (top_2 : Int) (κ : (List GSpan) → Prop) : Prop :=
  loopW (fun (nx14 : ((List GSpan) × Int × Int × Int) → Prop) ((xs8, t11, t12, t13) : ((List GSpan) × Int × Int × Int)) => ifW (decide (t13 ≤ top_2)) (loopW (fun (nx16 : Int → Prop) (t15 : Int) => jnW (fun (t79 : Bool) => ifW t79 (addW t15 1 (fun t81 => nx16 t81)) (loopW (fun (nx83 : Int → Prop) (t82 : Int) => jnW (fun (t146 : Bool) => ifW t146 (addW t82 1 (fun t148 => nx83 t148)) (sliceW a_0 t15 (a_0.length : Int) (fun xs150 => L_impl_stretch xs150 t13 top_2 (fun (r153, r154) => sliceW b_1 t82 (b_1.length : Int) (fun xs156 => L_impl_stretch xs156 t13 top_2 (fun (r159, r160) => jnW (fun (xs296 : (List GSpan)) => addW (min r154 r160) 1 (fun t300 => nx14 (xs296, t15, t82, t300))) (fun k299 => L_impl_inFirstOnly r153 r159 (fun r161 => ifW r161 (jnW (fun (t226 : Bool) => ifW t226 (subW (xs8.length : Int) 1 (fun t228 => idxW xs8 t228 (fun e229 => k299 (xs8.set (t228).toNat (GSpan.mk e229.xLo (min r154 r160)))))) (appW xs8 ([(GSpan.mk t13 (min r154 r160))]) (fun _ => k299 (xs8 ++ ([(GSpan.mk t13 (min r154 r160))]))))) (fun k227 => ifW (decide (0 < (xs8.length : Int))) (subW (xs8.length : Int) 1 (fun t162 => idxW xs8 t162 (fun e163 => addW e163.xHi 1 (fun t165 => k227 (decide (t165 = t13)))))) (k227 false))) (k299 xs8))))))))) (fun k147 => ifW (decide (t82 < (b_1.length : Int))) (idxW b_1 t82 (fun e84 => k147 (decide (e84.xHi < t13)))) (k147 false))) t12)) (fun k80 => ifW (decide (t15 < (a_0.length : Int))) (idxW a_0 t15 (fun e17 => k80 (decide (e17.xHi < t13)))) (k80 false))) t11) (κ xs8)) ([], 0, 0, 0)

def L_impl_lessSpans (a_0 : (List GSpan)) (b_1 : (List GSpan)) (top_2 : Int) (κ : ((List GSpan) × Bool) → Prop) : Prop :=
  L_impl_sweepSpans__impl_inFirstOnly a_0 b_1 top_2 (fun r6 => L_impl_limitSpans r6 (fun (r9, r12) => κ (r9, r12)))

def L_impl_inBoth (inA_0 : Bool) (inB_1 : Bool) (κ : Bool → Prop) : Prop :=
  jnW (fun (t61 : Bool) => κ t61) (fun k62 => ifW inA_0 (k62 inB_1) (k62 false))

def L_impl_sweepSpans__impl_inBoth (a_0 : (List GSpan)) (b_1 : (List GSpan)) (top_2 : Int) (κ : (List GSpan) → Prop) : Prop :=
  loopW (fun (nx14 : ((List GSpan) × Int × Int × Int) → Prop) ((xs8, t11, t12, t13) : ((List GSpan) × Int × Int × Int)) => ifW (decide (t13 ≤ top_2)) (loopW (fun (nx16 : Int → Prop) (t15 : Int) => jnW (fun (t79 : Bool) => ifW t79 (addW t15 1 (fun t81 => nx16 t81)) (loopW (fun (nx83 : Int → Prop) (t82 : Int) => jnW (fun (t146 : Bool) => ifW t146 (addW t82 1 (fun t148 => nx83 t148)) (sliceW a_0 t15 (a_0.length : Int) (fun xs150 => L_impl_stretch xs150 t13 top_2 (fun (r153, r154) => sliceW b_1 t82 (b_1.length : Int) (fun xs156 => L_impl_stretch xs156 t13 top_2 (fun (r159, r160) => jnW (fun (xs296 : (List GSpan)) => addW (min r154 r160) 1 (fun t300 => nx14 (xs296, t15, t82, t300))) (fun k299 => L_impl_inBoth r153 r159 (fun r161 => ifW r161 (jnW (fun (t226 : Bool) => ifW t226 (subW (xs8.length : Int) 1 (fun t228 => idxW xs8 t228 (fun e229 => k299 (xs8.set (t228).toNat (GSpan.mk e229.xLo (min r154 r160)))))) (appW xs8 ([(GSpan.mk t13 (min r154 r160))]) (fun _ => k299 (xs8 ++ ([(GSpan.mk t13 (min r154 r160))]))))) (fun k227 => ifW (decide (0 < (xs8.length : Int))) (subW (xs8.length : Int) 1 (fun t162 => idxW xs8 t162 (fun e163 => addW e163.xHi 1 (fun t165 => k227 (decide (t165 = t13)))))) (k227 false))) (k299 xs8))))))))) (fun k147 => ifW (decide (t82 < (b_1.length : Int))) (idxW b_1 t82 (fun e84 => k147 (decide (e84.xHi < t13)))) (k147 false))) t12)) (fun k80 => ifW (decide (t15 < (a_0.length : Int))) (idxW a_0 t15 (fun e17 => k80 (decide (e17.xHi < t13)))) (k80 false))) t11) (κ xs8)) ([], 0, 0, 0)

def L_impl_meetSpans (a_0 : (List GSpan)) (b_1 : (List GSpan)) (top_2 : Int) (κ : ((List GSpan) × Bool) → Prop) : Prop :=
  L_impl_sweepSpans__impl_inBoth a_0 b_1 top_2 (fun r6 => L_impl_limitSpans r6 (fun (r9, r12) => κ (r9, r12)))

def L_impl_sides_pieces_1 {σ_ : Type} (Y_ : σ_ → A4ListGSpan → Bool → (Bool × σ_ → Prop) → Prop) (z_ : σ_) (a_1 : A4ListGSpan) (b_2 : A4ListGSpan) (κ : σ_ → Prop) : Prop :=
  L_impl_sides_empty a_1 (fun r20 => ifW r20 (κ z_) (L_impl_sides_touches a_1 b_2 (fun r51 => ifW (!r51) (Y_ z_ a_1 true (fun (t67, z68) => κ z68)) (loopW (fun (nx108 : ((List (List GSpan)) × σ_ × Bool × Int) → Prop) ((xs101, z103, t106, t107) : ((List (List GSpan)) × σ_ × Bool × Int)) => ifW (decide (t107 < 4)) (jnW (fun ((z498, xs501, t503) : (σ_ × (List (List GSpan)) × Bool)) => addW t107 1 (fun t505 => nx108 (xs501, z498, t503, t505))) (fun k504 => jnW (fun ((xs109, t112) : ((List GSpan) × Bool)) => jnW (fun (t232 : Bool) => ifW t232 (Y_ z103 (A4ListGSpan.mk ([]) ([]) ([]) ([])) false (fun (t234, z235) => κ z235)) (jnW (fun ((z363, xs366) : (σ_ × (List (List GSpan)))) => jnW (fun ((xs369, t372) : ((List GSpan) × Bool)) => idxW xs366 t107 (fun e432 => ifW t106 (k504 (z363, (xs366.set (t107).toNat xs369), t372)) (k504 (z363, (xs366.set (t107).toNat xs369), false)))) (fun k373 => (idxW ([a_1.x0, a_1.x1, a_1.x2, a_1.x3]) t107 (fun e374 => (idxW ([b_2.x0, b_2.x1, b_2.x2, b_2.x3]) t107 (fun e379 => L_impl_FieldTop t107 (fun r384 => L_impl_meetSpans e374 e379 r384 (fun (r385, r387) => k373 (r385, r387))))) ∧ (L_impl_FieldTop t107 (fun r388 => idxW ([b_2.x0, b_2.x1, b_2.x2, b_2.x3]) t107 (fun e389 => L_impl_meetSpans e374 e389 r388 (fun (r394, r396) => k373 (r394, r396))))))) ∧ (idxW ([b_2.x0, b_2.x1, b_2.x2, b_2.x3]) t107 (fun e397 => (idxW ([a_1.x0, a_1.x1, a_1.x2, a_1.x3]) t107 (fun e402 => L_impl_FieldTop t107 (fun r407 => L_impl_meetSpans e402 e397 r407 (fun (r385, r387) => k373 (r385, r387))))) ∧ (L_impl_FieldTop t107 (fun r408 => idxW ([a_1.x0, a_1.x1, a_1.x2, a_1.x3]) t107 (fun e409 => L_impl_meetSpans e409 e397 r408 (fun (r414, r416) => k373 (r414, r416))))))) ∧ (L_impl_FieldTop t107 (fun r417 => (idxW ([a_1.x0, a_1.x1, a_1.x2, a_1.x3]) t107 (fun e418 => idxW ([b_2.x0, b_2.x1, b_2.x2, b_2.x3]) t107 (fun e423 => L_impl_meetSpans e418 e423 r417 (fun (r394, r396) => k373 (r394, r396))))) ∧ (idxW ([b_2.x0, b_2.x1, b_2.x2, b_2.x3]) t107 (fun e425 => idxW ([a_1.x0, a_1.x1, a_1.x2, a_1.x3]) t107 (fun e430 => L_impl_meetSpans e430 e425 r417 (fun (r414, r416) => k373 (r414, r416))))))))) (fun k368 => ifW (decide (0 < (xs109.length : Int))) (unl4 xs101 (fun e238 e239 e240 e241 => idxW ([e238, e239, e240, e241]) t107 (fun e273 => unl4 (([e238, e239, e240, e241]).set (t107).toNat xs109) (fun e279 e280 e281 e282 => Y_ z103 (A4ListGSpan.mk e279 e280 e281 e282) true (fun (t299, z300) => ifW (!t299) (κ z300) (k368 (z300, [e238, e239, e240, e241]))))))) (k368 (z103, xs101))))) (fun k233 => ifW (!t112) (k233 true) (ifW (decide (0 < (xs109.length : Int))) (k233 (!t106)) (k233 false)))) (fun k113 => (idxW ([a_1.x0, a_1.x1, a_1.x2, a_1.x3]) t107 (fun e114 => (idxW ([b_2.x0, b_2.x1, b_2.x2, b_2.x3]) t107 (fun e119 => L_impl_FieldTop t107 (fun r124 => L_impl_lessSpans e114 e119 r124 (fun (r125, r127) => k113 (r125, r127))))) ∧ (L_impl_FieldTop t107 (fun r128 => idxW ([b_2.x0, b_2.x1, b_2.x2, b_2.x3]) t107 (fun e129 => L_impl_lessSpans e114 e129 r128 (fun (r134, r136) => k113 (r134, r136))))))) ∧ (idxW ([b_2.x0, b_2.x1, b_2.x2, b_2.x3]) t107 (fun e137 => (idxW ([a_1.x0, a_1.x1, a_1.x2, a_1.x3]) t107 (fun e142 => L_impl_FieldTop t107 (fun r147 => L_impl_lessSpans e142 e137 r147 (fun (r125, r127) => k113 (r125, r127))))) ∧ (L_impl_FieldTop t107 (fun r148 => idxW ([a_1.x0, a_1.x1, a_1.x2, a_1.x3]) t107 (fun e149 => L_impl_lessSpans e149 e137 r148 (fun (r154, r156) => k113 (r154, r156))))))) ∧ (L_impl_FieldTop t107 (fun r157 => (idxW ([a_1.x0, a_1.x1, a_1.x2, a_1.x3]) t107 (fun e158 => idxW ([b_2.x0, b_2.x1, b_2.x2, b_2.x3]) t107 (fun e163 => L_impl_lessSpans e158 e163 r157 (fun (r134, r136) => k113 (r134, r136))))) ∧ (idxW ([b_2.x0, b_2.x1, b_2.x2, b_2.x3]) t107 (fun e165 => idxW ([a_1.x0, a_1.x1, a_1.x2, a_1.x3]) t107 (fun e170 => L_impl_lessSpans e170 e165 r157 (fun (r154, r156) => k113 (r154, r156)))))))))) (κ z103)) ([a_1.x0, a_1.x1, a_1.x2, a_1.x3], z_, true, 0)))))

/-- what the body of the loop does with a piece; none: it has left -/
def Y_impl_sides_cut (z : Option (List A4ListGSpan)) (x : A4ListGSpan) (ok : Bool) (κ : Bool × Option (List A4ListGSpan) → Prop) : Prop :=
  match z with
  | none => False
  | some xs => ifW ok (appW xs [x] (fun ys => κ (true, some ys))) (κ (false, none))
def cutR : Option (List A4ListGSpan) → List A4ListGSpan × Bool
  | some xs => (xs, true)
  | none => ([], false)
def L_impl_sides_cut (s_0 : A4ListGSpan) (other_1 : A4ListGSpan) (κ : ((List A4ListGSpan) × Bool) → Prop) : Prop :=
  L_impl_sides_pieces_1 Y_impl_sides_cut (some []) s_0 other_1 (fun r => κ (cutR r))

def L_impl_sides_lessRegion (s_0 : A4ListGSpan) (region_1 : (List A4ListGSpan)) (κ : ((List A4ListGSpan) × Bool) → Prop) : Prop :=
  L_impl_sides_empty s_0 (fun r41 => ifW r41 (κ ([], true)) (jnW (fun (xs310 : (List A4ListGSpan)) => κ (xs310, true)) (fun k313 => loopW (fun (nx77 : ((List A4ListGSpan) × Int) → Prop) ((xs73, t76) : ((List A4ListGSpan) × Int)) => ifW (decide (t76 < (region_1.length : Int))) (idxW region_1 t76 (fun e78 => loopW (fun (nx114 : ((List A4ListGSpan) × Int) → Prop) ((xs110, t113) : ((List A4ListGSpan) × Int)) => ifW (decide (t113 < (xs73.length : Int))) (idxW xs73 t113 (fun e115 => L_impl_sides_cut e115 e78 (fun (r177, r180) => jnW (fun (t242 : Bool) => ifW t242 (κ ([], false)) (appW xs110 r177 (fun _ => addW t113 1 (fun t247 => nx114 ((xs110 ++ r177), t247))))) (fun k243 => ifW (!r180) (k243 true) (addW (xs110.length : Int) (r177.length : Int) (fun t181 => k243 (decide (400 < t181)))))))) (ifW (decide ((xs110.length : Int) = 0)) (k313 xs110) (addW t76 1 (fun t248 => nx77 (xs110, t248))))) ([], 0))) (k313 xs73)) ([s_0], 0))))

def L_impl_liveOf (list_0 : (List GIflat)) (n_1 : Int) (κ : ((List A4ListGSpan) × Bool) → Prop) : Prop :=
  idxW list_0 n_1 (fun e4 => sliceW list_0 0 n_1 (fun xs20 => L_impl_wheres xs20 (fun r23 => L_impl_sides_lessRegion e4.xWhere r23 (fun (r26, r29) => κ (r26, r29)))))

def L_impl_deadIn (list_0 : (List GIflat)) (κ : (List Int) → Prop) : Prop :=
  loopW (fun (nx10 : ((List Int) × Int) → Prop) ((xs6, t9) : ((List Int) × Int)) => ifW (decide (t9 < (list_0.length : Int))) (jnW (fun (xs141 : (List Int)) => addW t9 1 (fun t145 => nx10 (xs141, t145))) (fun k144 => L_impl_liveOf list_0 t9 (fun (r11, r14) => jnW (fun (t75 : Bool) => ifW t75 (appW xs6 ([t9]) (fun _ => k144 (xs6 ++ ([t9])))) (k144 xs6)) (fun k76 => ifW r14 (k76 (decide ((r11.length : Int) = 0))) (k76 false))))) (κ xs6)) ([], 0)

def L_impl_DeadFlats (list_0 : (List GFlat)) (κ : (List Int) → Prop) : Prop :=
  L_impl_FlatsValid list_0 (fun r4 => ifW (!r4) (κ ([])) (L_impl_flatsOf list_0 (fun r6 => L_impl_deadIn r6 (fun r9 => κ r9))))

def L_laws_FnHitCounts (code_0 : (List UInt8)) (κ : Bool → Prop) : Prop :=
  ifW (decide (1048576 < (code_0.length : Int))) (κ true) (L_spec_DrawHitCounts code_0 (fun (r3, r6) => L_impl_HitCounts r3 r6 (fun r9 => L_spec_HitCounts r3 r6 (fun r12 => L_laws_sameInts r9 r12 (fun r15 => ifW (!r15) (κ false) (ifW (decide ((r9.length : Int) = 0)) (L_laws_alive (fun r16 => κ r16)) (loopW (fun (nx19 : (Int × Int) → Prop) ((t17, t18) : (Int × Int)) => ifW (decide (t18 < (r9.length : Int))) (idxW r9 t18 (fun e20 => addW t17 e20 (fun t22 => addW t18 1 (fun t23 => nx19 (t22, t23))))) (L_impl_DeadFlats r3 (fun r24 => loopW (fun (nx28 : Int → Prop) (t27 : Int) => ifW (decide (t27 < (r24.length : Int))) (jnW (fun (t97 : Bool) => ifW t97 (κ false) (addW t27 1 (fun t99 => nx28 t99))) (fun k98 => idxW r24 t27 (fun e29 => ifW (decide (e29 < 0)) (k98 true) (idxW r24 t27 (fun e31 => ifW (decide ((r9.length : Int) ≤ e31)) (k98 true) (idxW r24 t27 (fun e33 => idxW r9 e33 (fun e35 => k98 (!(decide (e35 = 0))))))))))) (jnW (fun (t161 : Bool) => κ t161) (fun k162 => ifW (decide (t17 = (r6.length : Int))) (addW (r3.length : Int) 1 (fun t100 => k162 (decide ((r9.length : Int) = t100)))) (k162 false)))) 0))) (0, 0))))))))

end
section
open Go Go.Proofs

/-- the only form of a set -/
def NF (l : List GSpan) : Prop := (∀ s ∈ l, s.xLo ≤ s.xHi) ∧ l.Pairwise (fun a b => a.xHi + 1 < b.xLo)
/-- a number is in one of the ranges -/
def hv (l : List GSpan) (x : Int) : Prop := ∃ s ∈ l, s.xLo ≤ x ∧ x ≤ s.xHi
theorem NF_nil : NF [] := ⟨by simp, by simp⟩
theorem hv_nil (x : Int) : ¬ hv [] x := by simp [hv]
theorem hv_cons (s : GSpan) (l : List GSpan) (x : Int) : hv (s :: l) x ↔ (s.xLo ≤ x ∧ x ≤ s.xHi) ∨ hv l x := by simp [hv]
theorem hv_app (l m : List GSpan) (x : Int) : hv (l ++ m) x ↔ hv l x ∨ hv m x := by
  simp only [hv, List.mem_append]
  constructor
  · rintro ⟨s, h | h, e⟩
    · exact .inl ⟨s, h, e⟩
    · exact .inr ⟨s, h, e⟩
  · rintro (⟨s, h, e⟩ | ⟨s, h, e⟩)
    · exact ⟨s, .inl h, e⟩
    · exact ⟨s, .inr h, e⟩
theorem NF_tail {s : GSpan} {l : List GSpan} (h : NF (s :: l)) : NF l := ⟨fun t ht => h.1 t (List.mem_cons_of_mem _ ht), (List.pairwise_cons.1 h.2).2⟩
theorem NF_gap {s : GSpan} {l : List GSpan} (h : NF (s :: l)) {x : Int} (hx : hv l x) : s.xHi + 1 < x := by
  obtain ⟨t, ht, e1, _⟩ := hx
  have := (List.pairwise_cons.1 h.2).1 t ht
  omega
theorem NF_head {s : GSpan} {l : List GSpan} (h : NF (s :: l)) {x : Int} (hx : hv (s :: l) x) : s.xLo ≤ x := by
  rcases (hv_cons _ _ _).1 hx with e | e
  · exact e.1
  · have := NF_gap h e
    have := h.1 s (by simp)
    omega
theorem NF_app {l m : List GSpan} (hl : NF l) (hm : NF m) (h : ∀ s ∈ l, ∀ t ∈ m, s.xHi + 1 < t.xLo) : NF (l ++ m) :=
  ⟨fun s hs => (List.mem_append.1 hs).elim (hl.1 s) (hm.1 s), List.pairwise_append.2 ⟨hl.2, hm.2, h⟩⟩
theorem NF_one {s : GSpan} (h : s.xLo ≤ s.xHi) : NF [s] := ⟨by simpa using h, by simp⟩
/-- the form is the only one -/
theorem NF_eq : ∀ {a b : List GSpan}, NF a → NF b → (∀ x, hv a x ↔ hv b x) → a = b
  | [], [], _, _, _ => rfl
  | [], t :: b, _, hb, h => absurd ((h t.xLo).2 ((hv_cons _ _ _).2 (.inl ⟨Int.le_refl _, hb.1 t (by simp)⟩))) (hv_nil _)
  | s :: a, [], ha, _, h => absurd ((h s.xLo).1 ((hv_cons _ _ _).2 (.inl ⟨Int.le_refl _, ha.1 s (by simp)⟩))) (hv_nil _)
  | s :: a, t :: b, ha, hb, h => by
    have h1 := ha.1 s (by simp)
    have h2 := hb.1 t (by simp)
    have l1 : t.xLo ≤ s.xLo := NF_head hb ((h _).1 ((hv_cons _ _ _).2 (.inl ⟨Int.le_refl _, h1⟩)))
    have l2 : s.xLo ≤ t.xLo := NF_head ha ((h _).2 ((hv_cons _ _ _).2 (.inl ⟨Int.le_refl _, h2⟩)))
    have u1 : ¬ s.xHi < t.xHi := fun hlt => by
      have := (h (s.xHi + 1)).2 ((hv_cons _ _ _).2 (.inl ⟨by omega, by omega⟩))
      rcases (hv_cons _ _ _).1 this with e | e
      · omega
      · have := NF_gap ha e; omega
    have u2 : ¬ t.xHi < s.xHi := fun hlt => by
      have := (h (t.xHi + 1)).1 ((hv_cons _ _ _).2 (.inl ⟨by omega, by omega⟩))
      rcases (hv_cons _ _ _).1 this with e | e
      · omega
      · have := NF_gap hb e; omega
    have e : s = t := by
      apply GSpan.ext <;> omega
    subst e
    rw [NF_eq (NF_tail ha) (NF_tail hb) (fun x => ?_)]
    have := h x
    rw [hv_cons, hv_cons] at this
    constructor
    · intro hx
      have g := NF_gap ha hx
      rcases this.1 (.inr hx) with e | e
      · omega
      · exact e
    · intro hx
      have g := NF_gap hb hx
      rcases this.2 (.inr hx) with e | e
      · omega
      · exact e

-- ranges that do not meet, and their order
def sweep : List (Int × Int) → List GSpan → Int → Int → List GSpan
  | [], out, _, _ => out
  | e :: es, out, d, st => sweep es (if d + e.2 = 0 then out ++ [GSpan.mk (if d = 0 then e.1 else st) (e.1 - 1)] else out) (d + e.2) (if d = 0 then e.1 else st)
def addS : List GSpan → GSpan → List GSpan → Bool → List GSpan × GSpan × Bool
  | [], s, out, pl => (out, s, pl)
  | x :: xs, s, out, pl =>
    if x.xHi + 1 < s.xLo then addS xs s (out ++ [x]) pl
    else if s.xHi + 1 < x.xLo then addS xs s ((if pl then out else out ++ [s]) ++ [x]) true
    else addS xs (GSpan.mk (min s.xLo x.xLo) (max s.xHi x.xHi)) out pl
def add1 (l : List GSpan) (s : GSpan) : List GSpan :=
  match addS l s [] false with
  | (out, s', pl) => if pl then out else out ++ [s']
theorem add_go : ∀ (l : List GSpan) (s : GSpan) (out : List GSpan) (pl : Bool), NF l → s.xLo ≤ s.xHi → NF out →
    (pl = false → (∀ t ∈ out, t.xHi + 1 < s.xLo) ∧ (∀ t ∈ out, ∀ u ∈ l, t.xHi + 1 < u.xLo)) →
    (pl = true → (∀ t ∈ out, ∀ u ∈ l, t.xHi + 1 < u.xLo) ∧ (∀ u ∈ l, s.xHi + 1 < u.xLo) ∧ s ∈ out) →
    NF (match addS l s out pl with | (o, s', p) => if p then o else o ++ [s']) ∧ ∀ x, hv (match addS l s out pl with | (o, s', p) => if p then o else o ++ [s']) x ↔ hv out x ∨ hv l x ∨ (s.xLo ≤ x ∧ x ≤ s.xHi)
  | [], s, out, pl, hl, hs, ho, h0, h1 => by
    simp only [addS]
    cases pl with
    | true =>
      simp only [if_true]
      obtain ⟨_, _, hm⟩ := h1 rfl
      refine ⟨ho, fun x => ⟨.inl, ?_⟩⟩
      rintro (q | q | q)
      · exact q
      · exact absurd q (hv_nil x)
      · exact ⟨s, hm, q⟩
    | false =>
      simp only [Bool.false_eq_true, if_false]
      obtain ⟨ha, _⟩ := h0 rfl
      refine ⟨NF_app ho (NF_one hs) (fun t ht u hu => by simp at hu; subst hu; exact ha t ht), fun x => ?_⟩
      rw [hv_app, hv_cons]
      simp [hv_nil]
  | y :: l, s, out, pl, hl, hs, ho, h0, h1 => by
    have hy := hl.1 y (by simp)
    have hgap := (List.pairwise_cons.1 hl.2).1
    have hl' := NF_tail hl
    unfold addS
    by_cases c1 : y.xHi + 1 < s.xLo
    · rw [if_pos c1]
      have hpl : pl = false := by
        cases pl with
        | false => rfl
        | true => have := (h1 rfl).2.1 y (by simp); omega
      subst hpl
      obtain ⟨a1, a2⟩ := h0 rfl
      have ih := add_go l s (out ++ [y]) false hl' hs (NF_app ho (NF_one hy) (fun t ht u hu => by simp at hu; subst hu; exact a2 t ht u (by simp)))
        (fun _ => ⟨fun t ht => by
          rcases List.mem_append.1 ht with q | q
          · exact a1 t q
          · simp at q; subst q; exact c1, fun t ht u hu => by
          rcases List.mem_append.1 ht with q | q
          · exact a2 t q u (by simp [hu])
          · simp at q; subst q; exact hgap u hu⟩) (fun h => by simp at h)
      refine ⟨ih.1, fun x => ?_⟩
      rw [ih.2 x, hv_app, hv_cons, hv_cons]
      simp only [hv_nil, or_false]
      constructor
      · rintro ((q | q) | q | q)
        · exact .inl q
        · exact .inr (.inl (.inl q))
        · exact .inr (.inl (.inr q))
        · exact .inr (.inr q)
      · rintro (q | (q | q) | q)
        · exact .inl (.inl q)
        · exact .inl (.inr q)
        · exact .inr (.inl q)
        · exact .inr (.inr q)
    · rw [if_neg c1]
      by_cases c2 : s.xHi + 1 < y.xLo
      · rw [if_pos c2]
        cases pl with
        | true =>
          simp only [if_true]
          obtain ⟨a1, a2, a3⟩ := h1 rfl
          have ih := add_go l s (out ++ [y]) true hl' hs (NF_app ho (NF_one hy) (fun t ht u hu => by simp at hu; subst hu; exact a1 t ht u (by simp))) (fun h => by simp at h)
            (fun _ => ⟨fun t ht u hu => by
              rcases List.mem_append.1 ht with q | q
              · exact a1 t q u (by simp [hu])
              · simp at q; subst q; exact hgap u hu, fun u hu => a2 u (by simp [hu]), by simp [a3]⟩)
          refine ⟨ih.1, fun x => ?_⟩
          rw [ih.2 x, hv_app, hv_cons, hv_cons]
          simp only [hv_nil, or_false]
          constructor
          · rintro ((q | q) | q | q)
            · exact .inl q
            · exact .inr (.inl (.inl q))
            · exact .inr (.inl (.inr q))
            · exact .inr (.inr q)
          · rintro (q | (q | q) | q)
            · exact .inl (.inl q)
            · exact .inl (.inr q)
            · exact .inr (.inl q)
            · exact .inr (.inr q)
        | false =>
          simp only [Bool.false_eq_true, if_false]
          obtain ⟨a1, a2⟩ := h0 rfl
          have n1 : NF (out ++ [s]) := NF_app ho (NF_one hs) (fun t ht u hu => by simp at hu; subst hu; exact a1 t ht)
          have ih := add_go l s ((out ++ [s]) ++ [y]) true hl' hs (NF_app n1 (NF_one hy) (fun t ht u hu => by
              simp at hu; subst hu
              rcases List.mem_append.1 ht with q | q
              · exact a2 t q u (by simp)
              · simp at q; subst q; exact c2)) (fun h => by simp at h)
            (fun _ => ⟨fun t ht u hu => by
              have hg := hgap u hu
              rcases List.mem_append.1 ht with q | q
              · rcases List.mem_append.1 q with q | q
                · exact a2 t q u (by simp [hu])
                · simp at q; subst q; omega
              · simp at q; subst q; exact hg, fun u hu => by have := hgap u hu; omega, by simp⟩)
          refine ⟨ih.1, fun x => ?_⟩
          rw [ih.2 x, hv_app, hv_app, hv_cons, hv_cons, hv_cons]
          simp only [hv_nil, or_false]
          constructor
          · rintro (((q | q) | q) | q | q)
            · exact .inl q
            · exact .inr (.inr q)
            · exact .inr (.inl (.inl q))
            · exact .inr (.inl (.inr q))
            · exact .inr (.inr q)
          · rintro (q | (q | q) | q)
            · exact .inl (.inl (.inl q))
            · exact .inl (.inr q)
            · exact .inr (.inl q)
            · exact .inr (.inr q)
      · rw [if_neg c2]
        have hpl : pl = false := by
          cases pl with
          | false => rfl
          | true => have := (h1 rfl).2.1 y (by simp); omega
        subst hpl
        obtain ⟨a1, a2⟩ := h0 rfl
        have ih := add_go l (GSpan.mk (min s.xLo y.xLo) (max s.xHi y.xHi)) out false hl' (by simp only; omega) ho
          (fun _ => ⟨fun t ht => by
            have := a1 t ht; have := a2 t ht y (by simp)
            simp only; omega, fun t ht u hu => a2 t ht u (by simp [hu])⟩) (fun h => by simp at h)
        refine ⟨ih.1, fun x => ?_⟩
        rw [ih.2 x, hv_cons]
        simp only
        constructor
        · rintro (q | q | q)
          · exact .inl q
          · exact .inr (.inl (.inr q))
          · by_cases c3 : y.xLo ≤ x ∧ x ≤ y.xHi
            · exact .inr (.inl (.inl c3))
            · exact .inr (.inr (by omega))
        · rintro (q | (q | q) | q)
          · exact .inl q
          · exact .inr (.inr (by omega))
          · exact .inr (.inl q)
          · exact .inr (.inr (by omega))
/-- adding a range: the form stays, and the range comes to the set -/
theorem add_spec {l : List GSpan} {s : GSpan} (hl : NF l) (hs : s.xLo ≤ s.xHi) : NF (add1 l s) ∧ ∀ x, hv (add1 l s) x ↔ hv l x ∨ (s.xLo ≤ x ∧ x ≤ s.xHi) := by
  have := add_go l s [] false hl hs NF_nil (fun _ => ⟨by simp, by simp⟩) (fun h => by simp at h)
  refine ⟨this.1, fun x => ?_⟩
  have := this.2 x
  simp only [hv_nil, false_or] at this
  exact this
theorem addAll_spec : ∀ (xs l : List GSpan), NF l → (∀ s ∈ xs, s.xLo ≤ s.xHi) → NF (xs.foldl add1 l) ∧ ∀ x, hv (xs.foldl add1 l) x ↔ hv l x ∨ hv xs x
  | [], l, hl, _ => ⟨hl, fun x => by simp [hv_nil]⟩
  | s :: xs, l, hl, h => by
    obtain ⟨n1, e1⟩ := add_spec hl (h s (by simp))
    obtain ⟨n2, e2⟩ := addAll_spec xs (add1 l s) n1 (fun t ht => h t (List.mem_cons_of_mem _ ht))
    refine ⟨n2, fun x => ?_⟩
    rw [List.foldl_cons, e2 x, e1 x, hv_cons]
    constructor
    · rintro ((q | q) | q)
      · exact .inl q
      · exact .inr (.inl q)
      · exact .inr (.inr q)
    · rintro (q | q | q)
      · exact .inl (.inl q)
      · exact .inl (.inr q)
      · exact .inr q
end
section


theorem ifW_t {A B : Prop} (h : A) : ifW true A B := ⟨fun _ => h, (fun e => by cases e)⟩
theorem ifW_f {A B : Prop} (h : B) : ifW false A B := ⟨(fun e => by cases e), fun _ => h⟩
theorem ifW_of {c : Bool} {A B : Prop} (ht : c = true → A) (hf : c = false → B) : ifW c A B := ⟨ht, hf⟩
@[simp] theorem ifW_true {A B : Prop} : ifW true A B = A := propext ⟨fun h => h.1 rfl, ifW_t⟩
@[simp] theorem ifW_false {A B : Prop} : ifW false A B = B := propext ⟨fun h => h.2 rfl, ifW_f⟩
theorem addW_of {x y : Int} {κ : Int → Prop} (h1 : -9223372036854775808 ≤ x + y) (h2 : x + y ≤ 9223372036854775807) (h : κ (x + y)) : addW x y κ := ⟨⟨h1, h2⟩, h⟩
theorem subW_of {x y : Int} {κ : Int → Prop} (h1 : -9223372036854775808 ≤ x - y) (h2 : x - y ≤ 9223372036854775807) (h : κ (x - y)) : subW x y κ := ⟨⟨h1, h2⟩, h⟩
theorem mulW_of {x y : Int} {κ : Int → Prop} (h1 : -9223372036854775808 ≤ x * y) (h2 : x * y ≤ 9223372036854775807) (h : κ (x * y)) : mulW x y κ := ⟨⟨h1, h2⟩, h⟩
theorem quoW_of {x y : Int} {κ : Int → Prop} (h1 : 0 ≤ x) (h2 : x ≤ 9223372036854775807) (h3 : 0 < y) (h : κ (x / y)) : quoW x y κ := ⟨h3, ⟨by omega, h2⟩, by rw [Int.tdiv_eq_ediv_of_nonneg h1]; exact h⟩
theorem remW_of {x y : Int} {κ : Int → Prop} (h1 : 0 ≤ x) (h2 : x ≤ 9223372036854775807) (h3 : 0 < y) (h : κ (x % y)) : remW x y κ := ⟨h1, h3, ⟨by omega, h2⟩, h⟩
theorem idxW_of {α : Type} {xs : List α} {i : Int} {κ : α → Prop} (n : Nat) (hi : i = n) (hn : n < xs.length) (h : κ xs[n]) : idxW xs i κ := by
  subst hi
  exact ⟨xs[n], by omega, by simp [hn], h⟩
theorem appW_of {α : Type} {xs ys : List α} {κ : List α → Prop} (h1 : xs.length + ys.length ≤ 4294967296) (h : κ (xs ++ ys)) : appW xs ys κ := ⟨h1, h⟩
theorem makeW_of {α : Type} {z : α} {n m : Int} {κ : List α → Prop} (k : Nat) (hn : n = k) (h1 : n ≤ m) (h2 : m ≤ 4294967296) (h : κ (List.replicate k z)) : makeW z n m κ := by
  subst hn
  refine ⟨by omega, h1, ?_, by simpa using h⟩
  unfold lenOk
  omega

/-- a loop that counts a place up to a length, with a state: after each round the state's law holds of the next place -/
theorem count_loop {σ : Type} {F : (σ → Prop) → σ → Prop} (len : Nat) (pos : σ → Int) (I : Nat → σ → Prop) (hpos : ∀ k s, I k s → pos s = k) (hle : ∀ k s, I k s → k ≤ len)
    (h : ∀ k s next, I k s → (k < len → ∀ s', I (k + 1) s' → next s') → F next s) {s : σ} (h0 : I 0 s) : loopW F s := by
  refine loopW_inv (fun s => ∃ k, I k s) (fun s => len - (pos s).toNat) (fun s next ⟨k, hk⟩ hn => ?_) ⟨0, h0⟩
  refine h k s next hk (fun hlt s' hs' => hn s' ⟨k + 1, hs'⟩ ?_)
  rw [hpos _ _ hk, hpos _ _ hs']
  omega

/-- the same, from a place k0 on -/
theorem count_loop_from {σ : Type} {F : (σ → Prop) → σ → Prop} (k0 len : Nat) (pos : σ → Int) (I : Nat → σ → Prop) (hpos : ∀ k s, I k s → pos s = k) (hle : ∀ k s, I k s → k ≤ len)
    (h : ∀ k s next, I k s → (k < len → ∀ s', I (k + 1) s' → next s') → F next s) {s : σ} (h0 : I k0 s) : loopW F s := by
  refine loopW_inv (fun s => ∃ k, I k s) (fun s => len - (pos s).toNat) (fun s next ⟨k, hk⟩ hn => ?_) ⟨k0, h0⟩
  refine h k s next hk (fun hlt s' hs' => hn s' ⟨k + 1, hs'⟩ ?_)
  rw [hpos _ _ hk, hpos _ _ hs']
  omega

/-- two lists are held against each other -/
theorem eq_loop {α : Type} [DecidableEq α] (a b : List α) (hab : a.length = b.length) (hl : a.length ≤ 4294967296) {κ : Bool → Prop} (T : α → α → Prop → Prop) (hT : ∀ x y A, (x = y → A) → (x ≠ y → κ false) → T x y A) (hκ : κ (decide (a = b)))
    (F : (Int → Prop) → Int → Prop) (hF : ∀ nx t, (ifW (decide (t < (a.length : Int))) (idxW a t (fun x => idxW b t (fun y => T x y (addW t 1 (fun u => nx u))))) (κ true)) → F nx t) : loopW F 0 := by
  refine count_loop a.length (fun s => s) (fun k s => s = (k : Int) ∧ k ≤ a.length ∧ a.take k = b.take k) (fun k s h => h.1) (fun k s h => h.2.1) ?_ ⟨rfl, Nat.zero_le _, by simp⟩
  rintro k _ next ⟨rfl, hk, he⟩ hn
  refine hF _ _ (ifW_of (fun hc => ?_) (fun hc => ?_))
  · have hlt : k < a.length := by simpa using hc
    refine idxW_of k rfl hlt (idxW_of k rfl (by omega) (hT _ _ _ (fun e => addW_of (by omega) (by omega) (hn hlt _ ⟨by simp, by omega, ?_⟩)) (fun e => ?_)))
    · rw [List.take_succ_eq_append_getElem hlt, List.take_succ_eq_append_getElem (by omega), he, e]
    · have : a ≠ b := fun h => by subst h; exact e rfl
      rw [decide_eq_false this] at hκ; exact hκ
  · have hge : a.length ≤ k := by simpa using hc
    have : a = b := by
      rw [List.take_of_length_le hge, List.take_of_length_le (by omega)] at he
      exact he
    rw [decide_eq_true this] at hκ; exact hκ

/-- the marks that are laid into a list from k on -/
def marks {α : Type} (f : Int → α) (k : Int) (n : Nat) : List α := (List.range n).map fun (i : Nat) => f (k + (i : Int))
end
section
open Go Go.Proofs

instance (l : List GSpan) (x : Int) : Decidable (hv l x) := by unfold hv; infer_instance
/-- a set of numbers in 0..top, in its form; as many ranges as you like -/
def St (l : List GSpan) (top : Int) : Prop := NF l ∧ ∀ s ∈ l, 0 ≤ s.xLo ∧ s.xHi ≤ top
theorem St_nil (top : Int) : St [] top := ⟨NF_nil, by simp⟩
theorem St_eq {a b : List GSpan} {t u : Int} (ha : St a t) (hb : St b u) (h : ∀ x, hv a x ↔ hv b x) : a = b := NF_eq ha.1 hb.1 h
theorem hv_range {l : List GSpan} {top x : Int} (h : St l top) (hx : hv l x) : 0 ≤ x ∧ x ≤ top := by
  obtain ⟨s, hs, e1, e2⟩ := hx
  have := h.2 s hs
  omega
theorem St_len_go : ∀ (l : List GSpan) (top lo : Int), NF l → (∀ s ∈ l, lo ≤ s.xLo ∧ s.xHi ≤ top) → lo ≤ top + 2 → 2 * (l.length : Int) ≤ top + 2 - lo
  | [], top, lo, _, _, h => by simp; omega
  | s :: l, top, lo, hn, hr, h => by
    have h0 := hr s (by simp)
    have h1 := hn.1 s (by simp)
    have := St_len_go l top (s.xHi + 2) (NF_tail hn) (fun t ht => ⟨by have := (List.pairwise_cons.1 hn.2).1 t ht; omega, (hr t (List.mem_cons_of_mem _ ht)).2⟩) (by omega)
    simp only [List.length_cons]
    omega
theorem St_len {l : List GSpan} {top : Int} (h : St l top) (ht : -2 ≤ top) : 2 * (l.length : Int) ≤ top + 2 := by
  have := St_len_go l top 0 h.1 h.2 (by omega)
  omega

-- the common numbers
def cap1 (x y : GSpan) : List GSpan := if max x.xLo y.xLo ≤ min x.xHi y.xHi then [GSpan.mk (max x.xLo y.xLo) (min x.xHi y.xHi)] else []
def meetF (a b : List GSpan) : List GSpan := a.flatMap fun x => b.flatMap (cap1 x)
theorem cap1_mem {x y t : GSpan} : t ∈ cap1 x y ↔ max x.xLo y.xLo ≤ min x.xHi y.xHi ∧ t = GSpan.mk (max x.xLo y.xLo) (min x.xHi y.xHi) := by
  unfold cap1; split <;> simp [*]
theorem meetF_mem {a b : List GSpan} {t : GSpan} : t ∈ meetF a b ↔ ∃ x ∈ a, ∃ y ∈ b, max x.xLo y.xLo ≤ min x.xHi y.xHi ∧ t = GSpan.mk (max x.xLo y.xLo) (min x.xHi y.xHi) := by
  simp only [meetF, List.mem_flatMap, cap1_mem]
theorem meetF_hv (a b : List GSpan) (n : Int) : hv (meetF a b) n ↔ hv a n ∧ hv b n := by
  constructor
  · rintro ⟨t, ht, h1, h2⟩
    obtain ⟨x, hx, y, hy, _, rfl⟩ := meetF_mem.1 ht
    simp only at h1 h2
    exact ⟨⟨x, hx, by omega, by omega⟩, ⟨y, hy, by omega, by omega⟩⟩
  · rintro ⟨⟨x, hx, h1, h2⟩, ⟨y, hy, h3, h4⟩⟩
    exact ⟨_, meetF_mem.2 ⟨x, hx, y, hy, by omega, rfl⟩, by simp only; omega, by simp only; omega⟩
theorem cap_NF {x : GSpan} : ∀ {b : List GSpan}, NF b → NF (b.flatMap (cap1 x))
  | [], _ => by simp [NF]
  | y :: b, h => by
    rw [List.flatMap_cons]
    have hy := (List.pairwise_cons.1 h.2).1
    refine NF_app ⟨fun t ht => ?_, ?_⟩ (cap_NF (NF_tail h)) (fun t ht u hu => ?_)
    · obtain ⟨h1, rfl⟩ := cap1_mem.1 ht; exact h1
    · unfold cap1; split <;> simp
    · obtain ⟨h1, rfl⟩ := cap1_mem.1 ht
      obtain ⟨z, hz, hu⟩ := List.mem_flatMap.1 hu
      obtain ⟨h2, rfl⟩ := cap1_mem.1 hu
      have := hy z hz
      simp only; omega
theorem meetF_NF : ∀ {a b : List GSpan}, NF a → NF b → NF (meetF a b)
  | [], b, _, _ => by simp [meetF, NF]
  | x :: a, b, ha, hb => by
    have e : meetF (x :: a) b = b.flatMap (cap1 x) ++ meetF a b := by simp [meetF]
    rw [e]
    refine NF_app (cap_NF hb) (meetF_NF (NF_tail ha) hb) (fun t ht u hu => ?_)
    obtain ⟨y, hy, ht⟩ := List.mem_flatMap.1 ht
    obtain ⟨h1, rfl⟩ := cap1_mem.1 ht
    obtain ⟨z, hz, y', hy', h2, rfl⟩ := meetF_mem.1 hu
    have := (List.pairwise_cons.1 ha.2).1 z hz
    simp only; omega
theorem meetF_St {a b : List GSpan} {top : Int} (ha : St a top) (hb : NF b) : St (meetF a b) top := by
  refine ⟨meetF_NF ha.1 hb, fun t ht => ?_⟩
  obtain ⟨x, hx, y, hy, _, rfl⟩ := meetF_mem.1 ht
  have := ha.2 x hx
  have := hb.1 y hy
  simp only; omega

-- what is not in a set
def otherGo : List GSpan → Int → Int → List GSpan
  | [], at_, top => if at_ ≤ top then [GSpan.mk at_ top] else []
  | s :: l, at_, top => (if at_ < s.xLo then [GSpan.mk at_ (s.xLo - 1)] else []) ++ otherGo l (s.xHi + 1) top
def otherF (a : List GSpan) (top : Int) : List GSpan := otherGo a 0 top
theorem other_go : ∀ (a : List GSpan) (c top : Int), NF a → (∀ s ∈ a, c ≤ s.xLo ∧ s.xHi ≤ top) →
    NF (otherGo a c top) ∧ (∀ s ∈ otherGo a c top, c ≤ s.xLo ∧ s.xHi ≤ top) ∧ ∀ x, hv (otherGo a c top) x ↔ c ≤ x ∧ x ≤ top ∧ ¬ hv a x
  | [], c, top, _, _ => by
    unfold otherGo
    split
    · refine ⟨NF_one (by simpa using ‹_›), by simp, fun x => ?_⟩
      rw [hv_cons]; simp [hv_nil]
    · refine ⟨NF_nil, by simp, fun x => ?_⟩
      simp only [hv_nil, false_iff]
      omega
  | s :: l, c, top, hn, hr => by
    have h0 := hr s (by simp)
    have h1 := hn.1 s (by simp)
    have hg := (List.pairwise_cons.1 hn.2).1
    obtain ⟨i1, i2, i3⟩ := other_go l (s.xHi + 1) top (NF_tail hn) (fun t ht => ⟨by have := hg t ht; omega, (hr t (List.mem_cons_of_mem _ ht)).2⟩)
    unfold otherGo
    have hx0 : ∀ x, x ≤ s.xHi + 1 → ¬ hv l x := fun x hx hh => by have := NF_gap hn hh; omega
    split
    · refine ⟨NF_app (NF_one (by simp only; omega)) i1 (fun t ht u hu => by simp at ht; subst ht; have := i2 u hu; simp only; omega), fun t ht => ?_, fun x => ?_⟩
      · rcases List.mem_append.1 ht with q | q
        · simp at q; subst q; simp only; omega
        · have := i2 t q; omega
      · rw [hv_app, hv_cons, i3, hv_cons]
        simp only [hv_nil, or_false]
        constructor
        · rintro (q | ⟨q1, q2, q3⟩)
          · exact ⟨by omega, by omega, fun h => by
              rcases h with h | h
              · omega
              · exact hx0 x (by omega) h⟩
          · exact ⟨by omega, q2, fun h => by
              rcases h with h | h
              · omega
              · exact q3 h⟩
        · rintro ⟨q1, q2, q3⟩
          by_cases h : x < s.xLo
          · exact .inl (by omega)
          · exact .inr ⟨by
              rcases Int.lt_or_le s.xHi x with g | g
              · omega
              · exact absurd (Or.inl ⟨by omega, g⟩) q3, q2, fun h => q3 (.inr h)⟩
    · refine ⟨by simpa using i1, fun t ht => ?_, fun x => ?_⟩
      · have := i2 t (by simpa using ht); omega
      · rw [List.nil_append, i3, hv_cons]
        constructor
        · rintro ⟨q1, q2, q3⟩
          exact ⟨by omega, q2, fun h => by
              rcases h with h | h
              · omega
              · exact q3 h⟩
        · rintro ⟨q1, q2, q3⟩
          exact ⟨by
              rcases Int.lt_or_le s.xHi x with g | g
              · omega
              · exact absurd (Or.inl ⟨by omega, g⟩) q3, q2, fun h => q3 (.inr h)⟩
theorem otherF_St {a : List GSpan} {top : Int} (h : St a top) : St (otherF a top) top := by
  obtain ⟨h1, h2, _⟩ := other_go a 0 top h.1 h.2
  exact ⟨h1, h2⟩
theorem otherF_hv {a : List GSpan} {top : Int} (h : St a top) (x : Int) : hv (otherF a top) x ↔ 0 ≤ x ∧ x ≤ top ∧ ¬ hv a x := (other_go a 0 top h.1 h.2).2.2 x
-- the union
theorem NF_ends {l : List GSpan} {s : GSpan} (h : NF l) (hs : s ∈ l) : hv l s.xLo ∧ hv l s.xHi := ⟨⟨s, hs, Int.le_refl _, h.1 s hs⟩, ⟨s, hs, h.1 s hs, Int.le_refl _⟩⟩
theorem S_skip (a : List GSpan) (c : Int) (hl : a.length ≤ 4294967296) {i0 : Nat} (h0 : i0 ≤ a.length) (hb : ∀ s ∈ a.take i0, s.xHi < c) (REST : Int → Prop)
    (hR : ∀ i : Nat, i ≤ a.length → (∀ s ∈ a.take i, s.xHi < c) → (∀ h : i < a.length, c ≤ a[i].xHi) → REST i)
    (F : (Int → Prop) → Int → Prop) (hF : ∀ nx t, (jnW (fun (b : Bool) => ifW b (addW t 1 (fun u => nx u)) (REST t)) (fun k => ifW (decide (t < (a.length : Int))) (idxW a t (fun e => k (decide (e.xHi < c)))) (k false))) → F nx t) : loopW F (i0 : Int) := by
  refine count_loop_from i0 a.length (fun s => s) (fun k s => s = (k : Int) ∧ k ≤ a.length ∧ ∀ s ∈ a.take k, s.xHi < c) (fun k s h => h.1) (fun k s h => h.2.1) ?_ ⟨rfl, h0, hb⟩
  rintro k _ next ⟨rfl, hk, he⟩ hn
  refine hF _ _ ?_
  unfold jnW
  refine ifW_of (fun hc => ?_) (fun hc => ?_)
  · have hlt : k < a.length := by simpa using hc
    refine idxW_of k rfl hlt (ifW_of (fun hd => ?_) (fun hd => ?_))
    · refine addW_of (by omega) (by omega) (hn hlt _ ⟨by simp, by omega, fun s hs => ?_⟩)
      rw [List.take_succ_eq_append_getElem hlt] at hs
      rcases List.mem_append.1 hs with q | q
      · exact he s q
      · simp at q; subst q; simpa using hd
    · exact hR k hk he (fun _ => by simpa using hd)
  · refine ifW_f (hR k hk he (fun h => ?_))
    have : a.length ≤ k := by simpa using hc
    omega
/-- how a set goes on from a place -/
theorem hv_drop {a : List GSpan} {i : Nat} {c x : Int} (h : ∀ s ∈ a.take i, s.xHi < c) (hx : c ≤ x) : hv a x ↔ hv (a.drop i) x := by
  have e := hv_app (a.take i) (a.drop i) x
  rw [List.take_append_drop] at e
  rw [e]
  constructor
  · rintro (⟨s, hs, q1, q2⟩ | q)
    · have := h s hs; omega
    · exact q
  · exact .inr
def stF (l : List GSpan) (c top : Int) : Bool × Int :=
  match l with
  | [] => (false, top)
  | s :: _ => if c < s.xLo then (false, s.xLo - 1) else (true, s.xHi)
theorem S_stretch {l : List GSpan} {c top : Int} {κ : Bool × Int → Prop} (hb : ∀ s ∈ l, 0 ≤ s.xLo ∧ s.xHi ≤ 9223372036854775807) (hn : NF l) (h : κ (stF l c top)) : L_impl_stretch l c top κ := by
  unfold L_impl_stretch
  cases l with
  | nil => exact ifW_t h
  | cons s l =>
    have := hb s (by simp)
    have := hn.1 s (by simp)
    refine ifW_of (fun e => by simp at e; omega) (fun _ => idxW_of 0 rfl (by simp) (ifW_of (fun e => idxW_of 0 rfl (by simp) (subW_of (by simp only [List.getElem_cons_zero]; omega) (by simp only [List.getElem_cons_zero]; omega) ?_)) (fun e => idxW_of 0 rfl (by simp) ?_)))
    · simp only [stF] at h
      rw [if_pos (by simpa using e)] at h
      exact h
    · simp only [stF] at h
      rw [if_neg (by simpa using e)] at h
      exact h
theorem stF_spec {l : List GSpan} {c top : Int} (h : NF l) (hb : ∀ s ∈ l, s.xHi ≤ top) (hc : c ≤ top) (hf : ∀ s ∈ l.head?, c ≤ s.xHi) :
    c ≤ (stF l c top).2 ∧ (stF l c top).2 ≤ top ∧ ∀ x, c ≤ x → x ≤ (stF l c top).2 → (hv l x ↔ (stF l c top).1 = true) := by
  cases l with
  | nil => exact ⟨hc, Int.le_refl _, fun x _ _ => by simp [stF, hv_nil]⟩
  | cons s l =>
    have h0 := hb s (by simp)
    have h1 := h.1 s (by simp)
    have h2 := hf s (by simp)
    unfold stF
    simp only
    split
    · refine ⟨by simp only; omega, by simp only; omega, fun x q1 q2 => ?_⟩
      simp only at q2
      simp only [Bool.false_eq_true, iff_false]
      intro hh
      have := NF_head h hh
      omega
    · refine ⟨h2, h0, fun x q1 q2 => ?_⟩
      simp only at q2
      simp only [iff_true]
      exact (hv_cons _ _ _).2 (.inl ⟨by omega, q2⟩)
theorem NF_drop : ∀ {a : List GSpan} (i : Nat), NF a → NF (a.drop i) := fun {a} i h => ⟨fun s hs => h.1 s (List.mem_of_mem_drop hs), h.2.drop⟩
theorem drop_head {a : List GSpan} {i : Nat} {c : Int} (h : ∀ q : i < a.length, c ≤ a[i].xHi) : ∀ s ∈ (a.drop i).head?, c ≤ s.xHi := by
  intro s hs
  rw [List.head?_drop] at hs
  obtain ⟨hlt, e⟩ := List.getElem?_eq_some_iff.1 hs
  rw [← e]; exact h hlt
/-- the sweep with any way to keep -/
theorem sweep_loop (keep : Bool → Bool → Bool) {a b : List GSpan} {top : Int} (ha : St a top) (hb : St b top) (ht0 : -2 ≤ top) (ht : top ≤ 65535) {κ : List GSpan → Prop}
    (hκ : ∀ r, St r top → (∀ x, 0 ≤ x → x ≤ top → (hv r x ↔ keep (decide (hv a x)) (decide (hv b x)) = true)) → κ r)
    (K : Bool → Bool → (Bool → Prop) → Prop) (hK : ∀ p q φ, φ (keep p q) → K p q φ)
    (F : (List GSpan × Int × Int × Int → Prop) → List GSpan × Int × Int × Int → Prop)
    (hF : ∀ nx xs8 t11 t12 t13, (ifW (decide (t13 ≤ top)) (loopW (fun (nx16 : Int → Prop) (t15 : Int) => jnW (fun (t79 : Bool) => ifW t79 (addW t15 1 (fun t81 => nx16 t81)) (loopW (fun (nx83 : Int → Prop) (t82 : Int) => jnW (fun (t146 : Bool) => ifW t146 (addW t82 1 (fun t148 => nx83 t148)) (sliceW a t15 (a.length : Int) (fun xs150 => L_impl_stretch xs150 t13 top (fun (r153, r154) => sliceW b t82 (b.length : Int) (fun xs156 => L_impl_stretch xs156 t13 top (fun (r159, r160) => jnW (fun (xs296 : (List GSpan)) => addW (min r154 r160) 1 (fun t300 => nx (xs296, t15, t82, t300))) (fun k299 => K r153 r159 (fun r161 => ifW r161 (jnW (fun (t226 : Bool) => ifW t226 (subW (xs8.length : Int) 1 (fun t228 => idxW xs8 t228 (fun e229 => k299 (xs8.set (t228).toNat (GSpan.mk e229.xLo (min r154 r160)))))) (appW xs8 ([(GSpan.mk t13 (min r154 r160))]) (fun _ => k299 (xs8 ++ ([(GSpan.mk t13 (min r154 r160))]))))) (fun k227 => ifW (decide (0 < (xs8.length : Int))) (subW (xs8.length : Int) 1 (fun t162 => idxW xs8 t162 (fun e163 => addW e163.xHi 1 (fun t165 => k227 (decide (t165 = t13)))))) (k227 false))) (k299 xs8))))))))) (fun k147 => ifW (decide (t82 < (b.length : Int))) (idxW b t82 (fun e84 => k147 (decide (e84.xHi < t13)))) (k147 false))) t12)) (fun k80 => ifW (decide (t15 < (a.length : Int))) (idxW a t15 (fun e17 => k80 (decide (e17.xHi < t13)))) (k80 false))) t11) (κ xs8)) → F nx (xs8, t11, t12, t13)) :
    loopW F ([], 0, 0, 0) := by
  have la := St_len ha ht0
  have lb := St_len hb ht0
  refine loopW_inv (fun (s : List GSpan × Int × Int × Int) => ∃ i j : Nat, s.2.1 = i ∧ s.2.2.1 = j ∧ i ≤ a.length ∧ j ≤ b.length ∧ 0 ≤ s.2.2.2 ∧ (top < s.2.2.2 → s.2.2.2 = top + 1 ∨ s.2.2.2 = 0) ∧ (∀ u ∈ a.take i, u.xHi < s.2.2.2) ∧ (∀ u ∈ b.take j, u.xHi < s.2.2.2) ∧ St s.1 top ∧ (∀ u ∈ s.1, u.xHi < s.2.2.2) ∧ (∀ x, 0 ≤ x → x < s.2.2.2 → (hv s.1 x ↔ keep (decide (hv a x)) (decide (hv b x)) = true)))
    (fun s => (top + 1 - s.2.2.2).toNat) ?_ ⟨0, 0, rfl, rfl, Nat.zero_le _, Nat.zero_le _, Int.le_refl _, fun _ => .inr rfl, by simp, by simp, St_nil _, by simp, fun x h1 h2 => by simp only at h2; omega⟩
  rintro ⟨out, _, _, c⟩ next ⟨i, j, rfl, rfl, hi, hj, hc0, hc1, hai, hbj, ho, hoc, hk⟩ hn
  simp only at hc0 hc1 hai hbj ho hoc hk
  have lo := St_len ho ht0
  refine hF _ _ _ _ _ (ifW_of (fun hc => ?_) (fun hc => ?_))
  rotate_left 1
  · have hc' : top < c := by simpa using hc
    refine hκ out ho (fun x h1 h2 => hk x h1 (by omega))
  have hc' : c ≤ top := by simpa using hc
  refine S_skip a c (by omega) hi hai _ (fun i' hi' hai' hai2 => ?_) _ (fun _ _ h => h)
  refine S_skip b c (by omega) hj hbj _ (fun j' hj' hbj' hbj2 => ?_) _ (fun _ _ h => h)
  have mema : ∀ s ∈ a.drop i', 0 ≤ s.xLo ∧ s.xHi ≤ top := fun s hs => ha.2 s (List.mem_of_mem_drop hs)
  have memb : ∀ s ∈ b.drop j', 0 ≤ s.xLo ∧ s.xHi ≤ top := fun s hs => hb.2 s (List.mem_of_mem_drop hs)
  refine ⟨by omega, by omega, by omega, ?_⟩
  rw [show (a.take (a.length : Int).toNat).drop (i' : Int).toNat = a.drop i' by simp]
  refine S_stretch (fun s hs => ⟨(mema s hs).1, by have := (mema s hs).2; omega⟩) (NF_drop _ ha.1) ?_
  obtain ⟨a1, a2, a3⟩ := stF_spec (NF_drop i' ha.1) (fun s hs => (mema s hs).2) hc' (drop_head hai2)
  generalize stF (a.drop i') c top = p at a1 a2 a3
  obtain ⟨inA, endA⟩ := p
  simp only at a1 a2 a3 ⊢
  refine ⟨by omega, by omega, by omega, ?_⟩
  rw [show (b.take (b.length : Int).toNat).drop (j' : Int).toNat = b.drop j' by simp]
  refine S_stretch (fun s hs => ⟨(memb s hs).1, by have := (memb s hs).2; omega⟩) (NF_drop _ hb.1) ?_
  obtain ⟨b1, b2, b3⟩ := stF_spec (NF_drop j' hb.1) (fun s hs => (memb s hs).2) hc' (drop_head hbj2)
  generalize stF (b.drop j') c top = p at b1 b2 b3
  obtain ⟨inB, endB⟩ := p
  simp only at b1 b2 b3 ⊢
  have hke : ∀ x, c ≤ x → x ≤ min endA endB → (keep (decide (hv a x)) (decide (hv b x)) = keep inA inB) := fun x q1 q2 => by
    have e1 : decide (hv a x) = inA := by
      have := a3 x q1 (by omega)
      rw [← hv_drop hai' q1] at this
      cases inA <;> simpa using this
    have e2 : decide (hv b x) = inB := by
      have := b3 x q1 (by omega)
      rw [← hv_drop hbj' q1] at this
      cases inB <;> simpa using this
    rw [e1, e2]
  unfold jnW
  generalize hm : min endA endB = m at hke ⊢
  have m1 : c ≤ m := by omega
  have m2 : m ≤ top := by omega
  -- the next state
  have fin : ∀ out', St out' top → (∀ u ∈ out', u.xHi ≤ m) → (∀ x, 0 ≤ x → x ≤ m → (hv out' x ↔ keep (decide (hv a x)) (decide (hv b x)) = true)) → addW m 1 (fun t300 => next (out', (i' : Int), (j' : Int), t300)) := fun out' h1 h2 h3 =>
    addW_of (by omega) (by omega) (hn _ ⟨i', j', rfl, rfl, hi', hj', by simp only; omega, fun _ => .inl (by simp only at *; omega), fun u hu => by have := hai' u hu; simp only; omega, fun u hu => by have := hbj' u hu; simp only; omega, h1, fun u hu => by have := h2 u hu; simp only; omega, fun x q1 q2 => h3 x q1 (by simp only at q2; omega)⟩ (by simp only; omega))
  refine hK _ _ _ (ifW_of (fun hkt => ?_) (fun hkf => ?_))
  · -- kept
    have app : (∀ u ∈ out, u.xHi + 1 < c) → appW out ([(GSpan.mk c m)]) (fun _ => addW m 1 (fun t300 => next (out ++ [GSpan.mk c m], (i' : Int), (j' : Int), t300))) := fun hg =>
      appW_of (by simp; omega) (fin _ ⟨NF_app ho.1 (NF_one (by simpa using m1)) (fun s hs t ht => by simp at ht; subst ht; exact hg s hs), fun s hs => by
        rcases List.mem_append.1 hs with q | q
        · exact ho.2 s q
        · simp at q; subst q; exact ⟨hc0, m2⟩⟩ (fun u hu => by
        rcases List.mem_append.1 hu with q | q
        · have := hoc u q; omega
        · simp at q; subst q; exact Int.le_refl _) (fun x q1 q2 => by
        rw [hv_app, hv_cons]
        simp only [hv_nil, or_false]
        by_cases hx : x < c
        · rw [← hk x q1 hx]
          constructor
          · rintro (q | q)
            · exact q
            · omega
          · exact .inl
        · rw [hke x (by omega) q2, hkt]
          simp only [iff_true]
          exact .inr ⟨by omega, q2⟩))
    refine ifW_of (fun hp => ?_) (fun hp => ?_)
    · -- out is not empty
      have hpos : 0 < out.length := by simpa using hp
      refine subW_of (by omega) (by omega) (idxW_of (out.length - 1) (by omega) (by omega) ?_)
      have hmem : out[out.length - 1] ∈ out := List.getElem_mem _
      have hlast := hoc _ hmem
      have hl0 := ho.2 _ hmem
      have hl1 := ho.1.1 _ hmem
      refine addW_of (by omega) (by omega) (ifW_of (fun hq => ?_) (fun hq => ?_))
      · have hq' : (out[out.length - 1]).xHi + 1 = c := by simpa using hq
        refine subW_of (by omega) (by omega) (idxW_of (out.length - 1) (by omega) (by omega) ?_)
        have hsplit : out = out.dropLast ++ [out[out.length - 1]] := by
          have := List.dropLast_concat_getLast (l := out) (by intro h; rw [h] at hpos; simp at hpos)
          rw [List.getLast_eq_getElem] at this
          exact this.symm
        generalize out[out.length - 1] = z at *
        have hset : out.set ((out.length : Int) - 1).toNat (GSpan.mk z.xLo m) = out.dropLast ++ [GSpan.mk z.xLo m] := by
          have e1 : ((out.length : Int) - 1).toNat = out.dropLast.length := by rw [List.length_dropLast]; omega
          rw [e1]
          conv => lhs; rw [hsplit]
          rw [List.dropLast_concat, List.set_append_right _ _ (Nat.le_refl _)]
          simp
        rw [hset]
        have hd : NF (out.dropLast ++ [z]) := by rw [← hsplit]; exact ho.1
        have hdp := List.pairwise_append.1 hd.2
        have hdm : ∀ u ∈ out.dropLast, u ∈ out := fun u hu => by rw [hsplit]; exact List.mem_append_left _ hu
        refine fin _ ⟨NF_app ⟨fun s hs => ho.1.1 s (hdm s hs), hdp.1⟩ (NF_one (by simp only; omega)) (fun s hs t ht => by simp at ht; subst ht; exact hdp.2.2 s hs z (by simp)), fun s hs => ?_⟩ (fun u hu => ?_) (fun x q1 q2 => ?_)
        · rcases List.mem_append.1 hs with q | q
          · exact ho.2 s (hdm s q)
          · simp at q; subst q; exact ⟨hl0.1, m2⟩
        · rcases List.mem_append.1 hu with q | q
          · have := hoc u (hdm u q); omega
          · simp at q; subst q; exact Int.le_refl _
        · have hold : hv out x ↔ hv out.dropLast x ∨ (z.xLo ≤ x ∧ x ≤ z.xHi) := by
            conv => lhs; rw [hsplit]
            rw [hv_app, hv_cons]; simp [hv_nil]
          rw [hv_app, hv_cons]
          simp only [hv_nil, or_false]
          by_cases hx : x < c
          · rw [← hk x q1 hx, hold]
            constructor
            · rintro (q | q)
              · exact .inl q
              · exact .inr ⟨q.1, by omega⟩
            · rintro (q | q)
              · exact .inl q
              · exact .inr ⟨q.1, by omega⟩
          · rw [hke x (by omega) q2, hkt]
            simp only [iff_true]
            exact .inr ⟨by omega, q2⟩
      · have hq' : (out[out.length - 1]).xHi + 1 ≠ c := by simpa using hq
        refine app (fun u hu => ?_)
        obtain ⟨t, ht, e⟩ := List.getElem_of_mem hu
        by_cases e0 : t = out.length - 1
        · subst e0; rw [← e]; omega
        · have hpw := List.pairwise_iff_getElem.1 ho.1.2 t (out.length - 1) ht (by omega) (by omega)
          rw [e] at hpw
          omega
    · have : out = [] := by
        have : ¬ 0 < out.length := by simpa using hp
        exact List.eq_nil_of_length_eq_zero (by omega)
      subst this
      exact ifW_f (app (by simp))
  · refine fin out ho (fun u hu => by have := hoc u hu; omega) (fun x q1 q2 => ?_)
    by_cases hx : x < c
    · exact hk x q1 hx
    · rw [hke x (by omega) q2, hkf]
      simp only [Bool.false_eq_true, iff_false]
      rintro ⟨u, hu, r1, r2⟩
      have := hoc u hu
      omega


end
section
open Go Go.Proofs

theorem S_inBoth {p q : Bool} {κ : Bool → Prop} (h : κ (p && q)) : L_impl_inBoth p q κ := by
  unfold L_impl_inBoth jnW; cases p <;> simpa using h
theorem S_inFirstOnly {p q : Bool} {κ : Bool → Prop} (h : κ (p && !q)) : L_impl_inFirstOnly p q κ := by
  unfold L_impl_inFirstOnly jnW; cases p <;> simpa using h
theorem S_sweep_both {a b : List GSpan} {top : Int} (ha : St a top) (hb : St b top) (h0 : -2 ≤ top) (ht : top ≤ 65535) {κ : List GSpan → Prop} (h : κ (meetF a b)) : L_impl_sweepSpans__impl_inBoth a b top κ := by
  unfold L_impl_sweepSpans__impl_inBoth
  refine sweep_loop (fun p q => p && q) ha hb h0 ht (κ := κ) (fun r hr hk => ?_) (fun p q φ => L_impl_inBoth p q φ) (fun p q φ => S_inBoth) _ (fun _ _ _ _ _ h => h)
  rw [St_eq hr (meetF_St ha hb.1) (fun x => ?_)]
  · exact h
  · rw [meetF_hv]
    by_cases hx : 0 ≤ x ∧ x ≤ top
    · rw [hk x hx.1 hx.2]; simp
    · exact ⟨fun e => absurd (hv_range hr e) hx, fun e => absurd (hv_range ha e.1) hx⟩
theorem S_sweep_first {a b : List GSpan} {top : Int} (ha : St a top) (hb : St b top) (h0 : -2 ≤ top) (ht : top ≤ 65535) {κ : List GSpan → Prop} (h : κ (meetF a (otherF b top))) : L_impl_sweepSpans__impl_inFirstOnly a b top κ := by
  unfold L_impl_sweepSpans__impl_inFirstOnly
  refine sweep_loop (fun p q => p && !q) ha hb h0 ht (κ := κ) (fun r hr hk => ?_) (fun p q φ => L_impl_inFirstOnly p q φ) (fun p q φ => S_inFirstOnly) _ (fun _ _ _ _ _ h => h)
  rw [St_eq hr (meetF_St ha (otherF_St hb).1) (fun x => ?_)]
  · exact h
  · rw [meetF_hv, otherF_hv hb]
    by_cases hx : 0 ≤ x ∧ x ≤ top
    · rw [hk x hx.1 hx.2]; simp [hx.1, hx.2]
    · exact ⟨fun e => absurd (hv_range hr e) hx, fun e => absurd (hv_range ha e.1) hx⟩
/-- a set, if it has not too many ranges -/
def lim (l : List GSpan) : List GSpan × Bool := if 40 < l.length then ([], false) else (l, true)
theorem S_limitSpans {l : List GSpan} {κ : List GSpan × Bool → Prop} (h : κ (lim l)) : L_impl_limitSpans l κ := by
  unfold L_impl_limitSpans
  unfold lim at h
  refine ifW_of (fun hc => ?_) (fun hc => ?_)
  · rw [if_pos (by have := of_decide_eq_true hc; omega)] at h; exact h
  · rw [if_neg (by have := of_decide_eq_false hc; omega)] at h; exact h
theorem S_meetSpans {a b : List GSpan} {top : Int} (ha : St a top) (hb : St b top) (h0 : -2 ≤ top) (ht : top ≤ 65535) {κ : List GSpan × Bool → Prop} (h : κ (lim (meetF a b))) : L_impl_meetSpans a b top κ := by
  unfold L_impl_meetSpans
  exact S_sweep_both ha hb h0 ht (S_limitSpans h)
theorem S_lessSpans {a b : List GSpan} {top : Int} (ha : St a top) (hb : St b top) (h0 : -2 ≤ top) (ht : top ≤ 65535) {κ : List GSpan × Bool → Prop} (h : κ (lim (meetF a (otherF b top)))) : L_impl_lessSpans a b top κ := by
  unfold L_impl_lessSpans
  exact S_sweep_first ha hb h0 ht (S_limitSpans h)
theorem cap_len {x : GSpan} : ∀ (b : List GSpan), (b.flatMap (cap1 x)).length ≤ b.length
  | [] => by simp
  | y :: b => by
    have := cap_len (x := x) b
    have h1 : (cap1 x y).length ≤ 1 := by unfold cap1; split <;> simp
    simp only [List.flatMap_cons, List.length_append, List.length_cons]
    omega
theorem S_l2Meet {a b : List GSpan} {ta tb : Int} (ha : St a ta) (hb : St b tb) (h0 : 0 ≤ ta) (ht : ta ≤ 65535) (h1 : 0 ≤ tb) (hu : tb ≤ 65535) {κ : List GSpan → Prop} (h : κ (meetF a b)) : L_spec_l2Meet a b κ := by
  have la := St_len ha (by omega)
  have lb := St_len hb (by omega)
  -- what is built so far is short
  have short : ∀ k, 2 * ((meetF (a.take k) b).length : Int) ≤ ta + 2 := fun k =>
    St_len (meetF_St ⟨⟨fun s hs => ha.1.1 s (List.mem_of_mem_take hs), ha.1.2.take⟩, fun s hs => ha.2 s (List.mem_of_mem_take hs)⟩ hb.1) (by omega)
  unfold L_spec_l2Meet
  refine count_loop a.length (fun s => s.2) (fun k s => s.2 = (k : Int) ∧ k ≤ a.length ∧ s.1 = meetF (a.take k) b) (fun k s h => h.1) (fun k s h => h.2.1) ?_ ⟨rfl, Nat.zero_le _, by simp [meetF]⟩
  rintro k ⟨xs, t⟩ next ⟨rfl, hk, hx⟩ hn
  simp only at hx
  subst hx
  refine ifW_of (fun hc => ?_) (fun hc => ?_)
  · have hlt : k < a.length := by simpa using hc
    have hmem : a[k] ∈ a := List.getElem_mem hlt
    have r1 := ha.2 _ hmem
    refine count_loop b.length (fun s => s.2) (fun j s => s.2 = (j : Int) ∧ j ≤ b.length ∧ s.1 = meetF (a.take k) b ++ (b.take j).flatMap (cap1 a[k])) (fun k s h => h.1) (fun k s h => h.2.1) ?_ ⟨rfl, Nat.zero_le _, by simp⟩
    rintro j ⟨ys, u⟩ next2 ⟨rfl, hj, hy⟩ hn2
    simp only at hy
    subst hy
    refine ifW_of (fun hd => ?_) (fun hd => ?_)
    · have hlt2 : j < b.length := by simpa using hd
      have hstep : (b.take (j + 1)).flatMap (cap1 a[k]) = (b.take j).flatMap (cap1 a[k]) ++ cap1 a[k] b[j] := by
        rw [List.take_succ_eq_append_getElem hlt2, List.flatMap_append]; simp
      have hlen := cap_len (x := a[k]) (b.take j)
      have := short k
      simp only [List.length_take] at hlen
      unfold jnW
      refine idxW_of k rfl hlt (idxW_of j rfl hlt2 (idxW_of k rfl hlt (idxW_of j rfl hlt2 (ifW_of (fun he => ?_) (fun he => ?_)))))
      · refine appW_of (by simp only [List.length_append, List.length_singleton]; omega) (addW_of (by omega) (by omega) (hn2 hlt2 _ ⟨by simp, by omega, ?_⟩))
        rw [hstep]
        unfold cap1 at *
        rw [if_pos (by simpa using he)]
        simp
      · refine addW_of (by omega) (by omega) (hn2 hlt2 _ ⟨by simp, by omega, ?_⟩)
        rw [hstep]
        have : cap1 a[k] b[j] = [] := by unfold cap1; rw [if_neg (by simpa using he)]
        rw [this]; simp
    · have hge : b.length ≤ j := by simpa using hd
      have e : j = b.length := by omega
      subst e
      refine addW_of (by omega) (by omega) (hn hlt _ ⟨by simp, by omega, ?_⟩)
      have e2 : meetF (a.take k ++ [a[k]]) b = meetF (a.take k) b ++ b.flatMap (cap1 a[k]) := by simp only [meetF, List.flatMap_append, List.flatMap_cons, List.flatMap_nil, List.append_nil]
      show meetF (a.take k) b ++ (b.take b.length).flatMap (cap1 a[k]) = _
      rw [List.take_succ_eq_append_getElem hlt, e2, List.take_length]
  · have hge : a.length ≤ k := by simpa using hc
    rw [List.take_of_length_le hge]; exact h
theorem S_l2Other {a : List GSpan} {top : Int} (ha : St a top) (h0 : 0 ≤ top) (ht : top ≤ 65535) {κ : List GSpan → Prop} (h : κ (otherF a top)) : L_spec_l2Other a top κ := by
  have la := St_len ha (by omega)
  have lo := St_len (otherF_St ha) (by omega)
  unfold L_spec_l2Other
  refine count_loop a.length (fun s => s.2.2) (fun k s => s.2.2 = (k : Int) ∧ k ≤ a.length ∧ s.1 ++ otherGo (a.drop k) s.2.1 top = otherF a top ∧ 0 ≤ s.2.1 ∧ s.2.1 ≤ 65536) (fun k s h => h.1) (fun k s h => h.2.1) ?_ ⟨rfl, Nat.zero_le _, by simp [otherF], by simp, by simp⟩
  rintro k ⟨xs, c, t⟩ next ⟨rfl, hk, hx, hc0, hc1⟩ hn
  simp only at hx hc0 hc1
  have hlen : xs.length ≤ (otherF a top).length := by rw [← hx]; simp
  refine ifW_of (fun hc => ?_) (fun hc => ?_)
  · have hlt : k < a.length := by simpa using hc
    have hmem : a[k] ∈ a := List.getElem_mem hlt
    have r1 := ha.2 _ hmem
    have r2 := ha.1.1 _ hmem
    rw [List.drop_eq_getElem_cons hlt] at hx
    simp only [otherGo] at hx
    unfold jnW
    refine idxW_of k rfl hlt (ifW_of (fun he => ?_) (fun he => ?_))
    · rw [if_pos (by simpa using he)] at hx
      refine idxW_of k rfl hlt (subW_of (by omega) (by omega) (appW_of (by simp only [List.length_singleton]; omega) (idxW_of k rfl hlt (addW_of (by omega) (by omega) (addW_of (by omega) (by omega) (hn hlt _ ⟨by simp, by omega, ?_, by simp only; omega, by simp only; omega⟩))))))
      simpa [List.append_assoc] using hx
    · rw [if_neg (by simpa using he)] at hx
      refine idxW_of k rfl hlt (addW_of (by omega) (by omega) (addW_of (by omega) (by omega) (hn hlt _ ⟨by simp, by omega, ?_, by simp only; omega, by simp only; omega⟩)))
      simpa using hx
  · have hge : a.length ≤ k := by simpa using hc
    rw [List.drop_eq_nil_of_le hge] at hx
    simp only [otherGo] at hx
    unfold jnW
    refine ifW_of (fun he => ?_) (fun he => ?_)
    · rw [if_pos (by simpa using he)] at hx
      refine appW_of (by simp only [List.length_singleton]; omega) ?_
      rw [hx]; exact h
    · rw [if_neg (by simpa using he), List.append_nil] at hx
      rw [hx]; exact h
/-- numbers far from the ends of the range -/
def Sm (s : GSpan) : Prop := -1000000000 ≤ s.xLo ∧ s.xLo ≤ 1000000000 ∧ -1000000000 ≤ s.xHi ∧ s.xHi ≤ 1000000000
theorem S_l1Add {l : List GSpan} {s : GSpan} (hl : l.length ≤ 1000000000) (hb : ∀ x ∈ l, Sm x) (hs : Sm s) {κ : List GSpan → Prop} (h : κ (add1 l s)) : L_spec_l1Add l s κ := by
  unfold L_spec_l1Add
  refine count_loop l.length (fun s => s.2.2.2.2) (fun k (st : Int × Int × List GSpan × Bool × Int) => st.2.2.2.2 = (k : Int) ∧ k ≤ l.length ∧ addS l s [] false = addS (l.drop k) (GSpan.mk st.1 st.2.1) st.2.2.1 st.2.2.2.1 ∧ st.2.2.1.length ≤ 2 * k ∧ Sm (GSpan.mk st.1 st.2.1)) (fun k s h => h.1) (fun k s h => h.2.1) ?_ ⟨rfl, Nat.zero_le _, by simp, by simp, hs⟩
  rintro k ⟨lo, hi, xs, pl, t⟩ next ⟨rfl, hk, hx, hlen, hsm⟩ hn
  simp only at hx hlen hsm
  obtain ⟨m1, m2, m3, m4⟩ := hsm
  simp only at m1 m2 m3 m4
  refine ifW_of (fun hc => ?_) (fun hc => ?_)
  · have hlt : k < l.length := by simpa using hc
    obtain ⟨n1, n2, n3, n4⟩ := hb _ (List.getElem_mem hlt)
    rw [List.drop_eq_getElem_cons hlt] at hx
    simp only [addS] at hx
    unfold jnW
    refine idxW_of k rfl hlt (addW_of (by omega) (by omega) (ifW_of (fun he => ?_) (fun he => ?_)))
    · rw [if_pos (by simpa using he)] at hx
      exact appW_of (by simp only [List.length_singleton]; omega) (addW_of (by omega) (by omega) (hn hlt _ ⟨by simp, by omega, hx, by simp only [List.length_append, List.length_singleton]; omega, m1, m2, m3, m4⟩))
    · rw [if_neg (by simpa using he)] at hx
      refine addW_of (by omega) (by omega) (ifW_of (fun hf => ?_) (fun hf => ?_))
      · rw [if_pos (by simpa using hf)] at hx
        cases pl with
        | false =>
          refine ifW_t (appW_of (by simp only [List.length_singleton]; omega) (appW_of (by simp only [List.length_append, List.length_singleton]; omega) (addW_of (by omega) (by omega) (hn hlt _ ⟨by simp, by omega, hx, by simp only [List.length_append, List.length_singleton]; omega, m1, m2, m3, m4⟩))))
        | true =>
          refine ifW_f (appW_of (by simp only [List.length_singleton]; omega) (addW_of (by omega) (by omega) (hn hlt _ ⟨by simp, by omega, hx, by simp only [List.length_append, List.length_singleton]; omega, m1, m2, m3, m4⟩)))
      · rw [if_neg (by simpa using hf)] at hx
        exact addW_of (by omega) (by omega) (hn hlt _ ⟨by simp, by omega, hx, by simp only; omega, by simp only; omega, by simp only; omega, by simp only; omega, by simp only; omega⟩)
  · have hge : l.length ≤ k := by simpa using hc
    rw [List.drop_eq_nil_of_le hge] at hx
    simp only [addS] at hx
    unfold add1 at h
    rw [hx] at h
    unfold jnW
    cases pl with
    | false => exact ifW_t (appW_of (by simp only [List.length_singleton]; omega) (by simpa using h))
    | true => exact ifW_f (by simpa using h)


end
section
open Go.Lib (decDigits)

def B (l : List UInt8) : ByteArray := ByteArray.mk l.toArray
/-- a digit -/
def dg (c : UInt8) : Bool := decide (48 ≤ c.toNat) && decide (c.toNat ≤ 57)
def val (l : List UInt8) : Nat := l.foldl (fun n c => 10 * n + (c.toNat - 48)) 0
/-- the number at the head of a text: at most six digits -/
def run : Nat → List UInt8 → List UInt8
  | 0, _ => []
  | _, [] => []
  | k + 1, c :: l => if dg c then c :: run k l else []
end
section


theorem u8_lt (e : UInt8) : (0 : Int) ≤ (e.toNat : Int) ∧ (e.toNat : Int) ≤ 255 := by
  have := e.toNat_lt
  omega
theorem xorW_of {x y : Int} {κ : Int → Prop} (h1 : 0 ≤ x) (h2 : x < 4611686018427387904) (h3 : 0 ≤ y) (h4 : y < 4611686018427387904) (h : ∀ z, 0 ≤ z → z < 4611686018427387904 → κ z) : xorW x y κ := by
  refine ⟨h1, h2, h3, h4, h _ (by omega) ?_⟩
  have : x.toNat ^^^ y.toNat < 2 ^ 62 := Nat.xor_lt_two_pow (by omega) (by omega)
  have e : (2 : Nat) ^ 62 = 4611686018427387904 := by decide
  rw [e] at this
  omega
theorem remW_lt {x y : Int} {κ : Int → Prop} (h1 : 0 ≤ x) (h2 : x ≤ 9223372036854775807) (h3 : 0 < y) (h : ∀ z, 0 ≤ z → z < y → κ z) : remW x y κ :=
  remW_of h1 h2 h3 (h _ (Int.emod_nonneg _ (by omega)) (Int.emod_lt_of_pos _ h3))
theorem quoW_le {x y : Int} {κ : Int → Prop} (h1 : 0 ≤ x) (h2 : x ≤ 9223372036854775807) (h3 : 0 < y) (h : ∀ z, 0 ≤ z → z ≤ x → κ z) : quoW x y κ :=
  quoW_of h1 h2 h3 (h _ (Int.ediv_nonneg h1 (by omega)) (Int.ediv_le_self _ h1))
theorem idxW_any {α : Type} {xs : List α} {i : Int} {κ : α → Prop} (h1 : 0 ≤ i) (h2 : i < xs.length) (h : ∀ x, x ∈ xs → κ x) : idxW xs i κ := by
  obtain ⟨n, rfl⟩ := Int.eq_ofNat_of_zero_le h1
  have hn : n < xs.length := by omega
  exact idxW_of n rfl hn (h _ (List.getElem_mem hn))

/-- the reader stands at p of the bytes b -/
def RdP (b : List UInt8) (p : Int) : Prop := b.length ≤ 2000 ∧ 0 ≤ p ∧ p ≤ 1000000

theorem S_pick {b : List UInt8} {p n : Int} (hr : RdP b p) {κ : Int × Int → Prop} (h : ∀ v, 0 ≤ v → (v = 0 ∨ v < n) → κ (v, p + 1)) : L_spec_l20Rd_pick b p n κ := by
  obtain ⟨hb, h0, h1⟩ := hr
  unfold L_spec_l20Rd_pick jnW
  have hz : κ (0, p + 1) := h 0 (Int.le_refl _) (.inl rfl)
  refine addW_of (by omega) (by omega) (ifW_of (fun hc => ?_) (fun hc => ifW_of (fun hc2 => ?_) (fun hc2 => ?_)))
  · simp only [ifW_true]; exact hz
  · exact hz
  · simp at hc hc2
    have hpos : 0 < (b.length : Int) := by
      cases b with
      | nil => simp at hc2
      | cons x l => simp
    refine subW_of (by omega) (by omega) ?_
    have ep : p + 1 - 1 = p := by omega
    rw [ep]
    refine ifW_of (fun hc3 => ?_) (fun hc3 => ?_)
    · simp at hc3
      refine idxW_any h0 hc3 (fun e _ => ?_)
      have := u8_lt e
      exact remW_lt (by omega) (by omega) (by omega) (fun z z1 z2 => h z z1 (.inr z2))
    · refine remW_lt h0 (by omega) hpos (fun z z1 z2 => idxW_any z1 z2 (fun e _ => ?_))
      have he := u8_lt e
      refine mulW_of (by omega) (by omega) (mulW_of (by omega) (by omega) (addW_of (by omega) (by omega) (remW_lt (by omega) (by omega) hpos (fun y y1 y2 => idxW_any y1 y2 (fun d _ => ?_)))))
      have hd := u8_lt d
      refine mulW_of (by omega) (by omega) (addW_of (by omega) (by omega) (mulW_of (by omega) (by omega) (addW_of (by omega) (by omega) (quoW_le (by omega) (by omega) hpos (fun q q1 q2 => ?_)))))
      refine mulW_of (by omega) (by omega) (addW_of (by omega) (by omega) (quoW_le (by omega) (by omega) (by omega) (fun r r1 r2 => ?_)))
      exact xorW_of (by omega) (by omega) (by omega) (by omega) (fun x x1 x2 => remW_lt x1 (by omega) (by omega) (fun z z1 z2 => h z z1 (.inr z2)))
theorem S_odd {b : List UInt8} {p n : Int} (hr : RdP b p) (hn : n ≤ 4294967296) {κ : Bool × Int → Prop} (h : ∀ c p', p ≤ p' → p' ≤ p + 1 → κ (c, p')) : L_spec_l20Rd_odd b p n κ := by
  unfold L_spec_l20Rd_odd jnW
  refine ifW_of (fun hc => S_pick hr (fun v v1 v2 => subW_of (by simp at hc; omega) (by simp at hc; omega) (h _ _ (by omega) (by omega)))) (fun hc => h _ _ (by omega) (by omega))

theorem S_l20Open {c : List UInt8} {κ : List UInt8 × Int → Prop} (h : ∀ b, b.length ≤ 2000 → κ (b, 0)) : L_spec_l20Open c κ := by
  unfold L_spec_l20Open jnW
  refine ifW_of (fun hc => ?_) (fun hc => ?_)
  · simp at hc
    refine ⟨by omega, by omega, by omega, h _ (by simp; omega)⟩
  · simp at hc
    exact h _ (by omega)
theorem S_alive {κ : Bool → Prop} (h : κ true) : L_laws_alive κ := by
  unfold L_laws_alive L_impl_SpansHave
  refine loopW_inv (fun s => s = 0) (fun s => 0) ?_ rfl
  rintro s next rfl hn
  refine ifW_of (fun _ => idxW_of 0 rfl (by simp) ?_) (fun hc => by simp at hc)
  simp [jnW]
  exact h


end
section
open Go.Lib (decDigits)

/-- a text before and behind the first of a sign -/
def cut (c : UInt8) : List UInt8 → List UInt8 × List UInt8
  | [] => ([], [])
  | d :: l => if d = c then ([], l) else (d :: (cut c l).1, (cut c l).2)
end
section
open Go.Lib (decDigits)

theorem S_l1In {n lo hi : Int} {κ : Bool → Prop} (h : κ (decide (lo ≤ n ∧ n ≤ hi))) : L_spec_l1In n lo hi κ := by
  unfold L_spec_l1In jnW
  refine ifW_of (fun hc => ?_) (fun hc => ?_)
  · simp at hc; simpa [hc] using h
  · simp at hc
    have : decide (lo ≤ n ∧ n ≤ hi) = false := by simp; omega
    rw [this] at h; exact h
/-! ### the reader of the program -/
end
section
open Go.Lib (decDigits)

theorem w64_small {x : Int} (h1 : -100 ≤ x) (h2 : x ≤ 100) : w64 x = x := by
  simp [w64, IntKind.wrap, IntKind.signed, IntKind.bits]; omega
theorem mem3 {α : Type} {x a b c : α} (h : x ∈ [a, b, c]) : x = a ∨ x = b ∨ x = c := by simpa using h
theorem RdP.step {b : List UInt8} {p p' : Int} {m : Int} (h : RdP b p) (h1 : p ≤ p') (h2 : p' ≤ 1000000) : RdP b p' := ⟨h.1, by have := h.2.1; omega, h2⟩


end
section
open Go.Lib (decDigits)

def top (f : Int) : Int := if f = 0 ∨ f = 1 then 65535 else if f = 2 then 255 else 7
theorem top_le (f : Int) : 7 ≤ top f ∧ top f ≤ 65535 := by unfold top; repeat' split
                                                           all_goals omega
def nm (f : Int) : List UInt8 := if f = 0 then [102, 114, 111, 109] else if f = 1 then [116, 111] else if f = 2 then [112, 111, 114, 116] else [112, 114, 111, 116, 111]
def TV (t : GTest) : Prop := 0 ≤ t.xField ∧ t.xField ≤ 3 ∧ 0 ≤ t.xLo ∧ t.xLo ≤ t.xHi ∧ t.xHi ≤ top t.xField
instance (t : GTest) : Decidable (TV t) := by unfold TV; infer_instance
/-- the part behind the name -/
def rtx (t : GTest) : List UInt8 := decDigits t.xLo.toNat ++ (if t.xHi = t.xLo then [] else 45 :: decDigits t.xHi.toNat)
def btx (t : GTest) : List UInt8 := nm t.xField ++ 32 :: rtx t
def ttx (t : GTest) : List UInt8 := if t.xNot then 110 :: 111 :: 116 :: 32 :: btx t else btx t
theorem four {f : Int} (h0 : 0 ≤ f) (h1 : f ≤ 3) : f = 0 ∨ f = 1 ∨ f = 2 ∨ f = 3 := by omega
theorem S_shape {n : Int} {κ : GFieldShape → Prop} (h0 : 0 ≤ n) (h1 : n ≤ 3) (h : ∀ e : GFieldShape, e.xName = B (nm n) → e.xTop = top n → κ e) : idxW gl_impl_fieldShapes n κ := by
  rcases four h0 h1 with rfl | rfl | rfl | rfl
  · exact idxW_of 0 rfl (by decide) (h _ rfl rfl)
  · exact idxW_of 1 rfl (by decide) (h _ rfl rfl)
  · exact idxW_of 2 rfl (by decide) (h _ rfl rfl)
  · exact idxW_of 3 rfl (by decide) (h _ rfl rfl)
theorem S_spec_FieldTop {n : Int} {κ : Int → Prop} (h0 : 0 ≤ n) (h1 : n ≤ 3) (h : κ (top n)) : L_spec_FieldTop n κ := by
  unfold L_spec_FieldTop jnW
  rcases four h0 h1 with rfl | rfl | rfl | rfl <;> simpa [top] using h
theorem S_impl_FieldTop {n : Int} {κ : Int → Prop} (h : κ (if 0 ≤ n ∧ n ≤ 3 then top n else -1)) : L_impl_FieldTop n κ := by
  unfold L_impl_FieldTop jnW
  refine ifW_of (fun hc => ?_) (fun hc => ifW_of (fun hc2 => ?_) (fun hc2 => ?_))
  · simp at hc; rw [if_neg (by omega)] at h; simpa using h
  · simp at hc hc2; rw [if_neg (by omega)] at h; exact h
  · simp at hc hc2; rw [if_pos (by omega)] at h
    exact S_shape (by omega) (by omega) (fun e _ he => by rw [he]; exact h)
theorem S_spec_TestValid {t : GTest} {κ : Bool → Prop} (h : κ (decide (TV t))) : L_spec_TestValid t κ := by
  unfold L_spec_TestValid jnW
  refine S_l1In (ifW_of (fun hc => ?_) (fun hc => ?_))
  · simp at hc
    refine S_l1In (ifW_of (fun hc2 => ?_) (fun hc2 => ?_))
    · simp at hc2
      refine S_spec_FieldTop hc.1 hc.2 ?_
      rw [show decide (t.xHi ≤ top t.xField) = decide (TV t) from decide_eq_decide.2 ⟨fun hh => ⟨hc.1, hc.2, hc2.1, hc2.2, hh⟩, fun hh => hh.2.2.2.2⟩]
      exact h
    · simp at hc2
      rw [decide_eq_false (fun hh : TV t => by obtain ⟨a1, a2, a3, a4, _⟩ := hh; omega)] at h; exact h
  · simp at hc
    rw [decide_eq_false (fun hh : TV t => by obtain ⟨a1, a2, a3, a4, _⟩ := hh; omega)] at h; exact h
end
section
open Go Go.Proofs

/-- the smallest common number -/
def firstC (a b : List GSpan) : Int × Bool :=
  match meetF a b with
  | [] => (0, false)
  | s :: _ => (s.xLo, true)
theorem firstC_of {a b : List GSpan} (ha : NF a) (hb : NF b) {v : Int} (h1 : hv a v) (h2 : hv b v) (h3 : ∀ x, hv a x → hv b x → v ≤ x) : firstC a b = (v, true) := by
  have hm := meetF_NF ha hb
  unfold firstC
  have hv0 := (meetF_hv a b v).2 ⟨h1, h2⟩
  have hall : ∀ x, hv (meetF a b) x → v ≤ x := fun x hx => by
    obtain ⟨e1, e2⟩ := (meetF_hv a b x).1 hx
    exact h3 x e1 e2
  generalize meetF a b = m at hm hv0 hall
  cases m with
  | nil => exact absurd hv0 (hv_nil v)
  | cons s m =>
    have e1 := hall s.xLo ((hv_cons _ _ _).2 (.inl ⟨Int.le_refl _, hm.1 s (by simp)⟩))
    have e2 := NF_head hm hv0
    simp only [Prod.mk.injEq, and_true]
    omega
theorem firstC_none {a b : List GSpan} (h : ∀ x, hv a x → hv b x → False) (ha : NF a) (hb : NF b) : firstC a b = (0, false) := by
  unfold firstC
  have hm := meetF_NF ha hb
  have hall : ∀ x, ¬ hv (meetF a b) x := fun x hx => by
    obtain ⟨e1, e2⟩ := (meetF_hv a b x).1 hx
    exact h x e1 e2
  generalize meetF a b = m at hm hall
  cases m with
  | nil => rfl
  | cons s m => exact absurd ((hv_cons s m s.xLo).2 (.inl ⟨Int.le_refl _, hm.1 s (by simp)⟩)) (hall _)
theorem hv_step {a : List GSpan} {i : Nat} (h : i < a.length) (x : Int) : hv (a.drop i) x ↔ (a[i].xLo ≤ x ∧ x ≤ a[i].xHi) ∨ hv (a.drop (i + 1)) x := by
  rw [List.drop_eq_getElem_cons h, hv_cons]
theorem NF_dropge {a : List GSpan} {i : Nat} (hn : NF a) (h : i < a.length) {x : Int} (hx : hv (a.drop i) x) : a[i].xLo ≤ x := by
  have := NF_drop i hn
  rw [List.drop_eq_getElem_cons h] at this hx
  exact NF_head this hx
theorem S_firstCommon {a b : List GSpan} {ta tb : Int} (ha : St a ta) (hb : St b tb) (h0 : 0 ≤ ta) (ht : ta ≤ 65535) (h1 : 0 ≤ tb) (hu : tb ≤ 65535) {κ : Int × Bool → Prop} (h : κ (firstC a b)) : L_impl_firstCommon a b κ := by
  have la := St_len ha (by omega)
  have lb := St_len hb (by omega)
  unfold L_impl_firstCommon
  refine loopW_inv (fun (s : Int × Int) => ∃ i j : Nat, s.1 = i ∧ s.2 = j ∧ i ≤ a.length ∧ j ≤ b.length ∧ ∀ x, hv a x → hv b x → hv (a.drop i) x ∧ hv (b.drop j) x) (fun s => (a.length + b.length - s.1 - s.2).toNat) ?_ ⟨0, 0, rfl, rfl, Nat.zero_le _, Nat.zero_le _, fun x q1 q2 => ⟨by simpa using q1, by simpa using q2⟩⟩
  rintro ⟨_, _⟩ next ⟨i, j, rfl, rfl, hi, hj, hx⟩ hn
  simp only at hn ⊢
  unfold jnW
  have none : (i = a.length ∨ j = b.length) → κ (0, false) := fun hh => by
    rw [firstC_none (fun x q1 q2 => ?_) ha.1 hb.1] at h
    · exact h
    · obtain ⟨r1, r2⟩ := hx x q1 q2
      rcases hh with e | e
      · subst e; rw [List.drop_length] at r1; exact hv_nil x r1
      · subst e; rw [List.drop_length] at r2; exact hv_nil x r2
  refine ifW_of (fun hc => ?_) (fun hc => ?_)
  rotate_left 1
  · have : a.length ≤ i := by simpa using hc
    exact ifW_f (none (.inl (by omega)))
  have hi2 : i < a.length := by simpa using hc
  refine ifW_of (fun hd => ?_) (fun hd => ?_)
  rotate_left 1
  · have : b.length ≤ j := by simpa using hd
    exact none (.inr (by omega))
  have hj2 : j < b.length := by simpa using hd
  have a1 := ha.1.1 _ (List.getElem_mem hi2)
  have b1 := hb.1.1 _ (List.getElem_mem hj2)
  have ma : hv a a[i].xLo ∧ hv a a[i].xHi := NF_ends ha.1 (List.getElem_mem hi2)
  have mb : hv b b[j].xLo ∧ hv b b[j].xHi := NF_ends hb.1 (List.getElem_mem hj2)
  refine idxW_of i rfl hi2 (idxW_of j rfl hj2 (idxW_of i rfl hi2 (idxW_of j rfl hj2 (ifW_of (fun he => ?_) (fun he => ?_)))))
  · have he' : max a[i].xLo b[j].xLo ≤ min a[i].xHi b[j].xHi := by simpa using he
    rw [firstC_of ha.1 hb.1 (v := max a[i].xLo b[j].xLo) ⟨a[i], List.getElem_mem hi2, by omega, by omega⟩ ⟨b[j], List.getElem_mem hj2, by omega, by omega⟩ (fun x q1 q2 => ?_)] at h
    · exact h
    · obtain ⟨r1, r2⟩ := hx x q1 q2
      have := NF_dropge ha.1 hi2 r1
      have := NF_dropge hb.1 hj2 r2
      omega
  · have he' : ¬ max a[i].xLo b[j].xLo ≤ min a[i].xHi b[j].xHi := by simpa using he
    refine idxW_of i rfl hi2 (idxW_of j rfl hj2 (ifW_of (fun hf => ?_) (fun hf => ?_)))
    · have hf' : a[i].xHi < b[j].xHi := by simpa using hf
      refine addW_of (by omega) (by omega) (hn _ ⟨i + 1, j, by simp, rfl, by omega, hj, fun x q1 q2 => ?_⟩ (by simp only; omega))
      obtain ⟨r1, r2⟩ := hx x q1 q2
      refine ⟨?_, r2⟩
      rcases (hv_step hi2 x).1 r1 with e | e
      · have := NF_dropge hb.1 hj2 r2; omega
      · exact e
    · have hf' : ¬ a[i].xHi < b[j].xHi := by simpa using hf
      refine addW_of (by omega) (by omega) (hn _ ⟨i, j + 1, rfl, by simp, hi, by omega, fun x q1 q2 => ?_⟩ (by simp only; omega))
      obtain ⟨r1, r2⟩ := hx x q1 q2
      refine ⟨r1, ?_⟩
      rcases (hv_step hj2 x).1 r2 with e | e
      · have := NF_dropge ha.1 hi2 r1; omega
      · exact e

-- boxes
/-- four sets, each for its field -/
def B4 (a : A4ListGSpan) : Prop := St a.x0 65535 ∧ St a.x1 65535 ∧ St a.x2 255 ∧ St a.x3 7
/-- none has too many ranges -/
def F4 (a : A4ListGSpan) : Prop := a.x0.length ≤ 40 ∧ a.x1.length ≤ 40 ∧ a.x2.length ≤ 40 ∧ a.x3.length ≤ 40
instance (a : A4ListGSpan) : Decidable (F4 a) := by unfold F4; infer_instance
def nil4 : A4ListGSpan := ⟨[], [], [], []⟩
def meet4 (a b : A4ListGSpan) : A4ListGSpan := ⟨meetF a.x0 b.x0, meetF a.x1 b.x1, meetF a.x2 b.x2, meetF a.x3 b.x3⟩
theorem meet4_B4 {a b : A4ListGSpan} (ha : B4 a) (hb : B4 b) : B4 (meet4 a b) := ⟨meetF_St ha.1 hb.1.1, meetF_St ha.2.1 hb.2.1.1, meetF_St ha.2.2.1 hb.2.2.1.1, meetF_St ha.2.2.2 hb.2.2.2.1⟩
def em4 (a : A4ListGSpan) : Bool := decide (a.x0 = [] ∨ a.x1 = [] ∨ a.x2 = [] ∨ a.x3 = [])
def all4 : A4ListGSpan := ⟨[⟨0, 65535⟩], [⟨0, 65535⟩], [⟨0, 255⟩], [⟨0, 7⟩]⟩
theorem all4_B4 : B4 all4 := by refine ⟨?_, ?_, ?_, ?_⟩ <;> exact ⟨NF_one (by decide), fun s hs => by simp only [all4, List.mem_singleton] at hs; subst hs; decide⟩
theorem S_empty4 {a : A4ListGSpan} {κ : Bool → Prop} (h : κ (em4 a)) : L_impl_sides_empty a κ := by
  obtain ⟨x0, x1, x2, x3⟩ := a
  simp only [em4] at h
  unfold L_impl_sides_empty
  refine ⟨5, ?_⟩
  refine ifW_t (idxW_of 0 rfl (by simp) (ifW_of (fun e => ?_) (fun e => addW_of (by decide) (by decide) ?_)))
  · have : x0 = [] := by simpa using e
    subst this; simpa using h
  have e0 : x0 ≠ [] := by simpa using e
  refine ifW_t (idxW_of 1 rfl (by simp) (ifW_of (fun e => ?_) (fun e => addW_of (by decide) (by decide) ?_)))
  · have : x1 = [] := by simpa using e
    subst this; simpa using h
  have e1 : x1 ≠ [] := by simpa using e
  refine ifW_t (idxW_of 2 rfl (by simp) (ifW_of (fun e => ?_) (fun e => addW_of (by decide) (by decide) ?_)))
  · have : x2 = [] := by simpa using e
    subst this; simpa using h
  have e2 : x2 ≠ [] := by simpa using e
  refine ifW_t (idxW_of 3 rfl (by simp) (ifW_of (fun e => ?_) (fun e => addW_of (by decide) (by decide) ?_)))
  · have : x3 = [] := by simpa using e
    subst this; simpa using h
  have e3 : x3 ≠ [] := by simpa using e
  refine ifW_f ?_
  simpa [e0, e1, e2, e3] using h
theorem S_top {n : Int} {κ : Int → Prop} (h0 : 0 ≤ n) (h1 : n ≤ 3) (h : κ (top n)) : L_impl_FieldTop n κ := S_impl_FieldTop (by rw [if_pos ⟨h0, h1⟩]; exact h)

end
section
open Go.Lib (decDigits)

/-- behind a test stands the end, or a comma -/
def Ends (r : List UInt8) : Prop := ∀ c m, r = c :: m → c = 44
theorem Ends.dg {r : List UInt8} (h : Ends r) : ∀ c m, r = c :: m → dg c = false := fun c m e => by rw [h c m e]; decide

end
section
open Go.Lib (decDigits)

/-- the word of an action -/
def aw (a : Int) : List UInt8 := if a = 1 then [97, 99, 99, 101, 112, 116] else if a = 2 then [100, 114, 111, 112] else if a = 3 then [99, 97, 108, 108] else if a = 4 then [114, 101, 116, 117, 114, 110] else [110, 111, 110, 101]
def TsV (ts : List GTest) : Prop := (∀ t, t ∈ ts → TV t) ∧ ts.length ≤ 6
instance (ts : List GTest) : Decidable (TsV ts) := by unfold TsV; infer_instance
def HV (a c : Int) : Prop := 1 ≤ a ∧ a ≤ 5 ∧ (a = 3 → 0 ≤ c ∧ c ≤ 4) ∧ (a ≠ 3 → c = 0)
instance (a c : Int) : Decidable (HV a c) := by unfold HV; infer_instance
def RV (r : GRule) : Prop := TsV r.xTests ∧ HV r.xAction r.xChain
instance (r : GRule) : Decidable (RV r) := by unfold RV; infer_instance
def hd (a c : Int) : List UInt8 := aw a ++ (if a = 3 then 32 :: decDigits c.toNat else [])
def tl (ts : List GTest) : List UInt8 := ts.flatMap (fun t => 44 :: 32 :: ttx t)
def rtx0 (r : GRule) : List UInt8 := hd r.xAction r.xChain ++ tl r.xTests
theorem S_spec_TestsValid {ts : List GTest} {κ : Bool → Prop} (hl : ts.length ≤ 4294967296) (h : κ (decide (TsV ts))) : L_spec_TestsValid ts κ := by
  unfold L_spec_TestsValid
  refine count_loop ts.length (fun s => s) (fun k s => s = (k : Int) ∧ k ≤ ts.length ∧ ∀ t, t ∈ ts.take k → TV t) (fun k s h => h.1) (fun k s h => h.2.1) ?_ ⟨rfl, Nat.zero_le _, by simp⟩
  rintro k _ next ⟨rfl, hk, he⟩ hn
  refine ifW_of (fun hc => ?_) (fun hc => ?_)
  · have hlt : k < ts.length := by simpa using hc
    refine idxW_of k rfl hlt (S_spec_TestValid (ifW_of (fun hc2 => ?_) (fun hc2 => ?_)))
    · simp at hc2
      rw [decide_eq_false (fun hh : TsV ts => hc2 (hh.1 _ (List.getElem_mem hlt)))] at h; exact h
    · simp at hc2
      refine addW_of (by omega) (by omega) (hn hlt _ ⟨by omega, by omega, fun t ht => ?_⟩)
      rw [List.take_succ_eq_append_getElem hlt] at ht
      rcases List.mem_append.1 ht with ht | ht
      · exact he t ht
      · rw [List.mem_singleton] at ht; subst ht; exact hc2
  · have hge : ts.length ≤ k := by simpa using hc
    rw [List.take_of_length_le hge] at he
    rw [show decide ((ts.length : Int) ≤ 6) = decide (TsV ts) from decide_eq_decide.2 ⟨fun hh => ⟨he, by omega⟩, fun hh => by have := hh.2; omega⟩]
    exact h
end
section


/-- chain i calls chain j -/
def Ca (cs : List (List GRule)) (i j : Nat) : Prop := ∃ c, cs[i]? = some c ∧ ∃ r, r ∈ c ∧ r.xAction = 3 ∧ r.xChain = (j : Int)
/-- no call leads back, from i on -/
def Sf (cs : List (List GRule)) (i : Nat) : Prop := Acc (fun j i => Ca cs i j) i
/-- a way by calls, at least one -/
inductive Wy (cs : List (List GRule)) : Nat → Nat → Prop
  | one {i j : Nat} : Ca cs i j → Wy cs i j
  | more {i j k : Nat} : Wy cs i j → Ca cs j k → Wy cs i k
theorem wy_first {cs : List (List GRule)} {i k : Nat} (w : Wy cs i k) : ∃ j, Ca cs i j ∧ (j = k ∨ Wy cs j k) := by
  induction w with
  | one h => exact ⟨_, h, .inl rfl⟩
  | more _ h ih =>
    obtain ⟨j, h1, h2⟩ := ih
    rcases h2 with rfl | h2
    · exact ⟨_, h1, .inr (.one h)⟩
    · exact ⟨_, h1, .inr (.more h2 h)⟩
theorem wy_loop {cs : List (List GRule)} {i : Nat} (hs : Sf cs i) : ¬ Wy cs i i := by
  induction hs with
  | intro x _ ih =>
    intro w
    obtain ⟨j, h1, h2⟩ := wy_first w
    rcases h2 with rfl | h2
    · exact ih _ h1 w
    · exact ih j h1 (.more h2 h1)

/-- every rule of every chain is valid, and calls a chain that is there -/
def Tg (cs : List (List GRule)) : Prop := cs.length ≤ 5 ∧ ∀ c, c ∈ cs → (c.length ≤ 8 ∧ ∀ r, r ∈ c → RV r ∧ r.xChain < cs.length)

/-- the same, whatever is called -/
def Tw (cs : List (List GRule)) : Prop := cs.length ≤ 5 ∧ ∀ c, c ∈ cs → (c.length ≤ 8 ∧ ∀ r, r ∈ c → RV r)
theorem Tg.w {cs : List (List GRule)} (h : Tg cs) : Tw cs := ⟨h.1, fun c hc => ⟨(h.2 c hc).1, fun r hr => ((h.2 c hc).2 r hr).1⟩⟩
end
section
open Go.Lib (decDigits)

def SV (s : GRuleset) : Prop := Tg s.xChains ∧ 1 ≤ s.xChains.length ∧ ∀ i, i < s.xChains.length → Sf s.xChains i
/-- lengths in range -/
def Bc (c : List GRule) : Prop := c.length ≤ 4294967296 ∧ ∀ r, r ∈ c → r.xTests.length ≤ 4294967296
def Bd (s : GRuleset) : Prop := s.xChains.length ≤ 4294967296 ∧ ∀ c, c ∈ s.xChains → Bc c
/-! texts -/
end
section
open Go Go.Proofs

theorem firstC_snd (a b : List GSpan) : (firstC a b).2 = false ↔ meetF a b = [] := by
  unfold firstC
  cases meetF a b <;> simp
/-- the first common packet -/
def fpk (a b : A4ListGSpan) : GPacket × Bool := if em4 (meet4 a b) then (⟨0, 0, 0, 0⟩, false) else (⟨(firstC a.x0 b.x0).1, (firstC a.x1 b.x1).1, (firstC a.x2 b.x2).1, (firstC a.x3 b.x3).1⟩, true)
theorem S_firstCommon4 {a b : A4ListGSpan} (ha : B4 a) (hb : B4 b) {κ : GPacket × Bool → Prop} (h : κ (fpk a b)) : L_impl_sides_firstCommon a b κ := by
  obtain ⟨a0, a1, a2, a3⟩ := a
  obtain ⟨b0, b1, b2, b3⟩ := b
  obtain ⟨p0, p1, p2, p3⟩ := ha
  obtain ⟨q0, q1, q2, q3⟩ := hb
  simp only at p0 p1 p2 p3 q0 q1 q2 q3
  have hF : meetF a0 b0 = [] ∨ meetF a1 b1 = [] ∨ meetF a2 b2 = [] ∨ meetF a3 b3 = [] → κ (⟨0, 0, 0, 0⟩, false) := fun e => by
    have : fpk ⟨a0, a1, a2, a3⟩ ⟨b0, b1, b2, b3⟩ = (⟨0, 0, 0, 0⟩, false) := if_pos (decide_eq_true e)
    rw [this] at h; exact h
  have hT : ¬ (meetF a0 b0 = [] ∨ meetF a1 b1 = [] ∨ meetF a2 b2 = [] ∨ meetF a3 b3 = []) → κ (⟨(firstC a0 b0).1, (firstC a1 b1).1, (firstC a2 b2).1, (firstC a3 b3).1⟩, true) := fun e => by
    have : fpk ⟨a0, a1, a2, a3⟩ ⟨b0, b1, b2, b3⟩ = (⟨(firstC a0 b0).1, (firstC a1 b1).1, (firstC a2 b2).1, (firstC a3 b3).1⟩, true) := if_neg (by rw [show em4 (meet4 ⟨a0, a1, a2, a3⟩ ⟨b0, b1, b2, b3⟩) = false from decide_eq_false e]; decide)
    rw [this] at h; exact h
  clear h
  unfold L_impl_sides_firstCommon
  refine ⟨5, ?_⟩
  refine ifW_t ?_
  unfold jnW
  refine idxW_of 0 rfl (by simp) (idxW_of 0 rfl (by simp) (S_firstCommon p0 q0 (by decide) (by decide) (by decide) (by decide) ?_))
  simp only [List.getElem_cons_zero, List.getElem_cons_succ]
  refine ifW_of (fun e => hF (.inl ((firstC_snd _ _).1 (by simpa using e)))) (fun e => ?_)
  have e0 : meetF a0 b0 ≠ [] := fun f => by have := (firstC_snd _ _).2 f; simp [this] at e
  refine idxW_of 0 rfl (by simp) (addW_of (by decide) (by decide) ?_)
  refine ifW_t ?_
  refine idxW_of 1 rfl (by simp) (idxW_of 1 rfl (by simp) (S_firstCommon p1 q1 (by decide) (by decide) (by decide) (by decide) ?_))
  simp only [List.getElem_cons_zero, List.getElem_cons_succ]
  refine ifW_of (fun e => hF (.inr (.inl ((firstC_snd _ _).1 (by simpa using e))))) (fun e => ?_)
  have e1 : meetF a1 b1 ≠ [] := fun f => by have := (firstC_snd _ _).2 f; simp [this] at e
  refine idxW_of 1 rfl (by simp) (addW_of (by decide) (by decide) ?_)
  refine ifW_t ?_
  refine idxW_of 2 rfl (by simp) (idxW_of 2 rfl (by simp) (S_firstCommon p2 q2 (by decide) (by decide) (by decide) (by decide) ?_))
  simp only [List.getElem_cons_zero, List.getElem_cons_succ]
  refine ifW_of (fun e => hF (.inr (.inr (.inl ((firstC_snd _ _).1 (by simpa using e)))))) (fun e => ?_)
  have e2 : meetF a2 b2 ≠ [] := fun f => by have := (firstC_snd _ _).2 f; simp [this] at e
  refine idxW_of 2 rfl (by simp) (addW_of (by decide) (by decide) ?_)
  refine ifW_t ?_
  refine idxW_of 3 rfl (by simp) (idxW_of 3 rfl (by simp) (S_firstCommon p3 q3 (by decide) (by decide) (by decide) (by decide) ?_))
  simp only [List.getElem_cons_zero, List.getElem_cons_succ]
  refine ifW_of (fun e => hF (.inr (.inr (.inr ((firstC_snd _ _).1 (by simpa using e)))))) (fun e => ?_)
  have e3 : meetF a3 b3 ≠ [] := fun f => by have := (firstC_snd _ _).2 f; simp [this] at e
  refine idxW_of 3 rfl (by simp) (addW_of (by decide) (by decide) ?_)
  refine ifW_f ?_
  refine ⟨_, _, _, _, rfl, ?_⟩
  unfold L_impl_packetOf
  refine idxW_of 0 rfl (by simp) (idxW_of 1 rfl (by simp) (idxW_of 2 rfl (by simp) (idxW_of 3 rfl (by simp) ?_)))
  exact hT (by rintro (f | f | f | f) <;> contradiction)
theorem fpk_snd (a b : A4ListGSpan) : (fpk a b).2 = !em4 (meet4 a b) := by
  unfold fpk; cases em4 (meet4 a b) <;> simp
theorem S_touches {a b : A4ListGSpan} (ha : B4 a) (hb : B4 b) {κ : Bool → Prop} (h : κ (!em4 (meet4 a b))) : L_impl_sides_touches a b κ := by
  unfold L_impl_sides_touches
  refine S_firstCommon4 ha hb ?_
  rw [← fpk_snd] at h; exact h
/-- what is left of a set -/
def lessF (a b : List GSpan) (t : Int) : List GSpan := meetF a (otherF b t)
end
section
open Go Go.Proofs

instance (l : List GSpan) : Decidable (NF l) := by unfold NF; infer_instance
instance (l : List GSpan) (t : Int) : Decidable (St l t) := by unfold St; infer_instance
theorem chain_NF : ∀ {ys : List GSpan}, (∀ s ∈ ys, s.xLo ≤ s.xHi) → (ys.Pairwise (fun a b => a.xHi + 1 < b.xLo) ↔ ∀ n, (h : n + 1 < ys.length) → ys[n].xHi + 1 < ys[n + 1].xLo)
  | [], _ => by simp
  | [s], _ => by simp
  | s :: t :: ys, h => by
    have ih := chain_NF (ys := t :: ys) (fun u hu => h u (List.mem_cons_of_mem _ hu))
    rw [List.pairwise_cons, ih]
    constructor
    · rintro ⟨h1, h2⟩ n hn
      cases n with
      | zero => exact h1 t (by simp)
      | succ n => exact h2 n (by simpa using hn)
    · intro hh
      have h0 := hh 0 (by simp)
      have h2 : ∀ n, (h : n + 1 < (t :: ys).length) → (t :: ys)[n].xHi + 1 < (t :: ys)[n + 1].xLo := fun n hn => hh (n + 1) (by simpa using hn)
      refine ⟨fun u hu => ?_, h2⟩
      rcases List.mem_cons.1 hu with e | e
      · subst e; exact h0
      · have := (List.pairwise_cons.1 (ih.2 h2)).1 u e
        have := h t (by simp)
        simp only [List.getElem_cons_zero, List.getElem_cons_succ] at h0
        omega
theorem St_iff {l : List GSpan} {top : Int} : St l top ↔ (∀ n, (h : n < l.length) → 0 ≤ l[n].xLo ∧ l[n].xLo ≤ l[n].xHi ∧ l[n].xHi ≤ top) ∧ ∀ n, (h : n + 1 < l.length) → l[n].xHi + 1 < l[n + 1].xLo := by
  constructor
  · rintro ⟨⟨h1, h2⟩, h3⟩
    exact ⟨fun n hn => by have := h1 _ (List.getElem_mem hn); have := h3 _ (List.getElem_mem hn); omega, (chain_NF h1).1 h2⟩
  · rintro ⟨h1, h2⟩
    have h3 : ∀ s ∈ l, 0 ≤ s.xLo ∧ s.xLo ≤ s.xHi ∧ s.xHi ≤ top := fun s hs => by
      obtain ⟨n, hn, e⟩ := List.getElem_of_mem hs
      rw [← e]; exact h1 n hn
    exact ⟨⟨fun s hs => (h3 s hs).2.1, (chain_NF (fun s hs => (h3 s hs).2.1)).2 h2⟩, fun s hs => ⟨(h3 s hs).1, (h3 s hs).2.2⟩⟩
/-- a valid set -/
def SpV (l : List GSpan) (top : Int) : Prop := l.length ≤ 40 ∧ St l top
instance (l : List GSpan) (t : Int) : Decidable (SpV l t) := by unfold SpV; infer_instance
theorem S_spec_SpansValid {l : List GSpan} {top : Int} (hl : l.length ≤ 4294967296) (h0 : 0 ≤ top) (ht : top ≤ 65535) {κ : Bool → Prop} (h : κ (decide (SpV l top))) : L_spec_SpansValid l top κ := by
  unfold L_spec_SpansValid
  refine count_loop l.length (fun s => s) (fun k s => s = (k : Int) ∧ k ≤ l.length ∧ (∀ n, (h : n < l.length) → n < k → 0 ≤ l[n].xLo ∧ l[n].xLo ≤ l[n].xHi ∧ l[n].xHi ≤ top) ∧ ∀ n, (h : n + 1 < l.length) → n + 1 < k → l[n].xHi + 1 < l[n + 1].xLo) (fun k s h => h.1) (fun k s h => h.2.1) ?_ ⟨rfl, Nat.zero_le _, fun n _ h => by omega, fun n _ h => by omega⟩
  rintro k _ next ⟨rfl, hk, h1, h2⟩ hn
  refine ifW_of (fun hc => ?_) (fun hc => ?_)
  · have hlt : k < l.length := by simpa using hc
    have no : ¬ (0 ≤ l[k].xLo ∧ l[k].xLo ≤ l[k].xHi ∧ l[k].xHi ≤ top ∧ ∀ j, (hj : j + 1 < l.length) → j + 1 = k → l[j].xHi + 1 < l[j + 1].xLo) → κ false := fun hh => by
      rw [decide_eq_false (fun hs => hh ?_)] at h
      · exact h
      · obtain ⟨e1, e2⟩ := St_iff.1 hs.2
        exact ⟨(e1 k hlt).1, (e1 k hlt).2.1, (e1 k hlt).2.2, fun j hj _ => e2 j hj⟩
    have yes : (0 ≤ l[k].xLo ∧ l[k].xLo ≤ l[k].xHi ∧ l[k].xHi ≤ top ∧ ∀ j, (hj : j + 1 < l.length) → j + 1 = k → l[j].xHi + 1 < l[j + 1].xLo) → addW (k : Int) 1 (fun t => next t) := fun ⟨q1, q2, q3, q4⟩ =>
      addW_of (by omega) (by omega) (hn hlt _ ⟨by simp, by omega, fun n hn hnk => by
        by_cases e : n = k
        · subst e; exact ⟨q1, q2, q3⟩
        · exact h1 n hn (by omega), fun n hn hnk => by
        by_cases e : n + 1 = k
        · exact q4 n hn e
        · exact h2 n hn (by omega)⟩)
    unfold jnW
    refine idxW_of k rfl hlt (idxW_of k rfl hlt (S_l1In (ifW_of (fun e => ifW_t (no (fun f => ?_))) (fun e => ?_))))
    · simp at e; omega
    simp at e
    refine idxW_of k rfl hlt (S_l1In (ifW_of (fun e2 => ifW_t (no (fun f => ?_))) (fun e2 => ?_)))
    · simp at e2; omega
    simp at e2
    refine ifW_of (fun e3 => ?_) (fun e3 => ?_)
    · have hk0 : 0 < k := by simpa using e3
      have hp := h1 (k - 1) (by omega) (by omega)
      refine idxW_of k rfl hlt (subW_of (by omega) (by omega) (idxW_of (k - 1) (by omega) (by omega) (addW_of (by omega) (by omega) (ifW_of (fun e4 => no (fun f => ?_)) (fun e4 => yes ⟨by omega, by omega, by omega, fun j hj hjk => ?_⟩)))))
      · have := f.2.2.2 (k - 1) (by omega) (by omega)
        simp at e4
        have ee : k - 1 + 1 = k := by omega
        simp only [ee] at this
        omega
      · simp at e4
        obtain rfl : j = k - 1 := by omega
        have ee : k - 1 + 1 = k := by omega
        simp only [ee]
        omega
    · have hk0 : k = 0 := by simpa using e3
      exact ifW_f (yes ⟨by omega, by omega, by omega, fun j hj hjk => by omega⟩)
  · have hge : l.length ≤ k := by simpa using hc
    have hs : St l top := St_iff.2 ⟨fun n hn => h1 n hn (by omega), fun n hn => h2 n hn (by omega)⟩
    unfold jnW
    refine S_l1In (ifW_of (fun e => ?_) (fun e => by simp at e; omega))
    rw [show decide (SpV l top) = decide ((l.length : Int) ≤ 40) from decide_eq_decide.2 ⟨fun q => by have := q.1; omega, fun q => ⟨by omega, hs⟩⟩] at h
    exact h
theorem S_topValid_any {t : Int} {κ : Bool → Prop} (h0 : 0 ≤ t) (ht : t ≤ 65535) (h : κ true) : L_impl_topValid t κ := by
  unfold L_impl_topValid jnW
  rw [decide_eq_true h0, decide_eq_true ht]
  exact ifW_t h
theorem S_impl_SpansValid {l : List GSpan} {top : Int} (hl : l.length ≤ 9223372036854775807) (h0 : 0 ≤ top) (ht : top ≤ 65535) {κ : Bool → Prop} (h : κ (decide (SpV l top))) : L_impl_SpansValid l top κ := by
  unfold L_impl_SpansValid jnW
  refine S_topValid_any h0 ht (ifW_f (ifW_of (fun e => ?_) (fun e => ?_)))
  · rw [decide_eq_false (fun q => by have := q.1; simp at e; omega)] at h; exact h
  have h40 : l.length ≤ 40 := by simp at e; omega
  refine count_loop l.length (fun s => s.2) (fun k (s : Int × Int) => s.2 = (k : Int) ∧ k ≤ l.length ∧ (∀ n, (h : n < l.length) → n < k → 0 ≤ l[n].xLo ∧ l[n].xLo ≤ l[n].xHi ∧ l[n].xHi ≤ top) ∧ (∀ n, (h : n + 1 < l.length) → n + 1 < k → l[n].xHi + 1 < l[n + 1].xLo) ∧ (k = 0 → s.1 = -2) ∧ (∀ n, (h : n < l.length) → n + 1 = k → s.1 = l[n].xHi)) (fun k s h => h.1) (fun k s h => h.2.1) ?_ ⟨rfl, Nat.zero_le _, fun n _ h => by omega, fun n _ h => by omega, fun _ => rfl, fun n _ h => by omega⟩
  rintro k ⟨a, _⟩ next ⟨rfl, hk, h1, h2, h3, h4⟩ hn
  simp only at h3 h4
  have ha : -2 ≤ a ∧ a ≤ 65535 := by
    by_cases e : k = 0
    · have := h3 e; omega
    · have := h4 (k - 1) (by omega) (by omega); have := h1 (k - 1) (by omega) (by omega); omega
  refine ifW_of (fun hc => ?_) (fun hc => ?_)
  · have hlt : k < l.length := by simpa using hc
    have no : ¬ (a + 1 < l[k].xLo ∧ l[k].xLo ≤ l[k].xHi ∧ l[k].xHi ≤ top) → κ false := fun hh => by
      rw [decide_eq_false (fun hs => hh ?_)] at h
      · exact h
      · obtain ⟨e1, e2⟩ := St_iff.1 hs.2
        have q := e1 k hlt
        refine ⟨?_, q.2.1, q.2.2⟩
        by_cases e : k = 0
        · have := h3 e; omega
        · obtain ⟨j, rfl⟩ : ∃ j, k = j + 1 := ⟨k - 1, by omega⟩
          have := h4 j (by omega) rfl
          have := e2 j hlt
          omega
    refine idxW_of k rfl hlt (addW_of (by omega) (by omega) (ifW_of (fun e => ifW_t (no (fun f => by simp at e; omega))) (fun e => ifW_of (fun e2 => ifW_t (no (fun f => by simp at e2; omega))) (fun e2 => ifW_of (fun e3 => no (fun f => by simp at e3; omega)) (fun e3 => ?_)))))
    simp at e e2 e3
    have lo : 0 ≤ l[k].xLo := by
      by_cases q : k = 0
      · have := h3 q; omega
      · have := h4 (k - 1) (by omega) (by omega); have := h1 (k - 1) (by omega) (by omega); omega
    refine addW_of (by omega) (by omega) (hn hlt _ ⟨by simp, by omega, fun n hn hnk => ?_, fun n hn hnk => ?_, fun f => by omega, fun n hn hnk => ?_⟩)
    · by_cases q : n = k
      · subst q; exact ⟨lo, e2, e3⟩
      · exact h1 n hn (by omega)
    · by_cases q : n + 1 = k
      · subst q
        have := h4 n (by omega) rfl
        omega
      · exact h2 n hn (by omega)
    · obtain rfl : n = k := by omega
      rfl
  · have hge : l.length ≤ k := by simpa using hc
    have hs : St l top := St_iff.2 ⟨fun n hn => h1 n hn (by omega), fun n hn => h2 n hn (by omega)⟩
    rw [decide_eq_true (show SpV l top from ⟨h40, hs⟩)] at h
    exact h
instance (l : List GSpan) (x : Int) : Decidable (hv l x) := by unfold hv; infer_instance
theorem S_impl_SpansHave {l : List GSpan} {x : Int} (hl : l.length ≤ 4294967296) {κ : Bool → Prop} (h : κ (decide (hv l x))) : L_impl_SpansHave l x κ := by
  unfold L_impl_SpansHave
  refine count_loop l.length (fun s => s) (fun k s => s = (k : Int) ∧ k ≤ l.length ∧ ¬ hv (l.take k) x) (fun k s h => h.1) (fun k s h => h.2.1) ?_ ⟨rfl, Nat.zero_le _, by simp [hv]⟩
  rintro k _ next ⟨rfl, hk, hno⟩ hn
  refine ifW_of (fun hc => ?_) (fun hc => ?_)
  · have hlt : k < l.length := by simpa using hc
    unfold jnW
    have go : ¬ (l[k].xLo ≤ x ∧ x ≤ l[k].xHi) → addW (k : Int) 1 (fun t => next t) := fun hh => addW_of (by omega) (by omega) (hn hlt _ ⟨by simp, by omega, by
      rw [List.take_succ_eq_append_getElem hlt, hv_app, hv_cons]
      rintro (q | q | q)
      · exact hno q
      · exact hh q
      · exact hv_nil _ q⟩)
    refine idxW_of k rfl hlt (ifW_of (fun e => ifW_of (fun e2 => ?_) (fun e2 => go (fun f => by simp [f.2] at e2))) (fun e => ifW_f (go (fun f => by simp [f.1] at e))))
    rw [decide_eq_true (show hv l x from ⟨_, List.getElem_mem hlt, by simpa using e, by simpa using e2⟩)] at h
    exact h
  · have hge : l.length ≤ k := by simpa using hc
    rw [List.take_of_length_le hge] at hno
    rw [decide_eq_false hno] at h; exact h
theorem S_spec_SpansHave {l : List GSpan} {x : Int} (hl : l.length ≤ 4294967296) {κ : Bool → Prop} (h : κ (decide (hv l x))) : L_spec_SpansHave l x κ := by
  unfold L_spec_SpansHave
  refine count_loop l.length (fun s => s) (fun k s => s = (k : Int) ∧ k ≤ l.length ∧ ¬ hv (l.take k) x) (fun k s h => h.1) (fun k s h => h.2.1) ?_ ⟨rfl, Nat.zero_le _, by simp [hv]⟩
  rintro k _ next ⟨rfl, hk, hno⟩ hn
  refine ifW_of (fun hc => ?_) (fun hc => ?_)
  · have hlt : k < l.length := by simpa using hc
    have go : ¬ (l[k].xLo ≤ x ∧ x ≤ l[k].xHi) → addW (k : Int) 1 (fun t => next t) := fun hh => addW_of (by omega) (by omega) (hn hlt _ ⟨by simp, by omega, by
      rw [List.take_succ_eq_append_getElem hlt, hv_app, hv_cons]
      rintro (q | q | q)
      · exact hno q
      · exact hh q
      · exact hv_nil _ q⟩)
    refine idxW_of k rfl hlt (idxW_of k rfl hlt (S_l1In (ifW_of (fun e => ?_) (fun e => go (fun f => by simp [f] at e)))))
    rw [decide_eq_true (show hv l x from ⟨_, List.getElem_mem hlt, by simpa using e⟩)] at h
    exact h
  · have hge : l.length ≤ k := by simpa using hc
    rw [List.take_of_length_le hge] at hno
    rw [decide_eq_false hno] at h; exact h


end
section
open Go Go.Proofs

/-- a box of the reference -/
def bx (a : A4ListGSpan) : GBox := ⟨[a.x0, a.x1, a.x2, a.x3]⟩
theorem S_BoxAll {κ : GBox → Prop} (h : κ (bx all4)) : L_spec_BoxAll κ := by
  unfold L_spec_BoxAll
  refine ⟨5, ?_⟩
  refine ifW_t ?_
  unfold jnW
  refine S_spec_FieldTop (n := (0 : Int)) (by decide) (by decide) (appW_of (by simp) (addW_of (by decide) (by decide) ?_))
  refine ifW_t ?_
  refine S_spec_FieldTop (n := (1 : Int)) (by decide) (by decide) (appW_of (by simp) (addW_of (by decide) (by decide) ?_))
  refine ifW_t ?_
  refine S_spec_FieldTop (n := (2 : Int)) (by decide) (by decide) (appW_of (by simp) (addW_of (by decide) (by decide) ?_))
  refine ifW_t ?_
  refine S_spec_FieldTop (n := (3 : Int)) (by decide) (by decide) (appW_of (by simp) (addW_of (by decide) (by decide) ?_))
  exact ifW_f h
end
section
open Go Go.Proofs

/-- the values for which a test holds -/
def tsp (t : GTest) : List GSpan := if t.xNot then otherF [GSpan.mk t.xLo t.xHi] (top t.xField) else [GSpan.mk t.xLo t.xHi]
theorem one_St {lo hi t : Int} (h0 : 0 ≤ lo) (h1 : lo ≤ hi) (h2 : hi ≤ t) : St [GSpan.mk lo hi] t := ⟨NF_one h1, fun s hs => by simp only [List.mem_singleton] at hs; subst hs; exact ⟨h0, h2⟩⟩
theorem tsp_St {t : GTest} (h : TV t) : St (tsp t) (top t.xField) := by
  obtain ⟨h1, h2, h3, h4, h5⟩ := h
  unfold tsp
  split
  · exact otherF_St (one_St h3 h4 h5)
  · exact one_St h3 h4 h5
theorem other1 (lo hi t : Int) : otherF [GSpan.mk lo hi] t = (if 0 < lo then [GSpan.mk 0 (lo - 1)] else []) ++ (if hi + 1 ≤ t then [GSpan.mk (hi + 1) t] else []) := rfl
theorem tsp_len (t : GTest) : (tsp t).length ≤ 2 := by
  unfold tsp
  split
  · rw [other1]; simp only [List.length_append]
    split <;> split <;> simp
  · simp
theorem meet1_len (a : List GSpan) (y : GSpan) : (meetF a [y]).length ≤ a.length := by
  induction a with
  | nil => simp [meetF]
  | cons x a ih =>
    have e : meetF (x :: a) [y] = cap1 x y ++ meetF a [y] := by simp [meetF]
    have h1 : (cap1 x y).length ≤ 1 := by unfold cap1; split <;> simp
    rw [e]; simp only [List.length_append, List.length_cons]; omega
theorem meet2_len {y1 y2 : GSpan} (hy : y1.xHi < y2.xLo) : ∀ {a : List GSpan}, NF a → (meetF a [y1, y2]).length ≤ a.length + 1
  | [], _ => by simp [meetF]
  | x :: a, h => by
    have e : meetF (x :: a) [y1, y2] = cap1 x y1 ++ cap1 x y2 ++ meetF a [y1, y2] := by simp [meetF]
    have h1 : ∀ y, (cap1 x y).length ≤ 1 := fun y => by unfold cap1; split <;> simp
    have ih := meet2_len hy (NF_tail h)
    rw [e]; simp only [List.length_append, List.length_cons]
    have i1 := h1 y1
    have i2 := h1 y2
    by_cases c : max x.xLo y2.xLo ≤ min x.xHi y2.xHi
    · have hg := (List.pairwise_cons.1 h.2).1
      have e2 : meetF a [y1, y2] = meetF a [y2] := by
        have : ∀ m : List GSpan, (∀ z ∈ m, y1.xHi < z.xLo) → meetF m [y1, y2] = meetF m [y2] := by
          intro m
          induction m with
          | nil => intro _; rfl
          | cons z m ihm =>
            intro hz
            have ez : cap1 z y1 = [] := by unfold cap1; rw [if_neg (by have := hz z (by simp); omega)]
            have := ihm (fun u hu => hz u (by simp [hu]))
            simp only [meetF, List.flatMap_cons, List.flatMap_nil, List.append_nil] at this ⊢
            rw [ez, this]; simp
        exact this a (fun z hz => by have := hg z hz; omega)
      have := meet1_len a y2
      rw [e2]; omega
    · have : cap1 x y2 = [] := by unfold cap1; rw [if_neg c]
      rw [this]; simp only [List.length_nil]; omega
theorem meet_len {a b : List GSpan} (ha : NF a) (hb : NF b) (h : b.length ≤ 2) : (meetF a b).length ≤ a.length + 1 := by
  match b, h, hb with
  | [], _, _ =>
    have : meetF a [] = [] := by simp [meetF]
    rw [this]; simp
  | [y], _, _ => have := meet1_len a y; omega
  | [y1, y2], _, hb =>
    have := (List.pairwise_cons.1 hb.2).1 y2 (by simp)
    exact meet2_len (by omega) ha
theorem S_TestSpans {t : GTest} (ht : TV t) {κ : List GSpan → Prop} (h : κ (tsp t)) : L_spec_TestSpans t κ := by
  have ht' := ht
  obtain ⟨h1, h2, h3, h4, h5⟩ := ht
  have := top_le t.xField
  unfold L_spec_TestSpans
  refine S_spec_TestValid ?_
  rw [decide_eq_true ht']
  refine ifW_f (ifW_of (fun e => ?_) (fun e => ?_))
  · unfold tsp at h; rw [if_pos e] at h
    exact S_spec_FieldTop h1 h2 (S_l2Other (one_St h3 h4 h5) (by omega) (by omega) h)
  · unfold tsp at h; rw [if_neg (by simpa using e)] at h
    exact h
-- the four sets by number
def L4 (a : A4ListGSpan) : List (List GSpan) := [a.x0, a.x1, a.x2, a.x3]
def get4 (a : A4ListGSpan) (f : Int) : List GSpan := if f = 0 then a.x0 else if f = 1 then a.x1 else if f = 2 then a.x2 else a.x3
def set4 (a : A4ListGSpan) (f : Int) (x : List GSpan) : A4ListGSpan := if f = 0 then ⟨x, a.x1, a.x2, a.x3⟩ else if f = 1 then ⟨a.x0, x, a.x2, a.x3⟩ else if f = 2 then ⟨a.x0, a.x1, x, a.x3⟩ else ⟨a.x0, a.x1, a.x2, x⟩
theorem idx4 {a : A4ListGSpan} {f : Int} {κ : List GSpan → Prop} (h0 : 0 ≤ f) (h1 : f ≤ 3) (h : κ (get4 a f)) : idxW (L4 a) f κ := by
  rcases four h0 h1 with rfl | rfl | rfl | rfl
  · exact idxW_of 0 rfl (by simp [L4]) h
  · exact idxW_of 1 rfl (by simp [L4]) h
  · exact idxW_of 2 rfl (by simp [L4]) h
  · exact idxW_of 3 rfl (by simp [L4]) h
theorem set4_L4 {a : A4ListGSpan} {f : Int} {x : List GSpan} (h0 : 0 ≤ f) (h1 : f ≤ 3) : (L4 a).set f.toNat x = L4 (set4 a f x) := by
  rcases four h0 h1 with rfl | rfl | rfl | rfl <;> rfl
theorem get4_St {a : A4ListGSpan} (ha : B4 a) {f : Int} (h0 : 0 ≤ f) (h1 : f ≤ 3) : St (get4 a f) (top f) := by
  obtain ⟨p0, p1, p2, p3⟩ := ha
  rcases four h0 h1 with rfl | rfl | rfl | rfl
  · exact p0
  · exact p1
  · exact p2
  · exact p3
theorem set4_B4 {a : A4ListGSpan} (ha : B4 a) {f : Int} (h0 : 0 ≤ f) (h1 : f ≤ 3) {x : List GSpan} (hx : St x (top f)) : B4 (set4 a f x) := by
  obtain ⟨p0, p1, p2, p3⟩ := ha
  rcases four h0 h1 with rfl | rfl | rfl | rfl
  · exact ⟨hx, p1, p2, p3⟩
  · exact ⟨p0, hx, p2, p3⟩
  · exact ⟨p0, p1, hx, p3⟩
  · exact ⟨p0, p1, p2, hx⟩
/-- no set has more than n ranges -/
def le4 (a : A4ListGSpan) (n : Nat) : Prop := ∀ f, 0 ≤ f → f ≤ 3 → (get4 a f).length ≤ n
theorem le4_set {a : A4ListGSpan} {n m : Nat} (h : le4 a n) {f : Int} (h0 : 0 ≤ f) (h1 : f ≤ 3) {x : List GSpan} (hx : x.length ≤ m) (hm : n ≤ m) : le4 (set4 a f x) m := by
  intro g g0 g1
  have k := h g g0 g1
  rcases four h0 h1 with rfl | rfl | rfl | rfl <;> rcases four g0 g1 with rfl | rfl | rfl | rfl <;> first | exact hx | exact Nat.le_trans k hm
theorem le4_F4 {a : A4ListGSpan} (h : le4 a 40) : F4 a := ⟨h 0 (by decide) (by decide), h 1 (by decide) (by decide), h 2 (by decide) (by decide), h 3 (by decide) (by decide)⟩
def tst1 (a : A4ListGSpan) (t : GTest) : A4ListGSpan := set4 a t.xField (meetF (get4 a t.xField) (tsp t))
/-- the box of tests -/
def boxT (ts : List GTest) : A4ListGSpan := ts.foldl tst1 all4
theorem boxT_go : ∀ (ts : List GTest) (a : A4ListGSpan) (n : Nat), (∀ t ∈ ts, TV t) → B4 a → le4 a n → B4 (ts.foldl tst1 a) ∧ le4 (ts.foldl tst1 a) (n + ts.length)
  | [], a, n, _, ha, hn => ⟨ha, hn⟩
  | t :: ts, a, n, h, ha, hn => by
    have ht := h t (by simp)
    have hs := get4_St ha ht.1 ht.2.1
    have := boxT_go ts (tst1 a t) (n + 1) (fun u hu => h u (by simp [hu])) (set4_B4 ha ht.1 ht.2.1 (meetF_St hs (tsp_St ht).1))
      (le4_set hn ht.1 ht.2.1 (Nat.le_trans (meet_len hs.1 (tsp_St ht).1 (tsp_len t)) (by have := hn _ ht.1 ht.2.1; omega)) (by omega))
    refine ⟨this.1, ?_⟩
    have e : n + (t :: ts).length = n + 1 + ts.length := by simp only [List.length_cons]; omega
    rw [e]; exact this.2
theorem all4_le : le4 all4 1 := fun f h0 h1 => by
  rcases four h0 h1 with rfl | rfl | rfl | rfl <;> decide
theorem boxT_B4 {ts : List GTest} (h : ∀ t ∈ ts, TV t) : B4 (boxT ts) := (boxT_go ts all4 1 h all4_B4 all4_le).1
theorem boxT_le {ts : List GTest} (h : ∀ t ∈ ts, TV t) : le4 (boxT ts) (1 + ts.length) := (boxT_go ts all4 1 h all4_B4 all4_le).2
theorem boxT_snoc (ts : List GTest) (t : GTest) : boxT (ts ++ [t]) = tst1 (boxT ts) t := by simp [boxT]
theorem S_TestsBox {ts : List GTest} (hts : TsV ts) {κ : GBox → Prop} (hκ : κ (bx (boxT ts))) : L_spec_TestsBox ts κ := by
  have h := hts.1
  have hl := hts.2
  unfold L_spec_TestsBox
  refine S_spec_TestsValid (by omega) ?_
  rw [decide_eq_true hts]
  refine ifW_f (S_BoxAll ?_)
  refine count_loop ts.length (fun s => s.2) (fun k s => s.2 = (k : Int) ∧ k ≤ ts.length ∧ s.1 = L4 (boxT (ts.take k))) (fun k s h => h.1) (fun k s h => h.2.1) ?_ ⟨rfl, Nat.zero_le _, by simp [boxT, L4, bx]⟩
  rintro k ⟨xs, t⟩ next ⟨rfl, hk, hx⟩ hn
  simp only at hx
  subst hx
  refine ifW_of (fun hc => ?_) (fun hc => ?_)
  · have hlt : k < ts.length := by simpa using hc
    have ht := h _ (List.getElem_mem hlt)
    have hpre : ∀ t ∈ ts.take k, TV t := fun t ht => h t (List.mem_of_mem_take ht)
    have hb := boxT_B4 hpre
    have hs := get4_St hb ht.1 ht.2.1
    have htop := top_le ts[k].xField
    refine idxW_of k rfl hlt ?_
    unfold jnW
    refine idxW_of k rfl hlt ?_
    have fin : L_spec_l2Meet (get4 (boxT (ts.take k)) ts[k].xField) (tsp ts[k]) (fun r40 => idxW (L4 (boxT (ts.take k))) ts[k].xField (fun e42 => addW (k : Int) 1 (fun t58 => next ((L4 (boxT (ts.take k))).set (ts[k].xField).toNat r40, t58)))) := by
      refine S_l2Meet hs (tsp_St ht) (by omega) (by omega) (by omega) (by omega) ?_
      refine idx4 ht.1 ht.2.1 (addW_of (by omega) (by omega) (hn hlt _ ⟨by simp, by omega, ?_⟩))
      simp only
      rw [set4_L4 ht.1 ht.2.1, List.take_succ_eq_append_getElem hlt, boxT_snoc]; rfl
    exact ⟨idx4 ht.1 ht.2.1 (S_TestSpans ht fin), S_TestSpans ht (idx4 ht.1 ht.2.1 fin)⟩
  · have hge : ts.length ≤ k := by simpa using hc
    rw [List.take_of_length_le hge]
    exact hκ
-- what is cut off
def pc (r : List GSpan) (a : A4ListGSpan) : List A4ListGSpan := if r = [] then [] else [a]
def cutF (a b : A4ListGSpan) : List A4ListGSpan :=
  if em4 (meet4 a b) then (if em4 a then [] else [a]) else
  pc (lessF a.x0 b.x0 65535) ⟨lessF a.x0 b.x0 65535, a.x1, a.x2, a.x3⟩ ++
  pc (lessF a.x1 b.x1 65535) ⟨meetF a.x0 b.x0, lessF a.x1 b.x1 65535, a.x2, a.x3⟩ ++
  pc (lessF a.x2 b.x2 255) ⟨meetF a.x0 b.x0, meetF a.x1 b.x1, lessF a.x2 b.x2 255, a.x3⟩ ++
  pc (lessF a.x3 b.x3 7) ⟨meetF a.x0 b.x0, meetF a.x1 b.x1, meetF a.x2 b.x2, lessF a.x3 b.x3 7⟩
theorem lessF_St {a b : List GSpan} {t : Int} (ha : St a t) (hb : St b t) : St (lessF a b t) t := meetF_St ha (otherF_St hb).1
theorem cutF_B4 {a b : A4ListGSpan} (ha : B4 a) (hb : B4 b) : ∀ c ∈ cutF a b, B4 c := by
  have hm := meet4_B4 ha hb
  intro c hc
  unfold cutF at hc
  split at hc
  · split at hc
    · simp at hc
    · simp only [List.mem_singleton] at hc; subst hc; exact ha
  · simp only [List.mem_append, or_assoc] at hc
    have pcm : ∀ {r : List GSpan} {d : A4ListGSpan}, c ∈ pc r d → c = d := fun {r d} h => by unfold pc at h; split at h <;> simp at h; exact h
    rcases hc with h | h | h | h
    · rw [pcm h]; exact ⟨lessF_St ha.1 hb.1, ha.2.1, ha.2.2.1, ha.2.2.2⟩
    · rw [pcm h]; exact ⟨hm.1, lessF_St ha.2.1 hb.2.1, ha.2.2.1, ha.2.2.2⟩
    · rw [pcm h]; exact ⟨hm.1, hm.2.1, lessF_St ha.2.2.1 hb.2.2.1, ha.2.2.2⟩
    · rw [pcm h]; exact ⟨hm.1, hm.2.1, hm.2.2.1, lessF_St ha.2.2.2 hb.2.2.2⟩
theorem pc_len (r : List GSpan) (a : A4ListGSpan) : (pc r a).length ≤ 1 := by unfold pc; split <;> simp
theorem cutF_len (a b : A4ListGSpan) : (cutF a b).length ≤ 4 := by
  unfold cutF
  split
  · split <;> simp
  · simp only [List.length_append]
    have := pc_len (lessF a.x0 b.x0 65535) ⟨lessF a.x0 b.x0 65535, a.x1, a.x2, a.x3⟩
    have := pc_len (lessF a.x1 b.x1 65535) ⟨meetF a.x0 b.x0, lessF a.x1 b.x1 65535, a.x2, a.x3⟩
    have := pc_len (lessF a.x2 b.x2 255) ⟨meetF a.x0 b.x0, meetF a.x1 b.x1, lessF a.x2 b.x2 255, a.x3⟩
    have := pc_len (lessF a.x3 b.x3 7) ⟨meetF a.x0 b.x0, meetF a.x1 b.x1, meetF a.x2 b.x2, lessF a.x3 b.x3 7⟩
    omega
theorem jnW_i {σ : Type} {K : σ → Prop} {B : (σ → Prop) → Prop} (h : B K) : jnW K B := h
end
section
open Go Go.Proofs

/-- the first k sets are met already -/
def hdm (a b : A4ListGSpan) (k : Nat) : A4ListGSpan := ⟨if 0 < k then meetF a.x0 b.x0 else a.x0, if 1 < k then meetF a.x1 b.x1 else a.x1, if 2 < k then meetF a.x2 b.x2 else a.x2, if 3 < k then meetF a.x3 b.x3 else a.x3⟩
def rst (a b : A4ListGSpan) (k : Nat) : List GSpan := lessF (get4 a k) (get4 b k) (top k)
def mt (a b : A4ListGSpan) (k : Nat) : List GSpan := meetF (get4 a k) (get4 b k)
def pcn (a b : A4ListGSpan) (k : Nat) : List A4ListGSpan := pc (rst a b k) (set4 (hdm a b k) k (rst a b k))
def pcs (a b : A4ListGSpan) (k : Nat) : List A4ListGSpan := (List.range k).flatMap (pcn a b)
theorem pcs_succ (a b : A4ListGSpan) (k : Nat) : pcs a b (k + 1) = pcs a b k ++ pcn a b k := by simp [pcs, List.range_succ]
theorem pcs_four (a b : A4ListGSpan) : pcs a b 4 = pc (lessF a.x0 b.x0 65535) ⟨lessF a.x0 b.x0 65535, a.x1, a.x2, a.x3⟩ ++
  pc (lessF a.x1 b.x1 65535) ⟨meetF a.x0 b.x0, lessF a.x1 b.x1 65535, a.x2, a.x3⟩ ++
  pc (lessF a.x2 b.x2 255) ⟨meetF a.x0 b.x0, meetF a.x1 b.x1, lessF a.x2 b.x2 255, a.x3⟩ ++
  pc (lessF a.x3 b.x3 7) ⟨meetF a.x0 b.x0, meetF a.x1 b.x1, meetF a.x2 b.x2, lessF a.x3 b.x3 7⟩ := by
  rw [pcs_succ, pcs_succ, pcs_succ, pcs_succ]; rfl
theorem cutF_pcs {a b : A4ListGSpan} (h : em4 (meet4 a b) = false) : cutF a b = pcs a b 4 := by
  unfold cutF; rw [if_neg (by simp [h]), pcs_four]
theorem four_nat {k : Nat} (h : k < 4) : k = 0 ∨ k = 1 ∨ k = 2 ∨ k = 3 := by omega
theorem pcn_mem (a b : A4ListGSpan) {k : Nat} (h : k < 4) : ∀ c ∈ pcn a b k, c ∈ pcs a b 4 := fun c hc => by
  unfold pcs; exact List.mem_flatMap.2 ⟨k, by simpa using h, hc⟩
theorem hdm_succ (a b : A4ListGSpan) {k : Nat} (h : k < 4) : set4 (hdm a b k) k (mt a b k) = hdm a b (k + 1) := by
  rcases four_nat h with rfl | rfl | rfl | rfl <;> rfl
/-- the piece of field k has few ranges if what is left has, and what was met before -/
theorem pcF4 {a b : A4ListGSpan} (ha : F4 a) {k : Nat} (h : k < 4) {r : List GSpan} : F4 (set4 (hdm a b k) k r) ↔ r.length ≤ 40 ∧ ∀ j, j < k → (mt a b j).length ≤ 40 := by
  obtain ⟨h0, h1, h2, h3⟩ := ha
  rcases four_nat h with rfl | rfl | rfl | rfl
  · constructor
    · intro q; exact ⟨q.1, fun j hj => by omega⟩
    · intro q; exact ⟨q.1, h1, h2, h3⟩
  · constructor
    · intro q
      refine ⟨q.2.1, fun j hj => ?_⟩
      have ej : j = 0 := by omega
      subst ej
      exact q.1
    · intro q; exact ⟨q.2 0 (by omega), q.1, h2, h3⟩
  · constructor
    · intro q
      refine ⟨q.2.2.1, fun j hj => ?_⟩
      obtain rfl | rfl : j = 0 ∨ j = 1 := by omega
      · exact q.1
      · exact q.2.1
    · intro q; exact ⟨q.2 0 (by omega), q.2 1 (by omega), q.1, h3⟩
  · constructor
    · intro q
      refine ⟨q.2.2.2, fun j hj => ?_⟩
      obtain rfl | rfl | rfl : j = 0 ∨ j = 1 ∨ j = 2 := by omega
      · exact q.1
      · exact q.2.1
      · exact q.2.2.1
    · intro q; exact ⟨q.2 0 (by omega), q.2 1 (by omega), q.2 2 (by omega), q.1⟩
theorem jnW_k {σ : Type} {K : σ → Prop} {B : (σ → Prop) → Prop} (P : σ → Prop) (h1 : ∀ r, P r → K r) (h2 : ∀ K', (∀ r, P r → K' r) → B K') : jnW K B := h2 K h1
def cutR2 (a b : A4ListGSpan) : List A4ListGSpan × Bool := if ∀ c ∈ cutF a b, F4 c then (cutF a b, true) else ([], false)
theorem S_impl_cut {a b : A4ListGSpan} (ha : B4 a) (hb : B4 b) (hf : F4 a) {κ : List A4ListGSpan × Bool → Prop} (h : κ (cutR2 a b)) : L_impl_sides_cut a b κ := by
  have yes : (∀ c ∈ cutF a b, F4 c) → κ (cutR (some (cutF a b))) := fun q => by
    unfold cutR2 at h; rw [if_pos q] at h; exact h
  have no : (¬ ∀ c ∈ cutF a b, F4 c) → κ (cutR none) := fun q => by
    unfold cutR2 at h; rw [if_neg q] at h; exact h
  clear h
  unfold L_impl_sides_cut L_impl_sides_pieces_1
  refine S_empty4 (ifW_of (fun e => ?_) (fun e => S_touches ha hb (ifW_of (fun e2 => ?_) (fun e2 => ?_))))
  · have hc : cutF a b = [] := by
      have : em4 (meet4 a b) = true := by
        simp only [em4, decide_eq_true_eq, meet4] at e ⊢
        rcases e with e | e | e | e <;> simp [e, meetF]
      unfold cutF; rw [if_pos this, if_pos e]
    rw [hc] at yes; exact yes (by simp)
  · have hc : cutF a b = [a] := by
      unfold cutF; rw [if_pos (by simpa using e2), if_neg (by simp [e])]
    rw [hc] at yes
    refine ifW_t (appW_of (by simp) ?_)
    exact yes (by simpa using hf)
  have e3 : em4 (meet4 a b) = false := by simpa using e2
  rw [cutF_pcs e3] at yes no
  clear e e2 e3
  refine count_loop 4 (fun s => s.2.2.2) (fun k (s : List (List GSpan) × Option (List A4ListGSpan) × Bool × Int) => s.2.2.2 = (k : Int) ∧ k ≤ 4 ∧ (∃ hd, s.1 = L4 hd ∧ (s.2.2.1 = true → hd = hdm a b k)) ∧ (s.2.2.1 = true ↔ ∀ j, j < k → (mt a b j).length ≤ 40) ∧ s.2.1 = some (pcs a b k) ∧ ∀ c ∈ pcs a b k, F4 c) (fun k s h => h.1) (fun k s h => h.2.1) ?_ ⟨rfl, by omega, ⟨a, rfl, fun _ => rfl⟩, by simp, rfl, by simp [pcs]⟩
  rintro k ⟨xs, z, fits, _⟩ next ⟨rfl, hk, ⟨hd, hxs, hfx⟩, hfit, hz, hpre⟩ hn
  simp only at hxs hfx hfit hz
  subst hxs hz
  refine ifW_of (fun hc => ?_) (fun hc => ?_)
  rotate_left
  · have hge : 4 ≤ (k : Int) := by simpa using hc
    obtain rfl : k = 4 := by omega
    exact yes hpre
  have hlt : k < 4 := by
    have : (k : Int) < 4 := by simpa using hc
    omega
  have k0 : (0 : Int) ≤ k := by omega
  have k3 : (k : Int) ≤ 3 := by omega
  have sa := get4_St ha k0 k3
  have sb := get4_St hb k0 k3
  have tl := top_le k
  have fin2 : ∀ (z' : List A4ListGSpan) (hd' : A4ListGSpan), z' = pcs a b (k + 1) → (∀ c ∈ z', F4 c) → (fits = true → hd' = hdm a b k) → ∀ l ok, (l, ok) = lim (mt a b k) → idxW (L4 hd') k (fun e432 => ifW fits (addW (k : Int) 1 (fun t505 => next ((L4 hd').set (k : Int).toNat l, some z', ok, t505))) (addW (k : Int) 1 (fun t505 => next ((L4 hd').set (k : Int).toNat l, some z', false, t505)))) := by
    intro z' hd' hz' hF hh l ok hl
    subst hz'
    refine idx4 k0 k3 (ifW_of (fun e => ?_) (fun e => ?_))
    · refine addW_of (by omega) (by omega) (hn hlt _ ⟨by simp, by omega, ⟨set4 hd' k l, set4_L4 k0 k3, fun q => ?_⟩, ?_, rfl, hF⟩)
      · simp only at q
        rw [hh e]
        unfold lim at hl
        split at hl
        · injection hl with _ h2; rw [q] at h2; cases h2
        · injection hl with h1 _; rw [h1, hdm_succ a b hlt]
      · simp only
        unfold lim at hl
        constructor
        · intro q j hj
          by_cases ej : j = k
          · subst ej
            split at hl
            · injection hl with _ h2; rw [q] at h2; cases h2
            · omega
          · exact hfit.1 e j (by omega)
        · intro q
          have := q k (by omega)
          rw [if_neg (by omega)] at hl
          injection hl
    · refine addW_of (by omega) (by omega) (hn hlt _ ⟨by simp, by omega, ⟨set4 hd' k l, set4_L4 k0 k3, fun q => by cases q⟩, ?_, rfl, hF⟩)
      simp only
      constructor
      · intro q; cases q
      · intro q
        have := hfit.2 (fun j hj => q j (by omega))
        rw [this] at e; cases e
  have piece : rst a b k ≠ [] → set4 (hdm a b k) k (rst a b k) ∈ pcs a b 4 := fun q => pcn_mem a b hlt _ (by unfold pcn pc; rw [if_neg q]; simp)
  refine jnW_i (jnW_k (fun r => r = lim (rst a b k)) ?_ ?_)
  rotate_left
  · intro K hK
    have leaf : L_impl_lessSpans (get4 a k) (get4 b k) (top k) K := S_lessSpans sa sb (by omega) (by omega) (hK _ rfl)
    refine ⟨idx4 k0 k3 ⟨?_, ?_⟩, idx4 k0 k3 ⟨?_, ?_⟩, S_top k0 k3 ⟨?_, ?_⟩⟩
    · exact idx4 k0 k3 (S_top k0 k3 leaf)
    · exact S_top k0 k3 (idx4 k0 k3 leaf)
    · exact idx4 k0 k3 (S_top k0 k3 leaf)
    · exact S_top k0 k3 (idx4 k0 k3 leaf)
    · exact idx4 k0 k3 (idx4 k0 k3 leaf)
    · exact idx4 k0 k3 (idx4 k0 k3 leaf)
  rintro ⟨l, okl⟩ hl
  refine jnW_k (fun t => t = (!okl || (decide (0 < (l.length : Int)) && !fits))) ?_ ?_
  rotate_left
  · intro K hK
    have hK := hK _ rfl
    refine ifW_of (fun e => ?_) (fun e => ?_)
    · have : okl = false := by simpa using e
      rw [this] at hK; simpa using hK
    · have : okl = true := by simpa using e
      rw [this] at hK
      refine ifW_of (fun e => ?_) (fun e => ?_)
      · rw [e] at hK; simpa using hK
      · rw [e] at hK; simpa using hK
  rintro t rfl
  refine ifW_of (fun e => ?_) (fun e => ?_)
  · -- it does not fit
    refine ifW_f (no (fun q => ?_))
    unfold lim at hl
    split at hl
    · rename_i h40
      have hne : rst a b k ≠ [] := fun f => by rw [f] at h40; simp at h40
      have := ((pcF4 hf hlt).1 (q _ (piece hne))).1
      omega
    · rename_i h40
      injection hl with h1 h2
      subst h1 h2
      have e' : 0 < (rst a b k).length ∧ fits = false := by simpa using e
      have hne : rst a b k ≠ [] := fun f => by rw [f] at e'; simp at e'
      have := hfit.2 ((pcF4 hf hlt).1 (q _ (piece hne))).2
      rw [this] at e'; simp at e'
  unfold lim at hl
  split at hl
  · injection hl with h1 h2
    subst h1 h2
    simp at e
  rename_i h40
  injection hl with h1 h2
  subst h1 h2
  have e' : rst a b k ≠ [] → fits = true := fun q => by
    cases fits with
    | true => rfl
    | false =>
      have : 0 < (rst a b k).length := List.length_pos_iff.2 q
      simp [this] at e
  clear e
  refine jnW_k (fun s => s.1 = some (pcs a b (k + 1)) ∧ (∀ c ∈ pcs a b (k + 1), F4 c) ∧ ∃ hd', s.2 = L4 hd' ∧ (fits = true → hd' = hdm a b k)) ?_ ?_
  · rintro ⟨z, ys⟩ ⟨hz, hF, hd', hy, hh⟩
    simp only at hz hy
    subst hz hy
    refine jnW_k (fun r => r = lim (mt a b k)) ?_ ?_
    · rintro ⟨m, okm⟩ hm
      exact fin2 _ hd' rfl hF hh m okm hm
    · intro K hK
      have leaf : L_impl_meetSpans (get4 a k) (get4 b k) (top k) K := S_meetSpans sa sb (by omega) (by omega) (hK _ rfl)
      refine ⟨idx4 k0 k3 ⟨?_, ?_⟩, idx4 k0 k3 ⟨?_, ?_⟩, S_top k0 k3 ⟨?_, ?_⟩⟩
      · exact idx4 k0 k3 (S_top k0 k3 leaf)
      · exact S_top k0 k3 (idx4 k0 k3 leaf)
      · exact idx4 k0 k3 (S_top k0 k3 leaf)
      · exact S_top k0 k3 (idx4 k0 k3 leaf)
      · exact idx4 k0 k3 (idx4 k0 k3 leaf)
      · exact idx4 k0 k3 (idx4 k0 k3 leaf)
  · intro K hK
    refine ifW_of (fun e => ?_) (fun e => ?_)
    · have hne : rst a b k ≠ [] := fun f => by rw [f] at e; simp at e
      have hft := e' hne
      have ed := hfx hft
      subst ed
      have hpc : pcs a b (k + 1) = pcs a b k ++ [set4 (hdm a b k) k (rst a b k)] := by
        rw [pcs_succ]; unfold pcn pc; rw [if_neg hne]
      refine ⟨_, _, _, _, rfl, idx4 (a := hdm a b k) k0 k3 ⟨(set4 (hdm a b k) k (rst a b k)).x0, (set4 (hdm a b k) k (rst a b k)).x1, (set4 (hdm a b k) k (rst a b k)).x2, (set4 (hdm a b k) k (rst a b k)).x3, set4_L4 (a := hdm a b k) k0 k3, ?_⟩⟩
      have hl1 : (pcs a b k).length ≤ 4 := by
        have h1 : ∀ n, (pcs a b n).length ≤ n := by
          intro n
          induction n with
          | zero => simp [pcs]
          | succ n ih =>
            have := pc_len (rst a b n) (set4 (hdm a b n) n (rst a b n))
            rw [pcs_succ, List.length_append]; unfold pcn; omega
        have := h1 k; omega
      refine ifW_t (appW_of (by simp; omega) (ifW_f (hK _ ⟨by rw [hpc], ?_, hdm a b k, rfl, fun _ => rfl⟩)))
      intro c hc
      rw [hpc] at hc
      rcases List.mem_append.1 hc with q | q
      · exact hpre c q
      · have : c = set4 (hdm a b k) k (rst a b k) := by simpa using q
        rw [this]
        exact (pcF4 hf hlt).2 ⟨by omega, hfit.1 hft⟩
    · have hnil : rst a b k = [] := by
        cases hr : rst a b k with
        | nil => rfl
        | cons x r => rw [hr] at e; simp at e
      have hpc : pcs a b (k + 1) = pcs a b k := by
        rw [pcs_succ]; unfold pcn pc; rw [if_pos hnil]; simp
      exact hK _ ⟨by rw [hpc], by rw [hpc]; exact hpre, hd, rfl, hfx⟩

end
section


def pv (p : GPacket) : Prop := (0 ≤ p.xFrom ∧ p.xFrom ≤ 65535) ∧ (0 ≤ p.xTo ∧ p.xTo ≤ 65535) ∧ (0 ≤ p.xPort ∧ p.xPort ≤ 255) ∧ (0 ≤ p.xProto ∧ p.xProto ≤ 7)
instance (p : GPacket) : Decidable (pv p) := by unfold pv; infer_instance
def rev (p : GPacket) : GPacket := ⟨p.xTo, p.xFrom, p.xPort, p.xProto⟩
def tv (t : Int) : Prop := 0 ≤ t ∧ t ≤ 1000000
instance (t : Int) : Decidable (tv t) := by unfold tv; infer_instance

/-! packets -/
theorem S_fieldTop {n : Int} (h0 : 0 ≤ n) (h1 : n < 4) {κ : Int → Prop} (h : κ (if n ≤ 1 then 65535 else if n = 2 then 255 else 7)) : L_impl_FieldTop n κ := by
  unfold L_impl_FieldTop jnW
  refine ifW_of (fun hc => by simp at hc; omega) (fun _ => ifW_of (fun hc => by simp at hc; omega) (fun _ => ?_))
  have : n = 0 ∨ n = 1 ∨ n = 2 ∨ n = 3 := by omega
  rcases this with rfl | rfl | rfl | rfl
  · exact idxW_of 0 rfl (by simp [gl_impl_fieldShapes]) (by simpa [gl_impl_fieldShapes] using h)
  · exact idxW_of 1 rfl (by simp [gl_impl_fieldShapes]) (by simpa [gl_impl_fieldShapes] using h)
  · exact idxW_of 2 rfl (by simp [gl_impl_fieldShapes]) (by simpa [gl_impl_fieldShapes] using h)
  · exact idxW_of 3 rfl (by simp [gl_impl_fieldShapes]) (by simpa [gl_impl_fieldShapes] using h)
def fieldP (p : GPacket) : Nat → Int
  | 0 => p.xFrom
  | 1 => p.xTo
  | 2 => p.xPort
  | _ => p.xProto
def topP : Nat → Int
  | 0 => 65535
  | 1 => 65535
  | 2 => 255
  | _ => 7
theorem pv_iff (p : GPacket) : pv p ↔ ∀ i, i < 4 → 0 ≤ fieldP p i ∧ fieldP p i ≤ topP i := by
  unfold pv
  constructor
  · rintro ⟨h0, h1, h2, h3⟩ i hi
    match i, hi with
    | 0, _ => exact h0
    | 1, _ => exact h1
    | 2, _ => exact h2
    | 3, _ => exact h3
  · intro h
    exact ⟨h 0 (by omega), h 1 (by omega), h 2 (by omega), h 3 (by omega)⟩
theorem S_PacketValid {p : GPacket} {κ : Bool → Prop} (h : κ (decide (pv p))) : L_impl_PacketValid p κ := by
  unfold L_impl_PacketValid L_impl_Packet_fields
  refine count_loop 4 (fun s => s) (fun k s => s = (k : Int) ∧ k ≤ 4 ∧ ∀ i, i < k → 0 ≤ fieldP p i ∧ fieldP p i ≤ topP i) (fun k s h => h.1) (fun k s h => h.2.1) ?_ ⟨rfl, by omega, fun i hi => by omega⟩
  rintro k _ next ⟨rfl, hk, hi⟩ hn
  refine ifW_of (fun hlt => ?_) (fun hge => ?_)
  · have hlt : k < 4 := by simp at hlt; omega
    have hno : ¬ (0 ≤ fieldP p k ∧ fieldP p k ≤ topP k) → κ false := fun hno => by
      rw [decide_eq_false (fun hv => hno ((pv_iff p).1 hv k hlt))] at h
      exact h
    refine idxW_of k rfl (by simpa using hlt) ?_
    have e : ([p.xFrom, p.xTo, p.xPort, p.xProto] : List Int)[k]'(by simpa using hlt) = fieldP p k := by
      match k, hlt with
      | 0, _ => rfl
      | 1, _ => rfl
      | 2, _ => rfl
      | 3, _ => rfl
    simp only [e]
    unfold jnW
    refine ifW_of (fun hc => ?_) (fun hc => S_fieldTop (by omega) (by omega) ?_)
    · simp only [ifW_true]; exact hno (by simp at hc; omega)
    · have et : (if (k : Int) ≤ 1 then (65535 : Int) else if (k : Int) = 2 then 255 else 7) = topP k := by
        match k, hlt with
        | 0, _ => rfl
        | 1, _ => rfl
        | 2, _ => rfl
        | 3, _ => rfl
      rw [et]
      refine ifW_of (fun h2 => hno (by simp at h2; omega)) (fun h2 => addW_of (by omega) (by omega) (hn hlt _ ⟨by simp, by omega, fun i hi' => ?_⟩))
      by_cases e : i = k
      · subst e; simp at hc h2; exact ⟨hc, h2⟩
      · exact hi i (by omega)
  · have : k = 4 := by simp at hge; omega
    subst this
    rw [decide_eq_true ((pv_iff p).2 hi)] at h
    exact h
theorem S_specPacketValid {p : GPacket} {κ : Bool → Prop} (h : κ (decide (pv p))) : L_spec_PacketValid p κ := by
  unfold L_spec_PacketValid jnW
  refine S_l1In (ifW_of (fun h1 => S_l1In (ifW_of (fun h2 => S_l1In (ifW_of (fun h3 => S_l1In ?_) (fun h3 => ?_))) (fun h2 => ?_))) (fun h1 => ?_))
  all_goals
    refine (congrArg κ ?_).mp h
    clear h
    first
      | (refine decide_eq_decide.2 ?_; simp only [decide_eq_true_eq] at *; unfold pv; constructor <;> (intro k; omega))
      | (refine decide_eq_false ?_; simp only [decide_eq_true_eq, decide_eq_false_iff_not] at *; unfold pv; intro k; omega)
def lv (t : Int) : Prop := 0 ≤ t ∧ t ≤ 1000
instance (t : Int) : Decidable (lv t) := by unfold lv; infer_instance
/-! flows -/
end
section
open Go Go.Proofs

/-- a valid box -/
def BV (b : GBox) : Prop := ∃ a, b = bx a ∧ B4 a ∧ F4 a
noncomputable instance (b : GBox) : Decidable (BV b) := Classical.propDecidable _
/-- its four sets -/
def sd (b : GBox) : A4ListGSpan := match b.xSides with | [x0, x1, x2, x3] => ⟨x0, x1, x2, x3⟩ | _ => nil4
theorem sd_bx (a : A4ListGSpan) : sd (bx a) = a := rfl
theorem BV.eq {b : GBox} (h : BV b) : b = bx (sd b) := by obtain ⟨a, rfl, _⟩ := h; rfl
theorem BV.b4 {b : GBox} (h : BV b) : B4 (sd b) := by obtain ⟨a, rfl, h, _⟩ := h; exact h
theorem BV.f4 {b : GBox} (h : BV b) : F4 (sd b) := by obtain ⟨a, rfl, _, h⟩ := h; exact h
theorem BV_bx {a : A4ListGSpan} : BV (bx a) ↔ B4 a ∧ F4 a := ⟨fun h => ⟨h.b4, h.f4⟩, fun h => ⟨a, rfl, h⟩⟩
theorem BV_len {b : GBox} (h : BV b) : b.xSides.length = 4 := by obtain ⟨a, rfl, _⟩ := h; rfl
theorem list4 {α : Type} {l : List α} (h : l.length = 4) : ∃ a b c d, l = [a, b, c, d] := by
  match l, h with
  | [a, b, c, d], _ => exact ⟨a, b, c, d, rfl⟩
theorem box4 {b : GBox} (h : b.xSides.length = 4) : b = bx (sd b) := by
  obtain ⟨x0, x1, x2, x3, e⟩ := list4 h
  obtain ⟨s⟩ := b
  simp only at e
  subst e
  rfl
theorem BV_iff {a : A4ListGSpan} : BV (bx a) ↔ ∀ n : Nat, n < 4 → SpV (get4 a n) (top n) := by
  rw [BV_bx]
  constructor
  · rintro ⟨⟨b0, b1, b2, b3⟩, f0, f1, f2, f3⟩ n hn
    rcases four_nat hn with rfl | rfl | rfl | rfl
    · exact ⟨f0, b0⟩
    · exact ⟨f1, b1⟩
    · exact ⟨f2, b2⟩
    · exact ⟨f3, b3⟩
  · intro h
    obtain ⟨f0, b0⟩ := h 0 (by decide)
    obtain ⟨f1, b1⟩ := h 1 (by decide)
    obtain ⟨f2, b2⟩ := h 2 (by decide)
    obtain ⟨f3, b3⟩ := h 3 (by decide)
    exact ⟨⟨b0, b1, b2, b3⟩, f0, f1, f2, f3⟩
/-- lengths in range -/
def Bb (b : GBox) : Prop := b.xSides.length ≤ 4294967296 ∧ ∀ x ∈ b.xSides, x.length ≤ 4294967296
def Fb (l : List GFlat) : Prop := l.length ≤ 4294967296 ∧ ∀ f ∈ l, Bb f.xWhere
theorem BV.bb {b : GBox} (h : BV b) : Bb b := by
  obtain ⟨a, rfl, _, f0, f1, f2, f3⟩ := h
  refine ⟨by simp [bx], fun x hx => ?_⟩
  simp only [bx, List.mem_cons, List.not_mem_nil, or_false] at hx
  rcases hx with rfl | rfl | rfl | rfl <;> omega
theorem get4_mem (a : A4ListGSpan) {n : Nat} (h : n < 4) : get4 a n ∈ (bx a).xSides := by
  rcases four_nat h with rfl | rfl | rfl | rfl <;> simp [get4, bx]
theorem S_impl_BoxValid {b : GBox} (hb : Bb b) {κ : Bool → Prop} (h : κ (decide (BV b))) : L_impl_BoxValid b κ := by
  unfold L_impl_BoxValid
  have h1 := hb.1
  refine ifW_of (fun e => ?_) (fun e => ?_)
  · have e' : ¬ b.xSides.length = 4 := fun q => by rw [q] at e; simp at e
    rw [decide_eq_false (fun q => e' (BV_len q))] at h; exact h
  have e4 : b.xSides.length = 4 := by
    have : (b.xSides.length : Int) = 4 := by simpa using e
    omega
  obtain ⟨a, rfl⟩ : ∃ a, b = bx a := ⟨_, box4 e4⟩
  clear e e4
  refine count_loop 4 (fun s => s) (fun k s => s = (k : Int) ∧ k ≤ 4 ∧ ∀ n : Nat, n < k → SpV (get4 a n) (top n)) (fun k s h => h.1) (fun k s h => h.2.1) ?_ ⟨rfl, by omega, fun n h => by omega⟩
  rintro k _ next ⟨rfl, hk, hv⟩ hn
  refine ifW_of (fun hc => ?_) (fun hc => ?_)
  · have hlt : k < 4 := by
      have : (k : Int) < 4 := by simpa [bx] using hc
      omega
    have k0 : (0 : Int) ≤ k := by omega
    have k3 : (k : Int) ≤ 3 := by omega
    have tl := top_le k
    refine idx4 k0 k3 (S_top k0 k3 (S_impl_SpansValid (by have := hb.2 _ (get4_mem a hlt); omega) (by omega) (by omega) (ifW_of (fun e => ?_) (fun e => ?_))))
    · have : ¬ SpV (get4 a k) (top k) := by simpa using e
      rw [decide_eq_false (fun q => this (BV_iff.1 q k hlt))] at h; exact h
    · have : SpV (get4 a k) (top k) := by simpa using e
      refine addW_of (by omega) (by omega) (hn hlt _ ⟨by simp, by omega, fun n hnk => ?_⟩)
      by_cases q : n = k
      · subst q; exact this
      · exact hv n (by omega)
  · have hge : k = 4 := by
      have : (4 : Int) ≤ k := by simpa [bx] using hc
      omega
    subst hge
    rw [decide_eq_true (BV_iff.2 hv)] at h; exact h
theorem S_spec_BoxValid {b : GBox} (hb : Bb b) {κ : Bool → Prop} (h : κ (decide (BV b))) : L_spec_BoxValid b κ := by
  unfold L_spec_BoxValid
  have h1 := hb.1
  refine count_loop b.xSides.length (fun s => s) (fun k s => s = (k : Int) ∧ k ≤ b.xSides.length ∧ k ≤ 4 ∧ ∀ n : Nat, n < k → ∀ q : n < b.xSides.length, SpV (b.xSides[n]) (top n)) (fun k s h => h.1) (fun k s h => h.2.1) ?_ ⟨rfl, by omega, by omega, fun n h => by omega⟩
  rintro k _ next ⟨rfl, hk, hk4, hv⟩ hn
  refine ifW_of (fun hc => ?_) (fun hc => ?_)
  · have hlt : k < b.xSides.length := by simpa using hc
    refine jnW_i (ifW_of (fun e => ?_) (fun e => ?_))
    · have e' : 4 ≤ k := by
        have : (4 : Int) ≤ k := by simpa using e
        omega
      rw [decide_eq_false (fun q => by have := BV_len q; omega)] at h
      exact ifW_t h
    have e' : k < 4 := by
      have : ¬ (4 : Int) ≤ k := by simpa using e
      omega
    have k0 : (0 : Int) ≤ k := by omega
    have k3 : (k : Int) ≤ 3 := by omega
    have tl := top_le k
    refine idxW_of k rfl hlt (S_spec_FieldTop k0 k3 (S_spec_SpansValid (hb.2 _ (List.getElem_mem hlt)) (by omega) (by omega) (ifW_of (fun e => ?_) (fun e => ?_))))
    · have no : ¬ SpV (b.xSides[k]) (top k) := by simpa using e
      rw [decide_eq_false (fun q => no ?_)] at h
      · exact h
      · obtain ⟨a, rfl, _⟩ := id q
        have := BV_iff.1 q k e'
        have e2 : (bx a).xSides[k] = get4 a k := by rcases four_nat e' with rfl | rfl | rfl | rfl <;> rfl
        rw [e2]; exact this
    · have yes : SpV (b.xSides[k]) (top k) := by simpa using e
      refine addW_of (by omega) (by omega) (hn hlt _ ⟨by simp, by omega, by omega, fun n hnk q => ?_⟩)
      by_cases e : n = k
      · subst e; exact yes
      · exact hv n (by omega) q
  · have hge : b.xSides.length = k := by
      have : b.xSides.length ≤ k := by simpa using hc
      omega
    have : decide (BV b) = decide ((b.xSides.length : Int) = 4) := decide_eq_decide.2 ⟨fun q => by have := BV_len q; omega, fun q => by
      have e4 : b.xSides.length = 4 := by omega
      obtain ⟨a, rfl⟩ : ∃ a, b = bx a := ⟨_, box4 e4⟩
      refine BV_iff.2 (fun n hn4 => ?_)
      have := hv n (by omega) (by simpa [bx] using hn4)
      have e2 : (bx a).xSides[n]'(by simpa [bx] using hn4) = get4 a n := by rcases four_nat hn4 with rfl | rfl | rfl | rfl <;> rfl
      rw [e2] at this; exact this⟩
    rw [this] at h; exact h
/-- valid rules without calls -/
def FV (l : List GFlat) : Prop := l.length ≤ 60 ∧ ∀ f ∈ l, BV f.xWhere
noncomputable instance (l : List GFlat) : Decidable (FV l) := Classical.propDecidable _
theorem FV.fb {l : List GFlat} (h : FV l) : Fb l := ⟨by have := h.1; omega, fun f hf => (h.2 f hf).bb⟩
theorem S_impl_FlatsValid {l : List GFlat} (hl : Fb l) {κ : Bool → Prop} (h : κ (decide (FV l))) : L_impl_FlatsValid l κ := by
  unfold L_impl_FlatsValid
  have h1 := hl.1
  refine ifW_of (fun e => ?_) (fun e => ?_)
  · rw [decide_eq_false (fun q => by have := q.1; simp at e; omega)] at h; exact h
  have h60 : l.length ≤ 60 := by simp at e; omega
  refine count_loop l.length (fun s => s) (fun k s => s = (k : Int) ∧ k ≤ l.length ∧ ∀ f ∈ l.take k, BV f.xWhere) (fun k s h => h.1) (fun k s h => h.2.1) ?_ ⟨rfl, by omega, by simp⟩
  rintro k _ next ⟨rfl, hk, hv⟩ hn
  refine ifW_of (fun hc => ?_) (fun hc => ?_)
  · have hlt : k < l.length := by simpa using hc
    refine idxW_of k rfl hlt (S_impl_BoxValid (hl.2 _ (List.getElem_mem hlt)) (ifW_of (fun e => ?_) (fun e => ?_)))
    · have : ¬ BV (l[k].xWhere) := by simpa using e
      rw [decide_eq_false (fun q => this (q.2 _ (List.getElem_mem hlt)))] at h; exact h
    · have : BV (l[k].xWhere) := by simpa using e
      refine addW_of (by omega) (by omega) (hn hlt _ ⟨by simp, by omega, fun f hf => ?_⟩)
      rw [List.take_succ_eq_append_getElem hlt] at hf
      rcases List.mem_append.1 hf with q | q
      · exact hv f q
      · simp only [List.mem_singleton] at q; rw [q]; exact this
  · have hge : l.length ≤ k := by simpa using hc
    rw [List.take_of_length_le hge] at hv
    rw [decide_eq_true (show FV l from ⟨h60, hv⟩)] at h; exact h
theorem S_spec_FlatsValid {l : List GFlat} (hl : Fb l) {κ : Bool → Prop} (h : κ (decide (FV l))) : L_spec_FlatsValid l κ := by
  unfold L_spec_FlatsValid
  have h1 := hl.1
  refine count_loop l.length (fun s => s) (fun k s => s = (k : Int) ∧ k ≤ l.length ∧ ∀ f ∈ l.take k, BV f.xWhere) (fun k s h => h.1) (fun k s h => h.2.1) ?_ ⟨rfl, by omega, by simp⟩
  rintro k _ next ⟨rfl, hk, hv⟩ hn
  refine ifW_of (fun hc => ?_) (fun hc => ?_)
  · have hlt : k < l.length := by simpa using hc
    refine idxW_of k rfl hlt (S_spec_BoxValid (hl.2 _ (List.getElem_mem hlt)) (ifW_of (fun e => ?_) (fun e => ?_)))
    · have : ¬ BV (l[k].xWhere) := by simpa using e
      rw [decide_eq_false (fun q => this (q.2 _ (List.getElem_mem hlt)))] at h; exact h
    · have : BV (l[k].xWhere) := by simpa using e
      refine addW_of (by omega) (by omega) (hn hlt _ ⟨by simp, by omega, fun f hf => ?_⟩)
      rw [List.take_succ_eq_append_getElem hlt] at hf
      rcases List.mem_append.1 hf with q | q
      · exact hv f q
      · simp only [List.mem_singleton] at q; rw [q]; exact this
  · have hge : l.length ≤ k := by simpa using hc
    rw [List.take_of_length_le hge] at hv
    rw [show decide (FV l) = decide ((l.length : Int) ≤ 60) from decide_eq_decide.2 ⟨fun q => by have := q.1; omega, fun q => ⟨by omega, hv⟩⟩] at h; exact h
-- the program's form of boxes
theorem S_sidesOf {b : GBox} (hb : b.xSides.length = 4) {κ : A4ListGSpan → Prop} (h : κ (sd b)) : L_impl_sidesOf b κ := by
  have e := box4 hb
  rw [e] at h ⊢
  exact ⟨_, _, _, _, [], rfl, h⟩
def fl (f : GFlat) : GIflat := ⟨sd f.xWhere, f.xAccept⟩
/-- a list built up element by element -/
theorem build_loop {α β : Type} (a : List α) (f : α → β) (hl : a.length ≤ 4294967296) {κ : List β → Prop} (T : α → (β → Prop) → Prop) (hT : ∀ x ψ, x ∈ a → ψ (f x) → T x ψ) (hκ : κ (a.map f))
    (F : (List β × Int → Prop) → List β × Int → Prop)
    (hF : ∀ nx xs t, (ifW (decide (t < (a.length : Int))) (idxW a t (fun e => T e (fun r => appW xs [r] (fun _ => addW t 1 (fun u => nx (xs ++ [r], u)))))) (κ xs)) → F nx (xs, t)) : loopW F ([], 0) := by
  refine count_loop a.length (fun s => s.2) (fun k s => s.2 = (k : Int) ∧ k ≤ a.length ∧ s.1 = (a.take k).map f) (fun k s h => h.1) (fun k s h => h.2.1) ?_ ⟨rfl, Nat.zero_le _, by simp⟩
  rintro k ⟨ys, t⟩ next ⟨rfl, hk, hy⟩ hn
  simp only at hy
  subst hy
  refine hF _ _ _ (ifW_of (fun hc => ?_) (fun hc => ?_))
  · have hlt : k < a.length := by simpa using hc
    refine idxW_of k rfl hlt (hT _ _ (List.getElem_mem hlt) (appW_of (by simp; omega) (addW_of (by omega) (by omega) (hn hlt _ ⟨by simp, by omega, ?_⟩))))
    rw [List.take_succ_eq_append_getElem hlt, List.map_append]; rfl
  · have hge : a.length ≤ k := by simpa using hc
    rw [List.take_of_length_le hge]; exact hκ
theorem S_flatsOf {l : List GFlat} (hl : l.length ≤ 4294967296) (h4 : ∀ f ∈ l, f.xWhere.xSides.length = 4) {κ : List GIflat → Prop} (h : κ (l.map fl)) : L_impl_flatsOf l κ := by
  unfold L_impl_flatsOf
  refine makeW_of 0 rfl (by omega) (by omega) ?_
  exact build_loop l fl hl (fun x ψ => L_impl_sidesOf x.xWhere (fun r => ψ (GIflat.mk r x.xAccept))) (fun x ψ hx hψ => S_sidesOf (h4 x hx) hψ) h _ (fun nx xs t hh => hh)
theorem S_wheres {l : List GIflat} (hl : l.length ≤ 4294967296) {κ : List A4ListGSpan → Prop} (h : κ (l.map (·.xWhere))) : L_impl_wheres l κ := by
  unfold L_impl_wheres
  refine makeW_of 0 rfl (by omega) (by omega) ?_
  exact build_loop l (·.xWhere) hl (fun x ψ => ψ x.xWhere) (fun x ψ hx hψ => hψ) h _ (fun nx xs t hh => hh)
theorem F4_L4 {a : A4ListGSpan} (h : F4 a) : ∀ x ∈ L4 a, x.length ≤ 4294967296 := fun x hx => by
  obtain ⟨f0, f1, f2, f3⟩ := h
  simp only [L4, List.mem_cons, List.not_mem_nil, or_false] at hx
  rcases hx with rfl | rfl | rfl | rfl <;> omega
/-! ### what a box has -/
def hb4 (a : A4ListGSpan) (p : GPacket) : Prop := hv a.x0 p.xFrom ∧ hv a.x1 p.xTo ∧ hv a.x2 p.xPort ∧ hv a.x3 p.xProto
instance (a : A4ListGSpan) (p : GPacket) : Decidable (hb4 a p) := by unfold hb4; infer_instance
theorem hb4_iff (a : A4ListGSpan) (p : GPacket) : hb4 a p ↔ ∀ n : Nat, n < 4 → hv (get4 a n) (fieldP p n) := by
  constructor
  · rintro ⟨h0, h1, h2, h3⟩ n hn
    rcases four_nat hn with rfl | rfl | rfl | rfl
    · exact h0
    · exact h1
    · exact h2
    · exact h3
  · intro h
    exact ⟨h 0 (by decide), h 1 (by decide), h 2 (by decide), h 3 (by decide)⟩
theorem fields4 (p : GPacket) {n : Nat} (h : n < 4) {κ : Int → Prop} (hk : κ (fieldP p n)) : idxW [p.xFrom, p.xTo, p.xPort, p.xProto] (n : Int) κ := by
  rcases four_nat h with rfl | rfl | rfl | rfl
  · exact idxW_of 0 rfl (by simp) hk
  · exact idxW_of 1 rfl (by simp) hk
  · exact idxW_of 2 rfl (by simp) hk
  · exact idxW_of 3 rfl (by simp) hk
theorem S_has {a : A4ListGSpan} {p : GPacket} (hl : ∀ x ∈ L4 a, x.length ≤ 4294967296) {κ : Bool → Prop} (h : κ (decide (hb4 a p))) : L_impl_sides_has a p κ := by
  unfold L_impl_sides_has L_impl_Packet_fields
  refine count_loop 4 (fun s => s) (fun k s => s = (k : Int) ∧ k ≤ 4 ∧ ∀ n : Nat, n < k → hv (get4 a n) (fieldP p n)) (fun k s h => h.1) (fun k s h => h.2.1) ?_ ⟨rfl, by omega, fun n h => by omega⟩
  rintro k _ next ⟨rfl, hk, hw⟩ hn
  refine ifW_of (fun hc => ?_) (fun hc => ?_)
  · have hlt : k < 4 := by
      have : (k : Int) < 4 := by simpa using hc
      omega
    have k0 : (0 : Int) ≤ k := by omega
    have k3 : (k : Int) ≤ 3 := by omega
    refine fields4 p hlt (idx4 k0 k3 (S_impl_SpansHave (hl _ (get4_mem a hlt)) (ifW_of (fun e => ?_) (fun e => ?_))))
    · have : ¬ hv (get4 a k) (fieldP p k) := by simpa using e
      rw [decide_eq_false (fun q => this ((hb4_iff a p).1 q k hlt))] at h; exact h
    · have : hv (get4 a k) (fieldP p k) := by simpa using e
      refine addW_of (by omega) (by omega) (hn hlt _ ⟨by simp, by omega, fun n hnk => ?_⟩)
      by_cases q : n = k
      · subst q; exact this
      · exact hw n (by omega)
  · have hge : k = 4 := by
      have : (4 : Int) ≤ k := by simpa using hc
      omega
    subst hge
    rw [decide_eq_true ((hb4_iff a p).2 hw)] at h; exact h
theorem S_specField {p : GPacket} (hp : pv p) {n : Nat} (h : n < 4) {κ : Int → Prop} (hk : κ (fieldP p n)) : L_spec_PacketField p n κ := by
  unfold L_spec_PacketField
  refine jnW_i (S_specPacketValid (ifW_of (fun e => by simp [hp] at e) (fun _ => S_l1In (ifW_of (fun e => by simp at e; omega) (fun _ => fields4 p h hk)))))
theorem S_spec_BoxHas {b : GBox} {p : GPacket} (hb : Bb b) {κ : Bool → Prop} (h : κ (decide (BV b ∧ pv p ∧ hb4 (sd b) p))) : L_spec_BoxHas b p κ := by
  unfold L_spec_BoxHas
  refine jnW_i (S_spec_BoxValid hb (ifW_of (fun e => ?_) (fun e => S_specPacketValid (ifW_of (fun e2 => ?_) (fun e2 => ?_)))))
  · have : ¬ BV b := by simpa using e
    rw [decide_eq_false (fun q => this q.1)] at h; exact ifW_t h
  · have : ¬ pv p := by simpa using e2
    rw [decide_eq_false (fun q => this q.2.1)] at h; exact h
  have hv' : BV b := by simpa using e
  have hp : pv p := by simpa using e2
  obtain ⟨a, rfl, hb4', hf⟩ := id hv'
  rw [sd_bx] at h
  refine count_loop 4 (fun s => s) (fun k s => s = (k : Int) ∧ k ≤ 4 ∧ ∀ n : Nat, n < k → hv (get4 a n) (fieldP p n)) (fun k s h => h.1) (fun k s h => h.2.1) ?_ ⟨rfl, by omega, fun n h => by omega⟩
  rintro k _ next ⟨rfl, hk, hw⟩ hn
  refine ifW_of (fun hc => ?_) (fun hc => ?_)
  · have hlt : k < 4 := by
      have : (k : Int) < 4 := by simpa using hc
      omega
    have k0 : (0 : Int) ≤ k := by omega
    have k3 : (k : Int) ≤ 3 := by omega
    refine idx4 (a := a) k0 k3 (S_specField hp hlt (S_spec_SpansHave (hb.2 _ (get4_mem a hlt)) (ifW_of (fun e => ?_) (fun e => ?_))))
    · have : ¬ hv (get4 a k) (fieldP p k) := by simpa using e
      rw [decide_eq_false (fun q => this ((hb4_iff a p).1 q.2.2 k hlt))] at h; exact h
    · have : hv (get4 a k) (fieldP p k) := by simpa using e
      refine addW_of (by omega) (by omega) (hn hlt _ ⟨by simp, by omega, fun n hnk => ?_⟩)
      by_cases q : n = k
      · subst q; exact this
      · exact hw n (by omega)
  · have hge : k = 4 := by
      have : (4 : Int) ≤ k := by simpa using hc
      omega
    subst hge
    rw [decide_eq_true ⟨hv', hp, (hb4_iff a p).2 hw⟩] at h; exact h

end
section
open Go Go.Proofs

def allF (l : List A4ListGSpan) : Prop := ∀ c ∈ l, F4 c
instance (l : List A4ListGSpan) : Decidable (allF l) := by unfold allF; infer_instance
def aB (l : List A4ListGSpan) : Prop := ∀ c ∈ l, B4 c
theorem allF_nil : allF [] := fun c h => by simp at h
theorem allF_app {l m : List A4ListGSpan} : allF (l ++ m) ↔ allF l ∧ allF m := by
  unfold allF
  simp only [List.mem_append]
  exact ⟨fun h => ⟨fun c hc => h c (.inl hc), fun c hc => h c (.inr hc)⟩, fun h c hc => hc.elim (h.1 c) (h.2 c)⟩
/-- every box is replaced by what b leaves of it -/
def lstep (left : List A4ListGSpan) (b : A4ListGSpan) : List A4ListGSpan := left.flatMap (fun c => cutF c b)
def okR (l : List A4ListGSpan) : Prop := allF l ∧ l.length ≤ 400
instance (l : List A4ListGSpan) : Decidable (okR l) := by unfold okR; infer_instance
def lgo : List A4ListGSpan → List A4ListGSpan → Option (List A4ListGSpan)
  | left, [] => some left
  | left, b :: bs => if okR (lstep left b) then lgo (lstep left b) bs else none
/-- what a region leaves of a box; none: there are too many boxes or ranges -/
def lessR (a : A4ListGSpan) (bs : List A4ListGSpan) : Option (List A4ListGSpan) := if em4 a then some [] else lgo [a] bs
def lres : Option (List A4ListGSpan) → List A4ListGSpan × Bool
  | some l => (l, true)
  | none => ([], false)
theorem lgo_nil : ∀ (bs : List A4ListGSpan), lgo [] bs = some []
  | [] => rfl
  | b :: bs => by
    have e : lstep [] b = [] := rfl
    unfold lgo
    rw [e, if_pos ⟨allF_nil, by simp⟩]
    exact lgo_nil bs
theorem lstep_app (l m : List A4ListGSpan) (b : A4ListGSpan) : lstep (l ++ m) b = lstep l b ++ lstep m b := by simp [lstep]
theorem lstep_one (c b : A4ListGSpan) : lstep [c] b = cutF c b := by simp [lstep]
theorem lstep_B {left : List A4ListGSpan} {b : A4ListGSpan} (hl : aB left) (hb : B4 b) : aB (lstep left b) := fun c hc => by
  obtain ⟨d, hd, hc⟩ := List.mem_flatMap.1 hc
  exact cutF_B4 (hl d hd) hb c hc
/-! ### which packets -/
def hbs (l : List A4ListGSpan) (p : GPacket) : Prop := ∃ c ∈ l, hb4 c p
instance (l : List A4ListGSpan) (p : GPacket) : Decidable (hbs l p) := by unfold hbs; infer_instance
theorem hbs_nil (p : GPacket) : ¬ hbs [] p := by simp [hbs]
theorem hbs_app (l m : List A4ListGSpan) (p : GPacket) : hbs (l ++ m) p ↔ hbs l p ∨ hbs m p := by
  unfold hbs
  simp only [List.mem_append]
  constructor
  · rintro ⟨c, h | h, k⟩
    · exact .inl ⟨c, h, k⟩
    · exact .inr ⟨c, h, k⟩
  · rintro (⟨c, h, k⟩ | ⟨c, h, k⟩)
    · exact ⟨c, .inl h, k⟩
    · exact ⟨c, .inr h, k⟩
theorem hbs_one (c : A4ListGSpan) (p : GPacket) : hbs [c] p ↔ hb4 c p := by simp [hbs]
theorem lessF_hv {a b : List GSpan} {t x : Int} (ha : St a t) (hb : St b t) : hv (lessF a b t) x ↔ hv a x ∧ ¬ hv b x := by
  unfold lessF
  rw [meetF_hv, otherF_hv hb]
  exact ⟨fun h => ⟨h.1, h.2.2.2⟩, fun h => ⟨h.1, (hv_range ha h.1).1, (hv_range ha h.1).2, h.2⟩⟩
theorem meet4_hb (a b : A4ListGSpan) (p : GPacket) : hb4 (meet4 a b) p ↔ hb4 a p ∧ hb4 b p := by
  unfold hb4 meet4
  simp only [meetF_hv]
  exact ⟨fun ⟨⟨a0, b0⟩, ⟨a1, b1⟩, ⟨a2, b2⟩, a3, b3⟩ => ⟨⟨a0, a1, a2, a3⟩, b0, b1, b2, b3⟩, fun ⟨⟨a0, a1, a2, a3⟩, b0, b1, b2, b3⟩ => ⟨⟨a0, b0⟩, ⟨a1, b1⟩, ⟨a2, b2⟩, a3, b3⟩⟩
theorem em4_hb {a : A4ListGSpan} (h : em4 a = true) (p : GPacket) : ¬ hb4 a p := by
  rintro ⟨h0, h1, h2, h3⟩
  simp only [em4, decide_eq_true_eq] at h
  rcases h with e | e | e | e
  · rw [e] at h0; exact hv_nil _ h0
  · rw [e] at h1; exact hv_nil _ h1
  · rw [e] at h2; exact hv_nil _ h2
  · rw [e] at h3; exact hv_nil _ h3
theorem hbs_pc {r : List GSpan} {c : A4ListGSpan} {p : GPacket} (h : r = [] → ¬ hb4 c p) : hbs (pc r c) p ↔ hb4 c p := by
  unfold pc
  split
  · rename_i e; exact ⟨fun q => absurd q (hbs_nil p), fun q => absurd q (h e)⟩
  · exact hbs_one c p
theorem cutF_hb {a b : A4ListGSpan} (ha : B4 a) (hb : B4 b) (p : GPacket) : hbs (cutF a b) p ↔ hb4 a p ∧ ¬ hb4 b p := by
  unfold cutF
  split
  · rename_i e
    have no := em4_hb e p
    rw [meet4_hb] at no
    split
    · rename_i e2; exact ⟨fun q => absurd q (hbs_nil p), fun q => absurd q.1 (em4_hb e2 p)⟩
    · rw [hbs_one]; exact ⟨fun q => ⟨q, fun r => no ⟨q, r⟩⟩, fun q => q.1⟩
  · obtain ⟨p0, p1, p2, p3⟩ := ha
    obtain ⟨q0, q1, q2, q3⟩ := hb
    rw [hbs_app, hbs_app, hbs_app]
    rw [hbs_pc (fun e q => hv_nil _ (e ▸ q.1)), hbs_pc (fun e q => hv_nil _ (e ▸ q.2.1)), hbs_pc (fun e q => hv_nil _ (e ▸ q.2.2.1)), hbs_pc (fun e q => hv_nil _ (e ▸ q.2.2.2))]
    simp only [hb4, meetF_hv, lessF_hv p0 q0, lessF_hv p1 q1, lessF_hv p2 q2, lessF_hv p3 q3]
    by_cases c0 : hv b.x0 p.xFrom <;> by_cases c1 : hv b.x1 p.xTo <;> by_cases c2 : hv b.x2 p.xPort <;> by_cases c3 : hv b.x3 p.xProto <;> simp only [c0, c1, c2, c3, not_true, not_false_eq_true, and_true, and_false, true_and, false_and, or_false, false_or, iff_self, and_self, or_self]
theorem lstep_hb {left : List A4ListGSpan} {b : A4ListGSpan} (hl : aB left) (hb : B4 b) (p : GPacket) : hbs (lstep left b) p ↔ hbs left p ∧ ¬ hb4 b p := by
  constructor
  · rintro ⟨c, hc, k⟩
    obtain ⟨d, hd, hc⟩ := List.mem_flatMap.1 hc
    have := (cutF_hb (hl d hd) hb p).1 ⟨c, hc, k⟩
    exact ⟨⟨d, hd, this.1⟩, this.2⟩
  · rintro ⟨⟨d, hd, k⟩, hn⟩
    obtain ⟨c, hc, k⟩ := (cutF_hb (hl d hd) hb p).2 ⟨k, hn⟩
    exact ⟨c, List.mem_flatMap.2 ⟨d, hd, hc⟩, k⟩
theorem lgo_hb : ∀ {bs left r : List A4ListGSpan}, aB left → aB bs → lgo left bs = some r → ∀ p, hbs r p ↔ hbs left p ∧ ¬ hbs bs p
  | [], left, r, hl, hb, h, p => by
    simp only [lgo, Option.some.injEq] at h; rw [← h]
    exact ⟨fun q => ⟨q, hbs_nil p⟩, fun q => q.1⟩
  | b :: bs, left, r, hl, hb, h, p => by
    unfold lgo at h
    split at h
    · have hb0 := hb b (by simp)
      rw [lgo_hb (lstep_B hl hb0) (fun c hc => hb c (by simp [hc])) h p, lstep_hb hl hb0]
      have e : hbs (b :: bs) p ↔ hb4 b p ∨ hbs bs p := by
        have := hbs_app [b] bs p
        rw [hbs_one] at this
        exact this
      rw [e]
      exact ⟨fun q => ⟨q.1.1, fun r => r.elim q.1.2 q.2⟩, fun q => ⟨⟨q.1, fun r => q.2 (.inl r)⟩, fun r => q.2 (.inr r)⟩⟩
    · cases h
theorem lessR_hb {a : A4ListGSpan} {bs r : List A4ListGSpan} (ha : B4 a) (hb : aB bs) (h : lessR a bs = some r) (p : GPacket) : hbs r p ↔ hb4 a p ∧ ¬ hbs bs p := by
  unfold lessR at h
  split at h
  · rename_i e
    injection h with h; subst h
    exact ⟨fun q => absurd q (hbs_nil p), fun q => absurd q.1 (em4_hb e p)⟩
  · rw [lgo_hb (fun c hc => by simp only [List.mem_singleton] at hc; subst hc; exact ha) hb h p, hbs_one]
/-! ### the program -/
theorem S_impl_less {a : A4ListGSpan} {bs : List A4ListGSpan} (ha : B4 a) (hf : F4 a) (hb : aB bs) (hl : bs.length ≤ 4294967296) {κ : List A4ListGSpan × Bool → Prop} (h : κ (lres (lessR a bs))) : L_impl_sides_lessRegion a bs κ := by
  unfold L_impl_sides_lessRegion
  refine S_empty4 (ifW_of (fun e => ?_) (fun e => ?_))
  · unfold lessR at h; rw [if_pos e] at h; exact h
  unfold lessR at h; rw [if_neg (by simp [e])] at h
  refine jnW_i ?_
  refine count_loop bs.length (fun s => s.2) (fun k (s : List A4ListGSpan × Int) => s.2 = (k : Int) ∧ k ≤ bs.length ∧ aB s.1 ∧ okR s.1 ∧ lgo [a] bs = lgo s.1 (bs.drop k)) (fun k s h => h.1) (fun k s h => h.2.1) ?_ ⟨rfl, by omega, fun c hc => by simp only [List.mem_singleton] at hc; subst hc; exact ha, ⟨fun c hc => by simp only [List.mem_singleton] at hc; subst hc; exact hf, by simp⟩, rfl⟩
  rintro k ⟨left, _⟩ next ⟨rfl, hk, hB, hO, he⟩ hn
  simp only at hB hO he
  refine ifW_of (fun hc => ?_) (fun hc => ?_)
  rotate_left
  · have hge : bs.length ≤ k := by simpa using hc
    rw [he, List.drop_of_length_le hge] at h
    exact h
  have hlt : k < bs.length := by simpa using hc
  rw [List.drop_eq_getElem_cons hlt] at he
  have hbk := hb _ (List.getElem_mem hlt)
  have no : ¬ okR (lstep left bs[k]) → κ ([], false) := fun q => by
    rw [he] at h; unfold lgo at h; rw [if_neg q] at h; exact h
  refine idxW_of k rfl hlt ?_
  have hlen := hO.2
  refine count_loop left.length (fun s => s.2) (fun j (s : List A4ListGSpan × Int) => s.2 = (j : Int) ∧ j ≤ left.length ∧ s.1 = lstep (left.take j) bs[k] ∧ okR (lstep (left.take j) bs[k])) (fun k s h => h.1) (fun k s h => h.2.1) ?_ ⟨rfl, by omega, by simp [lstep], by simp [lstep, okR, allF]⟩
  rintro j ⟨_, _⟩ next2 ⟨rfl, hj, hx, hok⟩ hn2
  simp only at hx
  subst hx
  refine ifW_of (fun hc2 => ?_) (fun hc2 => ?_)
  · have hjl : j < left.length := by simpa using hc2
    have hcB := hB _ (List.getElem_mem hjl)
    have hcF := hO.1 _ (List.getElem_mem hjl)
    have hl4 := cutF_len left[j] bs[k]
    have hl2 := hok.2
    have split3 : lstep left bs[k] = lstep (left.take j) bs[k] ++ (cutF left[j] bs[k] ++ lstep (left.drop (j + 1)) bs[k]) := by
      have := List.take_append_drop j left
      rw [List.drop_eq_getElem_cons hjl] at this
      have e2 := congrArg (fun l => lstep l bs[k]) this
      simp only [lstep_app] at e2
      rw [← e2]
      rw [show left[j] :: left.drop (j + 1) = [left[j]] ++ left.drop (j + 1) from rfl, lstep_app, lstep_one]
    refine idxW_of j rfl hjl (S_impl_cut hcB hbk hcF ?_)
    by_cases hFc : ∀ c ∈ cutF left[j] bs[k], F4 c
    · rw [show cutR2 left[j] bs[k] = (cutF left[j] bs[k], true) from if_pos hFc]
      refine jnW_i (ifW_f (addW_of (by omega) (by omega) (ifW_of (fun e => no (fun q => ?_)) (fun e => ?_))))
      · have := q.2
        rw [split3] at this
        simp only [List.length_append] at this
        simp at e
        omega
      · have e' : (lstep (left.take j) bs[k]).length + (cutF left[j] bs[k]).length ≤ 400 := by simp at e; omega
        refine appW_of (by omega) (addW_of (by omega) (by omega) (hn2 hjl _ ⟨by simp, by omega, ?_, ?_⟩))
        · rw [List.take_succ_eq_append_getElem hjl, lstep_app, lstep_one]
        · rw [List.take_succ_eq_append_getElem hjl, lstep_app, lstep_one]
          exact ⟨allF_app.2 ⟨hok.1, hFc⟩, by rw [List.length_append]; exact e'⟩
    · rw [show cutR2 left[j] bs[k] = ([], false) from if_neg hFc]
      refine jnW_i (ifW_t (ifW_t (no (fun q => hFc ?_))))
      have := q.1
      rw [split3] at this
      exact (allF_app.1 (allF_app.1 this).2).1
  · have hjge : left.length ≤ j := by simpa using hc2
    rw [List.take_of_length_le hjge] at hok ⊢
    have he2 : lgo [a] bs = lgo (lstep left bs[k]) (bs.drop (k + 1)) := by
      rw [he]; conv => lhs; unfold lgo
      rw [if_pos hok]
    refine ifW_of (fun e => ?_) (fun e => ?_)
    · have : lstep left bs[k] = [] := by
        have : (lstep left bs[k]).length = 0 := by
          have : ((lstep left bs[k]).length : Int) = 0 := by simpa using e
          omega
        exact List.length_eq_zero_iff.1 this
      rw [this] at he2 ⊢
      rw [he2, lgo_nil] at h
      exact h
    · exact addW_of (by omega) (by omega) (hn hlt _ ⟨by simp, by omega, lstep_B hB hbk, hok, he2⟩)
/-- valid rules as the program holds them -/
def IV (l : List GIflat) : Prop := ∀ f ∈ l, B4 f.xWhere ∧ F4 f.xWhere
theorem FV.iv {l : List GFlat} (h : FV l) : IV (l.map fl) := fun f hf => by
  obtain ⟨g, hg, rfl⟩ := List.mem_map.1 hf
  exact ⟨(h.2 g hg).b4, (h.2 g hg).f4⟩
def whs (l : List GIflat) : List A4ListGSpan := l.map (·.xWhere)
theorem IV.aB {l : List GIflat} (h : IV l) : aB (whs l) := fun c hc => by
  obtain ⟨f, hf, rfl⟩ := List.mem_map.1 hc
  exact (h f hf).1
theorem IV.take {l : List GIflat} (h : IV l) (n : Nat) : IV (l.take n) := fun f hf => h f (List.mem_of_mem_take hf)
/-- what the rules before it leave of a rule -/
def live (l : List GIflat) (n : Nat) (h : n < l.length) : Option (List A4ListGSpan) := lessR l[n].xWhere (whs (l.take n))
theorem S_liveOf {l : List GIflat} (hl : l.length ≤ 100000) (hv : IV l) {n : Nat} (hn : n < l.length) {κ : List A4ListGSpan × Bool → Prop} (h : κ (lres (live l n hn))) : L_impl_liveOf l n κ := by
  unfold L_impl_liveOf
  refine idxW_of n rfl hn ⟨by omega, by omega, by omega, ?_⟩
  have e : (l.take (n : Int).toNat).drop (0 : Int).toNat = l.take n := by simp
  rw [e]
  have hv2 := hv _ (List.getElem_mem hn)
  refine S_wheres (by simp; omega) (S_impl_less hv2.1 hv2.2 (hv.take n).aB (by unfold whs; rw [List.length_map, List.length_take]; omega) ?_)
  exact h
/-- rule n is dead -/
def dd (l : List GIflat) (n : Nat) : Bool := match h : l[n]? with | some f => decide (lessR f.xWhere (whs (l.take n)) = some []) | none => false
theorem dd_of {l : List GIflat} {n : Nat} (hn : n < l.length) : dd l n = decide (live l n hn = some []) := by
  unfold dd
  split
  · rename_i f hf
    obtain ⟨_, e⟩ := List.getElem?_eq_some_iff.1 hf
    unfold live; rw [e]
  · rename_i hf
    rw [List.getElem?_eq_none_iff] at hf; omega
def deads (l : List GIflat) : List Nat := (List.range l.length).filter (dd l)
theorem S_deadIn {l : List GIflat} (hl : l.length ≤ 100000) (hv : IV l) {κ : List Int → Prop} (h : κ ((deads l).map Int.ofNat)) : L_impl_deadIn l κ := by
  unfold L_impl_deadIn
  refine count_loop l.length (fun s => s.2) (fun k (s : List Int × Int) => s.2 = (k : Int) ∧ k ≤ l.length ∧ s.1 = ((List.range k).filter (dd l)).map Int.ofNat) (fun k s h => h.1) (fun k s h => h.2.1) ?_ ⟨rfl, by omega, rfl⟩
  rintro k ⟨_, _⟩ next ⟨rfl, hk, hx⟩ hn
  simp only at hx
  subst hx
  refine ifW_of (fun hc => ?_) (fun hc => ?_)
  · have hlt : k < l.length := by simpa using hc
    have hlen : (((List.range k).filter (dd l)).map Int.ofNat).length ≤ k := by
      rw [List.length_map]
      exact Nat.le_trans (List.length_filter_le _ _) (by simp)
    refine jnW_i (S_liveOf hl hv hlt ?_)
    have step : ∀ ys : List Int, ys = ((List.range (k + 1)).filter (dd l)).map Int.ofNat → addW (k : Int) 1 (fun t145 => next (ys, t145)) := fun ys hy =>
      addW_of (by omega) (by omega) (hn hlt _ ⟨by simp, by omega, hy⟩)
    have e1 : dd l k = true → ((List.range (k + 1)).filter (dd l)).map Int.ofNat = ((List.range k).filter (dd l)).map Int.ofNat ++ [(k : Int)] := fun q => by
      rw [List.range_succ, List.filter_append, List.map_append, List.filter_cons, q]; rfl
    have e0 : dd l k = false → ((List.range (k + 1)).filter (dd l)).map Int.ofNat = ((List.range k).filter (dd l)).map Int.ofNat := fun q => by
      rw [List.range_succ, List.filter_append, List.map_append, List.filter_cons, q]; simp
    have hd := dd_of hlt
    cases hlv : live l k hlt with
    | none =>
      rw [hlv] at hd
      have hd' : dd l k = false := by rw [hd]; simp
      exact jnW_i (ifW_f (ifW_f (step _ (e0 hd').symm)))
    | some r =>
      rw [hlv] at hd
      refine jnW_i (ifW_t (ifW_of (fun e => ?_) (fun e => ?_)))
      · have : r = [] := by
          have : r.length = 0 := by
            have : (r.length : Int) = 0 := by simpa using e
            omega
          exact List.length_eq_zero_iff.1 this
        subst this
        have hd' : dd l k = true := by rw [hd]; simp
        exact appW_of (by simp only [List.length_singleton]; omega) (step _ (e1 hd').symm)
      · have : r ≠ [] := fun q => by rw [q] at e; simp at e
        have hd' : dd l k = false := by rw [hd]; simpa using this
        exact step _ (e0 hd').symm
  · have hge : l.length ≤ k := by simpa using hc
    have : k = l.length := by omega
    subst this
    exact h
/-! ### the first rule with a packet -/
def fw (l : List GIflat) (p : GPacket) : Nat := l.findIdx (fun f => decide (hb4 f.xWhere p))
def fwI (l : List GIflat) (p : GPacket) : Int := if fw l p < l.length then (fw l p : Int) else -1
theorem fw_le (l : List GIflat) (p : GPacket) : fw l p ≤ l.length := List.findIdx_le_length
theorem fw_take {l : List GIflat} {p : GPacket} {k : Nat} (hk : k < l.length) (h : ∀ f ∈ l.take k, ¬ hb4 f.xWhere p) (h2 : hb4 l[k].xWhere p) : fw l p = k := by
  unfold fw
  rw [List.findIdx_eq (by omega)]
  refine ⟨by simpa using h2, fun j hj => ?_⟩
  have := h l[j] (by rw [List.mem_take_iff_getElem]; exact ⟨j, by omega, rfl⟩)
  simpa using this
theorem fw_none {l : List GIflat} {p : GPacket} (h : ∀ f ∈ l, ¬ hb4 f.xWhere p) : fw l p = l.length := by
  unfold fw
  rw [List.findIdx_eq_length]
  intro f hf
  simpa using h f hf
theorem S_firstWith {l : List GIflat} {p : GPacket} (hl : l.length ≤ 4294967296) (hv : IV l) {κ : Int → Prop} (h : κ (fwI l p)) : L_impl_firstWith l p κ := by
  unfold L_impl_firstWith L_slices_IndexFunc_impl_flat_impl_flat__impl_firstWith_1
  refine count_loop l.length (fun s => s) (fun k s => s = (k : Int) ∧ k ≤ l.length ∧ ∀ f ∈ l.take k, ¬ hb4 f.xWhere p) (fun k s h => h.1) (fun k s h => h.2.1) ?_ ⟨rfl, by omega, by simp⟩
  rintro k _ next ⟨rfl, hk, hno⟩ hn
  refine ifW_of (fun hc => ?_) (fun hc => ?_)
  · have hlt : k < l.length := by simpa using hc
    refine idxW_of k rfl hlt ?_
    unfold L_impl_firstWith_1
    refine S_has (F4_L4 (hv _ (List.getElem_mem hlt)).2) (ifW_of (fun e => ?_) (fun e => ?_))
    · have := fw_take hlt hno (by simpa using e)
      unfold fwI at h; rw [this, if_pos hlt] at h; exact h
    · refine addW_of (by omega) (by omega) (hn hlt _ ⟨by simp, by omega, fun f hf => ?_⟩)
      rw [List.take_succ_eq_append_getElem hlt] at hf
      rcases List.mem_append.1 hf with q | q
      · exact hno f q
      · simp only [List.mem_singleton] at q; rw [q]; simpa using e
  · have hge : l.length ≤ k := by simpa using hc
    rw [List.take_of_length_le hge] at hno
    have := fw_none hno
    unfold fwI at h; rw [this, if_neg (by omega)] at h; exact h

end
section
open Go.Lib (decDigits)

open Classical in
/-- the rule that a line holds -/
noncomputable def rd (l : List UInt8) : Option GRule := if h : ∃ r, RV r ∧ rtx0 r = l then some h.choose else none
/-- chains that only grow -/
def Le (cs ds : List (List GRule)) : Prop := cs.length ≤ ds.length ∧ ∀ (i : Nat) (c : List GRule), cs[i]? = some c → ∃ e, ds[i]? = some (c ++ e)
theorem Le.refl (cs : List (List GRule)) : Le cs cs := ⟨Nat.le_refl _, fun i c h => ⟨[], by simpa using h⟩⟩
theorem Le.trans {a b c : List (List GRule)} (h : Le a b) (h' : Le b c) : Le a c := ⟨Nat.le_trans h.1 h'.1, fun i x hx => by
  obtain ⟨e, he⟩ := h.2 i x hx
  obtain ⟨e', he'⟩ := h'.2 i _ he
  exact ⟨e ++ e', by rw [he', List.append_assoc]⟩⟩
end
section
open Go.Lib (decDigits)

/-- lengths of an argument that is not too big -/
def Br (r : GRule) : Prop := r.xTests.length ≤ 1048576
def Bq (c : List GRule) : Prop := c.length ≤ 1048576 ∧ ∀ r, r ∈ c → Br r
def Bs (cs : List (List GRule)) : Prop := cs.length ≤ 1048576 ∧ ∀ c, c ∈ cs → Bq c
theorem Bs.bd {s : GRuleset} (h : Bs s.xChains) : Bd s := ⟨by have := h.1; omega, fun c hc => ⟨by have := (h.2 c hc).1; omega, fun r hr => by have : r.xTests.length ≤ 1048576 := (h.2 c hc).2 r hr; omega⟩⟩
theorem SV.bs {s : GRuleset} (h : SV s) : Bs s.xChains := ⟨by have := h.1.1; omega, fun c hc => ⟨by have := (h.1.2 c hc).1; omega, fun r hr => by have : r.xTests.length ≤ 6 := ((h.1.2 c hc).2 r hr).1.1.2; unfold Br; omega⟩⟩
/-! marks -/
/-! lines -/
end
section
open Go.Lib (decDigits)

theorem w64_in {x : Int} (h1 : -9223372036854775808 ≤ x) (h2 : x ≤ 9223372036854775807) : w64 x = x := by
  simp [w64, IntKind.wrap, IntKind.signed, IntKind.bits]; omega
/-- lines that are not too long -/
def Bl (ls : List (List UInt8)) : Prop := ls.length ≤ 3000000 ∧ ∀ l, l ∈ ls → l.length ≤ 10000000
theorem Bl.take {ls : List (List UInt8)} (h : Bl ls) (n : Nat) : Bl (ls.take n) := ⟨by have := h.1; simp; omega, fun l hl => h.2 l (List.mem_of_mem_take hl)⟩
/-! the reference -/
/-- sizes of what the reference reads -/
def Zs (k : Nat) (cs : List (List GRule)) : Prop := cs.length ≤ k ∧ ∀ c, c ∈ cs → c.length ≤ k ∧ ∀ r, r ∈ c → RV r
theorem Zs.bd {k : Nat} {cs : List (List GRule)} {a : Bool} (h : Zs k cs) (hk : k ≤ 4000000) : Bd ⟨cs, a⟩ := ⟨by have := h.1; simp only; omega, fun c hc => ⟨by have := (h.2 c hc).1; omega, fun r hr => by have : r.xTests.length ≤ 6 := ((h.2 c hc).2 r hr).1.2; omega⟩⟩
end
section
open Go.Lib (decDigits)

theorem S_odd0 {b : List UInt8} {p : Int} {κ : Bool × Int → Prop} (h : κ (false, p)) : L_spec_l20Rd_odd b p 0 κ := by
  unfold L_spec_l20Rd_odd jnW
  exact ifW_of (fun hx => by simp at hx) (fun _ => h)
def SpW (tp : Int) (q : GSpan) : Prop := 0 ≤ q.xLo ∧ q.xLo ≤ q.xHi ∧ q.xHi ≤ tp
theorem S_l20SpanV {b : List UInt8} {p tp : Int} (hb : b.length ≤ 2000) (h0 : 0 ≤ p) (hp : p ≤ 900000) (ht0 : 7 ≤ tp) (ht : tp ≤ 65535) {κ : GSpan × Int → Prop} (h : ∀ q p', p ≤ p' → p' ≤ p + 20 → SpW tp q → κ (q, p')) : L_spec_l20Span b p tp 0 κ := by
  have rd : ∀ p', p ≤ p' → p' ≤ p + 30 → RdP b p' := fun p' a c => ⟨hb, by omega, by omega⟩
  have B3 : ∀ (t144 t145 : Int), p ≤ t144 → t144 ≤ p + 6 → 0 ≤ t145 → t145 ≤ tp → L_spec_l20Rd_pick b t144 4 (fun (r150, r151) => L_spec_l20Rd_pick b r151 256 (fun (r152, r153) => L_spec_l20Rd_pick b r153 4 (fun (r155, r156) => idxW ([0, r150, r152, 4096]) r155 (fun e157 => L_spec_l20Rd_odd b r156 0 (fun (r174, r175) => ifW r174 (L_spec_l20Rd_pick b r175 3 (fun (r181, r182) => idxW ([(GSpan.mk (w64 ((min tp (w64 (t145 + e157))) + 1)) (min tp (w64 (t145 + e157)))), (GSpan.mk (-1) (min tp (w64 (t145 + e157)))), (GSpan.mk t145 (w64 (tp + 1)))]) r181 (fun e183 => κ ((GSpan.mk e183.xLo e183.xHi), r182)))) (κ ((GSpan.mk t145 (min tp (w64 (t145 + e157)))), r175))))))) := by
    intro t144 t145 g1 g2 g3 g4
    refine S_pick (rd _ (by omega) (by omega)) (fun v1 a1 c1 => S_pick (rd _ (by omega) (by omega)) (fun v2 a2 c2 => S_pick (rd _ (by omega) (by omega)) (fun v3 a3 c3 => idxW_any (by omega) (by simp; omega) (fun x hx => ?_))))
    have hx2 : 0 ≤ x ∧ x ≤ 4096 := by
      simp only [List.mem_cons, List.not_mem_nil, or_false] at hx
      rcases hx with e | e | e | e <;> subst e <;> omega
    have hw : w64 (t145 + x) = t145 + x := w64_in (by omega) (by omega)
    refine S_odd0 (ifW_of (fun hx => by simp at hx) (fun _ => h _ _ (by omega) (by omega) ?_))
    rw [hw]
    refine ⟨g3, ?_, ?_⟩ <;> simp only <;> omega
  unfold L_spec_l20Span
  refine addW_of (by omega) (by omega) (S_pick (rd p (by omega) (by omega)) (fun v a c => ?_))
  unfold jnW
  refine ifW_of (fun _ => ?_) (fun _ => ?_)
  · refine S_pick (rd _ (by omega) (by omega)) (fun v5 a5 c5 => ?_)
    refine ifW_of (fun _ => ?_) (fun _ => ?_)
    · refine S_pick (rd _ (by omega) (by omega)) (fun v6 a6 c6 => ?_)
      have hw1 : w64 (v * 256) = v * 256 := w64_in (by omega) (by omega)
      have hw2 : w64 (v * 256 + v6) = v * 256 + v6 := w64_in (by omega) (by omega)
      refine B3 _ _ (by omega) (by omega) ?_ ?_ <;> rw [hw1, hw2] <;> omega
    · exact B3 _ _ (by omega) (by omega) (by omega) (by omega)
  · refine ifW_of (fun e => by cases e) (fun _ => B3 _ _ (by omega) (by omega) (by omega) (by omega))
theorem S_l20TestV {b : List UInt8} {p : Int} (hb : b.length ≤ 2000) (h0 : 0 ≤ p) (hp : p ≤ 800000) {κ : GTest × Int → Prop} (h : ∀ q p', p ≤ p' → p' ≤ p + 50 → TV q → κ (q, p')) : L_spec_l20Test b p 0 κ := by
  have rd : ∀ p', p ≤ p' → p' ≤ p + 60 → RdP b p' := fun p' a c => ⟨hb, by omega, by omega⟩
  unfold L_spec_l20Test
  refine S_pick (rd p (by omega) (by omega)) (fun f a1 c1 => S_pick (rd _ (by omega) (by omega)) (fun nt a2 c2 => S_spec_FieldTop (by omega) (by omega) ?_))
  have ht := top_le f
  refine S_l20SpanV hb (by omega) (by omega) ht.1 ht.2 (fun sp p1 g1 g2 hsp => ?_)
  unfold jnW
  have fin : ∀ (t241 t242 t243 : Int), p ≤ t241 → t241 ≤ p + 35 → 0 ≤ t242 → t242 ≤ t243 → t243 ≤ top f → L_spec_l20Rd_odd b t241 0 (fun (r245, r246) => ifW r245 (L_spec_l20Rd_pick b r246 3 (fun (r247, r248) => ifW (decide (r247 = 0)) (L_spec_l20Rd_pick b r248 2 (fun (r251, r252) => idxW ([(-1), 4]) r251 (fun e253 => κ ((GTest.mk e253 t242 t243 (decide (nt = 0))), r252)))) (ifW (decide (r247 = 1)) (addW t243 1 (fun t255 => κ ((GTest.mk f t255 t243 (decide (nt = 0))), r248))) (addW (top f) 1 (fun t256 => κ ((GTest.mk f t242 t256 (decide (nt = 0))), r248)))))) (κ ((GTest.mk f t242 t243 (decide (nt = 0))), r246))) := by
    intro t241 t242 t243 q1 q2 q3 q4 q5
    exact S_odd0 (ifW_of (fun hx => by simp at hx) (fun _ => h _ _ (by omega) (by omega) ⟨a1, by simp only; omega, q3, q4, q5⟩))
  have mid : ∀ (t152 t153 t154 : Int), p ≤ t152 → t152 ≤ p + 30 → 0 ≤ t153 → t153 ≤ t154 → t154 ≤ top f → L_spec_l20Rd_pick b t152 8 (fun (r156, r157) => ifW (decide (r156 = 0)) (L_spec_l20Rd_pick b r157 3 (fun (r163, r164) => idxW ([(GSpan.mk 0 (top f)), (GSpan.mk 0 t154), (GSpan.mk t153 (top f))]) r163 (fun e165 => L_spec_l20Rd_odd b r164 0 (fun (r245, r246) => ifW r245 (L_spec_l20Rd_pick b r246 3 (fun (r247, r248) => ifW (decide (r247 = 0)) (L_spec_l20Rd_pick b r248 2 (fun (r251, r252) => idxW ([(-1), 4]) r251 (fun e253 => κ ((GTest.mk e253 e165.xLo e165.xHi (decide (nt = 0))), r252)))) (ifW (decide (r247 = 1)) (addW e165.xHi 1 (fun t255 => κ ((GTest.mk f t255 e165.xHi (decide (nt = 0))), r248))) (addW (top f) 1 (fun t256 => κ ((GTest.mk f e165.xLo t256 (decide (nt = 0))), r248)))))) (κ ((GTest.mk f e165.xLo e165.xHi (decide (nt = 0))), r246)))))) (L_spec_l20Rd_odd b r157 0 (fun (r245, r246) => ifW r245 (L_spec_l20Rd_pick b r246 3 (fun (r247, r248) => ifW (decide (r247 = 0)) (L_spec_l20Rd_pick b r248 2 (fun (r251, r252) => idxW ([(-1), 4]) r251 (fun e253 => κ ((GTest.mk e253 t153 t154 (decide (nt = 0))), r252)))) (ifW (decide (r247 = 1)) (addW t154 1 (fun t255 => κ ((GTest.mk f t255 t154 (decide (nt = 0))), r248))) (addW (top f) 1 (fun t256 => κ ((GTest.mk f t153 t256 (decide (nt = 0))), r248)))))) (κ ((GTest.mk f t153 t154 (decide (nt = 0))), r246))))) := by
    intro t152 t153 t154 q1 q2 q3 q4 q5
    refine S_pick (rd _ (by omega) (by omega)) (fun v4 a4 c4 => ifW_of (fun _ => ?_) (fun _ => fin _ _ _ (by omega) (by omega) q3 q4 q5))
    refine S_pick (rd _ (by omega) (by omega)) (fun v5 a5 c5 => idxW_any (by omega) (by simp; omega) (fun y hy => ?_))
    have hb : 0 ≤ y.xLo ∧ y.xLo ≤ y.xHi ∧ y.xHi ≤ top f := by rcases mem3 hy with e | e | e <;> subst e <;> simp only <;> omega
    exact fin _ _ _ (by omega) (by omega) hb.1 hb.2.1 hb.2.2
  refine ifW_of (fun hf => ?_) (fun _ => ?_)
  · have htf : top f = 65535 := by simp at hf; unfold top; rw [if_pos (by omega)]
    refine S_pick (rd _ (by omega) (by omega)) (fun v a c => ?_)
    refine ifW_of (fun _ => ?_) (fun _ => mid _ _ _ (by omega) (by omega) hsp.1 hsp.2.1 hsp.2.2)
    refine S_pick (rd _ (by omega) (by omega)) (fun v2 a2 c2 => S_pick (rd _ (by omega) (by omega)) (fun v3 a3 c3 => ?_))
    have hw : w64 (v2 + v3) = v2 + v3 := w64_small (by omega) (by omega)
    exact mid _ _ _ (by omega) (by omega) (by omega) (by rw [hw]; omega) (by rw [hw]; omega)
  · exact ifW_of (fun e => by cases e) (fun _ => mid _ _ _ (by omega) (by omega) hsp.1 hsp.2.1 hsp.2.2)
theorem S_l20TestsV {b : List UInt8} {p : Int} (hb : b.length ≤ 2000) (h0 : 0 ≤ p) (hp : p ≤ 700000) {κ : List GTest × Int → Prop} (h : ∀ ts p', p ≤ p' → p' ≤ p + 300 → TsV ts → κ (ts, p')) : L_spec_l20Tests b p 0 κ := by
  have rd : ∀ p', p ≤ p' → p' ≤ p + 300 → RdP b p' := fun p' a c => ⟨hb, by omega, by omega⟩
  unfold L_spec_l20Tests
  refine S_pick (rd p (by omega) (by omega)) (fun v a c => ?_)
  refine loopW_inv (fun s => 0 ≤ s.2.2 ∧ s.2.2 ≤ 3 ∧ p ≤ s.1 ∧ s.1 ≤ p + 1 + 50 * (3 - s.2.2) ∧ s.2.1.length + s.2.2.toNat ≤ 3 ∧ ∀ t, t ∈ s.2.1 → TV t) (fun s => s.2.2.toNat) ?_ ⟨a, by simp only; omega, by simp only; omega, by simp only; omega, by simp only [List.length_nil]; omega, by simp⟩
  rintro ⟨q, xs, k⟩ next ⟨k0, k1, q0, q1, hx, hv⟩ hnx
  simp only at k0 k1 q0 q1 hx hv
  refine ifW_of (fun hc => ?_) (fun hc => ?_)
  · simp at hc
    refine S_l20TestV hb (by omega) (by omega) (fun t p' g1 g2 tv => appW_of (by simp; omega) (subW_of (by omega) (by omega) (hnx _ ⟨by simp only; omega, by simp only; omega, by simp only; omega, by simp only; omega, by simp; omega, fun y hy => ?_⟩ (by simp only; omega))))
    rcases List.mem_append.1 hy with hy | hy
    · exact hv y hy
    · rw [List.mem_singleton] at hy; subst hy; exact tv
  · simp at hc
    unfold jnW
    exact S_odd0 (ifW_of (fun hx => by simp at hx) (fun _ => h _ _ (by omega) (by omega) ⟨hv, by omega⟩))
end
section


theorem S_specReverse {p : GPacket} {κ : GPacket → Prop} (h : κ (if pv p then rev p else ⟨0, 0, 0, 0⟩)) : L_spec_ReversePacket p κ := by
  unfold L_spec_ReversePacket
  refine S_specPacketValid (ifW_of (fun hc => ?_) (fun hc => ?_))
  · rw [if_neg (by simpa using hc)] at h; exact h
  · rw [if_pos (by simpa using hc)] at h; exact h
/-! what tracking leaves -/

end
section


/-! tests -/
def th (t : GTest) (p : GPacket) : Bool := decide (t.xLo ≤ fieldP p t.xField.toNat ∧ fieldP p t.xField.toNat ≤ t.xHi) != t.xNot
def ft (l : List GTest) (p : GPacket) : Bool := l.all (fun t => th t p)
/-! heights of chains -/
def Hh (cs : List (List GRule)) : Nat → Nat → Prop
  | 0, _ => False
  | n + 1, i => ∀ j, Ca cs i j → Hh cs n j
/-! the decision -/
/-- through the rules of a chain, given what the chains that are called decide: 1 accept, 2 drop, 5 nothing -/
def jl (p : GPacket) (call : Nat → Int) : List GRule → Int
  | [] => 5
  | r :: l => if ft r.xTests p = true then
      (if r.xAction = 1 then 1 else if r.xAction = 2 then 2 else if r.xAction = 4 then 5 else if r.xAction = 3 then (if call r.xChain.toNat = 5 then jl p call l else call r.xChain.toNat) else jl p call l)
      else jl p call l
def chn (cs : List (List GRule)) (i : Nat) : List GRule := cs[i]?.getD []
def jc (cs : List (List GRule)) (p : GPacket) : Nat → Nat → Int
  | 0, _ => 5
  | n + 1, i => jl p (jc cs p n) (chn cs i)
/-- calls go to chains that are numbered from 0 -/
def Cn (cs : List (List GRule)) : Prop := ∀ i r, r ∈ chn cs i → r.xAction = 3 → 0 ≤ r.xChain
open Classical in
/-- a number of steps that serves for all chains -/
noncomputable def jN (cs : List (List GRule)) : Nat := if h : ∃ N, ∀ i, Hh cs (N + 1) i then h.choose else 0
/-- what chain i decides about a packet -/
noncomputable def J (cs : List (List GRule)) (p : GPacket) (i : Nat) : Int := jc cs p (jN cs + 1) i
theorem SV.cn {s : GRuleset} (h : SV s) : Cn s.xChains := by
  intro i r hr h3
  unfold chn at hr
  cases e : s.xChains[i]? with
  | none => rw [e] at hr; simp at hr
  | some c =>
    rw [e] at hr
    exact (((h.1.2 c (List.mem_of_getElem? e)).2 r hr).1.2.2.2.1 h3).1
/-! the reference's walk -/

end
section


theorem nodup_len : ∀ (n : Nat) (l : List Nat), l.Nodup → (∀ x, x ∈ l → x < n) → l.length ≤ n
  | 0, [], _, _ => by simp
  | 0, x :: l, _, h => by have := h x (by simp); omega
  | n + 1, l, hd, h => by
    by_cases hm : n ∈ l
    · obtain ⟨s, t, rfl⟩ := List.append_of_mem hm
      have hnd : (s ++ t).Nodup ∧ n ∉ s ++ t := by
        rw [List.nodup_append] at hd ⊢
        simp only [List.nodup_cons, List.mem_cons] at hd
        obtain ⟨h1, ⟨h2, h3⟩, h4⟩ := hd
        refine ⟨⟨h1, h3, fun a ha b hb => h4 a ha b (.inr hb)⟩, fun hmem => ?_⟩
        rcases List.mem_append.1 hmem with hs | ht
        · exact h4 n hs n (.inl rfl) rfl
        · exact h2 ht
      have := nodup_len n (s ++ t) hnd.1 (fun x hx => by
        have h1 := h x (by
          rcases List.mem_append.1 hx with hx | hx
          · exact List.mem_append.2 (.inl hx)
          · exact List.mem_append.2 (.inr (List.mem_cons_of_mem _ hx)))
        have h2 : x ≠ n := fun e => hnd.2 (e ▸ hx)
        omega)
      simp at this ⊢; omega
    · have := nodup_len n l hd (fun x hx => by
        have h1 := h x hx
        have h2 : x ≠ n := fun e => hm (e ▸ hx)
        omega)
      omega

def okP (cs : List (List GRule)) (q : GPlace) : Prop := 0 ≤ q.xChain ∧ q.xChain.toNat < cs.length ∧ 0 ≤ q.xNext ∧ q.xNext.toNat ≤ (chn cs q.xChain.toNat).length
/-- the stack: places that are there, each chain called by the one below it -/
def Stk (cs : List (List GRule)) (xs : List GPlace) : Prop := (∀ q, q ∈ xs → okP cs q) ∧ xs.Pairwise (fun a b => Wy cs a.xChain.toNat b.xChain.toNat)
theorem Stk.len {cs : List (List GRule)} {xs : List GPlace} (hs : ∀ i, i < cs.length → Sf cs i) (h : Stk cs xs) : xs.length ≤ cs.length := by
  have hn : (xs.map (fun q => q.xChain.toNat)).Nodup := by
    rw [List.Nodup, List.pairwise_map]
    refine List.Pairwise.imp_of_mem (fun {a b} ha hb hw e => ?_) h.2
    rw [← e] at hw
    exact wy_loop (hs _ (h.1 a ha).2.1) hw
  have := nodup_len cs.length _ hn (fun x hx => by
    obtain ⟨q, hq, rfl⟩ := List.mem_map.1 hx
    exact (h.1 q hq).2.1)
  simpa using this
theorem Stk.drop {cs : List (List GRule)} {ys : List GPlace} {q : GPlace} (h : Stk cs (ys ++ [q])) : Stk cs ys := ⟨fun x hx => h.1 x (List.mem_append.2 (.inl hx)), (List.pairwise_append.1 h.2).1⟩
theorem Stk.move {cs : List (List GRule)} {ys : List GPlace} {q q' : GPlace} (h : Stk cs (ys ++ [q])) (hq : okP cs q') (hc : q'.xChain = q.xChain) : Stk cs (ys ++ [q']) := by
  refine ⟨fun x hx => ?_, ?_⟩
  · rcases List.mem_append.1 hx with hx | hx
    · exact h.1 x (List.mem_append.2 (.inl hx))
    · rw [List.mem_singleton] at hx; subst hx; exact hq
  · obtain ⟨h1, _, h3⟩ := List.pairwise_append.1 h.2
    refine List.pairwise_append.2 ⟨h1, by simp, fun a ha b hb => ?_⟩
    rw [List.mem_singleton] at hb
    subst hb
    rw [hc]
    exact h3 a ha q (by simp)
theorem Stk.push {cs : List (List GRule)} {ys : List GPlace} {q q' : GPlace} (h : Stk cs (ys ++ [q])) (hq : okP cs q') (hc : Ca cs q.xChain.toNat q'.xChain.toNat) : Stk cs (ys ++ [q] ++ [q']) := by
  refine ⟨fun x hx => ?_, ?_⟩
  · rcases List.mem_append.1 hx with hx | hx
    · exact h.1 x hx
    · rw [List.mem_singleton] at hx; subst hx; exact hq
  · refine List.pairwise_append.2 ⟨h.2, by simp, fun a ha b hb => ?_⟩
    rw [List.mem_singleton] at hb
    subst hb
    rcases List.mem_append.1 ha with ha | ha
    · exact .more ((List.pairwise_append.1 h.2).2.2 a ha q (by simp)) hc
    · rw [List.mem_singleton] at ha; subst ha; exact .one hc
end
section


/-! draws -/
theorem S_l20Packet {b : List UInt8} {p n : Int} (hb : b.length ≤ 2000) (h0 : 0 ≤ p) (h1 : p ≤ 900000) (hn : n ≤ 4294967296) {κ : GPacket × Int → Prop} (h : ∀ k p', p ≤ p' → p' ≤ p + 20 → κ (k, p')) : L_spec_l20Packet b p n κ := by
  unfold L_spec_l20Packet
  have rd : ∀ q, 0 ≤ q → q ≤ 900040 → RdP b q := fun q q1 q2 => ⟨hb, q1, by omega⟩
  refine S_pick (rd _ (by omega) (by omega)) (fun a a1 a2 => S_pick (rd _ (by omega) (by omega)) (fun c c1 c2 => S_pick (rd _ (by omega) (by omega)) (fun d d1 d2 => S_pick (rd _ (by omega) (by omega)) (fun e e1 e2 => ?_))))
  have fin : ∀ (q x y z : Int), p ≤ q → q ≤ p + 12 → L_spec_l20Rd_odd b q n (fun (r44, r45) => ifW r44 (L_spec_l20Rd_pick b r45 4 (fun (r46, r47) => ifW (decide (r46 = 0)) (L_spec_l20Rd_pick b r47 2 (fun (r50, r51) => idxW ([(-1), 65536]) r50 (fun e52 => κ ((GPacket.mk e52 y z e), r51)))) (ifW (decide (r46 = 1)) (L_spec_l20Rd_pick b r47 2 (fun (r56, r57) => idxW ([(-1), 65536]) r56 (fun e58 => κ ((GPacket.mk x e58 z e), r57)))) (ifW (decide (r46 = 2)) (L_spec_l20Rd_pick b r47 2 (fun (r62, r63) => idxW ([(-1), 256]) r62 (fun e64 => κ ((GPacket.mk x y e64 e), r63)))) (L_spec_l20Rd_pick b r47 2 (fun (r68, r69) => idxW ([(-1), 8]) r68 (fun e70 => κ ((GPacket.mk x y z e70), r69)))))))) (κ ((GPacket.mk x y z e), r45))) := by
    intro q x y z q1 q2
    refine S_odd (rd _ (by omega) (by omega)) hn (fun o r r1 r2 => ifW_of (fun _ => S_pick (rd _ (by omega) (by omega)) (fun k k1 k2 => ?_)) (fun _ => h _ _ (by omega) (by omega)))
    refine ifW_of (fun _ => ?_) (fun _ => ifW_of (fun _ => ?_) (fun _ => ifW_of (fun _ => ?_) (fun _ => ?_)))
    all_goals exact S_pick (rd _ (by omega) (by omega)) (fun j j1 j2 => idxW_any j1 (by simp; omega) (fun x hx => h _ _ (by omega) (by omega)))
  unfold jnW
  refine S_pick (rd _ (by omega) (by omega)) (fun v v1 v2 => ifW_of (fun _ => ?_) (fun _ => ?_))
  · refine S_pick (rd _ (by omega) (by omega)) (fun f f1 f2 => mulW_of (by omega) (by omega) (S_pick (rd _ (by omega) (by omega)) (fun g g1 g2 => addW_of (by omega) (by omega) (S_pick (rd _ (by omega) (by omega)) (fun i i1 i2 => mulW_of (by omega) (by omega) (S_pick (rd _ (by omega) (by omega)) (fun j j1 j2 => addW_of (by omega) (by omega) (S_pick (rd _ (by omega) (by omega)) (fun l l1 l2 => ?_)))))))))
    exact fin _ _ _ _ (by omega) (by omega)
  · exact fin _ _ _ _ (by omega) (by omega)
/-! the program's other functions -/
/-! the exact law -/

end
section


/-! judging many packets -/
def allP (l : List GPacket) : Prop := l.length ≤ 50 ∧ ∀ p, p ∈ l → pv p
theorem S_packetsValid {l : List GPacket} {κ : Bool → Prop} (hl : l.length ≤ 4294967296) (h : ∀ b, (b = true ↔ allP l) → κ b) : L_impl_packetsValid l κ := by
  unfold L_impl_packetsValid
  refine ifW_of (fun hc => h _ ⟨fun e => (by cases e), fun e => (by have := e.1; simp at hc; omega)⟩) (fun hc => ?_)
  refine count_loop l.length (fun s => s) (fun k s => s = (k : Int) ∧ k ≤ l.length ∧ ∀ p, p ∈ l.take k → pv p) (fun k s h => h.1) (fun k s h => h.2.1) ?_ ⟨rfl, Nat.zero_le _, by simp⟩
  rintro k _ next ⟨rfl, hk, hp⟩ hn
  refine ifW_of (fun hc2 => ?_) (fun hc2 => ?_)
  · have hlt : k < l.length := by simpa using hc2
    refine idxW_of k rfl hlt (S_PacketValid (ifW_of (fun hx => h _ ⟨fun e => (by cases e), fun e => ?_⟩) (fun hx => addW_of (by omega) (by omega) (hn hlt _ ⟨by omega, by omega, fun p hp' => ?_⟩))))
    · rw [decide_eq_true (e.2 _ (List.getElem_mem hlt))] at hx; cases hx
    · rw [List.take_succ_eq_append_getElem hlt, List.mem_append, List.mem_singleton] at hp'
      rcases hp' with hp' | rfl
      · exact hp p hp'
      · simpa using hx
  · have hge : l.length ≤ k := by simpa using hc2
    rw [List.take_of_length_le hge] at hp
    exact h _ ⟨fun _ => ⟨by simp at hc; omega, hp⟩, fun _ => rfl⟩
/-! draws -/
theorem S_l20Packets {b : List UInt8} {p n : Int} (hb : b.length ≤ 2000) (h0 : 0 ≤ p) (h1 : p ≤ 500000) (hn : n ≤ 4294967296) {κ : List GPacket × Int → Prop} (h : ∀ l p', p ≤ p' → p' ≤ p + 500 → l.length ≤ 60 → κ (l, p')) : L_spec_l20Packets b p n κ := by
  have rd : ∀ q, p ≤ q → q ≤ p + 600 → RdP b q := fun q q1 q2 => ⟨hb, by omega, by omega⟩
  unfold L_spec_l20Packets
  refine S_pick (rd _ (by omega) (by omega)) (fun v v1 v2 => ?_)
  refine loopW_inv (fun s => (0 ≤ s.2.2 ∧ s.2.2 ≤ 7) ∧ (p + 1 ≤ s.1 ∧ s.1 ≤ p + 1 + 30 * (7 - s.2.2)) ∧ (s.2.1.length : Int) ≤ 2 * (7 - s.2.2)) (fun s => s.2.2.toNat) ?_ ⟨⟨v1, by simp only; omega⟩, by simp only; omega, by simp; omega⟩
  rintro ⟨q, xs, i⟩ next ⟨⟨i1, i2⟩, ⟨q1, q2⟩, hx⟩ hnx
  simp only at i1 i2 q1 q2 hx
  unfold jnW
  refine ifW_of (fun hi => ?_) (fun hi => ?_)
  · have hi : 0 < i := by simpa using hi
    refine S_l20Packet hb (by omega) (by omega) (by omega) (fun k q' r1 r2 => appW_of (by simp; omega) ?_)
    have fin : ∀ (ys : List GPacket) (q'' : Int), p + 1 ≤ q'' → q'' ≤ q + 25 → (ys.length : Int) ≤ 2 * (7 - (i - 1)) → subW i 1 (fun t162 => next (q'', ys, t162)) := fun ys q'' a1 a2 a3 => subW_of (by omega) (by omega) (hnx _ ⟨⟨by simp only; omega, by simp only; omega⟩, ⟨by simp only; omega, by simp only; omega⟩, by simp only; omega⟩ (by simp only; omega))
    refine ifW_of (fun hc => S_pick (rd _ (by omega) (by omega)) (fun z z1 z2 => ifW_of (fun _ => ?_) (fun _ => fin _ _ (by omega) (by omega) (by simp; omega)))) (fun hc => ifW_of (fun e => by cases e) (fun _ => fin _ _ (by omega) (by omega) (by simp; omega)))
    refine S_pick (rd _ (by omega) (by omega)) (fun u u1 u2 => idxW_any u1 (by simp at u2 ⊢; omega) (fun x _ => S_specReverse (appW_of (by simp; omega) (fin _ _ (by omega) (by omega) (by simp; omega)))))
  · have hi0 : i = 0 := by simp at hi; omega
    refine S_odd (rd _ (by omega) (by omega)) hn (fun c r r1 r2 => ifW_of (fun _ => S_pick (rd _ (by omega) (by omega)) (fun z z1 z2 => ifW_of (fun _ => ?_) (fun _ => ?_))) (fun _ => h _ _ (by omega) (by omega) (by omega)))
    · exact S_l20Packet hb (by omega) (by omega) (by omega) (fun k q' s1 s2 => appW_of (by simp; omega) (h _ _ (by omega) (by omega) (by simp; omega)))
    · exact makeW_of 51 rfl (by omega) (by omega) (h _ _ (by omega) (by omega) (by simp))
/-! one packet -/

end
section
open Go Go.Proofs

theorem addS_lenT : ∀ (l : List GSpan) (s : GSpan) (out : List GSpan) (pl : Bool), (addS l s out pl).1.length + (if (addS l s out pl).2.2 then 0 else 1) ≤ out.length + l.length + (if pl then 0 else 1)
  | [], s, out, pl => by cases pl <;> simp [addS]
  | x :: xs, s, out, pl => by
    unfold addS
    by_cases c1 : x.xHi + 1 < s.xLo
    · rw [if_pos c1]
      have := addS_lenT xs s (out ++ [x]) pl
      simp only [List.length_append, List.length_cons, List.length_nil] at this ⊢
      omega
    · rw [if_neg c1]
      by_cases c2 : s.xHi + 1 < x.xLo
      · rw [if_pos c2]
        have := addS_lenT xs s ((if pl then out else out ++ [s]) ++ [x]) true
        cases pl <;> simp only [List.length_append, List.length_cons, List.length_nil, Bool.false_eq_true, if_true, if_false] at this ⊢ <;> omega
      · rw [if_neg c2]
        have := addS_lenT xs (GSpan.mk (min s.xLo x.xLo) (max s.xHi x.xHi)) out pl
        simp only [List.length_cons]
        omega
theorem add1_lenT (l : List GSpan) (s : GSpan) : (add1 l s).length ≤ l.length + 1 := by
  have := addS_lenT l s [] false
  unfold add1
  generalize addS l s [] false = r at *
  obtain ⟨o, s', pl⟩ := r
  cases pl <;> simp at this ⊢ <;> omega
theorem addAll_lenT : ∀ (xs a : List GSpan), (xs.foldl add1 a).length ≤ a.length + xs.length
  | [], a => by simp
  | s :: xs, a => by
    have h1 := addAll_lenT xs (add1 a s)
    have h2 := add1_lenT a s
    simp only [List.foldl_cons, List.length_cons]
    omega
theorem addAll_StT {tp : Int} {xs : List GSpan} (h : ∀ s ∈ xs, SpW tp s) : St (xs.foldl add1 []) tp := by
  obtain ⟨hn, he⟩ := addAll_spec xs [] NF_nil (fun s hs => (h s hs).2.1)
  have hr : ∀ x, hv xs x → 0 ≤ x ∧ x ≤ tp := fun x ⟨s, hs, q1, q2⟩ => by
    have := h s hs; unfold SpW at this; omega
  refine ⟨hn, fun s hs => ?_⟩
  obtain ⟨e1, e2⟩ := NF_ends hn hs
  rw [he] at e1 e2
  exact ⟨(hr _ (e1.resolve_left (hv_nil _))).1, (hr _ (e2.resolve_left (hv_nil _))).2⟩
theorem S_spec_SpansOfT {tp : Int} (h0 : 0 ≤ tp) (h1 : tp ≤ 65535) {xs : List GSpan} (hl : xs.length ≤ 40) (hr : ∀ s ∈ xs, SpW tp s) {κ : List GSpan → Prop} (h : κ (xs.foldl add1 [])) : L_spec_SpansOf xs tp κ := by
  unfold L_spec_SpansOf jnW
  refine S_l1In (ifW_of (fun e => by simp at e; omega) (fun _ => ifW_of (fun e => by simp at e; omega) (fun _ => ?_)))
  refine count_loop xs.length (fun s => s.2) (fun k s => s.2 = (k : Int) ∧ k ≤ xs.length ∧ s.1 = (xs.take k).foldl add1 []) (fun k s h => h.1) (fun k s h => h.2.1) ?_ ⟨rfl, Nat.zero_le _, by simp⟩
  rintro k ⟨es, t⟩ next ⟨rfl, hk, hx⟩ hn
  simp only at hx
  subst hx
  refine ifW_of (fun hc => ?_) (fun hc => ?_)
  · have hlt : k < xs.length := by simpa using hc
    have hin := hr _ (List.getElem_mem hlt)
    unfold SpW at hin
    have hrt : ∀ s ∈ xs.take k, SpW tp s := fun s hs => hr s (List.mem_of_mem_take hs)
    have hst := addAll_StT hrt
    have hln := addAll_lenT (xs.take k) []
    refine idxW_of k rfl hlt (idxW_of k rfl hlt (S_l1In (ifW_of (fun e => by simp at e; omega) (fun _ => idxW_of k rfl hlt (S_l1In (ifW_of (fun e => by simp at e; omega) (fun _ => ?_)))))))
    refine idxW_of k rfl hlt (S_l1Add (by simp only [List.length_take, List.length_nil] at hln; omega) (fun s hs => ?_) ?_ (addW_of (by omega) (by omega) (hn hlt _ ⟨by simp, by omega, ?_⟩)))
    · have q1 := hst.2 s hs
      have q2 := hst.1.1 s hs
      unfold Sm; omega
    · unfold Sm; omega
    · rw [List.take_succ_eq_append_getElem hlt, List.foldl_append]; rfl
  · have hge : xs.length ≤ k := by simpa using hc
    rw [List.take_of_length_le hge]; exact h
theorem S_l20RawV {b : List UInt8} {p tp : Int} (hb : b.length ≤ 2000) (h0 : 0 ≤ p) (hp : p ≤ 800000) (ht0 : 7 ≤ tp) (ht : tp ≤ 65535) {κ : List GSpan × Int → Prop} (h : ∀ l p', p ≤ p' → p' ≤ p + 101 → l.length ≤ 5 → (∀ s ∈ l, SpW tp s) → κ (l, p')) : L_spec_l20Raw b p tp 0 κ := by
  have rd : ∀ p', p ≤ p' → p' ≤ p + 300 → RdP b p' := fun p' a c => ⟨hb, by omega, by omega⟩
  unfold L_spec_l20Raw
  refine S_pick (rd p (by omega) (by omega)) (fun v a c => ?_)
  refine loopW_inv (fun (s : Int × List GSpan × Int) => 0 ≤ s.2.2 ∧ s.2.2 ≤ 5 ∧ p ≤ s.1 ∧ s.1 ≤ p + 1 + 20 * (5 - s.2.2) ∧ s.2.1.length + s.2.2.toNat ≤ 5 ∧ ∀ t, t ∈ s.2.1 → SpW tp t) (fun s => s.2.2.toNat) ?_ ⟨a, by simp only; omega, by simp only; omega, by simp only; omega, by simp only [List.length_nil]; omega, by simp⟩
  rintro ⟨q, xs, k⟩ next ⟨k0, k1, q0, q1, hx, hvl⟩ hnx
  simp only at k0 k1 q0 q1 hx hvl
  refine ifW_of (fun hc => ?_) (fun hc => ?_)
  · simp at hc
    refine S_l20SpanV hb (by omega) (by omega) ht0 ht (fun t p' g1 g2 tv => appW_of (by simp; omega) (subW_of (by omega) (by omega) (hnx _ ⟨by simp only; omega, by simp only; omega, by simp only; omega, by simp only; omega, by simp; omega, fun y hy => ?_⟩ (by simp only; omega))))
    rcases List.mem_append.1 hy with hy | hy
    · exact hvl y hy
    · rw [List.mem_singleton] at hy; subst hy; exact tv
  · simp at hc
    exact h _ _ (by omega) (by omega) (by omega) hvl
theorem S_l20SetV {b : List UInt8} {p tp : Int} (hb : b.length ≤ 2000) (h0 : 0 ≤ p) (hp : p ≤ 800000) (ht0 : 7 ≤ tp) (ht : tp ≤ 65535) {κ : List GSpan × Int → Prop} (h : ∀ l p', p ≤ p' → p' ≤ p + 101 → SpV l tp → κ (l, p')) : L_spec_l20Set b p tp 0 κ := by
  unfold L_spec_l20Set
  refine S_l20RawV hb h0 hp ht0 ht (fun l p' g1 g2 hl hs => S_spec_SpansOfT (by omega) ht (by omega) hs (jnW_i (S_odd0 (ifW_f (h _ _ g1 g2 ⟨?_, addAll_StT hs⟩)))))
  have := addAll_lenT l []
  simp only [List.length_nil] at this
  omega
theorem F4_le {a : A4ListGSpan} : F4 a ↔ le4 a 40 := ⟨fun ⟨f0, f1, f2, f3⟩ f h0 h1 => by
  rcases four h0 h1 with rfl | rfl | rfl | rfl
  · exact f0
  · exact f1
  · exact f2
  · exact f3, le4_F4⟩
theorem BV_set {a : A4ListGSpan} (hb : B4 a) (hf : F4 a) {f : Int} (h0 : 0 ≤ f) (h1 : f ≤ 3) {x : List GSpan} (hx : SpV x (top f)) : BV (bx (set4 a f x)) :=
  BV_bx.2 ⟨set4_B4 hb h0 h1 hx.2, le4_F4 (le4_set (F4_le.1 hf) h0 h1 hx.1 (Nat.le_refl _))⟩
theorem BV_boxT {ts : List GTest} (h : TsV ts) : BV (bx (boxT ts)) := by
  have hl := h.2
  refine BV_bx.2 ⟨boxT_B4 h.1, le4_F4 (fun f h0 h1 => ?_)⟩
  have := boxT_le h.1 f h0 h1
  omega
theorem S_l20BoxV {b : List UInt8} {p : Int} (hb : b.length ≤ 2000) (h0 : 0 ≤ p) (hp : p ≤ 600000) {κ : GBox × Int → Prop} (h : ∀ x p', p ≤ p' → p' ≤ p + 450 → BV x → κ (x, p')) : L_spec_l20Box b p 0 κ := by
  have rd : ∀ p', p ≤ p' → p' ≤ p + 1000 → RdP b p' := fun p' a c => ⟨hb, by omega, by omega⟩
  unfold L_spec_l20Box
  refine S_l20TestsV hb h0 (by omega) (fun ts p1 g1 g2 hts => S_TestsBox hts (jnW_i (S_pick (rd _ (by omega) (by omega)) (fun v a c => ?_))))
  have hv' := BV_boxT hts
  have hB := hv'.b4
  have hF := hv'.f4
  rw [sd_bx] at hB hF
  refine ifW_of (fun _ => ?_) (fun _ => jnW_i (S_odd0 (ifW_f (h _ _ (by omega) (by omega) hv'))))
  refine S_pick (rd _ (by omega) (by omega)) (fun f a2 c2 => ?_)
  have f3 : f ≤ 3 := by omega
  have tl := top_le f
  refine S_spec_FieldTop a2 f3 (S_l20SetV hb (by omega) (by omega) tl.1 tl.2 (fun x p2 g3 g4 hx => ?_))
  refine idx4 (a := boxT ts) a2 f3 (jnW_i (S_odd0 (ifW_f ?_)))
  have e : (bx (boxT ts)).xSides.set f.toNat x = L4 (set4 (boxT ts) f x) := set4_L4 a2 f3
  rw [e]
  exact h _ _ (by omega) (by omega) (BV_set hB hF a2 f3 hx)
theorem S_l20FlatsP {b : List UInt8} {p n : Int} (hb : b.length ≤ 2000) (h0 : 0 ≤ p) (hp : p ≤ 500000) (hn : n ≤ 4294967296) {κ : List GFlat × Int → Prop} (h : ∀ l p', p ≤ p' → p' ≤ p + 6100 → l.length ≤ 61 → (∀ f ∈ l, Bb f.xWhere) → κ (l, p')) : L_spec_l20Flats b p n κ := by
  have rd : ∀ p', p ≤ p' → p' ≤ p + 10000 → RdP b p' := fun p' a c => ⟨hb, by omega, by omega⟩
  unfold L_spec_l20Flats
  refine S_pick (rd p (by omega) (by omega)) (fun v a c => ?_)
  refine loopW_inv (fun (s : Int × List GFlat × Int) => 0 ≤ s.2.2 ∧ s.2.2 ≤ 6 ∧ p ≤ s.1 ∧ s.1 ≤ p + 1 + 1000 * (6 - s.2.2) ∧ s.2.1.length + s.2.2.toNat ≤ 6 ∧ ∀ f, f ∈ s.2.1 → BV f.xWhere) (fun s => s.2.2.toNat) ?_ ⟨a, by simp only; omega, by simp only; omega, by simp only; omega, by simp only [List.length_nil]; omega, by simp⟩
  rintro ⟨q, xs, k⟩ next ⟨k0, k1, q0, q1, hx, hvl⟩ hnx
  simp only at k0 k1 q0 q1 hx hvl
  refine ifW_of (fun hc => ?_) (fun hc => ?_)
  · simp at hc
    refine S_l20BoxV hb (by omega) (by omega) (fun x p1 g1 g2 bv => S_pick (rd _ (by omega) (by omega)) (fun v2 a2 c2 => ?_))
    have fin : ∀ (p2 : Int) (ys : List (List GSpan)) (acc : Bool), p1 ≤ p2 → p2 ≤ p1 + 500 → BV (GBox.mk ys) → appW xs ([(GFlat.mk (GBox.mk ys) acc)]) (fun _ => subW k 1 (fun t201 => next (p2, (xs ++ ([(GFlat.mk (GBox.mk ys) acc)])), t201))) := fun p2 ys acc e1 e2 bv2 => by
      refine appW_of (by simp; omega) (subW_of (by omega) (by omega) (hnx _ ⟨by simp only; omega, by simp only; omega, by simp only; omega, by simp only; omega, by simp; omega, fun y hy => ?_⟩ (by simp only; omega)))
      rcases List.mem_append.1 hy with hy | hy
      · exact hvl y hy
      · rw [List.mem_singleton] at hy; subst hy; exact bv2
    refine jnW_i (jnW_i (ifW_of (fun e => ?_) (fun e => ?_)))
    · refine S_pick (rd _ (by omega) (by omega)) (fun v3 a3 c3 => ifW_of (fun e3 => ?_) (fun e3 => fin _ _ _ (by omega) (by omega) bv))
      have hpos : 0 < xs.length := by simpa using e
      refine subW_of (by omega) (by omega) (idxW_of (xs.length - 1) (by omega) (by omega) ?_)
      have hlast := hvl _ (List.getElem_mem (show xs.length - 1 < xs.length by omega))
      generalize hz : xs[xs.length - 1] = z at *
      have hz4 := BV_len hlast
      obtain ⟨bz, acz⟩ := z
      obtain ⟨az, rfl, hBz, hFz⟩ := hlast
      refine appW_of (by simp [bx]) (S_pick (rd _ (by omega) (by omega)) (fun f a4 c4 => ?_))
      have f3 : f ≤ 3 := by omega
      have tl := top_le f
      refine S_spec_FieldTop a4 f3 (S_l20SetV hb (by omega) (by omega) tl.1 tl.2 (fun x p2 g3 g4 hx => ?_))
      refine idx4 (a := az) a4 f3 (subW_of (by omega) (by omega) (idxW_of (xs.length - 1) (by omega) (by omega) ?_))
      have e : List.set ([] ++ (bx az).xSides) f.toNat x = L4 (set4 az f x) := set4_L4 a4 f3
      rw [e]
      exact fin _ _ _ (by omega) (by omega) (BV_set hBz hFz a4 f3 hx)
    · exact ifW_f (fin _ _ _ (by omega) (by omega) bv)
  · simp at hc
    refine jnW_i (S_odd (rd _ (by omega) (by omega)) hn (fun o p1 f1 f2 => ifW_of (fun _ => ?_) (fun _ => h _ _ (by omega) (by omega) (by omega) (fun f hf => (hvl f hf).bb))))
    refine S_pick (rd _ (by omega) (by omega)) (fun v2 a2 c2 => ifW_of (fun _ => ?_) (fun _ => ?_))
    · refine appW_of (by simp; omega) (h _ _ (by omega) (by omega) (by simp; omega) (fun f hf => ?_))
      rcases List.mem_append.1 hf with hf | hf
      · exact (hvl f hf).bb
      · rw [List.mem_singleton] at hf; subst hf; exact ⟨by simp, by simp⟩
    · refine loopW_inv (fun (s : List GFlat) => s.length ≤ 61 ∧ ∀ f, f ∈ s → BV f.xWhere) (fun s => 61 - s.length) ?_ ⟨by omega, hvl⟩
      rintro ys next2 ⟨hy, hvy⟩ hnx2
      refine ifW_of (fun e => ?_) (fun e => h _ _ (by omega) (by omega) hy (fun f hf => (hvy f hf).bb))
      have e' : ys.length ≤ 60 := by
        have : (ys.length : Int) ≤ 60 := by simpa using e
        omega
      refine S_BoxAll (appW_of (by simp; omega) (hnx2 _ ⟨by simp; omega, fun f hf => ?_⟩ (by simp; omega)))
      rcases List.mem_append.1 hf with hf | hf
      · exact hvy f hf
      · rw [List.mem_singleton] at hf; subst hf; exact BV_bx.2 ⟨all4_B4, le4_F4 (fun f h0 h1 => by have := all4_le f h0 h1; omega)⟩

end
section
open Go Go.Proofs

/-- how many packets each rule decides about; the last one: none does -/
def hc (l : List GIflat) (ps : List GPacket) : List Int := (List.range (l.length + 1)).map (fun n => ((ps.countP (fun p => decide (fw l p = n)) : Nat) : Int))
theorem hc_len (l : List GIflat) (ps : List GPacket) : (hc l ps).length = l.length + 1 := by simp [hc]
theorem hc_get (l : List GIflat) (ps : List GPacket) {n : Nat} (h : n < (hc l ps).length) : (hc l ps)[n] = ((ps.countP (fun p => decide (fw l p = n)) : Nat) : Int) := by simp [hc]
theorem hc_nil (l : List GIflat) : hc l [] = List.replicate (l.length + 1) 0 := by
  apply List.ext_getElem
  · simp [hc]
  · intro n h1 h2; rw [hc_get]; simp
theorem hc_snoc (l : List GIflat) (ps : List GPacket) (p : GPacket) {x : Int} (hx : (hc l ps)[fw l p]? = some x) : hc l (ps ++ [p]) = (hc l ps).set (fw l p) (x + 1) := by
  obtain ⟨hlt, rfl⟩ := List.getElem?_eq_some_iff.1 hx
  apply List.ext_getElem
  · simp [hc]
  · intro n h1 h2
    rw [hc_get, List.countP_append, List.countP_singleton]
    by_cases e : n = fw l p
    · subst e
      rw [List.getElem_set_self, hc_get]
      simp
    · rw [List.getElem_set_ne (fun q => e q.symm), hc_get]
      have : ¬ fw l p = n := fun q => e q.symm
      simp [this]
theorem hc_le (l : List GIflat) (ps : List GPacket) : ∀ x ∈ hc l ps, 0 ≤ x ∧ x ≤ ps.length := fun x hx => by
  simp only [hc, List.mem_map] at hx
  obtain ⟨n, _, rfl⟩ := hx
  have := List.countP_le_length (p := fun p => decide (fw l p = n)) (l := ps)
  omega
/-- a packet is counted -/
theorem hits_step {l : List GIflat} {ps : List GPacket} (hl : l.length ≤ 1000) (hps : ps.length ≤ 1000) {k : Nat} (hlt : k < ps.length) {N : Int} (hN : N = l.length) {next : List Int × Int → Prop} (hn : next (hc l (ps.take (k + 1)), (k : Int) + 1)) :
    jnW (fun (n : Int) => idxW (hc l (ps.take k)) n (fun e => addW e 1 (fun e1 => idxW (hc l (ps.take k)) n (fun _ => addW (k : Int) 1 (fun u => next (((hc l (ps.take k)).set n.toNat e1), u)))))) (fun k2 => ifW (decide (fwI l ps[k] < 0)) (k2 N) (k2 (fwI l ps[k]))) := by
  refine jnW_i ?_
  have hfl := fw_le l ps[k]
  have hlen : fw l ps[k] < (hc l (ps.take k)).length := by rw [hc_len]; omega
  have go : ∀ m : Int, m = fw l ps[k] → idxW (hc l (ps.take k)) m (fun e => addW e 1 (fun e1 => idxW (hc l (ps.take k)) m (fun _ => addW (k : Int) 1 (fun u => next (((hc l (ps.take k)).set m.toNat e1), u))))) := by
    rintro _ rfl
    refine idxW_of (fw l ps[k]) rfl hlen ?_
    have hb := hc_le l (ps.take k) _ (List.getElem_mem hlen)
    have ht : (ps.take k).length ≤ 1000 := by rw [List.length_take]; omega
    refine addW_of (by omega) (by omega) (idxW_of (fw l ps[k]) rfl hlen (addW_of (by omega) (by omega) ?_))
    rw [List.take_succ_eq_append_getElem hlt, hc_snoc l _ _ (List.getElem?_eq_getElem hlen)] at hn
    exact hn
  refine ifW_of (fun e => ?_) (fun e => ?_)
  · have e' : fwI l ps[k] < 0 := by simpa using e
    unfold fwI at e'
    split at e'
    · omega
    · exact go _ (by omega)
  · have e' : 0 ≤ fwI l ps[k] := by simp at e; omega
    refine go _ ?_
    unfold fwI at e' ⊢
    split at e'
    · rename_i q; rw [if_pos q]
    · omega
def hcF (l : List GFlat) (ps : List GPacket) : Prop := FV l ∧ allP ps
theorem S_impl_HitCounts {l : List GFlat} {ps : List GPacket} (hl : Fb l) (hp : ps.length ≤ 4294967296) {κ : List Int → Prop} (h1 : FV l → allP ps → κ (hc (l.map fl) ps)) (h2 : ¬ (FV l ∧ allP ps) → κ []) : L_impl_HitCounts l ps κ := by
  unfold L_impl_HitCounts
  refine jnW_i (S_impl_FlatsValid hl (ifW_of (fun e => ?_) (fun e => S_packetsValid hp (fun b hb => ?_))))
  · exact ifW_t (h2 (fun q => by simp [q.1] at e))
  have hv' : FV l := by simpa using e
  have h60 := hv'.1
  refine ifW_of (fun e2 => h2 (fun q => ?_)) (fun e2 => ?_)
  · have := hb.2 q.2; rw [this] at e2; cases e2
  have hap : allP ps := hb.1 (by simpa using e2)
  have h50 := hap.1
  refine S_flatsOf hl.1 (fun f hf => BV_len (hv'.2 f hf)) (addW_of (by simp only [List.length_map]; omega) (by simp only [List.length_map]; omega) (makeW_of ((l.map fl).length + 1) (by omega) (Int.le_refl _) (by simp only [List.length_map]; omega) ?_))
  have e0 := hc_nil (l.map fl)
  rw [← e0]
  refine count_loop ps.length (fun s => s.2) (fun k (s : List Int × Int) => s.2 = (k : Int) ∧ k ≤ ps.length ∧ s.1 = hc (l.map fl) (ps.take k)) (fun k s h => h.1) (fun k s h => h.2.1) ?_ ⟨rfl, by omega, by simp⟩
  rintro k ⟨_, _⟩ next ⟨rfl, hk, hx⟩ hn
  simp only at hx
  subst hx
  refine ifW_of (fun hc' => ?_) (fun hc' => ?_)
  · have hlt : k < ps.length := by simpa using hc'
    exact idxW_of k rfl hlt (S_firstWith (by simp; omega) hv'.iv (hits_step (by simp; omega) (by omega) hlt rfl (hn hlt _ ⟨by simp, by omega, rfl⟩)))
  · have hge : ps.length ≤ k := by simpa using hc'
    rw [List.take_of_length_le hge]; exact h1 hv' hap
theorem S_spec_DecidedBy {l : List GFlat} (hl : FV l) {p : GPacket} (hp : pv p) {κ : Int → Prop} (h : κ (fwI (l.map fl) p)) : L_spec_DecidedBy l p κ := by
  unfold L_spec_DecidedBy
  have h60 := hl.1
  refine count_loop l.length (fun s => s) (fun k s => s = (k : Int) ∧ k ≤ l.length ∧ ∀ f ∈ (l.map fl).take k, ¬ hb4 f.xWhere p) (fun k s h => h.1) (fun k s h => h.2.1) ?_ ⟨rfl, by omega, by simp⟩
  rintro k _ next ⟨rfl, hk, hno⟩ hn
  refine jnW_i (ifW_of (fun hc => ?_) (fun hc => ?_))
  · have hlt : k < l.length := by simpa using hc
    have hlt' : k < (l.map fl).length := by simpa using hlt
    have hbv := hl.2 _ (List.getElem_mem hlt)
    refine S_spec_FlatsValid hl.fb ?_
    rw [decide_eq_true hl]
    refine ifW_t (idxW_of k rfl hlt (S_spec_BoxHas hbv.bb ?_))
    have ew : ((l.map fl)[k]).xWhere = sd (l[k].xWhere) := by simp [fl]
    refine ifW_of (fun e => ?_) (fun e => ?_)
    · have e' : BV (l[k].xWhere) ∧ pv p ∧ hb4 (sd l[k].xWhere) p := by simpa using e
      have := fw_take hlt' hno (by rw [ew]; exact e'.2.2)
      unfold fwI at h; rw [this, if_pos hlt'] at h; exact h
    · have e' : ¬ hb4 (sd l[k].xWhere) p := fun q => by simp [hbv, hp, q] at e
      refine addW_of (by omega) (by omega) (hn hlt _ ⟨by simp, by omega, fun f hf => ?_⟩)
      rw [List.take_succ_eq_append_getElem hlt'] at hf
      rcases List.mem_append.1 hf with q | q
      · exact hno f q
      · simp only [List.mem_singleton] at q; rw [q, ew]; exact e'
  · have hge : l.length ≤ k := by simpa using hc
    rw [List.take_of_length_le (by simpa using hge)] at hno
    have := fw_none hno
    unfold fwI at h; rw [this, if_neg (by omega)] at h; exact ifW_f h
theorem S_spec_HitCounts {l : List GFlat} {ps : List GPacket} (hl : Fb l) (hp : ps.length ≤ 4294967296) {κ : List Int → Prop} (h1 : FV l → allP ps → κ (hc (l.map fl) ps)) (h2 : ¬ (FV l ∧ allP ps) → κ []) : L_spec_HitCounts l ps κ := by
  unfold L_spec_HitCounts
  refine jnW_i (S_spec_FlatsValid hl (ifW_of (fun e => ?_) (fun e => ?_)))
  · exact ifW_t (h2 (fun q => by simp [q.1] at e))
  have hv' : FV l := by simpa using e
  have h60 := hv'.1
  refine ifW_of (fun e2 => h2 (fun q => ?_)) (fun e2 => ?_)
  · have := q.2.1; simp at e2; omega
  have h50 : ps.length ≤ 50 := by simp at e2; omega
  refine addW_of (by omega) (by omega) (makeW_of (l.length + 1) (by omega) (Int.le_refl _) (by omega) ?_)
  have e0 := hc_nil (l.map fl)
  rw [show l.length + 1 = (l.map fl).length + 1 by simp, ← e0]
  refine count_loop ps.length (fun s => s.2) (fun k (s : List Int × Int) => s.2 = (k : Int) ∧ k ≤ ps.length ∧ s.1 = hc (l.map fl) (ps.take k) ∧ ∀ p ∈ ps.take k, pv p) (fun k s h => h.1) (fun k s h => h.2.1) ?_ ⟨rfl, by omega, by simp, by simp⟩
  rintro k ⟨_, _⟩ next ⟨rfl, hk, hx, hpv⟩ hn
  simp only at hx
  subst hx
  refine ifW_of (fun hc' => ?_) (fun hc' => ?_)
  · have hlt : k < ps.length := by simpa using hc'
    refine idxW_of k rfl hlt (S_specPacketValid (ifW_of (fun e => h2 (fun q => ?_)) (fun e => ?_)))
    · have := q.2.2 _ (List.getElem_mem hlt); simp [this] at e
    have hp1 : pv ps[k] := by simpa using e
    refine idxW_of k rfl hlt (S_spec_DecidedBy hv' hp1 (hits_step (by simp; omega) (by omega) hlt (by simp) (hn hlt _ ⟨by simp, by omega, rfl, fun p hp => ?_⟩)))
    rw [List.take_succ_eq_append_getElem hlt] at hp
    rcases List.mem_append.1 hp with q | q
    · exact hpv p q
    · simp only [List.mem_singleton] at q; rw [q]; exact hp1
  · have hge : ps.length ≤ k := by simpa using hc'
    rw [List.take_of_length_le hge] at hpv ⊢; exact h1 hv' ⟨h50, hpv⟩
theorem S_sameInts {a : List Int} (hl : a.length ≤ 4294967296) {κ : Bool → Prop} (h : κ true) : L_laws_sameInts a a κ := by
  unfold L_laws_sameInts
  refine ifW_of (fun e => by simp at e) (fun _ => ?_)
  exact eq_loop a a rfl hl (fun x y A => ifW (!(decide (x = y))) (κ false) A) (fun x y A h1 h2 => ifW_of (fun e => h2 (by simpa using e)) (fun e => h1 (by simpa using e))) (by simpa using h) _ (fun nx t hh => hh)
end
section
open Go Go.Proofs

theorem fw_spec {l : List GIflat} {p : GPacket} {n : Nat} (hn : n < l.length) (h : fw l p = n) : hb4 l[n].xWhere p ∧ ¬ hbs (whs (l.take n)) p := by
  unfold fw at h
  rw [List.findIdx_eq hn] at h
  refine ⟨by simpa using h.1, ?_⟩
  rintro ⟨c, hc, k⟩
  obtain ⟨f, hf, rfl⟩ := List.mem_map.1 hc
  obtain ⟨j, hj, e⟩ := List.mem_take_iff_getElem.1 hf
  have := h.2 j (by omega)
  rw [e] at this
  simp [k] at this
theorem dead_zero {l : List GIflat} (hv : IV l) {n : Nat} (hn : n < l.length) (h : dd l n = true) (p : GPacket) : fw l p ≠ n := fun e => by
  rw [dd_of hn] at h
  have hl : live l n hn = some [] := by simpa using h
  unfold live at hl
  obtain ⟨h1, h2⟩ := fw_spec hn e
  exact hbs_nil p ((lessR_hb (hv _ (List.getElem_mem hn)).1 (hv.take n).aB hl p).2 ⟨h1, h2⟩)
theorem sum_one : ∀ (N m : Nat), m < N → ((List.range N).map (fun n => if m = n then (1 : Int) else 0)).sum = 1
  | 0, m, h => by omega
  | N + 1, m, h => by
    rw [List.range_succ, List.map_append, List.sum_append]
    by_cases e : m = N
    · subst e
      have z : ∀ M, M ≤ m → ((List.range M).map (fun n => if m = n then (1 : Int) else 0)).sum = 0 := by
        intro M
        induction M with
        | zero => intro _; simp
        | succ M ih =>
          intro hM
          rw [List.range_succ, List.map_append, List.sum_append, ih (by omega)]
          simp; omega
      rw [z m (by omega)]; simp
    · rw [sum_one N m (by omega)]; simp [e]
theorem sum_add (l : List Nat) (f g : Nat → Int) : (l.map (fun n => f n + g n)).sum = (l.map f).sum + (l.map g).sum := by
  induction l with
  | nil => simp
  | cons a l ih => simp only [List.map_cons, List.sum_cons, ih]; omega
theorem hc_sum (l : List GIflat) : ∀ (ps : List GPacket), (hc l ps).sum = ps.length
  | [] => by rw [hc_nil]; induction l.length + 1 with
    | zero => simp
    | succ n ih => rw [List.replicate_succ, List.sum_cons, ih]; simp
  | p :: ps => by
    have e : hc l (p :: ps) = (List.range (l.length + 1)).map (fun n => ((ps.countP (fun p => decide (fw l p = n)) : Nat) : Int) + (if fw l p = n then (1 : Int) else 0)) := by
      unfold hc
      refine List.map_congr_left (fun n _ => ?_)
      rw [List.countP_cons]
      by_cases e : fw l p = n <;> simp [e]
    rw [e, sum_add, sum_one _ _ (by have := fw_le l p; omega)]
    have := hc_sum l ps
    unfold hc at this
    rw [this]; simp
theorem S_DeadFlats {l : List GFlat} (hl : FV l) {κ : List Int → Prop} (h : κ ((deads (l.map fl)).map Int.ofNat)) : L_impl_DeadFlats l κ := by
  have h60 := hl.1
  unfold L_impl_DeadFlats
  refine S_impl_FlatsValid hl.fb ?_
  rw [decide_eq_true hl]
  exact ifW_f (S_flatsOf (by omega) (fun f hf => BV_len (hl.2 f hf)) (S_deadIn (by simp; omega) hl.iv h))
theorem pureFnHitCounts (code : List UInt8) : L_laws_FnHitCounts code (fun r => r = true) := by
  unfold L_laws_FnHitCounts
  refine ifW_of (fun _ => rfl) (fun _ => ?_)
  unfold L_spec_DrawHitCounts
  refine S_l20Open (fun b hb => S_l20FlatsP hb (by omega) (by omega) (by omega) (fun l p g1 g2 hl hbb => S_l20Packets hb (by omega) (by omega) (by omega) (fun ps p2 g3 g4 hps => ?_)))
  have hfb : Fb l := ⟨by omega, hbb⟩
  by_cases hv' : FV l ∧ allP ps
  · have h60 := hv'.1.1
    have hL := hc_len (l.map fl) ps
    simp only [List.length_map] at hL
    refine S_impl_HitCounts hfb (by omega) (fun q1 q2 => ?_) (fun q => absurd hv' q)
    refine S_spec_HitCounts hfb (by omega) (fun q1 q2 => ?_) (fun q => absurd hv' q)
    refine S_sameInts (by omega) (ifW_f (ifW_of (fun e => by have := of_decide_eq_true e; omega) (fun _ => ?_)))
    refine count_loop (hc (l.map fl) ps).length (fun s => s.2) (fun k (s : Int × Int) => s.2 = (k : Int) ∧ k ≤ (hc (l.map fl) ps).length ∧ s.1 = ((hc (l.map fl) ps).take k).sum ∧ 0 ≤ s.1 ∧ s.1 ≤ 100 * k) (fun k s h => h.1) (fun k s h => h.2.1) ?_ ⟨rfl, by omega, by simp, by simp, by simp⟩
    rintro k ⟨t, _⟩ next ⟨rfl, hk, ht, hb0, hb1⟩ hn
    simp only at ht hb0 hb1
    refine ifW_of (fun hc' => ?_) (fun hc' => ?_)
    · have hlt : k < (hc (l.map fl) ps).length := by simpa using hc'
      have b1 := hc_le (l.map fl) ps _ (List.getElem_mem hlt)
      refine idxW_of k rfl hlt (addW_of (by omega) (by omega) (addW_of (by omega) (by omega) (hn hlt _ ⟨by simp, by omega, ?_, by simp only; omega, by simp only; omega⟩)))
      rw [List.take_succ_eq_append_getElem hlt, List.sum_append, ht]; simp
    · have hge : (hc (l.map fl) ps).length ≤ k := by simpa using hc'
      rw [List.take_of_length_le hge, hc_sum] at ht
      subst ht
      refine S_DeadFlats q1 ?_
      refine count_loop ((deads (l.map fl)).map Int.ofNat).length (fun s => s) (fun k s => s = (k : Int) ∧ k ≤ ((deads (l.map fl)).map Int.ofNat).length) (fun k s h => h.1) (fun k s h => h.2) ?_ ⟨rfl, by omega⟩
      rintro k2 _ next2 ⟨rfl, hk2⟩ hn2
      have hdl : (deads (l.map fl)).length ≤ 60 := by
        unfold deads
        refine Nat.le_trans (List.length_filter_le _ _) ?_
        simpa using h60
      refine ifW_of (fun hc2 => ?_) (fun hc2 => ?_)
      · have hlt2 : k2 < ((deads (l.map fl)).map Int.ofNat).length := by simpa using hc2
        have hlt3 : k2 < (deads (l.map fl)).length := by simpa using hlt2
        have ek : ((deads (l.map fl)).map Int.ofNat)[k2] = (((deads (l.map fl))[k2] : Nat) : Int) := by simp
        have hmem : (deads (l.map fl))[k2] ∈ deads (l.map fl) := List.getElem_mem hlt3
        generalize (deads (l.map fl))[k2] = n at ek hmem
        unfold deads at hmem
        rw [List.mem_filter, List.mem_range] at hmem
        obtain ⟨hnl, hdd⟩ := hmem
        have hnl' : n < l.length := by simpa using hnl
        have ez : (hc (l.map fl) ps)[n]'(by omega) = 0 := by
          rw [hc_get]
          have : ps.countP (fun p => decide (fw (l.map fl) p = n)) = 0 := by
            rw [List.countP_eq_zero]
            intro p _
            have := dead_zero q1.iv hnl hdd p
            simp [this]
          rw [this]; rfl
        refine jnW_i (idxW_of k2 rfl hlt2 ?_)
        rw [ek]
        refine ifW_of (fun e => by simp at e; omega) (fun _ => idxW_of k2 rfl hlt2 ?_)
        rw [ek]
        refine ifW_of (fun e => by simp at e; omega) (fun _ => idxW_of k2 rfl hlt2 ?_)
        rw [ek]
        refine idxW_of n rfl (by omega) ?_
        rw [ez]
        exact ifW_f (addW_of (by omega) (by omega) (hn2 hlt2 _ ⟨by simp, by omega⟩))
      · refine jnW_i (ifW_of (fun _ => addW_of (by omega) (by omega) ?_) (fun e => by simp at e))
        rw [hL]; simp
  · refine S_impl_HitCounts hfb (by omega) (fun q1 q2 => absurd ⟨q1, q2⟩ hv') (fun _ => ?_)
    refine S_spec_HitCounts hfb (by omega) (fun q1 q2 => absurd ⟨q1, q2⟩ hv') (fun _ => ?_)
    exact S_sameInts (by simp) (ifW_f (ifW_t (S_alive rfl)))

end
section
open Go.RowKit

section
variable {P : Program} {n : Nat} {G D : Nat → Prop} {w0 : World} {Q : Exit → Act → World → Prop} {R : Act → World → Prop} {E : Env} {L M : List Ch} {φ : Prop}
variable {d : Tmp} {ty : TypeId} {pos : String} {aft : Array Edge} {gd : Option (Nat × Bool)} {Tk : Act → World → Prop} {Lr : List Ch} {x y : Operand} {T T' S : TypeId} {e sz by' : Nat} {at' : Array TypeId}
theorem nx_mono {ψ : Prop} (h : φ → ψ) (k : Nx n G D w0 R E L ψ) : Nx n G D w0 R E L φ := fun a w hE hm hφ => k a w hE hm (h hφ)
/-! ### a part is taken out of a slice of the call's own -/
theorem Rows.drop {α : Type} {El : El α} {F : Nat → Prop} {w : World} : ∀ {xs : List α} {css : List (List Value)} (J : Nat), Rows El F w xs css → Rows El F w (xs.drop J) (css.drop J) ∧ (css.drop J).flatten = css.flatten.drop (J * El.size)
  | [], [], J, h => by simp [Rows]
  | x :: xs, cs :: css, 0, h => ⟨h, by simp⟩
  | x :: xs, cs :: css, J + 1, h => by
    obtain ⟨h1, h2⟩ := Rows.drop (xs := xs) (css := css) J h.2
    have hl := El.len F w x cs h.1
    refine ⟨h1, ?_⟩
    simp only [List.drop_succ_cons, List.flatten_cons, h2]
    have e : (J + 1) * El.size = cs.length + J * El.size := by rw [hl, Nat.add_mul]; omega
    rw [e, List.drop_length_add_append]
  | [], _ :: _, _, h => by simp [Rows] at h
  | _ :: _, [], _, h => by simp [Rows] at h
end

end
section
open Go.RowKit

section
variable {P : Program} {n : Nat} {G D : Nat → Prop} {w0 : World} {Q : Exit → Act → World → Prop} {R : Act → World → Prop} {E : Env} {L M : List Ch} {φ : Prop}
variable {d : Tmp} {ty : TypeId} {pos : String} {aft : Array Edge} {gd : Option (Nat × Bool)} {Tk : Act → World → Prop} {Lr : List Ch} {x y : Operand} {T T' S : TypeId} {e sz by' : Nat} {at' : Array TypeId}
theorem Mem.putObj {i b : Nat} {o o' : Obj} {w : World} (m : Mem G D w0 L w) (hi : lget L i = some (objCh b o)) : Mem G D w0 (lset L i (objCh b o')) (w.putObj b o') := by
  have hb : w.heap[b]? = some o := m.get hi
  have hlt := (Array.getElem?_eq_some_iff.1 hb).1
  refine m.upd hi rfl rfl rfl (by simp) (fun x _ hx => World.putObj_heap_other (fun e => hx e)) (fun x hx => ⟨?_, .inl hx⟩) (World.putObj_heap_same hlt)
  have hx' : x = b := hx
  subst hx'
  simpa using hlt
theorem n_begin {l i : Nat} {rc : Loop} {Kb : Act → World → Prop} (hi : lget L i = some (objCh l (.loop rc))) (hr : rc.state = .ready) (k : Nx n G D w0 Kb E (lset L i (objCh l (.loop { rc with state := .busy }))) φ) :
    Nx n G D w0 (fun a w => ∃ w₂, (Instr.beginRound l).run P w = .ok () w₂ ∧ Kb a w₂) E L φ := fun a w hE hm hφ =>
  ⟨_, run_beginRound (P := P) (hm.get hi) hr, k a _ hE (hm.putObj hi) hφ⟩
theorem Mem.absLoop {l : Nat} {rc0 : Loop} {w : World} (m : Mem G D w0 (objCh l (.loop rc0) :: L) w) : ∃ rc, rc = rc0 ∧ Mem G D w0 (objCh l (.loop rc) :: L) w := ⟨rc0, rfl, m⟩
theorem n_end {l i : Nat} {rc : Loop} {Rr : Ending → World → Prop} (hi : lget L i = some (objCh l (.loop rc))) (h : ∀ w, Mem G D w0 (lset L i (objCh l (.loop { rc with state := .ready, pending := none }))) w → φ → Rr (.returned (.bool true)) w) :
    Nx n G D w0 (roundPost P l Rr .normal) E L φ := fun a w hE hm hφ =>
  ⟨_, _, run_endRound (P := P) none (hm.get hi), h _ (hm.putObj hi) hφ⟩
theorem n_endR {l i : Nat} {rc : Loop} {Rr : Ending → World → Prop} (hi : lget L i = some (objCh l (.loop rc))) (h : ∀ w, Mem G D w0 (lset L i (objCh l (.loop { rc with state := .done, pending := some .ret }))) w → φ → Rr (.returned (.bool false)) w) :
    Nx n G D w0 (roundPost P l Rr .ret) E L φ := fun a w hE hm hφ =>
  ⟨_, _, run_endRound (P := P) (some .ret) (hm.get hi), h _ (hm.putObj hi) hφ⟩
/-- a block just laid, as an object -/
theorem Mem.laid {w : World} (o : Obj) (m : Mem G D w0 L w) : Mem G D w0 (objCh w.heap.size o :: L) (w.alloc o) :=
  m.add _ ((Below.refl _ _).alloc (Nat.le_refl _) _) (fun b hb => by have hb' : b = w.heap.size := hb; subst hb'; simp) (World.alloc_heap_new w o)
/-- the statement: the record and the block for deferred calls are laid; the one call -/
theorem c_range {g : Operand} {ps : Array Tmp} {assign body : Code} {gf : Nat} {lb : List Value} (hg : oev E g = some (.func (.func gf) #[] lb.toArray)) (eg : ∀ args w, (callFunc gf args).run P w = .ok (.enter gf args) w)
    (h : ∀ (a : Act) (w : World) (fn : FuncId) (l D0 : Nat), Has n E a → Mem G D w0 (objCh l (.loop { state := .ready, pending := none, fn, tmps := a.tmps, params := ps, assign, body, defers := D0 }) :: objCh D0 (.deferred (some [])) :: L) w → φ →
      Calls P gf (.func (.yield l) #[] #[] :: lb).toArray w (rangePost Fence.wide 3 P l Q { a with defers := [{ target := .collected D0, args := #[] }] })) : Nx n G D w0 ((Code.rangeFunc g ps assign body).wp P Q) E L φ := fun a w hE hm hφ => by
  refine (wpIn_wide (n := 3)).1 (wpIn_rangeFunc fun fn _ => ?_)
  have hgv := hE.eval hg
  have hcall := h a ((w.alloc (.deferred (some []))).alloc (.loop { state := .ready, pending := none, fn, tmps := a.tmps, params := ps, assign, body, defers := w.heap.size })) fn (w.heap.size + 1) w.heap.size hE (by
    have := (hm.laid (.deferred (some []))).laid (.loop { state := .ready, pending := none, fn, tmps := a.tmps, params := ps, assign, body, defers := w.heap.size })
    rwa [World.size_alloc] at this) hφ
  have hrun := run_enterLoop_outer (P := P) (w := w) fn a.tmps ps assign body
  generalize (w.alloc (.deferred (some []))).alloc (.loop { state := .ready, pending := none, fn, tmps := a.tmps, params := ps, assign, body, defers := w.heap.size }) = W1 at hcall hrun
  refine ⟨w.heap.size + 1, [{ target := .collected w.heap.size, args := #[] }], W1, { target := .fn (.func gf) lb.toArray, args := #[.func (.yield (w.heap.size + 1)) #[] #[]] }, W1, gf,
    (.func (.yield (w.heap.size + 1)) #[] #[] :: lb).toArray, W1, hrun, ?_, fun f' _ => trivial, ?_, fun e => by simp [Fence.wide] at e, ?_⟩
  · simp only [resolve, hgv]
    simp [go_sem]
  · simp [invoke, go_sem, eg]
  · have hd := hE.defers
    rw [hd]
    exact callsIn_wide.2 hcall
/-- behind the loop -/
theorem n_endLoop {l i : Nat} {rc : Loop} {a' : Act} {v : Value} {w : World} (m : Mem G D w0 L w) (hi : lget L i = some (objCh l (.loop rc))) (hb : rc.state ≠ .busy)
    (h : ∀ w', Mem G D w0 (lset L i (objCh l (.loop { rc with state := .exhausted }))) w' → (match rc.pending with | none => Q .normal a' w' | some c => c.wpIn Fence.wide 3 P Q a' w')) : rangePost Fence.wide 3 P l Q a' (.returned v) w :=
  ⟨_, _, run_endLoop (P := P) (m.get hi) hb, h _ (m.putObj hi)⟩
/-! ### with a deferred call that waits -/
theorem stDw {ds : List Deferred} {ops : Array Oper} {rest : List Oper} {dst : Option Tmp} {op : Op} (hne : ∀ ρ w dd w', (execOp ρ ⟨dst, op, ty, pos, aft, none⟩).run P w ≠ .ok (.defer dd) w') (h : Nx n G D w0 (fun a w => Oper.wp P ⟨dst, op, ty, pos, aft, none⟩ a w (fun a w => wpList P ops Q rest { a with defers := ds } w) (fun _ _ _ => False)) E L φ) :
    Nx n G D w0 (fun a w => wpList P ops Q (⟨dst, op, ty, pos, aft, none⟩ :: rest) { a with defers := ds } w) E L φ := fun a w hE hm hφ => by
  show wpList P ops Q (⟨dst, op, ty, pos, aft, none⟩ :: rest) { a with defers := ds } w
  unfold wpList
  rw [if_pos (by simp [Region.wanted])]
  refine .inl ?_
  have h' : Oper.upon P ⟨dst, op, ty, pos, aft, none⟩ a (fun a w => wpList P ops Q rest { a with defers := ds } w) (fun _ _ _ => False) ((execOp a.eval ⟨dst, op, ty, pos, aft, none⟩).run P w) := h a w hE hm hφ
  show Oper.upon P ⟨dst, op, ty, pos, aft, none⟩ { a with defers := ds } (wpList P ops Q rest) Q ((execOp a.eval ⟨dst, op, ty, pos, aft, none⟩).run P w)
  have hne' := hne a.eval w
  revert h' hne'
  generalize (execOp a.eval ⟨dst, op, ty, pos, aft, none⟩).run P w = r
  intro h' hne'
  have hp : ∀ v, ({ a with defers := ds } : Act).put dst v = { a.put dst v with defers := ds } := fun v => by cases dst <;> rfl
  cases r with
  | ok x w' =>
    cases x <;> simp only [Oper.upon, hp] at h' ⊢ <;> first | exact h' | exact absurd rfl (hne' _ _) | (refine Calls.mono h' ?_; intro e w'' hh; cases e <;> first | exact hh | exact False.elim hh | (obtain ⟨_, _, hh⟩ := hh; exact hh.elim)) | (refine Rows.mono h' ?_; intro e w'' hh; exact hh) | exact False.elim h'
  | halt x w' => cases x <;> first | exact h' | exact False.elim h'
theorem stD {ds : List Deferred} {ops : Array Oper} {rest : List Oper} {dst : Option Tmp} {op : Op} : Mode P n G D w0 E ⟨dst, op, ty, pos, aft, none⟩ (fun a w => wpList P ops Q (⟨dst, op, ty, pos, aft, none⟩ :: rest) { a with defers := ds } w) (fun a w => wpList P ops Q rest { a with defers := ds } w) L L :=
  ⟨fun hd ho hr hψ k => fun a w hE hm hφ => by
    show wpList P ops Q (⟨dst, op, ty, pos, aft, none⟩ :: rest) { a with defers := ds } w
    unfold wpList
    rw [if_pos (by simp [Region.wanted])]
    refine .inl ?_
    show Oper.upon P _ _ _ Q ((execOp a.eval ⟨dst, op, ty, pos, aft, none⟩).run P w)
    rw [hr a.eval w (fun x v h => hE.eval h) hm hφ, Oper.upon_value, ho]
    exact k _ _ (hE.put hd _) hm (hψ hφ)⟩
theorem store_ne {T : TypeId} {x y : Operand} : ∀ ρ w dd w', (execOp ρ ⟨none, .store T x y, ty, pos, aft, none⟩).run P w ≠ .ok (.defer dd) w' := fun ρ w dd w' h => by
  simp only [execOp] at h
  rw [Sem.run_bind] at h
  cases hr : (Instr.storeAt T (ρ x) (ρ y)).run P w with
  | ok u w2 => rw [hr] at h; simp [Result.andThen] at h
  | halt u w2 => rw [hr] at h; simp [Result.andThen] at h
theorem c_regionD {ds : List Deferred} {id : Nat} {l : List Oper} (h : Nx n G D w0 (fun a w => wpList P l.toArray Q l { a with defers := ds } w) E L φ) : Nx n G D w0 (fun a w => (Code.region id l.toArray false).wp P Q { a with defers := ds } w) E L φ := fun a w hE hm hφ => wp_region_lit (h a w hE hm hφ)
theorem c_seqD {ds : List Deferred} {x y : Code} (h : Nx n G D w0 (fun a w => x.wp P (Exit.then (y.wp P Q) Q) { a with defers := ds } w) E L φ) : Nx n G D w0 (fun a w => (Code.seq x y).wp P Q { a with defers := ds } w) E L φ := fun a w hE hm hφ => wp_seq (h a w hE hm hφ)
theorem c_retD {ds : List Deferred} (h : Nx n G D w0 (fun a w => Q .ret { a with defers := ds } w) E L φ) : Nx n G D w0 (fun a w => Code.ret.wp P Q { a with defers := ds } w) E L φ := fun a w hE hm hφ => wp_ret (h a w hE hm hφ)
/-- the end of a function with a range over a function: two results -/
theorem l_endM2 {M0 : List Ch} {ρ ν : Type} {F : Nat → Prop} {fn : Func} {q q2 : ResultVar} {v v2 : Value} {κ : ρ → Prop} {val : ρ → ν → Value} {N : ρ → ν → List Ch} {D0 i : Nat} (hi : lget L i = some (objCh D0 (.deferred (some [])))) (hres : fn.results = #[q, q2]) (r : ρ) (u : ν)
    (hs : Rv P n G (feet M0) w0 E (lset L i (objCh D0 (.deferred none))) q v) (ht : Rv P n G (feet M0) w0 E (lset L i (objCh D0 (.deferred none))) q2 v2) (hv : val r u = .tuple #[v, v2])
    (hN : ∀ w, Mem G (feet M0) w0 (lset L i (objCh D0 (.deferred none))) w → NewCh M0 F w0 w (N r u)) : Nx n G (feet M0) w0 (fun a w => bodyPostM Fence.wide 3 P fn (Ret M0 F w0 κ val N) .ret { a with defers := [{ target := .collected D0, args := #[] }] } w) E L (κ r) := fun a w hE hm hφ => by
  have hk := hm.putObj (o' := .deferred none) hi
  refine ⟨by simp, .inl ⟨D0, _, rfl, run_takeDeferred (P := P) (hm.get hi), ?_⟩⟩
  exact ⟨val r u, by simp [results_resOne, hres, hs a _ hE hk, ht a _ hE hk, hv], r, u, hφ, rfl, hk.updD, hN _ hk⟩
/-- the beginning of a function with a range over a function -/
theorem enterM {F : Nat → Prop} {f : Nat} {fn : Func} {c : Code} {args : List Value} {K : Ending → World → Prop} (M0 : List Ch) (hF : ∀ b, F b → b < w0.heap.size ∧ ¬ feet M0 b) (hg : Given M0 F w0) (hf : P.funcs[f]? = some fn) (hb : fn.body = some c) (hn : fn.ntmps = n) (hle : Nat.ble args.length n = true)
    (hφ : φ) (h : Nx n (gB F M0 w0) (feet M0) w0 (c.wp P (bodyPostM Fence.wide 3 P fn K)) (eargs 0 args) (M0 ++ [snapCh w0 F]) φ) : Calls P f args.toArray w0 K := by
  have hle' := Nat.le_of_ble_eq_true hle
  refine (callsIn_wide (n := 3)).1 (callsIn_of_wp_marks hf hb trivial (wpIn_wide.2 ?_))
  have hfoot : ∀ c ∈ [snapCh w0 F], ∀ b, ¬ c.foot b := fun c hc b h => by simp only [List.mem_cons, List.not_mem_nil, or_false] at hc; subst hc; exact h
  have hh : ∀ c ∈ [snapCh w0 F], c.holds F w0 := fun c hc => by simp only [List.mem_cons, List.not_mem_nil, or_false] at hc; subst hc; exact ⟨fun _ h => h, fun _ _ => rfl⟩
  refine h _ _ ?_ ?_ hφ
  · rw [hn]
    have := Has.enter (args := args) (f := n - args.length) (n := n) (by omega) (eargs 0 args) (fun s v hs => by have := eargs_get args 0 s v hs; simpa using this.2)
    simpa using this
  · have hfz : ∀ b, F b → fz (gB F M0 w0) (M0 ++ [snapCh w0 F]) w0 b := fun b hb => ⟨(hF b hb).1, .inl hb, fun d hd hk => by
      rcases List.mem_append.1 hd with e | e
      · exact (hF b hb).2 ⟨d, e, hk⟩
      · exact hfoot d e b hk⟩
    refine Mem.start w0 _ _ (M0 ++ [snapCh w0 F]) (fun b h => .inr h) (fun c hc b hb => ?_) ?_ (fun c hc => ?_)
    · rcases List.mem_append.1 hc with e | e
      · exact ⟨hg.lt c e b hb, c, e, hb⟩
      · exact absurd hb (hfoot c e b)
    · exact List.pairwise_append.2 ⟨hg.disj, by simp, fun c _ d hd b _ h2 => hfoot d hd b h2⟩
    · rcases List.mem_append.1 hc with e | e
      · exact c.keep _ _ w0 w0 hfz (fun _ _ => rfl) (hg.hold c e)
      · exact c.keep _ _ w0 w0 hfz (fun _ _ => rfl) (hh c e)
end

end
section
open Go.RowKit
theorem arr114 : arrB Tryd.prog 114 = some (4, 72, false, 1) := by kernel_rfl
theorem arr129 : arrB Tryd.prog 129 = some (4, 128, true, 2) := by kernel_rfl
theorem arr141 : arrB Tryd.prog 141 = some (4, 3, false, 1) := by kernel_rfl
theorem bld104 : bldB Tryd.prog 104 = some (#[(0, 1), (1, 1)], [(.slice none 0 0), (.int .i64 0)]) := by kernel_rfl
theorem bld114 : bldA Tryd.prog 114 = some (1, [(.slice none 0 0), (.slice none 0 0), (.slice none 0 0), (.slice none 0 0)]) := by kernel_rfl
theorem bld117 : bldB Tryd.prog 117 = some (#[(0, 4), (4, 1)], [(.slice none 0 0), (.slice none 0 0), (.slice none 0 0), (.slice none 0 0), (.bool false)]) := by kernel_rfl
theorem bld125 : bldB Tryd.prog 125 = some (#[(0, 1), (1, 1), (2, 1), (3, 1)], [(.int .i64 0), (.int .i64 0), (.int .i64 0), (.bool false)]) := by kernel_rfl
theorem bld141 : bldA Tryd.prog 141 = some (1, [(.int .i64 0), (.int .i64 0), (.int .i64 0), (.int .i64 0)]) := by kernel_rfl
theorem bld49 : bldB Tryd.prog 49 = some (#[(0, 1), (1, 1), (2, 1), (3, 1)], [(.int .i64 0), (.int .i64 0), (.int .i64 0), (.int .i64 0)]) := by kernel_rfl
theorem bld71 : bldB Tryd.prog 71 = some (#[(0, 1), (1, 1)], [(.int .i64 0), (.int .i64 0)]) := by kernel_rfl
theorem bld85 : bldB Tryd.prog 85 = some (#[(0, 1)], [(.slice none 0 0)]) := by kernel_rfl
theorem bld87 : bldB Tryd.prog 87 = some (#[(0, 1), (1, 1)], [(.slice none 0 0), (.bool false)]) := by kernel_rfl
theorem el22 : elB Tryd.prog 22 = some (5, 1, 1) := by kernel_rfl
theorem el23 : elB Tryd.prog 23 = some (87, 2, 32) := by kernel_rfl
theorem el24 : elB Tryd.prog 24 = some (49, 4, 32) := by kernel_rfl
theorem el27 : elB Tryd.prog 27 = some (3, 1, 8) := by kernel_rfl
theorem el64 : elB Tryd.prog 64 = some (117, 5, 104) := by kernel_rfl
theorem el72 : elB Tryd.prog 72 = some (71, 2, 16) := by kernel_rfl
theorem el80 : elB Tryd.prog 80 = some (125, 4, 32) := by kernel_rfl
theorem el83 : elB Tryd.prog 83 = some (72, 1, 24) := by kernel_rfl
theorem el98 : elB Tryd.prog 98 = some (114, 4, 96) := by kernel_rfl
theorem fld104_0 : fldB Tryd.prog 104 0 = some (0, false, 1) := by kernel_rfl
theorem fld104_1 : fldB Tryd.prog 104 1 = some (1, false, 1) := by kernel_rfl
theorem fld117_0 : fldB Tryd.prog 117 0 = some (0, true, 4) := by kernel_rfl
theorem fld125_0 : fldB Tryd.prog 125 0 = some (0, false, 1) := by kernel_rfl
theorem fld125_1 : fldB Tryd.prog 125 1 = some (1, false, 1) := by kernel_rfl
theorem fld125_2 : fldB Tryd.prog 125 2 = some (2, false, 1) := by kernel_rfl
theorem fld125_3 : fldB Tryd.prog 125 3 = some (3, false, 1) := by kernel_rfl
theorem fld128_1 : fldB Tryd.prog 128 1 = some (1, false, 1) := by kernel_rfl
theorem fld49_0 : fldB Tryd.prog 49 0 = some (0, false, 1) := by kernel_rfl
theorem fld49_1 : fldB Tryd.prog 49 1 = some (1, false, 1) := by kernel_rfl
theorem fld49_2 : fldB Tryd.prog 49 2 = some (2, false, 1) := by kernel_rfl
theorem fld49_3 : fldB Tryd.prog 49 3 = some (3, false, 1) := by kernel_rfl
theorem fld71_0 : fldB Tryd.prog 71 0 = some (0, false, 1) := by kernel_rfl
theorem fld71_1 : fldB Tryd.prog 71 1 = some (1, false, 1) := by kernel_rfl
theorem fld85_0 : fldB Tryd.prog 85 0 = some (0, false, 1) := by kernel_rfl
theorem fld87_0 : fldB Tryd.prog 87 0 = some (0, true, 1) := by kernel_rfl
theorem fld87_1 : fldB Tryd.prog 87 1 = some (1, false, 1) := by kernel_rfl
theorem ty114 : tyB Tryd.prog 114 = some (true, 4) := by kernel_rfl
theorem ty117 : tyB Tryd.prog 117 = some (true, 5) := by kernel_rfl
theorem ty125 : tyB Tryd.prog 125 = some (true, 4) := by kernel_rfl
theorem ty141 : tyB Tryd.prog 141 = some (true, 4) := by kernel_rfl
theorem ty22 : tyB Tryd.prog 22 = some (false, 1) := by kernel_rfl
theorem ty3 : tyB Tryd.prog 3 = some (false, 1) := by kernel_rfl
theorem ty4 : tyB Tryd.prog 4 = some (false, 1) := by kernel_rfl
theorem ty49 : tyB Tryd.prog 49 = some (true, 4) := by kernel_rfl
theorem ty5 : tyB Tryd.prog 5 = some (false, 1) := by kernel_rfl
theorem ty71 : tyB Tryd.prog 71 = some (true, 2) := by kernel_rfl
theorem ty72 : tyB Tryd.prog 72 = some (false, 1) := by kernel_rfl
theorem ty83 : tyB Tryd.prog 83 = some (false, 1) := by kernel_rfl
theorem ty85 : tyB Tryd.prog 85 = some (true, 1) := by kernel_rfl
theorem ty87 : tyB Tryd.prog 87 = some (true, 2) := by kernel_rfl
theorem ty98 : tyB Tryd.prog 98 = some (false, 1) := by kernel_rfl
theorem und3 : Tryd.prog.underlying 3 = some (.int .i64) := by kernel_rfl
theorem und5 : Tryd.prog.underlying 5 = some (.int .u8) := by kernel_rfl
end

end Go.Proofs.YtpbmhkfbggmofaaDoor
