/- Texts of this seat, put together. -/
import Derived.Test.YtpbmhkfbggmofaaDoorMA1
import Derived.RangeFuncMany
import Derived.RangeFuncCalls
import Derived.RangeFuncLeaves
import Derived.TacticsIn
import Derived.Test.YtpbmhkfbggmofaaDoorEls
import Derived.Test.YtpbmhkfbggmofaaDoorMA0
import Derived.Laws.BitsLemmas
import Derived.Lib.AppendZeros
import Derived.ArgAppend
import Derived.Test.YtpbmhkfbggmofaaDoorRows
set_option linter.unusedSimpArgs false
set_option linter.unusedVariables false
set_option linter.unusedSectionVars false
namespace Go.Proofs.YtpbmhkfbggmofaaDoor
section
open Go.RowKit

/-- the first four of a list -/
def pre4 {α : Type} (xs : List α) (κ : α → α → α → α → Prop) : Prop := ∃ a b c d r, xs = a :: b :: c :: d :: r ∧ κ a b c d
theorem rangeAt_app {w : World} {b o : Nat} {cs ds : List Value} (h : w.rangeAt b o cs) (k : w.rangeAt b (o + cs.length) ds) : w.rangeAt b o (cs ++ ds) := fun j v hv => by
  rw [List.getElem?_append] at hv
  split at hv
  · exact h j v hv
  · have := k (j - cs.length) v hv
    rwa [show o + cs.length + (j - cs.length) = o + j by omega] at this
theorem sl_open4 {α : Type} {E' : El α} {F0 : Nat → Prop} {wr : World} {v : Value} {xs : List α} {a b c d : α} (S : Sl E' F0 wr v xs) (h : ∃ r, xs = a :: b :: c :: d :: r) :
    ∃ c0 c1 c2 c3, E'.cells F0 wr a c0 ∧ E'.cells F0 wr b c1 ∧ E'.cells F0 wr c c2 ∧ E'.cells F0 wr d c3 ∧ RowAt wr F0 v 0 E'.size (c0 ++ (c1 ++ (c2 ++ c3))) := by
  obtain ⟨r, rfl⟩ := h
  obtain ⟨p, cap, rfl, hc, hr⟩ := S
  obtain ⟨g, off, rfl, hfb, hx⟩ := hr (by simp)
  obtain ⟨c0, h0, k0⟩ := hx 0 a rfl
  obtain ⟨c1, h1, k1⟩ := hx 1 b rfl
  obtain ⟨c2, h2, k2⟩ := hx 2 c rfl
  obtain ⟨c3, h3, k3⟩ := hx 3 d rfl
  have l0 := E'.len _ _ _ _ h0
  have l1 := E'.len _ _ _ _ h1
  have l2 := E'.len _ _ _ _ h2
  refine ⟨c0, c1, c2, c3, h0, h1, h2, h3, g, off, _, cap, rfl, hfb, ?_⟩
  have e0 : off + (0 : Int).toNat * E'.size = off := by simp
  rw [e0]
  refine rangeAt_app (by simpa using k0) (rangeAt_app ?_ (rangeAt_app ?_ ?_))
  · rw [l0]; simpa using k1
  · rw [l0, l1, show off + E'.size + E'.size = off + 2 * E'.size by omega]; exact k2
  · rw [l0, l1, l2, show off + E'.size + E'.size + E'.size = off + 3 * E'.size by omega]; exact k3
section
variable {P : Program} {n : Nat} {G D : Nat → Prop} {w0 : World} {Q : Exit → Act → World → Prop} {R : Act → World → Prop} {E : Env} {L M : List Ch} {φ : Prop}
variable {d : Tmp} {ty : TypeId} {pos : String} {aft : Array Edge} {gd : Option (Nat × Bool)} {Tk : Act → World → Prop} {Lr : List Ch} {x y : Operand} {T T' S : TypeId} {e sz by' : Nat} {at' : Array TypeId}
/-- an array of four from a slice: a pointer to its beginning -/
theorem o_s2a {α : Type} {El' : El α} {v : Value} {xs : List α} {ch : Ch} {κ : α → α → α → α → Prop} {e' s : Nat} {r : Bool} (M : Mode P n G D w0 E ⟨some d, .sliceToArrayPointer T x, ty, pos, aft, gd⟩ Tk R Lr L) (i : Nat) (hi : lget Lr i = some ch) (hc : Reads ch El' v xs) (hx : oev E x = some v) (hd : Nat.blt d n = true)
    (hT : arrB P T = some (4, e', r, s)) (hes : El'.size = 1) (k : ∀ p q s t, (∃ r, xs = p :: q :: s :: t :: r) → Nx n G D w0 R ((d, pEl v 0 1 0) :: E) L (κ p q s t)) : Nx n G D w0 Tk E L (pre4 xs κ) := fun a w hE hm hφ => by
  obtain ⟨p, q, s, t, r, hxs, hκ⟩ := hφ
  refine M.val (v := pEl v 0 1 0) (φ := κ p q s t) (ψ := κ p q s t) hd rfl (fun ρ w hE hm _ => ?_) id (k p q s t ⟨r, hxs⟩) a w hE hm hκ
  obtain ⟨g, cap, rfl, hcap, hr⟩ := hc _ _ (hm.get hi)
  obtain ⟨b, off, rfl, _⟩ := hr (by rw [hxs]; simp)
  have hl : ¬ xs.length < 4 := by rw [hxs]; simp
  have hu := (arr_of hT).1
  simp [execOp, hE _ _ hx, Instr.arrayAt, run_underlying hu, hl, pEl_slice]
/-! ### objects, packages of chunks -/
def objCh (b : Nat) (o : Obj) : Ch where
  foot := fun x => x = b
  holds := fun _ w => w.heap[b]? = some o
  keep := fun _ _ _ _ _ h k => (h b (.inr rfl)).trans k
/-- a consumer's memory in a state, as one chunk: B are its blocks -/
def consCh {σ : Type} (C : σ → List Ch → Prop) (B : Nat → Prop) (s : σ) : Ch where
  foot := B
  holds := fun F w => ∃ L, C s L ∧ (∀ b, feet L b ↔ B b) ∧ (L.Pairwise fun (c d : Ch) => ∀ b, c.foot b → ¬ d.foot b) ∧ ∀ c ∈ L, c.holds F w
  keep := fun F F' w w' hF hb ⟨L, h1, h2, h3, h4⟩ => ⟨L, h1, h2, h3, fun c hc => c.keep F F' w w' hF (fun b h => hb b (h.imp id (fun k => (h2 b).1 ⟨c, hc, k⟩))) (h4 c hc)⟩
theorem fz_cons {σ : Type} {C : σ → List Ch → Prop} {B : Nat → Prop} {s : σ} {L R : List Ch} {w : World} (h : ∀ b, feet L b ↔ B b) (b : Nat) : fz G (consCh C B s :: R) w b ↔ fz G (L ++ R) w b := by
  constructor
  · rintro ⟨h1, h2, h3⟩
    refine ⟨h1, h2, fun c hc hk => ?_⟩
    rcases List.mem_append.1 hc with e | e
    · exact h3 _ (List.mem_cons_self ..) ((h b).1 ⟨c, e, hk⟩)
    · exact h3 c (List.mem_cons_of_mem _ e) hk
  · rintro ⟨h1, h2, h3⟩
    refine ⟨h1, h2, fun c hc hk => ?_⟩
    rcases List.mem_cons.1 hc with e | e
    · subst e
      obtain ⟨d, hd, hk'⟩ := (h b).2 hk
      exact h3 d (List.mem_append.2 (.inl hd)) hk'
    · exact h3 c (List.mem_append.2 (.inr e)) hk
theorem Mem.openC {σ : Type} {C : σ → List Ch → Prop} {B : Nat → Prop} {s : σ} {R : List Ch} {w : World} (m : Mem G D w0 (consCh C B s :: R) w) : ∃ L, C s L ∧ (∀ b, feet L b ↔ B b) ∧ Mem G D w0 (L ++ R) w := by
  obtain ⟨L, h1, h2, h3, h4⟩ := m.hold _ (List.mem_cons_self ..)
  have hr : ∀ c ∈ L, ∀ b, c.foot b → (consCh C B s).foot b := fun c hc b hb => (h2 b).1 ⟨c, hc, hb⟩
  refine ⟨L, h1, h2, m.fresh, m.os, m.tape, m.output, m.size, m.old, fun c hc b hb => ?_, List.pairwise_append.2 ⟨h3, (List.pairwise_cons.1 m.disj).2, fun c hc d hd b k1 k2 => (List.pairwise_cons.1 m.disj).1 d hd b (hr c hc b k1) k2⟩, fun c hc => ?_⟩
  · rcases List.mem_append.1 hc with e | e
    · exact m.range _ (List.mem_cons_self ..) b (hr c e b hb)
    · exact m.range c (List.mem_cons_of_mem _ e) b hb
  · rcases List.mem_append.1 hc with e | e
    · exact c.keep _ _ w w (fun b hb => (fz_cons h2 b).1 hb) (fun _ _ => rfl) (h4 c e)
    · exact c.keep _ _ w w (fun b hb => (fz_cons h2 b).1 hb) (fun _ _ => rfl) (m.hold c (List.mem_cons_of_mem _ e))
theorem Mem.closeC {σ : Type} {C : σ → List Ch → Prop} {s : σ} {L R : List Ch} {w : World} (m : Mem G D w0 (L ++ R) w) (h : C s L) : Mem G D w0 (consCh C (feet L) s :: R) w := by
  have inL : ∀ c ∈ L, c ∈ L ++ R := fun c hc => List.mem_append.2 (.inl hc)
  have inR : ∀ c ∈ R, c ∈ L ++ R := fun c hc => List.mem_append.2 (.inr hc)
  have hd := List.pairwise_append.1 m.disj
  refine ⟨m.fresh, m.os, m.tape, m.output, m.size, m.old, fun c hc b hb => ?_, List.pairwise_cons.2 ⟨fun d hd' b ⟨c, hc, k1⟩ k2 => hd.2.2 c hc d hd' b k1 k2, hd.2.1⟩, fun c hc => ?_⟩
  · rcases List.mem_cons.1 hc with e | e
    · subst e
      obtain ⟨c, hc, k⟩ := hb
      exact m.range c (inL c hc) b k
    · exact m.range c (inR c e) b hb
  · rcases List.mem_cons.1 hc with e | e
    · subst e
      exact ⟨L, h, fun _ => Iff.rfl, hd.1, fun c hc => c.keep _ _ w w (fun b hb => (fz_cons (fun _ => Iff.rfl) b).2 hb) (fun _ _ => rfl) (m.hold c (inL c hc))⟩
    · exact c.keep _ _ w w (fun b hb => (fz_cons (fun _ => Iff.rfl) b).2 hb) (fun _ _ => rfl) (m.hold c (inR c e))
/-! ### a consumer that keeps its word -/
/-! ### regions with a call of yield -/
/-! ### code in a round -/
section
variable {F : Fence} {m l : Nat}
end
end

end
section
open Go.RowKit
@[ext] structure GSpan where
  xLo : Int
  xHi : Int
  deriving DecidableEq
def encGSpan (x : GSpan) : List Value := [(.int .i64 x.xLo), (.int .i64 x.xHi)]
def elGSpan : El GSpan := El.flat 2 encGSpan (by decide) (fun _ => rfl) (fun x u h => by simp only [encGSpan, List.mem_cons, List.not_mem_nil, or_false] at h; rcases h with rfl | rfl <;> rfl)
theorem flelGSpan : Flat elGSpan encGSpan := flat_flat
abbrev dGSpan : DEl GSpan := dflat elGSpan encGSpan flelGSpan
@[ext] structure GBox where
  xSides : (List (List GSpan))
  deriving DecidableEq
def encGBox (u : Value) (x : GBox) : List Value := [u]
def elGBox : El GBox where
  size := 1
  cells := fun F w x cs => ∃ u : Value, cs = encGBox u x ∧ Sl (elSl elGSpan) F w u x.xSides
  pos := by decide
  len := fun F w x cs ⟨u, e, _⟩ => by rw [e]; rfl
  one := fun F w x cs ⟨u, e, h⟩ v hv => by
    subst e
    simp only [encGBox, List.mem_cons, List.not_mem_nil, or_false] at hv
    subst hv; exact h.one
  keep := fun F F' w w' x cs hF hb ⟨u, e, h⟩ => ⟨u, e, h.keep hF hb⟩
def dGBox : DEl GBox where
  el := elGBox
  own := fun B w x cs => ∃ u : Value, cs = encGBox u x ∧ Dp (dSl dGSpan 71) 72 B w u x.xSides
  read := fun B w x cs ⟨u, e, h⟩ => ⟨u, e, h.sl⟩
  keep := fun B w w' x cs hk ⟨u, e, h⟩ => ⟨u, e, h.keep hk⟩
  lt := fun B w x cs ⟨u, e, h⟩ => h.lt
@[ext] structure GTest where
  xField : Int
  xLo : Int
  xHi : Int
  xNot : Bool
  deriving DecidableEq
def encGTest (x : GTest) : List Value := [(.int .i64 x.xField), (.int .i64 x.xLo), (.int .i64 x.xHi), (.bool x.xNot)]
def elGTest : El GTest := El.flat 4 encGTest (by decide) (fun _ => rfl) (fun x u h => by simp only [encGTest, List.mem_cons, List.not_mem_nil, or_false] at h; rcases h with rfl | rfl | rfl | rfl <;> rfl)
theorem flelGTest : Flat elGTest encGTest := flat_flat
abbrev dGTest : DEl GTest := dflat elGTest encGTest flelGTest
@[ext] structure GFlat where
  xWhere : GBox
  xAccept : Bool
  deriving DecidableEq
def encGFlat (u : Value) (x : GFlat) : List Value := [u, (.bool x.xAccept)]
def elGFlat : El GFlat where
  size := 2
  cells := fun F w x cs => ∃ u : Value, cs = encGFlat u x ∧ Sl (elSl elGSpan) F w u x.xWhere.xSides
  pos := by decide
  len := fun F w x cs ⟨u, e, _⟩ => by rw [e]; rfl
  one := fun F w x cs ⟨u, e, h⟩ v hv => by
    subst e
    simp only [encGFlat, List.mem_cons, List.not_mem_nil, or_false] at hv
    rcases hv with e | e
    · subst e; exact h.one
    · subst e; exact rfl
  keep := fun F F' w w' x cs hF hb ⟨u, e, h⟩ => ⟨u, e, h.keep hF hb⟩
def dGFlat : DEl GFlat where
  el := elGFlat
  own := fun B w x cs => ∃ u : Value, cs = encGFlat u x ∧ Dp (dSl dGSpan 71) 72 B w u x.xWhere.xSides
  read := fun B w x cs ⟨u, e, h⟩ => ⟨u, e, h.sl⟩
  keep := fun B w w' x cs hk ⟨u, e, h⟩ => ⟨u, e, h.keep hk⟩
  lt := fun B w x cs ⟨u, e, h⟩ => h.lt
@[ext] structure GPacket where
  xFrom : Int
  xTo : Int
  xPort : Int
  xProto : Int
  deriving DecidableEq
@[ext] structure A4Int where
  x0 : Int
  x1 : Int
  x2 : Int
  x3 : Int
  deriving DecidableEq
@[ext] structure A4ListGSpan where
  x0 : (List GSpan)
  x1 : (List GSpan)
  x2 : (List GSpan)
  x3 : (List GSpan)
  deriving DecidableEq
def encA4ListGSpan (u : Value × Value × Value × Value) (x : A4ListGSpan) : List Value := [u.1, u.2.1, u.2.2.1, u.2.2.2]
def elA4ListGSpan : El A4ListGSpan where
  size := 4
  cells := fun F w x cs => ∃ u : Value × Value × Value × Value, cs = encA4ListGSpan u x ∧ Sl elGSpan F w u.1 x.x0 ∧ Sl elGSpan F w u.2.1 x.x1 ∧ Sl elGSpan F w u.2.2.1 x.x2 ∧ Sl elGSpan F w u.2.2.2 x.x3
  pos := by decide
  len := fun F w x cs ⟨u, e, _⟩ => by rw [e]; rfl
  one := fun F w x cs ⟨u, e, h⟩ v hv => by
    subst e
    simp only [encA4ListGSpan, List.mem_cons, List.not_mem_nil, or_false] at hv
    rcases hv with e | e | e | e
    · subst e; exact h.1.one
    · subst e; exact h.2.1.one
    · subst e; exact h.2.2.1.one
    · subst e; exact h.2.2.2.one
  keep := fun F F' w w' x cs hF hb ⟨u, e, h⟩ => ⟨u, e, h.1.keep hF hb, h.2.1.keep hF hb, h.2.2.1.keep hF hb, h.2.2.2.keep hF hb⟩
@[ext] structure GIflat where
  xWhere : A4ListGSpan
  xAccept : Bool
  deriving DecidableEq
def encGIflat (u : Value × Value × Value × Value) (x : GIflat) : List Value := [u.1, u.2.1, u.2.2.1, u.2.2.2, (.bool x.xAccept)]
def elGIflat : El GIflat where
  size := 5
  cells := fun F w x cs => ∃ u : Value × Value × Value × Value, cs = encGIflat u x ∧ Sl elGSpan F w u.1 x.xWhere.x0 ∧ Sl elGSpan F w u.2.1 x.xWhere.x1 ∧ Sl elGSpan F w u.2.2.1 x.xWhere.x2 ∧ Sl elGSpan F w u.2.2.2 x.xWhere.x3
  pos := by decide
  len := fun F w x cs ⟨u, e, _⟩ => by rw [e]; rfl
  one := fun F w x cs ⟨u, e, h⟩ v hv => by
    subst e
    simp only [encGIflat, List.mem_cons, List.not_mem_nil, or_false] at hv
    rcases hv with e | e | e | e | e
    · subst e; exact h.1.one
    · subst e; exact h.2.1.one
    · subst e; exact h.2.2.1.one
    · subst e; exact h.2.2.2.one
    · subst e; exact rfl
  keep := fun F F' w w' x cs hF hb ⟨u, e, h⟩ => ⟨u, e, h.1.keep hF hb, h.2.1.keep hF hb, h.2.2.1.keep hF hb, h.2.2.2.keep hF hb⟩
@[ext] structure GRule where
  xTests : (List GTest)
  xAction : Int
  xChain : Int
  deriving DecidableEq
def encGRule (u : Value) (x : GRule) : List Value := [u, (.int .i64 x.xAction), (.int .i64 x.xChain)]
def elGRule : El GRule where
  size := 3
  cells := fun F w x cs => ∃ u : Value, cs = encGRule u x ∧ Sl elGTest F w u x.xTests
  pos := by decide
  len := fun F w x cs ⟨u, e, _⟩ => by rw [e]; rfl
  one := fun F w x cs ⟨u, e, h⟩ v hv => by
    subst e
    simp only [encGRule, List.mem_cons, List.not_mem_nil, or_false] at hv
    rcases hv with e | e | e
    · subst e; exact h.one
    · subst e; exact rfl
    · subst e; exact rfl
  keep := fun F F' w w' x cs hF hb ⟨u, e, h⟩ => ⟨u, e, h.keep hF hb⟩
def dGRule : DEl GRule where
  el := elGRule
  own := fun B w x cs => ∃ u : Value, cs = encGRule u x ∧ Dp dGTest 125 B w u x.xTests
  read := fun B w x cs ⟨u, e, h⟩ => ⟨u, e, h.sl⟩
  keep := fun B w w' x cs hk ⟨u, e, h⟩ => ⟨u, e, h.keep hk⟩
  lt := fun B w x cs ⟨u, e, h⟩ => h.lt
@[ext] structure GRuleset where
  xChains : (List (List GRule))
  xAccept : Bool
  deriving DecidableEq
@[ext] structure GDeciding where
  xAccept : Bool
  deriving DecidableEq
@[ext] structure GCalling where
  xChain : Int
  deriving DecidableEq
@[ext] structure GReturning where
  deriving DecidableEq
@[ext] structure GPassing where
  deriving DecidableEq
@[ext] structure GFieldShape where
  xName : ByteArray
  xTop : Int
  deriving DecidableEq
def encGFieldShape (x : GFieldShape) : List Value := [(.string x.xName), (.int .i64 x.xTop)]
def elGFieldShape : El GFieldShape := El.flat 2 encGFieldShape (by decide) (fun _ => rfl) (fun x u h => by simp only [encGFieldShape, List.mem_cons, List.not_mem_nil, or_false] at h; rcases h with rfl | rfl <;> rfl)
theorem flelGFieldShape : Flat elGFieldShape encGFieldShape := flat_flat
@[ext] structure GPlace where
  xChain : Int
  xNext : Int
  deriving DecidableEq
def encGPlace (x : GPlace) : List Value := [(.int .i64 x.xChain), (.int .i64 x.xNext)]
def elGPlace : El GPlace := El.flat 2 encGPlace (by decide) (fun _ => rfl) (fun x u h => by simp only [encGPlace, List.mem_cons, List.not_mem_nil, or_false] at h; rcases h with rfl | rfl <;> rfl)
theorem flelGPlace : Flat elGPlace encGPlace := flat_flat
@[ext] structure GVisit where
  xChain : Int
  xPlace : Int
  deriving DecidableEq
def encGVisit (x : GVisit) : List Value := [(.int .i64 x.xChain), (.int .i64 x.xPlace)]
def elGVisit : El GVisit := El.flat 2 encGVisit (by decide) (fun _ => rfl) (fun x u h => by simp only [encGVisit, List.mem_cons, List.not_mem_nil, or_false] at h; rcases h with rfl | rfl <;> rfl)
theorem flelGVisit : Flat elGVisit encGVisit := flat_flat
inductive IAction where
  | kDeciding (x : GDeciding)
  | kCalling (x : GCalling)
  | kReturning (x : GReturning)
  | kPassing (x : GPassing)
def ivIAction : IAction → Value
  | .kDeciding x => .iface 184 (.agg #[(.bool x.xAccept)])
  | .kCalling x => .iface 186 (.agg #[(.int .i64 x.xChain)])
  | .kReturning x => .iface 188 (.agg #[])
  | .kPassing x => .iface 189 (.agg #[])
def IAction.casesW (a : IAction) (p0 : GDeciding → Prop) (p1 : GCalling → Prop) (p2 : GReturning → Prop) (p3 : GPassing → Prop) : Prop := match a with
  | .kDeciding x => p0 x
  | .kCalling x => p1 x
  | .kReturning x => p2 x
  | .kPassing x => p3 x
/-- what the package-level variable reads as -/
def gl_impl_fieldShapes : List GFieldShape := [⟨(ByteArray.mk #[102, 114, 111, 109]), 65535⟩, ⟨(ByteArray.mk #[116, 111]), 65535⟩, ⟨(ByteArray.mk #[112, 111, 114, 116]), 255⟩, ⟨(ByteArray.mk #[112, 114, 111, 116, 111]), 7⟩]

def L_spec_l20Open (code_0 : (List UInt8)) (κ : ((List UInt8) × Int) → Prop) : Prop :=
  jnW (fun (xs68 : (List UInt8)) => κ (xs68, 0)) (fun k71 => ifW (decide (2000 < (code_0.length : Int))) (sliceW code_0 0 2000 (fun xs4 => k71 xs4)) (k71 code_0))

def L_spec_l20Rd_pick (r_0_b : (List UInt8)) (r_0_p : Int) (n_1 : Int) (κ : (Int × Int) → Prop) : Prop :=
  addW r_0_p 1 (fun t5 => jnW (fun (t66 : Bool) => ifW t66 (κ (0, t5)) (subW t5 1 (fun t68 => ifW (decide (t68 < (r_0_b.length : Int))) (idxW r_0_b t68 (fun e69 => remW (e69.toNat : Int) n_1 (fun t71 => κ (t71, t5)))) (remW t68 (r_0_b.length : Int) (fun t72 => idxW r_0_b t72 (fun e73 => mulW (e73.toNat : Int) 131 (fun t75 => mulW t68 7 (fun t76 => addW t76 3 (fun t77 => remW t77 (r_0_b.length : Int) (fun t78 => idxW r_0_b t78 (fun e79 => mulW (e79.toNat : Int) 1117 (fun t81 => addW t75 t81 (fun t82 => mulW t68 29 (fun t83 => addW t82 t83 (fun t84 => quoW t68 (r_0_b.length : Int) (fun t85 => mulW t85 53 (fun t86 => addW t84 t86 (fun t87 => quoW t87 64 (fun t88 => xorW t87 t88 (fun t89 => remW t89 n_1 (fun t90 => κ (t90, t5)))))))))))))))))))))) (fun k67 => ifW (decide (n_1 < 1)) (k67 true) (k67 (decide ((r_0_b.length : Int) = 0)))))

def L_spec_l20Rd_odd (r_0_b : (List UInt8)) (r_0_p : Int) (n_1 : Int) (κ : (Bool × Int) → Prop) : Prop :=
  jnW (fun ((t68, t69) : (Int × Bool)) => κ (t69, t68)) (fun k70 => ifW (decide (0 < n_1)) (L_spec_l20Rd_pick r_0_b r_0_p n_1 (fun (r5, r6) => subW n_1 1 (fun t7 => k70 (r6, (decide (r5 = t7)))))) (k70 (r_0_p, false)))

def L_spec_l1In (n_0 : Int) (lo_1 : Int) (hi_2 : Int) (κ : Bool → Prop) : Prop :=
  jnW (fun (t61 : Bool) => κ t61) (fun k62 => ifW (decide (lo_1 ≤ n_0)) (k62 (decide (n_0 ≤ hi_2))) (k62 false))

def L_spec_l1Add (list_0 : (List GSpan)) (s_1 : GSpan) (κ : (List GSpan) → Prop) : Prop :=
  loopW (fun (nx16 : (Int × Int × (List GSpan) × Bool × Int) → Prop) ((t8, t9, xs11, t14, t15) : (Int × Int × (List GSpan) × Bool × Int)) => ifW (decide (t15 < (list_0.length : Int))) (jnW (fun ((xs160, t163, t164, t165) : ((List GSpan) × Int × Int × Bool)) => addW t15 1 (fun t167 => nx16 (t163, t164, xs160, t165, t167))) (fun k166 => idxW list_0 t15 (fun e17 => addW e17.xHi 1 (fun t21 => ifW (decide (t21 < t8)) (appW xs11 ([e17]) (fun _ => k166 ((xs11 ++ ([e17])), t8, t9, t14))) (addW t9 1 (fun t26 => ifW (decide (t26 < e17.xLo)) (jnW (fun ((xs91, t94) : ((List GSpan) × Bool)) => appW xs91 ([e17]) (fun _ => k166 ((xs91 ++ ([e17])), t8, t9, t94))) (fun k95 => ifW (!t14) (appW xs11 ([(GSpan.mk t8 t9)]) (fun _ => k95 ((xs11 ++ ([(GSpan.mk t8 t9)])), true))) (k95 (xs11, t14)))) (k166 (xs11, (min t8 e17.xLo), (max t9 e17.xHi), t14)))))))) (jnW (fun (xs232 : (List GSpan)) => κ xs232) (fun k235 => ifW (!t14) (appW xs11 ([(GSpan.mk t8 t9)]) (fun _ => k235 (xs11 ++ ([(GSpan.mk t8 t9)])))) (k235 xs11)))) (s_1.xLo, s_1.xHi, [], false, 0)

def L_spec_SpansOf (list_0 : (List GSpan)) (top_1 : Int) (κ : (List GSpan) → Prop) : Prop :=
  jnW (fun (t67 : Bool) => ifW t67 (κ ([])) (loopW (fun (nx74 : ((List GSpan) × Int) → Prop) ((xs70, t73) : ((List GSpan) × Int)) => ifW (decide (t73 < (list_0.length : Int))) (jnW (fun (t143 : Bool) => ifW t143 (κ ([])) (idxW list_0 t73 (fun e147 => L_spec_l1Add xs70 e147 (fun r149 => addW t73 1 (fun t152 => nx74 (r149, t152)))))) (fun k144 => idxW list_0 t73 (fun e75 => idxW list_0 t73 (fun e77 => L_spec_l1In e75.xLo 0 e77.xHi (fun r79 => ifW (!r79) (k144 true) (idxW list_0 t73 (fun e80 => L_spec_l1In e80.xHi 0 top_1 (fun r82 => k144 (!r82))))))))) (κ xs70)) ([], 0))) (fun k68 => L_spec_l1In top_1 0 65535 (fun r6 => ifW (!r6) (k68 true) (k68 (decide (40 < (list_0.length : Int))))))

def L_spec_l20Span (r_0_b : (List UInt8)) (r_0_p : Int) (top_1 : Int) (n_2 : Int) (κ : (GSpan × Int) → Prop) : Prop :=
  addW top_1 1 (fun t7 => L_spec_l20Rd_pick r_0_b r_0_p (min 256 t7) (fun (r8, r9) => jnW (fun ((t144, t145) : (Int × Int)) => jnW (fun ((t147, t148) : (Int × Int)) => L_spec_l20Rd_odd r_0_b t147 n_2 (fun (r174, r175) => ifW r174 (jnW (fun ((t176, t177, t178) : (Int × Int × Int)) => κ ((GSpan.mk t177 t178), t176)) (fun k179 => L_spec_l20Rd_pick r_0_b r175 3 (fun (r181, r182) => idxW ([(GSpan.mk (w64 (t148 + 1)) t148), (GSpan.mk (-1) t148), (GSpan.mk t145 (w64 (top_1 + 1)))]) r181 (fun e183 => k179 (r182, e183.xLo, e183.xHi))))) (κ ((GSpan.mk t145 t148), r175)))) (fun k149 => L_spec_l20Rd_pick r_0_b t144 4 (fun (r150, r151) => L_spec_l20Rd_pick r_0_b r151 256 (fun (r152, r153) => L_spec_l20Rd_pick r_0_b r153 4 (fun (r155, r156) => idxW ([0, r150, r152, 4096]) r155 (fun e157 => k149 (r156, (min top_1 (w64 (t145 + e157)))))))))) (fun k146 => jnW (fun ((t74, t75) : (Int × Bool)) => ifW t75 (jnW (fun ((t77, t78) : (Int × Int)) => k146 (t77, t78)) (fun k79 => L_spec_l20Rd_pick r_0_b t74 256 (fun (r80, r81) => k79 (r81, (min top_1 (w64 ((w64 (r8 * 256)) + r80))))))) (k146 (t74, r8))) (fun k76 => ifW (decide (255 < top_1)) (L_spec_l20Rd_pick r_0_b r9 2 (fun (r12, r13) => k76 (r13, (decide (r12 = 0))))) (k76 (r9, false))))))

def L_spec_l20Raw (r_0_b : (List UInt8)) (r_0_p : Int) (top_1 : Int) (n_2 : Int) (κ : ((List GSpan) × Int) → Prop) : Prop :=
  L_spec_l20Rd_pick r_0_b r_0_p 6 (fun (r8, r9) => loopW (fun (nx16 : (Int × (List GSpan) × Int) → Prop) ((t10, xs12, t15) : (Int × (List GSpan) × Int)) => ifW (decide (0 < t15)) (L_spec_l20Span r_0_b t10 top_1 n_2 (fun (r17, r18) => appW xs12 ([r17]) (fun _ => subW t15 1 (fun t23 => nx16 (r18, (xs12 ++ ([r17])), t23))))) (κ (xs12, t10))) (r9, [], r8))

def L_spec_l20Set (r_0_b : (List UInt8)) (r_0_p : Int) (top_1 : Int) (n_2 : Int) (κ : ((List GSpan) × Int) → Prop) : Prop :=
  L_spec_l20Raw r_0_b r_0_p top_1 0 (fun (r6, r9) => L_spec_SpansOf r6 top_1 (fun r10 => jnW (fun ((t90, xs92) : (Int × (List GSpan))) => κ (xs92, t90)) (fun k95 => L_spec_l20Rd_odd r_0_b r9 n_2 (fun (r13, r14) => ifW r13 (L_spec_l20Rd_pick r_0_b r14 3 (fun (r15, r16) => ifW (decide (r15 = 0)) (L_spec_l20Span r_0_b r16 top_1 1 (fun (r17, r18) => appW r10 ([r17]) (fun _ => k95 (r18, (r10 ++ ([r17])))))) (ifW (decide (r15 = 1)) (appW r10 ([(GSpan.mk 1 2), (GSpan.mk 3 3)]) (fun _ => k95 (r16, (r10 ++ ([(GSpan.mk 1 2), (GSpan.mk 3 3)]))))) (makeW ((GSpan.mk 0 0) : GSpan) 41 41 (fun xs28 => k95 (r16, xs28)))))) (k95 (r14, r10))))))

def L_spec_FieldTop (n_0 : Int) (κ : Int → Prop) : Prop :=
  jnW (fun (t61 : Bool) => ifW t61 (κ 65535) (ifW (decide (n_0 = 2)) (κ 255) (ifW (decide (n_0 = 3)) (κ 7) (κ (-1))))) (fun k62 => ifW (decide (n_0 = 0)) (k62 (decide (n_0 = 0))) (k62 (decide (n_0 = 1))))

def L_spec_BoxAll (κ : GBox → Prop) : Prop :=
  loopW (fun (nx11 : ((List (List GSpan)) × Int) → Prop) ((xs6, t10) : ((List (List GSpan)) × Int)) => ifW (decide (t10 < 4)) (jnW (fun (xs15 : (List (List GSpan))) => addW t10 1 (fun t41 => nx11 (xs15, t41))) (fun k19 => L_spec_FieldTop t10 (fun r20 => appW xs6 ([[(GSpan.mk 0 r20)]]) (fun _ => k19 (xs6 ++ ([[(GSpan.mk 0 r20)]])))))) (κ (GBox.mk xs6))) ([], 0)

def L_spec_TestValid (t_0 : GTest) (κ : Bool → Prop) : Prop :=
  jnW (fun (t66 : Bool) => κ t66) (fun k67 => L_spec_l1In t_0.xField 0 3 (fun r3 => ifW r3 (L_spec_l1In t_0.xLo 0 t_0.xHi (fun r4 => ifW r4 (L_spec_FieldTop t_0.xField (fun r5 => k67 (decide (t_0.xHi ≤ r5)))) (k67 false))) (k67 false)))

def L_spec_TestsValid (list_0 : (List GTest)) (κ : Bool → Prop) : Prop :=
  loopW (fun (nx4 : Int → Prop) (t3 : Int) => ifW (decide (t3 < (list_0.length : Int))) (idxW list_0 t3 (fun e5 => L_spec_TestValid e5 (fun r7 => ifW (!r7) (κ false) (addW t3 1 (fun t8 => nx4 t8))))) (κ (decide ((list_0.length : Int) ≤ 6)))) 0

def L_spec_l2Meet (a_0 : (List GSpan)) (b_1 : (List GSpan)) (κ : (List GSpan) → Prop) : Prop :=
  loopW (fun (nx13 : ((List GSpan) × Int) → Prop) ((xs9, t12) : ((List GSpan) × Int)) => ifW (decide (t12 < (a_0.length : Int))) (loopW (fun (nx19 : ((List GSpan) × Int) → Prop) ((xs15, t18) : ((List GSpan) × Int)) => ifW (decide (t18 < (b_1.length : Int))) (jnW (fun (xs92 : (List GSpan)) => addW t18 1 (fun t96 => nx19 (xs92, t96))) (fun k95 => idxW a_0 t12 (fun e20 => idxW b_1 t18 (fun e22 => idxW a_0 t12 (fun e24 => idxW b_1 t18 (fun e26 => ifW (decide ((max e20.xLo e22.xLo) ≤ (min e24.xHi e26.xHi))) (appW xs15 ([(GSpan.mk (max e20.xLo e22.xLo) (min e24.xHi e26.xHi))]) (fun _ => k95 (xs15 ++ ([(GSpan.mk (max e20.xLo e22.xLo) (min e24.xHi e26.xHi))])))) (k95 xs15))))))) (addW t12 1 (fun t97 => nx13 (xs15, t97)))) (xs9, 0)) (κ xs9)) ([], 0)

def L_spec_l2Other (a_0 : (List GSpan)) (top_1 : Int) (κ : (List GSpan) → Prop) : Prop :=
  loopW (fun (nx12 : ((List GSpan) × Int × Int) → Prop) ((xs7, t10, t11) : ((List GSpan) × Int × Int)) => ifW (decide (t11 < (a_0.length : Int))) (jnW (fun (xs82 : (List GSpan)) => idxW a_0 t11 (fun e86 => addW e86.xHi 1 (fun t88 => addW t11 1 (fun t89 => nx12 (xs82, t88, t89))))) (fun k85 => idxW a_0 t11 (fun e13 => ifW (decide (t10 < e13.xLo)) (idxW a_0 t11 (fun e15 => subW e15.xLo 1 (fun t17 => appW xs7 ([(GSpan.mk t10 t17)]) (fun _ => k85 (xs7 ++ ([(GSpan.mk t10 t17)])))))) (k85 xs7)))) (jnW (fun (xs154 : (List GSpan)) => κ xs154) (fun k157 => ifW (decide (t10 ≤ top_1)) (appW xs7 ([(GSpan.mk t10 top_1)]) (fun _ => k157 (xs7 ++ ([(GSpan.mk t10 top_1)])))) (k157 xs7)))) ([], 0, 0)

def L_spec_TestSpans (t_0 : GTest) (κ : (List GSpan) → Prop) : Prop :=
  L_spec_TestValid t_0 (fun r4 => ifW (!r4) (κ ([])) (ifW t_0.xNot (L_spec_FieldTop t_0.xField (fun r9 => L_spec_l2Other ([(GSpan.mk t_0.xLo t_0.xHi)]) r9 (fun r10 => κ r10))) (κ ([(GSpan.mk t_0.xLo t_0.xHi)]))))

def L_spec_TestsBox (list_0 : (List GTest)) (κ : GBox → Prop) : Prop :=
  L_spec_TestsValid list_0 (fun r5 => ifW (!r5) (κ (GBox.mk ([]))) (L_spec_BoxAll (fun r7 => loopW (fun (nx21 : ((List (List GSpan)) × Int) → Prop) ((xs17, t20) : ((List (List GSpan)) × Int)) => ifW (decide (t20 < (list_0.length : Int))) (idxW list_0 t20 (fun e22 => jnW (fun (xs27 : (List (List GSpan))) => addW t20 1 (fun t58 => nx21 (xs27, t58))) (fun k29 => idxW list_0 t20 (fun e30 => (idxW xs17 e22.xField (fun e32 => L_spec_TestSpans e30 (fun r38 => L_spec_l2Meet e32 r38 (fun r40 => idxW xs17 e22.xField (fun e42 => k29 (xs17.set (e22.xField).toNat r40)))))) ∧ (L_spec_TestSpans e30 (fun r54 => idxW xs17 e22.xField (fun e56 => L_spec_l2Meet e56 r54 (fun r40 => idxW xs17 e22.xField (fun e42 => k29 (xs17.set (e22.xField).toNat r40)))))))))) (κ (GBox.mk xs17))) (r7.xSides, 0))))

def L_spec_l20Test (r_0_b : (List UInt8)) (r_0_p : Int) (n_1 : Int) (κ : (GTest × Int) → Prop) : Prop :=
  L_spec_l20Rd_pick r_0_b r_0_p 4 (fun (r7, r8) => L_spec_l20Rd_pick r_0_b r8 4 (fun (r9, r10) => L_spec_FieldTop r7 (fun r13 => L_spec_l20Span r_0_b r10 r13 0 (fun (r14, r15) => jnW (fun ((t152, t153, t154) : (Int × Int × Int)) => jnW (fun ((t241, t242, t243) : (Int × Int × Int)) => jnW (fun ((t317, t318, t319, t320) : (Int × Int × Int × Int)) => κ ((GTest.mk t318 t319 t320 (decide (r9 = 0))), t317)) (fun k321 => L_spec_l20Rd_odd r_0_b t241 n_1 (fun (r245, r246) => ifW r245 (L_spec_l20Rd_pick r_0_b r246 3 (fun (r247, r248) => ifW (decide (r247 = 0)) (L_spec_l20Rd_pick r_0_b r248 2 (fun (r251, r252) => idxW ([(-1), 4]) r251 (fun e253 => k321 (r252, e253, t242, t243)))) (ifW (decide (r247 = 1)) (addW t243 1 (fun t255 => k321 (r248, r7, t255, t243))) (addW r13 1 (fun t256 => k321 (r248, r7, t242, t256)))))) (k321 (r246, r7, t242, t243))))) (fun k244 => L_spec_l20Rd_pick r_0_b t152 8 (fun (r156, r157) => ifW (decide (r156 = 0)) (jnW (fun ((t158, t159, t160) : (Int × Int × Int)) => k244 (t158, t159, t160)) (fun k161 => L_spec_l20Rd_pick r_0_b r157 3 (fun (r163, r164) => idxW ([(GSpan.mk 0 r13), (GSpan.mk 0 t154), (GSpan.mk t153 r13)]) r163 (fun e165 => k161 (r164, e165.xLo, e165.xHi))))) (k244 (r157, t153, t154))))) (fun k155 => jnW (fun ((t80, t81) : (Int × Bool)) => ifW t81 (L_spec_l20Rd_pick r_0_b t80 20 (fun (r83, r84) => jnW (fun ((t85, t86) : (Int × Int)) => k155 (t85, r83, t86)) (fun k87 => L_spec_l20Rd_pick r_0_b r84 8 (fun (r88, r89) => k87 (r89, (w64 (r83 + r88))))))) (k155 (t80, r14.xLo, r14.xHi))) (fun k82 => ifW (decide (r7 < 2)) (L_spec_l20Rd_pick r_0_b r15 2 (fun (r18, r19) => k82 (r19, (decide (r18 = 0))))) (k82 (r15, false))))))))

def L_spec_l20Tests (r_0_b : (List UInt8)) (r_0_p : Int) (n_1 : Int) (κ : ((List GTest) × Int) → Prop) : Prop :=
  L_spec_l20Rd_pick r_0_b r_0_p 4 (fun (r8, r9) => loopW (fun (nx16 : (Int × (List GTest) × Int) → Prop) ((t10, xs12, t15) : (Int × (List GTest) × Int)) => ifW (decide (0 < t15)) (L_spec_l20Test r_0_b t10 0 (fun (r17, r18) => appW xs12 ([r17]) (fun _ => subW t15 1 (fun t23 => nx16 (r18, (xs12 ++ ([r17])), t23))))) (jnW (fun ((t97, xs99) : (Int × (List GTest))) => κ (xs99, t97)) (fun k102 => L_spec_l20Rd_odd r_0_b t10 n_1 (fun (r24, r25) => ifW r24 (L_spec_l20Rd_pick r_0_b r25 2 (fun (r26, r27) => ifW (decide (r26 = 0)) (L_spec_l20Test r_0_b r27 1 (fun (r28, r29) => appW xs12 ([r28]) (fun _ => k102 (r29, (xs12 ++ ([r28])))))) (makeW ((GTest.mk 0 0 0 false) : GTest) 7 7 (fun xs35 => k102 (r27, xs35))))) (k102 (r25, xs12)))))) (r9, [], r8))

def L_spec_l20Box (r_0_b : (List UInt8)) (r_0_p : Int) (n_1 : Int) (κ : (GBox × Int) → Prop) : Prop :=
  L_spec_l20Tests r_0_b r_0_p 0 (fun (r7, r10) => L_spec_TestsBox r7 (fun r11 => jnW (fun ((xs94, t96) : ((List (List GSpan)) × Int)) => jnW (fun ((t189, xs191) : (Int × (List (List GSpan)))) => κ ((GBox.mk xs191), t189)) (fun k194 => L_spec_l20Rd_odd r_0_b t96 n_1 (fun (r98, r99) => ifW r98 (L_spec_l20Rd_pick r_0_b r99 3 (fun (r100, r101) => ifW (decide (r100 = 0)) (sliceW xs94 1 (xs94.length : Int) (fun xs103 => k194 (r101, xs103))) (ifW (decide (r100 = 1)) (idxW xs94 3 (fun e110 => k194 (r101, (xs94.set (3 : Int).toNat ([(GSpan.mk 0 8)]))))) (appW xs94 ([[]]) (fun _ => k194 (r101, (xs94 ++ ([[]])))))))) (k194 (r99, xs94))))) (fun k97 => L_spec_l20Rd_pick r_0_b r10 3 (fun (r19, r20) => ifW (decide (r19 = 0)) (L_spec_l20Rd_pick r_0_b r20 4 (fun (r21, r22) => L_spec_FieldTop r21 (fun r23 => L_spec_l20Set r_0_b r22 r23 0 (fun (r24, r27) => idxW r11.xSides r21 (fun e28 => k97 ((r11.xSides.set (r21).toNat r24), r27)))))) (k97 (r11.xSides, r20))))))

def L_spec_l20Flats (r_0_b : (List UInt8)) (r_0_p : Int) (n_1 : Int) (κ : ((List GFlat) × Int) → Prop) : Prop :=
  L_spec_l20Rd_pick r_0_b r_0_p 7 (fun (r9, r10) => loopW (fun (nx17 : (Int × (List GFlat) × Int) → Prop) ((t11, xs13, t16) : (Int × (List GFlat) × Int)) => ifW (decide (0 < t16)) (L_spec_l20Box r_0_b t11 0 (fun (r18, r21) => L_spec_l20Rd_pick r_0_b r21 2 (fun (r22, r23) => jnW (fun ((t187, xs189, t192) : (Int × (List (List GSpan)) × Bool)) => appW xs13 ([(GFlat.mk (GBox.mk xs189) t192)]) (fun _ => subW t16 1 (fun t201 => nx17 (t187, (xs13 ++ ([(GFlat.mk (GBox.mk xs189) t192)])), t201)))) (fun k193 => jnW (fun ((t91, t92) : (Int × Bool)) => ifW t92 (subW (xs13.length : Int) 1 (fun t97 => idxW xs13 t97 (fun e98 => appW ([]) e98.xWhere.xSides (fun _ => L_spec_l20Rd_pick r_0_b t91 4 (fun (r111, r112) => L_spec_FieldTop r111 (fun r113 => L_spec_l20Set r_0_b r112 r113 0 (fun (r114, r117) => idxW (([]) ++ e98.xWhere.xSides) r111 (fun e118 => subW (xs13.length : Int) 1 (fun t124 => idxW xs13 t124 (fun e125 => k193 (r117, (List.set (([]) ++ e98.xWhere.xSides) (r111).toNat r114), e125.xAccept))))))))))) (k193 (t91, r18.xSides, (decide (r22 = 0))))) (fun k93 => ifW (decide (0 < (xs13.length : Int))) (L_spec_l20Rd_pick r_0_b r23 3 (fun (r29, r30) => k93 (r30, (decide (r29 = 0))))) (k93 (r23, false))))))) (jnW (fun ((t288, xs290) : (Int × (List GFlat))) => κ (xs290, t288)) (fun k293 => L_spec_l20Rd_odd r_0_b t11 n_1 (fun (r202, r203) => ifW r202 (L_spec_l20Rd_pick r_0_b r203 2 (fun (r204, r205) => ifW (decide (r204 = 0)) (appW xs13 ([(GFlat.mk (GBox.mk ([])) false)]) (fun _ => k293 (r205, (xs13 ++ ([(GFlat.mk (GBox.mk ([])) false)]))))) (loopW (fun (nx215 : (List GFlat) → Prop) (xs212 : (List GFlat)) => ifW (decide ((xs212.length : Int) ≤ 60)) (L_spec_BoxAll (fun r216 => appW xs212 ([(GFlat.mk r216 false)]) (fun _ => nx215 (xs212 ++ ([(GFlat.mk r216 false)]))))) (k293 (r205, xs212))) xs13))) (k293 (r203, xs13)))))) (r10, [], r9))

def L_impl_FieldTop (n_0 : Int) (κ : Int → Prop) : Prop :=
  jnW (fun (t61 : Bool) => ifW t61 (κ (-1)) (idxW gl_impl_fieldShapes n_0 (fun e63 => κ e63.xTop))) (fun k62 => ifW (decide (n_0 < 0)) (k62 true) (k62 (decide (4 ≤ n_0))))

def L_impl_topValid (top_0 : Int) (κ : Bool → Prop) : Prop :=
  jnW (fun (t61 : Bool) => κ t61) (fun k62 => ifW (decide (0 ≤ top_0)) (k62 (decide (top_0 ≤ 65535))) (k62 false))

def L_impl_SpansValid (list_0 : (List GSpan)) (top_1 : Int) (κ : Bool → Prop) : Prop :=
  jnW (fun (t64 : Bool) => ifW t64 (κ false) (loopW (fun (nx68 : (Int × Int) → Prop) ((t66, t67) : (Int × Int)) => ifW (decide (t67 < (list_0.length : Int))) (idxW list_0 t67 (fun e69 => jnW (fun (t134 : Bool) => ifW t134 (κ false) (addW t67 1 (fun t136 => nx68 (e69.xHi, t136)))) (fun k135 => addW t66 1 (fun t73 => ifW (decide (e69.xLo ≤ t73)) (k135 true) (ifW (decide (e69.xHi < e69.xLo)) (k135 true) (k135 (decide (top_1 < e69.xHi)))))))) (κ true)) ((-2), 0))) (fun k65 => L_impl_topValid top_1 (fun r3 => ifW (!r3) (k65 true) (k65 (decide (40 < (list_0.length : Int))))))

def L_impl_BoxValid (b_0 : GBox) (κ : Bool → Prop) : Prop :=
  ifW (!(decide ((b_0.xSides.length : Int) = 4))) (κ false) (loopW (fun (nx9 : Int → Prop) (t8 : Int) => ifW (decide (t8 < (b_0.xSides.length : Int))) (idxW b_0.xSides t8 (fun e10 => L_impl_FieldTop t8 (fun r16 => L_impl_SpansValid e10 r16 (fun r17 => ifW (!r17) (κ false) (addW t8 1 (fun t18 => nx9 t18)))))) (κ true)) 0)

def L_impl_FlatsValid (list_0 : (List GFlat)) (κ : Bool → Prop) : Prop :=
  ifW (decide (60 < (list_0.length : Int))) (κ false) (loopW (fun (nx4 : Int → Prop) (t3 : Int) => ifW (decide (t3 < (list_0.length : Int))) (idxW list_0 t3 (fun e5 => L_impl_BoxValid e5.xWhere (fun r16 => ifW (!r16) (κ false) (addW t3 1 (fun t17 => nx4 t17))))) (κ true)) 0)

def L_impl_Packet_fields (p_0 : GPacket) (κ : A4Int → Prop) : Prop :=
  κ (A4Int.mk p_0.xFrom p_0.xTo p_0.xPort p_0.xProto)

def L_impl_PacketValid (p_0 : GPacket) (κ : Bool → Prop) : Prop :=
  L_impl_Packet_fields p_0 (fun r3 => loopW (fun (nx5 : Int → Prop) (t4 : Int) => ifW (decide (t4 < 4)) (idxW ([r3.x0, r3.x1, r3.x2, r3.x3]) t4 (fun e6 => jnW (fun (t68 : Bool) => ifW t68 (κ false) (addW t4 1 (fun t70 => nx5 t70))) (fun k69 => ifW (decide (e6 < 0)) (k69 true) (L_impl_FieldTop t4 (fun r7 => k69 (decide (r7 < e6))))))) (κ true)) 0)

def L_impl_sidesOf (b_0 : GBox) (κ : A4ListGSpan → Prop) : Prop :=
  pre4 b_0.xSides (fun e10 e11 e12 e13 => κ (A4ListGSpan.mk e10 e11 e12 e13))

def L_impl_flatsOf (list_0 : (List GFlat)) (κ : (List GIflat) → Prop) : Prop :=
  makeW ((GIflat.mk (A4ListGSpan.mk ([]) ([]) ([]) ([])) false) : GIflat) 0 (list_0.length : Int) (fun xs5 => loopW (fun (nx12 : ((List GIflat) × Int) → Prop) ((xs8, t11) : ((List GIflat) × Int)) => ifW (decide (t11 < (list_0.length : Int))) (idxW list_0 t11 (fun e13 => L_impl_sidesOf e13.xWhere (fun r24 => appW xs8 ([(GIflat.mk r24 e13.xAccept)]) (fun _ => addW t11 1 (fun t49 => nx12 ((xs8 ++ ([(GIflat.mk r24 e13.xAccept)])), t49)))))) (κ xs8)) (xs5, 0))

def L_impl_SpansHave (list_0 : (List GSpan)) (n_1 : Int) (κ : Bool → Prop) : Prop :=
  loopW (fun (nx4 : Int → Prop) (t3 : Int) => ifW (decide (t3 < (list_0.length : Int))) (idxW list_0 t3 (fun e5 => jnW (fun (t69 : Bool) => ifW t69 (κ true) (addW t3 1 (fun t71 => nx4 t71))) (fun k70 => ifW (decide (e5.xLo ≤ n_1)) (k70 (decide (n_1 ≤ e5.xHi))) (k70 false)))) (κ false)) 0

def L_impl_sides_has (s_0 : A4ListGSpan) (p_1 : GPacket) (κ : Bool → Prop) : Prop :=
  L_impl_Packet_fields p_1 (fun r25 => loopW (fun (nx27 : Int → Prop) (t26 : Int) => ifW (decide (t26 < 4)) (idxW ([r25.x0, r25.x1, r25.x2, r25.x3]) t26 (fun e28 => idxW ([s_0.x0, s_0.x1, s_0.x2, s_0.x3]) t26 (fun e29 => L_impl_SpansHave e29 e28 (fun r37 => ifW (!r37) (κ false) (addW t26 1 (fun t38 => nx27 t38)))))) (κ true)) 0)

def L_impl_firstWith_1 (f_0 : GIflat) (a_1_From : Int) (a_1_To : Int) (a_1_Port : Int) (a_1_Proto : Int) (κ : Bool → Prop) : Prop :=
  L_impl_sides_has f_0.xWhere (GPacket.mk a_1_From a_1_To a_1_Port a_1_Proto) (fun r25 => κ r25)

def L_slices_IndexFunc_impl_flat_impl_flat__impl_firstWith_1 (s_0 : (List GIflat)) (c0_1_From : Int) (c0_1_To : Int) (c0_1_Port : Int) (c0_1_Proto : Int) (κ : Int → Prop) : Prop :=
  loopW (fun (nx6 : Int → Prop) (t5 : Int) => ifW (decide (t5 < (s_0.length : Int))) (idxW s_0 t5 (fun e7 => L_impl_firstWith_1 e7 c0_1_From c0_1_To c0_1_Port c0_1_Proto (fun r22 => ifW r22 (κ t5) (addW t5 1 (fun t23 => nx6 t23))))) (κ (-1))) 0

def L_impl_firstWith (list_0 : (List GIflat)) (p_1 : GPacket) (κ : Int → Prop) : Prop :=
  L_slices_IndexFunc_impl_flat_impl_flat__impl_firstWith_1 list_0 p_1.xFrom p_1.xTo p_1.xPort p_1.xProto (fun r5 => κ r5)

def L_spec_SpansValid (list_0 : (List GSpan)) (top_1 : Int) (κ : Bool → Prop) : Prop :=
  loopW (fun (nx4 : Int → Prop) (t3 : Int) => ifW (decide (t3 < (list_0.length : Int))) (jnW (fun (t79 : Bool) => ifW t79 (κ false) (addW t3 1 (fun t81 => nx4 t81))) (fun k80 => idxW list_0 t3 (fun e5 => idxW list_0 t3 (fun e7 => L_spec_l1In e5.xLo 0 e7.xHi (fun r9 => ifW (!r9) (k80 true) (idxW list_0 t3 (fun e10 => L_spec_l1In e10.xHi 0 top_1 (fun r12 => ifW (!r12) (k80 true) (ifW (decide (0 < t3)) (idxW list_0 t3 (fun e13 => subW t3 1 (fun t15 => idxW list_0 t15 (fun e16 => addW e16.xHi 2 (fun t18 => k80 (decide (e13.xLo < t18))))))) (k80 false)))))))))) (jnW (fun (t143 : Bool) => κ t143) (fun k144 => L_spec_l1In top_1 0 65535 (fun r82 => ifW r82 (k144 (decide ((list_0.length : Int) ≤ 40))) (k144 false))))) 0

def L_spec_BoxValid (b_0 : GBox) (κ : Bool → Prop) : Prop :=
  loopW (fun (nx9 : Int → Prop) (t8 : Int) => ifW (decide (t8 < (b_0.xSides.length : Int))) (jnW (fun (t78 : Bool) => ifW t78 (κ false) (addW t8 1 (fun t80 => nx9 t80))) (fun k79 => ifW (decide (4 ≤ t8)) (k79 true) (idxW b_0.xSides t8 (fun e10 => L_spec_FieldTop t8 (fun r16 => L_spec_SpansValid e10 r16 (fun r17 => k79 (!r17))))))) (κ (decide ((b_0.xSides.length : Int) = 4)))) 0

def L_spec_FlatsValid (list_0 : (List GFlat)) (κ : Bool → Prop) : Prop :=
  loopW (fun (nx4 : Int → Prop) (t3 : Int) => ifW (decide (t3 < (list_0.length : Int))) (idxW list_0 t3 (fun e5 => L_spec_BoxValid e5.xWhere (fun r11 => ifW (!r11) (κ false) (addW t3 1 (fun t12 => nx4 t12))))) (κ (decide ((list_0.length : Int) ≤ 60)))) 0

def L_laws_alive (κ : Bool → Prop) : Prop :=
  L_impl_SpansHave ([(GSpan.mk 2 4)]) 3 (fun r3 => κ r3)

def L_spec_l1OwnRowsSpan (list_0 : (List (List GSpan))) (κ : (List (List GSpan)) → Prop) : Prop :=
  loopW (fun (nx13 : ((List (List GSpan)) × Int) → Prop) ((xs8, t12) : ((List (List GSpan)) × Int)) => ifW (decide (t12 < (list_0.length : Int))) (idxW list_0 t12 (fun e16 => appW ([]) e16 (fun _ => appW xs8 ([(([]) ++ e16)]) (fun _ => addW t12 1 (fun t33 => nx13 ((xs8 ++ ([(([]) ++ e16)])), t33)))))) (κ xs8)) ([], 0)

def L_spec_l1OwnBox (x_0 : GBox) (κ : GBox → Prop) : Prop :=
  L_spec_l1OwnRowsSpan x_0.xSides (fun r12 => κ (GBox.mk r12))

def L_spec_l1OwnFlat (x_0 : GFlat) (κ : GFlat → Prop) : Prop :=
  L_spec_l1OwnBox x_0.xWhere (fun r12 => κ (GFlat.mk r12 x_0.xAccept))

def L_spec_l1OwnFlatList (list_0 : (List GFlat)) (κ : (List GFlat) → Prop) : Prop :=
  loopW (fun (nx13 : ((List GFlat) × Int) → Prop) ((xs8, t12) : ((List GFlat) × Int)) => ifW (decide (t12 < (list_0.length : Int))) (idxW list_0 t12 (fun e14 => L_spec_l1OwnFlat e14 (fun r20 => appW xs8 ([r20]) (fun _ => addW t12 1 (fun t33 => nx13 ((xs8 ++ ([r20])), t33)))))) (κ xs8)) ([], 0)

def L_spec_l10Empty (b_0 : GBox) (κ : Bool → Prop) : Prop :=
  loopW (fun (nx9 : Int → Prop) (t8 : Int) => ifW (decide (t8 < (b_0.xSides.length : Int))) (idxW b_0.xSides t8 (fun e10 => ifW (decide ((e10.length : Int) = 0)) (κ true) (addW t8 1 (fun t16 => nx9 t16)))) (κ false)) 0

def L_spec_BoxTests (b_0 : GBox) (κ : ((List GTest) × Bool) → Prop) : Prop :=
  jnW (fun (t73 : Bool) => ifW t73 (κ ([], false)) (loopW (fun (nx80 : ((List GTest) × Int) → Prop) ((xs76, t79) : ((List GTest) × Int)) => ifW (decide (t79 < 4)) (jnW (fun (xs298 : (List GTest)) => addW t79 1 (fun t302 => nx80 (xs298, t302))) (fun k301 => idxW b_0.xSides t79 (fun e81 => L_spec_FieldTop t79 (fun r87 => jnW (fun (t150 : Bool) => ifW t150 (k301 xs76) (ifW (decide ((e81.length : Int) = 1)) (idxW e81 0 (fun e152 => idxW e81 0 (fun e154 => appW xs76 ([(GTest.mk t79 e152.xLo e154.xHi false)]) (fun _ => k301 (xs76 ++ ([(GTest.mk t79 e152.xLo e154.xHi false)])))))) (jnW (fun (t224 : Bool) => ifW t224 (idxW e81 0 (fun e226 => addW e226.xHi 1 (fun t228 => idxW e81 1 (fun e229 => subW e229.xLo 1 (fun t231 => appW xs76 ([(GTest.mk t79 t228 t231 true)]) (fun _ => k301 (xs76 ++ ([(GTest.mk t79 t228 t231 true)])))))))) (κ ([], false))) (fun k225 => ifW (decide ((e81.length : Int) = 2)) (idxW e81 0 (fun e160 => ifW (decide (e160.xLo = 0)) (idxW e81 1 (fun e162 => k225 (decide (e162.xHi = r87)))) (k225 false))) (k225 false))))) (fun k151 => ifW (decide ((e81.length : Int) = 1)) (idxW e81 0 (fun e88 => k151 (decide (e88 = (GSpan.mk 0 r87))))) (k151 false)))))) (κ (xs76, true))) ([], 0))) (fun k74 => L_spec_BoxValid b_0 (fun r11 => ifW (!r11) (k74 true) (L_spec_l10Empty b_0 (fun r12 => k74 r12))))

def L_spec_FlatRuleset (list_0 : (List GFlat)) (rest_1 : Bool) (κ : (GRuleset × Bool) → Prop) : Prop :=
  L_spec_l1OwnFlatList list_0 (fun r5 => jnW (fun (t70 : Bool) => ifW t70 (κ ((GRuleset.mk ([]) false), false)) (loopW (fun (nx82 : ((List GRule) × Int) → Prop) ((xs77, t81) : ((List GRule) × Int)) => ifW (decide (t81 < (r5.length : Int))) (idxW r5 t81 (fun e83 => L_spec_BoxTests e83.xWhere (fun (r91, r94) => ifW (!r94) (κ ((GRuleset.mk ([]) false), false)) (jnW (fun (t163 : Int) => appW xs77 ([(GRule.mk r91 t163 0)]) (fun _ => addW t81 1 (fun t171 => nx82 ((xs77 ++ ([(GRule.mk r91 t163 0)])), t171)))) (fun k164 => idxW r5 t81 (fun e101 => ifW e101.xAccept (k164 1) (k164 2))))))) (κ ((GRuleset.mk ([xs77]) rest_1), true))) ([], 0))) (fun k71 => L_spec_FlatsValid r5 (fun r9 => ifW (!r9) (k71 true) (k71 (decide (8 < (r5.length : Int)))))))

def L_impl_sides_empty (s_0 : A4ListGSpan) (κ : Bool → Prop) : Prop :=
  loopW (fun (nx39 : Int → Prop) (t38 : Int) => ifW (decide (t38 < 4)) (idxW ([s_0.x0, s_0.x1, s_0.x2, s_0.x3]) t38 (fun e41 => ifW (decide ((e41.length : Int) = 0)) (κ true) (addW t38 1 (fun t44 => nx39 t44)))) (κ false)) 0

def L_impl_BoxTests (b_0 : GBox) (κ : ((List GTest) × Bool) → Prop) : Prop :=
  jnW (fun (t80 : Bool) => ifW t80 (κ ([], false)) (loopW (fun (nx89 : ((List GTest) × Int) → Prop) ((xs85, t88) : ((List GTest) × Int)) => ifW (decide (t88 < (b_0.xSides.length : Int))) (jnW (fun (xs307 : (List GTest)) => addW t88 1 (fun t311 => nx89 (xs307, t311))) (fun k310 => idxW b_0.xSides t88 (fun e90 => idxW gl_impl_fieldShapes t88 (fun e96 => jnW (fun (t160 : Bool) => ifW t160 (k310 xs85) (ifW (decide ((e90.length : Int) = 1)) (idxW e90 0 (fun e162 => idxW e90 0 (fun e164 => appW xs85 ([(GTest.mk t88 e162.xLo e164.xHi false)]) (fun _ => k310 (xs85 ++ ([(GTest.mk t88 e162.xLo e164.xHi false)])))))) (jnW (fun (t234 : Bool) => ifW t234 (idxW e90 0 (fun e236 => addW e236.xHi 1 (fun t238 => idxW e90 1 (fun e239 => subW e239.xLo 1 (fun t241 => appW xs85 ([(GTest.mk t88 t238 t241 true)]) (fun _ => k310 (xs85 ++ ([(GTest.mk t88 t238 t241 true)])))))))) (κ ([], false))) (fun k235 => ifW (decide ((e90.length : Int) = 2)) (idxW e90 0 (fun e170 => ifW (decide (e170.xLo = 0)) (idxW e90 1 (fun e172 => k235 (decide (e172.xHi = e96.xTop)))) (k235 false))) (k235 false))))) (fun k161 => ifW (decide ((e90.length : Int) = 1)) (idxW e90 0 (fun e98 => k161 (decide (e98 = (GSpan.mk 0 e96.xTop))))) (k161 false)))))) (κ (xs85, true))) ([], 0))) (fun k81 => L_impl_BoxValid b_0 (fun r9 => ifW (!r9) (k81 true) (L_impl_sidesOf b_0 (fun r10 => L_impl_sides_empty r10 (fun r19 => k81 r19)))))

def L_impl_FlatRuleset (list_0 : (List GFlat)) (rest_1 : Bool) (κ : (GRuleset × Bool) → Prop) : Prop :=
  jnW (fun (t66 : Bool) => ifW t66 (κ ((GRuleset.mk ([]) false), false)) (makeW ((GRule.mk ([]) 0 0) : GRule) 0 (list_0.length : Int) (fun xs70 => loopW (fun (nx79 : ((List GRule) × Int) → Prop) ((xs74, t78) : ((List GRule) × Int)) => ifW (decide (t78 < (list_0.length : Int))) (idxW list_0 t78 (fun e80 => L_impl_BoxTests e80.xWhere (fun (r91, r94) => jnW (fun (t155 : Bool) => ifW t155 (κ ((GRuleset.mk ([]) false), false)) (jnW (fun (t218 : Int) => appW xs74 ([(GRule.mk r91 t218 0)]) (fun _ => addW t78 1 (fun t229 => nx79 ((xs74 ++ ([(GRule.mk r91 t218 0)])), t229)))) (fun k219 => ifW e80.xAccept (k219 1) (k219 2)))) (fun k156 => ifW (!r94) (k156 true) (k156 (decide (6 < (r91.length : Int)))))))) (κ ((GRuleset.mk ([xs74]) rest_1), true))) (xs70, 0)))) (fun k67 => ifW (decide (8 < (list_0.length : Int))) (k67 true) (L_impl_FlatsValid list_0 (fun r5 => k67 (!r5))))

def L_impl_wheres (list_0 : (List GIflat)) (κ : (List A4ListGSpan) → Prop) : Prop :=
  makeW ((A4ListGSpan.mk ([]) ([]) ([]) ([])) : A4ListGSpan) 0 (list_0.length : Int) (fun xs5 => loopW (fun (nx12 : ((List A4ListGSpan) × Int) → Prop) ((xs8, t11) : ((List A4ListGSpan) × Int)) => ifW (decide (t11 < (list_0.length : Int))) (idxW list_0 t11 (fun e13 => appW xs8 ([e13.xWhere]) (fun _ => addW t11 1 (fun t46 => nx12 ((xs8 ++ ([e13.xWhere])), t46))))) (κ xs8)) (xs5, 0))

def L_spec_DrawTrimTail (code_0 : (List UInt8)) (κ : ((List GFlat) × Bool) → Prop) : Prop :=
  L_spec_l20Open code_0 (fun (r6, r9) => L_spec_l20Flats r6 r9 12 (fun (r10, r13) => L_spec_l20Rd_pick r6 r13 2 (fun (r14, r15) => κ (r10, (decide (r14 = 0))))))

def L_spec_DrawFlatRuleset (code_0 : (List UInt8)) (κ : ((List GFlat) × Bool) → Prop) : Prop :=
  L_spec_DrawTrimTail code_0 (fun (r4, r7) => κ (r4, r7))

def L_laws_sameRule (a_0 : GRule) (b_1 : GRule) (κ : Bool → Prop) : Prop :=
  ifW (!(decide ((a_0.xTests.length : Int) = (b_1.xTests.length : Int)))) (κ false) (loopW (fun (nx16 : Int → Prop) (t15 : Int) => ifW (decide (t15 < (a_0.xTests.length : Int))) (idxW a_0.xTests t15 (fun e17 => idxW b_1.xTests t15 (fun e19 => ifW (!(decide (e17 = e19))) (κ false) (addW t15 1 (fun t21 => nx16 t21))))) (jnW (fun (t82 : Bool) => κ t82) (fun k83 => ifW (decide (a_0.xAction = b_1.xAction)) (k83 (decide (a_0.xChain = b_1.xChain))) (k83 false)))) 0)

def L_laws_sameRuleset (a_0 : GRuleset) (b_1 : GRuleset) (κ : Bool → Prop) : Prop :=
  ifW (!(decide ((a_0.xChains.length : Int) = (b_1.xChains.length : Int)))) (κ false) (loopW (fun (nx16 : Int → Prop) (t15 : Int) => ifW (decide (t15 < (a_0.xChains.length : Int))) (idxW a_0.xChains t15 (fun e17 => idxW b_1.xChains t15 (fun e23 => ifW (!(decide ((e17.length : Int) = (e23.length : Int)))) (κ false) (loopW (fun (nx30 : Int → Prop) (t29 : Int) => idxW a_0.xChains t15 (fun e31 => ifW (decide (t29 < (e31.length : Int))) (idxW a_0.xChains t15 (fun e37 => idxW e37 t29 (fun e43 => idxW b_1.xChains t15 (fun e49 => idxW e49 t29 (fun e55 => L_laws_sameRule e43 e55 (fun r61 => ifW (!r61) (κ false) (addW t29 1 (fun t62 => nx30 t62)))))))) (addW t15 1 (fun t63 => nx16 t63)))) 0)))) (κ (decide (a_0.xAccept = b_1.xAccept)))) 0)

def L_laws_probe (list_0 : (List GBox)) (seed_1 : Int) (κ : GPacket → Prop) : Prop :=
  remW seed_1 65536 (fun t5 => quoW seed_1 3 (fun t6 => remW t6 65536 (fun t7 => remW seed_1 256 (fun t8 => remW seed_1 8 (fun t9 => loopW (fun (nx17 : ((List Int) × Int) → Prop) ((xs14, t16) : ((List Int) × Int)) => ifW (decide (t16 < (list_0.length : Int))) (loopW (fun (nx21 : ((List Int) × Int) → Prop) ((xs18, t20) : ((List Int) × Int)) => jnW (fun (t88 : Bool) => ifW t88 (jnW (fun (xs241 : (List Int)) => addW t20 1 (fun t244 => nx21 (xs241, t244))) (fun k243 => idxW list_0 t16 (fun e90 => idxW e90.xSides t20 (fun e96 => jnW (fun (t165 : Bool) => ifW t165 (k243 xs18) (addW seed_1 t20 (fun t167 => remW t167 (e96.length : Int) (fun t168 => idxW e96 t168 (fun e169 => idxW xs18 t20 (fun e173 => addW seed_1 t16 (fun t176 => remW t176 2 (fun t177 => ifW (decide (t177 = 0)) (idxW (xs18.set (t20).toNat e169.xLo) t20 (fun e178 => k243 ((xs18.set (t20).toNat e169.xLo).set (t20).toNat e169.xHi))) (k243 (xs18.set (t20).toNat e169.xLo)))))))))) (fun k166 => ifW (decide ((e96.length : Int) = 0)) (k166 true) (addW seed_1 t16 (fun t102 => addW t102 t20 (fun t103 => remW t103 3 (fun t104 => k166 (decide (t104 = 0))))))))))) (addW t16 1 (fun t245 => nx17 (xs18, t245)))) (fun k89 => ifW (decide (t20 < 4)) (idxW list_0 t16 (fun e22 => k89 (decide (t20 < (e22.xSides.length : Int))))) (k89 false))) (xs14, 0)) (idxW xs14 0 (fun e246 => idxW xs14 1 (fun e248 => idxW xs14 2 (fun e250 => idxW xs14 3 (fun e252 => κ (GPacket.mk e246 e248 e250 e252))))))) ([t5, t7, t8, t9], 0))))))

def L_impl_sides_box (s_0 : A4ListGSpan) (κ : GBox → Prop) : Prop :=
  makeW ([] : (List GSpan)) 4 4 (fun xs26 => loopW (fun (nx55 : ((List (List GSpan)) × Int) → Prop) ((xs50, t54) : ((List (List GSpan)) × Int)) => ifW (decide (t54 < 4)) (idxW ([s_0.x0, s_0.x1, s_0.x2, s_0.x3]) t54 (fun e57 => appW ([]) e57 (fun _ => idxW xs50 t54 (fun e66 => addW t54 1 (fun t73 => nx55 ((xs50.set (t54).toNat (([]) ++ e57)), t73)))))) (κ (GBox.mk xs50))) (xs26, 0))

def L_impl_boxesOf (list_0 : (List A4ListGSpan)) (κ : (List GBox) → Prop) : Prop :=
  makeW ((GBox.mk ([])) : GBox) 0 (list_0.length : Int) (fun xs5 => loopW (fun (nx14 : ((List GBox) × Int) → Prop) ((xs9, t13) : ((List GBox) × Int)) => ifW (decide (t13 < (list_0.length : Int))) (idxW list_0 t13 (fun e15 => L_impl_sides_box e15 (fun r60 => appW xs9 ([r60]) (fun _ => addW t13 1 (fun t73 => nx14 ((xs9 ++ ([r60])), t73)))))) (κ xs9)) (xs5, 0))

def L_impl_FlatBoxes (list_0 : (List GFlat)) (κ : (List GBox) → Prop) : Prop :=
  L_impl_FlatsValid list_0 (fun r4 => ifW (!r4) (κ ([])) (L_impl_flatsOf list_0 (fun r6 => L_impl_wheres r6 (fun r9 => L_impl_boxesOf r9 (fun r12 => κ r12)))))

def L_impl_TestValid (t_0 : GTest) (κ : Bool → Prop) : Prop :=
  jnW (fun (t64 : Bool) => κ t64) (fun k65 => ifW (decide (0 ≤ t_0.xField)) (ifW (decide (t_0.xField < 4)) (ifW (decide (0 ≤ t_0.xLo)) (ifW (decide (t_0.xLo ≤ t_0.xHi)) (L_impl_FieldTop t_0.xField (fun r3 => k65 (decide (t_0.xHi ≤ r3)))) (k65 false)) (k65 false)) (k65 false)) (k65 false))

def L_impl_TestsValid (list_0 : (List GTest)) (κ : Bool → Prop) : Prop :=
  ifW (decide (6 < (list_0.length : Int))) (κ false) (loopW (fun (nx4 : Int → Prop) (t3 : Int) => ifW (decide (t3 < (list_0.length : Int))) (idxW list_0 t3 (fun e5 => L_impl_TestValid e5 (fun r9 => ifW (!r9) (κ false) (addW t3 1 (fun t10 => nx4 t10))))) (κ true)) 0)

def L_impl_RuleValid (r_0 : GRule) (κ : Bool → Prop) : Prop :=
  L_impl_TestsValid r_0.xTests (fun r8 => ifW (!r8) (κ false) (ifW (decide (r_0.xAction = 3)) (jnW (fun (t69 : Bool) => κ t69) (fun k70 => ifW (decide (0 ≤ r_0.xChain)) (k70 (decide (r_0.xChain < 5))) (k70 false))) (jnW (fun (t131 : Bool) => ifW t131 (κ (decide (r_0.xChain = 0))) (κ false)) (fun k132 => ifW (decide (r_0.xAction = 1)) (k132 (decide (r_0.xAction = 1))) (ifW (decide (r_0.xAction = 2)) (k132 (decide (r_0.xAction = 2))) (ifW (decide (r_0.xAction = 4)) (k132 (decide (r_0.xAction = 4))) (k132 (decide (r_0.xAction = 5)))))))))

def L_impl_RulesValid (list_0 : (List GRule)) (κ : Bool → Prop) : Prop :=
  ifW (decide (8 < (list_0.length : Int))) (κ false) (loopW (fun (nx4 : Int → Prop) (t3 : Int) => ifW (decide (t3 < (list_0.length : Int))) (idxW list_0 t3 (fun e5 => L_impl_RuleValid e5 (fun r16 => ifW (!r16) (κ false) (addW t3 1 (fun t17 => nx4 t17))))) (κ true)) 0)

def L_impl_callsIn (rules_0 : (List GRule)) (κ : (List Int) → Prop) : Prop :=
  loopW (fun (nx9 : ((List Bool) × Int) → Prop) ((xs6, t8) : ((List Bool) × Int)) => ifW (decide (t8 < (rules_0.length : Int))) (jnW (fun (xs84 : (List Bool)) => addW t8 1 (fun t87 => nx9 (xs84, t87))) (fun k86 => idxW rules_0 t8 (fun e10 => ifW (decide (e10.xAction = 3)) (idxW xs6 e10.xChain (fun e21 => k86 (xs6.set (e10.xChain).toNat true))) (k86 xs6)))) (unl5 xs6 (fun e89 e90 e91 e92 e93 => loopW (fun (nx100 : ((List Int) × Int) → Prop) ((xs96, t99) : ((List Int) × Int)) => ifW (decide (t99 < 5)) (jnW (fun (xs166 : (List Int)) => addW t99 1 (fun t170 => nx100 (xs166, t170))) (fun k169 => idxW ([e89, e90, e91, e92, e93]) t99 (fun e101 => ifW e101 (appW xs96 ([t99]) (fun _ => k169 (xs96 ++ ([t99])))) (k169 xs96)))) (κ xs96)) ([], 0)))) ([false, false, false, false, false], 0)

def B_impl_visitCalls (rec : ((List (List GRule)) → Int → (List Int) → ((Bool × (List Int)) → Prop) → Prop)) (chains_0 : (List (List GRule))) (chain_1 : Int) (colours_2 : (List Int)) (κ : (Bool × (List Int)) → Prop) : Prop :=
  ifW (decide ((chains_0.length : Int) ≤ chain_1)) (κ (true, colours_2)) (idxW colours_2 chain_1 (fun e5 => ifW (decide (e5 = 1)) (κ (false, colours_2)) (ifW (decide (e5 = 2)) (κ (true, colours_2)) (idxW colours_2 chain_1 (fun e7 => idxW chains_0 chain_1 (fun e10 => L_impl_callsIn e10 (fun r16 => loopW (fun (nx23 : ((List Int) × Bool × Int) → Prop) ((xs19, t21, t22) : ((List Int) × Bool × Int)) => ifW (decide (t22 < (r16.length : Int))) (jnW (fun ((xs89, t91) : ((List Int) × Bool)) => addW t22 1 (fun t93 => nx23 (xs89, t91, t93))) (fun k92 => idxW r16 t22 (fun e24 => rec chains_0 e24 xs19 (fun (r26, r27) => ifW (!r26) (k92 (r27, false)) (k92 (r27, t21)))))) (idxW xs19 chain_1 (fun e94 => κ (t21, (xs19.set (chain_1).toNat 2))))) ((colours_2.set (chain_1).toNat 1), true, 0))))))))
def R_impl_visitCalls : Nat → (List (List GRule)) → Int → (List Int) → ((Bool × (List Int)) → Prop) → Prop
  | 0 => fun _ _ _ _ => False
  | n + 1 => B_impl_visitCalls (R_impl_visitCalls n)
def L_impl_visitCalls (chains_0 : (List (List GRule))) (chain_1 : Int) (colours_2 : (List Int)) (κ : (Bool × (List Int)) → Prop) : Prop := ∃ n, R_impl_visitCalls n chains_0 chain_1 colours_2 κ

def L_impl_acyclic (chains_0 : (List (List GRule))) (κ : Bool → Prop) : Prop :=
  loopW (fun (nx8 : ((List Int) × Int) → Prop) ((xs5, t7) : ((List Int) × Int)) => ifW (decide (t7 < (chains_0.length : Int))) (L_impl_visitCalls chains_0 t7 xs5 (fun (r9, r10) => ifW (!r9) (κ false) (addW t7 1 (fun t12 => nx8 (r10, t12))))) (κ true)) ([0, 0, 0, 0, 0], 0)

def L_impl_RulesetValid (s_0 : GRuleset) (κ : Bool → Prop) : Prop :=
  jnW (fun (t68 : Bool) => ifW t68 (κ false) (loopW (fun (nx71 : Int → Prop) (t70 : Int) => ifW (decide (t70 < (s_0.xChains.length : Int))) (idxW s_0.xChains t70 (fun e72 => L_impl_RulesValid e72 (fun r78 => ifW (!r78) (κ false) (addW t70 1 (fun t79 => nx71 t79))))) (loopW (fun (nx81 : Int → Prop) (t80 : Int) => ifW (decide (t80 < (s_0.xChains.length : Int))) (idxW s_0.xChains t80 (fun e82 => L_impl_callsIn e82 (fun r88 => loopW (fun (nx92 : Int → Prop) (t91 : Int) => ifW (decide (t91 < (r88.length : Int))) (idxW r88 t91 (fun e93 => ifW (decide ((s_0.xChains.length : Int) ≤ e93)) (κ false) (addW t91 1 (fun t95 => nx92 t95)))) (addW t80 1 (fun t96 => nx81 t96))) 0))) (L_impl_acyclic s_0.xChains (fun r97 => κ r97))) 0)) 0)) (fun k69 => ifW (decide ((s_0.xChains.length : Int) < 1)) (k69 true) (k69 (decide (5 < (s_0.xChains.length : Int)))))

def L_impl_walk_leave (w_0_stack : (List GPlace)) (w_0_visits : (List GVisit)) (w_0_decision : Int) (κ : (List GPlace) → Prop) : Prop :=
  jnW (fun (xs7 : (List GPlace)) => κ xs7) (fun k10 => sliceW w_0_stack 0 (w64 ((w_0_stack.length : Int) - 1)) (fun xs12 => k10 xs12))

def L_impl_Test_holds (t_0 : GTest) (p_1 : GPacket) (κ : Bool → Prop) : Prop :=
  L_impl_Packet_fields p_1 (fun r5 => idxW ([r5.x0, r5.x1, r5.x2, r5.x3]) t_0.xField (fun e6 => jnW (fun (t67 : Bool) => κ (!(decide (t67 = t_0.xNot)))) (fun k68 => ifW (decide (t_0.xLo ≤ e6)) (k68 (decide (e6 ≤ t_0.xHi))) (k68 false))))

def L_impl_allHold (list_0 : (List GTest)) (p_1 : GPacket) (κ : Bool → Prop) : Prop :=
  loopW (fun (nx6 : Int → Prop) (t5 : Int) => ifW (decide (t5 < (list_0.length : Int))) (idxW list_0 t5 (fun e7 => L_impl_Test_holds e7 p_1 (fun r11 => ifW (!r11) (κ false) (addW t5 1 (fun t12 => nx6 t12))))) (κ true)) 0

def L_impl_actionOf (r_0 : GRule) (κ : IAction → Prop) : Prop :=
  ifW (decide (r_0.xAction = 1)) (κ (IAction.kDeciding (GDeciding.mk true))) (ifW (decide (r_0.xAction = 2)) (κ (IAction.kDeciding (GDeciding.mk false))) (ifW (decide (r_0.xAction = 3)) (κ (IAction.kCalling (GCalling.mk r_0.xChain))) (ifW (decide (r_0.xAction = 4)) (κ (IAction.kReturning (GReturning.mk ))) (κ (IAction.kPassing (GPassing.mk ))))))

def L_impl_deciding_walk (d_0 : GDeciding) (w_1_stack : (List GPlace)) (w_1_visits : (List GVisit)) (w_1_decision : Int) (κ : Int → Prop) : Prop :=
  ifW d_0.xAccept (κ 1) (κ 2)

def L_impl_calling_walk (c_0 : GCalling) (w_1_stack : (List GPlace)) (w_1_visits : (List GVisit)) (w_1_decision : Int) (κ : (List GPlace) → Prop) : Prop :=
  jnW (fun (xs9 : (List GPlace)) => κ xs9) (fun k12 => appW w_1_stack ([(GPlace.mk c_0.xChain 0)]) (fun _ => k12 (w_1_stack ++ ([(GPlace.mk c_0.xChain 0)]))))

def L_impl_returning_walk (a_0 : GReturning) (w_1_stack : (List GPlace)) (w_1_visits : (List GVisit)) (w_1_decision : Int) (κ : (List GPlace) → Prop) : Prop :=
  L_impl_walk_leave w_1_stack w_1_visits w_1_decision (fun r9 => κ r9)

def L_impl_passing_walk (a_0 : GPassing) (a_1_stack : (List GPlace)) (a_1_visits : (List GVisit)) (a_1_decision : Int) (κ : Unit → Prop) : Prop :=
  κ ()

def L_impl_walkThrough (s_0 : GRuleset) (p_1 : GPacket) (κ : ((List GPlace) × (List GVisit) × Int) → Prop) : Prop :=
  loopW (fun (nx26 : ((List GPlace) × (List GVisit) × Int) → Prop) ((xs18, xs22, t25) : ((List GPlace) × (List GVisit) × Int)) => jnW (fun (t87 : Bool) => ifW t87 (subW (xs18.length : Int) 1 (fun t95 => idxW xs18 t95 (fun e96 => idxW s_0.xChains e96.xChain (fun e98 => ifW (decide (e96.xNext = (e98.length : Int))) (L_impl_walk_leave xs18 xs22 t25 (fun r104 => nx26 (r104, xs22, t25))) (addW e96.xNext 1 (fun t107 => idxW e98 e96.xNext (fun e109 => L_impl_allHold e109.xTests p_1 (fun r115 => ifW (!r115) (nx26 ((xs18.set (t95).toNat (GPlace.mk e96.xChain t107)), xs22, t25)) (jnW (fun (xs187 : (List GVisit)) => idxW e98 e96.xNext (fun e191 => L_impl_actionOf e191 (fun r197 => IAction.casesW r197 (fun x198 => L_impl_deciding_walk x198 (xs18.set (t95).toNat (GPlace.mk e96.xChain t107)) xs187 t25 (fun r202 => nx26 ((xs18.set (t95).toNat (GPlace.mk e96.xChain t107)), xs187, r202))) (fun x199 => L_impl_calling_walk x199 (xs18.set (t95).toNat (GPlace.mk e96.xChain t107)) xs187 t25 (fun r203 => nx26 (r203, xs187, t25))) (fun x200 => L_impl_returning_walk (GReturning.mk ) (xs18.set (t95).toNat (GPlace.mk e96.xChain t107)) xs187 t25 (fun r206 => nx26 (r206, xs187, t25))) (fun x201 => L_impl_passing_walk (GPassing.mk ) (xs18.set (t95).toNat (GPlace.mk e96.xChain t107)) xs187 t25 (fun _ => nx26 ((xs18.set (t95).toNat (GPlace.mk e96.xChain t107)), xs187, t25)))))) (fun k190 => ifW (decide ((xs22.length : Int) < 200)) (jnW (fun (xs116 : (List GVisit)) => k190 xs116) (fun k119 => appW xs22 ([(GVisit.mk e96.xChain e96.xNext)]) (fun _ => k119 (xs22 ++ ([(GVisit.mk e96.xChain e96.xNext)]))))) (k190 xs22))))))))))) (κ (xs18, xs22, t25))) (fun k88 => ifW (decide (0 < (xs18.length : Int))) (k88 (decide (t25 = 5))) (k88 false))) ([(GPlace.mk 0 0)], [], 5)

def L_impl_judgeValid (s_0 : GRuleset) (p_1 : GPacket) (κ : Bool → Prop) : Prop :=
  L_impl_walkThrough s_0 p_1 (fun (r12, r15, r18) => ifW (decide (r18 = 1)) (κ true) (ifW (decide (r18 = 2)) (κ false) (κ s_0.xAccept)))

def L_impl_Judge (s_0 : GRuleset) (p_1 : GPacket) (κ : Bool → Prop) : Prop :=
  jnW (fun (t72 : Bool) => ifW t72 (κ false) (L_impl_judgeValid s_0 p_1 (fun r74 => κ r74))) (fun k73 => L_impl_RulesetValid s_0 (fun r10 => ifW (!r10) (k73 true) (L_impl_PacketValid p_1 (fun r11 => k73 (!r11)))))

def L_impl_JudgeFlat (list_0 : (List GFlat)) (rest_1 : Bool) (p_2 : GPacket) (κ : Bool → Prop) : Prop :=
  jnW (fun (t67 : Bool) => ifW t67 (κ false) (L_impl_flatsOf list_0 (fun r69 => L_impl_firstWith r69 p_2 (fun r72 => ifW (decide (0 ≤ r72)) (idxW list_0 r72 (fun e73 => κ e73.xAccept)) (κ rest_1))))) (fun k68 => L_impl_FlatsValid list_0 (fun r5 => ifW (!r5) (k68 true) (L_impl_PacketValid p_2 (fun r6 => k68 (!r6)))))

def L_laws_FnFlatRuleset (code_0 : (List UInt8)) (more_1 : (List UInt8)) (κ : Bool → Prop) : Prop :=
  jnW (fun (t65 : Bool) => ifW t65 (κ true) (L_spec_DrawFlatRuleset code_0 (fun (r67, r70) => L_impl_FlatRuleset r67 r70 (fun (r71, r75) => L_spec_FlatRuleset r67 r70 (fun (r81, r85) => jnW (fun (t152 : Bool) => ifW t152 (κ false) (ifW (!r75) (jnW (fun (t215 : Bool) => κ t215) (fun k216 => ifW (decide ((r71.xChains.length : Int) = 0)) (L_laws_alive (fun r154 => k216 r154)) (k216 false))) (L_impl_FlatBoxes r67 (fun r217 => L_laws_probe r217 (more_1.length : Int) (fun r221 => jnW (fun (t295 : Bool) => κ t295) (fun k296 => L_impl_RulesetValid r71 (fun r224 => ifW r224 (ifW (decide ((r71.xChains.length : Int) = 1)) (idxW r71.xChains 0 (fun e225 => ifW (decide ((e225.length : Int) = (r67.length : Int))) (L_impl_Judge r71 r221 (fun r233 => L_impl_JudgeFlat r67 r70 r221 (fun r234 => k296 (decide (r233 = r234))))) (k296 false))) (k296 false)) (k296 false)))))))) (fun k153 => L_laws_sameRuleset r71 r81 (fun r91 => ifW (!r91) (k153 true) (k153 (!(decide (r75 = r85))))))))))) (fun k66 => ifW (decide (1048576 < (code_0.length : Int))) (k66 true) (k66 (decide (1048576 < (more_1.length : Int)))))


end
section
open Go Go.Proofs

/-- the only form of a set -/
def NF (l : List GSpan) : Prop := (∀ s ∈ l, s.xLo ≤ s.xHi) ∧ l.Pairwise (fun a b => a.xHi + 1 < b.xLo)
/-- a number is in one of the ranges -/
def hv (l : List GSpan) (x : Int) : Prop := ∃ s ∈ l, s.xLo ≤ x ∧ x ≤ s.xHi
theorem NF_nil : NF [] := ⟨by simp, by simp⟩
theorem hv_nil (x : Int) : ¬ hv [] x := by simp [hv]
theorem hv_cons (s : GSpan) (l : List GSpan) (x : Int) : hv (s :: l) x ↔ (s.xLo ≤ x ∧ x ≤ s.xHi) ∨ hv l x := by simp [hv]
theorem hv_app (l m : List GSpan) (x : Int) : hv (l ++ m) x ↔ hv l x ∨ hv m x := by
  simp only [hv, List.mem_append]
  constructor
  · rintro ⟨s, h | h, e⟩
    · exact .inl ⟨s, h, e⟩
    · exact .inr ⟨s, h, e⟩
  · rintro (⟨s, h, e⟩ | ⟨s, h, e⟩)
    · exact ⟨s, .inl h, e⟩
    · exact ⟨s, .inr h, e⟩
theorem NF_tail {s : GSpan} {l : List GSpan} (h : NF (s :: l)) : NF l := ⟨fun t ht => h.1 t (List.mem_cons_of_mem _ ht), (List.pairwise_cons.1 h.2).2⟩
theorem NF_gap {s : GSpan} {l : List GSpan} (h : NF (s :: l)) {x : Int} (hx : hv l x) : s.xHi + 1 < x := by
  obtain ⟨t, ht, e1, _⟩ := hx
  have := (List.pairwise_cons.1 h.2).1 t ht
  omega
theorem NF_app {l m : List GSpan} (hl : NF l) (hm : NF m) (h : ∀ s ∈ l, ∀ t ∈ m, s.xHi + 1 < t.xLo) : NF (l ++ m) :=
  ⟨fun s hs => (List.mem_append.1 hs).elim (hl.1 s) (hm.1 s), List.pairwise_append.2 ⟨hl.2, hm.2, h⟩⟩
theorem NF_one {s : GSpan} (h : s.xLo ≤ s.xHi) : NF [s] := ⟨by simpa using h, by simp⟩
def addS : List GSpan → GSpan → List GSpan → Bool → List GSpan × GSpan × Bool
  | [], s, out, pl => (out, s, pl)
  | x :: xs, s, out, pl =>
    if x.xHi + 1 < s.xLo then addS xs s (out ++ [x]) pl
    else if s.xHi + 1 < x.xLo then addS xs s ((if pl then out else out ++ [s]) ++ [x]) true
    else addS xs (GSpan.mk (min s.xLo x.xLo) (max s.xHi x.xHi)) out pl
def add1 (l : List GSpan) (s : GSpan) : List GSpan :=
  match addS l s [] false with
  | (out, s', pl) => if pl then out else out ++ [s']
theorem add_go : ∀ (l : List GSpan) (s : GSpan) (out : List GSpan) (pl : Bool), NF l → s.xLo ≤ s.xHi → NF out →
    (pl = false → (∀ t ∈ out, t.xHi + 1 < s.xLo) ∧ (∀ t ∈ out, ∀ u ∈ l, t.xHi + 1 < u.xLo)) →
    (pl = true → (∀ t ∈ out, ∀ u ∈ l, t.xHi + 1 < u.xLo) ∧ (∀ u ∈ l, s.xHi + 1 < u.xLo) ∧ s ∈ out) →
    NF (match addS l s out pl with | (o, s', p) => if p then o else o ++ [s']) ∧ ∀ x, hv (match addS l s out pl with | (o, s', p) => if p then o else o ++ [s']) x ↔ hv out x ∨ hv l x ∨ (s.xLo ≤ x ∧ x ≤ s.xHi)
  | [], s, out, pl, hl, hs, ho, h0, h1 => by
    simp only [addS]
    cases pl with
    | true =>
      simp only [if_true]
      obtain ⟨_, _, hm⟩ := h1 rfl
      refine ⟨ho, fun x => ⟨.inl, ?_⟩⟩
      rintro (q | q | q)
      · exact q
      · exact absurd q (hv_nil x)
      · exact ⟨s, hm, q⟩
    | false =>
      simp only [Bool.false_eq_true, if_false]
      obtain ⟨ha, _⟩ := h0 rfl
      refine ⟨NF_app ho (NF_one hs) (fun t ht u hu => by simp at hu; subst hu; exact ha t ht), fun x => ?_⟩
      rw [hv_app, hv_cons]
      simp [hv_nil]
  | y :: l, s, out, pl, hl, hs, ho, h0, h1 => by
    have hy := hl.1 y (by simp)
    have hgap := (List.pairwise_cons.1 hl.2).1
    have hl' := NF_tail hl
    unfold addS
    by_cases c1 : y.xHi + 1 < s.xLo
    · rw [if_pos c1]
      have hpl : pl = false := by
        cases pl with
        | false => rfl
        | true => have := (h1 rfl).2.1 y (by simp); omega
      subst hpl
      obtain ⟨a1, a2⟩ := h0 rfl
      have ih := add_go l s (out ++ [y]) false hl' hs (NF_app ho (NF_one hy) (fun t ht u hu => by simp at hu; subst hu; exact a2 t ht u (by simp)))
        (fun _ => ⟨fun t ht => by
          rcases List.mem_append.1 ht with q | q
          · exact a1 t q
          · simp at q; subst q; exact c1, fun t ht u hu => by
          rcases List.mem_append.1 ht with q | q
          · exact a2 t q u (by simp [hu])
          · simp at q; subst q; exact hgap u hu⟩) (fun h => by simp at h)
      refine ⟨ih.1, fun x => ?_⟩
      rw [ih.2 x, hv_app, hv_cons, hv_cons]
      simp only [hv_nil, or_false]
      constructor
      · rintro ((q | q) | q | q)
        · exact .inl q
        · exact .inr (.inl (.inl q))
        · exact .inr (.inl (.inr q))
        · exact .inr (.inr q)
      · rintro (q | (q | q) | q)
        · exact .inl (.inl q)
        · exact .inl (.inr q)
        · exact .inr (.inl q)
        · exact .inr (.inr q)
    · rw [if_neg c1]
      by_cases c2 : s.xHi + 1 < y.xLo
      · rw [if_pos c2]
        cases pl with
        | true =>
          simp only [if_true]
          obtain ⟨a1, a2, a3⟩ := h1 rfl
          have ih := add_go l s (out ++ [y]) true hl' hs (NF_app ho (NF_one hy) (fun t ht u hu => by simp at hu; subst hu; exact a1 t ht u (by simp))) (fun h => by simp at h)
            (fun _ => ⟨fun t ht u hu => by
              rcases List.mem_append.1 ht with q | q
              · exact a1 t q u (by simp [hu])
              · simp at q; subst q; exact hgap u hu, fun u hu => a2 u (by simp [hu]), by simp [a3]⟩)
          refine ⟨ih.1, fun x => ?_⟩
          rw [ih.2 x, hv_app, hv_cons, hv_cons]
          simp only [hv_nil, or_false]
          constructor
          · rintro ((q | q) | q | q)
            · exact .inl q
            · exact .inr (.inl (.inl q))
            · exact .inr (.inl (.inr q))
            · exact .inr (.inr q)
          · rintro (q | (q | q) | q)
            · exact .inl (.inl q)
            · exact .inl (.inr q)
            · exact .inr (.inl q)
            · exact .inr (.inr q)
        | false =>
          simp only [Bool.false_eq_true, if_false]
          obtain ⟨a1, a2⟩ := h0 rfl
          have n1 : NF (out ++ [s]) := NF_app ho (NF_one hs) (fun t ht u hu => by simp at hu; subst hu; exact a1 t ht)
          have ih := add_go l s ((out ++ [s]) ++ [y]) true hl' hs (NF_app n1 (NF_one hy) (fun t ht u hu => by
              simp at hu; subst hu
              rcases List.mem_append.1 ht with q | q
              · exact a2 t q u (by simp)
              · simp at q; subst q; exact c2)) (fun h => by simp at h)
            (fun _ => ⟨fun t ht u hu => by
              have hg := hgap u hu
              rcases List.mem_append.1 ht with q | q
              · rcases List.mem_append.1 q with q | q
                · exact a2 t q u (by simp [hu])
                · simp at q; subst q; omega
              · simp at q; subst q; exact hg, fun u hu => by have := hgap u hu; omega, by simp⟩)
          refine ⟨ih.1, fun x => ?_⟩
          rw [ih.2 x, hv_app, hv_app, hv_cons, hv_cons, hv_cons]
          simp only [hv_nil, or_false]
          constructor
          · rintro (((q | q) | q) | q | q)
            · exact .inl q
            · exact .inr (.inr q)
            · exact .inr (.inl (.inl q))
            · exact .inr (.inl (.inr q))
            · exact .inr (.inr q)
          · rintro (q | (q | q) | q)
            · exact .inl (.inl (.inl q))
            · exact .inl (.inr q)
            · exact .inr (.inl q)
            · exact .inr (.inr q)
      · rw [if_neg c2]
        have hpl : pl = false := by
          cases pl with
          | false => rfl
          | true => have := (h1 rfl).2.1 y (by simp); omega
        subst hpl
        obtain ⟨a1, a2⟩ := h0 rfl
        have ih := add_go l (GSpan.mk (min s.xLo y.xLo) (max s.xHi y.xHi)) out false hl' (by simp only; omega) ho
          (fun _ => ⟨fun t ht => by
            have := a1 t ht; have := a2 t ht y (by simp)
            simp only; omega, fun t ht u hu => a2 t ht u (by simp [hu])⟩) (fun h => by simp at h)
        refine ⟨ih.1, fun x => ?_⟩
        rw [ih.2 x, hv_cons]
        simp only
        constructor
        · rintro (q | q | q)
          · exact .inl q
          · exact .inr (.inl (.inr q))
          · by_cases c3 : y.xLo ≤ x ∧ x ≤ y.xHi
            · exact .inr (.inl (.inl c3))
            · exact .inr (.inr (by omega))
        · rintro (q | (q | q) | q)
          · exact .inl q
          · exact .inr (.inr (by omega))
          · exact .inr (.inl q)
          · exact .inr (.inr (by omega))
/-- adding a range: the form stays, and the range comes to the set -/
theorem add_spec {l : List GSpan} {s : GSpan} (hl : NF l) (hs : s.xLo ≤ s.xHi) : NF (add1 l s) ∧ ∀ x, hv (add1 l s) x ↔ hv l x ∨ (s.xLo ≤ x ∧ x ≤ s.xHi) := by
  have := add_go l s [] false hl hs NF_nil (fun _ => ⟨by simp, by simp⟩) (fun h => by simp at h)
  refine ⟨this.1, fun x => ?_⟩
  have := this.2 x
  simp only [hv_nil, false_or] at this
  exact this
theorem addAll_spec : ∀ (xs l : List GSpan), NF l → (∀ s ∈ xs, s.xLo ≤ s.xHi) → NF (xs.foldl add1 l) ∧ ∀ x, hv (xs.foldl add1 l) x ↔ hv l x ∨ hv xs x
  | [], l, hl, _ => ⟨hl, fun x => by simp [hv_nil]⟩
  | s :: xs, l, hl, h => by
    obtain ⟨n1, e1⟩ := add_spec hl (h s (by simp))
    obtain ⟨n2, e2⟩ := addAll_spec xs (add1 l s) n1 (fun t ht => h t (List.mem_cons_of_mem _ ht))
    refine ⟨n2, fun x => ?_⟩
    rw [List.foldl_cons, e2 x, e1 x, hv_cons]
    constructor
    · rintro ((q | q) | q)
      · exact .inl q
      · exact .inr (.inl q)
      · exact .inr (.inr q)
    · rintro (q | q | q)
      · exact .inl (.inl q)
      · exact .inl (.inr q)
      · exact .inr q
end
section


theorem ifW_t {A B : Prop} (h : A) : ifW true A B := ⟨fun _ => h, (fun e => by cases e)⟩
theorem ifW_f {A B : Prop} (h : B) : ifW false A B := ⟨(fun e => by cases e), fun _ => h⟩
theorem ifW_of {c : Bool} {A B : Prop} (ht : c = true → A) (hf : c = false → B) : ifW c A B := ⟨ht, hf⟩
@[simp] theorem ifW_true {A B : Prop} : ifW true A B = A := propext ⟨fun h => h.1 rfl, ifW_t⟩
@[simp] theorem ifW_false {A B : Prop} : ifW false A B = B := propext ⟨fun h => h.2 rfl, ifW_f⟩
theorem addW_of {x y : Int} {κ : Int → Prop} (h1 : -9223372036854775808 ≤ x + y) (h2 : x + y ≤ 9223372036854775807) (h : κ (x + y)) : addW x y κ := ⟨⟨h1, h2⟩, h⟩
theorem subW_of {x y : Int} {κ : Int → Prop} (h1 : -9223372036854775808 ≤ x - y) (h2 : x - y ≤ 9223372036854775807) (h : κ (x - y)) : subW x y κ := ⟨⟨h1, h2⟩, h⟩
theorem mulW_of {x y : Int} {κ : Int → Prop} (h1 : -9223372036854775808 ≤ x * y) (h2 : x * y ≤ 9223372036854775807) (h : κ (x * y)) : mulW x y κ := ⟨⟨h1, h2⟩, h⟩
theorem quoW_of {x y : Int} {κ : Int → Prop} (h1 : 0 ≤ x) (h2 : x ≤ 9223372036854775807) (h3 : 0 < y) (h : κ (x / y)) : quoW x y κ := ⟨h3, ⟨by omega, h2⟩, by rw [Int.tdiv_eq_ediv_of_nonneg h1]; exact h⟩
theorem remW_of {x y : Int} {κ : Int → Prop} (h1 : 0 ≤ x) (h2 : x ≤ 9223372036854775807) (h3 : 0 < y) (h : κ (x % y)) : remW x y κ := ⟨h1, h3, ⟨by omega, h2⟩, h⟩
theorem idxW_of {α : Type} {xs : List α} {i : Int} {κ : α → Prop} (n : Nat) (hi : i = n) (hn : n < xs.length) (h : κ xs[n]) : idxW xs i κ := by
  subst hi
  exact ⟨xs[n], by omega, by simp [hn], h⟩
theorem appW_of {α : Type} {xs ys : List α} {κ : List α → Prop} (h1 : xs.length + ys.length ≤ 4294967296) (h : κ (xs ++ ys)) : appW xs ys κ := ⟨h1, h⟩
theorem makeW_of {α : Type} {z : α} {n m : Int} {κ : List α → Prop} (k : Nat) (hn : n = k) (h1 : n ≤ m) (h2 : m ≤ 4294967296) (h : κ (List.replicate k z)) : makeW z n m κ := by
  subst hn
  refine ⟨by omega, h1, ?_, by simpa using h⟩
  unfold lenOk
  omega

/-- a loop that counts a place up to a length, with a state: after each round the state's law holds of the next place -/
theorem count_loop {σ : Type} {F : (σ → Prop) → σ → Prop} (len : Nat) (pos : σ → Int) (I : Nat → σ → Prop) (hpos : ∀ k s, I k s → pos s = k) (hle : ∀ k s, I k s → k ≤ len)
    (h : ∀ k s next, I k s → (k < len → ∀ s', I (k + 1) s' → next s') → F next s) {s : σ} (h0 : I 0 s) : loopW F s := by
  refine loopW_inv (fun s => ∃ k, I k s) (fun s => len - (pos s).toNat) (fun s next ⟨k, hk⟩ hn => ?_) ⟨0, h0⟩
  refine h k s next hk (fun hlt s' hs' => hn s' ⟨k + 1, hs'⟩ ?_)
  rw [hpos _ _ hk, hpos _ _ hs']
  omega

/-- the marks that are laid into a list from k on -/
def marks {α : Type} (f : Int → α) (k : Int) (n : Nat) : List α := (List.range n).map fun (i : Nat) => f (k + (i : Int))
theorem idxW_set {α : Type} {xs : List α} {t : Nat} {a : α} {κ : α → Prop} (h : t < xs.length) (hk : κ a) : idxW (xs.set ((t : Int)).toNat a) (t : Int) κ := ⟨a, by omega, by simp [h], hk⟩
end
section
open Go Go.Proofs

instance (l : List GSpan) (x : Int) : Decidable (hv l x) := by unfold hv; infer_instance
/-- a set of numbers in 0..top, in its form; as many ranges as you like -/
def St (l : List GSpan) (top : Int) : Prop := NF l ∧ ∀ s ∈ l, 0 ≤ s.xLo ∧ s.xHi ≤ top
theorem St_len_go : ∀ (l : List GSpan) (top lo : Int), NF l → (∀ s ∈ l, lo ≤ s.xLo ∧ s.xHi ≤ top) → lo ≤ top + 2 → 2 * (l.length : Int) ≤ top + 2 - lo
  | [], top, lo, _, _, h => by simp; omega
  | s :: l, top, lo, hn, hr, h => by
    have h0 := hr s (by simp)
    have h1 := hn.1 s (by simp)
    have := St_len_go l top (s.xHi + 2) (NF_tail hn) (fun t ht => ⟨by have := (List.pairwise_cons.1 hn.2).1 t ht; omega, (hr t (List.mem_cons_of_mem _ ht)).2⟩) (by omega)
    simp only [List.length_cons]
    omega
theorem St_len {l : List GSpan} {top : Int} (h : St l top) (ht : -2 ≤ top) : 2 * (l.length : Int) ≤ top + 2 := by
  have := St_len_go l top 0 h.1 h.2 (by omega)
  omega

-- the common numbers
def cap1 (x y : GSpan) : List GSpan := if max x.xLo y.xLo ≤ min x.xHi y.xHi then [GSpan.mk (max x.xLo y.xLo) (min x.xHi y.xHi)] else []
def meetF (a b : List GSpan) : List GSpan := a.flatMap fun x => b.flatMap (cap1 x)
theorem cap1_mem {x y t : GSpan} : t ∈ cap1 x y ↔ max x.xLo y.xLo ≤ min x.xHi y.xHi ∧ t = GSpan.mk (max x.xLo y.xLo) (min x.xHi y.xHi) := by
  unfold cap1; split <;> simp [*]
theorem meetF_mem {a b : List GSpan} {t : GSpan} : t ∈ meetF a b ↔ ∃ x ∈ a, ∃ y ∈ b, max x.xLo y.xLo ≤ min x.xHi y.xHi ∧ t = GSpan.mk (max x.xLo y.xLo) (min x.xHi y.xHi) := by
  simp only [meetF, List.mem_flatMap, cap1_mem]
theorem cap_NF {x : GSpan} : ∀ {b : List GSpan}, NF b → NF (b.flatMap (cap1 x))
  | [], _ => by simp [NF]
  | y :: b, h => by
    rw [List.flatMap_cons]
    have hy := (List.pairwise_cons.1 h.2).1
    refine NF_app ⟨fun t ht => ?_, ?_⟩ (cap_NF (NF_tail h)) (fun t ht u hu => ?_)
    · obtain ⟨h1, rfl⟩ := cap1_mem.1 ht; exact h1
    · unfold cap1; split <;> simp
    · obtain ⟨h1, rfl⟩ := cap1_mem.1 ht
      obtain ⟨z, hz, hu⟩ := List.mem_flatMap.1 hu
      obtain ⟨h2, rfl⟩ := cap1_mem.1 hu
      have := hy z hz
      simp only; omega
theorem meetF_NF : ∀ {a b : List GSpan}, NF a → NF b → NF (meetF a b)
  | [], b, _, _ => by simp [meetF, NF]
  | x :: a, b, ha, hb => by
    have e : meetF (x :: a) b = b.flatMap (cap1 x) ++ meetF a b := by simp [meetF]
    rw [e]
    refine NF_app (cap_NF hb) (meetF_NF (NF_tail ha) hb) (fun t ht u hu => ?_)
    obtain ⟨y, hy, ht⟩ := List.mem_flatMap.1 ht
    obtain ⟨h1, rfl⟩ := cap1_mem.1 ht
    obtain ⟨z, hz, y', hy', h2, rfl⟩ := meetF_mem.1 hu
    have := (List.pairwise_cons.1 ha.2).1 z hz
    simp only; omega
theorem meetF_St {a b : List GSpan} {top : Int} (ha : St a top) (hb : NF b) : St (meetF a b) top := by
  refine ⟨meetF_NF ha.1 hb, fun t ht => ?_⟩
  obtain ⟨x, hx, y, hy, _, rfl⟩ := meetF_mem.1 ht
  have := ha.2 x hx
  have := hb.1 y hy
  simp only; omega

-- what is not in a set
def otherGo : List GSpan → Int → Int → List GSpan
  | [], at_, top => if at_ ≤ top then [GSpan.mk at_ top] else []
  | s :: l, at_, top => (if at_ < s.xLo then [GSpan.mk at_ (s.xLo - 1)] else []) ++ otherGo l (s.xHi + 1) top
def otherF (a : List GSpan) (top : Int) : List GSpan := otherGo a 0 top
theorem other_go : ∀ (a : List GSpan) (c top : Int), NF a → (∀ s ∈ a, c ≤ s.xLo ∧ s.xHi ≤ top) →
    NF (otherGo a c top) ∧ (∀ s ∈ otherGo a c top, c ≤ s.xLo ∧ s.xHi ≤ top) ∧ ∀ x, hv (otherGo a c top) x ↔ c ≤ x ∧ x ≤ top ∧ ¬ hv a x
  | [], c, top, _, _ => by
    unfold otherGo
    split
    · refine ⟨NF_one (by simpa using ‹_›), by simp, fun x => ?_⟩
      rw [hv_cons]; simp [hv_nil]
    · refine ⟨NF_nil, by simp, fun x => ?_⟩
      simp only [hv_nil, false_iff]
      omega
  | s :: l, c, top, hn, hr => by
    have h0 := hr s (by simp)
    have h1 := hn.1 s (by simp)
    have hg := (List.pairwise_cons.1 hn.2).1
    obtain ⟨i1, i2, i3⟩ := other_go l (s.xHi + 1) top (NF_tail hn) (fun t ht => ⟨by have := hg t ht; omega, (hr t (List.mem_cons_of_mem _ ht)).2⟩)
    unfold otherGo
    have hx0 : ∀ x, x ≤ s.xHi + 1 → ¬ hv l x := fun x hx hh => by have := NF_gap hn hh; omega
    split
    · refine ⟨NF_app (NF_one (by simp only; omega)) i1 (fun t ht u hu => by simp at ht; subst ht; have := i2 u hu; simp only; omega), fun t ht => ?_, fun x => ?_⟩
      · rcases List.mem_append.1 ht with q | q
        · simp at q; subst q; simp only; omega
        · have := i2 t q; omega
      · rw [hv_app, hv_cons, i3, hv_cons]
        simp only [hv_nil, or_false]
        constructor
        · rintro (q | ⟨q1, q2, q3⟩)
          · exact ⟨by omega, by omega, fun h => by
              rcases h with h | h
              · omega
              · exact hx0 x (by omega) h⟩
          · exact ⟨by omega, q2, fun h => by
              rcases h with h | h
              · omega
              · exact q3 h⟩
        · rintro ⟨q1, q2, q3⟩
          by_cases h : x < s.xLo
          · exact .inl (by omega)
          · exact .inr ⟨by
              rcases Int.lt_or_le s.xHi x with g | g
              · omega
              · exact absurd (Or.inl ⟨by omega, g⟩) q3, q2, fun h => q3 (.inr h)⟩
    · refine ⟨by simpa using i1, fun t ht => ?_, fun x => ?_⟩
      · have := i2 t (by simpa using ht); omega
      · rw [List.nil_append, i3, hv_cons]
        constructor
        · rintro ⟨q1, q2, q3⟩
          exact ⟨by omega, q2, fun h => by
              rcases h with h | h
              · omega
              · exact q3 h⟩
        · rintro ⟨q1, q2, q3⟩
          exact ⟨by
              rcases Int.lt_or_le s.xHi x with g | g
              · omega
              · exact absurd (Or.inl ⟨by omega, g⟩) q3, q2, fun h => q3 (.inr h)⟩
theorem otherF_St {a : List GSpan} {top : Int} (h : St a top) : St (otherF a top) top := by
  obtain ⟨h1, h2, _⟩ := other_go a 0 top h.1 h.2
  exact ⟨h1, h2⟩
theorem NF_ends {l : List GSpan} {s : GSpan} (h : NF l) (hs : s ∈ l) : hv l s.xLo ∧ hv l s.xHi := ⟨⟨s, hs, Int.le_refl _, h.1 s hs⟩, ⟨s, hs, h.1 s hs, Int.le_refl _⟩⟩
end
section
open Go Go.Proofs

theorem cap_len {x : GSpan} : ∀ (b : List GSpan), (b.flatMap (cap1 x)).length ≤ b.length
  | [] => by simp
  | y :: b => by
    have := cap_len (x := x) b
    have h1 : (cap1 x y).length ≤ 1 := by unfold cap1; split <;> simp
    simp only [List.flatMap_cons, List.length_append, List.length_cons]
    omega
theorem S_l2Meet {a b : List GSpan} {ta tb : Int} (ha : St a ta) (hb : St b tb) (h0 : 0 ≤ ta) (ht : ta ≤ 65535) (h1 : 0 ≤ tb) (hu : tb ≤ 65535) {κ : List GSpan → Prop} (h : κ (meetF a b)) : L_spec_l2Meet a b κ := by
  have la := St_len ha (by omega)
  have lb := St_len hb (by omega)
  -- what is built so far is short
  have short : ∀ k, 2 * ((meetF (a.take k) b).length : Int) ≤ ta + 2 := fun k =>
    St_len (meetF_St ⟨⟨fun s hs => ha.1.1 s (List.mem_of_mem_take hs), ha.1.2.take⟩, fun s hs => ha.2 s (List.mem_of_mem_take hs)⟩ hb.1) (by omega)
  unfold L_spec_l2Meet
  refine count_loop a.length (fun s => s.2) (fun k s => s.2 = (k : Int) ∧ k ≤ a.length ∧ s.1 = meetF (a.take k) b) (fun k s h => h.1) (fun k s h => h.2.1) ?_ ⟨rfl, Nat.zero_le _, by simp [meetF]⟩
  rintro k ⟨xs, t⟩ next ⟨rfl, hk, hx⟩ hn
  simp only at hx
  subst hx
  refine ifW_of (fun hc => ?_) (fun hc => ?_)
  · have hlt : k < a.length := by simpa using hc
    have hmem : a[k] ∈ a := List.getElem_mem hlt
    have r1 := ha.2 _ hmem
    refine count_loop b.length (fun s => s.2) (fun j s => s.2 = (j : Int) ∧ j ≤ b.length ∧ s.1 = meetF (a.take k) b ++ (b.take j).flatMap (cap1 a[k])) (fun k s h => h.1) (fun k s h => h.2.1) ?_ ⟨rfl, Nat.zero_le _, by simp⟩
    rintro j ⟨ys, u⟩ next2 ⟨rfl, hj, hy⟩ hn2
    simp only at hy
    subst hy
    refine ifW_of (fun hd => ?_) (fun hd => ?_)
    · have hlt2 : j < b.length := by simpa using hd
      have hstep : (b.take (j + 1)).flatMap (cap1 a[k]) = (b.take j).flatMap (cap1 a[k]) ++ cap1 a[k] b[j] := by
        rw [List.take_succ_eq_append_getElem hlt2, List.flatMap_append]; simp
      have hlen := cap_len (x := a[k]) (b.take j)
      have := short k
      simp only [List.length_take] at hlen
      unfold jnW
      refine idxW_of k rfl hlt (idxW_of j rfl hlt2 (idxW_of k rfl hlt (idxW_of j rfl hlt2 (ifW_of (fun he => ?_) (fun he => ?_)))))
      · refine appW_of (by simp only [List.length_append, List.length_singleton]; omega) (addW_of (by omega) (by omega) (hn2 hlt2 _ ⟨by simp, by omega, ?_⟩))
        rw [hstep]
        unfold cap1 at *
        rw [if_pos (by simpa using he)]
        simp
      · refine addW_of (by omega) (by omega) (hn2 hlt2 _ ⟨by simp, by omega, ?_⟩)
        rw [hstep]
        have : cap1 a[k] b[j] = [] := by unfold cap1; rw [if_neg (by simpa using he)]
        rw [this]; simp
    · have hge : b.length ≤ j := by simpa using hd
      have e : j = b.length := by omega
      subst e
      refine addW_of (by omega) (by omega) (hn hlt _ ⟨by simp, by omega, ?_⟩)
      have e2 : meetF (a.take k ++ [a[k]]) b = meetF (a.take k) b ++ b.flatMap (cap1 a[k]) := by simp only [meetF, List.flatMap_append, List.flatMap_cons, List.flatMap_nil, List.append_nil]
      show meetF (a.take k) b ++ (b.take b.length).flatMap (cap1 a[k]) = _
      rw [List.take_succ_eq_append_getElem hlt, e2, List.take_length]
  · have hge : a.length ≤ k := by simpa using hc
    rw [List.take_of_length_le hge]; exact h
theorem S_l2Other {a : List GSpan} {top : Int} (ha : St a top) (h0 : 0 ≤ top) (ht : top ≤ 65535) {κ : List GSpan → Prop} (h : κ (otherF a top)) : L_spec_l2Other a top κ := by
  have la := St_len ha (by omega)
  have lo := St_len (otherF_St ha) (by omega)
  unfold L_spec_l2Other
  refine count_loop a.length (fun s => s.2.2) (fun k s => s.2.2 = (k : Int) ∧ k ≤ a.length ∧ s.1 ++ otherGo (a.drop k) s.2.1 top = otherF a top ∧ 0 ≤ s.2.1 ∧ s.2.1 ≤ 65536) (fun k s h => h.1) (fun k s h => h.2.1) ?_ ⟨rfl, Nat.zero_le _, by simp [otherF], by simp, by simp⟩
  rintro k ⟨xs, c, t⟩ next ⟨rfl, hk, hx, hc0, hc1⟩ hn
  simp only at hx hc0 hc1
  have hlen : xs.length ≤ (otherF a top).length := by rw [← hx]; simp
  refine ifW_of (fun hc => ?_) (fun hc => ?_)
  · have hlt : k < a.length := by simpa using hc
    have hmem : a[k] ∈ a := List.getElem_mem hlt
    have r1 := ha.2 _ hmem
    have r2 := ha.1.1 _ hmem
    rw [List.drop_eq_getElem_cons hlt] at hx
    simp only [otherGo] at hx
    unfold jnW
    refine idxW_of k rfl hlt (ifW_of (fun he => ?_) (fun he => ?_))
    · rw [if_pos (by simpa using he)] at hx
      refine idxW_of k rfl hlt (subW_of (by omega) (by omega) (appW_of (by simp only [List.length_singleton]; omega) (idxW_of k rfl hlt (addW_of (by omega) (by omega) (addW_of (by omega) (by omega) (hn hlt _ ⟨by simp, by omega, ?_, by simp only; omega, by simp only; omega⟩))))))
      simpa [List.append_assoc] using hx
    · rw [if_neg (by simpa using he)] at hx
      refine idxW_of k rfl hlt (addW_of (by omega) (by omega) (addW_of (by omega) (by omega) (hn hlt _ ⟨by simp, by omega, ?_, by simp only; omega, by simp only; omega⟩)))
      simpa using hx
  · have hge : a.length ≤ k := by simpa using hc
    rw [List.drop_eq_nil_of_le hge] at hx
    simp only [otherGo] at hx
    unfold jnW
    refine ifW_of (fun he => ?_) (fun he => ?_)
    · rw [if_pos (by simpa using he)] at hx
      refine appW_of (by simp only [List.length_singleton]; omega) ?_
      rw [hx]; exact h
    · rw [if_neg (by simpa using he), List.append_nil] at hx
      rw [hx]; exact h
/-- numbers far from the ends of the range -/
def Sm (s : GSpan) : Prop := -1000000000 ≤ s.xLo ∧ s.xLo ≤ 1000000000 ∧ -1000000000 ≤ s.xHi ∧ s.xHi ≤ 1000000000
theorem S_l1Add {l : List GSpan} {s : GSpan} (hl : l.length ≤ 1000000000) (hb : ∀ x ∈ l, Sm x) (hs : Sm s) {κ : List GSpan → Prop} (h : κ (add1 l s)) : L_spec_l1Add l s κ := by
  unfold L_spec_l1Add
  refine count_loop l.length (fun s => s.2.2.2.2) (fun k (st : Int × Int × List GSpan × Bool × Int) => st.2.2.2.2 = (k : Int) ∧ k ≤ l.length ∧ addS l s [] false = addS (l.drop k) (GSpan.mk st.1 st.2.1) st.2.2.1 st.2.2.2.1 ∧ st.2.2.1.length ≤ 2 * k ∧ Sm (GSpan.mk st.1 st.2.1)) (fun k s h => h.1) (fun k s h => h.2.1) ?_ ⟨rfl, Nat.zero_le _, by simp, by simp, hs⟩
  rintro k ⟨lo, hi, xs, pl, t⟩ next ⟨rfl, hk, hx, hlen, hsm⟩ hn
  simp only at hx hlen hsm
  obtain ⟨m1, m2, m3, m4⟩ := hsm
  simp only at m1 m2 m3 m4
  refine ifW_of (fun hc => ?_) (fun hc => ?_)
  · have hlt : k < l.length := by simpa using hc
    obtain ⟨n1, n2, n3, n4⟩ := hb _ (List.getElem_mem hlt)
    rw [List.drop_eq_getElem_cons hlt] at hx
    simp only [addS] at hx
    unfold jnW
    refine idxW_of k rfl hlt (addW_of (by omega) (by omega) (ifW_of (fun he => ?_) (fun he => ?_)))
    · rw [if_pos (by simpa using he)] at hx
      exact appW_of (by simp only [List.length_singleton]; omega) (addW_of (by omega) (by omega) (hn hlt _ ⟨by simp, by omega, hx, by simp only [List.length_append, List.length_singleton]; omega, m1, m2, m3, m4⟩))
    · rw [if_neg (by simpa using he)] at hx
      refine addW_of (by omega) (by omega) (ifW_of (fun hf => ?_) (fun hf => ?_))
      · rw [if_pos (by simpa using hf)] at hx
        cases pl with
        | false =>
          refine ifW_t (appW_of (by simp only [List.length_singleton]; omega) (appW_of (by simp only [List.length_append, List.length_singleton]; omega) (addW_of (by omega) (by omega) (hn hlt _ ⟨by simp, by omega, hx, by simp only [List.length_append, List.length_singleton]; omega, m1, m2, m3, m4⟩))))
        | true =>
          refine ifW_f (appW_of (by simp only [List.length_singleton]; omega) (addW_of (by omega) (by omega) (hn hlt _ ⟨by simp, by omega, hx, by simp only [List.length_append, List.length_singleton]; omega, m1, m2, m3, m4⟩)))
      · rw [if_neg (by simpa using hf)] at hx
        exact addW_of (by omega) (by omega) (hn hlt _ ⟨by simp, by omega, hx, by simp only; omega, by simp only; omega, by simp only; omega, by simp only; omega, by simp only; omega⟩)
  · have hge : l.length ≤ k := by simpa using hc
    rw [List.drop_eq_nil_of_le hge] at hx
    simp only [addS] at hx
    unfold add1 at h
    rw [hx] at h
    unfold jnW
    cases pl with
    | false => exact ifW_t (appW_of (by simp only [List.length_singleton]; omega) (by simpa using h))
    | true => exact ifW_f (by simpa using h)


end
section
open Go.Lib (decDigits)

def B (l : List UInt8) : ByteArray := ByteArray.mk l.toArray
/-- a digit -/
def dg (c : UInt8) : Bool := decide (48 ≤ c.toNat) && decide (c.toNat ≤ 57)
def val (l : List UInt8) : Nat := l.foldl (fun n c => 10 * n + (c.toNat - 48)) 0
/-- the number at the head of a text: at most six digits -/
def run : Nat → List UInt8 → List UInt8
  | 0, _ => []
  | _, [] => []
  | k + 1, c :: l => if dg c then c :: run k l else []
end
section


theorem u8_lt (e : UInt8) : (0 : Int) ≤ (e.toNat : Int) ∧ (e.toNat : Int) ≤ 255 := by
  have := e.toNat_lt
  omega
theorem xorW_of {x y : Int} {κ : Int → Prop} (h1 : 0 ≤ x) (h2 : x < 4611686018427387904) (h3 : 0 ≤ y) (h4 : y < 4611686018427387904) (h : ∀ z, 0 ≤ z → z < 4611686018427387904 → κ z) : xorW x y κ := by
  refine ⟨h1, h2, h3, h4, h _ (by omega) ?_⟩
  have : x.toNat ^^^ y.toNat < 2 ^ 62 := Nat.xor_lt_two_pow (by omega) (by omega)
  have e : (2 : Nat) ^ 62 = 4611686018427387904 := by decide
  rw [e] at this
  omega
theorem remW_lt {x y : Int} {κ : Int → Prop} (h1 : 0 ≤ x) (h2 : x ≤ 9223372036854775807) (h3 : 0 < y) (h : ∀ z, 0 ≤ z → z < y → κ z) : remW x y κ :=
  remW_of h1 h2 h3 (h _ (Int.emod_nonneg _ (by omega)) (Int.emod_lt_of_pos _ h3))
theorem quoW_le {x y : Int} {κ : Int → Prop} (h1 : 0 ≤ x) (h2 : x ≤ 9223372036854775807) (h3 : 0 < y) (h : ∀ z, 0 ≤ z → z ≤ x → κ z) : quoW x y κ :=
  quoW_of h1 h2 h3 (h _ (Int.ediv_nonneg h1 (by omega)) (Int.ediv_le_self _ h1))
theorem idxW_any {α : Type} {xs : List α} {i : Int} {κ : α → Prop} (h1 : 0 ≤ i) (h2 : i < xs.length) (h : ∀ x, x ∈ xs → κ x) : idxW xs i κ := by
  obtain ⟨n, rfl⟩ := Int.eq_ofNat_of_zero_le h1
  have hn : n < xs.length := by omega
  exact idxW_of n rfl hn (h _ (List.getElem_mem hn))

/-- the reader stands at p of the bytes b -/
def RdP (b : List UInt8) (p : Int) : Prop := b.length ≤ 2000 ∧ 0 ≤ p ∧ p ≤ 1000000

theorem S_pick {b : List UInt8} {p n : Int} (hr : RdP b p) {κ : Int × Int → Prop} (h : ∀ v, 0 ≤ v → (v = 0 ∨ v < n) → κ (v, p + 1)) : L_spec_l20Rd_pick b p n κ := by
  obtain ⟨hb, h0, h1⟩ := hr
  unfold L_spec_l20Rd_pick jnW
  have hz : κ (0, p + 1) := h 0 (Int.le_refl _) (.inl rfl)
  refine addW_of (by omega) (by omega) (ifW_of (fun hc => ?_) (fun hc => ifW_of (fun hc2 => ?_) (fun hc2 => ?_)))
  · simp only [ifW_true]; exact hz
  · exact hz
  · simp at hc hc2
    have hpos : 0 < (b.length : Int) := by
      cases b with
      | nil => simp at hc2
      | cons x l => simp
    refine subW_of (by omega) (by omega) ?_
    have ep : p + 1 - 1 = p := by omega
    rw [ep]
    refine ifW_of (fun hc3 => ?_) (fun hc3 => ?_)
    · simp at hc3
      refine idxW_any h0 hc3 (fun e _ => ?_)
      have := u8_lt e
      exact remW_lt (by omega) (by omega) (by omega) (fun z z1 z2 => h z z1 (.inr z2))
    · refine remW_lt h0 (by omega) hpos (fun z z1 z2 => idxW_any z1 z2 (fun e _ => ?_))
      have he := u8_lt e
      refine mulW_of (by omega) (by omega) (mulW_of (by omega) (by omega) (addW_of (by omega) (by omega) (remW_lt (by omega) (by omega) hpos (fun y y1 y2 => idxW_any y1 y2 (fun d _ => ?_)))))
      have hd := u8_lt d
      refine mulW_of (by omega) (by omega) (addW_of (by omega) (by omega) (mulW_of (by omega) (by omega) (addW_of (by omega) (by omega) (quoW_le (by omega) (by omega) hpos (fun q q1 q2 => ?_)))))
      refine mulW_of (by omega) (by omega) (addW_of (by omega) (by omega) (quoW_le (by omega) (by omega) (by omega) (fun r r1 r2 => ?_)))
      exact xorW_of (by omega) (by omega) (by omega) (by omega) (fun x x1 x2 => remW_lt x1 (by omega) (by omega) (fun z z1 z2 => h z z1 (.inr z2)))
theorem S_odd {b : List UInt8} {p n : Int} (hr : RdP b p) (hn : n ≤ 4294967296) {κ : Bool × Int → Prop} (h : ∀ c p', p ≤ p' → p' ≤ p + 1 → κ (c, p')) : L_spec_l20Rd_odd b p n κ := by
  unfold L_spec_l20Rd_odd jnW
  refine ifW_of (fun hc => S_pick hr (fun v v1 v2 => subW_of (by simp at hc; omega) (by simp at hc; omega) (h _ _ (by omega) (by omega)))) (fun hc => h _ _ (by omega) (by omega))

theorem S_l20Open {c : List UInt8} {κ : List UInt8 × Int → Prop} (h : ∀ b, b.length ≤ 2000 → κ (b, 0)) : L_spec_l20Open c κ := by
  unfold L_spec_l20Open jnW
  refine ifW_of (fun hc => ?_) (fun hc => ?_)
  · simp at hc
    refine ⟨by omega, by omega, by omega, h _ (by simp; omega)⟩
  · simp at hc
    exact h _ (by omega)
theorem S_alive {κ : Bool → Prop} (h : κ true) : L_laws_alive κ := by
  unfold L_laws_alive L_impl_SpansHave
  refine loopW_inv (fun s => s = 0) (fun s => 0) ?_ rfl
  rintro s next rfl hn
  refine ifW_of (fun _ => idxW_of 0 rfl (by simp) ?_) (fun hc => by simp at hc)
  simp [jnW]
  exact h


end
section
open Go.Lib (decDigits)

/-- a text before and behind the first of a sign -/
def cut (c : UInt8) : List UInt8 → List UInt8 × List UInt8
  | [] => ([], [])
  | d :: l => if d = c then ([], l) else (d :: (cut c l).1, (cut c l).2)
end
section
open Go.Lib (decDigits)

theorem S_l1In {n lo hi : Int} {κ : Bool → Prop} (h : κ (decide (lo ≤ n ∧ n ≤ hi))) : L_spec_l1In n lo hi κ := by
  unfold L_spec_l1In jnW
  refine ifW_of (fun hc => ?_) (fun hc => ?_)
  · simp at hc; simpa [hc] using h
  · simp at hc
    have : decide (lo ≤ n ∧ n ≤ hi) = false := by simp; omega
    rw [this] at h; exact h
/-! ### the reader of the program -/
end
section
open Go.Lib (decDigits)

theorem w64_small {x : Int} (h1 : -100 ≤ x) (h2 : x ≤ 100) : w64 x = x := by
  simp [w64, IntKind.wrap, IntKind.signed, IntKind.bits]; omega
theorem mem3 {α : Type} {x a b c : α} (h : x ∈ [a, b, c]) : x = a ∨ x = b ∨ x = c := by simpa using h
theorem RdP.step {b : List UInt8} {p p' : Int} {m : Int} (h : RdP b p) (h1 : p ≤ p') (h2 : p' ≤ 1000000) : RdP b p' := ⟨h.1, by have := h.2.1; omega, h2⟩


end
section
open Go.Lib (decDigits)

def top (f : Int) : Int := if f = 0 ∨ f = 1 then 65535 else if f = 2 then 255 else 7
theorem top_le (f : Int) : 7 ≤ top f ∧ top f ≤ 65535 := by unfold top; repeat' split
                                                           all_goals omega
def nm (f : Int) : List UInt8 := if f = 0 then [102, 114, 111, 109] else if f = 1 then [116, 111] else if f = 2 then [112, 111, 114, 116] else [112, 114, 111, 116, 111]
def TV (t : GTest) : Prop := 0 ≤ t.xField ∧ t.xField ≤ 3 ∧ 0 ≤ t.xLo ∧ t.xLo ≤ t.xHi ∧ t.xHi ≤ top t.xField
instance (t : GTest) : Decidable (TV t) := by unfold TV; infer_instance
/-- the part behind the name -/
def rtx (t : GTest) : List UInt8 := decDigits t.xLo.toNat ++ (if t.xHi = t.xLo then [] else 45 :: decDigits t.xHi.toNat)
def btx (t : GTest) : List UInt8 := nm t.xField ++ 32 :: rtx t
def ttx (t : GTest) : List UInt8 := if t.xNot then 110 :: 111 :: 116 :: 32 :: btx t else btx t
theorem four {f : Int} (h0 : 0 ≤ f) (h1 : f ≤ 3) : f = 0 ∨ f = 1 ∨ f = 2 ∨ f = 3 := by omega
theorem S_shape {n : Int} {κ : GFieldShape → Prop} (h0 : 0 ≤ n) (h1 : n ≤ 3) (h : ∀ e : GFieldShape, e.xName = B (nm n) → e.xTop = top n → κ e) : idxW gl_impl_fieldShapes n κ := by
  rcases four h0 h1 with rfl | rfl | rfl | rfl
  · exact idxW_of 0 rfl (by decide) (h _ rfl rfl)
  · exact idxW_of 1 rfl (by decide) (h _ rfl rfl)
  · exact idxW_of 2 rfl (by decide) (h _ rfl rfl)
  · exact idxW_of 3 rfl (by decide) (h _ rfl rfl)
theorem S_spec_FieldTop {n : Int} {κ : Int → Prop} (h0 : 0 ≤ n) (h1 : n ≤ 3) (h : κ (top n)) : L_spec_FieldTop n κ := by
  unfold L_spec_FieldTop jnW
  rcases four h0 h1 with rfl | rfl | rfl | rfl <;> simpa [top] using h
theorem S_impl_FieldTop {n : Int} {κ : Int → Prop} (h : κ (if 0 ≤ n ∧ n ≤ 3 then top n else -1)) : L_impl_FieldTop n κ := by
  unfold L_impl_FieldTop jnW
  refine ifW_of (fun hc => ?_) (fun hc => ifW_of (fun hc2 => ?_) (fun hc2 => ?_))
  · simp at hc; rw [if_neg (by omega)] at h; simpa using h
  · simp at hc hc2; rw [if_neg (by omega)] at h; exact h
  · simp at hc hc2; rw [if_pos (by omega)] at h
    exact S_shape (by omega) (by omega) (fun e _ he => by rw [he]; exact h)
theorem S_spec_TestValid {t : GTest} {κ : Bool → Prop} (h : κ (decide (TV t))) : L_spec_TestValid t κ := by
  unfold L_spec_TestValid jnW
  refine S_l1In (ifW_of (fun hc => ?_) (fun hc => ?_))
  · simp at hc
    refine S_l1In (ifW_of (fun hc2 => ?_) (fun hc2 => ?_))
    · simp at hc2
      refine S_spec_FieldTop hc.1 hc.2 ?_
      rw [show decide (t.xHi ≤ top t.xField) = decide (TV t) from decide_eq_decide.2 ⟨fun hh => ⟨hc.1, hc.2, hc2.1, hc2.2, hh⟩, fun hh => hh.2.2.2.2⟩]
      exact h
    · simp at hc2
      rw [decide_eq_false (fun hh : TV t => by obtain ⟨a1, a2, a3, a4, _⟩ := hh; omega)] at h; exact h
  · simp at hc
    rw [decide_eq_false (fun hh : TV t => by obtain ⟨a1, a2, a3, a4, _⟩ := hh; omega)] at h; exact h
theorem S_impl_TestValid {t : GTest} {κ : Bool → Prop} (h : κ (decide (TV t))) : L_impl_TestValid t κ := by
  unfold L_impl_TestValid jnW
  have no : ¬ (0 ≤ t.xField ∧ t.xField < 4 ∧ 0 ≤ t.xLo ∧ t.xLo ≤ t.xHi) → κ false := fun hn => by
    rw [decide_eq_false (fun hh : TV t => by obtain ⟨a1, a2, a3, a4, _⟩ := hh; omega)] at h; exact h
  refine ifW_of (fun hc => ifW_of (fun hc2 => ifW_of (fun hc3 => ifW_of (fun hc4 => ?_) (fun hc4 => no (by simp at hc4; omega))) (fun hc3 => no (by simp at hc3; omega))) (fun hc2 => no (by simp at hc2; omega))) (fun hc => no (by simp at hc; omega))
  simp at hc hc2 hc3 hc4
  refine S_impl_FieldTop ?_
  rw [if_pos ⟨hc, by omega⟩]
  rw [show decide (t.xHi ≤ top t.xField) = decide (TV t) from decide_eq_decide.2 ⟨fun hh => ⟨hc, by omega, hc3, hc4, hh⟩, fun hh => hh.2.2.2.2⟩]
  exact h
end
section
open Go Go.Proofs

/-- four sets, each for its field -/
def B4 (a : A4ListGSpan) : Prop := St a.x0 65535 ∧ St a.x1 65535 ∧ St a.x2 255 ∧ St a.x3 7
/-- none has too many ranges -/
def F4 (a : A4ListGSpan) : Prop := a.x0.length ≤ 40 ∧ a.x1.length ≤ 40 ∧ a.x2.length ≤ 40 ∧ a.x3.length ≤ 40
instance (a : A4ListGSpan) : Decidable (F4 a) := by unfold F4; infer_instance
def nil4 : A4ListGSpan := ⟨[], [], [], []⟩
def em4 (a : A4ListGSpan) : Bool := decide (a.x0 = [] ∨ a.x1 = [] ∨ a.x2 = [] ∨ a.x3 = [])
def all4 : A4ListGSpan := ⟨[⟨0, 65535⟩], [⟨0, 65535⟩], [⟨0, 255⟩], [⟨0, 7⟩]⟩
theorem all4_B4 : B4 all4 := by refine ⟨?_, ?_, ?_, ?_⟩ <;> exact ⟨NF_one (by decide), fun s hs => by simp only [all4, List.mem_singleton] at hs; subst hs; decide⟩
theorem S_empty4 {a : A4ListGSpan} {κ : Bool → Prop} (h : κ (em4 a)) : L_impl_sides_empty a κ := by
  obtain ⟨x0, x1, x2, x3⟩ := a
  simp only [em4] at h
  unfold L_impl_sides_empty
  refine ⟨5, ?_⟩
  refine ifW_t (idxW_of 0 rfl (by simp) (ifW_of (fun e => ?_) (fun e => addW_of (by decide) (by decide) ?_)))
  · have : x0 = [] := by simpa using e
    subst this; simpa using h
  have e0 : x0 ≠ [] := by simpa using e
  refine ifW_t (idxW_of 1 rfl (by simp) (ifW_of (fun e => ?_) (fun e => addW_of (by decide) (by decide) ?_)))
  · have : x1 = [] := by simpa using e
    subst this; simpa using h
  have e1 : x1 ≠ [] := by simpa using e
  refine ifW_t (idxW_of 2 rfl (by simp) (ifW_of (fun e => ?_) (fun e => addW_of (by decide) (by decide) ?_)))
  · have : x2 = [] := by simpa using e
    subst this; simpa using h
  have e2 : x2 ≠ [] := by simpa using e
  refine ifW_t (idxW_of 3 rfl (by simp) (ifW_of (fun e => ?_) (fun e => addW_of (by decide) (by decide) ?_)))
  · have : x3 = [] := by simpa using e
    subst this; simpa using h
  have e3 : x3 ≠ [] := by simpa using e
  refine ifW_f ?_
  simpa [e0, e1, e2, e3] using h
theorem S_top {n : Int} {κ : Int → Prop} (h0 : 0 ≤ n) (h1 : n ≤ 3) (h : κ (top n)) : L_impl_FieldTop n κ := S_impl_FieldTop (by rw [if_pos ⟨h0, h1⟩]; exact h)

end
section
open Go.Lib (decDigits)

/-- behind a test stands the end, or a comma -/
def Ends (r : List UInt8) : Prop := ∀ c m, r = c :: m → c = 44
theorem Ends.dg {r : List UInt8} (h : Ends r) : ∀ c m, r = c :: m → dg c = false := fun c m e => by rw [h c m e]; decide

end
section
open Go.Lib (decDigits)

/-- the word of an action -/
def aw (a : Int) : List UInt8 := if a = 1 then [97, 99, 99, 101, 112, 116] else if a = 2 then [100, 114, 111, 112] else if a = 3 then [99, 97, 108, 108] else if a = 4 then [114, 101, 116, 117, 114, 110] else [110, 111, 110, 101]
def TsV (ts : List GTest) : Prop := (∀ t, t ∈ ts → TV t) ∧ ts.length ≤ 6
instance (ts : List GTest) : Decidable (TsV ts) := by unfold TsV; infer_instance
def HV (a c : Int) : Prop := 1 ≤ a ∧ a ≤ 5 ∧ (a = 3 → 0 ≤ c ∧ c ≤ 4) ∧ (a ≠ 3 → c = 0)
instance (a c : Int) : Decidable (HV a c) := by unfold HV; infer_instance
def RV (r : GRule) : Prop := TsV r.xTests ∧ HV r.xAction r.xChain
instance (r : GRule) : Decidable (RV r) := by unfold RV; infer_instance
def hd (a c : Int) : List UInt8 := aw a ++ (if a = 3 then 32 :: decDigits c.toNat else [])
def tl (ts : List GTest) : List UInt8 := ts.flatMap (fun t => 44 :: 32 :: ttx t)
def rtx0 (r : GRule) : List UInt8 := hd r.xAction r.xChain ++ tl r.xTests
theorem S_spec_TestsValid {ts : List GTest} {κ : Bool → Prop} (hl : ts.length ≤ 4294967296) (h : κ (decide (TsV ts))) : L_spec_TestsValid ts κ := by
  unfold L_spec_TestsValid
  refine count_loop ts.length (fun s => s) (fun k s => s = (k : Int) ∧ k ≤ ts.length ∧ ∀ t, t ∈ ts.take k → TV t) (fun k s h => h.1) (fun k s h => h.2.1) ?_ ⟨rfl, Nat.zero_le _, by simp⟩
  rintro k _ next ⟨rfl, hk, he⟩ hn
  refine ifW_of (fun hc => ?_) (fun hc => ?_)
  · have hlt : k < ts.length := by simpa using hc
    refine idxW_of k rfl hlt (S_spec_TestValid (ifW_of (fun hc2 => ?_) (fun hc2 => ?_)))
    · simp at hc2
      rw [decide_eq_false (fun hh : TsV ts => hc2 (hh.1 _ (List.getElem_mem hlt)))] at h; exact h
    · simp at hc2
      refine addW_of (by omega) (by omega) (hn hlt _ ⟨by omega, by omega, fun t ht => ?_⟩)
      rw [List.take_succ_eq_append_getElem hlt] at ht
      rcases List.mem_append.1 ht with ht | ht
      · exact he t ht
      · rw [List.mem_singleton] at ht; subst ht; exact hc2
  · have hge : ts.length ≤ k := by simpa using hc
    rw [List.take_of_length_le hge] at he
    rw [show decide ((ts.length : Int) ≤ 6) = decide (TsV ts) from decide_eq_decide.2 ⟨fun hh => ⟨he, by omega⟩, fun hh => by have := hh.2; omega⟩]
    exact h
theorem S_impl_TestsValid {ts : List GTest} {κ : Bool → Prop} (hl : ts.length ≤ 4294967296) (h : κ (decide (TsV ts))) : L_impl_TestsValid ts κ := by
  unfold L_impl_TestsValid
  refine ifW_of (fun hc => ?_) (fun hc => ?_)
  · rw [decide_eq_false (fun hh : TsV ts => by have := hh.2; simp at hc; omega)] at h; exact h
  simp at hc
  refine count_loop ts.length (fun s => s) (fun k s => s = (k : Int) ∧ k ≤ ts.length ∧ ∀ t, t ∈ ts.take k → TV t) (fun k s h => h.1) (fun k s h => h.2.1) ?_ ⟨rfl, Nat.zero_le _, by simp⟩
  rintro k _ next ⟨rfl, hk, he⟩ hn
  refine ifW_of (fun hc => ?_) (fun hc => ?_)
  · have hlt : k < ts.length := by simpa using hc
    refine idxW_of k rfl hlt (S_impl_TestValid (ifW_of (fun hc2 => ?_) (fun hc2 => ?_)))
    · simp at hc2
      rw [decide_eq_false (fun hh : TsV ts => hc2 (hh.1 _ (List.getElem_mem hlt)))] at h; exact h
    · simp at hc2
      refine addW_of (by omega) (by omega) (hn hlt _ ⟨by omega, by omega, fun t ht => ?_⟩)
      rw [List.take_succ_eq_append_getElem hlt] at ht
      rcases List.mem_append.1 ht with ht | ht
      · exact he t ht
      · rw [List.mem_singleton] at ht; subst ht; exact hc2
  · have hge : ts.length ≤ k := by simpa using hc
    rw [List.take_of_length_le hge] at he
    rw [show decide (TsV ts) = true from decide_eq_true ⟨he, by omega⟩] at h; exact h

theorem S_impl_RuleValid {r : GRule} {κ : Bool → Prop} (hl : r.xTests.length ≤ 4294967296) (h : κ (decide (RV r))) : L_impl_RuleValid r κ := by
  have no : ¬ RV r → κ false := fun hn => by rw [decide_eq_false hn] at h; exact h
  unfold L_impl_RuleValid jnW
  refine S_impl_TestsValid hl (ifW_of (fun h1 => no (fun hh => by simp [hh.1] at h1)) (fun h1 => ?_))
  simp at h1
  refine ifW_of (fun h3 => ?_) (fun h3 => ?_)
  · simp at h3
    refine ifW_of (fun h4 => ?_) (fun h4 => no (fun hh => by have := hh.2.2.2.1 h3; simp at h4; omega))
    simp at h4
    rw [show decide (r.xChain < 5) = decide (RV r) from decide_eq_decide.2 ⟨fun hh => ⟨h1, by omega, by omega, fun _ => ⟨h4, by omega⟩, fun e => absurd h3 e⟩, fun hh => by have := hh.2.2.2.1 h3; omega⟩]
    exact h
  · simp at h3
    have yes : 1 ≤ r.xAction → r.xAction ≤ 5 → κ (decide (r.xChain = 0)) := fun a1 a2 => by
      rw [show decide (r.xChain = 0) = decide (RV r) from decide_eq_decide.2 ⟨fun hh => ⟨h1, a1, a2, fun e => absurd e h3, fun _ => hh⟩, fun hh => hh.2.2.2.2 h3⟩]
      exact h
    by_cases e1 : r.xAction = 1
    · simp only [e1, decide_true, ifW_true]; exact yes (by omega) (by omega)
    by_cases e2 : r.xAction = 2
    · simp only [e2, decide_true, ifW_true]; exact ifW_of (fun e => by simp at e) (fun _ => yes (by omega) (by omega))
    by_cases e4 : r.xAction = 4
    · simp only [e4, decide_true, ifW_true]
      exact ifW_of (fun e => by simp at e) (fun _ => ifW_of (fun e => by simp at e) (fun _ => yes (by omega) (by omega)))
    by_cases e5 : r.xAction = 5
    · simp only [e5, decide_true, ifW_true]
      exact ifW_of (fun e => by simp at e) (fun _ => ifW_of (fun e => by simp at e) (fun _ => ifW_of (fun e => by simp at e) (fun _ => yes (by omega) (by omega))))
    simp only [e1, e2, e4, e5, decide_false, ifW_false]
    exact no (fun hh => by have := hh.2.1; have := hh.2.2.1; omega)

end
section
open Go.Lib (decDigits)

theorem sameRule_self {r : GRule} {κ : Bool → Prop} (hl : r.xTests.length ≤ 4294967296) (h : κ true) : L_laws_sameRule r r κ := by
  unfold L_laws_sameRule jnW
  refine ifW_of (fun hc => by simp at hc) (fun _ => ?_)
  refine count_loop r.xTests.length (fun s => s) (fun k s => s = (k : Int) ∧ k ≤ r.xTests.length) (fun k s h => h.1) (fun k s h => h.2) ?_ ⟨rfl, Nat.zero_le _⟩
  rintro k _ next ⟨rfl, hk⟩ hn
  refine ifW_of (fun hc => ?_) (fun hc => ?_)
  · have hlt : k < r.xTests.length := by simpa using hc
    refine idxW_of k rfl hlt (idxW_of k rfl hlt (ifW_of (fun hc => by simp at hc) (fun _ => addW_of (by omega) (by omega) (hn hlt _ ⟨by omega, by omega⟩))))
  · simpa using h
end
section


/-- chain i calls chain j -/
def Ca (cs : List (List GRule)) (i j : Nat) : Prop := ∃ c, cs[i]? = some c ∧ ∃ r, r ∈ c ∧ r.xAction = 3 ∧ r.xChain = (j : Int)
/-- no call leads back, from i on -/
def Sf (cs : List (List GRule)) (i : Nat) : Prop := Acc (fun j i => Ca cs i j) i
theorem sf_of {cs : List (List GRule)} {i : Nat} (h : ∀ j, Ca cs i j → Sf cs j) : Sf cs i := Acc.intro _ h
/-- a way by calls, at least one -/
inductive Wy (cs : List (List GRule)) : Nat → Nat → Prop
  | one {i j : Nat} : Ca cs i j → Wy cs i j
  | more {i j k : Nat} : Wy cs i j → Ca cs j k → Wy cs i k
theorem wy_first {cs : List (List GRule)} {i k : Nat} (w : Wy cs i k) : ∃ j, Ca cs i j ∧ (j = k ∨ Wy cs j k) := by
  induction w with
  | one h => exact ⟨_, h, .inl rfl⟩
  | more _ h ih =>
    obtain ⟨j, h1, h2⟩ := ih
    rcases h2 with rfl | h2
    · exact ⟨_, h1, .inr (.one h)⟩
    · exact ⟨_, h1, .inr (.more h2 h)⟩
theorem wy_loop {cs : List (List GRule)} {i : Nat} (hs : Sf cs i) : ¬ Wy cs i i := by
  induction hs with
  | intro x _ ih =>
    intro w
    obtain ⟨j, h1, h2⟩ := wy_first w
    rcases h2 with rfl | h2
    · exact ih _ h1 w
    · exact ih j h1 (.more h2 h1)

/-- every rule of every chain is valid, and calls a chain that is there -/
def Tg (cs : List (List GRule)) : Prop := cs.length ≤ 5 ∧ ∀ c, c ∈ cs → (c.length ≤ 8 ∧ ∀ r, r ∈ c → RV r ∧ r.xChain < cs.length)

/-- the same, whatever is called -/
def Tw (cs : List (List GRule)) : Prop := cs.length ≤ 5 ∧ ∀ c, c ∈ cs → (c.length ≤ 8 ∧ ∀ r, r ∈ c → RV r)
theorem Tg.w {cs : List (List GRule)} (h : Tg cs) : Tw cs := ⟨h.1, fun c hc => ⟨(h.2 c hc).1, fun r hr => ((h.2 c hc).2 r hr).1⟩⟩
theorem sf_out {cs : List (List GRule)} {j : Nat} (h : cs.length ≤ j) : Sf cs j := sf_of (fun i ⟨c, h1, _⟩ => by have := (List.getElem?_eq_some_iff.1 h1).1; omega)
/-- the chains that a chain calls -/
theorem S_callsIn {rules : List GRule} {κ : List Int → Prop} (hl : rules.length ≤ 8) (hv : ∀ r, r ∈ rules → RV r) (h : ∀ ys : List Int, ys.length ≤ 5 → (∀ x, x ∈ ys ↔ ∃ r, r ∈ rules ∧ r.xAction = 3 ∧ r.xChain = x) → κ ys) : L_impl_callsIn rules κ := by
  unfold L_impl_callsIn
  refine count_loop rules.length (fun s => s.2) (fun k s => s.2 = (k : Int) ∧ k ≤ rules.length ∧ s.1.length = 5 ∧ ∀ i : Nat, i < 5 → (s.1[i]? = some true ↔ ∃ r, r ∈ rules.take k ∧ r.xAction = 3 ∧ r.xChain = (i : Int))) (fun k s h => h.1) (fun k s h => h.2.1) ?_ ⟨rfl, Nat.zero_le _, rfl, fun i hi => ?_⟩
  · rintro k ⟨xs, _⟩ next ⟨rfl, hk, hx, he⟩ hn
    simp only at hx he
    refine ifW_of (fun hc => ?_) (fun hc => ?_)
    · have hlt : k < rules.length := by simpa using hc
      have hrv := hv _ (List.getElem_mem hlt)
      have htk : ∀ r, r ∈ rules.take (k + 1) ↔ r ∈ rules.take k ∨ r = rules[k] := fun r => by
        rw [List.take_succ_eq_append_getElem hlt, List.mem_append, List.mem_singleton]
      unfold jnW
      refine idxW_of k rfl hlt (ifW_of (fun h3 => ?_) (fun h3 => ?_))
      · simp at h3
        have hch := hrv.2.2.2.1 h3
        obtain ⟨m, hm⟩ := Int.eq_ofNat_of_zero_le hch.1
        refine idxW_any hch.1 (by rw [hx]; omega) (fun _ _ => addW_of (by omega) (by omega) (hn hlt _ ⟨by simp, by omega, by simpa using hx, fun i hi => ?_⟩))
        simp only [htk]
        rw [hm, Int.toNat_natCast]
        by_cases e : i = m
        · subst e
          simp only [List.getElem?_set_self (show i < xs.length by omega), true_iff]
          exact ⟨_, .inr rfl, h3, hm⟩
        · rw [List.getElem?_set_ne (by omega), he i hi]
          constructor
          · rintro ⟨r, h1, h2⟩; exact ⟨r, .inl h1, h2⟩
          · rintro ⟨r, h1 | rfl, h2, h4⟩
            · exact ⟨r, h1, h2, h4⟩
            · omega
      · simp at h3
        refine addW_of (by omega) (by omega) (hn hlt _ ⟨by simp, by omega, hx, fun i hi => ?_⟩)
        simp only [htk]
        rw [he i hi]
        constructor
        · rintro ⟨r, h1, h2⟩; exact ⟨r, .inl h1, h2⟩
        · rintro ⟨r, h1 | rfl, h2, h4⟩
          · exact ⟨r, h1, h2, h4⟩
          · exact absurd h2 h3
    · have hge : rules.length ≤ k := by simpa using hc
      rw [List.take_of_length_le hge] at he
      obtain ⟨e0, e1, e2, e3, e4, rfl⟩ : ∃ a b c d e, xs = [a, b, c, d, e] := by
        match xs, hx with
        | [a, b, c, d, e], _ => exact ⟨a, b, c, d, e, rfl⟩
      refine ⟨e0, e1, e2, e3, e4, rfl, ?_⟩
      refine count_loop 5 (fun s => s.2) (fun j s => s.2 = (j : Int) ∧ j ≤ 5 ∧ s.1.length ≤ j ∧ ∀ x, x ∈ s.1 ↔ ∃ i : Nat, i < j ∧ x = (i : Int) ∧ [e0, e1, e2, e3, e4][i]? = some true) (fun j s h => h.1) (fun j s h => h.2.1) ?_ ⟨rfl, Nat.zero_le _, by simp, by simp⟩
      rintro j ⟨ys, _⟩ next2 ⟨rfl, hj, hyl, hy⟩ hn2
      simp only at hyl hy
      refine ifW_of (fun hc2 => ?_) (fun hc2 => ?_)
      · have hj5 : j < 5 := by simp at hc2; omega
        have hjl : j < [e0, e1, e2, e3, e4].length := by simpa using hj5
        unfold jnW
        refine idxW_of j rfl hjl (ifW_of (fun h3 => ?_) (fun h3 => ?_))
        · refine appW_of (by simp; omega) (addW_of (by omega) (by omega) (hn2 hj5 _ ⟨by simp, by omega, by simp; omega, fun x => ?_⟩))
          simp only [List.mem_append, List.mem_singleton, hy]
          constructor
          · rintro (⟨i, h1, h2, h4⟩ | rfl)
            · exact ⟨i, by omega, h2, h4⟩
            · exact ⟨j, by omega, rfl, by rw [List.getElem?_eq_getElem hjl, h3]⟩
          · rintro ⟨i, h1, h2, h4⟩
            by_cases e : i = j
            · subst e; exact .inr h2
            · exact .inl ⟨i, by omega, h2, h4⟩
        · refine addW_of (by omega) (by omega) (hn2 hj5 _ ⟨by simp, by omega, by simp only; omega, fun x => ?_⟩)
          simp only [hy]
          constructor
          · rintro ⟨i, h1, h2, h4⟩; exact ⟨i, by omega, h2, h4⟩
          · rintro ⟨i, h1, h2, h4⟩
            by_cases e : i = j
            · subst e; rw [List.getElem?_eq_getElem hjl, h3] at h4; simp at h4
            · exact ⟨i, by omega, h2, h4⟩
      · have hj5 : j = 5 := by simp at hc2; omega
        subst hj5
        refine h ys hyl (fun x => ?_)
        rw [hy]
        constructor
        · rintro ⟨i, h1, rfl, h4⟩; exact (he i h1).1 h4
        · rintro ⟨r, h1, h2, rfl⟩
          have hch := (hv r h1).2.2.2.1 h2
          obtain ⟨m, hm⟩ := Int.eq_ofNat_of_zero_le hch.1
          exact ⟨m, by omega, hm, (he m (by omega)).2 ⟨r, h1, h2, hm⟩⟩
  · constructor
    · intro hh
      have : i = 0 ∨ i = 1 ∨ i = 2 ∨ i = 3 ∨ i = 4 := by omega
      rcases this with rfl | rfl | rfl | rfl | rfl <;> simp at hh
    · rintro ⟨r, h1, _⟩; simp at h1

/-- the colours -/
def Co (cols : List Int) : Prop := cols.length = 5 ∧ ∀ x, x ∈ cols → x = 0 ∨ x = 1 ∨ x = 2
theorem co_set {cols : List Int} {i : Nat} {v : Int} (h : Co cols) (hv : v = 0 ∨ v = 1 ∨ v = 2) : Co (cols.set i v) := ⟨by rw [List.length_set]; exact h.1, fun x hx => by
  rcases List.mem_or_eq_of_mem_set hx with hx | rfl
  · exact h.2 x hx
  · exact hv⟩
/-- what a visit of c does to the colours -/
structure Vi (cs : List (List GRule)) (c : Nat) (cols : List Int) (ok : Bool) (cols' : List Int) : Prop where
  co : Co cols'
  black : ∀ i : Nat, cols[i]? = some 2 → cols'[i]? = some 2
  grey : ∀ i : Nat, cols'[i]? = some 1 ↔ cols[i]? = some 1
  white : cols'.count 0 ≤ cols.count 0
  good : ok = true → (∀ i : Nat, cols[i]? = some 2 → Sf cs i) → (∀ i : Nat, cols'[i]? = some 2 → Sf cs i) ∧ (c < cs.length → cols'[c]? = some 2)
  bad : ok = false → (∀ g : Nat, cols[g]? = some 1 → Wy cs g c) → ∃ i, i < cs.length ∧ ¬ Sf cs i

theorem count_le5 {cols : List Int} (h : cols.length = 5) : cols.count 0 ≤ 5 := by have := List.count_le_length (a := (0 : Int)) (l := cols); omega
theorem S_visitR {cs : List (List GRule)} (ht : Tw cs) : ∀ (n c : Nat) (cols : List Int) (κ : Bool × List Int → Prop), Co cols → cols.count 0 < n →
    (∀ ok cols', Vi cs c cols ok cols' → κ (ok, cols')) → R_impl_visitCalls n cs (c : Int) cols κ
  | 0, c, cols, κ, hco, hw, h => by omega
  | n + 1, c, cols, κ, hco, hw, h => by
    have hn5 := ht.1
    show B_impl_visitCalls (R_impl_visitCalls n) cs (c : Int) cols κ
    unfold B_impl_visitCalls
    refine ifW_of (fun hx => h _ _ ⟨hco, fun i hi => hi, fun i => Iff.rfl, Nat.le_refl _, fun _ hb => ⟨hb, fun hlt => by simp at hx; omega⟩, fun e => by cases e⟩) (fun hx => ?_)
    have hc : c < cs.length := by simp at hx; omega
    have hcl : c < cols.length := by rw [hco.1]; omega
    refine idxW_of c rfl hcl (ifW_of (fun h1 => ?_) (fun h1 => ifW_of (fun h2 => ?_) (fun h2 => ?_)))
    · have e1 : cols[c]? = some 1 := by rw [List.getElem?_eq_getElem hcl]; simpa using h1
      exact h _ _ ⟨hco, fun i hi => hi, fun i => Iff.rfl, Nat.le_refl _, fun e => (by cases e), fun _ hg => ⟨c, hc, fun hs => wy_loop hs (hg c e1)⟩⟩
    · have e2 : cols[c]? = some 2 := by rw [List.getElem?_eq_getElem hcl]; simpa using h2
      exact h _ _ ⟨hco, fun i hi => hi, fun i => Iff.rfl, Nat.le_refl _, fun _ hb => ⟨hb, fun _ => e2⟩, fun e => by cases e⟩
    · have e0 : cols[c] = 0 := by
        have := hco.2 _ (List.getElem_mem hcl)
        simp at h1 h2; omega
      have e0' : cols[c]? = some 0 := by rw [List.getElem?_eq_getElem hcl, e0]
      have hcs : cs[c]? = some cs[c] := List.getElem?_eq_getElem hc
      have hch := ht.2 _ (List.getElem_mem hc)
      refine idxW_of c rfl hcl (idxW_of c rfl hc (S_callsIn hch.1 hch.2 (fun ys hyl hys => ?_)))
      have hca : ∀ j : Nat, Ca cs c j ↔ (j : Int) ∈ ys := fun j => by
        rw [hys]
        constructor
        · rintro ⟨c', h1, r, h2, h3⟩
          rw [hcs] at h1; cases h1
          exact ⟨r, h2, h3⟩
        · rintro ⟨r, h2, h3⟩; exact ⟨_, hcs, r, h2, h3⟩
      have hcount : (cols.set c 1).count 0 + 1 = cols.count 0 := by
        rw [List.count_set hcl]
        have : 0 < cols.count 0 := List.count_pos_iff.2 (by rw [← e0]; exact List.getElem_mem hcl)
        simp [e0]; omega
      have set1 : ∀ i : Nat, (cols.set c 1)[i]? = if i = c then some 1 else cols[i]? := fun i => by
        by_cases e : i = c
        · subst e; simp [hcl]
        · rw [List.getElem?_set_ne (by omega), if_neg e]
      refine count_loop ys.length (fun s => s.2.2) (fun k s => s.2.2 = (k : Int) ∧ k ≤ ys.length ∧ Co s.1 ∧ (∀ i : Nat, cols[i]? = some 2 → s.1[i]? = some 2) ∧ (∀ i : Nat, s.1[i]? = some 1 ↔ (cols.set c 1)[i]? = some 1) ∧ s.1.count 0 ≤ (cols.set c 1).count 0 ∧
        (s.2.1 = true → (∀ i : Nat, cols[i]? = some 2 → Sf cs i) → (∀ i : Nat, s.1[i]? = some 2 → Sf cs i) ∧ ∀ j : Nat, (j : Int) ∈ ys.take k → j < cs.length → s.1[j]? = some 2) ∧
        (s.2.1 = false → (∀ g : Nat, cols[g]? = some 1 → Wy cs g c) → ∃ i, i < cs.length ∧ ¬ Sf cs i)) (fun k s h => h.1) (fun k s h => h.2.1) ?_
        ⟨rfl, Nat.zero_le _, co_set hco (by simp), fun i hi => ?_, fun i => Iff.rfl, Nat.le_refl _, fun _ hb => ⟨fun i hi => ?_, by simp⟩, fun e => by cases e⟩
      · rintro k ⟨X, ok, _⟩ next ⟨rfl, hk, xco, xb, xg, xw, xgood, xbad⟩ hnx
        simp only at xco xb xg xw xgood xbad
        refine ifW_of (fun hlt => ?_) (fun hlt => ?_)
        · have hlt : k < ys.length := by simpa using hlt
          obtain ⟨r, hr, hr3, hrc⟩ := (hys ys[k]).1 (List.getElem_mem hlt)
          have hrv := hch.2 r hr
          have hcc := hrv.2.2.2.1 hr3
          obtain ⟨j, hj⟩ := Int.eq_ofNat_of_zero_le hcc.1
          have ej : ys[k] = (j : Int) := by omega
          have hcj : Ca cs c j := ⟨_, hcs, r, hr, hr3, hj⟩
          unfold jnW
          refine idxW_of k rfl hlt ?_
          rw [ej]
          refine S_visitR ht n j X _ xco (by omega) (fun ok' X' v => ?_)
          have fin : ∀ o : Bool, (o = true → ok = true ∧ ok' = true) → (o = false → ok = false ∨ ok' = false) → addW (k : Int) 1 (fun t93 => next (X', o, t93)) := by
            intro o ho1 ho2
            refine addW_of (by omega) (by omega) (hnx hlt _ ⟨by simp, by omega, v.co, fun i hi => v.black i (xb i hi), fun i => (v.grey i).trans (xg i), Nat.le_trans v.white xw, fun e hb => ?_, fun e hg => ?_⟩)
            · obtain ⟨g1, g2⟩ := ho1 e
              obtain ⟨q1, q2⟩ := xgood g1 hb
              obtain ⟨q3, q4⟩ := v.good g2 q1
              refine ⟨q3, fun i hi hil => ?_⟩
              rw [List.take_succ_eq_append_getElem hlt, List.mem_append, List.mem_singleton] at hi
              rcases hi with hi | hi
              · exact v.black i (q2 i hi hil)
              · have : i = j := by omega
                subst this; exact q4 hil
            · rcases ho2 e with e1 | e1
              · exact xbad e1 hg
              · refine v.bad e1 (fun g hgx => ?_)
                rw [xg, set1] at hgx
                by_cases e2 : g = c
                · subst e2; exact .one hcj
                · rw [if_neg e2] at hgx; exact .more (hg g hgx) hcj
          refine ifW_of (fun e => fin false (fun e => by cases e) (fun _ => .inr (by simpa using e))) (fun e => fin ok (fun e1 => ⟨e1, by simpa using e⟩) (fun e1 => .inl e1))
        · have hge : ys.length ≤ k := by simpa using hlt
          rw [List.take_of_length_le hge] at xgood
          have hxl : c < X.length := by rw [xco.1]; omega
          have set2 : ∀ i : Nat, (X.set c 2)[i]? = if i = c then some 2 else X[i]? := fun i => by
            by_cases e : i = c
            · subst e; simp [hxl]
            · rw [List.getElem?_set_ne (by omega), if_neg e]
          have xc1 : X[c]? = some 1 := by rw [xg, set1, if_pos rfl]
          refine idxW_of c rfl hxl ?_
          rw [Int.toNat_natCast]
          refine h _ _ ⟨co_set xco (by simp), fun i hi => ?_, fun i => ?_, ?_, fun e hb => ?_, fun e hg => xbad e hg⟩
          · rw [set2]; split
            · rfl
            · exact xb i hi
          · rw [set2]
            by_cases e : i = c
            · subst e; rw [if_pos rfl, e0']; simp
            · rw [if_neg e, xg, set1, if_neg e]
          · rw [List.count_set hxl]
            have : X[c] = 1 := by rw [List.getElem?_eq_getElem hxl] at xc1; exact Option.some.inj xc1
            simp [this]; omega
          · obtain ⟨q1, q2⟩ := xgood e hb
            have sc : Sf cs c := sf_of (fun j hj => by
              by_cases hjl : j < cs.length
              · exact q1 j (q2 j ((hca j).1 hj) hjl)
              · exact sf_out (by omega))
            refine ⟨fun i hi => ?_, fun _ => by rw [set2, if_pos rfl]⟩
            rw [set2] at hi
            by_cases e : i = c
            · subst e; exact sc
            · rw [if_neg e] at hi; exact q1 i hi
      · show (cols.set c 1)[i]? = some 2
        rw [set1]
        by_cases e : i = c
        · subst e; rw [e0'] at hi; simp at hi
        · rw [if_neg e]; exact hi
      · change (cols.set c 1)[i]? = some 2 at hi
        rw [set1] at hi
        by_cases e : i = c
        · subst e; simp at hi
        · rw [if_neg e] at hi; exact hb i hi
theorem S_acyclic {cs : List (List GRule)} {κ : Bool → Prop} (ht : Tw cs) (h1 : (∀ i, i < cs.length → Sf cs i) → κ true) (h2 : (¬ ∀ i, i < cs.length → Sf cs i) → κ false) : L_impl_acyclic cs κ := by
  unfold L_impl_acyclic
  have hn5 := ht.1
  refine count_loop cs.length (fun s => s.2) (fun k s => s.2 = (k : Int) ∧ k ≤ cs.length ∧ Co s.1 ∧ (∀ i : Nat, s.1[i]? ≠ some 1) ∧ (∀ i : Nat, s.1[i]? = some 2 → Sf cs i) ∧ (∀ i : Nat, i < k → s.1[i]? = some 2)) (fun k s h => h.1) (fun k s h => h.2.1) ?_ ⟨rfl, Nat.zero_le _, ⟨rfl, by simp⟩, fun i => ?_, fun i hi => ?_, fun i hi => by omega⟩
  · rintro k ⟨X, _⟩ next ⟨rfl, hk, xco, xg, xs, xk⟩ hn
    simp only at xco xg xs xk
    refine ifW_of (fun hc => ?_) (fun hc => ?_)
    · have hlt : k < cs.length := by simpa using hc
      refine ⟨6, S_visitR ht 6 k X _ xco (by have := count_le5 xco.1; omega) (fun ok X' v => ?_)⟩
      refine ifW_of (fun e => h2 (fun hall => ?_)) (fun e => addW_of (by omega) (by omega) (hn hlt _ ⟨by simp, by omega, v.co, fun i hi => xg i ((v.grey i).1 hi), (v.good (by simpa using e) xs).1, fun i hi => ?_⟩))
      · obtain ⟨i, hi, hns⟩ := v.bad (by simpa using e) (fun g hg => absurd hg (xg g))
        exact hns (hall i hi)
      · by_cases e2 : i = k
        · subst e2; exact (v.good (by simpa using e) xs).2 hlt
        · exact v.black i (xk i (by omega))
    · have hge : cs.length ≤ k := by simpa using hc
      exact h1 (fun i hi => xs i (xk i (by omega)))
  · have : i = 0 ∨ i = 1 ∨ i = 2 ∨ i = 3 ∨ i = 4 ∨ 5 ≤ i := by omega
    rcases this with rfl | rfl | rfl | rfl | rfl | h <;> simp
    rw [List.getElem?_eq_none (by simpa using h)]; simp
  · have : i = 0 ∨ i = 1 ∨ i = 2 ∨ i = 3 ∨ i = 4 ∨ 5 ≤ i := by omega
    rcases this with rfl | rfl | rfl | rfl | rfl | h
    · simp at hi
    · simp at hi
    · simp at hi
    · simp at hi
    · simp at hi
    · rw [List.getElem?_eq_none (by simpa using h)] at hi; cases hi


end
section
open Go.Lib (decDigits)

def RsV (c : List GRule) : Prop := c.length ≤ 8 ∧ ∀ r, r ∈ c → RV r
def SV (s : GRuleset) : Prop := Tg s.xChains ∧ 1 ≤ s.xChains.length ∧ ∀ i, i < s.xChains.length → Sf s.xChains i
/-- lengths in range -/
def Bc (c : List GRule) : Prop := c.length ≤ 4294967296 ∧ ∀ r, r ∈ c → r.xTests.length ≤ 4294967296
def Bd (s : GRuleset) : Prop := s.xChains.length ≤ 4294967296 ∧ ∀ c, c ∈ s.xChains → Bc c
theorem mem_snoc {α : Type} {l : List α} {k : Nat} (h : k < l.length) (x : α) : x ∈ l.take (k + 1) ↔ x ∈ l.take k ∨ x = l[k] := by
  rw [List.take_succ_eq_append_getElem h, List.mem_append, List.mem_singleton]

theorem S_impl_RulesValid {c : List GRule} {κ : Bool → Prop} (hb : Bc c) (h : ∀ b, (b = true ↔ RsV c) → κ b) : L_impl_RulesValid c κ := by
  have hl := hb.1
  unfold L_impl_RulesValid
  refine ifW_of (fun hc => h _ ⟨fun e => (by cases e), fun hh => by have := hh.1; simp at hc; omega⟩) (fun hc0 => ?_)
  simp at hc0
  refine count_loop c.length (fun s => s) (fun k s => s = (k : Int) ∧ k ≤ c.length ∧ ∀ r, r ∈ c.take k → RV r) (fun k s h => h.1) (fun k s h => h.2.1) ?_ ⟨rfl, Nat.zero_le _, by simp⟩
  rintro k _ next ⟨rfl, hk, he⟩ hn
  refine ifW_of (fun hc => ?_) (fun hc => ?_)
  · have hlt : k < c.length := by simpa using hc
    refine idxW_of k rfl hlt (S_impl_RuleValid (hb.2 _ (List.getElem_mem hlt)) (ifW_of (fun hc2 => ?_) (fun hc2 => ?_)))
    · simp at hc2
      exact h _ ⟨fun e => (by cases e), fun hh => absurd (hh.2 _ (List.getElem_mem hlt)) hc2⟩
    · simp at hc2
      refine addW_of (by omega) (by omega) (hn hlt _ ⟨by omega, by omega, fun r hr => ?_⟩)
      rcases (mem_snoc hlt r).1 hr with hr | rfl
      · exact he r hr
      · exact hc2
  · have hge : c.length ≤ k := by simpa using hc
    rw [List.take_of_length_le hge] at he
    exact h _ ⟨fun _ => ⟨by omega, he⟩, fun _ => rfl⟩
theorem S_impl_RulesetValid {s : GRuleset} {κ : Bool → Prop} (hb : Bd s) (h : ∀ b, (b = true ↔ SV s) → κ b) : L_impl_RulesetValid s κ := by
  have no : ¬ SV s → κ false := fun hns => h _ ⟨fun e => (by cases e), fun hh => absurd hh hns⟩
  unfold L_impl_RulesetValid jnW
  simp only [ifW_true]
  refine ifW_of (fun hc => no (fun hh => by have := hh.2.1; simp at hc; omega)) (fun h1 => ifW_of (fun hc => no (fun hh => by have := hh.1.1; simp at hc; omega)) (fun h5 => ?_))
  simp at h1 h5
  refine count_loop s.xChains.length (fun s => s) (fun k t => t = (k : Int) ∧ k ≤ s.xChains.length ∧ ∀ c, c ∈ s.xChains.take k → RsV c) (fun k s h => h.1) (fun k s h => h.2.1) ?_ ⟨rfl, Nat.zero_le _, by simp⟩
  rintro k _ next ⟨rfl, hk, he⟩ hnx
  refine ifW_of (fun hc => ?_) (fun hc => ?_)
  · have hlt : k < s.xChains.length := by simpa using hc
    have hmem := List.getElem_mem hlt
    refine idxW_of k rfl hlt (S_impl_RulesValid (hb.2 _ hmem) (fun b hbv => ifW_of (fun hf => no (fun hh => ?_)) (fun hf => ?_)))
    · have : b = true := hbv.2 ⟨(hh.1.2 _ hmem).1, fun r hr => ((hh.1.2 _ hmem).2 r hr).1⟩
      rw [this] at hf; cases hf
    · refine addW_of (by omega) (by omega) (hnx hlt _ ⟨by omega, by omega, fun c hc => ?_⟩)
      rcases (mem_snoc hlt c).1 hc with hc | rfl
      · exact he c hc
      · exact hbv.1 (by simpa using hf)
  · have hge : s.xChains.length ≤ k := by simpa using hc
    rw [List.take_of_length_le hge] at he
    refine count_loop s.xChains.length (fun s => s) (fun k t => t = (k : Int) ∧ k ≤ s.xChains.length ∧ ∀ c, c ∈ s.xChains.take k → ∀ r, r ∈ c → r.xChain < s.xChains.length) (fun k s h => h.1) (fun k s h => h.2.1) ?_ ⟨rfl, Nat.zero_le _, by simp⟩
    rintro m _ next2 ⟨rfl, hm, he2⟩ hn2
    refine ifW_of (fun hc2 => ?_) (fun hc2 => ?_)
    · have hlt : m < s.xChains.length := by simpa using hc2
      have hmem := List.getElem_mem hlt
      have hv := he _ hmem
      refine idxW_of m rfl hlt (S_callsIn hv.1 hv.2 (fun ys hyl hys => ?_))
      refine count_loop ys.length (fun s => s) (fun j t => t = (j : Int) ∧ j ≤ ys.length ∧ ∀ x, x ∈ ys.take j → x < s.xChains.length) (fun k s h => h.1) (fun k s h => h.2.1) ?_ ⟨rfl, Nat.zero_le _, by simp⟩
      rintro j _ next3 ⟨rfl, hj, he3⟩ hn3
      refine ifW_of (fun hc3 => ?_) (fun hc3 => ?_)
      · have hltj : j < ys.length := by simpa using hc3
        refine idxW_of j rfl hltj (ifW_of (fun hx => no (fun hh => ?_)) (fun hx => ?_))
        · obtain ⟨r, hr, _, hrc⟩ := (hys _).1 (List.getElem_mem hltj)
          have := ((hh.1.2 _ hmem).2 r hr).2
          simp at hx; omega
        · simp at hx
          refine addW_of (by omega) (by omega) (hn3 hltj _ ⟨by omega, by omega, fun x hxx => ?_⟩)
          rcases (mem_snoc hltj x).1 hxx with hxx | rfl
          · exact he3 x hxx
          · omega
      · have hgej : ys.length ≤ j := by simpa using hc3
        rw [List.take_of_length_le hgej] at he3
        refine addW_of (by omega) (by omega) (hn2 hlt _ ⟨by omega, by omega, fun c hc => ?_⟩)
        rcases (mem_snoc hlt c).1 hc with hc | rfl
        · exact he2 c hc
        · intro r hr
          by_cases h3 : r.xAction = 3
          · exact he3 _ ((hys _).2 ⟨r, hr, h3, rfl⟩)
          · have := (hv.2 r hr).2.2.2.2 h3
            omega
    · have hgem : s.xChains.length ≤ m := by simpa using hc2
      rw [List.take_of_length_le hgem] at he2
      have ht : Tg s.xChains := ⟨by omega, fun c hc => ⟨(he c hc).1, fun r hr => ⟨(he c hc).2 r hr, he2 c hc r hr⟩⟩⟩
      exact S_acyclic ht.w (fun hall => h _ ⟨fun _ => ⟨ht, by omega, hall⟩, fun _ => rfl⟩) (fun hall => h _ ⟨fun e => (by cases e), fun hh => absurd hh.2.2 hall⟩)

/-! texts -/
end
section
open Go Go.Proofs

instance (l : List GSpan) : Decidable (NF l) := by unfold NF; infer_instance
instance (l : List GSpan) (t : Int) : Decidable (St l t) := by unfold St; infer_instance
theorem chain_NF : ∀ {ys : List GSpan}, (∀ s ∈ ys, s.xLo ≤ s.xHi) → (ys.Pairwise (fun a b => a.xHi + 1 < b.xLo) ↔ ∀ n, (h : n + 1 < ys.length) → ys[n].xHi + 1 < ys[n + 1].xLo)
  | [], _ => by simp
  | [s], _ => by simp
  | s :: t :: ys, h => by
    have ih := chain_NF (ys := t :: ys) (fun u hu => h u (List.mem_cons_of_mem _ hu))
    rw [List.pairwise_cons, ih]
    constructor
    · rintro ⟨h1, h2⟩ n hn
      cases n with
      | zero => exact h1 t (by simp)
      | succ n => exact h2 n (by simpa using hn)
    · intro hh
      have h0 := hh 0 (by simp)
      have h2 : ∀ n, (h : n + 1 < (t :: ys).length) → (t :: ys)[n].xHi + 1 < (t :: ys)[n + 1].xLo := fun n hn => hh (n + 1) (by simpa using hn)
      refine ⟨fun u hu => ?_, h2⟩
      rcases List.mem_cons.1 hu with e | e
      · subst e; exact h0
      · have := (List.pairwise_cons.1 (ih.2 h2)).1 u e
        have := h t (by simp)
        simp only [List.getElem_cons_zero, List.getElem_cons_succ] at h0
        omega
theorem St_iff {l : List GSpan} {top : Int} : St l top ↔ (∀ n, (h : n < l.length) → 0 ≤ l[n].xLo ∧ l[n].xLo ≤ l[n].xHi ∧ l[n].xHi ≤ top) ∧ ∀ n, (h : n + 1 < l.length) → l[n].xHi + 1 < l[n + 1].xLo := by
  constructor
  · rintro ⟨⟨h1, h2⟩, h3⟩
    exact ⟨fun n hn => by have := h1 _ (List.getElem_mem hn); have := h3 _ (List.getElem_mem hn); omega, (chain_NF h1).1 h2⟩
  · rintro ⟨h1, h2⟩
    have h3 : ∀ s ∈ l, 0 ≤ s.xLo ∧ s.xLo ≤ s.xHi ∧ s.xHi ≤ top := fun s hs => by
      obtain ⟨n, hn, e⟩ := List.getElem_of_mem hs
      rw [← e]; exact h1 n hn
    exact ⟨⟨fun s hs => (h3 s hs).2.1, (chain_NF (fun s hs => (h3 s hs).2.1)).2 h2⟩, fun s hs => ⟨(h3 s hs).1, (h3 s hs).2.2⟩⟩
/-- a valid set -/
def SpV (l : List GSpan) (top : Int) : Prop := l.length ≤ 40 ∧ St l top
instance (l : List GSpan) (t : Int) : Decidable (SpV l t) := by unfold SpV; infer_instance
theorem S_spec_SpansValid {l : List GSpan} {top : Int} (hl : l.length ≤ 4294967296) (h0 : 0 ≤ top) (ht : top ≤ 65535) {κ : Bool → Prop} (h : κ (decide (SpV l top))) : L_spec_SpansValid l top κ := by
  unfold L_spec_SpansValid
  refine count_loop l.length (fun s => s) (fun k s => s = (k : Int) ∧ k ≤ l.length ∧ (∀ n, (h : n < l.length) → n < k → 0 ≤ l[n].xLo ∧ l[n].xLo ≤ l[n].xHi ∧ l[n].xHi ≤ top) ∧ ∀ n, (h : n + 1 < l.length) → n + 1 < k → l[n].xHi + 1 < l[n + 1].xLo) (fun k s h => h.1) (fun k s h => h.2.1) ?_ ⟨rfl, Nat.zero_le _, fun n _ h => by omega, fun n _ h => by omega⟩
  rintro k _ next ⟨rfl, hk, h1, h2⟩ hn
  refine ifW_of (fun hc => ?_) (fun hc => ?_)
  · have hlt : k < l.length := by simpa using hc
    have no : ¬ (0 ≤ l[k].xLo ∧ l[k].xLo ≤ l[k].xHi ∧ l[k].xHi ≤ top ∧ ∀ j, (hj : j + 1 < l.length) → j + 1 = k → l[j].xHi + 1 < l[j + 1].xLo) → κ false := fun hh => by
      rw [decide_eq_false (fun hs => hh ?_)] at h
      · exact h
      · obtain ⟨e1, e2⟩ := St_iff.1 hs.2
        exact ⟨(e1 k hlt).1, (e1 k hlt).2.1, (e1 k hlt).2.2, fun j hj _ => e2 j hj⟩
    have yes : (0 ≤ l[k].xLo ∧ l[k].xLo ≤ l[k].xHi ∧ l[k].xHi ≤ top ∧ ∀ j, (hj : j + 1 < l.length) → j + 1 = k → l[j].xHi + 1 < l[j + 1].xLo) → addW (k : Int) 1 (fun t => next t) := fun ⟨q1, q2, q3, q4⟩ =>
      addW_of (by omega) (by omega) (hn hlt _ ⟨by simp, by omega, fun n hn hnk => by
        by_cases e : n = k
        · subst e; exact ⟨q1, q2, q3⟩
        · exact h1 n hn (by omega), fun n hn hnk => by
        by_cases e : n + 1 = k
        · exact q4 n hn e
        · exact h2 n hn (by omega)⟩)
    unfold jnW
    refine idxW_of k rfl hlt (idxW_of k rfl hlt (S_l1In (ifW_of (fun e => ifW_t (no (fun f => ?_))) (fun e => ?_))))
    · simp at e; omega
    simp at e
    refine idxW_of k rfl hlt (S_l1In (ifW_of (fun e2 => ifW_t (no (fun f => ?_))) (fun e2 => ?_)))
    · simp at e2; omega
    simp at e2
    refine ifW_of (fun e3 => ?_) (fun e3 => ?_)
    · have hk0 : 0 < k := by simpa using e3
      have hp := h1 (k - 1) (by omega) (by omega)
      refine idxW_of k rfl hlt (subW_of (by omega) (by omega) (idxW_of (k - 1) (by omega) (by omega) (addW_of (by omega) (by omega) (ifW_of (fun e4 => no (fun f => ?_)) (fun e4 => yes ⟨by omega, by omega, by omega, fun j hj hjk => ?_⟩)))))
      · have := f.2.2.2 (k - 1) (by omega) (by omega)
        simp at e4
        have ee : k - 1 + 1 = k := by omega
        simp only [ee] at this
        omega
      · simp at e4
        obtain rfl : j = k - 1 := by omega
        have ee : k - 1 + 1 = k := by omega
        simp only [ee]
        omega
    · have hk0 : k = 0 := by simpa using e3
      exact ifW_f (yes ⟨by omega, by omega, by omega, fun j hj hjk => by omega⟩)
  · have hge : l.length ≤ k := by simpa using hc
    have hs : St l top := St_iff.2 ⟨fun n hn => h1 n hn (by omega), fun n hn => h2 n hn (by omega)⟩
    unfold jnW
    refine S_l1In (ifW_of (fun e => ?_) (fun e => by simp at e; omega))
    rw [show decide (SpV l top) = decide ((l.length : Int) ≤ 40) from decide_eq_decide.2 ⟨fun q => by have := q.1; omega, fun q => ⟨by omega, hs⟩⟩] at h
    exact h
theorem S_topValid_any {t : Int} {κ : Bool → Prop} (h0 : 0 ≤ t) (ht : t ≤ 65535) (h : κ true) : L_impl_topValid t κ := by
  unfold L_impl_topValid jnW
  rw [decide_eq_true h0, decide_eq_true ht]
  exact ifW_t h
theorem S_impl_SpansValid {l : List GSpan} {top : Int} (hl : l.length ≤ 9223372036854775807) (h0 : 0 ≤ top) (ht : top ≤ 65535) {κ : Bool → Prop} (h : κ (decide (SpV l top))) : L_impl_SpansValid l top κ := by
  unfold L_impl_SpansValid jnW
  refine S_topValid_any h0 ht (ifW_f (ifW_of (fun e => ?_) (fun e => ?_)))
  · rw [decide_eq_false (fun q => by have := q.1; simp at e; omega)] at h; exact h
  have h40 : l.length ≤ 40 := by simp at e; omega
  refine count_loop l.length (fun s => s.2) (fun k (s : Int × Int) => s.2 = (k : Int) ∧ k ≤ l.length ∧ (∀ n, (h : n < l.length) → n < k → 0 ≤ l[n].xLo ∧ l[n].xLo ≤ l[n].xHi ∧ l[n].xHi ≤ top) ∧ (∀ n, (h : n + 1 < l.length) → n + 1 < k → l[n].xHi + 1 < l[n + 1].xLo) ∧ (k = 0 → s.1 = -2) ∧ (∀ n, (h : n < l.length) → n + 1 = k → s.1 = l[n].xHi)) (fun k s h => h.1) (fun k s h => h.2.1) ?_ ⟨rfl, Nat.zero_le _, fun n _ h => by omega, fun n _ h => by omega, fun _ => rfl, fun n _ h => by omega⟩
  rintro k ⟨a, _⟩ next ⟨rfl, hk, h1, h2, h3, h4⟩ hn
  simp only at h3 h4
  have ha : -2 ≤ a ∧ a ≤ 65535 := by
    by_cases e : k = 0
    · have := h3 e; omega
    · have := h4 (k - 1) (by omega) (by omega); have := h1 (k - 1) (by omega) (by omega); omega
  refine ifW_of (fun hc => ?_) (fun hc => ?_)
  · have hlt : k < l.length := by simpa using hc
    have no : ¬ (a + 1 < l[k].xLo ∧ l[k].xLo ≤ l[k].xHi ∧ l[k].xHi ≤ top) → κ false := fun hh => by
      rw [decide_eq_false (fun hs => hh ?_)] at h
      · exact h
      · obtain ⟨e1, e2⟩ := St_iff.1 hs.2
        have q := e1 k hlt
        refine ⟨?_, q.2.1, q.2.2⟩
        by_cases e : k = 0
        · have := h3 e; omega
        · obtain ⟨j, rfl⟩ : ∃ j, k = j + 1 := ⟨k - 1, by omega⟩
          have := h4 j (by omega) rfl
          have := e2 j hlt
          omega
    refine idxW_of k rfl hlt (addW_of (by omega) (by omega) (ifW_of (fun e => ifW_t (no (fun f => by simp at e; omega))) (fun e => ifW_of (fun e2 => ifW_t (no (fun f => by simp at e2; omega))) (fun e2 => ifW_of (fun e3 => no (fun f => by simp at e3; omega)) (fun e3 => ?_)))))
    simp at e e2 e3
    have lo : 0 ≤ l[k].xLo := by
      by_cases q : k = 0
      · have := h3 q; omega
      · have := h4 (k - 1) (by omega) (by omega); have := h1 (k - 1) (by omega) (by omega); omega
    refine addW_of (by omega) (by omega) (hn hlt _ ⟨by simp, by omega, fun n hn hnk => ?_, fun n hn hnk => ?_, fun f => by omega, fun n hn hnk => ?_⟩)
    · by_cases q : n = k
      · subst q; exact ⟨lo, e2, e3⟩
      · exact h1 n hn (by omega)
    · by_cases q : n + 1 = k
      · subst q
        have := h4 n (by omega) rfl
        omega
      · exact h2 n hn (by omega)
    · obtain rfl : n = k := by omega
      rfl
  · have hge : l.length ≤ k := by simpa using hc
    have hs : St l top := St_iff.2 ⟨fun n hn => h1 n hn (by omega), fun n hn => h2 n hn (by omega)⟩
    rw [decide_eq_true (show SpV l top from ⟨h40, hs⟩)] at h
    exact h
instance (l : List GSpan) (x : Int) : Decidable (hv l x) := by unfold hv; infer_instance
theorem S_impl_SpansHave {l : List GSpan} {x : Int} (hl : l.length ≤ 4294967296) {κ : Bool → Prop} (h : κ (decide (hv l x))) : L_impl_SpansHave l x κ := by
  unfold L_impl_SpansHave
  refine count_loop l.length (fun s => s) (fun k s => s = (k : Int) ∧ k ≤ l.length ∧ ¬ hv (l.take k) x) (fun k s h => h.1) (fun k s h => h.2.1) ?_ ⟨rfl, Nat.zero_le _, by simp [hv]⟩
  rintro k _ next ⟨rfl, hk, hno⟩ hn
  refine ifW_of (fun hc => ?_) (fun hc => ?_)
  · have hlt : k < l.length := by simpa using hc
    unfold jnW
    have go : ¬ (l[k].xLo ≤ x ∧ x ≤ l[k].xHi) → addW (k : Int) 1 (fun t => next t) := fun hh => addW_of (by omega) (by omega) (hn hlt _ ⟨by simp, by omega, by
      rw [List.take_succ_eq_append_getElem hlt, hv_app, hv_cons]
      rintro (q | q | q)
      · exact hno q
      · exact hh q
      · exact hv_nil _ q⟩)
    refine idxW_of k rfl hlt (ifW_of (fun e => ifW_of (fun e2 => ?_) (fun e2 => go (fun f => by simp [f.2] at e2))) (fun e => ifW_f (go (fun f => by simp [f.1] at e))))
    rw [decide_eq_true (show hv l x from ⟨_, List.getElem_mem hlt, by simpa using e, by simpa using e2⟩)] at h
    exact h
  · have hge : l.length ≤ k := by simpa using hc
    rw [List.take_of_length_le hge] at hno
    rw [decide_eq_false hno] at h; exact h
end
section
open Go Go.Proofs

/-- a box of the reference -/
def bx (a : A4ListGSpan) : GBox := ⟨[a.x0, a.x1, a.x2, a.x3]⟩
theorem S_l10Empty {a : A4ListGSpan} {κ : Bool → Prop} (h : κ (em4 a)) : L_spec_l10Empty (bx a) κ := by
  obtain ⟨x0, x1, x2, x3⟩ := a
  simp only [em4] at h
  unfold L_spec_l10Empty
  refine ⟨5, ?_⟩
  refine ifW_t (idxW_of 0 rfl (by simp [bx]) (ifW_of (fun e => ?_) (fun e => addW_of (by decide) (by decide) ?_)))
  · have : x0 = [] := by simpa [bx] using e
    subst this; simpa using h
  have e0 : x0 ≠ [] := by simpa [bx] using e
  refine ifW_t (idxW_of 1 rfl (by simp [bx]) (ifW_of (fun e => ?_) (fun e => addW_of (by decide) (by decide) ?_)))
  · have : x1 = [] := by simpa [bx] using e
    subst this; simpa using h
  have e1 : x1 ≠ [] := by simpa [bx] using e
  refine ifW_t (idxW_of 2 rfl (by simp [bx]) (ifW_of (fun e => ?_) (fun e => addW_of (by decide) (by decide) ?_)))
  · have : x2 = [] := by simpa [bx] using e
    subst this; simpa using h
  have e2 : x2 ≠ [] := by simpa [bx] using e
  refine ifW_t (idxW_of 3 rfl (by simp [bx]) (ifW_of (fun e => ?_) (fun e => addW_of (by decide) (by decide) ?_)))
  · have : x3 = [] := by simpa [bx] using e
    subst this; simpa using h
  have e3 : x3 ≠ [] := by simpa [bx] using e
  refine ifW_f ?_
  simpa [e0, e1, e2, e3] using h
theorem S_BoxAll {κ : GBox → Prop} (h : κ (bx all4)) : L_spec_BoxAll κ := by
  unfold L_spec_BoxAll
  refine ⟨5, ?_⟩
  refine ifW_t ?_
  unfold jnW
  refine S_spec_FieldTop (n := (0 : Int)) (by decide) (by decide) (appW_of (by simp) (addW_of (by decide) (by decide) ?_))
  refine ifW_t ?_
  refine S_spec_FieldTop (n := (1 : Int)) (by decide) (by decide) (appW_of (by simp) (addW_of (by decide) (by decide) ?_))
  refine ifW_t ?_
  refine S_spec_FieldTop (n := (2 : Int)) (by decide) (by decide) (appW_of (by simp) (addW_of (by decide) (by decide) ?_))
  refine ifW_t ?_
  refine S_spec_FieldTop (n := (3 : Int)) (by decide) (by decide) (appW_of (by simp) (addW_of (by decide) (by decide) ?_))
  exact ifW_f h
theorem S_l1OwnRowsSpan {l : List (List GSpan)} (hl : l.length ≤ 4294967296) (hl2 : ∀ x ∈ l, x.length ≤ 4294967296) {κ : List (List GSpan) → Prop} (h : κ l) : L_spec_l1OwnRowsSpan l κ := by
  unfold L_spec_l1OwnRowsSpan
  refine count_loop l.length (fun s => s.2) (fun k s => s.2 = (k : Int) ∧ k ≤ l.length ∧ s.1 = l.take k) (fun k s h => h.1) (fun k s h => h.2.1) ?_ ⟨rfl, Nat.zero_le _, by simp⟩
  rintro k ⟨xs, t⟩ next ⟨rfl, hk, hx⟩ hn
  simp only at hx
  subst hx
  refine ifW_of (fun hc => ?_) (fun hc => ?_)
  · have hlt : k < l.length := by simpa using hc
    have := hl2 _ (List.getElem_mem hlt)
    refine idxW_of k rfl hlt (appW_of (by simp; omega) (appW_of (by simp only [List.length_take, List.length_singleton]; omega) (addW_of (by omega) (by omega) (hn hlt _ ⟨by simp, by omega, ?_⟩))))
    rw [List.take_succ_eq_append_getElem hlt]; rfl
  · have hge : l.length ≤ k := by simpa using hc
    rw [List.take_of_length_le hge]; exact h


end
section
open Go Go.Proofs

/-- the values for which a test holds -/
def tsp (t : GTest) : List GSpan := if t.xNot then otherF [GSpan.mk t.xLo t.xHi] (top t.xField) else [GSpan.mk t.xLo t.xHi]
theorem one_St {lo hi t : Int} (h0 : 0 ≤ lo) (h1 : lo ≤ hi) (h2 : hi ≤ t) : St [GSpan.mk lo hi] t := ⟨NF_one h1, fun s hs => by simp only [List.mem_singleton] at hs; subst hs; exact ⟨h0, h2⟩⟩
theorem tsp_St {t : GTest} (h : TV t) : St (tsp t) (top t.xField) := by
  obtain ⟨h1, h2, h3, h4, h5⟩ := h
  unfold tsp
  split
  · exact otherF_St (one_St h3 h4 h5)
  · exact one_St h3 h4 h5
theorem other1 (lo hi t : Int) : otherF [GSpan.mk lo hi] t = (if 0 < lo then [GSpan.mk 0 (lo - 1)] else []) ++ (if hi + 1 ≤ t then [GSpan.mk (hi + 1) t] else []) := rfl
theorem tsp_len (t : GTest) : (tsp t).length ≤ 2 := by
  unfold tsp
  split
  · rw [other1]; simp only [List.length_append]
    split <;> split <;> simp
  · simp
theorem meet1_len (a : List GSpan) (y : GSpan) : (meetF a [y]).length ≤ a.length := by
  induction a with
  | nil => simp [meetF]
  | cons x a ih =>
    have e : meetF (x :: a) [y] = cap1 x y ++ meetF a [y] := by simp [meetF]
    have h1 : (cap1 x y).length ≤ 1 := by unfold cap1; split <;> simp
    rw [e]; simp only [List.length_append, List.length_cons]; omega
theorem meet2_len {y1 y2 : GSpan} (hy : y1.xHi < y2.xLo) : ∀ {a : List GSpan}, NF a → (meetF a [y1, y2]).length ≤ a.length + 1
  | [], _ => by simp [meetF]
  | x :: a, h => by
    have e : meetF (x :: a) [y1, y2] = cap1 x y1 ++ cap1 x y2 ++ meetF a [y1, y2] := by simp [meetF]
    have h1 : ∀ y, (cap1 x y).length ≤ 1 := fun y => by unfold cap1; split <;> simp
    have ih := meet2_len hy (NF_tail h)
    rw [e]; simp only [List.length_append, List.length_cons]
    have i1 := h1 y1
    have i2 := h1 y2
    by_cases c : max x.xLo y2.xLo ≤ min x.xHi y2.xHi
    · have hg := (List.pairwise_cons.1 h.2).1
      have e2 : meetF a [y1, y2] = meetF a [y2] := by
        have : ∀ m : List GSpan, (∀ z ∈ m, y1.xHi < z.xLo) → meetF m [y1, y2] = meetF m [y2] := by
          intro m
          induction m with
          | nil => intro _; rfl
          | cons z m ihm =>
            intro hz
            have ez : cap1 z y1 = [] := by unfold cap1; rw [if_neg (by have := hz z (by simp); omega)]
            have := ihm (fun u hu => hz u (by simp [hu]))
            simp only [meetF, List.flatMap_cons, List.flatMap_nil, List.append_nil] at this ⊢
            rw [ez, this]; simp
        exact this a (fun z hz => by have := hg z hz; omega)
      have := meet1_len a y2
      rw [e2]; omega
    · have : cap1 x y2 = [] := by unfold cap1; rw [if_neg c]
      rw [this]; simp only [List.length_nil]; omega
theorem meet_len {a b : List GSpan} (ha : NF a) (hb : NF b) (h : b.length ≤ 2) : (meetF a b).length ≤ a.length + 1 := by
  match b, h, hb with
  | [], _, _ =>
    have : meetF a [] = [] := by simp [meetF]
    rw [this]; simp
  | [y], _, _ => have := meet1_len a y; omega
  | [y1, y2], _, hb =>
    have := (List.pairwise_cons.1 hb.2).1 y2 (by simp)
    exact meet2_len (by omega) ha
theorem S_TestSpans {t : GTest} (ht : TV t) {κ : List GSpan → Prop} (h : κ (tsp t)) : L_spec_TestSpans t κ := by
  have ht' := ht
  obtain ⟨h1, h2, h3, h4, h5⟩ := ht
  have := top_le t.xField
  unfold L_spec_TestSpans
  refine S_spec_TestValid ?_
  rw [decide_eq_true ht']
  refine ifW_f (ifW_of (fun e => ?_) (fun e => ?_))
  · unfold tsp at h; rw [if_pos e] at h
    exact S_spec_FieldTop h1 h2 (S_l2Other (one_St h3 h4 h5) (by omega) (by omega) h)
  · unfold tsp at h; rw [if_neg (by simpa using e)] at h
    exact h
-- the four sets by number
def L4 (a : A4ListGSpan) : List (List GSpan) := [a.x0, a.x1, a.x2, a.x3]
def get4 (a : A4ListGSpan) (f : Int) : List GSpan := if f = 0 then a.x0 else if f = 1 then a.x1 else if f = 2 then a.x2 else a.x3
def set4 (a : A4ListGSpan) (f : Int) (x : List GSpan) : A4ListGSpan := if f = 0 then ⟨x, a.x1, a.x2, a.x3⟩ else if f = 1 then ⟨a.x0, x, a.x2, a.x3⟩ else if f = 2 then ⟨a.x0, a.x1, x, a.x3⟩ else ⟨a.x0, a.x1, a.x2, x⟩
theorem idx4 {a : A4ListGSpan} {f : Int} {κ : List GSpan → Prop} (h0 : 0 ≤ f) (h1 : f ≤ 3) (h : κ (get4 a f)) : idxW (L4 a) f κ := by
  rcases four h0 h1 with rfl | rfl | rfl | rfl
  · exact idxW_of 0 rfl (by simp [L4]) h
  · exact idxW_of 1 rfl (by simp [L4]) h
  · exact idxW_of 2 rfl (by simp [L4]) h
  · exact idxW_of 3 rfl (by simp [L4]) h
theorem set4_L4 {a : A4ListGSpan} {f : Int} {x : List GSpan} (h0 : 0 ≤ f) (h1 : f ≤ 3) : (L4 a).set f.toNat x = L4 (set4 a f x) := by
  rcases four h0 h1 with rfl | rfl | rfl | rfl <;> rfl
theorem get4_St {a : A4ListGSpan} (ha : B4 a) {f : Int} (h0 : 0 ≤ f) (h1 : f ≤ 3) : St (get4 a f) (top f) := by
  obtain ⟨p0, p1, p2, p3⟩ := ha
  rcases four h0 h1 with rfl | rfl | rfl | rfl
  · exact p0
  · exact p1
  · exact p2
  · exact p3
theorem set4_B4 {a : A4ListGSpan} (ha : B4 a) {f : Int} (h0 : 0 ≤ f) (h1 : f ≤ 3) {x : List GSpan} (hx : St x (top f)) : B4 (set4 a f x) := by
  obtain ⟨p0, p1, p2, p3⟩ := ha
  rcases four h0 h1 with rfl | rfl | rfl | rfl
  · exact ⟨hx, p1, p2, p3⟩
  · exact ⟨p0, hx, p2, p3⟩
  · exact ⟨p0, p1, hx, p3⟩
  · exact ⟨p0, p1, p2, hx⟩
/-- no set has more than n ranges -/
def le4 (a : A4ListGSpan) (n : Nat) : Prop := ∀ f, 0 ≤ f → f ≤ 3 → (get4 a f).length ≤ n
theorem le4_set {a : A4ListGSpan} {n m : Nat} (h : le4 a n) {f : Int} (h0 : 0 ≤ f) (h1 : f ≤ 3) {x : List GSpan} (hx : x.length ≤ m) (hm : n ≤ m) : le4 (set4 a f x) m := by
  intro g g0 g1
  have k := h g g0 g1
  rcases four h0 h1 with rfl | rfl | rfl | rfl <;> rcases four g0 g1 with rfl | rfl | rfl | rfl <;> first | exact hx | exact Nat.le_trans k hm
theorem le4_F4 {a : A4ListGSpan} (h : le4 a 40) : F4 a := ⟨h 0 (by decide) (by decide), h 1 (by decide) (by decide), h 2 (by decide) (by decide), h 3 (by decide) (by decide)⟩
def tst1 (a : A4ListGSpan) (t : GTest) : A4ListGSpan := set4 a t.xField (meetF (get4 a t.xField) (tsp t))
/-- the box of tests -/
def boxT (ts : List GTest) : A4ListGSpan := ts.foldl tst1 all4
theorem boxT_go : ∀ (ts : List GTest) (a : A4ListGSpan) (n : Nat), (∀ t ∈ ts, TV t) → B4 a → le4 a n → B4 (ts.foldl tst1 a) ∧ le4 (ts.foldl tst1 a) (n + ts.length)
  | [], a, n, _, ha, hn => ⟨ha, hn⟩
  | t :: ts, a, n, h, ha, hn => by
    have ht := h t (by simp)
    have hs := get4_St ha ht.1 ht.2.1
    have := boxT_go ts (tst1 a t) (n + 1) (fun u hu => h u (by simp [hu])) (set4_B4 ha ht.1 ht.2.1 (meetF_St hs (tsp_St ht).1))
      (le4_set hn ht.1 ht.2.1 (Nat.le_trans (meet_len hs.1 (tsp_St ht).1 (tsp_len t)) (by have := hn _ ht.1 ht.2.1; omega)) (by omega))
    refine ⟨this.1, ?_⟩
    have e : n + (t :: ts).length = n + 1 + ts.length := by simp only [List.length_cons]; omega
    rw [e]; exact this.2
theorem all4_le : le4 all4 1 := fun f h0 h1 => by
  rcases four h0 h1 with rfl | rfl | rfl | rfl <;> decide
theorem boxT_B4 {ts : List GTest} (h : ∀ t ∈ ts, TV t) : B4 (boxT ts) := (boxT_go ts all4 1 h all4_B4 all4_le).1
theorem boxT_le {ts : List GTest} (h : ∀ t ∈ ts, TV t) : le4 (boxT ts) (1 + ts.length) := (boxT_go ts all4 1 h all4_B4 all4_le).2
theorem boxT_snoc (ts : List GTest) (t : GTest) : boxT (ts ++ [t]) = tst1 (boxT ts) t := by simp [boxT]
theorem S_TestsBox {ts : List GTest} (hts : TsV ts) {κ : GBox → Prop} (hκ : κ (bx (boxT ts))) : L_spec_TestsBox ts κ := by
  have h := hts.1
  have hl := hts.2
  unfold L_spec_TestsBox
  refine S_spec_TestsValid (by omega) ?_
  rw [decide_eq_true hts]
  refine ifW_f (S_BoxAll ?_)
  refine count_loop ts.length (fun s => s.2) (fun k s => s.2 = (k : Int) ∧ k ≤ ts.length ∧ s.1 = L4 (boxT (ts.take k))) (fun k s h => h.1) (fun k s h => h.2.1) ?_ ⟨rfl, Nat.zero_le _, by simp [boxT, L4, bx]⟩
  rintro k ⟨xs, t⟩ next ⟨rfl, hk, hx⟩ hn
  simp only at hx
  subst hx
  refine ifW_of (fun hc => ?_) (fun hc => ?_)
  · have hlt : k < ts.length := by simpa using hc
    have ht := h _ (List.getElem_mem hlt)
    have hpre : ∀ t ∈ ts.take k, TV t := fun t ht => h t (List.mem_of_mem_take ht)
    have hb := boxT_B4 hpre
    have hs := get4_St hb ht.1 ht.2.1
    have htop := top_le ts[k].xField
    refine idxW_of k rfl hlt ?_
    unfold jnW
    refine idxW_of k rfl hlt ?_
    have fin : L_spec_l2Meet (get4 (boxT (ts.take k)) ts[k].xField) (tsp ts[k]) (fun r40 => idxW (L4 (boxT (ts.take k))) ts[k].xField (fun e42 => addW (k : Int) 1 (fun t58 => next ((L4 (boxT (ts.take k))).set (ts[k].xField).toNat r40, t58)))) := by
      refine S_l2Meet hs (tsp_St ht) (by omega) (by omega) (by omega) (by omega) ?_
      refine idx4 ht.1 ht.2.1 (addW_of (by omega) (by omega) (hn hlt _ ⟨by simp, by omega, ?_⟩))
      simp only
      rw [set4_L4 ht.1 ht.2.1, List.take_succ_eq_append_getElem hlt, boxT_snoc]; rfl
    exact ⟨idx4 ht.1 ht.2.1 (S_TestSpans ht fin), S_TestSpans ht (idx4 ht.1 ht.2.1 fin)⟩
  · have hge : ts.length ≤ k := by simpa using hc
    rw [List.take_of_length_le hge]
    exact hκ
-- what is cut off
theorem jnW_i {σ : Type} {K : σ → Prop} {B : (σ → Prop) → Prop} (h : B K) : jnW K B := h
end
section
open Go Go.Proofs

theorem four_nat {k : Nat} (h : k < 4) : k = 0 ∨ k = 1 ∨ k = 2 ∨ k = 3 := by omega
end
section


def pv (p : GPacket) : Prop := (0 ≤ p.xFrom ∧ p.xFrom ≤ 65535) ∧ (0 ≤ p.xTo ∧ p.xTo ≤ 65535) ∧ (0 ≤ p.xPort ∧ p.xPort ≤ 255) ∧ (0 ≤ p.xProto ∧ p.xProto ≤ 7)
instance (p : GPacket) : Decidable (pv p) := by unfold pv; infer_instance
def tv (t : Int) : Prop := 0 ≤ t ∧ t ≤ 1000000
instance (t : Int) : Decidable (tv t) := by unfold tv; infer_instance

/-! packets -/
theorem S_fieldTop {n : Int} (h0 : 0 ≤ n) (h1 : n < 4) {κ : Int → Prop} (h : κ (if n ≤ 1 then 65535 else if n = 2 then 255 else 7)) : L_impl_FieldTop n κ := by
  unfold L_impl_FieldTop jnW
  refine ifW_of (fun hc => by simp at hc; omega) (fun _ => ifW_of (fun hc => by simp at hc; omega) (fun _ => ?_))
  have : n = 0 ∨ n = 1 ∨ n = 2 ∨ n = 3 := by omega
  rcases this with rfl | rfl | rfl | rfl
  · exact idxW_of 0 rfl (by simp [gl_impl_fieldShapes]) (by simpa [gl_impl_fieldShapes] using h)
  · exact idxW_of 1 rfl (by simp [gl_impl_fieldShapes]) (by simpa [gl_impl_fieldShapes] using h)
  · exact idxW_of 2 rfl (by simp [gl_impl_fieldShapes]) (by simpa [gl_impl_fieldShapes] using h)
  · exact idxW_of 3 rfl (by simp [gl_impl_fieldShapes]) (by simpa [gl_impl_fieldShapes] using h)
def fieldP (p : GPacket) : Nat → Int
  | 0 => p.xFrom
  | 1 => p.xTo
  | 2 => p.xPort
  | _ => p.xProto
def topP : Nat → Int
  | 0 => 65535
  | 1 => 65535
  | 2 => 255
  | _ => 7
theorem pv_iff (p : GPacket) : pv p ↔ ∀ i, i < 4 → 0 ≤ fieldP p i ∧ fieldP p i ≤ topP i := by
  unfold pv
  constructor
  · rintro ⟨h0, h1, h2, h3⟩ i hi
    match i, hi with
    | 0, _ => exact h0
    | 1, _ => exact h1
    | 2, _ => exact h2
    | 3, _ => exact h3
  · intro h
    exact ⟨h 0 (by omega), h 1 (by omega), h 2 (by omega), h 3 (by omega)⟩
theorem S_PacketValid {p : GPacket} {κ : Bool → Prop} (h : κ (decide (pv p))) : L_impl_PacketValid p κ := by
  unfold L_impl_PacketValid L_impl_Packet_fields
  refine count_loop 4 (fun s => s) (fun k s => s = (k : Int) ∧ k ≤ 4 ∧ ∀ i, i < k → 0 ≤ fieldP p i ∧ fieldP p i ≤ topP i) (fun k s h => h.1) (fun k s h => h.2.1) ?_ ⟨rfl, by omega, fun i hi => by omega⟩
  rintro k _ next ⟨rfl, hk, hi⟩ hn
  refine ifW_of (fun hlt => ?_) (fun hge => ?_)
  · have hlt : k < 4 := by simp at hlt; omega
    have hno : ¬ (0 ≤ fieldP p k ∧ fieldP p k ≤ topP k) → κ false := fun hno => by
      rw [decide_eq_false (fun hv => hno ((pv_iff p).1 hv k hlt))] at h
      exact h
    refine idxW_of k rfl (by simpa using hlt) ?_
    have e : ([p.xFrom, p.xTo, p.xPort, p.xProto] : List Int)[k]'(by simpa using hlt) = fieldP p k := by
      match k, hlt with
      | 0, _ => rfl
      | 1, _ => rfl
      | 2, _ => rfl
      | 3, _ => rfl
    simp only [e]
    unfold jnW
    refine ifW_of (fun hc => ?_) (fun hc => S_fieldTop (by omega) (by omega) ?_)
    · simp only [ifW_true]; exact hno (by simp at hc; omega)
    · have et : (if (k : Int) ≤ 1 then (65535 : Int) else if (k : Int) = 2 then 255 else 7) = topP k := by
        match k, hlt with
        | 0, _ => rfl
        | 1, _ => rfl
        | 2, _ => rfl
        | 3, _ => rfl
      rw [et]
      refine ifW_of (fun h2 => hno (by simp at h2; omega)) (fun h2 => addW_of (by omega) (by omega) (hn hlt _ ⟨by simp, by omega, fun i hi' => ?_⟩))
      by_cases e : i = k
      · subst e; simp at hc h2; exact ⟨hc, h2⟩
      · exact hi i (by omega)
  · have : k = 4 := by simp at hge; omega
    subst this
    rw [decide_eq_true ((pv_iff p).2 hi)] at h
    exact h
def lv (t : Int) : Prop := 0 ≤ t ∧ t ≤ 1000
instance (t : Int) : Decidable (lv t) := by unfold lv; infer_instance
/-! flows -/
end
section
open Go Go.Proofs

/-- a valid box -/
def BV (b : GBox) : Prop := ∃ a, b = bx a ∧ B4 a ∧ F4 a
noncomputable instance (b : GBox) : Decidable (BV b) := Classical.propDecidable _
/-- its four sets -/
def sd (b : GBox) : A4ListGSpan := match b.xSides with | [x0, x1, x2, x3] => ⟨x0, x1, x2, x3⟩ | _ => nil4
theorem sd_bx (a : A4ListGSpan) : sd (bx a) = a := rfl
theorem BV.eq {b : GBox} (h : BV b) : b = bx (sd b) := by obtain ⟨a, rfl, _⟩ := h; rfl
theorem BV.b4 {b : GBox} (h : BV b) : B4 (sd b) := by obtain ⟨a, rfl, h, _⟩ := h; exact h
theorem BV.f4 {b : GBox} (h : BV b) : F4 (sd b) := by obtain ⟨a, rfl, _, h⟩ := h; exact h
theorem BV_bx {a : A4ListGSpan} : BV (bx a) ↔ B4 a ∧ F4 a := ⟨fun h => ⟨h.b4, h.f4⟩, fun h => ⟨a, rfl, h⟩⟩
theorem BV_len {b : GBox} (h : BV b) : b.xSides.length = 4 := by obtain ⟨a, rfl, _⟩ := h; rfl
theorem list4 {α : Type} {l : List α} (h : l.length = 4) : ∃ a b c d, l = [a, b, c, d] := by
  match l, h with
  | [a, b, c, d], _ => exact ⟨a, b, c, d, rfl⟩
theorem box4 {b : GBox} (h : b.xSides.length = 4) : b = bx (sd b) := by
  obtain ⟨x0, x1, x2, x3, e⟩ := list4 h
  obtain ⟨s⟩ := b
  simp only at e
  subst e
  rfl
theorem BV_iff {a : A4ListGSpan} : BV (bx a) ↔ ∀ n : Nat, n < 4 → SpV (get4 a n) (top n) := by
  rw [BV_bx]
  constructor
  · rintro ⟨⟨b0, b1, b2, b3⟩, f0, f1, f2, f3⟩ n hn
    rcases four_nat hn with rfl | rfl | rfl | rfl
    · exact ⟨f0, b0⟩
    · exact ⟨f1, b1⟩
    · exact ⟨f2, b2⟩
    · exact ⟨f3, b3⟩
  · intro h
    obtain ⟨f0, b0⟩ := h 0 (by decide)
    obtain ⟨f1, b1⟩ := h 1 (by decide)
    obtain ⟨f2, b2⟩ := h 2 (by decide)
    obtain ⟨f3, b3⟩ := h 3 (by decide)
    exact ⟨⟨b0, b1, b2, b3⟩, f0, f1, f2, f3⟩
/-- lengths in range -/
def Bb (b : GBox) : Prop := b.xSides.length ≤ 4294967296 ∧ ∀ x ∈ b.xSides, x.length ≤ 4294967296
def Fb (l : List GFlat) : Prop := l.length ≤ 4294967296 ∧ ∀ f ∈ l, Bb f.xWhere
theorem BV.bb {b : GBox} (h : BV b) : Bb b := by
  obtain ⟨a, rfl, _, f0, f1, f2, f3⟩ := h
  refine ⟨by simp [bx], fun x hx => ?_⟩
  simp only [bx, List.mem_cons, List.not_mem_nil, or_false] at hx
  rcases hx with rfl | rfl | rfl | rfl <;> omega
theorem get4_mem (a : A4ListGSpan) {n : Nat} (h : n < 4) : get4 a n ∈ (bx a).xSides := by
  rcases four_nat h with rfl | rfl | rfl | rfl <;> simp [get4, bx]
theorem S_impl_BoxValid {b : GBox} (hb : Bb b) {κ : Bool → Prop} (h : κ (decide (BV b))) : L_impl_BoxValid b κ := by
  unfold L_impl_BoxValid
  have h1 := hb.1
  refine ifW_of (fun e => ?_) (fun e => ?_)
  · have e' : ¬ b.xSides.length = 4 := fun q => by rw [q] at e; simp at e
    rw [decide_eq_false (fun q => e' (BV_len q))] at h; exact h
  have e4 : b.xSides.length = 4 := by
    have : (b.xSides.length : Int) = 4 := by simpa using e
    omega
  obtain ⟨a, rfl⟩ : ∃ a, b = bx a := ⟨_, box4 e4⟩
  clear e e4
  refine count_loop 4 (fun s => s) (fun k s => s = (k : Int) ∧ k ≤ 4 ∧ ∀ n : Nat, n < k → SpV (get4 a n) (top n)) (fun k s h => h.1) (fun k s h => h.2.1) ?_ ⟨rfl, by omega, fun n h => by omega⟩
  rintro k _ next ⟨rfl, hk, hv⟩ hn
  refine ifW_of (fun hc => ?_) (fun hc => ?_)
  · have hlt : k < 4 := by
      have : (k : Int) < 4 := by simpa [bx] using hc
      omega
    have k0 : (0 : Int) ≤ k := by omega
    have k3 : (k : Int) ≤ 3 := by omega
    have tl := top_le k
    refine idx4 k0 k3 (S_top k0 k3 (S_impl_SpansValid (by have := hb.2 _ (get4_mem a hlt); omega) (by omega) (by omega) (ifW_of (fun e => ?_) (fun e => ?_))))
    · have : ¬ SpV (get4 a k) (top k) := by simpa using e
      rw [decide_eq_false (fun q => this (BV_iff.1 q k hlt))] at h; exact h
    · have : SpV (get4 a k) (top k) := by simpa using e
      refine addW_of (by omega) (by omega) (hn hlt _ ⟨by simp, by omega, fun n hnk => ?_⟩)
      by_cases q : n = k
      · subst q; exact this
      · exact hv n (by omega)
  · have hge : k = 4 := by
      have : (4 : Int) ≤ k := by simpa [bx] using hc
      omega
    subst hge
    rw [decide_eq_true (BV_iff.2 hv)] at h; exact h
theorem S_spec_BoxValid {b : GBox} (hb : Bb b) {κ : Bool → Prop} (h : κ (decide (BV b))) : L_spec_BoxValid b κ := by
  unfold L_spec_BoxValid
  have h1 := hb.1
  refine count_loop b.xSides.length (fun s => s) (fun k s => s = (k : Int) ∧ k ≤ b.xSides.length ∧ k ≤ 4 ∧ ∀ n : Nat, n < k → ∀ q : n < b.xSides.length, SpV (b.xSides[n]) (top n)) (fun k s h => h.1) (fun k s h => h.2.1) ?_ ⟨rfl, by omega, by omega, fun n h => by omega⟩
  rintro k _ next ⟨rfl, hk, hk4, hv⟩ hn
  refine ifW_of (fun hc => ?_) (fun hc => ?_)
  · have hlt : k < b.xSides.length := by simpa using hc
    refine jnW_i (ifW_of (fun e => ?_) (fun e => ?_))
    · have e' : 4 ≤ k := by
        have : (4 : Int) ≤ k := by simpa using e
        omega
      rw [decide_eq_false (fun q => by have := BV_len q; omega)] at h
      exact ifW_t h
    have e' : k < 4 := by
      have : ¬ (4 : Int) ≤ k := by simpa using e
      omega
    have k0 : (0 : Int) ≤ k := by omega
    have k3 : (k : Int) ≤ 3 := by omega
    have tl := top_le k
    refine idxW_of k rfl hlt (S_spec_FieldTop k0 k3 (S_spec_SpansValid (hb.2 _ (List.getElem_mem hlt)) (by omega) (by omega) (ifW_of (fun e => ?_) (fun e => ?_))))
    · have no : ¬ SpV (b.xSides[k]) (top k) := by simpa using e
      rw [decide_eq_false (fun q => no ?_)] at h
      · exact h
      · obtain ⟨a, rfl, _⟩ := id q
        have := BV_iff.1 q k e'
        have e2 : (bx a).xSides[k] = get4 a k := by rcases four_nat e' with rfl | rfl | rfl | rfl <;> rfl
        rw [e2]; exact this
    · have yes : SpV (b.xSides[k]) (top k) := by simpa using e
      refine addW_of (by omega) (by omega) (hn hlt _ ⟨by simp, by omega, by omega, fun n hnk q => ?_⟩)
      by_cases e : n = k
      · subst e; exact yes
      · exact hv n (by omega) q
  · have hge : b.xSides.length = k := by
      have : b.xSides.length ≤ k := by simpa using hc
      omega
    have : decide (BV b) = decide ((b.xSides.length : Int) = 4) := decide_eq_decide.2 ⟨fun q => by have := BV_len q; omega, fun q => by
      have e4 : b.xSides.length = 4 := by omega
      obtain ⟨a, rfl⟩ : ∃ a, b = bx a := ⟨_, box4 e4⟩
      refine BV_iff.2 (fun n hn4 => ?_)
      have := hv n (by omega) (by simpa [bx] using hn4)
      have e2 : (bx a).xSides[n]'(by simpa [bx] using hn4) = get4 a n := by rcases four_nat hn4 with rfl | rfl | rfl | rfl <;> rfl
      rw [e2] at this; exact this⟩
    rw [this] at h; exact h
/-- valid rules without calls -/
def FV (l : List GFlat) : Prop := l.length ≤ 60 ∧ ∀ f ∈ l, BV f.xWhere
noncomputable instance (l : List GFlat) : Decidable (FV l) := Classical.propDecidable _
theorem FV.fb {l : List GFlat} (h : FV l) : Fb l := ⟨by have := h.1; omega, fun f hf => (h.2 f hf).bb⟩
theorem S_impl_FlatsValid {l : List GFlat} (hl : Fb l) {κ : Bool → Prop} (h : κ (decide (FV l))) : L_impl_FlatsValid l κ := by
  unfold L_impl_FlatsValid
  have h1 := hl.1
  refine ifW_of (fun e => ?_) (fun e => ?_)
  · rw [decide_eq_false (fun q => by have := q.1; simp at e; omega)] at h; exact h
  have h60 : l.length ≤ 60 := by simp at e; omega
  refine count_loop l.length (fun s => s) (fun k s => s = (k : Int) ∧ k ≤ l.length ∧ ∀ f ∈ l.take k, BV f.xWhere) (fun k s h => h.1) (fun k s h => h.2.1) ?_ ⟨rfl, by omega, by simp⟩
  rintro k _ next ⟨rfl, hk, hv⟩ hn
  refine ifW_of (fun hc => ?_) (fun hc => ?_)
  · have hlt : k < l.length := by simpa using hc
    refine idxW_of k rfl hlt (S_impl_BoxValid (hl.2 _ (List.getElem_mem hlt)) (ifW_of (fun e => ?_) (fun e => ?_)))
    · have : ¬ BV (l[k].xWhere) := by simpa using e
      rw [decide_eq_false (fun q => this (q.2 _ (List.getElem_mem hlt)))] at h; exact h
    · have : BV (l[k].xWhere) := by simpa using e
      refine addW_of (by omega) (by omega) (hn hlt _ ⟨by simp, by omega, fun f hf => ?_⟩)
      rw [List.take_succ_eq_append_getElem hlt] at hf
      rcases List.mem_append.1 hf with q | q
      · exact hv f q
      · simp only [List.mem_singleton] at q; rw [q]; exact this
  · have hge : l.length ≤ k := by simpa using hc
    rw [List.take_of_length_le hge] at hv
    rw [decide_eq_true (show FV l from ⟨h60, hv⟩)] at h; exact h
theorem S_spec_FlatsValid {l : List GFlat} (hl : Fb l) {κ : Bool → Prop} (h : κ (decide (FV l))) : L_spec_FlatsValid l κ := by
  unfold L_spec_FlatsValid
  have h1 := hl.1
  refine count_loop l.length (fun s => s) (fun k s => s = (k : Int) ∧ k ≤ l.length ∧ ∀ f ∈ l.take k, BV f.xWhere) (fun k s h => h.1) (fun k s h => h.2.1) ?_ ⟨rfl, by omega, by simp⟩
  rintro k _ next ⟨rfl, hk, hv⟩ hn
  refine ifW_of (fun hc => ?_) (fun hc => ?_)
  · have hlt : k < l.length := by simpa using hc
    refine idxW_of k rfl hlt (S_spec_BoxValid (hl.2 _ (List.getElem_mem hlt)) (ifW_of (fun e => ?_) (fun e => ?_)))
    · have : ¬ BV (l[k].xWhere) := by simpa using e
      rw [decide_eq_false (fun q => this (q.2 _ (List.getElem_mem hlt)))] at h; exact h
    · have : BV (l[k].xWhere) := by simpa using e
      refine addW_of (by omega) (by omega) (hn hlt _ ⟨by simp, by omega, fun f hf => ?_⟩)
      rw [List.take_succ_eq_append_getElem hlt] at hf
      rcases List.mem_append.1 hf with q | q
      · exact hv f q
      · simp only [List.mem_singleton] at q; rw [q]; exact this
  · have hge : l.length ≤ k := by simpa using hc
    rw [List.take_of_length_le hge] at hv
    rw [show decide (FV l) = decide ((l.length : Int) ≤ 60) from decide_eq_decide.2 ⟨fun q => by have := q.1; omega, fun q => ⟨by omega, hv⟩⟩] at h; exact h
-- the program's form of boxes
theorem S_sidesOf {b : GBox} (hb : b.xSides.length = 4) {κ : A4ListGSpan → Prop} (h : κ (sd b)) : L_impl_sidesOf b κ := by
  have e := box4 hb
  rw [e] at h ⊢
  exact ⟨_, _, _, _, [], rfl, h⟩
def fl (f : GFlat) : GIflat := ⟨sd f.xWhere, f.xAccept⟩
/-- a list built up element by element -/
theorem build_loop {α β : Type} (a : List α) (f : α → β) (hl : a.length ≤ 4294967296) {κ : List β → Prop} (T : α → (β → Prop) → Prop) (hT : ∀ x ψ, x ∈ a → ψ (f x) → T x ψ) (hκ : κ (a.map f))
    (F : (List β × Int → Prop) → List β × Int → Prop)
    (hF : ∀ nx xs t, (ifW (decide (t < (a.length : Int))) (idxW a t (fun e => T e (fun r => appW xs [r] (fun _ => addW t 1 (fun u => nx (xs ++ [r], u)))))) (κ xs)) → F nx (xs, t)) : loopW F ([], 0) := by
  refine count_loop a.length (fun s => s.2) (fun k s => s.2 = (k : Int) ∧ k ≤ a.length ∧ s.1 = (a.take k).map f) (fun k s h => h.1) (fun k s h => h.2.1) ?_ ⟨rfl, Nat.zero_le _, by simp⟩
  rintro k ⟨ys, t⟩ next ⟨rfl, hk, hy⟩ hn
  simp only at hy
  subst hy
  refine hF _ _ _ (ifW_of (fun hc => ?_) (fun hc => ?_))
  · have hlt : k < a.length := by simpa using hc
    refine idxW_of k rfl hlt (hT _ _ (List.getElem_mem hlt) (appW_of (by simp; omega) (addW_of (by omega) (by omega) (hn hlt _ ⟨by simp, by omega, ?_⟩))))
    rw [List.take_succ_eq_append_getElem hlt, List.map_append]; rfl
  · have hge : a.length ≤ k := by simpa using hc
    rw [List.take_of_length_le hge]; exact hκ
theorem S_flatsOf {l : List GFlat} (hl : l.length ≤ 4294967296) (h4 : ∀ f ∈ l, f.xWhere.xSides.length = 4) {κ : List GIflat → Prop} (h : κ (l.map fl)) : L_impl_flatsOf l κ := by
  unfold L_impl_flatsOf
  refine makeW_of 0 rfl (by omega) (by omega) ?_
  exact build_loop l fl hl (fun x ψ => L_impl_sidesOf x.xWhere (fun r => ψ (GIflat.mk r x.xAccept))) (fun x ψ hx hψ => S_sidesOf (h4 x hx) hψ) h _ (fun nx xs t hh => hh)
theorem S_wheres {l : List GIflat} (hl : l.length ≤ 4294967296) {κ : List A4ListGSpan → Prop} (h : κ (l.map (·.xWhere))) : L_impl_wheres l κ := by
  unfold L_impl_wheres
  refine makeW_of 0 rfl (by omega) (by omega) ?_
  exact build_loop l (·.xWhere) hl (fun x ψ => ψ x.xWhere) (fun x ψ hx hψ => hψ) h _ (fun nx xs t hh => hh)
theorem S_box {a : A4ListGSpan} (hl : ∀ x ∈ L4 a, x.length ≤ 4294967296) {κ : GBox → Prop} (h : κ (bx a)) : L_impl_sides_box a κ := by
  unfold L_impl_sides_box
  refine makeW_of 4 rfl (by decide) (by decide) ?_
  obtain ⟨x0, x1, x2, x3⟩ := a
  have l0 := hl x0 (by simp [L4])
  have l1 := hl x1 (by simp [L4])
  have l2 := hl x2 (by simp [L4])
  have l3 := hl x3 (by simp [L4])
  refine ⟨5, ?_⟩
  refine ifW_t (idxW_of 0 rfl (by simp) (appW_of (by simpa using l0) (idxW_of 0 rfl (by simp) (addW_of (by decide) (by decide) ?_))))
  refine ifW_t (idxW_of 1 rfl (by simp) (appW_of (by simpa using l1) (idxW_of 1 rfl (by simp) (addW_of (by decide) (by decide) ?_))))
  refine ifW_t (idxW_of 2 rfl (by simp) (appW_of (by simpa using l2) (idxW_of 2 rfl (by simp) (addW_of (by decide) (by decide) ?_))))
  refine ifW_t (idxW_of 3 rfl (by simp) (appW_of (by simpa using l3) (idxW_of 3 rfl (by simp) (addW_of (by decide) (by decide) ?_))))
  exact ifW_f h
theorem S_boxesOf {l : List A4ListGSpan} (hl : l.length ≤ 4294967296) (h4 : ∀ a ∈ l, ∀ x ∈ L4 a, x.length ≤ 4294967296) {κ : List GBox → Prop} (h : κ (l.map bx)) : L_impl_boxesOf l κ := by
  unfold L_impl_boxesOf
  refine makeW_of 0 rfl (by omega) (by omega) ?_
  exact build_loop l bx hl (fun x ψ => L_impl_sides_box x ψ) (fun x ψ hx hψ => S_box (h4 x hx) hψ) h _ (fun nx xs t hh => hh)
theorem F4_L4 {a : A4ListGSpan} (h : F4 a) : ∀ x ∈ L4 a, x.length ≤ 4294967296 := fun x hx => by
  obtain ⟨f0, f1, f2, f3⟩ := h
  simp only [L4, List.mem_cons, List.not_mem_nil, or_false] at hx
  rcases hx with rfl | rfl | rfl | rfl <;> omega
theorem S_impl_FlatBoxes {l : List GFlat} (hl : Fb l) {κ : List GBox → Prop} (h1 : FV l → κ (l.map (·.xWhere))) (h2 : ¬ FV l → κ []) : L_impl_FlatBoxes l κ := by
  unfold L_impl_FlatBoxes
  refine S_impl_FlatsValid hl (ifW_of (fun e => h2 (by simpa using e)) (fun e => ?_))
  have hv : FV l := by simpa using e
  have := hl.1
  refine S_flatsOf hl.1 (fun f hf => BV_len (hv.2 f hf)) (S_wheres (by simpa using hl.1) (S_boxesOf (by simpa using hl.1) (fun a ha => ?_) ?_))
  · simp only [List.map_map, List.mem_map, Function.comp] at ha
    obtain ⟨f, hf, rfl⟩ := ha
    exact F4_L4 (hv.2 f hf).f4
  · have e : ((l.map fl).map (·.xWhere)).map bx = l.map (·.xWhere) := by
      simp only [List.map_map]
      refine List.map_congr_left (fun f hf => ?_)
      exact ((hv.2 f hf).eq).symm
    rw [e]; exact h1 hv
-- the reference's copies
theorem S_l1OwnBox {b : GBox} (hb : Bb b) {κ : GBox → Prop} (h : κ b) : L_spec_l1OwnBox b κ := S_l1OwnRowsSpan hb.1 hb.2 h
theorem S_l1OwnFlat {f : GFlat} (hb : Bb f.xWhere) {κ : GFlat → Prop} (h : κ f) : L_spec_l1OwnFlat f κ := S_l1OwnBox hb h
theorem S_l1OwnFlatList {l : List GFlat} (hl : Fb l) {κ : List GFlat → Prop} (h : κ l) : L_spec_l1OwnFlatList l κ := by
  unfold L_spec_l1OwnFlatList
  exact build_loop l id hl.1 (fun x ψ => L_spec_l1OwnFlat x ψ) (fun x ψ hx hψ => S_l1OwnFlat (hl.2 x hx) hψ) (by simpa using h) _ (fun nx xs t hh => hh)
/-! ### what a box has -/
def hb4 (a : A4ListGSpan) (p : GPacket) : Prop := hv a.x0 p.xFrom ∧ hv a.x1 p.xTo ∧ hv a.x2 p.xPort ∧ hv a.x3 p.xProto
instance (a : A4ListGSpan) (p : GPacket) : Decidable (hb4 a p) := by unfold hb4; infer_instance
theorem hb4_iff (a : A4ListGSpan) (p : GPacket) : hb4 a p ↔ ∀ n : Nat, n < 4 → hv (get4 a n) (fieldP p n) := by
  constructor
  · rintro ⟨h0, h1, h2, h3⟩ n hn
    rcases four_nat hn with rfl | rfl | rfl | rfl
    · exact h0
    · exact h1
    · exact h2
    · exact h3
  · intro h
    exact ⟨h 0 (by decide), h 1 (by decide), h 2 (by decide), h 3 (by decide)⟩
theorem fields4 (p : GPacket) {n : Nat} (h : n < 4) {κ : Int → Prop} (hk : κ (fieldP p n)) : idxW [p.xFrom, p.xTo, p.xPort, p.xProto] (n : Int) κ := by
  rcases four_nat h with rfl | rfl | rfl | rfl
  · exact idxW_of 0 rfl (by simp) hk
  · exact idxW_of 1 rfl (by simp) hk
  · exact idxW_of 2 rfl (by simp) hk
  · exact idxW_of 3 rfl (by simp) hk
theorem S_has {a : A4ListGSpan} {p : GPacket} (hl : ∀ x ∈ L4 a, x.length ≤ 4294967296) {κ : Bool → Prop} (h : κ (decide (hb4 a p))) : L_impl_sides_has a p κ := by
  unfold L_impl_sides_has L_impl_Packet_fields
  refine count_loop 4 (fun s => s) (fun k s => s = (k : Int) ∧ k ≤ 4 ∧ ∀ n : Nat, n < k → hv (get4 a n) (fieldP p n)) (fun k s h => h.1) (fun k s h => h.2.1) ?_ ⟨rfl, by omega, fun n h => by omega⟩
  rintro k _ next ⟨rfl, hk, hw⟩ hn
  refine ifW_of (fun hc => ?_) (fun hc => ?_)
  · have hlt : k < 4 := by
      have : (k : Int) < 4 := by simpa using hc
      omega
    have k0 : (0 : Int) ≤ k := by omega
    have k3 : (k : Int) ≤ 3 := by omega
    refine fields4 p hlt (idx4 k0 k3 (S_impl_SpansHave (hl _ (get4_mem a hlt)) (ifW_of (fun e => ?_) (fun e => ?_))))
    · have : ¬ hv (get4 a k) (fieldP p k) := by simpa using e
      rw [decide_eq_false (fun q => this ((hb4_iff a p).1 q k hlt))] at h; exact h
    · have : hv (get4 a k) (fieldP p k) := by simpa using e
      refine addW_of (by omega) (by omega) (hn hlt _ ⟨by simp, by omega, fun n hnk => ?_⟩)
      by_cases q : n = k
      · subst q; exact this
      · exact hw n (by omega)
  · have hge : k = 4 := by
      have : (4 : Int) ≤ k := by simpa using hc
      omega
    subst hge
    rw [decide_eq_true ((hb4_iff a p).2 hw)] at h; exact h
end
section

/-- equality with itself, element by element -/
theorem eqS_loop {α : Type} (a : List α) (hl : a.length ≤ 4294967296) {κ : Bool → Prop} (hκ : κ true) (F : (Int → Prop) → Int → Prop)
    (hF : ∀ (nx : Int → Prop) (t : Nat), t ≤ a.length → (∀ x, a[t]? = some x → x ∈ a ∧ nx ((t : Int) + 1)) → (¬ t < a.length → κ true) → F nx (t : Int)) : loopW F 0 := by
  refine count_loop a.length (fun s => s) (fun k s => s = (k : Int) ∧ k ≤ a.length) (fun k s h => h.1) (fun k s h => h.2) ?_ ⟨rfl, Nat.zero_le _⟩
  rintro k _ next ⟨rfl, hk⟩ hn
  refine hF _ _ hk (fun x hx => ?_) (fun _ => hκ)
  obtain ⟨e1, e2⟩ := List.getElem?_eq_some_iff.1 hx
  exact ⟨e2 ▸ List.getElem_mem e1, hn e1 _ ⟨by omega, by omega⟩⟩
end
section
open Go.Lib (decDigits)

/-- lengths of an argument that is not too big -/
def Br (r : GRule) : Prop := r.xTests.length ≤ 1048576
def Bq (c : List GRule) : Prop := c.length ≤ 1048576 ∧ ∀ r, r ∈ c → Br r
def Bs (cs : List (List GRule)) : Prop := cs.length ≤ 1048576 ∧ ∀ c, c ∈ cs → Bq c
theorem Bs.bd {s : GRuleset} (h : Bs s.xChains) : Bd s := ⟨by have := h.1; omega, fun c hc => ⟨by have := (h.2 c hc).1; omega, fun r hr => by have : r.xTests.length ≤ 1048576 := (h.2 c hc).2 r hr; omega⟩⟩
theorem SV.bs {s : GRuleset} (h : SV s) : Bs s.xChains := ⟨by have := h.1.1; omega, fun c hc => ⟨by have := (h.1.2 c hc).1; omega, fun r hr => by have : r.xTests.length ≤ 6 := ((h.1.2 c hc).2 r hr).1.1.2; unfold Br; omega⟩⟩
theorem bs_nil : Bs [] := ⟨by simp, fun c hc => by simp at hc⟩

theorem sameRuleset_self {s : GRuleset} {κ : Bool → Prop} (hb : Bs s.xChains) (h : κ true) : L_laws_sameRuleset s s κ := by
  unfold L_laws_sameRuleset
  have := hb.1
  refine ifW_of (fun hc => by simp at hc) (fun _ => eqS_loop s.xChains (by omega) (κ := fun _ => κ (decide (s.xAccept = s.xAccept))) (by simpa using h) _ (fun nx t g ht hf => ifW_of (fun hc => ?_) (fun hc => hf (by simpa using hc))))
  have hlt : t < s.xChains.length := by simpa using hc
  obtain ⟨hm, hn⟩ := ht s.xChains[t] (by simp [hlt])
  have hbq := hb.2 _ hm
  have h3 := hbq.1
  refine idxW_of t rfl hlt (idxW_of t rfl hlt (ifW_of (fun hc => by simp at hc) (fun _ => ?_)))
  refine eqS_loop s.xChains[t] (by omega) (κ := fun _ => addW (t : Int) 1 (fun t63 => nx t63)) (addW_of (by omega) (by omega) hn) _ (fun nx2 t2 g2 ht2 hf2 => ?_)
  refine idxW_of t rfl hlt (ifW_of (fun hc => ?_) (fun hc => hf2 (by simpa using hc)))
  have hlt2 : t2 < s.xChains[t].length := by simpa using hc
  obtain ⟨hm2, hn2⟩ := ht2 s.xChains[t][t2] (by simp [hlt2])
  refine idxW_of t rfl hlt (idxW_of t2 rfl hlt2 (idxW_of t rfl hlt (idxW_of t2 rfl hlt2 (sameRule_self (by have : s.xChains[t][t2].xTests.length ≤ 1048576 := hbq.2 _ hm2; omega) ?_))))
  simp only [Bool.not_true, ifW_false]
  exact addW_of (by omega) (by omega) hn2

/-! marks -/
/-! lines -/
end
section


def Sx1 (l : List GSpan) : Prop := l.length ≤ 1048576
def Sx2 (l : List (List GSpan)) : Prop := l.length ≤ 1048576 ∧ ∀ x, x ∈ l → Sx1 x
def Sx3 (f : GFlat) : Prop := Sx2 f.xWhere.xSides
def Sx4 (l : List GFlat) : Prop := l.length ≤ 1048576 ∧ ∀ f, f ∈ l → Sx3 f
theorem Sx4.fb {l : List GFlat} (h : Sx4 l) : Fb l := ⟨by have := h.1; omega, fun f hf => ⟨by have := (h.2 f hf).1; omega, fun x hx => by have : x.length ≤ 1048576 := (h.2 f hf).2 x hx; omega⟩⟩
theorem BV.sx {b : GBox} (h : BV b) : Sx2 b.xSides := by
  obtain ⟨a, rfl, _, f0, f1, f2, f3⟩ := h
  refine ⟨by simp [bx], fun x hx => ?_⟩
  simp only [bx, List.mem_cons, List.not_mem_nil, or_false] at hx
  unfold Sx1
  rcases hx with rfl | rfl | rfl | rfl <;> omega
theorem FV.sx {l : List GFlat} (h : FV l) : Sx4 l := ⟨by have := h.1; omega, fun f hf => (h.2 f hf).sx⟩
end
section
open Go Go.Proofs

/-- the test of a field, if one is enough -/
def bt1 (n : Nat) (s : List GSpan) : Option (List GTest) :=
  match s with
  | [x] => if x = ⟨0, top n⟩ then some [] else some [⟨n, x.xLo, x.xHi, false⟩]
  | [x, y] => if x.xLo = 0 ∧ y.xHi = top n then some [⟨n, x.xHi + 1, y.xLo - 1, true⟩] else none
  | _ => none
def btN (a : A4ListGSpan) : Nat → Option (List GTest)
  | 0 => some []
  | k + 1 => match btN a k with
    | none => none
    | some l => match bt1 k (get4 a k) with
      | none => none
      | some m => some (l ++ m)
/-- tests for a box -/
def btF (a : A4ListGSpan) : Option (List GTest) := if em4 a then none else btN a 4
def bres : Option (List GTest) → List GTest × Bool
  | some l => (l, true)
  | none => ([], false)
theorem bt1_len {n : Nat} {s : List GSpan} {l : List GTest} (h : bt1 n s = some l) : l.length ≤ 1 := by
  unfold bt1 at h
  split at h
  · split at h <;> (injection h with h; subst h; simp)
  · split at h
    · injection h with h; subst h; simp
    · cases h
  · cases h
theorem btN_len {a : A4ListGSpan} : ∀ {k : Nat} {l : List GTest}, btN a k = some l → l.length ≤ k
  | 0, l, h => by simp only [btN, Option.some.injEq] at h; subst h; simp
  | k + 1, l, h => by
    unfold btN at h
    split at h
    · cases h
    · rename_i l1 h1
      split at h
      · cases h
      · rename_i m h2
        injection h with h; subst h
        have := btN_len h1
        have := bt1_len h2
        rw [List.length_append]; omega
theorem btN_none {a : A4ListGSpan} {k n : Nat} (h : btN a k = none) (hk : k ≤ n) : btN a n = none := by
  induction n with
  | zero => obtain rfl : k = 0 := by omega
            exact h
  | succ n ih =>
    by_cases e : k = n + 1
    · subst e; exact h
    · unfold btN; rw [ih (by omega)]
theorem btN_step {a : A4ListGSpan} {k : Nat} {l : List GTest} (h : btN a k = some l) : btN a (k + 1) = (match bt1 k (get4 a k) with | none => none | some m => some (l ++ m)) := by
  conv => lhs; unfold btN
  rw [h]
theorem S_shapeTop {n : Int} {κ : GFieldShape → Prop} (h0 : 0 ≤ n) (h1 : n ≤ 3) (h : ∀ e : GFieldShape, e.xTop = top n → κ e) : idxW gl_impl_fieldShapes n κ := S_shape h0 h1 (fun e _ => h e)
/-- what both do with a field -/
theorem bt_step {a : A4ListGSpan} (hB : B4 a) {k : Nat} (hlt : k < 4) {l : List GTest} (hb : btN a k = some l) {tp : Int} (htp : tp = top k) {κ : List GTest × Bool → Prop} {nx : List GTest × Int → Prop} (hl : l.length ≤ 4)
    (hn : ∀ m, btN a (k + 1) = some m → nx (m, (k : Int) + 1)) (hz : btN a (k + 1) = none → κ ([], false)) :
    jnW (fun (xs298 : (List GTest)) => addW (k : Int) 1 (fun t302 => nx (xs298, t302))) (fun k301 => jnW (fun (t150 : Bool) => ifW t150 (k301 l) (ifW (decide (((get4 a k).length : Int) = 1)) (idxW (get4 a k) 0 (fun e152 => idxW (get4 a k) 0 (fun e154 => appW l ([(GTest.mk k e152.xLo e154.xHi false)]) (fun _ => k301 (l ++ ([(GTest.mk k e152.xLo e154.xHi false)])))))) (jnW (fun (t224 : Bool) => ifW t224 (idxW (get4 a k) 0 (fun e226 => addW e226.xHi 1 (fun t228 => idxW (get4 a k) 1 (fun e229 => subW e229.xLo 1 (fun t231 => appW l ([(GTest.mk k t228 t231 true)]) (fun _ => k301 (l ++ ([(GTest.mk k t228 t231 true)])))))))) (κ ([], false))) (fun k225 => ifW (decide (((get4 a k).length : Int) = 2)) (idxW (get4 a k) 0 (fun e160 => ifW (decide (e160.xLo = 0)) (idxW (get4 a k) 1 (fun e162 => k225 (decide (e162.xHi = tp)))) (k225 false))) (k225 false))))) (fun k151 => ifW (decide (((get4 a k).length : Int) = 1)) (idxW (get4 a k) 0 (fun e88 => k151 (decide (e88 = (GSpan.mk 0 tp))))) (k151 false))) := by
  subst htp
  rw [btN_step hb] at hn hz
  have hst := get4_St hB (show (0 : Int) ≤ k by omega) (show (k : Int) ≤ 3 by omega)
  have tl := top_le k
  generalize get4 a k = s at *
  have go : ∀ ys, nx (ys, (k : Int) + 1) → addW (k : Int) 1 (fun t302 => nx (ys, t302)) := fun ys h => addW_of (by omega) (by omega) h
  refine jnW_i ?_
  match s, hst with
  | [], _ =>
    refine jnW_i (ifW_f (ifW_f (ifW_f (jnW_i (ifW_f (ifW_f ?_))))))
    exact hz rfl
  | [x], _ =>
    refine jnW_i (ifW_t (idxW_of 0 rfl (by simp) ?_))
    refine ifW_of (fun e => ?_) (fun e => ?_)
    · have e' : x = ⟨0, top k⟩ := of_decide_eq_true e
      refine go _ (hn _ ?_)
      unfold bt1; simp only; rw [if_pos e']; simp
    · have e' : ¬ x = ⟨0, top k⟩ := of_decide_eq_false e
      refine ifW_t (idxW_of 0 rfl (by simp) (idxW_of 0 rfl (by simp) (appW_of (by simp; omega) (go _ (hn _ ?_)))))
      unfold bt1; simp only; rw [if_neg e']; rfl
  | [x, y], hst =>
    have hx := hst.2 x (by simp)
    have hy := hst.2 y (by simp)
    have hx2 := hst.1.1 x (by simp)
    have hy2 := hst.1.1 y (by simp)
    refine jnW_i (ifW_f (ifW_f (ifW_f (jnW_i (ifW_t (idxW_of 0 rfl (by simp) (ifW_of (fun e => ?_) (fun e => ?_))))))))
    · have e' : x.xLo = 0 := of_decide_eq_true e
      refine idxW_of 1 rfl (by simp) (ifW_of (fun e2 => ?_) (fun e2 => ?_))
      · have e2' : y.xHi = top k := of_decide_eq_true e2
        refine idxW_of 0 rfl (by simp) (addW_of (by simp; omega) (by simp; omega) (idxW_of 1 rfl (by simp) (subW_of (by simp; omega) (by simp; omega) (appW_of (by simp; omega) (go _ (hn _ ?_))))))
        unfold bt1; simp only; rw [if_pos ⟨e', e2'⟩]; rfl
      · have e2' : ¬ y.xHi = top k := of_decide_eq_false e2
        refine hz ?_
        unfold bt1; simp only; rw [if_neg (fun q => e2' q.2)]
    · have e' : ¬ x.xLo = 0 := of_decide_eq_false e
      refine ifW_f (hz ?_)
      unfold bt1; simp only; rw [if_neg (fun q => e' q.1)]
  | x :: y :: z :: r, _ =>
    refine jnW_i (ifW_of (fun e => by simp at e; omega) (fun _ => ifW_f (ifW_of (fun e => by simp at e; omega) (fun _ => jnW_i (ifW_of (fun e => by simp at e; omega) (fun _ => ifW_f ?_))))))
    exact hz rfl
theorem S_impl_BoxTests {b : GBox} (hb : Bb b) {κ : List GTest × Bool → Prop} (h1 : BV b → κ (bres (btF (sd b)))) (h2 : ¬ BV b → κ ([], false)) : L_impl_BoxTests b κ := by
  unfold L_impl_BoxTests
  refine jnW_i (S_impl_BoxValid hb (ifW_of (fun e => ?_) (fun e => ?_)))
  · exact ifW_t (h2 (by simpa using e))
  have hv' : BV b := by simpa using e
  refine S_sidesOf (BV_len hv') (S_empty4 (ifW_of (fun e2 => ?_) (fun e2 => ?_)))
  · have := h1 hv'
    unfold btF at this; rw [if_pos e2] at this; exact this
  have h3 := h1 hv'
  unfold btF at h3; rw [if_neg (by simp [e2])] at h3
  clear h1 h2 e e2
  have hB := hv'.b4
  obtain ⟨a, rfl, _⟩ := hv'
  rw [sd_bx] at h3 hB
  refine count_loop 4 (fun s => s.2) (fun k (s : List GTest × Int) => s.2 = (k : Int) ∧ k ≤ 4 ∧ btN a k = some s.1) (fun k s h => h.1) (fun k s h => h.2.1) ?_ ⟨rfl, by omega, rfl⟩
  rintro k ⟨l, _⟩ next ⟨rfl, hk, hbt⟩ hn
  simp only at hbt
  refine ifW_of (fun hc => ?_) (fun hc => ?_)
  · have hlt : k < 4 := by
      have : (k : Int) < 4 := by simpa [bx] using hc
      omega
    have hl := btN_len hbt
    refine idx4 (a := a) (by omega) (by omega) (S_shapeTop (by omega) (by omega) (fun e he => ?_))
    refine bt_step hB hlt hbt he (by omega) (fun m hm => hn hlt _ ⟨by simp, by omega, hm⟩) (fun hz => ?_)
    rw [btN_none hz (by omega)] at h3; exact h3
  · have hge : k = 4 := by
      have : (4 : Int) ≤ k := by simpa [bx] using hc
      omega
    subst hge
    rw [hbt] at h3; exact h3
theorem S_spec_BoxTests {b : GBox} (hb : Bb b) {κ : List GTest × Bool → Prop} (h1 : BV b → κ (bres (btF (sd b)))) (h2 : ¬ BV b → κ ([], false)) : L_spec_BoxTests b κ := by
  unfold L_spec_BoxTests
  refine jnW_i (S_spec_BoxValid hb (ifW_of (fun e => ?_) (fun e => ?_)))
  · exact ifW_t (h2 (by simpa using e))
  have hv' : BV b := by simpa using e
  have h3 := h1 hv'
  clear h1 h2 e
  have hB := hv'.b4
  obtain ⟨a, rfl, _⟩ := hv'
  rw [sd_bx] at h3 hB
  refine S_l10Empty (ifW_of (fun e2 => ?_) (fun e2 => ?_))
  · unfold btF at h3; rw [if_pos e2] at h3; exact h3
  unfold btF at h3; rw [if_neg (by simp [e2])] at h3
  refine count_loop 4 (fun s => s.2) (fun k (s : List GTest × Int) => s.2 = (k : Int) ∧ k ≤ 4 ∧ btN a k = some s.1) (fun k s h => h.1) (fun k s h => h.2.1) ?_ ⟨rfl, by omega, rfl⟩
  rintro k ⟨l, _⟩ next ⟨rfl, hk, hbt⟩ hn
  simp only at hbt
  refine ifW_of (fun hc => ?_) (fun hc => ?_)
  · have hlt : k < 4 := by
      have : (k : Int) < 4 := by simpa using hc
      omega
    have hl := btN_len hbt
    refine idx4 (a := a) (by omega) (by omega) (S_spec_FieldTop (by omega) (by omega) ?_)
    refine bt_step hB hlt hbt rfl (by omega) (fun m hm => hn hlt _ ⟨by simp, by omega, hm⟩) (fun hz => ?_)
    rw [btN_none hz (by omega)] at h3; exact h3
  · have hge : k = 4 := by
      have : (4 : Int) ≤ k := by simpa using hc
      omega
    subst hge
    rw [hbt] at h3; exact h3
/-- the rule of a rule without calls -/
def ruD (f : GFlat) : GRule := ⟨(bres (btF (sd f.xWhere))).1, if f.xAccept then 1 else 2, 0⟩
def frOk (l : List GFlat) : Prop := FV l ∧ l.length ≤ 8 ∧ ∀ f ∈ l, btF (sd f.xWhere) ≠ none
def frS (l : List GFlat) (rest : Bool) : GRuleset := ⟨[l.map ruD], rest⟩
theorem bres_len (a : A4ListGSpan) : (bres (btF a)).1.length ≤ 4 := by
  cases h : btF a with
  | none => simp [bres]
  | some l =>
    unfold btF at h
    split at h
    · cases h
    · exact btN_len h
theorem S_impl_FlatRuleset {l : List GFlat} {rest : Bool} (hl : Fb l) {κ : GRuleset × Bool → Prop} (h1 : frOk l → κ (frS l rest, true)) (h2 : ¬ frOk l → κ (⟨[], false⟩, false)) : L_impl_FlatRuleset l rest κ := by
  unfold L_impl_FlatRuleset
  have hl1 := hl.1
  refine jnW_i (ifW_of (fun e => ?_) (fun e => ?_))
  · exact ifW_t (h2 (fun q => by have := q.2.1; simp at e; omega))
  have h8 : l.length ≤ 8 := by simp at e; omega
  refine S_impl_FlatsValid hl (ifW_of (fun e2 => ?_) (fun e2 => ?_))
  · exact h2 (fun q => by simp [q.1] at e2)
  have hv' : FV l := by simpa using e2
  refine makeW_of 0 rfl (by omega) (by omega) ?_
  refine count_loop l.length (fun s => s.2) (fun k (s : List GRule × Int) => s.2 = (k : Int) ∧ k ≤ l.length ∧ s.1 = (l.take k).map ruD ∧ ∀ f ∈ l.take k, btF (sd f.xWhere) ≠ none) (fun k s h => h.1) (fun k s h => h.2.1) ?_ ⟨rfl, by omega, by simp, by simp⟩
  rintro k ⟨_, _⟩ next ⟨rfl, hk, hx, hno⟩ hn
  simp only at hx
  subst hx
  refine ifW_of (fun hc => ?_) (fun hc => ?_)
  · have hlt : k < l.length := by simpa using hc
    have hbv := hv'.2 _ (List.getElem_mem hlt)
    refine idxW_of k rfl hlt (S_impl_BoxTests hbv.bb (fun _ => ?_) (fun q => absurd hbv q))
    have hlen := bres_len (sd l[k].xWhere)
    cases hbt : btF (sd l[k].xWhere) with
    | none => exact jnW_i (ifW_t (ifW_t (h2 (fun q => q.2.2 _ (List.getElem_mem hlt) hbt))))
    | some ts =>
      have er : ruD l[k] = ⟨ts, if l[k].xAccept then 1 else 2, 0⟩ := by unfold ruD; rw [hbt]; rfl
      rw [hbt] at hlen
      have hts : ts.length ≤ 4 := hlen
      refine jnW_i (ifW_f (ifW_of (fun e => by simp at e; omega) (fun _ => jnW_i ?_)))
      have go : ∀ act : Int, act = (if l[k].xAccept then 1 else 2) → appW ((l.take k).map ruD) ([(GRule.mk ts act 0)]) (fun _ => addW (k : Int) 1 (fun t229 => next ((((l.take k).map ruD) ++ ([(GRule.mk ts act 0)])), t229))) := by
        rintro _ rfl
        refine appW_of (by simp; omega) (addW_of (by omega) (by omega) (hn hlt _ ⟨by simp, by omega, ?_, fun f hf => ?_⟩))
        · rw [List.take_succ_eq_append_getElem hlt, List.map_append, List.map_singleton, er]
        · rw [List.take_succ_eq_append_getElem hlt] at hf
          rcases List.mem_append.1 hf with q | q
          · exact hno f q
          · simp only [List.mem_singleton] at q; rw [q, hbt]; simp
      refine ifW_of (fun e => go _ (by rw [e]; rfl)) (fun e => go _ (by rw [e]; rfl))
  · have hge : l.length ≤ k := by simpa using hc
    rw [List.take_of_length_le hge] at hno ⊢
    exact h1 ⟨hv', h8, hno⟩
theorem S_spec_FlatRuleset {l : List GFlat} {rest : Bool} (hl : Fb l) {κ : GRuleset × Bool → Prop} (h1 : frOk l → κ (frS l rest, true)) (h2 : ¬ frOk l → κ (⟨[], false⟩, false)) : L_spec_FlatRuleset l rest κ := by
  unfold L_spec_FlatRuleset
  have hl1 := hl.1
  refine S_l1OwnFlatList hl (jnW_i (S_spec_FlatsValid hl (ifW_of (fun e2 => ?_) (fun e2 => ?_))))
  · exact ifW_t (h2 (fun q => by simp [q.1] at e2))
  have hv' : FV l := by simpa using e2
  refine ifW_of (fun e => h2 (fun q => by have := q.2.1; simp at e; omega)) (fun e => ?_)
  have h8 : l.length ≤ 8 := by simp at e; omega
  refine count_loop l.length (fun s => s.2) (fun k (s : List GRule × Int) => s.2 = (k : Int) ∧ k ≤ l.length ∧ s.1 = (l.take k).map ruD ∧ ∀ f ∈ l.take k, btF (sd f.xWhere) ≠ none) (fun k s h => h.1) (fun k s h => h.2.1) ?_ ⟨rfl, by omega, by simp, by simp⟩
  rintro k ⟨_, _⟩ next ⟨rfl, hk, hx, hno⟩ hn
  simp only at hx
  subst hx
  refine ifW_of (fun hc => ?_) (fun hc => ?_)
  · have hlt : k < l.length := by simpa using hc
    have hbv := hv'.2 _ (List.getElem_mem hlt)
    refine idxW_of k rfl hlt (S_spec_BoxTests hbv.bb (fun _ => ?_) (fun q => absurd hbv q))
    have hlen := bres_len (sd l[k].xWhere)
    cases hbt : btF (sd l[k].xWhere) with
    | none => exact ifW_t (h2 (fun q => q.2.2 _ (List.getElem_mem hlt) hbt))
    | some ts =>
      have er : ruD l[k] = ⟨ts, if l[k].xAccept then 1 else 2, 0⟩ := by unfold ruD; rw [hbt]; rfl
      rw [hbt] at hlen
      have hts : ts.length ≤ 4 := hlen
      refine ifW_f (jnW_i (idxW_of k rfl hlt ?_))
      have go : ∀ act : Int, act = (if l[k].xAccept then 1 else 2) → appW ((l.take k).map ruD) ([(GRule.mk ts act 0)]) (fun _ => addW (k : Int) 1 (fun t229 => next ((((l.take k).map ruD) ++ ([(GRule.mk ts act 0)])), t229))) := by
        rintro _ rfl
        refine appW_of (by simp; omega) (addW_of (by omega) (by omega) (hn hlt _ ⟨by simp, by omega, ?_, fun f hf => ?_⟩))
        · rw [List.take_succ_eq_append_getElem hlt, List.map_append, List.map_singleton, er]
        · rw [List.take_succ_eq_append_getElem hlt] at hf
          rcases List.mem_append.1 hf with q | q
          · exact hno f q
          · simp only [List.mem_singleton] at q; rw [q, hbt]; simp
      refine ifW_of (fun e => go _ (by rw [e]; rfl)) (fun e => go _ (by rw [e]; rfl))
  · have hge : l.length ≤ k := by simpa using hc
    rw [List.take_of_length_le hge] at hno ⊢
    exact h1 ⟨hv', h8, hno⟩
theorem frS_bs {l : List GFlat} {rest : Bool} (h : l.length ≤ 8) : Bs (frS l rest).xChains := by
  refine ⟨by simp [frS], fun c hc => ?_⟩
  simp only [frS, List.mem_singleton] at hc
  subst hc
  refine ⟨by simp; omega, fun r hr => ?_⟩
  obtain ⟨f, hf, rfl⟩ := List.mem_map.1 hr
  have := bres_len (sd f.xWhere)
  unfold Br ruD; simp only; omega
end
section
open Go Go.Proofs

def allF (l : List A4ListGSpan) : Prop := ∀ c ∈ l, F4 c
instance (l : List A4ListGSpan) : Decidable (allF l) := by unfold allF; infer_instance
def aB (l : List A4ListGSpan) : Prop := ∀ c ∈ l, B4 c
def okR (l : List A4ListGSpan) : Prop := allF l ∧ l.length ≤ 400
instance (l : List A4ListGSpan) : Decidable (okR l) := by unfold okR; infer_instance
/-! ### which packets -/
def hbs (l : List A4ListGSpan) (p : GPacket) : Prop := ∃ c ∈ l, hb4 c p
instance (l : List A4ListGSpan) (p : GPacket) : Decidable (hbs l p) := by unfold hbs; infer_instance
/-! ### the program -/
/-- valid rules as the program holds them -/
def IV (l : List GIflat) : Prop := ∀ f ∈ l, B4 f.xWhere ∧ F4 f.xWhere
theorem FV.iv {l : List GFlat} (h : FV l) : IV (l.map fl) := fun f hf => by
  obtain ⟨g, hg, rfl⟩ := List.mem_map.1 hf
  exact ⟨(h.2 g hg).b4, (h.2 g hg).f4⟩
def whs (l : List GIflat) : List A4ListGSpan := l.map (·.xWhere)
theorem IV.aB {l : List GIflat} (h : IV l) : aB (whs l) := fun c hc => by
  obtain ⟨f, hf, rfl⟩ := List.mem_map.1 hc
  exact (h f hf).1
theorem IV.take {l : List GIflat} (h : IV l) (n : Nat) : IV (l.take n) := fun f hf => h f (List.mem_of_mem_take hf)
/-! ### the first rule with a packet -/
def fw (l : List GIflat) (p : GPacket) : Nat := l.findIdx (fun f => decide (hb4 f.xWhere p))
def fwI (l : List GIflat) (p : GPacket) : Int := if fw l p < l.length then (fw l p : Int) else -1
theorem fw_take {l : List GIflat} {p : GPacket} {k : Nat} (hk : k < l.length) (h : ∀ f ∈ l.take k, ¬ hb4 f.xWhere p) (h2 : hb4 l[k].xWhere p) : fw l p = k := by
  unfold fw
  rw [List.findIdx_eq (by omega)]
  refine ⟨by simpa using h2, fun j hj => ?_⟩
  have := h l[j] (by rw [List.mem_take_iff_getElem]; exact ⟨j, by omega, rfl⟩)
  simpa using this
theorem fw_none {l : List GIflat} {p : GPacket} (h : ∀ f ∈ l, ¬ hb4 f.xWhere p) : fw l p = l.length := by
  unfold fw
  rw [List.findIdx_eq_length]
  intro f hf
  simpa using h f hf
theorem S_firstWith {l : List GIflat} {p : GPacket} (hl : l.length ≤ 4294967296) (hv : IV l) {κ : Int → Prop} (h : κ (fwI l p)) : L_impl_firstWith l p κ := by
  unfold L_impl_firstWith L_slices_IndexFunc_impl_flat_impl_flat__impl_firstWith_1
  refine count_loop l.length (fun s => s) (fun k s => s = (k : Int) ∧ k ≤ l.length ∧ ∀ f ∈ l.take k, ¬ hb4 f.xWhere p) (fun k s h => h.1) (fun k s h => h.2.1) ?_ ⟨rfl, by omega, by simp⟩
  rintro k _ next ⟨rfl, hk, hno⟩ hn
  refine ifW_of (fun hc => ?_) (fun hc => ?_)
  · have hlt : k < l.length := by simpa using hc
    refine idxW_of k rfl hlt ?_
    unfold L_impl_firstWith_1
    refine S_has (F4_L4 (hv _ (List.getElem_mem hlt)).2) (ifW_of (fun e => ?_) (fun e => ?_))
    · have := fw_take hlt hno (by simpa using e)
      unfold fwI at h; rw [this, if_pos hlt] at h; exact h
    · refine addW_of (by omega) (by omega) (hn hlt _ ⟨by simp, by omega, fun f hf => ?_⟩)
      rw [List.take_succ_eq_append_getElem hlt] at hf
      rcases List.mem_append.1 hf with q | q
      · exact hno f q
      · simp only [List.mem_singleton] at q; rw [q]; simpa using e
  · have hge : l.length ≤ k := by simpa using hc
    rw [List.take_of_length_le hge] at hno
    have := fw_none hno
    unfold fwI at h; rw [this, if_neg (by omega)] at h; exact h

end
section
open Go.Lib (decDigits)

open Classical in
/-- the rule that a line holds -/
noncomputable def rd (l : List UInt8) : Option GRule := if h : ∃ r, RV r ∧ rtx0 r = l then some h.choose else none
/-- chains that only grow -/
def Le (cs ds : List (List GRule)) : Prop := cs.length ≤ ds.length ∧ ∀ (i : Nat) (c : List GRule), cs[i]? = some c → ∃ e, ds[i]? = some (c ++ e)
theorem Le.refl (cs : List (List GRule)) : Le cs cs := ⟨Nat.le_refl _, fun i c h => ⟨[], by simpa using h⟩⟩
theorem Le.trans {a b c : List (List GRule)} (h : Le a b) (h' : Le b c) : Le a c := ⟨Nat.le_trans h.1 h'.1, fun i x hx => by
  obtain ⟨e, he⟩ := h.2 i x hx
  obtain ⟨e', he'⟩ := h'.2 i _ he
  exact ⟨e ++ e', by rw [he', List.append_assoc]⟩⟩
end
section
open Go.Lib (decDigits)

theorem w64_in {x : Int} (h1 : -9223372036854775808 ≤ x) (h2 : x ≤ 9223372036854775807) : w64 x = x := by
  simp [w64, IntKind.wrap, IntKind.signed, IntKind.bits]; omega
/-- lines that are not too long -/
def Bl (ls : List (List UInt8)) : Prop := ls.length ≤ 3000000 ∧ ∀ l, l ∈ ls → l.length ≤ 10000000
theorem Bl.take {ls : List (List UInt8)} (h : Bl ls) (n : Nat) : Bl (ls.take n) := ⟨by have := h.1; simp; omega, fun l hl => h.2 l (List.mem_of_mem_take hl)⟩
/-! the reference -/
/-- sizes of what the reference reads -/
def Zs (k : Nat) (cs : List (List GRule)) : Prop := cs.length ≤ k ∧ ∀ c, c ∈ cs → c.length ≤ k ∧ ∀ r, r ∈ c → RV r
theorem Zs.bd {k : Nat} {cs : List (List GRule)} {a : Bool} (h : Zs k cs) (hk : k ≤ 4000000) : Bd ⟨cs, a⟩ := ⟨by have := h.1; simp only; omega, fun c hc => ⟨by have := (h.2 c hc).1; omega, fun r hr => by have : r.xTests.length ≤ 6 := ((h.2 c hc).2 r hr).1.2; omega⟩⟩
end
section
open Go.Lib (decDigits)

theorem S_odd0 {b : List UInt8} {p : Int} {κ : Bool × Int → Prop} (h : κ (false, p)) : L_spec_l20Rd_odd b p 0 κ := by
  unfold L_spec_l20Rd_odd jnW
  exact ifW_of (fun hx => by simp at hx) (fun _ => h)
def SpW (tp : Int) (q : GSpan) : Prop := 0 ≤ q.xLo ∧ q.xLo ≤ q.xHi ∧ q.xHi ≤ tp
theorem S_l20SpanV {b : List UInt8} {p tp : Int} (hb : b.length ≤ 2000) (h0 : 0 ≤ p) (hp : p ≤ 900000) (ht0 : 7 ≤ tp) (ht : tp ≤ 65535) {κ : GSpan × Int → Prop} (h : ∀ q p', p ≤ p' → p' ≤ p + 20 → SpW tp q → κ (q, p')) : L_spec_l20Span b p tp 0 κ := by
  have rd : ∀ p', p ≤ p' → p' ≤ p + 30 → RdP b p' := fun p' a c => ⟨hb, by omega, by omega⟩
  have B3 : ∀ (t144 t145 : Int), p ≤ t144 → t144 ≤ p + 6 → 0 ≤ t145 → t145 ≤ tp → L_spec_l20Rd_pick b t144 4 (fun (r150, r151) => L_spec_l20Rd_pick b r151 256 (fun (r152, r153) => L_spec_l20Rd_pick b r153 4 (fun (r155, r156) => idxW ([0, r150, r152, 4096]) r155 (fun e157 => L_spec_l20Rd_odd b r156 0 (fun (r174, r175) => ifW r174 (L_spec_l20Rd_pick b r175 3 (fun (r181, r182) => idxW ([(GSpan.mk (w64 ((min tp (w64 (t145 + e157))) + 1)) (min tp (w64 (t145 + e157)))), (GSpan.mk (-1) (min tp (w64 (t145 + e157)))), (GSpan.mk t145 (w64 (tp + 1)))]) r181 (fun e183 => κ ((GSpan.mk e183.xLo e183.xHi), r182)))) (κ ((GSpan.mk t145 (min tp (w64 (t145 + e157)))), r175))))))) := by
    intro t144 t145 g1 g2 g3 g4
    refine S_pick (rd _ (by omega) (by omega)) (fun v1 a1 c1 => S_pick (rd _ (by omega) (by omega)) (fun v2 a2 c2 => S_pick (rd _ (by omega) (by omega)) (fun v3 a3 c3 => idxW_any (by omega) (by simp; omega) (fun x hx => ?_))))
    have hx2 : 0 ≤ x ∧ x ≤ 4096 := by
      simp only [List.mem_cons, List.not_mem_nil, or_false] at hx
      rcases hx with e | e | e | e <;> subst e <;> omega
    have hw : w64 (t145 + x) = t145 + x := w64_in (by omega) (by omega)
    refine S_odd0 (ifW_of (fun hx => by simp at hx) (fun _ => h _ _ (by omega) (by omega) ?_))
    rw [hw]
    refine ⟨g3, ?_, ?_⟩ <;> simp only <;> omega
  unfold L_spec_l20Span
  refine addW_of (by omega) (by omega) (S_pick (rd p (by omega) (by omega)) (fun v a c => ?_))
  unfold jnW
  refine ifW_of (fun _ => ?_) (fun _ => ?_)
  · refine S_pick (rd _ (by omega) (by omega)) (fun v5 a5 c5 => ?_)
    refine ifW_of (fun _ => ?_) (fun _ => ?_)
    · refine S_pick (rd _ (by omega) (by omega)) (fun v6 a6 c6 => ?_)
      have hw1 : w64 (v * 256) = v * 256 := w64_in (by omega) (by omega)
      have hw2 : w64 (v * 256 + v6) = v * 256 + v6 := w64_in (by omega) (by omega)
      refine B3 _ _ (by omega) (by omega) ?_ ?_ <;> rw [hw1, hw2] <;> omega
    · exact B3 _ _ (by omega) (by omega) (by omega) (by omega)
  · refine ifW_of (fun e => by cases e) (fun _ => B3 _ _ (by omega) (by omega) (by omega) (by omega))
theorem S_l20TestV {b : List UInt8} {p : Int} (hb : b.length ≤ 2000) (h0 : 0 ≤ p) (hp : p ≤ 800000) {κ : GTest × Int → Prop} (h : ∀ q p', p ≤ p' → p' ≤ p + 50 → TV q → κ (q, p')) : L_spec_l20Test b p 0 κ := by
  have rd : ∀ p', p ≤ p' → p' ≤ p + 60 → RdP b p' := fun p' a c => ⟨hb, by omega, by omega⟩
  unfold L_spec_l20Test
  refine S_pick (rd p (by omega) (by omega)) (fun f a1 c1 => S_pick (rd _ (by omega) (by omega)) (fun nt a2 c2 => S_spec_FieldTop (by omega) (by omega) ?_))
  have ht := top_le f
  refine S_l20SpanV hb (by omega) (by omega) ht.1 ht.2 (fun sp p1 g1 g2 hsp => ?_)
  unfold jnW
  have fin : ∀ (t241 t242 t243 : Int), p ≤ t241 → t241 ≤ p + 35 → 0 ≤ t242 → t242 ≤ t243 → t243 ≤ top f → L_spec_l20Rd_odd b t241 0 (fun (r245, r246) => ifW r245 (L_spec_l20Rd_pick b r246 3 (fun (r247, r248) => ifW (decide (r247 = 0)) (L_spec_l20Rd_pick b r248 2 (fun (r251, r252) => idxW ([(-1), 4]) r251 (fun e253 => κ ((GTest.mk e253 t242 t243 (decide (nt = 0))), r252)))) (ifW (decide (r247 = 1)) (addW t243 1 (fun t255 => κ ((GTest.mk f t255 t243 (decide (nt = 0))), r248))) (addW (top f) 1 (fun t256 => κ ((GTest.mk f t242 t256 (decide (nt = 0))), r248)))))) (κ ((GTest.mk f t242 t243 (decide (nt = 0))), r246))) := by
    intro t241 t242 t243 q1 q2 q3 q4 q5
    exact S_odd0 (ifW_of (fun hx => by simp at hx) (fun _ => h _ _ (by omega) (by omega) ⟨a1, by simp only; omega, q3, q4, q5⟩))
  have mid : ∀ (t152 t153 t154 : Int), p ≤ t152 → t152 ≤ p + 30 → 0 ≤ t153 → t153 ≤ t154 → t154 ≤ top f → L_spec_l20Rd_pick b t152 8 (fun (r156, r157) => ifW (decide (r156 = 0)) (L_spec_l20Rd_pick b r157 3 (fun (r163, r164) => idxW ([(GSpan.mk 0 (top f)), (GSpan.mk 0 t154), (GSpan.mk t153 (top f))]) r163 (fun e165 => L_spec_l20Rd_odd b r164 0 (fun (r245, r246) => ifW r245 (L_spec_l20Rd_pick b r246 3 (fun (r247, r248) => ifW (decide (r247 = 0)) (L_spec_l20Rd_pick b r248 2 (fun (r251, r252) => idxW ([(-1), 4]) r251 (fun e253 => κ ((GTest.mk e253 e165.xLo e165.xHi (decide (nt = 0))), r252)))) (ifW (decide (r247 = 1)) (addW e165.xHi 1 (fun t255 => κ ((GTest.mk f t255 e165.xHi (decide (nt = 0))), r248))) (addW (top f) 1 (fun t256 => κ ((GTest.mk f e165.xLo t256 (decide (nt = 0))), r248)))))) (κ ((GTest.mk f e165.xLo e165.xHi (decide (nt = 0))), r246)))))) (L_spec_l20Rd_odd b r157 0 (fun (r245, r246) => ifW r245 (L_spec_l20Rd_pick b r246 3 (fun (r247, r248) => ifW (decide (r247 = 0)) (L_spec_l20Rd_pick b r248 2 (fun (r251, r252) => idxW ([(-1), 4]) r251 (fun e253 => κ ((GTest.mk e253 t153 t154 (decide (nt = 0))), r252)))) (ifW (decide (r247 = 1)) (addW t154 1 (fun t255 => κ ((GTest.mk f t255 t154 (decide (nt = 0))), r248))) (addW (top f) 1 (fun t256 => κ ((GTest.mk f t153 t256 (decide (nt = 0))), r248)))))) (κ ((GTest.mk f t153 t154 (decide (nt = 0))), r246))))) := by
    intro t152 t153 t154 q1 q2 q3 q4 q5
    refine S_pick (rd _ (by omega) (by omega)) (fun v4 a4 c4 => ifW_of (fun _ => ?_) (fun _ => fin _ _ _ (by omega) (by omega) q3 q4 q5))
    refine S_pick (rd _ (by omega) (by omega)) (fun v5 a5 c5 => idxW_any (by omega) (by simp; omega) (fun y hy => ?_))
    have hb : 0 ≤ y.xLo ∧ y.xLo ≤ y.xHi ∧ y.xHi ≤ top f := by rcases mem3 hy with e | e | e <;> subst e <;> simp only <;> omega
    exact fin _ _ _ (by omega) (by omega) hb.1 hb.2.1 hb.2.2
  refine ifW_of (fun hf => ?_) (fun _ => ?_)
  · have htf : top f = 65535 := by simp at hf; unfold top; rw [if_pos (by omega)]
    refine S_pick (rd _ (by omega) (by omega)) (fun v a c => ?_)
    refine ifW_of (fun _ => ?_) (fun _ => mid _ _ _ (by omega) (by omega) hsp.1 hsp.2.1 hsp.2.2)
    refine S_pick (rd _ (by omega) (by omega)) (fun v2 a2 c2 => S_pick (rd _ (by omega) (by omega)) (fun v3 a3 c3 => ?_))
    have hw : w64 (v2 + v3) = v2 + v3 := w64_small (by omega) (by omega)
    exact mid _ _ _ (by omega) (by omega) (by omega) (by rw [hw]; omega) (by rw [hw]; omega)
  · exact ifW_of (fun e => by cases e) (fun _ => mid _ _ _ (by omega) (by omega) hsp.1 hsp.2.1 hsp.2.2)
theorem S_l20TestsV {b : List UInt8} {p : Int} (hb : b.length ≤ 2000) (h0 : 0 ≤ p) (hp : p ≤ 700000) {κ : List GTest × Int → Prop} (h : ∀ ts p', p ≤ p' → p' ≤ p + 300 → TsV ts → κ (ts, p')) : L_spec_l20Tests b p 0 κ := by
  have rd : ∀ p', p ≤ p' → p' ≤ p + 300 → RdP b p' := fun p' a c => ⟨hb, by omega, by omega⟩
  unfold L_spec_l20Tests
  refine S_pick (rd p (by omega) (by omega)) (fun v a c => ?_)
  refine loopW_inv (fun s => 0 ≤ s.2.2 ∧ s.2.2 ≤ 3 ∧ p ≤ s.1 ∧ s.1 ≤ p + 1 + 50 * (3 - s.2.2) ∧ s.2.1.length + s.2.2.toNat ≤ 3 ∧ ∀ t, t ∈ s.2.1 → TV t) (fun s => s.2.2.toNat) ?_ ⟨a, by simp only; omega, by simp only; omega, by simp only; omega, by simp only [List.length_nil]; omega, by simp⟩
  rintro ⟨q, xs, k⟩ next ⟨k0, k1, q0, q1, hx, hv⟩ hnx
  simp only at k0 k1 q0 q1 hx hv
  refine ifW_of (fun hc => ?_) (fun hc => ?_)
  · simp at hc
    refine S_l20TestV hb (by omega) (by omega) (fun t p' g1 g2 tv => appW_of (by simp; omega) (subW_of (by omega) (by omega) (hnx _ ⟨by simp only; omega, by simp only; omega, by simp only; omega, by simp only; omega, by simp; omega, fun y hy => ?_⟩ (by simp only; omega))))
    rcases List.mem_append.1 hy with hy | hy
    · exact hv y hy
    · rw [List.mem_singleton] at hy; subst hy; exact tv
  · simp at hc
    unfold jnW
    exact S_odd0 (ifW_of (fun hx => by simp at hx) (fun _ => h _ _ (by omega) (by omega) ⟨hv, by omega⟩))
end
section


/-! tests -/
def th (t : GTest) (p : GPacket) : Bool := decide (t.xLo ≤ fieldP p t.xField.toNat ∧ fieldP p t.xField.toNat ≤ t.xHi) != t.xNot
def ft (l : List GTest) (p : GPacket) : Bool := l.all (fun t => th t p)
theorem four4 {a : Int} (h0 : 0 ≤ a) (h1 : a ≤ 3) : a = 0 ∨ a = 1 ∨ a = 2 ∨ a = 3 := by omega
theorem bne_dec (x y : Bool) : (!(decide (x = y))) = (x != y) := by cases x <;> cases y <;> rfl
theorem S_impl_holds {t : GTest} {p : GPacket} {κ : Bool → Prop} (ht : TV t) (h : κ (th t p)) : L_impl_Test_holds t p κ := by
  obtain ⟨h0, h1, _⟩ := ht
  unfold L_impl_Test_holds L_impl_Packet_fields jnW
  have key : ∀ v : Int, v = fieldP p t.xField.toNat → ifW (decide (t.xLo ≤ v)) (κ (!(decide ((decide (v ≤ t.xHi)) = t.xNot)))) (κ (!(decide (false = t.xNot)))) := by
    intro v hv
    unfold th at h
    rw [← hv] at h
    refine ifW_of (fun hc => ?_) (fun hc => ?_)
    · rw [bne_dec]
      have e : decide (t.xLo ≤ v ∧ v ≤ t.xHi) = decide (v ≤ t.xHi) := by simp at hc; simp [hc]
      rw [e] at h; exact h
    · rw [bne_dec]
      have e : decide (t.xLo ≤ v ∧ v ≤ t.xHi) = false := by simp at hc; simp; omega
      rw [e] at h; exact h
  rcases four4 h0 h1 with e | e | e | e
  · exact idxW_of 0 (by omega) (by simp) (key _ (by rw [e]; rfl))
  · exact idxW_of 1 (by omega) (by simp) (key _ (by rw [e]; rfl))
  · exact idxW_of 2 (by omega) (by simp) (key _ (by rw [e]; rfl))
  · exact idxW_of 3 (by omega) (by simp) (key _ (by rw [e]; rfl))
theorem ft_take (l : List GTest) (p : GPacket) (k : Nat) (h : k < l.length) : ft (l.take (k + 1)) p = (ft (l.take k) p && th l[k] p) := by
  unfold ft
  rw [List.take_succ_eq_append_getElem h, List.all_append]; simp
theorem ft_false {l : List GTest} {p : GPacket} {k : Nat} (h : k < l.length) (e : th l[k] p = false) : ft l p = false := by
  unfold ft
  rw [List.all_eq_false]
  exact ⟨l[k], List.getElem_mem h, by simp [e]⟩
theorem S_impl_allHold {l : List GTest} {p : GPacket} {κ : Bool → Prop} (hl : l.length ≤ 4294967296) (ht : ∀ t, t ∈ l → TV t) (h : κ (ft l p)) : L_impl_allHold l p κ := by
  unfold L_impl_allHold
  refine count_loop l.length (fun s => s) (fun k s => s = (k : Int) ∧ k ≤ l.length ∧ ft (l.take k) p = true) (fun k s h => h.1) (fun k s h => h.2.1) ?_ ⟨rfl, Nat.zero_le _, by simp [ft]⟩
  rintro k _ next ⟨rfl, hk, hf⟩ hn
  refine ifW_of (fun hc => ?_) (fun hc => ?_)
  · have hlt : k < l.length := by simpa using hc
    refine idxW_of k rfl hlt (S_impl_holds (ht _ (List.getElem_mem hlt)) (ifW_of (fun hx => ?_) (fun hx => addW_of (by omega) (by omega) (hn hlt _ ⟨by omega, by omega, ?_⟩))))
    · rw [ft_false hlt (by simpa using hx)] at h; exact h
    · rw [ft_take l p k hlt, hf]; simpa using hx
  · have hge : l.length ≤ k := by simpa using hc
    rw [List.take_of_length_le hge] at hf
    rw [hf] at h; exact h
/-! heights of chains -/
def Hh (cs : List (List GRule)) : Nat → Nat → Prop
  | 0, _ => False
  | n + 1, i => ∀ j, Ca cs i j → Hh cs n j
theorem hh_succ {cs : List (List GRule)} : ∀ {n i : Nat}, Hh cs n i → Hh cs (n + 1) i
  | 0, i, h => h.elim
  | n + 1, i, h => fun j hj => hh_succ (h j hj)
theorem hh_le {cs : List (List GRule)} {n m i : Nat} (h : Hh cs n i) (hm : n ≤ m) : Hh cs m i := by
  induction hm with
  | refl => exact h
  | step _ ih => exact hh_succ ih
theorem hh_all {cs : List (List GRule)} {Q : Nat → Prop} : ∀ (k : Nat), (∀ j, j < k → Q j → ∃ n, Hh cs n j) → ∃ N, ∀ j, j < k → Q j → Hh cs N j
  | 0, _ => ⟨0, fun j hj => by omega⟩
  | k + 1, h => by
    obtain ⟨N, hN⟩ := hh_all k (fun j hj hq => h j (by omega) hq)
    by_cases hq : Q k
    · obtain ⟨n, hn⟩ := h k (by omega) hq
      refine ⟨max N n, fun j hj hqj => ?_⟩
      by_cases e : j = k
      · subst e; exact hh_le hn (by omega)
      · exact hh_le (hN j (by omega) hqj) (by omega)
    · refine ⟨N, fun j hj hqj => ?_⟩
      by_cases e : j = k
      · subst e; exact absurd hqj hq
      · exact hN j (by omega) hqj
theorem hh_of_sf {cs : List (List GRule)} {i : Nat} (hs : Sf cs i) : ∃ n, Hh cs n i := by
  induction hs with
  | intro x hx ih =>
    obtain ⟨N, hN⟩ := hh_all (cs := cs) (Q := fun j => Ca cs x j) cs.length (fun j _ hq => ih j hq)
    refine ⟨N + 1 + 1, fun j hj => ?_⟩
    by_cases hl : j < cs.length
    · exact hh_succ (hN j hl hj)
    · exact fun k hk => by
        obtain ⟨c, h1, _⟩ := hk
        have := (List.getElem?_eq_some_iff.1 h1).1
        omega
theorem hh_ex {cs : List (List GRule)} (hs : ∀ i, i < cs.length → Sf cs i) : ∃ N, ∀ i, Hh cs (N + 1) i := by
  obtain ⟨N, hN⟩ := hh_all (cs := cs) (Q := fun _ => True) cs.length (fun j hj _ => hh_of_sf (hs j hj))
  refine ⟨N, fun i => ?_⟩
  by_cases hl : i < cs.length
  · exact hh_succ (hN i hl trivial)
  · exact fun k hk => by
      obtain ⟨c, h1, _⟩ := hk
      have := (List.getElem?_eq_some_iff.1 h1).1
      omega

/-! the decision -/
/-- through the rules of a chain, given what the chains that are called decide: 1 accept, 2 drop, 5 nothing -/
def jl (p : GPacket) (call : Nat → Int) : List GRule → Int
  | [] => 5
  | r :: l => if ft r.xTests p = true then
      (if r.xAction = 1 then 1 else if r.xAction = 2 then 2 else if r.xAction = 4 then 5 else if r.xAction = 3 then (if call r.xChain.toNat = 5 then jl p call l else call r.xChain.toNat) else jl p call l)
      else jl p call l
def chn (cs : List (List GRule)) (i : Nat) : List GRule := cs[i]?.getD []
def jc (cs : List (List GRule)) (p : GPacket) : Nat → Nat → Int
  | 0, _ => 5
  | n + 1, i => jl p (jc cs p n) (chn cs i)
theorem jl_congr {p : GPacket} {f g : Nat → Int} : ∀ {l : List GRule}, (∀ r, r ∈ l → r.xAction = 3 → f r.xChain.toNat = g r.xChain.toNat) → jl p f l = jl p g l
  | [], _ => rfl
  | r :: l, h => by
    have ih := jl_congr (p := p) (l := l) (fun x hx => h x (by simp [hx]))
    simp only [jl]
    rw [ih]
    by_cases h3 : r.xAction = 3
    · rw [h r (by simp) h3]
    · simp only [h3, if_false]
theorem ca_mem {cs : List (List GRule)} {i : Nat} {r : GRule} (hr : r ∈ chn cs i) (h3 : r.xAction = 3) (h0 : 0 ≤ r.xChain) : Ca cs i r.xChain.toNat := by
  unfold chn at hr
  cases h : cs[i]? with
  | none => rw [h] at hr; simp at hr
  | some c => rw [h] at hr; exact ⟨c, h, r, hr, h3, by omega⟩
/-- calls go to chains that are numbered from 0 -/
def Cn (cs : List (List GRule)) : Prop := ∀ i r, r ∈ chn cs i → r.xAction = 3 → 0 ≤ r.xChain
theorem jc_stab {cs : List (List GRule)} {p : GPacket} (hc : Cn cs) : ∀ {n i : Nat}, Hh cs n i → jc cs p (n + 1) i = jc cs p n i
  | 0, i, h => h.elim
  | n + 1, i, h => jl_congr (fun r hr h3 => jc_stab hc (h _ (ca_mem hr h3 (hc i r hr h3))))
/-- the numbers of steps that the rules of a chain take at most -/
def wt (cs : List (List GRule)) : Nat → List GRule → Nat
  | 0, l => l.length + 1
  | n + 1, l => 1 + (l.map (fun r => 1 + if r.xAction = 3 then wt cs n (chn cs r.xChain.toNat) else 0)).sum
theorem wt_nil (cs : List (List GRule)) (n : Nat) : wt cs n [] = 1 := by cases n <;> simp [wt]
theorem wt_cons (cs : List (List GRule)) (n : Nat) (r : GRule) (l : List GRule) : wt cs (n + 1) (r :: l) = wt cs (n + 1) l + 1 + (if r.xAction = 3 then wt cs n (chn cs r.xChain.toNat) else 0) := by
  simp only [wt, List.map_cons, List.sum_cons]; omega
theorem wt_stab {cs : List (List GRule)} (hc : Cn cs) : ∀ {n i : Nat}, Hh cs n i → wt cs (n + 1) (chn cs i) = wt cs n (chn cs i)
  | 0, i, h => h.elim
  | n + 1, i, h => by
    have key : ∀ l : List GRule, (∀ r, r ∈ l → r ∈ chn cs i) → (l.map (fun r => 1 + if r.xAction = 3 then wt cs (n + 1) (chn cs r.xChain.toNat) else 0)).sum = (l.map (fun r => 1 + if r.xAction = 3 then wt cs n (chn cs r.xChain.toNat) else 0)).sum := by
      intro l hl
      congr 1
      refine List.map_congr_left (fun r hr => ?_)
      by_cases h3 : r.xAction = 3
      · simp only [h3, if_true]
        rw [wt_stab hc (h _ (ca_mem (hl r hr) h3 (hc i r (hl r hr) h3)))]
      · simp only [h3, if_false]
    show 1 + _ = 1 + _
    rw [key _ (fun r hr => hr)]
open Classical in
/-- a number of steps that serves for all chains -/
noncomputable def jN (cs : List (List GRule)) : Nat := if h : ∃ N, ∀ i, Hh cs (N + 1) i then h.choose else 0
theorem jN_ok {cs : List (List GRule)} (hs : ∀ i, i < cs.length → Sf cs i) (i : Nat) : Hh cs (jN cs + 1) i := by
  have h := hh_ex hs
  unfold jN
  rw [dif_pos h]
  exact h.choose_spec i
/-- what chain i decides about a packet -/
noncomputable def J (cs : List (List GRule)) (p : GPacket) (i : Nat) : Int := jc cs p (jN cs + 1) i
theorem J_fix {cs : List (List GRule)} {p : GPacket} (hc : Cn cs) (hs : ∀ i, i < cs.length → Sf cs i) (i : Nat) : J cs p i = jl p (J cs p) (chn cs i) := by
  unfold J
  rw [← jc_stab hc (jN_ok hs i)]
  rfl
theorem SV.cn {s : GRuleset} (h : SV s) : Cn s.xChains := by
  intro i r hr h3
  unfold chn at hr
  cases e : s.xChains[i]? with
  | none => rw [e] at hr; simp at hr
  | some c =>
    rw [e] at hr
    exact (((h.1.2 c (List.mem_of_getElem? e)).2 r hr).1.2.2.2.1 h3).1
theorem chn_get {cs : List (List GRule)} {i : Nat} (h : i < cs.length) : chn cs i = cs[i] := by simp [chn, h]
/-- the judgement -/
noncomputable def jdg (s : GRuleset) (p : GPacket) : Bool := if J s.xChains p 0 = 1 then true else if J s.xChains p 0 = 2 then false else s.xAccept

/-! the reference's walk -/

end
section


theorem nodup_len : ∀ (n : Nat) (l : List Nat), l.Nodup → (∀ x, x ∈ l → x < n) → l.length ≤ n
  | 0, [], _, _ => by simp
  | 0, x :: l, _, h => by have := h x (by simp); omega
  | n + 1, l, hd, h => by
    by_cases hm : n ∈ l
    · obtain ⟨s, t, rfl⟩ := List.append_of_mem hm
      have hnd : (s ++ t).Nodup ∧ n ∉ s ++ t := by
        rw [List.nodup_append] at hd ⊢
        simp only [List.nodup_cons, List.mem_cons] at hd
        obtain ⟨h1, ⟨h2, h3⟩, h4⟩ := hd
        refine ⟨⟨h1, h3, fun a ha b hb => h4 a ha b (.inr hb)⟩, fun hmem => ?_⟩
        rcases List.mem_append.1 hmem with hs | ht
        · exact h4 n hs n (.inl rfl) rfl
        · exact h2 ht
      have := nodup_len n (s ++ t) hnd.1 (fun x hx => by
        have h1 := h x (by
          rcases List.mem_append.1 hx with hx | hx
          · exact List.mem_append.2 (.inl hx)
          · exact List.mem_append.2 (.inr (List.mem_cons_of_mem _ hx)))
        have h2 : x ≠ n := fun e => hnd.2 (e ▸ hx)
        omega)
      simp at this ⊢; omega
    · have := nodup_len n l hd (fun x hx => by
        have h1 := h x hx
        have h2 : x ≠ n := fun e => hm (e ▸ hx)
        omega)
      omega

def okP (cs : List (List GRule)) (q : GPlace) : Prop := 0 ≤ q.xChain ∧ q.xChain.toNat < cs.length ∧ 0 ≤ q.xNext ∧ q.xNext.toNat ≤ (chn cs q.xChain.toNat).length
def sfx (cs : List (List GRule)) (q : GPlace) : List GRule := (chn cs q.xChain.toNat).drop q.xNext.toNat
noncomputable def Jst (cs : List (List GRule)) (p : GPacket) : List GPlace → Int
  | [] => 5
  | q :: st => if jl p (J cs p) (sfx cs q) = 5 then Jst cs p st else jl p (J cs p) (sfx cs q)
noncomputable def wst (cs : List (List GRule)) (xs : List GPlace) : Nat := (xs.map (fun q => wt cs (jN cs + 1) (sfx cs q))).sum
theorem wst_snoc (cs : List (List GRule)) (xs : List GPlace) (q : GPlace) : wst cs (xs ++ [q]) = wst cs xs + wt cs (jN cs + 1) (sfx cs q) := by simp [wst]
/-- the stack: places that are there, each chain called by the one below it -/
def Stk (cs : List (List GRule)) (xs : List GPlace) : Prop := (∀ q, q ∈ xs → okP cs q) ∧ xs.Pairwise (fun a b => Wy cs a.xChain.toNat b.xChain.toNat)
theorem Stk.len {cs : List (List GRule)} {xs : List GPlace} (hs : ∀ i, i < cs.length → Sf cs i) (h : Stk cs xs) : xs.length ≤ cs.length := by
  have hn : (xs.map (fun q => q.xChain.toNat)).Nodup := by
    rw [List.Nodup, List.pairwise_map]
    refine List.Pairwise.imp_of_mem (fun {a b} ha hb hw e => ?_) h.2
    rw [← e] at hw
    exact wy_loop (hs _ (h.1 a ha).2.1) hw
  have := nodup_len cs.length _ hn (fun x hx => by
    obtain ⟨q, hq, rfl⟩ := List.mem_map.1 hx
    exact (h.1 q hq).2.1)
  simpa using this
theorem Stk.drop {cs : List (List GRule)} {ys : List GPlace} {q : GPlace} (h : Stk cs (ys ++ [q])) : Stk cs ys := ⟨fun x hx => h.1 x (List.mem_append.2 (.inl hx)), (List.pairwise_append.1 h.2).1⟩
theorem Stk.move {cs : List (List GRule)} {ys : List GPlace} {q q' : GPlace} (h : Stk cs (ys ++ [q])) (hq : okP cs q') (hc : q'.xChain = q.xChain) : Stk cs (ys ++ [q']) := by
  refine ⟨fun x hx => ?_, ?_⟩
  · rcases List.mem_append.1 hx with hx | hx
    · exact h.1 x (List.mem_append.2 (.inl hx))
    · rw [List.mem_singleton] at hx; subst hx; exact hq
  · obtain ⟨h1, _, h3⟩ := List.pairwise_append.1 h.2
    refine List.pairwise_append.2 ⟨h1, by simp, fun a ha b hb => ?_⟩
    rw [List.mem_singleton] at hb
    subst hb
    rw [hc]
    exact h3 a ha q (by simp)
theorem Stk.push {cs : List (List GRule)} {ys : List GPlace} {q q' : GPlace} (h : Stk cs (ys ++ [q])) (hq : okP cs q') (hc : Ca cs q.xChain.toNat q'.xChain.toNat) : Stk cs (ys ++ [q] ++ [q']) := by
  refine ⟨fun x hx => ?_, ?_⟩
  · rcases List.mem_append.1 hx with hx | hx
    · exact h.1 x hx
    · rw [List.mem_singleton] at hx; subst hx; exact hq
  · refine List.pairwise_append.2 ⟨h.2, by simp, fun a ha b hb => ?_⟩
    rw [List.mem_singleton] at hb
    subst hb
    rcases List.mem_append.1 ha with ha | ha
    · exact .more ((List.pairwise_append.1 h.2).2.2 a ha q (by simp)) hc
    · rw [List.mem_singleton] at ha; subst ha; exact .one hc
theorem snoc_cases {α : Type} (xs : List α) (h : 0 < xs.length) : ∃ ys q, xs = ys ++ [q] := ⟨xs.dropLast, xs.getLast (List.ne_nil_of_length_pos h), (List.dropLast_concat_getLast (List.ne_nil_of_length_pos h)).symm⟩
theorem S_leave {ys : List GPlace} {q : GPlace} {vis : List GVisit} {d : Int} {κ : List GPlace → Prop} (hl : ys.length ≤ 50) (h : κ ys) : L_impl_walk_leave (ys ++ [q]) vis d κ := by
  unfold L_impl_walk_leave jnW
  have hw : w64 (((ys ++ [q]).length : Int) - 1) = (ys.length : Int) := by
    rw [w64_small (by simp <;> omega) (by simp <;> omega)]; simp
  rw [hw]
  refine ⟨by omega, by omega, by simp <;> omega, ?_⟩
  rw [show ((ys.length : Int)).toNat = ys.length from by omega, show ((0 : Int)).toNat = 0 from rfl, List.drop_zero, List.take_left']
  · exact h
  · rfl
theorem S_walkThrough {s : GRuleset} {p : GPacket} (hv : SV s) {κ : List GPlace × List GVisit × Int → Prop} (h : ∀ st vis, κ (st, vis, J s.xChains p 0)) : L_impl_walkThrough s p κ := by
  unfold L_impl_walkThrough
  have hcs := hv.1.1
  generalize hcc : s.xChains = cs at *
  have hsf := hv.2.2
  rw [hcc] at hsf
  have hpos : 0 < cs.length := by have := hv.2.1; rw [hcc] at this; omega
  have hcn : Cn cs := hcc ▸ hv.cn
  have htg := hv.1.2
  rw [hcc] at htg
  refine loopW_inv (fun t => Stk cs t.1 ∧ t.2.1.length ≤ 200 ∧ (t.2.2 = 5 → Jst cs p t.1.reverse = J cs p 0) ∧ (t.2.2 ≠ 5 → t.2.2 = J cs p 0)) (fun t => if t.2.2 = 5 then 1 + wst cs t.1 else 0) ?_ ⟨⟨fun q hq => ?_, by simp⟩, by simp, fun _ => ?_, fun hx => absurd rfl hx⟩
  rotate_left
  · simp only [List.mem_singleton] at hq; subst hq
    exact ⟨by simp, by simpa using hpos, by simp, by simp⟩
  · have : sfx cs ⟨0, 0⟩ = chn cs 0 := by simp [sfx]
    simp only [List.reverse_cons, List.reverse_nil, List.nil_append, Jst, this]
    rw [← J_fix hcn hsf 0]
    split
    · rename_i e; rw [e]
    · rfl
  rintro ⟨xs, vis, d⟩ next ⟨hst, hvl, h5, hd⟩ hn
  simp only at hst hvl h5 hd
  unfold jnW
  refine ifW_of (fun hlen => ?_) (fun hlen => ifW_of (fun hx => by simp at hx) (fun _ => ?_))
  rotate_left
  · have hx0 : xs = [] := by simp at hlen; exact hlen
    by_cases e : d = 5
    · have := h5 e
      rw [hx0] at this
      simp only [List.reverse_nil, Jst] at this
      rw [e, this]
      exact h _ _
    · rw [hd e]; exact h _ _
  refine ifW_of (fun h5' => ?_) (fun h5' => ?_)
  rotate_left
  · have e : d ≠ 5 := by simpa using h5'
    rw [hd e]; exact h _ _
  have e5 : d = 5 := by simpa using h5'
  subst e5
  clear hd
  have hJ := h5 rfl
  clear h5
  obtain ⟨ys, q, rfl⟩ := snoc_cases xs (by have h' : (0 : Int) < (xs.length : Int) := of_decide_eq_true hlen; omega)
  have hll := hst.len hsf
  obtain ⟨q0, q1, q2, q3⟩ := hst.1 q (by simp)
  simp only [List.length_append, List.length_cons, List.length_nil] at hll
  have hchn := chn_get q1
  obtain ⟨h8, hrv⟩ := htg _ (List.getElem_mem q1)
  refine subW_of (by simp <;> omega) (by simp <;> omega) (idxW_of ys.length (by simp) (by simp) ?_)
  rw [show (ys ++ [q])[ys.length]'(by simp) = q by simp]
  refine idxW_of q.xChain.toNat (by omega) q1 ?_
  rw [← hchn]
  rw [← hchn] at h8 hrv
  have hrev : (ys ++ [q]).reverse = q :: ys.reverse := by simp
  rw [hrev] at hJ
  have hset : ∀ q' : GPlace, (ys ++ [q]).set ((((ys ++ [q]).length : Int) - 1)).toNat q' = ys ++ [q'] := by
    intro q'
    have : ((((ys ++ [q]).length : Int) - 1)).toNat = ys.length := by simp
    rw [this, List.set_append_right _ _ (Nat.le_refl _)]; simp
  -- the next state
  have go : ∀ (xs' : List GPlace) (vis' : List GVisit), Stk cs xs' → vis'.length ≤ 200 → Jst cs p xs'.reverse = J cs p 0 → wst cs xs' < wst cs (ys ++ [q]) → next (xs', vis', 5) := fun xs' vis' a b c d => hn _ ⟨a, b, fun _ => c, fun hx => absurd rfl hx⟩ (by simp only [if_true]; omega)
  refine ifW_of (fun hx => ?_) (fun hx => ?_)
  · have e : q.xNext = ((chn cs q.xChain.toNat).length : Int) := by simpa using hx
    have hs0 : sfx cs q = [] := List.drop_eq_nil_of_le (by omega)
    refine S_leave (by omega) (go ys vis hst.drop hvl ?_ ?_)
    · simp only [Jst, hs0, jl, if_true] at hJ; exact hJ
    · rw [wst_snoc, hs0, wt_nil]; omega
  · have e : q.xNext ≠ ((chn cs q.xChain.toNat).length : Int) := by simpa using hx
    have hlt : q.xNext.toNat < (chn cs q.xChain.toNat).length := by omega
    obtain ⟨hr, hrc⟩ := hrv _ (List.getElem_mem hlt)
    have hmem : (chn cs q.xChain.toNat)[q.xNext.toNat] ∈ chn cs q.xChain.toNat := List.getElem_mem hlt
    have hok' : okP cs ⟨q.xChain, q.xNext + 1⟩ := ⟨q0, q1, by simp only; omega, by simp only; omega⟩
    have hs1 : sfx cs q = (chn cs q.xChain.toNat)[q.xNext.toNat] :: sfx cs ⟨q.xChain, q.xNext + 1⟩ := by
      unfold sfx
      rw [List.drop_eq_getElem_cons hlt]
      simp only
      rw [show (q.xNext + 1).toNat = q.xNext.toNat + 1 by omega]
    generalize hrr : (chn cs q.xChain.toNat)[q.xNext.toNat] = r at *
    have hw0 := wst_snoc cs ys q
    rw [hs1, wt_cons] at hw0
    simp only [Jst, hs1, jl] at hJ
    have hmv : Stk cs (ys ++ [⟨q.xChain, q.xNext + 1⟩]) := hst.move hok' rfl
    have hstay : ∀ vis' : List GVisit, vis'.length ≤ 200 → (if jl p (J cs p) (sfx cs ⟨q.xChain, q.xNext + 1⟩) = 5 then Jst cs p ys.reverse else jl p (J cs p) (sfx cs ⟨q.xChain, q.xNext + 1⟩)) = J cs p 0 → next (ys ++ [⟨q.xChain, q.xNext + 1⟩], vis', 5) := by
      intro vis' hv' hj
      refine go _ vis' hmv hv' ?_ ?_
      · simp only [List.reverse_append, List.reverse_cons, List.reverse_nil, List.nil_append, List.singleton_append, Jst]; exact hj
      · rw [wst_snoc, hw0]; omega
    have ir : ∀ (K : GRule → Prop), K r → idxW (chn cs q.xChain.toNat) q.xNext K := fun K hK => idxW_of q.xNext.toNat (by omega) hlt (by rw [hrr]; exact hK)
    refine addW_of (by omega) (by omega) (ir _ (S_impl_allHold (by have := hr.1.2; omega) hr.1.1 ?_))
    rw [hset]
    refine ifW_of (fun hx => ?_) (fun hx => ?_)
    · have hf : ft r.xTests p = false := by simpa using hx
      rw [hf] at hJ
      exact hstay vis hvl (by simpa using hJ)
    · have hf : ft r.xTests p = true := by simpa using hx
      rw [hf] at hJ
      simp only [if_true] at hJ
      have core : ∀ vis' : List GVisit, vis'.length ≤ 200 → idxW (chn cs q.xChain.toNat) q.xNext (fun e191 => L_impl_actionOf e191 (fun r197 => IAction.casesW r197 (fun x198 => L_impl_deciding_walk x198 (ys ++ [⟨q.xChain, q.xNext + 1⟩]) vis' 5 (fun r202 => next (ys ++ [⟨q.xChain, q.xNext + 1⟩], vis', r202))) (fun x199 => L_impl_calling_walk x199 (ys ++ [⟨q.xChain, q.xNext + 1⟩]) vis' 5 (fun r203 => next (r203, vis', 5))) (fun x200 => L_impl_returning_walk (GReturning.mk ) (ys ++ [⟨q.xChain, q.xNext + 1⟩]) vis' 5 (fun r206 => next (r206, vis', 5))) (fun x201 => L_impl_passing_walk (GPassing.mk ) (ys ++ [⟨q.xChain, q.xNext + 1⟩]) vis' 5 (fun _ => next (ys ++ [⟨q.xChain, q.xNext + 1⟩], vis', 5))))) := by
        intro vis' hv'
        refine ir _ ?_
        have dec : ∀ d : Int, d ≠ 5 → d = J cs p 0 → next (ys ++ [⟨q.xChain, q.xNext + 1⟩], vis', d) := fun d hd5 hd => hn _ ⟨hmv, hv', fun e => absurd e hd5, fun _ => hd⟩ (by simp only [if_neg hd5, if_true]; omega)
        unfold L_impl_actionOf
        by_cases h1 : r.xAction = 1
        · rw [if_pos h1] at hJ
          refine ifW_of (fun _ => ?_) (fun hx => by simp at hx; exact absurd h1 hx)
          dsimp only [IAction.casesW]
          unfold L_impl_deciding_walk
          exact ifW_of (fun _ => dec 1 (by decide) (by simpa using hJ)) (fun hx => by simp at hx)
        · rw [if_neg h1] at hJ
          refine ifW_of (fun hx => by simp at hx; exact absurd hx h1) (fun _ => ?_)
          by_cases h2 : r.xAction = 2
          · rw [if_pos h2] at hJ
            refine ifW_of (fun _ => ?_) (fun hx => by simp at hx; exact absurd h2 hx)
            dsimp only [IAction.casesW]
            unfold L_impl_deciding_walk
            exact ifW_of (fun hx => by simp at hx) (fun _ => dec 2 (by decide) (by simpa using hJ))
          · rw [if_neg h2] at hJ
            refine ifW_of (fun hx => by simp at hx; exact absurd hx h2) (fun _ => ?_)
            by_cases h3 : r.xAction = 3
            · have h4 : r.xAction ≠ 4 := by omega
              rw [if_neg h4, if_pos h3] at hJ
              rw [if_pos h3] at hw0
              refine ifW_of (fun _ => ?_) (fun hx => by simp at hx; exact absurd h3 hx)
              dsimp only [IAction.casesW]
              unfold L_impl_calling_walk jnW
              have hch := hr.2.2.2.1 h3
              have hca : Ca cs q.xChain.toNat r.xChain.toNat := ca_mem hmem h3 hch.1
              have hcl : r.xChain.toNat < cs.length := by have := hrc; omega
              refine appW_of (by simp; omega) (go _ vis' (hmv.push ⟨hch.1, hcl, by simp, by simp⟩ hca) hv' ?_ ?_)
              · have hs2 : sfx cs ⟨r.xChain, 0⟩ = chn cs r.xChain.toNat := by simp [sfx]
                simp only [List.reverse_append, List.reverse_cons, List.reverse_nil, List.nil_append, List.singleton_append, List.cons_append, Jst, hs2]
                rw [← J_fix hcn hsf]
                by_cases hj5 : J cs p r.xChain.toNat = 5
                · rw [if_pos hj5] at hJ ⊢; exact hJ
                · rw [if_neg hj5] at hJ ⊢
                  rw [if_neg hj5] at hJ; exact hJ
              · have hs2 : sfx cs ⟨r.xChain, 0⟩ = chn cs r.xChain.toNat := by simp [sfx]
                have hhh : Hh cs (jN cs) r.xChain.toNat := jN_ok hsf q.xChain.toNat _ hca
                rw [wst_snoc, wst_snoc, hs2, wt_stab hcn hhh, hw0]; omega
            · refine ifW_of (fun hx => by simp at hx; exact absurd hx h3) (fun _ => ?_)
              by_cases h4 : r.xAction = 4
              · rw [if_pos h4] at hJ
                refine ifW_of (fun _ => ?_) (fun hx => by simp at hx; exact absurd h4 hx)
                dsimp only [IAction.casesW]
                unfold L_impl_returning_walk
                refine S_leave (by omega) (go ys vis' hst.drop hv' (by simpa using hJ) ?_)
                rw [hw0]; omega
              · rw [if_neg h4, if_neg h3] at hJ
                refine ifW_of (fun hx => by simp at hx; exact absurd hx h4) (fun _ => ?_)
                dsimp only [IAction.casesW]
                unfold L_impl_passing_walk
                exact hstay vis' hv' hJ
      refine ifW_of (fun h2 => appW_of (by simp; omega) (core _ (by simp at h2 ⊢; omega))) (fun _ => core _ hvl)
theorem S_judgeValid {s : GRuleset} {p : GPacket} (hv : SV s) {κ : Bool → Prop} (h : κ (jdg s p)) : L_impl_judgeValid s p κ := by
  unfold L_impl_judgeValid
  refine S_walkThrough (p := p) hv (fun st vis => ?_)
  unfold jdg at h
  show ifW _ _ _
  refine ifW_of (fun hx => ?_) (fun hx => ifW_of (fun hy => ?_) (fun hy => ?_))
  · have e : J s.xChains p 0 = 1 := by simpa using hx
    rw [if_pos e] at h; exact h
  · have e : J s.xChains p 0 = 2 := by simpa using hy
    rw [if_neg (by omega), if_pos e] at h; exact h
  · have e1 : ¬ J s.xChains p 0 = 1 := by simpa using hx
    have e2 : ¬ J s.xChains p 0 = 2 := by simpa using hy
    rw [if_neg e1, if_neg e2] at h; exact h
theorem S_impl_Judge {s : GRuleset} {p : GPacket} {κ : Bool → Prop} (hb : Bd s) (h1 : SV s → pv p → κ (jdg s p)) (h2 : ¬ (SV s ∧ pv p) → κ false) : L_impl_Judge s p κ := by
  unfold L_impl_Judge jnW
  refine S_impl_RulesetValid hb (fun b hbv => ifW_of (fun hx => ifW_of (fun _ => h2 (fun hh => ?_)) (fun hy => by simp at hy)) (fun hx => S_PacketValid (ifW_of (fun hy => h2 (fun hh => ?_)) (fun hy => ?_))))
  · rw [hbv.2 hh.1] at hx; cases hx
  · rw [decide_eq_true hh.2] at hy; cases hy
  exact S_judgeValid (hbv.1 (by simpa using hx)) (h1 (hbv.1 (by simpa using hx)) (by simpa using hy))


end
section
open Go Go.Proofs

theorem addS_lenT : ∀ (l : List GSpan) (s : GSpan) (out : List GSpan) (pl : Bool), (addS l s out pl).1.length + (if (addS l s out pl).2.2 then 0 else 1) ≤ out.length + l.length + (if pl then 0 else 1)
  | [], s, out, pl => by cases pl <;> simp [addS]
  | x :: xs, s, out, pl => by
    unfold addS
    by_cases c1 : x.xHi + 1 < s.xLo
    · rw [if_pos c1]
      have := addS_lenT xs s (out ++ [x]) pl
      simp only [List.length_append, List.length_cons, List.length_nil] at this ⊢
      omega
    · rw [if_neg c1]
      by_cases c2 : s.xHi + 1 < x.xLo
      · rw [if_pos c2]
        have := addS_lenT xs s ((if pl then out else out ++ [s]) ++ [x]) true
        cases pl <;> simp only [List.length_append, List.length_cons, List.length_nil, Bool.false_eq_true, if_true, if_false] at this ⊢ <;> omega
      · rw [if_neg c2]
        have := addS_lenT xs (GSpan.mk (min s.xLo x.xLo) (max s.xHi x.xHi)) out pl
        simp only [List.length_cons]
        omega
theorem add1_lenT (l : List GSpan) (s : GSpan) : (add1 l s).length ≤ l.length + 1 := by
  have := addS_lenT l s [] false
  unfold add1
  generalize addS l s [] false = r at *
  obtain ⟨o, s', pl⟩ := r
  cases pl <;> simp at this ⊢ <;> omega
theorem addAll_lenT : ∀ (xs a : List GSpan), (xs.foldl add1 a).length ≤ a.length + xs.length
  | [], a => by simp
  | s :: xs, a => by
    have h1 := addAll_lenT xs (add1 a s)
    have h2 := add1_lenT a s
    simp only [List.foldl_cons, List.length_cons]
    omega
theorem addAll_StT {tp : Int} {xs : List GSpan} (h : ∀ s ∈ xs, SpW tp s) : St (xs.foldl add1 []) tp := by
  obtain ⟨hn, he⟩ := addAll_spec xs [] NF_nil (fun s hs => (h s hs).2.1)
  have hr : ∀ x, hv xs x → 0 ≤ x ∧ x ≤ tp := fun x ⟨s, hs, q1, q2⟩ => by
    have := h s hs; unfold SpW at this; omega
  refine ⟨hn, fun s hs => ?_⟩
  obtain ⟨e1, e2⟩ := NF_ends hn hs
  rw [he] at e1 e2
  exact ⟨(hr _ (e1.resolve_left (hv_nil _))).1, (hr _ (e2.resolve_left (hv_nil _))).2⟩
theorem S_spec_SpansOfT {tp : Int} (h0 : 0 ≤ tp) (h1 : tp ≤ 65535) {xs : List GSpan} (hl : xs.length ≤ 40) (hr : ∀ s ∈ xs, SpW tp s) {κ : List GSpan → Prop} (h : κ (xs.foldl add1 [])) : L_spec_SpansOf xs tp κ := by
  unfold L_spec_SpansOf jnW
  refine S_l1In (ifW_of (fun e => by simp at e; omega) (fun _ => ifW_of (fun e => by simp at e; omega) (fun _ => ?_)))
  refine count_loop xs.length (fun s => s.2) (fun k s => s.2 = (k : Int) ∧ k ≤ xs.length ∧ s.1 = (xs.take k).foldl add1 []) (fun k s h => h.1) (fun k s h => h.2.1) ?_ ⟨rfl, Nat.zero_le _, by simp⟩
  rintro k ⟨es, t⟩ next ⟨rfl, hk, hx⟩ hn
  simp only at hx
  subst hx
  refine ifW_of (fun hc => ?_) (fun hc => ?_)
  · have hlt : k < xs.length := by simpa using hc
    have hin := hr _ (List.getElem_mem hlt)
    unfold SpW at hin
    have hrt : ∀ s ∈ xs.take k, SpW tp s := fun s hs => hr s (List.mem_of_mem_take hs)
    have hst := addAll_StT hrt
    have hln := addAll_lenT (xs.take k) []
    refine idxW_of k rfl hlt (idxW_of k rfl hlt (S_l1In (ifW_of (fun e => by simp at e; omega) (fun _ => idxW_of k rfl hlt (S_l1In (ifW_of (fun e => by simp at e; omega) (fun _ => ?_)))))))
    refine idxW_of k rfl hlt (S_l1Add (by simp only [List.length_take, List.length_nil] at hln; omega) (fun s hs => ?_) ?_ (addW_of (by omega) (by omega) (hn hlt _ ⟨by simp, by omega, ?_⟩)))
    · have q1 := hst.2 s hs
      have q2 := hst.1.1 s hs
      unfold Sm; omega
    · unfold Sm; omega
    · rw [List.take_succ_eq_append_getElem hlt, List.foldl_append]; rfl
  · have hge : xs.length ≤ k := by simpa using hc
    rw [List.take_of_length_le hge]; exact h
theorem S_l20RawV {b : List UInt8} {p tp : Int} (hb : b.length ≤ 2000) (h0 : 0 ≤ p) (hp : p ≤ 800000) (ht0 : 7 ≤ tp) (ht : tp ≤ 65535) {κ : List GSpan × Int → Prop} (h : ∀ l p', p ≤ p' → p' ≤ p + 101 → l.length ≤ 5 → (∀ s ∈ l, SpW tp s) → κ (l, p')) : L_spec_l20Raw b p tp 0 κ := by
  have rd : ∀ p', p ≤ p' → p' ≤ p + 300 → RdP b p' := fun p' a c => ⟨hb, by omega, by omega⟩
  unfold L_spec_l20Raw
  refine S_pick (rd p (by omega) (by omega)) (fun v a c => ?_)
  refine loopW_inv (fun (s : Int × List GSpan × Int) => 0 ≤ s.2.2 ∧ s.2.2 ≤ 5 ∧ p ≤ s.1 ∧ s.1 ≤ p + 1 + 20 * (5 - s.2.2) ∧ s.2.1.length + s.2.2.toNat ≤ 5 ∧ ∀ t, t ∈ s.2.1 → SpW tp t) (fun s => s.2.2.toNat) ?_ ⟨a, by simp only; omega, by simp only; omega, by simp only; omega, by simp only [List.length_nil]; omega, by simp⟩
  rintro ⟨q, xs, k⟩ next ⟨k0, k1, q0, q1, hx, hvl⟩ hnx
  simp only at k0 k1 q0 q1 hx hvl
  refine ifW_of (fun hc => ?_) (fun hc => ?_)
  · simp at hc
    refine S_l20SpanV hb (by omega) (by omega) ht0 ht (fun t p' g1 g2 tv => appW_of (by simp; omega) (subW_of (by omega) (by omega) (hnx _ ⟨by simp only; omega, by simp only; omega, by simp only; omega, by simp only; omega, by simp; omega, fun y hy => ?_⟩ (by simp only; omega))))
    rcases List.mem_append.1 hy with hy | hy
    · exact hvl y hy
    · rw [List.mem_singleton] at hy; subst hy; exact tv
  · simp at hc
    exact h _ _ (by omega) (by omega) (by omega) hvl
theorem S_l20SetV {b : List UInt8} {p tp : Int} (hb : b.length ≤ 2000) (h0 : 0 ≤ p) (hp : p ≤ 800000) (ht0 : 7 ≤ tp) (ht : tp ≤ 65535) {κ : List GSpan × Int → Prop} (h : ∀ l p', p ≤ p' → p' ≤ p + 101 → SpV l tp → κ (l, p')) : L_spec_l20Set b p tp 0 κ := by
  unfold L_spec_l20Set
  refine S_l20RawV hb h0 hp ht0 ht (fun l p' g1 g2 hl hs => S_spec_SpansOfT (by omega) ht (by omega) hs (jnW_i (S_odd0 (ifW_f (h _ _ g1 g2 ⟨?_, addAll_StT hs⟩)))))
  have := addAll_lenT l []
  simp only [List.length_nil] at this
  omega
theorem F4_le {a : A4ListGSpan} : F4 a ↔ le4 a 40 := ⟨fun ⟨f0, f1, f2, f3⟩ f h0 h1 => by
  rcases four h0 h1 with rfl | rfl | rfl | rfl
  · exact f0
  · exact f1
  · exact f2
  · exact f3, le4_F4⟩
theorem BV_set {a : A4ListGSpan} (hb : B4 a) (hf : F4 a) {f : Int} (h0 : 0 ≤ f) (h1 : f ≤ 3) {x : List GSpan} (hx : SpV x (top f)) : BV (bx (set4 a f x)) :=
  BV_bx.2 ⟨set4_B4 hb h0 h1 hx.2, le4_F4 (le4_set (F4_le.1 hf) h0 h1 hx.1 (Nat.le_refl _))⟩
theorem BV_boxT {ts : List GTest} (h : TsV ts) : BV (bx (boxT ts)) := by
  have hl := h.2
  refine BV_bx.2 ⟨boxT_B4 h.1, le4_F4 (fun f h0 h1 => ?_)⟩
  have := boxT_le h.1 f h0 h1
  omega
theorem S_l20BoxV {b : List UInt8} {p : Int} (hb : b.length ≤ 2000) (h0 : 0 ≤ p) (hp : p ≤ 600000) {κ : GBox × Int → Prop} (h : ∀ x p', p ≤ p' → p' ≤ p + 450 → BV x → κ (x, p')) : L_spec_l20Box b p 0 κ := by
  have rd : ∀ p', p ≤ p' → p' ≤ p + 1000 → RdP b p' := fun p' a c => ⟨hb, by omega, by omega⟩
  unfold L_spec_l20Box
  refine S_l20TestsV hb h0 (by omega) (fun ts p1 g1 g2 hts => S_TestsBox hts (jnW_i (S_pick (rd _ (by omega) (by omega)) (fun v a c => ?_))))
  have hv' := BV_boxT hts
  have hB := hv'.b4
  have hF := hv'.f4
  rw [sd_bx] at hB hF
  refine ifW_of (fun _ => ?_) (fun _ => jnW_i (S_odd0 (ifW_f (h _ _ (by omega) (by omega) hv'))))
  refine S_pick (rd _ (by omega) (by omega)) (fun f a2 c2 => ?_)
  have f3 : f ≤ 3 := by omega
  have tl := top_le f
  refine S_spec_FieldTop a2 f3 (S_l20SetV hb (by omega) (by omega) tl.1 tl.2 (fun x p2 g3 g4 hx => ?_))
  refine idx4 (a := boxT ts) a2 f3 (jnW_i (S_odd0 (ifW_f ?_)))
  have e : (bx (boxT ts)).xSides.set f.toNat x = L4 (set4 (boxT ts) f x) := set4_L4 a2 f3
  rw [e]
  exact h _ _ (by omega) (by omega) (BV_set hB hF a2 f3 hx)
theorem S_l20FlatsP {b : List UInt8} {p n : Int} (hb : b.length ≤ 2000) (h0 : 0 ≤ p) (hp : p ≤ 500000) (hn : n ≤ 4294967296) {κ : List GFlat × Int → Prop} (h : ∀ l p', p ≤ p' → p' ≤ p + 6100 → l.length ≤ 61 → (∀ f ∈ l, Bb f.xWhere) → κ (l, p')) : L_spec_l20Flats b p n κ := by
  have rd : ∀ p', p ≤ p' → p' ≤ p + 10000 → RdP b p' := fun p' a c => ⟨hb, by omega, by omega⟩
  unfold L_spec_l20Flats
  refine S_pick (rd p (by omega) (by omega)) (fun v a c => ?_)
  refine loopW_inv (fun (s : Int × List GFlat × Int) => 0 ≤ s.2.2 ∧ s.2.2 ≤ 6 ∧ p ≤ s.1 ∧ s.1 ≤ p + 1 + 1000 * (6 - s.2.2) ∧ s.2.1.length + s.2.2.toNat ≤ 6 ∧ ∀ f, f ∈ s.2.1 → BV f.xWhere) (fun s => s.2.2.toNat) ?_ ⟨a, by simp only; omega, by simp only; omega, by simp only; omega, by simp only [List.length_nil]; omega, by simp⟩
  rintro ⟨q, xs, k⟩ next ⟨k0, k1, q0, q1, hx, hvl⟩ hnx
  simp only at k0 k1 q0 q1 hx hvl
  refine ifW_of (fun hc => ?_) (fun hc => ?_)
  · simp at hc
    refine S_l20BoxV hb (by omega) (by omega) (fun x p1 g1 g2 bv => S_pick (rd _ (by omega) (by omega)) (fun v2 a2 c2 => ?_))
    have fin : ∀ (p2 : Int) (ys : List (List GSpan)) (acc : Bool), p1 ≤ p2 → p2 ≤ p1 + 500 → BV (GBox.mk ys) → appW xs ([(GFlat.mk (GBox.mk ys) acc)]) (fun _ => subW k 1 (fun t201 => next (p2, (xs ++ ([(GFlat.mk (GBox.mk ys) acc)])), t201))) := fun p2 ys acc e1 e2 bv2 => by
      refine appW_of (by simp; omega) (subW_of (by omega) (by omega) (hnx _ ⟨by simp only; omega, by simp only; omega, by simp only; omega, by simp only; omega, by simp; omega, fun y hy => ?_⟩ (by simp only; omega)))
      rcases List.mem_append.1 hy with hy | hy
      · exact hvl y hy
      · rw [List.mem_singleton] at hy; subst hy; exact bv2
    refine jnW_i (jnW_i (ifW_of (fun e => ?_) (fun e => ?_)))
    · refine S_pick (rd _ (by omega) (by omega)) (fun v3 a3 c3 => ifW_of (fun e3 => ?_) (fun e3 => fin _ _ _ (by omega) (by omega) bv))
      have hpos : 0 < xs.length := by simpa using e
      refine subW_of (by omega) (by omega) (idxW_of (xs.length - 1) (by omega) (by omega) ?_)
      have hlast := hvl _ (List.getElem_mem (show xs.length - 1 < xs.length by omega))
      generalize hz : xs[xs.length - 1] = z at *
      have hz4 := BV_len hlast
      obtain ⟨bz, acz⟩ := z
      obtain ⟨az, rfl, hBz, hFz⟩ := hlast
      refine appW_of (by simp [bx]) (S_pick (rd _ (by omega) (by omega)) (fun f a4 c4 => ?_))
      have f3 : f ≤ 3 := by omega
      have tl := top_le f
      refine S_spec_FieldTop a4 f3 (S_l20SetV hb (by omega) (by omega) tl.1 tl.2 (fun x p2 g3 g4 hx => ?_))
      refine idx4 (a := az) a4 f3 (subW_of (by omega) (by omega) (idxW_of (xs.length - 1) (by omega) (by omega) ?_))
      have e : List.set ([] ++ (bx az).xSides) f.toNat x = L4 (set4 az f x) := set4_L4 a4 f3
      rw [e]
      exact fin _ _ _ (by omega) (by omega) (BV_set hBz hFz a4 f3 hx)
    · exact ifW_f (fin _ _ _ (by omega) (by omega) bv)
  · simp at hc
    refine jnW_i (S_odd (rd _ (by omega) (by omega)) hn (fun o p1 f1 f2 => ifW_of (fun _ => ?_) (fun _ => h _ _ (by omega) (by omega) (by omega) (fun f hf => (hvl f hf).bb))))
    refine S_pick (rd _ (by omega) (by omega)) (fun v2 a2 c2 => ifW_of (fun _ => ?_) (fun _ => ?_))
    · refine appW_of (by simp; omega) (h _ _ (by omega) (by omega) (by simp; omega) (fun f hf => ?_))
      rcases List.mem_append.1 hf with hf | hf
      · exact (hvl f hf).bb
      · rw [List.mem_singleton] at hf; subst hf; exact ⟨by simp, by simp⟩
    · refine loopW_inv (fun (s : List GFlat) => s.length ≤ 61 ∧ ∀ f, f ∈ s → BV f.xWhere) (fun s => 61 - s.length) ?_ ⟨by omega, hvl⟩
      rintro ys next2 ⟨hy, hvy⟩ hnx2
      refine ifW_of (fun e => ?_) (fun e => h _ _ (by omega) (by omega) hy (fun f hf => (hvy f hf).bb))
      have e' : ys.length ≤ 60 := by
        have : (ys.length : Int) ≤ 60 := by simpa using e
        omega
      refine S_BoxAll (appW_of (by simp; omega) (hnx2 _ ⟨by simp; omega, fun f hf => ?_⟩ (by simp; omega)))
      rcases List.mem_append.1 hf with hf | hf
      · exact hvy f hf
      · rw [List.mem_singleton] at hf; subst hf; exact BV_bx.2 ⟨all4_B4, le4_F4 (fun f h0 h1 => by have := all4_le f h0 h1; omega)⟩

end
section
open Go Go.Proofs

theorem hv_one (x : GSpan) (v : Int) : hv [x] v ↔ x.xLo ≤ v ∧ v ≤ x.xHi := by simp [hv]
theorem hv_two (x y : GSpan) (v : Int) : hv [x, y] v ↔ (x.xLo ≤ v ∧ v ≤ x.xHi) ∨ (y.xLo ≤ v ∧ v ≤ y.xHi) := by simp [hv]
theorem bt1_spec {n : Nat} (hn : n < 4) {s : List GSpan} (hs : St s (top n)) {m : List GTest} (h : bt1 n s = some m) : (∀ t ∈ m, TV t) ∧ ∀ p, pv p → (ft m p = true ↔ hv s (fieldP p n)) := by
  have hfl : ∀ p, pv p → 0 ≤ fieldP p n ∧ fieldP p n ≤ top n := fun p hp => by
    obtain ⟨h0, h1, h2, h3⟩ := hp
    rcases four_nat hn with rfl | rfl | rfl | rfl
    · exact h0
    · exact h1
    · exact h2
    · exact h3
  unfold bt1 at h
  split at h
  · rename_i x
    have hx := hs.2 x (by simp)
    have hx2 := hs.1.1 x (by simp)
    split at h
    · rename_i e
      injection h with h; subst h
      refine ⟨by simp, fun p hp => ?_⟩
      rw [hv_one, e]
      have := hfl p hp
      simp [ft, this]
    · injection h with h; subst h
      refine ⟨fun t ht => ?_, fun p hp => ?_⟩
      · rw [List.mem_singleton] at ht; subst ht
        exact ⟨by simp only; omega, by simp only; omega, hx.1, hx2, hx.2⟩
      · rw [hv_one]
        simp [ft, th]
  · rename_i x y
    have hx := hs.2 x (by simp)
    have hx2 := hs.1.1 x (by simp)
    have hy := hs.2 y (by simp)
    have hy2 := hs.1.1 y (by simp)
    have hg : x.xHi + 1 < y.xLo := (List.pairwise_cons.1 hs.1.2).1 y (by simp)
    split at h
    · rename_i e
      injection h with h; subst h
      refine ⟨fun t ht => ?_, fun p hp => ?_⟩
      · rw [List.mem_singleton] at ht; subst ht
        exact ⟨by simp only; omega, by simp only; omega, by simp only; omega, by simp only; omega, by simp only; omega⟩
      · rw [hv_two]
        have := hfl p hp
        simp only [ft, th, List.all_cons, List.all_nil, Bool.and_true, bne_iff_ne, ne_eq, decide_eq_true_eq, Int.toNat_natCast]
        omega
    · cases h
  · cases h
theorem btN_spec {a : A4ListGSpan} (ha : B4 a) : ∀ {k : Nat} {l : List GTest}, k ≤ 4 → btN a k = some l → (∀ t ∈ l, TV t) ∧ ∀ p, pv p → (ft l p = true ↔ ∀ n : Nat, n < k → hv (get4 a n) (fieldP p n))
  | 0, l, _, h => by
    simp only [btN, Option.some.injEq] at h; subst h
    exact ⟨by simp, fun p _ => by simp [ft]⟩
  | k + 1, l, hk, h => by
    unfold btN at h
    split at h
    · cases h
    · rename_i l1 h1
      split at h
      · cases h
      · rename_i m h2
        injection h with h; subst h
        obtain ⟨a1, b1⟩ := btN_spec ha (by omega) h1
        obtain ⟨a2, b2⟩ := bt1_spec (show k < 4 by omega) (get4_St ha (by omega) (by omega)) h2
        refine ⟨fun t ht => (List.mem_append.1 ht).elim (a1 t) (a2 t), fun p hp => ?_⟩
        have e : ft (l1 ++ m) p = (ft l1 p && ft m p) := by simp [ft]
        rw [e, Bool.and_eq_true, b1 p hp, b2 p hp]
        constructor
        · rintro ⟨q1, q2⟩ n hn
          by_cases en : n = k
          · subst en; exact q2
          · exact q1 n (by omega)
        · intro q
          exact ⟨fun n hn => q n (by omega), q k (by omega)⟩
theorem btF_spec {a : A4ListGSpan} (ha : B4 a) {l : List GTest} (h : btF a = some l) : TsV l ∧ ∀ p, pv p → (ft l p = true ↔ hb4 a p) := by
  unfold btF at h
  split at h
  · cases h
  · obtain ⟨h1, h2⟩ := btN_spec ha (by decide) h
    have := btN_len h
    exact ⟨⟨h1, by omega⟩, fun p hp => by rw [h2 p hp, hb4_iff]⟩
theorem frS_SV {l : List GFlat} {rest : Bool} (h : frOk l) : SV (frS l rest) := by
  have h8 := h.2.1
  have nocall : ∀ i j, ¬ Ca (frS l rest).xChains i j := fun i j ⟨c, hc, r, hr, h3, _⟩ => by
    have hc' := List.mem_of_getElem? hc
    simp only [frS, List.mem_singleton] at hc'
    subst hc'
    obtain ⟨f, hf, rfl⟩ := List.mem_map.1 hr
    unfold ruD at h3
    simp only at h3
    split at h3 <;> omega
  refine ⟨⟨by simp [frS], fun c hc => ?_⟩, by simp [frS], fun i _ => sf_of (fun j hj => absurd hj (nocall i j))⟩
  simp only [frS, List.mem_singleton] at hc
  subst hc
  refine ⟨by simpa using h8, fun r hr => ?_⟩
  obtain ⟨f, hf, rfl⟩ := List.mem_map.1 hr
  refine ⟨⟨?_, ?_⟩, by simp [ruD, frS]⟩
  · cases hbt : btF (sd f.xWhere) with
    | none => exact absurd hbt (h.2.2 f hf)
    | some ts =>
      unfold ruD; rw [hbt]
      exact (btF_spec (h.1.2 f hf).b4 hbt).1
  · unfold HV ruD; simp only
    split <;> decide
/-- what rules without calls decide -/
def jf (l : List GIflat) (rest : Bool) (p : GPacket) : Bool := match l[fw l p]? with | some f => f.xAccept | none => rest
theorem jl_fr {f : Nat → Int} {p : GPacket} (hp : pv p) : ∀ (l : List GFlat), FV l → (∀ f ∈ l, btF (sd f.xWhere) ≠ none) → jl p f (l.map ruD) = (match (l.map fl)[fw (l.map fl) p]? with | some g => if g.xAccept then 1 else 2 | none => 5)
  | [], _, _ => by simp [jl, fw]
  | x :: l, hv', hb => by
    have hbv := hv'.2 x (by simp)
    cases hbt : btF (sd x.xWhere) with
    | none => exact absurd hbt (hb x (by simp))
    | some ts =>
      have hs := (btF_spec hbv.b4 hbt).2 p hp
      have er : ruD x = ⟨ts, if x.xAccept then 1 else 2, 0⟩ := by unfold ruD; rw [hbt]; rfl
      have ih := jl_fr (f := f) hp l ⟨by have := hv'.1; simp at this; omega, fun g hg => hv'.2 g (by simp [hg])⟩ (fun g hg => hb g (by simp [hg]))
      simp only [List.map_cons, jl, er]
      by_cases hh : hb4 (sd x.xWhere) p
      · rw [if_pos (hs.2 hh)]
        have e0 : fw (fl x :: l.map fl) p = 0 := by
          unfold fw; rw [List.findIdx_cons]; simp [fl, hh]
        rw [e0]
        simp only [List.getElem?_cons_zero, fl]
        cases x.xAccept <;> simp
      · rw [if_neg (fun q => hh (hs.1 q)), ih]
        have e0 : fw (fl x :: l.map fl) p = fw (l.map fl) p + 1 := by
          unfold fw; rw [List.findIdx_cons]; simp [fl, hh]
        rw [e0, List.getElem?_cons_succ]
theorem jdg_fr {l : List GFlat} {rest : Bool} {p : GPacket} (hp : pv p) (h : frOk l) : jdg (frS l rest) p = jf (l.map fl) rest p := by
  have hsv := frS_SV (rest := rest) h
  have hJ := J_fix (p := p) hsv.cn hsv.2.2 0
  have ec : chn (frS l rest).xChains 0 = l.map ruD := rfl
  rw [ec, jl_fr hp l h.1 h.2.2] at hJ
  unfold jdg jf
  rw [hJ]
  cases (l.map fl)[fw (l.map fl) p]? with
  | none => simp [frS]
  | some g => cases hg : g.xAccept <;> simp [hg]
theorem S_JudgeFlat {l : List GFlat} {rest : Bool} {p : GPacket} (hl : Fb l) {κ : Bool → Prop} (h1 : FV l → pv p → κ (jf (l.map fl) rest p)) (h2 : ¬ (FV l ∧ pv p) → κ false) : L_impl_JudgeFlat l rest p κ := by
  unfold L_impl_JudgeFlat
  have hl1 := hl.1
  refine jnW_i (S_impl_FlatsValid hl (ifW_of (fun e => ?_) (fun e => S_PacketValid ?_)))
  · exact ifW_t (h2 (fun q => by simp [q.1] at e))
  have hv' : FV l := by simpa using e
  refine ifW_of (fun e2 => h2 (fun q => by simp [q.2] at e2)) (fun e2 => ?_)
  have hp : pv p := by simpa using e2
  have h3 := h1 hv' hp
  refine S_flatsOf hl1 (fun f hf => BV_len (hv'.2 f hf)) (S_firstWith (by simpa using hl1) hv'.iv ?_)
  unfold jf at h3
  unfold fwI
  by_cases q : fw (l.map fl) p < (l.map fl).length
  · rw [if_pos q]
    have q' : fw (l.map fl) p < l.length := by simpa using q
    rw [List.getElem?_eq_getElem q] at h3
    refine ifW_of (fun _ => idxW_of _ rfl q' ?_) (fun e => by simp at e)
    simpa [fl] using h3
  · rw [if_neg q]
    rw [List.getElem?_eq_none (by omega)] at h3
    exact ifW_f h3
theorem S_probe {l : List GBox} {seed : Int} (h0 : 0 ≤ seed) (h1 : seed ≤ 1048576) (hl : l.length ≤ 1000) (hv' : ∀ b ∈ l, BV b) {κ : GPacket → Prop} (h : ∀ p, κ p) : L_laws_probe l seed κ := by
  unfold L_laws_probe
  refine remW_lt h0 (by omega) (by omega) (fun a _ _ => quoW_le h0 (by omega) (by omega) (fun b b0 b1 => remW_lt b0 (by omega) (by omega) (fun c _ _ => remW_lt h0 (by omega) (by omega) (fun d _ _ => remW_lt h0 (by omega) (by omega) (fun e _ _ => ?_)))))
  refine count_loop l.length (fun s => s.2) (fun k (s : List Int × Int) => s.2 = (k : Int) ∧ k ≤ l.length ∧ s.1.length = 4) (fun k s h => h.1) (fun k s h => h.2.1) ?_ ⟨rfl, by omega, rfl⟩
  rintro k ⟨vs, _⟩ next ⟨rfl, hk, hvs⟩ hn
  simp only at hvs
  refine ifW_of (fun hc => ?_) (fun hc => ?_)
  · have hlt : k < l.length := by simpa using hc
    obtain ⟨bb, hbb, hB, hF⟩ := hv' _ (List.getElem_mem hlt)
    refine count_loop 4 (fun s => s.2) (fun j (s : List Int × Int) => s.2 = (j : Int) ∧ j ≤ 4 ∧ s.1.length = 4) (fun k s h => h.1) (fun k s h => h.2.1) ?_ ⟨rfl, by omega, hvs⟩
    rintro j ⟨ws, _⟩ next2 ⟨rfl, hj, hws⟩ hn2
    simp only at hws
    have fin : ifW (decide (j = 4)) (addW (k : Int) 1 (fun t245 => next (ws, t245))) True := by
      refine ifW_of (fun _ => addW_of (by omega) (by omega) (hn hlt _ ⟨by simp, by omega, hws⟩)) (fun _ => trivial)
    refine jnW_i (ifW_of (fun e => idxW_of k rfl hlt ?_) (fun e => ?_))
    · have hj4 : j < 4 := by
        have : (j : Int) < 4 := by simpa using e
        omega
      rw [hbb]
      refine ifW_of (fun _ => ?_) (fun e2 => by simp [bx] at e2; omega)
      refine jnW_i (idxW_of k rfl hlt ?_)
      rw [hbb]
      have step : ∀ ys : List Int, ys.length = 4 → addW (j : Int) 1 (fun t244 => next2 (ys, t244)) := fun ys hy => addW_of (by omega) (by omega) (hn2 hj4 _ ⟨by simp, by omega, hy⟩)
      refine idx4 (a := bb) (by omega) (by omega) ?_
      have hfl : (get4 bb j).length ≤ 40 := F4_le.1 hF _ (by omega) (by omega)
      generalize get4 bb j = sj at hfl
      have go : sj ≠ [] → addW seed (j : Int) (fun t167 => remW t167 (sj.length : Int) (fun t168 => idxW sj t168 (fun e169 => idxW ws (j : Int) (fun e173 => addW seed (k : Int) (fun t176 => remW t176 2 (fun t177 => ifW (decide (t177 = 0)) (idxW (ws.set ((j : Int)).toNat e169.xLo) (j : Int) (fun e178 => addW (j : Int) 1 (fun t244 => next2 (((ws.set ((j : Int)).toNat e169.xLo).set ((j : Int)).toNat e169.xHi), t244)))) (addW (j : Int) 1 (fun t244 => next2 ((ws.set ((j : Int)).toNat e169.xLo), t244))))))))) := fun hne => by
        have hpos := List.length_pos_iff.2 hne
        refine addW_of (by omega) (by omega) (remW_lt (by omega) (by omega) (by omega) (fun z z0 z1 => idxW_any z0 z1 (fun x hx => idxW_of j rfl (by omega) (addW_of (by omega) (by omega) (remW_lt (by omega) (by omega) (by omega) (fun y y0 y1 => ifW_of (fun _ => ?_) (fun _ => step _ (by simp [hws]))))))))
        exact idxW_set (by omega) (step _ (by simp [hws]))
      refine jnW_i (ifW_of (fun e3 => ifW_t (step ws hws)) (fun e3 => ?_))
      have hne : sj ≠ [] := fun q => by rw [q] at e3; simp at e3
      refine addW_of (by omega) (by omega) (addW_of (by omega) (by omega) (remW_lt (by omega) (by omega) (by omega) (fun z z0 z1 => ifW_of (fun _ => step ws hws) (fun _ => go hne))))
    · have hj4 : j = 4 := by
        have : (4 : Int) ≤ j := by simpa using e
        omega
      exact ifW_f (fin.1 (by simp [hj4]))
  · exact idxW_of 0 rfl (by omega) (idxW_of 1 rfl (by omega) (idxW_of 2 rfl (by omega) (idxW_of 3 rfl (by omega) (h _))))
theorem pureFnFlatRuleset (code more : List UInt8) : L_laws_FnFlatRuleset code more (fun r => r = true) := by
  unfold L_laws_FnFlatRuleset
  refine jnW_i (ifW_of (fun _ => ifW_t rfl) (fun _ => ifW_of (fun _ => rfl) (fun hm => ?_)))
  have hml : more.length ≤ 1048576 := by simp at hm; omega
  unfold L_spec_DrawFlatRuleset L_spec_DrawTrimTail
  refine S_l20Open (fun b hb => S_l20FlatsP hb (by omega) (by omega) (by omega) (fun l p g1 g2 hl hbb => S_pick ⟨hb, by omega, by omega⟩ (fun v _ _ => ?_)))
  have hfb : Fb l := ⟨by omega, hbb⟩
  generalize decide (v = 0) = rest
  by_cases h : frOk l
  · have hbs : Bs (frS l rest).xChains := frS_bs h.2.1
    refine S_impl_FlatRuleset hfb (fun _ => S_spec_FlatRuleset hfb (fun _ => ?_) (fun q => absurd h q)) (fun q => absurd h q)
    refine jnW_i (sameRuleset_self hbs (ifW_f ?_))
    refine ifW_of (fun e => by simp at e) (fun _ => ifW_f ?_)
    refine S_impl_FlatBoxes hfb (fun hv' => ?_) (fun q => absurd h.1 q)
    refine S_probe (by omega) (by omega) (by simp; omega) (fun x hx => by obtain ⟨f, hf, rfl⟩ := List.mem_map.1 hx; exact hv'.2 f hf) (fun q => jnW_i ?_)
    refine S_impl_RulesetValid hbs.bd (fun t ht => ?_)
    have et : t = true := ht.2 (frS_SV h)
    subst et
    refine ifW_t (ifW_t (idxW_of 0 rfl (by simp [frS]) ?_))
    refine ifW_of (fun _ => ?_) (fun e => by simp [frS] at e)
    by_cases hq : pv q
    · refine S_impl_Judge hbs.bd (fun _ _ => S_JudgeFlat hfb (fun _ _ => ?_) (fun r => absurd ⟨hv', hq⟩ r)) (fun r => absurd ⟨frS_SV h, hq⟩ r)
      rw [jdg_fr hq h]; simp
    · refine S_impl_Judge hbs.bd (fun _ r => absurd r hq) (fun _ => S_JudgeFlat hfb (fun _ r => absurd r hq) (fun _ => by simp))
  · refine S_impl_FlatRuleset hfb (fun q => absurd q h) (fun _ => S_spec_FlatRuleset hfb (fun q => absurd q h) (fun _ => ?_))
    refine jnW_i (sameRuleset_self bs_nil (ifW_f ?_))
    exact ifW_of (fun e => by simp at e) (fun _ => ifW_t (jnW_i (ifW_t (S_alive rfl))))

end
section
open Go.RowKit

section
variable {P : Program} {n : Nat} {G D : Nat → Prop} {w0 : World} {Q : Exit → Act → World → Prop} {R : Act → World → Prop} {E : Env} {L M : List Ch} {φ : Prop}
variable {d : Tmp} {ty : TypeId} {pos : String} {aft : Array Edge} {gd : Option (Nat × Bool)} {Tk : Act → World → Prop} {Lr : List Ch} {x y : Operand} {T T' S : TypeId} {e sz by' : Nat} {at' : Array TypeId}
/-! ### a part is taken out of a slice of the call's own -/
theorem Rows.drop {α : Type} {El : El α} {F : Nat → Prop} {w : World} : ∀ {xs : List α} {css : List (List Value)} (J : Nat), Rows El F w xs css → Rows El F w (xs.drop J) (css.drop J) ∧ (css.drop J).flatten = css.flatten.drop (J * El.size)
  | [], [], J, h => by simp [Rows]
  | x :: xs, cs :: css, 0, h => ⟨h, by simp⟩
  | x :: xs, cs :: css, J + 1, h => by
    obtain ⟨h1, h2⟩ := Rows.drop (xs := xs) (css := css) J h.2
    have hl := El.len F w x cs h.1
    refine ⟨h1, ?_⟩
    simp only [List.drop_succ_cons, List.flatten_cons, h2]
    have e : (J + 1) * El.size = cs.length + J * El.size := by rw [hl, Nat.add_mul]; omega
    rw [e, List.drop_length_add_append]
  | [], _ :: _, _, h => by simp [Rows] at h
  | _ :: _, [], _, h => by simp [Rows] at h
end

end
section
open Go.RowKit

section
variable {P : Program} {n : Nat} {G D : Nat → Prop} {w0 : World} {Q : Exit → Act → World → Prop} {R : Act → World → Prop} {E : Env} {L M : List Ch} {φ : Prop}
variable {d : Tmp} {ty : TypeId} {pos : String} {aft : Array Edge} {gd : Option (Nat × Bool)} {Tk : Act → World → Prop} {Lr : List Ch} {x y : Operand} {T T' S : TypeId} {e sz by' : Nat} {at' : Array TypeId}
theorem Mem.putObj {i b : Nat} {o o' : Obj} {w : World} (m : Mem G D w0 L w) (hi : lget L i = some (objCh b o)) : Mem G D w0 (lset L i (objCh b o')) (w.putObj b o') := by
  have hb : w.heap[b]? = some o := m.get hi
  have hlt := (Array.getElem?_eq_some_iff.1 hb).1
  refine m.upd hi rfl rfl rfl (by simp) (fun x _ hx => World.putObj_heap_other (fun e => hx e)) (fun x hx => ⟨?_, .inl hx⟩) (World.putObj_heap_same hlt)
  have hx' : x = b := hx
  subst hx'
  simpa using hlt
theorem Mem.absLoop {l : Nat} {rc0 : Loop} {w : World} (m : Mem G D w0 (objCh l (.loop rc0) :: L) w) : ∃ rc, rc = rc0 ∧ Mem G D w0 (objCh l (.loop rc) :: L) w := ⟨rc0, rfl, m⟩
/-- a block just laid, as an object -/
theorem Mem.laid {w : World} (o : Obj) (m : Mem G D w0 L w) : Mem G D w0 (objCh w.heap.size o :: L) (w.alloc o) :=
  m.add _ ((Below.refl _ _).alloc (Nat.le_refl _) _) (fun b hb => by have hb' : b = w.heap.size := hb; subst hb'; simp) (World.alloc_heap_new w o)
/-! ### with a deferred call that waits -/
end

end
section
open Go.RowKit
theorem arr114 : arrB Tryd.prog 114 = some (4, 72, false, 1) := by kernel_rfl
theorem arr129 : arrB Tryd.prog 129 = some (4, 128, true, 2) := by kernel_rfl
theorem arr137 : arrB Tryd.prog 137 = some (5, 4, false, 1) := by kernel_rfl
theorem arr138 : arrB Tryd.prog 138 = some (5, 3, false, 1) := by kernel_rfl
theorem arr141 : arrB Tryd.prog 141 = some (4, 3, false, 1) := by kernel_rfl
theorem bld104 : bldB Tryd.prog 104 = some (#[(0, 1), (1, 1)], [(.slice none 0 0), (.int .i64 0)]) := by kernel_rfl
theorem bld117 : bldB Tryd.prog 117 = some (#[(0, 4), (4, 1)], [(.slice none 0 0), (.slice none 0 0), (.slice none 0 0), (.slice none 0 0), (.bool false)]) := by kernel_rfl
theorem bld125 : bldB Tryd.prog 125 = some (#[(0, 1), (1, 1), (2, 1), (3, 1)], [(.int .i64 0), (.int .i64 0), (.int .i64 0), (.bool false)]) := by kernel_rfl
theorem bld141 : bldA Tryd.prog 141 = some (1, [(.int .i64 0), (.int .i64 0), (.int .i64 0), (.int .i64 0)]) := by kernel_rfl
theorem bld146 : bldB Tryd.prog 146 = some (#[(0, 1), (1, 1), (2, 1)], [(.slice none 0 0), (.slice none 0 0), (.int .i64 0)]) := by kernel_rfl
theorem bld162 : bldB Tryd.prog 162 = some (#[(0, 1), (1, 1)], [(.int .i64 0), (.int .i64 0)]) := by kernel_rfl
theorem bld166 : bldB Tryd.prog 166 = some (#[(0, 1), (1, 1)], [(.int .i64 0), (.int .i64 0)]) := by kernel_rfl
theorem bld184 : bldB Tryd.prog 184 = some (#[(0, 1)], [(.bool false)]) := by kernel_rfl
theorem bld186 : bldB Tryd.prog 186 = some (#[(0, 1)], [(.int .i64 0)]) := by kernel_rfl
theorem bld188 : bldB Tryd.prog 188 = some (#[], []) := by kernel_rfl
theorem bld189 : bldB Tryd.prog 189 = some (#[], []) := by kernel_rfl
theorem bld36 : bldB Tryd.prog 36 = some (#[(0, 1), (1, 1)], [(.slice none 0 0), (.bool false)]) := by kernel_rfl
theorem bld49 : bldB Tryd.prog 49 = some (#[(0, 1), (1, 1), (2, 1), (3, 1)], [(.int .i64 0), (.int .i64 0), (.int .i64 0), (.int .i64 0)]) := by kernel_rfl
theorem bld71 : bldB Tryd.prog 71 = some (#[(0, 1), (1, 1)], [(.int .i64 0), (.int .i64 0)]) := by kernel_rfl
theorem bld85 : bldB Tryd.prog 85 = some (#[(0, 1)], [(.slice none 0 0)]) := by kernel_rfl
theorem bld87 : bldB Tryd.prog 87 = some (#[(0, 1), (1, 1)], [(.slice none 0 0), (.bool false)]) := by kernel_rfl
theorem bld89 : bldB Tryd.prog 89 = some (#[(0, 1), (1, 1), (2, 1)], [(.slice none 0 0), (.int .i64 0), (.int .i64 0)]) := by kernel_rfl
theorem el143 : elB Tryd.prog 143 = some (162, 2, 16) := by kernel_rfl
theorem el144 : elB Tryd.prog 144 = some (166, 2, 16) := by kernel_rfl
theorem el22 : elB Tryd.prog 22 = some (5, 1, 1) := by kernel_rfl
theorem el23 : elB Tryd.prog 23 = some (87, 2, 32) := by kernel_rfl
theorem el27 : elB Tryd.prog 27 = some (3, 1, 8) := by kernel_rfl
theorem el34 : elB Tryd.prog 34 = some (54, 1, 24) := by kernel_rfl
theorem el51 : elB Tryd.prog 51 = some (85, 1, 24) := by kernel_rfl
theorem el54 : elB Tryd.prog 54 = some (89, 3, 40) := by kernel_rfl
theorem el64 : elB Tryd.prog 64 = some (117, 5, 104) := by kernel_rfl
theorem el72 : elB Tryd.prog 72 = some (71, 2, 16) := by kernel_rfl
theorem el80 : elB Tryd.prog 80 = some (125, 4, 32) := by kernel_rfl
theorem el83 : elB Tryd.prog 83 = some (72, 1, 24) := by kernel_rfl
theorem el98 : elB Tryd.prog 98 = some (114, 4, 96) := by kernel_rfl
theorem neqs125 (x y : Operand) (a0 : Int) (a1 : Int) (a2 : Int) (a3 : Bool) (b0 : Int) (b1 : Int) (b2 : Int) (b3 : Bool) (w : World) : (do eqGuard .neq 125 x y (.agg #[(.int .i64 a0), (.int .i64 a1), (.int .i64 a2), (.bool a3)]) (.agg #[(.int .i64 b0), (.int .i64 b1), (.int .i64 b2), (.bool b3)]); binOp .neq 125 (.agg #[(.int .i64 a0), (.int .i64 a1), (.int .i64 a2), (.bool a3)]) (.agg #[(.int .i64 b0), (.int .i64 b1), (.int .i64 b2), (.bool b3)]) : Sem Value).run Tryd.prog w = .ok (.bool (!decide ((GTest.mk a0 a1 a2 a3) = (GTest.mk b0 b1 b2 b3)))) w := by
  simp [go_sem, binOp, Op.equal, Op.maxDepth]
  repeat' split
  all_goals simp_all
theorem eqls71 (x y : Operand) (a0 : Int) (a1 : Int) (b0 : Int) (b1 : Int) (w : World) : (do eqGuard .eql 71 x y (.agg #[(.int .i64 a0), (.int .i64 a1)]) (.agg #[(.int .i64 b0), (.int .i64 b1)]); binOp .eql 71 (.agg #[(.int .i64 a0), (.int .i64 a1)]) (.agg #[(.int .i64 b0), (.int .i64 b1)]) : Sem Value).run Tryd.prog w = .ok (.bool (decide ((GSpan.mk a0 a1) = (GSpan.mk b0 b1)))) w := by
  simp [go_sem, binOp, Op.equal, Op.maxDepth]
  repeat' split
  all_goals simp_all
theorem fld104_0 : fldB Tryd.prog 104 0 = some (0, false, 1) := by kernel_rfl
theorem fld104_1 : fldB Tryd.prog 104 1 = some (1, false, 1) := by kernel_rfl
theorem fld117_0 : fldB Tryd.prog 117 0 = some (0, true, 4) := by kernel_rfl
theorem fld125_0 : fldB Tryd.prog 125 0 = some (0, false, 1) := by kernel_rfl
theorem fld125_1 : fldB Tryd.prog 125 1 = some (1, false, 1) := by kernel_rfl
theorem fld125_2 : fldB Tryd.prog 125 2 = some (2, false, 1) := by kernel_rfl
theorem fld125_3 : fldB Tryd.prog 125 3 = some (3, false, 1) := by kernel_rfl
theorem fld128_1 : fldB Tryd.prog 128 1 = some (1, false, 1) := by kernel_rfl
theorem fld146_0 : fldB Tryd.prog 146 0 = some (0, false, 1) := by kernel_rfl
theorem fld146_1 : fldB Tryd.prog 146 1 = some (1, false, 1) := by kernel_rfl
theorem fld146_2 : fldB Tryd.prog 146 2 = some (2, false, 1) := by kernel_rfl
theorem fld162_0 : fldB Tryd.prog 162 0 = some (0, false, 1) := by kernel_rfl
theorem fld162_1 : fldB Tryd.prog 162 1 = some (1, false, 1) := by kernel_rfl
theorem fld184_0 : fldB Tryd.prog 184 0 = some (0, false, 1) := by kernel_rfl
theorem fld186_0 : fldB Tryd.prog 186 0 = some (0, false, 1) := by kernel_rfl
theorem fld36_0 : fldB Tryd.prog 36 0 = some (0, false, 1) := by kernel_rfl
theorem fld36_1 : fldB Tryd.prog 36 1 = some (1, false, 1) := by kernel_rfl
theorem fld49_0 : fldB Tryd.prog 49 0 = some (0, false, 1) := by kernel_rfl
theorem fld49_1 : fldB Tryd.prog 49 1 = some (1, false, 1) := by kernel_rfl
theorem fld49_2 : fldB Tryd.prog 49 2 = some (2, false, 1) := by kernel_rfl
theorem fld49_3 : fldB Tryd.prog 49 3 = some (3, false, 1) := by kernel_rfl
theorem fld71_0 : fldB Tryd.prog 71 0 = some (0, false, 1) := by kernel_rfl
theorem fld71_1 : fldB Tryd.prog 71 1 = some (1, false, 1) := by kernel_rfl
theorem fld85_0 : fldB Tryd.prog 85 0 = some (0, false, 1) := by kernel_rfl
theorem fld87_0 : fldB Tryd.prog 87 0 = some (0, true, 1) := by kernel_rfl
theorem fld87_1 : fldB Tryd.prog 87 1 = some (1, false, 1) := by kernel_rfl
theorem fld89_0 : fldB Tryd.prog 89 0 = some (0, false, 1) := by kernel_rfl
theorem fld89_1 : fldB Tryd.prog 89 1 = some (1, false, 1) := by kernel_rfl
theorem fld89_2 : fldB Tryd.prog 89 2 = some (2, false, 1) := by kernel_rfl
theorem meth184_walk (v : Value) (w : World) : (method (Tryd.prog.types.size + Made.depth) 184 v "loop.example/packetfilter/impl.walk").run Tryd.prog w = .ok (164, v) w := by kernel_rfl
theorem meth186_walk (v : Value) (w : World) : (method (Tryd.prog.types.size + Made.depth) 186 v "loop.example/packetfilter/impl.walk").run Tryd.prog w = .ok (167, v) w := by kernel_rfl
theorem meth188_walk (v : Value) (w : World) : (method (Tryd.prog.types.size + Made.depth) 188 v "loop.example/packetfilter/impl.walk").run Tryd.prog w = .ok (170, v) w := by kernel_rfl
theorem meth189_walk (v : Value) (w : World) : (method (Tryd.prog.types.size + Made.depth) 189 v "loop.example/packetfilter/impl.walk").run Tryd.prog w = .ok (173, v) w := by kernel_rfl
theorem mki184 : ∀ v w, (Instr.makeInterface 184 v).run Tryd.prog w = .ok (.iface 184 v) w := fun v w => by kernel_rfl
theorem mki186 : ∀ v w, (Instr.makeInterface 186 v).run Tryd.prog w = .ok (.iface 186 v) w := fun v w => by kernel_rfl
theorem mki188 : ∀ v w, (Instr.makeInterface 188 v).run Tryd.prog w = .ok (.iface 188 v) w := fun v w => by kernel_rfl
theorem mki189 : ∀ v w, (Instr.makeInterface 189 v).run Tryd.prog w = .ok (.iface 189 v) w := fun v w => by kernel_rfl
theorem ty114 : tyB Tryd.prog 114 = some (true, 4) := by kernel_rfl
theorem ty117 : tyB Tryd.prog 117 = some (true, 5) := by kernel_rfl
theorem ty125 : tyB Tryd.prog 125 = some (true, 4) := by kernel_rfl
theorem ty137 : tyB Tryd.prog 137 = some (true, 5) := by kernel_rfl
theorem ty141 : tyB Tryd.prog 141 = some (true, 4) := by kernel_rfl
theorem ty143 : tyB Tryd.prog 143 = some (false, 1) := by kernel_rfl
theorem ty144 : tyB Tryd.prog 144 = some (false, 1) := by kernel_rfl
theorem ty22 : tyB Tryd.prog 22 = some (false, 1) := by kernel_rfl
theorem ty3 : tyB Tryd.prog 3 = some (false, 1) := by kernel_rfl
theorem ty34 : tyB Tryd.prog 34 = some (false, 1) := by kernel_rfl
theorem ty36 : tyB Tryd.prog 36 = some (true, 2) := by kernel_rfl
theorem ty4 : tyB Tryd.prog 4 = some (false, 1) := by kernel_rfl
theorem ty49 : tyB Tryd.prog 49 = some (true, 4) := by kernel_rfl
theorem ty5 : tyB Tryd.prog 5 = some (false, 1) := by kernel_rfl
theorem ty54 : tyB Tryd.prog 54 = some (false, 1) := by kernel_rfl
theorem ty71 : tyB Tryd.prog 71 = some (true, 2) := by kernel_rfl
theorem ty72 : tyB Tryd.prog 72 = some (false, 1) := by kernel_rfl
theorem ty80 : tyB Tryd.prog 80 = some (false, 1) := by kernel_rfl
theorem ty83 : tyB Tryd.prog 83 = some (false, 1) := by kernel_rfl
theorem ty85 : tyB Tryd.prog 85 = some (true, 1) := by kernel_rfl
theorem ty87 : tyB Tryd.prog 87 = some (true, 2) := by kernel_rfl
theorem ty89 : tyB Tryd.prog 89 = some (true, 3) := by kernel_rfl
theorem und3 : Tryd.prog.underlying 3 = some (.int .i64) := by kernel_rfl
theorem und4 : Tryd.prog.underlying 4 = some .bool := by kernel_rfl
theorem und5 : Tryd.prog.underlying 5 = some (.int .u8) := by kernel_rfl
theorem zero114 : zeroB Tryd.prog 114 = some [(.slice none 0 0), (.slice none 0 0), (.slice none 0 0), (.slice none 0 0)] := by kernel_rfl
theorem zero117 : zeroB Tryd.prog 117 = some [(.slice none 0 0), (.slice none 0 0), (.slice none 0 0), (.slice none 0 0), (.bool false)] := by kernel_rfl
theorem zero125 : zeroB Tryd.prog 125 = some [(.int .i64 0), (.int .i64 0), (.int .i64 0), (.bool false)] := by kernel_rfl
theorem zero137 : zeroB Tryd.prog 137 = some [(.bool false), (.bool false), (.bool false), (.bool false), (.bool false)] := by kernel_rfl
theorem zero138 : zeroB Tryd.prog 138 = some [(.int .i64 0), (.int .i64 0), (.int .i64 0), (.int .i64 0), (.int .i64 0)] := by kernel_rfl
theorem zero141 : zeroB Tryd.prog 141 = some [(.int .i64 0), (.int .i64 0), (.int .i64 0), (.int .i64 0)] := by kernel_rfl
theorem zero162 : zeroB Tryd.prog 162 = some [(.int .i64 0), (.int .i64 0)] := by kernel_rfl
theorem zero166 : zeroB Tryd.prog 166 = some [(.int .i64 0), (.int .i64 0)] := by kernel_rfl
theorem zero3 : zeroB Tryd.prog 3 = some [(.int .i64 0)] := by kernel_rfl
theorem zero36 : zeroB Tryd.prog 36 = some [(.slice none 0 0), (.bool false)] := by kernel_rfl
theorem zero49 : zeroB Tryd.prog 49 = some [(.int .i64 0), (.int .i64 0), (.int .i64 0), (.int .i64 0)] := by kernel_rfl
theorem zero54 : zeroB Tryd.prog 54 = some [(.slice none 0 0)] := by kernel_rfl
theorem zero71 : zeroB Tryd.prog 71 = some [(.int .i64 0), (.int .i64 0)] := by kernel_rfl
theorem zero72 : zeroB Tryd.prog 72 = some [(.slice none 0 0)] := by kernel_rfl
theorem zero85 : zeroB Tryd.prog 85 = some [(.slice none 0 0)] := by kernel_rfl
theorem zero87 : zeroB Tryd.prog 87 = some [(.slice none 0 0), (.bool false)] := by kernel_rfl
theorem zero89 : zeroB Tryd.prog 89 = some [(.slice none 0 0), (.int .i64 0), (.int .i64 0)] := by kernel_rfl
theorem mixed : Tryd.prog.follows .mixedOrders = true := by kernel_rfl

set_option maxRecDepth 100000 in
set_option maxHeartbeats 8000000 in
theorem w_spec_l20Open {w0 : World} {F : Nat → Prop} {v1 : Value} {code_0 : (List UInt8)} {κ : ((List UInt8) × Int) → Prop} (hF : ∀ b, F b → b < w0.heap.size ∧ ¬ feet [] b) (hv1 : Sl elU8 F w0 v1 code_0) (h : L_spec_l20Open code_0 κ) :
    Calls Tryd.prog 29 #[v1] w0 (Ret [] F w0 κ (fun (r : ((List UInt8) × Int)) (u : Nat × Value) => .pointer (some ⟨u.1, 0, none⟩)) (fun (r : ((List UInt8) × Int)) (u : Nat × Value) => [cellCh u.1 [u.2, (.int .i64 r.2)] 104, roCh elU8 u.2 r.1])) := by
  refine enterS (args := [v1]) [] hF (Given.nil _ _) Tryd.func29 rfl Tryd.ntmps29 rfl h ?_
  clear h hF
  refine c_seq ?_
  refine c_region ?_
  refine o_as st rfl rfl ?_
  refine c_nil ?_
  refine l_then ?_
  refine c_join (σ := (List UInt8)) (fun (xs68 : (List UInt8)) (a : Act) (w : World) => ∃ (v67 : Value), Has 11 [(0, v67)] a ∧ Mem (gB F [] w0) (feet []) w0 [roCh elU8 v67 xs68] w) ?_ ?_
  · intro k71
    refine c_seq ?_
    refine c_region ?_
    refine o_mv st rfl rfl ?_
    refine o_len st el22 0 rfl (reads_snap hv1) rfl rfl ?_
    refine o_gtr st rfl rfl rfl ?_
    refine c_nil ?_
    refine l_then ?_
    refine c_cond rfl ?_ ?_
    · refine c_region ?_
      refine o_mv st rfl rfl ?_
      refine nx_note 0 rfl hv1 ?_
      refine stw (o_slc (I := 0) (J := 2000) 0 rfl rfl rfl rfl rfl el22 rfl ?_); intro v3 xs4
      refine o_as st rfl rfl ?_
      refine c_nil ?_
      exact l_join xs4 (fun a w hE hm => ⟨v3, hE.sub ⟨rfl, trivial⟩, (hm.pick [0] rfl)⟩)
    · refine c_skip ?_
      exact l_join code_0 (fun a w hE hm => ⟨v1, hE.sub ⟨rfl, trivial⟩, ((hm.snote 0 rfl hv1).pick [0] rfl)⟩)
  · rintro xs68 a w ⟨v67, hE, hm⟩ h
    refine nx_of hE hm h ?_
    clear hE hm h
    refine c_seq ?_
    refine c_region ?_
    refine o_mv st rfl rfl ?_
    refine nx_ro 0 rfl ?_; rintro a72 l73 q74 rfl
    refine o_bld st (qs := [(0, (.slice a72 l73 q74))]) (cells := [(.slice a72 l73 q74), (.int .i64 0)]) (by intro ρ h; simp only [List.map_toArray, List.map_cons, List.map_nil, h (.tmp 8) _ rfl]) rfl bld104 rfl ?_
    refine stw (o_box rfl rfl [(.slice a72 l73 q74), (.int .i64 0)] rfl ?_); intro b75
    refine o_as st rfl rfl ?_
    refine c_nil ?_
    refine l_then ?_
    refine c_ret ?_
    exact l_end1 Tryd.results29 (xs68, 0) (b75, (.slice a72 l73 q74)) (rv_t rfl) (fun w m => NewCh.ofB m [0, 1] rfl)

set_option maxRecDepth 100000 in
set_option maxHeartbeats 8000000 in
theorem w_spec_l20Rd_pick {w0 : World} {F : Nat → Prop} {b1 : Nat} {v2 : Value} {r_0_b : (List UInt8)} {r_0_p : Int} {n_1 : Int} {κ : (Int × Int) → Prop} (hF : ∀ b, F b → b < w0.heap.size ∧ ¬ feet [cellCh b1 [v2, (.int .i64 r_0_p)] 104] b) (hg : Given [cellCh b1 [v2, (.int .i64 r_0_p)] 104] F w0) (hv2 : Sl elU8 F w0 v2 r_0_b) (h : L_spec_l20Rd_pick r_0_b r_0_p n_1 κ) :
    Calls Tryd.prog 60 #[(.pointer (some ⟨b1, 0, none⟩)), (.int .i64 n_1)] w0 (Ret [cellCh b1 [v2, (.int .i64 r_0_p)] 104] F w0 κ (fun (r : (Int × Int)) (u : Unit) => (.int .i64 r.1)) (fun (r : (Int × Int)) (u : Unit) => [cellCh b1 [v2, (.int .i64 r.2)] 104])) := by
  refine enterS (args := [(.pointer (some ⟨b1, 0, none⟩)), (.int .i64 n_1)]) [cellCh b1 [v2, (.int .i64 r_0_p)] 104] hF hg Tryd.func60 rfl Tryd.ntmps60 rfl h ?_
  clear h hF hg
  refine c_seq ?_
  refine c_region ?_
  refine o_as st rfl rfl ?_
  refine c_nil ?_
  refine l_then ?_
  refine c_seq ?_
  refine c_region ?_
  refine o_mv st rfl rfl ?_
  refine o_mv st rfl rfl ?_
  refine o_nilc st rfl rfl ?_
  refine o_fad st rfl rfl fld104_1 rfl ?_
  refine o_ldc st (v := (.int .i64 r_0_p)) 0 rfl rfl rfl ty3 rfl ?_
  refine o_add st rfl rfl rfl ?_; intro t5
  refine o_nilc st rfl rfl ?_
  refine o_fad st rfl rfl fld104_1 rfl ?_
  refine stw (o_stc (cs' := [v2, (.int .i64 t5)]) 0 rfl rfl rfl ty3 rfl rfl rfl rfl ?_)
  refine c_nil ?_
  refine l_then ?_
  refine c_seq ?_
  refine c_join (σ := Bool) (fun (t66 : Bool) (a : Act) (w : World) => Has 99 [(0, (.pointer (some ⟨b1, 0, none⟩))), (1, (.int .i64 n_1)), (24, (.bool t66))] a ∧ Mem (gB F [cellCh b1 [v2, (.int .i64 r_0_p)] 104] w0) (feet [cellCh b1 [v2, (.int .i64 r_0_p)] 104]) w0 [cellCh b1 [v2, (.int .i64 t5)] 104, snapCh w0 F] w) ?_ ?_
  · intro k67
    refine c_region ?_
    refine o_mv st rfl rfl ?_
    refine o_lss st rfl rfl rfl ?_
    refine o_mv st rfl rfl ?_
    refine st_sp (dj := 17) rfl ?_ ?_
    · refine st_s rfl rfl rfl rfl ?_
      refine st_s rfl rfl rfl rfl ?_
      refine st_s rfl rfl rfl rfl ?_
      refine st_s rfl rfl rfl rfl ?_
      refine st_s rfl rfl rfl rfl ?_
      refine st_s rfl rfl rfl rfl ?_
      refine o_pickT st rfl rfl rfl ?_
      refine c_nil ?_
      exact l_join true (fun a w hE hm => ⟨hE.sub ⟨rfl, rfl, rfl, trivial⟩, (hm.pick [0, 1] rfl)⟩)
    · refine o_mv (st_g rfl rfl) rfl rfl ?_
      refine o_nilc (st_g rfl rfl) rfl rfl ?_
      refine o_fad (st_g rfl rfl) rfl rfl fld104_0 rfl ?_
      refine o_ldc (st_g rfl rfl) (v := v2) 0 rfl rfl rfl ty22 rfl ?_
      refine o_len (st_g rfl rfl) el22 1 rfl (reads_snap hv2) rfl rfl ?_
      refine o_eql (st_g rfl rfl) und3 rfl rfl rfl ?_
      refine o_pickF st rfl rfl rfl ?_
      refine c_nil ?_
      exact l_join (decide ((r_0_b.length : Int) = 0)) (fun a w hE hm => ⟨hE.sub ⟨rfl, rfl, rfl, trivial⟩, (hm.pick [0, 1] rfl)⟩)
  · rintro t66 a w ⟨hE, hm⟩ h
    refine nx_of hE hm h ?_
    clear hE hm h
    refine c_cond rfl ?_ ?_
    · refine c_seq ?_
      refine c_region ?_
      refine o_as st rfl rfl ?_
      refine c_nil ?_
      refine l_then ?_
      refine c_ret ?_
      refine l_ret ?_
      exact l_end1 Tryd.results60 (0, t5) () (rv_t rfl) (fun w m => NewCh.ofB m [0] rfl)
    · refine c_skip ?_
      refine l_then ?_
      refine c_seq ?_
      refine c_region ?_
      refine o_mv st rfl rfl ?_
      refine o_nilc st rfl rfl ?_
      refine o_fad st rfl rfl fld104_1 rfl ?_
      refine o_ldc st (v := (.int .i64 t5)) 0 rfl rfl rfl ty3 rfl ?_
      refine o_sub st rfl rfl rfl ?_; intro t68
      refine o_as st rfl rfl ?_
      refine c_nil ?_
      refine l_then ?_
      refine c_seq ?_
      refine c_seq ?_
      refine c_region ?_
      refine o_mv st rfl rfl ?_
      refine o_mv st rfl rfl ?_
      refine o_nilc st rfl rfl ?_
      refine o_fad st rfl rfl fld104_0 rfl ?_
      refine o_ldc st (v := v2) 0 rfl rfl rfl ty22 rfl ?_
      refine o_len st el22 1 rfl (reads_snap hv2) rfl rfl ?_
      refine o_lss st rfl rfl rfl ?_
      refine c_nil ?_
      refine l_then ?_
      refine c_cond rfl ?_ ?_
      · refine c_seq ?_
        refine c_region ?_
        refine o_mv st rfl rfl ?_
        refine o_nilc st rfl rfl ?_
        refine o_fad st rfl rfl fld104_0 rfl ?_
        refine o_ldc st (v := v2) 0 rfl rfl rfl ty22 rfl ?_
        refine o_mv st rfl rfl ?_
        refine o_idx st 1 rfl (reads_snap hv2) rfl rfl rfl el22 ?_; intro e69 h70
        refine o_lds st (enc := encU8) (u := (.int .u8 (e69.toNat : Int))) 1 rfl (reads_snap hv2) flelU8 rfl h70 rfl rfl ty5 rfl ?_
        refine o_cnvI st und5 und3 rfl rfl ?_
        refine o_mv st rfl rfl ?_
        refine o_rem st rfl rfl rfl ?_; intro t71
        refine o_as st rfl rfl ?_
        refine c_nil ?_
        refine l_then ?_
        refine c_ret ?_
        refine l_ret ?_
        exact l_end1 Tryd.results60 (t71, t5) () (rv_t rfl) (fun w m => NewCh.ofB m [0] rfl)
      · refine c_skip ?_
        refine l_then ?_
        refine c_seq ?_
        refine c_draw mixed 46 rfl [cellCh b1 [v2, (.int .i64 t5)] 104, snapCh w0 F] ?_
        refine o_mv (dt 0 (fun _ m => m)) rfl rfl ?_
        refine o_nilc (dt 1 (fun _ m => m)) rfl rfl ?_
        refine o_fad (dt 2 (fun _ m => m)) rfl rfl fld104_0 rfl ?_
        refine o_ldc (dt 3 (fun _ m => m)) (v := v2) 0 rfl rfl rfl ty22 rfl ?_
        refine o_mv (dt 4 (fun _ m => m)) rfl rfl ?_
        refine o_mv (dt 5 (fun _ m => m)) rfl rfl ?_
        refine o_nilc (dt 6 (fun _ m => m)) rfl rfl ?_
        refine o_fad (dt 7 (fun _ m => m)) rfl rfl fld104_0 rfl ?_
        refine o_ldc (dt 8 (fun _ m => m)) (v := v2) 0 rfl rfl rfl ty22 rfl ?_
        refine o_len (dt 9 (fun _ m => m)) el22 1 rfl (reads_snap hv2) rfl rfl ?_
        refine o_rem (dt 10 (fun _ m => m)) rfl rfl rfl ?_; intro t72
        refine o_idx (dt 11 (fun _ m => m)) 1 rfl (reads_snap hv2) rfl rfl rfl el22 ?_; intro e73 h74
        refine o_lds (dt 12 (fun _ m => m)) (enc := encU8) (u := (.int .u8 (e73.toNat : Int))) 1 rfl (reads_snap hv2) flelU8 rfl h74 rfl rfl ty5 rfl ?_
        refine o_cnvI (dt 13 (fun _ m => m)) und5 und3 rfl rfl ?_
        refine o_mul (dt 14 (fun _ m => m)) rfl rfl rfl ?_; intro t75
        refine o_mv (dt 15 (fun _ m => m)) rfl rfl ?_
        refine o_nilc (dt 16 (fun _ m => m)) rfl rfl ?_
        refine o_fad (dt 17 (fun _ m => m)) rfl rfl fld104_0 rfl ?_
        refine o_ldc (dt 18 (fun _ m => m)) (v := v2) 0 rfl rfl rfl ty22 rfl ?_
        refine o_mv (dt 19 (fun _ m => m)) rfl rfl ?_
        refine o_mul (dt 20 (fun _ m => m)) rfl rfl rfl ?_; intro t76
        refine o_add (dt 21 (fun _ m => m)) rfl rfl rfl ?_; intro t77
        refine o_mv (dt 22 (fun _ m => m)) rfl rfl ?_
        refine o_nilc (dt 23 (fun _ m => m)) rfl rfl ?_
        refine o_fad (dt 24 (fun _ m => m)) rfl rfl fld104_0 rfl ?_
        refine o_ldc (dt 25 (fun _ m => m)) (v := v2) 0 rfl rfl rfl ty22 rfl ?_
        refine o_len (dt 26 (fun _ m => m)) el22 1 rfl (reads_snap hv2) rfl rfl ?_
        refine o_rem (dt 27 (fun _ m => m)) rfl rfl rfl ?_; intro t78
        refine o_idx (dt 28 (fun _ m => m)) 1 rfl (reads_snap hv2) rfl rfl rfl el22 ?_; intro e79 h80
        refine o_lds (dt 29 (fun _ m => m)) (enc := encU8) (u := (.int .u8 (e79.toNat : Int))) 1 rfl (reads_snap hv2) flelU8 rfl h80 rfl rfl ty5 rfl ?_
        refine o_cnvI (dt 30 (fun _ m => m)) und5 und3 rfl rfl ?_
        refine o_mul (dt 31 (fun _ m => m)) rfl rfl rfl ?_; intro t81
        refine o_add (dt 32 (fun _ m => m)) rfl rfl rfl ?_; intro t82
        refine o_mv (dt 33 (fun _ m => m)) rfl rfl ?_
        refine o_mul (dt 34 (fun _ m => m)) rfl rfl rfl ?_; intro t83
        refine o_add (dt 35 (fun _ m => m)) rfl rfl rfl ?_; intro t84
        refine o_mv (dt 36 (fun _ m => m)) rfl rfl ?_
        refine o_mv (dt 37 (fun _ m => m)) rfl rfl ?_
        refine o_nilc (dt 38 (fun _ m => m)) rfl rfl ?_
        refine o_fad (dt 39 (fun _ m => m)) rfl rfl fld104_0 rfl ?_
        refine o_ldc (dt 40 (fun _ m => m)) (v := v2) 0 rfl rfl rfl ty22 rfl ?_
        refine o_len (dt 41 (fun _ m => m)) el22 1 rfl (reads_snap hv2) rfl rfl ?_
        refine o_quo (dt 42 (fun _ m => m)) rfl rfl rfl ?_; intro t85
        refine o_mul (dt 43 (fun _ m => m)) rfl rfl rfl ?_; intro t86
        refine o_add (dt 44 (fun _ m => m)) rfl rfl rfl ?_; intro t87
        refine o_as (dt 45 (fun _ m => m)) rfl rfl ?_
        refine d_done (by kernel_rfl) ?_
        refine l_then ?_
        refine c_seq ?_
        refine c_region ?_
        refine o_mv st rfl rfl ?_
        refine o_mv st rfl rfl ?_
        refine o_quo st rfl rfl rfl ?_; intro t88
        refine o_xor st rfl rfl rfl ?_; intro t89
        refine o_as st rfl rfl ?_
        refine c_nil ?_
        refine l_then ?_
        refine c_seq ?_
        refine c_region ?_
        refine o_mv st rfl rfl ?_
        refine o_mv st rfl rfl ?_
        refine o_rem st rfl rfl rfl ?_; intro t90
        refine o_as st rfl rfl ?_
        refine c_nil ?_
        refine l_then ?_
        refine c_ret ?_
        exact l_end1 Tryd.results60 (t90, t5) () (rv_t rfl) (fun w m => NewCh.ofB m [0] rfl)

set_option maxRecDepth 100000 in
set_option maxHeartbeats 8000000 in
theorem w_spec_l20Rd_odd {w0 : World} {F : Nat → Prop} {b1 : Nat} {v2 : Value} {r_0_b : (List UInt8)} {r_0_p : Int} {n_1 : Int} {κ : (Bool × Int) → Prop} (hF : ∀ b, F b → b < w0.heap.size ∧ ¬ feet [cellCh b1 [v2, (.int .i64 r_0_p)] 104] b) (hg : Given [cellCh b1 [v2, (.int .i64 r_0_p)] 104] F w0) (hv2 : Sl elU8 F w0 v2 r_0_b) (h : L_spec_l20Rd_odd r_0_b r_0_p n_1 κ) :
    Calls Tryd.prog 64 #[(.pointer (some ⟨b1, 0, none⟩)), (.int .i64 n_1)] w0 (Ret [cellCh b1 [v2, (.int .i64 r_0_p)] 104] F w0 κ (fun (r : (Bool × Int)) (u : Unit) => (.bool r.1)) (fun (r : (Bool × Int)) (u : Unit) => [cellCh b1 [v2, (.int .i64 r.2)] 104])) := by
  refine enterS (args := [(.pointer (some ⟨b1, 0, none⟩)), (.int .i64 n_1)]) [cellCh b1 [v2, (.int .i64 r_0_p)] 104] hF hg Tryd.func64 rfl Tryd.ntmps64 rfl h ?_
  clear h hF hg
  refine c_seq ?_
  refine c_region ?_
  refine o_as st rfl rfl ?_
  refine c_nil ?_
  refine l_then ?_
  refine c_join (σ := (Int × Bool)) (fun ((t68, t69) : (Int × Bool)) (a : Act) (w : World) => Has 15 [(4, (.bool t69))] a ∧ Mem (gB F [cellCh b1 [v2, (.int .i64 r_0_p)] 104] w0) (feet [cellCh b1 [v2, (.int .i64 r_0_p)] 104]) w0 [cellCh b1 [v2, (.int .i64 t68)] 104, snapCh w0 F] w) ?_ ?_
  · intro k70
    refine c_region ?_
    refine o_mv st rfl rfl ?_
    refine o_gtr st rfl rfl rfl ?_
    refine o_mv st rfl rfl ?_
    refine st_sp (dj := 7) rfl ?_ ?_
    · refine o_mv (st_g rfl rfl) rfl rfl ?_
      refine o_mv (st_g rfl rfl) rfl rfl ?_
      refine st_gw rfl rfl (o_call (vs := [(.pointer (some ⟨b1, 0, none⟩)), (.int .i64 n_1)]) (M0 := [cellCh b1 [v2, (.int .i64 r_0_p)] 104]) Tryd.call60 rfl rfl (by intro w m h; exact (w_spec_l20Rd_pick (F := allB [cellCh b1 [v2, (.int .i64 r_0_p)] 104] w) (r_0_b := r_0_b) (r_0_p := r_0_p) (n_1 := n_1) allB_ok m.given (m.rdM 0 rfl (reads_snap hv2)) h).mono (fun _ _ k => ret_free (fun r u => (fr_cons free_cell fr_nil)) k)) ?_); rintro ⟨r5, r6⟩ _
      refine o_mv (st_g rfl rfl) rfl rfl ?_
      refine o_sub (st_g rfl rfl) rfl rfl rfl ?_; intro t7
      refine o_eql (st_g rfl rfl) und3 rfl rfl rfl ?_
      refine o_pickT st rfl rfl rfl ?_
      refine o_as st rfl rfl ?_
      refine c_nil ?_
      exact l_join (r6, (decide (r5 = t7))) (fun a w hE hm => ⟨hE.sub ⟨rfl, trivial⟩, (hm.pick [0, 1] rfl)⟩)
    · refine st_s rfl rfl rfl rfl ?_
      refine st_s rfl rfl rfl rfl ?_
      refine st_s rfl rfl rfl rfl ?_
      refine st_s rfl rfl rfl rfl ?_
      refine st_s rfl rfl rfl rfl ?_
      refine st_s rfl rfl rfl rfl ?_
      refine o_pickF st rfl rfl rfl ?_
      refine o_as st rfl rfl ?_
      refine c_nil ?_
      exact l_join (r_0_p, false) (fun a w hE hm => ⟨hE.sub ⟨rfl, trivial⟩, (hm.pick [0, 1] rfl)⟩)
  · rintro ⟨t68, t69⟩ a w ⟨hE, hm⟩ h
    refine nx_of hE hm h ?_
    clear hE hm h
    refine c_ret ?_
    exact l_end1 Tryd.results64 (t69, t68) () (rv_t rfl) (fun w m => NewCh.ofB m [0] rfl)

end

end Go.Proofs.YtpbmhkfbggmofaaDoor
