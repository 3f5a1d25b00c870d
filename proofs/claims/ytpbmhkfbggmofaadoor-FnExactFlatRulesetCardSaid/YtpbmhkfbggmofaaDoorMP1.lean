/- Texts of this seat, put together. -/
import Derived.Test.YtpbmhkfbggmofaaDoorMA1
import Derived.RangeFuncMany
import Derived.RangeFuncCalls
import Derived.RangeFuncLeaves
import Derived.TacticsIn
import Derived.Test.YtpbmhkfbggmofaaDoorEls
import Derived.Test.YtpbmhkfbggmofaaDoorMA0
import Derived.Laws.BitsLemmas
import Derived.Lib.AppendZeros
import Derived.ArgAppend
import Derived.Test.YtpbmhkfbggmofaaDoorRows
set_option linter.unusedSimpArgs false
set_option linter.unusedVariables false
set_option linter.unusedSectionVars false
namespace Go.Proofs.YtpbmhkfbggmofaaDoor
section
open Go.RowKit

/-- the first four of a list -/
def pre4 {α : Type} (xs : List α) (κ : α → α → α → α → Prop) : Prop := ∃ a b c d r, xs = a :: b :: c :: d :: r ∧ κ a b c d
theorem rangeAt_app {w : World} {b o : Nat} {cs ds : List Value} (h : w.rangeAt b o cs) (k : w.rangeAt b (o + cs.length) ds) : w.rangeAt b o (cs ++ ds) := fun j v hv => by
  rw [List.getElem?_append] at hv
  split at hv
  · exact h j v hv
  · have := k (j - cs.length) v hv
    rwa [show o + cs.length + (j - cs.length) = o + j by omega] at this
theorem sl_open4 {α : Type} {E' : El α} {F0 : Nat → Prop} {wr : World} {v : Value} {xs : List α} {a b c d : α} (S : Sl E' F0 wr v xs) (h : ∃ r, xs = a :: b :: c :: d :: r) :
    ∃ c0 c1 c2 c3, E'.cells F0 wr a c0 ∧ E'.cells F0 wr b c1 ∧ E'.cells F0 wr c c2 ∧ E'.cells F0 wr d c3 ∧ RowAt wr F0 v 0 E'.size (c0 ++ (c1 ++ (c2 ++ c3))) := by
  obtain ⟨r, rfl⟩ := h
  obtain ⟨p, cap, rfl, hc, hr⟩ := S
  obtain ⟨g, off, rfl, hfb, hx⟩ := hr (by simp)
  obtain ⟨c0, h0, k0⟩ := hx 0 a rfl
  obtain ⟨c1, h1, k1⟩ := hx 1 b rfl
  obtain ⟨c2, h2, k2⟩ := hx 2 c rfl
  obtain ⟨c3, h3, k3⟩ := hx 3 d rfl
  have l0 := E'.len _ _ _ _ h0
  have l1 := E'.len _ _ _ _ h1
  have l2 := E'.len _ _ _ _ h2
  refine ⟨c0, c1, c2, c3, h0, h1, h2, h3, g, off, _, cap, rfl, hfb, ?_⟩
  have e0 : off + (0 : Int).toNat * E'.size = off := by simp
  rw [e0]
  refine rangeAt_app (by simpa using k0) (rangeAt_app ?_ (rangeAt_app ?_ ?_))
  · rw [l0]; simpa using k1
  · rw [l0, l1, show off + E'.size + E'.size = off + 2 * E'.size by omega]; exact k2
  · rw [l0, l1, l2, show off + E'.size + E'.size + E'.size = off + 3 * E'.size by omega]; exact k3
section
variable {P : Program} {n : Nat} {G D : Nat → Prop} {w0 : World} {Q : Exit → Act → World → Prop} {R : Act → World → Prop} {E : Env} {L M : List Ch} {φ : Prop}
variable {d : Tmp} {ty : TypeId} {pos : String} {aft : Array Edge} {gd : Option (Nat × Bool)} {Tk : Act → World → Prop} {Lr : List Ch} {x y : Operand} {T T' S : TypeId} {e sz by' : Nat} {at' : Array TypeId}
/-- an array of four from a slice: a pointer to its beginning -/
theorem o_s2a {α : Type} {El' : El α} {v : Value} {xs : List α} {ch : Ch} {κ : α → α → α → α → Prop} {e' s : Nat} {r : Bool} (M : Mode P n G D w0 E ⟨some d, .sliceToArrayPointer T x, ty, pos, aft, gd⟩ Tk R Lr L) (i : Nat) (hi : lget Lr i = some ch) (hc : Reads ch El' v xs) (hx : oev E x = some v) (hd : Nat.blt d n = true)
    (hT : arrB P T = some (4, e', r, s)) (hes : El'.size = 1) (k : ∀ p q s t, (∃ r, xs = p :: q :: s :: t :: r) → Nx n G D w0 R ((d, pEl v 0 1 0) :: E) L (κ p q s t)) : Nx n G D w0 Tk E L (pre4 xs κ) := fun a w hE hm hφ => by
  obtain ⟨p, q, s, t, r, hxs, hκ⟩ := hφ
  refine M.val (v := pEl v 0 1 0) (φ := κ p q s t) (ψ := κ p q s t) hd rfl (fun ρ w hE hm _ => ?_) id (k p q s t ⟨r, hxs⟩) a w hE hm hκ
  obtain ⟨g, cap, rfl, hcap, hr⟩ := hc _ _ (hm.get hi)
  obtain ⟨b, off, rfl, _⟩ := hr (by rw [hxs]; simp)
  have hl : ¬ xs.length < 4 := by rw [hxs]; simp
  have hu := (arr_of hT).1
  simp [execOp, hE _ _ hx, Instr.arrayAt, run_underlying hu, hl, pEl_slice]
/-! ### objects, packages of chunks -/
def objCh (b : Nat) (o : Obj) : Ch where
  foot := fun x => x = b
  holds := fun _ w => w.heap[b]? = some o
  keep := fun _ _ _ _ _ h k => (h b (.inr rfl)).trans k
/-- a consumer's memory in a state, as one chunk: B are its blocks -/
def consCh {σ : Type} (C : σ → List Ch → Prop) (B : Nat → Prop) (s : σ) : Ch where
  foot := B
  holds := fun F w => ∃ L, C s L ∧ (∀ b, feet L b ↔ B b) ∧ (L.Pairwise fun (c d : Ch) => ∀ b, c.foot b → ¬ d.foot b) ∧ ∀ c ∈ L, c.holds F w
  keep := fun F F' w w' hF hb ⟨L, h1, h2, h3, h4⟩ => ⟨L, h1, h2, h3, fun c hc => c.keep F F' w w' hF (fun b h => hb b (h.imp id (fun k => (h2 b).1 ⟨c, hc, k⟩))) (h4 c hc)⟩
theorem fz_cons {σ : Type} {C : σ → List Ch → Prop} {B : Nat → Prop} {s : σ} {L R : List Ch} {w : World} (h : ∀ b, feet L b ↔ B b) (b : Nat) : fz G (consCh C B s :: R) w b ↔ fz G (L ++ R) w b := by
  constructor
  · rintro ⟨h1, h2, h3⟩
    refine ⟨h1, h2, fun c hc hk => ?_⟩
    rcases List.mem_append.1 hc with e | e
    · exact h3 _ (List.mem_cons_self ..) ((h b).1 ⟨c, e, hk⟩)
    · exact h3 c (List.mem_cons_of_mem _ e) hk
  · rintro ⟨h1, h2, h3⟩
    refine ⟨h1, h2, fun c hc hk => ?_⟩
    rcases List.mem_cons.1 hc with e | e
    · subst e
      obtain ⟨d, hd, hk'⟩ := (h b).2 hk
      exact h3 d (List.mem_append.2 (.inl hd)) hk'
    · exact h3 c (List.mem_append.2 (.inr e)) hk
theorem Mem.openC {σ : Type} {C : σ → List Ch → Prop} {B : Nat → Prop} {s : σ} {R : List Ch} {w : World} (m : Mem G D w0 (consCh C B s :: R) w) : ∃ L, C s L ∧ (∀ b, feet L b ↔ B b) ∧ Mem G D w0 (L ++ R) w := by
  obtain ⟨L, h1, h2, h3, h4⟩ := m.hold _ (List.mem_cons_self ..)
  have hr : ∀ c ∈ L, ∀ b, c.foot b → (consCh C B s).foot b := fun c hc b hb => (h2 b).1 ⟨c, hc, hb⟩
  refine ⟨L, h1, h2, m.fresh, m.os, m.tape, m.output, m.size, m.old, fun c hc b hb => ?_, List.pairwise_append.2 ⟨h3, (List.pairwise_cons.1 m.disj).2, fun c hc d hd b k1 k2 => (List.pairwise_cons.1 m.disj).1 d hd b (hr c hc b k1) k2⟩, fun c hc => ?_⟩
  · rcases List.mem_append.1 hc with e | e
    · exact m.range _ (List.mem_cons_self ..) b (hr c e b hb)
    · exact m.range c (List.mem_cons_of_mem _ e) b hb
  · rcases List.mem_append.1 hc with e | e
    · exact c.keep _ _ w w (fun b hb => (fz_cons h2 b).1 hb) (fun _ _ => rfl) (h4 c e)
    · exact c.keep _ _ w w (fun b hb => (fz_cons h2 b).1 hb) (fun _ _ => rfl) (m.hold c (List.mem_cons_of_mem _ e))
theorem Mem.closeC {σ : Type} {C : σ → List Ch → Prop} {s : σ} {L R : List Ch} {w : World} (m : Mem G D w0 (L ++ R) w) (h : C s L) : Mem G D w0 (consCh C (feet L) s :: R) w := by
  have inL : ∀ c ∈ L, c ∈ L ++ R := fun c hc => List.mem_append.2 (.inl hc)
  have inR : ∀ c ∈ R, c ∈ L ++ R := fun c hc => List.mem_append.2 (.inr hc)
  have hd := List.pairwise_append.1 m.disj
  refine ⟨m.fresh, m.os, m.tape, m.output, m.size, m.old, fun c hc b hb => ?_, List.pairwise_cons.2 ⟨fun d hd' b ⟨c, hc, k1⟩ k2 => hd.2.2 c hc d hd' b k1 k2, hd.2.1⟩, fun c hc => ?_⟩
  · rcases List.mem_cons.1 hc with e | e
    · subst e
      obtain ⟨c, hc, k⟩ := hb
      exact m.range c (inL c hc) b k
    · exact m.range c (inR c e) b hb
  · rcases List.mem_cons.1 hc with e | e
    · subst e
      exact ⟨L, h, fun _ => Iff.rfl, hd.1, fun c hc => c.keep _ _ w w (fun b hb => (fz_cons (fun _ => Iff.rfl) b).2 hb) (fun _ _ => rfl) (m.hold c (inL c hc))⟩
    · exact c.keep _ _ w w (fun b hb => (fz_cons (fun _ => Iff.rfl) b).2 hb) (fun _ _ => rfl) (m.hold c (inR c e))
/-! ### a consumer that keeps its word -/
/-! ### regions with a call of yield -/
/-! ### code in a round -/
section
variable {F : Fence} {m l : Nat}
end
end

end
section
open Go.RowKit
@[ext] structure GSpan where
  xLo : Int
  xHi : Int
  deriving DecidableEq
def encGSpan (x : GSpan) : List Value := [(.int .i64 x.xLo), (.int .i64 x.xHi)]
def elGSpan : El GSpan := El.flat 2 encGSpan (by decide) (fun _ => rfl) (fun x u h => by simp only [encGSpan, List.mem_cons, List.not_mem_nil, or_false] at h; rcases h with rfl | rfl <;> rfl)
theorem flelGSpan : Flat elGSpan encGSpan := flat_flat
abbrev dGSpan : DEl GSpan := dflat elGSpan encGSpan flelGSpan
@[ext] structure GBox where
  xSides : (List (List GSpan))
  deriving DecidableEq
def encGBox (u : Value) (x : GBox) : List Value := [u]
def elGBox : El GBox where
  size := 1
  cells := fun F w x cs => ∃ u : Value, cs = encGBox u x ∧ Sl (elSl elGSpan) F w u x.xSides
  pos := by decide
  len := fun F w x cs ⟨u, e, _⟩ => by rw [e]; rfl
  one := fun F w x cs ⟨u, e, h⟩ v hv => by
    subst e
    simp only [encGBox, List.mem_cons, List.not_mem_nil, or_false] at hv
    subst hv; exact h.one
  keep := fun F F' w w' x cs hF hb ⟨u, e, h⟩ => ⟨u, e, h.keep hF hb⟩
@[ext] structure GTest where
  xField : Int
  xLo : Int
  xHi : Int
  xNot : Bool
  deriving DecidableEq
def encGTest (x : GTest) : List Value := [(.int .i64 x.xField), (.int .i64 x.xLo), (.int .i64 x.xHi), (.bool x.xNot)]
def elGTest : El GTest := El.flat 4 encGTest (by decide) (fun _ => rfl) (fun x u h => by simp only [encGTest, List.mem_cons, List.not_mem_nil, or_false] at h; rcases h with rfl | rfl | rfl | rfl <;> rfl)
theorem flelGTest : Flat elGTest encGTest := flat_flat
abbrev dGTest : DEl GTest := dflat elGTest encGTest flelGTest
@[ext] structure GFlat where
  xWhere : GBox
  xAccept : Bool
  deriving DecidableEq
def encGFlat (u : Value) (x : GFlat) : List Value := [u, (.bool x.xAccept)]
def elGFlat : El GFlat where
  size := 2
  cells := fun F w x cs => ∃ u : Value, cs = encGFlat u x ∧ Sl (elSl elGSpan) F w u x.xWhere.xSides
  pos := by decide
  len := fun F w x cs ⟨u, e, _⟩ => by rw [e]; rfl
  one := fun F w x cs ⟨u, e, h⟩ v hv => by
    subst e
    simp only [encGFlat, List.mem_cons, List.not_mem_nil, or_false] at hv
    rcases hv with e | e
    · subst e; exact h.one
    · subst e; exact rfl
  keep := fun F F' w w' x cs hF hb ⟨u, e, h⟩ => ⟨u, e, h.keep hF hb⟩
def dGFlat : DEl GFlat where
  el := elGFlat
  own := fun B w x cs => ∃ u : Value, cs = encGFlat u x ∧ Dp (dSl dGSpan 71) 72 B w u x.xWhere.xSides
  read := fun B w x cs ⟨u, e, h⟩ => ⟨u, e, h.sl⟩
  keep := fun B w w' x cs hk ⟨u, e, h⟩ => ⟨u, e, h.keep hk⟩
  lt := fun B w x cs ⟨u, e, h⟩ => h.lt
@[ext] structure GPacket where
  xFrom : Int
  xTo : Int
  xPort : Int
  xProto : Int
  deriving DecidableEq
@[ext] structure A4ListGSpan where
  x0 : (List GSpan)
  x1 : (List GSpan)
  x2 : (List GSpan)
  x3 : (List GSpan)
  deriving DecidableEq
@[ext] structure GRule where
  xTests : (List GTest)
  xAction : Int
  xChain : Int
  deriving DecidableEq
def encGRule (u : Value) (x : GRule) : List Value := [u, (.int .i64 x.xAction), (.int .i64 x.xChain)]
def elGRule : El GRule where
  size := 3
  cells := fun F w x cs => ∃ u : Value, cs = encGRule u x ∧ Sl elGTest F w u x.xTests
  pos := by decide
  len := fun F w x cs ⟨u, e, _⟩ => by rw [e]; rfl
  one := fun F w x cs ⟨u, e, h⟩ v hv => by
    subst e
    simp only [encGRule, List.mem_cons, List.not_mem_nil, or_false] at hv
    rcases hv with e | e | e
    · subst e; exact h.one
    · subst e; exact rfl
    · subst e; exact rfl
  keep := fun F F' w w' x cs hF hb ⟨u, e, h⟩ => ⟨u, e, h.keep hF hb⟩
def dGRule : DEl GRule where
  el := elGRule
  own := fun B w x cs => ∃ u : Value, cs = encGRule u x ∧ Dp dGTest 125 B w u x.xTests
  read := fun B w x cs ⟨u, e, h⟩ => ⟨u, e, h.sl⟩
  keep := fun B w w' x cs hk ⟨u, e, h⟩ => ⟨u, e, h.keep hk⟩
  lt := fun B w x cs ⟨u, e, h⟩ => h.lt
@[ext] structure GRuleset where
  xChains : (List (List GRule))
  xAccept : Bool
  deriving DecidableEq
@[ext] structure GFieldShape where
  xName : ByteArray
  xTop : Int
  deriving DecidableEq
def encGFieldShape (x : GFieldShape) : List Value := [(.string x.xName), (.int .i64 x.xTop)]
def elGFieldShape : El GFieldShape := El.flat 2 encGFieldShape (by decide) (fun _ => rfl) (fun x u h => by simp only [encGFieldShape, List.mem_cons, List.not_mem_nil, or_false] at h; rcases h with rfl | rfl <;> rfl)
theorem flelGFieldShape : Flat elGFieldShape encGFieldShape := flat_flat
/-- what the package-level variable reads as -/
def gl_impl_fieldShapes : List GFieldShape := [⟨(ByteArray.mk #[102, 114, 111, 109]), 65535⟩, ⟨(ByteArray.mk #[116, 111]), 65535⟩, ⟨(ByteArray.mk #[112, 111, 114, 116]), 255⟩, ⟨(ByteArray.mk #[112, 114, 111, 116, 111]), 7⟩]

def L_spec_l1In (n_0 : Int) (lo_1 : Int) (hi_2 : Int) (κ : Bool → Prop) : Prop :=
  jnW (fun (t61 : Bool) => κ t61) (fun k62 => ifW (decide (lo_1 ≤ n_0)) (k62 (decide (n_0 ≤ hi_2))) (k62 false))

def L_spec_FieldTop (n_0 : Int) (κ : Int → Prop) : Prop :=
  jnW (fun (t61 : Bool) => ifW t61 (κ 65535) (ifW (decide (n_0 = 2)) (κ 255) (ifW (decide (n_0 = 3)) (κ 7) (κ (-1))))) (fun k62 => ifW (decide (n_0 = 0)) (k62 (decide (n_0 = 0))) (k62 (decide (n_0 = 1))))

def L_impl_FieldTop (n_0 : Int) (κ : Int → Prop) : Prop :=
  jnW (fun (t61 : Bool) => ifW t61 (κ (-1)) (idxW gl_impl_fieldShapes n_0 (fun e63 => κ e63.xTop))) (fun k62 => ifW (decide (n_0 < 0)) (k62 true) (k62 (decide (4 ≤ n_0))))

def L_impl_topValid (top_0 : Int) (κ : Bool → Prop) : Prop :=
  jnW (fun (t61 : Bool) => κ t61) (fun k62 => ifW (decide (0 ≤ top_0)) (k62 (decide (top_0 ≤ 65535))) (k62 false))

def L_impl_SpansValid (list_0 : (List GSpan)) (top_1 : Int) (κ : Bool → Prop) : Prop :=
  jnW (fun (t64 : Bool) => ifW t64 (κ false) (loopW (fun (nx68 : (Int × Int) → Prop) ((t66, t67) : (Int × Int)) => ifW (decide (t67 < (list_0.length : Int))) (idxW list_0 t67 (fun e69 => jnW (fun (t134 : Bool) => ifW t134 (κ false) (addW t67 1 (fun t136 => nx68 (e69.xHi, t136)))) (fun k135 => addW t66 1 (fun t73 => ifW (decide (e69.xLo ≤ t73)) (k135 true) (ifW (decide (e69.xHi < e69.xLo)) (k135 true) (k135 (decide (top_1 < e69.xHi)))))))) (κ true)) ((-2), 0))) (fun k65 => L_impl_topValid top_1 (fun r3 => ifW (!r3) (k65 true) (k65 (decide (40 < (list_0.length : Int))))))

def L_impl_BoxValid (b_0 : GBox) (κ : Bool → Prop) : Prop :=
  ifW (!(decide ((b_0.xSides.length : Int) = 4))) (κ false) (loopW (fun (nx9 : Int → Prop) (t8 : Int) => ifW (decide (t8 < (b_0.xSides.length : Int))) (idxW b_0.xSides t8 (fun e10 => L_impl_FieldTop t8 (fun r16 => L_impl_SpansValid e10 r16 (fun r17 => ifW (!r17) (κ false) (addW t8 1 (fun t18 => nx9 t18)))))) (κ true)) 0)

def L_impl_FlatsValid (list_0 : (List GFlat)) (κ : Bool → Prop) : Prop :=
  ifW (decide (60 < (list_0.length : Int))) (κ false) (loopW (fun (nx4 : Int → Prop) (t3 : Int) => ifW (decide (t3 < (list_0.length : Int))) (idxW list_0 t3 (fun e5 => L_impl_BoxValid e5.xWhere (fun r16 => ifW (!r16) (κ false) (addW t3 1 (fun t17 => nx4 t17))))) (κ true)) 0)

def L_impl_sidesOf (b_0 : GBox) (κ : A4ListGSpan → Prop) : Prop :=
  pre4 b_0.xSides (fun e10 e11 e12 e13 => κ (A4ListGSpan.mk e10 e11 e12 e13))

def L_spec_SpansValid (list_0 : (List GSpan)) (top_1 : Int) (κ : Bool → Prop) : Prop :=
  loopW (fun (nx4 : Int → Prop) (t3 : Int) => ifW (decide (t3 < (list_0.length : Int))) (jnW (fun (t79 : Bool) => ifW t79 (κ false) (addW t3 1 (fun t81 => nx4 t81))) (fun k80 => idxW list_0 t3 (fun e5 => idxW list_0 t3 (fun e7 => L_spec_l1In e5.xLo 0 e7.xHi (fun r9 => ifW (!r9) (k80 true) (idxW list_0 t3 (fun e10 => L_spec_l1In e10.xHi 0 top_1 (fun r12 => ifW (!r12) (k80 true) (ifW (decide (0 < t3)) (idxW list_0 t3 (fun e13 => subW t3 1 (fun t15 => idxW list_0 t15 (fun e16 => addW e16.xHi 2 (fun t18 => k80 (decide (e13.xLo < t18))))))) (k80 false)))))))))) (jnW (fun (t143 : Bool) => κ t143) (fun k144 => L_spec_l1In top_1 0 65535 (fun r82 => ifW r82 (k144 (decide ((list_0.length : Int) ≤ 40))) (k144 false))))) 0

def L_spec_BoxValid (b_0 : GBox) (κ : Bool → Prop) : Prop :=
  loopW (fun (nx9 : Int → Prop) (t8 : Int) => ifW (decide (t8 < (b_0.xSides.length : Int))) (jnW (fun (t78 : Bool) => ifW t78 (κ false) (addW t8 1 (fun t80 => nx9 t80))) (fun k79 => ifW (decide (4 ≤ t8)) (k79 true) (idxW b_0.xSides t8 (fun e10 => L_spec_FieldTop t8 (fun r16 => L_spec_SpansValid e10 r16 (fun r17 => k79 (!r17))))))) (κ (decide ((b_0.xSides.length : Int) = 4)))) 0

def L_spec_FlatsValid (list_0 : (List GFlat)) (κ : Bool → Prop) : Prop :=
  loopW (fun (nx4 : Int → Prop) (t3 : Int) => ifW (decide (t3 < (list_0.length : Int))) (idxW list_0 t3 (fun e5 => L_spec_BoxValid e5.xWhere (fun r11 => ifW (!r11) (κ false) (addW t3 1 (fun t12 => nx4 t12))))) (κ (decide ((list_0.length : Int) ≤ 60)))) 0

def L_laws_szSpanS (a_0 : (List GSpan)) (left_1 : Int) (κ : Int → Prop) : Prop :=
  subW left_1 (a_0.length : Int) (fun t3 => ifW (decide (t3 < 0)) (κ (-1)) (κ t3))

def L_laws_szSpanSS (a_0 : (List (List GSpan))) (left_1 : Int) (κ : Int → Prop) : Prop :=
  subW left_1 (a_0.length : Int) (fun t3 => ifW (decide (t3 < 0)) (κ (-1)) (loopW (fun (nx6 : (Int × Int) → Prop) ((t4, t5) : (Int × Int)) => ifW (decide (t5 < (a_0.length : Int))) (idxW a_0 t5 (fun e7 => L_laws_szSpanS e7 t4 (fun r13 => ifW (decide (r13 < 0)) (κ (-1)) (addW t5 1 (fun t14 => nx6 (r13, t14)))))) (κ t4)) (t3, 0)))

def L_laws_szBox (a_0 : GBox) (left_1 : Int) (κ : Int → Prop) : Prop :=
  L_laws_szSpanSS a_0.xSides left_1 (fun r8 => ifW (decide (r8 < 0)) (κ (-1)) (κ r8))

def L_laws_szFlat (a_0 : GFlat) (left_1 : Int) (κ : Int → Prop) : Prop :=
  L_laws_szBox a_0.xWhere left_1 (fun r8 => ifW (decide (r8 < 0)) (κ (-1)) (κ r8))

def L_laws_szFlatS (a_0 : (List GFlat)) (left_1 : Int) (κ : Int → Prop) : Prop :=
  subW left_1 (a_0.length : Int) (fun t3 => ifW (decide (t3 < 0)) (κ (-1)) (loopW (fun (nx6 : (Int × Int) → Prop) ((t4, t5) : (Int × Int)) => ifW (decide (t5 < (a_0.length : Int))) (idxW a_0 t5 (fun e7 => L_laws_szFlat e7 t4 (fun r13 => ifW (decide (r13 < 0)) (κ (-1)) (addW t5 1 (fun t14 => nx6 (r13, t14)))))) (κ t4)) (t3, 0)))

def L_spec_l1OwnRowsSpan (list_0 : (List (List GSpan))) (κ : (List (List GSpan)) → Prop) : Prop :=
  loopW (fun (nx13 : ((List (List GSpan)) × Int) → Prop) ((xs8, t12) : ((List (List GSpan)) × Int)) => ifW (decide (t12 < (list_0.length : Int))) (idxW list_0 t12 (fun e16 => appW ([]) e16 (fun _ => appW xs8 ([(([]) ++ e16)]) (fun _ => addW t12 1 (fun t33 => nx13 ((xs8 ++ ([(([]) ++ e16)])), t33)))))) (κ xs8)) ([], 0)

def L_spec_l1OwnBox (x_0 : GBox) (κ : GBox → Prop) : Prop :=
  L_spec_l1OwnRowsSpan x_0.xSides (fun r12 => κ (GBox.mk r12))

def L_spec_l1OwnFlat (x_0 : GFlat) (κ : GFlat → Prop) : Prop :=
  L_spec_l1OwnBox x_0.xWhere (fun r12 => κ (GFlat.mk r12 x_0.xAccept))

def L_spec_l1OwnFlatList (list_0 : (List GFlat)) (κ : (List GFlat) → Prop) : Prop :=
  loopW (fun (nx13 : ((List GFlat) × Int) → Prop) ((xs8, t12) : ((List GFlat) × Int)) => ifW (decide (t12 < (list_0.length : Int))) (idxW list_0 t12 (fun e14 => L_spec_l1OwnFlat e14 (fun r20 => appW xs8 ([r20]) (fun _ => addW t12 1 (fun t33 => nx13 ((xs8 ++ ([r20])), t33)))))) (κ xs8)) ([], 0)

def L_spec_l10Empty (b_0 : GBox) (κ : Bool → Prop) : Prop :=
  loopW (fun (nx9 : Int → Prop) (t8 : Int) => ifW (decide (t8 < (b_0.xSides.length : Int))) (idxW b_0.xSides t8 (fun e10 => ifW (decide ((e10.length : Int) = 0)) (κ true) (addW t8 1 (fun t16 => nx9 t16)))) (κ false)) 0

def L_spec_BoxTests (b_0 : GBox) (κ : ((List GTest) × Bool) → Prop) : Prop :=
  jnW (fun (t73 : Bool) => ifW t73 (κ ([], false)) (loopW (fun (nx80 : ((List GTest) × Int) → Prop) ((xs76, t79) : ((List GTest) × Int)) => ifW (decide (t79 < 4)) (jnW (fun (xs298 : (List GTest)) => addW t79 1 (fun t302 => nx80 (xs298, t302))) (fun k301 => idxW b_0.xSides t79 (fun e81 => L_spec_FieldTop t79 (fun r87 => jnW (fun (t150 : Bool) => ifW t150 (k301 xs76) (ifW (decide ((e81.length : Int) = 1)) (idxW e81 0 (fun e152 => idxW e81 0 (fun e154 => appW xs76 ([(GTest.mk t79 e152.xLo e154.xHi false)]) (fun _ => k301 (xs76 ++ ([(GTest.mk t79 e152.xLo e154.xHi false)])))))) (jnW (fun (t224 : Bool) => ifW t224 (idxW e81 0 (fun e226 => addW e226.xHi 1 (fun t228 => idxW e81 1 (fun e229 => subW e229.xLo 1 (fun t231 => appW xs76 ([(GTest.mk t79 t228 t231 true)]) (fun _ => k301 (xs76 ++ ([(GTest.mk t79 t228 t231 true)])))))))) (κ ([], false))) (fun k225 => ifW (decide ((e81.length : Int) = 2)) (idxW e81 0 (fun e160 => ifW (decide (e160.xLo = 0)) (idxW e81 1 (fun e162 => k225 (decide (e162.xHi = r87)))) (k225 false))) (k225 false))))) (fun k151 => ifW (decide ((e81.length : Int) = 1)) (idxW e81 0 (fun e88 => k151 (decide (e88 = (GSpan.mk 0 r87))))) (k151 false)))))) (κ (xs76, true))) ([], 0))) (fun k74 => L_spec_BoxValid b_0 (fun r11 => ifW (!r11) (k74 true) (L_spec_l10Empty b_0 (fun r12 => k74 r12))))

def L_spec_FlatRuleset (list_0 : (List GFlat)) (rest_1 : Bool) (κ : (GRuleset × Bool) → Prop) : Prop :=
  L_spec_l1OwnFlatList list_0 (fun r5 => jnW (fun (t70 : Bool) => ifW t70 (κ ((GRuleset.mk ([]) false), false)) (loopW (fun (nx82 : ((List GRule) × Int) → Prop) ((xs77, t81) : ((List GRule) × Int)) => ifW (decide (t81 < (r5.length : Int))) (idxW r5 t81 (fun e83 => L_spec_BoxTests e83.xWhere (fun (r91, r94) => ifW (!r94) (κ ((GRuleset.mk ([]) false), false)) (jnW (fun (t163 : Int) => appW xs77 ([(GRule.mk r91 t163 0)]) (fun _ => addW t81 1 (fun t171 => nx82 ((xs77 ++ ([(GRule.mk r91 t163 0)])), t171)))) (fun k164 => idxW r5 t81 (fun e101 => ifW e101.xAccept (k164 1) (k164 2))))))) (κ ((GRuleset.mk ([xs77]) rest_1), true))) ([], 0))) (fun k71 => L_spec_FlatsValid r5 (fun r9 => ifW (!r9) (k71 true) (k71 (decide (8 < (r5.length : Int)))))))

def L_laws_toSpan (a_0 : GSpan) (κ : GSpan → Prop) : Prop :=
  κ a_0

def L_laws_toSpanS (a_0 : (List GSpan)) (κ : (List GSpan) → Prop) : Prop :=
  makeW ((GSpan.mk 0 0) : GSpan) (a_0.length : Int) (a_0.length : Int) (fun xs5 => loopW (fun (nx10 : ((List GSpan) × Int) → Prop) ((xs7, t9) : ((List GSpan) × Int)) => ifW (decide (t9 < (a_0.length : Int))) (idxW a_0 t9 (fun e11 => L_laws_toSpan e11 (fun r13 => idxW xs7 t9 (fun e14 => addW t9 1 (fun t17 => nx10 ((xs7.set (t9).toNat r13), t17)))))) (κ xs7)) (xs5, 0))

def L_laws_toSpanSS (a_0 : (List (List GSpan))) (κ : (List (List GSpan)) → Prop) : Prop :=
  makeW ([] : (List GSpan)) (a_0.length : Int) (a_0.length : Int) (fun xs5 => loopW (fun (nx12 : ((List (List GSpan)) × Int) → Prop) ((xs8, t11) : ((List (List GSpan)) × Int)) => ifW (decide (t11 < (a_0.length : Int))) (idxW a_0 t11 (fun e13 => L_laws_toSpanS e13 (fun r19 => idxW xs8 t11 (fun e22 => addW t11 1 (fun t29 => nx12 ((xs8.set (t11).toNat r19), t29)))))) (κ xs8)) (xs5, 0))

def L_laws_toBox (a_0 : GBox) (κ : GBox → Prop) : Prop :=
  L_laws_toSpanSS a_0.xSides (fun r12 => κ (GBox.mk r12))

def L_laws_toFlat (a_0 : GFlat) (κ : GFlat → Prop) : Prop :=
  L_laws_toBox a_0.xWhere (fun r12 => κ (GFlat.mk r12 a_0.xAccept))

def L_laws_toFlatS (a_0 : (List GFlat)) (κ : (List GFlat) → Prop) : Prop :=
  makeW ((GFlat.mk (GBox.mk ([])) false) : GFlat) (a_0.length : Int) (a_0.length : Int) (fun xs5 => loopW (fun (nx12 : ((List GFlat) × Int) → Prop) ((xs8, t11) : ((List GFlat) × Int)) => ifW (decide (t11 < (a_0.length : Int))) (idxW a_0 t11 (fun e13 => L_laws_toFlat e13 (fun r19 => idxW xs8 t11 (fun e23 => addW t11 1 (fun t30 => nx12 ((xs8.set (t11).toNat r19), t30)))))) (κ xs8)) (xs5, 0))

def L_impl_sides_empty (s_0 : A4ListGSpan) (κ : Bool → Prop) : Prop :=
  loopW (fun (nx39 : Int → Prop) (t38 : Int) => ifW (decide (t38 < 4)) (idxW ([s_0.x0, s_0.x1, s_0.x2, s_0.x3]) t38 (fun e41 => ifW (decide ((e41.length : Int) = 0)) (κ true) (addW t38 1 (fun t44 => nx39 t44)))) (κ false)) 0

def L_impl_BoxTests (b_0 : GBox) (κ : ((List GTest) × Bool) → Prop) : Prop :=
  jnW (fun (t80 : Bool) => ifW t80 (κ ([], false)) (loopW (fun (nx89 : ((List GTest) × Int) → Prop) ((xs85, t88) : ((List GTest) × Int)) => ifW (decide (t88 < (b_0.xSides.length : Int))) (jnW (fun (xs307 : (List GTest)) => addW t88 1 (fun t311 => nx89 (xs307, t311))) (fun k310 => idxW b_0.xSides t88 (fun e90 => idxW gl_impl_fieldShapes t88 (fun e96 => jnW (fun (t160 : Bool) => ifW t160 (k310 xs85) (ifW (decide ((e90.length : Int) = 1)) (idxW e90 0 (fun e162 => idxW e90 0 (fun e164 => appW xs85 ([(GTest.mk t88 e162.xLo e164.xHi false)]) (fun _ => k310 (xs85 ++ ([(GTest.mk t88 e162.xLo e164.xHi false)])))))) (jnW (fun (t234 : Bool) => ifW t234 (idxW e90 0 (fun e236 => addW e236.xHi 1 (fun t238 => idxW e90 1 (fun e239 => subW e239.xLo 1 (fun t241 => appW xs85 ([(GTest.mk t88 t238 t241 true)]) (fun _ => k310 (xs85 ++ ([(GTest.mk t88 t238 t241 true)])))))))) (κ ([], false))) (fun k235 => ifW (decide ((e90.length : Int) = 2)) (idxW e90 0 (fun e170 => ifW (decide (e170.xLo = 0)) (idxW e90 1 (fun e172 => k235 (decide (e172.xHi = e96.xTop)))) (k235 false))) (k235 false))))) (fun k161 => ifW (decide ((e90.length : Int) = 1)) (idxW e90 0 (fun e98 => k161 (decide (e98 = (GSpan.mk 0 e96.xTop))))) (k161 false)))))) (κ (xs85, true))) ([], 0))) (fun k81 => L_impl_BoxValid b_0 (fun r9 => ifW (!r9) (k81 true) (L_impl_sidesOf b_0 (fun r10 => L_impl_sides_empty r10 (fun r19 => k81 r19)))))

def L_impl_FlatRuleset (list_0 : (List GFlat)) (rest_1 : Bool) (κ : (GRuleset × Bool) → Prop) : Prop :=
  jnW (fun (t66 : Bool) => ifW t66 (κ ((GRuleset.mk ([]) false), false)) (makeW ((GRule.mk ([]) 0 0) : GRule) 0 (list_0.length : Int) (fun xs70 => loopW (fun (nx79 : ((List GRule) × Int) → Prop) ((xs74, t78) : ((List GRule) × Int)) => ifW (decide (t78 < (list_0.length : Int))) (idxW list_0 t78 (fun e80 => L_impl_BoxTests e80.xWhere (fun (r91, r94) => jnW (fun (t155 : Bool) => ifW t155 (κ ((GRuleset.mk ([]) false), false)) (jnW (fun (t218 : Int) => appW xs74 ([(GRule.mk r91 t218 0)]) (fun _ => addW t78 1 (fun t229 => nx79 ((xs74 ++ ([(GRule.mk r91 t218 0)])), t229)))) (fun k219 => ifW e80.xAccept (k219 1) (k219 2)))) (fun k156 => ifW (!r94) (k156 true) (k156 (decide (6 < (r91.length : Int)))))))) (κ ((GRuleset.mk ([xs74]) rest_1), true))) (xs70, 0)))) (fun k67 => ifW (decide (8 < (list_0.length : Int))) (k67 true) (L_impl_FlatsValid list_0 (fun r5 => k67 (!r5))))

def L_laws_eqTest (a_0 : GTest) (b_1 : GTest) (κ : Bool → Prop) : Prop :=
  ifW (!(decide (a_0.xField = b_1.xField))) (κ false) (ifW (!(decide (a_0.xLo = b_1.xLo))) (κ false) (ifW (!(decide (a_0.xHi = b_1.xHi))) (κ false) (ifW (!(decide (a_0.xNot = b_1.xNot))) (κ false) (κ true))))

def L_laws_eqTestS (a_0 : (List GTest)) (b_1 : (List GTest)) (κ : Bool → Prop) : Prop :=
  ifW (!(decide ((a_0.length : Int) = (b_1.length : Int)))) (κ false) (loopW (fun (nx6 : Int → Prop) (t5 : Int) => ifW (decide (t5 < (a_0.length : Int))) (idxW a_0 t5 (fun e7 => idxW b_1 t5 (fun e9 => L_laws_eqTest e7 e9 (fun r11 => ifW (!r11) (κ false) (addW t5 1 (fun t12 => nx6 t12)))))) (κ true)) 0)

def L_laws_eqRule (a_0 : GRule) (b_1 : GRule) (κ : Bool → Prop) : Prop :=
  L_laws_eqTestS a_0.xTests b_1.xTests (fun r15 => ifW (!r15) (κ false) (ifW (!(decide (a_0.xAction = b_1.xAction))) (κ false) (ifW (!(decide (a_0.xChain = b_1.xChain))) (κ false) (κ true))))

def L_laws_eqRuleS (a_0 : (List GRule)) (b_1 : (List GRule)) (κ : Bool → Prop) : Prop :=
  ifW (!(decide ((a_0.length : Int) = (b_1.length : Int)))) (κ false) (loopW (fun (nx6 : Int → Prop) (t5 : Int) => ifW (decide (t5 < (a_0.length : Int))) (idxW a_0 t5 (fun e7 => idxW b_1 t5 (fun e13 => L_laws_eqRule e7 e13 (fun r19 => ifW (!r19) (κ false) (addW t5 1 (fun t20 => nx6 t20)))))) (κ true)) 0)

def L_laws_eqRuleSS (a_0 : (List (List GRule))) (b_1 : (List (List GRule))) (κ : Bool → Prop) : Prop :=
  ifW (!(decide ((a_0.length : Int) = (b_1.length : Int)))) (κ false) (loopW (fun (nx6 : Int → Prop) (t5 : Int) => ifW (decide (t5 < (a_0.length : Int))) (idxW a_0 t5 (fun e7 => idxW b_1 t5 (fun e13 => L_laws_eqRuleS e7 e13 (fun r19 => ifW (!r19) (κ false) (addW t5 1 (fun t20 => nx6 t20)))))) (κ true)) 0)

def L_laws_eqRuleset (a_0 : GRuleset) (b_1 : GRuleset) (κ : Bool → Prop) : Prop :=
  L_laws_eqRuleSS a_0.xChains b_1.xChains (fun r15 => ifW (!r15) (κ false) (ifW (!(decide (a_0.xAccept = b_1.xAccept))) (κ false) (κ true)))

def L_laws_eqSpan (a_0 : GSpan) (b_1 : GSpan) (κ : Bool → Prop) : Prop :=
  ifW (!(decide (a_0.xLo = b_1.xLo))) (κ false) (ifW (!(decide (a_0.xHi = b_1.xHi))) (κ false) (κ true))

def L_laws_eqSpanS (a_0 : (List GSpan)) (b_1 : (List GSpan)) (κ : Bool → Prop) : Prop :=
  ifW (!(decide ((a_0.length : Int) = (b_1.length : Int)))) (κ false) (loopW (fun (nx6 : Int → Prop) (t5 : Int) => ifW (decide (t5 < (a_0.length : Int))) (idxW a_0 t5 (fun e7 => idxW b_1 t5 (fun e9 => L_laws_eqSpan e7 e9 (fun r11 => ifW (!r11) (κ false) (addW t5 1 (fun t12 => nx6 t12)))))) (κ true)) 0)

def L_laws_eqSpanSS (a_0 : (List (List GSpan))) (b_1 : (List (List GSpan))) (κ : Bool → Prop) : Prop :=
  ifW (!(decide ((a_0.length : Int) = (b_1.length : Int)))) (κ false) (loopW (fun (nx6 : Int → Prop) (t5 : Int) => ifW (decide (t5 < (a_0.length : Int))) (idxW a_0 t5 (fun e7 => idxW b_1 t5 (fun e13 => L_laws_eqSpanS e7 e13 (fun r19 => ifW (!r19) (κ false) (addW t5 1 (fun t20 => nx6 t20)))))) (κ true)) 0)

def L_laws_eqBox (a_0 : GBox) (b_1 : GBox) (κ : Bool → Prop) : Prop :=
  L_laws_eqSpanSS a_0.xSides b_1.xSides (fun r15 => ifW (!r15) (κ false) (κ true))

def L_laws_eqFlat (a_0 : GFlat) (b_1 : GFlat) (κ : Bool → Prop) : Prop :=
  L_laws_eqBox a_0.xWhere b_1.xWhere (fun r15 => ifW (!r15) (κ false) (ifW (!(decide (a_0.xAccept = b_1.xAccept))) (κ false) (κ true)))

def L_laws_eqFlatS (a_0 : (List GFlat)) (b_1 : (List GFlat)) (κ : Bool → Prop) : Prop :=
  ifW (!(decide ((a_0.length : Int) = (b_1.length : Int)))) (κ false) (loopW (fun (nx6 : Int → Prop) (t5 : Int) => ifW (decide (t5 < (a_0.length : Int))) (idxW a_0 t5 (fun e7 => idxW b_1 t5 (fun e13 => L_laws_eqFlat e7 e13 (fun r19 => ifW (!r19) (κ false) (addW t5 1 (fun t20 => nx6 t20)))))) (κ true)) 0)

def L_laws_markSpanS (a_0 : (List GSpan)) (k_1 : Int) (κ : (Int × (List GSpan)) → Prop) : Prop :=
  loopW (fun (nx7 : ((List GSpan) × Int × Int) → Prop) ((xs3, t5, t6) : ((List GSpan) × Int × Int)) => ifW (decide (t6 < (xs3.length : Int))) (idxW xs3 t6 (fun e8 => addW t5 1 (fun t11 => idxW (xs3.set (t6).toNat (GSpan.mk t5 e8.xHi)) t6 (fun e12 => addW t11 1 (fun t15 => addW t6 1 (fun t16 => nx7 (((xs3.set (t6).toNat (GSpan.mk t5 e8.xHi)).set (t6).toNat (GSpan.mk e12.xLo t11)), t15, t16))))))) (κ (t5, xs3))) (a_0, k_1, 0)

def L_laws_markSpanSS (a_0 : (List (List GSpan))) (k_1 : Int) (κ : (Int × (List (List GSpan))) → Prop) : Prop :=
  loopW (fun (nx9 : ((List (List GSpan)) × Int × Int) → Prop) ((xs4, t7, t8) : ((List (List GSpan)) × Int × Int)) => ifW (decide (t8 < (xs4.length : Int))) (idxW xs4 t8 (fun e10 => L_laws_markSpanS e10 t7 (fun (r16, r17) => addW t8 1 (fun t19 => nx9 ((xs4.set (t8).toNat r17), r16, t19))))) (κ (t7, xs4))) (a_0, k_1, 0)

def L_laws_markFlatS (a_0 : (List GFlat)) (k_1 : Int) (κ : (Int × (List GFlat)) → Prop) : Prop :=
  loopW (fun (nx9 : ((List GFlat) × Int × Int) → Prop) ((xs4, t7, t8) : ((List GFlat) × Int × Int)) => ifW (decide (t8 < (xs4.length : Int))) (idxW xs4 t8 (fun e10 => L_laws_markSpanSS e10.xWhere.xSides t7 (fun (r16, r17) => remW r16 3 (fun t20 => idxW (xs4.set (t8).toNat (GFlat.mk (GBox.mk r17) e10.xAccept)) t8 (fun e23 => addW r16 1 (fun t26 => addW t8 1 (fun t27 => nx9 (((xs4.set (t8).toNat (GFlat.mk (GBox.mk r17) e10.xAccept)).set (t8).toNat (GFlat.mk e23.xWhere (decide (t20 = 0)))), t26, t27)))))))) (κ (t7, xs4))) (a_0, k_1, 0)

def L_laws_markTestS (a_0 : (List GTest)) (k_1 : Int) (κ : (Int × (List GTest)) → Prop) : Prop :=
  loopW (fun (nx7 : ((List GTest) × Int × Int) → Prop) ((xs3, t5, t6) : ((List GTest) × Int × Int)) => ifW (decide (t6 < (xs3.length : Int))) (idxW xs3 t6 (fun e8 => addW t5 1 (fun t11 => idxW (xs3.set (t6).toNat (GTest.mk t5 e8.xLo e8.xHi e8.xNot)) t6 (fun e12 => addW t11 1 (fun t15 => idxW ((xs3.set (t6).toNat (GTest.mk t5 e8.xLo e8.xHi e8.xNot)).set (t6).toNat (GTest.mk e12.xField t11 e12.xHi e12.xNot)) t6 (fun e16 => addW t15 1 (fun t19 => remW t19 3 (fun t20 => idxW (((xs3.set (t6).toNat (GTest.mk t5 e8.xLo e8.xHi e8.xNot)).set (t6).toNat (GTest.mk e12.xField t11 e12.xHi e12.xNot)).set (t6).toNat (GTest.mk e16.xField e16.xLo t15 e16.xNot)) t6 (fun e21 => addW t19 1 (fun t24 => addW t6 1 (fun t25 => nx7 (((((xs3.set (t6).toNat (GTest.mk t5 e8.xLo e8.xHi e8.xNot)).set (t6).toNat (GTest.mk e12.xField t11 e12.xHi e12.xNot)).set (t6).toNat (GTest.mk e16.xField e16.xLo t15 e16.xNot)).set (t6).toNat (GTest.mk e21.xField e21.xLo e21.xHi (decide (t20 = 0)))), t24, t25)))))))))))) (κ (t5, xs3))) (a_0, k_1, 0)

def L_laws_markRuleS (a_0 : (List GRule)) (k_1 : Int) (κ : (Int × (List GRule)) → Prop) : Prop :=
  loopW (fun (nx9 : ((List GRule) × Int × Int) → Prop) ((xs4, t7, t8) : ((List GRule) × Int × Int)) => ifW (decide (t8 < (xs4.length : Int))) (idxW xs4 t8 (fun e10 => L_laws_markTestS e10.xTests t7 (fun (r16, r17) => idxW (xs4.set (t8).toNat (GRule.mk r17 e10.xAction e10.xChain)) t8 (fun e21 => addW r16 1 (fun t24 => idxW ((xs4.set (t8).toNat (GRule.mk r17 e10.xAction e10.xChain)).set (t8).toNat (GRule.mk e21.xTests r16 e21.xChain)) t8 (fun e25 => addW t24 1 (fun t28 => addW t8 1 (fun t29 => nx9 ((((xs4.set (t8).toNat (GRule.mk r17 e10.xAction e10.xChain)).set (t8).toNat (GRule.mk e21.xTests r16 e21.xChain)).set (t8).toNat (GRule.mk e25.xTests e25.xAction t24)), t28, t29))))))))) (κ (t7, xs4))) (a_0, k_1, 0)

def L_laws_markRuleSS (a_0 : (List (List GRule))) (k_1 : Int) (κ : (Int × (List (List GRule))) → Prop) : Prop :=
  loopW (fun (nx9 : ((List (List GRule)) × Int × Int) → Prop) ((xs4, t7, t8) : ((List (List GRule)) × Int × Int)) => ifW (decide (t8 < (xs4.length : Int))) (idxW xs4 t8 (fun e10 => L_laws_markRuleS e10 t7 (fun (r16, r17) => addW t8 1 (fun t20 => nx9 ((xs4.set (t8).toNat r17), r16, t20))))) (κ (t7, xs4))) (a_0, k_1, 0)

def L_laws_markRuleset (a_0_Chains : (List (List GRule))) (a_0_Accept : Bool) (k_1 : Int) (κ : (Int × (List (List GRule))) → Prop) : Prop :=
  L_laws_markRuleSS a_0_Chains k_1 (fun (r6, r7) => κ (r6, r7))

def L_laws_heldTestS (a_0 : (List GTest)) (k_1 : Int) (κ : Int → Prop) : Prop :=
  loopW (fun (nx5 : (Int × Int) → Prop) ((t3, t4) : (Int × Int)) => ifW (decide (t4 < (a_0.length : Int))) (idxW a_0 t4 (fun e6 => ifW (!(decide (e6.xField = t3))) (κ (-1)) (addW t3 1 (fun t8 => idxW a_0 t4 (fun e9 => ifW (!(decide (e9.xLo = t8))) (κ (-1)) (addW t8 1 (fun t11 => idxW a_0 t4 (fun e12 => ifW (!(decide (e12.xHi = t11))) (κ (-1)) (addW t11 1 (fun t14 => idxW a_0 t4 (fun e15 => remW t14 3 (fun t17 => ifW (!(decide (e15.xNot = (decide (t17 = 0))))) (κ (-1)) (addW t14 1 (fun t18 => addW t4 1 (fun t19 => nx5 (t18, t19)))))))))))))))) (κ t3)) (k_1, 0)

def L_laws_heldRuleS (a_0 : (List GRule)) (k_1 : Int) (κ : Int → Prop) : Prop :=
  loopW (fun (nx5 : (Int × Int) → Prop) ((t3, t4) : (Int × Int)) => ifW (decide (t4 < (a_0.length : Int))) (idxW a_0 t4 (fun e6 => L_laws_heldTestS e6.xTests t3 (fun r12 => ifW (decide (r12 < 0)) (κ (-1)) (idxW a_0 t4 (fun e13 => ifW (!(decide (e13.xAction = r12))) (κ (-1)) (addW r12 1 (fun t15 => idxW a_0 t4 (fun e16 => ifW (!(decide (e16.xChain = t15))) (κ (-1)) (addW t15 1 (fun t18 => addW t4 1 (fun t19 => nx5 (t18, t19)))))))))))) (κ t3)) (k_1, 0)

def L_laws_heldRuleSS (a_0 : (List (List GRule))) (k_1 : Int) (κ : Int → Prop) : Prop :=
  loopW (fun (nx5 : (Int × Int) → Prop) ((t3, t4) : (Int × Int)) => ifW (decide (t4 < (a_0.length : Int))) (idxW a_0 t4 (fun e6 => L_laws_heldRuleS e6 t3 (fun r12 => ifW (decide (r12 < 0)) (κ (-1)) (addW t4 1 (fun t13 => nx5 (r12, t13)))))) (κ t3)) (k_1, 0)

def L_laws_heldRuleset (a_0 : GRuleset) (k_1 : Int) (κ : Int → Prop) : Prop :=
  L_laws_heldRuleSS a_0.xChains k_1 (fun r8 => ifW (decide (r8 < 0)) (κ (-1)) (κ r8))

def L_laws_FnExactFlatRuleset (aList_0 : (List GFlat)) (aRest_1 : Bool) (κ : Bool → Prop) : Prop :=
  L_laws_szFlatS aList_0 1048576 (fun r3 => ifW (decide (r3 < 0)) (κ true) (L_laws_toFlatS aList_0 (fun r4 => L_spec_FlatRuleset r4 aRest_1 (fun (r8, r12) => L_laws_toFlatS aList_0 (fun r18 => L_impl_FlatRuleset r18 aRest_1 (fun (r22, r26) => jnW (fun (t93 : Bool) => ifW t93 (κ false) (L_laws_toFlatS aList_0 (fun r95 => L_laws_eqFlatS r18 r95 (fun r99 => ifW (!r99) (κ false) (L_laws_markFlatS r18 1 (fun (r100, r101) => jnW (fun (t165 : Bool) => ifW t165 (κ false) (L_laws_markRuleset r22.xChains r22.xAccept 1 (fun (r167, r168) => L_laws_heldRuleset (GRuleset.mk r168 r22.xAccept) 1 (fun r171 => ifW (decide (r171 < 0)) (κ false) (ifW (!(decide (r171 = r167))) (κ false) (L_laws_toFlatS aList_0 (fun r172 => L_impl_FlatRuleset r172 aRest_1 (fun (r176, r180) => jnW (fun (t247 : Bool) => ifW t247 (κ false) (L_laws_heldRuleset (GRuleset.mk r168 r22.xAccept) 1 (fun r249 => ifW (decide (r249 < 0)) (κ false) (ifW (!(decide (r249 = r167))) (κ false) (κ true))))) (fun k248 => L_laws_eqRuleset r176 r8 (fun r186 => ifW (!r186) (k248 true) (k248 (!(decide (r180 = r12)))))))))))))) (fun k166 => ifW (decide (r100 < 0)) (k166 true) (L_laws_eqRuleset r22 r8 (fun r104 => ifW (!r104) (k166 true) (k166 (!(decide (r26 = r12))))))))))))) (fun k94 => L_laws_eqRuleset r22 r8 (fun r32 => ifW (!r32) (k94 true) (k94 (!(decide (r26 = r12))))))))))))

end
section
open Go Go.Proofs

/-- the only form of a set -/
def NF (l : List GSpan) : Prop := (∀ s ∈ l, s.xLo ≤ s.xHi) ∧ l.Pairwise (fun a b => a.xHi + 1 < b.xLo)
/-- a number is in one of the ranges -/
def hv (l : List GSpan) (x : Int) : Prop := ∃ s ∈ l, s.xLo ≤ x ∧ x ≤ s.xHi
end
section


theorem ifW_t {A B : Prop} (h : A) : ifW true A B := ⟨fun _ => h, (fun e => by cases e)⟩
theorem ifW_f {A B : Prop} (h : B) : ifW false A B := ⟨(fun e => by cases e), fun _ => h⟩
theorem ifW_of {c : Bool} {A B : Prop} (ht : c = true → A) (hf : c = false → B) : ifW c A B := ⟨ht, hf⟩
@[simp] theorem ifW_true {A B : Prop} : ifW true A B = A := propext ⟨fun h => h.1 rfl, ifW_t⟩
@[simp] theorem ifW_false {A B : Prop} : ifW false A B = B := propext ⟨fun h => h.2 rfl, ifW_f⟩
theorem addW_of {x y : Int} {κ : Int → Prop} (h1 : -9223372036854775808 ≤ x + y) (h2 : x + y ≤ 9223372036854775807) (h : κ (x + y)) : addW x y κ := ⟨⟨h1, h2⟩, h⟩
theorem subW_of {x y : Int} {κ : Int → Prop} (h1 : -9223372036854775808 ≤ x - y) (h2 : x - y ≤ 9223372036854775807) (h : κ (x - y)) : subW x y κ := ⟨⟨h1, h2⟩, h⟩
theorem remW_of {x y : Int} {κ : Int → Prop} (h1 : 0 ≤ x) (h2 : x ≤ 9223372036854775807) (h3 : 0 < y) (h : κ (x % y)) : remW x y κ := ⟨h1, h3, ⟨by omega, h2⟩, h⟩
theorem idxW_of {α : Type} {xs : List α} {i : Int} {κ : α → Prop} (n : Nat) (hi : i = n) (hn : n < xs.length) (h : κ xs[n]) : idxW xs i κ := by
  subst hi
  exact ⟨xs[n], by omega, by simp [hn], h⟩
theorem appW_of {α : Type} {xs ys : List α} {κ : List α → Prop} (h1 : xs.length + ys.length ≤ 4294967296) (h : κ (xs ++ ys)) : appW xs ys κ := ⟨h1, h⟩
theorem makeW_of {α : Type} {z : α} {n m : Int} {κ : List α → Prop} (k : Nat) (hn : n = k) (h1 : n ≤ m) (h2 : m ≤ 4294967296) (h : κ (List.replicate k z)) : makeW z n m κ := by
  subst hn
  refine ⟨by omega, h1, ?_, by simpa using h⟩
  unfold lenOk
  omega

/-- a loop that counts a place up to a length, with a state: after each round the state's law holds of the next place -/
theorem count_loop {σ : Type} {F : (σ → Prop) → σ → Prop} (len : Nat) (pos : σ → Int) (I : Nat → σ → Prop) (hpos : ∀ k s, I k s → pos s = k) (hle : ∀ k s, I k s → k ≤ len)
    (h : ∀ k s next, I k s → (k < len → ∀ s', I (k + 1) s' → next s') → F next s) {s : σ} (h0 : I 0 s) : loopW F s := by
  refine loopW_inv (fun s => ∃ k, I k s) (fun s => len - (pos s).toNat) (fun s next ⟨k, hk⟩ hn => ?_) ⟨0, h0⟩
  refine h k s next hk (fun hlt s' hs' => hn s' ⟨k + 1, hs'⟩ ?_)
  rw [hpos _ _ hk, hpos _ _ hs']
  omega

/-- a copy element by element -/
theorem copy_loop {α β : Type} (a : List α) (f : α → β) (hl : a.length ≤ 4294967296) {κ : List β → Prop} (T : α → (β → Prop) → Prop) (hT : ∀ x ψ, x ∈ a → ψ (f x) → T x ψ) (hκ : κ (a.map f)) {xs : List β} (hx : xs.length = a.length)
    (F : (List β × Int → Prop) → List β × Int → Prop)
    (hF : ∀ nx xs t, (ifW (decide (t < (a.length : Int))) (idxW a t (fun e => T e (fun r => idxW xs t (fun _ => addW t 1 (fun u => nx (xs.set t.toNat r, u)))))) (κ xs)) → F nx (xs, t)) : loopW F (xs, 0) := by
  refine count_loop a.length (fun s => s.2) (fun k s => s.2 = (k : Int) ∧ k ≤ a.length ∧ s.1.length = a.length ∧ ∀ i, i < k → s.1[i]? = (a.map f)[i]?) (fun k s h => h.1) (fun k s h => h.2.1) ?_ ⟨rfl, Nat.zero_le _, hx, fun i hi => by omega⟩
  rintro k ⟨ys, t⟩ next ⟨rfl, hk, hy, hi⟩ hn
  simp only at hy hi
  refine hF _ _ _ (ifW_of (fun hc => ?_) (fun hc => ?_))
  · have hlt : k < a.length := by simpa using hc
    refine idxW_of k rfl hlt (hT _ _ (List.getElem_mem hlt) (idxW_of k rfl (by omega) (addW_of (by omega) (by omega) (hn hlt _ ?_))))
    refine ⟨by simp, by omega, by simpa using hy, fun i hi' => ?_⟩
    simp only [Int.toNat_natCast]
    by_cases e : i = k
    · subst e
      simp [hy, hlt]
    · rw [List.getElem?_set_ne (by omega)]
      exact hi i (by omega)
  · have hge : a.length ≤ k := by simpa using hc
    have : ys = a.map f := by
      apply List.ext_getElem?
      intro i
      by_cases h : i < k
      · exact hi i h
      · rw [List.getElem?_eq_none (by omega), List.getElem?_eq_none (by simp; omega)]
    rw [this]; exact hκ

/-- two lists are held against each other -/
theorem eq_loop {α : Type} [DecidableEq α] (a b : List α) (hab : a.length = b.length) (hl : a.length ≤ 4294967296) {κ : Bool → Prop} (T : α → α → Prop → Prop) (hT : ∀ x y A, (x = y → A) → (x ≠ y → κ false) → T x y A) (hκ : κ (decide (a = b)))
    (F : (Int → Prop) → Int → Prop) (hF : ∀ nx t, (ifW (decide (t < (a.length : Int))) (idxW a t (fun x => idxW b t (fun y => T x y (addW t 1 (fun u => nx u))))) (κ true)) → F nx t) : loopW F 0 := by
  refine count_loop a.length (fun s => s) (fun k s => s = (k : Int) ∧ k ≤ a.length ∧ a.take k = b.take k) (fun k s h => h.1) (fun k s h => h.2.1) ?_ ⟨rfl, Nat.zero_le _, by simp⟩
  rintro k _ next ⟨rfl, hk, he⟩ hn
  refine hF _ _ (ifW_of (fun hc => ?_) (fun hc => ?_))
  · have hlt : k < a.length := by simpa using hc
    refine idxW_of k rfl hlt (idxW_of k rfl (by omega) (hT _ _ _ (fun e => addW_of (by omega) (by omega) (hn hlt _ ⟨by simp, by omega, ?_⟩)) (fun e => ?_)))
    · rw [List.take_succ_eq_append_getElem hlt, List.take_succ_eq_append_getElem (by omega), he, e]
    · have : a ≠ b := fun h => by subst h; exact e rfl
      rw [decide_eq_false this] at hκ; exact hκ
  · have hge : a.length ≤ k := by simpa using hc
    have : a = b := by
      rw [List.take_of_length_le hge, List.take_of_length_le (by omega)] at he
      exact he
    rw [decide_eq_true this] at hκ; exact hκ

/-- the marks that are laid into a list from k on -/
def marks {α : Type} (f : Int → α) (k : Int) (n : Nat) : List α := (List.range n).map fun (i : Nat) => f (k + (i : Int))
theorem idxW_set {α : Type} {xs : List α} {t : Nat} {a : α} {κ : α → Prop} (h : t < xs.length) (hk : κ a) : idxW (xs.set ((t : Int)).toNat a) (t : Int) κ := ⟨a, by omega, by simp [h], hk⟩
theorem set_lt {α : Type} {xs : List α} {t i : Nat} {a : α} (h : t < xs.length) : t < (xs.set i a).length := by rw [List.length_set]; exact h
end
section
open Go Go.Proofs

instance (l : List GSpan) (x : Int) : Decidable (hv l x) := by unfold hv; infer_instance
/-- a set of numbers in 0..top, in its form; as many ranges as you like -/
def St (l : List GSpan) (top : Int) : Prop := NF l ∧ ∀ s ∈ l, 0 ≤ s.xLo ∧ s.xHi ≤ top
end
section
open Go.Lib (decDigits)

def B (l : List UInt8) : ByteArray := ByteArray.mk l.toArray
/-- a digit -/
def dg (c : UInt8) : Bool := decide (48 ≤ c.toNat) && decide (c.toNat ≤ 57)
def val (l : List UInt8) : Nat := l.foldl (fun n c => 10 * n + (c.toNat - 48)) 0
/-- the number at the head of a text: at most six digits -/
def run : Nat → List UInt8 → List UInt8
  | 0, _ => []
  | _, [] => []
  | k + 1, c :: l => if dg c then c :: run k l else []
end
section
open Go.Lib (decDigits)

/-- a text before and behind the first of a sign -/
def cut (c : UInt8) : List UInt8 → List UInt8 × List UInt8
  | [] => ([], [])
  | d :: l => if d = c then ([], l) else (d :: (cut c l).1, (cut c l).2)
end
section
open Go.Lib (decDigits)

theorem S_l1In {n lo hi : Int} {κ : Bool → Prop} (h : κ (decide (lo ≤ n ∧ n ≤ hi))) : L_spec_l1In n lo hi κ := by
  unfold L_spec_l1In jnW
  refine ifW_of (fun hc => ?_) (fun hc => ?_)
  · simp at hc; simpa [hc] using h
  · simp at hc
    have : decide (lo ≤ n ∧ n ≤ hi) = false := by simp; omega
    rw [this] at h; exact h
/-! ### the reader of the program -/
end
section
open Go.Lib (decDigits)

def top (f : Int) : Int := if f = 0 ∨ f = 1 then 65535 else if f = 2 then 255 else 7
theorem top_le (f : Int) : 7 ≤ top f ∧ top f ≤ 65535 := by unfold top; repeat' split
                                                           all_goals omega
def nm (f : Int) : List UInt8 := if f = 0 then [102, 114, 111, 109] else if f = 1 then [116, 111] else if f = 2 then [112, 111, 114, 116] else [112, 114, 111, 116, 111]
def TV (t : GTest) : Prop := 0 ≤ t.xField ∧ t.xField ≤ 3 ∧ 0 ≤ t.xLo ∧ t.xLo ≤ t.xHi ∧ t.xHi ≤ top t.xField
instance (t : GTest) : Decidable (TV t) := by unfold TV; infer_instance
/-- the part behind the name -/
def rtx (t : GTest) : List UInt8 := decDigits t.xLo.toNat ++ (if t.xHi = t.xLo then [] else 45 :: decDigits t.xHi.toNat)
def btx (t : GTest) : List UInt8 := nm t.xField ++ 32 :: rtx t
def ttx (t : GTest) : List UInt8 := if t.xNot then 110 :: 111 :: 116 :: 32 :: btx t else btx t
theorem four {f : Int} (h0 : 0 ≤ f) (h1 : f ≤ 3) : f = 0 ∨ f = 1 ∨ f = 2 ∨ f = 3 := by omega
theorem S_shape {n : Int} {κ : GFieldShape → Prop} (h0 : 0 ≤ n) (h1 : n ≤ 3) (h : ∀ e : GFieldShape, e.xName = B (nm n) → e.xTop = top n → κ e) : idxW gl_impl_fieldShapes n κ := by
  rcases four h0 h1 with rfl | rfl | rfl | rfl
  · exact idxW_of 0 rfl (by decide) (h _ rfl rfl)
  · exact idxW_of 1 rfl (by decide) (h _ rfl rfl)
  · exact idxW_of 2 rfl (by decide) (h _ rfl rfl)
  · exact idxW_of 3 rfl (by decide) (h _ rfl rfl)
theorem S_spec_FieldTop {n : Int} {κ : Int → Prop} (h0 : 0 ≤ n) (h1 : n ≤ 3) (h : κ (top n)) : L_spec_FieldTop n κ := by
  unfold L_spec_FieldTop jnW
  rcases four h0 h1 with rfl | rfl | rfl | rfl <;> simpa [top] using h
theorem S_impl_FieldTop {n : Int} {κ : Int → Prop} (h : κ (if 0 ≤ n ∧ n ≤ 3 then top n else -1)) : L_impl_FieldTop n κ := by
  unfold L_impl_FieldTop jnW
  refine ifW_of (fun hc => ?_) (fun hc => ifW_of (fun hc2 => ?_) (fun hc2 => ?_))
  · simp at hc; rw [if_neg (by omega)] at h; simpa using h
  · simp at hc hc2; rw [if_neg (by omega)] at h; exact h
  · simp at hc hc2; rw [if_pos (by omega)] at h
    exact S_shape (by omega) (by omega) (fun e _ he => by rw [he]; exact h)
end
section
open Go Go.Proofs

/-- four sets, each for its field -/
def B4 (a : A4ListGSpan) : Prop := St a.x0 65535 ∧ St a.x1 65535 ∧ St a.x2 255 ∧ St a.x3 7
/-- none has too many ranges -/
def F4 (a : A4ListGSpan) : Prop := a.x0.length ≤ 40 ∧ a.x1.length ≤ 40 ∧ a.x2.length ≤ 40 ∧ a.x3.length ≤ 40
instance (a : A4ListGSpan) : Decidable (F4 a) := by unfold F4; infer_instance
def nil4 : A4ListGSpan := ⟨[], [], [], []⟩
def em4 (a : A4ListGSpan) : Bool := decide (a.x0 = [] ∨ a.x1 = [] ∨ a.x2 = [] ∨ a.x3 = [])
theorem S_empty4 {a : A4ListGSpan} {κ : Bool → Prop} (h : κ (em4 a)) : L_impl_sides_empty a κ := by
  obtain ⟨x0, x1, x2, x3⟩ := a
  simp only [em4] at h
  unfold L_impl_sides_empty
  refine ⟨5, ?_⟩
  refine ifW_t (idxW_of 0 rfl (by simp) (ifW_of (fun e => ?_) (fun e => addW_of (by decide) (by decide) ?_)))
  · have : x0 = [] := by simpa using e
    subst this; simpa using h
  have e0 : x0 ≠ [] := by simpa using e
  refine ifW_t (idxW_of 1 rfl (by simp) (ifW_of (fun e => ?_) (fun e => addW_of (by decide) (by decide) ?_)))
  · have : x1 = [] := by simpa using e
    subst this; simpa using h
  have e1 : x1 ≠ [] := by simpa using e
  refine ifW_t (idxW_of 2 rfl (by simp) (ifW_of (fun e => ?_) (fun e => addW_of (by decide) (by decide) ?_)))
  · have : x2 = [] := by simpa using e
    subst this; simpa using h
  have e2 : x2 ≠ [] := by simpa using e
  refine ifW_t (idxW_of 3 rfl (by simp) (ifW_of (fun e => ?_) (fun e => addW_of (by decide) (by decide) ?_)))
  · have : x3 = [] := by simpa using e
    subst this; simpa using h
  have e3 : x3 ≠ [] := by simpa using e
  refine ifW_f ?_
  simpa [e0, e1, e2, e3] using h
theorem S_top {n : Int} {κ : Int → Prop} (h0 : 0 ≤ n) (h1 : n ≤ 3) (h : κ (top n)) : L_impl_FieldTop n κ := S_impl_FieldTop (by rw [if_pos ⟨h0, h1⟩]; exact h)

end
section
open Go.Lib (decDigits)

/-- behind a test stands the end, or a comma -/
def Ends (r : List UInt8) : Prop := ∀ c m, r = c :: m → c = 44
theorem Ends.dg {r : List UInt8} (h : Ends r) : ∀ c m, r = c :: m → dg c = false := fun c m e => by rw [h c m e]; decide

end
section
open Go.Lib (decDigits)

/-! ### the laws -/
theorem eqTest_of {p q : GTest} {κ : Bool → Prop} (h : κ (decide (p = q))) : L_laws_eqTest p q κ := by
  unfold L_laws_eqTest
  by_cases e : p = q
  · subst e; simpa using h
  · rw [decide_eq_false e] at h
    refine ifW_of (fun _ => h) (fun h1 => ifW_of (fun _ => h) (fun h2 => ifW_of (fun _ => h) (fun h3 => ifW_of (fun _ => h) (fun h4 => ?_))))
    exfalso; apply e
    cases p; cases q; simp_all

end
section
open Go.Lib (decDigits)

/-- the word of an action -/
def aw (a : Int) : List UInt8 := if a = 1 then [97, 99, 99, 101, 112, 116] else if a = 2 then [100, 114, 111, 112] else if a = 3 then [99, 97, 108, 108] else if a = 4 then [114, 101, 116, 117, 114, 110] else [110, 111, 110, 101]
def TsV (ts : List GTest) : Prop := (∀ t, t ∈ ts → TV t) ∧ ts.length ≤ 6
instance (ts : List GTest) : Decidable (TsV ts) := by unfold TsV; infer_instance
def HV (a c : Int) : Prop := 1 ≤ a ∧ a ≤ 5 ∧ (a = 3 → 0 ≤ c ∧ c ≤ 4) ∧ (a ≠ 3 → c = 0)
instance (a c : Int) : Decidable (HV a c) := by unfold HV; infer_instance
def RV (r : GRule) : Prop := TsV r.xTests ∧ HV r.xAction r.xChain
instance (r : GRule) : Decidable (RV r) := by unfold RV; infer_instance
def hd (a c : Int) : List UInt8 := aw a ++ (if a = 3 then 32 :: decDigits c.toNat else [])
def tl (ts : List GTest) : List UInt8 := ts.flatMap (fun t => 44 :: 32 :: ttx t)
end
section
open Go.Lib (decDigits)

theorem eqTestS_self {a : List GTest} {κ : Bool → Prop} (hl : a.length ≤ 4294967296) (h : κ true) : L_laws_eqTestS a a κ := by
  unfold L_laws_eqTestS
  refine ifW_of (fun hc => by simp at hc) (fun _ => ?_)
  refine eq_loop a a rfl hl (fun x y A => L_laws_eqTest x y (fun r11 => ifW (!r11) (κ false) A)) (fun x y A h1 h2 => eqTest_of ?_) (by simpa using h) _ (fun nx t hh => hh)
  by_cases e : x = y
  · rw [decide_eq_true e]; simp only [Bool.not_true, ifW_false]; exact h1 e
  · rw [decide_eq_false e]; simp only [Bool.not_false, ifW_true]; exact h2 e
theorem eqRule_self {r : GRule} {κ : Bool → Prop} (hl : r.xTests.length ≤ 4294967296) (h : κ true) : L_laws_eqRule r r κ := by
  unfold L_laws_eqRule
  refine eqTestS_self hl ?_
  simpa using h
/-- the mark of a test -/
def mkT (k : Int) : GTest := GTest.mk k (k + 1) (k + 2) (decide ((k + 3) % 3 = 0))

end
section

/-- every rule of every chain is valid, and calls a chain that is there -/
def Tg (cs : List (List GRule)) : Prop := cs.length ≤ 5 ∧ ∀ c, c ∈ cs → (c.length ≤ 8 ∧ ∀ r, r ∈ c → RV r ∧ r.xChain < cs.length)

/-- the same, whatever is called -/
def Tw (cs : List (List GRule)) : Prop := cs.length ≤ 5 ∧ ∀ c, c ∈ cs → (c.length ≤ 8 ∧ ∀ r, r ∈ c → RV r)
theorem Tg.w {cs : List (List GRule)} (h : Tg cs) : Tw cs := ⟨h.1, fun c hc => ⟨(h.2 c hc).1, fun r hr => ((h.2 c hc).2 r hr).1⟩⟩
end
section
open Go.Lib (decDigits)

/-- lengths in range -/
def Bc (c : List GRule) : Prop := c.length ≤ 4294967296 ∧ ∀ r, r ∈ c → r.xTests.length ≤ 4294967296
def Bd (s : GRuleset) : Prop := s.xChains.length ≤ 4294967296 ∧ ∀ c, c ∈ s.xChains → Bc c
/-! texts -/
end
section
open Go Go.Proofs

instance (l : List GSpan) : Decidable (NF l) := by unfold NF; infer_instance
instance (l : List GSpan) (t : Int) : Decidable (St l t) := by unfold St; infer_instance
theorem chain_NF : ∀ {ys : List GSpan}, (∀ s ∈ ys, s.xLo ≤ s.xHi) → (ys.Pairwise (fun a b => a.xHi + 1 < b.xLo) ↔ ∀ n, (h : n + 1 < ys.length) → ys[n].xHi + 1 < ys[n + 1].xLo)
  | [], _ => by simp
  | [s], _ => by simp
  | s :: t :: ys, h => by
    have ih := chain_NF (ys := t :: ys) (fun u hu => h u (List.mem_cons_of_mem _ hu))
    rw [List.pairwise_cons, ih]
    constructor
    · rintro ⟨h1, h2⟩ n hn
      cases n with
      | zero => exact h1 t (by simp)
      | succ n => exact h2 n (by simpa using hn)
    · intro hh
      have h0 := hh 0 (by simp)
      have h2 : ∀ n, (h : n + 1 < (t :: ys).length) → (t :: ys)[n].xHi + 1 < (t :: ys)[n + 1].xLo := fun n hn => hh (n + 1) (by simpa using hn)
      refine ⟨fun u hu => ?_, h2⟩
      rcases List.mem_cons.1 hu with e | e
      · subst e; exact h0
      · have := (List.pairwise_cons.1 (ih.2 h2)).1 u e
        have := h t (by simp)
        simp only [List.getElem_cons_zero, List.getElem_cons_succ] at h0
        omega
theorem St_iff {l : List GSpan} {top : Int} : St l top ↔ (∀ n, (h : n < l.length) → 0 ≤ l[n].xLo ∧ l[n].xLo ≤ l[n].xHi ∧ l[n].xHi ≤ top) ∧ ∀ n, (h : n + 1 < l.length) → l[n].xHi + 1 < l[n + 1].xLo := by
  constructor
  · rintro ⟨⟨h1, h2⟩, h3⟩
    exact ⟨fun n hn => by have := h1 _ (List.getElem_mem hn); have := h3 _ (List.getElem_mem hn); omega, (chain_NF h1).1 h2⟩
  · rintro ⟨h1, h2⟩
    have h3 : ∀ s ∈ l, 0 ≤ s.xLo ∧ s.xLo ≤ s.xHi ∧ s.xHi ≤ top := fun s hs => by
      obtain ⟨n, hn, e⟩ := List.getElem_of_mem hs
      rw [← e]; exact h1 n hn
    exact ⟨⟨fun s hs => (h3 s hs).2.1, (chain_NF (fun s hs => (h3 s hs).2.1)).2 h2⟩, fun s hs => ⟨(h3 s hs).1, (h3 s hs).2.2⟩⟩
/-- a valid set -/
def SpV (l : List GSpan) (top : Int) : Prop := l.length ≤ 40 ∧ St l top
instance (l : List GSpan) (t : Int) : Decidable (SpV l t) := by unfold SpV; infer_instance
theorem S_spec_SpansValid {l : List GSpan} {top : Int} (hl : l.length ≤ 4294967296) (h0 : 0 ≤ top) (ht : top ≤ 65535) {κ : Bool → Prop} (h : κ (decide (SpV l top))) : L_spec_SpansValid l top κ := by
  unfold L_spec_SpansValid
  refine count_loop l.length (fun s => s) (fun k s => s = (k : Int) ∧ k ≤ l.length ∧ (∀ n, (h : n < l.length) → n < k → 0 ≤ l[n].xLo ∧ l[n].xLo ≤ l[n].xHi ∧ l[n].xHi ≤ top) ∧ ∀ n, (h : n + 1 < l.length) → n + 1 < k → l[n].xHi + 1 < l[n + 1].xLo) (fun k s h => h.1) (fun k s h => h.2.1) ?_ ⟨rfl, Nat.zero_le _, fun n _ h => by omega, fun n _ h => by omega⟩
  rintro k _ next ⟨rfl, hk, h1, h2⟩ hn
  refine ifW_of (fun hc => ?_) (fun hc => ?_)
  · have hlt : k < l.length := by simpa using hc
    have no : ¬ (0 ≤ l[k].xLo ∧ l[k].xLo ≤ l[k].xHi ∧ l[k].xHi ≤ top ∧ ∀ j, (hj : j + 1 < l.length) → j + 1 = k → l[j].xHi + 1 < l[j + 1].xLo) → κ false := fun hh => by
      rw [decide_eq_false (fun hs => hh ?_)] at h
      · exact h
      · obtain ⟨e1, e2⟩ := St_iff.1 hs.2
        exact ⟨(e1 k hlt).1, (e1 k hlt).2.1, (e1 k hlt).2.2, fun j hj _ => e2 j hj⟩
    have yes : (0 ≤ l[k].xLo ∧ l[k].xLo ≤ l[k].xHi ∧ l[k].xHi ≤ top ∧ ∀ j, (hj : j + 1 < l.length) → j + 1 = k → l[j].xHi + 1 < l[j + 1].xLo) → addW (k : Int) 1 (fun t => next t) := fun ⟨q1, q2, q3, q4⟩ =>
      addW_of (by omega) (by omega) (hn hlt _ ⟨by simp, by omega, fun n hn hnk => by
        by_cases e : n = k
        · subst e; exact ⟨q1, q2, q3⟩
        · exact h1 n hn (by omega), fun n hn hnk => by
        by_cases e : n + 1 = k
        · exact q4 n hn e
        · exact h2 n hn (by omega)⟩)
    unfold jnW
    refine idxW_of k rfl hlt (idxW_of k rfl hlt (S_l1In (ifW_of (fun e => ifW_t (no (fun f => ?_))) (fun e => ?_))))
    · simp at e; omega
    simp at e
    refine idxW_of k rfl hlt (S_l1In (ifW_of (fun e2 => ifW_t (no (fun f => ?_))) (fun e2 => ?_)))
    · simp at e2; omega
    simp at e2
    refine ifW_of (fun e3 => ?_) (fun e3 => ?_)
    · have hk0 : 0 < k := by simpa using e3
      have hp := h1 (k - 1) (by omega) (by omega)
      refine idxW_of k rfl hlt (subW_of (by omega) (by omega) (idxW_of (k - 1) (by omega) (by omega) (addW_of (by omega) (by omega) (ifW_of (fun e4 => no (fun f => ?_)) (fun e4 => yes ⟨by omega, by omega, by omega, fun j hj hjk => ?_⟩)))))
      · have := f.2.2.2 (k - 1) (by omega) (by omega)
        simp at e4
        have ee : k - 1 + 1 = k := by omega
        simp only [ee] at this
        omega
      · simp at e4
        obtain rfl : j = k - 1 := by omega
        have ee : k - 1 + 1 = k := by omega
        simp only [ee]
        omega
    · have hk0 : k = 0 := by simpa using e3
      exact ifW_f (yes ⟨by omega, by omega, by omega, fun j hj hjk => by omega⟩)
  · have hge : l.length ≤ k := by simpa using hc
    have hs : St l top := St_iff.2 ⟨fun n hn => h1 n hn (by omega), fun n hn => h2 n hn (by omega)⟩
    unfold jnW
    refine S_l1In (ifW_of (fun e => ?_) (fun e => by simp at e; omega))
    rw [show decide (SpV l top) = decide ((l.length : Int) ≤ 40) from decide_eq_decide.2 ⟨fun q => by have := q.1; omega, fun q => ⟨by omega, hs⟩⟩] at h
    exact h
theorem S_topValid_any {t : Int} {κ : Bool → Prop} (h0 : 0 ≤ t) (ht : t ≤ 65535) (h : κ true) : L_impl_topValid t κ := by
  unfold L_impl_topValid jnW
  rw [decide_eq_true h0, decide_eq_true ht]
  exact ifW_t h
theorem S_impl_SpansValid {l : List GSpan} {top : Int} (hl : l.length ≤ 9223372036854775807) (h0 : 0 ≤ top) (ht : top ≤ 65535) {κ : Bool → Prop} (h : κ (decide (SpV l top))) : L_impl_SpansValid l top κ := by
  unfold L_impl_SpansValid jnW
  refine S_topValid_any h0 ht (ifW_f (ifW_of (fun e => ?_) (fun e => ?_)))
  · rw [decide_eq_false (fun q => by have := q.1; simp at e; omega)] at h; exact h
  have h40 : l.length ≤ 40 := by simp at e; omega
  refine count_loop l.length (fun s => s.2) (fun k (s : Int × Int) => s.2 = (k : Int) ∧ k ≤ l.length ∧ (∀ n, (h : n < l.length) → n < k → 0 ≤ l[n].xLo ∧ l[n].xLo ≤ l[n].xHi ∧ l[n].xHi ≤ top) ∧ (∀ n, (h : n + 1 < l.length) → n + 1 < k → l[n].xHi + 1 < l[n + 1].xLo) ∧ (k = 0 → s.1 = -2) ∧ (∀ n, (h : n < l.length) → n + 1 = k → s.1 = l[n].xHi)) (fun k s h => h.1) (fun k s h => h.2.1) ?_ ⟨rfl, Nat.zero_le _, fun n _ h => by omega, fun n _ h => by omega, fun _ => rfl, fun n _ h => by omega⟩
  rintro k ⟨a, _⟩ next ⟨rfl, hk, h1, h2, h3, h4⟩ hn
  simp only at h3 h4
  have ha : -2 ≤ a ∧ a ≤ 65535 := by
    by_cases e : k = 0
    · have := h3 e; omega
    · have := h4 (k - 1) (by omega) (by omega); have := h1 (k - 1) (by omega) (by omega); omega
  refine ifW_of (fun hc => ?_) (fun hc => ?_)
  · have hlt : k < l.length := by simpa using hc
    have no : ¬ (a + 1 < l[k].xLo ∧ l[k].xLo ≤ l[k].xHi ∧ l[k].xHi ≤ top) → κ false := fun hh => by
      rw [decide_eq_false (fun hs => hh ?_)] at h
      · exact h
      · obtain ⟨e1, e2⟩ := St_iff.1 hs.2
        have q := e1 k hlt
        refine ⟨?_, q.2.1, q.2.2⟩
        by_cases e : k = 0
        · have := h3 e; omega
        · obtain ⟨j, rfl⟩ : ∃ j, k = j + 1 := ⟨k - 1, by omega⟩
          have := h4 j (by omega) rfl
          have := e2 j hlt
          omega
    refine idxW_of k rfl hlt (addW_of (by omega) (by omega) (ifW_of (fun e => ifW_t (no (fun f => by simp at e; omega))) (fun e => ifW_of (fun e2 => ifW_t (no (fun f => by simp at e2; omega))) (fun e2 => ifW_of (fun e3 => no (fun f => by simp at e3; omega)) (fun e3 => ?_)))))
    simp at e e2 e3
    have lo : 0 ≤ l[k].xLo := by
      by_cases q : k = 0
      · have := h3 q; omega
      · have := h4 (k - 1) (by omega) (by omega); have := h1 (k - 1) (by omega) (by omega); omega
    refine addW_of (by omega) (by omega) (hn hlt _ ⟨by simp, by omega, fun n hn hnk => ?_, fun n hn hnk => ?_, fun f => by omega, fun n hn hnk => ?_⟩)
    · by_cases q : n = k
      · subst q; exact ⟨lo, e2, e3⟩
      · exact h1 n hn (by omega)
    · by_cases q : n + 1 = k
      · subst q
        have := h4 n (by omega) rfl
        omega
      · exact h2 n hn (by omega)
    · obtain rfl : n = k := by omega
      rfl
  · have hge : l.length ≤ k := by simpa using hc
    have hs : St l top := St_iff.2 ⟨fun n hn => h1 n hn (by omega), fun n hn => h2 n hn (by omega)⟩
    rw [decide_eq_true (show SpV l top from ⟨h40, hs⟩)] at h
    exact h
instance (l : List GSpan) (x : Int) : Decidable (hv l x) := by unfold hv; infer_instance
end
section
open Go Go.Proofs

/-- a box of the reference -/
def bx (a : A4ListGSpan) : GBox := ⟨[a.x0, a.x1, a.x2, a.x3]⟩
theorem S_l10Empty {a : A4ListGSpan} {κ : Bool → Prop} (h : κ (em4 a)) : L_spec_l10Empty (bx a) κ := by
  obtain ⟨x0, x1, x2, x3⟩ := a
  simp only [em4] at h
  unfold L_spec_l10Empty
  refine ⟨5, ?_⟩
  refine ifW_t (idxW_of 0 rfl (by simp [bx]) (ifW_of (fun e => ?_) (fun e => addW_of (by decide) (by decide) ?_)))
  · have : x0 = [] := by simpa [bx] using e
    subst this; simpa using h
  have e0 : x0 ≠ [] := by simpa [bx] using e
  refine ifW_t (idxW_of 1 rfl (by simp [bx]) (ifW_of (fun e => ?_) (fun e => addW_of (by decide) (by decide) ?_)))
  · have : x1 = [] := by simpa [bx] using e
    subst this; simpa using h
  have e1 : x1 ≠ [] := by simpa [bx] using e
  refine ifW_t (idxW_of 2 rfl (by simp [bx]) (ifW_of (fun e => ?_) (fun e => addW_of (by decide) (by decide) ?_)))
  · have : x2 = [] := by simpa [bx] using e
    subst this; simpa using h
  have e2 : x2 ≠ [] := by simpa [bx] using e
  refine ifW_t (idxW_of 3 rfl (by simp [bx]) (ifW_of (fun e => ?_) (fun e => addW_of (by decide) (by decide) ?_)))
  · have : x3 = [] := by simpa [bx] using e
    subst this; simpa using h
  have e3 : x3 ≠ [] := by simpa [bx] using e
  refine ifW_f ?_
  simpa [e0, e1, e2, e3] using h
theorem S_l1OwnRowsSpan {l : List (List GSpan)} (hl : l.length ≤ 4294967296) (hl2 : ∀ x ∈ l, x.length ≤ 4294967296) {κ : List (List GSpan) → Prop} (h : κ l) : L_spec_l1OwnRowsSpan l κ := by
  unfold L_spec_l1OwnRowsSpan
  refine count_loop l.length (fun s => s.2) (fun k s => s.2 = (k : Int) ∧ k ≤ l.length ∧ s.1 = l.take k) (fun k s h => h.1) (fun k s h => h.2.1) ?_ ⟨rfl, Nat.zero_le _, by simp⟩
  rintro k ⟨xs, t⟩ next ⟨rfl, hk, hx⟩ hn
  simp only at hx
  subst hx
  refine ifW_of (fun hc => ?_) (fun hc => ?_)
  · have hlt : k < l.length := by simpa using hc
    have := hl2 _ (List.getElem_mem hlt)
    refine idxW_of k rfl hlt (appW_of (by simp; omega) (appW_of (by simp only [List.length_take, List.length_singleton]; omega) (addW_of (by omega) (by omega) (hn hlt _ ⟨by simp, by omega, ?_⟩))))
    rw [List.take_succ_eq_append_getElem hlt]; rfl
  · have hge : l.length ≤ k := by simpa using hc
    rw [List.take_of_length_le hge]; exact h


end
section
open Go Go.Proofs

def L4 (a : A4ListGSpan) : List (List GSpan) := [a.x0, a.x1, a.x2, a.x3]
def get4 (a : A4ListGSpan) (f : Int) : List GSpan := if f = 0 then a.x0 else if f = 1 then a.x1 else if f = 2 then a.x2 else a.x3
theorem idx4 {a : A4ListGSpan} {f : Int} {κ : List GSpan → Prop} (h0 : 0 ≤ f) (h1 : f ≤ 3) (h : κ (get4 a f)) : idxW (L4 a) f κ := by
  rcases four h0 h1 with rfl | rfl | rfl | rfl
  · exact idxW_of 0 rfl (by simp [L4]) h
  · exact idxW_of 1 rfl (by simp [L4]) h
  · exact idxW_of 2 rfl (by simp [L4]) h
  · exact idxW_of 3 rfl (by simp [L4]) h
theorem get4_St {a : A4ListGSpan} (ha : B4 a) {f : Int} (h0 : 0 ≤ f) (h1 : f ≤ 3) : St (get4 a f) (top f) := by
  obtain ⟨p0, p1, p2, p3⟩ := ha
  rcases four h0 h1 with rfl | rfl | rfl | rfl
  · exact p0
  · exact p1
  · exact p2
  · exact p3
theorem jnW_i {σ : Type} {K : σ → Prop} {B : (σ → Prop) → Prop} (h : B K) : jnW K B := h
end
section
open Go Go.Proofs

theorem four_nat {k : Nat} (h : k < 4) : k = 0 ∨ k = 1 ∨ k = 2 ∨ k = 3 := by omega
end
section


def pv (p : GPacket) : Prop := (0 ≤ p.xFrom ∧ p.xFrom ≤ 65535) ∧ (0 ≤ p.xTo ∧ p.xTo ≤ 65535) ∧ (0 ≤ p.xPort ∧ p.xPort ≤ 255) ∧ (0 ≤ p.xProto ∧ p.xProto ≤ 7)
instance (p : GPacket) : Decidable (pv p) := by unfold pv; infer_instance
def tv (t : Int) : Prop := 0 ≤ t ∧ t ≤ 1000000
instance (t : Int) : Decidable (tv t) := by unfold tv; infer_instance

/-! packets -/
def lv (t : Int) : Prop := 0 ≤ t ∧ t ≤ 1000
instance (t : Int) : Decidable (lv t) := by unfold lv; infer_instance
/-! flows -/
end
section
open Go Go.Proofs

/-- a valid box -/
def BV (b : GBox) : Prop := ∃ a, b = bx a ∧ B4 a ∧ F4 a
noncomputable instance (b : GBox) : Decidable (BV b) := Classical.propDecidable _
/-- its four sets -/
def sd (b : GBox) : A4ListGSpan := match b.xSides with | [x0, x1, x2, x3] => ⟨x0, x1, x2, x3⟩ | _ => nil4
theorem sd_bx (a : A4ListGSpan) : sd (bx a) = a := rfl
theorem BV.eq {b : GBox} (h : BV b) : b = bx (sd b) := by obtain ⟨a, rfl, _⟩ := h; rfl
theorem BV.b4 {b : GBox} (h : BV b) : B4 (sd b) := by obtain ⟨a, rfl, h, _⟩ := h; exact h
theorem BV.f4 {b : GBox} (h : BV b) : F4 (sd b) := by obtain ⟨a, rfl, _, h⟩ := h; exact h
theorem BV_bx {a : A4ListGSpan} : BV (bx a) ↔ B4 a ∧ F4 a := ⟨fun h => ⟨h.b4, h.f4⟩, fun h => ⟨a, rfl, h⟩⟩
theorem BV_len {b : GBox} (h : BV b) : b.xSides.length = 4 := by obtain ⟨a, rfl, _⟩ := h; rfl
theorem list4 {α : Type} {l : List α} (h : l.length = 4) : ∃ a b c d, l = [a, b, c, d] := by
  match l, h with
  | [a, b, c, d], _ => exact ⟨a, b, c, d, rfl⟩
theorem box4 {b : GBox} (h : b.xSides.length = 4) : b = bx (sd b) := by
  obtain ⟨x0, x1, x2, x3, e⟩ := list4 h
  obtain ⟨s⟩ := b
  simp only at e
  subst e
  rfl
theorem BV_iff {a : A4ListGSpan} : BV (bx a) ↔ ∀ n : Nat, n < 4 → SpV (get4 a n) (top n) := by
  rw [BV_bx]
  constructor
  · rintro ⟨⟨b0, b1, b2, b3⟩, f0, f1, f2, f3⟩ n hn
    rcases four_nat hn with rfl | rfl | rfl | rfl
    · exact ⟨f0, b0⟩
    · exact ⟨f1, b1⟩
    · exact ⟨f2, b2⟩
    · exact ⟨f3, b3⟩
  · intro h
    obtain ⟨f0, b0⟩ := h 0 (by decide)
    obtain ⟨f1, b1⟩ := h 1 (by decide)
    obtain ⟨f2, b2⟩ := h 2 (by decide)
    obtain ⟨f3, b3⟩ := h 3 (by decide)
    exact ⟨⟨b0, b1, b2, b3⟩, f0, f1, f2, f3⟩
/-- lengths in range -/
def Bb (b : GBox) : Prop := b.xSides.length ≤ 4294967296 ∧ ∀ x ∈ b.xSides, x.length ≤ 4294967296
def Fb (l : List GFlat) : Prop := l.length ≤ 4294967296 ∧ ∀ f ∈ l, Bb f.xWhere
theorem BV.bb {b : GBox} (h : BV b) : Bb b := by
  obtain ⟨a, rfl, _, f0, f1, f2, f3⟩ := h
  refine ⟨by simp [bx], fun x hx => ?_⟩
  simp only [bx, List.mem_cons, List.not_mem_nil, or_false] at hx
  rcases hx with rfl | rfl | rfl | rfl <;> omega
theorem get4_mem (a : A4ListGSpan) {n : Nat} (h : n < 4) : get4 a n ∈ (bx a).xSides := by
  rcases four_nat h with rfl | rfl | rfl | rfl <;> simp [get4, bx]
theorem S_impl_BoxValid {b : GBox} (hb : Bb b) {κ : Bool → Prop} (h : κ (decide (BV b))) : L_impl_BoxValid b κ := by
  unfold L_impl_BoxValid
  have h1 := hb.1
  refine ifW_of (fun e => ?_) (fun e => ?_)
  · have e' : ¬ b.xSides.length = 4 := fun q => by rw [q] at e; simp at e
    rw [decide_eq_false (fun q => e' (BV_len q))] at h; exact h
  have e4 : b.xSides.length = 4 := by
    have : (b.xSides.length : Int) = 4 := by simpa using e
    omega
  obtain ⟨a, rfl⟩ : ∃ a, b = bx a := ⟨_, box4 e4⟩
  clear e e4
  refine count_loop 4 (fun s => s) (fun k s => s = (k : Int) ∧ k ≤ 4 ∧ ∀ n : Nat, n < k → SpV (get4 a n) (top n)) (fun k s h => h.1) (fun k s h => h.2.1) ?_ ⟨rfl, by omega, fun n h => by omega⟩
  rintro k _ next ⟨rfl, hk, hv⟩ hn
  refine ifW_of (fun hc => ?_) (fun hc => ?_)
  · have hlt : k < 4 := by
      have : (k : Int) < 4 := by simpa [bx] using hc
      omega
    have k0 : (0 : Int) ≤ k := by omega
    have k3 : (k : Int) ≤ 3 := by omega
    have tl := top_le k
    refine idx4 k0 k3 (S_top k0 k3 (S_impl_SpansValid (by have := hb.2 _ (get4_mem a hlt); omega) (by omega) (by omega) (ifW_of (fun e => ?_) (fun e => ?_))))
    · have : ¬ SpV (get4 a k) (top k) := by simpa using e
      rw [decide_eq_false (fun q => this (BV_iff.1 q k hlt))] at h; exact h
    · have : SpV (get4 a k) (top k) := by simpa using e
      refine addW_of (by omega) (by omega) (hn hlt _ ⟨by simp, by omega, fun n hnk => ?_⟩)
      by_cases q : n = k
      · subst q; exact this
      · exact hv n (by omega)
  · have hge : k = 4 := by
      have : (4 : Int) ≤ k := by simpa [bx] using hc
      omega
    subst hge
    rw [decide_eq_true (BV_iff.2 hv)] at h; exact h
theorem S_spec_BoxValid {b : GBox} (hb : Bb b) {κ : Bool → Prop} (h : κ (decide (BV b))) : L_spec_BoxValid b κ := by
  unfold L_spec_BoxValid
  have h1 := hb.1
  refine count_loop b.xSides.length (fun s => s) (fun k s => s = (k : Int) ∧ k ≤ b.xSides.length ∧ k ≤ 4 ∧ ∀ n : Nat, n < k → ∀ q : n < b.xSides.length, SpV (b.xSides[n]) (top n)) (fun k s h => h.1) (fun k s h => h.2.1) ?_ ⟨rfl, by omega, by omega, fun n h => by omega⟩
  rintro k _ next ⟨rfl, hk, hk4, hv⟩ hn
  refine ifW_of (fun hc => ?_) (fun hc => ?_)
  · have hlt : k < b.xSides.length := by simpa using hc
    refine jnW_i (ifW_of (fun e => ?_) (fun e => ?_))
    · have e' : 4 ≤ k := by
        have : (4 : Int) ≤ k := by simpa using e
        omega
      rw [decide_eq_false (fun q => by have := BV_len q; omega)] at h
      exact ifW_t h
    have e' : k < 4 := by
      have : ¬ (4 : Int) ≤ k := by simpa using e
      omega
    have k0 : (0 : Int) ≤ k := by omega
    have k3 : (k : Int) ≤ 3 := by omega
    have tl := top_le k
    refine idxW_of k rfl hlt (S_spec_FieldTop k0 k3 (S_spec_SpansValid (hb.2 _ (List.getElem_mem hlt)) (by omega) (by omega) (ifW_of (fun e => ?_) (fun e => ?_))))
    · have no : ¬ SpV (b.xSides[k]) (top k) := by simpa using e
      rw [decide_eq_false (fun q => no ?_)] at h
      · exact h
      · obtain ⟨a, rfl, _⟩ := id q
        have := BV_iff.1 q k e'
        have e2 : (bx a).xSides[k] = get4 a k := by rcases four_nat e' with rfl | rfl | rfl | rfl <;> rfl
        rw [e2]; exact this
    · have yes : SpV (b.xSides[k]) (top k) := by simpa using e
      refine addW_of (by omega) (by omega) (hn hlt _ ⟨by simp, by omega, by omega, fun n hnk q => ?_⟩)
      by_cases e : n = k
      · subst e; exact yes
      · exact hv n (by omega) q
  · have hge : b.xSides.length = k := by
      have : b.xSides.length ≤ k := by simpa using hc
      omega
    have : decide (BV b) = decide ((b.xSides.length : Int) = 4) := decide_eq_decide.2 ⟨fun q => by have := BV_len q; omega, fun q => by
      have e4 : b.xSides.length = 4 := by omega
      obtain ⟨a, rfl⟩ : ∃ a, b = bx a := ⟨_, box4 e4⟩
      refine BV_iff.2 (fun n hn4 => ?_)
      have := hv n (by omega) (by simpa [bx] using hn4)
      have e2 : (bx a).xSides[n]'(by simpa [bx] using hn4) = get4 a n := by rcases four_nat hn4 with rfl | rfl | rfl | rfl <;> rfl
      rw [e2] at this; exact this⟩
    rw [this] at h; exact h
/-- valid rules without calls -/
def FV (l : List GFlat) : Prop := l.length ≤ 60 ∧ ∀ f ∈ l, BV f.xWhere
noncomputable instance (l : List GFlat) : Decidable (FV l) := Classical.propDecidable _
theorem FV.fb {l : List GFlat} (h : FV l) : Fb l := ⟨by have := h.1; omega, fun f hf => (h.2 f hf).bb⟩
theorem S_impl_FlatsValid {l : List GFlat} (hl : Fb l) {κ : Bool → Prop} (h : κ (decide (FV l))) : L_impl_FlatsValid l κ := by
  unfold L_impl_FlatsValid
  have h1 := hl.1
  refine ifW_of (fun e => ?_) (fun e => ?_)
  · rw [decide_eq_false (fun q => by have := q.1; simp at e; omega)] at h; exact h
  have h60 : l.length ≤ 60 := by simp at e; omega
  refine count_loop l.length (fun s => s) (fun k s => s = (k : Int) ∧ k ≤ l.length ∧ ∀ f ∈ l.take k, BV f.xWhere) (fun k s h => h.1) (fun k s h => h.2.1) ?_ ⟨rfl, by omega, by simp⟩
  rintro k _ next ⟨rfl, hk, hv⟩ hn
  refine ifW_of (fun hc => ?_) (fun hc => ?_)
  · have hlt : k < l.length := by simpa using hc
    refine idxW_of k rfl hlt (S_impl_BoxValid (hl.2 _ (List.getElem_mem hlt)) (ifW_of (fun e => ?_) (fun e => ?_)))
    · have : ¬ BV (l[k].xWhere) := by simpa using e
      rw [decide_eq_false (fun q => this (q.2 _ (List.getElem_mem hlt)))] at h; exact h
    · have : BV (l[k].xWhere) := by simpa using e
      refine addW_of (by omega) (by omega) (hn hlt _ ⟨by simp, by omega, fun f hf => ?_⟩)
      rw [List.take_succ_eq_append_getElem hlt] at hf
      rcases List.mem_append.1 hf with q | q
      · exact hv f q
      · simp only [List.mem_singleton] at q; rw [q]; exact this
  · have hge : l.length ≤ k := by simpa using hc
    rw [List.take_of_length_le hge] at hv
    rw [decide_eq_true (show FV l from ⟨h60, hv⟩)] at h; exact h
theorem S_spec_FlatsValid {l : List GFlat} (hl : Fb l) {κ : Bool → Prop} (h : κ (decide (FV l))) : L_spec_FlatsValid l κ := by
  unfold L_spec_FlatsValid
  have h1 := hl.1
  refine count_loop l.length (fun s => s) (fun k s => s = (k : Int) ∧ k ≤ l.length ∧ ∀ f ∈ l.take k, BV f.xWhere) (fun k s h => h.1) (fun k s h => h.2.1) ?_ ⟨rfl, by omega, by simp⟩
  rintro k _ next ⟨rfl, hk, hv⟩ hn
  refine ifW_of (fun hc => ?_) (fun hc => ?_)
  · have hlt : k < l.length := by simpa using hc
    refine idxW_of k rfl hlt (S_spec_BoxValid (hl.2 _ (List.getElem_mem hlt)) (ifW_of (fun e => ?_) (fun e => ?_)))
    · have : ¬ BV (l[k].xWhere) := by simpa using e
      rw [decide_eq_false (fun q => this (q.2 _ (List.getElem_mem hlt)))] at h; exact h
    · have : BV (l[k].xWhere) := by simpa using e
      refine addW_of (by omega) (by omega) (hn hlt _ ⟨by simp, by omega, fun f hf => ?_⟩)
      rw [List.take_succ_eq_append_getElem hlt] at hf
      rcases List.mem_append.1 hf with q | q
      · exact hv f q
      · simp only [List.mem_singleton] at q; rw [q]; exact this
  · have hge : l.length ≤ k := by simpa using hc
    rw [List.take_of_length_le hge] at hv
    rw [show decide (FV l) = decide ((l.length : Int) ≤ 60) from decide_eq_decide.2 ⟨fun q => by have := q.1; omega, fun q => ⟨by omega, hv⟩⟩] at h; exact h
-- the program's form of boxes
theorem S_sidesOf {b : GBox} (hb : b.xSides.length = 4) {κ : A4ListGSpan → Prop} (h : κ (sd b)) : L_impl_sidesOf b κ := by
  have e := box4 hb
  rw [e] at h ⊢
  exact ⟨_, _, _, _, [], rfl, h⟩
/-- a list built up element by element -/
theorem build_loop {α β : Type} (a : List α) (f : α → β) (hl : a.length ≤ 4294967296) {κ : List β → Prop} (T : α → (β → Prop) → Prop) (hT : ∀ x ψ, x ∈ a → ψ (f x) → T x ψ) (hκ : κ (a.map f))
    (F : (List β × Int → Prop) → List β × Int → Prop)
    (hF : ∀ nx xs t, (ifW (decide (t < (a.length : Int))) (idxW a t (fun e => T e (fun r => appW xs [r] (fun _ => addW t 1 (fun u => nx (xs ++ [r], u)))))) (κ xs)) → F nx (xs, t)) : loopW F ([], 0) := by
  refine count_loop a.length (fun s => s.2) (fun k s => s.2 = (k : Int) ∧ k ≤ a.length ∧ s.1 = (a.take k).map f) (fun k s h => h.1) (fun k s h => h.2.1) ?_ ⟨rfl, Nat.zero_le _, by simp⟩
  rintro k ⟨ys, t⟩ next ⟨rfl, hk, hy⟩ hn
  simp only at hy
  subst hy
  refine hF _ _ _ (ifW_of (fun hc => ?_) (fun hc => ?_))
  · have hlt : k < a.length := by simpa using hc
    refine idxW_of k rfl hlt (hT _ _ (List.getElem_mem hlt) (appW_of (by simp; omega) (addW_of (by omega) (by omega) (hn hlt _ ⟨by simp, by omega, ?_⟩))))
    rw [List.take_succ_eq_append_getElem hlt, List.map_append]; rfl
  · have hge : a.length ≤ k := by simpa using hc
    rw [List.take_of_length_le hge]; exact hκ
theorem S_l1OwnBox {b : GBox} (hb : Bb b) {κ : GBox → Prop} (h : κ b) : L_spec_l1OwnBox b κ := S_l1OwnRowsSpan hb.1 hb.2 h
theorem S_l1OwnFlat {f : GFlat} (hb : Bb f.xWhere) {κ : GFlat → Prop} (h : κ f) : L_spec_l1OwnFlat f κ := S_l1OwnBox hb h
theorem S_l1OwnFlatList {l : List GFlat} (hl : Fb l) {κ : List GFlat → Prop} (h : κ l) : L_spec_l1OwnFlatList l κ := by
  unfold L_spec_l1OwnFlatList
  exact build_loop l id hl.1 (fun x ψ => L_spec_l1OwnFlat x ψ) (fun x ψ hx hψ => S_l1OwnFlat (hl.2 x hx) hψ) (by simpa using h) _ (fun nx xs t hh => hh)
/-! ### what a box has -/
def hb4 (a : A4ListGSpan) (p : GPacket) : Prop := hv a.x0 p.xFrom ∧ hv a.x1 p.xTo ∧ hv a.x2 p.xPort ∧ hv a.x3 p.xProto
instance (a : A4ListGSpan) (p : GPacket) : Decidable (hb4 a p) := by unfold hb4; infer_instance
end
section


/-- marks laid through a list, element by element -/
def mkL {α : Type} (f : Int → α → Int × α) : Int → List α → Int × List α
  | k, [] => (k, [])
  | k, x :: xs => ((mkL f (f k x).1 xs).1, (f k x).2 :: (mkL f (f k x).1 xs).2)
theorem mkL_len {α : Type} (f : Int → α → Int × α) : ∀ (k : Int) (xs : List α), (mkL f k xs).2.length = xs.length
  | k, [] => rfl
  | k, x :: xs => by simp only [mkL, List.length_cons, mkL_len f _ xs]
theorem mkL_snoc {α : Type} (f : Int → α → Int × α) : ∀ (k : Int) (xs : List α) (x : α), mkL f k (xs ++ [x]) = ((f (mkL f k xs).1 x).1, (mkL f k xs).2 ++ [(f (mkL f k xs).1 x).2])
  | k, [], x => rfl
  | k, y :: xs, x => by simp only [List.cons_append, mkL, mkL_snoc f _ xs x]
theorem mkL_le {α : Type} (f : Int → α → Int × α) (C : Int) (hC : 0 ≤ C) : ∀ (k : Int) (xs : List α), 1 ≤ k → (∀ x, x ∈ xs → ∀ k, 1 ≤ k → k ≤ (f k x).1 ∧ (f k x).1 ≤ k + C) → k ≤ (mkL f k xs).1 ∧ (mkL f k xs).1 ≤ k + C * xs.length
  | k, [], hk, h => by simp [mkL]
  | k, x :: xs, hk, h => by
    obtain ⟨h1, h2⟩ := h x (by simp) k hk
    obtain ⟨h3, h4⟩ := mkL_le f C hC (f k x).1 xs (by omega) (fun y hy => h y (by simp [hy]))
    simp only [mkL, List.length_cons]
    rw [Int.natCast_add, Int.mul_add]
    refine ⟨by omega, ?_⟩
    simp
    omega
/-- the marks stand at their places whatever comes behind -/
theorem mkL_get {α : Type} (f : Int → α → Int × α) : ∀ (k : Int) (xs : List α) (t : Nat) (x : α), xs[t]? = some x → (mkL f k xs).2[t]? = some (f (mkL f k (xs.take t)).1 x).2
  | k, [], t, x, h => by simp at h
  | k, y :: xs, 0, x, h => by simp at h; subst h; simp [mkL]
  | k, y :: xs, t + 1, x, h => by
    simp only [mkL, List.getElem?_cons_succ, List.take_succ_cons]
    exact mkL_get f _ xs t x (by simpa using h)
theorem mkb1 {C N : Int} {k : Nat} (hC : 0 ≤ C) (hk : (k : Int) < N) : 0 ≤ C * (k : Int) ∧ C * (k : Int) + C ≤ C * N := by
  refine ⟨Int.mul_nonneg hC (by omega), ?_⟩
  have h := Int.mul_le_mul_of_nonneg_left (show (k : Int) + 1 ≤ N by omega) hC
  rw [Int.mul_add] at h
  simpa using h

theorem markG_loop {α : Type} (f : Int → α → Int × α) (C N : Int) (a : List α) (k0 : Int) (hl : (a.length : Int) ≤ N) (hN : N ≤ 4294967296) (hC : 0 ≤ C) (hk1 : 1 ≤ k0) (hk2 : k0 + C * N ≤ 9000000000000000000)
    (hf : ∀ x, x ∈ a → ∀ k, 1 ≤ k → k ≤ (f k x).1 ∧ (f k x).1 ≤ k + C) {κ : Int × List α → Prop} (hκ : κ (mkL f k0 a)) (F : (List α × Int × Int → Prop) → List α × Int × Int → Prop)
    (hF : ∀ (nx : List α × Int × Int → Prop) (xs : List α) (k : Int) (t : Nat), 1 ≤ k → (t : Int) ≤ N → (∀ x, xs[t]? = some x → x ∈ a ∧ k + C ≤ 9000000000000000000 ∧ nx (xs.set t (f k x).2, (f k x).1, (t : Int) + 1)) → (¬ t < xs.length → κ (k, xs)) → F nx (xs, k, (t : Int))) : loopW F (a, k0, 0) := by
  refine count_loop a.length (fun s => s.2.2) (fun k s => s = ((mkL f k0 (a.take k)).2 ++ a.drop k, (mkL f k0 (a.take k)).1, (k : Int)) ∧ k ≤ a.length) (fun k s h => by rw [h.1]) (fun k s h => h.2) ?_ ⟨by simp [mkL], Nat.zero_le _⟩
  rintro k _ next ⟨rfl, hk⟩ hn
  obtain ⟨b1, b2⟩ := mkL_le f C hC k0 (a.take k) hk1 (fun x hx => hf x (List.mem_of_mem_take hx))
  have hlt : (a.take k).length = k := by rw [List.length_take]; omega
  have hl2 : (mkL f k0 (a.take k)).2.length = k := by rw [mkL_len, hlt]
  refine hF _ _ _ _ (by omega) (by omega) (fun x hx => ?_) (fun hge => ?_)
  · rw [List.getElem?_append_right (by omega), hl2, Nat.sub_self, List.getElem?_drop, Nat.add_zero] at hx
    obtain ⟨h1, h2⟩ := List.getElem?_eq_some_iff.1 hx
    have hm : x ∈ a := h2 ▸ List.getElem_mem h1
    refine ⟨hm, ?_, hn h1 _ ⟨?_, by omega⟩⟩
    · rw [hlt] at b2
      have := (mkb1 (N := N) (k := k) hC (by omega)).2
      omega
    · have ht : a.take (k + 1) = a.take k ++ [x] := by rw [List.take_succ_eq_append_getElem h1, h2]
      have hd : a.drop k = x :: a.drop (k + 1) := by rw [List.drop_eq_getElem_cons h1, h2]
      rw [ht, mkL_snoc, hd]
      refine Prod.ext ?_ rfl
      simp only
      rw [List.set_append_right _ _ (by omega), hl2, Nat.sub_self, List.set_cons_zero, List.append_assoc]
      rfl
  · rw [List.length_append, hl2, List.length_drop] at hge
    have : k = a.length := by omega
    rw [this, List.take_length, List.drop_length, List.append_nil]
    exact hκ
theorem heldG_loop {α : Type} (f : Int → α → Int × α) (C N : Int) (a : List α) (k0 : Int) (hl : (a.length : Int) ≤ N) (hN : N ≤ 4294967296) (hC : 0 ≤ C) (hk1 : 1 ≤ k0) (hk2 : k0 + C * N ≤ 9000000000000000000)
    (hf : ∀ x, x ∈ a → ∀ k, 1 ≤ k → k ≤ (f k x).1 ∧ (f k x).1 ≤ k + C) {κ : Int → Prop} (hκ : κ (mkL f k0 a).1) (F : (Int × Int → Prop) → Int × Int → Prop)
    (hF : ∀ (nx : Int × Int → Prop) (k : Int) (t : Nat), 1 ≤ k → (t : Int) ≤ N → (∀ x, a[t]? = some x → x ∈ a ∧ k + C ≤ 9000000000000000000 ∧ (mkL f k0 a).2[t]? = some (f k x).2 ∧ nx ((f k x).1, (t : Int) + 1)) → (¬ t < a.length → κ k) → F nx (k, (t : Int))) : loopW F (k0, 0) := by
  refine count_loop a.length (fun s => s.2) (fun k s => s = ((mkL f k0 (a.take k)).1, (k : Int)) ∧ k ≤ a.length) (fun k s h => by rw [h.1]) (fun k s h => h.2) ?_ ⟨by simp [mkL], Nat.zero_le _⟩
  rintro k _ next ⟨rfl, hk⟩ hn
  obtain ⟨b1, b2⟩ := mkL_le f C hC k0 (a.take k) hk1 (fun x hx => hf x (List.mem_of_mem_take hx))
  have hlt : (a.take k).length = k := by rw [List.length_take]; omega
  refine hF _ _ _ (by omega) (by omega) (fun x hx => ?_) (fun hge => ?_)
  · obtain ⟨h1, h2⟩ := List.getElem?_eq_some_iff.1 hx
    have hm : x ∈ a := h2 ▸ List.getElem_mem h1
    refine ⟨hm, ?_, mkL_get f k0 a k x hx, hn h1 _ ⟨?_, by omega⟩⟩
    · rw [hlt] at b2
      have := (mkb1 (N := N) (k := k) hC (by omega)).2
      omega
    · have ht : a.take (k + 1) = a.take k ++ [x] := by rw [List.take_succ_eq_append_getElem h1, h2]
      rw [ht, mkL_snoc]
      rfl
  · have : k = a.length := by omega
    rw [this, List.take_length]
    exact hκ
/-- sizes that are taken away one by one -/
theorem szG_loop {α : Type} (P : α → Prop) (a : List α) (left : Int) (h0 : 0 ≤ left) (h1 : left ≤ 1048576) (hl : a.length ≤ 4294967296) {κ : Int → Prop} (hκ : ∀ r, 0 ≤ r → r ≤ left → (∀ x, x ∈ a → P x) → κ r) (F : (Int × Int → Prop) → Int × Int → Prop)
    (hF : ∀ (nx : Int × Int → Prop) (r : Int) (t : Nat), 0 ≤ r → r ≤ 1048576 → t ≤ a.length → (∀ x, a[t]? = some x → ∀ r', 0 ≤ r' → r' ≤ r → P x → nx (r', (t : Int) + 1)) → (¬ t < a.length → κ r) → F nx (r, (t : Int))) : loopW F (left, 0) := by
  refine count_loop a.length (fun s => s.2) (fun k s => s.2 = (k : Int) ∧ k ≤ a.length ∧ 0 ≤ s.1 ∧ s.1 ≤ left ∧ ∀ x, x ∈ a.take k → P x) (fun k s h => h.1) (fun k s h => h.2.1) ?_ ⟨rfl, Nat.zero_le _, h0, Int.le_refl _, by simp⟩
  rintro k ⟨r, t⟩ next ⟨rfl, hk, hr0, hr1, hP⟩ hn
  simp only at hr0 hr1 hP
  refine hF _ _ _ hr0 (by omega) hk (fun x hx r' g0 g1 hp => ?_) (fun hge => hκ r hr0 hr1 ?_)
  · obtain ⟨e1, e2⟩ := List.getElem?_eq_some_iff.1 hx
    refine hn e1 _ ⟨by simp, by omega, g0, by simp only; omega, fun y hy => ?_⟩
    rw [List.take_succ_eq_append_getElem e1, List.mem_append, List.mem_singleton] at hy
    rcases hy with hy | rfl
    · exact hP y hy
    · rw [e2]; exact hp
  · have : k = a.length := by omega
    rw [this, List.take_length] at hP
    exact hP
/-- equality with itself, element by element -/
theorem eqS_loop {α : Type} (a : List α) (hl : a.length ≤ 4294967296) {κ : Bool → Prop} (hκ : κ true) (F : (Int → Prop) → Int → Prop)
    (hF : ∀ (nx : Int → Prop) (t : Nat), t ≤ a.length → (∀ x, a[t]? = some x → x ∈ a ∧ nx ((t : Int) + 1)) → (¬ t < a.length → κ true) → F nx (t : Int)) : loopW F 0 := by
  refine count_loop a.length (fun s => s) (fun k s => s = (k : Int) ∧ k ≤ a.length) (fun k s h => h.1) (fun k s h => h.2) ?_ ⟨rfl, Nat.zero_le _⟩
  rintro k _ next ⟨rfl, hk⟩ hn
  refine hF _ _ hk (fun x hx => ?_) (fun _ => hκ)
  obtain ⟨e1, e2⟩ := List.getElem?_eq_some_iff.1 hx
  exact ⟨e2 ▸ List.getElem_mem e1, hn e1 _ ⟨by omega, by omega⟩⟩
/-- an element at a place that is known -/
theorem idxW_at {α : Type} {xs : List α} {t : Nat} {x : α} {κ : α → Prop} (h : xs[t]? = some x) (hk : κ x) : idxW xs (t : Int) κ := ⟨x, by omega, by simpa using h, hk⟩
end
section
open Go.Lib (decDigits)

/-- lengths of an argument that is not too big -/
def Br (r : GRule) : Prop := r.xTests.length ≤ 1048576
def Bq (c : List GRule) : Prop := c.length ≤ 1048576 ∧ ∀ r, r ∈ c → Br r
def Bs (cs : List (List GRule)) : Prop := cs.length ≤ 1048576 ∧ ∀ c, c ∈ cs → Bq c
theorem Bs.bd {s : GRuleset} (h : Bs s.xChains) : Bd s := ⟨by have := h.1; omega, fun c hc => ⟨by have := (h.2 c hc).1; omega, fun r hr => by have : r.xTests.length ≤ 1048576 := (h.2 c hc).2 r hr; omega⟩⟩
theorem bs_nil : Bs [] := ⟨by simp, fun c hc => by simp at hc⟩

theorem eqRuleS_self {a : List GRule} {κ : Bool → Prop} (hb : Bq a) (h : κ true) : L_laws_eqRuleS a a κ := by
  unfold L_laws_eqRuleS
  have := hb.1
  refine ifW_of (fun hc => by simp at hc) (fun _ => eqS_loop a (by omega) h _ (fun nx t g ht hf => ifW_of (fun hc => ?_) (fun hc => hf (by simpa using hc))))
  have hlt : t < a.length := by simpa using hc
  obtain ⟨hm, hn⟩ := ht a[t] (by simp [hlt])
  refine idxW_of t rfl hlt (idxW_of t rfl hlt (eqRule_self (by have : a[t].xTests.length ≤ 1048576 := hb.2 _ hm; omega) ?_))
  simp only [Bool.not_true, ifW_false]
  exact addW_of (by omega) (by omega) hn
theorem eqRuleSS_self {a : List (List GRule)} {κ : Bool → Prop} (hb : Bs a) (h : κ true) : L_laws_eqRuleSS a a κ := by
  unfold L_laws_eqRuleSS
  have := hb.1
  refine ifW_of (fun hc => by simp at hc) (fun _ => eqS_loop a (by omega) h _ (fun nx t g ht hf => ifW_of (fun hc => ?_) (fun hc => hf (by simpa using hc))))
  have hlt : t < a.length := by simpa using hc
  obtain ⟨hm, hn⟩ := ht a[t] (by simp [hlt])
  refine idxW_of t rfl hlt (idxW_of t rfl hlt (eqRuleS_self (hb.2 _ hm) ?_))
  simp only [Bool.not_true, ifW_false]
  exact addW_of (by omega) (by omega) hn
theorem eqRuleset_self {s : GRuleset} {κ : Bool → Prop} (hb : Bs s.xChains) (h : κ true) : L_laws_eqRuleset s s κ := by
  unfold L_laws_eqRuleset
  refine eqRuleSS_self hb ?_
  simp only [Bool.not_true, ifW_false]
  refine ifW_of (fun hc => by simp at hc) (fun _ => h)
/-! marks -/
def fT (k : Int) (_ : GTest) : Int × GTest := (k + 4, mkT k)
def fR (k : Int) (r : GRule) : Int × GRule := ((mkL fT k r.xTests).1 + 2, GRule.mk (mkL fT k r.xTests).2 (mkL fT k r.xTests).1 ((mkL fT k r.xTests).1 + 1))
def fC (k : Int) (c : List GRule) : Int × List GRule := mkL fR k c
theorem fT_bd (x : GTest) (k : Int) (_ : 1 ≤ k) : k ≤ (fT k x).1 ∧ (fT k x).1 ≤ k + 4 := by simp [fT]; omega
theorem fR_bd {x : GRule} (h : Br x) (k : Int) (hk : 1 ≤ k) : k ≤ (fR k x).1 ∧ (fR k x).1 ≤ k + 4194306 := by
  have h' : x.xTests.length ≤ 1048576 := h
  obtain ⟨a, b⟩ := mkL_le fT 4 (by decide) k x.xTests hk (fun x _ => fT_bd x)
  simp only [fR]; omega
theorem fC_bd {x : List GRule} (h : Bq x) (k : Int) (hk : 1 ≤ k) : k ≤ (fC k x).1 ∧ (fC k x).1 ≤ k + 4398048608256 := by
  have h' : x.length ≤ 1048576 := h.1
  obtain ⟨a, b⟩ := mkL_le fR 4194306 (by decide) k x hk (fun x hx => fR_bd (h.2 x hx))
  simp only [fC]; omega
theorem markTestS_of {a : List GTest} {k0 : Int} {κ : Int × List GTest → Prop} (hl : a.length ≤ 1048576) (h0 : 1 ≤ k0) (h1 : k0 + 4194304 ≤ 9000000000000000000) (h : κ (mkL fT k0 a)) : L_laws_markTestS a k0 κ := by
  unfold L_laws_markTestS
  refine markG_loop fT 4 1048576 a k0 (by omega) (by decide) (by decide) h0 (by omega) (fun x _ => fT_bd x) h _ (fun nx xs k t g0 g1 ht hf => ifW_of (fun hc => ?_) (fun hc => hf (by simpa using hc)))
  have hlt : t < xs.length := by simpa using hc
  obtain ⟨_, hk, hn⟩ := ht xs[t] (by simp [hlt])
  refine idxW_of t rfl hlt (addW_of (by omega) (by omega) (idxW_set hlt (addW_of (by omega) (by omega) (idxW_set (set_lt hlt) (addW_of (by omega) (by omega) (remW_of (by omega) (by omega) (by omega) (idxW_set (set_lt (set_lt hlt)) (addW_of (by omega) (by omega) (addW_of (by omega) (by omega) ?_)))))))))
  simp only [List.set_set, Int.toNat_natCast]
  have e1 : k + 1 + 1 + 1 + 1 = k + 4 := by omega
  have e2 : k + 1 + 1 + 1 = k + 3 := by omega
  have e3 : k + 1 + 1 = k + 2 := by omega
  rw [e1, e2, e3]
  exact hn
theorem markRuleS_of {a : List GRule} {k0 : Int} {κ : Int × List GRule → Prop} (hb : Bq a) (h0 : 1 ≤ k0) (h1 : k0 + 4398048608256 ≤ 9000000000000000000) (h : κ (fC k0 a)) : L_laws_markRuleS a k0 κ := by
  unfold L_laws_markRuleS
  have := hb.1
  refine markG_loop fR 4194306 1048576 a k0 (by omega) (by decide) (by decide) h0 (by omega) (fun x hx => fR_bd (hb.2 x hx)) h _ (fun nx xs k t g0 g1 ht hf => ifW_of (fun hc => ?_) (fun hc => hf (by simpa using hc)))
  have hlt : t < xs.length := by simpa using hc
  obtain ⟨hm, hk, hn⟩ := ht xs[t] (by simp [hlt])
  have hbr : xs[t].xTests.length ≤ 1048576 := hb.2 _ hm
  obtain ⟨b1, b2⟩ := fR_bd (hb.2 _ hm) k g0
  simp only [fR] at b1 b2 hn
  refine idxW_of t rfl hlt (markTestS_of hbr g0 (by omega) ?_)
  refine idxW_set hlt (addW_of (by omega) (by omega) (idxW_set (set_lt hlt) (addW_of (by omega) (by omega) (addW_of (by omega) (by omega) ?_))))
  simp only [List.set_set, Int.toNat_natCast]
  have e3 : (mkL fT k xs[t].xTests).1 + 1 + 1 = (mkL fT k xs[t].xTests).1 + 2 := by omega
  rw [e3]
  exact hn
theorem markRuleSS_of {a : List (List GRule)} {k0 : Int} {κ : Int × List (List GRule) → Prop} (hb : Bs a) (h0 : 1 ≤ k0) (h1 : k0 ≤ 1048576) (h : κ (mkL fC k0 a)) : L_laws_markRuleSS a k0 κ := by
  unfold L_laws_markRuleSS
  have := hb.1
  refine markG_loop fC 4398048608256 1048576 a k0 (by omega) (by decide) (by decide) h0 (by omega) (fun x hx => fC_bd (hb.2 x hx)) h _ (fun nx xs k t g0 g1 ht hf => ifW_of (fun hc => ?_) (fun hc => hf (by simpa using hc)))
  have hlt : t < xs.length := by simpa using hc
  obtain ⟨hm, hk, hn⟩ := ht xs[t] (by simp [hlt])
  refine idxW_of t rfl hlt (markRuleS_of (hb.2 _ hm) g0 (by omega) (addW_of (by omega) (by omega) ?_))
  simp only [Int.toNat_natCast]
  exact hn
theorem markRuleset_of {a : List (List GRule)} {c : Bool} {k0 : Int} {κ : Int × List (List GRule) → Prop} (hb : Bs a) (h0 : 1 ≤ k0) (h1 : k0 ≤ 1048576) (h : κ (mkL fC k0 a)) : L_laws_markRuleset a c k0 κ := by
  unfold L_laws_markRuleset
  exact markRuleSS_of hb h0 h1 h
theorem mkC_bd {a : List (List GRule)} (hb : Bs a) (k : Int) (hk : 1 ≤ k) : k ≤ (mkL fC k a).1 ∧ (mkL fC k a).1 ≤ k + 4611688217450643456 := by
  have h' : a.length ≤ 1048576 := hb.1
  obtain ⟨x, y⟩ := mkL_le fC 4398048608256 (by decide) k a hk (fun x hx => fC_bd (hb.2 x hx))
  omega
theorem heldTestS_of {a : List GTest} {k0 : Int} {κ : Int → Prop} (hl : a.length ≤ 1048576) (h0 : 1 ≤ k0) (h1 : k0 + 4194304 ≤ 9000000000000000000) (h : κ (mkL fT k0 a).1) : L_laws_heldTestS (mkL fT k0 a).2 k0 κ := by
  unfold L_laws_heldTestS
  refine heldG_loop fT 4 1048576 a k0 (by omega) (by decide) (by decide) h0 (by omega) (fun x _ => fT_bd x) h _ (fun nx k t g0 g1 ht hf => ifW_of (fun hc => ?_) (fun hc => hf (by rw [mkL_len] at hc; simpa using hc)))
  rw [mkL_len] at hc
  have hlt : t < a.length := by simpa using hc
  obtain ⟨_, hk, hg, hn⟩ := ht a[t] (by simp [hlt])
  have e1 : k + 1 + 1 + 1 + 1 = k + 4 := by omega
  have e2 : k + 1 + 1 + 1 = k + 3 := by omega
  have e3 : k + 1 + 1 = k + 2 := by omega
  refine idxW_at hg (ifW_of (fun hc => by simp [fT, mkT] at hc) (fun _ => addW_of (by omega) (by omega) ?_))
  refine idxW_at hg (ifW_of (fun hc => by simp [fT, mkT] at hc) (fun _ => addW_of (by omega) (by omega) ?_))
  refine idxW_at hg (ifW_of (fun hc => by simp [fT, mkT] at hc; omega) (fun _ => addW_of (by omega) (by omega) ?_))
  refine idxW_at hg (remW_of (by omega) (by omega) (by omega) (ifW_of (fun hc => ?_) (fun _ => addW_of (by omega) (by omega) (addW_of (by omega) (by omega) ?_))))
  · rw [e2] at hc; simp [fT, mkT] at hc
  · rw [e1]; exact hn
theorem heldRuleS_of {a : List GRule} {k0 : Int} {κ : Int → Prop} (hb : Bq a) (h0 : 1 ≤ k0) (h1 : k0 + 4398048608256 ≤ 9000000000000000000) (h : κ (fC k0 a).1) : L_laws_heldRuleS (fC k0 a).2 k0 κ := by
  unfold L_laws_heldRuleS
  have := hb.1
  refine heldG_loop fR 4194306 1048576 a k0 (by omega) (by decide) (by decide) h0 (by omega) (fun x hx => fR_bd (hb.2 x hx)) h _ (fun nx k t g0 g1 ht hf => ifW_of (fun hc => ?_) (fun hc => hf (by unfold fC at hc; rw [mkL_len] at hc; simpa using hc)))
  unfold fC at hc ⊢
  rw [mkL_len] at hc
  have hlt : t < a.length := by simpa using hc
  obtain ⟨hm, hk, hg, hn⟩ := ht a[t] (by simp [hlt])
  have hbr : a[t].xTests.length ≤ 1048576 := hb.2 _ hm
  obtain ⟨b1, b2⟩ := fR_bd (hb.2 _ hm) k g0
  simp only [fR] at b1 b2 hn hg
  have b3 := (mkL_le fT 4 (by decide) k a[t].xTests (by omega) (fun x _ => fT_bd x)).1
  refine idxW_at hg ?_
  refine heldTestS_of hbr g0 (by omega) (ifW_of (fun hc => by simp at hc; omega) (fun _ => ?_))
  refine idxW_at hg (ifW_of (fun hc => by simp at hc) (fun _ => addW_of (by omega) (by omega) ?_))
  refine idxW_at hg (ifW_of (fun hc => by simp at hc) (fun _ => addW_of (by omega) (by omega) (addW_of (by omega) (by omega) ?_)))
  have e3 : (mkL fT k a[t].xTests).1 + 1 + 1 = (mkL fT k a[t].xTests).1 + 2 := by omega
  rw [e3]
  exact hn
theorem heldRuleSS_of {a : List (List GRule)} {k0 : Int} {κ : Int → Prop} (hb : Bs a) (h0 : 1 ≤ k0) (h1 : k0 ≤ 1048576) (h : κ (mkL fC k0 a).1) : L_laws_heldRuleSS (mkL fC k0 a).2 k0 κ := by
  unfold L_laws_heldRuleSS
  have := hb.1
  refine heldG_loop fC 4398048608256 1048576 a k0 (by omega) (by decide) (by decide) h0 (by omega) (fun x hx => fC_bd (hb.2 x hx)) h _ (fun nx k t g0 g1 ht hf => ifW_of (fun hc => ?_) (fun hc => hf (by rw [mkL_len] at hc; simpa using hc)))
  rw [mkL_len] at hc
  have hlt : t < a.length := by simpa using hc
  obtain ⟨hm, hk, hg, hn⟩ := ht a[t] (by simp [hlt])
  have hb2 := fC_bd (hb.2 _ hm) k g0
  refine idxW_at hg (heldRuleS_of (hb.2 _ hm) g0 (by omega) (ifW_of (fun hc => by simp at hc; omega) (fun _ => addW_of (by omega) (by omega) hn)))
theorem heldRuleset_of {a : List (List GRule)} {c : Bool} {k0 : Int} {κ : Int → Prop} (hb : Bs a) (h0 : 1 ≤ k0) (h1 : k0 ≤ 1048576) (h : κ (mkL fC k0 a).1) : L_laws_heldRuleset (GRuleset.mk (mkL fC k0 a).2 c) k0 κ := by
  unfold L_laws_heldRuleset
  have := mkC_bd hb k0 h0
  exact heldRuleSS_of hb h0 h1 (ifW_of (fun hc => by simp at hc; omega) (fun _ => h))

/-! lines -/
end
section


def Sx1 (l : List GSpan) : Prop := l.length ≤ 1048576
def Sx2 (l : List (List GSpan)) : Prop := l.length ≤ 1048576 ∧ ∀ x, x ∈ l → Sx1 x
def Sx3 (f : GFlat) : Prop := Sx2 f.xWhere.xSides
def Sx4 (l : List GFlat) : Prop := l.length ≤ 1048576 ∧ ∀ f, f ∈ l → Sx3 f
theorem Sx4.fb {l : List GFlat} (h : Sx4 l) : Fb l := ⟨by have := h.1; omega, fun f hf => ⟨by have := (h.2 f hf).1; omega, fun x hx => by have : x.length ≤ 1048576 := (h.2 f hf).2 x hx; omega⟩⟩
theorem BV.sx {b : GBox} (h : BV b) : Sx2 b.xSides := by
  obtain ⟨a, rfl, _, f0, f1, f2, f3⟩ := h
  refine ⟨by simp [bx], fun x hx => ?_⟩
  simp only [bx, List.mem_cons, List.not_mem_nil, or_false] at hx
  unfold Sx1
  rcases hx with rfl | rfl | rfl | rfl <;> omega
theorem FV.sx {l : List GFlat} (h : FV l) : Sx4 l := ⟨by have := h.1; omega, fun f hf => (h.2 f hf).sx⟩
theorem S_szSpanS {a : List GSpan} {left : Int} {κ : Int → Prop} (hl : a.length ≤ 9223372036854775807) (h0 : 0 ≤ left) (h1 : left ≤ 1048576) (hn : κ (-1)) (h : ∀ r, 0 ≤ r → r ≤ left → Sx1 a → κ r) : L_laws_szSpanS a left κ := by
  unfold L_laws_szSpanS
  refine subW_of (by omega) (by omega) (ifW_of (fun _ => hn) (fun hc => ?_))
  simp at hc
  exact h _ (by omega) (by omega) (by unfold Sx1; omega)
theorem S_szSpanSS {a : List (List GSpan)} {left : Int} {κ : Int → Prop} (hl : a.length ≤ 9223372036854775807) (hl2 : ∀ r, r ∈ a → r.length ≤ 9223372036854775807) (h0 : 0 ≤ left) (h1 : left ≤ 1048576) (hn : κ (-1)) (h : ∀ r, 0 ≤ r → r ≤ left → Sx2 a → κ r) : L_laws_szSpanSS a left κ := by
  unfold L_laws_szSpanSS
  refine subW_of (by omega) (by omega) (ifW_of (fun _ => hn) (fun hc => ?_))
  simp at hc
  refine szG_loop Sx1 a _ (by omega) (by omega) (by omega) (fun r a b c => h r a (by omega) ⟨by omega, c⟩) _ (fun nx r t g0 g1 g2 ht hf => ?_)
  refine ifW_of (fun hc => ?_) (fun hc => hf (by simpa using hc))
  have hlt : t < a.length := by simpa using hc
  refine idxW_of t rfl hlt ?_
  refine S_szSpanS (hl2 _ (List.getElem_mem hlt)) g0 g1 (ifW_of (fun _ => hn) (fun hc => by simp at hc)) (fun r' e0 e1 e2 => ifW_of (fun hc => by simp at hc; omega) (fun _ => addW_of (by omega) (by omega) ?_))
  exact ht _ (by simp [hlt]) r' e0 e1 e2
/-- the lengths of an argument are in range -/
def okX (l : List GFlat) : Prop := l.length ≤ 9223372036854775807 ∧ ∀ f, f ∈ l → f.xWhere.xSides.length ≤ 9223372036854775807 ∧ ∀ x, x ∈ f.xWhere.xSides → x.length ≤ 9223372036854775807
theorem S_szFlatS {a : List GFlat} {left : Int} {κ : Int → Prop} (hl : okX a) (h0 : 0 ≤ left) (h1 : left ≤ 1048576) (hn : κ (-1)) (h : ∀ r, 0 ≤ r → r ≤ left → Sx4 a → κ r) : L_laws_szFlatS a left κ := by
  unfold L_laws_szFlatS
  have hl1 := hl.1
  refine subW_of (by omega) (by omega) (ifW_of (fun _ => hn) (fun hc => ?_))
  simp at hc
  refine szG_loop Sx3 a _ (by omega) (by omega) (by omega) (fun r a b c => h r a (by omega) ⟨by omega, c⟩) _ (fun nx r t g0 g1 g2 ht hf => ?_)
  refine ifW_of (fun hc => ?_) (fun hc => hf (by simpa using hc))
  have hlt : t < a.length := by simpa using hc
  refine idxW_of t rfl hlt ?_
  have hm := hl.2 _ (List.getElem_mem hlt)
  unfold L_laws_szFlat L_laws_szBox
  refine S_szSpanSS hm.1 hm.2 g0 g1 ?_ (fun r' e0 e1 e2 => ?_)
  · exact ifW_t (ifW_t (ifW_t hn))
  · refine ifW_of (fun hc => by simp at hc; omega) (fun _ => ifW_of (fun hc => by simp at hc; omega) (fun _ => ifW_of (fun hc => by simp at hc; omega) (fun _ => addW_of (by omega) (by omega) ?_)))
    exact ht _ (by simp [hlt]) r' e0 e1 e2
theorem toSpanS_of {a : List GSpan} {κ : List GSpan → Prop} (hb : Sx1 a) (h : κ a) : L_laws_toSpanS a κ := by
  unfold L_laws_toSpanS
  have : a.length ≤ 1048576 := hb
  refine makeW_of a.length rfl (by omega) (by omega) (copy_loop a id (by omega) (fun x ψ => L_laws_toSpan x ψ) (fun x ψ hx hh => hh) (by simpa using h) (by simp) _ (fun nx xs t hh => hh))
theorem toSpanSS_of {a : List (List GSpan)} {κ : List (List GSpan) → Prop} (hb : Sx2 a) (h : κ a) : L_laws_toSpanSS a κ := by
  unfold L_laws_toSpanSS
  have := hb.1
  refine makeW_of a.length rfl (by omega) (by omega) (copy_loop a id (by omega) (fun x ψ => L_laws_toSpanS x ψ) (fun x ψ hx hh => toSpanS_of (hb.2 x hx) hh) (by simpa using h) (by simp) _ (fun nx xs t hh => hh))
theorem toFlatS_of {a : List GFlat} {κ : List GFlat → Prop} (hb : Sx4 a) (h : κ a) : L_laws_toFlatS a κ := by
  unfold L_laws_toFlatS
  have := hb.1
  refine makeW_of a.length rfl (by omega) (by omega) (copy_loop a id (by omega) (fun x ψ => L_laws_toFlat x ψ) (fun x ψ hx hh => ?_) (by simpa using h) (by simp) _ (fun nx xs t hh => hh))
  unfold L_laws_toFlat L_laws_toBox
  exact toSpanSS_of (hb.2 x hx) hh
theorem eqSpanS_self {a : List GSpan} {κ : Bool → Prop} (hb : Sx1 a) (h : κ true) : L_laws_eqSpanS a a κ := by
  unfold L_laws_eqSpanS
  have : a.length ≤ 1048576 := hb
  refine ifW_of (fun hc => by simp at hc) (fun _ => eqS_loop a (by omega) h _ (fun nx t g ht hf => ifW_of (fun hc => ?_) (fun hc => hf (by simpa using hc))))
  have hlt : t < a.length := by simpa using hc
  obtain ⟨hm, hn⟩ := ht a[t] (by simp [hlt])
  refine idxW_of t rfl hlt (idxW_of t rfl hlt ?_)
  unfold L_laws_eqSpan
  refine ifW_of (fun hc => by simp at hc) (fun _ => ifW_of (fun hc => by simp at hc) (fun _ => ?_))
  simp only [Bool.not_true, ifW_false]
  exact addW_of (by omega) (by omega) hn
theorem eqSpanSS_self {a : List (List GSpan)} {κ : Bool → Prop} (hb : Sx2 a) (h : κ true) : L_laws_eqSpanSS a a κ := by
  unfold L_laws_eqSpanSS
  have := hb.1
  refine ifW_of (fun hc => by simp at hc) (fun _ => eqS_loop a (by omega) h _ (fun nx t g ht hf => ifW_of (fun hc => ?_) (fun hc => hf (by simpa using hc))))
  have hlt : t < a.length := by simpa using hc
  obtain ⟨hm, hn⟩ := ht a[t] (by simp [hlt])
  refine idxW_of t rfl hlt (idxW_of t rfl hlt (eqSpanS_self (hb.2 _ hm) ?_))
  simp only [Bool.not_true, ifW_false]
  exact addW_of (by omega) (by omega) hn
theorem eqFlatS_self {a : List GFlat} {κ : Bool → Prop} (hb : Sx4 a) (h : κ true) : L_laws_eqFlatS a a κ := by
  unfold L_laws_eqFlatS
  have := hb.1
  refine ifW_of (fun hc => by simp at hc) (fun _ => eqS_loop a (by omega) h _ (fun nx t g ht hf => ifW_of (fun hc => ?_) (fun hc => hf (by simpa using hc))))
  have hlt : t < a.length := by simpa using hc
  obtain ⟨hm, hn⟩ := ht a[t] (by simp [hlt])
  refine idxW_of t rfl hlt (idxW_of t rfl hlt ?_)
  unfold L_laws_eqFlat L_laws_eqBox
  refine eqSpanSS_self (hb.2 _ hm) (ifW_f (ifW_f (ifW_of (fun hc => by simp at hc) (fun _ => ifW_f (addW_of (by omega) (by omega) hn)))))
-- marks
def fSp (k : Int) (_ : GSpan) : Int × GSpan := (k + 2, ⟨k, k + 1⟩)
def fSs (k : Int) (l : List GSpan) : Int × List GSpan := mkL fSp k l
def fFl (k : Int) (f : GFlat) : Int × GFlat := ((mkL fSs k f.xWhere.xSides).1 + 1, ⟨⟨(mkL fSs k f.xWhere.xSides).2⟩, decide ((mkL fSs k f.xWhere.xSides).1 % 3 = 0)⟩)
theorem fSp_bd (x : GSpan) (k : Int) (_ : 1 ≤ k) : k ≤ (fSp k x).1 ∧ (fSp k x).1 ≤ k + 2 := by simp [fSp]; omega
theorem fSs_bd {x : List GSpan} (h : Sx1 x) (k : Int) (hk : 1 ≤ k) : k ≤ (fSs k x).1 ∧ (fSs k x).1 ≤ k + 2097152 := by
  have h' : x.length ≤ 1048576 := h
  obtain ⟨a, b⟩ := mkL_le fSp 2 (by decide) k x hk (fun x _ => fSp_bd x)
  simp only [fSs]; omega
theorem fSS_bd {x : List (List GSpan)} (h : Sx2 x) (k : Int) (hk : 1 ≤ k) : k ≤ (mkL fSs k x).1 ∧ (mkL fSs k x).1 ≤ k + 2199023255552 := by
  have h' : x.length ≤ 1048576 := h.1
  obtain ⟨a, b⟩ := mkL_le fSs 2097152 (by decide) k x hk (fun x hx => fSs_bd (h.2 x hx))
  omega
theorem fFl_bd {x : GFlat} (h : Sx3 x) (k : Int) (hk : 1 ≤ k) : k ≤ (fFl k x).1 ∧ (fFl k x).1 ≤ k + 2199023255553 := by
  obtain ⟨a, b⟩ := fSS_bd h k hk
  simp only [fFl]; omega
theorem mkF_bd {a : List GFlat} (h : Sx4 a) (k : Int) (hk : 1 ≤ k) : k ≤ (mkL fFl k a).1 ∧ (mkL fFl k a).1 ≤ k + 2305843009214742528 := by
  have h' : a.length ≤ 1048576 := h.1
  obtain ⟨x, y⟩ := mkL_le fFl 2199023255553 (by decide) k a hk (fun x hx => fFl_bd (h.2 x hx))
  omega
theorem markSpanS_of {a : List GSpan} {k0 : Int} {κ : Int × List GSpan → Prop} (hl : Sx1 a) (h0 : 1 ≤ k0) (h1 : k0 + 2097152 ≤ 9000000000000000000) (h : κ (fSs k0 a)) : L_laws_markSpanS a k0 κ := by
  unfold L_laws_markSpanS
  have hl' : a.length ≤ 1048576 := hl
  refine markG_loop fSp 2 1048576 a k0 (by omega) (by decide) (by decide) h0 (by omega) (fun x _ => fSp_bd x) h _ (fun nx xs k t g0 g1 ht hf => ifW_of (fun hc => ?_) (fun hc => hf (by simpa using hc)))
  have hlt : t < xs.length := by simpa using hc
  obtain ⟨_, hk, hn⟩ := ht xs[t] (by simp [hlt])
  refine idxW_of t rfl hlt (addW_of (by omega) (by omega) (idxW_set hlt (addW_of (by omega) (by omega) (addW_of (by omega) (by omega) ?_))))
  simp only [List.set_set, Int.toNat_natCast]
  have e3 : k + 1 + 1 = k + 2 := by omega
  rw [e3]
  exact hn
theorem markSpanSS_of {a : List (List GSpan)} {k0 : Int} {κ : Int × List (List GSpan) → Prop} (hb : Sx2 a) (h0 : 1 ≤ k0) (h1 : k0 + 2199023255552 ≤ 9000000000000000000) (h : κ (mkL fSs k0 a)) : L_laws_markSpanSS a k0 κ := by
  unfold L_laws_markSpanSS
  have := hb.1
  refine markG_loop fSs 2097152 1048576 a k0 (by omega) (by decide) (by decide) h0 (by omega) (fun x hx => fSs_bd (hb.2 x hx)) h _ (fun nx xs k t g0 g1 ht hf => ifW_of (fun hc => ?_) (fun hc => hf (by simpa using hc)))
  have hlt : t < xs.length := by simpa using hc
  obtain ⟨hm, hk, hn⟩ := ht xs[t] (by simp [hlt])
  refine idxW_of t rfl hlt (markSpanS_of (hb.2 _ hm) g0 (by omega) (addW_of (by omega) (by omega) ?_))
  simp only [Int.toNat_natCast]
  exact hn
theorem markFlatS_of {a : List GFlat} {k0 : Int} {κ : Int × List GFlat → Prop} (hb : Sx4 a) (h0 : 1 ≤ k0) (h1 : k0 ≤ 1048576) (h : κ (mkL fFl k0 a)) : L_laws_markFlatS a k0 κ := by
  unfold L_laws_markFlatS
  have := hb.1
  refine markG_loop fFl 2199023255553 1048576 a k0 (by omega) (by decide) (by decide) h0 (by omega) (fun x hx => fFl_bd (hb.2 x hx)) h _ (fun nx xs k t g0 g1 ht hf => ifW_of (fun hc => ?_) (fun hc => hf (by simpa using hc)))
  have hlt : t < xs.length := by simpa using hc
  obtain ⟨hm, hk, hn⟩ := ht xs[t] (by simp [hlt])
  obtain ⟨b1, b2⟩ := fFl_bd (hb.2 _ hm) k g0
  simp only [fFl] at b1 b2 hn
  refine idxW_of t rfl hlt (markSpanSS_of (hb.2 _ hm) g0 (by omega) ?_)
  refine remW_of (by omega) (by omega) (by omega) (idxW_set hlt (addW_of (by omega) (by omega) (addW_of (by omega) (by omega) ?_)))
  simp only [List.set_set, Int.toNat_natCast]
  exact hn

end
section
open Go Go.Proofs

/-- the test of a field, if one is enough -/
def bt1 (n : Nat) (s : List GSpan) : Option (List GTest) :=
  match s with
  | [x] => if x = ⟨0, top n⟩ then some [] else some [⟨n, x.xLo, x.xHi, false⟩]
  | [x, y] => if x.xLo = 0 ∧ y.xHi = top n then some [⟨n, x.xHi + 1, y.xLo - 1, true⟩] else none
  | _ => none
def btN (a : A4ListGSpan) : Nat → Option (List GTest)
  | 0 => some []
  | k + 1 => match btN a k with
    | none => none
    | some l => match bt1 k (get4 a k) with
      | none => none
      | some m => some (l ++ m)
/-- tests for a box -/
def btF (a : A4ListGSpan) : Option (List GTest) := if em4 a then none else btN a 4
def bres : Option (List GTest) → List GTest × Bool
  | some l => (l, true)
  | none => ([], false)
theorem bt1_len {n : Nat} {s : List GSpan} {l : List GTest} (h : bt1 n s = some l) : l.length ≤ 1 := by
  unfold bt1 at h
  split at h
  · split at h <;> (injection h with h; subst h; simp)
  · split at h
    · injection h with h; subst h; simp
    · cases h
  · cases h
theorem btN_len {a : A4ListGSpan} : ∀ {k : Nat} {l : List GTest}, btN a k = some l → l.length ≤ k
  | 0, l, h => by simp only [btN, Option.some.injEq] at h; subst h; simp
  | k + 1, l, h => by
    unfold btN at h
    split at h
    · cases h
    · rename_i l1 h1
      split at h
      · cases h
      · rename_i m h2
        injection h with h; subst h
        have := btN_len h1
        have := bt1_len h2
        rw [List.length_append]; omega
theorem btN_none {a : A4ListGSpan} {k n : Nat} (h : btN a k = none) (hk : k ≤ n) : btN a n = none := by
  induction n with
  | zero => obtain rfl : k = 0 := by omega
            exact h
  | succ n ih =>
    by_cases e : k = n + 1
    · subst e; exact h
    · unfold btN; rw [ih (by omega)]
theorem btN_step {a : A4ListGSpan} {k : Nat} {l : List GTest} (h : btN a k = some l) : btN a (k + 1) = (match bt1 k (get4 a k) with | none => none | some m => some (l ++ m)) := by
  conv => lhs; unfold btN
  rw [h]
theorem S_shapeTop {n : Int} {κ : GFieldShape → Prop} (h0 : 0 ≤ n) (h1 : n ≤ 3) (h : ∀ e : GFieldShape, e.xTop = top n → κ e) : idxW gl_impl_fieldShapes n κ := S_shape h0 h1 (fun e _ => h e)
/-- what both do with a field -/
theorem bt_step {a : A4ListGSpan} (hB : B4 a) {k : Nat} (hlt : k < 4) {l : List GTest} (hb : btN a k = some l) {tp : Int} (htp : tp = top k) {κ : List GTest × Bool → Prop} {nx : List GTest × Int → Prop} (hl : l.length ≤ 4)
    (hn : ∀ m, btN a (k + 1) = some m → nx (m, (k : Int) + 1)) (hz : btN a (k + 1) = none → κ ([], false)) :
    jnW (fun (xs298 : (List GTest)) => addW (k : Int) 1 (fun t302 => nx (xs298, t302))) (fun k301 => jnW (fun (t150 : Bool) => ifW t150 (k301 l) (ifW (decide (((get4 a k).length : Int) = 1)) (idxW (get4 a k) 0 (fun e152 => idxW (get4 a k) 0 (fun e154 => appW l ([(GTest.mk k e152.xLo e154.xHi false)]) (fun _ => k301 (l ++ ([(GTest.mk k e152.xLo e154.xHi false)])))))) (jnW (fun (t224 : Bool) => ifW t224 (idxW (get4 a k) 0 (fun e226 => addW e226.xHi 1 (fun t228 => idxW (get4 a k) 1 (fun e229 => subW e229.xLo 1 (fun t231 => appW l ([(GTest.mk k t228 t231 true)]) (fun _ => k301 (l ++ ([(GTest.mk k t228 t231 true)])))))))) (κ ([], false))) (fun k225 => ifW (decide (((get4 a k).length : Int) = 2)) (idxW (get4 a k) 0 (fun e160 => ifW (decide (e160.xLo = 0)) (idxW (get4 a k) 1 (fun e162 => k225 (decide (e162.xHi = tp)))) (k225 false))) (k225 false))))) (fun k151 => ifW (decide (((get4 a k).length : Int) = 1)) (idxW (get4 a k) 0 (fun e88 => k151 (decide (e88 = (GSpan.mk 0 tp))))) (k151 false))) := by
  subst htp
  rw [btN_step hb] at hn hz
  have hst := get4_St hB (show (0 : Int) ≤ k by omega) (show (k : Int) ≤ 3 by omega)
  have tl := top_le k
  generalize get4 a k = s at *
  have go : ∀ ys, nx (ys, (k : Int) + 1) → addW (k : Int) 1 (fun t302 => nx (ys, t302)) := fun ys h => addW_of (by omega) (by omega) h
  refine jnW_i ?_
  match s, hst with
  | [], _ =>
    refine jnW_i (ifW_f (ifW_f (ifW_f (jnW_i (ifW_f (ifW_f ?_))))))
    exact hz rfl
  | [x], _ =>
    refine jnW_i (ifW_t (idxW_of 0 rfl (by simp) ?_))
    refine ifW_of (fun e => ?_) (fun e => ?_)
    · have e' : x = ⟨0, top k⟩ := of_decide_eq_true e
      refine go _ (hn _ ?_)
      unfold bt1; simp only; rw [if_pos e']; simp
    · have e' : ¬ x = ⟨0, top k⟩ := of_decide_eq_false e
      refine ifW_t (idxW_of 0 rfl (by simp) (idxW_of 0 rfl (by simp) (appW_of (by simp; omega) (go _ (hn _ ?_)))))
      unfold bt1; simp only; rw [if_neg e']; rfl
  | [x, y], hst =>
    have hx := hst.2 x (by simp)
    have hy := hst.2 y (by simp)
    have hx2 := hst.1.1 x (by simp)
    have hy2 := hst.1.1 y (by simp)
    refine jnW_i (ifW_f (ifW_f (ifW_f (jnW_i (ifW_t (idxW_of 0 rfl (by simp) (ifW_of (fun e => ?_) (fun e => ?_))))))))
    · have e' : x.xLo = 0 := of_decide_eq_true e
      refine idxW_of 1 rfl (by simp) (ifW_of (fun e2 => ?_) (fun e2 => ?_))
      · have e2' : y.xHi = top k := of_decide_eq_true e2
        refine idxW_of 0 rfl (by simp) (addW_of (by simp; omega) (by simp; omega) (idxW_of 1 rfl (by simp) (subW_of (by simp; omega) (by simp; omega) (appW_of (by simp; omega) (go _ (hn _ ?_))))))
        unfold bt1; simp only; rw [if_pos ⟨e', e2'⟩]; rfl
      · have e2' : ¬ y.xHi = top k := of_decide_eq_false e2
        refine hz ?_
        unfold bt1; simp only; rw [if_neg (fun q => e2' q.2)]
    · have e' : ¬ x.xLo = 0 := of_decide_eq_false e
      refine ifW_f (hz ?_)
      unfold bt1; simp only; rw [if_neg (fun q => e' q.1)]
  | x :: y :: z :: r, _ =>
    refine jnW_i (ifW_of (fun e => by simp at e; omega) (fun _ => ifW_f (ifW_of (fun e => by simp at e; omega) (fun _ => jnW_i (ifW_of (fun e => by simp at e; omega) (fun _ => ifW_f ?_))))))
    exact hz rfl
theorem S_impl_BoxTests {b : GBox} (hb : Bb b) {κ : List GTest × Bool → Prop} (h1 : BV b → κ (bres (btF (sd b)))) (h2 : ¬ BV b → κ ([], false)) : L_impl_BoxTests b κ := by
  unfold L_impl_BoxTests
  refine jnW_i (S_impl_BoxValid hb (ifW_of (fun e => ?_) (fun e => ?_)))
  · exact ifW_t (h2 (by simpa using e))
  have hv' : BV b := by simpa using e
  refine S_sidesOf (BV_len hv') (S_empty4 (ifW_of (fun e2 => ?_) (fun e2 => ?_)))
  · have := h1 hv'
    unfold btF at this; rw [if_pos e2] at this; exact this
  have h3 := h1 hv'
  unfold btF at h3; rw [if_neg (by simp [e2])] at h3
  clear h1 h2 e e2
  have hB := hv'.b4
  obtain ⟨a, rfl, _⟩ := hv'
  rw [sd_bx] at h3 hB
  refine count_loop 4 (fun s => s.2) (fun k (s : List GTest × Int) => s.2 = (k : Int) ∧ k ≤ 4 ∧ btN a k = some s.1) (fun k s h => h.1) (fun k s h => h.2.1) ?_ ⟨rfl, by omega, rfl⟩
  rintro k ⟨l, _⟩ next ⟨rfl, hk, hbt⟩ hn
  simp only at hbt
  refine ifW_of (fun hc => ?_) (fun hc => ?_)
  · have hlt : k < 4 := by
      have : (k : Int) < 4 := by simpa [bx] using hc
      omega
    have hl := btN_len hbt
    refine idx4 (a := a) (by omega) (by omega) (S_shapeTop (by omega) (by omega) (fun e he => ?_))
    refine bt_step hB hlt hbt he (by omega) (fun m hm => hn hlt _ ⟨by simp, by omega, hm⟩) (fun hz => ?_)
    rw [btN_none hz (by omega)] at h3; exact h3
  · have hge : k = 4 := by
      have : (4 : Int) ≤ k := by simpa [bx] using hc
      omega
    subst hge
    rw [hbt] at h3; exact h3
theorem S_spec_BoxTests {b : GBox} (hb : Bb b) {κ : List GTest × Bool → Prop} (h1 : BV b → κ (bres (btF (sd b)))) (h2 : ¬ BV b → κ ([], false)) : L_spec_BoxTests b κ := by
  unfold L_spec_BoxTests
  refine jnW_i (S_spec_BoxValid hb (ifW_of (fun e => ?_) (fun e => ?_)))
  · exact ifW_t (h2 (by simpa using e))
  have hv' : BV b := by simpa using e
  have h3 := h1 hv'
  clear h1 h2 e
  have hB := hv'.b4
  obtain ⟨a, rfl, _⟩ := hv'
  rw [sd_bx] at h3 hB
  refine S_l10Empty (ifW_of (fun e2 => ?_) (fun e2 => ?_))
  · unfold btF at h3; rw [if_pos e2] at h3; exact h3
  unfold btF at h3; rw [if_neg (by simp [e2])] at h3
  refine count_loop 4 (fun s => s.2) (fun k (s : List GTest × Int) => s.2 = (k : Int) ∧ k ≤ 4 ∧ btN a k = some s.1) (fun k s h => h.1) (fun k s h => h.2.1) ?_ ⟨rfl, by omega, rfl⟩
  rintro k ⟨l, _⟩ next ⟨rfl, hk, hbt⟩ hn
  simp only at hbt
  refine ifW_of (fun hc => ?_) (fun hc => ?_)
  · have hlt : k < 4 := by
      have : (k : Int) < 4 := by simpa using hc
      omega
    have hl := btN_len hbt
    refine idx4 (a := a) (by omega) (by omega) (S_spec_FieldTop (by omega) (by omega) ?_)
    refine bt_step hB hlt hbt rfl (by omega) (fun m hm => hn hlt _ ⟨by simp, by omega, hm⟩) (fun hz => ?_)
    rw [btN_none hz (by omega)] at h3; exact h3
  · have hge : k = 4 := by
      have : (4 : Int) ≤ k := by simpa using hc
      omega
    subst hge
    rw [hbt] at h3; exact h3
/-- the rule of a rule without calls -/
def ruD (f : GFlat) : GRule := ⟨(bres (btF (sd f.xWhere))).1, if f.xAccept then 1 else 2, 0⟩
def frOk (l : List GFlat) : Prop := FV l ∧ l.length ≤ 8 ∧ ∀ f ∈ l, btF (sd f.xWhere) ≠ none
def frS (l : List GFlat) (rest : Bool) : GRuleset := ⟨[l.map ruD], rest⟩
theorem bres_len (a : A4ListGSpan) : (bres (btF a)).1.length ≤ 4 := by
  cases h : btF a with
  | none => simp [bres]
  | some l =>
    unfold btF at h
    split at h
    · cases h
    · exact btN_len h
theorem S_impl_FlatRuleset {l : List GFlat} {rest : Bool} (hl : Fb l) {κ : GRuleset × Bool → Prop} (h1 : frOk l → κ (frS l rest, true)) (h2 : ¬ frOk l → κ (⟨[], false⟩, false)) : L_impl_FlatRuleset l rest κ := by
  unfold L_impl_FlatRuleset
  have hl1 := hl.1
  refine jnW_i (ifW_of (fun e => ?_) (fun e => ?_))
  · exact ifW_t (h2 (fun q => by have := q.2.1; simp at e; omega))
  have h8 : l.length ≤ 8 := by simp at e; omega
  refine S_impl_FlatsValid hl (ifW_of (fun e2 => ?_) (fun e2 => ?_))
  · exact h2 (fun q => by simp [q.1] at e2)
  have hv' : FV l := by simpa using e2
  refine makeW_of 0 rfl (by omega) (by omega) ?_
  refine count_loop l.length (fun s => s.2) (fun k (s : List GRule × Int) => s.2 = (k : Int) ∧ k ≤ l.length ∧ s.1 = (l.take k).map ruD ∧ ∀ f ∈ l.take k, btF (sd f.xWhere) ≠ none) (fun k s h => h.1) (fun k s h => h.2.1) ?_ ⟨rfl, by omega, by simp, by simp⟩
  rintro k ⟨_, _⟩ next ⟨rfl, hk, hx, hno⟩ hn
  simp only at hx
  subst hx
  refine ifW_of (fun hc => ?_) (fun hc => ?_)
  · have hlt : k < l.length := by simpa using hc
    have hbv := hv'.2 _ (List.getElem_mem hlt)
    refine idxW_of k rfl hlt (S_impl_BoxTests hbv.bb (fun _ => ?_) (fun q => absurd hbv q))
    have hlen := bres_len (sd l[k].xWhere)
    cases hbt : btF (sd l[k].xWhere) with
    | none => exact jnW_i (ifW_t (ifW_t (h2 (fun q => q.2.2 _ (List.getElem_mem hlt) hbt))))
    | some ts =>
      have er : ruD l[k] = ⟨ts, if l[k].xAccept then 1 else 2, 0⟩ := by unfold ruD; rw [hbt]; rfl
      rw [hbt] at hlen
      have hts : ts.length ≤ 4 := hlen
      refine jnW_i (ifW_f (ifW_of (fun e => by simp at e; omega) (fun _ => jnW_i ?_)))
      have go : ∀ act : Int, act = (if l[k].xAccept then 1 else 2) → appW ((l.take k).map ruD) ([(GRule.mk ts act 0)]) (fun _ => addW (k : Int) 1 (fun t229 => next ((((l.take k).map ruD) ++ ([(GRule.mk ts act 0)])), t229))) := by
        rintro _ rfl
        refine appW_of (by simp; omega) (addW_of (by omega) (by omega) (hn hlt _ ⟨by simp, by omega, ?_, fun f hf => ?_⟩))
        · rw [List.take_succ_eq_append_getElem hlt, List.map_append, List.map_singleton, er]
        · rw [List.take_succ_eq_append_getElem hlt] at hf
          rcases List.mem_append.1 hf with q | q
          · exact hno f q
          · simp only [List.mem_singleton] at q; rw [q, hbt]; simp
      refine ifW_of (fun e => go _ (by rw [e]; rfl)) (fun e => go _ (by rw [e]; rfl))
  · have hge : l.length ≤ k := by simpa using hc
    rw [List.take_of_length_le hge] at hno ⊢
    exact h1 ⟨hv', h8, hno⟩
theorem S_spec_FlatRuleset {l : List GFlat} {rest : Bool} (hl : Fb l) {κ : GRuleset × Bool → Prop} (h1 : frOk l → κ (frS l rest, true)) (h2 : ¬ frOk l → κ (⟨[], false⟩, false)) : L_spec_FlatRuleset l rest κ := by
  unfold L_spec_FlatRuleset
  have hl1 := hl.1
  refine S_l1OwnFlatList hl (jnW_i (S_spec_FlatsValid hl (ifW_of (fun e2 => ?_) (fun e2 => ?_))))
  · exact ifW_t (h2 (fun q => by simp [q.1] at e2))
  have hv' : FV l := by simpa using e2
  refine ifW_of (fun e => h2 (fun q => by have := q.2.1; simp at e; omega)) (fun e => ?_)
  have h8 : l.length ≤ 8 := by simp at e; omega
  refine count_loop l.length (fun s => s.2) (fun k (s : List GRule × Int) => s.2 = (k : Int) ∧ k ≤ l.length ∧ s.1 = (l.take k).map ruD ∧ ∀ f ∈ l.take k, btF (sd f.xWhere) ≠ none) (fun k s h => h.1) (fun k s h => h.2.1) ?_ ⟨rfl, by omega, by simp, by simp⟩
  rintro k ⟨_, _⟩ next ⟨rfl, hk, hx, hno⟩ hn
  simp only at hx
  subst hx
  refine ifW_of (fun hc => ?_) (fun hc => ?_)
  · have hlt : k < l.length := by simpa using hc
    have hbv := hv'.2 _ (List.getElem_mem hlt)
    refine idxW_of k rfl hlt (S_spec_BoxTests hbv.bb (fun _ => ?_) (fun q => absurd hbv q))
    have hlen := bres_len (sd l[k].xWhere)
    cases hbt : btF (sd l[k].xWhere) with
    | none => exact ifW_t (h2 (fun q => q.2.2 _ (List.getElem_mem hlt) hbt))
    | some ts =>
      have er : ruD l[k] = ⟨ts, if l[k].xAccept then 1 else 2, 0⟩ := by unfold ruD; rw [hbt]; rfl
      rw [hbt] at hlen
      have hts : ts.length ≤ 4 := hlen
      refine ifW_f (jnW_i (idxW_of k rfl hlt ?_))
      have go : ∀ act : Int, act = (if l[k].xAccept then 1 else 2) → appW ((l.take k).map ruD) ([(GRule.mk ts act 0)]) (fun _ => addW (k : Int) 1 (fun t229 => next ((((l.take k).map ruD) ++ ([(GRule.mk ts act 0)])), t229))) := by
        rintro _ rfl
        refine appW_of (by simp; omega) (addW_of (by omega) (by omega) (hn hlt _ ⟨by simp, by omega, ?_, fun f hf => ?_⟩))
        · rw [List.take_succ_eq_append_getElem hlt, List.map_append, List.map_singleton, er]
        · rw [List.take_succ_eq_append_getElem hlt] at hf
          rcases List.mem_append.1 hf with q | q
          · exact hno f q
          · simp only [List.mem_singleton] at q; rw [q, hbt]; simp
      refine ifW_of (fun e => go _ (by rw [e]; rfl)) (fun e => go _ (by rw [e]; rfl))
  · have hge : l.length ≤ k := by simpa using hc
    rw [List.take_of_length_le hge] at hno ⊢
    exact h1 ⟨hv', h8, hno⟩
theorem frS_bs {l : List GFlat} {rest : Bool} (h : l.length ≤ 8) : Bs (frS l rest).xChains := by
  refine ⟨by simp [frS], fun c hc => ?_⟩
  simp only [frS, List.mem_singleton] at hc
  subst hc
  refine ⟨by simp; omega, fun r hr => ?_⟩
  obtain ⟨f, hf, rfl⟩ := List.mem_map.1 hr
  have := bres_len (sd f.xWhere)
  unfold Br ruD; simp only; omega
theorem pureFnExactFlatRuleset (l : List GFlat) (rest : Bool) (hl : okX l) : L_laws_FnExactFlatRuleset l rest (fun r => r = true) := by
  unfold L_laws_FnExactFlatRuleset
  refine S_szFlatS hl (by decide) (by decide) (ifW_t rfl) (fun r g0 g1 hs => ifW_of (fun _ => rfl) (fun _ => ?_))
  have hfb := hs.fb
  obtain ⟨s, ok, hbs, hI, hS⟩ : ∃ s ok, Bs s.xChains ∧ (∀ κ : GRuleset × Bool → Prop, κ (s, ok) → L_impl_FlatRuleset l rest κ) ∧ ∀ κ : GRuleset × Bool → Prop, κ (s, ok) → L_spec_FlatRuleset l rest κ := by
    by_cases h : frOk l
    · exact ⟨frS l rest, true, frS_bs h.2.1, fun κ hκ => S_impl_FlatRuleset hfb (fun _ => hκ) (fun q => absurd h q), fun κ hκ => S_spec_FlatRuleset hfb (fun _ => hκ) (fun q => absurd h q)⟩
    · exact ⟨⟨[], false⟩, false, bs_nil, fun κ hκ => S_impl_FlatRuleset hfb (fun q => absurd q h) (fun _ => hκ), fun κ hκ => S_spec_FlatRuleset hfb (fun q => absurd q h) (fun _ => hκ)⟩
  have mb := mkF_bd hs 1 (by decide)
  have mc := mkC_bd hbs 1 (by decide)
  refine toFlatS_of hs (hS _ (toFlatS_of hs (hI _ ?_)))
  refine jnW_i (eqRuleset_self hbs (ifW_f ?_))
  refine ifW_of (fun e => by simp at e) (fun _ => ?_)
  refine toFlatS_of hs (eqFlatS_self hs (ifW_f (markFlatS_of hs (by decide) (by decide) ?_)))
  refine jnW_i (ifW_of (fun e => by simp at e; omega) (fun _ => eqRuleset_self hbs (ifW_f (ifW_of (fun e => by simp at e) (fun _ => ?_)))))
  refine markRuleset_of hbs (by decide) (by decide) (heldRuleset_of hbs (by decide) (by decide) ?_)
  refine ifW_of (fun e => by simp at e; omega) (fun _ => ifW_of (fun e => by simp at e) (fun _ => ?_))
  refine toFlatS_of hs (hI _ (jnW_i (eqRuleset_self hbs (ifW_f (ifW_of (fun e => by simp at e) (fun _ => ?_))))))
  refine heldRuleset_of hbs (by decide) (by decide) ?_
  refine ifW_of (fun e => by simp at e; omega) (fun _ => ifW_of (fun e => by simp at e) (fun _ => rfl))

end
section
open Go.RowKit

section
variable {P : Program} {n : Nat} {G D : Nat → Prop} {w0 : World} {Q : Exit → Act → World → Prop} {R : Act → World → Prop} {E : Env} {L M : List Ch} {φ : Prop}
variable {d : Tmp} {ty : TypeId} {pos : String} {aft : Array Edge} {gd : Option (Nat × Bool)} {Tk : Act → World → Prop} {Lr : List Ch} {x y : Operand} {T T' S : TypeId} {e sz by' : Nat} {at' : Array TypeId}
/-! ### a part is taken out of a slice of the call's own -/
theorem Rows.drop {α : Type} {El : El α} {F : Nat → Prop} {w : World} : ∀ {xs : List α} {css : List (List Value)} (J : Nat), Rows El F w xs css → Rows El F w (xs.drop J) (css.drop J) ∧ (css.drop J).flatten = css.flatten.drop (J * El.size)
  | [], [], J, h => by simp [Rows]
  | x :: xs, cs :: css, 0, h => ⟨h, by simp⟩
  | x :: xs, cs :: css, J + 1, h => by
    obtain ⟨h1, h2⟩ := Rows.drop (xs := xs) (css := css) J h.2
    have hl := El.len F w x cs h.1
    refine ⟨h1, ?_⟩
    simp only [List.drop_succ_cons, List.flatten_cons, h2]
    have e : (J + 1) * El.size = cs.length + J * El.size := by rw [hl, Nat.add_mul]; omega
    rw [e, List.drop_length_add_append]
  | [], _ :: _, _, h => by simp [Rows] at h
  | _ :: _, [], _, h => by simp [Rows] at h
end

end
section
open Go.RowKit

section
variable {P : Program} {n : Nat} {G D : Nat → Prop} {w0 : World} {Q : Exit → Act → World → Prop} {R : Act → World → Prop} {E : Env} {L M : List Ch} {φ : Prop}
variable {d : Tmp} {ty : TypeId} {pos : String} {aft : Array Edge} {gd : Option (Nat × Bool)} {Tk : Act → World → Prop} {Lr : List Ch} {x y : Operand} {T T' S : TypeId} {e sz by' : Nat} {at' : Array TypeId}
theorem Mem.putObj {i b : Nat} {o o' : Obj} {w : World} (m : Mem G D w0 L w) (hi : lget L i = some (objCh b o)) : Mem G D w0 (lset L i (objCh b o')) (w.putObj b o') := by
  have hb : w.heap[b]? = some o := m.get hi
  have hlt := (Array.getElem?_eq_some_iff.1 hb).1
  refine m.upd hi rfl rfl rfl (by simp) (fun x _ hx => World.putObj_heap_other (fun e => hx e)) (fun x hx => ⟨?_, .inl hx⟩) (World.putObj_heap_same hlt)
  have hx' : x = b := hx
  subst hx'
  simpa using hlt
theorem Mem.absLoop {l : Nat} {rc0 : Loop} {w : World} (m : Mem G D w0 (objCh l (.loop rc0) :: L) w) : ∃ rc, rc = rc0 ∧ Mem G D w0 (objCh l (.loop rc) :: L) w := ⟨rc0, rfl, m⟩
/-- a block just laid, as an object -/
theorem Mem.laid {w : World} (o : Obj) (m : Mem G D w0 L w) : Mem G D w0 (objCh w.heap.size o :: L) (w.alloc o) :=
  m.add _ ((Below.refl _ _).alloc (Nat.le_refl _) _) (fun b hb => by have hb' : b = w.heap.size := hb; subst hb'; simp) (World.alloc_heap_new w o)
/-! ### with a deferred call that waits -/
end

end
section
open Go.RowKit
theorem arr114 : arrB Tryd.prog 114 = some (4, 72, false, 1) := by kernel_rfl
theorem arr129 : arrB Tryd.prog 129 = some (4, 128, true, 2) := by kernel_rfl
theorem bld125 : bldB Tryd.prog 125 = some (#[(0, 1), (1, 1), (2, 1), (3, 1)], [(.int .i64 0), (.int .i64 0), (.int .i64 0), (.bool false)]) := by kernel_rfl
theorem bld36 : bldB Tryd.prog 36 = some (#[(0, 1), (1, 1)], [(.slice none 0 0), (.bool false)]) := by kernel_rfl
theorem bld71 : bldB Tryd.prog 71 = some (#[(0, 1), (1, 1)], [(.int .i64 0), (.int .i64 0)]) := by kernel_rfl
theorem bld89 : bldB Tryd.prog 89 = some (#[(0, 1), (1, 1), (2, 1)], [(.slice none 0 0), (.int .i64 0), (.int .i64 0)]) := by kernel_rfl
theorem el176 : elB Tryd.prog 176 = some (191, 2, 16) := by kernel_rfl
theorem el23 : elB Tryd.prog 23 = some (87, 2, 32) := by kernel_rfl
theorem el32 : elB Tryd.prog 32 = some (78, 2, 32) := by kernel_rfl
theorem el34 : elB Tryd.prog 34 = some (54, 1, 24) := by kernel_rfl
theorem el54 : elB Tryd.prog 54 = some (89, 3, 40) := by kernel_rfl
theorem el72 : elB Tryd.prog 72 = some (71, 2, 16) := by kernel_rfl
theorem el74 : elB Tryd.prog 74 = some (176, 1, 24) := by kernel_rfl
theorem el80 : elB Tryd.prog 80 = some (125, 4, 32) := by kernel_rfl
theorem el83 : elB Tryd.prog 83 = some (72, 1, 24) := by kernel_rfl
theorem eqls71 (x y : Operand) (a0 : Int) (a1 : Int) (b0 : Int) (b1 : Int) (w : World) : (do eqGuard .eql 71 x y (.agg #[(.int .i64 a0), (.int .i64 a1)]) (.agg #[(.int .i64 b0), (.int .i64 b1)]); binOp .eql 71 (.agg #[(.int .i64 a0), (.int .i64 a1)]) (.agg #[(.int .i64 b0), (.int .i64 b1)]) : Sem Value).run Tryd.prog w = .ok (.bool (decide ((GSpan.mk a0 a1) = (GSpan.mk b0 b1)))) w := by
  simp [go_sem, binOp, Op.equal, Op.maxDepth]
  repeat' split
  all_goals simp_all
theorem fld125_0 : fldB Tryd.prog 125 0 = some (0, false, 1) := by kernel_rfl
theorem fld125_1 : fldB Tryd.prog 125 1 = some (1, false, 1) := by kernel_rfl
theorem fld125_2 : fldB Tryd.prog 125 2 = some (2, false, 1) := by kernel_rfl
theorem fld125_3 : fldB Tryd.prog 125 3 = some (3, false, 1) := by kernel_rfl
theorem fld128_1 : fldB Tryd.prog 128 1 = some (1, false, 1) := by kernel_rfl
theorem fld191_0 : fldB Tryd.prog 191 0 = some (0, false, 1) := by kernel_rfl
theorem fld191_1 : fldB Tryd.prog 191 1 = some (1, false, 1) := by kernel_rfl
theorem fld36_0 : fldB Tryd.prog 36 0 = some (0, false, 1) := by kernel_rfl
theorem fld36_1 : fldB Tryd.prog 36 1 = some (1, false, 1) := by kernel_rfl
theorem fld71_0 : fldB Tryd.prog 71 0 = some (0, false, 1) := by kernel_rfl
theorem fld71_1 : fldB Tryd.prog 71 1 = some (1, false, 1) := by kernel_rfl
theorem fld76_0 : fldB Tryd.prog 76 0 = some (0, false, 1) := by kernel_rfl
theorem fld78_0 : fldB Tryd.prog 78 0 = some (0, true, 1) := by kernel_rfl
theorem fld78_1 : fldB Tryd.prog 78 1 = some (1, false, 1) := by kernel_rfl
theorem fld85_0 : fldB Tryd.prog 85 0 = some (0, false, 1) := by kernel_rfl
theorem fld87_0 : fldB Tryd.prog 87 0 = some (0, true, 1) := by kernel_rfl
theorem fld87_1 : fldB Tryd.prog 87 1 = some (1, false, 1) := by kernel_rfl
theorem fld89_0 : fldB Tryd.prog 89 0 = some (0, false, 1) := by kernel_rfl
theorem fld89_1 : fldB Tryd.prog 89 1 = some (1, false, 1) := by kernel_rfl
theorem fld89_2 : fldB Tryd.prog 89 2 = some (2, false, 1) := by kernel_rfl
theorem ty114 : tyB Tryd.prog 114 = some (true, 4) := by kernel_rfl
theorem ty125 : tyB Tryd.prog 125 = some (true, 4) := by kernel_rfl
theorem ty176 : tyB Tryd.prog 176 = some (false, 1) := by kernel_rfl
theorem ty191 : tyB Tryd.prog 191 = some (true, 2) := by kernel_rfl
theorem ty3 : tyB Tryd.prog 3 = some (false, 1) := by kernel_rfl
theorem ty34 : tyB Tryd.prog 34 = some (false, 1) := by kernel_rfl
theorem ty36 : tyB Tryd.prog 36 = some (true, 2) := by kernel_rfl
theorem ty4 : tyB Tryd.prog 4 = some (false, 1) := by kernel_rfl
theorem ty54 : tyB Tryd.prog 54 = some (false, 1) := by kernel_rfl
theorem ty71 : tyB Tryd.prog 71 = some (true, 2) := by kernel_rfl
theorem ty72 : tyB Tryd.prog 72 = some (false, 1) := by kernel_rfl
theorem ty74 : tyB Tryd.prog 74 = some (false, 1) := by kernel_rfl
theorem ty76 : tyB Tryd.prog 76 = some (true, 1) := by kernel_rfl
theorem ty78 : tyB Tryd.prog 78 = some (true, 2) := by kernel_rfl
theorem ty80 : tyB Tryd.prog 80 = some (false, 1) := by kernel_rfl
theorem ty83 : tyB Tryd.prog 83 = some (false, 1) := by kernel_rfl
theorem ty85 : tyB Tryd.prog 85 = some (true, 1) := by kernel_rfl
theorem ty87 : tyB Tryd.prog 87 = some (true, 2) := by kernel_rfl
theorem ty89 : tyB Tryd.prog 89 = some (true, 3) := by kernel_rfl
theorem und3 : Tryd.prog.underlying 3 = some (.int .i64) := by kernel_rfl
theorem und4 : Tryd.prog.underlying 4 = some .bool := by kernel_rfl
theorem zero114 : zeroB Tryd.prog 114 = some [(.slice none 0 0), (.slice none 0 0), (.slice none 0 0), (.slice none 0 0)] := by kernel_rfl
theorem zero125 : zeroB Tryd.prog 125 = some [(.int .i64 0), (.int .i64 0), (.int .i64 0), (.bool false)] := by kernel_rfl
theorem zero36 : zeroB Tryd.prog 36 = some [(.slice none 0 0), (.bool false)] := by kernel_rfl
theorem zero54 : zeroB Tryd.prog 54 = some [(.slice none 0 0)] := by kernel_rfl
theorem zero71 : zeroB Tryd.prog 71 = some [(.int .i64 0), (.int .i64 0)] := by kernel_rfl
theorem zero72 : zeroB Tryd.prog 72 = some [(.slice none 0 0)] := by kernel_rfl
theorem zero85 : zeroB Tryd.prog 85 = some [(.slice none 0 0)] := by kernel_rfl
theorem zero87 : zeroB Tryd.prog 87 = some [(.slice none 0 0), (.bool false)] := by kernel_rfl
theorem zero89 : zeroB Tryd.prog 89 = some [(.slice none 0 0), (.int .i64 0), (.int .i64 0)] := by kernel_rfl
theorem mixed : Tryd.prog.follows .mixedOrders = true := by kernel_rfl

set_option maxRecDepth 100000 in
set_option maxHeartbeats 8000000 in
theorem w_spec_l1In {w0 : World} {F : Nat → Prop} {n_0 : Int} {lo_1 : Int} {hi_2 : Int} {κ : Bool → Prop} (hF : ∀ b, F b → b < w0.heap.size ∧ ¬ feet [] b) (h : L_spec_l1In n_0 lo_1 hi_2 κ) :
    Calls Tryd.prog 74 #[(.int .i64 n_0), (.int .i64 lo_1), (.int .i64 hi_2)] w0 (Ret [] F w0 κ (fun (r : Bool) (u : Unit) => (.bool r)) (fun (r : Bool) (u : Unit) => [])) := by
  refine enter0 (args := [(.int .i64 n_0), (.int .i64 lo_1), (.int .i64 hi_2)]) [] hF (Given.nil _ _) Tryd.func74 rfl Tryd.ntmps74 rfl h ?_
  clear h hF
  refine c_seq ?_
  refine c_region ?_
  refine o_as st rfl rfl ?_
  refine c_nil ?_
  refine l_then ?_
  refine c_join (σ := Bool) (fun (t61 : Bool) (a : Act) (w : World) => Has 15 [(6, (.bool t61))] a ∧ Mem (gB F [] w0) (feet []) w0 [] w) ?_ ?_
  · intro k62
    refine c_region ?_
    refine o_mv st rfl rfl ?_
    refine o_mv st rfl rfl ?_
    refine o_geq st rfl rfl rfl ?_
    refine o_mv st rfl rfl ?_
    refine st_sp (dj := 10) rfl ?_ ?_
    · refine o_mv (st_g rfl rfl) rfl rfl ?_
      refine o_mv (st_g rfl rfl) rfl rfl ?_
      refine o_leq (st_g rfl rfl) rfl rfl rfl ?_
      refine o_pickT st rfl rfl rfl ?_
      refine o_as st rfl rfl ?_
      refine c_nil ?_
      exact l_join (decide (n_0 ≤ hi_2)) (fun a w hE hm => ⟨hE.sub ⟨rfl, trivial⟩, (hm.pick [] rfl)⟩)
    · refine st_s rfl rfl rfl rfl ?_
      refine st_s rfl rfl rfl rfl ?_
      refine st_s rfl rfl rfl rfl ?_
      refine o_pickF st rfl rfl rfl ?_
      refine o_as st rfl rfl ?_
      refine c_nil ?_
      exact l_join false (fun a w hE hm => ⟨hE.sub ⟨rfl, trivial⟩, (hm.pick [] rfl)⟩)
  · rintro t61 a w ⟨hE, hm⟩ h
    refine nx_of hE hm h ?_
    clear hE hm h
    refine c_ret ?_
    exact l_end1 Tryd.results74 t61 () (rv_t rfl) (fun _ _ => NewCh.nil _ _ _ _)

set_option maxRecDepth 100000 in
set_option maxHeartbeats 8000000 in
theorem w_spec_FieldTop {w0 : World} {F : Nat → Prop} {n_0 : Int} {κ : Int → Prop} (hF : ∀ b, F b → b < w0.heap.size ∧ ¬ feet [] b) (h : L_spec_FieldTop n_0 κ) :
    Calls Tryd.prog 63 #[(.int .i64 n_0)] w0 (Ret [] F w0 κ (fun (r : Int) (u : Unit) => (.int .i64 r)) (fun (r : Int) (u : Unit) => [])) := by
  refine enter0 (args := [(.int .i64 n_0)]) [] hF (Given.nil _ _) Tryd.func63 rfl Tryd.ntmps63 rfl h ?_
  clear h hF
  refine c_seq ?_
  refine c_region ?_
  refine o_as st rfl rfl ?_
  refine c_nil ?_
  refine l_then ?_
  refine c_seq ?_
  refine c_seq ?_
  refine c_region ?_
  refine o_mv st rfl rfl ?_
  refine c_nil ?_
  refine l_then ?_
  refine c_block ?_
  refine c_join (σ := Bool) (fun (t61 : Bool) (a : Act) (w : World) => Has 11 [(3, (.int .i64 n_0)), (4, (.bool t61))] a ∧ Mem (gB F [] w0) (feet []) w0 [] w) ?_ ?_
  · intro k62
    refine c_seq ?_
    refine c_region ?_
    refine o_eql st und3 rfl rfl rfl ?_
    refine o_as st rfl rfl ?_
    refine c_nil ?_
    refine l_then ?_
    refine c_cond rfl ?_ ?_
    · refine c_skip ?_
      exact l_join (decide (n_0 = 0)) (fun a w hE hm => ⟨hE.sub ⟨rfl, rfl, trivial⟩, (hm.pick [] rfl)⟩)
    · refine c_region ?_
      refine o_eql st und3 rfl rfl rfl ?_
      refine o_as st rfl rfl ?_
      refine c_nil ?_
      exact l_join (decide (n_0 = 1)) (fun a w hE hm => ⟨hE.sub ⟨rfl, rfl, trivial⟩, (hm.pick [] rfl)⟩)
  · rintro t61 a w ⟨hE, hm⟩ h
    refine nx_of hE hm h ?_
    clear hE hm h
    refine c_cond rfl ?_ ?_
    · refine c_seq ?_
      refine c_region ?_
      refine o_as st rfl rfl ?_
      refine c_nil ?_
      refine l_then ?_
      refine c_ret ?_
      refine b_ret ?_
      refine l_ret ?_
      exact l_end1 Tryd.results63 65535 () (rv_t rfl) (fun _ _ => NewCh.nil _ _ _ _)
    · refine c_seq ?_
      refine c_region ?_
      refine o_eql st und3 rfl rfl rfl ?_
      refine o_as st rfl rfl ?_
      refine c_nil ?_
      refine l_then ?_
      refine c_cond rfl ?_ ?_
      · refine c_seq ?_
        refine c_region ?_
        refine o_as st rfl rfl ?_
        refine c_nil ?_
        refine l_then ?_
        refine c_ret ?_
        refine b_ret ?_
        refine l_ret ?_
        exact l_end1 Tryd.results63 255 () (rv_t rfl) (fun _ _ => NewCh.nil _ _ _ _)
      · refine c_seq ?_
        refine c_region ?_
        refine o_eql st und3 rfl rfl rfl ?_
        refine o_as st rfl rfl ?_
        refine c_nil ?_
        refine l_then ?_
        refine c_cond rfl ?_ ?_
        · refine c_seq ?_
          refine c_region ?_
          refine o_as st rfl rfl ?_
          refine c_nil ?_
          refine l_then ?_
          refine c_ret ?_
          refine b_ret ?_
          refine l_ret ?_
          exact l_end1 Tryd.results63 7 () (rv_t rfl) (fun _ _ => NewCh.nil _ _ _ _)
        · refine c_skip ?_
          refine b_norm ?_
          refine l_then ?_
          refine c_seq ?_
          refine c_region ?_
          refine o_as st rfl rfl ?_
          refine c_nil ?_
          refine l_then ?_
          refine c_ret ?_
          exact l_end1 Tryd.results63 (-1) () (rv_t rfl) (fun _ _ => NewCh.nil _ _ _ _)

end
section
open Go.RowKit
set_option maxRecDepth 100000 in
set_option maxHeartbeats 8000000 in
theorem w_impl_FieldTop {w0 : World} {F : Nat → Prop} {n_0 : Int} {κ : Int → Prop} (hF : ∀ b, F b → b < w0.heap.size ∧ ¬ feet [] b) (hgl0 : Sl elGFieldShape F w0 (.slice (some ⟨0, 0, none⟩) 4 4) gl_impl_fieldShapes) (h : L_impl_FieldTop n_0 κ) :
    Calls Tryd.prog 91 #[(.int .i64 n_0)] w0 (Ret [] F w0 κ (fun (r : Int) (u : Unit) => (.int .i64 r)) (fun (r : Int) (u : Unit) => [])) := by
  refine enterS (args := [(.int .i64 n_0)]) [] hF (Given.nil _ _) Tryd.func91 rfl Tryd.ntmps91 rfl h ?_
  clear h hF
  refine c_seq ?_
  refine c_region ?_
  refine o_as st rfl rfl ?_
  refine c_nil ?_
  refine l_then ?_
  refine c_seq ?_
  refine c_join (σ := Bool) (fun (t61 : Bool) (a : Act) (w : World) => Has 13 [(0, (.int .i64 n_0)), (8, (.bool t61))] a ∧ Mem (gB F [] w0) (feet []) w0 [snapCh w0 F] w) ?_ ?_
  · intro k62
    refine c_region ?_
    refine o_mv st rfl rfl ?_
    refine o_lss st rfl rfl rfl ?_
    refine o_mv st rfl rfl ?_
    refine st_sp (dj := 5) rfl ?_ ?_
    · refine st_s rfl rfl rfl rfl ?_
      refine st_s rfl rfl rfl rfl ?_
      refine o_pickT st rfl rfl rfl ?_
      refine c_nil ?_
      exact l_join true (fun a w hE hm => ⟨hE.sub ⟨rfl, rfl, trivial⟩, (hm.pick [0] rfl)⟩)
    · refine o_mv (st_g rfl rfl) rfl rfl ?_
      refine o_geq (st_g rfl rfl) rfl rfl rfl ?_
      refine o_pickF st rfl rfl rfl ?_
      refine c_nil ?_
      exact l_join (decide (4 ≤ n_0)) (fun a w hE hm => ⟨hE.sub ⟨rfl, rfl, trivial⟩, (hm.pick [0] rfl)⟩)
  · rintro t61 a w ⟨hE, hm⟩ h
    refine nx_of hE hm h ?_
    clear hE hm h
    refine c_cond rfl ?_ ?_
    · refine c_seq ?_
      refine c_region ?_
      refine o_as st rfl rfl ?_
      refine c_nil ?_
      refine l_then ?_
      refine c_ret ?_
      refine l_ret ?_
      exact l_end1 Tryd.results91 (-1) () (rv_t rfl) (fun _ _ => NewCh.nil _ _ _ _)
    · refine c_skip ?_
      refine l_then ?_
      refine c_seq ?_
      refine c_region ?_
      refine o_mv st rfl rfl ?_
      refine o_ixa st 0 rfl (reads_snap hgl0) rfl rfl rfl arr129 ?_; intro e63 h64
      refine o_fadS st 0 rfl (reads_snap hgl0) h64 rfl rfl fld128_1 rfl ?_
      refine o_lds st (enc := encGFieldShape) (u := (.int .i64 e63.xTop)) 0 rfl (reads_snap hgl0) flelGFieldShape rfl h64 rfl rfl ty3 rfl ?_
      refine o_as st rfl rfl ?_
      refine c_nil ?_
      refine l_then ?_
      refine c_ret ?_
      exact l_end1 Tryd.results91 e63.xTop () (rv_t rfl) (fun _ _ => NewCh.nil _ _ _ _)

set_option maxRecDepth 100000 in
set_option maxHeartbeats 8000000 in
theorem w_impl_topValid {w0 : World} {F : Nat → Prop} {top_0 : Int} {κ : Bool → Prop} (hF : ∀ b, F b → b < w0.heap.size ∧ ¬ feet [] b) (h : L_impl_topValid top_0 κ) :
    Calls Tryd.prog 119 #[(.int .i64 top_0)] w0 (Ret [] F w0 κ (fun (r : Bool) (u : Unit) => (.bool r)) (fun (r : Bool) (u : Unit) => [])) := by
  refine enter0 (args := [(.int .i64 top_0)]) [] hF (Given.nil _ _) Tryd.func119 rfl Tryd.ntmps119 rfl h ?_
  clear h hF
  refine c_seq ?_
  refine c_region ?_
  refine o_as st rfl rfl ?_
  refine c_nil ?_
  refine l_then ?_
  refine c_join (σ := Bool) (fun (t61 : Bool) (a : Act) (w : World) => Has 9 [(2, (.bool t61))] a ∧ Mem (gB F [] w0) (feet []) w0 [] w) ?_ ?_
  · intro k62
    refine c_region ?_
    refine o_mv st rfl rfl ?_
    refine o_geq st rfl rfl rfl ?_
    refine o_mv st rfl rfl ?_
    refine st_sp (dj := 5) rfl ?_ ?_
    · refine o_mv (st_g rfl rfl) rfl rfl ?_
      refine o_leq (st_g rfl rfl) rfl rfl rfl ?_
      refine o_pickT st rfl rfl rfl ?_
      refine o_as st rfl rfl ?_
      refine c_nil ?_
      exact l_join (decide (top_0 ≤ 65535)) (fun a w hE hm => ⟨hE.sub ⟨rfl, trivial⟩, (hm.pick [] rfl)⟩)
    · refine st_s rfl rfl rfl rfl ?_
      refine st_s rfl rfl rfl rfl ?_
      refine o_pickF st rfl rfl rfl ?_
      refine o_as st rfl rfl ?_
      refine c_nil ?_
      exact l_join false (fun a w hE hm => ⟨hE.sub ⟨rfl, trivial⟩, (hm.pick [] rfl)⟩)
  · rintro t61 a w ⟨hE, hm⟩ h
    refine nx_of hE hm h ?_
    clear hE hm h
    refine c_ret ?_
    exact l_end1 Tryd.results119 t61 () (rv_t rfl) (fun _ _ => NewCh.nil _ _ _ _)

set_option maxRecDepth 100000 in
set_option maxHeartbeats 8000000 in
theorem w_impl_SpansValid {w0 : World} {F : Nat → Prop} {v1 : Value} {list_0 : (List GSpan)} {top_1 : Int} {κ : Bool → Prop} (hF : ∀ b, F b → b < w0.heap.size ∧ ¬ feet [] b) (hv1 : Sl elGSpan F w0 v1 list_0) (h : L_impl_SpansValid list_0 top_1 κ) :
    Calls Tryd.prog 98 #[v1, (.int .i64 top_1)] w0 (Ret [] F w0 κ (fun (r : Bool) (u : Unit) => (.bool r)) (fun (r : Bool) (u : Unit) => [])) := by
  refine enterS (args := [v1, (.int .i64 top_1)]) [] hF (Given.nil _ _) Tryd.func98 rfl Tryd.ntmps98 rfl h ?_
  clear h hF
  refine c_seq ?_
  refine c_region ?_
  refine o_as st rfl rfl ?_
  refine c_nil ?_
  refine l_then ?_
  refine c_seq ?_
  refine c_join (σ := Bool) (fun (t64 : Bool) (a : Act) (w : World) => Has 43 [(0, v1), (1, (.int .i64 top_1)), (15, (.bool t64))] a ∧ Mem (gB F [] w0) (feet []) w0 [snapCh w0 F] w) ?_ ?_
  · intro k65
    refine c_region ?_
    refine o_mv st rfl rfl ?_
    refine stw (o_callP (vs := [(.int .i64 top_1)]) Tryd.call119 rfl rfl (by intro w m h; exact (w_impl_topValid (F := allB [] w) (top_0 := top_1) allB_ok h).mono (fun _ _ k => ret_free (fun r u => fr_nil) k)) ?_); rintro r3 _
    refine o_not st rfl rfl ?_
    refine o_mv st rfl rfl ?_
    refine st_sp (dj := 11) rfl ?_ ?_
    · refine st_s rfl rfl rfl rfl ?_
      refine st_s rfl rfl rfl rfl ?_
      refine st_s rfl rfl rfl rfl ?_
      refine o_pickT st rfl rfl rfl ?_
      refine c_nil ?_
      exact l_join true (fun a w hE hm => ⟨hE.sub ⟨rfl, rfl, rfl, trivial⟩, (hm.pick [0] rfl)⟩)
    · refine o_mv (st_g rfl rfl) rfl rfl ?_
      refine o_len (st_g rfl rfl) el72 0 rfl (reads_snap hv1) rfl rfl ?_
      refine o_gtr (st_g rfl rfl) rfl rfl rfl ?_
      refine o_pickF st rfl rfl rfl ?_
      refine c_nil ?_
      exact l_join (decide (40 < (list_0.length : Int))) (fun a w hE hm => ⟨hE.sub ⟨rfl, rfl, rfl, trivial⟩, (hm.pick [0] rfl)⟩)
  · rintro t64 a w ⟨hE, hm⟩ h
    refine nx_of hE hm h ?_
    clear hE hm h
    refine c_cond rfl ?_ ?_
    · refine c_seq ?_
      refine c_region ?_
      refine o_as st rfl rfl ?_
      refine c_nil ?_
      refine l_then ?_
      refine c_ret ?_
      refine l_ret ?_
      exact l_end1 Tryd.results98 false () (rv_t rfl) (fun _ _ => NewCh.nil _ _ _ _)
    · refine c_skip ?_
      refine l_then ?_
      refine c_seq ?_
      refine c_region ?_
      refine o_as st rfl rfl ?_
      refine c_nil ?_
      refine l_then ?_
      refine c_seq ?_
      refine c_seq ?_
      refine c_region ?_
      refine o_mv st rfl rfl ?_
      refine o_len st el72 0 rfl (reads_snap hv1) rfl rfl ?_
      refine o_mv st rfl rfl ?_
      refine c_nil ?_
      refine l_then ?_
      refine c_block ?_
      refine c_loop (σ := (Int × Int)) (fun ((t66, t67) : (Int × Int)) (a : Act) (w : World) => Has 43 [(1, (.int .i64 top_1)), (5, (.int .i64 t66)), (16, v1), (17, (.int .i64 (list_0.length : Int))), (18, (.int .i64 t67))] a ∧ Mem (gB F [] w0) (feet []) w0 [snapCh w0 F] w) (fun a w hE hm => ⟨hE.sub ⟨rfl, rfl, rfl, rfl, rfl, trivial⟩, (hm.pick [0] rfl)⟩) ?_
      rintro nx68 ⟨t66, t67⟩ a w ⟨hE, hm⟩ h
      refine nx_of hE hm h ?_
      clear hE hm h
      refine c_seq ?_
      refine c_region ?_
      refine o_lss st rfl rfl rfl ?_
      refine c_nil ?_
      refine l_then ?_
      refine c_seq ?_
      refine c_cond rfl ?_ ?_
      · refine c_skip ?_
        refine l_then ?_
        refine c_seq ?_
        refine c_block ?_
        refine c_seq ?_
        refine c_region ?_
        refine o_idx st 0 rfl (reads_snap hv1) rfl rfl rfl el72 ?_; intro e69 h70
        refine o_lds st (enc := encGSpan) (u := (.agg #[(.int .i64 e69.xLo), (.int .i64 e69.xHi)])) 0 rfl (reads_snap hv1) flelGSpan rfl h70 rfl rfl ty71 rfl ?_
        refine stw (o_alloc rfl [(.int .i64 0), (.int .i64 0)] zero71 ?_); intro b71
        refine stw (o_stc (cs' := [(.int .i64 e69.xLo), (.int .i64 e69.xHi)]) 0 rfl rfl rfl ty71 rfl rfl rfl rfl ?_)
        refine c_nil ?_
        refine l_then ?_
        refine c_seq ?_
        refine c_join (σ := Bool) (fun (t134 : Bool) (a : Act) (w : World) => Has 43 [(1, (.int .i64 top_1)), (16, v1), (17, (.int .i64 (list_0.length : Int))), (18, (.int .i64 t67)), (7, (.pointer (some ⟨b71, 0, none⟩))), (39, (.bool t134))] a ∧ Mem (gB F [] w0) (feet []) w0 [cellCh b71 [(.int .i64 e69.xLo), (.int .i64 e69.xHi)] 71, snapCh w0 F] w) ?_ ?_
        · intro k135
          refine c_region ?_
          refine o_fad st rfl rfl fld71_0 rfl ?_
          refine o_ldc st (v := (.int .i64 e69.xLo)) 0 rfl rfl rfl ty3 rfl ?_
          refine o_mv st rfl rfl ?_
          refine o_add st rfl rfl rfl ?_; intro t73
          refine o_leq st rfl rfl rfl ?_
          refine o_mv st rfl rfl ?_
          refine st_sp (dj := 27) rfl ?_ ?_
          · refine st_s rfl rfl rfl rfl ?_
            refine st_s rfl rfl rfl rfl ?_
            refine st_s rfl rfl rfl rfl ?_
            refine st_s rfl rfl rfl rfl ?_
            refine st_s rfl rfl rfl rfl ?_
            refine o_pickT st rfl rfl rfl ?_
            refine o_mv st rfl rfl ?_
            refine st_s rfl rfl rfl rfl ?_
            refine st_s rfl rfl rfl rfl ?_
            refine st_s rfl rfl rfl rfl ?_
            refine st_s rfl rfl rfl rfl ?_
            refine o_pickT st rfl rfl rfl ?_
            refine c_nil ?_
            exact l_join true (fun a w hE hm => ⟨hE.sub ⟨rfl, rfl, rfl, rfl, rfl, rfl, trivial⟩, (hm.pick [0, 1] rfl)⟩)
          · refine o_fad (st_g rfl rfl) rfl rfl fld71_0 rfl ?_
            refine o_ldc (st_g rfl rfl) (v := (.int .i64 e69.xLo)) 0 rfl rfl rfl ty3 rfl ?_
            refine o_fad (st_g rfl rfl) rfl rfl fld71_1 rfl ?_
            refine o_ldc (st_g rfl rfl) (v := (.int .i64 e69.xHi)) 0 rfl rfl rfl ty3 rfl ?_
            refine o_gtr (st_g rfl rfl) rfl rfl rfl ?_
            refine o_pickF st rfl rfl rfl ?_
            refine o_mv st rfl rfl ?_
            refine st_sp (dj := 34) rfl ?_ ?_
            · refine st_s rfl rfl rfl rfl ?_
              refine st_s rfl rfl rfl rfl ?_
              refine st_s rfl rfl rfl rfl ?_
              refine st_s rfl rfl rfl rfl ?_
              refine o_pickT st rfl rfl rfl ?_
              refine c_nil ?_
              exact l_join true (fun a w hE hm => ⟨hE.sub ⟨rfl, rfl, rfl, rfl, rfl, rfl, trivial⟩, (hm.pick [0, 1] rfl)⟩)
            · refine o_fad (st_g rfl rfl) rfl rfl fld71_1 rfl ?_
              refine o_ldc (st_g rfl rfl) (v := (.int .i64 e69.xHi)) 0 rfl rfl rfl ty3 rfl ?_
              refine o_mv (st_g rfl rfl) rfl rfl ?_
              refine o_gtr (st_g rfl rfl) rfl rfl rfl ?_
              refine o_pickF st rfl rfl rfl ?_
              refine c_nil ?_
              exact l_join (decide (top_1 < e69.xHi)) (fun a w hE hm => ⟨hE.sub ⟨rfl, rfl, rfl, rfl, rfl, rfl, trivial⟩, (hm.pick [0, 1] rfl)⟩)
        · rintro t134 a w ⟨hE, hm⟩ h
          refine nx_of hE hm h ?_
          clear hE hm h
          refine c_cond rfl ?_ ?_
          · refine c_seq ?_
            refine c_region ?_
            refine o_as st rfl rfl ?_
            refine c_nil ?_
            refine l_then ?_
            refine c_ret ?_
            refine l_ret ?_
            refine b_ret ?_
            refine l_ret ?_
            refine l_ret ?_
            refine b_ret ?_
            refine l_ret ?_
            exact l_end1 Tryd.results98 false () (rv_t rfl) (fun _ _ => NewCh.nil _ _ _ _)
          · refine c_skip ?_
            refine l_then ?_
            refine c_region ?_
            refine o_fad st rfl rfl fld71_1 rfl ?_
            refine o_ldc st (v := (.int .i64 e69.xHi)) 0 rfl rfl rfl ty3 rfl ?_
            refine o_as st rfl rfl ?_
            refine c_nil ?_
            refine b_norm ?_
            refine l_then ?_
            refine c_region ?_
            refine o_add st rfl rfl rfl ?_; intro t136
            refine o_mv st rfl rfl ?_
            refine c_nil ?_
            exact l_join (e69.xHi, t136) (fun a w hE hm => ⟨hE.sub ⟨rfl, rfl, rfl, rfl, rfl, trivial⟩, (hm.pick [1] rfl)⟩)
      · refine c_exit ?_
        refine l_exit ?_
        refine l_exit ?_
        refine b_exit ?_
        refine l_then ?_
        refine c_seq ?_
        refine c_region ?_
        refine o_as st rfl rfl ?_
        refine c_nil ?_
        refine l_then ?_
        refine c_ret ?_
        exact l_end1 Tryd.results98 true () (rv_t rfl) (fun _ _ => NewCh.nil _ _ _ _)

set_option maxRecDepth 100000 in
set_option maxHeartbeats 8000000 in
theorem w_impl_BoxValid {w0 : World} {F : Nat → Prop} {v1 : Value} {b_0 : GBox} {κ : Bool → Prop} (hF : ∀ b, F b → b < w0.heap.size ∧ ¬ feet [] b) (hv1 : Sl (elSl elGSpan) F w0 v1 b_0.xSides) (hgl0 : Sl elGFieldShape F w0 (.slice (some ⟨0, 0, none⟩) 4 4) gl_impl_fieldShapes) (h : L_impl_BoxValid b_0 κ) :
    Calls Tryd.prog 68 #[(.agg #[v1])] w0 (Ret [] F w0 κ (fun (r : Bool) (u : Unit) => (.bool r)) (fun (r : Bool) (u : Unit) => [])) := by
  refine enterS (args := [(.agg #[v1])]) [] hF (Given.nil _ _) Tryd.func68 rfl Tryd.ntmps68 rfl h ?_
  clear h hF
  refine c_seq ?_
  refine c_region ?_
  obtain ⟨a3, l4, q5, hs_⟩ := sl_val hv1; subst hs_
  refine stw (o_box rfl rfl [(.slice a3 l4 q5)] rfl ?_); intro b6
  refine o_as st rfl rfl ?_
  refine c_nil ?_
  refine l_then ?_
  refine c_seq ?_
  refine c_seq ?_
  refine c_region ?_
  refine o_fad st rfl rfl fld85_0 rfl ?_
  refine o_ldc st (v := (.slice a3 l4 q5)) 0 rfl rfl rfl ty83 rfl ?_
  refine o_len st el83 1 rfl (reads_snap hv1) rfl rfl ?_
  refine o_neq st und3 rfl rfl rfl ?_
  refine c_nil ?_
  refine l_then ?_
  refine c_cond rfl ?_ ?_
  · refine c_seq ?_
    refine c_region ?_
    refine o_as st rfl rfl ?_
    refine c_nil ?_
    refine l_then ?_
    refine c_ret ?_
    refine l_ret ?_
    exact l_end1 Tryd.results68 false () (rv_t rfl) (fun _ _ => NewCh.nil _ _ _ _)
  · refine c_skip ?_
    refine l_then ?_
    refine c_seq ?_
    refine c_seq ?_
    refine c_region ?_
    refine o_fad st rfl rfl fld85_0 rfl ?_
    refine o_ldc st (v := (.slice a3 l4 q5)) 0 rfl rfl rfl ty83 rfl ?_
    refine o_len st el83 1 rfl (reads_snap hv1) rfl rfl ?_
    refine o_mv st rfl rfl ?_
    refine c_nil ?_
    refine l_then ?_
    refine c_block ?_
    refine c_loop (σ := Int) (fun (t8 : Int) (a : Act) (w : World) => Has 23 [(10, (.slice a3 l4 q5)), (11, (.int .i64 (b_0.xSides.length : Int))), (12, (.int .i64 t8))] a ∧ Mem (gB F [] w0) (feet []) w0 [snapCh w0 F] w) (fun a w hE hm => ⟨hE.sub ⟨rfl, rfl, rfl, trivial⟩, (hm.pick [1] rfl)⟩) ?_
    rintro nx9 t8 a w ⟨hE, hm⟩ h
    refine nx_of hE hm h ?_
    clear hE hm h
    refine c_seq ?_
    refine c_region ?_
    refine o_lss st rfl rfl rfl ?_
    refine c_nil ?_
    refine l_then ?_
    refine c_seq ?_
    refine c_cond rfl ?_ ?_
    · refine c_skip ?_
      refine l_then ?_
      refine c_seq ?_
      refine c_block ?_
      refine c_seq ?_
      refine c_region ?_
      refine o_mv st rfl rfl ?_
      refine o_idx st 0 rfl (reads_snap hv1) rfl rfl rfl el83 ?_; intro e10 h11
      obtain ⟨_, ⟨v13, rfl, sl14⟩, rw12⟩ := sl_open hv1 h11
      refine o_ldR st (u := v13) 0 rfl rw12 rfl rfl ty72 rfl ?_
      refine o_as st rfl rfl ?_
      refine o_as st rfl rfl ?_
      refine c_nil ?_
      refine l_then ?_
      refine c_seq ?_
      refine c_region ?_
      refine o_mv st rfl rfl ?_
      refine o_mv st rfl rfl ?_
      refine stw (o_callP (vs := [(.int .i64 t8)]) Tryd.call91 rfl rfl (by intro w m h; exact (w_impl_FieldTop (F := allB [] w) (n_0 := t8) allB_ok (m.rd0 0 rfl (reads_snap hgl0)) h).mono (fun _ _ k => ret_free (fun r u => fr_nil) k)) ?_); rintro r16 _
      refine stw (o_callP (vs := [v13, (.int .i64 r16)]) Tryd.call98 rfl rfl (by intro w m h; exact (w_impl_SpansValid (F := allB [] w) (list_0 := e10) (top_1 := r16) allB_ok (m.rd0 0 rfl (reads_snap sl14)) h).mono (fun _ _ k => ret_free (fun r u => fr_nil) k)) ?_); rintro r17 _
      refine o_not st rfl rfl ?_
      refine c_nil ?_
      refine l_then ?_
      refine c_cond rfl ?_ ?_
      · refine c_seq ?_
        refine c_region ?_
        refine o_as st rfl rfl ?_
        refine c_nil ?_
        refine l_then ?_
        refine c_ret ?_
        refine b_ret ?_
        refine l_ret ?_
        refine l_ret ?_
        refine b_ret ?_
        refine l_ret ?_
        exact l_end1 Tryd.results68 false () (rv_t rfl) (fun _ _ => NewCh.nil _ _ _ _)
      · refine c_skip ?_
        refine b_norm ?_
        refine l_then ?_
        refine c_region ?_
        refine o_add st rfl rfl rfl ?_; intro t18
        refine o_mv st rfl rfl ?_
        refine c_nil ?_
        exact l_join t18 (fun a w hE hm => ⟨hE.sub ⟨rfl, rfl, rfl, trivial⟩, (hm.pick [0] rfl)⟩)
    · refine c_exit ?_
      refine l_exit ?_
      refine l_exit ?_
      refine b_exit ?_
      refine l_then ?_
      refine c_seq ?_
      refine c_region ?_
      refine o_as st rfl rfl ?_
      refine c_nil ?_
      refine l_then ?_
      refine c_ret ?_
      exact l_end1 Tryd.results68 true () (rv_t rfl) (fun _ _ => NewCh.nil _ _ _ _)



end
section
open Go.RowKit
set_option maxRecDepth 100000 in
set_option maxHeartbeats 8000000 in
theorem w_impl_FlatsValid {w0 : World} {F : Nat → Prop} {v1 : Value} {list_0 : (List GFlat)} {κ : Bool → Prop} (hF : ∀ b, F b → b < w0.heap.size ∧ ¬ feet [] b) (hv1 : Sl elGFlat F w0 v1 list_0) (hgl0 : Sl elGFieldShape F w0 (.slice (some ⟨0, 0, none⟩) 4 4) gl_impl_fieldShapes) (h : L_impl_FlatsValid list_0 κ) :
    Calls Tryd.prog 32 #[v1] w0 (Ret [] F w0 κ (fun (r : Bool) (u : Unit) => (.bool r)) (fun (r : Bool) (u : Unit) => [])) := by
  refine enterS (args := [v1]) [] hF (Given.nil _ _) Tryd.func32 rfl Tryd.ntmps32 rfl h ?_
  clear h hF
  refine c_seq ?_
  refine c_region ?_
  refine o_as st rfl rfl ?_
  refine c_nil ?_
  refine l_then ?_
  refine c_seq ?_
  refine c_seq ?_
  refine c_region ?_
  refine o_mv st rfl rfl ?_
  refine o_len st el23 0 rfl (reads_snap hv1) rfl rfl ?_
  refine o_gtr st rfl rfl rfl ?_
  refine c_nil ?_
  refine l_then ?_
  refine c_cond rfl ?_ ?_
  · refine c_seq ?_
    refine c_region ?_
    refine o_as st rfl rfl ?_
    refine c_nil ?_
    refine l_then ?_
    refine c_ret ?_
    refine l_ret ?_
    exact l_end1 Tryd.results32 false () (rv_t rfl) (fun _ _ => NewCh.nil _ _ _ _)
  · refine c_skip ?_
    refine l_then ?_
    refine c_seq ?_
    refine c_seq ?_
    refine c_region ?_
    refine o_mv st rfl rfl ?_
    refine o_len st el23 0 rfl (reads_snap hv1) rfl rfl ?_
    refine o_mv st rfl rfl ?_
    refine c_nil ?_
    refine l_then ?_
    refine c_block ?_
    refine c_loop (σ := Int) (fun (t3 : Int) (a : Act) (w : World) => Has 19 [(8, v1), (9, (.int .i64 (list_0.length : Int))), (10, (.int .i64 t3))] a ∧ Mem (gB F [] w0) (feet []) w0 [snapCh w0 F] w) (fun a w hE hm => ⟨hE.sub ⟨rfl, rfl, rfl, trivial⟩, (hm.pick [0] rfl)⟩) ?_
    rintro nx4 t3 a w ⟨hE, hm⟩ h
    refine nx_of hE hm h ?_
    clear hE hm h
    refine c_seq ?_
    refine c_region ?_
    refine o_lss st rfl rfl rfl ?_
    refine c_nil ?_
    refine l_then ?_
    refine c_seq ?_
    refine c_cond rfl ?_ ?_
    · refine c_skip ?_
      refine l_then ?_
      refine c_seq ?_
      refine c_block ?_
      refine c_seq ?_
      refine c_region ?_
      refine o_idx st 0 rfl (reads_snap hv1) rfl rfl rfl el23 ?_; intro e5 h6
      obtain ⟨_, ⟨v8, rfl, sl9⟩, rw7⟩ := sl_open hv1 h6
      refine o_ldR st (u := (.agg #[v8, (.bool e5.xAccept)])) 0 rfl rw7 rfl rfl ty87 rfl ?_
      refine stw (o_alloc rfl [(.slice none 0 0), (.bool false)] zero87 ?_); intro b11
      obtain ⟨a13, l14, q15, hs_⟩ := sl_val sl9; subst hs_
      refine stw (o_stc (cs' := [(.slice a13 l14 q15), (.bool e5.xAccept)]) 0 rfl rfl rfl ty87 rfl rfl rfl rfl ?_)
      refine c_nil ?_
      refine l_then ?_
      refine c_seq ?_
      refine c_region ?_
      refine o_fad st rfl rfl fld87_0 rfl ?_
      refine o_ldc st (v := (.agg #[(.slice a13 l14 q15)])) 0 rfl rfl rfl ty85 rfl ?_
      refine stw (o_callP (vs := [(.agg #[(.slice a13 l14 q15)])]) Tryd.call68 rfl rfl (by intro w m h; exact (w_impl_BoxValid (F := allB [] w) (b_0 := e5.xWhere) allB_ok (m.rd0 1 rfl (reads_snap sl9)) (m.rd0 1 rfl (reads_snap hgl0)) h).mono (fun _ _ k => ret_free (fun r u => fr_nil) k)) ?_); rintro r16 _
      refine o_not st rfl rfl ?_
      refine c_nil ?_
      refine l_then ?_
      refine c_cond rfl ?_ ?_
      · refine c_seq ?_
        refine c_region ?_
        refine o_as st rfl rfl ?_
        refine c_nil ?_
        refine l_then ?_
        refine c_ret ?_
        refine b_ret ?_
        refine l_ret ?_
        refine l_ret ?_
        refine b_ret ?_
        refine l_ret ?_
        exact l_end1 Tryd.results32 false () (rv_t rfl) (fun _ _ => NewCh.nil _ _ _ _)
      · refine c_skip ?_
        refine b_norm ?_
        refine l_then ?_
        refine c_region ?_
        refine o_add st rfl rfl rfl ?_; intro t17
        refine o_mv st rfl rfl ?_
        refine c_nil ?_
        exact l_join t17 (fun a w hE hm => ⟨hE.sub ⟨rfl, rfl, rfl, trivial⟩, (hm.pick [1] rfl)⟩)
    · refine c_exit ?_
      refine l_exit ?_
      refine l_exit ?_
      refine b_exit ?_
      refine l_then ?_
      refine c_seq ?_
      refine c_region ?_
      refine o_as st rfl rfl ?_
      refine c_nil ?_
      refine l_then ?_
      refine c_ret ?_
      exact l_end1 Tryd.results32 true () (rv_t rfl) (fun _ _ => NewCh.nil _ _ _ _)

set_option maxRecDepth 100000 in
set_option maxHeartbeats 8000000 in
theorem w_impl_sidesOf {w0 : World} {F : Nat → Prop} {v1 : Value} {b_0 : GBox} {κ : A4ListGSpan → Prop} (hF : ∀ b, F b → b < w0.heap.size ∧ ¬ feet [] b) (hv1 : Sl (elSl elGSpan) F w0 v1 b_0.xSides) (h : L_impl_sidesOf b_0 κ) :
    Calls Tryd.prog 69 #[(.agg #[v1])] w0 (Ret [] F w0 κ (fun (r : A4ListGSpan) (u : Value × Value × Value × Value) => (.agg #[u.1, u.2.1, u.2.2.1, u.2.2.2])) (fun (r : A4ListGSpan) (u : Value × Value × Value × Value) => [roCh elGSpan u.1 r.x0, roCh elGSpan u.2.1 r.x1, roCh elGSpan u.2.2.1 r.x2, roCh elGSpan u.2.2.2 r.x3])) := by
  refine enterS (args := [(.agg #[v1])]) [] hF (Given.nil _ _) Tryd.func69 rfl Tryd.ntmps69 rfl h ?_
  clear h hF
  refine c_seq ?_
  refine c_region ?_
  obtain ⟨a3, l4, q5, hs_⟩ := sl_val hv1; subst hs_
  refine stw (o_box rfl rfl [(.slice a3 l4 q5)] rfl ?_); intro b6
  refine stw (o_allocA (El' := (elSl elGSpan)) (z := ([] : (List GSpan))) (len := 4) (zs := [(.slice none 0 0)]) (fun F w => ⟨_, rfl, Sl.nil ..⟩) rfl zero114 rfl rfl ?_); intro b8
  refine c_nil ?_
  refine l_then ?_
  refine c_seq ?_
  refine c_region ?_
  refine o_fad st rfl rfl fld85_0 rfl ?_
  refine o_ldc st (v := (.slice a3 l4 q5)) 1 rfl rfl rfl ty83 rfl ?_
  refine o_s2a st 2 rfl (reads_snap hv1) rfl rfl arr114 rfl ?_; intro e10 e11 e12 e13 h14; obtain ⟨_, _, _, _, ⟨v15, rfl, sl19⟩, ⟨v16, rfl, sl20⟩, ⟨v17, rfl, sl21⟩, ⟨v18, rfl, sl22⟩, rw23⟩ := sl_open4 hv1 h14
  refine o_ldR st (u := (.agg #[v15, v16, v17, v18])) 2 rfl rw23 rfl rfl ty114 rfl ?_
  obtain ⟨a28, l29, q30, hs_⟩ := sl_val sl19; subst hs_
  obtain ⟨a31, l32, q33, hs_⟩ := sl_val sl20; subst hs_
  obtain ⟨a34, l35, q36, hs_⟩ := sl_val sl21; subst hs_
  obtain ⟨a37, l38, q39, hs_⟩ := sl_val sl22; subst hs_
  refine stw (o_stA (El' := (elSl elGSpan)) (len := 4) 0 rfl ([e10, e11, e12, e13]) ([[(.slice a28 l29 q30)], [(.slice a31 l32 q33)], [(.slice a34 l35 q36)], [(.slice a37 l38 q39)]]) (fun w m => ⟨⟨(.slice a28 l29 q30), rfl, (m.roS 2 rfl sl19)⟩, ⟨(.slice a31 l32 q33), rfl, (m.roS 2 rfl sl20)⟩, ⟨(.slice a34 l35 q36), rfl, (m.roS 2 rfl sl21)⟩, ⟨(.slice a37 l38 q39), rfl, (m.roS 2 rfl sl22)⟩, trivial⟩) rfl rfl rfl rfl rfl rfl ty114 rfl rfl ?_)
  refine c_nil ?_
  refine l_then ?_
  refine c_ret ?_
  refine nx_unarr 0 rfl rfl rfl (by decide) ?_
  rintro wr41 ff42 _ hrows_; obtain ⟨_, _, _, _, rfl, hc0_, hc1_, hc2_, hc3_⟩ := rows_l4 hrows_; obtain ⟨v44, rfl, sl45⟩ := hc0_; obtain ⟨v47, rfl, sl48⟩ := hc1_; obtain ⟨v50, rfl, sl51⟩ := hc2_; obtain ⟨v53, rfl, sl54⟩ := hc3_
  refine nx_note 0 rfl sl45 ?_
  refine nx_note 1 rfl sl48 ?_
  refine nx_note 2 rfl sl51 ?_
  refine nx_note 3 rfl sl54 ?_
  exact l_end1 Tryd.results69 (A4ListGSpan.mk e10 e11 e12 e13) (v44, v47, v50, v53) (rv_c 5 rfl rfl ty114 rfl) (fun w m => NewCh.ofB m [3, 2, 1, 0] rfl)

set_option maxRecDepth 100000 in
set_option maxHeartbeats 8000000 in
theorem w_spec_SpansValid {w0 : World} {F : Nat → Prop} {v1 : Value} {list_0 : (List GSpan)} {top_1 : Int} {κ : Bool → Prop} (hF : ∀ b, F b → b < w0.heap.size ∧ ¬ feet [] b) (hv1 : Sl elGSpan F w0 v1 list_0) (h : L_spec_SpansValid list_0 top_1 κ) :
    Calls Tryd.prog 99 #[v1, (.int .i64 top_1)] w0 (Ret [] F w0 κ (fun (r : Bool) (u : Unit) => (.bool r)) (fun (r : Bool) (u : Unit) => [])) := by
  refine enterS (args := [v1, (.int .i64 top_1)]) [] hF (Given.nil _ _) Tryd.func99 rfl Tryd.ntmps99 rfl h ?_
  clear h hF
  refine c_seq ?_
  refine c_region ?_
  refine o_as st rfl rfl ?_
  refine c_nil ?_
  refine l_then ?_
  refine c_seq ?_
  refine c_seq ?_
  refine c_region ?_
  refine o_as st rfl rfl ?_
  refine c_nil ?_
  refine l_then ?_
  refine c_block ?_
  refine c_loop (σ := Int) (fun (t3 : Int) (a : Act) (w : World) => Has 60 [(0, v1), (1, (.int .i64 top_1)), (5, (.int .i64 t3))] a ∧ Mem (gB F [] w0) (feet []) w0 [snapCh w0 F] w) (fun a w hE hm => ⟨hE.sub ⟨rfl, rfl, rfl, trivial⟩, (hm.pick [0] rfl)⟩) ?_
  rintro nx4 t3 a w ⟨hE, hm⟩ h
  refine nx_of hE hm h ?_
  clear hE hm h
  refine c_seq ?_
  refine c_seq ?_
  refine c_region ?_
  refine o_mv st rfl rfl ?_
  refine o_mv st rfl rfl ?_
  refine o_len st el72 0 rfl (reads_snap hv1) rfl rfl ?_
  refine o_lss st rfl rfl rfl ?_
  refine c_nil ?_
  refine l_then ?_
  refine c_cond rfl ?_ ?_
  · refine c_skip ?_
    refine l_then ?_
    refine c_seq ?_
    refine c_block ?_
    refine c_join (σ := Bool) (fun (t79 : Bool) (a : Act) (w : World) => Has 60 [(0, v1), (1, (.int .i64 top_1)), (5, (.int .i64 t3)), (52, (.bool t79))] a ∧ Mem (gB F [] w0) (feet []) w0 [snapCh w0 F] w) ?_ ?_
    · intro k80
      refine c_draw mixed 41 rfl [snapCh w0 F] ?_
      refine o_mv (dt 0 (fun _ m => m)) rfl rfl ?_
      refine o_mv (dt 1 (fun _ m => m)) rfl rfl ?_
      refine o_idx (dt 2 (fun _ m => m)) 0 rfl (reads_snap hv1) rfl rfl rfl el72 ?_; intro e5 h6
      refine o_fadS (dt 3 (fun _ m => m)) 0 rfl (reads_snap hv1) h6 rfl rfl fld71_0 rfl ?_
      refine o_lds (dt 4 (fun _ m => m)) (enc := encGSpan) (u := (.int .i64 e5.xLo)) 0 rfl (reads_snap hv1) flelGSpan rfl h6 rfl rfl ty3 rfl ?_
      refine o_mv (dt 5 (fun _ m => m)) rfl rfl ?_
      refine o_mv (dt 6 (fun _ m => m)) rfl rfl ?_
      refine o_idx (dt 7 (fun _ m => m)) 0 rfl (reads_snap hv1) rfl rfl rfl el72 ?_; intro e7 h8
      refine o_fadS (dt 8 (fun _ m => m)) 0 rfl (reads_snap hv1) h8 rfl rfl fld71_1 rfl ?_
      refine o_lds (dt 9 (fun _ m => m)) (enc := encGSpan) (u := (.int .i64 e7.xHi)) 0 rfl (reads_snap hv1) flelGSpan rfl h8 rfl rfl ty3 rfl ?_
      refine d_one (i := 10) rfl (by kernel_rfl) (o_callP (vs := [(.int .i64 e5.xLo), (.int .i64 0), (.int .i64 e7.xHi)]) Tryd.call74 rfl rfl (by intro w m h; exact (w_spec_l1In (F := allB [] w) (n_0 := e5.xLo) (lo_1 := 0) (hi_2 := e7.xHi) allB_ok h).mono (fun _ _ k => ret_free (fun r u => fr_nil) k)) ?_); rintro r9 _
      refine d_and (fun _ m => m) ?_
      refine o_not (dt 11 (fun _ m => m)) rfl rfl ?_
      refine o_mv (dt 12 (fun _ m => m)) rfl rfl ?_
      refine st_sp (dj := 24) rfl ?_ ?_
      · refine dsk 13 (fun _ m => m) rfl (by kernel_rfl) rfl rfl rfl rfl ?_
        refine dsk 14 (fun _ m => m) rfl (by kernel_rfl) rfl rfl rfl rfl ?_
        refine dsk 15 (fun _ m => m) rfl (by kernel_rfl) rfl rfl rfl rfl ?_
        refine dsk 16 (fun _ m => m) rfl (by kernel_rfl) rfl rfl rfl rfl ?_
        refine dsk 17 (fun _ m => m) rfl (by kernel_rfl) rfl rfl rfl rfl ?_
        refine dsk 18 (fun _ m => m) rfl (by kernel_rfl) rfl rfl rfl rfl ?_
        refine dsk 19 (fun _ m => m) rfl (by kernel_rfl) rfl rfl rfl rfl ?_
        refine dsk 20 (fun _ m => m) rfl (by kernel_rfl) rfl rfl rfl rfl ?_
        refine o_pickT (dt 21 (fun _ m => m)) rfl rfl rfl ?_
        refine o_mv (dt 22 (fun _ m => m)) rfl rfl ?_
        refine dsk 23 (fun _ m => m) rfl (by kernel_rfl) rfl rfl rfl rfl ?_
        refine dsk 24 (fun _ m => m) rfl (by kernel_rfl) rfl rfl rfl rfl ?_
        refine dsk 25 (fun _ m => m) rfl (by kernel_rfl) rfl rfl rfl rfl ?_
        refine dsk 26 (fun _ m => m) rfl (by kernel_rfl) rfl rfl rfl rfl ?_
        refine dsk 27 (fun _ m => m) rfl (by kernel_rfl) rfl rfl rfl rfl ?_
        refine dsk 28 (fun _ m => m) rfl (by kernel_rfl) rfl rfl rfl rfl ?_
        refine dsk 29 (fun _ m => m) rfl (by kernel_rfl) rfl rfl rfl rfl ?_
        refine dsk 30 (fun _ m => m) rfl (by kernel_rfl) rfl rfl rfl rfl ?_
        refine dsk 31 (fun _ m => m) rfl (by kernel_rfl) rfl rfl rfl rfl ?_
        refine dsk 32 (fun _ m => m) rfl (by kernel_rfl) rfl rfl rfl rfl ?_
        refine dsk 33 (fun _ m => m) rfl (by kernel_rfl) rfl rfl rfl rfl ?_
        refine dsk 34 (fun _ m => m) rfl (by kernel_rfl) rfl rfl rfl rfl ?_
        refine dsk 35 (fun _ m => m) rfl (by kernel_rfl) rfl rfl rfl rfl ?_
        refine dsk 36 (fun _ m => m) rfl (by kernel_rfl) rfl rfl rfl rfl ?_
        refine dsk 37 (fun _ m => m) rfl (by kernel_rfl) rfl rfl rfl rfl ?_
        refine dsk 38 (fun _ m => m) rfl (by kernel_rfl) rfl rfl rfl rfl ?_
        refine dsk 39 (fun _ m => m) rfl (by kernel_rfl) rfl rfl rfl rfl ?_
        refine o_pickT (dt 40 (fun _ m => m)) rfl rfl rfl ?_
        refine d_done (by kernel_rfl) ?_
        exact l_join true (fun a w hE hm => ⟨hE.sub ⟨rfl, rfl, rfl, rfl, trivial⟩, (hm.pick [0] rfl)⟩)
      · refine o_mv (dtg 13 (fun _ m => m)) rfl rfl ?_
        refine o_mv (dtg 14 (fun _ m => m)) rfl rfl ?_
        refine o_idx (dtg 15 (fun _ m => m)) 0 rfl (reads_snap hv1) rfl rfl rfl el72 ?_; intro e10 h11
        refine o_fadS (dtg 16 (fun _ m => m)) 0 rfl (reads_snap hv1) h11 rfl rfl fld71_1 rfl ?_
        refine o_lds (dtg 17 (fun _ m => m)) (enc := encGSpan) (u := (.int .i64 e10.xHi)) 0 rfl (reads_snap hv1) flelGSpan rfl h11 rfl rfl ty3 rfl ?_
        refine o_mv (dtg 18 (fun _ m => m)) rfl rfl ?_
        refine d_oneg (i := 19) rfl rfl rfl (by kernel_rfl) (o_callP (vs := [(.int .i64 e10.xHi), (.int .i64 0), (.int .i64 top_1)]) Tryd.call74 rfl rfl (by intro w m h; exact (w_spec_l1In (F := allB [] w) (n_0 := e10.xHi) (lo_1 := 0) (hi_2 := top_1) allB_ok h).mono (fun _ _ k => ret_free (fun r u => fr_nil) k)) ?_); rintro r12 _
        refine d_and (fun _ m => m) ?_
        refine o_not (dtg 20 (fun _ m => m)) rfl rfl ?_
        refine o_pickF (dt 21 (fun _ m => m)) rfl rfl rfl ?_
        refine o_mv (dt 22 (fun _ m => m)) rfl rfl ?_
        refine st_sp (dj := 34) rfl ?_ ?_
        · refine dsk 23 (fun _ m => m) rfl (by kernel_rfl) rfl rfl rfl rfl ?_
          refine dsk 24 (fun _ m => m) rfl (by kernel_rfl) rfl rfl rfl rfl ?_
          refine dsk 25 (fun _ m => m) rfl (by kernel_rfl) rfl rfl rfl rfl ?_
          refine dsk 26 (fun _ m => m) rfl (by kernel_rfl) rfl rfl rfl rfl ?_
          refine dsk 27 (fun _ m => m) rfl (by kernel_rfl) rfl rfl rfl rfl ?_
          refine dsk 28 (fun _ m => m) rfl (by kernel_rfl) rfl rfl rfl rfl ?_
          refine dsk 29 (fun _ m => m) rfl (by kernel_rfl) rfl rfl rfl rfl ?_
          refine dsk 30 (fun _ m => m) rfl (by kernel_rfl) rfl rfl rfl rfl ?_
          refine dsk 31 (fun _ m => m) rfl (by kernel_rfl) rfl rfl rfl rfl ?_
          refine dsk 32 (fun _ m => m) rfl (by kernel_rfl) rfl rfl rfl rfl ?_
          refine dsk 33 (fun _ m => m) rfl (by kernel_rfl) rfl rfl rfl rfl ?_
          refine dsk 34 (fun _ m => m) rfl (by kernel_rfl) rfl rfl rfl rfl ?_
          refine dsk 35 (fun _ m => m) rfl (by kernel_rfl) rfl rfl rfl rfl ?_
          refine dsk 36 (fun _ m => m) rfl (by kernel_rfl) rfl rfl rfl rfl ?_
          refine dsk 37 (fun _ m => m) rfl (by kernel_rfl) rfl rfl rfl rfl ?_
          refine dsk 38 (fun _ m => m) rfl (by kernel_rfl) rfl rfl rfl rfl ?_
          refine dsk 39 (fun _ m => m) rfl (by kernel_rfl) rfl rfl rfl rfl ?_
          refine o_pickT (dt 40 (fun _ m => m)) rfl rfl rfl ?_
          refine d_done (by kernel_rfl) ?_
          exact l_join true (fun a w hE hm => ⟨hE.sub ⟨rfl, rfl, rfl, rfl, trivial⟩, (hm.pick [0] rfl)⟩)
        · refine o_mv (dtg 23 (fun _ m => m)) rfl rfl ?_
          refine o_gtr (dtg 24 (fun _ m => m)) rfl rfl rfl ?_
          refine o_mv (dtg 25 (fun _ m => m)) rfl rfl ?_
          refine st_sp (dj := 37) rfl ?_ ?_
          · refine o_mv (dtg 26 (fun _ m => m)) rfl rfl ?_
            refine o_mv (dtg 27 (fun _ m => m)) rfl rfl ?_
            refine o_idx (dtg 28 (fun _ m => m)) 0 rfl (reads_snap hv1) rfl rfl rfl el72 ?_; intro e13 h14
            refine o_fadS (dtg 29 (fun _ m => m)) 0 rfl (reads_snap hv1) h14 rfl rfl fld71_0 rfl ?_
            refine o_lds (dtg 30 (fun _ m => m)) (enc := encGSpan) (u := (.int .i64 e13.xLo)) 0 rfl (reads_snap hv1) flelGSpan rfl h14 rfl rfl ty3 rfl ?_
            refine o_mv (dtg 31 (fun _ m => m)) rfl rfl ?_
            refine o_mv (dtg 32 (fun _ m => m)) rfl rfl ?_
            refine o_sub (dtg 33 (fun _ m => m)) rfl rfl rfl ?_; intro t15
            refine o_idx (dtg 34 (fun _ m => m)) 0 rfl (reads_snap hv1) rfl rfl rfl el72 ?_; intro e16 h17
            refine o_fadS (dtg 35 (fun _ m => m)) 0 rfl (reads_snap hv1) h17 rfl rfl fld71_1 rfl ?_
            refine o_lds (dtg 36 (fun _ m => m)) (enc := encGSpan) (u := (.int .i64 e16.xHi)) 0 rfl (reads_snap hv1) flelGSpan rfl h17 rfl rfl ty3 rfl ?_
            refine o_add (dtg 37 (fun _ m => m)) rfl rfl rfl ?_; intro t18
            refine o_lss (dtg 38 (fun _ m => m)) rfl rfl rfl ?_
            refine o_pickT (dtg 39 (fun _ m => m)) rfl rfl rfl ?_
            refine o_pickF (dt 40 (fun _ m => m)) rfl rfl rfl ?_
            refine d_done (by kernel_rfl) ?_
            exact l_join (decide (e13.xLo < t18)) (fun a w hE hm => ⟨hE.sub ⟨rfl, rfl, rfl, rfl, trivial⟩, (hm.pick [0] rfl)⟩)
          · refine dsk 26 (fun _ m => m) rfl (by kernel_rfl) rfl rfl rfl rfl ?_
            refine dsk 27 (fun _ m => m) rfl (by kernel_rfl) rfl rfl rfl rfl ?_
            refine dsk 28 (fun _ m => m) rfl (by kernel_rfl) rfl rfl rfl rfl ?_
            refine dsk 29 (fun _ m => m) rfl (by kernel_rfl) rfl rfl rfl rfl ?_
            refine dsk 30 (fun _ m => m) rfl (by kernel_rfl) rfl rfl rfl rfl ?_
            refine dsk 31 (fun _ m => m) rfl (by kernel_rfl) rfl rfl rfl rfl ?_
            refine dsk 32 (fun _ m => m) rfl (by kernel_rfl) rfl rfl rfl rfl ?_
            refine dsk 33 (fun _ m => m) rfl (by kernel_rfl) rfl rfl rfl rfl ?_
            refine dsk 34 (fun _ m => m) rfl (by kernel_rfl) rfl rfl rfl rfl ?_
            refine dsk 35 (fun _ m => m) rfl (by kernel_rfl) rfl rfl rfl rfl ?_
            refine dsk 36 (fun _ m => m) rfl (by kernel_rfl) rfl rfl rfl rfl ?_
            refine dsk 37 (fun _ m => m) rfl (by kernel_rfl) rfl rfl rfl rfl ?_
            refine dsk 38 (fun _ m => m) rfl (by kernel_rfl) rfl rfl rfl rfl ?_
            refine o_pickF (dtg 39 (fun _ m => m)) rfl rfl rfl ?_
            refine o_pickF (dt 40 (fun _ m => m)) rfl rfl rfl ?_
            refine d_done (by kernel_rfl) ?_
            exact l_join false (fun a w hE hm => ⟨hE.sub ⟨rfl, rfl, rfl, rfl, trivial⟩, (hm.pick [0] rfl)⟩)
    · rintro t79 a w ⟨hE, hm⟩ h
      refine nx_of hE hm h ?_
      clear hE hm h
      refine c_cond rfl ?_ ?_
      · refine c_seq ?_
        refine c_region ?_
        refine o_as st rfl rfl ?_
        refine c_nil ?_
        refine l_then ?_
        refine c_ret ?_
        refine b_ret ?_
        refine l_ret ?_
        refine l_ret ?_
        refine b_ret ?_
        refine l_ret ?_
        exact l_end1 Tryd.results99 false () (rv_t rfl) (fun _ _ => NewCh.nil _ _ _ _)
      · refine c_skip ?_
        refine b_norm ?_
        refine l_then ?_
        refine c_region ?_
        refine o_mv st rfl rfl ?_
        refine o_add st rfl rfl rfl ?_; intro t81
        refine o_as st rfl rfl ?_
        refine c_nil ?_
        exact l_join t81 (fun a w hE hm => ⟨hE.sub ⟨rfl, rfl, rfl, trivial⟩, (hm.pick [0] rfl)⟩)
  · refine c_exit ?_
    refine l_exit ?_
    refine l_exit ?_
    refine b_exit ?_
    refine l_then ?_
    refine c_join (σ := Bool) (fun (t143 : Bool) (a : Act) (w : World) => Has 60 [(4, (.bool t143))] a ∧ Mem (gB F [] w0) (feet []) w0 [] w) ?_ ?_
    · intro k144
      refine c_region ?_
      refine o_mv st rfl rfl ?_
      refine stw (o_callP (vs := [(.int .i64 top_1), (.int .i64 0), (.int .i64 65535)]) Tryd.call74 rfl rfl (by intro w m h; exact (w_spec_l1In (F := allB [] w) (n_0 := top_1) (lo_1 := 0) (hi_2 := 65535) allB_ok h).mono (fun _ _ k => ret_free (fun r u => fr_nil) k)) ?_); rintro r82 _
      refine o_mv st rfl rfl ?_
      refine st_sp (dj := 55) rfl ?_ ?_
      · refine o_mv (st_g rfl rfl) rfl rfl ?_
        refine o_len (st_g rfl rfl) el72 0 rfl (reads_snap hv1) rfl rfl ?_
        refine o_leq (st_g rfl rfl) rfl rfl rfl ?_
        refine o_pickT st rfl rfl rfl ?_
        refine o_as st rfl rfl ?_
        refine c_nil ?_
        exact l_join (decide ((list_0.length : Int) ≤ 40)) (fun a w hE hm => ⟨hE.sub ⟨rfl, trivial⟩, (hm.pick [] rfl)⟩)
      · refine st_s rfl rfl rfl rfl ?_
        refine st_s rfl rfl rfl rfl ?_
        refine st_s rfl rfl rfl rfl ?_
        refine o_pickF st rfl rfl rfl ?_
        refine o_as st rfl rfl ?_
        refine c_nil ?_
        exact l_join false (fun a w hE hm => ⟨hE.sub ⟨rfl, trivial⟩, (hm.pick [] rfl)⟩)
    · rintro t143 a w ⟨hE, hm⟩ h
      refine nx_of hE hm h ?_
      clear hE hm h
      refine c_ret ?_
      exact l_end1 Tryd.results99 t143 () (rv_t rfl) (fun _ _ => NewCh.nil _ _ _ _)

set_option maxRecDepth 100000 in
set_option maxHeartbeats 8000000 in
theorem w_spec_BoxValid {w0 : World} {F : Nat → Prop} {v1 : Value} {b_0 : GBox} {κ : Bool → Prop} (hF : ∀ b, F b → b < w0.heap.size ∧ ¬ feet [] b) (hv1 : Sl (elSl elGSpan) F w0 v1 b_0.xSides) (h : L_spec_BoxValid b_0 κ) :
    Calls Tryd.prog 73 #[(.agg #[v1])] w0 (Ret [] F w0 κ (fun (r : Bool) (u : Unit) => (.bool r)) (fun (r : Bool) (u : Unit) => [])) := by
  refine enterS (args := [(.agg #[v1])]) [] hF (Given.nil _ _) Tryd.func73 rfl Tryd.ntmps73 rfl h ?_
  clear h hF
  refine c_seq ?_
  refine c_region ?_
  obtain ⟨a3, l4, q5, hs_⟩ := sl_val hv1; subst hs_
  refine stw (o_box rfl rfl [(.slice a3 l4 q5)] rfl ?_); intro b6
  refine o_as st rfl rfl ?_
  refine c_nil ?_
  refine l_then ?_
  refine c_seq ?_
  refine c_seq ?_
  refine c_region ?_
  refine o_as st rfl rfl ?_
  refine c_nil ?_
  refine l_then ?_
  refine c_block ?_
  refine c_loop (σ := Int) (fun (t8 : Int) (a : Act) (w : World) => Has 28 [(1, (.pointer (some ⟨b6, 0, none⟩))), (3, (.int .i64 t8))] a ∧ Mem (gB F [] w0) (feet []) w0 [cellCh b6 [(.slice a3 l4 q5)] 85, snapCh w0 F] w) (fun a w hE hm => ⟨hE.sub ⟨rfl, rfl, trivial⟩, (hm.pick [0, 1] rfl)⟩) ?_
  rintro nx9 t8 a w ⟨hE, hm⟩ h
  refine nx_of hE hm h ?_
  clear hE hm h
  refine c_seq ?_
  refine c_seq ?_
  refine c_region ?_
  refine o_mv st rfl rfl ?_
  refine o_fad st rfl rfl fld85_0 rfl ?_
  refine o_ldc st (v := (.slice a3 l4 q5)) 0 rfl rfl rfl ty83 rfl ?_
  refine o_len st el83 1 rfl (reads_snap hv1) rfl rfl ?_
  refine o_lss st rfl rfl rfl ?_
  refine c_nil ?_
  refine l_then ?_
  refine c_cond rfl ?_ ?_
  · refine c_skip ?_
    refine l_then ?_
    refine c_seq ?_
    refine c_block ?_
    refine c_join (σ := Bool) (fun (t78 : Bool) (a : Act) (w : World) => Has 28 [(1, (.pointer (some ⟨b6, 0, none⟩))), (3, (.int .i64 t8)), (23, (.bool t78))] a ∧ Mem (gB F [] w0) (feet []) w0 [cellCh b6 [(.slice a3 l4 q5)] 85, snapCh w0 F] w) ?_ ?_
    · intro k79
      refine c_draw mixed 13 rfl [cellCh b6 [(.slice a3 l4 q5)] 85, snapCh w0 F] ?_
      refine o_mv (dt 0 (fun _ m => m)) rfl rfl ?_
      refine o_geq (dt 1 (fun _ m => m)) rfl rfl rfl ?_
      refine o_mv (dt 2 (fun _ m => m)) rfl rfl ?_
      refine st_sp (dj := 13) rfl ?_ ?_
      · refine dsk 3 (fun _ m => m) rfl (by kernel_rfl) rfl rfl rfl rfl ?_
        refine dsk 4 (fun _ m => m) rfl (by kernel_rfl) rfl rfl rfl rfl ?_
        refine dsk 5 (fun _ m => m) rfl (by kernel_rfl) rfl rfl rfl rfl ?_
        refine dsk 6 (fun _ m => m) rfl (by kernel_rfl) rfl rfl rfl rfl ?_
        refine dsk 7 (fun _ m => m) rfl (by kernel_rfl) rfl rfl rfl rfl ?_
        refine dsk 8 (fun _ m => m) rfl (by kernel_rfl) rfl rfl rfl rfl ?_
        refine dsk 9 (fun _ m => m) rfl (by kernel_rfl) rfl rfl rfl rfl ?_
        refine dsk 10 (fun _ m => m) rfl (by kernel_rfl) rfl rfl rfl rfl ?_
        refine dsk 11 (fun _ m => m) rfl (by kernel_rfl) rfl rfl rfl rfl ?_
        refine o_pickT (dt 12 (fun _ m => m)) rfl rfl rfl ?_
        refine d_done (by kernel_rfl) ?_
        exact l_join true (fun a w hE hm => ⟨hE.sub ⟨rfl, rfl, rfl, trivial⟩, (hm.pick [0, 1] rfl)⟩)
      · refine o_fad (dtg 3 (fun _ m => m)) rfl rfl fld85_0 rfl ?_
        refine o_ldc (dtg 4 (fun _ m => m)) (v := (.slice a3 l4 q5)) 0 rfl rfl rfl ty83 rfl ?_
        refine o_mv (dtg 5 (fun _ m => m)) rfl rfl ?_
        refine o_idx (dtg 6 (fun _ m => m)) 1 rfl (reads_snap hv1) rfl rfl rfl el83 ?_; intro e10 h11
        obtain ⟨_, ⟨v13, rfl, sl14⟩, rw12⟩ := sl_open hv1 h11
        refine o_ldR (dtg 7 (fun _ m => m)) (u := v13) 1 rfl rw12 rfl rfl ty72 rfl ?_
        refine o_mv (dtg 8 (fun _ m => m)) rfl rfl ?_
        refine d_oneg (i := 9) rfl rfl rfl (by kernel_rfl) (o_callP (vs := [(.int .i64 t8)]) Tryd.call63 rfl rfl (by intro w m h; exact (w_spec_FieldTop (F := allB [] w) (n_0 := t8) allB_ok h).mono (fun _ _ k => ret_free (fun r u => fr_nil) k)) ?_); rintro r16 _
        refine d_and (fun _ m => m) ?_
        refine d_oneg (i := 10) rfl rfl rfl (by kernel_rfl) (o_callP (vs := [v13, (.int .i64 r16)]) Tryd.call99 rfl rfl (by intro w m h; exact (w_spec_SpansValid (F := allB [] w) (list_0 := e10) (top_1 := r16) allB_ok (m.rd0 1 rfl (reads_snap sl14)) h).mono (fun _ _ k => ret_free (fun r u => fr_nil) k)) ?_); rintro r17 _
        refine d_and (fun _ m => m) ?_
        refine o_not (dtg 11 (fun _ m => m)) rfl rfl ?_
        refine o_pickF (dt 12 (fun _ m => m)) rfl rfl rfl ?_
        refine d_done (by kernel_rfl) ?_
        exact l_join (!r17) (fun a w hE hm => ⟨hE.sub ⟨rfl, rfl, rfl, trivial⟩, (hm.pick [0, 1] rfl)⟩)
    · rintro t78 a w ⟨hE, hm⟩ h
      refine nx_of hE hm h ?_
      clear hE hm h
      refine c_cond rfl ?_ ?_
      · refine c_seq ?_
        refine c_region ?_
        refine o_as st rfl rfl ?_
        refine c_nil ?_
        refine l_then ?_
        refine c_ret ?_
        refine b_ret ?_
        refine l_ret ?_
        refine l_ret ?_
        refine b_ret ?_
        refine l_ret ?_
        exact l_end1 Tryd.results73 false () (rv_t rfl) (fun _ _ => NewCh.nil _ _ _ _)
      · refine c_skip ?_
        refine b_norm ?_
        refine l_then ?_
        refine c_region ?_
        refine o_mv st rfl rfl ?_
        refine o_add st rfl rfl rfl ?_; intro t80
        refine o_as st rfl rfl ?_
        refine c_nil ?_
        exact l_join t80 (fun a w hE hm => ⟨hE.sub ⟨rfl, rfl, trivial⟩, (hm.pick [0, 1] rfl)⟩)
  · refine c_exit ?_
    refine l_exit ?_
    refine l_exit ?_
    refine b_exit ?_
    refine l_then ?_
    refine c_seq ?_
    refine c_region ?_
    refine o_fad st rfl rfl fld85_0 rfl ?_
    refine o_ldc st (v := (.slice a3 l4 q5)) 0 rfl rfl rfl ty83 rfl ?_
    refine o_len st el83 1 rfl (reads_snap hv1) rfl rfl ?_
    refine o_eql st und3 rfl rfl rfl ?_
    refine o_as st rfl rfl ?_
    refine c_nil ?_
    refine l_then ?_
    refine c_ret ?_
    exact l_end1 Tryd.results73 (decide ((b_0.xSides.length : Int) = 4)) () (rv_t rfl) (fun _ _ => NewCh.nil _ _ _ _)

set_option maxRecDepth 100000 in
set_option maxHeartbeats 8000000 in
theorem w_spec_FlatsValid {w0 : World} {F : Nat → Prop} {v1 : Value} {list_0 : (List GFlat)} {κ : Bool → Prop} (hF : ∀ b, F b → b < w0.heap.size ∧ ¬ feet [] b) (hv1 : Sl elGFlat F w0 v1 list_0) (h : L_spec_FlatsValid list_0 κ) :
    Calls Tryd.prog 36 #[v1] w0 (Ret [] F w0 κ (fun (r : Bool) (u : Unit) => (.bool r)) (fun (r : Bool) (u : Unit) => [])) := by
  refine enterS (args := [v1]) [] hF (Given.nil _ _) Tryd.func36 rfl Tryd.ntmps36 rfl h ?_
  clear h hF
  refine c_seq ?_
  refine c_region ?_
  refine o_as st rfl rfl ?_
  refine c_nil ?_
  refine l_then ?_
  refine c_seq ?_
  refine c_seq ?_
  refine c_region ?_
  refine o_as st rfl rfl ?_
  refine c_nil ?_
  refine l_then ?_
  refine c_block ?_
  refine c_loop (σ := Int) (fun (t3 : Int) (a : Act) (w : World) => Has 20 [(0, v1), (3, (.int .i64 t3))] a ∧ Mem (gB F [] w0) (feet []) w0 [snapCh w0 F] w) (fun a w hE hm => ⟨hE.sub ⟨rfl, rfl, trivial⟩, (hm.pick [0] rfl)⟩) ?_
  rintro nx4 t3 a w ⟨hE, hm⟩ h
  refine nx_of hE hm h ?_
  clear hE hm h
  refine c_seq ?_
  refine c_seq ?_
  refine c_region ?_
  refine o_mv st rfl rfl ?_
  refine o_mv st rfl rfl ?_
  refine o_len st el23 0 rfl (reads_snap hv1) rfl rfl ?_
  refine o_lss st rfl rfl rfl ?_
  refine c_nil ?_
  refine l_then ?_
  refine c_cond rfl ?_ ?_
  · refine c_skip ?_
    refine l_then ?_
    refine c_seq ?_
    refine c_block ?_
    refine c_seq ?_
    refine c_region ?_
    refine o_mv st rfl rfl ?_
    refine o_mv st rfl rfl ?_
    refine o_idx st 0 rfl (reads_snap hv1) rfl rfl rfl el23 ?_; intro e5 h6
    refine o_fadS st 0 rfl (reads_snap hv1) h6 rfl rfl fld87_0 rfl ?_
    obtain ⟨_, ⟨v8, rfl, sl9⟩, rw7⟩ := sl_open hv1 h6
    refine o_ldR st (u := (.agg #[v8])) 0 rfl rw7 rfl rfl ty85 rfl ?_
    refine stw (o_callP (vs := [(.agg #[v8])]) Tryd.call73 rfl rfl (by intro w m h; exact (w_spec_BoxValid (F := allB [] w) (b_0 := e5.xWhere) allB_ok (m.rd0 0 rfl (reads_snap sl9)) h).mono (fun _ _ k => ret_free (fun r u => fr_nil) k)) ?_); rintro r11 _
    refine o_not st rfl rfl ?_
    refine c_nil ?_
    refine l_then ?_
    refine c_cond rfl ?_ ?_
    · refine c_seq ?_
      refine c_region ?_
      refine o_as st rfl rfl ?_
      refine c_nil ?_
      refine l_then ?_
      refine c_ret ?_
      refine b_ret ?_
      refine l_ret ?_
      refine l_ret ?_
      refine b_ret ?_
      refine l_ret ?_
      exact l_end1 Tryd.results36 false () (rv_t rfl) (fun _ _ => NewCh.nil _ _ _ _)
    · refine c_skip ?_
      refine b_norm ?_
      refine l_then ?_
      refine c_region ?_
      refine o_mv st rfl rfl ?_
      refine o_add st rfl rfl rfl ?_; intro t12
      refine o_as st rfl rfl ?_
      refine c_nil ?_
      exact l_join t12 (fun a w hE hm => ⟨hE.sub ⟨rfl, rfl, trivial⟩, (hm.pick [0] rfl)⟩)
  · refine c_exit ?_
    refine l_exit ?_
    refine l_exit ?_
    refine b_exit ?_
    refine l_then ?_
    refine c_seq ?_
    refine c_region ?_
    refine o_mv st rfl rfl ?_
    refine o_len st el23 0 rfl (reads_snap hv1) rfl rfl ?_
    refine o_leq st rfl rfl rfl ?_
    refine o_as st rfl rfl ?_
    refine c_nil ?_
    refine l_then ?_
    refine c_ret ?_
    exact l_end1 Tryd.results36 (decide ((list_0.length : Int) ≤ 60)) () (rv_t rfl) (fun _ _ => NewCh.nil _ _ _ _)

set_option maxRecDepth 100000 in
set_option maxHeartbeats 8000000 in
theorem w_laws_szSpanS {w0 : World} {F : Nat → Prop} {v1 : Value} {a_0 : (List GSpan)} {left_1 : Int} {κ : Int → Prop} (hF : ∀ b, F b → b < w0.heap.size ∧ ¬ feet [] b) (hv1 : Sl elGSpan F w0 v1 a_0) (h : L_laws_szSpanS a_0 left_1 κ) :
    Calls Tryd.prog 120 #[v1, (.int .i64 left_1)] w0 (Ret [] F w0 κ (fun (r : Int) (u : Unit) => (.int .i64 r)) (fun (r : Int) (u : Unit) => [])) := by
  refine enterS (args := [v1, (.int .i64 left_1)]) [] hF (Given.nil _ _) Tryd.func120 rfl Tryd.ntmps120 rfl h ?_
  clear h hF
  refine c_seq ?_
  refine c_region ?_
  refine o_as st rfl rfl ?_
  refine c_nil ?_
  refine l_then ?_
  refine c_seq ?_
  refine c_region ?_
  refine o_mv st rfl rfl ?_
  refine o_mv st rfl rfl ?_
  refine o_len st el176 0 rfl (reads_snap hv1) rfl rfl ?_
  refine o_sub st rfl rfl rfl ?_; intro t3
  refine o_as st rfl rfl ?_
  refine c_nil ?_
  refine l_then ?_
  refine c_seq ?_
  refine c_seq ?_
  refine c_region ?_
  refine o_mv st rfl rfl ?_
  refine o_lss st rfl rfl rfl ?_
  refine c_nil ?_
  refine l_then ?_
  refine c_cond rfl ?_ ?_
  · refine c_seq ?_
    refine c_region ?_
    refine o_as st rfl rfl ?_
    refine c_nil ?_
    refine l_then ?_
    refine c_ret ?_
    refine l_ret ?_
    exact l_end1 Tryd.results120 (-1) () (rv_t rfl) (fun _ _ => NewCh.nil _ _ _ _)
  · refine c_skip ?_
    refine l_then ?_
    refine c_seq ?_
    refine c_region ?_
    refine o_mv st rfl rfl ?_
    refine o_as st rfl rfl ?_
    refine c_nil ?_
    refine l_then ?_
    refine c_ret ?_
    exact l_end1 Tryd.results120 t3 () (rv_t rfl) (fun _ _ => NewCh.nil _ _ _ _)

set_option maxRecDepth 100000 in
set_option maxHeartbeats 8000000 in
theorem w_laws_szSpanSS {w0 : World} {F : Nat → Prop} {v1 : Value} {a_0 : (List (List GSpan))} {left_1 : Int} {κ : Int → Prop} (hF : ∀ b, F b → b < w0.heap.size ∧ ¬ feet [] b) (hv1 : Sl (elSl elGSpan) F w0 v1 a_0) (h : L_laws_szSpanSS a_0 left_1 κ) :
    Calls Tryd.prog 102 #[v1, (.int .i64 left_1)] w0 (Ret [] F w0 κ (fun (r : Int) (u : Unit) => (.int .i64 r)) (fun (r : Int) (u : Unit) => [])) := by
  refine enterS (args := [v1, (.int .i64 left_1)]) [] hF (Given.nil _ _) Tryd.func102 rfl Tryd.ntmps102 rfl h ?_
  clear h hF
  refine c_seq ?_
  refine c_region ?_
  refine o_as st rfl rfl ?_
  refine c_nil ?_
  refine l_then ?_
  refine c_seq ?_
  refine c_region ?_
  refine o_mv st rfl rfl ?_
  refine o_mv st rfl rfl ?_
  refine o_len st el74 0 rfl (reads_snap hv1) rfl rfl ?_
  refine o_sub st rfl rfl rfl ?_; intro t3
  refine o_as st rfl rfl ?_
  refine c_nil ?_
  refine l_then ?_
  refine c_seq ?_
  refine c_seq ?_
  refine c_region ?_
  refine o_mv st rfl rfl ?_
  refine o_lss st rfl rfl rfl ?_
  refine c_nil ?_
  refine l_then ?_
  refine c_cond rfl ?_ ?_
  · refine c_seq ?_
    refine c_region ?_
    refine o_as st rfl rfl ?_
    refine c_nil ?_
    refine l_then ?_
    refine c_ret ?_
    refine l_ret ?_
    exact l_end1 Tryd.results102 (-1) () (rv_t rfl) (fun _ _ => NewCh.nil _ _ _ _)
  · refine c_skip ?_
    refine l_then ?_
    refine c_seq ?_
    refine c_seq ?_
    refine c_region ?_
    refine o_as st rfl rfl ?_
    refine c_nil ?_
    refine l_then ?_
    refine c_block ?_
    refine c_loop (σ := (Int × Int)) (fun ((t4, t5) : (Int × Int)) (a : Act) (w : World) => Has 27 [(0, v1), (1, (.int .i64 t4)), (5, (.int .i64 t5))] a ∧ Mem (gB F [] w0) (feet []) w0 [snapCh w0 F] w) (fun a w hE hm => ⟨hE.sub ⟨rfl, rfl, rfl, trivial⟩, (hm.pick [0] rfl)⟩) ?_
    rintro nx6 ⟨t4, t5⟩ a w ⟨hE, hm⟩ h
    refine nx_of hE hm h ?_
    clear hE hm h
    refine c_seq ?_
    refine c_seq ?_
    refine c_region ?_
    refine o_mv st rfl rfl ?_
    refine o_mv st rfl rfl ?_
    refine o_len st el74 0 rfl (reads_snap hv1) rfl rfl ?_
    refine o_lss st rfl rfl rfl ?_
    refine c_nil ?_
    refine l_then ?_
    refine c_cond rfl ?_ ?_
    · refine c_skip ?_
      refine l_then ?_
      refine c_seq ?_
      refine c_block ?_
      refine c_seq ?_
      refine c_region ?_
      refine o_mv st rfl rfl ?_
      refine o_mv st rfl rfl ?_
      refine o_idx st 0 rfl (reads_snap hv1) rfl rfl rfl el74 ?_; intro e7 h8
      obtain ⟨_, ⟨v10, rfl, sl11⟩, rw9⟩ := sl_open hv1 h8
      refine o_ldR st (u := v10) 0 rfl rw9 rfl rfl ty176 rfl ?_
      refine o_mv st rfl rfl ?_
      refine stw (o_callP (vs := [v10, (.int .i64 t4)]) Tryd.call120 rfl rfl (by intro w m h; exact (w_laws_szSpanS (F := allB [] w) (a_0 := e7) (left_1 := t4) allB_ok (m.rd0 0 rfl (reads_snap sl11)) h).mono (fun _ _ k => ret_free (fun r u => fr_nil) k)) ?_); rintro r13 _
      refine o_as st rfl rfl ?_
      refine c_nil ?_
      refine l_then ?_
      refine c_seq ?_
      refine c_region ?_
      refine o_mv st rfl rfl ?_
      refine o_lss st rfl rfl rfl ?_
      refine c_nil ?_
      refine l_then ?_
      refine c_cond rfl ?_ ?_
      · refine c_seq ?_
        refine c_region ?_
        refine o_as st rfl rfl ?_
        refine c_nil ?_
        refine l_then ?_
        refine c_ret ?_
        refine b_ret ?_
        refine l_ret ?_
        refine l_ret ?_
        refine b_ret ?_
        refine l_ret ?_
        exact l_end1 Tryd.results102 (-1) () (rv_t rfl) (fun _ _ => NewCh.nil _ _ _ _)
      · refine c_skip ?_
        refine b_norm ?_
        refine l_then ?_
        refine c_region ?_
        refine o_mv st rfl rfl ?_
        refine o_add st rfl rfl rfl ?_; intro t14
        refine o_as st rfl rfl ?_
        refine c_nil ?_
        exact l_join (r13, t14) (fun a w hE hm => ⟨hE.sub ⟨rfl, rfl, rfl, trivial⟩, (hm.pick [0] rfl)⟩)
    · refine c_exit ?_
      refine l_exit ?_
      refine l_exit ?_
      refine b_exit ?_
      refine l_then ?_
      refine c_seq ?_
      refine c_region ?_
      refine o_mv st rfl rfl ?_
      refine o_as st rfl rfl ?_
      refine c_nil ?_
      refine l_then ?_
      refine c_ret ?_
      exact l_end1 Tryd.results102 t4 () (rv_t rfl) (fun _ _ => NewCh.nil _ _ _ _)

set_option maxRecDepth 100000 in
set_option maxHeartbeats 8000000 in
theorem w_laws_szBox {w0 : World} {F : Nat → Prop} {v1 : Value} {a_0 : GBox} {left_1 : Int} {κ : Int → Prop} (hF : ∀ b, F b → b < w0.heap.size ∧ ¬ feet [] b) (hv1 : Sl (elSl elGSpan) F w0 v1 a_0.xSides) (h : L_laws_szBox a_0 left_1 κ) :
    Calls Tryd.prog 76 #[(.agg #[v1]), (.int .i64 left_1)] w0 (Ret [] F w0 κ (fun (r : Int) (u : Unit) => (.int .i64 r)) (fun (r : Int) (u : Unit) => [])) := by
  refine enterS (args := [(.agg #[v1]), (.int .i64 left_1)]) [] hF (Given.nil _ _) Tryd.func76 rfl Tryd.ntmps76 rfl h ?_
  clear h hF
  refine c_seq ?_
  refine c_region ?_
  obtain ⟨a3, l4, q5, hs_⟩ := sl_val hv1; subst hs_
  refine stw (o_box rfl rfl [(.slice a3 l4 q5)] rfl ?_); intro b6
  refine o_as st rfl rfl ?_
  refine c_nil ?_
  refine l_then ?_
  refine c_seq ?_
  refine c_region ?_
  refine o_fad st rfl rfl fld76_0 rfl ?_
  refine o_ldc st (v := (.slice a3 l4 q5)) 0 rfl rfl rfl ty74 rfl ?_
  refine o_mv st rfl rfl ?_
  refine stw (o_callP (vs := [(.slice a3 l4 q5), (.int .i64 left_1)]) Tryd.call102 rfl rfl (by intro w m h; exact (w_laws_szSpanSS (F := allB [] w) (a_0 := a_0.xSides) (left_1 := left_1) allB_ok (m.rd0 1 rfl (reads_snap hv1)) h).mono (fun _ _ k => ret_free (fun r u => fr_nil) k)) ?_); rintro r8 _
  refine o_as st rfl rfl ?_
  refine c_nil ?_
  refine l_then ?_
  refine c_seq ?_
  refine c_seq ?_
  refine c_region ?_
  refine o_mv st rfl rfl ?_
  refine o_lss st rfl rfl rfl ?_
  refine c_nil ?_
  refine l_then ?_
  refine c_cond rfl ?_ ?_
  · refine c_seq ?_
    refine c_region ?_
    refine o_as st rfl rfl ?_
    refine c_nil ?_
    refine l_then ?_
    refine c_ret ?_
    refine l_ret ?_
    exact l_end1 Tryd.results76 (-1) () (rv_t rfl) (fun _ _ => NewCh.nil _ _ _ _)
  · refine c_skip ?_
    refine l_then ?_
    refine c_seq ?_
    refine c_region ?_
    refine o_mv st rfl rfl ?_
    refine o_as st rfl rfl ?_
    refine c_nil ?_
    refine l_then ?_
    refine c_ret ?_
    exact l_end1 Tryd.results76 r8 () (rv_t rfl) (fun _ _ => NewCh.nil _ _ _ _)

set_option maxRecDepth 100000 in
set_option maxHeartbeats 8000000 in
theorem w_laws_szFlat {w0 : World} {F : Nat → Prop} {v1 : Value} {a_0 : GFlat} {left_1 : Int} {κ : Int → Prop} (hF : ∀ b, F b → b < w0.heap.size ∧ ¬ feet [] b) (hv1 : Sl (elSl elGSpan) F w0 v1 a_0.xWhere.xSides) (h : L_laws_szFlat a_0 left_1 κ) :
    Calls Tryd.prog 40 #[(.agg #[v1, (.bool a_0.xAccept)]), (.int .i64 left_1)] w0 (Ret [] F w0 κ (fun (r : Int) (u : Unit) => (.int .i64 r)) (fun (r : Int) (u : Unit) => [])) := by
  refine enterS (args := [(.agg #[v1, (.bool a_0.xAccept)]), (.int .i64 left_1)]) [] hF (Given.nil _ _) Tryd.func40 rfl Tryd.ntmps40 rfl h ?_
  clear h hF
  refine c_seq ?_
  refine c_region ?_
  obtain ⟨a3, l4, q5, hs_⟩ := sl_val hv1; subst hs_
  refine stw (o_box rfl rfl [(.slice a3 l4 q5), (.bool a_0.xAccept)] rfl ?_); intro b6
  refine o_as st rfl rfl ?_
  refine c_nil ?_
  refine l_then ?_
  refine c_seq ?_
  refine c_region ?_
  refine o_fad st rfl rfl fld78_0 rfl ?_
  refine o_ldc st (v := (.agg #[(.slice a3 l4 q5)])) 0 rfl rfl rfl ty76 rfl ?_
  refine o_mv st rfl rfl ?_
  refine stw (o_callP (vs := [(.agg #[(.slice a3 l4 q5)]), (.int .i64 left_1)]) Tryd.call76 rfl rfl (by intro w m h; exact (w_laws_szBox (F := allB [] w) (a_0 := a_0.xWhere) (left_1 := left_1) allB_ok (m.rd0 1 rfl (reads_snap hv1)) h).mono (fun _ _ k => ret_free (fun r u => fr_nil) k)) ?_); rintro r8 _
  refine o_as st rfl rfl ?_
  refine c_nil ?_
  refine l_then ?_
  refine c_seq ?_
  refine c_seq ?_
  refine c_region ?_
  refine o_mv st rfl rfl ?_
  refine o_lss st rfl rfl rfl ?_
  refine c_nil ?_
  refine l_then ?_
  refine c_cond rfl ?_ ?_
  · refine c_seq ?_
    refine c_region ?_
    refine o_as st rfl rfl ?_
    refine c_nil ?_
    refine l_then ?_
    refine c_ret ?_
    refine l_ret ?_
    exact l_end1 Tryd.results40 (-1) () (rv_t rfl) (fun _ _ => NewCh.nil _ _ _ _)
  · refine c_skip ?_
    refine l_then ?_
    refine c_seq ?_
    refine c_region ?_
    refine o_mv st rfl rfl ?_
    refine o_as st rfl rfl ?_
    refine c_nil ?_
    refine l_then ?_
    refine c_ret ?_
    exact l_end1 Tryd.results40 r8 () (rv_t rfl) (fun _ _ => NewCh.nil _ _ _ _)

set_option maxRecDepth 100000 in
set_option maxHeartbeats 8000000 in
theorem w_laws_szFlatS {w0 : World} {F : Nat → Prop} {v1 : Value} {a_0 : (List GFlat)} {left_1 : Int} {κ : Int → Prop} (hF : ∀ b, F b → b < w0.heap.size ∧ ¬ feet [] b) (hv1 : Sl elGFlat F w0 v1 a_0) (h : L_laws_szFlatS a_0 left_1 κ) :
    Calls Tryd.prog 12 #[v1, (.int .i64 left_1)] w0 (Ret [] F w0 κ (fun (r : Int) (u : Unit) => (.int .i64 r)) (fun (r : Int) (u : Unit) => [])) := by
  refine enterS (args := [v1, (.int .i64 left_1)]) [] hF (Given.nil _ _) Tryd.func12 rfl Tryd.ntmps12 rfl h ?_
  clear h hF
  refine c_seq ?_
  refine c_region ?_
  refine o_as st rfl rfl ?_
  refine c_nil ?_
  refine l_then ?_
  refine c_seq ?_
  refine c_region ?_
  refine o_mv st rfl rfl ?_
  refine o_mv st rfl rfl ?_
  refine o_len st el32 0 rfl (reads_snap hv1) rfl rfl ?_
  refine o_sub st rfl rfl rfl ?_; intro t3
  refine o_as st rfl rfl ?_
  refine c_nil ?_
  refine l_then ?_
  refine c_seq ?_
  refine c_seq ?_
  refine c_region ?_
  refine o_mv st rfl rfl ?_
  refine o_lss st rfl rfl rfl ?_
  refine c_nil ?_
  refine l_then ?_
  refine c_cond rfl ?_ ?_
  · refine c_seq ?_
    refine c_region ?_
    refine o_as st rfl rfl ?_
    refine c_nil ?_
    refine l_then ?_
    refine c_ret ?_
    refine l_ret ?_
    exact l_end1 Tryd.results12 (-1) () (rv_t rfl) (fun _ _ => NewCh.nil _ _ _ _)
  · refine c_skip ?_
    refine l_then ?_
    refine c_seq ?_
    refine c_seq ?_
    refine c_region ?_
    refine o_as st rfl rfl ?_
    refine c_nil ?_
    refine l_then ?_
    refine c_block ?_
    refine c_loop (σ := (Int × Int)) (fun ((t4, t5) : (Int × Int)) (a : Act) (w : World) => Has 27 [(0, v1), (1, (.int .i64 t4)), (5, (.int .i64 t5))] a ∧ Mem (gB F [] w0) (feet []) w0 [snapCh w0 F] w) (fun a w hE hm => ⟨hE.sub ⟨rfl, rfl, rfl, trivial⟩, (hm.pick [0] rfl)⟩) ?_
    rintro nx6 ⟨t4, t5⟩ a w ⟨hE, hm⟩ h
    refine nx_of hE hm h ?_
    clear hE hm h
    refine c_seq ?_
    refine c_seq ?_
    refine c_region ?_
    refine o_mv st rfl rfl ?_
    refine o_mv st rfl rfl ?_
    refine o_len st el32 0 rfl (reads_snap hv1) rfl rfl ?_
    refine o_lss st rfl rfl rfl ?_
    refine c_nil ?_
    refine l_then ?_
    refine c_cond rfl ?_ ?_
    · refine c_skip ?_
      refine l_then ?_
      refine c_seq ?_
      refine c_block ?_
      refine c_seq ?_
      refine c_region ?_
      refine o_mv st rfl rfl ?_
      refine o_mv st rfl rfl ?_
      refine o_idx st 0 rfl (reads_snap hv1) rfl rfl rfl el32 ?_; intro e7 h8
      obtain ⟨_, ⟨v10, rfl, sl11⟩, rw9⟩ := sl_open hv1 h8
      refine o_ldR st (u := (.agg #[v10, (.bool e7.xAccept)])) 0 rfl rw9 rfl rfl ty78 rfl ?_
      refine o_mv st rfl rfl ?_
      refine stw (o_callP (vs := [(.agg #[v10, (.bool e7.xAccept)]), (.int .i64 t4)]) Tryd.call40 rfl rfl (by intro w m h; exact (w_laws_szFlat (F := allB [] w) (a_0 := e7) (left_1 := t4) allB_ok (m.rd0 0 rfl (reads_snap sl11)) h).mono (fun _ _ k => ret_free (fun r u => fr_nil) k)) ?_); rintro r13 _
      refine o_as st rfl rfl ?_
      refine c_nil ?_
      refine l_then ?_
      refine c_seq ?_
      refine c_region ?_
      refine o_mv st rfl rfl ?_
      refine o_lss st rfl rfl rfl ?_
      refine c_nil ?_
      refine l_then ?_
      refine c_cond rfl ?_ ?_
      · refine c_seq ?_
        refine c_region ?_
        refine o_as st rfl rfl ?_
        refine c_nil ?_
        refine l_then ?_
        refine c_ret ?_
        refine b_ret ?_
        refine l_ret ?_
        refine l_ret ?_
        refine b_ret ?_
        refine l_ret ?_
        exact l_end1 Tryd.results12 (-1) () (rv_t rfl) (fun _ _ => NewCh.nil _ _ _ _)
      · refine c_skip ?_
        refine b_norm ?_
        refine l_then ?_
        refine c_region ?_
        refine o_mv st rfl rfl ?_
        refine o_add st rfl rfl rfl ?_; intro t14
        refine o_as st rfl rfl ?_
        refine c_nil ?_
        exact l_join (r13, t14) (fun a w hE hm => ⟨hE.sub ⟨rfl, rfl, rfl, trivial⟩, (hm.pick [0] rfl)⟩)
    · refine c_exit ?_
      refine l_exit ?_
      refine l_exit ?_
      refine b_exit ?_
      refine l_then ?_
      refine c_seq ?_
      refine c_region ?_
      refine o_mv st rfl rfl ?_
      refine o_as st rfl rfl ?_
      refine c_nil ?_
      refine l_then ?_
      refine c_ret ?_
      exact l_end1 Tryd.results12 t4 () (rv_t rfl) (fun _ _ => NewCh.nil _ _ _ _)

set_option maxRecDepth 100000 in
set_option maxHeartbeats 8000000 in
theorem w_spec_l1OwnRowsSpan {w0 : World} {F : Nat → Prop} {v1 : Value} {list_0 : (List (List GSpan))} {κ : (List (List GSpan)) → Prop} (hF : ∀ b, F b → b < w0.heap.size ∧ ¬ feet [] b) (hv1 : Sl (elSl elGSpan) F w0 v1 list_0) (h : L_spec_l1OwnRowsSpan list_0 κ) :
    Calls Tryd.prog 121 #[v1] w0 (Ret [] F w0 κ (fun (r : (List (List GSpan))) (u : Value × List Nat) => u.1) (fun (r : (List (List GSpan))) (u : Value × List Nat) => [dpCh (dSl dGSpan 71) 72 u.2 u.1 r])) := by
  refine enterS (args := [v1]) [] hF (Given.nil _ _) Tryd.func121 rfl Tryd.ntmps121 rfl h ?_
  clear h hF
  refine c_seq ?_
  refine c_region ?_
  refine stw (o_asd (dSl dGSpan 71) 72 rfl rfl ?_)
  refine c_nil ?_
  refine l_then ?_
  refine c_seq ?_
  refine c_region ?_
  refine stw (o_bslD0 (E' := (dSl dGSpan 71)) (qs := []) (by intro ρ h; simp only [List.map_toArray, List.map_cons, List.map_nil]) rfl el83 zero72 rfl rfl rfl ?_); intro bb5 v4
  refine o_as st rfl rfl ?_
  refine c_nil ?_
  refine l_then ?_
  refine c_seq ?_
  refine c_seq ?_
  refine c_region ?_
  refine o_as st rfl rfl ?_
  refine c_nil ?_
  refine l_then ?_
  refine c_block ?_
  refine c_loop (σ := ((List (List GSpan)) × Int)) (fun ((xs8, t12) : ((List (List GSpan)) × Int)) (a : Act) (w : World) => ∃ (v7 : Value) (bb10 : List Nat), Has 22 [(0, v1), (3, v7), (4, (.int .i64 t12))] a ∧ Mem (gB F [] w0) (feet []) w0 [snapCh w0 F, dpCh (dSl dGSpan 71) 72 bb10 v7 xs8] w) (fun a w hE hm => ⟨v4, bb5, hE.sub ⟨rfl, rfl, rfl, trivial⟩, (hm.pick [2, 0] rfl)⟩) ?_
  rintro nx13 ⟨xs8, t12⟩ a w ⟨v7, bb10, hE, hm⟩ h
  refine nx_of hE hm h ?_
  clear hE hm h
  refine c_seq ?_
  refine c_seq ?_
  refine c_region ?_
  refine o_mv st rfl rfl ?_
  refine o_mv st rfl rfl ?_
  refine o_len st el83 0 rfl (reads_snap hv1) rfl rfl ?_
  refine o_lss st rfl rfl rfl ?_
  refine c_nil ?_
  refine l_then ?_
  refine c_cond rfl ?_ ?_
  · refine c_skip ?_
    refine l_then ?_
    refine c_seq ?_
    refine c_block ?_
    refine c_region ?_
    refine o_mv st rfl rfl ?_
    refine stw (o_bsl (enc := encGSpan) (qs := []) (cells := []) ([] : (List GSpan)) flelGSpan (by intro ρ h; simp only [List.map_toArray, List.map_cons, List.map_nil]) rfl el72 zero71 rfl rfl rfl rfl rfl rfl ?_); intro v14
    refine o_mv st rfl rfl ?_
    refine o_mv st rfl rfl ?_
    refine o_idx st 1 rfl (reads_snap hv1) rfl rfl rfl el83 ?_; intro e16 h17
    obtain ⟨_, ⟨v19, rfl, sl20⟩, rw18⟩ := sl_open hv1 h17
    refine o_ldR st (u := v19) 1 rfl rw18 rfl rfl ty72 rfl ?_
    refine stw (o_app 0 1 rfl rfl (src_flat flelGSpan (reads_snap sl20)) rfl rfl rfl el72 rfl zero71 rfl rfl ?_); intro v22
    refine nx_own 0 rfl ?_; rintro a24 l25 q26 rfl
    refine stw (o_bslD (M := [ownCh elGSpan 71 (.slice a24 l25 q26) (([]) ++ e16)]) (E' := (dSl dGSpan 71)) (qs := [(0, (.slice a24 l25 q26))]) (cs := [(.slice a24 l25 q26)]) (([]) ++ e16) (absorb_one (gives_own flelGSpan) (fun B w h => ⟨_, rfl, h⟩)) (by intro ρ h; simp only [List.map_toArray, List.map_cons, List.map_nil, h (.tmp 18) _ rfl]) rfl el83 zero72 rfl rfl rfl rfl ?_); intro bb28 v27
    refine pk [2, 0, 1] rfl ?_
    refine stw (o_appD rfl rfl rfl el83 rfl zero72 rfl rfl ?_); intro bb31 v30
    refine o_as st rfl rfl ?_
    refine c_nil ?_
    refine b_norm ?_
    refine l_then ?_
    refine c_region ?_
    refine o_mv st rfl rfl ?_
    refine o_add st rfl rfl rfl ?_; intro t33
    refine o_as st rfl rfl ?_
    refine c_nil ?_
    exact l_join ((xs8 ++ ([(([]) ++ e16)])), t33) (fun a w hE hm => ⟨v30, bb31, hE.sub ⟨rfl, rfl, rfl, trivial⟩, (hm.pick [1, 0] rfl)⟩)
  · refine c_exit ?_
    refine l_exit ?_
    refine l_exit ?_
    refine b_exit ?_
    refine l_then ?_
    refine c_seq ?_
    refine c_region ?_
    refine o_mv st rfl rfl ?_
    refine o_as st rfl rfl ?_
    refine c_nil ?_
    refine l_then ?_
    refine c_ret ?_
    exact l_end1 Tryd.results121 xs8 (v7, bb10) (rv_t rfl) (fun w m => NewCh.ofB m [1] rfl)

set_option maxRecDepth 100000 in
set_option maxHeartbeats 8000000 in
theorem w_spec_l1OwnBox {w0 : World} {F : Nat → Prop} {v1 : Value} {x_0 : GBox} {κ : GBox → Prop} (hF : ∀ b, F b → b < w0.heap.size ∧ ¬ feet [] b) (hv1 : Sl (elSl elGSpan) F w0 v1 x_0.xSides) (h : L_spec_l1OwnBox x_0 κ) :
    Calls Tryd.prog 103 #[(.agg #[v1])] w0 (Ret [] F w0 κ (fun (r : GBox) (u : Value × List Nat) => (.agg #[u.1])) (fun (r : GBox) (u : Value × List Nat) => [dpCh (dSl dGSpan 71) 72 u.2 u.1 r.xSides])) := by
  refine enterS (args := [(.agg #[v1])]) [] hF (Given.nil _ _) Tryd.func103 rfl Tryd.ntmps103 rfl h ?_
  clear h hF
  refine c_seq ?_
  refine c_region ?_
  obtain ⟨a3, l4, q5, hs_⟩ := sl_val hv1; subst hs_
  refine stw (o_box rfl rfl [(.slice a3 l4 q5)] rfl ?_); intro b6
  refine stw (o_alloc rfl [(.slice none 0 0)] zero85 ?_); intro b8
  refine c_nil ?_
  refine l_then ?_
  refine c_seq ?_
  refine c_region ?_
  refine o_ldc st (v := (.agg #[(.slice a3 l4 q5)])) 1 rfl rfl rfl ty85 rfl ?_
  refine stw (o_alloc rfl [(.slice none 0 0)] zero85 ?_); intro b10
  refine stw (o_stc (cs' := [(.slice a3 l4 q5)]) 0 rfl rfl rfl ty85 rfl rfl rfl rfl ?_)
  refine c_nil ?_
  refine l_then ?_
  refine c_seq ?_
  refine c_region ?_
  refine o_fad st rfl rfl fld85_0 rfl ?_
  refine o_ldc st (v := (.slice a3 l4 q5)) 2 rfl rfl rfl ty83 rfl ?_
  refine stw (o_callP (vs := [(.slice a3 l4 q5)]) Tryd.call121 rfl rfl (by intro w m h; exact (w_spec_l1OwnRowsSpan (F := allB [] w) (list_0 := x_0.xSides) allB_ok (m.rd0 3 rfl (reads_snap hv1)) h).mono (fun _ _ k => ret_free (fun r u => (fr_cons free_dp fr_nil)) k)) ?_); rintro r12 ⟨v13, bb14⟩
  refine o_fad st rfl rfl fld85_0 rfl ?_
  refine nx_dp 0 rfl ?_; rintro a16 l17 q18 rfl
  refine stw (o_stc (cs' := [(.slice a16 l17 q18)]) 1 rfl rfl rfl ty83 rfl rfl rfl rfl ?_)
  refine c_nil ?_
  refine l_then ?_
  refine c_seq ?_
  refine c_region ?_
  refine o_ldc st (v := (.agg #[(.slice a16 l17 q18)])) 1 rfl rfl rfl ty85 rfl ?_
  refine stw (o_stc (cs' := [(.slice a16 l17 q18)]) 2 rfl rfl rfl ty85 rfl rfl rfl rfl ?_)
  refine c_nil ?_
  refine l_then ?_
  refine c_ret ?_
  exact l_end1 Tryd.results103 (GBox.mk r12) ((.slice a16 l17 q18), bb14) (rv_c 2 rfl rfl ty85 rfl) (fun w m => NewCh.ofB m [0] rfl)

set_option maxRecDepth 100000 in
set_option maxHeartbeats 8000000 in
theorem w_spec_l1OwnFlat {w0 : World} {F : Nat → Prop} {v1 : Value} {x_0 : GFlat} {κ : GFlat → Prop} (hF : ∀ b, F b → b < w0.heap.size ∧ ¬ feet [] b) (hv1 : Sl (elSl elGSpan) F w0 v1 x_0.xWhere.xSides) (h : L_spec_l1OwnFlat x_0 κ) :
    Calls Tryd.prog 77 #[(.agg #[v1, (.bool x_0.xAccept)])] w0 (Ret [] F w0 κ (fun (r : GFlat) (u : Value × List Nat) => (.agg #[u.1, (.bool r.xAccept)])) (fun (r : GFlat) (u : Value × List Nat) => [dpCh (dSl dGSpan 71) 72 u.2 u.1 r.xWhere.xSides])) := by
  refine enterS (args := [(.agg #[v1, (.bool x_0.xAccept)])]) [] hF (Given.nil _ _) Tryd.func77 rfl Tryd.ntmps77 rfl h ?_
  clear h hF
  refine c_seq ?_
  refine c_region ?_
  obtain ⟨a3, l4, q5, hs_⟩ := sl_val hv1; subst hs_
  refine stw (o_box rfl rfl [(.slice a3 l4 q5), (.bool x_0.xAccept)] rfl ?_); intro b6
  refine stw (o_alloc rfl [(.slice none 0 0), (.bool false)] zero87 ?_); intro b8
  refine c_nil ?_
  refine l_then ?_
  refine c_seq ?_
  refine c_region ?_
  refine o_ldc st (v := (.agg #[(.slice a3 l4 q5), (.bool x_0.xAccept)])) 1 rfl rfl rfl ty87 rfl ?_
  refine stw (o_alloc rfl [(.slice none 0 0), (.bool false)] zero87 ?_); intro b10
  refine stw (o_stc (cs' := [(.slice a3 l4 q5), (.bool x_0.xAccept)]) 0 rfl rfl rfl ty87 rfl rfl rfl rfl ?_)
  refine c_nil ?_
  refine l_then ?_
  refine c_seq ?_
  refine c_region ?_
  refine o_fad st rfl rfl fld87_0 rfl ?_
  refine o_ldc st (v := (.agg #[(.slice a3 l4 q5)])) 2 rfl rfl rfl ty85 rfl ?_
  refine stw (o_callP (vs := [(.agg #[(.slice a3 l4 q5)])]) Tryd.call103 rfl rfl (by intro w m h; exact (w_spec_l1OwnBox (F := allB [] w) (x_0 := x_0.xWhere) allB_ok (m.rd0 3 rfl (reads_snap hv1)) h).mono (fun _ _ k => ret_free (fun r u => (fr_cons free_dp fr_nil)) k)) ?_); rintro r12 ⟨v13, bb14⟩
  refine o_fad st rfl rfl fld87_0 rfl ?_
  refine nx_dp 0 rfl ?_; rintro a16 l17 q18 rfl
  refine stw (o_stc (cs' := [(.slice a16 l17 q18), (.bool x_0.xAccept)]) 1 rfl rfl rfl ty85 rfl rfl rfl rfl ?_)
  refine c_nil ?_
  refine l_then ?_
  refine c_seq ?_
  refine c_region ?_
  refine o_ldc st (v := (.agg #[(.slice a16 l17 q18), (.bool x_0.xAccept)])) 1 rfl rfl rfl ty87 rfl ?_
  refine stw (o_stc (cs' := [(.slice a16 l17 q18), (.bool x_0.xAccept)]) 2 rfl rfl rfl ty87 rfl rfl rfl rfl ?_)
  refine c_nil ?_
  refine l_then ?_
  refine c_ret ?_
  exact l_end1 Tryd.results77 (GFlat.mk r12 x_0.xAccept) ((.slice a16 l17 q18), bb14) (rv_c 2 rfl rfl ty87 rfl) (fun w m => NewCh.ofB m [0] rfl)

set_option maxRecDepth 100000 in
set_option maxHeartbeats 8000000 in
theorem w_spec_l1OwnFlatList {w0 : World} {F : Nat → Prop} {v1 : Value} {list_0 : (List GFlat)} {κ : (List GFlat) → Prop} (hF : ∀ b, F b → b < w0.heap.size ∧ ¬ feet [] b) (hv1 : Sl elGFlat F w0 v1 list_0) (h : L_spec_l1OwnFlatList list_0 κ) :
    Calls Tryd.prog 41 #[v1] w0 (Ret [] F w0 κ (fun (r : (List GFlat)) (u : Value × List Nat) => u.1) (fun (r : (List GFlat)) (u : Value × List Nat) => [dpCh dGFlat 87 u.2 u.1 r])) := by
  refine enterS (args := [v1]) [] hF (Given.nil _ _) Tryd.func41 rfl Tryd.ntmps41 rfl h ?_
  clear h hF
  refine c_seq ?_
  refine c_region ?_
  refine stw (o_asd dGFlat 87 rfl rfl ?_)
  refine c_nil ?_
  refine l_then ?_
  refine c_seq ?_
  refine c_region ?_
  refine stw (o_bslD0 (E' := dGFlat) (qs := []) (by intro ρ h; simp only [List.map_toArray, List.map_cons, List.map_nil]) rfl el23 zero87 rfl rfl rfl ?_); intro bb5 v4
  refine o_as st rfl rfl ?_
  refine c_nil ?_
  refine l_then ?_
  refine c_seq ?_
  refine c_seq ?_
  refine c_region ?_
  refine o_as st rfl rfl ?_
  refine c_nil ?_
  refine l_then ?_
  refine c_block ?_
  refine c_loop (σ := ((List GFlat) × Int)) (fun ((xs8, t12) : ((List GFlat) × Int)) (a : Act) (w : World) => ∃ (v7 : Value) (bb10 : List Nat), Has 21 [(0, v1), (3, v7), (4, (.int .i64 t12))] a ∧ Mem (gB F [] w0) (feet []) w0 [snapCh w0 F, dpCh dGFlat 87 bb10 v7 xs8] w) (fun a w hE hm => ⟨v4, bb5, hE.sub ⟨rfl, rfl, rfl, trivial⟩, (hm.pick [2, 0] rfl)⟩) ?_
  rintro nx13 ⟨xs8, t12⟩ a w ⟨v7, bb10, hE, hm⟩ h
  refine nx_of hE hm h ?_
  clear hE hm h
  refine c_seq ?_
  refine c_seq ?_
  refine c_region ?_
  refine o_mv st rfl rfl ?_
  refine o_mv st rfl rfl ?_
  refine o_len st el23 0 rfl (reads_snap hv1) rfl rfl ?_
  refine o_lss st rfl rfl rfl ?_
  refine c_nil ?_
  refine l_then ?_
  refine c_cond rfl ?_ ?_
  · refine c_skip ?_
    refine l_then ?_
    refine c_seq ?_
    refine c_block ?_
    refine c_region ?_
    refine o_mv st rfl rfl ?_
    refine o_mv st rfl rfl ?_
    refine o_mv st rfl rfl ?_
    refine o_idx st 0 rfl (reads_snap hv1) rfl rfl rfl el23 ?_; intro e14 h15
    obtain ⟨_, ⟨v17, rfl, sl18⟩, rw16⟩ := sl_open hv1 h15
    refine o_ldR st (u := (.agg #[v17, (.bool e14.xAccept)])) 0 rfl rw16 rfl rfl ty87 rfl ?_
    refine stw (o_callP (vs := [(.agg #[v17, (.bool e14.xAccept)])]) Tryd.call77 rfl rfl (by intro w m h; exact (w_spec_l1OwnFlat (F := allB [] w) (x_0 := e14) allB_ok (m.rd0 0 rfl (reads_snap sl18)) h).mono (fun _ _ k => ret_free (fun r u => (fr_cons free_dp fr_nil)) k)) ?_); rintro r20 ⟨v21, bb22⟩
    refine nx_dp 0 rfl ?_; rintro a24 l25 q26 rfl
    refine stw (o_bslD (M := [dpCh (dSl dGSpan 71) 72 bb22 (.slice a24 l25 q26) r20.xWhere.xSides]) (E' := dGFlat) (qs := [(0, (.agg #[(.slice a24 l25 q26), (.bool r20.xAccept)]))]) (cs := [(.slice a24 l25 q26), (.bool r20.xAccept)]) r20 (absorb_one gives_dp (fun B w h => ⟨_, rfl, h⟩)) (by intro ρ h; simp only [List.map_toArray, List.map_cons, List.map_nil, h (.tmp 17) _ rfl]) rfl el23 zero87 rfl rfl rfl rfl ?_); intro bb28 v27
    refine pk [2, 0, 1] rfl ?_
    refine stw (o_appD rfl rfl rfl el23 rfl zero87 rfl rfl ?_); intro bb31 v30
    refine o_as st rfl rfl ?_
    refine c_nil ?_
    refine b_norm ?_
    refine l_then ?_
    refine c_region ?_
    refine o_mv st rfl rfl ?_
    refine o_add st rfl rfl rfl ?_; intro t33
    refine o_as st rfl rfl ?_
    refine c_nil ?_
    exact l_join ((xs8 ++ ([r20])), t33) (fun a w hE hm => ⟨v30, bb31, hE.sub ⟨rfl, rfl, rfl, trivial⟩, (hm.pick [1, 0] rfl)⟩)
  · refine c_exit ?_
    refine l_exit ?_
    refine l_exit ?_
    refine b_exit ?_
    refine l_then ?_
    refine c_seq ?_
    refine c_region ?_
    refine o_mv st rfl rfl ?_
    refine o_as st rfl rfl ?_
    refine c_nil ?_
    refine l_then ?_
    refine c_ret ?_
    exact l_end1 Tryd.results41 xs8 (v7, bb10) (rv_t rfl) (fun w m => NewCh.ofB m [1] rfl)

set_option maxRecDepth 100000 in
set_option maxHeartbeats 8000000 in
theorem w_spec_l10Empty {w0 : World} {F : Nat → Prop} {v1 : Value} {b_0 : GBox} {κ : Bool → Prop} (hF : ∀ b, F b → b < w0.heap.size ∧ ¬ feet [] b) (hv1 : Sl (elSl elGSpan) F w0 v1 b_0.xSides) (h : L_spec_l10Empty b_0 κ) :
    Calls Tryd.prog 78 #[(.agg #[v1])] w0 (Ret [] F w0 κ (fun (r : Bool) (u : Unit) => (.bool r)) (fun (r : Bool) (u : Unit) => [])) := by
  refine enterS (args := [(.agg #[v1])]) [] hF (Given.nil _ _) Tryd.func78 rfl Tryd.ntmps78 rfl h ?_
  clear h hF
  refine c_seq ?_
  refine c_region ?_
  obtain ⟨a3, l4, q5, hs_⟩ := sl_val hv1; subst hs_
  refine stw (o_box rfl rfl [(.slice a3 l4 q5)] rfl ?_); intro b6
  refine o_as st rfl rfl ?_
  refine c_nil ?_
  refine l_then ?_
  refine c_seq ?_
  refine c_seq ?_
  refine c_region ?_
  refine o_as st rfl rfl ?_
  refine c_nil ?_
  refine l_then ?_
  refine c_block ?_
  refine c_loop (σ := Int) (fun (t8 : Int) (a : Act) (w : World) => Has 18 [(1, (.pointer (some ⟨b6, 0, none⟩))), (3, (.int .i64 t8))] a ∧ Mem (gB F [] w0) (feet []) w0 [cellCh b6 [(.slice a3 l4 q5)] 85, snapCh w0 F] w) (fun a w hE hm => ⟨hE.sub ⟨rfl, rfl, trivial⟩, (hm.pick [0, 1] rfl)⟩) ?_
  rintro nx9 t8 a w ⟨hE, hm⟩ h
  refine nx_of hE hm h ?_
  clear hE hm h
  refine c_seq ?_
  refine c_seq ?_
  refine c_region ?_
  refine o_mv st rfl rfl ?_
  refine o_fad st rfl rfl fld85_0 rfl ?_
  refine o_ldc st (v := (.slice a3 l4 q5)) 0 rfl rfl rfl ty83 rfl ?_
  refine o_len st el83 1 rfl (reads_snap hv1) rfl rfl ?_
  refine o_lss st rfl rfl rfl ?_
  refine c_nil ?_
  refine l_then ?_
  refine c_cond rfl ?_ ?_
  · refine c_skip ?_
    refine l_then ?_
    refine c_seq ?_
    refine c_block ?_
    refine c_seq ?_
    refine c_region ?_
    refine o_fad st rfl rfl fld85_0 rfl ?_
    refine o_ldc st (v := (.slice a3 l4 q5)) 0 rfl rfl rfl ty83 rfl ?_
    refine o_mv st rfl rfl ?_
    refine o_idx st 1 rfl (reads_snap hv1) rfl rfl rfl el83 ?_; intro e10 h11
    obtain ⟨_, ⟨v13, rfl, sl14⟩, rw12⟩ := sl_open hv1 h11
    refine o_ldR st (u := v13) 1 rfl rw12 rfl rfl ty72 rfl ?_
    refine o_len st el72 1 rfl (reads_snap sl14) rfl rfl ?_
    refine o_eql st und3 rfl rfl rfl ?_
    refine c_nil ?_
    refine l_then ?_
    refine c_cond rfl ?_ ?_
    · refine c_seq ?_
      refine c_region ?_
      refine o_as st rfl rfl ?_
      refine c_nil ?_
      refine l_then ?_
      refine c_ret ?_
      refine b_ret ?_
      refine l_ret ?_
      refine l_ret ?_
      refine b_ret ?_
      refine l_ret ?_
      exact l_end1 Tryd.results78 true () (rv_t rfl) (fun _ _ => NewCh.nil _ _ _ _)
    · refine c_skip ?_
      refine b_norm ?_
      refine l_then ?_
      refine c_region ?_
      refine o_mv st rfl rfl ?_
      refine o_add st rfl rfl rfl ?_; intro t16
      refine o_as st rfl rfl ?_
      refine c_nil ?_
      exact l_join t16 (fun a w hE hm => ⟨hE.sub ⟨rfl, rfl, trivial⟩, (hm.pick [0, 1] rfl)⟩)
  · refine c_exit ?_
    refine l_exit ?_
    refine l_exit ?_
    refine b_exit ?_
    refine l_then ?_
    refine c_seq ?_
    refine c_region ?_
    refine o_as st rfl rfl ?_
    refine c_nil ?_
    refine l_then ?_
    refine c_ret ?_
    exact l_end1 Tryd.results78 false () (rv_t rfl) (fun _ _ => NewCh.nil _ _ _ _)

set_option maxRecDepth 100000 in
set_option maxHeartbeats 8000000 in
theorem w_spec_BoxTests {w0 : World} {F : Nat → Prop} {v1 : Value} {b_0 : GBox} {κ : ((List GTest) × Bool) → Prop} (hF : ∀ b, F b → b < w0.heap.size ∧ ¬ feet [] b) (hv1 : Sl (elSl elGSpan) F w0 v1 b_0.xSides) (h : L_spec_BoxTests b_0 κ) :
    Calls Tryd.prog 42 #[(.agg #[v1])] w0 (Ret [] F w0 κ (fun (r : ((List GTest) × Bool)) (u : Value) => .tuple #[u, (.bool r.2)]) (fun (r : ((List GTest) × Bool)) (u : Value) => [ownCh elGTest 125 u r.1])) := by
  refine enterS (args := [(.agg #[v1])]) [] hF (Given.nil _ _) Tryd.func42 rfl Tryd.ntmps42 rfl h ?_
  clear h hF
  refine c_seq ?_
  refine c_region ?_
  obtain ⟨a3, l4, q5, hs_⟩ := sl_val hv1; subst hs_
  refine stw (o_box rfl rfl [(.slice a3 l4 q5)] rfl ?_); intro b6
  refine stw (o_asn elGTest 125 rfl rfl ?_)
  refine o_as st rfl rfl ?_
  refine c_nil ?_
  refine l_then ?_
  refine c_seq ?_
  refine c_region ?_
  refine stw (o_bsl (enc := encGTest) (qs := []) (cells := []) ([] : (List GTest)) flelGTest (by intro ρ h; simp only [List.map_toArray, List.map_cons, List.map_nil]) rfl el80 zero125 rfl rfl rfl rfl rfl rfl ?_); intro v9
  refine o_as st rfl rfl ?_
  refine c_nil ?_
  refine l_then ?_
  refine c_seq ?_
  refine c_join (σ := Bool) (fun (t73 : Bool) (a : Act) (w : World) => Has 93 [(1, (.pointer (some ⟨b6, 0, none⟩))), (4, v9), (15, (.bool t73))] a ∧ Mem (gB F [] w0) (feet []) w0 [ownCh elGTest 125 v9 ([]), cellCh b6 [(.slice a3 l4 q5)] 85, snapCh w0 F] w) ?_ ?_
  · intro k74
    refine c_region ?_
    refine o_ldc st (v := (.agg #[(.slice a3 l4 q5)])) 2 rfl rfl rfl ty85 rfl ?_
    refine stw (o_callP (vs := [(.agg #[(.slice a3 l4 q5)])]) Tryd.call73 rfl rfl (by intro w m h; exact (w_spec_BoxValid (F := allB [] w) (b_0 := b_0) allB_ok (m.rd0 3 rfl (reads_snap hv1)) h).mono (fun _ _ k => ret_free (fun r u => fr_nil) k)) ?_); rintro r11 _
    refine o_not st rfl rfl ?_
    refine o_mv st rfl rfl ?_
    refine st_sp (dj := 12) rfl ?_ ?_
    · refine st_s rfl rfl rfl rfl ?_
      refine st_s rfl rfl rfl rfl ?_
      refine o_pickT st rfl rfl rfl ?_
      refine c_nil ?_
      exact l_join true (fun a w hE hm => ⟨hE.sub ⟨rfl, rfl, rfl, trivial⟩, (hm.pick [0, 2, 3] rfl)⟩)
    · refine o_ldc (st_g rfl rfl) (v := (.agg #[(.slice a3 l4 q5)])) 2 rfl rfl rfl ty85 rfl ?_
      refine st_gw rfl rfl (o_callP (vs := [(.agg #[(.slice a3 l4 q5)])]) Tryd.call78 rfl rfl (by intro w m h; exact (w_spec_l10Empty (F := allB [] w) (b_0 := b_0) allB_ok (m.rd0 3 rfl (reads_snap hv1)) h).mono (fun _ _ k => ret_free (fun r u => fr_nil) k)) ?_); rintro r12 _
      refine o_pickF st rfl rfl rfl ?_
      refine c_nil ?_
      exact l_join r12 (fun a w hE hm => ⟨hE.sub ⟨rfl, rfl, rfl, trivial⟩, (hm.pick [0, 2, 3] rfl)⟩)
  · rintro t73 a w ⟨hE, hm⟩ h
    refine nx_of hE hm h ?_
    clear hE hm h
    refine c_cond rfl ?_ ?_
    · refine c_seq ?_
      refine c_region ?_
      refine o_mv st rfl rfl ?_
      refine o_as st rfl rfl ?_
      refine o_as st rfl rfl ?_
      refine c_nil ?_
      refine l_then ?_
      refine c_ret ?_
      refine l_ret ?_
      exact l_end2 Tryd.results42 ([], false) v9 (rv_t rfl) (rv_t rfl) rfl (fun w m => NewCh.ofB m [0] rfl)
    · refine c_skip ?_
      refine l_then ?_
      refine c_seq ?_
      refine c_seq ?_
      refine c_region ?_
      refine o_as st rfl rfl ?_
      refine c_nil ?_
      refine l_then ?_
      refine c_block ?_
      refine c_loop (σ := ((List GTest) × Int)) (fun ((xs76, t79) : ((List GTest) × Int)) (a : Act) (w : World) => ∃ (v75 : Value), Has 93 [(1, (.pointer (some ⟨b6, 0, none⟩))), (4, v75), (5, (.int .i64 t79))] a ∧ Mem (gB F [] w0) (feet []) w0 [cellCh b6 [(.slice a3 l4 q5)] 85, snapCh w0 F, ownCh elGTest 125 v75 xs76] w) (fun a w hE hm => ⟨v9, hE.sub ⟨rfl, rfl, rfl, trivial⟩, (hm.pick [1, 2, 0] rfl)⟩) ?_
      rintro nx80 ⟨xs76, t79⟩ a w ⟨v75, hE, hm⟩ h
      refine nx_of hE hm h ?_
      clear hE hm h
      refine c_seq ?_
      refine c_seq ?_
      refine c_region ?_
      refine o_mv st rfl rfl ?_
      refine o_lss st rfl rfl rfl ?_
      refine c_nil ?_
      refine l_then ?_
      refine c_cond rfl ?_ ?_
      · refine c_skip ?_
        refine l_then ?_
        refine c_join (σ := (List GTest)) (fun (xs298 : (List GTest)) (a : Act) (w : World) => ∃ (v299 : Value), Has 93 [(1, (.pointer (some ⟨b6, 0, none⟩))), (4, v299), (5, (.int .i64 t79))] a ∧ Mem (gB F [] w0) (feet []) w0 [cellCh b6 [(.slice a3 l4 q5)] 85, ownCh elGTest 125 v299 xs298, snapCh w0 F] w) ?_ ?_
        · intro k301
          refine c_block ?_
          refine c_seq ?_
          refine c_region ?_
          refine o_fad st rfl rfl fld85_0 rfl ?_
          refine o_ldc st (v := (.slice a3 l4 q5)) 0 rfl rfl rfl ty83 rfl ?_
          refine o_mv st rfl rfl ?_
          refine o_idx st 1 rfl (reads_snap hv1) rfl rfl rfl el83 ?_; intro e81 h82
          obtain ⟨_, ⟨v84, rfl, sl85⟩, rw83⟩ := sl_open hv1 h82
          refine o_ldR st (u := v84) 1 rfl rw83 rfl rfl ty72 rfl ?_
          refine o_as st rfl rfl ?_
          refine c_nil ?_
          refine l_then ?_
          refine c_seq ?_
          refine c_region ?_
          refine o_mv st rfl rfl ?_
          refine stw (o_callP (vs := [(.int .i64 t79)]) Tryd.call63 rfl rfl (by intro w m h; exact (w_spec_FieldTop (F := allB [] w) (n_0 := t79) allB_ok h).mono (fun _ _ k => ret_free (fun r u => fr_nil) k)) ?_); rintro r87 _
          refine o_as st rfl rfl ?_
          refine c_nil ?_
          refine l_then ?_
          refine c_block ?_
          refine c_join (σ := Bool) (fun (t150 : Bool) (a : Act) (w : World) => Has 93 [(1, (.pointer (some ⟨b6, 0, none⟩))), (4, v75), (5, (.int .i64 t79)), (6, v84), (7, (.int .i64 r87)), (29, (.bool t150))] a ∧ Mem (gB F [] w0) (feet []) w0 [cellCh b6 [(.slice a3 l4 q5)] 85, ownCh elGTest 125 v75 xs76, snapCh w0 F] w) ?_ ?_
          · intro k151
            refine c_region ?_
            refine o_mv st rfl rfl ?_
            refine o_len st el72 1 rfl (reads_snap sl85) rfl rfl ?_
            refine o_eql st und3 rfl rfl rfl ?_
            refine o_mv st rfl rfl ?_
            refine st_sp (dj := 33) rfl ?_ ?_
            · refine o_mv (st_g rfl rfl) rfl rfl ?_
              refine o_idx (st_g rfl rfl) 1 rfl (reads_snap sl85) rfl rfl rfl el72 ?_; intro e88 h89
              refine o_lds (st_g rfl rfl) (enc := encGSpan) (u := (.agg #[(.int .i64 e88.xLo), (.int .i64 e88.xHi)])) 1 rfl (reads_snap sl85) flelGSpan rfl h89 rfl rfl ty71 rfl ?_
              refine o_mv (st_g rfl rfl) rfl rfl ?_
              refine o_bld (st_g rfl rfl) (qs := [(0, (.int .i64 0)), (1, (.int .i64 r87))]) (cells := [(.int .i64 0), (.int .i64 r87)]) (by intro ρ h; simp only [List.map_toArray, List.map_cons, List.map_nil, h (.const (.int .i64 0)) _ rfl, h (.tmp 37) _ rfl]) rfl bld71 rfl ?_
              refine o_bin (st_g rfl rfl) (.bool (decide (e88 = (GSpan.mk 0 r87)))) rfl rfl rfl (eqls71 _ _ e88.xLo e88.xHi 0 r87) ?_
              refine o_pickT st rfl rfl rfl ?_
              refine o_as st rfl rfl ?_
              refine c_nil ?_
              exact l_join (decide (e88 = (GSpan.mk 0 r87))) (fun a w hE hm => ⟨hE.sub ⟨rfl, rfl, rfl, rfl, rfl, rfl, trivial⟩, (hm.pick [0, 2, 1] rfl)⟩)
            · refine st_s rfl rfl rfl rfl ?_
              refine st_s rfl rfl rfl rfl ?_
              refine st_s rfl rfl rfl rfl ?_
              refine st_s rfl rfl rfl rfl ?_
              refine st_s rfl rfl rfl rfl ?_
              refine st_s rfl rfl rfl rfl ?_
              refine o_pickF st rfl rfl rfl ?_
              refine o_as st rfl rfl ?_
              refine c_nil ?_
              exact l_join false (fun a w hE hm => ⟨hE.sub ⟨rfl, rfl, rfl, rfl, rfl, rfl, trivial⟩, (hm.pick [0, 2, 1] rfl)⟩)
          · rintro t150 a w ⟨hE, hm⟩ h
            refine nx_of hE hm h ?_
            clear hE hm h
            refine c_cond rfl ?_ ?_
            · refine c_skip ?_
              refine b_norm ?_
              refine b_norm ?_
              exact l_join xs76 (fun a w hE hm => ⟨v75, hE.sub ⟨rfl, rfl, rfl, trivial⟩, (hm.pick [0, 1, 2] rfl)⟩)
            · refine c_seq ?_
              refine c_region ?_
              refine o_mv st rfl rfl ?_
              refine o_len st el72 2 rfl (reads_snap sl85) rfl rfl ?_
              refine o_eql st und3 rfl rfl rfl ?_
              refine o_as st rfl rfl ?_
              refine c_nil ?_
              refine l_then ?_
              refine c_cond rfl ?_ ?_
              · refine c_draw mixed 14 rfl [cellCh b6 [(.slice a3 l4 q5)] 85, snapCh w0 F] ?_
                refine o_mv (dt 0 (fun w m => m.pick [0, 2] rfl)) rfl rfl ?_
                refine o_mv (dt 1 (fun w m => m.pick [0, 2] rfl)) rfl rfl ?_
                refine o_mv (dt 2 (fun w m => m.pick [0, 2] rfl)) rfl rfl ?_
                refine o_idx (dt 3 (fun w m => m.pick [0, 2] rfl)) 1 rfl (reads_snap sl85) rfl rfl rfl el72 ?_; intro e152 h153
                refine o_fadS (dt 4 (fun w m => m.pick [0, 2] rfl)) 1 rfl (reads_snap sl85) h153 rfl rfl fld71_0 rfl ?_
                refine o_lds (dt 5 (fun w m => m.pick [0, 2] rfl)) (enc := encGSpan) (u := (.int .i64 e152.xLo)) 1 rfl (reads_snap sl85) flelGSpan rfl h153 rfl rfl ty3 rfl ?_
                refine o_mv (dt 6 (fun w m => m.pick [0, 2] rfl)) rfl rfl ?_
                refine o_idx (dt 7 (fun w m => m.pick [0, 2] rfl)) 1 rfl (reads_snap sl85) rfl rfl rfl el72 ?_; intro e154 h155
                refine o_fadS (dt 8 (fun w m => m.pick [0, 2] rfl)) 1 rfl (reads_snap sl85) h155 rfl rfl fld71_1 rfl ?_
                refine o_lds (dt 9 (fun w m => m.pick [0, 2] rfl)) (enc := encGSpan) (u := (.int .i64 e154.xHi)) 1 rfl (reads_snap sl85) flelGSpan rfl h155 rfl rfl ty3 rfl ?_
                refine o_bld (dt 10 (fun w m => m.pick [0, 2] rfl)) (qs := [(0, (.int .i64 t79)), (1, (.int .i64 e152.xLo)), (2, (.int .i64 e154.xHi))]) (cells := [(.int .i64 t79), (.int .i64 e152.xLo), (.int .i64 e154.xHi), (.bool false)]) (by intro ρ h; simp only [List.map_toArray, List.map_cons, List.map_nil, h (.tmp 46) _ rfl, h (.tmp 50) _ rfl, h (.tmp 54) _ rfl]) rfl bld125 rfl ?_
                refine d_one (i := 11) rfl (by kernel_rfl) (o_bsl (enc := encGTest) (qs := [(0, (.agg #[(.int .i64 t79), (.int .i64 e152.xLo), (.int .i64 e154.xHi), (.bool false)]))]) (cells := [(.int .i64 t79), (.int .i64 e152.xLo), (.int .i64 e154.xHi), (.bool false)]) ([(GTest.mk t79 e152.xLo e154.xHi false)]) flelGTest (by intro ρ h; simp only [List.map_toArray, List.map_cons, List.map_nil, h (.tmp 55) _ rfl]) rfl el80 zero125 rfl rfl rfl rfl rfl rfl ?_); intro v156
                refine d_and (fun w m => m.pick [1, 3] rfl) ?_
                refine d_one (i := 12) rfl (by kernel_rfl) (o_app 2 0 rfl rfl (src_flat flelGTest reads_own) rfl rfl rfl el80 rfl zero125 rfl rfl ?_); intro v158
                refine d_and (fun w m => m.pick [1, 3] rfl) ?_
                refine o_as (dt 13 (fun w m => m.pick [1, 3] rfl)) rfl rfl ?_
                refine d_done (by kernel_rfl) ?_
                refine b_norm ?_
                refine b_norm ?_
                exact l_join (xs76 ++ ([(GTest.mk t79 e152.xLo e154.xHi false)])) (fun a w hE hm => ⟨v158, hE.sub ⟨rfl, rfl, rfl, trivial⟩, (hm.pick [1, 2, 3] rfl)⟩)
              · refine c_join (σ := Bool) (fun (t224 : Bool) (a : Act) (w : World) => Has 93 [(1, (.pointer (some ⟨b6, 0, none⟩))), (4, v75), (5, (.int .i64 t79)), (6, v84), (58, (.bool t224))] a ∧ Mem (gB F [] w0) (feet []) w0 [cellCh b6 [(.slice a3 l4 q5)] 85, ownCh elGTest 125 v75 xs76, snapCh w0 F] w) ?_ ?_
                · intro k225
                  refine c_region ?_
                  refine o_mv st rfl rfl ?_
                  refine o_len st el72 2 rfl (reads_snap sl85) rfl rfl ?_
                  refine o_eql st und3 rfl rfl rfl ?_
                  refine o_mv st rfl rfl ?_
                  refine st_sp (dj := 62) rfl ?_ ?_
                  · refine o_mv (st_g rfl rfl) rfl rfl ?_
                    refine o_idx (st_g rfl rfl) 2 rfl (reads_snap sl85) rfl rfl rfl el72 ?_; intro e160 h161
                    refine o_fadS (st_g rfl rfl) 2 rfl (reads_snap sl85) h161 rfl rfl fld71_0 rfl ?_
                    refine o_lds (st_g rfl rfl) (enc := encGSpan) (u := (.int .i64 e160.xLo)) 2 rfl (reads_snap sl85) flelGSpan rfl h161 rfl rfl ty3 rfl ?_
                    refine o_eql (st_g rfl rfl) und3 rfl rfl rfl ?_
                    refine o_pickT st rfl rfl rfl ?_
                    refine o_mv st rfl rfl ?_
                    refine st_sp (dj := 69) rfl ?_ ?_
                    · refine o_mv (st_g rfl rfl) rfl rfl ?_
                      refine o_idx (st_g rfl rfl) 2 rfl (reads_snap sl85) rfl rfl rfl el72 ?_; intro e162 h163
                      refine o_fadS (st_g rfl rfl) 2 rfl (reads_snap sl85) h163 rfl rfl fld71_1 rfl ?_
                      refine o_lds (st_g rfl rfl) (enc := encGSpan) (u := (.int .i64 e162.xHi)) 2 rfl (reads_snap sl85) flelGSpan rfl h163 rfl rfl ty3 rfl ?_
                      refine o_mv (st_g rfl rfl) rfl rfl ?_
                      refine o_eql (st_g rfl rfl) und3 rfl rfl rfl ?_
                      refine o_pickT st rfl rfl rfl ?_
                      refine o_as st rfl rfl ?_
                      refine c_nil ?_
                      exact l_join (decide (e162.xHi = r87)) (fun a w hE hm => ⟨hE.sub ⟨rfl, rfl, rfl, rfl, rfl, trivial⟩, (hm.pick [0, 1, 2] rfl)⟩)
                    · refine st_s rfl rfl rfl rfl ?_
                      refine st_s rfl rfl rfl rfl ?_
                      refine st_s rfl rfl rfl rfl ?_
                      refine st_s rfl rfl rfl rfl ?_
                      refine st_s rfl rfl rfl rfl ?_
                      refine st_s rfl rfl rfl rfl ?_
                      refine o_pickF st rfl rfl rfl ?_
                      refine o_as st rfl rfl ?_
                      refine c_nil ?_
                      exact l_join false (fun a w hE hm => ⟨hE.sub ⟨rfl, rfl, rfl, rfl, rfl, trivial⟩, (hm.pick [0, 1, 2] rfl)⟩)
                  · refine st_s rfl rfl rfl rfl ?_
                    refine st_s rfl rfl rfl rfl ?_
                    refine st_s rfl rfl rfl rfl ?_
                    refine st_s rfl rfl rfl rfl ?_
                    refine st_s rfl rfl rfl rfl ?_
                    refine o_pickF st rfl rfl rfl ?_
                    refine o_mv st rfl rfl ?_
                    refine st_s rfl rfl rfl rfl ?_
                    refine st_s rfl rfl rfl rfl ?_
                    refine st_s rfl rfl rfl rfl ?_
                    refine st_s rfl rfl rfl rfl ?_
                    refine st_s rfl rfl rfl rfl ?_
                    refine st_s rfl rfl rfl rfl ?_
                    refine o_pickF st rfl rfl rfl ?_
                    refine o_as st rfl rfl ?_
                    refine c_nil ?_
                    exact l_join false (fun a w hE hm => ⟨hE.sub ⟨rfl, rfl, rfl, rfl, rfl, trivial⟩, (hm.pick [0, 1, 2] rfl)⟩)
                · rintro t224 a w ⟨hE, hm⟩ h
                  refine nx_of hE hm h ?_
                  clear hE hm h
                  refine c_cond rfl ?_ ?_
                  · refine c_draw mixed 16 rfl [cellCh b6 [(.slice a3 l4 q5)] 85, snapCh w0 F] ?_
                    refine o_mv (dt 0 (fun w m => m.pick [0, 2] rfl)) rfl rfl ?_
                    refine o_mv (dt 1 (fun w m => m.pick [0, 2] rfl)) rfl rfl ?_
                    refine o_mv (dt 2 (fun w m => m.pick [0, 2] rfl)) rfl rfl ?_
                    refine o_idx (dt 3 (fun w m => m.pick [0, 2] rfl)) 1 rfl (reads_snap sl85) rfl rfl rfl el72 ?_; intro e226 h227
                    refine o_fadS (dt 4 (fun w m => m.pick [0, 2] rfl)) 1 rfl (reads_snap sl85) h227 rfl rfl fld71_1 rfl ?_
                    refine o_lds (dt 5 (fun w m => m.pick [0, 2] rfl)) (enc := encGSpan) (u := (.int .i64 e226.xHi)) 1 rfl (reads_snap sl85) flelGSpan rfl h227 rfl rfl ty3 rfl ?_
                    refine o_add (dt 6 (fun w m => m.pick [0, 2] rfl)) rfl rfl rfl ?_; intro t228
                    refine o_mv (dt 7 (fun w m => m.pick [0, 2] rfl)) rfl rfl ?_
                    refine o_idx (dt 8 (fun w m => m.pick [0, 2] rfl)) 1 rfl (reads_snap sl85) rfl rfl rfl el72 ?_; intro e229 h230
                    refine o_fadS (dt 9 (fun w m => m.pick [0, 2] rfl)) 1 rfl (reads_snap sl85) h230 rfl rfl fld71_0 rfl ?_
                    refine o_lds (dt 10 (fun w m => m.pick [0, 2] rfl)) (enc := encGSpan) (u := (.int .i64 e229.xLo)) 1 rfl (reads_snap sl85) flelGSpan rfl h230 rfl rfl ty3 rfl ?_
                    refine o_sub (dt 11 (fun w m => m.pick [0, 2] rfl)) rfl rfl rfl ?_; intro t231
                    refine o_bld (dt 12 (fun w m => m.pick [0, 2] rfl)) (qs := [(0, (.int .i64 t79)), (1, (.int .i64 t228)), (2, (.int .i64 t231)), (3, (.bool true))]) (cells := [(.int .i64 t79), (.int .i64 t228), (.int .i64 t231), (.bool true)]) (by intro ρ h; simp only [List.map_toArray, List.map_cons, List.map_nil, h (.tmp 78) _ rfl, h (.tmp 83) _ rfl, h (.tmp 88) _ rfl, h (.const (.bool true)) _ rfl]) rfl bld125 rfl ?_
                    refine d_one (i := 13) rfl (by kernel_rfl) (o_bsl (enc := encGTest) (qs := [(0, (.agg #[(.int .i64 t79), (.int .i64 t228), (.int .i64 t231), (.bool true)]))]) (cells := [(.int .i64 t79), (.int .i64 t228), (.int .i64 t231), (.bool true)]) ([(GTest.mk t79 t228 t231 true)]) flelGTest (by intro ρ h; simp only [List.map_toArray, List.map_cons, List.map_nil, h (.tmp 89) _ rfl]) rfl el80 zero125 rfl rfl rfl rfl rfl rfl ?_); intro v232
                    refine d_and (fun w m => m.pick [1, 3] rfl) ?_
                    refine d_one (i := 14) rfl (by kernel_rfl) (o_app 2 0 rfl rfl (src_flat flelGTest reads_own) rfl rfl rfl el80 rfl zero125 rfl rfl ?_); intro v234
                    refine d_and (fun w m => m.pick [1, 3] rfl) ?_
                    refine o_as (dt 15 (fun w m => m.pick [1, 3] rfl)) rfl rfl ?_
                    refine d_done (by kernel_rfl) ?_
                    refine b_norm ?_
                    refine b_norm ?_
                    exact l_join (xs76 ++ ([(GTest.mk t79 t228 t231 true)])) (fun a w hE hm => ⟨v234, hE.sub ⟨rfl, rfl, rfl, trivial⟩, (hm.pick [1, 2, 3] rfl)⟩)
                  · refine c_seq ?_
                    refine c_region ?_
                    refine stw (o_bsl (enc := encGTest) (qs := []) (cells := []) ([] : (List GTest)) flelGTest (by intro ρ h; simp only [List.map_toArray, List.map_cons, List.map_nil]) rfl el80 zero125 rfl rfl rfl rfl rfl rfl ?_); intro v236
                    refine o_as st rfl rfl ?_
                    refine o_as st rfl rfl ?_
                    refine c_nil ?_
                    refine l_then ?_
                    refine c_ret ?_
                    refine b_ret ?_
                    refine b_ret ?_
                    refine l_ret ?_
                    refine l_ret ?_
                    refine b_ret ?_
                    refine l_ret ?_
                    exact l_end2 Tryd.results42 ([], false) v236 (rv_t rfl) (rv_t rfl) rfl (fun w m => NewCh.ofB m [0] rfl)
        · rintro xs298 a w ⟨v299, hE, hm⟩ h
          refine nx_of hE hm h ?_
          clear hE hm h
          refine c_region ?_
          refine o_mv st rfl rfl ?_
          refine o_add st rfl rfl rfl ?_; intro t302
          refine o_as st rfl rfl ?_
          refine c_nil ?_
          exact l_join (xs298, t302) (fun a w hE hm => ⟨v299, hE.sub ⟨rfl, rfl, rfl, trivial⟩, (hm.pick [0, 2, 1] rfl)⟩)
      · refine c_exit ?_
        refine l_exit ?_
        refine l_exit ?_
        refine b_exit ?_
        refine l_then ?_
        refine c_seq ?_
        refine c_region ?_
        refine o_mv st rfl rfl ?_
        refine o_as st rfl rfl ?_
        refine o_as st rfl rfl ?_
        refine c_nil ?_
        refine l_then ?_
        refine c_ret ?_
        exact l_end2 Tryd.results42 (xs76, true) v75 (rv_t rfl) (rv_t rfl) rfl (fun w m => NewCh.ofB m [2] rfl)

set_option maxRecDepth 100000 in
set_option maxHeartbeats 8000000 in
theorem w_spec_FlatRuleset {w0 : World} {F : Nat → Prop} {v1 : Value} {list_0 : (List GFlat)} {rest_1 : Bool} {κ : (GRuleset × Bool) → Prop} (hF : ∀ b, F b → b < w0.heap.size ∧ ¬ feet [] b) (hv1 : Sl elGFlat F w0 v1 list_0) (h : L_spec_FlatRuleset list_0 rest_1 κ) :
    Calls Tryd.prog 13 #[v1, (.bool rest_1)] w0 (Ret [] F w0 κ (fun (r : (GRuleset × Bool)) (u : Value × List Nat) => .tuple #[(.agg #[u.1, (.bool r.1.xAccept)]), (.bool r.2)]) (fun (r : (GRuleset × Bool)) (u : Value × List Nat) => [dpCh (dSl dGRule 89) 54 u.2 u.1 r.1.xChains])) := by
  refine enterS (args := [v1, (.bool rest_1)]) [] hF (Given.nil _ _) Tryd.func13 rfl Tryd.ntmps13 rfl h ?_
  clear h hF
  refine c_seq ?_
  refine c_region ?_
  refine stw (o_alloc rfl [(.slice none 0 0), (.bool false)] zero36 ?_); intro b3
  refine o_as st rfl rfl ?_
  refine c_nil ?_
  refine l_then ?_
  refine c_seq ?_
  refine c_region ?_
  refine o_mv st rfl rfl ?_
  refine stw (o_callP (vs := [v1]) Tryd.call41 rfl rfl (by intro w m h; exact (w_spec_l1OwnFlatList (F := allB [] w) (list_0 := list_0) allB_ok (m.rd0 1 rfl (reads_snap hv1)) h).mono (fun _ _ k => ret_free (fun r u => (fr_cons free_dp fr_nil)) k)) ?_); rintro r5 ⟨v6, bb7⟩
  refine o_as st rfl rfl ?_
  refine c_nil ?_
  refine l_then ?_
  refine c_seq ?_
  refine c_join (σ := Bool) (fun (t70 : Bool) (a : Act) (w : World) => Has 57 [(0, v6), (1, (.bool rest_1)), (4, (.pointer (some ⟨b3, 0, none⟩))), (20, (.bool t70))] a ∧ Mem (gB F [] w0) (feet []) w0 [dpCh dGFlat 87 bb7 v6 r5, cellCh b3 [(.slice none 0 0), (.bool false)] 36] w) ?_ ?_
  · intro k71
    refine c_region ?_
    refine o_mv st rfl rfl ?_
    refine stw (o_callP (vs := [v6]) Tryd.call36 rfl rfl (by intro w m h; exact (w_spec_FlatsValid (F := allB [] w) (list_0 := r5) allB_ok (m.rd0 0 rfl reads_dp) h).mono (fun _ _ k => ret_free (fun r u => fr_nil) k)) ?_); rintro r9 _
    refine o_not st rfl rfl ?_
    refine o_mv st rfl rfl ?_
    refine st_sp (dj := 16) rfl ?_ ?_
    · refine st_s rfl rfl rfl rfl ?_
      refine st_s rfl rfl rfl rfl ?_
      refine st_s rfl rfl rfl rfl ?_
      refine o_pickT st rfl rfl rfl ?_
      refine c_nil ?_
      exact l_join true (fun a w hE hm => ⟨hE.sub ⟨rfl, rfl, rfl, rfl, trivial⟩, (hm.pick [0, 1] rfl)⟩)
    · refine o_mv (st_g rfl rfl) rfl rfl ?_
      refine o_len (st_g rfl rfl) el23 0 rfl reads_dp rfl rfl ?_
      refine o_gtr (st_g rfl rfl) rfl rfl rfl ?_
      refine o_pickF st rfl rfl rfl ?_
      refine c_nil ?_
      exact l_join (decide (8 < (r5.length : Int))) (fun a w hE hm => ⟨hE.sub ⟨rfl, rfl, rfl, rfl, trivial⟩, (hm.pick [0, 1] rfl)⟩)
  · rintro t70 a w ⟨hE, hm⟩ h
    refine nx_of hE hm h ?_
    clear hE hm h
    refine c_cond rfl ?_ ?_
    · refine c_seq ?_
      refine c_region ?_
      refine o_bld st (qs := []) (cells := [(.slice none 0 0), (.bool false)]) (by intro ρ h; simp only [List.map_toArray, List.map_cons, List.map_nil]) rfl bld36 rfl ?_
      refine stw (o_stc (cs' := [(.slice none 0 0), (.bool false)]) 1 rfl rfl rfl ty36 rfl rfl rfl rfl ?_)
      refine o_as st rfl rfl ?_
      refine c_nil ?_
      refine l_then ?_
      refine c_ret ?_
      refine l_ret ?_
      refine nx_dnil (dSl dGRule 89) 54 ?_
      exact l_end2 Tryd.results13 ((GRuleset.mk ([]) false), false) ((.slice none 0 0), []) (rv_c 2 rfl rfl ty36 rfl) (rv_t rfl) rfl (fun w m => NewCh.ofB m [0] rfl)
    · refine c_skip ?_
      refine l_then ?_
      refine c_seq ?_
      refine c_region ?_
      refine stw (o_bslD0 (E' := dGRule) (qs := []) (by intro ρ h; simp only [List.map_toArray, List.map_cons, List.map_nil]) rfl el54 zero89 rfl rfl rfl ?_); intro bb74 v73
      refine o_as st rfl rfl ?_
      refine c_nil ?_
      refine l_then ?_
      refine c_seq ?_
      refine c_seq ?_
      refine c_region ?_
      refine o_as st rfl rfl ?_
      refine c_nil ?_
      refine l_then ?_
      refine c_block ?_
      refine c_loop (σ := ((List GRule) × Int)) (fun ((xs77, t81) : ((List GRule) × Int)) (a : Act) (w : World) => ∃ (v76 : Value) (bb79 : List Nat), Has 57 [(0, v6), (1, (.bool rest_1)), (4, (.pointer (some ⟨b3, 0, none⟩))), (6, v76), (7, (.int .i64 t81))] a ∧ Mem (gB F [] w0) (feet []) w0 [ownCh elGFlat 87 v6 r5, cellCh b3 [(.slice none 0 0), (.bool false)] 36, dpCh dGRule 89 bb79 v76 xs77] w) (fun a w hE hm => ⟨v73, bb74, hE.sub ⟨rfl, rfl, rfl, rfl, rfl, trivial⟩, ((hm.undp 1 rfl).pick [1, 2, 0] rfl)⟩) ?_
      rintro nx82 ⟨xs77, t81⟩ a w ⟨v76, bb79, hE, hm⟩ h
      refine nx_of hE hm h ?_
      clear hE hm h
      refine c_seq ?_
      refine c_seq ?_
      refine c_region ?_
      refine o_mv st rfl rfl ?_
      refine o_mv st rfl rfl ?_
      refine o_len st el23 0 rfl reads_own rfl rfl ?_
      refine o_lss st rfl rfl rfl ?_
      refine c_nil ?_
      refine l_then ?_
      refine c_cond rfl ?_ ?_
      · refine c_skip ?_
        refine l_then ?_
        refine c_seq ?_
        refine c_block ?_
        refine c_seq ?_
        refine c_region ?_
        refine o_mv st rfl rfl ?_
        refine o_mv st rfl rfl ?_
        refine o_idx st 0 rfl reads_own rfl rfl rfl el23 ?_; intro e83 h84
        refine o_fadS st 0 rfl reads_own h84 rfl rfl fld87_0 rfl ?_
        refine stw (o_ldE 0 rfl src_own h84 rfl rfl ty85 ?_); rintro wr85 ff86 _ ⟨v88, rfl, sl89⟩; refine ⟨(.agg #[v88]), rfl, ?_⟩
        refine stw (o_callP (vs := [(.agg #[v88])]) Tryd.call42 rfl rfl (by intro w m h; exact (w_spec_BoxTests (F := allB [] w) (b_0 := e83.xWhere) allB_ok (m.rd0 0 rfl (reads_snap sl89)) h).mono (fun _ _ k => ret_free (fun r u => (fr_cons (free_own flelGTest) fr_nil)) k)) ?_); rintro ⟨r91, r94⟩ v92
        refine o_mv st rfl rfl ?_
        refine o_ext st (vs := [v92, (.bool r94)]) rfl rfl rfl ?_
        refine o_ext st (vs := [v92, (.bool r94)]) rfl rfl rfl ?_
        refine o_as st rfl rfl ?_
        refine o_as st rfl rfl ?_
        refine c_nil ?_
        refine l_then ?_
        refine c_seq ?_
        refine c_seq ?_
        refine c_region ?_
        refine o_mv st rfl rfl ?_
        refine o_not st rfl rfl ?_
        refine c_nil ?_
        refine l_then ?_
        refine c_cond rfl ?_ ?_
        · refine c_seq ?_
          refine c_region ?_
          refine o_bld st (qs := []) (cells := [(.slice none 0 0), (.bool false)]) (by intro ρ h; simp only [List.map_toArray, List.map_cons, List.map_nil]) rfl bld36 rfl ?_
          refine stw (o_stc (cs' := [(.slice none 0 0), (.bool false)]) 3 rfl rfl rfl ty36 rfl rfl rfl rfl ?_)
          refine o_as st rfl rfl ?_
          refine c_nil ?_
          refine l_then ?_
          refine c_ret ?_
          refine l_ret ?_
          refine b_ret ?_
          refine l_ret ?_
          refine l_ret ?_
          refine b_ret ?_
          refine l_ret ?_
          refine nx_dnil (dSl dGRule 89) 54 ?_
          exact l_end2 Tryd.results13 ((GRuleset.mk ([]) false), false) ((.slice none 0 0), []) (rv_c 4 rfl rfl ty36 rfl) (rv_t rfl) rfl (fun w m => NewCh.ofB m [0] rfl)
        · refine c_skip ?_
          refine l_then ?_
          refine c_seq ?_
          refine c_region ?_
          refine o_mv st rfl rfl ?_
          refine nx_own 0 rfl ?_; rintro a96 l97 q98 rfl
          refine o_bld st (qs := [(0, (.slice a96 l97 q98)), (1, (.int .i64 2))]) (cells := [(.slice a96 l97 q98), (.int .i64 2), (.int .i64 0)]) (by intro ρ h; simp only [List.map_toArray, List.map_cons, List.map_nil, h (.tmp 41) _ rfl, h (.const (.int .i64 2)) _ rfl]) rfl bld89 rfl ?_
          refine stw (o_alloc rfl [(.slice none 0 0), (.int .i64 0), (.int .i64 0)] zero89 ?_); intro b99
          refine stw (o_stc (cs' := [(.slice a96 l97 q98), (.int .i64 2), (.int .i64 0)]) 0 rfl rfl rfl ty89 rfl rfl rfl rfl ?_)
          refine c_nil ?_
          refine l_then ?_
          refine c_join (σ := Int) (fun (t163 : Int) (a : Act) (w : World) => Has 57 [(0, v6), (1, (.bool rest_1)), (4, (.pointer (some ⟨b3, 0, none⟩))), (6, v76), (7, (.int .i64 t81)), (10, (.pointer (some ⟨b99, 0, none⟩)))] a ∧ Mem (gB F [] w0) (feet []) w0 [cellCh b99 [(.slice a96 l97 q98), (.int .i64 t163), (.int .i64 0)] 89, ownCh elGTest 125 (.slice a96 l97 q98) r91, ownCh elGFlat 87 v6 r5, cellCh b3 [(.slice none 0 0), (.bool false)] 36, dpCh dGRule 89 bb79 v76 xs77] w) ?_ ?_
          · intro k164
            refine c_seq ?_
            refine c_region ?_
            refine o_mv st rfl rfl ?_
            refine o_mv st rfl rfl ?_
            refine o_idx st 3 rfl reads_own rfl rfl rfl el23 ?_; intro e101 h102
            refine o_fadS st 3 rfl reads_own h102 rfl rfl fld87_1 rfl ?_
            refine o_ldP st (u := (.bool e101.xAccept)) 3 rfl reads_own h102 rfl rfl rfl ty4 (fun F w cs h => by obtain ⟨u, rfl, _⟩ := h; rfl) ?_
            refine c_nil ?_
            refine l_then ?_
            refine c_cond rfl ?_ ?_
            · refine c_region ?_
              refine o_fad st rfl rfl fld89_1 rfl ?_
              refine stw (o_stc (cs' := [(.slice a96 l97 q98), (.int .i64 1), (.int .i64 0)]) 0 rfl rfl rfl ty3 rfl rfl rfl rfl ?_)
              refine c_nil ?_
              exact l_join 1 (fun a w hE hm => ⟨hE.sub ⟨rfl, rfl, rfl, rfl, rfl, rfl, trivial⟩, (hm.pick [0, 1, 3, 4, 5] rfl)⟩)
            · refine c_skip ?_
              exact l_join 2 (fun a w hE hm => ⟨hE.sub ⟨rfl, rfl, rfl, rfl, rfl, rfl, trivial⟩, (hm.pick [0, 1, 3, 4, 5] rfl)⟩)
          · rintro t163 a w ⟨hE, hm⟩ h
            refine nx_of hE hm h ?_
            clear hE hm h
            refine c_region ?_
            refine o_mv st rfl rfl ?_
            refine o_ldc st (v := (.agg #[(.slice a96 l97 q98), (.int .i64 t163), (.int .i64 0)])) 0 rfl rfl rfl ty89 rfl ?_
            refine pk [1, 0, 2, 3, 4] rfl ?_
            refine stw (o_bslD (M := [ownCh elGTest 125 (.slice a96 l97 q98) r91]) (E' := dGRule) (qs := [(0, (.agg #[(.slice a96 l97 q98), (.int .i64 t163), (.int .i64 0)]))]) (cs := [(.slice a96 l97 q98), (.int .i64 t163), (.int .i64 0)]) (GRule.mk r91 t163 0) (absorb_one (gives_own flelGTest) (fun B w h => ⟨_, rfl, h⟩)) (by intro ρ h; simp only [List.map_toArray, List.map_cons, List.map_nil, h (.tmp 50) _ rfl]) rfl el54 zero89 rfl rfl rfl rfl ?_); intro bb166 v165
            refine pk [4, 0, 1, 2, 3] rfl ?_
            refine stw (o_appD rfl rfl rfl el54 rfl zero89 rfl rfl ?_); intro bb169 v168
            refine o_as st rfl rfl ?_
            refine c_nil ?_
            refine b_norm ?_
            refine l_then ?_
            refine c_region ?_
            refine o_mv st rfl rfl ?_
            refine o_add st rfl rfl rfl ?_; intro t171
            refine o_as st rfl rfl ?_
            refine c_nil ?_
            exact l_join ((xs77 ++ ([(GRule.mk r91 t163 0)])), t171) (fun a w hE hm => ⟨v168, bb169, hE.sub ⟨rfl, rfl, rfl, rfl, rfl, trivial⟩, (hm.pick [2, 3, 0] rfl)⟩)
      · refine c_exit ?_
        refine l_exit ?_
        refine l_exit ?_
        refine b_exit ?_
        refine l_then ?_
        refine c_seq ?_
        refine c_region ?_
        refine o_mv st rfl rfl ?_
        refine nx_dp 2 rfl ?_; rintro a172 l173 q174 rfl
        refine pk [2, 0, 1] rfl ?_
        refine stw (o_bslD (M := [dpCh dGRule 89 bb79 (.slice a172 l173 q174) xs77]) (E' := (dSl dGRule 89)) (qs := [(0, (.slice a172 l173 q174))]) (cs := [(.slice a172 l173 q174)]) xs77 (absorb_one gives_dp (fun B w h => ⟨_, rfl, h⟩)) (by intro ρ h; simp only [List.map_toArray, List.map_cons, List.map_nil, h (.tmp 53) _ rfl]) rfl el34 zero54 rfl rfl rfl rfl ?_); intro bb176 v175
        refine o_mv st rfl rfl ?_
        refine nx_dp 0 rfl ?_; rintro a178 l179 q180 rfl
        refine o_bld st (qs := [(0, (.slice a178 l179 q180)), (1, (.bool rest_1))]) (cells := [(.slice a178 l179 q180), (.bool rest_1)]) (by intro ρ h; simp only [List.map_toArray, List.map_cons, List.map_nil, h (.tmp 54) _ rfl, h (.tmp 55) _ rfl]) rfl bld36 rfl ?_
        refine stw (o_stc (cs' := [(.slice a178 l179 q180), (.bool rest_1)]) 2 rfl rfl rfl ty36 rfl rfl rfl rfl ?_)
        refine o_as st rfl rfl ?_
        refine c_nil ?_
        refine l_then ?_
        refine c_ret ?_
        exact l_end2 Tryd.results13 ((GRuleset.mk ([xs77]) rest_1), true) ((.slice a178 l179 q180), bb176) (rv_c 2 rfl rfl ty36 rfl) (rv_t rfl) rfl (fun w m => NewCh.ofB m [0] rfl)

set_option maxRecDepth 100000 in
set_option maxHeartbeats 8000000 in
theorem w_laws_toSpan {w0 : World} {F : Nat → Prop} {a_0 : GSpan} {κ : GSpan → Prop} (hF : ∀ b, F b → b < w0.heap.size ∧ ¬ feet [] b) (h : L_laws_toSpan a_0 κ) :
    Calls Tryd.prog 130 #[(.agg #[(.int .i64 a_0.xLo), (.int .i64 a_0.xHi)])] w0 (Ret [] F w0 κ (fun (r : GSpan) (u : Unit) => (.agg #[(.int .i64 r.xLo), (.int .i64 r.xHi)])) (fun (r : GSpan) (u : Unit) => [])) := by
  refine enter0 (args := [(.agg #[(.int .i64 a_0.xLo), (.int .i64 a_0.xHi)])]) [] hF (Given.nil _ _) Tryd.func130 rfl Tryd.ntmps130 rfl h ?_
  clear h hF
  refine c_seq ?_
  refine c_region ?_
  refine stw (o_box rfl rfl [(.int .i64 a_0.xLo), (.int .i64 a_0.xHi)] rfl ?_); intro b1
  refine stw (o_alloc rfl [(.int .i64 0), (.int .i64 0)] zero71 ?_); intro b3
  refine c_nil ?_
  refine l_then ?_
  refine c_seq ?_
  refine c_region ?_
  refine stw (o_alloc rfl [(.int .i64 0), (.int .i64 0)] zero71 ?_); intro b5
  refine c_nil ?_
  refine l_then ?_
  refine c_seq ?_
  refine c_region ?_
  refine o_fad st rfl rfl fld191_0 rfl ?_
  refine o_ldc st (v := (.int .i64 a_0.xLo)) 2 rfl rfl rfl ty3 rfl ?_
  refine o_fad st rfl rfl fld71_0 rfl ?_
  refine stw (o_stc (cs' := [(.int .i64 a_0.xLo), (.int .i64 0)]) 0 rfl rfl rfl ty3 rfl rfl rfl rfl ?_)
  refine c_nil ?_
  refine l_then ?_
  refine c_seq ?_
  refine c_region ?_
  refine o_fad st rfl rfl fld191_1 rfl ?_
  refine o_ldc st (v := (.int .i64 a_0.xHi)) 2 rfl rfl rfl ty3 rfl ?_
  refine o_fad st rfl rfl fld71_1 rfl ?_
  refine stw (o_stc (cs' := [(.int .i64 a_0.xLo), (.int .i64 a_0.xHi)]) 0 rfl rfl rfl ty3 rfl rfl rfl rfl ?_)
  refine c_nil ?_
  refine l_then ?_
  refine c_seq ?_
  refine c_region ?_
  refine o_ldc st (v := (.agg #[(.int .i64 a_0.xLo), (.int .i64 a_0.xHi)])) 0 rfl rfl rfl ty71 rfl ?_
  refine stw (o_stc (cs' := [(.int .i64 a_0.xLo), (.int .i64 a_0.xHi)]) 1 rfl rfl rfl ty71 rfl rfl rfl rfl ?_)
  refine c_nil ?_
  refine l_then ?_
  refine c_ret ?_
  exact l_end1 Tryd.results130 a_0 () (rv_c 1 rfl rfl ty71 rfl) (fun _ _ => NewCh.nil _ _ _ _)

set_option maxRecDepth 100000 in
set_option maxHeartbeats 8000000 in
theorem w_laws_toSpanS {w0 : World} {F : Nat → Prop} {v1 : Value} {a_0 : (List GSpan)} {κ : (List GSpan) → Prop} (hF : ∀ b, F b → b < w0.heap.size ∧ ¬ feet [] b) (hv1 : Sl elGSpan F w0 v1 a_0) (h : L_laws_toSpanS a_0 κ) :
    Calls Tryd.prog 122 #[v1] w0 (Ret [] F w0 κ (fun (r : (List GSpan)) (u : Value) => u) (fun (r : (List GSpan)) (u : Value) => [ownCh elGSpan 71 u r])) := by
  refine enterS (args := [v1]) [] hF (Given.nil _ _) Tryd.func122 rfl Tryd.ntmps122 rfl h ?_
  clear h hF
  refine c_seq ?_
  refine c_region ?_
  refine stw (o_asn elGSpan 71 rfl rfl ?_)
  refine c_nil ?_
  refine l_then ?_
  refine c_seq ?_
  refine c_region ?_
  refine o_mv st rfl rfl ?_
  refine o_len st el176 1 rfl (reads_snap hv1) rfl rfl ?_
  refine stw (o_make (z := (GSpan.mk 0 0)) flelGSpan rfl rfl rfl el72 rfl zero71 rfl rfl ?_); intro v4 xs5
  refine o_as st rfl rfl ?_
  refine c_nil ?_
  refine l_then ?_
  refine c_seq ?_
  refine c_seq ?_
  refine c_region ?_
  refine o_as st rfl rfl ?_
  refine c_nil ?_
  refine l_then ?_
  refine c_block ?_
  refine c_loop (σ := ((List GSpan) × Int)) (fun ((xs7, t9) : ((List GSpan) × Int)) (a : Act) (w : World) => Has 23 [(0, v1), (3, v4), (4, (.int .i64 t9))] a ∧ Mem (gB F [] w0) (feet []) w0 [ownCh elGSpan 71 v4 xs7, snapCh w0 F] w) (fun a w hE hm => ⟨hE.sub ⟨rfl, rfl, rfl, trivial⟩, (hm.pick [0, 2] rfl)⟩) ?_
  rintro nx10 ⟨xs7, t9⟩ a w ⟨hE, hm⟩ h
  refine nx_of hE hm h ?_
  clear hE hm h
  refine c_seq ?_
  refine c_seq ?_
  refine c_region ?_
  refine o_mv st rfl rfl ?_
  refine o_mv st rfl rfl ?_
  refine o_len st el176 1 rfl (reads_snap hv1) rfl rfl ?_
  refine o_lss st rfl rfl rfl ?_
  refine c_nil ?_
  refine l_then ?_
  refine c_cond rfl ?_ ?_
  · refine c_skip ?_
    refine l_then ?_
    refine c_seq ?_
    refine c_block ?_
    refine c_region ?_
    refine o_mv st rfl rfl ?_
    refine o_mv st rfl rfl ?_
    refine o_mv st rfl rfl ?_
    refine o_mv st rfl rfl ?_
    refine o_idx st 1 rfl (reads_snap hv1) rfl rfl rfl el176 ?_; intro e11 h12
    refine o_lds st (enc := encGSpan) (u := (.agg #[(.int .i64 e11.xLo), (.int .i64 e11.xHi)])) 1 rfl (reads_snap hv1) flelGSpan rfl h12 rfl rfl ty191 rfl ?_
    refine stw (o_callP (vs := [(.agg #[(.int .i64 e11.xLo), (.int .i64 e11.xHi)])]) Tryd.call130 rfl rfl (by intro w m h; exact (w_laws_toSpan (F := allB [] w) (a_0 := e11) allB_ok h).mono (fun _ _ k => ret_free (fun r u => fr_nil) k)) ?_); rintro r13 _
    refine o_idx st 0 rfl reads_own rfl rfl rfl el72 ?_; intro e14 h15
    refine stw (o_sts (enc := encGSpan) (y' := r13) 0 rfl flelGSpan rfl h15 ty71 rfl rfl rfl rfl rfl rfl ?_)
    refine c_nil ?_
    refine b_norm ?_
    refine l_then ?_
    refine c_region ?_
    refine o_mv st rfl rfl ?_
    refine o_add st rfl rfl rfl ?_; intro t17
    refine o_as st rfl rfl ?_
    refine c_nil ?_
    exact l_join ((xs7.set (t9).toNat r13), t17) (fun a w hE hm => ⟨hE.sub ⟨rfl, rfl, rfl, trivial⟩, (hm.pick [0, 1] rfl)⟩)
  · refine c_exit ?_
    refine l_exit ?_
    refine l_exit ?_
    refine b_exit ?_
    refine l_then ?_
    refine c_seq ?_
    refine c_region ?_
    refine o_mv st rfl rfl ?_
    refine o_as st rfl rfl ?_
    refine c_nil ?_
    refine l_then ?_
    refine c_ret ?_
    exact l_end1 Tryd.results122 xs7 v4 (rv_t rfl) (fun w m => NewCh.ofB m [0] rfl)

set_option maxRecDepth 100000 in
set_option maxHeartbeats 8000000 in
theorem w_laws_toSpanSS {w0 : World} {F : Nat → Prop} {v1 : Value} {a_0 : (List (List GSpan))} {κ : (List (List GSpan)) → Prop} (hF : ∀ b, F b → b < w0.heap.size ∧ ¬ feet [] b) (hv1 : Sl (elSl elGSpan) F w0 v1 a_0) (h : L_laws_toSpanSS a_0 κ) :
    Calls Tryd.prog 104 #[v1] w0 (Ret [] F w0 κ (fun (r : (List (List GSpan))) (u : Value × List Nat) => u.1) (fun (r : (List (List GSpan))) (u : Value × List Nat) => [dpCh (dSl dGSpan 71) 72 u.2 u.1 r])) := by
  refine enterS (args := [v1]) [] hF (Given.nil _ _) Tryd.func104 rfl Tryd.ntmps104 rfl h ?_
  clear h hF
  refine c_seq ?_
  refine c_region ?_
  refine stw (o_asd (dSl dGSpan 71) 72 rfl rfl ?_)
  refine c_nil ?_
  refine l_then ?_
  refine c_seq ?_
  refine c_region ?_
  refine o_mv st rfl rfl ?_
  refine o_len st el74 1 rfl (reads_snap hv1) rfl rfl ?_
  refine stw (o_makeD (E' := (dSl dGSpan 71)) (z := ([])) (fun w => ⟨_, rfl, Dp.nil⟩) rfl rfl rfl el83 rfl zero72 rfl ?_); intro bb6 v4 xs5
  refine o_as st rfl rfl ?_
  refine c_nil ?_
  refine l_then ?_
  refine c_seq ?_
  refine c_seq ?_
  refine c_region ?_
  refine o_as st rfl rfl ?_
  refine c_nil ?_
  refine l_then ?_
  refine c_block ?_
  refine c_loop (σ := ((List (List GSpan)) × Int)) (fun ((xs8, t11) : ((List (List GSpan)) × Int)) (a : Act) (w : World) => ∃ (bb10 : List Nat), Has 23 [(0, v1), (3, v4), (4, (.int .i64 t11))] a ∧ Mem (gB F [] w0) (feet []) w0 [dpCh (dSl dGSpan 71) 72 bb10 v4 xs8, snapCh w0 F] w) (fun a w hE hm => ⟨bb6, hE.sub ⟨rfl, rfl, rfl, trivial⟩, (hm.pick [0, 2] rfl)⟩) ?_
  rintro nx12 ⟨xs8, t11⟩ a w ⟨bb10, hE, hm⟩ h
  refine nx_of hE hm h ?_
  clear hE hm h
  refine c_seq ?_
  refine c_seq ?_
  refine c_region ?_
  refine o_mv st rfl rfl ?_
  refine o_mv st rfl rfl ?_
  refine o_len st el74 1 rfl (reads_snap hv1) rfl rfl ?_
  refine o_lss st rfl rfl rfl ?_
  refine c_nil ?_
  refine l_then ?_
  refine c_cond rfl ?_ ?_
  · refine c_skip ?_
    refine l_then ?_
    refine c_seq ?_
    refine c_block ?_
    refine c_region ?_
    refine o_mv st rfl rfl ?_
    refine o_mv st rfl rfl ?_
    refine o_mv st rfl rfl ?_
    refine o_mv st rfl rfl ?_
    refine o_idx st 1 rfl (reads_snap hv1) rfl rfl rfl el74 ?_; intro e13 h14
    obtain ⟨_, ⟨v16, rfl, sl17⟩, rw15⟩ := sl_open hv1 h14
    refine o_ldR st (u := v16) 1 rfl rw15 rfl rfl ty176 rfl ?_
    refine stw (o_callP (vs := [v16]) Tryd.call122 rfl rfl (by intro w m h; exact (w_laws_toSpanS (F := allB [] w) (a_0 := e13) allB_ok (m.rd0 1 rfl (reads_snap sl17)) h).mono (fun _ _ k => ret_free (fun r u => (fr_cons (free_own flelGSpan) fr_nil)) k)) ?_); rintro r19 v20
    refine o_idx st 1 rfl reads_dp rfl rfl rfl el83 ?_; intro e22 h23
    refine nx_own 0 rfl ?_; rintro a24 l25 q26 rfl
    refine pk [1, 0, 2] rfl ?_
    refine stw (o_stD (M := [ownCh elGSpan 71 (.slice a24 l25 q26) r19]) (y' := r19) rfl h23 (fun w B cz h => by obtain ⟨u, rfl, _⟩ := h; exact (absorb_one (gives_own flelGSpan) (fun B w h => ⟨_, rfl, h⟩))) ty72 rfl rfl rfl rfl rfl ?_); intro bb27
    refine c_nil ?_
    refine b_norm ?_
    refine l_then ?_
    refine c_region ?_
    refine o_mv st rfl rfl ?_
    refine o_add st rfl rfl rfl ?_; intro t29
    refine o_as st rfl rfl ?_
    refine c_nil ?_
    exact l_join ((xs8.set (t11).toNat r19), t29) (fun a w hE hm => ⟨bb27, hE.sub ⟨rfl, rfl, rfl, trivial⟩, (hm.pick [0, 1] rfl)⟩)
  · refine c_exit ?_
    refine l_exit ?_
    refine l_exit ?_
    refine b_exit ?_
    refine l_then ?_
    refine c_seq ?_
    refine c_region ?_
    refine o_mv st rfl rfl ?_
    refine o_as st rfl rfl ?_
    refine c_nil ?_
    refine l_then ?_
    refine c_ret ?_
    exact l_end1 Tryd.results104 xs8 (v4, bb10) (rv_t rfl) (fun w m => NewCh.ofB m [0] rfl)

set_option maxRecDepth 100000 in
set_option maxHeartbeats 8000000 in
theorem w_laws_toBox {w0 : World} {F : Nat → Prop} {v1 : Value} {a_0 : GBox} {κ : GBox → Prop} (hF : ∀ b, F b → b < w0.heap.size ∧ ¬ feet [] b) (hv1 : Sl (elSl elGSpan) F w0 v1 a_0.xSides) (h : L_laws_toBox a_0 κ) :
    Calls Tryd.prog 79 #[(.agg #[v1])] w0 (Ret [] F w0 κ (fun (r : GBox) (u : Value × List Nat) => (.agg #[u.1])) (fun (r : GBox) (u : Value × List Nat) => [dpCh (dSl dGSpan 71) 72 u.2 u.1 r.xSides])) := by
  refine enterS (args := [(.agg #[v1])]) [] hF (Given.nil _ _) Tryd.func79 rfl Tryd.ntmps79 rfl h ?_
  clear h hF
  refine c_seq ?_
  refine c_region ?_
  obtain ⟨a3, l4, q5, hs_⟩ := sl_val hv1; subst hs_
  refine stw (o_box rfl rfl [(.slice a3 l4 q5)] rfl ?_); intro b6
  refine stw (o_alloc rfl [(.slice none 0 0)] zero85 ?_); intro b8
  refine c_nil ?_
  refine l_then ?_
  refine c_seq ?_
  refine c_region ?_
  refine stw (o_alloc rfl [(.slice none 0 0)] zero85 ?_); intro b10
  refine c_nil ?_
  refine l_then ?_
  refine c_seq ?_
  refine c_region ?_
  refine o_fad st rfl rfl fld76_0 rfl ?_
  refine o_ldc st (v := (.slice a3 l4 q5)) 2 rfl rfl rfl ty74 rfl ?_
  refine stw (o_callP (vs := [(.slice a3 l4 q5)]) Tryd.call104 rfl rfl (by intro w m h; exact (w_laws_toSpanSS (F := allB [] w) (a_0 := a_0.xSides) allB_ok (m.rd0 3 rfl (reads_snap hv1)) h).mono (fun _ _ k => ret_free (fun r u => (fr_cons free_dp fr_nil)) k)) ?_); rintro r12 ⟨v13, bb14⟩
  refine o_fad st rfl rfl fld85_0 rfl ?_
  refine nx_dp 0 rfl ?_; rintro a16 l17 q18 rfl
  refine stw (o_stc (cs' := [(.slice a16 l17 q18)]) 1 rfl rfl rfl ty83 rfl rfl rfl rfl ?_)
  refine c_nil ?_
  refine l_then ?_
  refine c_seq ?_
  refine c_region ?_
  refine o_ldc st (v := (.agg #[(.slice a16 l17 q18)])) 1 rfl rfl rfl ty85 rfl ?_
  refine stw (o_stc (cs' := [(.slice a16 l17 q18)]) 2 rfl rfl rfl ty85 rfl rfl rfl rfl ?_)
  refine c_nil ?_
  refine l_then ?_
  refine c_ret ?_
  exact l_end1 Tryd.results79 (GBox.mk r12) ((.slice a16 l17 q18), bb14) (rv_c 2 rfl rfl ty85 rfl) (fun w m => NewCh.ofB m [0] rfl)



end
section
open Go.RowKit
set_option maxRecDepth 100000 in
set_option maxHeartbeats 8000000 in
theorem w_laws_toFlat {w0 : World} {F : Nat → Prop} {v1 : Value} {a_0 : GFlat} {κ : GFlat → Prop} (hF : ∀ b, F b → b < w0.heap.size ∧ ¬ feet [] b) (hv1 : Sl (elSl elGSpan) F w0 v1 a_0.xWhere.xSides) (h : L_laws_toFlat a_0 κ) :
    Calls Tryd.prog 43 #[(.agg #[v1, (.bool a_0.xAccept)])] w0 (Ret [] F w0 κ (fun (r : GFlat) (u : Value × List Nat) => (.agg #[u.1, (.bool r.xAccept)])) (fun (r : GFlat) (u : Value × List Nat) => [dpCh (dSl dGSpan 71) 72 u.2 u.1 r.xWhere.xSides])) := by
  refine enterS (args := [(.agg #[v1, (.bool a_0.xAccept)])]) [] hF (Given.nil _ _) Tryd.func43 rfl Tryd.ntmps43 rfl h ?_
  clear h hF
  refine c_seq ?_
  refine c_region ?_
  obtain ⟨a3, l4, q5, hs_⟩ := sl_val hv1; subst hs_
  refine stw (o_box rfl rfl [(.slice a3 l4 q5), (.bool a_0.xAccept)] rfl ?_); intro b6
  refine stw (o_alloc rfl [(.slice none 0 0), (.bool false)] zero87 ?_); intro b8
  refine c_nil ?_
  refine l_then ?_
  refine c_seq ?_
  refine c_region ?_
  refine stw (o_alloc rfl [(.slice none 0 0), (.bool false)] zero87 ?_); intro b10
  refine c_nil ?_
  refine l_then ?_
  refine c_seq ?_
  refine c_region ?_
  refine o_fad st rfl rfl fld78_0 rfl ?_
  refine o_ldc st (v := (.agg #[(.slice a3 l4 q5)])) 2 rfl rfl rfl ty76 rfl ?_
  refine stw (o_callP (vs := [(.agg #[(.slice a3 l4 q5)])]) Tryd.call79 rfl rfl (by intro w m h; exact (w_laws_toBox (F := allB [] w) (a_0 := a_0.xWhere) allB_ok (m.rd0 3 rfl (reads_snap hv1)) h).mono (fun _ _ k => ret_free (fun r u => (fr_cons free_dp fr_nil)) k)) ?_); rintro r12 ⟨v13, bb14⟩
  refine o_fad st rfl rfl fld87_0 rfl ?_
  refine nx_dp 0 rfl ?_; rintro a16 l17 q18 rfl
  refine stw (o_stc (cs' := [(.slice a16 l17 q18), (.bool false)]) 1 rfl rfl rfl ty85 rfl rfl rfl rfl ?_)
  refine c_nil ?_
  refine l_then ?_
  refine c_seq ?_
  refine c_region ?_
  refine o_fad st rfl rfl fld78_1 rfl ?_
  refine o_ldc st (v := (.bool a_0.xAccept)) 3 rfl rfl rfl ty4 rfl ?_
  refine o_fad st rfl rfl fld87_1 rfl ?_
  refine stw (o_stc (cs' := [(.slice a16 l17 q18), (.bool a_0.xAccept)]) 1 rfl rfl rfl ty4 rfl rfl rfl rfl ?_)
  refine c_nil ?_
  refine l_then ?_
  refine c_seq ?_
  refine c_region ?_
  refine o_ldc st (v := (.agg #[(.slice a16 l17 q18), (.bool a_0.xAccept)])) 1 rfl rfl rfl ty87 rfl ?_
  refine stw (o_stc (cs' := [(.slice a16 l17 q18), (.bool a_0.xAccept)]) 2 rfl rfl rfl ty87 rfl rfl rfl rfl ?_)
  refine c_nil ?_
  refine l_then ?_
  refine c_ret ?_
  exact l_end1 Tryd.results43 (GFlat.mk r12 a_0.xAccept) ((.slice a16 l17 q18), bb14) (rv_c 2 rfl rfl ty87 rfl) (fun w m => NewCh.ofB m [0] rfl)

set_option maxRecDepth 100000 in
set_option maxHeartbeats 8000000 in
theorem w_laws_toFlatS {w0 : World} {F : Nat → Prop} {v1 : Value} {a_0 : (List GFlat)} {κ : (List GFlat) → Prop} (hF : ∀ b, F b → b < w0.heap.size ∧ ¬ feet [] b) (hv1 : Sl elGFlat F w0 v1 a_0) (h : L_laws_toFlatS a_0 κ) :
    Calls Tryd.prog 14 #[v1] w0 (Ret [] F w0 κ (fun (r : (List GFlat)) (u : Value × List Nat) => u.1) (fun (r : (List GFlat)) (u : Value × List Nat) => [dpCh dGFlat 87 u.2 u.1 r])) := by
  refine enterS (args := [v1]) [] hF (Given.nil _ _) Tryd.func14 rfl Tryd.ntmps14 rfl h ?_
  clear h hF
  refine c_seq ?_
  refine c_region ?_
  refine stw (o_asd dGFlat 87 rfl rfl ?_)
  refine c_nil ?_
  refine l_then ?_
  refine c_seq ?_
  refine c_region ?_
  refine o_mv st rfl rfl ?_
  refine o_len st el32 1 rfl (reads_snap hv1) rfl rfl ?_
  refine stw (o_makeD (E' := dGFlat) (z := (GFlat.mk (GBox.mk ([])) false)) (fun w => ⟨_, rfl, Dp.nil⟩) rfl rfl rfl el23 rfl zero87 rfl ?_); intro bb6 v4 xs5
  refine o_as st rfl rfl ?_
  refine c_nil ?_
  refine l_then ?_
  refine c_seq ?_
  refine c_seq ?_
  refine c_region ?_
  refine o_as st rfl rfl ?_
  refine c_nil ?_
  refine l_then ?_
  refine c_block ?_
  refine c_loop (σ := ((List GFlat) × Int)) (fun ((xs8, t11) : ((List GFlat) × Int)) (a : Act) (w : World) => ∃ (bb10 : List Nat), Has 23 [(0, v1), (3, v4), (4, (.int .i64 t11))] a ∧ Mem (gB F [] w0) (feet []) w0 [dpCh dGFlat 87 bb10 v4 xs8, snapCh w0 F] w) (fun a w hE hm => ⟨bb6, hE.sub ⟨rfl, rfl, rfl, trivial⟩, (hm.pick [0, 2] rfl)⟩) ?_
  rintro nx12 ⟨xs8, t11⟩ a w ⟨bb10, hE, hm⟩ h
  refine nx_of hE hm h ?_
  clear hE hm h
  refine c_seq ?_
  refine c_seq ?_
  refine c_region ?_
  refine o_mv st rfl rfl ?_
  refine o_mv st rfl rfl ?_
  refine o_len st el32 1 rfl (reads_snap hv1) rfl rfl ?_
  refine o_lss st rfl rfl rfl ?_
  refine c_nil ?_
  refine l_then ?_
  refine c_cond rfl ?_ ?_
  · refine c_skip ?_
    refine l_then ?_
    refine c_seq ?_
    refine c_block ?_
    refine c_region ?_
    refine o_mv st rfl rfl ?_
    refine o_mv st rfl rfl ?_
    refine o_mv st rfl rfl ?_
    refine o_mv st rfl rfl ?_
    refine o_idx st 1 rfl (reads_snap hv1) rfl rfl rfl el32 ?_; intro e13 h14
    obtain ⟨_, ⟨v16, rfl, sl17⟩, rw15⟩ := sl_open hv1 h14
    refine o_ldR st (u := (.agg #[v16, (.bool e13.xAccept)])) 1 rfl rw15 rfl rfl ty78 rfl ?_
    refine stw (o_callP (vs := [(.agg #[v16, (.bool e13.xAccept)])]) Tryd.call43 rfl rfl (by intro w m h; exact (w_laws_toFlat (F := allB [] w) (a_0 := e13) allB_ok (m.rd0 1 rfl (reads_snap sl17)) h).mono (fun _ _ k => ret_free (fun r u => (fr_cons free_dp fr_nil)) k)) ?_); rintro r19 ⟨v20, bb21⟩
    refine o_idx st 1 rfl reads_dp rfl rfl rfl el23 ?_; intro e23 h24
    refine nx_dp 0 rfl ?_; rintro a25 l26 q27 rfl
    refine pk [1, 0, 2] rfl ?_
    refine stw (o_stD (M := [dpCh (dSl dGSpan 71) 72 bb21 (.slice a25 l26 q27) r19.xWhere.xSides]) (y' := r19) rfl h24 (fun w B cz h => by obtain ⟨u, rfl, _⟩ := h; exact (absorb_one gives_dp (fun B w h => ⟨_, rfl, h⟩))) ty87 rfl rfl rfl rfl rfl ?_); intro bb28
    refine c_nil ?_
    refine b_norm ?_
    refine l_then ?_
    refine c_region ?_
    refine o_mv st rfl rfl ?_
    refine o_add st rfl rfl rfl ?_; intro t30
    refine o_as st rfl rfl ?_
    refine c_nil ?_
    exact l_join ((xs8.set (t11).toNat r19), t30) (fun a w hE hm => ⟨bb28, hE.sub ⟨rfl, rfl, rfl, trivial⟩, (hm.pick [0, 1] rfl)⟩)
  · refine c_exit ?_
    refine l_exit ?_
    refine l_exit ?_
    refine b_exit ?_
    refine l_then ?_
    refine c_seq ?_
    refine c_region ?_
    refine o_mv st rfl rfl ?_
    refine o_as st rfl rfl ?_
    refine c_nil ?_
    refine l_then ?_
    refine c_ret ?_
    exact l_end1 Tryd.results14 xs8 (v4, bb10) (rv_t rfl) (fun w m => NewCh.ofB m [0] rfl)

set_option maxRecDepth 100000 in
set_option maxHeartbeats 8000000 in
theorem w_impl_sides_empty {w0 : World} {F : Nat → Prop} {v1 : Value} {v3 : Value} {v5 : Value} {v7 : Value} {s_0 : A4ListGSpan} {κ : Bool → Prop} (hF : ∀ b, F b → b < w0.heap.size ∧ ¬ feet [] b) (hv1 : Sl elGSpan F w0 v1 s_0.x0) (hv3 : Sl elGSpan F w0 v3 s_0.x1) (hv5 : Sl elGSpan F w0 v5 s_0.x2) (hv7 : Sl elGSpan F w0 v7 s_0.x3) (h : L_impl_sides_empty s_0 κ) :
    Calls Tryd.prog 80 #[(.agg #[v1, v3, v5, v7])] w0 (Ret [] F w0 κ (fun (r : Bool) (u : Unit) => (.bool r)) (fun (r : Bool) (u : Unit) => [])) := by
  refine enterS (args := [(.agg #[v1, v3, v5, v7])]) [] hF (Given.nil _ _) Tryd.func80 rfl Tryd.ntmps80 rfl h ?_
  clear h hF
  refine c_seq ?_
  refine c_region ?_
  obtain ⟨a9, l10, q11, hs_⟩ := sl_val hv1; subst hs_
  obtain ⟨a12, l13, q14, hs_⟩ := sl_val hv3; subst hs_
  obtain ⟨a15, l16, q17, hs_⟩ := sl_val hv5; subst hs_
  obtain ⟨a18, l19, q20, hs_⟩ := sl_val hv7; subst hs_
  refine stw (o_boxA (El' := (elSl elGSpan)) (len := 4) ([s_0.x0, s_0.x1, s_0.x2, s_0.x3]) ([[(.slice a9 l10 q11)], [(.slice a12 l13 q14)], [(.slice a15 l16 q17)], [(.slice a18 l19 q20)]]) (fun w m => ⟨⟨(.slice a9 l10 q11), rfl, (m.roS 0 rfl hv1)⟩, ⟨(.slice a12 l13 q14), rfl, (m.roS 0 rfl hv3)⟩, ⟨(.slice a15 l16 q17), rfl, (m.roS 0 rfl hv5)⟩, ⟨(.slice a18 l19 q20), rfl, (m.roS 0 rfl hv7)⟩, trivial⟩) rfl rfl rfl rfl rfl rfl ?_); intro b21
  refine o_as st rfl rfl ?_
  refine c_nil ?_
  refine l_then ?_
  refine c_seq ?_
  refine c_seq ?_
  refine c_region ?_
  refine stw (o_ldAN (len := 4) 0 rfl src_own rfl rfl rfl ty114 rfl ?_); rintro wr23 ff24 _ hrows_; obtain ⟨_, _, _, _, rfl, hc0_, hc1_, hc2_, hc3_⟩ := rows_l4 hrows_; obtain ⟨v26, rfl, sl27⟩ := hc0_; obtain ⟨v29, rfl, sl30⟩ := hc1_; obtain ⟨v32, rfl, sl33⟩ := hc2_; obtain ⟨v35, rfl, sl36⟩ := hc3_; refine ⟨[v26, v29, v32, v35], rfl, ?_⟩
  refine o_mv st rfl rfl ?_
  refine c_nil ?_
  refine l_then ?_
  refine c_block ?_
  refine c_loop (σ := Int) (fun (t38 : Int) (a : Act) (w : World) => Has 13 [(5, (.agg #[v26, v29, v32, v35])), (6, (.int .i64 t38))] a ∧ Mem (gB F [] w0) (feet []) w0 [snapCh wr23 ff24] w) (fun a w hE hm => ⟨hE.sub ⟨rfl, rfl, trivial⟩, (hm.pick [0] rfl)⟩) ?_
  rintro nx39 t38 a w ⟨hE, hm⟩ h
  refine nx_of hE hm h ?_
  clear hE hm h
  refine c_seq ?_
  refine c_region ?_
  refine o_lss st rfl rfl rfl ?_
  refine c_nil ?_
  refine l_then ?_
  refine c_seq ?_
  refine c_cond rfl ?_ ?_
  · refine c_skip ?_
    refine l_then ?_
    refine c_seq ?_
    refine c_block ?_
    refine c_seq ?_
    refine c_region ?_
    refine o_ixN st (vs := [v26, v29, v32, v35]) (xs := [s_0.x0, s_0.x1, s_0.x2, s_0.x3]) (fun w m => ⟨(m.roS 0 rfl sl27), (m.roS 0 rfl sl30), (m.roS 0 rfl sl33), (m.roS 0 rfl sl36), trivial⟩) rfl rfl rfl arr114 rfl ?_; intro v40 e41 h42
    refine o_as st rfl rfl ?_
    refine c_nil ?_
    refine l_then ?_
    refine c_seq ?_
    refine c_region ?_
    refine o_mv st rfl rfl ?_
    refine o_len st el72 0 rfl reads_ro rfl rfl ?_
    refine o_eql st und3 rfl rfl rfl ?_
    refine c_nil ?_
    refine l_then ?_
    refine c_cond rfl ?_ ?_
    · refine c_seq ?_
      refine c_region ?_
      refine o_as st rfl rfl ?_
      refine c_nil ?_
      refine l_then ?_
      refine c_ret ?_
      refine b_ret ?_
      refine l_ret ?_
      refine l_ret ?_
      refine b_ret ?_
      refine l_ret ?_
      exact l_end1 Tryd.results80 true () (rv_t rfl) (fun _ _ => NewCh.nil _ _ _ _)
    · refine c_skip ?_
      refine b_norm ?_
      refine l_then ?_
      refine c_region ?_
      refine o_add st rfl rfl rfl ?_; intro t44
      refine o_mv st rfl rfl ?_
      refine c_nil ?_
      exact l_join t44 (fun a w hE hm => ⟨hE.sub ⟨rfl, rfl, trivial⟩, (hm.pick [1] rfl)⟩)
  · refine c_exit ?_
    refine l_exit ?_
    refine l_exit ?_
    refine b_exit ?_
    refine l_then ?_
    refine c_seq ?_
    refine c_region ?_
    refine o_as st rfl rfl ?_
    refine c_nil ?_
    refine l_then ?_
    refine c_ret ?_
    exact l_end1 Tryd.results80 false () (rv_t rfl) (fun _ _ => NewCh.nil _ _ _ _)

end

end Go.Proofs.YtpbmhkfbggmofaaDoor
