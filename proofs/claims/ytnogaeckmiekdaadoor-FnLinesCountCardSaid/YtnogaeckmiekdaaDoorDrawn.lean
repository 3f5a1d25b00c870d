/- The steps of printed walks: regions that draw their order. -/
import Derived.Test.YtnogaeckmiekdaaDoorStep5
set_option linter.unusedSimpArgs false
set_option linter.unusedVariables false
namespace Go.Proofs.YtnogaeckmiekdaaDoor
open Go.RowKit

class PanicOk (Q : Exit → Act → World → Prop) : Prop where
  ok : ∀ c a d v w, Q (.panic c) (Act.put a d v) w → Q (.panic c) a w
instance panicThen {K : Act → World → Prop} {Q : Exit → Act → World → Prop} [h : PanicOk Q] : PanicOk (Exit.then K Q) := ⟨fun c a d v w k => h.ok c a d v w k⟩
instance panicIn {id : Nat} {Q : Exit → Act → World → Prop} [h : PanicOk Q] : PanicOk (Exit.inBlock id Q) := ⟨fun c a d v w k => h.ok c a d v w k⟩
instance panicBody {P : Program} {fn : Func} {K : Ending → World → Prop} : PanicOk (bodyPost P fn K) := ⟨fun c a d v w k => by cases d <;> exact k⟩

section
variable {P : Program} {n : Nat} {G D : Nat → Prop} {w0 : World} {Q : Exit → Act → World → Prop} {R : Act → World → Prop} {E : Env} {L Lb : List Ch} {φ : Prop}
variable {dst : Option Tmp} {op : Op} {ty : TypeId} {pos : String} {aft : Array Edge} {ops : Array Oper} {listed : Array Bool} {k : Nat}

theorem Mem.drew {w : World} (m : Mem G D w0 L w) : Mem G D w0 L { w with drawn := w.drawn + 1 } := m.grow ((Below.refl _ _).drew)
theorem c_draw {id : Nat} {l : List Oper} (hm : P.follows .mixedOrders = true) (k : Nat) (hk : l.length = k) (Lb : List Ch)
    (h : Nx n G D w0 (wpAnyH P .any l.toArray Q (Mem G D w0 Lb) k (Array.replicate k false)) E L φ) : Nx n G D w0 ((Code.region id l.toArray true).wp P Q) E L φ := fun a w hE m hφ => by
  refine wp_region_held (S := Mem G D w0 Lb) hm ?_
  have := h a _ hE m.drew hφ
  simpa [hk] using this
/-- an operation that only reads is taken first -/
theorem d_take {i : Nat} (hi : ops[i]? = some ⟨dst, op, ty, pos, aft, none⟩) (hs : Region.noSelect ops = true) (hf : Region.free .any ops listed i = true) (hr : (Region.ready .any ops listed).contains i = true)
    [hQ : PanicOk Q] (hL : ∀ w, Mem G D w0 L w → Mem G D w0 Lb w) :
    Mode P n G D w0 E ⟨dst, op, ty, pos, aft, none⟩ (wpAnyH P .any ops Q (Mem G D w0 Lb) (k + 1) listed) (wpAnyH P .any ops Q (Mem G D w0 Lb) k (listed.setIfInBounds i true)) Lb L :=
  ⟨fun {φ ψ d v} hd ho hrun hψ h a w hE m hφ => wpAnyH_take hi hs hf hr (fun c a w => hQ.ok c a _ v w) (.inl ⟨by simp [Region.wanted], fun w' hS => hrun a.eval w' (fun x v h => hE.eval h) hS hφ⟩) (hL w m) (by
    simp only at ho
    subst ho
    exact h _ _ (hE.put hd v) m (hψ hφ))⟩
theorem d_takeg {i j dj : Nat} {want : Bool} (hi : ops[i]? = some ⟨dst, op, ty, pos, aft, some (j, want)⟩) (hs : Region.noSelect ops = true) (hf : Region.free .any ops listed i = true) (hr : (Region.ready .any ops listed).contains i = true)
    [hQ : PanicOk Q] (hL : ∀ w, Mem G D w0 L w → Mem G D w0 Lb w) (hj : (ops[j]?).bind (·.dst) = some dj) (hv : eget E dj = some (.bool want)) :
    Mode P n G D w0 E ⟨dst, op, ty, pos, aft, some (j, want)⟩ (wpAnyH P .any ops Q (Mem G D w0 Lb) (k + 1) listed) (wpAnyH P .any ops Q (Mem G D w0 Lb) k (listed.setIfInBounds i true)) Lb L :=
  ⟨fun {φ ψ d v} hd ho hrun hψ h a w hE m hφ => wpAnyH_take hi hs hf hr (fun c a w => hQ.ok c a _ v w) (.inl ⟨by simp [Region.wanted, yielded_of hj hE hv], fun w' hS => hrun a.eval w' (fun x v h => hE.eval h) hS hφ⟩) (hL w m) (by
    simp only at ho
    subst ho
    exact h _ _ (hE.put hd v) m (hψ hφ))⟩
/-- an operation whose guard says no -/
theorem d_skip {d : Tmp} {i j dj : Nat} {want : Bool} {v : Value} (hi : ops[i]? = some ⟨some d, op, ty, pos, aft, some (j, want)⟩) (hs : Region.noSelect ops = true) (hf : Region.free .any ops listed i = true) (hr : (Region.ready .any ops listed).contains i = true)
    [hQ : PanicOk Q] (hL : ∀ w, Mem G D w0 L w → Mem G D w0 Lb w) (hj : (ops[j]?).bind (·.dst) = some dj) (hv : eget E dj = some v) (hb : nw v want = true) (hd : Nat.blt d n = true)
    (h : Nx n G D w0 (wpAnyH P .any ops Q (Mem G D w0 Lb) k (listed.setIfInBounds i true)) ((d, undef) :: E) L φ) : Nx n G D w0 (wpAnyH P .any ops Q (Mem G D w0 Lb) (k + 1) listed) E L φ := fun a w hE m hφ =>
  wpAnyH_take hi hs hf hr (fun c a w => hQ.ok c a _ _ w) (.inr ⟨not_wanted rfl hj hE hv hb, rfl⟩) (hL w m) (h _ _ (hE.put hd _) m hφ)
theorem d_skip0 {i j dj : Nat} {want : Bool} {v : Value} (hi : ops[i]? = some ⟨none, op, ty, pos, aft, some (j, want)⟩) (hs : Region.noSelect ops = true) (hf : Region.free .any ops listed i = true) (hr : (Region.ready .any ops listed).contains i = true)
    [hQ : PanicOk Q] (hL : ∀ w, Mem G D w0 L w → Mem G D w0 Lb w) (hj : (ops[j]?).bind (·.dst) = some dj) (hv : eget E dj = some v) (hb : nw v want = true)
    (h : Nx n G D w0 (wpAnyH P .any ops Q (Mem G D w0 Lb) k (listed.setIfInBounds i true)) E L φ) : Nx n G D w0 (wpAnyH P .any ops Q (Mem G D w0 Lb) (k + 1) listed) E L φ := fun a w hE m hφ =>
  wpAnyH_take hi hs hf hr (fun c a w => hQ.ok c a _ _ w) (.inr ⟨not_wanted rfl hj hE hv hb, rfl⟩) (hL w m) (h _ _ hE m hφ)
/-- what must hold of a place of a region that is taken first -/
def takB (ops : Array Oper) (listed : Array Bool) (i : Nat) : Bool := Region.noSelect ops && Region.free .any ops listed i && (Region.ready .any ops listed).contains i
theorem dt (i : Nat) (hL : ∀ w, Mem G D w0 L w → Mem G D w0 Lb w) [hQ : PanicOk Q] (hi : ops[i]? = some ⟨dst, op, ty, pos, aft, none⟩ := by rfl) (hr : takB ops listed i = true := by kernel_rfl) :
    Mode P n G D w0 E ⟨dst, op, ty, pos, aft, none⟩ (wpAnyH P .any ops Q (Mem G D w0 Lb) (k + 1) listed) (wpAnyH P .any ops Q (Mem G D w0 Lb) k (listed.setIfInBounds i true)) Lb L := by
  simp only [takB, Bool.and_eq_true] at hr
  exact d_take hi hr.1.1 hr.1.2 hr.2 hL
theorem dtg (i : Nat) {j dj : Nat} {want : Bool} (hL : ∀ w, Mem G D w0 L w → Mem G D w0 Lb w) [hQ : PanicOk Q] (hi : ops[i]? = some ⟨dst, op, ty, pos, aft, some (j, want)⟩ := by rfl) (hr : takB ops listed i = true := by kernel_rfl) (hj : (ops[j]?).bind (·.dst) = some dj := by rfl) (hv : eget E dj = some (.bool want) := by rfl) :
    Mode P n G D w0 E ⟨dst, op, ty, pos, aft, some (j, want)⟩ (wpAnyH P .any ops Q (Mem G D w0 Lb) (k + 1) listed) (wpAnyH P .any ops Q (Mem G D w0 Lb) k (listed.setIfInBounds i true)) Lb L := by
  simp only [takB, Bool.and_eq_true] at hr
  exact d_takeg hi hr.1.1 hr.1.2 hr.2 hL hj hv
theorem dsk (i : Nat) {d : Tmp} {j dj : Nat} {want : Bool} {v : Value} (hL : ∀ w, Mem G D w0 L w → Mem G D w0 Lb w) [hQ : PanicOk Q] (hi : ops[i]? = some ⟨some d, op, ty, pos, aft, some (j, want)⟩) (hr : takB ops listed i = true) (hj : (ops[j]?).bind (·.dst) = some dj) (hv : eget E dj = some v) (hb : nw v want = true) (hd : Nat.blt d n = true)
    (h : Nx n G D w0 (wpAnyH P .any ops Q (Mem G D w0 Lb) k (listed.setIfInBounds i true)) ((d, undef) :: E) L φ) : Nx n G D w0 (wpAnyH P .any ops Q (Mem G D w0 Lb) (k + 1) listed) E L φ := by
  simp only [takB, Bool.and_eq_true] at hr
  exact d_skip hi hr.1.1 hr.1.2 hr.2 hL hj hv hb hd h
theorem dsk0 (i : Nat) {j dj : Nat} {want : Bool} {v : Value} (hL : ∀ w, Mem G D w0 L w → Mem G D w0 Lb w) [hQ : PanicOk Q] (hi : ops[i]? = some ⟨none, op, ty, pos, aft, some (j, want)⟩) (hr : takB ops listed i = true) (hj : (ops[j]?).bind (·.dst) = some dj) (hv : eget E dj = some v) (hb : nw v want = true)
    (h : Nx n G D w0 (wpAnyH P .any ops Q (Mem G D w0 Lb) k (listed.setIfInBounds i true)) E L φ) : Nx n G D w0 (wpAnyH P .any ops Q (Mem G D w0 Lb) (k + 1) listed) E L φ := by
  simp only [takB, Bool.and_eq_true] at hr
  exact d_skip0 hi hr.1.1 hr.1.2 hr.2 hL hj hv hb h
/-- the one operation that can come up -/
theorem d_op {i : Nat} {S : World → Prop} {o : Oper} {E' : Env} (hi : ops[i]? = some o) (hw : ∀ a, Has n E a → Region.wanted o (yielded ops a.tmps) = true) (hr : Region.ready .any ops listed = [i])
    (h : Nx n G D w0 (fun a w => Oper.wp P o a w (fun a' w' => S w' ∧ wpAnyH P .any ops Q S k (listed.setIfInBounds i true) a' w') Q) E L φ) : Nx n G D w0 (wpAnyH P .any ops Q S (k + 1) listed) E L φ := fun a w hE m hφ => by
  refine wpAnyH_all hr (by simp) (fun j hj => ?_)
  simp at hj
  subst hj
  unfold wpOp
  simp only [hi, hw a hE, if_true]
  exact .inl (h a w hE m hφ)
theorem d_one {i : Nat} (hi : ops[i]? = some ⟨dst, op, ty, pos, aft, none⟩) (hr : Region.ready .any ops listed = [i])
    (h : Nx n G D w0 (fun a w => Oper.wp P ⟨dst, op, ty, pos, aft, none⟩ a w (fun a' w' => Mem G D w0 Lb w' ∧ wpAnyH P .any ops Q (Mem G D w0 Lb) k (listed.setIfInBounds i true) a' w') Q) E L φ) : Nx n G D w0 (wpAnyH P .any ops Q (Mem G D w0 Lb) (k + 1) listed) E L φ :=
  d_op (E' := E) hi (fun a hE => by simp [Region.wanted]) hr h
theorem d_oneg {i j dj : Nat} {want : Bool} (hi : ops[i]? = some ⟨dst, op, ty, pos, aft, some (j, want)⟩) (hj : (ops[j]?).bind (·.dst) = some dj) (hv : eget E dj = some (.bool want)) (hr : Region.ready .any ops listed = [i])
    (h : Nx n G D w0 (fun a w => Oper.wp P ⟨dst, op, ty, pos, aft, some (j, want)⟩ a w (fun a' w' => Mem G D w0 Lb w' ∧ wpAnyH P .any ops Q (Mem G D w0 Lb) k (listed.setIfInBounds i true) a' w') Q) E L φ) : Nx n G D w0 (wpAnyH P .any ops Q (Mem G D w0 Lb) (k + 1) listed) E L φ :=
  d_op (E' := E) hi (fun a hE => by simp [Region.wanted, yielded_of hj hE hv]) hr h
/-- two operations, either of which can come up -/
theorem d_two {i j : Nat} (hi : ops[i]?.map (·.guard) = some none) (hj : ops[j]?.map (·.guard) = some none) (hr : Region.ready .any ops listed = [i, j])
    (h1 : ∀ o, ops[i]? = some o → Nx n G D w0 (fun a w => Oper.wp P o a w (fun a' w' => Mem G D w0 Lb w' ∧ wpAnyH P .any ops Q (Mem G D w0 Lb) k (listed.setIfInBounds i true) a' w') Q) E L φ)
    (h2 : ∀ o, ops[j]? = some o → Nx n G D w0 (fun a w => Oper.wp P o a w (fun a' w' => Mem G D w0 Lb w' ∧ wpAnyH P .any ops Q (Mem G D w0 Lb) k (listed.setIfInBounds j true) a' w') Q) E L φ) :
    Nx n G D w0 (wpAnyH P .any ops Q (Mem G D w0 Lb) (k + 1) listed) E L φ := fun a w hE m hφ => by
  refine wpAnyH_all hr (by simp) (fun x hx => ?_)
  simp at hx
  unfold wpOp
  rcases hx with rfl | rfl
  · cases ho : ops[x]? with
    | none => simp [ho] at hi
    | some o => simp [ho] at hi; simp only [Region.wanted, hi, if_true]; exact .inl (h1 o ho a w hE m hφ)
  · cases ho : ops[x]? with
    | none => simp [ho] at hj
    | some o => simp [ho] at hj; simp only [Region.wanted, hj, if_true]; exact .inl (h2 o ho a w hE m hφ)
theorem d_three {i j l : Nat} (hi : ops[i]?.map (·.guard) = some none) (hj : ops[j]?.map (·.guard) = some none) (hl : ops[l]?.map (·.guard) = some none) (hr : Region.ready .any ops listed = [i, j, l])
    (h1 : ∀ o, ops[i]? = some o → Nx n G D w0 (fun a w => Oper.wp P o a w (fun a' w' => Mem G D w0 Lb w' ∧ wpAnyH P .any ops Q (Mem G D w0 Lb) k (listed.setIfInBounds i true) a' w') Q) E L φ)
    (h2 : ∀ o, ops[j]? = some o → Nx n G D w0 (fun a w => Oper.wp P o a w (fun a' w' => Mem G D w0 Lb w' ∧ wpAnyH P .any ops Q (Mem G D w0 Lb) k (listed.setIfInBounds j true) a' w') Q) E L φ)
    (h3 : ∀ o, ops[l]? = some o → Nx n G D w0 (fun a w => Oper.wp P o a w (fun a' w' => Mem G D w0 Lb w' ∧ wpAnyH P .any ops Q (Mem G D w0 Lb) k (listed.setIfInBounds l true) a' w') Q) E L φ) :
    Nx n G D w0 (wpAnyH P .any ops Q (Mem G D w0 Lb) (k + 1) listed) E L φ := fun a w hE m hφ => by
  refine wpAnyH_all hr (by simp) (fun x hx => ?_)
  simp at hx
  unfold wpOp
  rcases hx with rfl | rfl | rfl
  · cases ho : ops[x]? with
    | none => simp [ho] at hi
    | some o => simp [ho] at hi; simp only [Region.wanted, hi, if_true]; exact .inl (h1 o ho a w hE m hφ)
  · cases ho : ops[x]? with
    | none => simp [ho] at hj
    | some o => simp [ho] at hj; simp only [Region.wanted, hj, if_true]; exact .inl (h2 o ho a w hE m hφ)
  · cases ho : ops[x]? with
    | none => simp [ho] at hl
    | some o => simp [ho] at hl; simp only [Region.wanted, hl, if_true]; exact .inl (h3 o ho a w hE m hφ)
/-- behind it what may be read is shown anew -/
theorem d_and {K : Act → World → Prop} (hL : ∀ w, Mem G D w0 L w → Mem G D w0 Lb w) (h : Nx n G D w0 K E L φ) : Nx n G D w0 (fun a w => Mem G D w0 Lb w ∧ K a w) E L φ := fun a w hE m hφ => ⟨hL w m, h a w hE m hφ⟩
theorem d_done (hr : Region.ready .any ops listed = []) (h : Nx n G D w0 (Q .normal) E L φ) : Nx n G D w0 (wpAnyH P .any ops Q (Mem G D w0 Lb) k listed) E L φ := fun a w hE m hφ => wpAnyH_done hr (h a w hE m hφ) k
/-- a region whose ways meet again, over whatever stands behind it -/
theorem c_drawQ {σ : Type} {K : σ → Prop} {Rel : σ → Act → World → Prop} {id : Nat} {l : List Oper} (hm : P.follows .mixedOrders = true) (k : Nat) (hk : l.length = k) (Lb : List Ch) [hP : PanicOk (Exit.then (fun a w => ∃ s, K s ∧ Rel s a w) Q)]
    (h : ∀ Q', PanicOk Q' → (∀ s a w, K s → Rel s a w → Q' .normal a w) → Nx n G D w0 (wpAnyH P .any l.toArray Q' (Mem G D w0 Lb) k (Array.replicate k false)) E L φ) :
    Nx n G D w0 ((Code.region id l.toArray true).wp P (Exit.then (fun a w => ∃ s, K s ∧ Rel s a w) Q)) E L φ :=
  c_draw hm k hk Lb (h _ hP (fun s a w h1 h2 => ⟨s, h1, h2⟩))
/-- the operations of a region, by the way to it -/
def codeAt : Code → List Nat → Code
  | c, [] => c
  | .seq a _, 0 :: r => codeAt a r
  | .seq _ b, _ :: r => codeAt b r
  | .cond _ a _, 0 :: r => codeAt a r
  | .cond _ _ b, _ :: r => codeAt b r
  | .block _ b, _ :: r => codeAt b r
  | .loop b, _ :: r => codeAt b r
  | c, _ => c
def opsAt (f : Func) (l : List Nat) : Array Oper :=
  match f.body with
  | some c => match codeAt c l with
    | .region _ ops _ => ops
    | _ => #[]
  | none => #[]
/-- an operation that reads, not taken first: the one that can come up -/
theorem m_op {K : Act → World → Prop} {o : Oper} : Mode P n G D w0 E o (fun a w => Oper.wp P o a w K Q) K L L := ⟨fun hd ho hr hψ k => o_val hd ho hr hψ k⟩
end
end Go.Proofs.YtnogaeckmiekdaaDoor
