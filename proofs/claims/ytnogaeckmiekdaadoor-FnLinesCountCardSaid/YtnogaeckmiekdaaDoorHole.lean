/- A pointer to an element of a slice one of whose elements is taken out. -/
import Derived.Test.YtnogaeckmiekdaaDoorCall2
set_option linter.unusedSimpArgs false
set_option linter.unusedVariables false
set_option linter.unusedSectionVars false
namespace Go.Proofs.YtnogaeckmiekdaaDoor
open Go.RowKit
section
variable {P : Program} {n : Nat} {G D : Nat → Prop} {w0 : World} {Q : Exit → Act → World → Prop} {R : Act → World → Prop} {E : Env} {L M : List Ch} {φ : Prop}
variable {d : Tmp} {ty : TypeId} {pos : String} {aft : Array Edge} {gd : Option (Nat × Bool)} {Tk : Act → World → Prop} {Lr : List Ch} {x y : Operand} {T T' S : TypeId}
theorem o_idxH (M : Mode P n G D w0 E ⟨some d, .indexAddr T x y, ty, pos, aft, gd⟩ Tk R Lr L) {α : Type} {E' : DEl α} {ty' : TypeId} {B : List Nat} {I0 : Nat} {cz : List Value} {v : Value} {xs : List α} {I : Int} {κ : α → Prop} {e sz by' : Nat} (i : Nat) (hi : lget Lr i = some (holeCh E' ty' B v xs I0 cz)) (hx : oev E x = some v) (hy : oev E y = some (.int .i64 I)) (hd : Nat.blt d n = true)
    (hT : elB P T = some (e, sz, by')) (k : ∀ z, xs[I.toNat]? = some z → Nx n G D w0 R ((d, pEl v I sz 0) :: E) L (κ z)) :
    Nx n G D w0 Tk E L (idxW xs I κ) :=
  M.val (v := pEl v I sz 0) (ψ := idxW xs I κ) hd rfl (fun ρ w hE hm hφ => by
    obtain ⟨z, h0, h1, h2⟩ := hφ
    have hlt := (List.getElem?_eq_some_iff.1 h1).1
    obtain ⟨bn, css, Bs, hr, how, hB⟩ := hm.get hi
    obtain ⟨g, cap, hv⟩ : ∃ g cap, v = .slice (some ⟨g, 0, none⟩) xs.length cap := by
      rcases how.2 with ⟨_, hn⟩ | ⟨g, cap, cur, hv, _⟩
      · omega
      · exact ⟨g, cap, hv⟩
    subst hv
    unfold elB at hT
    split at hT
    · rename_i e' hu
      split at hT
      · rename_i inf hi'
        simp at hT
        obtain ⟨rfl, rfl, rfl⟩ := hT
        have h5 : I < xs.length := by omega
        rw [pEl_slice]
        simp [execOp, hE _ _ hx, hE _ _ hy, Instr.indexAt, asIntOf, run_underlying hu, sizeOf, typeInfo, hi', h0, h5, Addr.add_mid]
      · simp at hT
    · simp at hT) id (fun a w hE hm ⟨z, _, h1, h2⟩ => k z h1 a w hE hm h2)
end
end Go.Proofs.YtnogaeckmiekdaaDoor
