/- Texts of this seat, put together. -/
import Derived.Test.YtlcjkhnamgklgaaDoorRows
import Derived.Test.YtlcjkhnamgklgaaDoorMP2
import Derived.Test.YtlcjkhnamgklgaaDoorOpen2
set_option linter.unusedSimpArgs false
set_option linter.unusedVariables false
namespace Go.Proofs.YtlcjkhnamgklgaaDoor
section
open Go.ChangeShapes Go.WideShapes Go.ChangeAt Go.RowKit Go.Joins
theorem opz9 {H : Type} {enc : TypeId × Value → H} {W : World} {sp : Nat → Bool} {held : Bool} {m : Nat} {cs : List Value} {y : DataW H × List MemPlace} (h : DataW.trod enc Tryd.prog W 0 sp held m 9 cs = some y) : ∃ x : ByteArray, cs = encStr x ∧ x.size ≤ 9223372036854775807 := by
  obtain ⟨n, h1, _, h2⟩ := DataW.trod_string Tryd.underlying9 h
  exact ⟨n, h1, by unfold maxLen at h2; omega⟩
theorem ops26 {W : World} {F : Nat → Prop} (hF : ∀ b, b < W.heap.size → F b) {H : Type} {enc : TypeId × Value → H} {sp : Nat → Bool} {held : Bool} {m : Nat} {cs : List Value} {y : DataW H × List MemPlace} (h : DataW.trod enc Tryd.prog W 0 sp held m 26 cs = some y) : ∃ v xs, cs = [v] ∧ Sl elStr F W v xs ∧ okSl (fun x : ByteArray => x.size ≤ 9223372036854775807) xs :=
  open_slQ hF Tryd.underlying26 (by kernel_rfl) (fun m cs y h => let ⟨x, a, b⟩ := opz9 h; ⟨x, a, b⟩) h
end

end Go.Proofs.YtlcjkhnamgklgaaDoor
