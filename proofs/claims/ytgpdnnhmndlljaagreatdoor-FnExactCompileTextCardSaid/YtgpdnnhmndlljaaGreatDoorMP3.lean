import Derived.Test.YtgpdnnhmndlljaaGreatDoorRows
import Derived.Test.YtgpdnnhmndlljaaGreatDoorMP13
import Derived.Test.YtgpdnnhmndlljaaGreatDoorOpen2
set_option linter.unusedSimpArgs false
set_option linter.unusedVariables false
namespace Go.Proofs.YtgpdnnhmndlljaaGreatDoor
section
open Go.ChangeShapes Go.WideShapes Go.ChangeAt Go.RowKit Go.Joins
theorem zpg {H:Type} {enc:TypeId×Value→H} {W:World} {sp:Nat→Bool} {held:Bool} {m:Nat} {cs:List Value} {y:DataW H×List MemPlace} (h:DataW.trod enc Tryz.prog W 0 sp held m 9 cs=some y):∃ x:ByteArray,cs=ul x∧x.size≤9223372036854775807:=by
 obtain ⟨n,h1,_,h2⟩:=DataW.trod_string Tryz.underlying9 h
 exact ⟨n,h1,by unfold maxLen at h2;omega⟩
theorem zox {W:World} {F:Nat→Prop} (hF:∀ b,b<W.heap.size→F b) {H:Type} {enc:TypeId×Value→H} {sp:Nat→Bool} {held:Bool} {m:Nat} {cs:List Value} {y:DataW H×List MemPlace} (h:DataW.trod enc Tryz.prog W 0 sp held m 62 cs=some y):∃ v xs,cs=[v]∧Sl uv F W v xs∧zo1 (fun x:ByteArray=>x.size≤9223372036854775807) xs :=
 zlC hF Tryz.underlying62 (by kernel_rfl) (fun m cs y h=>let ⟨x,a,b⟩:=zpg h;⟨x,a,b⟩) h
end
end Go.Proofs.YtgpdnnhmndlljaaGreatDoor
