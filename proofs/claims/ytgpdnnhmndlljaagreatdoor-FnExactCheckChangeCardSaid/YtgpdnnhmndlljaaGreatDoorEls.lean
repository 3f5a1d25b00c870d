import Derived.Test.YtgpdnnhmndlljaaGreatDoorMA1
import Derived.Lib.Strings
import Derived.Lib.ItoaNum
set_option linter.unusedSimpArgs false
set_option linter.unusedVariables false
namespace Go.Proofs.YtgpdnnhmndlljaaGreatDoor
def yg (x:Int):List Value:=[.int .i64 x]
def xP:El Int:=El.flat 1 yg (by decide) (fun _=>rfl) (fun x u h=>by simp only [yg,List.mem_cons,List.not_mem_nil,or_false] at h;subst h;rfl)
theorem xD:Uc xP yg:=YQ
def zeb (x:UInt8):List Value:=[.int .u8 (x.toNat:Int)]
def ziO:El UInt8:=El.flat 1 zeb (by decide) (fun _=>rfl) (fun x u h=>by simp only [zeb,List.mem_cons,List.not_mem_nil,or_false] at h;subst h;rfl)
theorem zhT:Uc ziO zeb:=YQ
def XY (x:Bool):List Value:=[.bool x]
def UI:El Bool:=El.flat 1 XY (by decide) (fun _=>rfl) (fun x u h=>by simp only [XY,List.mem_cons,List.not_mem_nil,or_false] at h;subst h;rfl)
theorem Y2:Uc UI XY:=YQ
def zeF (x:ByteArray):List Value:=[.string x]
def zjB:El ByteArray:=El.flat 1 zeF (by decide) (fun _=>rfl) (fun x u h=>by simp only [zeF,List.mem_cons,List.not_mem_nil,or_false] at h;subst h;rfl)
theorem ziZ:Uc zjB zeF:=YQ
abbrev zk7:DEl Int:=zbg xP yg xD
abbrev dU8:DEl UInt8:=zbg ziO zeb zhT
abbrev zk5:DEl Bool:=zbg UI XY Y2
abbrev zk8:DEl ByteArray:=zbg zjB zeF ziZ
def zj3 (s p:ByteArray):Bool:=Lib.hasPrefix s.data.toList p.data.toList
def zkS (n:Int):ByteArray:=ByteArray.mk (Lib.itoa n).toArray
def zf2 (n_0:Int) (κ:ByteArray→Prop):Prop:=I64 n_0∧κ (zkS n_0)
def zj7 {α:Type} (lt:α→α→Bool) (xs:List α) (κ:List α→Prop):Prop:=xs.length<4611686018427387904∧∀ ys:List α,xs.Perm ys→ys.Pairwise (fun a b=>lt b a=false)→κ ys
def zco (s_0 p1:ByteArray) (κ:Bool→Prop):Prop:=κ (zj3 s_0 p1)
end Go.Proofs.YtgpdnnhmndlljaaGreatDoor
