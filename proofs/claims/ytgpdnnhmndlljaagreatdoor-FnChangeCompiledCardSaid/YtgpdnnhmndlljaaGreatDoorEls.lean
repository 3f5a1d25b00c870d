import Derived.Test.YtgpdnnhmndlljaaGreatDoorMA1
import Derived.Lib.Strings
import Derived.Lib.ItoaNum
set_option linter.unusedSimpArgs false
set_option linter.unusedVariables false
namespace Go.Proofs.YtgpdnnhmndlljaaGreatDoor
def xW (x:Int):List Value:=[.int .i64 x]
def xz:El Int:=El.flat 1 xW (by decide) (fun _=>rfl) (fun x u h=>by simp only [xW,List.mem_cons,List.not_mem_nil,or_false] at h;subst h;rfl)
theorem jO:UA xz xW:=Y8
def zb1 (x:UInt8):List Value:=[.int .u8 (x.toNat:Int)]
def V4:El UInt8:=El.flat 1 zb1 (by decide) (fun _=>rfl) (fun x u h=>by simp only [zb1,List.mem_cons,List.not_mem_nil,or_false] at h;subst h;rfl)
theorem zec:UA V4 zb1:=Y8
def UH (x:Bool):List Value:=[.bool x]
def Vm:El Bool:=El.flat 1 UH (by decide) (fun _=>rfl) (fun x u h=>by simp only [UH,List.mem_cons,List.not_mem_nil,or_false] at h;subst h;rfl)
theorem Up:UA Vm UH:=Y8
def zfH (x:ByteArray):List Value:=[.string x]
def zkG:El ByteArray:=El.flat 1 zfH (by decide) (fun _=>rfl) (fun x u h=>by simp only [zfH,List.mem_cons,List.not_mem_nil,or_false] at h;subst h;rfl)
theorem zke:UA zkG zfH:=Y8
abbrev zmJ:DEl Int:=zb4 xz xW jO
abbrev dU8:DEl UInt8:=zb4 V4 zb1 zec
abbrev zmG:DEl Bool:=zb4 Vm UH Up
abbrev zmI:DEl ByteArray:=zb4 zkG zfH zke
def zla (s p:ByteArray):Bool:=Lib.hasPrefix s.data.toList p.data.toList
def zl7 (n:Int):ByteArray:=ByteArray.mk (Lib.itoa n).toArray
def zgX (n_0:Int) (κ:ByteArray→Prop):Prop:=I64 n_0∧κ (zl7 n_0)
def zlE {α:Type} (lt:α→α→Bool) (xs:List α) (κ:List α→Prop):Prop:=xs.length<4611686018427387904∧∀ ys:List α,xs.Perm ys→ys.Pairwise (fun a b=>lt b a=false)→κ ys
def zcT (s_0 p1:ByteArray) (κ:Bool→Prop):Prop:=κ (zla s_0 p1)
end Go.Proofs.YtgpdnnhmndlljaaGreatDoor
