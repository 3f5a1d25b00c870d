import Derived.Test.YtgpdnnhmndlljaaGreatDoorMA1
import Derived.Lib.Strings
import Derived.Lib.ItoaNum
set_option linter.unusedSimpArgs false
set_option linter.unusedVariables false
namespace Go.Proofs.YtgpdnnhmndlljaaGreatDoor
def XH (x:Int):List Value:=[.int .i64 x]
def uH:El Int:=El.flat 1 XH (by decide) (fun _=>rfl) (fun x u h=>by simp only [XH,List.mem_cons,List.not_mem_nil,or_false] at h;subst h;rfl)
theorem ua:Vp uH XH:=UU
def zcM (x:UInt8):List Value:=[.int .u8 (x.toNat:Int)]
def zmp:El UInt8:=El.flat 1 zcM (by decide) (fun _=>rfl) (fun x u h=>by simp only [zcM,List.mem_cons,List.not_mem_nil,or_false] at h;subst h;rfl)
theorem zbt:Vp zmp zcM:=UU
def VE (x:Bool):List Value:=[.bool x]
def zay:El Bool:=El.flat 1 VE (by decide) (fun _=>rfl) (fun x u h=>by simp only [VE,List.mem_cons,List.not_mem_nil,or_false] at h;subst h;rfl)
theorem Vk:Vp zay VE:=UU
def ul (x:ByteArray):List Value:=[.string x]
def uv:El ByteArray:=El.flat 1 ul (by decide) (fun _=>rfl) (fun x u h=>by simp only [ul,List.mem_cons,List.not_mem_nil,or_false] at h;subst h;rfl)
theorem jP:Vp uv ul:=UU
abbrev zpn:DEl Int:=zdz uH XH ua
abbrev dU8:DEl UInt8:=zdz zmp zcM zbt
abbrev zpk:DEl Bool:=zdz zay VE Vk
abbrev zpm:DEl ByteArray:=zdz uv ul jP
def zfL (s p:ByteArray):Bool:=Lib.hasPrefix s.data.toList p.data.toList
def zl1 (n:Int):ByteArray:=ByteArray.mk (Lib.itoa n).toArray
def Z9 (n_0:Int) (κ:ByteArray→Prop):Prop:=I64 n_0∧κ (zl1 n_0)
def znL {α:Type} (lt:α→α→Bool) (xs:List α) (κ:List α→Prop):Prop:=xs.length<4611686018427387904∧∀ ys:List α,xs.Perm ys→ys.Pairwise (fun a b=>lt b a=false)→κ ys
def Uf (s_0 p_1:ByteArray) (κ:Bool→Prop):Prop:=κ (zfL s_0 p_1)
end Go.Proofs.YtgpdnnhmndlljaaGreatDoor
