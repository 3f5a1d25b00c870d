import Derived.Test.YtgpdnnhmndlljaaGreatDoorMA1
import Derived.Lib.Strings
import Derived.Lib.ItoaNum
set_option linter.unusedSimpArgs false
set_option linter.unusedVariables false
namespace Go.Proofs.YtgpdnnhmndlljaaGreatDoor
def uN (x:Int):List Value:=[.int .i64 x]
def xW:El Int:=El.flat 1 uN (by decide) (fun _=>rfl) (fun x u h=>by simp only [uN,List.mem_cons,List.not_mem_nil,or_false] at h;subst h;rfl)
theorem xh:XU xW uN:=Xw
def VR (x:UInt8):List Value:=[.int .u8 (x.toNat:Int)]
def YB:El UInt8:=El.flat 1 VR (by decide) (fun _=>rfl) (fun x u h=>by simp only [VR,List.mem_cons,List.not_mem_nil,or_false] at h;subst h;rfl)
theorem zba:XU YB VR:=Xw
def UI (x:Bool):List Value:=[.bool x]
def zbj:El Bool:=El.flat 1 UI (by decide) (fun _=>rfl) (fun x u h=>by simp only [UI,List.mem_cons,List.not_mem_nil,or_false] at h;subst h;rfl)
theorem VG:XU zbj UI:=Xw
def zcS (x:ByteArray):List Value:=[.string x]
def zhl:El ByteArray:=El.flat 1 zcS (by decide) (fun _=>rfl) (fun x u h=>by simp only [zcS,List.mem_cons,List.not_mem_nil,or_false] at h;subst h;rfl)
theorem zgL:XU zhl zcS:=Xw
abbrev ziT:DEl Int:=Vw xW uN xh
abbrev dU8:DEl UInt8:=Vw YB VR zba
abbrev ziQ:DEl Bool:=Vw zbj UI VG
abbrev ziS:DEl ByteArray:=Vw zhl zcS zgL
def zhN (s p:ByteArray):Bool:=Lib.hasPrefix s.data.toList p.data.toList
def zix (n:Int):ByteArray:=ByteArray.mk (Lib.itoa n).toArray
def zen (n_0:Int) (κ:ByteArray→Prop):Prop:=I64 n_0∧κ (zix n_0)
def zhC {α:Type} (lt:α→α→Bool) (xs:List α) (κ:List α→Prop):Prop:=xs.length<4611686018427387904∧∀ ys:List α,xs.Perm ys→ys.Pairwise (fun a b=>lt b a=false)→κ ys
def zaP (s_0 p_1:ByteArray) (κ:Bool→Prop):Prop:=κ (zhN s_0 p_1)
end Go.Proofs.YtgpdnnhmndlljaaGreatDoor
