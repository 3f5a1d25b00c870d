import Derived.Test.YtgpdnnhmndlljaaGreatDoorMA1
import Derived.Lib.Strings
import Derived.Lib.ItoaNum
set_option linter.unusedSimpArgs false
set_option linter.unusedVariables false
namespace Go.Proofs.YtgpdnnhmndlljaaGreatDoor
def xz (x:Int):List Value:=[.int .i64 x]
def xW:El Int:=El.flat 1 xz (by decide) (fun _=>rfl) (fun x u h=>by simp only [xz,List.mem_cons,List.not_mem_nil,or_false] at h;subst h;rfl)
theorem ju:Up xW xz:=XK
def zcY (x:UInt8):List Value:=[.int .u8 (x.toNat:Int)]
def Zb:El UInt8:=El.flat 1 zcY (by decide) (fun _=>rfl) (fun x u h=>by simp only [zcY,List.mem_cons,List.not_mem_nil,or_false] at h;subst h;rfl)
theorem zfq:Up Zb zcY:=XK
def Vu (x:Bool):List Value:=[.bool x]
def zai:El Bool:=El.flat 1 Vu (by decide) (fun _=>rfl) (fun x u h=>by simp only [Vu,List.mem_cons,List.not_mem_nil,or_false] at h;subst h;rfl)
theorem U3:Up zai Vu:=XK
def zhd (x:ByteArray):List Value:=[.string x]
def zmo:El ByteArray:=El.flat 1 zhd (by decide) (fun _=>rfl) (fun x u h=>by simp only [zhd,List.mem_cons,List.not_mem_nil,or_false] at h;subst h;rfl)
theorem zl7:Up zmo zhd:=XK
abbrev zop:DEl Int:=zbb xW xz ju
abbrev dU8:DEl UInt8:=zbb Zb zcY zfq
abbrev zoo:DEl Bool:=zbb zai Vu U3
abbrev zoq:DEl ByteArray:=zbb zmo zhd zl7
def zm5 (s p:ByteArray):Bool:=Lib.hasPrefix s.data.toList p.data.toList
def znT (n:Int):ByteArray:=ByteArray.mk (Lib.itoa n).toArray
def zii (n_0:Int) (κ:ByteArray→Prop):Prop:=I64 n_0∧κ (znT n_0)
def zm3 {α:Type} (lt:α→α→Bool) (xs:List α) (κ:List α→Prop):Prop:=xs.length<4611686018427387904∧∀ ys:List α,xs.Perm ys→ys.Pairwise (fun a b=>lt b a=false)→κ ys
def zei (s_0 p_1:ByteArray) (κ:Bool→Prop):Prop:=κ (zm5 s_0 p_1)
end Go.Proofs.YtgpdnnhmndlljaaGreatDoor
