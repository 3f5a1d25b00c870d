import Derived.Test.YtgpdnnhmndlljaaGreatDoorMA1
import Derived.Lib.Strings
import Derived.Lib.ItoaNum
set_option linter.unusedSimpArgs false
set_option linter.unusedVariables false
namespace Go.Proofs.YtgpdnnhmndlljaaGreatDoor
def uY (x:Int):List Value:=[.int .i64 x]
def x5:El Int:=El.flat 1 uY (by decide) (fun _=>rfl) (fun x u h=>by simp only [uY,List.mem_cons,List.not_mem_nil,or_false] at h;subst h;rfl)
theorem xh:Y9 x5 uY:=XN
def zbG (x:UInt8):List Value:=[.int .u8 (x.toNat:Int)]
def zcs:El UInt8:=El.flat 1 zbG (by decide) (fun _=>rfl) (fun x u h=>by simp only [zbG,List.mem_cons,List.not_mem_nil,or_false] at h;subst h;rfl)
theorem zd7:Y9 zcs zbG:=XN
def UI (x:Bool):List Value:=[.bool x]
def Vj:El Bool:=El.flat 1 UI (by decide) (fun _=>rfl) (fun x u h=>by simp only [UI,List.mem_cons,List.not_mem_nil,or_false] at h;subst h;rfl)
theorem Uo:Y9 Vj UI:=XN
def zfS (x:ByteArray):List Value:=[.string x]
def zkB:El ByteArray:=El.flat 1 zfS (by decide) (fun _=>rfl) (fun x u h=>by simp only [zfS,List.mem_cons,List.not_mem_nil,or_false] at h;subst h;rfl)
theorem zki:Y9 zkB zfS:=XN
abbrev zmy:DEl Int:=zbL x5 uY xh
abbrev dU8:DEl UInt8:=zbL zcs zbG zd7
abbrev zmv:DEl Bool:=zbL Vj UI Uo
abbrev zmx:DEl ByteArray:=zbL zkB zfS zki
def zlk (s p:ByteArray):Bool:=Lib.hasPrefix s.data.toList p.data.toList
def zmg (n:Int):ByteArray:=ByteArray.mk (Lib.itoa n).toArray
def zg2 (n_0:Int) (κ:ByteArray→Prop):Prop:=I64 n_0∧κ (zmg n_0)
def zlq {α:Type} (lt:α→α→Bool) (xs:List α) (κ:List α→Prop):Prop:=xs.length<4611686018427387904∧∀ ys:List α,xs.Perm ys→ys.Pairwise (fun a b=>lt b a=false)→κ ys
def zc4 (s_0 p_1:ByteArray) (κ:Bool→Prop):Prop:=κ (zlk s_0 p_1)
end Go.Proofs.YtgpdnnhmndlljaaGreatDoor
