import Derived.Test.YtgpdnnhmndlljaaGreatDoorMA1
import Derived.Lib.Strings
import Derived.Lib.ItoaNum
set_option linter.unusedSimpArgs false
set_option linter.unusedVariables false
namespace Go.Proofs.YtgpdnnhmndlljaaGreatDoor
def xy (x:Int):List Value:=[.int .i64 x]
def xT:El Int:=El.flat 1 xy (by decide) (fun _=>rfl) (fun x u h=>by simp only [xy,List.mem_cons,List.not_mem_nil,or_false] at h;subst h;rfl)
theorem jA:VH xT xy:=Uu
def zcQ (x:UInt8):List Value:=[.int .u8 (x.toNat:Int)]
def zbn:El UInt8:=El.flat 1 zcQ (by decide) (fun _=>rfl) (fun x u h=>by simp only [zcQ,List.mem_cons,List.not_mem_nil,or_false] at h;subst h;rfl)
theorem zcp:VH zbn zcQ:=Uu
def zaH (x:Bool):List Value:=[.bool x]
def zbG:El Bool:=El.flat 1 zaH (by decide) (fun _=>rfl) (fun x u h=>by simp only [zaH,List.mem_cons,List.not_mem_nil,or_false] at h;subst h;rfl)
theorem zak:VH zbG zaH:=Uu
def uB (x:ByteArray):List Value:=[.string x]
def Zg:El ByteArray:=El.flat 1 uB (by decide) (fun _=>rfl) (fun x u h=>by simp only [uB,List.mem_cons,List.not_mem_nil,or_false] at h;subst h;rfl)
theorem xh:VH Zg uB:=Uu
abbrev zsE:DEl Int:=zeX xT xy jA
abbrev dU8:DEl UInt8:=zeX zbn zcQ zcp
abbrev zsB:DEl Bool:=zeX zbG zaH zak
abbrev zsD:DEl ByteArray:=zeX Zg uB xh
def zhy (s p:ByteArray):Bool:=Lib.hasPrefix s.data.toList p.data.toList
def zo1 (n:Int):ByteArray:=ByteArray.mk (Lib.itoa n).toArray
def XK (n_0:Int) (O:ByteArray->Prop):Prop:=I64 n_0∧O (zo1 n_0)
def zq4 {V:Type} (lt:V->V->Bool) (xs:List V) (O:List V->Prop):Prop:=xs.length<4611686018427387904∧∀ ys:List V,xs.Perm ys->ys.Pairwise (fun a b=>lt b a=false)->O ys
def U2 (s_0 p1:ByteArray) (O:Bool->Prop):Prop:=O (zhy s_0 p1)
end Go.Proofs.YtgpdnnhmndlljaaGreatDoor
