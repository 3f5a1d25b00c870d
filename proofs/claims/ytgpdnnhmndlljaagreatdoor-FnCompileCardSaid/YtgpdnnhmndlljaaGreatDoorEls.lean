import Derived.Test.YtgpdnnhmndlljaaGreatDoorMA1
import Derived.Lib.Strings
import Derived.Lib.ItoaNum
set_option linter.unusedSimpArgs false
set_option linter.unusedVariables false
namespace Go.Proofs.YtgpdnnhmndlljaaGreatDoor
def jU (x:Int):List Value:=[.int .i64 x]
def xI:El Int:=El.flat 1 jU (by decide) (fun _=>rfl) (fun x u h=>by simp only [jU,List.mem_cons,List.not_mem_nil,or_false] at h;subst h;rfl)
theorem jk:UC xI jU:=Ye
def zcD (x:UInt8):List Value:=[.int .u8 (x.toNat:Int)]
def Vy:El UInt8:=El.flat 1 zcD (by decide) (fun _=>rfl) (fun x u h=>by simp only [zcD,List.mem_cons,List.not_mem_nil,or_false] at h;subst h;rfl)
theorem zfa:UC Vy zcD:=Ye
def Vc (x:Bool):List Value:=[.bool x]
def VY:El Bool:=El.flat 1 Vc (by decide) (fun _=>rfl) (fun x u h=>by simp only [Vc,List.mem_cons,List.not_mem_nil,or_false] at h;subst h;rfl)
theorem UM:UC VY Vc:=Ye
def zgE (x:ByteArray):List Value:=[.string x]
def zlG:El ByteArray:=El.flat 1 zgE (by decide) (fun _=>rfl) (fun x u h=>by simp only [zgE,List.mem_cons,List.not_mem_nil,or_false] at h;subst h;rfl)
theorem zkD:UC zlG zgE:=Ye
abbrev znr:DEl Int:=zb3 xI jU jk
abbrev dU8:DEl UInt8:=zb3 Vy zcD zfa
abbrev znp:DEl Bool:=zb3 VY Vc UM
abbrev znq:DEl ByteArray:=zb3 zlG zgE zkD
def zlY (s p:ByteArray):Bool:=Lib.hasPrefix s.data.toList p.data.toList
def zni (n:Int):ByteArray:=ByteArray.mk (Lib.itoa n).toArray
def zhK (n_0:Int) (κ:ByteArray→Prop):Prop:=I64 n_0∧κ (zni n_0)
def zlP {α:Type} (lt:α→α→Bool) (xs:List α) (κ:List α→Prop):Prop:=xs.length<4611686018427387904∧∀ ys:List α,xs.Perm ys→ys.Pairwise (fun a b=>lt b a=false)→κ ys
def zdD (s_0 p_1:ByteArray) (κ:Bool→Prop):Prop:=κ (zlY s_0 p_1)
end Go.Proofs.YtgpdnnhmndlljaaGreatDoor
