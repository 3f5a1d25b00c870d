import Derived.Test.YtgpdnnhmndlljaaGreatDoorMA1
import Derived.Lib.Strings
import Derived.Lib.ItoaNum
set_option linter.unusedSimpArgs false
set_option linter.unusedVariables false
namespace Go.Proofs.YtgpdnnhmndlljaaGreatDoor
def ya (x:Int):List Value:=[.int .i64 x]
def xT:El Int:=El.flat 1 ya (by decide) (fun _=>rfl) (fun x u h=>by simp only [ya,List.mem_cons,List.not_mem_nil,or_false] at h;subst h;rfl)
theorem xF:Ua xT ya:=YN
def zel (x:UInt8):List Value:=[.int .u8 (x.toNat:Int)]
def zjl:El UInt8:=El.flat 1 zel (by decide) (fun _=>rfl) (fun x u h=>by simp only [zel,List.mem_cons,List.not_mem_nil,or_false] at h;subst h;rfl)
theorem zio:Ua zjl zel:=YN
def XV (x:Bool):List Value:=[.bool x]
def US:El Bool:=El.flat 1 XV (by decide) (fun _=>rfl) (fun x u h=>by simp only [XV,List.mem_cons,List.not_mem_nil,or_false] at h;subst h;rfl)
theorem YZ:Ua US XV:=YN
def zfq (x:ByteArray):List Value:=[.string x]
def zjE:El ByteArray:=El.flat 1 zfq (by decide) (fun _=>rfl) (fun x u h=>by simp only [zfq,List.mem_cons,List.not_mem_nil,or_false] at h;subst h;rfl)
theorem zi0:Ua zjE zfq:=YN
abbrev zlo:DEl Int:=zao xT ya xF
abbrev dU8:DEl UInt8:=zao zjl zel zio
abbrev zlm:DEl Bool:=zao US XV YZ
abbrev zlp:DEl ByteArray:=zao zjE zfq zi0
def zkd (s p:ByteArray):Bool:=Lib.hasPrefix s.data.toList p.data.toList
def zkN (n:Int):ByteArray:=ByteArray.mk (Lib.itoa n).toArray
def zgv (n_0:Int) (κ:ByteArray→Prop):Prop:=I64 n_0∧κ (zkN n_0)
def zjU {α:Type} (lt:α→α→Bool) (xs:List α) (κ:List α→Prop):Prop:=xs.length<4611686018427387904∧∀ ys:List α,xs.Perm ys→ys.Pairwise (fun a b=>lt b a=false)→κ ys
def zco (s_0 p1:ByteArray) (κ:Bool→Prop):Prop:=κ (zkd s_0 p1)
end Go.Proofs.YtgpdnnhmndlljaaGreatDoor
