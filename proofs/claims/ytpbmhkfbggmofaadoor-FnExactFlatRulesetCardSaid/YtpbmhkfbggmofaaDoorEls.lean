/- Elements of slices: numbers, truths, strings. -/
import Derived.Test.YtpbmhkfbggmofaaDoorMA1
import Derived.Lib.Strings
import Derived.Lib.ItoaNum
set_option linter.unusedSimpArgs false
set_option linter.unusedVariables false
namespace Go.Proofs.YtpbmhkfbggmofaaDoor
def encInt (x : Int) : List Value := [.int .i64 x]
def elInt : El Int := El.flat 1 encInt (by decide) (fun _ => rfl) (fun x u h => by simp only [encInt, List.mem_cons, List.not_mem_nil, or_false] at h; subst h; rfl)
theorem flelInt : Flat elInt encInt := flat_flat
def encU8 (x : UInt8) : List Value := [.int .u8 (x.toNat : Int)]
def elU8 : El UInt8 := El.flat 1 encU8 (by decide) (fun _ => rfl) (fun x u h => by simp only [encU8, List.mem_cons, List.not_mem_nil, or_false] at h; subst h; rfl)
theorem flelU8 : Flat elU8 encU8 := flat_flat
def encBool (x : Bool) : List Value := [.bool x]
def elBool : El Bool := El.flat 1 encBool (by decide) (fun _ => rfl) (fun x u h => by simp only [encBool, List.mem_cons, List.not_mem_nil, or_false] at h; subst h; rfl)
theorem flelBool : Flat elBool encBool := flat_flat
def encStr (x : ByteArray) : List Value := [.string x]
def elStr : El ByteArray := El.flat 1 encStr (by decide) (fun _ => rfl) (fun x u h => by simp only [encStr, List.mem_cons, List.not_mem_nil, or_false] at h; subst h; rfl)
theorem flelStr : Flat elStr encStr := flat_flat
abbrev dInt : DEl Int := dflat elInt encInt flelInt
abbrev dU8 : DEl UInt8 := dflat elU8 encU8 flelU8
abbrev dBool : DEl Bool := dflat elBool encBool flelBool
abbrev dStr : DEl ByteArray := dflat elStr encStr flelStr
/-! functions of the library, in plain Lean -/
/-- the string begins with this one -/
def hasPre (s p : ByteArray) : Bool := Lib.hasPrefix s.data.toList p.data.toList
/-- the decimal numeral -/
def itoaB (n : Int) : ByteArray := ByteArray.mk (Lib.itoa n).toArray
def L_lib_Itoa (n_0 : Int) (κ : ByteArray → Prop) : Prop := I64 n_0 ∧ κ (itoaB n_0)
/-- sorted by an order: any permutation in which no later one is less -/
def L_lib_sort {α : Type} (lt : α → α → Bool) (xs : List α) (κ : List α → Prop) : Prop := xs.length < 4611686018427387904 ∧ ∀ ys : List α, xs.Perm ys → ys.Pairwise (fun a b => lt b a = false) → κ ys
def L_lib_HasPrefix (s_0 p_1 : ByteArray) (κ : Bool → Prop) : Prop := κ (hasPre s_0 p_1)
end Go.Proofs.YtpbmhkfbggmofaaDoor
