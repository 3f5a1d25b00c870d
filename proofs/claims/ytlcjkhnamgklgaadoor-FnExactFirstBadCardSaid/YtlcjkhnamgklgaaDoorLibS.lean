/- The library's functions on strings and numbers, by the shelf's contracts. -/
import Derived.Test.YtlcjkhnamgklgaaDoorRows
import Derived.Test.YtlcjkhnamgklgaaDoorEls
import Derived.Ground.NamesProg
import Derived.Shelf.Strings.Prefix
import Derived.Shelf.LaysM
import Derived.Shelf.Strconv.Itoa3
set_option linter.unusedSimpArgs false
set_option linter.unusedVariables false
namespace Go.Proofs.YtlcjkhnamgklgaaDoor
open Go.Shelf Go.RowKit
def Tryd.lays99_ren : Go.Shelf.Ren := ⟨fun | 99 => 107 | 206 => 116 | n => n, fun | 9 => 9 | 4 => 4 | 3 => 3 | n => n, fun | n => n⟩
theorem Tryd.lays99 : Go.Proofs.Lays.n99 Tryd.prog Tryd.lays99_ren where
  mixed := by kernel_rfl
  f99 := Tryd.func107.trans (congrArg some (by kernel_rfl))
  f206 := Tryd.func116.trans (congrArg some (by kernel_rfl))
  t3 := Tryd.underlying3
  a3 := Tryd.isAgg3
  z3 := Tryd.sizeOf3
  v3 := Tryd.zeroValue3
  t4 := Tryd.underlying4
  a4 := Tryd.isAgg4
  z4 := Tryd.sizeOf4
  v4 := Tryd.zeroValue4
  t9 := Tryd.underlying9
  a9 := Tryd.isAgg9
  z9 := Tryd.sizeOf9
  v9 := Tryd.zeroValue9
theorem w_lib_HasPrefix {w0 : World} {F : Nat → Prop} {s_0 p_1 : ByteArray} {κ : Bool → Prop} (h : L_lib_HasPrefix s_0 p_1 κ) :
    Calls Tryd.prog 107 #[.string s_0, .string p_1] w0 (Ret [] F w0 κ (fun (r : Bool) (u : Unit) => .bool r) (fun (r : Bool) (u : Unit) => [])) :=
  (Any.strings_HasPrefix Tryd.lays99 s_0 p_1 w0).mono fun e w' ⟨h1, h2⟩ => by
    subst h2
    exact ⟨_, (), h, h1, updD_refl, NewCh.nil _ _ _ _⟩
/-- the table of the powers of ten stands there and stands still -/
structure Tb (F : Nat → Prop) (w : World) : Prop where
  here : F 1
  is : Lib.TabIs Tryd.prog w "internal/strconv.uint64pow10" .u64 Lib.pow10Tab
theorem tbG : Tryd.prog.globalNamed "internal/strconv.uint64pow10" = some 1 := by kernel_rfl
theorem Tb.of {F F0 : Nat → Prop} {wr w : World} (t : Tb F0 wr) (h : (snapCh wr F0).holds F w) : Tb F w := ⟨h.1 _ t.here, by
  have h1 := t.is
  have h2 := h.2 _ t.here
  unfold Lib.TabIs World.var? at h1 ⊢
  rw [tbG] at h1 ⊢
  simp only [Option.bind_some] at h1 ⊢
  rw [h2]; exact h1⟩
theorem Tb.mono {F F' : Nat → Prop} {w : World} (t : Tb F w) (h : ∀ b, F b → F' b) : Tb F' w := ⟨h _ t.here, t.is⟩
def Tryd.laysM171_ren : Go.Shelf.Ren := ⟨fun | 171 => 61 | 243 => 81 | 246 => 92 | 283 => 101 | 284 => 102 | 285 => 103 | 286 => 104 | 129 => 112 | 317 => 111 | 318 => 113 | 319 => 114 | 320 => 115 | 337 => 118 | 338 => 119 | n => n, fun | 3 => 3 | 9 => 9 | 2 => 2 | 4 => 4 | 171 => 139 | 0 => 0 | 53 => 140 | 37 => 40 | 5 => 5 | 173 => 143 | 212 => 152 | 51 => 153 | 20 => 20 | 213 => 154 | 46 => 155 | 232 => 159 | 233 => 160 | n => n, fun | 17 => 1 | 18 => 2 | 19 => 3 | n => n⟩
theorem Tryd.laysM171 : Go.Proofs.LaysM.n171 Tryd.prog Tryd.laysM171_ren where
  mixed := by kernel_rfl
  f129 := Tryd.func112.trans (congrArg some (by kernel_rfl))
  f171 := Tryd.func61.trans (congrArg some (by kernel_rfl))
  f243 := Tryd.func81.trans (congrArg some (by kernel_rfl))
  f246 := Tryd.func92.trans (congrArg some (by kernel_rfl))
  f283 := Tryd.func101.trans (congrArg some (by kernel_rfl))
  f284 := Tryd.func102.trans (congrArg some (by kernel_rfl))
  f285 := Tryd.func103.trans (congrArg some (by kernel_rfl))
  f286 := Tryd.func104.trans (congrArg some (by kernel_rfl))
  f317 := Tryd.func111.trans (congrArg some (by kernel_rfl))
  f318 := Tryd.func113.trans (congrArg some (by kernel_rfl))
  f319 := Tryd.func114.trans (congrArg some (by kernel_rfl))
  f320 := Tryd.func115.trans (congrArg some (by kernel_rfl))
  f337 := Tryd.func118.trans (congrArg some (by kernel_rfl))
  f338 := Tryd.func119.trans (congrArg some (by kernel_rfl))
  t0 := Tryd.underlying0
  a0 := Tryd.isAgg0
  z0 := Tryd.sizeOf0
  v0 := Tryd.zeroValue0
  t2 := Tryd.underlying2
  a2 := Tryd.isAgg2
  z2 := Tryd.sizeOf2
  v2 := Tryd.zeroValue2
  t3 := Tryd.underlying3
  a3 := Tryd.isAgg3
  z3 := Tryd.sizeOf3
  v3 := Tryd.zeroValue3
  t4 := Tryd.underlying4
  a4 := Tryd.isAgg4
  z4 := Tryd.sizeOf4
  v4 := Tryd.zeroValue4
  t5 := Tryd.underlying5
  a5 := Tryd.isAgg5
  z5 := Tryd.sizeOf5
  v5 := Tryd.zeroValue5
  t9 := Tryd.underlying9
  a9 := Tryd.isAgg9
  z9 := Tryd.sizeOf9
  v9 := Tryd.zeroValue9
  t20 := Tryd.underlying20
  a20 := Tryd.isAgg20
  z20 := Tryd.sizeOf20
  v20 := Tryd.zeroValue20
  t37 := Tryd.underlying40
  a37 := Tryd.isAgg40
  z37 := Tryd.sizeOf40
  v37 := Tryd.zeroValue40
  t46 := Tryd.underlying155
  a46 := Tryd.isAgg155
  z46 := Tryd.sizeOf155
  v46 := Tryd.zeroValue155
  t51 := Tryd.underlying153
  a51 := Tryd.isAgg153
  z51 := Tryd.sizeOf153
  v51 := Tryd.zeroValue153
  t53 := Tryd.underlying140
  a53 := Tryd.isAgg140
  z53 := Tryd.sizeOf140
  v53 := Tryd.zeroValue140
  t171 := Tryd.underlying139
  a171 := Tryd.isAgg139
  z171 := Tryd.sizeOf139
  v171 := Tryd.zeroValue139
  t173 := Tryd.underlying143
  a173 := Tryd.isAgg143
  z173 := Tryd.sizeOf143
  v173 := Tryd.zeroValue143
  t212 := Tryd.underlying152
  a212 := Tryd.isAgg152
  z212 := Tryd.sizeOf152
  v212 := Tryd.zeroValue152
  t213 := Tryd.underlying154
  a213 := Tryd.isAgg154
  z213 := Tryd.sizeOf154
  t232 := Tryd.underlying159
  a232 := Tryd.isAgg159
  z232 := Tryd.sizeOf159
  v232 := Tryd.zeroValue159
  t233 := Tryd.underlying160
  a233 := Tryd.isAgg160
  z233 := Tryd.sizeOf160
  v233 := Tryd.zeroValue160
  g17 := by kernel_rfl
  g18 := by kernel_rfl
  g19 := by kernel_rfl
  i0 := by kernel_rfl
  i2 := by kernel_rfl
  i3 := by kernel_rfl
  i4 := by kernel_rfl
  i5 := by kernel_rfl
  i9 := by kernel_rfl
  i20 := by kernel_rfl
  i37 := by kernel_rfl
  i46 := by kernel_rfl
  i51 := by kernel_rfl
  i53 := by kernel_rfl
  i171 := by kernel_rfl
  i173 := by kernel_rfl
  i212 := by kernel_rfl
  i232 := by kernel_rfl
  i233 := by kernel_rfl
  m17 := by kernel_rfl
  m18 := by kernel_rfl
  m19 := by kernel_rfl
theorem w_lib_Itoa {w0 : World} {F F' : Nat → Prop} {n_0 : Int} {κ : ByteArray → Prop} (t : Tb F' w0) (h : L_lib_Itoa n_0 κ) :
    Calls Tryd.prog 61 #[.int .i64 n_0] w0 (Ret [] F w0 κ (fun (r : ByteArray) (u : Unit) => .string r) (fun (r : ByteArray) (u : Unit) => [])) :=
  (Any.strconv_Itoa Tryd.laysM171 n_0 h.1.1 h.1.2 w0 t.is).mono fun e w' ⟨h1, k, os, h2⟩ => by
    subst h2
    refine ⟨_, (), h.2, h1, ⟨rfl, rfl, rfl, ?_, fun b hb _ => ?_⟩, NewCh.nil _ _ _ _⟩
    · show w0.heap.size ≤ (w0.heap ++ os).size
      simp
    · show (w0.heap ++ os)[b]? = w0.heap[b]?
      exact Array.getElem?_append_left hb
end Go.Proofs.YtlcjkhnamgklgaaDoor
