/- The library's functions on strings and numbers, by the shelf's contracts. -/
import Derived.Test.YtnogaeckmiekdaaDoorRows
import Derived.Test.YtnogaeckmiekdaaDoorEls
import Derived.Ground.NamesProg
import Derived.Shelf.Strings.Prefix
import Derived.Shelf.LaysM
import Derived.Shelf.Strconv.Itoa3
set_option linter.unusedSimpArgs false
set_option linter.unusedVariables false
namespace Go.Proofs.YtnogaeckmiekdaaDoor
open Go.Shelf Go.RowKit
def Tryd.lays99_ren : Go.Shelf.Ren := ⟨fun | 99 => 87 | 206 => 99 | n => n, fun | 9 => 9 | 4 => 4 | 3 => 3 | n => n, fun | n => n⟩
theorem Tryd.lays99 : Go.Proofs.Lays.n99 Tryd.prog Tryd.lays99_ren where
  mixed := by kernel_rfl
  f99 := Tryd.func87.trans (congrArg some (by kernel_rfl))
  f206 := Tryd.func99.trans (congrArg some (by kernel_rfl))
  t3 := Tryd.underlying3
  a3 := Tryd.isAgg3
  z3 := Tryd.sizeOf3
  v3 := Tryd.zeroValue3
  t4 := Tryd.underlying4
  a4 := Tryd.isAgg4
  z4 := Tryd.sizeOf4
  v4 := Tryd.zeroValue4
  t9 := Tryd.underlying9
  a9 := Tryd.isAgg9
  z9 := Tryd.sizeOf9
  v9 := Tryd.zeroValue9
theorem w_lib_HasPrefix {w0 : World} {F : Nat → Prop} {s_0 p_1 : ByteArray} {κ : Bool → Prop} (h : L_lib_HasPrefix s_0 p_1 κ) :
    Calls Tryd.prog 87 #[.string s_0, .string p_1] w0 (Ret [] F w0 κ (fun (r : Bool) (u : Unit) => .bool r) (fun (r : Bool) (u : Unit) => [])) :=
  (Any.strings_HasPrefix Tryd.lays99 s_0 p_1 w0).mono fun e w' ⟨h1, h2⟩ => by
    subst h2
    exact ⟨_, (), h, h1, updD_refl, NewCh.nil _ _ _ _⟩
/-- the table of the powers of ten stands there and stands still -/
structure Tb (F : Nat → Prop) (w : World) : Prop where
  here : F 1
  is : Lib.TabIs Tryd.prog w "internal/strconv.uint64pow10" .u64 Lib.pow10Tab
theorem tbG : Tryd.prog.globalNamed "internal/strconv.uint64pow10" = some 1 := by kernel_rfl
theorem Tb.of {F F0 : Nat → Prop} {wr w : World} (t : Tb F0 wr) (h : (snapCh wr F0).holds F w) : Tb F w := ⟨h.1 _ t.here, by
  have h1 := t.is
  have h2 := h.2 _ t.here
  unfold Lib.TabIs World.var? at h1 ⊢
  rw [tbG] at h1 ⊢
  simp only [Option.bind_some] at h1 ⊢
  rw [h2]; exact h1⟩
theorem Tb.mono {F F' : Nat → Prop} {w : World} (t : Tb F w) (h : ∀ b, F b → F' b) : Tb F' w := ⟨h _ t.here, t.is⟩
def Tryd.laysM171_ren : Go.Shelf.Ren := ⟨fun | 171 => 61 | 243 => 89 | 246 => 100 | 283 => 102 | 284 => 103 | 285 => 104 | 286 => 105 | 129 => 107 | 317 => 106 | 318 => 108 | 319 => 109 | 320 => 110 | 337 => 111 | 338 => 112 | n => n, fun | 3 => 3 | 9 => 9 | 2 => 2 | 4 => 4 | 171 => 133 | 0 => 0 | 53 => 134 | 37 => 34 | 5 => 5 | 173 => 137 | 212 => 140 | 51 => 141 | 20 => 20 | 213 => 142 | 46 => 80 | 232 => 145 | 233 => 146 | n => n, fun | 17 => 1 | 18 => 2 | 19 => 3 | n => n⟩
theorem Tryd.laysM171 : Go.Proofs.LaysM.n171 Tryd.prog Tryd.laysM171_ren where
  mixed := by kernel_rfl
  f129 := Tryd.func107.trans (congrArg some (by kernel_rfl))
  f171 := Tryd.func61.trans (congrArg some (by kernel_rfl))
  f243 := Tryd.func89.trans (congrArg some (by kernel_rfl))
  f246 := Tryd.func100.trans (congrArg some (by kernel_rfl))
  f283 := Tryd.func102.trans (congrArg some (by kernel_rfl))
  f284 := Tryd.func103.trans (congrArg some (by kernel_rfl))
  f285 := Tryd.func104.trans (congrArg some (by kernel_rfl))
  f286 := Tryd.func105.trans (congrArg some (by kernel_rfl))
  f317 := Tryd.func106.trans (congrArg some (by kernel_rfl))
  f318 := Tryd.func108.trans (congrArg some (by kernel_rfl))
  f319 := Tryd.func109.trans (congrArg some (by kernel_rfl))
  f320 := Tryd.func110.trans (congrArg some (by kernel_rfl))
  f337 := Tryd.func111.trans (congrArg some (by kernel_rfl))
  f338 := Tryd.func112.trans (congrArg some (by kernel_rfl))
  t0 := Tryd.underlying0
  a0 := Tryd.isAgg0
  z0 := Tryd.sizeOf0
  v0 := Tryd.zeroValue0
  t2 := Tryd.underlying2
  a2 := Tryd.isAgg2
  z2 := Tryd.sizeOf2
  v2 := Tryd.zeroValue2
  t3 := Tryd.underlying3
  a3 := Tryd.isAgg3
  z3 := Tryd.sizeOf3
  v3 := Tryd.zeroValue3
  t4 := Tryd.underlying4
  a4 := Tryd.isAgg4
  z4 := Tryd.sizeOf4
  v4 := Tryd.zeroValue4
  t5 := Tryd.underlying5
  a5 := Tryd.isAgg5
  z5 := Tryd.sizeOf5
  v5 := Tryd.zeroValue5
  t9 := Tryd.underlying9
  a9 := Tryd.isAgg9
  z9 := Tryd.sizeOf9
  v9 := Tryd.zeroValue9
  t20 := Tryd.underlying20
  a20 := Tryd.isAgg20
  z20 := Tryd.sizeOf20
  v20 := Tryd.zeroValue20
  t37 := Tryd.underlying34
  a37 := Tryd.isAgg34
  z37 := Tryd.sizeOf34
  v37 := Tryd.zeroValue34
  t46 := Tryd.underlying80
  a46 := Tryd.isAgg80
  z46 := Tryd.sizeOf80
  v46 := Tryd.zeroValue80
  t51 := Tryd.underlying141
  a51 := Tryd.isAgg141
  z51 := Tryd.sizeOf141
  v51 := Tryd.zeroValue141
  t53 := Tryd.underlying134
  a53 := Tryd.isAgg134
  z53 := Tryd.sizeOf134
  v53 := Tryd.zeroValue134
  t171 := Tryd.underlying133
  a171 := Tryd.isAgg133
  z171 := Tryd.sizeOf133
  v171 := Tryd.zeroValue133
  t173 := Tryd.underlying137
  a173 := Tryd.isAgg137
  z173 := Tryd.sizeOf137
  v173 := Tryd.zeroValue137
  t212 := Tryd.underlying140
  a212 := Tryd.isAgg140
  z212 := Tryd.sizeOf140
  v212 := Tryd.zeroValue140
  t213 := Tryd.underlying142
  a213 := Tryd.isAgg142
  z213 := Tryd.sizeOf142
  t232 := Tryd.underlying145
  a232 := Tryd.isAgg145
  z232 := Tryd.sizeOf145
  v232 := Tryd.zeroValue145
  t233 := Tryd.underlying146
  a233 := Tryd.isAgg146
  z233 := Tryd.sizeOf146
  v233 := Tryd.zeroValue146
  g17 := by kernel_rfl
  g18 := by kernel_rfl
  g19 := by kernel_rfl
  i0 := by kernel_rfl
  i2 := by kernel_rfl
  i3 := by kernel_rfl
  i4 := by kernel_rfl
  i5 := by kernel_rfl
  i9 := by kernel_rfl
  i20 := by kernel_rfl
  i37 := by kernel_rfl
  i46 := by kernel_rfl
  i51 := by kernel_rfl
  i53 := by kernel_rfl
  i171 := by kernel_rfl
  i173 := by kernel_rfl
  i212 := by kernel_rfl
  i232 := by kernel_rfl
  i233 := by kernel_rfl
  m17 := by kernel_rfl
  m18 := by kernel_rfl
  m19 := by kernel_rfl
theorem w_lib_Itoa {w0 : World} {F F' : Nat → Prop} {n_0 : Int} {κ : ByteArray → Prop} (t : Tb F' w0) (h : L_lib_Itoa n_0 κ) :
    Calls Tryd.prog 61 #[.int .i64 n_0] w0 (Ret [] F w0 κ (fun (r : ByteArray) (u : Unit) => .string r) (fun (r : ByteArray) (u : Unit) => [])) :=
  (Any.strconv_Itoa Tryd.laysM171 n_0 h.1.1 h.1.2 w0 t.is).mono fun e w' ⟨h1, k, os, h2⟩ => by
    subst h2
    refine ⟨_, (), h.2, h1, ⟨rfl, rfl, rfl, ?_, fun b hb _ => ?_⟩, NewCh.nil _ _ _ _⟩
    · show w0.heap.size ≤ (w0.heap ++ os).size
      simp
    · show (w0.heap ++ os)[b]? = w0.heap[b]?
      exact Array.getElem?_append_left hb
end Go.Proofs.YtnogaeckmiekdaaDoor
