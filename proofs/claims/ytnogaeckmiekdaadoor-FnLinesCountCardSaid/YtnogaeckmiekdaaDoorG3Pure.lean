/- The pure forms of the functions of this seat (printed). -/
import Derived.Test.YtnogaeckmiekdaaDoorEls
set_option linter.unusedSimpArgs false
set_option linter.unusedVariables false
namespace Go.Proofs.YtnogaeckmiekdaaDoor
open Go.RowKit
@[ext] structure GTest where
  xField : Int
  xLo : Int
  xHi : Int
  xNot : Bool
  deriving DecidableEq
def encGTest (x : GTest) : List Value := [(.int .i64 x.xField), (.int .i64 x.xLo), (.int .i64 x.xHi), (.bool x.xNot)]
def elGTest : El GTest := El.flat 4 encGTest (by decide) (fun _ => rfl) (fun x u h => by simp only [encGTest, List.mem_cons, List.not_mem_nil, or_false] at h; rcases h with rfl | rfl | rfl | rfl <;> rfl)
theorem flelGTest : Flat elGTest encGTest := flat_flat
abbrev dGTest : DEl GTest := dflat elGTest encGTest flelGTest
@[ext] structure GPrefix where
  xBase : Int
  xLength : Int
  deriving DecidableEq
def encGPrefix (x : GPrefix) : List Value := [(.int .i64 x.xBase), (.int .i64 x.xLength)]
def elGPrefix : El GPrefix := El.flat 2 encGPrefix (by decide) (fun _ => rfl) (fun x u h => by simp only [encGPrefix, List.mem_cons, List.not_mem_nil, or_false] at h; rcases h with rfl | rfl <;> rfl)
theorem flelGPrefix : Flat elGPrefix encGPrefix := flat_flat
abbrev dGPrefix : DEl GPrefix := dflat elGPrefix encGPrefix flelGPrefix
@[ext] structure GSpan where
  xLo : Int
  xHi : Int
  deriving DecidableEq
def encGSpan (x : GSpan) : List Value := [(.int .i64 x.xLo), (.int .i64 x.xHi)]
def elGSpan : El GSpan := El.flat 2 encGSpan (by decide) (fun _ => rfl) (fun x u h => by simp only [encGSpan, List.mem_cons, List.not_mem_nil, or_false] at h; rcases h with rfl | rfl <;> rfl)
theorem flelGSpan : Flat elGSpan encGSpan := flat_flat
abbrev dGSpan : DEl GSpan := dflat elGSpan encGSpan flelGSpan
@[ext] structure GRule where
  xTests : (List GTest)
  xAction : Int
  xChain : Int
  deriving DecidableEq
def encGRule (u : Value) (x : GRule) : List Value := [u, (.int .i64 x.xAction), (.int .i64 x.xChain)]
def elGRule : El GRule where
  size := 3
  cells := fun F w x cs => ∃ u : Value, cs = encGRule u x ∧ Sl elGTest F w u x.xTests
  pos := by decide
  len := fun F w x cs ⟨u, e, _⟩ => by rw [e]; rfl
  one := fun F w x cs ⟨u, e, h⟩ v hv => by
    subst e
    simp only [encGRule, List.mem_cons, List.not_mem_nil, or_false] at hv
    rcases hv with e | e | e
    · subst e; exact h.one
    · subst e; exact rfl
    · subst e; exact rfl
  keep := fun F F' w w' x cs hF hb ⟨u, e, h⟩ => ⟨u, e, h.keep hF hb⟩
def dGRule : DEl GRule where
  el := elGRule
  own := fun B w x cs => ∃ u : Value, cs = encGRule u x ∧ Dp dGTest 25 B w u x.xTests
  read := fun B w x cs ⟨u, e, h⟩ => ⟨u, e, h.sl⟩
  keep := fun B w w' x cs hk ⟨u, e, h⟩ => ⟨u, e, h.keep hk⟩
  lt := fun B w x cs ⟨u, e, h⟩ => h.lt
@[ext] structure GDeciding where
  xAccept : Bool
  deriving DecidableEq
def encGDeciding (x : GDeciding) : List Value := [(.bool x.xAccept)]
def elGDeciding : El GDeciding := El.flat 1 encGDeciding (by decide) (fun _ => rfl) (fun x u h => by simp only [encGDeciding, List.mem_cons, List.not_mem_nil, or_false] at h; rcases h with rfl <;> rfl)
theorem flelGDeciding : Flat elGDeciding encGDeciding := flat_flat
abbrev dGDeciding : DEl GDeciding := dflat elGDeciding encGDeciding flelGDeciding
@[ext] structure GCalling where
  xChain : Int
  deriving DecidableEq
def encGCalling (x : GCalling) : List Value := [(.int .i64 x.xChain)]
def elGCalling : El GCalling := El.flat 1 encGCalling (by decide) (fun _ => rfl) (fun x u h => by simp only [encGCalling, List.mem_cons, List.not_mem_nil, or_false] at h; rcases h with rfl <;> rfl)
theorem flelGCalling : Flat elGCalling encGCalling := flat_flat
abbrev dGCalling : DEl GCalling := dflat elGCalling encGCalling flelGCalling
@[ext] structure GReturning where
  deriving DecidableEq
@[ext] structure GPassing where
  deriving DecidableEq
@[ext] structure GFieldShape where
  xName : ByteArray
  xTop : Int
  deriving DecidableEq
def encGFieldShape (x : GFieldShape) : List Value := [(.string x.xName), (.int .i64 x.xTop)]
def elGFieldShape : El GFieldShape := El.flat 2 encGFieldShape (by decide) (fun _ => rfl) (fun x u h => by simp only [encGFieldShape, List.mem_cons, List.not_mem_nil, or_false] at h; rcases h with rfl | rfl <;> rfl)
theorem flelGFieldShape : Flat elGFieldShape encGFieldShape := flat_flat
abbrev dGFieldShape : DEl GFieldShape := dflat elGFieldShape encGFieldShape flelGFieldShape
inductive IAction where
  | kDeciding (x : GDeciding)
  | kCalling (x : GCalling)
  | kReturning (x : GReturning)
  | kPassing (x : GPassing)
def ivIAction : IAction → Value
  | .kDeciding x => .iface 123 (.agg #[(.bool x.xAccept)])
  | .kCalling x => .iface 125 (.agg #[(.int .i64 x.xChain)])
  | .kReturning x => .iface 127 (.agg #[])
  | .kPassing x => .iface 128 (.agg #[])
def IAction.casesW (a : IAction) (p0 : GDeciding → Prop) (p1 : GCalling → Prop) (p2 : GReturning → Prop) (p3 : GPassing → Prop) : Prop := match a with
  | .kDeciding x => p0 x
  | .kCalling x => p1 x
  | .kReturning x => p2 x
  | .kPassing x => p3 x
/-- what the package-level variable reads as -/
def gl_impl_fieldShapes : List GFieldShape := [⟨(ByteArray.mk #[102, 114, 111, 109]), 65535⟩, ⟨(ByteArray.mk #[116, 111]), 65535⟩, ⟨(ByteArray.mk #[112, 111, 114, 116]), 255⟩, ⟨(ByteArray.mk #[112, 114, 111, 116, 111]), 7⟩]

def L_spec_l1In (n_0 : Int) (lo_1 : Int) (hi_2 : Int) (κ : Bool → Prop) : Prop :=
  jnW (fun (t61 : Bool) => κ t61) (fun k62 => ifW (decide (lo_1 ≤ n_0)) (k62 (decide (n_0 ≤ hi_2))) (k62 false))

def L_spec_FieldTop (n_0 : Int) (κ : Int → Prop) : Prop :=
  jnW (fun (t61 : Bool) => ifW t61 (κ 65535) (ifW (decide (n_0 = 2)) (κ 255) (ifW (decide (n_0 = 3)) (κ 7) (κ (-1))))) (fun k62 => ifW (decide (n_0 = 0)) (k62 (decide (n_0 = 0))) (k62 (decide (n_0 = 1))))

def L_spec_TestValid (t_0 : GTest) (κ : Bool → Prop) : Prop :=
  jnW (fun (t66 : Bool) => κ t66) (fun k67 => L_spec_l1In t_0.xField 0 3 (fun r3 => ifW r3 (L_spec_l1In t_0.xLo 0 t_0.xHi (fun r4 => ifW r4 (L_spec_FieldTop t_0.xField (fun r5 => k67 (decide (t_0.xHi ≤ r5)))) (k67 false))) (k67 false)))

def L_spec_l3Number (n_0 : Int) (κ : ByteArray → Prop) : Prop :=
  remW n_0 10 (fun t1 => addW 48 t1 (fun t2 => byteU t2 (fun t3 => loopW (fun (nx8 : (Int × ByteArray) → Prop) ((t6, t7) : (Int × ByteArray)) => ifW (decide (9 < t6)) (quoW t6 10 (fun t9 => remW t9 10 (fun t10 => addW 48 t10 (fun t11 => byteU t11 (fun t12 => catW (ByteArray.mk ([t12]).toArray) t7 (fun s15 => nx8 (t9, s15))))))) (κ t7)) (n_0, (ByteArray.mk ([t3]).toArray)))))

def L_spec_TestText (t_0 : GTest) (κ : ByteArray → Prop) : Prop :=
  L_spec_TestValid t_0 (fun r3 => ifW (!r3) (κ (ByteArray.mk #[])) (jnW (fun (t4 : ByteArray) => jnW (fun (t81 : ByteArray) => jnW (fun (t146 : ByteArray) => κ t146) (fun k147 => ifW (!(decide (t_0.xHi = t_0.xLo))) (catW t81 (ByteArray.mk #[45]) (fun s83 => L_spec_l3Number t_0.xHi (fun r84 => catW s83 r84 (fun s85 => k147 s85)))) (k147 t81))) (fun k82 => ifW t_0.xNot (catW (ByteArray.mk #[110, 111, 116, 32]) t4 (fun s20 => k82 s20)) (k82 t4))) (fun k5 => ((idxW ([(ByteArray.mk #[102, 114, 111, 109]), (ByteArray.mk #[116, 111]), (ByteArray.mk #[112, 111, 114, 116]), (ByteArray.mk #[112, 114, 111, 116, 111])]) t_0.xField (fun e7 => (catW e7 (ByteArray.mk #[32]) (fun s9 => L_spec_l3Number t_0.xLo (fun r10 => catW s9 r10 (fun s11 => k5 s11)))) ∧ (L_spec_l3Number t_0.xLo (fun r12 => catW e7 (ByteArray.mk #[32]) (fun s13 => catW s13 r12 (fun s14 => k5 s14)))))) ∧ (L_spec_l3Number t_0.xLo (fun r15 => idxW ([(ByteArray.mk #[102, 114, 111, 109]), (ByteArray.mk #[116, 111]), (ByteArray.mk #[112, 111, 114, 116]), (ByteArray.mk #[112, 114, 111, 116, 111])]) t_0.xField (fun e16 => catW e16 (ByteArray.mk #[32]) (fun s13 => catW s13 r15 (fun s14 => k5 s14)))))) ∧ (L_spec_l3Number t_0.xLo (fun r18 => idxW ([(ByteArray.mk #[102, 114, 111, 109]), (ByteArray.mk #[116, 111]), (ByteArray.mk #[112, 111, 114, 116]), (ByteArray.mk #[112, 114, 111, 116, 111])]) t_0.xField (fun e16 => catW e16 (ByteArray.mk #[32]) (fun s13 => catW s13 r18 (fun s14 => k5 s14))))))))

def L_laws_toTest (a_0 : GTest) (κ : GTest → Prop) : Prop :=
  κ a_0

def L_impl_FieldTop (n_0 : Int) (κ : Int → Prop) : Prop :=
  jnW (fun (t61 : Bool) => ifW t61 (κ (-1)) (idxW gl_impl_fieldShapes n_0 (fun e63 => κ e63.xTop))) (fun k62 => ifW (decide (n_0 < 0)) (k62 true) (k62 (decide (4 ≤ n_0))))

def L_impl_TestValid (t_0 : GTest) (κ : Bool → Prop) : Prop :=
  jnW (fun (t64 : Bool) => κ t64) (fun k65 => ifW (decide (0 ≤ t_0.xField)) (ifW (decide (t_0.xField < 4)) (ifW (decide (0 ≤ t_0.xLo)) (ifW (decide (t_0.xLo ≤ t_0.xHi)) (L_impl_FieldTop t_0.xField (fun r3 => k65 (decide (t_0.xHi ≤ r3)))) (k65 false)) (k65 false)) (k65 false)) (k65 false))

def L_impl_Test_text (t_0 : GTest) (κ : ByteArray → Prop) : Prop :=
  idxW gl_impl_fieldShapes t_0.xField (fun e3 => catW e3.xName (ByteArray.mk #[32]) (fun s5 => L_lib_Itoa t_0.xLo (fun r6 => catW s5 r6 (fun s7 => jnW (fun (t69 : ByteArray) => jnW (fun (t134 : ByteArray) => κ t134) (fun k135 => ifW (!(decide (t_0.xHi = t_0.xLo))) (L_lib_Itoa t_0.xHi (fun r71 => catW (ByteArray.mk #[45]) r71 (fun s72 => catW t69 s72 (fun s73 => k135 s73)))) (k135 t69))) (fun k70 => ifW t_0.xNot (catW (ByteArray.mk #[110, 111, 116, 32]) s7 (fun s8 => k70 s8)) (k70 s7))))))

def L_impl_TestText (t_0 : GTest) (κ : ByteArray → Prop) : Prop :=
  L_impl_TestValid t_0 (fun r3 => ifW (!r3) (κ (ByteArray.mk #[])) (L_impl_Test_text t_0 (fun r4 => κ r4)))

def L_laws_FnExactTestText (aT_0 : GTest) (κ : Bool → Prop) : Prop :=
  L_laws_toTest aT_0 (fun r3 => L_spec_TestText r3 (fun r4 => L_laws_toTest aT_0 (fun r5 => L_impl_TestText r5 (fun r6 => ifW (!(decide (r6 = r4))) (κ false) (κ true)))))

def L_spec_PrefixValid (p_0 : GPrefix) (κ : Bool → Prop) : Prop :=
  jnW (fun (t68 : Bool) => κ t68) (fun k69 => L_spec_l1In p_0.xLength 0 16 (fun r3 => ifW r3 (L_spec_l1In p_0.xBase 0 65535 (fun r4 => ifW r4 (subW 16 p_0.xLength (fun t5 => shlW 1 t5 (fun t6 => remW p_0.xBase t6 (fun t7 => k69 (decide (t7 = 0)))))) (k69 false))) (k69 false)))

def L_spec_PrefixText (p_0 : GPrefix) (κ : ByteArray → Prop) : Prop :=
  L_spec_PrefixValid p_0 (fun r3 => ifW (!r3) (κ (ByteArray.mk #[])) (quoW p_0.xBase 256 (fun t4 => remW p_0.xBase 256 (fun t5 => L_spec_l3Number t4 (fun r6 => catW r6 (ByteArray.mk #[46]) (fun s7 => L_spec_l3Number t5 (fun r8 => catW s7 r8 (fun s9 => catW s9 (ByteArray.mk #[47]) (fun s10 => L_spec_l3Number p_0.xLength (fun r11 => catW s10 r11 (fun s12 => κ s12)))))))))))

def L_spec_l3Cut (s_0 : ByteArray) (c_1 : UInt8) (κ : (ByteArray × ByteArray) → Prop) : Prop :=
  loopW (fun (nx2 : Int → Prop) (t1 : Int) => ifW (decide (t1 < (s_0.size : Int))) (idxW s_0.data.toList t1 (fun e3 => ifW (decide ((e3.toNat : Int) = (c_1.toNat : Int))) (sliceS s_0 0 t1 (fun s4 => addW t1 1 (fun t5 => sliceS s_0 t5 (s_0.size : Int) (fun s6 => κ (s4, s6))))) (addW t1 1 (fun t7 => nx2 t7)))) (κ (s_0, (ByteArray.mk #[])))) 0

def L_spec_l3Value (s_0 : ByteArray) (κ : Int → Prop) : Prop :=
  loopW (fun (nx3 : (Int × Int) → Prop) ((t1, t2) : (Int × Int)) => jnW (fun (t64 : Bool) => ifW t64 (jnW (fun (t128 : Bool) => ifW t128 (κ (-1)) (mulW 10 t1 (fun t130 => idxW s_0.data.toList t2 (fun e131 => sub8W (e131.toNat : Int) 48 (fun t132 => byteW t132 (fun _ => addW t130 t132 (fun t133 => addW t2 1 (fun t134 => nx3 (t133, t134))))))))) (fun k129 => idxW s_0.data.toList t2 (fun e66 => ifW (decide ((e66.toNat : Int) < 48)) (k129 true) (idxW s_0.data.toList t2 (fun e67 => k129 (decide (57 < (e67.toNat : Int)))))))) (jnW (fun (t196 : Bool) => ifW t196 (κ (-1)) (κ t1)) (fun k197 => ifW (decide (5 < (s_0.size : Int))) (k197 true) (L_spec_l3Number t1 (fun r135 => k197 (!(decide (r135 = s_0)))))))) (fun k65 => ifW (decide (t2 < (s_0.size : Int))) (k65 (decide (t2 < 6))) (k65 false))) (0, 0)

def L_spec_ReadPrefix (s_0 : ByteArray) (κ : (GPrefix × Bool) → Prop) : Prop :=
  L_spec_l3Cut s_0 (46 : UInt8) (fun (r3, r4) => L_spec_l3Cut r4 (47 : UInt8) (fun (r5, r6) => L_spec_l3Value r3 (fun r7 => mulW 256 r7 (fun t8 => L_spec_l3Value r5 (fun r9 => addW t8 r9 (fun t10 => L_spec_l3Value r6 (fun r11 => jnW (fun (t75 : Bool) => ifW t75 (κ ((GPrefix.mk 0 0), false)) (κ ((GPrefix.mk t10 r11), true))) (fun k76 => L_spec_PrefixText (GPrefix.mk t10 r11) (fun r14 => ifW (!(decide (r14 = s_0))) (k76 true) (k76 (decide (s_0 = (ByteArray.mk #[])))))))))))))

def L_impl_hostMask (length_0 : Int) (κ : Int → Prop) : Prop :=
  subW 16 length_0 (fun t1 => shlW 1 t1 (fun t2 => subW t2 1 (fun t3 => κ t3)))

def L_impl_PrefixValid (p_0 : GPrefix) (κ : Bool → Prop) : Prop :=
  jnW (fun (t63 : Bool) => ifW t63 (κ false) (L_impl_hostMask p_0.xLength (fun r65 => κ (decide ((bits .and .i64 p_0.xBase r65) = 0))))) (fun k64 => ifW (decide (p_0.xLength < 0)) (k64 true) (ifW (decide (16 < p_0.xLength)) (k64 true) (ifW (decide (p_0.xBase < 0)) (k64 true) (k64 (decide (65535 < p_0.xBase))))))

def L_impl_PrefixText (p_0 : GPrefix) (κ : ByteArray → Prop) : Prop :=
  L_impl_PrefixValid p_0 (fun r3 => ifW (!r3) (κ (ByteArray.mk #[])) (shrW p_0.xBase 8 (fun t4 => L_lib_Itoa t4 (fun r5 => catW r5 (ByteArray.mk #[46]) (fun s6 => L_lib_Itoa (bits .and .i64 p_0.xBase 255) (fun r7 => catW s6 r7 (fun s8 => catW s8 (ByteArray.mk #[47]) (fun s9 => L_lib_Itoa p_0.xLength (fun r10 => catW s9 r10 (fun s11 => κ s11))))))))))

def L_impl_scanner_done (in_0_text : ByteArray) (in_0_at : Int) (κ : Bool → Prop) : Prop :=
  κ (decide (in_0_at = (in_0_text.size : Int)))

def L_impl_scanner_number (in_0_text : ByteArray) (in_0_at : Int) (κ : (Int × Bool × Int) → Prop) : Prop :=
  jnW (fun ((t199, t200) : (Int × Int)) => κ (t200, (decide (in_0_at < t199)), t199)) (fun k201 => loopW (fun (nx5 : (Int × Int) → Prop) ((t3, t4) : (Int × Int)) => jnW (fun (t68 : Bool) => ifW t68 (jnW (fun (t70 : UInt8) => jnW (fun (t133 : Bool) => ifW t133 (k201 (t3, t4)) (mulW 10 t4 (fun t135 => sub8W (t70.toNat : Int) 48 (fun t136 => byteW t136 (fun _ => addW t135 t136 (fun t137 => addW t3 1 (fun t138 => nx5 (t138, t137)))))))) (fun k134 => ifW (decide ((t70.toNat : Int) < 48)) (k134 true) (k134 (decide (57 < (t70.toNat : Int)))))) (fun k71 => idxW in_0_text.data.toList t3 (fun e72 => k71 e72))) (k201 (t3, t4))) (fun k69 => L_impl_scanner_done in_0_text t3 (fun r6 => ifW (!r6) (addW in_0_at 6 (fun t7 => k69 (decide (t3 < t7)))) (k69 false)))) (in_0_at, 0))

def L_impl_scanner_word (in_0_text : ByteArray) (in_0_at : Int) (w_1 : ByteArray) (κ : (Bool × Int) → Prop) : Prop :=
  jnW (fun (t3 : Bool) => ifW t3 (κ (false, in_0_at)) (addW in_0_at (w_1.size : Int) (fun t7 => κ (true, t7)))) (fun k4 => sliceS in_0_text in_0_at (in_0_text.size : Int) (fun s5 => L_lib_HasPrefix s5 w_1 (fun r6 => k4 (!r6))))

def L_impl_ReadPrefix (s_0 : ByteArray) (κ : (GPrefix × Bool) → Prop) : Prop :=
  L_impl_scanner_number s_0 0 (fun (r5, r6, r7) => L_impl_scanner_word s_0 r7 (ByteArray.mk #[46]) (fun (r8, r9) => L_impl_scanner_number s_0 r9 (fun (r10, r11, r12) => L_impl_scanner_word s_0 r12 (ByteArray.mk #[47]) (fun (r13, r14) => L_impl_scanner_number s_0 r14 (fun (r15, r16, r17) => jnW (fun (t78 : Bool) => ifW t78 (κ ((GPrefix.mk 0 0), false)) (shlW r5 8 (fun t80 => addW t80 r10 (fun t81 => jnW (fun (t146 : Bool) => ifW t146 (κ ((GPrefix.mk 0 0), false)) (κ ((GPrefix.mk t81 r15), true))) (fun k147 => L_impl_PrefixValid (GPrefix.mk t81 r15) (fun r84 => ifW (!r84) (k147 true) (L_impl_PrefixText (GPrefix.mk t81 r15) (fun r85 => k147 (!(decide (r85 = s_0))))))))))) (fun k79 => ifW (!r6) (k79 true) (ifW (!r8) (k79 true) (ifW (!r11) (k79 true) (ifW (!r13) (k79 true) (k79 (!r16)))))))))))

def L_laws_eqPrefix (a_0 : GPrefix) (b_1 : GPrefix) (κ : Bool → Prop) : Prop :=
  ifW (!(decide (a_0.xBase = b_1.xBase))) (κ false) (ifW (!(decide (a_0.xLength = b_1.xLength))) (κ false) (κ true))

def L_laws_FnExactReadPrefix (aS_0 : ByteArray) (κ : Bool → Prop) : Prop :=
  ifW (decide (1048576 < (aS_0.size : Int))) (κ true) (L_spec_ReadPrefix aS_0 (fun (r1, r2) => L_impl_ReadPrefix aS_0 (fun (r5, r6) => jnW (fun (t70 : Bool) => ifW t70 (κ false) (κ true)) (fun k71 => L_laws_eqPrefix r5 r1 (fun r9 => ifW (!r9) (k71 true) (k71 (!(decide (r6 = r2)))))))))

def L_spec_l20Rd_pick (r_0_b : (List UInt8)) (r_0_p : Int) (n_1 : Int) (κ : (Int × Int) → Prop) : Prop :=
  addW r_0_p 1 (fun t5 => jnW (fun (t66 : Bool) => ifW t66 (κ (0, t5)) (subW t5 1 (fun t68 => ifW (decide (t68 < (r_0_b.length : Int))) (idxW r_0_b t68 (fun e69 => remW (e69.toNat : Int) n_1 (fun t71 => κ (t71, t5)))) (remW t68 (r_0_b.length : Int) (fun t72 => idxW r_0_b t72 (fun e73 => mulW (e73.toNat : Int) 131 (fun t75 => mulW t68 7 (fun t76 => addW t76 3 (fun t77 => remW t77 (r_0_b.length : Int) (fun t78 => idxW r_0_b t78 (fun e79 => mulW (e79.toNat : Int) 1117 (fun t81 => addW t75 t81 (fun t82 => mulW t68 29 (fun t83 => addW t82 t83 (fun t84 => quoW t68 (r_0_b.length : Int) (fun t85 => mulW t85 53 (fun t86 => addW t84 t86 (fun t87 => quoW t87 64 (fun t88 => xorW t87 t88 (fun t89 => remW t89 n_1 (fun t90 => κ (t90, t5)))))))))))))))))))))) (fun k67 => ifW (decide (n_1 < 1)) (k67 true) (k67 (decide ((r_0_b.length : Int) = 0)))))

def L_spec_l20Rd_odd (r_0_b : (List UInt8)) (r_0_p : Int) (n_1 : Int) (κ : (Bool × Int) → Prop) : Prop :=
  jnW (fun ((t68, t69) : (Int × Bool)) => κ (t69, t68)) (fun k70 => ifW (decide (0 < n_1)) (L_spec_l20Rd_pick r_0_b r_0_p n_1 (fun (r5, r6) => subW n_1 1 (fun t7 => k70 (r6, (decide (r5 = t7)))))) (k70 (r_0_p, false)))

def L_spec_l20Prefix (r_0_b : (List UInt8)) (r_0_p : Int) (n_1 : Int) (κ : (GPrefix × Int) → Prop) : Prop :=
  L_spec_l20Rd_pick r_0_b r_0_p 9 (fun (r7, r8) => addW 8 r7 (fun t9 => L_spec_l20Rd_pick r_0_b r8 17 (fun (r10, r11) => L_spec_l20Rd_pick r_0_b r11 3 (fun (r14, r15) => idxW ([16, t9, r10]) r14 (fun e16 => L_spec_l20Rd_pick r_0_b r15 4 (fun (r20, r21) => mulW r20 16384 (fun t22 => L_spec_l20Rd_pick r_0_b r21 256 (fun (r23, r24) => L_spec_l20Rd_pick r_0_b r24 2 (fun (r27, r28) => idxW ([1, 64]) r27 (fun e29 => mulW r23 e29 (fun t31 => addW t22 t31 (fun t32 => remW t32 65536 (fun t33 => jnW (fun (t34 : Int) => jnW (fun ((t126, t127, t128) : (Int × Int × Int)) => κ ((GPrefix.mk t127 t128), t126)) (fun k129 => L_spec_l20Rd_odd r_0_b r28 n_1 (fun (r43, r44) => ifW r43 (L_spec_l20Rd_pick r_0_b r44 3 (fun (r45, r46) => ifW (decide (r45 = 0)) (L_spec_l20Rd_pick r_0_b r46 2 (fun (r49, r50) => idxW ([(-1), 17]) r49 (fun e51 => k129 (r50, t34, e51)))) (ifW (decide (r45 = 1)) (jnW (fun ((t53, t54) : (Int × Int)) => k129 (t53, (bits .or .i64 t34 1), t54)) (fun k55 => L_spec_l20Rd_pick r_0_b r46 16 (fun (r56, r57) => k55 (r57, r56)))) (L_spec_l20Rd_pick r_0_b r46 2 (fun (r62, r63) => idxW ([(-1), 65536]) r62 (fun e64 => k129 (r63, e64, e16))))))) (k129 (r44, t34, e16))))) (fun k35 => shrW t33 (w64 (16 - e16)) (fun t36 => shlW t36 (w64 (16 - e16)) (fun t37 => k35 t37))))))))))))))))

def L_spec_l20Open (code_0 : (List UInt8)) (κ : ((List UInt8) × Int) → Prop) : Prop :=
  jnW (fun (xs68 : (List UInt8)) => κ (xs68, 0)) (fun k71 => ifW (decide (2000 < (code_0.length : Int))) (sliceW code_0 0 2000 (fun xs4 => k71 xs4)) (k71 code_0))

def L_spec_DrawPrefixText (code_0 : (List UInt8)) (κ : GPrefix → Prop) : Prop :=
  L_spec_l20Open code_0 (fun (r7, r10) => L_spec_l20Prefix r7 r10 6 (fun (r11, r12) => κ r11))

def L_impl_SpansHave (list_0 : (List GSpan)) (n_1 : Int) (κ : Bool → Prop) : Prop :=
  loopW (fun (nx4 : Int → Prop) (t3 : Int) => ifW (decide (t3 < (list_0.length : Int))) (idxW list_0 t3 (fun e5 => jnW (fun (t69 : Bool) => ifW t69 (κ true) (addW t3 1 (fun t71 => nx4 t71))) (fun k70 => ifW (decide (e5.xLo ≤ n_1)) (k70 (decide (n_1 ≤ e5.xHi))) (k70 false)))) (κ false)) 0

def L_laws_alive (κ : Bool → Prop) : Prop :=
  L_impl_SpansHave ([(GSpan.mk 2 4)]) 3 (fun r3 => κ r3)

def L_laws_FnPrefixText (code_0 : (List UInt8)) (κ : Bool → Prop) : Prop :=
  ifW (decide (1048576 < (code_0.length : Int))) (κ true) (L_spec_DrawPrefixText code_0 (fun r3 => L_impl_PrefixText r3 (fun r6 => L_spec_PrefixText r3 (fun r7 => ifW (!(decide (r6 = r7))) (κ false) (L_spec_PrefixValid r3 (fun r8 => ifW (!r8) (jnW (fun (t70 : Bool) => κ t70) (fun k71 => ifW (decide (r6 = (ByteArray.mk #[]))) (L_laws_alive (fun r9 => k71 r9)) (k71 false))) (L_impl_ReadPrefix r6 (fun (r72, r73) => catW r6 (ByteArray.mk #[48]) (fun s76 => L_impl_ReadPrefix s76 (fun (r77, r78) => jnW (fun (t141 : Bool) => κ t141) (fun k142 => ifW r73 (ifW (decide (r72 = r3)) (ifW (!r78) (k142 true) (k142 (decide (r3.xLength = 1)))) (k142 false)) (k142 false))))))))))))

def L_spec_DrawReadPrefix (code_0 : (List UInt8)) (κ : ByteArray → Prop) : Prop :=
  L_spec_l20Open code_0 (fun (r5, r8) => L_spec_l20Prefix r5 r8 0 (fun (r9, r10) => L_spec_PrefixText r9 (fun r11 => jnW (fun (t82 : ByteArray) => κ t82) (fun k83 => L_spec_l20Rd_odd r5 r10 3 (fun (r12, r13) => ifW r12 (catW r11 (ByteArray.mk #[48]) (fun s14 => catW (ByteArray.mk #[48]) r11 (fun s15 => L_spec_l20Rd_pick r5 r13 10 (fun (r18, r19) => idxW ([s14, s15, (ByteArray.mk #[]), (ByteArray.mk #[49, 46, 50]), (ByteArray.mk #[49, 47, 50]), (ByteArray.mk #[50, 53, 54, 46, 48, 47, 49, 54]), (ByteArray.mk #[48, 46, 50, 53, 54, 47, 49, 54]), (ByteArray.mk #[49, 46, 49, 47, 56]), (ByteArray.mk #[97, 46, 98, 47, 99]), (ByteArray.mk #[49, 46, 50, 47, 49, 54, 32])]) r18 (fun e20 => k83 e20))))) (k83 r11))))))

def L_laws_FnReadPrefix (code_0 : (List UInt8)) (κ : Bool → Prop) : Prop :=
  ifW (decide (1048576 < (code_0.length : Int))) (κ true) (L_spec_DrawReadPrefix code_0 (fun r3 => L_impl_ReadPrefix r3 (fun (r4, r5) => L_spec_ReadPrefix r3 (fun (r8, r9) => jnW (fun (t72 : Bool) => ifW t72 (κ false) (jnW (fun (t138 : Bool) => κ t138) (fun k139 => ifW (!r5) (ifW (decide (r4 = (GPrefix.mk 0 0))) (L_laws_alive (fun r74 => ifW r74 (k139 true) (ifW r5 (L_impl_PrefixText r4 (fun r75 => k139 (decide (r75 = r3)))) (k139 false)))) (ifW r5 (L_impl_PrefixText r4 (fun r76 => k139 (decide (r76 = r3)))) (k139 false))) (ifW r5 (L_impl_PrefixText r4 (fun r77 => k139 (decide (r77 = r3)))) (k139 false))))) (fun k73 => ifW (!(decide (r4 = r8))) (k73 true) (k73 (!(decide (r5 = r9)))))))))

def L_spec_ReadTest (s_0 : ByteArray) (κ : (GTest × Bool) → Prop) : Prop :=
  jnW (fun ((t129, t130) : (Bool × ByteArray)) => L_spec_l3Cut t130 (32 : UInt8) (fun (r132, r133) => L_spec_l3Cut r133 (45 : UInt8) (fun (r134, r135) => jnW (fun (t196 : ByteArray) => loopW (fun (nx202 : (Int × Int) → Prop) ((t200, t201) : (Int × Int)) => ifW (decide (t201 < (([(ByteArray.mk #[102, 114, 111, 109]), (ByteArray.mk #[116, 111]), (ByteArray.mk #[112, 111, 114, 116]), (ByteArray.mk #[112, 114, 111, 116, 111])]).length : Int))) (jnW (fun (t265 : Int) => addW t201 1 (fun t267 => nx202 (t265, t267))) (fun k266 => idxW ([(ByteArray.mk #[102, 114, 111, 109]), (ByteArray.mk #[116, 111]), (ByteArray.mk #[112, 111, 114, 116]), (ByteArray.mk #[112, 114, 111, 116, 111])]) t201 (fun e203 => ifW (decide (r132 = e203)) (k266 t201) (k266 t200)))) (L_spec_l3Value r134 (fun r268 => L_spec_l3Value t196 (fun r269 => jnW (fun (t331 : Bool) => ifW t331 (κ ((GTest.mk 0 0 0 false), false)) (κ ((GTest.mk t200 r268 r269 t129), true))) (fun k332 => L_spec_TestText (GTest.mk t200 r268 r269 t129) (fun r270 => ifW (!(decide (r270 = s_0))) (k332 true) (k332 (decide (s_0 = (ByteArray.mk #[])))))))))) ((-1), 0)) (fun k197 => ifW (decide (r135 = (ByteArray.mk #[]))) (k197 r134) (k197 r135))))) (fun k131 => jnW (fun (t66 : Bool) => ifW t66 (sliceS s_0 4 (s_0.size : Int) (fun s68 => k131 (true, s68))) (k131 (false, s_0))) (fun k67 => ifW (decide (4 < (s_0.size : Int))) (sliceS s_0 0 4 (fun s5 => k67 (decide (s5 = (ByteArray.mk #[110, 111, 116, 32]))))) (k67 false)))

def L_impl_scanner_field (in_0_text : ByteArray) (in_0_at : Int) (κ : (Int × Bool × Int) → Prop) : Prop :=
  loopW (fun (nx5 : (Int × Int) → Prop) ((t3, t4) : (Int × Int)) => ifW (decide (t4 < 4)) (idxW gl_impl_fieldShapes t4 (fun e6 => catW e6.xName (ByteArray.mk #[32]) (fun s8 => L_impl_scanner_word in_0_text t3 s8 (fun (r9, r10) => ifW r9 (κ (t4, true, r10)) (addW t4 1 (fun t11 => nx5 (r10, t11))))))) (κ (0, false, t3))) (in_0_at, 0)

def L_impl_scanner_test (in_0_text : ByteArray) (in_0_at : Int) (κ : (GTest × Bool × Int) → Prop) : Prop :=
  L_impl_scanner_word in_0_text in_0_at (ByteArray.mk #[110, 111, 116, 32]) (fun (r7, r8) => L_impl_scanner_field in_0_text r8 (fun (r9, r10, r11) => ifW (!r10) (κ ((GTest.mk 0 0 0 false), false, r11)) (L_impl_scanner_number in_0_text r11 (fun (r12, r13, r14) => ifW (!r13) (κ ((GTest.mk 0 0 0 false), false, r14)) (jnW (fun ((t80, t81) : (Int × Int)) => κ ((GTest.mk r9 r12 t81 r7), true, t80)) (fun k82 => L_impl_scanner_word in_0_text r14 (ByteArray.mk #[45]) (fun (r15, r16) => ifW r15 (L_impl_scanner_number in_0_text r16 (fun (r17, r18, r19) => ifW (!r18) (κ ((GTest.mk 0 0 0 false), false, r19)) (k82 (r19, r17)))) (k82 (r16, r12)))))))))

def L_impl_ReadTest (s_0 : ByteArray) (κ : (GTest × Bool) → Prop) : Prop :=
  L_impl_scanner_test s_0 0 (fun (r5, r6, r7) => jnW (fun (t73 : Bool) => ifW t73 (κ ((GTest.mk 0 0 0 false), false)) (κ (r5, true))) (fun k74 => ifW (!r6) (k74 true) (L_impl_scanner_done s_0 r7 (fun r10 => ifW (!r10) (k74 true) (L_impl_TestValid r5 (fun r11 => ifW (!r11) (k74 true) (L_impl_Test_text r5 (fun r12 => k74 (!(decide (r12 = s_0)))))))))))

def L_laws_eqTest (a_0 : GTest) (b_1 : GTest) (κ : Bool → Prop) : Prop :=
  ifW (!(decide (a_0.xField = b_1.xField))) (κ false) (ifW (!(decide (a_0.xLo = b_1.xLo))) (κ false) (ifW (!(decide (a_0.xHi = b_1.xHi))) (κ false) (ifW (!(decide (a_0.xNot = b_1.xNot))) (κ false) (κ true))))

def L_laws_FnExactReadTest (aS_0 : ByteArray) (κ : Bool → Prop) : Prop :=
  ifW (decide (1048576 < (aS_0.size : Int))) (κ true) (L_spec_ReadTest aS_0 (fun (r1, r2) => L_impl_ReadTest aS_0 (fun (r5, r6) => jnW (fun (t70 : Bool) => ifW t70 (κ false) (κ true)) (fun k71 => L_laws_eqTest r5 r1 (fun r9 => ifW (!r9) (k71 true) (k71 (!(decide (r6 = r2)))))))))

def L_spec_l20Span (r_0_b : (List UInt8)) (r_0_p : Int) (top_1 : Int) (n_2 : Int) (κ : (GSpan × Int) → Prop) : Prop :=
  addW top_1 1 (fun t7 => L_spec_l20Rd_pick r_0_b r_0_p (min 256 t7) (fun (r8, r9) => jnW (fun ((t144, t145) : (Int × Int)) => jnW (fun ((t147, t148) : (Int × Int)) => L_spec_l20Rd_odd r_0_b t147 n_2 (fun (r174, r175) => ifW r174 (jnW (fun ((t176, t177, t178) : (Int × Int × Int)) => κ ((GSpan.mk t177 t178), t176)) (fun k179 => L_spec_l20Rd_pick r_0_b r175 3 (fun (r181, r182) => idxW ([(GSpan.mk (w64 (t148 + 1)) t148), (GSpan.mk (-1) t148), (GSpan.mk t145 (w64 (top_1 + 1)))]) r181 (fun e183 => k179 (r182, e183.xLo, e183.xHi))))) (κ ((GSpan.mk t145 t148), r175)))) (fun k149 => L_spec_l20Rd_pick r_0_b t144 4 (fun (r150, r151) => L_spec_l20Rd_pick r_0_b r151 256 (fun (r152, r153) => L_spec_l20Rd_pick r_0_b r153 4 (fun (r155, r156) => idxW ([0, r150, r152, 4096]) r155 (fun e157 => k149 (r156, (min top_1 (w64 (t145 + e157)))))))))) (fun k146 => jnW (fun ((t74, t75) : (Int × Bool)) => ifW t75 (jnW (fun ((t77, t78) : (Int × Int)) => k146 (t77, t78)) (fun k79 => L_spec_l20Rd_pick r_0_b t74 256 (fun (r80, r81) => k79 (r81, (min top_1 (w64 ((w64 (r8 * 256)) + r80))))))) (k146 (t74, r8))) (fun k76 => ifW (decide (255 < top_1)) (L_spec_l20Rd_pick r_0_b r9 2 (fun (r12, r13) => k76 (r13, (decide (r12 = 0))))) (k76 (r9, false))))))

def L_spec_l20Test (r_0_b : (List UInt8)) (r_0_p : Int) (n_1 : Int) (κ : (GTest × Int) → Prop) : Prop :=
  L_spec_l20Rd_pick r_0_b r_0_p 4 (fun (r7, r8) => L_spec_l20Rd_pick r_0_b r8 4 (fun (r9, r10) => L_spec_FieldTop r7 (fun r13 => L_spec_l20Span r_0_b r10 r13 0 (fun (r14, r15) => jnW (fun ((t152, t153, t154) : (Int × Int × Int)) => jnW (fun ((t241, t242, t243) : (Int × Int × Int)) => jnW (fun ((t317, t318, t319, t320) : (Int × Int × Int × Int)) => κ ((GTest.mk t318 t319 t320 (decide (r9 = 0))), t317)) (fun k321 => L_spec_l20Rd_odd r_0_b t241 n_1 (fun (r245, r246) => ifW r245 (L_spec_l20Rd_pick r_0_b r246 3 (fun (r247, r248) => ifW (decide (r247 = 0)) (L_spec_l20Rd_pick r_0_b r248 2 (fun (r251, r252) => idxW ([(-1), 4]) r251 (fun e253 => k321 (r252, e253, t242, t243)))) (ifW (decide (r247 = 1)) (addW t243 1 (fun t255 => k321 (r248, r7, t255, t243))) (addW r13 1 (fun t256 => k321 (r248, r7, t242, t256)))))) (k321 (r246, r7, t242, t243))))) (fun k244 => L_spec_l20Rd_pick r_0_b t152 8 (fun (r156, r157) => ifW (decide (r156 = 0)) (jnW (fun ((t158, t159, t160) : (Int × Int × Int)) => k244 (t158, t159, t160)) (fun k161 => L_spec_l20Rd_pick r_0_b r157 3 (fun (r163, r164) => idxW ([(GSpan.mk 0 r13), (GSpan.mk 0 t154), (GSpan.mk t153 r13)]) r163 (fun e165 => k161 (r164, e165.xLo, e165.xHi))))) (k244 (r157, t153, t154))))) (fun k155 => jnW (fun ((t80, t81) : (Int × Bool)) => ifW t81 (L_spec_l20Rd_pick r_0_b t80 20 (fun (r83, r84) => jnW (fun ((t85, t86) : (Int × Int)) => k155 (t85, r83, t86)) (fun k87 => L_spec_l20Rd_pick r_0_b r84 8 (fun (r88, r89) => k87 (r89, (w64 (r83 + r88))))))) (k155 (t80, r14.xLo, r14.xHi))) (fun k82 => ifW (decide (r7 < 2)) (L_spec_l20Rd_pick r_0_b r15 2 (fun (r18, r19) => k82 (r19, (decide (r18 = 0))))) (k82 (r15, false))))))))

def L_spec_DrawTestText (code_0 : (List UInt8)) (κ : GTest → Prop) : Prop :=
  L_spec_l20Open code_0 (fun (r7, r10) => L_spec_l20Test r7 r10 6 (fun (r11, r12) => κ r11))

def L_laws_FnTestText (code_0 : (List UInt8)) (κ : Bool → Prop) : Prop :=
  ifW (decide (1048576 < (code_0.length : Int))) (κ true) (L_spec_DrawTestText code_0 (fun r3 => L_impl_TestText r3 (fun r6 => L_spec_TestText r3 (fun r7 => ifW (!(decide (r6 = r7))) (κ false) (L_spec_TestValid r3 (fun r8 => ifW (!r8) (jnW (fun (t70 : Bool) => κ t70) (fun k71 => ifW (decide (r6 = (ByteArray.mk #[]))) (L_laws_alive (fun r9 => k71 r9)) (k71 false))) (L_impl_ReadTest r6 (fun (r72, r73) => L_impl_TestText (GTest.mk r3.xField r3.xLo r3.xHi (!r3.xNot)) (fun r78 => jnW (fun (t142 : Bool) => κ t142) (fun k143 => ifW r73 (ifW (decide (r72 = r3)) (ifW r3.xNot (catW (ByteArray.mk #[110, 111, 116, 32]) r78 (fun s79 => ifW (decide (r6 = s79)) (k143 true) (ifW (!r3.xNot) (catW (ByteArray.mk #[110, 111, 116, 32]) r6 (fun s80 => k143 (decide (r78 = s80)))) (k143 false)))) (ifW (!r3.xNot) (catW (ByteArray.mk #[110, 111, 116, 32]) r6 (fun s81 => k143 (decide (r78 = s81)))) (k143 false))) (k143 false)) (k143 false)))))))))))

def L_laws_szTestS (a_0 : (List GTest)) (left_1 : Int) (κ : Int → Prop) : Prop :=
  subW left_1 (a_0.length : Int) (fun t3 => ifW (decide (t3 < 0)) (κ (-1)) (κ t3))

def L_laws_szRule (a_0 : GRule) (left_1 : Int) (κ : Int → Prop) : Prop :=
  L_laws_szTestS a_0.xTests left_1 (fun r8 => ifW (decide (r8 < 0)) (κ (-1)) (κ r8))

def L_spec_TestsValid (list_0 : (List GTest)) (κ : Bool → Prop) : Prop :=
  loopW (fun (nx4 : Int → Prop) (t3 : Int) => ifW (decide (t3 < (list_0.length : Int))) (idxW list_0 t3 (fun e5 => L_spec_TestValid e5 (fun r7 => ifW (!r7) (κ false) (addW t3 1 (fun t8 => nx4 t8))))) (κ (decide ((list_0.length : Int) ≤ 6)))) 0

def L_spec_RuleValid (r_0 : GRule) (κ : Bool → Prop) : Prop :=
  jnW (fun (t71 : Bool) => κ t71) (fun k72 => L_spec_TestsValid r_0.xTests (fun r8 => ifW r8 (L_spec_l1In r_0.xAction 1 5 (fun r9 => ifW r9 (ifW (decide (r_0.xAction = 3)) (L_spec_l1In r_0.xChain 0 4 (fun r10 => ifW r10 (k72 true) (ifW (!(decide (r_0.xAction = 3))) (k72 (decide (r_0.xChain = 0))) (k72 false)))) (ifW (!(decide (r_0.xAction = 3))) (k72 (decide (r_0.xChain = 0))) (k72 false))) (k72 false))) (k72 false)))

def L_spec_RuleText (r_0 : GRule) (κ : ByteArray → Prop) : Prop :=
  L_spec_RuleValid r_0 (fun r8 => ifW (!r8) (κ (ByteArray.mk #[])) (subW r_0.xAction 1 (fun t11 => idxW ([(ByteArray.mk #[97, 99, 99, 101, 112, 116]), (ByteArray.mk #[100, 114, 111, 112]), (ByteArray.mk #[99, 97, 108, 108]), (ByteArray.mk #[114, 101, 116, 117, 114, 110]), (ByteArray.mk #[110, 111, 110, 101])]) t11 (fun e12 => jnW (fun (t77 : ByteArray) => loopW (fun (nx81 : (ByteArray × Int) → Prop) ((t79, t80) : (ByteArray × Int)) => ifW (decide (t80 < (r_0.xTests.length : Int))) (catW t79 (ByteArray.mk #[44, 32]) (fun s82 => idxW r_0.xTests t80 (fun e83 => L_spec_TestText e83 (fun r85 => catW s82 r85 (fun s86 => addW t80 1 (fun t87 => nx81 (s86, t87))))))) (κ t79)) (t77, 0)) (fun k78 => ifW (decide (r_0.xAction = 3)) (catW e12 (ByteArray.mk #[32]) (fun s14 => L_spec_l3Number r_0.xChain (fun r15 => catW s14 r15 (fun s16 => k78 s16)))) (k78 e12))))))

def L_laws_toTestS (a_0 : (List GTest)) (κ : (List GTest) → Prop) : Prop :=
  makeW ((GTest.mk 0 0 0 false) : GTest) (a_0.length : Int) (a_0.length : Int) (fun xs5 => loopW (fun (nx10 : ((List GTest) × Int) → Prop) ((xs7, t9) : ((List GTest) × Int)) => ifW (decide (t9 < (a_0.length : Int))) (idxW a_0 t9 (fun e11 => L_laws_toTest e11 (fun r13 => idxW xs7 t9 (fun e14 => addW t9 1 (fun t17 => nx10 ((xs7.set (t9).toNat r13), t17)))))) (κ xs7)) (xs5, 0))

def L_laws_toRule (a_0 : GRule) (κ : GRule → Prop) : Prop :=
  L_laws_toTestS a_0.xTests (fun r12 => κ (GRule.mk r12 a_0.xAction a_0.xChain))

def L_impl_TestsValid (list_0 : (List GTest)) (κ : Bool → Prop) : Prop :=
  ifW (decide (6 < (list_0.length : Int))) (κ false) (loopW (fun (nx4 : Int → Prop) (t3 : Int) => ifW (decide (t3 < (list_0.length : Int))) (idxW list_0 t3 (fun e5 => L_impl_TestValid e5 (fun r9 => ifW (!r9) (κ false) (addW t3 1 (fun t10 => nx4 t10))))) (κ true)) 0)

def L_impl_RuleValid (r_0 : GRule) (κ : Bool → Prop) : Prop :=
  L_impl_TestsValid r_0.xTests (fun r8 => ifW (!r8) (κ false) (ifW (decide (r_0.xAction = 3)) (jnW (fun (t69 : Bool) => κ t69) (fun k70 => ifW (decide (0 ≤ r_0.xChain)) (k70 (decide (r_0.xChain < 5))) (k70 false))) (jnW (fun (t131 : Bool) => ifW t131 (κ (decide (r_0.xChain = 0))) (κ false)) (fun k132 => ifW (decide (r_0.xAction = 1)) (k132 (decide (r_0.xAction = 1))) (ifW (decide (r_0.xAction = 2)) (k132 (decide (r_0.xAction = 2))) (ifW (decide (r_0.xAction = 4)) (k132 (decide (r_0.xAction = 4))) (k132 (decide (r_0.xAction = 5)))))))))

def L_impl_actionOf (r_0 : GRule) (κ : IAction → Prop) : Prop :=
  ifW (decide (r_0.xAction = 1)) (κ (IAction.kDeciding (GDeciding.mk true))) (ifW (decide (r_0.xAction = 2)) (κ (IAction.kDeciding (GDeciding.mk false))) (ifW (decide (r_0.xAction = 3)) (κ (IAction.kCalling (GCalling.mk r_0.xChain))) (ifW (decide (r_0.xAction = 4)) (κ (IAction.kReturning (GReturning.mk ))) (κ (IAction.kPassing (GPassing.mk ))))))

def L_impl_deciding_word (d_0 : GDeciding) (κ : ByteArray → Prop) : Prop :=
  ifW d_0.xAccept (κ (ByteArray.mk #[97, 99, 99, 101, 112, 116])) (κ (ByteArray.mk #[100, 114, 111, 112]))

def L_impl_calling_word (a_0 : GCalling) (κ : ByteArray → Prop) : Prop :=
  κ (ByteArray.mk #[99, 97, 108, 108])

def L_impl_returning_word (a_0 : GReturning) (κ : ByteArray → Prop) : Prop :=
  κ (ByteArray.mk #[114, 101, 116, 117, 114, 110])

def L_impl_passing_word (a_0 : GPassing) (κ : ByteArray → Prop) : Prop :=
  κ (ByteArray.mk #[110, 111, 110, 101])

def L_impl_Rule_text (r_0 : GRule) (κ : ByteArray → Prop) : Prop :=
  L_impl_actionOf r_0 (fun r8 => IAction.casesW r8 (fun x9 => L_impl_deciding_word x9 (fun r13 => jnW (fun (t77 : ByteArray) => loopW (fun (nx81 : (ByteArray × Int) → Prop) ((t79, t80) : (ByteArray × Int)) => ifW (decide (t80 < (r_0.xTests.length : Int))) (idxW r_0.xTests t80 (fun e82 => L_impl_Test_text e82 (fun r86 => catW (ByteArray.mk #[44, 32]) r86 (fun s87 => catW t79 s87 (fun s88 => addW t80 1 (fun t89 => nx81 (s88, t89))))))) (κ t79)) (t77, 0)) (fun k78 => ifW (decide (r_0.xAction = 3)) (L_lib_Itoa r_0.xChain (fun r14 => catW (ByteArray.mk #[32]) r14 (fun s15 => catW r13 s15 (fun s16 => k78 s16)))) (k78 r13)))) (fun x10 => L_impl_calling_word x10 (fun r90 => jnW (fun (t154 : ByteArray) => loopW (fun (nx158 : (ByteArray × Int) → Prop) ((t156, t157) : (ByteArray × Int)) => ifW (decide (t157 < (r_0.xTests.length : Int))) (idxW r_0.xTests t157 (fun e159 => L_impl_Test_text e159 (fun r163 => catW (ByteArray.mk #[44, 32]) r163 (fun s164 => catW t156 s164 (fun s165 => addW t157 1 (fun t166 => nx158 (s165, t166))))))) (κ t156)) (t154, 0)) (fun k155 => ifW (decide (r_0.xAction = 3)) (L_lib_Itoa r_0.xChain (fun r91 => catW (ByteArray.mk #[32]) r91 (fun s92 => catW r90 s92 (fun s93 => k155 s93)))) (k155 r90)))) (fun x11 => L_impl_returning_word (GReturning.mk ) (fun r167 => jnW (fun (t231 : ByteArray) => loopW (fun (nx235 : (ByteArray × Int) → Prop) ((t233, t234) : (ByteArray × Int)) => ifW (decide (t234 < (r_0.xTests.length : Int))) (idxW r_0.xTests t234 (fun e236 => L_impl_Test_text e236 (fun r240 => catW (ByteArray.mk #[44, 32]) r240 (fun s241 => catW t233 s241 (fun s242 => addW t234 1 (fun t243 => nx235 (s242, t243))))))) (κ t233)) (t231, 0)) (fun k232 => ifW (decide (r_0.xAction = 3)) (L_lib_Itoa r_0.xChain (fun r168 => catW (ByteArray.mk #[32]) r168 (fun s169 => catW r167 s169 (fun s170 => k232 s170)))) (k232 r167)))) (fun x12 => L_impl_passing_word (GPassing.mk ) (fun r244 => jnW (fun (t308 : ByteArray) => loopW (fun (nx312 : (ByteArray × Int) → Prop) ((t310, t311) : (ByteArray × Int)) => ifW (decide (t311 < (r_0.xTests.length : Int))) (idxW r_0.xTests t311 (fun e313 => L_impl_Test_text e313 (fun r317 => catW (ByteArray.mk #[44, 32]) r317 (fun s318 => catW t310 s318 (fun s319 => addW t311 1 (fun t320 => nx312 (s319, t320))))))) (κ t310)) (t308, 0)) (fun k309 => ifW (decide (r_0.xAction = 3)) (L_lib_Itoa r_0.xChain (fun r245 => catW (ByteArray.mk #[32]) r245 (fun s246 => catW r244 s246 (fun s247 => k309 s247)))) (k309 r244)))))

def L_impl_RuleText (r_0 : GRule) (κ : ByteArray → Prop) : Prop :=
  L_impl_RuleValid r_0 (fun r8 => ifW (!r8) (κ (ByteArray.mk #[])) (L_impl_Rule_text r_0 (fun r9 => κ r9)))

def L_laws_eqTestS (a_0 : (List GTest)) (b_1 : (List GTest)) (κ : Bool → Prop) : Prop :=
  ifW (!(decide ((a_0.length : Int) = (b_1.length : Int)))) (κ false) (loopW (fun (nx6 : Int → Prop) (t5 : Int) => ifW (decide (t5 < (a_0.length : Int))) (idxW a_0 t5 (fun e7 => idxW b_1 t5 (fun e9 => L_laws_eqTest e7 e9 (fun r11 => ifW (!r11) (κ false) (addW t5 1 (fun t12 => nx6 t12)))))) (κ true)) 0)

def L_laws_eqRule (a_0 : GRule) (b_1 : GRule) (κ : Bool → Prop) : Prop :=
  L_laws_eqTestS a_0.xTests b_1.xTests (fun r15 => ifW (!r15) (κ false) (ifW (!(decide (a_0.xAction = b_1.xAction))) (κ false) (ifW (!(decide (a_0.xChain = b_1.xChain))) (κ false) (κ true))))

def L_laws_FnExactRuleText (aR_0 : GRule) (κ : Bool → Prop) : Prop :=
  L_laws_szRule aR_0 1048576 (fun r8 => ifW (decide (r8 < 0)) (κ true) (L_laws_toRule aR_0 (fun r9 => L_spec_RuleText r9 (fun r12 => L_laws_toRule aR_0 (fun r13 => L_impl_RuleText r13 (fun r21 => ifW (!(decide (r21 = r12))) (κ false) (L_laws_toRule aR_0 (fun r22 => L_laws_eqRule r13 r22 (fun r25 => ifW (!r25) (κ false) (κ true))))))))))

def L_spec_DrawReadTest (code_0 : (List UInt8)) (κ : ByteArray → Prop) : Prop :=
  L_spec_l20Open code_0 (fun (r5, r8) => L_spec_l20Test r5 r8 0 (fun (r9, r10) => L_spec_TestText r9 (fun r11 => jnW (fun (t82 : ByteArray) => κ t82) (fun k83 => L_spec_l20Rd_odd r5 r10 3 (fun (r12, r13) => ifW r12 (catW r11 (ByteArray.mk #[32]) (fun s14 => catW (ByteArray.mk #[110, 111, 116, 32, 110, 111, 116, 32]) r11 (fun s15 => L_spec_l20Rd_pick r5 r13 12 (fun (r18, r19) => idxW ([s14, s15, (ByteArray.mk #[102, 114, 111, 109, 32, 53, 45, 53]), (ByteArray.mk #[112, 111, 114, 116, 32, 50, 53, 54]), (ByteArray.mk #[]), (ByteArray.mk #[102, 114, 111, 109]), (ByteArray.mk #[102, 114, 111, 109, 32, 48, 53]), (ByteArray.mk #[112, 114, 111, 116, 111, 32, 51, 45, 50]), (ByteArray.mk #[116, 111, 32, 32, 49]), (ByteArray.mk #[70, 114, 111, 109, 32, 49]), (ByteArray.mk #[102, 114, 111, 109, 32, 49, 45]), (ByteArray.mk #[110, 111, 116, 32])]) r18 (fun e20 => k83 e20))))) (k83 r11))))))

def L_laws_FnReadTest (code_0 : (List UInt8)) (κ : Bool → Prop) : Prop :=
  ifW (decide (1048576 < (code_0.length : Int))) (κ true) (L_spec_DrawReadTest code_0 (fun r3 => L_impl_ReadTest r3 (fun (r4, r5) => L_spec_ReadTest r3 (fun (r8, r9) => jnW (fun (t72 : Bool) => ifW t72 (κ false) (jnW (fun (t138 : Bool) => κ t138) (fun k139 => ifW (!r5) (ifW (decide (r4 = (GTest.mk 0 0 0 false))) (L_laws_alive (fun r74 => ifW r74 (k139 true) (ifW r5 (L_impl_TestText r4 (fun r75 => k139 (decide (r75 = r3)))) (k139 false)))) (ifW r5 (L_impl_TestText r4 (fun r76 => k139 (decide (r76 = r3)))) (k139 false))) (ifW r5 (L_impl_TestText r4 (fun r77 => k139 (decide (r77 = r3)))) (k139 false))))) (fun k73 => ifW (!(decide (r4 = r8))) (k73 true) (k73 (!(decide (r5 = r9)))))))))

def L_spec_l20Tests (r_0_b : (List UInt8)) (r_0_p : Int) (n_1 : Int) (κ : ((List GTest) × Int) → Prop) : Prop :=
  L_spec_l20Rd_pick r_0_b r_0_p 4 (fun (r8, r9) => loopW (fun (nx16 : (Int × (List GTest) × Int) → Prop) ((t10, xs12, t15) : (Int × (List GTest) × Int)) => ifW (decide (0 < t15)) (L_spec_l20Test r_0_b t10 0 (fun (r17, r18) => appW xs12 ([r17]) (fun _ => subW t15 1 (fun t23 => nx16 (r18, (xs12 ++ ([r17])), t23))))) (jnW (fun ((t97, xs99) : (Int × (List GTest))) => κ (xs99, t97)) (fun k102 => L_spec_l20Rd_odd r_0_b t10 n_1 (fun (r24, r25) => ifW r24 (L_spec_l20Rd_pick r_0_b r25 2 (fun (r26, r27) => ifW (decide (r26 = 0)) (L_spec_l20Test r_0_b r27 1 (fun (r28, r29) => appW xs12 ([r28]) (fun _ => k102 (r29, (xs12 ++ ([r28])))))) (makeW ((GTest.mk 0 0 0 false) : GTest) 7 7 (fun xs35 => k102 (r27, xs35))))) (k102 (r25, xs12)))))) (r9, [], r8))

def L_spec_l20Rule (r_0_b : (List UInt8)) (r_0_p : Int) (first_1 : Int) (chains_2 : Int) (n_3 : Int) (κ : (GRule × Int) → Prop) : Prop :=
  L_spec_l20Tests r_0_b r_0_p 0 (fun (r7, r10) => L_spec_l20Rd_pick r_0_b r10 8 (fun (r13, r14) => idxW ([1, 1, 2, 2, 3, 3, 4, 5]) r13 (fun e15 => jnW (fun ((t86, t87, t88) : (Int × Int × Int)) => jnW (fun ((t173, xs175, t178, t179) : (Int × (List GTest) × Int × Int)) => κ ((GRule.mk xs175 t178 t179), t173)) (fun k180 => L_spec_l20Rd_odd r_0_b t88 n_3 (fun (r90, r91) => ifW r90 (L_spec_l20Rd_pick r_0_b r91 3 (fun (r92, r93) => ifW (decide (r92 = 0)) (L_spec_l20Rd_pick r_0_b r93 2 (fun (r96, r97) => idxW ([0, 6]) r96 (fun e98 => k180 (r97, r7, e98, t87)))) (ifW (decide (r92 = 1)) (L_spec_l20Rd_pick r_0_b r93 3 (fun (r102, r103) => idxW ([(-1), 5, 1]) r102 (fun e104 => k180 (r103, r7, t86, e104)))) (L_spec_l20Tests r_0_b r93 1 (fun (r106, r109) => k180 (r109, r106, t86, t87)))))) (k180 (r91, r7, t86, t87))))) (fun k89 => ifW (decide (e15 = 3)) (ifW (decide (chains_2 ≤ first_1)) (k89 (2, 0, r14)) (subW chains_2 first_1 (fun t22 => L_spec_l20Rd_pick r_0_b r14 t22 (fun (r23, r24) => addW first_1 r23 (fun t25 => k89 (e15, t25, r24)))))) (k89 (e15, 0, r14))))))

def L_spec_DrawRuleText (code_0 : (List UInt8)) (κ : GRule → Prop) : Prop :=
  L_spec_l20Open code_0 (fun (r7, r10) => L_spec_l20Rule r7 r10 1 4 6 (fun (r11, r14) => κ r11))

def L_impl_scanner_action (in_0_text : ByteArray) (in_0_at : Int) (κ : (GRule × Bool × Int) → Prop) : Prop :=
  loopW (fun (nx7 : (Int × Int) → Prop) ((t5, t6) : (Int × Int)) => ifW (decide (t6 ≤ 5)) (jnW (fun (t218 : Int) => addW t6 1 (fun t220 => nx7 (t218, t220))) (fun k219 => jnW (fun (t87 : Int) => ifW (!(decide (t6 = 3))) (κ ((GRule.mk ([]) t6 0), true, t87)) (L_impl_scanner_word in_0_text t87 (ByteArray.mk #[32]) (fun (r90, r91) => jnW (fun ((t155, t156, t157) : (Int × Int × Bool)) => κ ((GRule.mk ([]) t6 t156), t157, t155)) (fun k158 => ifW r90 (L_impl_scanner_number in_0_text r91 (fun (r92, r93, r94) => k158 (r94, r92, r93))) (k158 (r91, 0, r90)))))) (fun k88 => L_impl_actionOf (GRule.mk ([]) t6 0) (fun r10 => IAction.casesW r10 (fun x11 => L_impl_deciding_word x11 (fun r15 => L_impl_scanner_word in_0_text t5 r15 (fun (r16, r17) => ifW (!r16) (k219 r17) (k88 r17)))) (fun x12 => L_impl_calling_word x12 (fun r18 => L_impl_scanner_word in_0_text t5 r18 (fun (r19, r20) => ifW (!r19) (k219 r20) (k88 r20)))) (fun x13 => L_impl_returning_word (GReturning.mk ) (fun r21 => L_impl_scanner_word in_0_text t5 r21 (fun (r22, r23) => ifW (!r22) (k219 r23) (k88 r23)))) (fun x14 => L_impl_passing_word (GPassing.mk ) (fun r24 => L_impl_scanner_word in_0_text t5 r24 (fun (r25, r26) => ifW (!r25) (k219 r26) (k88 r26)))))))) (κ ((GRule.mk ([]) 0 0), false, t5))) (in_0_at, 1)

def L_impl_ReadRule (s_0 : ByteArray) (κ : (GRule × Bool) → Prop) : Prop :=
  L_impl_scanner_action s_0 0 (fun (r5, r8, r9) => ifW (!r8) (κ ((GRule.mk ([]) 0 0), false)) (loopW (fun (nx21 : ((List GTest) × Int) → Prop) ((xs17, t20) : ((List GTest) × Int)) => L_impl_scanner_done s_0 t20 (fun r22 => ifW (!r22) (jnW (fun ((t85, t86) : (Int × Bool)) => ifW t86 (κ ((GRule.mk ([]) 0 0), false)) (L_impl_scanner_test s_0 t85 (fun (r89, r90, r91) => ifW (!r90) (κ ((GRule.mk ([]) 0 0), false)) (appW xs17 ([r89]) (fun _ => nx21 ((xs17 ++ ([r89])), r91)))))) (fun k87 => ifW (decide ((xs17.length : Int) = 6)) (k87 (t20, true)) (L_impl_scanner_word s_0 t20 (ByteArray.mk #[44, 32]) (fun (r23, r24) => k87 (r24, (!r23)))))) (jnW (fun (t164 : Bool) => ifW t164 (κ ((GRule.mk ([]) 0 0), false)) (κ ((GRule.mk xs17 r5.xAction r5.xChain), true))) (fun k165 => L_impl_RuleValid (GRule.mk xs17 r5.xAction r5.xChain) (fun r102 => ifW (!r102) (k165 true) (L_impl_Rule_text (GRule.mk xs17 r5.xAction r5.xChain) (fun r103 => k165 (!(decide (r103 = s_0)))))))))) (r5.xTests, r9)))

def L_laws_sameRule (a_0 : GRule) (b_1 : GRule) (κ : Bool → Prop) : Prop :=
  ifW (!(decide ((a_0.xTests.length : Int) = (b_1.xTests.length : Int)))) (κ false) (loopW (fun (nx16 : Int → Prop) (t15 : Int) => ifW (decide (t15 < (a_0.xTests.length : Int))) (idxW a_0.xTests t15 (fun e17 => idxW b_1.xTests t15 (fun e19 => ifW (!(decide (e17 = e19))) (κ false) (addW t15 1 (fun t21 => nx16 t21))))) (jnW (fun (t82 : Bool) => κ t82) (fun k83 => ifW (decide (a_0.xAction = b_1.xAction)) (k83 (decide (a_0.xChain = b_1.xChain))) (k83 false)))) 0)

def L_laws_FnRuleText (code_0 : (List UInt8)) (κ : Bool → Prop) : Prop :=
  ifW (decide (1048576 < (code_0.length : Int))) (κ true) (L_spec_DrawRuleText code_0 (fun r3 => L_impl_RuleText r3 (fun r11 => L_spec_RuleText r3 (fun r12 => ifW (!(decide (r11 = r12))) (κ false) (L_spec_RuleValid r3 (fun r13 => ifW (!r13) (jnW (fun (t75 : Bool) => κ t75) (fun k76 => ifW (decide (r11 = (ByteArray.mk #[]))) (L_laws_alive (fun r14 => k76 r14)) (k76 false))) (L_impl_ReadRule r11 (fun (r77, r80) => jnW (fun (xs86 : (List GTest)) => jnW (fun (t189 : Bool) => κ t189) (fun k190 => ifW r80 (L_laws_sameRule r77 r3 (fun r126 => ifW r126 (ifW (decide ((r3.xTests.length : Int) = 6)) (k190 true) (L_impl_RuleText (GRule.mk xs86 r3.xAction r3.xChain) (fun r127 => catW r11 (ByteArray.mk #[44, 32, 112, 111, 114, 116, 32, 57]) (fun s128 => k190 (decide (r127 = s128)))))) (k190 false))) (k190 false))) (fun k90 => appW ([]) r3.xTests (fun _ => appW (([]) ++ r3.xTests) ([(GTest.mk 2 9 9 false)]) (fun _ => k90 ((([]) ++ r3.xTests) ++ ([(GTest.mk 2 9 9 false)])))))))))))))

def L_spec_ReadRule (s_0 : ByteArray) (κ : (GRule × Bool) → Prop) : Prop :=
  L_spec_l3Cut s_0 (44 : UInt8) (fun (r5, r6) => loopW (fun (nx10 : (Int × Int × Int) → Prop) ((t7, t8, t9) : (Int × Int × Int)) => ifW (decide (t9 ≤ 5)) (loopW (fun (nx14 : (Int × Int × Int) → Prop) ((t11, t12, t13) : (Int × Int × Int)) => ifW (decide (t13 < 5)) (jnW (fun ((t140, t141) : (Int × Int)) => addW t13 1 (fun t143 => nx14 (t140, t141, t143))) (fun k142 => jnW (fun (t77 : Int) => L_spec_RuleText (GRule.mk ([]) t9 t77) (fun r79 => ifW (decide (r79 = r5)) (k142 (t9, t77)) (k142 (t11, t12)))) (fun k78 => ifW (decide (t9 = 3)) (k78 t13) (k78 0)))) (addW t9 1 (fun t144 => nx10 (t11, t12, t144)))) (t7, t8, 0)) (loopW (fun (nx151 : ((List GTest) × ByteArray × Int) → Prop) ((xs146, t149, t150) : ((List GTest) × ByteArray × Int)) => jnW (fun (t212 : Bool) => ifW t212 (L_spec_l3Cut t149 (44 : UInt8) (fun (r214, r215) => jnW (fun (t277 : Bool) => ifW t277 (κ ((GRule.mk ([]) 0 0), false)) (sliceS r214 1 (r214.size : Int) (fun s280 => L_spec_ReadTest s280 (fun (r281, r282) => ifW (!r282) (κ ((GRule.mk ([]) 0 0), false)) (appW xs146 ([r281]) (fun _ => addW t150 1 (fun t293 => nx151 ((xs146 ++ ([r281])), r215, t293)))))))) (fun k278 => ifW (decide (r214 = (ByteArray.mk #[]))) (k278 true) (idxW r214.data.toList 0 (fun e216 => k278 (!(decide ((e216.toNat : Int) = 32)))))))) (jnW (fun (t355 : Bool) => ifW t355 (κ ((GRule.mk ([]) 0 0), false)) (κ ((GRule.mk xs146 t7 t8), true))) (fun k356 => L_spec_RuleText (GRule.mk xs146 t7 t8) (fun r294 => ifW (!(decide (r294 = s_0))) (k356 true) (k356 (decide (s_0 = (ByteArray.mk #[])))))))) (fun k213 => ifW (!(decide (t149 = (ByteArray.mk #[])))) (k213 (decide (t150 ≤ 6))) (k213 false))) ([], r6, 0))) (0, 0, 1))

def L_laws_markTestS (a_0 : (List GTest)) (k_1 : Int) (κ : (Int × (List GTest)) → Prop) : Prop :=
  loopW (fun (nx7 : ((List GTest) × Int × Int) → Prop) ((xs3, t5, t6) : ((List GTest) × Int × Int)) => ifW (decide (t6 < (xs3.length : Int))) (idxW xs3 t6 (fun e8 => addW t5 1 (fun t11 => idxW (xs3.set (t6).toNat (GTest.mk t5 e8.xLo e8.xHi e8.xNot)) t6 (fun e12 => addW t11 1 (fun t15 => idxW ((xs3.set (t6).toNat (GTest.mk t5 e8.xLo e8.xHi e8.xNot)).set (t6).toNat (GTest.mk e12.xField t11 e12.xHi e12.xNot)) t6 (fun e16 => addW t15 1 (fun t19 => remW t19 3 (fun t20 => idxW (((xs3.set (t6).toNat (GTest.mk t5 e8.xLo e8.xHi e8.xNot)).set (t6).toNat (GTest.mk e12.xField t11 e12.xHi e12.xNot)).set (t6).toNat (GTest.mk e16.xField e16.xLo t15 e16.xNot)) t6 (fun e21 => addW t19 1 (fun t24 => addW t6 1 (fun t25 => nx7 (((((xs3.set (t6).toNat (GTest.mk t5 e8.xLo e8.xHi e8.xNot)).set (t6).toNat (GTest.mk e12.xField t11 e12.xHi e12.xNot)).set (t6).toNat (GTest.mk e16.xField e16.xLo t15 e16.xNot)).set (t6).toNat (GTest.mk e21.xField e21.xLo e21.xHi (decide (t20 = 0)))), t24, t25)))))))))))) (κ (t5, xs3))) (a_0, k_1, 0)

def L_laws_markRule (a_0_Tests : (List GTest)) (a_0_Action : Int) (a_0_Chain : Int) (k_1 : Int) (κ : (Int × (List GTest)) → Prop) : Prop :=
  L_laws_markTestS a_0_Tests k_1 (fun (r5, r6) => κ (r5, r6))

def L_laws_heldTestS (a_0 : (List GTest)) (k_1 : Int) (κ : Int → Prop) : Prop :=
  loopW (fun (nx5 : (Int × Int) → Prop) ((t3, t4) : (Int × Int)) => ifW (decide (t4 < (a_0.length : Int))) (idxW a_0 t4 (fun e6 => ifW (!(decide (e6.xField = t3))) (κ (-1)) (addW t3 1 (fun t8 => idxW a_0 t4 (fun e9 => ifW (!(decide (e9.xLo = t8))) (κ (-1)) (addW t8 1 (fun t11 => idxW a_0 t4 (fun e12 => ifW (!(decide (e12.xHi = t11))) (κ (-1)) (addW t11 1 (fun t14 => idxW a_0 t4 (fun e15 => remW t14 3 (fun t17 => ifW (!(decide (e15.xNot = (decide (t17 = 0))))) (κ (-1)) (addW t14 1 (fun t18 => addW t4 1 (fun t19 => nx5 (t18, t19)))))))))))))))) (κ t3)) (k_1, 0)

def L_laws_heldRule (a_0 : GRule) (k_1 : Int) (κ : Int → Prop) : Prop :=
  L_laws_heldTestS a_0.xTests k_1 (fun r8 => ifW (decide (r8 < 0)) (κ (-1)) (κ r8))

def L_laws_FnExactReadRule (aS_0 : ByteArray) (κ : Bool → Prop) : Prop :=
  ifW (decide (1048576 < (aS_0.size : Int))) (κ true) (L_spec_ReadRule aS_0 (fun (r1, r4) => L_impl_ReadRule aS_0 (fun (r10, r13) => jnW (fun (t80 : Bool) => ifW t80 (κ false) (L_laws_markRule r10.xTests r10.xAction r10.xChain 1 (fun (r82, r83) => L_laws_heldRule (GRule.mk r83 r10.xAction r10.xChain) 1 (fun r85 => ifW (decide (r85 < 0)) (κ false) (ifW (!(decide (r85 = r82))) (κ false) (L_impl_ReadRule aS_0 (fun (r86, r89) => jnW (fun (t156 : Bool) => ifW t156 (κ false) (L_laws_heldRule (GRule.mk r83 r10.xAction r10.xChain) 1 (fun r158 => ifW (decide (r158 < 0)) (κ false) (ifW (!(decide (r158 = r82))) (κ false) (κ true))))) (fun k157 => L_laws_eqRule r86 r1 (fun r95 => ifW (!r95) (k157 true) (k157 (!(decide (r89 = r4))))))))))))) (fun k81 => L_laws_eqRule r10 r1 (fun r19 => ifW (!r19) (k81 true) (k81 (!(decide (r13 = r4)))))))))

def L_spec_l20Line (r_0_b : (List UInt8)) (r_0_p : Int) (n_1 : Int) (κ : (ByteArray × Int) → Prop) : Prop :=
  L_spec_l20Rule r_0_b r_0_p 1 3 0 (fun (r5, r8) => L_spec_RuleText r5 (fun r9 => jnW (fun ((t81, t82) : (Int × ByteArray)) => κ (t82, t81)) (fun k83 => L_spec_l20Rd_odd r_0_b r8 n_1 (fun (r10, r11) => ifW r10 (catW r9 (ByteArray.mk #[44]) (fun s12 => catW r9 (ByteArray.mk #[44, 32]) (fun s13 => catW r9 (ByteArray.mk #[44, 32, 110, 111, 110, 101]) (fun s14 => L_spec_l20Rd_pick r_0_b r11 11 (fun (r17, r18) => idxW ([s12, s13, (ByteArray.mk #[99, 97, 108, 108]), (ByteArray.mk #[99, 97, 108, 108, 32, 53]), (ByteArray.mk #[97, 99, 99, 101, 112, 116, 32, 49]), (ByteArray.mk #[]), (ByteArray.mk #[100, 114, 111, 112, 44, 116, 111, 32, 49]), (ByteArray.mk #[114, 101, 116, 117, 114, 110, 44, 32, 102, 114, 111, 109, 32, 57, 45, 56]), s14, (ByteArray.mk #[99, 104, 97, 105, 110, 32, 48]), (ByteArray.mk #[110, 111, 110, 101, 44, 32, 112, 111, 114, 116, 32, 49, 44, 32, 112, 111, 114, 116, 32, 49, 44, 32, 112, 111, 114, 116, 32, 49, 44, 32, 112, 111, 114, 116, 32, 49, 44, 32, 112, 111, 114, 116, 32, 49, 44, 32, 112, 111, 114, 116, 32, 49, 44, 32, 112, 111, 114, 116, 32, 49])]) r17 (fun e19 => k83 (r18, e19))))))) (k83 (r11, r9))))))

def L_spec_DrawReadRule (code_0 : (List UInt8)) (κ : ByteArray → Prop) : Prop :=
  L_spec_l20Open code_0 (fun (r5, r8) => L_spec_l20Line r5 r8 3 (fun (r9, r10) => κ r9))

def L_laws_FnReadRule (code_0 : (List UInt8)) (κ : Bool → Prop) : Prop :=
  ifW (decide (1048576 < (code_0.length : Int))) (κ true) (L_spec_DrawReadRule code_0 (fun r3 => L_impl_ReadRule r3 (fun (r4, r7) => L_spec_ReadRule r3 (fun (r13, r16) => jnW (fun (t83 : Bool) => ifW t83 (κ false) (jnW (fun (t150 : Bool) => κ t150) (fun k151 => ifW (!r7) (L_laws_sameRule r4 (GRule.mk ([]) 0 0) (fun r85 => ifW r85 (L_laws_alive (fun r86 => ifW r86 (k151 true) (ifW r7 (L_impl_RuleText r4 (fun r87 => k151 (decide (r87 = r3)))) (k151 false)))) (ifW r7 (L_impl_RuleText r4 (fun r88 => k151 (decide (r88 = r3)))) (k151 false)))) (ifW r7 (L_impl_RuleText r4 (fun r89 => k151 (decide (r89 = r3)))) (k151 false))))) (fun k84 => L_laws_sameRule r4 r13 (fun r22 => ifW (!r22) (k84 true) (k84 (!(decide (r7 = r16))))))))))

end Go.Proofs.YtnogaeckmiekdaaDoor
