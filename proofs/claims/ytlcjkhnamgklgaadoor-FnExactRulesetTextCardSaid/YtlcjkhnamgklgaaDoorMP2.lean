/- Texts of this seat, put together. -/
import Derived.Test.YtlcjkhnamgklgaaDoorMP1
import Derived.Test.YtlcjkhnamgklgaaDoorEls
import Derived.Laws.BitsLemmas
set_option linter.unusedSimpArgs false
set_option linter.unusedVariables false
namespace Go.Proofs.YtlcjkhnamgklgaaDoor
section
open Go.Lib (decDigits)

def B (l : List UInt8) : ByteArray := ByteArray.mk l.toArray
theorem B_app (l m : List UInt8) : B l ++ B m = B (l ++ m) := by
  apply ByteArray.ext; simp [B, ByteArray.data_append]
theorem B_size (l : List UInt8) : (B l).size = l.length := by simp [B, ByteArray.size]
theorem catW_B {l m : List UInt8} {κ : ByteArray → Prop} (h : l.length + m.length ≤ 9223372036854775807) (hk : κ (B (l ++ m))) : catW (B l) (B m) κ := ⟨by rw [B_size, B_size]; exact h, by rw [B_app]; exact hk⟩
/-- a digit -/
def dg (c : UInt8) : Bool := decide (48 ≤ c.toNat) && decide (c.toNat ≤ 57)
def val (l : List UInt8) : Nat := l.foldl (fun n c => 10 * n + (c.toNat - 48)) 0
theorem dec_small {u : Nat} (h : u < 10) : decDigits u = [UInt8.ofNat (48 + u)] := by rw [decDigits, dif_pos h]
theorem dec_big {u : Nat} (h : ¬ u < 10) : decDigits u = decDigits (u / 10) ++ [UInt8.ofNat (48 + u % 10)] := by rw [decDigits, dif_neg h]
theorem dec_len : ∀ (k u : Nat), u < 10 ^ (k + 1) → (decDigits u).length ≤ k + 1
  | 0, u, h => by rw [dec_small (by simpa using h)]; simp
  | k + 1, u, h => by
    by_cases h' : u < 10
    · rw [dec_small h']; simp
    · rw [dec_big h']; have := dec_len k (u / 10) (by rw [Nat.pow_succ] at h; omega); simp; omega
theorem itoaB_nat {n : Int} (h : 0 ≤ n) : itoaB n = B (decDigits n.toNat) := by
  unfold itoaB Lib.itoa; rw [if_neg (by omega)]; rfl
theorem S_itoa {n : Int} {κ : ByteArray → Prop} (h0 : 0 ≤ n) (h1 : n ≤ 9223372036854775807) (h : κ (B (decDigits n.toNat))) : L_lib_Itoa n κ := ⟨⟨by omega, h1⟩, by rw [itoaB_nat h0]; exact h⟩
/-- the number at the head of a text: at most six digits -/
def run : Nat → List UInt8 → List UInt8
  | 0, _ => []
  | _, [] => []
  | k + 1, c :: l => if dg c then c :: run k l else []
end
section
open Go.RowKit
@[ext] structure GTest where
  xField : Int
  xLo : Int
  xHi : Int
  xNot : Bool
  deriving DecidableEq
def encGTest (x : GTest) : List Value := [(.int .i64 x.xField), (.int .i64 x.xLo), (.int .i64 x.xHi), (.bool x.xNot)]
def elGTest : El GTest := El.flat 4 encGTest (by decide) (fun _ => rfl) (fun x u h => by simp only [encGTest, List.mem_cons, List.not_mem_nil, or_false] at h; rcases h with rfl | rfl | rfl | rfl <;> rfl)
theorem flelGTest : Flat elGTest encGTest := flat_flat
abbrev dGTest : DEl GTest := dflat elGTest encGTest flelGTest
@[ext] structure GRule where
  xTests : (List GTest)
  xAction : Int
  xChain : Int
  deriving DecidableEq
def encGRule (u : Value) (x : GRule) : List Value := [u, (.int .i64 x.xAction), (.int .i64 x.xChain)]
def elGRule : El GRule where
  size := 3
  cells := fun F w x cs => ∃ u : Value, cs = encGRule u x ∧ Sl elGTest F w u x.xTests
  pos := by decide
  len := fun F w x cs ⟨u, e, _⟩ => by rw [e]; rfl
  one := fun F w x cs ⟨u, e, h⟩ v hv => by
    subst e
    simp only [encGRule, List.mem_cons, List.not_mem_nil, or_false] at hv
    rcases hv with e | e | e
    · subst e; exact h.one
    · subst e; exact rfl
    · subst e; exact rfl
  keep := fun F F' w w' x cs hF hb ⟨u, e, h⟩ => ⟨u, e, h.keep hF hb⟩
def dGRule : DEl GRule where
  el := elGRule
  own := fun B w x cs => ∃ u : Value, cs = encGRule u x ∧ Dp dGTest 84 B w u x.xTests
  read := fun B w x cs ⟨u, e, h⟩ => ⟨u, e, h.sl⟩
  keep := fun B w w' x cs hk ⟨u, e, h⟩ => ⟨u, e, h.keep hk⟩
  lt := fun B w x cs ⟨u, e, h⟩ => h.lt
@[ext] structure GRuleset where
  xChains : (List (List GRule))
  xAccept : Bool
  deriving DecidableEq
def encGRuleset (u : Value) (x : GRuleset) : List Value := [u, (.bool x.xAccept)]
def elGRuleset : El GRuleset where
  size := 2
  cells := fun F w x cs => ∃ u : Value, cs = encGRuleset u x ∧ Sl (elSl elGRule) F w u x.xChains
  pos := by decide
  len := fun F w x cs ⟨u, e, _⟩ => by rw [e]; rfl
  one := fun F w x cs ⟨u, e, h⟩ v hv => by
    subst e
    simp only [encGRuleset, List.mem_cons, List.not_mem_nil, or_false] at hv
    rcases hv with e | e
    · subst e; exact h.one
    · subst e; exact rfl
  keep := fun F F' w w' x cs hF hb ⟨u, e, h⟩ => ⟨u, e, h.keep hF hb⟩
@[ext] structure GDeciding where
  xAccept : Bool
  deriving DecidableEq
@[ext] structure GCalling where
  xChain : Int
  deriving DecidableEq
@[ext] structure GReturning where
  deriving DecidableEq
@[ext] structure GPassing where
  deriving DecidableEq
@[ext] structure GFieldShape where
  xName : ByteArray
  xTop : Int
  deriving DecidableEq
def encGFieldShape (x : GFieldShape) : List Value := [(.string x.xName), (.int .i64 x.xTop)]
def elGFieldShape : El GFieldShape := El.flat 2 encGFieldShape (by decide) (fun _ => rfl) (fun x u h => by simp only [encGFieldShape, List.mem_cons, List.not_mem_nil, or_false] at h; rcases h with rfl | rfl <;> rfl)
theorem flelGFieldShape : Flat elGFieldShape encGFieldShape := flat_flat
inductive IAction where
  | kDeciding (x : GDeciding)
  | kCalling (x : GCalling)
  | kReturning (x : GReturning)
  | kPassing (x : GPassing)
def ivIAction : IAction → Value
  | .kDeciding x => .iface 115 (.agg #[(.bool x.xAccept)])
  | .kCalling x => .iface 117 (.agg #[(.int .i64 x.xChain)])
  | .kReturning x => .iface 119 (.agg #[])
  | .kPassing x => .iface 120 (.agg #[])
def IAction.casesW (a : IAction) (p0 : GDeciding → Prop) (p1 : GCalling → Prop) (p2 : GReturning → Prop) (p3 : GPassing → Prop) : Prop := match a with
  | .kDeciding x => p0 x
  | .kCalling x => p1 x
  | .kReturning x => p2 x
  | .kPassing x => p3 x
/-- what the package-level variable reads as -/
def gl_impl_fieldShapes : List GFieldShape := [⟨(ByteArray.mk #[102, 114, 111, 109]), 65535⟩, ⟨(ByteArray.mk #[116, 111]), 65535⟩, ⟨(ByteArray.mk #[112, 111, 114, 116]), 255⟩, ⟨(ByteArray.mk #[112, 114, 111, 116, 111]), 7⟩]

def L_laws_szTestS (a_0 : (List GTest)) (left_1 : Int) (κ : Int → Prop) : Prop :=
  subW left_1 (a_0.length : Int) (fun t3 => ifW (decide (t3 < 0)) (κ (-1)) (κ t3))

def L_laws_szRule (a_0 : GRule) (left_1 : Int) (κ : Int → Prop) : Prop :=
  L_laws_szTestS a_0.xTests left_1 (fun r8 => ifW (decide (r8 < 0)) (κ (-1)) (κ r8))

def L_laws_szRuleS (a_0 : (List GRule)) (left_1 : Int) (κ : Int → Prop) : Prop :=
  subW left_1 (a_0.length : Int) (fun t3 => ifW (decide (t3 < 0)) (κ (-1)) (loopW (fun (nx6 : (Int × Int) → Prop) ((t4, t5) : (Int × Int)) => ifW (decide (t5 < (a_0.length : Int))) (idxW a_0 t5 (fun e7 => L_laws_szRule e7 t4 (fun r13 => ifW (decide (r13 < 0)) (κ (-1)) (addW t5 1 (fun t14 => nx6 (r13, t14)))))) (κ t4)) (t3, 0)))

def L_laws_szRuleSS (a_0 : (List (List GRule))) (left_1 : Int) (κ : Int → Prop) : Prop :=
  subW left_1 (a_0.length : Int) (fun t3 => ifW (decide (t3 < 0)) (κ (-1)) (loopW (fun (nx6 : (Int × Int) → Prop) ((t4, t5) : (Int × Int)) => ifW (decide (t5 < (a_0.length : Int))) (idxW a_0 t5 (fun e7 => L_laws_szRuleS e7 t4 (fun r13 => ifW (decide (r13 < 0)) (κ (-1)) (addW t5 1 (fun t14 => nx6 (r13, t14)))))) (κ t4)) (t3, 0)))

def L_laws_szRuleset (a_0 : GRuleset) (left_1 : Int) (κ : Int → Prop) : Prop :=
  L_laws_szRuleSS a_0.xChains left_1 (fun r8 => ifW (decide (r8 < 0)) (κ (-1)) (κ r8))

def L_spec_l1In (n_0 : Int) (lo_1 : Int) (hi_2 : Int) (κ : Bool → Prop) : Prop :=
  jnW (fun (t61 : Bool) => κ t61) (fun k62 => ifW (decide (lo_1 ≤ n_0)) (k62 (decide (n_0 ≤ hi_2))) (k62 false))

def L_spec_FieldTop (n_0 : Int) (κ : Int → Prop) : Prop :=
  jnW (fun (t61 : Bool) => ifW t61 (κ 65535) (ifW (decide (n_0 = 2)) (κ 255) (ifW (decide (n_0 = 3)) (κ 7) (κ (-1))))) (fun k62 => ifW (decide (n_0 = 0)) (k62 (decide (n_0 = 0))) (k62 (decide (n_0 = 1))))

def L_spec_TestValid (t_0 : GTest) (κ : Bool → Prop) : Prop :=
  jnW (fun (t66 : Bool) => κ t66) (fun k67 => L_spec_l1In t_0.xField 0 3 (fun r3 => ifW r3 (L_spec_l1In t_0.xLo 0 t_0.xHi (fun r4 => ifW r4 (L_spec_FieldTop t_0.xField (fun r5 => k67 (decide (t_0.xHi ≤ r5)))) (k67 false))) (k67 false)))

def L_spec_TestsValid (list_0 : (List GTest)) (κ : Bool → Prop) : Prop :=
  loopW (fun (nx4 : Int → Prop) (t3 : Int) => ifW (decide (t3 < (list_0.length : Int))) (idxW list_0 t3 (fun e5 => L_spec_TestValid e5 (fun r7 => ifW (!r7) (κ false) (addW t3 1 (fun t8 => nx4 t8))))) (κ (decide ((list_0.length : Int) ≤ 6)))) 0

def L_spec_RuleValid (r_0 : GRule) (κ : Bool → Prop) : Prop :=
  jnW (fun (t71 : Bool) => κ t71) (fun k72 => L_spec_TestsValid r_0.xTests (fun r8 => ifW r8 (L_spec_l1In r_0.xAction 1 5 (fun r9 => ifW r9 (ifW (decide (r_0.xAction = 3)) (L_spec_l1In r_0.xChain 0 4 (fun r10 => ifW r10 (k72 true) (ifW (!(decide (r_0.xAction = 3))) (k72 (decide (r_0.xChain = 0))) (k72 false)))) (ifW (!(decide (r_0.xAction = 3))) (k72 (decide (r_0.xChain = 0))) (k72 false))) (k72 false))) (k72 false)))

def L_spec_RulesValid (list_0 : (List GRule)) (κ : Bool → Prop) : Prop :=
  loopW (fun (nx4 : Int → Prop) (t3 : Int) => ifW (decide (t3 < (list_0.length : Int))) (idxW list_0 t3 (fun e5 => L_spec_RuleValid e5 (fun r11 => ifW (!r11) (κ false) (addW t3 1 (fun t12 => nx4 t12))))) (κ (decide ((list_0.length : Int) ≤ 8)))) 0

def L_spec_l8Order (s_0 : GRuleset) (κ : (List Int) → Prop) : Prop :=
  makeW (false : Bool) (s_0.xChains.length : Int) (s_0.xChains.length : Int) (fun xs10 => loopW (fun (nx21 : ((List Bool) × (List Int) × Int) → Prop) ((xs14, xs17, t20) : ((List Bool) × (List Int) × Int)) => ifW (decide (t20 < (s_0.xChains.length : Int))) (loopW (fun (nx29 : ((List Bool) × (List Int) × Int) → Prop) ((xs22, xs25, t28) : ((List Bool) × (List Int) × Int)) => ifW (decide (t28 < (s_0.xChains.length : Int))) (jnW (fun ((xs190, xs192) : ((List Bool) × (List Int))) => addW t28 1 (fun t196 => nx29 (xs190, xs192, t196))) (fun k195 => idxW xs22 t28 (fun e30 => loopW (fun (nx34 : (Bool × Int) → Prop) ((t32, t33) : (Bool × Int)) => idxW s_0.xChains t28 (fun e35 => ifW (decide (t33 < (e35.length : Int))) (jnW (fun (t120 : Bool) => addW t33 1 (fun t122 => nx34 (t120, t122))) (fun k121 => idxW s_0.xChains t28 (fun e41 => idxW e41 t33 (fun e47 => ifW t32 (ifW (!(decide (e47.xAction = 3))) (k121 true) (idxW xs22 e47.xChain (fun e58 => k121 e58))) (k121 false))))) (ifW t32 (idxW xs22 t28 (fun e123 => appW xs25 ([t28]) (fun _ => k195 ((xs22.set (t28).toNat true), (xs25 ++ ([t28])))))) (k195 (xs22, xs25))))) ((!e30), 0)))) (addW t20 1 (fun t197 => nx21 (xs22, xs25, t197)))) (xs14, xs17, 0)) (κ xs17)) (xs10, [], 0))

def L_spec_RulesetValid (s_0 : GRuleset) (κ : Bool → Prop) : Prop :=
  loopW (fun (nx9 : Int → Prop) (t8 : Int) => ifW (decide (t8 < (s_0.xChains.length : Int))) (idxW s_0.xChains t8 (fun e10 => L_spec_RulesValid e10 (fun r16 => ifW (!r16) (κ false) (loopW (fun (nx18 : Int → Prop) (t17 : Int) => idxW s_0.xChains t8 (fun e19 => ifW (decide (t17 < (e19.length : Int))) (idxW s_0.xChains t8 (fun e25 => idxW e25 t17 (fun e31 => ifW (decide ((s_0.xChains.length : Int) ≤ e31.xChain)) (κ false) (addW t17 1 (fun t33 => nx18 t33))))) (addW t8 1 (fun t34 => nx9 t34)))) 0)))) (jnW (fun (t99 : Bool) => κ t99) (fun k100 => L_spec_l1In (s_0.xChains.length : Int) 1 5 (fun r35 => ifW r35 (L_spec_l8Order s_0 (fun r36 => k100 (decide ((r36.length : Int) = (s_0.xChains.length : Int))))) (k100 false))))) 0

def L_spec_l3Number (n_0 : Int) (κ : ByteArray → Prop) : Prop :=
  remW n_0 10 (fun t1 => addW 48 t1 (fun t2 => byteU t2 (fun t3 => loopW (fun (nx8 : (Int × ByteArray) → Prop) ((t6, t7) : (Int × ByteArray)) => ifW (decide (9 < t6)) (quoW t6 10 (fun t9 => remW t9 10 (fun t10 => addW 48 t10 (fun t11 => byteU t11 (fun t12 => catW (ByteArray.mk ([t12]).toArray) t7 (fun s15 => nx8 (t9, s15))))))) (κ t7)) (n_0, (ByteArray.mk ([t3]).toArray)))))

def L_spec_TestText (t_0 : GTest) (κ : ByteArray → Prop) : Prop :=
  L_spec_TestValid t_0 (fun r3 => ifW (!r3) (κ (ByteArray.mk #[])) (jnW (fun (t4 : ByteArray) => jnW (fun (t81 : ByteArray) => jnW (fun (t146 : ByteArray) => κ t146) (fun k147 => ifW (!(decide (t_0.xHi = t_0.xLo))) (catW t81 (ByteArray.mk #[45]) (fun s83 => L_spec_l3Number t_0.xHi (fun r84 => catW s83 r84 (fun s85 => k147 s85)))) (k147 t81))) (fun k82 => ifW t_0.xNot (catW (ByteArray.mk #[110, 111, 116, 32]) t4 (fun s20 => k82 s20)) (k82 t4))) (fun k5 => ((idxW ([(ByteArray.mk #[102, 114, 111, 109]), (ByteArray.mk #[116, 111]), (ByteArray.mk #[112, 111, 114, 116]), (ByteArray.mk #[112, 114, 111, 116, 111])]) t_0.xField (fun e7 => (catW e7 (ByteArray.mk #[32]) (fun s9 => L_spec_l3Number t_0.xLo (fun r10 => catW s9 r10 (fun s11 => k5 s11)))) ∧ (L_spec_l3Number t_0.xLo (fun r12 => catW e7 (ByteArray.mk #[32]) (fun s13 => catW s13 r12 (fun s14 => k5 s14)))))) ∧ (L_spec_l3Number t_0.xLo (fun r15 => idxW ([(ByteArray.mk #[102, 114, 111, 109]), (ByteArray.mk #[116, 111]), (ByteArray.mk #[112, 111, 114, 116]), (ByteArray.mk #[112, 114, 111, 116, 111])]) t_0.xField (fun e16 => catW e16 (ByteArray.mk #[32]) (fun s13 => catW s13 r15 (fun s14 => k5 s14)))))) ∧ (L_spec_l3Number t_0.xLo (fun r18 => idxW ([(ByteArray.mk #[102, 114, 111, 109]), (ByteArray.mk #[116, 111]), (ByteArray.mk #[112, 111, 114, 116]), (ByteArray.mk #[112, 114, 111, 116, 111])]) t_0.xField (fun e16 => catW e16 (ByteArray.mk #[32]) (fun s13 => catW s13 r18 (fun s14 => k5 s14))))))))

def L_spec_RuleText (r_0 : GRule) (κ : ByteArray → Prop) : Prop :=
  L_spec_RuleValid r_0 (fun r8 => ifW (!r8) (κ (ByteArray.mk #[])) (subW r_0.xAction 1 (fun t11 => idxW ([(ByteArray.mk #[97, 99, 99, 101, 112, 116]), (ByteArray.mk #[100, 114, 111, 112]), (ByteArray.mk #[99, 97, 108, 108]), (ByteArray.mk #[114, 101, 116, 117, 114, 110]), (ByteArray.mk #[110, 111, 110, 101])]) t11 (fun e12 => jnW (fun (t77 : ByteArray) => loopW (fun (nx81 : (ByteArray × Int) → Prop) ((t79, t80) : (ByteArray × Int)) => ifW (decide (t80 < (r_0.xTests.length : Int))) (catW t79 (ByteArray.mk #[44, 32]) (fun s82 => idxW r_0.xTests t80 (fun e83 => L_spec_TestText e83 (fun r85 => catW s82 r85 (fun s86 => addW t80 1 (fun t87 => nx81 (s86, t87))))))) (κ t79)) (t77, 0)) (fun k78 => ifW (decide (r_0.xAction = 3)) (catW e12 (ByteArray.mk #[32]) (fun s14 => L_spec_l3Number r_0.xChain (fun r15 => catW s14 r15 (fun s16 => k78 s16)))) (k78 e12))))))

def L_spec_RulesetText (s_0 : GRuleset) (κ : (List ByteArray) → Prop) : Prop :=
  L_spec_RulesetValid s_0 (fun r11 => ifW (!r11) (κ ([])) (jnW (fun (xs80 : (List ByteArray)) => loopW (fun (nx89 : ((List ByteArray) × Int) → Prop) ((xs85, t88) : ((List ByteArray) × Int)) => ifW (decide (t88 < (s_0.xChains.length : Int))) (L_spec_l3Number t88 (fun r90 => catW (ByteArray.mk #[99, 104, 97, 105, 110, 32]) r90 (fun s91 => appW xs85 ([s91]) (fun _ => loopW (fun (nx101 : ((List ByteArray) × Int) → Prop) ((xs97, t100) : ((List ByteArray) × Int)) => idxW s_0.xChains t88 (fun e102 => ifW (decide (t100 < (e102.length : Int))) (idxW s_0.xChains t88 (fun e108 => idxW e108 t100 (fun e114 => L_spec_RuleText e114 (fun r120 => appW xs97 ([r120]) (fun _ => addW t100 1 (fun t125 => nx101 ((xs97 ++ ([r120])), t125))))))) (addW t88 1 (fun t126 => nx89 (xs97, t126))))) ((xs85 ++ ([s91])), 0))))) (κ xs85)) (xs80, 0)) (fun k83 => ifW s_0.xAccept (appW ([]) ([(ByteArray.mk #[100, 101, 102, 97, 117, 108, 116, 32, 97, 99, 99, 101, 112, 116])]) (fun _ => k83 (([]) ++ ([(ByteArray.mk #[100, 101, 102, 97, 117, 108, 116, 32, 97, 99, 99, 101, 112, 116])])))) (appW ([]) ([(ByteArray.mk #[100, 101, 102, 97, 117, 108, 116, 32, 100, 114, 111, 112])]) (fun _ => k83 (([]) ++ ([(ByteArray.mk #[100, 101, 102, 97, 117, 108, 116, 32, 100, 114, 111, 112])])))))))

def L_laws_toTest (a_0 : GTest) (κ : GTest → Prop) : Prop :=
  κ a_0

def L_laws_toTestS (a_0 : (List GTest)) (κ : (List GTest) → Prop) : Prop :=
  makeW ((GTest.mk 0 0 0 false) : GTest) (a_0.length : Int) (a_0.length : Int) (fun xs5 => loopW (fun (nx10 : ((List GTest) × Int) → Prop) ((xs7, t9) : ((List GTest) × Int)) => ifW (decide (t9 < (a_0.length : Int))) (idxW a_0 t9 (fun e11 => L_laws_toTest e11 (fun r13 => idxW xs7 t9 (fun e14 => addW t9 1 (fun t17 => nx10 ((xs7.set (t9).toNat r13), t17)))))) (κ xs7)) (xs5, 0))

def L_laws_toRule (a_0 : GRule) (κ : GRule → Prop) : Prop :=
  L_laws_toTestS a_0.xTests (fun r12 => κ (GRule.mk r12 a_0.xAction a_0.xChain))

def L_laws_toRuleS (a_0 : (List GRule)) (κ : (List GRule) → Prop) : Prop :=
  makeW ((GRule.mk ([]) 0 0) : GRule) (a_0.length : Int) (a_0.length : Int) (fun xs5 => loopW (fun (nx12 : ((List GRule) × Int) → Prop) ((xs8, t11) : ((List GRule) × Int)) => ifW (decide (t11 < (a_0.length : Int))) (idxW a_0 t11 (fun e13 => L_laws_toRule e13 (fun r19 => idxW xs8 t11 (fun e22 => addW t11 1 (fun t29 => nx12 ((xs8.set (t11).toNat r19), t29)))))) (κ xs8)) (xs5, 0))

def L_laws_toRuleSS (a_0 : (List (List GRule))) (κ : (List (List GRule)) → Prop) : Prop :=
  makeW ([] : (List GRule)) (a_0.length : Int) (a_0.length : Int) (fun xs5 => loopW (fun (nx12 : ((List (List GRule)) × Int) → Prop) ((xs8, t11) : ((List (List GRule)) × Int)) => ifW (decide (t11 < (a_0.length : Int))) (idxW a_0 t11 (fun e13 => L_laws_toRuleS e13 (fun r19 => idxW xs8 t11 (fun e23 => addW t11 1 (fun t30 => nx12 ((xs8.set (t11).toNat r19), t30)))))) (κ xs8)) (xs5, 0))

def L_laws_toRuleset (a_0 : GRuleset) (κ : GRuleset → Prop) : Prop :=
  L_laws_toRuleSS a_0.xChains (fun r12 => κ (GRuleset.mk r12 a_0.xAccept))

def L_impl_FieldTop (n_0 : Int) (κ : Int → Prop) : Prop :=
  jnW (fun (t61 : Bool) => ifW t61 (κ (-1)) (idxW gl_impl_fieldShapes n_0 (fun e63 => κ e63.xTop))) (fun k62 => ifW (decide (n_0 < 0)) (k62 true) (k62 (decide (4 ≤ n_0))))

def L_impl_TestValid (t_0 : GTest) (κ : Bool → Prop) : Prop :=
  jnW (fun (t64 : Bool) => κ t64) (fun k65 => ifW (decide (0 ≤ t_0.xField)) (ifW (decide (t_0.xField < 4)) (ifW (decide (0 ≤ t_0.xLo)) (ifW (decide (t_0.xLo ≤ t_0.xHi)) (L_impl_FieldTop t_0.xField (fun r3 => k65 (decide (t_0.xHi ≤ r3)))) (k65 false)) (k65 false)) (k65 false)) (k65 false))

def L_impl_TestsValid (list_0 : (List GTest)) (κ : Bool → Prop) : Prop :=
  ifW (decide (6 < (list_0.length : Int))) (κ false) (loopW (fun (nx4 : Int → Prop) (t3 : Int) => ifW (decide (t3 < (list_0.length : Int))) (idxW list_0 t3 (fun e5 => L_impl_TestValid e5 (fun r9 => ifW (!r9) (κ false) (addW t3 1 (fun t10 => nx4 t10))))) (κ true)) 0)

def L_impl_RuleValid (r_0 : GRule) (κ : Bool → Prop) : Prop :=
  L_impl_TestsValid r_0.xTests (fun r8 => ifW (!r8) (κ false) (ifW (decide (r_0.xAction = 3)) (jnW (fun (t69 : Bool) => κ t69) (fun k70 => ifW (decide (0 ≤ r_0.xChain)) (k70 (decide (r_0.xChain < 5))) (k70 false))) (jnW (fun (t131 : Bool) => ifW t131 (κ (decide (r_0.xChain = 0))) (κ false)) (fun k132 => ifW (decide (r_0.xAction = 1)) (k132 (decide (r_0.xAction = 1))) (ifW (decide (r_0.xAction = 2)) (k132 (decide (r_0.xAction = 2))) (ifW (decide (r_0.xAction = 4)) (k132 (decide (r_0.xAction = 4))) (k132 (decide (r_0.xAction = 5)))))))))

def L_impl_RulesValid (list_0 : (List GRule)) (κ : Bool → Prop) : Prop :=
  ifW (decide (8 < (list_0.length : Int))) (κ false) (loopW (fun (nx4 : Int → Prop) (t3 : Int) => ifW (decide (t3 < (list_0.length : Int))) (idxW list_0 t3 (fun e5 => L_impl_RuleValid e5 (fun r16 => ifW (!r16) (κ false) (addW t3 1 (fun t17 => nx4 t17))))) (κ true)) 0)

def L_impl_callsIn (rules_0 : (List GRule)) (κ : (List Int) → Prop) : Prop :=
  loopW (fun (nx9 : ((List Bool) × Int) → Prop) ((xs6, t8) : ((List Bool) × Int)) => ifW (decide (t8 < (rules_0.length : Int))) (jnW (fun (xs84 : (List Bool)) => addW t8 1 (fun t87 => nx9 (xs84, t87))) (fun k86 => idxW rules_0 t8 (fun e10 => ifW (decide (e10.xAction = 3)) (idxW xs6 e10.xChain (fun e21 => k86 (xs6.set (e10.xChain).toNat true))) (k86 xs6)))) (unl5 xs6 (fun e89 e90 e91 e92 e93 => loopW (fun (nx100 : ((List Int) × Int) → Prop) ((xs96, t99) : ((List Int) × Int)) => ifW (decide (t99 < 5)) (jnW (fun (xs166 : (List Int)) => addW t99 1 (fun t170 => nx100 (xs166, t170))) (fun k169 => idxW ([e89, e90, e91, e92, e93]) t99 (fun e101 => ifW e101 (appW xs96 ([t99]) (fun _ => k169 (xs96 ++ ([t99])))) (k169 xs96)))) (κ xs96)) ([], 0)))) ([false, false, false, false, false], 0)

def B_impl_visitCalls (rec : ((List (List GRule)) → Int → (List Int) → ((Bool × (List Int)) → Prop) → Prop)) (chains_0 : (List (List GRule))) (chain_1 : Int) (colours_2 : (List Int)) (κ : (Bool × (List Int)) → Prop) : Prop :=
  ifW (decide ((chains_0.length : Int) ≤ chain_1)) (κ (true, colours_2)) (idxW colours_2 chain_1 (fun e5 => ifW (decide (e5 = 1)) (κ (false, colours_2)) (ifW (decide (e5 = 2)) (κ (true, colours_2)) (idxW colours_2 chain_1 (fun e7 => idxW chains_0 chain_1 (fun e10 => L_impl_callsIn e10 (fun r16 => loopW (fun (nx23 : ((List Int) × Bool × Int) → Prop) ((xs19, t21, t22) : ((List Int) × Bool × Int)) => ifW (decide (t22 < (r16.length : Int))) (jnW (fun ((xs89, t91) : ((List Int) × Bool)) => addW t22 1 (fun t93 => nx23 (xs89, t91, t93))) (fun k92 => idxW r16 t22 (fun e24 => rec chains_0 e24 xs19 (fun (r26, r27) => ifW (!r26) (k92 (r27, false)) (k92 (r27, t21)))))) (idxW xs19 chain_1 (fun e94 => κ (t21, (xs19.set (chain_1).toNat 2))))) ((colours_2.set (chain_1).toNat 1), true, 0))))))))
def R_impl_visitCalls : Nat → (List (List GRule)) → Int → (List Int) → ((Bool × (List Int)) → Prop) → Prop
  | 0 => fun _ _ _ _ => False
  | n + 1 => B_impl_visitCalls (R_impl_visitCalls n)
def L_impl_visitCalls (chains_0 : (List (List GRule))) (chain_1 : Int) (colours_2 : (List Int)) (κ : (Bool × (List Int)) → Prop) : Prop := ∃ n, R_impl_visitCalls n chains_0 chain_1 colours_2 κ

def L_impl_acyclic (chains_0 : (List (List GRule))) (κ : Bool → Prop) : Prop :=
  loopW (fun (nx8 : ((List Int) × Int) → Prop) ((xs5, t7) : ((List Int) × Int)) => ifW (decide (t7 < (chains_0.length : Int))) (L_impl_visitCalls chains_0 t7 xs5 (fun (r9, r10) => ifW (!r9) (κ false) (addW t7 1 (fun t12 => nx8 (r10, t12))))) (κ true)) ([0, 0, 0, 0, 0], 0)

def L_impl_RulesetValid (s_0 : GRuleset) (κ : Bool → Prop) : Prop :=
  jnW (fun (t68 : Bool) => ifW t68 (κ false) (loopW (fun (nx71 : Int → Prop) (t70 : Int) => ifW (decide (t70 < (s_0.xChains.length : Int))) (idxW s_0.xChains t70 (fun e72 => L_impl_RulesValid e72 (fun r78 => ifW (!r78) (κ false) (addW t70 1 (fun t79 => nx71 t79))))) (loopW (fun (nx81 : Int → Prop) (t80 : Int) => ifW (decide (t80 < (s_0.xChains.length : Int))) (idxW s_0.xChains t80 (fun e82 => L_impl_callsIn e82 (fun r88 => loopW (fun (nx92 : Int → Prop) (t91 : Int) => ifW (decide (t91 < (r88.length : Int))) (idxW r88 t91 (fun e93 => ifW (decide ((s_0.xChains.length : Int) ≤ e93)) (κ false) (addW t91 1 (fun t95 => nx92 t95)))) (addW t80 1 (fun t96 => nx81 t96))) 0))) (L_impl_acyclic s_0.xChains (fun r97 => κ r97))) 0)) 0)) (fun k69 => ifW (decide ((s_0.xChains.length : Int) < 1)) (k69 true) (k69 (decide (5 < (s_0.xChains.length : Int)))))

def L_impl_chainLine (number_0 : Int) (κ : ByteArray → Prop) : Prop :=
  L_lib_Itoa number_0 (fun r1 => catW (ByteArray.mk #[99, 104, 97, 105, 110, 32]) r1 (fun s2 => κ s2))

def L_impl_actionOf (r_0 : GRule) (κ : IAction → Prop) : Prop :=
  ifW (decide (r_0.xAction = 1)) (κ (IAction.kDeciding (GDeciding.mk true))) (ifW (decide (r_0.xAction = 2)) (κ (IAction.kDeciding (GDeciding.mk false))) (ifW (decide (r_0.xAction = 3)) (κ (IAction.kCalling (GCalling.mk r_0.xChain))) (ifW (decide (r_0.xAction = 4)) (κ (IAction.kReturning (GReturning.mk ))) (κ (IAction.kPassing (GPassing.mk ))))))

def L_impl_Test_text (t_0 : GTest) (κ : ByteArray → Prop) : Prop :=
  idxW gl_impl_fieldShapes t_0.xField (fun e3 => catW e3.xName (ByteArray.mk #[32]) (fun s5 => L_lib_Itoa t_0.xLo (fun r6 => catW s5 r6 (fun s7 => jnW (fun (t69 : ByteArray) => jnW (fun (t134 : ByteArray) => κ t134) (fun k135 => ifW (!(decide (t_0.xHi = t_0.xLo))) (L_lib_Itoa t_0.xHi (fun r71 => catW (ByteArray.mk #[45]) r71 (fun s72 => catW t69 s72 (fun s73 => k135 s73)))) (k135 t69))) (fun k70 => ifW t_0.xNot (catW (ByteArray.mk #[110, 111, 116, 32]) s7 (fun s8 => k70 s8)) (k70 s7))))))

def L_impl_deciding_word (d_0 : GDeciding) (κ : ByteArray → Prop) : Prop :=
  ifW d_0.xAccept (κ (ByteArray.mk #[97, 99, 99, 101, 112, 116])) (κ (ByteArray.mk #[100, 114, 111, 112]))

def L_impl_calling_word (a_0 : GCalling) (κ : ByteArray → Prop) : Prop :=
  κ (ByteArray.mk #[99, 97, 108, 108])

def L_impl_returning_word (a_0 : GReturning) (κ : ByteArray → Prop) : Prop :=
  κ (ByteArray.mk #[114, 101, 116, 117, 114, 110])

def L_impl_passing_word (a_0 : GPassing) (κ : ByteArray → Prop) : Prop :=
  κ (ByteArray.mk #[110, 111, 110, 101])

def L_impl_Rule_text (r_0 : GRule) (κ : ByteArray → Prop) : Prop :=
  L_impl_actionOf r_0 (fun r8 => IAction.casesW r8 (fun x9 => L_impl_deciding_word x9 (fun r13 => jnW (fun (t77 : ByteArray) => loopW (fun (nx81 : (ByteArray × Int) → Prop) ((t79, t80) : (ByteArray × Int)) => ifW (decide (t80 < (r_0.xTests.length : Int))) (idxW r_0.xTests t80 (fun e82 => L_impl_Test_text e82 (fun r86 => catW (ByteArray.mk #[44, 32]) r86 (fun s87 => catW t79 s87 (fun s88 => addW t80 1 (fun t89 => nx81 (s88, t89))))))) (κ t79)) (t77, 0)) (fun k78 => ifW (decide (r_0.xAction = 3)) (L_lib_Itoa r_0.xChain (fun r14 => catW (ByteArray.mk #[32]) r14 (fun s15 => catW r13 s15 (fun s16 => k78 s16)))) (k78 r13)))) (fun x10 => L_impl_calling_word x10 (fun r90 => jnW (fun (t154 : ByteArray) => loopW (fun (nx158 : (ByteArray × Int) → Prop) ((t156, t157) : (ByteArray × Int)) => ifW (decide (t157 < (r_0.xTests.length : Int))) (idxW r_0.xTests t157 (fun e159 => L_impl_Test_text e159 (fun r163 => catW (ByteArray.mk #[44, 32]) r163 (fun s164 => catW t156 s164 (fun s165 => addW t157 1 (fun t166 => nx158 (s165, t166))))))) (κ t156)) (t154, 0)) (fun k155 => ifW (decide (r_0.xAction = 3)) (L_lib_Itoa r_0.xChain (fun r91 => catW (ByteArray.mk #[32]) r91 (fun s92 => catW r90 s92 (fun s93 => k155 s93)))) (k155 r90)))) (fun x11 => L_impl_returning_word (GReturning.mk ) (fun r167 => jnW (fun (t231 : ByteArray) => loopW (fun (nx235 : (ByteArray × Int) → Prop) ((t233, t234) : (ByteArray × Int)) => ifW (decide (t234 < (r_0.xTests.length : Int))) (idxW r_0.xTests t234 (fun e236 => L_impl_Test_text e236 (fun r240 => catW (ByteArray.mk #[44, 32]) r240 (fun s241 => catW t233 s241 (fun s242 => addW t234 1 (fun t243 => nx235 (s242, t243))))))) (κ t233)) (t231, 0)) (fun k232 => ifW (decide (r_0.xAction = 3)) (L_lib_Itoa r_0.xChain (fun r168 => catW (ByteArray.mk #[32]) r168 (fun s169 => catW r167 s169 (fun s170 => k232 s170)))) (k232 r167)))) (fun x12 => L_impl_passing_word (GPassing.mk ) (fun r244 => jnW (fun (t308 : ByteArray) => loopW (fun (nx312 : (ByteArray × Int) → Prop) ((t310, t311) : (ByteArray × Int)) => ifW (decide (t311 < (r_0.xTests.length : Int))) (idxW r_0.xTests t311 (fun e313 => L_impl_Test_text e313 (fun r317 => catW (ByteArray.mk #[44, 32]) r317 (fun s318 => catW t310 s318 (fun s319 => addW t311 1 (fun t320 => nx312 (s319, t320))))))) (κ t310)) (t308, 0)) (fun k309 => ifW (decide (r_0.xAction = 3)) (L_lib_Itoa r_0.xChain (fun r245 => catW (ByteArray.mk #[32]) r245 (fun s246 => catW r244 s246 (fun s247 => k309 s247)))) (k309 r244)))))

def L_impl_RulesetText (s_0 : GRuleset) (κ : (List ByteArray) → Prop) : Prop :=
  L_impl_RulesetValid s_0 (fun r9 => ifW (!r9) (κ ([])) (jnW (fun (t71 : ByteArray) => loopW (fun (nx80 : ((List ByteArray) × Int) → Prop) ((xs76, t79) : ((List ByteArray) × Int)) => ifW (decide (t79 < (s_0.xChains.length : Int))) (idxW s_0.xChains t79 (fun e81 => L_impl_chainLine t79 (fun r87 => appW xs76 ([r87]) (fun _ => loopW (fun (nx97 : ((List ByteArray) × Int) → Prop) ((xs93, t96) : ((List ByteArray) × Int)) => ifW (decide (t96 < (e81.length : Int))) (idxW e81 t96 (fun e98 => L_impl_Rule_text e98 (fun r109 => appW xs93 ([r109]) (fun _ => addW t96 1 (fun t114 => nx97 ((xs93 ++ ([r109])), t114)))))) (addW t79 1 (fun t115 => nx80 (xs93, t115)))) ((xs76 ++ ([r87])), 0))))) (κ xs76)) ([t71], 0)) (fun k72 => ifW s_0.xAccept (k72 (ByteArray.mk #[100, 101, 102, 97, 117, 108, 116, 32, 97, 99, 99, 101, 112, 116])) (k72 (ByteArray.mk #[100, 101, 102, 97, 117, 108, 116, 32, 100, 114, 111, 112])))))

def L_laws_eqStringS (a_0 : (List ByteArray)) (b_1 : (List ByteArray)) (κ : Bool → Prop) : Prop :=
  ifW (!(decide ((a_0.length : Int) = (b_1.length : Int)))) (κ false) (loopW (fun (nx6 : Int → Prop) (t5 : Int) => ifW (decide (t5 < (a_0.length : Int))) (idxW a_0 t5 (fun e7 => idxW b_1 t5 (fun e9 => ifW (!(decide (e7 = e9))) (κ false) (addW t5 1 (fun t11 => nx6 t11))))) (κ true)) 0)

def L_laws_eqTest (a_0 : GTest) (b_1 : GTest) (κ : Bool → Prop) : Prop :=
  ifW (!(decide (a_0.xField = b_1.xField))) (κ false) (ifW (!(decide (a_0.xLo = b_1.xLo))) (κ false) (ifW (!(decide (a_0.xHi = b_1.xHi))) (κ false) (ifW (!(decide (a_0.xNot = b_1.xNot))) (κ false) (κ true))))

def L_laws_eqTestS (a_0 : (List GTest)) (b_1 : (List GTest)) (κ : Bool → Prop) : Prop :=
  ifW (!(decide ((a_0.length : Int) = (b_1.length : Int)))) (κ false) (loopW (fun (nx6 : Int → Prop) (t5 : Int) => ifW (decide (t5 < (a_0.length : Int))) (idxW a_0 t5 (fun e7 => idxW b_1 t5 (fun e9 => L_laws_eqTest e7 e9 (fun r11 => ifW (!r11) (κ false) (addW t5 1 (fun t12 => nx6 t12)))))) (κ true)) 0)

def L_laws_eqRule (a_0 : GRule) (b_1 : GRule) (κ : Bool → Prop) : Prop :=
  L_laws_eqTestS a_0.xTests b_1.xTests (fun r15 => ifW (!r15) (κ false) (ifW (!(decide (a_0.xAction = b_1.xAction))) (κ false) (ifW (!(decide (a_0.xChain = b_1.xChain))) (κ false) (κ true))))

def L_laws_eqRuleS (a_0 : (List GRule)) (b_1 : (List GRule)) (κ : Bool → Prop) : Prop :=
  ifW (!(decide ((a_0.length : Int) = (b_1.length : Int)))) (κ false) (loopW (fun (nx6 : Int → Prop) (t5 : Int) => ifW (decide (t5 < (a_0.length : Int))) (idxW a_0 t5 (fun e7 => idxW b_1 t5 (fun e13 => L_laws_eqRule e7 e13 (fun r19 => ifW (!r19) (κ false) (addW t5 1 (fun t20 => nx6 t20)))))) (κ true)) 0)

def L_laws_eqRuleSS (a_0 : (List (List GRule))) (b_1 : (List (List GRule))) (κ : Bool → Prop) : Prop :=
  ifW (!(decide ((a_0.length : Int) = (b_1.length : Int)))) (κ false) (loopW (fun (nx6 : Int → Prop) (t5 : Int) => ifW (decide (t5 < (a_0.length : Int))) (idxW a_0 t5 (fun e7 => idxW b_1 t5 (fun e13 => L_laws_eqRuleS e7 e13 (fun r19 => ifW (!r19) (κ false) (addW t5 1 (fun t20 => nx6 t20)))))) (κ true)) 0)

def L_laws_eqRuleset (a_0 : GRuleset) (b_1 : GRuleset) (κ : Bool → Prop) : Prop :=
  L_laws_eqRuleSS a_0.xChains b_1.xChains (fun r15 => ifW (!r15) (κ false) (ifW (!(decide (a_0.xAccept = b_1.xAccept))) (κ false) (κ true)))

def L_laws_markTestS (a_0 : (List GTest)) (k_1 : Int) (κ : (Int × (List GTest)) → Prop) : Prop :=
  loopW (fun (nx7 : ((List GTest) × Int × Int) → Prop) ((xs3, t5, t6) : ((List GTest) × Int × Int)) => ifW (decide (t6 < (xs3.length : Int))) (idxW xs3 t6 (fun e8 => addW t5 1 (fun t11 => idxW (xs3.set (t6).toNat (GTest.mk t5 e8.xLo e8.xHi e8.xNot)) t6 (fun e12 => addW t11 1 (fun t15 => idxW ((xs3.set (t6).toNat (GTest.mk t5 e8.xLo e8.xHi e8.xNot)).set (t6).toNat (GTest.mk e12.xField t11 e12.xHi e12.xNot)) t6 (fun e16 => addW t15 1 (fun t19 => remW t19 3 (fun t20 => idxW (((xs3.set (t6).toNat (GTest.mk t5 e8.xLo e8.xHi e8.xNot)).set (t6).toNat (GTest.mk e12.xField t11 e12.xHi e12.xNot)).set (t6).toNat (GTest.mk e16.xField e16.xLo t15 e16.xNot)) t6 (fun e21 => addW t19 1 (fun t24 => addW t6 1 (fun t25 => nx7 (((((xs3.set (t6).toNat (GTest.mk t5 e8.xLo e8.xHi e8.xNot)).set (t6).toNat (GTest.mk e12.xField t11 e12.xHi e12.xNot)).set (t6).toNat (GTest.mk e16.xField e16.xLo t15 e16.xNot)).set (t6).toNat (GTest.mk e21.xField e21.xLo e21.xHi (decide (t20 = 0)))), t24, t25)))))))))))) (κ (t5, xs3))) (a_0, k_1, 0)

def L_laws_markRuleS (a_0 : (List GRule)) (k_1 : Int) (κ : (Int × (List GRule)) → Prop) : Prop :=
  loopW (fun (nx9 : ((List GRule) × Int × Int) → Prop) ((xs4, t7, t8) : ((List GRule) × Int × Int)) => ifW (decide (t8 < (xs4.length : Int))) (idxW xs4 t8 (fun e10 => L_laws_markTestS e10.xTests t7 (fun (r16, r17) => idxW (xs4.set (t8).toNat (GRule.mk r17 e10.xAction e10.xChain)) t8 (fun e21 => addW r16 1 (fun t24 => idxW ((xs4.set (t8).toNat (GRule.mk r17 e10.xAction e10.xChain)).set (t8).toNat (GRule.mk e21.xTests r16 e21.xChain)) t8 (fun e25 => addW t24 1 (fun t28 => addW t8 1 (fun t29 => nx9 ((((xs4.set (t8).toNat (GRule.mk r17 e10.xAction e10.xChain)).set (t8).toNat (GRule.mk e21.xTests r16 e21.xChain)).set (t8).toNat (GRule.mk e25.xTests e25.xAction t24)), t28, t29))))))))) (κ (t7, xs4))) (a_0, k_1, 0)

def L_laws_markRuleSS (a_0 : (List (List GRule))) (k_1 : Int) (κ : (Int × (List (List GRule))) → Prop) : Prop :=
  loopW (fun (nx9 : ((List (List GRule)) × Int × Int) → Prop) ((xs4, t7, t8) : ((List (List GRule)) × Int × Int)) => ifW (decide (t8 < (xs4.length : Int))) (idxW xs4 t8 (fun e10 => L_laws_markRuleS e10 t7 (fun (r16, r17) => addW t8 1 (fun t20 => nx9 ((xs4.set (t8).toNat r17), r16, t20))))) (κ (t7, xs4))) (a_0, k_1, 0)

def L_laws_markRuleset (a_0_Chains : (List (List GRule))) (a_0_Accept : Bool) (k_1 : Int) (κ : (Int × (List (List GRule))) → Prop) : Prop :=
  L_laws_markRuleSS a_0_Chains k_1 (fun (r6, r7) => κ (r6, r7))

def L_laws_markText (k_0 : Int) (κ : ByteArray → Prop) : Prop :=
  ifW (decide (k_0 ≤ 0)) (κ (ByteArray.mk #[109, 48])) (loopW (fun (nx3 : (Int × ByteArray) → Prop) ((t1, t2) : (Int × ByteArray)) => ifW (decide (0 < t1)) (remW t1 10 (fun t4 => addW 48 t4 (fun t5 => byteU t5 (fun t6 => catW (ByteArray.mk ([t6]).toArray) t2 (fun s9 => quoW t1 10 (fun t10 => nx3 (t10, s9))))))) (catW (ByteArray.mk #[109]) t2 (fun s11 => κ s11))) (k_0, (ByteArray.mk #[])))

def L_laws_markStringS (a_0 : (List ByteArray)) (k_1 : Int) (κ : (Int × (List ByteArray)) → Prop) : Prop :=
  loopW (fun (nx7 : ((List ByteArray) × Int × Int) → Prop) ((xs3, t5, t6) : ((List ByteArray) × Int × Int)) => ifW (decide (t6 < (xs3.length : Int))) (L_laws_markText t5 (fun r8 => idxW xs3 t6 (fun e9 => addW t5 1 (fun t12 => addW t6 1 (fun t13 => nx7 ((xs3.set (t6).toNat r8), t12, t13)))))) (κ (t5, xs3))) (a_0, k_1, 0)

def L_laws_heldStringS (a_0 : (List ByteArray)) (k_1 : Int) (κ : Int → Prop) : Prop :=
  loopW (fun (nx5 : (Int × Int) → Prop) ((t3, t4) : (Int × Int)) => ifW (decide (t4 < (a_0.length : Int))) (idxW a_0 t4 (fun e6 => L_laws_markText t3 (fun r8 => ifW (!(decide (e6 = r8))) (κ (-1)) (addW t3 1 (fun t9 => addW t4 1 (fun t10 => nx5 (t9, t10))))))) (κ t3)) (k_1, 0)

def L_laws_FnExactRulesetText (aS_0 : GRuleset) (κ : Bool → Prop) : Prop :=
  L_laws_szRuleset aS_0 1048576 (fun r8 => ifW (decide (r8 < 0)) (κ true) (L_laws_toRuleset aS_0 (fun r9 => L_spec_RulesetText r9 (fun r13 => L_laws_toRuleset aS_0 (fun r16 => L_impl_RulesetText r16 (fun r25 => L_laws_eqStringS r25 r13 (fun r28 => ifW (!r28) (κ false) (L_laws_toRuleset aS_0 (fun r29 => L_laws_eqRuleset r16 r29 (fun r33 => ifW (!r33) (κ false) (L_laws_markRuleset r16.xChains r16.xAccept 1 (fun (r34, r35) => jnW (fun (t99 : Bool) => ifW t99 (κ false) (L_laws_markStringS r25 1 (fun (r101, r102) => L_laws_heldStringS r102 1 (fun r104 => ifW (decide (r104 < 0)) (κ false) (ifW (!(decide (r104 = r101))) (κ false) (L_laws_toRuleset aS_0 (fun r105 => L_impl_RulesetText r105 (fun r109 => L_laws_eqStringS r109 r13 (fun r112 => ifW (!r112) (κ false) (L_laws_heldStringS r102 1 (fun r113 => ifW (decide (r113 < 0)) (κ false) (ifW (!(decide (r113 = r101))) (κ false) (κ true))))))))))))) (fun k100 => ifW (decide (r34 < 0)) (k100 true) (L_laws_eqStringS r25 r13 (fun r38 => k100 (!r38))))))))))))))))

end
section

theorem idxW_any {α : Type} {xs : List α} {i : Int} {κ : α → Prop} (h1 : 0 ≤ i) (h2 : i < xs.length) (h : ∀ x, x ∈ xs → κ x) : idxW xs i κ := by
  obtain ⟨n, rfl⟩ := Int.eq_ofNat_of_zero_le h1
  have hn : n < xs.length := by omega
  exact idxW_of n rfl hn (h _ (List.getElem_mem hn))

end
section
open Go.Lib (decDigits)

theorem byteU_of {n : Int} {κ : UInt8 → Prop} (m : Nat) (e : n = m) (h : m ≤ 255) (hk : κ (UInt8.ofNat m)) : byteU n κ := by
  subst e; exact ⟨by omega, by omega, by simpa using hk⟩
def preD (m : Nat) : List UInt8 := if m < 10 then [] else decDigits (m / 10)
theorem preD_step {m : Nat} : decDigits m = preD m ++ [UInt8.ofNat (48 + m % 10)] := by
  unfold preD; split
  · rename_i h; rw [dec_small h, Nat.mod_eq_of_lt h]; rfl
  · rename_i h; exact dec_big h

theorem S_l3Number {n : Int} {κ : ByteArray → Prop} (h0 : 0 ≤ n) (h1 : n ≤ 1000000000000000000) (h : κ (B (decDigits n.toNat))) : L_spec_l3Number n κ := by
  obtain ⟨n, rfl⟩ := Int.eq_ofNat_of_zero_le h0
  rw [Int.toNat_natCast] at h
  have hlen : (decDigits n).length ≤ 20 := dec_len 19 n (Nat.lt_of_le_of_lt (show n ≤ 1000000000000000000 by omega) (by decide))
  unfold L_spec_l3Number
  refine remW_of (by omega) (by omega) (by omega) (addW_of (by omega) (by omega) (byteU_of (48 + n % 10) (by omega) (by omega) ?_))
  refine loopW_inv (fun s => ∃ (m : Nat) (l : List UInt8), s = ((m : Int), B l) ∧ m ≤ n ∧ decDigits n = preD m ++ l) (fun s => s.1.toNat) ?_ ⟨n, [UInt8.ofNat (48 + n % 10)], rfl, Nat.le_refl _, preD_step⟩
  rintro _ next ⟨m, l, rfl, hm, he⟩ hn
  have hl : l.length ≤ 20 := by have := congrArg List.length he; simp at this; omega
  refine ifW_of (fun hc => ?_) (fun hc => ?_)
  · simp at hc
    refine quoW_of (by omega) (by omega) (by omega) (remW_of (by omega) (by omega) (by omega) (addW_of (by omega) (by omega) (byteU_of (48 + m / 10 % 10) (by omega) (by omega) ?_)))
    refine catW_B (l := [UInt8.ofNat (48 + m / 10 % 10)]) (by simp; omega) ?_
    refine hn _ ⟨m / 10, _, by rw [show ((m : Int) / 10) = ((m / 10 : Nat) : Int) by omega], by omega, ?_⟩ (by simp; omega)
    rw [he, show preD m = decDigits (m / 10) by unfold preD; rw [if_neg (by omega)], preD_step (m := m / 10)]
    simp
  · simp at hc
    rw [show preD m = [] by unfold preD; rw [if_pos (by omega)]] at he
    rw [he] at h; exact h

end
section
open Go.Lib (decDigits)

theorem S_l1In {n lo hi : Int} {κ : Bool → Prop} (h : κ (decide (lo ≤ n ∧ n ≤ hi))) : L_spec_l1In n lo hi κ := by
  unfold L_spec_l1In jnW
  refine ifW_of (fun hc => ?_) (fun hc => ?_)
  · simp at hc; simpa [hc] using h
  · simp at hc
    have : decide (lo ≤ n ∧ n ≤ hi) = false := by simp; omega
    rw [this] at h; exact h
theorem dec_le {n : Nat} (h : n ≤ 100000) : (decDigits n).length ≤ 6 := dec_len 5 n (Nat.lt_of_le_of_lt h (by decide))
/-! ### the reader of the program -/
end
section
open Go.Lib (decDigits)

def top (f : Int) : Int := if f = 0 ∨ f = 1 then 65535 else if f = 2 then 255 else 7
theorem top_le (f : Int) : 7 ≤ top f ∧ top f ≤ 65535 := by unfold top; repeat' split
                                                           all_goals omega
def nm (f : Int) : List UInt8 := if f = 0 then [102, 114, 111, 109] else if f = 1 then [116, 111] else if f = 2 then [112, 111, 114, 116] else [112, 114, 111, 116, 111]
def TV (t : GTest) : Prop := 0 ≤ t.xField ∧ t.xField ≤ 3 ∧ 0 ≤ t.xLo ∧ t.xLo ≤ t.xHi ∧ t.xHi ≤ top t.xField
instance (t : GTest) : Decidable (TV t) := by unfold TV; infer_instance
/-- the part behind the name -/
def rtx (t : GTest) : List UInt8 := decDigits t.xLo.toNat ++ (if t.xHi = t.xLo then [] else 45 :: decDigits t.xHi.toNat)
def btx (t : GTest) : List UInt8 := nm t.xField ++ 32 :: rtx t
def ttx (t : GTest) : List UInt8 := if t.xNot then 110 :: 111 :: 116 :: 32 :: btx t else btx t
def ttext (t : GTest) : List UInt8 := if TV t then ttx t else []
theorem four {f : Int} (h0 : 0 ≤ f) (h1 : f ≤ 3) : f = 0 ∨ f = 1 ∨ f = 2 ∨ f = 3 := by omega
theorem S_shape {n : Int} {κ : GFieldShape → Prop} (h0 : 0 ≤ n) (h1 : n ≤ 3) (h : ∀ e : GFieldShape, e.xName = B (nm n) → e.xTop = top n → κ e) : idxW gl_impl_fieldShapes n κ := by
  rcases four h0 h1 with rfl | rfl | rfl | rfl
  · exact idxW_of 0 rfl (by decide) (h _ rfl rfl)
  · exact idxW_of 1 rfl (by decide) (h _ rfl rfl)
  · exact idxW_of 2 rfl (by decide) (h _ rfl rfl)
  · exact idxW_of 3 rfl (by decide) (h _ rfl rfl)
theorem S_name {n : Int} {κ : ByteArray → Prop} (h0 : 0 ≤ n) (h1 : n ≤ 3) (h : κ (B (nm n))) : idxW [(ByteArray.mk #[102, 114, 111, 109]), (ByteArray.mk #[116, 111]), (ByteArray.mk #[112, 111, 114, 116]), (ByteArray.mk #[112, 114, 111, 116, 111])] n κ := by
  rcases four h0 h1 with rfl | rfl | rfl | rfl
  · exact idxW_of 0 rfl (by decide) h
  · exact idxW_of 1 rfl (by decide) h
  · exact idxW_of 2 rfl (by decide) h
  · exact idxW_of 3 rfl (by decide) h
theorem S_spec_FieldTop {n : Int} {κ : Int → Prop} (h0 : 0 ≤ n) (h1 : n ≤ 3) (h : κ (top n)) : L_spec_FieldTop n κ := by
  unfold L_spec_FieldTop jnW
  rcases four h0 h1 with rfl | rfl | rfl | rfl <;> simpa [top] using h
theorem S_impl_FieldTop {n : Int} {κ : Int → Prop} (h : κ (if 0 ≤ n ∧ n ≤ 3 then top n else -1)) : L_impl_FieldTop n κ := by
  unfold L_impl_FieldTop jnW
  refine ifW_of (fun hc => ?_) (fun hc => ifW_of (fun hc2 => ?_) (fun hc2 => ?_))
  · simp at hc; rw [if_neg (by omega)] at h; simpa using h
  · simp at hc hc2; rw [if_neg (by omega)] at h; exact h
  · simp at hc hc2; rw [if_pos (by omega)] at h
    exact S_shape (by omega) (by omega) (fun e _ he => by rw [he]; exact h)
theorem S_spec_TestValid {t : GTest} {κ : Bool → Prop} (h : κ (decide (TV t))) : L_spec_TestValid t κ := by
  unfold L_spec_TestValid jnW
  refine S_l1In (ifW_of (fun hc => ?_) (fun hc => ?_))
  · simp at hc
    refine S_l1In (ifW_of (fun hc2 => ?_) (fun hc2 => ?_))
    · simp at hc2
      refine S_spec_FieldTop hc.1 hc.2 ?_
      rw [show decide (t.xHi ≤ top t.xField) = decide (TV t) from decide_eq_decide.2 ⟨fun hh => ⟨hc.1, hc.2, hc2.1, hc2.2, hh⟩, fun hh => hh.2.2.2.2⟩]
      exact h
    · simp at hc2
      rw [decide_eq_false (fun hh : TV t => by obtain ⟨a1, a2, a3, a4, _⟩ := hh; omega)] at h; exact h
  · simp at hc
    rw [decide_eq_false (fun hh : TV t => by obtain ⟨a1, a2, a3, a4, _⟩ := hh; omega)] at h; exact h
theorem S_impl_TestValid {t : GTest} {κ : Bool → Prop} (h : κ (decide (TV t))) : L_impl_TestValid t κ := by
  unfold L_impl_TestValid jnW
  have no : ¬ (0 ≤ t.xField ∧ t.xField < 4 ∧ 0 ≤ t.xLo ∧ t.xLo ≤ t.xHi) → κ false := fun hn => by
    rw [decide_eq_false (fun hh : TV t => by obtain ⟨a1, a2, a3, a4, _⟩ := hh; omega)] at h; exact h
  refine ifW_of (fun hc => ifW_of (fun hc2 => ifW_of (fun hc3 => ifW_of (fun hc4 => ?_) (fun hc4 => no (by simp at hc4; omega))) (fun hc3 => no (by simp at hc3; omega))) (fun hc2 => no (by simp at hc2; omega))) (fun hc => no (by simp at hc; omega))
  simp at hc hc2 hc3 hc4
  refine S_impl_FieldTop ?_
  rw [if_pos ⟨hc, by omega⟩]
  rw [show decide (t.xHi ≤ top t.xField) = decide (TV t) from decide_eq_decide.2 ⟨fun hh => ⟨hc, by omega, hc3, hc4, hh⟩, fun hh => hh.2.2.2.2⟩]
  exact h
theorem nm_len (f : Int) : 2 ≤ (nm f).length ∧ (nm f).length ≤ 5 := by unfold nm; repeat' split
                                                                       all_goals simp
theorem rtx_len {t : GTest} (h : TV t) : (rtx t).length ≤ 13 := by
  obtain ⟨a1, a2, a3, a4, a5⟩ := h
  have := top_le t.xField
  have d1 := dec_le (n := t.xLo.toNat) (by omega)
  have d2 := dec_le (n := t.xHi.toNat) (by omega)
  unfold rtx; split <;> simp <;> omega
theorem btx_len {t : GTest} (h : TV t) : (btx t).length ≤ 19 := by
  have h1 := rtx_len h
  have h2 := nm_len t.xField
  unfold btx; simp; omega
theorem ttx_len {t : GTest} (h : TV t) : (ttx t).length ≤ 23 := by
  have h1 := btx_len h
  unfold ttx; split <;> simp <;> omega
theorem ttx_not {t : GTest} : ttx t = (if t.xNot then [110, 111, 116, 32] else []) ++ btx t := by unfold ttx; split <;> rfl
theorem S_impl_Test_text {t : GTest} {κ : ByteArray → Prop} (hv : TV t) (h : κ (B (ttx t))) : L_impl_Test_text t κ := by
  obtain ⟨a1, a2, a3, a4, a5⟩ := id hv
  have ht := top_le t.xField
  have hn := nm_len t.xField
  have d1 := dec_le (n := t.xLo.toNat) (by omega)
  have d2 := dec_le (n := t.xHi.toNat) (by omega)
  unfold L_impl_Test_text jnW
  refine S_shape a1 a2 (fun e he _ => ?_)
  rw [he]
  refine catW_B (m := [32]) (by simp; omega) (S_itoa a3 (by omega) (catW_B (by simp; omega) ?_))
  have key : ∀ p : List UInt8, p.length ≤ 4 → ttx t = p ++ btx t → ifW (!(decide (t.xHi = t.xLo))) (L_lib_Itoa t.xHi (fun r71 => catW (ByteArray.mk #[45]) r71 (fun s72 => catW (B (p ++ (nm t.xField ++ [32] ++ decDigits t.xLo.toNat))) s72 (fun s73 => κ s73)))) (κ (B (p ++ (nm t.xField ++ [32] ++ decDigits t.xLo.toNat)))) := by
    intro p hp e
    refine ifW_of (fun hc => ?_) (fun hc => ?_)
    · simp at hc
      refine S_itoa (by omega) (by omega) (catW_B (l := [45]) (by simp; omega) (catW_B (by simp; omega) ?_))
      rw [e] at h
      simpa [btx, rtx, if_neg hc, List.append_assoc] using h
    · simp at hc
      rw [e] at h
      simpa [btx, rtx, if_pos hc, List.append_assoc] using h
  refine ifW_of (fun hc => ?_) (fun hc => ?_)
  · exact catW_B (l := [110, 111, 116, 32]) (by simp; omega) (key [110, 111, 116, 32] (by simp) (by rw [ttx_not, if_pos hc]))
  · exact key [] (by simp) (by rw [ttx_not, if_neg (by simp [hc])])
theorem S_spec_TestText {t : GTest} {κ : ByteArray → Prop} (h : κ (B (ttext t))) : L_spec_TestText t κ := by
  unfold L_spec_TestText jnW
  refine S_spec_TestValid (ifW_of (fun hc => ?_) (fun hc => ?_))
  · simp at hc; rw [ttext, if_neg hc] at h; exact h
  · simp at hc; rw [ttext, if_pos hc] at h
    obtain ⟨a1, a2, a3, a4, a5⟩ := id hc
    have ht := top_le t.xField
    have hn := nm_len t.xField
    have d1 := dec_le (n := t.xLo.toNat) (by omega)
    have d2 := dec_le (n := t.xHi.toNat) (by omega)
    have key : ∀ p : List UInt8, p.length ≤ 4 → ttx t = p ++ btx t → ifW (!(decide (t.xHi = t.xLo))) (catW (B (p ++ (nm t.xField ++ [32] ++ decDigits t.xLo.toNat))) (ByteArray.mk #[45]) (fun s83 => L_spec_l3Number t.xHi (fun r84 => catW s83 r84 (fun s85 => κ s85)))) (κ (B (p ++ (nm t.xField ++ [32] ++ decDigits t.xLo.toNat)))) := by
      intro p hp e
      refine ifW_of (fun hc => ?_) (fun hc => ?_)
      · simp at hc
        refine catW_B (m := [45]) (by simp; omega) (S_l3Number (by omega) (by omega) (catW_B (by simp; omega) ?_))
        rw [e] at h
        simpa [btx, rtx, if_neg hc, List.append_assoc] using h
      · simp at hc
        rw [e] at h
        simpa [btx, rtx, if_pos hc, List.append_assoc] using h
    have fin : ifW t.xNot (catW (ByteArray.mk #[110, 111, 116, 32]) (B (nm t.xField ++ [32] ++ decDigits t.xLo.toNat)) (fun s20 => ifW (!(decide (t.xHi = t.xLo))) (catW s20 (ByteArray.mk #[45]) (fun s83 => L_spec_l3Number t.xHi (fun r84 => catW s83 r84 (fun s85 => κ s85)))) (κ s20))) (ifW (!(decide (t.xHi = t.xLo))) (catW (B (nm t.xField ++ [32] ++ decDigits t.xLo.toNat)) (ByteArray.mk #[45]) (fun s83 => L_spec_l3Number t.xHi (fun r84 => catW s83 r84 (fun s85 => κ s85)))) (κ (B (nm t.xField ++ [32] ++ decDigits t.xLo.toNat)))) := by
      refine ifW_of (fun hc => ?_) (fun hc => ?_)
      · exact catW_B (l := [110, 111, 116, 32]) (by simp; omega) (key [110, 111, 116, 32] (by simp) (by rw [ttx_not, if_pos hc]))
      · exact key [] (by simp) (by rw [ttx_not, if_neg (by simp [hc])])
    have z : L_spec_l3Number t.xLo (fun r15 => idxW [(ByteArray.mk #[102, 114, 111, 109]), (ByteArray.mk #[116, 111]), (ByteArray.mk #[112, 111, 114, 116]), (ByteArray.mk #[112, 114, 111, 116, 111])] t.xField (fun e16 => catW e16 (ByteArray.mk #[32]) (fun s13 => catW s13 r15 (fun t4 => ifW t.xNot (catW (ByteArray.mk #[110, 111, 116, 32]) t4 (fun s20 => ifW (!(decide (t.xHi = t.xLo))) (catW s20 (ByteArray.mk #[45]) (fun s83 => L_spec_l3Number t.xHi (fun r84 => catW s83 r84 (fun s85 => κ s85)))) (κ s20))) (ifW (!(decide (t.xHi = t.xLo))) (catW t4 (ByteArray.mk #[45]) (fun s83 => L_spec_l3Number t.xHi (fun r84 => catW s83 r84 (fun s85 => κ s85)))) (κ t4)))))) :=
      S_l3Number a3 (by omega) (S_name a1 a2 (catW_B (m := [32]) (by simp; omega) (catW_B (by simp; omega) fin)))
    exact ⟨⟨S_name a1 a2 ⟨catW_B (m := [32]) (by simp; omega) (S_l3Number a3 (by omega) (catW_B (by simp; omega) fin)), S_l3Number a3 (by omega) (catW_B (m := [32]) (by simp; omega) (catW_B (by simp; omega) fin))⟩, z⟩, z⟩

end
section
open Go.Lib (decDigits)

/-- behind a test stands the end, or a comma -/
def Ends (r : List UInt8) : Prop := ∀ c m, r = c :: m → c = 44
theorem Ends.dg {r : List UInt8} (h : Ends r) : ∀ c m, r = c :: m → dg c = false := fun c m e => by rw [h c m e]; decide
end
section
open Go.Lib (decDigits)

/-! ### the laws -/
theorem eqTest_of {p q : GTest} {κ : Bool → Prop} (h : κ (decide (p = q))) : L_laws_eqTest p q κ := by
  unfold L_laws_eqTest
  by_cases e : p = q
  · subst e; simpa using h
  · rw [decide_eq_false e] at h
    refine ifW_of (fun _ => h) (fun h1 => ifW_of (fun _ => h) (fun h2 => ifW_of (fun _ => h) (fun h3 => ifW_of (fun _ => h) (fun h4 => ?_))))
    exfalso; apply e
    cases p; cases q; simp_all

end
section
open Go.Lib (decDigits)

/-- the word of an action -/
def aw (a : Int) : List UInt8 := if a = 1 then [97, 99, 99, 101, 112, 116] else if a = 2 then [100, 114, 111, 112] else if a = 3 then [99, 97, 108, 108] else if a = 4 then [114, 101, 116, 117, 114, 110] else [110, 111, 110, 101]
def TsV (ts : List GTest) : Prop := (∀ t, t ∈ ts → TV t) ∧ ts.length ≤ 6
instance (ts : List GTest) : Decidable (TsV ts) := by unfold TsV; infer_instance
def HV (a c : Int) : Prop := 1 ≤ a ∧ a ≤ 5 ∧ (a = 3 → 0 ≤ c ∧ c ≤ 4) ∧ (a ≠ 3 → c = 0)
instance (a c : Int) : Decidable (HV a c) := by unfold HV; infer_instance
def RV (r : GRule) : Prop := TsV r.xTests ∧ HV r.xAction r.xChain
instance (r : GRule) : Decidable (RV r) := by unfold RV; infer_instance
def hd (a c : Int) : List UInt8 := aw a ++ (if a = 3 then 32 :: decDigits c.toNat else [])
def tl (ts : List GTest) : List UInt8 := ts.flatMap (fun t => 44 :: 32 :: ttx t)
def rtx0 (r : GRule) : List UInt8 := hd r.xAction r.xChain ++ tl r.xTests
def rtext (r : GRule) : List UInt8 := if RV r then rtx0 r else []
theorem five {a : Int} (h0 : 1 ≤ a) (h1 : a ≤ 5) : a = 1 ∨ a = 2 ∨ a = 3 ∨ a = 4 ∨ a = 5 := by omega
theorem tl_cons (t : GTest) (ts : List GTest) : tl (t :: ts) = 44 :: 32 :: (ttx t ++ tl ts) := by simp [tl]
theorem tl_app (a b : List GTest) : tl (a ++ b) = tl a ++ tl b := by simp [tl]
theorem tl_len : ∀ (ts : List GTest), (∀ t, t ∈ ts → TV t) → (tl ts).length ≤ 25 * ts.length
  | [], _ => by simp [tl]
  | t :: ts, h => by
    have h1 := tl_len ts (fun x hx => h x (by simp [hx]))
    have h2 := ttx_len (h t (by simp))
    rw [tl_cons]; simp; omega
theorem aw_len (a : Int) : 4 ≤ (aw a).length ∧ (aw a).length ≤ 6 := by unfold aw; repeat' split
                                                                       all_goals simp
theorem hd_len {a c : Int} (h : HV a c) : (hd a c).length ≤ 13 := by
  have := aw_len a
  unfold hd; split
  · rename_i e
    have hc := h.2.2.1 e
    have := dec_le (n := c.toNat) (by omega)
    simp; omega
  · simp; omega
theorem rtx0_len {r : GRule} (h : RV r) : (rtx0 r).length ≤ 163 := by
  have h1 := hd_len h.2
  have h2 := tl_len _ h.1.1
  have := h.1.2
  simp [rtx0]; omega
theorem S_spec_TestsValid {ts : List GTest} {κ : Bool → Prop} (hl : ts.length ≤ 4294967296) (h : κ (decide (TsV ts))) : L_spec_TestsValid ts κ := by
  unfold L_spec_TestsValid
  refine count_loop ts.length (fun s => s) (fun k s => s = (k : Int) ∧ k ≤ ts.length ∧ ∀ t, t ∈ ts.take k → TV t) (fun k s h => h.1) (fun k s h => h.2.1) ?_ ⟨rfl, Nat.zero_le _, by simp⟩
  rintro k _ next ⟨rfl, hk, he⟩ hn
  refine ifW_of (fun hc => ?_) (fun hc => ?_)
  · have hlt : k < ts.length := by simpa using hc
    refine idxW_of k rfl hlt (S_spec_TestValid (ifW_of (fun hc2 => ?_) (fun hc2 => ?_)))
    · simp at hc2
      rw [decide_eq_false (fun hh : TsV ts => hc2 (hh.1 _ (List.getElem_mem hlt)))] at h; exact h
    · simp at hc2
      refine addW_of (by omega) (by omega) (hn hlt _ ⟨by omega, by omega, fun t ht => ?_⟩)
      rw [List.take_succ_eq_append_getElem hlt] at ht
      rcases List.mem_append.1 ht with ht | ht
      · exact he t ht
      · rw [List.mem_singleton] at ht; subst ht; exact hc2
  · have hge : ts.length ≤ k := by simpa using hc
    rw [List.take_of_length_le hge] at he
    rw [show decide ((ts.length : Int) ≤ 6) = decide (TsV ts) from decide_eq_decide.2 ⟨fun hh => ⟨he, by omega⟩, fun hh => by have := hh.2; omega⟩]
    exact h
theorem S_impl_TestsValid {ts : List GTest} {κ : Bool → Prop} (hl : ts.length ≤ 4294967296) (h : κ (decide (TsV ts))) : L_impl_TestsValid ts κ := by
  unfold L_impl_TestsValid
  refine ifW_of (fun hc => ?_) (fun hc => ?_)
  · rw [decide_eq_false (fun hh : TsV ts => by have := hh.2; simp at hc; omega)] at h; exact h
  simp at hc
  refine count_loop ts.length (fun s => s) (fun k s => s = (k : Int) ∧ k ≤ ts.length ∧ ∀ t, t ∈ ts.take k → TV t) (fun k s h => h.1) (fun k s h => h.2.1) ?_ ⟨rfl, Nat.zero_le _, by simp⟩
  rintro k _ next ⟨rfl, hk, he⟩ hn
  refine ifW_of (fun hc => ?_) (fun hc => ?_)
  · have hlt : k < ts.length := by simpa using hc
    refine idxW_of k rfl hlt (S_impl_TestValid (ifW_of (fun hc2 => ?_) (fun hc2 => ?_)))
    · simp at hc2
      rw [decide_eq_false (fun hh : TsV ts => hc2 (hh.1 _ (List.getElem_mem hlt)))] at h; exact h
    · simp at hc2
      refine addW_of (by omega) (by omega) (hn hlt _ ⟨by omega, by omega, fun t ht => ?_⟩)
      rw [List.take_succ_eq_append_getElem hlt] at ht
      rcases List.mem_append.1 ht with ht | ht
      · exact he t ht
      · rw [List.mem_singleton] at ht; subst ht; exact hc2
  · have hge : ts.length ≤ k := by simpa using hc
    rw [List.take_of_length_le hge] at he
    rw [show decide (TsV ts) = true from decide_eq_true ⟨he, by omega⟩] at h; exact h

theorem S_spec_RuleValid {r : GRule} {κ : Bool → Prop} (hl : r.xTests.length ≤ 4294967296) (h : κ (decide (RV r))) : L_spec_RuleValid r κ := by
  have no : ¬ RV r → κ false := fun hn => by rw [decide_eq_false hn] at h; exact h
  unfold L_spec_RuleValid jnW
  refine S_spec_TestsValid hl (ifW_of (fun h1 => ?_) (fun h1 => no (fun hh => by simp [hh.1] at h1)))
  simp at h1
  refine S_l1In (ifW_of (fun h2 => ?_) (fun h2 => no (fun hh => by simp [hh.2.1, hh.2.2.1] at h2)))
  simp at h2
  refine ifW_of (fun h3 => ?_) (fun h3 => ?_)
  · simp at h3
    refine S_l1In (ifW_of (fun h4 => ?_) (fun h4 => ?_))
    · simp at h4
      rw [show decide (RV r) = true from decide_eq_true ⟨h1, h2.1, h2.2, fun _ => h4, fun e => absurd h3 e⟩] at h; exact h
    · simp at h4
      simp only [h3, decide_true, Bool.not_true, ifW_false]
      exact no (fun hh => by have := hh.2.2.2.1 h3; omega)
  · simp at h3
    simp only [h3, decide_false, Bool.not_false, ifW_true]
    rw [show decide (r.xChain = 0) = decide (RV r) from decide_eq_decide.2 ⟨fun hh => ⟨h1, h2.1, h2.2, fun e => absurd e h3, fun _ => hh⟩, fun hh => hh.2.2.2.2 h3⟩]
    exact h
theorem S_impl_RuleValid {r : GRule} {κ : Bool → Prop} (hl : r.xTests.length ≤ 4294967296) (h : κ (decide (RV r))) : L_impl_RuleValid r κ := by
  have no : ¬ RV r → κ false := fun hn => by rw [decide_eq_false hn] at h; exact h
  unfold L_impl_RuleValid jnW
  refine S_impl_TestsValid hl (ifW_of (fun h1 => no (fun hh => by simp [hh.1] at h1)) (fun h1 => ?_))
  simp at h1
  refine ifW_of (fun h3 => ?_) (fun h3 => ?_)
  · simp at h3
    refine ifW_of (fun h4 => ?_) (fun h4 => no (fun hh => by have := hh.2.2.2.1 h3; simp at h4; omega))
    simp at h4
    rw [show decide (r.xChain < 5) = decide (RV r) from decide_eq_decide.2 ⟨fun hh => ⟨h1, by omega, by omega, fun _ => ⟨h4, by omega⟩, fun e => absurd h3 e⟩, fun hh => by have := hh.2.2.2.1 h3; omega⟩]
    exact h
  · simp at h3
    have yes : 1 ≤ r.xAction → r.xAction ≤ 5 → κ (decide (r.xChain = 0)) := fun a1 a2 => by
      rw [show decide (r.xChain = 0) = decide (RV r) from decide_eq_decide.2 ⟨fun hh => ⟨h1, a1, a2, fun e => absurd e h3, fun _ => hh⟩, fun hh => hh.2.2.2.2 h3⟩]
      exact h
    by_cases e1 : r.xAction = 1
    · simp only [e1, decide_true, ifW_true]; exact yes (by omega) (by omega)
    by_cases e2 : r.xAction = 2
    · simp only [e2, decide_true, ifW_true]; exact ifW_of (fun e => by simp at e) (fun _ => yes (by omega) (by omega))
    by_cases e4 : r.xAction = 4
    · simp only [e4, decide_true, ifW_true]
      exact ifW_of (fun e => by simp at e) (fun _ => ifW_of (fun e => by simp at e) (fun _ => yes (by omega) (by omega)))
    by_cases e5 : r.xAction = 5
    · simp only [e5, decide_true, ifW_true]
      exact ifW_of (fun e => by simp at e) (fun _ => ifW_of (fun e => by simp at e) (fun _ => ifW_of (fun e => by simp at e) (fun _ => yes (by omega) (by omega))))
    simp only [e1, e2, e4, e5, decide_false, ifW_false]
    exact no (fun hh => by have := hh.2.1; have := hh.2.2.1; omega)

/-- the tests behind the action -/
theorem S_itests {ts : List GTest} {acc : List UInt8} {κ : ByteArray → Prop} (hv : ∀ t, t ∈ ts → TV t) (hl : ts.length ≤ 6) (ha : acc.length ≤ 100) (h : κ (B (acc ++ tl ts))) :
    loopW (fun (nx81 : (ByteArray × Int) → Prop) ((t79, t80) : (ByteArray × Int)) => ifW (decide (t80 < (ts.length : Int))) (idxW ts t80 (fun e82 => L_impl_Test_text e82 (fun r86 => catW (ByteArray.mk #[44, 32]) r86 (fun s87 => catW t79 s87 (fun s88 => addW t80 1 (fun t89 => nx81 (s88, t89))))))) (κ t79)) (B acc, 0) := by
  refine count_loop ts.length (fun s => s.2) (fun k s => s = (B (acc ++ tl (ts.take k)), (k : Int)) ∧ k ≤ ts.length) (fun k s h => by rw [h.1]) (fun k s h => h.2) ?_ ⟨by simp [tl], Nat.zero_le _⟩
  rintro k _ next ⟨rfl, hk⟩ hn
  have htl := tl_len (ts.take k) (fun t ht => hv t (List.mem_of_mem_take ht))
  simp only [List.length_take] at htl
  refine ifW_of (fun hc => ?_) (fun hc => ?_)
  · have hlt : k < ts.length := by simpa using hc
    have htv := hv _ (List.getElem_mem hlt)
    have htt := ttx_len htv
    refine idxW_of k rfl hlt (S_impl_Test_text htv (catW_B (l := [44, 32]) (by simp; omega) (catW_B (by simp; omega) (addW_of (by omega) (by omega) (hn hlt _ ⟨?_, by omega⟩)))))
    rw [List.take_succ_eq_append_getElem hlt, tl_app]
    simp [tl]
  · have hge : ts.length ≤ k := by simpa using hc
    rw [List.take_of_length_le hge]; exact h
theorem S_stests {ts : List GTest} {acc : List UInt8} {κ : ByteArray → Prop} (hv : ∀ t, t ∈ ts → TV t) (hl : ts.length ≤ 6) (ha : acc.length ≤ 100) (h : κ (B (acc ++ tl ts))) :
    loopW (fun (nx81 : (ByteArray × Int) → Prop) ((t79, t80) : (ByteArray × Int)) => ifW (decide (t80 < (ts.length : Int))) (catW t79 (ByteArray.mk #[44, 32]) (fun s82 => idxW ts t80 (fun e83 => L_spec_TestText e83 (fun r85 => catW s82 r85 (fun s86 => addW t80 1 (fun t87 => nx81 (s86, t87))))))) (κ t79)) (B acc, 0) := by
  refine count_loop ts.length (fun s => s.2) (fun k s => s = (B (acc ++ tl (ts.take k)), (k : Int)) ∧ k ≤ ts.length) (fun k s h => by rw [h.1]) (fun k s h => h.2) ?_ ⟨by simp [tl], Nat.zero_le _⟩
  rintro k _ next ⟨rfl, hk⟩ hn
  have htl := tl_len (ts.take k) (fun t ht => hv t (List.mem_of_mem_take ht))
  simp only [List.length_take] at htl
  refine ifW_of (fun hc => ?_) (fun hc => ?_)
  · have hlt : k < ts.length := by simpa using hc
    have htv := hv _ (List.getElem_mem hlt)
    have htt := ttx_len htv
    refine catW_B (m := [44, 32]) (by simp; omega) (idxW_of k rfl hlt (S_spec_TestText ?_))
    rw [ttext, if_pos htv]
    refine catW_B (by simp; omega) (addW_of (by omega) (by omega) (hn hlt _ ⟨?_, by omega⟩))
    rw [List.take_succ_eq_append_getElem hlt, tl_app]
    simp [tl]
  · have hge : ts.length ≤ k := by simpa using hc
    rw [List.take_of_length_le hge]; exact h
theorem S_impl_Rule_text {r : GRule} {κ : ByteArray → Prop} (hv : RV r) (h : κ (B (rtx0 r))) : L_impl_Rule_text r κ := by
  obtain ⟨⟨v1, v2⟩, v3, v4, v5, v6⟩ := id hv
  unfold L_impl_Rule_text L_impl_actionOf
  have key : ∀ w : List UInt8, w.length ≤ 30 → hd r.xAction r.xChain = w → loopW (fun (nx81 : (ByteArray × Int) → Prop) ((t79, t80) : (ByteArray × Int)) => ifW (decide (t80 < (r.xTests.length : Int))) (idxW r.xTests t80 (fun e82 => L_impl_Test_text e82 (fun r86 => catW (ByteArray.mk #[44, 32]) r86 (fun s87 => catW t79 s87 (fun s88 => addW t80 1 (fun t89 => nx81 (s88, t89))))))) (κ t79)) (B w, 0) :=
    fun w hw e => S_itests v1 v2 (by omega) (by rw [← e]; exact h)
  rcases five v3 v4 with e | e | e | e | e
  · simp only [e, decide_true, ifW_true, IAction.casesW, L_impl_deciding_word, jnW]
    refine ifW_of (fun x => by simp at x) (fun _ => key [97, 99, 99, 101, 112, 116] (by simp) (by simp [hd, aw, e]))
  · simp only [e, decide_true, ifW_true, IAction.casesW, L_impl_deciding_word, jnW]
    refine ifW_of (fun x => by simp at x) (fun _ => ?_)
    simp only [ifW_false]
    refine ifW_of (fun x => by simp at x) (fun _ => key [100, 114, 111, 112] (by simp) (by simp [hd, aw, e]))
  · have hc := v5 e
    have hd1 := dec_le (n := r.xChain.toNat) (by omega)
    simp only [e, decide_true, ifW_true, IAction.casesW, L_impl_calling_word, jnW]
    refine ifW_of (fun x => by simp at x) (fun _ => ifW_of (fun x => by simp at x) (fun _ => ?_))
    refine S_itoa (by omega) (by omega) (catW_B (l := [32]) (by simp; omega) (catW_B (l := [99, 97, 108, 108]) (by simp; omega) (key ([99, 97, 108, 108] ++ ([32] ++ decDigits r.xChain.toNat)) (by simp; omega) (by simp [hd, aw, e]))))
  · simp only [e, decide_true, ifW_true, IAction.casesW, L_impl_returning_word, jnW]
    refine ifW_of (fun x => by simp at x) (fun _ => ifW_of (fun x => by simp at x) (fun _ => ifW_of (fun x => by simp at x) (fun _ => ?_)))
    refine ifW_of (fun x => by simp at x) (fun _ => key [114, 101, 116, 117, 114, 110] (by simp) (by simp [hd, aw, e]))
  · simp only [e, decide_true, ifW_true, IAction.casesW, L_impl_passing_word, jnW]
    refine ifW_of (fun x => by simp at x) (fun _ => ifW_of (fun x => by simp at x) (fun _ => ifW_of (fun x => by simp at x) (fun _ => ifW_of (fun x => by simp at x) (fun _ => ?_))))
    refine ifW_of (fun x => by simp at x) (fun _ => key [110, 111, 110, 101] (by simp) (by simp [hd, aw, e]))
theorem S_aw {a : Int} {κ : ByteArray → Prop} (h0 : 1 ≤ a) (h1 : a ≤ 5) (h : κ (B (aw a))) : idxW ([(ByteArray.mk #[97, 99, 99, 101, 112, 116]), (ByteArray.mk #[100, 114, 111, 112]), (ByteArray.mk #[99, 97, 108, 108]), (ByteArray.mk #[114, 101, 116, 117, 114, 110]), (ByteArray.mk #[110, 111, 110, 101])]) (a - 1) κ := by
  rcases five h0 h1 with rfl | rfl | rfl | rfl | rfl
  · exact idxW_of 0 rfl (by decide) h
  · exact idxW_of 1 rfl (by decide) h
  · exact idxW_of 2 rfl (by decide) h
  · exact idxW_of 3 rfl (by decide) h
  · exact idxW_of 4 rfl (by decide) h
theorem S_spec_RuleText {r : GRule} {κ : ByteArray → Prop} (hl : r.xTests.length ≤ 4294967296) (h : κ (B (rtext r))) : L_spec_RuleText r κ := by
  unfold L_spec_RuleText
  refine S_spec_RuleValid hl (ifW_of (fun hc => ?_) (fun hc => ?_))
  · simp at hc; rw [rtext, if_neg hc] at h; exact h
  · simp at hc; rw [rtext, if_pos hc] at h
    obtain ⟨⟨v1, v2⟩, v3, v4, v5, v6⟩ := id hc
    have hal := aw_len r.xAction
    refine subW_of (by omega) (by omega) (S_aw v3 v4 ?_)
    unfold jnW
    refine ifW_of (fun hc2 => ?_) (fun hc2 => ?_)
    · simp at hc2
      have hcc := v5 hc2
      have hd1 := dec_le (n := r.xChain.toNat) (by omega)
      refine catW_B (m := [32]) (by simp; omega) (S_l3Number (by omega) (by omega) (catW_B (by simp; omega) (S_stests v1 v2 (by simp; omega) ?_)))
      simpa [rtx0, hd, hc2] using h
    · simp at hc2
      refine S_stests v1 v2 (by omega) ?_
      simpa [rtx0, hd, hc2] using h


end
section
open Go.Lib (decDigits)

theorem eqTestS_self {a : List GTest} {κ : Bool → Prop} (hl : a.length ≤ 4294967296) (h : κ true) : L_laws_eqTestS a a κ := by
  unfold L_laws_eqTestS
  refine ifW_of (fun hc => by simp at hc) (fun _ => ?_)
  refine eq_loop a a rfl hl (fun x y A => L_laws_eqTest x y (fun r11 => ifW (!r11) (κ false) A)) (fun x y A h1 h2 => eqTest_of ?_) (by simpa using h) _ (fun nx t hh => hh)
  by_cases e : x = y
  · rw [decide_eq_true e]; simp only [Bool.not_true, ifW_false]; exact h1 e
  · rw [decide_eq_false e]; simp only [Bool.not_false, ifW_true]; exact h2 e
theorem eqRule_self {r : GRule} {κ : Bool → Prop} (hl : r.xTests.length ≤ 4294967296) (h : κ true) : L_laws_eqRule r r κ := by
  unfold L_laws_eqRule
  refine eqTestS_self hl ?_
  simpa using h
theorem toTestS_of {a : List GTest} {κ : List GTest → Prop} (hl : a.length ≤ 4294967296) (h : κ a) : L_laws_toTestS a κ := by
  unfold L_laws_toTestS L_laws_toTest
  refine makeW_of a.length rfl (by omega) (by omega) (copy_loop a id hl (fun x ψ => ψ x) (fun x ψ _ hh => hh) (by simpa using h) (by simp) _ (fun nx xs t hh => hh))
theorem toRule_of {r : GRule} {κ : GRule → Prop} (hl : r.xTests.length ≤ 4294967296) (h : κ r) : L_laws_toRule r κ := by
  unfold L_laws_toRule
  exact toTestS_of hl h
/-- the mark of a test -/
def mkT (k : Int) : GTest := GTest.mk k (k + 1) (k + 2) (decide ((k + 3) % 3 = 0))

end
section


/-- chain i calls chain j -/
def Ca (cs : List (List GRule)) (i j : Nat) : Prop := ∃ c, cs[i]? = some c ∧ ∃ r, r ∈ c ∧ r.xAction = 3 ∧ r.xChain = (j : Int)
/-- no call leads back, from i on -/
def Sf (cs : List (List GRule)) (i : Nat) : Prop := Acc (fun j i => Ca cs i j) i
theorem sf_of {cs : List (List GRule)} {i : Nat} (h : ∀ j, Ca cs i j → Sf cs j) : Sf cs i := Acc.intro _ h
/-- a way by calls, at least one -/
inductive Wy (cs : List (List GRule)) : Nat → Nat → Prop
  | one {i j : Nat} : Ca cs i j → Wy cs i j
  | more {i j k : Nat} : Wy cs i j → Ca cs j k → Wy cs i k
theorem wy_first {cs : List (List GRule)} {i k : Nat} (w : Wy cs i k) : ∃ j, Ca cs i j ∧ (j = k ∨ Wy cs j k) := by
  induction w with
  | one h => exact ⟨_, h, .inl rfl⟩
  | more _ h ih =>
    obtain ⟨j, h1, h2⟩ := ih
    rcases h2 with rfl | h2
    · exact ⟨_, h1, .inr (.one h)⟩
    · exact ⟨_, h1, .inr (.more h2 h)⟩
theorem wy_loop {cs : List (List GRule)} {i : Nat} (hs : Sf cs i) : ¬ Wy cs i i := by
  induction hs with
  | intro x _ ih =>
    intro w
    obtain ⟨j, h1, h2⟩ := wy_first w
    rcases h2 with rfl | h2
    · exact ih _ h1 w
    · exact ih j h1 (.more h2 h1)

/-- every rule of every chain is valid, and calls a chain that is there -/
def Tg (cs : List (List GRule)) : Prop := cs.length ≤ 5 ∧ ∀ c, c ∈ cs → (c.length ≤ 8 ∧ ∀ r, r ∈ c → RV r ∧ r.xChain < cs.length)

/-- the same, whatever is called -/
def Tw (cs : List (List GRule)) : Prop := cs.length ≤ 5 ∧ ∀ c, c ∈ cs → (c.length ≤ 8 ∧ ∀ r, r ∈ c → RV r)
theorem Tg.w {cs : List (List GRule)} (h : Tg cs) : Tw cs := ⟨h.1, fun c hc => ⟨(h.2 c hc).1, fun r hr => ((h.2 c hc).2 r hr).1⟩⟩
theorem sf_out {cs : List (List GRule)} {j : Nat} (h : cs.length ≤ j) : Sf cs j := sf_of (fun i ⟨c, h1, _⟩ => by have := (List.getElem?_eq_some_iff.1 h1).1; omega)
/-- the chains that a chain calls -/
theorem S_callsIn {rules : List GRule} {κ : List Int → Prop} (hl : rules.length ≤ 8) (hv : ∀ r, r ∈ rules → RV r) (h : ∀ ys : List Int, ys.length ≤ 5 → (∀ x, x ∈ ys ↔ ∃ r, r ∈ rules ∧ r.xAction = 3 ∧ r.xChain = x) → κ ys) : L_impl_callsIn rules κ := by
  unfold L_impl_callsIn
  refine count_loop rules.length (fun s => s.2) (fun k s => s.2 = (k : Int) ∧ k ≤ rules.length ∧ s.1.length = 5 ∧ ∀ i : Nat, i < 5 → (s.1[i]? = some true ↔ ∃ r, r ∈ rules.take k ∧ r.xAction = 3 ∧ r.xChain = (i : Int))) (fun k s h => h.1) (fun k s h => h.2.1) ?_ ⟨rfl, Nat.zero_le _, rfl, fun i hi => ?_⟩
  · rintro k ⟨xs, _⟩ next ⟨rfl, hk, hx, he⟩ hn
    simp only at hx he
    refine ifW_of (fun hc => ?_) (fun hc => ?_)
    · have hlt : k < rules.length := by simpa using hc
      have hrv := hv _ (List.getElem_mem hlt)
      have htk : ∀ r, r ∈ rules.take (k + 1) ↔ r ∈ rules.take k ∨ r = rules[k] := fun r => by
        rw [List.take_succ_eq_append_getElem hlt, List.mem_append, List.mem_singleton]
      unfold jnW
      refine idxW_of k rfl hlt (ifW_of (fun h3 => ?_) (fun h3 => ?_))
      · simp at h3
        have hch := hrv.2.2.2.1 h3
        obtain ⟨m, hm⟩ := Int.eq_ofNat_of_zero_le hch.1
        refine idxW_any hch.1 (by rw [hx]; omega) (fun _ _ => addW_of (by omega) (by omega) (hn hlt _ ⟨by simp, by omega, by simpa using hx, fun i hi => ?_⟩))
        simp only [htk]
        rw [hm, Int.toNat_natCast]
        by_cases e : i = m
        · subst e
          simp only [List.getElem?_set_self (show i < xs.length by omega), true_iff]
          exact ⟨_, .inr rfl, h3, hm⟩
        · rw [List.getElem?_set_ne (by omega), he i hi]
          constructor
          · rintro ⟨r, h1, h2⟩; exact ⟨r, .inl h1, h2⟩
          · rintro ⟨r, h1 | rfl, h2, h4⟩
            · exact ⟨r, h1, h2, h4⟩
            · omega
      · simp at h3
        refine addW_of (by omega) (by omega) (hn hlt _ ⟨by simp, by omega, hx, fun i hi => ?_⟩)
        simp only [htk]
        rw [he i hi]
        constructor
        · rintro ⟨r, h1, h2⟩; exact ⟨r, .inl h1, h2⟩
        · rintro ⟨r, h1 | rfl, h2, h4⟩
          · exact ⟨r, h1, h2, h4⟩
          · exact absurd h2 h3
    · have hge : rules.length ≤ k := by simpa using hc
      rw [List.take_of_length_le hge] at he
      obtain ⟨e0, e1, e2, e3, e4, rfl⟩ : ∃ a b c d e, xs = [a, b, c, d, e] := by
        match xs, hx with
        | [a, b, c, d, e], _ => exact ⟨a, b, c, d, e, rfl⟩
      refine ⟨e0, e1, e2, e3, e4, rfl, ?_⟩
      refine count_loop 5 (fun s => s.2) (fun j s => s.2 = (j : Int) ∧ j ≤ 5 ∧ s.1.length ≤ j ∧ ∀ x, x ∈ s.1 ↔ ∃ i : Nat, i < j ∧ x = (i : Int) ∧ [e0, e1, e2, e3, e4][i]? = some true) (fun j s h => h.1) (fun j s h => h.2.1) ?_ ⟨rfl, Nat.zero_le _, by simp, by simp⟩
      rintro j ⟨ys, _⟩ next2 ⟨rfl, hj, hyl, hy⟩ hn2
      simp only at hyl hy
      refine ifW_of (fun hc2 => ?_) (fun hc2 => ?_)
      · have hj5 : j < 5 := by simp at hc2; omega
        have hjl : j < [e0, e1, e2, e3, e4].length := by simpa using hj5
        unfold jnW
        refine idxW_of j rfl hjl (ifW_of (fun h3 => ?_) (fun h3 => ?_))
        · refine appW_of (by simp; omega) (addW_of (by omega) (by omega) (hn2 hj5 _ ⟨by simp, by omega, by simp; omega, fun x => ?_⟩))
          simp only [List.mem_append, List.mem_singleton, hy]
          constructor
          · rintro (⟨i, h1, h2, h4⟩ | rfl)
            · exact ⟨i, by omega, h2, h4⟩
            · exact ⟨j, by omega, rfl, by rw [List.getElem?_eq_getElem hjl, h3]⟩
          · rintro ⟨i, h1, h2, h4⟩
            by_cases e : i = j
            · subst e; exact .inr h2
            · exact .inl ⟨i, by omega, h2, h4⟩
        · refine addW_of (by omega) (by omega) (hn2 hj5 _ ⟨by simp, by omega, by simp only; omega, fun x => ?_⟩)
          simp only [hy]
          constructor
          · rintro ⟨i, h1, h2, h4⟩; exact ⟨i, by omega, h2, h4⟩
          · rintro ⟨i, h1, h2, h4⟩
            by_cases e : i = j
            · subst e; rw [List.getElem?_eq_getElem hjl, h3] at h4; simp at h4
            · exact ⟨i, by omega, h2, h4⟩
      · have hj5 : j = 5 := by simp at hc2; omega
        subst hj5
        refine h ys hyl (fun x => ?_)
        rw [hy]
        constructor
        · rintro ⟨i, h1, rfl, h4⟩; exact (he i h1).1 h4
        · rintro ⟨r, h1, h2, rfl⟩
          have hch := (hv r h1).2.2.2.1 h2
          obtain ⟨m, hm⟩ := Int.eq_ofNat_of_zero_le hch.1
          exact ⟨m, by omega, hm, (he m (by omega)).2 ⟨r, h1, h2, hm⟩⟩
  · constructor
    · intro hh
      have : i = 0 ∨ i = 1 ∨ i = 2 ∨ i = 3 ∨ i = 4 := by omega
      rcases this with rfl | rfl | rfl | rfl | rfl <;> simp at hh
    · rintro ⟨r, h1, _⟩; simp at h1

/-- the colours -/
def Co (cols : List Int) : Prop := cols.length = 5 ∧ ∀ x, x ∈ cols → x = 0 ∨ x = 1 ∨ x = 2
theorem co_set {cols : List Int} {i : Nat} {v : Int} (h : Co cols) (hv : v = 0 ∨ v = 1 ∨ v = 2) : Co (cols.set i v) := ⟨by rw [List.length_set]; exact h.1, fun x hx => by
  rcases List.mem_or_eq_of_mem_set hx with hx | rfl
  · exact h.2 x hx
  · exact hv⟩
/-- what a visit of c does to the colours -/
structure Vi (cs : List (List GRule)) (c : Nat) (cols : List Int) (ok : Bool) (cols' : List Int) : Prop where
  co : Co cols'
  black : ∀ i : Nat, cols[i]? = some 2 → cols'[i]? = some 2
  grey : ∀ i : Nat, cols'[i]? = some 1 ↔ cols[i]? = some 1
  white : cols'.count 0 ≤ cols.count 0
  good : ok = true → (∀ i : Nat, cols[i]? = some 2 → Sf cs i) → (∀ i : Nat, cols'[i]? = some 2 → Sf cs i) ∧ (c < cs.length → cols'[c]? = some 2)
  bad : ok = false → (∀ g : Nat, cols[g]? = some 1 → Wy cs g c) → ∃ i, i < cs.length ∧ ¬ Sf cs i

theorem count_le5 {cols : List Int} (h : cols.length = 5) : cols.count 0 ≤ 5 := by have := List.count_le_length (a := (0 : Int)) (l := cols); omega
theorem S_visitR {cs : List (List GRule)} (ht : Tw cs) : ∀ (n c : Nat) (cols : List Int) (κ : Bool × List Int → Prop), Co cols → cols.count 0 < n →
    (∀ ok cols', Vi cs c cols ok cols' → κ (ok, cols')) → R_impl_visitCalls n cs (c : Int) cols κ
  | 0, c, cols, κ, hco, hw, h => by omega
  | n + 1, c, cols, κ, hco, hw, h => by
    have hn5 := ht.1
    show B_impl_visitCalls (R_impl_visitCalls n) cs (c : Int) cols κ
    unfold B_impl_visitCalls
    refine ifW_of (fun hx => h _ _ ⟨hco, fun i hi => hi, fun i => Iff.rfl, Nat.le_refl _, fun _ hb => ⟨hb, fun hlt => by simp at hx; omega⟩, fun e => by cases e⟩) (fun hx => ?_)
    have hc : c < cs.length := by simp at hx; omega
    have hcl : c < cols.length := by rw [hco.1]; omega
    refine idxW_of c rfl hcl (ifW_of (fun h1 => ?_) (fun h1 => ifW_of (fun h2 => ?_) (fun h2 => ?_)))
    · have e1 : cols[c]? = some 1 := by rw [List.getElem?_eq_getElem hcl]; simpa using h1
      exact h _ _ ⟨hco, fun i hi => hi, fun i => Iff.rfl, Nat.le_refl _, fun e => (by cases e), fun _ hg => ⟨c, hc, fun hs => wy_loop hs (hg c e1)⟩⟩
    · have e2 : cols[c]? = some 2 := by rw [List.getElem?_eq_getElem hcl]; simpa using h2
      exact h _ _ ⟨hco, fun i hi => hi, fun i => Iff.rfl, Nat.le_refl _, fun _ hb => ⟨hb, fun _ => e2⟩, fun e => by cases e⟩
    · have e0 : cols[c] = 0 := by
        have := hco.2 _ (List.getElem_mem hcl)
        simp at h1 h2; omega
      have e0' : cols[c]? = some 0 := by rw [List.getElem?_eq_getElem hcl, e0]
      have hcs : cs[c]? = some cs[c] := List.getElem?_eq_getElem hc
      have hch := ht.2 _ (List.getElem_mem hc)
      refine idxW_of c rfl hcl (idxW_of c rfl hc (S_callsIn hch.1 hch.2 (fun ys hyl hys => ?_)))
      have hca : ∀ j : Nat, Ca cs c j ↔ (j : Int) ∈ ys := fun j => by
        rw [hys]
        constructor
        · rintro ⟨c', h1, r, h2, h3⟩
          rw [hcs] at h1; cases h1
          exact ⟨r, h2, h3⟩
        · rintro ⟨r, h2, h3⟩; exact ⟨_, hcs, r, h2, h3⟩
      have hcount : (cols.set c 1).count 0 + 1 = cols.count 0 := by
        rw [List.count_set hcl]
        have : 0 < cols.count 0 := List.count_pos_iff.2 (by rw [← e0]; exact List.getElem_mem hcl)
        simp [e0]; omega
      have set1 : ∀ i : Nat, (cols.set c 1)[i]? = if i = c then some 1 else cols[i]? := fun i => by
        by_cases e : i = c
        · subst e; simp [hcl]
        · rw [List.getElem?_set_ne (by omega), if_neg e]
      refine count_loop ys.length (fun s => s.2.2) (fun k s => s.2.2 = (k : Int) ∧ k ≤ ys.length ∧ Co s.1 ∧ (∀ i : Nat, cols[i]? = some 2 → s.1[i]? = some 2) ∧ (∀ i : Nat, s.1[i]? = some 1 ↔ (cols.set c 1)[i]? = some 1) ∧ s.1.count 0 ≤ (cols.set c 1).count 0 ∧
        (s.2.1 = true → (∀ i : Nat, cols[i]? = some 2 → Sf cs i) → (∀ i : Nat, s.1[i]? = some 2 → Sf cs i) ∧ ∀ j : Nat, (j : Int) ∈ ys.take k → j < cs.length → s.1[j]? = some 2) ∧
        (s.2.1 = false → (∀ g : Nat, cols[g]? = some 1 → Wy cs g c) → ∃ i, i < cs.length ∧ ¬ Sf cs i)) (fun k s h => h.1) (fun k s h => h.2.1) ?_
        ⟨rfl, Nat.zero_le _, co_set hco (by simp), fun i hi => ?_, fun i => Iff.rfl, Nat.le_refl _, fun _ hb => ⟨fun i hi => ?_, by simp⟩, fun e => by cases e⟩
      · rintro k ⟨X, ok, _⟩ next ⟨rfl, hk, xco, xb, xg, xw, xgood, xbad⟩ hnx
        simp only at xco xb xg xw xgood xbad
        refine ifW_of (fun hlt => ?_) (fun hlt => ?_)
        · have hlt : k < ys.length := by simpa using hlt
          obtain ⟨r, hr, hr3, hrc⟩ := (hys ys[k]).1 (List.getElem_mem hlt)
          have hrv := hch.2 r hr
          have hcc := hrv.2.2.2.1 hr3
          obtain ⟨j, hj⟩ := Int.eq_ofNat_of_zero_le hcc.1
          have ej : ys[k] = (j : Int) := by omega
          have hcj : Ca cs c j := ⟨_, hcs, r, hr, hr3, hj⟩
          unfold jnW
          refine idxW_of k rfl hlt ?_
          rw [ej]
          refine S_visitR ht n j X _ xco (by omega) (fun ok' X' v => ?_)
          have fin : ∀ o : Bool, (o = true → ok = true ∧ ok' = true) → (o = false → ok = false ∨ ok' = false) → addW (k : Int) 1 (fun t93 => next (X', o, t93)) := by
            intro o ho1 ho2
            refine addW_of (by omega) (by omega) (hnx hlt _ ⟨by simp, by omega, v.co, fun i hi => v.black i (xb i hi), fun i => (v.grey i).trans (xg i), Nat.le_trans v.white xw, fun e hb => ?_, fun e hg => ?_⟩)
            · obtain ⟨g1, g2⟩ := ho1 e
              obtain ⟨q1, q2⟩ := xgood g1 hb
              obtain ⟨q3, q4⟩ := v.good g2 q1
              refine ⟨q3, fun i hi hil => ?_⟩
              rw [List.take_succ_eq_append_getElem hlt, List.mem_append, List.mem_singleton] at hi
              rcases hi with hi | hi
              · exact v.black i (q2 i hi hil)
              · have : i = j := by omega
                subst this; exact q4 hil
            · rcases ho2 e with e1 | e1
              · exact xbad e1 hg
              · refine v.bad e1 (fun g hgx => ?_)
                rw [xg, set1] at hgx
                by_cases e2 : g = c
                · subst e2; exact .one hcj
                · rw [if_neg e2] at hgx; exact .more (hg g hgx) hcj
          refine ifW_of (fun e => fin false (fun e => by cases e) (fun _ => .inr (by simpa using e))) (fun e => fin ok (fun e1 => ⟨e1, by simpa using e⟩) (fun e1 => .inl e1))
        · have hge : ys.length ≤ k := by simpa using hlt
          rw [List.take_of_length_le hge] at xgood
          have hxl : c < X.length := by rw [xco.1]; omega
          have set2 : ∀ i : Nat, (X.set c 2)[i]? = if i = c then some 2 else X[i]? := fun i => by
            by_cases e : i = c
            · subst e; simp [hxl]
            · rw [List.getElem?_set_ne (by omega), if_neg e]
          have xc1 : X[c]? = some 1 := by rw [xg, set1, if_pos rfl]
          refine idxW_of c rfl hxl ?_
          rw [Int.toNat_natCast]
          refine h _ _ ⟨co_set xco (by simp), fun i hi => ?_, fun i => ?_, ?_, fun e hb => ?_, fun e hg => xbad e hg⟩
          · rw [set2]; split
            · rfl
            · exact xb i hi
          · rw [set2]
            by_cases e : i = c
            · subst e; rw [if_pos rfl, e0']; simp
            · rw [if_neg e, xg, set1, if_neg e]
          · rw [List.count_set hxl]
            have : X[c] = 1 := by rw [List.getElem?_eq_getElem hxl] at xc1; exact Option.some.inj xc1
            simp [this]; omega
          · obtain ⟨q1, q2⟩ := xgood e hb
            have sc : Sf cs c := sf_of (fun j hj => by
              by_cases hjl : j < cs.length
              · exact q1 j (q2 j ((hca j).1 hj) hjl)
              · exact sf_out (by omega))
            refine ⟨fun i hi => ?_, fun _ => by rw [set2, if_pos rfl]⟩
            rw [set2] at hi
            by_cases e : i = c
            · subst e; exact sc
            · rw [if_neg e] at hi; exact q1 i hi
      · show (cols.set c 1)[i]? = some 2
        rw [set1]
        by_cases e : i = c
        · subst e; rw [e0'] at hi; simp at hi
        · rw [if_neg e]; exact hi
      · change (cols.set c 1)[i]? = some 2 at hi
        rw [set1] at hi
        by_cases e : i = c
        · subst e; simp at hi
        · rw [if_neg e] at hi; exact hb i hi
theorem S_acyclic {cs : List (List GRule)} {κ : Bool → Prop} (ht : Tw cs) (h1 : (∀ i, i < cs.length → Sf cs i) → κ true) (h2 : (¬ ∀ i, i < cs.length → Sf cs i) → κ false) : L_impl_acyclic cs κ := by
  unfold L_impl_acyclic
  have hn5 := ht.1
  refine count_loop cs.length (fun s => s.2) (fun k s => s.2 = (k : Int) ∧ k ≤ cs.length ∧ Co s.1 ∧ (∀ i : Nat, s.1[i]? ≠ some 1) ∧ (∀ i : Nat, s.1[i]? = some 2 → Sf cs i) ∧ (∀ i : Nat, i < k → s.1[i]? = some 2)) (fun k s h => h.1) (fun k s h => h.2.1) ?_ ⟨rfl, Nat.zero_le _, ⟨rfl, by simp⟩, fun i => ?_, fun i hi => ?_, fun i hi => by omega⟩
  · rintro k ⟨X, _⟩ next ⟨rfl, hk, xco, xg, xs, xk⟩ hn
    simp only at xco xg xs xk
    refine ifW_of (fun hc => ?_) (fun hc => ?_)
    · have hlt : k < cs.length := by simpa using hc
      refine ⟨6, S_visitR ht 6 k X _ xco (by have := count_le5 xco.1; omega) (fun ok X' v => ?_)⟩
      refine ifW_of (fun e => h2 (fun hall => ?_)) (fun e => addW_of (by omega) (by omega) (hn hlt _ ⟨by simp, by omega, v.co, fun i hi => xg i ((v.grey i).1 hi), (v.good (by simpa using e) xs).1, fun i hi => ?_⟩))
      · obtain ⟨i, hi, hns⟩ := v.bad (by simpa using e) (fun g hg => absurd hg (xg g))
        exact hns (hall i hi)
      · by_cases e2 : i = k
        · subst e2; exact (v.good (by simpa using e) xs).2 hlt
        · exact v.black i (xk i (by omega))
    · have hge : cs.length ≤ k := by simpa using hc
      exact h1 (fun i hi => xs i (xk i (by omega)))
  · have : i = 0 ∨ i = 1 ∨ i = 2 ∨ i = 3 ∨ i = 4 ∨ 5 ≤ i := by omega
    rcases this with rfl | rfl | rfl | rfl | rfl | h <;> simp
    rw [List.getElem?_eq_none (by simpa using h)]; simp
  · have : i = 0 ∨ i = 1 ∨ i = 2 ∨ i = 3 ∨ i = 4 ∨ 5 ≤ i := by omega
    rcases this with rfl | rfl | rfl | rfl | rfl | h
    · simp at hi
    · simp at hi
    · simp at hi
    · simp at hi
    · simp at hi
    · rw [List.getElem?_eq_none (by simpa using h)] at hi; cases hi


end
section


/-- all that i calls is done -/
def Rdy (cs : List (List GRule)) (D : List Bool) (i : Nat) : Prop := ∀ j, Ca cs i j → D[j]? = some true
theorem ca_lt {cs : List (List GRule)} (ht : Tg cs) {i j : Nat} (h : Ca cs i j) : i < cs.length ∧ j < cs.length := by
  obtain ⟨c, h1, r, h2, h3, h4⟩ := h
  have hm := List.mem_of_getElem? h1
  have := (ht.2 c hm).2 r h2
  exact ⟨(List.getElem?_eq_some_iff.1 h1).1, by have := this.2; omega⟩
theorem stuck_sf {cs : List (List GRule)} (ht : Tg cs) {D : List Bool} (hst : ∀ i, i < cs.length → Rdy cs D i → D[i]? = some true) {i : Nat} (hs : Sf cs i) : i < cs.length → D[i]? = some true := by
  induction hs with
  | intro x _ ih => exact fun hx => hst x hx (fun j hj => ih j hj (ca_lt ht hj).2)
theorem count_all {D : List Bool} (h : ∀ i, i < D.length → D[i]? = some true) : D.count true = D.length := by
  rw [List.count_eq_length]
  intro b hb
  obtain ⟨i, hi⟩ := List.getElem?_of_mem hb
  have := h i (List.getElem?_eq_some_iff.1 hi).1
  rw [hi] at this; exact (Option.some.inj this).symm
theorem all_count {D : List Bool} (h : D.count true = D.length) {i : Nat} (hi : i < D.length) : D[i]? = some true := by
  rw [List.getElem?_eq_getElem hi]
  exact congrArg some (List.count_eq_length.1 h _ (List.getElem_mem hi)).symm

theorem S_l8Order {s : GRuleset} {κ : List Int → Prop} (ht : Tg s.xChains) (h1 : (∀ i, i < s.xChains.length → Sf s.xChains i) → ∀ ys : List Int, ys.length = s.xChains.length → κ ys) (h2 : (¬ ∀ i, i < s.xChains.length → Sf s.xChains i) → ∀ ys : List Int, ys.length ≠ s.xChains.length → κ ys) : L_spec_l8Order s κ := by
  have hn5 := ht.1
  generalize hcs : s.xChains = cs at *
  unfold L_spec_l8Order
  rw [hcs]
  refine makeW_of cs.length rfl (by omega) (by omega) ?_
  refine count_loop cs.length (fun s => s.2.2) (fun k s => s.2.2 = (k : Int) ∧ k ≤ cs.length ∧ s.1.length = cs.length ∧ s.2.1.length = s.1.count true ∧ (∀ i : Nat, s.1[i]? = some true → Sf cs i) ∧ (k ≤ s.1.count true ∨ ∀ i, i < cs.length → Rdy cs s.1 i → s.1[i]? = some true)) (fun k s h => h.1) (fun k s h => h.2.1) ?_
    ⟨rfl, Nat.zero_le _, by simp, by simp [List.count_replicate], fun i hi => ?_, .inl (Nat.zero_le _)⟩
  · rintro k ⟨D0, ys0, _⟩ next ⟨rfl, hk, hD0, hy0, hs0, hst0⟩ hnx
    simp only at hD0 hy0 hs0 hst0
    refine ifW_of (fun hc => ?_) (fun hc => ?_)
    · have hltk : k < cs.length := by simpa using hc
      refine count_loop cs.length (fun s => s.2.2) (fun m s => s.2.2 = (m : Int) ∧ m ≤ cs.length ∧ s.1.length = cs.length ∧ s.2.1.length = s.1.count true ∧ (∀ i : Nat, s.1[i]? = some true → Sf cs i) ∧ (∀ i : Nat, D0[i]? = some true → s.1[i]? = some true) ∧ (s.1 = D0 ∨ D0.count true < s.1.count true) ∧ (∀ i, i < m → Rdy cs D0 i → s.1[i]? = some true)) (fun k s h => h.1) (fun k s h => h.2.1) ?_
        ⟨rfl, Nat.zero_le _, hD0, hy0, hs0, fun i hi => hi, .inl rfl, fun i hi => by omega⟩
      rintro m ⟨D, ys, _⟩ next2 ⟨rfl, hm, hD, hy, hs, hmono, hcnt, hrd⟩ hn2
      simp only at hD hy hs hmono hcnt hrd
      have hDc : D.count true ≤ 5 := by have := List.count_le_length (a := true) (l := D); omega
      refine ifW_of (fun hc2 => ?_) (fun hc2 => ?_)
      · have hlt : m < cs.length := by simpa using hc2
        have hmD : m < D.length := by omega
        have hch := ht.2 _ (List.getElem_mem hlt)
        have hcm : cs[m]? = some cs[m] := List.getElem?_eq_getElem hlt
        unfold jnW
        refine idxW_of m rfl hmD ?_
        refine count_loop cs[m].length (fun s => s.2) (fun j s => s.2 = (j : Int) ∧ j ≤ cs[m].length ∧ (s.1 = true ↔ (D[m] = false ∧ ∀ r, r ∈ cs[m].take j → r.xAction = 3 → D[r.xChain.toNat]? = some true))) (fun k s h => h.1) (fun k s h => h.2.1) ?_ ⟨rfl, Nat.zero_le _, by simp⟩
        rintro j ⟨fl, _⟩ next3 ⟨rfl, hj, hfl⟩ hn3
        simp only at hfl
        refine idxW_of m rfl hlt (ifW_of (fun hc3 => ?_) (fun hc3 => ?_))
        · have hltj : j < cs[m].length := by simpa using hc3
          have htk : ∀ r, r ∈ cs[m].take (j + 1) ↔ r ∈ cs[m].take j ∨ r = cs[m][j] := fun r => by
            rw [List.take_succ_eq_append_getElem hltj, List.mem_append, List.mem_singleton]
          have hrv := hch.2 _ (List.getElem_mem hltj)
          refine idxW_of m rfl hlt (idxW_of j rfl hltj (ifW_of (fun hf => ?_) (fun hf => ?_)))
          · obtain ⟨f1, f2⟩ := hfl.1 hf
            refine ifW_of (fun h3 => ?_) (fun h3 => ?_)
            · refine addW_of (by omega) (by omega) (hn3 hltj _ ⟨by simp, by omega, ⟨fun _ => ⟨f1, fun r hr hr3 => ?_⟩, fun _ => rfl⟩⟩)
              rcases (htk r).1 hr with hr | rfl
              · exact f2 r hr hr3
              · simp at h3; exact absurd hr3 h3
            · have h3' : cs[m][j].xAction = 3 := by simpa using h3
              have hcc := hrv.1.2.2.2.1 h3'
              have hc5 := hrv.2
              obtain ⟨q, hq⟩ := Int.eq_ofNat_of_zero_le hcc.1
              have hqD : q < D.length := by omega
              refine idxW_of q hq hqD (addW_of (by omega) (by omega) (hn3 hltj _ ⟨by simp, by omega, ⟨fun e => ⟨f1, fun r hr hr3 => ?_⟩, fun hh => ?_⟩⟩))
              · rcases (htk r).1 hr with hr | rfl
                · exact f2 r hr hr3
                · rw [hq, Int.toNat_natCast, List.getElem?_eq_getElem hqD]; exact congrArg some e
              · have := hh.2 _ ((htk _).2 (.inr rfl)) h3'
                rw [hq, Int.toNat_natCast, List.getElem?_eq_getElem hqD] at this
                exact Option.some.inj this
          · refine addW_of (by omega) (by omega) (hn3 hltj _ ⟨by simp, by omega, ⟨fun e => (by cases e), fun hh => ?_⟩⟩)
            have : fl = true := hfl.2 ⟨hh.1, fun r hr hr3 => hh.2 r ((htk r).2 (.inl hr)) hr3⟩
            rw [this] at hf; cases hf
        · have hge : cs[m].length ≤ j := by simpa using hc3
          rw [List.take_of_length_le hge] at hfl
          have rdy_of : ∀ D' : List Bool, Rdy cs D' m → ∀ r, r ∈ cs[m] → r.xAction = 3 → D'[r.xChain.toNat]? = some true := by
            intro D' hh r hr hr3
            have hcc := (hch.2 r hr).1.2.2.2.1 hr3
            exact hh _ ⟨_, hcm, r, hr, hr3, by omega⟩
          refine ifW_of (fun hf => ?_) (fun hf => ?_)
          · obtain ⟨f1, f2⟩ := hfl.1 hf
            have hr : Rdy cs D m := by
              rintro q ⟨c', e1, r, e2, e3, e4⟩
              rw [hcm] at e1; cases e1
              have := f2 r e2 e3
              rw [e4] at this; simpa using this
            have set1 : ∀ i : Nat, (D.set m true)[i]? = if i = m then some true else D[i]? := fun i => by
              by_cases e : i = m
              · subst e; simp [hmD]
              · rw [List.getElem?_set_ne (by omega), if_neg e]
            have hcs' : (D.set m true).count true = D.count true + 1 := by
              rw [List.count_set hmD]; simp [f1]
            refine idxW_of m rfl hmD (appW_of (by simp; omega) (addW_of (by omega) (by omega) (hn2 hlt _ ⟨by simp, by omega, by simpa using hD, ?_, fun i hi => ?_, fun i hi => ?_, .inr ?_, fun i hi hri => ?_⟩)))
            · simp only [Int.toNat_natCast, hcs']; simp; omega
            · simp only [Int.toNat_natCast, set1] at hi
              by_cases e : i = m
              · subst e; exact sf_of (fun j hj => hs j (hr j hj))
              · rw [if_neg e] at hi; exact hs i hi
            · simp only [Int.toNat_natCast, set1]; split
              · rfl
              · exact hmono i hi
            · simp only [Int.toNat_natCast, hcs']
              rcases hcnt with rfl | h
              · omega
              · omega
            · simp only [Int.toNat_natCast, set1]; split
              · rfl
              · exact hrd i (by omega) hri
          · refine addW_of (by omega) (by omega) (hn2 hlt _ ⟨by simp, by omega, hD, hy, hs, hmono, hcnt, fun i hi hri => ?_⟩)
            by_cases e : i = m
            · subst e
              rw [List.getElem?_eq_getElem hmD]
              by_cases hDm : D[i] = false
              · have : fl = true := hfl.2 ⟨hDm, fun r hr hr3 => hmono _ (rdy_of D0 hri r hr hr3)⟩
                rw [this] at hf; cases hf
              · simpa using hDm
            · exact hrd i (by omega) hri
      · have hme : m = cs.length := by simp at hc2; omega
        subst hme
        refine addW_of (by omega) (by omega) (hnx hltk _ ⟨by simp, by omega, hD, hy, hs, ?_⟩)
        rcases hcnt with rfl | hlt2
        · exact .inr (fun i hi hri => hrd i hi hri)
        · rcases hst0 with h0 | h0
          · exact .inl (by simp only; omega)
          · refine .inr (fun i hi hri => ?_)
            -- nothing can be marked in a pass over a state in which all that is ready is done
            exfalso
            have hall : ∀ i : Nat, D[i]? = some true → D0[i]? = some true := fun i hi => stuck_sf ht h0 (hs i hi) (by have := (List.getElem?_eq_some_iff.1 hi).1; omega)
            have heq : D = D0 := by
              apply List.ext_getElem?
              intro i
              by_cases hi : i < D.length
              · rw [List.getElem?_eq_getElem hi, List.getElem?_eq_getElem (show i < D0.length by omega)]
                cases hb : D[i] with
                | true =>
                  have := hall i (by rw [List.getElem?_eq_getElem hi, hb])
                  rw [List.getElem?_eq_getElem (show i < D0.length by omega)] at this
                  exact this.symm
                | false =>
                  cases hb0 : D0[i]'(by omega) with
                  | false => rfl
                  | true =>
                    have := hmono i (by rw [List.getElem?_eq_getElem (show i < D0.length by omega), hb0])
                    rw [List.getElem?_eq_getElem hi, hb] at this
                    exact this
              · rw [List.getElem?_eq_none (by omega), List.getElem?_eq_none (by omega)]
            rw [heq] at hlt2; omega
    · have hge : k = cs.length := by simp at hc; omega
      subst hge
      have hle := List.count_le_length (a := true) (l := D0)
      by_cases hcn : D0.count true = cs.length
      · exact h1 (fun i hi => hs0 i (all_count (by omega) (by omega))) ys0 (by omega)
      · refine h2 (fun hall => ?_) ys0 (by omega)
        rcases hst0 with h0 | h0
        · omega
        · exact hcn ((count_all (fun i hi => stuck_sf ht h0 (hall i (by omega)) (by omega))).trans hD0)
  · exfalso
    simp only [List.getElem?_replicate] at hi
    split at hi <;> simp at hi


end
section
open Go.Lib (decDigits)

def RsV (c : List GRule) : Prop := c.length ≤ 8 ∧ ∀ r, r ∈ c → RV r
def SV (s : GRuleset) : Prop := Tg s.xChains ∧ 1 ≤ s.xChains.length ∧ ∀ i, i < s.xChains.length → Sf s.xChains i
/-- lengths in range -/
def Bc (c : List GRule) : Prop := c.length ≤ 4294967296 ∧ ∀ r, r ∈ c → r.xTests.length ≤ 4294967296
def Bd (s : GRuleset) : Prop := s.xChains.length ≤ 4294967296 ∧ ∀ c, c ∈ s.xChains → Bc c
theorem mem_snoc {α : Type} {l : List α} {k : Nat} (h : k < l.length) (x : α) : x ∈ l.take (k + 1) ↔ x ∈ l.take k ∨ x = l[k] := by
  rw [List.take_succ_eq_append_getElem h, List.mem_append, List.mem_singleton]

theorem S_impl_RulesValid {c : List GRule} {κ : Bool → Prop} (hb : Bc c) (h : ∀ b, (b = true ↔ RsV c) → κ b) : L_impl_RulesValid c κ := by
  have hl := hb.1
  unfold L_impl_RulesValid
  refine ifW_of (fun hc => h _ ⟨fun e => (by cases e), fun hh => by have := hh.1; simp at hc; omega⟩) (fun hc0 => ?_)
  simp at hc0
  refine count_loop c.length (fun s => s) (fun k s => s = (k : Int) ∧ k ≤ c.length ∧ ∀ r, r ∈ c.take k → RV r) (fun k s h => h.1) (fun k s h => h.2.1) ?_ ⟨rfl, Nat.zero_le _, by simp⟩
  rintro k _ next ⟨rfl, hk, he⟩ hn
  refine ifW_of (fun hc => ?_) (fun hc => ?_)
  · have hlt : k < c.length := by simpa using hc
    refine idxW_of k rfl hlt (S_impl_RuleValid (hb.2 _ (List.getElem_mem hlt)) (ifW_of (fun hc2 => ?_) (fun hc2 => ?_)))
    · simp at hc2
      exact h _ ⟨fun e => (by cases e), fun hh => absurd (hh.2 _ (List.getElem_mem hlt)) hc2⟩
    · simp at hc2
      refine addW_of (by omega) (by omega) (hn hlt _ ⟨by omega, by omega, fun r hr => ?_⟩)
      rcases (mem_snoc hlt r).1 hr with hr | rfl
      · exact he r hr
      · exact hc2
  · have hge : c.length ≤ k := by simpa using hc
    rw [List.take_of_length_le hge] at he
    exact h _ ⟨fun _ => ⟨by omega, he⟩, fun _ => rfl⟩
theorem S_spec_RulesValid {c : List GRule} {κ : Bool → Prop} (hb : Bc c) (h : ∀ b, (b = true ↔ RsV c) → κ b) : L_spec_RulesValid c κ := by
  have hl := hb.1
  unfold L_spec_RulesValid
  refine count_loop c.length (fun s => s) (fun k s => s = (k : Int) ∧ k ≤ c.length ∧ ∀ r, r ∈ c.take k → RV r) (fun k s h => h.1) (fun k s h => h.2.1) ?_ ⟨rfl, Nat.zero_le _, by simp⟩
  rintro k _ next ⟨rfl, hk, he⟩ hn
  refine ifW_of (fun hc => ?_) (fun hc => ?_)
  · have hlt : k < c.length := by simpa using hc
    refine idxW_of k rfl hlt (S_spec_RuleValid (hb.2 _ (List.getElem_mem hlt)) (ifW_of (fun hc2 => ?_) (fun hc2 => ?_)))
    · simp at hc2
      exact h _ ⟨fun e => (by cases e), fun hh => absurd (hh.2 _ (List.getElem_mem hlt)) hc2⟩
    · simp at hc2
      refine addW_of (by omega) (by omega) (hn hlt _ ⟨by omega, by omega, fun r hr => ?_⟩)
      rcases (mem_snoc hlt r).1 hr with hr | rfl
      · exact he r hr
      · exact hc2
  · have hge : c.length ≤ k := by simpa using hc
    rw [List.take_of_length_le hge] at he
    exact h _ ⟨fun e => ⟨by simp at e; omega, he⟩, fun hh => by have := hh.1; simp; omega⟩

theorem S_spec_RulesetValid {s : GRuleset} {κ : Bool → Prop} (hb : Bd s) (h : ∀ b, (b = true ↔ SV s) → κ b) : L_spec_RulesetValid s κ := by
  have hn := hb.1
  have no : ¬ SV s → κ false := fun hns => h _ ⟨fun e => (by cases e), fun hh => absurd hh hns⟩
  unfold L_spec_RulesetValid
  refine count_loop s.xChains.length (fun s => s) (fun k t => t = (k : Int) ∧ k ≤ s.xChains.length ∧ ∀ c, c ∈ s.xChains.take k → RsV c ∧ ∀ r, r ∈ c → r.xChain < s.xChains.length) (fun k s h => h.1) (fun k s h => h.2.1) ?_ ⟨rfl, Nat.zero_le _, by simp⟩
  rintro k _ next ⟨rfl, hk, he⟩ hnx
  refine ifW_of (fun hc => ?_) (fun hc => ?_)
  · have hlt : k < s.xChains.length := by simpa using hc
    have hmem := List.getElem_mem hlt
    have hbc := hb.2 _ hmem
    have hbl := hbc.1
    refine idxW_of k rfl hlt (S_spec_RulesValid hbc (fun b hbv => ifW_of (fun hf => no (fun hh => ?_)) (fun hf => ?_)))
    · have : b = true := hbv.2 ⟨(hh.1.2 _ hmem).1, fun r hr => ((hh.1.2 _ hmem).2 r hr).1⟩
      rw [this] at hf; cases hf
    · have hv : RsV s.xChains[k] := hbv.1 (by simpa using hf)
      refine count_loop s.xChains[k].length (fun s => s) (fun j t => t = (j : Int) ∧ j ≤ s.xChains[k].length ∧ ∀ r, r ∈ s.xChains[k].take j → r.xChain < s.xChains.length) (fun k s h => h.1) (fun k s h => h.2.1) ?_ ⟨rfl, Nat.zero_le _, by simp⟩
      rintro j _ next2 ⟨rfl, hj, he2⟩ hn2
      refine idxW_of k rfl hlt (ifW_of (fun hc3 => ?_) (fun hc3 => ?_))
      · have hltj : j < s.xChains[k].length := by simpa using hc3
        refine idxW_of k rfl hlt (idxW_of j rfl hltj (ifW_of (fun h3 => no (fun hh => ?_)) (fun h3 => ?_)))
        · have := ((hh.1.2 _ hmem).2 _ (List.getElem_mem hltj)).2
          simp at h3; omega
        · simp at h3
          refine addW_of (by omega) (by omega) (hn2 hltj _ ⟨by omega, by omega, fun r hr => ?_⟩)
          rcases (mem_snoc hltj r).1 hr with hr | rfl
          · exact he2 r hr
          · omega
      · have hge : s.xChains[k].length ≤ j := by simpa using hc3
        rw [List.take_of_length_le hge] at he2
        refine addW_of (by omega) (by omega) (hnx hlt _ ⟨by omega, by omega, fun c hc => ?_⟩)
        rcases (mem_snoc hlt c).1 hc with hc | rfl
        · exact he c hc
        · exact ⟨hv, he2⟩
  · have hge : s.xChains.length ≤ k := by simpa using hc
    rw [List.take_of_length_le hge] at he
    unfold jnW
    refine S_l1In (ifW_of (fun h5 => ?_) (fun h5 => no (fun hh => ?_)))
    · simp at h5
      have ht : Tg s.xChains := ⟨by omega, fun c hc => ⟨(he c hc).1.1, fun r hr => ⟨(he c hc).1.2 r hr, (he c hc).2 r hr⟩⟩⟩
      refine S_l8Order ht (fun hall ys hy => h _ ⟨fun _ => ⟨ht, by omega, hall⟩, fun _ => by simp; omega⟩) (fun hall ys hy => h _ ⟨fun e => absurd (by simp at e; omega) hy, fun hh => absurd hh.2.2 hall⟩)
    · have := hh.1.1; have := hh.2.1
      simp at h5; omega
theorem S_impl_RulesetValid {s : GRuleset} {κ : Bool → Prop} (hb : Bd s) (h : ∀ b, (b = true ↔ SV s) → κ b) : L_impl_RulesetValid s κ := by
  have no : ¬ SV s → κ false := fun hns => h _ ⟨fun e => (by cases e), fun hh => absurd hh hns⟩
  unfold L_impl_RulesetValid jnW
  simp only [ifW_true]
  refine ifW_of (fun hc => no (fun hh => by have := hh.2.1; simp at hc; omega)) (fun h1 => ifW_of (fun hc => no (fun hh => by have := hh.1.1; simp at hc; omega)) (fun h5 => ?_))
  simp at h1 h5
  refine count_loop s.xChains.length (fun s => s) (fun k t => t = (k : Int) ∧ k ≤ s.xChains.length ∧ ∀ c, c ∈ s.xChains.take k → RsV c) (fun k s h => h.1) (fun k s h => h.2.1) ?_ ⟨rfl, Nat.zero_le _, by simp⟩
  rintro k _ next ⟨rfl, hk, he⟩ hnx
  refine ifW_of (fun hc => ?_) (fun hc => ?_)
  · have hlt : k < s.xChains.length := by simpa using hc
    have hmem := List.getElem_mem hlt
    refine idxW_of k rfl hlt (S_impl_RulesValid (hb.2 _ hmem) (fun b hbv => ifW_of (fun hf => no (fun hh => ?_)) (fun hf => ?_)))
    · have : b = true := hbv.2 ⟨(hh.1.2 _ hmem).1, fun r hr => ((hh.1.2 _ hmem).2 r hr).1⟩
      rw [this] at hf; cases hf
    · refine addW_of (by omega) (by omega) (hnx hlt _ ⟨by omega, by omega, fun c hc => ?_⟩)
      rcases (mem_snoc hlt c).1 hc with hc | rfl
      · exact he c hc
      · exact hbv.1 (by simpa using hf)
  · have hge : s.xChains.length ≤ k := by simpa using hc
    rw [List.take_of_length_le hge] at he
    refine count_loop s.xChains.length (fun s => s) (fun k t => t = (k : Int) ∧ k ≤ s.xChains.length ∧ ∀ c, c ∈ s.xChains.take k → ∀ r, r ∈ c → r.xChain < s.xChains.length) (fun k s h => h.1) (fun k s h => h.2.1) ?_ ⟨rfl, Nat.zero_le _, by simp⟩
    rintro m _ next2 ⟨rfl, hm, he2⟩ hn2
    refine ifW_of (fun hc2 => ?_) (fun hc2 => ?_)
    · have hlt : m < s.xChains.length := by simpa using hc2
      have hmem := List.getElem_mem hlt
      have hv := he _ hmem
      refine idxW_of m rfl hlt (S_callsIn hv.1 hv.2 (fun ys hyl hys => ?_))
      refine count_loop ys.length (fun s => s) (fun j t => t = (j : Int) ∧ j ≤ ys.length ∧ ∀ x, x ∈ ys.take j → x < s.xChains.length) (fun k s h => h.1) (fun k s h => h.2.1) ?_ ⟨rfl, Nat.zero_le _, by simp⟩
      rintro j _ next3 ⟨rfl, hj, he3⟩ hn3
      refine ifW_of (fun hc3 => ?_) (fun hc3 => ?_)
      · have hltj : j < ys.length := by simpa using hc3
        refine idxW_of j rfl hltj (ifW_of (fun hx => no (fun hh => ?_)) (fun hx => ?_))
        · obtain ⟨r, hr, _, hrc⟩ := (hys _).1 (List.getElem_mem hltj)
          have := ((hh.1.2 _ hmem).2 r hr).2
          simp at hx; omega
        · simp at hx
          refine addW_of (by omega) (by omega) (hn3 hltj _ ⟨by omega, by omega, fun x hxx => ?_⟩)
          rcases (mem_snoc hltj x).1 hxx with hxx | rfl
          · exact he3 x hxx
          · omega
      · have hgej : ys.length ≤ j := by simpa using hc3
        rw [List.take_of_length_le hgej] at he3
        refine addW_of (by omega) (by omega) (hn2 hlt _ ⟨by omega, by omega, fun c hc => ?_⟩)
        rcases (mem_snoc hlt c).1 hc with hc | rfl
        · exact he2 c hc
        · intro r hr
          by_cases h3 : r.xAction = 3
          · exact he3 _ ((hys _).2 ⟨r, hr, h3, rfl⟩)
          · have := (hv.2 r hr).2.2.2.2 h3
            omega
    · have hgem : s.xChains.length ≤ m := by simpa using hc2
      rw [List.take_of_length_le hgem] at he2
      have ht : Tg s.xChains := ⟨by omega, fun c hc => ⟨(he c hc).1, fun r hr => ⟨(he c hc).2 r hr, he2 c hc r hr⟩⟩⟩
      exact S_acyclic ht.w (fun hall => h _ ⟨fun _ => ⟨ht, by omega, hall⟩, fun _ => rfl⟩) (fun hall => h _ ⟨fun e => (by cases e), fun hh => absurd hh.2.2 hall⟩)

/-! texts -/
def chl (k : Nat) : List UInt8 := [99, 104, 97, 105, 110, 32] ++ decDigits k
def lsF : Nat → List (List GRule) → List ByteArray
  | _, [] => []
  | k, c :: cs => (B (chl k) :: c.map (fun r => B (rtx0 r))) ++ lsF (k + 1) cs
theorem lsF_snoc : ∀ (k : Nat) (a : List (List GRule)) (c : List GRule), lsF k (a ++ [c]) = lsF k a ++ (B (chl (k + a.length)) :: c.map (fun r => B (rtx0 r)))
  | k, [], c => by simp [lsF]
  | k, x :: a, c => by
    simp only [List.cons_append, lsF, lsF_snoc (k + 1) a c, List.length_cons]
    rw [show k + 1 + a.length = k + (a.length + 1) by omega]
    simp
def sumL : List (List GRule) → Nat
  | [] => 0
  | c :: cs => c.length + sumL cs
theorem lsF_len : ∀ (k : Nat) (a : List (List GRule)), (lsF k a).length = a.length + sumL a
  | k, [] => rfl
  | k, x :: a => by simp only [lsF, List.length_append, List.length_cons, List.length_map, lsF_len (k + 1) a, sumL]; omega
theorem sumL_le : ∀ (a : List (List GRule)), (∀ c, c ∈ a → c.length ≤ 8) → sumL a ≤ 8 * a.length
  | [], _ => by simp [sumL]
  | x :: a, h => by
    have := sumL_le a (fun c hc => h c (by simp [hc]))
    have := h x (by simp)
    simp only [sumL, List.length_cons]; omega
def dft (s : GRuleset) : List UInt8 := if s.xAccept then [100, 101, 102, 97, 117, 108, 116, 32, 97, 99, 99, 101, 112, 116] else [100, 101, 102, 97, 117, 108, 116, 32, 100, 114, 111, 112]
def rlines (s : GRuleset) : List ByteArray := B (dft s) :: lsF 0 s.xChains


end
section
open Go.Lib (decDigits)

theorem appW_1 {xs : List ByteArray} {y : ByteArray} {κ : List ByteArray → Prop} (h1 : xs.length ≤ 1000) (h : κ (xs ++ [y])) : appW xs [y] κ := appW_of (by simp; omega) h
theorem S_impl_RulesetText {s : GRuleset} {κ : List ByteArray → Prop} (hb : Bd s) (h1 : SV s → κ (rlines s)) (h2 : ¬ SV s → κ []) : L_impl_RulesetText s κ := by
  unfold L_impl_RulesetText
  refine S_impl_RulesetValid hb (fun b hbv => ifW_of (fun hc => h2 (fun hh => ?_)) (fun hc => ?_))
  · rw [hbv.2 hh] at hc; cases hc
  have hv : SV s := hbv.1 (by simpa using hc)
  have hcl := hv.1.1
  have key : ∀ d : List UInt8, d = dft s → loopW (fun (nx80 : ((List ByteArray) × Int) → Prop) ((xs76, t79) : ((List ByteArray) × Int)) => ifW (decide (t79 < (s.xChains.length : Int))) (idxW s.xChains t79 (fun e81 => L_impl_chainLine t79 (fun r87 => appW xs76 ([r87]) (fun _ => loopW (fun (nx97 : ((List ByteArray) × Int) → Prop) ((xs93, t96) : ((List ByteArray) × Int)) => ifW (decide (t96 < (e81.length : Int))) (idxW e81 t96 (fun e98 => L_impl_Rule_text e98 (fun r109 => appW xs93 ([r109]) (fun _ => addW t96 1 (fun t114 => nx97 ((xs93 ++ ([r109])), t114)))))) (addW t79 1 (fun t115 => nx80 (xs93, t115)))) ((xs76 ++ ([r87])), 0))))) (κ xs76)) ([B d], 0) := by
    rintro d rfl
    refine count_loop s.xChains.length (fun s => s.2) (fun k t => t = (B (dft s) :: lsF 0 (s.xChains.take k), (k : Int)) ∧ k ≤ s.xChains.length) (fun k s h => by rw [h.1]) (fun k s h => h.2) ?_ ⟨by simp [lsF], Nat.zero_le _⟩
    rintro k _ next ⟨rfl, hk⟩ hn
    have hs := sumL_le (s.xChains.take k) (fun c hc => (hv.1.2 c (List.mem_of_mem_take hc)).1)
    have hll := lsF_len 0 (s.xChains.take k)
    rw [List.length_take] at hs hll
    refine ifW_of (fun hc => ?_) (fun hc => ?_)
    · have hlt : k < s.xChains.length := by simpa using hc
      have hch := hv.1.2 _ (List.getElem_mem hlt)
      have hd := dec_le (n := k) (by omega)
      unfold L_impl_chainLine
      refine idxW_of k rfl hlt (S_itoa (by omega) (by omega) (catW_B (l := [99, 104, 97, 105, 110, 32]) (by simp; omega) (appW_1 (by simp; omega) ?_)))
      refine count_loop s.xChains[k].length (fun s => s.2) (fun j t => t = ((B (dft s) :: lsF 0 (s.xChains.take k)) ++ (B (chl k) :: (s.xChains[k].take j).map (fun r => B (rtx0 r))), (j : Int)) ∧ j ≤ s.xChains[k].length) (fun k s h => by rw [h.1]) (fun k s h => h.2) ?_ ⟨by simp [chl], Nat.zero_le _⟩
      rintro j _ next2 ⟨rfl, hj⟩ hn2
      refine ifW_of (fun hc2 => ?_) (fun hc2 => ?_)
      · have hltj : j < s.xChains[k].length := by simpa using hc2
        refine idxW_of j rfl hltj (S_impl_Rule_text (hch.2 _ (List.getElem_mem hltj)).1 (appW_1 (by simp; omega) (addW_of (by omega) (by omega) (hn2 hltj _ ⟨?_, by omega⟩))))
        simp [-List.map_take]
        rw [List.take_succ_eq_append_getElem hltj, List.map_append]; rfl
      · have hge : s.xChains[k].length ≤ j := by simpa using hc2
        rw [List.take_of_length_le hge]
        refine addW_of (by omega) (by omega) (hn hlt _ ⟨?_, by omega⟩)
        rw [List.take_succ_eq_append_getElem hlt, lsF_snoc, List.length_take, Nat.min_eq_left hk, Nat.zero_add]
        simp
    · have hge : s.xChains.length ≤ k := by simpa using hc
      rw [List.take_of_length_le hge]
      exact h1 hv
  unfold jnW
  refine ifW_of (fun ha => key _ (by simp [dft, ha])) (fun ha => key _ (by simp [dft, ha]))
theorem S_spec_RulesetText {s : GRuleset} {κ : List ByteArray → Prop} (hb : Bd s) (h1 : SV s → κ (rlines s)) (h2 : ¬ SV s → κ []) : L_spec_RulesetText s κ := by
  unfold L_spec_RulesetText
  refine S_spec_RulesetValid hb (fun b hbv => ifW_of (fun hc => h2 (fun hh => ?_)) (fun hc => ?_))
  · rw [hbv.2 hh] at hc; cases hc
  have hv : SV s := hbv.1 (by simpa using hc)
  have hcl := hv.1.1
  have key : ∀ d : List UInt8, d = dft s → loopW (fun (nx89 : ((List ByteArray) × Int) → Prop) ((xs85, t88) : ((List ByteArray) × Int)) => ifW (decide (t88 < (s.xChains.length : Int))) (L_spec_l3Number t88 (fun r90 => catW (ByteArray.mk #[99, 104, 97, 105, 110, 32]) r90 (fun s91 => appW xs85 ([s91]) (fun _ => loopW (fun (nx101 : ((List ByteArray) × Int) → Prop) ((xs97, t100) : ((List ByteArray) × Int)) => idxW s.xChains t88 (fun e102 => ifW (decide (t100 < (e102.length : Int))) (idxW s.xChains t88 (fun e108 => idxW e108 t100 (fun e114 => L_spec_RuleText e114 (fun r120 => appW xs97 ([r120]) (fun _ => addW t100 1 (fun t125 => nx101 ((xs97 ++ ([r120])), t125))))))) (addW t88 1 (fun t126 => nx89 (xs97, t126))))) ((xs85 ++ ([s91])), 0))))) (κ xs85)) ([B d], 0) := by
    rintro d rfl
    refine count_loop s.xChains.length (fun s => s.2) (fun k t => t = (B (dft s) :: lsF 0 (s.xChains.take k), (k : Int)) ∧ k ≤ s.xChains.length) (fun k s h => by rw [h.1]) (fun k s h => h.2) ?_ ⟨by simp [lsF], Nat.zero_le _⟩
    rintro k _ next ⟨rfl, hk⟩ hn
    have hs := sumL_le (s.xChains.take k) (fun c hc => (hv.1.2 c (List.mem_of_mem_take hc)).1)
    have hll := lsF_len 0 (s.xChains.take k)
    rw [List.length_take] at hs hll
    refine ifW_of (fun hc => ?_) (fun hc => ?_)
    · have hlt : k < s.xChains.length := by simpa using hc
      have hch := hv.1.2 _ (List.getElem_mem hlt)
      have hd := dec_le (n := k) (by omega)
      refine S_l3Number (by omega) (by omega) (catW_B (l := [99, 104, 97, 105, 110, 32]) (by simp; omega) (appW_1 (by simp; omega) ?_))
      refine count_loop s.xChains[k].length (fun s => s.2) (fun j t => t = ((B (dft s) :: lsF 0 (s.xChains.take k)) ++ (B (chl k) :: (s.xChains[k].take j).map (fun r => B (rtx0 r))), (j : Int)) ∧ j ≤ s.xChains[k].length) (fun k s h => by rw [h.1]) (fun k s h => h.2) ?_ ⟨by simp [chl], Nat.zero_le _⟩
      rintro j _ next2 ⟨rfl, hj⟩ hn2
      refine idxW_of k rfl hlt (ifW_of (fun hc2 => ?_) (fun hc2 => ?_))
      · have hltj : j < s.xChains[k].length := by simpa using hc2
        have hrv := (hch.2 _ (List.getElem_mem hltj)).1
        have h6 := hrv.1.2
        refine idxW_of k rfl hlt (idxW_of j rfl hltj (S_spec_RuleText (by omega) ?_))
        rw [rtext, if_pos hrv]
        refine appW_1 (by simp; omega) (addW_of (by omega) (by omega) (hn2 hltj _ ⟨?_, by omega⟩))
        simp [-List.map_take]
        rw [List.take_succ_eq_append_getElem hltj, List.map_append]; rfl
      · have hge : s.xChains[k].length ≤ j := by simpa using hc2
        rw [List.take_of_length_le hge]
        refine addW_of (by omega) (by omega) (hn hlt _ ⟨?_, by omega⟩)
        rw [List.take_succ_eq_append_getElem hlt, lsF_snoc, List.length_take, Nat.min_eq_left hk, Nat.zero_add]
        simp
    · have hge : s.xChains.length ≤ k := by simpa using hc
      rw [List.take_of_length_le hge]
      exact h1 hv
  unfold jnW
  refine ifW_of (fun ha => appW_1 (by simp) ?_) (fun ha => appW_1 (by simp) ?_)
  · exact key _ (by simp [dft, ha])
  · exact key _ (by simp [dft, ha])
/-! draws -/
end
section
open Go.Lib (decDigits)

open Classical in
/-- the rule that a line holds -/
noncomputable def rd (l : List UInt8) : Option GRule := if h : ∃ r, RV r ∧ rtx0 r = l then some h.choose else none
/-- chains that only grow -/
def Le (cs ds : List (List GRule)) : Prop := cs.length ≤ ds.length ∧ ∀ (i : Nat) (c : List GRule), cs[i]? = some c → ∃ e, ds[i]? = some (c ++ e)
theorem Le.refl (cs : List (List GRule)) : Le cs cs := ⟨Nat.le_refl _, fun i c h => ⟨[], by simpa using h⟩⟩
theorem Le.trans {a b c : List (List GRule)} (h : Le a b) (h' : Le b c) : Le a c := ⟨Nat.le_trans h.1 h'.1, fun i x hx => by
  obtain ⟨e, he⟩ := h.2 i x hx
  obtain ⟨e', he'⟩ := h'.2 i _ he
  exact ⟨e ++ e', by rw [he', List.append_assoc]⟩⟩
end
section


/-- marks laid through a list, element by element -/
def mkL {α : Type} (f : Int → α → Int × α) : Int → List α → Int × List α
  | k, [] => (k, [])
  | k, x :: xs => ((mkL f (f k x).1 xs).1, (f k x).2 :: (mkL f (f k x).1 xs).2)
theorem mkL_len {α : Type} (f : Int → α → Int × α) : ∀ (k : Int) (xs : List α), (mkL f k xs).2.length = xs.length
  | k, [] => rfl
  | k, x :: xs => by simp only [mkL, List.length_cons, mkL_len f _ xs]
theorem mkL_snoc {α : Type} (f : Int → α → Int × α) : ∀ (k : Int) (xs : List α) (x : α), mkL f k (xs ++ [x]) = ((f (mkL f k xs).1 x).1, (mkL f k xs).2 ++ [(f (mkL f k xs).1 x).2])
  | k, [], x => rfl
  | k, y :: xs, x => by simp only [List.cons_append, mkL, mkL_snoc f _ xs x]
theorem mkL_le {α : Type} (f : Int → α → Int × α) (C : Int) (hC : 0 ≤ C) : ∀ (k : Int) (xs : List α), 1 ≤ k → (∀ x, x ∈ xs → ∀ k, 1 ≤ k → k ≤ (f k x).1 ∧ (f k x).1 ≤ k + C) → k ≤ (mkL f k xs).1 ∧ (mkL f k xs).1 ≤ k + C * xs.length
  | k, [], hk, h => by simp [mkL]
  | k, x :: xs, hk, h => by
    obtain ⟨h1, h2⟩ := h x (by simp) k hk
    obtain ⟨h3, h4⟩ := mkL_le f C hC (f k x).1 xs (by omega) (fun y hy => h y (by simp [hy]))
    simp only [mkL, List.length_cons]
    rw [Int.natCast_add, Int.mul_add]
    refine ⟨by omega, ?_⟩
    simp
    omega
/-- the marks stand at their places whatever comes behind -/
theorem mkL_get {α : Type} (f : Int → α → Int × α) : ∀ (k : Int) (xs : List α) (t : Nat) (x : α), xs[t]? = some x → (mkL f k xs).2[t]? = some (f (mkL f k (xs.take t)).1 x).2
  | k, [], t, x, h => by simp at h
  | k, y :: xs, 0, x, h => by simp at h; subst h; simp [mkL]
  | k, y :: xs, t + 1, x, h => by
    simp only [mkL, List.getElem?_cons_succ, List.take_succ_cons]
    exact mkL_get f _ xs t x (by simpa using h)
theorem mkb1 {C N : Int} {k : Nat} (hC : 0 ≤ C) (hk : (k : Int) < N) : 0 ≤ C * (k : Int) ∧ C * (k : Int) + C ≤ C * N := by
  refine ⟨Int.mul_nonneg hC (by omega), ?_⟩
  have h := Int.mul_le_mul_of_nonneg_left (show (k : Int) + 1 ≤ N by omega) hC
  rw [Int.mul_add] at h
  simpa using h

theorem markG_loop {α : Type} (f : Int → α → Int × α) (C N : Int) (a : List α) (k0 : Int) (hl : (a.length : Int) ≤ N) (hN : N ≤ 4294967296) (hC : 0 ≤ C) (hk1 : 1 ≤ k0) (hk2 : k0 + C * N ≤ 9000000000000000000)
    (hf : ∀ x, x ∈ a → ∀ k, 1 ≤ k → k ≤ (f k x).1 ∧ (f k x).1 ≤ k + C) {κ : Int × List α → Prop} (hκ : κ (mkL f k0 a)) (F : (List α × Int × Int → Prop) → List α × Int × Int → Prop)
    (hF : ∀ (nx : List α × Int × Int → Prop) (xs : List α) (k : Int) (t : Nat), 1 ≤ k → (t : Int) ≤ N → (∀ x, xs[t]? = some x → x ∈ a ∧ k + C ≤ 9000000000000000000 ∧ nx (xs.set t (f k x).2, (f k x).1, (t : Int) + 1)) → (¬ t < xs.length → κ (k, xs)) → F nx (xs, k, (t : Int))) : loopW F (a, k0, 0) := by
  refine count_loop a.length (fun s => s.2.2) (fun k s => s = ((mkL f k0 (a.take k)).2 ++ a.drop k, (mkL f k0 (a.take k)).1, (k : Int)) ∧ k ≤ a.length) (fun k s h => by rw [h.1]) (fun k s h => h.2) ?_ ⟨by simp [mkL], Nat.zero_le _⟩
  rintro k _ next ⟨rfl, hk⟩ hn
  obtain ⟨b1, b2⟩ := mkL_le f C hC k0 (a.take k) hk1 (fun x hx => hf x (List.mem_of_mem_take hx))
  have hlt : (a.take k).length = k := by rw [List.length_take]; omega
  have hl2 : (mkL f k0 (a.take k)).2.length = k := by rw [mkL_len, hlt]
  refine hF _ _ _ _ (by omega) (by omega) (fun x hx => ?_) (fun hge => ?_)
  · rw [List.getElem?_append_right (by omega), hl2, Nat.sub_self, List.getElem?_drop, Nat.add_zero] at hx
    obtain ⟨h1, h2⟩ := List.getElem?_eq_some_iff.1 hx
    have hm : x ∈ a := h2 ▸ List.getElem_mem h1
    refine ⟨hm, ?_, hn h1 _ ⟨?_, by omega⟩⟩
    · rw [hlt] at b2
      have := (mkb1 (N := N) (k := k) hC (by omega)).2
      omega
    · have ht : a.take (k + 1) = a.take k ++ [x] := by rw [List.take_succ_eq_append_getElem h1, h2]
      have hd : a.drop k = x :: a.drop (k + 1) := by rw [List.drop_eq_getElem_cons h1, h2]
      rw [ht, mkL_snoc, hd]
      refine Prod.ext ?_ rfl
      simp only
      rw [List.set_append_right _ _ (by omega), hl2, Nat.sub_self, List.set_cons_zero, List.append_assoc]
      rfl
  · rw [List.length_append, hl2, List.length_drop] at hge
    have : k = a.length := by omega
    rw [this, List.take_length, List.drop_length, List.append_nil]
    exact hκ
theorem heldG_loop {α : Type} (f : Int → α → Int × α) (C N : Int) (a : List α) (k0 : Int) (hl : (a.length : Int) ≤ N) (hN : N ≤ 4294967296) (hC : 0 ≤ C) (hk1 : 1 ≤ k0) (hk2 : k0 + C * N ≤ 9000000000000000000)
    (hf : ∀ x, x ∈ a → ∀ k, 1 ≤ k → k ≤ (f k x).1 ∧ (f k x).1 ≤ k + C) {κ : Int → Prop} (hκ : κ (mkL f k0 a).1) (F : (Int × Int → Prop) → Int × Int → Prop)
    (hF : ∀ (nx : Int × Int → Prop) (k : Int) (t : Nat), 1 ≤ k → (t : Int) ≤ N → (∀ x, a[t]? = some x → x ∈ a ∧ k + C ≤ 9000000000000000000 ∧ (mkL f k0 a).2[t]? = some (f k x).2 ∧ nx ((f k x).1, (t : Int) + 1)) → (¬ t < a.length → κ k) → F nx (k, (t : Int))) : loopW F (k0, 0) := by
  refine count_loop a.length (fun s => s.2) (fun k s => s = ((mkL f k0 (a.take k)).1, (k : Int)) ∧ k ≤ a.length) (fun k s h => by rw [h.1]) (fun k s h => h.2) ?_ ⟨by simp [mkL], Nat.zero_le _⟩
  rintro k _ next ⟨rfl, hk⟩ hn
  obtain ⟨b1, b2⟩ := mkL_le f C hC k0 (a.take k) hk1 (fun x hx => hf x (List.mem_of_mem_take hx))
  have hlt : (a.take k).length = k := by rw [List.length_take]; omega
  refine hF _ _ _ (by omega) (by omega) (fun x hx => ?_) (fun hge => ?_)
  · obtain ⟨h1, h2⟩ := List.getElem?_eq_some_iff.1 hx
    have hm : x ∈ a := h2 ▸ List.getElem_mem h1
    refine ⟨hm, ?_, mkL_get f k0 a k x hx, hn h1 _ ⟨?_, by omega⟩⟩
    · rw [hlt] at b2
      have := (mkb1 (N := N) (k := k) hC (by omega)).2
      omega
    · have ht : a.take (k + 1) = a.take k ++ [x] := by rw [List.take_succ_eq_append_getElem h1, h2]
      rw [ht, mkL_snoc]
      rfl
  · have : k = a.length := by omega
    rw [this, List.take_length]
    exact hκ
/-- sizes that are taken away one by one -/
theorem szG_loop {α : Type} (P : α → Prop) (a : List α) (left : Int) (h0 : 0 ≤ left) (h1 : left ≤ 1048576) (hl : a.length ≤ 4294967296) {κ : Int → Prop} (hκ : ∀ r, 0 ≤ r → r ≤ left → (∀ x, x ∈ a → P x) → κ r) (F : (Int × Int → Prop) → Int × Int → Prop)
    (hF : ∀ (nx : Int × Int → Prop) (r : Int) (t : Nat), 0 ≤ r → r ≤ 1048576 → t ≤ a.length → (∀ x, a[t]? = some x → ∀ r', 0 ≤ r' → r' ≤ r → P x → nx (r', (t : Int) + 1)) → (¬ t < a.length → κ r) → F nx (r, (t : Int))) : loopW F (left, 0) := by
  refine count_loop a.length (fun s => s.2) (fun k s => s.2 = (k : Int) ∧ k ≤ a.length ∧ 0 ≤ s.1 ∧ s.1 ≤ left ∧ ∀ x, x ∈ a.take k → P x) (fun k s h => h.1) (fun k s h => h.2.1) ?_ ⟨rfl, Nat.zero_le _, h0, Int.le_refl _, by simp⟩
  rintro k ⟨r, t⟩ next ⟨rfl, hk, hr0, hr1, hP⟩ hn
  simp only at hr0 hr1 hP
  refine hF _ _ _ hr0 (by omega) hk (fun x hx r' g0 g1 hp => ?_) (fun hge => hκ r hr0 hr1 ?_)
  · obtain ⟨e1, e2⟩ := List.getElem?_eq_some_iff.1 hx
    refine hn e1 _ ⟨by simp, by omega, g0, by simp only; omega, fun y hy => ?_⟩
    rw [List.take_succ_eq_append_getElem e1, List.mem_append, List.mem_singleton] at hy
    rcases hy with hy | rfl
    · exact hP y hy
    · rw [e2]; exact hp
  · have : k = a.length := by omega
    rw [this, List.take_length] at hP
    exact hP
/-- equality with itself, element by element -/
theorem eqS_loop {α : Type} (a : List α) (hl : a.length ≤ 4294967296) {κ : Bool → Prop} (hκ : κ true) (F : (Int → Prop) → Int → Prop)
    (hF : ∀ (nx : Int → Prop) (t : Nat), t ≤ a.length → (∀ x, a[t]? = some x → x ∈ a ∧ nx ((t : Int) + 1)) → (¬ t < a.length → κ true) → F nx (t : Int)) : loopW F 0 := by
  refine count_loop a.length (fun s => s) (fun k s => s = (k : Int) ∧ k ≤ a.length) (fun k s h => h.1) (fun k s h => h.2) ?_ ⟨rfl, Nat.zero_le _⟩
  rintro k _ next ⟨rfl, hk⟩ hn
  refine hF _ _ hk (fun x hx => ?_) (fun _ => hκ)
  obtain ⟨e1, e2⟩ := List.getElem?_eq_some_iff.1 hx
  exact ⟨e2 ▸ List.getElem_mem e1, hn e1 _ ⟨by omega, by omega⟩⟩
/-- an element at a place that is known -/
theorem idxW_at {α : Type} {xs : List α} {t : Nat} {x : α} {κ : α → Prop} (h : xs[t]? = some x) (hk : κ x) : idxW xs (t : Int) κ := ⟨x, by omega, by simpa using h, hk⟩
end
section
open Go.Lib (decDigits)

/-- lengths of an argument that is not too big -/
def Br (r : GRule) : Prop := r.xTests.length ≤ 1048576
def Bq (c : List GRule) : Prop := c.length ≤ 1048576 ∧ ∀ r, r ∈ c → Br r
def Bs (cs : List (List GRule)) : Prop := cs.length ≤ 1048576 ∧ ∀ c, c ∈ cs → Bq c
theorem Bs.bd {s : GRuleset} (h : Bs s.xChains) : Bd s := ⟨by have := h.1; omega, fun c hc => ⟨by have := (h.2 c hc).1; omega, fun r hr => by have : r.xTests.length ≤ 1048576 := (h.2 c hc).2 r hr; omega⟩⟩
theorem SV.bs {s : GRuleset} (h : SV s) : Bs s.xChains := ⟨by have := h.1.1; omega, fun c hc => ⟨by have := (h.1.2 c hc).1; omega, fun r hr => by have : r.xTests.length ≤ 6 := ((h.1.2 c hc).2 r hr).1.1.2; unfold Br; omega⟩⟩
theorem S_szTestS {a : List GTest} {left : Int} {κ : Int → Prop} (hl : a.length ≤ 9223372036854775807) (h0 : 0 ≤ left) (h1 : left ≤ 1048576) (hn : κ (-1)) (h : ∀ r, 0 ≤ r → r ≤ left → a.length ≤ 1048576 → κ r) : L_laws_szTestS a left κ := by
  unfold L_laws_szTestS
  refine subW_of (by omega) (by omega) (ifW_of (fun _ => hn) (fun hc => ?_))
  simp at hc
  exact h _ (by omega) (by omega) (by omega)
theorem S_szRule {x : GRule} {left : Int} {κ : Int → Prop} (hl : x.xTests.length ≤ 9223372036854775807) (h0 : 0 ≤ left) (h1 : left ≤ 1048576) (hn : κ (-1)) (h : ∀ r, 0 ≤ r → r ≤ left → Br x → κ r) : L_laws_szRule x left κ := by
  unfold L_laws_szRule
  refine S_szTestS hl h0 h1 (ifW_of (fun _ => hn) (fun hc => by simp at hc)) (fun r a b c => ifW_of (fun hc => by simp at hc; omega) (fun _ => h r a b c))
theorem S_szRuleS {a : List GRule} {left : Int} {κ : Int → Prop} (hl : a.length ≤ 9223372036854775807) (hl2 : ∀ r, r ∈ a → r.xTests.length ≤ 9223372036854775807) (h0 : 0 ≤ left) (h1 : left ≤ 1048576) (hn : κ (-1)) (h : ∀ r, 0 ≤ r → r ≤ left → Bq a → κ r) : L_laws_szRuleS a left κ := by
  unfold L_laws_szRuleS
  refine subW_of (by omega) (by omega) (ifW_of (fun _ => hn) (fun hc => ?_))
  simp at hc
  refine szG_loop Br a _ (by omega) (by omega) (by omega) (fun r a b c => h r a (by omega) ⟨by omega, c⟩) _ (fun nx r t g0 g1 g2 ht hf => ?_)
  refine ifW_of (fun hc => ?_) (fun hc => hf (by simpa using hc))
  have hlt : t < a.length := by simpa using hc
  refine idxW_of t rfl hlt ?_
  refine S_szRule (hl2 _ (List.getElem_mem hlt)) g0 g1 (ifW_of (fun _ => hn) (fun hc => by simp at hc)) (fun r' e0 e1 e2 => ifW_of (fun hc => by simp at hc; omega) (fun _ => addW_of (by omega) (by omega) ?_))
  exact ht _ (by simp [hlt]) r' e0 e1 e2
theorem S_szRuleSS {a : List (List GRule)} {left : Int} {κ : Int → Prop} (hl : a.length ≤ 9223372036854775807) (hl2 : ∀ c, c ∈ a → c.length ≤ 9223372036854775807 ∧ ∀ r, r ∈ c → r.xTests.length ≤ 9223372036854775807) (h0 : 0 ≤ left) (h1 : left ≤ 1048576) (hn : κ (-1)) (h : ∀ r, 0 ≤ r → r ≤ left → Bs a → κ r) : L_laws_szRuleSS a left κ := by
  unfold L_laws_szRuleSS
  refine subW_of (by omega) (by omega) (ifW_of (fun _ => hn) (fun hc => ?_))
  simp at hc
  refine szG_loop Bq a _ (by omega) (by omega) (by omega) (fun r a b c => h r a (by omega) ⟨by omega, c⟩) _ (fun nx r t g0 g1 g2 ht hf => ?_)
  refine ifW_of (fun hc => ?_) (fun hc => hf (by simpa using hc))
  have hlt : t < a.length := by simpa using hc
  refine idxW_of t rfl hlt ?_
  have hm := hl2 _ (List.getElem_mem hlt)
  refine S_szRuleS hm.1 hm.2 g0 g1 (ifW_of (fun _ => hn) (fun hc => by simp at hc)) (fun r' e0 e1 e2 => ifW_of (fun hc => by simp at hc; omega) (fun _ => addW_of (by omega) (by omega) ?_))
  exact ht _ (by simp [hlt]) r' e0 e1 e2
/-- the lengths of an argument are in range -/
def okRs (s : GRuleset) : Prop := s.xChains.length ≤ 9223372036854775807 ∧ ∀ c, c ∈ s.xChains → c.length ≤ 9223372036854775807 ∧ ∀ r, r ∈ c → r.xTests.length ≤ 9223372036854775807
theorem S_szRuleset {s : GRuleset} {left : Int} {κ : Int → Prop} (hl : okRs s) (h0 : 0 ≤ left) (h1 : left ≤ 1048576) (hn : κ (-1)) (h : ∀ r, 0 ≤ r → r ≤ left → Bs s.xChains → κ r) : L_laws_szRuleset s left κ := by
  unfold L_laws_szRuleset
  refine S_szRuleSS hl.1 hl.2 h0 h1 (ifW_of (fun _ => hn) (fun hc => by simp at hc)) (fun r a b c => ifW_of (fun hc => by simp at hc; omega) (fun _ => h r a b c))

theorem toRuleS_of {a : List GRule} {κ : List GRule → Prop} (hb : Bq a) (h : κ a) : L_laws_toRuleS a κ := by
  unfold L_laws_toRuleS
  have := hb.1
  refine makeW_of a.length rfl (by omega) (by omega) (copy_loop a id (by omega) (fun x ψ => L_laws_toRule x ψ) (fun x ψ hx hh => toRule_of (by have : x.xTests.length ≤ 1048576 := hb.2 x hx; omega) hh) (by simpa using h) (by simp) _ (fun nx xs t hh => hh))
theorem toRuleSS_of {a : List (List GRule)} {κ : List (List GRule) → Prop} (hb : Bs a) (h : κ a) : L_laws_toRuleSS a κ := by
  unfold L_laws_toRuleSS
  have := hb.1
  refine makeW_of a.length rfl (by omega) (by omega) (copy_loop a id (by omega) (fun x ψ => L_laws_toRuleS x ψ) (fun x ψ hx hh => toRuleS_of (hb.2 x hx) hh) (by simpa using h) (by simp) _ (fun nx xs t hh => hh))
theorem toRuleset_of {s : GRuleset} {κ : GRuleset → Prop} (hb : Bs s.xChains) (h : κ s) : L_laws_toRuleset s κ := by
  unfold L_laws_toRuleset
  exact toRuleSS_of hb h
theorem eqRuleS_self {a : List GRule} {κ : Bool → Prop} (hb : Bq a) (h : κ true) : L_laws_eqRuleS a a κ := by
  unfold L_laws_eqRuleS
  have := hb.1
  refine ifW_of (fun hc => by simp at hc) (fun _ => eqS_loop a (by omega) h _ (fun nx t g ht hf => ifW_of (fun hc => ?_) (fun hc => hf (by simpa using hc))))
  have hlt : t < a.length := by simpa using hc
  obtain ⟨hm, hn⟩ := ht a[t] (by simp [hlt])
  refine idxW_of t rfl hlt (idxW_of t rfl hlt (eqRule_self (by have : a[t].xTests.length ≤ 1048576 := hb.2 _ hm; omega) ?_))
  simp only [Bool.not_true, ifW_false]
  exact addW_of (by omega) (by omega) hn
theorem eqRuleSS_self {a : List (List GRule)} {κ : Bool → Prop} (hb : Bs a) (h : κ true) : L_laws_eqRuleSS a a κ := by
  unfold L_laws_eqRuleSS
  have := hb.1
  refine ifW_of (fun hc => by simp at hc) (fun _ => eqS_loop a (by omega) h _ (fun nx t g ht hf => ifW_of (fun hc => ?_) (fun hc => hf (by simpa using hc))))
  have hlt : t < a.length := by simpa using hc
  obtain ⟨hm, hn⟩ := ht a[t] (by simp [hlt])
  refine idxW_of t rfl hlt (idxW_of t rfl hlt (eqRuleS_self (hb.2 _ hm) ?_))
  simp only [Bool.not_true, ifW_false]
  exact addW_of (by omega) (by omega) hn
theorem eqRuleset_self {s : GRuleset} {κ : Bool → Prop} (hb : Bs s.xChains) (h : κ true) : L_laws_eqRuleset s s κ := by
  unfold L_laws_eqRuleset
  refine eqRuleSS_self hb ?_
  simp only [Bool.not_true, ifW_false]
  refine ifW_of (fun hc => by simp at hc) (fun _ => h)
/-! marks -/
def fT (k : Int) (_ : GTest) : Int × GTest := (k + 4, mkT k)
def fR (k : Int) (r : GRule) : Int × GRule := ((mkL fT k r.xTests).1 + 2, GRule.mk (mkL fT k r.xTests).2 (mkL fT k r.xTests).1 ((mkL fT k r.xTests).1 + 1))
def fC (k : Int) (c : List GRule) : Int × List GRule := mkL fR k c
theorem fT_bd (x : GTest) (k : Int) (_ : 1 ≤ k) : k ≤ (fT k x).1 ∧ (fT k x).1 ≤ k + 4 := by simp [fT]; omega
theorem fR_bd {x : GRule} (h : Br x) (k : Int) (hk : 1 ≤ k) : k ≤ (fR k x).1 ∧ (fR k x).1 ≤ k + 4194306 := by
  have h' : x.xTests.length ≤ 1048576 := h
  obtain ⟨a, b⟩ := mkL_le fT 4 (by decide) k x.xTests hk (fun x _ => fT_bd x)
  simp only [fR]; omega
theorem fC_bd {x : List GRule} (h : Bq x) (k : Int) (hk : 1 ≤ k) : k ≤ (fC k x).1 ∧ (fC k x).1 ≤ k + 4398048608256 := by
  have h' : x.length ≤ 1048576 := h.1
  obtain ⟨a, b⟩ := mkL_le fR 4194306 (by decide) k x hk (fun x hx => fR_bd (h.2 x hx))
  simp only [fC]; omega
theorem markTestS_of {a : List GTest} {k0 : Int} {κ : Int × List GTest → Prop} (hl : a.length ≤ 1048576) (h0 : 1 ≤ k0) (h1 : k0 + 4194304 ≤ 9000000000000000000) (h : κ (mkL fT k0 a)) : L_laws_markTestS a k0 κ := by
  unfold L_laws_markTestS
  refine markG_loop fT 4 1048576 a k0 (by omega) (by decide) (by decide) h0 (by omega) (fun x _ => fT_bd x) h _ (fun nx xs k t g0 g1 ht hf => ifW_of (fun hc => ?_) (fun hc => hf (by simpa using hc)))
  have hlt : t < xs.length := by simpa using hc
  obtain ⟨_, hk, hn⟩ := ht xs[t] (by simp [hlt])
  refine idxW_of t rfl hlt (addW_of (by omega) (by omega) (idxW_set hlt (addW_of (by omega) (by omega) (idxW_set (set_lt hlt) (addW_of (by omega) (by omega) (remW_of (by omega) (by omega) (by omega) (idxW_set (set_lt (set_lt hlt)) (addW_of (by omega) (by omega) (addW_of (by omega) (by omega) ?_)))))))))
  simp only [List.set_set, Int.toNat_natCast]
  have e1 : k + 1 + 1 + 1 + 1 = k + 4 := by omega
  have e2 : k + 1 + 1 + 1 = k + 3 := by omega
  have e3 : k + 1 + 1 = k + 2 := by omega
  rw [e1, e2, e3]
  exact hn
theorem markRuleS_of {a : List GRule} {k0 : Int} {κ : Int × List GRule → Prop} (hb : Bq a) (h0 : 1 ≤ k0) (h1 : k0 + 4398048608256 ≤ 9000000000000000000) (h : κ (fC k0 a)) : L_laws_markRuleS a k0 κ := by
  unfold L_laws_markRuleS
  have := hb.1
  refine markG_loop fR 4194306 1048576 a k0 (by omega) (by decide) (by decide) h0 (by omega) (fun x hx => fR_bd (hb.2 x hx)) h _ (fun nx xs k t g0 g1 ht hf => ifW_of (fun hc => ?_) (fun hc => hf (by simpa using hc)))
  have hlt : t < xs.length := by simpa using hc
  obtain ⟨hm, hk, hn⟩ := ht xs[t] (by simp [hlt])
  have hbr : xs[t].xTests.length ≤ 1048576 := hb.2 _ hm
  obtain ⟨b1, b2⟩ := fR_bd (hb.2 _ hm) k g0
  simp only [fR] at b1 b2 hn
  refine idxW_of t rfl hlt (markTestS_of hbr g0 (by omega) ?_)
  refine idxW_set hlt (addW_of (by omega) (by omega) (idxW_set (set_lt hlt) (addW_of (by omega) (by omega) (addW_of (by omega) (by omega) ?_))))
  simp only [List.set_set, Int.toNat_natCast]
  have e3 : (mkL fT k xs[t].xTests).1 + 1 + 1 = (mkL fT k xs[t].xTests).1 + 2 := by omega
  rw [e3]
  exact hn
theorem markRuleSS_of {a : List (List GRule)} {k0 : Int} {κ : Int × List (List GRule) → Prop} (hb : Bs a) (h0 : 1 ≤ k0) (h1 : k0 ≤ 1048576) (h : κ (mkL fC k0 a)) : L_laws_markRuleSS a k0 κ := by
  unfold L_laws_markRuleSS
  have := hb.1
  refine markG_loop fC 4398048608256 1048576 a k0 (by omega) (by decide) (by decide) h0 (by omega) (fun x hx => fC_bd (hb.2 x hx)) h _ (fun nx xs k t g0 g1 ht hf => ifW_of (fun hc => ?_) (fun hc => hf (by simpa using hc)))
  have hlt : t < xs.length := by simpa using hc
  obtain ⟨hm, hk, hn⟩ := ht xs[t] (by simp [hlt])
  refine idxW_of t rfl hlt (markRuleS_of (hb.2 _ hm) g0 (by omega) (addW_of (by omega) (by omega) ?_))
  simp only [Int.toNat_natCast]
  exact hn
theorem markRuleset_of {a : List (List GRule)} {c : Bool} {k0 : Int} {κ : Int × List (List GRule) → Prop} (hb : Bs a) (h0 : 1 ≤ k0) (h1 : k0 ≤ 1048576) (h : κ (mkL fC k0 a)) : L_laws_markRuleset a c k0 κ := by
  unfold L_laws_markRuleset
  exact markRuleSS_of hb h0 h1 h
theorem mkC_bd {a : List (List GRule)} (hb : Bs a) (k : Int) (hk : 1 ≤ k) : k ≤ (mkL fC k a).1 ∧ (mkL fC k a).1 ≤ k + 4611688217450643456 := by
  have h' : a.length ≤ 1048576 := hb.1
  obtain ⟨x, y⟩ := mkL_le fC 4398048608256 (by decide) k a hk (fun x hx => fC_bd (hb.2 x hx))
  omega
/-! lines -/
theorem eqStringS_self {a : List ByteArray} {κ : Bool → Prop} (hl : a.length ≤ 4294967296) (h : κ true) : L_laws_eqStringS a a κ := by
  unfold L_laws_eqStringS
  refine ifW_of (fun hc => by simp at hc) (fun _ => eqS_loop a hl h _ (fun nx t g ht hf => ifW_of (fun hc => ?_) (fun hc => hf (by simpa using hc))))
  have hlt : t < a.length := by simpa using hc
  obtain ⟨hm, hn⟩ := ht a[t] (by simp [hlt])
  refine idxW_of t rfl hlt (idxW_of t rfl hlt (ifW_of (fun hc => by simp at hc) (fun _ => addW_of (by omega) (by omega) hn)))
/-- the mark of a text -/
def mkX (k : Int) : ByteArray := B (109 :: decDigits k.toNat)
theorem S_markText {k : Int} {κ : ByteArray → Prop} (h0 : 0 < k) (h1 : k ≤ 9000000000000000000) (h : κ (mkX k)) : L_laws_markText k κ := by
  obtain ⟨n, rfl⟩ := Int.eq_ofNat_of_zero_le (Int.le_of_lt h0)
  have hlen : (decDigits n).length ≤ 20 := dec_len 19 n (Nat.lt_of_le_of_lt (show n ≤ 9000000000000000000 by omega) (by decide))
  unfold mkX at h
  rw [Int.toNat_natCast] at h
  unfold L_laws_markText
  refine ifW_of (fun hc => by simp at hc; omega) (fun _ => ?_)
  refine loopW_inv (fun s => ∃ (m : Nat) (l : List UInt8), s = ((m : Int), B l) ∧ m ≤ n ∧ (0 < m → decDigits n = decDigits m ++ l) ∧ (m = 0 → decDigits n = l)) (fun s => s.1.toNat) ?_ ⟨n, [], rfl, Nat.le_refl _, fun _ => by simp, fun hh => by omega⟩
  rintro _ next ⟨m, l, rfl, hm, he, he0⟩ hn
  have hl : l.length ≤ 20 := by
    rcases Nat.eq_zero_or_pos m with e | e
    · rw [← he0 e]; exact hlen
    · have := congrArg List.length (he e); simp at this; omega
  refine ifW_of (fun hc => ?_) (fun hc => ?_)
  · simp at hc
    refine remW_of (by omega) (by omega) (by omega) (addW_of (by omega) (by omega) (byteU_of (48 + m % 10) (by omega) (by omega) ?_))
    refine catW_B (l := [UInt8.ofNat (48 + m % 10)]) (by simp; omega) (quoW_of (by omega) (by omega) (by omega) ?_)
    have hs := preD_step (m := m)
    refine hn _ ⟨m / 10, _, by rw [show ((m : Int) / 10) = ((m / 10 : Nat) : Int) by omega], by omega, fun hp => ?_, fun hz => ?_⟩ (by simp; omega)
    · rw [he (by omega), hs, show preD m = decDigits (m / 10) by unfold preD; rw [if_neg (by omega)]]
      simp
    · rw [he (by omega), hs, show preD m = [] by unfold preD; rw [if_pos (by omega)]]
      rfl
  · simp at hc
    rw [he0 (by omega)] at h
    exact catW_B (l := [109]) (by simp; omega) h
def fX (k : Int) (_ : ByteArray) : Int × ByteArray := (k + 1, mkX k)
theorem fX_bd (x : ByteArray) (k : Int) (_ : 1 ≤ k) : k ≤ (fX k x).1 ∧ (fX k x).1 ≤ k + 1 := by simp [fX]; omega
theorem markStringS_of {a : List ByteArray} {κ : Int × List ByteArray → Prop} (hl : a.length ≤ 1048576) (h : κ (mkL fX 1 a)) : L_laws_markStringS a 1 κ := by
  unfold L_laws_markStringS
  refine markG_loop fX 1 1048576 a 1 (by omega) (by decide) (by decide) (by decide) (by decide) (fun x _ => fX_bd x) h _ (fun nx xs k t g0 g1 ht hf => ifW_of (fun hc => ?_) (fun hc => hf (by simpa using hc)))
  have hlt : t < xs.length := by simpa using hc
  obtain ⟨_, hk, hn⟩ := ht xs[t] (by simp [hlt])
  refine S_markText (by omega) (by omega) (idxW_of t rfl hlt (addW_of (by omega) (by omega) (addW_of (by omega) (by omega) ?_)))
  simp only [Int.toNat_natCast]
  exact hn
theorem heldStringS_of {a : List ByteArray} {κ : Int → Prop} (hl : a.length ≤ 1048576) (h : κ (mkL fX 1 a).1) : L_laws_heldStringS (mkL fX 1 a).2 1 κ := by
  unfold L_laws_heldStringS
  refine heldG_loop fX 1 1048576 a 1 (by omega) (by decide) (by decide) (by decide) (by decide) (fun x _ => fX_bd x) h _ (fun nx k t g0 g1 ht hf => ifW_of (fun hc => ?_) (fun hc => hf (by rw [mkL_len] at hc; simpa using hc)))
  rw [mkL_len] at hc
  have hlt : t < a.length := by simpa using hc
  obtain ⟨_, hk, hg, hn⟩ := ht a[t] (by simp [hlt])
  refine idxW_at hg (S_markText (by omega) (by omega) (ifW_of (fun hc => by simp [fX] at hc) (fun _ => addW_of (by omega) (by omega) (addW_of (by omega) (by omega) hn))))
theorem mkX_bd (a : List ByteArray) (hl : a.length ≤ 1048576) : 1 ≤ (mkL fX 1 a).1 ∧ (mkL fX 1 a).1 ≤ 1048577 := by
  obtain ⟨x, y⟩ := mkL_le fX 1 (by decide) 1 a (by decide) (fun x _ => fX_bd x)
  omega

end
section
open Go.Lib (decDigits)

/-- lines that are not too long -/
def Bl (ls : List (List UInt8)) : Prop := ls.length ≤ 3000000 ∧ ∀ l, l ∈ ls → l.length ≤ 10000000
theorem Bl.take {ls : List (List UInt8)} (h : Bl ls) (n : Nat) : Bl (ls.take n) := ⟨by have := h.1; simp; omega, fun l hl => h.2 l (List.mem_of_mem_take hl)⟩
/-! the reference -/
/-- sizes of what the reference reads -/
def Zs (k : Nat) (cs : List (List GRule)) : Prop := cs.length ≤ k ∧ ∀ c, c ∈ cs → c.length ≤ k ∧ ∀ r, r ∈ c → RV r
theorem Zs.bd {k : Nat} {cs : List (List GRule)} {a : Bool} (h : Zs k cs) (hk : k ≤ 4000000) : Bd ⟨cs, a⟩ := ⟨by have := h.1; simp only; omega, fun c hc => ⟨by have := (h.2 c hc).1; omega, fun r hr => by have : r.xTests.length ≤ 6 := ((h.2 c hc).2 r hr).1.2; omega⟩⟩
end
section
open Go.Lib (decDigits)

/-- lines that are drawn -/
def Bw (ls : List ByteArray) : Prop := ls.length ≤ 1000 ∧ ∀ x, x ∈ ls → x.size ≤ 5000
theorem rlines_bw {s : GRuleset} (h : SV s) : Bw (rlines s) ∧ (rlines s).length ≤ 50 ∧ 0 < (rlines s).length := by
  have hc := h.1.1
  have hs := sumL_le s.xChains (fun c hc => (h.1.2 c hc).1)
  have hl : (rlines s).length ≤ 50 := by simp [rlines, lsF_len]; omega
  refine ⟨⟨by omega, fun x hx => ?_⟩, hl, by simp [rlines]⟩
  simp only [rlines, List.mem_cons] at hx
  rcases hx with rfl | hx
  · rw [B_size]; unfold dft; split <;> decide
  · have key : ∀ (cs : List (List GRule)) (k : Nat), k + cs.length ≤ 1000 → (∀ c, c ∈ cs → ∀ r, r ∈ c → RV r) → ∀ x, x ∈ lsF k cs → x.size ≤ 5000 := by
      intro cs
      induction cs with
      | nil => intro k _ _ x hx; simp [lsF] at hx
      | cons c cs ih =>
        intro k hk hv x hx
        simp only [List.length_cons] at hk
        simp only [lsF, List.cons_append, List.mem_cons, List.mem_append, List.mem_map] at hx
        rcases hx with rfl | ⟨r, hr, rfl⟩ | hx
        · have := dec_len 6 k (by omega)
          rw [B_size]; simp [chl]; omega
        · have := rtx0_len (hv c (by simp) r hr)
          rw [B_size]; omega
        · exact ih (k + 1) (by omega) (fun c hc => hv c (by simp [hc])) x hx
    exact key s.xChains 0 (by omega) (fun c hc r hr => ((h.1.2 c hc).2 r hr).1) x hx
end
section
open Go.Lib (decDigits)

/-! the lines of a ruleset, read again -/
/-! exact laws -/
theorem exactRulesetText_of {s : GRuleset} {w : List ByteArray} (hl : okRs s) (hw : w.length ≤ 1048576) (hS : Bs s.xChains → ∀ κ : List ByteArray → Prop, κ w → L_spec_RulesetText s κ) (hI : Bs s.xChains → ∀ κ : List ByteArray → Prop, κ w → L_impl_RulesetText s κ) : L_laws_FnExactRulesetText s (fun x => x = true) := by
  unfold L_laws_FnExactRulesetText
  refine S_szRuleset hl (by decide) (by decide) (ifW_of (fun _ => rfl) (fun hx => by simp at hx)) (fun r r0 r1 hb => ifW_of (fun hx => by simp at hx; omega) (fun _ => ?_))
  refine toRuleset_of hb (hS hb _ (toRuleset_of hb (hI hb _ (eqStringS_self (by omega) ?_))))
  simp only [Bool.not_true, ifW_false]
  refine toRuleset_of hb (eqRuleset_self hb ?_)
  simp only [Bool.not_true, ifW_false]
  have hm := mkC_bd hb 1 (by decide)
  refine markRuleset_of hb (by decide) (by decide) ?_
  show jnW _ _
  unfold jnW
  refine ifW_of (fun hx => by simp at hx; omega) (fun _ => eqStringS_self (by omega) ?_)
  simp only [Bool.not_true, ifW_false]
  refine markStringS_of hw ?_
  show L_laws_heldStringS (mkL fX 1 w).2 1 _
  have hx := mkX_bd w hw
  refine heldStringS_of hw (ifW_of (fun hx => by simp at hx; omega) (fun _ => ifW_of (fun hx => by simp at hx) (fun _ => ?_)))
  refine toRuleset_of hb (hI hb _ (eqStringS_self (by omega) ?_))
  simp only [Bool.not_true, ifW_false]
  exact heldStringS_of hw (ifW_of (fun hx => by simp at hx; omega) (fun _ => ifW_of (fun hx => by simp at hx) (fun _ => by trivial)))
theorem pureFnExactRulesetText (s : GRuleset) (hl : okRs s) : L_laws_FnExactRulesetText s (fun x => x = true) := by
  by_cases hv : SV s
  · have := (rlines_bw hv).2.1
    exact exactRulesetText_of (w := rlines s) hl (by omega) (fun hb κ h => S_spec_RulesetText hb.bd (fun _ => h) (fun hn => absurd hv hn)) (fun hb κ h => S_impl_RulesetText hb.bd (fun _ => h) (fun hn => absurd hv hn))
  · exact exactRulesetText_of (w := []) hl (by simp) (fun hb κ h => S_spec_RulesetText hb.bd (fun hn => absurd hn hv) (fun _ => h)) (fun hb κ h => S_impl_RulesetText hb.bd (fun hn => absurd hn hv) (fun _ => h))
/-! drawn laws -/
end

end Go.Proofs.YtlcjkhnamgklgaaDoor
