/- Texts of this seat, put together. -/
import Derived.Test.YtigdghiknfehhaaDoorEls
import Derived.Test.YtigdghiknfehhaaDoorMA0
import Derived.Laws.BitsLemmas
import Derived.Test.YtigdghiknfehhaaDoorRows
import Derived.Test.YtigdghiknfehhaaDoorMA1
set_option linter.unusedSimpArgs false
set_option linter.unusedVariables false
namespace Go.Proofs.YtigdghiknfehhaaDoor
section
open Go.RowKit
@[ext] structure GTest where
  xField : Int
  xLo : Int
  xHi : Int
  xNot : Bool
  deriving DecidableEq
def encGTest (x : GTest) : List Value := [(.int .i64 x.xField), (.int .i64 x.xLo), (.int .i64 x.xHi), (.bool x.xNot)]
def elGTest : El GTest := El.flat 4 encGTest (by decide) (fun _ => rfl) (fun x u h => by simp only [encGTest, List.mem_cons, List.not_mem_nil, or_false] at h; rcases h with rfl | rfl | rfl | rfl <;> rfl)
theorem flelGTest : Flat elGTest encGTest := flat_flat
abbrev dGTest : DEl GTest := dflat elGTest encGTest flelGTest
@[ext] structure GRule where
  xTests : (List GTest)
  xAction : Int
  xChain : Int
  deriving DecidableEq
def encGRule (u : Value) (x : GRule) : List Value := [u, (.int .i64 x.xAction), (.int .i64 x.xChain)]
def elGRule : El GRule where
  size := 3
  cells := fun F w x cs => ∃ u : Value, cs = encGRule u x ∧ Sl elGTest F w u x.xTests
  pos := by decide
  len := fun F w x cs ⟨u, e, _⟩ => by rw [e]; rfl
  one := fun F w x cs ⟨u, e, h⟩ v hv => by
    subst e
    simp only [encGRule, List.mem_cons, List.not_mem_nil, or_false] at hv
    rcases hv with e | e | e
    · subst e; exact h.one
    · subst e; exact rfl
    · subst e; exact rfl
  keep := fun F F' w w' x cs hF hb ⟨u, e, h⟩ => ⟨u, e, h.keep hF hb⟩
def dGRule : DEl GRule where
  el := elGRule
  own := fun B w x cs => ∃ u : Value, cs = encGRule u x ∧ Dp dGTest 173 B w u x.xTests
  read := fun B w x cs ⟨u, e, h⟩ => ⟨u, e, h.sl⟩
  keep := fun B w w' x cs hk ⟨u, e, h⟩ => ⟨u, e, h.keep hk⟩
  lt := fun B w x cs ⟨u, e, h⟩ => h.lt
@[ext] structure GRuleset where
  xChains : (List (List GRule))
  xAccept : Bool
  deriving DecidableEq
def encGRuleset (u : Value) (x : GRuleset) : List Value := [u, (.bool x.xAccept)]
def elGRuleset : El GRuleset where
  size := 2
  cells := fun F w x cs => ∃ u : Value, cs = encGRuleset u x ∧ Sl (elSl elGRule) F w u x.xChains
  pos := by decide
  len := fun F w x cs ⟨u, e, _⟩ => by rw [e]; rfl
  one := fun F w x cs ⟨u, e, h⟩ v hv => by
    subst e
    simp only [encGRuleset, List.mem_cons, List.not_mem_nil, or_false] at hv
    rcases hv with e | e
    · subst e; exact h.one
    · subst e; exact rfl
  keep := fun F F' w w' x cs hF hb ⟨u, e, h⟩ => ⟨u, e, h.keep hF hb⟩
@[ext] structure GPacket where
  xFrom : Int
  xTo : Int
  xPort : Int
  xProto : Int
  deriving DecidableEq
def encGPacket (x : GPacket) : List Value := [(.int .i64 x.xFrom), (.int .i64 x.xTo), (.int .i64 x.xPort), (.int .i64 x.xProto)]
@[ext] structure A4Int where
  x0 : Int
  x1 : Int
  x2 : Int
  x3 : Int
  deriving DecidableEq
@[ext] structure GDeciding where
  xAccept : Bool
  deriving DecidableEq
@[ext] structure GCalling where
  xChain : Int
  deriving DecidableEq
@[ext] structure GReturning where
  deriving DecidableEq
@[ext] structure GPassing where
  deriving DecidableEq
@[ext] structure GFlow where
  xWho : GPacket
  xUntil : Int
  deriving DecidableEq
def encGFlow (x : GFlow) : List Value := [(.int .i64 x.xWho.xFrom), (.int .i64 x.xWho.xTo), (.int .i64 x.xWho.xPort), (.int .i64 x.xWho.xProto), (.int .i64 x.xUntil)]
def elGFlow : El GFlow := El.flat 5 encGFlow (by decide) (fun _ => rfl) (fun x u h => by simp only [encGFlow, List.mem_cons, List.not_mem_nil, or_false] at h; rcases h with rfl | rfl | rfl | rfl | rfl <;> rfl)
theorem flelGFlow : Flat elGFlow encGFlow := flat_flat
@[ext] structure GPlace where
  xChain : Int
  xNext : Int
  deriving DecidableEq
def encGPlace (x : GPlace) : List Value := [(.int .i64 x.xChain), (.int .i64 x.xNext)]
def elGPlace : El GPlace := El.flat 2 encGPlace (by decide) (fun _ => rfl) (fun x u h => by simp only [encGPlace, List.mem_cons, List.not_mem_nil, or_false] at h; rcases h with rfl | rfl <;> rfl)
theorem flelGPlace : Flat elGPlace encGPlace := flat_flat
@[ext] structure GVisit where
  xChain : Int
  xPlace : Int
  deriving DecidableEq
def encGVisit (x : GVisit) : List Value := [(.int .i64 x.xChain), (.int .i64 x.xPlace)]
def elGVisit : El GVisit := El.flat 2 encGVisit (by decide) (fun _ => rfl) (fun x u h => by simp only [encGVisit, List.mem_cons, List.not_mem_nil, or_false] at h; rcases h with rfl | rfl <;> rfl)
theorem flelGVisit : Flat elGVisit encGVisit := flat_flat
@[ext] structure GFieldShape where
  xName : ByteArray
  xTop : Int
  deriving DecidableEq
def encGFieldShape (x : GFieldShape) : List Value := [(.string x.xName), (.int .i64 x.xTop)]
def elGFieldShape : El GFieldShape := El.flat 2 encGFieldShape (by decide) (fun _ => rfl) (fun x u h => by simp only [encGFieldShape, List.mem_cons, List.not_mem_nil, or_false] at h; rcases h with rfl | rfl <;> rfl)
theorem flelGFieldShape : Flat elGFieldShape encGFieldShape := flat_flat
inductive IAction where
  | kDeciding (x : GDeciding)
  | kCalling (x : GCalling)
  | kReturning (x : GReturning)
  | kPassing (x : GPassing)
def ivIAction : IAction → Value
  | .kDeciding x => .iface 178 (.agg #[(.bool x.xAccept)])
  | .kCalling x => .iface 180 (.agg #[(.int .i64 x.xChain)])
  | .kReturning x => .iface 182 (.agg #[])
  | .kPassing x => .iface 183 (.agg #[])
def IAction.casesW (a : IAction) (p0 : GDeciding → Prop) (p1 : GCalling → Prop) (p2 : GReturning → Prop) (p3 : GPassing → Prop) : Prop := match a with
  | .kDeciding x => p0 x
  | .kCalling x => p1 x
  | .kReturning x => p2 x
  | .kPassing x => p3 x
/-- what the package-level variable reads as -/
def gl_impl_fieldShapes : List GFieldShape := [⟨(ByteArray.mk #[102, 114, 111, 109]), 65535⟩, ⟨(ByteArray.mk #[116, 111]), 65535⟩, ⟨(ByteArray.mk #[112, 111, 114, 116]), 255⟩, ⟨(ByteArray.mk #[112, 114, 111, 116, 111]), 7⟩]

def L_spec_FieldTop (n_0 : Int) (κ : Int → Prop) : Prop :=
  jnW (fun (t61 : Bool) => ifW t61 (κ 65535) (ifW (decide (n_0 = 2)) (κ 255) (ifW (decide (n_0 = 3)) (κ 7) (κ (-1))))) (fun k62 => ifW (decide (n_0 = 0)) (k62 (decide (n_0 = 0))) (k62 (decide (n_0 = 1))))

def L_spec_l1In (n_0 : Int) (lo_1 : Int) (hi_2 : Int) (κ : Bool → Prop) : Prop :=
  jnW (fun (t61 : Bool) => κ t61) (fun k62 => ifW (decide (lo_1 ≤ n_0)) (k62 (decide (n_0 ≤ hi_2))) (k62 false))

def L_spec_PacketValid (p_0 : GPacket) (κ : Bool → Prop) : Prop :=
  jnW (fun (t67 : Bool) => κ t67) (fun k68 => L_spec_l1In p_0.xFrom 0 65535 (fun r3 => ifW r3 (L_spec_l1In p_0.xTo 0 65535 (fun r4 => ifW r4 (L_spec_l1In p_0.xPort 0 255 (fun r5 => ifW r5 (L_spec_l1In p_0.xProto 0 7 (fun r6 => k68 r6)) (k68 false))) (k68 false))) (k68 false)))

def L_spec_ReversePacket (p_0 : GPacket) (κ : GPacket → Prop) : Prop :=
  L_spec_PacketValid p_0 (fun r5 => ifW (!r5) (κ (GPacket.mk 0 0 0 0)) (κ (GPacket.mk p_0.xTo p_0.xFrom p_0.xPort p_0.xProto)))

def L_impl_FieldTop (n_0 : Int) (κ : Int → Prop) : Prop :=
  jnW (fun (t61 : Bool) => ifW t61 (κ (-1)) (idxW gl_impl_fieldShapes n_0 (fun e63 => κ e63.xTop))) (fun k62 => ifW (decide (n_0 < 0)) (k62 true) (k62 (decide (4 ≤ n_0))))

def L_impl_TestValid (t_0 : GTest) (κ : Bool → Prop) : Prop :=
  jnW (fun (t64 : Bool) => κ t64) (fun k65 => ifW (decide (0 ≤ t_0.xField)) (ifW (decide (t_0.xField < 4)) (ifW (decide (0 ≤ t_0.xLo)) (ifW (decide (t_0.xLo ≤ t_0.xHi)) (L_impl_FieldTop t_0.xField (fun r3 => k65 (decide (t_0.xHi ≤ r3)))) (k65 false)) (k65 false)) (k65 false)) (k65 false))

def L_impl_TestsValid (list_0 : (List GTest)) (κ : Bool → Prop) : Prop :=
  ifW (decide (6 < (list_0.length : Int))) (κ false) (loopW (fun (nx4 : Int → Prop) (t3 : Int) => ifW (decide (t3 < (list_0.length : Int))) (idxW list_0 t3 (fun e5 => L_impl_TestValid e5 (fun r9 => ifW (!r9) (κ false) (addW t3 1 (fun t10 => nx4 t10))))) (κ true)) 0)

def L_impl_RuleValid (r_0 : GRule) (κ : Bool → Prop) : Prop :=
  L_impl_TestsValid r_0.xTests (fun r8 => ifW (!r8) (κ false) (ifW (decide (r_0.xAction = 3)) (jnW (fun (t69 : Bool) => κ t69) (fun k70 => ifW (decide (0 ≤ r_0.xChain)) (k70 (decide (r_0.xChain < 5))) (k70 false))) (jnW (fun (t131 : Bool) => ifW t131 (κ (decide (r_0.xChain = 0))) (κ false)) (fun k132 => ifW (decide (r_0.xAction = 1)) (k132 (decide (r_0.xAction = 1))) (ifW (decide (r_0.xAction = 2)) (k132 (decide (r_0.xAction = 2))) (ifW (decide (r_0.xAction = 4)) (k132 (decide (r_0.xAction = 4))) (k132 (decide (r_0.xAction = 5)))))))))

def L_impl_RulesValid (list_0 : (List GRule)) (κ : Bool → Prop) : Prop :=
  ifW (decide (8 < (list_0.length : Int))) (κ false) (loopW (fun (nx4 : Int → Prop) (t3 : Int) => ifW (decide (t3 < (list_0.length : Int))) (idxW list_0 t3 (fun e5 => L_impl_RuleValid e5 (fun r16 => ifW (!r16) (κ false) (addW t3 1 (fun t17 => nx4 t17))))) (κ true)) 0)

def L_impl_callsIn (rules_0 : (List GRule)) (κ : (List Int) → Prop) : Prop :=
  loopW (fun (nx9 : ((List Bool) × Int) → Prop) ((xs6, t8) : ((List Bool) × Int)) => ifW (decide (t8 < (rules_0.length : Int))) (jnW (fun (xs84 : (List Bool)) => addW t8 1 (fun t87 => nx9 (xs84, t87))) (fun k86 => idxW rules_0 t8 (fun e10 => ifW (decide (e10.xAction = 3)) (idxW xs6 e10.xChain (fun e21 => k86 (xs6.set (e10.xChain).toNat true))) (k86 xs6)))) (unl5 xs6 (fun e89 e90 e91 e92 e93 => loopW (fun (nx100 : ((List Int) × Int) → Prop) ((xs96, t99) : ((List Int) × Int)) => ifW (decide (t99 < 5)) (jnW (fun (xs166 : (List Int)) => addW t99 1 (fun t170 => nx100 (xs166, t170))) (fun k169 => idxW ([e89, e90, e91, e92, e93]) t99 (fun e101 => ifW e101 (appW xs96 ([t99]) (fun _ => k169 (xs96 ++ ([t99])))) (k169 xs96)))) (κ xs96)) ([], 0)))) ([false, false, false, false, false], 0)

def B_impl_visitCalls (rec : ((List (List GRule)) → Int → (List Int) → ((Bool × (List Int)) → Prop) → Prop)) (chains_0 : (List (List GRule))) (chain_1 : Int) (colours_2 : (List Int)) (κ : (Bool × (List Int)) → Prop) : Prop :=
  ifW (decide ((chains_0.length : Int) ≤ chain_1)) (κ (true, colours_2)) (idxW colours_2 chain_1 (fun e5 => ifW (decide (e5 = 1)) (κ (false, colours_2)) (ifW (decide (e5 = 2)) (κ (true, colours_2)) (idxW colours_2 chain_1 (fun e7 => idxW chains_0 chain_1 (fun e10 => L_impl_callsIn e10 (fun r16 => loopW (fun (nx23 : ((List Int) × Bool × Int) → Prop) ((xs19, t21, t22) : ((List Int) × Bool × Int)) => ifW (decide (t22 < (r16.length : Int))) (jnW (fun ((xs89, t91) : ((List Int) × Bool)) => addW t22 1 (fun t93 => nx23 (xs89, t91, t93))) (fun k92 => idxW r16 t22 (fun e24 => rec chains_0 e24 xs19 (fun (r26, r27) => ifW (!r26) (k92 (r27, false)) (k92 (r27, t21)))))) (idxW xs19 chain_1 (fun e94 => κ (t21, (xs19.set (chain_1).toNat 2))))) ((colours_2.set (chain_1).toNat 1), true, 0))))))))
def R_impl_visitCalls : Nat → (List (List GRule)) → Int → (List Int) → ((Bool × (List Int)) → Prop) → Prop
  | 0 => fun _ _ _ _ => False
  | n + 1 => B_impl_visitCalls (R_impl_visitCalls n)
def L_impl_visitCalls (chains_0 : (List (List GRule))) (chain_1 : Int) (colours_2 : (List Int)) (κ : (Bool × (List Int)) → Prop) : Prop := ∃ n, R_impl_visitCalls n chains_0 chain_1 colours_2 κ

def L_impl_acyclic (chains_0 : (List (List GRule))) (κ : Bool → Prop) : Prop :=
  loopW (fun (nx8 : ((List Int) × Int) → Prop) ((xs5, t7) : ((List Int) × Int)) => ifW (decide (t7 < (chains_0.length : Int))) (L_impl_visitCalls chains_0 t7 xs5 (fun (r9, r10) => ifW (!r9) (κ false) (addW t7 1 (fun t12 => nx8 (r10, t12))))) (κ true)) ([0, 0, 0, 0, 0], 0)

def L_impl_RulesetValid (s_0 : GRuleset) (κ : Bool → Prop) : Prop :=
  jnW (fun (t68 : Bool) => ifW t68 (κ false) (loopW (fun (nx71 : Int → Prop) (t70 : Int) => ifW (decide (t70 < (s_0.xChains.length : Int))) (idxW s_0.xChains t70 (fun e72 => L_impl_RulesValid e72 (fun r78 => ifW (!r78) (κ false) (addW t70 1 (fun t79 => nx71 t79))))) (loopW (fun (nx81 : Int → Prop) (t80 : Int) => ifW (decide (t80 < (s_0.xChains.length : Int))) (idxW s_0.xChains t80 (fun e82 => L_impl_callsIn e82 (fun r88 => loopW (fun (nx92 : Int → Prop) (t91 : Int) => ifW (decide (t91 < (r88.length : Int))) (idxW r88 t91 (fun e93 => ifW (decide ((s_0.xChains.length : Int) ≤ e93)) (κ false) (addW t91 1 (fun t95 => nx92 t95)))) (addW t80 1 (fun t96 => nx81 t96))) 0))) (L_impl_acyclic s_0.xChains (fun r97 => κ r97))) 0)) 0)) (fun k69 => ifW (decide ((s_0.xChains.length : Int) < 1)) (k69 true) (k69 (decide (5 < (s_0.xChains.length : Int)))))

def L_impl_Packet_fields (p_0 : GPacket) (κ : A4Int → Prop) : Prop :=
  κ (A4Int.mk p_0.xFrom p_0.xTo p_0.xPort p_0.xProto)

def L_impl_PacketValid (p_0 : GPacket) (κ : Bool → Prop) : Prop :=
  L_impl_Packet_fields p_0 (fun r3 => loopW (fun (nx5 : Int → Prop) (t4 : Int) => ifW (decide (t4 < 4)) (idxW ([r3.x0, r3.x1, r3.x2, r3.x3]) t4 (fun e6 => jnW (fun (t68 : Bool) => ifW t68 (κ false) (addW t4 1 (fun t70 => nx5 t70))) (fun k69 => ifW (decide (e6 < 0)) (k69 true) (L_impl_FieldTop t4 (fun r7 => k69 (decide (r7 < e6))))))) (κ true)) 0)

def L_impl_walk_leave (w_0_stack : (List GPlace)) (w_0_visits : (List GVisit)) (w_0_decision : Int) (κ : (List GPlace) → Prop) : Prop :=
  jnW (fun (xs7 : (List GPlace)) => κ xs7) (fun k10 => sliceW w_0_stack 0 (w64 ((w_0_stack.length : Int) - 1)) (fun xs12 => k10 xs12))

def L_impl_Test_holds (t_0 : GTest) (p_1 : GPacket) (κ : Bool → Prop) : Prop :=
  L_impl_Packet_fields p_1 (fun r5 => idxW ([r5.x0, r5.x1, r5.x2, r5.x3]) t_0.xField (fun e6 => jnW (fun (t67 : Bool) => κ (!(decide (t67 = t_0.xNot)))) (fun k68 => ifW (decide (t_0.xLo ≤ e6)) (k68 (decide (e6 ≤ t_0.xHi))) (k68 false))))

def L_impl_allHold (list_0 : (List GTest)) (p_1 : GPacket) (κ : Bool → Prop) : Prop :=
  loopW (fun (nx6 : Int → Prop) (t5 : Int) => ifW (decide (t5 < (list_0.length : Int))) (idxW list_0 t5 (fun e7 => L_impl_Test_holds e7 p_1 (fun r11 => ifW (!r11) (κ false) (addW t5 1 (fun t12 => nx6 t12))))) (κ true)) 0

def L_impl_actionOf (r_0 : GRule) (κ : IAction → Prop) : Prop :=
  ifW (decide (r_0.xAction = 1)) (κ (IAction.kDeciding (GDeciding.mk true))) (ifW (decide (r_0.xAction = 2)) (κ (IAction.kDeciding (GDeciding.mk false))) (ifW (decide (r_0.xAction = 3)) (κ (IAction.kCalling (GCalling.mk r_0.xChain))) (ifW (decide (r_0.xAction = 4)) (κ (IAction.kReturning (GReturning.mk ))) (κ (IAction.kPassing (GPassing.mk ))))))

def L_impl_deciding_walk (d_0 : GDeciding) (w_1_stack : (List GPlace)) (w_1_visits : (List GVisit)) (w_1_decision : Int) (κ : Int → Prop) : Prop :=
  ifW d_0.xAccept (κ 1) (κ 2)

def L_impl_calling_walk (c_0 : GCalling) (w_1_stack : (List GPlace)) (w_1_visits : (List GVisit)) (w_1_decision : Int) (κ : (List GPlace) → Prop) : Prop :=
  jnW (fun (xs9 : (List GPlace)) => κ xs9) (fun k12 => appW w_1_stack ([(GPlace.mk c_0.xChain 0)]) (fun _ => k12 (w_1_stack ++ ([(GPlace.mk c_0.xChain 0)]))))

def L_impl_returning_walk (a_0 : GReturning) (w_1_stack : (List GPlace)) (w_1_visits : (List GVisit)) (w_1_decision : Int) (κ : (List GPlace) → Prop) : Prop :=
  L_impl_walk_leave w_1_stack w_1_visits w_1_decision (fun r9 => κ r9)

def L_impl_passing_walk (a_0 : GPassing) (a_1_stack : (List GPlace)) (a_1_visits : (List GVisit)) (a_1_decision : Int) (κ : Unit → Prop) : Prop :=
  κ ()

def L_impl_walkThrough (s_0 : GRuleset) (p_1 : GPacket) (κ : ((List GPlace) × (List GVisit) × Int) → Prop) : Prop :=
  loopW (fun (nx26 : ((List GPlace) × (List GVisit) × Int) → Prop) ((xs18, xs22, t25) : ((List GPlace) × (List GVisit) × Int)) => jnW (fun (t87 : Bool) => ifW t87 (subW (xs18.length : Int) 1 (fun t95 => idxW xs18 t95 (fun e96 => idxW s_0.xChains e96.xChain (fun e98 => ifW (decide (e96.xNext = (e98.length : Int))) (L_impl_walk_leave xs18 xs22 t25 (fun r104 => nx26 (r104, xs22, t25))) (addW e96.xNext 1 (fun t107 => idxW e98 e96.xNext (fun e109 => L_impl_allHold e109.xTests p_1 (fun r115 => ifW (!r115) (nx26 ((xs18.set (t95).toNat (GPlace.mk e96.xChain t107)), xs22, t25)) (jnW (fun (xs187 : (List GVisit)) => idxW e98 e96.xNext (fun e191 => L_impl_actionOf e191 (fun r197 => IAction.casesW r197 (fun x198 => L_impl_deciding_walk x198 (xs18.set (t95).toNat (GPlace.mk e96.xChain t107)) xs187 t25 (fun r202 => nx26 ((xs18.set (t95).toNat (GPlace.mk e96.xChain t107)), xs187, r202))) (fun x199 => L_impl_calling_walk x199 (xs18.set (t95).toNat (GPlace.mk e96.xChain t107)) xs187 t25 (fun r203 => nx26 (r203, xs187, t25))) (fun x200 => L_impl_returning_walk (GReturning.mk ) (xs18.set (t95).toNat (GPlace.mk e96.xChain t107)) xs187 t25 (fun r206 => nx26 (r206, xs187, t25))) (fun x201 => L_impl_passing_walk (GPassing.mk ) (xs18.set (t95).toNat (GPlace.mk e96.xChain t107)) xs187 t25 (fun _ => nx26 ((xs18.set (t95).toNat (GPlace.mk e96.xChain t107)), xs187, t25)))))) (fun k190 => ifW (decide ((xs22.length : Int) < 200)) (jnW (fun (xs116 : (List GVisit)) => k190 xs116) (fun k119 => appW xs22 ([(GVisit.mk e96.xChain e96.xNext)]) (fun _ => k119 (xs22 ++ ([(GVisit.mk e96.xChain e96.xNext)]))))) (k190 xs22))))))))))) (κ (xs18, xs22, t25))) (fun k88 => ifW (decide (0 < (xs18.length : Int))) (k88 (decide (t25 = 5))) (k88 false))) ([(GPlace.mk 0 0)], [], 5)

def L_impl_judgeValid (s_0 : GRuleset) (p_1 : GPacket) (κ : Bool → Prop) : Prop :=
  L_impl_walkThrough s_0 p_1 (fun (r12, r15, r18) => ifW (decide (r18 = 1)) (κ true) (ifW (decide (r18 = 2)) (κ false) (κ s_0.xAccept)))

def L_spec_TestValid (t_0 : GTest) (κ : Bool → Prop) : Prop :=
  jnW (fun (t66 : Bool) => κ t66) (fun k67 => L_spec_l1In t_0.xField 0 3 (fun r3 => ifW r3 (L_spec_l1In t_0.xLo 0 t_0.xHi (fun r4 => ifW r4 (L_spec_FieldTop t_0.xField (fun r5 => k67 (decide (t_0.xHi ≤ r5)))) (k67 false))) (k67 false)))

def L_spec_TestsValid (list_0 : (List GTest)) (κ : Bool → Prop) : Prop :=
  loopW (fun (nx4 : Int → Prop) (t3 : Int) => ifW (decide (t3 < (list_0.length : Int))) (idxW list_0 t3 (fun e5 => L_spec_TestValid e5 (fun r7 => ifW (!r7) (κ false) (addW t3 1 (fun t8 => nx4 t8))))) (κ (decide ((list_0.length : Int) ≤ 6)))) 0

def L_spec_RuleValid (r_0 : GRule) (κ : Bool → Prop) : Prop :=
  jnW (fun (t71 : Bool) => κ t71) (fun k72 => L_spec_TestsValid r_0.xTests (fun r8 => ifW r8 (L_spec_l1In r_0.xAction 1 5 (fun r9 => ifW r9 (ifW (decide (r_0.xAction = 3)) (L_spec_l1In r_0.xChain 0 4 (fun r10 => ifW r10 (k72 true) (ifW (!(decide (r_0.xAction = 3))) (k72 (decide (r_0.xChain = 0))) (k72 false)))) (ifW (!(decide (r_0.xAction = 3))) (k72 (decide (r_0.xChain = 0))) (k72 false))) (k72 false))) (k72 false)))

def L_spec_RulesValid (list_0 : (List GRule)) (κ : Bool → Prop) : Prop :=
  loopW (fun (nx4 : Int → Prop) (t3 : Int) => ifW (decide (t3 < (list_0.length : Int))) (idxW list_0 t3 (fun e5 => L_spec_RuleValid e5 (fun r11 => ifW (!r11) (κ false) (addW t3 1 (fun t12 => nx4 t12))))) (κ (decide ((list_0.length : Int) ≤ 8)))) 0

def L_spec_l8Order (s_0 : GRuleset) (κ : (List Int) → Prop) : Prop :=
  makeW (false : Bool) (s_0.xChains.length : Int) (s_0.xChains.length : Int) (fun xs10 => loopW (fun (nx21 : ((List Bool) × (List Int) × Int) → Prop) ((xs14, xs17, t20) : ((List Bool) × (List Int) × Int)) => ifW (decide (t20 < (s_0.xChains.length : Int))) (loopW (fun (nx29 : ((List Bool) × (List Int) × Int) → Prop) ((xs22, xs25, t28) : ((List Bool) × (List Int) × Int)) => ifW (decide (t28 < (s_0.xChains.length : Int))) (jnW (fun ((xs190, xs192) : ((List Bool) × (List Int))) => addW t28 1 (fun t196 => nx29 (xs190, xs192, t196))) (fun k195 => idxW xs22 t28 (fun e30 => loopW (fun (nx34 : (Bool × Int) → Prop) ((t32, t33) : (Bool × Int)) => idxW s_0.xChains t28 (fun e35 => ifW (decide (t33 < (e35.length : Int))) (jnW (fun (t120 : Bool) => addW t33 1 (fun t122 => nx34 (t120, t122))) (fun k121 => idxW s_0.xChains t28 (fun e41 => idxW e41 t33 (fun e47 => ifW t32 (ifW (!(decide (e47.xAction = 3))) (k121 true) (idxW xs22 e47.xChain (fun e58 => k121 e58))) (k121 false))))) (ifW t32 (idxW xs22 t28 (fun e123 => appW xs25 ([t28]) (fun _ => k195 ((xs22.set (t28).toNat true), (xs25 ++ ([t28])))))) (k195 (xs22, xs25))))) ((!e30), 0)))) (addW t20 1 (fun t197 => nx21 (xs22, xs25, t197)))) (xs14, xs17, 0)) (κ xs17)) (xs10, [], 0))

def L_spec_RulesetValid (s_0 : GRuleset) (κ : Bool → Prop) : Prop :=
  loopW (fun (nx9 : Int → Prop) (t8 : Int) => ifW (decide (t8 < (s_0.xChains.length : Int))) (idxW s_0.xChains t8 (fun e10 => L_spec_RulesValid e10 (fun r16 => ifW (!r16) (κ false) (loopW (fun (nx18 : Int → Prop) (t17 : Int) => idxW s_0.xChains t8 (fun e19 => ifW (decide (t17 < (e19.length : Int))) (idxW s_0.xChains t8 (fun e25 => idxW e25 t17 (fun e31 => ifW (decide ((s_0.xChains.length : Int) ≤ e31.xChain)) (κ false) (addW t17 1 (fun t33 => nx18 t33))))) (addW t8 1 (fun t34 => nx9 t34)))) 0)))) (jnW (fun (t99 : Bool) => κ t99) (fun k100 => L_spec_l1In (s_0.xChains.length : Int) 1 5 (fun r35 => ifW r35 (L_spec_l8Order s_0 (fun r36 => k100 (decide ((r36.length : Int) = (s_0.xChains.length : Int))))) (k100 false))))) 0

def L_spec_PacketField (p_0 : GPacket) (n_1 : Int) (κ : Int → Prop) : Prop :=
  jnW (fun (t65 : Bool) => ifW t65 (κ (-1)) (idxW ([p_0.xFrom, p_0.xTo, p_0.xPort, p_0.xProto]) n_1 (fun e69 => κ e69))) (fun k66 => L_spec_PacketValid p_0 (fun r3 => ifW (!r3) (k66 true) (L_spec_l1In n_1 0 3 (fun r4 => k66 (!r4)))))

def L_spec_TestHolds (t_0 : GTest) (p_1 : GPacket) (κ : Bool → Prop) : Prop :=
  jnW (fun (t69 : Bool) => κ t69) (fun k70 => L_spec_TestValid t_0 (fun r5 => ifW r5 (L_spec_PacketValid p_1 (fun r6 => ifW r6 (L_spec_PacketField p_1 t_0.xField (fun r7 => L_spec_l1In r7 t_0.xLo t_0.xHi (fun r8 => k70 (!(decide (r8 = t_0.xNot)))))) (k70 false))) (k70 false)))

def L_spec_TestsHold (list_0 : (List GTest)) (p_1 : GPacket) (κ : Bool → Prop) : Prop :=
  loopW (fun (nx6 : Int → Prop) (t5 : Int) => ifW (decide (t5 < (list_0.length : Int))) (idxW list_0 t5 (fun e7 => L_spec_TestHolds e7 p_1 (fun r9 => ifW (!r9) (κ false) (addW t5 1 (fun t10 => nx6 t10))))) (jnW (fun (t73 : Bool) => κ t73) (fun k74 => L_spec_TestsValid list_0 (fun r11 => ifW r11 (L_spec_PacketValid p_1 (fun r12 => k74 r12)) (k74 false))))) 0

def B_spec_l9Walk (rec : (GRuleset → Int → GPacket → (List GVisit) → ((Int × (List GVisit)) → Prop) → Prop)) (s_0 : GRuleset) (chain_1 : Int) (p_2 : GPacket) (out_3 : (List GVisit)) (κ : (Int × (List GVisit)) → Prop) : Prop :=
  loopW (fun (nx19 : ((List GVisit) × Int) → Prop) ((xs15, t18) : ((List GVisit) × Int)) => idxW s_0.xChains chain_1 (fun e20 => ifW (decide (t18 < (e20.length : Int))) (jnW (fun (xs241 : (List GVisit)) => addW t18 1 (fun t245 => nx19 (xs241, t245))) (fun k244 => idxW s_0.xChains chain_1 (fun e26 => idxW e26 t18 (fun e32 => L_spec_TestsHold e32.xTests p_2 (fun r43 => ifW (!r43) (k244 xs15) (jnW (fun (xs111 : (List GVisit)) => jnW (fun (t175 : Bool) => ifW t175 (κ (e32.xAction, xs111)) (ifW (decide (e32.xAction = 4)) (κ (5, xs111)) (ifW (decide (e32.xAction = 3)) (rec s_0 e32.xChain p_2 xs111 (fun (r177, r178) => ifW (!(decide (r177 = 5))) (κ (r177, r178)) (k244 r178))) (k244 xs111)))) (fun k176 => ifW (decide (e32.xAction = 1)) (k176 (decide (e32.xAction = 1))) (k176 (decide (e32.xAction = 2))))) (fun k114 => ifW (decide ((xs15.length : Int) < 200)) (appW xs15 ([(GVisit.mk chain_1 t18)]) (fun _ => k114 (xs15 ++ ([(GVisit.mk chain_1 t18)])))) (k114 xs15)))))))) (κ (5, xs15)))) (out_3, 0)
def R_spec_l9Walk : Nat → GRuleset → Int → GPacket → (List GVisit) → ((Int × (List GVisit)) → Prop) → Prop
  | 0 => fun _ _ _ _ _ => False
  | n + 1 => B_spec_l9Walk (R_spec_l9Walk n)
def L_spec_l9Walk (s_0 : GRuleset) (chain_1 : Int) (p_2 : GPacket) (out_3 : (List GVisit)) (κ : (Int × (List GVisit)) → Prop) : Prop := ∃ n, R_spec_l9Walk n s_0 chain_1 p_2 out_3 κ

def L_spec_Judge (s_0 : GRuleset) (p_1 : GPacket) (κ : Bool → Prop) : Prop :=
  jnW (fun (t72 : Bool) => ifW t72 (κ false) (L_spec_l9Walk s_0 0 p_1 ([]) (fun (r81, r82) => jnW (fun (t145 : Bool) => κ t145) (fun k146 => ifW (decide (r81 = 1)) (k146 true) (ifW (decide (r81 = 5)) (k146 s_0.xAccept) (k146 false)))))) (fun k73 => L_spec_RulesetValid s_0 (fun r10 => ifW (!r10) (k73 true) (L_spec_PacketValid p_1 (fun r11 => k73 (!r11)))))

def L_laws_szTestS (a_0 : (List GTest)) (left_1 : Int) (κ : Int → Prop) : Prop :=
  subW left_1 (a_0.length : Int) (fun t3 => ifW (decide (t3 < 0)) (κ (-1)) (κ t3))

def L_laws_szRule (a_0 : GRule) (left_1 : Int) (κ : Int → Prop) : Prop :=
  L_laws_szTestS a_0.xTests left_1 (fun r8 => ifW (decide (r8 < 0)) (κ (-1)) (κ r8))

def L_laws_szRuleS (a_0 : (List GRule)) (left_1 : Int) (κ : Int → Prop) : Prop :=
  subW left_1 (a_0.length : Int) (fun t3 => ifW (decide (t3 < 0)) (κ (-1)) (loopW (fun (nx6 : (Int × Int) → Prop) ((t4, t5) : (Int × Int)) => ifW (decide (t5 < (a_0.length : Int))) (idxW a_0 t5 (fun e7 => L_laws_szRule e7 t4 (fun r13 => ifW (decide (r13 < 0)) (κ (-1)) (addW t5 1 (fun t14 => nx6 (r13, t14)))))) (κ t4)) (t3, 0)))

def L_laws_szRuleSS (a_0 : (List (List GRule))) (left_1 : Int) (κ : Int → Prop) : Prop :=
  subW left_1 (a_0.length : Int) (fun t3 => ifW (decide (t3 < 0)) (κ (-1)) (loopW (fun (nx6 : (Int × Int) → Prop) ((t4, t5) : (Int × Int)) => ifW (decide (t5 < (a_0.length : Int))) (idxW a_0 t5 (fun e7 => L_laws_szRuleS e7 t4 (fun r13 => ifW (decide (r13 < 0)) (κ (-1)) (addW t5 1 (fun t14 => nx6 (r13, t14)))))) (κ t4)) (t3, 0)))

def L_laws_szRuleset (a_0 : GRuleset) (left_1 : Int) (κ : Int → Prop) : Prop :=
  L_laws_szRuleSS a_0.xChains left_1 (fun r8 => ifW (decide (r8 < 0)) (κ (-1)) (κ r8))

def L_spec_l19Same (a_0 : GPacket) (b_1 : GPacket) (κ : Bool → Prop) : Prop :=
  jnW (fun (t66 : Bool) => κ t66) (fun k67 => ifW (decide (a_0 = b_1)) (k67 true) (L_spec_ReversePacket b_1 (fun r5 => k67 (decide (a_0 = r5)))))

def L_spec_FlowsValid (list_0 : (List GFlow)) (κ : Bool → Prop) : Prop :=
  loopW (fun (nx4 : Int → Prop) (t3 : Int) => ifW (decide (t3 < (list_0.length : Int))) (jnW (fun (t71 : Bool) => ifW t71 (κ false) (loopW (fun (nx74 : Int → Prop) (t73 : Int) => ifW (decide (t73 < t3)) (idxW list_0 t73 (fun e75 => idxW list_0 t3 (fun e77 => L_spec_l19Same e75.xWho e77.xWho (fun r79 => ifW r79 (κ false) (addW t73 1 (fun t80 => nx74 t80)))))) (addW t3 1 (fun t81 => nx4 t81))) 0)) (fun k72 => idxW list_0 t3 (fun e5 => L_spec_PacketValid e5.xWho (fun r7 => ifW (!r7) (k72 true) (idxW list_0 t3 (fun e8 => L_spec_l1In e8.xUntil 0 1000000 (fun r10 => k72 (!r10)))))))) (κ (decide ((list_0.length : Int) ≤ 20)))) 0

def L_spec_KnownFlow (list_0 : (List GFlow)) (p_1 : GPacket) (now_2 : Int) (κ : Int → Prop) : Prop :=
  loopW (fun (nx6 : Int → Prop) (t5 : Int) => jnW (fun (t70 : Bool) => ifW t70 (jnW (fun (t137 : Bool) => ifW t137 (κ t5) (addW t5 1 (fun t139 => nx6 t139))) (fun k138 => idxW list_0 t5 (fun e72 => L_spec_l19Same e72.xWho p_1 (fun r74 => ifW r74 (idxW list_0 t5 (fun e75 => k138 (decide (now_2 ≤ e75.xUntil)))) (k138 false))))) (κ (-1))) (fun k71 => ifW (decide (t5 < (list_0.length : Int))) (L_spec_FlowsValid list_0 (fun r7 => ifW r7 (L_spec_PacketValid p_1 (fun r8 => ifW r8 (L_spec_l1In now_2 0 1000000 (fun r9 => k71 r9)) (k71 false))) (k71 false))) (k71 false))) 0

def L_spec_ExpireFlows (list_0 : (List GFlow)) (now_1 : Int) (κ : (List GFlow) → Prop) : Prop :=
  loopW (fun (nx11 : ((List GFlow) × Int) → Prop) ((xs7, t10) : ((List GFlow) × Int)) => jnW (fun (t74 : Bool) => ifW t74 (jnW (fun (xs144 : (List GFlow)) => addW t10 1 (fun t148 => nx11 (xs144, t148))) (fun k147 => idxW list_0 t10 (fun e76 => ifW (decide (now_1 ≤ e76.xUntil)) (idxW list_0 t10 (fun e78 => appW xs7 ([e78]) (fun _ => k147 (xs7 ++ ([e78]))))) (k147 xs7)))) (κ xs7)) (fun k75 => ifW (decide (t10 < (list_0.length : Int))) (L_spec_FlowsValid list_0 (fun r12 => ifW r12 (L_spec_l1In now_1 0 1000000 (fun r13 => k75 r13)) (k75 false))) (k75 false))) ([], 0)

def L_spec_TrackFlow (list_0 : (List GFlow)) (p_1 : GPacket) (now_2 : Int) (life_3 : Int) (κ : ((List GFlow) × Bool) → Prop) : Prop :=
  jnW (fun (t70 : Bool) => ifW t70 (κ ([], false)) (L_spec_ExpireFlows list_0 now_2 (fun r74 => addW now_2 life_3 (fun t77 => L_spec_KnownFlow r74 p_1 now_2 (fun r78 => ifW (decide (0 ≤ r78)) (idxW r74 r78 (fun e79 => κ ((r74.set (r78).toNat (GFlow.mk e79.xWho (min 1000000 t77))), true))) (ifW (decide ((r74.length : Int) = 20)) (κ (r74, false)) (appW r74 ([(GFlow.mk p_1 (min 1000000 t77))]) (fun _ => κ ((r74 ++ ([(GFlow.mk p_1 (min 1000000 t77))])), true))))))))) (fun k71 => L_spec_FlowsValid list_0 (fun r6 => ifW (!r6) (k71 true) (L_spec_PacketValid p_1 (fun r7 => ifW (!r7) (k71 true) (L_spec_l1In now_2 0 1000000 (fun r8 => ifW (!r8) (k71 true) (L_spec_l1In life_3 0 1000 (fun r9 => k71 (!r9)))))))))

def L_spec_PassPacket (s_0 : GRuleset) (list_1 : (List GFlow)) (p_2 : GPacket) (now_3 : Int) (life_4 : Int) (κ : ((List GFlow) × Bool) → Prop) : Prop :=
  jnW (fun (t78 : Bool) => ifW t78 (κ ([], false)) (jnW (fun (t144 : Bool) => ifW t144 (L_spec_ExpireFlows list_1 now_3 (fun r146 => κ (r146, false))) (L_spec_TrackFlow list_1 p_2 now_3 life_4 (fun (r149, r152) => κ (r149, true)))) (fun k145 => L_spec_KnownFlow list_1 p_2 now_3 (fun r82 => ifW (decide (r82 < 0)) (L_spec_Judge s_0 p_2 (fun r83 => k145 (!r83))) (k145 false))))) (fun k79 => L_spec_RulesetValid s_0 (fun r13 => ifW (!r13) (k79 true) (L_spec_FlowsValid list_1 (fun r14 => ifW (!r14) (k79 true) (L_spec_PacketValid p_2 (fun r15 => ifW (!r15) (k79 true) (L_spec_l1In now_3 0 1000000 (fun r16 => ifW (!r16) (k79 true) (L_spec_l1In life_4 0 1000 (fun r17 => k79 (!r17)))))))))))

def L_spec_AnswersPass (s_0 : GRuleset) (p_1 : GPacket) (life_2 : Int) (later_3 : Int) (κ : Bool → Prop) : Prop :=
  jnW (fun (t74 : Bool) => ifW t74 (κ false) (L_spec_PassPacket s_0 ([]) p_1 0 life_2 (fun (r78, r81) => ifW (!r81) (κ true) (L_spec_ReversePacket p_1 (fun r82 => L_spec_PassPacket s_0 r78 r82 later_3 life_2 (fun (r83, r86) => κ r86)))))) (fun k75 => L_spec_RulesetValid s_0 (fun r10 => ifW (!r10) (k75 true) (L_spec_PacketValid p_1 (fun r11 => ifW (!r11) (k75 true) (L_spec_l1In life_2 0 1000 (fun r12 => ifW (!r12) (k75 true) (L_spec_l1In later_3 0 life_2 (fun r13 => k75 (!r13)))))))))

def L_laws_toTest (a_0 : GTest) (κ : GTest → Prop) : Prop :=
  κ a_0

def L_laws_toTestS (a_0 : (List GTest)) (κ : (List GTest) → Prop) : Prop :=
  makeW ((GTest.mk 0 0 0 false) : GTest) (a_0.length : Int) (a_0.length : Int) (fun xs5 => loopW (fun (nx10 : ((List GTest) × Int) → Prop) ((xs7, t9) : ((List GTest) × Int)) => ifW (decide (t9 < (a_0.length : Int))) (idxW a_0 t9 (fun e11 => L_laws_toTest e11 (fun r13 => idxW xs7 t9 (fun e14 => addW t9 1 (fun t17 => nx10 ((xs7.set (t9).toNat r13), t17)))))) (κ xs7)) (xs5, 0))

def L_laws_toRule (a_0 : GRule) (κ : GRule → Prop) : Prop :=
  L_laws_toTestS a_0.xTests (fun r12 => κ (GRule.mk r12 a_0.xAction a_0.xChain))

def L_laws_toRuleS (a_0 : (List GRule)) (κ : (List GRule) → Prop) : Prop :=
  makeW ((GRule.mk ([]) 0 0) : GRule) (a_0.length : Int) (a_0.length : Int) (fun xs5 => loopW (fun (nx12 : ((List GRule) × Int) → Prop) ((xs8, t11) : ((List GRule) × Int)) => ifW (decide (t11 < (a_0.length : Int))) (idxW a_0 t11 (fun e13 => L_laws_toRule e13 (fun r19 => idxW xs8 t11 (fun e22 => addW t11 1 (fun t29 => nx12 ((xs8.set (t11).toNat r19), t29)))))) (κ xs8)) (xs5, 0))

def L_laws_toRuleSS (a_0 : (List (List GRule))) (κ : (List (List GRule)) → Prop) : Prop :=
  makeW ([] : (List GRule)) (a_0.length : Int) (a_0.length : Int) (fun xs5 => loopW (fun (nx12 : ((List (List GRule)) × Int) → Prop) ((xs8, t11) : ((List (List GRule)) × Int)) => ifW (decide (t11 < (a_0.length : Int))) (idxW a_0 t11 (fun e13 => L_laws_toRuleS e13 (fun r19 => idxW xs8 t11 (fun e23 => addW t11 1 (fun t30 => nx12 ((xs8.set (t11).toNat r19), t30)))))) (κ xs8)) (xs5, 0))

def L_laws_toRuleset (a_0 : GRuleset) (κ : GRuleset → Prop) : Prop :=
  L_laws_toRuleSS a_0.xChains (fun r12 => κ (GRuleset.mk r12 a_0.xAccept))

def L_laws_toPacket (a_0 : GPacket) (κ : GPacket → Prop) : Prop :=
  κ a_0

def L_impl_lifeValid (life_0 : Int) (κ : Bool → Prop) : Prop :=
  jnW (fun (t61 : Bool) => κ t61) (fun k62 => ifW (decide (0 ≤ life_0)) (k62 (decide (life_0 ≤ 1000))) (k62 false))

def L_impl_timeValid (now_0 : Int) (κ : Bool → Prop) : Prop :=
  jnW (fun (t61 : Bool) => κ t61) (fun k62 => ifW (decide (0 ≤ now_0)) (k62 (decide (now_0 ≤ 1000000))) (k62 false))

def L_impl_Packet_reverse (p_0 : GPacket) (κ : GPacket → Prop) : Prop :=
  κ (GPacket.mk p_0.xTo p_0.xFrom p_0.xPort p_0.xProto)

def L_impl_indexFlows (list_0 : (List GFlow)) (κ : ((List (GPacket × Int)) × Bool) → Prop) : Prop :=
  ifW (decide (20 < (list_0.length : Int))) (κ ([], false)) (loopW (fun (nx10 : ((List (GPacket × Int)) × Int) → Prop) ((xs7, t9) : ((List (GPacket × Int)) × Int)) => ifW (decide (t9 < (list_0.length : Int))) (idxW list_0 t9 (fun e11 => jnW (fun (t77 : Bool) => ifW t77 (κ ([], false)) (ifW ((mget e11.xWho xs7).2) (κ ([], false)) (L_impl_Packet_reverse e11.xWho (fun r82 => addW t9 1 (fun t84 => nx10 ((mput r82 t9 (mput e11.xWho t9 xs7)), t84)))))) (fun k78 => L_impl_PacketValid e11.xWho (fun r15 => ifW (!r15) (k78 true) (L_impl_timeValid e11.xUntil (fun r16 => k78 (!r16))))))) (κ (xs7, true))) ([], 0))

def L_impl_flowIndex_known (x_0 : (List (GPacket × Int))) (list_1 : (List GFlow)) (p_2 : GPacket) (now_3 : Int) (κ : Int → Prop) : Prop :=
  jnW (fun (t69 : Bool) => ifW t69 (κ (-1)) (κ ((mget p_2 x_0).1))) (fun k70 => ifW (!((mget p_2 x_0).2)) (k70 true) (idxW list_1 ((mget p_2 x_0).1) (fun e7 => k70 (decide (e7.xUntil < now_3)))))

def L_impl_KnownFlow (list_0 : (List GFlow)) (p_1 : GPacket) (now_2 : Int) (κ : Int → Prop) : Prop :=
  L_impl_indexFlows list_0 (fun (r5, r8) => jnW (fun (t71 : Bool) => ifW t71 (κ (-1)) (L_impl_flowIndex_known r5 list_0 p_1 now_2 (fun r73 => κ r73))) (fun k72 => ifW (!r8) (k72 true) (L_impl_PacketValid p_1 (fun r9 => ifW (!r9) (k72 true) (L_impl_timeValid now_2 (fun r10 => k72 (!r10)))))))

def L_impl_notExpired (list_0 : (List GFlow)) (now_1 : Int) (κ : (List GFlow) → Prop) : Prop :=
  makeW ((GFlow.mk (GPacket.mk 0 0 0 0) 0) : GFlow) 0 (list_0.length : Int) (fun xs5 => loopW (fun (nx12 : ((List GFlow) × Int) → Prop) ((xs8, t11) : ((List GFlow) × Int)) => ifW (decide (t11 < (list_0.length : Int))) (jnW (fun (xs81 : (List GFlow)) => addW t11 1 (fun t85 => nx12 (xs81, t85))) (fun k84 => idxW list_0 t11 (fun e13 => ifW (decide (now_1 ≤ e13.xUntil)) (appW xs8 ([e13]) (fun _ => k84 (xs8 ++ ([e13])))) (k84 xs8)))) (κ xs8)) (xs5, 0))

def L_impl_trackValid (list_0 : (List GFlow)) (p_1 : GPacket) (now_2 : Int) (life_3 : Int) (κ : ((List GFlow) × Bool) → Prop) : Prop :=
  L_impl_notExpired list_0 now_2 (fun r6 => addW now_2 life_3 (fun t9 => L_impl_indexFlows r6 (fun (r10, r13) => L_impl_flowIndex_known r10 r6 p_1 now_2 (fun r14 => ifW (decide (0 ≤ r14)) (idxW r6 r14 (fun e15 => κ ((r6.set (r14).toNat (GFlow.mk e15.xWho (min t9 1000000))), true))) (ifW (decide ((r6.length : Int) = 20)) (κ (r6, false)) (appW r6 ([(GFlow.mk p_1 (min t9 1000000))]) (fun _ => κ ((r6 ++ ([(GFlow.mk p_1 (min t9 1000000))])), true))))))))

def L_impl_tracker_pass (t_0_set_Chains : (List (List GRule))) (t_0_set_Accept : Bool) (t_0_flows : (List GFlow)) (t_0_life : Int) (p_1 : GPacket) (now_2 : Int) (κ : (Bool × (List GFlow)) → Prop) : Prop :=
  jnW (fun (t71 : Bool) => ifW t71 (L_impl_notExpired t_0_flows now_2 (fun r73 => κ (false, r73))) (jnW (fun (xs79 : (List GFlow)) => κ (true, xs79)) (fun k82 => L_impl_trackValid t_0_flows p_1 now_2 t_0_life (fun (r83, r85) => k82 r83)))) (fun k72 => L_impl_KnownFlow t_0_flows p_1 now_2 (fun r9 => ifW (decide (r9 < 0)) (L_impl_judgeValid (GRuleset.mk t_0_set_Chains t_0_set_Accept) p_1 (fun r10 => k72 (!r10))) (k72 false)))

def L_impl_AnswersPass (s_0 : GRuleset) (p_1 : GPacket) (life_2 : Int) (later_3 : Int) (κ : Bool → Prop) : Prop :=
  jnW (fun (t73 : Bool) => ifW t73 (κ false) (L_impl_tracker_pass s_0.xChains s_0.xAccept ([]) life_2 p_1 0 (fun (r77, r78) => ifW (!r77) (κ true) (L_impl_Packet_reverse p_1 (fun r81 => L_impl_tracker_pass s_0.xChains s_0.xAccept r78 life_2 r81 later_3 (fun (r82, r83) => κ r82)))))) (fun k74 => L_impl_RulesetValid s_0 (fun r10 => ifW (!r10) (k74 true) (L_impl_PacketValid p_1 (fun r11 => ifW (!r11) (k74 true) (L_impl_lifeValid life_2 (fun r12 => ifW (!r12) (k74 true) (ifW (decide (later_3 < 0)) (k74 true) (k74 (decide (life_2 < later_3))))))))))

def L_laws_eqTest (a_0 : GTest) (b_1 : GTest) (κ : Bool → Prop) : Prop :=
  ifW (!(decide (a_0.xField = b_1.xField))) (κ false) (ifW (!(decide (a_0.xLo = b_1.xLo))) (κ false) (ifW (!(decide (a_0.xHi = b_1.xHi))) (κ false) (ifW (!(decide (a_0.xNot = b_1.xNot))) (κ false) (κ true))))

def L_laws_eqTestS (a_0 : (List GTest)) (b_1 : (List GTest)) (κ : Bool → Prop) : Prop :=
  ifW (!(decide ((a_0.length : Int) = (b_1.length : Int)))) (κ false) (loopW (fun (nx6 : Int → Prop) (t5 : Int) => ifW (decide (t5 < (a_0.length : Int))) (idxW a_0 t5 (fun e7 => idxW b_1 t5 (fun e9 => L_laws_eqTest e7 e9 (fun r11 => ifW (!r11) (κ false) (addW t5 1 (fun t12 => nx6 t12)))))) (κ true)) 0)

def L_laws_eqRule (a_0 : GRule) (b_1 : GRule) (κ : Bool → Prop) : Prop :=
  L_laws_eqTestS a_0.xTests b_1.xTests (fun r15 => ifW (!r15) (κ false) (ifW (!(decide (a_0.xAction = b_1.xAction))) (κ false) (ifW (!(decide (a_0.xChain = b_1.xChain))) (κ false) (κ true))))

def L_laws_eqRuleS (a_0 : (List GRule)) (b_1 : (List GRule)) (κ : Bool → Prop) : Prop :=
  ifW (!(decide ((a_0.length : Int) = (b_1.length : Int)))) (κ false) (loopW (fun (nx6 : Int → Prop) (t5 : Int) => ifW (decide (t5 < (a_0.length : Int))) (idxW a_0 t5 (fun e7 => idxW b_1 t5 (fun e13 => L_laws_eqRule e7 e13 (fun r19 => ifW (!r19) (κ false) (addW t5 1 (fun t20 => nx6 t20)))))) (κ true)) 0)

def L_laws_eqRuleSS (a_0 : (List (List GRule))) (b_1 : (List (List GRule))) (κ : Bool → Prop) : Prop :=
  ifW (!(decide ((a_0.length : Int) = (b_1.length : Int)))) (κ false) (loopW (fun (nx6 : Int → Prop) (t5 : Int) => ifW (decide (t5 < (a_0.length : Int))) (idxW a_0 t5 (fun e7 => idxW b_1 t5 (fun e13 => L_laws_eqRuleS e7 e13 (fun r19 => ifW (!r19) (κ false) (addW t5 1 (fun t20 => nx6 t20)))))) (κ true)) 0)

def L_laws_eqRuleset (a_0 : GRuleset) (b_1 : GRuleset) (κ : Bool → Prop) : Prop :=
  L_laws_eqRuleSS a_0.xChains b_1.xChains (fun r15 => ifW (!r15) (κ false) (ifW (!(decide (a_0.xAccept = b_1.xAccept))) (κ false) (κ true)))

def L_laws_FnExactAnswersPass (aS_0 : GRuleset) (aP_1 : GPacket) (aLife_2 : Int) (aLater_3 : Int) (κ : Bool → Prop) : Prop :=
  L_laws_szRuleset aS_0 1048576 (fun r10 => ifW (decide (r10 < 0)) (κ true) (L_laws_toRuleset aS_0 (fun r11 => L_laws_toPacket aP_1 (fun r15 => L_spec_AnswersPass r11 r15 aLife_2 aLater_3 (fun r16 => L_laws_toRuleset aS_0 (fun r17 => L_laws_toPacket aP_1 (fun r26 => L_impl_AnswersPass r17 r26 aLife_2 aLater_3 (fun r27 => ifW (!(decide (r27 = r16))) (κ false) (L_laws_toRuleset aS_0 (fun r28 => L_laws_eqRuleset r17 r28 (fun r32 => ifW (!r32) (κ false) (κ true))))))))))))

end
section


theorem ifW_t {A B : Prop} (h : A) : ifW true A B := ⟨fun _ => h, (fun e => by cases e)⟩
theorem ifW_f {A B : Prop} (h : B) : ifW false A B := ⟨(fun e => by cases e), fun _ => h⟩
theorem ifW_of {c : Bool} {A B : Prop} (ht : c = true → A) (hf : c = false → B) : ifW c A B := ⟨ht, hf⟩
@[simp] theorem ifW_true {A B : Prop} : ifW true A B = A := propext ⟨fun h => h.1 rfl, ifW_t⟩
@[simp] theorem ifW_false {A B : Prop} : ifW false A B = B := propext ⟨fun h => h.2 rfl, ifW_f⟩
theorem addW_of {x y : Int} {κ : Int → Prop} (h1 : -9223372036854775808 ≤ x + y) (h2 : x + y ≤ 9223372036854775807) (h : κ (x + y)) : addW x y κ := ⟨⟨h1, h2⟩, h⟩
theorem subW_of {x y : Int} {κ : Int → Prop} (h1 : -9223372036854775808 ≤ x - y) (h2 : x - y ≤ 9223372036854775807) (h : κ (x - y)) : subW x y κ := ⟨⟨h1, h2⟩, h⟩
theorem idxW_of {α : Type} {xs : List α} {i : Int} {κ : α → Prop} (n : Nat) (hi : i = n) (hn : n < xs.length) (h : κ xs[n]) : idxW xs i κ := by
  subst hi
  exact ⟨xs[n], by omega, by simp [hn], h⟩
theorem appW_of {α : Type} {xs ys : List α} {κ : List α → Prop} (h1 : xs.length + ys.length ≤ 4294967296) (h : κ (xs ++ ys)) : appW xs ys κ := ⟨h1, h⟩
theorem makeW_of {α : Type} {z : α} {n m : Int} {κ : List α → Prop} (k : Nat) (hn : n = k) (h1 : n ≤ m) (h2 : m ≤ 4294967296) (h : κ (List.replicate k z)) : makeW z n m κ := by
  subst hn
  refine ⟨by omega, h1, ?_, by simpa using h⟩
  unfold lenOk
  omega

/-- a loop that counts a place up to a length, with a state: after each round the state's law holds of the next place -/
theorem count_loop {σ : Type} {F : (σ → Prop) → σ → Prop} (len : Nat) (pos : σ → Int) (I : Nat → σ → Prop) (hpos : ∀ k s, I k s → pos s = k) (hle : ∀ k s, I k s → k ≤ len)
    (h : ∀ k s next, I k s → (k < len → ∀ s', I (k + 1) s' → next s') → F next s) {s : σ} (h0 : I 0 s) : loopW F s := by
  refine loopW_inv (fun s => ∃ k, I k s) (fun s => len - (pos s).toNat) (fun s next ⟨k, hk⟩ hn => ?_) ⟨0, h0⟩
  refine h k s next hk (fun hlt s' hs' => hn s' ⟨k + 1, hs'⟩ ?_)
  rw [hpos _ _ hk, hpos _ _ hs']
  omega

/-- a copy element by element -/
theorem copy_loop {α β : Type} (a : List α) (f : α → β) (hl : a.length ≤ 4294967296) {κ : List β → Prop} (T : α → (β → Prop) → Prop) (hT : ∀ x ψ, x ∈ a → ψ (f x) → T x ψ) (hκ : κ (a.map f)) {xs : List β} (hx : xs.length = a.length)
    (F : (List β × Int → Prop) → List β × Int → Prop)
    (hF : ∀ nx xs t, (ifW (decide (t < (a.length : Int))) (idxW a t (fun e => T e (fun r => idxW xs t (fun _ => addW t 1 (fun u => nx (xs.set t.toNat r, u)))))) (κ xs)) → F nx (xs, t)) : loopW F (xs, 0) := by
  refine count_loop a.length (fun s => s.2) (fun k s => s.2 = (k : Int) ∧ k ≤ a.length ∧ s.1.length = a.length ∧ ∀ i, i < k → s.1[i]? = (a.map f)[i]?) (fun k s h => h.1) (fun k s h => h.2.1) ?_ ⟨rfl, Nat.zero_le _, hx, fun i hi => by omega⟩
  rintro k ⟨ys, t⟩ next ⟨rfl, hk, hy, hi⟩ hn
  simp only at hy hi
  refine hF _ _ _ (ifW_of (fun hc => ?_) (fun hc => ?_))
  · have hlt : k < a.length := by simpa using hc
    refine idxW_of k rfl hlt (hT _ _ (List.getElem_mem hlt) (idxW_of k rfl (by omega) (addW_of (by omega) (by omega) (hn hlt _ ?_))))
    refine ⟨by simp, by omega, by simpa using hy, fun i hi' => ?_⟩
    simp only [Int.toNat_natCast]
    by_cases e : i = k
    · subst e
      simp [hy, hlt]
    · rw [List.getElem?_set_ne (by omega)]
      exact hi i (by omega)
  · have hge : a.length ≤ k := by simpa using hc
    have : ys = a.map f := by
      apply List.ext_getElem?
      intro i
      by_cases h : i < k
      · exact hi i h
      · rw [List.getElem?_eq_none (by omega), List.getElem?_eq_none (by simp; omega)]
    rw [this]; exact hκ

/-- two lists are held against each other -/
theorem eq_loop {α : Type} [DecidableEq α] (a b : List α) (hab : a.length = b.length) (hl : a.length ≤ 4294967296) {κ : Bool → Prop} (T : α → α → Prop → Prop) (hT : ∀ x y A, (x = y → A) → (x ≠ y → κ false) → T x y A) (hκ : κ (decide (a = b)))
    (F : (Int → Prop) → Int → Prop) (hF : ∀ nx t, (ifW (decide (t < (a.length : Int))) (idxW a t (fun x => idxW b t (fun y => T x y (addW t 1 (fun u => nx u))))) (κ true)) → F nx t) : loopW F 0 := by
  refine count_loop a.length (fun s => s) (fun k s => s = (k : Int) ∧ k ≤ a.length ∧ a.take k = b.take k) (fun k s h => h.1) (fun k s h => h.2.1) ?_ ⟨rfl, Nat.zero_le _, by simp⟩
  rintro k _ next ⟨rfl, hk, he⟩ hn
  refine hF _ _ (ifW_of (fun hc => ?_) (fun hc => ?_))
  · have hlt : k < a.length := by simpa using hc
    refine idxW_of k rfl hlt (idxW_of k rfl (by omega) (hT _ _ _ (fun e => addW_of (by omega) (by omega) (hn hlt _ ⟨by simp, by omega, ?_⟩)) (fun e => ?_)))
    · rw [List.take_succ_eq_append_getElem hlt, List.take_succ_eq_append_getElem (by omega), he, e]
    · have : a ≠ b := fun h => by subst h; exact e rfl
      rw [decide_eq_false this] at hκ; exact hκ
  · have hge : a.length ≤ k := by simpa using hc
    have : a = b := by
      rw [List.take_of_length_le hge, List.take_of_length_le (by omega)] at he
      exact he
    rw [decide_eq_true this] at hκ; exact hκ

/-- the marks that are laid into a list from k on -/
def marks {α : Type} (f : Int → α) (k : Int) (n : Nat) : List α := (List.range n).map fun (i : Nat) => f (k + (i : Int))
end
section

theorem idxW_any {α : Type} {xs : List α} {i : Int} {κ : α → Prop} (h1 : 0 ≤ i) (h2 : i < xs.length) (h : ∀ x, x ∈ xs → κ x) : idxW xs i κ := by
  obtain ⟨n, rfl⟩ := Int.eq_ofNat_of_zero_le h1
  have hn : n < xs.length := by omega
  exact idxW_of n rfl hn (h _ (List.getElem_mem hn))

/-- the reader stands at p of the bytes b -/
def RdP (b : List UInt8) (p : Int) : Prop := b.length ≤ 2000 ∧ 0 ≤ p ∧ p ≤ 1000000

end
section


def pv (p : GPacket) : Prop := (0 ≤ p.xFrom ∧ p.xFrom ≤ 65535) ∧ (0 ≤ p.xTo ∧ p.xTo ≤ 65535) ∧ (0 ≤ p.xPort ∧ p.xPort ≤ 255) ∧ (0 ≤ p.xProto ∧ p.xProto ≤ 7)
instance (p : GPacket) : Decidable (pv p) := by unfold pv; infer_instance
def rev (p : GPacket) : GPacket := ⟨p.xTo, p.xFrom, p.xPort, p.xProto⟩
theorem rev_rev (p : GPacket) : rev (rev p) = p := rfl
theorem rev_eq {p q : GPacket} : rev p = q ↔ p = rev q := ⟨fun h => by rw [← h]; rfl, fun h => by rw [h]; rfl⟩
theorem pv_rev {p : GPacket} (h : pv p) : pv (rev p) := by unfold pv rev at *; simp only; omega
def tv (t : Int) : Prop := 0 ≤ t ∧ t ≤ 1000000
instance (t : Int) : Decidable (tv t) := by unfold tv; infer_instance

/-! packets -/
theorem S_fieldTop {n : Int} (h0 : 0 ≤ n) (h1 : n < 4) {κ : Int → Prop} (h : κ (if n ≤ 1 then 65535 else if n = 2 then 255 else 7)) : L_impl_FieldTop n κ := by
  unfold L_impl_FieldTop jnW
  refine ifW_of (fun hc => by simp at hc; omega) (fun _ => ifW_of (fun hc => by simp at hc; omega) (fun _ => ?_))
  have : n = 0 ∨ n = 1 ∨ n = 2 ∨ n = 3 := by omega
  rcases this with rfl | rfl | rfl | rfl
  · exact idxW_of 0 rfl (by simp [gl_impl_fieldShapes]) (by simpa [gl_impl_fieldShapes] using h)
  · exact idxW_of 1 rfl (by simp [gl_impl_fieldShapes]) (by simpa [gl_impl_fieldShapes] using h)
  · exact idxW_of 2 rfl (by simp [gl_impl_fieldShapes]) (by simpa [gl_impl_fieldShapes] using h)
  · exact idxW_of 3 rfl (by simp [gl_impl_fieldShapes]) (by simpa [gl_impl_fieldShapes] using h)
def fieldP (p : GPacket) : Nat → Int
  | 0 => p.xFrom
  | 1 => p.xTo
  | 2 => p.xPort
  | _ => p.xProto
def topP : Nat → Int
  | 0 => 65535
  | 1 => 65535
  | 2 => 255
  | _ => 7
theorem pv_iff (p : GPacket) : pv p ↔ ∀ i, i < 4 → 0 ≤ fieldP p i ∧ fieldP p i ≤ topP i := by
  unfold pv
  constructor
  · rintro ⟨h0, h1, h2, h3⟩ i hi
    match i, hi with
    | 0, _ => exact h0
    | 1, _ => exact h1
    | 2, _ => exact h2
    | 3, _ => exact h3
  · intro h
    exact ⟨h 0 (by omega), h 1 (by omega), h 2 (by omega), h 3 (by omega)⟩
theorem S_PacketValid {p : GPacket} {κ : Bool → Prop} (h : κ (decide (pv p))) : L_impl_PacketValid p κ := by
  unfold L_impl_PacketValid L_impl_Packet_fields
  refine count_loop 4 (fun s => s) (fun k s => s = (k : Int) ∧ k ≤ 4 ∧ ∀ i, i < k → 0 ≤ fieldP p i ∧ fieldP p i ≤ topP i) (fun k s h => h.1) (fun k s h => h.2.1) ?_ ⟨rfl, by omega, fun i hi => by omega⟩
  rintro k _ next ⟨rfl, hk, hi⟩ hn
  refine ifW_of (fun hlt => ?_) (fun hge => ?_)
  · have hlt : k < 4 := by simp at hlt; omega
    have hno : ¬ (0 ≤ fieldP p k ∧ fieldP p k ≤ topP k) → κ false := fun hno => by
      rw [decide_eq_false (fun hv => hno ((pv_iff p).1 hv k hlt))] at h
      exact h
    refine idxW_of k rfl (by simpa using hlt) ?_
    have e : ([p.xFrom, p.xTo, p.xPort, p.xProto] : List Int)[k]'(by simpa using hlt) = fieldP p k := by
      match k, hlt with
      | 0, _ => rfl
      | 1, _ => rfl
      | 2, _ => rfl
      | 3, _ => rfl
    simp only [e]
    unfold jnW
    refine ifW_of (fun hc => ?_) (fun hc => S_fieldTop (by omega) (by omega) ?_)
    · simp only [ifW_true]; exact hno (by simp at hc; omega)
    · have et : (if (k : Int) ≤ 1 then (65535 : Int) else if (k : Int) = 2 then 255 else 7) = topP k := by
        match k, hlt with
        | 0, _ => rfl
        | 1, _ => rfl
        | 2, _ => rfl
        | 3, _ => rfl
      rw [et]
      refine ifW_of (fun h2 => hno (by simp at h2; omega)) (fun h2 => addW_of (by omega) (by omega) (hn hlt _ ⟨by simp, by omega, fun i hi' => ?_⟩))
      by_cases e : i = k
      · subst e; simp at hc h2; exact ⟨hc, h2⟩
      · exact hi i (by omega)
  · have : k = 4 := by simp at hge; omega
    subst this
    rw [decide_eq_true ((pv_iff p).2 hi)] at h
    exact h
theorem S_l1In {n lo hi : Int} {κ : Bool → Prop} (h : κ (decide (lo ≤ n ∧ n ≤ hi))) : L_spec_l1In n lo hi κ := by
  unfold L_spec_l1In jnW
  refine ifW_of (fun hc => ?_) (fun hc => ?_)
  · simp at hc; simpa [hc] using h
  · simp at hc; simpa [show ¬ (lo ≤ n) by omega] using h
theorem S_specPacketValid {p : GPacket} {κ : Bool → Prop} (h : κ (decide (pv p))) : L_spec_PacketValid p κ := by
  unfold L_spec_PacketValid jnW
  refine S_l1In (ifW_of (fun h1 => S_l1In (ifW_of (fun h2 => S_l1In (ifW_of (fun h3 => S_l1In ?_) (fun h3 => ?_))) (fun h2 => ?_))) (fun h1 => ?_))
  all_goals
    refine (congrArg κ ?_).mp h
    clear h
    first
      | (refine decide_eq_decide.2 ?_; simp only [decide_eq_true_eq] at *; unfold pv; constructor <;> (intro k; omega))
      | (refine decide_eq_false ?_; simp only [decide_eq_true_eq, decide_eq_false_iff_not] at *; unfold pv; intro k; omega)
theorem S_timeValid {t : Int} {κ : Bool → Prop} (h : κ (decide (tv t))) : L_impl_timeValid t κ := by
  unfold L_impl_timeValid jnW
  unfold tv at h
  refine ifW_of (fun hc => ?_) (fun hc => ?_)
  · simp at hc; simpa [hc] using h
  · simp at hc; simpa [show ¬ (0 ≤ t) by omega] using h
def lv (t : Int) : Prop := 0 ≤ t ∧ t ≤ 1000
instance (t : Int) : Decidable (lv t) := by unfold lv; infer_instance
theorem S_lifeValid {t : Int} {κ : Bool → Prop} (h : κ (decide (lv t))) : L_impl_lifeValid t κ := by
  unfold L_impl_lifeValid jnW
  unfold lv at h
  refine ifW_of (fun hc => ?_) (fun hc => ?_)
  · simp at hc; simpa [hc] using h
  · simp at hc; simpa [show ¬ (0 ≤ t) by omega] using h

/-! flows -/
def fv (f : GFlow) : Prop := pv f.xWho ∧ tv f.xUntil
instance (f : GFlow) : Decidable (fv f) := by unfold fv; infer_instance
/-- the packet belongs to the flow -/
def hit (p : GPacket) (f : GFlow) : Prop := f.xWho = p ∨ rev f.xWho = p
instance (p : GPacket) (f : GFlow) : Decidable (hit p f) := by unfold hit; infer_instance
theorem hit_rev {p : GPacket} {f : GFlow} : hit (rev p) f ↔ hit p f := by
  unfold hit
  rw [rev_eq (p := f.xWho) (q := rev p), rev_rev, ← rev_eq (p := f.xWho)]
  exact Or.comm
def fvP (l : List GFlow) : Prop := l.length ≤ 20 ∧ (∀ f ∈ l, fv f) ∧ l.Pairwise fun f g => ¬ hit g.xWho f
instance (l : List GFlow) : Decidable (fvP l) := by unfold fvP; infer_instance
/-- the number of the flow of a packet -/
def fl (l : List GFlow) (p : GPacket) : Int × Bool :=
  match l.findIdx? (fun f => decide (hit p f)) with
  | some i => ((i : Int), true)
  | none => (0, false)
def known (l : List GFlow) (p : GPacket) (now : Int) : Int :=
  match l.findIdx? (fun f => decide (hit p f)) with
  | some i => if ((l[i]?).map (·.xUntil)).getD 0 < now then -1 else (i : Int)
  | none => -1
def notExp (l : List GFlow) (now : Int) : List GFlow := l.filter fun f => decide (now ≤ f.xUntil)
def track (l : List GFlow) (p : GPacket) (now life : Int) : List GFlow × Bool :=
  if 0 ≤ known (notExp l now) p now then ((notExp l now).modify (known (notExp l now) p now).toNat (fun f => ⟨f.xWho, min (now + life) 1000000⟩), true)
  else if (notExp l now).length = 20 then (notExp l now, false) else (notExp l now ++ [⟨p, min (now + life) 1000000⟩], true)

theorem mget_mput {K : Type} [DecidableEq K] (k k' : K) (v : Int) : ∀ m : List (K × Int), mget k (mput k' v m) = if k = k' then (v, true) else mget k m
  | [] => by simp [mput, mget]
  | p :: r => by
    unfold mput
    by_cases h : k' = p.1
    · subst h
      rw [if_pos rfl]
      unfold mget
      by_cases h2 : k = p.1 <;> simp [h2]
    · rw [if_neg h]
      unfold mget
      rw [mget_mput k k' v r]
      by_cases h2 : k = p.1
      · subst h2
        rw [if_pos rfl, if_neg (fun e => h e.symm), if_pos rfl]
      · simp [h2]
theorem fl_snoc (l : List GFlow) (f : GFlow) (p : GPacket) (hd : ∀ g ∈ l, ¬ hit f.xWho g) : fl (l ++ [f]) p = if hit p f then ((l.length : Int), true) else fl l p := by
  unfold fl
  rw [List.findIdx?_append]
  by_cases hp : hit p f
  · have hn : l.findIdx? (fun f => decide (hit p f)) = none := by
      rw [List.findIdx?_eq_none_iff]
      intro g hg
      simp only [decide_eq_false_iff_not]
      intro hgp
      refine hd g hg ?_
      rcases hp with h | h
      · rw [h]; exact hgp
      · have := hit_rev.2 hgp
        rw [← h, rev_rev] at this
        exact this
    simp [hn, hp]
  · cases hn : l.findIdx? (fun f => decide (hit p f)) with
    | none => simp [hp]
    | some i => simp [hp]
theorem fl_yes {l : List GFlow} {p : GPacket} : (fl l p).2 = true ↔ ∃ f ∈ l, hit p f := by
  unfold fl
  cases h : l.findIdx? (fun f => decide (hit p f)) with
  | none =>
    rw [List.findIdx?_eq_none_iff] at h
    simp only [Bool.false_eq_true, false_iff]
    rintro ⟨f, h1, h2⟩
    have := h f h1
    simp [h2] at this
  | some i =>
    obtain ⟨h1, h2, _⟩ := List.findIdx?_eq_some_iff_getElem.1 h
    simp only [true_iff]
    exact ⟨_, List.getElem_mem h1, by simpa using h2⟩
theorem pair_snoc {l : List GFlow} {f : GFlow} : (l ++ [f]).Pairwise (fun f g => ¬ hit g.xWho f) ↔ l.Pairwise (fun f g => ¬ hit g.xWho f) ∧ ∀ g ∈ l, ¬ hit f.xWho g := by
  rw [List.pairwise_append]
  constructor
  · rintro ⟨h1, _, h3⟩
    exact ⟨h1, fun g hg => h3 g hg f (by simp)⟩
  · rintro ⟨h1, h3⟩
    exact ⟨h1, by simp, fun g hg x hx => by simp at hx; subst hx; exact h3 g hg⟩

theorem S_indexFlows {l : List GFlow} {κ : List (GPacket × Int) × Bool → Prop} (hy : ∀ m, fvP l → (∀ p, mget p m = fl l p) → κ (m, true)) (hn : ¬ fvP l → κ ([], false)) : L_impl_indexFlows l κ := by
  unfold L_impl_indexFlows
  refine ifW_of (fun hc => hn (fun hv => by have := hv.1; simp at hc; omega)) (fun hc => ?_)
  simp at hc
  refine count_loop l.length (fun s => s.2) (fun k s => s.2 = (k : Int) ∧ k ≤ l.length ∧ (∀ f ∈ l.take k, fv f) ∧ (l.take k).Pairwise (fun f g => ¬ hit g.xWho f) ∧ ∀ p, mget p s.1 = fl (l.take k) p) (fun k s h => h.1) (fun k s h => h.2.1) ?_
    ⟨rfl, Nat.zero_le _, by simp, by simp, fun p => rfl⟩
  rintro k ⟨m, t⟩ next ⟨rfl, hk, h1, h2, h3⟩ hnx
  simp only at h3
  refine ifW_of (fun hlt => ?_) (fun hge => ?_)
  · have hlt : k < l.length := by simpa using hlt
    have ht : l.take (k + 1) = l.take k ++ [l[k]] := List.take_succ_eq_append_getElem hlt
    have hbad : ¬ fv l[k] → κ ([], false) := fun hno => hn (fun hv => hno (hv.2.1 _ (List.getElem_mem hlt)))
    refine idxW_of k rfl hlt ?_
    unfold jnW
    refine S_PacketValid (ifW_of (fun hp => ?_) (fun hp => S_timeValid (ifW_of (fun ht => ?_) (fun htv => ?_))))
    · simp only [ifW_true]; exact hbad (fun hv => by simp [hv.1] at hp)
    · exact hbad (fun hv => by simp [hv.2] at ht)
    · simp at hp htv
      have hfv : fv l[k] := ⟨hp, htv⟩
      rw [h3]
      refine ifW_of (fun hy' => hn (fun hv => ?_)) (fun hno => ?_)
      · obtain ⟨g, hg, hh⟩ := fl_yes.1 hy'
        have hpw : (l.take (k + 1)).Pairwise (fun f g => ¬ hit g.xWho f) := hv.2.2.sublist (List.take_sublist _ _)
        rw [ht, pair_snoc] at hpw
        exact hpw.2 g hg hh
      · have hd : ∀ g ∈ l.take k, ¬ hit (l[k]).xWho g := fun g hg hh => by
          have := fl_yes.2 ⟨g, hg, hh⟩
          rw [hno] at this
          cases this
        unfold L_impl_Packet_reverse
        refine addW_of (by omega) (by omega) (hnx hlt _ ⟨by simp, by omega, ?_, ?_, fun p => ?_⟩)
        · rw [ht]
          intro f hf
          rcases List.mem_append.1 hf with hf | hf
          · exact h1 f hf
          · simp at hf; subst hf; exact hfv
        · rw [ht, pair_snoc]; exact ⟨h2, hd⟩
        · rw [ht, fl_snoc _ _ _ hd]
          show mget p (mput (rev l[k].xWho) (k : Int) (mput l[k].xWho (k : Int) m)) = _
          rw [mget_mput, mget_mput, h3]
          have hl : (l.take k).length = k := by simp; omega
          rw [hl]
          by_cases e1 : p = rev l[k].xWho
          · rw [if_pos e1, if_pos (show hit p l[k] from .inr e1.symm)]
          · by_cases e2 : p = l[k].xWho
            · rw [if_neg e1, if_pos e2, if_pos (show hit p l[k] from .inl e2.symm)]
            · rw [if_neg e1, if_neg e2, if_neg (show ¬ hit p l[k] from fun h => h.elim (fun h => e2 h.symm) (fun h => e1 h.symm))]
  · have : k = l.length := by simp at hge; omega
    subst this
    rw [List.take_length] at h1 h2 h3
    exact hy m ⟨by omega, h1, h2⟩ h3
theorem S_known {x : List (GPacket × Int)} {l : List GFlow} {p : GPacket} {now : Int} (hx : mget p x = fl l p) {κ : Int → Prop} (h : κ (known l p now)) : L_impl_flowIndex_known x l p now κ := by
  unfold L_impl_flowIndex_known jnW
  rw [hx]
  unfold known at h
  unfold fl
  cases hf : l.findIdx? (fun f => decide (hit p f)) with
  | none =>
    rw [hf] at h
    exact ifW_of (fun _ => by simp only [ifW_true]; exact h) (fun hc => by simp at hc)
  | some i =>
    rw [hf] at h
    obtain ⟨hi, _⟩ := List.findIdx?_eq_some_iff_getElem.1 hf
    simp only [List.getElem?_eq_getElem hi, Option.map_some, Option.getD_some] at h
    refine ifW_of (fun hc => by simp at hc) (fun _ => idxW_of i rfl hi (ifW_of (fun hc => ?_) (fun hc => ?_)))
    · simp at hc; rwa [if_pos hc] at h
    · simp at hc; rwa [if_neg (by omega)] at h
theorem S_notExpired {l : List GFlow} (hl : l.length ≤ 4294967296) {now : Int} {κ : List GFlow → Prop} (h : κ (notExp l now)) : L_impl_notExpired l now κ := by
  unfold L_impl_notExpired
  refine makeW_of 0 rfl (by omega) (by omega) ?_
  refine count_loop l.length (fun s => s.2) (fun k s => s.2 = (k : Int) ∧ k ≤ l.length ∧ s.1 = notExp (l.take k) now) (fun k s h => h.1) (fun k s h => h.2.1) ?_ ⟨rfl, Nat.zero_le _, rfl⟩
  rintro k ⟨ys, t⟩ next ⟨rfl, hk, h1⟩ hn
  simp only at h1
  subst h1
  refine ifW_of (fun hlt => ?_) (fun hge => ?_)
  · have hlt : k < l.length := by simpa using hlt
    have ht : l.take (k + 1) = l.take k ++ [l[k]] := List.take_succ_eq_append_getElem hlt
    have hle : (notExp (l.take k) now).length ≤ k := Nat.le_trans (List.length_filter_le _ _) (by simp; omega)
    refine idxW_of k rfl hlt (ifW_of (fun hc => appW_of (by simp; omega) (addW_of (by omega) (by omega) (hn hlt _ ⟨by simp, by omega, ?_⟩))) (fun hc => addW_of (by omega) (by omega) (hn hlt _ ⟨by simp, by omega, ?_⟩)))
    · simp only [ht, notExp, List.filter_append]
      simp [hc]
    · simp only [ht, notExp, List.filter_append]
      simp [hc]
  · have : k = l.length := by simp at hge; omega
    subst this
    rw [List.take_length]
    exact h
theorem notExp_ok {l : List GFlow} (h : fvP l) (now : Int) : fvP (notExp l now) := by
  have hs : (notExp l now).Sublist l := List.filter_sublist
  exact ⟨Nat.le_trans hs.length_le h.1, fun f hf => h.2.1 f (hs.subset hf), h.2.2.sublist hs⟩
theorem known_lt {l : List GFlow} {p : GPacket} {now : Int} (h : 0 ≤ known l p now) : ∃ i, ∃ hi : i < l.length, known l p now = (i : Int) ∧ hit p l[i] ∧ now ≤ l[i].xUntil ∧ l.findIdx? (fun f => decide (hit p f)) = some i := by
  unfold known at *
  cases hf : l.findIdx? (fun f => decide (hit p f)) with
  | none => rw [hf] at h; simp at h
  | some i =>
    rw [hf] at h
    obtain ⟨hi, h2, _⟩ := List.findIdx?_eq_some_iff_getElem.1 hf
    simp only [List.getElem?_eq_getElem hi, Option.map_some, Option.getD_some] at h ⊢
    split at h
    · omega
    · rename_i hc
      exact ⟨i, hi, if_neg hc, by simpa using h2, by omega, rfl⟩
theorem modify_set {α : Type} (l : List α) (i : Nat) (h : i < l.length) (f : α → α) : l.modify i f = l.set i (f l[i]) := by
  apply List.ext_getElem
  · simp
  · intro j h1 h2
    rw [List.getElem_modify, List.getElem_set]
    split
    · rename_i e; subst e; rfl
    · rfl
theorem S_trackValid {l : List GFlow} {p : GPacket} {now life : Int} (hv : fvP l) (h1 : tv now) (h2 : lv life) {κ : List GFlow × Bool → Prop} (h : ∀ A ok, track l p now life = (A, ok) → κ (A, ok)) : L_impl_trackValid l p now life κ := by
  unfold L_impl_trackValid
  obtain ⟨t1, t2⟩ := h1
  obtain ⟨l1, l2⟩ := h2
  have ho := notExp_ok hv now
  unfold track at h
  refine S_notExpired (by have := hv.1; omega) (addW_of (by omega) (by omega) (S_indexFlows (fun m hm hmg => S_known (hmg p) ?_) (fun hno => absurd ho hno)))
  refine ifW_of (fun hc => ?_) (fun hc => ?_)
  · have hc : 0 ≤ known (notExp l now) p now := by simpa using hc
    rw [if_pos hc] at h
    obtain ⟨i, hi, e, _⟩ := known_lt hc
    rw [e] at h ⊢
    refine idxW_of i rfl hi (h _ _ ?_)
    simp only [Int.toNat_natCast]
    congr 1
    rw [modify_set _ _ hi]
  · have hc : ¬ 0 ≤ known (notExp l now) p now := by simpa using hc
    rw [if_neg hc] at h
    have := ho.1
    refine ifW_of (fun h20 => ?_) (fun h20 => appW_of (by simp; omega) ?_)
    · rw [if_pos (by simp at h20; omega)] at h
      exact h _ _ rfl
    · rw [if_neg (by simp at h20; omega)] at h
      exact h _ _ rfl
def trackV (l : List GFlow) (p : GPacket) (now life : Int) : Prop := fvP l ∧ pv p ∧ tv now ∧ lv life
instance (l : List GFlow) (p : GPacket) (now life : Int) : Decidable (trackV l p now life) := by unfold trackV; infer_instance

end
section


theorem S_specReverse {p : GPacket} {κ : GPacket → Prop} (h : κ (if pv p then rev p else ⟨0, 0, 0, 0⟩)) : L_spec_ReversePacket p κ := by
  unfold L_spec_ReversePacket
  refine S_specPacketValid (ifW_of (fun hc => ?_) (fun hc => ?_))
  · rw [if_neg (by simpa using hc)] at h; exact h
  · rw [if_pos (by simpa using hc)] at h; exact h
theorem S_l19Same {f : GFlow} {p : GPacket} (hp : pv p) {κ : Bool → Prop} (h : κ (decide (hit p f))) : L_spec_l19Same f.xWho p κ := by
  unfold L_spec_l19Same jnW
  unfold hit at h
  refine ifW_of (fun hc => ?_) (fun hc => S_specReverse ?_)
  · simp at hc; simpa [hc] using h
  · simp at hc
    rw [if_pos hp]
    have : (decide (f.xWho = p ∨ rev f.xWho = p)) = decide (f.xWho = rev p) := by
      rw [decide_eq_decide, rev_eq]
      simp [hc]
    rwa [this] at h
theorem S_specFlowsValid {l : List GFlow} (hl : l.length ≤ 4294967296) {κ : Bool → Prop} (h : κ (decide (fvP l))) : L_spec_FlowsValid l κ := by
  unfold L_spec_FlowsValid
  have hbad : ¬ fvP l → κ false := fun hno => by rw [decide_eq_false hno] at h; exact h
  refine count_loop l.length (fun s => s) (fun k s => s = (k : Int) ∧ k ≤ l.length ∧ (∀ f ∈ l.take k, fv f) ∧ (l.take k).Pairwise (fun f g => ¬ hit g.xWho f)) (fun k s h => h.1) (fun k s h => h.2.1) ?_ ⟨rfl, Nat.zero_le _, by simp, by simp⟩
  rintro k _ next ⟨rfl, hk, h1, h2⟩ hnx
  refine ifW_of (fun hlt => ?_) (fun hge => ?_)
  · have hlt : k < l.length := by simpa using hlt
    have ht : l.take (k + 1) = l.take k ++ [l[k]] := List.take_succ_eq_append_getElem hlt
    have hbad' : ¬ fv l[k] → κ false := fun hno => hbad (fun hv => hno (hv.2.1 _ (List.getElem_mem hlt)))
    refine idxW_of k rfl hlt (S_specPacketValid (ifW_of (fun hp => ?_) (fun hp => idxW_of k rfl hlt (S_l1In ?_))))
    · simp only [ifW_true]; exact hbad' (fun hv => by simp [hv.1] at hp)
    · simp at hp
      refine ifW_of (fun ht => hbad' (fun hv => by have := hv.2; unfold tv at this; simp at ht; omega)) (fun htv => ?_)
      have hfv : fv l[k] := ⟨hp, by unfold tv; simpa using htv⟩
      refine count_loop k (fun s => s) (fun j s => s = (j : Int) ∧ j ≤ k ∧ ∀ g ∈ l.take j, ¬ hit l[k].xWho g) (fun j s h => h.1) (fun j s h => h.2.1) ?_ ⟨rfl, Nat.zero_le _, by simp⟩
      rintro j _ next2 ⟨rfl, hj, hg⟩ hn2
      refine ifW_of (fun hlj => ?_) (fun hgj => ?_)
      · have hlj : j < k := by simpa using hlj
        have htj : l.take (j + 1) = l.take j ++ [l[j]] := List.take_succ_eq_append_getElem (by omega)
        refine idxW_of j rfl (by omega) (idxW_of k rfl hlt (S_l19Same hp (ifW_of (fun hh => hbad (fun hv => ?_)) (fun hh => addW_of (by omega) (by omega) (hn2 hlj _ ⟨by simp, by omega, ?_⟩)))))
        · have := List.pairwise_iff_getElem.1 hv.2.2 j k (by omega) hlt hlj
          exact this (by simpa using hh)
        · rw [htj]
          intro g hg'
          rcases List.mem_append.1 hg' with hg' | hg'
          · exact hg g hg'
          · simp at hg'; subst hg'; simpa using hh
      · have : j = k := by simp at hgj; omega
        subst this
        refine addW_of (by omega) (by omega) (hnx hlt _ ⟨by simp, by omega, ?_, ?_⟩)
        · rw [ht]
          intro f hf
          rcases List.mem_append.1 hf with hf | hf
          · exact h1 f hf
          · simp at hf; subst hf; exact hfv
        · rw [ht, pair_snoc]; exact ⟨h2, hg⟩
  · have : k = l.length := by simp at hge; omega
    subst this
    rw [List.take_length] at h1 h2
    have : decide (fvP l) = decide ((l.length : Int) ≤ 20) := by
      rw [decide_eq_decide]
      constructor
      · intro hv; have := hv.1; omega
      · intro h3; exact ⟨by omega, h1, h2⟩
    rwa [this] at h
theorem S_specExpire {l : List GFlow} (hl : l.length ≤ 4294967296) {now : Int} {κ : List GFlow → Prop} (hy : fvP l → tv now → κ (notExp l now)) (hn : ¬ (fvP l ∧ tv now) → κ []) : L_spec_ExpireFlows l now κ := by
  unfold L_spec_ExpireFlows
  by_cases hv : fvP l ∧ tv now
  · obtain ⟨hv, ht⟩ := hv
    have h := hy hv ht
    refine count_loop l.length (fun s => s.2) (fun k s => s.2 = (k : Int) ∧ k ≤ l.length ∧ s.1 = notExp (l.take k) now) (fun k s h => h.1) (fun k s h => h.2.1) ?_ ⟨rfl, Nat.zero_le _, rfl⟩
    rintro k ⟨ys, t⟩ next ⟨rfl, hk, h1⟩ hn
    simp only at h1
    subst h1
    unfold jnW
    refine ifW_of (fun hlt => S_specFlowsValid hl ?_) (fun hge => ?_)
    · have hlt : k < l.length := by simpa using hlt
      have htk : l.take (k + 1) = l.take k ++ [l[k]] := List.take_succ_eq_append_getElem hlt
      have hle : (notExp (l.take k) now).length ≤ k := Nat.le_trans (List.length_filter_le _ _) (by simp; omega)
      rw [decide_eq_true hv]
      simp only [ifW_true]
      refine S_l1In ?_
      have : (decide (0 ≤ now ∧ now ≤ 1000000)) = true := by unfold tv at ht; simpa using ht
      rw [this]
      simp only [ifW_true]
      refine idxW_of k rfl hlt (ifW_of (fun hc => idxW_of k rfl hlt (appW_of (by simp; omega) (addW_of (by omega) (by omega) (hn hlt _ ⟨by simp, by omega, ?_⟩)))) (fun hc => addW_of (by omega) (by omega) (hn hlt _ ⟨by simp, by omega, ?_⟩)))
      · simp only [htk, notExp, List.filter_append]
        simp [hc]
      · simp only [htk, notExp, List.filter_append]
        simp [hc]
    · have : k = l.length := by simp at hge; omega
      subst this
      simp only [ifW_false]
      rw [List.take_length]
      exact h
  · have h := hn hv
    refine loopW_inv (fun s => s = ([], 0)) (fun _ => 0) ?_ rfl
    rintro s next rfl _
    simp only
    unfold jnW
    refine ifW_of (fun _ => S_specFlowsValid hl (ifW_of (fun h1 => S_l1In ?_) (fun h1 => ?_))) (fun _ => ?_)
    · have : (decide (0 ≤ now ∧ now ≤ 1000000)) = false := by simp at h1; exact decide_eq_false (fun k => hv ⟨h1, k⟩)
      rw [this]; simp only [ifW_false]; exact h
    · simp only [ifW_false]; exact h
    · simp only [ifW_false]; exact h
theorem find_at {l : List GFlow} (hv : fvP l) {p : GPacket} {i : Nat} (hi : i < l.length) (hh : hit p l[i]) : l.findIdx? (fun f => decide (hit p f)) = some i := by
  refine List.findIdx?_eq_some_iff_getElem.2 ⟨hi, by simpa using hh, fun j hj => ?_⟩
  simp only [decide_eq_true_eq]
  intro hj'
  have := List.pairwise_iff_getElem.1 hv.2.2 j i (by omega) hi hj
  refine this ?_
  rcases hh with e | e
  · rw [e]; exact hj'
  · have := hit_rev.2 hj'
    rwa [← e, rev_rev] at this
theorem S_specKnown {l : List GFlow} (hl : l.length ≤ 4294967296) {p : GPacket} {now : Int} {κ : Int → Prop} (hy : fvP l → pv p → tv now → κ (known l p now)) (hn : ¬ (fvP l ∧ pv p ∧ tv now) → κ (-1)) : L_spec_KnownFlow l p now κ := by
  unfold L_spec_KnownFlow
  by_cases hv : fvP l ∧ pv p ∧ tv now
  · obtain ⟨hv, hp, ht⟩ := hv
    have h := hy hv hp ht
    refine count_loop l.length (fun s => s) (fun k s => s = (k : Int) ∧ k ≤ l.length ∧ ∀ i, ∀ hi : i < l.length, i < k → ¬ (hit p l[i] ∧ now ≤ l[i].xUntil)) (fun k s h => h.1) (fun k s h => h.2.1) ?_ ⟨rfl, Nat.zero_le _, fun i _ hi => by omega⟩
    rintro k _ next ⟨rfl, hk, h1⟩ hn
    unfold jnW
    refine ifW_of (fun hlt => S_specFlowsValid hl ?_) (fun hge => ?_)
    · have hlt : k < l.length := by simpa using hlt
      rw [decide_eq_true hv]
      simp only [ifW_true]
      refine S_specPacketValid ?_
      rw [decide_eq_true hp]
      simp only [ifW_true]
      refine S_l1In ?_
      have : (decide (0 ≤ now ∧ now ≤ 1000000)) = true := by unfold tv at ht; simpa using ht
      rw [this]
      simp only [ifW_true]
      have hgo : ¬ (hit p l[k] ∧ now ≤ l[k].xUntil) → next ((k : Int) + 1) := fun hno => hn hlt _ ⟨by simp, by omega, fun i hi hik => by
        by_cases e : i = k
        · subst e; exact hno
        · exact h1 i hi (by omega)⟩
      refine idxW_of k rfl hlt (S_l19Same hp (ifW_of (fun hc => idxW_of k rfl hlt (ifW_of (fun h2 => ?_) (fun h2 => ?_))) (fun hc => ?_)))
      · simp at hc h2
        have e : known l p now = (k : Int) := by
          unfold known
          rw [find_at hv hlt hc]
          simp [hlt]
          omega
        rwa [e] at h
      · simp at hc h2
        exact addW_of (by omega) (by omega) (hgo (fun k => by omega))
      · simp only [ifW_false]
        exact addW_of (by omega) (by omega) (hgo (fun k => by simp [k.1] at hc))
    · have : k = l.length := by simp at hge; omega
      subst this
      simp only [ifW_false]
      have e : known l p now = -1 := by
        refine Decidable.byContradiction (fun hne => ?_)
        have : 0 ≤ known l p now := by
          unfold known at hne ⊢
          split
          · split
            · rename_i i hf hc
              rw [hf] at hne; simp only at hne; rw [if_pos hc] at hne; exact absurd rfl hne
            · omega
          · rename_i hf
            rw [hf] at hne; exact absurd rfl hne
        obtain ⟨i, hi, _, k1, k2, _⟩ := known_lt this
        exact h1 i hi hi ⟨k1, k2⟩
      rwa [e] at h
  · have h := hn hv
    refine loopW_inv (fun s => s = 0) (fun _ => 0) ?_ rfl
    rintro s next rfl _
    unfold jnW
    refine ifW_of (fun _ => S_specFlowsValid hl (ifW_of (fun h1 => S_specPacketValid (ifW_of (fun h2 => S_l1In ?_) (fun h2 => ?_))) (fun h1 => ?_))) (fun _ => ?_)
    · have : (decide (0 ≤ now ∧ now ≤ 1000000)) = false := by simp at h1 h2; exact decide_eq_false (fun k => hv ⟨h1, h2, k⟩)
      rw [this]; simp only [ifW_false]; exact h
    · simp only [ifW_false]; exact h
    · simp only [ifW_false]; exact h
    · simp only [ifW_false]; exact h
theorem S_specTrack {l : List GFlow} (hl : l.length ≤ 4294967296) {p : GPacket} {now life : Int} {κ : List GFlow × Bool → Prop} (hy : trackV l p now life → ∀ A ok, track l p now life = (A, ok) → κ (A, ok)) (hn : ¬ trackV l p now life → κ ([], false)) : L_spec_TrackFlow l p now life κ := by
  unfold L_spec_TrackFlow jnW
  refine S_specFlowsValid hl (ifW_of (fun h1 => ?_) (fun h1 => S_specPacketValid (ifW_of (fun h2 => ?_) (fun h2 => S_l1In (ifW_of (fun h3 => ?_) (fun h3 => S_l1In ?_))))))
  · simp only [ifW_true]; exact hn (fun hv => by simp [hv.1] at h1)
  · simp only [ifW_true]; exact hn (fun hv => by simp [hv.2.1] at h2)
  · simp only [ifW_true]; exact hn (fun hv => by have := hv.2.2.1; unfold tv at this; simp at h3; omega)
  · simp at h1 h2 h3
    refine ifW_of (fun h4 => hn (fun hv => by have := hv.2.2.2; unfold lv at this; simp at h4; omega)) (fun h4 => ?_)
    simp at h4
    have hv : trackV l p now life := ⟨h1, h2, h3, h4⟩
    have h := hy hv
    refine S_specExpire hl (fun _ _ => ?_) (fun hno => absurd ⟨h1, h3⟩ hno)
    have ho := notExp_ok h1 now
    have ho1 := ho.1
    refine addW_of (by omega) (by omega) (S_specKnown (by omega) (fun _ _ _ => ?_) (fun hno => absurd ⟨ho, h2, h3⟩ hno))
    unfold track at h
    rw [Int.min_comm 1000000]
    refine ifW_of (fun hc => ?_) (fun hc => ?_)
    · have hc : 0 ≤ known (notExp l now) p now := by simpa using hc
      rw [if_pos hc] at h
      obtain ⟨i, hi, e, _⟩ := known_lt hc
      rw [e] at h ⊢
      refine idxW_of i rfl hi (h _ _ ?_)
      simp only [Int.toNat_natCast]
      congr 1
      rw [modify_set _ _ hi]
    · have hc : ¬ 0 ≤ known (notExp l now) p now := by simpa using hc
      rw [if_neg hc] at h
      refine ifW_of (fun h20 => ?_) (fun h20 => appW_of (by simp; omega) ?_)
      · rw [if_pos (by simp at h20; omega)] at h
        exact h _ _ rfl
      · rw [if_neg (by simp at h20; omega)] at h
        exact h _ _ rfl

/-! what tracking leaves -/
theorem mod_who (l : List GFlow) (i : Nat) (u : Int) (j : Nat) (hj : j < (l.modify i (fun f => ⟨f.xWho, u⟩)).length) : ((l.modify i (fun f => ⟨f.xWho, u⟩))[j]).xWho = (l[j]'(by simpa using hj)).xWho := by
  rw [List.getElem_modify]
  split <;> rfl
theorem fvP_mod {l : List GFlow} (h : fvP l) (i : Nat) {u : Int} (hu : tv u) : fvP (l.modify i (fun f => ⟨f.xWho, u⟩)) := by
  refine ⟨by simpa using h.1, fun f hf => ?_, ?_⟩
  · obtain ⟨j, hj, rfl⟩ := List.mem_iff_getElem.1 hf
    have hj' : j < l.length := by simpa using hj
    have := h.2.1 _ (List.getElem_mem hj')
    refine ⟨by rw [mod_who]; exact this.1, ?_⟩
    rw [List.getElem_modify]
    split
    · exact hu
    · exact this.2
  · refine List.pairwise_iff_getElem.2 (fun a b ha hb hab => ?_)
    have := List.pairwise_iff_getElem.1 h.2.2 a b (by simpa using ha) (by simpa using hb) hab
    unfold hit at this ⊢
    rwa [mod_who, mod_who]
theorem known_neg {l : List GFlow} {p : GPacket} {now : Int} (hall : ∀ f ∈ l, now ≤ f.xUntil) (h : ¬ 0 ≤ known l p now) : ∀ f ∈ l, ¬ hit p f := by
  intro f hf hh
  unfold known at h
  cases hx : l.findIdx? (fun f => decide (hit p f)) with
  | none =>
    rw [List.findIdx?_eq_none_iff] at hx
    have := hx f hf
    simp [hh] at this
  | some i =>
    rw [hx] at h
    obtain ⟨hi, _⟩ := List.findIdx?_eq_some_iff_getElem.1 hx
    have := hall _ (List.getElem_mem hi)
    simp only [List.getElem?_eq_getElem hi, Option.map_some, Option.getD_some] at h
    rw [if_neg (by omega)] at h
    omega
theorem notExp_all (l : List GFlow) (now : Int) : ∀ f ∈ notExp l now, now ≤ f.xUntil := fun f hf => by simpa using (List.mem_filter.1 hf).2
theorem track_full {l : List GFlow} {p : GPacket} {now life : Int} {A : List GFlow} (h : track l p now life = (A, false)) : A = notExp l now ∧ A.length = 20 := by
  unfold track at h
  split at h
  · cases h
  · split at h
    · rename_i h20
      cases h
      exact ⟨rfl, h20⟩
    · cases h
theorem track_ok {l : List GFlow} {p : GPacket} {now life : Int} {A : List GFlow} (hv : trackV l p now life) (h : track l p now life = (A, true)) :
    fvP A ∧ (∀ f ∈ A, now ≤ f.xUntil) ∧ ∃ i, ∃ hi : i < A.length, hit p A[i] ∧ A[i].xUntil = min (now + life) 1000000 := by
  obtain ⟨h1, h2, ⟨t1, t2⟩, ⟨l1, l2⟩⟩ := hv
  have ho := notExp_ok h1 now
  have hall := notExp_all l now
  have hu : tv (min (now + life) 1000000) := by unfold tv; omega
  unfold track at h
  split at h
  · rename_i hc
    obtain ⟨i, hi, e, k1, k2, _⟩ := known_lt hc
    rw [e] at h
    simp only [Int.toNat_natCast] at h
    cases h
    refine ⟨fvP_mod ho i hu, fun f hf => ?_, i, by simpa using hi, ?_, ?_⟩
    · obtain ⟨j, hj, rfl⟩ := List.mem_iff_getElem.1 hf
      rw [List.getElem_modify]
      split
      · simp only; omega
      · exact hall _ (List.getElem_mem _)
    · unfold hit at k1 ⊢; rw [mod_who]; exact k1
    · rw [List.getElem_modify, if_pos rfl]
  · rename_i hc
    split at h
    · cases h
    · rename_i h20
      cases h
      have ho1 := ho.1
      refine ⟨⟨by simp; omega, fun f hf => ?_, pair_snoc.2 ⟨ho.2.2, known_neg hall hc⟩⟩, fun f hf => ?_, (notExp l now).length, by simp, ?_, ?_⟩
      · rcases List.mem_append.1 hf with hf | hf
        · exact ho.2.1 f hf
        · simp at hf; subst hf; exact ⟨h2, hu⟩
      · rcases List.mem_append.1 hf with hf | hf
        · exact hall f hf
        · simp at hf; subst hf; simp only; omega
      · simp [hit]
      · simp
theorem known_at {l : List GFlow} (hv : fvP l) {p : GPacket} {i : Nat} (hi : i < l.length) (hh : hit p l[i]) (t : Int) : known l p t = if l[i].xUntil < t then -1 else (i : Int) := by
  unfold known
  rw [find_at hv hi hh]
  simp [hi]
end
section

/-- sizes that are taken away one by one -/
theorem szG_loop {α : Type} (P : α → Prop) (a : List α) (left : Int) (h0 : 0 ≤ left) (h1 : left ≤ 1048576) (hl : a.length ≤ 4294967296) {κ : Int → Prop} (hκ : ∀ r, 0 ≤ r → r ≤ left → (∀ x, x ∈ a → P x) → κ r) (F : (Int × Int → Prop) → Int × Int → Prop)
    (hF : ∀ (nx : Int × Int → Prop) (r : Int) (t : Nat), 0 ≤ r → r ≤ 1048576 → t ≤ a.length → (∀ x, a[t]? = some x → ∀ r', 0 ≤ r' → r' ≤ r → P x → nx (r', (t : Int) + 1)) → (¬ t < a.length → κ r) → F nx (r, (t : Int))) : loopW F (left, 0) := by
  refine count_loop a.length (fun s => s.2) (fun k s => s.2 = (k : Int) ∧ k ≤ a.length ∧ 0 ≤ s.1 ∧ s.1 ≤ left ∧ ∀ x, x ∈ a.take k → P x) (fun k s h => h.1) (fun k s h => h.2.1) ?_ ⟨rfl, Nat.zero_le _, h0, Int.le_refl _, by simp⟩
  rintro k ⟨r, t⟩ next ⟨rfl, hk, hr0, hr1, hP⟩ hn
  simp only at hr0 hr1 hP
  refine hF _ _ _ hr0 (by omega) hk (fun x hx r' g0 g1 hp => ?_) (fun hge => hκ r hr0 hr1 ?_)
  · obtain ⟨e1, e2⟩ := List.getElem?_eq_some_iff.1 hx
    refine hn e1 _ ⟨by simp, by omega, g0, by simp only; omega, fun y hy => ?_⟩
    rw [List.take_succ_eq_append_getElem e1, List.mem_append, List.mem_singleton] at hy
    rcases hy with hy | rfl
    · exact hP y hy
    · rw [e2]; exact hp
  · have : k = a.length := by omega
    rw [this, List.take_length] at hP
    exact hP
/-- equality with itself, element by element -/
theorem eqS_loop {α : Type} (a : List α) (hl : a.length ≤ 4294967296) {κ : Bool → Prop} (hκ : κ true) (F : (Int → Prop) → Int → Prop)
    (hF : ∀ (nx : Int → Prop) (t : Nat), t ≤ a.length → (∀ x, a[t]? = some x → x ∈ a ∧ nx ((t : Int) + 1)) → (¬ t < a.length → κ true) → F nx (t : Int)) : loopW F 0 := by
  refine count_loop a.length (fun s => s) (fun k s => s = (k : Int) ∧ k ≤ a.length) (fun k s h => h.1) (fun k s h => h.2) ?_ ⟨rfl, Nat.zero_le _⟩
  rintro k _ next ⟨rfl, hk⟩ hn
  refine hF _ _ hk (fun x hx => ?_) (fun _ => hκ)
  obtain ⟨e1, e2⟩ := List.getElem?_eq_some_iff.1 hx
  exact ⟨e2 ▸ List.getElem_mem e1, hn e1 _ ⟨by omega, by omega⟩⟩
end
section
open Go.Lib (decDigits)

def B (l : List UInt8) : ByteArray := ByteArray.mk l.toArray
/-- a digit -/
def dg (c : UInt8) : Bool := decide (48 ≤ c.toNat) && decide (c.toNat ≤ 57)
def val (l : List UInt8) : Nat := l.foldl (fun n c => 10 * n + (c.toNat - 48)) 0
/-- the number at the head of a text: at most six digits -/
def run : Nat → List UInt8 → List UInt8
  | 0, _ => []
  | _, [] => []
  | k + 1, c :: l => if dg c then c :: run k l else []
end
section
open Go.Lib (decDigits)

/-- a text before and behind the first of a sign -/
def cut (c : UInt8) : List UInt8 → List UInt8 × List UInt8
  | [] => ([], [])
  | d :: l => if d = c then ([], l) else (d :: (cut c l).1, (cut c l).2)
end
section
open Go.Lib (decDigits)

theorem w64_small {x : Int} (h1 : -100 ≤ x) (h2 : x ≤ 100) : w64 x = x := by
  simp [w64, IntKind.wrap, IntKind.signed, IntKind.bits]; omega
theorem RdP.step {b : List UInt8} {p p' : Int} {m : Int} (h : RdP b p) (h1 : p ≤ p') (h2 : p' ≤ 1000000) : RdP b p' := ⟨h.1, by have := h.2.1; omega, h2⟩


end
section
open Go.Lib (decDigits)

def top (f : Int) : Int := if f = 0 ∨ f = 1 then 65535 else if f = 2 then 255 else 7
def nm (f : Int) : List UInt8 := if f = 0 then [102, 114, 111, 109] else if f = 1 then [116, 111] else if f = 2 then [112, 111, 114, 116] else [112, 114, 111, 116, 111]
def TV (t : GTest) : Prop := 0 ≤ t.xField ∧ t.xField ≤ 3 ∧ 0 ≤ t.xLo ∧ t.xLo ≤ t.xHi ∧ t.xHi ≤ top t.xField
instance (t : GTest) : Decidable (TV t) := by unfold TV; infer_instance
theorem four {f : Int} (h0 : 0 ≤ f) (h1 : f ≤ 3) : f = 0 ∨ f = 1 ∨ f = 2 ∨ f = 3 := by omega
theorem S_shape {n : Int} {κ : GFieldShape → Prop} (h0 : 0 ≤ n) (h1 : n ≤ 3) (h : ∀ e : GFieldShape, e.xName = B (nm n) → e.xTop = top n → κ e) : idxW gl_impl_fieldShapes n κ := by
  rcases four h0 h1 with rfl | rfl | rfl | rfl
  · exact idxW_of 0 rfl (by decide) (h _ rfl rfl)
  · exact idxW_of 1 rfl (by decide) (h _ rfl rfl)
  · exact idxW_of 2 rfl (by decide) (h _ rfl rfl)
  · exact idxW_of 3 rfl (by decide) (h _ rfl rfl)
theorem S_spec_FieldTop {n : Int} {κ : Int → Prop} (h0 : 0 ≤ n) (h1 : n ≤ 3) (h : κ (top n)) : L_spec_FieldTop n κ := by
  unfold L_spec_FieldTop jnW
  rcases four h0 h1 with rfl | rfl | rfl | rfl <;> simpa [top] using h
theorem S_impl_FieldTop {n : Int} {κ : Int → Prop} (h : κ (if 0 ≤ n ∧ n ≤ 3 then top n else -1)) : L_impl_FieldTop n κ := by
  unfold L_impl_FieldTop jnW
  refine ifW_of (fun hc => ?_) (fun hc => ifW_of (fun hc2 => ?_) (fun hc2 => ?_))
  · simp at hc; rw [if_neg (by omega)] at h; simpa using h
  · simp at hc hc2; rw [if_neg (by omega)] at h; exact h
  · simp at hc hc2; rw [if_pos (by omega)] at h
    exact S_shape (by omega) (by omega) (fun e _ he => by rw [he]; exact h)
theorem S_spec_TestValid {t : GTest} {κ : Bool → Prop} (h : κ (decide (TV t))) : L_spec_TestValid t κ := by
  unfold L_spec_TestValid jnW
  refine S_l1In (ifW_of (fun hc => ?_) (fun hc => ?_))
  · simp at hc
    refine S_l1In (ifW_of (fun hc2 => ?_) (fun hc2 => ?_))
    · simp at hc2
      refine S_spec_FieldTop hc.1 hc.2 ?_
      rw [show decide (t.xHi ≤ top t.xField) = decide (TV t) from decide_eq_decide.2 ⟨fun hh => ⟨hc.1, hc.2, hc2.1, hc2.2, hh⟩, fun hh => hh.2.2.2.2⟩]
      exact h
    · simp at hc2
      rw [decide_eq_false (fun hh : TV t => by obtain ⟨a1, a2, a3, a4, _⟩ := hh; omega)] at h; exact h
  · simp at hc
    rw [decide_eq_false (fun hh : TV t => by obtain ⟨a1, a2, a3, a4, _⟩ := hh; omega)] at h; exact h
theorem S_impl_TestValid {t : GTest} {κ : Bool → Prop} (h : κ (decide (TV t))) : L_impl_TestValid t κ := by
  unfold L_impl_TestValid jnW
  have no : ¬ (0 ≤ t.xField ∧ t.xField < 4 ∧ 0 ≤ t.xLo ∧ t.xLo ≤ t.xHi) → κ false := fun hn => by
    rw [decide_eq_false (fun hh : TV t => by obtain ⟨a1, a2, a3, a4, _⟩ := hh; omega)] at h; exact h
  refine ifW_of (fun hc => ifW_of (fun hc2 => ifW_of (fun hc3 => ifW_of (fun hc4 => ?_) (fun hc4 => no (by simp at hc4; omega))) (fun hc3 => no (by simp at hc3; omega))) (fun hc2 => no (by simp at hc2; omega))) (fun hc => no (by simp at hc; omega))
  simp at hc hc2 hc3 hc4
  refine S_impl_FieldTop ?_
  rw [if_pos ⟨hc, by omega⟩]
  rw [show decide (t.xHi ≤ top t.xField) = decide (TV t) from decide_eq_decide.2 ⟨fun hh => ⟨hc, by omega, hc3, hc4, hh⟩, fun hh => hh.2.2.2.2⟩]
  exact h
end
section
open Go.Lib (decDigits)

/-- behind a test stands the end, or a comma -/
def Ends (r : List UInt8) : Prop := ∀ c m, r = c :: m → c = 44
theorem Ends.dg {r : List UInt8} (h : Ends r) : ∀ c m, r = c :: m → dg c = false := fun c m e => by rw [h c m e]; decide

end
section
open Go.Lib (decDigits)

/-! ### the laws -/
theorem eqTest_of {p q : GTest} {κ : Bool → Prop} (h : κ (decide (p = q))) : L_laws_eqTest p q κ := by
  unfold L_laws_eqTest
  by_cases e : p = q
  · subst e; simpa using h
  · rw [decide_eq_false e] at h
    refine ifW_of (fun _ => h) (fun h1 => ifW_of (fun _ => h) (fun h2 => ifW_of (fun _ => h) (fun h3 => ifW_of (fun _ => h) (fun h4 => ?_))))
    exfalso; apply e
    cases p; cases q; simp_all

end
section
open Go.Lib (decDigits)

/-- the word of an action -/
def aw (a : Int) : List UInt8 := if a = 1 then [97, 99, 99, 101, 112, 116] else if a = 2 then [100, 114, 111, 112] else if a = 3 then [99, 97, 108, 108] else if a = 4 then [114, 101, 116, 117, 114, 110] else [110, 111, 110, 101]
def TsV (ts : List GTest) : Prop := (∀ t, t ∈ ts → TV t) ∧ ts.length ≤ 6
instance (ts : List GTest) : Decidable (TsV ts) := by unfold TsV; infer_instance
def HV (a c : Int) : Prop := 1 ≤ a ∧ a ≤ 5 ∧ (a = 3 → 0 ≤ c ∧ c ≤ 4) ∧ (a ≠ 3 → c = 0)
instance (a c : Int) : Decidable (HV a c) := by unfold HV; infer_instance
def RV (r : GRule) : Prop := TsV r.xTests ∧ HV r.xAction r.xChain
instance (r : GRule) : Decidable (RV r) := by unfold RV; infer_instance
def hd (a c : Int) : List UInt8 := aw a ++ (if a = 3 then 32 :: decDigits c.toNat else [])
theorem S_spec_TestsValid {ts : List GTest} {κ : Bool → Prop} (hl : ts.length ≤ 4294967296) (h : κ (decide (TsV ts))) : L_spec_TestsValid ts κ := by
  unfold L_spec_TestsValid
  refine count_loop ts.length (fun s => s) (fun k s => s = (k : Int) ∧ k ≤ ts.length ∧ ∀ t, t ∈ ts.take k → TV t) (fun k s h => h.1) (fun k s h => h.2.1) ?_ ⟨rfl, Nat.zero_le _, by simp⟩
  rintro k _ next ⟨rfl, hk, he⟩ hn
  refine ifW_of (fun hc => ?_) (fun hc => ?_)
  · have hlt : k < ts.length := by simpa using hc
    refine idxW_of k rfl hlt (S_spec_TestValid (ifW_of (fun hc2 => ?_) (fun hc2 => ?_)))
    · simp at hc2
      rw [decide_eq_false (fun hh : TsV ts => hc2 (hh.1 _ (List.getElem_mem hlt)))] at h; exact h
    · simp at hc2
      refine addW_of (by omega) (by omega) (hn hlt _ ⟨by omega, by omega, fun t ht => ?_⟩)
      rw [List.take_succ_eq_append_getElem hlt] at ht
      rcases List.mem_append.1 ht with ht | ht
      · exact he t ht
      · rw [List.mem_singleton] at ht; subst ht; exact hc2
  · have hge : ts.length ≤ k := by simpa using hc
    rw [List.take_of_length_le hge] at he
    rw [show decide ((ts.length : Int) ≤ 6) = decide (TsV ts) from decide_eq_decide.2 ⟨fun hh => ⟨he, by omega⟩, fun hh => by have := hh.2; omega⟩]
    exact h
theorem S_impl_TestsValid {ts : List GTest} {κ : Bool → Prop} (hl : ts.length ≤ 4294967296) (h : κ (decide (TsV ts))) : L_impl_TestsValid ts κ := by
  unfold L_impl_TestsValid
  refine ifW_of (fun hc => ?_) (fun hc => ?_)
  · rw [decide_eq_false (fun hh : TsV ts => by have := hh.2; simp at hc; omega)] at h; exact h
  simp at hc
  refine count_loop ts.length (fun s => s) (fun k s => s = (k : Int) ∧ k ≤ ts.length ∧ ∀ t, t ∈ ts.take k → TV t) (fun k s h => h.1) (fun k s h => h.2.1) ?_ ⟨rfl, Nat.zero_le _, by simp⟩
  rintro k _ next ⟨rfl, hk, he⟩ hn
  refine ifW_of (fun hc => ?_) (fun hc => ?_)
  · have hlt : k < ts.length := by simpa using hc
    refine idxW_of k rfl hlt (S_impl_TestValid (ifW_of (fun hc2 => ?_) (fun hc2 => ?_)))
    · simp at hc2
      rw [decide_eq_false (fun hh : TsV ts => hc2 (hh.1 _ (List.getElem_mem hlt)))] at h; exact h
    · simp at hc2
      refine addW_of (by omega) (by omega) (hn hlt _ ⟨by omega, by omega, fun t ht => ?_⟩)
      rw [List.take_succ_eq_append_getElem hlt] at ht
      rcases List.mem_append.1 ht with ht | ht
      · exact he t ht
      · rw [List.mem_singleton] at ht; subst ht; exact hc2
  · have hge : ts.length ≤ k := by simpa using hc
    rw [List.take_of_length_le hge] at he
    rw [show decide (TsV ts) = true from decide_eq_true ⟨he, by omega⟩] at h; exact h

theorem S_spec_RuleValid {r : GRule} {κ : Bool → Prop} (hl : r.xTests.length ≤ 4294967296) (h : κ (decide (RV r))) : L_spec_RuleValid r κ := by
  have no : ¬ RV r → κ false := fun hn => by rw [decide_eq_false hn] at h; exact h
  unfold L_spec_RuleValid jnW
  refine S_spec_TestsValid hl (ifW_of (fun h1 => ?_) (fun h1 => no (fun hh => by simp [hh.1] at h1)))
  simp at h1
  refine S_l1In (ifW_of (fun h2 => ?_) (fun h2 => no (fun hh => by simp [hh.2.1, hh.2.2.1] at h2)))
  simp at h2
  refine ifW_of (fun h3 => ?_) (fun h3 => ?_)
  · simp at h3
    refine S_l1In (ifW_of (fun h4 => ?_) (fun h4 => ?_))
    · simp at h4
      rw [show decide (RV r) = true from decide_eq_true ⟨h1, h2.1, h2.2, fun _ => h4, fun e => absurd h3 e⟩] at h; exact h
    · simp at h4
      simp only [h3, decide_true, Bool.not_true, ifW_false]
      exact no (fun hh => by have := hh.2.2.2.1 h3; omega)
  · simp at h3
    simp only [h3, decide_false, Bool.not_false, ifW_true]
    rw [show decide (r.xChain = 0) = decide (RV r) from decide_eq_decide.2 ⟨fun hh => ⟨h1, h2.1, h2.2, fun e => absurd e h3, fun _ => hh⟩, fun hh => hh.2.2.2.2 h3⟩]
    exact h
theorem S_impl_RuleValid {r : GRule} {κ : Bool → Prop} (hl : r.xTests.length ≤ 4294967296) (h : κ (decide (RV r))) : L_impl_RuleValid r κ := by
  have no : ¬ RV r → κ false := fun hn => by rw [decide_eq_false hn] at h; exact h
  unfold L_impl_RuleValid jnW
  refine S_impl_TestsValid hl (ifW_of (fun h1 => no (fun hh => by simp [hh.1] at h1)) (fun h1 => ?_))
  simp at h1
  refine ifW_of (fun h3 => ?_) (fun h3 => ?_)
  · simp at h3
    refine ifW_of (fun h4 => ?_) (fun h4 => no (fun hh => by have := hh.2.2.2.1 h3; simp at h4; omega))
    simp at h4
    rw [show decide (r.xChain < 5) = decide (RV r) from decide_eq_decide.2 ⟨fun hh => ⟨h1, by omega, by omega, fun _ => ⟨h4, by omega⟩, fun e => absurd h3 e⟩, fun hh => by have := hh.2.2.2.1 h3; omega⟩]
    exact h
  · simp at h3
    have yes : 1 ≤ r.xAction → r.xAction ≤ 5 → κ (decide (r.xChain = 0)) := fun a1 a2 => by
      rw [show decide (r.xChain = 0) = decide (RV r) from decide_eq_decide.2 ⟨fun hh => ⟨h1, a1, a2, fun e => absurd e h3, fun _ => hh⟩, fun hh => hh.2.2.2.2 h3⟩]
      exact h
    by_cases e1 : r.xAction = 1
    · simp only [e1, decide_true, ifW_true]; exact yes (by omega) (by omega)
    by_cases e2 : r.xAction = 2
    · simp only [e2, decide_true, ifW_true]; exact ifW_of (fun e => by simp at e) (fun _ => yes (by omega) (by omega))
    by_cases e4 : r.xAction = 4
    · simp only [e4, decide_true, ifW_true]
      exact ifW_of (fun e => by simp at e) (fun _ => ifW_of (fun e => by simp at e) (fun _ => yes (by omega) (by omega)))
    by_cases e5 : r.xAction = 5
    · simp only [e5, decide_true, ifW_true]
      exact ifW_of (fun e => by simp at e) (fun _ => ifW_of (fun e => by simp at e) (fun _ => ifW_of (fun e => by simp at e) (fun _ => yes (by omega) (by omega))))
    simp only [e1, e2, e4, e5, decide_false, ifW_false]
    exact no (fun hh => by have := hh.2.1; have := hh.2.2.1; omega)

end
section
open Go.Lib (decDigits)

theorem eqTestS_self {a : List GTest} {κ : Bool → Prop} (hl : a.length ≤ 4294967296) (h : κ true) : L_laws_eqTestS a a κ := by
  unfold L_laws_eqTestS
  refine ifW_of (fun hc => by simp at hc) (fun _ => ?_)
  refine eq_loop a a rfl hl (fun x y A => L_laws_eqTest x y (fun r11 => ifW (!r11) (κ false) A)) (fun x y A h1 h2 => eqTest_of ?_) (by simpa using h) _ (fun nx t hh => hh)
  by_cases e : x = y
  · rw [decide_eq_true e]; simp only [Bool.not_true, ifW_false]; exact h1 e
  · rw [decide_eq_false e]; simp only [Bool.not_false, ifW_true]; exact h2 e
theorem eqRule_self {r : GRule} {κ : Bool → Prop} (hl : r.xTests.length ≤ 4294967296) (h : κ true) : L_laws_eqRule r r κ := by
  unfold L_laws_eqRule
  refine eqTestS_self hl ?_
  simpa using h
theorem toTestS_of {a : List GTest} {κ : List GTest → Prop} (hl : a.length ≤ 4294967296) (h : κ a) : L_laws_toTestS a κ := by
  unfold L_laws_toTestS L_laws_toTest
  refine makeW_of a.length rfl (by omega) (by omega) (copy_loop a id hl (fun x ψ => ψ x) (fun x ψ _ hh => hh) (by simpa using h) (by simp) _ (fun nx xs t hh => hh))
theorem toRule_of {r : GRule} {κ : GRule → Prop} (hl : r.xTests.length ≤ 4294967296) (h : κ r) : L_laws_toRule r κ := by
  unfold L_laws_toRule
  exact toTestS_of hl h
end
section


/-- chain i calls chain j -/
def Ca (cs : List (List GRule)) (i j : Nat) : Prop := ∃ c, cs[i]? = some c ∧ ∃ r, r ∈ c ∧ r.xAction = 3 ∧ r.xChain = (j : Int)
/-- no call leads back, from i on -/
def Sf (cs : List (List GRule)) (i : Nat) : Prop := Acc (fun j i => Ca cs i j) i
theorem sf_of {cs : List (List GRule)} {i : Nat} (h : ∀ j, Ca cs i j → Sf cs j) : Sf cs i := Acc.intro _ h
/-- a way by calls, at least one -/
inductive Wy (cs : List (List GRule)) : Nat → Nat → Prop
  | one {i j : Nat} : Ca cs i j → Wy cs i j
  | more {i j k : Nat} : Wy cs i j → Ca cs j k → Wy cs i k
theorem wy_first {cs : List (List GRule)} {i k : Nat} (w : Wy cs i k) : ∃ j, Ca cs i j ∧ (j = k ∨ Wy cs j k) := by
  induction w with
  | one h => exact ⟨_, h, .inl rfl⟩
  | more _ h ih =>
    obtain ⟨j, h1, h2⟩ := ih
    rcases h2 with rfl | h2
    · exact ⟨_, h1, .inr (.one h)⟩
    · exact ⟨_, h1, .inr (.more h2 h)⟩
theorem wy_loop {cs : List (List GRule)} {i : Nat} (hs : Sf cs i) : ¬ Wy cs i i := by
  induction hs with
  | intro x _ ih =>
    intro w
    obtain ⟨j, h1, h2⟩ := wy_first w
    rcases h2 with rfl | h2
    · exact ih _ h1 w
    · exact ih j h1 (.more h2 h1)

/-- every rule of every chain is valid, and calls a chain that is there -/
def Tg (cs : List (List GRule)) : Prop := cs.length ≤ 5 ∧ ∀ c, c ∈ cs → (c.length ≤ 8 ∧ ∀ r, r ∈ c → RV r ∧ r.xChain < cs.length)

/-- the same, whatever is called -/
def Tw (cs : List (List GRule)) : Prop := cs.length ≤ 5 ∧ ∀ c, c ∈ cs → (c.length ≤ 8 ∧ ∀ r, r ∈ c → RV r)
theorem Tg.w {cs : List (List GRule)} (h : Tg cs) : Tw cs := ⟨h.1, fun c hc => ⟨(h.2 c hc).1, fun r hr => ((h.2 c hc).2 r hr).1⟩⟩
theorem sf_out {cs : List (List GRule)} {j : Nat} (h : cs.length ≤ j) : Sf cs j := sf_of (fun i ⟨c, h1, _⟩ => by have := (List.getElem?_eq_some_iff.1 h1).1; omega)
/-- the chains that a chain calls -/
theorem S_callsIn {rules : List GRule} {κ : List Int → Prop} (hl : rules.length ≤ 8) (hv : ∀ r, r ∈ rules → RV r) (h : ∀ ys : List Int, ys.length ≤ 5 → (∀ x, x ∈ ys ↔ ∃ r, r ∈ rules ∧ r.xAction = 3 ∧ r.xChain = x) → κ ys) : L_impl_callsIn rules κ := by
  unfold L_impl_callsIn
  refine count_loop rules.length (fun s => s.2) (fun k s => s.2 = (k : Int) ∧ k ≤ rules.length ∧ s.1.length = 5 ∧ ∀ i : Nat, i < 5 → (s.1[i]? = some true ↔ ∃ r, r ∈ rules.take k ∧ r.xAction = 3 ∧ r.xChain = (i : Int))) (fun k s h => h.1) (fun k s h => h.2.1) ?_ ⟨rfl, Nat.zero_le _, rfl, fun i hi => ?_⟩
  · rintro k ⟨xs, _⟩ next ⟨rfl, hk, hx, he⟩ hn
    simp only at hx he
    refine ifW_of (fun hc => ?_) (fun hc => ?_)
    · have hlt : k < rules.length := by simpa using hc
      have hrv := hv _ (List.getElem_mem hlt)
      have htk : ∀ r, r ∈ rules.take (k + 1) ↔ r ∈ rules.take k ∨ r = rules[k] := fun r => by
        rw [List.take_succ_eq_append_getElem hlt, List.mem_append, List.mem_singleton]
      unfold jnW
      refine idxW_of k rfl hlt (ifW_of (fun h3 => ?_) (fun h3 => ?_))
      · simp at h3
        have hch := hrv.2.2.2.1 h3
        obtain ⟨m, hm⟩ := Int.eq_ofNat_of_zero_le hch.1
        refine idxW_any hch.1 (by rw [hx]; omega) (fun _ _ => addW_of (by omega) (by omega) (hn hlt _ ⟨by simp, by omega, by simpa using hx, fun i hi => ?_⟩))
        simp only [htk]
        rw [hm, Int.toNat_natCast]
        by_cases e : i = m
        · subst e
          simp only [List.getElem?_set_self (show i < xs.length by omega), true_iff]
          exact ⟨_, .inr rfl, h3, hm⟩
        · rw [List.getElem?_set_ne (by omega), he i hi]
          constructor
          · rintro ⟨r, h1, h2⟩; exact ⟨r, .inl h1, h2⟩
          · rintro ⟨r, h1 | rfl, h2, h4⟩
            · exact ⟨r, h1, h2, h4⟩
            · omega
      · simp at h3
        refine addW_of (by omega) (by omega) (hn hlt _ ⟨by simp, by omega, hx, fun i hi => ?_⟩)
        simp only [htk]
        rw [he i hi]
        constructor
        · rintro ⟨r, h1, h2⟩; exact ⟨r, .inl h1, h2⟩
        · rintro ⟨r, h1 | rfl, h2, h4⟩
          · exact ⟨r, h1, h2, h4⟩
          · exact absurd h2 h3
    · have hge : rules.length ≤ k := by simpa using hc
      rw [List.take_of_length_le hge] at he
      obtain ⟨e0, e1, e2, e3, e4, rfl⟩ : ∃ a b c d e, xs = [a, b, c, d, e] := by
        match xs, hx with
        | [a, b, c, d, e], _ => exact ⟨a, b, c, d, e, rfl⟩
      refine ⟨e0, e1, e2, e3, e4, rfl, ?_⟩
      refine count_loop 5 (fun s => s.2) (fun j s => s.2 = (j : Int) ∧ j ≤ 5 ∧ s.1.length ≤ j ∧ ∀ x, x ∈ s.1 ↔ ∃ i : Nat, i < j ∧ x = (i : Int) ∧ [e0, e1, e2, e3, e4][i]? = some true) (fun j s h => h.1) (fun j s h => h.2.1) ?_ ⟨rfl, Nat.zero_le _, by simp, by simp⟩
      rintro j ⟨ys, _⟩ next2 ⟨rfl, hj, hyl, hy⟩ hn2
      simp only at hyl hy
      refine ifW_of (fun hc2 => ?_) (fun hc2 => ?_)
      · have hj5 : j < 5 := by simp at hc2; omega
        have hjl : j < [e0, e1, e2, e3, e4].length := by simpa using hj5
        unfold jnW
        refine idxW_of j rfl hjl (ifW_of (fun h3 => ?_) (fun h3 => ?_))
        · refine appW_of (by simp; omega) (addW_of (by omega) (by omega) (hn2 hj5 _ ⟨by simp, by omega, by simp; omega, fun x => ?_⟩))
          simp only [List.mem_append, List.mem_singleton, hy]
          constructor
          · rintro (⟨i, h1, h2, h4⟩ | rfl)
            · exact ⟨i, by omega, h2, h4⟩
            · exact ⟨j, by omega, rfl, by rw [List.getElem?_eq_getElem hjl, h3]⟩
          · rintro ⟨i, h1, h2, h4⟩
            by_cases e : i = j
            · subst e; exact .inr h2
            · exact .inl ⟨i, by omega, h2, h4⟩
        · refine addW_of (by omega) (by omega) (hn2 hj5 _ ⟨by simp, by omega, by simp only; omega, fun x => ?_⟩)
          simp only [hy]
          constructor
          · rintro ⟨i, h1, h2, h4⟩; exact ⟨i, by omega, h2, h4⟩
          · rintro ⟨i, h1, h2, h4⟩
            by_cases e : i = j
            · subst e; rw [List.getElem?_eq_getElem hjl, h3] at h4; simp at h4
            · exact ⟨i, by omega, h2, h4⟩
      · have hj5 : j = 5 := by simp at hc2; omega
        subst hj5
        refine h ys hyl (fun x => ?_)
        rw [hy]
        constructor
        · rintro ⟨i, h1, rfl, h4⟩; exact (he i h1).1 h4
        · rintro ⟨r, h1, h2, rfl⟩
          have hch := (hv r h1).2.2.2.1 h2
          obtain ⟨m, hm⟩ := Int.eq_ofNat_of_zero_le hch.1
          exact ⟨m, by omega, hm, (he m (by omega)).2 ⟨r, h1, h2, hm⟩⟩
  · constructor
    · intro hh
      have : i = 0 ∨ i = 1 ∨ i = 2 ∨ i = 3 ∨ i = 4 := by omega
      rcases this with rfl | rfl | rfl | rfl | rfl <;> simp at hh
    · rintro ⟨r, h1, _⟩; simp at h1

/-- the colours -/
def Co (cols : List Int) : Prop := cols.length = 5 ∧ ∀ x, x ∈ cols → x = 0 ∨ x = 1 ∨ x = 2
theorem co_set {cols : List Int} {i : Nat} {v : Int} (h : Co cols) (hv : v = 0 ∨ v = 1 ∨ v = 2) : Co (cols.set i v) := ⟨by rw [List.length_set]; exact h.1, fun x hx => by
  rcases List.mem_or_eq_of_mem_set hx with hx | rfl
  · exact h.2 x hx
  · exact hv⟩
/-- what a visit of c does to the colours -/
structure Vi (cs : List (List GRule)) (c : Nat) (cols : List Int) (ok : Bool) (cols' : List Int) : Prop where
  co : Co cols'
  black : ∀ i : Nat, cols[i]? = some 2 → cols'[i]? = some 2
  grey : ∀ i : Nat, cols'[i]? = some 1 ↔ cols[i]? = some 1
  white : cols'.count 0 ≤ cols.count 0
  good : ok = true → (∀ i : Nat, cols[i]? = some 2 → Sf cs i) → (∀ i : Nat, cols'[i]? = some 2 → Sf cs i) ∧ (c < cs.length → cols'[c]? = some 2)
  bad : ok = false → (∀ g : Nat, cols[g]? = some 1 → Wy cs g c) → ∃ i, i < cs.length ∧ ¬ Sf cs i

theorem count_le5 {cols : List Int} (h : cols.length = 5) : cols.count 0 ≤ 5 := by have := List.count_le_length (a := (0 : Int)) (l := cols); omega
theorem S_visitR {cs : List (List GRule)} (ht : Tw cs) : ∀ (n c : Nat) (cols : List Int) (κ : Bool × List Int → Prop), Co cols → cols.count 0 < n →
    (∀ ok cols', Vi cs c cols ok cols' → κ (ok, cols')) → R_impl_visitCalls n cs (c : Int) cols κ
  | 0, c, cols, κ, hco, hw, h => by omega
  | n + 1, c, cols, κ, hco, hw, h => by
    have hn5 := ht.1
    show B_impl_visitCalls (R_impl_visitCalls n) cs (c : Int) cols κ
    unfold B_impl_visitCalls
    refine ifW_of (fun hx => h _ _ ⟨hco, fun i hi => hi, fun i => Iff.rfl, Nat.le_refl _, fun _ hb => ⟨hb, fun hlt => by simp at hx; omega⟩, fun e => by cases e⟩) (fun hx => ?_)
    have hc : c < cs.length := by simp at hx; omega
    have hcl : c < cols.length := by rw [hco.1]; omega
    refine idxW_of c rfl hcl (ifW_of (fun h1 => ?_) (fun h1 => ifW_of (fun h2 => ?_) (fun h2 => ?_)))
    · have e1 : cols[c]? = some 1 := by rw [List.getElem?_eq_getElem hcl]; simpa using h1
      exact h _ _ ⟨hco, fun i hi => hi, fun i => Iff.rfl, Nat.le_refl _, fun e => (by cases e), fun _ hg => ⟨c, hc, fun hs => wy_loop hs (hg c e1)⟩⟩
    · have e2 : cols[c]? = some 2 := by rw [List.getElem?_eq_getElem hcl]; simpa using h2
      exact h _ _ ⟨hco, fun i hi => hi, fun i => Iff.rfl, Nat.le_refl _, fun _ hb => ⟨hb, fun _ => e2⟩, fun e => by cases e⟩
    · have e0 : cols[c] = 0 := by
        have := hco.2 _ (List.getElem_mem hcl)
        simp at h1 h2; omega
      have e0' : cols[c]? = some 0 := by rw [List.getElem?_eq_getElem hcl, e0]
      have hcs : cs[c]? = some cs[c] := List.getElem?_eq_getElem hc
      have hch := ht.2 _ (List.getElem_mem hc)
      refine idxW_of c rfl hcl (idxW_of c rfl hc (S_callsIn hch.1 hch.2 (fun ys hyl hys => ?_)))
      have hca : ∀ j : Nat, Ca cs c j ↔ (j : Int) ∈ ys := fun j => by
        rw [hys]
        constructor
        · rintro ⟨c', h1, r, h2, h3⟩
          rw [hcs] at h1; cases h1
          exact ⟨r, h2, h3⟩
        · rintro ⟨r, h2, h3⟩; exact ⟨_, hcs, r, h2, h3⟩
      have hcount : (cols.set c 1).count 0 + 1 = cols.count 0 := by
        rw [List.count_set hcl]
        have : 0 < cols.count 0 := List.count_pos_iff.2 (by rw [← e0]; exact List.getElem_mem hcl)
        simp [e0]; omega
      have set1 : ∀ i : Nat, (cols.set c 1)[i]? = if i = c then some 1 else cols[i]? := fun i => by
        by_cases e : i = c
        · subst e; simp [hcl]
        · rw [List.getElem?_set_ne (by omega), if_neg e]
      refine count_loop ys.length (fun s => s.2.2) (fun k s => s.2.2 = (k : Int) ∧ k ≤ ys.length ∧ Co s.1 ∧ (∀ i : Nat, cols[i]? = some 2 → s.1[i]? = some 2) ∧ (∀ i : Nat, s.1[i]? = some 1 ↔ (cols.set c 1)[i]? = some 1) ∧ s.1.count 0 ≤ (cols.set c 1).count 0 ∧
        (s.2.1 = true → (∀ i : Nat, cols[i]? = some 2 → Sf cs i) → (∀ i : Nat, s.1[i]? = some 2 → Sf cs i) ∧ ∀ j : Nat, (j : Int) ∈ ys.take k → j < cs.length → s.1[j]? = some 2) ∧
        (s.2.1 = false → (∀ g : Nat, cols[g]? = some 1 → Wy cs g c) → ∃ i, i < cs.length ∧ ¬ Sf cs i)) (fun k s h => h.1) (fun k s h => h.2.1) ?_
        ⟨rfl, Nat.zero_le _, co_set hco (by simp), fun i hi => ?_, fun i => Iff.rfl, Nat.le_refl _, fun _ hb => ⟨fun i hi => ?_, by simp⟩, fun e => by cases e⟩
      · rintro k ⟨X, ok, _⟩ next ⟨rfl, hk, xco, xb, xg, xw, xgood, xbad⟩ hnx
        simp only at xco xb xg xw xgood xbad
        refine ifW_of (fun hlt => ?_) (fun hlt => ?_)
        · have hlt : k < ys.length := by simpa using hlt
          obtain ⟨r, hr, hr3, hrc⟩ := (hys ys[k]).1 (List.getElem_mem hlt)
          have hrv := hch.2 r hr
          have hcc := hrv.2.2.2.1 hr3
          obtain ⟨j, hj⟩ := Int.eq_ofNat_of_zero_le hcc.1
          have ej : ys[k] = (j : Int) := by omega
          have hcj : Ca cs c j := ⟨_, hcs, r, hr, hr3, hj⟩
          unfold jnW
          refine idxW_of k rfl hlt ?_
          rw [ej]
          refine S_visitR ht n j X _ xco (by omega) (fun ok' X' v => ?_)
          have fin : ∀ o : Bool, (o = true → ok = true ∧ ok' = true) → (o = false → ok = false ∨ ok' = false) → addW (k : Int) 1 (fun t93 => next (X', o, t93)) := by
            intro o ho1 ho2
            refine addW_of (by omega) (by omega) (hnx hlt _ ⟨by simp, by omega, v.co, fun i hi => v.black i (xb i hi), fun i => (v.grey i).trans (xg i), Nat.le_trans v.white xw, fun e hb => ?_, fun e hg => ?_⟩)
            · obtain ⟨g1, g2⟩ := ho1 e
              obtain ⟨q1, q2⟩ := xgood g1 hb
              obtain ⟨q3, q4⟩ := v.good g2 q1
              refine ⟨q3, fun i hi hil => ?_⟩
              rw [List.take_succ_eq_append_getElem hlt, List.mem_append, List.mem_singleton] at hi
              rcases hi with hi | hi
              · exact v.black i (q2 i hi hil)
              · have : i = j := by omega
                subst this; exact q4 hil
            · rcases ho2 e with e1 | e1
              · exact xbad e1 hg
              · refine v.bad e1 (fun g hgx => ?_)
                rw [xg, set1] at hgx
                by_cases e2 : g = c
                · subst e2; exact .one hcj
                · rw [if_neg e2] at hgx; exact .more (hg g hgx) hcj
          refine ifW_of (fun e => fin false (fun e => by cases e) (fun _ => .inr (by simpa using e))) (fun e => fin ok (fun e1 => ⟨e1, by simpa using e⟩) (fun e1 => .inl e1))
        · have hge : ys.length ≤ k := by simpa using hlt
          rw [List.take_of_length_le hge] at xgood
          have hxl : c < X.length := by rw [xco.1]; omega
          have set2 : ∀ i : Nat, (X.set c 2)[i]? = if i = c then some 2 else X[i]? := fun i => by
            by_cases e : i = c
            · subst e; simp [hxl]
            · rw [List.getElem?_set_ne (by omega), if_neg e]
          have xc1 : X[c]? = some 1 := by rw [xg, set1, if_pos rfl]
          refine idxW_of c rfl hxl ?_
          rw [Int.toNat_natCast]
          refine h _ _ ⟨co_set xco (by simp), fun i hi => ?_, fun i => ?_, ?_, fun e hb => ?_, fun e hg => xbad e hg⟩
          · rw [set2]; split
            · rfl
            · exact xb i hi
          · rw [set2]
            by_cases e : i = c
            · subst e; rw [if_pos rfl, e0']; simp
            · rw [if_neg e, xg, set1, if_neg e]
          · rw [List.count_set hxl]
            have : X[c] = 1 := by rw [List.getElem?_eq_getElem hxl] at xc1; exact Option.some.inj xc1
            simp [this]; omega
          · obtain ⟨q1, q2⟩ := xgood e hb
            have sc : Sf cs c := sf_of (fun j hj => by
              by_cases hjl : j < cs.length
              · exact q1 j (q2 j ((hca j).1 hj) hjl)
              · exact sf_out (by omega))
            refine ⟨fun i hi => ?_, fun _ => by rw [set2, if_pos rfl]⟩
            rw [set2] at hi
            by_cases e : i = c
            · subst e; exact sc
            · rw [if_neg e] at hi; exact q1 i hi
      · show (cols.set c 1)[i]? = some 2
        rw [set1]
        by_cases e : i = c
        · subst e; rw [e0'] at hi; simp at hi
        · rw [if_neg e]; exact hi
      · change (cols.set c 1)[i]? = some 2 at hi
        rw [set1] at hi
        by_cases e : i = c
        · subst e; simp at hi
        · rw [if_neg e] at hi; exact hb i hi
theorem S_acyclic {cs : List (List GRule)} {κ : Bool → Prop} (ht : Tw cs) (h1 : (∀ i, i < cs.length → Sf cs i) → κ true) (h2 : (¬ ∀ i, i < cs.length → Sf cs i) → κ false) : L_impl_acyclic cs κ := by
  unfold L_impl_acyclic
  have hn5 := ht.1
  refine count_loop cs.length (fun s => s.2) (fun k s => s.2 = (k : Int) ∧ k ≤ cs.length ∧ Co s.1 ∧ (∀ i : Nat, s.1[i]? ≠ some 1) ∧ (∀ i : Nat, s.1[i]? = some 2 → Sf cs i) ∧ (∀ i : Nat, i < k → s.1[i]? = some 2)) (fun k s h => h.1) (fun k s h => h.2.1) ?_ ⟨rfl, Nat.zero_le _, ⟨rfl, by simp⟩, fun i => ?_, fun i hi => ?_, fun i hi => by omega⟩
  · rintro k ⟨X, _⟩ next ⟨rfl, hk, xco, xg, xs, xk⟩ hn
    simp only at xco xg xs xk
    refine ifW_of (fun hc => ?_) (fun hc => ?_)
    · have hlt : k < cs.length := by simpa using hc
      refine ⟨6, S_visitR ht 6 k X _ xco (by have := count_le5 xco.1; omega) (fun ok X' v => ?_)⟩
      refine ifW_of (fun e => h2 (fun hall => ?_)) (fun e => addW_of (by omega) (by omega) (hn hlt _ ⟨by simp, by omega, v.co, fun i hi => xg i ((v.grey i).1 hi), (v.good (by simpa using e) xs).1, fun i hi => ?_⟩))
      · obtain ⟨i, hi, hns⟩ := v.bad (by simpa using e) (fun g hg => absurd hg (xg g))
        exact hns (hall i hi)
      · by_cases e2 : i = k
        · subst e2; exact (v.good (by simpa using e) xs).2 hlt
        · exact v.black i (xk i (by omega))
    · have hge : cs.length ≤ k := by simpa using hc
      exact h1 (fun i hi => xs i (xk i (by omega)))
  · have : i = 0 ∨ i = 1 ∨ i = 2 ∨ i = 3 ∨ i = 4 ∨ 5 ≤ i := by omega
    rcases this with rfl | rfl | rfl | rfl | rfl | h <;> simp
    rw [List.getElem?_eq_none (by simpa using h)]; simp
  · have : i = 0 ∨ i = 1 ∨ i = 2 ∨ i = 3 ∨ i = 4 ∨ 5 ≤ i := by omega
    rcases this with rfl | rfl | rfl | rfl | rfl | h
    · simp at hi
    · simp at hi
    · simp at hi
    · simp at hi
    · simp at hi
    · rw [List.getElem?_eq_none (by simpa using h)] at hi; cases hi


end
section


/-- all that i calls is done -/
def Rdy (cs : List (List GRule)) (D : List Bool) (i : Nat) : Prop := ∀ j, Ca cs i j → D[j]? = some true
theorem ca_lt {cs : List (List GRule)} (ht : Tg cs) {i j : Nat} (h : Ca cs i j) : i < cs.length ∧ j < cs.length := by
  obtain ⟨c, h1, r, h2, h3, h4⟩ := h
  have hm := List.mem_of_getElem? h1
  have := (ht.2 c hm).2 r h2
  exact ⟨(List.getElem?_eq_some_iff.1 h1).1, by have := this.2; omega⟩
theorem stuck_sf {cs : List (List GRule)} (ht : Tg cs) {D : List Bool} (hst : ∀ i, i < cs.length → Rdy cs D i → D[i]? = some true) {i : Nat} (hs : Sf cs i) : i < cs.length → D[i]? = some true := by
  induction hs with
  | intro x _ ih => exact fun hx => hst x hx (fun j hj => ih j hj (ca_lt ht hj).2)
theorem count_all {D : List Bool} (h : ∀ i, i < D.length → D[i]? = some true) : D.count true = D.length := by
  rw [List.count_eq_length]
  intro b hb
  obtain ⟨i, hi⟩ := List.getElem?_of_mem hb
  have := h i (List.getElem?_eq_some_iff.1 hi).1
  rw [hi] at this; exact (Option.some.inj this).symm
theorem all_count {D : List Bool} (h : D.count true = D.length) {i : Nat} (hi : i < D.length) : D[i]? = some true := by
  rw [List.getElem?_eq_getElem hi]
  exact congrArg some (List.count_eq_length.1 h _ (List.getElem_mem hi)).symm

theorem S_l8Order {s : GRuleset} {κ : List Int → Prop} (ht : Tg s.xChains) (h1 : (∀ i, i < s.xChains.length → Sf s.xChains i) → ∀ ys : List Int, ys.length = s.xChains.length → κ ys) (h2 : (¬ ∀ i, i < s.xChains.length → Sf s.xChains i) → ∀ ys : List Int, ys.length ≠ s.xChains.length → κ ys) : L_spec_l8Order s κ := by
  have hn5 := ht.1
  generalize hcs : s.xChains = cs at *
  unfold L_spec_l8Order
  rw [hcs]
  refine makeW_of cs.length rfl (by omega) (by omega) ?_
  refine count_loop cs.length (fun s => s.2.2) (fun k s => s.2.2 = (k : Int) ∧ k ≤ cs.length ∧ s.1.length = cs.length ∧ s.2.1.length = s.1.count true ∧ (∀ i : Nat, s.1[i]? = some true → Sf cs i) ∧ (k ≤ s.1.count true ∨ ∀ i, i < cs.length → Rdy cs s.1 i → s.1[i]? = some true)) (fun k s h => h.1) (fun k s h => h.2.1) ?_
    ⟨rfl, Nat.zero_le _, by simp, by simp [List.count_replicate], fun i hi => ?_, .inl (Nat.zero_le _)⟩
  · rintro k ⟨D0, ys0, _⟩ next ⟨rfl, hk, hD0, hy0, hs0, hst0⟩ hnx
    simp only at hD0 hy0 hs0 hst0
    refine ifW_of (fun hc => ?_) (fun hc => ?_)
    · have hltk : k < cs.length := by simpa using hc
      refine count_loop cs.length (fun s => s.2.2) (fun m s => s.2.2 = (m : Int) ∧ m ≤ cs.length ∧ s.1.length = cs.length ∧ s.2.1.length = s.1.count true ∧ (∀ i : Nat, s.1[i]? = some true → Sf cs i) ∧ (∀ i : Nat, D0[i]? = some true → s.1[i]? = some true) ∧ (s.1 = D0 ∨ D0.count true < s.1.count true) ∧ (∀ i, i < m → Rdy cs D0 i → s.1[i]? = some true)) (fun k s h => h.1) (fun k s h => h.2.1) ?_
        ⟨rfl, Nat.zero_le _, hD0, hy0, hs0, fun i hi => hi, .inl rfl, fun i hi => by omega⟩
      rintro m ⟨D, ys, _⟩ next2 ⟨rfl, hm, hD, hy, hs, hmono, hcnt, hrd⟩ hn2
      simp only at hD hy hs hmono hcnt hrd
      have hDc : D.count true ≤ 5 := by have := List.count_le_length (a := true) (l := D); omega
      refine ifW_of (fun hc2 => ?_) (fun hc2 => ?_)
      · have hlt : m < cs.length := by simpa using hc2
        have hmD : m < D.length := by omega
        have hch := ht.2 _ (List.getElem_mem hlt)
        have hcm : cs[m]? = some cs[m] := List.getElem?_eq_getElem hlt
        unfold jnW
        refine idxW_of m rfl hmD ?_
        refine count_loop cs[m].length (fun s => s.2) (fun j s => s.2 = (j : Int) ∧ j ≤ cs[m].length ∧ (s.1 = true ↔ (D[m] = false ∧ ∀ r, r ∈ cs[m].take j → r.xAction = 3 → D[r.xChain.toNat]? = some true))) (fun k s h => h.1) (fun k s h => h.2.1) ?_ ⟨rfl, Nat.zero_le _, by simp⟩
        rintro j ⟨fl, _⟩ next3 ⟨rfl, hj, hfl⟩ hn3
        simp only at hfl
        refine idxW_of m rfl hlt (ifW_of (fun hc3 => ?_) (fun hc3 => ?_))
        · have hltj : j < cs[m].length := by simpa using hc3
          have htk : ∀ r, r ∈ cs[m].take (j + 1) ↔ r ∈ cs[m].take j ∨ r = cs[m][j] := fun r => by
            rw [List.take_succ_eq_append_getElem hltj, List.mem_append, List.mem_singleton]
          have hrv := hch.2 _ (List.getElem_mem hltj)
          refine idxW_of m rfl hlt (idxW_of j rfl hltj (ifW_of (fun hf => ?_) (fun hf => ?_)))
          · obtain ⟨f1, f2⟩ := hfl.1 hf
            refine ifW_of (fun h3 => ?_) (fun h3 => ?_)
            · refine addW_of (by omega) (by omega) (hn3 hltj _ ⟨by simp, by omega, ⟨fun _ => ⟨f1, fun r hr hr3 => ?_⟩, fun _ => rfl⟩⟩)
              rcases (htk r).1 hr with hr | rfl
              · exact f2 r hr hr3
              · simp at h3; exact absurd hr3 h3
            · have h3' : cs[m][j].xAction = 3 := by simpa using h3
              have hcc := hrv.1.2.2.2.1 h3'
              have hc5 := hrv.2
              obtain ⟨q, hq⟩ := Int.eq_ofNat_of_zero_le hcc.1
              have hqD : q < D.length := by omega
              refine idxW_of q hq hqD (addW_of (by omega) (by omega) (hn3 hltj _ ⟨by simp, by omega, ⟨fun e => ⟨f1, fun r hr hr3 => ?_⟩, fun hh => ?_⟩⟩))
              · rcases (htk r).1 hr with hr | rfl
                · exact f2 r hr hr3
                · rw [hq, Int.toNat_natCast, List.getElem?_eq_getElem hqD]; exact congrArg some e
              · have := hh.2 _ ((htk _).2 (.inr rfl)) h3'
                rw [hq, Int.toNat_natCast, List.getElem?_eq_getElem hqD] at this
                exact Option.some.inj this
          · refine addW_of (by omega) (by omega) (hn3 hltj _ ⟨by simp, by omega, ⟨fun e => (by cases e), fun hh => ?_⟩⟩)
            have : fl = true := hfl.2 ⟨hh.1, fun r hr hr3 => hh.2 r ((htk r).2 (.inl hr)) hr3⟩
            rw [this] at hf; cases hf
        · have hge : cs[m].length ≤ j := by simpa using hc3
          rw [List.take_of_length_le hge] at hfl
          have rdy_of : ∀ D' : List Bool, Rdy cs D' m → ∀ r, r ∈ cs[m] → r.xAction = 3 → D'[r.xChain.toNat]? = some true := by
            intro D' hh r hr hr3
            have hcc := (hch.2 r hr).1.2.2.2.1 hr3
            exact hh _ ⟨_, hcm, r, hr, hr3, by omega⟩
          refine ifW_of (fun hf => ?_) (fun hf => ?_)
          · obtain ⟨f1, f2⟩ := hfl.1 hf
            have hr : Rdy cs D m := by
              rintro q ⟨c', e1, r, e2, e3, e4⟩
              rw [hcm] at e1; cases e1
              have := f2 r e2 e3
              rw [e4] at this; simpa using this
            have set1 : ∀ i : Nat, (D.set m true)[i]? = if i = m then some true else D[i]? := fun i => by
              by_cases e : i = m
              · subst e; simp [hmD]
              · rw [List.getElem?_set_ne (by omega), if_neg e]
            have hcs' : (D.set m true).count true = D.count true + 1 := by
              rw [List.count_set hmD]; simp [f1]
            refine idxW_of m rfl hmD (appW_of (by simp; omega) (addW_of (by omega) (by omega) (hn2 hlt _ ⟨by simp, by omega, by simpa using hD, ?_, fun i hi => ?_, fun i hi => ?_, .inr ?_, fun i hi hri => ?_⟩)))
            · simp only [Int.toNat_natCast, hcs']; simp; omega
            · simp only [Int.toNat_natCast, set1] at hi
              by_cases e : i = m
              · subst e; exact sf_of (fun j hj => hs j (hr j hj))
              · rw [if_neg e] at hi; exact hs i hi
            · simp only [Int.toNat_natCast, set1]; split
              · rfl
              · exact hmono i hi
            · simp only [Int.toNat_natCast, hcs']
              rcases hcnt with rfl | h
              · omega
              · omega
            · simp only [Int.toNat_natCast, set1]; split
              · rfl
              · exact hrd i (by omega) hri
          · refine addW_of (by omega) (by omega) (hn2 hlt _ ⟨by simp, by omega, hD, hy, hs, hmono, hcnt, fun i hi hri => ?_⟩)
            by_cases e : i = m
            · subst e
              rw [List.getElem?_eq_getElem hmD]
              by_cases hDm : D[i] = false
              · have : fl = true := hfl.2 ⟨hDm, fun r hr hr3 => hmono _ (rdy_of D0 hri r hr hr3)⟩
                rw [this] at hf; cases hf
              · simpa using hDm
            · exact hrd i (by omega) hri
      · have hme : m = cs.length := by simp at hc2; omega
        subst hme
        refine addW_of (by omega) (by omega) (hnx hltk _ ⟨by simp, by omega, hD, hy, hs, ?_⟩)
        rcases hcnt with rfl | hlt2
        · exact .inr (fun i hi hri => hrd i hi hri)
        · rcases hst0 with h0 | h0
          · exact .inl (by simp only; omega)
          · refine .inr (fun i hi hri => ?_)
            -- nothing can be marked in a pass over a state in which all that is ready is done
            exfalso
            have hall : ∀ i : Nat, D[i]? = some true → D0[i]? = some true := fun i hi => stuck_sf ht h0 (hs i hi) (by have := (List.getElem?_eq_some_iff.1 hi).1; omega)
            have heq : D = D0 := by
              apply List.ext_getElem?
              intro i
              by_cases hi : i < D.length
              · rw [List.getElem?_eq_getElem hi, List.getElem?_eq_getElem (show i < D0.length by omega)]
                cases hb : D[i] with
                | true =>
                  have := hall i (by rw [List.getElem?_eq_getElem hi, hb])
                  rw [List.getElem?_eq_getElem (show i < D0.length by omega)] at this
                  exact this.symm
                | false =>
                  cases hb0 : D0[i]'(by omega) with
                  | false => rfl
                  | true =>
                    have := hmono i (by rw [List.getElem?_eq_getElem (show i < D0.length by omega), hb0])
                    rw [List.getElem?_eq_getElem hi, hb] at this
                    exact this
              · rw [List.getElem?_eq_none (by omega), List.getElem?_eq_none (by omega)]
            rw [heq] at hlt2; omega
    · have hge : k = cs.length := by simp at hc; omega
      subst hge
      have hle := List.count_le_length (a := true) (l := D0)
      by_cases hcn : D0.count true = cs.length
      · exact h1 (fun i hi => hs0 i (all_count (by omega) (by omega))) ys0 (by omega)
      · refine h2 (fun hall => ?_) ys0 (by omega)
        rcases hst0 with h0 | h0
        · omega
        · exact hcn ((count_all (fun i hi => stuck_sf ht h0 (hall i (by omega)) (by omega))).trans hD0)
  · exfalso
    simp only [List.getElem?_replicate] at hi
    split at hi <;> simp at hi


end
section
open Go.Lib (decDigits)

def RsV (c : List GRule) : Prop := c.length ≤ 8 ∧ ∀ r, r ∈ c → RV r
def SV (s : GRuleset) : Prop := Tg s.xChains ∧ 1 ≤ s.xChains.length ∧ ∀ i, i < s.xChains.length → Sf s.xChains i
/-- lengths in range -/
def Bc (c : List GRule) : Prop := c.length ≤ 4294967296 ∧ ∀ r, r ∈ c → r.xTests.length ≤ 4294967296
def Bd (s : GRuleset) : Prop := s.xChains.length ≤ 4294967296 ∧ ∀ c, c ∈ s.xChains → Bc c
theorem mem_snoc {α : Type} {l : List α} {k : Nat} (h : k < l.length) (x : α) : x ∈ l.take (k + 1) ↔ x ∈ l.take k ∨ x = l[k] := by
  rw [List.take_succ_eq_append_getElem h, List.mem_append, List.mem_singleton]

theorem S_impl_RulesValid {c : List GRule} {κ : Bool → Prop} (hb : Bc c) (h : ∀ b, (b = true ↔ RsV c) → κ b) : L_impl_RulesValid c κ := by
  have hl := hb.1
  unfold L_impl_RulesValid
  refine ifW_of (fun hc => h _ ⟨fun e => (by cases e), fun hh => by have := hh.1; simp at hc; omega⟩) (fun hc0 => ?_)
  simp at hc0
  refine count_loop c.length (fun s => s) (fun k s => s = (k : Int) ∧ k ≤ c.length ∧ ∀ r, r ∈ c.take k → RV r) (fun k s h => h.1) (fun k s h => h.2.1) ?_ ⟨rfl, Nat.zero_le _, by simp⟩
  rintro k _ next ⟨rfl, hk, he⟩ hn
  refine ifW_of (fun hc => ?_) (fun hc => ?_)
  · have hlt : k < c.length := by simpa using hc
    refine idxW_of k rfl hlt (S_impl_RuleValid (hb.2 _ (List.getElem_mem hlt)) (ifW_of (fun hc2 => ?_) (fun hc2 => ?_)))
    · simp at hc2
      exact h _ ⟨fun e => (by cases e), fun hh => absurd (hh.2 _ (List.getElem_mem hlt)) hc2⟩
    · simp at hc2
      refine addW_of (by omega) (by omega) (hn hlt _ ⟨by omega, by omega, fun r hr => ?_⟩)
      rcases (mem_snoc hlt r).1 hr with hr | rfl
      · exact he r hr
      · exact hc2
  · have hge : c.length ≤ k := by simpa using hc
    rw [List.take_of_length_le hge] at he
    exact h _ ⟨fun _ => ⟨by omega, he⟩, fun _ => rfl⟩
theorem S_spec_RulesValid {c : List GRule} {κ : Bool → Prop} (hb : Bc c) (h : ∀ b, (b = true ↔ RsV c) → κ b) : L_spec_RulesValid c κ := by
  have hl := hb.1
  unfold L_spec_RulesValid
  refine count_loop c.length (fun s => s) (fun k s => s = (k : Int) ∧ k ≤ c.length ∧ ∀ r, r ∈ c.take k → RV r) (fun k s h => h.1) (fun k s h => h.2.1) ?_ ⟨rfl, Nat.zero_le _, by simp⟩
  rintro k _ next ⟨rfl, hk, he⟩ hn
  refine ifW_of (fun hc => ?_) (fun hc => ?_)
  · have hlt : k < c.length := by simpa using hc
    refine idxW_of k rfl hlt (S_spec_RuleValid (hb.2 _ (List.getElem_mem hlt)) (ifW_of (fun hc2 => ?_) (fun hc2 => ?_)))
    · simp at hc2
      exact h _ ⟨fun e => (by cases e), fun hh => absurd (hh.2 _ (List.getElem_mem hlt)) hc2⟩
    · simp at hc2
      refine addW_of (by omega) (by omega) (hn hlt _ ⟨by omega, by omega, fun r hr => ?_⟩)
      rcases (mem_snoc hlt r).1 hr with hr | rfl
      · exact he r hr
      · exact hc2
  · have hge : c.length ≤ k := by simpa using hc
    rw [List.take_of_length_le hge] at he
    exact h _ ⟨fun e => ⟨by simp at e; omega, he⟩, fun hh => by have := hh.1; simp; omega⟩

theorem S_spec_RulesetValid {s : GRuleset} {κ : Bool → Prop} (hb : Bd s) (h : ∀ b, (b = true ↔ SV s) → κ b) : L_spec_RulesetValid s κ := by
  have hn := hb.1
  have no : ¬ SV s → κ false := fun hns => h _ ⟨fun e => (by cases e), fun hh => absurd hh hns⟩
  unfold L_spec_RulesetValid
  refine count_loop s.xChains.length (fun s => s) (fun k t => t = (k : Int) ∧ k ≤ s.xChains.length ∧ ∀ c, c ∈ s.xChains.take k → RsV c ∧ ∀ r, r ∈ c → r.xChain < s.xChains.length) (fun k s h => h.1) (fun k s h => h.2.1) ?_ ⟨rfl, Nat.zero_le _, by simp⟩
  rintro k _ next ⟨rfl, hk, he⟩ hnx
  refine ifW_of (fun hc => ?_) (fun hc => ?_)
  · have hlt : k < s.xChains.length := by simpa using hc
    have hmem := List.getElem_mem hlt
    have hbc := hb.2 _ hmem
    have hbl := hbc.1
    refine idxW_of k rfl hlt (S_spec_RulesValid hbc (fun b hbv => ifW_of (fun hf => no (fun hh => ?_)) (fun hf => ?_)))
    · have : b = true := hbv.2 ⟨(hh.1.2 _ hmem).1, fun r hr => ((hh.1.2 _ hmem).2 r hr).1⟩
      rw [this] at hf; cases hf
    · have hv : RsV s.xChains[k] := hbv.1 (by simpa using hf)
      refine count_loop s.xChains[k].length (fun s => s) (fun j t => t = (j : Int) ∧ j ≤ s.xChains[k].length ∧ ∀ r, r ∈ s.xChains[k].take j → r.xChain < s.xChains.length) (fun k s h => h.1) (fun k s h => h.2.1) ?_ ⟨rfl, Nat.zero_le _, by simp⟩
      rintro j _ next2 ⟨rfl, hj, he2⟩ hn2
      refine idxW_of k rfl hlt (ifW_of (fun hc3 => ?_) (fun hc3 => ?_))
      · have hltj : j < s.xChains[k].length := by simpa using hc3
        refine idxW_of k rfl hlt (idxW_of j rfl hltj (ifW_of (fun h3 => no (fun hh => ?_)) (fun h3 => ?_)))
        · have := ((hh.1.2 _ hmem).2 _ (List.getElem_mem hltj)).2
          simp at h3; omega
        · simp at h3
          refine addW_of (by omega) (by omega) (hn2 hltj _ ⟨by omega, by omega, fun r hr => ?_⟩)
          rcases (mem_snoc hltj r).1 hr with hr | rfl
          · exact he2 r hr
          · omega
      · have hge : s.xChains[k].length ≤ j := by simpa using hc3
        rw [List.take_of_length_le hge] at he2
        refine addW_of (by omega) (by omega) (hnx hlt _ ⟨by omega, by omega, fun c hc => ?_⟩)
        rcases (mem_snoc hlt c).1 hc with hc | rfl
        · exact he c hc
        · exact ⟨hv, he2⟩
  · have hge : s.xChains.length ≤ k := by simpa using hc
    rw [List.take_of_length_le hge] at he
    unfold jnW
    refine S_l1In (ifW_of (fun h5 => ?_) (fun h5 => no (fun hh => ?_)))
    · simp at h5
      have ht : Tg s.xChains := ⟨by omega, fun c hc => ⟨(he c hc).1.1, fun r hr => ⟨(he c hc).1.2 r hr, (he c hc).2 r hr⟩⟩⟩
      refine S_l8Order ht (fun hall ys hy => h _ ⟨fun _ => ⟨ht, by omega, hall⟩, fun _ => by simp; omega⟩) (fun hall ys hy => h _ ⟨fun e => absurd (by simp at e; omega) hy, fun hh => absurd hh.2.2 hall⟩)
    · have := hh.1.1; have := hh.2.1
      simp at h5; omega
theorem S_impl_RulesetValid {s : GRuleset} {κ : Bool → Prop} (hb : Bd s) (h : ∀ b, (b = true ↔ SV s) → κ b) : L_impl_RulesetValid s κ := by
  have no : ¬ SV s → κ false := fun hns => h _ ⟨fun e => (by cases e), fun hh => absurd hh hns⟩
  unfold L_impl_RulesetValid jnW
  simp only [ifW_true]
  refine ifW_of (fun hc => no (fun hh => by have := hh.2.1; simp at hc; omega)) (fun h1 => ifW_of (fun hc => no (fun hh => by have := hh.1.1; simp at hc; omega)) (fun h5 => ?_))
  simp at h1 h5
  refine count_loop s.xChains.length (fun s => s) (fun k t => t = (k : Int) ∧ k ≤ s.xChains.length ∧ ∀ c, c ∈ s.xChains.take k → RsV c) (fun k s h => h.1) (fun k s h => h.2.1) ?_ ⟨rfl, Nat.zero_le _, by simp⟩
  rintro k _ next ⟨rfl, hk, he⟩ hnx
  refine ifW_of (fun hc => ?_) (fun hc => ?_)
  · have hlt : k < s.xChains.length := by simpa using hc
    have hmem := List.getElem_mem hlt
    refine idxW_of k rfl hlt (S_impl_RulesValid (hb.2 _ hmem) (fun b hbv => ifW_of (fun hf => no (fun hh => ?_)) (fun hf => ?_)))
    · have : b = true := hbv.2 ⟨(hh.1.2 _ hmem).1, fun r hr => ((hh.1.2 _ hmem).2 r hr).1⟩
      rw [this] at hf; cases hf
    · refine addW_of (by omega) (by omega) (hnx hlt _ ⟨by omega, by omega, fun c hc => ?_⟩)
      rcases (mem_snoc hlt c).1 hc with hc | rfl
      · exact he c hc
      · exact hbv.1 (by simpa using hf)
  · have hge : s.xChains.length ≤ k := by simpa using hc
    rw [List.take_of_length_le hge] at he
    refine count_loop s.xChains.length (fun s => s) (fun k t => t = (k : Int) ∧ k ≤ s.xChains.length ∧ ∀ c, c ∈ s.xChains.take k → ∀ r, r ∈ c → r.xChain < s.xChains.length) (fun k s h => h.1) (fun k s h => h.2.1) ?_ ⟨rfl, Nat.zero_le _, by simp⟩
    rintro m _ next2 ⟨rfl, hm, he2⟩ hn2
    refine ifW_of (fun hc2 => ?_) (fun hc2 => ?_)
    · have hlt : m < s.xChains.length := by simpa using hc2
      have hmem := List.getElem_mem hlt
      have hv := he _ hmem
      refine idxW_of m rfl hlt (S_callsIn hv.1 hv.2 (fun ys hyl hys => ?_))
      refine count_loop ys.length (fun s => s) (fun j t => t = (j : Int) ∧ j ≤ ys.length ∧ ∀ x, x ∈ ys.take j → x < s.xChains.length) (fun k s h => h.1) (fun k s h => h.2.1) ?_ ⟨rfl, Nat.zero_le _, by simp⟩
      rintro j _ next3 ⟨rfl, hj, he3⟩ hn3
      refine ifW_of (fun hc3 => ?_) (fun hc3 => ?_)
      · have hltj : j < ys.length := by simpa using hc3
        refine idxW_of j rfl hltj (ifW_of (fun hx => no (fun hh => ?_)) (fun hx => ?_))
        · obtain ⟨r, hr, _, hrc⟩ := (hys _).1 (List.getElem_mem hltj)
          have := ((hh.1.2 _ hmem).2 r hr).2
          simp at hx; omega
        · simp at hx
          refine addW_of (by omega) (by omega) (hn3 hltj _ ⟨by omega, by omega, fun x hxx => ?_⟩)
          rcases (mem_snoc hltj x).1 hxx with hxx | rfl
          · exact he3 x hxx
          · omega
      · have hgej : ys.length ≤ j := by simpa using hc3
        rw [List.take_of_length_le hgej] at he3
        refine addW_of (by omega) (by omega) (hn2 hlt _ ⟨by omega, by omega, fun c hc => ?_⟩)
        rcases (mem_snoc hlt c).1 hc with hc | rfl
        · exact he2 c hc
        · intro r hr
          by_cases h3 : r.xAction = 3
          · exact he3 _ ((hys _).2 ⟨r, hr, h3, rfl⟩)
          · have := (hv.2 r hr).2.2.2.2 h3
            omega
    · have hgem : s.xChains.length ≤ m := by simpa using hc2
      rw [List.take_of_length_le hgem] at he2
      have ht : Tg s.xChains := ⟨by omega, fun c hc => ⟨(he c hc).1, fun r hr => ⟨(he c hc).2 r hr, he2 c hc r hr⟩⟩⟩
      exact S_acyclic ht.w (fun hall => h _ ⟨fun _ => ⟨ht, by omega, hall⟩, fun _ => rfl⟩) (fun hall => h _ ⟨fun e => (by cases e), fun hh => absurd hh.2.2 hall⟩)

/-! texts -/
end
section
open Go.Lib (decDigits)

/-- lengths of an argument that is not too big -/
def Br (r : GRule) : Prop := r.xTests.length ≤ 1048576
def Bq (c : List GRule) : Prop := c.length ≤ 1048576 ∧ ∀ r, r ∈ c → Br r
def Bs (cs : List (List GRule)) : Prop := cs.length ≤ 1048576 ∧ ∀ c, c ∈ cs → Bq c
theorem Bs.bd {s : GRuleset} (h : Bs s.xChains) : Bd s := ⟨by have := h.1; omega, fun c hc => ⟨by have := (h.2 c hc).1; omega, fun r hr => by have : r.xTests.length ≤ 1048576 := (h.2 c hc).2 r hr; omega⟩⟩
theorem SV.bs {s : GRuleset} (h : SV s) : Bs s.xChains := ⟨by have := h.1.1; omega, fun c hc => ⟨by have := (h.1.2 c hc).1; omega, fun r hr => by have : r.xTests.length ≤ 6 := ((h.1.2 c hc).2 r hr).1.1.2; unfold Br; omega⟩⟩
theorem S_szTestS {a : List GTest} {left : Int} {κ : Int → Prop} (hl : a.length ≤ 9223372036854775807) (h0 : 0 ≤ left) (h1 : left ≤ 1048576) (hn : κ (-1)) (h : ∀ r, 0 ≤ r → r ≤ left → a.length ≤ 1048576 → κ r) : L_laws_szTestS a left κ := by
  unfold L_laws_szTestS
  refine subW_of (by omega) (by omega) (ifW_of (fun _ => hn) (fun hc => ?_))
  simp at hc
  exact h _ (by omega) (by omega) (by omega)
theorem S_szRule {x : GRule} {left : Int} {κ : Int → Prop} (hl : x.xTests.length ≤ 9223372036854775807) (h0 : 0 ≤ left) (h1 : left ≤ 1048576) (hn : κ (-1)) (h : ∀ r, 0 ≤ r → r ≤ left → Br x → κ r) : L_laws_szRule x left κ := by
  unfold L_laws_szRule
  refine S_szTestS hl h0 h1 (ifW_of (fun _ => hn) (fun hc => by simp at hc)) (fun r a b c => ifW_of (fun hc => by simp at hc; omega) (fun _ => h r a b c))
theorem S_szRuleS {a : List GRule} {left : Int} {κ : Int → Prop} (hl : a.length ≤ 9223372036854775807) (hl2 : ∀ r, r ∈ a → r.xTests.length ≤ 9223372036854775807) (h0 : 0 ≤ left) (h1 : left ≤ 1048576) (hn : κ (-1)) (h : ∀ r, 0 ≤ r → r ≤ left → Bq a → κ r) : L_laws_szRuleS a left κ := by
  unfold L_laws_szRuleS
  refine subW_of (by omega) (by omega) (ifW_of (fun _ => hn) (fun hc => ?_))
  simp at hc
  refine szG_loop Br a _ (by omega) (by omega) (by omega) (fun r a b c => h r a (by omega) ⟨by omega, c⟩) _ (fun nx r t g0 g1 g2 ht hf => ?_)
  refine ifW_of (fun hc => ?_) (fun hc => hf (by simpa using hc))
  have hlt : t < a.length := by simpa using hc
  refine idxW_of t rfl hlt ?_
  refine S_szRule (hl2 _ (List.getElem_mem hlt)) g0 g1 (ifW_of (fun _ => hn) (fun hc => by simp at hc)) (fun r' e0 e1 e2 => ifW_of (fun hc => by simp at hc; omega) (fun _ => addW_of (by omega) (by omega) ?_))
  exact ht _ (by simp [hlt]) r' e0 e1 e2
theorem S_szRuleSS {a : List (List GRule)} {left : Int} {κ : Int → Prop} (hl : a.length ≤ 9223372036854775807) (hl2 : ∀ c, c ∈ a → c.length ≤ 9223372036854775807 ∧ ∀ r, r ∈ c → r.xTests.length ≤ 9223372036854775807) (h0 : 0 ≤ left) (h1 : left ≤ 1048576) (hn : κ (-1)) (h : ∀ r, 0 ≤ r → r ≤ left → Bs a → κ r) : L_laws_szRuleSS a left κ := by
  unfold L_laws_szRuleSS
  refine subW_of (by omega) (by omega) (ifW_of (fun _ => hn) (fun hc => ?_))
  simp at hc
  refine szG_loop Bq a _ (by omega) (by omega) (by omega) (fun r a b c => h r a (by omega) ⟨by omega, c⟩) _ (fun nx r t g0 g1 g2 ht hf => ?_)
  refine ifW_of (fun hc => ?_) (fun hc => hf (by simpa using hc))
  have hlt : t < a.length := by simpa using hc
  refine idxW_of t rfl hlt ?_
  have hm := hl2 _ (List.getElem_mem hlt)
  refine S_szRuleS hm.1 hm.2 g0 g1 (ifW_of (fun _ => hn) (fun hc => by simp at hc)) (fun r' e0 e1 e2 => ifW_of (fun hc => by simp at hc; omega) (fun _ => addW_of (by omega) (by omega) ?_))
  exact ht _ (by simp [hlt]) r' e0 e1 e2
/-- the lengths of an argument are in range -/
def okRs (s : GRuleset) : Prop := s.xChains.length ≤ 9223372036854775807 ∧ ∀ c, c ∈ s.xChains → c.length ≤ 9223372036854775807 ∧ ∀ r, r ∈ c → r.xTests.length ≤ 9223372036854775807
theorem S_szRuleset {s : GRuleset} {left : Int} {κ : Int → Prop} (hl : okRs s) (h0 : 0 ≤ left) (h1 : left ≤ 1048576) (hn : κ (-1)) (h : ∀ r, 0 ≤ r → r ≤ left → Bs s.xChains → κ r) : L_laws_szRuleset s left κ := by
  unfold L_laws_szRuleset
  refine S_szRuleSS hl.1 hl.2 h0 h1 (ifW_of (fun _ => hn) (fun hc => by simp at hc)) (fun r a b c => ifW_of (fun hc => by simp at hc; omega) (fun _ => h r a b c))

theorem toRuleS_of {a : List GRule} {κ : List GRule → Prop} (hb : Bq a) (h : κ a) : L_laws_toRuleS a κ := by
  unfold L_laws_toRuleS
  have := hb.1
  refine makeW_of a.length rfl (by omega) (by omega) (copy_loop a id (by omega) (fun x ψ => L_laws_toRule x ψ) (fun x ψ hx hh => toRule_of (by have : x.xTests.length ≤ 1048576 := hb.2 x hx; omega) hh) (by simpa using h) (by simp) _ (fun nx xs t hh => hh))
theorem toRuleSS_of {a : List (List GRule)} {κ : List (List GRule) → Prop} (hb : Bs a) (h : κ a) : L_laws_toRuleSS a κ := by
  unfold L_laws_toRuleSS
  have := hb.1
  refine makeW_of a.length rfl (by omega) (by omega) (copy_loop a id (by omega) (fun x ψ => L_laws_toRuleS x ψ) (fun x ψ hx hh => toRuleS_of (hb.2 x hx) hh) (by simpa using h) (by simp) _ (fun nx xs t hh => hh))
theorem toRuleset_of {s : GRuleset} {κ : GRuleset → Prop} (hb : Bs s.xChains) (h : κ s) : L_laws_toRuleset s κ := by
  unfold L_laws_toRuleset
  exact toRuleSS_of hb h
theorem eqRuleS_self {a : List GRule} {κ : Bool → Prop} (hb : Bq a) (h : κ true) : L_laws_eqRuleS a a κ := by
  unfold L_laws_eqRuleS
  have := hb.1
  refine ifW_of (fun hc => by simp at hc) (fun _ => eqS_loop a (by omega) h _ (fun nx t g ht hf => ifW_of (fun hc => ?_) (fun hc => hf (by simpa using hc))))
  have hlt : t < a.length := by simpa using hc
  obtain ⟨hm, hn⟩ := ht a[t] (by simp [hlt])
  refine idxW_of t rfl hlt (idxW_of t rfl hlt (eqRule_self (by have : a[t].xTests.length ≤ 1048576 := hb.2 _ hm; omega) ?_))
  simp only [Bool.not_true, ifW_false]
  exact addW_of (by omega) (by omega) hn
theorem eqRuleSS_self {a : List (List GRule)} {κ : Bool → Prop} (hb : Bs a) (h : κ true) : L_laws_eqRuleSS a a κ := by
  unfold L_laws_eqRuleSS
  have := hb.1
  refine ifW_of (fun hc => by simp at hc) (fun _ => eqS_loop a (by omega) h _ (fun nx t g ht hf => ifW_of (fun hc => ?_) (fun hc => hf (by simpa using hc))))
  have hlt : t < a.length := by simpa using hc
  obtain ⟨hm, hn⟩ := ht a[t] (by simp [hlt])
  refine idxW_of t rfl hlt (idxW_of t rfl hlt (eqRuleS_self (hb.2 _ hm) ?_))
  simp only [Bool.not_true, ifW_false]
  exact addW_of (by omega) (by omega) hn
theorem eqRuleset_self {s : GRuleset} {κ : Bool → Prop} (hb : Bs s.xChains) (h : κ true) : L_laws_eqRuleset s s κ := by
  unfold L_laws_eqRuleset
  refine eqRuleSS_self hb ?_
  simp only [Bool.not_true, ifW_false]
  refine ifW_of (fun hc => by simp at hc) (fun _ => h)
/-! marks -/
/-! lines -/
end
section


/-! tests -/
def th (t : GTest) (p : GPacket) : Bool := decide (t.xLo ≤ fieldP p t.xField.toNat ∧ fieldP p t.xField.toNat ≤ t.xHi) != t.xNot
def ft (l : List GTest) (p : GPacket) : Bool := l.all (fun t => th t p)
theorem four4 {a : Int} (h0 : 0 ≤ a) (h1 : a ≤ 3) : a = 0 ∨ a = 1 ∨ a = 2 ∨ a = 3 := by omega
theorem bne_dec (x y : Bool) : (!(decide (x = y))) = (x != y) := by cases x <;> cases y <;> rfl
theorem S_impl_holds {t : GTest} {p : GPacket} {κ : Bool → Prop} (ht : TV t) (h : κ (th t p)) : L_impl_Test_holds t p κ := by
  obtain ⟨h0, h1, _⟩ := ht
  unfold L_impl_Test_holds L_impl_Packet_fields jnW
  have key : ∀ v : Int, v = fieldP p t.xField.toNat → ifW (decide (t.xLo ≤ v)) (κ (!(decide ((decide (v ≤ t.xHi)) = t.xNot)))) (κ (!(decide (false = t.xNot)))) := by
    intro v hv
    unfold th at h
    rw [← hv] at h
    refine ifW_of (fun hc => ?_) (fun hc => ?_)
    · rw [bne_dec]
      have e : decide (t.xLo ≤ v ∧ v ≤ t.xHi) = decide (v ≤ t.xHi) := by simp at hc; simp [hc]
      rw [e] at h; exact h
    · rw [bne_dec]
      have e : decide (t.xLo ≤ v ∧ v ≤ t.xHi) = false := by simp at hc; simp; omega
      rw [e] at h; exact h
  rcases four4 h0 h1 with e | e | e | e
  · exact idxW_of 0 (by omega) (by simp) (key _ (by rw [e]; rfl))
  · exact idxW_of 1 (by omega) (by simp) (key _ (by rw [e]; rfl))
  · exact idxW_of 2 (by omega) (by simp) (key _ (by rw [e]; rfl))
  · exact idxW_of 3 (by omega) (by simp) (key _ (by rw [e]; rfl))
theorem ft_take (l : List GTest) (p : GPacket) (k : Nat) (h : k < l.length) : ft (l.take (k + 1)) p = (ft (l.take k) p && th l[k] p) := by
  unfold ft
  rw [List.take_succ_eq_append_getElem h, List.all_append]; simp
theorem ft_false {l : List GTest} {p : GPacket} {k : Nat} (h : k < l.length) (e : th l[k] p = false) : ft l p = false := by
  unfold ft
  rw [List.all_eq_false]
  exact ⟨l[k], List.getElem_mem h, by simp [e]⟩
theorem S_impl_allHold {l : List GTest} {p : GPacket} {κ : Bool → Prop} (hl : l.length ≤ 4294967296) (ht : ∀ t, t ∈ l → TV t) (h : κ (ft l p)) : L_impl_allHold l p κ := by
  unfold L_impl_allHold
  refine count_loop l.length (fun s => s) (fun k s => s = (k : Int) ∧ k ≤ l.length ∧ ft (l.take k) p = true) (fun k s h => h.1) (fun k s h => h.2.1) ?_ ⟨rfl, Nat.zero_le _, by simp [ft]⟩
  rintro k _ next ⟨rfl, hk, hf⟩ hn
  refine ifW_of (fun hc => ?_) (fun hc => ?_)
  · have hlt : k < l.length := by simpa using hc
    refine idxW_of k rfl hlt (S_impl_holds (ht _ (List.getElem_mem hlt)) (ifW_of (fun hx => ?_) (fun hx => addW_of (by omega) (by omega) (hn hlt _ ⟨by omega, by omega, ?_⟩))))
    · rw [ft_false hlt (by simpa using hx)] at h; exact h
    · rw [ft_take l p k hlt, hf]; simpa using hx
  · have hge : l.length ≤ k := by simpa using hc
    rw [List.take_of_length_le hge] at hf
    rw [hf] at h; exact h
theorem S_spec_TestHolds {t : GTest} {p : GPacket} {κ : Bool → Prop} (ht : TV t) (hp : pv p) (h : κ (th t p)) : L_spec_TestHolds t p κ := by
  unfold L_spec_TestHolds jnW
  refine S_spec_TestValid (ifW_of (fun _ => ?_) (fun hx => by simp at hx; exact absurd ht hx))
  refine S_specPacketValid (ifW_of (fun _ => ?_) (fun hx => by simp at hx; exact absurd hp hx))
  obtain ⟨h0, h1, _⟩ := ht
  unfold L_spec_PacketField jnW
  refine S_specPacketValid (ifW_of (fun hx => by simp at hx; exact absurd hp hx) (fun _ => S_l1In (ifW_of (fun hx => by simp at hx; omega) (fun _ => ?_))))
  have key : ∀ v : Int, v = fieldP p t.xField.toNat → L_spec_l1In v t.xLo t.xHi (fun r8 => κ (!(decide (r8 = t.xNot)))) := by
    intro v hv
    refine S_l1In ?_
    rw [bne_dec]
    unfold th at h
    rw [← hv] at h
    exact h
  rcases four4 h0 h1 with e | e | e | e
  · exact idxW_of 0 (by omega) (by simp) (key _ (by rw [e]; rfl))
  · exact idxW_of 1 (by omega) (by simp) (key _ (by rw [e]; rfl))
  · exact idxW_of 2 (by omega) (by simp) (key _ (by rw [e]; rfl))
  · exact idxW_of 3 (by omega) (by simp) (key _ (by rw [e]; rfl))
theorem S_spec_TestsHold {l : List GTest} {p : GPacket} {κ : Bool → Prop} (ht : TsV l) (hp : pv p) (h : κ (ft l p)) : L_spec_TestsHold l p κ := by
  unfold L_spec_TestsHold
  have hl := ht.2
  refine count_loop l.length (fun s => s) (fun k s => s = (k : Int) ∧ k ≤ l.length ∧ ft (l.take k) p = true) (fun k s h => h.1) (fun k s h => h.2.1) ?_ ⟨rfl, Nat.zero_le _, by simp [ft]⟩
  rintro k _ next ⟨rfl, hk, hf⟩ hn
  refine ifW_of (fun hc => ?_) (fun hc => ?_)
  · have hlt : k < l.length := by simpa using hc
    refine idxW_of k rfl hlt (S_spec_TestHolds (ht.1 _ (List.getElem_mem hlt)) hp (ifW_of (fun hx => ?_) (fun hx => addW_of (by omega) (by omega) (hn hlt _ ⟨by omega, by omega, ?_⟩))))
    · rw [ft_false hlt (by simpa using hx)] at h; exact h
    · rw [ft_take l p k hlt, hf]; simpa using hx
  · have hge : l.length ≤ k := by simpa using hc
    rw [List.take_of_length_le hge] at hf
    rw [hf] at h
    unfold jnW
    refine S_spec_TestsValid (by omega) (ifW_of (fun _ => S_specPacketValid ?_) (fun hx => by simp at hx; exact absurd ht hx))
    rw [decide_eq_true hp]; exact h

/-! heights of chains -/
def Hh (cs : List (List GRule)) : Nat → Nat → Prop
  | 0, _ => False
  | n + 1, i => ∀ j, Ca cs i j → Hh cs n j
theorem hh_succ {cs : List (List GRule)} : ∀ {n i : Nat}, Hh cs n i → Hh cs (n + 1) i
  | 0, i, h => h.elim
  | n + 1, i, h => fun j hj => hh_succ (h j hj)
theorem hh_le {cs : List (List GRule)} {n m i : Nat} (h : Hh cs n i) (hm : n ≤ m) : Hh cs m i := by
  induction hm with
  | refl => exact h
  | step _ ih => exact hh_succ ih
theorem hh_all {cs : List (List GRule)} {Q : Nat → Prop} : ∀ (k : Nat), (∀ j, j < k → Q j → ∃ n, Hh cs n j) → ∃ N, ∀ j, j < k → Q j → Hh cs N j
  | 0, _ => ⟨0, fun j hj => by omega⟩
  | k + 1, h => by
    obtain ⟨N, hN⟩ := hh_all k (fun j hj hq => h j (by omega) hq)
    by_cases hq : Q k
    · obtain ⟨n, hn⟩ := h k (by omega) hq
      refine ⟨max N n, fun j hj hqj => ?_⟩
      by_cases e : j = k
      · subst e; exact hh_le hn (by omega)
      · exact hh_le (hN j (by omega) hqj) (by omega)
    · refine ⟨N, fun j hj hqj => ?_⟩
      by_cases e : j = k
      · subst e; exact absurd hqj hq
      · exact hN j (by omega) hqj
theorem hh_of_sf {cs : List (List GRule)} {i : Nat} (hs : Sf cs i) : ∃ n, Hh cs n i := by
  induction hs with
  | intro x hx ih =>
    obtain ⟨N, hN⟩ := hh_all (cs := cs) (Q := fun j => Ca cs x j) cs.length (fun j _ hq => ih j hq)
    refine ⟨N + 1 + 1, fun j hj => ?_⟩
    by_cases hl : j < cs.length
    · exact hh_succ (hN j hl hj)
    · exact fun k hk => by
        obtain ⟨c, h1, _⟩ := hk
        have := (List.getElem?_eq_some_iff.1 h1).1
        omega
theorem hh_ex {cs : List (List GRule)} (hs : ∀ i, i < cs.length → Sf cs i) : ∃ N, ∀ i, Hh cs (N + 1) i := by
  obtain ⟨N, hN⟩ := hh_all (cs := cs) (Q := fun _ => True) cs.length (fun j hj _ => hh_of_sf (hs j hj))
  refine ⟨N, fun i => ?_⟩
  by_cases hl : i < cs.length
  · exact hh_succ (hN i hl trivial)
  · exact fun k hk => by
      obtain ⟨c, h1, _⟩ := hk
      have := (List.getElem?_eq_some_iff.1 h1).1
      omega

/-! the decision -/
/-- through the rules of a chain, given what the chains that are called decide: 1 accept, 2 drop, 5 nothing -/
def jl (p : GPacket) (call : Nat → Int) : List GRule → Int
  | [] => 5
  | r :: l => if ft r.xTests p = true then
      (if r.xAction = 1 then 1 else if r.xAction = 2 then 2 else if r.xAction = 4 then 5 else if r.xAction = 3 then (if call r.xChain.toNat = 5 then jl p call l else call r.xChain.toNat) else jl p call l)
      else jl p call l
def chn (cs : List (List GRule)) (i : Nat) : List GRule := cs[i]?.getD []
def jc (cs : List (List GRule)) (p : GPacket) : Nat → Nat → Int
  | 0, _ => 5
  | n + 1, i => jl p (jc cs p n) (chn cs i)
theorem jl_congr {p : GPacket} {f g : Nat → Int} : ∀ {l : List GRule}, (∀ r, r ∈ l → r.xAction = 3 → f r.xChain.toNat = g r.xChain.toNat) → jl p f l = jl p g l
  | [], _ => rfl
  | r :: l, h => by
    have ih := jl_congr (p := p) (l := l) (fun x hx => h x (by simp [hx]))
    simp only [jl]
    rw [ih]
    by_cases h3 : r.xAction = 3
    · rw [h r (by simp) h3]
    · simp only [h3, if_false]
theorem ca_mem {cs : List (List GRule)} {i : Nat} {r : GRule} (hr : r ∈ chn cs i) (h3 : r.xAction = 3) (h0 : 0 ≤ r.xChain) : Ca cs i r.xChain.toNat := by
  unfold chn at hr
  cases h : cs[i]? with
  | none => rw [h] at hr; simp at hr
  | some c => rw [h] at hr; exact ⟨c, h, r, hr, h3, by omega⟩
/-- calls go to chains that are numbered from 0 -/
def Cn (cs : List (List GRule)) : Prop := ∀ i r, r ∈ chn cs i → r.xAction = 3 → 0 ≤ r.xChain
theorem jc_stab {cs : List (List GRule)} {p : GPacket} (hc : Cn cs) : ∀ {n i : Nat}, Hh cs n i → jc cs p (n + 1) i = jc cs p n i
  | 0, i, h => h.elim
  | n + 1, i, h => jl_congr (fun r hr h3 => jc_stab hc (h _ (ca_mem hr h3 (hc i r hr h3))))
/-- the numbers of steps that the rules of a chain take at most -/
def wt (cs : List (List GRule)) : Nat → List GRule → Nat
  | 0, l => l.length + 1
  | n + 1, l => 1 + (l.map (fun r => 1 + if r.xAction = 3 then wt cs n (chn cs r.xChain.toNat) else 0)).sum
theorem wt_nil (cs : List (List GRule)) (n : Nat) : wt cs n [] = 1 := by cases n <;> simp [wt]
theorem wt_cons (cs : List (List GRule)) (n : Nat) (r : GRule) (l : List GRule) : wt cs (n + 1) (r :: l) = wt cs (n + 1) l + 1 + (if r.xAction = 3 then wt cs n (chn cs r.xChain.toNat) else 0) := by
  simp only [wt, List.map_cons, List.sum_cons]; omega
theorem wt_stab {cs : List (List GRule)} (hc : Cn cs) : ∀ {n i : Nat}, Hh cs n i → wt cs (n + 1) (chn cs i) = wt cs n (chn cs i)
  | 0, i, h => h.elim
  | n + 1, i, h => by
    have key : ∀ l : List GRule, (∀ r, r ∈ l → r ∈ chn cs i) → (l.map (fun r => 1 + if r.xAction = 3 then wt cs (n + 1) (chn cs r.xChain.toNat) else 0)).sum = (l.map (fun r => 1 + if r.xAction = 3 then wt cs n (chn cs r.xChain.toNat) else 0)).sum := by
      intro l hl
      congr 1
      refine List.map_congr_left (fun r hr => ?_)
      by_cases h3 : r.xAction = 3
      · simp only [h3, if_true]
        rw [wt_stab hc (h _ (ca_mem (hl r hr) h3 (hc i r (hl r hr) h3)))]
      · simp only [h3, if_false]
    show 1 + _ = 1 + _
    rw [key _ (fun r hr => hr)]
open Classical in
/-- a number of steps that serves for all chains -/
noncomputable def jN (cs : List (List GRule)) : Nat := if h : ∃ N, ∀ i, Hh cs (N + 1) i then h.choose else 0
theorem jN_ok {cs : List (List GRule)} (hs : ∀ i, i < cs.length → Sf cs i) (i : Nat) : Hh cs (jN cs + 1) i := by
  have h := hh_ex hs
  unfold jN
  rw [dif_pos h]
  exact h.choose_spec i
/-- what chain i decides about a packet -/
noncomputable def J (cs : List (List GRule)) (p : GPacket) (i : Nat) : Int := jc cs p (jN cs + 1) i
theorem J_fix {cs : List (List GRule)} {p : GPacket} (hc : Cn cs) (hs : ∀ i, i < cs.length → Sf cs i) (i : Nat) : J cs p i = jl p (J cs p) (chn cs i) := by
  unfold J
  rw [← jc_stab hc (jN_ok hs i)]
  rfl
theorem SV.cn {s : GRuleset} (h : SV s) : Cn s.xChains := by
  intro i r hr h3
  unfold chn at hr
  cases e : s.xChains[i]? with
  | none => rw [e] at hr; simp at hr
  | some c =>
    rw [e] at hr
    exact (((h.1.2 c (List.mem_of_getElem? e)).2 r hr).1.2.2.2.1 h3).1
theorem chn_get {cs : List (List GRule)} {i : Nat} (h : i < cs.length) : chn cs i = cs[i] := by simp [chn, h]
theorem jl_vals {p : GPacket} {f : Nat → Int} (hf : ∀ i, f i = 1 ∨ f i = 2 ∨ f i = 5) : ∀ l, jl p f l = 1 ∨ jl p f l = 2 ∨ jl p f l = 5
  | [] => by simp [jl]
  | r :: l => by
    have ih := jl_vals (p := p) hf l
    have := hf r.xChain.toNat
    simp only [jl]
    repeat' split
    all_goals omega
theorem jc_vals {cs : List (List GRule)} {p : GPacket} : ∀ n i, jc cs p n i = 1 ∨ jc cs p n i = 2 ∨ jc cs p n i = 5
  | 0, i => by simp [jc]
  | n + 1, i => jl_vals (jc_vals n) _
theorem J_vals (cs : List (List GRule)) (p : GPacket) (i : Nat) : J cs p i = 1 ∨ J cs p i = 2 ∨ J cs p i = 5 := jc_vals _ _
/-- the judgement -/
noncomputable def jdg (s : GRuleset) (p : GPacket) : Bool := if J s.xChains p 0 = 1 then true else if J s.xChains p 0 = 2 then false else s.xAccept

/-! the reference's walk -/
theorem S_l9R {s : GRuleset} {p : GPacket} (hv : SV s) (hp : pv p) : ∀ (n i : Nat) (out : List GVisit) (κ : Int × List GVisit → Prop), Hh s.xChains n i → i < s.xChains.length → out.length ≤ 200 → (∀ out', out'.length ≤ 200 → κ (J s.xChains p i, out')) → R_spec_l9Walk n s i p out κ := by
  intro n
  induction n with
  | zero => intro i out κ h; exact h.elim
  | succ n ih =>
    intro i out κ hh hi ho h
    show B_spec_l9Walk (R_spec_l9Walk n) s i p out κ
    unfold B_spec_l9Walk
    obtain ⟨h8, hrv⟩ := hv.1.2 _ (List.getElem_mem hi)
    rw [J_fix hv.cn hv.2.2 i, chn_get hi] at h
    have hci := chn_get hi
    generalize hcc : s.xChains[i] = c at *
    have ix : ∀ (K : List GRule → Prop), K c → idxW s.xChains (i : Int) K := fun K hK => idxW_of i rfl hi (by rw [hcc]; exact hK)
    refine count_loop c.length (fun t => t.2) (fun k t => t.2 = (k : Int) ∧ k ≤ c.length ∧ t.1.length ≤ 200 ∧ jl p (J s.xChains p) (c.drop k) = jl p (J s.xChains p) c) (fun k t h => h.1) (fun k t h => h.2.1) ?_ ⟨rfl, Nat.zero_le _, ho, by simp⟩
    rintro k ⟨xs, t⟩ next ⟨rfl, hk, hx, hj⟩ hn
    simp only at hx hj
    refine ix _ (ifW_of (fun hc => ?_) (fun hc => ?_))
    · have hlt : k < c.length := by simpa using hc
      obtain ⟨hr, hrc⟩ := hrv _ (List.getElem_mem hlt)
      have hd : c.drop k = c[k] :: c.drop (k + 1) := List.drop_eq_getElem_cons hlt
      rw [hd] at hj
      simp only [jl] at hj
      have go : ∀ ys : List GVisit, ys.length ≤ 200 → jl p (J s.xChains p) (c.drop (k + 1)) = jl p (J s.xChains p) c → addW (k : Int) 1 (fun t245 => next (ys, t245)) := fun ys hys e => addW_of (by omega) (by omega) (hn hlt _ ⟨by simp, by omega, hys, e⟩)
      unfold jnW
      refine ix _ (idxW_of k rfl hlt (S_spec_TestsHold hr.1 hp (ifW_of (fun hx2 => ?_) (fun hx2 => ?_))))
      · have hf : ft c[k].xTests p = false := by simpa using hx2
        rw [hf] at hj
        exact go _ hx (by simpa using hj)
      · have hf : ft c[k].xTests p = true := by simpa using hx2
        rw [hf] at hj
        simp only [if_true] at hj
        have core : ∀ ys : List GVisit, ys.length ≤ 200 → ifW (decide (c[k].xAction = 1)) (ifW (decide (c[k].xAction = 1)) (κ (c[k].xAction, ys)) (ifW (decide (c[k].xAction = 4)) (κ (5, ys)) (ifW (decide (c[k].xAction = 3)) (R_spec_l9Walk n s c[k].xChain p ys (fun (r177, r178) => ifW (!(decide (r177 = 5))) (κ (r177, r178)) (addW (k : Int) 1 (fun t245 => next (r178, t245))))) (addW (k : Int) 1 (fun t245 => next (ys, t245)))))) (ifW (decide (c[k].xAction = 2)) (κ (c[k].xAction, ys)) (ifW (decide (c[k].xAction = 4)) (κ (5, ys)) (ifW (decide (c[k].xAction = 3)) (R_spec_l9Walk n s c[k].xChain p ys (fun (r177, r178) => ifW (!(decide (r177 = 5))) (κ (r177, r178)) (addW (k : Int) 1 (fun t245 => next (r178, t245))))) (addW (k : Int) 1 (fun t245 => next (ys, t245)))))) := by
          intro ys hys
          by_cases h1 : c[k].xAction = 1
          · rw [if_pos h1] at hj
            refine ifW_of (fun _ => ifW_of (fun _ => ?_) (fun hx => by simp at hx; exact absurd h1 hx)) (fun hx => by simp at hx; exact absurd h1 hx)
            rw [h1]
            have := h ys hys
            rw [← hj] at this; exact this
          · rw [if_neg h1] at hj
            refine ifW_of (fun hx => by simp at hx; exact absurd hx h1) (fun _ => ?_)
            by_cases h2 : c[k].xAction = 2
            · rw [if_pos h2] at hj
              refine ifW_of (fun _ => ?_) (fun hx => by simp at hx; exact absurd h2 hx)
              rw [h2]
              have := h ys hys
              rw [← hj] at this; exact this
            · rw [if_neg h2] at hj
              refine ifW_of (fun hx => by simp at hx; exact absurd hx h2) (fun _ => ?_)
              by_cases h4 : c[k].xAction = 4
              · rw [if_pos h4] at hj
                refine ifW_of (fun _ => ?_) (fun hx => by simp at hx; exact absurd h4 hx)
                have := h ys hys
                rw [← hj] at this; exact this
              · rw [if_neg h4] at hj
                refine ifW_of (fun hx => by simp at hx; exact absurd hx h4) (fun _ => ?_)
                by_cases h3 : c[k].xAction = 3
                · rw [if_pos h3] at hj
                  refine ifW_of (fun _ => ?_) (fun hx => by simp at hx; exact absurd h3 hx)
                  have hch := hr.2.2.2.1 h3
                  have e : (c[k].xChain : Int) = ((c[k].xChain.toNat : Nat) : Int) := by omega
                  rw [e]
                  refine ih _ ys _ (hh _ ⟨c, by rw [List.getElem?_eq_getElem hi, hcc], c[k], List.getElem_mem hlt, h3, e⟩) (by omega) hys (fun out' ho' => ?_)
                  show ifW _ _ _
                  refine ifW_of (fun hx => ?_) (fun hx => ?_)
                  · have hne : ¬ J s.xChains p c[k].xChain.toNat = 5 := by simpa using hx
                    rw [if_neg hne] at hj
                    have := h out' ho'
                    rw [← hj] at this; exact this
                  · have he : J s.xChains p c[k].xChain.toNat = 5 := by simpa using hx
                    rw [if_pos he] at hj
                    exact go _ ho' hj
                · rw [if_neg h3] at hj
                  refine ifW_of (fun hx => by simp at hx; exact absurd hx h3) (fun _ => go _ hys hj)
        refine ifW_of (fun h2 => appW_of (by simp; omega) (core _ (by simp at h2 ⊢; omega))) (fun _ => core _ hx)
    · have hge : c.length ≤ k := by simpa using hc
      rw [List.drop_eq_nil_of_le hge] at hj
      have := h xs hx
      rw [← hj] at this
      exact this
theorem S_spec_Judge {s : GRuleset} {p : GPacket} {κ : Bool → Prop} (hb : Bd s) (h1 : SV s → pv p → κ (jdg s p)) (h2 : ¬ (SV s ∧ pv p) → κ false) : L_spec_Judge s p κ := by
  unfold L_spec_Judge jnW
  refine S_spec_RulesetValid hb (fun b hbv => ifW_of (fun hx => ifW_of (fun _ => h2 (fun hh => ?_)) (fun hy => by simp at hy)) (fun hx => S_specPacketValid (ifW_of (fun hy => h2 (fun hh => ?_)) (fun hy => ?_))))
  · rw [hbv.2 hh.1] at hx; cases hx
  · rw [decide_eq_true hh.2] at hy; cases hy
  have hv : SV s := hbv.1 (by simpa using hx)
  have hp : pv p := by simpa using hy
  refine ⟨jN s.xChains + 1, S_l9R hv hp _ 0 [] _ (jN_ok hv.2.2 0) hv.2.1 (by simp) (fun out' _ => ?_)⟩
  have := h1 hv hp
  unfold jdg at this
  show ifW _ _ _
  refine ifW_of (fun hx => ?_) (fun hx => ifW_of (fun hy => ?_) (fun hy => ?_))
  · have e : J s.xChains p 0 = 1 := by simpa using hx
    rw [if_pos e] at this; exact this
  · have e : J s.xChains p 0 = 5 := by simpa using hy
    rw [if_neg (by omega), if_neg (by omega)] at this; exact this
  · have e1 : ¬ J s.xChains p 0 = 1 := by simpa using hx
    have e5 : ¬ J s.xChains p 0 = 5 := by simpa using hy
    have := J_vals s.xChains p 0
    have e2 : J s.xChains p 0 = 2 := by omega
    rename_i hk
    rw [if_neg e1, if_pos e2] at hk; exact hk


end
section


theorem nodup_len : ∀ (n : Nat) (l : List Nat), l.Nodup → (∀ x, x ∈ l → x < n) → l.length ≤ n
  | 0, [], _, _ => by simp
  | 0, x :: l, _, h => by have := h x (by simp); omega
  | n + 1, l, hd, h => by
    by_cases hm : n ∈ l
    · obtain ⟨s, t, rfl⟩ := List.append_of_mem hm
      have hnd : (s ++ t).Nodup ∧ n ∉ s ++ t := by
        rw [List.nodup_append] at hd ⊢
        simp only [List.nodup_cons, List.mem_cons] at hd
        obtain ⟨h1, ⟨h2, h3⟩, h4⟩ := hd
        refine ⟨⟨h1, h3, fun a ha b hb => h4 a ha b (.inr hb)⟩, fun hmem => ?_⟩
        rcases List.mem_append.1 hmem with hs | ht
        · exact h4 n hs n (.inl rfl) rfl
        · exact h2 ht
      have := nodup_len n (s ++ t) hnd.1 (fun x hx => by
        have h1 := h x (by
          rcases List.mem_append.1 hx with hx | hx
          · exact List.mem_append.2 (.inl hx)
          · exact List.mem_append.2 (.inr (List.mem_cons_of_mem _ hx)))
        have h2 : x ≠ n := fun e => hnd.2 (e ▸ hx)
        omega)
      simp at this ⊢; omega
    · have := nodup_len n l hd (fun x hx => by
        have h1 := h x hx
        have h2 : x ≠ n := fun e => hm (e ▸ hx)
        omega)
      omega

def okP (cs : List (List GRule)) (q : GPlace) : Prop := 0 ≤ q.xChain ∧ q.xChain.toNat < cs.length ∧ 0 ≤ q.xNext ∧ q.xNext.toNat ≤ (chn cs q.xChain.toNat).length
def sfx (cs : List (List GRule)) (q : GPlace) : List GRule := (chn cs q.xChain.toNat).drop q.xNext.toNat
noncomputable def Jst (cs : List (List GRule)) (p : GPacket) : List GPlace → Int
  | [] => 5
  | q :: st => if jl p (J cs p) (sfx cs q) = 5 then Jst cs p st else jl p (J cs p) (sfx cs q)
noncomputable def wst (cs : List (List GRule)) (xs : List GPlace) : Nat := (xs.map (fun q => wt cs (jN cs + 1) (sfx cs q))).sum
theorem wst_snoc (cs : List (List GRule)) (xs : List GPlace) (q : GPlace) : wst cs (xs ++ [q]) = wst cs xs + wt cs (jN cs + 1) (sfx cs q) := by simp [wst]
/-- the stack: places that are there, each chain called by the one below it -/
def St (cs : List (List GRule)) (xs : List GPlace) : Prop := (∀ q, q ∈ xs → okP cs q) ∧ xs.Pairwise (fun a b => Wy cs a.xChain.toNat b.xChain.toNat)
theorem St.len {cs : List (List GRule)} {xs : List GPlace} (hs : ∀ i, i < cs.length → Sf cs i) (h : St cs xs) : xs.length ≤ cs.length := by
  have hn : (xs.map (fun q => q.xChain.toNat)).Nodup := by
    rw [List.Nodup, List.pairwise_map]
    refine List.Pairwise.imp_of_mem (fun {a b} ha hb hw e => ?_) h.2
    rw [← e] at hw
    exact wy_loop (hs _ (h.1 a ha).2.1) hw
  have := nodup_len cs.length _ hn (fun x hx => by
    obtain ⟨q, hq, rfl⟩ := List.mem_map.1 hx
    exact (h.1 q hq).2.1)
  simpa using this
theorem St.drop {cs : List (List GRule)} {ys : List GPlace} {q : GPlace} (h : St cs (ys ++ [q])) : St cs ys := ⟨fun x hx => h.1 x (List.mem_append.2 (.inl hx)), (List.pairwise_append.1 h.2).1⟩
theorem St.move {cs : List (List GRule)} {ys : List GPlace} {q q' : GPlace} (h : St cs (ys ++ [q])) (hq : okP cs q') (hc : q'.xChain = q.xChain) : St cs (ys ++ [q']) := by
  refine ⟨fun x hx => ?_, ?_⟩
  · rcases List.mem_append.1 hx with hx | hx
    · exact h.1 x (List.mem_append.2 (.inl hx))
    · rw [List.mem_singleton] at hx; subst hx; exact hq
  · obtain ⟨h1, _, h3⟩ := List.pairwise_append.1 h.2
    refine List.pairwise_append.2 ⟨h1, by simp, fun a ha b hb => ?_⟩
    rw [List.mem_singleton] at hb
    subst hb
    rw [hc]
    exact h3 a ha q (by simp)
theorem St.push {cs : List (List GRule)} {ys : List GPlace} {q q' : GPlace} (h : St cs (ys ++ [q])) (hq : okP cs q') (hc : Ca cs q.xChain.toNat q'.xChain.toNat) : St cs (ys ++ [q] ++ [q']) := by
  refine ⟨fun x hx => ?_, ?_⟩
  · rcases List.mem_append.1 hx with hx | hx
    · exact h.1 x hx
    · rw [List.mem_singleton] at hx; subst hx; exact hq
  · refine List.pairwise_append.2 ⟨h.2, by simp, fun a ha b hb => ?_⟩
    rw [List.mem_singleton] at hb
    subst hb
    rcases List.mem_append.1 ha with ha | ha
    · exact .more ((List.pairwise_append.1 h.2).2.2 a ha q (by simp)) hc
    · rw [List.mem_singleton] at ha; subst ha; exact .one hc
theorem snoc_cases {α : Type} (xs : List α) (h : 0 < xs.length) : ∃ ys q, xs = ys ++ [q] := ⟨xs.dropLast, xs.getLast (List.ne_nil_of_length_pos h), (List.dropLast_concat_getLast (List.ne_nil_of_length_pos h)).symm⟩
theorem S_leave {ys : List GPlace} {q : GPlace} {vis : List GVisit} {d : Int} {κ : List GPlace → Prop} (hl : ys.length ≤ 50) (h : κ ys) : L_impl_walk_leave (ys ++ [q]) vis d κ := by
  unfold L_impl_walk_leave jnW
  have hw : w64 (((ys ++ [q]).length : Int) - 1) = (ys.length : Int) := by
    rw [w64_small (by simp <;> omega) (by simp <;> omega)]; simp
  rw [hw]
  refine ⟨by omega, by omega, by simp <;> omega, ?_⟩
  rw [show ((ys.length : Int)).toNat = ys.length from by omega, show ((0 : Int)).toNat = 0 from rfl, List.drop_zero, List.take_left']
  · exact h
  · rfl
theorem S_walkThrough {s : GRuleset} {p : GPacket} (hv : SV s) {κ : List GPlace × List GVisit × Int → Prop} (h : ∀ st vis, κ (st, vis, J s.xChains p 0)) : L_impl_walkThrough s p κ := by
  unfold L_impl_walkThrough
  have hcs := hv.1.1
  generalize hcc : s.xChains = cs at *
  have hsf := hv.2.2
  rw [hcc] at hsf
  have hpos : 0 < cs.length := by have := hv.2.1; rw [hcc] at this; omega
  have hcn : Cn cs := hcc ▸ hv.cn
  have htg := hv.1.2
  rw [hcc] at htg
  refine loopW_inv (fun t => St cs t.1 ∧ t.2.1.length ≤ 200 ∧ (t.2.2 = 5 → Jst cs p t.1.reverse = J cs p 0) ∧ (t.2.2 ≠ 5 → t.2.2 = J cs p 0)) (fun t => if t.2.2 = 5 then 1 + wst cs t.1 else 0) ?_ ⟨⟨fun q hq => ?_, by simp⟩, by simp, fun _ => ?_, fun hx => absurd rfl hx⟩
  rotate_left
  · simp only [List.mem_singleton] at hq; subst hq
    exact ⟨by simp, by simpa using hpos, by simp, by simp⟩
  · have : sfx cs ⟨0, 0⟩ = chn cs 0 := by simp [sfx]
    simp only [List.reverse_cons, List.reverse_nil, List.nil_append, Jst, this]
    rw [← J_fix hcn hsf 0]
    split
    · rename_i e; rw [e]
    · rfl
  rintro ⟨xs, vis, d⟩ next ⟨hst, hvl, h5, hd⟩ hn
  simp only at hst hvl h5 hd
  unfold jnW
  refine ifW_of (fun hlen => ?_) (fun hlen => ifW_of (fun hx => by simp at hx) (fun _ => ?_))
  rotate_left
  · have hx0 : xs = [] := by simp at hlen; exact hlen
    by_cases e : d = 5
    · have := h5 e
      rw [hx0] at this
      simp only [List.reverse_nil, Jst] at this
      rw [e, this]
      exact h _ _
    · rw [hd e]; exact h _ _
  refine ifW_of (fun h5' => ?_) (fun h5' => ?_)
  rotate_left
  · have e : d ≠ 5 := by simpa using h5'
    rw [hd e]; exact h _ _
  have e5 : d = 5 := by simpa using h5'
  subst e5
  clear hd
  have hJ := h5 rfl
  clear h5
  obtain ⟨ys, q, rfl⟩ := snoc_cases xs (by have h' : (0 : Int) < (xs.length : Int) := of_decide_eq_true hlen; omega)
  have hll := hst.len hsf
  obtain ⟨q0, q1, q2, q3⟩ := hst.1 q (by simp)
  simp only [List.length_append, List.length_cons, List.length_nil] at hll
  have hchn := chn_get q1
  obtain ⟨h8, hrv⟩ := htg _ (List.getElem_mem q1)
  refine subW_of (by simp <;> omega) (by simp <;> omega) (idxW_of ys.length (by simp) (by simp) ?_)
  rw [show (ys ++ [q])[ys.length]'(by simp) = q by simp]
  refine idxW_of q.xChain.toNat (by omega) q1 ?_
  rw [← hchn]
  rw [← hchn] at h8 hrv
  have hrev : (ys ++ [q]).reverse = q :: ys.reverse := by simp
  rw [hrev] at hJ
  have hset : ∀ q' : GPlace, (ys ++ [q]).set ((((ys ++ [q]).length : Int) - 1)).toNat q' = ys ++ [q'] := by
    intro q'
    have : ((((ys ++ [q]).length : Int) - 1)).toNat = ys.length := by simp
    rw [this, List.set_append_right _ _ (Nat.le_refl _)]; simp
  -- the next state
  have go : ∀ (xs' : List GPlace) (vis' : List GVisit), St cs xs' → vis'.length ≤ 200 → Jst cs p xs'.reverse = J cs p 0 → wst cs xs' < wst cs (ys ++ [q]) → next (xs', vis', 5) := fun xs' vis' a b c d => hn _ ⟨a, b, fun _ => c, fun hx => absurd rfl hx⟩ (by simp only [if_true]; omega)
  refine ifW_of (fun hx => ?_) (fun hx => ?_)
  · have e : q.xNext = ((chn cs q.xChain.toNat).length : Int) := by simpa using hx
    have hs0 : sfx cs q = [] := List.drop_eq_nil_of_le (by omega)
    refine S_leave (by omega) (go ys vis hst.drop hvl ?_ ?_)
    · simp only [Jst, hs0, jl, if_true] at hJ; exact hJ
    · rw [wst_snoc, hs0, wt_nil]; omega
  · have e : q.xNext ≠ ((chn cs q.xChain.toNat).length : Int) := by simpa using hx
    have hlt : q.xNext.toNat < (chn cs q.xChain.toNat).length := by omega
    obtain ⟨hr, hrc⟩ := hrv _ (List.getElem_mem hlt)
    have hmem : (chn cs q.xChain.toNat)[q.xNext.toNat] ∈ chn cs q.xChain.toNat := List.getElem_mem hlt
    have hok' : okP cs ⟨q.xChain, q.xNext + 1⟩ := ⟨q0, q1, by simp only; omega, by simp only; omega⟩
    have hs1 : sfx cs q = (chn cs q.xChain.toNat)[q.xNext.toNat] :: sfx cs ⟨q.xChain, q.xNext + 1⟩ := by
      unfold sfx
      rw [List.drop_eq_getElem_cons hlt]
      simp only
      rw [show (q.xNext + 1).toNat = q.xNext.toNat + 1 by omega]
    generalize hrr : (chn cs q.xChain.toNat)[q.xNext.toNat] = r at *
    have hw0 := wst_snoc cs ys q
    rw [hs1, wt_cons] at hw0
    simp only [Jst, hs1, jl] at hJ
    have hmv : St cs (ys ++ [⟨q.xChain, q.xNext + 1⟩]) := hst.move hok' rfl
    have hstay : ∀ vis' : List GVisit, vis'.length ≤ 200 → (if jl p (J cs p) (sfx cs ⟨q.xChain, q.xNext + 1⟩) = 5 then Jst cs p ys.reverse else jl p (J cs p) (sfx cs ⟨q.xChain, q.xNext + 1⟩)) = J cs p 0 → next (ys ++ [⟨q.xChain, q.xNext + 1⟩], vis', 5) := by
      intro vis' hv' hj
      refine go _ vis' hmv hv' ?_ ?_
      · simp only [List.reverse_append, List.reverse_cons, List.reverse_nil, List.nil_append, List.singleton_append, Jst]; exact hj
      · rw [wst_snoc, hw0]; omega
    have ir : ∀ (K : GRule → Prop), K r → idxW (chn cs q.xChain.toNat) q.xNext K := fun K hK => idxW_of q.xNext.toNat (by omega) hlt (by rw [hrr]; exact hK)
    refine addW_of (by omega) (by omega) (ir _ (S_impl_allHold (by have := hr.1.2; omega) hr.1.1 ?_))
    rw [hset]
    refine ifW_of (fun hx => ?_) (fun hx => ?_)
    · have hf : ft r.xTests p = false := by simpa using hx
      rw [hf] at hJ
      exact hstay vis hvl (by simpa using hJ)
    · have hf : ft r.xTests p = true := by simpa using hx
      rw [hf] at hJ
      simp only [if_true] at hJ
      have core : ∀ vis' : List GVisit, vis'.length ≤ 200 → idxW (chn cs q.xChain.toNat) q.xNext (fun e191 => L_impl_actionOf e191 (fun r197 => IAction.casesW r197 (fun x198 => L_impl_deciding_walk x198 (ys ++ [⟨q.xChain, q.xNext + 1⟩]) vis' 5 (fun r202 => next (ys ++ [⟨q.xChain, q.xNext + 1⟩], vis', r202))) (fun x199 => L_impl_calling_walk x199 (ys ++ [⟨q.xChain, q.xNext + 1⟩]) vis' 5 (fun r203 => next (r203, vis', 5))) (fun x200 => L_impl_returning_walk (GReturning.mk ) (ys ++ [⟨q.xChain, q.xNext + 1⟩]) vis' 5 (fun r206 => next (r206, vis', 5))) (fun x201 => L_impl_passing_walk (GPassing.mk ) (ys ++ [⟨q.xChain, q.xNext + 1⟩]) vis' 5 (fun _ => next (ys ++ [⟨q.xChain, q.xNext + 1⟩], vis', 5))))) := by
        intro vis' hv'
        refine ir _ ?_
        have dec : ∀ d : Int, d ≠ 5 → d = J cs p 0 → next (ys ++ [⟨q.xChain, q.xNext + 1⟩], vis', d) := fun d hd5 hd => hn _ ⟨hmv, hv', fun e => absurd e hd5, fun _ => hd⟩ (by simp only [if_neg hd5, if_true]; omega)
        unfold L_impl_actionOf
        by_cases h1 : r.xAction = 1
        · rw [if_pos h1] at hJ
          refine ifW_of (fun _ => ?_) (fun hx => by simp at hx; exact absurd h1 hx)
          dsimp only [IAction.casesW]
          unfold L_impl_deciding_walk
          exact ifW_of (fun _ => dec 1 (by decide) (by simpa using hJ)) (fun hx => by simp at hx)
        · rw [if_neg h1] at hJ
          refine ifW_of (fun hx => by simp at hx; exact absurd hx h1) (fun _ => ?_)
          by_cases h2 : r.xAction = 2
          · rw [if_pos h2] at hJ
            refine ifW_of (fun _ => ?_) (fun hx => by simp at hx; exact absurd h2 hx)
            dsimp only [IAction.casesW]
            unfold L_impl_deciding_walk
            exact ifW_of (fun hx => by simp at hx) (fun _ => dec 2 (by decide) (by simpa using hJ))
          · rw [if_neg h2] at hJ
            refine ifW_of (fun hx => by simp at hx; exact absurd hx h2) (fun _ => ?_)
            by_cases h3 : r.xAction = 3
            · have h4 : r.xAction ≠ 4 := by omega
              rw [if_neg h4, if_pos h3] at hJ
              rw [if_pos h3] at hw0
              refine ifW_of (fun _ => ?_) (fun hx => by simp at hx; exact absurd h3 hx)
              dsimp only [IAction.casesW]
              unfold L_impl_calling_walk jnW
              have hch := hr.2.2.2.1 h3
              have hca : Ca cs q.xChain.toNat r.xChain.toNat := ca_mem hmem h3 hch.1
              have hcl : r.xChain.toNat < cs.length := by have := hrc; omega
              refine appW_of (by simp; omega) (go _ vis' (hmv.push ⟨hch.1, hcl, by simp, by simp⟩ hca) hv' ?_ ?_)
              · have hs2 : sfx cs ⟨r.xChain, 0⟩ = chn cs r.xChain.toNat := by simp [sfx]
                simp only [List.reverse_append, List.reverse_cons, List.reverse_nil, List.nil_append, List.singleton_append, List.cons_append, Jst, hs2]
                rw [← J_fix hcn hsf]
                by_cases hj5 : J cs p r.xChain.toNat = 5
                · rw [if_pos hj5] at hJ ⊢; exact hJ
                · rw [if_neg hj5] at hJ ⊢
                  rw [if_neg hj5] at hJ; exact hJ
              · have hs2 : sfx cs ⟨r.xChain, 0⟩ = chn cs r.xChain.toNat := by simp [sfx]
                have hhh : Hh cs (jN cs) r.xChain.toNat := jN_ok hsf q.xChain.toNat _ hca
                rw [wst_snoc, wst_snoc, hs2, wt_stab hcn hhh, hw0]; omega
            · refine ifW_of (fun hx => by simp at hx; exact absurd hx h3) (fun _ => ?_)
              by_cases h4 : r.xAction = 4
              · rw [if_pos h4] at hJ
                refine ifW_of (fun _ => ?_) (fun hx => by simp at hx; exact absurd h4 hx)
                dsimp only [IAction.casesW]
                unfold L_impl_returning_walk
                refine S_leave (by omega) (go ys vis' hst.drop hv' (by simpa using hJ) ?_)
                rw [hw0]; omega
              · rw [if_neg h4, if_neg h3] at hJ
                refine ifW_of (fun hx => by simp at hx; exact absurd hx h4) (fun _ => ?_)
                dsimp only [IAction.casesW]
                unfold L_impl_passing_walk
                exact hstay vis' hv' hJ
      refine ifW_of (fun h2 => appW_of (by simp; omega) (core _ (by simp at h2 ⊢; omega))) (fun _ => core _ hvl)
theorem S_judgeValid {s : GRuleset} {p : GPacket} (hv : SV s) {κ : Bool → Prop} (h : κ (jdg s p)) : L_impl_judgeValid s p κ := by
  unfold L_impl_judgeValid
  refine S_walkThrough (p := p) hv (fun st vis => ?_)
  unfold jdg at h
  show ifW _ _ _
  refine ifW_of (fun hx => ?_) (fun hx => ifW_of (fun hy => ?_) (fun hy => ?_))
  · have e : J s.xChains p 0 = 1 := by simpa using hx
    rw [if_pos e] at h; exact h
  · have e : J s.xChains p 0 = 2 := by simpa using hy
    rw [if_neg (by omega), if_pos e] at h; exact h
  · have e1 : ¬ J s.xChains p 0 = 1 := by simpa using hx
    have e2 : ¬ J s.xChains p 0 = 2 := by simpa using hy
    rw [if_neg e1, if_neg e2] at h; exact h
end
section


/-! draws -/
/-! the program's other functions -/
theorem S_KnownFlow {l : List GFlow} {p : GPacket} {now : Int} (h1 : fvP l) (h2 : pv p) (h3 : tv now) {κ : Int → Prop} (h : κ (known l p now)) : L_impl_KnownFlow l p now κ := by
  unfold L_impl_KnownFlow
  refine S_indexFlows (fun m _ hm => ?_) (fun hno => absurd h1 hno)
  unfold jnW
  simp only [Bool.not_true, ifW_false]
  refine S_PacketValid ?_
  rw [decide_eq_true h2]
  simp only [Bool.not_true, ifW_false]
  refine S_timeValid ?_
  rw [decide_eq_true h3]
  simp only [Bool.not_true, ifW_false]
  exact S_known (hm p) h
/-! the exact law -/
theorem S_toPacket {p : GPacket} {κ : GPacket → Prop} (h : κ p) : L_laws_toPacket p κ := h

end
section


/-! judging many packets -/
/-! draws -/
/-! one packet -/
def passV (s : GRuleset) (l : List GFlow) (p : GPacket) (now life : Int) : Prop := SV s ∧ fvP l ∧ pv p ∧ tv now ∧ lv life
noncomputable def ps (s : GRuleset) (l : List GFlow) (p : GPacket) (now life : Int) : List GFlow × Bool :=
  if known l p now < 0 ∧ jdg s p = false then (notExp l now, false) else ((track l p now life).1, true)
theorem track_fvP {l : List GFlow} {p : GPacket} {now life : Int} (hv : trackV l p now life) : fvP (track l p now life).1 := by
  cases e : track l p now life with
  | mk A ok =>
    cases ok
    · have := (track_full e).1
      simp only; rw [this]; exact notExp_ok hv.1 now
    · exact (track_ok hv e).1
theorem ps_fvP {s : GRuleset} {l : List GFlow} {p : GPacket} {now life : Int} (hv : passV s l p now life) : fvP (ps s l p now life).1 := by
  unfold ps
  split
  · exact notExp_ok hv.2.1 now
  · exact track_fvP ⟨hv.2.1, hv.2.2.1, hv.2.2.2.1, hv.2.2.2.2⟩
theorem S_pass {s : GRuleset} {l : List GFlow} {p : GPacket} {now life : Int} (hv : passV s l p now life) {κ : Bool × List GFlow → Prop} (h : κ ((ps s l p now life).2, (ps s l p now life).1)) : L_impl_tracker_pass s.xChains s.xAccept l life p now κ := by
  obtain ⟨h1, h2, h3, h4, h5⟩ := hv
  unfold L_impl_tracker_pass jnW
  unfold ps at h
  have track2 : (¬ (known l p now < 0 ∧ jdg s p = false)) → L_impl_trackValid l p now life (fun (r83, r85) => κ (true, r83)) := by
    intro hn
    rw [if_neg hn] at h
    refine S_trackValid h2 h4 h5 (fun A ok e => ?_)
    rw [e] at h; exact h
  refine S_KnownFlow h2 h3 h4 (ifW_of (fun hk => ?_) (fun hk => ifW_of (fun e => by cases e) (fun _ => track2 (fun hh => ?_))))
  · refine S_judgeValid (s := ⟨s.xChains, s.xAccept⟩) h1 (ifW_of (fun hj => ?_) (fun hj => track2 (fun hh => ?_)))
    · rw [if_pos ⟨by simpa using hk, by simpa using hj⟩] at h
      exact S_notExpired (by have := h2.1; omega) h
    · rw [hh.2] at hj; cases hj
  · have := hh.1; simp at hk; omega
theorem S_spec_PassPacket {s : GRuleset} {l : List GFlow} {p : GPacket} {now life : Int} (hb : Bd s) (hl : l.length ≤ 4294967296) {κ : List GFlow × Bool → Prop} (hy : passV s l p now life → κ ((ps s l p now life).1, (ps s l p now life).2)) (hn : ¬ passV s l p now life → κ ([], false)) : L_spec_PassPacket s l p now life κ := by
  unfold L_spec_PassPacket jnW
  have core : passV s l p now life → L_spec_KnownFlow l p now (fun r82 => ifW (decide (r82 < 0)) (L_spec_Judge s p (fun r83 => ifW (!r83) (L_spec_ExpireFlows l now (fun r146 => κ (r146, false))) (L_spec_TrackFlow l p now life (fun (r149, r152) => κ (r149, true))))) (ifW false (L_spec_ExpireFlows l now (fun r146 => κ (r146, false))) (L_spec_TrackFlow l p now life (fun (r149, r152) => κ (r149, true))))) := by
    intro hv
    have h := hy hv
    obtain ⟨h1, h2, h3, h4, h5⟩ := hv
    unfold ps at h
    have track2 : (¬ (known l p now < 0 ∧ jdg s p = false)) → L_spec_TrackFlow l p now life (fun (r149, r152) => κ (r149, true)) := by
      intro hn'
      rw [if_neg hn'] at h
      refine S_specTrack hl (fun _ A ok e => ?_) (fun hh => absurd ⟨h2, h3, h4, h5⟩ hh)
      rw [e] at h; exact h
    refine S_specKnown hl (fun _ _ _ => ifW_of (fun hk => ?_) (fun hk => ifW_of (fun e => by cases e) (fun _ => track2 (fun hh => ?_)))) (fun hh => absurd ⟨h2, h3, h4⟩ hh)
    · refine S_spec_Judge hb (fun _ _ => ifW_of (fun hj => ?_) (fun hj => track2 (fun hh => ?_))) (fun hh => absurd ⟨h1, h3⟩ hh)
      · rw [if_pos ⟨by simpa using hk, by simpa using hj⟩] at h
        exact S_specExpire hl (fun _ _ => h) (fun hh => absurd ⟨h2, h4⟩ hh)
      · rw [hh.2] at hj; cases hj
    · have := hh.1; simp at hk; omega
  have bad : ∀ {X : Prop}, ¬ passV s l p now life → ∀ t : Bool, t = true → ifW t (κ ([], false)) X := fun hh t ht => by rw [ht]; exact ifW_of (fun _ => hn hh) (fun e => by cases e)
  refine S_spec_RulesetValid hb (fun b hbv => ifW_of (fun hx => bad (fun hh => ?_) _ rfl) (fun hx => S_specFlowsValid hl (ifW_of (fun h2 => bad (fun hh => ?_) _ rfl) (fun h2 => S_specPacketValid (ifW_of (fun h3 => bad (fun hh => ?_) _ rfl) (fun h3 => S_l1In (ifW_of (fun h4 => bad (fun hh => ?_) _ rfl) (fun h4 => S_l1In (ifW_of (fun h5 => hn (fun hh => ?_)) (fun h5 => ?_))))))))))
  · rw [hbv.2 hh.1] at hx; cases hx
  · rw [decide_eq_true hh.2.1] at h2; cases h2
  · rw [decide_eq_true hh.2.2.1] at h3; cases h3
  · have := hh.2.2.2.1; unfold tv at this; rw [decide_eq_true this] at h4; cases h4
  · have := hh.2.2.2.2; unfold lv at this; rw [decide_eq_true this] at h5; cases h5
  · exact core ⟨hbv.1 (by simpa using hx), by simpa using h2, by simpa using h3, by unfold tv; simpa using h4, by unfold lv; simpa using h5⟩


end
section


/-! answers -/
def ansV (s : GRuleset) (p : GPacket) (life later : Int) : Prop := SV s ∧ pv p ∧ lv life ∧ 0 ≤ later ∧ later ≤ life
theorem track_nil {p : GPacket} {now life : Int} : track [] p now life = ([⟨p, min (now + life) 1000000⟩], true) := by
  simp [track, notExp, known]
theorem fvP_nil : fvP [] := ⟨by simp, by simp, by simp⟩
theorem passV_first {s : GRuleset} {p : GPacket} {life later : Int} (h : ansV s p life later) : passV s [] p 0 life := ⟨h.1, fvP_nil, h.2.1, by unfold tv; omega, h.2.2.1⟩
theorem ps_true {s : GRuleset} {l : List GFlow} {p : GPacket} {now life : Int} (h : (ps s l p now life).2 = true) : (ps s l p now life).1 = (track l p now life).1 := by
  unfold ps at h ⊢
  split
  · rename_i hc; rw [if_pos hc] at h; cases h
  · rfl
theorem ans_true {s : GRuleset} {p : GPacket} {life later : Int} (h : ansV s p life later) (hp : (ps s [] p 0 life).2 = true) : passV s (ps s [] p 0 life).1 (rev p) later life ∧ (ps s (ps s [] p 0 life).1 (rev p) later life).2 = true := by
  have hv := passV_first h
  have hf := ps_fvP hv
  rw [ps_true hp, track_nil] at hf ⊢
  obtain ⟨h1, h2, ⟨l0, l1⟩, h4, h5⟩ := h
  refine ⟨⟨h1, hf, pv_rev h2, by unfold tv; omega, l0, l1⟩, ?_⟩
  have hk := known_at hf (p := rev p) (i := 0) (by simp) (by rw [hit_rev]; simp [hit]) later
  unfold ps
  have hm : min (0 + life) 1000000 = life := by omega
  rw [hk, if_neg]
  simp only [List.getElem_cons_zero, hm]
  rw [if_neg (by omega)]
  simp
theorem S_impl_AnswersPass {s : GRuleset} {p : GPacket} {life later : Int} (hb : Bd s) {κ : Bool → Prop} (hy : ansV s p life later → κ true) (hn : ¬ ansV s p life later → κ false) : L_impl_AnswersPass s p life later κ := by
  unfold L_impl_AnswersPass jnW
  have bad : ∀ {X : Prop}, ¬ ansV s p life later → ∀ t : Bool, t = true → ifW t (κ false) X := fun hh t ht => by rw [ht]; exact ifW_of (fun _ => hn hh) (fun e => by cases e)
  have core : ansV s p life later → L_impl_tracker_pass s.xChains s.xAccept ([]) life p 0 (fun (r77, r78) => ifW (!r77) (κ true) (L_impl_Packet_reverse p (fun r81 => L_impl_tracker_pass s.xChains s.xAccept r78 life r81 later (fun (r82, r83) => κ r82)))) := by
    intro hv
    refine S_pass (passV_first hv) (ifW_of (fun _ => hy hv) (fun hx => ?_))
    have hp : (ps s [] p 0 life).2 = true := by simpa using hx
    obtain ⟨a, b⟩ := ans_true hv hp
    unfold L_impl_Packet_reverse
    have := S_pass a (κ := fun (r82, r83) => κ r82) (by show κ _; rw [b]; exact hy hv)
    exact this
  refine S_impl_RulesetValid hb (fun b hbv => ifW_of (fun hx => bad (fun hh => ?_) _ rfl) (fun hx => S_PacketValid (ifW_of (fun h3 => bad (fun hh => ?_) _ rfl) (fun h3 => S_lifeValid (ifW_of (fun h5 => bad (fun hh => ?_) _ rfl) (fun h5 => ifW_of (fun h6 => bad (fun hh => ?_) _ rfl) (fun h6 => ifW_of (fun h7 => hn (fun hh => ?_)) (fun h7 => ?_))))))))
  · rw [hbv.2 hh.1] at hx; cases hx
  · rw [decide_eq_true hh.2.1] at h3; cases h3
  · rw [decide_eq_true hh.2.2.1] at h5; cases h5
  · have := hh.2.2.2.1; simp at h6; omega
  · have := hh.2.2.2.2; simp at h7; omega
  · exact core ⟨hbv.1 (by simpa using hx), by simpa using h3, by simpa using h5, by simpa using h6, by simpa using h7⟩
theorem S_spec_AnswersPass {s : GRuleset} {p : GPacket} {life later : Int} (hb : Bd s) {κ : Bool → Prop} (hy : ansV s p life later → κ true) (hn : ¬ ansV s p life later → κ false) : L_spec_AnswersPass s p life later κ := by
  unfold L_spec_AnswersPass jnW
  have bad : ∀ {X : Prop}, ¬ ansV s p life later → ∀ t : Bool, t = true → ifW t (κ false) X := fun hh t ht => by rw [ht]; exact ifW_of (fun _ => hn hh) (fun e => by cases e)
  have core : ansV s p life later → L_spec_PassPacket s ([]) p 0 life (fun (r78, r81) => ifW (!r81) (κ true) (L_spec_ReversePacket p (fun r82 => L_spec_PassPacket s r78 r82 later life (fun (r83, r86) => κ r86)))) := by
    intro hv
    refine S_spec_PassPacket hb (by simp) (fun _ => ifW_of (fun _ => hy hv) (fun hx => ?_)) (fun hh => absurd (passV_first hv) hh)
    have hp : (ps s [] p 0 life).2 = true := by simpa using hx
    obtain ⟨a, b⟩ := ans_true hv hp
    have hl := a.2.1.1
    refine S_specReverse ?_
    rw [if_pos hv.2.1]
    refine S_spec_PassPacket hb (by omega) (fun _ => ?_) (fun hh => absurd a hh)
    show κ _
    rw [b]; exact hy hv
  refine S_spec_RulesetValid hb (fun b hbv => ifW_of (fun hx => bad (fun hh => ?_) _ rfl) (fun hx => S_specPacketValid (ifW_of (fun h3 => bad (fun hh => ?_) _ rfl) (fun h3 => S_l1In (ifW_of (fun h5 => bad (fun hh => ?_) _ rfl) (fun h5 => S_l1In (ifW_of (fun h6 => hn (fun hh => ?_)) (fun h6 => ?_))))))))
  · rw [hbv.2 hh.1] at hx; cases hx
  · rw [decide_eq_true hh.2.1] at h3; cases h3
  · have := hh.2.2.1; unfold lv at this; rw [decide_eq_true this] at h5; cases h5
  · rw [decide_eq_true hh.2.2.2] at h6; cases h6
  · exact core ⟨hbv.1 (by simpa using hx), by simpa using h3, by unfold lv; simpa using h5, by simpa using h6⟩

/-! many packets -/
end
section

theorem pureFnExactAnswersPass (s : GRuleset) (p : GPacket) (life later : Int) (hl : okRs s) : L_laws_FnExactAnswersPass s p life later (fun x => x = true) := by
  unfold L_laws_FnExactAnswersPass
  refine S_szRuleset hl (by decide) (by decide) (ifW_of (fun _ => rfl) (fun hx => by simp at hx)) (fun r r0 r1 hb => ifW_of (fun hx => by simp at hx; omega) (fun _ => ?_))
  have hbd := hb.bd
  have fin : ∀ v : Bool, ifW (!(decide (v = v))) (false = true) (L_laws_toRuleset s (fun r28 => L_laws_eqRuleset s r28 (fun r32 => ifW (!r32) (false = true) (true = true)))) := by
    intro v
    refine ifW_of (fun hx => by simp at hx) (fun _ => toRuleset_of hb (eqRuleset_self hb ?_))
    simp
  by_cases hv : ansV s p life later
  · exact toRuleset_of hb (S_toPacket (S_spec_AnswersPass hbd (fun _ => toRuleset_of hb (S_toPacket (S_impl_AnswersPass hbd (fun _ => fin true) (fun hn => absurd hv hn)))) (fun hn => absurd hv hn)))
  · exact toRuleset_of hb (S_toPacket (S_spec_AnswersPass hbd (fun h => absurd h hv) (fun _ => toRuleset_of hb (S_toPacket (S_impl_AnswersPass hbd (fun h => absurd h hv) (fun _ => fin false))))))
end
section
open Go.RowKit
theorem arr138 : arrB Tryd.prog 138 = some (4, 3, false, 1) := by kernel_rfl
theorem arr148 : arrB Tryd.prog 148 = some (5, 4, false, 1) := by kernel_rfl
theorem arr149 : arrB Tryd.prog 149 = some (5, 3, false, 1) := by kernel_rfl
theorem arr169 : arrB Tryd.prog 169 = some (4, 168, true, 2) := by kernel_rfl
theorem bld110 : bldB Tryd.prog 110 = some (#[(0, 4), (4, 1)], [(.int .i64 0), (.int .i64 0), (.int .i64 0), (.int .i64 0), (.int .i64 0)]) := by kernel_rfl
theorem bld130 : bldB Tryd.prog 130 = some (#[(0, 1), (1, 1), (2, 1)], [(.slice none 0 0), (.slice none 0 0), (.int .i64 0)]) := by kernel_rfl
theorem bld138 : bldA Tryd.prog 138 = some (1, [(.int .i64 0), (.int .i64 0), (.int .i64 0), (.int .i64 0)]) := by kernel_rfl
theorem bld153 : bldB Tryd.prog 153 = some (#[(0, 1), (1, 1)], [(.int .i64 0), (.int .i64 0)]) := by kernel_rfl
theorem bld157 : bldB Tryd.prog 157 = some (#[(0, 1), (1, 1)], [(.int .i64 0), (.int .i64 0)]) := by kernel_rfl
theorem bld178 : bldB Tryd.prog 178 = some (#[(0, 1)], [(.bool false)]) := by kernel_rfl
theorem bld180 : bldB Tryd.prog 180 = some (#[(0, 1)], [(.int .i64 0)]) := by kernel_rfl
theorem bld182 : bldB Tryd.prog 182 = some (#[], []) := by kernel_rfl
theorem bld183 : bldB Tryd.prog 183 = some (#[], []) := by kernel_rfl
theorem bld40 : bldB Tryd.prog 40 = some (#[(0, 1), (1, 1), (2, 1), (3, 1)], [(.int .i64 0), (.int .i64 0), (.int .i64 0), (.int .i64 0)]) := by kernel_rfl
theorem bld91 : bldB Tryd.prog 91 = some (#[(0, 2), (2, 1), (3, 1)], [(.slice none 0 0), (.bool false), (.slice none 0 0), (.int .i64 0)]) := by kernel_rfl
theorem el101 : elB Tryd.prog 101 = some (104, 3, 40) := by kernel_rfl
theorem el102 : elB Tryd.prog 102 = some (173, 4, 32) := by kernel_rfl
theorem el127 : elB Tryd.prog 127 = some (153, 2, 16) := by kernel_rfl
theorem el128 : elB Tryd.prog 128 = some (157, 2, 16) := by kernel_rfl
theorem el136 : elB Tryd.prog 136 = some (165, 3, 40) := by kernel_rfl
theorem el163 : elB Tryd.prog 163 = some (191, 4, 32) := by kernel_rfl
theorem el23 : elB Tryd.prog 23 = some (101, 1, 24) := by kernel_rfl
theorem el32 : elB Tryd.prog 32 = some (136, 1, 24) := by kernel_rfl
theorem el50 : elB Tryd.prog 50 = some (4, 1, 1) := by kernel_rfl
theorem el53 : elB Tryd.prog 53 = some (110, 5, 40) := by kernel_rfl
theorem el99 : elB Tryd.prog 99 = some (3, 1, 8) := by kernel_rfl
theorem eqls40 (x y : Operand) (a0 : Int) (a1 : Int) (a2 : Int) (a3 : Int) (b0 : Int) (b1 : Int) (b2 : Int) (b3 : Int) (w : World) : (do eqGuard .eql 40 x y (.agg #[(.int .i64 a0), (.int .i64 a1), (.int .i64 a2), (.int .i64 a3)]) (.agg #[(.int .i64 b0), (.int .i64 b1), (.int .i64 b2), (.int .i64 b3)]); binOp .eql 40 (.agg #[(.int .i64 a0), (.int .i64 a1), (.int .i64 a2), (.int .i64 a3)]) (.agg #[(.int .i64 b0), (.int .i64 b1), (.int .i64 b2), (.int .i64 b3)]) : Sem Value).run Tryd.prog w = .ok (.bool (decide ((GPacket.mk a0 a1 a2 a3) = (GPacket.mk b0 b1 b2 b3)))) w := by
  simp [go_sem, binOp, Op.equal, Op.maxDepth]
  repeat' split
  all_goals simp_all
theorem fld104_0 : fldB Tryd.prog 104 0 = some (0, false, 1) := by kernel_rfl
theorem fld104_1 : fldB Tryd.prog 104 1 = some (1, false, 1) := by kernel_rfl
theorem fld104_2 : fldB Tryd.prog 104 2 = some (2, false, 1) := by kernel_rfl
theorem fld110_0 : fldB Tryd.prog 110 0 = some (0, true, 4) := by kernel_rfl
theorem fld110_1 : fldB Tryd.prog 110 1 = some (4, false, 1) := by kernel_rfl
theorem fld130_0 : fldB Tryd.prog 130 0 = some (0, false, 1) := by kernel_rfl
theorem fld130_1 : fldB Tryd.prog 130 1 = some (1, false, 1) := by kernel_rfl
theorem fld130_2 : fldB Tryd.prog 130 2 = some (2, false, 1) := by kernel_rfl
theorem fld153_0 : fldB Tryd.prog 153 0 = some (0, false, 1) := by kernel_rfl
theorem fld153_1 : fldB Tryd.prog 153 1 = some (1, false, 1) := by kernel_rfl
theorem fld165_0 : fldB Tryd.prog 165 0 = some (0, false, 1) := by kernel_rfl
theorem fld165_1 : fldB Tryd.prog 165 1 = some (1, false, 1) := by kernel_rfl
theorem fld165_2 : fldB Tryd.prog 165 2 = some (2, false, 1) := by kernel_rfl
theorem fld168_1 : fldB Tryd.prog 168 1 = some (1, false, 1) := by kernel_rfl
theorem fld173_0 : fldB Tryd.prog 173 0 = some (0, false, 1) := by kernel_rfl
theorem fld173_1 : fldB Tryd.prog 173 1 = some (1, false, 1) := by kernel_rfl
theorem fld173_2 : fldB Tryd.prog 173 2 = some (2, false, 1) := by kernel_rfl
theorem fld173_3 : fldB Tryd.prog 173 3 = some (3, false, 1) := by kernel_rfl
theorem fld178_0 : fldB Tryd.prog 178 0 = some (0, false, 1) := by kernel_rfl
theorem fld180_0 : fldB Tryd.prog 180 0 = some (0, false, 1) := by kernel_rfl
theorem fld191_0 : fldB Tryd.prog 191 0 = some (0, false, 1) := by kernel_rfl
theorem fld191_1 : fldB Tryd.prog 191 1 = some (1, false, 1) := by kernel_rfl
theorem fld191_2 : fldB Tryd.prog 191 2 = some (2, false, 1) := by kernel_rfl
theorem fld191_3 : fldB Tryd.prog 191 3 = some (3, false, 1) := by kernel_rfl
theorem fld25_0 : fldB Tryd.prog 25 0 = some (0, false, 1) := by kernel_rfl
theorem fld25_1 : fldB Tryd.prog 25 1 = some (1, false, 1) := by kernel_rfl
theorem fld34_0 : fldB Tryd.prog 34 0 = some (0, false, 1) := by kernel_rfl
theorem fld34_1 : fldB Tryd.prog 34 1 = some (1, false, 1) := by kernel_rfl
theorem fld36_0 : fldB Tryd.prog 36 0 = some (0, false, 1) := by kernel_rfl
theorem fld36_1 : fldB Tryd.prog 36 1 = some (1, false, 1) := by kernel_rfl
theorem fld36_2 : fldB Tryd.prog 36 2 = some (2, false, 1) := by kernel_rfl
theorem fld36_3 : fldB Tryd.prog 36 3 = some (3, false, 1) := by kernel_rfl
theorem fld40_0 : fldB Tryd.prog 40 0 = some (0, false, 1) := by kernel_rfl
theorem fld40_1 : fldB Tryd.prog 40 1 = some (1, false, 1) := by kernel_rfl
theorem fld40_2 : fldB Tryd.prog 40 2 = some (2, false, 1) := by kernel_rfl
theorem fld40_3 : fldB Tryd.prog 40 3 = some (3, false, 1) := by kernel_rfl
theorem fld91_0 : fldB Tryd.prog 91 0 = some (0, true, 2) := by kernel_rfl
theorem fld91_1 : fldB Tryd.prog 91 1 = some (2, false, 1) := by kernel_rfl
theorem fld91_2 : fldB Tryd.prog 91 2 = some (3, false, 1) := by kernel_rfl
theorem mapty113 : MapTy Tryd.prog 113 encGPacket := ⟨⟨40, 3, by kernel_rfl, struct_of (by kernel_rfl), fun w => by kernel_rfl, fun a b w => by
  simp [go_sem, Op.equal, Op.maxDepth, encGPacket]
  repeat' split
  all_goals simp_all [GPacket.ext_iff], fun e a w => by kernel_rfl⟩, fun a => by simp [Instr.sameBits, encGPacket]⟩
theorem meth178_walk (v : Value) (w : World) : (method (Tryd.prog.types.size + Made.depth) 178 v "loop.example/packetfilter/impl.walk").run Tryd.prog w = .ok (147, v) w := by kernel_rfl
theorem meth180_walk (v : Value) (w : World) : (method (Tryd.prog.types.size + Made.depth) 180 v "loop.example/packetfilter/impl.walk").run Tryd.prog w = .ok (150, v) w := by kernel_rfl
theorem meth182_walk (v : Value) (w : World) : (method (Tryd.prog.types.size + Made.depth) 182 v "loop.example/packetfilter/impl.walk").run Tryd.prog w = .ok (153, v) w := by kernel_rfl
theorem meth183_walk (v : Value) (w : World) : (method (Tryd.prog.types.size + Made.depth) 183 v "loop.example/packetfilter/impl.walk").run Tryd.prog w = .ok (156, v) w := by kernel_rfl
theorem mki178 : ∀ v w, (Instr.makeInterface 178 v).run Tryd.prog w = .ok (.iface 178 v) w := fun v w => by kernel_rfl
theorem mki180 : ∀ v w, (Instr.makeInterface 180 v).run Tryd.prog w = .ok (.iface 180 v) w := fun v w => by kernel_rfl
theorem mki182 : ∀ v w, (Instr.makeInterface 182 v).run Tryd.prog w = .ok (.iface 182 v) w := fun v w => by kernel_rfl
theorem mki183 : ∀ v w, (Instr.makeInterface 183 v).run Tryd.prog w = .ok (.iface 183 v) w := fun v w => by kernel_rfl
theorem ty101 : tyB Tryd.prog 101 = some (false, 1) := by kernel_rfl
theorem ty102 : tyB Tryd.prog 102 = some (false, 1) := by kernel_rfl
theorem ty104 : tyB Tryd.prog 104 = some (true, 3) := by kernel_rfl
theorem ty110 : tyB Tryd.prog 110 = some (true, 5) := by kernel_rfl
theorem ty127 : tyB Tryd.prog 127 = some (false, 1) := by kernel_rfl
theorem ty128 : tyB Tryd.prog 128 = some (false, 1) := by kernel_rfl
theorem ty136 : tyB Tryd.prog 136 = some (false, 1) := by kernel_rfl
theorem ty138 : tyB Tryd.prog 138 = some (true, 4) := by kernel_rfl
theorem ty148 : tyB Tryd.prog 148 = some (true, 5) := by kernel_rfl
theorem ty163 : tyB Tryd.prog 163 = some (false, 1) := by kernel_rfl
theorem ty165 : tyB Tryd.prog 165 = some (true, 3) := by kernel_rfl
theorem ty173 : tyB Tryd.prog 173 = some (true, 4) := by kernel_rfl
theorem ty191 : tyB Tryd.prog 191 = some (true, 4) := by kernel_rfl
theorem ty23 : tyB Tryd.prog 23 = some (false, 1) := by kernel_rfl
theorem ty25 : tyB Tryd.prog 25 = some (true, 2) := by kernel_rfl
theorem ty3 : tyB Tryd.prog 3 = some (false, 1) := by kernel_rfl
theorem ty32 : tyB Tryd.prog 32 = some (false, 1) := by kernel_rfl
theorem ty34 : tyB Tryd.prog 34 = some (true, 2) := by kernel_rfl
theorem ty36 : tyB Tryd.prog 36 = some (true, 4) := by kernel_rfl
theorem ty4 : tyB Tryd.prog 4 = some (false, 1) := by kernel_rfl
theorem ty40 : tyB Tryd.prog 40 = some (true, 4) := by kernel_rfl
theorem ty53 : tyB Tryd.prog 53 = some (false, 1) := by kernel_rfl
theorem ty91 : tyB Tryd.prog 91 = some (true, 4) := by kernel_rfl
theorem und3 : Tryd.prog.underlying 3 = some (.int .i64) := by kernel_rfl
theorem und4 : Tryd.prog.underlying 4 = some .bool := by kernel_rfl
theorem zero101 : zeroB Tryd.prog 101 = some [(.slice none 0 0)] := by kernel_rfl
theorem zero104 : zeroB Tryd.prog 104 = some [(.slice none 0 0), (.int .i64 0), (.int .i64 0)] := by kernel_rfl
theorem zero110 : zeroB Tryd.prog 110 = some [(.int .i64 0), (.int .i64 0), (.int .i64 0), (.int .i64 0), (.int .i64 0)] := by kernel_rfl
theorem zero128 : zeroB Tryd.prog 128 = some [(.slice none 0 0)] := by kernel_rfl
theorem zero138 : zeroB Tryd.prog 138 = some [(.int .i64 0), (.int .i64 0), (.int .i64 0), (.int .i64 0)] := by kernel_rfl
theorem zero148 : zeroB Tryd.prog 148 = some [(.bool false), (.bool false), (.bool false), (.bool false), (.bool false)] := by kernel_rfl
theorem zero149 : zeroB Tryd.prog 149 = some [(.int .i64 0), (.int .i64 0), (.int .i64 0), (.int .i64 0), (.int .i64 0)] := by kernel_rfl
theorem zero153 : zeroB Tryd.prog 153 = some [(.int .i64 0), (.int .i64 0)] := by kernel_rfl
theorem zero157 : zeroB Tryd.prog 157 = some [(.int .i64 0), (.int .i64 0)] := by kernel_rfl
theorem zero173 : zeroB Tryd.prog 173 = some [(.int .i64 0), (.int .i64 0), (.int .i64 0), (.bool false)] := by kernel_rfl
theorem zero25 : zeroB Tryd.prog 25 = some [(.slice none 0 0), (.bool false)] := by kernel_rfl
theorem zero3 : zeroB Tryd.prog 3 = some [(.int .i64 0)] := by kernel_rfl
theorem zero4 : zeroB Tryd.prog 4 = some [(.bool false)] := by kernel_rfl
theorem zero40 : zeroB Tryd.prog 40 = some [(.int .i64 0), (.int .i64 0), (.int .i64 0), (.int .i64 0)] := by kernel_rfl
theorem zero91 : zeroB Tryd.prog 91 = some [(.slice none 0 0), (.bool false), (.slice none 0 0), (.int .i64 0)] := by kernel_rfl
theorem mixed : Tryd.prog.follows .mixedOrders = true := by kernel_rfl

set_option maxRecDepth 100000 in
set_option maxHeartbeats 8000000 in
theorem w_spec_FieldTop {w0 : World} {F : Nat → Prop} {n_0 : Int} {κ : Int → Prop} (hF : ∀ b, F b → b < w0.heap.size ∧ ¬ feet [] b) (h : L_spec_FieldTop n_0 κ) :
    Calls Tryd.prog 113 #[(.int .i64 n_0)] w0 (Ret [] F w0 κ (fun (r : Int) (u : Unit) => (.int .i64 r)) (fun (r : Int) (u : Unit) => [])) := by
  refine enter0 (args := [(.int .i64 n_0)]) [] hF (Given.nil _ _) Tryd.func113 rfl Tryd.ntmps113 rfl h ?_
  clear h hF
  refine c_seq ?_
  refine c_region ?_
  refine o_as st rfl rfl ?_
  refine c_nil ?_
  refine l_then ?_
  refine c_seq ?_
  refine c_seq ?_
  refine c_region ?_
  refine o_mv st rfl rfl ?_
  refine c_nil ?_
  refine l_then ?_
  refine c_block ?_
  refine c_join (σ := Bool) (fun (t61 : Bool) (a : Act) (w : World) => Has 11 [(3, (.int .i64 n_0)), (4, (.bool t61))] a ∧ Mem (gB F [] w0) (feet []) w0 [] w) ?_ ?_
  · intro k62
    refine c_seq ?_
    refine c_region ?_
    refine o_eql st und3 rfl rfl rfl ?_
    refine o_as st rfl rfl ?_
    refine c_nil ?_
    refine l_then ?_
    refine c_cond rfl ?_ ?_
    · refine c_skip ?_
      exact l_join (decide (n_0 = 0)) (fun a w hE hm => ⟨hE.sub ⟨rfl, rfl, trivial⟩, (hm.pick [] rfl)⟩)
    · refine c_region ?_
      refine o_eql st und3 rfl rfl rfl ?_
      refine o_as st rfl rfl ?_
      refine c_nil ?_
      exact l_join (decide (n_0 = 1)) (fun a w hE hm => ⟨hE.sub ⟨rfl, rfl, trivial⟩, (hm.pick [] rfl)⟩)
  · rintro t61 a w ⟨hE, hm⟩ h
    refine nx_of hE hm h ?_
    clear hE hm h
    refine c_cond rfl ?_ ?_
    · refine c_seq ?_
      refine c_region ?_
      refine o_as st rfl rfl ?_
      refine c_nil ?_
      refine l_then ?_
      refine c_ret ?_
      refine b_ret ?_
      refine l_ret ?_
      exact l_end1 Tryd.results113 65535 () (rv_t rfl) (fun _ _ => NewCh.nil _ _ _ _)
    · refine c_seq ?_
      refine c_region ?_
      refine o_eql st und3 rfl rfl rfl ?_
      refine o_as st rfl rfl ?_
      refine c_nil ?_
      refine l_then ?_
      refine c_cond rfl ?_ ?_
      · refine c_seq ?_
        refine c_region ?_
        refine o_as st rfl rfl ?_
        refine c_nil ?_
        refine l_then ?_
        refine c_ret ?_
        refine b_ret ?_
        refine l_ret ?_
        exact l_end1 Tryd.results113 255 () (rv_t rfl) (fun _ _ => NewCh.nil _ _ _ _)
      · refine c_seq ?_
        refine c_region ?_
        refine o_eql st und3 rfl rfl rfl ?_
        refine o_as st rfl rfl ?_
        refine c_nil ?_
        refine l_then ?_
        refine c_cond rfl ?_ ?_
        · refine c_seq ?_
          refine c_region ?_
          refine o_as st rfl rfl ?_
          refine c_nil ?_
          refine l_then ?_
          refine c_ret ?_
          refine b_ret ?_
          refine l_ret ?_
          exact l_end1 Tryd.results113 7 () (rv_t rfl) (fun _ _ => NewCh.nil _ _ _ _)
        · refine c_skip ?_
          refine b_norm ?_
          refine l_then ?_
          refine c_seq ?_
          refine c_region ?_
          refine o_as st rfl rfl ?_
          refine c_nil ?_
          refine l_then ?_
          refine c_ret ?_
          exact l_end1 Tryd.results113 (-1) () (rv_t rfl) (fun _ _ => NewCh.nil _ _ _ _)

end
section
open Go.RowKit
set_option maxRecDepth 100000 in
set_option maxHeartbeats 8000000 in
theorem w_spec_l1In {w0 : World} {F : Nat → Prop} {n_0 : Int} {lo_1 : Int} {hi_2 : Int} {κ : Bool → Prop} (hF : ∀ b, F b → b < w0.heap.size ∧ ¬ feet [] b) (h : L_spec_l1In n_0 lo_1 hi_2 κ) :
    Calls Tryd.prog 58 #[(.int .i64 n_0), (.int .i64 lo_1), (.int .i64 hi_2)] w0 (Ret [] F w0 κ (fun (r : Bool) (u : Unit) => (.bool r)) (fun (r : Bool) (u : Unit) => [])) := by
  refine enter0 (args := [(.int .i64 n_0), (.int .i64 lo_1), (.int .i64 hi_2)]) [] hF (Given.nil _ _) Tryd.func58 rfl Tryd.ntmps58 rfl h ?_
  clear h hF
  refine c_seq ?_
  refine c_region ?_
  refine o_as st rfl rfl ?_
  refine c_nil ?_
  refine l_then ?_
  refine c_join (σ := Bool) (fun (t61 : Bool) (a : Act) (w : World) => Has 15 [(6, (.bool t61))] a ∧ Mem (gB F [] w0) (feet []) w0 [] w) ?_ ?_
  · intro k62
    refine c_region ?_
    refine o_mv st rfl rfl ?_
    refine o_mv st rfl rfl ?_
    refine o_geq st rfl rfl rfl ?_
    refine o_mv st rfl rfl ?_
    refine st_sp (dj := 10) rfl ?_ ?_
    · refine o_mv (st_g rfl rfl) rfl rfl ?_
      refine o_mv (st_g rfl rfl) rfl rfl ?_
      refine o_leq (st_g rfl rfl) rfl rfl rfl ?_
      refine o_pickT st rfl rfl rfl ?_
      refine o_as st rfl rfl ?_
      refine c_nil ?_
      exact l_join (decide (n_0 ≤ hi_2)) (fun a w hE hm => ⟨hE.sub ⟨rfl, trivial⟩, (hm.pick [] rfl)⟩)
    · refine st_s rfl rfl rfl rfl ?_
      refine st_s rfl rfl rfl rfl ?_
      refine st_s rfl rfl rfl rfl ?_
      refine o_pickF st rfl rfl rfl ?_
      refine o_as st rfl rfl ?_
      refine c_nil ?_
      exact l_join false (fun a w hE hm => ⟨hE.sub ⟨rfl, trivial⟩, (hm.pick [] rfl)⟩)
  · rintro t61 a w ⟨hE, hm⟩ h
    refine nx_of hE hm h ?_
    clear hE hm h
    refine c_ret ?_
    exact l_end1 Tryd.results58 t61 () (rv_t rfl) (fun _ _ => NewCh.nil _ _ _ _)

set_option maxRecDepth 100000 in
set_option maxHeartbeats 8000000 in
theorem w_spec_PacketValid {w0 : World} {F : Nat → Prop} {p_0 : GPacket} {κ : Bool → Prop} (hF : ∀ b, F b → b < w0.heap.size ∧ ¬ feet [] b) (h : L_spec_PacketValid p_0 κ) :
    Calls Tryd.prog 23 #[(.agg #[(.int .i64 p_0.xFrom), (.int .i64 p_0.xTo), (.int .i64 p_0.xPort), (.int .i64 p_0.xProto)])] w0 (Ret [] F w0 κ (fun (r : Bool) (u : Unit) => (.bool r)) (fun (r : Bool) (u : Unit) => [])) := by
  refine enter0 (args := [(.agg #[(.int .i64 p_0.xFrom), (.int .i64 p_0.xTo), (.int .i64 p_0.xPort), (.int .i64 p_0.xProto)])]) [] hF (Given.nil _ _) Tryd.func23 rfl Tryd.ntmps23 rfl h ?_
  clear h hF
  refine c_seq ?_
  refine c_region ?_
  refine stw (o_box rfl rfl [(.int .i64 p_0.xFrom), (.int .i64 p_0.xTo), (.int .i64 p_0.xPort), (.int .i64 p_0.xProto)] rfl ?_); intro b1
  refine o_as st rfl rfl ?_
  refine c_nil ?_
  refine l_then ?_
  refine c_join (σ := Bool) (fun (t67 : Bool) (a : Act) (w : World) => Has 21 [(2, (.bool t67))] a ∧ Mem (gB F [] w0) (feet []) w0 [] w) ?_ ?_
  · intro k68
    refine c_region ?_
    refine o_fad st rfl rfl fld40_0 rfl ?_
    refine o_ldc st (v := (.int .i64 p_0.xFrom)) 0 rfl rfl rfl ty3 rfl ?_
    refine stw (o_callP (vs := [(.int .i64 p_0.xFrom), (.int .i64 0), (.int .i64 65535)]) Tryd.call58 rfl rfl (by intro w m h; exact (w_spec_l1In (F := allB [] w) (n_0 := p_0.xFrom) (lo_1 := 0) (hi_2 := 65535) allB_ok h).mono (fun _ _ k => ret_free (fun r u => fr_nil) k)) ?_); rintro r3 _
    refine o_mv st rfl rfl ?_
    refine st_sp (dj := 6) rfl ?_ ?_
    · refine o_fad (st_g rfl rfl) rfl rfl fld40_1 rfl ?_
      refine o_ldc (st_g rfl rfl) (v := (.int .i64 p_0.xTo)) 0 rfl rfl rfl ty3 rfl ?_
      refine st_gw rfl rfl (o_callP (vs := [(.int .i64 p_0.xTo), (.int .i64 0), (.int .i64 65535)]) Tryd.call58 rfl rfl (by intro w m h; exact (w_spec_l1In (F := allB [] w) (n_0 := p_0.xTo) (lo_1 := 0) (hi_2 := 65535) allB_ok h).mono (fun _ _ k => ret_free (fun r u => fr_nil) k)) ?_); rintro r4 _
      refine o_pickT st rfl rfl rfl ?_
      refine o_mv st rfl rfl ?_
      refine st_sp (dj := 11) rfl ?_ ?_
      · refine o_fad (st_g rfl rfl) rfl rfl fld40_2 rfl ?_
        refine o_ldc (st_g rfl rfl) (v := (.int .i64 p_0.xPort)) 0 rfl rfl rfl ty3 rfl ?_
        refine st_gw rfl rfl (o_callP (vs := [(.int .i64 p_0.xPort), (.int .i64 0), (.int .i64 255)]) Tryd.call58 rfl rfl (by intro w m h; exact (w_spec_l1In (F := allB [] w) (n_0 := p_0.xPort) (lo_1 := 0) (hi_2 := 255) allB_ok h).mono (fun _ _ k => ret_free (fun r u => fr_nil) k)) ?_); rintro r5 _
        refine o_pickT st rfl rfl rfl ?_
        refine o_mv st rfl rfl ?_
        refine st_sp (dj := 16) rfl ?_ ?_
        · refine o_fad (st_g rfl rfl) rfl rfl fld40_3 rfl ?_
          refine o_ldc (st_g rfl rfl) (v := (.int .i64 p_0.xProto)) 0 rfl rfl rfl ty3 rfl ?_
          refine st_gw rfl rfl (o_callP (vs := [(.int .i64 p_0.xProto), (.int .i64 0), (.int .i64 7)]) Tryd.call58 rfl rfl (by intro w m h; exact (w_spec_l1In (F := allB [] w) (n_0 := p_0.xProto) (lo_1 := 0) (hi_2 := 7) allB_ok h).mono (fun _ _ k => ret_free (fun r u => fr_nil) k)) ?_); rintro r6 _
          refine o_pickT st rfl rfl rfl ?_
          refine o_as st rfl rfl ?_
          refine c_nil ?_
          exact l_join r6 (fun a w hE hm => ⟨hE.sub ⟨rfl, trivial⟩, (hm.pick [] rfl)⟩)
        · refine st_s rfl rfl rfl rfl ?_
          refine st_s rfl rfl rfl rfl ?_
          refine st_s rfl rfl rfl rfl ?_
          refine o_pickF st rfl rfl rfl ?_
          refine o_as st rfl rfl ?_
          refine c_nil ?_
          exact l_join false (fun a w hE hm => ⟨hE.sub ⟨rfl, trivial⟩, (hm.pick [] rfl)⟩)
      · refine st_s rfl rfl rfl rfl ?_
        refine st_s rfl rfl rfl rfl ?_
        refine st_s rfl rfl rfl rfl ?_
        refine o_pickF st rfl rfl rfl ?_
        refine o_mv st rfl rfl ?_
        refine st_s rfl rfl rfl rfl ?_
        refine st_s rfl rfl rfl rfl ?_
        refine st_s rfl rfl rfl rfl ?_
        refine o_pickF st rfl rfl rfl ?_
        refine o_as st rfl rfl ?_
        refine c_nil ?_
        exact l_join false (fun a w hE hm => ⟨hE.sub ⟨rfl, trivial⟩, (hm.pick [] rfl)⟩)
    · refine st_s rfl rfl rfl rfl ?_
      refine st_s rfl rfl rfl rfl ?_
      refine st_s rfl rfl rfl rfl ?_
      refine o_pickF st rfl rfl rfl ?_
      refine o_mv st rfl rfl ?_
      refine st_s rfl rfl rfl rfl ?_
      refine st_s rfl rfl rfl rfl ?_
      refine st_s rfl rfl rfl rfl ?_
      refine o_pickF st rfl rfl rfl ?_
      refine o_mv st rfl rfl ?_
      refine st_s rfl rfl rfl rfl ?_
      refine st_s rfl rfl rfl rfl ?_
      refine st_s rfl rfl rfl rfl ?_
      refine o_pickF st rfl rfl rfl ?_
      refine o_as st rfl rfl ?_
      refine c_nil ?_
      exact l_join false (fun a w hE hm => ⟨hE.sub ⟨rfl, trivial⟩, (hm.pick [] rfl)⟩)
  · rintro t67 a w ⟨hE, hm⟩ h
    refine nx_of hE hm h ?_
    clear hE hm h
    refine c_ret ?_
    exact l_end1 Tryd.results23 t67 () (rv_t rfl) (fun _ _ => NewCh.nil _ _ _ _)

set_option maxRecDepth 100000 in
set_option maxHeartbeats 8000000 in
theorem w_spec_ReversePacket {w0 : World} {F : Nat → Prop} {p_0 : GPacket} {κ : GPacket → Prop} (hF : ∀ b, F b → b < w0.heap.size ∧ ¬ feet [] b) (h : L_spec_ReversePacket p_0 κ) :
    Calls Tryd.prog 59 #[(.agg #[(.int .i64 p_0.xFrom), (.int .i64 p_0.xTo), (.int .i64 p_0.xPort), (.int .i64 p_0.xProto)])] w0 (Ret [] F w0 κ (fun (r : GPacket) (u : Unit) => (.agg #[(.int .i64 r.xFrom), (.int .i64 r.xTo), (.int .i64 r.xPort), (.int .i64 r.xProto)])) (fun (r : GPacket) (u : Unit) => [])) := by
  refine enter0 (args := [(.agg #[(.int .i64 p_0.xFrom), (.int .i64 p_0.xTo), (.int .i64 p_0.xPort), (.int .i64 p_0.xProto)])]) [] hF (Given.nil _ _) Tryd.func59 rfl Tryd.ntmps59 rfl h ?_
  clear h hF
  refine c_seq ?_
  refine c_region ?_
  refine stw (o_box rfl rfl [(.int .i64 p_0.xFrom), (.int .i64 p_0.xTo), (.int .i64 p_0.xPort), (.int .i64 p_0.xProto)] rfl ?_); intro b1
  refine stw (o_alloc rfl [(.int .i64 0), (.int .i64 0), (.int .i64 0), (.int .i64 0)] zero40 ?_); intro b3
  refine c_nil ?_
  refine l_then ?_
  refine c_seq ?_
  refine c_seq ?_
  refine c_region ?_
  refine o_ldc st (v := (.agg #[(.int .i64 p_0.xFrom), (.int .i64 p_0.xTo), (.int .i64 p_0.xPort), (.int .i64 p_0.xProto)])) 1 rfl rfl rfl ty40 rfl ?_
  refine stw (o_callP (vs := [(.agg #[(.int .i64 p_0.xFrom), (.int .i64 p_0.xTo), (.int .i64 p_0.xPort), (.int .i64 p_0.xProto)])]) Tryd.call23 rfl rfl (by intro w m h; exact (w_spec_PacketValid (F := allB [] w) (p_0 := p_0) allB_ok h).mono (fun _ _ k => ret_free (fun r u => fr_nil) k)) ?_); rintro r5 _
  refine o_not st rfl rfl ?_
  refine c_nil ?_
  refine l_then ?_
  refine c_cond rfl ?_ ?_
  · refine c_seq ?_
    refine c_region ?_
    refine o_bld st (qs := []) (cells := [(.int .i64 0), (.int .i64 0), (.int .i64 0), (.int .i64 0)]) (by intro ρ h; simp only [List.map_toArray, List.map_cons, List.map_nil]) rfl bld40 rfl ?_
    refine stw (o_stc (cs' := [(.int .i64 0), (.int .i64 0), (.int .i64 0), (.int .i64 0)]) 0 rfl rfl rfl ty40 rfl rfl rfl rfl ?_)
    refine c_nil ?_
    refine l_then ?_
    refine c_ret ?_
    refine l_ret ?_
    exact l_end1 Tryd.results59 (GPacket.mk 0 0 0 0) () (rv_c 0 rfl rfl ty40 rfl) (fun _ _ => NewCh.nil _ _ _ _)
  · refine c_skip ?_
    refine l_then ?_
    refine c_seq ?_
    refine c_region ?_
    refine o_fad st rfl rfl fld40_1 rfl ?_
    refine o_ldc st (v := (.int .i64 p_0.xTo)) 1 rfl rfl rfl ty3 rfl ?_
    refine o_fad st rfl rfl fld40_0 rfl ?_
    refine o_ldc st (v := (.int .i64 p_0.xFrom)) 1 rfl rfl rfl ty3 rfl ?_
    refine o_fad st rfl rfl fld40_2 rfl ?_
    refine o_ldc st (v := (.int .i64 p_0.xPort)) 1 rfl rfl rfl ty3 rfl ?_
    refine o_fad st rfl rfl fld40_3 rfl ?_
    refine o_ldc st (v := (.int .i64 p_0.xProto)) 1 rfl rfl rfl ty3 rfl ?_
    refine o_bld st (qs := [(0, (.int .i64 p_0.xTo)), (1, (.int .i64 p_0.xFrom)), (2, (.int .i64 p_0.xPort)), (3, (.int .i64 p_0.xProto))]) (cells := [(.int .i64 p_0.xTo), (.int .i64 p_0.xFrom), (.int .i64 p_0.xPort), (.int .i64 p_0.xProto)]) (by intro ρ h; simp only [List.map_toArray, List.map_cons, List.map_nil, h (.tmp 8) _ rfl, h (.tmp 10) _ rfl, h (.tmp 12) _ rfl, h (.tmp 14) _ rfl]) rfl bld40 rfl ?_
    refine stw (o_stc (cs' := [(.int .i64 p_0.xTo), (.int .i64 p_0.xFrom), (.int .i64 p_0.xPort), (.int .i64 p_0.xProto)]) 0 rfl rfl rfl ty40 rfl rfl rfl rfl ?_)
    refine c_nil ?_
    refine l_then ?_
    refine c_ret ?_
    exact l_end1 Tryd.results59 (GPacket.mk p_0.xTo p_0.xFrom p_0.xPort p_0.xProto) () (rv_c 0 rfl rfl ty40 rfl) (fun _ _ => NewCh.nil _ _ _ _)

set_option maxRecDepth 100000 in
set_option maxHeartbeats 8000000 in
theorem w_impl_FieldTop {w0 : World} {F : Nat → Prop} {n_0 : Int} {κ : Int → Prop} (hF : ∀ b, F b → b < w0.heap.size ∧ ¬ feet [] b) (hgl0 : Sl elGFieldShape F w0 (.slice (some ⟨0, 0, none⟩) 4 4) gl_impl_fieldShapes) (h : L_impl_FieldTop n_0 κ) :
    Calls Tryd.prog 95 #[(.int .i64 n_0)] w0 (Ret [] F w0 κ (fun (r : Int) (u : Unit) => (.int .i64 r)) (fun (r : Int) (u : Unit) => [])) := by
  refine enterS (args := [(.int .i64 n_0)]) [] hF (Given.nil _ _) Tryd.func95 rfl Tryd.ntmps95 rfl h ?_
  clear h hF
  refine c_seq ?_
  refine c_region ?_
  refine o_as st rfl rfl ?_
  refine c_nil ?_
  refine l_then ?_
  refine c_seq ?_
  refine c_join (σ := Bool) (fun (t61 : Bool) (a : Act) (w : World) => Has 13 [(0, (.int .i64 n_0)), (8, (.bool t61))] a ∧ Mem (gB F [] w0) (feet []) w0 [snapCh w0 F] w) ?_ ?_
  · intro k62
    refine c_region ?_
    refine o_mv st rfl rfl ?_
    refine o_lss st rfl rfl rfl ?_
    refine o_mv st rfl rfl ?_
    refine st_sp (dj := 5) rfl ?_ ?_
    · refine st_s rfl rfl rfl rfl ?_
      refine st_s rfl rfl rfl rfl ?_
      refine o_pickT st rfl rfl rfl ?_
      refine c_nil ?_
      exact l_join true (fun a w hE hm => ⟨hE.sub ⟨rfl, rfl, trivial⟩, (hm.pick [0] rfl)⟩)
    · refine o_mv (st_g rfl rfl) rfl rfl ?_
      refine o_geq (st_g rfl rfl) rfl rfl rfl ?_
      refine o_pickF st rfl rfl rfl ?_
      refine c_nil ?_
      exact l_join (decide (4 ≤ n_0)) (fun a w hE hm => ⟨hE.sub ⟨rfl, rfl, trivial⟩, (hm.pick [0] rfl)⟩)
  · rintro t61 a w ⟨hE, hm⟩ h
    refine nx_of hE hm h ?_
    clear hE hm h
    refine c_cond rfl ?_ ?_
    · refine c_seq ?_
      refine c_region ?_
      refine o_as st rfl rfl ?_
      refine c_nil ?_
      refine l_then ?_
      refine c_ret ?_
      refine l_ret ?_
      exact l_end1 Tryd.results95 (-1) () (rv_t rfl) (fun _ _ => NewCh.nil _ _ _ _)
    · refine c_skip ?_
      refine l_then ?_
      refine c_seq ?_
      refine c_region ?_
      refine o_mv st rfl rfl ?_
      refine o_ixa st 0 rfl (reads_snap hgl0) rfl rfl rfl arr169 ?_; intro e63 h64
      refine o_fadS st 0 rfl (reads_snap hgl0) h64 rfl rfl fld168_1 rfl ?_
      refine o_lds st (enc := encGFieldShape) (u := (.int .i64 e63.xTop)) 0 rfl (reads_snap hgl0) flelGFieldShape rfl h64 rfl rfl ty3 rfl ?_
      refine o_as st rfl rfl ?_
      refine c_nil ?_
      refine l_then ?_
      refine c_ret ?_
      exact l_end1 Tryd.results95 e63.xTop () (rv_t rfl) (fun _ _ => NewCh.nil _ _ _ _)

set_option maxRecDepth 100000 in
set_option maxHeartbeats 8000000 in
theorem w_impl_TestValid {w0 : World} {F : Nat → Prop} {t_0 : GTest} {κ : Bool → Prop} (hF : ∀ b, F b → b < w0.heap.size ∧ ¬ feet [] b) (hgl0 : Sl elGFieldShape F w0 (.slice (some ⟨0, 0, none⟩) 4 4) gl_impl_fieldShapes) (h : L_impl_TestValid t_0 κ) :
    Calls Tryd.prog 124 #[(.agg #[(.int .i64 t_0.xField), (.int .i64 t_0.xLo), (.int .i64 t_0.xHi), (.bool t_0.xNot)])] w0 (Ret [] F w0 κ (fun (r : Bool) (u : Unit) => (.bool r)) (fun (r : Bool) (u : Unit) => [])) := by
  refine enterS (args := [(.agg #[(.int .i64 t_0.xField), (.int .i64 t_0.xLo), (.int .i64 t_0.xHi), (.bool t_0.xNot)])]) [] hF (Given.nil _ _) Tryd.func124 rfl Tryd.ntmps124 rfl h ?_
  clear h hF
  refine c_seq ?_
  refine c_region ?_
  refine stw (o_box rfl rfl [(.int .i64 t_0.xField), (.int .i64 t_0.xLo), (.int .i64 t_0.xHi), (.bool t_0.xNot)] rfl ?_); intro b1
  refine o_as st rfl rfl ?_
  refine c_nil ?_
  refine l_then ?_
  refine c_join (σ := Bool) (fun (t64 : Bool) (a : Act) (w : World) => Has 31 [(2, (.bool t64))] a ∧ Mem (gB F [] w0) (feet []) w0 [snapCh w0 F] w) ?_ ?_
  · intro k65
    refine c_draw mixed 29 rfl [cellCh b1 [(.int .i64 t_0.xField), (.int .i64 t_0.xLo), (.int .i64 t_0.xHi), (.bool t_0.xNot)] 173, snapCh w0 F] ?_
    refine o_fad (dt 0 (fun _ m => m)) rfl rfl fld173_0 rfl ?_
    refine o_ldc (dt 1 (fun _ m => m)) (v := (.int .i64 t_0.xField)) 0 rfl rfl rfl ty3 rfl ?_
    refine o_geq (dt 2 (fun _ m => m)) rfl rfl rfl ?_
    refine o_mv (dt 3 (fun _ m => m)) rfl rfl ?_
    refine st_sp (dj := 6) rfl ?_ ?_
    · refine o_fad (dtg 4 (fun _ m => m)) rfl rfl fld173_0 rfl ?_
      refine o_ldc (dtg 5 (fun _ m => m)) (v := (.int .i64 t_0.xField)) 0 rfl rfl rfl ty3 rfl ?_
      refine o_lss (dtg 6 (fun _ m => m)) rfl rfl rfl ?_
      refine o_pickT (dt 7 (fun _ m => m)) rfl rfl rfl ?_
      refine o_mv (dt 8 (fun _ m => m)) rfl rfl ?_
      refine st_sp (dj := 11) rfl ?_ ?_
      · refine o_fad (dtg 9 (fun _ m => m)) rfl rfl fld173_1 rfl ?_
        refine o_ldc (dtg 10 (fun _ m => m)) (v := (.int .i64 t_0.xLo)) 0 rfl rfl rfl ty3 rfl ?_
        refine o_geq (dtg 11 (fun _ m => m)) rfl rfl rfl ?_
        refine o_pickT (dt 12 (fun _ m => m)) rfl rfl rfl ?_
        refine o_mv (dt 13 (fun _ m => m)) rfl rfl ?_
        refine st_sp (dj := 16) rfl ?_ ?_
        · refine o_fad (dtg 14 (fun _ m => m)) rfl rfl fld173_1 rfl ?_
          refine o_ldc (dtg 15 (fun _ m => m)) (v := (.int .i64 t_0.xLo)) 0 rfl rfl rfl ty3 rfl ?_
          refine o_fad (dtg 16 (fun _ m => m)) rfl rfl fld173_2 rfl ?_
          refine o_ldc (dtg 17 (fun _ m => m)) (v := (.int .i64 t_0.xHi)) 0 rfl rfl rfl ty3 rfl ?_
          refine o_leq (dtg 18 (fun _ m => m)) rfl rfl rfl ?_
          refine o_pickT (dt 19 (fun _ m => m)) rfl rfl rfl ?_
          refine o_mv (dt 20 (fun _ m => m)) rfl rfl ?_
          refine st_sp (dj := 23) rfl ?_ ?_
          · refine o_fad (dtg 21 (fun _ m => m)) rfl rfl fld173_2 rfl ?_
            refine o_ldc (dtg 22 (fun _ m => m)) (v := (.int .i64 t_0.xHi)) 0 rfl rfl rfl ty3 rfl ?_
            refine o_fad (dtg 23 (fun _ m => m)) rfl rfl fld173_0 rfl ?_
            refine o_ldc (dtg 24 (fun _ m => m)) (v := (.int .i64 t_0.xField)) 0 rfl rfl rfl ty3 rfl ?_
            refine d_oneg (i := 25) rfl rfl rfl (by kernel_rfl) (o_callP (vs := [(.int .i64 t_0.xField)]) Tryd.call95 rfl rfl (by intro w m h; exact (w_impl_FieldTop (F := allB [] w) (n_0 := t_0.xField) allB_ok (m.rd0 1 rfl (reads_snap hgl0)) h).mono (fun _ _ k => ret_free (fun r u => fr_nil) k)) ?_); rintro r3 _
            refine d_and (fun _ m => m) ?_
            refine o_leq (dtg 26 (fun _ m => m)) rfl rfl rfl ?_
            refine o_pickT (dt 27 (fun _ m => m)) rfl rfl rfl ?_
            refine o_as (dt 28 (fun _ m => m)) rfl rfl ?_
            refine d_done (by kernel_rfl) ?_
            exact l_join (decide (t_0.xHi ≤ r3)) (fun a w hE hm => ⟨hE.sub ⟨rfl, trivial⟩, (hm.pick [1] rfl)⟩)
          · refine dsk 21 (fun _ m => m) rfl (by kernel_rfl) rfl rfl rfl rfl ?_
            refine dsk 22 (fun _ m => m) rfl (by kernel_rfl) rfl rfl rfl rfl ?_
            refine dsk 23 (fun _ m => m) rfl (by kernel_rfl) rfl rfl rfl rfl ?_
            refine dsk 24 (fun _ m => m) rfl (by kernel_rfl) rfl rfl rfl rfl ?_
            refine dsk 25 (fun _ m => m) rfl (by kernel_rfl) rfl rfl rfl rfl ?_
            refine dsk 26 (fun _ m => m) rfl (by kernel_rfl) rfl rfl rfl rfl ?_
            refine o_pickF (dt 27 (fun _ m => m)) rfl rfl rfl ?_
            refine o_as (dt 28 (fun _ m => m)) rfl rfl ?_
            refine d_done (by kernel_rfl) ?_
            exact l_join false (fun a w hE hm => ⟨hE.sub ⟨rfl, trivial⟩, (hm.pick [1] rfl)⟩)
        · refine dsk 14 (fun _ m => m) rfl (by kernel_rfl) rfl rfl rfl rfl ?_
          refine dsk 15 (fun _ m => m) rfl (by kernel_rfl) rfl rfl rfl rfl ?_
          refine dsk 16 (fun _ m => m) rfl (by kernel_rfl) rfl rfl rfl rfl ?_
          refine dsk 17 (fun _ m => m) rfl (by kernel_rfl) rfl rfl rfl rfl ?_
          refine dsk 18 (fun _ m => m) rfl (by kernel_rfl) rfl rfl rfl rfl ?_
          refine o_pickF (dt 19 (fun _ m => m)) rfl rfl rfl ?_
          refine o_mv (dt 20 (fun _ m => m)) rfl rfl ?_
          refine dsk 21 (fun _ m => m) rfl (by kernel_rfl) rfl rfl rfl rfl ?_
          refine dsk 22 (fun _ m => m) rfl (by kernel_rfl) rfl rfl rfl rfl ?_
          refine dsk 23 (fun _ m => m) rfl (by kernel_rfl) rfl rfl rfl rfl ?_
          refine dsk 24 (fun _ m => m) rfl (by kernel_rfl) rfl rfl rfl rfl ?_
          refine dsk 25 (fun _ m => m) rfl (by kernel_rfl) rfl rfl rfl rfl ?_
          refine dsk 26 (fun _ m => m) rfl (by kernel_rfl) rfl rfl rfl rfl ?_
          refine o_pickF (dt 27 (fun _ m => m)) rfl rfl rfl ?_
          refine o_as (dt 28 (fun _ m => m)) rfl rfl ?_
          refine d_done (by kernel_rfl) ?_
          exact l_join false (fun a w hE hm => ⟨hE.sub ⟨rfl, trivial⟩, (hm.pick [1] rfl)⟩)
      · refine dsk 9 (fun _ m => m) rfl (by kernel_rfl) rfl rfl rfl rfl ?_
        refine dsk 10 (fun _ m => m) rfl (by kernel_rfl) rfl rfl rfl rfl ?_
        refine dsk 11 (fun _ m => m) rfl (by kernel_rfl) rfl rfl rfl rfl ?_
        refine o_pickF (dt 12 (fun _ m => m)) rfl rfl rfl ?_
        refine o_mv (dt 13 (fun _ m => m)) rfl rfl ?_
        refine dsk 14 (fun _ m => m) rfl (by kernel_rfl) rfl rfl rfl rfl ?_
        refine dsk 15 (fun _ m => m) rfl (by kernel_rfl) rfl rfl rfl rfl ?_
        refine dsk 16 (fun _ m => m) rfl (by kernel_rfl) rfl rfl rfl rfl ?_
        refine dsk 17 (fun _ m => m) rfl (by kernel_rfl) rfl rfl rfl rfl ?_
        refine dsk 18 (fun _ m => m) rfl (by kernel_rfl) rfl rfl rfl rfl ?_
        refine o_pickF (dt 19 (fun _ m => m)) rfl rfl rfl ?_
        refine o_mv (dt 20 (fun _ m => m)) rfl rfl ?_
        refine dsk 21 (fun _ m => m) rfl (by kernel_rfl) rfl rfl rfl rfl ?_
        refine dsk 22 (fun _ m => m) rfl (by kernel_rfl) rfl rfl rfl rfl ?_
        refine dsk 23 (fun _ m => m) rfl (by kernel_rfl) rfl rfl rfl rfl ?_
        refine dsk 24 (fun _ m => m) rfl (by kernel_rfl) rfl rfl rfl rfl ?_
        refine dsk 25 (fun _ m => m) rfl (by kernel_rfl) rfl rfl rfl rfl ?_
        refine dsk 26 (fun _ m => m) rfl (by kernel_rfl) rfl rfl rfl rfl ?_
        refine o_pickF (dt 27 (fun _ m => m)) rfl rfl rfl ?_
        refine o_as (dt 28 (fun _ m => m)) rfl rfl ?_
        refine d_done (by kernel_rfl) ?_
        exact l_join false (fun a w hE hm => ⟨hE.sub ⟨rfl, trivial⟩, (hm.pick [1] rfl)⟩)
    · refine dsk 4 (fun _ m => m) rfl (by kernel_rfl) rfl rfl rfl rfl ?_
      refine dsk 5 (fun _ m => m) rfl (by kernel_rfl) rfl rfl rfl rfl ?_
      refine dsk 6 (fun _ m => m) rfl (by kernel_rfl) rfl rfl rfl rfl ?_
      refine o_pickF (dt 7 (fun _ m => m)) rfl rfl rfl ?_
      refine o_mv (dt 8 (fun _ m => m)) rfl rfl ?_
      refine dsk 9 (fun _ m => m) rfl (by kernel_rfl) rfl rfl rfl rfl ?_
      refine dsk 10 (fun _ m => m) rfl (by kernel_rfl) rfl rfl rfl rfl ?_
      refine dsk 11 (fun _ m => m) rfl (by kernel_rfl) rfl rfl rfl rfl ?_
      refine o_pickF (dt 12 (fun _ m => m)) rfl rfl rfl ?_
      refine o_mv (dt 13 (fun _ m => m)) rfl rfl ?_
      refine dsk 14 (fun _ m => m) rfl (by kernel_rfl) rfl rfl rfl rfl ?_
      refine dsk 15 (fun _ m => m) rfl (by kernel_rfl) rfl rfl rfl rfl ?_
      refine dsk 16 (fun _ m => m) rfl (by kernel_rfl) rfl rfl rfl rfl ?_
      refine dsk 17 (fun _ m => m) rfl (by kernel_rfl) rfl rfl rfl rfl ?_
      refine dsk 18 (fun _ m => m) rfl (by kernel_rfl) rfl rfl rfl rfl ?_
      refine o_pickF (dt 19 (fun _ m => m)) rfl rfl rfl ?_
      refine o_mv (dt 20 (fun _ m => m)) rfl rfl ?_
      refine dsk 21 (fun _ m => m) rfl (by kernel_rfl) rfl rfl rfl rfl ?_
      refine dsk 22 (fun _ m => m) rfl (by kernel_rfl) rfl rfl rfl rfl ?_
      refine dsk 23 (fun _ m => m) rfl (by kernel_rfl) rfl rfl rfl rfl ?_
      refine dsk 24 (fun _ m => m) rfl (by kernel_rfl) rfl rfl rfl rfl ?_
      refine dsk 25 (fun _ m => m) rfl (by kernel_rfl) rfl rfl rfl rfl ?_
      refine dsk 26 (fun _ m => m) rfl (by kernel_rfl) rfl rfl rfl rfl ?_
      refine o_pickF (dt 27 (fun _ m => m)) rfl rfl rfl ?_
      refine o_as (dt 28 (fun _ m => m)) rfl rfl ?_
      refine d_done (by kernel_rfl) ?_
      exact l_join false (fun a w hE hm => ⟨hE.sub ⟨rfl, trivial⟩, (hm.pick [1] rfl)⟩)
  · rintro t64 a w ⟨hE, hm⟩ h
    refine nx_of hE hm h ?_
    clear hE hm h
    refine c_ret ?_
    exact l_end1 Tryd.results124 t64 () (rv_t rfl) (fun _ _ => NewCh.nil _ _ _ _)

set_option maxRecDepth 100000 in
set_option maxHeartbeats 8000000 in
theorem w_impl_TestsValid {w0 : World} {F : Nat → Prop} {v1 : Value} {list_0 : (List GTest)} {κ : Bool → Prop} (hF : ∀ b, F b → b < w0.heap.size ∧ ¬ feet [] b) (hv1 : Sl elGTest F w0 v1 list_0) (hgl0 : Sl elGFieldShape F w0 (.slice (some ⟨0, 0, none⟩) 4 4) gl_impl_fieldShapes) (h : L_impl_TestsValid list_0 κ) :
    Calls Tryd.prog 117 #[v1] w0 (Ret [] F w0 κ (fun (r : Bool) (u : Unit) => (.bool r)) (fun (r : Bool) (u : Unit) => [])) := by
  refine enterS (args := [v1]) [] hF (Given.nil _ _) Tryd.func117 rfl Tryd.ntmps117 rfl h ?_
  clear h hF
  refine c_seq ?_
  refine c_region ?_
  refine o_as st rfl rfl ?_
  refine c_nil ?_
  refine l_then ?_
  refine c_seq ?_
  refine c_seq ?_
  refine c_region ?_
  refine o_mv st rfl rfl ?_
  refine o_len st el102 0 rfl (reads_snap hv1) rfl rfl ?_
  refine o_gtr st rfl rfl rfl ?_
  refine c_nil ?_
  refine l_then ?_
  refine c_cond rfl ?_ ?_
  · refine c_seq ?_
    refine c_region ?_
    refine o_as st rfl rfl ?_
    refine c_nil ?_
    refine l_then ?_
    refine c_ret ?_
    refine l_ret ?_
    exact l_end1 Tryd.results117 false () (rv_t rfl) (fun _ _ => NewCh.nil _ _ _ _)
  · refine c_skip ?_
    refine l_then ?_
    refine c_seq ?_
    refine c_seq ?_
    refine c_region ?_
    refine o_mv st rfl rfl ?_
    refine o_len st el102 0 rfl (reads_snap hv1) rfl rfl ?_
    refine o_mv st rfl rfl ?_
    refine c_nil ?_
    refine l_then ?_
    refine c_block ?_
    refine c_loop (σ := Int) (fun (t3 : Int) (a : Act) (w : World) => Has 18 [(8, v1), (9, (.int .i64 (list_0.length : Int))), (10, (.int .i64 t3))] a ∧ Mem (gB F [] w0) (feet []) w0 [snapCh w0 F] w) (fun a w hE hm => ⟨hE.sub ⟨rfl, rfl, rfl, trivial⟩, (hm.pick [0] rfl)⟩) ?_
    rintro nx4 t3 a w ⟨hE, hm⟩ h
    refine nx_of hE hm h ?_
    clear hE hm h
    refine c_seq ?_
    refine c_region ?_
    refine o_lss st rfl rfl rfl ?_
    refine c_nil ?_
    refine l_then ?_
    refine c_seq ?_
    refine c_cond rfl ?_ ?_
    · refine c_skip ?_
      refine l_then ?_
      refine c_seq ?_
      refine c_block ?_
      refine c_seq ?_
      refine c_region ?_
      refine o_idx st 0 rfl (reads_snap hv1) rfl rfl rfl el102 ?_; intro e5 h6
      refine o_lds st (enc := encGTest) (u := (.agg #[(.int .i64 e5.xField), (.int .i64 e5.xLo), (.int .i64 e5.xHi), (.bool e5.xNot)])) 0 rfl (reads_snap hv1) flelGTest rfl h6 rfl rfl ty173 rfl ?_
      refine stw (o_alloc rfl [(.int .i64 0), (.int .i64 0), (.int .i64 0), (.bool false)] zero173 ?_); intro b7
      refine stw (o_stc (cs' := [(.int .i64 e5.xField), (.int .i64 e5.xLo), (.int .i64 e5.xHi), (.bool e5.xNot)]) 0 rfl rfl rfl ty173 rfl rfl rfl rfl ?_)
      refine c_nil ?_
      refine l_then ?_
      refine c_seq ?_
      refine c_region ?_
      refine o_ldc st (v := (.agg #[(.int .i64 e5.xField), (.int .i64 e5.xLo), (.int .i64 e5.xHi), (.bool e5.xNot)])) 0 rfl rfl rfl ty173 rfl ?_
      refine stw (o_callP (vs := [(.agg #[(.int .i64 e5.xField), (.int .i64 e5.xLo), (.int .i64 e5.xHi), (.bool e5.xNot)])]) Tryd.call124 rfl rfl (by intro w m h; exact (w_impl_TestValid (F := allB [] w) (t_0 := e5) allB_ok (m.rd0 1 rfl (reads_snap hgl0)) h).mono (fun _ _ k => ret_free (fun r u => fr_nil) k)) ?_); rintro r9 _
      refine o_not st rfl rfl ?_
      refine c_nil ?_
      refine l_then ?_
      refine c_cond rfl ?_ ?_
      · refine c_seq ?_
        refine c_region ?_
        refine o_as st rfl rfl ?_
        refine c_nil ?_
        refine l_then ?_
        refine c_ret ?_
        refine b_ret ?_
        refine l_ret ?_
        refine l_ret ?_
        refine b_ret ?_
        refine l_ret ?_
        exact l_end1 Tryd.results117 false () (rv_t rfl) (fun _ _ => NewCh.nil _ _ _ _)
      · refine c_skip ?_
        refine b_norm ?_
        refine l_then ?_
        refine c_region ?_
        refine o_add st rfl rfl rfl ?_; intro t10
        refine o_mv st rfl rfl ?_
        refine c_nil ?_
        exact l_join t10 (fun a w hE hm => ⟨hE.sub ⟨rfl, rfl, rfl, trivial⟩, (hm.pick [1] rfl)⟩)
    · refine c_exit ?_
      refine l_exit ?_
      refine l_exit ?_
      refine b_exit ?_
      refine l_then ?_
      refine c_seq ?_
      refine c_region ?_
      refine o_as st rfl rfl ?_
      refine c_nil ?_
      refine l_then ?_
      refine c_ret ?_
      exact l_end1 Tryd.results117 true () (rv_t rfl) (fun _ _ => NewCh.nil _ _ _ _)

set_option maxRecDepth 100000 in
set_option maxHeartbeats 8000000 in
theorem w_impl_RuleValid {w0 : World} {F : Nat → Prop} {v1 : Value} {r_0 : GRule} {κ : Bool → Prop} (hF : ∀ b, F b → b < w0.heap.size ∧ ¬ feet [] b) (hv1 : Sl elGTest F w0 v1 r_0.xTests) (hgl0 : Sl elGFieldShape F w0 (.slice (some ⟨0, 0, none⟩) 4 4) gl_impl_fieldShapes) (h : L_impl_RuleValid r_0 κ) :
    Calls Tryd.prog 103 #[(.agg #[v1, (.int .i64 r_0.xAction), (.int .i64 r_0.xChain)])] w0 (Ret [] F w0 κ (fun (r : Bool) (u : Unit) => (.bool r)) (fun (r : Bool) (u : Unit) => [])) := by
  refine enterS (args := [(.agg #[v1, (.int .i64 r_0.xAction), (.int .i64 r_0.xChain)])]) [] hF (Given.nil _ _) Tryd.func103 rfl Tryd.ntmps103 rfl h ?_
  clear h hF
  refine c_seq ?_
  refine c_region ?_
  obtain ⟨a3, l4, q5, hs_⟩ := sl_val hv1; subst hs_
  refine stw (o_box rfl rfl [(.slice a3 l4 q5), (.int .i64 r_0.xAction), (.int .i64 r_0.xChain)] rfl ?_); intro b6
  refine o_as st rfl rfl ?_
  refine c_nil ?_
  refine l_then ?_
  refine c_seq ?_
  refine c_seq ?_
  refine c_region ?_
  refine o_fad st rfl rfl fld104_0 rfl ?_
  refine o_ldc st (v := (.slice a3 l4 q5)) 0 rfl rfl rfl ty102 rfl ?_
  refine stw (o_callP (vs := [(.slice a3 l4 q5)]) Tryd.call117 rfl rfl (by intro w m h; exact (w_impl_TestsValid (F := allB [] w) (list_0 := r_0.xTests) allB_ok (m.rd0 1 rfl (reads_snap hv1)) (m.rd0 1 rfl (reads_snap hgl0)) h).mono (fun _ _ k => ret_free (fun r u => fr_nil) k)) ?_); rintro r8 _
  refine o_not st rfl rfl ?_
  refine c_nil ?_
  refine l_then ?_
  refine c_cond rfl ?_ ?_
  · refine c_seq ?_
    refine c_region ?_
    refine o_as st rfl rfl ?_
    refine c_nil ?_
    refine l_then ?_
    refine c_ret ?_
    refine l_ret ?_
    exact l_end1 Tryd.results103 false () (rv_t rfl) (fun _ _ => NewCh.nil _ _ _ _)
  · refine c_skip ?_
    refine l_then ?_
    refine c_seq ?_
    refine c_seq ?_
    refine c_region ?_
    refine o_fad st rfl rfl fld104_1 rfl ?_
    refine o_ldc st (v := (.int .i64 r_0.xAction)) 0 rfl rfl rfl ty3 rfl ?_
    refine c_nil ?_
    refine l_then ?_
    refine c_block ?_
    refine c_seq ?_
    refine c_region ?_
    refine o_eql st und3 rfl rfl rfl ?_
    refine o_as st rfl rfl ?_
    refine c_nil ?_
    refine l_then ?_
    refine c_cond rfl ?_ ?_
    · refine c_join (σ := Bool) (fun (t69 : Bool) (a : Act) (w : World) => Has 27 [(2, (.bool t69))] a ∧ Mem (gB F [] w0) (feet []) w0 [snapCh w0 F] w) ?_ ?_
      · intro k70
        refine c_region ?_
        refine o_fad st rfl rfl fld104_2 rfl ?_
        refine o_ldc st (v := (.int .i64 r_0.xChain)) 0 rfl rfl rfl ty3 rfl ?_
        refine o_geq st rfl rfl rfl ?_
        refine o_mv st rfl rfl ?_
        refine st_sp (dj := 14) rfl ?_ ?_
        · refine o_fad (st_g rfl rfl) rfl rfl fld104_2 rfl ?_
          refine o_ldc (st_g rfl rfl) (v := (.int .i64 r_0.xChain)) 0 rfl rfl rfl ty3 rfl ?_
          refine o_lss (st_g rfl rfl) rfl rfl rfl ?_
          refine o_pickT st rfl rfl rfl ?_
          refine o_as st rfl rfl ?_
          refine c_nil ?_
          exact l_join (decide (r_0.xChain < 5)) (fun a w hE hm => ⟨hE.sub ⟨rfl, trivial⟩, (hm.pick [1] rfl)⟩)
        · refine st_s rfl rfl rfl rfl ?_
          refine st_s rfl rfl rfl rfl ?_
          refine st_s rfl rfl rfl rfl ?_
          refine o_pickF st rfl rfl rfl ?_
          refine o_as st rfl rfl ?_
          refine c_nil ?_
          exact l_join false (fun a w hE hm => ⟨hE.sub ⟨rfl, trivial⟩, (hm.pick [1] rfl)⟩)
      · rintro t69 a w ⟨hE, hm⟩ h
        refine nx_of hE hm h ?_
        clear hE hm h
        refine c_ret ?_
        refine b_ret ?_
        refine l_ret ?_
        exact l_end1 Tryd.results103 t69 () (rv_t rfl) (fun _ _ => NewCh.nil _ _ _ _)
    · refine c_join (σ := Bool) (fun (t131 : Bool) (a : Act) (w : World) => Has 27 [(1, (.pointer (some ⟨b6, 0, none⟩))), (19, (.bool t131))] a ∧ Mem (gB F [] w0) (feet []) w0 [cellCh b6 [(.slice a3 l4 q5), (.int .i64 r_0.xAction), (.int .i64 r_0.xChain)] 104, snapCh w0 F] w) ?_ ?_
      · intro k132
        refine c_seq ?_
        refine c_region ?_
        refine o_eql st und3 rfl rfl rfl ?_
        refine o_as st rfl rfl ?_
        refine c_nil ?_
        refine l_then ?_
        refine c_cond rfl ?_ ?_
        · refine c_skip ?_
          exact l_join (decide (r_0.xAction = 1)) (fun a w hE hm => ⟨hE.sub ⟨rfl, rfl, trivial⟩, (hm.pick [0, 1] rfl)⟩)
        · refine c_seq ?_
          refine c_region ?_
          refine o_eql st und3 rfl rfl rfl ?_
          refine o_as st rfl rfl ?_
          refine c_nil ?_
          refine l_then ?_
          refine c_cond rfl ?_ ?_
          · refine c_skip ?_
            exact l_join (decide (r_0.xAction = 2)) (fun a w hE hm => ⟨hE.sub ⟨rfl, rfl, trivial⟩, (hm.pick [0, 1] rfl)⟩)
          · refine c_seq ?_
            refine c_region ?_
            refine o_eql st und3 rfl rfl rfl ?_
            refine o_as st rfl rfl ?_
            refine c_nil ?_
            refine l_then ?_
            refine c_cond rfl ?_ ?_
            · refine c_skip ?_
              exact l_join (decide (r_0.xAction = 4)) (fun a w hE hm => ⟨hE.sub ⟨rfl, rfl, trivial⟩, (hm.pick [0, 1] rfl)⟩)
            · refine c_region ?_
              refine o_eql st und3 rfl rfl rfl ?_
              refine o_as st rfl rfl ?_
              refine c_nil ?_
              exact l_join (decide (r_0.xAction = 5)) (fun a w hE hm => ⟨hE.sub ⟨rfl, rfl, trivial⟩, (hm.pick [0, 1] rfl)⟩)
      · rintro t131 a w ⟨hE, hm⟩ h
        refine nx_of hE hm h ?_
        clear hE hm h
        refine c_cond rfl ?_ ?_
        · refine c_seq ?_
          refine c_region ?_
          refine o_fad st rfl rfl fld104_2 rfl ?_
          refine o_ldc st (v := (.int .i64 r_0.xChain)) 0 rfl rfl rfl ty3 rfl ?_
          refine o_eql st und3 rfl rfl rfl ?_
          refine o_as st rfl rfl ?_
          refine c_nil ?_
          refine l_then ?_
          refine c_ret ?_
          refine b_ret ?_
          refine l_ret ?_
          exact l_end1 Tryd.results103 (decide (r_0.xChain = 0)) () (rv_t rfl) (fun _ _ => NewCh.nil _ _ _ _)
        · refine c_skip ?_
          refine b_norm ?_
          refine l_then ?_
          refine c_seq ?_
          refine c_region ?_
          refine o_as st rfl rfl ?_
          refine c_nil ?_
          refine l_then ?_
          refine c_ret ?_
          exact l_end1 Tryd.results103 false () (rv_t rfl) (fun _ _ => NewCh.nil _ _ _ _)

set_option maxRecDepth 100000 in
set_option maxHeartbeats 8000000 in
theorem w_impl_RulesValid {w0 : World} {F : Nat → Prop} {v1 : Value} {list_0 : (List GRule)} {κ : Bool → Prop} (hF : ∀ b, F b → b < w0.heap.size ∧ ¬ feet [] b) (hv1 : Sl elGRule F w0 v1 list_0) (hgl0 : Sl elGFieldShape F w0 (.slice (some ⟨0, 0, none⟩) 4 4) gl_impl_fieldShapes) (h : L_impl_RulesValid list_0 κ) :
    Calls Tryd.prog 87 #[v1] w0 (Ret [] F w0 κ (fun (r : Bool) (u : Unit) => (.bool r)) (fun (r : Bool) (u : Unit) => [])) := by
  refine enterS (args := [v1]) [] hF (Given.nil _ _) Tryd.func87 rfl Tryd.ntmps87 rfl h ?_
  clear h hF
  refine c_seq ?_
  refine c_region ?_
  refine o_as st rfl rfl ?_
  refine c_nil ?_
  refine l_then ?_
  refine c_seq ?_
  refine c_seq ?_
  refine c_region ?_
  refine o_mv st rfl rfl ?_
  refine o_len st el101 0 rfl (reads_snap hv1) rfl rfl ?_
  refine o_gtr st rfl rfl rfl ?_
  refine c_nil ?_
  refine l_then ?_
  refine c_cond rfl ?_ ?_
  · refine c_seq ?_
    refine c_region ?_
    refine o_as st rfl rfl ?_
    refine c_nil ?_
    refine l_then ?_
    refine c_ret ?_
    refine l_ret ?_
    exact l_end1 Tryd.results87 false () (rv_t rfl) (fun _ _ => NewCh.nil _ _ _ _)
  · refine c_skip ?_
    refine l_then ?_
    refine c_seq ?_
    refine c_seq ?_
    refine c_region ?_
    refine o_mv st rfl rfl ?_
    refine o_len st el101 0 rfl (reads_snap hv1) rfl rfl ?_
    refine o_mv st rfl rfl ?_
    refine c_nil ?_
    refine l_then ?_
    refine c_block ?_
    refine c_loop (σ := Int) (fun (t3 : Int) (a : Act) (w : World) => Has 18 [(8, v1), (9, (.int .i64 (list_0.length : Int))), (10, (.int .i64 t3))] a ∧ Mem (gB F [] w0) (feet []) w0 [snapCh w0 F] w) (fun a w hE hm => ⟨hE.sub ⟨rfl, rfl, rfl, trivial⟩, (hm.pick [0] rfl)⟩) ?_
    rintro nx4 t3 a w ⟨hE, hm⟩ h
    refine nx_of hE hm h ?_
    clear hE hm h
    refine c_seq ?_
    refine c_region ?_
    refine o_lss st rfl rfl rfl ?_
    refine c_nil ?_
    refine l_then ?_
    refine c_seq ?_
    refine c_cond rfl ?_ ?_
    · refine c_skip ?_
      refine l_then ?_
      refine c_seq ?_
      refine c_block ?_
      refine c_seq ?_
      refine c_region ?_
      refine o_idx st 0 rfl (reads_snap hv1) rfl rfl rfl el101 ?_; intro e5 h6
      obtain ⟨_, ⟨v8, rfl, sl9⟩, rw7⟩ := sl_open hv1 h6
      refine o_ldR st (u := (.agg #[v8, (.int .i64 e5.xAction), (.int .i64 e5.xChain)])) 0 rfl rw7 rfl rfl ty104 rfl ?_
      refine stw (o_alloc rfl [(.slice none 0 0), (.int .i64 0), (.int .i64 0)] zero104 ?_); intro b11
      obtain ⟨a13, l14, q15, hs_⟩ := sl_val sl9; subst hs_
      refine stw (o_stc (cs' := [(.slice a13 l14 q15), (.int .i64 e5.xAction), (.int .i64 e5.xChain)]) 0 rfl rfl rfl ty104 rfl rfl rfl rfl ?_)
      refine c_nil ?_
      refine l_then ?_
      refine c_seq ?_
      refine c_region ?_
      refine o_ldc st (v := (.agg #[(.slice a13 l14 q15), (.int .i64 e5.xAction), (.int .i64 e5.xChain)])) 0 rfl rfl rfl ty104 rfl ?_
      refine stw (o_callP (vs := [(.agg #[(.slice a13 l14 q15), (.int .i64 e5.xAction), (.int .i64 e5.xChain)])]) Tryd.call103 rfl rfl (by intro w m h; exact (w_impl_RuleValid (F := allB [] w) (r_0 := e5) allB_ok (m.rd0 1 rfl (reads_snap sl9)) (m.rd0 1 rfl (reads_snap hgl0)) h).mono (fun _ _ k => ret_free (fun r u => fr_nil) k)) ?_); rintro r16 _
      refine o_not st rfl rfl ?_
      refine c_nil ?_
      refine l_then ?_
      refine c_cond rfl ?_ ?_
      · refine c_seq ?_
        refine c_region ?_
        refine o_as st rfl rfl ?_
        refine c_nil ?_
        refine l_then ?_
        refine c_ret ?_
        refine b_ret ?_
        refine l_ret ?_
        refine l_ret ?_
        refine b_ret ?_
        refine l_ret ?_
        exact l_end1 Tryd.results87 false () (rv_t rfl) (fun _ _ => NewCh.nil _ _ _ _)
      · refine c_skip ?_
        refine b_norm ?_
        refine l_then ?_
        refine c_region ?_
        refine o_add st rfl rfl rfl ?_; intro t17
        refine o_mv st rfl rfl ?_
        refine c_nil ?_
        exact l_join t17 (fun a w hE hm => ⟨hE.sub ⟨rfl, rfl, rfl, trivial⟩, (hm.pick [1] rfl)⟩)
    · refine c_exit ?_
      refine l_exit ?_
      refine l_exit ?_
      refine b_exit ?_
      refine l_then ?_
      refine c_seq ?_
      refine c_region ?_
      refine o_as st rfl rfl ?_
      refine c_nil ?_
      refine l_then ?_
      refine c_ret ?_
      exact l_end1 Tryd.results87 true () (rv_t rfl) (fun _ _ => NewCh.nil _ _ _ _)



end
section
open Go.RowKit
set_option maxRecDepth 100000 in
set_option maxHeartbeats 8000000 in
theorem w_impl_callsIn {w0 : World} {F : Nat → Prop} {v1 : Value} {rules_0 : (List GRule)} {κ : (List Int) → Prop} (hF : ∀ b, F b → b < w0.heap.size ∧ ¬ feet [] b) (hv1 : Sl elGRule F w0 v1 rules_0) (h : L_impl_callsIn rules_0 κ) :
    Calls Tryd.prog 88 #[v1] w0 (Ret [] F w0 κ (fun (r : (List Int)) (u : Value) => u) (fun (r : (List Int)) (u : Value) => [ownCh elInt 3 u r])) := by
  refine enterS (args := [v1]) [] hF (Given.nil _ _) Tryd.func88 rfl Tryd.ntmps88 rfl h ?_
  clear h hF
  refine c_seq ?_
  refine c_region ?_
  refine stw (o_asn elInt 3 rfl rfl ?_)
  refine c_nil ?_
  refine l_then ?_
  refine c_seq ?_
  refine c_region ?_
  refine stw (o_allocA (El' := elBool) (z := (false : Bool)) (len := 5) (zs := [(.bool false)]) (fun F w => (flelBool _ _ _ _).2 rfl) rfl zero148 rfl rfl ?_); intro b4
  refine c_nil ?_
  refine l_then ?_
  refine c_seq ?_
  refine c_seq ?_
  refine c_region ?_
  refine o_mv st rfl rfl ?_
  refine o_len st el101 2 rfl (reads_snap hv1) rfl rfl ?_
  refine o_mv st rfl rfl ?_
  refine c_nil ?_
  refine l_then ?_
  refine c_block ?_
  refine c_loop (σ := ((List Bool) × Int)) (fun ((xs6, t8) : ((List Bool) × Int)) (a : Act) (w : World) => Has 34 [(3, (.pointer (some ⟨b4, 0, none⟩))), (9, v1), (10, (.int .i64 (rules_0.length : Int))), (11, (.int .i64 t8))] a ∧ Mem (gB F [] w0) (feet []) w0 [ownCh elBool 148 (.slice (some ⟨b4, 0, none⟩) 5 5) xs6, snapCh w0 F] w) (fun a w hE hm => ⟨hE.sub ⟨rfl, rfl, rfl, rfl, trivial⟩, (hm.pick [0, 2] rfl)⟩) ?_
  rintro nx9 ⟨xs6, t8⟩ a w ⟨hE, hm⟩ h
  refine nx_of hE hm h ?_
  clear hE hm h
  refine c_seq ?_
  refine c_region ?_
  refine o_lss st rfl rfl rfl ?_
  refine c_nil ?_
  refine l_then ?_
  refine c_seq ?_
  refine c_cond rfl ?_ ?_
  · refine c_skip ?_
    refine l_then ?_
    refine c_join (σ := (List Bool)) (fun (xs84 : (List Bool)) (a : Act) (w : World) => Has 34 [(3, (.pointer (some ⟨b4, 0, none⟩))), (9, v1), (10, (.int .i64 (rules_0.length : Int))), (11, (.int .i64 t8))] a ∧ Mem (gB F [] w0) (feet []) w0 [ownCh elBool 148 (.slice (some ⟨b4, 0, none⟩) 5 5) xs84, snapCh w0 F] w) ?_ ?_
    · intro k86
      refine c_block ?_
      refine c_seq ?_
      refine c_region ?_
      refine o_idx st 1 rfl (reads_snap hv1) rfl rfl rfl el101 ?_; intro e10 h11
      obtain ⟨_, ⟨v13, rfl, sl14⟩, rw12⟩ := sl_open hv1 h11
      refine o_ldR st (u := (.agg #[v13, (.int .i64 e10.xAction), (.int .i64 e10.xChain)])) 1 rfl rw12 rfl rfl ty104 rfl ?_
      refine stw (o_alloc rfl [(.slice none 0 0), (.int .i64 0), (.int .i64 0)] zero104 ?_); intro b16
      obtain ⟨a18, l19, q20, hs_⟩ := sl_val sl14; subst hs_
      refine stw (o_stc (cs' := [(.slice a18 l19 q20), (.int .i64 e10.xAction), (.int .i64 e10.xChain)]) 0 rfl rfl rfl ty104 rfl rfl rfl rfl ?_)
      refine c_nil ?_
      refine l_then ?_
      refine c_seq ?_
      refine c_region ?_
      refine o_fad st rfl rfl fld104_1 rfl ?_
      refine o_ldc st (v := (.int .i64 e10.xAction)) 0 rfl rfl rfl ty3 rfl ?_
      refine o_eql st und3 rfl rfl rfl ?_
      refine c_nil ?_
      refine l_then ?_
      refine c_cond rfl ?_ ?_
      · refine c_region ?_
        refine o_fad st rfl rfl fld104_2 rfl ?_
        refine o_ldc st (v := (.int .i64 e10.xChain)) 0 rfl rfl rfl ty3 rfl ?_
        refine o_ixa st 1 rfl reads_own rfl rfl rfl arr148 ?_; intro e21 h22
        refine stw (o_sts (enc := encBool) (y' := true) 1 rfl flelBool rfl h22 ty4 rfl rfl rfl rfl rfl rfl ?_)
        refine c_nil ?_
        refine b_norm ?_
        exact l_join (xs6.set (e10.xChain).toNat true) (fun a w hE hm => ⟨hE.sub ⟨rfl, rfl, rfl, rfl, trivial⟩, (hm.pick [1, 2] rfl)⟩)
      · refine c_skip ?_
        refine b_norm ?_
        exact l_join xs6 (fun a w hE hm => ⟨hE.sub ⟨rfl, rfl, rfl, rfl, trivial⟩, (hm.pick [1, 2] rfl)⟩)
    · rintro xs84 a w ⟨hE, hm⟩ h
      refine nx_of hE hm h ?_
      clear hE hm h
      refine c_region ?_
      refine o_add st rfl rfl rfl ?_; intro t87
      refine o_mv st rfl rfl ?_
      refine c_nil ?_
      exact l_join (xs84, t87) (fun a w hE hm => ⟨hE.sub ⟨rfl, rfl, rfl, rfl, trivial⟩, (hm.pick [0, 1] rfl)⟩)
  · refine c_exit ?_
    refine l_exit ?_
    refine l_exit ?_
    refine b_exit ?_
    refine l_then ?_
    refine c_seq ?_
    refine c_region ?_
    refine stw (o_asn elInt 3 rfl rfl ?_)
    refine c_nil ?_
    refine l_then ?_
    refine c_seq ?_
    refine c_seq ?_
    refine c_region ?_
    refine nx_unl5 1 rfl ?_; intro e89 e90 e91 e92 e93
    refine stw (o_ldA m_op (u := [(.bool e89), (.bool e90), (.bool e91), (.bool e92), (.bool e93)]) 1 rfl reads_own flelBool rfl rfl ty148 rfl rfl ?_)
    refine o_mv st rfl rfl ?_
    refine c_nil ?_
    refine l_then ?_
    refine c_block ?_
    refine c_loop (σ := ((List Int) × Int)) (fun ((xs96, t99) : ((List Int) × Int)) (a : Act) (w : World) => ∃ (v95 : Value), Has 34 [(6, v95), (22, (.agg #[(.bool e89), (.bool e90), (.bool e91), (.bool e92), (.bool e93)])), (23, (.int .i64 t99))] a ∧ Mem (gB F [] w0) (feet []) w0 [ownCh elInt 3 v95 xs96] w) (fun a w hE hm => ⟨(.slice none 0 0), hE.sub ⟨rfl, rfl, rfl, trivial⟩, (hm.pick [0] rfl)⟩) ?_
    rintro nx100 ⟨xs96, t99⟩ a w ⟨v95, hE, hm⟩ h
    refine nx_of hE hm h ?_
    clear hE hm h
    refine c_seq ?_
    refine c_region ?_
    refine o_lss st rfl rfl rfl ?_
    refine c_nil ?_
    refine l_then ?_
    refine c_seq ?_
    refine c_cond rfl ?_ ?_
    · refine c_skip ?_
      refine l_then ?_
      refine c_join (σ := (List Int)) (fun (xs166 : (List Int)) (a : Act) (w : World) => ∃ (v167 : Value), Has 34 [(6, v167), (22, (.agg #[(.bool e89), (.bool e90), (.bool e91), (.bool e92), (.bool e93)])), (23, (.int .i64 t99))] a ∧ Mem (gB F [] w0) (feet []) w0 [ownCh elInt 3 v167 xs166] w) ?_ ?_
      · intro k169
        refine c_block ?_
        refine c_seq ?_
        refine c_region ?_
        refine o_mv st rfl rfl ?_
        refine o_ixv st (enc := encBool) (zs := [e89, e90, e91, e92, e93]) (u := fun (e101 : Bool) => (.bool e101)) rfl rfl rfl arr148 rfl rfl (fun _ => rfl) (fun _ => rfl) ?_; intro e101
        refine o_as st rfl rfl ?_
        refine o_as st rfl rfl ?_
        refine c_nil ?_
        refine l_then ?_
        refine c_seq ?_
        refine c_region ?_
        refine o_mv st rfl rfl ?_
        refine c_nil ?_
        refine l_then ?_
        refine c_cond rfl ?_ ?_
        · refine c_region ?_
          refine o_mv st rfl rfl ?_
          refine o_mv st rfl rfl ?_
          refine stw (o_bsl (enc := encInt) (qs := [(0, (.int .i64 t99))]) (cells := [(.int .i64 t99)]) ([t99]) flelInt (by intro ρ h; simp only [List.map_toArray, List.map_cons, List.map_nil, h (.tmp 29) _ rfl]) rfl el99 zero3 rfl rfl rfl rfl rfl rfl ?_); intro v102
          refine stw (o_app 1 0 rfl rfl (src_flat flelInt reads_own) rfl rfl rfl el99 rfl zero3 rfl rfl ?_); intro v104
          refine o_as st rfl rfl ?_
          refine c_nil ?_
          refine b_norm ?_
          exact l_join (xs96 ++ ([t99])) (fun a w hE hm => ⟨v104, hE.sub ⟨rfl, rfl, rfl, trivial⟩, (hm.pick [1] rfl)⟩)
        · refine c_skip ?_
          refine b_norm ?_
          exact l_join xs96 (fun a w hE hm => ⟨v95, hE.sub ⟨rfl, rfl, rfl, trivial⟩, (hm.pick [0] rfl)⟩)
      · rintro xs166 a w ⟨v167, hE, hm⟩ h
        refine nx_of hE hm h ?_
        clear hE hm h
        refine c_region ?_
        refine o_add st rfl rfl rfl ?_; intro t170
        refine o_mv st rfl rfl ?_
        refine c_nil ?_
        exact l_join (xs166, t170) (fun a w hE hm => ⟨v167, hE.sub ⟨rfl, rfl, rfl, trivial⟩, (hm.pick [0] rfl)⟩)
    · refine c_exit ?_
      refine l_exit ?_
      refine l_exit ?_
      refine b_exit ?_
      refine l_then ?_
      refine c_seq ?_
      refine c_region ?_
      refine o_mv st rfl rfl ?_
      refine o_as st rfl rfl ?_
      refine c_nil ?_
      refine l_then ?_
      refine c_ret ?_
      exact l_end1 Tryd.results88 xs96 v95 (rv_t rfl) (fun w m => NewCh.ofB m [0] rfl)

set_option maxRecDepth 100000 in
set_option maxHeartbeats 8000000 in
theorem wr_impl_visitCalls : ∀ (n : Nat) {w0 : World} {F : Nat → Prop} {b3 : Nat} {v1 : Value} {chains_0 : (List (List GRule))} {chain_1 : Int} {colours_2 : (List Int)} {κ : (Bool × (List Int)) → Prop} (hF : ∀ b, F b → b < w0.heap.size ∧ ¬ feet [ownCh elInt 149 (.slice (some ⟨b3, 0, none⟩) 5 5) colours_2] b) (hg : Given [ownCh elInt 149 (.slice (some ⟨b3, 0, none⟩) 5 5) colours_2] F w0) (hv1 : Sl (elSl elGRule) F w0 v1 chains_0) (h : R_impl_visitCalls n chains_0 chain_1 colours_2 κ),
    Calls Tryd.prog 104 #[v1, (.int .i64 chain_1), (.pointer (some ⟨b3, 0, none⟩))] w0 (Ret [ownCh elInt 149 (.slice (some ⟨b3, 0, none⟩) 5 5) colours_2] F w0 κ (fun (r : (Bool × (List Int))) (u : Unit) => (.bool r.1)) (fun (r : (Bool × (List Int))) (u : Unit) => [ownCh elInt 149 (.slice (some ⟨b3, 0, none⟩) 5 5) r.2])) := by
  intro n
  induction n with
  | zero =>
    intro w0 F b3 v1 chains_0 chain_1 colours_2 κ hF hg hv1 h
    exact (h : False).elim
  | succ n ih =>
    intro w0 F b3 v1 chains_0 chain_1 colours_2 κ hF hg hv1 h
    replace h : B_impl_visitCalls (R_impl_visitCalls n) chains_0 chain_1 colours_2 κ := h
    revert h ih
    generalize R_impl_visitCalls n = rec
    intro ih h
    refine enterS (args := [v1, (.int .i64 chain_1), (.pointer (some ⟨b3, 0, none⟩))]) [ownCh elInt 149 (.slice (some ⟨b3, 0, none⟩) 5 5) colours_2] hF hg Tryd.func104 rfl Tryd.ntmps104 rfl h ?_
    clear h hF hg
    refine c_seq ?_
    refine c_region ?_
    refine o_as st rfl rfl ?_
    refine c_nil ?_
    refine l_then ?_
    refine c_seq ?_
    refine c_seq ?_
    refine c_region ?_
    refine o_mv st rfl rfl ?_
    refine o_mv st rfl rfl ?_
    refine o_len st el23 1 rfl (reads_snap hv1) rfl rfl ?_
    refine o_geq st rfl rfl rfl ?_
    refine c_nil ?_
    refine l_then ?_
    refine c_cond rfl ?_ ?_
    · refine c_seq ?_
      refine c_region ?_
      refine o_as st rfl rfl ?_
      refine c_nil ?_
      refine l_then ?_
      refine c_ret ?_
      refine l_ret ?_
      exact l_end1 Tryd.results104 (true, colours_2) () (rv_t rfl) (fun w m => NewCh.ofB m [0] rfl)
    · refine c_skip ?_
      refine l_then ?_
      refine c_seq ?_
      refine c_seq ?_
      refine c_region ?_
      refine o_mv st rfl rfl ?_
      refine o_mv st rfl rfl ?_
      refine o_nilc st rfl rfl ?_
      refine o_ixa st 0 rfl reads_own rfl rfl rfl arr149 ?_; intro e5 h6
      refine o_lds st (enc := encInt) (u := (.int .i64 e5)) 0 rfl reads_own flelInt rfl h6 rfl rfl ty3 rfl ?_
      refine c_nil ?_
      refine l_then ?_
      refine c_block ?_
      refine c_seq ?_
      refine c_region ?_
      refine o_eql st und3 rfl rfl rfl ?_
      refine o_as st rfl rfl ?_
      refine c_nil ?_
      refine l_then ?_
      refine c_cond rfl ?_ ?_
      · refine c_seq ?_
        refine c_region ?_
        refine o_as st rfl rfl ?_
        refine c_nil ?_
        refine l_then ?_
        refine c_ret ?_
        refine b_ret ?_
        refine l_ret ?_
        exact l_end1 Tryd.results104 (false, colours_2) () (rv_t rfl) (fun w m => NewCh.ofB m [0] rfl)
      · refine c_seq ?_
        refine c_region ?_
        refine o_eql st und3 rfl rfl rfl ?_
        refine o_as st rfl rfl ?_
        refine c_nil ?_
        refine l_then ?_
        refine c_cond rfl ?_ ?_
        · refine c_seq ?_
          refine c_region ?_
          refine o_as st rfl rfl ?_
          refine c_nil ?_
          refine l_then ?_
          refine c_ret ?_
          refine b_ret ?_
          refine l_ret ?_
          exact l_end1 Tryd.results104 (true, colours_2) () (rv_t rfl) (fun w m => NewCh.ofB m [0] rfl)
        · refine c_skip ?_
          refine b_norm ?_
          refine l_then ?_
          refine c_seq ?_
          refine c_region ?_
          refine o_mv st rfl rfl ?_
          refine o_mv st rfl rfl ?_
          refine o_nilc st rfl rfl ?_
          refine o_ixa st 0 rfl reads_own rfl rfl rfl arr149 ?_; intro e7 h8
          refine stw (o_sts (enc := encInt) (y' := 1) 0 rfl flelInt rfl h8 ty3 rfl rfl rfl rfl rfl rfl ?_)
          refine c_nil ?_
          refine l_then ?_
          refine c_seq ?_
          refine c_region ?_
          refine o_as st rfl rfl ?_
          refine c_nil ?_
          refine l_then ?_
          refine c_seq ?_
          refine c_seq ?_
          refine c_region ?_
          refine o_mv st rfl rfl ?_
          refine o_mv st rfl rfl ?_
          refine o_idx st 1 rfl (reads_snap hv1) rfl rfl rfl el23 ?_; intro e10 h11
          obtain ⟨_, ⟨v13, rfl, sl14⟩, rw12⟩ := sl_open hv1 h11
          refine o_ldR st (u := v13) 1 rfl rw12 rfl rfl ty101 rfl ?_
          refine stw (o_callP (vs := [v13]) Tryd.call88 rfl rfl (by intro w m h; exact (w_impl_callsIn (F := allB [] w) (rules_0 := e10) allB_ok (m.rd0 1 rfl (reads_snap sl14)) h).mono (fun _ _ k => ret_free (fun r u => (fr_cons (free_own flelInt) fr_nil)) k)) ?_); rintro r16 v17
          refine o_len st el99 0 rfl reads_own rfl rfl ?_
          refine o_mv st rfl rfl ?_
          refine c_nil ?_
          refine l_then ?_
          refine c_block ?_
          refine c_loop (σ := ((List Int) × Bool × Int)) (fun ((xs19, t21, t22) : ((List Int) × Bool × Int)) (a : Act) (w : World) => Has 48 [(0, v1), (1, (.int .i64 chain_1)), (2, (.pointer (some ⟨b3, 0, none⟩))), (7, (.bool t21)), (31, v17), (32, (.int .i64 (r16.length : Int))), (33, (.int .i64 t22))] a ∧ Mem (gB F [ownCh elInt 149 (.slice (some ⟨b3, 0, none⟩) 5 5) colours_2] w0) (feet [ownCh elInt 149 (.slice (some ⟨b3, 0, none⟩) 5 5) colours_2]) w0 [ownCh elInt 3 v17 r16, ownCh elInt 149 (.slice (some ⟨b3, 0, none⟩) 5 5) xs19, snapCh w0 F] w) (fun a w hE hm => ⟨hE.sub ⟨rfl, rfl, rfl, rfl, rfl, rfl, rfl, trivial⟩, (hm.pick [0, 1, 2] rfl)⟩) ?_
          rintro nx23 ⟨xs19, t21, t22⟩ a w ⟨hE, hm⟩ h
          refine nx_of hE hm h ?_
          clear hE hm h
          refine c_seq ?_
          refine c_region ?_
          refine o_lss st rfl rfl rfl ?_
          refine c_nil ?_
          refine l_then ?_
          refine c_seq ?_
          refine c_cond rfl ?_ ?_
          · refine c_skip ?_
            refine l_then ?_
            refine c_join (σ := ((List Int) × Bool)) (fun ((xs89, t91) : ((List Int) × Bool)) (a : Act) (w : World) => Has 48 [(0, v1), (1, (.int .i64 chain_1)), (2, (.pointer (some ⟨b3, 0, none⟩))), (7, (.bool t91)), (31, v17), (32, (.int .i64 (r16.length : Int))), (33, (.int .i64 t22))] a ∧ Mem (gB F [ownCh elInt 149 (.slice (some ⟨b3, 0, none⟩) 5 5) colours_2] w0) (feet [ownCh elInt 149 (.slice (some ⟨b3, 0, none⟩) 5 5) colours_2]) w0 [ownCh elInt 149 (.slice (some ⟨b3, 0, none⟩) 5 5) xs89, ownCh elInt 3 v17 r16, snapCh w0 F] w) ?_ ?_
            · intro k92
              refine c_block ?_
              refine c_seq ?_
              refine c_region ?_
              refine o_idx st 0 rfl reads_own rfl rfl rfl el99 ?_; intro e24 h25
              refine o_lds st (enc := encInt) (u := (.int .i64 e24)) 0 rfl reads_own flelInt rfl h25 rfl rfl ty3 rfl ?_
              refine o_as st rfl rfl ?_
              refine c_nil ?_
              refine l_then ?_
              refine c_seq ?_
              refine c_region ?_
              refine o_mv st rfl rfl ?_
              refine o_mv st rfl rfl ?_
              refine o_mv st rfl rfl ?_
              refine pk [1, 0, 2] rfl ?_
              refine stw (o_call (vs := [v1, (.int .i64 e24), (.pointer (some ⟨b3, 0, none⟩))]) (M0 := [ownCh elInt 149 (.slice (some ⟨b3, 0, none⟩) 5 5) xs19]) Tryd.call104 rfl rfl (by intro w m h; exact (ih (F := allB [ownCh elInt 149 (.slice (some ⟨b3, 0, none⟩) 5 5) xs19] w) (chains_0 := chains_0) (chain_1 := e24) (colours_2 := xs19) allB_ok m.given (m.rdM 1 rfl (reads_snap hv1)) h).mono (fun _ _ k => ret_free (fun r u => (fr_cons (free_own flelInt) fr_nil)) k)) ?_); rintro ⟨r26, r27⟩ _
              refine o_not st rfl rfl ?_
              refine c_nil ?_
              refine l_then ?_
              refine c_cond rfl ?_ ?_
              · refine c_region ?_
                refine o_as st rfl rfl ?_
                refine c_nil ?_
                refine b_norm ?_
                exact l_join (r27, false) (fun a w hE hm => ⟨hE.sub ⟨rfl, rfl, rfl, rfl, rfl, rfl, rfl, trivial⟩, (hm.pick [0, 1, 2] rfl)⟩)
              · refine c_skip ?_
                refine b_norm ?_
                exact l_join (r27, t21) (fun a w hE hm => ⟨hE.sub ⟨rfl, rfl, rfl, rfl, rfl, rfl, rfl, trivial⟩, (hm.pick [0, 1, 2] rfl)⟩)
            · rintro ⟨xs89, t91⟩ a w ⟨hE, hm⟩ h
              refine nx_of hE hm h ?_
              clear hE hm h
              refine c_region ?_
              refine o_add st rfl rfl rfl ?_; intro t93
              refine o_mv st rfl rfl ?_
              refine c_nil ?_
              exact l_join (xs89, t91, t93) (fun a w hE hm => ⟨hE.sub ⟨rfl, rfl, rfl, rfl, rfl, rfl, rfl, trivial⟩, (hm.pick [1, 0, 2] rfl)⟩)
          · refine c_exit ?_
            refine l_exit ?_
            refine l_exit ?_
            refine b_exit ?_
            refine l_then ?_
            refine c_seq ?_
            refine c_region ?_
            refine o_mv st rfl rfl ?_
            refine o_mv st rfl rfl ?_
            refine o_nilc st rfl rfl ?_
            refine o_ixa st 1 rfl reads_own rfl rfl rfl arr149 ?_; intro e94 h95
            refine stw (o_sts (enc := encInt) (y' := 2) 1 rfl flelInt rfl h95 ty3 rfl rfl rfl rfl rfl rfl ?_)
            refine c_nil ?_
            refine l_then ?_
            refine c_seq ?_
            refine c_region ?_
            refine o_mv st rfl rfl ?_
            refine o_as st rfl rfl ?_
            refine c_nil ?_
            refine l_then ?_
            refine c_ret ?_
            exact l_end1 Tryd.results104 (t21, (xs19.set (chain_1).toNat 2)) () (rv_t rfl) (fun w m => NewCh.ofB m [1] rfl)
theorem w_impl_visitCalls {w0 : World} {F : Nat → Prop} {b3 : Nat} {v1 : Value} {chains_0 : (List (List GRule))} {chain_1 : Int} {colours_2 : (List Int)} {κ : (Bool × (List Int)) → Prop} (hF : ∀ b, F b → b < w0.heap.size ∧ ¬ feet [ownCh elInt 149 (.slice (some ⟨b3, 0, none⟩) 5 5) colours_2] b) (hg : Given [ownCh elInt 149 (.slice (some ⟨b3, 0, none⟩) 5 5) colours_2] F w0) (hv1 : Sl (elSl elGRule) F w0 v1 chains_0) (h : L_impl_visitCalls chains_0 chain_1 colours_2 κ) :
    Calls Tryd.prog 104 #[v1, (.int .i64 chain_1), (.pointer (some ⟨b3, 0, none⟩))] w0 (Ret [ownCh elInt 149 (.slice (some ⟨b3, 0, none⟩) 5 5) colours_2] F w0 κ (fun (r : (Bool × (List Int))) (u : Unit) => (.bool r.1)) (fun (r : (Bool × (List Int))) (u : Unit) => [ownCh elInt 149 (.slice (some ⟨b3, 0, none⟩) 5 5) r.2])) := by
  obtain ⟨n, h⟩ := h
  exact wr_impl_visitCalls n hF hg hv1 h

set_option maxRecDepth 100000 in
set_option maxHeartbeats 8000000 in
theorem w_impl_acyclic {w0 : World} {F : Nat → Prop} {v1 : Value} {chains_0 : (List (List GRule))} {κ : Bool → Prop} (hF : ∀ b, F b → b < w0.heap.size ∧ ¬ feet [] b) (hv1 : Sl (elSl elGRule) F w0 v1 chains_0) (h : L_impl_acyclic chains_0 κ) :
    Calls Tryd.prog 89 #[v1] w0 (Ret [] F w0 κ (fun (r : Bool) (u : Unit) => (.bool r)) (fun (r : Bool) (u : Unit) => [])) := by
  refine enterS (args := [v1]) [] hF (Given.nil _ _) Tryd.func89 rfl Tryd.ntmps89 rfl h ?_
  clear h hF
  refine c_seq ?_
  refine c_region ?_
  refine o_as st rfl rfl ?_
  refine c_nil ?_
  refine l_then ?_
  refine c_seq ?_
  refine c_region ?_
  refine stw (o_allocA (El' := elInt) (z := (0 : Int)) (len := 5) (zs := [(.int .i64 0)]) (fun F w => (flelInt _ _ _ _).2 rfl) rfl zero149 rfl rfl ?_); intro b3
  refine c_nil ?_
  refine l_then ?_
  refine c_seq ?_
  refine c_seq ?_
  refine c_region ?_
  refine o_mv st rfl rfl ?_
  refine o_len st el23 1 rfl (reads_snap hv1) rfl rfl ?_
  refine o_mv st rfl rfl ?_
  refine c_nil ?_
  refine l_then ?_
  refine c_block ?_
  refine c_loop (σ := ((List Int) × Int)) (fun ((xs5, t7) : ((List Int) × Int)) (a : Act) (w : World) => Has 15 [(0, v1), (3, (.pointer (some ⟨b3, 0, none⟩))), (6, (.int .i64 (chains_0.length : Int))), (7, (.int .i64 t7))] a ∧ Mem (gB F [] w0) (feet []) w0 [ownCh elInt 149 (.slice (some ⟨b3, 0, none⟩) 5 5) xs5, snapCh w0 F] w) (fun a w hE hm => ⟨hE.sub ⟨rfl, rfl, rfl, rfl, trivial⟩, (hm.pick [0, 1] rfl)⟩) ?_
  rintro nx8 ⟨xs5, t7⟩ a w ⟨hE, hm⟩ h
  refine nx_of hE hm h ?_
  clear hE hm h
  refine c_seq ?_
  refine c_region ?_
  refine o_lss st rfl rfl rfl ?_
  refine c_nil ?_
  refine l_then ?_
  refine c_seq ?_
  refine c_cond rfl ?_ ?_
  · refine c_skip ?_
    refine l_then ?_
    refine c_seq ?_
    refine c_block ?_
    refine c_seq ?_
    refine c_region ?_
    refine o_mv st rfl rfl ?_
    refine o_as st rfl rfl ?_
    refine c_nil ?_
    refine l_then ?_
    refine c_seq ?_
    refine c_region ?_
    refine o_mv st rfl rfl ?_
    refine o_mv st rfl rfl ?_
    refine stw (o_call (vs := [v1, (.int .i64 t7), (.pointer (some ⟨b3, 0, none⟩))]) (M0 := [ownCh elInt 149 (.slice (some ⟨b3, 0, none⟩) 5 5) xs5]) Tryd.call104 rfl rfl (by intro w m h; exact (w_impl_visitCalls (F := allB [ownCh elInt 149 (.slice (some ⟨b3, 0, none⟩) 5 5) xs5] w) (chains_0 := chains_0) (chain_1 := t7) (colours_2 := xs5) allB_ok m.given (m.rdM 0 rfl (reads_snap hv1)) h).mono (fun _ _ k => ret_free (fun r u => (fr_cons (free_own flelInt) fr_nil)) k)) ?_); rintro ⟨r9, r10⟩ _
    refine o_not st rfl rfl ?_
    refine c_nil ?_
    refine l_then ?_
    refine c_cond rfl ?_ ?_
    · refine c_seq ?_
      refine c_region ?_
      refine o_as st rfl rfl ?_
      refine c_nil ?_
      refine l_then ?_
      refine c_ret ?_
      refine b_ret ?_
      refine l_ret ?_
      refine l_ret ?_
      refine b_ret ?_
      refine l_ret ?_
      exact l_end1 Tryd.results89 false () (rv_t rfl) (fun _ _ => NewCh.nil _ _ _ _)
    · refine c_skip ?_
      refine b_norm ?_
      refine l_then ?_
      refine c_region ?_
      refine o_add st rfl rfl rfl ?_; intro t12
      refine o_mv st rfl rfl ?_
      refine c_nil ?_
      exact l_join (r10, t12) (fun a w hE hm => ⟨hE.sub ⟨rfl, rfl, rfl, rfl, trivial⟩, (hm.pick [0, 1] rfl)⟩)
  · refine c_exit ?_
    refine l_exit ?_
    refine l_exit ?_
    refine b_exit ?_
    refine l_then ?_
    refine c_seq ?_
    refine c_region ?_
    refine o_as st rfl rfl ?_
    refine c_nil ?_
    refine l_then ?_
    refine c_ret ?_
    exact l_end1 Tryd.results89 true () (rv_t rfl) (fun _ _ => NewCh.nil _ _ _ _)

set_option maxRecDepth 100000 in
set_option maxHeartbeats 8000000 in
theorem w_impl_RulesetValid {w0 : World} {F : Nat → Prop} {v1 : Value} {s_0 : GRuleset} {κ : Bool → Prop} (hF : ∀ b, F b → b < w0.heap.size ∧ ¬ feet [] b) (hv1 : Sl (elSl elGRule) F w0 v1 s_0.xChains) (hgl0 : Sl elGFieldShape F w0 (.slice (some ⟨0, 0, none⟩) 4 4) gl_impl_fieldShapes) (h : L_impl_RulesetValid s_0 κ) :
    Calls Tryd.prog 52 #[(.agg #[v1, (.bool s_0.xAccept)])] w0 (Ret [] F w0 κ (fun (r : Bool) (u : Unit) => (.bool r)) (fun (r : Bool) (u : Unit) => [])) := by
  refine enterS (args := [(.agg #[v1, (.bool s_0.xAccept)])]) [] hF (Given.nil _ _) Tryd.func52 rfl Tryd.ntmps52 rfl h ?_
  clear h hF
  refine c_seq ?_
  refine c_region ?_
  obtain ⟨a3, l4, q5, hs_⟩ := sl_val hv1; subst hs_
  refine stw (o_box rfl rfl [(.slice a3 l4 q5), (.bool s_0.xAccept)] rfl ?_); intro b6
  refine o_as st rfl rfl ?_
  refine c_nil ?_
  refine l_then ?_
  refine c_seq ?_
  refine c_join (σ := Bool) (fun (t68 : Bool) (a : Act) (w : World) => Has 54 [(1, (.pointer (some ⟨b6, 0, none⟩))), (18, (.bool t68))] a ∧ Mem (gB F [] w0) (feet []) w0 [cellCh b6 [(.slice a3 l4 q5), (.bool s_0.xAccept)] 25, snapCh w0 F] w) ?_ ?_
  · intro k69
    refine c_region ?_
    refine o_fad st rfl rfl fld25_0 rfl ?_
    refine o_ldc st (v := (.slice a3 l4 q5)) 0 rfl rfl rfl ty23 rfl ?_
    refine o_len st el23 1 rfl (reads_snap hv1) rfl rfl ?_
    refine o_lss st rfl rfl rfl ?_
    refine o_mv st rfl rfl ?_
    refine st_sp (dj := 13) rfl ?_ ?_
    · refine st_s rfl rfl rfl rfl ?_
      refine st_s rfl rfl rfl rfl ?_
      refine st_s rfl rfl rfl rfl ?_
      refine st_s rfl rfl rfl rfl ?_
      refine o_pickT st rfl rfl rfl ?_
      refine c_nil ?_
      exact l_join true (fun a w hE hm => ⟨hE.sub ⟨rfl, rfl, trivial⟩, (hm.pick [0, 1] rfl)⟩)
    · refine o_fad (st_g rfl rfl) rfl rfl fld25_0 rfl ?_
      refine o_ldc (st_g rfl rfl) (v := (.slice a3 l4 q5)) 0 rfl rfl rfl ty23 rfl ?_
      refine o_len (st_g rfl rfl) el23 1 rfl (reads_snap hv1) rfl rfl ?_
      refine o_gtr (st_g rfl rfl) rfl rfl rfl ?_
      refine o_pickF st rfl rfl rfl ?_
      refine c_nil ?_
      exact l_join (decide (5 < (s_0.xChains.length : Int))) (fun a w hE hm => ⟨hE.sub ⟨rfl, rfl, trivial⟩, (hm.pick [0, 1] rfl)⟩)
  · rintro t68 a w ⟨hE, hm⟩ h
    refine nx_of hE hm h ?_
    clear hE hm h
    refine c_cond rfl ?_ ?_
    · refine c_seq ?_
      refine c_region ?_
      refine o_as st rfl rfl ?_
      refine c_nil ?_
      refine l_then ?_
      refine c_ret ?_
      refine l_ret ?_
      exact l_end1 Tryd.results52 false () (rv_t rfl) (fun _ _ => NewCh.nil _ _ _ _)
    · refine c_skip ?_
      refine l_then ?_
      refine c_seq ?_
      refine c_seq ?_
      refine c_region ?_
      refine o_fad st rfl rfl fld25_0 rfl ?_
      refine o_ldc st (v := (.slice a3 l4 q5)) 0 rfl rfl rfl ty23 rfl ?_
      refine o_len st el23 1 rfl (reads_snap hv1) rfl rfl ?_
      refine o_mv st rfl rfl ?_
      refine c_nil ?_
      refine l_then ?_
      refine c_block ?_
      refine c_loop (σ := Int) (fun (t70 : Int) (a : Act) (w : World) => Has 54 [(1, (.pointer (some ⟨b6, 0, none⟩))), (20, (.slice a3 l4 q5)), (21, (.int .i64 (s_0.xChains.length : Int))), (22, (.int .i64 t70))] a ∧ Mem (gB F [] w0) (feet []) w0 [cellCh b6 [(.slice a3 l4 q5), (.bool s_0.xAccept)] 25, snapCh w0 F] w) (fun a w hE hm => ⟨hE.sub ⟨rfl, rfl, rfl, rfl, trivial⟩, (hm.pick [0, 1] rfl)⟩) ?_
      rintro nx71 t70 a w ⟨hE, hm⟩ h
      refine nx_of hE hm h ?_
      clear hE hm h
      refine c_seq ?_
      refine c_region ?_
      refine o_lss st rfl rfl rfl ?_
      refine c_nil ?_
      refine l_then ?_
      refine c_seq ?_
      refine c_cond rfl ?_ ?_
      · refine c_skip ?_
        refine l_then ?_
        refine c_seq ?_
        refine c_block ?_
        refine c_seq ?_
        refine c_region ?_
        refine o_idx st 1 rfl (reads_snap hv1) rfl rfl rfl el23 ?_; intro e72 h73
        obtain ⟨_, ⟨v75, rfl, sl76⟩, rw74⟩ := sl_open hv1 h73
        refine o_ldR st (u := v75) 1 rfl rw74 rfl rfl ty101 rfl ?_
        refine o_as st rfl rfl ?_
        refine c_nil ?_
        refine l_then ?_
        refine c_seq ?_
        refine c_region ?_
        refine o_mv st rfl rfl ?_
        refine stw (o_callP (vs := [v75]) Tryd.call87 rfl rfl (by intro w m h; exact (w_impl_RulesValid (F := allB [] w) (list_0 := e72) allB_ok (m.rd0 1 rfl (reads_snap sl76)) (m.rd0 1 rfl (reads_snap hgl0)) h).mono (fun _ _ k => ret_free (fun r u => fr_nil) k)) ?_); rintro r78 _
        refine o_not st rfl rfl ?_
        refine c_nil ?_
        refine l_then ?_
        refine c_cond rfl ?_ ?_
        · refine c_seq ?_
          refine c_region ?_
          refine o_as st rfl rfl ?_
          refine c_nil ?_
          refine l_then ?_
          refine c_ret ?_
          refine b_ret ?_
          refine l_ret ?_
          refine l_ret ?_
          refine b_ret ?_
          refine l_ret ?_
          exact l_end1 Tryd.results52 false () (rv_t rfl) (fun _ _ => NewCh.nil _ _ _ _)
        · refine c_skip ?_
          refine b_norm ?_
          refine l_then ?_
          refine c_region ?_
          refine o_add st rfl rfl rfl ?_; intro t79
          refine o_mv st rfl rfl ?_
          refine c_nil ?_
          exact l_join t79 (fun a w hE hm => ⟨hE.sub ⟨rfl, rfl, rfl, rfl, trivial⟩, (hm.pick [0, 1] rfl)⟩)
      · refine c_exit ?_
        refine l_exit ?_
        refine l_exit ?_
        refine b_exit ?_
        refine l_then ?_
        refine c_seq ?_
        refine c_seq ?_
        refine c_region ?_
        refine o_fad st rfl rfl fld25_0 rfl ?_
        refine o_ldc st (v := (.slice a3 l4 q5)) 0 rfl rfl rfl ty23 rfl ?_
        refine o_len st el23 1 rfl (reads_snap hv1) rfl rfl ?_
        refine o_mv st rfl rfl ?_
        refine c_nil ?_
        refine l_then ?_
        refine c_block ?_
        refine c_loop (σ := Int) (fun (t80 : Int) (a : Act) (w : World) => Has 54 [(1, (.pointer (some ⟨b6, 0, none⟩))), (31, (.slice a3 l4 q5)), (32, (.int .i64 (s_0.xChains.length : Int))), (33, (.int .i64 t80))] a ∧ Mem (gB F [] w0) (feet []) w0 [cellCh b6 [(.slice a3 l4 q5), (.bool s_0.xAccept)] 25, snapCh w0 F] w) (fun a w hE hm => ⟨hE.sub ⟨rfl, rfl, rfl, rfl, trivial⟩, (hm.pick [0, 1] rfl)⟩) ?_
        rintro nx81 t80 a w ⟨hE, hm⟩ h
        refine nx_of hE hm h ?_
        clear hE hm h
        refine c_seq ?_
        refine c_region ?_
        refine o_lss st rfl rfl rfl ?_
        refine c_nil ?_
        refine l_then ?_
        refine c_seq ?_
        refine c_cond rfl ?_ ?_
        · refine c_skip ?_
          refine l_then ?_
          refine c_seq ?_
          refine c_block ?_
          refine c_seq ?_
          refine c_region ?_
          refine o_idx st 1 rfl (reads_snap hv1) rfl rfl rfl el23 ?_; intro e82 h83
          obtain ⟨_, ⟨v85, rfl, sl86⟩, rw84⟩ := sl_open hv1 h83
          refine o_ldR st (u := v85) 1 rfl rw84 rfl rfl ty101 rfl ?_
          refine o_as st rfl rfl ?_
          refine c_nil ?_
          refine l_then ?_
          refine c_seq ?_
          refine c_region ?_
          refine o_mv st rfl rfl ?_
          refine stw (o_callP (vs := [v85]) Tryd.call88 rfl rfl (by intro w m h; exact (w_impl_callsIn (F := allB [] w) (rules_0 := e82) allB_ok (m.rd0 1 rfl (reads_snap sl86)) h).mono (fun _ _ k => ret_free (fun r u => (fr_cons (free_own flelInt) fr_nil)) k)) ?_); rintro r88 v89
          refine o_len st el99 0 rfl reads_own rfl rfl ?_
          refine o_mv st rfl rfl ?_
          refine c_nil ?_
          refine l_then ?_
          refine c_block ?_
          refine c_loop (σ := Int) (fun (t91 : Int) (a : Act) (w : World) => Has 54 [(1, (.pointer (some ⟨b6, 0, none⟩))), (31, (.slice a3 l4 q5)), (32, (.int .i64 (s_0.xChains.length : Int))), (33, (.int .i64 t80)), (38, v89), (39, (.int .i64 (r88.length : Int))), (40, (.int .i64 t91))] a ∧ Mem (gB F [] w0) (feet []) w0 [ownCh elInt 3 v89 r88, cellCh b6 [(.slice a3 l4 q5), (.bool s_0.xAccept)] 25, snapCh w0 F] w) (fun a w hE hm => ⟨hE.sub ⟨rfl, rfl, rfl, rfl, rfl, rfl, rfl, trivial⟩, (hm.pick [0, 1, 2] rfl)⟩) ?_
          rintro nx92 t91 a w ⟨hE, hm⟩ h
          refine nx_of hE hm h ?_
          clear hE hm h
          refine c_seq ?_
          refine c_region ?_
          refine o_lss st rfl rfl rfl ?_
          refine c_nil ?_
          refine l_then ?_
          refine c_seq ?_
          refine c_cond rfl ?_ ?_
          · refine c_skip ?_
            refine l_then ?_
            refine c_seq ?_
            refine c_block ?_
            refine c_seq ?_
            refine c_region ?_
            refine o_idx st 0 rfl reads_own rfl rfl rfl el99 ?_; intro e93 h94
            refine o_lds st (enc := encInt) (u := (.int .i64 e93)) 0 rfl reads_own flelInt rfl h94 rfl rfl ty3 rfl ?_
            refine o_as st rfl rfl ?_
            refine c_nil ?_
            refine l_then ?_
            refine c_seq ?_
            refine c_region ?_
            refine o_mv st rfl rfl ?_
            refine o_fad st rfl rfl fld25_0 rfl ?_
            refine o_ldc st (v := (.slice a3 l4 q5)) 1 rfl rfl rfl ty23 rfl ?_
            refine o_len st el23 2 rfl (reads_snap hv1) rfl rfl ?_
            refine o_geq st rfl rfl rfl ?_
            refine c_nil ?_
            refine l_then ?_
            refine c_cond rfl ?_ ?_
            · refine c_seq ?_
              refine c_region ?_
              refine o_as st rfl rfl ?_
              refine c_nil ?_
              refine l_then ?_
              refine c_ret ?_
              refine b_ret ?_
              refine l_ret ?_
              refine l_ret ?_
              refine b_ret ?_
              refine b_ret ?_
              refine l_ret ?_
              refine l_ret ?_
              refine b_ret ?_
              refine l_ret ?_
              exact l_end1 Tryd.results52 false () (rv_t rfl) (fun _ _ => NewCh.nil _ _ _ _)
            · refine c_skip ?_
              refine b_norm ?_
              refine l_then ?_
              refine c_region ?_
              refine o_add st rfl rfl rfl ?_; intro t95
              refine o_mv st rfl rfl ?_
              refine c_nil ?_
              exact l_join t95 (fun a w hE hm => ⟨hE.sub ⟨rfl, rfl, rfl, rfl, rfl, rfl, rfl, trivial⟩, (hm.pick [0, 1, 2] rfl)⟩)
          · refine c_exit ?_
            refine l_exit ?_
            refine l_exit ?_
            refine b_exit ?_
            refine b_norm ?_
            refine l_then ?_
            refine c_region ?_
            refine o_add st rfl rfl rfl ?_; intro t96
            refine o_mv st rfl rfl ?_
            refine c_nil ?_
            exact l_join t96 (fun a w hE hm => ⟨hE.sub ⟨rfl, rfl, rfl, rfl, trivial⟩, (hm.pick [1, 2] rfl)⟩)
        · refine c_exit ?_
          refine l_exit ?_
          refine l_exit ?_
          refine b_exit ?_
          refine l_then ?_
          refine c_seq ?_
          refine c_region ?_
          refine o_fad st rfl rfl fld25_0 rfl ?_
          refine o_ldc st (v := (.slice a3 l4 q5)) 0 rfl rfl rfl ty23 rfl ?_
          refine stw (o_callP (vs := [(.slice a3 l4 q5)]) Tryd.call89 rfl rfl (by intro w m h; exact (w_impl_acyclic (F := allB [] w) (chains_0 := s_0.xChains) allB_ok (m.rd0 1 rfl (reads_snap hv1)) h).mono (fun _ _ k => ret_free (fun r u => fr_nil) k)) ?_); rintro r97 _
          refine o_as st rfl rfl ?_
          refine c_nil ?_
          refine l_then ?_
          refine c_ret ?_
          exact l_end1 Tryd.results52 r97 () (rv_t rfl) (fun _ _ => NewCh.nil _ _ _ _)

set_option maxRecDepth 100000 in
set_option maxHeartbeats 8000000 in
theorem w_impl_Packet_fields {w0 : World} {F : Nat → Prop} {p_0 : GPacket} {κ : A4Int → Prop} (hF : ∀ b, F b → b < w0.heap.size ∧ ¬ feet [] b) (h : L_impl_Packet_fields p_0 κ) :
    Calls Tryd.prog 94 #[(.agg #[(.int .i64 p_0.xFrom), (.int .i64 p_0.xTo), (.int .i64 p_0.xPort), (.int .i64 p_0.xProto)])] w0 (Ret [] F w0 κ (fun (r : A4Int) (u : Unit) => (.agg #[(.int .i64 r.x0), (.int .i64 r.x1), (.int .i64 r.x2), (.int .i64 r.x3)])) (fun (r : A4Int) (u : Unit) => [])) := by
  refine enter0 (args := [(.agg #[(.int .i64 p_0.xFrom), (.int .i64 p_0.xTo), (.int .i64 p_0.xPort), (.int .i64 p_0.xProto)])]) [] hF (Given.nil _ _) Tryd.func94 rfl Tryd.ntmps94 rfl h ?_
  clear h hF
  refine c_seq ?_
  refine c_region ?_
  refine stw (o_box rfl rfl [(.int .i64 p_0.xFrom), (.int .i64 p_0.xTo), (.int .i64 p_0.xPort), (.int .i64 p_0.xProto)] rfl ?_); intro b1
  refine stw (o_allocA (El' := elInt) (z := (0 : Int)) (len := 4) (zs := [(.int .i64 0)]) (fun F w => (flelInt _ _ _ _).2 rfl) rfl zero138 rfl rfl ?_); intro b3
  refine c_nil ?_
  refine l_then ?_
  refine c_seq ?_
  refine c_region ?_
  refine o_fad st rfl rfl fld40_0 rfl ?_
  refine o_ldc st (v := (.int .i64 p_0.xFrom)) 1 rfl rfl rfl ty3 rfl ?_
  refine o_fad st rfl rfl fld40_1 rfl ?_
  refine o_ldc st (v := (.int .i64 p_0.xTo)) 1 rfl rfl rfl ty3 rfl ?_
  refine o_fad st rfl rfl fld40_2 rfl ?_
  refine o_ldc st (v := (.int .i64 p_0.xPort)) 1 rfl rfl rfl ty3 rfl ?_
  refine o_fad st rfl rfl fld40_3 rfl ?_
  refine o_ldc st (v := (.int .i64 p_0.xProto)) 1 rfl rfl rfl ty3 rfl ?_
  refine o_bldA st (qs := [(0, (.int .i64 p_0.xFrom)), (1, (.int .i64 p_0.xTo)), (2, (.int .i64 p_0.xPort)), (3, (.int .i64 p_0.xProto))]) (cells := [(.int .i64 p_0.xFrom), (.int .i64 p_0.xTo), (.int .i64 p_0.xPort), (.int .i64 p_0.xProto)]) (by intro ρ h; simp only [List.map_toArray, List.map_cons, List.map_nil, h (.tmp 4) _ rfl, h (.tmp 6) _ rfl, h (.tmp 8) _ rfl, h (.tmp 10) _ rfl]) rfl bld138 rfl ?_
  refine stw (o_stA (El' := elInt) (len := 4) 0 rfl ([p_0.xFrom, p_0.xTo, p_0.xPort, p_0.xProto]) ([[(.int .i64 p_0.xFrom)], [(.int .i64 p_0.xTo)], [(.int .i64 p_0.xPort)], [(.int .i64 p_0.xProto)]]) (fun w m => ⟨(flelInt _ _ _ _).2 rfl, (flelInt _ _ _ _).2 rfl, (flelInt _ _ _ _).2 rfl, (flelInt _ _ _ _).2 rfl, trivial⟩) rfl rfl rfl rfl rfl rfl ty138 rfl rfl ?_)
  refine c_nil ?_
  refine l_then ?_
  refine c_ret ?_
  refine nx_unarr 0 rfl rfl rfl (by decide) ?_
  rintro wr6 ff7 _ hrows_; obtain ⟨rfl⟩ := rows_f4 flelInt hrows_
  exact l_end1 Tryd.results94 (A4Int.mk p_0.xFrom p_0.xTo p_0.xPort p_0.xProto) () (rv_c 1 rfl rfl ty138 rfl) (fun _ _ => NewCh.nil _ _ _ _)

set_option maxRecDepth 100000 in
set_option maxHeartbeats 8000000 in
theorem w_impl_PacketValid {w0 : World} {F : Nat → Prop} {p_0 : GPacket} {κ : Bool → Prop} (hF : ∀ b, F b → b < w0.heap.size ∧ ¬ feet [] b) (hgl0 : Sl elGFieldShape F w0 (.slice (some ⟨0, 0, none⟩) 4 4) gl_impl_fieldShapes) (h : L_impl_PacketValid p_0 κ) :
    Calls Tryd.prog 61 #[(.agg #[(.int .i64 p_0.xFrom), (.int .i64 p_0.xTo), (.int .i64 p_0.xPort), (.int .i64 p_0.xProto)])] w0 (Ret [] F w0 κ (fun (r : Bool) (u : Unit) => (.bool r)) (fun (r : Bool) (u : Unit) => [])) := by
  refine enterS (args := [(.agg #[(.int .i64 p_0.xFrom), (.int .i64 p_0.xTo), (.int .i64 p_0.xPort), (.int .i64 p_0.xProto)])]) [] hF (Given.nil _ _) Tryd.func61 rfl Tryd.ntmps61 rfl h ?_
  clear h hF
  refine c_seq ?_
  refine c_region ?_
  refine stw (o_box rfl rfl [(.int .i64 p_0.xFrom), (.int .i64 p_0.xTo), (.int .i64 p_0.xPort), (.int .i64 p_0.xProto)] rfl ?_); intro b1
  refine o_as st rfl rfl ?_
  refine c_nil ?_
  refine l_then ?_
  refine c_seq ?_
  refine c_seq ?_
  refine c_region ?_
  refine o_ldc st (v := (.agg #[(.int .i64 p_0.xFrom), (.int .i64 p_0.xTo), (.int .i64 p_0.xPort), (.int .i64 p_0.xProto)])) 0 rfl rfl rfl ty40 rfl ?_
  refine stw (o_callP (vs := [(.agg #[(.int .i64 p_0.xFrom), (.int .i64 p_0.xTo), (.int .i64 p_0.xPort), (.int .i64 p_0.xProto)])]) Tryd.call94 rfl rfl (by intro w m h; exact (w_impl_Packet_fields (F := allB [] w) (p_0 := p_0) allB_ok h).mono (fun _ _ k => ret_free (fun r u => fr_nil) k)) ?_); rintro r3 _
  refine o_mv st rfl rfl ?_
  refine c_nil ?_
  refine l_then ?_
  refine c_block ?_
  refine c_loop (σ := Int) (fun (t4 : Int) (a : Act) (w : World) => Has 20 [(6, (.agg #[(.int .i64 r3.x0), (.int .i64 r3.x1), (.int .i64 r3.x2), (.int .i64 r3.x3)])), (7, (.int .i64 t4))] a ∧ Mem (gB F [] w0) (feet []) w0 [snapCh w0 F] w) (fun a w hE hm => ⟨hE.sub ⟨rfl, rfl, trivial⟩, (hm.pick [1] rfl)⟩) ?_
  rintro nx5 t4 a w ⟨hE, hm⟩ h
  refine nx_of hE hm h ?_
  clear hE hm h
  refine c_seq ?_
  refine c_region ?_
  refine o_lss st rfl rfl rfl ?_
  refine c_nil ?_
  refine l_then ?_
  refine c_seq ?_
  refine c_cond rfl ?_ ?_
  · refine c_skip ?_
    refine l_then ?_
    refine c_seq ?_
    refine c_block ?_
    refine c_seq ?_
    refine c_region ?_
    refine o_mv st rfl rfl ?_
    refine o_ixv st (enc := encInt) (zs := [r3.x0, r3.x1, r3.x2, r3.x3]) (u := fun (e6 : Int) => (.int .i64 e6)) rfl rfl rfl arr138 rfl rfl (fun _ => rfl) (fun _ => rfl) ?_; intro e6
    refine o_as st rfl rfl ?_
    refine o_as st rfl rfl ?_
    refine c_nil ?_
    refine l_then ?_
    refine c_join (σ := Bool) (fun (t68 : Bool) (a : Act) (w : World) => Has 20 [(6, (.agg #[(.int .i64 r3.x0), (.int .i64 r3.x1), (.int .i64 r3.x2), (.int .i64 r3.x3)])), (7, (.int .i64 t4)), (18, (.bool t68))] a ∧ Mem (gB F [] w0) (feet []) w0 [snapCh w0 F] w) ?_ ?_
    · intro k69
      refine c_region ?_
      refine o_mv st rfl rfl ?_
      refine o_lss st rfl rfl rfl ?_
      refine o_mv st rfl rfl ?_
      refine st_sp (dj := 13) rfl ?_ ?_
      · refine st_s rfl rfl rfl rfl ?_
        refine st_s rfl rfl rfl rfl ?_
        refine st_s rfl rfl rfl rfl ?_
        refine st_s rfl rfl rfl rfl ?_
        refine o_pickT st rfl rfl rfl ?_
        refine c_nil ?_
        exact l_join true (fun a w hE hm => ⟨hE.sub ⟨rfl, rfl, rfl, trivial⟩, (hm.pick [0] rfl)⟩)
      · refine o_mv (st_g rfl rfl) rfl rfl ?_
        refine o_mv (st_g rfl rfl) rfl rfl ?_
        refine st_gw rfl rfl (o_callP (vs := [(.int .i64 t4)]) Tryd.call95 rfl rfl (by intro w m h; exact (w_impl_FieldTop (F := allB [] w) (n_0 := t4) allB_ok (m.rd0 0 rfl (reads_snap hgl0)) h).mono (fun _ _ k => ret_free (fun r u => fr_nil) k)) ?_); rintro r7 _
        refine o_gtr (st_g rfl rfl) rfl rfl rfl ?_
        refine o_pickF st rfl rfl rfl ?_
        refine c_nil ?_
        exact l_join (decide (r7 < e6)) (fun a w hE hm => ⟨hE.sub ⟨rfl, rfl, rfl, trivial⟩, (hm.pick [0] rfl)⟩)
    · rintro t68 a w ⟨hE, hm⟩ h
      refine nx_of hE hm h ?_
      clear hE hm h
      refine c_cond rfl ?_ ?_
      · refine c_seq ?_
        refine c_region ?_
        refine o_as st rfl rfl ?_
        refine c_nil ?_
        refine l_then ?_
        refine c_ret ?_
        refine b_ret ?_
        refine l_ret ?_
        refine l_ret ?_
        refine b_ret ?_
        refine l_ret ?_
        exact l_end1 Tryd.results61 false () (rv_t rfl) (fun _ _ => NewCh.nil _ _ _ _)
      · refine c_skip ?_
        refine b_norm ?_
        refine l_then ?_
        refine c_region ?_
        refine o_add st rfl rfl rfl ?_; intro t70
        refine o_mv st rfl rfl ?_
        refine c_nil ?_
        exact l_join t70 (fun a w hE hm => ⟨hE.sub ⟨rfl, rfl, trivial⟩, (hm.pick [0] rfl)⟩)
  · refine c_exit ?_
    refine l_exit ?_
    refine l_exit ?_
    refine b_exit ?_
    refine l_then ?_
    refine c_seq ?_
    refine c_region ?_
    refine o_as st rfl rfl ?_
    refine c_nil ?_
    refine l_then ?_
    refine c_ret ?_
    exact l_end1 Tryd.results61 true () (rv_t rfl) (fun _ _ => NewCh.nil _ _ _ _)

end

end Go.Proofs.YtigdghiknfehhaaDoor
