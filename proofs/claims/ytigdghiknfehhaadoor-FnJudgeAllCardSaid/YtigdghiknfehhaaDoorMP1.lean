/- Texts of this seat, put together. -/
import Derived.Test.YtigdghiknfehhaaDoorEls
import Derived.Test.YtigdghiknfehhaaDoorMA0
import Derived.Laws.BitsLemmas
import Derived.Test.YtigdghiknfehhaaDoorRows
import Derived.Test.YtigdghiknfehhaaDoorMA1
set_option linter.unusedSimpArgs false
set_option linter.unusedVariables false
namespace Go.Proofs.YtigdghiknfehhaaDoor
section
open Go.RowKit
@[ext] structure GSpan where
  xLo : Int
  xHi : Int
  deriving DecidableEq
def encGSpan (x : GSpan) : List Value := [(.int .i64 x.xLo), (.int .i64 x.xHi)]
def elGSpan : El GSpan := El.flat 2 encGSpan (by decide) (fun _ => rfl) (fun x u h => by simp only [encGSpan, List.mem_cons, List.not_mem_nil, or_false] at h; rcases h with rfl | rfl <;> rfl)
theorem flelGSpan : Flat elGSpan encGSpan := flat_flat
@[ext] structure GTest where
  xField : Int
  xLo : Int
  xHi : Int
  xNot : Bool
  deriving DecidableEq
def encGTest (x : GTest) : List Value := [(.int .i64 x.xField), (.int .i64 x.xLo), (.int .i64 x.xHi), (.bool x.xNot)]
def elGTest : El GTest := El.flat 4 encGTest (by decide) (fun _ => rfl) (fun x u h => by simp only [encGTest, List.mem_cons, List.not_mem_nil, or_false] at h; rcases h with rfl | rfl | rfl | rfl <;> rfl)
theorem flelGTest : Flat elGTest encGTest := flat_flat
abbrev dGTest : DEl GTest := dflat elGTest encGTest flelGTest
@[ext] structure GRule where
  xTests : (List GTest)
  xAction : Int
  xChain : Int
  deriving DecidableEq
def encGRule (u : Value) (x : GRule) : List Value := [u, (.int .i64 x.xAction), (.int .i64 x.xChain)]
def elGRule : El GRule where
  size := 3
  cells := fun F w x cs => ∃ u : Value, cs = encGRule u x ∧ Sl elGTest F w u x.xTests
  pos := by decide
  len := fun F w x cs ⟨u, e, _⟩ => by rw [e]; rfl
  one := fun F w x cs ⟨u, e, h⟩ v hv => by
    subst e
    simp only [encGRule, List.mem_cons, List.not_mem_nil, or_false] at hv
    rcases hv with e | e | e
    · subst e; exact h.one
    · subst e; exact rfl
    · subst e; exact rfl
  keep := fun F F' w w' x cs hF hb ⟨u, e, h⟩ => ⟨u, e, h.keep hF hb⟩
def dGRule : DEl GRule where
  el := elGRule
  own := fun B w x cs => ∃ u : Value, cs = encGRule u x ∧ Dp dGTest 173 B w u x.xTests
  read := fun B w x cs ⟨u, e, h⟩ => ⟨u, e, h.sl⟩
  keep := fun B w w' x cs hk ⟨u, e, h⟩ => ⟨u, e, h.keep hk⟩
  lt := fun B w x cs ⟨u, e, h⟩ => h.lt
@[ext] structure GRuleset where
  xChains : (List (List GRule))
  xAccept : Bool
  deriving DecidableEq
@[ext] structure GPacket where
  xFrom : Int
  xTo : Int
  xPort : Int
  xProto : Int
  deriving DecidableEq
def encGPacket (x : GPacket) : List Value := [(.int .i64 x.xFrom), (.int .i64 x.xTo), (.int .i64 x.xPort), (.int .i64 x.xProto)]
def elGPacket : El GPacket := El.flat 4 encGPacket (by decide) (fun _ => rfl) (fun x u h => by simp only [encGPacket, List.mem_cons, List.not_mem_nil, or_false] at h; rcases h with rfl | rfl | rfl | rfl <;> rfl)
theorem flelGPacket : Flat elGPacket encGPacket := flat_flat
@[ext] structure A4Int where
  x0 : Int
  x1 : Int
  x2 : Int
  x3 : Int
  deriving DecidableEq
@[ext] structure GDeciding where
  xAccept : Bool
  deriving DecidableEq
@[ext] structure GCalling where
  xChain : Int
  deriving DecidableEq
@[ext] structure GReturning where
  deriving DecidableEq
@[ext] structure GPassing where
  deriving DecidableEq
@[ext] structure GFlow where
  xWho : GPacket
  xUntil : Int
  deriving DecidableEq
@[ext] structure GPlace where
  xChain : Int
  xNext : Int
  deriving DecidableEq
def encGPlace (x : GPlace) : List Value := [(.int .i64 x.xChain), (.int .i64 x.xNext)]
def elGPlace : El GPlace := El.flat 2 encGPlace (by decide) (fun _ => rfl) (fun x u h => by simp only [encGPlace, List.mem_cons, List.not_mem_nil, or_false] at h; rcases h with rfl | rfl <;> rfl)
theorem flelGPlace : Flat elGPlace encGPlace := flat_flat
@[ext] structure GVisit where
  xChain : Int
  xPlace : Int
  deriving DecidableEq
def encGVisit (x : GVisit) : List Value := [(.int .i64 x.xChain), (.int .i64 x.xPlace)]
def elGVisit : El GVisit := El.flat 2 encGVisit (by decide) (fun _ => rfl) (fun x u h => by simp only [encGVisit, List.mem_cons, List.not_mem_nil, or_false] at h; rcases h with rfl | rfl <;> rfl)
theorem flelGVisit : Flat elGVisit encGVisit := flat_flat
@[ext] structure GFieldShape where
  xName : ByteArray
  xTop : Int
  deriving DecidableEq
def encGFieldShape (x : GFieldShape) : List Value := [(.string x.xName), (.int .i64 x.xTop)]
def elGFieldShape : El GFieldShape := El.flat 2 encGFieldShape (by decide) (fun _ => rfl) (fun x u h => by simp only [encGFieldShape, List.mem_cons, List.not_mem_nil, or_false] at h; rcases h with rfl | rfl <;> rfl)
theorem flelGFieldShape : Flat elGFieldShape encGFieldShape := flat_flat
inductive IAction where
  | kDeciding (x : GDeciding)
  | kCalling (x : GCalling)
  | kReturning (x : GReturning)
  | kPassing (x : GPassing)
def ivIAction : IAction → Value
  | .kDeciding x => .iface 178 (.agg #[(.bool x.xAccept)])
  | .kCalling x => .iface 180 (.agg #[(.int .i64 x.xChain)])
  | .kReturning x => .iface 182 (.agg #[])
  | .kPassing x => .iface 183 (.agg #[])
def IAction.casesW (a : IAction) (p0 : GDeciding → Prop) (p1 : GCalling → Prop) (p2 : GReturning → Prop) (p3 : GPassing → Prop) : Prop := match a with
  | .kDeciding x => p0 x
  | .kCalling x => p1 x
  | .kReturning x => p2 x
  | .kPassing x => p3 x
/-- what the package-level variable reads as -/
def gl_impl_fieldShapes : List GFieldShape := [⟨(ByteArray.mk #[102, 114, 111, 109]), 65535⟩, ⟨(ByteArray.mk #[116, 111]), 65535⟩, ⟨(ByteArray.mk #[112, 111, 114, 116]), 255⟩, ⟨(ByteArray.mk #[112, 114, 111, 116, 111]), 7⟩]

def L_spec_l20Open (code_0 : (List UInt8)) (κ : ((List UInt8) × Int) → Prop) : Prop :=
  jnW (fun (xs68 : (List UInt8)) => κ (xs68, 0)) (fun k71 => ifW (decide (2000 < (code_0.length : Int))) (sliceW code_0 0 2000 (fun xs4 => k71 xs4)) (k71 code_0))

def L_spec_l20Rd_pick (r_0_b : (List UInt8)) (r_0_p : Int) (n_1 : Int) (κ : (Int × Int) → Prop) : Prop :=
  addW r_0_p 1 (fun t5 => jnW (fun (t66 : Bool) => ifW t66 (κ (0, t5)) (subW t5 1 (fun t68 => ifW (decide (t68 < (r_0_b.length : Int))) (idxW r_0_b t68 (fun e69 => remW (e69.toNat : Int) n_1 (fun t71 => κ (t71, t5)))) (remW t68 (r_0_b.length : Int) (fun t72 => idxW r_0_b t72 (fun e73 => mulW (e73.toNat : Int) 131 (fun t75 => mulW t68 7 (fun t76 => addW t76 3 (fun t77 => remW t77 (r_0_b.length : Int) (fun t78 => idxW r_0_b t78 (fun e79 => mulW (e79.toNat : Int) 1117 (fun t81 => addW t75 t81 (fun t82 => mulW t68 29 (fun t83 => addW t82 t83 (fun t84 => quoW t68 (r_0_b.length : Int) (fun t85 => mulW t85 53 (fun t86 => addW t84 t86 (fun t87 => quoW t87 64 (fun t88 => xorW t87 t88 (fun t89 => remW t89 n_1 (fun t90 => κ (t90, t5)))))))))))))))))))))) (fun k67 => ifW (decide (n_1 < 1)) (k67 true) (k67 (decide ((r_0_b.length : Int) = 0)))))

def L_spec_l20Rd_odd (r_0_b : (List UInt8)) (r_0_p : Int) (n_1 : Int) (κ : (Bool × Int) → Prop) : Prop :=
  jnW (fun ((t68, t69) : (Int × Bool)) => κ (t69, t68)) (fun k70 => ifW (decide (0 < n_1)) (L_spec_l20Rd_pick r_0_b r_0_p n_1 (fun (r5, r6) => subW n_1 1 (fun t7 => k70 (r6, (decide (r5 = t7)))))) (k70 (r_0_p, false)))

def L_spec_FieldTop (n_0 : Int) (κ : Int → Prop) : Prop :=
  jnW (fun (t61 : Bool) => ifW t61 (κ 65535) (ifW (decide (n_0 = 2)) (κ 255) (ifW (decide (n_0 = 3)) (κ 7) (κ (-1))))) (fun k62 => ifW (decide (n_0 = 0)) (k62 (decide (n_0 = 0))) (k62 (decide (n_0 = 1))))

def L_spec_l20Span (r_0_b : (List UInt8)) (r_0_p : Int) (top_1 : Int) (n_2 : Int) (κ : (GSpan × Int) → Prop) : Prop :=
  addW top_1 1 (fun t7 => L_spec_l20Rd_pick r_0_b r_0_p (min 256 t7) (fun (r8, r9) => jnW (fun ((t144, t145) : (Int × Int)) => jnW (fun ((t147, t148) : (Int × Int)) => L_spec_l20Rd_odd r_0_b t147 n_2 (fun (r174, r175) => ifW r174 (jnW (fun ((t176, t177, t178) : (Int × Int × Int)) => κ ((GSpan.mk t177 t178), t176)) (fun k179 => L_spec_l20Rd_pick r_0_b r175 3 (fun (r181, r182) => idxW ([(GSpan.mk (w64 (t148 + 1)) t148), (GSpan.mk (-1) t148), (GSpan.mk t145 (w64 (top_1 + 1)))]) r181 (fun e183 => k179 (r182, e183.xLo, e183.xHi))))) (κ ((GSpan.mk t145 t148), r175)))) (fun k149 => L_spec_l20Rd_pick r_0_b t144 4 (fun (r150, r151) => L_spec_l20Rd_pick r_0_b r151 256 (fun (r152, r153) => L_spec_l20Rd_pick r_0_b r153 4 (fun (r155, r156) => idxW ([0, r150, r152, 4096]) r155 (fun e157 => k149 (r156, (min top_1 (w64 (t145 + e157)))))))))) (fun k146 => jnW (fun ((t74, t75) : (Int × Bool)) => ifW t75 (jnW (fun ((t77, t78) : (Int × Int)) => k146 (t77, t78)) (fun k79 => L_spec_l20Rd_pick r_0_b t74 256 (fun (r80, r81) => k79 (r81, (min top_1 (w64 ((w64 (r8 * 256)) + r80))))))) (k146 (t74, r8))) (fun k76 => ifW (decide (255 < top_1)) (L_spec_l20Rd_pick r_0_b r9 2 (fun (r12, r13) => k76 (r13, (decide (r12 = 0))))) (k76 (r9, false))))))

def L_spec_l20Test (r_0_b : (List UInt8)) (r_0_p : Int) (n_1 : Int) (κ : (GTest × Int) → Prop) : Prop :=
  L_spec_l20Rd_pick r_0_b r_0_p 4 (fun (r7, r8) => L_spec_l20Rd_pick r_0_b r8 4 (fun (r9, r10) => L_spec_FieldTop r7 (fun r13 => L_spec_l20Span r_0_b r10 r13 0 (fun (r14, r15) => jnW (fun ((t152, t153, t154) : (Int × Int × Int)) => jnW (fun ((t241, t242, t243) : (Int × Int × Int)) => jnW (fun ((t317, t318, t319, t320) : (Int × Int × Int × Int)) => κ ((GTest.mk t318 t319 t320 (decide (r9 = 0))), t317)) (fun k321 => L_spec_l20Rd_odd r_0_b t241 n_1 (fun (r245, r246) => ifW r245 (L_spec_l20Rd_pick r_0_b r246 3 (fun (r247, r248) => ifW (decide (r247 = 0)) (L_spec_l20Rd_pick r_0_b r248 2 (fun (r251, r252) => idxW ([(-1), 4]) r251 (fun e253 => k321 (r252, e253, t242, t243)))) (ifW (decide (r247 = 1)) (addW t243 1 (fun t255 => k321 (r248, r7, t255, t243))) (addW r13 1 (fun t256 => k321 (r248, r7, t242, t256)))))) (k321 (r246, r7, t242, t243))))) (fun k244 => L_spec_l20Rd_pick r_0_b t152 8 (fun (r156, r157) => ifW (decide (r156 = 0)) (jnW (fun ((t158, t159, t160) : (Int × Int × Int)) => k244 (t158, t159, t160)) (fun k161 => L_spec_l20Rd_pick r_0_b r157 3 (fun (r163, r164) => idxW ([(GSpan.mk 0 r13), (GSpan.mk 0 t154), (GSpan.mk t153 r13)]) r163 (fun e165 => k161 (r164, e165.xLo, e165.xHi))))) (k244 (r157, t153, t154))))) (fun k155 => jnW (fun ((t80, t81) : (Int × Bool)) => ifW t81 (L_spec_l20Rd_pick r_0_b t80 20 (fun (r83, r84) => jnW (fun ((t85, t86) : (Int × Int)) => k155 (t85, r83, t86)) (fun k87 => L_spec_l20Rd_pick r_0_b r84 8 (fun (r88, r89) => k87 (r89, (w64 (r83 + r88))))))) (k155 (t80, r14.xLo, r14.xHi))) (fun k82 => ifW (decide (r7 < 2)) (L_spec_l20Rd_pick r_0_b r15 2 (fun (r18, r19) => k82 (r19, (decide (r18 = 0))))) (k82 (r15, false))))))))

def L_spec_l20Tests (r_0_b : (List UInt8)) (r_0_p : Int) (n_1 : Int) (κ : ((List GTest) × Int) → Prop) : Prop :=
  L_spec_l20Rd_pick r_0_b r_0_p 4 (fun (r8, r9) => loopW (fun (nx16 : (Int × (List GTest) × Int) → Prop) ((t10, xs12, t15) : (Int × (List GTest) × Int)) => ifW (decide (0 < t15)) (L_spec_l20Test r_0_b t10 0 (fun (r17, r18) => appW xs12 ([r17]) (fun _ => subW t15 1 (fun t23 => nx16 (r18, (xs12 ++ ([r17])), t23))))) (jnW (fun ((t97, xs99) : (Int × (List GTest))) => κ (xs99, t97)) (fun k102 => L_spec_l20Rd_odd r_0_b t10 n_1 (fun (r24, r25) => ifW r24 (L_spec_l20Rd_pick r_0_b r25 2 (fun (r26, r27) => ifW (decide (r26 = 0)) (L_spec_l20Test r_0_b r27 1 (fun (r28, r29) => appW xs12 ([r28]) (fun _ => k102 (r29, (xs12 ++ ([r28])))))) (makeW ((GTest.mk 0 0 0 false) : GTest) 7 7 (fun xs35 => k102 (r27, xs35))))) (k102 (r25, xs12)))))) (r9, [], r8))

def L_spec_l20Rule (r_0_b : (List UInt8)) (r_0_p : Int) (first_1 : Int) (chains_2 : Int) (n_3 : Int) (κ : (GRule × Int) → Prop) : Prop :=
  L_spec_l20Tests r_0_b r_0_p 0 (fun (r7, r10) => L_spec_l20Rd_pick r_0_b r10 8 (fun (r13, r14) => idxW ([1, 1, 2, 2, 3, 3, 4, 5]) r13 (fun e15 => jnW (fun ((t86, t87, t88) : (Int × Int × Int)) => jnW (fun ((t173, xs175, t178, t179) : (Int × (List GTest) × Int × Int)) => κ ((GRule.mk xs175 t178 t179), t173)) (fun k180 => L_spec_l20Rd_odd r_0_b t88 n_3 (fun (r90, r91) => ifW r90 (L_spec_l20Rd_pick r_0_b r91 3 (fun (r92, r93) => ifW (decide (r92 = 0)) (L_spec_l20Rd_pick r_0_b r93 2 (fun (r96, r97) => idxW ([0, 6]) r96 (fun e98 => k180 (r97, r7, e98, t87)))) (ifW (decide (r92 = 1)) (L_spec_l20Rd_pick r_0_b r93 3 (fun (r102, r103) => idxW ([(-1), 5, 1]) r102 (fun e104 => k180 (r103, r7, t86, e104)))) (L_spec_l20Tests r_0_b r93 1 (fun (r106, r109) => k180 (r109, r106, t86, t87)))))) (k180 (r91, r7, t86, t87))))) (fun k89 => ifW (decide (e15 = 3)) (ifW (decide (chains_2 ≤ first_1)) (k89 (2, 0, r14)) (subW chains_2 first_1 (fun t22 => L_spec_l20Rd_pick r_0_b r14 t22 (fun (r23, r24) => addW first_1 r23 (fun t25 => k89 (e15, t25, r24)))))) (k89 (e15, 0, r14))))))

def L_spec_l20Rules (r_0_b : (List UInt8)) (r_0_p : Int) (first_1 : Int) (chains_2 : Int) (n_3 : Int) (κ : ((List GRule) × Int) → Prop) : Prop :=
  L_spec_l20Rd_pick r_0_b r_0_p 5 (fun (r9, r10) => loopW (fun (nx18 : (Int × (List GRule) × Int) → Prop) ((t11, xs13, t17) : (Int × (List GRule) × Int)) => ifW (decide (0 < t17)) (L_spec_l20Rule r_0_b t11 first_1 chains_2 0 (fun (r19, r22) => appW xs13 ([r19]) (fun _ => subW t17 1 (fun t32 => nx18 (r22, (xs13 ++ ([r19])), t32))))) (jnW (fun ((t122, xs124) : (Int × (List GRule))) => κ (xs124, t122)) (fun k128 => L_spec_l20Rd_odd r_0_b t11 n_3 (fun (r33, r34) => ifW r33 (L_spec_l20Rd_pick r_0_b r34 2 (fun (r35, r36) => ifW (decide (r35 = 0)) (L_spec_l20Rule r_0_b r36 first_1 chains_2 1 (fun (r37, r40) => appW xs13 ([r37]) (fun _ => k128 (r40, (xs13 ++ ([r37])))))) (loopW (fun (nx55 : (List GRule) → Prop) (xs51 : (List GRule)) => ifW (decide ((xs51.length : Int) ≤ 8)) (appW xs51 ([(GRule.mk ([]) 5 0)]) (fun _ => nx55 (xs51 ++ ([(GRule.mk ([]) 5 0)])))) (k128 (r36, xs51))) xs13))) (k128 (r34, xs13)))))) (r10, [], r9))

def L_spec_l20Ruleset (r_0_b : (List UInt8)) (r_0_p : Int) (n_1 : Int) (κ : (GRuleset × Int) → Prop) : Prop :=
  L_spec_l20Rd_pick r_0_b r_0_p 2 (fun (r7, r8) => L_spec_l20Rd_pick r_0_b r8 3 (fun (r11, r12) => addW 1 r11 (fun t13 => loopW (fun (nx21 : (Int × (List (List GRule)) × Int) → Prop) ((t14, xs16, t20) : (Int × (List (List GRule)) × Int)) => ifW (decide (t20 < t13)) (jnW (fun ((xs25, t29) : ((List (List GRule)) × Int)) => addW t20 1 (fun t55 => nx21 (t29, xs25, t55))) (fun k30 => L_spec_l20Rules r_0_b t14 (w64 (t20 + 1)) t13 0 (fun (r31, r34) => appW xs16 ([r31]) (fun _ => k30 ((xs16 ++ ([r31])), r34))))) (jnW (fun ((t253, xs255) : (Int × (List (List GRule)))) => κ ((GRuleset.mk xs255 (decide (r7 = 0))), t253)) (fun k259 => L_spec_l20Rd_odd r_0_b t14 n_1 (fun (r56, r57) => ifW r56 (L_spec_l20Rd_pick r_0_b r57 4 (fun (r58, r59) => ifW (decide (r58 = 0)) (k259 (r59, [])) (ifW (decide (r58 = 1)) (jnW (fun ((xs69, t72) : ((List (List GRule)) × Int)) => k259 (t72, xs69)) (fun k73 => (idxW xs16 0 (fun e74 => L_spec_l20Rd_pick r_0_b r59 2 (fun (r80, r81) => idxW ([0, t13]) r80 (fun e82 => appW e74 ([(GRule.mk ([]) 3 e82)]) (fun _ => idxW xs16 0 (fun e89 => k73 ((xs16.set (0 : Int).toNat (e74 ++ ([(GRule.mk ([]) 3 e82)]))), r81))))))) ∧ ((idxW xs16 0 (fun e130 => L_spec_l20Rd_pick r_0_b r59 2 (fun (r80, r81) => idxW ([0, t13]) r80 (fun e82 => appW e130 ([(GRule.mk ([]) 3 e82)]) (fun _ => idxW xs16 0 (fun e89 => k73 ((xs16.set (0 : Int).toNat (e130 ++ ([(GRule.mk ([]) 3 e82)]))), r81))))))) ∧ (L_spec_l20Rd_pick r_0_b r59 2 (fun (r132, r133) => (idxW xs16 0 (fun e134 => idxW ([0, t13]) r132 (fun e82 => appW e134 ([(GRule.mk ([]) 3 e82)]) (fun _ => idxW xs16 0 (fun e89 => k73 ((xs16.set (0 : Int).toNat (e134 ++ ([(GRule.mk ([]) 3 e82)]))), r133)))))) ∧ (idxW ([0, t13]) r132 (fun e136 => idxW xs16 0 (fun e138 => appW e138 ([(GRule.mk ([]) 3 e136)]) (fun _ => idxW xs16 0 (fun e89 => k73 ((xs16.set (0 : Int).toNat (e138 ++ ([(GRule.mk ([]) 3 e136)]))), r133))))))))) ∧ (L_spec_l20Rd_pick r_0_b r59 2 (fun (r151, r152) => (idxW xs16 0 (fun e153 => idxW ([0, t13]) r151 (fun e82 => appW e153 ([(GRule.mk ([]) 3 e82)]) (fun _ => idxW xs16 0 (fun e89 => k73 ((xs16.set (0 : Int).toNat (e153 ++ ([(GRule.mk ([]) 3 e82)]))), r152)))))) ∧ ((idxW xs16 0 (fun e134 => idxW ([0, t13]) r151 (fun e82 => appW e134 ([(GRule.mk ([]) 3 e82)]) (fun _ => idxW xs16 0 (fun e89 => k73 ((xs16.set (0 : Int).toNat (e134 ++ ([(GRule.mk ([]) 3 e82)]))), r152)))))) ∧ (idxW ([0, t13]) r151 (fun e136 => idxW xs16 0 (fun e138 => appW e138 ([(GRule.mk ([]) 3 e136)]) (fun _ => idxW xs16 0 (fun e89 => k73 ((xs16.set (0 : Int).toNat (e138 ++ ([(GRule.mk ([]) 3 e136)]))), r152))))))))))) (ifW (decide (r58 = 2)) (subW t13 1 (fun t156 => idxW xs16 t156 (fun e160 => subW t13 1 (fun t167 => idxW (xs16.set (t156).toNat ([(GRule.mk ([]) 3 0)])) 0 (fun e171 => k259 (r59, ((xs16.set (t156).toNat ([(GRule.mk ([]) 3 0)])).set (0 : Int).toNat ([(GRule.mk ([]) 3 t167)])))))))) (L_spec_l20Rules r_0_b r59 1 t13 1 (fun (r181, r185) => idxW xs16 0 (fun e186 => k259 (r185, (xs16.set (0 : Int).toNat r181))))))))) (k259 (r57, xs16)))))) (r12, [], 0))))

def L_spec_l1In (n_0 : Int) (lo_1 : Int) (hi_2 : Int) (κ : Bool → Prop) : Prop :=
  jnW (fun (t61 : Bool) => κ t61) (fun k62 => ifW (decide (lo_1 ≤ n_0)) (k62 (decide (n_0 ≤ hi_2))) (k62 false))

def L_spec_PacketValid (p_0 : GPacket) (κ : Bool → Prop) : Prop :=
  jnW (fun (t67 : Bool) => κ t67) (fun k68 => L_spec_l1In p_0.xFrom 0 65535 (fun r3 => ifW r3 (L_spec_l1In p_0.xTo 0 65535 (fun r4 => ifW r4 (L_spec_l1In p_0.xPort 0 255 (fun r5 => ifW r5 (L_spec_l1In p_0.xProto 0 7 (fun r6 => k68 r6)) (k68 false))) (k68 false))) (k68 false)))

def L_spec_ReversePacket (p_0 : GPacket) (κ : GPacket → Prop) : Prop :=
  L_spec_PacketValid p_0 (fun r5 => ifW (!r5) (κ (GPacket.mk 0 0 0 0)) (κ (GPacket.mk p_0.xTo p_0.xFrom p_0.xPort p_0.xProto)))

def L_spec_l20Packet (r_0_b : (List UInt8)) (r_0_p : Int) (n_1 : Int) (κ : (GPacket × Int) → Prop) : Prop :=
  L_spec_l20Rd_pick r_0_b r_0_p 20 (fun (r7, r8) => L_spec_l20Rd_pick r_0_b r8 20 (fun (r9, r10) => L_spec_l20Rd_pick r_0_b r10 256 (fun (r11, r12) => L_spec_l20Rd_pick r_0_b r12 8 (fun (r13, r14) => jnW (fun ((t93, t94, t95, t96) : (Int × Int × Int × Int)) => jnW (fun ((t186, t187, t188, t189, t190) : (Int × Int × Int × Int × Int)) => κ ((GPacket.mk t187 t188 t189 t190), t186)) (fun k191 => L_spec_l20Rd_odd r_0_b t93 n_1 (fun (r98, r99) => ifW r98 (L_spec_l20Rd_pick r_0_b r99 4 (fun (r100, r101) => ifW (decide (r100 = 0)) (L_spec_l20Rd_pick r_0_b r101 2 (fun (r104, r105) => idxW ([(-1), 65536]) r104 (fun e106 => k191 (r105, e106, t95, t96, r13)))) (ifW (decide (r100 = 1)) (L_spec_l20Rd_pick r_0_b r101 2 (fun (r110, r111) => idxW ([(-1), 65536]) r110 (fun e112 => k191 (r111, t94, e112, t96, r13)))) (ifW (decide (r100 = 2)) (L_spec_l20Rd_pick r_0_b r101 2 (fun (r116, r117) => idxW ([(-1), 256]) r116 (fun e118 => k191 (r117, t94, t95, e118, r13)))) (L_spec_l20Rd_pick r_0_b r101 2 (fun (r122, r123) => idxW ([(-1), 8]) r122 (fun e124 => k191 (r123, t94, t95, t96, e124)))))))) (k191 (r99, t94, t95, t96, r13))))) (fun k97 => L_spec_l20Rd_pick r_0_b r14 2 (fun (r17, r18) => ifW (decide (r17 = 0)) (L_spec_l20Rd_pick r_0_b r18 256 (fun (r19, r20) => mulW r19 256 (fun t21 => L_spec_l20Rd_pick r_0_b r20 256 (fun (r22, r23) => addW t21 r22 (fun t24 => L_spec_l20Rd_pick r_0_b r23 4 (fun (r25, r26) => mulW r25 16384 (fun t27 => L_spec_l20Rd_pick r_0_b r26 256 (fun (r28, r29) => addW t27 r28 (fun t30 => L_spec_l20Rd_pick r_0_b r29 12 (fun (r31, r32) => k97 (r32, t24, t30, r31))))))))))) (k97 (r18, r7, r9, r11))))))))

def L_spec_l20Packets (r_0_b : (List UInt8)) (r_0_p : Int) (n_1 : Int) (κ : ((List GPacket) × Int) → Prop) : Prop :=
  L_spec_l20Rd_pick r_0_b r_0_p 7 (fun (r8, r9) => loopW (fun (nx16 : (Int × (List GPacket) × Int) → Prop) ((t10, xs12, t15) : (Int × (List GPacket) × Int)) => ifW (decide (0 < t15)) (jnW (fun ((xs157, t160) : ((List GPacket) × Int)) => subW t15 1 (fun t162 => nx16 (t160, xs157, t162))) (fun k161 => L_spec_l20Packet r_0_b t10 0 (fun (r17, r18) => appW xs12 ([r17]) (fun _ => jnW (fun ((t85, t86) : (Int × Bool)) => ifW t86 (L_spec_l20Rd_pick r_0_b t85 ((xs12 ++ ([r17])).length : Int) (fun (r88, r89) => idxW (xs12 ++ ([r17])) r88 (fun e90 => L_spec_ReversePacket e90 (fun r92 => appW (xs12 ++ ([r17])) ([r92]) (fun _ => k161 (((xs12 ++ ([r17])) ++ ([r92])), r89)))))) (k161 ((xs12 ++ ([r17])), t85))) (fun k87 => ifW (decide (1 < ((xs12 ++ ([r17])).length : Int))) (L_spec_l20Rd_pick r_0_b r18 3 (fun (r23, r24) => k87 (r24, (decide (r23 = 0))))) (k87 (r18, false))))))) (jnW (fun ((t236, xs238) : (Int × (List GPacket))) => κ (xs238, t236)) (fun k241 => L_spec_l20Rd_odd r_0_b t10 n_1 (fun (r163, r164) => ifW r163 (L_spec_l20Rd_pick r_0_b r164 2 (fun (r165, r166) => ifW (decide (r165 = 0)) (L_spec_l20Packet r_0_b r166 1 (fun (r167, r168) => appW xs12 ([r167]) (fun _ => k241 (r168, (xs12 ++ ([r167])))))) (makeW ((GPacket.mk 0 0 0 0) : GPacket) 51 51 (fun xs174 => k241 (r166, xs174))))) (k241 (r164, xs12)))))) (r9, [], r8))

def L_spec_DrawJudgeAll (code_0 : (List UInt8)) (κ : (GRuleset × (List GPacket)) → Prop) : Prop :=
  L_spec_l20Open code_0 (fun (r8, r11) => L_spec_l20Ruleset r8 r11 14 (fun (r12, r16) => L_spec_l20Packets r8 r16 12 (fun (r25, r28) => κ (r12, r25))))

def L_impl_FieldTop (n_0 : Int) (κ : Int → Prop) : Prop :=
  jnW (fun (t61 : Bool) => ifW t61 (κ (-1)) (idxW gl_impl_fieldShapes n_0 (fun e63 => κ e63.xTop))) (fun k62 => ifW (decide (n_0 < 0)) (k62 true) (k62 (decide (4 ≤ n_0))))

def L_impl_TestValid (t_0 : GTest) (κ : Bool → Prop) : Prop :=
  jnW (fun (t64 : Bool) => κ t64) (fun k65 => ifW (decide (0 ≤ t_0.xField)) (ifW (decide (t_0.xField < 4)) (ifW (decide (0 ≤ t_0.xLo)) (ifW (decide (t_0.xLo ≤ t_0.xHi)) (L_impl_FieldTop t_0.xField (fun r3 => k65 (decide (t_0.xHi ≤ r3)))) (k65 false)) (k65 false)) (k65 false)) (k65 false))

def L_impl_TestsValid (list_0 : (List GTest)) (κ : Bool → Prop) : Prop :=
  ifW (decide (6 < (list_0.length : Int))) (κ false) (loopW (fun (nx4 : Int → Prop) (t3 : Int) => ifW (decide (t3 < (list_0.length : Int))) (idxW list_0 t3 (fun e5 => L_impl_TestValid e5 (fun r9 => ifW (!r9) (κ false) (addW t3 1 (fun t10 => nx4 t10))))) (κ true)) 0)

def L_impl_RuleValid (r_0 : GRule) (κ : Bool → Prop) : Prop :=
  L_impl_TestsValid r_0.xTests (fun r8 => ifW (!r8) (κ false) (ifW (decide (r_0.xAction = 3)) (jnW (fun (t69 : Bool) => κ t69) (fun k70 => ifW (decide (0 ≤ r_0.xChain)) (k70 (decide (r_0.xChain < 5))) (k70 false))) (jnW (fun (t131 : Bool) => ifW t131 (κ (decide (r_0.xChain = 0))) (κ false)) (fun k132 => ifW (decide (r_0.xAction = 1)) (k132 (decide (r_0.xAction = 1))) (ifW (decide (r_0.xAction = 2)) (k132 (decide (r_0.xAction = 2))) (ifW (decide (r_0.xAction = 4)) (k132 (decide (r_0.xAction = 4))) (k132 (decide (r_0.xAction = 5)))))))))

def L_impl_RulesValid (list_0 : (List GRule)) (κ : Bool → Prop) : Prop :=
  ifW (decide (8 < (list_0.length : Int))) (κ false) (loopW (fun (nx4 : Int → Prop) (t3 : Int) => ifW (decide (t3 < (list_0.length : Int))) (idxW list_0 t3 (fun e5 => L_impl_RuleValid e5 (fun r16 => ifW (!r16) (κ false) (addW t3 1 (fun t17 => nx4 t17))))) (κ true)) 0)

def L_impl_callsIn (rules_0 : (List GRule)) (κ : (List Int) → Prop) : Prop :=
  loopW (fun (nx9 : ((List Bool) × Int) → Prop) ((xs6, t8) : ((List Bool) × Int)) => ifW (decide (t8 < (rules_0.length : Int))) (jnW (fun (xs84 : (List Bool)) => addW t8 1 (fun t87 => nx9 (xs84, t87))) (fun k86 => idxW rules_0 t8 (fun e10 => ifW (decide (e10.xAction = 3)) (idxW xs6 e10.xChain (fun e21 => k86 (xs6.set (e10.xChain).toNat true))) (k86 xs6)))) (unl5 xs6 (fun e89 e90 e91 e92 e93 => loopW (fun (nx100 : ((List Int) × Int) → Prop) ((xs96, t99) : ((List Int) × Int)) => ifW (decide (t99 < 5)) (jnW (fun (xs166 : (List Int)) => addW t99 1 (fun t170 => nx100 (xs166, t170))) (fun k169 => idxW ([e89, e90, e91, e92, e93]) t99 (fun e101 => ifW e101 (appW xs96 ([t99]) (fun _ => k169 (xs96 ++ ([t99])))) (k169 xs96)))) (κ xs96)) ([], 0)))) ([false, false, false, false, false], 0)

def B_impl_visitCalls (rec : ((List (List GRule)) → Int → (List Int) → ((Bool × (List Int)) → Prop) → Prop)) (chains_0 : (List (List GRule))) (chain_1 : Int) (colours_2 : (List Int)) (κ : (Bool × (List Int)) → Prop) : Prop :=
  ifW (decide ((chains_0.length : Int) ≤ chain_1)) (κ (true, colours_2)) (idxW colours_2 chain_1 (fun e5 => ifW (decide (e5 = 1)) (κ (false, colours_2)) (ifW (decide (e5 = 2)) (κ (true, colours_2)) (idxW colours_2 chain_1 (fun e7 => idxW chains_0 chain_1 (fun e10 => L_impl_callsIn e10 (fun r16 => loopW (fun (nx23 : ((List Int) × Bool × Int) → Prop) ((xs19, t21, t22) : ((List Int) × Bool × Int)) => ifW (decide (t22 < (r16.length : Int))) (jnW (fun ((xs89, t91) : ((List Int) × Bool)) => addW t22 1 (fun t93 => nx23 (xs89, t91, t93))) (fun k92 => idxW r16 t22 (fun e24 => rec chains_0 e24 xs19 (fun (r26, r27) => ifW (!r26) (k92 (r27, false)) (k92 (r27, t21)))))) (idxW xs19 chain_1 (fun e94 => κ (t21, (xs19.set (chain_1).toNat 2))))) ((colours_2.set (chain_1).toNat 1), true, 0))))))))
def R_impl_visitCalls : Nat → (List (List GRule)) → Int → (List Int) → ((Bool × (List Int)) → Prop) → Prop
  | 0 => fun _ _ _ _ => False
  | n + 1 => B_impl_visitCalls (R_impl_visitCalls n)
def L_impl_visitCalls (chains_0 : (List (List GRule))) (chain_1 : Int) (colours_2 : (List Int)) (κ : (Bool × (List Int)) → Prop) : Prop := ∃ n, R_impl_visitCalls n chains_0 chain_1 colours_2 κ

def L_impl_acyclic (chains_0 : (List (List GRule))) (κ : Bool → Prop) : Prop :=
  loopW (fun (nx8 : ((List Int) × Int) → Prop) ((xs5, t7) : ((List Int) × Int)) => ifW (decide (t7 < (chains_0.length : Int))) (L_impl_visitCalls chains_0 t7 xs5 (fun (r9, r10) => ifW (!r9) (κ false) (addW t7 1 (fun t12 => nx8 (r10, t12))))) (κ true)) ([0, 0, 0, 0, 0], 0)

def L_impl_RulesetValid (s_0 : GRuleset) (κ : Bool → Prop) : Prop :=
  jnW (fun (t68 : Bool) => ifW t68 (κ false) (loopW (fun (nx71 : Int → Prop) (t70 : Int) => ifW (decide (t70 < (s_0.xChains.length : Int))) (idxW s_0.xChains t70 (fun e72 => L_impl_RulesValid e72 (fun r78 => ifW (!r78) (κ false) (addW t70 1 (fun t79 => nx71 t79))))) (loopW (fun (nx81 : Int → Prop) (t80 : Int) => ifW (decide (t80 < (s_0.xChains.length : Int))) (idxW s_0.xChains t80 (fun e82 => L_impl_callsIn e82 (fun r88 => loopW (fun (nx92 : Int → Prop) (t91 : Int) => ifW (decide (t91 < (r88.length : Int))) (idxW r88 t91 (fun e93 => ifW (decide ((s_0.xChains.length : Int) ≤ e93)) (κ false) (addW t91 1 (fun t95 => nx92 t95)))) (addW t80 1 (fun t96 => nx81 t96))) 0))) (L_impl_acyclic s_0.xChains (fun r97 => κ r97))) 0)) 0)) (fun k69 => ifW (decide ((s_0.xChains.length : Int) < 1)) (k69 true) (k69 (decide (5 < (s_0.xChains.length : Int)))))

def L_impl_Packet_fields (p_0 : GPacket) (κ : A4Int → Prop) : Prop :=
  κ (A4Int.mk p_0.xFrom p_0.xTo p_0.xPort p_0.xProto)

def L_impl_PacketValid (p_0 : GPacket) (κ : Bool → Prop) : Prop :=
  L_impl_Packet_fields p_0 (fun r3 => loopW (fun (nx5 : Int → Prop) (t4 : Int) => ifW (decide (t4 < 4)) (idxW ([r3.x0, r3.x1, r3.x2, r3.x3]) t4 (fun e6 => jnW (fun (t68 : Bool) => ifW t68 (κ false) (addW t4 1 (fun t70 => nx5 t70))) (fun k69 => ifW (decide (e6 < 0)) (k69 true) (L_impl_FieldTop t4 (fun r7 => k69 (decide (r7 < e6))))))) (κ true)) 0)

def L_impl_packetsValid (list_0 : (List GPacket)) (κ : Bool → Prop) : Prop :=
  ifW (decide (50 < (list_0.length : Int))) (κ false) (loopW (fun (nx4 : Int → Prop) (t3 : Int) => ifW (decide (t3 < (list_0.length : Int))) (idxW list_0 t3 (fun e5 => L_impl_PacketValid e5 (fun r9 => ifW (!r9) (κ false) (addW t3 1 (fun t10 => nx4 t10))))) (κ true)) 0)

def L_impl_walk_leave (w_0_stack : (List GPlace)) (w_0_visits : (List GVisit)) (w_0_decision : Int) (κ : (List GPlace) → Prop) : Prop :=
  jnW (fun (xs7 : (List GPlace)) => κ xs7) (fun k10 => sliceW w_0_stack 0 (w64 ((w_0_stack.length : Int) - 1)) (fun xs12 => k10 xs12))

def L_impl_Test_holds (t_0 : GTest) (p_1 : GPacket) (κ : Bool → Prop) : Prop :=
  L_impl_Packet_fields p_1 (fun r5 => idxW ([r5.x0, r5.x1, r5.x2, r5.x3]) t_0.xField (fun e6 => jnW (fun (t67 : Bool) => κ (!(decide (t67 = t_0.xNot)))) (fun k68 => ifW (decide (t_0.xLo ≤ e6)) (k68 (decide (e6 ≤ t_0.xHi))) (k68 false))))

def L_impl_allHold (list_0 : (List GTest)) (p_1 : GPacket) (κ : Bool → Prop) : Prop :=
  loopW (fun (nx6 : Int → Prop) (t5 : Int) => ifW (decide (t5 < (list_0.length : Int))) (idxW list_0 t5 (fun e7 => L_impl_Test_holds e7 p_1 (fun r11 => ifW (!r11) (κ false) (addW t5 1 (fun t12 => nx6 t12))))) (κ true)) 0

def L_impl_actionOf (r_0 : GRule) (κ : IAction → Prop) : Prop :=
  ifW (decide (r_0.xAction = 1)) (κ (IAction.kDeciding (GDeciding.mk true))) (ifW (decide (r_0.xAction = 2)) (κ (IAction.kDeciding (GDeciding.mk false))) (ifW (decide (r_0.xAction = 3)) (κ (IAction.kCalling (GCalling.mk r_0.xChain))) (ifW (decide (r_0.xAction = 4)) (κ (IAction.kReturning (GReturning.mk ))) (κ (IAction.kPassing (GPassing.mk ))))))

def L_impl_deciding_walk (d_0 : GDeciding) (w_1_stack : (List GPlace)) (w_1_visits : (List GVisit)) (w_1_decision : Int) (κ : Int → Prop) : Prop :=
  ifW d_0.xAccept (κ 1) (κ 2)

def L_impl_calling_walk (c_0 : GCalling) (w_1_stack : (List GPlace)) (w_1_visits : (List GVisit)) (w_1_decision : Int) (κ : (List GPlace) → Prop) : Prop :=
  jnW (fun (xs9 : (List GPlace)) => κ xs9) (fun k12 => appW w_1_stack ([(GPlace.mk c_0.xChain 0)]) (fun _ => k12 (w_1_stack ++ ([(GPlace.mk c_0.xChain 0)]))))

def L_impl_returning_walk (a_0 : GReturning) (w_1_stack : (List GPlace)) (w_1_visits : (List GVisit)) (w_1_decision : Int) (κ : (List GPlace) → Prop) : Prop :=
  L_impl_walk_leave w_1_stack w_1_visits w_1_decision (fun r9 => κ r9)

def L_impl_passing_walk (a_0 : GPassing) (a_1_stack : (List GPlace)) (a_1_visits : (List GVisit)) (a_1_decision : Int) (κ : Unit → Prop) : Prop :=
  κ ()

def L_impl_walkThrough (s_0 : GRuleset) (p_1 : GPacket) (κ : ((List GPlace) × (List GVisit) × Int) → Prop) : Prop :=
  loopW (fun (nx26 : ((List GPlace) × (List GVisit) × Int) → Prop) ((xs18, xs22, t25) : ((List GPlace) × (List GVisit) × Int)) => jnW (fun (t87 : Bool) => ifW t87 (subW (xs18.length : Int) 1 (fun t95 => idxW xs18 t95 (fun e96 => idxW s_0.xChains e96.xChain (fun e98 => ifW (decide (e96.xNext = (e98.length : Int))) (L_impl_walk_leave xs18 xs22 t25 (fun r104 => nx26 (r104, xs22, t25))) (addW e96.xNext 1 (fun t107 => idxW e98 e96.xNext (fun e109 => L_impl_allHold e109.xTests p_1 (fun r115 => ifW (!r115) (nx26 ((xs18.set (t95).toNat (GPlace.mk e96.xChain t107)), xs22, t25)) (jnW (fun (xs187 : (List GVisit)) => idxW e98 e96.xNext (fun e191 => L_impl_actionOf e191 (fun r197 => IAction.casesW r197 (fun x198 => L_impl_deciding_walk x198 (xs18.set (t95).toNat (GPlace.mk e96.xChain t107)) xs187 t25 (fun r202 => nx26 ((xs18.set (t95).toNat (GPlace.mk e96.xChain t107)), xs187, r202))) (fun x199 => L_impl_calling_walk x199 (xs18.set (t95).toNat (GPlace.mk e96.xChain t107)) xs187 t25 (fun r203 => nx26 (r203, xs187, t25))) (fun x200 => L_impl_returning_walk (GReturning.mk ) (xs18.set (t95).toNat (GPlace.mk e96.xChain t107)) xs187 t25 (fun r206 => nx26 (r206, xs187, t25))) (fun x201 => L_impl_passing_walk (GPassing.mk ) (xs18.set (t95).toNat (GPlace.mk e96.xChain t107)) xs187 t25 (fun _ => nx26 ((xs18.set (t95).toNat (GPlace.mk e96.xChain t107)), xs187, t25)))))) (fun k190 => ifW (decide ((xs22.length : Int) < 200)) (jnW (fun (xs116 : (List GVisit)) => k190 xs116) (fun k119 => appW xs22 ([(GVisit.mk e96.xChain e96.xNext)]) (fun _ => k119 (xs22 ++ ([(GVisit.mk e96.xChain e96.xNext)]))))) (k190 xs22))))))))))) (κ (xs18, xs22, t25))) (fun k88 => ifW (decide (0 < (xs18.length : Int))) (k88 (decide (t25 = 5))) (k88 false))) ([(GPlace.mk 0 0)], [], 5)

def L_impl_judgeValid (s_0 : GRuleset) (p_1 : GPacket) (κ : Bool → Prop) : Prop :=
  L_impl_walkThrough s_0 p_1 (fun (r12, r15, r18) => ifW (decide (r18 = 1)) (κ true) (ifW (decide (r18 = 2)) (κ false) (κ s_0.xAccept)))

def L_impl_JudgeAll (s_0 : GRuleset) (list_1 : (List GPacket)) (κ : Int → Prop) : Prop :=
  jnW (fun (t72 : Bool) => ifW t72 (κ (-1)) (loopW (fun (nx76 : (Int × Int) → Prop) ((t74, t75) : (Int × Int)) => ifW (decide (t75 < (list_1.length : Int))) (jnW (fun (t143 : Int) => addW t75 1 (fun t145 => nx76 (t143, t145))) (fun k144 => idxW list_1 t75 (fun e77 => L_impl_judgeValid s_0 e77 (fun r81 => ifW r81 (addW t74 1 (fun t82 => k144 t82)) (k144 t74))))) (κ t74)) (0, 0))) (fun k73 => L_impl_RulesetValid s_0 (fun r10 => ifW (!r10) (k73 true) (L_impl_packetsValid list_1 (fun r11 => k73 (!r11)))))

def L_spec_TestValid (t_0 : GTest) (κ : Bool → Prop) : Prop :=
  jnW (fun (t66 : Bool) => κ t66) (fun k67 => L_spec_l1In t_0.xField 0 3 (fun r3 => ifW r3 (L_spec_l1In t_0.xLo 0 t_0.xHi (fun r4 => ifW r4 (L_spec_FieldTop t_0.xField (fun r5 => k67 (decide (t_0.xHi ≤ r5)))) (k67 false))) (k67 false)))

def L_spec_TestsValid (list_0 : (List GTest)) (κ : Bool → Prop) : Prop :=
  loopW (fun (nx4 : Int → Prop) (t3 : Int) => ifW (decide (t3 < (list_0.length : Int))) (idxW list_0 t3 (fun e5 => L_spec_TestValid e5 (fun r7 => ifW (!r7) (κ false) (addW t3 1 (fun t8 => nx4 t8))))) (κ (decide ((list_0.length : Int) ≤ 6)))) 0

def L_spec_RuleValid (r_0 : GRule) (κ : Bool → Prop) : Prop :=
  jnW (fun (t71 : Bool) => κ t71) (fun k72 => L_spec_TestsValid r_0.xTests (fun r8 => ifW r8 (L_spec_l1In r_0.xAction 1 5 (fun r9 => ifW r9 (ifW (decide (r_0.xAction = 3)) (L_spec_l1In r_0.xChain 0 4 (fun r10 => ifW r10 (k72 true) (ifW (!(decide (r_0.xAction = 3))) (k72 (decide (r_0.xChain = 0))) (k72 false)))) (ifW (!(decide (r_0.xAction = 3))) (k72 (decide (r_0.xChain = 0))) (k72 false))) (k72 false))) (k72 false)))

def L_spec_RulesValid (list_0 : (List GRule)) (κ : Bool → Prop) : Prop :=
  loopW (fun (nx4 : Int → Prop) (t3 : Int) => ifW (decide (t3 < (list_0.length : Int))) (idxW list_0 t3 (fun e5 => L_spec_RuleValid e5 (fun r11 => ifW (!r11) (κ false) (addW t3 1 (fun t12 => nx4 t12))))) (κ (decide ((list_0.length : Int) ≤ 8)))) 0

def L_spec_l8Order (s_0 : GRuleset) (κ : (List Int) → Prop) : Prop :=
  makeW (false : Bool) (s_0.xChains.length : Int) (s_0.xChains.length : Int) (fun xs10 => loopW (fun (nx21 : ((List Bool) × (List Int) × Int) → Prop) ((xs14, xs17, t20) : ((List Bool) × (List Int) × Int)) => ifW (decide (t20 < (s_0.xChains.length : Int))) (loopW (fun (nx29 : ((List Bool) × (List Int) × Int) → Prop) ((xs22, xs25, t28) : ((List Bool) × (List Int) × Int)) => ifW (decide (t28 < (s_0.xChains.length : Int))) (jnW (fun ((xs190, xs192) : ((List Bool) × (List Int))) => addW t28 1 (fun t196 => nx29 (xs190, xs192, t196))) (fun k195 => idxW xs22 t28 (fun e30 => loopW (fun (nx34 : (Bool × Int) → Prop) ((t32, t33) : (Bool × Int)) => idxW s_0.xChains t28 (fun e35 => ifW (decide (t33 < (e35.length : Int))) (jnW (fun (t120 : Bool) => addW t33 1 (fun t122 => nx34 (t120, t122))) (fun k121 => idxW s_0.xChains t28 (fun e41 => idxW e41 t33 (fun e47 => ifW t32 (ifW (!(decide (e47.xAction = 3))) (k121 true) (idxW xs22 e47.xChain (fun e58 => k121 e58))) (k121 false))))) (ifW t32 (idxW xs22 t28 (fun e123 => appW xs25 ([t28]) (fun _ => k195 ((xs22.set (t28).toNat true), (xs25 ++ ([t28])))))) (k195 (xs22, xs25))))) ((!e30), 0)))) (addW t20 1 (fun t197 => nx21 (xs22, xs25, t197)))) (xs14, xs17, 0)) (κ xs17)) (xs10, [], 0))

def L_spec_RulesetValid (s_0 : GRuleset) (κ : Bool → Prop) : Prop :=
  loopW (fun (nx9 : Int → Prop) (t8 : Int) => ifW (decide (t8 < (s_0.xChains.length : Int))) (idxW s_0.xChains t8 (fun e10 => L_spec_RulesValid e10 (fun r16 => ifW (!r16) (κ false) (loopW (fun (nx18 : Int → Prop) (t17 : Int) => idxW s_0.xChains t8 (fun e19 => ifW (decide (t17 < (e19.length : Int))) (idxW s_0.xChains t8 (fun e25 => idxW e25 t17 (fun e31 => ifW (decide ((s_0.xChains.length : Int) ≤ e31.xChain)) (κ false) (addW t17 1 (fun t33 => nx18 t33))))) (addW t8 1 (fun t34 => nx9 t34)))) 0)))) (jnW (fun (t99 : Bool) => κ t99) (fun k100 => L_spec_l1In (s_0.xChains.length : Int) 1 5 (fun r35 => ifW r35 (L_spec_l8Order s_0 (fun r36 => k100 (decide ((r36.length : Int) = (s_0.xChains.length : Int))))) (k100 false))))) 0

def L_spec_PacketField (p_0 : GPacket) (n_1 : Int) (κ : Int → Prop) : Prop :=
  jnW (fun (t65 : Bool) => ifW t65 (κ (-1)) (idxW ([p_0.xFrom, p_0.xTo, p_0.xPort, p_0.xProto]) n_1 (fun e69 => κ e69))) (fun k66 => L_spec_PacketValid p_0 (fun r3 => ifW (!r3) (k66 true) (L_spec_l1In n_1 0 3 (fun r4 => k66 (!r4)))))

def L_spec_TestHolds (t_0 : GTest) (p_1 : GPacket) (κ : Bool → Prop) : Prop :=
  jnW (fun (t69 : Bool) => κ t69) (fun k70 => L_spec_TestValid t_0 (fun r5 => ifW r5 (L_spec_PacketValid p_1 (fun r6 => ifW r6 (L_spec_PacketField p_1 t_0.xField (fun r7 => L_spec_l1In r7 t_0.xLo t_0.xHi (fun r8 => k70 (!(decide (r8 = t_0.xNot)))))) (k70 false))) (k70 false)))

def L_spec_TestsHold (list_0 : (List GTest)) (p_1 : GPacket) (κ : Bool → Prop) : Prop :=
  loopW (fun (nx6 : Int → Prop) (t5 : Int) => ifW (decide (t5 < (list_0.length : Int))) (idxW list_0 t5 (fun e7 => L_spec_TestHolds e7 p_1 (fun r9 => ifW (!r9) (κ false) (addW t5 1 (fun t10 => nx6 t10))))) (jnW (fun (t73 : Bool) => κ t73) (fun k74 => L_spec_TestsValid list_0 (fun r11 => ifW r11 (L_spec_PacketValid p_1 (fun r12 => k74 r12)) (k74 false))))) 0

def B_spec_l9Walk (rec : (GRuleset → Int → GPacket → (List GVisit) → ((Int × (List GVisit)) → Prop) → Prop)) (s_0 : GRuleset) (chain_1 : Int) (p_2 : GPacket) (out_3 : (List GVisit)) (κ : (Int × (List GVisit)) → Prop) : Prop :=
  loopW (fun (nx19 : ((List GVisit) × Int) → Prop) ((xs15, t18) : ((List GVisit) × Int)) => idxW s_0.xChains chain_1 (fun e20 => ifW (decide (t18 < (e20.length : Int))) (jnW (fun (xs241 : (List GVisit)) => addW t18 1 (fun t245 => nx19 (xs241, t245))) (fun k244 => idxW s_0.xChains chain_1 (fun e26 => idxW e26 t18 (fun e32 => L_spec_TestsHold e32.xTests p_2 (fun r43 => ifW (!r43) (k244 xs15) (jnW (fun (xs111 : (List GVisit)) => jnW (fun (t175 : Bool) => ifW t175 (κ (e32.xAction, xs111)) (ifW (decide (e32.xAction = 4)) (κ (5, xs111)) (ifW (decide (e32.xAction = 3)) (rec s_0 e32.xChain p_2 xs111 (fun (r177, r178) => ifW (!(decide (r177 = 5))) (κ (r177, r178)) (k244 r178))) (k244 xs111)))) (fun k176 => ifW (decide (e32.xAction = 1)) (k176 (decide (e32.xAction = 1))) (k176 (decide (e32.xAction = 2))))) (fun k114 => ifW (decide ((xs15.length : Int) < 200)) (appW xs15 ([(GVisit.mk chain_1 t18)]) (fun _ => k114 (xs15 ++ ([(GVisit.mk chain_1 t18)])))) (k114 xs15)))))))) (κ (5, xs15)))) (out_3, 0)
def R_spec_l9Walk : Nat → GRuleset → Int → GPacket → (List GVisit) → ((Int × (List GVisit)) → Prop) → Prop
  | 0 => fun _ _ _ _ _ => False
  | n + 1 => B_spec_l9Walk (R_spec_l9Walk n)
def L_spec_l9Walk (s_0 : GRuleset) (chain_1 : Int) (p_2 : GPacket) (out_3 : (List GVisit)) (κ : (Int × (List GVisit)) → Prop) : Prop := ∃ n, R_spec_l9Walk n s_0 chain_1 p_2 out_3 κ

def L_spec_Judge (s_0 : GRuleset) (p_1 : GPacket) (κ : Bool → Prop) : Prop :=
  jnW (fun (t72 : Bool) => ifW t72 (κ false) (L_spec_l9Walk s_0 0 p_1 ([]) (fun (r81, r82) => jnW (fun (t145 : Bool) => κ t145) (fun k146 => ifW (decide (r81 = 1)) (k146 true) (ifW (decide (r81 = 5)) (k146 s_0.xAccept) (k146 false)))))) (fun k73 => L_spec_RulesetValid s_0 (fun r10 => ifW (!r10) (k73 true) (L_spec_PacketValid p_1 (fun r11 => k73 (!r11)))))

def L_spec_JudgeAll (s_0 : GRuleset) (list_1 : (List GPacket)) (κ : Int → Prop) : Prop :=
  loopW (fun (nx12 : (Int × Int) → Prop) ((t10, t11) : (Int × Int)) => ifW (decide (t11 < (list_1.length : Int))) (jnW (fun (t80 : Int) => addW t11 1 (fun t82 => nx12 (t80, t82))) (fun k81 => idxW list_1 t11 (fun e13 => L_spec_PacketValid e13 (fun r15 => ifW (!r15) (κ (-1)) (idxW list_1 t11 (fun e16 => L_spec_Judge s_0 e16 (fun r18 => ifW r18 (addW t10 1 (fun t19 => k81 t19)) (k81 t10)))))))) (jnW (fun (t144 : Bool) => ifW t144 (κ (-1)) (κ t10)) (fun k145 => L_spec_RulesetValid s_0 (fun r83 => ifW (!r83) (k145 true) (k145 (decide (50 < (list_1.length : Int)))))))) (0, 0)

def L_impl_SpansHave (list_0 : (List GSpan)) (n_1 : Int) (κ : Bool → Prop) : Prop :=
  loopW (fun (nx4 : Int → Prop) (t3 : Int) => ifW (decide (t3 < (list_0.length : Int))) (idxW list_0 t3 (fun e5 => jnW (fun (t69 : Bool) => ifW t69 (κ true) (addW t3 1 (fun t71 => nx4 t71))) (fun k70 => ifW (decide (e5.xLo ≤ n_1)) (k70 (decide (n_1 ≤ e5.xHi))) (k70 false)))) (κ false)) 0

def L_laws_alive (κ : Bool → Prop) : Prop :=
  L_impl_SpansHave ([(GSpan.mk 2 4)]) 3 (fun r3 => κ r3)

def L_laws_FnJudgeAll (code_0 : (List UInt8)) (κ : Bool → Prop) : Prop :=
  ifW (decide (1048576 < (code_0.length : Int))) (κ true) (L_spec_DrawJudgeAll code_0 (fun (r3, r7) => L_impl_JudgeAll r3 r7 (fun r15 => L_spec_JudgeAll r3 r7 (fun r16 => ifW (!(decide (r15 = r16))) (κ false) (ifW (decide (r15 < 0)) (jnW (fun (t78 : Bool) => κ t78) (fun k79 => ifW (decide (r15 = (-1))) (L_laws_alive (fun r17 => k79 r17)) (k79 false))) (quoW (r7.length : Int) 2 (fun t80 => jnW (fun (t151 : Bool) => κ t151) (fun k152 => ifW (decide (r15 ≤ (r7.length : Int))) (sliceW r7 0 t80 (fun xs84 => sliceW r7 t80 (r7.length : Int) (fun xs86 => L_impl_JudgeAll r3 xs84 (fun r88 => L_impl_JudgeAll r3 xs86 (fun r89 => addW r88 r89 (fun t90 => k152 (decide (t90 = r15)))))))) (k152 false)))))))))

end
section


theorem ifW_t {A B : Prop} (h : A) : ifW true A B := ⟨fun _ => h, (fun e => by cases e)⟩
theorem ifW_f {A B : Prop} (h : B) : ifW false A B := ⟨(fun e => by cases e), fun _ => h⟩
theorem ifW_of {c : Bool} {A B : Prop} (ht : c = true → A) (hf : c = false → B) : ifW c A B := ⟨ht, hf⟩
@[simp] theorem ifW_true {A B : Prop} : ifW true A B = A := propext ⟨fun h => h.1 rfl, ifW_t⟩
@[simp] theorem ifW_false {A B : Prop} : ifW false A B = B := propext ⟨fun h => h.2 rfl, ifW_f⟩
theorem addW_of {x y : Int} {κ : Int → Prop} (h1 : -9223372036854775808 ≤ x + y) (h2 : x + y ≤ 9223372036854775807) (h : κ (x + y)) : addW x y κ := ⟨⟨h1, h2⟩, h⟩
theorem subW_of {x y : Int} {κ : Int → Prop} (h1 : -9223372036854775808 ≤ x - y) (h2 : x - y ≤ 9223372036854775807) (h : κ (x - y)) : subW x y κ := ⟨⟨h1, h2⟩, h⟩
theorem mulW_of {x y : Int} {κ : Int → Prop} (h1 : -9223372036854775808 ≤ x * y) (h2 : x * y ≤ 9223372036854775807) (h : κ (x * y)) : mulW x y κ := ⟨⟨h1, h2⟩, h⟩
theorem quoW_of {x y : Int} {κ : Int → Prop} (h1 : 0 ≤ x) (h2 : x ≤ 9223372036854775807) (h3 : 0 < y) (h : κ (x / y)) : quoW x y κ := ⟨h3, ⟨by omega, h2⟩, by rw [Int.tdiv_eq_ediv_of_nonneg h1]; exact h⟩
theorem remW_of {x y : Int} {κ : Int → Prop} (h1 : 0 ≤ x) (h2 : x ≤ 9223372036854775807) (h3 : 0 < y) (h : κ (x % y)) : remW x y κ := ⟨h1, h3, ⟨by omega, h2⟩, h⟩
theorem idxW_of {α : Type} {xs : List α} {i : Int} {κ : α → Prop} (n : Nat) (hi : i = n) (hn : n < xs.length) (h : κ xs[n]) : idxW xs i κ := by
  subst hi
  exact ⟨xs[n], by omega, by simp [hn], h⟩
theorem appW_of {α : Type} {xs ys : List α} {κ : List α → Prop} (h1 : xs.length + ys.length ≤ 4294967296) (h : κ (xs ++ ys)) : appW xs ys κ := ⟨h1, h⟩
theorem makeW_of {α : Type} {z : α} {n m : Int} {κ : List α → Prop} (k : Nat) (hn : n = k) (h1 : n ≤ m) (h2 : m ≤ 4294967296) (h : κ (List.replicate k z)) : makeW z n m κ := by
  subst hn
  refine ⟨by omega, h1, ?_, by simpa using h⟩
  unfold lenOk
  omega

/-- a loop that counts a place up to a length, with a state: after each round the state's law holds of the next place -/
theorem count_loop {σ : Type} {F : (σ → Prop) → σ → Prop} (len : Nat) (pos : σ → Int) (I : Nat → σ → Prop) (hpos : ∀ k s, I k s → pos s = k) (hle : ∀ k s, I k s → k ≤ len)
    (h : ∀ k s next, I k s → (k < len → ∀ s', I (k + 1) s' → next s') → F next s) {s : σ} (h0 : I 0 s) : loopW F s := by
  refine loopW_inv (fun s => ∃ k, I k s) (fun s => len - (pos s).toNat) (fun s next ⟨k, hk⟩ hn => ?_) ⟨0, h0⟩
  refine h k s next hk (fun hlt s' hs' => hn s' ⟨k + 1, hs'⟩ ?_)
  rw [hpos _ _ hk, hpos _ _ hs']
  omega

/-- the marks that are laid into a list from k on -/
def marks {α : Type} (f : Int → α) (k : Int) (n : Nat) : List α := (List.range n).map fun (i : Nat) => f (k + (i : Int))
end
section


theorem u8_lt (e : UInt8) : (0 : Int) ≤ (e.toNat : Int) ∧ (e.toNat : Int) ≤ 255 := by
  have := e.toNat_lt
  omega
theorem xorW_of {x y : Int} {κ : Int → Prop} (h1 : 0 ≤ x) (h2 : x < 4611686018427387904) (h3 : 0 ≤ y) (h4 : y < 4611686018427387904) (h : ∀ z, 0 ≤ z → z < 4611686018427387904 → κ z) : xorW x y κ := by
  refine ⟨h1, h2, h3, h4, h _ (by omega) ?_⟩
  have : x.toNat ^^^ y.toNat < 2 ^ 62 := Nat.xor_lt_two_pow (by omega) (by omega)
  have e : (2 : Nat) ^ 62 = 4611686018427387904 := by decide
  rw [e] at this
  omega
theorem remW_lt {x y : Int} {κ : Int → Prop} (h1 : 0 ≤ x) (h2 : x ≤ 9223372036854775807) (h3 : 0 < y) (h : ∀ z, 0 ≤ z → z < y → κ z) : remW x y κ :=
  remW_of h1 h2 h3 (h _ (Int.emod_nonneg _ (by omega)) (Int.emod_lt_of_pos _ h3))
theorem quoW_le {x y : Int} {κ : Int → Prop} (h1 : 0 ≤ x) (h2 : x ≤ 9223372036854775807) (h3 : 0 < y) (h : ∀ z, 0 ≤ z → z ≤ x → κ z) : quoW x y κ :=
  quoW_of h1 h2 h3 (h _ (Int.ediv_nonneg h1 (by omega)) (Int.ediv_le_self _ h1))
theorem idxW_any {α : Type} {xs : List α} {i : Int} {κ : α → Prop} (h1 : 0 ≤ i) (h2 : i < xs.length) (h : ∀ x, x ∈ xs → κ x) : idxW xs i κ := by
  obtain ⟨n, rfl⟩ := Int.eq_ofNat_of_zero_le h1
  have hn : n < xs.length := by omega
  exact idxW_of n rfl hn (h _ (List.getElem_mem hn))

/-- the reader stands at p of the bytes b -/
def RdP (b : List UInt8) (p : Int) : Prop := b.length ≤ 2000 ∧ 0 ≤ p ∧ p ≤ 1000000

theorem S_pick {b : List UInt8} {p n : Int} (hr : RdP b p) {κ : Int × Int → Prop} (h : ∀ v, 0 ≤ v → (v = 0 ∨ v < n) → κ (v, p + 1)) : L_spec_l20Rd_pick b p n κ := by
  obtain ⟨hb, h0, h1⟩ := hr
  unfold L_spec_l20Rd_pick jnW
  have hz : κ (0, p + 1) := h 0 (Int.le_refl _) (.inl rfl)
  refine addW_of (by omega) (by omega) (ifW_of (fun hc => ?_) (fun hc => ifW_of (fun hc2 => ?_) (fun hc2 => ?_)))
  · simp only [ifW_true]; exact hz
  · exact hz
  · simp at hc hc2
    have hpos : 0 < (b.length : Int) := by
      cases b with
      | nil => simp at hc2
      | cons x l => simp
    refine subW_of (by omega) (by omega) ?_
    have ep : p + 1 - 1 = p := by omega
    rw [ep]
    refine ifW_of (fun hc3 => ?_) (fun hc3 => ?_)
    · simp at hc3
      refine idxW_any h0 hc3 (fun e _ => ?_)
      have := u8_lt e
      exact remW_lt (by omega) (by omega) (by omega) (fun z z1 z2 => h z z1 (.inr z2))
    · refine remW_lt h0 (by omega) hpos (fun z z1 z2 => idxW_any z1 z2 (fun e _ => ?_))
      have he := u8_lt e
      refine mulW_of (by omega) (by omega) (mulW_of (by omega) (by omega) (addW_of (by omega) (by omega) (remW_lt (by omega) (by omega) hpos (fun y y1 y2 => idxW_any y1 y2 (fun d _ => ?_)))))
      have hd := u8_lt d
      refine mulW_of (by omega) (by omega) (addW_of (by omega) (by omega) (mulW_of (by omega) (by omega) (addW_of (by omega) (by omega) (quoW_le (by omega) (by omega) hpos (fun q q1 q2 => ?_)))))
      refine mulW_of (by omega) (by omega) (addW_of (by omega) (by omega) (quoW_le (by omega) (by omega) (by omega) (fun r r1 r2 => ?_)))
      exact xorW_of (by omega) (by omega) (by omega) (by omega) (fun x x1 x2 => remW_lt x1 (by omega) (by omega) (fun z z1 z2 => h z z1 (.inr z2)))
theorem S_odd {b : List UInt8} {p n : Int} (hr : RdP b p) (hn : n ≤ 4294967296) {κ : Bool × Int → Prop} (h : ∀ c p', p ≤ p' → p' ≤ p + 1 → κ (c, p')) : L_spec_l20Rd_odd b p n κ := by
  unfold L_spec_l20Rd_odd jnW
  refine ifW_of (fun hc => S_pick hr (fun v v1 v2 => subW_of (by simp at hc; omega) (by simp at hc; omega) (h _ _ (by omega) (by omega)))) (fun hc => h _ _ (by omega) (by omega))

theorem S_l20Open {c : List UInt8} {κ : List UInt8 × Int → Prop} (h : ∀ b, b.length ≤ 2000 → κ (b, 0)) : L_spec_l20Open c κ := by
  unfold L_spec_l20Open jnW
  refine ifW_of (fun hc => ?_) (fun hc => ?_)
  · simp at hc
    refine ⟨by omega, by omega, by omega, h _ (by simp; omega)⟩
  · simp at hc
    exact h _ (by omega)
theorem S_alive {κ : Bool → Prop} (h : κ true) : L_laws_alive κ := by
  unfold L_laws_alive L_impl_SpansHave
  refine loopW_inv (fun s => s = 0) (fun s => 0) ?_ rfl
  rintro s next rfl hn
  refine ifW_of (fun _ => idxW_of 0 rfl (by simp) ?_) (fun hc => by simp at hc)
  simp [jnW]
  exact h


end
section


def pv (p : GPacket) : Prop := (0 ≤ p.xFrom ∧ p.xFrom ≤ 65535) ∧ (0 ≤ p.xTo ∧ p.xTo ≤ 65535) ∧ (0 ≤ p.xPort ∧ p.xPort ≤ 255) ∧ (0 ≤ p.xProto ∧ p.xProto ≤ 7)
instance (p : GPacket) : Decidable (pv p) := by unfold pv; infer_instance
def rev (p : GPacket) : GPacket := ⟨p.xTo, p.xFrom, p.xPort, p.xProto⟩
def tv (t : Int) : Prop := 0 ≤ t ∧ t ≤ 1000000
instance (t : Int) : Decidable (tv t) := by unfold tv; infer_instance

/-! packets -/
theorem S_fieldTop {n : Int} (h0 : 0 ≤ n) (h1 : n < 4) {κ : Int → Prop} (h : κ (if n ≤ 1 then 65535 else if n = 2 then 255 else 7)) : L_impl_FieldTop n κ := by
  unfold L_impl_FieldTop jnW
  refine ifW_of (fun hc => by simp at hc; omega) (fun _ => ifW_of (fun hc => by simp at hc; omega) (fun _ => ?_))
  have : n = 0 ∨ n = 1 ∨ n = 2 ∨ n = 3 := by omega
  rcases this with rfl | rfl | rfl | rfl
  · exact idxW_of 0 rfl (by simp [gl_impl_fieldShapes]) (by simpa [gl_impl_fieldShapes] using h)
  · exact idxW_of 1 rfl (by simp [gl_impl_fieldShapes]) (by simpa [gl_impl_fieldShapes] using h)
  · exact idxW_of 2 rfl (by simp [gl_impl_fieldShapes]) (by simpa [gl_impl_fieldShapes] using h)
  · exact idxW_of 3 rfl (by simp [gl_impl_fieldShapes]) (by simpa [gl_impl_fieldShapes] using h)
def fieldP (p : GPacket) : Nat → Int
  | 0 => p.xFrom
  | 1 => p.xTo
  | 2 => p.xPort
  | _ => p.xProto
def topP : Nat → Int
  | 0 => 65535
  | 1 => 65535
  | 2 => 255
  | _ => 7
theorem pv_iff (p : GPacket) : pv p ↔ ∀ i, i < 4 → 0 ≤ fieldP p i ∧ fieldP p i ≤ topP i := by
  unfold pv
  constructor
  · rintro ⟨h0, h1, h2, h3⟩ i hi
    match i, hi with
    | 0, _ => exact h0
    | 1, _ => exact h1
    | 2, _ => exact h2
    | 3, _ => exact h3
  · intro h
    exact ⟨h 0 (by omega), h 1 (by omega), h 2 (by omega), h 3 (by omega)⟩
theorem S_PacketValid {p : GPacket} {κ : Bool → Prop} (h : κ (decide (pv p))) : L_impl_PacketValid p κ := by
  unfold L_impl_PacketValid L_impl_Packet_fields
  refine count_loop 4 (fun s => s) (fun k s => s = (k : Int) ∧ k ≤ 4 ∧ ∀ i, i < k → 0 ≤ fieldP p i ∧ fieldP p i ≤ topP i) (fun k s h => h.1) (fun k s h => h.2.1) ?_ ⟨rfl, by omega, fun i hi => by omega⟩
  rintro k _ next ⟨rfl, hk, hi⟩ hn
  refine ifW_of (fun hlt => ?_) (fun hge => ?_)
  · have hlt : k < 4 := by simp at hlt; omega
    have hno : ¬ (0 ≤ fieldP p k ∧ fieldP p k ≤ topP k) → κ false := fun hno => by
      rw [decide_eq_false (fun hv => hno ((pv_iff p).1 hv k hlt))] at h
      exact h
    refine idxW_of k rfl (by simpa using hlt) ?_
    have e : ([p.xFrom, p.xTo, p.xPort, p.xProto] : List Int)[k]'(by simpa using hlt) = fieldP p k := by
      match k, hlt with
      | 0, _ => rfl
      | 1, _ => rfl
      | 2, _ => rfl
      | 3, _ => rfl
    simp only [e]
    unfold jnW
    refine ifW_of (fun hc => ?_) (fun hc => S_fieldTop (by omega) (by omega) ?_)
    · simp only [ifW_true]; exact hno (by simp at hc; omega)
    · have et : (if (k : Int) ≤ 1 then (65535 : Int) else if (k : Int) = 2 then 255 else 7) = topP k := by
        match k, hlt with
        | 0, _ => rfl
        | 1, _ => rfl
        | 2, _ => rfl
        | 3, _ => rfl
      rw [et]
      refine ifW_of (fun h2 => hno (by simp at h2; omega)) (fun h2 => addW_of (by omega) (by omega) (hn hlt _ ⟨by simp, by omega, fun i hi' => ?_⟩))
      by_cases e : i = k
      · subst e; simp at hc h2; exact ⟨hc, h2⟩
      · exact hi i (by omega)
  · have : k = 4 := by simp at hge; omega
    subst this
    rw [decide_eq_true ((pv_iff p).2 hi)] at h
    exact h
theorem S_l1In {n lo hi : Int} {κ : Bool → Prop} (h : κ (decide (lo ≤ n ∧ n ≤ hi))) : L_spec_l1In n lo hi κ := by
  unfold L_spec_l1In jnW
  refine ifW_of (fun hc => ?_) (fun hc => ?_)
  · simp at hc; simpa [hc] using h
  · simp at hc; simpa [show ¬ (lo ≤ n) by omega] using h
theorem S_specPacketValid {p : GPacket} {κ : Bool → Prop} (h : κ (decide (pv p))) : L_spec_PacketValid p κ := by
  unfold L_spec_PacketValid jnW
  refine S_l1In (ifW_of (fun h1 => S_l1In (ifW_of (fun h2 => S_l1In (ifW_of (fun h3 => S_l1In ?_) (fun h3 => ?_))) (fun h2 => ?_))) (fun h1 => ?_))
  all_goals
    refine (congrArg κ ?_).mp h
    clear h
    first
      | (refine decide_eq_decide.2 ?_; simp only [decide_eq_true_eq] at *; unfold pv; constructor <;> (intro k; omega))
      | (refine decide_eq_false ?_; simp only [decide_eq_true_eq, decide_eq_false_iff_not] at *; unfold pv; intro k; omega)
def lv (t : Int) : Prop := 0 ≤ t ∧ t ≤ 1000
instance (t : Int) : Decidable (lv t) := by unfold lv; infer_instance
/-! flows -/
def fv (f : GFlow) : Prop := pv f.xWho ∧ tv f.xUntil
instance (f : GFlow) : Decidable (fv f) := by unfold fv; infer_instance
/-- the packet belongs to the flow -/
def hit (p : GPacket) (f : GFlow) : Prop := f.xWho = p ∨ rev f.xWho = p
instance (p : GPacket) (f : GFlow) : Decidable (hit p f) := by unfold hit; infer_instance
def fvP (l : List GFlow) : Prop := l.length ≤ 20 ∧ (∀ f ∈ l, fv f) ∧ l.Pairwise fun f g => ¬ hit g.xWho f
instance (l : List GFlow) : Decidable (fvP l) := by unfold fvP; infer_instance
/-- the number of the flow of a packet -/
def fl (l : List GFlow) (p : GPacket) : Int × Bool :=
  match l.findIdx? (fun f => decide (hit p f)) with
  | some i => ((i : Int), true)
  | none => (0, false)
def known (l : List GFlow) (p : GPacket) (now : Int) : Int :=
  match l.findIdx? (fun f => decide (hit p f)) with
  | some i => if ((l[i]?).map (·.xUntil)).getD 0 < now then -1 else (i : Int)
  | none => -1
def notExp (l : List GFlow) (now : Int) : List GFlow := l.filter fun f => decide (now ≤ f.xUntil)
def track (l : List GFlow) (p : GPacket) (now life : Int) : List GFlow × Bool :=
  if 0 ≤ known (notExp l now) p now then ((notExp l now).modify (known (notExp l now) p now).toNat (fun f => ⟨f.xWho, min (now + life) 1000000⟩), true)
  else if (notExp l now).length = 20 then (notExp l now, false) else (notExp l now ++ [⟨p, min (now + life) 1000000⟩], true)

def trackV (l : List GFlow) (p : GPacket) (now life : Int) : Prop := fvP l ∧ pv p ∧ tv now ∧ lv life
instance (l : List GFlow) (p : GPacket) (now life : Int) : Decidable (trackV l p now life) := by unfold trackV; infer_instance

end
section


theorem S_specReverse {p : GPacket} {κ : GPacket → Prop} (h : κ (if pv p then rev p else ⟨0, 0, 0, 0⟩)) : L_spec_ReversePacket p κ := by
  unfold L_spec_ReversePacket
  refine S_specPacketValid (ifW_of (fun hc => ?_) (fun hc => ?_))
  · rw [if_neg (by simpa using hc)] at h; exact h
  · rw [if_pos (by simpa using hc)] at h; exact h
/-! what tracking leaves -/
end
section
open Go.Lib (decDigits)

def B (l : List UInt8) : ByteArray := ByteArray.mk l.toArray
/-- a digit -/
def dg (c : UInt8) : Bool := decide (48 ≤ c.toNat) && decide (c.toNat ≤ 57)
def val (l : List UInt8) : Nat := l.foldl (fun n c => 10 * n + (c.toNat - 48)) 0
/-- the number at the head of a text: at most six digits -/
def run : Nat → List UInt8 → List UInt8
  | 0, _ => []
  | _, [] => []
  | k + 1, c :: l => if dg c then c :: run k l else []
end
section
open Go.Lib (decDigits)

/-- a text before and behind the first of a sign -/
def cut (c : UInt8) : List UInt8 → List UInt8 × List UInt8
  | [] => ([], [])
  | d :: l => if d = c then ([], l) else (d :: (cut c l).1, (cut c l).2)
end
section
open Go.Lib (decDigits)

theorem w64_small {x : Int} (h1 : -100 ≤ x) (h2 : x ≤ 100) : w64 x = x := by
  simp [w64, IntKind.wrap, IntKind.signed, IntKind.bits]; omega
theorem mem3 {α : Type} {x a b c : α} (h : x ∈ [a, b, c]) : x = a ∨ x = b ∨ x = c := by simpa using h
theorem RdP.step {b : List UInt8} {p p' : Int} {m : Int} (h : RdP b p) (h1 : p ≤ p') (h2 : p' ≤ 1000000) : RdP b p' := ⟨h.1, by have := h.2.1; omega, h2⟩


end
section
open Go.Lib (decDigits)

def top (f : Int) : Int := if f = 0 ∨ f = 1 then 65535 else if f = 2 then 255 else 7
theorem top_le (f : Int) : 7 ≤ top f ∧ top f ≤ 65535 := by unfold top; repeat' split
                                                           all_goals omega
def nm (f : Int) : List UInt8 := if f = 0 then [102, 114, 111, 109] else if f = 1 then [116, 111] else if f = 2 then [112, 111, 114, 116] else [112, 114, 111, 116, 111]
def TV (t : GTest) : Prop := 0 ≤ t.xField ∧ t.xField ≤ 3 ∧ 0 ≤ t.xLo ∧ t.xLo ≤ t.xHi ∧ t.xHi ≤ top t.xField
instance (t : GTest) : Decidable (TV t) := by unfold TV; infer_instance
theorem four {f : Int} (h0 : 0 ≤ f) (h1 : f ≤ 3) : f = 0 ∨ f = 1 ∨ f = 2 ∨ f = 3 := by omega
theorem S_shape {n : Int} {κ : GFieldShape → Prop} (h0 : 0 ≤ n) (h1 : n ≤ 3) (h : ∀ e : GFieldShape, e.xName = B (nm n) → e.xTop = top n → κ e) : idxW gl_impl_fieldShapes n κ := by
  rcases four h0 h1 with rfl | rfl | rfl | rfl
  · exact idxW_of 0 rfl (by decide) (h _ rfl rfl)
  · exact idxW_of 1 rfl (by decide) (h _ rfl rfl)
  · exact idxW_of 2 rfl (by decide) (h _ rfl rfl)
  · exact idxW_of 3 rfl (by decide) (h _ rfl rfl)
theorem S_spec_FieldTop {n : Int} {κ : Int → Prop} (h0 : 0 ≤ n) (h1 : n ≤ 3) (h : κ (top n)) : L_spec_FieldTop n κ := by
  unfold L_spec_FieldTop jnW
  rcases four h0 h1 with rfl | rfl | rfl | rfl <;> simpa [top] using h
theorem S_impl_FieldTop {n : Int} {κ : Int → Prop} (h : κ (if 0 ≤ n ∧ n ≤ 3 then top n else -1)) : L_impl_FieldTop n κ := by
  unfold L_impl_FieldTop jnW
  refine ifW_of (fun hc => ?_) (fun hc => ifW_of (fun hc2 => ?_) (fun hc2 => ?_))
  · simp at hc; rw [if_neg (by omega)] at h; simpa using h
  · simp at hc hc2; rw [if_neg (by omega)] at h; exact h
  · simp at hc hc2; rw [if_pos (by omega)] at h
    exact S_shape (by omega) (by omega) (fun e _ he => by rw [he]; exact h)
theorem S_spec_TestValid {t : GTest} {κ : Bool → Prop} (h : κ (decide (TV t))) : L_spec_TestValid t κ := by
  unfold L_spec_TestValid jnW
  refine S_l1In (ifW_of (fun hc => ?_) (fun hc => ?_))
  · simp at hc
    refine S_l1In (ifW_of (fun hc2 => ?_) (fun hc2 => ?_))
    · simp at hc2
      refine S_spec_FieldTop hc.1 hc.2 ?_
      rw [show decide (t.xHi ≤ top t.xField) = decide (TV t) from decide_eq_decide.2 ⟨fun hh => ⟨hc.1, hc.2, hc2.1, hc2.2, hh⟩, fun hh => hh.2.2.2.2⟩]
      exact h
    · simp at hc2
      rw [decide_eq_false (fun hh : TV t => by obtain ⟨a1, a2, a3, a4, _⟩ := hh; omega)] at h; exact h
  · simp at hc
    rw [decide_eq_false (fun hh : TV t => by obtain ⟨a1, a2, a3, a4, _⟩ := hh; omega)] at h; exact h
theorem S_impl_TestValid {t : GTest} {κ : Bool → Prop} (h : κ (decide (TV t))) : L_impl_TestValid t κ := by
  unfold L_impl_TestValid jnW
  have no : ¬ (0 ≤ t.xField ∧ t.xField < 4 ∧ 0 ≤ t.xLo ∧ t.xLo ≤ t.xHi) → κ false := fun hn => by
    rw [decide_eq_false (fun hh : TV t => by obtain ⟨a1, a2, a3, a4, _⟩ := hh; omega)] at h; exact h
  refine ifW_of (fun hc => ifW_of (fun hc2 => ifW_of (fun hc3 => ifW_of (fun hc4 => ?_) (fun hc4 => no (by simp at hc4; omega))) (fun hc3 => no (by simp at hc3; omega))) (fun hc2 => no (by simp at hc2; omega))) (fun hc => no (by simp at hc; omega))
  simp at hc hc2 hc3 hc4
  refine S_impl_FieldTop ?_
  rw [if_pos ⟨hc, by omega⟩]
  rw [show decide (t.xHi ≤ top t.xField) = decide (TV t) from decide_eq_decide.2 ⟨fun hh => ⟨hc, by omega, hc3, hc4, hh⟩, fun hh => hh.2.2.2.2⟩]
  exact h
end
section
open Go.Lib (decDigits)

/-- behind a test stands the end, or a comma -/
def Ends (r : List UInt8) : Prop := ∀ c m, r = c :: m → c = 44
theorem Ends.dg {r : List UInt8} (h : Ends r) : ∀ c m, r = c :: m → dg c = false := fun c m e => by rw [h c m e]; decide

end
section
open Go.Lib (decDigits)

theorem w64_64 (x : Int) : -9223372036854775808 ≤ w64 x ∧ w64 x ≤ 9223372036854775807 := by
  simp [w64, IntKind.wrap, IntKind.signed, IntKind.bits]; omega
/-- a draw of a span: whatever it draws, the second end is not the greatest number -/
theorem S_l20Span {b : List UInt8} {p tp n : Int} (hb : b.length ≤ 2000) (h0 : 0 ≤ p) (hp : p ≤ 900000) (ht0 : 7 ≤ tp) (ht : tp ≤ 65535) (hn : n ≤ 4294967296) {κ : GSpan × Int → Prop} (h : ∀ q p', p ≤ p' → p' ≤ p + 20 → -9223372036854775808 ≤ q.xHi → q.xHi ≤ 65536 → κ (q, p')) : L_spec_l20Span b p tp n κ := by
  have rd : ∀ p', p ≤ p' → p' ≤ p + 30 → RdP b p' := fun p' a c => ⟨hb, by omega, by omega⟩
  have B3 : ∀ (t144 t145 : Int), p ≤ t144 → t144 ≤ p + 6 → L_spec_l20Rd_pick b t144 4 (fun (r150, r151) => L_spec_l20Rd_pick b r151 256 (fun (r152, r153) => L_spec_l20Rd_pick b r153 4 (fun (r155, r156) => idxW ([0, r150, r152, 4096]) r155 (fun e157 => L_spec_l20Rd_odd b r156 n (fun (r174, r175) => ifW r174 (L_spec_l20Rd_pick b r175 3 (fun (r181, r182) => idxW ([(GSpan.mk (w64 ((min tp (w64 (t145 + e157))) + 1)) (min tp (w64 (t145 + e157)))), (GSpan.mk (-1) (min tp (w64 (t145 + e157)))), (GSpan.mk t145 (w64 (tp + 1)))]) r181 (fun e183 => κ ((GSpan.mk e183.xLo e183.xHi), r182)))) (κ ((GSpan.mk t145 (min tp (w64 (t145 + e157)))), r175))))))) := by
    intro t144 t145 g1 g2
    refine S_pick (rd _ (by omega) (by omega)) (fun v1 a1 c1 => S_pick (rd _ (by omega) (by omega)) (fun v2 a2 c2 => S_pick (rd _ (by omega) (by omega)) (fun v3 a3 c3 => idxW_any (by omega) (by simp; omega) (fun x _ => ?_))))
    have hm := w64_64 (t145 + x)
    have hw : w64 (tp + 1) = tp + 1 := by simp [w64, IntKind.wrap, IntKind.signed, IntKind.bits]; omega
    refine S_odd (rd _ (by omega) (by omega)) hn (fun c p1 f1 f2 => ifW_of (fun _ => ?_) (fun _ => h _ _ (by omega) (by omega) (by simp only; omega) (by simp only; omega)))
    refine S_pick (rd _ (by omega) (by omega)) (fun v4 a4 c4 => idxW_any (by omega) (by simp; omega) (fun y hy => ?_))
    rw [hw] at hy
    have hb : -9223372036854775808 ≤ y.xHi ∧ y.xHi ≤ 65536 := by rcases mem3 hy with e | e | e <;> subst e <;> simp only <;> omega
    exact h _ _ (by omega) (by omega) hb.1 hb.2
  unfold L_spec_l20Span
  refine addW_of (by omega) (by omega) (S_pick (rd p (by omega) (by omega)) (fun v a c => ?_))
  unfold jnW
  refine ifW_of (fun _ => ?_) (fun _ => ?_)
  · refine S_pick (rd _ (by omega) (by omega)) (fun v5 a5 c5 => ?_)
    refine ifW_of (fun _ => ?_) (fun _ => ?_)
    · exact S_pick (rd _ (by omega) (by omega)) (fun v6 a6 c6 => B3 _ _ (by omega) (by omega))
    · exact B3 _ _ (by omega) (by omega)
  · refine ifW_of (fun e => by cases e) (fun _ => B3 _ _ (by omega) (by omega))
theorem S_l20Test {b : List UInt8} {p n : Int} (hb : b.length ≤ 2000) (h0 : 0 ≤ p) (hp : p ≤ 800000) (hn : n ≤ 4294967296) {κ : GTest × Int → Prop} (h : ∀ q p', p ≤ p' → p' ≤ p + 50 → κ (q, p')) : L_spec_l20Test b p n κ := by
  have rd : ∀ p', p ≤ p' → p' ≤ p + 60 → RdP b p' := fun p' a c => ⟨hb, by omega, by omega⟩
  unfold L_spec_l20Test
  refine S_pick (rd p (by omega) (by omega)) (fun f a1 c1 => S_pick (rd _ (by omega) (by omega)) (fun nt a2 c2 => S_spec_FieldTop (by omega) (by omega) ?_))
  have ht := top_le f
  refine S_l20Span hb (by omega) (by omega) ht.1 ht.2 (by omega) (fun sp p1 g1 g2 s1 s2 => ?_)
  unfold jnW
  have fin : ∀ (t241 t242 t243 : Int), p ≤ t241 → t241 ≤ p + 35 → -9223372036854775808 ≤ t243 → t243 ≤ 65536 → L_spec_l20Rd_odd b t241 n (fun (r245, r246) => ifW r245 (L_spec_l20Rd_pick b r246 3 (fun (r247, r248) => ifW (decide (r247 = 0)) (L_spec_l20Rd_pick b r248 2 (fun (r251, r252) => idxW ([(-1), 4]) r251 (fun e253 => κ ((GTest.mk e253 t242 t243 (decide (nt = 0))), r252)))) (ifW (decide (r247 = 1)) (addW t243 1 (fun t255 => κ ((GTest.mk f t255 t243 (decide (nt = 0))), r248))) (addW (top f) 1 (fun t256 => κ ((GTest.mk f t242 t256 (decide (nt = 0))), r248)))))) (κ ((GTest.mk f t242 t243 (decide (nt = 0))), r246))) := by
    intro t241 t242 t243 q1 q2 q3 q4
    refine S_odd (rd _ (by omega) (by omega)) hn (fun c p1 f1 f2 => ifW_of (fun _ => ?_) (fun _ => h _ _ (by omega) (by omega)))
    refine S_pick (rd _ (by omega) (by omega)) (fun v4 a4 c4 => ifW_of (fun _ => ?_) (fun _ => ifW_of (fun _ => addW_of (by omega) (by omega) (h _ _ (by omega) (by omega))) (fun _ => addW_of (by omega) (by omega) (h _ _ (by omega) (by omega)))))
    exact S_pick (rd _ (by omega) (by omega)) (fun v5 a5 c5 => idxW_any (by omega) (by simp; omega) (fun y _ => h _ _ (by omega) (by omega)))
  have mid : ∀ (t152 t153 t154 : Int), p ≤ t152 → t152 ≤ p + 30 → -9223372036854775808 ≤ t154 → t154 ≤ 65536 → L_spec_l20Rd_pick b t152 8 (fun (r156, r157) => ifW (decide (r156 = 0)) (L_spec_l20Rd_pick b r157 3 (fun (r163, r164) => idxW ([(GSpan.mk 0 (top f)), (GSpan.mk 0 t154), (GSpan.mk t153 (top f))]) r163 (fun e165 => L_spec_l20Rd_odd b r164 n (fun (r245, r246) => ifW r245 (L_spec_l20Rd_pick b r246 3 (fun (r247, r248) => ifW (decide (r247 = 0)) (L_spec_l20Rd_pick b r248 2 (fun (r251, r252) => idxW ([(-1), 4]) r251 (fun e253 => κ ((GTest.mk e253 e165.xLo e165.xHi (decide (nt = 0))), r252)))) (ifW (decide (r247 = 1)) (addW e165.xHi 1 (fun t255 => κ ((GTest.mk f t255 e165.xHi (decide (nt = 0))), r248))) (addW (top f) 1 (fun t256 => κ ((GTest.mk f e165.xLo t256 (decide (nt = 0))), r248)))))) (κ ((GTest.mk f e165.xLo e165.xHi (decide (nt = 0))), r246)))))) (L_spec_l20Rd_odd b r157 n (fun (r245, r246) => ifW r245 (L_spec_l20Rd_pick b r246 3 (fun (r247, r248) => ifW (decide (r247 = 0)) (L_spec_l20Rd_pick b r248 2 (fun (r251, r252) => idxW ([(-1), 4]) r251 (fun e253 => κ ((GTest.mk e253 t153 t154 (decide (nt = 0))), r252)))) (ifW (decide (r247 = 1)) (addW t154 1 (fun t255 => κ ((GTest.mk f t255 t154 (decide (nt = 0))), r248))) (addW (top f) 1 (fun t256 => κ ((GTest.mk f t153 t256 (decide (nt = 0))), r248)))))) (κ ((GTest.mk f t153 t154 (decide (nt = 0))), r246))))) := by
    intro t152 t153 t154 q1 q2 q3 q4
    refine S_pick (rd _ (by omega) (by omega)) (fun v4 a4 c4 => ifW_of (fun _ => ?_) (fun _ => fin _ _ _ (by omega) (by omega) q3 q4))
    refine S_pick (rd _ (by omega) (by omega)) (fun v5 a5 c5 => idxW_any (by omega) (by simp; omega) (fun y hy => ?_))
    have hb : -9223372036854775808 ≤ y.xHi ∧ y.xHi ≤ 65536 := by rcases mem3 hy with e | e | e <;> subst e <;> simp only <;> omega
    exact fin _ _ _ (by omega) (by omega) hb.1 hb.2
  refine ifW_of (fun _ => ?_) (fun _ => ?_)
  · refine S_pick (rd _ (by omega) (by omega)) (fun v a c => ?_)
    refine ifW_of (fun _ => ?_) (fun _ => mid _ _ _ (by omega) (by omega) s1 s2)
    refine S_pick (rd _ (by omega) (by omega)) (fun v2 a2 c2 => S_pick (rd _ (by omega) (by omega)) (fun v3 a3 c3 => ?_))
    have hw : w64 (v2 + v3) = v2 + v3 := w64_small (by omega) (by omega)
    exact mid _ _ _ (by omega) (by omega) (by rw [hw]; omega) (by rw [hw]; omega)
  · exact ifW_of (fun e => by cases e) (fun _ => mid _ _ _ (by omega) (by omega) s1 s2)


end
section
open Go.Lib (decDigits)

/-- the word of an action -/
def aw (a : Int) : List UInt8 := if a = 1 then [97, 99, 99, 101, 112, 116] else if a = 2 then [100, 114, 111, 112] else if a = 3 then [99, 97, 108, 108] else if a = 4 then [114, 101, 116, 117, 114, 110] else [110, 111, 110, 101]
def TsV (ts : List GTest) : Prop := (∀ t, t ∈ ts → TV t) ∧ ts.length ≤ 6
instance (ts : List GTest) : Decidable (TsV ts) := by unfold TsV; infer_instance
def HV (a c : Int) : Prop := 1 ≤ a ∧ a ≤ 5 ∧ (a = 3 → 0 ≤ c ∧ c ≤ 4) ∧ (a ≠ 3 → c = 0)
instance (a c : Int) : Decidable (HV a c) := by unfold HV; infer_instance
def RV (r : GRule) : Prop := TsV r.xTests ∧ HV r.xAction r.xChain
instance (r : GRule) : Decidable (RV r) := by unfold RV; infer_instance
def hd (a c : Int) : List UInt8 := aw a ++ (if a = 3 then 32 :: decDigits c.toNat else [])
theorem S_spec_TestsValid {ts : List GTest} {κ : Bool → Prop} (hl : ts.length ≤ 4294967296) (h : κ (decide (TsV ts))) : L_spec_TestsValid ts κ := by
  unfold L_spec_TestsValid
  refine count_loop ts.length (fun s => s) (fun k s => s = (k : Int) ∧ k ≤ ts.length ∧ ∀ t, t ∈ ts.take k → TV t) (fun k s h => h.1) (fun k s h => h.2.1) ?_ ⟨rfl, Nat.zero_le _, by simp⟩
  rintro k _ next ⟨rfl, hk, he⟩ hn
  refine ifW_of (fun hc => ?_) (fun hc => ?_)
  · have hlt : k < ts.length := by simpa using hc
    refine idxW_of k rfl hlt (S_spec_TestValid (ifW_of (fun hc2 => ?_) (fun hc2 => ?_)))
    · simp at hc2
      rw [decide_eq_false (fun hh : TsV ts => hc2 (hh.1 _ (List.getElem_mem hlt)))] at h; exact h
    · simp at hc2
      refine addW_of (by omega) (by omega) (hn hlt _ ⟨by omega, by omega, fun t ht => ?_⟩)
      rw [List.take_succ_eq_append_getElem hlt] at ht
      rcases List.mem_append.1 ht with ht | ht
      · exact he t ht
      · rw [List.mem_singleton] at ht; subst ht; exact hc2
  · have hge : ts.length ≤ k := by simpa using hc
    rw [List.take_of_length_le hge] at he
    rw [show decide ((ts.length : Int) ≤ 6) = decide (TsV ts) from decide_eq_decide.2 ⟨fun hh => ⟨he, by omega⟩, fun hh => by have := hh.2; omega⟩]
    exact h
theorem S_impl_TestsValid {ts : List GTest} {κ : Bool → Prop} (hl : ts.length ≤ 4294967296) (h : κ (decide (TsV ts))) : L_impl_TestsValid ts κ := by
  unfold L_impl_TestsValid
  refine ifW_of (fun hc => ?_) (fun hc => ?_)
  · rw [decide_eq_false (fun hh : TsV ts => by have := hh.2; simp at hc; omega)] at h; exact h
  simp at hc
  refine count_loop ts.length (fun s => s) (fun k s => s = (k : Int) ∧ k ≤ ts.length ∧ ∀ t, t ∈ ts.take k → TV t) (fun k s h => h.1) (fun k s h => h.2.1) ?_ ⟨rfl, Nat.zero_le _, by simp⟩
  rintro k _ next ⟨rfl, hk, he⟩ hn
  refine ifW_of (fun hc => ?_) (fun hc => ?_)
  · have hlt : k < ts.length := by simpa using hc
    refine idxW_of k rfl hlt (S_impl_TestValid (ifW_of (fun hc2 => ?_) (fun hc2 => ?_)))
    · simp at hc2
      rw [decide_eq_false (fun hh : TsV ts => hc2 (hh.1 _ (List.getElem_mem hlt)))] at h; exact h
    · simp at hc2
      refine addW_of (by omega) (by omega) (hn hlt _ ⟨by omega, by omega, fun t ht => ?_⟩)
      rw [List.take_succ_eq_append_getElem hlt] at ht
      rcases List.mem_append.1 ht with ht | ht
      · exact he t ht
      · rw [List.mem_singleton] at ht; subst ht; exact hc2
  · have hge : ts.length ≤ k := by simpa using hc
    rw [List.take_of_length_le hge] at he
    rw [show decide (TsV ts) = true from decide_eq_true ⟨he, by omega⟩] at h; exact h

theorem S_spec_RuleValid {r : GRule} {κ : Bool → Prop} (hl : r.xTests.length ≤ 4294967296) (h : κ (decide (RV r))) : L_spec_RuleValid r κ := by
  have no : ¬ RV r → κ false := fun hn => by rw [decide_eq_false hn] at h; exact h
  unfold L_spec_RuleValid jnW
  refine S_spec_TestsValid hl (ifW_of (fun h1 => ?_) (fun h1 => no (fun hh => by simp [hh.1] at h1)))
  simp at h1
  refine S_l1In (ifW_of (fun h2 => ?_) (fun h2 => no (fun hh => by simp [hh.2.1, hh.2.2.1] at h2)))
  simp at h2
  refine ifW_of (fun h3 => ?_) (fun h3 => ?_)
  · simp at h3
    refine S_l1In (ifW_of (fun h4 => ?_) (fun h4 => ?_))
    · simp at h4
      rw [show decide (RV r) = true from decide_eq_true ⟨h1, h2.1, h2.2, fun _ => h4, fun e => absurd h3 e⟩] at h; exact h
    · simp at h4
      simp only [h3, decide_true, Bool.not_true, ifW_false]
      exact no (fun hh => by have := hh.2.2.2.1 h3; omega)
  · simp at h3
    simp only [h3, decide_false, Bool.not_false, ifW_true]
    rw [show decide (r.xChain = 0) = decide (RV r) from decide_eq_decide.2 ⟨fun hh => ⟨h1, h2.1, h2.2, fun e => absurd e h3, fun _ => hh⟩, fun hh => hh.2.2.2.2 h3⟩]
    exact h
theorem S_impl_RuleValid {r : GRule} {κ : Bool → Prop} (hl : r.xTests.length ≤ 4294967296) (h : κ (decide (RV r))) : L_impl_RuleValid r κ := by
  have no : ¬ RV r → κ false := fun hn => by rw [decide_eq_false hn] at h; exact h
  unfold L_impl_RuleValid jnW
  refine S_impl_TestsValid hl (ifW_of (fun h1 => no (fun hh => by simp [hh.1] at h1)) (fun h1 => ?_))
  simp at h1
  refine ifW_of (fun h3 => ?_) (fun h3 => ?_)
  · simp at h3
    refine ifW_of (fun h4 => ?_) (fun h4 => no (fun hh => by have := hh.2.2.2.1 h3; simp at h4; omega))
    simp at h4
    rw [show decide (r.xChain < 5) = decide (RV r) from decide_eq_decide.2 ⟨fun hh => ⟨h1, by omega, by omega, fun _ => ⟨h4, by omega⟩, fun e => absurd h3 e⟩, fun hh => by have := hh.2.2.2.1 h3; omega⟩]
    exact h
  · simp at h3
    have yes : 1 ≤ r.xAction → r.xAction ≤ 5 → κ (decide (r.xChain = 0)) := fun a1 a2 => by
      rw [show decide (r.xChain = 0) = decide (RV r) from decide_eq_decide.2 ⟨fun hh => ⟨h1, a1, a2, fun e => absurd e h3, fun _ => hh⟩, fun hh => hh.2.2.2.2 h3⟩]
      exact h
    by_cases e1 : r.xAction = 1
    · simp only [e1, decide_true, ifW_true]; exact yes (by omega) (by omega)
    by_cases e2 : r.xAction = 2
    · simp only [e2, decide_true, ifW_true]; exact ifW_of (fun e => by simp at e) (fun _ => yes (by omega) (by omega))
    by_cases e4 : r.xAction = 4
    · simp only [e4, decide_true, ifW_true]
      exact ifW_of (fun e => by simp at e) (fun _ => ifW_of (fun e => by simp at e) (fun _ => yes (by omega) (by omega)))
    by_cases e5 : r.xAction = 5
    · simp only [e5, decide_true, ifW_true]
      exact ifW_of (fun e => by simp at e) (fun _ => ifW_of (fun e => by simp at e) (fun _ => ifW_of (fun e => by simp at e) (fun _ => yes (by omega) (by omega))))
    simp only [e1, e2, e4, e5, decide_false, ifW_false]
    exact no (fun hh => by have := hh.2.1; have := hh.2.2.1; omega)

end
section
open Go.Lib (decDigits)

theorem S_l20Tests {b : List UInt8} {p n : Int} (hb : b.length ≤ 2000) (h0 : 0 ≤ p) (hp : p ≤ 700000) (hn : n ≤ 4294967296) {κ : List GTest × Int → Prop} (h : ∀ ts p', p ≤ p' → p' ≤ p + 300 → ts.length ≤ 8 → κ (ts, p')) : L_spec_l20Tests b p n κ := by
  have rd : ∀ p', p ≤ p' → p' ≤ p + 300 → RdP b p' := fun p' a c => ⟨hb, by omega, by omega⟩
  unfold L_spec_l20Tests
  refine S_pick (rd p (by omega) (by omega)) (fun v a c => ?_)
  refine loopW_inv (fun s => 0 ≤ s.2.2 ∧ s.2.2 ≤ 3 ∧ p ≤ s.1 ∧ s.1 ≤ p + 1 + 50 * (3 - s.2.2) ∧ s.2.1.length + s.2.2.toNat ≤ 3) (fun s => s.2.2.toNat) ?_ ⟨a, by simp only; omega, by simp only; omega, by simp only; omega, by simp only [List.length_nil]; omega⟩
  rintro ⟨q, xs, k⟩ next ⟨k0, k1, q0, q1, hx⟩ hnx
  simp only at k0 k1 q0 q1 hx
  refine ifW_of (fun hc => ?_) (fun hc => ?_)
  · simp at hc
    refine S_l20Test hb (by omega) (by omega) (by omega) (fun t p' g1 g2 => appW_of (by simp; omega) (subW_of (by omega) (by omega) (hnx _ ⟨by simp only; omega, by simp only; omega, by simp only; omega, by simp only; omega, by simp; omega⟩ (by simp only; omega))))
  · simp at hc
    unfold jnW
    refine S_odd (rd _ (by omega) (by omega)) hn (fun o p1 f1 f2 => ifW_of (fun _ => ?_) (fun _ => h _ _ (by omega) (by omega) (by omega)))
    refine S_pick (rd _ (by omega) (by omega)) (fun v2 a2 c2 => ifW_of (fun _ => ?_) (fun _ => ?_))
    · exact S_l20Test hb (by omega) (by omega) (by omega) (fun t p' g1 g2 => appW_of (by simp; omega) (h _ _ (by omega) (by omega) (by simp; omega)))
    · exact makeW_of 7 rfl (by omega) (by omega) (h _ _ (by omega) (by omega) (by simp))
theorem S_l20Rule {b : List UInt8} {p n first chains : Int} (hb : b.length ≤ 2000) (h0 : 0 ≤ p) (hp : p ≤ 600000) (hn : n ≤ 4294967296) (hf0 : 0 ≤ first) (hf1 : first ≤ 100) (hc0 : 0 ≤ chains) (hc1 : chains ≤ 100) {κ : GRule × Int → Prop} (h : ∀ r p', p ≤ p' → p' ≤ p + 700 → r.xTests.length ≤ 8 → κ (r, p')) : L_spec_l20Rule b p first chains n κ := by
  have rd : ∀ p', p ≤ p' → p' ≤ p + 700 → RdP b p' := fun p' a c => ⟨hb, by omega, by omega⟩
  unfold L_spec_l20Rule
  refine S_l20Tests hb h0 (by omega) (by omega) (fun ts p1 g1 g2 hts => S_pick (rd _ (by omega) (by omega)) (fun v a c => idxW_any (by omega) (by simp; omega) (fun act _ => ?_)))
  unfold jnW
  have fin : ∀ (t86 t87 t88 : Int), p ≤ t88 → t88 ≤ p + 310 → L_spec_l20Rd_odd b t88 n (fun (r90, r91) => ifW r90 (L_spec_l20Rd_pick b r91 3 (fun (r92, r93) => ifW (decide (r92 = 0)) (L_spec_l20Rd_pick b r93 2 (fun (r96, r97) => idxW ([0, 6]) r96 (fun e98 => κ ((GRule.mk ts e98 t87), r97)))) (ifW (decide (r92 = 1)) (L_spec_l20Rd_pick b r93 3 (fun (r102, r103) => idxW ([(-1), 5, 1]) r102 (fun e104 => κ ((GRule.mk ts t86 e104), r103)))) (L_spec_l20Tests b r93 1 (fun (r106, r109) => κ ((GRule.mk r106 t86 t87), r109)))))) (κ ((GRule.mk ts t86 t87), r91))) := by
    intro t86 t87 t88 q1 q2
    refine S_odd (rd _ (by omega) (by omega)) hn (fun o p2 f1 f2 => ifW_of (fun _ => ?_) (fun _ => h _ _ (by omega) (by omega) hts))
    refine S_pick (rd _ (by omega) (by omega)) (fun v2 a2 c2 => ifW_of (fun _ => ?_) (fun _ => ifW_of (fun _ => ?_) (fun _ => ?_)))
    · exact S_pick (rd _ (by omega) (by omega)) (fun v3 a3 c3 => idxW_any (by omega) (by simp; omega) (fun x _ => h _ _ (by omega) (by omega) hts))
    · exact S_pick (rd _ (by omega) (by omega)) (fun v3 a3 c3 => idxW_any (by omega) (by simp; omega) (fun x _ => h _ _ (by omega) (by omega) hts))
    · exact S_l20Tests hb (by omega) (by omega) (by omega) (fun ts2 p3 f3 f4 hts2 => h _ _ (by omega) (by omega) hts2)
  refine ifW_of (fun _ => ifW_of (fun _ => fin _ _ _ (by omega) (by omega)) (fun hc => ?_)) (fun _ => fin _ _ _ (by omega) (by omega))
  simp at hc
  refine subW_of (by omega) (by omega) (S_pick (rd _ (by omega) (by omega)) (fun v2 a2 c2 => addW_of (by omega) (by omega) (fin _ _ _ (by omega) (by omega))))
end
section


/-- chain i calls chain j -/
def Ca (cs : List (List GRule)) (i j : Nat) : Prop := ∃ c, cs[i]? = some c ∧ ∃ r, r ∈ c ∧ r.xAction = 3 ∧ r.xChain = (j : Int)
/-- no call leads back, from i on -/
def Sf (cs : List (List GRule)) (i : Nat) : Prop := Acc (fun j i => Ca cs i j) i
theorem sf_of {cs : List (List GRule)} {i : Nat} (h : ∀ j, Ca cs i j → Sf cs j) : Sf cs i := Acc.intro _ h
/-- a way by calls, at least one -/
inductive Wy (cs : List (List GRule)) : Nat → Nat → Prop
  | one {i j : Nat} : Ca cs i j → Wy cs i j
  | more {i j k : Nat} : Wy cs i j → Ca cs j k → Wy cs i k
theorem wy_first {cs : List (List GRule)} {i k : Nat} (w : Wy cs i k) : ∃ j, Ca cs i j ∧ (j = k ∨ Wy cs j k) := by
  induction w with
  | one h => exact ⟨_, h, .inl rfl⟩
  | more _ h ih =>
    obtain ⟨j, h1, h2⟩ := ih
    rcases h2 with rfl | h2
    · exact ⟨_, h1, .inr (.one h)⟩
    · exact ⟨_, h1, .inr (.more h2 h)⟩
theorem wy_loop {cs : List (List GRule)} {i : Nat} (hs : Sf cs i) : ¬ Wy cs i i := by
  induction hs with
  | intro x _ ih =>
    intro w
    obtain ⟨j, h1, h2⟩ := wy_first w
    rcases h2 with rfl | h2
    · exact ih _ h1 w
    · exact ih j h1 (.more h2 h1)

/-- every rule of every chain is valid, and calls a chain that is there -/
def Tg (cs : List (List GRule)) : Prop := cs.length ≤ 5 ∧ ∀ c, c ∈ cs → (c.length ≤ 8 ∧ ∀ r, r ∈ c → RV r ∧ r.xChain < cs.length)

/-- the same, whatever is called -/
def Tw (cs : List (List GRule)) : Prop := cs.length ≤ 5 ∧ ∀ c, c ∈ cs → (c.length ≤ 8 ∧ ∀ r, r ∈ c → RV r)
theorem Tg.w {cs : List (List GRule)} (h : Tg cs) : Tw cs := ⟨h.1, fun c hc => ⟨(h.2 c hc).1, fun r hr => ((h.2 c hc).2 r hr).1⟩⟩
theorem sf_out {cs : List (List GRule)} {j : Nat} (h : cs.length ≤ j) : Sf cs j := sf_of (fun i ⟨c, h1, _⟩ => by have := (List.getElem?_eq_some_iff.1 h1).1; omega)
/-- the chains that a chain calls -/
theorem S_callsIn {rules : List GRule} {κ : List Int → Prop} (hl : rules.length ≤ 8) (hv : ∀ r, r ∈ rules → RV r) (h : ∀ ys : List Int, ys.length ≤ 5 → (∀ x, x ∈ ys ↔ ∃ r, r ∈ rules ∧ r.xAction = 3 ∧ r.xChain = x) → κ ys) : L_impl_callsIn rules κ := by
  unfold L_impl_callsIn
  refine count_loop rules.length (fun s => s.2) (fun k s => s.2 = (k : Int) ∧ k ≤ rules.length ∧ s.1.length = 5 ∧ ∀ i : Nat, i < 5 → (s.1[i]? = some true ↔ ∃ r, r ∈ rules.take k ∧ r.xAction = 3 ∧ r.xChain = (i : Int))) (fun k s h => h.1) (fun k s h => h.2.1) ?_ ⟨rfl, Nat.zero_le _, rfl, fun i hi => ?_⟩
  · rintro k ⟨xs, _⟩ next ⟨rfl, hk, hx, he⟩ hn
    simp only at hx he
    refine ifW_of (fun hc => ?_) (fun hc => ?_)
    · have hlt : k < rules.length := by simpa using hc
      have hrv := hv _ (List.getElem_mem hlt)
      have htk : ∀ r, r ∈ rules.take (k + 1) ↔ r ∈ rules.take k ∨ r = rules[k] := fun r => by
        rw [List.take_succ_eq_append_getElem hlt, List.mem_append, List.mem_singleton]
      unfold jnW
      refine idxW_of k rfl hlt (ifW_of (fun h3 => ?_) (fun h3 => ?_))
      · simp at h3
        have hch := hrv.2.2.2.1 h3
        obtain ⟨m, hm⟩ := Int.eq_ofNat_of_zero_le hch.1
        refine idxW_any hch.1 (by rw [hx]; omega) (fun _ _ => addW_of (by omega) (by omega) (hn hlt _ ⟨by simp, by omega, by simpa using hx, fun i hi => ?_⟩))
        simp only [htk]
        rw [hm, Int.toNat_natCast]
        by_cases e : i = m
        · subst e
          simp only [List.getElem?_set_self (show i < xs.length by omega), true_iff]
          exact ⟨_, .inr rfl, h3, hm⟩
        · rw [List.getElem?_set_ne (by omega), he i hi]
          constructor
          · rintro ⟨r, h1, h2⟩; exact ⟨r, .inl h1, h2⟩
          · rintro ⟨r, h1 | rfl, h2, h4⟩
            · exact ⟨r, h1, h2, h4⟩
            · omega
      · simp at h3
        refine addW_of (by omega) (by omega) (hn hlt _ ⟨by simp, by omega, hx, fun i hi => ?_⟩)
        simp only [htk]
        rw [he i hi]
        constructor
        · rintro ⟨r, h1, h2⟩; exact ⟨r, .inl h1, h2⟩
        · rintro ⟨r, h1 | rfl, h2, h4⟩
          · exact ⟨r, h1, h2, h4⟩
          · exact absurd h2 h3
    · have hge : rules.length ≤ k := by simpa using hc
      rw [List.take_of_length_le hge] at he
      obtain ⟨e0, e1, e2, e3, e4, rfl⟩ : ∃ a b c d e, xs = [a, b, c, d, e] := by
        match xs, hx with
        | [a, b, c, d, e], _ => exact ⟨a, b, c, d, e, rfl⟩
      refine ⟨e0, e1, e2, e3, e4, rfl, ?_⟩
      refine count_loop 5 (fun s => s.2) (fun j s => s.2 = (j : Int) ∧ j ≤ 5 ∧ s.1.length ≤ j ∧ ∀ x, x ∈ s.1 ↔ ∃ i : Nat, i < j ∧ x = (i : Int) ∧ [e0, e1, e2, e3, e4][i]? = some true) (fun j s h => h.1) (fun j s h => h.2.1) ?_ ⟨rfl, Nat.zero_le _, by simp, by simp⟩
      rintro j ⟨ys, _⟩ next2 ⟨rfl, hj, hyl, hy⟩ hn2
      simp only at hyl hy
      refine ifW_of (fun hc2 => ?_) (fun hc2 => ?_)
      · have hj5 : j < 5 := by simp at hc2; omega
        have hjl : j < [e0, e1, e2, e3, e4].length := by simpa using hj5
        unfold jnW
        refine idxW_of j rfl hjl (ifW_of (fun h3 => ?_) (fun h3 => ?_))
        · refine appW_of (by simp; omega) (addW_of (by omega) (by omega) (hn2 hj5 _ ⟨by simp, by omega, by simp; omega, fun x => ?_⟩))
          simp only [List.mem_append, List.mem_singleton, hy]
          constructor
          · rintro (⟨i, h1, h2, h4⟩ | rfl)
            · exact ⟨i, by omega, h2, h4⟩
            · exact ⟨j, by omega, rfl, by rw [List.getElem?_eq_getElem hjl, h3]⟩
          · rintro ⟨i, h1, h2, h4⟩
            by_cases e : i = j
            · subst e; exact .inr h2
            · exact .inl ⟨i, by omega, h2, h4⟩
        · refine addW_of (by omega) (by omega) (hn2 hj5 _ ⟨by simp, by omega, by simp only; omega, fun x => ?_⟩)
          simp only [hy]
          constructor
          · rintro ⟨i, h1, h2, h4⟩; exact ⟨i, by omega, h2, h4⟩
          · rintro ⟨i, h1, h2, h4⟩
            by_cases e : i = j
            · subst e; rw [List.getElem?_eq_getElem hjl, h3] at h4; simp at h4
            · exact ⟨i, by omega, h2, h4⟩
      · have hj5 : j = 5 := by simp at hc2; omega
        subst hj5
        refine h ys hyl (fun x => ?_)
        rw [hy]
        constructor
        · rintro ⟨i, h1, rfl, h4⟩; exact (he i h1).1 h4
        · rintro ⟨r, h1, h2, rfl⟩
          have hch := (hv r h1).2.2.2.1 h2
          obtain ⟨m, hm⟩ := Int.eq_ofNat_of_zero_le hch.1
          exact ⟨m, by omega, hm, (he m (by omega)).2 ⟨r, h1, h2, hm⟩⟩
  · constructor
    · intro hh
      have : i = 0 ∨ i = 1 ∨ i = 2 ∨ i = 3 ∨ i = 4 := by omega
      rcases this with rfl | rfl | rfl | rfl | rfl <;> simp at hh
    · rintro ⟨r, h1, _⟩; simp at h1

/-- the colours -/
def Co (cols : List Int) : Prop := cols.length = 5 ∧ ∀ x, x ∈ cols → x = 0 ∨ x = 1 ∨ x = 2
theorem co_set {cols : List Int} {i : Nat} {v : Int} (h : Co cols) (hv : v = 0 ∨ v = 1 ∨ v = 2) : Co (cols.set i v) := ⟨by rw [List.length_set]; exact h.1, fun x hx => by
  rcases List.mem_or_eq_of_mem_set hx with hx | rfl
  · exact h.2 x hx
  · exact hv⟩
/-- what a visit of c does to the colours -/
structure Vi (cs : List (List GRule)) (c : Nat) (cols : List Int) (ok : Bool) (cols' : List Int) : Prop where
  co : Co cols'
  black : ∀ i : Nat, cols[i]? = some 2 → cols'[i]? = some 2
  grey : ∀ i : Nat, cols'[i]? = some 1 ↔ cols[i]? = some 1
  white : cols'.count 0 ≤ cols.count 0
  good : ok = true → (∀ i : Nat, cols[i]? = some 2 → Sf cs i) → (∀ i : Nat, cols'[i]? = some 2 → Sf cs i) ∧ (c < cs.length → cols'[c]? = some 2)
  bad : ok = false → (∀ g : Nat, cols[g]? = some 1 → Wy cs g c) → ∃ i, i < cs.length ∧ ¬ Sf cs i

theorem count_le5 {cols : List Int} (h : cols.length = 5) : cols.count 0 ≤ 5 := by have := List.count_le_length (a := (0 : Int)) (l := cols); omega
theorem S_visitR {cs : List (List GRule)} (ht : Tw cs) : ∀ (n c : Nat) (cols : List Int) (κ : Bool × List Int → Prop), Co cols → cols.count 0 < n →
    (∀ ok cols', Vi cs c cols ok cols' → κ (ok, cols')) → R_impl_visitCalls n cs (c : Int) cols κ
  | 0, c, cols, κ, hco, hw, h => by omega
  | n + 1, c, cols, κ, hco, hw, h => by
    have hn5 := ht.1
    show B_impl_visitCalls (R_impl_visitCalls n) cs (c : Int) cols κ
    unfold B_impl_visitCalls
    refine ifW_of (fun hx => h _ _ ⟨hco, fun i hi => hi, fun i => Iff.rfl, Nat.le_refl _, fun _ hb => ⟨hb, fun hlt => by simp at hx; omega⟩, fun e => by cases e⟩) (fun hx => ?_)
    have hc : c < cs.length := by simp at hx; omega
    have hcl : c < cols.length := by rw [hco.1]; omega
    refine idxW_of c rfl hcl (ifW_of (fun h1 => ?_) (fun h1 => ifW_of (fun h2 => ?_) (fun h2 => ?_)))
    · have e1 : cols[c]? = some 1 := by rw [List.getElem?_eq_getElem hcl]; simpa using h1
      exact h _ _ ⟨hco, fun i hi => hi, fun i => Iff.rfl, Nat.le_refl _, fun e => (by cases e), fun _ hg => ⟨c, hc, fun hs => wy_loop hs (hg c e1)⟩⟩
    · have e2 : cols[c]? = some 2 := by rw [List.getElem?_eq_getElem hcl]; simpa using h2
      exact h _ _ ⟨hco, fun i hi => hi, fun i => Iff.rfl, Nat.le_refl _, fun _ hb => ⟨hb, fun _ => e2⟩, fun e => by cases e⟩
    · have e0 : cols[c] = 0 := by
        have := hco.2 _ (List.getElem_mem hcl)
        simp at h1 h2; omega
      have e0' : cols[c]? = some 0 := by rw [List.getElem?_eq_getElem hcl, e0]
      have hcs : cs[c]? = some cs[c] := List.getElem?_eq_getElem hc
      have hch := ht.2 _ (List.getElem_mem hc)
      refine idxW_of c rfl hcl (idxW_of c rfl hc (S_callsIn hch.1 hch.2 (fun ys hyl hys => ?_)))
      have hca : ∀ j : Nat, Ca cs c j ↔ (j : Int) ∈ ys := fun j => by
        rw [hys]
        constructor
        · rintro ⟨c', h1, r, h2, h3⟩
          rw [hcs] at h1; cases h1
          exact ⟨r, h2, h3⟩
        · rintro ⟨r, h2, h3⟩; exact ⟨_, hcs, r, h2, h3⟩
      have hcount : (cols.set c 1).count 0 + 1 = cols.count 0 := by
        rw [List.count_set hcl]
        have : 0 < cols.count 0 := List.count_pos_iff.2 (by rw [← e0]; exact List.getElem_mem hcl)
        simp [e0]; omega
      have set1 : ∀ i : Nat, (cols.set c 1)[i]? = if i = c then some 1 else cols[i]? := fun i => by
        by_cases e : i = c
        · subst e; simp [hcl]
        · rw [List.getElem?_set_ne (by omega), if_neg e]
      refine count_loop ys.length (fun s => s.2.2) (fun k s => s.2.2 = (k : Int) ∧ k ≤ ys.length ∧ Co s.1 ∧ (∀ i : Nat, cols[i]? = some 2 → s.1[i]? = some 2) ∧ (∀ i : Nat, s.1[i]? = some 1 ↔ (cols.set c 1)[i]? = some 1) ∧ s.1.count 0 ≤ (cols.set c 1).count 0 ∧
        (s.2.1 = true → (∀ i : Nat, cols[i]? = some 2 → Sf cs i) → (∀ i : Nat, s.1[i]? = some 2 → Sf cs i) ∧ ∀ j : Nat, (j : Int) ∈ ys.take k → j < cs.length → s.1[j]? = some 2) ∧
        (s.2.1 = false → (∀ g : Nat, cols[g]? = some 1 → Wy cs g c) → ∃ i, i < cs.length ∧ ¬ Sf cs i)) (fun k s h => h.1) (fun k s h => h.2.1) ?_
        ⟨rfl, Nat.zero_le _, co_set hco (by simp), fun i hi => ?_, fun i => Iff.rfl, Nat.le_refl _, fun _ hb => ⟨fun i hi => ?_, by simp⟩, fun e => by cases e⟩
      · rintro k ⟨X, ok, _⟩ next ⟨rfl, hk, xco, xb, xg, xw, xgood, xbad⟩ hnx
        simp only at xco xb xg xw xgood xbad
        refine ifW_of (fun hlt => ?_) (fun hlt => ?_)
        · have hlt : k < ys.length := by simpa using hlt
          obtain ⟨r, hr, hr3, hrc⟩ := (hys ys[k]).1 (List.getElem_mem hlt)
          have hrv := hch.2 r hr
          have hcc := hrv.2.2.2.1 hr3
          obtain ⟨j, hj⟩ := Int.eq_ofNat_of_zero_le hcc.1
          have ej : ys[k] = (j : Int) := by omega
          have hcj : Ca cs c j := ⟨_, hcs, r, hr, hr3, hj⟩
          unfold jnW
          refine idxW_of k rfl hlt ?_
          rw [ej]
          refine S_visitR ht n j X _ xco (by omega) (fun ok' X' v => ?_)
          have fin : ∀ o : Bool, (o = true → ok = true ∧ ok' = true) → (o = false → ok = false ∨ ok' = false) → addW (k : Int) 1 (fun t93 => next (X', o, t93)) := by
            intro o ho1 ho2
            refine addW_of (by omega) (by omega) (hnx hlt _ ⟨by simp, by omega, v.co, fun i hi => v.black i (xb i hi), fun i => (v.grey i).trans (xg i), Nat.le_trans v.white xw, fun e hb => ?_, fun e hg => ?_⟩)
            · obtain ⟨g1, g2⟩ := ho1 e
              obtain ⟨q1, q2⟩ := xgood g1 hb
              obtain ⟨q3, q4⟩ := v.good g2 q1
              refine ⟨q3, fun i hi hil => ?_⟩
              rw [List.take_succ_eq_append_getElem hlt, List.mem_append, List.mem_singleton] at hi
              rcases hi with hi | hi
              · exact v.black i (q2 i hi hil)
              · have : i = j := by omega
                subst this; exact q4 hil
            · rcases ho2 e with e1 | e1
              · exact xbad e1 hg
              · refine v.bad e1 (fun g hgx => ?_)
                rw [xg, set1] at hgx
                by_cases e2 : g = c
                · subst e2; exact .one hcj
                · rw [if_neg e2] at hgx; exact .more (hg g hgx) hcj
          refine ifW_of (fun e => fin false (fun e => by cases e) (fun _ => .inr (by simpa using e))) (fun e => fin ok (fun e1 => ⟨e1, by simpa using e⟩) (fun e1 => .inl e1))
        · have hge : ys.length ≤ k := by simpa using hlt
          rw [List.take_of_length_le hge] at xgood
          have hxl : c < X.length := by rw [xco.1]; omega
          have set2 : ∀ i : Nat, (X.set c 2)[i]? = if i = c then some 2 else X[i]? := fun i => by
            by_cases e : i = c
            · subst e; simp [hxl]
            · rw [List.getElem?_set_ne (by omega), if_neg e]
          have xc1 : X[c]? = some 1 := by rw [xg, set1, if_pos rfl]
          refine idxW_of c rfl hxl ?_
          rw [Int.toNat_natCast]
          refine h _ _ ⟨co_set xco (by simp), fun i hi => ?_, fun i => ?_, ?_, fun e hb => ?_, fun e hg => xbad e hg⟩
          · rw [set2]; split
            · rfl
            · exact xb i hi
          · rw [set2]
            by_cases e : i = c
            · subst e; rw [if_pos rfl, e0']; simp
            · rw [if_neg e, xg, set1, if_neg e]
          · rw [List.count_set hxl]
            have : X[c] = 1 := by rw [List.getElem?_eq_getElem hxl] at xc1; exact Option.some.inj xc1
            simp [this]; omega
          · obtain ⟨q1, q2⟩ := xgood e hb
            have sc : Sf cs c := sf_of (fun j hj => by
              by_cases hjl : j < cs.length
              · exact q1 j (q2 j ((hca j).1 hj) hjl)
              · exact sf_out (by omega))
            refine ⟨fun i hi => ?_, fun _ => by rw [set2, if_pos rfl]⟩
            rw [set2] at hi
            by_cases e : i = c
            · subst e; exact sc
            · rw [if_neg e] at hi; exact q1 i hi
      · show (cols.set c 1)[i]? = some 2
        rw [set1]
        by_cases e : i = c
        · subst e; rw [e0'] at hi; simp at hi
        · rw [if_neg e]; exact hi
      · change (cols.set c 1)[i]? = some 2 at hi
        rw [set1] at hi
        by_cases e : i = c
        · subst e; simp at hi
        · rw [if_neg e] at hi; exact hb i hi
theorem S_acyclic {cs : List (List GRule)} {κ : Bool → Prop} (ht : Tw cs) (h1 : (∀ i, i < cs.length → Sf cs i) → κ true) (h2 : (¬ ∀ i, i < cs.length → Sf cs i) → κ false) : L_impl_acyclic cs κ := by
  unfold L_impl_acyclic
  have hn5 := ht.1
  refine count_loop cs.length (fun s => s.2) (fun k s => s.2 = (k : Int) ∧ k ≤ cs.length ∧ Co s.1 ∧ (∀ i : Nat, s.1[i]? ≠ some 1) ∧ (∀ i : Nat, s.1[i]? = some 2 → Sf cs i) ∧ (∀ i : Nat, i < k → s.1[i]? = some 2)) (fun k s h => h.1) (fun k s h => h.2.1) ?_ ⟨rfl, Nat.zero_le _, ⟨rfl, by simp⟩, fun i => ?_, fun i hi => ?_, fun i hi => by omega⟩
  · rintro k ⟨X, _⟩ next ⟨rfl, hk, xco, xg, xs, xk⟩ hn
    simp only at xco xg xs xk
    refine ifW_of (fun hc => ?_) (fun hc => ?_)
    · have hlt : k < cs.length := by simpa using hc
      refine ⟨6, S_visitR ht 6 k X _ xco (by have := count_le5 xco.1; omega) (fun ok X' v => ?_)⟩
      refine ifW_of (fun e => h2 (fun hall => ?_)) (fun e => addW_of (by omega) (by omega) (hn hlt _ ⟨by simp, by omega, v.co, fun i hi => xg i ((v.grey i).1 hi), (v.good (by simpa using e) xs).1, fun i hi => ?_⟩))
      · obtain ⟨i, hi, hns⟩ := v.bad (by simpa using e) (fun g hg => absurd hg (xg g))
        exact hns (hall i hi)
      · by_cases e2 : i = k
        · subst e2; exact (v.good (by simpa using e) xs).2 hlt
        · exact v.black i (xk i (by omega))
    · have hge : cs.length ≤ k := by simpa using hc
      exact h1 (fun i hi => xs i (xk i (by omega)))
  · have : i = 0 ∨ i = 1 ∨ i = 2 ∨ i = 3 ∨ i = 4 ∨ 5 ≤ i := by omega
    rcases this with rfl | rfl | rfl | rfl | rfl | h <;> simp
    rw [List.getElem?_eq_none (by simpa using h)]; simp
  · have : i = 0 ∨ i = 1 ∨ i = 2 ∨ i = 3 ∨ i = 4 ∨ 5 ≤ i := by omega
    rcases this with rfl | rfl | rfl | rfl | rfl | h
    · simp at hi
    · simp at hi
    · simp at hi
    · simp at hi
    · simp at hi
    · rw [List.getElem?_eq_none (by simpa using h)] at hi; cases hi


end
section


/-- all that i calls is done -/
def Rdy (cs : List (List GRule)) (D : List Bool) (i : Nat) : Prop := ∀ j, Ca cs i j → D[j]? = some true
theorem ca_lt {cs : List (List GRule)} (ht : Tg cs) {i j : Nat} (h : Ca cs i j) : i < cs.length ∧ j < cs.length := by
  obtain ⟨c, h1, r, h2, h3, h4⟩ := h
  have hm := List.mem_of_getElem? h1
  have := (ht.2 c hm).2 r h2
  exact ⟨(List.getElem?_eq_some_iff.1 h1).1, by have := this.2; omega⟩
theorem stuck_sf {cs : List (List GRule)} (ht : Tg cs) {D : List Bool} (hst : ∀ i, i < cs.length → Rdy cs D i → D[i]? = some true) {i : Nat} (hs : Sf cs i) : i < cs.length → D[i]? = some true := by
  induction hs with
  | intro x _ ih => exact fun hx => hst x hx (fun j hj => ih j hj (ca_lt ht hj).2)
theorem count_all {D : List Bool} (h : ∀ i, i < D.length → D[i]? = some true) : D.count true = D.length := by
  rw [List.count_eq_length]
  intro b hb
  obtain ⟨i, hi⟩ := List.getElem?_of_mem hb
  have := h i (List.getElem?_eq_some_iff.1 hi).1
  rw [hi] at this; exact (Option.some.inj this).symm
theorem all_count {D : List Bool} (h : D.count true = D.length) {i : Nat} (hi : i < D.length) : D[i]? = some true := by
  rw [List.getElem?_eq_getElem hi]
  exact congrArg some (List.count_eq_length.1 h _ (List.getElem_mem hi)).symm

theorem S_l8Order {s : GRuleset} {κ : List Int → Prop} (ht : Tg s.xChains) (h1 : (∀ i, i < s.xChains.length → Sf s.xChains i) → ∀ ys : List Int, ys.length = s.xChains.length → κ ys) (h2 : (¬ ∀ i, i < s.xChains.length → Sf s.xChains i) → ∀ ys : List Int, ys.length ≠ s.xChains.length → κ ys) : L_spec_l8Order s κ := by
  have hn5 := ht.1
  generalize hcs : s.xChains = cs at *
  unfold L_spec_l8Order
  rw [hcs]
  refine makeW_of cs.length rfl (by omega) (by omega) ?_
  refine count_loop cs.length (fun s => s.2.2) (fun k s => s.2.2 = (k : Int) ∧ k ≤ cs.length ∧ s.1.length = cs.length ∧ s.2.1.length = s.1.count true ∧ (∀ i : Nat, s.1[i]? = some true → Sf cs i) ∧ (k ≤ s.1.count true ∨ ∀ i, i < cs.length → Rdy cs s.1 i → s.1[i]? = some true)) (fun k s h => h.1) (fun k s h => h.2.1) ?_
    ⟨rfl, Nat.zero_le _, by simp, by simp [List.count_replicate], fun i hi => ?_, .inl (Nat.zero_le _)⟩
  · rintro k ⟨D0, ys0, _⟩ next ⟨rfl, hk, hD0, hy0, hs0, hst0⟩ hnx
    simp only at hD0 hy0 hs0 hst0
    refine ifW_of (fun hc => ?_) (fun hc => ?_)
    · have hltk : k < cs.length := by simpa using hc
      refine count_loop cs.length (fun s => s.2.2) (fun m s => s.2.2 = (m : Int) ∧ m ≤ cs.length ∧ s.1.length = cs.length ∧ s.2.1.length = s.1.count true ∧ (∀ i : Nat, s.1[i]? = some true → Sf cs i) ∧ (∀ i : Nat, D0[i]? = some true → s.1[i]? = some true) ∧ (s.1 = D0 ∨ D0.count true < s.1.count true) ∧ (∀ i, i < m → Rdy cs D0 i → s.1[i]? = some true)) (fun k s h => h.1) (fun k s h => h.2.1) ?_
        ⟨rfl, Nat.zero_le _, hD0, hy0, hs0, fun i hi => hi, .inl rfl, fun i hi => by omega⟩
      rintro m ⟨D, ys, _⟩ next2 ⟨rfl, hm, hD, hy, hs, hmono, hcnt, hrd⟩ hn2
      simp only at hD hy hs hmono hcnt hrd
      have hDc : D.count true ≤ 5 := by have := List.count_le_length (a := true) (l := D); omega
      refine ifW_of (fun hc2 => ?_) (fun hc2 => ?_)
      · have hlt : m < cs.length := by simpa using hc2
        have hmD : m < D.length := by omega
        have hch := ht.2 _ (List.getElem_mem hlt)
        have hcm : cs[m]? = some cs[m] := List.getElem?_eq_getElem hlt
        unfold jnW
        refine idxW_of m rfl hmD ?_
        refine count_loop cs[m].length (fun s => s.2) (fun j s => s.2 = (j : Int) ∧ j ≤ cs[m].length ∧ (s.1 = true ↔ (D[m] = false ∧ ∀ r, r ∈ cs[m].take j → r.xAction = 3 → D[r.xChain.toNat]? = some true))) (fun k s h => h.1) (fun k s h => h.2.1) ?_ ⟨rfl, Nat.zero_le _, by simp⟩
        rintro j ⟨fl, _⟩ next3 ⟨rfl, hj, hfl⟩ hn3
        simp only at hfl
        refine idxW_of m rfl hlt (ifW_of (fun hc3 => ?_) (fun hc3 => ?_))
        · have hltj : j < cs[m].length := by simpa using hc3
          have htk : ∀ r, r ∈ cs[m].take (j + 1) ↔ r ∈ cs[m].take j ∨ r = cs[m][j] := fun r => by
            rw [List.take_succ_eq_append_getElem hltj, List.mem_append, List.mem_singleton]
          have hrv := hch.2 _ (List.getElem_mem hltj)
          refine idxW_of m rfl hlt (idxW_of j rfl hltj (ifW_of (fun hf => ?_) (fun hf => ?_)))
          · obtain ⟨f1, f2⟩ := hfl.1 hf
            refine ifW_of (fun h3 => ?_) (fun h3 => ?_)
            · refine addW_of (by omega) (by omega) (hn3 hltj _ ⟨by simp, by omega, ⟨fun _ => ⟨f1, fun r hr hr3 => ?_⟩, fun _ => rfl⟩⟩)
              rcases (htk r).1 hr with hr | rfl
              · exact f2 r hr hr3
              · simp at h3; exact absurd hr3 h3
            · have h3' : cs[m][j].xAction = 3 := by simpa using h3
              have hcc := hrv.1.2.2.2.1 h3'
              have hc5 := hrv.2
              obtain ⟨q, hq⟩ := Int.eq_ofNat_of_zero_le hcc.1
              have hqD : q < D.length := by omega
              refine idxW_of q hq hqD (addW_of (by omega) (by omega) (hn3 hltj _ ⟨by simp, by omega, ⟨fun e => ⟨f1, fun r hr hr3 => ?_⟩, fun hh => ?_⟩⟩))
              · rcases (htk r).1 hr with hr | rfl
                · exact f2 r hr hr3
                · rw [hq, Int.toNat_natCast, List.getElem?_eq_getElem hqD]; exact congrArg some e
              · have := hh.2 _ ((htk _).2 (.inr rfl)) h3'
                rw [hq, Int.toNat_natCast, List.getElem?_eq_getElem hqD] at this
                exact Option.some.inj this
          · refine addW_of (by omega) (by omega) (hn3 hltj _ ⟨by simp, by omega, ⟨fun e => (by cases e), fun hh => ?_⟩⟩)
            have : fl = true := hfl.2 ⟨hh.1, fun r hr hr3 => hh.2 r ((htk r).2 (.inl hr)) hr3⟩
            rw [this] at hf; cases hf
        · have hge : cs[m].length ≤ j := by simpa using hc3
          rw [List.take_of_length_le hge] at hfl
          have rdy_of : ∀ D' : List Bool, Rdy cs D' m → ∀ r, r ∈ cs[m] → r.xAction = 3 → D'[r.xChain.toNat]? = some true := by
            intro D' hh r hr hr3
            have hcc := (hch.2 r hr).1.2.2.2.1 hr3
            exact hh _ ⟨_, hcm, r, hr, hr3, by omega⟩
          refine ifW_of (fun hf => ?_) (fun hf => ?_)
          · obtain ⟨f1, f2⟩ := hfl.1 hf
            have hr : Rdy cs D m := by
              rintro q ⟨c', e1, r, e2, e3, e4⟩
              rw [hcm] at e1; cases e1
              have := f2 r e2 e3
              rw [e4] at this; simpa using this
            have set1 : ∀ i : Nat, (D.set m true)[i]? = if i = m then some true else D[i]? := fun i => by
              by_cases e : i = m
              · subst e; simp [hmD]
              · rw [List.getElem?_set_ne (by omega), if_neg e]
            have hcs' : (D.set m true).count true = D.count true + 1 := by
              rw [List.count_set hmD]; simp [f1]
            refine idxW_of m rfl hmD (appW_of (by simp; omega) (addW_of (by omega) (by omega) (hn2 hlt _ ⟨by simp, by omega, by simpa using hD, ?_, fun i hi => ?_, fun i hi => ?_, .inr ?_, fun i hi hri => ?_⟩)))
            · simp only [Int.toNat_natCast, hcs']; simp; omega
            · simp only [Int.toNat_natCast, set1] at hi
              by_cases e : i = m
              · subst e; exact sf_of (fun j hj => hs j (hr j hj))
              · rw [if_neg e] at hi; exact hs i hi
            · simp only [Int.toNat_natCast, set1]; split
              · rfl
              · exact hmono i hi
            · simp only [Int.toNat_natCast, hcs']
              rcases hcnt with rfl | h
              · omega
              · omega
            · simp only [Int.toNat_natCast, set1]; split
              · rfl
              · exact hrd i (by omega) hri
          · refine addW_of (by omega) (by omega) (hn2 hlt _ ⟨by simp, by omega, hD, hy, hs, hmono, hcnt, fun i hi hri => ?_⟩)
            by_cases e : i = m
            · subst e
              rw [List.getElem?_eq_getElem hmD]
              by_cases hDm : D[i] = false
              · have : fl = true := hfl.2 ⟨hDm, fun r hr hr3 => hmono _ (rdy_of D0 hri r hr hr3)⟩
                rw [this] at hf; cases hf
              · simpa using hDm
            · exact hrd i (by omega) hri
      · have hme : m = cs.length := by simp at hc2; omega
        subst hme
        refine addW_of (by omega) (by omega) (hnx hltk _ ⟨by simp, by omega, hD, hy, hs, ?_⟩)
        rcases hcnt with rfl | hlt2
        · exact .inr (fun i hi hri => hrd i hi hri)
        · rcases hst0 with h0 | h0
          · exact .inl (by simp only; omega)
          · refine .inr (fun i hi hri => ?_)
            -- nothing can be marked in a pass over a state in which all that is ready is done
            exfalso
            have hall : ∀ i : Nat, D[i]? = some true → D0[i]? = some true := fun i hi => stuck_sf ht h0 (hs i hi) (by have := (List.getElem?_eq_some_iff.1 hi).1; omega)
            have heq : D = D0 := by
              apply List.ext_getElem?
              intro i
              by_cases hi : i < D.length
              · rw [List.getElem?_eq_getElem hi, List.getElem?_eq_getElem (show i < D0.length by omega)]
                cases hb : D[i] with
                | true =>
                  have := hall i (by rw [List.getElem?_eq_getElem hi, hb])
                  rw [List.getElem?_eq_getElem (show i < D0.length by omega)] at this
                  exact this.symm
                | false =>
                  cases hb0 : D0[i]'(by omega) with
                  | false => rfl
                  | true =>
                    have := hmono i (by rw [List.getElem?_eq_getElem (show i < D0.length by omega), hb0])
                    rw [List.getElem?_eq_getElem hi, hb] at this
                    exact this
              · rw [List.getElem?_eq_none (by omega), List.getElem?_eq_none (by omega)]
            rw [heq] at hlt2; omega
    · have hge : k = cs.length := by simp at hc; omega
      subst hge
      have hle := List.count_le_length (a := true) (l := D0)
      by_cases hcn : D0.count true = cs.length
      · exact h1 (fun i hi => hs0 i (all_count (by omega) (by omega))) ys0 (by omega)
      · refine h2 (fun hall => ?_) ys0 (by omega)
        rcases hst0 with h0 | h0
        · omega
        · exact hcn ((count_all (fun i hi => stuck_sf ht h0 (hall i (by omega)) (by omega))).trans hD0)
  · exfalso
    simp only [List.getElem?_replicate] at hi
    split at hi <;> simp at hi


end
section
open Go.Lib (decDigits)

def RsV (c : List GRule) : Prop := c.length ≤ 8 ∧ ∀ r, r ∈ c → RV r
def SV (s : GRuleset) : Prop := Tg s.xChains ∧ 1 ≤ s.xChains.length ∧ ∀ i, i < s.xChains.length → Sf s.xChains i
/-- lengths in range -/
def Bc (c : List GRule) : Prop := c.length ≤ 4294967296 ∧ ∀ r, r ∈ c → r.xTests.length ≤ 4294967296
def Bd (s : GRuleset) : Prop := s.xChains.length ≤ 4294967296 ∧ ∀ c, c ∈ s.xChains → Bc c
theorem mem_snoc {α : Type} {l : List α} {k : Nat} (h : k < l.length) (x : α) : x ∈ l.take (k + 1) ↔ x ∈ l.take k ∨ x = l[k] := by
  rw [List.take_succ_eq_append_getElem h, List.mem_append, List.mem_singleton]

theorem S_impl_RulesValid {c : List GRule} {κ : Bool → Prop} (hb : Bc c) (h : ∀ b, (b = true ↔ RsV c) → κ b) : L_impl_RulesValid c κ := by
  have hl := hb.1
  unfold L_impl_RulesValid
  refine ifW_of (fun hc => h _ ⟨fun e => (by cases e), fun hh => by have := hh.1; simp at hc; omega⟩) (fun hc0 => ?_)
  simp at hc0
  refine count_loop c.length (fun s => s) (fun k s => s = (k : Int) ∧ k ≤ c.length ∧ ∀ r, r ∈ c.take k → RV r) (fun k s h => h.1) (fun k s h => h.2.1) ?_ ⟨rfl, Nat.zero_le _, by simp⟩
  rintro k _ next ⟨rfl, hk, he⟩ hn
  refine ifW_of (fun hc => ?_) (fun hc => ?_)
  · have hlt : k < c.length := by simpa using hc
    refine idxW_of k rfl hlt (S_impl_RuleValid (hb.2 _ (List.getElem_mem hlt)) (ifW_of (fun hc2 => ?_) (fun hc2 => ?_)))
    · simp at hc2
      exact h _ ⟨fun e => (by cases e), fun hh => absurd (hh.2 _ (List.getElem_mem hlt)) hc2⟩
    · simp at hc2
      refine addW_of (by omega) (by omega) (hn hlt _ ⟨by omega, by omega, fun r hr => ?_⟩)
      rcases (mem_snoc hlt r).1 hr with hr | rfl
      · exact he r hr
      · exact hc2
  · have hge : c.length ≤ k := by simpa using hc
    rw [List.take_of_length_le hge] at he
    exact h _ ⟨fun _ => ⟨by omega, he⟩, fun _ => rfl⟩
theorem S_spec_RulesValid {c : List GRule} {κ : Bool → Prop} (hb : Bc c) (h : ∀ b, (b = true ↔ RsV c) → κ b) : L_spec_RulesValid c κ := by
  have hl := hb.1
  unfold L_spec_RulesValid
  refine count_loop c.length (fun s => s) (fun k s => s = (k : Int) ∧ k ≤ c.length ∧ ∀ r, r ∈ c.take k → RV r) (fun k s h => h.1) (fun k s h => h.2.1) ?_ ⟨rfl, Nat.zero_le _, by simp⟩
  rintro k _ next ⟨rfl, hk, he⟩ hn
  refine ifW_of (fun hc => ?_) (fun hc => ?_)
  · have hlt : k < c.length := by simpa using hc
    refine idxW_of k rfl hlt (S_spec_RuleValid (hb.2 _ (List.getElem_mem hlt)) (ifW_of (fun hc2 => ?_) (fun hc2 => ?_)))
    · simp at hc2
      exact h _ ⟨fun e => (by cases e), fun hh => absurd (hh.2 _ (List.getElem_mem hlt)) hc2⟩
    · simp at hc2
      refine addW_of (by omega) (by omega) (hn hlt _ ⟨by omega, by omega, fun r hr => ?_⟩)
      rcases (mem_snoc hlt r).1 hr with hr | rfl
      · exact he r hr
      · exact hc2
  · have hge : c.length ≤ k := by simpa using hc
    rw [List.take_of_length_le hge] at he
    exact h _ ⟨fun e => ⟨by simp at e; omega, he⟩, fun hh => by have := hh.1; simp; omega⟩

theorem S_spec_RulesetValid {s : GRuleset} {κ : Bool → Prop} (hb : Bd s) (h : ∀ b, (b = true ↔ SV s) → κ b) : L_spec_RulesetValid s κ := by
  have hn := hb.1
  have no : ¬ SV s → κ false := fun hns => h _ ⟨fun e => (by cases e), fun hh => absurd hh hns⟩
  unfold L_spec_RulesetValid
  refine count_loop s.xChains.length (fun s => s) (fun k t => t = (k : Int) ∧ k ≤ s.xChains.length ∧ ∀ c, c ∈ s.xChains.take k → RsV c ∧ ∀ r, r ∈ c → r.xChain < s.xChains.length) (fun k s h => h.1) (fun k s h => h.2.1) ?_ ⟨rfl, Nat.zero_le _, by simp⟩
  rintro k _ next ⟨rfl, hk, he⟩ hnx
  refine ifW_of (fun hc => ?_) (fun hc => ?_)
  · have hlt : k < s.xChains.length := by simpa using hc
    have hmem := List.getElem_mem hlt
    have hbc := hb.2 _ hmem
    have hbl := hbc.1
    refine idxW_of k rfl hlt (S_spec_RulesValid hbc (fun b hbv => ifW_of (fun hf => no (fun hh => ?_)) (fun hf => ?_)))
    · have : b = true := hbv.2 ⟨(hh.1.2 _ hmem).1, fun r hr => ((hh.1.2 _ hmem).2 r hr).1⟩
      rw [this] at hf; cases hf
    · have hv : RsV s.xChains[k] := hbv.1 (by simpa using hf)
      refine count_loop s.xChains[k].length (fun s => s) (fun j t => t = (j : Int) ∧ j ≤ s.xChains[k].length ∧ ∀ r, r ∈ s.xChains[k].take j → r.xChain < s.xChains.length) (fun k s h => h.1) (fun k s h => h.2.1) ?_ ⟨rfl, Nat.zero_le _, by simp⟩
      rintro j _ next2 ⟨rfl, hj, he2⟩ hn2
      refine idxW_of k rfl hlt (ifW_of (fun hc3 => ?_) (fun hc3 => ?_))
      · have hltj : j < s.xChains[k].length := by simpa using hc3
        refine idxW_of k rfl hlt (idxW_of j rfl hltj (ifW_of (fun h3 => no (fun hh => ?_)) (fun h3 => ?_)))
        · have := ((hh.1.2 _ hmem).2 _ (List.getElem_mem hltj)).2
          simp at h3; omega
        · simp at h3
          refine addW_of (by omega) (by omega) (hn2 hltj _ ⟨by omega, by omega, fun r hr => ?_⟩)
          rcases (mem_snoc hltj r).1 hr with hr | rfl
          · exact he2 r hr
          · omega
      · have hge : s.xChains[k].length ≤ j := by simpa using hc3
        rw [List.take_of_length_le hge] at he2
        refine addW_of (by omega) (by omega) (hnx hlt _ ⟨by omega, by omega, fun c hc => ?_⟩)
        rcases (mem_snoc hlt c).1 hc with hc | rfl
        · exact he c hc
        · exact ⟨hv, he2⟩
  · have hge : s.xChains.length ≤ k := by simpa using hc
    rw [List.take_of_length_le hge] at he
    unfold jnW
    refine S_l1In (ifW_of (fun h5 => ?_) (fun h5 => no (fun hh => ?_)))
    · simp at h5
      have ht : Tg s.xChains := ⟨by omega, fun c hc => ⟨(he c hc).1.1, fun r hr => ⟨(he c hc).1.2 r hr, (he c hc).2 r hr⟩⟩⟩
      refine S_l8Order ht (fun hall ys hy => h _ ⟨fun _ => ⟨ht, by omega, hall⟩, fun _ => by simp; omega⟩) (fun hall ys hy => h _ ⟨fun e => absurd (by simp at e; omega) hy, fun hh => absurd hh.2.2 hall⟩)
    · have := hh.1.1; have := hh.2.1
      simp at h5; omega
theorem S_impl_RulesetValid {s : GRuleset} {κ : Bool → Prop} (hb : Bd s) (h : ∀ b, (b = true ↔ SV s) → κ b) : L_impl_RulesetValid s κ := by
  have no : ¬ SV s → κ false := fun hns => h _ ⟨fun e => (by cases e), fun hh => absurd hh hns⟩
  unfold L_impl_RulesetValid jnW
  simp only [ifW_true]
  refine ifW_of (fun hc => no (fun hh => by have := hh.2.1; simp at hc; omega)) (fun h1 => ifW_of (fun hc => no (fun hh => by have := hh.1.1; simp at hc; omega)) (fun h5 => ?_))
  simp at h1 h5
  refine count_loop s.xChains.length (fun s => s) (fun k t => t = (k : Int) ∧ k ≤ s.xChains.length ∧ ∀ c, c ∈ s.xChains.take k → RsV c) (fun k s h => h.1) (fun k s h => h.2.1) ?_ ⟨rfl, Nat.zero_le _, by simp⟩
  rintro k _ next ⟨rfl, hk, he⟩ hnx
  refine ifW_of (fun hc => ?_) (fun hc => ?_)
  · have hlt : k < s.xChains.length := by simpa using hc
    have hmem := List.getElem_mem hlt
    refine idxW_of k rfl hlt (S_impl_RulesValid (hb.2 _ hmem) (fun b hbv => ifW_of (fun hf => no (fun hh => ?_)) (fun hf => ?_)))
    · have : b = true := hbv.2 ⟨(hh.1.2 _ hmem).1, fun r hr => ((hh.1.2 _ hmem).2 r hr).1⟩
      rw [this] at hf; cases hf
    · refine addW_of (by omega) (by omega) (hnx hlt _ ⟨by omega, by omega, fun c hc => ?_⟩)
      rcases (mem_snoc hlt c).1 hc with hc | rfl
      · exact he c hc
      · exact hbv.1 (by simpa using hf)
  · have hge : s.xChains.length ≤ k := by simpa using hc
    rw [List.take_of_length_le hge] at he
    refine count_loop s.xChains.length (fun s => s) (fun k t => t = (k : Int) ∧ k ≤ s.xChains.length ∧ ∀ c, c ∈ s.xChains.take k → ∀ r, r ∈ c → r.xChain < s.xChains.length) (fun k s h => h.1) (fun k s h => h.2.1) ?_ ⟨rfl, Nat.zero_le _, by simp⟩
    rintro m _ next2 ⟨rfl, hm, he2⟩ hn2
    refine ifW_of (fun hc2 => ?_) (fun hc2 => ?_)
    · have hlt : m < s.xChains.length := by simpa using hc2
      have hmem := List.getElem_mem hlt
      have hv := he _ hmem
      refine idxW_of m rfl hlt (S_callsIn hv.1 hv.2 (fun ys hyl hys => ?_))
      refine count_loop ys.length (fun s => s) (fun j t => t = (j : Int) ∧ j ≤ ys.length ∧ ∀ x, x ∈ ys.take j → x < s.xChains.length) (fun k s h => h.1) (fun k s h => h.2.1) ?_ ⟨rfl, Nat.zero_le _, by simp⟩
      rintro j _ next3 ⟨rfl, hj, he3⟩ hn3
      refine ifW_of (fun hc3 => ?_) (fun hc3 => ?_)
      · have hltj : j < ys.length := by simpa using hc3
        refine idxW_of j rfl hltj (ifW_of (fun hx => no (fun hh => ?_)) (fun hx => ?_))
        · obtain ⟨r, hr, _, hrc⟩ := (hys _).1 (List.getElem_mem hltj)
          have := ((hh.1.2 _ hmem).2 r hr).2
          simp at hx; omega
        · simp at hx
          refine addW_of (by omega) (by omega) (hn3 hltj _ ⟨by omega, by omega, fun x hxx => ?_⟩)
          rcases (mem_snoc hltj x).1 hxx with hxx | rfl
          · exact he3 x hxx
          · omega
      · have hgej : ys.length ≤ j := by simpa using hc3
        rw [List.take_of_length_le hgej] at he3
        refine addW_of (by omega) (by omega) (hn2 hlt _ ⟨by omega, by omega, fun c hc => ?_⟩)
        rcases (mem_snoc hlt c).1 hc with hc | rfl
        · exact he2 c hc
        · intro r hr
          by_cases h3 : r.xAction = 3
          · exact he3 _ ((hys _).2 ⟨r, hr, h3, rfl⟩)
          · have := (hv.2 r hr).2.2.2.2 h3
            omega
    · have hgem : s.xChains.length ≤ m := by simpa using hc2
      rw [List.take_of_length_le hgem] at he2
      have ht : Tg s.xChains := ⟨by omega, fun c hc => ⟨(he c hc).1, fun r hr => ⟨(he c hc).2 r hr, he2 c hc r hr⟩⟩⟩
      exact S_acyclic ht.w (fun hall => h _ ⟨fun _ => ⟨ht, by omega, hall⟩, fun _ => rfl⟩) (fun hall => h _ ⟨fun e => (by cases e), fun hh => absurd hh.2.2 hall⟩)

/-! texts -/
end
section
open Go.Lib (decDigits)

/-! draws -/
/-- a chain as it is drawn -/
def Dc (c : List GRule) : Prop := c.length ≤ 100 ∧ ∀ r, r ∈ c → r.xTests.length ≤ 8
theorem dc_app {c : List GRule} {r : GRule} {n : Nat} (h : Dc c) (hn : c.length ≤ n) (hn' : n < 100) (hr : r.xTests.length ≤ 8) : Dc (c ++ [r]) := ⟨by simp; omega, fun x hx => by
  rcases List.mem_append.1 hx with hx | hx
  · exact h.2 x hx
  · rw [List.mem_singleton] at hx; subst hx; exact hr⟩
theorem S_l20Rules {b : List UInt8} {p n first chains : Int} (hb : b.length ≤ 2000) (h0 : 0 ≤ p) (hp : p ≤ 500000) (hn : n ≤ 4294967296) (hf0 : 0 ≤ first) (hf1 : first ≤ 100) (hc0 : 0 ≤ chains) (hc1 : chains ≤ 100) {κ : List GRule × Int → Prop} (h : ∀ c p', p ≤ p' → p' ≤ p + 5000 → Dc c → c.length ≤ 9 → κ (c, p')) : L_spec_l20Rules b p first chains n κ := by
  have rd : ∀ p', p ≤ p' → p' ≤ p + 5000 → RdP b p' := fun p' a c => ⟨hb, by omega, by omega⟩
  unfold L_spec_l20Rules
  refine S_pick (rd p (by omega) (by omega)) (fun v a c => ?_)
  refine loopW_inv (fun s => 0 ≤ s.2.2 ∧ s.2.2 ≤ 4 ∧ p ≤ s.1 ∧ s.1 ≤ p + 1 + 700 * (4 - s.2.2) ∧ s.2.1.length + s.2.2.toNat ≤ 4 ∧ Dc s.2.1) (fun s => s.2.2.toNat) ?_ ⟨a, by simp only; omega, by simp only; omega, by simp only; omega, by simp only [List.length_nil]; omega, by simp [Dc]⟩
  rintro ⟨q, xs, k⟩ next ⟨k0, k1, q0, q1, hx, hdc⟩ hnx
  simp only at k0 k1 q0 q1 hx hdc
  refine ifW_of (fun hc => ?_) (fun hc => ?_)
  · simp at hc
    refine S_l20Rule hb (by omega) (by omega) (by omega) hf0 hf1 hc0 hc1 (fun r p' g1 g2 hr => appW_of (by simp; omega) (subW_of (by omega) (by omega) (hnx _ ⟨by simp only; omega, by simp only; omega, by simp only; omega, by simp only; omega, by simp; omega, dc_app (n := 4) hdc (by omega) (by omega) hr⟩ (by simp only; omega))))
  · simp at hc
    unfold jnW
    refine S_odd (rd _ (by omega) (by omega)) hn (fun o p1 f1 f2 => ifW_of (fun _ => ?_) (fun _ => h _ _ (by omega) (by omega) hdc (by omega)))
    refine S_pick (rd _ (by omega) (by omega)) (fun v2 a2 c2 => ifW_of (fun _ => ?_) (fun _ => ?_))
    · exact S_l20Rule hb (by omega) (by omega) (by omega) hf0 hf1 hc0 hc1 (fun r p' g1 g2 hr => appW_of (by simp; omega) (h _ _ (by omega) (by omega) (dc_app (n := 4) hdc (by omega) (by omega) hr) (by simp; omega)))
    · refine loopW_inv (fun s => s.length ≤ 9 ∧ Dc s) (fun s => 9 - s.length) ?_ ⟨by omega, hdc⟩
      rintro ys next2 ⟨hy, hyd⟩ hn2
      refine ifW_of (fun hc3 => ?_) (fun hc3 => h _ _ (by omega) (by omega) hyd hy)
      simp at hc3
      exact appW_of (by simp; omega) (hn2 _ ⟨by simp; omega, dc_app (n := 8) hyd (by omega) (by omega) (by simp)⟩ (by simp; omega))

theorem dc_set {xs : List (List GRule)} {i : Nat} {c : List GRule} (h : ∀ x, x ∈ xs → Dc x) (hc : Dc c) : ∀ x, x ∈ xs.set i c → Dc x := fun x hx => by
  rcases List.mem_or_eq_of_mem_set hx with hx | rfl
  · exact h x hx
  · exact hc
theorem dc_one {r : GRule} (h : r.xTests.length ≤ 8) : Dc [r] := ⟨by simp, fun x hx => by rw [List.mem_singleton] at hx; subst hx; exact h⟩
theorem S_l20RulesetP {b : List UInt8} {n : Int} (hb : b.length ≤ 2000) (hn : n ≤ 4294967296) {κ : GRuleset × Int → Prop} (h : ∀ s p', 0 ≤ p' → p' ≤ 50000 → s.xChains.length ≤ 3 → (∀ c, c ∈ s.xChains → Dc c) → κ (s, p')) : L_spec_l20Ruleset b 0 n κ := by
  have rd : ∀ p', 0 ≤ p' → p' ≤ 100000 → RdP b p' := fun p' a c => ⟨hb, by omega, by omega⟩
  unfold L_spec_l20Ruleset
  refine S_pick (rd 0 (by omega) (by omega)) (fun v0 a0 c0 => S_pick (rd _ (by omega) (by omega)) (fun v a c => addW_of (by omega) (by omega) ?_))
  refine loopW_inv (fun s => 0 ≤ s.2.2 ∧ s.2.2 ≤ 1 + v ∧ 0 ≤ s.1 ∧ s.1 ≤ 2 + 5000 * s.2.2 ∧ (s.2.1.length : Int) = s.2.2 ∧ ∀ c, c ∈ s.2.1 → Dc c ∧ c.length ≤ 9) (fun s => (1 + v - s.2.2).toNat) ?_ ⟨by simp, by simp only; omega, by simp only; omega, by simp only; omega, rfl, by simp⟩
  rintro ⟨q, xs, k⟩ next ⟨k0, k1, q0, q1, hx, hdc9⟩ hnx
  simp only at k0 k1 q0 q1 hx hdc9
  have hdc : ∀ c, c ∈ xs → Dc c := fun c hc => (hdc9 c hc).1
  unfold jnW
  refine ifW_of (fun hc => ?_) (fun hc => ?_)
  · simp at hc
    have hw : w64 (k + 1) = k + 1 := w64_small (by omega) (by omega)
    rw [hw]
    refine S_l20Rules hb (by omega) (by omega) (by omega) (by omega) (by omega) (by omega) (by omega) (fun ch p' g1 g2 hd hl => appW_of (by simp; omega) (addW_of (by omega) (by omega) (hnx _ ⟨by simp only; omega, by simp only; omega, by simp only; omega, by simp only; omega, by simp; omega, fun x hx' => ?_⟩ (by simp only; omega))))
    simp only [List.mem_append, List.mem_singleton] at hx'
    rcases hx' with hx' | rfl
    · exact hdc9 x hx'
    · exact ⟨hd, hl⟩
  · simp at hc
    have hk : k = 1 + v := by omega
    have hl0 : 0 < xs.length := by omega
    have hd0 : Dc xs[0] := hdc _ (List.getElem_mem hl0)
    have fin : ∀ (p' : Int) (ys : List (List GRule)), 0 ≤ p' → p' ≤ 50000 → ys.length ≤ 3 → (∀ c, c ∈ ys → Dc c) → κ ((GRuleset.mk ys (decide (v0 = 0))), p') := fun p' ys e0 e1 g1 g2 => h _ _ e0 e1 g1 g2
    have hx3 : xs.length ≤ 3 := by omega
    refine S_odd (rd _ (by omega) (by omega)) hn (fun o p1 f1 f2 => ifW_of (fun _ => ?_) (fun _ => fin _ _ (by omega) (by omega) hx3 hdc))
    refine S_pick (rd _ (by omega) (by omega)) (fun v2 a2 c2 => ifW_of (fun _ => fin _ _ (by omega) (by omega) (by simp) (by simp)) (fun _ => ifW_of (fun _ => ?_) (fun _ => ifW_of (fun _ => ?_) (fun _ => ?_))))
    · have ap : ∀ (e p' : Int), 0 ≤ p' → p' ≤ 50000 → appW xs[0] ([(GRule.mk ([]) 3 e)]) (fun _ => idxW xs 0 (fun e155 => κ ((GRuleset.mk (xs.set (0 : Int).toNat (xs[0] ++ ([(GRule.mk ([]) 3 e)]))) (decide (v0 = 0))), p'))) := by
        intro e p' e0 e1
        have h9 := (hdc9 _ (List.getElem_mem hl0)).2
        exact appW_of (by simp; omega) (idxW_of 0 rfl hl0 (fin _ _ e0 e1 (by rw [List.length_set]; exact hx3) (dc_set hdc ⟨by simp; omega, fun r hr => by
          rcases List.mem_append.1 hr with hr | hr
          · exact hd0.2 r hr
          · rw [List.mem_singleton] at hr; subst hr; simp⟩)))
      have pk : ∀ (v3 p' : Int), 0 ≤ p' → p' ≤ 50000 → 0 ≤ v3 → (v3 = 0 ∨ v3 < 2) → idxW ([0, 1 + v]) v3 (fun e148 => appW xs[0] ([(GRule.mk ([]) 3 e148)]) (fun _ => idxW xs 0 (fun e155 => κ ((GRuleset.mk (xs.set (0 : Int).toNat (xs[0] ++ ([(GRule.mk ([]) 3 e148)]))) (decide (v0 = 0))), p')))) := fun v3 p' e0 e1 g0 g1 => idxW_any g0 (by simp; omega) (fun e _ => ap e p' e0 e1)
      have ix : ∀ (K : List GRule → Prop), K xs[0] → idxW xs 0 K := fun K hK => idxW_of 0 rfl hl0 hK
      refine ⟨ix _ (S_pick (rd _ (by omega) (by omega)) (fun v3 a3 c3 => pk _ _ (by omega) (by omega) a3 c3)), ⟨ix _ (S_pick (rd _ (by omega) (by omega)) (fun v3 a3 c3 => pk _ _ (by omega) (by omega) a3 c3)), S_pick (rd _ (by omega) (by omega)) (fun v3 a3 c3 => ⟨ix _ (pk _ _ (by omega) (by omega) a3 c3), idxW_any a3 (by simp; omega) (fun e _ => ix _ (ap e _ (by omega) (by omega)))⟩)⟩, S_pick (rd _ (by omega) (by omega)) (fun v3 a3 c3 => ⟨ix _ (pk _ _ (by omega) (by omega) a3 c3), ix _ (pk _ _ (by omega) (by omega) a3 c3), idxW_any a3 (by simp; omega) (fun e _ => ix _ (ap e _ (by omega) (by omega)))⟩)⟩
    · have hvn : v.toNat < xs.length := by omega
      refine subW_of (by omega) (by omega) (idxW_of v.toNat (by omega) hvn (subW_of (by omega) (by omega) (idxW_of 0 rfl (by rw [List.length_set]; exact hl0) ?_)))
      exact fin _ _ (by omega) (by omega) (by rw [List.length_set, List.length_set]; exact hx3) (dc_set (dc_set hdc (dc_one (by simp))) (dc_one (by simp)))
    · refine S_l20Rules hb (by omega) (by omega) (by omega) (by omega) (by omega) (by omega) (by omega) (fun ch p' g1 g2 hd hl => idxW_of 0 rfl hl0 (fin _ _ (by omega) (by omega) (by rw [List.length_set]; exact hx3) (dc_set hdc hd)))
end
section
open Go.Lib (decDigits)

/-- lengths of an argument that is not too big -/
def Br (r : GRule) : Prop := r.xTests.length ≤ 1048576
def Bq (c : List GRule) : Prop := c.length ≤ 1048576 ∧ ∀ r, r ∈ c → Br r
def Bs (cs : List (List GRule)) : Prop := cs.length ≤ 1048576 ∧ ∀ c, c ∈ cs → Bq c
theorem Bs.bd {s : GRuleset} (h : Bs s.xChains) : Bd s := ⟨by have := h.1; omega, fun c hc => ⟨by have := (h.2 c hc).1; omega, fun r hr => by have : r.xTests.length ≤ 1048576 := (h.2 c hc).2 r hr; omega⟩⟩
theorem SV.bs {s : GRuleset} (h : SV s) : Bs s.xChains := ⟨by have := h.1.1; omega, fun c hc => ⟨by have := (h.1.2 c hc).1; omega, fun r hr => by have : r.xTests.length ≤ 6 := ((h.1.2 c hc).2 r hr).1.1.2; unfold Br; omega⟩⟩
/-! marks -/
/-! lines -/
end
section


/-! tests -/
def th (t : GTest) (p : GPacket) : Bool := decide (t.xLo ≤ fieldP p t.xField.toNat ∧ fieldP p t.xField.toNat ≤ t.xHi) != t.xNot
def ft (l : List GTest) (p : GPacket) : Bool := l.all (fun t => th t p)
theorem four4 {a : Int} (h0 : 0 ≤ a) (h1 : a ≤ 3) : a = 0 ∨ a = 1 ∨ a = 2 ∨ a = 3 := by omega
theorem bne_dec (x y : Bool) : (!(decide (x = y))) = (x != y) := by cases x <;> cases y <;> rfl
theorem S_impl_holds {t : GTest} {p : GPacket} {κ : Bool → Prop} (ht : TV t) (h : κ (th t p)) : L_impl_Test_holds t p κ := by
  obtain ⟨h0, h1, _⟩ := ht
  unfold L_impl_Test_holds L_impl_Packet_fields jnW
  have key : ∀ v : Int, v = fieldP p t.xField.toNat → ifW (decide (t.xLo ≤ v)) (κ (!(decide ((decide (v ≤ t.xHi)) = t.xNot)))) (κ (!(decide (false = t.xNot)))) := by
    intro v hv
    unfold th at h
    rw [← hv] at h
    refine ifW_of (fun hc => ?_) (fun hc => ?_)
    · rw [bne_dec]
      have e : decide (t.xLo ≤ v ∧ v ≤ t.xHi) = decide (v ≤ t.xHi) := by simp at hc; simp [hc]
      rw [e] at h; exact h
    · rw [bne_dec]
      have e : decide (t.xLo ≤ v ∧ v ≤ t.xHi) = false := by simp at hc; simp; omega
      rw [e] at h; exact h
  rcases four4 h0 h1 with e | e | e | e
  · exact idxW_of 0 (by omega) (by simp) (key _ (by rw [e]; rfl))
  · exact idxW_of 1 (by omega) (by simp) (key _ (by rw [e]; rfl))
  · exact idxW_of 2 (by omega) (by simp) (key _ (by rw [e]; rfl))
  · exact idxW_of 3 (by omega) (by simp) (key _ (by rw [e]; rfl))
theorem ft_take (l : List GTest) (p : GPacket) (k : Nat) (h : k < l.length) : ft (l.take (k + 1)) p = (ft (l.take k) p && th l[k] p) := by
  unfold ft
  rw [List.take_succ_eq_append_getElem h, List.all_append]; simp
theorem ft_false {l : List GTest} {p : GPacket} {k : Nat} (h : k < l.length) (e : th l[k] p = false) : ft l p = false := by
  unfold ft
  rw [List.all_eq_false]
  exact ⟨l[k], List.getElem_mem h, by simp [e]⟩
theorem S_impl_allHold {l : List GTest} {p : GPacket} {κ : Bool → Prop} (hl : l.length ≤ 4294967296) (ht : ∀ t, t ∈ l → TV t) (h : κ (ft l p)) : L_impl_allHold l p κ := by
  unfold L_impl_allHold
  refine count_loop l.length (fun s => s) (fun k s => s = (k : Int) ∧ k ≤ l.length ∧ ft (l.take k) p = true) (fun k s h => h.1) (fun k s h => h.2.1) ?_ ⟨rfl, Nat.zero_le _, by simp [ft]⟩
  rintro k _ next ⟨rfl, hk, hf⟩ hn
  refine ifW_of (fun hc => ?_) (fun hc => ?_)
  · have hlt : k < l.length := by simpa using hc
    refine idxW_of k rfl hlt (S_impl_holds (ht _ (List.getElem_mem hlt)) (ifW_of (fun hx => ?_) (fun hx => addW_of (by omega) (by omega) (hn hlt _ ⟨by omega, by omega, ?_⟩))))
    · rw [ft_false hlt (by simpa using hx)] at h; exact h
    · rw [ft_take l p k hlt, hf]; simpa using hx
  · have hge : l.length ≤ k := by simpa using hc
    rw [List.take_of_length_le hge] at hf
    rw [hf] at h; exact h
theorem S_spec_TestHolds {t : GTest} {p : GPacket} {κ : Bool → Prop} (ht : TV t) (hp : pv p) (h : κ (th t p)) : L_spec_TestHolds t p κ := by
  unfold L_spec_TestHolds jnW
  refine S_spec_TestValid (ifW_of (fun _ => ?_) (fun hx => by simp at hx; exact absurd ht hx))
  refine S_specPacketValid (ifW_of (fun _ => ?_) (fun hx => by simp at hx; exact absurd hp hx))
  obtain ⟨h0, h1, _⟩ := ht
  unfold L_spec_PacketField jnW
  refine S_specPacketValid (ifW_of (fun hx => by simp at hx; exact absurd hp hx) (fun _ => S_l1In (ifW_of (fun hx => by simp at hx; omega) (fun _ => ?_))))
  have key : ∀ v : Int, v = fieldP p t.xField.toNat → L_spec_l1In v t.xLo t.xHi (fun r8 => κ (!(decide (r8 = t.xNot)))) := by
    intro v hv
    refine S_l1In ?_
    rw [bne_dec]
    unfold th at h
    rw [← hv] at h
    exact h
  rcases four4 h0 h1 with e | e | e | e
  · exact idxW_of 0 (by omega) (by simp) (key _ (by rw [e]; rfl))
  · exact idxW_of 1 (by omega) (by simp) (key _ (by rw [e]; rfl))
  · exact idxW_of 2 (by omega) (by simp) (key _ (by rw [e]; rfl))
  · exact idxW_of 3 (by omega) (by simp) (key _ (by rw [e]; rfl))
theorem S_spec_TestsHold {l : List GTest} {p : GPacket} {κ : Bool → Prop} (ht : TsV l) (hp : pv p) (h : κ (ft l p)) : L_spec_TestsHold l p κ := by
  unfold L_spec_TestsHold
  have hl := ht.2
  refine count_loop l.length (fun s => s) (fun k s => s = (k : Int) ∧ k ≤ l.length ∧ ft (l.take k) p = true) (fun k s h => h.1) (fun k s h => h.2.1) ?_ ⟨rfl, Nat.zero_le _, by simp [ft]⟩
  rintro k _ next ⟨rfl, hk, hf⟩ hn
  refine ifW_of (fun hc => ?_) (fun hc => ?_)
  · have hlt : k < l.length := by simpa using hc
    refine idxW_of k rfl hlt (S_spec_TestHolds (ht.1 _ (List.getElem_mem hlt)) hp (ifW_of (fun hx => ?_) (fun hx => addW_of (by omega) (by omega) (hn hlt _ ⟨by omega, by omega, ?_⟩))))
    · rw [ft_false hlt (by simpa using hx)] at h; exact h
    · rw [ft_take l p k hlt, hf]; simpa using hx
  · have hge : l.length ≤ k := by simpa using hc
    rw [List.take_of_length_le hge] at hf
    rw [hf] at h
    unfold jnW
    refine S_spec_TestsValid (by omega) (ifW_of (fun _ => S_specPacketValid ?_) (fun hx => by simp at hx; exact absurd ht hx))
    rw [decide_eq_true hp]; exact h

/-! heights of chains -/
def Hh (cs : List (List GRule)) : Nat → Nat → Prop
  | 0, _ => False
  | n + 1, i => ∀ j, Ca cs i j → Hh cs n j
theorem hh_succ {cs : List (List GRule)} : ∀ {n i : Nat}, Hh cs n i → Hh cs (n + 1) i
  | 0, i, h => h.elim
  | n + 1, i, h => fun j hj => hh_succ (h j hj)
theorem hh_le {cs : List (List GRule)} {n m i : Nat} (h : Hh cs n i) (hm : n ≤ m) : Hh cs m i := by
  induction hm with
  | refl => exact h
  | step _ ih => exact hh_succ ih
theorem hh_all {cs : List (List GRule)} {Q : Nat → Prop} : ∀ (k : Nat), (∀ j, j < k → Q j → ∃ n, Hh cs n j) → ∃ N, ∀ j, j < k → Q j → Hh cs N j
  | 0, _ => ⟨0, fun j hj => by omega⟩
  | k + 1, h => by
    obtain ⟨N, hN⟩ := hh_all k (fun j hj hq => h j (by omega) hq)
    by_cases hq : Q k
    · obtain ⟨n, hn⟩ := h k (by omega) hq
      refine ⟨max N n, fun j hj hqj => ?_⟩
      by_cases e : j = k
      · subst e; exact hh_le hn (by omega)
      · exact hh_le (hN j (by omega) hqj) (by omega)
    · refine ⟨N, fun j hj hqj => ?_⟩
      by_cases e : j = k
      · subst e; exact absurd hqj hq
      · exact hN j (by omega) hqj
theorem hh_of_sf {cs : List (List GRule)} {i : Nat} (hs : Sf cs i) : ∃ n, Hh cs n i := by
  induction hs with
  | intro x hx ih =>
    obtain ⟨N, hN⟩ := hh_all (cs := cs) (Q := fun j => Ca cs x j) cs.length (fun j _ hq => ih j hq)
    refine ⟨N + 1 + 1, fun j hj => ?_⟩
    by_cases hl : j < cs.length
    · exact hh_succ (hN j hl hj)
    · exact fun k hk => by
        obtain ⟨c, h1, _⟩ := hk
        have := (List.getElem?_eq_some_iff.1 h1).1
        omega
theorem hh_ex {cs : List (List GRule)} (hs : ∀ i, i < cs.length → Sf cs i) : ∃ N, ∀ i, Hh cs (N + 1) i := by
  obtain ⟨N, hN⟩ := hh_all (cs := cs) (Q := fun _ => True) cs.length (fun j hj _ => hh_of_sf (hs j hj))
  refine ⟨N, fun i => ?_⟩
  by_cases hl : i < cs.length
  · exact hh_succ (hN i hl trivial)
  · exact fun k hk => by
      obtain ⟨c, h1, _⟩ := hk
      have := (List.getElem?_eq_some_iff.1 h1).1
      omega

/-! the decision -/
/-- through the rules of a chain, given what the chains that are called decide: 1 accept, 2 drop, 5 nothing -/
def jl (p : GPacket) (call : Nat → Int) : List GRule → Int
  | [] => 5
  | r :: l => if ft r.xTests p = true then
      (if r.xAction = 1 then 1 else if r.xAction = 2 then 2 else if r.xAction = 4 then 5 else if r.xAction = 3 then (if call r.xChain.toNat = 5 then jl p call l else call r.xChain.toNat) else jl p call l)
      else jl p call l
def chn (cs : List (List GRule)) (i : Nat) : List GRule := cs[i]?.getD []
def jc (cs : List (List GRule)) (p : GPacket) : Nat → Nat → Int
  | 0, _ => 5
  | n + 1, i => jl p (jc cs p n) (chn cs i)
theorem jl_congr {p : GPacket} {f g : Nat → Int} : ∀ {l : List GRule}, (∀ r, r ∈ l → r.xAction = 3 → f r.xChain.toNat = g r.xChain.toNat) → jl p f l = jl p g l
  | [], _ => rfl
  | r :: l, h => by
    have ih := jl_congr (p := p) (l := l) (fun x hx => h x (by simp [hx]))
    simp only [jl]
    rw [ih]
    by_cases h3 : r.xAction = 3
    · rw [h r (by simp) h3]
    · simp only [h3, if_false]
theorem ca_mem {cs : List (List GRule)} {i : Nat} {r : GRule} (hr : r ∈ chn cs i) (h3 : r.xAction = 3) (h0 : 0 ≤ r.xChain) : Ca cs i r.xChain.toNat := by
  unfold chn at hr
  cases h : cs[i]? with
  | none => rw [h] at hr; simp at hr
  | some c => rw [h] at hr; exact ⟨c, h, r, hr, h3, by omega⟩
/-- calls go to chains that are numbered from 0 -/
def Cn (cs : List (List GRule)) : Prop := ∀ i r, r ∈ chn cs i → r.xAction = 3 → 0 ≤ r.xChain
theorem jc_stab {cs : List (List GRule)} {p : GPacket} (hc : Cn cs) : ∀ {n i : Nat}, Hh cs n i → jc cs p (n + 1) i = jc cs p n i
  | 0, i, h => h.elim
  | n + 1, i, h => jl_congr (fun r hr h3 => jc_stab hc (h _ (ca_mem hr h3 (hc i r hr h3))))
/-- the numbers of steps that the rules of a chain take at most -/
def wt (cs : List (List GRule)) : Nat → List GRule → Nat
  | 0, l => l.length + 1
  | n + 1, l => 1 + (l.map (fun r => 1 + if r.xAction = 3 then wt cs n (chn cs r.xChain.toNat) else 0)).sum
theorem wt_nil (cs : List (List GRule)) (n : Nat) : wt cs n [] = 1 := by cases n <;> simp [wt]
theorem wt_cons (cs : List (List GRule)) (n : Nat) (r : GRule) (l : List GRule) : wt cs (n + 1) (r :: l) = wt cs (n + 1) l + 1 + (if r.xAction = 3 then wt cs n (chn cs r.xChain.toNat) else 0) := by
  simp only [wt, List.map_cons, List.sum_cons]; omega
theorem wt_stab {cs : List (List GRule)} (hc : Cn cs) : ∀ {n i : Nat}, Hh cs n i → wt cs (n + 1) (chn cs i) = wt cs n (chn cs i)
  | 0, i, h => h.elim
  | n + 1, i, h => by
    have key : ∀ l : List GRule, (∀ r, r ∈ l → r ∈ chn cs i) → (l.map (fun r => 1 + if r.xAction = 3 then wt cs (n + 1) (chn cs r.xChain.toNat) else 0)).sum = (l.map (fun r => 1 + if r.xAction = 3 then wt cs n (chn cs r.xChain.toNat) else 0)).sum := by
      intro l hl
      congr 1
      refine List.map_congr_left (fun r hr => ?_)
      by_cases h3 : r.xAction = 3
      · simp only [h3, if_true]
        rw [wt_stab hc (h _ (ca_mem (hl r hr) h3 (hc i r (hl r hr) h3)))]
      · simp only [h3, if_false]
    show 1 + _ = 1 + _
    rw [key _ (fun r hr => hr)]
open Classical in
/-- a number of steps that serves for all chains -/
noncomputable def jN (cs : List (List GRule)) : Nat := if h : ∃ N, ∀ i, Hh cs (N + 1) i then h.choose else 0
theorem jN_ok {cs : List (List GRule)} (hs : ∀ i, i < cs.length → Sf cs i) (i : Nat) : Hh cs (jN cs + 1) i := by
  have h := hh_ex hs
  unfold jN
  rw [dif_pos h]
  exact h.choose_spec i
/-- what chain i decides about a packet -/
noncomputable def J (cs : List (List GRule)) (p : GPacket) (i : Nat) : Int := jc cs p (jN cs + 1) i
theorem J_fix {cs : List (List GRule)} {p : GPacket} (hc : Cn cs) (hs : ∀ i, i < cs.length → Sf cs i) (i : Nat) : J cs p i = jl p (J cs p) (chn cs i) := by
  unfold J
  rw [← jc_stab hc (jN_ok hs i)]
  rfl
theorem SV.cn {s : GRuleset} (h : SV s) : Cn s.xChains := by
  intro i r hr h3
  unfold chn at hr
  cases e : s.xChains[i]? with
  | none => rw [e] at hr; simp at hr
  | some c =>
    rw [e] at hr
    exact (((h.1.2 c (List.mem_of_getElem? e)).2 r hr).1.2.2.2.1 h3).1
theorem chn_get {cs : List (List GRule)} {i : Nat} (h : i < cs.length) : chn cs i = cs[i] := by simp [chn, h]
theorem jl_vals {p : GPacket} {f : Nat → Int} (hf : ∀ i, f i = 1 ∨ f i = 2 ∨ f i = 5) : ∀ l, jl p f l = 1 ∨ jl p f l = 2 ∨ jl p f l = 5
  | [] => by simp [jl]
  | r :: l => by
    have ih := jl_vals (p := p) hf l
    have := hf r.xChain.toNat
    simp only [jl]
    repeat' split
    all_goals omega
theorem jc_vals {cs : List (List GRule)} {p : GPacket} : ∀ n i, jc cs p n i = 1 ∨ jc cs p n i = 2 ∨ jc cs p n i = 5
  | 0, i => by simp [jc]
  | n + 1, i => jl_vals (jc_vals n) _
theorem J_vals (cs : List (List GRule)) (p : GPacket) (i : Nat) : J cs p i = 1 ∨ J cs p i = 2 ∨ J cs p i = 5 := jc_vals _ _
/-- the judgement -/
noncomputable def jdg (s : GRuleset) (p : GPacket) : Bool := if J s.xChains p 0 = 1 then true else if J s.xChains p 0 = 2 then false else s.xAccept

/-! the reference's walk -/
theorem S_l9R {s : GRuleset} {p : GPacket} (hv : SV s) (hp : pv p) : ∀ (n i : Nat) (out : List GVisit) (κ : Int × List GVisit → Prop), Hh s.xChains n i → i < s.xChains.length → out.length ≤ 200 → (∀ out', out'.length ≤ 200 → κ (J s.xChains p i, out')) → R_spec_l9Walk n s i p out κ := by
  intro n
  induction n with
  | zero => intro i out κ h; exact h.elim
  | succ n ih =>
    intro i out κ hh hi ho h
    show B_spec_l9Walk (R_spec_l9Walk n) s i p out κ
    unfold B_spec_l9Walk
    obtain ⟨h8, hrv⟩ := hv.1.2 _ (List.getElem_mem hi)
    rw [J_fix hv.cn hv.2.2 i, chn_get hi] at h
    have hci := chn_get hi
    generalize hcc : s.xChains[i] = c at *
    have ix : ∀ (K : List GRule → Prop), K c → idxW s.xChains (i : Int) K := fun K hK => idxW_of i rfl hi (by rw [hcc]; exact hK)
    refine count_loop c.length (fun t => t.2) (fun k t => t.2 = (k : Int) ∧ k ≤ c.length ∧ t.1.length ≤ 200 ∧ jl p (J s.xChains p) (c.drop k) = jl p (J s.xChains p) c) (fun k t h => h.1) (fun k t h => h.2.1) ?_ ⟨rfl, Nat.zero_le _, ho, by simp⟩
    rintro k ⟨xs, t⟩ next ⟨rfl, hk, hx, hj⟩ hn
    simp only at hx hj
    refine ix _ (ifW_of (fun hc => ?_) (fun hc => ?_))
    · have hlt : k < c.length := by simpa using hc
      obtain ⟨hr, hrc⟩ := hrv _ (List.getElem_mem hlt)
      have hd : c.drop k = c[k] :: c.drop (k + 1) := List.drop_eq_getElem_cons hlt
      rw [hd] at hj
      simp only [jl] at hj
      have go : ∀ ys : List GVisit, ys.length ≤ 200 → jl p (J s.xChains p) (c.drop (k + 1)) = jl p (J s.xChains p) c → addW (k : Int) 1 (fun t245 => next (ys, t245)) := fun ys hys e => addW_of (by omega) (by omega) (hn hlt _ ⟨by simp, by omega, hys, e⟩)
      unfold jnW
      refine ix _ (idxW_of k rfl hlt (S_spec_TestsHold hr.1 hp (ifW_of (fun hx2 => ?_) (fun hx2 => ?_))))
      · have hf : ft c[k].xTests p = false := by simpa using hx2
        rw [hf] at hj
        exact go _ hx (by simpa using hj)
      · have hf : ft c[k].xTests p = true := by simpa using hx2
        rw [hf] at hj
        simp only [if_true] at hj
        have core : ∀ ys : List GVisit, ys.length ≤ 200 → ifW (decide (c[k].xAction = 1)) (ifW (decide (c[k].xAction = 1)) (κ (c[k].xAction, ys)) (ifW (decide (c[k].xAction = 4)) (κ (5, ys)) (ifW (decide (c[k].xAction = 3)) (R_spec_l9Walk n s c[k].xChain p ys (fun (r177, r178) => ifW (!(decide (r177 = 5))) (κ (r177, r178)) (addW (k : Int) 1 (fun t245 => next (r178, t245))))) (addW (k : Int) 1 (fun t245 => next (ys, t245)))))) (ifW (decide (c[k].xAction = 2)) (κ (c[k].xAction, ys)) (ifW (decide (c[k].xAction = 4)) (κ (5, ys)) (ifW (decide (c[k].xAction = 3)) (R_spec_l9Walk n s c[k].xChain p ys (fun (r177, r178) => ifW (!(decide (r177 = 5))) (κ (r177, r178)) (addW (k : Int) 1 (fun t245 => next (r178, t245))))) (addW (k : Int) 1 (fun t245 => next (ys, t245)))))) := by
          intro ys hys
          by_cases h1 : c[k].xAction = 1
          · rw [if_pos h1] at hj
            refine ifW_of (fun _ => ifW_of (fun _ => ?_) (fun hx => by simp at hx; exact absurd h1 hx)) (fun hx => by simp at hx; exact absurd h1 hx)
            rw [h1]
            have := h ys hys
            rw [← hj] at this; exact this
          · rw [if_neg h1] at hj
            refine ifW_of (fun hx => by simp at hx; exact absurd hx h1) (fun _ => ?_)
            by_cases h2 : c[k].xAction = 2
            · rw [if_pos h2] at hj
              refine ifW_of (fun _ => ?_) (fun hx => by simp at hx; exact absurd h2 hx)
              rw [h2]
              have := h ys hys
              rw [← hj] at this; exact this
            · rw [if_neg h2] at hj
              refine ifW_of (fun hx => by simp at hx; exact absurd hx h2) (fun _ => ?_)
              by_cases h4 : c[k].xAction = 4
              · rw [if_pos h4] at hj
                refine ifW_of (fun _ => ?_) (fun hx => by simp at hx; exact absurd h4 hx)
                have := h ys hys
                rw [← hj] at this; exact this
              · rw [if_neg h4] at hj
                refine ifW_of (fun hx => by simp at hx; exact absurd hx h4) (fun _ => ?_)
                by_cases h3 : c[k].xAction = 3
                · rw [if_pos h3] at hj
                  refine ifW_of (fun _ => ?_) (fun hx => by simp at hx; exact absurd h3 hx)
                  have hch := hr.2.2.2.1 h3
                  have e : (c[k].xChain : Int) = ((c[k].xChain.toNat : Nat) : Int) := by omega
                  rw [e]
                  refine ih _ ys _ (hh _ ⟨c, by rw [List.getElem?_eq_getElem hi, hcc], c[k], List.getElem_mem hlt, h3, e⟩) (by omega) hys (fun out' ho' => ?_)
                  show ifW _ _ _
                  refine ifW_of (fun hx => ?_) (fun hx => ?_)
                  · have hne : ¬ J s.xChains p c[k].xChain.toNat = 5 := by simpa using hx
                    rw [if_neg hne] at hj
                    have := h out' ho'
                    rw [← hj] at this; exact this
                  · have he : J s.xChains p c[k].xChain.toNat = 5 := by simpa using hx
                    rw [if_pos he] at hj
                    exact go _ ho' hj
                · rw [if_neg h3] at hj
                  refine ifW_of (fun hx => by simp at hx; exact absurd hx h3) (fun _ => go _ hys hj)
        refine ifW_of (fun h2 => appW_of (by simp; omega) (core _ (by simp at h2 ⊢; omega))) (fun _ => core _ hx)
    · have hge : c.length ≤ k := by simpa using hc
      rw [List.drop_eq_nil_of_le hge] at hj
      have := h xs hx
      rw [← hj] at this
      exact this
theorem S_spec_Judge {s : GRuleset} {p : GPacket} {κ : Bool → Prop} (hb : Bd s) (h1 : SV s → pv p → κ (jdg s p)) (h2 : ¬ (SV s ∧ pv p) → κ false) : L_spec_Judge s p κ := by
  unfold L_spec_Judge jnW
  refine S_spec_RulesetValid hb (fun b hbv => ifW_of (fun hx => ifW_of (fun _ => h2 (fun hh => ?_)) (fun hy => by simp at hy)) (fun hx => S_specPacketValid (ifW_of (fun hy => h2 (fun hh => ?_)) (fun hy => ?_))))
  · rw [hbv.2 hh.1] at hx; cases hx
  · rw [decide_eq_true hh.2] at hy; cases hy
  have hv : SV s := hbv.1 (by simpa using hx)
  have hp : pv p := by simpa using hy
  refine ⟨jN s.xChains + 1, S_l9R hv hp _ 0 [] _ (jN_ok hv.2.2 0) hv.2.1 (by simp) (fun out' _ => ?_)⟩
  have := h1 hv hp
  unfold jdg at this
  show ifW _ _ _
  refine ifW_of (fun hx => ?_) (fun hx => ifW_of (fun hy => ?_) (fun hy => ?_))
  · have e : J s.xChains p 0 = 1 := by simpa using hx
    rw [if_pos e] at this; exact this
  · have e : J s.xChains p 0 = 5 := by simpa using hy
    rw [if_neg (by omega), if_neg (by omega)] at this; exact this
  · have e1 : ¬ J s.xChains p 0 = 1 := by simpa using hx
    have e5 : ¬ J s.xChains p 0 = 5 := by simpa using hy
    have := J_vals s.xChains p 0
    have e2 : J s.xChains p 0 = 2 := by omega
    rename_i hk
    rw [if_neg e1, if_pos e2] at hk; exact hk


end
section


theorem nodup_len : ∀ (n : Nat) (l : List Nat), l.Nodup → (∀ x, x ∈ l → x < n) → l.length ≤ n
  | 0, [], _, _ => by simp
  | 0, x :: l, _, h => by have := h x (by simp); omega
  | n + 1, l, hd, h => by
    by_cases hm : n ∈ l
    · obtain ⟨s, t, rfl⟩ := List.append_of_mem hm
      have hnd : (s ++ t).Nodup ∧ n ∉ s ++ t := by
        rw [List.nodup_append] at hd ⊢
        simp only [List.nodup_cons, List.mem_cons] at hd
        obtain ⟨h1, ⟨h2, h3⟩, h4⟩ := hd
        refine ⟨⟨h1, h3, fun a ha b hb => h4 a ha b (.inr hb)⟩, fun hmem => ?_⟩
        rcases List.mem_append.1 hmem with hs | ht
        · exact h4 n hs n (.inl rfl) rfl
        · exact h2 ht
      have := nodup_len n (s ++ t) hnd.1 (fun x hx => by
        have h1 := h x (by
          rcases List.mem_append.1 hx with hx | hx
          · exact List.mem_append.2 (.inl hx)
          · exact List.mem_append.2 (.inr (List.mem_cons_of_mem _ hx)))
        have h2 : x ≠ n := fun e => hnd.2 (e ▸ hx)
        omega)
      simp at this ⊢; omega
    · have := nodup_len n l hd (fun x hx => by
        have h1 := h x hx
        have h2 : x ≠ n := fun e => hm (e ▸ hx)
        omega)
      omega

def okP (cs : List (List GRule)) (q : GPlace) : Prop := 0 ≤ q.xChain ∧ q.xChain.toNat < cs.length ∧ 0 ≤ q.xNext ∧ q.xNext.toNat ≤ (chn cs q.xChain.toNat).length
def sfx (cs : List (List GRule)) (q : GPlace) : List GRule := (chn cs q.xChain.toNat).drop q.xNext.toNat
noncomputable def Jst (cs : List (List GRule)) (p : GPacket) : List GPlace → Int
  | [] => 5
  | q :: st => if jl p (J cs p) (sfx cs q) = 5 then Jst cs p st else jl p (J cs p) (sfx cs q)
noncomputable def wst (cs : List (List GRule)) (xs : List GPlace) : Nat := (xs.map (fun q => wt cs (jN cs + 1) (sfx cs q))).sum
theorem wst_snoc (cs : List (List GRule)) (xs : List GPlace) (q : GPlace) : wst cs (xs ++ [q]) = wst cs xs + wt cs (jN cs + 1) (sfx cs q) := by simp [wst]
/-- the stack: places that are there, each chain called by the one below it -/
def St (cs : List (List GRule)) (xs : List GPlace) : Prop := (∀ q, q ∈ xs → okP cs q) ∧ xs.Pairwise (fun a b => Wy cs a.xChain.toNat b.xChain.toNat)
theorem St.len {cs : List (List GRule)} {xs : List GPlace} (hs : ∀ i, i < cs.length → Sf cs i) (h : St cs xs) : xs.length ≤ cs.length := by
  have hn : (xs.map (fun q => q.xChain.toNat)).Nodup := by
    rw [List.Nodup, List.pairwise_map]
    refine List.Pairwise.imp_of_mem (fun {a b} ha hb hw e => ?_) h.2
    rw [← e] at hw
    exact wy_loop (hs _ (h.1 a ha).2.1) hw
  have := nodup_len cs.length _ hn (fun x hx => by
    obtain ⟨q, hq, rfl⟩ := List.mem_map.1 hx
    exact (h.1 q hq).2.1)
  simpa using this
theorem St.drop {cs : List (List GRule)} {ys : List GPlace} {q : GPlace} (h : St cs (ys ++ [q])) : St cs ys := ⟨fun x hx => h.1 x (List.mem_append.2 (.inl hx)), (List.pairwise_append.1 h.2).1⟩
theorem St.move {cs : List (List GRule)} {ys : List GPlace} {q q' : GPlace} (h : St cs (ys ++ [q])) (hq : okP cs q') (hc : q'.xChain = q.xChain) : St cs (ys ++ [q']) := by
  refine ⟨fun x hx => ?_, ?_⟩
  · rcases List.mem_append.1 hx with hx | hx
    · exact h.1 x (List.mem_append.2 (.inl hx))
    · rw [List.mem_singleton] at hx; subst hx; exact hq
  · obtain ⟨h1, _, h3⟩ := List.pairwise_append.1 h.2
    refine List.pairwise_append.2 ⟨h1, by simp, fun a ha b hb => ?_⟩
    rw [List.mem_singleton] at hb
    subst hb
    rw [hc]
    exact h3 a ha q (by simp)
theorem St.push {cs : List (List GRule)} {ys : List GPlace} {q q' : GPlace} (h : St cs (ys ++ [q])) (hq : okP cs q') (hc : Ca cs q.xChain.toNat q'.xChain.toNat) : St cs (ys ++ [q] ++ [q']) := by
  refine ⟨fun x hx => ?_, ?_⟩
  · rcases List.mem_append.1 hx with hx | hx
    · exact h.1 x hx
    · rw [List.mem_singleton] at hx; subst hx; exact hq
  · refine List.pairwise_append.2 ⟨h.2, by simp, fun a ha b hb => ?_⟩
    rw [List.mem_singleton] at hb
    subst hb
    rcases List.mem_append.1 ha with ha | ha
    · exact .more ((List.pairwise_append.1 h.2).2.2 a ha q (by simp)) hc
    · rw [List.mem_singleton] at ha; subst ha; exact .one hc
theorem snoc_cases {α : Type} (xs : List α) (h : 0 < xs.length) : ∃ ys q, xs = ys ++ [q] := ⟨xs.dropLast, xs.getLast (List.ne_nil_of_length_pos h), (List.dropLast_concat_getLast (List.ne_nil_of_length_pos h)).symm⟩
theorem S_leave {ys : List GPlace} {q : GPlace} {vis : List GVisit} {d : Int} {κ : List GPlace → Prop} (hl : ys.length ≤ 50) (h : κ ys) : L_impl_walk_leave (ys ++ [q]) vis d κ := by
  unfold L_impl_walk_leave jnW
  have hw : w64 (((ys ++ [q]).length : Int) - 1) = (ys.length : Int) := by
    rw [w64_small (by simp <;> omega) (by simp <;> omega)]; simp
  rw [hw]
  refine ⟨by omega, by omega, by simp <;> omega, ?_⟩
  rw [show ((ys.length : Int)).toNat = ys.length from by omega, show ((0 : Int)).toNat = 0 from rfl, List.drop_zero, List.take_left']
  · exact h
  · rfl
theorem S_walkThrough {s : GRuleset} {p : GPacket} (hv : SV s) {κ : List GPlace × List GVisit × Int → Prop} (h : ∀ st vis, κ (st, vis, J s.xChains p 0)) : L_impl_walkThrough s p κ := by
  unfold L_impl_walkThrough
  have hcs := hv.1.1
  generalize hcc : s.xChains = cs at *
  have hsf := hv.2.2
  rw [hcc] at hsf
  have hpos : 0 < cs.length := by have := hv.2.1; rw [hcc] at this; omega
  have hcn : Cn cs := hcc ▸ hv.cn
  have htg := hv.1.2
  rw [hcc] at htg
  refine loopW_inv (fun t => St cs t.1 ∧ t.2.1.length ≤ 200 ∧ (t.2.2 = 5 → Jst cs p t.1.reverse = J cs p 0) ∧ (t.2.2 ≠ 5 → t.2.2 = J cs p 0)) (fun t => if t.2.2 = 5 then 1 + wst cs t.1 else 0) ?_ ⟨⟨fun q hq => ?_, by simp⟩, by simp, fun _ => ?_, fun hx => absurd rfl hx⟩
  rotate_left
  · simp only [List.mem_singleton] at hq; subst hq
    exact ⟨by simp, by simpa using hpos, by simp, by simp⟩
  · have : sfx cs ⟨0, 0⟩ = chn cs 0 := by simp [sfx]
    simp only [List.reverse_cons, List.reverse_nil, List.nil_append, Jst, this]
    rw [← J_fix hcn hsf 0]
    split
    · rename_i e; rw [e]
    · rfl
  rintro ⟨xs, vis, d⟩ next ⟨hst, hvl, h5, hd⟩ hn
  simp only at hst hvl h5 hd
  unfold jnW
  refine ifW_of (fun hlen => ?_) (fun hlen => ifW_of (fun hx => by simp at hx) (fun _ => ?_))
  rotate_left
  · have hx0 : xs = [] := by simp at hlen; exact hlen
    by_cases e : d = 5
    · have := h5 e
      rw [hx0] at this
      simp only [List.reverse_nil, Jst] at this
      rw [e, this]
      exact h _ _
    · rw [hd e]; exact h _ _
  refine ifW_of (fun h5' => ?_) (fun h5' => ?_)
  rotate_left
  · have e : d ≠ 5 := by simpa using h5'
    rw [hd e]; exact h _ _
  have e5 : d = 5 := by simpa using h5'
  subst e5
  clear hd
  have hJ := h5 rfl
  clear h5
  obtain ⟨ys, q, rfl⟩ := snoc_cases xs (by have h' : (0 : Int) < (xs.length : Int) := of_decide_eq_true hlen; omega)
  have hll := hst.len hsf
  obtain ⟨q0, q1, q2, q3⟩ := hst.1 q (by simp)
  simp only [List.length_append, List.length_cons, List.length_nil] at hll
  have hchn := chn_get q1
  obtain ⟨h8, hrv⟩ := htg _ (List.getElem_mem q1)
  refine subW_of (by simp <;> omega) (by simp <;> omega) (idxW_of ys.length (by simp) (by simp) ?_)
  rw [show (ys ++ [q])[ys.length]'(by simp) = q by simp]
  refine idxW_of q.xChain.toNat (by omega) q1 ?_
  rw [← hchn]
  rw [← hchn] at h8 hrv
  have hrev : (ys ++ [q]).reverse = q :: ys.reverse := by simp
  rw [hrev] at hJ
  have hset : ∀ q' : GPlace, (ys ++ [q]).set ((((ys ++ [q]).length : Int) - 1)).toNat q' = ys ++ [q'] := by
    intro q'
    have : ((((ys ++ [q]).length : Int) - 1)).toNat = ys.length := by simp
    rw [this, List.set_append_right _ _ (Nat.le_refl _)]; simp
  -- the next state
  have go : ∀ (xs' : List GPlace) (vis' : List GVisit), St cs xs' → vis'.length ≤ 200 → Jst cs p xs'.reverse = J cs p 0 → wst cs xs' < wst cs (ys ++ [q]) → next (xs', vis', 5) := fun xs' vis' a b c d => hn _ ⟨a, b, fun _ => c, fun hx => absurd rfl hx⟩ (by simp only [if_true]; omega)
  refine ifW_of (fun hx => ?_) (fun hx => ?_)
  · have e : q.xNext = ((chn cs q.xChain.toNat).length : Int) := by simpa using hx
    have hs0 : sfx cs q = [] := List.drop_eq_nil_of_le (by omega)
    refine S_leave (by omega) (go ys vis hst.drop hvl ?_ ?_)
    · simp only [Jst, hs0, jl, if_true] at hJ; exact hJ
    · rw [wst_snoc, hs0, wt_nil]; omega
  · have e : q.xNext ≠ ((chn cs q.xChain.toNat).length : Int) := by simpa using hx
    have hlt : q.xNext.toNat < (chn cs q.xChain.toNat).length := by omega
    obtain ⟨hr, hrc⟩ := hrv _ (List.getElem_mem hlt)
    have hmem : (chn cs q.xChain.toNat)[q.xNext.toNat] ∈ chn cs q.xChain.toNat := List.getElem_mem hlt
    have hok' : okP cs ⟨q.xChain, q.xNext + 1⟩ := ⟨q0, q1, by simp only; omega, by simp only; omega⟩
    have hs1 : sfx cs q = (chn cs q.xChain.toNat)[q.xNext.toNat] :: sfx cs ⟨q.xChain, q.xNext + 1⟩ := by
      unfold sfx
      rw [List.drop_eq_getElem_cons hlt]
      simp only
      rw [show (q.xNext + 1).toNat = q.xNext.toNat + 1 by omega]
    generalize hrr : (chn cs q.xChain.toNat)[q.xNext.toNat] = r at *
    have hw0 := wst_snoc cs ys q
    rw [hs1, wt_cons] at hw0
    simp only [Jst, hs1, jl] at hJ
    have hmv : St cs (ys ++ [⟨q.xChain, q.xNext + 1⟩]) := hst.move hok' rfl
    have hstay : ∀ vis' : List GVisit, vis'.length ≤ 200 → (if jl p (J cs p) (sfx cs ⟨q.xChain, q.xNext + 1⟩) = 5 then Jst cs p ys.reverse else jl p (J cs p) (sfx cs ⟨q.xChain, q.xNext + 1⟩)) = J cs p 0 → next (ys ++ [⟨q.xChain, q.xNext + 1⟩], vis', 5) := by
      intro vis' hv' hj
      refine go _ vis' hmv hv' ?_ ?_
      · simp only [List.reverse_append, List.reverse_cons, List.reverse_nil, List.nil_append, List.singleton_append, Jst]; exact hj
      · rw [wst_snoc, hw0]; omega
    have ir : ∀ (K : GRule → Prop), K r → idxW (chn cs q.xChain.toNat) q.xNext K := fun K hK => idxW_of q.xNext.toNat (by omega) hlt (by rw [hrr]; exact hK)
    refine addW_of (by omega) (by omega) (ir _ (S_impl_allHold (by have := hr.1.2; omega) hr.1.1 ?_))
    rw [hset]
    refine ifW_of (fun hx => ?_) (fun hx => ?_)
    · have hf : ft r.xTests p = false := by simpa using hx
      rw [hf] at hJ
      exact hstay vis hvl (by simpa using hJ)
    · have hf : ft r.xTests p = true := by simpa using hx
      rw [hf] at hJ
      simp only [if_true] at hJ
      have core : ∀ vis' : List GVisit, vis'.length ≤ 200 → idxW (chn cs q.xChain.toNat) q.xNext (fun e191 => L_impl_actionOf e191 (fun r197 => IAction.casesW r197 (fun x198 => L_impl_deciding_walk x198 (ys ++ [⟨q.xChain, q.xNext + 1⟩]) vis' 5 (fun r202 => next (ys ++ [⟨q.xChain, q.xNext + 1⟩], vis', r202))) (fun x199 => L_impl_calling_walk x199 (ys ++ [⟨q.xChain, q.xNext + 1⟩]) vis' 5 (fun r203 => next (r203, vis', 5))) (fun x200 => L_impl_returning_walk (GReturning.mk ) (ys ++ [⟨q.xChain, q.xNext + 1⟩]) vis' 5 (fun r206 => next (r206, vis', 5))) (fun x201 => L_impl_passing_walk (GPassing.mk ) (ys ++ [⟨q.xChain, q.xNext + 1⟩]) vis' 5 (fun _ => next (ys ++ [⟨q.xChain, q.xNext + 1⟩], vis', 5))))) := by
        intro vis' hv'
        refine ir _ ?_
        have dec : ∀ d : Int, d ≠ 5 → d = J cs p 0 → next (ys ++ [⟨q.xChain, q.xNext + 1⟩], vis', d) := fun d hd5 hd => hn _ ⟨hmv, hv', fun e => absurd e hd5, fun _ => hd⟩ (by simp only [if_neg hd5, if_true]; omega)
        unfold L_impl_actionOf
        by_cases h1 : r.xAction = 1
        · rw [if_pos h1] at hJ
          refine ifW_of (fun _ => ?_) (fun hx => by simp at hx; exact absurd h1 hx)
          dsimp only [IAction.casesW]
          unfold L_impl_deciding_walk
          exact ifW_of (fun _ => dec 1 (by decide) (by simpa using hJ)) (fun hx => by simp at hx)
        · rw [if_neg h1] at hJ
          refine ifW_of (fun hx => by simp at hx; exact absurd hx h1) (fun _ => ?_)
          by_cases h2 : r.xAction = 2
          · rw [if_pos h2] at hJ
            refine ifW_of (fun _ => ?_) (fun hx => by simp at hx; exact absurd h2 hx)
            dsimp only [IAction.casesW]
            unfold L_impl_deciding_walk
            exact ifW_of (fun hx => by simp at hx) (fun _ => dec 2 (by decide) (by simpa using hJ))
          · rw [if_neg h2] at hJ
            refine ifW_of (fun hx => by simp at hx; exact absurd hx h2) (fun _ => ?_)
            by_cases h3 : r.xAction = 3
            · have h4 : r.xAction ≠ 4 := by omega
              rw [if_neg h4, if_pos h3] at hJ
              rw [if_pos h3] at hw0
              refine ifW_of (fun _ => ?_) (fun hx => by simp at hx; exact absurd h3 hx)
              dsimp only [IAction.casesW]
              unfold L_impl_calling_walk jnW
              have hch := hr.2.2.2.1 h3
              have hca : Ca cs q.xChain.toNat r.xChain.toNat := ca_mem hmem h3 hch.1
              have hcl : r.xChain.toNat < cs.length := by have := hrc; omega
              refine appW_of (by simp; omega) (go _ vis' (hmv.push ⟨hch.1, hcl, by simp, by simp⟩ hca) hv' ?_ ?_)
              · have hs2 : sfx cs ⟨r.xChain, 0⟩ = chn cs r.xChain.toNat := by simp [sfx]
                simp only [List.reverse_append, List.reverse_cons, List.reverse_nil, List.nil_append, List.singleton_append, List.cons_append, Jst, hs2]
                rw [← J_fix hcn hsf]
                by_cases hj5 : J cs p r.xChain.toNat = 5
                · rw [if_pos hj5] at hJ ⊢; exact hJ
                · rw [if_neg hj5] at hJ ⊢
                  rw [if_neg hj5] at hJ; exact hJ
              · have hs2 : sfx cs ⟨r.xChain, 0⟩ = chn cs r.xChain.toNat := by simp [sfx]
                have hhh : Hh cs (jN cs) r.xChain.toNat := jN_ok hsf q.xChain.toNat _ hca
                rw [wst_snoc, wst_snoc, hs2, wt_stab hcn hhh, hw0]; omega
            · refine ifW_of (fun hx => by simp at hx; exact absurd hx h3) (fun _ => ?_)
              by_cases h4 : r.xAction = 4
              · rw [if_pos h4] at hJ
                refine ifW_of (fun _ => ?_) (fun hx => by simp at hx; exact absurd h4 hx)
                dsimp only [IAction.casesW]
                unfold L_impl_returning_walk
                refine S_leave (by omega) (go ys vis' hst.drop hv' (by simpa using hJ) ?_)
                rw [hw0]; omega
              · rw [if_neg h4, if_neg h3] at hJ
                refine ifW_of (fun hx => by simp at hx; exact absurd hx h4) (fun _ => ?_)
                dsimp only [IAction.casesW]
                unfold L_impl_passing_walk
                exact hstay vis' hv' hJ
      refine ifW_of (fun h2 => appW_of (by simp; omega) (core _ (by simp at h2 ⊢; omega))) (fun _ => core _ hvl)
theorem S_judgeValid {s : GRuleset} {p : GPacket} (hv : SV s) {κ : Bool → Prop} (h : κ (jdg s p)) : L_impl_judgeValid s p κ := by
  unfold L_impl_judgeValid
  refine S_walkThrough (p := p) hv (fun st vis => ?_)
  unfold jdg at h
  show ifW _ _ _
  refine ifW_of (fun hx => ?_) (fun hx => ifW_of (fun hy => ?_) (fun hy => ?_))
  · have e : J s.xChains p 0 = 1 := by simpa using hx
    rw [if_pos e] at h; exact h
  · have e : J s.xChains p 0 = 2 := by simpa using hy
    rw [if_neg (by omega), if_pos e] at h; exact h
  · have e1 : ¬ J s.xChains p 0 = 1 := by simpa using hx
    have e2 : ¬ J s.xChains p 0 = 2 := by simpa using hy
    rw [if_neg e1, if_neg e2] at h; exact h
end
section


/-! draws -/
theorem S_l20Packet {b : List UInt8} {p n : Int} (hb : b.length ≤ 2000) (h0 : 0 ≤ p) (h1 : p ≤ 900000) (hn : n ≤ 4294967296) {κ : GPacket × Int → Prop} (h : ∀ k p', p ≤ p' → p' ≤ p + 20 → κ (k, p')) : L_spec_l20Packet b p n κ := by
  unfold L_spec_l20Packet
  have rd : ∀ q, 0 ≤ q → q ≤ 900040 → RdP b q := fun q q1 q2 => ⟨hb, q1, by omega⟩
  refine S_pick (rd _ (by omega) (by omega)) (fun a a1 a2 => S_pick (rd _ (by omega) (by omega)) (fun c c1 c2 => S_pick (rd _ (by omega) (by omega)) (fun d d1 d2 => S_pick (rd _ (by omega) (by omega)) (fun e e1 e2 => ?_))))
  have fin : ∀ (q x y z : Int), p ≤ q → q ≤ p + 12 → L_spec_l20Rd_odd b q n (fun (r44, r45) => ifW r44 (L_spec_l20Rd_pick b r45 4 (fun (r46, r47) => ifW (decide (r46 = 0)) (L_spec_l20Rd_pick b r47 2 (fun (r50, r51) => idxW ([(-1), 65536]) r50 (fun e52 => κ ((GPacket.mk e52 y z e), r51)))) (ifW (decide (r46 = 1)) (L_spec_l20Rd_pick b r47 2 (fun (r56, r57) => idxW ([(-1), 65536]) r56 (fun e58 => κ ((GPacket.mk x e58 z e), r57)))) (ifW (decide (r46 = 2)) (L_spec_l20Rd_pick b r47 2 (fun (r62, r63) => idxW ([(-1), 256]) r62 (fun e64 => κ ((GPacket.mk x y e64 e), r63)))) (L_spec_l20Rd_pick b r47 2 (fun (r68, r69) => idxW ([(-1), 8]) r68 (fun e70 => κ ((GPacket.mk x y z e70), r69)))))))) (κ ((GPacket.mk x y z e), r45))) := by
    intro q x y z q1 q2
    refine S_odd (rd _ (by omega) (by omega)) hn (fun o r r1 r2 => ifW_of (fun _ => S_pick (rd _ (by omega) (by omega)) (fun k k1 k2 => ?_)) (fun _ => h _ _ (by omega) (by omega)))
    refine ifW_of (fun _ => ?_) (fun _ => ifW_of (fun _ => ?_) (fun _ => ifW_of (fun _ => ?_) (fun _ => ?_)))
    all_goals exact S_pick (rd _ (by omega) (by omega)) (fun j j1 j2 => idxW_any j1 (by simp; omega) (fun x hx => h _ _ (by omega) (by omega)))
  unfold jnW
  refine S_pick (rd _ (by omega) (by omega)) (fun v v1 v2 => ifW_of (fun _ => ?_) (fun _ => ?_))
  · refine S_pick (rd _ (by omega) (by omega)) (fun f f1 f2 => mulW_of (by omega) (by omega) (S_pick (rd _ (by omega) (by omega)) (fun g g1 g2 => addW_of (by omega) (by omega) (S_pick (rd _ (by omega) (by omega)) (fun i i1 i2 => mulW_of (by omega) (by omega) (S_pick (rd _ (by omega) (by omega)) (fun j j1 j2 => addW_of (by omega) (by omega) (S_pick (rd _ (by omega) (by omega)) (fun l l1 l2 => ?_)))))))))
    exact fin _ _ _ _ (by omega) (by omega)
  · exact fin _ _ _ _ (by omega) (by omega)
/-! the program's other functions -/
/-! the exact law -/
end
section


/-! judging many packets -/
def allP (l : List GPacket) : Prop := l.length ≤ 50 ∧ ∀ p, p ∈ l → pv p
noncomputable def cnt (s : GRuleset) (l : List GPacket) : Nat := l.countP (fun p => jdg s p)
theorem cnt_le (s : GRuleset) (l : List GPacket) : cnt s l ≤ l.length := List.countP_le_length
theorem cnt_take (s : GRuleset) (l : List GPacket) (k : Nat) (h : k < l.length) : cnt s (l.take (k + 1)) = cnt s (l.take k) + (if jdg s l[k] = true then 1 else 0) := by
  unfold cnt
  rw [List.take_succ_eq_append_getElem h, List.countP_append, List.countP_singleton]
theorem S_packetsValid {l : List GPacket} {κ : Bool → Prop} (hl : l.length ≤ 4294967296) (h : ∀ b, (b = true ↔ allP l) → κ b) : L_impl_packetsValid l κ := by
  unfold L_impl_packetsValid
  refine ifW_of (fun hc => h _ ⟨fun e => (by cases e), fun e => (by have := e.1; simp at hc; omega)⟩) (fun hc => ?_)
  refine count_loop l.length (fun s => s) (fun k s => s = (k : Int) ∧ k ≤ l.length ∧ ∀ p, p ∈ l.take k → pv p) (fun k s h => h.1) (fun k s h => h.2.1) ?_ ⟨rfl, Nat.zero_le _, by simp⟩
  rintro k _ next ⟨rfl, hk, hp⟩ hn
  refine ifW_of (fun hc2 => ?_) (fun hc2 => ?_)
  · have hlt : k < l.length := by simpa using hc2
    refine idxW_of k rfl hlt (S_PacketValid (ifW_of (fun hx => h _ ⟨fun e => (by cases e), fun e => ?_⟩) (fun hx => addW_of (by omega) (by omega) (hn hlt _ ⟨by omega, by omega, fun p hp' => ?_⟩))))
    · rw [decide_eq_true (e.2 _ (List.getElem_mem hlt))] at hx; cases hx
    · rw [List.take_succ_eq_append_getElem hlt, List.mem_append, List.mem_singleton] at hp'
      rcases hp' with hp' | rfl
      · exact hp p hp'
      · simpa using hx
  · have hge : l.length ≤ k := by simpa using hc2
    rw [List.take_of_length_le hge] at hp
    exact h _ ⟨fun _ => ⟨by simp at hc; omega, hp⟩, fun _ => rfl⟩
theorem S_impl_JudgeAll {s : GRuleset} {l : List GPacket} {κ : Int → Prop} (hb : Bd s) (hl : l.length ≤ 4294967296) (h1 : SV s → allP l → κ (cnt s l)) (h2 : ¬ (SV s ∧ allP l) → κ (-1)) : L_impl_JudgeAll s l κ := by
  unfold L_impl_JudgeAll jnW
  refine S_impl_RulesetValid hb (fun b hbv => ifW_of (fun hx => ifW_of (fun _ => h2 (fun hh => ?_)) (fun hy => by simp at hy)) (fun hx => S_packetsValid hl (fun c hcv => ifW_of (fun hy => h2 (fun hh => ?_)) (fun hy => ?_))))
  · rw [hbv.2 hh.1] at hx; cases hx
  · rw [hcv.2 hh.2] at hy; cases hy
  have hv : SV s := hbv.1 (by simpa using hx)
  have hp : allP l := hcv.1 (by simpa using hy)
  refine count_loop l.length (fun s => s.2) (fun k t => t = ((cnt s (l.take k) : Int), (k : Int)) ∧ k ≤ l.length) (fun k s h => by rw [h.1]) (fun k s h => h.2) ?_ ⟨by simp [cnt], Nat.zero_le _⟩
  rintro k _ next ⟨rfl, hk⟩ hn
  have hcl := cnt_le s (l.take k)
  rw [List.length_take] at hcl
  refine ifW_of (fun hc => ?_) (fun hc => ?_)
  · have hlt : k < l.length := by simpa using hc
    have hn' := hn hlt _ ⟨rfl, by omega⟩
    rw [cnt_take s l k hlt] at hn'
    refine idxW_of k rfl hlt (S_judgeValid hv (ifW_of (fun hj => addW_of (by omega) (by omega) (addW_of (by omega) (by omega) ?_)) (fun hj => addW_of (by omega) (by omega) ?_)))
    · rw [if_pos hj] at hn'; exact hn'
    · rw [if_neg (by rw [hj]; decide)] at hn'; exact hn'
  · have hge : l.length ≤ k := by simpa using hc
    rw [List.take_of_length_le hge]
    exact h1 hv hp
theorem S_spec_JudgeAll {s : GRuleset} {l : List GPacket} {κ : Int → Prop} (hb : Bd s) (hl : l.length ≤ 4294967296) (h1 : SV s → allP l → κ (cnt s l)) (h2 : ¬ (SV s ∧ allP l) → κ (-1)) : L_spec_JudgeAll s l κ := by
  unfold L_spec_JudgeAll
  refine count_loop l.length (fun s => s.2) (fun k t => t.2 = (k : Int) ∧ k ≤ l.length ∧ 0 ≤ t.1 ∧ t.1 ≤ (k : Int) ∧ (∀ p, p ∈ l.take k → pv p) ∧ (SV s → t.1 = (cnt s (l.take k) : Int))) (fun k s h => h.1) (fun k s h => h.2.1) ?_ ⟨rfl, Nat.zero_le _, by simp, by simp, by simp, by simp [cnt]⟩
  rintro k ⟨n, t⟩ next ⟨rfl, hk, n0, n1, hp, hcn⟩ hn
  simp only at n0 n1 hcn
  unfold jnW
  refine ifW_of (fun hc => ?_) (fun hc => ?_)
  · have hlt : k < l.length := by simpa using hc
    refine idxW_of k rfl hlt (S_specPacketValid (ifW_of (fun hx => h2 (fun hh => ?_)) (fun hx => ?_)))
    · rw [decide_eq_true (hh.2.2 _ (List.getElem_mem hlt))] at hx; cases hx
    have hpk : pv l[k] := by simpa using hx
    have hp' : ∀ p, p ∈ l.take (k + 1) → pv p := fun p hm => by
      rw [List.take_succ_eq_append_getElem hlt, List.mem_append, List.mem_singleton] at hm
      rcases hm with hm | rfl
      · exact hp p hm
      · exact hpk
    have go : ∀ b : Bool, (SV s → b = jdg s l[k]) → ifW b (addW n 1 (fun t19 => addW (k : Int) 1 (fun t82 => next (t19, t82)))) (addW (k : Int) 1 (fun t82 => next (n, t82))) := by
      intro b hbj
      refine ifW_of (fun e => addW_of (by omega) (by omega) (addW_of (by omega) (by omega) (hn hlt _ ⟨by simp, by omega, by simp only; omega, by simp only; omega, hp', fun hv => ?_⟩))) (fun e => addW_of (by omega) (by omega) (hn hlt _ ⟨by simp, by omega, by simp only; omega, by simp only; omega, hp', fun hv => ?_⟩))
      · rw [cnt_take s l k hlt, ← hbj hv, e, if_pos rfl]
        have := hcn hv
        simp only; omega
      · rw [cnt_take s l k hlt, ← hbj hv, e, if_neg (by decide)]
        have := hcn hv
        simp only; omega
    exact idxW_of k rfl hlt (S_spec_Judge hb (fun _ _ => go _ (fun _ => rfl)) (fun hn => go false (fun hv => absurd ⟨hv, hpk⟩ hn)))
  · have hge : l.length ≤ k := by simpa using hc
    rw [List.take_of_length_le hge] at hp hcn
    refine S_spec_RulesetValid hb (fun b hbv => ifW_of (fun hx => ifW_of (fun _ => h2 (fun hh => ?_)) (fun hy => by simp at hy)) (fun hx => ifW_of (fun hy => h2 (fun hh => ?_)) (fun hy => ?_)))
    · rw [hbv.2 hh.1] at hx; cases hx
    · have := hh.2.1; simp at hy; omega
    · have hv : SV s := hbv.1 (by simpa using hx)
      rw [hcn hv]
      exact h1 hv ⟨by simp at hy; omega, hp⟩
theorem cnt_app (s : GRuleset) (l : List GPacket) (k : Nat) : cnt s (l.take k) + cnt s (l.drop k) = cnt s l := by
  unfold cnt
  rw [← List.countP_append, List.take_append_drop]
/-! draws -/
theorem S_l20Packets {b : List UInt8} {p n : Int} (hb : b.length ≤ 2000) (h0 : 0 ≤ p) (h1 : p ≤ 500000) (hn : n ≤ 4294967296) {κ : List GPacket × Int → Prop} (h : ∀ l p', p ≤ p' → p' ≤ p + 500 → l.length ≤ 60 → κ (l, p')) : L_spec_l20Packets b p n κ := by
  have rd : ∀ q, p ≤ q → q ≤ p + 600 → RdP b q := fun q q1 q2 => ⟨hb, by omega, by omega⟩
  unfold L_spec_l20Packets
  refine S_pick (rd _ (by omega) (by omega)) (fun v v1 v2 => ?_)
  refine loopW_inv (fun s => (0 ≤ s.2.2 ∧ s.2.2 ≤ 7) ∧ (p + 1 ≤ s.1 ∧ s.1 ≤ p + 1 + 30 * (7 - s.2.2)) ∧ (s.2.1.length : Int) ≤ 2 * (7 - s.2.2)) (fun s => s.2.2.toNat) ?_ ⟨⟨v1, by simp only; omega⟩, by simp only; omega, by simp; omega⟩
  rintro ⟨q, xs, i⟩ next ⟨⟨i1, i2⟩, ⟨q1, q2⟩, hx⟩ hnx
  simp only at i1 i2 q1 q2 hx
  unfold jnW
  refine ifW_of (fun hi => ?_) (fun hi => ?_)
  · have hi : 0 < i := by simpa using hi
    refine S_l20Packet hb (by omega) (by omega) (by omega) (fun k q' r1 r2 => appW_of (by simp; omega) ?_)
    have fin : ∀ (ys : List GPacket) (q'' : Int), p + 1 ≤ q'' → q'' ≤ q + 25 → (ys.length : Int) ≤ 2 * (7 - (i - 1)) → subW i 1 (fun t162 => next (q'', ys, t162)) := fun ys q'' a1 a2 a3 => subW_of (by omega) (by omega) (hnx _ ⟨⟨by simp only; omega, by simp only; omega⟩, ⟨by simp only; omega, by simp only; omega⟩, by simp only; omega⟩ (by simp only; omega))
    refine ifW_of (fun hc => S_pick (rd _ (by omega) (by omega)) (fun z z1 z2 => ifW_of (fun _ => ?_) (fun _ => fin _ _ (by omega) (by omega) (by simp; omega)))) (fun hc => ifW_of (fun e => by cases e) (fun _ => fin _ _ (by omega) (by omega) (by simp; omega)))
    refine S_pick (rd _ (by omega) (by omega)) (fun u u1 u2 => idxW_any u1 (by simp at u2 ⊢; omega) (fun x _ => S_specReverse (appW_of (by simp; omega) (fin _ _ (by omega) (by omega) (by simp; omega)))))
  · have hi0 : i = 0 := by simp at hi; omega
    refine S_odd (rd _ (by omega) (by omega)) hn (fun c r r1 r2 => ifW_of (fun _ => S_pick (rd _ (by omega) (by omega)) (fun z z1 z2 => ifW_of (fun _ => ?_) (fun _ => ?_))) (fun _ => h _ _ (by omega) (by omega) (by omega)))
    · exact S_l20Packet hb (by omega) (by omega) (by omega) (fun k q' s1 s2 => appW_of (by simp; omega) (h _ _ (by omega) (by omega) (by simp; omega)))
    · exact makeW_of 51 rfl (by omega) (by omega) (h _ _ (by omega) (by omega) (by simp))
theorem dc_bd {s : GRuleset} (hl : s.xChains.length ≤ 3) (hd : ∀ c, c ∈ s.xChains → Dc c) : Bd s := ⟨by omega, fun c hc => ⟨by have := (hd c hc).1; omega, fun r hr => by have := (hd c hc).2 r hr; omega⟩⟩
theorem pureFnJudgeAll (code : List UInt8) : L_laws_FnJudgeAll code (fun r => r = true) := by
  unfold L_laws_FnJudgeAll
  refine ifW_of (fun _ => rfl) (fun _ => ?_)
  unfold L_spec_DrawJudgeAll
  refine S_l20Open (fun b hb => S_l20RulesetP hb (by omega) (fun s p' e0 e1 hl hd => S_l20Packets hb (by omega) (by omega) (by omega) (fun l p2 f1 f2 hll => ?_)))
  have hbd := dc_bd hl hd
  by_cases hv : SV s ∧ allP l
  · have hcl := cnt_le s l
    refine S_impl_JudgeAll hbd (by omega) (fun _ _ => S_spec_JudgeAll hbd (by omega) (fun _ _ => ?_) (fun hn => absurd hv hn)) (fun hn => absurd hv hn)
    refine ifW_of (fun hx => by simp at hx) (fun _ => ifW_of (fun hx => by simp at hx; omega) (fun _ => quoW_of (by omega) (by omega) (by omega) ?_))
    unfold jnW
    refine ifW_of (fun _ => ?_) (fun hx => by simp at hx; omega)
    have hh : ((l.length : Int) / 2).toNat ≤ l.length := by omega
    have hn2 : ((l.length : Int) / 2) = ((((l.length : Int) / 2).toNat : Nat) : Int) := by omega
    generalize ((l.length : Int) / 2).toNat = k at *
    rw [hn2]
    refine ⟨by omega, by omega, by omega, ⟨by omega, by omega, by omega, ?_⟩⟩
    simp only [Int.toNat_natCast, List.take_length, show ((0 : Int)).toNat = 0 from rfl, List.drop_zero]
    have h1 : allP (l.take k) := ⟨by have := hv.2.1; simp; omega, fun p hp => hv.2.2 p (List.mem_of_mem_take hp)⟩
    have h2 : allP (l.drop k) := ⟨by have := hv.2.1; simp; omega, fun p hp => hv.2.2 p (List.mem_of_mem_drop hp)⟩
    have ha := cnt_app s l k
    refine S_impl_JudgeAll hbd (by simp; omega) (fun _ _ => S_impl_JudgeAll hbd (by simp; omega) (fun _ _ => addW_of (by omega) (by omega) ?_) (fun hn => absurd ⟨hv.1, h2⟩ hn)) (fun hn => absurd ⟨hv.1, h1⟩ hn)
    simp; omega
  · refine S_impl_JudgeAll hbd (by omega) (fun a b => absurd ⟨a, b⟩ hv) (fun _ => S_spec_JudgeAll hbd (by omega) (fun a b => absurd ⟨a, b⟩ hv) (fun _ => ?_))
    unfold jnW
    exact ifW_of (fun hx => by simp at hx) (fun _ => ifW_of (fun _ => ifW_of (fun _ => S_alive rfl) (fun hx => by simp at hx)) (fun hx => by simp at hx))

/-! one packet -/
noncomputable def ps (s : GRuleset) (l : List GFlow) (p : GPacket) (now life : Int) : List GFlow × Bool :=
  if known l p now < 0 ∧ jdg s p = false then (notExp l now, false) else ((track l p now life).1, true)
end
section
open Go.RowKit
theorem arr138 : arrB Tryd.prog 138 = some (4, 3, false, 1) := by kernel_rfl
theorem arr148 : arrB Tryd.prog 148 = some (5, 4, false, 1) := by kernel_rfl
theorem arr149 : arrB Tryd.prog 149 = some (5, 3, false, 1) := by kernel_rfl
theorem arr169 : arrB Tryd.prog 169 = some (4, 168, true, 2) := by kernel_rfl
theorem bld104 : bldB Tryd.prog 104 = some (#[(0, 1), (1, 1), (2, 1)], [(.slice none 0 0), (.int .i64 0), (.int .i64 0)]) := by kernel_rfl
theorem bld122 : bldB Tryd.prog 122 = some (#[(0, 1), (1, 1)], [(.slice none 0 0), (.int .i64 0)]) := by kernel_rfl
theorem bld130 : bldB Tryd.prog 130 = some (#[(0, 1), (1, 1), (2, 1)], [(.slice none 0 0), (.slice none 0 0), (.int .i64 0)]) := by kernel_rfl
theorem bld138 : bldA Tryd.prog 138 = some (1, [(.int .i64 0), (.int .i64 0), (.int .i64 0), (.int .i64 0)]) := by kernel_rfl
theorem bld153 : bldB Tryd.prog 153 = some (#[(0, 1), (1, 1)], [(.int .i64 0), (.int .i64 0)]) := by kernel_rfl
theorem bld157 : bldB Tryd.prog 157 = some (#[(0, 1), (1, 1)], [(.int .i64 0), (.int .i64 0)]) := by kernel_rfl
theorem bld173 : bldB Tryd.prog 173 = some (#[(0, 1), (1, 1), (2, 1), (3, 1)], [(.int .i64 0), (.int .i64 0), (.int .i64 0), (.bool false)]) := by kernel_rfl
theorem bld178 : bldB Tryd.prog 178 = some (#[(0, 1)], [(.bool false)]) := by kernel_rfl
theorem bld180 : bldB Tryd.prog 180 = some (#[(0, 1)], [(.int .i64 0)]) := by kernel_rfl
theorem bld182 : bldB Tryd.prog 182 = some (#[], []) := by kernel_rfl
theorem bld183 : bldB Tryd.prog 183 = some (#[], []) := by kernel_rfl
theorem bld25 : bldB Tryd.prog 25 = some (#[(0, 1), (1, 1)], [(.slice none 0 0), (.bool false)]) := by kernel_rfl
theorem bld40 : bldB Tryd.prog 40 = some (#[(0, 1), (1, 1), (2, 1), (3, 1)], [(.int .i64 0), (.int .i64 0), (.int .i64 0), (.int .i64 0)]) := by kernel_rfl
theorem bld83 : bldB Tryd.prog 83 = some (#[(0, 1), (1, 1)], [(.int .i64 0), (.int .i64 0)]) := by kernel_rfl
theorem el101 : elB Tryd.prog 101 = some (104, 3, 40) := by kernel_rfl
theorem el102 : elB Tryd.prog 102 = some (173, 4, 32) := by kernel_rfl
theorem el127 : elB Tryd.prog 127 = some (153, 2, 16) := by kernel_rfl
theorem el128 : elB Tryd.prog 128 = some (157, 2, 16) := by kernel_rfl
theorem el22 : elB Tryd.prog 22 = some (5, 1, 1) := by kernel_rfl
theorem el23 : elB Tryd.prog 23 = some (101, 1, 24) := by kernel_rfl
theorem el26 : elB Tryd.prog 26 = some (40, 4, 32) := by kernel_rfl
theorem el50 : elB Tryd.prog 50 = some (4, 1, 1) := by kernel_rfl
theorem el84 : elB Tryd.prog 84 = some (83, 2, 16) := by kernel_rfl
theorem el99 : elB Tryd.prog 99 = some (3, 1, 8) := by kernel_rfl
theorem fld104_0 : fldB Tryd.prog 104 0 = some (0, false, 1) := by kernel_rfl
theorem fld104_1 : fldB Tryd.prog 104 1 = some (1, false, 1) := by kernel_rfl
theorem fld104_2 : fldB Tryd.prog 104 2 = some (2, false, 1) := by kernel_rfl
theorem fld122_0 : fldB Tryd.prog 122 0 = some (0, false, 1) := by kernel_rfl
theorem fld122_1 : fldB Tryd.prog 122 1 = some (1, false, 1) := by kernel_rfl
theorem fld130_0 : fldB Tryd.prog 130 0 = some (0, false, 1) := by kernel_rfl
theorem fld130_1 : fldB Tryd.prog 130 1 = some (1, false, 1) := by kernel_rfl
theorem fld130_2 : fldB Tryd.prog 130 2 = some (2, false, 1) := by kernel_rfl
theorem fld153_0 : fldB Tryd.prog 153 0 = some (0, false, 1) := by kernel_rfl
theorem fld153_1 : fldB Tryd.prog 153 1 = some (1, false, 1) := by kernel_rfl
theorem fld168_1 : fldB Tryd.prog 168 1 = some (1, false, 1) := by kernel_rfl
theorem fld173_0 : fldB Tryd.prog 173 0 = some (0, false, 1) := by kernel_rfl
theorem fld173_1 : fldB Tryd.prog 173 1 = some (1, false, 1) := by kernel_rfl
theorem fld173_2 : fldB Tryd.prog 173 2 = some (2, false, 1) := by kernel_rfl
theorem fld173_3 : fldB Tryd.prog 173 3 = some (3, false, 1) := by kernel_rfl
theorem fld178_0 : fldB Tryd.prog 178 0 = some (0, false, 1) := by kernel_rfl
theorem fld180_0 : fldB Tryd.prog 180 0 = some (0, false, 1) := by kernel_rfl
theorem fld25_0 : fldB Tryd.prog 25 0 = some (0, false, 1) := by kernel_rfl
theorem fld25_1 : fldB Tryd.prog 25 1 = some (1, false, 1) := by kernel_rfl
theorem fld40_0 : fldB Tryd.prog 40 0 = some (0, false, 1) := by kernel_rfl
theorem fld40_1 : fldB Tryd.prog 40 1 = some (1, false, 1) := by kernel_rfl
theorem fld40_2 : fldB Tryd.prog 40 2 = some (2, false, 1) := by kernel_rfl
theorem fld40_3 : fldB Tryd.prog 40 3 = some (3, false, 1) := by kernel_rfl
theorem fld83_0 : fldB Tryd.prog 83 0 = some (0, false, 1) := by kernel_rfl
theorem fld83_1 : fldB Tryd.prog 83 1 = some (1, false, 1) := by kernel_rfl
theorem meth178_walk (v : Value) (w : World) : (method (Tryd.prog.types.size + Made.depth) 178 v "loop.example/packetfilter/impl.walk").run Tryd.prog w = .ok (147, v) w := by kernel_rfl
theorem meth180_walk (v : Value) (w : World) : (method (Tryd.prog.types.size + Made.depth) 180 v "loop.example/packetfilter/impl.walk").run Tryd.prog w = .ok (150, v) w := by kernel_rfl
theorem meth182_walk (v : Value) (w : World) : (method (Tryd.prog.types.size + Made.depth) 182 v "loop.example/packetfilter/impl.walk").run Tryd.prog w = .ok (153, v) w := by kernel_rfl
theorem meth183_walk (v : Value) (w : World) : (method (Tryd.prog.types.size + Made.depth) 183 v "loop.example/packetfilter/impl.walk").run Tryd.prog w = .ok (156, v) w := by kernel_rfl
theorem mki178 : ∀ v w, (Instr.makeInterface 178 v).run Tryd.prog w = .ok (.iface 178 v) w := fun v w => by kernel_rfl
theorem mki180 : ∀ v w, (Instr.makeInterface 180 v).run Tryd.prog w = .ok (.iface 180 v) w := fun v w => by kernel_rfl
theorem mki182 : ∀ v w, (Instr.makeInterface 182 v).run Tryd.prog w = .ok (.iface 182 v) w := fun v w => by kernel_rfl
theorem mki183 : ∀ v w, (Instr.makeInterface 183 v).run Tryd.prog w = .ok (.iface 183 v) w := fun v w => by kernel_rfl
theorem ty101 : tyB Tryd.prog 101 = some (false, 1) := by kernel_rfl
theorem ty102 : tyB Tryd.prog 102 = some (false, 1) := by kernel_rfl
theorem ty104 : tyB Tryd.prog 104 = some (true, 3) := by kernel_rfl
theorem ty127 : tyB Tryd.prog 127 = some (false, 1) := by kernel_rfl
theorem ty128 : tyB Tryd.prog 128 = some (false, 1) := by kernel_rfl
theorem ty138 : tyB Tryd.prog 138 = some (true, 4) := by kernel_rfl
theorem ty148 : tyB Tryd.prog 148 = some (true, 5) := by kernel_rfl
theorem ty173 : tyB Tryd.prog 173 = some (true, 4) := by kernel_rfl
theorem ty22 : tyB Tryd.prog 22 = some (false, 1) := by kernel_rfl
theorem ty23 : tyB Tryd.prog 23 = some (false, 1) := by kernel_rfl
theorem ty25 : tyB Tryd.prog 25 = some (true, 2) := by kernel_rfl
theorem ty3 : tyB Tryd.prog 3 = some (false, 1) := by kernel_rfl
theorem ty4 : tyB Tryd.prog 4 = some (false, 1) := by kernel_rfl
theorem ty40 : tyB Tryd.prog 40 = some (true, 4) := by kernel_rfl
theorem ty5 : tyB Tryd.prog 5 = some (false, 1) := by kernel_rfl
theorem ty83 : tyB Tryd.prog 83 = some (true, 2) := by kernel_rfl
theorem und3 : Tryd.prog.underlying 3 = some (.int .i64) := by kernel_rfl
theorem und4 : Tryd.prog.underlying 4 = some .bool := by kernel_rfl
theorem und5 : Tryd.prog.underlying 5 = some (.int .u8) := by kernel_rfl
theorem zero101 : zeroB Tryd.prog 101 = some [(.slice none 0 0)] := by kernel_rfl
theorem zero104 : zeroB Tryd.prog 104 = some [(.slice none 0 0), (.int .i64 0), (.int .i64 0)] := by kernel_rfl
theorem zero128 : zeroB Tryd.prog 128 = some [(.slice none 0 0)] := by kernel_rfl
theorem zero138 : zeroB Tryd.prog 138 = some [(.int .i64 0), (.int .i64 0), (.int .i64 0), (.int .i64 0)] := by kernel_rfl
theorem zero148 : zeroB Tryd.prog 148 = some [(.bool false), (.bool false), (.bool false), (.bool false), (.bool false)] := by kernel_rfl
theorem zero149 : zeroB Tryd.prog 149 = some [(.int .i64 0), (.int .i64 0), (.int .i64 0), (.int .i64 0), (.int .i64 0)] := by kernel_rfl
theorem zero153 : zeroB Tryd.prog 153 = some [(.int .i64 0), (.int .i64 0)] := by kernel_rfl
theorem zero157 : zeroB Tryd.prog 157 = some [(.int .i64 0), (.int .i64 0)] := by kernel_rfl
theorem zero173 : zeroB Tryd.prog 173 = some [(.int .i64 0), (.int .i64 0), (.int .i64 0), (.bool false)] := by kernel_rfl
theorem zero25 : zeroB Tryd.prog 25 = some [(.slice none 0 0), (.bool false)] := by kernel_rfl
theorem zero3 : zeroB Tryd.prog 3 = some [(.int .i64 0)] := by kernel_rfl
theorem zero4 : zeroB Tryd.prog 4 = some [(.bool false)] := by kernel_rfl
theorem zero40 : zeroB Tryd.prog 40 = some [(.int .i64 0), (.int .i64 0), (.int .i64 0), (.int .i64 0)] := by kernel_rfl
theorem zero83 : zeroB Tryd.prog 83 = some [(.int .i64 0), (.int .i64 0)] := by kernel_rfl
theorem mixed : Tryd.prog.follows .mixedOrders = true := by kernel_rfl

set_option maxRecDepth 100000 in
set_option maxHeartbeats 8000000 in
theorem w_spec_l20Open {w0 : World} {F : Nat → Prop} {v1 : Value} {code_0 : (List UInt8)} {κ : ((List UInt8) × Int) → Prop} (hF : ∀ b, F b → b < w0.heap.size ∧ ¬ feet [] b) (hv1 : Sl elU8 F w0 v1 code_0) (h : L_spec_l20Open code_0 κ) :
    Calls Tryd.prog 49 #[v1] w0 (Ret [] F w0 κ (fun (r : ((List UInt8) × Int)) (u : Nat × Value) => .pointer (some ⟨u.1, 0, none⟩)) (fun (r : ((List UInt8) × Int)) (u : Nat × Value) => [cellCh u.1 [u.2, (.int .i64 r.2)] 122, roCh elU8 u.2 r.1])) := by
  refine enterS (args := [v1]) [] hF (Given.nil _ _) Tryd.func49 rfl Tryd.ntmps49 rfl h ?_
  clear h hF
  refine c_seq ?_
  refine c_region ?_
  refine o_as st rfl rfl ?_
  refine c_nil ?_
  refine l_then ?_
  refine c_join (σ := (List UInt8)) (fun (xs68 : (List UInt8)) (a : Act) (w : World) => ∃ (v67 : Value), Has 11 [(0, v67)] a ∧ Mem (gB F [] w0) (feet []) w0 [roCh elU8 v67 xs68] w) ?_ ?_
  · intro k71
    refine c_seq ?_
    refine c_region ?_
    refine o_mv st rfl rfl ?_
    refine o_len st el22 0 rfl (reads_snap hv1) rfl rfl ?_
    refine o_gtr st rfl rfl rfl ?_
    refine c_nil ?_
    refine l_then ?_
    refine c_cond rfl ?_ ?_
    · refine c_region ?_
      refine o_mv st rfl rfl ?_
      refine nx_note 0 rfl hv1 ?_
      refine stw (o_slc (I := 0) (J := 2000) 0 rfl rfl rfl rfl rfl el22 rfl ?_); intro v3 xs4
      refine o_as st rfl rfl ?_
      refine c_nil ?_
      exact l_join xs4 (fun a w hE hm => ⟨v3, hE.sub ⟨rfl, trivial⟩, (hm.pick [0] rfl)⟩)
    · refine c_skip ?_
      exact l_join code_0 (fun a w hE hm => ⟨v1, hE.sub ⟨rfl, trivial⟩, ((hm.snote 0 rfl hv1).pick [0] rfl)⟩)
  · rintro xs68 a w ⟨v67, hE, hm⟩ h
    refine nx_of hE hm h ?_
    clear hE hm h
    refine c_seq ?_
    refine c_region ?_
    refine o_mv st rfl rfl ?_
    refine nx_ro 0 rfl ?_; rintro a72 l73 q74 rfl
    refine o_bld st (qs := [(0, (.slice a72 l73 q74))]) (cells := [(.slice a72 l73 q74), (.int .i64 0)]) (by intro ρ h; simp only [List.map_toArray, List.map_cons, List.map_nil, h (.tmp 8) _ rfl]) rfl bld122 rfl ?_
    refine stw (o_box rfl rfl [(.slice a72 l73 q74), (.int .i64 0)] rfl ?_); intro b75
    refine o_as st rfl rfl ?_
    refine c_nil ?_
    refine l_then ?_
    refine c_ret ?_
    exact l_end1 Tryd.results49 (xs68, 0) (b75, (.slice a72 l73 q74)) (rv_t rfl) (fun w m => NewCh.ofB m [0, 1] rfl)

set_option maxRecDepth 100000 in
set_option maxHeartbeats 8000000 in
theorem w_spec_l20Rd_pick {w0 : World} {F : Nat → Prop} {b1 : Nat} {v2 : Value} {r_0_b : (List UInt8)} {r_0_p : Int} {n_1 : Int} {κ : (Int × Int) → Prop} (hF : ∀ b, F b → b < w0.heap.size ∧ ¬ feet [cellCh b1 [v2, (.int .i64 r_0_p)] 122] b) (hg : Given [cellCh b1 [v2, (.int .i64 r_0_p)] 122] F w0) (hv2 : Sl elU8 F w0 v2 r_0_b) (h : L_spec_l20Rd_pick r_0_b r_0_p n_1 κ) :
    Calls Tryd.prog 68 #[(.pointer (some ⟨b1, 0, none⟩)), (.int .i64 n_1)] w0 (Ret [cellCh b1 [v2, (.int .i64 r_0_p)] 122] F w0 κ (fun (r : (Int × Int)) (u : Unit) => (.int .i64 r.1)) (fun (r : (Int × Int)) (u : Unit) => [cellCh b1 [v2, (.int .i64 r.2)] 122])) := by
  refine enterS (args := [(.pointer (some ⟨b1, 0, none⟩)), (.int .i64 n_1)]) [cellCh b1 [v2, (.int .i64 r_0_p)] 122] hF hg Tryd.func68 rfl Tryd.ntmps68 rfl h ?_
  clear h hF hg
  refine c_seq ?_
  refine c_region ?_
  refine o_as st rfl rfl ?_
  refine c_nil ?_
  refine l_then ?_
  refine c_seq ?_
  refine c_region ?_
  refine o_mv st rfl rfl ?_
  refine o_mv st rfl rfl ?_
  refine o_nilc st rfl rfl ?_
  refine o_fad st rfl rfl fld122_1 rfl ?_
  refine o_ldc st (v := (.int .i64 r_0_p)) 0 rfl rfl rfl ty3 rfl ?_
  refine o_add st rfl rfl rfl ?_; intro t5
  refine o_nilc st rfl rfl ?_
  refine o_fad st rfl rfl fld122_1 rfl ?_
  refine stw (o_stc (cs' := [v2, (.int .i64 t5)]) 0 rfl rfl rfl ty3 rfl rfl rfl rfl ?_)
  refine c_nil ?_
  refine l_then ?_
  refine c_seq ?_
  refine c_join (σ := Bool) (fun (t66 : Bool) (a : Act) (w : World) => Has 99 [(0, (.pointer (some ⟨b1, 0, none⟩))), (1, (.int .i64 n_1)), (24, (.bool t66))] a ∧ Mem (gB F [cellCh b1 [v2, (.int .i64 r_0_p)] 122] w0) (feet [cellCh b1 [v2, (.int .i64 r_0_p)] 122]) w0 [cellCh b1 [v2, (.int .i64 t5)] 122, snapCh w0 F] w) ?_ ?_
  · intro k67
    refine c_region ?_
    refine o_mv st rfl rfl ?_
    refine o_lss st rfl rfl rfl ?_
    refine o_mv st rfl rfl ?_
    refine st_sp (dj := 17) rfl ?_ ?_
    · refine st_s rfl rfl rfl rfl ?_
      refine st_s rfl rfl rfl rfl ?_
      refine st_s rfl rfl rfl rfl ?_
      refine st_s rfl rfl rfl rfl ?_
      refine st_s rfl rfl rfl rfl ?_
      refine st_s rfl rfl rfl rfl ?_
      refine o_pickT st rfl rfl rfl ?_
      refine c_nil ?_
      exact l_join true (fun a w hE hm => ⟨hE.sub ⟨rfl, rfl, rfl, trivial⟩, (hm.pick [0, 1] rfl)⟩)
    · refine o_mv (st_g rfl rfl) rfl rfl ?_
      refine o_nilc (st_g rfl rfl) rfl rfl ?_
      refine o_fad (st_g rfl rfl) rfl rfl fld122_0 rfl ?_
      refine o_ldc (st_g rfl rfl) (v := v2) 0 rfl rfl rfl ty22 rfl ?_
      refine o_len (st_g rfl rfl) el22 1 rfl (reads_snap hv2) rfl rfl ?_
      refine o_eql (st_g rfl rfl) und3 rfl rfl rfl ?_
      refine o_pickF st rfl rfl rfl ?_
      refine c_nil ?_
      exact l_join (decide ((r_0_b.length : Int) = 0)) (fun a w hE hm => ⟨hE.sub ⟨rfl, rfl, rfl, trivial⟩, (hm.pick [0, 1] rfl)⟩)
  · rintro t66 a w ⟨hE, hm⟩ h
    refine nx_of hE hm h ?_
    clear hE hm h
    refine c_cond rfl ?_ ?_
    · refine c_seq ?_
      refine c_region ?_
      refine o_as st rfl rfl ?_
      refine c_nil ?_
      refine l_then ?_
      refine c_ret ?_
      refine l_ret ?_
      exact l_end1 Tryd.results68 (0, t5) () (rv_t rfl) (fun w m => NewCh.ofB m [0] rfl)
    · refine c_skip ?_
      refine l_then ?_
      refine c_seq ?_
      refine c_region ?_
      refine o_mv st rfl rfl ?_
      refine o_nilc st rfl rfl ?_
      refine o_fad st rfl rfl fld122_1 rfl ?_
      refine o_ldc st (v := (.int .i64 t5)) 0 rfl rfl rfl ty3 rfl ?_
      refine o_sub st rfl rfl rfl ?_; intro t68
      refine o_as st rfl rfl ?_
      refine c_nil ?_
      refine l_then ?_
      refine c_seq ?_
      refine c_seq ?_
      refine c_region ?_
      refine o_mv st rfl rfl ?_
      refine o_mv st rfl rfl ?_
      refine o_nilc st rfl rfl ?_
      refine o_fad st rfl rfl fld122_0 rfl ?_
      refine o_ldc st (v := v2) 0 rfl rfl rfl ty22 rfl ?_
      refine o_len st el22 1 rfl (reads_snap hv2) rfl rfl ?_
      refine o_lss st rfl rfl rfl ?_
      refine c_nil ?_
      refine l_then ?_
      refine c_cond rfl ?_ ?_
      · refine c_seq ?_
        refine c_region ?_
        refine o_mv st rfl rfl ?_
        refine o_nilc st rfl rfl ?_
        refine o_fad st rfl rfl fld122_0 rfl ?_
        refine o_ldc st (v := v2) 0 rfl rfl rfl ty22 rfl ?_
        refine o_mv st rfl rfl ?_
        refine o_idx st 1 rfl (reads_snap hv2) rfl rfl rfl el22 ?_; intro e69 h70
        refine o_lds st (enc := encU8) (u := (.int .u8 (e69.toNat : Int))) 1 rfl (reads_snap hv2) flelU8 rfl h70 rfl rfl ty5 rfl ?_
        refine o_cnvI st und5 und3 rfl rfl ?_
        refine o_mv st rfl rfl ?_
        refine o_rem st rfl rfl rfl ?_; intro t71
        refine o_as st rfl rfl ?_
        refine c_nil ?_
        refine l_then ?_
        refine c_ret ?_
        refine l_ret ?_
        exact l_end1 Tryd.results68 (t71, t5) () (rv_t rfl) (fun w m => NewCh.ofB m [0] rfl)
      · refine c_skip ?_
        refine l_then ?_
        refine c_seq ?_
        refine c_draw mixed 46 rfl [cellCh b1 [v2, (.int .i64 t5)] 122, snapCh w0 F] ?_
        refine o_mv (dt 0 (fun _ m => m)) rfl rfl ?_
        refine o_nilc (dt 1 (fun _ m => m)) rfl rfl ?_
        refine o_fad (dt 2 (fun _ m => m)) rfl rfl fld122_0 rfl ?_
        refine o_ldc (dt 3 (fun _ m => m)) (v := v2) 0 rfl rfl rfl ty22 rfl ?_
        refine o_mv (dt 4 (fun _ m => m)) rfl rfl ?_
        refine o_mv (dt 5 (fun _ m => m)) rfl rfl ?_
        refine o_nilc (dt 6 (fun _ m => m)) rfl rfl ?_
        refine o_fad (dt 7 (fun _ m => m)) rfl rfl fld122_0 rfl ?_
        refine o_ldc (dt 8 (fun _ m => m)) (v := v2) 0 rfl rfl rfl ty22 rfl ?_
        refine o_len (dt 9 (fun _ m => m)) el22 1 rfl (reads_snap hv2) rfl rfl ?_
        refine o_rem (dt 10 (fun _ m => m)) rfl rfl rfl ?_; intro t72
        refine o_idx (dt 11 (fun _ m => m)) 1 rfl (reads_snap hv2) rfl rfl rfl el22 ?_; intro e73 h74
        refine o_lds (dt 12 (fun _ m => m)) (enc := encU8) (u := (.int .u8 (e73.toNat : Int))) 1 rfl (reads_snap hv2) flelU8 rfl h74 rfl rfl ty5 rfl ?_
        refine o_cnvI (dt 13 (fun _ m => m)) und5 und3 rfl rfl ?_
        refine o_mul (dt 14 (fun _ m => m)) rfl rfl rfl ?_; intro t75
        refine o_mv (dt 15 (fun _ m => m)) rfl rfl ?_
        refine o_nilc (dt 16 (fun _ m => m)) rfl rfl ?_
        refine o_fad (dt 17 (fun _ m => m)) rfl rfl fld122_0 rfl ?_
        refine o_ldc (dt 18 (fun _ m => m)) (v := v2) 0 rfl rfl rfl ty22 rfl ?_
        refine o_mv (dt 19 (fun _ m => m)) rfl rfl ?_
        refine o_mul (dt 20 (fun _ m => m)) rfl rfl rfl ?_; intro t76
        refine o_add (dt 21 (fun _ m => m)) rfl rfl rfl ?_; intro t77
        refine o_mv (dt 22 (fun _ m => m)) rfl rfl ?_
        refine o_nilc (dt 23 (fun _ m => m)) rfl rfl ?_
        refine o_fad (dt 24 (fun _ m => m)) rfl rfl fld122_0 rfl ?_
        refine o_ldc (dt 25 (fun _ m => m)) (v := v2) 0 rfl rfl rfl ty22 rfl ?_
        refine o_len (dt 26 (fun _ m => m)) el22 1 rfl (reads_snap hv2) rfl rfl ?_
        refine o_rem (dt 27 (fun _ m => m)) rfl rfl rfl ?_; intro t78
        refine o_idx (dt 28 (fun _ m => m)) 1 rfl (reads_snap hv2) rfl rfl rfl el22 ?_; intro e79 h80
        refine o_lds (dt 29 (fun _ m => m)) (enc := encU8) (u := (.int .u8 (e79.toNat : Int))) 1 rfl (reads_snap hv2) flelU8 rfl h80 rfl rfl ty5 rfl ?_
        refine o_cnvI (dt 30 (fun _ m => m)) und5 und3 rfl rfl ?_
        refine o_mul (dt 31 (fun _ m => m)) rfl rfl rfl ?_; intro t81
        refine o_add (dt 32 (fun _ m => m)) rfl rfl rfl ?_; intro t82
        refine o_mv (dt 33 (fun _ m => m)) rfl rfl ?_
        refine o_mul (dt 34 (fun _ m => m)) rfl rfl rfl ?_; intro t83
        refine o_add (dt 35 (fun _ m => m)) rfl rfl rfl ?_; intro t84
        refine o_mv (dt 36 (fun _ m => m)) rfl rfl ?_
        refine o_mv (dt 37 (fun _ m => m)) rfl rfl ?_
        refine o_nilc (dt 38 (fun _ m => m)) rfl rfl ?_
        refine o_fad (dt 39 (fun _ m => m)) rfl rfl fld122_0 rfl ?_
        refine o_ldc (dt 40 (fun _ m => m)) (v := v2) 0 rfl rfl rfl ty22 rfl ?_
        refine o_len (dt 41 (fun _ m => m)) el22 1 rfl (reads_snap hv2) rfl rfl ?_
        refine o_quo (dt 42 (fun _ m => m)) rfl rfl rfl ?_; intro t85
        refine o_mul (dt 43 (fun _ m => m)) rfl rfl rfl ?_; intro t86
        refine o_add (dt 44 (fun _ m => m)) rfl rfl rfl ?_; intro t87
        refine o_as (dt 45 (fun _ m => m)) rfl rfl ?_
        refine d_done (by kernel_rfl) ?_
        refine l_then ?_
        refine c_seq ?_
        refine c_region ?_
        refine o_mv st rfl rfl ?_
        refine o_mv st rfl rfl ?_
        refine o_quo st rfl rfl rfl ?_; intro t88
        refine o_xor st rfl rfl rfl ?_; intro t89
        refine o_as st rfl rfl ?_
        refine c_nil ?_
        refine l_then ?_
        refine c_seq ?_
        refine c_region ?_
        refine o_mv st rfl rfl ?_
        refine o_mv st rfl rfl ?_
        refine o_rem st rfl rfl rfl ?_; intro t90
        refine o_as st rfl rfl ?_
        refine c_nil ?_
        refine l_then ?_
        refine c_ret ?_
        exact l_end1 Tryd.results68 (t90, t5) () (rv_t rfl) (fun w m => NewCh.ofB m [0] rfl)

set_option maxRecDepth 100000 in
set_option maxHeartbeats 8000000 in
theorem w_spec_l20Rd_odd {w0 : World} {F : Nat → Prop} {b1 : Nat} {v2 : Value} {r_0_b : (List UInt8)} {r_0_p : Int} {n_1 : Int} {κ : (Bool × Int) → Prop} (hF : ∀ b, F b → b < w0.heap.size ∧ ¬ feet [cellCh b1 [v2, (.int .i64 r_0_p)] 122] b) (hg : Given [cellCh b1 [v2, (.int .i64 r_0_p)] 122] F w0) (hv2 : Sl elU8 F w0 v2 r_0_b) (h : L_spec_l20Rd_odd r_0_b r_0_p n_1 κ) :
    Calls Tryd.prog 85 #[(.pointer (some ⟨b1, 0, none⟩)), (.int .i64 n_1)] w0 (Ret [cellCh b1 [v2, (.int .i64 r_0_p)] 122] F w0 κ (fun (r : (Bool × Int)) (u : Unit) => (.bool r.1)) (fun (r : (Bool × Int)) (u : Unit) => [cellCh b1 [v2, (.int .i64 r.2)] 122])) := by
  refine enterS (args := [(.pointer (some ⟨b1, 0, none⟩)), (.int .i64 n_1)]) [cellCh b1 [v2, (.int .i64 r_0_p)] 122] hF hg Tryd.func85 rfl Tryd.ntmps85 rfl h ?_
  clear h hF hg
  refine c_seq ?_
  refine c_region ?_
  refine o_as st rfl rfl ?_
  refine c_nil ?_
  refine l_then ?_
  refine c_join (σ := (Int × Bool)) (fun ((t68, t69) : (Int × Bool)) (a : Act) (w : World) => Has 15 [(4, (.bool t69))] a ∧ Mem (gB F [cellCh b1 [v2, (.int .i64 r_0_p)] 122] w0) (feet [cellCh b1 [v2, (.int .i64 r_0_p)] 122]) w0 [cellCh b1 [v2, (.int .i64 t68)] 122, snapCh w0 F] w) ?_ ?_
  · intro k70
    refine c_region ?_
    refine o_mv st rfl rfl ?_
    refine o_gtr st rfl rfl rfl ?_
    refine o_mv st rfl rfl ?_
    refine st_sp (dj := 7) rfl ?_ ?_
    · refine o_mv (st_g rfl rfl) rfl rfl ?_
      refine o_mv (st_g rfl rfl) rfl rfl ?_
      refine st_gw rfl rfl (o_call (vs := [(.pointer (some ⟨b1, 0, none⟩)), (.int .i64 n_1)]) (M0 := [cellCh b1 [v2, (.int .i64 r_0_p)] 122]) Tryd.call68 rfl rfl (by intro w m h; exact (w_spec_l20Rd_pick (F := allB [cellCh b1 [v2, (.int .i64 r_0_p)] 122] w) (r_0_b := r_0_b) (r_0_p := r_0_p) (n_1 := n_1) allB_ok m.given (m.rdM 0 rfl (reads_snap hv2)) h).mono (fun _ _ k => ret_free (fun r u => (fr_cons free_cell fr_nil)) k)) ?_); rintro ⟨r5, r6⟩ _
      refine o_mv (st_g rfl rfl) rfl rfl ?_
      refine o_sub (st_g rfl rfl) rfl rfl rfl ?_; intro t7
      refine o_eql (st_g rfl rfl) und3 rfl rfl rfl ?_
      refine o_pickT st rfl rfl rfl ?_
      refine o_as st rfl rfl ?_
      refine c_nil ?_
      exact l_join (r6, (decide (r5 = t7))) (fun a w hE hm => ⟨hE.sub ⟨rfl, trivial⟩, (hm.pick [0, 1] rfl)⟩)
    · refine st_s rfl rfl rfl rfl ?_
      refine st_s rfl rfl rfl rfl ?_
      refine st_s rfl rfl rfl rfl ?_
      refine st_s rfl rfl rfl rfl ?_
      refine st_s rfl rfl rfl rfl ?_
      refine st_s rfl rfl rfl rfl ?_
      refine o_pickF st rfl rfl rfl ?_
      refine o_as st rfl rfl ?_
      refine c_nil ?_
      exact l_join (r_0_p, false) (fun a w hE hm => ⟨hE.sub ⟨rfl, trivial⟩, (hm.pick [0, 1] rfl)⟩)
  · rintro ⟨t68, t69⟩ a w ⟨hE, hm⟩ h
    refine nx_of hE hm h ?_
    clear hE hm h
    refine c_ret ?_
    exact l_end1 Tryd.results85 (t69, t68) () (rv_t rfl) (fun w m => NewCh.ofB m [0] rfl)

set_option maxRecDepth 100000 in
set_option maxHeartbeats 8000000 in
theorem w_spec_FieldTop {w0 : World} {F : Nat → Prop} {n_0 : Int} {κ : Int → Prop} (hF : ∀ b, F b → b < w0.heap.size ∧ ¬ feet [] b) (h : L_spec_FieldTop n_0 κ) :
    Calls Tryd.prog 113 #[(.int .i64 n_0)] w0 (Ret [] F w0 κ (fun (r : Int) (u : Unit) => (.int .i64 r)) (fun (r : Int) (u : Unit) => [])) := by
  refine enter0 (args := [(.int .i64 n_0)]) [] hF (Given.nil _ _) Tryd.func113 rfl Tryd.ntmps113 rfl h ?_
  clear h hF
  refine c_seq ?_
  refine c_region ?_
  refine o_as st rfl rfl ?_
  refine c_nil ?_
  refine l_then ?_
  refine c_seq ?_
  refine c_seq ?_
  refine c_region ?_
  refine o_mv st rfl rfl ?_
  refine c_nil ?_
  refine l_then ?_
  refine c_block ?_
  refine c_join (σ := Bool) (fun (t61 : Bool) (a : Act) (w : World) => Has 11 [(3, (.int .i64 n_0)), (4, (.bool t61))] a ∧ Mem (gB F [] w0) (feet []) w0 [] w) ?_ ?_
  · intro k62
    refine c_seq ?_
    refine c_region ?_
    refine o_eql st und3 rfl rfl rfl ?_
    refine o_as st rfl rfl ?_
    refine c_nil ?_
    refine l_then ?_
    refine c_cond rfl ?_ ?_
    · refine c_skip ?_
      exact l_join (decide (n_0 = 0)) (fun a w hE hm => ⟨hE.sub ⟨rfl, rfl, trivial⟩, (hm.pick [] rfl)⟩)
    · refine c_region ?_
      refine o_eql st und3 rfl rfl rfl ?_
      refine o_as st rfl rfl ?_
      refine c_nil ?_
      exact l_join (decide (n_0 = 1)) (fun a w hE hm => ⟨hE.sub ⟨rfl, rfl, trivial⟩, (hm.pick [] rfl)⟩)
  · rintro t61 a w ⟨hE, hm⟩ h
    refine nx_of hE hm h ?_
    clear hE hm h
    refine c_cond rfl ?_ ?_
    · refine c_seq ?_
      refine c_region ?_
      refine o_as st rfl rfl ?_
      refine c_nil ?_
      refine l_then ?_
      refine c_ret ?_
      refine b_ret ?_
      refine l_ret ?_
      exact l_end1 Tryd.results113 65535 () (rv_t rfl) (fun _ _ => NewCh.nil _ _ _ _)
    · refine c_seq ?_
      refine c_region ?_
      refine o_eql st und3 rfl rfl rfl ?_
      refine o_as st rfl rfl ?_
      refine c_nil ?_
      refine l_then ?_
      refine c_cond rfl ?_ ?_
      · refine c_seq ?_
        refine c_region ?_
        refine o_as st rfl rfl ?_
        refine c_nil ?_
        refine l_then ?_
        refine c_ret ?_
        refine b_ret ?_
        refine l_ret ?_
        exact l_end1 Tryd.results113 255 () (rv_t rfl) (fun _ _ => NewCh.nil _ _ _ _)
      · refine c_seq ?_
        refine c_region ?_
        refine o_eql st und3 rfl rfl rfl ?_
        refine o_as st rfl rfl ?_
        refine c_nil ?_
        refine l_then ?_
        refine c_cond rfl ?_ ?_
        · refine c_seq ?_
          refine c_region ?_
          refine o_as st rfl rfl ?_
          refine c_nil ?_
          refine l_then ?_
          refine c_ret ?_
          refine b_ret ?_
          refine l_ret ?_
          exact l_end1 Tryd.results113 7 () (rv_t rfl) (fun _ _ => NewCh.nil _ _ _ _)
        · refine c_skip ?_
          refine b_norm ?_
          refine l_then ?_
          refine c_seq ?_
          refine c_region ?_
          refine o_as st rfl rfl ?_
          refine c_nil ?_
          refine l_then ?_
          refine c_ret ?_
          exact l_end1 Tryd.results113 (-1) () (rv_t rfl) (fun _ _ => NewCh.nil _ _ _ _)

set_option maxRecDepth 100000 in
set_option maxHeartbeats 8000000 in
theorem w_spec_l20Span {w0 : World} {F : Nat → Prop} {b1 : Nat} {v2 : Value} {r_0_b : (List UInt8)} {r_0_p : Int} {top_1 : Int} {n_2 : Int} {κ : (GSpan × Int) → Prop} (hF : ∀ b, F b → b < w0.heap.size ∧ ¬ feet [cellCh b1 [v2, (.int .i64 r_0_p)] 122] b) (hg : Given [cellCh b1 [v2, (.int .i64 r_0_p)] 122] F w0) (hv2 : Sl elU8 F w0 v2 r_0_b) (h : L_spec_l20Span r_0_b r_0_p top_1 n_2 κ) :
    Calls Tryd.prog 128 #[(.pointer (some ⟨b1, 0, none⟩)), (.int .i64 top_1), (.int .i64 n_2)] w0 (Ret [cellCh b1 [v2, (.int .i64 r_0_p)] 122] F w0 κ (fun (r : (GSpan × Int)) (u : Unit) => (.agg #[(.int .i64 r.1.xLo), (.int .i64 r.1.xHi)])) (fun (r : (GSpan × Int)) (u : Unit) => [cellCh b1 [v2, (.int .i64 r.2)] 122])) := by
  refine enterS (args := [(.pointer (some ⟨b1, 0, none⟩)), (.int .i64 top_1), (.int .i64 n_2)]) [cellCh b1 [v2, (.int .i64 r_0_p)] 122] hF hg Tryd.func128 rfl Tryd.ntmps128 rfl h ?_
  clear h hF hg
  refine c_seq ?_
  refine c_region ?_
  refine stw (o_alloc rfl [(.int .i64 0), (.int .i64 0)] zero83 ?_); intro b5
  refine c_nil ?_
  refine l_then ?_
  refine c_seq ?_
  refine c_region ?_
  refine o_mv st rfl rfl ?_
  refine o_mv st rfl rfl ?_
  refine o_add st rfl rfl rfl ?_; intro t7
  refine o_min st rfl rfl rfl ?_
  refine pk [1, 0, 2] rfl ?_
  refine stw (o_call (vs := [(.pointer (some ⟨b1, 0, none⟩)), (.int .i64 (min 256 t7))]) (M0 := [cellCh b1 [v2, (.int .i64 r_0_p)] 122]) Tryd.call68 rfl rfl (by intro w m h; exact (w_spec_l20Rd_pick (F := allB [cellCh b1 [v2, (.int .i64 r_0_p)] 122] w) (r_0_b := r_0_b) (r_0_p := r_0_p) (n_1 := (min 256 t7)) allB_ok m.given (m.rdM 1 rfl (reads_snap hv2)) h).mono (fun _ _ k => ret_free (fun r u => (fr_cons free_cell fr_nil)) k)) ?_); rintro ⟨r8, r9⟩ _
  refine o_bld st (qs := [(0, (.int .i64 r8))]) (cells := [(.int .i64 r8), (.int .i64 0)]) (by intro ρ h; simp only [List.map_toArray, List.map_cons, List.map_nil, h (.tmp 12) _ rfl]) rfl bld83 rfl ?_
  refine stw (o_alloc rfl [(.int .i64 0), (.int .i64 0)] zero83 ?_); intro b10
  refine stw (o_stc (cs' := [(.int .i64 r8), (.int .i64 0)]) 0 rfl rfl rfl ty83 rfl rfl rfl rfl ?_)
  refine c_nil ?_
  refine l_then ?_
  refine c_join (σ := (Int × Int)) (fun ((t144, t145) : (Int × Int)) (a : Act) (w : World) => Has 68 [(0, (.pointer (some ⟨b1, 0, none⟩))), (1, (.int .i64 top_1)), (2, (.int .i64 n_2)), (6, (.pointer (some ⟨b5, 0, none⟩))), (7, (.pointer (some ⟨b10, 0, none⟩)))] a ∧ Mem (gB F [cellCh b1 [v2, (.int .i64 r_0_p)] 122] w0) (feet [cellCh b1 [v2, (.int .i64 r_0_p)] 122]) w0 [cellCh b1 [v2, (.int .i64 t144)] 122, cellCh b10 [(.int .i64 t145), (.int .i64 0)] 83, cellCh b5 [(.int .i64 0), (.int .i64 0)] 83, snapCh w0 F] w) ?_ ?_
  · intro k146
    refine c_join (σ := (Int × Bool)) (fun ((t74, t75) : (Int × Bool)) (a : Act) (w : World) => Has 68 [(0, (.pointer (some ⟨b1, 0, none⟩))), (1, (.int .i64 top_1)), (2, (.int .i64 n_2)), (6, (.pointer (some ⟨b5, 0, none⟩))), (7, (.pointer (some ⟨b10, 0, none⟩))), (20, (.bool t75))] a ∧ Mem (gB F [cellCh b1 [v2, (.int .i64 r_0_p)] 122] w0) (feet [cellCh b1 [v2, (.int .i64 r_0_p)] 122]) w0 [cellCh b1 [v2, (.int .i64 t74)] 122, cellCh b10 [(.int .i64 r8), (.int .i64 0)] 83, cellCh b5 [(.int .i64 0), (.int .i64 0)] 83, snapCh w0 F] w) ?_ ?_
    · intro k76
      refine c_region ?_
      refine o_mv st rfl rfl ?_
      refine o_gtr st rfl rfl rfl ?_
      refine o_mv st rfl rfl ?_
      refine st_sp (dj := 16) rfl ?_ ?_
      · refine o_mv (st_g rfl rfl) rfl rfl ?_
        refine pk [1, 0, 2, 3] rfl ?_
        refine st_gw rfl rfl (o_call (vs := [(.pointer (some ⟨b1, 0, none⟩)), (.int .i64 2)]) (M0 := [cellCh b1 [v2, (.int .i64 r9)] 122]) Tryd.call68 rfl rfl (by intro w m h; exact (w_spec_l20Rd_pick (F := allB [cellCh b1 [v2, (.int .i64 r9)] 122] w) (r_0_b := r_0_b) (r_0_p := r9) (n_1 := 2) allB_ok m.given (m.rdM 2 rfl (reads_snap hv2)) h).mono (fun _ _ k => ret_free (fun r u => (fr_cons free_cell fr_nil)) k)) ?_); rintro ⟨r12, r13⟩ _
        refine o_eql (st_g rfl rfl) und3 rfl rfl rfl ?_
        refine o_pickT st rfl rfl rfl ?_
        refine c_nil ?_
        exact l_join (r13, (decide (r12 = 0))) (fun a w hE hm => ⟨hE.sub ⟨rfl, rfl, rfl, rfl, rfl, rfl, trivial⟩, (hm.pick [0, 1, 2, 3] rfl)⟩)
      · refine st_s rfl rfl rfl rfl ?_
        refine st_s rfl rfl rfl rfl ?_
        refine st_s rfl rfl rfl rfl ?_
        refine o_pickF st rfl rfl rfl ?_
        refine c_nil ?_
        exact l_join (r9, false) (fun a w hE hm => ⟨hE.sub ⟨rfl, rfl, rfl, rfl, rfl, rfl, trivial⟩, (hm.pick [1, 0, 2, 3] rfl)⟩)
    · rintro ⟨t74, t75⟩ a w ⟨hE, hm⟩ h
      refine nx_of hE hm h ?_
      clear hE hm h
      refine c_cond rfl ?_ ?_
      · refine c_join1 (σ := (Int × Int)) (fun ((t77, t78) : (Int × Int)) (a : Act) (w : World) => Has 68 [(0, (.pointer (some ⟨b1, 0, none⟩))), (1, (.int .i64 top_1)), (2, (.int .i64 n_2)), (6, (.pointer (some ⟨b5, 0, none⟩))), (7, (.pointer (some ⟨b10, 0, none⟩)))] a ∧ Mem (gB F [cellCh b1 [v2, (.int .i64 r_0_p)] 122] w0) (feet [cellCh b1 [v2, (.int .i64 r_0_p)] 122]) w0 [cellCh b1 [v2, (.int .i64 t77)] 122, cellCh b10 [(.int .i64 t78), (.int .i64 0)] 83, cellCh b5 [(.int .i64 0), (.int .i64 0)] 83, snapCh w0 F] w) ?_ ?_
        · intro k79
          refine c_drawQ mixed 10 rfl [cellCh b5 [(.int .i64 0), (.int .i64 0)] 83, snapCh w0 F] ?_
          intro Qd hP hQ
          have H51 : ∀ (r80 : Int) (r81 : Int), Nx 68 (gB F [cellCh b1 [v2, (.int .i64 r_0_p)] 122] w0) (feet [cellCh b1 [v2, (.int .i64 r_0_p)] 122]) w0 (wpAnyH Tryd.prog .any (opsAt Tryd.f128 [1, 1, 0, 1, 0]) Qd (Mem (gB F [cellCh b1 [v2, (.int .i64 r_0_p)] 122] w0) (feet [cellCh b1 [v2, (.int .i64 r_0_p)] 122]) w0 [cellCh b5 [(.int .i64 0), (.int .i64 0)] 83, snapCh w0 F]) 0 #[true, true, true, true, true, true, true, true, true, true]) [(0, (.pointer (some ⟨b1, 0, none⟩))), (1, (.int .i64 top_1)), (2, (.int .i64 n_2)), (6, (.pointer (some ⟨b5, 0, none⟩))), (7, (.pointer (some ⟨b10, 0, none⟩)))] [cellCh b1 [v2, (.int .i64 r81)] 122, cellCh b10 [(.int .i64 (min top_1 (w64 ((w64 (r8 * 256)) + r80)))), (.int .i64 0)] 83, cellCh b5 [(.int .i64 0), (.int .i64 0)] 83, snapCh w0 F] (k79 (r81, (min top_1 (w64 ((w64 (r8 * 256)) + r80))))) := by
            intro r80 r81
            refine d_done (by kernel_rfl) ?_
            exact fun a w hE hm hφ => hQ (r81, (min top_1 (w64 ((w64 (r8 * 256)) + r80)))) a w hφ ((fun a w hE hm => ⟨hE.sub ⟨rfl, rfl, rfl, rfl, rfl, trivial⟩, (hm.pick [0, 1, 2, 3] rfl)⟩) a w hE hm)
          have H52 : ∀ (r80 : Int) (r81 : Int), Nx 68 (gB F [cellCh b1 [v2, (.int .i64 r_0_p)] 122] w0) (feet [cellCh b1 [v2, (.int .i64 r_0_p)] 122]) w0 (wpAnyH Tryd.prog .any (opsAt Tryd.f128 [1, 1, 0, 1, 0]) Qd (Mem (gB F [cellCh b1 [v2, (.int .i64 r_0_p)] 122] w0) (feet [cellCh b1 [v2, (.int .i64 r_0_p)] 122]) w0 [cellCh b5 [(.int .i64 0), (.int .i64 0)] 83, snapCh w0 F]) 4 #[true, true, true, true, true, true, false, false, false, false]) [(0, (.pointer (some ⟨b1, 0, none⟩))), (1, (.int .i64 top_1)), (2, (.int .i64 n_2)), (6, (.pointer (some ⟨b5, 0, none⟩))), (7, (.pointer (some ⟨b10, 0, none⟩))), (21, (.int .i64 top_1)), (24, (.int .i64 (w64 (r8 * 256)))), (26, (.int .i64 r80))] [cellCh b1 [v2, (.int .i64 r81)] 122, cellCh b10 [(.int .i64 r8), (.int .i64 0)] 83, cellCh b5 [(.int .i64 0), (.int .i64 0)] 83, snapCh w0 F] (k79 (r81, (min top_1 (w64 ((w64 (r8 * 256)) + r80))))) := by
            intro r80 r81
            refine o_addw (dt 6 (fun w m => m.pick [2, 3] rfl)) rfl rfl rfl ?_
            refine o_min (dt 7 (fun w m => m.pick [2, 3] rfl)) rfl rfl rfl ?_
            refine o_fad (dt 8 (fun w m => m.pick [2, 3] rfl)) rfl rfl fld83_0 rfl ?_
            refine d_one (i := 9) rfl (by kernel_rfl) (o_stc (cs' := [(.int .i64 (min top_1 (w64 ((w64 (r8 * 256)) + r80)))), (.int .i64 0)]) 1 rfl rfl rfl ty3 rfl rfl rfl rfl ?_)
            refine d_and (fun w m => m.pick [2, 3] rfl) ?_
            refine pk [0, 1, 2, 3] rfl ?_
            refine re (E' := [(0, (.pointer (some ⟨b1, 0, none⟩))), (1, (.int .i64 top_1)), (2, (.int .i64 n_2)), (6, (.pointer (some ⟨b5, 0, none⟩))), (7, (.pointer (some ⟨b10, 0, none⟩)))]) ⟨rfl, rfl, rfl, rfl, rfl, trivial⟩ ?_
            exact H51 r80 r81
          have H53 : ∀ (_ : Unit), Nx 68 (gB F [cellCh b1 [v2, (.int .i64 r_0_p)] 122] w0) (feet [cellCh b1 [v2, (.int .i64 r_0_p)] 122]) w0 (wpAnyH Tryd.prog .any (opsAt Tryd.f128 [1, 1, 0, 1, 0]) Qd (Mem (gB F [cellCh b1 [v2, (.int .i64 r_0_p)] 122] w0) (feet [cellCh b1 [v2, (.int .i64 r_0_p)] 122]) w0 [cellCh b5 [(.int .i64 0), (.int .i64 0)] 83, snapCh w0 F]) 6 #[true, true, true, false, true, false, false, false, false, false]) [(0, (.pointer (some ⟨b1, 0, none⟩))), (1, (.int .i64 top_1)), (2, (.int .i64 n_2)), (6, (.pointer (some ⟨b5, 0, none⟩))), (7, (.pointer (some ⟨b10, 0, none⟩))), (21, (.int .i64 top_1)), (25, (.pointer (some ⟨b1, 0, none⟩))), (23, (.int .i64 r8))] [cellCh b1 [v2, (.int .i64 t74)] 122, cellCh b10 [(.int .i64 r8), (.int .i64 0)] 83, cellCh b5 [(.int .i64 0), (.int .i64 0)] 83, snapCh w0 F] (L_spec_l20Rd_pick r_0_b t74 256 (fun (r80, r81) => k79 (r81, (min top_1 (w64 ((w64 (r8 * 256)) + r80)))))) := by
            intro _
            refine o_mulw (dt 3 (fun w m => m.pick [2, 3] rfl)) rfl rfl rfl ?_
            refine d_one (i := 5) rfl (by kernel_rfl) (o_call (vs := [(.pointer (some ⟨b1, 0, none⟩)), (.int .i64 256)]) (M0 := [cellCh b1 [v2, (.int .i64 t74)] 122]) Tryd.call68 rfl rfl (by intro w m h; exact (w_spec_l20Rd_pick (F := allB [cellCh b1 [v2, (.int .i64 t74)] 122] w) (r_0_b := r_0_b) (r_0_p := t74) (n_1 := 256) allB_ok m.given (m.rdM 2 rfl (reads_snap hv2)) h).mono (fun _ _ k => ret_free (fun r u => (fr_cons free_cell fr_nil)) k)) ?_); rintro ⟨r80, r81⟩ _
            refine d_and (fun w m => m.pick [2, 3] rfl) ?_
            refine pk [0, 1, 2, 3] rfl ?_
            refine re (E' := [(0, (.pointer (some ⟨b1, 0, none⟩))), (1, (.int .i64 top_1)), (2, (.int .i64 n_2)), (6, (.pointer (some ⟨b5, 0, none⟩))), (7, (.pointer (some ⟨b10, 0, none⟩))), (21, (.int .i64 top_1)), (24, (.int .i64 (w64 (r8 * 256)))), (26, (.int .i64 r80))]) ⟨rfl, rfl, rfl, rfl, rfl, rfl, rfl, rfl, trivial⟩ ?_
            exact H52 r80 r81
          have H54 : ∀ (r82 : Int) (r83 : Int), Nx 68 (gB F [cellCh b1 [v2, (.int .i64 r_0_p)] 122] w0) (feet [cellCh b1 [v2, (.int .i64 r_0_p)] 122]) w0 (wpAnyH Tryd.prog .any (opsAt Tryd.f128 [1, 1, 0, 1, 0]) Qd (Mem (gB F [cellCh b1 [v2, (.int .i64 r_0_p)] 122] w0) (feet [cellCh b1 [v2, (.int .i64 r_0_p)] 122]) w0 [cellCh b5 [(.int .i64 0), (.int .i64 0)] 83, snapCh w0 F]) 5 #[true, true, true, false, true, true, false, false, false, false]) [(0, (.pointer (some ⟨b1, 0, none⟩))), (1, (.int .i64 top_1)), (2, (.int .i64 n_2)), (6, (.pointer (some ⟨b5, 0, none⟩))), (7, (.pointer (some ⟨b10, 0, none⟩))), (21, (.int .i64 top_1)), (26, (.int .i64 r82)), (23, (.int .i64 r8))] [cellCh b1 [v2, (.int .i64 r83)] 122, cellCh b10 [(.int .i64 r8), (.int .i64 0)] 83, cellCh b5 [(.int .i64 0), (.int .i64 0)] 83, snapCh w0 F] (k79 (r83, (min top_1 (w64 ((w64 (r8 * 256)) + r82))))) := by
            intro r82 r83
            refine o_mulw (dt 3 (fun w m => m.pick [2, 3] rfl)) rfl rfl rfl ?_
            refine o_addw (dt 6 (fun w m => m.pick [2, 3] rfl)) rfl rfl rfl ?_
            refine o_min (dt 7 (fun w m => m.pick [2, 3] rfl)) rfl rfl rfl ?_
            refine o_fad (dt 8 (fun w m => m.pick [2, 3] rfl)) rfl rfl fld83_0 rfl ?_
            refine d_one (i := 9) rfl (by kernel_rfl) (o_stc (cs' := [(.int .i64 (min top_1 (w64 ((w64 (r8 * 256)) + r82)))), (.int .i64 0)]) 1 rfl rfl rfl ty3 rfl rfl rfl rfl ?_)
            refine d_and (fun w m => m.pick [2, 3] rfl) ?_
            refine pk [0, 1, 2, 3] rfl ?_
            refine re (E' := [(0, (.pointer (some ⟨b1, 0, none⟩))), (1, (.int .i64 top_1)), (2, (.int .i64 n_2)), (6, (.pointer (some ⟨b5, 0, none⟩))), (7, (.pointer (some ⟨b10, 0, none⟩)))]) ⟨rfl, rfl, rfl, rfl, rfl, trivial⟩ ?_
            exact H51 r82 r83
          have H55 : ∀ (r82 : Int) (r83 : Int), Nx 68 (gB F [cellCh b1 [v2, (.int .i64 r_0_p)] 122] w0) (feet [cellCh b1 [v2, (.int .i64 r_0_p)] 122]) w0 (wpAnyH Tryd.prog .any (opsAt Tryd.f128 [1, 1, 0, 1, 0]) Qd (Mem (gB F [cellCh b1 [v2, (.int .i64 r_0_p)] 122] w0) (feet [cellCh b1 [v2, (.int .i64 r_0_p)] 122]) w0 [cellCh b5 [(.int .i64 0), (.int .i64 0)] 83, snapCh w0 F]) 6 #[true, true, false, false, true, true, false, false, false, false]) [(0, (.pointer (some ⟨b1, 0, none⟩))), (1, (.int .i64 top_1)), (2, (.int .i64 n_2)), (6, (.pointer (some ⟨b5, 0, none⟩))), (7, (.pointer (some ⟨b10, 0, none⟩))), (21, (.int .i64 top_1)), (22, (.pointer (some ⟨b10, 0, none⟩))), (26, (.int .i64 r82))] [cellCh b1 [v2, (.int .i64 r83)] 122, cellCh b10 [(.int .i64 r8), (.int .i64 0)] 83, cellCh b5 [(.int .i64 0), (.int .i64 0)] 83, snapCh w0 F] (k79 (r83, (min top_1 (w64 ((w64 (r8 * 256)) + r82))))) := by
            intro r82 r83
            refine d_one (i := 2) rfl (by kernel_rfl) (o_ldc m_op (v := (.int .i64 r8)) 1 rfl rfl rfl ty3 rfl ?_)
            refine d_and (fun w m => m.pick [2, 3] rfl) ?_
            refine pk [0, 1, 2, 3] rfl ?_
            refine re (E' := [(0, (.pointer (some ⟨b1, 0, none⟩))), (1, (.int .i64 top_1)), (2, (.int .i64 n_2)), (6, (.pointer (some ⟨b5, 0, none⟩))), (7, (.pointer (some ⟨b10, 0, none⟩))), (21, (.int .i64 top_1)), (26, (.int .i64 r82)), (23, (.int .i64 r8))]) ⟨rfl, rfl, rfl, rfl, rfl, rfl, rfl, rfl, trivial⟩ ?_
            exact H54 r82 r83
          refine o_mv (dt 0 (fun w m => m.pick [2, 3] rfl)) rfl rfl ?_
          refine o_fad (dt 1 (fun w m => m.pick [2, 3] rfl)) rfl rfl fld83_0 rfl ?_
          refine o_mv (dt 4 (fun w m => m.pick [2, 3] rfl)) rfl rfl ?_
          refine d_two (i := 2) (j := 5) rfl rfl (by kernel_rfl) ?_ ?_
          · intro o ho; cases ho
            refine o_ldc m_op (v := (.int .i64 r8)) 1 rfl rfl rfl ty3 rfl ?_
            refine d_and (fun w m => m.pick [2, 3] rfl) ?_
            refine pk [0, 1, 2, 3] rfl ?_
            refine re (E' := [(0, (.pointer (some ⟨b1, 0, none⟩))), (1, (.int .i64 top_1)), (2, (.int .i64 n_2)), (6, (.pointer (some ⟨b5, 0, none⟩))), (7, (.pointer (some ⟨b10, 0, none⟩))), (21, (.int .i64 top_1)), (25, (.pointer (some ⟨b1, 0, none⟩))), (23, (.int .i64 r8))]) ⟨rfl, rfl, rfl, rfl, rfl, rfl, rfl, rfl, trivial⟩ ?_
            exact H53 ()
          · intro o ho; cases ho
            refine o_call (vs := [(.pointer (some ⟨b1, 0, none⟩)), (.int .i64 256)]) (M0 := [cellCh b1 [v2, (.int .i64 t74)] 122]) Tryd.call68 rfl rfl (by intro w m h; exact (w_spec_l20Rd_pick (F := allB [cellCh b1 [v2, (.int .i64 t74)] 122] w) (r_0_b := r_0_b) (r_0_p := t74) (n_1 := 256) allB_ok m.given (m.rdM 2 rfl (reads_snap hv2)) h).mono (fun _ _ k => ret_free (fun r u => (fr_cons free_cell fr_nil)) k)) ?_; rintro ⟨r82, r83⟩ _
            refine d_and (fun w m => m.pick [2, 3] rfl) ?_
            refine pk [0, 1, 2, 3] rfl ?_
            refine re (E' := [(0, (.pointer (some ⟨b1, 0, none⟩))), (1, (.int .i64 top_1)), (2, (.int .i64 n_2)), (6, (.pointer (some ⟨b5, 0, none⟩))), (7, (.pointer (some ⟨b10, 0, none⟩))), (21, (.int .i64 top_1)), (22, (.pointer (some ⟨b10, 0, none⟩))), (26, (.int .i64 r82))]) ⟨rfl, rfl, rfl, rfl, rfl, rfl, rfl, rfl, trivial⟩ ?_
            exact H55 r82 r83
        · rintro ⟨t77, t78⟩ a w ⟨hE, hm⟩ h
          refine nx_of hE hm h ?_
          clear hE hm h
          exact l_join (t77, t78) (fun a w hE hm => ⟨hE.sub ⟨rfl, rfl, rfl, rfl, rfl, trivial⟩, (hm.pick [0, 1, 2, 3] rfl)⟩)
      · refine c_skip ?_
        exact l_join (t74, r8) (fun a w hE hm => ⟨hE.sub ⟨rfl, rfl, rfl, rfl, rfl, trivial⟩, (hm.pick [0, 1, 2, 3] rfl)⟩)
  · rintro ⟨t144, t145⟩ a w ⟨hE, hm⟩ h
    refine nx_of hE hm h ?_
    clear hE hm h
    refine c_join (σ := (Int × Int)) (fun ((t147, t148) : (Int × Int)) (a : Act) (w : World) => Has 68 [(0, (.pointer (some ⟨b1, 0, none⟩))), (1, (.int .i64 top_1)), (2, (.int .i64 n_2)), (6, (.pointer (some ⟨b5, 0, none⟩))), (7, (.pointer (some ⟨b10, 0, none⟩)))] a ∧ Mem (gB F [cellCh b1 [v2, (.int .i64 r_0_p)] 122] w0) (feet [cellCh b1 [v2, (.int .i64 r_0_p)] 122]) w0 [cellCh b1 [v2, (.int .i64 t147)] 122, cellCh b10 [(.int .i64 t145), (.int .i64 t148)] 83, cellCh b5 [(.int .i64 0), (.int .i64 0)] 83, snapCh w0 F] w) ?_ ?_
    · intro k149
      refine c_drawQ mixed 16 rfl [cellCh b5 [(.int .i64 0), (.int .i64 0)] 83, snapCh w0 F] ?_
      intro Qd hP hQ
      have H57 : ∀ (r150 : Int) (r151 : Int) (r152 : Int) (r153 : Int) (v154 : Value) (r155 : Int) (r156 : Int) (e157 : Int) (h158 : ([0, r150, r152, 4096])[(r155).toNat]? = some e157), Nx 68 (gB F [cellCh b1 [v2, (.int .i64 r_0_p)] 122] w0) (feet [cellCh b1 [v2, (.int .i64 r_0_p)] 122]) w0 (wpAnyH Tryd.prog .any (opsAt Tryd.f128 [1, 1, 1, 0]) Qd (Mem (gB F [cellCh b1 [v2, (.int .i64 r_0_p)] 122] w0) (feet [cellCh b1 [v2, (.int .i64 r_0_p)] 122]) w0 [cellCh b5 [(.int .i64 0), (.int .i64 0)] 83, snapCh w0 F]) 0 #[true, true, true, true, true, true, true, true, true, true, true, true, true, true, true, true]) [(0, (.pointer (some ⟨b1, 0, none⟩))), (1, (.int .i64 top_1)), (2, (.int .i64 n_2)), (6, (.pointer (some ⟨b5, 0, none⟩))), (7, (.pointer (some ⟨b10, 0, none⟩)))] [cellCh b1 [v2, (.int .i64 r156)] 122, cellCh b10 [(.int .i64 t145), (.int .i64 (min top_1 (w64 (t145 + e157))))] 83, cellCh b5 [(.int .i64 0), (.int .i64 0)] 83, snapCh w0 F] (k149 (r156, (min top_1 (w64 (t145 + e157))))) := by
        intro r150 r151 r152 r153 v154 r155 r156 e157 h158
        refine d_done (by kernel_rfl) ?_
        exact fun a w hE hm hφ => hQ (r156, (min top_1 (w64 (t145 + e157)))) a w hφ ((fun a w hE hm => ⟨hE.sub ⟨rfl, rfl, rfl, rfl, rfl, trivial⟩, (hm.pick [0, 1, 2, 3] rfl)⟩) a w hE hm)
      have H58 : ∀ (r150 : Int) (r151 : Int) (r152 : Int) (r153 : Int) (v154 : Value) (r155 : Int) (r156 : Int) (e157 : Int) (h158 : ([0, r150, r152, 4096])[(r155).toNat]? = some e157), Nx 68 (gB F [cellCh b1 [v2, (.int .i64 r_0_p)] 122] w0) (feet [cellCh b1 [v2, (.int .i64 r_0_p)] 122]) w0 (wpAnyH Tryd.prog .any (opsAt Tryd.f128 [1, 1, 1, 0]) Qd (Mem (gB F [cellCh b1 [v2, (.int .i64 r_0_p)] 122] w0) (feet [cellCh b1 [v2, (.int .i64 r_0_p)] 122]) w0 [cellCh b5 [(.int .i64 0), (.int .i64 0)] 83, snapCh w0 F]) 4 #[true, true, true, true, true, true, true, true, true, true, true, true, false, false, false, false]) [(0, (.pointer (some ⟨b1, 0, none⟩))), (1, (.int .i64 top_1)), (2, (.int .i64 n_2)), (6, (.pointer (some ⟨b5, 0, none⟩))), (7, (.pointer (some ⟨b10, 0, none⟩))), (30, (.int .i64 top_1)), (32, (.int .i64 t145)), (41, (.int .i64 e157))] [cellCh b1 [v2, (.int .i64 r156)] 122, cellCh b10 [(.int .i64 t145), (.int .i64 0)] 83, cellCh b5 [(.int .i64 0), (.int .i64 0)] 83, snapCh w0 F] (k149 (r156, (min top_1 (w64 (t145 + e157))))) := by
        intro r150 r151 r152 r153 v154 r155 r156 e157 h158
        refine o_addw (dt 12 (fun w m => m.pick [2, 3] rfl)) rfl rfl rfl ?_
        refine o_min (dt 13 (fun w m => m.pick [2, 3] rfl)) rfl rfl rfl ?_
        refine o_fad (dt 14 (fun w m => m.pick [2, 3] rfl)) rfl rfl fld83_1 rfl ?_
        refine d_one (i := 15) rfl (by kernel_rfl) (o_stc (cs' := [(.int .i64 t145), (.int .i64 (min top_1 (w64 (t145 + e157))))]) 1 rfl rfl rfl ty3 rfl rfl rfl rfl ?_)
        refine d_and (fun w m => m.pick [2, 3] rfl) ?_
        refine pk [0, 1, 2, 3] rfl ?_
        refine re (E' := [(0, (.pointer (some ⟨b1, 0, none⟩))), (1, (.int .i64 top_1)), (2, (.int .i64 n_2)), (6, (.pointer (some ⟨b5, 0, none⟩))), (7, (.pointer (some ⟨b10, 0, none⟩)))]) ⟨rfl, rfl, rfl, rfl, rfl, trivial⟩ ?_
        exact H57 r150 r151 r152 r153 v154 r155 r156 e157 h158
      have H59 : ∀ (r150 : Int) (r151 : Int) (r152 : Int) (r153 : Int) (v154 : Value) (r155 : Int) (r156 : Int) (e157 : Int) (h158 : ([0, r150, r152, 4096])[(r155).toNat]? = some e157), Nx 68 (gB F [cellCh b1 [v2, (.int .i64 r_0_p)] 122] w0) (feet [cellCh b1 [v2, (.int .i64 r_0_p)] 122]) w0 (wpAnyH Tryd.prog .any (opsAt Tryd.f128 [1, 1, 1, 0]) Qd (Mem (gB F [cellCh b1 [v2, (.int .i64 r_0_p)] 122] w0) (feet [cellCh b1 [v2, (.int .i64 r_0_p)] 122]) w0 [cellCh b5 [(.int .i64 0), (.int .i64 0)] 83, snapCh w0 F]) 5 #[true, true, true, true, true, true, true, true, true, true, true, false, false, false, false, false]) [(0, (.pointer (some ⟨b1, 0, none⟩))), (1, (.int .i64 top_1)), (2, (.int .i64 n_2)), (6, (.pointer (some ⟨b5, 0, none⟩))), (7, (.pointer (some ⟨b10, 0, none⟩))), (30, (.int .i64 top_1)), (32, (.int .i64 t145)), (40, (pEl v154 r155 1 0))] [cellCh b1 [v2, (.int .i64 r156)] 122, ownCh elInt 3 v154 ([0, r150, r152, 4096]), cellCh b10 [(.int .i64 t145), (.int .i64 0)] 83, cellCh b5 [(.int .i64 0), (.int .i64 0)] 83, snapCh w0 F] (k149 (r156, (min top_1 (w64 (t145 + e157))))) := by
        intro r150 r151 r152 r153 v154 r155 r156 e157 h158
        refine d_one (i := 11) rfl (by kernel_rfl) (o_lds m_op (enc := encInt) (u := (.int .i64 e157)) 1 rfl reads_own flelInt rfl h158 rfl rfl ty3 rfl ?_)
        refine d_and (fun w m => m.pick [3, 4] rfl) ?_
        refine pk [0, 2, 3, 4] rfl ?_
        refine re (E' := [(0, (.pointer (some ⟨b1, 0, none⟩))), (1, (.int .i64 top_1)), (2, (.int .i64 n_2)), (6, (.pointer (some ⟨b5, 0, none⟩))), (7, (.pointer (some ⟨b10, 0, none⟩))), (30, (.int .i64 top_1)), (32, (.int .i64 t145)), (41, (.int .i64 e157))]) ⟨rfl, rfl, rfl, rfl, rfl, rfl, rfl, rfl, trivial⟩ ?_
        exact H58 r150 r151 r152 r153 v154 r155 r156 e157 h158
      have H60 : ∀ (r150 : Int) (r151 : Int) (r152 : Int) (r153 : Int) (v154 : Value) (r155 : Int) (r156 : Int), Nx 68 (gB F [cellCh b1 [v2, (.int .i64 r_0_p)] 122] w0) (feet [cellCh b1 [v2, (.int .i64 r_0_p)] 122]) w0 (wpAnyH Tryd.prog .any (opsAt Tryd.f128 [1, 1, 1, 0]) Qd (Mem (gB F [cellCh b1 [v2, (.int .i64 r_0_p)] 122] w0) (feet [cellCh b1 [v2, (.int .i64 r_0_p)] 122]) w0 [cellCh b5 [(.int .i64 0), (.int .i64 0)] 83, snapCh w0 F]) 6 #[true, true, true, true, true, true, true, true, true, true, false, false, false, false, false, false]) [(0, (.pointer (some ⟨b1, 0, none⟩))), (1, (.int .i64 top_1)), (2, (.int .i64 n_2)), (6, (.pointer (some ⟨b5, 0, none⟩))), (7, (.pointer (some ⟨b10, 0, none⟩))), (30, (.int .i64 top_1)), (32, (.int .i64 t145)), (37, v154), (39, (.int .i64 r155))] [cellCh b1 [v2, (.int .i64 r156)] 122, ownCh elInt 3 v154 ([0, r150, r152, 4096]), cellCh b10 [(.int .i64 t145), (.int .i64 0)] 83, cellCh b5 [(.int .i64 0), (.int .i64 0)] 83, snapCh w0 F] (idxW ([0, r150, r152, 4096]) r155 (fun e157 => k149 (r156, (min top_1 (w64 (t145 + e157)))))) := by
        intro r150 r151 r152 r153 v154 r155 r156
        refine d_one (i := 10) rfl (by kernel_rfl) (o_idx m_op 1 rfl reads_own rfl rfl rfl el99 ?_); intro e157 h158
        refine d_and (fun w m => m.pick [3, 4] rfl) ?_
        refine pk [0, 1, 2, 3, 4] rfl ?_
        refine re (E' := [(0, (.pointer (some ⟨b1, 0, none⟩))), (1, (.int .i64 top_1)), (2, (.int .i64 n_2)), (6, (.pointer (some ⟨b5, 0, none⟩))), (7, (.pointer (some ⟨b10, 0, none⟩))), (30, (.int .i64 top_1)), (32, (.int .i64 t145)), (40, (pEl v154 r155 1 0))]) ⟨rfl, rfl, rfl, rfl, rfl, rfl, rfl, rfl, trivial⟩ ?_
        exact H59 r150 r151 r152 r153 v154 r155 r156 e157 h158
      have H61 : ∀ (r150 : Int) (r151 : Int) (r152 : Int) (r153 : Int) (v154 : Value), Nx 68 (gB F [cellCh b1 [v2, (.int .i64 r_0_p)] 122] w0) (feet [cellCh b1 [v2, (.int .i64 r_0_p)] 122]) w0 (wpAnyH Tryd.prog .any (opsAt Tryd.f128 [1, 1, 1, 0]) Qd (Mem (gB F [cellCh b1 [v2, (.int .i64 r_0_p)] 122] w0) (feet [cellCh b1 [v2, (.int .i64 r_0_p)] 122]) w0 [cellCh b5 [(.int .i64 0), (.int .i64 0)] 83, snapCh w0 F]) 7 #[true, true, true, true, true, true, true, true, true, false, false, false, false, false, false, false]) [(0, (.pointer (some ⟨b1, 0, none⟩))), (1, (.int .i64 top_1)), (2, (.int .i64 n_2)), (6, (.pointer (some ⟨b5, 0, none⟩))), (7, (.pointer (some ⟨b10, 0, none⟩))), (30, (.int .i64 top_1)), (38, (.pointer (some ⟨b1, 0, none⟩))), (32, (.int .i64 t145)), (37, v154)] [ownCh elInt 3 v154 ([0, r150, r152, 4096]), cellCh b1 [v2, (.int .i64 r153)] 122, cellCh b10 [(.int .i64 t145), (.int .i64 0)] 83, cellCh b5 [(.int .i64 0), (.int .i64 0)] 83, snapCh w0 F] (L_spec_l20Rd_pick r_0_b r153 4 (fun (r155, r156) => idxW ([0, r150, r152, 4096]) r155 (fun e157 => k149 (r156, (min top_1 (w64 (t145 + e157))))))) := by
        intro r150 r151 r152 r153 v154
        refine pk [1, 0, 2, 3, 4] rfl ?_
        refine d_one (i := 9) rfl (by kernel_rfl) (o_call (vs := [(.pointer (some ⟨b1, 0, none⟩)), (.int .i64 4)]) (M0 := [cellCh b1 [v2, (.int .i64 r153)] 122]) Tryd.call68 rfl rfl (by intro w m h; exact (w_spec_l20Rd_pick (F := allB [cellCh b1 [v2, (.int .i64 r153)] 122] w) (r_0_b := r_0_b) (r_0_p := r153) (n_1 := 4) allB_ok m.given (m.rdM 3 rfl (reads_snap hv2)) h).mono (fun _ _ k => ret_free (fun r u => (fr_cons free_cell fr_nil)) k)) ?_); rintro ⟨r155, r156⟩ _
        refine d_and (fun w m => m.pick [3, 4] rfl) ?_
        refine pk [0, 1, 2, 3, 4] rfl ?_
        refine re (E' := [(0, (.pointer (some ⟨b1, 0, none⟩))), (1, (.int .i64 top_1)), (2, (.int .i64 n_2)), (6, (.pointer (some ⟨b5, 0, none⟩))), (7, (.pointer (some ⟨b10, 0, none⟩))), (30, (.int .i64 top_1)), (32, (.int .i64 t145)), (37, v154), (39, (.int .i64 r155))]) ⟨rfl, rfl, rfl, rfl, rfl, rfl, rfl, rfl, rfl, trivial⟩ ?_
        exact H60 r150 r151 r152 r153 v154 r155 r156
      have H62 : ∀ (r150 : Int) (r151 : Int) (r152 : Int) (r153 : Int) (r159 : Int) (r160 : Int), Nx 68 (gB F [cellCh b1 [v2, (.int .i64 r_0_p)] 122] w0) (feet [cellCh b1 [v2, (.int .i64 r_0_p)] 122]) w0 (wpAnyH Tryd.prog .any (opsAt Tryd.f128 [1, 1, 1, 0]) Qd (Mem (gB F [cellCh b1 [v2, (.int .i64 r_0_p)] 122] w0) (feet [cellCh b1 [v2, (.int .i64 r_0_p)] 122]) w0 [cellCh b5 [(.int .i64 0), (.int .i64 0)] 83, snapCh w0 F]) 7 #[true, true, true, true, true, true, true, false, true, true, false, false, false, false, false, false]) [(0, (.pointer (some ⟨b1, 0, none⟩))), (1, (.int .i64 top_1)), (2, (.int .i64 n_2)), (6, (.pointer (some ⟨b5, 0, none⟩))), (7, (.pointer (some ⟨b10, 0, none⟩))), (30, (.int .i64 top_1)), (32, (.int .i64 t145)), (34, (.int .i64 r150)), (36, (.int .i64 r152)), (39, (.int .i64 r159))] [cellCh b1 [v2, (.int .i64 r160)] 122, cellCh b10 [(.int .i64 t145), (.int .i64 0)] 83, cellCh b5 [(.int .i64 0), (.int .i64 0)] 83, snapCh w0 F] (idxW ([0, r150, r152, 4096]) r159 (fun e157 => k149 (r160, (min top_1 (w64 (t145 + e157)))))) := by
        intro r150 r151 r152 r153 r159 r160
        refine d_one (i := 7) rfl (by kernel_rfl) (o_bsl (enc := encInt) (qs := [(0, (.int .i64 0)), (1, (.int .i64 r150)), (2, (.int .i64 r152)), (3, (.int .i64 4096))]) (cells := [(.int .i64 0), (.int .i64 r150), (.int .i64 r152), (.int .i64 4096)]) ([0, r150, r152, 4096]) flelInt (by intro ρ h; simp only [List.map_toArray, List.map_cons, List.map_nil, h (.const (.int .i64 0)) _ rfl, h (.tmp 34) _ rfl, h (.tmp 36) _ rfl, h (.const (.int .i64 4096)) _ rfl]) rfl el99 zero3 rfl rfl rfl rfl rfl rfl ?_); intro v161
        refine d_and (fun w m => m.pick [3, 4] rfl) ?_
        refine pk [1, 0, 2, 3, 4] rfl ?_
        refine re (E' := [(0, (.pointer (some ⟨b1, 0, none⟩))), (1, (.int .i64 top_1)), (2, (.int .i64 n_2)), (6, (.pointer (some ⟨b5, 0, none⟩))), (7, (.pointer (some ⟨b10, 0, none⟩))), (30, (.int .i64 top_1)), (32, (.int .i64 t145)), (37, v161), (39, (.int .i64 r159))]) ⟨rfl, rfl, rfl, rfl, rfl, rfl, rfl, rfl, rfl, trivial⟩ ?_
        exact H60 r150 r151 r152 r153 v161 r159 r160
      have H63 : ∀ (r150 : Int) (r151 : Int) (r152 : Int) (r153 : Int), Nx 68 (gB F [cellCh b1 [v2, (.int .i64 r_0_p)] 122] w0) (feet [cellCh b1 [v2, (.int .i64 r_0_p)] 122]) w0 (wpAnyH Tryd.prog .any (opsAt Tryd.f128 [1, 1, 1, 0]) Qd (Mem (gB F [cellCh b1 [v2, (.int .i64 r_0_p)] 122] w0) (feet [cellCh b1 [v2, (.int .i64 r_0_p)] 122]) w0 [cellCh b5 [(.int .i64 0), (.int .i64 0)] 83, snapCh w0 F]) 8 #[true, true, true, true, true, true, true, false, true, false, false, false, false, false, false, false]) [(0, (.pointer (some ⟨b1, 0, none⟩))), (1, (.int .i64 top_1)), (2, (.int .i64 n_2)), (6, (.pointer (some ⟨b5, 0, none⟩))), (7, (.pointer (some ⟨b10, 0, none⟩))), (30, (.int .i64 top_1)), (38, (.pointer (some ⟨b1, 0, none⟩))), (32, (.int .i64 t145)), (34, (.int .i64 r150)), (36, (.int .i64 r152))] [cellCh b1 [v2, (.int .i64 r153)] 122, cellCh b10 [(.int .i64 t145), (.int .i64 0)] 83, cellCh b5 [(.int .i64 0), (.int .i64 0)] 83, snapCh w0 F] (L_spec_l20Rd_pick r_0_b r153 4 (fun (r155, r156) => idxW ([0, r150, r152, 4096]) r155 (fun e157 => k149 (r156, (min top_1 (w64 (t145 + e157))))))) := by
        intro r150 r151 r152 r153
        refine d_two (i := 7) (j := 9) rfl rfl (by kernel_rfl) ?_ ?_
        · intro o ho; cases ho
          refine o_bsl (enc := encInt) (qs := [(0, (.int .i64 0)), (1, (.int .i64 r150)), (2, (.int .i64 r152)), (3, (.int .i64 4096))]) (cells := [(.int .i64 0), (.int .i64 r150), (.int .i64 r152), (.int .i64 4096)]) ([0, r150, r152, 4096]) flelInt (by intro ρ h; simp only [List.map_toArray, List.map_cons, List.map_nil, h (.const (.int .i64 0)) _ rfl, h (.tmp 34) _ rfl, h (.tmp 36) _ rfl, h (.const (.int .i64 4096)) _ rfl]) rfl el99 zero3 rfl rfl rfl rfl rfl rfl ?_; intro v154
          refine d_and (fun w m => m.pick [3, 4] rfl) ?_
          refine pk [0, 1, 2, 3, 4] rfl ?_
          refine re (E' := [(0, (.pointer (some ⟨b1, 0, none⟩))), (1, (.int .i64 top_1)), (2, (.int .i64 n_2)), (6, (.pointer (some ⟨b5, 0, none⟩))), (7, (.pointer (some ⟨b10, 0, none⟩))), (30, (.int .i64 top_1)), (38, (.pointer (some ⟨b1, 0, none⟩))), (32, (.int .i64 t145)), (37, v154)]) ⟨rfl, rfl, rfl, rfl, rfl, rfl, rfl, rfl, rfl, trivial⟩ ?_
          exact H61 r150 r151 r152 r153 v154
        · intro o ho; cases ho
          refine o_call (vs := [(.pointer (some ⟨b1, 0, none⟩)), (.int .i64 4)]) (M0 := [cellCh b1 [v2, (.int .i64 r153)] 122]) Tryd.call68 rfl rfl (by intro w m h; exact (w_spec_l20Rd_pick (F := allB [cellCh b1 [v2, (.int .i64 r153)] 122] w) (r_0_b := r_0_b) (r_0_p := r153) (n_1 := 4) allB_ok m.given (m.rdM 2 rfl (reads_snap hv2)) h).mono (fun _ _ k => ret_free (fun r u => (fr_cons free_cell fr_nil)) k)) ?_; rintro ⟨r159, r160⟩ _
          refine d_and (fun w m => m.pick [2, 3] rfl) ?_
          refine pk [0, 1, 2, 3] rfl ?_
          refine re (E' := [(0, (.pointer (some ⟨b1, 0, none⟩))), (1, (.int .i64 top_1)), (2, (.int .i64 n_2)), (6, (.pointer (some ⟨b5, 0, none⟩))), (7, (.pointer (some ⟨b10, 0, none⟩))), (30, (.int .i64 top_1)), (32, (.int .i64 t145)), (34, (.int .i64 r150)), (36, (.int .i64 r152)), (39, (.int .i64 r159))]) ⟨rfl, rfl, rfl, rfl, rfl, rfl, rfl, rfl, rfl, rfl, trivial⟩ ?_
          exact H62 r150 r151 r152 r153 r159 r160
      have H64 : ∀ (r150 : Int) (r151 : Int), Nx 68 (gB F [cellCh b1 [v2, (.int .i64 r_0_p)] 122] w0) (feet [cellCh b1 [v2, (.int .i64 r_0_p)] 122]) w0 (wpAnyH Tryd.prog .any (opsAt Tryd.f128 [1, 1, 1, 0]) Qd (Mem (gB F [cellCh b1 [v2, (.int .i64 r_0_p)] 122] w0) (feet [cellCh b1 [v2, (.int .i64 r_0_p)] 122]) w0 [cellCh b5 [(.int .i64 0), (.int .i64 0)] 83, snapCh w0 F]) 9 #[true, true, true, true, true, true, false, false, true, false, false, false, false, false, false, false]) [(0, (.pointer (some ⟨b1, 0, none⟩))), (1, (.int .i64 top_1)), (2, (.int .i64 n_2)), (6, (.pointer (some ⟨b5, 0, none⟩))), (7, (.pointer (some ⟨b10, 0, none⟩))), (30, (.int .i64 top_1)), (35, (.pointer (some ⟨b1, 0, none⟩))), (38, (.pointer (some ⟨b1, 0, none⟩))), (32, (.int .i64 t145)), (34, (.int .i64 r150))] [cellCh b1 [v2, (.int .i64 r151)] 122, cellCh b10 [(.int .i64 t145), (.int .i64 0)] 83, cellCh b5 [(.int .i64 0), (.int .i64 0)] 83, snapCh w0 F] (L_spec_l20Rd_pick r_0_b r151 256 (fun (r152, r153) => L_spec_l20Rd_pick r_0_b r153 4 (fun (r155, r156) => idxW ([0, r150, r152, 4096]) r155 (fun e157 => k149 (r156, (min top_1 (w64 (t145 + e157)))))))) := by
        intro r150 r151
        refine d_one (i := 6) rfl (by kernel_rfl) (o_call (vs := [(.pointer (some ⟨b1, 0, none⟩)), (.int .i64 256)]) (M0 := [cellCh b1 [v2, (.int .i64 r151)] 122]) Tryd.call68 rfl rfl (by intro w m h; exact (w_spec_l20Rd_pick (F := allB [cellCh b1 [v2, (.int .i64 r151)] 122] w) (r_0_b := r_0_b) (r_0_p := r151) (n_1 := 256) allB_ok m.given (m.rdM 2 rfl (reads_snap hv2)) h).mono (fun _ _ k => ret_free (fun r u => (fr_cons free_cell fr_nil)) k)) ?_); rintro ⟨r152, r153⟩ _
        refine d_and (fun w m => m.pick [2, 3] rfl) ?_
        refine pk [0, 1, 2, 3] rfl ?_
        refine re (E' := [(0, (.pointer (some ⟨b1, 0, none⟩))), (1, (.int .i64 top_1)), (2, (.int .i64 n_2)), (6, (.pointer (some ⟨b5, 0, none⟩))), (7, (.pointer (some ⟨b10, 0, none⟩))), (30, (.int .i64 top_1)), (38, (.pointer (some ⟨b1, 0, none⟩))), (32, (.int .i64 t145)), (34, (.int .i64 r150)), (36, (.int .i64 r152))]) ⟨rfl, rfl, rfl, rfl, rfl, rfl, rfl, rfl, rfl, rfl, trivial⟩ ?_
        exact H63 r150 r151 r152 r153
      have H65 : ∀ (_ : Unit), Nx 68 (gB F [cellCh b1 [v2, (.int .i64 r_0_p)] 122] w0) (feet [cellCh b1 [v2, (.int .i64 r_0_p)] 122]) w0 (wpAnyH Tryd.prog .any (opsAt Tryd.f128 [1, 1, 1, 0]) Qd (Mem (gB F [cellCh b1 [v2, (.int .i64 r_0_p)] 122] w0) (feet [cellCh b1 [v2, (.int .i64 r_0_p)] 122]) w0 [cellCh b5 [(.int .i64 0), (.int .i64 0)] 83, snapCh w0 F]) 10 #[true, true, true, true, false, true, false, false, true, false, false, false, false, false, false, false]) [(0, (.pointer (some ⟨b1, 0, none⟩))), (1, (.int .i64 top_1)), (2, (.int .i64 n_2)), (6, (.pointer (some ⟨b5, 0, none⟩))), (7, (.pointer (some ⟨b10, 0, none⟩))), (30, (.int .i64 top_1)), (33, (.pointer (some ⟨b1, 0, none⟩))), (35, (.pointer (some ⟨b1, 0, none⟩))), (38, (.pointer (some ⟨b1, 0, none⟩))), (32, (.int .i64 t145))] [cellCh b1 [v2, (.int .i64 t144)] 122, cellCh b10 [(.int .i64 t145), (.int .i64 0)] 83, cellCh b5 [(.int .i64 0), (.int .i64 0)] 83, snapCh w0 F] (L_spec_l20Rd_pick r_0_b t144 4 (fun (r150, r151) => L_spec_l20Rd_pick r_0_b r151 256 (fun (r152, r153) => L_spec_l20Rd_pick r_0_b r153 4 (fun (r155, r156) => idxW ([0, r150, r152, 4096]) r155 (fun e157 => k149 (r156, (min top_1 (w64 (t145 + e157))))))))) := by
        intro _
        refine d_one (i := 4) rfl (by kernel_rfl) (o_call (vs := [(.pointer (some ⟨b1, 0, none⟩)), (.int .i64 4)]) (M0 := [cellCh b1 [v2, (.int .i64 t144)] 122]) Tryd.call68 rfl rfl (by intro w m h; exact (w_spec_l20Rd_pick (F := allB [cellCh b1 [v2, (.int .i64 t144)] 122] w) (r_0_b := r_0_b) (r_0_p := t144) (n_1 := 4) allB_ok m.given (m.rdM 2 rfl (reads_snap hv2)) h).mono (fun _ _ k => ret_free (fun r u => (fr_cons free_cell fr_nil)) k)) ?_); rintro ⟨r150, r151⟩ _
        refine d_and (fun w m => m.pick [2, 3] rfl) ?_
        refine pk [0, 1, 2, 3] rfl ?_
        refine re (E' := [(0, (.pointer (some ⟨b1, 0, none⟩))), (1, (.int .i64 top_1)), (2, (.int .i64 n_2)), (6, (.pointer (some ⟨b5, 0, none⟩))), (7, (.pointer (some ⟨b10, 0, none⟩))), (30, (.int .i64 top_1)), (35, (.pointer (some ⟨b1, 0, none⟩))), (38, (.pointer (some ⟨b1, 0, none⟩))), (32, (.int .i64 t145)), (34, (.int .i64 r150))]) ⟨rfl, rfl, rfl, rfl, rfl, rfl, rfl, rfl, rfl, rfl, trivial⟩ ?_
        exact H64 r150 r151
      have H66 : ∀ (r162 : Int) (r163 : Int) (r164 : Int) (r165 : Int) (v166 : Value) (r167 : Int) (r168 : Int) (e169 : Int) (h170 : ([0, r162, r164, 4096])[(r167).toNat]? = some e169), Nx 68 (gB F [cellCh b1 [v2, (.int .i64 r_0_p)] 122] w0) (feet [cellCh b1 [v2, (.int .i64 r_0_p)] 122]) w0 (wpAnyH Tryd.prog .any (opsAt Tryd.f128 [1, 1, 1, 0]) Qd (Mem (gB F [cellCh b1 [v2, (.int .i64 r_0_p)] 122] w0) (feet [cellCh b1 [v2, (.int .i64 r_0_p)] 122]) w0 [cellCh b5 [(.int .i64 0), (.int .i64 0)] 83, snapCh w0 F]) 5 #[true, true, false, true, true, true, true, true, true, true, true, true, false, false, false, false]) [(0, (.pointer (some ⟨b1, 0, none⟩))), (1, (.int .i64 top_1)), (2, (.int .i64 n_2)), (6, (.pointer (some ⟨b5, 0, none⟩))), (7, (.pointer (some ⟨b10, 0, none⟩))), (30, (.int .i64 top_1)), (31, (.pointer (some ⟨b10, 0, none⟩))), (41, (.int .i64 e169))] [cellCh b1 [v2, (.int .i64 r168)] 122, cellCh b10 [(.int .i64 t145), (.int .i64 0)] 83, cellCh b5 [(.int .i64 0), (.int .i64 0)] 83, snapCh w0 F] (k149 (r168, (min top_1 (w64 (t145 + e169))))) := by
        intro r162 r163 r164 r165 v166 r167 r168 e169 h170
        refine d_one (i := 2) rfl (by kernel_rfl) (o_ldc m_op (v := (.int .i64 t145)) 1 rfl rfl rfl ty3 rfl ?_)
        refine d_and (fun w m => m.pick [2, 3] rfl) ?_
        refine pk [0, 1, 2, 3] rfl ?_
        refine re (E' := [(0, (.pointer (some ⟨b1, 0, none⟩))), (1, (.int .i64 top_1)), (2, (.int .i64 n_2)), (6, (.pointer (some ⟨b5, 0, none⟩))), (7, (.pointer (some ⟨b10, 0, none⟩))), (30, (.int .i64 top_1)), (32, (.int .i64 t145)), (41, (.int .i64 e169))]) ⟨rfl, rfl, rfl, rfl, rfl, rfl, rfl, rfl, trivial⟩ ?_
        exact H58 r162 r163 r164 r165 v166 r167 r168 e169 h170
      have H67 : ∀ (r162 : Int) (r163 : Int) (r164 : Int) (r165 : Int) (v166 : Value) (r167 : Int) (r168 : Int) (e169 : Int) (h170 : ([0, r162, r164, 4096])[(r167).toNat]? = some e169), Nx 68 (gB F [cellCh b1 [v2, (.int .i64 r_0_p)] 122] w0) (feet [cellCh b1 [v2, (.int .i64 r_0_p)] 122]) w0 (wpAnyH Tryd.prog .any (opsAt Tryd.f128 [1, 1, 1, 0]) Qd (Mem (gB F [cellCh b1 [v2, (.int .i64 r_0_p)] 122] w0) (feet [cellCh b1 [v2, (.int .i64 r_0_p)] 122]) w0 [cellCh b5 [(.int .i64 0), (.int .i64 0)] 83, snapCh w0 F]) 6 #[true, true, false, true, true, true, true, true, true, true, true, false, false, false, false, false]) [(0, (.pointer (some ⟨b1, 0, none⟩))), (1, (.int .i64 top_1)), (2, (.int .i64 n_2)), (6, (.pointer (some ⟨b5, 0, none⟩))), (7, (.pointer (some ⟨b10, 0, none⟩))), (30, (.int .i64 top_1)), (31, (.pointer (some ⟨b10, 0, none⟩))), (40, (pEl v166 r167 1 0))] [cellCh b1 [v2, (.int .i64 r168)] 122, ownCh elInt 3 v166 ([0, r162, r164, 4096]), cellCh b10 [(.int .i64 t145), (.int .i64 0)] 83, cellCh b5 [(.int .i64 0), (.int .i64 0)] 83, snapCh w0 F] (k149 (r168, (min top_1 (w64 (t145 + e169))))) := by
        intro r162 r163 r164 r165 v166 r167 r168 e169 h170
        refine d_two (i := 2) (j := 11) rfl rfl (by kernel_rfl) ?_ ?_
        · intro o ho; cases ho
          refine o_ldc m_op (v := (.int .i64 t145)) 2 rfl rfl rfl ty3 rfl ?_
          refine d_and (fun w m => m.pick [3, 4] rfl) ?_
          refine pk [0, 1, 2, 3, 4] rfl ?_
          refine re (E' := [(0, (.pointer (some ⟨b1, 0, none⟩))), (1, (.int .i64 top_1)), (2, (.int .i64 n_2)), (6, (.pointer (some ⟨b5, 0, none⟩))), (7, (.pointer (some ⟨b10, 0, none⟩))), (30, (.int .i64 top_1)), (32, (.int .i64 t145)), (40, (pEl v166 r167 1 0))]) ⟨rfl, rfl, rfl, rfl, rfl, rfl, rfl, rfl, trivial⟩ ?_
          exact H59 r162 r163 r164 r165 v166 r167 r168 e169 h170
        · intro o ho; cases ho
          refine o_lds m_op (enc := encInt) (u := (.int .i64 e169)) 1 rfl reads_own flelInt rfl h170 rfl rfl ty3 rfl ?_
          refine d_and (fun w m => m.pick [3, 4] rfl) ?_
          refine pk [0, 2, 3, 4] rfl ?_
          refine re (E' := [(0, (.pointer (some ⟨b1, 0, none⟩))), (1, (.int .i64 top_1)), (2, (.int .i64 n_2)), (6, (.pointer (some ⟨b5, 0, none⟩))), (7, (.pointer (some ⟨b10, 0, none⟩))), (30, (.int .i64 top_1)), (31, (.pointer (some ⟨b10, 0, none⟩))), (41, (.int .i64 e169))]) ⟨rfl, rfl, rfl, rfl, rfl, rfl, rfl, rfl, trivial⟩ ?_
          exact H66 r162 r163 r164 r165 v166 r167 r168 e169 h170
      have H68 : ∀ (r162 : Int) (r163 : Int) (r164 : Int) (r165 : Int) (v166 : Value) (r167 : Int) (r168 : Int), Nx 68 (gB F [cellCh b1 [v2, (.int .i64 r_0_p)] 122] w0) (feet [cellCh b1 [v2, (.int .i64 r_0_p)] 122]) w0 (wpAnyH Tryd.prog .any (opsAt Tryd.f128 [1, 1, 1, 0]) Qd (Mem (gB F [cellCh b1 [v2, (.int .i64 r_0_p)] 122] w0) (feet [cellCh b1 [v2, (.int .i64 r_0_p)] 122]) w0 [cellCh b5 [(.int .i64 0), (.int .i64 0)] 83, snapCh w0 F]) 7 #[true, true, false, true, true, true, true, true, true, true, false, false, false, false, false, false]) [(0, (.pointer (some ⟨b1, 0, none⟩))), (1, (.int .i64 top_1)), (2, (.int .i64 n_2)), (6, (.pointer (some ⟨b5, 0, none⟩))), (7, (.pointer (some ⟨b10, 0, none⟩))), (30, (.int .i64 top_1)), (31, (.pointer (some ⟨b10, 0, none⟩))), (37, v166), (39, (.int .i64 r167))] [cellCh b1 [v2, (.int .i64 r168)] 122, ownCh elInt 3 v166 ([0, r162, r164, 4096]), cellCh b10 [(.int .i64 t145), (.int .i64 0)] 83, cellCh b5 [(.int .i64 0), (.int .i64 0)] 83, snapCh w0 F] (idxW ([0, r162, r164, 4096]) r167 (fun e157 => k149 (r168, (min top_1 (w64 (t145 + e157)))))) := by
        intro r162 r163 r164 r165 v166 r167 r168
        refine d_two (i := 2) (j := 10) rfl rfl (by kernel_rfl) ?_ ?_
        · intro o ho; cases ho
          refine o_ldc m_op (v := (.int .i64 t145)) 2 rfl rfl rfl ty3 rfl ?_
          refine d_and (fun w m => m.pick [3, 4] rfl) ?_
          refine pk [0, 1, 2, 3, 4] rfl ?_
          refine re (E' := [(0, (.pointer (some ⟨b1, 0, none⟩))), (1, (.int .i64 top_1)), (2, (.int .i64 n_2)), (6, (.pointer (some ⟨b5, 0, none⟩))), (7, (.pointer (some ⟨b10, 0, none⟩))), (30, (.int .i64 top_1)), (32, (.int .i64 t145)), (37, v166), (39, (.int .i64 r167))]) ⟨rfl, rfl, rfl, rfl, rfl, rfl, rfl, rfl, rfl, trivial⟩ ?_
          exact H60 r162 r163 r164 r165 v166 r167 r168
        · intro o ho; cases ho
          refine o_idx m_op 1 rfl reads_own rfl rfl rfl el99 ?_; intro e169 h170
          refine d_and (fun w m => m.pick [3, 4] rfl) ?_
          refine pk [0, 1, 2, 3, 4] rfl ?_
          refine re (E' := [(0, (.pointer (some ⟨b1, 0, none⟩))), (1, (.int .i64 top_1)), (2, (.int .i64 n_2)), (6, (.pointer (some ⟨b5, 0, none⟩))), (7, (.pointer (some ⟨b10, 0, none⟩))), (30, (.int .i64 top_1)), (31, (.pointer (some ⟨b10, 0, none⟩))), (40, (pEl v166 r167 1 0))]) ⟨rfl, rfl, rfl, rfl, rfl, rfl, rfl, rfl, trivial⟩ ?_
          exact H67 r162 r163 r164 r165 v166 r167 r168 e169 h170
      have H69 : ∀ (r162 : Int) (r163 : Int) (r164 : Int) (r165 : Int) (v166 : Value), Nx 68 (gB F [cellCh b1 [v2, (.int .i64 r_0_p)] 122] w0) (feet [cellCh b1 [v2, (.int .i64 r_0_p)] 122]) w0 (wpAnyH Tryd.prog .any (opsAt Tryd.f128 [1, 1, 1, 0]) Qd (Mem (gB F [cellCh b1 [v2, (.int .i64 r_0_p)] 122] w0) (feet [cellCh b1 [v2, (.int .i64 r_0_p)] 122]) w0 [cellCh b5 [(.int .i64 0), (.int .i64 0)] 83, snapCh w0 F]) 8 #[true, true, false, true, true, true, true, true, true, false, false, false, false, false, false, false]) [(0, (.pointer (some ⟨b1, 0, none⟩))), (1, (.int .i64 top_1)), (2, (.int .i64 n_2)), (6, (.pointer (some ⟨b5, 0, none⟩))), (7, (.pointer (some ⟨b10, 0, none⟩))), (30, (.int .i64 top_1)), (31, (.pointer (some ⟨b10, 0, none⟩))), (38, (.pointer (some ⟨b1, 0, none⟩))), (37, v166)] [ownCh elInt 3 v166 ([0, r162, r164, 4096]), cellCh b1 [v2, (.int .i64 r165)] 122, cellCh b10 [(.int .i64 t145), (.int .i64 0)] 83, cellCh b5 [(.int .i64 0), (.int .i64 0)] 83, snapCh w0 F] (L_spec_l20Rd_pick r_0_b r165 4 (fun (r155, r156) => idxW ([0, r162, r164, 4096]) r155 (fun e157 => k149 (r156, (min top_1 (w64 (t145 + e157))))))) := by
        intro r162 r163 r164 r165 v166
        refine d_two (i := 2) (j := 9) rfl rfl (by kernel_rfl) ?_ ?_
        · intro o ho; cases ho
          refine o_ldc m_op (v := (.int .i64 t145)) 2 rfl rfl rfl ty3 rfl ?_
          refine d_and (fun w m => m.pick [3, 4] rfl) ?_
          refine pk [0, 1, 2, 3, 4] rfl ?_
          refine re (E' := [(0, (.pointer (some ⟨b1, 0, none⟩))), (1, (.int .i64 top_1)), (2, (.int .i64 n_2)), (6, (.pointer (some ⟨b5, 0, none⟩))), (7, (.pointer (some ⟨b10, 0, none⟩))), (30, (.int .i64 top_1)), (38, (.pointer (some ⟨b1, 0, none⟩))), (32, (.int .i64 t145)), (37, v166)]) ⟨rfl, rfl, rfl, rfl, rfl, rfl, rfl, rfl, rfl, trivial⟩ ?_
          exact H61 r162 r163 r164 r165 v166
        · intro o ho; cases ho
          refine pk [1, 0, 2, 3, 4] rfl ?_
          refine o_call (vs := [(.pointer (some ⟨b1, 0, none⟩)), (.int .i64 4)]) (M0 := [cellCh b1 [v2, (.int .i64 r165)] 122]) Tryd.call68 rfl rfl (by intro w m h; exact (w_spec_l20Rd_pick (F := allB [cellCh b1 [v2, (.int .i64 r165)] 122] w) (r_0_b := r_0_b) (r_0_p := r165) (n_1 := 4) allB_ok m.given (m.rdM 3 rfl (reads_snap hv2)) h).mono (fun _ _ k => ret_free (fun r u => (fr_cons free_cell fr_nil)) k)) ?_; rintro ⟨r167, r168⟩ _
          refine d_and (fun w m => m.pick [3, 4] rfl) ?_
          refine pk [0, 1, 2, 3, 4] rfl ?_
          refine re (E' := [(0, (.pointer (some ⟨b1, 0, none⟩))), (1, (.int .i64 top_1)), (2, (.int .i64 n_2)), (6, (.pointer (some ⟨b5, 0, none⟩))), (7, (.pointer (some ⟨b10, 0, none⟩))), (30, (.int .i64 top_1)), (31, (.pointer (some ⟨b10, 0, none⟩))), (37, v166), (39, (.int .i64 r167))]) ⟨rfl, rfl, rfl, rfl, rfl, rfl, rfl, rfl, rfl, trivial⟩ ?_
          exact H68 r162 r163 r164 r165 v166 r167 r168
      have H70 : ∀ (r162 : Int) (r163 : Int) (r164 : Int) (r165 : Int) (r171 : Int) (r172 : Int), Nx 68 (gB F [cellCh b1 [v2, (.int .i64 r_0_p)] 122] w0) (feet [cellCh b1 [v2, (.int .i64 r_0_p)] 122]) w0 (wpAnyH Tryd.prog .any (opsAt Tryd.f128 [1, 1, 1, 0]) Qd (Mem (gB F [cellCh b1 [v2, (.int .i64 r_0_p)] 122] w0) (feet [cellCh b1 [v2, (.int .i64 r_0_p)] 122]) w0 [cellCh b5 [(.int .i64 0), (.int .i64 0)] 83, snapCh w0 F]) 8 #[true, true, false, true, true, true, true, false, true, true, false, false, false, false, false, false]) [(0, (.pointer (some ⟨b1, 0, none⟩))), (1, (.int .i64 top_1)), (2, (.int .i64 n_2)), (6, (.pointer (some ⟨b5, 0, none⟩))), (7, (.pointer (some ⟨b10, 0, none⟩))), (30, (.int .i64 top_1)), (31, (.pointer (some ⟨b10, 0, none⟩))), (34, (.int .i64 r162)), (36, (.int .i64 r164)), (39, (.int .i64 r171))] [cellCh b1 [v2, (.int .i64 r172)] 122, cellCh b10 [(.int .i64 t145), (.int .i64 0)] 83, cellCh b5 [(.int .i64 0), (.int .i64 0)] 83, snapCh w0 F] (idxW ([0, r162, r164, 4096]) r171 (fun e157 => k149 (r172, (min top_1 (w64 (t145 + e157)))))) := by
        intro r162 r163 r164 r165 r171 r172
        refine d_two (i := 2) (j := 7) rfl rfl (by kernel_rfl) ?_ ?_
        · intro o ho; cases ho
          refine o_ldc m_op (v := (.int .i64 t145)) 1 rfl rfl rfl ty3 rfl ?_
          refine d_and (fun w m => m.pick [2, 3] rfl) ?_
          refine pk [0, 1, 2, 3] rfl ?_
          refine re (E' := [(0, (.pointer (some ⟨b1, 0, none⟩))), (1, (.int .i64 top_1)), (2, (.int .i64 n_2)), (6, (.pointer (some ⟨b5, 0, none⟩))), (7, (.pointer (some ⟨b10, 0, none⟩))), (30, (.int .i64 top_1)), (32, (.int .i64 t145)), (34, (.int .i64 r162)), (36, (.int .i64 r164)), (39, (.int .i64 r171))]) ⟨rfl, rfl, rfl, rfl, rfl, rfl, rfl, rfl, rfl, rfl, trivial⟩ ?_
          exact H62 r162 r163 r164 r165 r171 r172
        · intro o ho; cases ho
          refine o_bsl (enc := encInt) (qs := [(0, (.int .i64 0)), (1, (.int .i64 r162)), (2, (.int .i64 r164)), (3, (.int .i64 4096))]) (cells := [(.int .i64 0), (.int .i64 r162), (.int .i64 r164), (.int .i64 4096)]) ([0, r162, r164, 4096]) flelInt (by intro ρ h; simp only [List.map_toArray, List.map_cons, List.map_nil, h (.const (.int .i64 0)) _ rfl, h (.tmp 34) _ rfl, h (.tmp 36) _ rfl, h (.const (.int .i64 4096)) _ rfl]) rfl el99 zero3 rfl rfl rfl rfl rfl rfl ?_; intro v173
          refine d_and (fun w m => m.pick [3, 4] rfl) ?_
          refine pk [1, 0, 2, 3, 4] rfl ?_
          refine re (E' := [(0, (.pointer (some ⟨b1, 0, none⟩))), (1, (.int .i64 top_1)), (2, (.int .i64 n_2)), (6, (.pointer (some ⟨b5, 0, none⟩))), (7, (.pointer (some ⟨b10, 0, none⟩))), (30, (.int .i64 top_1)), (31, (.pointer (some ⟨b10, 0, none⟩))), (37, v173), (39, (.int .i64 r171))]) ⟨rfl, rfl, rfl, rfl, rfl, rfl, rfl, rfl, rfl, trivial⟩ ?_
          exact H68 r162 r163 r164 r165 v173 r171 r172
      have H71 : ∀ (r162 : Int) (r163 : Int) (r164 : Int) (r165 : Int), Nx 68 (gB F [cellCh b1 [v2, (.int .i64 r_0_p)] 122] w0) (feet [cellCh b1 [v2, (.int .i64 r_0_p)] 122]) w0 (wpAnyH Tryd.prog .any (opsAt Tryd.f128 [1, 1, 1, 0]) Qd (Mem (gB F [cellCh b1 [v2, (.int .i64 r_0_p)] 122] w0) (feet [cellCh b1 [v2, (.int .i64 r_0_p)] 122]) w0 [cellCh b5 [(.int .i64 0), (.int .i64 0)] 83, snapCh w0 F]) 9 #[true, true, false, true, true, true, true, false, true, false, false, false, false, false, false, false]) [(0, (.pointer (some ⟨b1, 0, none⟩))), (1, (.int .i64 top_1)), (2, (.int .i64 n_2)), (6, (.pointer (some ⟨b5, 0, none⟩))), (7, (.pointer (some ⟨b10, 0, none⟩))), (30, (.int .i64 top_1)), (31, (.pointer (some ⟨b10, 0, none⟩))), (38, (.pointer (some ⟨b1, 0, none⟩))), (34, (.int .i64 r162)), (36, (.int .i64 r164))] [cellCh b1 [v2, (.int .i64 r165)] 122, cellCh b10 [(.int .i64 t145), (.int .i64 0)] 83, cellCh b5 [(.int .i64 0), (.int .i64 0)] 83, snapCh w0 F] (L_spec_l20Rd_pick r_0_b r165 4 (fun (r155, r156) => idxW ([0, r162, r164, 4096]) r155 (fun e157 => k149 (r156, (min top_1 (w64 (t145 + e157))))))) := by
        intro r162 r163 r164 r165
        refine d_three (i := 2) (j := 7) (l := 9) rfl rfl rfl (by kernel_rfl) ?_ ?_ ?_
        · intro o ho; cases ho
          refine o_ldc m_op (v := (.int .i64 t145)) 1 rfl rfl rfl ty3 rfl ?_
          refine d_and (fun w m => m.pick [2, 3] rfl) ?_
          refine pk [0, 1, 2, 3] rfl ?_
          refine re (E' := [(0, (.pointer (some ⟨b1, 0, none⟩))), (1, (.int .i64 top_1)), (2, (.int .i64 n_2)), (6, (.pointer (some ⟨b5, 0, none⟩))), (7, (.pointer (some ⟨b10, 0, none⟩))), (30, (.int .i64 top_1)), (38, (.pointer (some ⟨b1, 0, none⟩))), (32, (.int .i64 t145)), (34, (.int .i64 r162)), (36, (.int .i64 r164))]) ⟨rfl, rfl, rfl, rfl, rfl, rfl, rfl, rfl, rfl, rfl, trivial⟩ ?_
          exact H63 r162 r163 r164 r165
        · intro o ho; cases ho
          refine o_bsl (enc := encInt) (qs := [(0, (.int .i64 0)), (1, (.int .i64 r162)), (2, (.int .i64 r164)), (3, (.int .i64 4096))]) (cells := [(.int .i64 0), (.int .i64 r162), (.int .i64 r164), (.int .i64 4096)]) ([0, r162, r164, 4096]) flelInt (by intro ρ h; simp only [List.map_toArray, List.map_cons, List.map_nil, h (.const (.int .i64 0)) _ rfl, h (.tmp 34) _ rfl, h (.tmp 36) _ rfl, h (.const (.int .i64 4096)) _ rfl]) rfl el99 zero3 rfl rfl rfl rfl rfl rfl ?_; intro v166
          refine d_and (fun w m => m.pick [3, 4] rfl) ?_
          refine pk [0, 1, 2, 3, 4] rfl ?_
          refine re (E' := [(0, (.pointer (some ⟨b1, 0, none⟩))), (1, (.int .i64 top_1)), (2, (.int .i64 n_2)), (6, (.pointer (some ⟨b5, 0, none⟩))), (7, (.pointer (some ⟨b10, 0, none⟩))), (30, (.int .i64 top_1)), (31, (.pointer (some ⟨b10, 0, none⟩))), (38, (.pointer (some ⟨b1, 0, none⟩))), (37, v166)]) ⟨rfl, rfl, rfl, rfl, rfl, rfl, rfl, rfl, rfl, trivial⟩ ?_
          exact H69 r162 r163 r164 r165 v166
        · intro o ho; cases ho
          refine o_call (vs := [(.pointer (some ⟨b1, 0, none⟩)), (.int .i64 4)]) (M0 := [cellCh b1 [v2, (.int .i64 r165)] 122]) Tryd.call68 rfl rfl (by intro w m h; exact (w_spec_l20Rd_pick (F := allB [cellCh b1 [v2, (.int .i64 r165)] 122] w) (r_0_b := r_0_b) (r_0_p := r165) (n_1 := 4) allB_ok m.given (m.rdM 2 rfl (reads_snap hv2)) h).mono (fun _ _ k => ret_free (fun r u => (fr_cons free_cell fr_nil)) k)) ?_; rintro ⟨r171, r172⟩ _
          refine d_and (fun w m => m.pick [2, 3] rfl) ?_
          refine pk [0, 1, 2, 3] rfl ?_
          refine re (E' := [(0, (.pointer (some ⟨b1, 0, none⟩))), (1, (.int .i64 top_1)), (2, (.int .i64 n_2)), (6, (.pointer (some ⟨b5, 0, none⟩))), (7, (.pointer (some ⟨b10, 0, none⟩))), (30, (.int .i64 top_1)), (31, (.pointer (some ⟨b10, 0, none⟩))), (34, (.int .i64 r162)), (36, (.int .i64 r164)), (39, (.int .i64 r171))]) ⟨rfl, rfl, rfl, rfl, rfl, rfl, rfl, rfl, rfl, rfl, trivial⟩ ?_
          exact H70 r162 r163 r164 r165 r171 r172
      have H72 : ∀ (r162 : Int) (r163 : Int), Nx 68 (gB F [cellCh b1 [v2, (.int .i64 r_0_p)] 122] w0) (feet [cellCh b1 [v2, (.int .i64 r_0_p)] 122]) w0 (wpAnyH Tryd.prog .any (opsAt Tryd.f128 [1, 1, 1, 0]) Qd (Mem (gB F [cellCh b1 [v2, (.int .i64 r_0_p)] 122] w0) (feet [cellCh b1 [v2, (.int .i64 r_0_p)] 122]) w0 [cellCh b5 [(.int .i64 0), (.int .i64 0)] 83, snapCh w0 F]) 10 #[true, true, false, true, true, true, false, false, true, false, false, false, false, false, false, false]) [(0, (.pointer (some ⟨b1, 0, none⟩))), (1, (.int .i64 top_1)), (2, (.int .i64 n_2)), (6, (.pointer (some ⟨b5, 0, none⟩))), (7, (.pointer (some ⟨b10, 0, none⟩))), (30, (.int .i64 top_1)), (31, (.pointer (some ⟨b10, 0, none⟩))), (35, (.pointer (some ⟨b1, 0, none⟩))), (38, (.pointer (some ⟨b1, 0, none⟩))), (34, (.int .i64 r162))] [cellCh b1 [v2, (.int .i64 r163)] 122, cellCh b10 [(.int .i64 t145), (.int .i64 0)] 83, cellCh b5 [(.int .i64 0), (.int .i64 0)] 83, snapCh w0 F] (L_spec_l20Rd_pick r_0_b r163 256 (fun (r152, r153) => L_spec_l20Rd_pick r_0_b r153 4 (fun (r155, r156) => idxW ([0, r162, r152, 4096]) r155 (fun e157 => k149 (r156, (min top_1 (w64 (t145 + e157)))))))) := by
        intro r162 r163
        refine d_two (i := 2) (j := 6) rfl rfl (by kernel_rfl) ?_ ?_
        · intro o ho; cases ho
          refine o_ldc m_op (v := (.int .i64 t145)) 1 rfl rfl rfl ty3 rfl ?_
          refine d_and (fun w m => m.pick [2, 3] rfl) ?_
          refine pk [0, 1, 2, 3] rfl ?_
          refine re (E' := [(0, (.pointer (some ⟨b1, 0, none⟩))), (1, (.int .i64 top_1)), (2, (.int .i64 n_2)), (6, (.pointer (some ⟨b5, 0, none⟩))), (7, (.pointer (some ⟨b10, 0, none⟩))), (30, (.int .i64 top_1)), (35, (.pointer (some ⟨b1, 0, none⟩))), (38, (.pointer (some ⟨b1, 0, none⟩))), (32, (.int .i64 t145)), (34, (.int .i64 r162))]) ⟨rfl, rfl, rfl, rfl, rfl, rfl, rfl, rfl, rfl, rfl, trivial⟩ ?_
          exact H64 r162 r163
        · intro o ho; cases ho
          refine o_call (vs := [(.pointer (some ⟨b1, 0, none⟩)), (.int .i64 256)]) (M0 := [cellCh b1 [v2, (.int .i64 r163)] 122]) Tryd.call68 rfl rfl (by intro w m h; exact (w_spec_l20Rd_pick (F := allB [cellCh b1 [v2, (.int .i64 r163)] 122] w) (r_0_b := r_0_b) (r_0_p := r163) (n_1 := 256) allB_ok m.given (m.rdM 2 rfl (reads_snap hv2)) h).mono (fun _ _ k => ret_free (fun r u => (fr_cons free_cell fr_nil)) k)) ?_; rintro ⟨r164, r165⟩ _
          refine d_and (fun w m => m.pick [2, 3] rfl) ?_
          refine pk [0, 1, 2, 3] rfl ?_
          refine re (E' := [(0, (.pointer (some ⟨b1, 0, none⟩))), (1, (.int .i64 top_1)), (2, (.int .i64 n_2)), (6, (.pointer (some ⟨b5, 0, none⟩))), (7, (.pointer (some ⟨b10, 0, none⟩))), (30, (.int .i64 top_1)), (31, (.pointer (some ⟨b10, 0, none⟩))), (38, (.pointer (some ⟨b1, 0, none⟩))), (34, (.int .i64 r162)), (36, (.int .i64 r164))]) ⟨rfl, rfl, rfl, rfl, rfl, rfl, rfl, rfl, rfl, rfl, trivial⟩ ?_
          exact H71 r162 r163 r164 r165
      refine o_mv (dt 0 (fun w m => m.pick [2, 3] rfl)) rfl rfl ?_
      refine o_fad (dt 1 (fun w m => m.pick [2, 3] rfl)) rfl rfl fld83_0 rfl ?_
      refine o_mv (dt 3 (fun w m => m.pick [2, 3] rfl)) rfl rfl ?_
      refine o_mv (dt 5 (fun w m => m.pick [2, 3] rfl)) rfl rfl ?_
      refine o_mv (dt 8 (fun w m => m.pick [2, 3] rfl)) rfl rfl ?_
      refine d_two (i := 2) (j := 4) rfl rfl (by kernel_rfl) ?_ ?_
      · intro o ho; cases ho
        refine o_ldc m_op (v := (.int .i64 t145)) 1 rfl rfl rfl ty3 rfl ?_
        refine d_and (fun w m => m.pick [2, 3] rfl) ?_
        refine pk [0, 1, 2, 3] rfl ?_
        refine re (E' := [(0, (.pointer (some ⟨b1, 0, none⟩))), (1, (.int .i64 top_1)), (2, (.int .i64 n_2)), (6, (.pointer (some ⟨b5, 0, none⟩))), (7, (.pointer (some ⟨b10, 0, none⟩))), (30, (.int .i64 top_1)), (33, (.pointer (some ⟨b1, 0, none⟩))), (35, (.pointer (some ⟨b1, 0, none⟩))), (38, (.pointer (some ⟨b1, 0, none⟩))), (32, (.int .i64 t145))]) ⟨rfl, rfl, rfl, rfl, rfl, rfl, rfl, rfl, rfl, rfl, trivial⟩ ?_
        exact H65 ()
      · intro o ho; cases ho
        refine o_call (vs := [(.pointer (some ⟨b1, 0, none⟩)), (.int .i64 4)]) (M0 := [cellCh b1 [v2, (.int .i64 t144)] 122]) Tryd.call68 rfl rfl (by intro w m h; exact (w_spec_l20Rd_pick (F := allB [cellCh b1 [v2, (.int .i64 t144)] 122] w) (r_0_b := r_0_b) (r_0_p := t144) (n_1 := 4) allB_ok m.given (m.rdM 2 rfl (reads_snap hv2)) h).mono (fun _ _ k => ret_free (fun r u => (fr_cons free_cell fr_nil)) k)) ?_; rintro ⟨r162, r163⟩ _
        refine d_and (fun w m => m.pick [2, 3] rfl) ?_
        refine pk [0, 1, 2, 3] rfl ?_
        refine re (E' := [(0, (.pointer (some ⟨b1, 0, none⟩))), (1, (.int .i64 top_1)), (2, (.int .i64 n_2)), (6, (.pointer (some ⟨b5, 0, none⟩))), (7, (.pointer (some ⟨b10, 0, none⟩))), (30, (.int .i64 top_1)), (31, (.pointer (some ⟨b10, 0, none⟩))), (35, (.pointer (some ⟨b1, 0, none⟩))), (38, (.pointer (some ⟨b1, 0, none⟩))), (34, (.int .i64 r162))]) ⟨rfl, rfl, rfl, rfl, rfl, rfl, rfl, rfl, rfl, rfl, trivial⟩ ?_
        exact H72 r162 r163
    · rintro ⟨t147, t148⟩ a w ⟨hE, hm⟩ h
      refine nx_of hE hm h ?_
      clear hE hm h
      refine c_seq ?_
      refine c_seq ?_
      refine c_region ?_
      refine o_mv st rfl rfl ?_
      refine o_mv st rfl rfl ?_
      refine stw (o_call (vs := [(.pointer (some ⟨b1, 0, none⟩)), (.int .i64 n_2)]) (M0 := [cellCh b1 [v2, (.int .i64 t147)] 122]) Tryd.call85 rfl rfl (by intro w m h; exact (w_spec_l20Rd_odd (F := allB [cellCh b1 [v2, (.int .i64 t147)] 122] w) (r_0_b := r_0_b) (r_0_p := t147) (n_1 := n_2) allB_ok m.given (m.rdM 2 rfl (reads_snap hv2)) h).mono (fun _ _ k => ret_free (fun r u => (fr_cons free_cell fr_nil)) k)) ?_); rintro ⟨r174, r175⟩ _
      refine c_nil ?_
      refine l_then ?_
      refine c_cond rfl ?_ ?_
      · refine c_join (σ := (Int × Int × Int)) (fun ((t176, t177, t178) : (Int × Int × Int)) (a : Act) (w : World) => Has 68 [(6, (.pointer (some ⟨b5, 0, none⟩)))] a ∧ Mem (gB F [cellCh b1 [v2, (.int .i64 r_0_p)] 122] w0) (feet [cellCh b1 [v2, (.int .i64 r_0_p)] 122]) w0 [cellCh b1 [v2, (.int .i64 t176)] 122, cellCh b5 [(.int .i64 t177), (.int .i64 t178)] 83, snapCh w0 F] w) ?_ ?_
        · intro k179
          refine c_drawQ mixed 20 rfl [cellCh b10 [(.int .i64 t145), (.int .i64 t148)] 83, snapCh w0 F] ?_
          intro Qd hP hQ
          have H81 : ∀ (v180 : Value) (r181 : Int) (r182 : Int) (e183 : GSpan) (h184 : ([(GSpan.mk (w64 (t148 + 1)) t148), (GSpan.mk (-1) t148), (GSpan.mk t145 (w64 (top_1 + 1)))])[(r181).toNat]? = some e183), Nx 68 (gB F [cellCh b1 [v2, (.int .i64 r_0_p)] 122] w0) (feet [cellCh b1 [v2, (.int .i64 r_0_p)] 122]) w0 (wpAnyH Tryd.prog .any (opsAt Tryd.f128 [1, 1, 1, 1, 0, 1, 0, 0]) Qd (Mem (gB F [cellCh b1 [v2, (.int .i64 r_0_p)] 122] w0) (feet [cellCh b1 [v2, (.int .i64 r_0_p)] 122]) w0 [cellCh b10 [(.int .i64 t145), (.int .i64 t148)] 83, snapCh w0 F]) 0 #[true, true, true, true, true, true, true, true, true, true, true, true, true, true, true, true, true, true, true, true]) [(6, (.pointer (some ⟨b5, 0, none⟩)))] [cellCh b1 [v2, (.int .i64 r182)] 122, cellCh b10 [(.int .i64 t145), (.int .i64 t148)] 83, cellCh b5 [(.int .i64 e183.xLo), (.int .i64 e183.xHi)] 83, snapCh w0 F] (k179 (r182, e183.xLo, e183.xHi)) := by
            intro v180 r181 r182 e183 h184
            refine d_done (by kernel_rfl) ?_
            exact fun a w hE hm hφ => hQ (r182, e183.xLo, e183.xHi) a w hφ ((fun a w hE hm => ⟨hE.sub ⟨rfl, trivial⟩, (hm.pick [0, 2, 3] rfl)⟩) a w hE hm)
          have H82 : ∀ (v180 : Value) (r181 : Int) (r182 : Int) (e183 : GSpan) (h184 : ([(GSpan.mk (w64 (t148 + 1)) t148), (GSpan.mk (-1) t148), (GSpan.mk t145 (w64 (top_1 + 1)))])[(r181).toNat]? = some e183), Nx 68 (gB F [cellCh b1 [v2, (.int .i64 r_0_p)] 122] w0) (feet [cellCh b1 [v2, (.int .i64 r_0_p)] 122]) w0 (wpAnyH Tryd.prog .any (opsAt Tryd.f128 [1, 1, 1, 1, 0, 1, 0, 0]) Qd (Mem (gB F [cellCh b1 [v2, (.int .i64 r_0_p)] 122] w0) (feet [cellCh b1 [v2, (.int .i64 r_0_p)] 122]) w0 [cellCh b10 [(.int .i64 t145), (.int .i64 t148)] 83, snapCh w0 F]) 1 #[true, true, true, true, true, true, true, true, true, true, true, true, true, true, true, true, true, true, true, false]) [(6, (.pointer (some ⟨b5, 0, none⟩))), (66, (.agg #[(.int .i64 e183.xLo), (.int .i64 e183.xHi)]))] [cellCh b1 [v2, (.int .i64 r182)] 122, cellCh b10 [(.int .i64 t145), (.int .i64 t148)] 83, cellCh b5 [(.int .i64 0), (.int .i64 0)] 83, snapCh w0 F] (k179 (r182, e183.xLo, e183.xHi)) := by
            intro v180 r181 r182 e183 h184
            refine d_one (i := 19) rfl (by kernel_rfl) (o_stc (cs' := [(.int .i64 e183.xLo), (.int .i64 e183.xHi)]) 2 rfl rfl rfl ty83 rfl rfl rfl rfl ?_)
            refine d_and (fun w m => m.pick [1, 3] rfl) ?_
            refine pk [0, 1, 2, 3] rfl ?_
            refine re (E' := [(6, (.pointer (some ⟨b5, 0, none⟩)))]) ⟨rfl, trivial⟩ ?_
            exact H81 v180 r181 r182 e183 h184
          have H83 : ∀ (v180 : Value) (r181 : Int) (r182 : Int) (e183 : GSpan) (h184 : ([(GSpan.mk (w64 (t148 + 1)) t148), (GSpan.mk (-1) t148), (GSpan.mk t145 (w64 (top_1 + 1)))])[(r181).toNat]? = some e183), Nx 68 (gB F [cellCh b1 [v2, (.int .i64 r_0_p)] 122] w0) (feet [cellCh b1 [v2, (.int .i64 r_0_p)] 122]) w0 (wpAnyH Tryd.prog .any (opsAt Tryd.f128 [1, 1, 1, 1, 0, 1, 0, 0]) Qd (Mem (gB F [cellCh b1 [v2, (.int .i64 r_0_p)] 122] w0) (feet [cellCh b1 [v2, (.int .i64 r_0_p)] 122]) w0 [cellCh b10 [(.int .i64 t145), (.int .i64 t148)] 83, snapCh w0 F]) 2 #[true, true, true, true, true, true, true, true, true, true, true, true, true, true, true, true, true, true, false, false]) [(6, (.pointer (some ⟨b5, 0, none⟩))), (65, (pEl v180 r181 2 0))] [cellCh b1 [v2, (.int .i64 r182)] 122, ownCh elGSpan 83 v180 ([(GSpan.mk (w64 (t148 + 1)) t148), (GSpan.mk (-1) t148), (GSpan.mk t145 (w64 (top_1 + 1)))]), cellCh b10 [(.int .i64 t145), (.int .i64 t148)] 83, cellCh b5 [(.int .i64 0), (.int .i64 0)] 83, snapCh w0 F] (k179 (r182, e183.xLo, e183.xHi)) := by
            intro v180 r181 r182 e183 h184
            refine d_one (i := 18) rfl (by kernel_rfl) (o_lds m_op (enc := encGSpan) (u := (.agg #[(.int .i64 e183.xLo), (.int .i64 e183.xHi)])) 1 rfl reads_own flelGSpan rfl h184 rfl rfl ty83 rfl ?_)
            refine d_and (fun w m => m.pick [2, 4] rfl) ?_
            refine pk [0, 2, 3, 4] rfl ?_
            refine re (E' := [(6, (.pointer (some ⟨b5, 0, none⟩))), (66, (.agg #[(.int .i64 e183.xLo), (.int .i64 e183.xHi)]))]) ⟨rfl, rfl, trivial⟩ ?_
            exact H82 v180 r181 r182 e183 h184
          have H84 : ∀ (v180 : Value) (r181 : Int) (r182 : Int), Nx 68 (gB F [cellCh b1 [v2, (.int .i64 r_0_p)] 122] w0) (feet [cellCh b1 [v2, (.int .i64 r_0_p)] 122]) w0 (wpAnyH Tryd.prog .any (opsAt Tryd.f128 [1, 1, 1, 1, 0, 1, 0, 0]) Qd (Mem (gB F [cellCh b1 [v2, (.int .i64 r_0_p)] 122] w0) (feet [cellCh b1 [v2, (.int .i64 r_0_p)] 122]) w0 [cellCh b10 [(.int .i64 t145), (.int .i64 t148)] 83, snapCh w0 F]) 3 #[true, true, true, true, true, true, true, true, true, true, true, true, true, true, true, true, true, false, false, false]) [(6, (.pointer (some ⟨b5, 0, none⟩))), (62, v180), (64, (.int .i64 r181))] [cellCh b1 [v2, (.int .i64 r182)] 122, ownCh elGSpan 83 v180 ([(GSpan.mk (w64 (t148 + 1)) t148), (GSpan.mk (-1) t148), (GSpan.mk t145 (w64 (top_1 + 1)))]), cellCh b10 [(.int .i64 t145), (.int .i64 t148)] 83, cellCh b5 [(.int .i64 0), (.int .i64 0)] 83, snapCh w0 F] (idxW ([(GSpan.mk (w64 (t148 + 1)) t148), (GSpan.mk (-1) t148), (GSpan.mk t145 (w64 (top_1 + 1)))]) r181 (fun e183 => k179 (r182, e183.xLo, e183.xHi))) := by
            intro v180 r181 r182
            refine d_one (i := 17) rfl (by kernel_rfl) (o_idx m_op 1 rfl reads_own rfl rfl rfl el84 ?_); intro e183 h184
            refine d_and (fun w m => m.pick [2, 4] rfl) ?_
            refine pk [0, 1, 2, 3, 4] rfl ?_
            refine re (E' := [(6, (.pointer (some ⟨b5, 0, none⟩))), (65, (pEl v180 r181 2 0))]) ⟨rfl, rfl, trivial⟩ ?_
            exact H83 v180 r181 r182 e183 h184
          have H85 : ∀ (v180 : Value), Nx 68 (gB F [cellCh b1 [v2, (.int .i64 r_0_p)] 122] w0) (feet [cellCh b1 [v2, (.int .i64 r_0_p)] 122]) w0 (wpAnyH Tryd.prog .any (opsAt Tryd.f128 [1, 1, 1, 1, 0, 1, 0, 0]) Qd (Mem (gB F [cellCh b1 [v2, (.int .i64 r_0_p)] 122] w0) (feet [cellCh b1 [v2, (.int .i64 r_0_p)] 122]) w0 [cellCh b10 [(.int .i64 t145), (.int .i64 t148)] 83, snapCh w0 F]) 4 #[true, true, true, true, true, true, true, true, true, true, true, true, true, true, true, true, false, false, false, false]) [(6, (.pointer (some ⟨b5, 0, none⟩))), (63, (.pointer (some ⟨b1, 0, none⟩))), (62, v180)] [ownCh elGSpan 83 v180 ([(GSpan.mk (w64 (t148 + 1)) t148), (GSpan.mk (-1) t148), (GSpan.mk t145 (w64 (top_1 + 1)))]), cellCh b1 [v2, (.int .i64 r175)] 122, cellCh b10 [(.int .i64 t145), (.int .i64 t148)] 83, cellCh b5 [(.int .i64 0), (.int .i64 0)] 83, snapCh w0 F] (L_spec_l20Rd_pick r_0_b r175 3 (fun (r181, r182) => idxW ([(GSpan.mk (w64 (t148 + 1)) t148), (GSpan.mk (-1) t148), (GSpan.mk t145 (w64 (top_1 + 1)))]) r181 (fun e183 => k179 (r182, e183.xLo, e183.xHi)))) := by
            intro v180
            refine pk [1, 0, 2, 3, 4] rfl ?_
            refine d_one (i := 16) rfl (by kernel_rfl) (o_call (vs := [(.pointer (some ⟨b1, 0, none⟩)), (.int .i64 3)]) (M0 := [cellCh b1 [v2, (.int .i64 r175)] 122]) Tryd.call68 rfl rfl (by intro w m h; exact (w_spec_l20Rd_pick (F := allB [cellCh b1 [v2, (.int .i64 r175)] 122] w) (r_0_b := r_0_b) (r_0_p := r175) (n_1 := 3) allB_ok m.given (m.rdM 3 rfl (reads_snap hv2)) h).mono (fun _ _ k => ret_free (fun r u => (fr_cons free_cell fr_nil)) k)) ?_); rintro ⟨r181, r182⟩ _
            refine d_and (fun w m => m.pick [2, 4] rfl) ?_
            refine pk [0, 1, 2, 3, 4] rfl ?_
            refine re (E' := [(6, (.pointer (some ⟨b5, 0, none⟩))), (62, v180), (64, (.int .i64 r181))]) ⟨rfl, rfl, rfl, trivial⟩ ?_
            exact H84 v180 r181 r182
          have H86 : ∀ (r185 : Int) (r186 : Int), Nx 68 (gB F [cellCh b1 [v2, (.int .i64 r_0_p)] 122] w0) (feet [cellCh b1 [v2, (.int .i64 r_0_p)] 122]) w0 (wpAnyH Tryd.prog .any (opsAt Tryd.f128 [1, 1, 1, 1, 0, 1, 0, 0]) Qd (Mem (gB F [cellCh b1 [v2, (.int .i64 r_0_p)] 122] w0) (feet [cellCh b1 [v2, (.int .i64 r_0_p)] 122]) w0 [cellCh b10 [(.int .i64 t145), (.int .i64 t148)] 83, snapCh w0 F]) 4 #[true, true, true, true, true, true, true, true, true, true, true, true, true, true, false, true, true, false, false, false]) [(6, (.pointer (some ⟨b5, 0, none⟩))), (53, (.agg #[(.int .i64 (w64 (t148 + 1))), (.int .i64 t148)])), (56, (.agg #[(.int .i64 (-1)), (.int .i64 t148)])), (61, (.agg #[(.int .i64 t145), (.int .i64 (w64 (top_1 + 1)))])), (64, (.int .i64 r185))] [cellCh b1 [v2, (.int .i64 r186)] 122, cellCh b10 [(.int .i64 t145), (.int .i64 t148)] 83, cellCh b5 [(.int .i64 0), (.int .i64 0)] 83, snapCh w0 F] (idxW ([(GSpan.mk (w64 (t148 + 1)) t148), (GSpan.mk (-1) t148), (GSpan.mk t145 (w64 (top_1 + 1)))]) r185 (fun e183 => k179 (r186, e183.xLo, e183.xHi))) := by
            intro r185 r186
            refine d_one (i := 14) rfl (by kernel_rfl) (o_bsl (enc := encGSpan) (qs := [(0, (.agg #[(.int .i64 (w64 (t148 + 1))), (.int .i64 t148)])), (1, (.agg #[(.int .i64 (-1)), (.int .i64 t148)])), (2, (.agg #[(.int .i64 t145), (.int .i64 (w64 (top_1 + 1)))]))]) (cells := [(.int .i64 (w64 (t148 + 1))), (.int .i64 t148), (.int .i64 (-1)), (.int .i64 t148), (.int .i64 t145), (.int .i64 (w64 (top_1 + 1)))]) ([(GSpan.mk (w64 (t148 + 1)) t148), (GSpan.mk (-1) t148), (GSpan.mk t145 (w64 (top_1 + 1)))]) flelGSpan (by intro ρ h; simp only [List.map_toArray, List.map_cons, List.map_nil, h (.tmp 53) _ rfl, h (.tmp 56) _ rfl, h (.tmp 61) _ rfl]) rfl el84 zero83 rfl rfl rfl rfl rfl rfl ?_); intro v187
            refine d_and (fun w m => m.pick [2, 4] rfl) ?_
            refine pk [1, 0, 2, 3, 4] rfl ?_
            refine re (E' := [(6, (.pointer (some ⟨b5, 0, none⟩))), (62, v187), (64, (.int .i64 r185))]) ⟨rfl, rfl, rfl, trivial⟩ ?_
            exact H84 v187 r185 r186
          refine o_fad (dt 0 (fun w m => m.pick [1, 3] rfl)) rfl rfl fld83_1 rfl ?_
          refine o_ldc (dt 1 (fun w m => m.pick [1, 3] rfl)) (v := (.int .i64 t148)) 0 rfl rfl rfl ty3 rfl ?_
          refine o_addw (dt 2 (fun w m => m.pick [1, 3] rfl)) rfl rfl rfl ?_
          refine o_fad (dt 3 (fun w m => m.pick [1, 3] rfl)) rfl rfl fld83_1 rfl ?_
          refine o_ldc (dt 4 (fun w m => m.pick [1, 3] rfl)) (v := (.int .i64 t148)) 0 rfl rfl rfl ty3 rfl ?_
          refine o_bld (dt 5 (fun w m => m.pick [1, 3] rfl)) (qs := [(0, (.int .i64 (w64 (t148 + 1)))), (1, (.int .i64 t148))]) (cells := [(.int .i64 (w64 (t148 + 1))), (.int .i64 t148)]) (by intro ρ h; simp only [List.map_toArray, List.map_cons, List.map_nil, h (.tmp 50) _ rfl, h (.tmp 52) _ rfl]) rfl bld83 rfl ?_
          refine o_fad (dt 6 (fun w m => m.pick [1, 3] rfl)) rfl rfl fld83_1 rfl ?_
          refine o_ldc (dt 7 (fun w m => m.pick [1, 3] rfl)) (v := (.int .i64 t148)) 0 rfl rfl rfl ty3 rfl ?_
          refine o_bld (dt 8 (fun w m => m.pick [1, 3] rfl)) (qs := [(0, (.int .i64 (-1))), (1, (.int .i64 t148))]) (cells := [(.int .i64 (-1)), (.int .i64 t148)]) (by intro ρ h; simp only [List.map_toArray, List.map_cons, List.map_nil, h (.const (.int .i64 (-1))) _ rfl, h (.tmp 55) _ rfl]) rfl bld83 rfl ?_
          refine o_fad (dt 9 (fun w m => m.pick [1, 3] rfl)) rfl rfl fld83_0 rfl ?_
          refine o_ldc (dt 10 (fun w m => m.pick [1, 3] rfl)) (v := (.int .i64 t145)) 0 rfl rfl rfl ty3 rfl ?_
          refine o_mv (dt 11 (fun w m => m.pick [1, 3] rfl)) rfl rfl ?_
          refine o_addw (dt 12 (fun w m => m.pick [1, 3] rfl)) rfl rfl rfl ?_
          refine o_bld (dt 13 (fun w m => m.pick [1, 3] rfl)) (qs := [(0, (.int .i64 t145)), (1, (.int .i64 (w64 (top_1 + 1))))]) (cells := [(.int .i64 t145), (.int .i64 (w64 (top_1 + 1)))]) (by intro ρ h; simp only [List.map_toArray, List.map_cons, List.map_nil, h (.tmp 58) _ rfl, h (.tmp 60) _ rfl]) rfl bld83 rfl ?_
          refine o_mv (dt 15 (fun w m => m.pick [1, 3] rfl)) rfl rfl ?_
          refine d_two (i := 14) (j := 16) rfl rfl (by kernel_rfl) ?_ ?_
          · intro o ho; cases ho
            refine o_bsl (enc := encGSpan) (qs := [(0, (.agg #[(.int .i64 (w64 (t148 + 1))), (.int .i64 t148)])), (1, (.agg #[(.int .i64 (-1)), (.int .i64 t148)])), (2, (.agg #[(.int .i64 t145), (.int .i64 (w64 (top_1 + 1)))]))]) (cells := [(.int .i64 (w64 (t148 + 1))), (.int .i64 t148), (.int .i64 (-1)), (.int .i64 t148), (.int .i64 t145), (.int .i64 (w64 (top_1 + 1)))]) ([(GSpan.mk (w64 (t148 + 1)) t148), (GSpan.mk (-1) t148), (GSpan.mk t145 (w64 (top_1 + 1)))]) flelGSpan (by intro ρ h; simp only [List.map_toArray, List.map_cons, List.map_nil, h (.tmp 53) _ rfl, h (.tmp 56) _ rfl, h (.tmp 61) _ rfl]) rfl el84 zero83 rfl rfl rfl rfl rfl rfl ?_; intro v180
            refine d_and (fun w m => m.pick [2, 4] rfl) ?_
            refine pk [0, 1, 2, 3, 4] rfl ?_
            refine re (E' := [(6, (.pointer (some ⟨b5, 0, none⟩))), (63, (.pointer (some ⟨b1, 0, none⟩))), (62, v180)]) ⟨rfl, rfl, rfl, trivial⟩ ?_
            exact H85 v180
          · intro o ho; cases ho
            refine o_call (vs := [(.pointer (some ⟨b1, 0, none⟩)), (.int .i64 3)]) (M0 := [cellCh b1 [v2, (.int .i64 r175)] 122]) Tryd.call68 rfl rfl (by intro w m h; exact (w_spec_l20Rd_pick (F := allB [cellCh b1 [v2, (.int .i64 r175)] 122] w) (r_0_b := r_0_b) (r_0_p := r175) (n_1 := 3) allB_ok m.given (m.rdM 2 rfl (reads_snap hv2)) h).mono (fun _ _ k => ret_free (fun r u => (fr_cons free_cell fr_nil)) k)) ?_; rintro ⟨r185, r186⟩ _
            refine d_and (fun w m => m.pick [1, 3] rfl) ?_
            refine pk [0, 1, 2, 3] rfl ?_
            refine re (E' := [(6, (.pointer (some ⟨b5, 0, none⟩))), (53, (.agg #[(.int .i64 (w64 (t148 + 1))), (.int .i64 t148)])), (56, (.agg #[(.int .i64 (-1)), (.int .i64 t148)])), (61, (.agg #[(.int .i64 t145), (.int .i64 (w64 (top_1 + 1)))])), (64, (.int .i64 r185))]) ⟨rfl, rfl, rfl, rfl, rfl, trivial⟩ ?_
            exact H86 r185 r186
        · rintro ⟨t176, t177, t178⟩ a w ⟨hE, hm⟩ h
          refine nx_of hE hm h ?_
          clear hE hm h
          refine c_ret ?_
          refine l_ret ?_
          exact l_end1 Tryd.results128 ((GSpan.mk t177 t178), t176) () (rv_c 1 rfl rfl ty83 rfl) (fun w m => NewCh.ofB m [0] rfl)
      · refine c_skip ?_
        refine l_then ?_
        refine c_seq ?_
        refine c_region ?_
        refine o_ldc st (v := (.agg #[(.int .i64 t145), (.int .i64 t148)])) 1 rfl rfl rfl ty83 rfl ?_
        refine stw (o_stc (cs' := [(.int .i64 t145), (.int .i64 t148)]) 2 rfl rfl rfl ty83 rfl rfl rfl rfl ?_)
        refine c_nil ?_
        refine l_then ?_
        refine c_ret ?_
        exact l_end1 Tryd.results128 ((GSpan.mk t145 t148), r175) () (rv_c 2 rfl rfl ty83 rfl) (fun w m => NewCh.ofB m [0] rfl)

end

end Go.Proofs.YtigdghiknfehhaaDoor
