/- More pure forms (printed). -/
import Derived.Test.YtnogaeckmiekdaaDoorG3Pure
set_option linter.unusedSimpArgs false
set_option linter.unusedVariables false
namespace Go.Proofs.YtnogaeckmiekdaaDoor
open Go.RowKit
@[ext] structure GRuleset where
  xChains : (List (List GRule))
  xAccept : Bool
  deriving DecidableEq
def encGRuleset (u : Value) (x : GRuleset) : List Value := [u, (.bool x.xAccept)]
def elGRuleset : El GRuleset where
  size := 2
  cells := fun F w x cs => ∃ u : Value, cs = encGRuleset u x ∧ Sl (elSl elGRule) F w u x.xChains
  pos := by decide
  len := fun F w x cs ⟨u, e, _⟩ => by rw [e]; rfl
  one := fun F w x cs ⟨u, e, h⟩ v hv => by
    subst e
    simp only [encGRuleset, List.mem_cons, List.not_mem_nil, or_false] at hv
    rcases hv with e | e
    · subst e; exact h.one
    · subst e; exact rfl
  keep := fun F F' w w' x cs hF hb ⟨u, e, h⟩ => ⟨u, e, h.keep hF hb⟩
def dGRuleset : DEl GRuleset where
  el := elGRuleset
  own := fun B w x cs => ∃ u : Value, cs = encGRuleset u x ∧ Dp (dSl dGRule 53) 69 B w u x.xChains
  read := fun B w x cs ⟨u, e, h⟩ => ⟨u, e, h.sl⟩
  keep := fun B w w' x cs hk ⟨u, e, h⟩ => ⟨u, e, h.keep hk⟩
  lt := fun B w x cs ⟨u, e, h⟩ => h.lt
def L_spec_l20Rules (r_0_b : (List UInt8)) (r_0_p : Int) (first_1 : Int) (chains_2 : Int) (n_3 : Int) (κ : ((List GRule) × Int) → Prop) : Prop :=
  L_spec_l20Rd_pick r_0_b r_0_p 5 (fun (r9, r10) => loopW (fun (nx18 : (Int × (List GRule) × Int) → Prop) ((t11, xs13, t17) : (Int × (List GRule) × Int)) => ifW (decide (0 < t17)) (L_spec_l20Rule r_0_b t11 first_1 chains_2 0 (fun (r19, r22) => appW xs13 ([r19]) (fun _ => subW t17 1 (fun t32 => nx18 (r22, (xs13 ++ ([r19])), t32))))) (jnW (fun ((t122, xs124) : (Int × (List GRule))) => κ (xs124, t122)) (fun k128 => L_spec_l20Rd_odd r_0_b t11 n_3 (fun (r33, r34) => ifW r33 (L_spec_l20Rd_pick r_0_b r34 2 (fun (r35, r36) => ifW (decide (r35 = 0)) (L_spec_l20Rule r_0_b r36 first_1 chains_2 1 (fun (r37, r40) => appW xs13 ([r37]) (fun _ => k128 (r40, (xs13 ++ ([r37])))))) (loopW (fun (nx55 : (List GRule) → Prop) (xs51 : (List GRule)) => ifW (decide ((xs51.length : Int) ≤ 8)) (appW xs51 ([(GRule.mk ([]) 5 0)]) (fun _ => nx55 (xs51 ++ ([(GRule.mk ([]) 5 0)])))) (k128 (r36, xs51))) xs13))) (k128 (r34, xs13)))))) (r10, [], r9))

def L_spec_l20Ruleset (r_0_b : (List UInt8)) (r_0_p : Int) (n_1 : Int) (κ : (GRuleset × Int) → Prop) : Prop :=
  L_spec_l20Rd_pick r_0_b r_0_p 2 (fun (r7, r8) => L_spec_l20Rd_pick r_0_b r8 3 (fun (r11, r12) => addW 1 r11 (fun t13 => loopW (fun (nx21 : (Int × (List (List GRule)) × Int) → Prop) ((t14, xs16, t20) : (Int × (List (List GRule)) × Int)) => ifW (decide (t20 < t13)) (jnW (fun ((xs115, t119) : ((List (List GRule)) × Int)) => addW t20 1 (fun t121 => nx21 (t119, xs115, t121))) (fun k120 => jnW (fun ((xs25, t29) : ((List (List GRule)) × Int)) => k120 (xs25, t29)) (fun k30 => L_spec_l20Rules r_0_b t14 (w64 (t20 + 1)) t13 0 (fun (r31, r34) => appW xs16 ([r31]) (fun _ => k30 ((xs16 ++ ([r31])), r34)))))) (jnW (fun ((t319, xs321) : (Int × (List (List GRule)))) => κ ((GRuleset.mk xs321 (decide (r7 = 0))), t319)) (fun k325 => L_spec_l20Rd_odd r_0_b t14 n_1 (fun (r122, r123) => ifW r122 (L_spec_l20Rd_pick r_0_b r123 4 (fun (r124, r125) => ifW (decide (r124 = 0)) (k325 (r125, [])) (ifW (decide (r124 = 1)) (jnW (fun ((xs135, t138) : ((List (List GRule)) × Int)) => k325 (t138, xs135)) (fun k139 => (idxW xs16 0 (fun e140 => L_spec_l20Rd_pick r_0_b r125 2 (fun (r146, r147) => idxW ([0, t13]) r146 (fun e148 => appW e140 ([(GRule.mk ([]) 3 e148)]) (fun _ => idxW xs16 0 (fun e155 => k139 ((xs16.set (0 : Int).toNat (e140 ++ ([(GRule.mk ([]) 3 e148)]))), r147))))))) ∧ ((idxW xs16 0 (fun e196 => L_spec_l20Rd_pick r_0_b r125 2 (fun (r146, r147) => idxW ([0, t13]) r146 (fun e148 => appW e196 ([(GRule.mk ([]) 3 e148)]) (fun _ => idxW xs16 0 (fun e155 => k139 ((xs16.set (0 : Int).toNat (e196 ++ ([(GRule.mk ([]) 3 e148)]))), r147))))))) ∧ (L_spec_l20Rd_pick r_0_b r125 2 (fun (r198, r199) => (idxW xs16 0 (fun e200 => idxW ([0, t13]) r198 (fun e148 => appW e200 ([(GRule.mk ([]) 3 e148)]) (fun _ => idxW xs16 0 (fun e155 => k139 ((xs16.set (0 : Int).toNat (e200 ++ ([(GRule.mk ([]) 3 e148)]))), r199)))))) ∧ (idxW ([0, t13]) r198 (fun e202 => idxW xs16 0 (fun e204 => appW e204 ([(GRule.mk ([]) 3 e202)]) (fun _ => idxW xs16 0 (fun e155 => k139 ((xs16.set (0 : Int).toNat (e204 ++ ([(GRule.mk ([]) 3 e202)]))), r199))))))))) ∧ (L_spec_l20Rd_pick r_0_b r125 2 (fun (r217, r218) => (idxW xs16 0 (fun e219 => idxW ([0, t13]) r217 (fun e148 => appW e219 ([(GRule.mk ([]) 3 e148)]) (fun _ => idxW xs16 0 (fun e155 => k139 ((xs16.set (0 : Int).toNat (e219 ++ ([(GRule.mk ([]) 3 e148)]))), r218)))))) ∧ ((idxW xs16 0 (fun e200 => idxW ([0, t13]) r217 (fun e148 => appW e200 ([(GRule.mk ([]) 3 e148)]) (fun _ => idxW xs16 0 (fun e155 => k139 ((xs16.set (0 : Int).toNat (e200 ++ ([(GRule.mk ([]) 3 e148)]))), r218)))))) ∧ (idxW ([0, t13]) r217 (fun e202 => idxW xs16 0 (fun e204 => appW e204 ([(GRule.mk ([]) 3 e202)]) (fun _ => idxW xs16 0 (fun e155 => k139 ((xs16.set (0 : Int).toNat (e204 ++ ([(GRule.mk ([]) 3 e202)]))), r218))))))))))) (ifW (decide (r124 = 2)) (subW t13 1 (fun t222 => idxW xs16 t222 (fun e226 => subW t13 1 (fun t233 => idxW (xs16.set (t222).toNat ([(GRule.mk ([]) 3 0)])) 0 (fun e237 => k325 (r125, ((xs16.set (t222).toNat ([(GRule.mk ([]) 3 0)])).set (0 : Int).toNat ([(GRule.mk ([]) 3 t233)])))))))) (L_spec_l20Rules r_0_b r125 1 t13 1 (fun (r247, r251) => idxW xs16 0 (fun e252 => k325 (r251, (xs16.set (0 : Int).toNat r247))))))))) (k325 (r123, xs16)))))) (r12, [], 0))))

def L_spec_DrawRulesetText (code_0 : (List UInt8)) (κ : GRuleset → Prop) : Prop :=
  L_spec_l20Open code_0 (fun (r7, r10) => L_spec_l20Ruleset r7 r10 9 (fun (r11, r15) => κ r11))

def L_impl_RulesValid (list_0 : (List GRule)) (κ : Bool → Prop) : Prop :=
  ifW (decide (8 < (list_0.length : Int))) (κ false) (loopW (fun (nx4 : Int → Prop) (t3 : Int) => ifW (decide (t3 < (list_0.length : Int))) (idxW list_0 t3 (fun e5 => L_impl_RuleValid e5 (fun r16 => ifW (!r16) (κ false) (addW t3 1 (fun t17 => nx4 t17))))) (κ true)) 0)

def L_impl_callsIn (rules_0 : (List GRule)) (κ : (List Int) → Prop) : Prop :=
  loopW (fun (nx9 : ((List Bool) × Int) → Prop) ((xs6, t8) : ((List Bool) × Int)) => ifW (decide (t8 < (rules_0.length : Int))) (jnW (fun (xs84 : (List Bool)) => addW t8 1 (fun t87 => nx9 (xs84, t87))) (fun k86 => idxW rules_0 t8 (fun e10 => ifW (decide (e10.xAction = 3)) (idxW xs6 e10.xChain (fun e21 => k86 (xs6.set (e10.xChain).toNat true))) (k86 xs6)))) (unl5 xs6 (fun e89 e90 e91 e92 e93 => loopW (fun (nx100 : ((List Int) × Int) → Prop) ((xs96, t99) : ((List Int) × Int)) => ifW (decide (t99 < 5)) (jnW (fun (xs166 : (List Int)) => addW t99 1 (fun t170 => nx100 (xs166, t170))) (fun k169 => idxW ([e89, e90, e91, e92, e93]) t99 (fun e101 => ifW e101 (appW xs96 ([t99]) (fun _ => k169 (xs96 ++ ([t99])))) (k169 xs96)))) (κ xs96)) ([], 0)))) ([false, false, false, false, false], 0)

def B_impl_visitCalls (rec : ((List (List GRule)) → Int → (List Int) → ((Bool × (List Int)) → Prop) → Prop)) (chains_0 : (List (List GRule))) (chain_1 : Int) (colours_2 : (List Int)) (κ : (Bool × (List Int)) → Prop) : Prop :=
  ifW (decide ((chains_0.length : Int) ≤ chain_1)) (κ (true, colours_2)) (idxW colours_2 chain_1 (fun e5 => ifW (decide (e5 = 1)) (κ (false, colours_2)) (ifW (decide (e5 = 2)) (κ (true, colours_2)) (idxW colours_2 chain_1 (fun e7 => idxW chains_0 chain_1 (fun e10 => L_impl_callsIn e10 (fun r16 => loopW (fun (nx23 : ((List Int) × Bool × Int) → Prop) ((xs19, t21, t22) : ((List Int) × Bool × Int)) => ifW (decide (t22 < (r16.length : Int))) (jnW (fun ((xs89, t91) : ((List Int) × Bool)) => addW t22 1 (fun t93 => nx23 (xs89, t91, t93))) (fun k92 => idxW r16 t22 (fun e24 => rec chains_0 e24 xs19 (fun (r26, r27) => ifW (!r26) (k92 (r27, false)) (k92 (r27, t21)))))) (idxW xs19 chain_1 (fun e94 => κ (t21, (xs19.set (chain_1).toNat 2))))) ((colours_2.set (chain_1).toNat 1), true, 0))))))))
def R_impl_visitCalls : Nat → (List (List GRule)) → Int → (List Int) → ((Bool × (List Int)) → Prop) → Prop
  | 0 => fun _ _ _ _ => False
  | n + 1 => B_impl_visitCalls (R_impl_visitCalls n)
def L_impl_visitCalls (chains_0 : (List (List GRule))) (chain_1 : Int) (colours_2 : (List Int)) (κ : (Bool × (List Int)) → Prop) : Prop := ∃ n, R_impl_visitCalls n chains_0 chain_1 colours_2 κ

def L_impl_acyclic (chains_0 : (List (List GRule))) (κ : Bool → Prop) : Prop :=
  loopW (fun (nx8 : ((List Int) × Int) → Prop) ((xs5, t7) : ((List Int) × Int)) => ifW (decide (t7 < (chains_0.length : Int))) (L_impl_visitCalls chains_0 t7 xs5 (fun (r9, r10) => ifW (!r9) (κ false) (addW t7 1 (fun t12 => nx8 (r10, t12))))) (κ true)) ([0, 0, 0, 0, 0], 0)

def L_impl_RulesetValid (s_0 : GRuleset) (κ : Bool → Prop) : Prop :=
  jnW (fun (t68 : Bool) => ifW t68 (κ false) (loopW (fun (nx71 : Int → Prop) (t70 : Int) => ifW (decide (t70 < (s_0.xChains.length : Int))) (idxW s_0.xChains t70 (fun e72 => L_impl_RulesValid e72 (fun r78 => ifW (!r78) (κ false) (addW t70 1 (fun t79 => nx71 t79))))) (loopW (fun (nx81 : Int → Prop) (t80 : Int) => ifW (decide (t80 < (s_0.xChains.length : Int))) (idxW s_0.xChains t80 (fun e82 => L_impl_callsIn e82 (fun r88 => loopW (fun (nx92 : Int → Prop) (t91 : Int) => ifW (decide (t91 < (r88.length : Int))) (idxW r88 t91 (fun e93 => ifW (decide ((s_0.xChains.length : Int) ≤ e93)) (κ false) (addW t91 1 (fun t95 => nx92 t95)))) (addW t80 1 (fun t96 => nx81 t96))) 0))) (L_impl_acyclic s_0.xChains (fun r97 => κ r97))) 0)) 0)) (fun k69 => ifW (decide ((s_0.xChains.length : Int) < 1)) (k69 true) (k69 (decide (5 < (s_0.xChains.length : Int)))))

def L_impl_chainLine (number_0 : Int) (κ : ByteArray → Prop) : Prop :=
  L_lib_Itoa number_0 (fun r1 => catW (ByteArray.mk #[99, 104, 97, 105, 110, 32]) r1 (fun s2 => κ s2))

def L_impl_RulesetText (s_0 : GRuleset) (κ : (List ByteArray) → Prop) : Prop :=
  L_impl_RulesetValid s_0 (fun r9 => ifW (!r9) (κ ([])) (jnW (fun (t71 : ByteArray) => loopW (fun (nx80 : ((List ByteArray) × Int) → Prop) ((xs76, t79) : ((List ByteArray) × Int)) => ifW (decide (t79 < (s_0.xChains.length : Int))) (idxW s_0.xChains t79 (fun e81 => L_impl_chainLine t79 (fun r87 => appW xs76 ([r87]) (fun _ => loopW (fun (nx97 : ((List ByteArray) × Int) → Prop) ((xs93, t96) : ((List ByteArray) × Int)) => ifW (decide (t96 < (e81.length : Int))) (idxW e81 t96 (fun e98 => L_impl_Rule_text e98 (fun r109 => appW xs93 ([r109]) (fun _ => addW t96 1 (fun t114 => nx97 ((xs93 ++ ([r109])), t114)))))) (addW t79 1 (fun t115 => nx80 (xs93, t115)))) ((xs76 ++ ([r87])), 0))))) (κ xs76)) ([t71], 0)) (fun k72 => ifW s_0.xAccept (k72 (ByteArray.mk #[100, 101, 102, 97, 117, 108, 116, 32, 97, 99, 99, 101, 112, 116])) (k72 (ByteArray.mk #[100, 101, 102, 97, 117, 108, 116, 32, 100, 114, 111, 112])))))

def L_laws_sameTexts (a_0 : (List ByteArray)) (b_1 : (List ByteArray)) (κ : Bool → Prop) : Prop :=
  ifW (!(decide ((a_0.length : Int) = (b_1.length : Int)))) (κ false) (loopW (fun (nx6 : Int → Prop) (t5 : Int) => ifW (decide (t5 < (a_0.length : Int))) (idxW a_0 t5 (fun e7 => idxW b_1 t5 (fun e9 => ifW (!(decide (e7 = e9))) (κ false) (addW t5 1 (fun t11 => nx6 t11))))) (κ true)) 0)

def L_spec_RulesValid (list_0 : (List GRule)) (κ : Bool → Prop) : Prop :=
  loopW (fun (nx4 : Int → Prop) (t3 : Int) => ifW (decide (t3 < (list_0.length : Int))) (idxW list_0 t3 (fun e5 => L_spec_RuleValid e5 (fun r11 => ifW (!r11) (κ false) (addW t3 1 (fun t12 => nx4 t12))))) (κ (decide ((list_0.length : Int) ≤ 8)))) 0

def L_spec_l8Order (s_0 : GRuleset) (κ : (List Int) → Prop) : Prop :=
  makeW (false : Bool) (s_0.xChains.length : Int) (s_0.xChains.length : Int) (fun xs10 => loopW (fun (nx21 : ((List Bool) × (List Int) × Int) → Prop) ((xs14, xs17, t20) : ((List Bool) × (List Int) × Int)) => ifW (decide (t20 < (s_0.xChains.length : Int))) (loopW (fun (nx29 : ((List Bool) × (List Int) × Int) → Prop) ((xs22, xs25, t28) : ((List Bool) × (List Int) × Int)) => ifW (decide (t28 < (s_0.xChains.length : Int))) (jnW (fun ((xs190, xs192) : ((List Bool) × (List Int))) => addW t28 1 (fun t196 => nx29 (xs190, xs192, t196))) (fun k195 => idxW xs22 t28 (fun e30 => loopW (fun (nx34 : (Bool × Int) → Prop) ((t32, t33) : (Bool × Int)) => idxW s_0.xChains t28 (fun e35 => ifW (decide (t33 < (e35.length : Int))) (jnW (fun (t120 : Bool) => addW t33 1 (fun t122 => nx34 (t120, t122))) (fun k121 => idxW s_0.xChains t28 (fun e41 => idxW e41 t33 (fun e47 => ifW t32 (ifW (!(decide (e47.xAction = 3))) (k121 true) (idxW xs22 e47.xChain (fun e58 => k121 e58))) (k121 false))))) (ifW t32 (idxW xs22 t28 (fun e123 => appW xs25 ([t28]) (fun _ => k195 ((xs22.set (t28).toNat true), (xs25 ++ ([t28])))))) (k195 (xs22, xs25))))) ((!e30), 0)))) (addW t20 1 (fun t197 => nx21 (xs22, xs25, t197)))) (xs14, xs17, 0)) (κ xs17)) (xs10, [], 0))

def L_spec_RulesetValid (s_0 : GRuleset) (κ : Bool → Prop) : Prop :=
  loopW (fun (nx9 : Int → Prop) (t8 : Int) => ifW (decide (t8 < (s_0.xChains.length : Int))) (idxW s_0.xChains t8 (fun e10 => L_spec_RulesValid e10 (fun r16 => ifW (!r16) (κ false) (loopW (fun (nx18 : Int → Prop) (t17 : Int) => idxW s_0.xChains t8 (fun e19 => ifW (decide (t17 < (e19.length : Int))) (idxW s_0.xChains t8 (fun e25 => idxW e25 t17 (fun e31 => ifW (decide ((s_0.xChains.length : Int) ≤ e31.xChain)) (κ false) (addW t17 1 (fun t33 => nx18 t33))))) (addW t8 1 (fun t34 => nx9 t34)))) 0)))) (jnW (fun (t99 : Bool) => κ t99) (fun k100 => L_spec_l1In (s_0.xChains.length : Int) 1 5 (fun r35 => ifW r35 (L_spec_l8Order s_0 (fun r36 => k100 (decide ((r36.length : Int) = (s_0.xChains.length : Int))))) (k100 false))))) 0

def L_spec_RulesetText (s_0 : GRuleset) (κ : (List ByteArray) → Prop) : Prop :=
  L_spec_RulesetValid s_0 (fun r11 => ifW (!r11) (κ ([])) (jnW (fun (xs80 : (List ByteArray)) => loopW (fun (nx89 : ((List ByteArray) × Int) → Prop) ((xs85, t88) : ((List ByteArray) × Int)) => ifW (decide (t88 < (s_0.xChains.length : Int))) (L_spec_l3Number t88 (fun r90 => catW (ByteArray.mk #[99, 104, 97, 105, 110, 32]) r90 (fun s91 => appW xs85 ([s91]) (fun _ => loopW (fun (nx101 : ((List ByteArray) × Int) → Prop) ((xs97, t100) : ((List ByteArray) × Int)) => idxW s_0.xChains t88 (fun e102 => ifW (decide (t100 < (e102.length : Int))) (idxW s_0.xChains t88 (fun e108 => idxW e108 t100 (fun e114 => L_spec_RuleText e114 (fun r120 => appW xs97 ([r120]) (fun _ => addW t100 1 (fun t125 => nx101 ((xs97 ++ ([r120])), t125))))))) (addW t88 1 (fun t126 => nx89 (xs97, t126))))) ((xs85 ++ ([s91])), 0))))) (κ xs85)) (xs80, 0)) (fun k83 => ifW s_0.xAccept (appW ([]) ([(ByteArray.mk #[100, 101, 102, 97, 117, 108, 116, 32, 97, 99, 99, 101, 112, 116])]) (fun _ => k83 (([]) ++ ([(ByteArray.mk #[100, 101, 102, 97, 117, 108, 116, 32, 97, 99, 99, 101, 112, 116])])))) (appW ([]) ([(ByteArray.mk #[100, 101, 102, 97, 117, 108, 116, 32, 100, 114, 111, 112])]) (fun _ => k83 (([]) ++ ([(ByteArray.mk #[100, 101, 102, 97, 117, 108, 116, 32, 100, 114, 111, 112])])))))))

def L_laws_FnLinesCount (code_0 : (List UInt8)) (κ : Bool → Prop) : Prop :=
  ifW (decide (1048576 < (code_0.length : Int))) (κ true) (L_spec_DrawRulesetText code_0 (fun r3 => L_impl_RulesetText r3 (fun r12 => L_spec_RulesetText r3 (fun r15 => L_laws_sameTexts r12 r15 (fun r18 => ifW (!r18) (κ false) (addW 1 (r3.xChains.length : Int) (fun t19 => loopW (fun (nx22 : (Int × Int) → Prop) ((t20, t21) : (Int × Int)) => ifW (decide (t21 < (r3.xChains.length : Int))) (idxW r3.xChains t21 (fun e23 => addW t20 (e23.length : Int) (fun t31 => addW t21 1 (fun t32 => nx22 (t31, t32))))) (jnW (fun (t96 : Bool) => κ t96) (fun k97 => L_spec_RulesetValid r3 (fun r33 => ifW (!r33) (L_laws_alive (fun r34 => k97 r34)) (ifW (decide ((r12.length : Int) = t20)) (L_laws_alive (fun r35 => k97 r35)) (k97 false)))))) (t19, 0))))))))

end Go.Proofs.YtnogaeckmiekdaaDoor
