/- Texts of this seat, put together. -/
import Derived.Test.YtlcjkhnamgklgaaDoorMP1
import Derived.Test.YtlcjkhnamgklgaaDoorEls
import Derived.Laws.BitsLemmas
set_option linter.unusedSimpArgs false
set_option linter.unusedVariables false
namespace Go.Proofs.YtlcjkhnamgklgaaDoor
section
open Go.Lib (decDigits)

def B (l : List UInt8) : ByteArray := ByteArray.mk l.toArray
theorem B_data (l : List UInt8) : (B l).data.toList = l := by simp [B]
theorem B_eta (s : ByteArray) : B s.data.toList = s := by cases s; simp [B]
theorem B_inj {l m : List UInt8} : B l = B m ↔ l = m := ⟨fun h => by have := congrArg (fun s => s.data.toList) h; simpa [B] using this, fun h => by rw [h]⟩
theorem B_app (l m : List UInt8) : B l ++ B m = B (l ++ m) := by
  apply ByteArray.ext; simp [B, ByteArray.data_append]
theorem B_size (l : List UInt8) : (B l).size = l.length := by simp [B, ByteArray.size]
theorem B_ex (l : List UInt8) (a b : Nat) : (B l).extract a b = B ((l.take b).drop a) := by
  apply ByteArray.ext
  simp [B, ByteArray.data_extract, List.extract_eq_take_drop]
  exact List.drop_take.symm
theorem B_dec (l m : List UInt8) : decide (B l = B m) = decide (l = m) := by simp [B_inj]
theorem catW_B {l m : List UInt8} {κ : ByteArray → Prop} (h : l.length + m.length ≤ 9223372036854775807) (hk : κ (B (l ++ m))) : catW (B l) (B m) κ := ⟨by rw [B_size, B_size]; exact h, by rw [B_app]; exact hk⟩
theorem sliceS_B {l : List UInt8} {lo hi : Int} {κ : ByteArray → Prop} (a b : Nat) (ha : lo = a) (hb : hi = b) (h1 : a ≤ b) (h2 : b ≤ l.length) (hk : κ (B ((l.take b).drop a))) : sliceS (B l) lo hi κ := by
  subst ha hb
  exact ⟨by omega, by omega, by rw [B_size]; omega, by rw [Int.toNat_natCast, Int.toNat_natCast, B_ex]; exact hk⟩

/-- a digit -/
def dg (c : UInt8) : Bool := decide (48 ≤ c.toNat) && decide (c.toNat ≤ 57)
def val (l : List UInt8) : Nat := l.foldl (fun n c => 10 * n + (c.toNat - 48)) 0
theorem val_snoc (l : List UInt8) (c : UInt8) : val (l ++ [c]) = 10 * val l + (c.toNat - 48) := by simp [val]
theorem dec_small {u : Nat} (h : u < 10) : decDigits u = [UInt8.ofNat (48 + u)] := by rw [decDigits, dif_pos h]
theorem dec_big {u : Nat} (h : ¬ u < 10) : decDigits u = decDigits (u / 10) ++ [UInt8.ofNat (48 + u % 10)] := by rw [decDigits, dif_neg h]
theorem dg_of {n : Nat} (h : n < 10) : dg (UInt8.ofNat (48 + n)) = true := by
  have : (UInt8.ofNat (48 + n)).toNat = 48 + n := by simp; omega
  simp [dg, this]; omega
theorem dv_of {n : Nat} (h : n < 10) : (UInt8.ofNat (48 + n)).toNat - 48 = n := by
  have : (UInt8.ofNat (48 + n)).toNat = 48 + n := by simp; omega
  omega
theorem dec_dg (u : Nat) : ∀ c ∈ decDigits u, dg c = true := by
  induction u using Nat.strongRecOn with
  | _ u ih =>
    by_cases h : u < 10
    · rw [dec_small h]; intro c hc; rw [List.mem_singleton] at hc; subst hc; exact dg_of h
    · rw [dec_big h]; intro c hc
      rcases List.mem_append.1 hc with hc | hc
      · exact ih (u / 10) (by omega) c hc
      · rw [List.mem_singleton] at hc; subst hc; exact dg_of (by omega)
theorem dec_val (u : Nat) : val (decDigits u) = u := by
  induction u using Nat.strongRecOn with
  | _ u ih =>
    by_cases h : u < 10
    · rw [dec_small h]; simp only [val, List.foldl]; rw [dv_of h]; omega
    · rw [dec_big h, val_snoc, ih (u / 10) (by omega), dv_of (by omega)]; omega
theorem dec_inj {a b : Nat} (h : decDigits a = decDigits b) : a = b := by rw [← dec_val a, ← dec_val b, h]
theorem dec_len : ∀ (k u : Nat), u < 10 ^ (k + 1) → (decDigits u).length ≤ k + 1
  | 0, u, h => by rw [dec_small (by simpa using h)]; simp
  | k + 1, u, h => by
    by_cases h' : u < 10
    · rw [dec_small h']; simp
    · rw [dec_big h']; have := dec_len k (u / 10) (by rw [Nat.pow_succ] at h; omega); simp; omega
theorem dec_pos (u : Nat) : decDigits u ≠ [] := by
  by_cases h : u < 10
  · rw [dec_small h]; simp
  · rw [dec_big h]; simp
theorem dec_no {u : Nat} {c : UInt8} (h : dg c = false) : c ∉ decDigits u := fun hc => by rw [dec_dg u c hc] at h; cases h
theorem itoaB_nat {n : Int} (h : 0 ≤ n) : itoaB n = B (decDigits n.toNat) := by
  unfold itoaB Lib.itoa; rw [if_neg (by omega)]; rfl
theorem S_itoa {n : Int} {κ : ByteArray → Prop} (h0 : 0 ≤ n) (h1 : n ≤ 9223372036854775807) (h : κ (B (decDigits n.toNat))) : L_lib_Itoa n κ := ⟨⟨by omega, h1⟩, by rw [itoaB_nat h0]; exact h⟩
/-- the value of at most six digits -/
theorem val_le' : ∀ (l : List UInt8) (n : Nat), (∀ c ∈ l, dg c = true) → l.foldl (fun n c => 10 * n + (c.toNat - 48)) n + 1 ≤ (n + 1) * 10 ^ l.length
  | [], n, _ => by simp
  | c :: l, n, h => by
    have h1 := val_le' l (10 * n + (c.toNat - 48)) (fun x hx => h x (by simp [hx]))
    have h2 := h c (by simp)
    simp [dg] at h2
    simp only [List.foldl, List.length_cons, Nat.pow_succ]
    refine Nat.le_trans h1 ?_
    rw [show (n + 1) * (10 ^ l.length * 10) = ((n + 1) * 10) * 10 ^ l.length by rw [Nat.mul_assoc, Nat.mul_comm 10]]
    exact Nat.mul_le_mul_right _ (by omega)
theorem val_le (l : List UInt8) (h : ∀ c ∈ l, dg c = true) : val l < 10 ^ l.length := by
  have := val_le' l 0 h
  simp at this
  unfold val; omega
theorem val_6 {l : List UInt8} (h : ∀ c ∈ l, dg c = true) (hl : l.length ≤ 6) : val l ≤ 999999 := by
  have h1 := val_le l h
  have h2 : 10 ^ l.length ≤ 10 ^ 6 := Nat.pow_le_pow_right (by decide) hl
  have e : (10 : Nat) ^ 6 = 1000000 := by decide
  omega
/-- the number at the head of a text: at most six digits -/
def run : Nat → List UInt8 → List UInt8
  | 0, _ => []
  | _, [] => []
  | k + 1, c :: l => if dg c then c :: run k l else []
theorem run_dg : ∀ k l, ∀ c ∈ run k l, dg c = true
  | 0, l => by simp [run]
  | k + 1, [] => by simp [run]
  | k + 1, c :: l => by
    simp only [run]; split
    · rename_i h; intro x hx; rcases List.mem_cons.1 hx with rfl | hx
      · exact h
      · exact run_dg k l x hx
    · simp
theorem run_len : ∀ k l, (run k l).length ≤ k ∧ (run k l).length ≤ l.length
  | 0, l => by simp [run]
  | k + 1, [] => by simp [run]
  | k + 1, c :: l => by
    simp only [run]; split
    · have := run_len k l; simp; omega
    · simp
theorem run_app : ∀ (k : Nat) (a r : List UInt8), (∀ c ∈ a, dg c = true) → a.length ≤ k → (∀ c l, r = c :: l → dg c = false) → run k (a ++ r) = a
  | 0, [], r, _, _, h => by simp [run]
  | 0, x :: a, r, _, hl, _ => by simp at hl
  | k + 1, [], [], _, _, _ => by simp [run]
  | k + 1, [], c :: l, _, _, h => by simp [run, h c l rfl]
  | k + 1, x :: a, r, h1, hl, h => by
    simp only [List.cons_append, run]
    rw [if_pos (h1 x (by simp)), run_app k a r (fun c hc => h1 c (by simp [hc])) (by simpa using hl) h]
/-- where the run ends -/
theorem run_end : ∀ (k : Nat) (l : List UInt8), (∃ r, l = run k l ++ r ∧ ((run k l).length = k ∨ ∀ c m, r = c :: m → dg c = false))
  | 0, l => ⟨l, by simp [run], .inl (by simp [run])⟩
  | k + 1, [] => ⟨[], by simp [run], .inr (by simp)⟩
  | k + 1, c :: l => by
    obtain ⟨r, h1, h2⟩ := run_end k l
    simp only [run]; split
    · exact ⟨r, by simpa using h1, by rcases h2 with h2 | h2; · exact .inl (by simpa using h2)
                                      · exact .inr h2⟩
    · rename_i h
      exact ⟨c :: l, rfl, .inr (fun d m e => by cases e; simpa using h)⟩
theorem hasPre_app (p r : List UInt8) : hasPre (B (p ++ r)) (B p) = true := by simp [hasPre, Lib.hasPrefix, B_data]
theorem hasPre_iff (s p : List UInt8) : hasPre (B s) (B p) = true ↔ ∃ r, s = p ++ r := by
  simp only [hasPre, Lib.hasPrefix, B_data, List.isPrefixOf_iff_prefix]
  exact ⟨fun ⟨r, h⟩ => ⟨r, h.symm⟩, fun ⟨r, h⟩ => ⟨r, h.symm⟩⟩


end
section
open Go.RowKit
@[ext] structure GTest where
  xField : Int
  xLo : Int
  xHi : Int
  xNot : Bool
  deriving DecidableEq
def encGTest (x : GTest) : List Value := [(.int .i64 x.xField), (.int .i64 x.xLo), (.int .i64 x.xHi), (.bool x.xNot)]
def elGTest : El GTest := El.flat 4 encGTest (by decide) (fun _ => rfl) (fun x u h => by simp only [encGTest, List.mem_cons, List.not_mem_nil, or_false] at h; rcases h with rfl | rfl | rfl | rfl <;> rfl)
theorem flelGTest : Flat elGTest encGTest := flat_flat
abbrev dGTest : DEl GTest := dflat elGTest encGTest flelGTest
@[ext] structure GRule where
  xTests : (List GTest)
  xAction : Int
  xChain : Int
  deriving DecidableEq
def encGRule (u : Value) (x : GRule) : List Value := [u, (.int .i64 x.xAction), (.int .i64 x.xChain)]
def elGRule : El GRule where
  size := 3
  cells := fun F w x cs => ∃ u : Value, cs = encGRule u x ∧ Sl elGTest F w u x.xTests
  pos := by decide
  len := fun F w x cs ⟨u, e, _⟩ => by rw [e]; rfl
  one := fun F w x cs ⟨u, e, h⟩ v hv => by
    subst e
    simp only [encGRule, List.mem_cons, List.not_mem_nil, or_false] at hv
    rcases hv with e | e | e
    · subst e; exact h.one
    · subst e; exact rfl
    · subst e; exact rfl
  keep := fun F F' w w' x cs hF hb ⟨u, e, h⟩ => ⟨u, e, h.keep hF hb⟩
def dGRule : DEl GRule where
  el := elGRule
  own := fun B w x cs => ∃ u : Value, cs = encGRule u x ∧ Dp dGTest 84 B w u x.xTests
  read := fun B w x cs ⟨u, e, h⟩ => ⟨u, e, h.sl⟩
  keep := fun B w w' x cs hk ⟨u, e, h⟩ => ⟨u, e, h.keep hk⟩
  lt := fun B w x cs ⟨u, e, h⟩ => h.lt
@[ext] structure GRuleset where
  xChains : (List (List GRule))
  xAccept : Bool
  deriving DecidableEq
@[ext] structure GDeciding where
  xAccept : Bool
  deriving DecidableEq
@[ext] structure GCalling where
  xChain : Int
  deriving DecidableEq
@[ext] structure GReturning where
  deriving DecidableEq
@[ext] structure GPassing where
  deriving DecidableEq
@[ext] structure GFieldShape where
  xName : ByteArray
  xTop : Int
  deriving DecidableEq
def encGFieldShape (x : GFieldShape) : List Value := [(.string x.xName), (.int .i64 x.xTop)]
def elGFieldShape : El GFieldShape := El.flat 2 encGFieldShape (by decide) (fun _ => rfl) (fun x u h => by simp only [encGFieldShape, List.mem_cons, List.not_mem_nil, or_false] at h; rcases h with rfl | rfl <;> rfl)
theorem flelGFieldShape : Flat elGFieldShape encGFieldShape := flat_flat
inductive IAction where
  | kDeciding (x : GDeciding)
  | kCalling (x : GCalling)
  | kReturning (x : GReturning)
  | kPassing (x : GPassing)
def ivIAction : IAction → Value
  | .kDeciding x => .iface 115 (.agg #[(.bool x.xAccept)])
  | .kCalling x => .iface 117 (.agg #[(.int .i64 x.xChain)])
  | .kReturning x => .iface 119 (.agg #[])
  | .kPassing x => .iface 120 (.agg #[])
def IAction.casesW (a : IAction) (p0 : GDeciding → Prop) (p1 : GCalling → Prop) (p2 : GReturning → Prop) (p3 : GPassing → Prop) : Prop := match a with
  | .kDeciding x => p0 x
  | .kCalling x => p1 x
  | .kReturning x => p2 x
  | .kPassing x => p3 x
/-- what the package-level variable reads as -/
def gl_impl_fieldShapes : List GFieldShape := [⟨(ByteArray.mk #[102, 114, 111, 109]), 65535⟩, ⟨(ByteArray.mk #[116, 111]), 65535⟩, ⟨(ByteArray.mk #[112, 111, 114, 116]), 255⟩, ⟨(ByteArray.mk #[112, 114, 111, 116, 111]), 7⟩]

def L_spec_l1In (n_0 : Int) (lo_1 : Int) (hi_2 : Int) (κ : Bool → Prop) : Prop :=
  jnW (fun (t61 : Bool) => κ t61) (fun k62 => ifW (decide (lo_1 ≤ n_0)) (k62 (decide (n_0 ≤ hi_2))) (k62 false))

def L_spec_FieldTop (n_0 : Int) (κ : Int → Prop) : Prop :=
  jnW (fun (t61 : Bool) => ifW t61 (κ 65535) (ifW (decide (n_0 = 2)) (κ 255) (ifW (decide (n_0 = 3)) (κ 7) (κ (-1))))) (fun k62 => ifW (decide (n_0 = 0)) (k62 (decide (n_0 = 0))) (k62 (decide (n_0 = 1))))

def L_spec_TestValid (t_0 : GTest) (κ : Bool → Prop) : Prop :=
  jnW (fun (t66 : Bool) => κ t66) (fun k67 => L_spec_l1In t_0.xField 0 3 (fun r3 => ifW r3 (L_spec_l1In t_0.xLo 0 t_0.xHi (fun r4 => ifW r4 (L_spec_FieldTop t_0.xField (fun r5 => k67 (decide (t_0.xHi ≤ r5)))) (k67 false))) (k67 false)))

def L_spec_TestsValid (list_0 : (List GTest)) (κ : Bool → Prop) : Prop :=
  loopW (fun (nx4 : Int → Prop) (t3 : Int) => ifW (decide (t3 < (list_0.length : Int))) (idxW list_0 t3 (fun e5 => L_spec_TestValid e5 (fun r7 => ifW (!r7) (κ false) (addW t3 1 (fun t8 => nx4 t8))))) (κ (decide ((list_0.length : Int) ≤ 6)))) 0

def L_spec_RuleValid (r_0 : GRule) (κ : Bool → Prop) : Prop :=
  jnW (fun (t71 : Bool) => κ t71) (fun k72 => L_spec_TestsValid r_0.xTests (fun r8 => ifW r8 (L_spec_l1In r_0.xAction 1 5 (fun r9 => ifW r9 (ifW (decide (r_0.xAction = 3)) (L_spec_l1In r_0.xChain 0 4 (fun r10 => ifW r10 (k72 true) (ifW (!(decide (r_0.xAction = 3))) (k72 (decide (r_0.xChain = 0))) (k72 false)))) (ifW (!(decide (r_0.xAction = 3))) (k72 (decide (r_0.xChain = 0))) (k72 false))) (k72 false))) (k72 false)))

def L_spec_RulesValid (list_0 : (List GRule)) (κ : Bool → Prop) : Prop :=
  loopW (fun (nx4 : Int → Prop) (t3 : Int) => ifW (decide (t3 < (list_0.length : Int))) (idxW list_0 t3 (fun e5 => L_spec_RuleValid e5 (fun r11 => ifW (!r11) (κ false) (addW t3 1 (fun t12 => nx4 t12))))) (κ (decide ((list_0.length : Int) ≤ 8)))) 0

def L_spec_l8Order (s_0 : GRuleset) (κ : (List Int) → Prop) : Prop :=
  makeW (false : Bool) (s_0.xChains.length : Int) (s_0.xChains.length : Int) (fun xs10 => loopW (fun (nx21 : ((List Bool) × (List Int) × Int) → Prop) ((xs14, xs17, t20) : ((List Bool) × (List Int) × Int)) => ifW (decide (t20 < (s_0.xChains.length : Int))) (loopW (fun (nx29 : ((List Bool) × (List Int) × Int) → Prop) ((xs22, xs25, t28) : ((List Bool) × (List Int) × Int)) => ifW (decide (t28 < (s_0.xChains.length : Int))) (jnW (fun ((xs190, xs192) : ((List Bool) × (List Int))) => addW t28 1 (fun t196 => nx29 (xs190, xs192, t196))) (fun k195 => idxW xs22 t28 (fun e30 => loopW (fun (nx34 : (Bool × Int) → Prop) ((t32, t33) : (Bool × Int)) => idxW s_0.xChains t28 (fun e35 => ifW (decide (t33 < (e35.length : Int))) (jnW (fun (t120 : Bool) => addW t33 1 (fun t122 => nx34 (t120, t122))) (fun k121 => idxW s_0.xChains t28 (fun e41 => idxW e41 t33 (fun e47 => ifW t32 (ifW (!(decide (e47.xAction = 3))) (k121 true) (idxW xs22 e47.xChain (fun e58 => k121 e58))) (k121 false))))) (ifW t32 (idxW xs22 t28 (fun e123 => appW xs25 ([t28]) (fun _ => k195 ((xs22.set (t28).toNat true), (xs25 ++ ([t28])))))) (k195 (xs22, xs25))))) ((!e30), 0)))) (addW t20 1 (fun t197 => nx21 (xs22, xs25, t197)))) (xs14, xs17, 0)) (κ xs17)) (xs10, [], 0))

def L_spec_RulesetValid (s_0 : GRuleset) (κ : Bool → Prop) : Prop :=
  loopW (fun (nx9 : Int → Prop) (t8 : Int) => ifW (decide (t8 < (s_0.xChains.length : Int))) (idxW s_0.xChains t8 (fun e10 => L_spec_RulesValid e10 (fun r16 => ifW (!r16) (κ false) (loopW (fun (nx18 : Int → Prop) (t17 : Int) => idxW s_0.xChains t8 (fun e19 => ifW (decide (t17 < (e19.length : Int))) (idxW s_0.xChains t8 (fun e25 => idxW e25 t17 (fun e31 => ifW (decide ((s_0.xChains.length : Int) ≤ e31.xChain)) (κ false) (addW t17 1 (fun t33 => nx18 t33))))) (addW t8 1 (fun t34 => nx9 t34)))) 0)))) (jnW (fun (t99 : Bool) => κ t99) (fun k100 => L_spec_l1In (s_0.xChains.length : Int) 1 5 (fun r35 => ifW r35 (L_spec_l8Order s_0 (fun r36 => k100 (decide ((r36.length : Int) = (s_0.xChains.length : Int))))) (k100 false))))) 0

def L_spec_l3Number (n_0 : Int) (κ : ByteArray → Prop) : Prop :=
  remW n_0 10 (fun t1 => addW 48 t1 (fun t2 => byteU t2 (fun t3 => loopW (fun (nx8 : (Int × ByteArray) → Prop) ((t6, t7) : (Int × ByteArray)) => ifW (decide (9 < t6)) (quoW t6 10 (fun t9 => remW t9 10 (fun t10 => addW 48 t10 (fun t11 => byteU t11 (fun t12 => catW (ByteArray.mk ([t12]).toArray) t7 (fun s15 => nx8 (t9, s15))))))) (κ t7)) (n_0, (ByteArray.mk ([t3]).toArray)))))

def L_spec_TestText (t_0 : GTest) (κ : ByteArray → Prop) : Prop :=
  L_spec_TestValid t_0 (fun r3 => ifW (!r3) (κ (ByteArray.mk #[])) (jnW (fun (t4 : ByteArray) => jnW (fun (t81 : ByteArray) => jnW (fun (t146 : ByteArray) => κ t146) (fun k147 => ifW (!(decide (t_0.xHi = t_0.xLo))) (catW t81 (ByteArray.mk #[45]) (fun s83 => L_spec_l3Number t_0.xHi (fun r84 => catW s83 r84 (fun s85 => k147 s85)))) (k147 t81))) (fun k82 => ifW t_0.xNot (catW (ByteArray.mk #[110, 111, 116, 32]) t4 (fun s20 => k82 s20)) (k82 t4))) (fun k5 => ((idxW ([(ByteArray.mk #[102, 114, 111, 109]), (ByteArray.mk #[116, 111]), (ByteArray.mk #[112, 111, 114, 116]), (ByteArray.mk #[112, 114, 111, 116, 111])]) t_0.xField (fun e7 => (catW e7 (ByteArray.mk #[32]) (fun s9 => L_spec_l3Number t_0.xLo (fun r10 => catW s9 r10 (fun s11 => k5 s11)))) ∧ (L_spec_l3Number t_0.xLo (fun r12 => catW e7 (ByteArray.mk #[32]) (fun s13 => catW s13 r12 (fun s14 => k5 s14)))))) ∧ (L_spec_l3Number t_0.xLo (fun r15 => idxW ([(ByteArray.mk #[102, 114, 111, 109]), (ByteArray.mk #[116, 111]), (ByteArray.mk #[112, 111, 114, 116]), (ByteArray.mk #[112, 114, 111, 116, 111])]) t_0.xField (fun e16 => catW e16 (ByteArray.mk #[32]) (fun s13 => catW s13 r15 (fun s14 => k5 s14)))))) ∧ (L_spec_l3Number t_0.xLo (fun r18 => idxW ([(ByteArray.mk #[102, 114, 111, 109]), (ByteArray.mk #[116, 111]), (ByteArray.mk #[112, 111, 114, 116]), (ByteArray.mk #[112, 114, 111, 116, 111])]) t_0.xField (fun e16 => catW e16 (ByteArray.mk #[32]) (fun s13 => catW s13 r18 (fun s14 => k5 s14))))))))

def L_spec_RuleText (r_0 : GRule) (κ : ByteArray → Prop) : Prop :=
  L_spec_RuleValid r_0 (fun r8 => ifW (!r8) (κ (ByteArray.mk #[])) (subW r_0.xAction 1 (fun t11 => idxW ([(ByteArray.mk #[97, 99, 99, 101, 112, 116]), (ByteArray.mk #[100, 114, 111, 112]), (ByteArray.mk #[99, 97, 108, 108]), (ByteArray.mk #[114, 101, 116, 117, 114, 110]), (ByteArray.mk #[110, 111, 110, 101])]) t11 (fun e12 => jnW (fun (t77 : ByteArray) => loopW (fun (nx81 : (ByteArray × Int) → Prop) ((t79, t80) : (ByteArray × Int)) => ifW (decide (t80 < (r_0.xTests.length : Int))) (catW t79 (ByteArray.mk #[44, 32]) (fun s82 => idxW r_0.xTests t80 (fun e83 => L_spec_TestText e83 (fun r85 => catW s82 r85 (fun s86 => addW t80 1 (fun t87 => nx81 (s86, t87))))))) (κ t79)) (t77, 0)) (fun k78 => ifW (decide (r_0.xAction = 3)) (catW e12 (ByteArray.mk #[32]) (fun s14 => L_spec_l3Number r_0.xChain (fun r15 => catW s14 r15 (fun s16 => k78 s16)))) (k78 e12))))))

def L_impl_FieldTop (n_0 : Int) (κ : Int → Prop) : Prop :=
  jnW (fun (t61 : Bool) => ifW t61 (κ (-1)) (idxW gl_impl_fieldShapes n_0 (fun e63 => κ e63.xTop))) (fun k62 => ifW (decide (n_0 < 0)) (k62 true) (k62 (decide (4 ≤ n_0))))

def L_impl_TestValid (t_0 : GTest) (κ : Bool → Prop) : Prop :=
  jnW (fun (t64 : Bool) => κ t64) (fun k65 => ifW (decide (0 ≤ t_0.xField)) (ifW (decide (t_0.xField < 4)) (ifW (decide (0 ≤ t_0.xLo)) (ifW (decide (t_0.xLo ≤ t_0.xHi)) (L_impl_FieldTop t_0.xField (fun r3 => k65 (decide (t_0.xHi ≤ r3)))) (k65 false)) (k65 false)) (k65 false)) (k65 false))

def L_impl_TestsValid (list_0 : (List GTest)) (κ : Bool → Prop) : Prop :=
  ifW (decide (6 < (list_0.length : Int))) (κ false) (loopW (fun (nx4 : Int → Prop) (t3 : Int) => ifW (decide (t3 < (list_0.length : Int))) (idxW list_0 t3 (fun e5 => L_impl_TestValid e5 (fun r9 => ifW (!r9) (κ false) (addW t3 1 (fun t10 => nx4 t10))))) (κ true)) 0)

def L_impl_RuleValid (r_0 : GRule) (κ : Bool → Prop) : Prop :=
  L_impl_TestsValid r_0.xTests (fun r8 => ifW (!r8) (κ false) (ifW (decide (r_0.xAction = 3)) (jnW (fun (t69 : Bool) => κ t69) (fun k70 => ifW (decide (0 ≤ r_0.xChain)) (k70 (decide (r_0.xChain < 5))) (k70 false))) (jnW (fun (t131 : Bool) => ifW t131 (κ (decide (r_0.xChain = 0))) (κ false)) (fun k132 => ifW (decide (r_0.xAction = 1)) (k132 (decide (r_0.xAction = 1))) (ifW (decide (r_0.xAction = 2)) (k132 (decide (r_0.xAction = 2))) (ifW (decide (r_0.xAction = 4)) (k132 (decide (r_0.xAction = 4))) (k132 (decide (r_0.xAction = 5)))))))))

def L_impl_RulesValid (list_0 : (List GRule)) (κ : Bool → Prop) : Prop :=
  ifW (decide (8 < (list_0.length : Int))) (κ false) (loopW (fun (nx4 : Int → Prop) (t3 : Int) => ifW (decide (t3 < (list_0.length : Int))) (idxW list_0 t3 (fun e5 => L_impl_RuleValid e5 (fun r16 => ifW (!r16) (κ false) (addW t3 1 (fun t17 => nx4 t17))))) (κ true)) 0)

def L_impl_callsIn (rules_0 : (List GRule)) (κ : (List Int) → Prop) : Prop :=
  loopW (fun (nx9 : ((List Bool) × Int) → Prop) ((xs6, t8) : ((List Bool) × Int)) => ifW (decide (t8 < (rules_0.length : Int))) (jnW (fun (xs84 : (List Bool)) => addW t8 1 (fun t87 => nx9 (xs84, t87))) (fun k86 => idxW rules_0 t8 (fun e10 => ifW (decide (e10.xAction = 3)) (idxW xs6 e10.xChain (fun e21 => k86 (xs6.set (e10.xChain).toNat true))) (k86 xs6)))) (unl5 xs6 (fun e89 e90 e91 e92 e93 => loopW (fun (nx100 : ((List Int) × Int) → Prop) ((xs96, t99) : ((List Int) × Int)) => ifW (decide (t99 < 5)) (jnW (fun (xs166 : (List Int)) => addW t99 1 (fun t170 => nx100 (xs166, t170))) (fun k169 => idxW ([e89, e90, e91, e92, e93]) t99 (fun e101 => ifW e101 (appW xs96 ([t99]) (fun _ => k169 (xs96 ++ ([t99])))) (k169 xs96)))) (κ xs96)) ([], 0)))) ([false, false, false, false, false], 0)

def B_impl_visitCalls (rec : ((List (List GRule)) → Int → (List Int) → ((Bool × (List Int)) → Prop) → Prop)) (chains_0 : (List (List GRule))) (chain_1 : Int) (colours_2 : (List Int)) (κ : (Bool × (List Int)) → Prop) : Prop :=
  ifW (decide ((chains_0.length : Int) ≤ chain_1)) (κ (true, colours_2)) (idxW colours_2 chain_1 (fun e5 => ifW (decide (e5 = 1)) (κ (false, colours_2)) (ifW (decide (e5 = 2)) (κ (true, colours_2)) (idxW colours_2 chain_1 (fun e7 => idxW chains_0 chain_1 (fun e10 => L_impl_callsIn e10 (fun r16 => loopW (fun (nx23 : ((List Int) × Bool × Int) → Prop) ((xs19, t21, t22) : ((List Int) × Bool × Int)) => ifW (decide (t22 < (r16.length : Int))) (jnW (fun ((xs89, t91) : ((List Int) × Bool)) => addW t22 1 (fun t93 => nx23 (xs89, t91, t93))) (fun k92 => idxW r16 t22 (fun e24 => rec chains_0 e24 xs19 (fun (r26, r27) => ifW (!r26) (k92 (r27, false)) (k92 (r27, t21)))))) (idxW xs19 chain_1 (fun e94 => κ (t21, (xs19.set (chain_1).toNat 2))))) ((colours_2.set (chain_1).toNat 1), true, 0))))))))
def R_impl_visitCalls : Nat → (List (List GRule)) → Int → (List Int) → ((Bool × (List Int)) → Prop) → Prop
  | 0 => fun _ _ _ _ => False
  | n + 1 => B_impl_visitCalls (R_impl_visitCalls n)
def L_impl_visitCalls (chains_0 : (List (List GRule))) (chain_1 : Int) (colours_2 : (List Int)) (κ : (Bool × (List Int)) → Prop) : Prop := ∃ n, R_impl_visitCalls n chains_0 chain_1 colours_2 κ

def L_impl_acyclic (chains_0 : (List (List GRule))) (κ : Bool → Prop) : Prop :=
  loopW (fun (nx8 : ((List Int) × Int) → Prop) ((xs5, t7) : ((List Int) × Int)) => ifW (decide (t7 < (chains_0.length : Int))) (L_impl_visitCalls chains_0 t7 xs5 (fun (r9, r10) => ifW (!r9) (κ false) (addW t7 1 (fun t12 => nx8 (r10, t12))))) (κ true)) ([0, 0, 0, 0, 0], 0)

def L_impl_RulesetValid (s_0 : GRuleset) (κ : Bool → Prop) : Prop :=
  jnW (fun (t68 : Bool) => ifW t68 (κ false) (loopW (fun (nx71 : Int → Prop) (t70 : Int) => ifW (decide (t70 < (s_0.xChains.length : Int))) (idxW s_0.xChains t70 (fun e72 => L_impl_RulesValid e72 (fun r78 => ifW (!r78) (κ false) (addW t70 1 (fun t79 => nx71 t79))))) (loopW (fun (nx81 : Int → Prop) (t80 : Int) => ifW (decide (t80 < (s_0.xChains.length : Int))) (idxW s_0.xChains t80 (fun e82 => L_impl_callsIn e82 (fun r88 => loopW (fun (nx92 : Int → Prop) (t91 : Int) => ifW (decide (t91 < (r88.length : Int))) (idxW r88 t91 (fun e93 => ifW (decide ((s_0.xChains.length : Int) ≤ e93)) (κ false) (addW t91 1 (fun t95 => nx92 t95)))) (addW t80 1 (fun t96 => nx81 t96))) 0))) (L_impl_acyclic s_0.xChains (fun r97 => κ r97))) 0)) 0)) (fun k69 => ifW (decide ((s_0.xChains.length : Int) < 1)) (k69 true) (k69 (decide (5 < (s_0.xChains.length : Int)))))

def L_impl_chainLine (number_0 : Int) (κ : ByteArray → Prop) : Prop :=
  L_lib_Itoa number_0 (fun r1 => catW (ByteArray.mk #[99, 104, 97, 105, 110, 32]) r1 (fun s2 => κ s2))

def L_impl_actionOf (r_0 : GRule) (κ : IAction → Prop) : Prop :=
  ifW (decide (r_0.xAction = 1)) (κ (IAction.kDeciding (GDeciding.mk true))) (ifW (decide (r_0.xAction = 2)) (κ (IAction.kDeciding (GDeciding.mk false))) (ifW (decide (r_0.xAction = 3)) (κ (IAction.kCalling (GCalling.mk r_0.xChain))) (ifW (decide (r_0.xAction = 4)) (κ (IAction.kReturning (GReturning.mk ))) (κ (IAction.kPassing (GPassing.mk ))))))

def L_impl_Test_text (t_0 : GTest) (κ : ByteArray → Prop) : Prop :=
  idxW gl_impl_fieldShapes t_0.xField (fun e3 => catW e3.xName (ByteArray.mk #[32]) (fun s5 => L_lib_Itoa t_0.xLo (fun r6 => catW s5 r6 (fun s7 => jnW (fun (t69 : ByteArray) => jnW (fun (t134 : ByteArray) => κ t134) (fun k135 => ifW (!(decide (t_0.xHi = t_0.xLo))) (L_lib_Itoa t_0.xHi (fun r71 => catW (ByteArray.mk #[45]) r71 (fun s72 => catW t69 s72 (fun s73 => k135 s73)))) (k135 t69))) (fun k70 => ifW t_0.xNot (catW (ByteArray.mk #[110, 111, 116, 32]) s7 (fun s8 => k70 s8)) (k70 s7))))))

def L_impl_deciding_word (d_0 : GDeciding) (κ : ByteArray → Prop) : Prop :=
  ifW d_0.xAccept (κ (ByteArray.mk #[97, 99, 99, 101, 112, 116])) (κ (ByteArray.mk #[100, 114, 111, 112]))

def L_impl_calling_word (a_0 : GCalling) (κ : ByteArray → Prop) : Prop :=
  κ (ByteArray.mk #[99, 97, 108, 108])

def L_impl_returning_word (a_0 : GReturning) (κ : ByteArray → Prop) : Prop :=
  κ (ByteArray.mk #[114, 101, 116, 117, 114, 110])

def L_impl_passing_word (a_0 : GPassing) (κ : ByteArray → Prop) : Prop :=
  κ (ByteArray.mk #[110, 111, 110, 101])

def L_impl_Rule_text (r_0 : GRule) (κ : ByteArray → Prop) : Prop :=
  L_impl_actionOf r_0 (fun r8 => IAction.casesW r8 (fun x9 => L_impl_deciding_word x9 (fun r13 => jnW (fun (t77 : ByteArray) => loopW (fun (nx81 : (ByteArray × Int) → Prop) ((t79, t80) : (ByteArray × Int)) => ifW (decide (t80 < (r_0.xTests.length : Int))) (idxW r_0.xTests t80 (fun e82 => L_impl_Test_text e82 (fun r86 => catW (ByteArray.mk #[44, 32]) r86 (fun s87 => catW t79 s87 (fun s88 => addW t80 1 (fun t89 => nx81 (s88, t89))))))) (κ t79)) (t77, 0)) (fun k78 => ifW (decide (r_0.xAction = 3)) (L_lib_Itoa r_0.xChain (fun r14 => catW (ByteArray.mk #[32]) r14 (fun s15 => catW r13 s15 (fun s16 => k78 s16)))) (k78 r13)))) (fun x10 => L_impl_calling_word x10 (fun r90 => jnW (fun (t154 : ByteArray) => loopW (fun (nx158 : (ByteArray × Int) → Prop) ((t156, t157) : (ByteArray × Int)) => ifW (decide (t157 < (r_0.xTests.length : Int))) (idxW r_0.xTests t157 (fun e159 => L_impl_Test_text e159 (fun r163 => catW (ByteArray.mk #[44, 32]) r163 (fun s164 => catW t156 s164 (fun s165 => addW t157 1 (fun t166 => nx158 (s165, t166))))))) (κ t156)) (t154, 0)) (fun k155 => ifW (decide (r_0.xAction = 3)) (L_lib_Itoa r_0.xChain (fun r91 => catW (ByteArray.mk #[32]) r91 (fun s92 => catW r90 s92 (fun s93 => k155 s93)))) (k155 r90)))) (fun x11 => L_impl_returning_word (GReturning.mk ) (fun r167 => jnW (fun (t231 : ByteArray) => loopW (fun (nx235 : (ByteArray × Int) → Prop) ((t233, t234) : (ByteArray × Int)) => ifW (decide (t234 < (r_0.xTests.length : Int))) (idxW r_0.xTests t234 (fun e236 => L_impl_Test_text e236 (fun r240 => catW (ByteArray.mk #[44, 32]) r240 (fun s241 => catW t233 s241 (fun s242 => addW t234 1 (fun t243 => nx235 (s242, t243))))))) (κ t233)) (t231, 0)) (fun k232 => ifW (decide (r_0.xAction = 3)) (L_lib_Itoa r_0.xChain (fun r168 => catW (ByteArray.mk #[32]) r168 (fun s169 => catW r167 s169 (fun s170 => k232 s170)))) (k232 r167)))) (fun x12 => L_impl_passing_word (GPassing.mk ) (fun r244 => jnW (fun (t308 : ByteArray) => loopW (fun (nx312 : (ByteArray × Int) → Prop) ((t310, t311) : (ByteArray × Int)) => ifW (decide (t311 < (r_0.xTests.length : Int))) (idxW r_0.xTests t311 (fun e313 => L_impl_Test_text e313 (fun r317 => catW (ByteArray.mk #[44, 32]) r317 (fun s318 => catW t310 s318 (fun s319 => addW t311 1 (fun t320 => nx312 (s319, t320))))))) (κ t310)) (t308, 0)) (fun k309 => ifW (decide (r_0.xAction = 3)) (L_lib_Itoa r_0.xChain (fun r245 => catW (ByteArray.mk #[32]) r245 (fun s246 => catW r244 s246 (fun s247 => k309 s247)))) (k309 r244)))))

def L_laws_eqStringS (a_0 : (List ByteArray)) (b_1 : (List ByteArray)) (κ : Bool → Prop) : Prop :=
  ifW (!(decide ((a_0.length : Int) = (b_1.length : Int)))) (κ false) (loopW (fun (nx6 : Int → Prop) (t5 : Int) => ifW (decide (t5 < (a_0.length : Int))) (idxW a_0 t5 (fun e7 => idxW b_1 t5 (fun e9 => ifW (!(decide (e7 = e9))) (κ false) (addW t5 1 (fun t11 => nx6 t11))))) (κ true)) 0)

def L_laws_szStringS (a_0 : (List ByteArray)) (left_1 : Int) (κ : Int → Prop) : Prop :=
  subW left_1 (a_0.length : Int) (fun t3 => ifW (decide (t3 < 0)) (κ (-1)) (loopW (fun (nx6 : (Int × Int) → Prop) ((t4, t5) : (Int × Int)) => ifW (decide (t5 < (a_0.length : Int))) (idxW a_0 t5 (fun e7 => subW t4 (e7.size : Int) (fun t9 => ifW (decide (t9 < 0)) (κ (-1)) (addW t5 1 (fun t10 => nx6 (t9, t10)))))) (κ t4)) (t3, 0)))

def L_spec_l3Cut (s_0 : ByteArray) (c_1 : UInt8) (κ : (ByteArray × ByteArray) → Prop) : Prop :=
  loopW (fun (nx2 : Int → Prop) (t1 : Int) => ifW (decide (t1 < (s_0.size : Int))) (idxW s_0.data.toList t1 (fun e3 => ifW (decide ((e3.toNat : Int) = (c_1.toNat : Int))) (sliceS s_0 0 t1 (fun s4 => addW t1 1 (fun t5 => sliceS s_0 t5 (s_0.size : Int) (fun s6 => κ (s4, s6))))) (addW t1 1 (fun t7 => nx2 t7)))) (κ (s_0, (ByteArray.mk #[])))) 0

def L_spec_l3Value (s_0 : ByteArray) (κ : Int → Prop) : Prop :=
  loopW (fun (nx3 : (Int × Int) → Prop) ((t1, t2) : (Int × Int)) => jnW (fun (t64 : Bool) => ifW t64 (jnW (fun (t128 : Bool) => ifW t128 (κ (-1)) (mulW 10 t1 (fun t130 => idxW s_0.data.toList t2 (fun e131 => sub8W (e131.toNat : Int) 48 (fun t132 => byteW t132 (fun _ => addW t130 t132 (fun t133 => addW t2 1 (fun t134 => nx3 (t133, t134))))))))) (fun k129 => idxW s_0.data.toList t2 (fun e66 => ifW (decide ((e66.toNat : Int) < 48)) (k129 true) (idxW s_0.data.toList t2 (fun e67 => k129 (decide (57 < (e67.toNat : Int)))))))) (jnW (fun (t196 : Bool) => ifW t196 (κ (-1)) (κ t1)) (fun k197 => ifW (decide (5 < (s_0.size : Int))) (k197 true) (L_spec_l3Number t1 (fun r135 => k197 (!(decide (r135 = s_0)))))))) (fun k65 => ifW (decide (t2 < (s_0.size : Int))) (k65 (decide (t2 < 6))) (k65 false))) (0, 0)

def L_spec_ReadTest (s_0 : ByteArray) (κ : (GTest × Bool) → Prop) : Prop :=
  jnW (fun ((t129, t130) : (Bool × ByteArray)) => L_spec_l3Cut t130 (32 : UInt8) (fun (r132, r133) => L_spec_l3Cut r133 (45 : UInt8) (fun (r134, r135) => jnW (fun (t196 : ByteArray) => loopW (fun (nx202 : (Int × Int) → Prop) ((t200, t201) : (Int × Int)) => ifW (decide (t201 < (([(ByteArray.mk #[102, 114, 111, 109]), (ByteArray.mk #[116, 111]), (ByteArray.mk #[112, 111, 114, 116]), (ByteArray.mk #[112, 114, 111, 116, 111])]).length : Int))) (jnW (fun (t265 : Int) => addW t201 1 (fun t267 => nx202 (t265, t267))) (fun k266 => idxW ([(ByteArray.mk #[102, 114, 111, 109]), (ByteArray.mk #[116, 111]), (ByteArray.mk #[112, 111, 114, 116]), (ByteArray.mk #[112, 114, 111, 116, 111])]) t201 (fun e203 => ifW (decide (r132 = e203)) (k266 t201) (k266 t200)))) (L_spec_l3Value r134 (fun r268 => L_spec_l3Value t196 (fun r269 => jnW (fun (t331 : Bool) => ifW t331 (κ ((GTest.mk 0 0 0 false), false)) (κ ((GTest.mk t200 r268 r269 t129), true))) (fun k332 => L_spec_TestText (GTest.mk t200 r268 r269 t129) (fun r270 => ifW (!(decide (r270 = s_0))) (k332 true) (k332 (decide (s_0 = (ByteArray.mk #[])))))))))) ((-1), 0)) (fun k197 => ifW (decide (r135 = (ByteArray.mk #[]))) (k197 r134) (k197 r135))))) (fun k131 => jnW (fun (t66 : Bool) => ifW t66 (sliceS s_0 4 (s_0.size : Int) (fun s68 => k131 (true, s68))) (k131 (false, s_0))) (fun k67 => ifW (decide (4 < (s_0.size : Int))) (sliceS s_0 0 4 (fun s5 => k67 (decide (s5 = (ByteArray.mk #[110, 111, 116, 32]))))) (k67 false)))

def L_spec_ReadRule (s_0 : ByteArray) (κ : (GRule × Bool) → Prop) : Prop :=
  L_spec_l3Cut s_0 (44 : UInt8) (fun (r5, r6) => loopW (fun (nx10 : (Int × Int × Int) → Prop) ((t7, t8, t9) : (Int × Int × Int)) => ifW (decide (t9 ≤ 5)) (loopW (fun (nx14 : (Int × Int × Int) → Prop) ((t11, t12, t13) : (Int × Int × Int)) => ifW (decide (t13 < 5)) (jnW (fun ((t140, t141) : (Int × Int)) => addW t13 1 (fun t143 => nx14 (t140, t141, t143))) (fun k142 => jnW (fun (t77 : Int) => L_spec_RuleText (GRule.mk ([]) t9 t77) (fun r79 => ifW (decide (r79 = r5)) (k142 (t9, t77)) (k142 (t11, t12)))) (fun k78 => ifW (decide (t9 = 3)) (k78 t13) (k78 0)))) (addW t9 1 (fun t144 => nx10 (t11, t12, t144)))) (t7, t8, 0)) (loopW (fun (nx151 : ((List GTest) × ByteArray × Int) → Prop) ((xs146, t149, t150) : ((List GTest) × ByteArray × Int)) => jnW (fun (t212 : Bool) => ifW t212 (L_spec_l3Cut t149 (44 : UInt8) (fun (r214, r215) => jnW (fun (t277 : Bool) => ifW t277 (κ ((GRule.mk ([]) 0 0), false)) (sliceS r214 1 (r214.size : Int) (fun s280 => L_spec_ReadTest s280 (fun (r281, r282) => ifW (!r282) (κ ((GRule.mk ([]) 0 0), false)) (appW xs146 ([r281]) (fun _ => addW t150 1 (fun t293 => nx151 ((xs146 ++ ([r281])), r215, t293)))))))) (fun k278 => ifW (decide (r214 = (ByteArray.mk #[]))) (k278 true) (idxW r214.data.toList 0 (fun e216 => k278 (!(decide ((e216.toNat : Int) = 32)))))))) (jnW (fun (t355 : Bool) => ifW t355 (κ ((GRule.mk ([]) 0 0), false)) (κ ((GRule.mk xs146 t7 t8), true))) (fun k356 => L_spec_RuleText (GRule.mk xs146 t7 t8) (fun r294 => ifW (!(decide (r294 = s_0))) (k356 true) (k356 (decide (s_0 = (ByteArray.mk #[])))))))) (fun k213 => ifW (!(decide (t149 = (ByteArray.mk #[])))) (k213 (decide (t150 ≤ 6))) (k213 false))) ([], r6, 0))) (0, 0, 1))

def L_spec_ReadRuleset (lines_0 : (List ByteArray)) (κ : (GRuleset × Bool) → Prop) : Prop :=
  jnW (fun (t71 : Bool) => ifW t71 (κ ((GRuleset.mk ([]) false), false)) (idxW lines_0 0 (fun e74 => loopW (fun (nx87 : ((List (List GRule)) × (List (List GRule)) × Int) → Prop) ((xs77, xs82, t86) : ((List (List GRule)) × (List (List GRule)) × Int)) => ifW (decide (t86 < (lines_0.length : Int))) (jnW (fun (xs389 : (List (List GRule))) => addW t86 1 (fun t394 => nx87 (xs389, xs82, t394))) (fun k393 => jnW (fun (xs170 : (List (List GRule))) => idxW lines_0 t86 (fun e175 => L_spec_ReadRule e175 (fun (r177, r180) => jnW (fun (t246 : Bool) => ifW t246 (κ ((GRuleset.mk ([]) false), false)) (jnW (fun (xs252 : (List (List GRule))) => k393 xs252) (fun k255 => idxW xs170 (w64 ((xs170.length : Int) - 1)) (fun e256 => appW e256 ([r177]) (fun _ => idxW xs170 (w64 ((xs170.length : Int) - 1)) (fun e266 => k255 (xs170.set ((w64 ((xs170.length : Int) - 1))).toNat (e256 ++ ([r177]))))))))) (fun k247 => ifW (!r180) (k247 true) (k247 (decide ((xs170.length : Int) = 0))))))) (fun k174 => idxW lines_0 t86 (fun e91 => L_spec_l3Number (xs77.length : Int) (fun r93 => catW (ByteArray.mk #[99, 104, 97, 105, 110, 32]) r93 (fun s94 => ifW (decide (e91 = s94)) (appW xs77 ([[]]) (fun _ => k393 (xs77 ++ ([[]])))) (k174 xs77))))))) (L_spec_RulesetValid (GRuleset.mk xs77 (decide (e74 = (ByteArray.mk #[100, 101, 102, 97, 117, 108, 116, 32, 97, 99, 99, 101, 112, 116])))) (fun r395 => ifW (!r395) (κ ((GRuleset.mk ([]) false), false)) (κ ((GRuleset.mk xs77 (decide (e74 = (ByteArray.mk #[100, 101, 102, 97, 117, 108, 116, 32, 97, 99, 99, 101, 112, 116])))), true))))) ([], [], 1)))) (fun k72 => ifW (decide ((lines_0.length : Int) = 0)) (k72 true) (idxW lines_0 0 (fun e7 => ifW (!(decide (e7 = (ByteArray.mk #[100, 101, 102, 97, 117, 108, 116, 32, 97, 99, 99, 101, 112, 116])))) (idxW lines_0 0 (fun e9 => k72 (!(decide (e9 = (ByteArray.mk #[100, 101, 102, 97, 117, 108, 116, 32, 100, 114, 111, 112])))))) (k72 false))))

def L_spec_l23Begins (lines_0 : (List ByteArray)) (κ : Bool → Prop) : Prop :=
  ifW (decide ((lines_0.length : Int) = 0)) (κ true) (appW ([]) lines_0 (fun _ => loopW (fun (nx10 : (Int × Int × Int) → Prop) ((t7, t8, t9) : (Int × Int × Int)) => ifW (decide (t9 < (lines_0.length : Int))) (jnW (fun ((t150, t151) : (Int × Int)) => addW t9 1 (fun t153 => nx10 (t150, t151, t153))) (fun k152 => idxW lines_0 t9 (fun e11 => L_spec_l3Number t7 (fun r13 => catW (ByteArray.mk #[99, 104, 97, 105, 110, 32]) r13 (fun s14 => ifW (decide (e11 = s14)) (addW t7 1 (fun t15 => k152 (t15, t8))) (idxW lines_0 t9 (fun e16 => L_spec_ReadRule e16 (fun (r18, r21) => jnW (fun (t87 : Bool) => ifW t87 (addW r18.xChain 1 (fun t89 => k152 (t7, (max t8 t89)))) (k152 (t7, t8))) (fun k88 => ifW r21 (k88 (decide (r18.xAction = 3))) (k88 false)))))))))) (loopW (fun (nx159 : ((List ByteArray) × Int) → Prop) ((xs155, t158) : ((List ByteArray) × Int)) => ifW (decide (t158 < (max 1 t8))) (L_spec_l3Number t158 (fun r160 => catW (ByteArray.mk #[99, 104, 97, 105, 110, 32]) r160 (fun s161 => appW xs155 ([s161]) (fun _ => addW t158 1 (fun t166 => nx159 ((xs155 ++ ([s161])), t166)))))) (L_spec_ReadRuleset xs155 (fun (r167, r171) => κ r171))) ((([]) ++ lines_0), t7))) (0, 0, 0)))

def L_spec_FirstBad (lines_0 : (List ByteArray)) (κ : Int → Prop) : Prop :=
  L_spec_ReadRuleset lines_0 (fun (r3, r7) => ifW r7 (κ (-1)) (loopW (fun (nx14 : Int → Prop) (t13 : Int) => ifW (decide (t13 < (lines_0.length : Int))) (addW t13 1 (fun t15 => sliceW lines_0 0 t15 (fun xs17 => L_spec_l23Begins xs17 (fun r20 => ifW (!r20) (κ t13) (addW t13 1 (fun t21 => nx14 t21)))))) (κ (lines_0.length : Int))) 0))

def L_laws_toStringS (a_0 : (List ByteArray)) (κ : (List ByteArray) → Prop) : Prop :=
  makeW ((ByteArray.mk #[]) : ByteArray) (a_0.length : Int) (a_0.length : Int) (fun xs5 => loopW (fun (nx10 : ((List ByteArray) × Int) → Prop) ((xs7, t9) : ((List ByteArray) × Int)) => ifW (decide (t9 < (a_0.length : Int))) (idxW a_0 t9 (fun e11 => idxW xs7 t9 (fun e13 => addW t9 1 (fun t16 => nx10 ((xs7.set (t9).toNat e11), t16))))) (κ xs7)) (xs5, 0))

def L_impl_reader_takeChain (in_0_state : Int) (in_0_set_Chains : (List (List GRule))) (in_0_set_Accept : Bool) (line_1 : ByteArray) (κ : (Bool × (List (List GRule))) → Prop) : Prop :=
  jnW (fun (t67 : Bool) => ifW t67 (κ (false, in_0_set_Chains)) (appW in_0_set_Chains ([[]]) (fun _ => κ (true, (in_0_set_Chains ++ ([[]])))))) (fun k68 => ifW (decide ((in_0_set_Chains.length : Int) = 5)) (k68 true) (L_impl_chainLine (in_0_set_Chains.length : Int) (fun r6 => k68 (!(decide (line_1 = r6))))))

def L_impl_scanner_word (in_0_text : ByteArray) (in_0_at : Int) (w_1 : ByteArray) (κ : (Bool × Int) → Prop) : Prop :=
  jnW (fun (t3 : Bool) => ifW t3 (κ (false, in_0_at)) (addW in_0_at (w_1.size : Int) (fun t7 => κ (true, t7)))) (fun k4 => sliceS in_0_text in_0_at (in_0_text.size : Int) (fun s5 => L_lib_HasPrefix s5 w_1 (fun r6 => k4 (!r6))))

def L_impl_scanner_done (in_0_text : ByteArray) (in_0_at : Int) (κ : Bool → Prop) : Prop :=
  κ (decide (in_0_at = (in_0_text.size : Int)))

def L_impl_scanner_number (in_0_text : ByteArray) (in_0_at : Int) (κ : (Int × Bool × Int) → Prop) : Prop :=
  jnW (fun ((t199, t200) : (Int × Int)) => κ (t200, (decide (in_0_at < t199)), t199)) (fun k201 => loopW (fun (nx5 : (Int × Int) → Prop) ((t3, t4) : (Int × Int)) => jnW (fun (t68 : Bool) => ifW t68 (jnW (fun (t70 : UInt8) => jnW (fun (t133 : Bool) => ifW t133 (k201 (t3, t4)) (mulW 10 t4 (fun t135 => sub8W (t70.toNat : Int) 48 (fun t136 => byteW t136 (fun _ => addW t135 t136 (fun t137 => addW t3 1 (fun t138 => nx5 (t138, t137)))))))) (fun k134 => ifW (decide ((t70.toNat : Int) < 48)) (k134 true) (k134 (decide (57 < (t70.toNat : Int)))))) (fun k71 => idxW in_0_text.data.toList t3 (fun e72 => k71 e72))) (k201 (t3, t4))) (fun k69 => L_impl_scanner_done in_0_text t3 (fun r6 => ifW (!r6) (addW in_0_at 6 (fun t7 => k69 (decide (t3 < t7)))) (k69 false)))) (in_0_at, 0))

def L_impl_scanner_action (in_0_text : ByteArray) (in_0_at : Int) (κ : (GRule × Bool × Int) → Prop) : Prop :=
  loopW (fun (nx7 : (Int × Int) → Prop) ((t5, t6) : (Int × Int)) => ifW (decide (t6 ≤ 5)) (jnW (fun (t218 : Int) => addW t6 1 (fun t220 => nx7 (t218, t220))) (fun k219 => jnW (fun (t87 : Int) => ifW (!(decide (t6 = 3))) (κ ((GRule.mk ([]) t6 0), true, t87)) (L_impl_scanner_word in_0_text t87 (ByteArray.mk #[32]) (fun (r90, r91) => jnW (fun ((t155, t156, t157) : (Int × Int × Bool)) => κ ((GRule.mk ([]) t6 t156), t157, t155)) (fun k158 => ifW r90 (L_impl_scanner_number in_0_text r91 (fun (r92, r93, r94) => k158 (r94, r92, r93))) (k158 (r91, 0, r90)))))) (fun k88 => L_impl_actionOf (GRule.mk ([]) t6 0) (fun r10 => IAction.casesW r10 (fun x11 => L_impl_deciding_word x11 (fun r15 => L_impl_scanner_word in_0_text t5 r15 (fun (r16, r17) => ifW (!r16) (k219 r17) (k88 r17)))) (fun x12 => L_impl_calling_word x12 (fun r18 => L_impl_scanner_word in_0_text t5 r18 (fun (r19, r20) => ifW (!r19) (k219 r20) (k88 r20)))) (fun x13 => L_impl_returning_word (GReturning.mk ) (fun r21 => L_impl_scanner_word in_0_text t5 r21 (fun (r22, r23) => ifW (!r22) (k219 r23) (k88 r23)))) (fun x14 => L_impl_passing_word (GPassing.mk ) (fun r24 => L_impl_scanner_word in_0_text t5 r24 (fun (r25, r26) => ifW (!r25) (k219 r26) (k88 r26)))))))) (κ ((GRule.mk ([]) 0 0), false, t5))) (in_0_at, 1)

def L_impl_scanner_field (in_0_text : ByteArray) (in_0_at : Int) (κ : (Int × Bool × Int) → Prop) : Prop :=
  loopW (fun (nx5 : (Int × Int) → Prop) ((t3, t4) : (Int × Int)) => ifW (decide (t4 < 4)) (idxW gl_impl_fieldShapes t4 (fun e6 => catW e6.xName (ByteArray.mk #[32]) (fun s8 => L_impl_scanner_word in_0_text t3 s8 (fun (r9, r10) => ifW r9 (κ (t4, true, r10)) (addW t4 1 (fun t11 => nx5 (r10, t11))))))) (κ (0, false, t3))) (in_0_at, 0)

def L_impl_scanner_test (in_0_text : ByteArray) (in_0_at : Int) (κ : (GTest × Bool × Int) → Prop) : Prop :=
  L_impl_scanner_word in_0_text in_0_at (ByteArray.mk #[110, 111, 116, 32]) (fun (r7, r8) => L_impl_scanner_field in_0_text r8 (fun (r9, r10, r11) => ifW (!r10) (κ ((GTest.mk 0 0 0 false), false, r11)) (L_impl_scanner_number in_0_text r11 (fun (r12, r13, r14) => ifW (!r13) (κ ((GTest.mk 0 0 0 false), false, r14)) (jnW (fun ((t80, t81) : (Int × Int)) => κ ((GTest.mk r9 r12 t81 r7), true, t80)) (fun k82 => L_impl_scanner_word in_0_text r14 (ByteArray.mk #[45]) (fun (r15, r16) => ifW r15 (L_impl_scanner_number in_0_text r16 (fun (r17, r18, r19) => ifW (!r18) (κ ((GTest.mk 0 0 0 false), false, r19)) (k82 (r19, r17)))) (k82 (r16, r12)))))))))

def L_impl_ReadRule (s_0 : ByteArray) (κ : (GRule × Bool) → Prop) : Prop :=
  L_impl_scanner_action s_0 0 (fun (r5, r8, r9) => ifW (!r8) (κ ((GRule.mk ([]) 0 0), false)) (loopW (fun (nx21 : ((List GTest) × Int) → Prop) ((xs17, t20) : ((List GTest) × Int)) => L_impl_scanner_done s_0 t20 (fun r22 => ifW (!r22) (jnW (fun ((t85, t86) : (Int × Bool)) => ifW t86 (κ ((GRule.mk ([]) 0 0), false)) (L_impl_scanner_test s_0 t85 (fun (r89, r90, r91) => ifW (!r90) (κ ((GRule.mk ([]) 0 0), false)) (appW xs17 ([r89]) (fun _ => nx21 ((xs17 ++ ([r89])), r91)))))) (fun k87 => ifW (decide ((xs17.length : Int) = 6)) (k87 (t20, true)) (L_impl_scanner_word s_0 t20 (ByteArray.mk #[44, 32]) (fun (r23, r24) => k87 (r24, (!r23)))))) (jnW (fun (t164 : Bool) => ifW t164 (κ ((GRule.mk ([]) 0 0), false)) (κ ((GRule.mk xs17 r5.xAction r5.xChain), true))) (fun k165 => L_impl_RuleValid (GRule.mk xs17 r5.xAction r5.xChain) (fun r102 => ifW (!r102) (k165 true) (L_impl_Rule_text (GRule.mk xs17 r5.xAction r5.xChain) (fun r103 => k165 (!(decide (r103 = s_0)))))))))) (r5.xTests, r9)))

def L_impl_reader_takeRule (in_0_state : Int) (in_0_set_Chains : (List (List GRule))) (in_0_set_Accept : Bool) (line_1 : ByteArray) (κ : (Bool × (List (List GRule))) → Prop) : Prop :=
  L_impl_ReadRule line_1 (fun (r6, r9) => subW (in_0_set_Chains.length : Int) 1 (fun t15 => idxW in_0_set_Chains t15 (fun e16 => ifW (!r9) (κ (false, in_0_set_Chains)) (ifW (decide ((e16.length : Int) = 8)) (κ (false, (in_0_set_Chains.set (t15).toNat e16))) (jnW (fun (_ : Unit) => L_impl_acyclic (in_0_set_Chains.set (t15).toNat (e16 ++ ([r6]))) (fun r40 => κ (r40, (in_0_set_Chains.set (t15).toNat (e16 ++ ([r6])))))) (fun k25 => appW e16 ([r6]) (fun _ => k25 ())))))))

def L_impl_reader_take (in_0_state : Int) (in_0_set_Chains : (List (List GRule))) (in_0_set_Accept : Bool) (line_1 : ByteArray) (κ : (Bool × Int × (List (List GRule)) × Bool) → Prop) : Prop :=
  ifW (decide (in_0_state = 0)) (jnW (fun (t66 : Bool) => κ (t66, 1, in_0_set_Chains, (decide (line_1 = (ByteArray.mk #[100, 101, 102, 97, 117, 108, 116, 32, 97, 99, 99, 101, 112, 116]))))) (fun k67 => ifW (decide (line_1 = (ByteArray.mk #[100, 101, 102, 97, 117, 108, 116, 32, 97, 99, 99, 101, 112, 116]))) (k67 true) (k67 (decide (line_1 = (ByteArray.mk #[100, 101, 102, 97, 117, 108, 116, 32, 100, 114, 111, 112])))))) (ifW (decide (in_0_state = 1)) (L_impl_reader_takeChain 2 in_0_set_Chains in_0_set_Accept line_1 (fun (r68, r69) => κ (r68, 2, r69, in_0_set_Accept))) (jnW (fun ((xs143, t147) : ((List (List GRule)) × Bool)) => κ (t147, in_0_state, xs143, in_0_set_Accept)) (fun k148 => L_impl_reader_takeChain in_0_state in_0_set_Chains in_0_set_Accept line_1 (fun (r73, r74) => ifW r73 (k148 (r74, true)) (L_impl_reader_takeRule in_0_state r74 in_0_set_Accept line_1 (fun (r78, r79) => k148 (r79, r78)))))))

def L_impl_FirstBad (lines_0 : (List ByteArray)) (κ : Int → Prop) : Prop :=
  loopW (fun (nx13 : (Int × (List (List GRule)) × Bool × Int) → Prop) ((t5, xs7, t11, t12) : (Int × (List (List GRule)) × Bool × Int)) => ifW (decide (t12 < (lines_0.length : Int))) (idxW lines_0 t12 (fun e14 => L_impl_reader_take t5 xs7 t11 e14 (fun (r16, r17, r18, r22) => ifW (!r16) (κ t12) (addW t12 1 (fun t23 => nx13 (r17, r18, r22, t23)))))) (L_impl_RulesetValid (GRuleset.mk xs7 t11) (fun r24 => ifW (!r24) (κ (lines_0.length : Int)) (κ (-1))))) (0, [], false, 0)

def L_laws_FnExactFirstBad (aLines_0 : (List ByteArray)) (κ : Bool → Prop) : Prop :=
  L_laws_szStringS aLines_0 1048576 (fun r3 => ifW (decide (r3 < 0)) (κ true) (L_laws_toStringS aLines_0 (fun r4 => L_spec_FirstBad r4 (fun r7 => L_laws_toStringS aLines_0 (fun r8 => L_impl_FirstBad r8 (fun r11 => ifW (!(decide (r11 = r7))) (κ false) (L_laws_toStringS aLines_0 (fun r12 => L_laws_eqStringS r8 r12 (fun r15 => ifW (!r15) (κ false) (κ true))))))))))

end
section

theorem idxW_any {α : Type} {xs : List α} {i : Int} {κ : α → Prop} (h1 : 0 ≤ i) (h2 : i < xs.length) (h : ∀ x, x ∈ xs → κ x) : idxW xs i κ := by
  obtain ⟨n, rfl⟩ := Int.eq_ofNat_of_zero_le h1
  have hn : n < xs.length := by omega
  exact idxW_of n rfl hn (h _ (List.getElem_mem hn))

/-- the reader stands at p of the bytes b -/
def RdP (b : List UInt8) (p : Int) : Prop := b.length ≤ 2000 ∧ 0 ≤ p ∧ p ≤ 1000000

end
section
open Go.Lib (decDigits)

theorem byteU_of {n : Int} {κ : UInt8 → Prop} (m : Nat) (e : n = m) (h : m ≤ 255) (hk : κ (UInt8.ofNat m)) : byteU n κ := by
  subst e; exact ⟨by omega, by omega, by simpa using hk⟩
def preD (m : Nat) : List UInt8 := if m < 10 then [] else decDigits (m / 10)
theorem preD_step {m : Nat} : decDigits m = preD m ++ [UInt8.ofNat (48 + m % 10)] := by
  unfold preD; split
  · rename_i h; rw [dec_small h, Nat.mod_eq_of_lt h]; rfl
  · rename_i h; exact dec_big h

theorem S_l3Number {n : Int} {κ : ByteArray → Prop} (h0 : 0 ≤ n) (h1 : n ≤ 1000000000000000000) (h : κ (B (decDigits n.toNat))) : L_spec_l3Number n κ := by
  obtain ⟨n, rfl⟩ := Int.eq_ofNat_of_zero_le h0
  rw [Int.toNat_natCast] at h
  have hlen : (decDigits n).length ≤ 20 := dec_len 19 n (Nat.lt_of_le_of_lt (show n ≤ 1000000000000000000 by omega) (by decide))
  unfold L_spec_l3Number
  refine remW_of (by omega) (by omega) (by omega) (addW_of (by omega) (by omega) (byteU_of (48 + n % 10) (by omega) (by omega) ?_))
  refine loopW_inv (fun s => ∃ (m : Nat) (l : List UInt8), s = ((m : Int), B l) ∧ m ≤ n ∧ decDigits n = preD m ++ l) (fun s => s.1.toNat) ?_ ⟨n, [UInt8.ofNat (48 + n % 10)], rfl, Nat.le_refl _, preD_step⟩
  rintro _ next ⟨m, l, rfl, hm, he⟩ hn
  have hl : l.length ≤ 20 := by have := congrArg List.length he; simp at this; omega
  refine ifW_of (fun hc => ?_) (fun hc => ?_)
  · simp at hc
    refine quoW_of (by omega) (by omega) (by omega) (remW_of (by omega) (by omega) (by omega) (addW_of (by omega) (by omega) (byteU_of (48 + m / 10 % 10) (by omega) (by omega) ?_)))
    refine catW_B (l := [UInt8.ofNat (48 + m / 10 % 10)]) (by simp; omega) ?_
    refine hn _ ⟨m / 10, _, by rw [show ((m : Int) / 10) = ((m / 10 : Nat) : Int) by omega], by omega, ?_⟩ (by simp; omega)
    rw [he, show preD m = decDigits (m / 10) by unfold preD; rw [if_neg (by omega)], preD_step (m := m / 10)]
    simp
  · simp at hc
    rw [show preD m = [] by unfold preD; rw [if_pos (by omega)]] at he
    rw [he] at h; exact h

theorem S_word {l w : List UInt8} {a : Int} {κ : Bool × Int → Prop} (n : Nat) (ea : a = n) (hn : n ≤ l.length) (hl : l.length ≤ 1000000000000) (hw : w.length ≤ 1000)
    (ht : ∀ r, l.drop n = w ++ r → κ (true, ((n + w.length : Nat) : Int))) (hf : (∀ r, l.drop n ≠ w ++ r) → κ (false, (n : Int))) : L_impl_scanner_word (B l) a (B w) κ := by
  subst ea
  unfold L_impl_scanner_word jnW L_lib_HasPrefix
  refine sliceS_B n l.length rfl (by rw [B_size]) hn (Nat.le_refl _) ?_
  rw [List.take_length]
  refine ifW_of (fun hc => ?_) (fun hc => ?_)
  · refine hf (fun r e => ?_)
    rw [e, hasPre_app] at hc; cases hc
  · obtain ⟨r, e⟩ := (hasPre_iff (l.drop n) w).1 (by simpa using hc)
    rw [B_size]
    exact addW_of (by omega) (by omega) (by have := ht r e; simpa using this)

theorem digitI {c : UInt8} : dg c = true ↔ 48 ≤ c.toNat ∧ c.toNat ≤ 57 := by simp [dg]

theorem idxW_B {l : List UInt8} {i : Int} {κ : UInt8 → Prop} (n : Nat) (hi : i = n) (hn : n < l.length) (h : κ l[n]) : idxW (B l).data.toList i κ := by
  rw [B_data]; exact idxW_of n hi hn h

theorem S_number {l : List UInt8} {a : Int} {κ : Int × Bool × Int → Prop} (n : Nat) (ea : a = n) (hn : n ≤ l.length) (hl : l.length ≤ 1000000000000)
    (h : κ ((val (run 6 (l.drop n)) : Int), decide (run 6 (l.drop n) ≠ []), ((n + (run 6 (l.drop n)).length : Nat) : Int))) : L_impl_scanner_number (B l) a κ := by
  subst ea
  obtain ⟨r, he, hend⟩ := run_end 6 (l.drop n)
  have hdg := run_dg 6 (l.drop n)
  have hlen := (run_len 6 (l.drop n)).1
  generalize run 6 (l.drop n) = R at *
  have hll : l = l.take n ++ (R ++ r) := by rw [← he]; simp
  have hsz : l.length = n + (R.length + r.length) := by
    have := congrArg List.length he; simp at this; omega
  have hget : ∀ k (hk : k < R.length), l[n + k]? = some R[k] := by
    intro k hk
    have : (l.drop n)[k]? = some R[k] := by rw [he, List.getElem?_append_left hk]; simp [hk]
    rw [List.getElem?_drop] at this; exact this
  unfold L_impl_scanner_number jnW
  refine loopW_inv (fun s => ∃ k, k ≤ R.length ∧ s = (((n + k : Nat) : Int), (val (R.take k) : Int))) (fun s => R.length + n - s.1.toNat) ?_ ⟨0, by omega, by simp [val]⟩
  rintro _ next ⟨k, hk, rfl⟩ hnx
  have hv : val (R.take k) ≤ 999999 := val_6 (fun c hc => hdg c (List.mem_of_mem_take hc)) (by simp; omega)
  have hstop : k = R.length → κ ((val (R.take k) : Int), decide ((n : Int) < ((n + k : Nat) : Int)), ((n + k : Nat) : Int)) := by
    intro e
    subst e
    rw [List.take_length]
    rw [show decide ((n : Int) < ((n + R.length : Nat) : Int)) = decide (R ≠ []) by
      apply decide_eq_decide.2
      cases R with
      | nil => simp
      | cons x xs => simp; omega]
    exact h
  simp only [L_impl_scanner_done, B_size]
  refine ifW_of (fun hc => ?_) (fun hc => ?_)
  · simp at hc
    refine addW_of (by omega) (by omega) (ifW_of (fun hc2 => ?_) (fun hc2 => ?_))
    · simp at hc2
      have hlt : n + k < l.length := by omega
      refine idxW_B (n + k) rfl hlt ?_
      by_cases hkr : k < R.length
      · have hg := hget k hkr
        rw [List.getElem?_eq_getElem hlt] at hg
        obtain hg := Option.some.inj hg
        rw [hg]
        obtain ⟨d1, d2⟩ := digitI.1 (hdg R[k] (List.getElem_mem hkr))
        have hgo : mulW 10 ↑(val (List.take k R)) (fun t135 => sub8W (R[k].toNat : Int) 48 (fun t136 => byteW t136 (fun _ => addW t135 t136 (fun t137 => addW ((n + k : Nat) : Int) 1 (fun t138 => next (t138, t137)))))) := by
          refine mulW_of (by omega) (by omega) ⟨by omega, by omega, by omega, ⟨by omega, by omega, addW_of (by omega) (by omega) (addW_of (by omega) (by omega) (hnx _ ⟨k + 1, by omega, ?_⟩ (by simp; omega)))⟩⟩
          rw [List.take_succ_eq_append_getElem hkr, val_snoc]
          simp only [Prod.mk.injEq]
          omega
        refine ifW_of (fun hc3 => ?_) (fun hc3 => ?_)
        · simp at hc3; omega
        · refine ifW_of (fun hc4 => ?_) (fun hc4 => hgo)
          simp at hc4; omega
      · have e : k = R.length := by omega
        rcases hend with h6 | hnd
        · omega
        · cases r with
          | nil => simp at hsz; omega
          | cons c m =>
            have hcn := hnd c m rfl
            have hg : l[n + k] = c := by
              have : (l.drop n)[k]? = some c := by rw [he, e, List.getElem?_append_right (Nat.le_refl _)]; simp
              rw [List.getElem?_drop, List.getElem?_eq_getElem hlt] at this
              exact Option.some.inj this
            rw [hg]
            have hnot : ¬ (48 ≤ c.toNat ∧ c.toNat ≤ 57) := fun hh => by rw [digitI.2 hh] at hcn; cases hcn
            refine ifW_of (fun hc3 => ?_) (fun hc3 => ?_)
            · simp only [ifW_true]; exact hstop e
            · refine ifW_of (fun hc4 => hstop e) (fun hc4 => ?_)
              simp at hc3 hc4; omega
    · simp at hc2
      exact hstop (by omega)
  · simp at hc
    simp only [ifW_false]
    exact hstop (by omega)

/-- a text before and behind the first of a sign -/
def cut (c : UInt8) : List UInt8 → List UInt8 × List UInt8
  | [] => ([], [])
  | d :: l => if d = c then ([], l) else (d :: (cut c l).1, (cut c l).2)
theorem cut_app {c : UInt8} : ∀ {x y : List UInt8}, c ∉ x → cut c (x ++ c :: y) = (x, y)
  | [], y, _ => by simp [cut]
  | d :: x, y, h => by
    simp only [List.mem_cons, not_or] at h
    simp only [List.cons_append, cut]
    rw [if_neg (fun e => h.1 e.symm), cut_app h.2]
theorem cut_no {c : UInt8} : ∀ {x : List UInt8}, c ∉ x → cut c x = (x, [])
  | [], _ => rfl
  | d :: x, h => by
    simp only [List.mem_cons, not_or] at h
    simp only [cut]
    rw [if_neg (fun e => h.1 e.symm), cut_no h.2]
theorem cut_len {c : UInt8} : ∀ (x : List UInt8), (cut c x).1.length + (cut c x).2.length ≤ x.length
  | [] => by simp [cut]
  | d :: x => by
    have := cut_len (c := c) x
    simp only [cut]; split <;> simp <;> omega

theorem S_cut {l : List UInt8} {c : UInt8} {κ : ByteArray × ByteArray → Prop} (hl : l.length ≤ 1000000000000) (h : κ (B (cut c l).1, B (cut c l).2)) : L_spec_l3Cut (B l) c κ := by
  unfold L_spec_l3Cut
  refine count_loop l.length (fun s => s) (fun k s => s = (k : Int) ∧ k ≤ l.length ∧ cut c l = (l.take k ++ (cut c (l.drop k)).1, (cut c (l.drop k)).2)) (fun k s h => h.1) (fun k s h => h.2.1) ?_ ⟨rfl, Nat.zero_le _, by simp⟩
  rintro k _ next ⟨rfl, hk, he⟩ hn
  rw [B_size]
  refine ifW_of (fun hc => ?_) (fun hc => ?_)
  · have hlt : k < l.length := by simpa using hc
    have hd : l.drop k = l[k] :: l.drop (k + 1) := List.drop_eq_getElem_cons hlt
    refine idxW_B k rfl hlt (ifW_of (fun hc2 => ?_) (fun hc2 => ?_))
    · have e : l[k] = c := by
        simp at hc2; exact UInt8.toNat_inj.1 (by omega)
      rw [hd] at he
      simp only [cut, if_pos e, List.append_nil] at he
      refine sliceS_B 0 k rfl rfl (by omega) (by omega) (addW_of (by omega) (by omega) (sliceS_B (k + 1) l.length (by omega) rfl (by omega) (by omega) ?_))
      rw [he] at h
      simpa using h
    · have e : l[k] ≠ c := by
        intro e; rw [e] at hc2; simp at hc2
      refine addW_of (by omega) (by omega) (hn hlt _ ⟨by omega, by omega, ?_⟩)
      rw [he, hd]
      simp only [cut, if_neg e, List.take_succ_eq_append_getElem hlt, List.append_assoc, List.singleton_append]
  · have hge : l.length ≤ k := by simpa using hc
    rw [List.drop_eq_nil_of_le hge, List.take_of_length_le hge] at he
    simp only [cut, List.append_nil] at he
    rw [he] at h; exact h

theorem S_value {l : List UInt8} {κ : Int → Prop} (hl : l.length ≤ 1000000000000) (h : ∀ v : Int, -1 ≤ v → v ≤ 999999 → (∀ n : Nat, l = decDigits n → n < 100000 → v = n) → κ v) : L_spec_l3Value (B l) κ := by
  unfold L_spec_l3Value jnW
  refine count_loop (min 6 l.length) (fun s => s.2) (fun k s => s = ((val (l.take k) : Int), (k : Int)) ∧ k ≤ min 6 l.length ∧ ∀ c ∈ l.take k, dg c = true) (fun k s h => by rw [h.1]) (fun k s h => h.2.1) ?_ ⟨by simp [val], Nat.zero_le _, by simp⟩
  rintro k _ next ⟨rfl, hk, hd⟩ hn
  have hv : val (l.take k) ≤ 999999 := val_6 hd (by simp; omega)
  have hend : ¬ k < min 6 l.length → ifW (decide (5 < (l.length : Int))) (ifW true (κ (-1)) (κ (val (l.take k) : Int))) (L_spec_l3Number (val (l.take k) : Int) (fun r135 => ifW (!(decide (r135 = B l))) (κ (-1)) (κ (val (l.take k) : Int)))) := by
    intro hge
    refine ifW_of (fun hc => ?_) (fun hc => ?_)
    · simp at hc
      rw [ifW_true]
      refine h _ (by omega) (by omega) (fun n e hn => ?_)
      have := dec_len 4 n (by simpa using hn)
      rw [← e] at this; omega
    · simp at hc
      have hkl : k = l.length := by omega
      subst hkl
      rw [List.take_length] at hv ⊢
      refine S_l3Number (by omega) (by omega) ?_
      rw [Int.toNat_natCast, B_dec]
      refine ifW_of (fun hc2 => ?_) (fun hc2 => ?_)
      · refine h _ (by omega) (by omega) (fun n e hn => ?_)
        rw [e, dec_val] at hc2; simp at hc2
      · exact h _ (by omega) (by omega) (fun n e hn => by rw [e, dec_val])
  rw [B_size]
  refine ifW_of (fun hc => ?_) (fun hc => ?_)
  · simp at hc
    refine ifW_of (fun hc2 => ?_) (fun hc2 => ?_)
    · simp at hc2
      have hlt : k < l.length := by omega
      have hbad : dg l[k] = false → κ (-1) := fun hb => h _ (by omega) (by omega) (fun n e hn => by
        subst e
        rw [dec_dg n _ (List.getElem_mem hlt)] at hb; cases hb)
      refine idxW_B k rfl hlt (ifW_of (fun hc3 => ?_) (fun hc3 => ?_))
      · simp only [ifW_true]; exact hbad (by simp [dg] at hc3 ⊢; omega)
      · refine idxW_B k rfl hlt (ifW_of (fun hc4 => hbad ?_) (fun hc4 => ?_))
        · simp [dg] at hc4 ⊢; omega
        · have hdk : dg l[k] = true := by simp [dg] at hc3 hc4 ⊢; omega
          obtain ⟨d1, d2⟩ := digitI.1 hdk
          refine mulW_of (by omega) (by omega) (idxW_B k rfl hlt ⟨by omega, by omega, by omega, ⟨by omega, by omega, addW_of (by omega) (by omega) (addW_of (by omega) (by omega) (hn (by omega) _ ⟨?_, by omega, ?_⟩))⟩⟩)
          · rw [List.take_succ_eq_append_getElem hlt, val_snoc]
            simp only [Prod.mk.injEq]
            omega
          · rw [List.take_succ_eq_append_getElem hlt]
            intro c hc
            rcases List.mem_append.1 hc with hc | hc
            · exact hd c hc
            · rw [List.mem_singleton] at hc; subst hc; exact hdk
    · simp at hc2
      simp only [ifW_false]
      exact hend (by omega)
  · simp at hc
    simp only [ifW_false]
    exact hend (by omega)


end
section
open Go.Lib (decDigits)

theorem S_l1In {n lo hi : Int} {κ : Bool → Prop} (h : κ (decide (lo ≤ n ∧ n ≤ hi))) : L_spec_l1In n lo hi κ := by
  unfold L_spec_l1In jnW
  refine ifW_of (fun hc => ?_) (fun hc => ?_)
  · simp at hc; simpa [hc] using h
  · simp at hc
    have : decide (lo ≤ n ∧ n ≤ hi) = false := by simp; omega
    rw [this] at h; exact h
theorem dec_le {n : Nat} (h : n ≤ 100000) : (decDigits n).length ≤ 6 := dec_len 5 n (Nat.lt_of_le_of_lt h (by decide))
theorem B_nil : ByteArray.mk #[] = B [] := rfl
/-! ### the reader of the program -/
theorem run_dec {n : Nat} {r : List UInt8} (h : n ≤ 100000) (hr : ∀ c l, r = c :: l → dg c = false) : run 6 (decDigits n ++ r) = decDigits n := run_app 6 _ _ (dec_dg n) (dec_le h) hr

end
section
open Go.Lib (decDigits)

theorem drop_app {l m : List UInt8} {n : Nat} (h : n = l.length) : (l ++ m).drop n = m := by subst h; simp
theorem not_dg_cons {d : UInt8} {r : List UInt8} (h : dg d = false) : ∀ c l, d :: r = c :: l → dg c = false := fun c l e => by cases e; exact h
/-! ### the laws -/

end
section
open Go.Lib (decDigits)

theorem RdP.step {b : List UInt8} {p p' : Int} {m : Int} (h : RdP b p) (h1 : p ≤ p') (h2 : p' ≤ 1000000) : RdP b p' := ⟨h.1, by have := h.2.1; omega, h2⟩


end
section
open Go.Lib (decDigits)

def top (f : Int) : Int := if f = 0 ∨ f = 1 then 65535 else if f = 2 then 255 else 7
theorem top_le (f : Int) : 7 ≤ top f ∧ top f ≤ 65535 := by unfold top; repeat' split
                                                           all_goals omega
def nm (f : Int) : List UInt8 := if f = 0 then [102, 114, 111, 109] else if f = 1 then [116, 111] else if f = 2 then [112, 111, 114, 116] else [112, 114, 111, 116, 111]
def TV (t : GTest) : Prop := 0 ≤ t.xField ∧ t.xField ≤ 3 ∧ 0 ≤ t.xLo ∧ t.xLo ≤ t.xHi ∧ t.xHi ≤ top t.xField
instance (t : GTest) : Decidable (TV t) := by unfold TV; infer_instance
/-- the part behind the name -/
def rtx (t : GTest) : List UInt8 := decDigits t.xLo.toNat ++ (if t.xHi = t.xLo then [] else 45 :: decDigits t.xHi.toNat)
def btx (t : GTest) : List UInt8 := nm t.xField ++ 32 :: rtx t
def ttx (t : GTest) : List UInt8 := if t.xNot then 110 :: 111 :: 116 :: 32 :: btx t else btx t
def ttext (t : GTest) : List UInt8 := if TV t then ttx t else []
theorem four {f : Int} (h0 : 0 ≤ f) (h1 : f ≤ 3) : f = 0 ∨ f = 1 ∨ f = 2 ∨ f = 3 := by omega
theorem S_shape {n : Int} {κ : GFieldShape → Prop} (h0 : 0 ≤ n) (h1 : n ≤ 3) (h : ∀ e : GFieldShape, e.xName = B (nm n) → e.xTop = top n → κ e) : idxW gl_impl_fieldShapes n κ := by
  rcases four h0 h1 with rfl | rfl | rfl | rfl
  · exact idxW_of 0 rfl (by decide) (h _ rfl rfl)
  · exact idxW_of 1 rfl (by decide) (h _ rfl rfl)
  · exact idxW_of 2 rfl (by decide) (h _ rfl rfl)
  · exact idxW_of 3 rfl (by decide) (h _ rfl rfl)
theorem S_name {n : Int} {κ : ByteArray → Prop} (h0 : 0 ≤ n) (h1 : n ≤ 3) (h : κ (B (nm n))) : idxW [(ByteArray.mk #[102, 114, 111, 109]), (ByteArray.mk #[116, 111]), (ByteArray.mk #[112, 111, 114, 116]), (ByteArray.mk #[112, 114, 111, 116, 111])] n κ := by
  rcases four h0 h1 with rfl | rfl | rfl | rfl
  · exact idxW_of 0 rfl (by decide) h
  · exact idxW_of 1 rfl (by decide) h
  · exact idxW_of 2 rfl (by decide) h
  · exact idxW_of 3 rfl (by decide) h
theorem S_spec_FieldTop {n : Int} {κ : Int → Prop} (h0 : 0 ≤ n) (h1 : n ≤ 3) (h : κ (top n)) : L_spec_FieldTop n κ := by
  unfold L_spec_FieldTop jnW
  rcases four h0 h1 with rfl | rfl | rfl | rfl <;> simpa [top] using h
theorem S_impl_FieldTop {n : Int} {κ : Int → Prop} (h : κ (if 0 ≤ n ∧ n ≤ 3 then top n else -1)) : L_impl_FieldTop n κ := by
  unfold L_impl_FieldTop jnW
  refine ifW_of (fun hc => ?_) (fun hc => ifW_of (fun hc2 => ?_) (fun hc2 => ?_))
  · simp at hc; rw [if_neg (by omega)] at h; simpa using h
  · simp at hc hc2; rw [if_neg (by omega)] at h; exact h
  · simp at hc hc2; rw [if_pos (by omega)] at h
    exact S_shape (by omega) (by omega) (fun e _ he => by rw [he]; exact h)
theorem S_spec_TestValid {t : GTest} {κ : Bool → Prop} (h : κ (decide (TV t))) : L_spec_TestValid t κ := by
  unfold L_spec_TestValid jnW
  refine S_l1In (ifW_of (fun hc => ?_) (fun hc => ?_))
  · simp at hc
    refine S_l1In (ifW_of (fun hc2 => ?_) (fun hc2 => ?_))
    · simp at hc2
      refine S_spec_FieldTop hc.1 hc.2 ?_
      rw [show decide (t.xHi ≤ top t.xField) = decide (TV t) from decide_eq_decide.2 ⟨fun hh => ⟨hc.1, hc.2, hc2.1, hc2.2, hh⟩, fun hh => hh.2.2.2.2⟩]
      exact h
    · simp at hc2
      rw [decide_eq_false (fun hh : TV t => by obtain ⟨a1, a2, a3, a4, _⟩ := hh; omega)] at h; exact h
  · simp at hc
    rw [decide_eq_false (fun hh : TV t => by obtain ⟨a1, a2, a3, a4, _⟩ := hh; omega)] at h; exact h
theorem S_impl_TestValid {t : GTest} {κ : Bool → Prop} (h : κ (decide (TV t))) : L_impl_TestValid t κ := by
  unfold L_impl_TestValid jnW
  have no : ¬ (0 ≤ t.xField ∧ t.xField < 4 ∧ 0 ≤ t.xLo ∧ t.xLo ≤ t.xHi) → κ false := fun hn => by
    rw [decide_eq_false (fun hh : TV t => by obtain ⟨a1, a2, a3, a4, _⟩ := hh; omega)] at h; exact h
  refine ifW_of (fun hc => ifW_of (fun hc2 => ifW_of (fun hc3 => ifW_of (fun hc4 => ?_) (fun hc4 => no (by simp at hc4; omega))) (fun hc3 => no (by simp at hc3; omega))) (fun hc2 => no (by simp at hc2; omega))) (fun hc => no (by simp at hc; omega))
  simp at hc hc2 hc3 hc4
  refine S_impl_FieldTop ?_
  rw [if_pos ⟨hc, by omega⟩]
  rw [show decide (t.xHi ≤ top t.xField) = decide (TV t) from decide_eq_decide.2 ⟨fun hh => ⟨hc, by omega, hc3, hc4, hh⟩, fun hh => hh.2.2.2.2⟩]
  exact h
theorem nm_len (f : Int) : 2 ≤ (nm f).length ∧ (nm f).length ≤ 5 := by unfold nm; repeat' split
                                                                       all_goals simp
theorem rtx_len {t : GTest} (h : TV t) : (rtx t).length ≤ 13 := by
  obtain ⟨a1, a2, a3, a4, a5⟩ := h
  have := top_le t.xField
  have d1 := dec_le (n := t.xLo.toNat) (by omega)
  have d2 := dec_le (n := t.xHi.toNat) (by omega)
  unfold rtx; split <;> simp <;> omega
theorem btx_len {t : GTest} (h : TV t) : (btx t).length ≤ 19 := by
  have h1 := rtx_len h
  have h2 := nm_len t.xField
  unfold btx; simp; omega
theorem ttx_len {t : GTest} (h : TV t) : (ttx t).length ≤ 23 := by
  have h1 := btx_len h
  unfold ttx; split <;> simp <;> omega
theorem ttx_not {t : GTest} : ttx t = (if t.xNot then [110, 111, 116, 32] else []) ++ btx t := by unfold ttx; split <;> rfl
theorem S_impl_Test_text {t : GTest} {κ : ByteArray → Prop} (hv : TV t) (h : κ (B (ttx t))) : L_impl_Test_text t κ := by
  obtain ⟨a1, a2, a3, a4, a5⟩ := id hv
  have ht := top_le t.xField
  have hn := nm_len t.xField
  have d1 := dec_le (n := t.xLo.toNat) (by omega)
  have d2 := dec_le (n := t.xHi.toNat) (by omega)
  unfold L_impl_Test_text jnW
  refine S_shape a1 a2 (fun e he _ => ?_)
  rw [he]
  refine catW_B (m := [32]) (by simp; omega) (S_itoa a3 (by omega) (catW_B (by simp; omega) ?_))
  have key : ∀ p : List UInt8, p.length ≤ 4 → ttx t = p ++ btx t → ifW (!(decide (t.xHi = t.xLo))) (L_lib_Itoa t.xHi (fun r71 => catW (ByteArray.mk #[45]) r71 (fun s72 => catW (B (p ++ (nm t.xField ++ [32] ++ decDigits t.xLo.toNat))) s72 (fun s73 => κ s73)))) (κ (B (p ++ (nm t.xField ++ [32] ++ decDigits t.xLo.toNat)))) := by
    intro p hp e
    refine ifW_of (fun hc => ?_) (fun hc => ?_)
    · simp at hc
      refine S_itoa (by omega) (by omega) (catW_B (l := [45]) (by simp; omega) (catW_B (by simp; omega) ?_))
      rw [e] at h
      simpa [btx, rtx, if_neg hc, List.append_assoc] using h
    · simp at hc
      rw [e] at h
      simpa [btx, rtx, if_pos hc, List.append_assoc] using h
  refine ifW_of (fun hc => ?_) (fun hc => ?_)
  · exact catW_B (l := [110, 111, 116, 32]) (by simp; omega) (key [110, 111, 116, 32] (by simp) (by rw [ttx_not, if_pos hc]))
  · exact key [] (by simp) (by rw [ttx_not, if_neg (by simp [hc])])
theorem S_spec_TestText {t : GTest} {κ : ByteArray → Prop} (h : κ (B (ttext t))) : L_spec_TestText t κ := by
  unfold L_spec_TestText jnW
  refine S_spec_TestValid (ifW_of (fun hc => ?_) (fun hc => ?_))
  · simp at hc; rw [ttext, if_neg hc] at h; exact h
  · simp at hc; rw [ttext, if_pos hc] at h
    obtain ⟨a1, a2, a3, a4, a5⟩ := id hc
    have ht := top_le t.xField
    have hn := nm_len t.xField
    have d1 := dec_le (n := t.xLo.toNat) (by omega)
    have d2 := dec_le (n := t.xHi.toNat) (by omega)
    have key : ∀ p : List UInt8, p.length ≤ 4 → ttx t = p ++ btx t → ifW (!(decide (t.xHi = t.xLo))) (catW (B (p ++ (nm t.xField ++ [32] ++ decDigits t.xLo.toNat))) (ByteArray.mk #[45]) (fun s83 => L_spec_l3Number t.xHi (fun r84 => catW s83 r84 (fun s85 => κ s85)))) (κ (B (p ++ (nm t.xField ++ [32] ++ decDigits t.xLo.toNat)))) := by
      intro p hp e
      refine ifW_of (fun hc => ?_) (fun hc => ?_)
      · simp at hc
        refine catW_B (m := [45]) (by simp; omega) (S_l3Number (by omega) (by omega) (catW_B (by simp; omega) ?_))
        rw [e] at h
        simpa [btx, rtx, if_neg hc, List.append_assoc] using h
      · simp at hc
        rw [e] at h
        simpa [btx, rtx, if_pos hc, List.append_assoc] using h
    have fin : ifW t.xNot (catW (ByteArray.mk #[110, 111, 116, 32]) (B (nm t.xField ++ [32] ++ decDigits t.xLo.toNat)) (fun s20 => ifW (!(decide (t.xHi = t.xLo))) (catW s20 (ByteArray.mk #[45]) (fun s83 => L_spec_l3Number t.xHi (fun r84 => catW s83 r84 (fun s85 => κ s85)))) (κ s20))) (ifW (!(decide (t.xHi = t.xLo))) (catW (B (nm t.xField ++ [32] ++ decDigits t.xLo.toNat)) (ByteArray.mk #[45]) (fun s83 => L_spec_l3Number t.xHi (fun r84 => catW s83 r84 (fun s85 => κ s85)))) (κ (B (nm t.xField ++ [32] ++ decDigits t.xLo.toNat)))) := by
      refine ifW_of (fun hc => ?_) (fun hc => ?_)
      · exact catW_B (l := [110, 111, 116, 32]) (by simp; omega) (key [110, 111, 116, 32] (by simp) (by rw [ttx_not, if_pos hc]))
      · exact key [] (by simp) (by rw [ttx_not, if_neg (by simp [hc])])
    have z : L_spec_l3Number t.xLo (fun r15 => idxW [(ByteArray.mk #[102, 114, 111, 109]), (ByteArray.mk #[116, 111]), (ByteArray.mk #[112, 111, 114, 116]), (ByteArray.mk #[112, 114, 111, 116, 111])] t.xField (fun e16 => catW e16 (ByteArray.mk #[32]) (fun s13 => catW s13 r15 (fun t4 => ifW t.xNot (catW (ByteArray.mk #[110, 111, 116, 32]) t4 (fun s20 => ifW (!(decide (t.xHi = t.xLo))) (catW s20 (ByteArray.mk #[45]) (fun s83 => L_spec_l3Number t.xHi (fun r84 => catW s83 r84 (fun s85 => κ s85)))) (κ s20))) (ifW (!(decide (t.xHi = t.xLo))) (catW t4 (ByteArray.mk #[45]) (fun s83 => L_spec_l3Number t.xHi (fun r84 => catW s83 r84 (fun s85 => κ s85)))) (κ t4)))))) :=
      S_l3Number a3 (by omega) (S_name a1 a2 (catW_B (m := [32]) (by simp; omega) (catW_B (by simp; omega) fin)))
    exact ⟨⟨S_name a1 a2 ⟨catW_B (m := [32]) (by simp; omega) (S_l3Number a3 (by omega) (catW_B (by simp; omega) fin)), S_l3Number a3 (by omega) (catW_B (m := [32]) (by simp; omega) (catW_B (by simp; omega) fin))⟩, z⟩, z⟩

end
section
open Go.Lib (decDigits)

/-- what the scanner of a test hands on -/
def Fine (t : GTest) : Prop := 0 ≤ t.xField ∧ t.xField ≤ 3 ∧ 0 ≤ t.xLo ∧ t.xLo ≤ 999999 ∧ 0 ≤ t.xHi ∧ t.xHi ≤ 999999
theorem nm_inj {a b : Int} (ha : 0 ≤ a ∧ a ≤ 3) (hb : 0 ≤ b ∧ b ≤ 3) (h : nm a = nm b) : a = b := by
  rcases four ha.1 ha.2 with rfl | rfl | rfl | rfl <;> rcases four hb.1 hb.2 with rfl | rfl | rfl | rfl <;> first | rfl | (exact absurd h (by decide))
theorem nm_ne {a b : Int} {r s : List UInt8} (ha : 0 ≤ a ∧ a ≤ 3) (hb : 0 ≤ b ∧ b ≤ 3) (h : nm a ++ 32 :: r = (nm b ++ [32]) ++ s) : a = b := by
  rcases four ha.1 ha.2 with rfl | rfl | rfl | rfl <;> rcases four hb.1 hb.2 with rfl | rfl | rfl | rfl <;> first | rfl | (simp [nm] at h)
theorem S_field {l : List UInt8} {a : Int} {κ : Int × Bool × Int → Prop} (n : Nat) (ea : a = n) (hn : n ≤ l.length) (hl : l.length ≤ 100000000000)
    (hok : ∀ f : Int, 0 ≤ f → f ≤ 3 → ∀ r, l.drop n = nm f ++ 32 :: r → κ (f, true, ((n + (nm f).length + 1 : Nat) : Int))) (hno : (¬ ∃ f : Int, 0 ≤ f ∧ f ≤ 3 ∧ ∃ r, l.drop n = nm f ++ 32 :: r) → κ (0, false, (n : Int))) : L_impl_scanner_field (B l) a κ := by
  subst ea
  unfold L_impl_scanner_field
  refine count_loop 4 (fun s => s.2) (fun k s => s = ((n : Int), (k : Int)) ∧ k ≤ 4 ∧ ∀ i : Nat, i < k → ∀ r, l.drop n ≠ (nm (i : Int) ++ [32]) ++ r) (fun k s h => by rw [h.1]) (fun k s h => h.2.1) ?_ ⟨rfl, Nat.zero_le _, fun i hi => by omega⟩
  rintro k _ next ⟨rfl, hk, he⟩ hnx
  refine ifW_of (fun hc => ?_) (fun hc => ?_)
  · have hlt : k < 4 := by simp at hc; omega
    refine S_shape (by omega) (by omega) (fun e en _ => ?_)
    have hnl := nm_len (k : Int)
    rw [en]
    refine catW_B (m := [32]) (by simp; omega) ?_
    refine S_word n rfl hn (by omega) (by simp; omega) (fun r e => ?_) (fun hne => ?_)
    · simp only [ifW_true]
      have := hok (k : Int) (by omega) (by omega) r (by simpa using e)
      simpa [Nat.add_assoc] using this
    · simp only [ifW_false]
      refine addW_of (by omega) (by omega) (hnx hlt _ ⟨by simp, by omega, fun i hi r e => ?_⟩)
      by_cases hik : i = k
      · subst hik; exact hne r e
      · exact he i (by omega) r e
  · have hge : k = 4 := by simp at hc; omega
    subst hge
    refine hno (fun ⟨f, f0, f1, r, e⟩ => ?_)
    obtain ⟨i, rfl⟩ := Int.eq_ofNat_of_zero_le f0
    exact he i (by omega) r (by simpa using e)

theorem T_scanner_test {l : List UInt8} {a : Int} {κ : GTest × Bool × Int → Prop} (n : Nat) (ea : a = n) (hn : n ≤ l.length) (hl : l.length ≤ 100000000000)
    (h : ∀ t m, Fine t → n < m → m ≤ l.length → κ (t, true, (m : Int))) (hz : ∀ m : Nat, n ≤ m → m ≤ l.length → κ (GTest.mk 0 0 0 false, false, (m : Int))) : L_impl_scanner_test (B l) a κ := by
  have six : ∀ n, val (run 6 (l.drop n)) ≤ 999999 := fun n => val_6 (run_dg 6 _) (run_len 6 _).1
  have rl : ∀ n, n ≤ l.length → n + (run 6 (l.drop n)).length ≤ l.length := fun n hn => by have := (run_len 6 (l.drop n)).2; simp at this; omega
  have wl : ∀ (n : Nat) (w r : List UInt8), n ≤ l.length → l.drop n = w ++ r → n + w.length ≤ l.length := fun n w r hn e => by have := congrArg List.length e; simp at this; omega
  have rest : ∀ (b : Bool) (m0 : Nat), n ≤ m0 → m0 ≤ l.length → L_impl_scanner_field (B l) (m0 : Int) (fun (r9, r10, r11) => ifW (!r10) (κ ((GTest.mk 0 0 0 false), false, r11)) (L_impl_scanner_number (B l) r11 (fun (r12, r13, r14) => ifW (!r13) (κ ((GTest.mk 0 0 0 false), false, r14)) (L_impl_scanner_word (B l) r14 (ByteArray.mk #[45]) (fun (r15, r16) => ifW r15 (L_impl_scanner_number (B l) r16 (fun (r17, r18, r19) => ifW (!r18) (κ ((GTest.mk 0 0 0 false), false, r19)) (κ ((GTest.mk r9 r12 r17 b), true, r19)))) (κ ((GTest.mk r9 r12 r12 b), true, r16))))))) := by
    intro b m0 h0 h1
    refine S_field m0 rfl h1 hl (fun f f0 f1 r e => ?_) (fun _ => ?_)
    · have hm := wl m0 (nm f ++ [32]) r h1 (by simpa using e)
      simp only [List.length_append, List.length_singleton] at hm
      simp only [Bool.not_true, ifW_false]
      refine S_number (m0 + (nm f).length + 1) rfl (by omega) (by omega) ?_
      have hv := six (m0 + (nm f).length + 1)
      have hr := rl (m0 + (nm f).length + 1) (by omega)
      generalize run 6 (l.drop (m0 + (nm f).length + 1)) = R at *
      refine ifW_of (fun _ => hz _ (by omega) hr) (fun _ => ?_)
      refine S_word (w := [45]) (m0 + (nm f).length + 1 + R.length) rfl hr (by omega) (by simp) (fun r2 e2 => ?_) (fun _ => ?_)
      · have hm2 := wl _ _ _ hr e2
        simp only [ifW_true]
        refine S_number _ rfl hm2 (by omega) ?_
        have hv2 := six (m0 + (nm f).length + 1 + R.length + ([45] : List UInt8).length)
        have hr2 := rl _ hm2
        generalize run 6 (l.drop (m0 + (nm f).length + 1 + R.length + ([45] : List UInt8).length)) = R2 at *
        refine ifW_of (fun _ => hz _ (by omega) hr2) (fun _ => h _ _ ⟨f0, f1, by simp, by simp; omega, by simp, by simp; omega⟩ (by omega) hr2)
      · simp only [ifW_false]
        exact h _ _ ⟨f0, f1, by simp, by simp; omega, by simp, by simp; omega⟩ (by omega) hr
    · simp only [Bool.not_false, ifW_true]
      exact hz _ h0 h1
  subst ea
  unfold L_impl_scanner_test jnW
  refine S_word (w := [110, 111, 116, 32]) n rfl hn (by omega) (by simp) (fun r e => ?_) (fun _ => ?_)
  · exact rest true _ (by omega) (wl _ _ _ hn e)
  · exact rest false _ (by omega) hn

/-- behind a test stands the end, or a comma -/
def Ends (r : List UInt8) : Prop := ∀ c m, r = c :: m → c = 44
theorem Ends.dg {r : List UInt8} (h : Ends r) : ∀ c m, r = c :: m → dg c = false := fun c m e => by rw [h c m e]; decide
theorem C_scanner_test {l p r : List UInt8} {t : GTest} {a : Int} {κ : GTest × Bool × Int → Prop} (ht : TV t) (hr : Ends r) (el : l = p ++ (ttx t ++ r)) (ea : a = (p.length : Nat)) (hl : l.length ≤ 100000000000)
    (h : κ (t, true, ((p.length + (ttx t).length : Nat) : Int))) : L_impl_scanner_test (B l) a κ := by
  obtain ⟨a1, a2, a3, a4, a5⟩ := id ht
  have htop := top_le t.xField
  have hnl := nm_len t.xField
  have rest : ∀ (q : List UInt8), l = q ++ (btx t ++ r) → κ (t, true, ((q.length + (btx t).length : Nat) : Int)) → L_impl_scanner_field (B l) (q.length : Int) (fun (r9, r10, r11) => ifW (!r10) (κ ((GTest.mk 0 0 0 false), false, r11)) (L_impl_scanner_number (B l) r11 (fun (r12, r13, r14) => ifW (!r13) (κ ((GTest.mk 0 0 0 false), false, r14)) (L_impl_scanner_word (B l) r14 (ByteArray.mk #[45]) (fun (r15, r16) => ifW r15 (L_impl_scanner_number (B l) r16 (fun (r17, r18, r19) => ifW (!r18) (κ ((GTest.mk 0 0 0 false), false, r19)) (κ ((GTest.mk r9 r12 r17 t.xNot), true, r19)))) (κ ((GTest.mk r9 r12 r12 t.xNot), true, r16))))))) := by
    intro q eq hq
    have hlen : l.length = q.length + ((btx t).length + r.length) := by rw [eq]; simp
    have hbl : (btx t).length = (nm t.xField).length + 1 + (rtx t).length := by simp [btx]; omega
    have d0 : l.drop q.length = nm t.xField ++ 32 :: (rtx t ++ r) := by rw [eq, drop_app rfl]; simp [btx]
    have d1 : l.drop (q.length + (nm t.xField).length + 1) = rtx t ++ r := by
      rw [Nat.add_assoc, ← List.drop_drop, d0, ← List.drop_drop, drop_app rfl]; rfl
    refine S_field q.length rfl (by omega) hl (fun f f0 f1 s e => ?_) (fun hno => absurd ⟨_, a1, a2, _, d0⟩ hno)
    have ef : t.xField = f := nm_ne (s := s) ⟨a1, a2⟩ ⟨f0, f1⟩ (by rw [← d0, e]; simp)
    subst ef
    simp only [Bool.not_true, ifW_false]
    refine S_number (q.length + (nm t.xField).length + 1) rfl (by omega) (by omega) ?_
    rw [d1]
    have el : ((t.xLo.toNat : Nat) : Int) = t.xLo := by omega
    have eh : ((t.xHi.toNat : Nat) : Int) = t.xHi := by omega
    by_cases hlh : t.xHi = t.xLo
    · have e1 : rtx t = decDigits t.xLo.toNat := by simp [rtx, hlh]
      have hll : (rtx t).length = (decDigits t.xLo.toNat).length := by rw [e1]
      rw [e1, run_dec (by omega) hr.dg, decide_eq_true (dec_pos _), dec_val]
      simp only [Bool.not_true, ifW_false]
      have d2 : l.drop (q.length + (nm t.xField).length + 1 + (decDigits t.xLo.toNat).length) = r := by rw [← List.drop_drop, d1, e1, drop_app rfl]
      refine S_word (w := [45]) _ rfl (by omega) (by omega) (by simp) (fun s es => ?_) (fun _ => ?_)
      · rw [d2] at es
        exact absurd (hr 45 s (by simpa using es)) (by decide)
      · simp only [ifW_false]
        have et : GTest.mk t.xField t.xLo t.xLo t.xNot = t := by cases t; simp_all
        rw [el, et]
        have en : q.length + (nm t.xField).length + 1 + (decDigits t.xLo.toNat).length = q.length + (btx t).length := by omega
        rw [en]; exact hq
    · have e1 : rtx t = decDigits t.xLo.toNat ++ 45 :: decDigits t.xHi.toNat := by simp [rtx, hlh]
      have hll : (rtx t).length = (decDigits t.xLo.toNat).length + 1 + (decDigits t.xHi.toNat).length := by rw [e1]; simp; omega
      rw [e1, List.append_assoc, List.cons_append, run_dec (by omega) (not_dg_cons (by decide)), decide_eq_true (dec_pos _), dec_val]
      simp only [Bool.not_true, ifW_false]
      have d2 : l.drop (q.length + (nm t.xField).length + 1 + (decDigits t.xLo.toNat).length) = 45 :: (decDigits t.xHi.toNat ++ r) := by
        rw [← List.drop_drop, d1, e1, List.append_assoc, drop_app rfl]; rfl
      have d3 : l.drop (q.length + (nm t.xField).length + 1 + (decDigits t.xLo.toNat).length + ([45] : List UInt8).length) = decDigits t.xHi.toNat ++ r := by
        rw [← List.drop_drop, d2]; rfl
      refine S_word (w := [45]) _ rfl (by omega) (by omega) (by simp) (fun s es => ?_) (fun hno => absurd (by rw [d2]; rfl) (hno (decDigits t.xHi.toNat ++ r)))
      simp only [ifW_true]
      refine S_number _ rfl (by simp; omega) (by omega) ?_
      rw [d3, run_dec (by omega) hr.dg, decide_eq_true (dec_pos _), dec_val]
      simp only [Bool.not_true, ifW_false]
      have et : GTest.mk t.xField t.xLo t.xHi t.xNot = t := by cases t; rfl
      rw [el, eh, et]
      have en : q.length + (nm t.xField).length + 1 + (decDigits t.xLo.toNat).length + ([45] : List UInt8).length + (decDigits t.xHi.toNat).length = q.length + (btx t).length := by simp; omega
      rw [en]; exact hq
  subst ea
  have hlen : l.length = p.length + ((ttx t).length + r.length) := by rw [el]; simp
  unfold L_impl_scanner_test jnW
  by_cases hn : t.xNot = true
  · have e : ttx t = [110, 111, 116, 32] ++ btx t := by rw [ttx_not, if_pos hn]
    have e' : l = (p ++ [110, 111, 116, 32]) ++ (btx t ++ r) := by rw [el, e]; simp
    refine S_word (w := [110, 111, 116, 32]) p.length rfl (by omega) (by omega) (by simp) (fun s es => ?_) (fun hno => absurd (by rw [el, drop_app rfl, e, List.append_assoc]) (hno (btx t ++ r)))
    have e3 : (p ++ ([110, 111, 116, 32] : List UInt8)).length + (btx t).length = p.length + (ttx t).length := by rw [e]; simp; omega
    have := rest (p ++ [110, 111, 116, 32]) e' (by rw [e3]; exact h)
    rw [hn] at this
    simpa using this
  · have hf : t.xNot = false := by simpa using hn
    have e : ttx t = btx t := by rw [ttx_not, if_neg hn]; rfl
    refine S_word (w := [110, 111, 116, 32]) p.length rfl (by omega) (by omega) (by simp) (fun s es => ?_) (fun _ => ?_)
    · rw [el, drop_app rfl, e] at es
      exfalso
      rcases four a1 a2 with e0 | e0 | e0 | e0 <;> simp [btx, nm, e0] at es
    · have := rest p (by rw [el, e]) (by rw [e] at h; exact h)
      rw [hf] at this
      exact this


end
section
open Go.Lib (decDigits)

theorem S_find {x : List UInt8} {κ : Int → Prop} (h : ∀ v : Int, -1 ≤ v → v ≤ 3 → (∀ f : Int, 0 ≤ f → f ≤ 3 → x = nm f → v = f) → κ v) :
    loopW (fun (nx202 : (Int × Int) → Prop) ((t200, t201) : (Int × Int)) => ifW (decide (t201 < (([(ByteArray.mk #[102, 114, 111, 109]), (ByteArray.mk #[116, 111]), (ByteArray.mk #[112, 111, 114, 116]), (ByteArray.mk #[112, 114, 111, 116, 111])]).length : Int))) (jnW (fun (t265 : Int) => addW t201 1 (fun t267 => nx202 (t265, t267))) (fun k266 => idxW ([(ByteArray.mk #[102, 114, 111, 109]), (ByteArray.mk #[116, 111]), (ByteArray.mk #[112, 111, 114, 116]), (ByteArray.mk #[112, 114, 111, 116, 111])]) t201 (fun e203 => ifW (decide (B x = e203)) (k266 t201) (k266 t200)))) (κ t200)) ((-1), 0) := by
  refine count_loop 4 (fun s => s.2) (fun k s => s.2 = (k : Int) ∧ k ≤ 4 ∧ -1 ≤ s.1 ∧ s.1 ≤ 3 ∧ ∀ f : Nat, f < k → x = nm (f : Int) → s.1 = (f : Int)) (fun k s h => h.1) (fun k s h => h.2.1) ?_ ⟨rfl, Nat.zero_le _, by simp, by simp, fun i hi => by omega⟩
  rintro k ⟨v, _⟩ next ⟨rfl, hk, v1, v2, he⟩ hnx
  simp only at v1 v2 he
  refine ifW_of (fun hc => ?_) (fun hc => ?_)
  · have hlt : k < 4 := by simp at hc; omega
    unfold jnW
    refine S_name (by omega) (by omega) ?_
    rw [B_dec]
    refine ifW_of (fun hc2 => ?_) (fun hc2 => ?_)
    · refine addW_of (by omega) (by omega) (hnx hlt _ ⟨by simp, by omega, by simp only; omega, by simp only; omega, fun f hf e => ?_⟩)
      simp at hc2
      exact (nm_inj ⟨by omega, by omega⟩ ⟨by omega, by omega⟩ (hc2.symm.trans e))
    · refine addW_of (by omega) (by omega) (hnx hlt _ ⟨by simp, by omega, v1, v2, fun f hf e => ?_⟩)
      simp at hc2
      by_cases hfk : f = k
      · subst hfk; exact absurd e hc2
      · exact he f (by omega) e
  · have hge : k = 4 := by simp at hc; omega
    subst hge
    refine h v v1 v2 (fun f f0 f1 e => ?_)
    obtain ⟨i, rfl⟩ := Int.eq_ofNat_of_zero_le f0
    exact he i (by omega) e

theorem rest_of {l : List UInt8} {y : List UInt8} {b : Bool} {κ : GTest × Bool → Prop} (hy : y.length ≤ 100000000000) 
    (hK : ∀ f lo hi : Int, -1 ≤ f → f ≤ 3 → -1 ≤ lo → lo ≤ 999999 → -1 ≤ hi → hi ≤ 999999 →
      (∀ t : GTest, TV t → y = btx t → t.xNot = b → GTest.mk f lo hi b = t) →
      L_spec_TestText (GTest.mk f lo hi b) (fun r270 => ifW (!(decide (r270 = B l))) (κ ((GTest.mk 0 0 0 false), false)) (ifW (decide (B l = (ByteArray.mk #[]))) (κ ((GTest.mk 0 0 0 false), false)) (κ ((GTest.mk f lo hi b), true))))) :
    L_spec_l3Cut (B y) (32 : UInt8) (fun (r132, r133) => L_spec_l3Cut r133 (45 : UInt8) (fun (r134, r135) => jnW (fun (t196 : ByteArray) => loopW (fun (nx202 : (Int × Int) → Prop) ((t200, t201) : (Int × Int)) => ifW (decide (t201 < (([(ByteArray.mk #[102, 114, 111, 109]), (ByteArray.mk #[116, 111]), (ByteArray.mk #[112, 111, 114, 116]), (ByteArray.mk #[112, 114, 111, 116, 111])]).length : Int))) (jnW (fun (t265 : Int) => addW t201 1 (fun t267 => nx202 (t265, t267))) (fun k266 => idxW ([(ByteArray.mk #[102, 114, 111, 109]), (ByteArray.mk #[116, 111]), (ByteArray.mk #[112, 111, 114, 116]), (ByteArray.mk #[112, 114, 111, 116, 111])]) t201 (fun e203 => ifW (decide (r132 = e203)) (k266 t201) (k266 t200)))) (L_spec_l3Value r134 (fun r268 => L_spec_l3Value t196 (fun r269 => jnW (fun (t331 : Bool) => ifW t331 (κ ((GTest.mk 0 0 0 false), false)) (κ ((GTest.mk t200 r268 r269 b), true))) (fun k332 => L_spec_TestText (GTest.mk t200 r268 r269 b) (fun r270 => ifW (!(decide (r270 = B l))) (k332 true) (k332 (decide (B l = (ByteArray.mk #[])))))))))) ((-1), 0)) (fun k197 => ifW (decide (r135 = (ByteArray.mk #[]))) (k197 r134) (k197 r135)))) := by
  refine S_cut (by omega) ?_
  have l1 := cut_len (c := 32) y
  refine S_cut (by omega) ?_
  have l2 := cut_len (c := 45) (cut 32 y).2
  have key : ∀ hi : List UInt8, hi.length ≤ 100000000000 → (∀ t : GTest, TV t → y = btx t → hi = decDigits t.xHi.toNat) →
      loopW (fun (nx202 : (Int × Int) → Prop) ((t200, t201) : (Int × Int)) => ifW (decide (t201 < (([(ByteArray.mk #[102, 114, 111, 109]), (ByteArray.mk #[116, 111]), (ByteArray.mk #[112, 111, 114, 116]), (ByteArray.mk #[112, 114, 111, 116, 111])]).length : Int))) (jnW (fun (t265 : Int) => addW t201 1 (fun t267 => nx202 (t265, t267))) (fun k266 => idxW ([(ByteArray.mk #[102, 114, 111, 109]), (ByteArray.mk #[116, 111]), (ByteArray.mk #[112, 111, 114, 116]), (ByteArray.mk #[112, 114, 111, 116, 111])]) t201 (fun e203 => ifW (decide (B (cut 32 y).1 = e203)) (k266 t201) (k266 t200)))) (L_spec_l3Value (B (cut 45 (cut 32 y).2).1) (fun r268 => L_spec_l3Value (B hi) (fun r269 => jnW (fun (t331 : Bool) => ifW t331 (κ ((GTest.mk 0 0 0 false), false)) (κ ((GTest.mk t200 r268 r269 b), true))) (fun k332 => L_spec_TestText (GTest.mk t200 r268 r269 b) (fun r270 => ifW (!(decide (r270 = B l))) (k332 true) (k332 (decide (B l = (ByteArray.mk #[])))))))))) ((-1), 0) := by
    intro hi hhi hhc
    refine S_find (κ := fun t200 => L_spec_l3Value (B (cut 45 (cut 32 y).2).1) (fun r268 => L_spec_l3Value (B hi) (fun r269 => jnW (fun (t331 : Bool) => ifW t331 (κ ((GTest.mk 0 0 0 false), false)) (κ ((GTest.mk t200 r268 r269 b), true))) (fun k332 => L_spec_TestText (GTest.mk t200 r268 r269 b) (fun r270 => ifW (!(decide (r270 = B l))) (k332 true) (k332 (decide (B l = (ByteArray.mk #[]))))))))) (fun f f1 f2 f3 => ?_)
    refine S_value (by omega) (fun v v1 v2 v3 => S_value (by omega) (fun u u1 u2 u3 => ?_))
    unfold jnW
    simp only [ifW_true]
    refine hK f v u f1 f2 v1 v2 u1 u2 (fun t ht e en => ?_)
    obtain ⟨a1, a2, a3, a4, a5⟩ := id ht
    have htop := top_le t.xField
    have n32 : (32 : UInt8) ∉ nm t.xField := by rcases four a1 a2 with e0 | e0 | e0 | e0 <;> rw [e0] <;> decide
    have c1 : cut 32 y = (nm t.xField, rtx t) := by rw [e]; exact cut_app n32
    have ef : f = t.xField := f3 _ a1 a2 (by rw [c1])
    have c2 : (cut 45 (cut 32 y).2).1 = decDigits t.xLo.toNat := by
      rw [c1]
      simp only [rtx]
      by_cases hh : t.xHi = t.xLo
      · rw [if_pos hh, List.append_nil, cut_no (dec_no (by decide))]
      · rw [if_neg hh, cut_app (dec_no (by decide))]
    have ev := v3 _ c2 (by omega)
    have eu := u3 _ (hhc t ht e) (by omega)
    have evv : v = t.xLo := by omega
    have euu : u = t.xHi := by omega
    rw [ef, evv, euu, ← en]
  refine ifW_of (fun hc => ?_) (fun hc => ?_)
  · refine key _ (by omega) (fun t ht e => ?_)
    have n32 : (32 : UInt8) ∉ nm t.xField := by rcases four ht.1 ht.2.1 with e0 | e0 | e0 | e0 <;> rw [e0] <;> decide
    have c1 : cut 32 y = (nm t.xField, rtx t) := by rw [e]; exact cut_app n32
    rw [B_nil, B_dec] at hc
    replace hc := of_decide_eq_true hc
    rw [c1] at hc ⊢
    simp only [rtx] at hc ⊢
    by_cases hh : t.xHi = t.xLo
    · rw [if_pos hh, List.append_nil, cut_no (dec_no (by decide)), hh]
    · rw [if_neg hh, cut_app (dec_no (by decide))] at hc
      simp [dec_pos] at hc
  · refine key _ (by omega) (fun t ht e => ?_)
    have n32 : (32 : UInt8) ∉ nm t.xField := by rcases four ht.1 ht.2.1 with e0 | e0 | e0 | e0 <;> rw [e0] <;> decide
    have c1 : cut 32 y = (nm t.xField, rtx t) := by rw [e]; exact cut_app n32
    rw [B_nil, B_dec] at hc
    replace hc := of_decide_eq_false hc
    rw [c1] at hc ⊢
    simp only [rtx] at hc ⊢
    by_cases hh : t.xHi = t.xLo
    · rw [if_pos hh, List.append_nil, cut_no (dec_no (by decide))] at hc
      simp at hc
    · rw [if_neg hh, cut_app (dec_no (by decide))]

/-- the reference's reader, whole: K is what the test that it found is -/
theorem S_spec_ReadTest0 {l : List UInt8} {κ : GTest × Bool → Prop} (hl : l.length ≤ 10000000000)
    (hK : ∀ t : GTest, (∀ t' : GTest, TV t' → ttx t' = l → t = t') → L_spec_TestText t (fun r270 => ifW (!(decide (r270 = B l))) (κ ((GTest.mk 0 0 0 false), false)) (ifW (decide (B l = (ByteArray.mk #[]))) (κ ((GTest.mk 0 0 0 false), false)) (κ (t, true))))) : L_spec_ReadTest (B l) κ := by
  have nots : ∀ t : GTest, TV t → t.xNot = false → ∀ y, btx t ≠ 110 :: 111 :: 116 :: 32 :: y := by
    intro t ht hn y e
    rcases four ht.1 ht.2.1 with e0 | e0 | e0 | e0 <;> simp [btx, nm, e0] at e
  have plain : (∀ y, l ≠ 110 :: 111 :: 116 :: 32 :: y) ∨ l.length ≤ 4 → ∀ t : GTest, TV t → ttx t = l → t.xNot = false ∧ l = btx t := by
    intro hp t ht e
    have hnl := nm_len t.xField
    by_cases hn : t.xNot = true
    · rw [ttx_not, if_pos hn] at e
      rcases hp with hp | hp
      · exact absurd e.symm (hp _)
      · have := congrArg List.length e
        simp [btx] at this; omega
    · have hf : t.xNot = false := by simpa using hn
      rw [ttx_not, if_neg hn] at e
      exact ⟨hf, e.symm⟩
  unfold L_spec_ReadTest
  have A : ((∀ y, l ≠ 110 :: 111 :: 116 :: 32 :: y) ∨ l.length ≤ 4) → _ := fun hp => rest_of (l := l) (y := l) (b := false) (κ := κ) (by omega) (fun f lo hi _ _ _ _ _ _ hh => hK _ (fun t ht e => hh t ht (plain hp t ht e).2 (plain hp t ht e).1))
  have A2 : ∀ y, l = 110 :: 111 :: 116 :: 32 :: y → _ := fun y hy => rest_of (l := l) (y := y) (b := true) (κ := κ) (by rw [hy] at hl; simp at hl; omega) (fun f lo hi _ _ _ _ _ _ hh => hK _ (fun t ht e => by
    by_cases hn : t.xNot = true
    · rw [ttx_not, if_pos hn, hy] at e
      exact hh t ht (by simpa using e.symm) hn
    · have hf : t.xNot = false := by simpa using hn
      rw [ttx_not, if_neg hn, hy] at e
      exact absurd (by simpa using e) (nots t ht hf y)))
  rw [B_size]
  refine ifW_of (fun hc => ?_) (fun hc => ?_)
  · simp at hc
    refine sliceS_B 0 4 rfl rfl (by omega) (by omega) ?_
    rw [show (ByteArray.mk #[110, 111, 116, 32]) = B [110, 111, 116, 32] from rfl, B_dec]
    refine ifW_of (fun hc2 => ?_) (fun hc2 => ?_)
    · simp at hc2
      have hy : l = 110 :: 111 :: 116 :: 32 :: l.drop 4 := by
        have := (List.take_append_drop 4 l).symm
        rw [hc2] at this; simpa using this
      refine sliceS_B 4 l.length rfl rfl (by omega) (by omega) ?_
      rw [List.take_length]
      exact A2 _ hy
    · simp at hc2
      exact A (.inl fun y e => hc2 (by rw [e]; rfl))
  · simp at hc
    exact ifW_f (A (.inr (by omega)))
theorem T_spec_ReadTest {l : List UInt8} {κ : GTest × Bool → Prop} (hl : l.length ≤ 10000000000) (hz : κ (GTest.mk 0 0 0 false, false)) (h : ∀ t, TV t → ttx t = l → κ (t, true)) : L_spec_ReadTest (B l) κ := by
  refine S_spec_ReadTest0 hl (fun t _ => S_spec_TestText (ifW_of (fun _ => hz) (fun hc => ifW_of (fun _ => hz) (fun hc2 => ?_))))
  rw [B_nil] at hc2
  simp [B_inj] at hc hc2
  by_cases hv : TV t
  · rw [ttext, if_pos hv] at hc; exact h _ hv hc
  · rw [ttext, if_neg hv] at hc; exact absurd hc.symm hc2
theorem ttx_ne (t : GTest) : ttx t ≠ [] := by
  unfold ttx btx; split <;> simp
theorem C_spec_ReadTest {t : GTest} {κ : GTest × Bool → Prop} (ht : TV t) (h : κ (t, true)) : L_spec_ReadTest (B (ttx t)) κ := by
  have hl := ttx_len ht
  refine S_spec_ReadTest0 (by omega) (fun t' ht' => ?_)
  rw [ht' t ht rfl]
  refine S_spec_TestText ?_
  rw [ttext, if_pos ht, B_nil]
  simp [B_inj, ttx_ne]
  exact h
/-! ### the laws -/
end
section
open Go.Lib (decDigits)

/-- the word of an action -/
def aw (a : Int) : List UInt8 := if a = 1 then [97, 99, 99, 101, 112, 116] else if a = 2 then [100, 114, 111, 112] else if a = 3 then [99, 97, 108, 108] else if a = 4 then [114, 101, 116, 117, 114, 110] else [110, 111, 110, 101]
def TsV (ts : List GTest) : Prop := (∀ t, t ∈ ts → TV t) ∧ ts.length ≤ 6
instance (ts : List GTest) : Decidable (TsV ts) := by unfold TsV; infer_instance
def HV (a c : Int) : Prop := 1 ≤ a ∧ a ≤ 5 ∧ (a = 3 → 0 ≤ c ∧ c ≤ 4) ∧ (a ≠ 3 → c = 0)
instance (a c : Int) : Decidable (HV a c) := by unfold HV; infer_instance
def RV (r : GRule) : Prop := TsV r.xTests ∧ HV r.xAction r.xChain
instance (r : GRule) : Decidable (RV r) := by unfold RV; infer_instance
def hd (a c : Int) : List UInt8 := aw a ++ (if a = 3 then 32 :: decDigits c.toNat else [])
def tl (ts : List GTest) : List UInt8 := ts.flatMap (fun t => 44 :: 32 :: ttx t)
def rtx0 (r : GRule) : List UInt8 := hd r.xAction r.xChain ++ tl r.xTests
def rtext (r : GRule) : List UInt8 := if RV r then rtx0 r else []
theorem five {a : Int} (h0 : 1 ≤ a) (h1 : a ≤ 5) : a = 1 ∨ a = 2 ∨ a = 3 ∨ a = 4 ∨ a = 5 := by omega
theorem tl_nil : tl [] = [] := rfl
theorem tl_cons (t : GTest) (ts : List GTest) : tl (t :: ts) = 44 :: 32 :: (ttx t ++ tl ts) := by simp [tl]
theorem tl_app (a b : List GTest) : tl (a ++ b) = tl a ++ tl b := by simp [tl]
theorem tl_len : ∀ (ts : List GTest), (∀ t, t ∈ ts → TV t) → (tl ts).length ≤ 25 * ts.length
  | [], _ => by simp [tl]
  | t :: ts, h => by
    have h1 := tl_len ts (fun x hx => h x (by simp [hx]))
    have h2 := ttx_len (h t (by simp))
    rw [tl_cons]; simp; omega
theorem aw_len (a : Int) : 4 ≤ (aw a).length ∧ (aw a).length ≤ 6 := by unfold aw; repeat' split
                                                                       all_goals simp
theorem hd_len {a c : Int} (h : HV a c) : (hd a c).length ≤ 13 := by
  have := aw_len a
  unfold hd; split
  · rename_i e
    have hc := h.2.2.1 e
    have := dec_le (n := c.toNat) (by omega)
    simp; omega
  · simp; omega
theorem rtx0_len {r : GRule} (h : RV r) : (rtx0 r).length ≤ 163 := by
  have h1 := hd_len h.2
  have h2 := tl_len _ h.1.1
  have := h.1.2
  simp [rtx0]; omega
theorem S_spec_TestsValid {ts : List GTest} {κ : Bool → Prop} (hl : ts.length ≤ 4294967296) (h : κ (decide (TsV ts))) : L_spec_TestsValid ts κ := by
  unfold L_spec_TestsValid
  refine count_loop ts.length (fun s => s) (fun k s => s = (k : Int) ∧ k ≤ ts.length ∧ ∀ t, t ∈ ts.take k → TV t) (fun k s h => h.1) (fun k s h => h.2.1) ?_ ⟨rfl, Nat.zero_le _, by simp⟩
  rintro k _ next ⟨rfl, hk, he⟩ hn
  refine ifW_of (fun hc => ?_) (fun hc => ?_)
  · have hlt : k < ts.length := by simpa using hc
    refine idxW_of k rfl hlt (S_spec_TestValid (ifW_of (fun hc2 => ?_) (fun hc2 => ?_)))
    · simp at hc2
      rw [decide_eq_false (fun hh : TsV ts => hc2 (hh.1 _ (List.getElem_mem hlt)))] at h; exact h
    · simp at hc2
      refine addW_of (by omega) (by omega) (hn hlt _ ⟨by omega, by omega, fun t ht => ?_⟩)
      rw [List.take_succ_eq_append_getElem hlt] at ht
      rcases List.mem_append.1 ht with ht | ht
      · exact he t ht
      · rw [List.mem_singleton] at ht; subst ht; exact hc2
  · have hge : ts.length ≤ k := by simpa using hc
    rw [List.take_of_length_le hge] at he
    rw [show decide ((ts.length : Int) ≤ 6) = decide (TsV ts) from decide_eq_decide.2 ⟨fun hh => ⟨he, by omega⟩, fun hh => by have := hh.2; omega⟩]
    exact h
theorem S_impl_TestsValid {ts : List GTest} {κ : Bool → Prop} (hl : ts.length ≤ 4294967296) (h : κ (decide (TsV ts))) : L_impl_TestsValid ts κ := by
  unfold L_impl_TestsValid
  refine ifW_of (fun hc => ?_) (fun hc => ?_)
  · rw [decide_eq_false (fun hh : TsV ts => by have := hh.2; simp at hc; omega)] at h; exact h
  simp at hc
  refine count_loop ts.length (fun s => s) (fun k s => s = (k : Int) ∧ k ≤ ts.length ∧ ∀ t, t ∈ ts.take k → TV t) (fun k s h => h.1) (fun k s h => h.2.1) ?_ ⟨rfl, Nat.zero_le _, by simp⟩
  rintro k _ next ⟨rfl, hk, he⟩ hn
  refine ifW_of (fun hc => ?_) (fun hc => ?_)
  · have hlt : k < ts.length := by simpa using hc
    refine idxW_of k rfl hlt (S_impl_TestValid (ifW_of (fun hc2 => ?_) (fun hc2 => ?_)))
    · simp at hc2
      rw [decide_eq_false (fun hh : TsV ts => hc2 (hh.1 _ (List.getElem_mem hlt)))] at h; exact h
    · simp at hc2
      refine addW_of (by omega) (by omega) (hn hlt _ ⟨by omega, by omega, fun t ht => ?_⟩)
      rw [List.take_succ_eq_append_getElem hlt] at ht
      rcases List.mem_append.1 ht with ht | ht
      · exact he t ht
      · rw [List.mem_singleton] at ht; subst ht; exact hc2
  · have hge : ts.length ≤ k := by simpa using hc
    rw [List.take_of_length_le hge] at he
    rw [show decide (TsV ts) = true from decide_eq_true ⟨he, by omega⟩] at h; exact h

theorem S_spec_RuleValid {r : GRule} {κ : Bool → Prop} (hl : r.xTests.length ≤ 4294967296) (h : κ (decide (RV r))) : L_spec_RuleValid r κ := by
  have no : ¬ RV r → κ false := fun hn => by rw [decide_eq_false hn] at h; exact h
  unfold L_spec_RuleValid jnW
  refine S_spec_TestsValid hl (ifW_of (fun h1 => ?_) (fun h1 => no (fun hh => by simp [hh.1] at h1)))
  simp at h1
  refine S_l1In (ifW_of (fun h2 => ?_) (fun h2 => no (fun hh => by simp [hh.2.1, hh.2.2.1] at h2)))
  simp at h2
  refine ifW_of (fun h3 => ?_) (fun h3 => ?_)
  · simp at h3
    refine S_l1In (ifW_of (fun h4 => ?_) (fun h4 => ?_))
    · simp at h4
      rw [show decide (RV r) = true from decide_eq_true ⟨h1, h2.1, h2.2, fun _ => h4, fun e => absurd h3 e⟩] at h; exact h
    · simp at h4
      simp only [h3, decide_true, Bool.not_true, ifW_false]
      exact no (fun hh => by have := hh.2.2.2.1 h3; omega)
  · simp at h3
    simp only [h3, decide_false, Bool.not_false, ifW_true]
    rw [show decide (r.xChain = 0) = decide (RV r) from decide_eq_decide.2 ⟨fun hh => ⟨h1, h2.1, h2.2, fun e => absurd e h3, fun _ => hh⟩, fun hh => hh.2.2.2.2 h3⟩]
    exact h
theorem S_impl_RuleValid {r : GRule} {κ : Bool → Prop} (hl : r.xTests.length ≤ 4294967296) (h : κ (decide (RV r))) : L_impl_RuleValid r κ := by
  have no : ¬ RV r → κ false := fun hn => by rw [decide_eq_false hn] at h; exact h
  unfold L_impl_RuleValid jnW
  refine S_impl_TestsValid hl (ifW_of (fun h1 => no (fun hh => by simp [hh.1] at h1)) (fun h1 => ?_))
  simp at h1
  refine ifW_of (fun h3 => ?_) (fun h3 => ?_)
  · simp at h3
    refine ifW_of (fun h4 => ?_) (fun h4 => no (fun hh => by have := hh.2.2.2.1 h3; simp at h4; omega))
    simp at h4
    rw [show decide (r.xChain < 5) = decide (RV r) from decide_eq_decide.2 ⟨fun hh => ⟨h1, by omega, by omega, fun _ => ⟨h4, by omega⟩, fun e => absurd h3 e⟩, fun hh => by have := hh.2.2.2.1 h3; omega⟩]
    exact h
  · simp at h3
    have yes : 1 ≤ r.xAction → r.xAction ≤ 5 → κ (decide (r.xChain = 0)) := fun a1 a2 => by
      rw [show decide (r.xChain = 0) = decide (RV r) from decide_eq_decide.2 ⟨fun hh => ⟨h1, a1, a2, fun e => absurd e h3, fun _ => hh⟩, fun hh => hh.2.2.2.2 h3⟩]
      exact h
    by_cases e1 : r.xAction = 1
    · simp only [e1, decide_true, ifW_true]; exact yes (by omega) (by omega)
    by_cases e2 : r.xAction = 2
    · simp only [e2, decide_true, ifW_true]; exact ifW_of (fun e => by simp at e) (fun _ => yes (by omega) (by omega))
    by_cases e4 : r.xAction = 4
    · simp only [e4, decide_true, ifW_true]
      exact ifW_of (fun e => by simp at e) (fun _ => ifW_of (fun e => by simp at e) (fun _ => yes (by omega) (by omega)))
    by_cases e5 : r.xAction = 5
    · simp only [e5, decide_true, ifW_true]
      exact ifW_of (fun e => by simp at e) (fun _ => ifW_of (fun e => by simp at e) (fun _ => ifW_of (fun e => by simp at e) (fun _ => yes (by omega) (by omega))))
    simp only [e1, e2, e4, e5, decide_false, ifW_false]
    exact no (fun hh => by have := hh.2.1; have := hh.2.2.1; omega)

/-- the tests behind the action -/
theorem S_itests {ts : List GTest} {acc : List UInt8} {κ : ByteArray → Prop} (hv : ∀ t, t ∈ ts → TV t) (hl : ts.length ≤ 6) (ha : acc.length ≤ 100) (h : κ (B (acc ++ tl ts))) :
    loopW (fun (nx81 : (ByteArray × Int) → Prop) ((t79, t80) : (ByteArray × Int)) => ifW (decide (t80 < (ts.length : Int))) (idxW ts t80 (fun e82 => L_impl_Test_text e82 (fun r86 => catW (ByteArray.mk #[44, 32]) r86 (fun s87 => catW t79 s87 (fun s88 => addW t80 1 (fun t89 => nx81 (s88, t89))))))) (κ t79)) (B acc, 0) := by
  refine count_loop ts.length (fun s => s.2) (fun k s => s = (B (acc ++ tl (ts.take k)), (k : Int)) ∧ k ≤ ts.length) (fun k s h => by rw [h.1]) (fun k s h => h.2) ?_ ⟨by simp [tl], Nat.zero_le _⟩
  rintro k _ next ⟨rfl, hk⟩ hn
  have htl := tl_len (ts.take k) (fun t ht => hv t (List.mem_of_mem_take ht))
  simp only [List.length_take] at htl
  refine ifW_of (fun hc => ?_) (fun hc => ?_)
  · have hlt : k < ts.length := by simpa using hc
    have htv := hv _ (List.getElem_mem hlt)
    have htt := ttx_len htv
    refine idxW_of k rfl hlt (S_impl_Test_text htv (catW_B (l := [44, 32]) (by simp; omega) (catW_B (by simp; omega) (addW_of (by omega) (by omega) (hn hlt _ ⟨?_, by omega⟩)))))
    rw [List.take_succ_eq_append_getElem hlt, tl_app]
    simp [tl]
  · have hge : ts.length ≤ k := by simpa using hc
    rw [List.take_of_length_le hge]; exact h
theorem S_stests {ts : List GTest} {acc : List UInt8} {κ : ByteArray → Prop} (hv : ∀ t, t ∈ ts → TV t) (hl : ts.length ≤ 6) (ha : acc.length ≤ 100) (h : κ (B (acc ++ tl ts))) :
    loopW (fun (nx81 : (ByteArray × Int) → Prop) ((t79, t80) : (ByteArray × Int)) => ifW (decide (t80 < (ts.length : Int))) (catW t79 (ByteArray.mk #[44, 32]) (fun s82 => idxW ts t80 (fun e83 => L_spec_TestText e83 (fun r85 => catW s82 r85 (fun s86 => addW t80 1 (fun t87 => nx81 (s86, t87))))))) (κ t79)) (B acc, 0) := by
  refine count_loop ts.length (fun s => s.2) (fun k s => s = (B (acc ++ tl (ts.take k)), (k : Int)) ∧ k ≤ ts.length) (fun k s h => by rw [h.1]) (fun k s h => h.2) ?_ ⟨by simp [tl], Nat.zero_le _⟩
  rintro k _ next ⟨rfl, hk⟩ hn
  have htl := tl_len (ts.take k) (fun t ht => hv t (List.mem_of_mem_take ht))
  simp only [List.length_take] at htl
  refine ifW_of (fun hc => ?_) (fun hc => ?_)
  · have hlt : k < ts.length := by simpa using hc
    have htv := hv _ (List.getElem_mem hlt)
    have htt := ttx_len htv
    refine catW_B (m := [44, 32]) (by simp; omega) (idxW_of k rfl hlt (S_spec_TestText ?_))
    rw [ttext, if_pos htv]
    refine catW_B (by simp; omega) (addW_of (by omega) (by omega) (hn hlt _ ⟨?_, by omega⟩))
    rw [List.take_succ_eq_append_getElem hlt, tl_app]
    simp [tl]
  · have hge : ts.length ≤ k := by simpa using hc
    rw [List.take_of_length_le hge]; exact h
theorem S_impl_Rule_text {r : GRule} {κ : ByteArray → Prop} (hv : RV r) (h : κ (B (rtx0 r))) : L_impl_Rule_text r κ := by
  obtain ⟨⟨v1, v2⟩, v3, v4, v5, v6⟩ := id hv
  unfold L_impl_Rule_text L_impl_actionOf
  have key : ∀ w : List UInt8, w.length ≤ 30 → hd r.xAction r.xChain = w → loopW (fun (nx81 : (ByteArray × Int) → Prop) ((t79, t80) : (ByteArray × Int)) => ifW (decide (t80 < (r.xTests.length : Int))) (idxW r.xTests t80 (fun e82 => L_impl_Test_text e82 (fun r86 => catW (ByteArray.mk #[44, 32]) r86 (fun s87 => catW t79 s87 (fun s88 => addW t80 1 (fun t89 => nx81 (s88, t89))))))) (κ t79)) (B w, 0) :=
    fun w hw e => S_itests v1 v2 (by omega) (by rw [← e]; exact h)
  rcases five v3 v4 with e | e | e | e | e
  · simp only [e, decide_true, ifW_true, IAction.casesW, L_impl_deciding_word, jnW]
    refine ifW_of (fun x => by simp at x) (fun _ => key [97, 99, 99, 101, 112, 116] (by simp) (by simp [hd, aw, e]))
  · simp only [e, decide_true, ifW_true, IAction.casesW, L_impl_deciding_word, jnW]
    refine ifW_of (fun x => by simp at x) (fun _ => ?_)
    simp only [ifW_false]
    refine ifW_of (fun x => by simp at x) (fun _ => key [100, 114, 111, 112] (by simp) (by simp [hd, aw, e]))
  · have hc := v5 e
    have hd1 := dec_le (n := r.xChain.toNat) (by omega)
    simp only [e, decide_true, ifW_true, IAction.casesW, L_impl_calling_word, jnW]
    refine ifW_of (fun x => by simp at x) (fun _ => ifW_of (fun x => by simp at x) (fun _ => ?_))
    refine S_itoa (by omega) (by omega) (catW_B (l := [32]) (by simp; omega) (catW_B (l := [99, 97, 108, 108]) (by simp; omega) (key ([99, 97, 108, 108] ++ ([32] ++ decDigits r.xChain.toNat)) (by simp; omega) (by simp [hd, aw, e]))))
  · simp only [e, decide_true, ifW_true, IAction.casesW, L_impl_returning_word, jnW]
    refine ifW_of (fun x => by simp at x) (fun _ => ifW_of (fun x => by simp at x) (fun _ => ifW_of (fun x => by simp at x) (fun _ => ?_)))
    refine ifW_of (fun x => by simp at x) (fun _ => key [114, 101, 116, 117, 114, 110] (by simp) (by simp [hd, aw, e]))
  · simp only [e, decide_true, ifW_true, IAction.casesW, L_impl_passing_word, jnW]
    refine ifW_of (fun x => by simp at x) (fun _ => ifW_of (fun x => by simp at x) (fun _ => ifW_of (fun x => by simp at x) (fun _ => ifW_of (fun x => by simp at x) (fun _ => ?_))))
    refine ifW_of (fun x => by simp at x) (fun _ => key [110, 111, 110, 101] (by simp) (by simp [hd, aw, e]))
theorem S_aw {a : Int} {κ : ByteArray → Prop} (h0 : 1 ≤ a) (h1 : a ≤ 5) (h : κ (B (aw a))) : idxW ([(ByteArray.mk #[97, 99, 99, 101, 112, 116]), (ByteArray.mk #[100, 114, 111, 112]), (ByteArray.mk #[99, 97, 108, 108]), (ByteArray.mk #[114, 101, 116, 117, 114, 110]), (ByteArray.mk #[110, 111, 110, 101])]) (a - 1) κ := by
  rcases five h0 h1 with rfl | rfl | rfl | rfl | rfl
  · exact idxW_of 0 rfl (by decide) h
  · exact idxW_of 1 rfl (by decide) h
  · exact idxW_of 2 rfl (by decide) h
  · exact idxW_of 3 rfl (by decide) h
  · exact idxW_of 4 rfl (by decide) h
theorem S_spec_RuleText {r : GRule} {κ : ByteArray → Prop} (hl : r.xTests.length ≤ 4294967296) (h : κ (B (rtext r))) : L_spec_RuleText r κ := by
  unfold L_spec_RuleText
  refine S_spec_RuleValid hl (ifW_of (fun hc => ?_) (fun hc => ?_))
  · simp at hc; rw [rtext, if_neg hc] at h; exact h
  · simp at hc; rw [rtext, if_pos hc] at h
    obtain ⟨⟨v1, v2⟩, v3, v4, v5, v6⟩ := id hc
    have hal := aw_len r.xAction
    refine subW_of (by omega) (by omega) (S_aw v3 v4 ?_)
    unfold jnW
    refine ifW_of (fun hc2 => ?_) (fun hc2 => ?_)
    · simp at hc2
      have hcc := v5 hc2
      have hd1 := dec_le (n := r.xChain.toNat) (by omega)
      refine catW_B (m := [32]) (by simp; omega) (S_l3Number (by omega) (by omega) (catW_B (by simp; omega) (S_stests v1 v2 (by simp; omega) ?_)))
      simpa [rtx0, hd, hc2] using h
    · simp at hc2
      refine S_stests v1 v2 (by omega) ?_
      simpa [rtx0, hd, hc2] using h


end
section
open Go.Lib (decDigits)

theorem S_awOf {a : Int} {K : ByteArray → Prop} (h0 : 1 ≤ a) (h1 : a ≤ 5) (h : K (B (aw a))) : L_impl_actionOf (GRule.mk [] a 0) (fun r10 => IAction.casesW r10 (fun x => L_impl_deciding_word x K) (fun x => L_impl_calling_word x K) (fun x => L_impl_returning_word (GReturning.mk ) K) (fun x => L_impl_passing_word (GPassing.mk ) K)) := by
  unfold L_impl_actionOf
  rcases five h0 h1 with rfl | rfl | rfl | rfl | rfl
  · refine ifW_of (fun _ => ?_) (fun e => by simp at e)
    exact ifW_of (fun _ => h) (fun e => by simp at e)
  · refine ifW_of (fun e => by simp at e) (fun _ => ifW_of (fun _ => ?_) (fun e => by simp at e))
    exact ifW_of (fun e => by simp at e) (fun _ => h)
  · refine ifW_of (fun e => by simp at e) (fun _ => ifW_of (fun e => by simp at e) (fun _ => ifW_of (fun _ => h) (fun e => by simp at e)))
  · refine ifW_of (fun e => by simp at e) (fun _ => ifW_of (fun e => by simp at e) (fun _ => ifW_of (fun e => by simp at e) (fun _ => ifW_of (fun _ => h) (fun e => by simp at e))))
  · refine ifW_of (fun e => by simp at e) (fun _ => ifW_of (fun e => by simp at e) (fun _ => ifW_of (fun e => by simp at e) (fun _ => ifW_of (fun e => by simp at e) (fun _ => h))))
theorem aw_inj {a b : Int} {r s : List UInt8} (ha : 1 ≤ a ∧ a ≤ 5) (hb : 1 ≤ b ∧ b ≤ 5) (h : aw a ++ r = aw b ++ s) : a = b := by
  rcases five ha.1 ha.2 with rfl | rfl | rfl | rfl | rfl <;> rcases five hb.1 hb.2 with rfl | rfl | rfl | rfl | rfl <;> first | rfl | (simp [aw] at h)

theorem S_action {l : List UInt8} {κ : GRule × Bool × Int → Prop} (hl : l.length ≤ 100000000000)
    (h1 : ∀ a : Int, 1 ≤ a → a ≤ 5 → a ≠ 3 → ∀ r, l = aw a ++ r → κ (GRule.mk [] a 0, true, ((aw a).length : Int)))
    (h2 : ∀ r, l = aw 3 ++ 32 :: r → κ (GRule.mk [] 3 (val (run 6 r) : Int), decide (run 6 r ≠ []), (((aw 3).length + 1 + (run 6 r).length : Nat) : Int)))
    (h3 : ∀ r, l = aw 3 ++ r → (∀ r', r ≠ 32 :: r') → κ (GRule.mk [] 3 0, false, ((aw 3).length : Int)))
    (hz : (∀ a : Int, 1 ≤ a → a ≤ 5 → ∀ r, l ≠ aw a ++ r) → κ (GRule.mk [] 0 0, false, 0)) : L_impl_scanner_action (B l) 0 κ := by
  unfold L_impl_scanner_action
  refine count_loop_from 1 6 (fun s => s.2) (fun k s => s = (0, (k : Int)) ∧ 1 ≤ k ∧ k ≤ 6 ∧ ∀ i : Nat, 1 ≤ i → i < k → ∀ r, l ≠ aw (i : Int) ++ r) (fun k s h => by rw [h.1]) (fun k s h => h.2.2.1) ?_ ⟨rfl, Nat.le_refl _, by omega, fun i hi => by omega⟩
  rintro k _ next ⟨rfl, hk1, hk, he⟩ hn
  refine ifW_of (fun hc => ?_) (fun hc => ?_)
  · have hk5 : k ≤ 5 := by simp at hc; omega
    have hal := aw_len (k : Int)
    unfold jnW
    refine S_awOf (by omega) (by omega) (S_word 0 rfl (Nat.zero_le _) (by omega) (by omega) (fun r e => ?_) (fun hno => ?_))
    · simp only [Bool.not_true, ifW_false]
      rw [List.drop_zero] at e
      refine ifW_of (fun h3' => ?_) (fun h3' => ?_)
      · simp at h3'
        have := h1 (k : Int) (by omega) (by omega) (by omega) r e
        simpa using this
      · have e3 : k = 3 := by simp at h3'; omega
        subst e3
        rw [Nat.zero_add]
        have hll : (aw ((3 : Nat) : Int)).length ≤ l.length := by rw [e]; simp
        have dr : l.drop (aw ((3 : Nat) : Int)).length = r := by rw [e]; exact drop_app rfl
        refine S_word (w := [32]) (aw ((3 : Nat) : Int)).length rfl hll (by omega) (by simp) (fun r' e' => ?_) (fun hno => ?_)
        · simp only [ifW_true]
          rw [dr] at e'
          have hm : (aw ((3 : Nat) : Int)).length + ([32] : List UInt8).length ≤ l.length := by rw [e, e']; simp
          refine S_number _ rfl hm (by omega) ?_
          have d2 : l.drop ((aw ((3 : Nat) : Int)).length + ([32] : List UInt8).length) = r' := by rw [← List.drop_drop, dr, e']; rfl
          rw [d2]
          exact h2 r' (by rw [e, e']; rfl)
        · simp only [ifW_false]
          rw [dr] at hno
          exact h3 r e (fun r' e' => hno r' (by simpa using e'))
    · simp only [Bool.not_false, ifW_true]
      refine addW_of (by omega) (by omega) (hn (by omega) _ ⟨by simp, by omega, by omega, fun i i1 i2 r e => ?_⟩)
      by_cases hik : i = k
      · subst hik; exact hno r (by simpa using e)
      · exact he i i1 (by omega) r e
  · have hge : k = 6 := by simp at hc; omega
    subst hge
    refine hz (fun a a1 a2 r e => ?_)
    obtain ⟨i, rfl⟩ := Int.eq_ofNat_of_zero_le (show 0 ≤ a by omega)
    exact he i (by omega) (by omega) r e
theorem T_action {l : List UInt8} {κ : GRule × Bool × Int → Prop} (hl : l.length ≤ 100000000000)
    (h : ∀ (a c : Int) (ok : Bool) (m : Nat), m ≤ l.length → κ (GRule.mk [] a c, ok, (m : Int))) : L_impl_scanner_action (B l) 0 κ := by
  refine S_action hl (fun a a1 a2 a3 r e => h _ _ _ _ (by rw [e]; simp)) (fun r e => h _ _ _ _ ?_) (fun r e _ => h _ _ _ _ (by rw [e]; simp)) (fun _ => h _ _ _ 0 (Nat.zero_le _))
  have := (run_len 6 r).2
  rw [e]; simp; omega
theorem C_action {l r : List UInt8} {a c : Int} {κ : GRule × Bool × Int → Prop} (hv : HV a c) (hr : Ends r) (el : l = hd a c ++ r) (hl : l.length ≤ 100000000000)
    (h : κ (GRule.mk [] a c, true, ((hd a c).length : Int))) : L_impl_scanner_action (B l) 0 κ := by
  obtain ⟨a1, a2, a3, a4⟩ := hv
  have el' : l = aw a ++ ((if a = 3 then 32 :: decDigits c.toNat else []) ++ r) := by rw [el, hd, List.append_assoc]
  refine S_action hl (fun b b1 b2 b3 s e => ?_) (fun s e => ?_) (fun s e hno => ?_) (fun hno => absurd el' (hno a a1 a2 _))
  · have := aw_inj ⟨a1, a2⟩ ⟨b1, b2⟩ (el'.symm.trans e)
    subst this
    rw [a4 b3] at h
    simpa [hd, b3] using h
  · have := aw_inj ⟨a1, a2⟩ ⟨by omega, by omega⟩ (el'.symm.trans e)
    subst this
    rw [el'] at e
    simp only [if_true, List.cons_append, List.append_cancel_left_eq, List.cons.injEq, true_and] at e
    subst e
    have hc := a3 rfl
    rw [run_dec (by omega) hr.dg, decide_eq_true (dec_pos _), dec_val]
    have ec : ((c.toNat : Nat) : Int) = c := by omega
    rw [ec]
    have en : (aw 3).length + 1 + (decDigits c.toNat).length = (hd 3 c).length := by simp [hd]; omega
    rw [en]; exact h
  · have := aw_inj ⟨a1, a2⟩ ⟨by omega, by omega⟩ (el'.symm.trans e)
    subst this
    rw [el'] at e
    simp only [if_true, List.cons_append, List.append_cancel_left_eq] at e
    exact absurd e.symm (hno _)

theorem tl_ends (ts : List GTest) : Ends (tl ts) := by
  intro c m e
  cases ts with
  | nil => cases e
  | cons t ts => rw [tl_cons] at e; cases e; rfl
theorem T_impl_ReadRule {l : List UInt8} {κ : GRule × Bool → Prop} (hl : l.length ≤ 100000000000) (hz : κ (GRule.mk [] 0 0, false)) (h : ∀ r, RV r → rtx0 r = l → κ (r, true)) : L_impl_ReadRule (B l) κ := by
  unfold L_impl_ReadRule
  refine T_action hl (fun a c ok m hm => ifW_of (fun _ => hz) (fun _ => ?_))
  refine loopW_inv (fun s => ∃ (m : Nat), s.2 = (m : Int) ∧ m ≤ l.length ∧ s.1.length ≤ 6) (fun s => 7 - s.1.length) ?_ ⟨m, rfl, hm, by simp⟩
  rintro ⟨xs, _⟩ next ⟨m, rfl, hm, hx⟩ hn
  simp only at hx
  unfold L_impl_scanner_done jnW
  refine ifW_of (fun hc => ?_) (fun hc => ?_)
  · refine ifW_of (fun h6 => by simp only [ifW_true]; exact hz) (fun h6 => ?_)
    simp at h6
    refine S_word (w := [44, 32]) m rfl hm (by omega) (by simp) (fun r e => ?_) (fun _ => by simp only [Bool.not_false, ifW_true]; exact hz)
    have hm2 : m + ([44, 32] : List UInt8).length ≤ l.length := by have := congrArg List.length e; simp at this; simp; omega
    simp only [Bool.not_true, ifW_false]
    refine T_scanner_test _ rfl hm2 hl (fun t m' hf q1 q2 => ?_) (fun m' q1 q2 => by simp only [Bool.not_false, ifW_true]; exact hz)
    simp only [Bool.not_true, ifW_false]
    refine appW_of (by simp; omega) (hn _ ⟨m', rfl, q2, by simp; omega⟩ (by simp; omega))
  · simp only [ifW_true]
    refine S_impl_RuleValid (by simp only; omega) (ifW_of (fun _ => hz) (fun hv => ?_))
    simp at hv
    refine S_impl_Rule_text hv (ifW_of (fun _ => hz) (fun he => ?_))
    simp [B_inj] at he
    exact h _ hv he
theorem C_impl_ReadRule {r : GRule} {κ : GRule × Bool → Prop} (hv : RV r) (h : κ (r, true)) : L_impl_ReadRule (B (rtx0 r)) κ := by
  have hl := rtx0_len hv
  obtain ⟨⟨v1, v2⟩, v3⟩ := id hv
  unfold L_impl_ReadRule
  refine C_action v3 (tl_ends _) rfl (by omega) ?_
  simp only [Bool.not_true, ifW_false]
  refine count_loop r.xTests.length (fun s => (s.1.length : Int)) (fun k s => s = (r.xTests.take k, ((hd r.xAction r.xChain ++ tl (r.xTests.take k)).length : Int)) ∧ k ≤ r.xTests.length) (fun k s h => by rw [h.1]; simp; omega) (fun k s h => h.2) ?_ ⟨by simp [tl], Nat.zero_le _⟩
  rintro k _ next ⟨rfl, hk⟩ hn
  have esplit : rtx0 r = (hd r.xAction r.xChain ++ tl (r.xTests.take k)) ++ tl (r.xTests.drop k) := by
    rw [rtx0, List.append_assoc, ← tl_app, List.take_append_drop]
  have hlen : (rtx0 r).length = (hd r.xAction r.xChain ++ tl (r.xTests.take k)).length + (tl (r.xTests.drop k)).length := by rw [esplit, List.length_append]
  unfold L_impl_scanner_done jnW
  rw [B_size]
  by_cases hlt : k < r.xTests.length
  · have hd1 : r.xTests.drop k = r.xTests[k] :: r.xTests.drop (k + 1) := List.drop_eq_getElem_cons hlt
    have htv := v1 _ (List.getElem_mem hlt)
    have et : tl (r.xTests.drop k) = 44 :: 32 :: (ttx r.xTests[k] ++ tl (r.xTests.drop (k + 1))) := by rw [hd1, tl_cons]
    have hpos : 2 ≤ (tl (r.xTests.drop k)).length := by rw [et]; simp
    refine ifW_of (fun hc => ?_) (fun hc => by simp at hc hlen; omega)
    refine ifW_of (fun h6 => by simp at h6; omega) (fun h6 => ?_)
    refine S_word (w := [44, 32]) _ rfl (by omega) (by omega) (by simp) (fun s e => ?_) (fun hno => absurd (by rw [esplit, drop_app rfl, et]; rfl) (hno (ttx r.xTests[k] ++ tl (r.xTests.drop (k + 1)))))
    simp only [Bool.not_true, ifW_false]
    refine C_scanner_test (p := (hd r.xAction r.xChain ++ tl (r.xTests.take k)) ++ [44, 32]) (r := tl (r.xTests.drop (k + 1))) htv (tl_ends _) (by rw [esplit, et]; simp) (by simp; omega) (by omega) ?_
    simp only [Bool.not_true, ifW_false]
    refine appW_of (by simp; omega) (hn hlt _ ⟨?_, by omega⟩)
    rw [List.take_succ_eq_append_getElem hlt, tl_app, tl_cons]
    simp only [tl_nil, Prod.mk.injEq, true_and, List.length_append, List.length_cons, List.length_nil, List.append_nil]
    omega
  · have hge : r.xTests.length ≤ k := by omega
    have e0 : tl (r.xTests.drop k) = [] := by rw [List.drop_eq_nil_of_le hge]; rfl
    rw [e0] at hlen
    refine ifW_of (fun hc => by simp at hc hlen; omega) (fun hc => ?_)
    rw [List.take_of_length_le hge]
    refine S_impl_RuleValid (r := r) (by omega) (ifW_of (fun hc => absurd hv (by simpa using hc)) (fun _ => S_impl_Rule_text hv (ifW_of (fun hc => by simp at hc) (fun _ => h))))


end
section
open Go.Lib (decDigits)

theorem hd_inj {a c a' c' : Int} (h : HV a c) (h' : HV a' c') (e : hd a c = hd a' c') : a = a' ∧ c = c' := by
  have ea : a = a' := aw_inj ⟨h.1, h.2.1⟩ ⟨h'.1, h'.2.1⟩ e
  subst ea
  refine ⟨rfl, ?_⟩
  by_cases h3 : a = 3
  · have h1 := h.2.2.1 h3
    have h2 := h'.2.2.1 h3
    simp only [hd, if_pos h3, List.append_cancel_left_eq, List.cons.injEq, true_and] at e
    have := dec_inj e
    omega
  · rw [h.2.2.2 h3, h'.2.2.2 h3]
theorem rtx0_hd (a c : Int) : rtx0 (GRule.mk [] a c) = hd a c := by simp [rtx0, tl]
theorem hd_ne (a c : Int) : hd a c ≠ [] := by
  have := aw_len a
  intro e
  cases h : aw a with
  | nil => rw [h] at this; simp at this
  | cons x y => simp [hd, h] at e
theorem rv_hd {a c : Int} : RV (GRule.mk [] a c) ↔ HV a c := ⟨fun h => h.2, fun h => ⟨⟨fun t ht => (by cases ht), (by simp)⟩, h⟩⟩
theorem ttx_no44 {t : GTest} (h : TV t) : (44 : UInt8) ∉ ttx t := by
  have hn : (44 : UInt8) ∉ nm t.xField := by rcases four h.1 h.2.1 with e0 | e0 | e0 | e0 <;> rw [e0] <;> decide
  have hr : (44 : UInt8) ∉ rtx t := by
    unfold rtx; split
    · simpa using dec_no (by decide)
    · simp only [List.mem_append, List.mem_cons, not_or]
      exact ⟨dec_no (by decide), by decide, dec_no (by decide)⟩
  have hb : (44 : UInt8) ∉ btx t := by
    unfold btx
    simp only [List.mem_append, List.mem_cons, not_or]
    exact ⟨hn, by decide, hr⟩
  unfold ttx; split
  · simp only [List.mem_cons, not_or]
    exact ⟨by decide, by decide, by decide, by decide, hb⟩
  · exact hb
theorem hd_no44 {a c : Int} (h : HV a c) : (44 : UInt8) ∉ hd a c := by
  have ha : (44 : UInt8) ∉ aw a := by rcases five h.1 h.2.1 with e | e | e | e | e <;> rw [e] <;> decide
  unfold hd; split
  · simp only [List.mem_append, List.mem_cons, not_or]
    exact ⟨ha, by decide, dec_no (by decide)⟩
  · simpa using ha
/-- what stands behind a comma -/
def kl (ts : List GTest) : List UInt8 := (tl ts).drop 1
theorem kl_cons (t : GTest) (ts : List GTest) : kl (t :: ts) = 32 :: (ttx t ++ tl ts) := by rw [kl, tl_cons]; rfl
theorem cut_kl {x : List UInt8} (hx : (44 : UInt8) ∉ x) (ts : List GTest) : cut 44 (x ++ tl ts) = (x, kl ts) := by
  cases ts with
  | nil => rw [tl_nil, List.append_nil, cut_no hx]; rfl
  | cons t ts => rw [tl_cons, cut_app hx, kl_cons]

/-- the loop that seeks the action -/
theorem S_seek {x : List UInt8} {κ : Int → Int → Prop} (F : ((Int × Int × Int) → Prop) → Int × Int × Int → Prop) (hF : ∀ nx10 t7 t8 t9, ifW (decide (t9 ≤ 5)) (loopW (fun (nx14 : (Int × Int × Int) → Prop) ((t11, t12, t13) : (Int × Int × Int)) => ifW (decide (t13 < 5)) (jnW (fun ((t140, t141) : (Int × Int)) => addW t13 1 (fun t143 => nx14 (t140, t141, t143))) (fun k142 => jnW (fun t77 => L_spec_RuleText (GRule.mk ([]) t9 t77) (fun r79 => ifW (decide (r79 = B x)) (k142 (t9, t77)) (k142 (t11, t12)))) (fun k78 => ifW (decide (t9 = 3)) (k78 t13) (k78 0)))) (addW t9 1 (fun t144 => nx10 (t11, t12, t144)))) (t7, t8, 0)) (κ t7 t8) → F nx10 (t7, t8, t9)) (h : ∀ a c : Int, 0 ≤ a → a ≤ 5 → 0 ≤ c → c ≤ 4 → (∀ a' c', HV a' c' → hd a' c' = x → a = a' ∧ c = c') → κ a c) :
    loopW F (0, 0, 1) := by
  refine count_loop_from 1 6 (fun s => s.2.2) (fun k s => s.2.2 = (k : Int) ∧ 1 ≤ k ∧ k ≤ 6 ∧ 0 ≤ s.1 ∧ s.1 ≤ 5 ∧ 0 ≤ s.2.1 ∧ s.2.1 ≤ 4 ∧ (∀ a' c', HV a' c' → hd a' c' = x → a' < k → s.1 = a' ∧ s.2.1 = c')) (fun k s h => h.1) (fun k s h => h.2.2.1) ?_ ⟨rfl, Nat.le_refl _, by omega, by simp, by simp, by simp, by simp, fun a' c' hv _ hl => by have := hv.1; omega⟩
  rintro k ⟨a, c, _⟩ next ⟨rfl, hk1, hk, a0, a1, c0, c1, he⟩ hn
  simp only at a0 a1 c0 c1 he
  refine hF _ _ _ _ (ifW_of (fun hc => ?_) (fun hc => ?_))
  · have hk5 : k ≤ 5 := by simp at hc; omega
    refine count_loop 5 (fun s => s.2.2) (fun j s => s.2.2 = (j : Int) ∧ j ≤ 5 ∧ 0 ≤ s.1 ∧ s.1 ≤ 5 ∧ 0 ≤ s.2.1 ∧ s.2.1 ≤ 4 ∧ (∀ a' c', HV a' c' → hd a' c' = x → (a' < k ∨ a' = k ∧ (if (k : Int) = 3 then c' < j else 0 < j)) → s.1 = a' ∧ s.2.1 = c')) (fun j s h => h.1) (fun j s h => h.2.1) ?_ ⟨rfl, Nat.zero_le _, a0, a1, c0, c1, fun a' c' hv hx hl => ?_⟩
    · rintro j ⟨u, v, _⟩ next2 ⟨rfl, hj, u0, u1, v0, v1, he2⟩ hn2
      simp only at u0 u1 v0 v1 he2
      refine ifW_of (fun hc2 => ?_) (fun hc2 => ?_)
      · have hj5 : j < 5 := by simp at hc2; omega
        unfold jnW
        have step : ∀ cc : Int, 0 ≤ cc → cc ≤ 4 → HV k cc → (∀ c', HV k c' → (if (k : Int) = 3 then c' < j + 1 else 0 < j + 1) → (if (k : Int) = 3 then c' < j else 0 < j) ∨ c' = cc) → L_spec_RuleText (GRule.mk ([]) (k : Int) cc) (fun r79 => ifW (decide (r79 = B x)) (addW (j : Int) 1 (fun t143 => next2 ((k : Int), cc, t143))) (addW (j : Int) 1 (fun t143 => next2 (u, v, t143)))) := by
          intro cc q0 q1 hv hcc
          refine S_spec_RuleText (by simp) ?_
          rw [rtext, if_pos (rv_hd.2 hv), rtx0_hd, B_dec]
          refine ifW_of (fun hx => ?_) (fun hx => ?_)
          · simp at hx
            refine addW_of (by omega) (by omega) (hn2 hj5 _ ⟨by simp, by omega, by simp only; omega, by simp only; omega, q0, q1, fun a' c' hv' hx' _ => ?_⟩)
            exact hd_inj hv hv' (hx.trans hx'.symm)
          · simp at hx
            refine addW_of (by omega) (by omega) (hn2 hj5 _ ⟨by simp, by omega, u0, u1, v0, v1, fun a' c' hv' hx' hl => ?_⟩)
            rcases hl with hl | ⟨rfl, hl⟩
            · exact he2 a' c' hv' hx' (.inl hl)
            · rcases hcc c' hv' (by simpa using hl) with hl' | rfl
              · exact he2 _ c' hv' hx' (.inr ⟨rfl, hl'⟩)
              · exact absurd hx' hx
        refine ifW_of (fun h3 => ?_) (fun h3 => ?_)
        · have h3' : (k : Int) = 3 := by simpa using h3
          refine step (j : Int) (by omega) (by omega) ⟨by omega, by omega, fun _ => ⟨by omega, by omega⟩, fun e => absurd h3' e⟩ (fun c' hv' hl => ?_)
          rw [if_pos h3'] at hl ⊢
          omega
        · have h3' : ¬ (k : Int) = 3 := by simpa using h3
          refine step 0 (by omega) (by omega) ⟨by omega, by omega, fun e => absurd e h3', fun _ => rfl⟩ (fun c' hv' hl => .inr (hv'.2.2.2 h3'))
      · have hj5 : j = 5 := by simp at hc2; omega
        subst hj5
        refine addW_of (by omega) (by omega) (hn (by omega) _ ⟨by simp, by omega, by omega, u0, u1, v0, v1, fun a' c' hv hx hl => ?_⟩)
        refine he2 a' c' hv hx ?_
        by_cases hlt : a' < k
        · exact .inl hlt
        · refine .inr ⟨by omega, ?_⟩
          split
          · have := hv.2.2.1 (by omega); omega
          · omega
    · refine he a' c' hv hx ?_
      rcases hl with hl | ⟨hl, hl2⟩
      · exact hl
      · exfalso
        split at hl2
        · have := hv.2.2.1 (by omega); omega
        · omega
  · have hge : k = 6 := by simp at hc; omega
    subst hge
    exact h a c a0 a1 c0 c1 (fun a' c' hv hx => he a' c' hv hx (by have := hv.2.1; omega))

theorem idx0 {z : List UInt8} {c : UInt8} {κ : UInt8 → Prop} (h : κ c) : idxW (B (c :: z)).data.toList 0 κ := by
  rw [B_data]; exact idxW_of 0 rfl (by simp) h
theorem T_spec_ReadRule {l : List UInt8} {κ : GRule × Bool → Prop} (hl : l.length ≤ 10000000) (hz : κ (GRule.mk [] 0 0, false)) (h : ∀ r, RV r → rtx0 r = l → κ (r, true)) : L_spec_ReadRule (B l) κ := by
  unfold L_spec_ReadRule
  refine S_cut (by omega) ?_
  have l1 := cut_len (c := 44) l
  generalize (cut 44 l).1 = x at *
  generalize (cut 44 l).2 = y0 at *
  show loopW _ (0, 0, 1)
  refine S_seek _ (fun nx t7 t8 t9 hh => hh) (fun a c a0 a1 c0 c1 _ => ?_)
  refine loopW_inv (fun s => ∃ (y : List UInt8) (k : Nat), s.2.1 = B y ∧ s.2.2 = (k : Int) ∧ y.length ≤ 10000000 ∧ k ≤ 7 ∧ s.1.length = k) (fun s => 8 - s.1.length) ?_ ⟨y0, 0, rfl, rfl, by omega, by omega, rfl⟩
  rintro ⟨xs, _, _⟩ next ⟨y, k, rfl, rfl, hy, hk, hx⟩ hn
  simp only at hx
  unfold jnW
  have fin : L_spec_RuleText (GRule.mk xs a c) (fun r294 => ifW (!(decide (r294 = B l))) (ifW true (κ ((GRule.mk ([]) 0 0), false)) (κ ((GRule.mk xs a c), true))) (ifW (decide (B l = (ByteArray.mk #[]))) (κ ((GRule.mk ([]) 0 0), false)) (κ ((GRule.mk xs a c), true)))) := by
    refine S_spec_RuleText (by simp only; omega) ?_
    simp only [ifW_true]
    refine ifW_of (fun _ => hz) (fun hc => ifW_of (fun _ => hz) (fun hc2 => ?_))
    rw [B_nil] at hc2
    simp [B_inj] at hc hc2
    by_cases hv : RV (GRule.mk xs a c)
    · rw [rtext, if_pos hv] at hc; exact h _ hv hc
    · rw [rtext, if_neg hv] at hc; exact absurd hc.symm hc2
  refine ifW_of (fun hc => ?_) (fun hc => ?_)
  · refine ifW_of (fun hc2 => ?_) (fun hc2 => ?_)
    · simp at hc2
      refine S_cut (by omega) ?_
      have l2 := cut_len (c := 44) y
      generalize (cut 44 y).1 = u at *
      generalize (cut 44 y).2 = v at *
      have cont : ∀ z, z.length ≤ 10000000 → L_spec_ReadTest (B z) (fun (r281, r282) => ifW (!r282) (κ ((GRule.mk ([]) 0 0), false)) (appW xs ([r281]) (fun _ => addW (k : Int) 1 (fun t293 => next ((xs ++ ([r281])), B v, t293))))) := by
        intro z hz'
        refine T_spec_ReadTest (by omega) (by simp only [Bool.not_false, ifW_true]; exact hz) (fun t _ _ => ?_)
        simp only [Bool.not_true, ifW_false]
        refine appW_of (by simp; omega) (addW_of (by omega) (by omega) (hn _ ⟨v, k + 1, rfl, by simp, by omega, by omega, by simp; omega⟩ (by simp; omega)))
      refine ifW_of (fun hc3 => ?_) (fun hc3 => ?_)
      · simp only [ifW_true]; exact hz
      · rw [B_nil, B_dec] at hc3
        replace hc3 := of_decide_eq_false hc3
        cases u with
        | nil => exact absurd rfl hc3
        | cons d z =>
          refine idx0 (ifW_of (fun _ => hz) (fun _ => ?_))
          refine sliceS_B 1 (d :: z).length rfl (by rw [B_size]) (by simp) (by omega) ?_
          rw [List.take_length]
          exact cont z (by simp at l2; omega)
    · simp only [ifW_false]; exact fin
  · simp only [ifW_false]; exact fin

theorem C_spec_ReadRule {r : GRule} {κ : GRule × Bool → Prop} (hv : RV r) (h : κ (r, true)) : L_spec_ReadRule (B (rtx0 r)) κ := by
  have hl := rtx0_len hv
  obtain ⟨⟨v1, v2⟩, v3⟩ := id hv
  have c0 : cut 44 (rtx0 r) = (hd r.xAction r.xChain, kl r.xTests) := cut_kl (hd_no44 v3) _
  unfold L_spec_ReadRule
  refine S_cut (by omega) ?_
  rw [c0]
  show loopW _ (0, 0, 1)
  refine S_seek _ (fun nx t7 t8 t9 hh => hh) (fun a c a0 a1 c0 c1 hac => ?_)
  obtain ⟨rfl, rfl⟩ := hac _ _ v3 rfl
  refine count_loop r.xTests.length (fun s => s.2.2) (fun k s => s = (r.xTests.take k, B (kl (r.xTests.drop k)), (k : Int)) ∧ k ≤ r.xTests.length) (fun k s h => by rw [h.1]) (fun k s h => h.2) ?_ ⟨by simp, Nat.zero_le _⟩
  rintro k _ next ⟨rfl, hk⟩ hn
  unfold jnW
  by_cases hlt : k < r.xTests.length
  · have hd1 : r.xTests.drop k = r.xTests[k] :: r.xTests.drop (k + 1) := List.drop_eq_getElem_cons hlt
    have htv := v1 _ (List.getElem_mem hlt)
    have htl := ttx_len htv
    have hkl : kl (r.xTests.drop k) = 32 :: ttx r.xTests[k] ++ tl (r.xTests.drop (k + 1)) := by rw [hd1, kl_cons]; rfl
    have hcut : cut 44 (kl (r.xTests.drop k)) = (32 :: ttx r.xTests[k], kl (r.xTests.drop (k + 1))) := by
      rw [hkl]
      exact cut_kl (by simp only [List.mem_cons, not_or]; exact ⟨by decide, ttx_no44 htv⟩) _
    have hkk := tl_len (r.xTests.drop (k + 1)) (fun t ht => v1 t (List.mem_of_mem_drop ht))
    rw [List.length_drop] at hkk
    have hlen : (kl (r.xTests.drop k)).length ≤ 1000 := by rw [hkl]; simp; omega
    refine ifW_of (fun hc => ?_) (fun hc => ?_)
    · refine ifW_of (fun hc2 => ?_) (fun hc2 => by simp at hc2; omega)
      refine S_cut (by omega) ?_
      rw [hcut]
      refine ifW_of (fun hc3 => ?_) (fun hc3 => ?_)
      · rw [B_nil, B_dec] at hc3; simp at hc3
      · refine idx0 (ifW_of (fun hx => by simp at hx) (fun _ => ?_))
        refine sliceS_B 1 (32 :: ttx r.xTests[k]).length rfl (by rw [B_size]) (by simp) (Nat.le_refl _) ?_
        rw [List.take_length]
        refine C_spec_ReadTest htv ?_
        simp only [Bool.not_true, ifW_false]
        refine appW_of (by simp; omega) (addW_of (by omega) (by omega) (hn hlt _ ⟨?_, by omega⟩))
        rw [List.take_succ_eq_append_getElem hlt]
        simp
    · rw [B_nil, B_dec, hkl] at hc; simp at hc
  · have hge : r.xTests.length ≤ k := by omega
    refine ifW_of (fun hc => ?_) (fun hc => ?_)
    · rw [List.drop_eq_nil_of_le hge, B_nil, B_dec] at hc; simp [kl, tl] at hc
    · simp only [ifW_false]
      rw [List.take_of_length_le hge]
      refine S_spec_RuleText (r := r) (by omega) ?_
      rw [rtext, if_pos hv, B_nil]
      have hne : rtx0 r ≠ [] := by
        have := hd_ne r.xAction r.xChain
        simp [rtx0, this]
      simp [B_inj, hne]
      exact h


end
section


/-- chain i calls chain j -/
def Ca (cs : List (List GRule)) (i j : Nat) : Prop := ∃ c, cs[i]? = some c ∧ ∃ r, r ∈ c ∧ r.xAction = 3 ∧ r.xChain = (j : Int)
/-- no call leads back, from i on -/
def Sf (cs : List (List GRule)) (i : Nat) : Prop := Acc (fun j i => Ca cs i j) i
theorem sf_of {cs : List (List GRule)} {i : Nat} (h : ∀ j, Ca cs i j → Sf cs j) : Sf cs i := Acc.intro _ h
/-- a way by calls, at least one -/
inductive Wy (cs : List (List GRule)) : Nat → Nat → Prop
  | one {i j : Nat} : Ca cs i j → Wy cs i j
  | more {i j k : Nat} : Wy cs i j → Ca cs j k → Wy cs i k
theorem wy_first {cs : List (List GRule)} {i k : Nat} (w : Wy cs i k) : ∃ j, Ca cs i j ∧ (j = k ∨ Wy cs j k) := by
  induction w with
  | one h => exact ⟨_, h, .inl rfl⟩
  | more _ h ih =>
    obtain ⟨j, h1, h2⟩ := ih
    rcases h2 with rfl | h2
    · exact ⟨_, h1, .inr (.one h)⟩
    · exact ⟨_, h1, .inr (.more h2 h)⟩
theorem wy_loop {cs : List (List GRule)} {i : Nat} (hs : Sf cs i) : ¬ Wy cs i i := by
  induction hs with
  | intro x _ ih =>
    intro w
    obtain ⟨j, h1, h2⟩ := wy_first w
    rcases h2 with rfl | h2
    · exact ih _ h1 w
    · exact ih j h1 (.more h2 h1)

/-- every rule of every chain is valid, and calls a chain that is there -/
def Tg (cs : List (List GRule)) : Prop := cs.length ≤ 5 ∧ ∀ c, c ∈ cs → (c.length ≤ 8 ∧ ∀ r, r ∈ c → RV r ∧ r.xChain < cs.length)

/-- the same, whatever is called -/
def Tw (cs : List (List GRule)) : Prop := cs.length ≤ 5 ∧ ∀ c, c ∈ cs → (c.length ≤ 8 ∧ ∀ r, r ∈ c → RV r)
theorem Tg.w {cs : List (List GRule)} (h : Tg cs) : Tw cs := ⟨h.1, fun c hc => ⟨(h.2 c hc).1, fun r hr => ((h.2 c hc).2 r hr).1⟩⟩
theorem sf_out {cs : List (List GRule)} {j : Nat} (h : cs.length ≤ j) : Sf cs j := sf_of (fun i ⟨c, h1, _⟩ => by have := (List.getElem?_eq_some_iff.1 h1).1; omega)
/-- the chains that a chain calls -/
theorem S_callsIn {rules : List GRule} {κ : List Int → Prop} (hl : rules.length ≤ 8) (hv : ∀ r, r ∈ rules → RV r) (h : ∀ ys : List Int, ys.length ≤ 5 → (∀ x, x ∈ ys ↔ ∃ r, r ∈ rules ∧ r.xAction = 3 ∧ r.xChain = x) → κ ys) : L_impl_callsIn rules κ := by
  unfold L_impl_callsIn
  refine count_loop rules.length (fun s => s.2) (fun k s => s.2 = (k : Int) ∧ k ≤ rules.length ∧ s.1.length = 5 ∧ ∀ i : Nat, i < 5 → (s.1[i]? = some true ↔ ∃ r, r ∈ rules.take k ∧ r.xAction = 3 ∧ r.xChain = (i : Int))) (fun k s h => h.1) (fun k s h => h.2.1) ?_ ⟨rfl, Nat.zero_le _, rfl, fun i hi => ?_⟩
  · rintro k ⟨xs, _⟩ next ⟨rfl, hk, hx, he⟩ hn
    simp only at hx he
    refine ifW_of (fun hc => ?_) (fun hc => ?_)
    · have hlt : k < rules.length := by simpa using hc
      have hrv := hv _ (List.getElem_mem hlt)
      have htk : ∀ r, r ∈ rules.take (k + 1) ↔ r ∈ rules.take k ∨ r = rules[k] := fun r => by
        rw [List.take_succ_eq_append_getElem hlt, List.mem_append, List.mem_singleton]
      unfold jnW
      refine idxW_of k rfl hlt (ifW_of (fun h3 => ?_) (fun h3 => ?_))
      · simp at h3
        have hch := hrv.2.2.2.1 h3
        obtain ⟨m, hm⟩ := Int.eq_ofNat_of_zero_le hch.1
        refine idxW_any hch.1 (by rw [hx]; omega) (fun _ _ => addW_of (by omega) (by omega) (hn hlt _ ⟨by simp, by omega, by simpa using hx, fun i hi => ?_⟩))
        simp only [htk]
        rw [hm, Int.toNat_natCast]
        by_cases e : i = m
        · subst e
          simp only [List.getElem?_set_self (show i < xs.length by omega), true_iff]
          exact ⟨_, .inr rfl, h3, hm⟩
        · rw [List.getElem?_set_ne (by omega), he i hi]
          constructor
          · rintro ⟨r, h1, h2⟩; exact ⟨r, .inl h1, h2⟩
          · rintro ⟨r, h1 | rfl, h2, h4⟩
            · exact ⟨r, h1, h2, h4⟩
            · omega
      · simp at h3
        refine addW_of (by omega) (by omega) (hn hlt _ ⟨by simp, by omega, hx, fun i hi => ?_⟩)
        simp only [htk]
        rw [he i hi]
        constructor
        · rintro ⟨r, h1, h2⟩; exact ⟨r, .inl h1, h2⟩
        · rintro ⟨r, h1 | rfl, h2, h4⟩
          · exact ⟨r, h1, h2, h4⟩
          · exact absurd h2 h3
    · have hge : rules.length ≤ k := by simpa using hc
      rw [List.take_of_length_le hge] at he
      obtain ⟨e0, e1, e2, e3, e4, rfl⟩ : ∃ a b c d e, xs = [a, b, c, d, e] := by
        match xs, hx with
        | [a, b, c, d, e], _ => exact ⟨a, b, c, d, e, rfl⟩
      refine ⟨e0, e1, e2, e3, e4, rfl, ?_⟩
      refine count_loop 5 (fun s => s.2) (fun j s => s.2 = (j : Int) ∧ j ≤ 5 ∧ s.1.length ≤ j ∧ ∀ x, x ∈ s.1 ↔ ∃ i : Nat, i < j ∧ x = (i : Int) ∧ [e0, e1, e2, e3, e4][i]? = some true) (fun j s h => h.1) (fun j s h => h.2.1) ?_ ⟨rfl, Nat.zero_le _, by simp, by simp⟩
      rintro j ⟨ys, _⟩ next2 ⟨rfl, hj, hyl, hy⟩ hn2
      simp only at hyl hy
      refine ifW_of (fun hc2 => ?_) (fun hc2 => ?_)
      · have hj5 : j < 5 := by simp at hc2; omega
        have hjl : j < [e0, e1, e2, e3, e4].length := by simpa using hj5
        unfold jnW
        refine idxW_of j rfl hjl (ifW_of (fun h3 => ?_) (fun h3 => ?_))
        · refine appW_of (by simp; omega) (addW_of (by omega) (by omega) (hn2 hj5 _ ⟨by simp, by omega, by simp; omega, fun x => ?_⟩))
          simp only [List.mem_append, List.mem_singleton, hy]
          constructor
          · rintro (⟨i, h1, h2, h4⟩ | rfl)
            · exact ⟨i, by omega, h2, h4⟩
            · exact ⟨j, by omega, rfl, by rw [List.getElem?_eq_getElem hjl, h3]⟩
          · rintro ⟨i, h1, h2, h4⟩
            by_cases e : i = j
            · subst e; exact .inr h2
            · exact .inl ⟨i, by omega, h2, h4⟩
        · refine addW_of (by omega) (by omega) (hn2 hj5 _ ⟨by simp, by omega, by simp only; omega, fun x => ?_⟩)
          simp only [hy]
          constructor
          · rintro ⟨i, h1, h2, h4⟩; exact ⟨i, by omega, h2, h4⟩
          · rintro ⟨i, h1, h2, h4⟩
            by_cases e : i = j
            · subst e; rw [List.getElem?_eq_getElem hjl, h3] at h4; simp at h4
            · exact ⟨i, by omega, h2, h4⟩
      · have hj5 : j = 5 := by simp at hc2; omega
        subst hj5
        refine h ys hyl (fun x => ?_)
        rw [hy]
        constructor
        · rintro ⟨i, h1, rfl, h4⟩; exact (he i h1).1 h4
        · rintro ⟨r, h1, h2, rfl⟩
          have hch := (hv r h1).2.2.2.1 h2
          obtain ⟨m, hm⟩ := Int.eq_ofNat_of_zero_le hch.1
          exact ⟨m, by omega, hm, (he m (by omega)).2 ⟨r, h1, h2, hm⟩⟩
  · constructor
    · intro hh
      have : i = 0 ∨ i = 1 ∨ i = 2 ∨ i = 3 ∨ i = 4 := by omega
      rcases this with rfl | rfl | rfl | rfl | rfl <;> simp at hh
    · rintro ⟨r, h1, _⟩; simp at h1

/-- the colours -/
def Co (cols : List Int) : Prop := cols.length = 5 ∧ ∀ x, x ∈ cols → x = 0 ∨ x = 1 ∨ x = 2
theorem co_set {cols : List Int} {i : Nat} {v : Int} (h : Co cols) (hv : v = 0 ∨ v = 1 ∨ v = 2) : Co (cols.set i v) := ⟨by rw [List.length_set]; exact h.1, fun x hx => by
  rcases List.mem_or_eq_of_mem_set hx with hx | rfl
  · exact h.2 x hx
  · exact hv⟩
/-- what a visit of c does to the colours -/
structure Vi (cs : List (List GRule)) (c : Nat) (cols : List Int) (ok : Bool) (cols' : List Int) : Prop where
  co : Co cols'
  black : ∀ i : Nat, cols[i]? = some 2 → cols'[i]? = some 2
  grey : ∀ i : Nat, cols'[i]? = some 1 ↔ cols[i]? = some 1
  white : cols'.count 0 ≤ cols.count 0
  good : ok = true → (∀ i : Nat, cols[i]? = some 2 → Sf cs i) → (∀ i : Nat, cols'[i]? = some 2 → Sf cs i) ∧ (c < cs.length → cols'[c]? = some 2)
  bad : ok = false → (∀ g : Nat, cols[g]? = some 1 → Wy cs g c) → ∃ i, i < cs.length ∧ ¬ Sf cs i

theorem count_le5 {cols : List Int} (h : cols.length = 5) : cols.count 0 ≤ 5 := by have := List.count_le_length (a := (0 : Int)) (l := cols); omega
theorem S_visitR {cs : List (List GRule)} (ht : Tw cs) : ∀ (n c : Nat) (cols : List Int) (κ : Bool × List Int → Prop), Co cols → cols.count 0 < n →
    (∀ ok cols', Vi cs c cols ok cols' → κ (ok, cols')) → R_impl_visitCalls n cs (c : Int) cols κ
  | 0, c, cols, κ, hco, hw, h => by omega
  | n + 1, c, cols, κ, hco, hw, h => by
    have hn5 := ht.1
    show B_impl_visitCalls (R_impl_visitCalls n) cs (c : Int) cols κ
    unfold B_impl_visitCalls
    refine ifW_of (fun hx => h _ _ ⟨hco, fun i hi => hi, fun i => Iff.rfl, Nat.le_refl _, fun _ hb => ⟨hb, fun hlt => by simp at hx; omega⟩, fun e => by cases e⟩) (fun hx => ?_)
    have hc : c < cs.length := by simp at hx; omega
    have hcl : c < cols.length := by rw [hco.1]; omega
    refine idxW_of c rfl hcl (ifW_of (fun h1 => ?_) (fun h1 => ifW_of (fun h2 => ?_) (fun h2 => ?_)))
    · have e1 : cols[c]? = some 1 := by rw [List.getElem?_eq_getElem hcl]; simpa using h1
      exact h _ _ ⟨hco, fun i hi => hi, fun i => Iff.rfl, Nat.le_refl _, fun e => (by cases e), fun _ hg => ⟨c, hc, fun hs => wy_loop hs (hg c e1)⟩⟩
    · have e2 : cols[c]? = some 2 := by rw [List.getElem?_eq_getElem hcl]; simpa using h2
      exact h _ _ ⟨hco, fun i hi => hi, fun i => Iff.rfl, Nat.le_refl _, fun _ hb => ⟨hb, fun _ => e2⟩, fun e => by cases e⟩
    · have e0 : cols[c] = 0 := by
        have := hco.2 _ (List.getElem_mem hcl)
        simp at h1 h2; omega
      have e0' : cols[c]? = some 0 := by rw [List.getElem?_eq_getElem hcl, e0]
      have hcs : cs[c]? = some cs[c] := List.getElem?_eq_getElem hc
      have hch := ht.2 _ (List.getElem_mem hc)
      refine idxW_of c rfl hcl (idxW_of c rfl hc (S_callsIn hch.1 hch.2 (fun ys hyl hys => ?_)))
      have hca : ∀ j : Nat, Ca cs c j ↔ (j : Int) ∈ ys := fun j => by
        rw [hys]
        constructor
        · rintro ⟨c', h1, r, h2, h3⟩
          rw [hcs] at h1; cases h1
          exact ⟨r, h2, h3⟩
        · rintro ⟨r, h2, h3⟩; exact ⟨_, hcs, r, h2, h3⟩
      have hcount : (cols.set c 1).count 0 + 1 = cols.count 0 := by
        rw [List.count_set hcl]
        have : 0 < cols.count 0 := List.count_pos_iff.2 (by rw [← e0]; exact List.getElem_mem hcl)
        simp [e0]; omega
      have set1 : ∀ i : Nat, (cols.set c 1)[i]? = if i = c then some 1 else cols[i]? := fun i => by
        by_cases e : i = c
        · subst e; simp [hcl]
        · rw [List.getElem?_set_ne (by omega), if_neg e]
      refine count_loop ys.length (fun s => s.2.2) (fun k s => s.2.2 = (k : Int) ∧ k ≤ ys.length ∧ Co s.1 ∧ (∀ i : Nat, cols[i]? = some 2 → s.1[i]? = some 2) ∧ (∀ i : Nat, s.1[i]? = some 1 ↔ (cols.set c 1)[i]? = some 1) ∧ s.1.count 0 ≤ (cols.set c 1).count 0 ∧
        (s.2.1 = true → (∀ i : Nat, cols[i]? = some 2 → Sf cs i) → (∀ i : Nat, s.1[i]? = some 2 → Sf cs i) ∧ ∀ j : Nat, (j : Int) ∈ ys.take k → j < cs.length → s.1[j]? = some 2) ∧
        (s.2.1 = false → (∀ g : Nat, cols[g]? = some 1 → Wy cs g c) → ∃ i, i < cs.length ∧ ¬ Sf cs i)) (fun k s h => h.1) (fun k s h => h.2.1) ?_
        ⟨rfl, Nat.zero_le _, co_set hco (by simp), fun i hi => ?_, fun i => Iff.rfl, Nat.le_refl _, fun _ hb => ⟨fun i hi => ?_, by simp⟩, fun e => by cases e⟩
      · rintro k ⟨X, ok, _⟩ next ⟨rfl, hk, xco, xb, xg, xw, xgood, xbad⟩ hnx
        simp only at xco xb xg xw xgood xbad
        refine ifW_of (fun hlt => ?_) (fun hlt => ?_)
        · have hlt : k < ys.length := by simpa using hlt
          obtain ⟨r, hr, hr3, hrc⟩ := (hys ys[k]).1 (List.getElem_mem hlt)
          have hrv := hch.2 r hr
          have hcc := hrv.2.2.2.1 hr3
          obtain ⟨j, hj⟩ := Int.eq_ofNat_of_zero_le hcc.1
          have ej : ys[k] = (j : Int) := by omega
          have hcj : Ca cs c j := ⟨_, hcs, r, hr, hr3, hj⟩
          unfold jnW
          refine idxW_of k rfl hlt ?_
          rw [ej]
          refine S_visitR ht n j X _ xco (by omega) (fun ok' X' v => ?_)
          have fin : ∀ o : Bool, (o = true → ok = true ∧ ok' = true) → (o = false → ok = false ∨ ok' = false) → addW (k : Int) 1 (fun t93 => next (X', o, t93)) := by
            intro o ho1 ho2
            refine addW_of (by omega) (by omega) (hnx hlt _ ⟨by simp, by omega, v.co, fun i hi => v.black i (xb i hi), fun i => (v.grey i).trans (xg i), Nat.le_trans v.white xw, fun e hb => ?_, fun e hg => ?_⟩)
            · obtain ⟨g1, g2⟩ := ho1 e
              obtain ⟨q1, q2⟩ := xgood g1 hb
              obtain ⟨q3, q4⟩ := v.good g2 q1
              refine ⟨q3, fun i hi hil => ?_⟩
              rw [List.take_succ_eq_append_getElem hlt, List.mem_append, List.mem_singleton] at hi
              rcases hi with hi | hi
              · exact v.black i (q2 i hi hil)
              · have : i = j := by omega
                subst this; exact q4 hil
            · rcases ho2 e with e1 | e1
              · exact xbad e1 hg
              · refine v.bad e1 (fun g hgx => ?_)
                rw [xg, set1] at hgx
                by_cases e2 : g = c
                · subst e2; exact .one hcj
                · rw [if_neg e2] at hgx; exact .more (hg g hgx) hcj
          refine ifW_of (fun e => fin false (fun e => by cases e) (fun _ => .inr (by simpa using e))) (fun e => fin ok (fun e1 => ⟨e1, by simpa using e⟩) (fun e1 => .inl e1))
        · have hge : ys.length ≤ k := by simpa using hlt
          rw [List.take_of_length_le hge] at xgood
          have hxl : c < X.length := by rw [xco.1]; omega
          have set2 : ∀ i : Nat, (X.set c 2)[i]? = if i = c then some 2 else X[i]? := fun i => by
            by_cases e : i = c
            · subst e; simp [hxl]
            · rw [List.getElem?_set_ne (by omega), if_neg e]
          have xc1 : X[c]? = some 1 := by rw [xg, set1, if_pos rfl]
          refine idxW_of c rfl hxl ?_
          rw [Int.toNat_natCast]
          refine h _ _ ⟨co_set xco (by simp), fun i hi => ?_, fun i => ?_, ?_, fun e hb => ?_, fun e hg => xbad e hg⟩
          · rw [set2]; split
            · rfl
            · exact xb i hi
          · rw [set2]
            by_cases e : i = c
            · subst e; rw [if_pos rfl, e0']; simp
            · rw [if_neg e, xg, set1, if_neg e]
          · rw [List.count_set hxl]
            have : X[c] = 1 := by rw [List.getElem?_eq_getElem hxl] at xc1; exact Option.some.inj xc1
            simp [this]; omega
          · obtain ⟨q1, q2⟩ := xgood e hb
            have sc : Sf cs c := sf_of (fun j hj => by
              by_cases hjl : j < cs.length
              · exact q1 j (q2 j ((hca j).1 hj) hjl)
              · exact sf_out (by omega))
            refine ⟨fun i hi => ?_, fun _ => by rw [set2, if_pos rfl]⟩
            rw [set2] at hi
            by_cases e : i = c
            · subst e; exact sc
            · rw [if_neg e] at hi; exact q1 i hi
      · show (cols.set c 1)[i]? = some 2
        rw [set1]
        by_cases e : i = c
        · subst e; rw [e0'] at hi; simp at hi
        · rw [if_neg e]; exact hi
      · change (cols.set c 1)[i]? = some 2 at hi
        rw [set1] at hi
        by_cases e : i = c
        · subst e; simp at hi
        · rw [if_neg e] at hi; exact hb i hi
theorem S_acyclic {cs : List (List GRule)} {κ : Bool → Prop} (ht : Tw cs) (h1 : (∀ i, i < cs.length → Sf cs i) → κ true) (h2 : (¬ ∀ i, i < cs.length → Sf cs i) → κ false) : L_impl_acyclic cs κ := by
  unfold L_impl_acyclic
  have hn5 := ht.1
  refine count_loop cs.length (fun s => s.2) (fun k s => s.2 = (k : Int) ∧ k ≤ cs.length ∧ Co s.1 ∧ (∀ i : Nat, s.1[i]? ≠ some 1) ∧ (∀ i : Nat, s.1[i]? = some 2 → Sf cs i) ∧ (∀ i : Nat, i < k → s.1[i]? = some 2)) (fun k s h => h.1) (fun k s h => h.2.1) ?_ ⟨rfl, Nat.zero_le _, ⟨rfl, by simp⟩, fun i => ?_, fun i hi => ?_, fun i hi => by omega⟩
  · rintro k ⟨X, _⟩ next ⟨rfl, hk, xco, xg, xs, xk⟩ hn
    simp only at xco xg xs xk
    refine ifW_of (fun hc => ?_) (fun hc => ?_)
    · have hlt : k < cs.length := by simpa using hc
      refine ⟨6, S_visitR ht 6 k X _ xco (by have := count_le5 xco.1; omega) (fun ok X' v => ?_)⟩
      refine ifW_of (fun e => h2 (fun hall => ?_)) (fun e => addW_of (by omega) (by omega) (hn hlt _ ⟨by simp, by omega, v.co, fun i hi => xg i ((v.grey i).1 hi), (v.good (by simpa using e) xs).1, fun i hi => ?_⟩))
      · obtain ⟨i, hi, hns⟩ := v.bad (by simpa using e) (fun g hg => absurd hg (xg g))
        exact hns (hall i hi)
      · by_cases e2 : i = k
        · subst e2; exact (v.good (by simpa using e) xs).2 hlt
        · exact v.black i (xk i (by omega))
    · have hge : cs.length ≤ k := by simpa using hc
      exact h1 (fun i hi => xs i (xk i (by omega)))
  · have : i = 0 ∨ i = 1 ∨ i = 2 ∨ i = 3 ∨ i = 4 ∨ 5 ≤ i := by omega
    rcases this with rfl | rfl | rfl | rfl | rfl | h <;> simp
    rw [List.getElem?_eq_none (by simpa using h)]; simp
  · have : i = 0 ∨ i = 1 ∨ i = 2 ∨ i = 3 ∨ i = 4 ∨ 5 ≤ i := by omega
    rcases this with rfl | rfl | rfl | rfl | rfl | h
    · simp at hi
    · simp at hi
    · simp at hi
    · simp at hi
    · simp at hi
    · rw [List.getElem?_eq_none (by simpa using h)] at hi; cases hi


end
section


/-- all that i calls is done -/
def Rdy (cs : List (List GRule)) (D : List Bool) (i : Nat) : Prop := ∀ j, Ca cs i j → D[j]? = some true
theorem ca_lt {cs : List (List GRule)} (ht : Tg cs) {i j : Nat} (h : Ca cs i j) : i < cs.length ∧ j < cs.length := by
  obtain ⟨c, h1, r, h2, h3, h4⟩ := h
  have hm := List.mem_of_getElem? h1
  have := (ht.2 c hm).2 r h2
  exact ⟨(List.getElem?_eq_some_iff.1 h1).1, by have := this.2; omega⟩
theorem stuck_sf {cs : List (List GRule)} (ht : Tg cs) {D : List Bool} (hst : ∀ i, i < cs.length → Rdy cs D i → D[i]? = some true) {i : Nat} (hs : Sf cs i) : i < cs.length → D[i]? = some true := by
  induction hs with
  | intro x _ ih => exact fun hx => hst x hx (fun j hj => ih j hj (ca_lt ht hj).2)
theorem count_all {D : List Bool} (h : ∀ i, i < D.length → D[i]? = some true) : D.count true = D.length := by
  rw [List.count_eq_length]
  intro b hb
  obtain ⟨i, hi⟩ := List.getElem?_of_mem hb
  have := h i (List.getElem?_eq_some_iff.1 hi).1
  rw [hi] at this; exact (Option.some.inj this).symm
theorem all_count {D : List Bool} (h : D.count true = D.length) {i : Nat} (hi : i < D.length) : D[i]? = some true := by
  rw [List.getElem?_eq_getElem hi]
  exact congrArg some (List.count_eq_length.1 h _ (List.getElem_mem hi)).symm

theorem S_l8Order {s : GRuleset} {κ : List Int → Prop} (ht : Tg s.xChains) (h1 : (∀ i, i < s.xChains.length → Sf s.xChains i) → ∀ ys : List Int, ys.length = s.xChains.length → κ ys) (h2 : (¬ ∀ i, i < s.xChains.length → Sf s.xChains i) → ∀ ys : List Int, ys.length ≠ s.xChains.length → κ ys) : L_spec_l8Order s κ := by
  have hn5 := ht.1
  generalize hcs : s.xChains = cs at *
  unfold L_spec_l8Order
  rw [hcs]
  refine makeW_of cs.length rfl (by omega) (by omega) ?_
  refine count_loop cs.length (fun s => s.2.2) (fun k s => s.2.2 = (k : Int) ∧ k ≤ cs.length ∧ s.1.length = cs.length ∧ s.2.1.length = s.1.count true ∧ (∀ i : Nat, s.1[i]? = some true → Sf cs i) ∧ (k ≤ s.1.count true ∨ ∀ i, i < cs.length → Rdy cs s.1 i → s.1[i]? = some true)) (fun k s h => h.1) (fun k s h => h.2.1) ?_
    ⟨rfl, Nat.zero_le _, by simp, by simp [List.count_replicate], fun i hi => ?_, .inl (Nat.zero_le _)⟩
  · rintro k ⟨D0, ys0, _⟩ next ⟨rfl, hk, hD0, hy0, hs0, hst0⟩ hnx
    simp only at hD0 hy0 hs0 hst0
    refine ifW_of (fun hc => ?_) (fun hc => ?_)
    · have hltk : k < cs.length := by simpa using hc
      refine count_loop cs.length (fun s => s.2.2) (fun m s => s.2.2 = (m : Int) ∧ m ≤ cs.length ∧ s.1.length = cs.length ∧ s.2.1.length = s.1.count true ∧ (∀ i : Nat, s.1[i]? = some true → Sf cs i) ∧ (∀ i : Nat, D0[i]? = some true → s.1[i]? = some true) ∧ (s.1 = D0 ∨ D0.count true < s.1.count true) ∧ (∀ i, i < m → Rdy cs D0 i → s.1[i]? = some true)) (fun k s h => h.1) (fun k s h => h.2.1) ?_
        ⟨rfl, Nat.zero_le _, hD0, hy0, hs0, fun i hi => hi, .inl rfl, fun i hi => by omega⟩
      rintro m ⟨D, ys, _⟩ next2 ⟨rfl, hm, hD, hy, hs, hmono, hcnt, hrd⟩ hn2
      simp only at hD hy hs hmono hcnt hrd
      have hDc : D.count true ≤ 5 := by have := List.count_le_length (a := true) (l := D); omega
      refine ifW_of (fun hc2 => ?_) (fun hc2 => ?_)
      · have hlt : m < cs.length := by simpa using hc2
        have hmD : m < D.length := by omega
        have hch := ht.2 _ (List.getElem_mem hlt)
        have hcm : cs[m]? = some cs[m] := List.getElem?_eq_getElem hlt
        unfold jnW
        refine idxW_of m rfl hmD ?_
        refine count_loop cs[m].length (fun s => s.2) (fun j s => s.2 = (j : Int) ∧ j ≤ cs[m].length ∧ (s.1 = true ↔ (D[m] = false ∧ ∀ r, r ∈ cs[m].take j → r.xAction = 3 → D[r.xChain.toNat]? = some true))) (fun k s h => h.1) (fun k s h => h.2.1) ?_ ⟨rfl, Nat.zero_le _, by simp⟩
        rintro j ⟨fl, _⟩ next3 ⟨rfl, hj, hfl⟩ hn3
        simp only at hfl
        refine idxW_of m rfl hlt (ifW_of (fun hc3 => ?_) (fun hc3 => ?_))
        · have hltj : j < cs[m].length := by simpa using hc3
          have htk : ∀ r, r ∈ cs[m].take (j + 1) ↔ r ∈ cs[m].take j ∨ r = cs[m][j] := fun r => by
            rw [List.take_succ_eq_append_getElem hltj, List.mem_append, List.mem_singleton]
          have hrv := hch.2 _ (List.getElem_mem hltj)
          refine idxW_of m rfl hlt (idxW_of j rfl hltj (ifW_of (fun hf => ?_) (fun hf => ?_)))
          · obtain ⟨f1, f2⟩ := hfl.1 hf
            refine ifW_of (fun h3 => ?_) (fun h3 => ?_)
            · refine addW_of (by omega) (by omega) (hn3 hltj _ ⟨by simp, by omega, ⟨fun _ => ⟨f1, fun r hr hr3 => ?_⟩, fun _ => rfl⟩⟩)
              rcases (htk r).1 hr with hr | rfl
              · exact f2 r hr hr3
              · simp at h3; exact absurd hr3 h3
            · have h3' : cs[m][j].xAction = 3 := by simpa using h3
              have hcc := hrv.1.2.2.2.1 h3'
              have hc5 := hrv.2
              obtain ⟨q, hq⟩ := Int.eq_ofNat_of_zero_le hcc.1
              have hqD : q < D.length := by omega
              refine idxW_of q hq hqD (addW_of (by omega) (by omega) (hn3 hltj _ ⟨by simp, by omega, ⟨fun e => ⟨f1, fun r hr hr3 => ?_⟩, fun hh => ?_⟩⟩))
              · rcases (htk r).1 hr with hr | rfl
                · exact f2 r hr hr3
                · rw [hq, Int.toNat_natCast, List.getElem?_eq_getElem hqD]; exact congrArg some e
              · have := hh.2 _ ((htk _).2 (.inr rfl)) h3'
                rw [hq, Int.toNat_natCast, List.getElem?_eq_getElem hqD] at this
                exact Option.some.inj this
          · refine addW_of (by omega) (by omega) (hn3 hltj _ ⟨by simp, by omega, ⟨fun e => (by cases e), fun hh => ?_⟩⟩)
            have : fl = true := hfl.2 ⟨hh.1, fun r hr hr3 => hh.2 r ((htk r).2 (.inl hr)) hr3⟩
            rw [this] at hf; cases hf
        · have hge : cs[m].length ≤ j := by simpa using hc3
          rw [List.take_of_length_le hge] at hfl
          have rdy_of : ∀ D' : List Bool, Rdy cs D' m → ∀ r, r ∈ cs[m] → r.xAction = 3 → D'[r.xChain.toNat]? = some true := by
            intro D' hh r hr hr3
            have hcc := (hch.2 r hr).1.2.2.2.1 hr3
            exact hh _ ⟨_, hcm, r, hr, hr3, by omega⟩
          refine ifW_of (fun hf => ?_) (fun hf => ?_)
          · obtain ⟨f1, f2⟩ := hfl.1 hf
            have hr : Rdy cs D m := by
              rintro q ⟨c', e1, r, e2, e3, e4⟩
              rw [hcm] at e1; cases e1
              have := f2 r e2 e3
              rw [e4] at this; simpa using this
            have set1 : ∀ i : Nat, (D.set m true)[i]? = if i = m then some true else D[i]? := fun i => by
              by_cases e : i = m
              · subst e; simp [hmD]
              · rw [List.getElem?_set_ne (by omega), if_neg e]
            have hcs' : (D.set m true).count true = D.count true + 1 := by
              rw [List.count_set hmD]; simp [f1]
            refine idxW_of m rfl hmD (appW_of (by simp; omega) (addW_of (by omega) (by omega) (hn2 hlt _ ⟨by simp, by omega, by simpa using hD, ?_, fun i hi => ?_, fun i hi => ?_, .inr ?_, fun i hi hri => ?_⟩)))
            · simp only [Int.toNat_natCast, hcs']; simp; omega
            · simp only [Int.toNat_natCast, set1] at hi
              by_cases e : i = m
              · subst e; exact sf_of (fun j hj => hs j (hr j hj))
              · rw [if_neg e] at hi; exact hs i hi
            · simp only [Int.toNat_natCast, set1]; split
              · rfl
              · exact hmono i hi
            · simp only [Int.toNat_natCast, hcs']
              rcases hcnt with rfl | h
              · omega
              · omega
            · simp only [Int.toNat_natCast, set1]; split
              · rfl
              · exact hrd i (by omega) hri
          · refine addW_of (by omega) (by omega) (hn2 hlt _ ⟨by simp, by omega, hD, hy, hs, hmono, hcnt, fun i hi hri => ?_⟩)
            by_cases e : i = m
            · subst e
              rw [List.getElem?_eq_getElem hmD]
              by_cases hDm : D[i] = false
              · have : fl = true := hfl.2 ⟨hDm, fun r hr hr3 => hmono _ (rdy_of D0 hri r hr hr3)⟩
                rw [this] at hf; cases hf
              · simpa using hDm
            · exact hrd i (by omega) hri
      · have hme : m = cs.length := by simp at hc2; omega
        subst hme
        refine addW_of (by omega) (by omega) (hnx hltk _ ⟨by simp, by omega, hD, hy, hs, ?_⟩)
        rcases hcnt with rfl | hlt2
        · exact .inr (fun i hi hri => hrd i hi hri)
        · rcases hst0 with h0 | h0
          · exact .inl (by simp only; omega)
          · refine .inr (fun i hi hri => ?_)
            -- nothing can be marked in a pass over a state in which all that is ready is done
            exfalso
            have hall : ∀ i : Nat, D[i]? = some true → D0[i]? = some true := fun i hi => stuck_sf ht h0 (hs i hi) (by have := (List.getElem?_eq_some_iff.1 hi).1; omega)
            have heq : D = D0 := by
              apply List.ext_getElem?
              intro i
              by_cases hi : i < D.length
              · rw [List.getElem?_eq_getElem hi, List.getElem?_eq_getElem (show i < D0.length by omega)]
                cases hb : D[i] with
                | true =>
                  have := hall i (by rw [List.getElem?_eq_getElem hi, hb])
                  rw [List.getElem?_eq_getElem (show i < D0.length by omega)] at this
                  exact this.symm
                | false =>
                  cases hb0 : D0[i]'(by omega) with
                  | false => rfl
                  | true =>
                    have := hmono i (by rw [List.getElem?_eq_getElem (show i < D0.length by omega), hb0])
                    rw [List.getElem?_eq_getElem hi, hb] at this
                    exact this
              · rw [List.getElem?_eq_none (by omega), List.getElem?_eq_none (by omega)]
            rw [heq] at hlt2; omega
    · have hge : k = cs.length := by simp at hc; omega
      subst hge
      have hle := List.count_le_length (a := true) (l := D0)
      by_cases hcn : D0.count true = cs.length
      · exact h1 (fun i hi => hs0 i (all_count (by omega) (by omega))) ys0 (by omega)
      · refine h2 (fun hall => ?_) ys0 (by omega)
        rcases hst0 with h0 | h0
        · omega
        · exact hcn ((count_all (fun i hi => stuck_sf ht h0 (hall i (by omega)) (by omega))).trans hD0)
  · exfalso
    simp only [List.getElem?_replicate] at hi
    split at hi <;> simp at hi


end
section
open Go.Lib (decDigits)

def RsV (c : List GRule) : Prop := c.length ≤ 8 ∧ ∀ r, r ∈ c → RV r
def SV (s : GRuleset) : Prop := Tg s.xChains ∧ 1 ≤ s.xChains.length ∧ ∀ i, i < s.xChains.length → Sf s.xChains i
/-- lengths in range -/
def Bc (c : List GRule) : Prop := c.length ≤ 4294967296 ∧ ∀ r, r ∈ c → r.xTests.length ≤ 4294967296
def Bd (s : GRuleset) : Prop := s.xChains.length ≤ 4294967296 ∧ ∀ c, c ∈ s.xChains → Bc c
theorem mem_snoc {α : Type} {l : List α} {k : Nat} (h : k < l.length) (x : α) : x ∈ l.take (k + 1) ↔ x ∈ l.take k ∨ x = l[k] := by
  rw [List.take_succ_eq_append_getElem h, List.mem_append, List.mem_singleton]

theorem S_impl_RulesValid {c : List GRule} {κ : Bool → Prop} (hb : Bc c) (h : ∀ b, (b = true ↔ RsV c) → κ b) : L_impl_RulesValid c κ := by
  have hl := hb.1
  unfold L_impl_RulesValid
  refine ifW_of (fun hc => h _ ⟨fun e => (by cases e), fun hh => by have := hh.1; simp at hc; omega⟩) (fun hc0 => ?_)
  simp at hc0
  refine count_loop c.length (fun s => s) (fun k s => s = (k : Int) ∧ k ≤ c.length ∧ ∀ r, r ∈ c.take k → RV r) (fun k s h => h.1) (fun k s h => h.2.1) ?_ ⟨rfl, Nat.zero_le _, by simp⟩
  rintro k _ next ⟨rfl, hk, he⟩ hn
  refine ifW_of (fun hc => ?_) (fun hc => ?_)
  · have hlt : k < c.length := by simpa using hc
    refine idxW_of k rfl hlt (S_impl_RuleValid (hb.2 _ (List.getElem_mem hlt)) (ifW_of (fun hc2 => ?_) (fun hc2 => ?_)))
    · simp at hc2
      exact h _ ⟨fun e => (by cases e), fun hh => absurd (hh.2 _ (List.getElem_mem hlt)) hc2⟩
    · simp at hc2
      refine addW_of (by omega) (by omega) (hn hlt _ ⟨by omega, by omega, fun r hr => ?_⟩)
      rcases (mem_snoc hlt r).1 hr with hr | rfl
      · exact he r hr
      · exact hc2
  · have hge : c.length ≤ k := by simpa using hc
    rw [List.take_of_length_le hge] at he
    exact h _ ⟨fun _ => ⟨by omega, he⟩, fun _ => rfl⟩
theorem S_spec_RulesValid {c : List GRule} {κ : Bool → Prop} (hb : Bc c) (h : ∀ b, (b = true ↔ RsV c) → κ b) : L_spec_RulesValid c κ := by
  have hl := hb.1
  unfold L_spec_RulesValid
  refine count_loop c.length (fun s => s) (fun k s => s = (k : Int) ∧ k ≤ c.length ∧ ∀ r, r ∈ c.take k → RV r) (fun k s h => h.1) (fun k s h => h.2.1) ?_ ⟨rfl, Nat.zero_le _, by simp⟩
  rintro k _ next ⟨rfl, hk, he⟩ hn
  refine ifW_of (fun hc => ?_) (fun hc => ?_)
  · have hlt : k < c.length := by simpa using hc
    refine idxW_of k rfl hlt (S_spec_RuleValid (hb.2 _ (List.getElem_mem hlt)) (ifW_of (fun hc2 => ?_) (fun hc2 => ?_)))
    · simp at hc2
      exact h _ ⟨fun e => (by cases e), fun hh => absurd (hh.2 _ (List.getElem_mem hlt)) hc2⟩
    · simp at hc2
      refine addW_of (by omega) (by omega) (hn hlt _ ⟨by omega, by omega, fun r hr => ?_⟩)
      rcases (mem_snoc hlt r).1 hr with hr | rfl
      · exact he r hr
      · exact hc2
  · have hge : c.length ≤ k := by simpa using hc
    rw [List.take_of_length_le hge] at he
    exact h _ ⟨fun e => ⟨by simp at e; omega, he⟩, fun hh => by have := hh.1; simp; omega⟩

theorem S_spec_RulesetValid {s : GRuleset} {κ : Bool → Prop} (hb : Bd s) (h : ∀ b, (b = true ↔ SV s) → κ b) : L_spec_RulesetValid s κ := by
  have hn := hb.1
  have no : ¬ SV s → κ false := fun hns => h _ ⟨fun e => (by cases e), fun hh => absurd hh hns⟩
  unfold L_spec_RulesetValid
  refine count_loop s.xChains.length (fun s => s) (fun k t => t = (k : Int) ∧ k ≤ s.xChains.length ∧ ∀ c, c ∈ s.xChains.take k → RsV c ∧ ∀ r, r ∈ c → r.xChain < s.xChains.length) (fun k s h => h.1) (fun k s h => h.2.1) ?_ ⟨rfl, Nat.zero_le _, by simp⟩
  rintro k _ next ⟨rfl, hk, he⟩ hnx
  refine ifW_of (fun hc => ?_) (fun hc => ?_)
  · have hlt : k < s.xChains.length := by simpa using hc
    have hmem := List.getElem_mem hlt
    have hbc := hb.2 _ hmem
    have hbl := hbc.1
    refine idxW_of k rfl hlt (S_spec_RulesValid hbc (fun b hbv => ifW_of (fun hf => no (fun hh => ?_)) (fun hf => ?_)))
    · have : b = true := hbv.2 ⟨(hh.1.2 _ hmem).1, fun r hr => ((hh.1.2 _ hmem).2 r hr).1⟩
      rw [this] at hf; cases hf
    · have hv : RsV s.xChains[k] := hbv.1 (by simpa using hf)
      refine count_loop s.xChains[k].length (fun s => s) (fun j t => t = (j : Int) ∧ j ≤ s.xChains[k].length ∧ ∀ r, r ∈ s.xChains[k].take j → r.xChain < s.xChains.length) (fun k s h => h.1) (fun k s h => h.2.1) ?_ ⟨rfl, Nat.zero_le _, by simp⟩
      rintro j _ next2 ⟨rfl, hj, he2⟩ hn2
      refine idxW_of k rfl hlt (ifW_of (fun hc3 => ?_) (fun hc3 => ?_))
      · have hltj : j < s.xChains[k].length := by simpa using hc3
        refine idxW_of k rfl hlt (idxW_of j rfl hltj (ifW_of (fun h3 => no (fun hh => ?_)) (fun h3 => ?_)))
        · have := ((hh.1.2 _ hmem).2 _ (List.getElem_mem hltj)).2
          simp at h3; omega
        · simp at h3
          refine addW_of (by omega) (by omega) (hn2 hltj _ ⟨by omega, by omega, fun r hr => ?_⟩)
          rcases (mem_snoc hltj r).1 hr with hr | rfl
          · exact he2 r hr
          · omega
      · have hge : s.xChains[k].length ≤ j := by simpa using hc3
        rw [List.take_of_length_le hge] at he2
        refine addW_of (by omega) (by omega) (hnx hlt _ ⟨by omega, by omega, fun c hc => ?_⟩)
        rcases (mem_snoc hlt c).1 hc with hc | rfl
        · exact he c hc
        · exact ⟨hv, he2⟩
  · have hge : s.xChains.length ≤ k := by simpa using hc
    rw [List.take_of_length_le hge] at he
    unfold jnW
    refine S_l1In (ifW_of (fun h5 => ?_) (fun h5 => no (fun hh => ?_)))
    · simp at h5
      have ht : Tg s.xChains := ⟨by omega, fun c hc => ⟨(he c hc).1.1, fun r hr => ⟨(he c hc).1.2 r hr, (he c hc).2 r hr⟩⟩⟩
      refine S_l8Order ht (fun hall ys hy => h _ ⟨fun _ => ⟨ht, by omega, hall⟩, fun _ => by simp; omega⟩) (fun hall ys hy => h _ ⟨fun e => absurd (by simp at e; omega) hy, fun hh => absurd hh.2.2 hall⟩)
    · have := hh.1.1; have := hh.2.1
      simp at h5; omega
theorem S_impl_RulesetValid {s : GRuleset} {κ : Bool → Prop} (hb : Bd s) (h : ∀ b, (b = true ↔ SV s) → κ b) : L_impl_RulesetValid s κ := by
  have no : ¬ SV s → κ false := fun hns => h _ ⟨fun e => (by cases e), fun hh => absurd hh hns⟩
  unfold L_impl_RulesetValid jnW
  simp only [ifW_true]
  refine ifW_of (fun hc => no (fun hh => by have := hh.2.1; simp at hc; omega)) (fun h1 => ifW_of (fun hc => no (fun hh => by have := hh.1.1; simp at hc; omega)) (fun h5 => ?_))
  simp at h1 h5
  refine count_loop s.xChains.length (fun s => s) (fun k t => t = (k : Int) ∧ k ≤ s.xChains.length ∧ ∀ c, c ∈ s.xChains.take k → RsV c) (fun k s h => h.1) (fun k s h => h.2.1) ?_ ⟨rfl, Nat.zero_le _, by simp⟩
  rintro k _ next ⟨rfl, hk, he⟩ hnx
  refine ifW_of (fun hc => ?_) (fun hc => ?_)
  · have hlt : k < s.xChains.length := by simpa using hc
    have hmem := List.getElem_mem hlt
    refine idxW_of k rfl hlt (S_impl_RulesValid (hb.2 _ hmem) (fun b hbv => ifW_of (fun hf => no (fun hh => ?_)) (fun hf => ?_)))
    · have : b = true := hbv.2 ⟨(hh.1.2 _ hmem).1, fun r hr => ((hh.1.2 _ hmem).2 r hr).1⟩
      rw [this] at hf; cases hf
    · refine addW_of (by omega) (by omega) (hnx hlt _ ⟨by omega, by omega, fun c hc => ?_⟩)
      rcases (mem_snoc hlt c).1 hc with hc | rfl
      · exact he c hc
      · exact hbv.1 (by simpa using hf)
  · have hge : s.xChains.length ≤ k := by simpa using hc
    rw [List.take_of_length_le hge] at he
    refine count_loop s.xChains.length (fun s => s) (fun k t => t = (k : Int) ∧ k ≤ s.xChains.length ∧ ∀ c, c ∈ s.xChains.take k → ∀ r, r ∈ c → r.xChain < s.xChains.length) (fun k s h => h.1) (fun k s h => h.2.1) ?_ ⟨rfl, Nat.zero_le _, by simp⟩
    rintro m _ next2 ⟨rfl, hm, he2⟩ hn2
    refine ifW_of (fun hc2 => ?_) (fun hc2 => ?_)
    · have hlt : m < s.xChains.length := by simpa using hc2
      have hmem := List.getElem_mem hlt
      have hv := he _ hmem
      refine idxW_of m rfl hlt (S_callsIn hv.1 hv.2 (fun ys hyl hys => ?_))
      refine count_loop ys.length (fun s => s) (fun j t => t = (j : Int) ∧ j ≤ ys.length ∧ ∀ x, x ∈ ys.take j → x < s.xChains.length) (fun k s h => h.1) (fun k s h => h.2.1) ?_ ⟨rfl, Nat.zero_le _, by simp⟩
      rintro j _ next3 ⟨rfl, hj, he3⟩ hn3
      refine ifW_of (fun hc3 => ?_) (fun hc3 => ?_)
      · have hltj : j < ys.length := by simpa using hc3
        refine idxW_of j rfl hltj (ifW_of (fun hx => no (fun hh => ?_)) (fun hx => ?_))
        · obtain ⟨r, hr, _, hrc⟩ := (hys _).1 (List.getElem_mem hltj)
          have := ((hh.1.2 _ hmem).2 r hr).2
          simp at hx; omega
        · simp at hx
          refine addW_of (by omega) (by omega) (hn3 hltj _ ⟨by omega, by omega, fun x hxx => ?_⟩)
          rcases (mem_snoc hltj x).1 hxx with hxx | rfl
          · exact he3 x hxx
          · omega
      · have hgej : ys.length ≤ j := by simpa using hc3
        rw [List.take_of_length_le hgej] at he3
        refine addW_of (by omega) (by omega) (hn2 hlt _ ⟨by omega, by omega, fun c hc => ?_⟩)
        rcases (mem_snoc hlt c).1 hc with hc | rfl
        · exact he2 c hc
        · intro r hr
          by_cases h3 : r.xAction = 3
          · exact he3 _ ((hys _).2 ⟨r, hr, h3, rfl⟩)
          · have := (hv.2 r hr).2.2.2.2 h3
            omega
    · have hgem : s.xChains.length ≤ m := by simpa using hc2
      rw [List.take_of_length_le hgem] at he2
      have ht : Tg s.xChains := ⟨by omega, fun c hc => ⟨(he c hc).1, fun r hr => ⟨(he c hc).2 r hr, he2 c hc r hr⟩⟩⟩
      exact S_acyclic ht.w (fun hall => h _ ⟨fun _ => ⟨ht, by omega, hall⟩, fun _ => rfl⟩) (fun hall => h _ ⟨fun e => (by cases e), fun hh => absurd hh.2.2 hall⟩)

/-! texts -/
def chl (k : Nat) : List UInt8 := [99, 104, 97, 105, 110, 32] ++ decDigits k
def dft (s : GRuleset) : List UInt8 := if s.xAccept then [100, 101, 102, 97, 117, 108, 116, 32, 97, 99, 99, 101, 112, 116] else [100, 101, 102, 97, 117, 108, 116, 32, 100, 114, 111, 112]
end
section
open Go.Lib (decDigits)

open Classical in
/-- the rule that a line holds -/
noncomputable def rd (l : List UInt8) : Option GRule := if h : ∃ r, RV r ∧ rtx0 r = l then some h.choose else none
theorem rd_some {l : List UInt8} {r : GRule} (h : rd l = some r) : RV r ∧ rtx0 r = l := by
  unfold rd at h
  split at h
  · rename_i he
    cases h
    exact he.choose_spec
  · cases h
theorem rd_none {l : List UInt8} (h : rd l = none) : ¬ ∃ r, RV r ∧ rtx0 r = l := by
  unfold rd at h
  split at h
  · cases h
  · assumption
theorem S_impl_rd {l : List UInt8} {κ : GRule × Bool → Prop} (hl : l.length ≤ 100000000000) (h1 : ∀ r, rd l = some r → κ (r, true)) (h2 : rd l = none → κ (GRule.mk [] 0 0, false)) : L_impl_ReadRule (B l) κ := by
  cases h : rd l with
  | none => exact T_impl_ReadRule hl (h2 h) (fun r hr e => absurd ⟨r, hr, e⟩ (rd_none h))
  | some r =>
    obtain ⟨a, b⟩ := rd_some h
    have := h1 r h
    rw [← b]
    exact C_impl_ReadRule a this
theorem S_spec_rd {l : List UInt8} {κ : GRule × Bool → Prop} (hl : l.length ≤ 10000000) (h1 : ∀ r, rd l = some r → κ (r, true)) (h2 : rd l = none → κ (GRule.mk [] 0 0, false)) : L_spec_ReadRule (B l) κ := by
  cases h : rd l with
  | none => exact T_spec_ReadRule hl (h2 h) (fun r hr e => absurd ⟨r, hr, e⟩ (rd_none h))
  | some r =>
    obtain ⟨a, b⟩ := rd_some h
    have := h1 r h
    rw [← b]
    exact C_spec_ReadRule a this

/-- a rule behind the last chain -/
def addL : List (List GRule) → GRule → List (List GRule)
  | [], _ => []
  | [c], r => [c ++ [r]]
  | c :: d :: cs, r => c :: addL (d :: cs) r
theorem addL_len : ∀ (cs : List (List GRule)) (r : GRule), (addL cs r).length = cs.length
  | [], _ => rfl
  | [c], _ => rfl
  | c :: d :: cs, r => by simp only [addL, List.length_cons, addL_len (d :: cs) r]
theorem addL_set : ∀ (cs : List (List GRule)) (r : GRule) (n : Nat) (h : n + 1 = cs.length), addL cs r = cs.set n (cs[n]'(by omega) ++ [r])
  | [], _, n, h => by simp at h
  | [c], r, n, h => by
    have : n = 0 := by simpa using h
    subst this; rfl
  | c :: d :: cs, r, 0, h => by simp at h
  | c :: d :: cs, r, n + 1, h => by
    simp only [addL, List.set_cons_succ, List.getElem_cons_succ]
    rw [addL_set (d :: cs) r n (by simpa using h)]

open Classical in
/-- no call leads back -/
noncomputable def acyB (cs : List (List GRule)) : Bool := decide (∀ i, i < cs.length → Sf cs i)
/-- what the reference makes of a line behind the first -/
noncomputable def sStep (cs : List (List GRule)) (l : List UInt8) : Option (List (List GRule)) :=
  if l = chl cs.length then some (cs ++ [[]]) else
  match rd l with
  | none => none
  | some r => if cs = [] then none else some (addL cs r)
/-- what the program makes of it -/
noncomputable def iStep (cs : List (List GRule)) (l : List UInt8) : Option (List (List GRule)) :=
  if cs.length ≠ 5 ∧ l = chl cs.length then some (cs ++ [[]]) else
  match rd l with
  | none => none
  | some r => if cs = [] then none else if (cs.getLast?.getD []).length = 8 then none else if acyB (addL cs r) then some (addL cs r) else none
noncomputable def sFold : List (List GRule) → List (List UInt8) → Option (List (List GRule))
  | cs, [] => some cs
  | cs, l :: ls => match sStep cs l with
    | none => none
    | some cs' => sFold cs' ls
noncomputable def iFold : List (List GRule) → List (List UInt8) → Option (List (List GRule))
  | cs, [] => some cs
  | cs, l :: ls => match iStep cs l with
    | none => none
    | some cs' => iFold cs' ls

/-- chains that only grow -/
def Le (cs ds : List (List GRule)) : Prop := cs.length ≤ ds.length ∧ ∀ (i : Nat) (c : List GRule), cs[i]? = some c → ∃ e, ds[i]? = some (c ++ e)
theorem Le.refl (cs : List (List GRule)) : Le cs cs := ⟨Nat.le_refl _, fun i c h => ⟨[], by simpa using h⟩⟩
theorem Le.trans {a b c : List (List GRule)} (h : Le a b) (h' : Le b c) : Le a c := ⟨Nat.le_trans h.1 h'.1, fun i x hx => by
  obtain ⟨e, he⟩ := h.2 i x hx
  obtain ⟨e', he'⟩ := h'.2 i _ he
  exact ⟨e ++ e', by rw [he', List.append_assoc]⟩⟩
theorem le_snoc (cs : List (List GRule)) : Le cs (cs ++ [[]]) := ⟨by simp, fun i c h => ⟨[], by
  rw [List.getElem?_append_left (List.getElem?_eq_some_iff.1 h).1]; simpa using h⟩⟩
theorem le_addL (cs : List (List GRule)) (r : GRule) : Le cs (addL cs r) := by
  refine ⟨by rw [addL_len]; exact Nat.le_refl _, fun i c h => ?_⟩
  have hi := (List.getElem?_eq_some_iff.1 h).1
  rw [addL_set cs r (cs.length - 1) (by omega)]
  by_cases e : i = cs.length - 1
  · subst e
    rw [List.getElem?_set_self hi]
    have : cs[cs.length - 1] = c := (List.getElem?_eq_some_iff.1 h).2
    exact ⟨[r], by rw [this]⟩
  · rw [List.getElem?_set_ne (by omega)]
    exact ⟨[], by simpa using h⟩
theorem le_sStep {cs ds : List (List GRule)} {l : List UInt8} (h : sStep cs l = some ds) : Le cs ds := by
  unfold sStep at h
  split at h
  · cases h; exact le_snoc cs
  · split at h
    · cases h
    · split at h
      · cases h
      · cases h; exact le_addL _ _
theorem le_sFold : ∀ {ls : List (List UInt8)} {cs ds : List (List GRule)}, sFold cs ls = some ds → Le cs ds
  | [], cs, ds, h => by cases h; exact Le.refl _
  | l :: ls, cs, ds, h => by
    simp only [sFold] at h
    split at h
    · cases h
    · rename_i cs' h1
      exact (le_sStep h1).trans (le_sFold h)
theorem ca_le {cs ds : List (List GRule)} (h : Le cs ds) {i j : Nat} (hc : Ca cs i j) : Ca ds i j := by
  obtain ⟨c, h1, r, h2, h3⟩ := hc
  obtain ⟨e, he⟩ := h.2 i c h1
  exact ⟨_, he, r, List.mem_append.2 (.inl h2), h3⟩
theorem sf_le {cs ds : List (List GRule)} (h : Le cs ds) {i : Nat} (hs : Sf ds i) : Sf cs i := by
  induction hs with
  | intro x _ ih => exact sf_of (fun j hj => ih j (ca_le h hj))
open Classical in
theorem acyB_le {cs ds : List (List GRule)} (h : Le cs ds) (hd : ∀ i, i < ds.length → Sf ds i) : acyB cs = true := by
  unfold acyB
  exact decide_eq_true (fun i hi => sf_le h (hd i (Nat.lt_of_lt_of_le hi h.1)))
/-- a chain's heading is no rule -/
theorem chl_rd (k : Nat) : rd (chl k) = none := by
  cases h : rd (chl k) with
  | none => rfl
  | some r =>
    obtain ⟨h1, h2⟩ := rd_some h
    exfalso
    simp only [rtx0, hd, chl, List.append_assoc] at h2
    rcases five h1.2.1 h1.2.2.1 with e | e | e | e | e <;> simp [aw, e] at h2
theorem sStep_iStep {cs ds : List (List GRule)} {l : List UInt8} (h : iStep cs l = some ds) : sStep cs l = some ds := by
  unfold iStep at h
  unfold sStep
  split at h
  · rename_i hc
    rw [if_pos hc.2]; exact h
  · split at h
    · cases h
    · rename_i r hr
      have hne : l ≠ chl cs.length := fun e => by rw [e, chl_rd] at hr; cases hr
      rw [if_neg hne]
      split at h
      · cases h
      · split at h
        · cases h
        · split at h
          · cases h; rename_i h0 _ _; rw [if_neg h0]
          · cases h
theorem iStep_sStep {cs ds es : List (List GRule)} {l : List UInt8} (h : sStep cs l = some ds) (hle : Le ds es) (ht : Tw es) (hs : ∀ i, i < es.length → Sf es i) : iStep cs l = some ds := by
  unfold sStep at h
  unfold iStep
  split at h
  · rename_i hc
    cases h
    have h1 := hle.1
    have h2 := ht.1
    simp at h1
    rw [if_pos ⟨by omega, hc⟩]
  · rename_i hc
    rw [if_neg (fun hh => hc hh.2)]
    split at h
    · cases h
    · rename_i r hr
      split at h
      · cases h
      · rename_i h0
        cases h
        rw [if_neg h0]
        have hpos : 0 < cs.length := by cases cs with
          | nil => exact absurd rfl h0
          | cons _ _ => simp
        have hlt : cs.length - 1 < cs.length := by omega
        have h8 : (cs.getLast?.getD []).length ≠ 8 := by
          intro e8
          have hl : cs.getLast?.getD [] = cs[cs.length - 1] := by
            rw [List.getLast?_eq_getElem?, List.getElem?_eq_getElem hlt]; rfl
          have hset := addL_set cs r (cs.length - 1) (by omega)
          have hg : (addL cs r)[cs.length - 1]? = some (cs[cs.length - 1] ++ [r]) := by rw [hset, List.getElem?_set_self hlt]
          obtain ⟨e, he⟩ := hle.2 _ _ hg
          have := (ht.2 _ (List.mem_of_getElem? he)).1
          rw [hl] at e8
          simp at this; omega
        rw [if_neg h8, if_pos (acyB_le hle hs)]
theorem sFold_iFold : ∀ {ls : List (List UInt8)} {cs ds : List (List GRule)}, iFold cs ls = some ds → sFold cs ls = some ds
  | [], cs, ds, h => h
  | l :: ls, cs, ds, h => by
    simp only [iFold] at h
    split at h
    · cases h
    · rename_i cs' h1
      simp only [sFold, sStep_iStep h1]
      exact sFold_iFold h
theorem iFold_sFold : ∀ {ls : List (List UInt8)} {cs ds : List (List GRule)}, sFold cs ls = some ds → Tw ds → (∀ i, i < ds.length → Sf ds i) → iFold cs ls = some ds
  | [], cs, ds, h, _, _ => h
  | l :: ls, cs, ds, h, ht, hs => by
    simp only [sFold] at h
    split at h
    · cases h
    · rename_i cs' h1
      simp only [iFold, iStep_sStep h1 (le_sFold h) ht hs]
      exact iFold_sFold h ht hs


end
section

/-- sizes that are taken away one by one -/
theorem szG_loop {α : Type} (P : α → Prop) (a : List α) (left : Int) (h0 : 0 ≤ left) (h1 : left ≤ 1048576) (hl : a.length ≤ 4294967296) {κ : Int → Prop} (hκ : ∀ r, 0 ≤ r → r ≤ left → (∀ x, x ∈ a → P x) → κ r) (F : (Int × Int → Prop) → Int × Int → Prop)
    (hF : ∀ (nx : Int × Int → Prop) (r : Int) (t : Nat), 0 ≤ r → r ≤ 1048576 → t ≤ a.length → (∀ x, a[t]? = some x → ∀ r', 0 ≤ r' → r' ≤ r → P x → nx (r', (t : Int) + 1)) → (¬ t < a.length → κ r) → F nx (r, (t : Int))) : loopW F (left, 0) := by
  refine count_loop a.length (fun s => s.2) (fun k s => s.2 = (k : Int) ∧ k ≤ a.length ∧ 0 ≤ s.1 ∧ s.1 ≤ left ∧ ∀ x, x ∈ a.take k → P x) (fun k s h => h.1) (fun k s h => h.2.1) ?_ ⟨rfl, Nat.zero_le _, h0, Int.le_refl _, by simp⟩
  rintro k ⟨r, t⟩ next ⟨rfl, hk, hr0, hr1, hP⟩ hn
  simp only at hr0 hr1 hP
  refine hF _ _ _ hr0 (by omega) hk (fun x hx r' g0 g1 hp => ?_) (fun hge => hκ r hr0 hr1 ?_)
  · obtain ⟨e1, e2⟩ := List.getElem?_eq_some_iff.1 hx
    refine hn e1 _ ⟨by simp, by omega, g0, by simp only; omega, fun y hy => ?_⟩
    rw [List.take_succ_eq_append_getElem e1, List.mem_append, List.mem_singleton] at hy
    rcases hy with hy | rfl
    · exact hP y hy
    · rw [e2]; exact hp
  · have : k = a.length := by omega
    rw [this, List.take_length] at hP
    exact hP
/-- equality with itself, element by element -/
theorem eqS_loop {α : Type} (a : List α) (hl : a.length ≤ 4294967296) {κ : Bool → Prop} (hκ : κ true) (F : (Int → Prop) → Int → Prop)
    (hF : ∀ (nx : Int → Prop) (t : Nat), t ≤ a.length → (∀ x, a[t]? = some x → x ∈ a ∧ nx ((t : Int) + 1)) → (¬ t < a.length → κ true) → F nx (t : Int)) : loopW F 0 := by
  refine count_loop a.length (fun s => s) (fun k s => s = (k : Int) ∧ k ≤ a.length) (fun k s h => h.1) (fun k s h => h.2) ?_ ⟨rfl, Nat.zero_le _⟩
  rintro k _ next ⟨rfl, hk⟩ hn
  refine hF _ _ hk (fun x hx => ?_) (fun _ => hκ)
  obtain ⟨e1, e2⟩ := List.getElem?_eq_some_iff.1 hx
  exact ⟨e2 ▸ List.getElem_mem e1, hn e1 _ ⟨by omega, by omega⟩⟩
end
section
open Go.Lib (decDigits)

/-- lengths of an argument that is not too big -/
def Br (r : GRule) : Prop := r.xTests.length ≤ 1048576
def Bq (c : List GRule) : Prop := c.length ≤ 1048576 ∧ ∀ r, r ∈ c → Br r
def Bs (cs : List (List GRule)) : Prop := cs.length ≤ 1048576 ∧ ∀ c, c ∈ cs → Bq c
theorem Bs.bd {s : GRuleset} (h : Bs s.xChains) : Bd s := ⟨by have := h.1; omega, fun c hc => ⟨by have := (h.2 c hc).1; omega, fun r hr => by have : r.xTests.length ≤ 1048576 := (h.2 c hc).2 r hr; omega⟩⟩
theorem SV.bs {s : GRuleset} (h : SV s) : Bs s.xChains := ⟨by have := h.1.1; omega, fun c hc => ⟨by have := (h.1.2 c hc).1; omega, fun r hr => by have : r.xTests.length ≤ 6 := ((h.1.2 c hc).2 r hr).1.1.2; unfold Br; omega⟩⟩
/-! marks -/
/-! lines -/
/-- texts that are not too long -/
def Bt (a : List ByteArray) : Prop := a.length ≤ 1048576 ∧ ∀ x, x ∈ a → x.size ≤ 1048576
theorem S_szStringS {a : List ByteArray} {left : Int} {κ : Int → Prop} (hl : a.length ≤ 9223372036854775807) (hs : ∀ x, x ∈ a → x.size ≤ 9223372036854775807) (h0 : 0 ≤ left) (h1 : left ≤ 1048576) (hn : κ (-1)) (h : ∀ r, 0 ≤ r → r ≤ left → Bt a → κ r) : L_laws_szStringS a left κ := by
  unfold L_laws_szStringS
  refine subW_of (by omega) (by omega) (ifW_of (fun _ => hn) (fun hc => ?_))
  simp at hc
  refine szG_loop (fun x => x.size ≤ 1048576) a _ (by omega) (by omega) (by omega) (fun r a b c => h r a (by omega) ⟨by omega, c⟩) _ (fun nx r t g0 g1 g2 ht hf => ?_)
  refine ifW_of (fun hc => ?_) (fun hc => hf (by simpa using hc))
  have hlt : t < a.length := by simpa using hc
  have := hs _ (List.getElem_mem hlt)
  refine idxW_of t rfl hlt (subW_of (by omega) (by omega) (ifW_of (fun _ => hn) (fun hc => addW_of (by omega) (by omega) ?_)))
  simp at hc
  exact ht a[t] (by simp [hlt]) _ (by omega) (by omega) (by omega)
theorem toStringS_of {a : List ByteArray} {κ : List ByteArray → Prop} (hl : a.length ≤ 4294967296) (h : κ a) : L_laws_toStringS a κ := by
  unfold L_laws_toStringS
  refine makeW_of a.length rfl (by omega) (by omega) (copy_loop a id hl (fun x ψ => ψ x) (fun x ψ _ hh => hh) (by simpa using h) (by simp) _ (fun nx xs t hh => hh))
theorem eqStringS_self {a : List ByteArray} {κ : Bool → Prop} (hl : a.length ≤ 4294967296) (h : κ true) : L_laws_eqStringS a a κ := by
  unfold L_laws_eqStringS
  refine ifW_of (fun hc => by simp at hc) (fun _ => eqS_loop a hl h _ (fun nx t g ht hf => ifW_of (fun hc => ?_) (fun hc => hf (by simpa using hc))))
  have hlt : t < a.length := by simpa using hc
  obtain ⟨hm, hn⟩ := ht a[t] (by simp [hlt])
  refine idxW_of t rfl hlt (idxW_of t rfl hlt (ifW_of (fun hc => by simp at hc) (fun _ => addW_of (by omega) (by omega) hn)))
end
section
open Go.Lib (decDigits)

/-! texts of rules tell the rules -/
/-! states of the readers -/
def dAcc : List UInt8 := [100, 101, 102, 97, 117, 108, 116, 32, 97, 99, 99, 101, 112, 116]
def dDrop : List UInt8 := [100, 101, 102, 97, 117, 108, 116, 32, 100, 114, 111, 112]
def dfl (l : List UInt8) : Option Bool := if l = dAcc then some true else if l = dDrop then some false else none
/-- the program behind lines: its state, the chains, the default -/
noncomputable def iState : List (List UInt8) → Option (Int × List (List GRule) × Bool)
  | [] => some (0, [], false)
  | l :: ls => match dfl l with
    | none => none
    | some a => match iFold [] ls with
      | none => none
      | some cs => some (if ls = [] then 1 else 2, cs, a)
/-- the reference behind lines -/
noncomputable def sState : List (List UInt8) → Option (List (List GRule) × Bool)
  | [] => none
  | l :: ls => match dfl l with
    | none => none
    | some a => match sFold [] ls with
      | none => none
      | some cs => some (cs, a)
theorem iFold_app : ∀ (cs : List (List GRule)) (a b : List (List UInt8)), iFold cs (a ++ b) = match iFold cs a with
    | none => none
    | some ds => iFold ds b
  | cs, [], b => rfl
  | cs, l :: a, b => by
    simp only [List.cons_append, iFold]
    cases iStep cs l with
    | none => rfl
    | some ds => exact iFold_app ds a b
theorem sFold_app : ∀ (cs : List (List GRule)) (a b : List (List UInt8)), sFold cs (a ++ b) = match sFold cs a with
    | none => none
    | some ds => sFold ds b
  | cs, [], b => rfl
  | cs, l :: a, b => by
    simp only [List.cons_append, sFold]
    cases sStep cs l with
    | none => rfl
    | some ds => exact sFold_app ds a b
theorem iState_app {p q : List (List UInt8)} (h : iState (p ++ q) ≠ none) : iState p ≠ none := by
  cases p with
  | nil => simp [iState]
  | cons l p =>
    simp only [List.cons_append, iState] at h ⊢
    cases hd : dfl l with
    | none => rw [hd] at h; simp at h
    | some a =>
      rw [hd, iFold_app] at h
      cases hf : iFold [] p with
      | none => rw [hf] at h; simp at h
      | some cs => simp
theorem iState_take {ls : List (List UInt8)} {k n : Nat} (h : iState (ls.take n) ≠ none) (hk : k ≤ n) : iState (ls.take k) ≠ none := by
  have e : ls.take n = ls.take k ++ (ls.take n).drop k := by
    have := List.take_append_drop k (ls.take n)
    rw [List.take_take, Nat.min_eq_left hk] at this
    exact this.symm
  rw [e] at h
  exact iState_app h
/-- what holds of the program's chains all the time -/
theorem tw_addL {cs : List (List GRule)} {r : GRule} (h : Tw cs) (h0 : cs ≠ []) (h8 : (cs.getLast?.getD []).length ≠ 8) (hr : RV r) : Tw (addL cs r) := by
  have hpos : 0 < cs.length := by cases cs with
    | nil => exact absurd rfl h0
    | cons _ _ => simp
  have hlt : cs.length - 1 < cs.length := by omega
  refine ⟨by rw [addL_len]; exact h.1, fun c hc => ?_⟩
  rw [addL_set cs r (cs.length - 1) (by omega)] at hc
  rcases List.mem_or_eq_of_mem_set hc with hc | rfl
  · exact h.2 c hc
  · have hl : cs.getLast?.getD [] = cs[cs.length - 1] := by
      rw [List.getLast?_eq_getElem?, List.getElem?_eq_getElem hlt]; rfl
    rw [hl] at h8
    obtain ⟨a, b⟩ := h.2 _ (List.getElem_mem hlt)
    refine ⟨by simp; omega, fun x hx => ?_⟩
    rcases List.mem_append.1 hx with hx | hx
    · exact b x hx
    · rw [List.mem_singleton] at hx; subst hx; exact hr
theorem sf_snoc {cs : List (List GRule)} (e : List (List GRule)) (he : ∀ c, c ∈ e → c = []) {i : Nat} (hs : Sf cs i) : Sf (cs ++ e) i := by
  induction hs with
  | intro x _ ih =>
    refine sf_of (fun j hj => ih j ?_)
    obtain ⟨c, h1, r, h2, h3⟩ := hj
    by_cases hx : x < cs.length
    · rw [List.getElem?_append_left hx] at h1; exact ⟨c, h1, r, h2, h3⟩
    · rw [List.getElem?_append_right (by omega)] at h1
      have := he c (List.mem_of_getElem? h1)
      subst this; simp at h2
theorem sf_snoc' {cs : List (List GRule)} (hs : ∀ i, i < cs.length → Sf cs i) (e : List (List GRule)) (he : ∀ c, c ∈ e → c = []) : ∀ i, i < (cs ++ e).length → Sf (cs ++ e) i := by
  intro i _
  by_cases hi : i < cs.length
  · exact sf_snoc e he (hs i hi)
  · exact sf_snoc e he (sf_out (by omega))
open Classical in
theorem iStep_ok {cs ds : List (List GRule)} {l : List UInt8} (h : iStep cs l = some ds) (ht : Tw cs) (hs : ∀ i, i < cs.length → Sf cs i) : Tw ds ∧ (∀ i, i < ds.length → Sf ds i) ∧ ds ≠ [] := by
  unfold iStep at h
  split at h
  · rename_i hc
    cases h
    refine ⟨⟨by have := ht.1; simp; omega, fun c hc' => ?_⟩, sf_snoc' hs [[]] (by simp), by simp⟩
    rcases List.mem_append.1 hc' with hc' | hc'
    · exact ht.2 c hc'
    · simp at hc'; subst hc'; simp
  · split at h
    · cases h
    · rename_i r hr
      split at h
      · cases h
      · split at h
        · cases h
        · split at h
          · cases h
            rename_i h0 h8 ha
            refine ⟨tw_addL ht h0 h8 (rd_some hr).1, of_decide_eq_true ha, fun e => h0 ?_⟩
            have := congrArg List.length e
            rw [addL_len] at this
            exact List.eq_nil_of_length_eq_zero (by simpa using this)
          · cases h
theorem iFold_ok : ∀ {ls : List (List UInt8)} {cs ds : List (List GRule)}, iFold cs ls = some ds → Tw cs → (∀ i, i < cs.length → Sf cs i) → Tw ds ∧ (∀ i, i < ds.length → Sf ds i) ∧ (ls ≠ [] → ds ≠ [])
  | [], cs, ds, h, ht, hs => by cases h; exact ⟨ht, hs, fun h => absurd rfl h⟩
  | l :: ls, cs, ds, h, ht, hs => by
    simp only [iFold] at h
    split at h
    · cases h
    · rename_i cs' h1
      obtain ⟨a, b, c⟩ := iStep_ok h1 ht hs
      obtain ⟨x, y, z⟩ := iFold_ok h a b
      refine ⟨x, y, fun _ => ?_⟩
      cases ls with
      | nil => cases h; exact c
      | cons _ _ => exact z (by simp)
theorem tw_nil : Tw [] := ⟨by simp, fun c hc => by simp at hc⟩
theorem iState_snoc (p : List (List UInt8)) (l : List UInt8) : iState (p ++ [l]) = match iState p with
    | none => none
    | some (st, cs, a) => if st = 0 then (dfl l).map (fun a => (1, [], a)) else (iStep cs l).map (fun ds => (2, ds, a)) := by
  cases p with
  | nil =>
    simp only [List.nil_append, iState, iFold, if_true]
    cases dfl l <;> rfl
  | cons x p =>
    simp only [List.cons_append, iState]
    cases dfl x with
    | none => rfl
    | some a =>
      simp only [iFold_app]
      cases iFold [] p with
      | none => rfl
      | some cs =>
        simp only [iFold]
        have hne : p ++ [l] ≠ [] := by simp
        rw [if_neg hne]
        have h0 : (if p = [] then (1 : Int) else 2) ≠ 0 := by split <;> decide
        rw [if_neg h0]
        cases iStep cs l <;> rfl
/-- a state that the program reaches -/
theorem iState_inv {p : List (List UInt8)} {st : Int} {cs : List (List GRule)} {a : Bool} (h : iState p = some (st, cs, a)) : Tw cs ∧ (∀ i, i < cs.length → Sf cs i) ∧ (st = 0 ∧ cs = [] ∧ a = false ∧ p = [] ∨ st = 1 ∧ cs = [] ∨ st = 2 ∧ cs ≠ []) := by
  cases p with
  | nil => simp only [iState, Option.some.injEq, Prod.mk.injEq] at h; obtain ⟨rfl, rfl, rfl⟩ := h; exact ⟨tw_nil, fun i hi => by simp at hi, .inl ⟨rfl, rfl, rfl, rfl⟩⟩
  | cons l p =>
    simp only [iState] at h
    split at h
    · cases h
    · split at h
      · cases h
      · rename_i ds hf
        simp only [Option.some.injEq, Prod.mk.injEq] at h
        obtain ⟨rfl, rfl, rfl⟩ := h
        obtain ⟨x, y, z⟩ := iFold_ok hf tw_nil (fun i hi => by simp at hi)
        refine ⟨x, y, ?_⟩
        by_cases hp : p = []
        · subst hp
          cases hf
          right; left; simp
        · right; right
          rw [if_neg hp]
          exact ⟨rfl, z hp⟩
theorem dfl_eq (l : List UInt8) : decide (B l = ByteArray.mk #[100, 101, 102, 97, 117, 108, 116, 32, 97, 99, 99, 101, 112, 116]) = decide (l = dAcc) := B_dec l dAcc
theorem dfl_eq2 (l : List UInt8) : decide (B l = ByteArray.mk #[100, 101, 102, 97, 117, 108, 116, 32, 100, 114, 111, 112]) = decide (l = dDrop) := B_dec l dDrop
theorem S_takeChain {st : Int} {cs : List (List GRule)} {acc : Bool} {l : List UInt8} {κ : Bool × List (List GRule) → Prop} (hl : cs.length ≤ 1000000) (h1 : cs.length ≠ 5 ∧ l = chl cs.length → κ (true, cs ++ [[]])) (h2 : ¬ (cs.length ≠ 5 ∧ l = chl cs.length) → κ (false, cs)) : L_impl_reader_takeChain st cs acc (B l) κ := by
  unfold L_impl_reader_takeChain jnW L_impl_chainLine
  have hd := dec_len 6 cs.length (by omega)
  refine ifW_of (fun hc => ifW_of (fun _ => h2 (fun hh => hh.1 (by simp at hc; omega))) (fun hx => by simp at hx)) (fun hc => ?_)
  simp at hc
  refine S_itoa (by omega) (by omega) (catW_B (l := [99, 104, 97, 105, 110, 32]) (by simp; omega) ?_)
  rw [Int.toNat_natCast]
  show ifW (!decide (B l = B (chl cs.length))) _ _
  rw [B_dec]
  refine ifW_of (fun hx => h2 (fun hh => ?_)) (fun hx => appW_of (by simp; omega) (h1 ⟨by omega, ?_⟩))
  · rw [hh.2] at hx; simp at hx
  · simpa using hx
open Classical in
theorem S_takeRule {st : Int} {cs : List (List GRule)} {acc : Bool} {l : List UInt8} {κ : Bool × List (List GRule) → Prop} (hl : l.length ≤ 100000000) (ht : Tw cs) (h0 : cs ≠ []) (hne : ¬ (cs.length ≠ 5 ∧ l = chl cs.length)) (h1 : ∀ ds, iStep cs l = some ds → κ (true, ds)) (h2 : iStep cs l = none → ∀ ds, κ (false, ds)) : L_impl_reader_takeRule st cs acc (B l) κ := by
  have hpos : 0 < cs.length := by cases cs with
    | nil => exact absurd rfl h0
    | cons _ _ => simp
  have hlt : cs.length - 1 < cs.length := by omega
  have h5 := ht.1
  have hgl : cs.getLast?.getD [] = cs[cs.length - 1] := by
    rw [List.getLast?_eq_getElem?, List.getElem?_eq_getElem hlt]; rfl
  have hc8 := (ht.2 _ (List.getElem_mem hlt)).1
  have hi : ((cs.length : Int) - 1).toNat = cs.length - 1 := by omega
  unfold L_impl_reader_takeRule
  unfold iStep at h1 h2
  rw [if_neg hne] at h1 h2
  refine S_impl_rd (by omega) (fun r hr => ?_) (fun hr => ?_)
  · rw [hr] at h1 h2
    simp only [if_neg h0] at h1 h2
    refine subW_of (by omega) (by omega) (idxW_of (cs.length - 1) (by omega) hlt (ifW_of (fun hx => by simp at hx) (fun _ => ?_)))
    refine ifW_of (fun hx => ?_) (fun hx => ?_)
    · have e8 : (cs.getLast?.getD []).length = 8 := by rw [hgl]; simp at hx; omega
      rw [if_pos e8] at h2
      exact h2 rfl _
    · have e8 : (cs.getLast?.getD []).length ≠ 8 := by rw [hgl]; simp at hx; omega
      rw [if_neg e8] at h1 h2
      have hset := addL_set cs r (cs.length - 1) (by omega)
      unfold jnW
      rw [hi, ← hset]
      refine appW_of (by simp; omega) (S_acyclic (tw_addL ht h0 e8 (rd_some hr).1) (fun ha => ?_) (fun ha => ?_))
      · have : acyB (addL cs r) = true := decide_eq_true ha
        rw [if_pos this] at h1
        exact h1 _ rfl
      · have : ¬ acyB (addL cs r) = true := fun hh => ha (of_decide_eq_true hh)
        rw [if_neg this] at h2
        exact h2 rfl _
  · rw [hr] at h2
    refine subW_of (by omega) (by omega) (idxW_of (cs.length - 1) (by omega) hlt (ifW_of (fun _ => h2 rfl _) (fun hx => by simp at hx)))
/-- one line into the program's reader -/
theorem S_take {p : List (List UInt8)} {l : List UInt8} {st : Int} {cs : List (List GRule)} {a : Bool} {κ : Bool × Int × List (List GRule) × Bool → Prop} (hl : l.length ≤ 100000000) (hp : iState p = some (st, cs, a))
    (h1 : ∀ s, iState (p ++ [l]) = some s → κ (true, s)) (h2 : iState (p ++ [l]) = none → ∀ s, κ (false, s)) : L_impl_reader_take st cs a (B l) κ := by
  obtain ⟨ht, hs, hst⟩ := iState_inv hp
  rw [iState_snoc, hp] at h1 h2
  simp only at h1 h2
  unfold L_impl_reader_take
  rcases hst with ⟨rfl, rfl, rfl, rfl⟩ | ⟨rfl, rfl⟩ | ⟨rfl, hne⟩
  · simp only [if_true] at h1 h2
    refine ifW_of (fun _ => ?_) (fun hx => by simp at hx)
    unfold jnW
    rw [dfl_eq, dfl_eq2]
    unfold dfl at h1 h2
    refine ifW_of (fun hc => ?_) (fun hc => ?_)
    · have e : l = dAcc := by simpa using hc
      rw [hc]
      rw [if_pos e] at h1
      exact h1 _ rfl
    · have e : l ≠ dAcc := by simpa using hc
      rw [hc]
      rw [if_neg e] at h1 h2
      by_cases e2 : l = dDrop
      · rw [if_pos e2] at h1
        rw [decide_eq_true e2]
        exact h1 _ rfl
      · rw [if_neg e2] at h2
        rw [decide_eq_false e2]
        exact h2 rfl _
  · have n1 : ¬ (1 : Int) = 0 := by decide
    rw [if_neg n1] at h1 h2
    refine ifW_of (fun hx => by simp at hx) (fun _ => ifW_of (fun _ => ?_) (fun hx => by simp at hx))
    unfold iStep at h1 h2
    refine S_takeChain (by simp) (fun hh => ?_) (fun hh => ?_)
    · rw [if_pos hh] at h1; exact h1 _ rfl
    · rw [if_neg hh] at h2
      refine h2 ?_ _
      cases rd l <;> simp
  · have n1 : ¬ (2 : Int) = 0 := by decide
    rw [if_neg n1] at h1 h2
    refine ifW_of (fun hx => by simp at hx) (fun _ => ifW_of (fun hx => by simp at hx) (fun _ => ?_))
    unfold jnW
    refine S_takeChain (by have := ht.1; omega) (fun hh => ifW_of (fun _ => ?_) (fun hx => by simp at hx)) (fun hh => ifW_of (fun hx => by simp at hx) (fun _ => ?_))
    · unfold iStep at h1
      rw [if_pos hh] at h1; exact h1 _ rfl
    · refine S_takeRule hl ht hne hh (fun ds hds => ?_) (fun hn ds => ?_)
      · rw [hds] at h1; exact h1 _ rfl
      · rw [hn] at h2; exact h2 rfl _


end
section
open Go.Lib (decDigits)

theorem w64_in {x : Int} (h1 : -9223372036854775808 ≤ x) (h2 : x ≤ 9223372036854775807) : w64 x = x := by
  simp [w64, IntKind.wrap, IntKind.signed, IntKind.bits]; omega
/-- lines that are not too long -/
def Bl (ls : List (List UInt8)) : Prop := ls.length ≤ 3000000 ∧ ∀ l, l ∈ ls → l.length ≤ 10000000
theorem Bl.take {ls : List (List UInt8)} (h : Bl ls) (n : Nat) : Bl (ls.take n) := ⟨by have := h.1; simp; omega, fun l hl => h.2 l (List.mem_of_mem_take hl)⟩
theorem tw_bd {cs : List (List GRule)} {a : Bool} (h : Tw cs) : Bd ⟨cs, a⟩ := ⟨by have := h.1; simp only; omega, fun c hc => ⟨by have := (h.2 c hc).1; omega, fun r hr => by have : r.xTests.length ≤ 6 := ((h.2 c hc).2 r hr).1.2; omega⟩⟩
theorem mapB_get {ls : List (List UInt8)} {k : Nat} (h : k < (ls.map B).length) : (ls.map B)[k] = B (ls[k]'(by simpa using h)) := by simp
theorem take_snoc {α : Type} {ls : List α} {k : Nat} (h : k < ls.length) : ls.take (k + 1) = ls.take k ++ [ls[k]] := List.take_succ_eq_append_getElem h

/-- what the first bad line is -/
def FB (ls : List (List UInt8)) (v : Int) : Prop := (∃ n : Nat, n < ls.length ∧ v = n ∧ iState (ls.take n) ≠ none ∧ iState (ls.take (n + 1)) = none) ∨ (∃ st cs a, iState ls = some (st, cs, a) ∧ ((SV ⟨cs, a⟩ ∧ v = -1) ∨ (¬ SV ⟨cs, a⟩ ∧ v = ls.length)))
theorem FB_one {ls : List (List UInt8)} {v u : Int} (h : FB ls v) (g : FB ls u) : v = u := by
  have cross : ∀ n : Nat, n < ls.length → iState (ls.take (n + 1)) = none → iState ls = none := by
    intro n hn h1
    cases e : iState ls with
    | none => rfl
    | some s => exact absurd h1 (iState_take (n := ls.length) (by rw [List.take_length, e]; simp) (by omega))
  rcases h with ⟨n, n1, rfl, n2, n3⟩ | ⟨st, cs, a, h1, h2⟩
  · rcases g with ⟨m, m1, rfl, m2, m3⟩ | ⟨st, cs, a, h1, h2⟩
    · rcases Nat.lt_trichotomy n m with e | e | e
      · exact absurd n3 (iState_take m2 (by omega))
      · rw [e]
      · exact absurd m3 (iState_take n2 (by omega))
    · rw [cross n n1 n3] at h1; cases h1
  · rcases g with ⟨m, m1, rfl, m2, m3⟩ | ⟨st', cs', a', g1, g2⟩
    · rw [cross m m1 m3] at h1; cases h1
    · rw [h1] at g1; cases g1
      rcases h2 with ⟨a, b⟩ | ⟨a, b⟩ <;> rcases g2 with ⟨c, d⟩ | ⟨c, d⟩
      · rw [b, d]
      · exact absurd a c
      · exact absurd c a
      · rw [b, d]
theorem S_impl_FirstBad {ls : List (List UInt8)} {κ : Int → Prop} (hb : Bl ls) (h : ∀ v, FB ls v → κ v) : L_impl_FirstBad (ls.map B) κ := by
  unfold L_impl_FirstBad
  have hl := hb.1
  refine count_loop ls.length (fun s => s.2.2.2) (fun k s => (∃ st cs a, iState (ls.take k) = some (st, cs, a) ∧ s = (st, cs, a, (k : Int))) ∧ k ≤ ls.length) (fun k s ⟨⟨st, cs, a, _, e⟩, _⟩ => by rw [e]) (fun k s h => h.2) ?_ ⟨⟨0, [], false, rfl, rfl⟩, Nat.zero_le _⟩
  rintro k _ next ⟨⟨st, cs, a, hs, rfl⟩, hk⟩ hn
  obtain ⟨ht, _, _⟩ := iState_inv hs
  refine ifW_of (fun hc => ?_) (fun hc => ?_)
  · have hlt : k < ls.length := by simpa using hc
    have hlt' : k < (ls.map B).length := by simpa using hlt
    refine idxW_of k rfl hlt' ?_
    rw [mapB_get hlt']
    refine S_take (by have := hb.2 _ (List.getElem_mem hlt); omega) hs (fun s hs' => ?_) (fun hs' s => ?_)
    · obtain ⟨st', cs', a'⟩ := s
      rw [← take_snoc hlt] at hs'
      exact ifW_of (fun hx => by simp at hx) (fun _ => addW_of (by omega) (by omega) (hn hlt _ ⟨⟨st', cs', a', hs', rfl⟩, by omega⟩))
    · rw [← take_snoc hlt] at hs'
      exact ifW_of (fun _ => h _ (.inl ⟨k, hlt, rfl, by rw [hs]; simp, hs'⟩)) (fun hx => by simp at hx)
  · have hge : ls.length ≤ k := by simpa using hc
    rw [List.take_of_length_le hge] at hs
    refine S_impl_RulesetValid (tw_bd ht) (fun b hbv => ifW_of (fun hx => h _ (.inr ⟨_, _, _, hs, .inr ⟨fun hv => ?_, by simp⟩⟩)) (fun hx => h _ (.inr ⟨_, _, _, hs, .inl ⟨hbv.1 (by simpa using hx), rfl⟩⟩)))
    rw [hbv.2 hv] at hx; cases hx

/-! the reference -/
theorem sState_snoc {p : List (List UInt8)} (hp : p ≠ []) (l : List UInt8) : sState (p ++ [l]) = match sState p with
    | none => none
    | some (cs, a) => (sStep cs l).map (fun ds => (ds, a)) := by
  cases p with
  | nil => exact absurd rfl hp
  | cons x p =>
    simp only [List.cons_append, sState]
    cases dfl x with
    | none => rfl
    | some a =>
      simp only [sFold_app]
      cases sFold [] p with
      | none => rfl
      | some cs => simp only [sFold]; cases sStep cs l <;> rfl
/-- sizes of what the reference reads -/
def Zs (k : Nat) (cs : List (List GRule)) : Prop := cs.length ≤ k ∧ ∀ c, c ∈ cs → c.length ≤ k ∧ ∀ r, r ∈ c → RV r
theorem Zs.bd {k : Nat} {cs : List (List GRule)} {a : Bool} (h : Zs k cs) (hk : k ≤ 4000000) : Bd ⟨cs, a⟩ := ⟨by have := h.1; simp only; omega, fun c hc => ⟨by have := (h.2 c hc).1; omega, fun r hr => by have : r.xTests.length ≤ 6 := ((h.2 c hc).2 r hr).1.2; omega⟩⟩
theorem zs_step {k : Nat} {cs ds : List (List GRule)} {l : List UInt8} (hz : Zs k cs) (h : sStep cs l = some ds) : Zs (k + 1) ds := by
  have mono : ∀ c, c ∈ cs → c.length ≤ k + 1 ∧ ∀ r, r ∈ c → RV r := fun c hc => ⟨by have := (hz.2 c hc).1; omega, (hz.2 c hc).2⟩
  unfold sStep at h
  split at h
  · cases h
    refine ⟨by have := hz.1; simp; omega, fun c hc => ?_⟩
    rcases List.mem_append.1 hc with hc | hc
    · exact mono c hc
    · simp at hc; subst hc; simp
  · split at h
    · cases h
    · rename_i r hr
      split at h
      · cases h
      · rename_i h0
        cases h
        have hpos : 0 < cs.length := by cases cs with
          | nil => exact absurd rfl h0
          | cons _ _ => simp
        have hlt : cs.length - 1 < cs.length := by omega
        refine ⟨by rw [addL_len]; have := hz.1; omega, fun c hc => ?_⟩
        rw [addL_set cs r (cs.length - 1) (by omega)] at hc
        rcases List.mem_or_eq_of_mem_set hc with hc | rfl
        · exact mono c hc
        · obtain ⟨a, b⟩ := hz.2 _ (List.getElem_mem hlt)
          refine ⟨by simp; omega, fun x hx => ?_⟩
          rcases List.mem_append.1 hx with hx | hx
          · exact b x hx
          · rw [List.mem_singleton] at hx; subst hx; exact (rd_some hr).1
theorem S_spec_ReadRuleset {ls : List (List UInt8)} {κ : GRuleset × Bool → Prop} (hb : Bl ls) (h1 : ∀ cs a, sState ls = some (cs, a) → SV ⟨cs, a⟩ → κ (⟨cs, a⟩, true)) (h2 : (∀ cs a, sState ls = some (cs, a) → ¬ SV ⟨cs, a⟩) → κ (⟨[], false⟩, false)) : L_spec_ReadRuleset (ls.map B) κ := by
  have hl := hb.1
  unfold L_spec_ReadRuleset
  cases ls with
  | nil =>
    unfold jnW
    refine ifW_of (fun _ => ifW_of (fun _ => h2 (fun cs a h => by simp [sState] at h)) (fun hx => by simp at hx)) (fun hx => by simp at hx)
  | cons l ls =>
    have h0 : 0 < ((l :: ls).map B).length := by simp
    have bad : dfl l = none → κ (⟨[], false⟩, false) := fun hd => h2 (fun cs a h => by simp [sState, hd] at h)
    have main : ∀ a, dfl l = some a → a = decide (l = dAcc) → idxW ((l :: ls).map B) 0 (fun e74 => loopW (fun (nx87 : ((List (List GRule)) × (List (List GRule)) × Int) → Prop) ((xs77, xs82, t86) : ((List (List GRule)) × (List (List GRule)) × Int)) => ifW (decide (t86 < (((l :: ls).map B).length : Int))) (jnW (fun (xs389 : (List (List GRule))) => addW t86 1 (fun t394 => nx87 (xs389, xs82, t394))) (fun k393 => jnW (fun (xs170 : (List (List GRule))) => idxW ((l :: ls).map B) t86 (fun e175 => L_spec_ReadRule e175 (fun (r177, r180) => jnW (fun (t246 : Bool) => ifW t246 (κ ((GRuleset.mk ([]) false), false)) (jnW (fun (xs252 : (List (List GRule))) => k393 xs252) (fun k255 => idxW xs170 (w64 ((xs170.length : Int) - 1)) (fun e256 => appW e256 ([r177]) (fun _ => idxW xs170 (w64 ((xs170.length : Int) - 1)) (fun e266 => k255 (xs170.set ((w64 ((xs170.length : Int) - 1))).toNat (e256 ++ ([r177]))))))))) (fun k247 => ifW (!r180) (k247 true) (k247 (decide ((xs170.length : Int) = 0))))))) (fun k174 => idxW ((l :: ls).map B) t86 (fun e91 => L_spec_l3Number (xs77.length : Int) (fun r93 => catW (ByteArray.mk #[99, 104, 97, 105, 110, 32]) r93 (fun s94 => ifW (decide (e91 = s94)) (appW xs77 ([[]]) (fun _ => k393 (xs77 ++ ([[]])))) (k174 xs77))))))) (L_spec_RulesetValid (GRuleset.mk xs77 (decide (e74 = (ByteArray.mk #[100, 101, 102, 97, 117, 108, 116, 32, 97, 99, 99, 101, 112, 116])))) (fun r395 => ifW (!r395) (κ ((GRuleset.mk ([]) false), false)) (κ ((GRuleset.mk xs77 (decide (e74 = (ByteArray.mk #[100, 101, 102, 97, 117, 108, 116, 32, 97, 99, 99, 101, 112, 116])))), true))))) ([], [], 1)) := by
      intro a ha haa
      refine idxW_of 0 rfl h0 ?_
      rw [mapB_get h0]
      show loopW _ _
      rw [show (l :: ls)[0] = l from rfl, dfl_eq, ← haa]
      refine count_loop_from 1 (ls.length + 1) (fun s => s.2.2) (fun k s => (∃ cs, sState ((l :: ls).take k) = some (cs, a) ∧ Zs k cs ∧ s = (cs, [], (k : Int))) ∧ 1 ≤ k ∧ k ≤ ls.length + 1) (fun k s ⟨⟨cs, _, _, e⟩, _⟩ => by rw [e]) (fun k s h => h.2.2) ?_ ⟨⟨[], by simp [sState, sFold, ha], ⟨by simp, fun c hc => by simp at hc⟩, rfl⟩, by omega, by omega⟩
      rintro k _ next ⟨⟨cs, hs, hz, rfl⟩, hk1, hk⟩ hn
      have hz1 := hz.1
      simp only [List.length_cons] at hl
      refine ifW_of (fun hc => ?_) (fun hc => ?_)
      · have hlt : k < (l :: ls).length := by simp at hc ⊢; omega
        have hlt' : k < ((l :: ls).map B).length := by simpa using hlt
        have hlb := hb.2 _ (List.getElem_mem hlt)
        have hne : (l :: ls).take k ≠ [] := by cases k with
          | zero => omega
          | succ k => simp
        have step : ∀ ds, sStep cs (l :: ls)[k] = some ds → next (ds, [], (k : Int) + 1) := by
          intro ds hds
          have hlt3 : k < ls.length + 1 := by simpa using hlt
          refine hn hlt3 _ ⟨⟨ds, ?_, zs_step hz hds, rfl⟩, by omega, by omega⟩
          rw [take_snoc hlt, sState_snoc hne, hs]
          simp only [hds, Option.map_some]
        have stop : sStep cs (l :: ls)[k] = none → κ (⟨[], false⟩, false) := by
          intro hds
          refine h2 (fun cs' a' he => ?_)
          exfalso
          have e : (l :: ls) = (l :: ls).take (k + 1) ++ (l :: ls).drop (k + 1) := (List.take_append_drop _ _).symm
          have e2 : sState ((l :: ls).take (k + 1)) = none := by
            rw [take_snoc hlt, sState_snoc hne, hs]
            simp only [hds, Option.map_none]
          rw [e] at he
          rw [List.take_succ_cons] at he e2
          simp only [List.cons_append, sState, sFold_app] at he e2
          rw [ha] at he e2
          simp only at he e2
          cases hx : sFold [] (ls.take k) with
          | none => rw [hx] at he; simp at he
          | some ds => rw [hx] at e2; simp at e2
        have hd := dec_len 7 cs.length (by omega)
        unfold jnW
        refine idxW_of k rfl hlt' (S_l3Number (by omega) (by omega) (catW_B (l := [99, 104, 97, 105, 110, 32]) (by simp; omega) ?_))
        rw [mapB_get hlt', Int.toNat_natCast]
        show ifW (decide (B (l :: ls)[k] = B (chl cs.length))) _ _
        rw [B_dec]
        unfold sStep at step stop
        refine ifW_of (fun hx => ?_) (fun hx => ?_)
        · have e : (l :: ls)[k] = chl cs.length := by simpa using hx
          rw [if_pos e] at step
          exact appW_of (by simp; omega) (addW_of (by omega) (by omega) (step _ rfl))
        · have e : (l :: ls)[k] ≠ chl cs.length := by simpa using hx
          rw [if_neg e] at step stop
          refine idxW_of k rfl hlt' ?_
          rw [mapB_get hlt']
          refine S_spec_rd hlb (fun r hr => ?_) (fun hr => ?_)
          · rw [hr] at step stop
            simp only at step stop
            refine ifW_of (fun hx => by simp at hx) (fun _ => ?_)
            refine ifW_of (fun hx => ?_) (fun hx => ?_)
            · have e0 : cs = [] := List.eq_nil_of_length_eq_zero (by simpa using hx)
              rw [if_pos e0] at stop
              exact stop rfl
            · have e0 : cs ≠ [] := fun e => by rw [e] at hx; simp at hx
              have hpos : 0 < cs.length := by simp at hx; cases cs with
                | nil => exact absurd rfl e0
                | cons _ _ => simp
              have hlt2 : cs.length - 1 < cs.length := by omega
              rw [if_neg e0] at step
              have hw : w64 ((cs.length : Int) - 1) = ((cs.length - 1 : Nat) : Int) := by rw [w64_in (by omega) (by omega)]; omega
              have hcl := (hz.2 _ (List.getElem_mem hlt2)).1
              rw [hw]
              refine idxW_of _ rfl hlt2 (appW_of (by simp; omega) (idxW_of _ rfl hlt2 ?_))
              rw [Int.toNat_natCast]
              refine addW_of (by omega) (by omega) ?_
              have := step _ rfl
              rw [addL_set cs r (cs.length - 1) (by omega)] at this
              exact this
          · rw [hr] at stop
            exact ifW_of (fun _ => ifW_of (fun _ => stop rfl) (fun hx => by simp at hx)) (fun hx => by simp at hx)
      · have hge : (l :: ls).length ≤ k := by simp at hc ⊢; omega
        rw [List.take_of_length_le hge] at hs
        refine S_spec_RulesetValid (hz.bd (by omega)) (fun b hbv => ifW_of (fun hx => h2 (fun cs' a' he hv => ?_)) (fun hx => h1 _ _ hs (hbv.1 (by simpa using hx))))
        rw [hs] at he
        cases he
        rw [hbv.2 hv] at hx; cases hx
    unfold dfl at bad main
    unfold jnW
    refine ifW_of (fun hx => by simp at hx; omega) (fun _ => idxW_of 0 rfl h0 ?_)
    rw [mapB_get h0, show (l :: ls)[0] = l from rfl, dfl_eq]
    refine ifW_of (fun hx => idxW_of 0 rfl h0 ?_) (fun hx => ?_)
    · have e : l ≠ dAcc := by simpa using hx
      rw [mapB_get h0, show (l :: ls)[0] = l from rfl, dfl_eq2]
      rw [if_neg e] at bad main
      refine ifW_of (fun hy => ?_) (fun hy => ?_)
      · have e2 : l ≠ dDrop := by simpa using hy
        rw [if_neg e2] at bad
        exact bad rfl
      · have e2 : l = dDrop := by simpa using hy
        rw [if_pos e2] at main
        exact main _ rfl (by rw [decide_eq_false e])
    · have e : l = dAcc := by simpa using hx
      rw [if_pos e] at main
      exact ifW_of (fun hx => by simp at hx) (fun _ => main _ rfl (by rw [decide_eq_true e]))


end
section
open Go.Lib (decDigits)

/-- chains begun and chains called so far, as the reference counts them -/
noncomputable def cStep (s : Nat × Int) (l : List UInt8) : Nat × Int :=
  if l = chl s.1 then (s.1 + 1, s.2) else match rd l with
  | none => s
  | some r => if r.xAction = 3 then (s.1, max s.2 (r.xChain + 1)) else s
noncomputable def cFold (s : Nat × Int) (ls : List (List UInt8)) : Nat × Int := ls.foldl cStep s
theorem cFold_snoc (s : Nat × Int) (ls : List (List UInt8)) (l : List UInt8) : cFold s (ls ++ [l]) = cStep (cFold s ls) l := by simp [cFold]
def mkc (n m : Nat) : List (List UInt8) := (List.range' n m).map chl
theorem mkc_snoc (n m : Nat) : mkc n (m + 1) = mkc n m ++ [chl (n + m)] := by simp [mkc, List.range'_concat]
theorem mkc_len (n m : Nat) : (mkc n m).length = m := by simp [mkc]
noncomputable def gap (s : Nat × Int) : Nat := (max 1 s.2).toNat - s.1
noncomputable def moreL (ls : List (List UInt8)) : List (List UInt8) := ls ++ mkc (cFold (0, 0) ls).1 (gap (cFold (0, 0) ls))
theorem cStep_bd {s : Nat × Int} {l : List UInt8} (h : 0 ≤ s.2 ∧ s.2 ≤ 5) : (cStep s l).1 ≤ s.1 + 1 ∧ 0 ≤ (cStep s l).2 ∧ (cStep s l).2 ≤ 5 := by
  unfold cStep
  split
  · simp only; omega
  · split
    · omega
    · rename_i r hr
      split
      · rename_i h3
        have := (rd_some hr).1.2.2.2.1 h3
        simp only; omega
      · omega
theorem cFold_bd : ∀ (ls : List (List UInt8)) (s : Nat × Int), 0 ≤ s.2 ∧ s.2 ≤ 5 → (cFold s ls).1 ≤ s.1 + ls.length ∧ 0 ≤ (cFold s ls).2 ∧ (cFold s ls).2 ≤ 5
  | [], s, h => by simp [cFold]; omega
  | l :: ls, s, h => by
    have h1 := cStep_bd (l := l) h
    have h2 := cFold_bd ls (cStep s l) ⟨h1.2.1, h1.2.2⟩
    have e : cFold s (l :: ls) = cFold (cStep s l) ls := rfl
    rw [e, List.length_cons]; omega
/-- the count and the chains -/
def CI (cs : List (List GRule)) (s : Nat × Int) : Prop := s.1 = cs.length ∧ ∀ c, c ∈ cs → ∀ r, r ∈ c → r.xAction = 3 → r.xChain < s.2
theorem ci_step {cs ds : List (List GRule)} {s : Nat × Int} {l : List UInt8} (h : CI cs s) (hs : sStep cs l = some ds) : CI ds (cStep s l) := by
  unfold sStep at hs
  unfold cStep
  rw [h.1]
  split at hs
  · rename_i hc
    cases hs
    rw [if_pos hc]
    refine ⟨by simp, fun c hc r hr h3 => ?_⟩
    rcases List.mem_append.1 hc with hc | hc
    · exact h.2 c hc r hr h3
    · simp at hc; subst hc; simp at hr
  · rename_i hc
    rw [if_neg hc]
    split at hs
    · cases hs
    · rename_i r hr
      split at hs
      · cases hs
      · rename_i h0
        cases hs
        have hpos : 0 < cs.length := by cases cs with
          | nil => exact absurd rfl h0
          | cons _ _ => simp
        have hlt : cs.length - 1 < cs.length := by omega
        try simp only [hr]
        have key : ∀ u : Nat × Int, u.1 = cs.length → s.2 ≤ u.2 → (r.xAction = 3 → r.xChain < u.2) → CI (addL cs r) u := by
          intro u hu h2 h3
          refine ⟨by rw [addL_len, hu], fun c hc' x hx x3 => ?_⟩
          rw [addL_set cs r (cs.length - 1) (by omega)] at hc'
          rcases List.mem_or_eq_of_mem_set hc' with hc' | rfl
          · have := h.2 c hc' x hx x3; omega
          · rcases List.mem_append.1 hx with hx | hx
            · have := h.2 _ (List.getElem_mem hlt) x hx x3; omega
            · rw [List.mem_singleton] at hx; subst hx; exact h3 x3
        split
        · exact key _ rfl (by simp only; omega) (fun _ => by simp only; omega)
        · rename_i h3
          exact key _ h.1 (Int.le_refl _) (fun h => absurd h h3)
theorem ci_fold : ∀ {ls : List (List UInt8)} {cs ds : List (List GRule)} {s : Nat × Int}, CI cs s → sFold cs ls = some ds → CI ds (cFold s ls)
  | [], cs, ds, s, h, hs => by cases hs; exact h
  | l :: ls, cs, ds, s, h, hs => by
    simp only [sFold] at hs
    split at hs
    · cases hs
    · rename_i cs' h1
      exact ci_fold (ls := ls) (s := cStep s l) (ci_step h h1) hs
theorem sFold_mkc : ∀ (m : Nat) (cs : List (List GRule)), sFold cs (mkc cs.length m) = some (cs ++ List.replicate m [])
  | 0, cs => by simp [mkc, sFold]
  | m + 1, cs => by
    have e : mkc cs.length (m + 1) = chl cs.length :: mkc (cs ++ [[]]).length m := by simp [mkc, List.range'_succ]
    rw [e]
    simp only [sFold, sStep, if_true]
    rw [sFold_mkc m (cs ++ [[]])]
    simp [List.replicate_succ]
theorem dfl_cStep {l : List UInt8} {a : Bool} (h : dfl l = some a) : cStep (0, 0) l = (0, 0) := by
  have hl : l = dAcc ∨ l = dDrop := by
    unfold dfl at h
    split at h
    · left; assumption
    · split at h
      · right; assumption
      · cases h
  have h1 : l ≠ chl 0 := by
    have e0 : chl 0 = [99, 104, 97, 105, 110, 32, 48] := by
      have : decDigits 0 = [48] := dec_small (by decide)
      simp [chl, this]
    rw [e0]
    rcases hl with rfl | rfl <;> decide
  have h2 : rd l = none := by
    cases e : rd l with
    | none => rfl
    | some r =>
      obtain ⟨x1, x2⟩ := rd_some e
      exfalso
      simp only [rtx0, hd, List.append_assoc] at x2
      rcases hl with rfl | rfl <;> rcases five x1.2.1 x1.2.2.1 with e | e | e | e | e <;> simp [aw, e, dAcc, dDrop] at x2
  unfold cStep
  rw [if_neg h1, h2]
theorem iState_sState {ls : List (List UInt8)} {st : Int} {cs : List (List GRule)} {a : Bool} (hne : ls ≠ []) (h : iState ls = some (st, cs, a)) : sState ls = some (cs, a) := by
  cases ls with
  | nil => exact absurd rfl hne
  | cons l ls =>
    simp only [iState, sState] at h ⊢
    cases hd : dfl l with
    | none => rw [hd] at h; simp at h
    | some b =>
      rw [hd] at h
      simp only at h ⊢
      cases hf : iFold [] ls with
      | none => rw [hf] at h; simp at h
      | some ds =>
        rw [hf] at h
        simp only [Option.some.injEq, Prod.mk.injEq] at h
        rw [sFold_iFold hf]
        obtain ⟨_, rfl, rfl⟩ := h
        rfl
theorem sState_iState {ls : List (List UInt8)} {cs : List (List GRule)} {a : Bool} (h : sState ls = some (cs, a)) (hv : SV ⟨cs, a⟩) : ∃ st, iState ls = some (st, cs, a) := by
  cases ls with
  | nil => simp [sState] at h
  | cons l ls =>
    simp only [iState, sState] at h ⊢
    cases hd : dfl l with
    | none => rw [hd] at h; simp at h
    | some b =>
      rw [hd] at h
      simp only at h ⊢
      cases hf : sFold [] ls with
      | none => rw [hf] at h; simp at h
      | some ds =>
        rw [hf] at h
        simp only [Option.some.injEq, Prod.mk.injEq] at h
        obtain ⟨rfl, rfl⟩ := h
        rw [iFold_sFold hf hv.1.w hv.2.2]
        exact ⟨_, rfl⟩
theorem begins_iff {ls : List (List UInt8)} (hne : ls ≠ []) : (∃ cs a, sState (moreL ls) = some (cs, a) ∧ SV ⟨cs, a⟩) ↔ iState ls ≠ none := by
  constructor
  · rintro ⟨cs, a, h1, h2⟩
    obtain ⟨st, h3⟩ := sState_iState h1 h2
    exact iState_app (p := ls) (q := mkc (cFold (0, 0) ls).1 (gap (cFold (0, 0) ls))) (by
      show iState (moreL ls) ≠ none
      rw [h3]; simp)
  · intro h
    cases e : iState ls with
    | none => exact absurd e h
    | some x =>
      obtain ⟨st, cs, a⟩ := x
      obtain ⟨ht, hs, _⟩ := iState_inv e
      have h1 := iState_sState hne e
      cases ls with
      | nil => exact absurd rfl hne
      | cons l ls =>
        simp only [sState] at h1
        cases hd : dfl l with
        | none => rw [hd] at h1; simp at h1
        | some b =>
          rw [hd] at h1
          simp only at h1
          cases hf : sFold [] ls with
          | none => rw [hf] at h1; simp at h1
          | some ds =>
            rw [hf] at h1
            simp only [Option.some.injEq, Prod.mk.injEq] at h1
            obtain ⟨rfl, rfl⟩ := h1
            have ec : cFold (0, 0) (l :: ls) = cFold (0, 0) ls := by
              have : cFold (0, 0) (l :: ls) = cFold (cStep (0, 0) l) ls := rfl
              rw [this, dfl_cStep hd]
            have hci : CI ds (cFold (0, 0) ls) := ci_fold (cs := []) ⟨rfl, fun c hc => by simp at hc⟩ hf
            have hbd := cFold_bd ls (0, 0) (by decide)
            refine ⟨ds ++ List.replicate (gap (cFold (0, 0) ls)) [], b, ?_, ?_⟩
            · unfold moreL
              rw [ec]
              simp only [List.cons_append, sState, hd, sFold_app, hf]
              rw [hci.1, sFold_mkc]
            · have h5 := ht.1
              have hlen : (ds ++ List.replicate (gap (cFold (0, 0) ls)) ([] : List GRule)).length = max ds.length (max 1 (cFold (0, 0) ls).2).toNat := by
                rw [List.length_append, List.length_replicate]
                unfold gap
                rw [hci.1]
                omega
              refine ⟨⟨by simp only; rw [hlen]; omega, fun c hc => ?_⟩, by simp only; rw [hlen]; omega, sf_snoc' hs _ (fun c hc => (List.mem_replicate.1 hc).2)⟩
              rcases List.mem_append.1 hc with hc | hc
              · refine ⟨(ht.2 c hc).1, fun r hr => ⟨(ht.2 c hc).2 r hr, ?_⟩⟩
                have hrv := ((ht.2 c hc).2 r hr).2
                simp only
                rw [hlen]
                by_cases h3 : r.xAction = 3
                · have := hci.2 c hc r hr h3
                  omega
                · have := hrv.2.2.2 h3
                  omega
              · have := (List.mem_replicate.1 hc).2
                subst this
                exact ⟨by simp, fun r hr => by simp at hr⟩
theorem S_l23Begins {ls : List (List UInt8)} {κ : Bool → Prop} (hne : ls ≠ []) (hb : ls.length ≤ 2000000 ∧ ∀ l, l ∈ ls → l.length ≤ 10000000) (h1 : iState ls ≠ none → κ true) (h2 : iState ls = none → κ false) : L_spec_l23Begins (ls.map B) κ := by
  unfold L_spec_l23Begins
  have hl := hb.1
  have hpos : 0 < ls.length := by cases ls with
    | nil => exact absurd rfl hne
    | cons _ _ => simp
  refine ifW_of (fun hx => by simp at hx; exact absurd hx hne) (fun _ => appW_of (by simp; omega) ?_)
  refine count_loop ls.length (fun s => s.2.2) (fun k s => s = (((cFold (0, 0) (ls.take k)).1 : Int), (cFold (0, 0) (ls.take k)).2, (k : Int)) ∧ k ≤ ls.length) (fun k s h => by rw [h.1]) (fun k s h => h.2) ?_ ⟨by simp [cFold], Nat.zero_le _⟩
  rintro k _ next ⟨rfl, hk⟩ hn
  have hbd := cFold_bd (ls.take k) (0, 0) (by decide)
  have hd : ∀ n : Nat, n ≤ 4000000 → (decDigits n).length ≤ 7 := fun n h => dec_len 6 n (by omega)
  have htl : (ls.take k).length ≤ k := by simp; omega
  simp only at hbd
  refine ifW_of (fun hc => ?_) (fun hc => ?_)
  · have hlt : k < ls.length := by simpa using hc
    have hlt' : k < (ls.map B).length := by simpa using hlt
    have hn' := hn hlt _ ⟨rfl, by omega⟩
    rw [take_snoc hlt, cFold_snoc] at hn'
    clear hn
    generalize cFold (0, 0) (ls.take k) = s at *
    have hds := hd s.1 (by omega)
    unfold jnW
    refine idxW_of k rfl hlt' (S_l3Number (by omega) (by omega) (catW_B (l := [99, 104, 97, 105, 110, 32]) (by simp; omega) ?_))
    rw [mapB_get hlt', Int.toNat_natCast]
    show ifW (decide (B ls[k] = B (chl s.1))) _ _
    rw [B_dec]
    unfold cStep at hn'
    refine ifW_of (fun hx => ?_) (fun hx => ?_)
    · have e : ls[k] = chl s.1 := by simpa using hx
      rw [if_pos e] at hn'
      exact addW_of (by omega) (by omega) (addW_of (by omega) (by omega) hn')
    · have e : ls[k] ≠ chl s.1 := by simpa using hx
      rw [if_neg e] at hn'
      refine idxW_of k rfl hlt' ?_
      rw [mapB_get hlt']
      refine S_spec_rd (hb.2 _ (List.getElem_mem hlt)) (fun r hr => ?_) (fun hr => ?_)
      · rw [hr] at hn'
        simp only at hn'
        have hrv := (rd_some hr).1.2
        refine ifW_of (fun _ => ifW_of (fun h3 => ?_) (fun h3 => ?_)) (fun hx => by simp at hx)
        · have e3 : r.xAction = 3 := by simpa using h3
          have := hrv.2.2.1 e3
          rw [if_pos e3] at hn'
          exact addW_of (by omega) (by omega) (addW_of (by omega) (by omega) hn')
        · have e3 : r.xAction ≠ 3 := by simpa using h3
          rw [if_neg e3] at hn'
          exact addW_of (by omega) (by omega) hn'
      · rw [hr] at hn'
        exact ifW_of (fun hx => by simp at hx) (fun _ => ifW_of (fun hx => by simp at hx) (fun _ => addW_of (by omega) (by omega) hn'))
  · have hge : ls.length ≤ k := by simpa using hc
    clear hn
    have hbe := begins_iff hne
    unfold moreL at hbe
    rw [List.take_of_length_le hge] at hbd ⊢
    generalize cFold (0, 0) ls = s at *
    have hg : gap s ≤ 5 := by unfold gap; omega
    refine loopW_inv (fun st => ∃ j, j ≤ gap s ∧ st = ((ls ++ mkc s.1 j).map B, ((s.1 + j : Nat) : Int))) (fun st => s.1 + gap s - st.2.toNat) ?_ ⟨0, Nat.zero_le _, by simp [mkc]⟩
    rintro _ next ⟨j, hj, rfl⟩ hn
    have hds := hd (s.1 + j) (by omega)
    refine ifW_of (fun hc => ?_) (fun hc => ?_)
    · have hlt : j < gap s := by simp at hc; unfold gap; omega
      have htn : ((s.1 : Int) + (j : Int)).toNat = s.1 + j := by omega
      refine S_l3Number (by omega) (by omega) (catW_B (l := [99, 104, 97, 105, 110, 32]) (by simp [htn]; omega) (appW_of (by simp [mkc_len]; omega) (addW_of (by omega) (by omega) (hn _ ⟨j + 1, by omega, ?_⟩ ?_))))
      · rw [mkc_snoc, Int.toNat_natCast]
        simp only [Prod.mk.injEq]
        refine ⟨by simp [chl], by omega⟩
      · simp only; omega
    · have e : j = gap s := by simp at hc; unfold gap at hj ⊢; omega
      subst e
      refine S_spec_ReadRuleset ⟨by simp [mkc_len]; omega, fun l hl => ?_⟩ (fun cs a he hv => h1 (hbe.1 ⟨cs, a, he, hv⟩)) (fun hno => h2 ?_)
      · rcases List.mem_append.1 hl with hl | hl
        · exact hb.2 l hl
        · obtain ⟨i, hi, rfl⟩ := List.mem_map.1 hl
          rw [List.mem_range'] at hi
          obtain ⟨i', hi', rfl⟩ := hi
          have := hd (s.1 + 1 * i') (by omega)
          rw [Nat.one_mul] at this ⊢
          simp [chl]; omega
      · cases e : iState ls with
        | none => rfl
        | some x =>
          obtain ⟨cs, a, x1, x2⟩ := hbe.2 (by rw [e]; simp)
          exact absurd x2 (hno cs a x1)
theorem sv_ne {a : Bool} : ¬ SV ⟨[], a⟩ := fun h => by have := h.2.1; simp at this
theorem S_spec_FirstBad {ls : List (List UInt8)} {κ : Int → Prop} (hb : ls.length ≤ 2000000 ∧ ∀ l, l ∈ ls → l.length ≤ 10000000) (h : ∀ v, FB ls v → κ v) : L_spec_FirstBad (ls.map B) κ := by
  unfold L_spec_FirstBad
  have hl := hb.1
  refine S_spec_ReadRuleset ⟨by omega, hb.2⟩ (fun cs a he hv => ifW_of (fun _ => ?_) (fun hx => by simp at hx)) (fun hno => ifW_of (fun hx => by simp at hx) (fun _ => ?_))
  · obtain ⟨st, h3⟩ := sState_iState he hv
    exact h _ (.inr ⟨st, cs, a, h3, .inl ⟨hv, rfl⟩⟩)
  · refine count_loop ls.length (fun s => s) (fun k s => s = (k : Int) ∧ k ≤ ls.length ∧ iState (ls.take k) ≠ none) (fun k s h => h.1) (fun k s h => h.2.1) ?_ ⟨rfl, Nat.zero_le _, by simp [iState]⟩
    rintro k _ next ⟨rfl, hk, hi⟩ hn
    refine ifW_of (fun hc => ?_) (fun hc => ?_)
    · have hlt : k < ls.length := by simpa using hc
      refine addW_of (by omega) (by omega) ⟨by omega, by omega, by simp; omega, ?_⟩
      have e1 : ((k : Int) + 1).toNat = k + 1 := by omega
      rw [e1, show ((0 : Int).toNat) = 0 from rfl, List.drop_zero, ← List.map_take]
      refine S_l23Begins (by cases ls with
        | nil => simp at hlt
        | cons _ _ => simp) ⟨by simp; omega, fun l hl => hb.2 l (List.mem_of_mem_take hl)⟩ (fun hi' => ifW_of (fun hx => by simp at hx) (fun _ => addW_of (by omega) (by omega) (hn hlt _ ⟨by omega, by omega, hi'⟩))) (fun hi' => ifW_of (fun _ => h _ (.inl ⟨k, hlt, rfl, hi, hi'⟩)) (fun hx => by simp at hx))
    · have hge : ls.length ≤ k := by simpa using hc
      rw [List.take_of_length_le hge] at hi
      cases e : iState ls with
      | none => exact absurd e hi
      | some x =>
        obtain ⟨st, cs, a⟩ := x
        refine h _ (.inr ⟨st, cs, a, e, .inr ⟨fun hv => ?_, by simp⟩⟩)
        cases ls with
        | nil => simp only [iState, Option.some.injEq, Prod.mk.injEq] at e; obtain ⟨_, rfl, rfl⟩ := e; exact sv_ne hv
        | cons l ls => exact hno cs a (iState_sState (by simp) e) hv


end
section
open Go.Lib (decDigits)

/-! the lines of a ruleset, read again -/
def lsG : Nat → List (List GRule) → List (List UInt8)
  | _, [] => []
  | k, c :: cs => (chl k :: c.map rtx0) ++ lsG (k + 1) cs
def rl (s : GRuleset) : List (List UInt8) := dft s :: lsG 0 s.xChains
theorem lines_eq (a : List ByteArray) : ∃ ls : List (List UInt8), a = ls.map B := ⟨a.map (fun x => x.data.toList), by
  rw [List.map_map]
  conv => lhs; rw [← List.map_id a]
  exact List.map_congr_left (fun x _ => (B_eta x).symm)⟩
theorem bt_bl {ls : List (List UInt8)} (h : Bt (ls.map B)) : ls.length ≤ 1048576 ∧ ∀ l, l ∈ ls → l.length ≤ 1048576 := ⟨by simpa using h.1, fun l hl => by have := h.2 (B l) (List.mem_map.2 ⟨l, hl, rfl⟩); rwa [B_size] at this⟩

/-! exact laws -/
/-- the lengths of lines are in range -/
def okLs (a : List ByteArray) : Prop := a.length ≤ 9223372036854775807 ∧ ∀ x, x ∈ a → x.size ≤ 9223372036854775807
theorem pureFnExactFirstBad (a : List ByteArray) (hl : okLs a) : L_laws_FnExactFirstBad a (fun x => x = true) := by
  obtain ⟨ls, rfl⟩ := lines_eq a
  unfold L_laws_FnExactFirstBad
  refine S_szStringS hl.1 hl.2 (by decide) (by decide) (ifW_of (fun _ => rfl) (fun hx => by simp at hx)) (fun r r0 r1 hb => ifW_of (fun hx => by simp at hx; omega) (fun _ => ?_))
  obtain ⟨b1, b2⟩ := bt_bl hb
  have hlm : (ls.map B).length ≤ 4294967296 := by simp; omega
  refine toStringS_of hlm (S_spec_FirstBad ⟨by omega, fun l hl => by have := b2 l hl; omega⟩ (fun v hv => toStringS_of hlm (S_impl_FirstBad ⟨by omega, fun l hl => by have := b2 l hl; omega⟩ (fun u hu => ?_))))
  rw [FB_one hu hv]
  refine ifW_of (fun hx => by simp at hx) (fun _ => toStringS_of hlm (eqStringS_self hlm (by simp)))
/-! drawn laws -/
end

end Go.Proofs.YtlcjkhnamgklgaaDoor
