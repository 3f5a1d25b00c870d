/- Byte strings as lists; numerals; readers of numerals. No program in sight. -/
import Derived.Test.YtnogaeckmiekdaaDoorPlib
import Derived.Test.YtnogaeckmiekdaaDoorEls
set_option linter.unusedSimpArgs false
set_option linter.unusedVariables false
namespace Go.Proofs.YtnogaeckmiekdaaDoor
open Go.Lib (decDigits)

def B (l : List UInt8) : ByteArray := ByteArray.mk l.toArray
theorem B_data (l : List UInt8) : (B l).data.toList = l := by simp [B]
theorem B_eta (s : ByteArray) : B s.data.toList = s := by cases s; simp [B]
theorem B_inj {l m : List UInt8} : B l = B m ↔ l = m := ⟨fun h => by have := congrArg (fun s => s.data.toList) h; simpa [B] using this, fun h => by rw [h]⟩
theorem B_app (l m : List UInt8) : B l ++ B m = B (l ++ m) := by
  apply ByteArray.ext; simp [B, ByteArray.data_append]
theorem B_size (l : List UInt8) : (B l).size = l.length := by simp [B, ByteArray.size]
theorem B_ex (l : List UInt8) (a b : Nat) : (B l).extract a b = B ((l.take b).drop a) := by
  apply ByteArray.ext
  simp [B, ByteArray.data_extract, List.extract_eq_take_drop]
  exact List.drop_take.symm
theorem B_dec (l m : List UInt8) : decide (B l = B m) = decide (l = m) := by simp [B_inj]
theorem mkB (l : List UInt8) : ByteArray.mk l.toArray = B l := rfl
theorem catW_B {l m : List UInt8} {κ : ByteArray → Prop} (h : l.length + m.length ≤ 9223372036854775807) (hk : κ (B (l ++ m))) : catW (B l) (B m) κ := ⟨by rw [B_size, B_size]; exact h, by rw [B_app]; exact hk⟩
theorem sliceS_B {l : List UInt8} {lo hi : Int} {κ : ByteArray → Prop} (a b : Nat) (ha : lo = a) (hb : hi = b) (h1 : a ≤ b) (h2 : b ≤ l.length) (hk : κ (B ((l.take b).drop a))) : sliceS (B l) lo hi κ := by
  subst ha hb
  exact ⟨by omega, by omega, by rw [B_size]; omega, by rw [Int.toNat_natCast, Int.toNat_natCast, B_ex]; exact hk⟩

/-- a digit -/
def dg (c : UInt8) : Bool := decide (48 ≤ c.toNat) && decide (c.toNat ≤ 57)
def val (l : List UInt8) : Nat := l.foldl (fun n c => 10 * n + (c.toNat - 48)) 0
theorem val_snoc (l : List UInt8) (c : UInt8) : val (l ++ [c]) = 10 * val l + (c.toNat - 48) := by simp [val]
theorem val_nil : val [] = 0 := rfl
theorem dec_small {u : Nat} (h : u < 10) : decDigits u = [UInt8.ofNat (48 + u)] := by rw [decDigits, dif_pos h]
theorem dec_big {u : Nat} (h : ¬ u < 10) : decDigits u = decDigits (u / 10) ++ [UInt8.ofNat (48 + u % 10)] := by rw [decDigits, dif_neg h]
theorem dg_of {n : Nat} (h : n < 10) : dg (UInt8.ofNat (48 + n)) = true := by
  have : (UInt8.ofNat (48 + n)).toNat = 48 + n := by simp; omega
  simp [dg, this]; omega
theorem dv_of {n : Nat} (h : n < 10) : (UInt8.ofNat (48 + n)).toNat - 48 = n := by
  have : (UInt8.ofNat (48 + n)).toNat = 48 + n := by simp; omega
  omega
theorem dec_dg (u : Nat) : ∀ c ∈ decDigits u, dg c = true := by
  induction u using Nat.strongRecOn with
  | _ u ih =>
    by_cases h : u < 10
    · rw [dec_small h]; intro c hc; rw [List.mem_singleton] at hc; subst hc; exact dg_of h
    · rw [dec_big h]; intro c hc
      rcases List.mem_append.1 hc with hc | hc
      · exact ih (u / 10) (by omega) c hc
      · rw [List.mem_singleton] at hc; subst hc; exact dg_of (by omega)
theorem dec_val (u : Nat) : val (decDigits u) = u := by
  induction u using Nat.strongRecOn with
  | _ u ih =>
    by_cases h : u < 10
    · rw [dec_small h]; simp only [val, List.foldl]; rw [dv_of h]; omega
    · rw [dec_big h, val_snoc, ih (u / 10) (by omega), dv_of (by omega)]; omega
theorem dec_inj {a b : Nat} (h : decDigits a = decDigits b) : a = b := by rw [← dec_val a, ← dec_val b, h]
theorem dec_len : ∀ (k u : Nat), u < 10 ^ (k + 1) → (decDigits u).length ≤ k + 1
  | 0, u, h => by rw [dec_small (by simpa using h)]; simp
  | k + 1, u, h => by
    by_cases h' : u < 10
    · rw [dec_small h']; simp
    · rw [dec_big h']; have := dec_len k (u / 10) (by rw [Nat.pow_succ] at h; omega); simp; omega
theorem dec_pos (u : Nat) : decDigits u ≠ [] := by
  by_cases h : u < 10
  · rw [dec_small h]; simp
  · rw [dec_big h]; simp
theorem dec_no {u : Nat} {c : UInt8} (h : dg c = false) : c ∉ decDigits u := fun hc => by rw [dec_dg u c hc] at h; cases h
/-- two texts that begin with a numeral, then something that is no digit -/
theorem dec_split : ∀ {a a' r r' : List UInt8}, (∀ c ∈ a, dg c = true) → (∀ c ∈ a', dg c = true) → (∀ c l, r = c :: l → dg c = false) → (∀ c l, r' = c :: l → dg c = false) → a ++ r = a' ++ r' → a = a' ∧ r = r'
  | [], [], r, r', _, _, _, _, h => ⟨rfl, h⟩
  | [], x :: a', r, r', _, h2, h3, _, h => by
    have := h3 x (a' ++ r') (by simpa using h)
    rw [h2 x (by simp)] at this; cases this
  | x :: a, [], r, r', h1, _, _, h4, h => by
    have := h4 x (a ++ r) (by simpa using h.symm)
    rw [h1 x (by simp)] at this; cases this
  | x :: a, y :: a', r, r', h1, h2, h3, h4, h => by
    simp only [List.cons_append, List.cons.injEq] at h
    obtain ⟨rfl, h⟩ := h
    obtain ⟨rfl, rfl⟩ := dec_split (fun c hc => h1 c (by simp [hc])) (fun c hc => h2 c (by simp [hc])) h3 h4 h
    exact ⟨rfl, rfl⟩
theorem itoaB_nat {n : Int} (h : 0 ≤ n) : itoaB n = B (decDigits n.toNat) := by
  unfold itoaB Lib.itoa; rw [if_neg (by omega)]; rfl
theorem S_itoa {n : Int} {κ : ByteArray → Prop} (h0 : 0 ≤ n) (h1 : n ≤ 9223372036854775807) (h : κ (B (decDigits n.toNat))) : L_lib_Itoa n κ := ⟨⟨by omega, h1⟩, by rw [itoaB_nat h0]; exact h⟩
/-- the value of at most six digits -/
theorem val_le' : ∀ (l : List UInt8) (n : Nat), (∀ c ∈ l, dg c = true) → l.foldl (fun n c => 10 * n + (c.toNat - 48)) n + 1 ≤ (n + 1) * 10 ^ l.length
  | [], n, _ => by simp
  | c :: l, n, h => by
    have h1 := val_le' l (10 * n + (c.toNat - 48)) (fun x hx => h x (by simp [hx]))
    have h2 := h c (by simp)
    simp [dg] at h2
    simp only [List.foldl, List.length_cons, Nat.pow_succ]
    refine Nat.le_trans h1 ?_
    rw [show (n + 1) * (10 ^ l.length * 10) = ((n + 1) * 10) * 10 ^ l.length by rw [Nat.mul_assoc, Nat.mul_comm 10]]
    exact Nat.mul_le_mul_right _ (by omega)
theorem val_le (l : List UInt8) (h : ∀ c ∈ l, dg c = true) : val l < 10 ^ l.length := by
  have := val_le' l 0 h
  simp at this
  unfold val; omega
theorem val_6 {l : List UInt8} (h : ∀ c ∈ l, dg c = true) (hl : l.length ≤ 6) : val l ≤ 999999 := by
  have h1 := val_le l h
  have h2 : 10 ^ l.length ≤ 10 ^ 6 := Nat.pow_le_pow_right (by decide) hl
  have e : (10 : Nat) ^ 6 = 1000000 := by decide
  omega
/-- the number at the head of a text: at most six digits -/
def run : Nat → List UInt8 → List UInt8
  | 0, _ => []
  | _, [] => []
  | k + 1, c :: l => if dg c then c :: run k l else []
theorem run_dg : ∀ k l, ∀ c ∈ run k l, dg c = true
  | 0, l => by simp [run]
  | k + 1, [] => by simp [run]
  | k + 1, c :: l => by
    simp only [run]; split
    · rename_i h; intro x hx; rcases List.mem_cons.1 hx with rfl | hx
      · exact h
      · exact run_dg k l x hx
    · simp
theorem run_len : ∀ k l, (run k l).length ≤ k ∧ (run k l).length ≤ l.length
  | 0, l => by simp [run]
  | k + 1, [] => by simp [run]
  | k + 1, c :: l => by
    simp only [run]; split
    · have := run_len k l; simp; omega
    · simp
theorem run_app : ∀ (k : Nat) (a r : List UInt8), (∀ c ∈ a, dg c = true) → a.length ≤ k → (∀ c l, r = c :: l → dg c = false) → run k (a ++ r) = a
  | 0, [], r, _, _, h => by simp [run]
  | 0, x :: a, r, _, hl, _ => by simp at hl
  | k + 1, [], [], _, _, _ => by simp [run]
  | k + 1, [], c :: l, _, _, h => by simp [run, h c l rfl]
  | k + 1, x :: a, r, h1, hl, h => by
    simp only [List.cons_append, run]
    rw [if_pos (h1 x (by simp)), run_app k a r (fun c hc => h1 c (by simp [hc])) (by simpa using hl) h]
/-- where the run ends -/
theorem run_end : ∀ (k : Nat) (l : List UInt8), (∃ r, l = run k l ++ r ∧ ((run k l).length = k ∨ ∀ c m, r = c :: m → dg c = false))
  | 0, l => ⟨l, by simp [run], .inl (by simp [run])⟩
  | k + 1, [] => ⟨[], by simp [run], .inr (by simp)⟩
  | k + 1, c :: l => by
    obtain ⟨r, h1, h2⟩ := run_end k l
    simp only [run]; split
    · exact ⟨r, by simpa using h1, by rcases h2 with h2 | h2; · exact .inl (by simpa using h2)
                                      · exact .inr h2⟩
    · rename_i h
      exact ⟨c :: l, rfl, .inr (fun d m e => by cases e; simpa using h)⟩
theorem hasPre_app (p r : List UInt8) : hasPre (B (p ++ r)) (B p) = true := by simp [hasPre, Lib.hasPrefix, B_data]
theorem hasPre_iff (s p : List UInt8) : hasPre (B s) (B p) = true ↔ ∃ r, s = p ++ r := by
  simp only [hasPre, Lib.hasPrefix, B_data, List.isPrefixOf_iff_prefix]
  exact ⟨fun ⟨r, h⟩ => ⟨r, h.symm⟩, fun ⟨r, h⟩ => ⟨r, h.symm⟩⟩
end Go.Proofs.YtnogaeckmiekdaaDoor
