/- Texts of prefixes: both writers, both readers. -/
import Derived.Test.YtnogaeckmiekdaaDoorTx2
import Derived.Laws.BitsLemmas
set_option linter.unusedSimpArgs false
set_option linter.unusedVariables false
namespace Go.Proofs.YtnogaeckmiekdaaDoor
open Go.Lib (decDigits)

theorem wraps_i64_62 (n : Int) (h₀ : 0 ≤ n) (h₁ : n < 2 ^ 62) : IntKind.i64.wrap n = n := by
  have : (2 : Int) ^ 62 = 4611686018427387904 := by decide
  simp [IntKind.wrap, IntKind.signed, IntKind.bits]; omega
theorem and_mask (j : Nat) (hj : j < 62) (x : Int) (h0 : 0 ≤ x) (h1 : x < 4611686018427387904) : bits .and .i64 x (2 ^ j - 1) = x % 2 ^ j :=
  bits_mask .i64 62 (by decide) wraps_i64_62 j (by omega) x h0 (by have : (2 : Int) ^ 62 = 4611686018427387904 := by decide
                                                                   omega)

def PV (p : GPrefix) : Prop := 0 ≤ p.xLength ∧ p.xLength ≤ 16 ∧ 0 ≤ p.xBase ∧ p.xBase ≤ 65535 ∧ p.xBase % 2 ^ (16 - p.xLength).toNat = 0
instance (p : GPrefix) : Decidable (PV p) := by unfold PV; infer_instance
def ptx (p : GPrefix) : List UInt8 := decDigits (p.xBase.toNat / 256) ++ 46 :: (decDigits (p.xBase.toNat % 256) ++ 47 :: decDigits p.xLength.toNat)
def ptext (p : GPrefix) : List UInt8 := if PV p then ptx p else []

theorem S_l1In {n lo hi : Int} {κ : Bool → Prop} (h : κ (decide (lo ≤ n ∧ n ≤ hi))) : L_spec_l1In n lo hi κ := by
  unfold L_spec_l1In jnW
  refine ifW_of (fun hc => ?_) (fun hc => ?_)
  · simp at hc; simpa [hc] using h
  · simp at hc
    have : decide (lo ≤ n ∧ n ≤ hi) = false := by simp; omega
    rw [this] at h; exact h
theorem pow_bd (k : Nat) (h : k ≤ 16) : (1 : Int) ≤ 2 ^ k ∧ (2 : Int) ^ k ≤ 65536 := by
  have h1 : (2 : Nat) ^ k ≤ 2 ^ 16 := Nat.pow_le_pow_right (by decide) h
  have h2 : 1 ≤ (2 : Nat) ^ k := Nat.one_le_pow _ _ (by decide)
  have e : ((2 : Int) ^ k) = ((2 ^ k : Nat) : Int) := by simp
  have e2 : (2 : Nat) ^ 16 = 65536 := by decide
  rw [e]; omega
theorem S_spec_PrefixValid {p : GPrefix} {κ : Bool → Prop} (h : κ (decide (PV p))) : L_spec_PrefixValid p κ := by
  unfold L_spec_PrefixValid jnW
  refine S_l1In (ifW_of (fun hc => ?_) (fun hc => ?_))
  · simp at hc
    refine S_l1In (ifW_of (fun hc2 => ?_) (fun hc2 => ?_))
    · simp at hc2
      obtain ⟨b1, b2⟩ := pow_bd (16 - p.xLength).toNat (by omega)
      refine subW_of (by omega) (by omega) ⟨by omega, by omega, ⟨by omega, by omega⟩, remW_of (by omega) (by omega) (by omega) ?_⟩
      rw [Int.one_mul]
      have : decide (PV p) = decide (p.xBase % 2 ^ (16 - p.xLength).toNat = 0) := by exact decide_eq_decide.2 ⟨fun hh => hh.2.2.2.2, fun hh => ⟨hc.1, hc.2, hc2.1, hc2.2, hh⟩⟩
      rw [this] at h; exact h
    · simp at hc2
      have : decide (PV p) = false := decide_eq_false (fun hh => by obtain ⟨a1, a2, a3, a4, _⟩ := hh; omega)
      rw [this] at h; exact h
  · simp at hc
    have : decide (PV p) = false := decide_eq_false (fun hh => by obtain ⟨a1, a2, a3, a4, _⟩ := hh; omega)
    rw [this] at h; exact h
theorem S_impl_PrefixValid {p : GPrefix} {κ : Bool → Prop} (h : κ (decide (PV p))) : L_impl_PrefixValid p κ := by
  unfold L_impl_PrefixValid jnW
  have no : ¬ (0 ≤ p.xLength ∧ p.xLength ≤ 16 ∧ 0 ≤ p.xBase ∧ p.xBase ≤ 65535) → κ false := fun hn => by
    have : decide (PV p) = false := decide_eq_false (fun hh => by obtain ⟨a1, a2, a3, a4, _⟩ := hh; omega)
    rw [this] at h; exact h
  simp only [ifW_true, ifW_false]
  refine ifW_of (fun hc => no (by simp at hc; omega)) (fun hc => ifW_of (fun hc2 => no (by simp at hc2; omega)) (fun hc2 => ifW_of (fun hc3 => no (by simp at hc3; omega)) (fun hc3 => ifW_of (fun hc4 => no (by simp at hc4; omega)) (fun hc4 => ?_))))
  simp at hc hc2 hc3 hc4
  obtain ⟨b1, b2⟩ := pow_bd (16 - p.xLength).toNat (by omega)
  unfold L_impl_hostMask
  refine subW_of (by omega) (by omega) ⟨by omega, by omega, ⟨by omega, by omega⟩, subW_of (by omega) (by omega) ?_⟩
  rw [Int.one_mul]
  show κ (decide (bits .and .i64 p.xBase (2 ^ (16 - p.xLength).toNat - 1) = 0))
  rw [and_mask _ (by omega) _ (by omega) (by omega)]
  have : decide (PV p) = decide (p.xBase % 2 ^ (16 - p.xLength).toNat = 0) := decide_eq_decide.2 ⟨fun hh => hh.2.2.2.2, fun hh => ⟨hc, hc2, hc3, hc4, hh⟩⟩
  rw [this] at h; exact h

theorem dec_le {n : Nat} (h : n ≤ 100000) : (decDigits n).length ≤ 6 := dec_len 5 n (Nat.lt_of_le_of_lt h (by decide))
theorem ptx_len {p : GPrefix} (h : PV p) : (ptx p).length ≤ 20 := by
  obtain ⟨h1, h2, h3, h4, _⟩ := h
  have a := dec_le (n := p.xBase.toNat / 256) (by omega)
  have b := dec_le (n := p.xBase.toNat % 256) (by omega)
  have c := dec_le (n := p.xLength.toNat) (by omega)
  simp [ptx]; omega
theorem B_nil : ByteArray.mk #[] = B [] := rfl
theorem S_spec_PrefixText {p : GPrefix} {κ : ByteArray → Prop} (h : κ (B (ptext p))) : L_spec_PrefixText p κ := by
  unfold L_spec_PrefixText
  refine S_spec_PrefixValid (ifW_of (fun hc => ?_) (fun hc => ?_))
  · simp at hc
    rw [ptext, if_neg hc] at h; exact h
  · simp at hc
    rw [ptext, if_pos hc] at h
    obtain ⟨h1, h2, h3, h4, _⟩ := id hc
    have a := dec_le (n := p.xBase.toNat / 256) (by omega)
    have b := dec_le (n := p.xBase.toNat % 256) (by omega)
    have c := dec_le (n := p.xLength.toNat) (by omega)
    have e1 : (p.xBase / 256).toNat = p.xBase.toNat / 256 := by omega
    have e2 : (p.xBase % 256).toNat = p.xBase.toNat % 256 := by omega
    refine quoW_of (by omega) (by omega) (by omega) (remW_of (by omega) (by omega) (by omega) (S_l3Number (by omega) (by omega) (catW_B (m := [46]) (by rw [e1]; simp; omega) (S_l3Number (by omega) (by omega) (catW_B (by rw [e1, e2]; simp; omega) (catW_B (m := [47]) (by rw [e1, e2]; simp; omega) (S_l3Number (by omega) (by omega) (catW_B (by rw [e1, e2]; simp; omega) ?_))))))))
    rw [e1, e2]
    simpa [ptx, List.append_assoc] using h
theorem S_impl_PrefixText {p : GPrefix} {κ : ByteArray → Prop} (h : κ (B (ptext p))) : L_impl_PrefixText p κ := by
  unfold L_impl_PrefixText
  refine S_impl_PrefixValid (ifW_of (fun hc => ?_) (fun hc => ?_))
  · simp at hc
    rw [ptext, if_neg hc] at h; exact h
  · simp at hc
    rw [ptext, if_pos hc] at h
    obtain ⟨h1, h2, h3, h4, _⟩ := id hc
    have a := dec_le (n := p.xBase.toNat / 256) (by omega)
    have b := dec_le (n := p.xBase.toNat % 256) (by omega)
    have c := dec_le (n := p.xLength.toNat) (by omega)
    have e0 : (2 : Int) ^ (Int.toNat 8) = 256 := by decide
    have em : bits .and .i64 p.xBase 255 = p.xBase % 256 := and_mask 8 (by decide) _ (by omega) (by omega)
    have e1 : (p.xBase / 256).toNat = p.xBase.toNat / 256 := by omega
    have e2 : (p.xBase % 256).toNat = p.xBase.toNat % 256 := by omega
    rw [em]
    refine ⟨by omega, by omega, by omega, ⟨by omega, by omega⟩, ?_⟩
    rw [e0]
    refine S_itoa (by omega) (by omega) (catW_B (m := [46]) (by rw [e1]; simp; omega) (S_itoa (by omega) (by omega) (catW_B (by rw [e1, e2]; simp; omega) (catW_B (m := [47]) (by rw [e1, e2]; simp; omega) (S_itoa (by omega) (by omega) (catW_B (by rw [e1, e2]; simp; omega) ?_))))))
    rw [e1, e2]
    simpa [ptx, List.append_assoc] using h

/-! ### the reader of the program -/
theorem run_dec {n : Nat} {r : List UInt8} (h : n ≤ 100000) (hr : ∀ c l, r = c :: l → dg c = false) : run 6 (decDigits n ++ r) = decDigits n := run_app 6 _ _ (dec_dg n) (dec_le h) hr
/-- whatever the text: either the empty answer or a prefix whose text it is -/
theorem T_impl_ReadPrefix {l : List UInt8} {κ : GPrefix × Bool → Prop} (hl : l.length ≤ 100000000000) (hz : κ (GPrefix.mk 0 0, false)) (h : ∀ p, PV p → ptx p = l → κ (p, true)) : L_impl_ReadPrefix (B l) κ := by
  have six : ∀ n, val (run 6 (l.drop n)) ≤ 999999 := fun n => val_6 (run_dg 6 _) (run_len 6 _).1
  have rl : ∀ n, n ≤ l.length → n + (run 6 (l.drop n)).length ≤ l.length := fun n hn => by have := (run_len 6 (l.drop n)).2; simp at this; omega
  have wl : ∀ n (r : List UInt8) (c : UInt8), l.drop n = [c] ++ r → n + 1 ≤ l.length := fun n r c e => by have := congrArg List.length e; simp at this; omega
  have fin : ∀ (a b : Nat) (c : Int), a ≤ 999999 → b ≤ 999999 → shlW (a : Int) 8 (fun t80 => addW t80 (b : Int) (fun t81 => L_impl_PrefixValid (GPrefix.mk t81 c) (fun r84 => ifW (!r84) (κ (GPrefix.mk 0 0, false)) (L_impl_PrefixText (GPrefix.mk t81 c) (fun r85 => ifW (!(decide (r85 = B l))) (κ (GPrefix.mk 0 0, false)) (κ (GPrefix.mk t81 c, true))))))) := by
    intro a b c ha hb
    have e0 : (2 : Int) ^ (Int.toNat 8) = 256 := by decide
    refine ⟨by omega, by omega, ?_⟩
    rw [e0]
    refine ⟨⟨by omega, by omega⟩, addW_of (by omega) (by omega) (S_impl_PrefixValid (ifW_of (fun hc => hz) (fun hc => S_impl_PrefixText (ifW_of (fun hc2 => hz) (fun hc2 => ?_)))))⟩
    simp [B_inj] at hc hc2
    refine h _ hc ?_
    rw [ptext, if_pos hc] at hc2; exact hc2
  unfold L_impl_ReadPrefix jnW
  simp only [ifW_true]
  have anyif : ∀ {b1 b2 b3 b4 b5 : Bool} {A : Prop}, A → ifW (!b1) (κ (GPrefix.mk 0 0, false)) (ifW (!b2) (κ (GPrefix.mk 0 0, false)) (ifW (!b3) (κ (GPrefix.mk 0 0, false)) (ifW (!b4) (κ (GPrefix.mk 0 0, false)) (ifW (!b5) (κ (GPrefix.mk 0 0, false)) A)))) :=
    fun hA => ifW_of (fun _ => hz) fun _ => ifW_of (fun _ => hz) fun _ => ifW_of (fun _ => hz) fun _ => ifW_of (fun _ => hz) fun _ => ifW_of (fun _ => hz) fun _ => hA
  refine S_number 0 rfl (Nat.zero_le _) (by omega) ?_
  generalize he1 : (0 + (run 6 (l.drop 0)).length) = n1
  have hn1 : n1 ≤ l.length := by have := rl 0 (by omega); omega
  refine S_word (w := [46]) n1 rfl hn1 (by omega) (by simp) (fun r e => ?_) (fun _ => ?_)
  · generalize he2 : (n1 + ([46] : List UInt8).length) = n2
    have hn2 : n2 ≤ l.length := by have := wl n1 r 46 e; simp at he2; omega
    refine S_number n2 rfl hn2 (by omega) ?_
    generalize he3 : (n2 + (run 6 (l.drop n2)).length) = n3
    have hn3 : n3 ≤ l.length := by have := rl n2 hn2; omega
    refine S_word (w := [47]) n3 rfl hn3 (by omega) (by simp) (fun r' e' => ?_) (fun _ => ?_)
    · have hn4 := wl n3 r' 47 e'
      refine S_number (n3 + ([47] : List UInt8).length) rfl (by simpa using hn4) (by omega) ?_
      exact anyif (fin _ _ _ (six _) (six _))
    · refine S_number n3 rfl hn3 (by omega) ?_
      exact anyif (fin _ _ _ (six _) (six _))
  · refine S_number n1 rfl hn1 (by omega) ?_
    generalize he3 : (n1 + (run 6 (l.drop n1)).length) = n3
    have hn3 : n3 ≤ l.length := by have := rl n1 hn1; omega
    refine S_word (w := [47]) n3 rfl hn3 (by omega) (by simp) (fun r' e' => ?_) (fun _ => ?_)
    · have hn4 := wl n3 r' 47 e'
      refine S_number (n3 + ([47] : List UInt8).length) rfl (by simpa using hn4) (by omega) ?_
      exact anyif (fin _ _ _ (six _) (six _))
    · refine S_number n3 rfl hn3 (by omega) ?_
      exact anyif (fin _ _ _ (six _) (six _))
end Go.Proofs.YtnogaeckmiekdaaDoor
