/- Readers of tests, both; what they answer. -/
import Derived.Test.YtnogaeckmiekdaaDoorTx6
set_option linter.unusedSimpArgs false
set_option linter.unusedVariables false
namespace Go.Proofs.YtnogaeckmiekdaaDoor
open Go.Lib (decDigits)

/-- what the scanner of a test hands on -/
def Fine (t : GTest) : Prop := 0 ≤ t.xField ∧ t.xField ≤ 3 ∧ 0 ≤ t.xLo ∧ t.xLo ≤ 999999 ∧ 0 ≤ t.xHi ∧ t.xHi ≤ 999999
theorem nm_inj {a b : Int} (ha : 0 ≤ a ∧ a ≤ 3) (hb : 0 ≤ b ∧ b ≤ 3) (h : nm a = nm b) : a = b := by
  rcases four ha.1 ha.2 with rfl | rfl | rfl | rfl <;> rcases four hb.1 hb.2 with rfl | rfl | rfl | rfl <;> first | rfl | (exact absurd h (by decide))
theorem nm_ne {a b : Int} {r s : List UInt8} (ha : 0 ≤ a ∧ a ≤ 3) (hb : 0 ≤ b ∧ b ≤ 3) (h : nm a ++ 32 :: r = (nm b ++ [32]) ++ s) : a = b := by
  rcases four ha.1 ha.2 with rfl | rfl | rfl | rfl <;> rcases four hb.1 hb.2 with rfl | rfl | rfl | rfl <;> first | rfl | (simp [nm] at h)
theorem S_field {l : List UInt8} {a : Int} {κ : Int × Bool × Int → Prop} (n : Nat) (ea : a = n) (hn : n ≤ l.length) (hl : l.length ≤ 100000000000)
    (hok : ∀ f : Int, 0 ≤ f → f ≤ 3 → ∀ r, l.drop n = nm f ++ 32 :: r → κ (f, true, ((n + (nm f).length + 1 : Nat) : Int))) (hno : (¬ ∃ f : Int, 0 ≤ f ∧ f ≤ 3 ∧ ∃ r, l.drop n = nm f ++ 32 :: r) → κ (0, false, (n : Int))) : L_impl_scanner_field (B l) a κ := by
  subst ea
  unfold L_impl_scanner_field
  refine count_loop 4 (fun s => s.2) (fun k s => s = ((n : Int), (k : Int)) ∧ k ≤ 4 ∧ ∀ i : Nat, i < k → ∀ r, l.drop n ≠ (nm (i : Int) ++ [32]) ++ r) (fun k s h => by rw [h.1]) (fun k s h => h.2.1) ?_ ⟨rfl, Nat.zero_le _, fun i hi => by omega⟩
  rintro k _ next ⟨rfl, hk, he⟩ hnx
  refine ifW_of (fun hc => ?_) (fun hc => ?_)
  · have hlt : k < 4 := by simp at hc; omega
    refine S_shape (by omega) (by omega) (fun e en _ => ?_)
    have hnl := nm_len (k : Int)
    rw [en]
    refine catW_B (m := [32]) (by simp; omega) ?_
    refine S_word n rfl hn (by omega) (by simp; omega) (fun r e => ?_) (fun hne => ?_)
    · simp only [ifW_true]
      have := hok (k : Int) (by omega) (by omega) r (by simpa using e)
      simpa [Nat.add_assoc] using this
    · simp only [ifW_false]
      refine addW_of (by omega) (by omega) (hnx hlt _ ⟨by simp, by omega, fun i hi r e => ?_⟩)
      by_cases hik : i = k
      · subst hik; exact hne r e
      · exact he i (by omega) r e
  · have hge : k = 4 := by simp at hc; omega
    subst hge
    refine hno (fun ⟨f, f0, f1, r, e⟩ => ?_)
    obtain ⟨i, rfl⟩ := Int.eq_ofNat_of_zero_le f0
    exact he i (by omega) r (by simpa using e)

theorem T_scanner_test {l : List UInt8} {a : Int} {κ : GTest × Bool × Int → Prop} (n : Nat) (ea : a = n) (hn : n ≤ l.length) (hl : l.length ≤ 100000000000)
    (h : ∀ t m, Fine t → n < m → m ≤ l.length → κ (t, true, (m : Int))) (hz : ∀ m : Nat, n ≤ m → m ≤ l.length → κ (GTest.mk 0 0 0 false, false, (m : Int))) : L_impl_scanner_test (B l) a κ := by
  have six : ∀ n, val (run 6 (l.drop n)) ≤ 999999 := fun n => val_6 (run_dg 6 _) (run_len 6 _).1
  have rl : ∀ n, n ≤ l.length → n + (run 6 (l.drop n)).length ≤ l.length := fun n hn => by have := (run_len 6 (l.drop n)).2; simp at this; omega
  have wl : ∀ (n : Nat) (w r : List UInt8), n ≤ l.length → l.drop n = w ++ r → n + w.length ≤ l.length := fun n w r hn e => by have := congrArg List.length e; simp at this; omega
  have rest : ∀ (b : Bool) (m0 : Nat), n ≤ m0 → m0 ≤ l.length → L_impl_scanner_field (B l) (m0 : Int) (fun (r9, r10, r11) => ifW (!r10) (κ ((GTest.mk 0 0 0 false), false, r11)) (L_impl_scanner_number (B l) r11 (fun (r12, r13, r14) => ifW (!r13) (κ ((GTest.mk 0 0 0 false), false, r14)) (L_impl_scanner_word (B l) r14 (ByteArray.mk #[45]) (fun (r15, r16) => ifW r15 (L_impl_scanner_number (B l) r16 (fun (r17, r18, r19) => ifW (!r18) (κ ((GTest.mk 0 0 0 false), false, r19)) (κ ((GTest.mk r9 r12 r17 b), true, r19)))) (κ ((GTest.mk r9 r12 r12 b), true, r16))))))) := by
    intro b m0 h0 h1
    refine S_field m0 rfl h1 hl (fun f f0 f1 r e => ?_) (fun _ => ?_)
    · have hm := wl m0 (nm f ++ [32]) r h1 (by simpa using e)
      simp only [List.length_append, List.length_singleton] at hm
      simp only [Bool.not_true, ifW_false]
      refine S_number (m0 + (nm f).length + 1) rfl (by omega) (by omega) ?_
      have hv := six (m0 + (nm f).length + 1)
      have hr := rl (m0 + (nm f).length + 1) (by omega)
      generalize run 6 (l.drop (m0 + (nm f).length + 1)) = R at *
      refine ifW_of (fun _ => hz _ (by omega) hr) (fun _ => ?_)
      refine S_word (w := [45]) (m0 + (nm f).length + 1 + R.length) rfl hr (by omega) (by simp) (fun r2 e2 => ?_) (fun _ => ?_)
      · have hm2 := wl _ _ _ hr e2
        simp only [ifW_true]
        refine S_number _ rfl hm2 (by omega) ?_
        have hv2 := six (m0 + (nm f).length + 1 + R.length + ([45] : List UInt8).length)
        have hr2 := rl _ hm2
        generalize run 6 (l.drop (m0 + (nm f).length + 1 + R.length + ([45] : List UInt8).length)) = R2 at *
        refine ifW_of (fun _ => hz _ (by omega) hr2) (fun _ => h _ _ ⟨f0, f1, by simp, by simp; omega, by simp, by simp; omega⟩ (by omega) hr2)
      · simp only [ifW_false]
        exact h _ _ ⟨f0, f1, by simp, by simp; omega, by simp, by simp; omega⟩ (by omega) hr
    · simp only [Bool.not_false, ifW_true]
      exact hz _ h0 h1
  subst ea
  unfold L_impl_scanner_test jnW
  refine S_word (w := [110, 111, 116, 32]) n rfl hn (by omega) (by simp) (fun r e => ?_) (fun _ => ?_)
  · exact rest true _ (by omega) (wl _ _ _ hn e)
  · exact rest false _ (by omega) hn

/-- behind a test stands the end, or a comma -/
def Ends (r : List UInt8) : Prop := ∀ c m, r = c :: m → c = 44
theorem Ends.dg {r : List UInt8} (h : Ends r) : ∀ c m, r = c :: m → dg c = false := fun c m e => by rw [h c m e]; decide
theorem C_scanner_test {l p r : List UInt8} {t : GTest} {a : Int} {κ : GTest × Bool × Int → Prop} (ht : TV t) (hr : Ends r) (el : l = p ++ (ttx t ++ r)) (ea : a = (p.length : Nat)) (hl : l.length ≤ 100000000000)
    (h : κ (t, true, ((p.length + (ttx t).length : Nat) : Int))) : L_impl_scanner_test (B l) a κ := by
  obtain ⟨a1, a2, a3, a4, a5⟩ := id ht
  have htop := top_le t.xField
  have hnl := nm_len t.xField
  have rest : ∀ (q : List UInt8), l = q ++ (btx t ++ r) → κ (t, true, ((q.length + (btx t).length : Nat) : Int)) → L_impl_scanner_field (B l) (q.length : Int) (fun (r9, r10, r11) => ifW (!r10) (κ ((GTest.mk 0 0 0 false), false, r11)) (L_impl_scanner_number (B l) r11 (fun (r12, r13, r14) => ifW (!r13) (κ ((GTest.mk 0 0 0 false), false, r14)) (L_impl_scanner_word (B l) r14 (ByteArray.mk #[45]) (fun (r15, r16) => ifW r15 (L_impl_scanner_number (B l) r16 (fun (r17, r18, r19) => ifW (!r18) (κ ((GTest.mk 0 0 0 false), false, r19)) (κ ((GTest.mk r9 r12 r17 t.xNot), true, r19)))) (κ ((GTest.mk r9 r12 r12 t.xNot), true, r16))))))) := by
    intro q eq hq
    have hlen : l.length = q.length + ((btx t).length + r.length) := by rw [eq]; simp
    have hbl : (btx t).length = (nm t.xField).length + 1 + (rtx t).length := by simp [btx]; omega
    have d0 : l.drop q.length = nm t.xField ++ 32 :: (rtx t ++ r) := by rw [eq, drop_app rfl]; simp [btx]
    have d1 : l.drop (q.length + (nm t.xField).length + 1) = rtx t ++ r := by
      rw [Nat.add_assoc, ← List.drop_drop, d0, ← List.drop_drop, drop_app rfl]; rfl
    refine S_field q.length rfl (by omega) hl (fun f f0 f1 s e => ?_) (fun hno => absurd ⟨_, a1, a2, _, d0⟩ hno)
    have ef : t.xField = f := nm_ne (s := s) ⟨a1, a2⟩ ⟨f0, f1⟩ (by rw [← d0, e]; simp)
    subst ef
    simp only [Bool.not_true, ifW_false]
    refine S_number (q.length + (nm t.xField).length + 1) rfl (by omega) (by omega) ?_
    rw [d1]
    have el : ((t.xLo.toNat : Nat) : Int) = t.xLo := by omega
    have eh : ((t.xHi.toNat : Nat) : Int) = t.xHi := by omega
    by_cases hlh : t.xHi = t.xLo
    · have e1 : rtx t = decDigits t.xLo.toNat := by simp [rtx, hlh]
      have hll : (rtx t).length = (decDigits t.xLo.toNat).length := by rw [e1]
      rw [e1, run_dec (by omega) hr.dg, decide_eq_true (dec_pos _), dec_val]
      simp only [Bool.not_true, ifW_false]
      have d2 : l.drop (q.length + (nm t.xField).length + 1 + (decDigits t.xLo.toNat).length) = r := by rw [← List.drop_drop, d1, e1, drop_app rfl]
      refine S_word (w := [45]) _ rfl (by omega) (by omega) (by simp) (fun s es => ?_) (fun _ => ?_)
      · rw [d2] at es
        exact absurd (hr 45 s (by simpa using es)) (by decide)
      · simp only [ifW_false]
        have et : GTest.mk t.xField t.xLo t.xLo t.xNot = t := by cases t; simp_all
        rw [el, et]
        have en : q.length + (nm t.xField).length + 1 + (decDigits t.xLo.toNat).length = q.length + (btx t).length := by omega
        rw [en]; exact hq
    · have e1 : rtx t = decDigits t.xLo.toNat ++ 45 :: decDigits t.xHi.toNat := by simp [rtx, hlh]
      have hll : (rtx t).length = (decDigits t.xLo.toNat).length + 1 + (decDigits t.xHi.toNat).length := by rw [e1]; simp; omega
      rw [e1, List.append_assoc, List.cons_append, run_dec (by omega) (not_dg_cons (by decide)), decide_eq_true (dec_pos _), dec_val]
      simp only [Bool.not_true, ifW_false]
      have d2 : l.drop (q.length + (nm t.xField).length + 1 + (decDigits t.xLo.toNat).length) = 45 :: (decDigits t.xHi.toNat ++ r) := by
        rw [← List.drop_drop, d1, e1, List.append_assoc, drop_app rfl]; rfl
      have d3 : l.drop (q.length + (nm t.xField).length + 1 + (decDigits t.xLo.toNat).length + ([45] : List UInt8).length) = decDigits t.xHi.toNat ++ r := by
        rw [← List.drop_drop, d2]; rfl
      refine S_word (w := [45]) _ rfl (by omega) (by omega) (by simp) (fun s es => ?_) (fun hno => absurd (by rw [d2]; rfl) (hno (decDigits t.xHi.toNat ++ r)))
      simp only [ifW_true]
      refine S_number _ rfl (by simp; omega) (by omega) ?_
      rw [d3, run_dec (by omega) hr.dg, decide_eq_true (dec_pos _), dec_val]
      simp only [Bool.not_true, ifW_false]
      have et : GTest.mk t.xField t.xLo t.xHi t.xNot = t := by cases t; rfl
      rw [el, eh, et]
      have en : q.length + (nm t.xField).length + 1 + (decDigits t.xLo.toNat).length + ([45] : List UInt8).length + (decDigits t.xHi.toNat).length = q.length + (btx t).length := by simp; omega
      rw [en]; exact hq
  subst ea
  have hlen : l.length = p.length + ((ttx t).length + r.length) := by rw [el]; simp
  unfold L_impl_scanner_test jnW
  by_cases hn : t.xNot = true
  · have e : ttx t = [110, 111, 116, 32] ++ btx t := by rw [ttx_not, if_pos hn]
    have e' : l = (p ++ [110, 111, 116, 32]) ++ (btx t ++ r) := by rw [el, e]; simp
    refine S_word (w := [110, 111, 116, 32]) p.length rfl (by omega) (by omega) (by simp) (fun s es => ?_) (fun hno => absurd (by rw [el, drop_app rfl, e, List.append_assoc]) (hno (btx t ++ r)))
    have e3 : (p ++ ([110, 111, 116, 32] : List UInt8)).length + (btx t).length = p.length + (ttx t).length := by rw [e]; simp; omega
    have := rest (p ++ [110, 111, 116, 32]) e' (by rw [e3]; exact h)
    rw [hn] at this
    simpa using this
  · have hf : t.xNot = false := by simpa using hn
    have e : ttx t = btx t := by rw [ttx_not, if_neg hn]; rfl
    refine S_word (w := [110, 111, 116, 32]) p.length rfl (by omega) (by omega) (by simp) (fun s es => ?_) (fun _ => ?_)
    · rw [el, drop_app rfl, e] at es
      exfalso
      rcases four a1 a2 with e0 | e0 | e0 | e0 <;> simp [btx, nm, e0] at es
    · have := rest p (by rw [el, e]) (by rw [e] at h; exact h)
      rw [hf] at this
      exact this

theorem T_impl_ReadTest {l : List UInt8} {κ : GTest × Bool → Prop} (hl : l.length ≤ 100000000000) (hz : κ (GTest.mk 0 0 0 false, false)) (h : ∀ t, TV t → ttx t = l → κ (t, true)) : L_impl_ReadTest (B l) κ := by
  unfold L_impl_ReadTest jnW L_impl_scanner_done
  simp only [ifW_true]
  refine T_scanner_test 0 rfl (Nat.zero_le _) hl (fun t m hf h0 h1 => ?_) (fun m h0 h1 => ?_)
  · simp only [Bool.not_true, ifW_false]
    refine ifW_of (fun _ => hz) (fun _ => S_impl_TestValid (ifW_of (fun _ => hz) (fun hc => ?_)))
    simp at hc
    refine S_impl_Test_text hc (ifW_of (fun _ => hz) (fun hc2 => ?_))
    simp [B_inj] at hc2
    exact h _ hc hc2
  · simp only [Bool.not_false, ifW_true]; exact hz
theorem C_impl_ReadTest {t : GTest} {κ : GTest × Bool → Prop} (ht : TV t) (h : κ (t, true)) : L_impl_ReadTest (B (ttx t)) κ := by
  have hl := ttx_len ht
  unfold L_impl_ReadTest jnW L_impl_scanner_done
  refine C_scanner_test (p := []) (r := []) ht (fun c m e => by cases e) (by simp) rfl (by omega) ?_
  simp only [Bool.not_true, ifW_false]
  refine ifW_of (fun hc => by simp [B_size] at hc) (fun _ => S_impl_TestValid (ifW_of (fun hc => absurd ht (by simpa using hc)) (fun hc => S_impl_Test_text ht (ifW_of (fun hc2 => by simp at hc2) (fun _ => h)))))
end Go.Proofs.YtnogaeckmiekdaaDoor
