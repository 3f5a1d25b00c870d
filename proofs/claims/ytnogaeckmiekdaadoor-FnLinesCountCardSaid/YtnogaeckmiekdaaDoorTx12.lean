/- The reference's reader of rules. -/
import Derived.Test.YtnogaeckmiekdaaDoorTx11
set_option linter.unusedSimpArgs false
set_option linter.unusedVariables false
namespace Go.Proofs.YtnogaeckmiekdaaDoor
open Go.Lib (decDigits)

theorem hd_inj {a c a' c' : Int} (h : HV a c) (h' : HV a' c') (e : hd a c = hd a' c') : a = a' ∧ c = c' := by
  have ea : a = a' := aw_inj ⟨h.1, h.2.1⟩ ⟨h'.1, h'.2.1⟩ e
  subst ea
  refine ⟨rfl, ?_⟩
  by_cases h3 : a = 3
  · have h1 := h.2.2.1 h3
    have h2 := h'.2.2.1 h3
    simp only [hd, if_pos h3, List.append_cancel_left_eq, List.cons.injEq, true_and] at e
    have := dec_inj e
    omega
  · rw [h.2.2.2 h3, h'.2.2.2 h3]
theorem rtx0_hd (a c : Int) : rtx0 (GRule.mk [] a c) = hd a c := by simp [rtx0, tl]
theorem hd_ne (a c : Int) : hd a c ≠ [] := by
  have := aw_len a
  intro e
  cases h : aw a with
  | nil => rw [h] at this; simp at this
  | cons x y => simp [hd, h] at e
theorem rv_hd {a c : Int} : RV (GRule.mk [] a c) ↔ HV a c := ⟨fun h => h.2, fun h => ⟨⟨fun t ht => (by cases ht), (by simp)⟩, h⟩⟩
theorem ttx_no44 {t : GTest} (h : TV t) : (44 : UInt8) ∉ ttx t := by
  have hn : (44 : UInt8) ∉ nm t.xField := by rcases four h.1 h.2.1 with e0 | e0 | e0 | e0 <;> rw [e0] <;> decide
  have hr : (44 : UInt8) ∉ rtx t := by
    unfold rtx; split
    · simpa using dec_no (by decide)
    · simp only [List.mem_append, List.mem_cons, not_or]
      exact ⟨dec_no (by decide), by decide, dec_no (by decide)⟩
  have hb : (44 : UInt8) ∉ btx t := by
    unfold btx
    simp only [List.mem_append, List.mem_cons, not_or]
    exact ⟨hn, by decide, hr⟩
  unfold ttx; split
  · simp only [List.mem_cons, not_or]
    exact ⟨by decide, by decide, by decide, by decide, hb⟩
  · exact hb
theorem hd_no44 {a c : Int} (h : HV a c) : (44 : UInt8) ∉ hd a c := by
  have ha : (44 : UInt8) ∉ aw a := by rcases five h.1 h.2.1 with e | e | e | e | e <;> rw [e] <;> decide
  unfold hd; split
  · simp only [List.mem_append, List.mem_cons, not_or]
    exact ⟨ha, by decide, dec_no (by decide)⟩
  · simpa using ha
/-- what stands behind a comma -/
def kl (ts : List GTest) : List UInt8 := (tl ts).drop 1
theorem kl_cons (t : GTest) (ts : List GTest) : kl (t :: ts) = 32 :: (ttx t ++ tl ts) := by rw [kl, tl_cons]; rfl
theorem cut_kl {x : List UInt8} (hx : (44 : UInt8) ∉ x) (ts : List GTest) : cut 44 (x ++ tl ts) = (x, kl ts) := by
  cases ts with
  | nil => rw [tl_nil, List.append_nil, cut_no hx]; rfl
  | cons t ts => rw [tl_cons, cut_app hx, kl_cons]

/-- the loop that seeks the action -/
theorem S_seek {x : List UInt8} {κ : Int → Int → Prop} (F : ((Int × Int × Int) → Prop) → Int × Int × Int → Prop) (hF : ∀ nx10 t7 t8 t9, ifW (decide (t9 ≤ 5)) (loopW (fun (nx14 : (Int × Int × Int) → Prop) ((t11, t12, t13) : (Int × Int × Int)) => ifW (decide (t13 < 5)) (jnW (fun ((t140, t141) : (Int × Int)) => addW t13 1 (fun t143 => nx14 (t140, t141, t143))) (fun k142 => jnW (fun t77 => L_spec_RuleText (GRule.mk ([]) t9 t77) (fun r79 => ifW (decide (r79 = B x)) (k142 (t9, t77)) (k142 (t11, t12)))) (fun k78 => ifW (decide (t9 = 3)) (k78 t13) (k78 0)))) (addW t9 1 (fun t144 => nx10 (t11, t12, t144)))) (t7, t8, 0)) (κ t7 t8) → F nx10 (t7, t8, t9)) (h : ∀ a c : Int, 0 ≤ a → a ≤ 5 → 0 ≤ c → c ≤ 4 → (∀ a' c', HV a' c' → hd a' c' = x → a = a' ∧ c = c') → κ a c) :
    loopW F (0, 0, 1) := by
  refine count_loop_from 1 6 (fun s => s.2.2) (fun k s => s.2.2 = (k : Int) ∧ 1 ≤ k ∧ k ≤ 6 ∧ 0 ≤ s.1 ∧ s.1 ≤ 5 ∧ 0 ≤ s.2.1 ∧ s.2.1 ≤ 4 ∧ (∀ a' c', HV a' c' → hd a' c' = x → a' < k → s.1 = a' ∧ s.2.1 = c')) (fun k s h => h.1) (fun k s h => h.2.2.1) ?_ ⟨rfl, Nat.le_refl _, by omega, by simp, by simp, by simp, by simp, fun a' c' hv _ hl => by have := hv.1; omega⟩
  rintro k ⟨a, c, _⟩ next ⟨rfl, hk1, hk, a0, a1, c0, c1, he⟩ hn
  simp only at a0 a1 c0 c1 he
  refine hF _ _ _ _ (ifW_of (fun hc => ?_) (fun hc => ?_))
  · have hk5 : k ≤ 5 := by simp at hc; omega
    refine count_loop 5 (fun s => s.2.2) (fun j s => s.2.2 = (j : Int) ∧ j ≤ 5 ∧ 0 ≤ s.1 ∧ s.1 ≤ 5 ∧ 0 ≤ s.2.1 ∧ s.2.1 ≤ 4 ∧ (∀ a' c', HV a' c' → hd a' c' = x → (a' < k ∨ a' = k ∧ (if (k : Int) = 3 then c' < j else 0 < j)) → s.1 = a' ∧ s.2.1 = c')) (fun j s h => h.1) (fun j s h => h.2.1) ?_ ⟨rfl, Nat.zero_le _, a0, a1, c0, c1, fun a' c' hv hx hl => ?_⟩
    · rintro j ⟨u, v, _⟩ next2 ⟨rfl, hj, u0, u1, v0, v1, he2⟩ hn2
      simp only at u0 u1 v0 v1 he2
      refine ifW_of (fun hc2 => ?_) (fun hc2 => ?_)
      · have hj5 : j < 5 := by simp at hc2; omega
        unfold jnW
        have step : ∀ cc : Int, 0 ≤ cc → cc ≤ 4 → HV k cc → (∀ c', HV k c' → (if (k : Int) = 3 then c' < j + 1 else 0 < j + 1) → (if (k : Int) = 3 then c' < j else 0 < j) ∨ c' = cc) → L_spec_RuleText (GRule.mk ([]) (k : Int) cc) (fun r79 => ifW (decide (r79 = B x)) (addW (j : Int) 1 (fun t143 => next2 ((k : Int), cc, t143))) (addW (j : Int) 1 (fun t143 => next2 (u, v, t143)))) := by
          intro cc q0 q1 hv hcc
          refine S_spec_RuleText (by simp) ?_
          rw [rtext, if_pos (rv_hd.2 hv), rtx0_hd, B_dec]
          refine ifW_of (fun hx => ?_) (fun hx => ?_)
          · simp at hx
            refine addW_of (by omega) (by omega) (hn2 hj5 _ ⟨by simp, by omega, by simp only; omega, by simp only; omega, q0, q1, fun a' c' hv' hx' _ => ?_⟩)
            exact hd_inj hv hv' (hx.trans hx'.symm)
          · simp at hx
            refine addW_of (by omega) (by omega) (hn2 hj5 _ ⟨by simp, by omega, u0, u1, v0, v1, fun a' c' hv' hx' hl => ?_⟩)
            rcases hl with hl | ⟨rfl, hl⟩
            · exact he2 a' c' hv' hx' (.inl hl)
            · rcases hcc c' hv' (by simpa using hl) with hl' | rfl
              · exact he2 _ c' hv' hx' (.inr ⟨rfl, hl'⟩)
              · exact absurd hx' hx
        refine ifW_of (fun h3 => ?_) (fun h3 => ?_)
        · have h3' : (k : Int) = 3 := by simpa using h3
          refine step (j : Int) (by omega) (by omega) ⟨by omega, by omega, fun _ => ⟨by omega, by omega⟩, fun e => absurd h3' e⟩ (fun c' hv' hl => ?_)
          rw [if_pos h3'] at hl ⊢
          omega
        · have h3' : ¬ (k : Int) = 3 := by simpa using h3
          refine step 0 (by omega) (by omega) ⟨by omega, by omega, fun e => absurd e h3', fun _ => rfl⟩ (fun c' hv' hl => .inr (hv'.2.2.2 h3'))
      · have hj5 : j = 5 := by simp at hc2; omega
        subst hj5
        refine addW_of (by omega) (by omega) (hn (by omega) _ ⟨by simp, by omega, by omega, u0, u1, v0, v1, fun a' c' hv hx hl => ?_⟩)
        refine he2 a' c' hv hx ?_
        by_cases hlt : a' < k
        · exact .inl hlt
        · refine .inr ⟨by omega, ?_⟩
          split
          · have := hv.2.2.1 (by omega); omega
          · omega
    · refine he a' c' hv hx ?_
      rcases hl with hl | ⟨hl, hl2⟩
      · exact hl
      · exfalso
        split at hl2
        · have := hv.2.2.1 (by omega); omega
        · omega
  · have hge : k = 6 := by simp at hc; omega
    subst hge
    exact h a c a0 a1 c0 c1 (fun a' c' hv hx => he a' c' hv hx (by have := hv.2.1; omega))

theorem idx0 {z : List UInt8} {c : UInt8} {κ : UInt8 → Prop} (h : κ c) : idxW (B (c :: z)).data.toList 0 κ := by
  rw [B_data]; exact idxW_of 0 rfl (by simp) h
theorem T_spec_ReadRule {l : List UInt8} {κ : GRule × Bool → Prop} (hl : l.length ≤ 10000000) (hz : κ (GRule.mk [] 0 0, false)) (h : ∀ r, RV r → rtx0 r = l → κ (r, true)) : L_spec_ReadRule (B l) κ := by
  unfold L_spec_ReadRule
  refine S_cut (by omega) ?_
  have l1 := cut_len (c := 44) l
  generalize (cut 44 l).1 = x at *
  generalize (cut 44 l).2 = y0 at *
  show loopW _ (0, 0, 1)
  refine S_seek _ (fun nx t7 t8 t9 hh => hh) (fun a c a0 a1 c0 c1 _ => ?_)
  refine loopW_inv (fun s => ∃ (y : List UInt8) (k : Nat), s.2.1 = B y ∧ s.2.2 = (k : Int) ∧ y.length ≤ 10000000 ∧ k ≤ 7 ∧ s.1.length = k) (fun s => 8 - s.1.length) ?_ ⟨y0, 0, rfl, rfl, by omega, by omega, rfl⟩
  rintro ⟨xs, _, _⟩ next ⟨y, k, rfl, rfl, hy, hk, hx⟩ hn
  simp only at hx
  unfold jnW
  have fin : L_spec_RuleText (GRule.mk xs a c) (fun r294 => ifW (!(decide (r294 = B l))) (ifW true (κ ((GRule.mk ([]) 0 0), false)) (κ ((GRule.mk xs a c), true))) (ifW (decide (B l = (ByteArray.mk #[]))) (κ ((GRule.mk ([]) 0 0), false)) (κ ((GRule.mk xs a c), true)))) := by
    refine S_spec_RuleText (by simp only; omega) ?_
    simp only [ifW_true]
    refine ifW_of (fun _ => hz) (fun hc => ifW_of (fun _ => hz) (fun hc2 => ?_))
    rw [B_nil] at hc2
    simp [B_inj] at hc hc2
    by_cases hv : RV (GRule.mk xs a c)
    · rw [rtext, if_pos hv] at hc; exact h _ hv hc
    · rw [rtext, if_neg hv] at hc; exact absurd hc.symm hc2
  refine ifW_of (fun hc => ?_) (fun hc => ?_)
  · refine ifW_of (fun hc2 => ?_) (fun hc2 => ?_)
    · simp at hc2
      refine S_cut (by omega) ?_
      have l2 := cut_len (c := 44) y
      generalize (cut 44 y).1 = u at *
      generalize (cut 44 y).2 = v at *
      have cont : ∀ z, z.length ≤ 10000000 → L_spec_ReadTest (B z) (fun (r281, r282) => ifW (!r282) (κ ((GRule.mk ([]) 0 0), false)) (appW xs ([r281]) (fun _ => addW (k : Int) 1 (fun t293 => next ((xs ++ ([r281])), B v, t293))))) := by
        intro z hz'
        refine T_spec_ReadTest (by omega) (by simp only [Bool.not_false, ifW_true]; exact hz) (fun t _ _ => ?_)
        simp only [Bool.not_true, ifW_false]
        refine appW_of (by simp; omega) (addW_of (by omega) (by omega) (hn _ ⟨v, k + 1, rfl, by simp, by omega, by omega, by simp; omega⟩ (by simp; omega)))
      refine ifW_of (fun hc3 => ?_) (fun hc3 => ?_)
      · simp only [ifW_true]; exact hz
      · rw [B_nil, B_dec] at hc3
        replace hc3 := of_decide_eq_false hc3
        cases u with
        | nil => exact absurd rfl hc3
        | cons d z =>
          refine idx0 (ifW_of (fun _ => hz) (fun _ => ?_))
          refine sliceS_B 1 (d :: z).length rfl (by rw [B_size]) (by simp) (by omega) ?_
          rw [List.take_length]
          exact cont z (by simp at l2; omega)
    · simp only [ifW_false]; exact fin
  · simp only [ifW_false]; exact fin

theorem C_spec_ReadRule {r : GRule} {κ : GRule × Bool → Prop} (hv : RV r) (h : κ (r, true)) : L_spec_ReadRule (B (rtx0 r)) κ := by
  have hl := rtx0_len hv
  obtain ⟨⟨v1, v2⟩, v3⟩ := id hv
  have c0 : cut 44 (rtx0 r) = (hd r.xAction r.xChain, kl r.xTests) := cut_kl (hd_no44 v3) _
  unfold L_spec_ReadRule
  refine S_cut (by omega) ?_
  rw [c0]
  show loopW _ (0, 0, 1)
  refine S_seek _ (fun nx t7 t8 t9 hh => hh) (fun a c a0 a1 c0 c1 hac => ?_)
  obtain ⟨rfl, rfl⟩ := hac _ _ v3 rfl
  refine count_loop r.xTests.length (fun s => s.2.2) (fun k s => s = (r.xTests.take k, B (kl (r.xTests.drop k)), (k : Int)) ∧ k ≤ r.xTests.length) (fun k s h => by rw [h.1]) (fun k s h => h.2) ?_ ⟨by simp, Nat.zero_le _⟩
  rintro k _ next ⟨rfl, hk⟩ hn
  unfold jnW
  by_cases hlt : k < r.xTests.length
  · have hd1 : r.xTests.drop k = r.xTests[k] :: r.xTests.drop (k + 1) := List.drop_eq_getElem_cons hlt
    have htv := v1 _ (List.getElem_mem hlt)
    have htl := ttx_len htv
    have hkl : kl (r.xTests.drop k) = 32 :: ttx r.xTests[k] ++ tl (r.xTests.drop (k + 1)) := by rw [hd1, kl_cons]; rfl
    have hcut : cut 44 (kl (r.xTests.drop k)) = (32 :: ttx r.xTests[k], kl (r.xTests.drop (k + 1))) := by
      rw [hkl]
      exact cut_kl (by simp only [List.mem_cons, not_or]; exact ⟨by decide, ttx_no44 htv⟩) _
    have hkk := tl_len (r.xTests.drop (k + 1)) (fun t ht => v1 t (List.mem_of_mem_drop ht))
    rw [List.length_drop] at hkk
    have hlen : (kl (r.xTests.drop k)).length ≤ 1000 := by rw [hkl]; simp; omega
    refine ifW_of (fun hc => ?_) (fun hc => ?_)
    · refine ifW_of (fun hc2 => ?_) (fun hc2 => by simp at hc2; omega)
      refine S_cut (by omega) ?_
      rw [hcut]
      refine ifW_of (fun hc3 => ?_) (fun hc3 => ?_)
      · rw [B_nil, B_dec] at hc3; simp at hc3
      · refine idx0 (ifW_of (fun hx => by simp at hx) (fun _ => ?_))
        refine sliceS_B 1 (32 :: ttx r.xTests[k]).length rfl (by rw [B_size]) (by simp) (Nat.le_refl _) ?_
        rw [List.take_length]
        refine C_spec_ReadTest htv ?_
        simp only [Bool.not_true, ifW_false]
        refine appW_of (by simp; omega) (addW_of (by omega) (by omega) (hn hlt _ ⟨?_, by omega⟩))
        rw [List.take_succ_eq_append_getElem hlt]
        simp
    · rw [B_nil, B_dec, hkl] at hc; simp at hc
  · have hge : r.xTests.length ≤ k := by omega
    refine ifW_of (fun hc => ?_) (fun hc => ?_)
    · rw [List.drop_eq_nil_of_le hge, B_nil, B_dec] at hc; simp [kl, tl] at hc
    · simp only [ifW_false]
      rw [List.take_of_length_le hge]
      refine S_spec_RuleText (r := r) (by omega) ?_
      rw [rtext, if_pos hv, B_nil]
      have hne : rtx0 r ≠ [] := by
        have := hd_ne r.xAction r.xChain
        simp [rtx0, this]
      simp [B_inj, hne]
      exact h
end Go.Proofs.YtnogaeckmiekdaaDoor
