/- Readers of prefixes, both; what they answer. -/
import Derived.Test.YtnogaeckmiekdaaDoorTx3
set_option linter.unusedSimpArgs false
set_option linter.unusedVariables false
namespace Go.Proofs.YtnogaeckmiekdaaDoor
open Go.Lib (decDigits)

theorem drop_app {l m : List UInt8} {n : Nat} (h : n = l.length) : (l ++ m).drop n = m := by subst h; simp
theorem not_dg_cons {d : UInt8} {r : List UInt8} (h : dg d = false) : ∀ c l, d :: r = c :: l → dg c = false := fun c l e => by cases e; exact h
theorem not_dg_nil : ∀ (c : UInt8) (l : List UInt8), ([] : List UInt8) = c :: l → dg c = false := fun c l e => by cases e
theorem C_impl_ReadPrefix {p : GPrefix} {κ : GPrefix × Bool → Prop} (hp : PV p) (h : κ (p, true)) : L_impl_ReadPrefix (B (ptx p)) κ := by
  obtain ⟨h1, h2, h3, h4, _⟩ := id hp
  have htx := ptx_len hp
  have hpt : ptext p = ptx p := if_pos hp
  generalize ha : decDigits (p.xBase.toNat / 256) = a
  generalize hb : decDigits (p.xBase.toNat % 256) = b
  generalize hc : decDigits p.xLength.toNat = c
  have hl : ptx p = a ++ 46 :: (b ++ 47 :: c) := by unfold ptx; rw [ha, hb, hc]
  have va : val a = p.xBase.toNat / 256 := by rw [← ha, dec_val]
  have vb : val b = p.xBase.toNat % 256 := by rw [← hb, dec_val]
  have vc : val c = p.xLength.toNat := by rw [← hc, dec_val]
  have na : a ≠ [] := by rw [← ha]; exact dec_pos _
  have nb : b ≠ [] := by rw [← hb]; exact dec_pos _
  have nc : c ≠ [] := by rw [← hc]; exact dec_pos _
  have ra : run 6 (a ++ 46 :: (b ++ 47 :: c)) = a := by rw [← ha]; exact run_dec (by omega) (not_dg_cons (by decide))
  have rb : run 6 (b ++ 47 :: c) = b := by rw [← hb]; exact run_dec (by omega) (not_dg_cons (by decide))
  have rc : run 6 c = c := by
    have := run_dec (n := p.xLength.toNat) (r := []) (by omega) not_dg_nil
    rw [hc] at this; simpa using this
  have d1 : (ptx p).drop a.length = 46 :: (b ++ 47 :: c) := by rw [hl]; exact drop_app rfl
  have d2 : (ptx p).drop (a.length + 1) = b ++ 47 :: c := by rw [← List.drop_drop, d1]; rfl
  have d3 : (ptx p).drop (a.length + 1 + b.length) = 47 :: c := by rw [← List.drop_drop, d2]; exact drop_app rfl
  have d4 : (ptx p).drop (a.length + 1 + b.length + 1) = c := by rw [← List.drop_drop, d3]; rfl
  have hlen : (ptx p).length = a.length + 1 + b.length + 1 + c.length := by rw [hl]; simp; omega
  unfold L_impl_ReadPrefix jnW
  refine S_number 0 rfl (Nat.zero_le _) (by omega) ?_
  rw [List.drop_zero, show run 6 (ptx p) = a by rw [hl]; exact ra, Nat.zero_add]
  refine S_word (w := [46]) a.length rfl (by omega) (by omega) (by simp) (fun _ _ => ?_) (fun hno => absurd (by rw [d1]; rfl) (hno (b ++ 47 :: c)))
  refine S_number (a.length + 1) rfl (by omega) (by omega) ?_
  rw [d2, rb]
  refine S_word (w := [47]) (a.length + 1 + b.length) rfl (by omega) (by omega) (by simp) (fun _ _ => ?_) (fun hno => absurd (by rw [d3]; rfl) (hno c))
  refine S_number (a.length + 1 + b.length + 1) rfl (by omega) (by omega) ?_
  rw [d4, rc]
  simp only [decide_eq_true na, decide_eq_true nb, decide_eq_true nc, Bool.not_true, ifW_false]
  have e0 : (2 : Int) ^ (Int.toNat 8) = 256 := by decide
  refine ⟨by omega, by omega, ?_⟩
  rw [e0, va, vb, vc]
  have ep : GPrefix.mk (((p.xBase.toNat / 256 : Nat) : Int) * 256 + ((p.xBase.toNat % 256 : Nat) : Int)) (p.xLength.toNat : Int) = p := by
    cases p; simp only [GPrefix.mk.injEq] at *; omega
  refine ⟨⟨by omega, by omega⟩, addW_of (by omega) (by omega) ?_⟩
  rw [ep]
  refine S_impl_PrefixValid ?_
  rw [decide_eq_true hp]
  simp only [Bool.not_true, ifW_false]
  refine S_impl_PrefixText ?_
  rw [hpt]
  simpa using h

theorem T_spec_ReadPrefix {l : List UInt8} {κ : GPrefix × Bool → Prop} (hl : l.length ≤ 100000000000) (hz : κ (GPrefix.mk 0 0, false)) (h : ∀ p, PV p → ptx p = l → κ (p, true)) : L_spec_ReadPrefix (B l) κ := by
  unfold L_spec_ReadPrefix jnW
  refine S_cut (by omega) ?_
  have l1 := cut_len (c := 46) l
  generalize (cut 46 l).1 = x at *
  generalize (cut 46 l).2 = y at *
  refine S_cut (by omega) ?_
  have l2 := cut_len (c := 47) y
  generalize (cut 47 y).1 = y1 at *
  generalize (cut 47 y).2 = z at *
  refine S_value (by omega) (fun v v1 v2 _ => mulW_of (by omega) (by omega) (S_value (by omega) (fun u u1 u2 _ => addW_of (by omega) (by omega) (S_value (by omega) (fun t t1 t2 _ => S_spec_PrefixText ?_)))))
  simp only [ifW_true]
  refine ifW_of (fun hc => hz) (fun hc => ?_)
  refine ifW_of (fun hc2 => hz) (fun hc2 => ?_)
  rw [B_nil] at hc2
  simp [B_inj] at hc hc2
  by_cases hv : PV (GPrefix.mk (256 * v + u) t)
  · rw [ptext, if_pos hv] at hc; exact h _ hv hc
  · rw [ptext, if_neg hv] at hc; exact absurd hc.symm hc2

theorem C_spec_ReadPrefix {p : GPrefix} {κ : GPrefix × Bool → Prop} (hp : PV p) (h : κ (p, true)) : L_spec_ReadPrefix (B (ptx p)) κ := by
  obtain ⟨h1, h2, h3, h4, _⟩ := id hp
  have htx := ptx_len hp
  have hpt : ptext p = ptx p := if_pos hp
  have c1 : cut 46 (ptx p) = (decDigits (p.xBase.toNat / 256), decDigits (p.xBase.toNat % 256) ++ 47 :: decDigits p.xLength.toNat) := cut_app (dec_no (by decide))
  have c2 : cut 47 (decDigits (p.xBase.toNat % 256) ++ 47 :: decDigits p.xLength.toNat) = (decDigits (p.xBase.toNat % 256), decDigits p.xLength.toNat) := cut_app (dec_no (by decide))
  have a := dec_le (n := p.xBase.toNat / 256) (by omega)
  have b := dec_le (n := p.xBase.toNat % 256) (by omega)
  have c := dec_le (n := p.xLength.toNat) (by omega)
  have hne : ptx p ≠ [] := by unfold ptx; simp
  unfold L_spec_ReadPrefix jnW
  refine S_cut (by omega) ?_
  rw [c1]
  dsimp only
  refine S_cut (by simp; omega) ?_
  rw [c2]
  dsimp only
  refine S_value (by omega) (fun v v1 v2 v3 => ?_)
  have ev := v3 _ rfl (by omega)
  refine mulW_of (by omega) (by omega) (S_value (by omega) (fun u u1 u2 u3 => ?_))
  have eu := u3 _ rfl (by omega)
  refine addW_of (by omega) (by omega) (S_value (by omega) (fun t t1 t2 t3 => ?_))
  have et := t3 _ rfl (by omega)
  have ep : GPrefix.mk (256 * v + u) t = p := by cases p; simp only [GPrefix.mk.injEq] at *; omega
  rw [ep]
  refine S_spec_PrefixText ?_
  rw [hpt, B_nil]
  simp [B_inj, hne]
  exact h

open Classical in
/-- what a reader of prefixes answers -/
noncomputable def rdP (l : List UInt8) : GPrefix × Bool := if h : ∃ p, PV p ∧ ptx p = l then (h.choose, true) else (GPrefix.mk 0 0, false)
theorem rdP_ok {l : List UInt8} (h : ∃ p, PV p ∧ ptx p = l) : ∃ p, PV p ∧ ptx p = l ∧ rdP l = (p, true) := ⟨h.choose, h.choose_spec.1, h.choose_spec.2, by unfold rdP; rw [dif_pos h]⟩
theorem rdP_no {l : List UInt8} (h : ¬ ∃ p, PV p ∧ ptx p = l) : rdP l = (GPrefix.mk 0 0, false) := by unfold rdP; rw [dif_neg h]
theorem S_impl_ReadPrefix {l : List UInt8} {κ : GPrefix × Bool → Prop} (hl : l.length ≤ 100000000000) (h : κ (rdP l)) : L_impl_ReadPrefix (B l) κ := by
  by_cases he : ∃ p, PV p ∧ ptx p = l
  · obtain ⟨p, hp, rfl, e⟩ := rdP_ok he
    rw [e] at h; exact C_impl_ReadPrefix hp h
  · rw [rdP_no he] at h
    exact T_impl_ReadPrefix hl h (fun p hp e => absurd ⟨p, hp, e⟩ he)
theorem S_spec_ReadPrefix {l : List UInt8} {κ : GPrefix × Bool → Prop} (hl : l.length ≤ 100000000000) (h : κ (rdP l)) : L_spec_ReadPrefix (B l) κ := by
  by_cases he : ∃ p, PV p ∧ ptx p = l
  · obtain ⟨p, hp, rfl, e⟩ := rdP_ok he
    rw [e] at h; exact C_spec_ReadPrefix hp h
  · rw [rdP_no he] at h
    exact T_spec_ReadPrefix hl h (fun p hp e => absurd ⟨p, hp, e⟩ he)
theorem ptx_inj {p q : GPrefix} {r : List UInt8} (hp : PV p) (hq : PV q) (hr : ∀ c ∈ r, dg c = true) (h : ptx q = ptx p ++ r) : q.xBase = p.xBase ∧ decDigits q.xLength.toNat = decDigits p.xLength.toNat ++ r := by
  obtain ⟨p1, p2, p3, p4, _⟩ := hp
  obtain ⟨q1, q2, q3, q4, _⟩ := hq
  rw [show ptx p ++ r = decDigits (p.xBase.toNat / 256) ++ 46 :: (decDigits (p.xBase.toNat % 256) ++ 47 :: (decDigits p.xLength.toNat ++ r)) by simp [ptx]] at h
  unfold ptx at h
  obtain ⟨e1, e2⟩ := dec_split (dec_dg _) (dec_dg _) (not_dg_cons (d := 46) (by decide)) (not_dg_cons (d := 46) (by decide)) h
  obtain ⟨e3, e4⟩ := dec_split (dec_dg _) (dec_dg _) (not_dg_cons (d := 47) (by decide)) (not_dg_cons (d := 47) (by decide)) (List.cons.inj e2).2
  replace e4 := (List.cons.inj e4).2
  have := dec_inj e1
  have := dec_inj e3
  exact ⟨by omega, e4⟩

/-! ### the laws -/
theorem eqPrefix_of {p q : GPrefix} {κ : Bool → Prop} (h : κ (decide (p = q))) : L_laws_eqPrefix p q κ := by
  unfold L_laws_eqPrefix
  refine ifW_of (fun hc => ?_) (fun hc => ifW_of (fun hc2 => ?_) (fun hc2 => ?_))
  · have : p ≠ q := fun e => by subst e; simp at hc
    rw [decide_eq_false this] at h; exact h
  · have : p ≠ q := fun e => by subst e; simp at hc2
    rw [decide_eq_false this] at h; exact h
  · simp at hc hc2
    have : p = q := by cases p; cases q; simp_all
    rw [decide_eq_true this] at h; exact h
theorem pureFnExactReadPrefix (s : ByteArray) : L_laws_FnExactReadPrefix s (fun r => r = true) := by
  rw [← B_eta s]
  generalize s.data.toList = l
  unfold L_laws_FnExactReadPrefix jnW
  rw [B_size]
  refine ifW_of (fun _ => rfl) (fun hc => ?_)
  simp at hc
  refine S_spec_ReadPrefix (by omega) (S_impl_ReadPrefix (by omega) ?_)
  refine eqPrefix_of ?_
  simp
end Go.Proofs.YtnogaeckmiekdaaDoor
