/- The numerals of the program on byte strings: numbers written, read; words; cuts. -/
import Derived.Test.YtnogaeckmiekdaaDoorTx
import Derived.Test.YtnogaeckmiekdaaDoorPick
set_option linter.unusedSimpArgs false
set_option linter.unusedVariables false
namespace Go.Proofs.YtnogaeckmiekdaaDoor
open Go.Lib (decDigits)

theorem byteU_of {n : Int} {κ : UInt8 → Prop} (m : Nat) (e : n = m) (h : m ≤ 255) (hk : κ (UInt8.ofNat m)) : byteU n κ := by
  subst e; exact ⟨by omega, by omega, by simpa using hk⟩
def preD (m : Nat) : List UInt8 := if m < 10 then [] else decDigits (m / 10)
theorem preD_step {m : Nat} : decDigits m = preD m ++ [UInt8.ofNat (48 + m % 10)] := by
  unfold preD; split
  · rename_i h; rw [dec_small h, Nat.mod_eq_of_lt h]; rfl
  · rename_i h; exact dec_big h

theorem S_l3Number {n : Int} {κ : ByteArray → Prop} (h0 : 0 ≤ n) (h1 : n ≤ 1000000000000000000) (h : κ (B (decDigits n.toNat))) : L_spec_l3Number n κ := by
  obtain ⟨n, rfl⟩ := Int.eq_ofNat_of_zero_le h0
  rw [Int.toNat_natCast] at h
  have hlen : (decDigits n).length ≤ 20 := dec_len 19 n (Nat.lt_of_le_of_lt (show n ≤ 1000000000000000000 by omega) (by decide))
  unfold L_spec_l3Number
  refine remW_of (by omega) (by omega) (by omega) (addW_of (by omega) (by omega) (byteU_of (48 + n % 10) (by omega) (by omega) ?_))
  refine loopW_inv (fun s => ∃ (m : Nat) (l : List UInt8), s = ((m : Int), B l) ∧ m ≤ n ∧ decDigits n = preD m ++ l) (fun s => s.1.toNat) ?_ ⟨n, [UInt8.ofNat (48 + n % 10)], rfl, Nat.le_refl _, preD_step⟩
  rintro _ next ⟨m, l, rfl, hm, he⟩ hn
  have hl : l.length ≤ 20 := by have := congrArg List.length he; simp at this; omega
  refine ifW_of (fun hc => ?_) (fun hc => ?_)
  · simp at hc
    refine quoW_of (by omega) (by omega) (by omega) (remW_of (by omega) (by omega) (by omega) (addW_of (by omega) (by omega) (byteU_of (48 + m / 10 % 10) (by omega) (by omega) ?_)))
    refine catW_B (l := [UInt8.ofNat (48 + m / 10 % 10)]) (by simp; omega) ?_
    refine hn _ ⟨m / 10, _, by rw [show ((m : Int) / 10) = ((m / 10 : Nat) : Int) by omega], by omega, ?_⟩ (by simp; omega)
    rw [he, show preD m = decDigits (m / 10) by unfold preD; rw [if_neg (by omega)], preD_step (m := m / 10)]
    simp
  · simp at hc
    rw [show preD m = [] by unfold preD; rw [if_pos (by omega)]] at he
    rw [he] at h; exact h

theorem S_word {l w : List UInt8} {a : Int} {κ : Bool × Int → Prop} (n : Nat) (ea : a = n) (hn : n ≤ l.length) (hl : l.length ≤ 1000000000000) (hw : w.length ≤ 1000)
    (ht : ∀ r, l.drop n = w ++ r → κ (true, ((n + w.length : Nat) : Int))) (hf : (∀ r, l.drop n ≠ w ++ r) → κ (false, (n : Int))) : L_impl_scanner_word (B l) a (B w) κ := by
  subst ea
  unfold L_impl_scanner_word jnW L_lib_HasPrefix
  refine sliceS_B n l.length rfl (by rw [B_size]) hn (Nat.le_refl _) ?_
  rw [List.take_length]
  refine ifW_of (fun hc => ?_) (fun hc => ?_)
  · refine hf (fun r e => ?_)
    rw [e, hasPre_app] at hc; cases hc
  · obtain ⟨r, e⟩ := (hasPre_iff (l.drop n) w).1 (by simpa using hc)
    rw [B_size]
    exact addW_of (by omega) (by omega) (by have := ht r e; simpa using this)

theorem digitI {c : UInt8} : dg c = true ↔ 48 ≤ c.toNat ∧ c.toNat ≤ 57 := by simp [dg]

theorem idxW_B {l : List UInt8} {i : Int} {κ : UInt8 → Prop} (n : Nat) (hi : i = n) (hn : n < l.length) (h : κ l[n]) : idxW (B l).data.toList i κ := by
  rw [B_data]; exact idxW_of n hi hn h

theorem S_number {l : List UInt8} {a : Int} {κ : Int × Bool × Int → Prop} (n : Nat) (ea : a = n) (hn : n ≤ l.length) (hl : l.length ≤ 1000000000000)
    (h : κ ((val (run 6 (l.drop n)) : Int), decide (run 6 (l.drop n) ≠ []), ((n + (run 6 (l.drop n)).length : Nat) : Int))) : L_impl_scanner_number (B l) a κ := by
  subst ea
  obtain ⟨r, he, hend⟩ := run_end 6 (l.drop n)
  have hdg := run_dg 6 (l.drop n)
  have hlen := (run_len 6 (l.drop n)).1
  generalize run 6 (l.drop n) = R at *
  have hll : l = l.take n ++ (R ++ r) := by rw [← he]; simp
  have hsz : l.length = n + (R.length + r.length) := by
    have := congrArg List.length he; simp at this; omega
  have hget : ∀ k (hk : k < R.length), l[n + k]? = some R[k] := by
    intro k hk
    have : (l.drop n)[k]? = some R[k] := by rw [he, List.getElem?_append_left hk]; simp [hk]
    rw [List.getElem?_drop] at this; exact this
  unfold L_impl_scanner_number jnW
  refine loopW_inv (fun s => ∃ k, k ≤ R.length ∧ s = (((n + k : Nat) : Int), (val (R.take k) : Int))) (fun s => R.length + n - s.1.toNat) ?_ ⟨0, by omega, by simp [val]⟩
  rintro _ next ⟨k, hk, rfl⟩ hnx
  have hv : val (R.take k) ≤ 999999 := val_6 (fun c hc => hdg c (List.mem_of_mem_take hc)) (by simp; omega)
  have hstop : k = R.length → κ ((val (R.take k) : Int), decide ((n : Int) < ((n + k : Nat) : Int)), ((n + k : Nat) : Int)) := by
    intro e
    subst e
    rw [List.take_length]
    rw [show decide ((n : Int) < ((n + R.length : Nat) : Int)) = decide (R ≠ []) by
      apply decide_eq_decide.2
      cases R with
      | nil => simp
      | cons x xs => simp; omega]
    exact h
  simp only [L_impl_scanner_done, B_size]
  refine ifW_of (fun hc => ?_) (fun hc => ?_)
  · simp at hc
    refine addW_of (by omega) (by omega) (ifW_of (fun hc2 => ?_) (fun hc2 => ?_))
    · simp at hc2
      have hlt : n + k < l.length := by omega
      refine idxW_B (n + k) rfl hlt ?_
      by_cases hkr : k < R.length
      · have hg := hget k hkr
        rw [List.getElem?_eq_getElem hlt] at hg
        obtain hg := Option.some.inj hg
        rw [hg]
        obtain ⟨d1, d2⟩ := digitI.1 (hdg R[k] (List.getElem_mem hkr))
        have hgo : mulW 10 ↑(val (List.take k R)) (fun t135 => sub8W (R[k].toNat : Int) 48 (fun t136 => byteW t136 (fun _ => addW t135 t136 (fun t137 => addW ((n + k : Nat) : Int) 1 (fun t138 => next (t138, t137)))))) := by
          refine mulW_of (by omega) (by omega) ⟨by omega, by omega, by omega, ⟨by omega, by omega, addW_of (by omega) (by omega) (addW_of (by omega) (by omega) (hnx _ ⟨k + 1, by omega, ?_⟩ (by simp; omega)))⟩⟩
          rw [List.take_succ_eq_append_getElem hkr, val_snoc]
          simp only [Prod.mk.injEq]
          omega
        refine ifW_of (fun hc3 => ?_) (fun hc3 => ?_)
        · simp at hc3; omega
        · refine ifW_of (fun hc4 => ?_) (fun hc4 => hgo)
          simp at hc4; omega
      · have e : k = R.length := by omega
        rcases hend with h6 | hnd
        · omega
        · cases r with
          | nil => simp at hsz; omega
          | cons c m =>
            have hcn := hnd c m rfl
            have hg : l[n + k] = c := by
              have : (l.drop n)[k]? = some c := by rw [he, e, List.getElem?_append_right (Nat.le_refl _)]; simp
              rw [List.getElem?_drop, List.getElem?_eq_getElem hlt] at this
              exact Option.some.inj this
            rw [hg]
            have hnot : ¬ (48 ≤ c.toNat ∧ c.toNat ≤ 57) := fun hh => by rw [digitI.2 hh] at hcn; cases hcn
            refine ifW_of (fun hc3 => ?_) (fun hc3 => ?_)
            · simp only [ifW_true]; exact hstop e
            · refine ifW_of (fun hc4 => hstop e) (fun hc4 => ?_)
              simp at hc3 hc4; omega
    · simp at hc2
      exact hstop (by omega)
  · simp at hc
    simp only [ifW_false]
    exact hstop (by omega)

/-- a text before and behind the first of a sign -/
def cut (c : UInt8) : List UInt8 → List UInt8 × List UInt8
  | [] => ([], [])
  | d :: l => if d = c then ([], l) else (d :: (cut c l).1, (cut c l).2)
theorem cut_app {c : UInt8} : ∀ {x y : List UInt8}, c ∉ x → cut c (x ++ c :: y) = (x, y)
  | [], y, _ => by simp [cut]
  | d :: x, y, h => by
    simp only [List.mem_cons, not_or] at h
    simp only [List.cons_append, cut]
    rw [if_neg (fun e => h.1 e.symm), cut_app h.2]
theorem cut_no {c : UInt8} : ∀ {x : List UInt8}, c ∉ x → cut c x = (x, [])
  | [], _ => rfl
  | d :: x, h => by
    simp only [List.mem_cons, not_or] at h
    simp only [cut]
    rw [if_neg (fun e => h.1 e.symm), cut_no h.2]
theorem cut_len {c : UInt8} : ∀ (x : List UInt8), (cut c x).1.length + (cut c x).2.length ≤ x.length
  | [] => by simp [cut]
  | d :: x => by
    have := cut_len (c := c) x
    simp only [cut]; split <;> simp <;> omega

theorem S_cut {l : List UInt8} {c : UInt8} {κ : ByteArray × ByteArray → Prop} (hl : l.length ≤ 1000000000000) (h : κ (B (cut c l).1, B (cut c l).2)) : L_spec_l3Cut (B l) c κ := by
  unfold L_spec_l3Cut
  refine count_loop l.length (fun s => s) (fun k s => s = (k : Int) ∧ k ≤ l.length ∧ cut c l = (l.take k ++ (cut c (l.drop k)).1, (cut c (l.drop k)).2)) (fun k s h => h.1) (fun k s h => h.2.1) ?_ ⟨rfl, Nat.zero_le _, by simp⟩
  rintro k _ next ⟨rfl, hk, he⟩ hn
  rw [B_size]
  refine ifW_of (fun hc => ?_) (fun hc => ?_)
  · have hlt : k < l.length := by simpa using hc
    have hd : l.drop k = l[k] :: l.drop (k + 1) := List.drop_eq_getElem_cons hlt
    refine idxW_B k rfl hlt (ifW_of (fun hc2 => ?_) (fun hc2 => ?_))
    · have e : l[k] = c := by
        simp at hc2; exact UInt8.toNat_inj.1 (by omega)
      rw [hd] at he
      simp only [cut, if_pos e, List.append_nil] at he
      refine sliceS_B 0 k rfl rfl (by omega) (by omega) (addW_of (by omega) (by omega) (sliceS_B (k + 1) l.length (by omega) rfl (by omega) (by omega) ?_))
      rw [he] at h
      simpa using h
    · have e : l[k] ≠ c := by
        intro e; rw [e] at hc2; simp at hc2
      refine addW_of (by omega) (by omega) (hn hlt _ ⟨by omega, by omega, ?_⟩)
      rw [he, hd]
      simp only [cut, if_neg e, List.take_succ_eq_append_getElem hlt, List.append_assoc, List.singleton_append]
  · have hge : l.length ≤ k := by simpa using hc
    rw [List.drop_eq_nil_of_le hge, List.take_of_length_le hge] at he
    simp only [cut, List.append_nil] at he
    rw [he] at h; exact h

theorem S_value {l : List UInt8} {κ : Int → Prop} (hl : l.length ≤ 1000000000000) (h : ∀ v : Int, -1 ≤ v → v ≤ 999999 → (∀ n : Nat, l = decDigits n → n < 100000 → v = n) → κ v) : L_spec_l3Value (B l) κ := by
  unfold L_spec_l3Value jnW
  refine count_loop (min 6 l.length) (fun s => s.2) (fun k s => s = ((val (l.take k) : Int), (k : Int)) ∧ k ≤ min 6 l.length ∧ ∀ c ∈ l.take k, dg c = true) (fun k s h => by rw [h.1]) (fun k s h => h.2.1) ?_ ⟨by simp [val], Nat.zero_le _, by simp⟩
  rintro k _ next ⟨rfl, hk, hd⟩ hn
  have hv : val (l.take k) ≤ 999999 := val_6 hd (by simp; omega)
  have hend : ¬ k < min 6 l.length → ifW (decide (5 < (l.length : Int))) (ifW true (κ (-1)) (κ (val (l.take k) : Int))) (L_spec_l3Number (val (l.take k) : Int) (fun r135 => ifW (!(decide (r135 = B l))) (κ (-1)) (κ (val (l.take k) : Int)))) := by
    intro hge
    refine ifW_of (fun hc => ?_) (fun hc => ?_)
    · simp at hc
      rw [ifW_true]
      refine h _ (by omega) (by omega) (fun n e hn => ?_)
      have := dec_len 4 n (by simpa using hn)
      rw [← e] at this; omega
    · simp at hc
      have hkl : k = l.length := by omega
      subst hkl
      rw [List.take_length] at hv ⊢
      refine S_l3Number (by omega) (by omega) ?_
      rw [Int.toNat_natCast, B_dec]
      refine ifW_of (fun hc2 => ?_) (fun hc2 => ?_)
      · refine h _ (by omega) (by omega) (fun n e hn => ?_)
        rw [e, dec_val] at hc2; simp at hc2
      · exact h _ (by omega) (by omega) (fun n e hn => by rw [e, dec_val])
  rw [B_size]
  refine ifW_of (fun hc => ?_) (fun hc => ?_)
  · simp at hc
    refine ifW_of (fun hc2 => ?_) (fun hc2 => ?_)
    · simp at hc2
      have hlt : k < l.length := by omega
      have hbad : dg l[k] = false → κ (-1) := fun hb => h _ (by omega) (by omega) (fun n e hn => by
        subst e
        rw [dec_dg n _ (List.getElem_mem hlt)] at hb; cases hb)
      refine idxW_B k rfl hlt (ifW_of (fun hc3 => ?_) (fun hc3 => ?_))
      · simp only [ifW_true]; exact hbad (by simp [dg] at hc3 ⊢; omega)
      · refine idxW_B k rfl hlt (ifW_of (fun hc4 => hbad ?_) (fun hc4 => ?_))
        · simp [dg] at hc4 ⊢; omega
        · have hdk : dg l[k] = true := by simp [dg] at hc3 hc4 ⊢; omega
          obtain ⟨d1, d2⟩ := digitI.1 hdk
          refine mulW_of (by omega) (by omega) (idxW_B k rfl hlt ⟨by omega, by omega, by omega, ⟨by omega, by omega, addW_of (by omega) (by omega) (addW_of (by omega) (by omega) (hn (by omega) _ ⟨?_, by omega, ?_⟩))⟩⟩)
          · rw [List.take_succ_eq_append_getElem hlt, val_snoc]
            simp only [Prod.mk.injEq]
            omega
          · rw [List.take_succ_eq_append_getElem hlt]
            intro c hc
            rcases List.mem_append.1 hc with hc | hc
            · exact hd c hc
            · rw [List.mem_singleton] at hc; subst hc; exact hdk
    · simp at hc2
      simp only [ifW_false]
      exact hend (by omega)
  · simp at hc
    simp only [ifW_false]
    exact hend (by omega)
end Go.Proofs.YtnogaeckmiekdaaDoor
