/- The reference's functions on flows. -/
import Derived.Test.YtfgbbpmbmmihcaaDoorFlow
set_option linter.unusedSimpArgs false
set_option linter.unusedVariables false
namespace Go.Proofs.YtfgbbpmbmmihcaaDoor

theorem S_specReverse {p : GPacket} {κ : GPacket → Prop} (h : κ (if pv p then rev p else ⟨0, 0, 0, 0⟩)) : L_spec_ReversePacket p κ := by
  unfold L_spec_ReversePacket
  refine S_specPacketValid (ifW_of (fun hc => ?_) (fun hc => ?_))
  · rw [if_neg (by simpa using hc)] at h; exact h
  · rw [if_pos (by simpa using hc)] at h; exact h
theorem S_l19Same {f : GFlow} {p : GPacket} (hp : pv p) {κ : Bool → Prop} (h : κ (decide (hit p f))) : L_spec_l19Same f.xWho p κ := by
  unfold L_spec_l19Same jnW
  unfold hit at h
  refine ifW_of (fun hc => ?_) (fun hc => S_specReverse ?_)
  · simp at hc; simpa [hc] using h
  · simp at hc
    rw [if_pos hp]
    have : (decide (f.xWho = p ∨ rev f.xWho = p)) = decide (f.xWho = rev p) := by
      rw [decide_eq_decide, rev_eq]
      simp [hc]
    rwa [this] at h
theorem S_specFlowsValid {l : List GFlow} (hl : l.length ≤ 4294967296) {κ : Bool → Prop} (h : κ (decide (fvP l))) : L_spec_FlowsValid l κ := by
  unfold L_spec_FlowsValid
  have hbad : ¬ fvP l → κ false := fun hno => by rw [decide_eq_false hno] at h; exact h
  refine count_loop l.length (fun s => s) (fun k s => s = (k : Int) ∧ k ≤ l.length ∧ (∀ f ∈ l.take k, fv f) ∧ (l.take k).Pairwise (fun f g => ¬ hit g.xWho f)) (fun k s h => h.1) (fun k s h => h.2.1) ?_ ⟨rfl, Nat.zero_le _, by simp, by simp⟩
  rintro k _ next ⟨rfl, hk, h1, h2⟩ hnx
  refine ifW_of (fun hlt => ?_) (fun hge => ?_)
  · have hlt : k < l.length := by simpa using hlt
    have ht : l.take (k + 1) = l.take k ++ [l[k]] := List.take_succ_eq_append_getElem hlt
    have hbad' : ¬ fv l[k] → κ false := fun hno => hbad (fun hv => hno (hv.2.1 _ (List.getElem_mem hlt)))
    refine idxW_of k rfl hlt (S_specPacketValid (ifW_of (fun hp => ?_) (fun hp => idxW_of k rfl hlt (S_l1In ?_))))
    · simp only [ifW_true]; exact hbad' (fun hv => by simp [hv.1] at hp)
    · simp at hp
      refine ifW_of (fun ht => hbad' (fun hv => by have := hv.2; unfold tv at this; simp at ht; omega)) (fun htv => ?_)
      have hfv : fv l[k] := ⟨hp, by unfold tv; simpa using htv⟩
      refine count_loop k (fun s => s) (fun j s => s = (j : Int) ∧ j ≤ k ∧ ∀ g ∈ l.take j, ¬ hit l[k].xWho g) (fun j s h => h.1) (fun j s h => h.2.1) ?_ ⟨rfl, Nat.zero_le _, by simp⟩
      rintro j _ next2 ⟨rfl, hj, hg⟩ hn2
      refine ifW_of (fun hlj => ?_) (fun hgj => ?_)
      · have hlj : j < k := by simpa using hlj
        have htj : l.take (j + 1) = l.take j ++ [l[j]] := List.take_succ_eq_append_getElem (by omega)
        refine idxW_of j rfl (by omega) (idxW_of k rfl hlt (S_l19Same hp (ifW_of (fun hh => hbad (fun hv => ?_)) (fun hh => addW_of (by omega) (by omega) (hn2 hlj _ ⟨by simp, by omega, ?_⟩)))))
        · have := List.pairwise_iff_getElem.1 hv.2.2 j k (by omega) hlt hlj
          exact this (by simpa using hh)
        · rw [htj]
          intro g hg'
          rcases List.mem_append.1 hg' with hg' | hg'
          · exact hg g hg'
          · simp at hg'; subst hg'; simpa using hh
      · have : j = k := by simp at hgj; omega
        subst this
        refine addW_of (by omega) (by omega) (hnx hlt _ ⟨by simp, by omega, ?_, ?_⟩)
        · rw [ht]
          intro f hf
          rcases List.mem_append.1 hf with hf | hf
          · exact h1 f hf
          · simp at hf; subst hf; exact hfv
        · rw [ht, pair_snoc]; exact ⟨h2, hg⟩
  · have : k = l.length := by simp at hge; omega
    subst this
    rw [List.take_length] at h1 h2
    have : decide (fvP l) = decide ((l.length : Int) ≤ 20) := by
      rw [decide_eq_decide]
      constructor
      · intro hv; have := hv.1; omega
      · intro h3; exact ⟨by omega, h1, h2⟩
    rwa [this] at h
theorem S_specExpire {l : List GFlow} (hl : l.length ≤ 4294967296) {now : Int} {κ : List GFlow → Prop} (hy : fvP l → tv now → κ (notExp l now)) (hn : ¬ (fvP l ∧ tv now) → κ []) : L_spec_ExpireFlows l now κ := by
  unfold L_spec_ExpireFlows
  by_cases hv : fvP l ∧ tv now
  · obtain ⟨hv, ht⟩ := hv
    have h := hy hv ht
    refine count_loop l.length (fun s => s.2) (fun k s => s.2 = (k : Int) ∧ k ≤ l.length ∧ s.1 = notExp (l.take k) now) (fun k s h => h.1) (fun k s h => h.2.1) ?_ ⟨rfl, Nat.zero_le _, rfl⟩
    rintro k ⟨ys, t⟩ next ⟨rfl, hk, h1⟩ hn
    simp only at h1
    subst h1
    unfold jnW
    refine ifW_of (fun hlt => S_specFlowsValid hl ?_) (fun hge => ?_)
    · have hlt : k < l.length := by simpa using hlt
      have htk : l.take (k + 1) = l.take k ++ [l[k]] := List.take_succ_eq_append_getElem hlt
      have hle : (notExp (l.take k) now).length ≤ k := Nat.le_trans (List.length_filter_le _ _) (by simp; omega)
      rw [decide_eq_true hv]
      simp only [ifW_true]
      refine S_l1In ?_
      have : (decide (0 ≤ now ∧ now ≤ 1000000)) = true := by unfold tv at ht; simpa using ht
      rw [this]
      simp only [ifW_true]
      refine idxW_of k rfl hlt (ifW_of (fun hc => idxW_of k rfl hlt (appW_of (by simp; omega) (addW_of (by omega) (by omega) (hn hlt _ ⟨by simp, by omega, ?_⟩)))) (fun hc => addW_of (by omega) (by omega) (hn hlt _ ⟨by simp, by omega, ?_⟩)))
      · simp only [htk, notExp, List.filter_append]
        simp [hc]
      · simp only [htk, notExp, List.filter_append]
        simp [hc]
    · have : k = l.length := by simp at hge; omega
      subst this
      simp only [ifW_false]
      rw [List.take_length]
      exact h
  · have h := hn hv
    refine loopW_inv (fun s => s = ([], 0)) (fun _ => 0) ?_ rfl
    rintro s next rfl _
    simp only
    unfold jnW
    refine ifW_of (fun _ => S_specFlowsValid hl (ifW_of (fun h1 => S_l1In ?_) (fun h1 => ?_))) (fun _ => ?_)
    · have : (decide (0 ≤ now ∧ now ≤ 1000000)) = false := by simp at h1; exact decide_eq_false (fun k => hv ⟨h1, k⟩)
      rw [this]; simp only [ifW_false]; exact h
    · simp only [ifW_false]; exact h
    · simp only [ifW_false]; exact h
theorem find_at {l : List GFlow} (hv : fvP l) {p : GPacket} {i : Nat} (hi : i < l.length) (hh : hit p l[i]) : l.findIdx? (fun f => decide (hit p f)) = some i := by
  refine List.findIdx?_eq_some_iff_getElem.2 ⟨hi, by simpa using hh, fun j hj => ?_⟩
  simp only [decide_eq_true_eq]
  intro hj'
  have := List.pairwise_iff_getElem.1 hv.2.2 j i (by omega) hi hj
  refine this ?_
  rcases hh with e | e
  · rw [e]; exact hj'
  · have := hit_rev.2 hj'
    rwa [← e, rev_rev] at this
theorem S_specKnown {l : List GFlow} (hl : l.length ≤ 4294967296) {p : GPacket} {now : Int} {κ : Int → Prop} (hy : fvP l → pv p → tv now → κ (known l p now)) (hn : ¬ (fvP l ∧ pv p ∧ tv now) → κ (-1)) : L_spec_KnownFlow l p now κ := by
  unfold L_spec_KnownFlow
  by_cases hv : fvP l ∧ pv p ∧ tv now
  · obtain ⟨hv, hp, ht⟩ := hv
    have h := hy hv hp ht
    refine count_loop l.length (fun s => s) (fun k s => s = (k : Int) ∧ k ≤ l.length ∧ ∀ i, ∀ hi : i < l.length, i < k → ¬ (hit p l[i] ∧ now ≤ l[i].xUntil)) (fun k s h => h.1) (fun k s h => h.2.1) ?_ ⟨rfl, Nat.zero_le _, fun i _ hi => by omega⟩
    rintro k _ next ⟨rfl, hk, h1⟩ hn
    unfold jnW
    refine ifW_of (fun hlt => S_specFlowsValid hl ?_) (fun hge => ?_)
    · have hlt : k < l.length := by simpa using hlt
      rw [decide_eq_true hv]
      simp only [ifW_true]
      refine S_specPacketValid ?_
      rw [decide_eq_true hp]
      simp only [ifW_true]
      refine S_l1In ?_
      have : (decide (0 ≤ now ∧ now ≤ 1000000)) = true := by unfold tv at ht; simpa using ht
      rw [this]
      simp only [ifW_true]
      have hgo : ¬ (hit p l[k] ∧ now ≤ l[k].xUntil) → next ((k : Int) + 1) := fun hno => hn hlt _ ⟨by simp, by omega, fun i hi hik => by
        by_cases e : i = k
        · subst e; exact hno
        · exact h1 i hi (by omega)⟩
      refine idxW_of k rfl hlt (S_l19Same hp (ifW_of (fun hc => idxW_of k rfl hlt (ifW_of (fun h2 => ?_) (fun h2 => ?_))) (fun hc => ?_)))
      · simp at hc h2
        have e : known l p now = (k : Int) := by
          unfold known
          rw [find_at hv hlt hc]
          simp [hlt]
          omega
        rwa [e] at h
      · simp at hc h2
        exact addW_of (by omega) (by omega) (hgo (fun k => by omega))
      · simp only [ifW_false]
        exact addW_of (by omega) (by omega) (hgo (fun k => by simp [k.1] at hc))
    · have : k = l.length := by simp at hge; omega
      subst this
      simp only [ifW_false]
      have e : known l p now = -1 := by
        refine Decidable.byContradiction (fun hne => ?_)
        have : 0 ≤ known l p now := by
          unfold known at hne ⊢
          split
          · split
            · rename_i i hf hc
              rw [hf] at hne; simp only at hne; rw [if_pos hc] at hne; exact absurd rfl hne
            · omega
          · rename_i hf
            rw [hf] at hne; exact absurd rfl hne
        obtain ⟨i, hi, _, k1, k2, _⟩ := known_lt this
        exact h1 i hi hi ⟨k1, k2⟩
      rwa [e] at h
  · have h := hn hv
    refine loopW_inv (fun s => s = 0) (fun _ => 0) ?_ rfl
    rintro s next rfl _
    unfold jnW
    refine ifW_of (fun _ => S_specFlowsValid hl (ifW_of (fun h1 => S_specPacketValid (ifW_of (fun h2 => S_l1In ?_) (fun h2 => ?_))) (fun h1 => ?_))) (fun _ => ?_)
    · have : (decide (0 ≤ now ∧ now ≤ 1000000)) = false := by simp at h1 h2; exact decide_eq_false (fun k => hv ⟨h1, h2, k⟩)
      rw [this]; simp only [ifW_false]; exact h
    · simp only [ifW_false]; exact h
    · simp only [ifW_false]; exact h
    · simp only [ifW_false]; exact h
theorem S_specTrack {l : List GFlow} (hl : l.length ≤ 4294967296) {p : GPacket} {now life : Int} {κ : List GFlow × Bool → Prop} (hy : trackV l p now life → ∀ A ok, track l p now life = (A, ok) → κ (A, ok)) (hn : ¬ trackV l p now life → κ ([], false)) : L_spec_TrackFlow l p now life κ := by
  unfold L_spec_TrackFlow jnW
  refine S_specFlowsValid hl (ifW_of (fun h1 => ?_) (fun h1 => S_specPacketValid (ifW_of (fun h2 => ?_) (fun h2 => S_l1In (ifW_of (fun h3 => ?_) (fun h3 => S_l1In ?_))))))
  · simp only [ifW_true]; exact hn (fun hv => by simp [hv.1] at h1)
  · simp only [ifW_true]; exact hn (fun hv => by simp [hv.2.1] at h2)
  · simp only [ifW_true]; exact hn (fun hv => by have := hv.2.2.1; unfold tv at this; simp at h3; omega)
  · simp at h1 h2 h3
    refine ifW_of (fun h4 => hn (fun hv => by have := hv.2.2.2; unfold lv at this; simp at h4; omega)) (fun h4 => ?_)
    simp at h4
    have hv : trackV l p now life := ⟨h1, h2, h3, h4⟩
    have h := hy hv
    refine S_specExpire hl (fun _ _ => ?_) (fun hno => absurd ⟨h1, h3⟩ hno)
    have ho := notExp_ok h1 now
    have ho1 := ho.1
    refine addW_of (by omega) (by omega) (S_specKnown (by omega) (fun _ _ _ => ?_) (fun hno => absurd ⟨ho, h2, h3⟩ hno))
    unfold track at h
    rw [Int.min_comm 1000000]
    refine ifW_of (fun hc => ?_) (fun hc => ?_)
    · have hc : 0 ≤ known (notExp l now) p now := by simpa using hc
      rw [if_pos hc] at h
      obtain ⟨i, hi, e, _⟩ := known_lt hc
      rw [e] at h ⊢
      refine idxW_of i rfl hi (h _ _ ?_)
      simp only [Int.toNat_natCast]
      congr 1
      rw [modify_set _ _ hi]
    · have hc : ¬ 0 ≤ known (notExp l now) p now := by simpa using hc
      rw [if_neg hc] at h
      refine ifW_of (fun h20 => ?_) (fun h20 => appW_of (by simp; omega) ?_)
      · rw [if_pos (by simp at h20; omega)] at h
        exact h _ _ rfl
      · rw [if_neg (by simp at h20; omega)] at h
        exact h _ _ rfl

/-! what tracking leaves -/
theorem mod_who (l : List GFlow) (i : Nat) (u : Int) (j : Nat) (hj : j < (l.modify i (fun f => ⟨f.xWho, u⟩)).length) : ((l.modify i (fun f => ⟨f.xWho, u⟩))[j]).xWho = (l[j]'(by simpa using hj)).xWho := by
  rw [List.getElem_modify]
  split <;> rfl
theorem fvP_mod {l : List GFlow} (h : fvP l) (i : Nat) {u : Int} (hu : tv u) : fvP (l.modify i (fun f => ⟨f.xWho, u⟩)) := by
  refine ⟨by simpa using h.1, fun f hf => ?_, ?_⟩
  · obtain ⟨j, hj, rfl⟩ := List.mem_iff_getElem.1 hf
    have hj' : j < l.length := by simpa using hj
    have := h.2.1 _ (List.getElem_mem hj')
    refine ⟨by rw [mod_who]; exact this.1, ?_⟩
    rw [List.getElem_modify]
    split
    · exact hu
    · exact this.2
  · refine List.pairwise_iff_getElem.2 (fun a b ha hb hab => ?_)
    have := List.pairwise_iff_getElem.1 h.2.2 a b (by simpa using ha) (by simpa using hb) hab
    unfold hit at this ⊢
    rwa [mod_who, mod_who]
theorem known_neg {l : List GFlow} {p : GPacket} {now : Int} (hall : ∀ f ∈ l, now ≤ f.xUntil) (h : ¬ 0 ≤ known l p now) : ∀ f ∈ l, ¬ hit p f := by
  intro f hf hh
  unfold known at h
  cases hx : l.findIdx? (fun f => decide (hit p f)) with
  | none =>
    rw [List.findIdx?_eq_none_iff] at hx
    have := hx f hf
    simp [hh] at this
  | some i =>
    rw [hx] at h
    obtain ⟨hi, _⟩ := List.findIdx?_eq_some_iff_getElem.1 hx
    have := hall _ (List.getElem_mem hi)
    simp only [List.getElem?_eq_getElem hi, Option.map_some, Option.getD_some] at h
    rw [if_neg (by omega)] at h
    omega
theorem notExp_all (l : List GFlow) (now : Int) : ∀ f ∈ notExp l now, now ≤ f.xUntil := fun f hf => by simpa using (List.mem_filter.1 hf).2
theorem track_len (l : List GFlow) (p : GPacket) (now life : Int) : (track l p now life).1.length ≤ l.length + 1 := by
  have : (notExp l now).length ≤ l.length := List.length_filter_le _ _
  unfold track
  split
  · simp; omega
  · split
    · simp only; omega
    · simp; omega
theorem track_full {l : List GFlow} {p : GPacket} {now life : Int} {A : List GFlow} (h : track l p now life = (A, false)) : A = notExp l now ∧ A.length = 20 := by
  unfold track at h
  split at h
  · cases h
  · split at h
    · rename_i h20
      cases h
      exact ⟨rfl, h20⟩
    · cases h
theorem track_ok {l : List GFlow} {p : GPacket} {now life : Int} {A : List GFlow} (hv : trackV l p now life) (h : track l p now life = (A, true)) :
    fvP A ∧ (∀ f ∈ A, now ≤ f.xUntil) ∧ ∃ i, ∃ hi : i < A.length, hit p A[i] ∧ A[i].xUntil = min (now + life) 1000000 := by
  obtain ⟨h1, h2, ⟨t1, t2⟩, ⟨l1, l2⟩⟩ := hv
  have ho := notExp_ok h1 now
  have hall := notExp_all l now
  have hu : tv (min (now + life) 1000000) := by unfold tv; omega
  unfold track at h
  split at h
  · rename_i hc
    obtain ⟨i, hi, e, k1, k2, _⟩ := known_lt hc
    rw [e] at h
    simp only [Int.toNat_natCast] at h
    cases h
    refine ⟨fvP_mod ho i hu, fun f hf => ?_, i, by simpa using hi, ?_, ?_⟩
    · obtain ⟨j, hj, rfl⟩ := List.mem_iff_getElem.1 hf
      rw [List.getElem_modify]
      split
      · simp only; omega
      · exact hall _ (List.getElem_mem _)
    · unfold hit at k1 ⊢; rw [mod_who]; exact k1
    · rw [List.getElem_modify, if_pos rfl]
  · rename_i hc
    split at h
    · cases h
    · rename_i h20
      cases h
      have ho1 := ho.1
      refine ⟨⟨by simp; omega, fun f hf => ?_, pair_snoc.2 ⟨ho.2.2, known_neg hall hc⟩⟩, fun f hf => ?_, (notExp l now).length, by simp, ?_, ?_⟩
      · rcases List.mem_append.1 hf with hf | hf
        · exact ho.2.1 f hf
        · simp at hf; subst hf; exact ⟨h2, hu⟩
      · rcases List.mem_append.1 hf with hf | hf
        · exact hall f hf
        · simp at hf; subst hf; simp only; omega
      · simp [hit]
      · simp
theorem known_at {l : List GFlow} (hv : fvP l) {p : GPacket} {i : Nat} (hi : i < l.length) (hh : hit p l[i]) (t : Int) : known l p t = if l[i].xUntil < t then -1 else (i : Int) := by
  unfold known
  rw [find_at hv hi hh]
  simp [hi]
theorem track_twice {l : List GFlow} {p : GPacket} {now life : Int} {A : List GFlow} (hv : trackV l p now life) (h : track l p now life = (A, true)) : trackV A (rev p) now life ∧ track A (rev p) now life = (A, true) := by
  obtain ⟨h1, h2, i, hi, h3, h4⟩ := track_ok hv h
  obtain ⟨_, v2, v3, v4⟩ := hv
  have ⟨t1, t2⟩ := v3
  have ⟨l1, l2⟩ := v4
  refine ⟨⟨h1, pv_rev v2, v3, v4⟩, ?_⟩
  have hne : notExp A now = A := List.filter_eq_self.2 (fun f hf => by simpa using h2 f hf)
  have hk : known A (rev p) now = (i : Int) := by
    rw [known_at h1 hi (hit_rev.2 h3), if_neg (by omega)]
  unfold track
  rw [hne, hk, if_pos (by omega)]
  congr 1
  apply List.ext_getElem
  · simp
  · intro j hj1 hj2
    rw [List.getElem_modify]
    split
    · rename_i e
      simp only [Int.toNat_natCast] at e
      subst e
      exact GFlow.ext rfl h4.symm
    · rfl
end Go.Proofs.YtfgbbpmbmmihcaaDoor
