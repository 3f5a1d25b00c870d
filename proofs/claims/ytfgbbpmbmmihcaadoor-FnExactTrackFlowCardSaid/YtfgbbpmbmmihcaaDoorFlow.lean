/- What the functions on flows compute, in plain Lean. -/
import Derived.Test.YtfgbbpmbmmihcaaDoorPick
set_option linter.unusedSimpArgs false
set_option linter.unusedVariables false
namespace Go.Proofs.YtfgbbpmbmmihcaaDoor

def pv (p : GPacket) : Prop := (0 ≤ p.xFrom ∧ p.xFrom ≤ 65535) ∧ (0 ≤ p.xTo ∧ p.xTo ≤ 65535) ∧ (0 ≤ p.xPort ∧ p.xPort ≤ 255) ∧ (0 ≤ p.xProto ∧ p.xProto ≤ 7)
instance (p : GPacket) : Decidable (pv p) := by unfold pv; infer_instance
def rev (p : GPacket) : GPacket := ⟨p.xTo, p.xFrom, p.xPort, p.xProto⟩
theorem rev_rev (p : GPacket) : rev (rev p) = p := rfl
theorem rev_eq {p q : GPacket} : rev p = q ↔ p = rev q := ⟨fun h => by rw [← h]; rfl, fun h => by rw [h]; rfl⟩
theorem pv_rev {p : GPacket} (h : pv p) : pv (rev p) := by unfold pv rev at *; simp only; omega
def tv (t : Int) : Prop := 0 ≤ t ∧ t ≤ 1000000
instance (t : Int) : Decidable (tv t) := by unfold tv; infer_instance

/-! packets -/
theorem S_fieldTop {n : Int} (h0 : 0 ≤ n) (h1 : n < 4) {κ : Int → Prop} (h : κ (if n ≤ 1 then 65535 else if n = 2 then 255 else 7)) : L_impl_FieldTop n κ := by
  unfold L_impl_FieldTop jnW
  refine ifW_of (fun hc => by simp at hc; omega) (fun _ => ifW_of (fun hc => by simp at hc; omega) (fun _ => ?_))
  have : n = 0 ∨ n = 1 ∨ n = 2 ∨ n = 3 := by omega
  rcases this with rfl | rfl | rfl | rfl
  · exact idxW_of 0 rfl (by simp [gl_impl_fieldShapes]) (by simpa [gl_impl_fieldShapes] using h)
  · exact idxW_of 1 rfl (by simp [gl_impl_fieldShapes]) (by simpa [gl_impl_fieldShapes] using h)
  · exact idxW_of 2 rfl (by simp [gl_impl_fieldShapes]) (by simpa [gl_impl_fieldShapes] using h)
  · exact idxW_of 3 rfl (by simp [gl_impl_fieldShapes]) (by simpa [gl_impl_fieldShapes] using h)
def fieldP (p : GPacket) : Nat → Int
  | 0 => p.xFrom
  | 1 => p.xTo
  | 2 => p.xPort
  | _ => p.xProto
def topP : Nat → Int
  | 0 => 65535
  | 1 => 65535
  | 2 => 255
  | _ => 7
theorem pv_iff (p : GPacket) : pv p ↔ ∀ i, i < 4 → 0 ≤ fieldP p i ∧ fieldP p i ≤ topP i := by
  unfold pv
  constructor
  · rintro ⟨h0, h1, h2, h3⟩ i hi
    match i, hi with
    | 0, _ => exact h0
    | 1, _ => exact h1
    | 2, _ => exact h2
    | 3, _ => exact h3
  · intro h
    exact ⟨h 0 (by omega), h 1 (by omega), h 2 (by omega), h 3 (by omega)⟩
theorem S_PacketValid {p : GPacket} {κ : Bool → Prop} (h : κ (decide (pv p))) : L_impl_PacketValid p κ := by
  unfold L_impl_PacketValid L_impl_Packet_fields
  refine count_loop 4 (fun s => s) (fun k s => s = (k : Int) ∧ k ≤ 4 ∧ ∀ i, i < k → 0 ≤ fieldP p i ∧ fieldP p i ≤ topP i) (fun k s h => h.1) (fun k s h => h.2.1) ?_ ⟨rfl, by omega, fun i hi => by omega⟩
  rintro k _ next ⟨rfl, hk, hi⟩ hn
  refine ifW_of (fun hlt => ?_) (fun hge => ?_)
  · have hlt : k < 4 := by simp at hlt; omega
    have hno : ¬ (0 ≤ fieldP p k ∧ fieldP p k ≤ topP k) → κ false := fun hno => by
      rw [decide_eq_false (fun hv => hno ((pv_iff p).1 hv k hlt))] at h
      exact h
    refine idxW_of k rfl (by simpa using hlt) ?_
    have e : ([p.xFrom, p.xTo, p.xPort, p.xProto] : List Int)[k]'(by simpa using hlt) = fieldP p k := by
      match k, hlt with
      | 0, _ => rfl
      | 1, _ => rfl
      | 2, _ => rfl
      | 3, _ => rfl
    simp only [e]
    unfold jnW
    refine ifW_of (fun hc => ?_) (fun hc => S_fieldTop (by omega) (by omega) ?_)
    · simp only [ifW_true]; exact hno (by simp at hc; omega)
    · have et : (if (k : Int) ≤ 1 then (65535 : Int) else if (k : Int) = 2 then 255 else 7) = topP k := by
        match k, hlt with
        | 0, _ => rfl
        | 1, _ => rfl
        | 2, _ => rfl
        | 3, _ => rfl
      rw [et]
      refine ifW_of (fun h2 => hno (by simp at h2; omega)) (fun h2 => addW_of (by omega) (by omega) (hn hlt _ ⟨by simp, by omega, fun i hi' => ?_⟩))
      by_cases e : i = k
      · subst e; simp at hc h2; exact ⟨hc, h2⟩
      · exact hi i (by omega)
  · have : k = 4 := by simp at hge; omega
    subst this
    rw [decide_eq_true ((pv_iff p).2 hi)] at h
    exact h
theorem S_l1In {n lo hi : Int} {κ : Bool → Prop} (h : κ (decide (lo ≤ n ∧ n ≤ hi))) : L_spec_l1In n lo hi κ := by
  unfold L_spec_l1In jnW
  refine ifW_of (fun hc => ?_) (fun hc => ?_)
  · simp at hc; simpa [hc] using h
  · simp at hc; simpa [show ¬ (lo ≤ n) by omega] using h
theorem S_specPacketValid {p : GPacket} {κ : Bool → Prop} (h : κ (decide (pv p))) : L_spec_PacketValid p κ := by
  unfold L_spec_PacketValid jnW
  refine S_l1In (ifW_of (fun h1 => S_l1In (ifW_of (fun h2 => S_l1In (ifW_of (fun h3 => S_l1In ?_) (fun h3 => ?_))) (fun h2 => ?_))) (fun h1 => ?_))
  all_goals
    refine (congrArg κ ?_).mp h
    clear h
    first
      | (refine decide_eq_decide.2 ?_; simp only [decide_eq_true_eq] at *; unfold pv; constructor <;> (intro k; omega))
      | (refine decide_eq_false ?_; simp only [decide_eq_true_eq, decide_eq_false_iff_not] at *; unfold pv; intro k; omega)
theorem S_timeValid {t : Int} {κ : Bool → Prop} (h : κ (decide (tv t))) : L_impl_timeValid t κ := by
  unfold L_impl_timeValid jnW
  unfold tv at h
  refine ifW_of (fun hc => ?_) (fun hc => ?_)
  · simp at hc; simpa [hc] using h
  · simp at hc; simpa [show ¬ (0 ≤ t) by omega] using h
def lv (t : Int) : Prop := 0 ≤ t ∧ t ≤ 1000
instance (t : Int) : Decidable (lv t) := by unfold lv; infer_instance
theorem S_lifeValid {t : Int} {κ : Bool → Prop} (h : κ (decide (lv t))) : L_impl_lifeValid t κ := by
  unfold L_impl_lifeValid jnW
  unfold lv at h
  refine ifW_of (fun hc => ?_) (fun hc => ?_)
  · simp at hc; simpa [hc] using h
  · simp at hc; simpa [show ¬ (0 ≤ t) by omega] using h

/-! flows -/
def fv (f : GFlow) : Prop := pv f.xWho ∧ tv f.xUntil
instance (f : GFlow) : Decidable (fv f) := by unfold fv; infer_instance
/-- the packet belongs to the flow -/
def hit (p : GPacket) (f : GFlow) : Prop := f.xWho = p ∨ rev f.xWho = p
instance (p : GPacket) (f : GFlow) : Decidable (hit p f) := by unfold hit; infer_instance
theorem hit_rev {p : GPacket} {f : GFlow} : hit (rev p) f ↔ hit p f := by
  unfold hit
  rw [rev_eq (p := f.xWho) (q := rev p), rev_rev, ← rev_eq (p := f.xWho)]
  exact Or.comm
theorem hit_who {f g : GFlow} : hit f.xWho g ↔ hit g.xWho f := by
  unfold hit
  rw [rev_eq, rev_eq]
  constructor
  · rintro (h | h)
    · exact .inl h.symm
    · exact .inr (by rw [h, rev_rev])
  · rintro (h | h)
    · exact .inl h.symm
    · exact .inr (by rw [h, rev_rev])
def fvP (l : List GFlow) : Prop := l.length ≤ 20 ∧ (∀ f ∈ l, fv f) ∧ l.Pairwise fun f g => ¬ hit g.xWho f
instance (l : List GFlow) : Decidable (fvP l) := by unfold fvP; infer_instance
/-- the number of the flow of a packet -/
def fl (l : List GFlow) (p : GPacket) : Int × Bool :=
  match l.findIdx? (fun f => decide (hit p f)) with
  | some i => ((i : Int), true)
  | none => (0, false)
def known (l : List GFlow) (p : GPacket) (now : Int) : Int :=
  match l.findIdx? (fun f => decide (hit p f)) with
  | some i => if ((l[i]?).map (·.xUntil)).getD 0 < now then -1 else (i : Int)
  | none => -1
def notExp (l : List GFlow) (now : Int) : List GFlow := l.filter fun f => decide (now ≤ f.xUntil)
def track (l : List GFlow) (p : GPacket) (now life : Int) : List GFlow × Bool :=
  if 0 ≤ known (notExp l now) p now then ((notExp l now).modify (known (notExp l now) p now).toNat (fun f => ⟨f.xWho, min (now + life) 1000000⟩), true)
  else if (notExp l now).length = 20 then (notExp l now, false) else (notExp l now ++ [⟨p, min (now + life) 1000000⟩], true)

theorem mget_mput {K : Type} [DecidableEq K] (k k' : K) (v : Int) : ∀ m : List (K × Int), mget k (mput k' v m) = if k = k' then (v, true) else mget k m
  | [] => by simp [mput, mget]
  | p :: r => by
    unfold mput
    by_cases h : k' = p.1
    · subst h
      rw [if_pos rfl]
      unfold mget
      by_cases h2 : k = p.1 <;> simp [h2]
    · rw [if_neg h]
      unfold mget
      rw [mget_mput k k' v r]
      by_cases h2 : k = p.1
      · subst h2
        rw [if_pos rfl, if_neg (fun e => h e.symm), if_pos rfl]
      · simp [h2]
theorem fl_snoc (l : List GFlow) (f : GFlow) (p : GPacket) (hd : ∀ g ∈ l, ¬ hit f.xWho g) : fl (l ++ [f]) p = if hit p f then ((l.length : Int), true) else fl l p := by
  unfold fl
  rw [List.findIdx?_append]
  by_cases hp : hit p f
  · have hn : l.findIdx? (fun f => decide (hit p f)) = none := by
      rw [List.findIdx?_eq_none_iff]
      intro g hg
      simp only [decide_eq_false_iff_not]
      intro hgp
      refine hd g hg ?_
      rcases hp with h | h
      · rw [h]; exact hgp
      · have := hit_rev.2 hgp
        rw [← h, rev_rev] at this
        exact this
    simp [hn, hp]
  · cases hn : l.findIdx? (fun f => decide (hit p f)) with
    | none => simp [hp]
    | some i => simp [hp]
theorem fl_yes {l : List GFlow} {p : GPacket} : (fl l p).2 = true ↔ ∃ f ∈ l, hit p f := by
  unfold fl
  cases h : l.findIdx? (fun f => decide (hit p f)) with
  | none =>
    rw [List.findIdx?_eq_none_iff] at h
    simp only [Bool.false_eq_true, false_iff]
    rintro ⟨f, h1, h2⟩
    have := h f h1
    simp [h2] at this
  | some i =>
    obtain ⟨h1, h2, _⟩ := List.findIdx?_eq_some_iff_getElem.1 h
    simp only [true_iff]
    exact ⟨_, List.getElem_mem h1, by simpa using h2⟩
theorem pair_snoc {l : List GFlow} {f : GFlow} : (l ++ [f]).Pairwise (fun f g => ¬ hit g.xWho f) ↔ l.Pairwise (fun f g => ¬ hit g.xWho f) ∧ ∀ g ∈ l, ¬ hit f.xWho g := by
  rw [List.pairwise_append]
  constructor
  · rintro ⟨h1, _, h3⟩
    exact ⟨h1, fun g hg => h3 g hg f (by simp)⟩
  · rintro ⟨h1, h3⟩
    exact ⟨h1, by simp, fun g hg x hx => by simp at hx; subst hx; exact h3 g hg⟩

theorem S_indexFlows {l : List GFlow} {κ : List (GPacket × Int) × Bool → Prop} (hy : ∀ m, fvP l → (∀ p, mget p m = fl l p) → κ (m, true)) (hn : ¬ fvP l → κ ([], false)) : L_impl_indexFlows l κ := by
  unfold L_impl_indexFlows
  refine ifW_of (fun hc => hn (fun hv => by have := hv.1; simp at hc; omega)) (fun hc => ?_)
  simp at hc
  refine count_loop l.length (fun s => s.2) (fun k s => s.2 = (k : Int) ∧ k ≤ l.length ∧ (∀ f ∈ l.take k, fv f) ∧ (l.take k).Pairwise (fun f g => ¬ hit g.xWho f) ∧ ∀ p, mget p s.1 = fl (l.take k) p) (fun k s h => h.1) (fun k s h => h.2.1) ?_
    ⟨rfl, Nat.zero_le _, by simp, by simp, fun p => rfl⟩
  rintro k ⟨m, t⟩ next ⟨rfl, hk, h1, h2, h3⟩ hnx
  simp only at h3
  refine ifW_of (fun hlt => ?_) (fun hge => ?_)
  · have hlt : k < l.length := by simpa using hlt
    have ht : l.take (k + 1) = l.take k ++ [l[k]] := List.take_succ_eq_append_getElem hlt
    have hbad : ¬ fv l[k] → κ ([], false) := fun hno => hn (fun hv => hno (hv.2.1 _ (List.getElem_mem hlt)))
    refine idxW_of k rfl hlt ?_
    unfold jnW
    refine S_PacketValid (ifW_of (fun hp => ?_) (fun hp => S_timeValid (ifW_of (fun ht => ?_) (fun htv => ?_))))
    · simp only [ifW_true]; exact hbad (fun hv => by simp [hv.1] at hp)
    · exact hbad (fun hv => by simp [hv.2] at ht)
    · simp at hp htv
      have hfv : fv l[k] := ⟨hp, htv⟩
      rw [h3]
      refine ifW_of (fun hy' => hn (fun hv => ?_)) (fun hno => ?_)
      · obtain ⟨g, hg, hh⟩ := fl_yes.1 hy'
        have hpw : (l.take (k + 1)).Pairwise (fun f g => ¬ hit g.xWho f) := hv.2.2.sublist (List.take_sublist _ _)
        rw [ht, pair_snoc] at hpw
        exact hpw.2 g hg hh
      · have hd : ∀ g ∈ l.take k, ¬ hit (l[k]).xWho g := fun g hg hh => by
          have := fl_yes.2 ⟨g, hg, hh⟩
          rw [hno] at this
          cases this
        unfold L_impl_Packet_reverse
        refine addW_of (by omega) (by omega) (hnx hlt _ ⟨by simp, by omega, ?_, ?_, fun p => ?_⟩)
        · rw [ht]
          intro f hf
          rcases List.mem_append.1 hf with hf | hf
          · exact h1 f hf
          · simp at hf; subst hf; exact hfv
        · rw [ht, pair_snoc]; exact ⟨h2, hd⟩
        · rw [ht, fl_snoc _ _ _ hd]
          show mget p (mput (rev l[k].xWho) (k : Int) (mput l[k].xWho (k : Int) m)) = _
          rw [mget_mput, mget_mput, h3]
          have hl : (l.take k).length = k := by simp; omega
          rw [hl]
          by_cases e1 : p = rev l[k].xWho
          · rw [if_pos e1, if_pos (show hit p l[k] from .inr e1.symm)]
          · by_cases e2 : p = l[k].xWho
            · rw [if_neg e1, if_pos e2, if_pos (show hit p l[k] from .inl e2.symm)]
            · rw [if_neg e1, if_neg e2, if_neg (show ¬ hit p l[k] from fun h => h.elim (fun h => e2 h.symm) (fun h => e1 h.symm))]
  · have : k = l.length := by simp at hge; omega
    subst this
    rw [List.take_length] at h1 h2 h3
    exact hy m ⟨by omega, h1, h2⟩ h3
theorem S_FlowsValid {l : List GFlow} {κ : Bool → Prop} (h : κ (decide (fvP l))) : L_impl_FlowsValid l κ :=
  S_indexFlows (fun m hv _ => by rw [decide_eq_true hv] at h; exact h) (fun hv => by rw [decide_eq_false hv] at h; exact h)
theorem known_eq {l : List GFlow} {p : GPacket} {now : Int} {i : Nat} (hi : i < l.length) (h : fl l p = ((i : Int), true)) : known l p now = if l[i].xUntil < now then -1 else (i : Int) := by
  unfold fl at h
  unfold known
  cases hf : l.findIdx? (fun f => decide (hit p f)) with
  | none => rw [hf] at h; simp at h
  | some j =>
    rw [hf] at h
    simp at h
    obtain rfl : j = i := by omega
    simp [hi]
theorem S_known {x : List (GPacket × Int)} {l : List GFlow} {p : GPacket} {now : Int} (hx : mget p x = fl l p) {κ : Int → Prop} (h : κ (known l p now)) : L_impl_flowIndex_known x l p now κ := by
  unfold L_impl_flowIndex_known jnW
  rw [hx]
  unfold known at h
  unfold fl
  cases hf : l.findIdx? (fun f => decide (hit p f)) with
  | none =>
    rw [hf] at h
    exact ifW_of (fun _ => by simp only [ifW_true]; exact h) (fun hc => by simp at hc)
  | some i =>
    rw [hf] at h
    obtain ⟨hi, _⟩ := List.findIdx?_eq_some_iff_getElem.1 hf
    simp only [List.getElem?_eq_getElem hi, Option.map_some, Option.getD_some] at h
    refine ifW_of (fun hc => by simp at hc) (fun _ => idxW_of i rfl hi (ifW_of (fun hc => ?_) (fun hc => ?_)))
    · simp at hc; rwa [if_pos hc] at h
    · simp at hc; rwa [if_neg (by omega)] at h
theorem S_notExpired {l : List GFlow} (hl : l.length ≤ 4294967296) {now : Int} {κ : List GFlow → Prop} (h : κ (notExp l now)) : L_impl_notExpired l now κ := by
  unfold L_impl_notExpired
  refine makeW_of 0 rfl (by omega) (by omega) ?_
  refine count_loop l.length (fun s => s.2) (fun k s => s.2 = (k : Int) ∧ k ≤ l.length ∧ s.1 = notExp (l.take k) now) (fun k s h => h.1) (fun k s h => h.2.1) ?_ ⟨rfl, Nat.zero_le _, rfl⟩
  rintro k ⟨ys, t⟩ next ⟨rfl, hk, h1⟩ hn
  simp only at h1
  subst h1
  refine ifW_of (fun hlt => ?_) (fun hge => ?_)
  · have hlt : k < l.length := by simpa using hlt
    have ht : l.take (k + 1) = l.take k ++ [l[k]] := List.take_succ_eq_append_getElem hlt
    have hle : (notExp (l.take k) now).length ≤ k := Nat.le_trans (List.length_filter_le _ _) (by simp; omega)
    refine idxW_of k rfl hlt (ifW_of (fun hc => appW_of (by simp; omega) (addW_of (by omega) (by omega) (hn hlt _ ⟨by simp, by omega, ?_⟩))) (fun hc => addW_of (by omega) (by omega) (hn hlt _ ⟨by simp, by omega, ?_⟩)))
    · simp only [ht, notExp, List.filter_append]
      simp [hc]
    · simp only [ht, notExp, List.filter_append]
      simp [hc]
  · have : k = l.length := by simp at hge; omega
    subst this
    rw [List.take_length]
    exact h
theorem notExp_ok {l : List GFlow} (h : fvP l) (now : Int) : fvP (notExp l now) := by
  have hs : (notExp l now).Sublist l := List.filter_sublist
  exact ⟨Nat.le_trans hs.length_le h.1, fun f hf => h.2.1 f (hs.subset hf), h.2.2.sublist hs⟩
theorem known_lt {l : List GFlow} {p : GPacket} {now : Int} (h : 0 ≤ known l p now) : ∃ i, ∃ hi : i < l.length, known l p now = (i : Int) ∧ hit p l[i] ∧ now ≤ l[i].xUntil ∧ l.findIdx? (fun f => decide (hit p f)) = some i := by
  unfold known at *
  cases hf : l.findIdx? (fun f => decide (hit p f)) with
  | none => rw [hf] at h; simp at h
  | some i =>
    rw [hf] at h
    obtain ⟨hi, h2, _⟩ := List.findIdx?_eq_some_iff_getElem.1 hf
    simp only [List.getElem?_eq_getElem hi, Option.map_some, Option.getD_some] at h ⊢
    split at h
    · omega
    · rename_i hc
      exact ⟨i, hi, if_neg hc, by simpa using h2, by omega, rfl⟩
theorem modify_set {α : Type} (l : List α) (i : Nat) (h : i < l.length) (f : α → α) : l.modify i f = l.set i (f l[i]) := by
  apply List.ext_getElem
  · simp
  · intro j h1 h2
    rw [List.getElem_modify, List.getElem_set]
    split
    · rename_i e; subst e; rfl
    · rfl
theorem S_trackValid {l : List GFlow} {p : GPacket} {now life : Int} (hv : fvP l) (h1 : tv now) (h2 : lv life) {κ : List GFlow × Bool → Prop} (h : ∀ A ok, track l p now life = (A, ok) → κ (A, ok)) : L_impl_trackValid l p now life κ := by
  unfold L_impl_trackValid
  obtain ⟨t1, t2⟩ := h1
  obtain ⟨l1, l2⟩ := h2
  have ho := notExp_ok hv now
  unfold track at h
  refine S_notExpired (by have := hv.1; omega) (addW_of (by omega) (by omega) (S_indexFlows (fun m hm hmg => S_known (hmg p) ?_) (fun hno => absurd ho hno)))
  refine ifW_of (fun hc => ?_) (fun hc => ?_)
  · have hc : 0 ≤ known (notExp l now) p now := by simpa using hc
    rw [if_pos hc] at h
    obtain ⟨i, hi, e, _⟩ := known_lt hc
    rw [e] at h ⊢
    refine idxW_of i rfl hi (h _ _ ?_)
    simp only [Int.toNat_natCast]
    congr 1
    rw [modify_set _ _ hi]
  · have hc : ¬ 0 ≤ known (notExp l now) p now := by simpa using hc
    rw [if_neg hc] at h
    have := ho.1
    refine ifW_of (fun h20 => ?_) (fun h20 => appW_of (by simp; omega) ?_)
    · rw [if_pos (by simp at h20; omega)] at h
      exact h _ _ rfl
    · rw [if_neg (by simp at h20; omega)] at h
      exact h _ _ rfl
def trackV (l : List GFlow) (p : GPacket) (now life : Int) : Prop := fvP l ∧ pv p ∧ tv now ∧ lv life
instance (l : List GFlow) (p : GPacket) (now life : Int) : Decidable (trackV l p now life) := by unfold trackV; infer_instance
theorem S_implTrackFlow {l : List GFlow} {p : GPacket} {now life : Int} {κ : List GFlow × Bool → Prop} (hy : trackV l p now life → ∀ A ok, track l p now life = (A, ok) → κ (A, ok)) (hn : ¬ trackV l p now life → κ ([], false)) : L_impl_TrackFlow l p now life κ := by
  unfold L_impl_TrackFlow jnW
  refine S_FlowsValid (ifW_of (fun h1 => ?_) (fun h1 => S_PacketValid (ifW_of (fun h2 => ?_) (fun h2 => S_timeValid (ifW_of (fun h3 => ?_) (fun h3 => S_lifeValid ?_))))))
  · simp only [ifW_true]; exact hn (fun hv => by simp [hv.1] at h1)
  · simp only [ifW_true]; exact hn (fun hv => by simp [hv.2.1] at h2)
  · simp only [ifW_true]; exact hn (fun hv => by simp [hv.2.2.1] at h3)
  · simp at h1 h2 h3
    refine ifW_of (fun h4 => hn (fun hv => by simp [hv.2.2.2] at h4)) (fun h4 => ?_)
    simp at h4
    exact S_trackValid h1 h3 h4 (fun A ok e => hy ⟨h1, h2, h3, h4⟩ A ok e)
end Go.Proofs.YtfgbbpmbmmihcaaDoor
