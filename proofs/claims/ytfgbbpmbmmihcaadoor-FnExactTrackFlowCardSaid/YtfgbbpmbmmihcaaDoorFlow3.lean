/- The laws of tracked flows, on their pure forms. -/
import Derived.Test.YtfgbbpmbmmihcaaDoorFlow2
set_option linter.unusedSimpArgs false
set_option linter.unusedVariables false
namespace Go.Proofs.YtfgbbpmbmmihcaaDoor

/-! draws -/
theorem S_l20Packet {b : List UInt8} {p n : Int} (hb : b.length ≤ 2000) (h0 : 0 ≤ p) (h1 : p ≤ 900000) (hn : n ≤ 4294967296) {κ : GPacket × Int → Prop} (h : ∀ k p', p ≤ p' → p' ≤ p + 20 → κ (k, p')) : L_spec_l20Packet b p n κ := by
  unfold L_spec_l20Packet
  have rd : ∀ q, 0 ≤ q → q ≤ 900040 → RdP b q := fun q q1 q2 => ⟨hb, q1, by omega⟩
  refine S_pick (rd _ (by omega) (by omega)) (fun a a1 a2 => S_pick (rd _ (by omega) (by omega)) (fun c c1 c2 => S_pick (rd _ (by omega) (by omega)) (fun d d1 d2 => S_pick (rd _ (by omega) (by omega)) (fun e e1 e2 => ?_))))
  have fin : ∀ (q x y z : Int), p ≤ q → q ≤ p + 12 → L_spec_l20Rd_odd b q n (fun (r44, r45) => ifW r44 (L_spec_l20Rd_pick b r45 4 (fun (r46, r47) => ifW (decide (r46 = 0)) (L_spec_l20Rd_pick b r47 2 (fun (r50, r51) => idxW ([(-1), 65536]) r50 (fun e52 => κ ((GPacket.mk e52 y z e), r51)))) (ifW (decide (r46 = 1)) (L_spec_l20Rd_pick b r47 2 (fun (r56, r57) => idxW ([(-1), 65536]) r56 (fun e58 => κ ((GPacket.mk x e58 z e), r57)))) (ifW (decide (r46 = 2)) (L_spec_l20Rd_pick b r47 2 (fun (r62, r63) => idxW ([(-1), 256]) r62 (fun e64 => κ ((GPacket.mk x y e64 e), r63)))) (L_spec_l20Rd_pick b r47 2 (fun (r68, r69) => idxW ([(-1), 8]) r68 (fun e70 => κ ((GPacket.mk x y z e70), r69)))))))) (κ ((GPacket.mk x y z e), r45))) := by
    intro q x y z q1 q2
    refine S_odd (rd _ (by omega) (by omega)) hn (fun o r r1 r2 => ifW_of (fun _ => S_pick (rd _ (by omega) (by omega)) (fun k k1 k2 => ?_)) (fun _ => h _ _ (by omega) (by omega)))
    refine ifW_of (fun _ => ?_) (fun _ => ifW_of (fun _ => ?_) (fun _ => ifW_of (fun _ => ?_) (fun _ => ?_)))
    all_goals exact S_pick (rd _ (by omega) (by omega)) (fun j j1 j2 => idxW_any j1 (by simp; omega) (fun x hx => h _ _ (by omega) (by omega)))
  unfold jnW
  refine S_pick (rd _ (by omega) (by omega)) (fun v v1 v2 => ifW_of (fun _ => ?_) (fun _ => ?_))
  · refine S_pick (rd _ (by omega) (by omega)) (fun f f1 f2 => mulW_of (by omega) (by omega) (S_pick (rd _ (by omega) (by omega)) (fun g g1 g2 => addW_of (by omega) (by omega) (S_pick (rd _ (by omega) (by omega)) (fun i i1 i2 => mulW_of (by omega) (by omega) (S_pick (rd _ (by omega) (by omega)) (fun j j1 j2 => addW_of (by omega) (by omega) (S_pick (rd _ (by omega) (by omega)) (fun l l1 l2 => ?_)))))))))
    exact fin _ _ _ _ (by omega) (by omega)
  · exact fin _ _ _ _ (by omega) (by omega)
theorem S_specTrack_any {l : List GFlow} (hl : l.length ≤ 4294967295) {p : GPacket} {now life : Int} {κ : List GFlow × Bool → Prop} (h : ∀ A ok, A.length ≤ l.length + 1 → κ (A, ok)) : L_spec_TrackFlow l p now life κ :=
  S_specTrack (by omega) (fun _ A ok e => h A ok (by have := track_len l p now life; rw [e] at this; exact this)) (fun _ => h _ _ (by simp))
theorem S_l20Flows {b : List UInt8} {p n : Int} (hb : b.length ≤ 2000) (h0 : 0 ≤ p) (h1 : p ≤ 800000) (hn : n ≤ 4294967296) {κ : List GFlow × Int → Prop} (h : ∀ l p', l.length ≤ 30 → p ≤ p' → p' ≤ p + 300 → κ (l, p')) : L_spec_l20Flows b p n κ := by
  unfold L_spec_l20Flows
  refine S_pick ⟨hb, by omega, by omega⟩ (fun k k1 k2 => ?_)
  refine loopW_inv (fun s => (0 ≤ s.2.2 ∧ s.2.2 ≤ 7) ∧ (p + 1 ≤ s.1 ∧ s.1 ≤ p + 1 + 30 * (7 - s.2.2)) ∧ (s.2.1.length : Int) ≤ 7 - s.2.2) (fun s => s.2.2.toNat) ?_ ⟨⟨k1, by simp only; omega⟩, by simp only; omega, by simp; omega⟩
  rintro ⟨q, xs, i⟩ next ⟨⟨i1, i2⟩, ⟨q1, q2⟩, hx⟩ hnx
  simp only at i1 i2 q1 q2 hx
  refine ifW_of (fun hi => ?_) (fun hi => ?_)
  · have hi : 0 < i := by simpa using hi
    refine S_l20Packet hb (by omega) (by omega) (by omega) (fun k q' r1 r2 => S_pick ⟨hb, by omega, by omega⟩ (fun v v1 v2 => S_specTrack_any (by omega) (fun A ok hA => subW_of (by omega) (by omega) (hnx _ ⟨?_, ?_, ?_⟩ ?_))))
    all_goals simp only
    all_goals omega
  · have fin : ∀ (q' : Int) (ys : List GFlow), p ≤ q' → q' ≤ p + 250 → ys.length ≤ 20 → L_spec_l20Rd_odd b q' n (fun (r52, r53) => ifW r52 (L_spec_l20Rd_pick b r53 4 (fun (r54, r55) => ifW (decide (r54 = 0)) (L_spec_l20Packet b r55 1 (fun (r56, r57) => appW ys ([(GFlow.mk r56 0)]) (fun _ => κ (ys ++ ([(GFlow.mk r56 0)]), r57)))) (ifW (decide (r54 = 1)) (L_spec_l20Rd_pick b r55 2 (fun (r64, r65) => idxW ([(-1), 1000001]) r64 (fun e66 => appW ys ([(GFlow.mk (GPacket.mk 7777 0 0 0) e66)]) (fun _ => κ (ys ++ ([(GFlow.mk (GPacket.mk 7777 0 0 0) e66)]), r65))))) (ifW (decide (r54 = 2)) (appW ys ([(GFlow.mk (GPacket.mk 5 6 0 0) 0), (GFlow.mk (GPacket.mk 6 5 0 0) 0)]) (fun _ => κ (ys ++ ([(GFlow.mk (GPacket.mk 5 6 0 0) 0), (GFlow.mk (GPacket.mk 6 5 0 0) 0)]), r55))) (makeW ((GFlow.mk (GPacket.mk 0 0 0 0) 0) : GFlow) 21 21 (fun xs77 => κ (xs77, r55))))))) (κ (ys, r53))) := by
      intro q' ys g1 g2 g3
      refine S_odd ⟨hb, by omega, by omega⟩ hn (fun c r r1 r2 => ifW_of (fun _ => S_pick ⟨hb, by omega, by omega⟩ (fun v v1 v2 => ?_)) (fun _ => h _ _ (by omega) (by omega) (by omega)))
      refine ifW_of (fun _ => ?_) (fun _ => ifW_of (fun _ => ?_) (fun _ => ifW_of (fun _ => ?_) (fun _ => ?_)))
      · exact S_l20Packet hb (by omega) (by omega) (by omega) (fun k q'' s1 s2 => appW_of (by simp; omega) (h _ _ (by simp; omega) (by omega) (by omega)))
      · exact S_pick ⟨hb, by omega, by omega⟩ (fun j j1 j2 => idxW_any j1 (by simp; omega) (fun x _ => appW_of (by simp; omega) (h _ _ (by simp; omega) (by omega) (by omega))))
      · exact appW_of (by simp; omega) (h _ _ (by simp; omega) (by omega) (by omega))
      · exact makeW_of 21 rfl (by omega) (by omega) (h _ _ (by simp) (by omega) (by omega))
    simp only [jnW]
    refine S_odd ⟨hb, by omega, by omega⟩ (by omega) (fun c r r1 r2 => ifW_of (fun _ => ?_) (fun _ => fin _ _ (by omega) (by omega) (by omega)))
    refine loopW_inv (fun s => (0 ≤ s.2 ∧ s.2 ≤ s.1.length) ∧ s.1.length ≤ 20) (fun s => 20 - s.1.length) ?_ ⟨⟨by simp, by simp⟩, by simp only; omega⟩
    rintro ⟨ys, j⟩ next3 ⟨⟨j1, j2⟩, hy⟩ hn3
    simp only at j1 j2 hy
    refine ifW_of (fun hlt => ?_) (fun _ => fin _ _ (by omega) (by omega) (by omega))
    have hlt : ys.length < 20 := by simp at hlt; omega
    refine addW_of (by omega) (by omega) (appW_of (by simp; omega) (addW_of (by omega) (by omega) (hn3 _ ⟨⟨?_, ?_⟩, ?_⟩ ?_)))
    all_goals simp only [List.length_append, List.length_cons, List.length_nil]
    all_goals omega
theorem S_l20Moment {b : List UInt8} {p : Int} (hb : b.length ≤ 2000) (h0 : 0 ≤ p) (h1 : p ≤ 700000) {κ : List GFlow × GPacket × Int × Int → Prop} (h : ∀ l k now p', l.length ≤ 30 → p ≤ p' → p' ≤ p + 400 → κ (l, k, now, p')) : L_spec_l20Moment b p κ := by
  unfold L_spec_l20Moment
  refine S_l20Flows hb h0 (by omega) (by omega) (fun l q hl q1 q2 => S_l20Packet hb (by omega) (by omega) (by omega) (fun k r r1 r2 => ?_))
  have fin : ∀ (s : Int) (kk : GPacket), p ≤ s → s ≤ p + 350 → L_spec_l20Rd_pick b s 70 (fun (r37, r38) => L_spec_l20Rd_pick b r38 9 (fun (r41, r42) => idxW ([0, 0, 0, 0, 0, 0, 1, 2, 3]) r41 (fun e43 => idxW ([r37, (-1), 1000000, 1000001]) e43 (fun e45 => κ (l, kk, e45, r42))))) := by
    intro s kk s1 s2
    exact S_pick ⟨hb, by omega, by omega⟩ (fun v v1 v2 => S_pick ⟨hb, by omega, by omega⟩ (fun u u1 u2 => idxW_any u1 (by simp; omega) (fun i hi => idxW_any (by simp at hi; omega) (by simp at hi ⊢; omega) (fun x _ => h _ _ _ _ hl (by omega) (by omega)))))
  unfold jnW
  refine ifW_of (fun hpos => S_pick ⟨hb, by omega, by omega⟩ (fun v v1 v2 => ifW_of (fun _ => S_pick ⟨hb, by omega, by omega⟩ (fun u u1 u2 => idxW_any u1 (by simp at hpos; omega) (fun f _ => S_pick ⟨hb, by omega, by omega⟩ (fun z z1 z2 => ifW_of (fun _ => S_specReverse ?_) (fun _ => ?_))))) (fun _ => ?_))) (fun _ => ifW_of (fun hc => by cases hc) (fun _ => ?_))
  all_goals exact fin _ ⟨_, _, _, _⟩ (by omega) (by omega)
theorem S_DrawTrackFlow {c : List UInt8} {κ : List GFlow × GPacket × Int × Int → Prop} (h : ∀ l k now life, l.length ≤ 30 → κ (l, k, now, life)) : L_spec_DrawTrackFlow c κ := by
  unfold L_spec_DrawTrackFlow L_spec_l20Life
  exact S_l20Open (fun b hb => S_l20Moment hb (by omega) (by omega) (fun l k now q hl q1 q2 => S_pick ⟨hb, by omega, by omega⟩ (fun v v1 v2 => S_pick ⟨hb, by omega, by omega⟩ (fun u u1 u2 => idxW_any u1 (by simp; omega) (fun i hi => idxW_any (by simp at hi; omega) (by simp at hi ⊢; omega) (fun x _ => h _ _ _ _ hl))))))

/-! the program's other functions -/
theorem S_ReversePacket {p : GPacket} {κ : GPacket → Prop} (h : κ (if pv p then rev p else ⟨0, 0, 0, 0⟩)) : L_impl_ReversePacket p κ := by
  unfold L_impl_ReversePacket
  refine S_PacketValid (ifW_of (fun hc => ?_) (fun hc => ?_))
  · rw [if_neg (by simpa using hc)] at h; exact h
  · rw [if_pos (by simpa using hc)] at h; exact h
theorem S_KnownFlow {l : List GFlow} {p : GPacket} {now : Int} (h1 : fvP l) (h2 : pv p) (h3 : tv now) {κ : Int → Prop} (h : κ (known l p now)) : L_impl_KnownFlow l p now κ := by
  unfold L_impl_KnownFlow
  refine S_indexFlows (fun m _ hm => ?_) (fun hno => absurd h1 hno)
  unfold jnW
  simp only [Bool.not_true, ifW_false]
  refine S_PacketValid ?_
  rw [decide_eq_true h2]
  simp only [Bool.not_true, ifW_false]
  refine S_timeValid ?_
  rw [decide_eq_true h3]
  simp only [Bool.not_true, ifW_false]
  exact S_known (hm p) h
theorem S_ExpireFlows {l : List GFlow} {now : Int} (h1 : fvP l) (h2 : tv now) {κ : List GFlow → Prop} (h : κ (notExp l now)) : L_impl_ExpireFlows l now κ := by
  unfold L_impl_ExpireFlows jnW
  refine S_FlowsValid ?_
  rw [decide_eq_true h1]
  simp only [Bool.not_true, ifW_false]
  refine S_timeValid ?_
  rw [decide_eq_true h2]
  simp only [Bool.not_true, ifW_false]
  exact S_notExpired (by have := h1.1; omega) h
theorem S_sameFlows {a b : List GFlow} (hl : a.length ≤ 4294967296) {κ : Bool → Prop} (h : κ (decide (a = b))) : L_laws_sameFlows a b κ := by
  unfold L_laws_sameFlows
  refine ifW_of (fun hc => ?_) (fun hc => ?_)
  · have : a ≠ b := fun e => by subst e; simp at hc
    rwa [decide_eq_false this] at h
  · refine eq_loop a b (by simp at hc; omega) hl (κ := κ) (fun x y A => ifW (!decide (x = y)) (κ false) A) (fun x y A h1 h2 => ifW_of (fun h3 => h2 (by simpa using h3)) (fun h3 => h1 (by simpa using h3))) h _ (fun nx t h => h)

theorem trackFlow_pure (code : List UInt8) : L_laws_FnTrackFlow code (fun r => r = true) := by
  unfold L_laws_FnTrackFlow
  refine ifW_of (fun _ => rfl) (fun _ => S_DrawTrackFlow (fun l p now life hl => ?_))
  have same : ∀ (A : List GFlow) (ok : Bool), A.length ≤ 31 → (∀ X : Prop, X → jnW (fun (t19 : Bool) => ifW t19 (false = true) X) (fun k20 => L_laws_sameFlows A A (fun r21 => ifW (!r21) (k20 true) (k20 (!(decide (ok = ok))))))) := fun A ok hA X hX => by
    unfold jnW
    refine S_sameFlows (by omega) ?_
    simp only [decide_true, Bool.not_true, ifW_false]
    exact hX
  refine S_implTrackFlow (fun hv A ok e => S_specTrack (by omega) (fun _ A' ok' e' => ?_) (fun hno => absurd hv hno)) (fun hno => S_specTrack (by omega) (fun hv => absurd hv hno) (fun _ => ?_))
  · obtain ⟨rfl, rfl⟩ := Prod.mk.inj (e.symm.trans e')
    have hlen := track_len l p now life
    rw [e] at hlen
    simp only at hlen
    refine same A ok (by omega) _ ?_
    obtain ⟨v1, v2, v3, v4⟩ := id hv
    have ⟨t1, t2⟩ := v3
    have ⟨l1, l2⟩ := v4
    cases ok with
    | false =>
      obtain ⟨rfl, h20⟩ := track_full e
      simp only [Bool.not_false, ifW_true]
      unfold jnW
      refine ifW_of (fun hc => by simp at hc; simp [hc] at h20) (fun _ => S_ExpireFlows v1 v3 (S_sameFlows (by omega) ?_))
      simp only [decide_true, ifW_true]
      exact ifW_of (fun _ => S_alive rfl) (fun hc => by simp at hc; omega)
    | true =>
      obtain ⟨o1, o2, i, hi, o3, o4⟩ := track_ok hv e
      simp only [Bool.not_true, ifW_false]
      refine addW_of (by omega) (by omega) ?_
      unfold jnW
      refine S_FlowsValid ?_
      rw [decide_eq_true o1]
      simp only [ifW_true]
      have hu : tv (min 1000000 (now + life)) := by unfold tv; omega
      refine S_KnownFlow o1 v2 hu ?_
      rw [known_at o1 hi o3, if_neg (by omega)]
      refine ifW_of (fun _ => S_ReversePacket ?_) (fun hc => by simp at hc)
      rw [if_pos v2]
      refine S_KnownFlow o1 (pv_rev v2) v3 ?_
      rw [known_at o1 hi (hit_rev.2 o3), if_neg (by omega)]
      refine ifW_of (fun _ => ?_) (fun hc => by simp at hc)
      have hend : addW (l.length : Int) 1 (fun t => decide ((A.length : Int) ≤ t) = true) := addW_of (by omega) (by omega) (by simp; omega)
      refine ifW_of (fun _ => hend) (fun hc => addW_of (by omega) (by omega) (S_KnownFlow o1 v2 ?_ ?_))
      · simp at hc; unfold tv; omega
      · rw [known_at o1 hi o3, if_pos (by omega)]
        simp only [decide_true, ifW_true]
        exact hend
  · refine same [] false (by simp) _ ?_
    simp only [Bool.not_false, ifW_true]
    unfold jnW
    exact ifW_of (fun _ => S_alive rfl) (fun hc => by simp at hc)

theorem flowsTwice_pure (code : List UInt8) : L_laws_FnFlowsTwice code (fun r => r = true) := by
  unfold L_laws_FnFlowsTwice
  refine ifW_of (fun _ => rfl) (fun _ => S_DrawTrackFlow (fun l p now life hl => ?_))
  have same : ∀ (A : List GFlow) (ok : Bool), A.length ≤ 31 → (∀ X : Prop, X → jnW (fun (t19 : Bool) => ifW t19 (false = true) X) (fun k20 => L_laws_sameFlows A A (fun r21 => ifW (!r21) (k20 true) (k20 (!(decide (ok = ok))))))) := fun A ok hA X hX => by
    unfold jnW
    refine S_sameFlows (by omega) ?_
    simp only [decide_true, Bool.not_true, ifW_false]
    exact hX
  refine S_implTrackFlow (fun hv A ok e => S_specTrack (by omega) (fun _ A' ok' e' => ?_) (fun hno => absurd hv hno)) (fun hno => S_specTrack (by omega) (fun hv => absurd hv hno) (fun _ => ?_))
  · obtain ⟨rfl, rfl⟩ := Prod.mk.inj (e.symm.trans e')
    have hlen := track_len l p now life
    rw [e] at hlen
    simp only at hlen
    refine same A ok (by omega) _ ?_
    cases ok with
    | false => exact ifW_of (fun _ => S_alive rfl) (fun hc => by simp at hc)
    | true =>
      obtain ⟨w1, w2⟩ := track_twice hv e
      simp only [Bool.not_true, ifW_false]
      refine S_ReversePacket ?_
      rw [if_pos hv.2.1]
      refine S_implTrackFlow (fun _ A2 ok2 e2 => ?_) (fun hno => absurd w1 hno)
      obtain ⟨rfl, rfl⟩ := Prod.mk.inj (w2.symm.trans e2)
      unfold jnW
      simp only [ifW_true]
      exact S_sameFlows (by omega) (by simp)
  · refine same [] false (by simp) _ ?_
    exact ifW_of (fun _ => S_alive rfl) (fun hc => by simp at hc)

/-! the exact law -/
theorem S_toFlowS {a : List GFlow} (hl : a.length ≤ 4294967296) {κ : List GFlow → Prop} (h : κ a) : L_laws_toFlowS a κ := by
  unfold L_laws_toFlowS
  refine makeW_of a.length rfl (Int.le_refl _) (by omega) ?_
  exact copy_loop a id hl (fun e ψ => L_laws_toFlow e ψ) (fun _ _ _ h => h) (by simpa using h) (by simp) _ (fun nx xs t h => h)
theorem S_eqFlow {a b : GFlow} {κ : Bool → Prop} (h : κ (decide (a = b))) : L_laws_eqFlow a b κ := by
  unfold L_laws_eqFlow L_laws_eqPacket
  by_cases e : a = b
  · subst e
    simp only [decide_true, Bool.not_true, ifW_false]
    simpa using h
  · rw [decide_eq_false e] at h
    refine ifW_of (fun _ => ?_) (fun h1 => ifW_of (fun _ => ?_) (fun h2 => ifW_of (fun _ => ?_) (fun h3 => ifW_of (fun _ => ?_) (fun h4 => ?_))))
    all_goals simp only [Bool.not_false, Bool.not_true, ifW_true, ifW_false]
    all_goals try exact h
    refine ifW_of (fun _ => h) (fun h5 => absurd ?_ e)
    simp at h1 h2 h3 h4 h5
    exact GFlow.ext (GPacket.ext h1 h2 h3 h4) h5
theorem S_eqFlowS {a b : List GFlow} (hl : a.length ≤ 4294967296) {κ : Bool → Prop} (h : κ (decide (a = b))) : L_laws_eqFlowS a b κ := by
  unfold L_laws_eqFlowS
  refine ifW_of (fun hc => ?_) (fun hc => ?_)
  · have : a ≠ b := fun e => by subst e; simp at hc
    rwa [decide_eq_false this] at h
  · exact eq_loop a b (by simp at hc; omega) hl (κ := κ) (fun x y A => L_laws_eqFlow x y (fun r => ifW (!r) (κ false) A)) (fun x y A h1 h2 => S_eqFlow (ifW_of (fun h3 => h2 (by simpa using h3)) (fun h3 => h1 (by simpa using h3)))) h _ (fun nx t h => h)
def mkFlow (k : Int) : GFlow := ⟨⟨k, k + 1, k + 1 + 1, k + 1 + 1 + 1⟩, k + 1 + 1 + 1 + 1⟩
theorem S_markFlowS {a : List GFlow} (hl : a.length ≤ 4294967296) {k : Int} (h1 : 0 ≤ k) (h2 : k ≤ 1000000000000000000) {κ : Int × List GFlow → Prop} (h : κ (k + 5 * a.length, marksN mkFlow 5 k a.length)) : L_laws_markFlowS a k κ := by
  unfold L_laws_markFlowS
  refine markN_loop mkFlow 5 a k hl h1 h2 (by omega) (by omega) (κ := κ) h _ (fun nx xs k t hxl hk1 hk2 hnx hend => ifW_of (fun hc => ?_) (fun hc => hend (by simpa using hc)))
  have hlt : t < xs.length := by simpa using hc
  refine idxW_of t rfl hlt (addW_of (by omega) (by omega) (idxW_set hlt (addW_of (by omega) (by omega) (idxW_set (set_lt hlt) (addW_of (by omega) (by omega) (idxW_set (set_lt (set_lt hlt)) (addW_of (by omega) (by omega) (idxW_set (set_lt (set_lt (set_lt hlt))) (addW_of (by omega) (by omega) (addW_of (by omega) (by omega) ?_))))))))))
  have e : k + 1 + 1 + 1 + 1 + 1 = k + 5 := by omega
  simp only [Int.toNat_natCast, List.set_set, e]
  exact hnx hlt
theorem S_heldFlowS {n : Nat} (hl : n ≤ 4294967296) {k : Int} (h1 : 0 ≤ k) (h2 : k ≤ 1000000000000000000) {κ : Int → Prop} (h : κ (k + 5 * n)) : L_laws_heldFlowS (marksN mkFlow 5 k n) k κ := by
  unfold L_laws_heldFlowS
  refine heldN_loop mkFlow 5 k n hl h1 h2 (by omega) (by omega) (κ := κ) h _ (fun nx k t ht hk1 hk2 hg hend => ifW_of (fun hc => ?_) (fun hc => hend (by simpa [marksN_length] using hc)))
  obtain ⟨hg, hnx⟩ := hg (by simpa [marksN_length] using hc)
  have st : ∀ (X : GFlow → Prop), X (mkFlow k) → idxW _ (t : Int) X := fun X hX => ⟨mkFlow k, by omega, by simpa using hg, hX⟩
  refine st _ ?_
  simp only [mkFlow, decide_true, Bool.not_true, ifW_false]
  refine addW_of (by omega) (by omega) (st _ ?_)
  simp only [mkFlow, decide_true, Bool.not_true, ifW_false]
  refine addW_of (by omega) (by omega) (st _ ?_)
  simp only [mkFlow, decide_true, Bool.not_true, ifW_false]
  refine addW_of (by omega) (by omega) (st _ ?_)
  simp only [mkFlow, decide_true, Bool.not_true, ifW_false]
  refine addW_of (by omega) (by omega) (st _ ?_)
  simp only [mkFlow, decide_true, Bool.not_true, ifW_false]
  refine addW_of (by omega) (by omega) (addW_of (by omega) (by omega) ?_)
  have e : k + 1 + 1 + 1 + 1 + 1 = k + 5 := by omega
  rw [e]
  exact hnx
theorem S_track_both {l : List GFlow} (hl : l.length ≤ 4294967296) {p : GPacket} {now life : Int} {κ : List GFlow × Bool → Prop} (R : List GFlow × Bool) (hR : R = if trackV l p now life then track l p now life else ([], false)) (h : ∀ A ok, R = (A, ok) → κ (A, ok)) : L_impl_TrackFlow l p now life κ :=
  S_implTrackFlow (fun hv A ok e => h A ok (by rw [hR, if_pos hv]; exact e)) (fun hv => h _ _ (by rw [hR, if_neg hv]))
theorem S_specTrack_both {l : List GFlow} (hl : l.length ≤ 4294967296) {p : GPacket} {now life : Int} {κ : List GFlow × Bool → Prop} (R : List GFlow × Bool) (hR : R = if trackV l p now life then track l p now life else ([], false)) (h : ∀ A ok, R = (A, ok) → κ (A, ok)) : L_spec_TrackFlow l p now life κ :=
  S_specTrack hl (fun hv A ok e => h A ok (by rw [hR, if_pos hv]; exact e)) (fun hv => h _ _ (by rw [hR, if_neg hv]))
theorem S_szFlowS {a : List GFlow} {left : Nat} (hl : a.length ≤ 9223372036854775807) (h0 : left ≤ 4294967296) (h1 : 0 ≤ left) {κ : Int → Prop} (h : ∀ r : Int, (0 ≤ r → a.length ≤ left) → κ r) : L_laws_szFlowS a (left : Int) κ := by
  unfold L_laws_szFlowS
  exact subW_of (by omega) (by omega) (ifW_of (fun hc => h _ (fun k => by omega)) (fun hc => h _ (fun k => by omega)))
theorem S_toPacket {p : GPacket} {κ : GPacket → Prop} (h : κ p) : L_laws_toPacket p κ := h
theorem exactTrackFlow_pure (l : List GFlow) (p : GPacket) (now life : Int) (hlm : l.length ≤ 9223372036854775807) : L_laws_FnExactTrackFlow l p now life (fun r => r = true) := by
  unfold L_laws_FnExactTrackFlow
  refine S_szFlowS (left := 1048576) hlm (by omega) (by omega) (fun r hr => ifW_of (fun _ => rfl) (fun hc => ?_))
  have hl : l.length ≤ 1048576 := hr (by simpa using hc)
  clear hc hr
  have hl0 : l.length ≤ 4294967296 := by omega
  refine S_toFlowS hl0 (S_toPacket ?_)
  obtain ⟨⟨A, ok⟩, hR⟩ : ∃ R, R = if trackV l p now life then track l p now life else ([], false) := ⟨_, rfl⟩
  have hA : A.length ≤ 4294967296 := by
    split at hR
    · have := track_len l p now life
      rw [← hR] at this
      simp only at this
      omega
    · cases hR; simp
  refine S_specTrack_both hl0 (A, ok) hR (fun A1 ok1 e => ?_)
  obtain ⟨rfl, rfl⟩ := Prod.mk.inj e
  refine S_toFlowS hl0 (S_toPacket (S_track_both hl0 (A, ok) hR (fun A1 ok1 e => ?_)))
  obtain ⟨rfl, rfl⟩ := Prod.mk.inj e
  have same : ∀ X : Prop, X → jnW (fun (t : Bool) => ifW t (false = true) X) (fun k => L_laws_eqFlowS A A (fun r => ifW (!r) (k true) (k (!(decide (ok = ok)))))) := fun X hX => by
    unfold jnW
    refine S_eqFlowS hA ?_
    simp only [decide_true, Bool.not_true, ifW_false]
    exact hX
  refine same _ (S_toFlowS hl0 (S_eqFlowS hl0 ?_))
  simp only [decide_true, Bool.not_true, ifW_false]
  refine S_markFlowS (k := 1) hl0 (by omega) (by omega) ?_
  unfold jnW
  refine ifW_of (fun hc => by simp at hc; omega) (fun _ => S_eqFlowS hA ?_)
  simp only [decide_true, Bool.not_true, ifW_false]
  refine S_markFlowS (k := 1) hA (by omega) (by omega) ?_
  refine S_heldFlowS (k := 1) hA (by omega) (by omega) ?_
  refine ifW_of (fun hc => by simp at hc; omega) (fun _ => ifW_of (fun hc => by simp at hc) (fun _ => S_toFlowS hl0 (S_toPacket (S_track_both hl0 (A, ok) hR (fun A1 ok1 e => ?_)))))
  obtain ⟨rfl, rfl⟩ := Prod.mk.inj e
  refine S_eqFlowS hA ?_
  simp only [decide_true, Bool.not_true, ifW_false]
  refine S_heldFlowS (k := 1) hA (by omega) (by omega) ?_
  refine ifW_of (fun hc => by simp at hc; omega) (fun _ => ifW_of (fun hc => by simp at hc) (fun _ => trivial))
end Go.Proofs.YtfgbbpmbmmihcaaDoor
