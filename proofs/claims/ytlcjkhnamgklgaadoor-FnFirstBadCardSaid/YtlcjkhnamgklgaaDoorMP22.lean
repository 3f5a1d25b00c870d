/- Texts of this seat, put together. -/
import Derived.Test.YtlcjkhnamgklgaaDoorMP2
set_option linter.unusedSimpArgs false
set_option linter.unusedVariables false
namespace Go.Proofs.YtlcjkhnamgklgaaDoor
section
open Go.Lib (decDigits)

theorem pureFnFirstBad (code : List UInt8) : L_laws_FnFirstBad code (fun r => r = true) := by
  unfold L_laws_FnFirstBad
  refine ifW_of (fun _ => rfl) (fun hc => ?_)
  unfold L_spec_DrawFirstBad
  refine S_l20Open (fun b hb => S_l20Lines hb (by omega) (fun xs p' hw => ?_))
  obtain ⟨ls, rfl⟩ := lines_eq xs
  obtain ⟨b1, b2⟩ := bw_bl hw
  have hbl : Bl ls := ⟨by omega, fun l hl => by have := b2 l hl; omega⟩
  refine S_impl_FirstBad hbl (fun v hfb => S_spec_FirstBad ⟨by omega, hbl.2⟩ (fun u hu => ?_))
  rw [FB_one hu hfb]
  refine ifW_of (fun hx => by simp at hx) (fun _ => ?_)
  unfold jnW
  rcases hfb with ⟨n, n1, rfl, n2, n3⟩ | ⟨st, cs, a, e1, e2⟩
  · refine ifW_of (fun hx => by simp at hx; omega) (fun _ => ifW_of (fun hx => by simp at hx; omega) (fun _ => ifW_of (fun hx => by simp at hx; omega) (fun _ => ?_)))
    have hb1 : Bl (ls.take n) := hbl.take n
    have hb2 : Bl (ls.take (n + 1)) := hbl.take (n + 1)
    have hb3 : Bl (ls ++ [[110, 111, 110, 101]]) := ⟨by simp; omega, fun l hl => by
      rcases List.mem_append.1 hl with hl | hl
      · exact hbl.2 l hl
      · rw [List.mem_singleton] at hl; subst hl; simp⟩
    have last : L_impl_FirstBad (([] ++ ls.map B) ++ [(ByteArray.mk #[110, 111, 110, 101])]) (fun r155 => ifW (decide (r155 = (n : Int))) (addW (n : Int) 1 (fun t156 => sliceW (ls.map B) 0 t156 (fun xs158 => L_impl_FirstBad xs158 (fun r160 => (decide (r160 = (n : Int))) = true)))) (false = true)) := by
      have e : ([] ++ ls.map B) ++ [(ByteArray.mk #[110, 111, 110, 101])] = (ls ++ [[110, 111, 110, 101]]).map B := by simp; rfl
      rw [e]
      refine S_impl_FirstBad hb3 (fun v hv => ?_)
      rw [FB_one hv (fb_app n1 n2 n3)]
      refine ifW_of (fun _ => addW_of (by omega) (by omega) ⟨by omega, by omega, by simp; omega, ?_⟩) (fun hx => by simp at hx)
      have e1 : ((n : Int) + 1).toNat = n + 1 := by omega
      rw [e1, show ((0 : Int).toNat) = 0 from rfl, List.drop_zero, ← List.map_take]
      refine S_impl_FirstBad hb2 (fun v hv => ?_)
      have : FB (ls.take (n + 1)) n := .inl ⟨n, by simp; omega, rfl, by rw [List.take_take, Nat.min_eq_left (by omega)]; exact n2, by rw [List.take_take, Nat.min_self]; exact n3⟩
      rw [FB_one hv this]; simp
    refine ⟨by omega, by omega, by simp; omega, ?_⟩
    rw [show ((n : Int)).toNat = n from by omega, show ((0 : Int).toNat) = 0 from rfl, List.drop_zero, ← List.map_take]
    refine S_impl_FirstBad hb1 (fun v hv => ?_)
    have hvv : v = (n : Int) ∨ v = -1 := by
      rcases hv with ⟨m, m1, rfl, m2, m3⟩ | ⟨st, cs, a, e1, e2⟩
      · exfalso
        rw [List.take_take, Nat.min_eq_left (by simp at m1; omega)] at m3
        exact iState_take n2 (by simp at m1; omega) m3
      · rcases e2 with ⟨_, e⟩ | ⟨_, e⟩
        · right; exact e
        · left; rw [e]; simp; omega
    refine ifW_of (fun _ => appW_of (by simp; omega) (appW_of (by simp; omega) last)) (fun hx => ifW_of (fun _ => appW_of (by simp; omega) (appW_of (by simp; omega) last)) (fun hy => ?_))
    simp at hx hy
    rcases hvv with h | h
    · exact absurd h hx
    · exact absurd h hy
  · have hread : L_impl_ReadRuleset (ls.map B) (fun (r70, r74) => ifW (decide ((decide (v = (-1))) = r74)) (L_laws_alive (fun r80 => r80 = true)) (false = true)) := by
      refine S_impl_ReadRuleset hbl (fun st' cs' a' h1 h2 => ?_) (fun hno => ?_)
      · rw [e1] at h1; cases h1
        rcases e2 with ⟨_, e⟩ | ⟨hn, _⟩
        · rw [e]; exact ifW_of (fun _ => S_alive rfl) (fun hx => by simp at hx)
        · exact absurd h2 hn
      · rcases e2 with ⟨hv, _⟩ | ⟨hn, e⟩
        · exact absurd hv (hno _ _ _ e1)
        · have : ¬ v = -1 := by rw [e]; omega
          rw [decide_eq_false this]
          exact ifW_of (fun _ => S_alive rfl) (fun hx => by simp at hx)
    refine ifW_of (fun _ => ifW_of (fun _ => hread) (fun hx => by simp at hx)) (fun hx => ?_)
    refine ifW_of (fun _ => hread) (fun hy => ?_)
    exfalso
    simp at hx hy
    rcases e2 with ⟨_, e⟩ | ⟨_, e⟩
    · omega
    · exact hy (by rw [e])


end

end Go.Proofs.YtlcjkhnamgklgaaDoor
