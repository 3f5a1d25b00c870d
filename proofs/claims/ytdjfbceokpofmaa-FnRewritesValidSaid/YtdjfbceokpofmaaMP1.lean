/- Texts of this seat, put together. -/
import Derived.Test.YtdjfbceokpofmaaEls
import Derived.Test.YtdjfbceokpofmaaMA0
import Derived.Laws.BitsLemmas
import Derived.Shelf.SlSortCmp.WholeK
import Derived.Shelf.SlSortCmp.NoneTotal
import Derived.Test.YtdjfbceokpofmaaRows
import Derived.Shelf.SlicesG.Cmp
import Derived.Shelf.SlGeneric
import Derived.StillTailTactics
set_option linter.unusedSimpArgs false
set_option linter.unusedVariables false
set_option linter.unusedSectionVars false
namespace Go.Proofs.Ytdjfbceokpofmaa
section
open Go.RowKit
@[ext] structure GPrefix where
  xBase : Int
  xLength : Int
  deriving DecidableEq
def encGPrefix (x : GPrefix) : List Value := [(.int .i64 x.xBase), (.int .i64 x.xLength)]
def elGPrefix : El GPrefix := El.flat 2 encGPrefix (by decide) (fun _ => rfl) (fun x u h => by simp only [encGPrefix, List.mem_cons, List.not_mem_nil, or_false] at h; rcases h with rfl | rfl <;> rfl)
theorem flelGPrefix : Flat elGPrefix encGPrefix := flat_flat
@[ext] structure GSpan where
  xLo : Int
  xHi : Int
  deriving DecidableEq
def encGSpan (x : GSpan) : List Value := [(.int .i64 x.xLo), (.int .i64 x.xHi)]
def elGSpan : El GSpan := El.flat 2 encGSpan (by decide) (fun _ => rfl) (fun x u h => by simp only [encGSpan, List.mem_cons, List.not_mem_nil, or_false] at h; rcases h with rfl | rfl <;> rfl)
theorem flelGSpan : Flat elGSpan encGSpan := flat_flat
@[ext] structure GRewrite where
  xInside : GPrefix
  xOutside : GPrefix
  deriving DecidableEq
def encGRewrite (x : GRewrite) : List Value := [(.int .i64 x.xInside.xBase), (.int .i64 x.xInside.xLength), (.int .i64 x.xOutside.xBase), (.int .i64 x.xOutside.xLength)]
def elGRewrite : El GRewrite := El.flat 4 encGRewrite (by decide) (fun _ => rfl) (fun x u h => by simp only [encGRewrite, List.mem_cons, List.not_mem_nil, or_false] at h; rcases h with rfl | rfl | rfl | rfl <;> rfl)
theorem flelGRewrite : Flat elGRewrite encGRewrite := flat_flat
def L_spec_l1In (n_0 : Int) (lo_1 : Int) (hi_2 : Int) (κ : Bool → Prop) : Prop :=
  jnW (fun (t61 : Bool) => κ t61) (fun k62 => ifW (decide (lo_1 ≤ n_0)) (k62 (decide (n_0 ≤ hi_2))) (k62 false))

def L_spec_PrefixValid (p_0 : GPrefix) (κ : Bool → Prop) : Prop :=
  jnW (fun (t68 : Bool) => κ t68) (fun k69 => L_spec_l1In p_0.xLength 0 16 (fun r3 => ifW r3 (L_spec_l1In p_0.xBase 0 65535 (fun r4 => ifW r4 (subW 16 p_0.xLength (fun t5 => shlW 1 t5 (fun t6 => remW p_0.xBase t6 (fun t7 => k69 (decide (t7 = 0)))))) (k69 false))) (k69 false)))

def L_spec_PrefixSpan (p_0 : GPrefix) (κ : (GSpan × Bool) → Prop) : Prop :=
  L_spec_PrefixValid p_0 (fun r5 => ifW (!r5) (κ ((GSpan.mk 0 0), false)) (subW 16 p_0.xLength (fun t6 => shlW 1 t6 (fun t7 => addW p_0.xBase t7 (fun t8 => subW t8 1 (fun t9 => κ ((GSpan.mk p_0.xBase t9), true)))))))

def L_spec_PrefixWithin (a_0 : GPrefix) (b_1 : GPrefix) (κ : Bool → Prop) : Prop :=
  L_spec_PrefixSpan a_0 (fun (r5, r6) => L_spec_PrefixSpan b_1 (fun (r9, r10) => jnW (fun (t73 : Bool) => κ t73) (fun k74 => ifW r6 (ifW r10 (ifW (decide (r9.xLo ≤ r5.xLo)) (k74 (decide (r5.xHi ≤ r9.xHi))) (k74 false)) (k74 false)) (k74 false))))

def L_spec_RewritesValid (list_0 : (List GRewrite)) (κ : Bool → Prop) : Prop :=
  loopW (fun (nx10 : ((List GPrefix) × Int) → Prop) ((xs6, t9) : ((List GPrefix) × Int)) => ifW (decide (t9 < (list_0.length : Int))) (jnW (fun (t81 : Bool) => ifW t81 (κ false) (idxW list_0 t9 (fun e83 => idxW list_0 t9 (fun e85 => appW xs6 ([e83.xInside, e85.xOutside]) (fun _ => addW t9 1 (fun t91 => nx10 ((xs6 ++ ([e83.xInside, e85.xOutside])), t91))))))) (fun k82 => idxW list_0 t9 (fun e11 => L_spec_PrefixValid e11.xInside (fun r13 => ifW (!r13) (k82 true) (idxW list_0 t9 (fun e14 => L_spec_PrefixValid e14.xOutside (fun r16 => ifW (!r16) (k82 true) (idxW list_0 t9 (fun e17 => idxW list_0 t9 (fun e19 => k82 (!(decide (e17.xInside.xLength = e19.xOutside.xLength))))))))))))) (loopW (fun (nx93 : Int → Prop) (t92 : Int) => ifW (decide (t92 < (xs6.length : Int))) (loopW (fun (nx95 : Int → Prop) (t94 : Int) => ifW (decide (t94 < t92)) (jnW (fun (t166 : Bool) => ifW t166 (κ false) (addW t94 1 (fun t168 => nx95 t168))) (fun k167 => idxW xs6 t92 (fun e96 => idxW xs6 t94 (fun e98 => L_spec_PrefixWithin e96 e98 (fun r100 => ifW r100 (k167 true) (idxW xs6 t94 (fun e101 => idxW xs6 t92 (fun e103 => L_spec_PrefixWithin e101 e103 (fun r105 => k167 r105))))))))) (addW t92 1 (fun t169 => nx93 t169))) 0) (κ (decide ((list_0.length : Int) ≤ 10)))) 0)) ([], 0)

def L_impl_hostMask (length_0 : Int) (κ : Int → Prop) : Prop :=
  subW 16 length_0 (fun t1 => shlW 1 t1 (fun t2 => subW t2 1 (fun t3 => κ t3)))

def L_impl_PrefixValid (p_0 : GPrefix) (κ : Bool → Prop) : Prop :=
  jnW (fun (t63 : Bool) => ifW t63 (κ false) (L_impl_hostMask p_0.xLength (fun r65 => κ (decide ((bits .and .i64 p_0.xBase r65) = 0))))) (fun k64 => ifW (decide (p_0.xLength < 0)) (k64 true) (ifW (decide (16 < p_0.xLength)) (k64 true) (ifW (decide (p_0.xBase < 0)) (k64 true) (k64 (decide (65535 < p_0.xBase))))))

def L_impl_PrefixSpan (p_0 : GPrefix) (κ : (GSpan × Bool) → Prop) : Prop :=
  L_impl_PrefixValid p_0 (fun r5 => ifW (!r5) (κ ((GSpan.mk 0 0), false)) (L_impl_hostMask p_0.xLength (fun r6 => κ ((GSpan.mk p_0.xBase (bits .or .i64 p_0.xBase r6)), true))))

def L_impl_RewritesValid (list_0 : (List GRewrite)) (κ : Bool → Prop) : Prop :=
  ifW (decide (10 < (list_0.length : Int))) (κ false) (mulW 2 (list_0.length : Int) (fun t3 => makeW ((GSpan.mk 0 0) : GSpan) 0 t3 (fun xs5 => loopW (fun (nx12 : ((List GSpan) × Int) → Prop) ((xs8, t11) : ((List GSpan) × Int)) => ifW (decide (t11 < (list_0.length : Int))) (idxW list_0 t11 (fun e13 => L_impl_PrefixSpan e13.xInside (fun (r17, r18) => L_impl_PrefixSpan e13.xOutside (fun (r21, r22) => jnW (fun (t85 : Bool) => ifW t85 (κ false) (appW xs8 ([r17, r21]) (fun _ => addW t11 1 (fun t91 => nx12 ((xs8 ++ ([r17, r21])), t91))))) (fun k86 => ifW (!r18) (k86 true) (ifW (!r22) (k86 true) (k86 (!(decide (e13.xInside.xLength = e13.xOutside.xLength)))))))))) (L_lib_sort (fun (a b : GSpan) => decide (a.xLo < b.xLo)) xs8 (fun r92 => loopW (fun (nx95 : Int → Prop) (t94 : Int) => ifW (decide (t94 < (r92.length : Int))) (idxW r92 t94 (fun e96 => subW t94 1 (fun t98 => idxW r92 t98 (fun e99 => ifW (decide (e96.xLo ≤ e99.xHi)) (κ false) (addW t94 1 (fun t101 => nx95 t101)))))) (κ true)) 1))) (xs5, 0))))

def L_spec_l20Rd_pick (r_0_b : (List UInt8)) (r_0_p : Int) (n_1 : Int) (κ : (Int × Int) → Prop) : Prop :=
  addW r_0_p 1 (fun t5 => jnW (fun (t66 : Bool) => ifW t66 (κ (0, t5)) (subW t5 1 (fun t68 => ifW (decide (t68 < (r_0_b.length : Int))) (idxW r_0_b t68 (fun e69 => remW (e69.toNat : Int) n_1 (fun t71 => κ (t71, t5)))) (remW t68 (r_0_b.length : Int) (fun t72 => idxW r_0_b t72 (fun e73 => mulW (e73.toNat : Int) 131 (fun t75 => mulW t68 7 (fun t76 => addW t76 3 (fun t77 => remW t77 (r_0_b.length : Int) (fun t78 => idxW r_0_b t78 (fun e79 => mulW (e79.toNat : Int) 1117 (fun t81 => addW t75 t81 (fun t82 => mulW t68 29 (fun t83 => addW t82 t83 (fun t84 => quoW t68 (r_0_b.length : Int) (fun t85 => mulW t85 53 (fun t86 => addW t84 t86 (fun t87 => quoW t87 64 (fun t88 => xorW t87 t88 (fun t89 => remW t89 n_1 (fun t90 => κ (t90, t5)))))))))))))))))))))) (fun k67 => ifW (decide (n_1 < 1)) (k67 true) (k67 (decide ((r_0_b.length : Int) = 0)))))

def L_spec_l20Rd_odd (r_0_b : (List UInt8)) (r_0_p : Int) (n_1 : Int) (κ : (Bool × Int) → Prop) : Prop :=
  jnW (fun ((t68, t69) : (Int × Bool)) => κ (t69, t68)) (fun k70 => ifW (decide (0 < n_1)) (L_spec_l20Rd_pick r_0_b r_0_p n_1 (fun (r5, r6) => subW n_1 1 (fun t7 => k70 (r6, (decide (r5 = t7)))))) (k70 (r_0_p, false)))

def L_spec_l20Rewrites (r_0_b : (List UInt8)) (r_0_p : Int) (n_1 : Int) (κ : ((List GRewrite) × Int) → Prop) : Prop :=
  L_spec_l20Rd_pick r_0_b r_0_p 5 (fun (r8, r9) => loopW (fun (nx16 : (Int × (List GRewrite) × Int) → Prop) ((t10, xs12, t15) : (Int × (List GRewrite) × Int)) => ifW (decide (0 < t15)) (jnW (fun ((xs122, t125) : ((List GRewrite) × Int)) => subW t15 1 (fun t127 => nx16 (t125, xs122, t127))) (fun k126 => L_spec_l20Rd_pick r_0_b t10 9 (fun (r17, r18) => addW 8 r17 (fun t19 => subW 16 t19 (fun t20 => shlW 1 t20 (fun t21 => jnW (fun ((t23, t24, t25) : (Int × Int × Int)) => jnW (fun (t44 : Bool) => ifW t44 (appW xs12 ([(GRewrite.mk (GPrefix.mk t23 t19) (GPrefix.mk t24 t19))]) (fun _ => k126 ((xs12 ++ ([(GRewrite.mk (GPrefix.mk t23 t19) (GPrefix.mk t24 t19))])), t25))) (k126 (xs12, t25))) (fun k45 => appW ([]) xs12 (fun _ => appW (([]) ++ xs12) ([(GRewrite.mk (GPrefix.mk t23 t19) (GPrefix.mk t24 t19))]) (fun _ => L_spec_RewritesValid ((([]) ++ xs12) ++ ([(GRewrite.mk (GPrefix.mk t23 t19) (GPrefix.mk t24 t19))])) (fun r52 => k45 r52))))) (fun k26 => L_spec_l20Rd_pick r_0_b r18 128 (fun (r27, r28) => quoW (w64 (r27 * 256)) t21 (fun t29 => L_spec_l20Rd_pick r_0_b r28 128 (fun (r30, r31) => quoW (w64 ((w64 (128 + r30)) * 256)) t21 (fun t32 => k26 ((w64 (t29 * t21)), (w64 (t32 * t21)), r31)))))))))))) (jnW (fun ((t203, xs205) : (Int × (List GRewrite))) => κ (xs205, t203)) (fun k208 => L_spec_l20Rd_odd r_0_b t10 n_1 (fun (r128, r129) => ifW r128 (L_spec_l20Rd_pick r_0_b r129 3 (fun (r130, r131) => ifW (decide (r130 = 0)) (appW xs12 ([(GRewrite.mk (GPrefix.mk 0 8) (GPrefix.mk 19712 9))]) (fun _ => k208 (r131, (xs12 ++ ([(GRewrite.mk (GPrefix.mk 0 8) (GPrefix.mk 19712 9))]))))) (ifW (decide (r130 = 1)) (appW xs12 ([(GRewrite.mk (GPrefix.mk 2304 8) (GPrefix.mk 2304 8))]) (fun _ => k208 (r131, (xs12 ++ ([(GRewrite.mk (GPrefix.mk 2304 8) (GPrefix.mk 2304 8))]))))) (makeW ((GRewrite.mk (GPrefix.mk 0 0) (GPrefix.mk 0 0)) : GRewrite) 11 11 (fun xs141 => k208 (r131, xs141)))))) (k208 (r129, xs12)))))) (r9, [], r8))

def L_spec_l20Open (code_0 : (List UInt8)) (κ : ((List UInt8) × Int) → Prop) : Prop :=
  jnW (fun (xs68 : (List UInt8)) => κ (xs68, 0)) (fun k71 => ifW (decide (2000 < (code_0.length : Int))) (sliceW code_0 0 2000 (fun xs4 => k71 xs4)) (k71 code_0))

def L_spec_DrawRewritesValid (code_0 : (List UInt8)) (κ : (List GRewrite) → Prop) : Prop :=
  L_spec_l20Open code_0 (fun (r6, r9) => L_spec_l20Rewrites r6 r9 2 (fun (r10, r13) => κ r10))

def L_impl_SpansHave (list_0 : (List GSpan)) (n_1 : Int) (κ : Bool → Prop) : Prop :=
  loopW (fun (nx4 : Int → Prop) (t3 : Int) => ifW (decide (t3 < (list_0.length : Int))) (idxW list_0 t3 (fun e5 => jnW (fun (t69 : Bool) => ifW t69 (κ true) (addW t3 1 (fun t71 => nx4 t71))) (fun k70 => ifW (decide (e5.xLo ≤ n_1)) (k70 (decide (n_1 ≤ e5.xHi))) (k70 false)))) (κ false)) 0

def L_laws_alive (κ : Bool → Prop) : Prop :=
  L_impl_SpansHave ([(GSpan.mk 2 4)]) 3 (fun r3 => κ r3)

def L_laws_FnRewritesValid (code_0 : (List UInt8)) (κ : Bool → Prop) : Prop :=
  ifW (decide (1048576 < (code_0.length : Int))) (κ true) (L_spec_DrawRewritesValid code_0 (fun r3 => L_impl_RewritesValid r3 (fun r6 => L_spec_RewritesValid r3 (fun r7 => ifW (!(decide (r6 = r7))) (κ false) (jnW (fun (t68 : Bool) => ifW t68 (L_laws_alive (fun r70 => κ r70)) (jnW (fun (t143 : Bool) => κ t143) (fun k144 => quoW (r3.length : Int) 2 (fun t71 => sliceW r3 0 t71 (fun xs73 => L_impl_RewritesValid xs73 (fun r75 => ifW r75 (idxW r3 0 (fun e76 => appW ([e76]) r3 (fun _ => L_impl_RewritesValid (([e76]) ++ r3) (fun r82 => k144 (!r82))))) (k144 false))))))) (fun k69 => ifW (!r6) (k69 true) (k69 (decide ((r3.length : Int) = 0)))))))))

end
section
open Go Go.Proofs

/-- a number is in one of the ranges -/
def hv (l : List GSpan) (x : Int) : Prop := ∃ s ∈ l, s.xLo ≤ x ∧ x ≤ s.xHi
def apart (a b : GSpan) : Prop := a.xHi < b.xLo ∨ b.xHi < a.xLo
theorem apart_symm {a b : GSpan} (h : apart a b) : apart b a := h.symm
theorem apart_sorted : ∀ {ys : List GSpan}, (∀ s ∈ ys, s.xLo ≤ s.xHi) → ys.Pairwise (fun a b => a.xLo ≤ b.xLo) → (ys.Pairwise apart ↔ ys.Pairwise (fun a b => a.xHi < b.xLo))
  | [], _, _ => by simp
  | s :: ys, h, hs => by
    rw [List.pairwise_cons] at hs
    rw [List.pairwise_cons, List.pairwise_cons, apart_sorted (fun t ht => h t (List.mem_cons_of_mem _ ht)) hs.2]
    refine and_congr_left fun _ => ?_
    constructor
    · intro hh t ht
      rcases hh t ht with e | e
      · exact e
      · have := hs.1 t ht; have := h t (List.mem_cons_of_mem _ ht); omega
    · exact fun hh t ht => .inl (hh t ht)
theorem chain_apart : ∀ {ys : List GSpan}, (∀ s ∈ ys, s.xLo ≤ s.xHi) → (ys.Pairwise (fun a b => a.xHi < b.xLo) ↔ ∀ n, (h : n + 1 < ys.length) → ys[n].xHi < ys[n + 1].xLo)
  | [], _ => by simp
  | [s], _ => by simp
  | s :: t :: ys, h => by
    have ih := chain_apart (ys := t :: ys) (fun u hu => h u (List.mem_cons_of_mem _ hu))
    rw [List.pairwise_cons, ih]
    constructor
    · rintro ⟨h1, h2⟩ n hn
      cases n with
      | zero => exact h1 t (by simp)
      | succ n => exact h2 n (by simpa using hn)
    · intro hh
      have h0 := hh 0 (by simp)
      have h2 : ∀ n, (h : n + 1 < (t :: ys).length) → (t :: ys)[n].xHi < (t :: ys)[n + 1].xLo := fun n hn => hh (n + 1) (by simpa using hn)
      refine ⟨fun u hu => ?_, h2⟩
      rcases List.mem_cons.1 hu with e | e
      · subst e; exact h0
      · have := (List.pairwise_cons.1 (ih.2 h2)).1 u e
        have := h t (by simp)
        simp only [List.getElem_cons_zero, List.getElem_cons_succ] at h0
        omega
theorem perm_apart {xs ys : List GSpan} (h : xs.Perm ys) : xs.Pairwise apart ↔ ys.Pairwise apart := h.pairwise_iff apart_symm

-- the sweep over sorted edges (place, step)
def sweep : List (Int × Int) → List GSpan → Int → Int → List GSpan
  | [], out, _, _ => out
  | e :: es, out, d, st => sweep es (if d + e.2 = 0 then out ++ [GSpan.mk (if d = 0 then e.1 else st) (e.1 - 1)] else out) (d + e.2) (if d = 0 then e.1 else st)
end
section


theorem ifW_t {A B : Prop} (h : A) : ifW true A B := ⟨fun _ => h, (fun e => by cases e)⟩
theorem ifW_f {A B : Prop} (h : B) : ifW false A B := ⟨(fun e => by cases e), fun _ => h⟩
theorem ifW_of {c : Bool} {A B : Prop} (ht : c = true → A) (hf : c = false → B) : ifW c A B := ⟨ht, hf⟩
@[simp] theorem ifW_true {A B : Prop} : ifW true A B = A := propext ⟨fun h => h.1 rfl, ifW_t⟩
@[simp] theorem ifW_false {A B : Prop} : ifW false A B = B := propext ⟨fun h => h.2 rfl, ifW_f⟩
theorem addW_of {x y : Int} {κ : Int → Prop} (h1 : -9223372036854775808 ≤ x + y) (h2 : x + y ≤ 9223372036854775807) (h : κ (x + y)) : addW x y κ := ⟨⟨h1, h2⟩, h⟩
theorem subW_of {x y : Int} {κ : Int → Prop} (h1 : -9223372036854775808 ≤ x - y) (h2 : x - y ≤ 9223372036854775807) (h : κ (x - y)) : subW x y κ := ⟨⟨h1, h2⟩, h⟩
theorem mulW_of {x y : Int} {κ : Int → Prop} (h1 : -9223372036854775808 ≤ x * y) (h2 : x * y ≤ 9223372036854775807) (h : κ (x * y)) : mulW x y κ := ⟨⟨h1, h2⟩, h⟩
theorem quoW_of {x y : Int} {κ : Int → Prop} (h1 : 0 ≤ x) (h2 : x ≤ 9223372036854775807) (h3 : 0 < y) (h : κ (x / y)) : quoW x y κ := ⟨h3, ⟨by omega, h2⟩, by rw [Int.tdiv_eq_ediv_of_nonneg h1]; exact h⟩
theorem remW_of {x y : Int} {κ : Int → Prop} (h1 : 0 ≤ x) (h2 : x ≤ 9223372036854775807) (h3 : 0 < y) (h : κ (x % y)) : remW x y κ := ⟨h1, h3, ⟨by omega, h2⟩, h⟩
theorem idxW_of {α : Type} {xs : List α} {i : Int} {κ : α → Prop} (n : Nat) (hi : i = n) (hn : n < xs.length) (h : κ xs[n]) : idxW xs i κ := by
  subst hi
  exact ⟨xs[n], by omega, by simp [hn], h⟩
theorem appW_of {α : Type} {xs ys : List α} {κ : List α → Prop} (h1 : xs.length + ys.length ≤ 4294967296) (h : κ (xs ++ ys)) : appW xs ys κ := ⟨h1, h⟩
theorem makeW_of {α : Type} {z : α} {n m : Int} {κ : List α → Prop} (k : Nat) (hn : n = k) (h1 : n ≤ m) (h2 : m ≤ 4294967296) (h : κ (List.replicate k z)) : makeW z n m κ := by
  subst hn
  refine ⟨by omega, h1, ?_, by simpa using h⟩
  unfold lenOk
  omega

/-- a loop that counts a place up to a length, with a state: after each round the state's law holds of the next place -/
theorem count_loop {σ : Type} {F : (σ → Prop) → σ → Prop} (len : Nat) (pos : σ → Int) (I : Nat → σ → Prop) (hpos : ∀ k s, I k s → pos s = k) (hle : ∀ k s, I k s → k ≤ len)
    (h : ∀ k s next, I k s → (k < len → ∀ s', I (k + 1) s' → next s') → F next s) {s : σ} (h0 : I 0 s) : loopW F s := by
  refine loopW_inv (fun s => ∃ k, I k s) (fun s => len - (pos s).toNat) (fun s next ⟨k, hk⟩ hn => ?_) ⟨0, h0⟩
  refine h k s next hk (fun hlt s' hs' => hn s' ⟨k + 1, hs'⟩ ?_)
  rw [hpos _ _ hk, hpos _ _ hs']
  omega

/-- the same, from a place k0 on -/
theorem count_loop_from {σ : Type} {F : (σ → Prop) → σ → Prop} (k0 len : Nat) (pos : σ → Int) (I : Nat → σ → Prop) (hpos : ∀ k s, I k s → pos s = k) (hle : ∀ k s, I k s → k ≤ len)
    (h : ∀ k s next, I k s → (k < len → ∀ s', I (k + 1) s' → next s') → F next s) {s : σ} (h0 : I k0 s) : loopW F s := by
  refine loopW_inv (fun s => ∃ k, I k s) (fun s => len - (pos s).toNat) (fun s next ⟨k, hk⟩ hn => ?_) ⟨k0, h0⟩
  refine h k s next hk (fun hlt s' hs' => hn s' ⟨k + 1, hs'⟩ ?_)
  rw [hpos _ _ hk, hpos _ _ hs']
  omega

end
section
open Go.Lib (decDigits)

def B (l : List UInt8) : ByteArray := ByteArray.mk l.toArray
/-- a digit -/
def dg (c : UInt8) : Bool := decide (48 ≤ c.toNat) && decide (c.toNat ≤ 57)
def val (l : List UInt8) : Nat := l.foldl (fun n c => 10 * n + (c.toNat - 48)) 0
/-- the number at the head of a text: at most six digits -/
def run : Nat → List UInt8 → List UInt8
  | 0, _ => []
  | _, [] => []
  | k + 1, c :: l => if dg c then c :: run k l else []
end
section


theorem u8_lt (e : UInt8) : (0 : Int) ≤ (e.toNat : Int) ∧ (e.toNat : Int) ≤ 255 := by
  have := e.toNat_lt
  omega
theorem xorW_of {x y : Int} {κ : Int → Prop} (h1 : 0 ≤ x) (h2 : x < 4611686018427387904) (h3 : 0 ≤ y) (h4 : y < 4611686018427387904) (h : ∀ z, 0 ≤ z → z < 4611686018427387904 → κ z) : xorW x y κ := by
  refine ⟨h1, h2, h3, h4, h _ (by omega) ?_⟩
  have : x.toNat ^^^ y.toNat < 2 ^ 62 := Nat.xor_lt_two_pow (by omega) (by omega)
  have e : (2 : Nat) ^ 62 = 4611686018427387904 := by decide
  rw [e] at this
  omega
theorem remW_lt {x y : Int} {κ : Int → Prop} (h1 : 0 ≤ x) (h2 : x ≤ 9223372036854775807) (h3 : 0 < y) (h : ∀ z, 0 ≤ z → z < y → κ z) : remW x y κ :=
  remW_of h1 h2 h3 (h _ (Int.emod_nonneg _ (by omega)) (Int.emod_lt_of_pos _ h3))
theorem quoW_le {x y : Int} {κ : Int → Prop} (h1 : 0 ≤ x) (h2 : x ≤ 9223372036854775807) (h3 : 0 < y) (h : ∀ z, 0 ≤ z → z ≤ x → κ z) : quoW x y κ :=
  quoW_of h1 h2 h3 (h _ (Int.ediv_nonneg h1 (by omega)) (Int.ediv_le_self _ h1))
theorem idxW_any {α : Type} {xs : List α} {i : Int} {κ : α → Prop} (h1 : 0 ≤ i) (h2 : i < xs.length) (h : ∀ x, x ∈ xs → κ x) : idxW xs i κ := by
  obtain ⟨n, rfl⟩ := Int.eq_ofNat_of_zero_le h1
  have hn : n < xs.length := by omega
  exact idxW_of n rfl hn (h _ (List.getElem_mem hn))

/-- the reader stands at p of the bytes b -/
def RdP (b : List UInt8) (p : Int) : Prop := b.length ≤ 2000 ∧ 0 ≤ p ∧ p ≤ 1000000

theorem S_pick {b : List UInt8} {p n : Int} (hr : RdP b p) {κ : Int × Int → Prop} (h : ∀ v, 0 ≤ v → (v = 0 ∨ v < n) → κ (v, p + 1)) : L_spec_l20Rd_pick b p n κ := by
  obtain ⟨hb, h0, h1⟩ := hr
  unfold L_spec_l20Rd_pick jnW
  have hz : κ (0, p + 1) := h 0 (Int.le_refl _) (.inl rfl)
  refine addW_of (by omega) (by omega) (ifW_of (fun hc => ?_) (fun hc => ifW_of (fun hc2 => ?_) (fun hc2 => ?_)))
  · simp only [ifW_true]; exact hz
  · exact hz
  · simp at hc hc2
    have hpos : 0 < (b.length : Int) := by
      cases b with
      | nil => simp at hc2
      | cons x l => simp
    refine subW_of (by omega) (by omega) ?_
    have ep : p + 1 - 1 = p := by omega
    rw [ep]
    refine ifW_of (fun hc3 => ?_) (fun hc3 => ?_)
    · simp at hc3
      refine idxW_any h0 hc3 (fun e _ => ?_)
      have := u8_lt e
      exact remW_lt (by omega) (by omega) (by omega) (fun z z1 z2 => h z z1 (.inr z2))
    · refine remW_lt h0 (by omega) hpos (fun z z1 z2 => idxW_any z1 z2 (fun e _ => ?_))
      have he := u8_lt e
      refine mulW_of (by omega) (by omega) (mulW_of (by omega) (by omega) (addW_of (by omega) (by omega) (remW_lt (by omega) (by omega) hpos (fun y y1 y2 => idxW_any y1 y2 (fun d _ => ?_)))))
      have hd := u8_lt d
      refine mulW_of (by omega) (by omega) (addW_of (by omega) (by omega) (mulW_of (by omega) (by omega) (addW_of (by omega) (by omega) (quoW_le (by omega) (by omega) hpos (fun q q1 q2 => ?_)))))
      refine mulW_of (by omega) (by omega) (addW_of (by omega) (by omega) (quoW_le (by omega) (by omega) (by omega) (fun r r1 r2 => ?_)))
      exact xorW_of (by omega) (by omega) (by omega) (by omega) (fun x x1 x2 => remW_lt x1 (by omega) (by omega) (fun z z1 z2 => h z z1 (.inr z2)))
theorem S_odd {b : List UInt8} {p n : Int} (hr : RdP b p) (hn : n ≤ 4294967296) {κ : Bool × Int → Prop} (h : ∀ c p', p ≤ p' → p' ≤ p + 1 → κ (c, p')) : L_spec_l20Rd_odd b p n κ := by
  unfold L_spec_l20Rd_odd jnW
  refine ifW_of (fun hc => S_pick hr (fun v v1 v2 => subW_of (by simp at hc; omega) (by simp at hc; omega) (h _ _ (by omega) (by omega)))) (fun hc => h _ _ (by omega) (by omega))

theorem S_l20Open {c : List UInt8} {κ : List UInt8 × Int → Prop} (h : ∀ b, b.length ≤ 2000 → κ (b, 0)) : L_spec_l20Open c κ := by
  unfold L_spec_l20Open jnW
  refine ifW_of (fun hc => ?_) (fun hc => ?_)
  · simp at hc
    refine ⟨by omega, by omega, by omega, h _ (by simp; omega)⟩
  · simp at hc
    exact h _ (by omega)
theorem S_alive {κ : Bool → Prop} (h : κ true) : L_laws_alive κ := by
  unfold L_laws_alive L_impl_SpansHave
  refine loopW_inv (fun s => s = 0) (fun s => 0) ?_ rfl
  rintro s next rfl hn
  refine ifW_of (fun _ => idxW_of 0 rfl (by simp) ?_) (fun hc => by simp at hc)
  simp [jnW]
  exact h


end
section
open Go.Lib (decDigits)

theorem wraps_i64_62 (n : Int) (h₀ : 0 ≤ n) (h₁ : n < 2 ^ 62) : IntKind.i64.wrap n = n := by
  have : (2 : Int) ^ 62 = 4611686018427387904 := by decide
  simp [IntKind.wrap, IntKind.signed, IntKind.bits]; omega
theorem and_mask (j : Nat) (hj : j < 62) (x : Int) (h0 : 0 ≤ x) (h1 : x < 4611686018427387904) : bits .and .i64 x (2 ^ j - 1) = x % 2 ^ j :=
  bits_mask .i64 62 (by decide) wraps_i64_62 j (by omega) x h0 (by have : (2 : Int) ^ 62 = 4611686018427387904 := by decide
                                                                   omega)

def PV (p : GPrefix) : Prop := 0 ≤ p.xLength ∧ p.xLength ≤ 16 ∧ 0 ≤ p.xBase ∧ p.xBase ≤ 65535 ∧ p.xBase % 2 ^ (16 - p.xLength).toNat = 0
instance (p : GPrefix) : Decidable (PV p) := by unfold PV; infer_instance
theorem S_l1In {n lo hi : Int} {κ : Bool → Prop} (h : κ (decide (lo ≤ n ∧ n ≤ hi))) : L_spec_l1In n lo hi κ := by
  unfold L_spec_l1In jnW
  refine ifW_of (fun hc => ?_) (fun hc => ?_)
  · simp at hc; simpa [hc] using h
  · simp at hc
    have : decide (lo ≤ n ∧ n ≤ hi) = false := by simp; omega
    rw [this] at h; exact h
theorem pow_bd (k : Nat) (h : k ≤ 16) : (1 : Int) ≤ 2 ^ k ∧ (2 : Int) ^ k ≤ 65536 := by
  have h1 : (2 : Nat) ^ k ≤ 2 ^ 16 := Nat.pow_le_pow_right (by decide) h
  have h2 : 1 ≤ (2 : Nat) ^ k := Nat.one_le_pow _ _ (by decide)
  have e : ((2 : Int) ^ k) = ((2 ^ k : Nat) : Int) := by simp
  have e2 : (2 : Nat) ^ 16 = 65536 := by decide
  rw [e]; omega
theorem S_spec_PrefixValid {p : GPrefix} {κ : Bool → Prop} (h : κ (decide (PV p))) : L_spec_PrefixValid p κ := by
  unfold L_spec_PrefixValid jnW
  refine S_l1In (ifW_of (fun hc => ?_) (fun hc => ?_))
  · simp at hc
    refine S_l1In (ifW_of (fun hc2 => ?_) (fun hc2 => ?_))
    · simp at hc2
      obtain ⟨b1, b2⟩ := pow_bd (16 - p.xLength).toNat (by omega)
      refine subW_of (by omega) (by omega) ⟨by omega, by omega, ⟨by omega, by omega⟩, remW_of (by omega) (by omega) (by omega) ?_⟩
      rw [Int.one_mul]
      have : decide (PV p) = decide (p.xBase % 2 ^ (16 - p.xLength).toNat = 0) := by exact decide_eq_decide.2 ⟨fun hh => hh.2.2.2.2, fun hh => ⟨hc.1, hc.2, hc2.1, hc2.2, hh⟩⟩
      rw [this] at h; exact h
    · simp at hc2
      have : decide (PV p) = false := decide_eq_false (fun hh => by obtain ⟨a1, a2, a3, a4, _⟩ := hh; omega)
      rw [this] at h; exact h
  · simp at hc
    have : decide (PV p) = false := decide_eq_false (fun hh => by obtain ⟨a1, a2, a3, a4, _⟩ := hh; omega)
    rw [this] at h; exact h
theorem S_impl_PrefixValid {p : GPrefix} {κ : Bool → Prop} (h : κ (decide (PV p))) : L_impl_PrefixValid p κ := by
  unfold L_impl_PrefixValid jnW
  have no : ¬ (0 ≤ p.xLength ∧ p.xLength ≤ 16 ∧ 0 ≤ p.xBase ∧ p.xBase ≤ 65535) → κ false := fun hn => by
    have : decide (PV p) = false := decide_eq_false (fun hh => by obtain ⟨a1, a2, a3, a4, _⟩ := hh; omega)
    rw [this] at h; exact h
  simp only [ifW_true, ifW_false]
  refine ifW_of (fun hc => no (by simp at hc; omega)) (fun hc => ifW_of (fun hc2 => no (by simp at hc2; omega)) (fun hc2 => ifW_of (fun hc3 => no (by simp at hc3; omega)) (fun hc3 => ifW_of (fun hc4 => no (by simp at hc4; omega)) (fun hc4 => ?_))))
  simp at hc hc2 hc3 hc4
  obtain ⟨b1, b2⟩ := pow_bd (16 - p.xLength).toNat (by omega)
  unfold L_impl_hostMask
  refine subW_of (by omega) (by omega) ⟨by omega, by omega, ⟨by omega, by omega⟩, subW_of (by omega) (by omega) ?_⟩
  rw [Int.one_mul]
  show κ (decide (bits .and .i64 p.xBase (2 ^ (16 - p.xLength).toNat - 1) = 0))
  rw [and_mask _ (by omega) _ (by omega) (by omega)]
  have : decide (PV p) = decide (p.xBase % 2 ^ (16 - p.xLength).toNat = 0) := decide_eq_decide.2 ⟨fun hh => hh.2.2.2.2, fun hh => ⟨hc, hc2, hc3, hc4, hh⟩⟩
  rw [this] at h; exact h

/-! ### the reader of the program -/
end
section
open Go Go.Proofs

def psz (p : GPrefix) : Int := 2 ^ (16 - p.xLength).toNat
def psp (p : GPrefix) : GSpan := GSpan.mk p.xBase (p.xBase + psz p - 1)
theorem mul_step {s a b : Int} (hs : 1 ≤ s) (h : s * a < s * b) : s * a + s ≤ s * b := by
  have h1 : a < b := Int.lt_of_mul_lt_mul_left h (by omega)
  have h2 : s * (a + 1) ≤ s * b := Int.mul_le_mul_of_nonneg_left (by omega) (by omega)
  rw [Int.mul_add, Int.mul_one] at h2
  exact h2
theorem psz_bd {p : GPrefix} (h0 : 0 ≤ p.xLength) (h1 : p.xLength ≤ 16) : 1 ≤ psz p ∧ psz p ≤ 65536 := pow_bd _ (by omega)
theorem psz_mul {p q : GPrefix} (h0 : 0 ≤ q.xLength) (h : q.xLength ≤ p.xLength) (h1 : p.xLength ≤ 16) : ∃ m : Int, psz q = psz p * m := by
  refine ⟨2 ^ (p.xLength - q.xLength).toNat, ?_⟩
  unfold psz
  rw [← Int.pow_add]
  congr 1
  omega
theorem PV_mul {p : GPrefix} (h : PV p) : ∃ a : Int, p.xBase = psz p * a := by
  obtain ⟨_, _, _, _, h5⟩ := h
  exact ⟨p.xBase / psz p, by have := Int.mul_ediv_add_emod p.xBase (psz p); unfold psz at *; omega⟩
theorem PV_bd {p : GPrefix} (h : PV p) : 1 ≤ psz p ∧ psz p ≤ 65536 ∧ 0 ≤ p.xBase ∧ p.xBase + psz p ≤ 65536 := by
  obtain ⟨a, ha⟩ := PV_mul h
  obtain ⟨h1, h2, h3, h4, h5⟩ := h
  obtain ⟨b1, b2⟩ := psz_bd h1 h2
  obtain ⟨m, hm⟩ := psz_mul (p := p) (q := ⟨0, 0⟩) (by decide) h1 h2
  have e : psz ⟨0, 0⟩ = 65536 := by decide
  rw [e] at hm
  have := mul_step (s := psz p) (a := a) (b := m) b1 (by rw [← hm, ← ha]; omega)
  rw [← hm, ← ha] at this
  exact ⟨b1, b2, h3, this⟩
theorem psp_ok {p : GPrefix} (h : PV p) : (psp p).xLo ≤ (psp p).xHi := by
  have := PV_bd h; simp only [psp]; omega
/-- all addresses of p are in q -/
def win (p q : GPrefix) : Prop := (psp q).xLo ≤ (psp p).xLo ∧ (psp p).xHi ≤ (psp q).xHi
instance (p q : GPrefix) : Decidable (win p q) := by unfold win; infer_instance
theorem nest_go {p q : GPrefix} (hp : PV p) (hq : PV q) (h : q.xLength ≤ p.xLength) (hn : ¬ apart (psp p) (psp q)) : win p q := by
  obtain ⟨a, ha⟩ := PV_mul hp
  obtain ⟨b, hb⟩ := PV_mul hq
  obtain ⟨m, hm⟩ := psz_mul hq.1 h hp.2.1
  obtain ⟨p1, p2, p3, p4⟩ := PV_bd hp
  obtain ⟨q1, q2, q3, q4⟩ := PV_bd hq
  simp only [apart, psp, not_or] at hn
  have eb : q.xBase = psz p * (m * b) := by rw [hb, hm, Int.mul_assoc]
  have et : q.xBase + psz q = psz p * (m * b + m) := by rw [eb, Int.mul_add, hm]
  have s1 : q.xBase ≤ p.xBase := by
    have : psz p * (m * b) < psz p * (a + 1) := by rw [← eb, Int.mul_add, ← ha]; omega
    have h2 : m * b < a + 1 := Int.lt_of_mul_lt_mul_left this (by omega)
    have h3 : psz p * (m * b) ≤ psz p * a := Int.mul_le_mul_of_nonneg_left (by omega) (by omega)
    rw [← eb, ← ha] at h3; exact h3
  have s2 : p.xBase + psz p ≤ q.xBase + psz q := by
    have := mul_step (s := psz p) (a := a) (b := m * b + m) p1 (by rw [← et, ← ha]; omega)
    rw [← et, ← ha] at this; exact this
  simp only [win, psp]
  omega
/-- two prefixes meet only if one is within the other -/
theorem nest {p q : GPrefix} (hp : PV p) (hq : PV q) : (win p q ∨ win q p) ↔ ¬ apart (psp p) (psp q) := by
  constructor
  · intro h hh
    have := PV_bd hp
    have := PV_bd hq
    simp only [win, psp, apart] at h hh
    omega
  · intro h
    rcases Int.le_total q.xLength p.xLength with e | e
    · exact .inl (nest_go hp hq e h)
    · exact .inr (nest_go hq hp e (fun f => h (apart_symm f)))
/-- a rewriting by itself -/
def RwO (r : GRewrite) : Prop := PV r.xInside ∧ PV r.xOutside ∧ r.xInside.xLength = r.xOutside.xLength
instance (r : GRewrite) : Decidable (RwO r) := by unfold RwO; infer_instance
instance (a b : GSpan) : Decidable (apart a b) := by unfold apart; infer_instance
def pfs (l : List GRewrite) : List GPrefix := l.flatMap fun r => [r.xInside, r.xOutside]
def spl (l : List GRewrite) : List GSpan := (pfs l).map psp
/-- valid rewritings -/
def RwV (l : List GRewrite) : Prop := l.length ≤ 10 ∧ (∀ r ∈ l, RwO r) ∧ (spl l).Pairwise apart
instance (l : List GRewrite) : Decidable (RwV l) := by unfold RwV; infer_instance
theorem pfs_cons (r : GRewrite) (l : List GRewrite) : pfs (r :: l) = r.xInside :: r.xOutside :: pfs l := by simp [pfs]
theorem pfs_app (l m : List GRewrite) : pfs (l ++ m) = pfs l ++ pfs m := by simp [pfs]
theorem pfs_len (l : List GRewrite) : (pfs l).length = 2 * l.length := by
  induction l with
  | nil => simp [pfs]
  | cons r l ih => rw [pfs_cons]; simp only [List.length_cons, ih]; omega
theorem pfs_mem {l : List GRewrite} {p : GPrefix} : p ∈ pfs l ↔ ∃ r ∈ l, p = r.xInside ∨ p = r.xOutside := by
  simp [pfs]
theorem RwV_pv {l : List GRewrite} (h : ∀ r ∈ l, RwO r) : ∀ p ∈ pfs l, PV p := fun p hp => by
  obtain ⟨r, hr, e⟩ := pfs_mem.1 hp
  have := h r hr
  rcases e with e | e
  · rw [e]; exact this.1
  · rw [e]; exact this.2.1
/-- an address is in a prefix -/
def inp (p : GPrefix) (a : Int) : Prop := (psp p).xLo ≤ a ∧ a ≤ (psp p).xHi
instance (p : GPrefix) (a : Int) : Decidable (inp p a) := by unfold inp; infer_instance
/-- a part of valid ones; the first one twice -/
theorem RwV_take {l : List GRewrite} (h : RwV l) (n : Nat) : RwV (l.take n) := by
  refine ⟨by have := h.1; simp only [List.length_take]; omega, fun r hr => h.2.1 r (List.mem_of_mem_take hr), ?_⟩
  have e : spl l = spl (l.take n) ++ spl (l.drop n) := by
    unfold spl; rw [← List.map_append, ← pfs_app, List.take_append_drop]
  have := h.2.2
  rw [e, List.pairwise_append] at this
  exact this.1
theorem RwV_dup {r : GRewrite} {l : List GRewrite} : ¬ RwV (r :: r :: l) := fun h => by
  have h1 := h.2.2
  have e : spl (r :: r :: l) = psp r.xInside :: psp r.xOutside :: psp r.xInside :: psp r.xOutside :: spl l := by simp [spl, pfs_cons]
  rw [e, List.pairwise_cons] at h1
  have := h1.1 (psp r.xInside) (by simp)
  have := psp_ok (h.2.1 r (by simp)).1
  simp only [apart] at *; omega
theorem sorted_dec {xs ys : List GSpan} (hp : xs.Perm ys) (hs : ys.Pairwise (fun a b => decide (b.xLo < a.xLo) = false)) (hok : ∀ s ∈ xs, s.xLo ≤ s.xHi) : (∀ n, (h : n + 1 < ys.length) → ys[n].xHi < ys[n + 1].xLo) ↔ xs.Pairwise apart := by
  have hok2 : ∀ s ∈ ys, s.xLo ≤ s.xHi := fun s hm => hok s (hp.mem_iff.2 hm)
  have hs2 : ys.Pairwise (fun a b => a.xLo ≤ b.xLo) := hs.imp (fun {a b} h => by have := of_decide_eq_false h; omega)
  rw [← chain_apart hok2, ← apart_sorted hok2 hs2, perm_apart hp]
theorem spl_ok {l : List GRewrite} (h : ∀ r ∈ l, RwO r) : ∀ s ∈ spl l, s.xLo ≤ s.xHi := fun s hs => by
  obtain ⟨p, hp, rfl⟩ := List.mem_map.1 hs
  exact psp_ok (RwV_pv h p hp)

end
section
open Go Go.Proofs

theorem or_join (i : Nat) (hi : i ≤ 62) (x y : Int) (h0 : 0 ≤ x) (h1 : x < 4611686018427387904) (hm : x % 2 ^ i = 0) (h2 : 0 ≤ y) (h3 : y < 2 ^ i) (h4 : y < 4611686018427387904) : bits .or .i64 x y = x + y := by
  have e : (2 : Int) ^ 62 = 4611686018427387904 := by decide
  exact bits_join .i64 62 (by decide) wraps_i64_62 i x y h0 hm (by rw [e]; exact h1) h2 h3 (by rw [e]; exact h4)
/-- the range of a prefix, and whether it is valid -/
def pspF (p : GPrefix) : GSpan × Bool := if PV p then (psp p, true) else (GSpan.mk 0 0, false)
theorem S_impl_PrefixSpan {p : GPrefix} {κ : GSpan × Bool → Prop} (h : κ (pspF p)) : L_impl_PrefixSpan p κ := by
  unfold L_impl_PrefixSpan
  refine S_impl_PrefixValid (ifW_of (fun e => ?_) (fun e => ?_))
  · have e' : ¬ PV p := by simpa using e
    unfold pspF at h; rw [if_neg e'] at h; exact h
  · have e' : PV p := by simpa using e
    unfold pspF at h; rw [if_pos e'] at h
    obtain ⟨b1, b2, b3, b4⟩ := PV_bd e'
    obtain ⟨h1, h2, h3, h4, h5⟩ := e'
    unfold L_impl_hostMask
    unfold psz at b1 b2 b4
    refine subW_of (by omega) (by omega) ⟨by omega, by omega, ⟨by omega, by omega⟩, subW_of (by omega) (by omega) ?_⟩
    rw [Int.one_mul]
    show κ (GSpan.mk p.xBase (bits .or .i64 p.xBase (2 ^ (16 - p.xLength).toNat - 1)), true)
    rw [or_join (16 - p.xLength).toNat (by omega) p.xBase (2 ^ (16 - p.xLength).toNat - 1) h3 (by omega) h5 (by omega) (by omega) (by omega)]
    have : psp p = GSpan.mk p.xBase (p.xBase + (2 ^ (16 - p.xLength).toNat - 1)) := by
      unfold psp psz; congr 1; omega
    rw [this] at h; exact h
theorem S_spec_PrefixSpan {p : GPrefix} {κ : GSpan × Bool → Prop} (h : κ (pspF p)) : L_spec_PrefixSpan p κ := by
  unfold L_spec_PrefixSpan
  refine S_spec_PrefixValid (ifW_of (fun e => ?_) (fun e => ?_))
  · have e' : ¬ PV p := by simpa using e
    unfold pspF at h; rw [if_neg e'] at h; exact h
  · have e' : PV p := by simpa using e
    unfold pspF at h; rw [if_pos e'] at h
    obtain ⟨b1, b2, b3, b4⟩ := PV_bd e'
    obtain ⟨h1, h2, h3, h4, h5⟩ := e'
    unfold psz at b1 b2 b4
    refine subW_of (by omega) (by omega) ⟨by omega, by omega, ⟨by omega, by omega⟩, ?_⟩
    rw [Int.one_mul]
    exact addW_of (by omega) (by omega) (subW_of (by omega) (by omega) h)
theorem S_PrefixWithin {p q : GPrefix} {κ : Bool → Prop} (hp : PV p) (hq : PV q) (h : κ (decide (win p q))) : L_spec_PrefixWithin p q κ := by
  unfold L_spec_PrefixWithin
  refine S_spec_PrefixSpan ?_
  have e1 : pspF p = (psp p, true) := if_pos hp
  have e2 : pspF q = (psp q, true) := if_pos hq
  rw [e1]
  refine S_spec_PrefixSpan ?_
  rw [e2]
  unfold jnW
  refine ifW_t (ifW_t (ifW_of (fun e => ?_) (fun e => ?_)))
  · have e' : (psp q).xLo ≤ (psp p).xLo := by simpa using e
    rw [show decide (win p q) = decide ((psp p).xHi ≤ (psp q).xHi) from decide_eq_decide.2 ⟨fun hh => hh.2, fun hh => ⟨e', hh⟩⟩] at h
    exact h
  · have e' : ¬ (psp q).xLo ≤ (psp p).xLo := by simpa using e
    rw [decide_eq_false (fun hh : win p q => e' hh.1)] at h
    exact h
theorem pw_get {l : List GSpan} : l.Pairwise apart ↔ ∀ i j, (hi : i < l.length) → (hj : j < l.length) → j < i → apart l[i] l[j] := by
  rw [List.pairwise_iff_getElem]
  constructor
  · intro h i j hi hj hji
    exact apart_symm (h j i hj hi hji)
  · intro h i j hi hj hij
    exact apart_symm (h j i hj hi hij)
theorem S_spec_RewritesValid {l : List GRewrite} (hl : l.length ≤ 2000000000) {κ : Bool → Prop} (h : κ (decide (RwV l))) : L_spec_RewritesValid l κ := by
  unfold L_spec_RewritesValid
  refine count_loop l.length (fun s => s.2) (fun k s => s.2 = (k : Int) ∧ k ≤ l.length ∧ s.1 = pfs (l.take k) ∧ ∀ r ∈ l.take k, RwO r) (fun k s h => h.1) (fun k s h => h.2.1) ?_ ⟨rfl, Nat.zero_le _, by simp [pfs], by simp⟩
  rintro k ⟨xs, t⟩ next ⟨rfl, hk, hx, ho⟩ hn
  simp only at hx
  subst hx
  refine ifW_of (fun hc => ?_) (fun hc => ?_)
  · have hlt : k < l.length := by simpa using hc
    have no : ¬ RwO l[k] → κ false := fun e => by
      rw [decide_eq_false (fun hh : RwV l => e (hh.2.1 _ (List.getElem_mem hlt)))] at h; exact h
    unfold jnW
    refine idxW_of k rfl hlt (S_spec_PrefixValid (ifW_of (fun e => ifW_t (no (fun f => ?_))) (fun e => ?_)))
    · simp [f.1] at e
    have e1 : PV l[k].xInside := by simpa using e
    refine idxW_of k rfl hlt (S_spec_PrefixValid (ifW_of (fun e => ifW_t (no (fun f => ?_))) (fun e => ?_)))
    · simp [f.2.1] at e
    have e2 : PV l[k].xOutside := by simpa using e
    refine idxW_of k rfl hlt (idxW_of k rfl hlt (ifW_of (fun e => no (fun f => ?_)) (fun e => ?_)))
    · simp [f.2.2] at e
    have e3 : l[k].xInside.xLength = l[k].xOutside.xLength := by simpa using e
    refine idxW_of k rfl hlt (idxW_of k rfl hlt (appW_of (by rw [pfs_len]; simp only [List.length_take, List.length_cons, List.length_nil]; omega) (addW_of (by omega) (by omega) (hn hlt _ ⟨by simp, by omega, ?_, ?_⟩))))
    · rw [List.take_succ_eq_append_getElem hlt, pfs_app, pfs_cons]; rfl
    · rw [List.take_succ_eq_append_getElem hlt]
      intro r hr
      rcases List.mem_append.1 hr with q | q
      · exact ho r q
      · simp only [List.mem_singleton] at q; subst q; exact ⟨e1, e2, e3⟩
  · have hge : l.length ≤ k := by simpa using hc
    rw [List.take_of_length_le hge] at ho ⊢
    have hpv := RwV_pv ho
    have hln := pfs_len l
    have no : ¬ (spl l).Pairwise apart → κ false := fun e => by
      rw [decide_eq_false (fun hh : RwV l => e hh.2.2)] at h; exact h
    refine count_loop (pfs l).length (fun s => s) (fun i s => s = (i : Int) ∧ i ≤ (pfs l).length ∧ ∀ a b, (ha : a < (spl l).length) → (hb : b < (spl l).length) → a < i → b < a → apart (spl l)[a] (spl l)[b]) (fun k s h => h.1) (fun k s h => h.2.1) ?_ ⟨rfl, Nat.zero_le _, fun a b _ _ h _ => by omega⟩
    rintro i _ next2 ⟨rfl, hi, hp⟩ hn2
    have hsl : (spl l).length = (pfs l).length := by simp [spl]
    have hget : ∀ a, (ha : a < (pfs l).length) → (spl l)[a]'(by rw [hsl]; exact ha) = psp (pfs l)[a] := fun a ha => by simp [spl]
    refine ifW_of (fun hd => ?_) (fun hd => ?_)
    · have hilt : i < (pfs l).length := by simpa using hd
      refine count_loop i (fun s => s) (fun j s => s = (j : Int) ∧ j ≤ i ∧ ∀ b, (hb : b < (spl l).length) → b < j → apart ((spl l)[i]'(by omega)) (spl l)[b]) (fun k s h => h.1) (fun k s h => h.2.1) ?_ ⟨rfl, Nat.zero_le _, fun b _ h => by omega⟩
      rintro j _ next3 ⟨rfl, hj, hq⟩ hn3
      refine ifW_of (fun he => ?_) (fun he => ?_)
      · have hjlt : j < i := by simpa using he
        have pi := hpv _ (List.getElem_mem hilt)
        have pj := hpv _ (List.getElem_mem (show j < (pfs l).length by omega))
        have nst := nest pi pj
        have bad : (win (pfs l)[i] (pfs l)[j] ∨ win (pfs l)[j] (pfs l)[i]) → κ false := fun w => no (fun hh => by
          have := pw_get.1 hh i j (by omega) (by omega) hjlt
          rw [hget i hilt, hget j (by omega)] at this
          exact nst.1 w this)
        unfold jnW
        refine idxW_of i rfl hilt (idxW_of j rfl (by omega) (S_PrefixWithin pi pj (ifW_of (fun e => ifW_t (bad (.inl (by simpa using e)))) (fun e => ?_))))
        refine idxW_of j rfl (by omega) (idxW_of i rfl hilt (S_PrefixWithin pj pi (ifW_of (fun e2 => bad (.inr (by simpa using e2))) (fun e2 => ?_))))
        refine addW_of (by omega) (by omega) (hn3 hjlt _ ⟨by simp, by omega, fun b hb hbj => ?_⟩)
        by_cases eb : b = j
        · subst eb
          rw [hget i hilt, hget b (by omega)]
          refine Classical.byContradiction (fun f => ?_)
          rcases nst.2 f with g | g
          · simp [g] at e
          · simp [g] at e2
        · exact hq b hb (by omega)
      · have hji : i ≤ j := by simpa using he
        refine addW_of (by omega) (by omega) (hn2 hilt _ ⟨by simp, by omega, fun a b ha hb hai hba => ?_⟩)
        by_cases ea : a = i
        · subst ea; exact hq b hb (by omega)
        · exact hp a b ha hb (by omega) hba
    · have hge2 : (pfs l).length ≤ i := by simpa using hd
      have hpw : (spl l).Pairwise apart := pw_get.2 (fun a b ha hb hba => hp a b ha hb (by omega) hba)
      rw [show decide (RwV l) = decide ((l.length : Int) ≤ 10) from decide_eq_decide.2 ⟨fun hh => by have := hh.1; omega, fun hh => ⟨by omega, ho, hpw⟩⟩] at h
      exact h
theorem S_impl_RewritesValid {l : List GRewrite} (hl : l.length ≤ 9223372036854775807) {κ : Bool → Prop} (h : κ (decide (RwV l))) : L_impl_RewritesValid l κ := by
  unfold L_impl_RewritesValid
  refine ifW_of (fun e => ?_) (fun e => ?_)
  · rw [decide_eq_false (fun hh : RwV l => by have := hh.1; simp at e; omega)] at h; exact h
  have hl10 : l.length ≤ 10 := by simp at e; omega
  refine mulW_of (by omega) (by omega) (makeW_of 0 rfl (by omega) (by omega) ?_)
  refine count_loop l.length (fun s => s.2) (fun k s => s.2 = (k : Int) ∧ k ≤ l.length ∧ s.1 = spl (l.take k) ∧ ∀ r ∈ l.take k, RwO r) (fun k s h => h.1) (fun k s h => h.2.1) ?_ ⟨rfl, Nat.zero_le _, by simp [pfs, spl], by simp⟩
  rintro k ⟨xs, t⟩ next ⟨rfl, hk, hx, ho⟩ hn
  simp only at hx
  subst hx
  have hsl : ∀ m : List GRewrite, (spl m).length = 2 * m.length := fun m => by simp [spl, pfs_len]
  refine ifW_of (fun hc => ?_) (fun hc => ?_)
  · have hlt : k < l.length := by simpa using hc
    have no : ¬ RwO l[k] → κ false := fun e => by
      rw [decide_eq_false (fun hh : RwV l => e (hh.2.1 _ (List.getElem_mem hlt)))] at h; exact h
    refine idxW_of k rfl hlt (S_impl_PrefixSpan ?_)
    by_cases c1 : PV l[k].xInside
    rotate_left 1
    · have e1 : pspF l[k].xInside = (GSpan.mk 0 0, false) := if_neg c1
      rw [e1]
      refine S_impl_PrefixSpan ?_
      unfold jnW
      exact ifW_t (ifW_t (no (fun f => c1 f.1)))
    have e1 : pspF l[k].xInside = (psp l[k].xInside, true) := if_pos c1
    rw [e1]
    refine S_impl_PrefixSpan ?_
    by_cases c2 : PV l[k].xOutside
    rotate_left 1
    · have e2 : pspF l[k].xOutside = (GSpan.mk 0 0, false) := if_neg c2
      rw [e2]
      unfold jnW
      exact ifW_f (ifW_t (ifW_t (no (fun f => c2 f.2.1))))
    have e2 : pspF l[k].xOutside = (psp l[k].xOutside, true) := if_pos c2
    rw [e2]
    unfold jnW
    refine ifW_f (ifW_f (ifW_of (fun e => no (fun f => ?_)) (fun e => ?_)))
    · simp [f.2.2] at e
    have e3 : l[k].xInside.xLength = l[k].xOutside.xLength := by simpa using e
    refine appW_of (by rw [hsl]; simp only [List.length_take, List.length_cons, List.length_nil]; omega) (addW_of (by omega) (by omega) (hn hlt _ ⟨by simp, by omega, ?_, ?_⟩))
    · have e : spl (l.take k ++ [l[k]]) = spl (l.take k) ++ [psp l[k].xInside, psp l[k].xOutside] := by
        simp only [spl, pfs_app, List.map_append]; rfl
      rw [List.take_succ_eq_append_getElem hlt, e]
    · rw [List.take_succ_eq_append_getElem hlt]
      intro r hr
      rcases List.mem_append.1 hr with q | q
      · exact ho r q
      · simp only [List.mem_singleton] at q; subst q; exact ⟨c1, c2, e3⟩
  · have hge : l.length ≤ k := by simpa using hc
    rw [List.take_of_length_le hge] at ho ⊢
    have hlen := hsl l
    refine ⟨by omega, fun ys hp hs => ?_⟩
    have key := sorted_dec hp hs (spl_ok ho)
    have hyl : ys.length = (spl l).length := hp.length_eq.symm
    refine count_loop_from 1 (ys.length + 1) (fun s => s) (fun i s => s = (i : Int) ∧ 1 ≤ i ∧ i ≤ ys.length + 1 ∧ ∀ n, (h : n + 1 < ys.length) → n + 1 < i → ys[n].xHi < ys[n + 1].xLo) (fun k s h => h.1) (fun k s h => h.2.2.1) ?_ ⟨rfl, Nat.le_refl _, by omega, fun n _ h => by omega⟩
    rintro i _ next2 ⟨rfl, hi1, hi2, hq⟩ hn2
    refine ifW_of (fun hd => ?_) (fun hd => ?_)
    · have hilt : i < ys.length := by simpa using hd
      obtain ⟨j, rfl⟩ : ∃ j, i = j + 1 := ⟨i - 1, by omega⟩
      refine idxW_of (j + 1) rfl hilt (subW_of (by omega) (by omega) (idxW_of j (by omega) (by omega) (ifW_of (fun e => ?_) (fun e => ?_))))
      · rw [decide_eq_false (fun hh : RwV l => by
          have := key.2 hh.2.2 j hilt
          simp at e; omega)] at h
        exact h
      · refine addW_of (by omega) (by omega) (hn2 (by omega) _ ⟨by simp, by omega, by omega, fun n hn hni => ?_⟩)
        by_cases en : n = j
        · subst en; simp at e; omega
        · exact hq n hn (by omega)
    · have hge2 : ys.length ≤ i := by simpa using hd
      rw [decide_eq_true (show RwV l from ⟨hl10, ho, key.1 (fun n hn => hq n hn (by omega))⟩)] at h
      exact h

end
section
open Go Go.Proofs

/-- what is drawn is short -/
theorem S_l20Rewrites {b : List UInt8} {p n : Int} (hr : RdP b p) (hp : p ≤ 900000) (hn : n ≤ 4294967296) {κ : List GRewrite × Int → Prop} (h : ∀ l p', l.length ≤ 20 → p ≤ p' → p' ≤ p + 40 → κ (l, p')) : L_spec_l20Rewrites b p n κ := by
  unfold L_spec_l20Rewrites
  refine S_pick hr (fun v hv0 hv1 => ?_)
  have hb := hr
  obtain ⟨hb0, hb1, hb2⟩ := hr
  refine loopW_inv (fun (s : Int × List GRewrite × Int) => p ≤ s.1 ∧ 0 ≤ s.2.2 ∧ s.2.2 ≤ 5 ∧ s.1 ≤ p + 1 + 3 * (5 - s.2.2) ∧ (s.2.1.length : Int) ≤ 5 - s.2.2) (fun s => s.2.2.toNat) ?_ ⟨by simp only; omega, by simp only; omega, by simp only; omega, by simp only; omega, by simp only [List.length_nil]; omega⟩
  rintro ⟨q, xs, t⟩ next ⟨h1, h2, h3, h4, h5⟩ hn2
  simp only at h1 h2 h3 h4 h5
  have rd : ∀ q', q ≤ q' → q' ≤ q + 20 → RdP b q' := fun q' a1 a2 => ⟨hb0, by omega, by omega⟩
  refine ifW_of (fun e => ?_) (fun e => ?_)
  · have e' : 0 < t := by simpa using e
    unfold jnW
    refine S_pick (rd q (by omega) (by omega)) (fun a ha0 ha1 => ?_)
    have ha : 0 ≤ a ∧ a ≤ 8 := by omega
    refine addW_of (by omega) (by omega) (subW_of (by omega) (by omega) ?_)
    obtain ⟨s1, s2⟩ := pow_bd (16 - (8 + a)).toNat (by omega)
    refine ⟨by omega, by omega, ⟨by omega, by omega⟩, ?_⟩
    rw [Int.one_mul]
    refine S_pick (rd _ (by omega) (by omega)) (fun c hc0 hc1 => ?_)
    have hc : 0 ≤ c ∧ c ≤ 127 := by omega
    have w1 : 0 ≤ w64 (c * 256) ∧ w64 (c * 256) ≤ 100000 := by rw [w64_id (by omega) (by omega)]; omega
    refine quoW_le w1.1 (by have := w1.2; omega) (by omega) (fun z hz0 hz1 => ?_)
    refine S_pick (rd _ (by omega) (by omega)) (fun d hd0 hd1 => ?_)
    have hd : 0 ≤ d ∧ d ≤ 127 := by omega
    have w3 : 0 ≤ w64 (w64 (128 + d) * 256) ∧ w64 (w64 (128 + d) * 256) ≤ 100000 := by rw [w64_id (x := 128 + d) (by omega) (by omega), w64_id (by omega) (by omega)]; omega
    refine quoW_le w3.1 (by have := w3.2; omega) (by omega) (fun z2 hz20 hz21 => ?_)
    have ln : xs.length ≤ 5 := by omega
    refine appW_of (by simp; omega) (appW_of (by simp; omega) (S_spec_RewritesValid (by simp; omega) (ifW_of (fun e2 => ?_) (fun e2 => ?_))))
    · refine appW_of (by simp; omega) (subW_of (by omega) (by omega) (hn2 _ ⟨by simp only; omega, by simp only; omega, by simp only; omega, by simp only; omega, by simp only [List.length_append, List.length_singleton]; omega⟩ (by simp only; omega)))
    · refine subW_of (by omega) (by omega) (hn2 _ ⟨by simp only; omega, by simp only; omega, by simp only; omega, by simp only; omega, by simp only; omega⟩ (by simp only; omega))
  · unfold jnW
    have ln : xs.length ≤ 5 := by omega
    refine S_odd (rd q (by omega) (by omega)) hn (fun c q' hq1 hq2 => ifW_of (fun e2 => ?_) (fun e2 => ?_))
    · refine S_pick (rd q' (by omega) (by omega)) (fun a ha0 ha1 => ?_)
      refine ifW_of (fun _ => appW_of (by simp; omega) (h _ _ (by simp; omega) (by omega) (by omega))) (fun _ => ifW_of (fun _ => appW_of (by simp; omega) (h _ _ (by simp; omega) (by omega) (by omega))) (fun _ => makeW_of 11 rfl (by omega) (by omega) (h _ _ (by simp) (by omega) (by omega))))
    · exact h _ _ (by omega) (by omega) (by omega)
theorem pureFnRewritesValid (code : List UInt8) : L_laws_FnRewritesValid code (fun r => r = true) := by
  unfold L_laws_FnRewritesValid
  refine ifW_of (fun _ => rfl) (fun hc => ?_)
  unfold L_spec_DrawRewritesValid
  refine S_l20Open (fun b hb => S_l20Rewrites ⟨hb, by omega, by omega⟩ (by omega) (by omega) (fun l p' hl _ _ => ?_))
  refine S_impl_RewritesValid (by omega) (S_spec_RewritesValid (by omega) (ifW_of (fun e => by simp at e) (fun _ => ?_)))
  unfold jnW
  refine ifW_of (fun e => ifW_t (S_alive rfl)) (fun e => ifW_of (fun e2 => S_alive rfl) (fun e2 => ?_))
  have hv : RwV l := by simpa using e
  have hpos : 0 < l.length := by simp at e2; exact List.length_pos_iff.2 e2
  refine quoW_of (by omega) (by omega) (by decide) ⟨by omega, by omega, by omega, ?_⟩
  have e3 : (l.take ((l.length : Int) / 2).toNat).drop (0 : Int).toNat = l.take ((l.length : Int) / 2).toNat := by simp
  rw [e3]
  refine S_impl_RewritesValid (by simp only [List.length_take]; omega) ?_
  rw [decide_eq_true (RwV_take hv _)]
  refine ifW_t (idxW_of 0 rfl hpos (appW_of (by simp; omega) (S_impl_RewritesValid (by simp; omega) ?_)))
  have : ¬ RwV ([l[0]] ++ l) := by
    match l, hpos with
    | r :: l, _ => exact RwV_dup
  rw [decide_eq_false this]; rfl
end
section
open Go.RowKit Go.Shelf Go.Lib Go.Sort Go.Proofs

section
variable {α : Type} [Inhabited α] {E : El α} {enc : α → List Value}
theorem rows_enc (hfl : Flat E enc) {F : Nat → Prop} {w : World} : ∀ {xs : List α} {css : List (List Value)}, Rows E F w xs css → css = xs.map enc
  | [], [], _ => rfl
  | x :: xs, cs :: css, h => by rw [List.map_cons, rows_enc hfl h.2, (hfl _ _ _ _).1 h.1]
  | [], _ :: _, h => by simp [Rows] at h
  | _ :: _, [], h => by simp [Rows] at h
theorem rows_enc' (hfl : Flat E enc) {F : Nat → Prop} {w : World} : ∀ {xs : List α}, Rows E F w xs (xs.map enc)
  | [] => trivial
  | x :: xs => ⟨(hfl _ _ _ _).2 rfl, rows_enc' hfl⟩
theorem flatK_get {k : Nat} (hk : ∀ x, (enc x).length = k) : ∀ (xs : List α) (t : Nat), t < xs.length * k → (xs.map enc).flatten[t]? = some ((enc xs.toArray[t / k]!)[t % k]!)
  | [], t, h => by simp at h
  | x :: xs, t, h => by
    have k0 : 0 < k := by
      rcases Nat.eq_zero_or_pos k with e | e
      · subst e; simp at h
      · exact e
    simp only [List.map_cons, List.flatten_cons]
    by_cases hlt : t < k
    · rw [List.getElem?_append_left (by rw [hk]; exact hlt), Nat.div_eq_of_lt hlt, Nat.mod_eq_of_lt hlt]
      have h1 : t < (enc x).length := by rw [hk]; exact hlt
      simp [h1]
    · have ih := flatK_get hk xs (t - k) (by simp [Nat.add_mul] at h; omega)
      rw [List.getElem?_append_right (by rw [hk]; omega), hk, ih]
      have e1 : t / k = (t - k) / k + 1 := by rw [Nat.div_eq_sub_div k0 (by omega)]
      have e2 : t % k = (t - k) % k := by rw [Nat.mod_eq_sub_mod (by omega)]
      rw [e1, e2]
      simp [Array.getElem!_eq_getD, Array.getD]
theorem flatK_list {k : Nat} (hk : ∀ x, (enc x).length = k) (xs : List α) : (flatK enc k xs.toArray).toList = (xs.map enc).flatten := by
  apply List.ext_getElem?
  intro t
  have hl : (xs.map enc).flatten.length = xs.length * k := by
    induction xs with
    | nil => simp
    | cons x xs ih => simp only [List.map_cons, List.flatten_cons, List.length_append, ih, hk, List.length_cons, Nat.add_mul]; omega
  by_cases h : t < xs.length * k
  · rw [flatK_get hk xs t h]
    have hs : t < (flatK enc k xs.toArray).size := by simpa using h
    have := get_flatK enc k xs.toArray t (by simpa using h)
    rw [getElem!_pos _ t hs] at this
    rw [Array.getElem?_toList, Array.getElem?_eq_getElem hs, this]
  · rw [List.getElem?_eq_none (by simpa using Nat.le_of_not_lt h), List.getElem?_eq_none (by omega)]
theorem own_held (hfl : Flat E enc) {k : Nat} (hk : ∀ x, (enc x).length = k) (hE : E.size = k) {ty : TypeId} {F : Nat → Prop} {w : World} {b n cap : Nat} {xs : List α} (h : Own E ty F w (.slice (some ⟨b, 0, none⟩) n cap) xs) :
    HoldsK enc k w b 0 xs.toArray ∧ b < w.heap.size ∧ n = xs.length ∧ ∃ cur, w.heap[b]? = some (.cells cur ty (0, 0)) ∧ n ≤ cap ∧ cap ≤ maxLen ∧ cur.size = cap * k ∧ cur.toList.take (n * k) = (xs.map enc).flatten := by
  obtain ⟨css, h1, h2, h3⟩ := h
  rcases h3 with ⟨e, _⟩ | ⟨g, cap', cur, e, _, hg, hle, hm, hcur, htake⟩
  · simp at e
  · simp at e
    obtain ⟨rfl, rfl, rfl⟩ := e
    have hcs := rows_enc hfl h1
    subst hcs
    rw [hE] at hcur htake
    refine ⟨fun j hj => ?_, (Array.getElem?_eq_some_iff.1 hg).1, rfl, cur, hg, hle, hm, hcur, htake⟩
    have hj' : j < xs.length * k := by simpa using hj
    refine ⟨?_, by simp [World.frozen?, hg]⟩
    rw [cell_of_row w b _ cur ty (0, 0) hg, Nat.zero_add]
    have h4 := flatK_get hk xs j hj'
    rw [← htake, List.getElem?_take, if_pos hj'] at h4
    have h5 := get_flatK enc k xs.toArray j (by simpa using hj')
    rw [show cur[j]? = cur.toList[j]? by simp, h4]
    show _ = some ((flatK enc k xs.toArray)[j]!)
    rw [h5]
theorem world_row (w : World) (b m : Nat) {ty : TypeId} {cur : Array Value} (hg : w.heap[b]? = some (.cells cur ty (0, 0))) {k : Nat} (ys : Array α) (os : Array Obj) :
    (sortWorldK enc k w b 0 m ys os).heap[b]? = some (.cells (putCells id 0 (flatK enc k ys) cur) ty (0, 0)) := by
  have hb := (Array.getElem?_eq_some_iff.1 hg).1
  unfold sortWorldK grow putRowK putRow mapBlock Sort.ahead
  simp only
  rw [Array.getElem?_append_left (by simpa using hb)]
  simp [Array.getElem?_modify, hg, onCells]
theorem world_other (w : World) (b m : Nat) {k : Nat} (ys : Array α) (os : Array Obj) {c : Nat} (hc : c < w.heap.size) (hne : c ≠ b) : (sortWorldK enc k w b 0 m ys os).heap[c]? = w.heap[c]? := by
  unfold sortWorldK grow putRowK putRow mapBlock Sort.ahead
  simp only
  rw [Array.getElem?_append_left (by simpa using hc)]
  simp [Array.getElem?_modify, Ne.symm hne]
theorem put_take (F cur : Array Value) (h : F.size ≤ cur.size) : (putCells id 0 F cur).toList.take F.size = F.toList := by
  apply List.ext_getElem?
  intro t
  rw [List.getElem?_take]
  by_cases ht : t < F.size
  · rw [if_pos ht]
    have : t < cur.size := by omega
    simp [putCells, this, ht]
  · rw [if_neg ht, List.getElem?_eq_none (by simpa using Nat.le_of_not_lt ht)]
theorem perm_sorted {lt : α → α → Bool} {xs : List α} {d' : Array α} (hp : PermIn 0 xs.toArray.size xs.toArray d') (hs : SortedIn lt 0 xs.toArray.size d') : xs.Perm d'.toList ∧ d'.toList.Pairwise (fun a b => lt b a = false) ∧ d'.size = xs.length := by
  obtain ⟨h1, _, h3⟩ := hp
  have hz : d'.size = xs.length := by simpa using h1
  refine ⟨?_, ?_, hz⟩
  · have e1 : (d'.extract 0 xs.toArray.size).toList = d'.toList := by
      rw [Array.toList_extract]; simp only [List.extract_eq_take_drop, List.drop_zero, Nat.sub_zero]; exact List.take_of_length_le (by simp [hz])
    have e2 : (xs.toArray.extract 0 xs.toArray.size).toList = xs := by
      rw [Array.toList_extract]; simp
    rw [e1, e2] at h3
    exact h3.symm
  · rw [List.pairwise_iff_getElem]
    intro i j hi hj hij
    have := hs i j (Nat.zero_le _) hij (by simpa [hz] using hj)
    simp only [Array.length_toList] at hi hj
    rw [getElem!_pos d' j hj, getElem!_pos d' i hi] at this
    simpa using this
/-- the sort, as a contract of a call that writes the slice in place -/
theorem w_sort {P : Program} {ρ : Ren} (L : SlLaysF0.n6 P ρ) {k : Nat} (aE : ∀ w, (isAgg (ρ.t 24)).run P w = .ok true w) (zE : ∀ w, (Go.sizeOf (ρ.t 24)).run P w = .ok k w) (hfl : Flat E enc) (hk : ∀ x, (enc x).length = k) (hE : E.size = k) (h1 : ∀ x, ∀ v ∈ enc x, v.oneCell' = true)
    (cf : α → α → Int) (hO : SWO (ltOf cf)) (g : Nat) (cb : Array Value) (eg : ∀ args w, (callFunc g args).run P w = .ok (.enter g args) w)
    (hcl : ∀ (x y : α) (W : World), Calls P g (#[.agg (enc x).toArray, .agg (enc y).toArray] ++ cb) W fun e w' => e = .returned (.int .i64 (cf x y)) ∧ ∃ q os', w' = grow (W.drewN q) os')
    {w0 : World} {F : Nat → Prop} {v : Value} {ty : TypeId} {xs : List α} {κ : List α → Prop} (hF : ∀ b, F b → b < w0.heap.size ∧ ¬ feet [ownCh E ty v xs] b) (hg : Given [ownCh E ty v xs] F w0) (h : L_lib_sort (ltOf cf) xs κ) :
    Calls P (ρ.f 6) #[v, .func (.func g) #[] cb] w0 (Ret [ownCh E ty v xs] F w0 κ (fun (r : List α) (u : Unit) => .tuple #[]) (fun (r : List α) (u : Unit) => [ownCh E ty v r])) := by
  have hown : Own E ty F w0 v xs := hg.hold (ownCh E ty v xs) (by simp)
  obtain ⟨hsz, hk2⟩ := h
  by_cases hz : xs = []
  · subst hz
    obtain ⟨p, cap, hv⟩ : ∃ p cap, v = .slice p 0 cap := by
      obtain ⟨css, _, _, hq⟩ := hown
      rcases hq with ⟨rfl, _⟩ | ⟨g', cap, cur, rfl, _⟩
      · exact ⟨_, _, rfl⟩
      · exact ⟨_, _, rfl⟩
    have := AnyF.slices_SortFunc_none L p cap (.func (.func g) #[] cb) w0
    rw [← hv] at this
    refine this.mono fun e w' ⟨he, hw⟩ => ?_
    subst hw
    refine ⟨[], (), hk2 [] (List.Perm.refl _) (by simp), he, ⟨rfl, rfl, rfl, Nat.le_refl _, fun _ _ _ => rfl⟩, fun c hc b hb => ?_, List.pairwise_singleton _ _, fun c hc => ?_⟩
    · rw [List.mem_singleton] at hc; subst hc
      exact ⟨.inr ⟨_, List.mem_singleton.2 rfl, hb⟩, hg.lt _ (by simp) b hb⟩
    · rw [List.mem_singleton] at hc; subst hc
      obtain ⟨css, r1, r2⟩ := hown
      exact ⟨css, by rw [rows_enc hfl r1]; exact rows_enc' hfl, r2⟩
  · obtain ⟨b, cap, hv⟩ : ∃ b cap, v = .slice (some ⟨b, 0, none⟩) xs.length cap := by
      obtain ⟨css, _, _, hq⟩ := hown
      rcases hq with ⟨rfl, hn⟩ | ⟨g', cap, cur, rfl, _⟩
      · exact absurd (List.eq_nil_of_length_eq_zero hn) hz
      · exact ⟨_, _, rfl⟩
    subst hv
    obtain ⟨hH, hb, _, cur, hgc, hle, hm, hcur, htake⟩ := own_held hfl hk hE hown
    have hcon := AnyQ.slices_SortFunc L k aE zE enc hk h1 cf hO g cb b 0 cap xs.toArray w0 eg (fun m os dk _ x y => hcl x y _) hH hb (by simpa using hsz)
    rw [show xs.toArray.size = xs.length by simp] at hcon
    refine hcon.mono fun e w' ⟨he, d', n, os, hp, hs, hw⟩ => ?_
    obtain ⟨p1, p2, p3⟩ := perm_sorted (by simpa using hp) (by simpa using hs)
    subst hw
    have hys : d' = d'.toList.toArray := by simp
    have hlen : d'.toList.length = xs.length := by simpa using p3
    have hsize : w0.heap.size ≤ (sortWorldK enc k w0 b 0 n d' os).heap.size := size_sortWorldK_c enc k w0 b 0 n d' os
    refine ⟨d'.toList, (), hk2 _ p1 p2, he, ⟨rfl, rfl, rfl, hsize, fun c hc hnf => ?_⟩, fun c hc b' hb' => ?_, List.pairwise_singleton _ _, fun c hc => ?_⟩
    · exact world_other w0 b n d' os hc (fun e' => hnf ⟨_, List.mem_singleton.2 rfl, by simp [ownCh, Value.ownBlock, e']⟩)
    · rw [List.mem_singleton] at hc; subst hc
      have e' : b' = b := by simp [ownCh, Value.ownBlock] at hb'; exact hb'.symm
      subst e'
      exact ⟨.inr ⟨_, List.mem_singleton.2 rfl, by simp [ownCh, Value.ownBlock]⟩, Nat.lt_of_lt_of_le hb hsize⟩
    · rw [List.mem_singleton] at hc; subst hc
      have hfk : (flatK enc k d').toList = (d'.toList.map enc).flatten := by
        have := flatK_list hk d'.toList
        rw [← hys] at this; exact this
      have hfs : (flatK enc k d').size = xs.length * k := by rw [size_flatK, p3]
      refine ⟨d'.toList.map enc, rows_enc' hfl, ?_, .inr ⟨b, cap, _, by rw [hlen], Nat.zero_le _, world_row w0 b n hgc d' os, by omega, hm, ?_, ?_⟩⟩
      · rw [← hfk, Array.length_toList, hfs, hlen, hE]
      · rw [hE, ← hcur]; simp [putCells]
      · rw [hlen, hE, ← hfs, put_take _ _ (by rw [hfs, hcur]; exact Nat.mul_le_mul_right _ hle), hfk]
end

end
section
open Go.RowKit Go.Shelf Go.Lib Go.Sort Go.Proofs
def Try.cmpInt_ren : Go.Shelf.Ren := ⟨fun | 5 => 37 | 7 => 50 | n => n, fun | 22 => 3 | 3 => 3 | 4 => 4 | n => n, fun | n => n⟩
theorem Try.cmpInt : Go.Proofs.SlLaysC2.n5 Try.prog Try.cmpInt_ren where
  mixed := by kernel_rfl
  f5 := ⟨ "cmp.Compare[int]", by decide, Try.func37.trans (congrArg some (by kernel_rfl))⟩
  f7 := ⟨ "cmp.isNaN[int]", by decide, Try.func50.trans (congrArg some (by kernel_rfl))⟩
  t3 := Try.underlying3
  a3 := Try.isAgg3
  z3 := Try.sizeOf3
  v3 := Try.zeroValue3
  t4 := Try.underlying4
  a4 := Try.isAgg4
  z4 := Try.sizeOf4
  v4 := Try.zeroValue4
  t22 := Try.underlying3
  a22 := Try.isAgg3
  z22 := Try.sizeOf3
  v22 := Try.zeroValue3
theorem cmp_lt (x y : Int) : (Lib.compareInt x y < 0) ↔ x < y := by
  unfold Lib.compareInt
  split
  · simp [*]
  · split <;> simp <;> omega
theorem cmp_int (x y : Int) (W : World) : Calls Try.prog 37 #[.int .i64 x, .int .i64 y] W fun e w' => e = .returned (.int .i64 (Lib.compareInt x y)) ∧ w' = W := AnyG.cmp_Compare_int Try.cmpInt x y W

end
section
open Go.RowKit Go.Shelf Go.Lib Go.Sort Go.Proofs
def Try.sortSpan_ren : Go.Shelf.Ren := ⟨fun | 6 => 35 | 15 => 49 | 14 => 48 | 28 => 63 | 29 => 64 | 20 => 55 | 21 => 56 | 22 => 57 | 23 => 58 | 24 => 59 | 25 => 60 | 26 => 61 | 27 => 62 | 46 => 68 | 47 => 69 | 48 => 70 | 49 => 71 | 50 => 72 | 57 => 75 | n => n, fun | 22 => 45 | 24 => 58 | 25 => 63 | 3 => 3 | 39 => 74 | 0 => 0 | 53 => 87 | 55 => 89 | 4 => 4 | 46 => 80 | 45 => 79 | 50 => 84 | 5 => 5 | 9 => 9 | 66 => 96 | 70 => 100 | 76 => 104 | 77 => 105 | n => n, fun | n => n⟩
theorem Try.sortSpan : Go.Proofs.SlLaysF0.n6 Try.prog Try.sortSpan_ren where
  mixed := by kernel_rfl
  f6 := ⟨ "slices.SortFunc[[]loop.example/packetfilter/impl.Span,loop.example/packetfilter/impl.Span]", by decide, Try.func35.trans (congrArg some (by kernel_rfl))⟩
  f14 := ⟨ "slices.pdqsortCmpFunc[loop.example/packetfilter/impl.Span]", by decide, Try.func48.trans (congrArg some (by kernel_rfl))⟩
  f15 := Try.func49.trans (congrArg some (by kernel_rfl))
  f20 := ⟨ "slices.insertionSortCmpFunc[loop.example/packetfilter/impl.Span]", by decide, Try.func55.trans (congrArg some (by kernel_rfl))⟩
  f21 := ⟨ "slices.heapSortCmpFunc[loop.example/packetfilter/impl.Span]", by decide, Try.func56.trans (congrArg some (by kernel_rfl))⟩
  f22 := ⟨ "slices.breakPatternsCmpFunc[loop.example/packetfilter/impl.Span]", by decide, Try.func57.trans (congrArg some (by kernel_rfl))⟩
  f23 := ⟨ "slices.choosePivotCmpFunc[loop.example/packetfilter/impl.Span]", by decide, Try.func58.trans (congrArg some (by kernel_rfl))⟩
  f24 := ⟨ "slices.reverseRangeCmpFunc[loop.example/packetfilter/impl.Span]", by decide, Try.func59.trans (congrArg some (by kernel_rfl))⟩
  f25 := ⟨ "slices.partialInsertionSortCmpFunc[loop.example/packetfilter/impl.Span]", by decide, Try.func60.trans (congrArg some (by kernel_rfl))⟩
  f26 := ⟨ "slices.partitionEqualCmpFunc[loop.example/packetfilter/impl.Span]", by decide, Try.func61.trans (congrArg some (by kernel_rfl))⟩
  f27 := ⟨ "slices.partitionCmpFunc[loop.example/packetfilter/impl.Span]", by decide, Try.func62.trans (congrArg some (by kernel_rfl))⟩
  f28 := Try.func63.trans (congrArg some (by kernel_rfl))
  f29 := Try.func64.trans (congrArg some (by kernel_rfl))
  f46 := ⟨ "slices.siftDownCmpFunc[loop.example/packetfilter/impl.Span]", by decide, Try.func68.trans (congrArg some (by kernel_rfl))⟩
  f47 := Try.func69.trans (congrArg some (by kernel_rfl))
  f48 := Try.func70.trans (congrArg some (by kernel_rfl))
  f49 := ⟨ "slices.medianAdjacentCmpFunc[loop.example/packetfilter/impl.Span]", by decide, Try.func71.trans (congrArg some (by kernel_rfl))⟩
  f50 := ⟨ "slices.medianCmpFunc[loop.example/packetfilter/impl.Span]", by decide, Try.func72.trans (congrArg some (by kernel_rfl))⟩
  f57 := ⟨ "slices.order2CmpFunc[loop.example/packetfilter/impl.Span]", by decide, Try.func75.trans (congrArg some (by kernel_rfl))⟩
  t0 := Try.underlying0
  a0 := Try.isAgg0
  z0 := Try.sizeOf0
  v0 := Try.zeroValue0
  t3 := Try.underlying3
  a3 := Try.isAgg3
  z3 := Try.sizeOf3
  v3 := Try.zeroValue3
  t4 := Try.underlying4
  a4 := Try.isAgg4
  z4 := Try.sizeOf4
  v4 := Try.zeroValue4
  t5 := Try.underlying5
  a5 := Try.isAgg5
  z5 := Try.sizeOf5
  v5 := Try.zeroValue5
  t9 := Try.underlying9
  a9 := Try.isAgg9
  z9 := Try.sizeOf9
  v9 := Try.zeroValue9
  t22 := Try.underlying45
  a22 := Try.isAgg45
  z22 := Try.sizeOf45
  v22 := Try.zeroValue45
  t25 := Try.underlying63
  a25 := Try.isAgg63
  z25 := Try.sizeOf63
  v25 := Try.zeroValue63
  t39 := Try.underlying74
  a39 := Try.isAgg74
  z39 := Try.sizeOf74
  v39 := Try.zeroValue74
  t45 := Try.underlying79
  a45 := Try.isAgg79
  z45 := Try.sizeOf79
  v45 := Try.zeroValue79
  t46 := Try.underlying80
  a46 := Try.isAgg80
  z46 := Try.sizeOf80
  v46 := Try.zeroValue80
  t50 := Try.underlying84
  a50 := Try.isAgg84
  z50 := Try.sizeOf84
  v50 := Try.zeroValue84
  t53 := Try.underlying87
  a53 := Try.isAgg87
  z53 := Try.sizeOf87
  v53 := Try.zeroValue87
  t55 := Try.underlying89
  a55 := Try.isAgg89
  z55 := Try.sizeOf89
  v55 := Try.zeroValue89
  t66 := Try.underlying96
  a66 := Try.isAgg96
  z66 := Try.sizeOf96
  v66 := Try.zeroValue96
  t70 := Try.underlying100
  a70 := Try.isAgg100
  z70 := Try.sizeOf100
  v70 := Try.zeroValue100
  t76 := Try.underlying104
  a76 := Try.isAgg104
  z76 := Try.sizeOf104
  v76 := Try.zeroValue104
  t77 := Try.underlying105
  a77 := Try.isAgg105
  z77 := Try.sizeOf105
  v77 := Try.zeroValue105
instance : Inhabited GSpan := ⟨⟨0, 0⟩⟩
def cfSpan (x y : GSpan) : Int := Lib.compareInt x.xLo y.xLo
theorem swoSpan : SWO (ltOf cfSpan) := by
  refine ⟨?_, ?_, ?_⟩ <;> simp only [ltOf, cfSpan, decide_eq_true_eq, decide_eq_false_iff_not, cmp_lt] <;> intros <;> omega
set_option maxHeartbeats 1000000 in
theorem cloSpan (x y : GSpan) (W : World) : Calls Try.prog 36 #[.agg #[.int .i64 x.xLo, .int .i64 x.xHi], .agg #[.int .i64 y.xLo, .int .i64 y.xHi]] W fun e w' => e = .returned (.int .i64 (cfSpan x y)) ∧ ∃ q os', w' = grow (W.drewN q) os' := by
  have hcon := fun W' => cmp_int x.xLo y.xLo W'
  unfold cfSpan
  generalize Lib.compareInt x.xLo y.xLo = r at hcon ⊢
  go_enter Try.func36, Try.ntmps36
  go_wp2_with (go_at_call 37; refine (hcon _).mono ?_; rintro e w' ⟨rfl, rfl⟩)
  go_ret
  exact ⟨rfl, 0, _, by rw [alloc_eq_grow, alloc_eq_grow, grow_grow]; rfl⟩
theorem w_srt_GSpan {w0 : World} {F : Nat → Prop} {v : Value} {ty : TypeId} {xs : List GSpan} {κ : List GSpan → Prop} (hF : ∀ b, F b → b < w0.heap.size ∧ ¬ feet [ownCh elGSpan ty v xs] b) (hg : Given [ownCh elGSpan ty v xs] F w0) (h : L_lib_sort (fun (a b : GSpan) => decide (a.xLo < b.xLo)) xs κ) :
    Calls Try.prog 35 #[v, .func (.func 36) #[] #[]] w0 (Ret [ownCh elGSpan ty v xs] F w0 κ (fun (r : List GSpan) (u : Unit) => .tuple #[]) (fun (r : List GSpan) (u : Unit) => [ownCh elGSpan ty v r])) := by
  have e : (fun (a b : GSpan) => decide (a.xLo < b.xLo)) = ltOf cfSpan := by
    funext a b
    exact decide_eq_decide.2 (cmp_lt _ _).symm
  rw [e] at h
  have eg : ∀ args w, (callFunc 36 args).run Try.prog w = .ok (.enter 36 args) w := enters_of Try.func36 (by kernel_rfl) rfl
  exact w_sort Try.sortSpan (k := 2) (fun w => Try.isAgg58 w) (fun w => Try.sizeOf58 w) flelGSpan (fun _ => rfl) rfl (fun x v hv => by simp only [encGSpan, List.mem_cons, List.not_mem_nil, or_false] at hv; rcases hv with rfl | rfl <;> rfl) cfSpan swoSpan 36 #[] eg (fun x y W => cloSpan x y W) hF hg h

end
section
open Go.RowKit
theorem bld26 : bldB Try.prog 26 = some (#[(0, 1), (1, 1)], [(.int .i64 0), (.int .i64 0)]) := by kernel_rfl
theorem bld28 : bldB Try.prog 28 = some (#[(0, 2), (2, 2)], [(.int .i64 0), (.int .i64 0), (.int .i64 0), (.int .i64 0)]) := by kernel_rfl
theorem bld58 : bldB Try.prog 58 = some (#[(0, 1), (1, 1)], [(.int .i64 0), (.int .i64 0)]) := by kernel_rfl
theorem bld76 : bldB Try.prog 76 = some (#[(0, 1), (1, 1)], [(.slice none 0 0), (.int .i64 0)]) := by kernel_rfl
theorem el37 : elB Try.prog 37 = some (28, 4, 32) := by kernel_rfl
theorem el41 : elB Try.prog 41 = some (5, 1, 1) := by kernel_rfl
theorem el45 : elB Try.prog 45 = some (58, 2, 16) := by kernel_rfl
theorem el55 : elB Try.prog 55 = some (26, 2, 16) := by kernel_rfl
theorem fld26_0 : fldB Try.prog 26 0 = some (0, false, 1) := by kernel_rfl
theorem fld26_1 : fldB Try.prog 26 1 = some (1, false, 1) := by kernel_rfl
theorem fld28_0 : fldB Try.prog 28 0 = some (0, true, 2) := by kernel_rfl
theorem fld28_1 : fldB Try.prog 28 1 = some (2, true, 2) := by kernel_rfl
theorem fld58_0 : fldB Try.prog 58 0 = some (0, false, 1) := by kernel_rfl
theorem fld58_1 : fldB Try.prog 58 1 = some (1, false, 1) := by kernel_rfl
theorem fld76_0 : fldB Try.prog 76 0 = some (0, false, 1) := by kernel_rfl
theorem fld76_1 : fldB Try.prog 76 1 = some (1, false, 1) := by kernel_rfl
theorem ty26 : tyB Try.prog 26 = some (true, 2) := by kernel_rfl
theorem ty28 : tyB Try.prog 28 = some (true, 4) := by kernel_rfl
theorem ty3 : tyB Try.prog 3 = some (false, 1) := by kernel_rfl
theorem ty41 : tyB Try.prog 41 = some (false, 1) := by kernel_rfl
theorem ty5 : tyB Try.prog 5 = some (false, 1) := by kernel_rfl
theorem ty58 : tyB Try.prog 58 = some (true, 2) := by kernel_rfl
theorem und3 : Try.prog.underlying 3 = some (.int .i64) := by kernel_rfl
theorem und4 : Try.prog.underlying 4 = some .bool := by kernel_rfl
theorem und5 : Try.prog.underlying 5 = some (.int .u8) := by kernel_rfl
theorem zero26 : zeroB Try.prog 26 = some [(.int .i64 0), (.int .i64 0)] := by kernel_rfl
theorem zero28 : zeroB Try.prog 28 = some [(.int .i64 0), (.int .i64 0), (.int .i64 0), (.int .i64 0)] := by kernel_rfl
theorem zero58 : zeroB Try.prog 58 = some [(.int .i64 0), (.int .i64 0)] := by kernel_rfl
theorem mixed : Try.prog.follows .mixedOrders = true := by kernel_rfl

set_option maxRecDepth 100000 in
set_option maxHeartbeats 8000000 in
theorem w_spec_l1In {w0 : World} {F : Nat → Prop} {n_0 : Int} {lo_1 : Int} {hi_2 : Int} {κ : Bool → Prop} (hF : ∀ b, F b → b < w0.heap.size ∧ ¬ feet [] b) (h : L_spec_l1In n_0 lo_1 hi_2 κ) :
    Calls Try.prog 44 #[(.int .i64 n_0), (.int .i64 lo_1), (.int .i64 hi_2)] w0 (Ret [] F w0 κ (fun (r : Bool) (u : Unit) => (.bool r)) (fun (r : Bool) (u : Unit) => [])) := by
  refine enter0 (args := [(.int .i64 n_0), (.int .i64 lo_1), (.int .i64 hi_2)]) [] hF (Given.nil _ _) Try.func44 rfl Try.ntmps44 rfl h ?_
  clear h hF
  refine c_seq ?_
  refine c_region ?_
  refine o_as st rfl rfl ?_
  refine c_nil ?_
  refine l_then ?_
  refine c_join (σ := Bool) (fun (t61 : Bool) (a : Act) (w : World) => Has 15 [(6, (.bool t61))] a ∧ Mem (gB F [] w0) (feet []) w0 [] w) ?_ ?_
  · intro k62
    refine c_region ?_
    refine o_mv st rfl rfl ?_
    refine o_mv st rfl rfl ?_
    refine o_geq st rfl rfl rfl ?_
    refine o_mv st rfl rfl ?_
    refine st_sp (dj := 10) rfl ?_ ?_
    · refine o_mv (st_g rfl rfl) rfl rfl ?_
      refine o_mv (st_g rfl rfl) rfl rfl ?_
      refine o_leq (st_g rfl rfl) rfl rfl rfl ?_
      refine o_pickT st rfl rfl rfl ?_
      refine o_as st rfl rfl ?_
      refine c_nil ?_
      exact l_join (decide (n_0 ≤ hi_2)) (fun a w hE hm => ⟨hE.sub ⟨rfl, trivial⟩, (hm.pick [] rfl)⟩)
    · refine st_s rfl rfl rfl rfl ?_
      refine st_s rfl rfl rfl rfl ?_
      refine st_s rfl rfl rfl rfl ?_
      refine o_pickF st rfl rfl rfl ?_
      refine o_as st rfl rfl ?_
      refine c_nil ?_
      exact l_join false (fun a w hE hm => ⟨hE.sub ⟨rfl, trivial⟩, (hm.pick [] rfl)⟩)
  · rintro t61 a w ⟨hE, hm⟩ h
    refine nx_of hE hm h ?_
    clear hE hm h
    refine c_ret ?_
    exact l_end1 Try.results44 t61 () (rv_t rfl) (fun _ _ => NewCh.nil _ _ _ _)

set_option maxRecDepth 100000 in
set_option maxHeartbeats 8000000 in
theorem w_spec_PrefixValid {w0 : World} {F : Nat → Prop} {p_0 : GPrefix} {κ : Bool → Prop} (hF : ∀ b, F b → b < w0.heap.size ∧ ¬ feet [] b) (h : L_spec_PrefixValid p_0 κ) :
    Calls Try.prog 32 #[(.agg #[(.int .i64 p_0.xBase), (.int .i64 p_0.xLength)])] w0 (Ret [] F w0 κ (fun (r : Bool) (u : Unit) => (.bool r)) (fun (r : Bool) (u : Unit) => [])) := by
  refine enter0 (args := [(.agg #[(.int .i64 p_0.xBase), (.int .i64 p_0.xLength)])]) [] hF (Given.nil _ _) Try.func32 rfl Try.ntmps32 rfl h ?_
  clear h hF
  refine c_seq ?_
  refine c_region ?_
  refine stw (o_box rfl rfl [(.int .i64 p_0.xBase), (.int .i64 p_0.xLength)] rfl ?_); intro b1
  refine o_as st rfl rfl ?_
  refine c_nil ?_
  refine l_then ?_
  refine c_join (σ := Bool) (fun (t68 : Bool) (a : Act) (w : World) => Has 21 [(2, (.bool t68))] a ∧ Mem (gB F [] w0) (feet []) w0 [] w) ?_ ?_
  · intro k69
    refine c_draw mixed 19 rfl [cellCh b1 [(.int .i64 p_0.xBase), (.int .i64 p_0.xLength)] 26] ?_
    refine o_fad (dt 0 (fun _ m => m)) rfl rfl fld26_1 rfl ?_
    refine o_ldc (dt 1 (fun _ m => m)) (v := (.int .i64 p_0.xLength)) 0 rfl rfl rfl ty3 rfl ?_
    refine d_one (i := 2) rfl (by kernel_rfl) (o_callP (vs := [(.int .i64 p_0.xLength), (.int .i64 0), (.int .i64 16)]) Try.call44 rfl rfl (by intro w m h; exact (w_spec_l1In (F := allB [] w) (n_0 := p_0.xLength) (lo_1 := 0) (hi_2 := 16) allB_ok h).mono (fun _ _ k => ret_free (fun r u => fr_nil) k)) ?_); rintro r3 _
    refine d_and (fun _ m => m) ?_
    refine o_mv (dt 3 (fun _ m => m)) rfl rfl ?_
    refine st_sp (dj := 6) rfl ?_ ?_
    · refine o_fad (dtg 4 (fun _ m => m)) rfl rfl fld26_0 rfl ?_
      refine o_ldc (dtg 5 (fun _ m => m)) (v := (.int .i64 p_0.xBase)) 0 rfl rfl rfl ty3 rfl ?_
      refine d_oneg (i := 6) rfl rfl rfl (by kernel_rfl) (o_callP (vs := [(.int .i64 p_0.xBase), (.int .i64 0), (.int .i64 65535)]) Try.call44 rfl rfl (by intro w m h; exact (w_spec_l1In (F := allB [] w) (n_0 := p_0.xBase) (lo_1 := 0) (hi_2 := 65535) allB_ok h).mono (fun _ _ k => ret_free (fun r u => fr_nil) k)) ?_); rintro r4 _
      refine d_and (fun _ m => m) ?_
      refine o_pickT (dt 7 (fun _ m => m)) rfl rfl rfl ?_
      refine o_mv (dt 8 (fun _ m => m)) rfl rfl ?_
      refine st_sp (dj := 11) rfl ?_ ?_
      · refine o_fad (dtg 9 (fun _ m => m)) rfl rfl fld26_0 rfl ?_
        refine o_ldc (dtg 10 (fun _ m => m)) (v := (.int .i64 p_0.xBase)) 0 rfl rfl rfl ty3 rfl ?_
        refine o_fad (dtg 11 (fun _ m => m)) rfl rfl fld26_1 rfl ?_
        refine o_ldc (dtg 12 (fun _ m => m)) (v := (.int .i64 p_0.xLength)) 0 rfl rfl rfl ty3 rfl ?_
        refine o_sub (dtg 13 (fun _ m => m)) rfl rfl rfl ?_; intro t5
        refine o_shl (dtg 14 (fun _ m => m)) rfl rfl rfl ?_; intro t6
        refine o_rem (dtg 15 (fun _ m => m)) rfl rfl rfl ?_; intro t7
        refine o_eql (dtg 16 (fun _ m => m)) und3 rfl rfl rfl ?_
        refine o_pickT (dt 17 (fun _ m => m)) rfl rfl rfl ?_
        refine o_as (dt 18 (fun _ m => m)) rfl rfl ?_
        refine d_done (by kernel_rfl) ?_
        exact l_join (decide (t7 = 0)) (fun a w hE hm => ⟨hE.sub ⟨rfl, trivial⟩, (hm.pick [] rfl)⟩)
      · refine dsk 9 (fun _ m => m) rfl (by kernel_rfl) rfl rfl rfl rfl ?_
        refine dsk 10 (fun _ m => m) rfl (by kernel_rfl) rfl rfl rfl rfl ?_
        refine dsk 11 (fun _ m => m) rfl (by kernel_rfl) rfl rfl rfl rfl ?_
        refine dsk 12 (fun _ m => m) rfl (by kernel_rfl) rfl rfl rfl rfl ?_
        refine dsk 13 (fun _ m => m) rfl (by kernel_rfl) rfl rfl rfl rfl ?_
        refine dsk 14 (fun _ m => m) rfl (by kernel_rfl) rfl rfl rfl rfl ?_
        refine dsk 15 (fun _ m => m) rfl (by kernel_rfl) rfl rfl rfl rfl ?_
        refine dsk 16 (fun _ m => m) rfl (by kernel_rfl) rfl rfl rfl rfl ?_
        refine o_pickF (dt 17 (fun _ m => m)) rfl rfl rfl ?_
        refine o_as (dt 18 (fun _ m => m)) rfl rfl ?_
        refine d_done (by kernel_rfl) ?_
        exact l_join false (fun a w hE hm => ⟨hE.sub ⟨rfl, trivial⟩, (hm.pick [] rfl)⟩)
    · refine dsk 4 (fun _ m => m) rfl (by kernel_rfl) rfl rfl rfl rfl ?_
      refine dsk 5 (fun _ m => m) rfl (by kernel_rfl) rfl rfl rfl rfl ?_
      refine dsk 6 (fun _ m => m) rfl (by kernel_rfl) rfl rfl rfl rfl ?_
      refine o_pickF (dt 7 (fun _ m => m)) rfl rfl rfl ?_
      refine o_mv (dt 8 (fun _ m => m)) rfl rfl ?_
      refine dsk 9 (fun _ m => m) rfl (by kernel_rfl) rfl rfl rfl rfl ?_
      refine dsk 10 (fun _ m => m) rfl (by kernel_rfl) rfl rfl rfl rfl ?_
      refine dsk 11 (fun _ m => m) rfl (by kernel_rfl) rfl rfl rfl rfl ?_
      refine dsk 12 (fun _ m => m) rfl (by kernel_rfl) rfl rfl rfl rfl ?_
      refine dsk 13 (fun _ m => m) rfl (by kernel_rfl) rfl rfl rfl rfl ?_
      refine dsk 14 (fun _ m => m) rfl (by kernel_rfl) rfl rfl rfl rfl ?_
      refine dsk 15 (fun _ m => m) rfl (by kernel_rfl) rfl rfl rfl rfl ?_
      refine dsk 16 (fun _ m => m) rfl (by kernel_rfl) rfl rfl rfl rfl ?_
      refine o_pickF (dt 17 (fun _ m => m)) rfl rfl rfl ?_
      refine o_as (dt 18 (fun _ m => m)) rfl rfl ?_
      refine d_done (by kernel_rfl) ?_
      exact l_join false (fun a w hE hm => ⟨hE.sub ⟨rfl, trivial⟩, (hm.pick [] rfl)⟩)
  · rintro t68 a w ⟨hE, hm⟩ h
    refine nx_of hE hm h ?_
    clear hE hm h
    refine c_ret ?_
    exact l_end1 Try.results32 t68 () (rv_t rfl) (fun _ _ => NewCh.nil _ _ _ _)

set_option maxRecDepth 100000 in
set_option maxHeartbeats 8000000 in
theorem w_spec_PrefixSpan {w0 : World} {F : Nat → Prop} {p_0 : GPrefix} {κ : (GSpan × Bool) → Prop} (hF : ∀ b, F b → b < w0.heap.size ∧ ¬ feet [] b) (h : L_spec_PrefixSpan p_0 κ) :
    Calls Try.prog 45 #[(.agg #[(.int .i64 p_0.xBase), (.int .i64 p_0.xLength)])] w0 (Ret [] F w0 κ (fun (r : (GSpan × Bool)) (u : Unit) => .tuple #[(.agg #[(.int .i64 r.1.xLo), (.int .i64 r.1.xHi)]), (.bool r.2)]) (fun (r : (GSpan × Bool)) (u : Unit) => [])) := by
  refine enter0 (args := [(.agg #[(.int .i64 p_0.xBase), (.int .i64 p_0.xLength)])]) [] hF (Given.nil _ _) Try.func45 rfl Try.ntmps45 rfl h ?_
  clear h hF
  refine c_seq ?_
  refine c_region ?_
  refine stw (o_box rfl rfl [(.int .i64 p_0.xBase), (.int .i64 p_0.xLength)] rfl ?_); intro b1
  refine stw (o_alloc rfl [(.int .i64 0), (.int .i64 0)] zero58 ?_); intro b3
  refine o_as st rfl rfl ?_
  refine c_nil ?_
  refine l_then ?_
  refine c_seq ?_
  refine c_seq ?_
  refine c_region ?_
  refine o_ldc st (v := (.agg #[(.int .i64 p_0.xBase), (.int .i64 p_0.xLength)])) 1 rfl rfl rfl ty26 rfl ?_
  refine stw (o_callP (vs := [(.agg #[(.int .i64 p_0.xBase), (.int .i64 p_0.xLength)])]) Try.call32 rfl rfl (by intro w m h; exact (w_spec_PrefixValid (F := allB [] w) (p_0 := p_0) allB_ok h).mono (fun _ _ k => ret_free (fun r u => fr_nil) k)) ?_); rintro r5 _
  refine o_not st rfl rfl ?_
  refine c_nil ?_
  refine l_then ?_
  refine c_cond rfl ?_ ?_
  · refine c_seq ?_
    refine c_region ?_
    refine o_bld st (qs := []) (cells := [(.int .i64 0), (.int .i64 0)]) (by intro ρ h; simp only [List.map_toArray, List.map_cons, List.map_nil]) rfl bld58 rfl ?_
    refine stw (o_stc (cs' := [(.int .i64 0), (.int .i64 0)]) 0 rfl rfl rfl ty58 rfl rfl rfl rfl ?_)
    refine o_as st rfl rfl ?_
    refine c_nil ?_
    refine l_then ?_
    refine c_ret ?_
    refine l_ret ?_
    exact l_end2 Try.results45 ((GSpan.mk 0 0), false) () (rv_c 0 rfl rfl ty58 rfl) (rv_t rfl) rfl (fun _ _ => NewCh.nil _ _ _ _)
  · refine c_skip ?_
    refine l_then ?_
    refine c_seq ?_
    refine c_draw mixed 13 rfl [cellCh b1 [(.int .i64 p_0.xBase), (.int .i64 p_0.xLength)] 26] ?_
    refine o_fad (dt 0 (fun w m => m.pick [1] rfl)) rfl rfl fld26_0 rfl ?_
    refine o_ldc (dt 1 (fun w m => m.pick [1] rfl)) (v := (.int .i64 p_0.xBase)) 0 rfl rfl rfl ty3 rfl ?_
    refine o_fad (dt 2 (fun w m => m.pick [1] rfl)) rfl rfl fld26_0 rfl ?_
    refine o_ldc (dt 3 (fun w m => m.pick [1] rfl)) (v := (.int .i64 p_0.xBase)) 0 rfl rfl rfl ty3 rfl ?_
    refine o_fad (dt 4 (fun w m => m.pick [1] rfl)) rfl rfl fld26_1 rfl ?_
    refine o_ldc (dt 5 (fun w m => m.pick [1] rfl)) (v := (.int .i64 p_0.xLength)) 0 rfl rfl rfl ty3 rfl ?_
    refine o_sub (dt 6 (fun w m => m.pick [1] rfl)) rfl rfl rfl ?_; intro t6
    refine o_shl (dt 7 (fun w m => m.pick [1] rfl)) rfl rfl rfl ?_; intro t7
    refine o_add (dt 8 (fun w m => m.pick [1] rfl)) rfl rfl rfl ?_; intro t8
    refine o_sub (dt 9 (fun w m => m.pick [1] rfl)) rfl rfl rfl ?_; intro t9
    refine o_bld (dt 10 (fun w m => m.pick [1] rfl)) (qs := [(0, (.int .i64 p_0.xBase)), (1, (.int .i64 t9))]) (cells := [(.int .i64 p_0.xBase), (.int .i64 t9)]) (by intro ρ h; simp only [List.map_toArray, List.map_cons, List.map_nil, h (.tmp 9) _ rfl, h (.tmp 17) _ rfl]) rfl bld58 rfl ?_
    refine d_one (i := 11) rfl (by kernel_rfl) (o_stc (cs' := [(.int .i64 p_0.xBase), (.int .i64 t9)]) 0 rfl rfl rfl ty58 rfl rfl rfl rfl ?_)
    refine d_and (fun w m => m.pick [1] rfl) ?_
    refine o_as (dt 12 (fun w m => m.pick [1] rfl)) rfl rfl ?_
    refine d_done (by kernel_rfl) ?_
    refine l_then ?_
    refine c_ret ?_
    exact l_end2 Try.results45 ((GSpan.mk p_0.xBase t9), true) () (rv_c 0 rfl rfl ty58 rfl) (rv_t rfl) rfl (fun _ _ => NewCh.nil _ _ _ _)

set_option maxRecDepth 100000 in
set_option maxHeartbeats 8000000 in
theorem w_spec_PrefixWithin {w0 : World} {F : Nat → Prop} {a_0 : GPrefix} {b_1 : GPrefix} {κ : Bool → Prop} (hF : ∀ b, F b → b < w0.heap.size ∧ ¬ feet [] b) (h : L_spec_PrefixWithin a_0 b_1 κ) :
    Calls Try.prog 33 #[(.agg #[(.int .i64 a_0.xBase), (.int .i64 a_0.xLength)]), (.agg #[(.int .i64 b_1.xBase), (.int .i64 b_1.xLength)])] w0 (Ret [] F w0 κ (fun (r : Bool) (u : Unit) => (.bool r)) (fun (r : Bool) (u : Unit) => [])) := by
  refine enter0 (args := [(.agg #[(.int .i64 a_0.xBase), (.int .i64 a_0.xLength)]), (.agg #[(.int .i64 b_1.xBase), (.int .i64 b_1.xLength)])]) [] hF (Given.nil _ _) Try.func33 rfl Try.ntmps33 rfl h ?_
  clear h hF
  refine c_seq ?_
  refine c_region ?_
  refine stw (o_box rfl rfl [(.int .i64 a_0.xBase), (.int .i64 a_0.xLength)] rfl ?_); intro b1
  refine stw (o_box rfl rfl [(.int .i64 b_1.xBase), (.int .i64 b_1.xLength)] rfl ?_); intro b3
  refine o_as st rfl rfl ?_
  refine c_nil ?_
  refine l_then ?_
  refine c_seq ?_
  refine c_region ?_
  refine o_ldc st (v := (.agg #[(.int .i64 a_0.xBase), (.int .i64 a_0.xLength)])) 1 rfl rfl rfl ty26 rfl ?_
  refine stw (o_callP (vs := [(.agg #[(.int .i64 a_0.xBase), (.int .i64 a_0.xLength)])]) Try.call45 rfl rfl (by intro w m h; exact (w_spec_PrefixSpan (F := allB [] w) (p_0 := a_0) allB_ok h).mono (fun _ _ k => ret_free (fun r u => fr_nil) k)) ?_); rintro ⟨r5, r6⟩ _
  refine o_mv st rfl rfl ?_
  refine o_ext st (vs := [(.agg #[(.int .i64 r5.xLo), (.int .i64 r5.xHi)]), (.bool r6)]) rfl rfl rfl ?_
  refine o_ext st (vs := [(.agg #[(.int .i64 r5.xLo), (.int .i64 r5.xHi)]), (.bool r6)]) rfl rfl rfl ?_
  refine stw (o_alloc rfl [(.int .i64 0), (.int .i64 0)] zero58 ?_); intro b7
  refine stw (o_stc (cs' := [(.int .i64 r5.xLo), (.int .i64 r5.xHi)]) 0 rfl rfl rfl ty58 rfl rfl rfl rfl ?_)
  refine o_as st rfl rfl ?_
  refine c_nil ?_
  refine l_then ?_
  refine c_seq ?_
  refine c_region ?_
  refine o_ldc st (v := (.agg #[(.int .i64 b_1.xBase), (.int .i64 b_1.xLength)])) 1 rfl rfl rfl ty26 rfl ?_
  refine stw (o_callP (vs := [(.agg #[(.int .i64 b_1.xBase), (.int .i64 b_1.xLength)])]) Try.call45 rfl rfl (by intro w m h; exact (w_spec_PrefixSpan (F := allB [] w) (p_0 := b_1) allB_ok h).mono (fun _ _ k => ret_free (fun r u => fr_nil) k)) ?_); rintro ⟨r9, r10⟩ _
  refine o_mv st rfl rfl ?_
  refine o_ext st (vs := [(.agg #[(.int .i64 r9.xLo), (.int .i64 r9.xHi)]), (.bool r10)]) rfl rfl rfl ?_
  refine o_ext st (vs := [(.agg #[(.int .i64 r9.xLo), (.int .i64 r9.xHi)]), (.bool r10)]) rfl rfl rfl ?_
  refine stw (o_alloc rfl [(.int .i64 0), (.int .i64 0)] zero58 ?_); intro b11
  refine stw (o_stc (cs' := [(.int .i64 r9.xLo), (.int .i64 r9.xHi)]) 0 rfl rfl rfl ty58 rfl rfl rfl rfl ?_)
  refine o_as st rfl rfl ?_
  refine c_nil ?_
  refine l_then ?_
  refine c_join (σ := Bool) (fun (t73 : Bool) (a : Act) (w : World) => Has 37 [(4, (.bool t73))] a ∧ Mem (gB F [] w0) (feet []) w0 [] w) ?_ ?_
  · intro k74
    refine c_region ?_
    refine o_mv st rfl rfl ?_
    refine o_mv st rfl rfl ?_
    refine st_sp (dj := 20) rfl ?_ ?_
    · refine o_mv (st_g rfl rfl) rfl rfl ?_
      refine o_pickT st rfl rfl rfl ?_
      refine o_mv st rfl rfl ?_
      refine st_sp (dj := 23) rfl ?_ ?_
      · refine o_fad (st_g rfl rfl) rfl rfl fld58_0 rfl ?_
        refine o_ldc (st_g rfl rfl) (v := (.int .i64 r5.xLo)) 1 rfl rfl rfl ty3 rfl ?_
        refine o_fad (st_g rfl rfl) rfl rfl fld58_0 rfl ?_
        refine o_ldc (st_g rfl rfl) (v := (.int .i64 r9.xLo)) 0 rfl rfl rfl ty3 rfl ?_
        refine o_geq (st_g rfl rfl) rfl rfl rfl ?_
        refine o_pickT st rfl rfl rfl ?_
        refine o_mv st rfl rfl ?_
        refine st_sp (dj := 30) rfl ?_ ?_
        · refine o_fad (st_g rfl rfl) rfl rfl fld58_1 rfl ?_
          refine o_ldc (st_g rfl rfl) (v := (.int .i64 r5.xHi)) 1 rfl rfl rfl ty3 rfl ?_
          refine o_fad (st_g rfl rfl) rfl rfl fld58_1 rfl ?_
          refine o_ldc (st_g rfl rfl) (v := (.int .i64 r9.xHi)) 0 rfl rfl rfl ty3 rfl ?_
          refine o_leq (st_g rfl rfl) rfl rfl rfl ?_
          refine o_pickT st rfl rfl rfl ?_
          refine o_as st rfl rfl ?_
          refine c_nil ?_
          exact l_join (decide (r5.xHi ≤ r9.xHi)) (fun a w hE hm => ⟨hE.sub ⟨rfl, trivial⟩, (hm.pick [] rfl)⟩)
        · refine st_s rfl rfl rfl rfl ?_
          refine st_s rfl rfl rfl rfl ?_
          refine st_s rfl rfl rfl rfl ?_
          refine st_s rfl rfl rfl rfl ?_
          refine st_s rfl rfl rfl rfl ?_
          refine o_pickF st rfl rfl rfl ?_
          refine o_as st rfl rfl ?_
          refine c_nil ?_
          exact l_join false (fun a w hE hm => ⟨hE.sub ⟨rfl, trivial⟩, (hm.pick [] rfl)⟩)
      · refine st_s rfl rfl rfl rfl ?_
        refine st_s rfl rfl rfl rfl ?_
        refine st_s rfl rfl rfl rfl ?_
        refine st_s rfl rfl rfl rfl ?_
        refine st_s rfl rfl rfl rfl ?_
        refine o_pickF st rfl rfl rfl ?_
        refine o_mv st rfl rfl ?_
        refine st_s rfl rfl rfl rfl ?_
        refine st_s rfl rfl rfl rfl ?_
        refine st_s rfl rfl rfl rfl ?_
        refine st_s rfl rfl rfl rfl ?_
        refine st_s rfl rfl rfl rfl ?_
        refine o_pickF st rfl rfl rfl ?_
        refine o_as st rfl rfl ?_
        refine c_nil ?_
        exact l_join false (fun a w hE hm => ⟨hE.sub ⟨rfl, trivial⟩, (hm.pick [] rfl)⟩)
    · refine st_s rfl rfl rfl rfl ?_
      refine o_pickF st rfl rfl rfl ?_
      refine o_mv st rfl rfl ?_
      refine st_s rfl rfl rfl rfl ?_
      refine st_s rfl rfl rfl rfl ?_
      refine st_s rfl rfl rfl rfl ?_
      refine st_s rfl rfl rfl rfl ?_
      refine st_s rfl rfl rfl rfl ?_
      refine o_pickF st rfl rfl rfl ?_
      refine o_mv st rfl rfl ?_
      refine st_s rfl rfl rfl rfl ?_
      refine st_s rfl rfl rfl rfl ?_
      refine st_s rfl rfl rfl rfl ?_
      refine st_s rfl rfl rfl rfl ?_
      refine st_s rfl rfl rfl rfl ?_
      refine o_pickF st rfl rfl rfl ?_
      refine o_as st rfl rfl ?_
      refine c_nil ?_
      exact l_join false (fun a w hE hm => ⟨hE.sub ⟨rfl, trivial⟩, (hm.pick [] rfl)⟩)
  · rintro t73 a w ⟨hE, hm⟩ h
    refine nx_of hE hm h ?_
    clear hE hm h
    refine c_ret ?_
    exact l_end1 Try.results33 t73 () (rv_t rfl) (fun _ _ => NewCh.nil _ _ _ _)

set_option maxRecDepth 100000 in
set_option maxHeartbeats 8000000 in
theorem w_spec_RewritesValid {w0 : World} {F : Nat → Prop} {v1 : Value} {list_0 : (List GRewrite)} {κ : Bool → Prop} (hF : ∀ b, F b → b < w0.heap.size ∧ ¬ feet [] b) (hv1 : Sl elGRewrite F w0 v1 list_0) (h : L_spec_RewritesValid list_0 κ) :
    Calls Try.prog 13 #[v1] w0 (Ret [] F w0 κ (fun (r : Bool) (u : Unit) => (.bool r)) (fun (r : Bool) (u : Unit) => [])) := by
  refine enterS (args := [v1]) [] hF (Given.nil _ _) Try.func13 rfl Try.ntmps13 rfl h ?_
  clear h hF
  refine c_seq ?_
  refine c_region ?_
  refine o_as st rfl rfl ?_
  refine c_nil ?_
  refine l_then ?_
  refine c_seq ?_
  refine c_region ?_
  refine stw (o_bsl (enc := encGPrefix) (qs := []) (cells := []) ([] : (List GPrefix)) flelGPrefix (by intro ρ h; simp only [List.map_toArray, List.map_cons, List.map_nil]) rfl el55 zero26 rfl rfl rfl rfl rfl rfl ?_); intro v3
  refine o_as st rfl rfl ?_
  refine c_nil ?_
  refine l_then ?_
  refine c_seq ?_
  refine c_seq ?_
  refine c_region ?_
  refine o_as st rfl rfl ?_
  refine c_nil ?_
  refine l_then ?_
  refine c_block ?_
  refine c_loop (σ := ((List GPrefix) × Int)) (fun ((xs6, t9) : ((List GPrefix) × Int)) (a : Act) (w : World) => ∃ (v5 : Value), Has 92 [(0, v1), (3, v5), (4, (.int .i64 t9))] a ∧ Mem (gB F [] w0) (feet []) w0 [snapCh w0 F, ownCh elGPrefix 26 v5 xs6] w) (fun a w hE hm => ⟨v3, hE.sub ⟨rfl, rfl, rfl, trivial⟩, (hm.pick [1, 0] rfl)⟩) ?_
  rintro nx10 ⟨xs6, t9⟩ a w ⟨v5, hE, hm⟩ h
  refine nx_of hE hm h ?_
  clear hE hm h
  refine c_seq ?_
  refine c_seq ?_
  refine c_region ?_
  refine o_mv st rfl rfl ?_
  refine o_mv st rfl rfl ?_
  refine o_len st el37 0 rfl (reads_snap hv1) rfl rfl ?_
  refine o_lss st rfl rfl rfl ?_
  refine c_nil ?_
  refine l_then ?_
  refine c_cond rfl ?_ ?_
  · refine c_skip ?_
    refine l_then ?_
    refine c_seq ?_
    refine c_block ?_
    refine c_seq ?_
    refine c_join (σ := Bool) (fun (t81 : Bool) (a : Act) (w : World) => Has 92 [(0, v1), (3, v5), (4, (.int .i64 t9)), (44, (.bool t81))] a ∧ Mem (gB F [] w0) (feet []) w0 [ownCh elGPrefix 26 v5 xs6, snapCh w0 F] w) ?_ ?_
    · intro k82
      refine c_draw mixed 31 rfl [snapCh w0 F, ownCh elGPrefix 26 v5 xs6] ?_
      refine o_mv (dt 0 (fun _ m => m)) rfl rfl ?_
      refine o_mv (dt 1 (fun _ m => m)) rfl rfl ?_
      refine o_idx (dt 2 (fun _ m => m)) 0 rfl (reads_snap hv1) rfl rfl rfl el37 ?_; intro e11 h12
      refine o_fadS (dt 3 (fun _ m => m)) 0 rfl (reads_snap hv1) h12 rfl rfl fld28_0 rfl ?_
      refine o_lds (dt 4 (fun _ m => m)) (enc := encGRewrite) (u := (.agg #[(.int .i64 e11.xInside.xBase), (.int .i64 e11.xInside.xLength)])) 0 rfl (reads_snap hv1) flelGRewrite rfl h12 rfl rfl ty26 rfl ?_
      refine d_one (i := 5) rfl (by kernel_rfl) (o_callP (vs := [(.agg #[(.int .i64 e11.xInside.xBase), (.int .i64 e11.xInside.xLength)])]) Try.call32 rfl rfl (by intro w m h; exact (w_spec_PrefixValid (F := allB [] w) (p_0 := e11.xInside) allB_ok h).mono (fun _ _ k => ret_free (fun r u => fr_nil) k)) ?_); rintro r13 _
      refine d_and (fun _ m => m) ?_
      refine o_not (dt 6 (fun _ m => m)) rfl rfl ?_
      refine o_mv (dt 7 (fun _ m => m)) rfl rfl ?_
      refine st_sp (dj := 21) rfl ?_ ?_
      · refine dsk 8 (fun _ m => m) rfl (by kernel_rfl) rfl rfl rfl rfl ?_
        refine dsk 9 (fun _ m => m) rfl (by kernel_rfl) rfl rfl rfl rfl ?_
        refine dsk 10 (fun _ m => m) rfl (by kernel_rfl) rfl rfl rfl rfl ?_
        refine dsk 11 (fun _ m => m) rfl (by kernel_rfl) rfl rfl rfl rfl ?_
        refine dsk 12 (fun _ m => m) rfl (by kernel_rfl) rfl rfl rfl rfl ?_
        refine dsk 13 (fun _ m => m) rfl (by kernel_rfl) rfl rfl rfl rfl ?_
        refine dsk 14 (fun _ m => m) rfl (by kernel_rfl) rfl rfl rfl rfl ?_
        refine o_pickT (dt 15 (fun _ m => m)) rfl rfl rfl ?_
        refine o_mv (dt 16 (fun _ m => m)) rfl rfl ?_
        refine dsk 17 (fun _ m => m) rfl (by kernel_rfl) rfl rfl rfl rfl ?_
        refine dsk 18 (fun _ m => m) rfl (by kernel_rfl) rfl rfl rfl rfl ?_
        refine dsk 19 (fun _ m => m) rfl (by kernel_rfl) rfl rfl rfl rfl ?_
        refine dsk 20 (fun _ m => m) rfl (by kernel_rfl) rfl rfl rfl rfl ?_
        refine dsk 21 (fun _ m => m) rfl (by kernel_rfl) rfl rfl rfl rfl ?_
        refine dsk 22 (fun _ m => m) rfl (by kernel_rfl) rfl rfl rfl rfl ?_
        refine dsk 23 (fun _ m => m) rfl (by kernel_rfl) rfl rfl rfl rfl ?_
        refine dsk 24 (fun _ m => m) rfl (by kernel_rfl) rfl rfl rfl rfl ?_
        refine dsk 25 (fun _ m => m) rfl (by kernel_rfl) rfl rfl rfl rfl ?_
        refine dsk 26 (fun _ m => m) rfl (by kernel_rfl) rfl rfl rfl rfl ?_
        refine dsk 27 (fun _ m => m) rfl (by kernel_rfl) rfl rfl rfl rfl ?_
        refine dsk 28 (fun _ m => m) rfl (by kernel_rfl) rfl rfl rfl rfl ?_
        refine dsk 29 (fun _ m => m) rfl (by kernel_rfl) rfl rfl rfl rfl ?_
        refine o_pickT (dt 30 (fun _ m => m)) rfl rfl rfl ?_
        refine d_done (by kernel_rfl) ?_
        exact l_join true (fun a w hE hm => ⟨hE.sub ⟨rfl, rfl, rfl, rfl, trivial⟩, (hm.pick [1, 0] rfl)⟩)
      · refine o_mv (dtg 8 (fun _ m => m)) rfl rfl ?_
        refine o_mv (dtg 9 (fun _ m => m)) rfl rfl ?_
        refine o_idx (dtg 10 (fun _ m => m)) 0 rfl (reads_snap hv1) rfl rfl rfl el37 ?_; intro e14 h15
        refine o_fadS (dtg 11 (fun _ m => m)) 0 rfl (reads_snap hv1) h15 rfl rfl fld28_1 rfl ?_
        refine o_lds (dtg 12 (fun _ m => m)) (enc := encGRewrite) (u := (.agg #[(.int .i64 e14.xOutside.xBase), (.int .i64 e14.xOutside.xLength)])) 0 rfl (reads_snap hv1) flelGRewrite rfl h15 rfl rfl ty26 rfl ?_
        refine d_oneg (i := 13) rfl rfl rfl (by kernel_rfl) (o_callP (vs := [(.agg #[(.int .i64 e14.xOutside.xBase), (.int .i64 e14.xOutside.xLength)])]) Try.call32 rfl rfl (by intro w m h; exact (w_spec_PrefixValid (F := allB [] w) (p_0 := e14.xOutside) allB_ok h).mono (fun _ _ k => ret_free (fun r u => fr_nil) k)) ?_); rintro r16 _
        refine d_and (fun _ m => m) ?_
        refine o_not (dtg 14 (fun _ m => m)) rfl rfl ?_
        refine o_pickF (dt 15 (fun _ m => m)) rfl rfl rfl ?_
        refine o_mv (dt 16 (fun _ m => m)) rfl rfl ?_
        refine st_sp (dj := 30) rfl ?_ ?_
        · refine dsk 17 (fun _ m => m) rfl (by kernel_rfl) rfl rfl rfl rfl ?_
          refine dsk 18 (fun _ m => m) rfl (by kernel_rfl) rfl rfl rfl rfl ?_
          refine dsk 19 (fun _ m => m) rfl (by kernel_rfl) rfl rfl rfl rfl ?_
          refine dsk 20 (fun _ m => m) rfl (by kernel_rfl) rfl rfl rfl rfl ?_
          refine dsk 21 (fun _ m => m) rfl (by kernel_rfl) rfl rfl rfl rfl ?_
          refine dsk 22 (fun _ m => m) rfl (by kernel_rfl) rfl rfl rfl rfl ?_
          refine dsk 23 (fun _ m => m) rfl (by kernel_rfl) rfl rfl rfl rfl ?_
          refine dsk 24 (fun _ m => m) rfl (by kernel_rfl) rfl rfl rfl rfl ?_
          refine dsk 25 (fun _ m => m) rfl (by kernel_rfl) rfl rfl rfl rfl ?_
          refine dsk 26 (fun _ m => m) rfl (by kernel_rfl) rfl rfl rfl rfl ?_
          refine dsk 27 (fun _ m => m) rfl (by kernel_rfl) rfl rfl rfl rfl ?_
          refine dsk 28 (fun _ m => m) rfl (by kernel_rfl) rfl rfl rfl rfl ?_
          refine dsk 29 (fun _ m => m) rfl (by kernel_rfl) rfl rfl rfl rfl ?_
          refine o_pickT (dt 30 (fun _ m => m)) rfl rfl rfl ?_
          refine d_done (by kernel_rfl) ?_
          exact l_join true (fun a w hE hm => ⟨hE.sub ⟨rfl, rfl, rfl, rfl, trivial⟩, (hm.pick [1, 0] rfl)⟩)
        · refine o_mv (dtg 17 (fun _ m => m)) rfl rfl ?_
          refine o_mv (dtg 18 (fun _ m => m)) rfl rfl ?_
          refine o_idx (dtg 19 (fun _ m => m)) 0 rfl (reads_snap hv1) rfl rfl rfl el37 ?_; intro e17 h18
          refine o_fadS (dtg 20 (fun _ m => m)) 0 rfl (reads_snap hv1) h18 rfl rfl fld28_0 rfl ?_
          refine o_fadS (dtg 21 (fun _ m => m)) 0 rfl (reads_snap hv1) h18 rfl rfl fld26_1 rfl ?_
          refine o_lds (dtg 22 (fun _ m => m)) (enc := encGRewrite) (u := (.int .i64 e17.xInside.xLength)) 0 rfl (reads_snap hv1) flelGRewrite rfl h18 rfl rfl ty3 rfl ?_
          refine o_mv (dtg 23 (fun _ m => m)) rfl rfl ?_
          refine o_mv (dtg 24 (fun _ m => m)) rfl rfl ?_
          refine o_idx (dtg 25 (fun _ m => m)) 0 rfl (reads_snap hv1) rfl rfl rfl el37 ?_; intro e19 h20
          refine o_fadS (dtg 26 (fun _ m => m)) 0 rfl (reads_snap hv1) h20 rfl rfl fld28_1 rfl ?_
          refine o_fadS (dtg 27 (fun _ m => m)) 0 rfl (reads_snap hv1) h20 rfl rfl fld26_1 rfl ?_
          refine o_lds (dtg 28 (fun _ m => m)) (enc := encGRewrite) (u := (.int .i64 e19.xOutside.xLength)) 0 rfl (reads_snap hv1) flelGRewrite rfl h20 rfl rfl ty3 rfl ?_
          refine o_neq (dtg 29 (fun _ m => m)) und3 rfl rfl rfl ?_
          refine o_pickF (dt 30 (fun _ m => m)) rfl rfl rfl ?_
          refine d_done (by kernel_rfl) ?_
          exact l_join (!(decide (e17.xInside.xLength = e19.xOutside.xLength))) (fun a w hE hm => ⟨hE.sub ⟨rfl, rfl, rfl, rfl, trivial⟩, (hm.pick [1, 0] rfl)⟩)
    · rintro t81 a w ⟨hE, hm⟩ h
      refine nx_of hE hm h ?_
      clear hE hm h
      refine c_cond rfl ?_ ?_
      · refine c_seq ?_
        refine c_region ?_
        refine o_as st rfl rfl ?_
        refine c_nil ?_
        refine l_then ?_
        refine c_ret ?_
        refine l_ret ?_
        refine b_ret ?_
        refine l_ret ?_
        refine l_ret ?_
        refine b_ret ?_
        refine l_ret ?_
        exact l_end1 Try.results13 false () (rv_t rfl) (fun _ _ => NewCh.nil _ _ _ _)
      · refine c_skip ?_
        refine l_then ?_
        refine c_draw mixed 14 rfl [snapCh w0 F] ?_
        refine o_mv (dt 0 (fun w m => m.pick [1] rfl)) rfl rfl ?_
        refine o_mv (dt 1 (fun w m => m.pick [1] rfl)) rfl rfl ?_
        refine o_mv (dt 2 (fun w m => m.pick [1] rfl)) rfl rfl ?_
        refine o_idx (dt 3 (fun w m => m.pick [1] rfl)) 0 rfl (reads_snap hv1) rfl rfl rfl el37 ?_; intro e83 h84
        refine o_fadS (dt 4 (fun w m => m.pick [1] rfl)) 0 rfl (reads_snap hv1) h84 rfl rfl fld28_0 rfl ?_
        refine o_lds (dt 5 (fun w m => m.pick [1] rfl)) (enc := encGRewrite) (u := (.agg #[(.int .i64 e83.xInside.xBase), (.int .i64 e83.xInside.xLength)])) 0 rfl (reads_snap hv1) flelGRewrite rfl h84 rfl rfl ty26 rfl ?_
        refine o_mv (dt 6 (fun w m => m.pick [1] rfl)) rfl rfl ?_
        refine o_mv (dt 7 (fun w m => m.pick [1] rfl)) rfl rfl ?_
        refine o_idx (dt 8 (fun w m => m.pick [1] rfl)) 0 rfl (reads_snap hv1) rfl rfl rfl el37 ?_; intro e85 h86
        refine o_fadS (dt 9 (fun w m => m.pick [1] rfl)) 0 rfl (reads_snap hv1) h86 rfl rfl fld28_1 rfl ?_
        refine o_lds (dt 10 (fun w m => m.pick [1] rfl)) (enc := encGRewrite) (u := (.agg #[(.int .i64 e85.xOutside.xBase), (.int .i64 e85.xOutside.xLength)])) 0 rfl (reads_snap hv1) flelGRewrite rfl h86 rfl rfl ty26 rfl ?_
        refine d_one (i := 11) rfl (by kernel_rfl) (o_bsl (enc := encGPrefix) (qs := [(0, (.agg #[(.int .i64 e83.xInside.xBase), (.int .i64 e83.xInside.xLength)])), (1, (.agg #[(.int .i64 e85.xOutside.xBase), (.int .i64 e85.xOutside.xLength)]))]) (cells := [(.int .i64 e83.xInside.xBase), (.int .i64 e83.xInside.xLength), (.int .i64 e85.xOutside.xBase), (.int .i64 e85.xOutside.xLength)]) ([e83.xInside, e85.xOutside]) flelGPrefix (by intro ρ h; simp only [List.map_toArray, List.map_cons, List.map_nil, h (.tmp 50) _ rfl, h (.tmp 55) _ rfl]) rfl el55 zero26 rfl rfl rfl rfl rfl rfl ?_); intro v87
        refine d_and (fun w m => m.pick [2] rfl) ?_
        refine d_one (i := 12) rfl (by kernel_rfl) (o_app 1 0 rfl rfl (src_flat flelGPrefix reads_own) rfl rfl rfl el55 rfl zero26 rfl rfl ?_); intro v89
        refine d_and (fun w m => m.pick [2] rfl) ?_
        refine o_as (dt 13 (fun w m => m.pick [2] rfl)) rfl rfl ?_
        refine d_done (by kernel_rfl) ?_
        refine b_norm ?_
        refine l_then ?_
        refine c_region ?_
        refine o_mv st rfl rfl ?_
        refine o_add st rfl rfl rfl ?_; intro t91
        refine o_as st rfl rfl ?_
        refine c_nil ?_
        exact l_join ((xs6 ++ ([e83.xInside, e85.xOutside])), t91) (fun a w hE hm => ⟨v89, hE.sub ⟨rfl, rfl, rfl, trivial⟩, (hm.pick [2, 1] rfl)⟩)
  · refine c_exit ?_
    refine l_exit ?_
    refine l_exit ?_
    refine b_exit ?_
    refine l_then ?_
    refine c_seq ?_
    refine c_seq ?_
    refine c_region ?_
    refine o_as st rfl rfl ?_
    refine c_nil ?_
    refine l_then ?_
    refine c_block ?_
    refine c_loop (σ := Int) (fun (t92 : Int) (a : Act) (w : World) => Has 92 [(0, v1), (3, v5), (5, (.int .i64 t92))] a ∧ Mem (gB F [] w0) (feet []) w0 [ownCh elGPrefix 26 v5 xs6, snapCh w0 F] w) (fun a w hE hm => ⟨hE.sub ⟨rfl, rfl, rfl, trivial⟩, (hm.pick [1, 0] rfl)⟩) ?_
    rintro nx93 t92 a w ⟨hE, hm⟩ h
    refine nx_of hE hm h ?_
    clear hE hm h
    refine c_seq ?_
    refine c_seq ?_
    refine c_region ?_
    refine o_mv st rfl rfl ?_
    refine o_mv st rfl rfl ?_
    refine o_len st el55 0 rfl reads_own rfl rfl ?_
    refine o_lss st rfl rfl rfl ?_
    refine c_nil ?_
    refine l_then ?_
    refine c_cond rfl ?_ ?_
    · refine c_skip ?_
      refine l_then ?_
      refine c_seq ?_
      refine c_block ?_
      refine c_seq ?_
      refine c_region ?_
      refine o_as st rfl rfl ?_
      refine c_nil ?_
      refine l_then ?_
      refine c_block ?_
      refine c_loop (σ := Int) (fun (t94 : Int) (a : Act) (w : World) => Has 92 [(0, v1), (3, v5), (5, (.int .i64 t92)), (6, (.int .i64 t94))] a ∧ Mem (gB F [] w0) (feet []) w0 [ownCh elGPrefix 26 v5 xs6, snapCh w0 F] w) (fun a w hE hm => ⟨hE.sub ⟨rfl, rfl, rfl, rfl, trivial⟩, (hm.pick [0, 1] rfl)⟩) ?_
      rintro nx95 t94 a w ⟨hE, hm⟩ h
      refine nx_of hE hm h ?_
      clear hE hm h
      refine c_seq ?_
      refine c_seq ?_
      refine c_region ?_
      refine o_mv st rfl rfl ?_
      refine o_mv st rfl rfl ?_
      refine o_lss st rfl rfl rfl ?_
      refine c_nil ?_
      refine l_then ?_
      refine c_cond rfl ?_ ?_
      · refine c_skip ?_
        refine l_then ?_
        refine c_seq ?_
        refine c_block ?_
        refine c_join (σ := Bool) (fun (t166 : Bool) (a : Act) (w : World) => Has 92 [(0, v1), (3, v5), (5, (.int .i64 t92)), (6, (.int .i64 t94)), (88, (.bool t166))] a ∧ Mem (gB F [] w0) (feet []) w0 [ownCh elGPrefix 26 v5 xs6, snapCh w0 F] w) ?_ ?_
        · intro k167
          refine c_draw mixed 20 rfl [ownCh elGPrefix 26 v5 xs6, snapCh w0 F] ?_
          refine o_mv (dt 0 (fun _ m => m)) rfl rfl ?_
          refine o_mv (dt 1 (fun _ m => m)) rfl rfl ?_
          refine o_idx (dt 2 (fun _ m => m)) 0 rfl reads_own rfl rfl rfl el55 ?_; intro e96 h97
          refine o_lds (dt 3 (fun _ m => m)) (enc := encGPrefix) (u := (.agg #[(.int .i64 e96.xBase), (.int .i64 e96.xLength)])) 0 rfl reads_own flelGPrefix rfl h97 rfl rfl ty26 rfl ?_
          refine o_mv (dt 4 (fun _ m => m)) rfl rfl ?_
          refine o_mv (dt 5 (fun _ m => m)) rfl rfl ?_
          refine o_idx (dt 6 (fun _ m => m)) 0 rfl reads_own rfl rfl rfl el55 ?_; intro e98 h99
          refine o_lds (dt 7 (fun _ m => m)) (enc := encGPrefix) (u := (.agg #[(.int .i64 e98.xBase), (.int .i64 e98.xLength)])) 0 rfl reads_own flelGPrefix rfl h99 rfl rfl ty26 rfl ?_
          refine d_one (i := 8) rfl (by kernel_rfl) (o_callP (vs := [(.agg #[(.int .i64 e96.xBase), (.int .i64 e96.xLength)]), (.agg #[(.int .i64 e98.xBase), (.int .i64 e98.xLength)])]) Try.call33 rfl rfl (by intro w m h; exact (w_spec_PrefixWithin (F := allB [] w) (a_0 := e96) (b_1 := e98) allB_ok h).mono (fun _ _ k => ret_free (fun r u => fr_nil) k)) ?_); rintro r100 _
          refine d_and (fun _ m => m) ?_
          refine o_mv (dt 9 (fun _ m => m)) rfl rfl ?_
          refine st_sp (dj := 78) rfl ?_ ?_
          · refine dsk 10 (fun _ m => m) rfl (by kernel_rfl) rfl rfl rfl rfl ?_
            refine dsk 11 (fun _ m => m) rfl (by kernel_rfl) rfl rfl rfl rfl ?_
            refine dsk 12 (fun _ m => m) rfl (by kernel_rfl) rfl rfl rfl rfl ?_
            refine dsk 13 (fun _ m => m) rfl (by kernel_rfl) rfl rfl rfl rfl ?_
            refine dsk 14 (fun _ m => m) rfl (by kernel_rfl) rfl rfl rfl rfl ?_
            refine dsk 15 (fun _ m => m) rfl (by kernel_rfl) rfl rfl rfl rfl ?_
            refine dsk 16 (fun _ m => m) rfl (by kernel_rfl) rfl rfl rfl rfl ?_
            refine dsk 17 (fun _ m => m) rfl (by kernel_rfl) rfl rfl rfl rfl ?_
            refine dsk 18 (fun _ m => m) rfl (by kernel_rfl) rfl rfl rfl rfl ?_
            refine o_pickT (dt 19 (fun _ m => m)) rfl rfl rfl ?_
            refine d_done (by kernel_rfl) ?_
            exact l_join true (fun a w hE hm => ⟨hE.sub ⟨rfl, rfl, rfl, rfl, rfl, trivial⟩, (hm.pick [0, 1] rfl)⟩)
          · refine o_mv (dtg 10 (fun _ m => m)) rfl rfl ?_
            refine o_mv (dtg 11 (fun _ m => m)) rfl rfl ?_
            refine o_idx (dtg 12 (fun _ m => m)) 0 rfl reads_own rfl rfl rfl el55 ?_; intro e101 h102
            refine o_lds (dtg 13 (fun _ m => m)) (enc := encGPrefix) (u := (.agg #[(.int .i64 e101.xBase), (.int .i64 e101.xLength)])) 0 rfl reads_own flelGPrefix rfl h102 rfl rfl ty26 rfl ?_
            refine o_mv (dtg 14 (fun _ m => m)) rfl rfl ?_
            refine o_mv (dtg 15 (fun _ m => m)) rfl rfl ?_
            refine o_idx (dtg 16 (fun _ m => m)) 0 rfl reads_own rfl rfl rfl el55 ?_; intro e103 h104
            refine o_lds (dtg 17 (fun _ m => m)) (enc := encGPrefix) (u := (.agg #[(.int .i64 e103.xBase), (.int .i64 e103.xLength)])) 0 rfl reads_own flelGPrefix rfl h104 rfl rfl ty26 rfl ?_
            refine d_oneg (i := 18) rfl rfl rfl (by kernel_rfl) (o_callP (vs := [(.agg #[(.int .i64 e101.xBase), (.int .i64 e101.xLength)]), (.agg #[(.int .i64 e103.xBase), (.int .i64 e103.xLength)])]) Try.call33 rfl rfl (by intro w m h; exact (w_spec_PrefixWithin (F := allB [] w) (a_0 := e101) (b_1 := e103) allB_ok h).mono (fun _ _ k => ret_free (fun r u => fr_nil) k)) ?_); rintro r105 _
            refine d_and (fun _ m => m) ?_
            refine o_pickF (dt 19 (fun _ m => m)) rfl rfl rfl ?_
            refine d_done (by kernel_rfl) ?_
            exact l_join r105 (fun a w hE hm => ⟨hE.sub ⟨rfl, rfl, rfl, rfl, rfl, trivial⟩, (hm.pick [0, 1] rfl)⟩)
        · rintro t166 a w ⟨hE, hm⟩ h
          refine nx_of hE hm h ?_
          clear hE hm h
          refine c_cond rfl ?_ ?_
          · refine c_seq ?_
            refine c_region ?_
            refine o_as st rfl rfl ?_
            refine c_nil ?_
            refine l_then ?_
            refine c_ret ?_
            refine b_ret ?_
            refine l_ret ?_
            refine l_ret ?_
            refine b_ret ?_
            refine b_ret ?_
            refine l_ret ?_
            refine l_ret ?_
            refine b_ret ?_
            refine l_ret ?_
            exact l_end1 Try.results13 false () (rv_t rfl) (fun _ _ => NewCh.nil _ _ _ _)
          · refine c_skip ?_
            refine b_norm ?_
            refine l_then ?_
            refine c_region ?_
            refine o_mv st rfl rfl ?_
            refine o_add st rfl rfl rfl ?_; intro t168
            refine o_as st rfl rfl ?_
            refine c_nil ?_
            exact l_join t168 (fun a w hE hm => ⟨hE.sub ⟨rfl, rfl, rfl, rfl, trivial⟩, (hm.pick [0, 1] rfl)⟩)
      · refine c_exit ?_
        refine l_exit ?_
        refine l_exit ?_
        refine b_exit ?_
        refine b_norm ?_
        refine l_then ?_
        refine c_region ?_
        refine o_mv st rfl rfl ?_
        refine o_add st rfl rfl rfl ?_; intro t169
        refine o_as st rfl rfl ?_
        refine c_nil ?_
        exact l_join t169 (fun a w hE hm => ⟨hE.sub ⟨rfl, rfl, rfl, trivial⟩, (hm.pick [0, 1] rfl)⟩)
    · refine c_exit ?_
      refine l_exit ?_
      refine l_exit ?_
      refine b_exit ?_
      refine l_then ?_
      refine c_seq ?_
      refine c_region ?_
      refine o_mv st rfl rfl ?_
      refine o_len st el37 1 rfl (reads_snap hv1) rfl rfl ?_
      refine o_leq st rfl rfl rfl ?_
      refine o_as st rfl rfl ?_
      refine c_nil ?_
      refine l_then ?_
      refine c_ret ?_
      exact l_end1 Try.results13 (decide ((list_0.length : Int) ≤ 10)) () (rv_t rfl) (fun _ _ => NewCh.nil _ _ _ _)

set_option maxRecDepth 100000 in
set_option maxHeartbeats 8000000 in
theorem w_impl_hostMask {w0 : World} {F : Nat → Prop} {length_0 : Int} {κ : Int → Prop} (hF : ∀ b, F b → b < w0.heap.size ∧ ¬ feet [] b) (h : L_impl_hostMask length_0 κ) :
    Calls Try.prog 47 #[(.int .i64 length_0)] w0 (Ret [] F w0 κ (fun (r : Int) (u : Unit) => (.int .i64 r)) (fun (r : Int) (u : Unit) => [])) := by
  refine enter0 (args := [(.int .i64 length_0)]) [] hF (Given.nil _ _) Try.func47 rfl Try.ntmps47 rfl h ?_
  clear h hF
  refine c_seq ?_
  refine c_region ?_
  refine o_as st rfl rfl ?_
  refine c_nil ?_
  refine l_then ?_
  refine c_seq ?_
  refine c_region ?_
  refine o_mv st rfl rfl ?_
  refine o_sub st rfl rfl rfl ?_; intro t1
  refine o_shl st rfl rfl rfl ?_; intro t2
  refine o_sub st rfl rfl rfl ?_; intro t3
  refine o_as st rfl rfl ?_
  refine c_nil ?_
  refine l_then ?_
  refine c_ret ?_
  exact l_end1 Try.results47 t3 () (rv_t rfl) (fun _ _ => NewCh.nil _ _ _ _)

set_option maxRecDepth 100000 in
set_option maxHeartbeats 8000000 in
theorem w_impl_PrefixValid {w0 : World} {F : Nat → Prop} {p_0 : GPrefix} {κ : Bool → Prop} (hF : ∀ b, F b → b < w0.heap.size ∧ ¬ feet [] b) (h : L_impl_PrefixValid p_0 κ) :
    Calls Try.prog 46 #[(.agg #[(.int .i64 p_0.xBase), (.int .i64 p_0.xLength)])] w0 (Ret [] F w0 κ (fun (r : Bool) (u : Unit) => (.bool r)) (fun (r : Bool) (u : Unit) => [])) := by
  refine enter0 (args := [(.agg #[(.int .i64 p_0.xBase), (.int .i64 p_0.xLength)])]) [] hF (Given.nil _ _) Try.func46 rfl Try.ntmps46 rfl h ?_
  clear h hF
  refine c_seq ?_
  refine c_region ?_
  refine stw (o_box rfl rfl [(.int .i64 p_0.xBase), (.int .i64 p_0.xLength)] rfl ?_); intro b1
  refine o_as st rfl rfl ?_
  refine c_nil ?_
  refine l_then ?_
  refine c_seq ?_
  refine c_join (σ := Bool) (fun (t63 : Bool) (a : Act) (w : World) => Has 28 [(1, (.pointer (some ⟨b1, 0, none⟩))), (20, (.bool t63))] a ∧ Mem (gB F [] w0) (feet []) w0 [cellCh b1 [(.int .i64 p_0.xBase), (.int .i64 p_0.xLength)] 26] w) ?_ ?_
  · intro k64
    refine c_region ?_
    refine o_fad st rfl rfl fld26_1 rfl ?_
    refine o_ldc st (v := (.int .i64 p_0.xLength)) 0 rfl rfl rfl ty3 rfl ?_
    refine o_lss st rfl rfl rfl ?_
    refine o_mv st rfl rfl ?_
    refine st_sp (dj := 6) rfl ?_ ?_
    · refine st_s rfl rfl rfl rfl ?_
      refine st_s rfl rfl rfl rfl ?_
      refine st_s rfl rfl rfl rfl ?_
      refine o_pickT st rfl rfl rfl ?_
      refine o_mv st rfl rfl ?_
      refine st_s rfl rfl rfl rfl ?_
      refine st_s rfl rfl rfl rfl ?_
      refine st_s rfl rfl rfl rfl ?_
      refine o_pickT st rfl rfl rfl ?_
      refine o_mv st rfl rfl ?_
      refine st_s rfl rfl rfl rfl ?_
      refine st_s rfl rfl rfl rfl ?_
      refine st_s rfl rfl rfl rfl ?_
      refine o_pickT st rfl rfl rfl ?_
      refine c_nil ?_
      exact l_join true (fun a w hE hm => ⟨hE.sub ⟨rfl, rfl, trivial⟩, (hm.pick [0] rfl)⟩)
    · refine o_fad (st_g rfl rfl) rfl rfl fld26_1 rfl ?_
      refine o_ldc (st_g rfl rfl) (v := (.int .i64 p_0.xLength)) 0 rfl rfl rfl ty3 rfl ?_
      refine o_gtr (st_g rfl rfl) rfl rfl rfl ?_
      refine o_pickF st rfl rfl rfl ?_
      refine o_mv st rfl rfl ?_
      refine st_sp (dj := 11) rfl ?_ ?_
      · refine st_s rfl rfl rfl rfl ?_
        refine st_s rfl rfl rfl rfl ?_
        refine st_s rfl rfl rfl rfl ?_
        refine o_pickT st rfl rfl rfl ?_
        refine o_mv st rfl rfl ?_
        refine st_s rfl rfl rfl rfl ?_
        refine st_s rfl rfl rfl rfl ?_
        refine st_s rfl rfl rfl rfl ?_
        refine o_pickT st rfl rfl rfl ?_
        refine c_nil ?_
        exact l_join true (fun a w hE hm => ⟨hE.sub ⟨rfl, rfl, trivial⟩, (hm.pick [0] rfl)⟩)
      · refine o_fad (st_g rfl rfl) rfl rfl fld26_0 rfl ?_
        refine o_ldc (st_g rfl rfl) (v := (.int .i64 p_0.xBase)) 0 rfl rfl rfl ty3 rfl ?_
        refine o_lss (st_g rfl rfl) rfl rfl rfl ?_
        refine o_pickF st rfl rfl rfl ?_
        refine o_mv st rfl rfl ?_
        refine st_sp (dj := 16) rfl ?_ ?_
        · refine st_s rfl rfl rfl rfl ?_
          refine st_s rfl rfl rfl rfl ?_
          refine st_s rfl rfl rfl rfl ?_
          refine o_pickT st rfl rfl rfl ?_
          refine c_nil ?_
          exact l_join true (fun a w hE hm => ⟨hE.sub ⟨rfl, rfl, trivial⟩, (hm.pick [0] rfl)⟩)
        · refine o_fad (st_g rfl rfl) rfl rfl fld26_0 rfl ?_
          refine o_ldc (st_g rfl rfl) (v := (.int .i64 p_0.xBase)) 0 rfl rfl rfl ty3 rfl ?_
          refine o_gtr (st_g rfl rfl) rfl rfl rfl ?_
          refine o_pickF st rfl rfl rfl ?_
          refine c_nil ?_
          exact l_join (decide (65535 < p_0.xBase)) (fun a w hE hm => ⟨hE.sub ⟨rfl, rfl, trivial⟩, (hm.pick [0] rfl)⟩)
  · rintro t63 a w ⟨hE, hm⟩ h
    refine nx_of hE hm h ?_
    clear hE hm h
    refine c_cond rfl ?_ ?_
    · refine c_seq ?_
      refine c_region ?_
      refine o_as st rfl rfl ?_
      refine c_nil ?_
      refine l_then ?_
      refine c_ret ?_
      refine l_ret ?_
      exact l_end1 Try.results46 false () (rv_t rfl) (fun _ _ => NewCh.nil _ _ _ _)
    · refine c_skip ?_
      refine l_then ?_
      refine c_seq ?_
      refine c_draw mixed 8 rfl [cellCh b1 [(.int .i64 p_0.xBase), (.int .i64 p_0.xLength)] 26] ?_
      refine o_fad (dt 0 (fun _ m => m)) rfl rfl fld26_0 rfl ?_
      refine o_ldc (dt 1 (fun _ m => m)) (v := (.int .i64 p_0.xBase)) 0 rfl rfl rfl ty3 rfl ?_
      refine o_fad (dt 2 (fun _ m => m)) rfl rfl fld26_1 rfl ?_
      refine o_ldc (dt 3 (fun _ m => m)) (v := (.int .i64 p_0.xLength)) 0 rfl rfl rfl ty3 rfl ?_
      refine d_one (i := 4) rfl (by kernel_rfl) (o_callP (vs := [(.int .i64 p_0.xLength)]) Try.call47 rfl rfl (by intro w m h; exact (w_impl_hostMask (F := allB [] w) (length_0 := p_0.xLength) allB_ok h).mono (fun _ _ k => ret_free (fun r u => fr_nil) k)) ?_); rintro r65 _
      refine d_and (fun _ m => m) ?_
      refine o_and (dt 5 (fun _ m => m)) rfl rfl rfl ?_
      refine o_eql (dt 6 (fun _ m => m)) und3 rfl rfl rfl ?_
      refine o_as (dt 7 (fun _ m => m)) rfl rfl ?_
      refine d_done (by kernel_rfl) ?_
      refine l_then ?_
      refine c_ret ?_
      exact l_end1 Try.results46 (decide ((bits .and .i64 p_0.xBase r65) = 0)) () (rv_t rfl) (fun _ _ => NewCh.nil _ _ _ _)

set_option maxRecDepth 100000 in
set_option maxHeartbeats 8000000 in
theorem w_impl_PrefixSpan {w0 : World} {F : Nat → Prop} {p_0 : GPrefix} {κ : (GSpan × Bool) → Prop} (hF : ∀ b, F b → b < w0.heap.size ∧ ¬ feet [] b) (h : L_impl_PrefixSpan p_0 κ) :
    Calls Try.prog 34 #[(.agg #[(.int .i64 p_0.xBase), (.int .i64 p_0.xLength)])] w0 (Ret [] F w0 κ (fun (r : (GSpan × Bool)) (u : Unit) => .tuple #[(.agg #[(.int .i64 r.1.xLo), (.int .i64 r.1.xHi)]), (.bool r.2)]) (fun (r : (GSpan × Bool)) (u : Unit) => [])) := by
  refine enter0 (args := [(.agg #[(.int .i64 p_0.xBase), (.int .i64 p_0.xLength)])]) [] hF (Given.nil _ _) Try.func34 rfl Try.ntmps34 rfl h ?_
  clear h hF
  refine c_seq ?_
  refine c_region ?_
  refine stw (o_box rfl rfl [(.int .i64 p_0.xBase), (.int .i64 p_0.xLength)] rfl ?_); intro b1
  refine stw (o_alloc rfl [(.int .i64 0), (.int .i64 0)] zero58 ?_); intro b3
  refine o_as st rfl rfl ?_
  refine c_nil ?_
  refine l_then ?_
  refine c_seq ?_
  refine c_seq ?_
  refine c_region ?_
  refine o_ldc st (v := (.agg #[(.int .i64 p_0.xBase), (.int .i64 p_0.xLength)])) 1 rfl rfl rfl ty26 rfl ?_
  refine stw (o_callP (vs := [(.agg #[(.int .i64 p_0.xBase), (.int .i64 p_0.xLength)])]) Try.call46 rfl rfl (by intro w m h; exact (w_impl_PrefixValid (F := allB [] w) (p_0 := p_0) allB_ok h).mono (fun _ _ k => ret_free (fun r u => fr_nil) k)) ?_); rintro r5 _
  refine o_not st rfl rfl ?_
  refine c_nil ?_
  refine l_then ?_
  refine c_cond rfl ?_ ?_
  · refine c_seq ?_
    refine c_region ?_
    refine o_bld st (qs := []) (cells := [(.int .i64 0), (.int .i64 0)]) (by intro ρ h; simp only [List.map_toArray, List.map_cons, List.map_nil]) rfl bld58 rfl ?_
    refine stw (o_stc (cs' := [(.int .i64 0), (.int .i64 0)]) 0 rfl rfl rfl ty58 rfl rfl rfl rfl ?_)
    refine o_as st rfl rfl ?_
    refine c_nil ?_
    refine l_then ?_
    refine c_ret ?_
    refine l_ret ?_
    exact l_end2 Try.results34 ((GSpan.mk 0 0), false) () (rv_c 0 rfl rfl ty58 rfl) (rv_t rfl) rfl (fun _ _ => NewCh.nil _ _ _ _)
  · refine c_skip ?_
    refine l_then ?_
    refine c_seq ?_
    refine c_draw mixed 11 rfl [cellCh b1 [(.int .i64 p_0.xBase), (.int .i64 p_0.xLength)] 26] ?_
    refine o_fad (dt 0 (fun w m => m.pick [1] rfl)) rfl rfl fld26_0 rfl ?_
    refine o_ldc (dt 1 (fun w m => m.pick [1] rfl)) (v := (.int .i64 p_0.xBase)) 0 rfl rfl rfl ty3 rfl ?_
    refine o_fad (dt 2 (fun w m => m.pick [1] rfl)) rfl rfl fld26_0 rfl ?_
    refine o_ldc (dt 3 (fun w m => m.pick [1] rfl)) (v := (.int .i64 p_0.xBase)) 0 rfl rfl rfl ty3 rfl ?_
    refine o_fad (dt 4 (fun w m => m.pick [1] rfl)) rfl rfl fld26_1 rfl ?_
    refine o_ldc (dt 5 (fun w m => m.pick [1] rfl)) (v := (.int .i64 p_0.xLength)) 0 rfl rfl rfl ty3 rfl ?_
    refine d_one (i := 6) rfl (by kernel_rfl) (o_callP (vs := [(.int .i64 p_0.xLength)]) Try.call47 rfl rfl (by intro w m h; exact (w_impl_hostMask (F := allB [] w) (length_0 := p_0.xLength) allB_ok h).mono (fun _ _ k => ret_free (fun r u => fr_nil) k)) ?_); rintro r6 _
    refine d_and (fun w m => m.pick [1] rfl) ?_
    refine o_or (dt 7 (fun w m => m.pick [1] rfl)) rfl rfl rfl ?_
    refine o_bld (dt 8 (fun w m => m.pick [1] rfl)) (qs := [(0, (.int .i64 p_0.xBase)), (1, (.int .i64 (bits .or .i64 p_0.xBase r6)))]) (cells := [(.int .i64 p_0.xBase), (.int .i64 (bits .or .i64 p_0.xBase r6))]) (by intro ρ h; simp only [List.map_toArray, List.map_cons, List.map_nil, h (.tmp 9) _ rfl, h (.tmp 15) _ rfl]) rfl bld58 rfl ?_
    refine d_one (i := 9) rfl (by kernel_rfl) (o_stc (cs' := [(.int .i64 p_0.xBase), (.int .i64 (bits .or .i64 p_0.xBase r6))]) 0 rfl rfl rfl ty58 rfl rfl rfl rfl ?_)
    refine d_and (fun w m => m.pick [1] rfl) ?_
    refine o_as (dt 10 (fun w m => m.pick [1] rfl)) rfl rfl ?_
    refine d_done (by kernel_rfl) ?_
    refine l_then ?_
    refine c_ret ?_
    exact l_end2 Try.results34 ((GSpan.mk p_0.xBase (bits .or .i64 p_0.xBase r6)), true) () (rv_c 0 rfl rfl ty58 rfl) (rv_t rfl) rfl (fun _ _ => NewCh.nil _ _ _ _)

set_option maxRecDepth 100000 in
set_option maxHeartbeats 8000000 in
theorem w_impl_RewritesValid {w0 : World} {F : Nat → Prop} {v1 : Value} {list_0 : (List GRewrite)} {κ : Bool → Prop} (hF : ∀ b, F b → b < w0.heap.size ∧ ¬ feet [] b) (hv1 : Sl elGRewrite F w0 v1 list_0) (h : L_impl_RewritesValid list_0 κ) :
    Calls Try.prog 15 #[v1] w0 (Ret [] F w0 κ (fun (r : Bool) (u : Unit) => (.bool r)) (fun (r : Bool) (u : Unit) => [])) := by
  refine enterS (args := [v1]) [] hF (Given.nil _ _) Try.func15 rfl Try.ntmps15 rfl h ?_
  clear h hF
  refine c_seq ?_
  refine c_region ?_
  refine o_as st rfl rfl ?_
  refine c_nil ?_
  refine l_then ?_
  refine c_seq ?_
  refine c_seq ?_
  refine c_region ?_
  refine o_mv st rfl rfl ?_
  refine o_len st el37 0 rfl (reads_snap hv1) rfl rfl ?_
  refine o_gtr st rfl rfl rfl ?_
  refine c_nil ?_
  refine l_then ?_
  refine c_cond rfl ?_ ?_
  · refine c_seq ?_
    refine c_region ?_
    refine o_as st rfl rfl ?_
    refine c_nil ?_
    refine l_then ?_
    refine c_ret ?_
    refine l_ret ?_
    exact l_end1 Try.results15 false () (rv_t rfl) (fun _ _ => NewCh.nil _ _ _ _)
  · refine c_skip ?_
    refine l_then ?_
    refine c_seq ?_
    refine c_region ?_
    refine o_mv st rfl rfl ?_
    refine o_len st el37 0 rfl (reads_snap hv1) rfl rfl ?_
    refine o_mul st rfl rfl rfl ?_; intro t3
    refine stw (o_make (z := (GSpan.mk 0 0)) flelGSpan rfl rfl rfl el45 rfl zero58 rfl rfl ?_); intro v4 xs5
    refine o_as st rfl rfl ?_
    refine c_nil ?_
    refine l_then ?_
    refine c_seq ?_
    refine c_seq ?_
    refine c_region ?_
    refine o_mv st rfl rfl ?_
    refine o_len st el37 1 rfl (reads_snap hv1) rfl rfl ?_
    refine o_mv st rfl rfl ?_
    refine c_nil ?_
    refine l_then ?_
    refine c_block ?_
    refine c_loop (σ := ((List GSpan) × Int)) (fun ((xs8, t11) : ((List GSpan) × Int)) (a : Act) (w : World) => ∃ (v7 : Value), Has 77 [(3, v7), (18, v1), (19, (.int .i64 (list_0.length : Int))), (20, (.int .i64 t11))] a ∧ Mem (gB F [] w0) (feet []) w0 [snapCh w0 F, ownCh elGSpan 58 v7 xs8] w) (fun a w hE hm => ⟨v4, hE.sub ⟨rfl, rfl, rfl, rfl, trivial⟩, (hm.pick [1, 0] rfl)⟩) ?_
    rintro nx12 ⟨xs8, t11⟩ a w ⟨v7, hE, hm⟩ h
    refine nx_of hE hm h ?_
    clear hE hm h
    refine c_seq ?_
    refine c_region ?_
    refine o_lss st rfl rfl rfl ?_
    refine c_nil ?_
    refine l_then ?_
    refine c_seq ?_
    refine c_cond rfl ?_ ?_
    · refine c_skip ?_
      refine l_then ?_
      refine c_seq ?_
      refine c_block ?_
      refine c_seq ?_
      refine c_region ?_
      refine o_idx st 0 rfl (reads_snap hv1) rfl rfl rfl el37 ?_; intro e13 h14
      refine o_lds st (enc := encGRewrite) (u := (.agg #[(.int .i64 e13.xInside.xBase), (.int .i64 e13.xInside.xLength), (.int .i64 e13.xOutside.xBase), (.int .i64 e13.xOutside.xLength)])) 0 rfl (reads_snap hv1) flelGRewrite rfl h14 rfl rfl ty28 rfl ?_
      refine stw (o_alloc rfl [(.int .i64 0), (.int .i64 0), (.int .i64 0), (.int .i64 0)] zero28 ?_); intro b15
      refine stw (o_stc (cs' := [(.int .i64 e13.xInside.xBase), (.int .i64 e13.xInside.xLength), (.int .i64 e13.xOutside.xBase), (.int .i64 e13.xOutside.xLength)]) 0 rfl rfl rfl ty28 rfl rfl rfl rfl ?_)
      refine c_nil ?_
      refine l_then ?_
      refine c_seq ?_
      refine c_region ?_
      refine o_fad st rfl rfl fld28_0 rfl ?_
      refine o_ldc st (v := (.agg #[(.int .i64 e13.xInside.xBase), (.int .i64 e13.xInside.xLength)])) 0 rfl rfl rfl ty26 rfl ?_
      refine stw (o_callP (vs := [(.agg #[(.int .i64 e13.xInside.xBase), (.int .i64 e13.xInside.xLength)])]) Try.call34 rfl rfl (by intro w m h; exact (w_impl_PrefixSpan (F := allB [] w) (p_0 := e13.xInside) allB_ok h).mono (fun _ _ k => ret_free (fun r u => fr_nil) k)) ?_); rintro ⟨r17, r18⟩ _
      refine o_mv st rfl rfl ?_
      refine o_ext st (vs := [(.agg #[(.int .i64 r17.xLo), (.int .i64 r17.xHi)]), (.bool r18)]) rfl rfl rfl ?_
      refine o_ext st (vs := [(.agg #[(.int .i64 r17.xLo), (.int .i64 r17.xHi)]), (.bool r18)]) rfl rfl rfl ?_
      refine stw (o_alloc rfl [(.int .i64 0), (.int .i64 0)] zero58 ?_); intro b19
      refine stw (o_stc (cs' := [(.int .i64 r17.xLo), (.int .i64 r17.xHi)]) 0 rfl rfl rfl ty58 rfl rfl rfl rfl ?_)
      refine o_as st rfl rfl ?_
      refine c_nil ?_
      refine l_then ?_
      refine c_seq ?_
      refine c_region ?_
      refine o_fad st rfl rfl fld28_1 rfl ?_
      refine o_ldc st (v := (.agg #[(.int .i64 e13.xOutside.xBase), (.int .i64 e13.xOutside.xLength)])) 1 rfl rfl rfl ty26 rfl ?_
      refine stw (o_callP (vs := [(.agg #[(.int .i64 e13.xOutside.xBase), (.int .i64 e13.xOutside.xLength)])]) Try.call34 rfl rfl (by intro w m h; exact (w_impl_PrefixSpan (F := allB [] w) (p_0 := e13.xOutside) allB_ok h).mono (fun _ _ k => ret_free (fun r u => fr_nil) k)) ?_); rintro ⟨r21, r22⟩ _
      refine o_mv st rfl rfl ?_
      refine o_ext st (vs := [(.agg #[(.int .i64 r21.xLo), (.int .i64 r21.xHi)]), (.bool r22)]) rfl rfl rfl ?_
      refine o_ext st (vs := [(.agg #[(.int .i64 r21.xLo), (.int .i64 r21.xHi)]), (.bool r22)]) rfl rfl rfl ?_
      refine stw (o_alloc rfl [(.int .i64 0), (.int .i64 0)] zero58 ?_); intro b23
      refine stw (o_stc (cs' := [(.int .i64 r21.xLo), (.int .i64 r21.xHi)]) 0 rfl rfl rfl ty58 rfl rfl rfl rfl ?_)
      refine o_as st rfl rfl ?_
      refine c_nil ?_
      refine l_then ?_
      refine c_seq ?_
      refine c_join (σ := Bool) (fun (t85 : Bool) (a : Act) (w : World) => Has 77 [(3, v7), (18, v1), (19, (.int .i64 (list_0.length : Int))), (20, (.int .i64 t11)), (6, (.pointer (some ⟨b19, 0, none⟩))), (8, (.pointer (some ⟨b23, 0, none⟩))), (50, (.bool t85))] a ∧ Mem (gB F [] w0) (feet []) w0 [cellCh b23 [(.int .i64 r21.xLo), (.int .i64 r21.xHi)] 58, cellCh b19 [(.int .i64 r17.xLo), (.int .i64 r17.xHi)] 58, ownCh elGSpan 58 v7 xs8, snapCh w0 F] w) ?_ ?_
      · intro k86
        refine c_region ?_
        refine o_mv st rfl rfl ?_
        refine o_not st rfl rfl ?_
        refine o_mv st rfl rfl ?_
        refine st_sp (dj := 38) rfl ?_ ?_
        · refine st_s rfl rfl rfl rfl ?_
          refine st_s rfl rfl rfl rfl ?_
          refine o_pickT st rfl rfl rfl ?_
          refine o_mv st rfl rfl ?_
          refine st_s rfl rfl rfl rfl ?_
          refine st_s rfl rfl rfl rfl ?_
          refine st_s rfl rfl rfl rfl ?_
          refine st_s rfl rfl rfl rfl ?_
          refine st_s rfl rfl rfl rfl ?_
          refine st_s rfl rfl rfl rfl ?_
          refine st_s rfl rfl rfl rfl ?_
          refine o_pickT st rfl rfl rfl ?_
          refine c_nil ?_
          exact l_join true (fun a w hE hm => ⟨hE.sub ⟨rfl, rfl, rfl, rfl, rfl, rfl, rfl, trivial⟩, (hm.pick [0, 1, 4, 3] rfl)⟩)
        · refine o_mv (st_g rfl rfl) rfl rfl ?_
          refine o_not (st_g rfl rfl) rfl rfl ?_
          refine o_pickF st rfl rfl rfl ?_
          refine o_mv st rfl rfl ?_
          refine st_sp (dj := 42) rfl ?_ ?_
          · refine st_s rfl rfl rfl rfl ?_
            refine st_s rfl rfl rfl rfl ?_
            refine st_s rfl rfl rfl rfl ?_
            refine st_s rfl rfl rfl rfl ?_
            refine st_s rfl rfl rfl rfl ?_
            refine st_s rfl rfl rfl rfl ?_
            refine st_s rfl rfl rfl rfl ?_
            refine o_pickT st rfl rfl rfl ?_
            refine c_nil ?_
            exact l_join true (fun a w hE hm => ⟨hE.sub ⟨rfl, rfl, rfl, rfl, rfl, rfl, rfl, trivial⟩, (hm.pick [0, 1, 4, 3] rfl)⟩)
          · refine o_fad (st_g rfl rfl) rfl rfl fld28_0 rfl ?_
            refine o_fad (st_g rfl rfl) rfl rfl fld26_1 rfl ?_
            refine o_ldc (st_g rfl rfl) (v := (.int .i64 e13.xInside.xLength)) 2 rfl rfl rfl ty3 rfl ?_
            refine o_fad (st_g rfl rfl) rfl rfl fld28_1 rfl ?_
            refine o_fad (st_g rfl rfl) rfl rfl fld26_1 rfl ?_
            refine o_ldc (st_g rfl rfl) (v := (.int .i64 e13.xOutside.xLength)) 2 rfl rfl rfl ty3 rfl ?_
            refine o_neq (st_g rfl rfl) und3 rfl rfl rfl ?_
            refine o_pickF st rfl rfl rfl ?_
            refine c_nil ?_
            exact l_join (!(decide (e13.xInside.xLength = e13.xOutside.xLength))) (fun a w hE hm => ⟨hE.sub ⟨rfl, rfl, rfl, rfl, rfl, rfl, rfl, trivial⟩, (hm.pick [0, 1, 4, 3] rfl)⟩)
      · rintro t85 a w ⟨hE, hm⟩ h
        refine nx_of hE hm h ?_
        clear hE hm h
        refine c_cond rfl ?_ ?_
        · refine c_seq ?_
          refine c_region ?_
          refine o_as st rfl rfl ?_
          refine c_nil ?_
          refine l_then ?_
          refine c_ret ?_
          refine l_ret ?_
          refine b_ret ?_
          refine l_ret ?_
          refine l_ret ?_
          refine b_ret ?_
          refine l_ret ?_
          exact l_end1 Try.results15 false () (rv_t rfl) (fun _ _ => NewCh.nil _ _ _ _)
        · refine c_skip ?_
          refine l_then ?_
          refine c_region ?_
          refine o_mv st rfl rfl ?_
          refine o_ldc st (v := (.agg #[(.int .i64 r17.xLo), (.int .i64 r17.xHi)])) 1 rfl rfl rfl ty58 rfl ?_
          refine o_ldc st (v := (.agg #[(.int .i64 r21.xLo), (.int .i64 r21.xHi)])) 0 rfl rfl rfl ty58 rfl ?_
          refine stw (o_bsl (enc := encGSpan) (qs := [(0, (.agg #[(.int .i64 r17.xLo), (.int .i64 r17.xHi)])), (1, (.agg #[(.int .i64 r21.xLo), (.int .i64 r21.xHi)]))]) (cells := [(.int .i64 r17.xLo), (.int .i64 r17.xHi), (.int .i64 r21.xLo), (.int .i64 r21.xHi)]) ([r17, r21]) flelGSpan (by intro ρ h; simp only [List.map_toArray, List.map_cons, List.map_nil, h (.tmp 52) _ rfl, h (.tmp 53) _ rfl]) rfl el45 zero58 rfl rfl rfl rfl rfl rfl ?_); intro v87
          refine stw (o_app 3 0 rfl rfl (src_flat flelGSpan reads_own) rfl rfl rfl el45 rfl zero58 rfl rfl ?_); intro v89
          refine o_as st rfl rfl ?_
          refine c_nil ?_
          refine b_norm ?_
          refine l_then ?_
          refine c_region ?_
          refine o_add st rfl rfl rfl ?_; intro t91
          refine o_mv st rfl rfl ?_
          refine c_nil ?_
          exact l_join ((xs8 ++ ([r17, r21])), t91) (fun a w hE hm => ⟨v89, hE.sub ⟨rfl, rfl, rfl, rfl, trivial⟩, (hm.pick [4, 3] rfl)⟩)
    · refine c_exit ?_
      refine l_exit ?_
      refine l_exit ?_
      refine b_exit ?_
      refine l_then ?_
      refine c_seq ?_
      refine c_region ?_
      refine o_mv st rfl rfl ?_
      refine pk [1, 0] rfl ?_
      refine stw (o_call (vs := [v7, (.func (.func 36) #[] #[])]) (M0 := [ownCh elGSpan 58 v7 xs8]) Try.call35 rfl rfl (by intro w m h; exact (w_srt_GSpan (F := allB [ownCh elGSpan 58 v7 xs8] w) (xs := xs8) allB_ok m.given h).mono (fun _ _ k => ret_free (fun r u => (fr_cons (free_own flelGSpan) fr_nil)) k)) ?_); rintro r92 _
      refine c_nil ?_
      refine l_then ?_
      refine c_seq ?_
      refine c_seq ?_
      refine c_region ?_
      refine o_as st rfl rfl ?_
      refine c_nil ?_
      refine l_then ?_
      refine c_block ?_
      refine c_loop (σ := Int) (fun (t94 : Int) (a : Act) (w : World) => Has 77 [(3, v7), (10, (.int .i64 t94))] a ∧ Mem (gB F [] w0) (feet []) w0 [ownCh elGSpan 58 v7 r92] w) (fun a w hE hm => ⟨hE.sub ⟨rfl, rfl, trivial⟩, (hm.pick [0] rfl)⟩) ?_
      rintro nx95 t94 a w ⟨hE, hm⟩ h
      refine nx_of hE hm h ?_
      clear hE hm h
      refine c_seq ?_
      refine c_seq ?_
      refine c_region ?_
      refine o_mv st rfl rfl ?_
      refine o_mv st rfl rfl ?_
      refine o_len st el45 0 rfl reads_own rfl rfl ?_
      refine o_lss st rfl rfl rfl ?_
      refine c_nil ?_
      refine l_then ?_
      refine c_cond rfl ?_ ?_
      · refine c_skip ?_
        refine l_then ?_
        refine c_seq ?_
        refine c_block ?_
        refine c_seq ?_
        refine c_draw mixed 12 rfl [ownCh elGSpan 58 v7 r92] ?_
        refine o_mv (dt 0 (fun _ m => m)) rfl rfl ?_
        refine o_mv (dt 1 (fun _ m => m)) rfl rfl ?_
        refine o_idx (dt 2 (fun _ m => m)) 0 rfl reads_own rfl rfl rfl el45 ?_; intro e96 h97
        refine o_fadS (dt 3 (fun _ m => m)) 0 rfl reads_own h97 rfl rfl fld58_0 rfl ?_
        refine o_lds (dt 4 (fun _ m => m)) (enc := encGSpan) (u := (.int .i64 e96.xLo)) 0 rfl reads_own flelGSpan rfl h97 rfl rfl ty3 rfl ?_
        refine o_mv (dt 5 (fun _ m => m)) rfl rfl ?_
        refine o_mv (dt 6 (fun _ m => m)) rfl rfl ?_
        refine o_sub (dt 7 (fun _ m => m)) rfl rfl rfl ?_; intro t98
        refine o_idx (dt 8 (fun _ m => m)) 0 rfl reads_own rfl rfl rfl el45 ?_; intro e99 h100
        refine o_fadS (dt 9 (fun _ m => m)) 0 rfl reads_own h100 rfl rfl fld58_1 rfl ?_
        refine o_lds (dt 10 (fun _ m => m)) (enc := encGSpan) (u := (.int .i64 e99.xHi)) 0 rfl reads_own flelGSpan rfl h100 rfl rfl ty3 rfl ?_
        refine o_leq (dt 11 (fun _ m => m)) rfl rfl rfl ?_
        refine d_done (by kernel_rfl) ?_
        refine l_then ?_
        refine c_cond rfl ?_ ?_
        · refine c_seq ?_
          refine c_region ?_
          refine o_as st rfl rfl ?_
          refine c_nil ?_
          refine l_then ?_
          refine c_ret ?_
          refine b_ret ?_
          refine l_ret ?_
          refine l_ret ?_
          refine b_ret ?_
          refine l_ret ?_
          exact l_end1 Try.results15 false () (rv_t rfl) (fun _ _ => NewCh.nil _ _ _ _)
        · refine c_skip ?_
          refine b_norm ?_
          refine l_then ?_
          refine c_region ?_
          refine o_mv st rfl rfl ?_
          refine o_add st rfl rfl rfl ?_; intro t101
          refine o_as st rfl rfl ?_
          refine c_nil ?_
          exact l_join t101 (fun a w hE hm => ⟨hE.sub ⟨rfl, rfl, trivial⟩, (hm.pick [0] rfl)⟩)
      · refine c_exit ?_
        refine l_exit ?_
        refine l_exit ?_
        refine b_exit ?_
        refine l_then ?_
        refine c_seq ?_
        refine c_region ?_
        refine o_as st rfl rfl ?_
        refine c_nil ?_
        refine l_then ?_
        refine c_ret ?_
        exact l_end1 Try.results15 true () (rv_t rfl) (fun _ _ => NewCh.nil _ _ _ _)

set_option maxRecDepth 100000 in
set_option maxHeartbeats 8000000 in
theorem w_spec_l20Rd_pick {w0 : World} {F : Nat → Prop} {b1 : Nat} {v2 : Value} {r_0_b : (List UInt8)} {r_0_p : Int} {n_1 : Int} {κ : (Int × Int) → Prop} (hF : ∀ b, F b → b < w0.heap.size ∧ ¬ feet [cellCh b1 [v2, (.int .i64 r_0_p)] 76] b) (hg : Given [cellCh b1 [v2, (.int .i64 r_0_p)] 76] F w0) (hv2 : Sl elU8 F w0 v2 r_0_b) (h : L_spec_l20Rd_pick r_0_b r_0_p n_1 κ) :
    Calls Try.prog 51 #[(.pointer (some ⟨b1, 0, none⟩)), (.int .i64 n_1)] w0 (Ret [cellCh b1 [v2, (.int .i64 r_0_p)] 76] F w0 κ (fun (r : (Int × Int)) (u : Unit) => (.int .i64 r.1)) (fun (r : (Int × Int)) (u : Unit) => [cellCh b1 [v2, (.int .i64 r.2)] 76])) := by
  refine enterS (args := [(.pointer (some ⟨b1, 0, none⟩)), (.int .i64 n_1)]) [cellCh b1 [v2, (.int .i64 r_0_p)] 76] hF hg Try.func51 rfl Try.ntmps51 rfl h ?_
  clear h hF hg
  refine c_seq ?_
  refine c_region ?_
  refine o_as st rfl rfl ?_
  refine c_nil ?_
  refine l_then ?_
  refine c_seq ?_
  refine c_region ?_
  refine o_mv st rfl rfl ?_
  refine o_mv st rfl rfl ?_
  refine o_nilc st rfl rfl ?_
  refine o_fad st rfl rfl fld76_1 rfl ?_
  refine o_ldc st (v := (.int .i64 r_0_p)) 0 rfl rfl rfl ty3 rfl ?_
  refine o_add st rfl rfl rfl ?_; intro t5
  refine o_nilc st rfl rfl ?_
  refine o_fad st rfl rfl fld76_1 rfl ?_
  refine stw (o_stc (cs' := [v2, (.int .i64 t5)]) 0 rfl rfl rfl ty3 rfl rfl rfl rfl ?_)
  refine c_nil ?_
  refine l_then ?_
  refine c_seq ?_
  refine c_join (σ := Bool) (fun (t66 : Bool) (a : Act) (w : World) => Has 99 [(0, (.pointer (some ⟨b1, 0, none⟩))), (1, (.int .i64 n_1)), (24, (.bool t66))] a ∧ Mem (gB F [cellCh b1 [v2, (.int .i64 r_0_p)] 76] w0) (feet [cellCh b1 [v2, (.int .i64 r_0_p)] 76]) w0 [cellCh b1 [v2, (.int .i64 t5)] 76, snapCh w0 F] w) ?_ ?_
  · intro k67
    refine c_region ?_
    refine o_mv st rfl rfl ?_
    refine o_lss st rfl rfl rfl ?_
    refine o_mv st rfl rfl ?_
    refine st_sp (dj := 17) rfl ?_ ?_
    · refine st_s rfl rfl rfl rfl ?_
      refine st_s rfl rfl rfl rfl ?_
      refine st_s rfl rfl rfl rfl ?_
      refine st_s rfl rfl rfl rfl ?_
      refine st_s rfl rfl rfl rfl ?_
      refine st_s rfl rfl rfl rfl ?_
      refine o_pickT st rfl rfl rfl ?_
      refine c_nil ?_
      exact l_join true (fun a w hE hm => ⟨hE.sub ⟨rfl, rfl, rfl, trivial⟩, (hm.pick [0, 1] rfl)⟩)
    · refine o_mv (st_g rfl rfl) rfl rfl ?_
      refine o_nilc (st_g rfl rfl) rfl rfl ?_
      refine o_fad (st_g rfl rfl) rfl rfl fld76_0 rfl ?_
      refine o_ldc (st_g rfl rfl) (v := v2) 0 rfl rfl rfl ty41 rfl ?_
      refine o_len (st_g rfl rfl) el41 1 rfl (reads_snap hv2) rfl rfl ?_
      refine o_eql (st_g rfl rfl) und3 rfl rfl rfl ?_
      refine o_pickF st rfl rfl rfl ?_
      refine c_nil ?_
      exact l_join (decide ((r_0_b.length : Int) = 0)) (fun a w hE hm => ⟨hE.sub ⟨rfl, rfl, rfl, trivial⟩, (hm.pick [0, 1] rfl)⟩)
  · rintro t66 a w ⟨hE, hm⟩ h
    refine nx_of hE hm h ?_
    clear hE hm h
    refine c_cond rfl ?_ ?_
    · refine c_seq ?_
      refine c_region ?_
      refine o_as st rfl rfl ?_
      refine c_nil ?_
      refine l_then ?_
      refine c_ret ?_
      refine l_ret ?_
      exact l_end1 Try.results51 (0, t5) () (rv_t rfl) (fun w m => NewCh.ofB m [0] rfl)
    · refine c_skip ?_
      refine l_then ?_
      refine c_seq ?_
      refine c_region ?_
      refine o_mv st rfl rfl ?_
      refine o_nilc st rfl rfl ?_
      refine o_fad st rfl rfl fld76_1 rfl ?_
      refine o_ldc st (v := (.int .i64 t5)) 0 rfl rfl rfl ty3 rfl ?_
      refine o_sub st rfl rfl rfl ?_; intro t68
      refine o_as st rfl rfl ?_
      refine c_nil ?_
      refine l_then ?_
      refine c_seq ?_
      refine c_seq ?_
      refine c_region ?_
      refine o_mv st rfl rfl ?_
      refine o_mv st rfl rfl ?_
      refine o_nilc st rfl rfl ?_
      refine o_fad st rfl rfl fld76_0 rfl ?_
      refine o_ldc st (v := v2) 0 rfl rfl rfl ty41 rfl ?_
      refine o_len st el41 1 rfl (reads_snap hv2) rfl rfl ?_
      refine o_lss st rfl rfl rfl ?_
      refine c_nil ?_
      refine l_then ?_
      refine c_cond rfl ?_ ?_
      · refine c_seq ?_
        refine c_region ?_
        refine o_mv st rfl rfl ?_
        refine o_nilc st rfl rfl ?_
        refine o_fad st rfl rfl fld76_0 rfl ?_
        refine o_ldc st (v := v2) 0 rfl rfl rfl ty41 rfl ?_
        refine o_mv st rfl rfl ?_
        refine o_idx st 1 rfl (reads_snap hv2) rfl rfl rfl el41 ?_; intro e69 h70
        refine o_lds st (enc := encU8) (u := (.int .u8 (e69.toNat : Int))) 1 rfl (reads_snap hv2) flelU8 rfl h70 rfl rfl ty5 rfl ?_
        refine o_cnvI st und5 und3 rfl rfl ?_
        refine o_mv st rfl rfl ?_
        refine o_rem st rfl rfl rfl ?_; intro t71
        refine o_as st rfl rfl ?_
        refine c_nil ?_
        refine l_then ?_
        refine c_ret ?_
        refine l_ret ?_
        exact l_end1 Try.results51 (t71, t5) () (rv_t rfl) (fun w m => NewCh.ofB m [0] rfl)
      · refine c_skip ?_
        refine l_then ?_
        refine c_seq ?_
        refine c_draw mixed 46 rfl [cellCh b1 [v2, (.int .i64 t5)] 76, snapCh w0 F] ?_
        refine o_mv (dt 0 (fun _ m => m)) rfl rfl ?_
        refine o_nilc (dt 1 (fun _ m => m)) rfl rfl ?_
        refine o_fad (dt 2 (fun _ m => m)) rfl rfl fld76_0 rfl ?_
        refine o_ldc (dt 3 (fun _ m => m)) (v := v2) 0 rfl rfl rfl ty41 rfl ?_
        refine o_mv (dt 4 (fun _ m => m)) rfl rfl ?_
        refine o_mv (dt 5 (fun _ m => m)) rfl rfl ?_
        refine o_nilc (dt 6 (fun _ m => m)) rfl rfl ?_
        refine o_fad (dt 7 (fun _ m => m)) rfl rfl fld76_0 rfl ?_
        refine o_ldc (dt 8 (fun _ m => m)) (v := v2) 0 rfl rfl rfl ty41 rfl ?_
        refine o_len (dt 9 (fun _ m => m)) el41 1 rfl (reads_snap hv2) rfl rfl ?_
        refine o_rem (dt 10 (fun _ m => m)) rfl rfl rfl ?_; intro t72
        refine o_idx (dt 11 (fun _ m => m)) 1 rfl (reads_snap hv2) rfl rfl rfl el41 ?_; intro e73 h74
        refine o_lds (dt 12 (fun _ m => m)) (enc := encU8) (u := (.int .u8 (e73.toNat : Int))) 1 rfl (reads_snap hv2) flelU8 rfl h74 rfl rfl ty5 rfl ?_
        refine o_cnvI (dt 13 (fun _ m => m)) und5 und3 rfl rfl ?_
        refine o_mul (dt 14 (fun _ m => m)) rfl rfl rfl ?_; intro t75
        refine o_mv (dt 15 (fun _ m => m)) rfl rfl ?_
        refine o_nilc (dt 16 (fun _ m => m)) rfl rfl ?_
        refine o_fad (dt 17 (fun _ m => m)) rfl rfl fld76_0 rfl ?_
        refine o_ldc (dt 18 (fun _ m => m)) (v := v2) 0 rfl rfl rfl ty41 rfl ?_
        refine o_mv (dt 19 (fun _ m => m)) rfl rfl ?_
        refine o_mul (dt 20 (fun _ m => m)) rfl rfl rfl ?_; intro t76
        refine o_add (dt 21 (fun _ m => m)) rfl rfl rfl ?_; intro t77
        refine o_mv (dt 22 (fun _ m => m)) rfl rfl ?_
        refine o_nilc (dt 23 (fun _ m => m)) rfl rfl ?_
        refine o_fad (dt 24 (fun _ m => m)) rfl rfl fld76_0 rfl ?_
        refine o_ldc (dt 25 (fun _ m => m)) (v := v2) 0 rfl rfl rfl ty41 rfl ?_
        refine o_len (dt 26 (fun _ m => m)) el41 1 rfl (reads_snap hv2) rfl rfl ?_
        refine o_rem (dt 27 (fun _ m => m)) rfl rfl rfl ?_; intro t78
        refine o_idx (dt 28 (fun _ m => m)) 1 rfl (reads_snap hv2) rfl rfl rfl el41 ?_; intro e79 h80
        refine o_lds (dt 29 (fun _ m => m)) (enc := encU8) (u := (.int .u8 (e79.toNat : Int))) 1 rfl (reads_snap hv2) flelU8 rfl h80 rfl rfl ty5 rfl ?_
        refine o_cnvI (dt 30 (fun _ m => m)) und5 und3 rfl rfl ?_
        refine o_mul (dt 31 (fun _ m => m)) rfl rfl rfl ?_; intro t81
        refine o_add (dt 32 (fun _ m => m)) rfl rfl rfl ?_; intro t82
        refine o_mv (dt 33 (fun _ m => m)) rfl rfl ?_
        refine o_mul (dt 34 (fun _ m => m)) rfl rfl rfl ?_; intro t83
        refine o_add (dt 35 (fun _ m => m)) rfl rfl rfl ?_; intro t84
        refine o_mv (dt 36 (fun _ m => m)) rfl rfl ?_
        refine o_mv (dt 37 (fun _ m => m)) rfl rfl ?_
        refine o_nilc (dt 38 (fun _ m => m)) rfl rfl ?_
        refine o_fad (dt 39 (fun _ m => m)) rfl rfl fld76_0 rfl ?_
        refine o_ldc (dt 40 (fun _ m => m)) (v := v2) 0 rfl rfl rfl ty41 rfl ?_
        refine o_len (dt 41 (fun _ m => m)) el41 1 rfl (reads_snap hv2) rfl rfl ?_
        refine o_quo (dt 42 (fun _ m => m)) rfl rfl rfl ?_; intro t85
        refine o_mul (dt 43 (fun _ m => m)) rfl rfl rfl ?_; intro t86
        refine o_add (dt 44 (fun _ m => m)) rfl rfl rfl ?_; intro t87
        refine o_as (dt 45 (fun _ m => m)) rfl rfl ?_
        refine d_done (by kernel_rfl) ?_
        refine l_then ?_
        refine c_seq ?_
        refine c_region ?_
        refine o_mv st rfl rfl ?_
        refine o_mv st rfl rfl ?_
        refine o_quo st rfl rfl rfl ?_; intro t88
        refine o_xor st rfl rfl rfl ?_; intro t89
        refine o_as st rfl rfl ?_
        refine c_nil ?_
        refine l_then ?_
        refine c_seq ?_
        refine c_region ?_
        refine o_mv st rfl rfl ?_
        refine o_mv st rfl rfl ?_
        refine o_rem st rfl rfl rfl ?_; intro t90
        refine o_as st rfl rfl ?_
        refine c_nil ?_
        refine l_then ?_
        refine c_ret ?_
        exact l_end1 Try.results51 (t90, t5) () (rv_t rfl) (fun w m => NewCh.ofB m [0] rfl)

set_option maxRecDepth 100000 in
set_option maxHeartbeats 8000000 in
theorem w_spec_l20Rd_odd {w0 : World} {F : Nat → Prop} {b1 : Nat} {v2 : Value} {r_0_b : (List UInt8)} {r_0_p : Int} {n_1 : Int} {κ : (Bool × Int) → Prop} (hF : ∀ b, F b → b < w0.heap.size ∧ ¬ feet [cellCh b1 [v2, (.int .i64 r_0_p)] 76] b) (hg : Given [cellCh b1 [v2, (.int .i64 r_0_p)] 76] F w0) (hv2 : Sl elU8 F w0 v2 r_0_b) (h : L_spec_l20Rd_odd r_0_b r_0_p n_1 κ) :
    Calls Try.prog 52 #[(.pointer (some ⟨b1, 0, none⟩)), (.int .i64 n_1)] w0 (Ret [cellCh b1 [v2, (.int .i64 r_0_p)] 76] F w0 κ (fun (r : (Bool × Int)) (u : Unit) => (.bool r.1)) (fun (r : (Bool × Int)) (u : Unit) => [cellCh b1 [v2, (.int .i64 r.2)] 76])) := by
  refine enterS (args := [(.pointer (some ⟨b1, 0, none⟩)), (.int .i64 n_1)]) [cellCh b1 [v2, (.int .i64 r_0_p)] 76] hF hg Try.func52 rfl Try.ntmps52 rfl h ?_
  clear h hF hg
  refine c_seq ?_
  refine c_region ?_
  refine o_as st rfl rfl ?_
  refine c_nil ?_
  refine l_then ?_
  refine c_join (σ := (Int × Bool)) (fun ((t68, t69) : (Int × Bool)) (a : Act) (w : World) => Has 15 [(4, (.bool t69))] a ∧ Mem (gB F [cellCh b1 [v2, (.int .i64 r_0_p)] 76] w0) (feet [cellCh b1 [v2, (.int .i64 r_0_p)] 76]) w0 [cellCh b1 [v2, (.int .i64 t68)] 76, snapCh w0 F] w) ?_ ?_
  · intro k70
    refine c_region ?_
    refine o_mv st rfl rfl ?_
    refine o_gtr st rfl rfl rfl ?_
    refine o_mv st rfl rfl ?_
    refine st_sp (dj := 7) rfl ?_ ?_
    · refine o_mv (st_g rfl rfl) rfl rfl ?_
      refine o_mv (st_g rfl rfl) rfl rfl ?_
      refine st_gw rfl rfl (o_call (vs := [(.pointer (some ⟨b1, 0, none⟩)), (.int .i64 n_1)]) (M0 := [cellCh b1 [v2, (.int .i64 r_0_p)] 76]) Try.call51 rfl rfl (by intro w m h; exact (w_spec_l20Rd_pick (F := allB [cellCh b1 [v2, (.int .i64 r_0_p)] 76] w) (r_0_b := r_0_b) (r_0_p := r_0_p) (n_1 := n_1) allB_ok m.given (m.rdM 0 rfl (reads_snap hv2)) h).mono (fun _ _ k => ret_free (fun r u => (fr_cons free_cell fr_nil)) k)) ?_); rintro ⟨r5, r6⟩ _
      refine o_mv (st_g rfl rfl) rfl rfl ?_
      refine o_sub (st_g rfl rfl) rfl rfl rfl ?_; intro t7
      refine o_eql (st_g rfl rfl) und3 rfl rfl rfl ?_
      refine o_pickT st rfl rfl rfl ?_
      refine o_as st rfl rfl ?_
      refine c_nil ?_
      exact l_join (r6, (decide (r5 = t7))) (fun a w hE hm => ⟨hE.sub ⟨rfl, trivial⟩, (hm.pick [0, 1] rfl)⟩)
    · refine st_s rfl rfl rfl rfl ?_
      refine st_s rfl rfl rfl rfl ?_
      refine st_s rfl rfl rfl rfl ?_
      refine st_s rfl rfl rfl rfl ?_
      refine st_s rfl rfl rfl rfl ?_
      refine st_s rfl rfl rfl rfl ?_
      refine o_pickF st rfl rfl rfl ?_
      refine o_as st rfl rfl ?_
      refine c_nil ?_
      exact l_join (r_0_p, false) (fun a w hE hm => ⟨hE.sub ⟨rfl, trivial⟩, (hm.pick [0, 1] rfl)⟩)
  · rintro ⟨t68, t69⟩ a w ⟨hE, hm⟩ h
    refine nx_of hE hm h ?_
    clear hE hm h
    refine c_ret ?_
    exact l_end1 Try.results52 (t69, t68) () (rv_t rfl) (fun w m => NewCh.ofB m [0] rfl)

set_option maxRecDepth 100000 in
set_option maxHeartbeats 8000000 in
theorem w_spec_l20Rewrites {w0 : World} {F : Nat → Prop} {b1 : Nat} {v2 : Value} {r_0_b : (List UInt8)} {r_0_p : Int} {n_1 : Int} {κ : ((List GRewrite) × Int) → Prop} (hF : ∀ b, F b → b < w0.heap.size ∧ ¬ feet [cellCh b1 [v2, (.int .i64 r_0_p)] 76] b) (hg : Given [cellCh b1 [v2, (.int .i64 r_0_p)] 76] F w0) (hv2 : Sl elU8 F w0 v2 r_0_b) (h : L_spec_l20Rewrites r_0_b r_0_p n_1 κ) :
    Calls Try.prog 38 #[(.pointer (some ⟨b1, 0, none⟩)), (.int .i64 n_1)] w0 (Ret [cellCh b1 [v2, (.int .i64 r_0_p)] 76] F w0 κ (fun (r : ((List GRewrite) × Int)) (u : Value) => u) (fun (r : ((List GRewrite) × Int)) (u : Value) => [ownCh elGRewrite 28 u r.1, cellCh b1 [v2, (.int .i64 r.2)] 76])) := by
  refine enterS (args := [(.pointer (some ⟨b1, 0, none⟩)), (.int .i64 n_1)]) [cellCh b1 [v2, (.int .i64 r_0_p)] 76] hF hg Try.func38 rfl Try.ntmps38 rfl h ?_
  clear h hF hg
  refine c_seq ?_
  refine c_region ?_
  refine stw (o_asn elGRewrite 28 rfl rfl ?_)
  refine c_nil ?_
  refine l_then ?_
  refine c_seq ?_
  refine c_region ?_
  refine stw (o_bsl (enc := encGRewrite) (qs := []) (cells := []) ([] : (List GRewrite)) flelGRewrite (by intro ρ h; simp only [List.map_toArray, List.map_cons, List.map_nil]) rfl el37 zero28 rfl rfl rfl rfl rfl rfl ?_); intro v6
  refine o_as st rfl rfl ?_
  refine c_nil ?_
  refine l_then ?_
  refine c_seq ?_
  refine c_seq ?_
  refine c_region ?_
  refine o_mv st rfl rfl ?_
  refine pk [2, 0, 1, 3] rfl ?_
  refine stw (o_call (vs := [(.pointer (some ⟨b1, 0, none⟩)), (.int .i64 5)]) (M0 := [cellCh b1 [v2, (.int .i64 r_0_p)] 76]) Try.call51 rfl rfl (by intro w m h; exact (w_spec_l20Rd_pick (F := allB [cellCh b1 [v2, (.int .i64 r_0_p)] 76] w) (r_0_b := r_0_b) (r_0_p := r_0_p) (n_1 := 5) allB_ok m.given (m.rdM 2 rfl (reads_snap hv2)) h).mono (fun _ _ k => ret_free (fun r u => (fr_cons free_cell fr_nil)) k)) ?_); rintro ⟨r8, r9⟩ _
  refine o_as st rfl rfl ?_
  refine c_nil ?_
  refine l_then ?_
  refine c_block ?_
  refine c_loop (σ := (Int × (List GRewrite) × Int)) (fun ((t10, xs12, t15) : (Int × (List GRewrite) × Int)) (a : Act) (w : World) => ∃ (v11 : Value), Has 77 [(0, (.pointer (some ⟨b1, 0, none⟩))), (1, (.int .i64 n_1)), (5, v11), (6, (.int .i64 t15))] a ∧ Mem (gB F [cellCh b1 [v2, (.int .i64 r_0_p)] 76] w0) (feet [cellCh b1 [v2, (.int .i64 r_0_p)] 76]) w0 [cellCh b1 [v2, (.int .i64 t10)] 76, snapCh w0 F, ownCh elGRewrite 28 v11 xs12] w) (fun a w hE hm => ⟨v6, hE.sub ⟨rfl, rfl, rfl, rfl, trivial⟩, (hm.pick [0, 3, 1] rfl)⟩) ?_
  rintro nx16 ⟨t10, xs12, t15⟩ a w ⟨v11, hE, hm⟩ h
  refine nx_of hE hm h ?_
  clear hE hm h
  refine c_seq ?_
  refine c_seq ?_
  refine c_region ?_
  refine o_mv st rfl rfl ?_
  refine o_gtr st rfl rfl rfl ?_
  refine c_nil ?_
  refine l_then ?_
  refine c_cond rfl ?_ ?_
  · refine c_skip ?_
    refine l_then ?_
    refine c_join (σ := ((List GRewrite) × Int)) (fun ((xs122, t125) : ((List GRewrite) × Int)) (a : Act) (w : World) => ∃ (v123 : Value), Has 77 [(0, (.pointer (some ⟨b1, 0, none⟩))), (1, (.int .i64 n_1)), (5, v123), (6, (.int .i64 t15))] a ∧ Mem (gB F [cellCh b1 [v2, (.int .i64 r_0_p)] 76] w0) (feet [cellCh b1 [v2, (.int .i64 r_0_p)] 76]) w0 [cellCh b1 [v2, (.int .i64 t125)] 76, ownCh elGRewrite 28 v123 xs122, snapCh w0 F] w) ?_ ?_
    · intro k126
      refine c_block ?_
      refine c_seq ?_
      refine c_region ?_
      refine o_mv st rfl rfl ?_
      refine stw (o_call (vs := [(.pointer (some ⟨b1, 0, none⟩)), (.int .i64 9)]) (M0 := [cellCh b1 [v2, (.int .i64 t10)] 76]) Try.call51 rfl rfl (by intro w m h; exact (w_spec_l20Rd_pick (F := allB [cellCh b1 [v2, (.int .i64 t10)] 76] w) (r_0_b := r_0_b) (r_0_p := t10) (n_1 := 9) allB_ok m.given (m.rdM 0 rfl (reads_snap hv2)) h).mono (fun _ _ k => ret_free (fun r u => (fr_cons free_cell fr_nil)) k)) ?_); rintro ⟨r17, r18⟩ _
      refine o_add st rfl rfl rfl ?_; intro t19
      refine o_as st rfl rfl ?_
      refine c_nil ?_
      refine l_then ?_
      refine c_seq ?_
      refine c_region ?_
      refine o_mv st rfl rfl ?_
      refine o_sub st rfl rfl rfl ?_; intro t20
      refine o_shl st rfl rfl rfl ?_; intro t21
      refine o_as st rfl rfl ?_
      refine c_nil ?_
      refine l_then ?_
      refine c_join (σ := (Int × Int × Int)) (fun ((t23, t24, t25) : (Int × Int × Int)) (a : Act) (w : World) => ∃ (b22 : Nat), Has 77 [(0, (.pointer (some ⟨b1, 0, none⟩))), (1, (.int .i64 n_1)), (5, v11), (6, (.int .i64 t15)), (9, (.pointer (some ⟨b22, 0, none⟩)))] a ∧ Mem (gB F [cellCh b1 [v2, (.int .i64 r_0_p)] 76] w0) (feet [cellCh b1 [v2, (.int .i64 r_0_p)] 76]) w0 [cellCh b22 [(.int .i64 t23), (.int .i64 t19), (.int .i64 t24), (.int .i64 t19)] 28, cellCh b1 [v2, (.int .i64 t25)] 76, ownCh elGRewrite 28 v11 xs12, snapCh w0 F] w) ?_ ?_
      · intro k26
        refine c_drawQ mixed 22 rfl [snapCh w0 F, ownCh elGRewrite 28 v11 xs12] ?_
        intro Qd hP hQ
        have H393 : ∀ (r27 : Int) (r28 : Int) (t29 : Int) (r30 : Int) (r31 : Int) (t32 : Int) (b33 : Nat), Nx 77 (gB F [cellCh b1 [v2, (.int .i64 r_0_p)] 76] w0) (feet [cellCh b1 [v2, (.int .i64 r_0_p)] 76]) w0 (wpAnyH Try.prog .any (opsAt Try.f38 [1, 1, 0, 1, 0, 0, 1, 0, 0, 1, 1, 0]) Qd (Mem (gB F [cellCh b1 [v2, (.int .i64 r_0_p)] 76] w0) (feet [cellCh b1 [v2, (.int .i64 r_0_p)] 76]) w0 [snapCh w0 F, ownCh elGRewrite 28 v11 xs12]) 0 #[true, true, true, true, true, true, true, true, true, true, true, true, true, true, true, true, true, true, true, true, true, true]) [(0, (.pointer (some ⟨b1, 0, none⟩))), (1, (.int .i64 n_1)), (5, v11), (6, (.int .i64 t15)), (9, (.pointer (some ⟨b33, 0, none⟩)))] [cellCh b33 [(.int .i64 (w64 (t29 * t21))), (.int .i64 t19), (.int .i64 (w64 (t32 * t21))), (.int .i64 t19)] 28, cellCh b1 [v2, (.int .i64 r31)] 76, snapCh w0 F, ownCh elGRewrite 28 v11 xs12] (k26 ((w64 (t29 * t21)), (w64 (t32 * t21)), r31)) := by
          intro r27 r28 t29 r30 r31 t32 b33
          refine d_done (by kernel_rfl) ?_
          exact fun a w hE hm hφ => hQ ((w64 (t29 * t21)), (w64 (t32 * t21)), r31) a w hφ ((fun a w hE hm => ⟨b33, hE.sub ⟨rfl, rfl, rfl, rfl, rfl, trivial⟩, (hm.pick [0, 1, 3, 2] rfl)⟩) a w hE hm)
        have H394 : ∀ (r27 : Int) (r28 : Int) (t29 : Int) (r30 : Int) (r31 : Int) (t32 : Int) (b33 : Nat), Nx 77 (gB F [cellCh b1 [v2, (.int .i64 r_0_p)] 76] w0) (feet [cellCh b1 [v2, (.int .i64 r_0_p)] 76]) w0 (wpAnyH Try.prog .any (opsAt Try.f38 [1, 1, 0, 1, 0, 0, 1, 0, 0, 1, 1, 0]) Qd (Mem (gB F [cellCh b1 [v2, (.int .i64 r_0_p)] 76] w0) (feet [cellCh b1 [v2, (.int .i64 r_0_p)] 76]) w0 [snapCh w0 F, ownCh elGRewrite 28 v11 xs12]) 1 #[true, true, true, true, true, true, true, true, true, true, true, true, true, true, true, true, true, true, true, true, true, false]) [(0, (.pointer (some ⟨b1, 0, none⟩))), (1, (.int .i64 n_1)), (5, v11), (6, (.int .i64 t15)), (42, (.agg #[(.int .i64 (w64 (t29 * t21))), (.int .i64 t19), (.int .i64 (w64 (t32 * t21))), (.int .i64 t19)])), (9, (.pointer (some ⟨b33, 0, none⟩)))] [cellCh b33 [(.int .i64 0), (.int .i64 0), (.int .i64 0), (.int .i64 0)] 28, cellCh b1 [v2, (.int .i64 r31)] 76, snapCh w0 F, ownCh elGRewrite 28 v11 xs12] (k26 ((w64 (t29 * t21)), (w64 (t32 * t21)), r31)) := by
          intro r27 r28 t29 r30 r31 t32 b33
          refine d_one (i := 21) rfl (by kernel_rfl) (o_stc (cs' := [(.int .i64 (w64 (t29 * t21))), (.int .i64 t19), (.int .i64 (w64 (t32 * t21))), (.int .i64 t19)]) 0 rfl rfl rfl ty28 rfl rfl rfl rfl ?_)
          refine d_and (fun w m => m.pick [2, 3] rfl) ?_
          refine pk [0, 1, 2, 3] rfl ?_
          refine re (E' := [(0, (.pointer (some ⟨b1, 0, none⟩))), (1, (.int .i64 n_1)), (5, v11), (6, (.int .i64 t15)), (9, (.pointer (some ⟨b33, 0, none⟩)))]) ⟨rfl, rfl, rfl, rfl, rfl, trivial⟩ ?_
          exact H393 r27 r28 t29 r30 r31 t32 b33
        have H395 : ∀ (r27 : Int) (r28 : Int) (t29 : Int) (r30 : Int) (r31 : Int), Nx 77 (gB F [cellCh b1 [v2, (.int .i64 r_0_p)] 76] w0) (feet [cellCh b1 [v2, (.int .i64 r_0_p)] 76]) w0 (wpAnyH Try.prog .any (opsAt Try.f38 [1, 1, 0, 1, 0, 0, 1, 0, 0, 1, 1, 0]) Qd (Mem (gB F [cellCh b1 [v2, (.int .i64 r_0_p)] 76] w0) (feet [cellCh b1 [v2, (.int .i64 r_0_p)] 76]) w0 [snapCh w0 F, ownCh elGRewrite 28 v11 xs12]) 8 #[true, true, true, true, true, true, true, true, true, true, true, false, false, true, false, true, false, true, false, false, false, false]) [(0, (.pointer (some ⟨b1, 0, none⟩))), (1, (.int .i64 n_1)), (5, v11), (6, (.int .i64 t15)), (36, (.int .i64 t21)), (38, (.int .i64 t21)), (40, (.int .i64 t19)), (31, (.agg #[(.int .i64 (w64 (t29 * t21))), (.int .i64 t19)])), (33, (.int .i64 r30))] [cellCh b1 [v2, (.int .i64 r31)] 76, snapCh w0 F, ownCh elGRewrite 28 v11 xs12] (quoW (w64 ((w64 (128 + r30)) * 256)) t21 (fun t32 => k26 ((w64 (t29 * t21)), (w64 (t32 * t21)), r31))) := by
          intro r27 r28 t29 r30 r31
          refine o_addw (dt 11 (fun w m => m.pick [1, 2] rfl)) rfl rfl rfl ?_
          refine o_mulw (dt 12 (fun w m => m.pick [1, 2] rfl)) rfl rfl rfl ?_
          refine o_quo (dt 14 (fun w m => m.pick [1, 2] rfl)) rfl rfl rfl ?_; intro t32
          refine o_mulw (dt 16 (fun w m => m.pick [1, 2] rfl)) rfl rfl rfl ?_
          refine o_bld (dt 18 (fun w m => m.pick [1, 2] rfl)) (qs := [(0, (.int .i64 (w64 (t32 * t21)))), (1, (.int .i64 t19))]) (cells := [(.int .i64 (w64 (t32 * t21))), (.int .i64 t19)]) (by intro ρ h; simp only [List.map_toArray, List.map_cons, List.map_nil, h (.tmp 39) _ rfl, h (.tmp 40) _ rfl]) rfl bld26 rfl ?_
          refine o_bld (dt 19 (fun w m => m.pick [1, 2] rfl)) (qs := [(0, (.agg #[(.int .i64 (w64 (t29 * t21))), (.int .i64 t19)])), (1, (.agg #[(.int .i64 (w64 (t32 * t21))), (.int .i64 t19)]))]) (cells := [(.int .i64 (w64 (t29 * t21))), (.int .i64 t19), (.int .i64 (w64 (t32 * t21))), (.int .i64 t19)]) (by intro ρ h; simp only [List.map_toArray, List.map_cons, List.map_nil, h (.tmp 31) _ rfl, h (.tmp 41) _ rfl]) rfl bld28 rfl ?_
          refine d_one (i := 20) rfl (by kernel_rfl) (o_alloc rfl [(.int .i64 0), (.int .i64 0), (.int .i64 0), (.int .i64 0)] zero28 ?_); intro b33
          refine d_and (fun w m => m.pick [2, 3] rfl) ?_
          refine pk [0, 1, 2, 3] rfl ?_
          refine re (E' := [(0, (.pointer (some ⟨b1, 0, none⟩))), (1, (.int .i64 n_1)), (5, v11), (6, (.int .i64 t15)), (42, (.agg #[(.int .i64 (w64 (t29 * t21))), (.int .i64 t19), (.int .i64 (w64 (t32 * t21))), (.int .i64 t19)])), (9, (.pointer (some ⟨b33, 0, none⟩)))]) ⟨rfl, rfl, rfl, rfl, rfl, rfl, trivial⟩ ?_
          exact H394 r27 r28 t29 r30 r31 t32 b33
        have H396 : ∀ (r27 : Int) (r28 : Int) (t29 : Int) (b34 : Nat) (r35 : Int) (r36 : Int), Nx 77 (gB F [cellCh b1 [v2, (.int .i64 r_0_p)] 76] w0) (feet [cellCh b1 [v2, (.int .i64 r_0_p)] 76]) w0 (wpAnyH Try.prog .any (opsAt Try.f38 [1, 1, 0, 1, 0, 0, 1, 0, 0, 1, 1, 0]) Qd (Mem (gB F [cellCh b1 [v2, (.int .i64 r_0_p)] 76] w0) (feet [cellCh b1 [v2, (.int .i64 r_0_p)] 76]) w0 [snapCh w0 F, ownCh elGRewrite 28 v11 xs12]) 7 #[true, true, true, true, true, true, true, true, true, true, true, false, false, true, false, true, false, true, false, false, true, false]) [(0, (.pointer (some ⟨b1, 0, none⟩))), (1, (.int .i64 n_1)), (5, v11), (6, (.int .i64 t15)), (36, (.int .i64 t21)), (38, (.int .i64 t21)), (40, (.int .i64 t19)), (31, (.agg #[(.int .i64 (w64 (t29 * t21))), (.int .i64 t19)])), (9, (.pointer (some ⟨b34, 0, none⟩))), (33, (.int .i64 r35))] [cellCh b1 [v2, (.int .i64 r36)] 76, cellCh b34 [(.int .i64 0), (.int .i64 0), (.int .i64 0), (.int .i64 0)] 28, snapCh w0 F, ownCh elGRewrite 28 v11 xs12] (quoW (w64 ((w64 (128 + r35)) * 256)) t21 (fun t37 => k26 ((w64 (t29 * t21)), (w64 (t37 * t21)), r36))) := by
          intro r27 r28 t29 b34 r35 r36
          refine o_addw (dt 11 (fun w m => m.pick [2, 3] rfl)) rfl rfl rfl ?_
          refine o_mulw (dt 12 (fun w m => m.pick [2, 3] rfl)) rfl rfl rfl ?_
          refine o_quo (dt 14 (fun w m => m.pick [2, 3] rfl)) rfl rfl rfl ?_; intro t37
          refine o_mulw (dt 16 (fun w m => m.pick [2, 3] rfl)) rfl rfl rfl ?_
          refine o_bld (dt 18 (fun w m => m.pick [2, 3] rfl)) (qs := [(0, (.int .i64 (w64 (t37 * t21)))), (1, (.int .i64 t19))]) (cells := [(.int .i64 (w64 (t37 * t21))), (.int .i64 t19)]) (by intro ρ h; simp only [List.map_toArray, List.map_cons, List.map_nil, h (.tmp 39) _ rfl, h (.tmp 40) _ rfl]) rfl bld26 rfl ?_
          refine o_bld (dt 19 (fun w m => m.pick [2, 3] rfl)) (qs := [(0, (.agg #[(.int .i64 (w64 (t29 * t21))), (.int .i64 t19)])), (1, (.agg #[(.int .i64 (w64 (t37 * t21))), (.int .i64 t19)]))]) (cells := [(.int .i64 (w64 (t29 * t21))), (.int .i64 t19), (.int .i64 (w64 (t37 * t21))), (.int .i64 t19)]) (by intro ρ h; simp only [List.map_toArray, List.map_cons, List.map_nil, h (.tmp 31) _ rfl, h (.tmp 41) _ rfl]) rfl bld28 rfl ?_
          refine d_one (i := 21) rfl (by kernel_rfl) (o_stc (cs' := [(.int .i64 (w64 (t29 * t21))), (.int .i64 t19), (.int .i64 (w64 (t37 * t21))), (.int .i64 t19)]) 1 rfl rfl rfl ty28 rfl rfl rfl rfl ?_)
          refine d_and (fun w m => m.pick [2, 3] rfl) ?_
          refine pk [1, 0, 2, 3] rfl ?_
          refine re (E' := [(0, (.pointer (some ⟨b1, 0, none⟩))), (1, (.int .i64 n_1)), (5, v11), (6, (.int .i64 t15)), (9, (.pointer (some ⟨b34, 0, none⟩)))]) ⟨rfl, rfl, rfl, rfl, rfl, trivial⟩ ?_
          exact H393 r27 r28 t29 r35 r36 t37 b34
        have H397 : ∀ (r27 : Int) (r28 : Int) (t29 : Int) (b34 : Nat), Nx 77 (gB F [cellCh b1 [v2, (.int .i64 r_0_p)] 76] w0) (feet [cellCh b1 [v2, (.int .i64 r_0_p)] 76]) w0 (wpAnyH Try.prog .any (opsAt Try.f38 [1, 1, 0, 1, 0, 0, 1, 0, 0, 1, 1, 0]) Qd (Mem (gB F [cellCh b1 [v2, (.int .i64 r_0_p)] 76] w0) (feet [cellCh b1 [v2, (.int .i64 r_0_p)] 76]) w0 [snapCh w0 F, ownCh elGRewrite 28 v11 xs12]) 8 #[true, true, true, true, true, true, true, true, true, true, false, false, false, true, false, true, false, true, false, false, true, false]) [(0, (.pointer (some ⟨b1, 0, none⟩))), (1, (.int .i64 n_1)), (5, v11), (6, (.int .i64 t15)), (32, (.pointer (some ⟨b1, 0, none⟩))), (36, (.int .i64 t21)), (38, (.int .i64 t21)), (40, (.int .i64 t19)), (31, (.agg #[(.int .i64 (w64 (t29 * t21))), (.int .i64 t19)])), (9, (.pointer (some ⟨b34, 0, none⟩)))] [cellCh b34 [(.int .i64 0), (.int .i64 0), (.int .i64 0), (.int .i64 0)] 28, cellCh b1 [v2, (.int .i64 r28)] 76, snapCh w0 F, ownCh elGRewrite 28 v11 xs12] (L_spec_l20Rd_pick r_0_b r28 128 (fun (r35, r36) => quoW (w64 ((w64 (128 + r35)) * 256)) t21 (fun t37 => k26 ((w64 (t29 * t21)), (w64 (t37 * t21)), r36)))) := by
          intro r27 r28 t29 b34
          refine pk [1, 0, 2, 3] rfl ?_
          refine d_one (i := 10) rfl (by kernel_rfl) (o_call (vs := [(.pointer (some ⟨b1, 0, none⟩)), (.int .i64 128)]) (M0 := [cellCh b1 [v2, (.int .i64 r28)] 76]) Try.call51 rfl rfl (by intro w m h; exact (w_spec_l20Rd_pick (F := allB [cellCh b1 [v2, (.int .i64 r28)] 76] w) (r_0_b := r_0_b) (r_0_p := r28) (n_1 := 128) allB_ok m.given (m.rdM 1 rfl (reads_snap hv2)) h).mono (fun _ _ k => ret_free (fun r u => (fr_cons free_cell fr_nil)) k)) ?_); rintro ⟨r35, r36⟩ _
          refine d_and (fun w m => m.pick [2, 3] rfl) ?_
          refine pk [0, 1, 2, 3] rfl ?_
          refine re (E' := [(0, (.pointer (some ⟨b1, 0, none⟩))), (1, (.int .i64 n_1)), (5, v11), (6, (.int .i64 t15)), (36, (.int .i64 t21)), (38, (.int .i64 t21)), (40, (.int .i64 t19)), (31, (.agg #[(.int .i64 (w64 (t29 * t21))), (.int .i64 t19)])), (9, (.pointer (some ⟨b34, 0, none⟩))), (33, (.int .i64 r35))]) ⟨rfl, rfl, rfl, rfl, rfl, rfl, rfl, rfl, rfl, rfl, trivial⟩ ?_
          exact H396 r27 r28 t29 b34 r35 r36
        have H398 : ∀ (r27 : Int) (r28 : Int), Nx 77 (gB F [cellCh b1 [v2, (.int .i64 r_0_p)] 76] w0) (feet [cellCh b1 [v2, (.int .i64 r_0_p)] 76]) w0 (wpAnyH Try.prog .any (opsAt Try.f38 [1, 1, 0, 1, 0, 0, 1, 0, 0, 1, 1, 0]) Qd (Mem (gB F [cellCh b1 [v2, (.int .i64 r_0_p)] 76] w0) (feet [cellCh b1 [v2, (.int .i64 r_0_p)] 76]) w0 [snapCh w0 F, ownCh elGRewrite 28 v11 xs12]) 13 #[true, true, false, true, false, true, false, true, false, true, false, false, false, true, false, true, false, true, false, false, false, false]) [(0, (.pointer (some ⟨b1, 0, none⟩))), (1, (.int .i64 n_1)), (5, v11), (6, (.int .i64 t15)), (26, (.int .i64 t21)), (28, (.int .i64 t21)), (30, (.int .i64 t19)), (32, (.pointer (some ⟨b1, 0, none⟩))), (36, (.int .i64 t21)), (38, (.int .i64 t21)), (40, (.int .i64 t19)), (24, (.int .i64 r27))] [cellCh b1 [v2, (.int .i64 r28)] 76, snapCh w0 F, ownCh elGRewrite 28 v11 xs12] (quoW (w64 (r27 * 256)) t21 (fun t29 => L_spec_l20Rd_pick r_0_b r28 128 (fun (r30, r31) => quoW (w64 ((w64 (128 + r30)) * 256)) t21 (fun t32 => k26 ((w64 (t29 * t21)), (w64 (t32 * t21)), r31))))) := by
          intro r27 r28
          refine o_mulw (dt 2 (fun w m => m.pick [1, 2] rfl)) rfl rfl rfl ?_
          refine o_quo (dt 4 (fun w m => m.pick [1, 2] rfl)) rfl rfl rfl ?_; intro t29
          refine o_mulw (dt 6 (fun w m => m.pick [1, 2] rfl)) rfl rfl rfl ?_
          refine o_bld (dt 8 (fun w m => m.pick [1, 2] rfl)) (qs := [(0, (.int .i64 (w64 (t29 * t21)))), (1, (.int .i64 t19))]) (cells := [(.int .i64 (w64 (t29 * t21))), (.int .i64 t19)]) (by intro ρ h; simp only [List.map_toArray, List.map_cons, List.map_nil, h (.tmp 29) _ rfl, h (.tmp 30) _ rfl]) rfl bld26 rfl ?_
          refine d_two (i := 10) (j := 20) rfl rfl (by kernel_rfl) ?_ ?_
          · intro o ho; cases ho
            refine o_call (vs := [(.pointer (some ⟨b1, 0, none⟩)), (.int .i64 128)]) (M0 := [cellCh b1 [v2, (.int .i64 r28)] 76]) Try.call51 rfl rfl (by intro w m h; exact (w_spec_l20Rd_pick (F := allB [cellCh b1 [v2, (.int .i64 r28)] 76] w) (r_0_b := r_0_b) (r_0_p := r28) (n_1 := 128) allB_ok m.given (m.rdM 0 rfl (reads_snap hv2)) h).mono (fun _ _ k => ret_free (fun r u => (fr_cons free_cell fr_nil)) k)) ?_; rintro ⟨r30, r31⟩ _
            refine d_and (fun w m => m.pick [1, 2] rfl) ?_
            refine pk [0, 1, 2] rfl ?_
            refine re (E' := [(0, (.pointer (some ⟨b1, 0, none⟩))), (1, (.int .i64 n_1)), (5, v11), (6, (.int .i64 t15)), (36, (.int .i64 t21)), (38, (.int .i64 t21)), (40, (.int .i64 t19)), (31, (.agg #[(.int .i64 (w64 (t29 * t21))), (.int .i64 t19)])), (33, (.int .i64 r30))]) ⟨rfl, rfl, rfl, rfl, rfl, rfl, rfl, rfl, rfl, trivial⟩ ?_
            exact H395 r27 r28 t29 r30 r31
          · intro o ho; cases ho
            refine o_alloc rfl [(.int .i64 0), (.int .i64 0), (.int .i64 0), (.int .i64 0)] zero28 ?_; intro b34
            refine d_and (fun w m => m.pick [2, 3] rfl) ?_
            refine pk [0, 1, 2, 3] rfl ?_
            refine re (E' := [(0, (.pointer (some ⟨b1, 0, none⟩))), (1, (.int .i64 n_1)), (5, v11), (6, (.int .i64 t15)), (32, (.pointer (some ⟨b1, 0, none⟩))), (36, (.int .i64 t21)), (38, (.int .i64 t21)), (40, (.int .i64 t19)), (31, (.agg #[(.int .i64 (w64 (t29 * t21))), (.int .i64 t19)])), (9, (.pointer (some ⟨b34, 0, none⟩)))]) ⟨rfl, rfl, rfl, rfl, rfl, rfl, rfl, rfl, rfl, rfl, trivial⟩ ?_
            exact H397 r27 r28 t29 b34
        have H399 : ∀ (b38 : Nat) (r39 : Int) (r40 : Int), Nx 77 (gB F [cellCh b1 [v2, (.int .i64 r_0_p)] 76] w0) (feet [cellCh b1 [v2, (.int .i64 r_0_p)] 76]) w0 (wpAnyH Try.prog .any (opsAt Try.f38 [1, 1, 0, 1, 0, 0, 1, 0, 0, 1, 1, 0]) Qd (Mem (gB F [cellCh b1 [v2, (.int .i64 r_0_p)] 76] w0) (feet [cellCh b1 [v2, (.int .i64 r_0_p)] 76]) w0 [snapCh w0 F, ownCh elGRewrite 28 v11 xs12]) 12 #[true, true, false, true, false, true, false, true, false, true, false, false, false, true, false, true, false, true, false, false, true, false]) [(0, (.pointer (some ⟨b1, 0, none⟩))), (1, (.int .i64 n_1)), (5, v11), (6, (.int .i64 t15)), (26, (.int .i64 t21)), (28, (.int .i64 t21)), (30, (.int .i64 t19)), (32, (.pointer (some ⟨b1, 0, none⟩))), (36, (.int .i64 t21)), (38, (.int .i64 t21)), (40, (.int .i64 t19)), (9, (.pointer (some ⟨b38, 0, none⟩))), (24, (.int .i64 r39))] [cellCh b1 [v2, (.int .i64 r40)] 76, cellCh b38 [(.int .i64 0), (.int .i64 0), (.int .i64 0), (.int .i64 0)] 28, snapCh w0 F, ownCh elGRewrite 28 v11 xs12] (quoW (w64 (r39 * 256)) t21 (fun t41 => L_spec_l20Rd_pick r_0_b r40 128 (fun (r42, r43) => quoW (w64 ((w64 (128 + r42)) * 256)) t21 (fun t37 => k26 ((w64 (t41 * t21)), (w64 (t37 * t21)), r43))))) := by
          intro b38 r39 r40
          refine o_mulw (dt 2 (fun w m => m.pick [2, 3] rfl)) rfl rfl rfl ?_
          refine o_quo (dt 4 (fun w m => m.pick [2, 3] rfl)) rfl rfl rfl ?_; intro t41
          refine o_mulw (dt 6 (fun w m => m.pick [2, 3] rfl)) rfl rfl rfl ?_
          refine o_bld (dt 8 (fun w m => m.pick [2, 3] rfl)) (qs := [(0, (.int .i64 (w64 (t41 * t21)))), (1, (.int .i64 t19))]) (cells := [(.int .i64 (w64 (t41 * t21))), (.int .i64 t19)]) (by intro ρ h; simp only [List.map_toArray, List.map_cons, List.map_nil, h (.tmp 29) _ rfl, h (.tmp 30) _ rfl]) rfl bld26 rfl ?_
          refine d_one (i := 10) rfl (by kernel_rfl) (o_call (vs := [(.pointer (some ⟨b1, 0, none⟩)), (.int .i64 128)]) (M0 := [cellCh b1 [v2, (.int .i64 r40)] 76]) Try.call51 rfl rfl (by intro w m h; exact (w_spec_l20Rd_pick (F := allB [cellCh b1 [v2, (.int .i64 r40)] 76] w) (r_0_b := r_0_b) (r_0_p := r40) (n_1 := 128) allB_ok m.given (m.rdM 1 rfl (reads_snap hv2)) h).mono (fun _ _ k => ret_free (fun r u => (fr_cons free_cell fr_nil)) k)) ?_); rintro ⟨r42, r43⟩ _
          refine d_and (fun w m => m.pick [2, 3] rfl) ?_
          refine pk [0, 1, 2, 3] rfl ?_
          refine re (E' := [(0, (.pointer (some ⟨b1, 0, none⟩))), (1, (.int .i64 n_1)), (5, v11), (6, (.int .i64 t15)), (36, (.int .i64 t21)), (38, (.int .i64 t21)), (40, (.int .i64 t19)), (31, (.agg #[(.int .i64 (w64 (t41 * t21))), (.int .i64 t19)])), (9, (.pointer (some ⟨b38, 0, none⟩))), (33, (.int .i64 r42))]) ⟨rfl, rfl, rfl, rfl, rfl, rfl, rfl, rfl, rfl, rfl, trivial⟩ ?_
          exact H396 r39 r40 t41 b38 r42 r43
        have H400 : ∀ (b38 : Nat), Nx 77 (gB F [cellCh b1 [v2, (.int .i64 r_0_p)] 76] w0) (feet [cellCh b1 [v2, (.int .i64 r_0_p)] 76]) w0 (wpAnyH Try.prog .any (opsAt Try.f38 [1, 1, 0, 1, 0, 0, 1, 0, 0, 1, 1, 0]) Qd (Mem (gB F [cellCh b1 [v2, (.int .i64 r_0_p)] 76] w0) (feet [cellCh b1 [v2, (.int .i64 r_0_p)] 76]) w0 [snapCh w0 F, ownCh elGRewrite 28 v11 xs12]) 13 #[true, false, false, true, false, true, false, true, false, true, false, false, false, true, false, true, false, true, false, false, true, false]) [(0, (.pointer (some ⟨b1, 0, none⟩))), (1, (.int .i64 n_1)), (5, v11), (6, (.int .i64 t15)), (23, (.pointer (some ⟨b1, 0, none⟩))), (26, (.int .i64 t21)), (28, (.int .i64 t21)), (30, (.int .i64 t19)), (32, (.pointer (some ⟨b1, 0, none⟩))), (36, (.int .i64 t21)), (38, (.int .i64 t21)), (40, (.int .i64 t19)), (9, (.pointer (some ⟨b38, 0, none⟩)))] [cellCh b38 [(.int .i64 0), (.int .i64 0), (.int .i64 0), (.int .i64 0)] 28, cellCh b1 [v2, (.int .i64 r18)] 76, snapCh w0 F, ownCh elGRewrite 28 v11 xs12] (L_spec_l20Rd_pick r_0_b r18 128 (fun (r39, r40) => quoW (w64 (r39 * 256)) t21 (fun t41 => L_spec_l20Rd_pick r_0_b r40 128 (fun (r42, r43) => quoW (w64 ((w64 (128 + r42)) * 256)) t21 (fun t37 => k26 ((w64 (t41 * t21)), (w64 (t37 * t21)), r43)))))) := by
          intro b38
          refine pk [1, 0, 2, 3] rfl ?_
          refine d_one (i := 1) rfl (by kernel_rfl) (o_call (vs := [(.pointer (some ⟨b1, 0, none⟩)), (.int .i64 128)]) (M0 := [cellCh b1 [v2, (.int .i64 r18)] 76]) Try.call51 rfl rfl (by intro w m h; exact (w_spec_l20Rd_pick (F := allB [cellCh b1 [v2, (.int .i64 r18)] 76] w) (r_0_b := r_0_b) (r_0_p := r18) (n_1 := 128) allB_ok m.given (m.rdM 1 rfl (reads_snap hv2)) h).mono (fun _ _ k => ret_free (fun r u => (fr_cons free_cell fr_nil)) k)) ?_); rintro ⟨r39, r40⟩ _
          refine d_and (fun w m => m.pick [2, 3] rfl) ?_
          refine pk [0, 1, 2, 3] rfl ?_
          refine re (E' := [(0, (.pointer (some ⟨b1, 0, none⟩))), (1, (.int .i64 n_1)), (5, v11), (6, (.int .i64 t15)), (26, (.int .i64 t21)), (28, (.int .i64 t21)), (30, (.int .i64 t19)), (32, (.pointer (some ⟨b1, 0, none⟩))), (36, (.int .i64 t21)), (38, (.int .i64 t21)), (40, (.int .i64 t19)), (9, (.pointer (some ⟨b38, 0, none⟩))), (24, (.int .i64 r39))]) ⟨rfl, rfl, rfl, rfl, rfl, rfl, rfl, rfl, rfl, rfl, rfl, rfl, rfl, trivial⟩ ?_
          exact H399 b38 r39 r40
        refine o_mv (dt 0 (fun w m => m.pick [1, 2] rfl)) rfl rfl ?_
        refine o_mv (dt 3 (fun w m => m.pick [1, 2] rfl)) rfl rfl ?_
        refine o_mv (dt 5 (fun w m => m.pick [1, 2] rfl)) rfl rfl ?_
        refine o_mv (dt 7 (fun w m => m.pick [1, 2] rfl)) rfl rfl ?_
        refine o_mv (dt 9 (fun w m => m.pick [1, 2] rfl)) rfl rfl ?_
        refine o_mv (dt 13 (fun w m => m.pick [1, 2] rfl)) rfl rfl ?_
        refine o_mv (dt 15 (fun w m => m.pick [1, 2] rfl)) rfl rfl ?_
        refine o_mv (dt 17 (fun w m => m.pick [1, 2] rfl)) rfl rfl ?_
        refine d_two (i := 1) (j := 20) rfl rfl (by kernel_rfl) ?_ ?_
        · intro o ho; cases ho
          refine o_call (vs := [(.pointer (some ⟨b1, 0, none⟩)), (.int .i64 128)]) (M0 := [cellCh b1 [v2, (.int .i64 r18)] 76]) Try.call51 rfl rfl (by intro w m h; exact (w_spec_l20Rd_pick (F := allB [cellCh b1 [v2, (.int .i64 r18)] 76] w) (r_0_b := r_0_b) (r_0_p := r18) (n_1 := 128) allB_ok m.given (m.rdM 0 rfl (reads_snap hv2)) h).mono (fun _ _ k => ret_free (fun r u => (fr_cons free_cell fr_nil)) k)) ?_; rintro ⟨r27, r28⟩ _
          refine d_and (fun w m => m.pick [1, 2] rfl) ?_
          refine pk [0, 1, 2] rfl ?_
          refine re (E' := [(0, (.pointer (some ⟨b1, 0, none⟩))), (1, (.int .i64 n_1)), (5, v11), (6, (.int .i64 t15)), (26, (.int .i64 t21)), (28, (.int .i64 t21)), (30, (.int .i64 t19)), (32, (.pointer (some ⟨b1, 0, none⟩))), (36, (.int .i64 t21)), (38, (.int .i64 t21)), (40, (.int .i64 t19)), (24, (.int .i64 r27))]) ⟨rfl, rfl, rfl, rfl, rfl, rfl, rfl, rfl, rfl, rfl, rfl, rfl, trivial⟩ ?_
          exact H398 r27 r28
        · intro o ho; cases ho
          refine o_alloc rfl [(.int .i64 0), (.int .i64 0), (.int .i64 0), (.int .i64 0)] zero28 ?_; intro b38
          refine d_and (fun w m => m.pick [2, 3] rfl) ?_
          refine pk [0, 1, 2, 3] rfl ?_
          refine re (E' := [(0, (.pointer (some ⟨b1, 0, none⟩))), (1, (.int .i64 n_1)), (5, v11), (6, (.int .i64 t15)), (23, (.pointer (some ⟨b1, 0, none⟩))), (26, (.int .i64 t21)), (28, (.int .i64 t21)), (30, (.int .i64 t19)), (32, (.pointer (some ⟨b1, 0, none⟩))), (36, (.int .i64 t21)), (38, (.int .i64 t21)), (40, (.int .i64 t19)), (9, (.pointer (some ⟨b38, 0, none⟩)))]) ⟨rfl, rfl, rfl, rfl, rfl, rfl, rfl, rfl, rfl, rfl, rfl, rfl, rfl, trivial⟩ ?_
          exact H400 b38
      · rintro ⟨t23, t24, t25⟩ a w ⟨b22, hE, hm⟩ h
        refine nx_of hE hm h ?_
        clear hE hm h
        refine c_join (σ := Bool) (fun (t44 : Bool) (a : Act) (w : World) => Has 77 [(0, (.pointer (some ⟨b1, 0, none⟩))), (1, (.int .i64 n_1)), (5, v11), (6, (.int .i64 t15)), (9, (.pointer (some ⟨b22, 0, none⟩))), (49, (.bool t44))] a ∧ Mem (gB F [cellCh b1 [v2, (.int .i64 r_0_p)] 76] w0) (feet [cellCh b1 [v2, (.int .i64 r_0_p)] 76]) w0 [cellCh b22 [(.int .i64 t23), (.int .i64 t19), (.int .i64 t24), (.int .i64 t19)] 28, cellCh b1 [v2, (.int .i64 t25)] 76, ownCh elGRewrite 28 v11 xs12, snapCh w0 F] w) ?_ ?_
        · intro k45
          refine c_drawQ mixed 7 rfl [cellCh b22 [(.int .i64 t23), (.int .i64 t19), (.int .i64 t24), (.int .i64 t19)] 28, cellCh b1 [v2, (.int .i64 t25)] 76, ownCh elGRewrite 28 v11 xs12, snapCh w0 F] ?_
          intro Qd hP hQ
          have H402 : ∀ (v46 : Value) (v47 : Value) (v49 : Value) (v50 : Value) (r52 : Bool), Nx 77 (gB F [cellCh b1 [v2, (.int .i64 r_0_p)] 76] w0) (feet [cellCh b1 [v2, (.int .i64 r_0_p)] 76]) w0 (wpAnyH Try.prog .any (opsAt Try.f38 [1, 1, 0, 1, 0, 0, 1, 0, 0, 1, 1, 1, 0]) Qd (Mem (gB F [cellCh b1 [v2, (.int .i64 r_0_p)] 76] w0) (feet [cellCh b1 [v2, (.int .i64 r_0_p)] 76]) w0 [cellCh b22 [(.int .i64 t23), (.int .i64 t19), (.int .i64 t24), (.int .i64 t19)] 28, cellCh b1 [v2, (.int .i64 t25)] 76, ownCh elGRewrite 28 v11 xs12, snapCh w0 F]) 0 #[true, true, true, true, true, true, true]) [(0, (.pointer (some ⟨b1, 0, none⟩))), (1, (.int .i64 n_1)), (5, v11), (6, (.int .i64 t15)), (9, (.pointer (some ⟨b22, 0, none⟩))), (49, (.bool r52))] [cellCh b22 [(.int .i64 t23), (.int .i64 t19), (.int .i64 t24), (.int .i64 t19)] 28, cellCh b1 [v2, (.int .i64 t25)] 76, ownCh elGRewrite 28 v11 xs12, snapCh w0 F] (k45 r52) := by
            intro v46 v47 v49 v50 r52
            refine d_done (by kernel_rfl) ?_
            exact fun a w hE hm hφ => hQ r52 a w hφ ((fun a w hE hm => ⟨hE.sub ⟨rfl, rfl, rfl, rfl, rfl, rfl, trivial⟩, (hm.pick [0, 1, 2, 3] rfl)⟩) a w hE hm)
          have H403 : ∀ (v46 : Value) (v47 : Value) (v49 : Value) (v50 : Value), Nx 77 (gB F [cellCh b1 [v2, (.int .i64 r_0_p)] 76] w0) (feet [cellCh b1 [v2, (.int .i64 r_0_p)] 76]) w0 (wpAnyH Try.prog .any (opsAt Try.f38 [1, 1, 0, 1, 0, 0, 1, 0, 0, 1, 1, 1, 0]) Qd (Mem (gB F [cellCh b1 [v2, (.int .i64 r_0_p)] 76] w0) (feet [cellCh b1 [v2, (.int .i64 r_0_p)] 76]) w0 [cellCh b22 [(.int .i64 t23), (.int .i64 t19), (.int .i64 t24), (.int .i64 t19)] 28, cellCh b1 [v2, (.int .i64 t25)] 76, ownCh elGRewrite 28 v11 xs12, snapCh w0 F]) 1 #[true, true, true, true, true, true, false]) [(0, (.pointer (some ⟨b1, 0, none⟩))), (1, (.int .i64 n_1)), (5, v11), (6, (.int .i64 t15)), (9, (.pointer (some ⟨b22, 0, none⟩))), (48, v50)] [ownCh elGRewrite 28 v50 ((([]) ++ xs12) ++ ([(GRewrite.mk (GPrefix.mk t23 t19) (GPrefix.mk t24 t19))])), cellCh b22 [(.int .i64 t23), (.int .i64 t19), (.int .i64 t24), (.int .i64 t19)] 28, cellCh b1 [v2, (.int .i64 t25)] 76, ownCh elGRewrite 28 v11 xs12, snapCh w0 F] (L_spec_RewritesValid ((([]) ++ xs12) ++ ([(GRewrite.mk (GPrefix.mk t23 t19) (GPrefix.mk t24 t19))])) (fun r52 => k45 r52)) := by
            intro v46 v47 v49 v50
            refine d_one (i := 6) rfl (by kernel_rfl) (o_callP (vs := [v50]) Try.call13 rfl rfl (by intro w m h; exact (w_spec_RewritesValid (F := allB [] w) (list_0 := ((([]) ++ xs12) ++ ([(GRewrite.mk (GPrefix.mk t23 t19) (GPrefix.mk t24 t19))]))) allB_ok (m.rd0 0 rfl reads_own) h).mono (fun _ _ k => ret_free (fun r u => fr_nil) k)) ?_); rintro r52 _
            refine d_and (fun w m => m.pick [1, 2, 3, 4] rfl) ?_
            refine pk [1, 2, 3, 4] rfl ?_
            refine re (E' := [(0, (.pointer (some ⟨b1, 0, none⟩))), (1, (.int .i64 n_1)), (5, v11), (6, (.int .i64 t15)), (9, (.pointer (some ⟨b22, 0, none⟩))), (49, (.bool r52))]) ⟨rfl, rfl, rfl, rfl, rfl, rfl, trivial⟩ ?_
            exact H402 v46 v47 v49 v50 r52
          have H404 : ∀ (v46 : Value) (v47 : Value) (v49 : Value), Nx 77 (gB F [cellCh b1 [v2, (.int .i64 r_0_p)] 76] w0) (feet [cellCh b1 [v2, (.int .i64 r_0_p)] 76]) w0 (wpAnyH Try.prog .any (opsAt Try.f38 [1, 1, 0, 1, 0, 0, 1, 0, 0, 1, 1, 1, 0]) Qd (Mem (gB F [cellCh b1 [v2, (.int .i64 r_0_p)] 76] w0) (feet [cellCh b1 [v2, (.int .i64 r_0_p)] 76]) w0 [cellCh b22 [(.int .i64 t23), (.int .i64 t19), (.int .i64 t24), (.int .i64 t19)] 28, cellCh b1 [v2, (.int .i64 t25)] 76, ownCh elGRewrite 28 v11 xs12, snapCh w0 F]) 2 #[true, true, true, true, true, false, false]) [(0, (.pointer (some ⟨b1, 0, none⟩))), (1, (.int .i64 n_1)), (5, v11), (6, (.int .i64 t15)), (9, (.pointer (some ⟨b22, 0, none⟩))), (45, v47), (47, v49)] [ownCh elGRewrite 28 v49 ([(GRewrite.mk (GPrefix.mk t23 t19) (GPrefix.mk t24 t19))]), ownCh elGRewrite 28 v47 (([]) ++ xs12), cellCh b22 [(.int .i64 t23), (.int .i64 t19), (.int .i64 t24), (.int .i64 t19)] 28, cellCh b1 [v2, (.int .i64 t25)] 76, ownCh elGRewrite 28 v11 xs12, snapCh w0 F] (appW (([]) ++ xs12) ([(GRewrite.mk (GPrefix.mk t23 t19) (GPrefix.mk t24 t19))]) (fun _ => L_spec_RewritesValid ((([]) ++ xs12) ++ ([(GRewrite.mk (GPrefix.mk t23 t19) (GPrefix.mk t24 t19))])) (fun r52 => k45 r52))) := by
            intro v46 v47 v49
            refine d_one (i := 5) rfl (by kernel_rfl) (o_app 1 0 rfl rfl (src_flat flelGRewrite reads_own) rfl rfl rfl el37 rfl zero28 rfl rfl ?_); intro v50
            refine d_and (fun w m => m.pick [2, 3, 4, 5] rfl) ?_
            refine pk [1, 2, 3, 4, 5] rfl ?_
            refine re (E' := [(0, (.pointer (some ⟨b1, 0, none⟩))), (1, (.int .i64 n_1)), (5, v11), (6, (.int .i64 t15)), (9, (.pointer (some ⟨b22, 0, none⟩))), (48, v50)]) ⟨rfl, rfl, rfl, rfl, rfl, rfl, trivial⟩ ?_
            exact H403 v46 v47 v49 v50
          have H405 : ∀ (v46 : Value) (v47 : Value), Nx 77 (gB F [cellCh b1 [v2, (.int .i64 r_0_p)] 76] w0) (feet [cellCh b1 [v2, (.int .i64 r_0_p)] 76]) w0 (wpAnyH Try.prog .any (opsAt Try.f38 [1, 1, 0, 1, 0, 0, 1, 0, 0, 1, 1, 1, 0]) Qd (Mem (gB F [cellCh b1 [v2, (.int .i64 r_0_p)] 76] w0) (feet [cellCh b1 [v2, (.int .i64 r_0_p)] 76]) w0 [cellCh b22 [(.int .i64 t23), (.int .i64 t19), (.int .i64 t24), (.int .i64 t19)] 28, cellCh b1 [v2, (.int .i64 t25)] 76, ownCh elGRewrite 28 v11 xs12, snapCh w0 F]) 3 #[true, true, true, true, false, false, false]) [(0, (.pointer (some ⟨b1, 0, none⟩))), (1, (.int .i64 n_1)), (5, v11), (6, (.int .i64 t15)), (9, (.pointer (some ⟨b22, 0, none⟩))), (46, (.agg #[(.int .i64 t23), (.int .i64 t19), (.int .i64 t24), (.int .i64 t19)])), (45, v47)] [ownCh elGRewrite 28 v47 (([]) ++ xs12), cellCh b22 [(.int .i64 t23), (.int .i64 t19), (.int .i64 t24), (.int .i64 t19)] 28, cellCh b1 [v2, (.int .i64 t25)] 76, ownCh elGRewrite 28 v11 xs12, snapCh w0 F] (appW (([]) ++ xs12) ([(GRewrite.mk (GPrefix.mk t23 t19) (GPrefix.mk t24 t19))]) (fun _ => L_spec_RewritesValid ((([]) ++ xs12) ++ ([(GRewrite.mk (GPrefix.mk t23 t19) (GPrefix.mk t24 t19))])) (fun r52 => k45 r52))) := by
            intro v46 v47
            refine d_one (i := 4) rfl (by kernel_rfl) (o_bsl (enc := encGRewrite) (qs := [(0, (.agg #[(.int .i64 t23), (.int .i64 t19), (.int .i64 t24), (.int .i64 t19)]))]) (cells := [(.int .i64 t23), (.int .i64 t19), (.int .i64 t24), (.int .i64 t19)]) ([(GRewrite.mk (GPrefix.mk t23 t19) (GPrefix.mk t24 t19))]) flelGRewrite (by intro ρ h; simp only [List.map_toArray, List.map_cons, List.map_nil, h (.tmp 46) _ rfl]) rfl el37 zero28 rfl rfl rfl rfl rfl rfl ?_); intro v49
            refine d_and (fun w m => m.pick [2, 3, 4, 5] rfl) ?_
            refine pk [0, 1, 2, 3, 4, 5] rfl ?_
            refine re (E' := [(0, (.pointer (some ⟨b1, 0, none⟩))), (1, (.int .i64 n_1)), (5, v11), (6, (.int .i64 t15)), (9, (.pointer (some ⟨b22, 0, none⟩))), (45, v47), (47, v49)]) ⟨rfl, rfl, rfl, rfl, rfl, rfl, rfl, trivial⟩ ?_
            exact H404 v46 v47 v49
          have H406 : ∀ (v46 : Value) (v53 : Value), Nx 77 (gB F [cellCh b1 [v2, (.int .i64 r_0_p)] 76] w0) (feet [cellCh b1 [v2, (.int .i64 r_0_p)] 76]) w0 (wpAnyH Try.prog .any (opsAt Try.f38 [1, 1, 0, 1, 0, 0, 1, 0, 0, 1, 1, 1, 0]) Qd (Mem (gB F [cellCh b1 [v2, (.int .i64 r_0_p)] 76] w0) (feet [cellCh b1 [v2, (.int .i64 r_0_p)] 76]) w0 [cellCh b22 [(.int .i64 t23), (.int .i64 t19), (.int .i64 t24), (.int .i64 t19)] 28, cellCh b1 [v2, (.int .i64 t25)] 76, ownCh elGRewrite 28 v11 xs12, snapCh w0 F]) 3 #[true, true, false, true, true, false, false]) [(0, (.pointer (some ⟨b1, 0, none⟩))), (1, (.int .i64 n_1)), (5, v11), (6, (.int .i64 t15)), (9, (.pointer (some ⟨b22, 0, none⟩))), (44, v11), (43, v46), (47, v53)] [ownCh elGRewrite 28 v53 ([(GRewrite.mk (GPrefix.mk t23 t19) (GPrefix.mk t24 t19))]), ownCh elGRewrite 28 v46 ([]), cellCh b22 [(.int .i64 t23), (.int .i64 t19), (.int .i64 t24), (.int .i64 t19)] 28, cellCh b1 [v2, (.int .i64 t25)] 76, ownCh elGRewrite 28 v11 xs12, snapCh w0 F] (appW ([]) xs12 (fun _ => appW (([]) ++ xs12) ([(GRewrite.mk (GPrefix.mk t23 t19) (GPrefix.mk t24 t19))]) (fun _ => L_spec_RewritesValid ((([]) ++ xs12) ++ ([(GRewrite.mk (GPrefix.mk t23 t19) (GPrefix.mk t24 t19))])) (fun r52 => k45 r52)))) := by
            intro v46 v53
            refine d_one (i := 2) rfl (by kernel_rfl) (o_app 1 4 rfl rfl (src_flat flelGRewrite reads_own) rfl rfl rfl el37 rfl zero28 rfl rfl ?_); intro v54
            refine d_and (fun w m => m.pick [2, 3, 4, 5] rfl) ?_
            refine pk [0, 1, 2, 3, 4, 5] rfl ?_
            refine re (E' := [(0, (.pointer (some ⟨b1, 0, none⟩))), (1, (.int .i64 n_1)), (5, v11), (6, (.int .i64 t15)), (9, (.pointer (some ⟨b22, 0, none⟩))), (45, v54), (47, v53)]) ⟨rfl, rfl, rfl, rfl, rfl, rfl, rfl, trivial⟩ ?_
            exact H404 v46 v54 v53
          have H407 : ∀ (v46 : Value), Nx 77 (gB F [cellCh b1 [v2, (.int .i64 r_0_p)] 76] w0) (feet [cellCh b1 [v2, (.int .i64 r_0_p)] 76]) w0 (wpAnyH Try.prog .any (opsAt Try.f38 [1, 1, 0, 1, 0, 0, 1, 0, 0, 1, 1, 1, 0]) Qd (Mem (gB F [cellCh b1 [v2, (.int .i64 r_0_p)] 76] w0) (feet [cellCh b1 [v2, (.int .i64 r_0_p)] 76]) w0 [cellCh b22 [(.int .i64 t23), (.int .i64 t19), (.int .i64 t24), (.int .i64 t19)] 28, cellCh b1 [v2, (.int .i64 t25)] 76, ownCh elGRewrite 28 v11 xs12, snapCh w0 F]) 4 #[true, true, false, true, false, false, false]) [(0, (.pointer (some ⟨b1, 0, none⟩))), (1, (.int .i64 n_1)), (5, v11), (6, (.int .i64 t15)), (9, (.pointer (some ⟨b22, 0, none⟩))), (44, v11), (46, (.agg #[(.int .i64 t23), (.int .i64 t19), (.int .i64 t24), (.int .i64 t19)])), (43, v46)] [ownCh elGRewrite 28 v46 ([]), cellCh b22 [(.int .i64 t23), (.int .i64 t19), (.int .i64 t24), (.int .i64 t19)] 28, cellCh b1 [v2, (.int .i64 t25)] 76, ownCh elGRewrite 28 v11 xs12, snapCh w0 F] (appW ([]) xs12 (fun _ => appW (([]) ++ xs12) ([(GRewrite.mk (GPrefix.mk t23 t19) (GPrefix.mk t24 t19))]) (fun _ => L_spec_RewritesValid ((([]) ++ xs12) ++ ([(GRewrite.mk (GPrefix.mk t23 t19) (GPrefix.mk t24 t19))])) (fun r52 => k45 r52)))) := by
            intro v46
            refine d_two (i := 2) (j := 4) rfl rfl (by kernel_rfl) ?_ ?_
            · intro o ho; cases ho
              refine o_app 0 3 rfl rfl (src_flat flelGRewrite reads_own) rfl rfl rfl el37 rfl zero28 rfl rfl ?_; intro v47
              refine d_and (fun w m => m.pick [1, 2, 3, 4] rfl) ?_
              refine pk [0, 1, 2, 3, 4] rfl ?_
              refine re (E' := [(0, (.pointer (some ⟨b1, 0, none⟩))), (1, (.int .i64 n_1)), (5, v11), (6, (.int .i64 t15)), (9, (.pointer (some ⟨b22, 0, none⟩))), (46, (.agg #[(.int .i64 t23), (.int .i64 t19), (.int .i64 t24), (.int .i64 t19)])), (45, v47)]) ⟨rfl, rfl, rfl, rfl, rfl, rfl, rfl, trivial⟩ ?_
              exact H405 v46 v47
            · intro o ho; cases ho
              refine o_bsl (enc := encGRewrite) (qs := [(0, (.agg #[(.int .i64 t23), (.int .i64 t19), (.int .i64 t24), (.int .i64 t19)]))]) (cells := [(.int .i64 t23), (.int .i64 t19), (.int .i64 t24), (.int .i64 t19)]) ([(GRewrite.mk (GPrefix.mk t23 t19) (GPrefix.mk t24 t19))]) flelGRewrite (by intro ρ h; simp only [List.map_toArray, List.map_cons, List.map_nil, h (.tmp 46) _ rfl]) rfl el37 zero28 rfl rfl rfl rfl rfl rfl ?_; intro v53
              refine d_and (fun w m => m.pick [2, 3, 4, 5] rfl) ?_
              refine pk [0, 1, 2, 3, 4, 5] rfl ?_
              refine re (E' := [(0, (.pointer (some ⟨b1, 0, none⟩))), (1, (.int .i64 n_1)), (5, v11), (6, (.int .i64 t15)), (9, (.pointer (some ⟨b22, 0, none⟩))), (44, v11), (43, v46), (47, v53)]) ⟨rfl, rfl, rfl, rfl, rfl, rfl, rfl, rfl, trivial⟩ ?_
              exact H406 v46 v53
          have H408 : ∀ (v56 : Value), Nx 77 (gB F [cellCh b1 [v2, (.int .i64 r_0_p)] 76] w0) (feet [cellCh b1 [v2, (.int .i64 r_0_p)] 76]) w0 (wpAnyH Try.prog .any (opsAt Try.f38 [1, 1, 0, 1, 0, 0, 1, 0, 0, 1, 1, 1, 0]) Qd (Mem (gB F [cellCh b1 [v2, (.int .i64 r_0_p)] 76] w0) (feet [cellCh b1 [v2, (.int .i64 r_0_p)] 76]) w0 [cellCh b22 [(.int .i64 t23), (.int .i64 t19), (.int .i64 t24), (.int .i64 t19)] 28, cellCh b1 [v2, (.int .i64 t25)] 76, ownCh elGRewrite 28 v11 xs12, snapCh w0 F]) 4 #[false, true, false, true, true, false, false]) [(0, (.pointer (some ⟨b1, 0, none⟩))), (1, (.int .i64 n_1)), (5, v11), (6, (.int .i64 t15)), (9, (.pointer (some ⟨b22, 0, none⟩))), (44, v11), (47, v56)] [ownCh elGRewrite 28 v56 ([(GRewrite.mk (GPrefix.mk t23 t19) (GPrefix.mk t24 t19))]), cellCh b22 [(.int .i64 t23), (.int .i64 t19), (.int .i64 t24), (.int .i64 t19)] 28, cellCh b1 [v2, (.int .i64 t25)] 76, ownCh elGRewrite 28 v11 xs12, snapCh w0 F] (appW ([]) xs12 (fun _ => appW (([]) ++ xs12) ([(GRewrite.mk (GPrefix.mk t23 t19) (GPrefix.mk t24 t19))]) (fun _ => L_spec_RewritesValid ((([]) ++ xs12) ++ ([(GRewrite.mk (GPrefix.mk t23 t19) (GPrefix.mk t24 t19))])) (fun r52 => k45 r52)))) := by
            intro v56
            refine d_one (i := 0) rfl (by kernel_rfl) (o_bsl (enc := encGRewrite) (qs := []) (cells := []) ([] : (List GRewrite)) flelGRewrite (by intro ρ h; simp only [List.map_toArray, List.map_cons, List.map_nil]) rfl el37 zero28 rfl rfl rfl rfl rfl rfl ?_); intro v57
            refine d_and (fun w m => m.pick [2, 3, 4, 5] rfl) ?_
            refine pk [1, 0, 2, 3, 4, 5] rfl ?_
            refine re (E' := [(0, (.pointer (some ⟨b1, 0, none⟩))), (1, (.int .i64 n_1)), (5, v11), (6, (.int .i64 t15)), (9, (.pointer (some ⟨b22, 0, none⟩))), (44, v11), (43, v57), (47, v56)]) ⟨rfl, rfl, rfl, rfl, rfl, rfl, rfl, rfl, trivial⟩ ?_
            exact H406 v57 v56
          refine o_mv (dt 1 (fun _ m => m)) rfl rfl ?_
          refine o_ldc (dt 3 (fun _ m => m)) (v := (.agg #[(.int .i64 t23), (.int .i64 t19), (.int .i64 t24), (.int .i64 t19)])) 0 rfl rfl rfl ty28 rfl ?_
          refine d_two (i := 0) (j := 4) rfl rfl (by kernel_rfl) ?_ ?_
          · intro o ho; cases ho
            refine o_bsl (enc := encGRewrite) (qs := []) (cells := []) ([] : (List GRewrite)) flelGRewrite (by intro ρ h; simp only [List.map_toArray, List.map_cons, List.map_nil]) rfl el37 zero28 rfl rfl rfl rfl rfl rfl ?_; intro v46
            refine d_and (fun w m => m.pick [1, 2, 3, 4] rfl) ?_
            refine pk [0, 1, 2, 3, 4] rfl ?_
            refine re (E' := [(0, (.pointer (some ⟨b1, 0, none⟩))), (1, (.int .i64 n_1)), (5, v11), (6, (.int .i64 t15)), (9, (.pointer (some ⟨b22, 0, none⟩))), (44, v11), (46, (.agg #[(.int .i64 t23), (.int .i64 t19), (.int .i64 t24), (.int .i64 t19)])), (43, v46)]) ⟨rfl, rfl, rfl, rfl, rfl, rfl, rfl, rfl, trivial⟩ ?_
            exact H407 v46
          · intro o ho; cases ho
            refine o_bsl (enc := encGRewrite) (qs := [(0, (.agg #[(.int .i64 t23), (.int .i64 t19), (.int .i64 t24), (.int .i64 t19)]))]) (cells := [(.int .i64 t23), (.int .i64 t19), (.int .i64 t24), (.int .i64 t19)]) ([(GRewrite.mk (GPrefix.mk t23 t19) (GPrefix.mk t24 t19))]) flelGRewrite (by intro ρ h; simp only [List.map_toArray, List.map_cons, List.map_nil, h (.tmp 46) _ rfl]) rfl el37 zero28 rfl rfl rfl rfl rfl rfl ?_; intro v56
            refine d_and (fun w m => m.pick [1, 2, 3, 4] rfl) ?_
            refine pk [0, 1, 2, 3, 4] rfl ?_
            refine re (E' := [(0, (.pointer (some ⟨b1, 0, none⟩))), (1, (.int .i64 n_1)), (5, v11), (6, (.int .i64 t15)), (9, (.pointer (some ⟨b22, 0, none⟩))), (44, v11), (47, v56)]) ⟨rfl, rfl, rfl, rfl, rfl, rfl, rfl, trivial⟩ ?_
            exact H408 v56
        · rintro t44 a w ⟨hE, hm⟩ h
          refine nx_of hE hm h ?_
          clear hE hm h
          refine c_cond rfl ?_ ?_
          · refine c_region ?_
            refine o_mv st rfl rfl ?_
            refine o_ldc st (v := (.agg #[(.int .i64 t23), (.int .i64 t19), (.int .i64 t24), (.int .i64 t19)])) 0 rfl rfl rfl ty28 rfl ?_
            refine stw (o_bsl (enc := encGRewrite) (qs := [(0, (.agg #[(.int .i64 t23), (.int .i64 t19), (.int .i64 t24), (.int .i64 t19)]))]) (cells := [(.int .i64 t23), (.int .i64 t19), (.int .i64 t24), (.int .i64 t19)]) ([(GRewrite.mk (GPrefix.mk t23 t19) (GPrefix.mk t24 t19))]) flelGRewrite (by intro ρ h; simp only [List.map_toArray, List.map_cons, List.map_nil, h (.tmp 51) _ rfl]) rfl el37 zero28 rfl rfl rfl rfl rfl rfl ?_); intro v58
            refine stw (o_app 3 0 rfl rfl (src_flat flelGRewrite reads_own) rfl rfl rfl el37 rfl zero28 rfl rfl ?_); intro v60
            refine o_as st rfl rfl ?_
            refine c_nil ?_
            refine b_norm ?_
            exact l_join ((xs12 ++ ([(GRewrite.mk (GPrefix.mk t23 t19) (GPrefix.mk t24 t19))])), t25) (fun a w hE hm => ⟨v60, hE.sub ⟨rfl, rfl, rfl, rfl, trivial⟩, (hm.pick [2, 3, 4] rfl)⟩)
          · refine c_skip ?_
            refine b_norm ?_
            exact l_join (xs12, t25) (fun a w hE hm => ⟨v11, hE.sub ⟨rfl, rfl, rfl, rfl, trivial⟩, (hm.pick [1, 2, 3] rfl)⟩)
    · rintro ⟨xs122, t125⟩ a w ⟨v123, hE, hm⟩ h
      refine nx_of hE hm h ?_
      clear hE hm h
      refine c_region ?_
      refine o_mv st rfl rfl ?_
      refine o_sub st rfl rfl rfl ?_; intro t127
      refine o_as st rfl rfl ?_
      refine c_nil ?_
      exact l_join (t125, xs122, t127) (fun a w hE hm => ⟨v123, hE.sub ⟨rfl, rfl, rfl, rfl, trivial⟩, (hm.pick [0, 2, 1] rfl)⟩)
  · refine c_exit ?_
    refine l_exit ?_
    refine l_exit ?_
    refine b_exit ?_
    refine l_then ?_
    refine c_join (σ := (Int × (List GRewrite))) (fun ((t203, xs205) : (Int × (List GRewrite))) (a : Act) (w : World) => ∃ (v204 : Value), Has 77 [(5, v204)] a ∧ Mem (gB F [cellCh b1 [v2, (.int .i64 r_0_p)] 76] w0) (feet [cellCh b1 [v2, (.int .i64 r_0_p)] 76]) w0 [cellCh b1 [v2, (.int .i64 t203)] 76, snapCh w0 F, ownCh elGRewrite 28 v204 xs205] w) ?_ ?_
    · intro k208
      refine c_seq ?_
      refine c_region ?_
      refine o_mv st rfl rfl ?_
      refine o_mv st rfl rfl ?_
      refine stw (o_call (vs := [(.pointer (some ⟨b1, 0, none⟩)), (.int .i64 n_1)]) (M0 := [cellCh b1 [v2, (.int .i64 t10)] 76]) Try.call52 rfl rfl (by intro w m h; exact (w_spec_l20Rd_odd (F := allB [cellCh b1 [v2, (.int .i64 t10)] 76] w) (r_0_b := r_0_b) (r_0_p := t10) (n_1 := n_1) allB_ok m.given (m.rdM 0 rfl (reads_snap hv2)) h).mono (fun _ _ k => ret_free (fun r u => (fr_cons free_cell fr_nil)) k)) ?_); rintro ⟨r128, r129⟩ _
      refine c_nil ?_
      refine l_then ?_
      refine c_cond rfl ?_ ?_
      · refine c_seq ?_
        refine c_region ?_
        refine o_mv st rfl rfl ?_
        refine stw (o_call (vs := [(.pointer (some ⟨b1, 0, none⟩)), (.int .i64 3)]) (M0 := [cellCh b1 [v2, (.int .i64 r129)] 76]) Try.call51 rfl rfl (by intro w m h; exact (w_spec_l20Rd_pick (F := allB [cellCh b1 [v2, (.int .i64 r129)] 76] w) (r_0_b := r_0_b) (r_0_p := r129) (n_1 := 3) allB_ok m.given (m.rdM 0 rfl (reads_snap hv2)) h).mono (fun _ _ k => ret_free (fun r u => (fr_cons free_cell fr_nil)) k)) ?_); rintro ⟨r130, r131⟩ _
        refine c_nil ?_
        refine l_then ?_
        refine c_block ?_
        refine c_seq ?_
        refine c_region ?_
        refine o_eql st und3 rfl rfl rfl ?_
        refine o_as st rfl rfl ?_
        refine c_nil ?_
        refine l_then ?_
        refine c_cond rfl ?_ ?_
        · refine c_region ?_
          refine o_mv st rfl rfl ?_
          refine o_bld st (qs := [(1, (.int .i64 8))]) (cells := [(.int .i64 0), (.int .i64 8)]) (by intro ρ h; simp only [List.map_toArray, List.map_cons, List.map_nil, h (.const (.int .i64 8)) _ rfl]) rfl bld26 rfl ?_
          refine o_bld st (qs := [(0, (.int .i64 19712)), (1, (.int .i64 9))]) (cells := [(.int .i64 19712), (.int .i64 9)]) (by intro ρ h; simp only [List.map_toArray, List.map_cons, List.map_nil, h (.const (.int .i64 19712)) _ rfl, h (.const (.int .i64 9)) _ rfl]) rfl bld26 rfl ?_
          refine o_bld st (qs := [(0, (.agg #[(.int .i64 0), (.int .i64 8)])), (1, (.agg #[(.int .i64 19712), (.int .i64 9)]))]) (cells := [(.int .i64 0), (.int .i64 8), (.int .i64 19712), (.int .i64 9)]) (by intro ρ h; simp only [List.map_toArray, List.map_cons, List.map_nil, h (.tmp 63) _ rfl, h (.tmp 64) _ rfl]) rfl bld28 rfl ?_
          refine stw (o_bsl (enc := encGRewrite) (qs := [(0, (.agg #[(.int .i64 0), (.int .i64 8), (.int .i64 19712), (.int .i64 9)]))]) (cells := [(.int .i64 0), (.int .i64 8), (.int .i64 19712), (.int .i64 9)]) ([(GRewrite.mk (GPrefix.mk 0 8) (GPrefix.mk 19712 9))]) flelGRewrite (by intro ρ h; simp only [List.map_toArray, List.map_cons, List.map_nil, h (.tmp 65) _ rfl]) rfl el37 zero28 rfl rfl rfl rfl rfl rfl ?_); intro v132
          refine stw (o_app 3 0 rfl rfl (src_flat flelGRewrite reads_own) rfl rfl rfl el37 rfl zero28 rfl rfl ?_); intro v134
          refine o_as st rfl rfl ?_
          refine c_nil ?_
          refine b_norm ?_
          exact l_join (r131, (xs12 ++ ([(GRewrite.mk (GPrefix.mk 0 8) (GPrefix.mk 19712 9))]))) (fun a w hE hm => ⟨v134, hE.sub ⟨rfl, trivial⟩, (hm.pick [1, 2, 3] rfl)⟩)
        · refine c_seq ?_
          refine c_region ?_
          refine o_eql st und3 rfl rfl rfl ?_
          refine o_as st rfl rfl ?_
          refine c_nil ?_
          refine l_then ?_
          refine c_cond rfl ?_ ?_
          · refine c_region ?_
            refine o_mv st rfl rfl ?_
            refine o_bld st (qs := [(0, (.int .i64 2304)), (1, (.int .i64 8))]) (cells := [(.int .i64 2304), (.int .i64 8)]) (by intro ρ h; simp only [List.map_toArray, List.map_cons, List.map_nil, h (.const (.int .i64 2304)) _ rfl, h (.const (.int .i64 8)) _ rfl]) rfl bld26 rfl ?_
            refine o_bld st (qs := [(0, (.int .i64 2304)), (1, (.int .i64 8))]) (cells := [(.int .i64 2304), (.int .i64 8)]) (by intro ρ h; simp only [List.map_toArray, List.map_cons, List.map_nil, h (.const (.int .i64 2304)) _ rfl, h (.const (.int .i64 8)) _ rfl]) rfl bld26 rfl ?_
            refine o_bld st (qs := [(0, (.agg #[(.int .i64 2304), (.int .i64 8)])), (1, (.agg #[(.int .i64 2304), (.int .i64 8)]))]) (cells := [(.int .i64 2304), (.int .i64 8), (.int .i64 2304), (.int .i64 8)]) (by intro ρ h; simp only [List.map_toArray, List.map_cons, List.map_nil, h (.tmp 71) _ rfl, h (.tmp 72) _ rfl]) rfl bld28 rfl ?_
            refine stw (o_bsl (enc := encGRewrite) (qs := [(0, (.agg #[(.int .i64 2304), (.int .i64 8), (.int .i64 2304), (.int .i64 8)]))]) (cells := [(.int .i64 2304), (.int .i64 8), (.int .i64 2304), (.int .i64 8)]) ([(GRewrite.mk (GPrefix.mk 2304 8) (GPrefix.mk 2304 8))]) flelGRewrite (by intro ρ h; simp only [List.map_toArray, List.map_cons, List.map_nil, h (.tmp 73) _ rfl]) rfl el37 zero28 rfl rfl rfl rfl rfl rfl ?_); intro v136
            refine stw (o_app 3 0 rfl rfl (src_flat flelGRewrite reads_own) rfl rfl rfl el37 rfl zero28 rfl rfl ?_); intro v138
            refine o_as st rfl rfl ?_
            refine c_nil ?_
            refine b_norm ?_
            exact l_join (r131, (xs12 ++ ([(GRewrite.mk (GPrefix.mk 2304 8) (GPrefix.mk 2304 8))]))) (fun a w hE hm => ⟨v138, hE.sub ⟨rfl, trivial⟩, (hm.pick [1, 2, 3] rfl)⟩)
          · refine c_region ?_
            refine stw (o_make (z := (GRewrite.mk (GPrefix.mk 0 0) (GPrefix.mk 0 0))) flelGRewrite rfl rfl rfl el37 rfl zero28 rfl rfl ?_); intro v140 xs141
            refine o_as st rfl rfl ?_
            refine c_nil ?_
            refine b_norm ?_
            exact l_join (r131, xs141) (fun a w hE hm => ⟨v140, hE.sub ⟨rfl, trivial⟩, (hm.pick [1, 2, 0] rfl)⟩)
      · refine c_skip ?_
        exact l_join (r129, xs12) (fun a w hE hm => ⟨v11, hE.sub ⟨rfl, trivial⟩, (hm.pick [0, 1, 2] rfl)⟩)
    · rintro ⟨t203, xs205⟩ a w ⟨v204, hE, hm⟩ h
      refine nx_of hE hm h ?_
      clear hE hm h
      refine c_seq ?_
      refine c_region ?_
      refine o_mv st rfl rfl ?_
      refine o_as st rfl rfl ?_
      refine c_nil ?_
      refine l_then ?_
      refine c_ret ?_
      exact l_end1 Try.results38 (xs205, t203) v204 (rv_t rfl) (fun w m => NewCh.ofB m [2, 0] rfl)

set_option maxRecDepth 100000 in
set_option maxHeartbeats 8000000 in
theorem w_spec_l20Open {w0 : World} {F : Nat → Prop} {v1 : Value} {code_0 : (List UInt8)} {κ : ((List UInt8) × Int) → Prop} (hF : ∀ b, F b → b < w0.heap.size ∧ ¬ feet [] b) (hv1 : Sl elU8 F w0 v1 code_0) (h : L_spec_l20Open code_0 κ) :
    Calls Try.prog 39 #[v1] w0 (Ret [] F w0 κ (fun (r : ((List UInt8) × Int)) (u : Nat × Value) => .pointer (some ⟨u.1, 0, none⟩)) (fun (r : ((List UInt8) × Int)) (u : Nat × Value) => [cellCh u.1 [u.2, (.int .i64 r.2)] 76, roCh elU8 u.2 r.1])) := by
  refine enterS (args := [v1]) [] hF (Given.nil _ _) Try.func39 rfl Try.ntmps39 rfl h ?_
  clear h hF
  refine c_seq ?_
  refine c_region ?_
  refine o_as st rfl rfl ?_
  refine c_nil ?_
  refine l_then ?_
  refine c_join (σ := (List UInt8)) (fun (xs68 : (List UInt8)) (a : Act) (w : World) => ∃ (v67 : Value), Has 11 [(0, v67)] a ∧ Mem (gB F [] w0) (feet []) w0 [roCh elU8 v67 xs68] w) ?_ ?_
  · intro k71
    refine c_seq ?_
    refine c_region ?_
    refine o_mv st rfl rfl ?_
    refine o_len st el41 0 rfl (reads_snap hv1) rfl rfl ?_
    refine o_gtr st rfl rfl rfl ?_
    refine c_nil ?_
    refine l_then ?_
    refine c_cond rfl ?_ ?_
    · refine c_region ?_
      refine o_mv st rfl rfl ?_
      refine nx_note 0 rfl hv1 ?_
      refine stw (o_slc (I := 0) (J := 2000) 0 rfl rfl rfl rfl rfl el41 rfl ?_); intro v3 xs4
      refine o_as st rfl rfl ?_
      refine c_nil ?_
      exact l_join xs4 (fun a w hE hm => ⟨v3, hE.sub ⟨rfl, trivial⟩, (hm.pick [0] rfl)⟩)
    · refine c_skip ?_
      exact l_join code_0 (fun a w hE hm => ⟨v1, hE.sub ⟨rfl, trivial⟩, ((hm.snote 0 rfl hv1).pick [0] rfl)⟩)
  · rintro xs68 a w ⟨v67, hE, hm⟩ h
    refine nx_of hE hm h ?_
    clear hE hm h
    refine c_seq ?_
    refine c_region ?_
    refine o_mv st rfl rfl ?_
    refine nx_ro 0 rfl ?_; rintro a72 l73 q74 rfl
    refine o_bld st (qs := [(0, (.slice a72 l73 q74))]) (cells := [(.slice a72 l73 q74), (.int .i64 0)]) (by intro ρ h; simp only [List.map_toArray, List.map_cons, List.map_nil, h (.tmp 8) _ rfl]) rfl bld76 rfl ?_
    refine stw (o_box rfl rfl [(.slice a72 l73 q74), (.int .i64 0)] rfl ?_); intro b75
    refine o_as st rfl rfl ?_
    refine c_nil ?_
    refine l_then ?_
    refine c_ret ?_
    exact l_end1 Try.results39 (xs68, 0) (b75, (.slice a72 l73 q74)) (rv_t rfl) (fun w m => NewCh.ofB m [0, 1] rfl)

set_option maxRecDepth 100000 in
set_option maxHeartbeats 8000000 in
theorem w_spec_DrawRewritesValid {w0 : World} {F : Nat → Prop} {v1 : Value} {code_0 : (List UInt8)} {κ : (List GRewrite) → Prop} (hF : ∀ b, F b → b < w0.heap.size ∧ ¬ feet [] b) (hv1 : Sl elU8 F w0 v1 code_0) (h : L_spec_DrawRewritesValid code_0 κ) :
    Calls Try.prog 17 #[v1] w0 (Ret [] F w0 κ (fun (r : (List GRewrite)) (u : Value) => u) (fun (r : (List GRewrite)) (u : Value) => [ownCh elGRewrite 28 u r])) := by
  refine enterS (args := [v1]) [] hF (Given.nil _ _) Try.func17 rfl Try.ntmps17 rfl h ?_
  clear h hF
  refine c_seq ?_
  refine c_region ?_
  refine stw (o_asn elGRewrite 28 rfl rfl ?_)
  refine c_nil ?_
  refine l_then ?_
  refine c_seq ?_
  refine c_region ?_
  refine o_mv st rfl rfl ?_
  refine stw (o_callP (vs := [v1]) Try.call39 rfl rfl (by intro w m h; exact w_spec_l20Open (code_0 := code_0) fz_ok0 (m.roS 1 rfl hv1) h) ?_); rintro ⟨r6, r9⟩ ⟨b4, v7⟩
  refine stw (o_call (vs := [(.pointer (some ⟨b4, 0, none⟩)), (.int .i64 2)]) (M0 := [cellCh b4 [v7, (.int .i64 r9)] 76]) Try.call38 rfl rfl (by intro w m h; exact (w_spec_l20Rewrites (F := allB [cellCh b4 [v7, (.int .i64 r9)] 76] w) (r_0_b := r6) (r_0_p := r9) (n_1 := 2) allB_ok m.given (m.rdM 0 rfl reads_ro) h).mono (fun _ _ k => ret_free (fun r u => (fr_cons (free_own flelGRewrite) (fr_cons free_cell fr_nil))) k)) ?_); rintro ⟨r10, r13⟩ v11
  refine o_as st rfl rfl ?_
  refine c_nil ?_
  refine l_then ?_
  refine c_ret ?_
  exact l_end1 Try.results17 r10 v11 (rv_t rfl) (fun w m => NewCh.ofB m [0] rfl)

set_option maxRecDepth 100000 in
set_option maxHeartbeats 8000000 in
theorem w_impl_SpansHave {w0 : World} {F : Nat → Prop} {v1 : Value} {list_0 : (List GSpan)} {n_1 : Int} {κ : Bool → Prop} (hF : ∀ b, F b → b < w0.heap.size ∧ ¬ feet [] b) (hv1 : Sl elGSpan F w0 v1 list_0) (h : L_impl_SpansHave list_0 n_1 κ) :
    Calls Try.prog 23 #[v1, (.int .i64 n_1)] w0 (Ret [] F w0 κ (fun (r : Bool) (u : Unit) => (.bool r)) (fun (r : Bool) (u : Unit) => [])) := by
  refine enterS (args := [v1, (.int .i64 n_1)]) [] hF (Given.nil _ _) Try.func23 rfl Try.ntmps23 rfl h ?_
  clear h hF
  refine c_seq ?_
  refine c_region ?_
  refine o_as st rfl rfl ?_
  refine c_nil ?_
  refine l_then ?_
  refine c_seq ?_
  refine c_seq ?_
  refine c_region ?_
  refine o_mv st rfl rfl ?_
  refine o_len st el45 0 rfl (reads_snap hv1) rfl rfl ?_
  refine o_mv st rfl rfl ?_
  refine c_nil ?_
  refine l_then ?_
  refine c_block ?_
  refine c_loop (σ := Int) (fun (t3 : Int) (a : Act) (w : World) => Has 24 [(1, (.int .i64 n_1)), (7, v1), (8, (.int .i64 (list_0.length : Int))), (9, (.int .i64 t3))] a ∧ Mem (gB F [] w0) (feet []) w0 [snapCh w0 F] w) (fun a w hE hm => ⟨hE.sub ⟨rfl, rfl, rfl, rfl, trivial⟩, (hm.pick [0] rfl)⟩) ?_
  rintro nx4 t3 a w ⟨hE, hm⟩ h
  refine nx_of hE hm h ?_
  clear hE hm h
  refine c_seq ?_
  refine c_region ?_
  refine o_lss st rfl rfl rfl ?_
  refine c_nil ?_
  refine l_then ?_
  refine c_seq ?_
  refine c_cond rfl ?_ ?_
  · refine c_skip ?_
    refine l_then ?_
    refine c_seq ?_
    refine c_block ?_
    refine c_seq ?_
    refine c_region ?_
    refine o_idx st 0 rfl (reads_snap hv1) rfl rfl rfl el45 ?_; intro e5 h6
    refine o_lds st (enc := encGSpan) (u := (.agg #[(.int .i64 e5.xLo), (.int .i64 e5.xHi)])) 0 rfl (reads_snap hv1) flelGSpan rfl h6 rfl rfl ty58 rfl ?_
    refine stw (o_alloc rfl [(.int .i64 0), (.int .i64 0)] zero58 ?_); intro b7
    refine stw (o_stc (cs' := [(.int .i64 e5.xLo), (.int .i64 e5.xHi)]) 0 rfl rfl rfl ty58 rfl rfl rfl rfl ?_)
    refine c_nil ?_
    refine l_then ?_
    refine c_join (σ := Bool) (fun (t69 : Bool) (a : Act) (w : World) => Has 24 [(1, (.int .i64 n_1)), (7, v1), (8, (.int .i64 (list_0.length : Int))), (9, (.int .i64 t3)), (22, (.bool t69))] a ∧ Mem (gB F [] w0) (feet []) w0 [snapCh w0 F] w) ?_ ?_
    · intro k70
      refine c_region ?_
      refine o_fad st rfl rfl fld58_0 rfl ?_
      refine o_ldc st (v := (.int .i64 e5.xLo)) 0 rfl rfl rfl ty3 rfl ?_
      refine o_mv st rfl rfl ?_
      refine o_leq st rfl rfl rfl ?_
      refine o_mv st rfl rfl ?_
      refine st_sp (dj := 17) rfl ?_ ?_
      · refine o_mv (st_g rfl rfl) rfl rfl ?_
        refine o_fad (st_g rfl rfl) rfl rfl fld58_1 rfl ?_
        refine o_ldc (st_g rfl rfl) (v := (.int .i64 e5.xHi)) 0 rfl rfl rfl ty3 rfl ?_
        refine o_leq (st_g rfl rfl) rfl rfl rfl ?_
        refine o_pickT st rfl rfl rfl ?_
        refine c_nil ?_
        exact l_join (decide (n_1 ≤ e5.xHi)) (fun a w hE hm => ⟨hE.sub ⟨rfl, rfl, rfl, rfl, rfl, trivial⟩, (hm.pick [1] rfl)⟩)
      · refine st_s rfl rfl rfl rfl ?_
        refine st_s rfl rfl rfl rfl ?_
        refine st_s rfl rfl rfl rfl ?_
        refine st_s rfl rfl rfl rfl ?_
        refine o_pickF st rfl rfl rfl ?_
        refine c_nil ?_
        exact l_join false (fun a w hE hm => ⟨hE.sub ⟨rfl, rfl, rfl, rfl, rfl, trivial⟩, (hm.pick [1] rfl)⟩)
    · rintro t69 a w ⟨hE, hm⟩ h
      refine nx_of hE hm h ?_
      clear hE hm h
      refine c_cond rfl ?_ ?_
      · refine c_seq ?_
        refine c_region ?_
        refine o_as st rfl rfl ?_
        refine c_nil ?_
        refine l_then ?_
        refine c_ret ?_
        refine b_ret ?_
        refine l_ret ?_
        refine l_ret ?_
        refine b_ret ?_
        refine l_ret ?_
        exact l_end1 Try.results23 true () (rv_t rfl) (fun _ _ => NewCh.nil _ _ _ _)
      · refine c_skip ?_
        refine b_norm ?_
        refine l_then ?_
        refine c_region ?_
        refine o_add st rfl rfl rfl ?_; intro t71
        refine o_mv st rfl rfl ?_
        refine c_nil ?_
        exact l_join t71 (fun a w hE hm => ⟨hE.sub ⟨rfl, rfl, rfl, rfl, trivial⟩, (hm.pick [0] rfl)⟩)
  · refine c_exit ?_
    refine l_exit ?_
    refine l_exit ?_
    refine b_exit ?_
    refine l_then ?_
    refine c_seq ?_
    refine c_region ?_
    refine o_as st rfl rfl ?_
    refine c_nil ?_
    refine l_then ?_
    refine c_ret ?_
    exact l_end1 Try.results23 false () (rv_t rfl) (fun _ _ => NewCh.nil _ _ _ _)

set_option maxRecDepth 100000 in
set_option maxHeartbeats 8000000 in
theorem w_laws_alive {w0 : World} {F : Nat → Prop} {κ : Bool → Prop} (hF : ∀ b, F b → b < w0.heap.size ∧ ¬ feet [] b) (h : L_laws_alive κ) :
    Calls Try.prog 18 #[] w0 (Ret [] F w0 κ (fun (r : Bool) (u : Unit) => (.bool r)) (fun (r : Bool) (u : Unit) => [])) := by
  refine enter0 (args := []) [] hF (Given.nil _ _) Try.func18 rfl Try.ntmps18 rfl h ?_
  clear h hF
  refine c_seq ?_
  refine c_region ?_
  refine o_as st rfl rfl ?_
  refine c_nil ?_
  refine l_then ?_
  refine c_seq ?_
  refine c_region ?_
  refine o_bld st (qs := [(0, (.int .i64 2)), (1, (.int .i64 4))]) (cells := [(.int .i64 2), (.int .i64 4)]) (by intro ρ h; simp only [List.map_toArray, List.map_cons, List.map_nil, h (.const (.int .i64 2)) _ rfl, h (.const (.int .i64 4)) _ rfl]) rfl bld58 rfl ?_
  refine stw (o_bsl (enc := encGSpan) (qs := [(0, (.agg #[(.int .i64 2), (.int .i64 4)]))]) (cells := [(.int .i64 2), (.int .i64 4)]) ([(GSpan.mk 2 4)]) flelGSpan (by intro ρ h; simp only [List.map_toArray, List.map_cons, List.map_nil, h (.tmp 1) _ rfl]) rfl el45 zero58 rfl rfl rfl rfl rfl rfl ?_); intro v1
  refine stw (o_callP (vs := [v1, (.int .i64 3)]) Try.call23 rfl rfl (by intro w m h; exact (w_impl_SpansHave (F := allB [] w) (list_0 := ([(GSpan.mk 2 4)])) (n_1 := 3) allB_ok (m.rd0 0 rfl reads_own) h).mono (fun _ _ k => ret_free (fun r u => fr_nil) k)) ?_); rintro r3 _
  refine o_as st rfl rfl ?_
  refine c_nil ?_
  refine l_then ?_
  refine c_ret ?_
  exact l_end1 Try.results18 r3 () (rv_t rfl) (fun _ _ => NewCh.nil _ _ _ _)

set_option maxRecDepth 100000 in
set_option maxHeartbeats 8000000 in
theorem w_laws_FnRewritesValid {w0 : World} {F : Nat → Prop} {v1 : Value} {code_0 : (List UInt8)} {κ : Bool → Prop} (hF : ∀ b, F b → b < w0.heap.size ∧ ¬ feet [] b) (hv1 : Sl elU8 F w0 v1 code_0) (h : L_laws_FnRewritesValid code_0 κ) :
    Calls Try.prog 5 #[v1] w0 (Ret [] F w0 κ (fun (r : Bool) (u : Unit) => (.bool r)) (fun (r : Bool) (u : Unit) => [])) := by
  refine enterS (args := [v1]) [] hF (Given.nil _ _) Try.func5 rfl Try.ntmps5 rfl h ?_
  clear h hF
  refine c_seq ?_
  refine c_region ?_
  refine o_as st rfl rfl ?_
  refine c_nil ?_
  refine l_then ?_
  refine c_seq ?_
  refine c_seq ?_
  refine c_region ?_
  refine o_mv st rfl rfl ?_
  refine o_len st el41 0 rfl (reads_snap hv1) rfl rfl ?_
  refine o_gtr st rfl rfl rfl ?_
  refine c_nil ?_
  refine l_then ?_
  refine c_cond rfl ?_ ?_
  · refine c_seq ?_
    refine c_region ?_
    refine o_as st rfl rfl ?_
    refine c_nil ?_
    refine l_then ?_
    refine c_ret ?_
    refine l_ret ?_
    exact l_end1 Try.results5 true () (rv_t rfl) (fun _ _ => NewCh.nil _ _ _ _)
  · refine c_skip ?_
    refine l_then ?_
    refine c_seq ?_
    refine c_region ?_
    refine o_mv st rfl rfl ?_
    refine stw (o_callP (vs := [v1]) Try.call17 rfl rfl (by intro w m h; exact (w_spec_DrawRewritesValid (F := allB [] w) (code_0 := code_0) allB_ok (m.rd0 0 rfl (reads_snap hv1)) h).mono (fun _ _ k => ret_free (fun r u => (fr_cons (free_own flelGRewrite) fr_nil)) k)) ?_); rintro r3 v4
    refine o_as st rfl rfl ?_
    refine c_nil ?_
    refine l_then ?_
    refine c_seq ?_
    refine c_region ?_
    refine o_mv st rfl rfl ?_
    refine stw (o_callP (vs := [v4]) Try.call15 rfl rfl (by intro w m h; exact (w_impl_RewritesValid (F := allB [] w) (list_0 := r3) allB_ok (m.rd0 0 rfl reads_own) h).mono (fun _ _ k => ret_free (fun r u => fr_nil) k)) ?_); rintro r6 _
    refine o_as st rfl rfl ?_
    refine c_nil ?_
    refine l_then ?_
    refine c_seq ?_
    refine c_seq ?_
    refine c_region ?_
    refine o_mv st rfl rfl ?_
    refine o_mv st rfl rfl ?_
    refine stw (o_callP (vs := [v4]) Try.call13 rfl rfl (by intro w m h; exact (w_spec_RewritesValid (F := allB [] w) (list_0 := r3) allB_ok (m.rd0 0 rfl reads_own) h).mono (fun _ _ k => ret_free (fun r u => fr_nil) k)) ?_); rintro r7 _
    refine o_neqB st und4 rfl rfl rfl ?_
    refine c_nil ?_
    refine l_then ?_
    refine c_cond rfl ?_ ?_
    · refine c_seq ?_
      refine c_region ?_
      refine o_as st rfl rfl ?_
      refine c_nil ?_
      refine l_then ?_
      refine c_ret ?_
      refine l_ret ?_
      exact l_end1 Try.results5 false () (rv_t rfl) (fun _ _ => NewCh.nil _ _ _ _)
    · refine c_skip ?_
      refine l_then ?_
      refine c_seq ?_
      refine c_join (σ := Bool) (fun (t68 : Bool) (a : Act) (w : World) => Has 40 [(3, v4), (22, (.bool t68))] a ∧ Mem (gB F [] w0) (feet []) w0 [ownCh elGRewrite 28 v4 r3] w) ?_ ?_
      · intro k69
        refine c_region ?_
        refine o_mv st rfl rfl ?_
        refine o_not st rfl rfl ?_
        refine o_mv st rfl rfl ?_
        refine st_sp (dj := 18) rfl ?_ ?_
        · refine st_s rfl rfl rfl rfl ?_
          refine st_s rfl rfl rfl rfl ?_
          refine st_s rfl rfl rfl rfl ?_
          refine o_pickT st rfl rfl rfl ?_
          refine c_nil ?_
          exact l_join true (fun a w hE hm => ⟨hE.sub ⟨rfl, rfl, trivial⟩, (hm.pick [0] rfl)⟩)
        · refine o_mv (st_g rfl rfl) rfl rfl ?_
          refine o_len (st_g rfl rfl) el37 0 rfl reads_own rfl rfl ?_
          refine o_eql (st_g rfl rfl) und3 rfl rfl rfl ?_
          refine o_pickF st rfl rfl rfl ?_
          refine c_nil ?_
          exact l_join (decide ((r3.length : Int) = 0)) (fun a w hE hm => ⟨hE.sub ⟨rfl, rfl, trivial⟩, (hm.pick [0] rfl)⟩)
      · rintro t68 a w ⟨hE, hm⟩ h
        refine nx_of hE hm h ?_
        clear hE hm h
        refine c_cond rfl ?_ ?_
        · refine c_seq ?_
          refine c_region ?_
          refine stw (o_callP (vs := []) Try.call18 rfl rfl (by intro w m h; exact (w_laws_alive (F := allB [] w) allB_ok h).mono (fun _ _ k => ret_free (fun r u => fr_nil) k)) ?_); rintro r70 _
          refine o_as st rfl rfl ?_
          refine c_nil ?_
          refine l_then ?_
          refine c_ret ?_
          refine l_ret ?_
          exact l_end1 Try.results5 r70 () (rv_t rfl) (fun _ _ => NewCh.nil _ _ _ _)
        · refine c_skip ?_
          refine l_then ?_
          refine c_join (σ := Bool) (fun (t143 : Bool) (a : Act) (w : World) => Has 40 [(2, (.bool t143))] a ∧ Mem (gB F [] w0) (feet []) w0 [] w) ?_ ?_
          · intro k144
            refine c_region ?_
            refine o_mv st rfl rfl ?_
            refine o_mv st rfl rfl ?_
            refine o_len st el37 0 rfl reads_own rfl rfl ?_
            refine o_quo st rfl rfl rfl ?_; intro t71
            refine frz 0 rfl reads_own ?_
            refine stw (o_slc (I := 0) (J := t71) 0 rfl rfl rfl rfl rfl el37 rfl ?_); intro v72 xs73
            refine stw (o_callP (vs := [v72]) Try.call15 rfl rfl (by intro w m h; exact (w_impl_RewritesValid (F := allB [] w) (list_0 := xs73) allB_ok (m.rd0 0 rfl reads_ro) h).mono (fun _ _ k => ret_free (fun r u => fr_nil) k)) ?_); rintro r75 _
            refine o_mv st rfl rfl ?_
            refine st_sp (dj := 30) rfl ?_ ?_
            · refine o_mv (st_g rfl rfl) rfl rfl ?_
              refine o_idx (st_g rfl rfl) 1 rfl reads_ro rfl rfl rfl el37 ?_; intro e76 h77
              refine o_lds (st_g rfl rfl) (enc := encGRewrite) (u := (.agg #[(.int .i64 e76.xInside.xBase), (.int .i64 e76.xInside.xLength), (.int .i64 e76.xOutside.xBase), (.int .i64 e76.xOutside.xLength)])) 1 rfl reads_ro flelGRewrite rfl h77 rfl rfl ty28 rfl ?_
              refine st_gw rfl rfl (o_bsl (enc := encGRewrite) (qs := [(0, (.agg #[(.int .i64 e76.xInside.xBase), (.int .i64 e76.xInside.xLength), (.int .i64 e76.xOutside.xBase), (.int .i64 e76.xOutside.xLength)]))]) (cells := [(.int .i64 e76.xInside.xBase), (.int .i64 e76.xInside.xLength), (.int .i64 e76.xOutside.xBase), (.int .i64 e76.xOutside.xLength)]) ([e76]) flelGRewrite (by intro ρ h; simp only [List.map_toArray, List.map_cons, List.map_nil, h (.tmp 33) _ rfl]) rfl el37 zero28 rfl rfl rfl rfl rfl rfl ?_); intro v78
              refine o_mv (st_g rfl rfl) rfl rfl ?_
              refine st_gw rfl rfl (o_app 0 2 rfl rfl (src_flat flelGRewrite reads_ro) rfl rfl rfl el37 rfl zero28 rfl rfl ?_); intro v80
              refine st_gw rfl rfl (o_callP (vs := [v80]) Try.call15 rfl rfl (by intro w m h; exact (w_impl_RewritesValid (F := allB [] w) (list_0 := (([e76]) ++ r3)) allB_ok (m.rd0 0 rfl reads_own) h).mono (fun _ _ k => ret_free (fun r u => fr_nil) k)) ?_); rintro r82 _
              refine o_not (st_g rfl rfl) rfl rfl ?_
              refine o_pickT st rfl rfl rfl ?_
              refine o_as st rfl rfl ?_
              refine c_nil ?_
              exact l_join (!r82) (fun a w hE hm => ⟨hE.sub ⟨rfl, trivial⟩, (hm.pick [] rfl)⟩)
            · refine st_s rfl rfl rfl rfl ?_
              refine st_s rfl rfl rfl rfl ?_
              refine st_s rfl rfl rfl rfl ?_
              refine st_s rfl rfl rfl rfl ?_
              refine st_s rfl rfl rfl rfl ?_
              refine st_s rfl rfl rfl rfl ?_
              refine st_s rfl rfl rfl rfl ?_
              refine st_s rfl rfl rfl rfl ?_
              refine o_pickF st rfl rfl rfl ?_
              refine o_as st rfl rfl ?_
              refine c_nil ?_
              exact l_join false (fun a w hE hm => ⟨hE.sub ⟨rfl, trivial⟩, (hm.pick [] rfl)⟩)
          · rintro t143 a w ⟨hE, hm⟩ h
            refine nx_of hE hm h ?_
            clear hE hm h
            refine c_ret ?_
            exact l_end1 Try.results5 t143 () (rv_t rfl) (fun _ _ => NewCh.nil _ _ _ _)

end

end Go.Proofs.Ytdjfbceokpofmaa
