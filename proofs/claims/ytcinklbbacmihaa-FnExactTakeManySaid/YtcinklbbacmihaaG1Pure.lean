/- The pure forms of the functions of this seat (printed). -/
import Derived.Test.YtcinklbbacmihaaEls
set_option linter.unusedSimpArgs false
set_option linter.unusedVariables false
namespace Go.Proofs.Ytcinklbbacmihaa
open Go.RowKit
structure GBucket where
  xSize : Int
  xEvery : Int
  xTokens : Int
  xLast : Int
  deriving DecidableEq
def encGBucket (x : GBucket) : List Value := [(.int .i64 x.xSize), (.int .i64 x.xEvery), (.int .i64 x.xTokens), (.int .i64 x.xLast)]
def elGBucket : El GBucket := El.flat 4 encGBucket (by decide) (fun _ => rfl) (fun x u h => by simp only [encGBucket, List.mem_cons, List.not_mem_nil, or_false] at h; rcases h with rfl | rfl | rfl | rfl <;> rfl)
theorem flelGBucket : Flat elGBucket encGBucket := flat_flat

def L_laws_toBucket (a_0 : GBucket) (κ : GBucket → Prop) : Prop :=
  κ a_0

def L_impl_timeValid (now_0 : Int) (κ : Bool → Prop) : Prop :=
  jnW (fun (t1 : Bool) => κ t1) (fun k2 => ifW (decide (0 ≤ now_0)) (k2 (decide (now_0 ≤ 1000000))) (k2 false))

def L_impl_BucketValid (b_0 : GBucket) (κ : Bool → Prop) : Prop :=
  jnW (fun (t3 : Bool) => κ t3) (fun k4 => ifW (decide (1 ≤ b_0.xSize)) (ifW (decide (b_0.xSize ≤ 100)) (ifW (decide (1 ≤ b_0.xEvery)) (ifW (decide (b_0.xEvery ≤ 1000)) (ifW (decide (0 ≤ b_0.xTokens)) (ifW (decide (b_0.xTokens ≤ b_0.xSize)) (L_impl_timeValid b_0.xLast (fun r5 => k4 r5)) (k4 false)) (k4 false)) (k4 false)) (k4 false)) (k4 false)) (k4 false))

def L_impl_Bucket_fullAt (b_0 : GBucket) (κ : Int → Prop) : Prop :=
  subW b_0.xSize b_0.xTokens (fun t3 => mulW t3 b_0.xEvery (fun t4 => addW b_0.xLast t4 (fun t5 => κ t5)))

def L_impl_Bucket_at (b_0 : GBucket) (now_1 : Int) (κ : GBucket → Prop) : Prop :=
  L_impl_Bucket_fullAt b_0 (fun r5 => ifW (decide (r5 ≤ now_1)) (κ (GBucket.mk b_0.xSize b_0.xEvery b_0.xSize now_1)) (subW now_1 b_0.xLast (fun t6 => quoW t6 b_0.xEvery (fun t7 => addW b_0.xTokens t7 (fun t8 => mulW t7 b_0.xEvery (fun t9 => addW b_0.xLast t9 (fun t10 => κ (GBucket.mk b_0.xSize b_0.xEvery t8 t10))))))))

def L_impl_Bucket_take (b_0 : GBucket) (now_1 : Int) (κ : (GBucket × Bool) → Prop) : Prop :=
  L_impl_Bucket_at b_0 now_1 (fun r5 => ifW (decide (r5.xTokens = 0)) (κ (r5, false)) (subW r5.xTokens 1 (fun t6 => κ ((GBucket.mk r5.xSize r5.xEvery t6 r5.xLast), true))))

def L_impl_TakeMany (b_0 : GBucket) (times_1 : (List Int)) (κ : (List Bool) → Prop) : Prop :=
  jnW (fun (t6 : Bool) => ifW t6 (κ ([])) (loopW (fun (nx12 : (Int × Int) → Prop) ((t10, t11) : (Int × Int)) => ifW (decide (t11 < (times_1.length : Int))) (idxW times_1 t11 (fun e13 => jnW (fun (t15 : Bool) => ifW t15 (κ ([])) (addW t11 1 (fun t18 => nx12 (e13, t18)))) (fun k16 => ifW (decide (e13 < t10)) (k16 true) (k16 (decide (1000000 < e13)))))) (makeW (false : Bool) (times_1.length : Int) (times_1.length : Int) (fun xs20 => loopW (fun (nx29 : ((List Bool) × Int × Int × Int × Int × Int) → Prop) ((xs22, t24, t25, t26, t27, t28) : ((List Bool) × Int × Int × Int × Int × Int)) => ifW (decide (t28 < (times_1.length : Int))) (idxW times_1 t28 (fun e30 => L_impl_Bucket_take (GBucket.mk t24 t25 t26 t27) e30 (fun (r32, r33) => idxW xs22 t28 (fun e34 => addW t28 1 (fun t37 => nx29 ((xs22.set t28.toNat r33), r32.xSize, r32.xEvery, r32.xTokens, r32.xLast, t37)))))) (κ xs22)) (xs20, b_0.xSize, b_0.xEvery, b_0.xTokens, b_0.xLast, 0)))) (b_0.xLast, 0))) (fun k7 => L_impl_BucketValid b_0 (fun r8 => ifW (!r8) (k7 true) (k7 (decide (50 < (times_1.length : Int))))))

def L_spec_l1In (n_0 : Int) (lo_1 : Int) (hi_2 : Int) (κ : Bool → Prop) : Prop :=
  jnW (fun (t1 : Bool) => κ t1) (fun k2 => ifW (decide (lo_1 ≤ n_0)) (k2 (decide (n_0 ≤ hi_2))) (k2 false))

def L_spec_BucketValid (b_0 : GBucket) (κ : Bool → Prop) : Prop :=
  jnW (fun (t3 : Bool) => κ t3) (fun k4 => L_spec_l1In b_0.xSize 1 100 (fun r5 => ifW r5 (L_spec_l1In b_0.xEvery 1 1000 (fun r6 => ifW r6 (L_spec_l1In b_0.xTokens 0 b_0.xSize (fun r7 => ifW r7 (L_spec_l1In b_0.xLast 0 1000000 (fun r8 => k4 r8)) (k4 false))) (k4 false))) (k4 false)))

def L_spec_BucketAt (b_0 : GBucket) (now_1 : Int) (κ : GBucket → Prop) : Prop :=
  jnW (fun (t5 : Bool) => ifW t5 (κ (GBucket.mk 0 0 0 0)) (subW now_1 b_0.xLast (fun t9 => quoW t9 b_0.xEvery (fun t10 => addW b_0.xTokens t10 (fun t11 => ifW (decide (b_0.xSize ≤ t11)) (κ (GBucket.mk b_0.xSize b_0.xEvery b_0.xSize now_1)) (addW b_0.xTokens t10 (fun t12 => mulW t10 b_0.xEvery (fun t13 => addW b_0.xLast t13 (fun t14 => κ (GBucket.mk b_0.xSize b_0.xEvery t12 t14)))))))))) (fun k6 => L_spec_BucketValid b_0 (fun r7 => ifW (!r7) (k6 true) (L_spec_l1In now_1 b_0.xLast 1000000 (fun r8 => k6 (!r8)))))

def L_spec_TakeToken (b_0 : GBucket) (now_1 : Int) (κ : (GBucket × Bool) → Prop) : Prop :=
  jnW (fun (t5 : Bool) => ifW t5 (κ ((GBucket.mk 0 0 0 0), false)) (L_spec_BucketAt b_0 now_1 (fun r9 => ifW (decide (r9.xTokens = 0)) (κ (r9, false)) (subW r9.xTokens 1 (fun t10 => κ ((GBucket.mk r9.xSize r9.xEvery t10 r9.xLast), true)))))) (fun k6 => L_spec_BucketValid b_0 (fun r7 => ifW (!r7) (k6 true) (L_spec_l1In now_1 b_0.xLast 1000000 (fun r8 => k6 (!r8)))))

def L_spec_TakeMany (b_0 : GBucket) (times_1 : (List Int)) (κ : (List Bool) → Prop) : Prop :=
  jnW (fun (t8 : Bool) => ifW t8 (κ ([])) (loopW (fun (nx20 : (Int × Int × Int × Int × (List Bool) × Int) → Prop) ((t11, t12, t13, t14, xs16, t19) : (Int × Int × Int × Int × (List Bool) × Int)) => ifW (decide (t19 < (times_1.length : Int))) (jnW (fun ((t21, t22, t23, t24, xs25) : (Int × Int × Int × Int × (List Bool))) => addW t19 1 (fun t67 => nx20 (t21, t22, t23, t24, xs25, t67))) (fun k28 => jnW (fun (t29 : Bool) => ifW t29 (κ ([])) (idxW times_1 t19 (fun e41 => L_spec_TakeToken (GBucket.mk t11 t12 t13 t14) e41 (fun (r43, r44) => appW xs16 ([r44]) (fun _ => k28 (r43.xSize, r43.xEvery, r43.xTokens, r43.xLast, (xs16 ++ ([r44])))))))) (fun k30 => idxW times_1 t19 (fun e31 => L_spec_l1In e31 t14 1000000 (fun r33 => ifW (!r33) (k30 true) (ifW (decide (0 < t19)) (idxW times_1 t19 (fun e34 => subW t19 1 (fun t36 => idxW times_1 t36 (fun e37 => k30 (decide (e34 < e37)))))) (k30 false))))))) (κ xs16)) (b_0.xSize, b_0.xEvery, b_0.xTokens, b_0.xLast, [], 0))) (fun k9 => L_spec_BucketValid b_0 (fun r10 => ifW (!r10) (k9 true) (k9 (decide (50 < (times_1.length : Int))))))

def L_laws_toIntS (a_0 : (List Int)) (κ : (List Int) → Prop) : Prop :=
  makeW (0 : Int) (a_0.length : Int) (a_0.length : Int) (fun xs5 => loopW (fun (nx10 : ((List Int) × Int) → Prop) ((xs7, t9) : ((List Int) × Int)) => ifW (decide (t9 < (a_0.length : Int))) (idxW a_0 t9 (fun e11 => idxW xs7 t9 (fun e13 => addW t9 1 (fun t16 => nx10 ((xs7.set t9.toNat e11), t16))))) (κ xs7)) (xs5, 0))

def L_laws_eqBoolS (a_0 : (List Bool)) (b_1 : (List Bool)) (κ : Bool → Prop) : Prop :=
  ifW (!(decide ((a_0.length : Int) = (b_1.length : Int)))) (κ false) (loopW (fun (nx6 : Int → Prop) (t5 : Int) => ifW (decide (t5 < (a_0.length : Int))) (idxW a_0 t5 (fun e7 => idxW b_1 t5 (fun e9 => ifW (!(decide (e7 = e9))) (κ false) (addW t5 1 (fun t11 => nx6 t11))))) (κ true)) 0)

def L_laws_eqIntS (a_0 : (List Int)) (b_1 : (List Int)) (κ : Bool → Prop) : Prop :=
  ifW (!(decide ((a_0.length : Int) = (b_1.length : Int)))) (κ false) (loopW (fun (nx6 : Int → Prop) (t5 : Int) => ifW (decide (t5 < (a_0.length : Int))) (idxW a_0 t5 (fun e7 => idxW b_1 t5 (fun e9 => ifW (!(decide (e7 = e9))) (κ false) (addW t5 1 (fun t11 => nx6 t11))))) (κ true)) 0)

def L_laws_markIntS (a_0 : (List Int)) (k_1 : Int) (κ : (Int × (List Int)) → Prop) : Prop :=
  loopW (fun (nx7 : ((List Int) × Int × Int) → Prop) ((xs3, t5, t6) : ((List Int) × Int × Int)) => ifW (decide (t6 < (xs3.length : Int))) (idxW xs3 t6 (fun e8 => addW t5 1 (fun t11 => addW t6 1 (fun t12 => nx7 ((xs3.set t6.toNat t5), t11, t12))))) (κ (t5, xs3))) (a_0, k_1, 0)

def L_laws_markBoolS (a_0 : (List Bool)) (k_1 : Int) (κ : (Int × (List Bool)) → Prop) : Prop :=
  loopW (fun (nx7 : ((List Bool) × Int × Int) → Prop) ((xs3, t5, t6) : ((List Bool) × Int × Int)) => ifW (decide (t6 < (xs3.length : Int))) (remW t5 3 (fun t8 => idxW xs3 t6 (fun e9 => addW t5 1 (fun t12 => addW t6 1 (fun t13 => nx7 ((xs3.set t6.toNat (decide (t8 = 0))), t12, t13)))))) (κ (t5, xs3))) (a_0, k_1, 0)

def L_laws_heldBoolS (a_0 : (List Bool)) (k_1 : Int) (κ : Int → Prop) : Prop :=
  loopW (fun (nx5 : (Int × Int) → Prop) ((t3, t4) : (Int × Int)) => ifW (decide (t4 < (a_0.length : Int))) (idxW a_0 t4 (fun e6 => remW t3 3 (fun t8 => ifW (!(decide (e6 = (decide (t8 = 0))))) (κ (-1)) (addW t3 1 (fun t9 => addW t4 1 (fun t10 => nx5 (t9, t10))))))) (κ t3)) (k_1, 0)

def L_laws_FnExactTakeMany (aB_0 : GBucket) (aTimes_1 : (List Int)) (κ : Bool → Prop) : Prop :=
  ifW (decide (1048576 < (aTimes_1.length : Int))) (κ true) (L_laws_toBucket aB_0 (fun r5 => L_laws_toIntS aTimes_1 (fun r6 => L_spec_TakeMany r5 r6 (fun r9 => L_laws_toIntS aTimes_1 (fun r12 => L_laws_toBucket aB_0 (fun r15 => L_impl_TakeMany r15 r12 (fun r16 => L_laws_eqBoolS r16 r9 (fun r19 => ifW (!r19) (κ false) (L_laws_toIntS aTimes_1 (fun r20 => L_laws_eqIntS r12 r20 (fun r23 => ifW (!r23) (κ false) (L_laws_markIntS r12 1 (fun (r24, r25) => jnW (fun (t27 : Bool) => ifW t27 (κ false) (L_laws_markBoolS r16 1 (fun (r30, r31) => L_laws_heldBoolS r31 1 (fun r33 => ifW (decide (r33 < 0)) (κ false) (ifW (!(decide (r33 = r30))) (κ false) (L_laws_toBucket aB_0 (fun r34 => L_laws_toIntS aTimes_1 (fun r35 => L_impl_TakeMany r34 r35 (fun r38 => L_laws_eqBoolS r38 r9 (fun r41 => ifW (!r41) (κ false) (L_laws_heldBoolS r31 1 (fun r42 => ifW (decide (r42 < 0)) (κ false) (ifW (!(decide (r42 = r30))) (κ false) (κ true)))))))))))))) (fun k28 => ifW (decide (r24 < 0)) (k28 true) (L_laws_eqBoolS r16 r9 (fun r29 => k28 (!r29)))))))))))))))))

end Go.Proofs.Ytcinklbbacmihaa
