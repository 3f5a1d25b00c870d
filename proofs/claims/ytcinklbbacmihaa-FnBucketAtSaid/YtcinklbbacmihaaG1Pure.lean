/- The pure forms of the functions of this seat (printed). -/
import Derived.Test.YtcinklbbacmihaaEls
set_option linter.unusedSimpArgs false
set_option linter.unusedVariables false
namespace Go.Proofs.Ytcinklbbacmihaa
open Go.RowKit
structure GBucket where
  xSize : Int
  xEvery : Int
  xTokens : Int
  xLast : Int
  deriving DecidableEq
def encGBucket (x : GBucket) : List Value := [(.int .i64 x.xSize), (.int .i64 x.xEvery), (.int .i64 x.xTokens), (.int .i64 x.xLast)]
def elGBucket : El GBucket := El.flat 4 encGBucket (by decide) (fun _ => rfl) (fun x u h => by simp only [encGBucket, List.mem_cons, List.not_mem_nil, or_false] at h; rcases h with rfl | rfl | rfl | rfl <;> rfl)
theorem flelGBucket : Flat elGBucket encGBucket := flat_flat
structure GSpan where
  xLo : Int
  xHi : Int
  deriving DecidableEq
def encGSpan (x : GSpan) : List Value := [(.int .i64 x.xLo), (.int .i64 x.xHi)]
def elGSpan : El GSpan := El.flat 2 encGSpan (by decide) (fun _ => rfl) (fun x u h => by simp only [encGSpan, List.mem_cons, List.not_mem_nil, or_false] at h; rcases h with rfl | rfl <;> rfl)
theorem flelGSpan : Flat elGSpan encGSpan := flat_flat

def L_laws_toBucket (a_0 : GBucket) (κ : GBucket → Prop) : Prop :=
  κ a_0

def L_impl_timeValid (now_0 : Int) (κ : Bool → Prop) : Prop :=
  jnW (fun (t1 : Bool) => κ t1) (fun k2 => ifW (decide (0 ≤ now_0)) (k2 (decide (now_0 ≤ 1000000))) (k2 false))

def L_impl_BucketValid (b_0 : GBucket) (κ : Bool → Prop) : Prop :=
  jnW (fun (t3 : Bool) => κ t3) (fun k4 => ifW (decide (1 ≤ b_0.xSize)) (ifW (decide (b_0.xSize ≤ 100)) (ifW (decide (1 ≤ b_0.xEvery)) (ifW (decide (b_0.xEvery ≤ 1000)) (ifW (decide (0 ≤ b_0.xTokens)) (ifW (decide (b_0.xTokens ≤ b_0.xSize)) (L_impl_timeValid b_0.xLast (fun r5 => k4 r5)) (k4 false)) (k4 false)) (k4 false)) (k4 false)) (k4 false)) (k4 false))

def L_impl_Bucket_fullAt (b_0 : GBucket) (κ : Int → Prop) : Prop :=
  subW b_0.xSize b_0.xTokens (fun t3 => mulW t3 b_0.xEvery (fun t4 => addW b_0.xLast t4 (fun t5 => κ t5)))

def L_impl_Bucket_at (b_0 : GBucket) (now_1 : Int) (κ : GBucket → Prop) : Prop :=
  L_impl_Bucket_fullAt b_0 (fun r5 => ifW (decide (r5 ≤ now_1)) (κ (GBucket.mk b_0.xSize b_0.xEvery b_0.xSize now_1)) (subW now_1 b_0.xLast (fun t6 => quoW t6 b_0.xEvery (fun t7 => addW b_0.xTokens t7 (fun t8 => mulW t7 b_0.xEvery (fun t9 => addW b_0.xLast t9 (fun t10 => κ (GBucket.mk b_0.xSize b_0.xEvery t8 t10))))))))

def L_impl_Bucket_take (b_0 : GBucket) (now_1 : Int) (κ : (GBucket × Bool) → Prop) : Prop :=
  L_impl_Bucket_at b_0 now_1 (fun r5 => ifW (decide (r5.xTokens = 0)) (κ (r5, false)) (subW r5.xTokens 1 (fun t6 => κ ((GBucket.mk r5.xSize r5.xEvery t6 r5.xLast), true))))

def L_impl_TakeMany (b_0 : GBucket) (times_1 : (List Int)) (κ : (List Bool) → Prop) : Prop :=
  jnW (fun (t6 : Bool) => ifW t6 (κ ([])) (loopW (fun (nx12 : (Int × Int) → Prop) ((t10, t11) : (Int × Int)) => ifW (decide (t11 < (times_1.length : Int))) (idxW times_1 t11 (fun e13 => jnW (fun (t15 : Bool) => ifW t15 (κ ([])) (addW t11 1 (fun t18 => nx12 (e13, t18)))) (fun k16 => ifW (decide (e13 < t10)) (k16 true) (k16 (decide (1000000 < e13)))))) (makeW (false : Bool) (times_1.length : Int) (times_1.length : Int) (fun xs20 => loopW (fun (nx29 : ((List Bool) × Int × Int × Int × Int × Int) → Prop) ((xs22, t24, t25, t26, t27, t28) : ((List Bool) × Int × Int × Int × Int × Int)) => ifW (decide (t28 < (times_1.length : Int))) (idxW times_1 t28 (fun e30 => L_impl_Bucket_take (GBucket.mk t24 t25 t26 t27) e30 (fun (r32, r33) => idxW xs22 t28 (fun e34 => addW t28 1 (fun t37 => nx29 ((xs22.set t28.toNat r33), r32.xSize, r32.xEvery, r32.xTokens, r32.xLast, t37)))))) (κ xs22)) (xs20, b_0.xSize, b_0.xEvery, b_0.xTokens, b_0.xLast, 0)))) (b_0.xLast, 0))) (fun k7 => L_impl_BucketValid b_0 (fun r8 => ifW (!r8) (k7 true) (k7 (decide (50 < (times_1.length : Int))))))

def L_spec_l1In (n_0 : Int) (lo_1 : Int) (hi_2 : Int) (κ : Bool → Prop) : Prop :=
  jnW (fun (t1 : Bool) => κ t1) (fun k2 => ifW (decide (lo_1 ≤ n_0)) (k2 (decide (n_0 ≤ hi_2))) (k2 false))

def L_spec_BucketValid (b_0 : GBucket) (κ : Bool → Prop) : Prop :=
  jnW (fun (t3 : Bool) => κ t3) (fun k4 => L_spec_l1In b_0.xSize 1 100 (fun r5 => ifW r5 (L_spec_l1In b_0.xEvery 1 1000 (fun r6 => ifW r6 (L_spec_l1In b_0.xTokens 0 b_0.xSize (fun r7 => ifW r7 (L_spec_l1In b_0.xLast 0 1000000 (fun r8 => k4 r8)) (k4 false))) (k4 false))) (k4 false)))

def L_spec_BucketAt (b_0 : GBucket) (now_1 : Int) (κ : GBucket → Prop) : Prop :=
  jnW (fun (t5 : Bool) => ifW t5 (κ (GBucket.mk 0 0 0 0)) (subW now_1 b_0.xLast (fun t9 => quoW t9 b_0.xEvery (fun t10 => addW b_0.xTokens t10 (fun t11 => ifW (decide (b_0.xSize ≤ t11)) (κ (GBucket.mk b_0.xSize b_0.xEvery b_0.xSize now_1)) (addW b_0.xTokens t10 (fun t12 => mulW t10 b_0.xEvery (fun t13 => addW b_0.xLast t13 (fun t14 => κ (GBucket.mk b_0.xSize b_0.xEvery t12 t14)))))))))) (fun k6 => L_spec_BucketValid b_0 (fun r7 => ifW (!r7) (k6 true) (L_spec_l1In now_1 b_0.xLast 1000000 (fun r8 => k6 (!r8)))))

def L_spec_TakeToken (b_0 : GBucket) (now_1 : Int) (κ : (GBucket × Bool) → Prop) : Prop :=
  jnW (fun (t5 : Bool) => ifW t5 (κ ((GBucket.mk 0 0 0 0), false)) (L_spec_BucketAt b_0 now_1 (fun r9 => ifW (decide (r9.xTokens = 0)) (κ (r9, false)) (subW r9.xTokens 1 (fun t10 => κ ((GBucket.mk r9.xSize r9.xEvery t10 r9.xLast), true)))))) (fun k6 => L_spec_BucketValid b_0 (fun r7 => ifW (!r7) (k6 true) (L_spec_l1In now_1 b_0.xLast 1000000 (fun r8 => k6 (!r8)))))

def L_spec_TakeMany (b_0 : GBucket) (times_1 : (List Int)) (κ : (List Bool) → Prop) : Prop :=
  jnW (fun (t8 : Bool) => ifW t8 (κ ([])) (loopW (fun (nx20 : (Int × Int × Int × Int × (List Bool) × Int) → Prop) ((t11, t12, t13, t14, xs16, t19) : (Int × Int × Int × Int × (List Bool) × Int)) => ifW (decide (t19 < (times_1.length : Int))) (jnW (fun (t21 : Bool) => ifW t21 (κ ([])) (jnW (fun ((t34, t35, t36, t37, t38) : (Int × Int × Int × Int × Bool)) => appW xs16 ([t38]) (fun _ => addW t19 1 (fun t52 => nx20 (t34, t35, t36, t37, (xs16 ++ ([t38])), t52)))) (fun k39 => idxW times_1 t19 (fun e40 => L_spec_TakeToken (GBucket.mk t11 t12 t13 t14) e40 (fun (r42, r43) => k39 (r42.xSize, r42.xEvery, r42.xTokens, r42.xLast, r43)))))) (fun k22 => idxW times_1 t19 (fun e23 => L_spec_l1In e23 t14 1000000 (fun r25 => ifW (!r25) (k22 true) (ifW (decide (0 < t19)) (idxW times_1 t19 (fun e26 => subW t19 1 (fun t28 => idxW times_1 t28 (fun e29 => k22 (decide (e26 < e29)))))) (k22 false)))))) (κ xs16)) (b_0.xSize, b_0.xEvery, b_0.xTokens, b_0.xLast, [], 0))) (fun k9 => L_spec_BucketValid b_0 (fun r10 => ifW (!r10) (k9 true) (k9 (decide (50 < (times_1.length : Int))))))

def L_laws_toIntS (a_0 : (List Int)) (κ : (List Int) → Prop) : Prop :=
  makeW (0 : Int) (a_0.length : Int) (a_0.length : Int) (fun xs5 => loopW (fun (nx10 : ((List Int) × Int) → Prop) ((xs7, t9) : ((List Int) × Int)) => ifW (decide (t9 < (a_0.length : Int))) (idxW a_0 t9 (fun e11 => idxW xs7 t9 (fun e13 => addW t9 1 (fun t16 => nx10 ((xs7.set t9.toNat e11), t16))))) (κ xs7)) (xs5, 0))

def L_laws_eqBoolS (a_0 : (List Bool)) (b_1 : (List Bool)) (κ : Bool → Prop) : Prop :=
  ifW (!(decide ((a_0.length : Int) = (b_1.length : Int)))) (κ false) (loopW (fun (nx6 : Int → Prop) (t5 : Int) => ifW (decide (t5 < (a_0.length : Int))) (idxW a_0 t5 (fun e7 => idxW b_1 t5 (fun e9 => ifW (!(decide (e7 = e9))) (κ false) (addW t5 1 (fun t11 => nx6 t11))))) (κ true)) 0)

def L_laws_eqIntS (a_0 : (List Int)) (b_1 : (List Int)) (κ : Bool → Prop) : Prop :=
  ifW (!(decide ((a_0.length : Int) = (b_1.length : Int)))) (κ false) (loopW (fun (nx6 : Int → Prop) (t5 : Int) => ifW (decide (t5 < (a_0.length : Int))) (idxW a_0 t5 (fun e7 => idxW b_1 t5 (fun e9 => ifW (!(decide (e7 = e9))) (κ false) (addW t5 1 (fun t11 => nx6 t11))))) (κ true)) 0)

def L_laws_markIntS (a_0 : (List Int)) (k_1 : Int) (κ : (Int × (List Int)) → Prop) : Prop :=
  loopW (fun (nx7 : ((List Int) × Int × Int) → Prop) ((xs3, t5, t6) : ((List Int) × Int × Int)) => ifW (decide (t6 < (xs3.length : Int))) (idxW xs3 t6 (fun e8 => addW t5 1 (fun t11 => addW t6 1 (fun t12 => nx7 ((xs3.set t6.toNat t5), t11, t12))))) (κ (t5, xs3))) (a_0, k_1, 0)

def L_laws_markBoolS (a_0 : (List Bool)) (k_1 : Int) (κ : (Int × (List Bool)) → Prop) : Prop :=
  loopW (fun (nx7 : ((List Bool) × Int × Int) → Prop) ((xs3, t5, t6) : ((List Bool) × Int × Int)) => ifW (decide (t6 < (xs3.length : Int))) (remW t5 3 (fun t8 => idxW xs3 t6 (fun e9 => addW t5 1 (fun t12 => addW t6 1 (fun t13 => nx7 ((xs3.set t6.toNat (decide (t8 = 0))), t12, t13)))))) (κ (t5, xs3))) (a_0, k_1, 0)

def L_laws_heldBoolS (a_0 : (List Bool)) (k_1 : Int) (κ : Int → Prop) : Prop :=
  loopW (fun (nx5 : (Int × Int) → Prop) ((t3, t4) : (Int × Int)) => ifW (decide (t4 < (a_0.length : Int))) (idxW a_0 t4 (fun e6 => remW t3 3 (fun t8 => ifW (!(decide (e6 = (decide (t8 = 0))))) (κ (-1)) (addW t3 1 (fun t9 => addW t4 1 (fun t10 => nx5 (t9, t10))))))) (κ t3)) (k_1, 0)

def L_laws_FnExactTakeMany (aB_0 : GBucket) (aTimes_1 : (List Int)) (κ : Bool → Prop) : Prop :=
  ifW (decide (1048576 < (aTimes_1.length : Int))) (κ true) (L_laws_toBucket aB_0 (fun r5 => L_laws_toIntS aTimes_1 (fun r6 => L_spec_TakeMany r5 r6 (fun r9 => L_laws_toIntS aTimes_1 (fun r12 => L_laws_toBucket aB_0 (fun r15 => L_impl_TakeMany r15 r12 (fun r16 => L_laws_eqBoolS r16 r9 (fun r19 => ifW (!r19) (κ false) (L_laws_toIntS aTimes_1 (fun r20 => L_laws_eqIntS r12 r20 (fun r23 => ifW (!r23) (κ false) (L_laws_markIntS r12 1 (fun (r24, r25) => jnW (fun (t27 : Bool) => ifW t27 (κ false) (L_laws_markBoolS r16 1 (fun (r30, r31) => L_laws_heldBoolS r31 1 (fun r33 => ifW (decide (r33 < 0)) (κ false) (ifW (!(decide (r33 = r30))) (κ false) (L_laws_toBucket aB_0 (fun r34 => L_laws_toIntS aTimes_1 (fun r35 => L_impl_TakeMany r34 r35 (fun r38 => L_laws_eqBoolS r38 r9 (fun r41 => ifW (!r41) (κ false) (L_laws_heldBoolS r31 1 (fun r42 => ifW (decide (r42 < 0)) (κ false) (ifW (!(decide (r42 = r30))) (κ false) (κ true)))))))))))))) (fun k28 => ifW (decide (r24 < 0)) (k28 true) (L_laws_eqBoolS r16 r9 (fun r29 => k28 (!r29)))))))))))))))))

def L_impl_SpansHave (list_0 : (List GSpan)) (n_1 : Int) (κ : Bool → Prop) : Prop :=
  loopW (fun (nx4 : Int → Prop) (t3 : Int) => ifW (decide (t3 < (list_0.length : Int))) (idxW list_0 t3 (fun e5 => jnW (fun (t9 : Bool) => ifW t9 (κ true) (addW t3 1 (fun t11 => nx4 t11))) (fun k10 => ifW (decide (e5.xLo ≤ n_1)) (k10 (decide (n_1 ≤ e5.xHi))) (k10 false)))) (κ false)) 0

def L_laws_alive (κ : Bool → Prop) : Prop :=
  L_impl_SpansHave ([(GSpan.mk 2 4)]) 3 (fun r3 => κ r3)

def L_spec_l20Rd_pick (r_0_b : (List UInt8)) (r_0_p : Int) (n_1 : Int) (κ : (Int × Int) → Prop) : Prop :=
  addW r_0_p 1 (fun t5 => jnW (fun (t6 : Bool) => ifW t6 (κ (0, t5)) (subW t5 1 (fun t8 => ifW (decide (t8 < (r_0_b.length : Int))) (idxW r_0_b t8 (fun e9 => remW (e9.toNat : Int) n_1 (fun t11 => κ (t11, t5)))) (remW t8 (r_0_b.length : Int) (fun t12 => idxW r_0_b t12 (fun e13 => mulW (e13.toNat : Int) 131 (fun t15 => mulW t8 7 (fun t16 => addW t16 3 (fun t17 => remW t17 (r_0_b.length : Int) (fun t18 => idxW r_0_b t18 (fun e19 => mulW (e19.toNat : Int) 1117 (fun t21 => addW t15 t21 (fun t22 => mulW t8 29 (fun t23 => addW t22 t23 (fun t24 => quoW t8 (r_0_b.length : Int) (fun t25 => mulW t25 53 (fun t26 => addW t24 t26 (fun t27 => quoW t27 64 (fun t28 => xorW t27 t28 (fun t29 => remW t29 n_1 (fun t30 => κ (t30, t5)))))))))))))))))))))) (fun k7 => ifW (decide (n_1 < 1)) (k7 true) (k7 (decide ((r_0_b.length : Int) = 0)))))

def L_spec_l20Rd_odd (r_0_b : (List UInt8)) (r_0_p : Int) (n_1 : Int) (κ : (Bool × Int) → Prop) : Prop :=
  jnW (fun ((t5, t6) : (Int × Bool)) => κ (t6, t5)) (fun k7 => ifW (decide (0 < n_1)) (L_spec_l20Rd_pick r_0_b r_0_p n_1 (fun (r8, r9) => subW n_1 1 (fun t10 => k7 (r9, (decide (r8 = t10)))))) (k7 (r_0_p, false)))

def L_spec_l20Bucket (r_0_b : (List UInt8)) (r_0_p : Int) (n_1 : Int) (κ : (GBucket × Int) → Prop) : Prop :=
  L_spec_l20Rd_pick r_0_b r_0_p 5 (fun (r7, r8) => addW 1 r7 (fun t9 => L_spec_l20Rd_pick r_0_b r8 20 (fun (r10, r11) => addW 1 r10 (fun t12 => L_spec_l20Rd_pick r_0_b r11 50 (fun (r13, r14) => addW t9 1 (fun t17 => L_spec_l20Rd_pick r_0_b r14 t17 (fun (r18, r19) => jnW (fun ((t20, t21, t22, t23, t24) : (Int × Int × Int × Int × Int)) => κ ((GBucket.mk t21 t22 t23 t24), t20)) (fun k25 => L_spec_l20Rd_odd r_0_b r19 n_1 (fun (r26, r27) => ifW r26 (L_spec_l20Rd_pick r_0_b r27 4 (fun (r28, r29) => ifW (decide (r28 = 0)) (L_spec_l20Rd_pick r_0_b r29 2 (fun (r32, r33) => idxW ([0, 101]) r32 (fun e34 => k25 (r33, e34, t12, r18, r13)))) (ifW (decide (r28 = 1)) (L_spec_l20Rd_pick r_0_b r29 2 (fun (r38, r39) => idxW ([0, 1001]) r38 (fun e40 => k25 (r39, t9, e40, r18, r13)))) (ifW (decide (r28 = 2)) (jnW (fun ((t42, t43) : (Int × Int)) => k25 (t42, t9, t12, t43, r13)) (fun k44 => L_spec_l20Rd_pick r_0_b r29 2 (fun (r46, r47) => idxW ([(-1), (w64 (t9 + 1))]) r46 (fun e48 => k44 (r47, e48))))) (L_spec_l20Rd_pick r_0_b r29 2 (fun (r58, r59) => idxW ([(-1), 1000001]) r58 (fun e60 => k25 (r59, t9, t12, r18, e60)))))))) (k25 (r27, t9, t12, r18, r13)))))))))))

def L_spec_l20Open (code_0 : (List UInt8)) (κ : ((List UInt8) × Int) → Prop) : Prop :=
  jnW (fun (xs4 : (List UInt8)) => κ (xs4, 0)) (fun k7 => ifW (decide (2000 < (code_0.length : Int))) (sliceW code_0 0 2000 (fun xs9 => k7 xs9)) (k7 code_0))

def L_spec_DrawTakeMany (code_0 : (List UInt8)) (κ : (GBucket × (List Int)) → Prop) : Prop :=
  L_spec_l20Open code_0 (fun (r8, r11) => L_spec_l20Bucket r8 r11 14 (fun (r13, r14) => L_spec_l20Rd_pick r8 r14 14 (fun (r19, r20) => loopW (fun (nx28 : (Int × Int × (List Int) × Int) → Prop) ((t21, t22, xs24, t27) : (Int × Int × (List Int) × Int)) => ifW (decide (0 < t27)) (L_spec_l20Rd_pick r8 t21 9 (fun (r29, r30) => addW t22 r29 (fun t31 => appW xs24 ([t31]) (fun _ => subW t27 1 (fun t36 => nx28 (r30, t31, (xs24 ++ ([t31])), t36)))))) (jnW (fun ((t37, xs38) : (Int × (List Int))) => jnW (fun (xs56 : (List Int)) => κ (r13, xs56)) (fun k59 => L_spec_l20Rd_odd r8 t37 24 (fun (r60, r61) => ifW r60 (makeW (0 : Int) 51 51 (fun xs63 => k59 xs63)) (k59 xs38)))) (fun k41 => L_spec_l20Rd_odd r8 t21 12 (fun (r42, r43) => ifW r42 (subW t22 1 (fun t44 => L_spec_l20Rd_pick r8 r43 2 (fun (r47, r48) => idxW ([t44, 1000001]) r47 (fun e49 => appW xs24 ([e49]) (fun _ => k41 (r48, (xs24 ++ ([e49])))))))) (k41 (r43, xs24)))))) (r20, r13.xLast, [], r19))))

def L_laws_FnTakeMany (code_0 : (List UInt8)) (κ : Bool → Prop) : Prop :=
  ifW (decide (1048576 < (code_0.length : Int))) (κ true) (L_spec_DrawTakeMany code_0 (fun (r3, r4) => L_impl_TakeMany r3 r4 (fun r9 => L_spec_TakeMany r3 r4 (fun r12 => ifW (!(decide ((r9.length : Int) = (r12.length : Int)))) (κ false) (ifW (decide ((r9.length : Int) = 0)) (L_laws_alive (fun r15 => κ r15)) (loopW (fun (nx17 : Int → Prop) (t16 : Int) => ifW (decide (t16 < (r9.length : Int))) (idxW r9 t16 (fun e18 => idxW r12 t16 (fun e20 => ifW (!(decide (e18 = e20))) (κ false) (loopW (fun (nx24 : (Int × Int) → Prop) ((t22, t23) : (Int × Int)) => ifW (decide (t23 < (r9.length : Int))) (jnW (fun (t25 : Int) => idxW r4 t23 (fun e30 => idxW r4 t16 (fun e32 => subW e30 e32 (fun t34 => quoW t34 r3.xEvery (fun t35 => addW r3.xSize t35 (fun t36 => addW t36 1 (fun t37 => ifW (decide (t37 < t25)) (κ false) (addW t23 1 (fun t38 => nx24 (t25, t38)))))))))) (fun k26 => idxW r9 t23 (fun e27 => ifW e27 (addW t22 1 (fun t29 => k26 t29)) (k26 t22)))) (addW t16 1 (fun t39 => nx17 t39))) (0, t16))))) (κ (decide ((r9.length : Int) = (r4.length : Int))))) 0))))))

def L_laws_FnTakeSteady (code_0 : (List UInt8)) (κ : Bool → Prop) : Prop :=
  ifW (decide (1048576 < (code_0.length : Int))) (κ true) (L_spec_DrawTakeMany code_0 (fun (r3, r4) => L_impl_BucketValid r3 (fun r9 => L_spec_BucketValid r3 (fun r10 => ifW (!(decide (r9 = r10))) (κ false) (jnW (fun (t11 : Bool) => ifW t11 (L_laws_alive (fun r16 => κ r16)) (loopW (fun (nx24 : ((List Int) × Int) → Prop) ((xs20, t23) : ((List Int) × Int)) => ifW (decide (t23 ≤ 20)) (mulW t23 r3.xEvery (fun t25 => addW r3.xLast t25 (fun t26 => appW xs20 ([t26]) (fun _ => addW t23 1 (fun t31 => nx24 ((xs20 ++ ([t26])), t31)))))) (L_impl_TakeMany r3 xs20 (fun r32 => loopW (fun (nx36 : Int → Prop) (t35 : Int) => ifW (decide (t35 < (r32.length : Int))) (idxW r32 t35 (fun e37 => ifW (!e37) (κ false) (addW t35 1 (fun t39 => nx36 t39)))) (κ (decide ((r32.length : Int) = 21)))) 0))) ([], 0))) (fun k12 => L_spec_BucketValid r3 (fun r13 => ifW (!r13) (k12 true) (ifW (decide (r3.xTokens = 0)) (k12 true) (mulW 20 r3.xEvery (fun t14 => addW r3.xLast t14 (fun t15 => k12 (decide (1000000 < t15)))))))))))))

def L_impl_Bucket_canLook (b_0 : GBucket) (now_1 : Int) (κ : Bool → Prop) : Prop :=
  jnW (fun (t3 : Bool) => κ t3) (fun k4 => L_impl_BucketValid b_0 (fun r5 => ifW r5 (ifW (decide (b_0.xLast ≤ now_1)) (k4 (decide (now_1 ≤ 1000000))) (k4 false)) (k4 false)))

def L_impl_BucketAt (b_0 : GBucket) (now_1 : Int) (κ : GBucket → Prop) : Prop :=
  L_impl_Bucket_canLook b_0 now_1 (fun r5 => ifW (!r5) (κ (GBucket.mk 0 0 0 0)) (L_impl_Bucket_at b_0 now_1 (fun r6 => κ r6)))

def L_impl_TakeToken (b_0 : GBucket) (now_1 : Int) (κ : (GBucket × Bool) → Prop) : Prop :=
  L_impl_Bucket_canLook b_0 now_1 (fun r5 => ifW (!r5) (κ ((GBucket.mk 0 0 0 0), false)) (L_impl_Bucket_take b_0 now_1 (fun (r6, r7) => κ (r6, r7))))

def L_spec_l20Later (r_0_b : (List UInt8)) (r_0_p : Int) (κ : (GBucket × Int × Int) → Prop) : Prop :=
  L_spec_l20Bucket r_0_b r_0_p 12 (fun (r7, r8) => jnW (fun ((t11, t12) : (Int × Int)) => κ (r7, t12, t11)) (fun k13 => L_spec_l20Rd_pick r_0_b r8 120 (fun (r14, r15) => L_spec_l20Rd_pick r_0_b r15 8 (fun (r18, r19) => idxW ([0, 0, 0, 0, 0, 1, 2, 3]) r18 (fun e20 => idxW ([(w64 (r7.xLast + r14)), (w64 (r7.xLast - 1)), 1000000, 1000001]) e20 (fun e22 => k13 (r19, e22)))))))

def L_spec_DrawTakeToken (code_0 : (List UInt8)) (κ : (GBucket × Int) → Prop) : Prop :=
  L_spec_l20Open code_0 (fun (r7, r10) => L_spec_l20Later r7 r10 (fun (r12, r13, r14) => κ (r12, r13)))

def L_laws_FnTakeToken (code_0 : (List UInt8)) (κ : Bool → Prop) : Prop :=
  ifW (decide (1048576 < (code_0.length : Int))) (κ true) (L_spec_DrawTakeToken code_0 (fun (r3, r4) => L_impl_TakeToken r3 r4 (fun (r7, r8) => L_spec_TakeToken r3 r4 (fun (r11, r12) => jnW (fun (t15 : Bool) => ifW t15 (κ false) (jnW (fun (t17 : Bool) => ifW t17 (jnW (fun (t20 : Bool) => κ t20) (fun k21 => ifW (!r8) (ifW (decide (r7 = (GBucket.mk 0 0 0 0))) (L_laws_alive (fun r22 => k21 r22)) (k21 false)) (k21 false))) (L_impl_BucketAt r3 r4 (fun r23 => jnW (fun (t28 : Int) => jnW (fun (t41 : Bool) => κ t41) (fun k42 => ifW (decide (r8 = (decide (0 < r23.xTokens)))) (ifW (decide (t28 = r23.xTokens)) (L_impl_BucketValid r7 (fun r43 => k42 r43)) (k42 false)) (k42 false))) (fun k29 => loopW (fun (nx35 : (Int × Int × Int × Int × Int) → Prop) ((t30, t31, t32, t33, t34) : (Int × Int × Int × Int × Int)) => ifW (decide (t34 ≤ 100)) (L_impl_TakeToken (GBucket.mk t30 t31 t32 t33) r4 (fun (r36, r37) => ifW (!r37) (k29 t34) (addW t34 1 (fun t40 => nx35 (r36.xSize, r36.xEvery, r36.xTokens, r36.xLast, t40))))) (k29 t34)) (r3.xSize, r3.xEvery, r3.xTokens, r3.xLast, 0))))) (fun k18 => L_spec_BucketValid r3 (fun r19 => ifW (!r19) (k18 true) (ifW (decide (r4 < r3.xLast)) (k18 true) (k18 (decide (1000000 < r4)))))))) (fun k16 => ifW (!(decide (r7 = r11))) (k16 true) (k16 (!(decide (r8 = r12)))))))))

def L_spec_DrawBucketAt (code_0 : (List UInt8)) (κ : (GBucket × Int) → Prop) : Prop :=
  L_spec_l20Open code_0 (fun (r7, r10) => L_spec_l20Later r7 r10 (fun (r12, r13, r14) => κ (r12, r13)))

def L_laws_FnBucketAt (code_0 : (List UInt8)) (more_1 : (List UInt8)) (κ : Bool → Prop) : Prop :=
  jnW (fun (t5 : Bool) => ifW t5 (κ true) (L_spec_DrawBucketAt code_0 (fun (r7, r8) => L_impl_BucketAt r7 r8 (fun r11 => L_spec_BucketAt r7 r8 (fun r14 => ifW (!(decide (r11 = r14))) (κ false) (jnW (fun (t15 : Bool) => ifW t15 (jnW (fun (t18 : Bool) => κ t18) (fun k19 => ifW (decide (r11 = (GBucket.mk 0 0 0 0))) (L_laws_alive (fun r20 => k19 r20)) (k19 false))) (remW (more_1.length : Int) 90 (fun t21 => addW r8 t21 (fun t22 => L_impl_BucketAt r11 (min 1000000 t22) (fun r23 => L_impl_BucketAt r7 (min 1000000 t22) (fun r26 => jnW (fun (t29 : Bool) => κ t29) (fun k30 => L_impl_BucketValid r11 (fun r31 => ifW r31 (ifW (decide (r7.xTokens ≤ r11.xTokens)) (ifW (decide (r23.xTokens = r26.xTokens)) (ifW (decide (r23 = r26)) (ifW (decide (r11.xLast ≤ r8)) (ifW (decide (r11.xTokens = r11.xSize)) (k30 true) (subW r8 r11.xLast (fun t32 => k30 (decide (t32 < r7.xEvery))))) (k30 false)) (ifW (decide (r23.xTokens = r23.xSize)) (ifW (decide (r11.xLast ≤ r8)) (ifW (decide (r11.xTokens = r11.xSize)) (k30 true) (subW r8 r11.xLast (fun t33 => k30 (decide (t33 < r7.xEvery))))) (k30 false)) (k30 false))) (k30 false)) (k30 false)) (k30 false))))))))) (fun k16 => L_spec_BucketValid r7 (fun r17 => ifW (!r17) (k16 true) (ifW (decide (r8 < r7.xLast)) (k16 true) (k16 (decide (1000000 < r8)))))))))))) (fun k6 => ifW (decide (1048576 < (code_0.length : Int))) (k6 true) (k6 (decide (1048576 < (more_1.length : Int)))))

end Go.Proofs.Ytcinklbbacmihaa
