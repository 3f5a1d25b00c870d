/- Texts of this seat, put together. -/
import Derived.Test.YtdjfbceokpofmaaDoorEls
import Derived.Test.YtdjfbceokpofmaaDoorMA0
import Derived.Laws.BitsLemmas
import Derived.Shelf.SlSortCmp.WholeK
import Derived.Shelf.SlSortCmp.NoneTotal
import Derived.Test.YtdjfbceokpofmaaDoorRows
import Derived.Shelf.SlicesG.Cmp
import Derived.Shelf.SlGeneric
import Derived.StillTailTactics
import Derived.Shelf.Small.Bits
set_option linter.unusedSimpArgs false
set_option linter.unusedVariables false
set_option linter.unusedSectionVars false
namespace Go.Proofs.YtdjfbceokpofmaaDoor
section
open Go.RowKit
@[ext] structure GPrefix where
  xBase : Int
  xLength : Int
  deriving DecidableEq
def encGPrefix (x : GPrefix) : List Value := [(.int .i64 x.xBase), (.int .i64 x.xLength)]
def elGPrefix : El GPrefix := El.flat 2 encGPrefix (by decide) (fun _ => rfl) (fun x u h => by simp only [encGPrefix, List.mem_cons, List.not_mem_nil, or_false] at h; rcases h with rfl | rfl <;> rfl)
theorem flelGPrefix : Flat elGPrefix encGPrefix := flat_flat
@[ext] structure GSpan where
  xLo : Int
  xHi : Int
  deriving DecidableEq
def encGSpan (x : GSpan) : List Value := [(.int .i64 x.xLo), (.int .i64 x.xHi)]
def elGSpan : El GSpan := El.flat 2 encGSpan (by decide) (fun _ => rfl) (fun x u h => by simp only [encGSpan, List.mem_cons, List.not_mem_nil, or_false] at h; rcases h with rfl | rfl <;> rfl)
theorem flelGSpan : Flat elGSpan encGSpan := flat_flat
@[ext] structure GRewrite where
  xInside : GPrefix
  xOutside : GPrefix
  deriving DecidableEq
def encGRewrite (x : GRewrite) : List Value := [(.int .i64 x.xInside.xBase), (.int .i64 x.xInside.xLength), (.int .i64 x.xOutside.xBase), (.int .i64 x.xOutside.xLength)]
def elGRewrite : El GRewrite := El.flat 4 encGRewrite (by decide) (fun _ => rfl) (fun x u h => by simp only [encGRewrite, List.mem_cons, List.not_mem_nil, or_false] at h; rcases h with rfl | rfl | rfl | rfl <;> rfl)
theorem flelGRewrite : Flat elGRewrite encGRewrite := flat_flat
@[ext] structure GPacket where
  xFrom : Int
  xTo : Int
  xPort : Int
  xProto : Int
  deriving DecidableEq
@[ext] structure A4Int where
  x0 : Int
  x1 : Int
  x2 : Int
  x3 : Int
  deriving DecidableEq
@[ext] structure GShift where
  xWhere : GSpan
  xBy : Int
  deriving DecidableEq
def encGShift (x : GShift) : List Value := [(.int .i64 x.xWhere.xLo), (.int .i64 x.xWhere.xHi), (.int .i64 x.xBy)]
def elGShift : El GShift := El.flat 3 encGShift (by decide) (fun _ => rfl) (fun x u h => by simp only [encGShift, List.mem_cons, List.not_mem_nil, or_false] at h; rcases h with rfl | rfl | rfl <;> rfl)
theorem flelGShift : Flat elGShift encGShift := flat_flat
@[ext] structure GFieldShape where
  xName : ByteArray
  xTop : Int
  deriving DecidableEq
def encGFieldShape (x : GFieldShape) : List Value := [(.string x.xName), (.int .i64 x.xTop)]
def elGFieldShape : El GFieldShape := El.flat 2 encGFieldShape (by decide) (fun _ => rfl) (fun x u h => by simp only [encGFieldShape, List.mem_cons, List.not_mem_nil, or_false] at h; rcases h with rfl | rfl <;> rfl)
theorem flelGFieldShape : Flat elGFieldShape encGFieldShape := flat_flat
/-- what the package-level variable reads as -/
def gl_impl_fieldShapes : List GFieldShape := [⟨(ByteArray.mk #[102, 114, 111, 109]), 65535⟩, ⟨(ByteArray.mk #[116, 111]), 65535⟩, ⟨(ByteArray.mk #[112, 111, 114, 116]), 255⟩, ⟨(ByteArray.mk #[112, 114, 111, 116, 111]), 7⟩]

def L_spec_l1In (n_0 : Int) (lo_1 : Int) (hi_2 : Int) (κ : Bool → Prop) : Prop :=
  jnW (fun (t61 : Bool) => κ t61) (fun k62 => ifW (decide (lo_1 ≤ n_0)) (k62 (decide (n_0 ≤ hi_2))) (k62 false))

def L_spec_PrefixValid (p_0 : GPrefix) (κ : Bool → Prop) : Prop :=
  jnW (fun (t68 : Bool) => κ t68) (fun k69 => L_spec_l1In p_0.xLength 0 16 (fun r3 => ifW r3 (L_spec_l1In p_0.xBase 0 65535 (fun r4 => ifW r4 (subW 16 p_0.xLength (fun t5 => shlW 1 t5 (fun t6 => remW p_0.xBase t6 (fun t7 => k69 (decide (t7 = 0)))))) (k69 false))) (k69 false)))

def L_spec_PrefixSpan (p_0 : GPrefix) (κ : (GSpan × Bool) → Prop) : Prop :=
  L_spec_PrefixValid p_0 (fun r5 => ifW (!r5) (κ ((GSpan.mk 0 0), false)) (subW 16 p_0.xLength (fun t6 => shlW 1 t6 (fun t7 => addW p_0.xBase t7 (fun t8 => subW t8 1 (fun t9 => κ ((GSpan.mk p_0.xBase t9), true)))))))

def L_spec_PrefixWithin (a_0 : GPrefix) (b_1 : GPrefix) (κ : Bool → Prop) : Prop :=
  L_spec_PrefixSpan a_0 (fun (r5, r6) => L_spec_PrefixSpan b_1 (fun (r9, r10) => jnW (fun (t73 : Bool) => κ t73) (fun k74 => ifW r6 (ifW r10 (ifW (decide (r9.xLo ≤ r5.xLo)) (k74 (decide (r5.xHi ≤ r9.xHi))) (k74 false)) (k74 false)) (k74 false))))

def L_spec_RewritesValid (list_0 : (List GRewrite)) (κ : Bool → Prop) : Prop :=
  loopW (fun (nx10 : ((List GPrefix) × Int) → Prop) ((xs6, t9) : ((List GPrefix) × Int)) => ifW (decide (t9 < (list_0.length : Int))) (jnW (fun (t81 : Bool) => ifW t81 (κ false) (idxW list_0 t9 (fun e83 => idxW list_0 t9 (fun e85 => appW xs6 ([e83.xInside, e85.xOutside]) (fun _ => addW t9 1 (fun t91 => nx10 ((xs6 ++ ([e83.xInside, e85.xOutside])), t91))))))) (fun k82 => idxW list_0 t9 (fun e11 => L_spec_PrefixValid e11.xInside (fun r13 => ifW (!r13) (k82 true) (idxW list_0 t9 (fun e14 => L_spec_PrefixValid e14.xOutside (fun r16 => ifW (!r16) (k82 true) (idxW list_0 t9 (fun e17 => idxW list_0 t9 (fun e19 => k82 (!(decide (e17.xInside.xLength = e19.xOutside.xLength))))))))))))) (loopW (fun (nx93 : Int → Prop) (t92 : Int) => ifW (decide (t92 < (xs6.length : Int))) (loopW (fun (nx95 : Int → Prop) (t94 : Int) => ifW (decide (t94 < t92)) (jnW (fun (t166 : Bool) => ifW t166 (κ false) (addW t94 1 (fun t168 => nx95 t168))) (fun k167 => idxW xs6 t92 (fun e96 => idxW xs6 t94 (fun e98 => L_spec_PrefixWithin e96 e98 (fun r100 => ifW r100 (k167 true) (idxW xs6 t94 (fun e101 => idxW xs6 t92 (fun e103 => L_spec_PrefixWithin e101 e103 (fun r105 => k167 r105))))))))) (addW t92 1 (fun t169 => nx93 t169))) 0) (κ (decide ((list_0.length : Int) ≤ 10)))) 0)) ([], 0)

def L_impl_hostMask (length_0 : Int) (κ : Int → Prop) : Prop :=
  subW 16 length_0 (fun t1 => shlW 1 t1 (fun t2 => subW t2 1 (fun t3 => κ t3)))

def L_impl_PrefixValid (p_0 : GPrefix) (κ : Bool → Prop) : Prop :=
  jnW (fun (t63 : Bool) => ifW t63 (κ false) (L_impl_hostMask p_0.xLength (fun r65 => κ (decide ((bits .and .i64 p_0.xBase r65) = 0))))) (fun k64 => ifW (decide (p_0.xLength < 0)) (k64 true) (ifW (decide (16 < p_0.xLength)) (k64 true) (ifW (decide (p_0.xBase < 0)) (k64 true) (k64 (decide (65535 < p_0.xBase))))))

def L_impl_PrefixSpan (p_0 : GPrefix) (κ : (GSpan × Bool) → Prop) : Prop :=
  L_impl_PrefixValid p_0 (fun r5 => ifW (!r5) (κ ((GSpan.mk 0 0), false)) (L_impl_hostMask p_0.xLength (fun r6 => κ ((GSpan.mk p_0.xBase (bits .or .i64 p_0.xBase r6)), true))))

def L_cmp_isNaN_int (x_0 : Int) (κ : Bool → Prop) : Prop :=
  κ (!(decide (x_0 = x_0)))

def L_cmp_Compare_int (x_0 : Int) (y_1 : Int) (κ : Int → Prop) : Prop :=
  L_cmp_isNaN_int x_0 (fun r1 => L_cmp_isNaN_int y_1 (fun r2 => ifW r1 (ifW r2 (κ 0) (κ (-1))) (ifW r2 (κ 1) (ifW (decide (x_0 < y_1)) (κ (-1)) (ifW (decide (y_1 < x_0)) (κ 1) (κ 0))))))

def L_impl_RewritesValid (list_0 : (List GRewrite)) (κ : Bool → Prop) : Prop :=
  ifW (decide (10 < (list_0.length : Int))) (κ false) (mulW 2 (list_0.length : Int) (fun t3 => makeW ((GSpan.mk 0 0) : GSpan) 0 t3 (fun xs5 => loopW (fun (nx12 : ((List GSpan) × Int) → Prop) ((xs8, t11) : ((List GSpan) × Int)) => ifW (decide (t11 < (list_0.length : Int))) (idxW list_0 t11 (fun e13 => L_impl_PrefixSpan e13.xInside (fun (r17, r18) => L_impl_PrefixSpan e13.xOutside (fun (r21, r22) => jnW (fun (t85 : Bool) => ifW t85 (κ false) (appW xs8 ([r17, r21]) (fun _ => addW t11 1 (fun t91 => nx12 ((xs8 ++ ([r17, r21])), t91))))) (fun k86 => ifW (!r18) (k86 true) (ifW (!r22) (k86 true) (k86 (!(decide (e13.xInside.xLength = e13.xOutside.xLength)))))))))) (L_lib_sort (fun (a b : GSpan) => decide (a.xLo < b.xLo)) xs8 (fun r92 => loopW (fun (nx95 : Int → Prop) (t94 : Int) => ifW (decide (t94 < (r92.length : Int))) (idxW r92 t94 (fun e96 => subW t94 1 (fun t98 => idxW r92 t98 (fun e99 => ifW (decide (e96.xLo ≤ e99.xHi)) (κ false) (addW t94 1 (fun t101 => nx95 t101)))))) (κ true)) 1))) (xs5, 0))))

def L_impl_Packet_fields (p_0 : GPacket) (κ : A4Int → Prop) : Prop :=
  κ (A4Int.mk p_0.xFrom p_0.xTo p_0.xPort p_0.xProto)

def L_impl_FieldTop (n_0 : Int) (κ : Int → Prop) : Prop :=
  jnW (fun (t61 : Bool) => ifW t61 (κ (-1)) (idxW gl_impl_fieldShapes n_0 (fun e63 => κ e63.xTop))) (fun k62 => ifW (decide (n_0 < 0)) (k62 true) (k62 (decide (4 ≤ n_0))))

def L_impl_PacketValid (p_0 : GPacket) (κ : Bool → Prop) : Prop :=
  L_impl_Packet_fields p_0 (fun r3 => loopW (fun (nx5 : Int → Prop) (t4 : Int) => ifW (decide (t4 < 4)) (idxW ([r3.x0, r3.x1, r3.x2, r3.x3]) t4 (fun e6 => jnW (fun (t68 : Bool) => ifW t68 (κ false) (addW t4 1 (fun t70 => nx5 t70))) (fun k69 => ifW (decide (e6 < 0)) (k69 true) (L_impl_FieldTop t4 (fun r7 => k69 (decide (r7 < e6))))))) (κ true)) 0)

def L_impl_shiftTo (from_0 : GPrefix) (to_1 : GPrefix) (κ : GShift → Prop) : Prop :=
  L_impl_PrefixSpan from_0 (fun (r7, r8) => subW to_1.xBase from_0.xBase (fun t11 => κ (GShift.mk r7 t11)))

def L_impl_Rewrite_inward (r_0 : GRewrite) (κ : GShift → Prop) : Prop :=
  L_impl_shiftTo r_0.xOutside r_0.xInside (fun r5 => κ r5)

def L_impl_mover_move_1 (s_0 : GShift) (address_1 : Int) (κ : Int → Prop) : Prop :=
  L_cmp_Compare_int s_0.xWhere.xHi address_1 (fun r3 => κ r3)

def L_slices_BinarySearchFunc_impl_mover_impl_shift_int__impl_mover_move_1 (x_0 : (List GShift)) (target_1 : Int) (κ : (Int × Bool) → Prop) : Prop :=
  loopW (fun (nx5 : (Int × Int) → Prop) ((t3, t4) : (Int × Int)) => ifW (decide (t3 < t4)) (addW t3 t4 (fun t6 => posW t6 (fun _ => shrW t6 1 (fun t7 => posW t7 (fun _ => idxW x_0 t7 (fun e8 => L_impl_mover_move_1 e8 target_1 (fun r10 => ifW (decide (r10 < 0)) (addW t7 1 (fun t11 => nx5 (t11, t4))) (nx5 (t3, t7))))))))) (jnW (fun (t75 : Bool) => κ (t3, t75)) (fun k76 => ifW (decide (t3 < (x_0.length : Int))) (idxW x_0 t3 (fun e12 => L_impl_mover_move_1 e12 target_1 (fun r14 => k76 (decide (r14 = 0))))) (k76 false)))) (0, (x_0.length : Int))

def L_impl_mover_move (m_0 : (List GShift)) (address_1 : Int) (κ : Int → Prop) : Prop :=
  L_slices_BinarySearchFunc_impl_mover_impl_shift_int__impl_mover_move_1 m_0 address_1 (fun (r3, r4) => jnW (fun (t67 : Bool) => ifW t67 (idxW m_0 r3 (fun e69 => addW address_1 e69.xBy (fun t71 => κ t71))) (κ address_1)) (fun k68 => ifW (decide (r3 < (m_0.length : Int))) (idxW m_0 r3 (fun e5 => k68 (decide (e5.xWhere.xLo ≤ address_1)))) (k68 false)))

def L_impl_moverOf__impl_Rewrite_inward (list_0 : (List GRewrite)) (κ : (List GShift) → Prop) : Prop :=
  makeW ((GShift.mk (GSpan.mk 0 0) 0) : GShift) 0 (list_0.length : Int) (fun xs5 => loopW (fun (nx12 : ((List GShift) × Int) → Prop) ((xs8, t11) : ((List GShift) × Int)) => ifW (decide (t11 < (list_0.length : Int))) (idxW list_0 t11 (fun e13 => L_impl_Rewrite_inward e13 (fun r17 => appW xs8 ([r17]) (fun _ => addW t11 1 (fun t22 => nx12 ((xs8 ++ ([r17])), t22)))))) (L_lib_sort (fun (a b : GShift) => decide (a.xWhere.xLo < b.xWhere.xLo)) xs8 (fun r23 => κ r23))) (xs5, 0))

def L_impl_RewriteIn (list_0 : (List GRewrite)) (p_1 : GPacket) (κ : GPacket → Prop) : Prop :=
  jnW (fun (t69 : Bool) => ifW t69 (κ (GPacket.mk 0 0 0 0)) (jnW (fun (t71 : Int) => κ (GPacket.mk p_1.xFrom t71 p_1.xPort p_1.xProto)) (fun k72 => L_impl_moverOf__impl_Rewrite_inward list_0 (fun r73 => L_impl_mover_move r73 p_1.xTo (fun r75 => k72 r75))))) (fun k70 => L_impl_RewritesValid list_0 (fun r7 => ifW (!r7) (k70 true) (L_impl_PacketValid p_1 (fun r8 => k70 (!r8)))))

def L_impl_Rewrite_outward (r_0 : GRewrite) (κ : GShift → Prop) : Prop :=
  L_impl_shiftTo r_0.xInside r_0.xOutside (fun r5 => κ r5)

def L_impl_moverOf__impl_Rewrite_outward (list_0 : (List GRewrite)) (κ : (List GShift) → Prop) : Prop :=
  makeW ((GShift.mk (GSpan.mk 0 0) 0) : GShift) 0 (list_0.length : Int) (fun xs5 => loopW (fun (nx12 : ((List GShift) × Int) → Prop) ((xs8, t11) : ((List GShift) × Int)) => ifW (decide (t11 < (list_0.length : Int))) (idxW list_0 t11 (fun e13 => L_impl_Rewrite_outward e13 (fun r17 => appW xs8 ([r17]) (fun _ => addW t11 1 (fun t22 => nx12 ((xs8 ++ ([r17])), t22)))))) (L_lib_sort (fun (a b : GShift) => decide (a.xWhere.xLo < b.xWhere.xLo)) xs8 (fun r23 => κ r23))) (xs5, 0))

def L_impl_RewriteOut (list_0 : (List GRewrite)) (p_1 : GPacket) (κ : GPacket → Prop) : Prop :=
  jnW (fun (t69 : Bool) => ifW t69 (κ (GPacket.mk 0 0 0 0)) (jnW (fun (t71 : Int) => κ (GPacket.mk t71 p_1.xTo p_1.xPort p_1.xProto)) (fun k72 => L_impl_moverOf__impl_Rewrite_outward list_0 (fun r73 => L_impl_mover_move r73 p_1.xFrom (fun r75 => k72 r75))))) (fun k70 => L_impl_RewritesValid list_0 (fun r7 => ifW (!r7) (k70 true) (L_impl_PacketValid p_1 (fun r8 => k70 (!r8)))))

def L_spec_l20Open (code_0 : (List UInt8)) (κ : ((List UInt8) × Int) → Prop) : Prop :=
  jnW (fun (xs68 : (List UInt8)) => κ (xs68, 0)) (fun k71 => ifW (decide (2000 < (code_0.length : Int))) (sliceW code_0 0 2000 (fun xs4 => k71 xs4)) (k71 code_0))

def L_spec_l20Rd_pick (r_0_b : (List UInt8)) (r_0_p : Int) (n_1 : Int) (κ : (Int × Int) → Prop) : Prop :=
  addW r_0_p 1 (fun t5 => jnW (fun (t66 : Bool) => ifW t66 (κ (0, t5)) (subW t5 1 (fun t68 => ifW (decide (t68 < (r_0_b.length : Int))) (idxW r_0_b t68 (fun e69 => remW (e69.toNat : Int) n_1 (fun t71 => κ (t71, t5)))) (remW t68 (r_0_b.length : Int) (fun t72 => idxW r_0_b t72 (fun e73 => mulW (e73.toNat : Int) 131 (fun t75 => mulW t68 7 (fun t76 => addW t76 3 (fun t77 => remW t77 (r_0_b.length : Int) (fun t78 => idxW r_0_b t78 (fun e79 => mulW (e79.toNat : Int) 1117 (fun t81 => addW t75 t81 (fun t82 => mulW t68 29 (fun t83 => addW t82 t83 (fun t84 => quoW t68 (r_0_b.length : Int) (fun t85 => mulW t85 53 (fun t86 => addW t84 t86 (fun t87 => quoW t87 64 (fun t88 => xorW t87 t88 (fun t89 => remW t89 n_1 (fun t90 => κ (t90, t5)))))))))))))))))))))) (fun k67 => ifW (decide (n_1 < 1)) (k67 true) (k67 (decide ((r_0_b.length : Int) = 0)))))

def L_spec_l20Rd_odd (r_0_b : (List UInt8)) (r_0_p : Int) (n_1 : Int) (κ : (Bool × Int) → Prop) : Prop :=
  jnW (fun ((t68, t69) : (Int × Bool)) => κ (t69, t68)) (fun k70 => ifW (decide (0 < n_1)) (L_spec_l20Rd_pick r_0_b r_0_p n_1 (fun (r5, r6) => subW n_1 1 (fun t7 => k70 (r6, (decide (r5 = t7)))))) (k70 (r_0_p, false)))

def L_spec_l20Rewrites (r_0_b : (List UInt8)) (r_0_p : Int) (n_1 : Int) (κ : ((List GRewrite) × Int) → Prop) : Prop :=
  L_spec_l20Rd_pick r_0_b r_0_p 5 (fun (r8, r9) => loopW (fun (nx16 : (Int × (List GRewrite) × Int) → Prop) ((t10, xs12, t15) : (Int × (List GRewrite) × Int)) => ifW (decide (0 < t15)) (jnW (fun ((xs122, t125) : ((List GRewrite) × Int)) => subW t15 1 (fun t127 => nx16 (t125, xs122, t127))) (fun k126 => L_spec_l20Rd_pick r_0_b t10 9 (fun (r17, r18) => addW 8 r17 (fun t19 => subW 16 t19 (fun t20 => shlW 1 t20 (fun t21 => jnW (fun ((t23, t24, t25) : (Int × Int × Int)) => jnW (fun (t44 : Bool) => ifW t44 (appW xs12 ([(GRewrite.mk (GPrefix.mk t23 t19) (GPrefix.mk t24 t19))]) (fun _ => k126 ((xs12 ++ ([(GRewrite.mk (GPrefix.mk t23 t19) (GPrefix.mk t24 t19))])), t25))) (k126 (xs12, t25))) (fun k45 => appW ([]) xs12 (fun _ => appW (([]) ++ xs12) ([(GRewrite.mk (GPrefix.mk t23 t19) (GPrefix.mk t24 t19))]) (fun _ => L_spec_RewritesValid ((([]) ++ xs12) ++ ([(GRewrite.mk (GPrefix.mk t23 t19) (GPrefix.mk t24 t19))])) (fun r52 => k45 r52))))) (fun k26 => L_spec_l20Rd_pick r_0_b r18 128 (fun (r27, r28) => quoW (w64 (r27 * 256)) t21 (fun t29 => L_spec_l20Rd_pick r_0_b r28 128 (fun (r30, r31) => quoW (w64 ((w64 (128 + r30)) * 256)) t21 (fun t32 => k26 ((w64 (t29 * t21)), (w64 (t32 * t21)), r31)))))))))))) (jnW (fun ((t203, xs205) : (Int × (List GRewrite))) => κ (xs205, t203)) (fun k208 => L_spec_l20Rd_odd r_0_b t10 n_1 (fun (r128, r129) => ifW r128 (L_spec_l20Rd_pick r_0_b r129 3 (fun (r130, r131) => ifW (decide (r130 = 0)) (appW xs12 ([(GRewrite.mk (GPrefix.mk 0 8) (GPrefix.mk 19712 9))]) (fun _ => k208 (r131, (xs12 ++ ([(GRewrite.mk (GPrefix.mk 0 8) (GPrefix.mk 19712 9))]))))) (ifW (decide (r130 = 1)) (appW xs12 ([(GRewrite.mk (GPrefix.mk 2304 8) (GPrefix.mk 2304 8))]) (fun _ => k208 (r131, (xs12 ++ ([(GRewrite.mk (GPrefix.mk 2304 8) (GPrefix.mk 2304 8))]))))) (makeW ((GRewrite.mk (GPrefix.mk 0 0) (GPrefix.mk 0 0)) : GRewrite) 11 11 (fun xs141 => k208 (r131, xs141)))))) (k208 (r129, xs12)))))) (r9, [], r8))

def L_spec_DrawSplitRewrite (code_0 : (List UInt8)) (κ : GRewrite → Prop) : Prop :=
  L_spec_l20Open code_0 (fun (r7, r10) => L_spec_l20Rewrites r7 r10 6 (fun (r11, r14) => ifW (decide ((r11.length : Int) = 0)) (κ (GRewrite.mk (GPrefix.mk 5 16) (GPrefix.mk 9 16))) (subW (r11.length : Int) 1 (fun t15 => idxW r11 t15 (fun e16 => κ e16)))))

def L_impl_halves (p_0 : GPrefix) (κ : (GPrefix × GPrefix) → Prop) : Prop :=
  addW p_0.xLength 1 (fun t7 => subW 16 t7 (fun t8 => shlW 1 t8 (fun t9 => κ ((GPrefix.mk p_0.xBase t7), (GPrefix.mk (bits .or .i64 p_0.xBase t9) t7)))))

def L_impl_SplitRewrite (r_0 : GRewrite) (κ : (GRewrite × GRewrite × Bool) → Prop) : Prop :=
  jnW (fun (t70 : Bool) => ifW t70 (κ ((GRewrite.mk (GPrefix.mk 0 0) (GPrefix.mk 0 0)), (GRewrite.mk (GPrefix.mk 0 0) (GPrefix.mk 0 0)), false)) (L_impl_halves r_0.xInside (fun (r72, r73) => L_impl_halves r_0.xOutside (fun (r78, r79) => κ ((GRewrite.mk r72 r78), (GRewrite.mk r73 r79), true))))) (fun k71 => L_impl_RewritesValid ([r_0]) (fun r9 => ifW (!r9) (k71 true) (k71 (decide (r_0.xInside.xLength = 16)))))

def L_spec_SplitRewrite (r_0 : GRewrite) (κ : (GRewrite × GRewrite × Bool) → Prop) : Prop :=
  jnW (fun (t70 : Bool) => ifW t70 (κ ((GRewrite.mk (GPrefix.mk 0 0) (GPrefix.mk 0 0)), (GRewrite.mk (GPrefix.mk 0 0) (GPrefix.mk 0 0)), false)) (addW r_0.xInside.xLength 1 (fun t72 => subW 16 t72 (fun t73 => shlW 1 t73 (fun t74 => addW r_0.xInside.xBase t74 (fun t77 => addW r_0.xOutside.xBase t74 (fun t78 => κ ((GRewrite.mk (GPrefix.mk r_0.xInside.xBase t72) (GPrefix.mk r_0.xOutside.xBase t72)), (GRewrite.mk (GPrefix.mk t77 t72) (GPrefix.mk t78 t72)), true)))))))) (fun k71 => L_spec_RewritesValid ([r_0]) (fun r9 => ifW (!r9) (k71 true) (k71 (decide (r_0.xInside.xLength = 16)))))

def L_impl_SpansHave (list_0 : (List GSpan)) (n_1 : Int) (κ : Bool → Prop) : Prop :=
  loopW (fun (nx4 : Int → Prop) (t3 : Int) => ifW (decide (t3 < (list_0.length : Int))) (idxW list_0 t3 (fun e5 => jnW (fun (t69 : Bool) => ifW t69 (κ true) (addW t3 1 (fun t71 => nx4 t71))) (fun k70 => ifW (decide (e5.xLo ≤ n_1)) (k70 (decide (n_1 ≤ e5.xHi))) (k70 false)))) (κ false)) 0

def L_laws_alive (κ : Bool → Prop) : Prop :=
  L_impl_SpansHave ([(GSpan.mk 2 4)]) 3 (fun r3 => κ r3)

def L_spec_l20Packet (r_0_b : (List UInt8)) (r_0_p : Int) (n_1 : Int) (κ : (GPacket × Int) → Prop) : Prop :=
  L_spec_l20Rd_pick r_0_b r_0_p 20 (fun (r7, r8) => L_spec_l20Rd_pick r_0_b r8 20 (fun (r9, r10) => L_spec_l20Rd_pick r_0_b r10 256 (fun (r11, r12) => L_spec_l20Rd_pick r_0_b r12 8 (fun (r13, r14) => jnW (fun ((t93, t94, t95, t96) : (Int × Int × Int × Int)) => jnW (fun ((t186, t187, t188, t189, t190) : (Int × Int × Int × Int × Int)) => κ ((GPacket.mk t187 t188 t189 t190), t186)) (fun k191 => L_spec_l20Rd_odd r_0_b t93 n_1 (fun (r98, r99) => ifW r98 (L_spec_l20Rd_pick r_0_b r99 4 (fun (r100, r101) => ifW (decide (r100 = 0)) (L_spec_l20Rd_pick r_0_b r101 2 (fun (r104, r105) => idxW ([(-1), 65536]) r104 (fun e106 => k191 (r105, e106, t95, t96, r13)))) (ifW (decide (r100 = 1)) (L_spec_l20Rd_pick r_0_b r101 2 (fun (r110, r111) => idxW ([(-1), 65536]) r110 (fun e112 => k191 (r111, t94, e112, t96, r13)))) (ifW (decide (r100 = 2)) (L_spec_l20Rd_pick r_0_b r101 2 (fun (r116, r117) => idxW ([(-1), 256]) r116 (fun e118 => k191 (r117, t94, t95, e118, r13)))) (L_spec_l20Rd_pick r_0_b r101 2 (fun (r122, r123) => idxW ([(-1), 8]) r122 (fun e124 => k191 (r123, t94, t95, t96, e124)))))))) (k191 (r99, t94, t95, t96, r13))))) (fun k97 => L_spec_l20Rd_pick r_0_b r14 2 (fun (r17, r18) => ifW (decide (r17 = 0)) (L_spec_l20Rd_pick r_0_b r18 256 (fun (r19, r20) => mulW r19 256 (fun t21 => L_spec_l20Rd_pick r_0_b r20 256 (fun (r22, r23) => addW t21 r22 (fun t24 => L_spec_l20Rd_pick r_0_b r23 4 (fun (r25, r26) => mulW r25 16384 (fun t27 => L_spec_l20Rd_pick r_0_b r26 256 (fun (r28, r29) => addW t27 r28 (fun t30 => L_spec_l20Rd_pick r_0_b r29 12 (fun (r31, r32) => k97 (r32, t24, t30, r31))))))))))) (k97 (r18, r7, r9, r11))))))))

def L_spec_DrawPacketNumber (code_0 : (List UInt8)) (κ : GPacket → Prop) : Prop :=
  L_spec_l20Open code_0 (fun (r7, r10) => L_spec_l20Packet r7 r10 6 (fun (r11, r12) => κ r11))

def L_laws_FnSplitRewrite (code_0 : (List UInt8)) (more_1 : (List UInt8)) (κ : Bool → Prop) : Prop :=
  jnW (fun (t65 : Bool) => ifW t65 (κ true) (L_spec_DrawSplitRewrite code_0 (fun r67 => L_impl_SplitRewrite r67 (fun (r70, r71, r72) => L_spec_SplitRewrite r67 (fun (r77, r78, r79) => jnW (fun (t144 : Bool) => ifW t144 (κ false) (ifW (!r72) (jnW (fun (t207 : Bool) => κ t207) (fun k208 => ifW (decide (r70 = (GRewrite.mk (GPrefix.mk 0 0) (GPrefix.mk 0 0)))) (ifW (decide (r71 = (GRewrite.mk (GPrefix.mk 0 0) (GPrefix.mk 0 0)))) (L_laws_alive (fun r146 => k208 r146)) (k208 false)) (k208 false))) (subW 16 r67.xInside.xLength (fun t213 => shlW 1 t213 (fun t214 => remW (more_1.length : Int) t214 (fun t215 => addW r67.xInside.xBase t215 (fun t216 => remW (more_1.length : Int) t214 (fun t217 => addW r67.xOutside.xBase t217 (fun t218 => L_spec_DrawPacketNumber more_1 (fun r221 => jnW (fun (t291 : Bool) => κ t291) (fun k292 => L_impl_RewritesValid ([r70, r71]) (fun r224 => ifW r224 (L_impl_RewriteOut ([r70, r71]) (GPacket.mk t216 t218 0 0) (fun r225 => L_impl_RewriteOut ([r67]) (GPacket.mk t216 t218 0 0) (fun r226 => ifW (decide (r225 = r226)) (L_impl_RewriteIn ([r70, r71]) (GPacket.mk t216 t218 0 0) (fun r227 => L_impl_RewriteIn ([r67]) (GPacket.mk t216 t218 0 0) (fun r228 => ifW (decide (r227 = r228)) (L_impl_RewriteOut ([r70, r71]) r221 (fun r229 => L_impl_RewriteOut ([r67]) r221 (fun r230 => k292 (decide (r229 = r230))))) (k292 false)))) (k292 false)))) (k292 false))))))))))))) (fun k145 => ifW (!(decide (r70 = r77))) (k145 true) (ifW (!(decide (r71 = r78))) (k145 true) (k145 (!(decide (r72 = r79))))))))))) (fun k66 => ifW (decide (1048576 < (code_0.length : Int))) (k66 true) (k66 (decide (1048576 < (more_1.length : Int)))))


end
section
open Go Go.Proofs

/-- a number is in one of the ranges -/
def hv (l : List GSpan) (x : Int) : Prop := ∃ s ∈ l, s.xLo ≤ x ∧ x ≤ s.xHi
def apart (a b : GSpan) : Prop := a.xHi < b.xLo ∨ b.xHi < a.xLo
theorem apart_symm {a b : GSpan} (h : apart a b) : apart b a := h.symm
theorem apart_sorted : ∀ {ys : List GSpan}, (∀ s ∈ ys, s.xLo ≤ s.xHi) → ys.Pairwise (fun a b => a.xLo ≤ b.xLo) → (ys.Pairwise apart ↔ ys.Pairwise (fun a b => a.xHi < b.xLo))
  | [], _, _ => by simp
  | s :: ys, h, hs => by
    rw [List.pairwise_cons] at hs
    rw [List.pairwise_cons, List.pairwise_cons, apart_sorted (fun t ht => h t (List.mem_cons_of_mem _ ht)) hs.2]
    refine and_congr_left fun _ => ?_
    constructor
    · intro hh t ht
      rcases hh t ht with e | e
      · exact e
      · have := hs.1 t ht; have := h t (List.mem_cons_of_mem _ ht); omega
    · exact fun hh t ht => .inl (hh t ht)
theorem chain_apart : ∀ {ys : List GSpan}, (∀ s ∈ ys, s.xLo ≤ s.xHi) → (ys.Pairwise (fun a b => a.xHi < b.xLo) ↔ ∀ n, (h : n + 1 < ys.length) → ys[n].xHi < ys[n + 1].xLo)
  | [], _ => by simp
  | [s], _ => by simp
  | s :: t :: ys, h => by
    have ih := chain_apart (ys := t :: ys) (fun u hu => h u (List.mem_cons_of_mem _ hu))
    rw [List.pairwise_cons, ih]
    constructor
    · rintro ⟨h1, h2⟩ n hn
      cases n with
      | zero => exact h1 t (by simp)
      | succ n => exact h2 n (by simpa using hn)
    · intro hh
      have h0 := hh 0 (by simp)
      have h2 : ∀ n, (h : n + 1 < (t :: ys).length) → (t :: ys)[n].xHi < (t :: ys)[n + 1].xLo := fun n hn => hh (n + 1) (by simpa using hn)
      refine ⟨fun u hu => ?_, h2⟩
      rcases List.mem_cons.1 hu with e | e
      · subst e; exact h0
      · have := (List.pairwise_cons.1 (ih.2 h2)).1 u e
        have := h t (by simp)
        simp only [List.getElem_cons_zero, List.getElem_cons_succ] at h0
        omega
theorem perm_apart {xs ys : List GSpan} (h : xs.Perm ys) : xs.Pairwise apart ↔ ys.Pairwise apart := h.pairwise_iff apart_symm

-- the sweep over sorted edges (place, step)
def sweep : List (Int × Int) → List GSpan → Int → Int → List GSpan
  | [], out, _, _ => out
  | e :: es, out, d, st => sweep es (if d + e.2 = 0 then out ++ [GSpan.mk (if d = 0 then e.1 else st) (e.1 - 1)] else out) (d + e.2) (if d = 0 then e.1 else st)
end
section


theorem ifW_t {A B : Prop} (h : A) : ifW true A B := ⟨fun _ => h, (fun e => by cases e)⟩
theorem ifW_f {A B : Prop} (h : B) : ifW false A B := ⟨(fun e => by cases e), fun _ => h⟩
theorem ifW_of {c : Bool} {A B : Prop} (ht : c = true → A) (hf : c = false → B) : ifW c A B := ⟨ht, hf⟩
@[simp] theorem ifW_true {A B : Prop} : ifW true A B = A := propext ⟨fun h => h.1 rfl, ifW_t⟩
@[simp] theorem ifW_false {A B : Prop} : ifW false A B = B := propext ⟨fun h => h.2 rfl, ifW_f⟩
theorem addW_of {x y : Int} {κ : Int → Prop} (h1 : -9223372036854775808 ≤ x + y) (h2 : x + y ≤ 9223372036854775807) (h : κ (x + y)) : addW x y κ := ⟨⟨h1, h2⟩, h⟩
theorem subW_of {x y : Int} {κ : Int → Prop} (h1 : -9223372036854775808 ≤ x - y) (h2 : x - y ≤ 9223372036854775807) (h : κ (x - y)) : subW x y κ := ⟨⟨h1, h2⟩, h⟩
theorem mulW_of {x y : Int} {κ : Int → Prop} (h1 : -9223372036854775808 ≤ x * y) (h2 : x * y ≤ 9223372036854775807) (h : κ (x * y)) : mulW x y κ := ⟨⟨h1, h2⟩, h⟩
theorem quoW_of {x y : Int} {κ : Int → Prop} (h1 : 0 ≤ x) (h2 : x ≤ 9223372036854775807) (h3 : 0 < y) (h : κ (x / y)) : quoW x y κ := ⟨h3, ⟨by omega, h2⟩, by rw [Int.tdiv_eq_ediv_of_nonneg h1]; exact h⟩
theorem remW_of {x y : Int} {κ : Int → Prop} (h1 : 0 ≤ x) (h2 : x ≤ 9223372036854775807) (h3 : 0 < y) (h : κ (x % y)) : remW x y κ := ⟨h1, h3, ⟨by omega, h2⟩, h⟩
theorem idxW_of {α : Type} {xs : List α} {i : Int} {κ : α → Prop} (n : Nat) (hi : i = n) (hn : n < xs.length) (h : κ xs[n]) : idxW xs i κ := by
  subst hi
  exact ⟨xs[n], by omega, by simp [hn], h⟩
theorem appW_of {α : Type} {xs ys : List α} {κ : List α → Prop} (h1 : xs.length + ys.length ≤ 4294967296) (h : κ (xs ++ ys)) : appW xs ys κ := ⟨h1, h⟩
theorem makeW_of {α : Type} {z : α} {n m : Int} {κ : List α → Prop} (k : Nat) (hn : n = k) (h1 : n ≤ m) (h2 : m ≤ 4294967296) (h : κ (List.replicate k z)) : makeW z n m κ := by
  subst hn
  refine ⟨by omega, h1, ?_, by simpa using h⟩
  unfold lenOk
  omega

/-- a loop that counts a place up to a length, with a state: after each round the state's law holds of the next place -/
theorem count_loop {σ : Type} {F : (σ → Prop) → σ → Prop} (len : Nat) (pos : σ → Int) (I : Nat → σ → Prop) (hpos : ∀ k s, I k s → pos s = k) (hle : ∀ k s, I k s → k ≤ len)
    (h : ∀ k s next, I k s → (k < len → ∀ s', I (k + 1) s' → next s') → F next s) {s : σ} (h0 : I 0 s) : loopW F s := by
  refine loopW_inv (fun s => ∃ k, I k s) (fun s => len - (pos s).toNat) (fun s next ⟨k, hk⟩ hn => ?_) ⟨0, h0⟩
  refine h k s next hk (fun hlt s' hs' => hn s' ⟨k + 1, hs'⟩ ?_)
  rw [hpos _ _ hk, hpos _ _ hs']
  omega

/-- the same, from a place k0 on -/
theorem count_loop_from {σ : Type} {F : (σ → Prop) → σ → Prop} (k0 len : Nat) (pos : σ → Int) (I : Nat → σ → Prop) (hpos : ∀ k s, I k s → pos s = k) (hle : ∀ k s, I k s → k ≤ len)
    (h : ∀ k s next, I k s → (k < len → ∀ s', I (k + 1) s' → next s') → F next s) {s : σ} (h0 : I k0 s) : loopW F s := by
  refine loopW_inv (fun s => ∃ k, I k s) (fun s => len - (pos s).toNat) (fun s next ⟨k, hk⟩ hn => ?_) ⟨k0, h0⟩
  refine h k s next hk (fun hlt s' hs' => hn s' ⟨k + 1, hs'⟩ ?_)
  rw [hpos _ _ hk, hpos _ _ hs']
  omega

end
section
open Go.Lib (decDigits)

def B (l : List UInt8) : ByteArray := ByteArray.mk l.toArray
/-- a digit -/
def dg (c : UInt8) : Bool := decide (48 ≤ c.toNat) && decide (c.toNat ≤ 57)
def val (l : List UInt8) : Nat := l.foldl (fun n c => 10 * n + (c.toNat - 48)) 0
/-- the number at the head of a text: at most six digits -/
def run : Nat → List UInt8 → List UInt8
  | 0, _ => []
  | _, [] => []
  | k + 1, c :: l => if dg c then c :: run k l else []
end
section


theorem u8_lt (e : UInt8) : (0 : Int) ≤ (e.toNat : Int) ∧ (e.toNat : Int) ≤ 255 := by
  have := e.toNat_lt
  omega
theorem xorW_of {x y : Int} {κ : Int → Prop} (h1 : 0 ≤ x) (h2 : x < 4611686018427387904) (h3 : 0 ≤ y) (h4 : y < 4611686018427387904) (h : ∀ z, 0 ≤ z → z < 4611686018427387904 → κ z) : xorW x y κ := by
  refine ⟨h1, h2, h3, h4, h _ (by omega) ?_⟩
  have : x.toNat ^^^ y.toNat < 2 ^ 62 := Nat.xor_lt_two_pow (by omega) (by omega)
  have e : (2 : Nat) ^ 62 = 4611686018427387904 := by decide
  rw [e] at this
  omega
theorem remW_lt {x y : Int} {κ : Int → Prop} (h1 : 0 ≤ x) (h2 : x ≤ 9223372036854775807) (h3 : 0 < y) (h : ∀ z, 0 ≤ z → z < y → κ z) : remW x y κ :=
  remW_of h1 h2 h3 (h _ (Int.emod_nonneg _ (by omega)) (Int.emod_lt_of_pos _ h3))
theorem quoW_le {x y : Int} {κ : Int → Prop} (h1 : 0 ≤ x) (h2 : x ≤ 9223372036854775807) (h3 : 0 < y) (h : ∀ z, 0 ≤ z → z ≤ x → κ z) : quoW x y κ :=
  quoW_of h1 h2 h3 (h _ (Int.ediv_nonneg h1 (by omega)) (Int.ediv_le_self _ h1))
theorem idxW_any {α : Type} {xs : List α} {i : Int} {κ : α → Prop} (h1 : 0 ≤ i) (h2 : i < xs.length) (h : ∀ x, x ∈ xs → κ x) : idxW xs i κ := by
  obtain ⟨n, rfl⟩ := Int.eq_ofNat_of_zero_le h1
  have hn : n < xs.length := by omega
  exact idxW_of n rfl hn (h _ (List.getElem_mem hn))

/-- the reader stands at p of the bytes b -/
def RdP (b : List UInt8) (p : Int) : Prop := b.length ≤ 2000 ∧ 0 ≤ p ∧ p ≤ 1000000

theorem S_pick {b : List UInt8} {p n : Int} (hr : RdP b p) {κ : Int × Int → Prop} (h : ∀ v, 0 ≤ v → (v = 0 ∨ v < n) → κ (v, p + 1)) : L_spec_l20Rd_pick b p n κ := by
  obtain ⟨hb, h0, h1⟩ := hr
  unfold L_spec_l20Rd_pick jnW
  have hz : κ (0, p + 1) := h 0 (Int.le_refl _) (.inl rfl)
  refine addW_of (by omega) (by omega) (ifW_of (fun hc => ?_) (fun hc => ifW_of (fun hc2 => ?_) (fun hc2 => ?_)))
  · simp only [ifW_true]; exact hz
  · exact hz
  · simp at hc hc2
    have hpos : 0 < (b.length : Int) := by
      cases b with
      | nil => simp at hc2
      | cons x l => simp
    refine subW_of (by omega) (by omega) ?_
    have ep : p + 1 - 1 = p := by omega
    rw [ep]
    refine ifW_of (fun hc3 => ?_) (fun hc3 => ?_)
    · simp at hc3
      refine idxW_any h0 hc3 (fun e _ => ?_)
      have := u8_lt e
      exact remW_lt (by omega) (by omega) (by omega) (fun z z1 z2 => h z z1 (.inr z2))
    · refine remW_lt h0 (by omega) hpos (fun z z1 z2 => idxW_any z1 z2 (fun e _ => ?_))
      have he := u8_lt e
      refine mulW_of (by omega) (by omega) (mulW_of (by omega) (by omega) (addW_of (by omega) (by omega) (remW_lt (by omega) (by omega) hpos (fun y y1 y2 => idxW_any y1 y2 (fun d _ => ?_)))))
      have hd := u8_lt d
      refine mulW_of (by omega) (by omega) (addW_of (by omega) (by omega) (mulW_of (by omega) (by omega) (addW_of (by omega) (by omega) (quoW_le (by omega) (by omega) hpos (fun q q1 q2 => ?_)))))
      refine mulW_of (by omega) (by omega) (addW_of (by omega) (by omega) (quoW_le (by omega) (by omega) (by omega) (fun r r1 r2 => ?_)))
      exact xorW_of (by omega) (by omega) (by omega) (by omega) (fun x x1 x2 => remW_lt x1 (by omega) (by omega) (fun z z1 z2 => h z z1 (.inr z2)))
theorem S_odd {b : List UInt8} {p n : Int} (hr : RdP b p) (hn : n ≤ 4294967296) {κ : Bool × Int → Prop} (h : ∀ c p', p ≤ p' → p' ≤ p + 1 → κ (c, p')) : L_spec_l20Rd_odd b p n κ := by
  unfold L_spec_l20Rd_odd jnW
  refine ifW_of (fun hc => S_pick hr (fun v v1 v2 => subW_of (by simp at hc; omega) (by simp at hc; omega) (h _ _ (by omega) (by omega)))) (fun hc => h _ _ (by omega) (by omega))

theorem S_l20Open {c : List UInt8} {κ : List UInt8 × Int → Prop} (h : ∀ b, b.length ≤ 2000 → κ (b, 0)) : L_spec_l20Open c κ := by
  unfold L_spec_l20Open jnW
  refine ifW_of (fun hc => ?_) (fun hc => ?_)
  · simp at hc
    refine ⟨by omega, by omega, by omega, h _ (by simp; omega)⟩
  · simp at hc
    exact h _ (by omega)
theorem S_alive {κ : Bool → Prop} (h : κ true) : L_laws_alive κ := by
  unfold L_laws_alive L_impl_SpansHave
  refine loopW_inv (fun s => s = 0) (fun s => 0) ?_ rfl
  rintro s next rfl hn
  refine ifW_of (fun _ => idxW_of 0 rfl (by simp) ?_) (fun hc => by simp at hc)
  simp [jnW]
  exact h


end
section
open Go.Lib (decDigits)

theorem wraps_i64_62 (n : Int) (h₀ : 0 ≤ n) (h₁ : n < 2 ^ 62) : IntKind.i64.wrap n = n := by
  have : (2 : Int) ^ 62 = 4611686018427387904 := by decide
  simp [IntKind.wrap, IntKind.signed, IntKind.bits]; omega
theorem and_mask (j : Nat) (hj : j < 62) (x : Int) (h0 : 0 ≤ x) (h1 : x < 4611686018427387904) : bits .and .i64 x (2 ^ j - 1) = x % 2 ^ j :=
  bits_mask .i64 62 (by decide) wraps_i64_62 j (by omega) x h0 (by have : (2 : Int) ^ 62 = 4611686018427387904 := by decide
                                                                   omega)

def PV (p : GPrefix) : Prop := 0 ≤ p.xLength ∧ p.xLength ≤ 16 ∧ 0 ≤ p.xBase ∧ p.xBase ≤ 65535 ∧ p.xBase % 2 ^ (16 - p.xLength).toNat = 0
instance (p : GPrefix) : Decidable (PV p) := by unfold PV; infer_instance
theorem S_l1In {n lo hi : Int} {κ : Bool → Prop} (h : κ (decide (lo ≤ n ∧ n ≤ hi))) : L_spec_l1In n lo hi κ := by
  unfold L_spec_l1In jnW
  refine ifW_of (fun hc => ?_) (fun hc => ?_)
  · simp at hc; simpa [hc] using h
  · simp at hc
    have : decide (lo ≤ n ∧ n ≤ hi) = false := by simp; omega
    rw [this] at h; exact h
theorem pow_bd (k : Nat) (h : k ≤ 16) : (1 : Int) ≤ 2 ^ k ∧ (2 : Int) ^ k ≤ 65536 := by
  have h1 : (2 : Nat) ^ k ≤ 2 ^ 16 := Nat.pow_le_pow_right (by decide) h
  have h2 : 1 ≤ (2 : Nat) ^ k := Nat.one_le_pow _ _ (by decide)
  have e : ((2 : Int) ^ k) = ((2 ^ k : Nat) : Int) := by simp
  have e2 : (2 : Nat) ^ 16 = 65536 := by decide
  rw [e]; omega
theorem S_spec_PrefixValid {p : GPrefix} {κ : Bool → Prop} (h : κ (decide (PV p))) : L_spec_PrefixValid p κ := by
  unfold L_spec_PrefixValid jnW
  refine S_l1In (ifW_of (fun hc => ?_) (fun hc => ?_))
  · simp at hc
    refine S_l1In (ifW_of (fun hc2 => ?_) (fun hc2 => ?_))
    · simp at hc2
      obtain ⟨b1, b2⟩ := pow_bd (16 - p.xLength).toNat (by omega)
      refine subW_of (by omega) (by omega) ⟨by omega, by omega, ⟨by omega, by omega⟩, remW_of (by omega) (by omega) (by omega) ?_⟩
      rw [Int.one_mul]
      have : decide (PV p) = decide (p.xBase % 2 ^ (16 - p.xLength).toNat = 0) := by exact decide_eq_decide.2 ⟨fun hh => hh.2.2.2.2, fun hh => ⟨hc.1, hc.2, hc2.1, hc2.2, hh⟩⟩
      rw [this] at h; exact h
    · simp at hc2
      have : decide (PV p) = false := decide_eq_false (fun hh => by obtain ⟨a1, a2, a3, a4, _⟩ := hh; omega)
      rw [this] at h; exact h
  · simp at hc
    have : decide (PV p) = false := decide_eq_false (fun hh => by obtain ⟨a1, a2, a3, a4, _⟩ := hh; omega)
    rw [this] at h; exact h
theorem S_impl_PrefixValid {p : GPrefix} {κ : Bool → Prop} (h : κ (decide (PV p))) : L_impl_PrefixValid p κ := by
  unfold L_impl_PrefixValid jnW
  have no : ¬ (0 ≤ p.xLength ∧ p.xLength ≤ 16 ∧ 0 ≤ p.xBase ∧ p.xBase ≤ 65535) → κ false := fun hn => by
    have : decide (PV p) = false := decide_eq_false (fun hh => by obtain ⟨a1, a2, a3, a4, _⟩ := hh; omega)
    rw [this] at h; exact h
  simp only [ifW_true, ifW_false]
  refine ifW_of (fun hc => no (by simp at hc; omega)) (fun hc => ifW_of (fun hc2 => no (by simp at hc2; omega)) (fun hc2 => ifW_of (fun hc3 => no (by simp at hc3; omega)) (fun hc3 => ifW_of (fun hc4 => no (by simp at hc4; omega)) (fun hc4 => ?_))))
  simp at hc hc2 hc3 hc4
  obtain ⟨b1, b2⟩ := pow_bd (16 - p.xLength).toNat (by omega)
  unfold L_impl_hostMask
  refine subW_of (by omega) (by omega) ⟨by omega, by omega, ⟨by omega, by omega⟩, subW_of (by omega) (by omega) ?_⟩
  rw [Int.one_mul]
  show κ (decide (bits .and .i64 p.xBase (2 ^ (16 - p.xLength).toNat - 1) = 0))
  rw [and_mask _ (by omega) _ (by omega) (by omega)]
  have : decide (PV p) = decide (p.xBase % 2 ^ (16 - p.xLength).toNat = 0) := decide_eq_decide.2 ⟨fun hh => hh.2.2.2.2, fun hh => ⟨hc, hc2, hc3, hc4, hh⟩⟩
  rw [this] at h; exact h

/-! ### the reader of the program -/
end
section
open Go Go.Proofs

def psz (p : GPrefix) : Int := 2 ^ (16 - p.xLength).toNat
def psp (p : GPrefix) : GSpan := GSpan.mk p.xBase (p.xBase + psz p - 1)
theorem mul_step {s a b : Int} (hs : 1 ≤ s) (h : s * a < s * b) : s * a + s ≤ s * b := by
  have h1 : a < b := Int.lt_of_mul_lt_mul_left h (by omega)
  have h2 : s * (a + 1) ≤ s * b := Int.mul_le_mul_of_nonneg_left (by omega) (by omega)
  rw [Int.mul_add, Int.mul_one] at h2
  exact h2
theorem psz_bd {p : GPrefix} (h0 : 0 ≤ p.xLength) (h1 : p.xLength ≤ 16) : 1 ≤ psz p ∧ psz p ≤ 65536 := pow_bd _ (by omega)
theorem psz_mul {p q : GPrefix} (h0 : 0 ≤ q.xLength) (h : q.xLength ≤ p.xLength) (h1 : p.xLength ≤ 16) : ∃ m : Int, psz q = psz p * m := by
  refine ⟨2 ^ (p.xLength - q.xLength).toNat, ?_⟩
  unfold psz
  rw [← Int.pow_add]
  congr 1
  omega
theorem PV_mul {p : GPrefix} (h : PV p) : ∃ a : Int, p.xBase = psz p * a := by
  obtain ⟨_, _, _, _, h5⟩ := h
  exact ⟨p.xBase / psz p, by have := Int.mul_ediv_add_emod p.xBase (psz p); unfold psz at *; omega⟩
theorem PV_bd {p : GPrefix} (h : PV p) : 1 ≤ psz p ∧ psz p ≤ 65536 ∧ 0 ≤ p.xBase ∧ p.xBase + psz p ≤ 65536 := by
  obtain ⟨a, ha⟩ := PV_mul h
  obtain ⟨h1, h2, h3, h4, h5⟩ := h
  obtain ⟨b1, b2⟩ := psz_bd h1 h2
  obtain ⟨m, hm⟩ := psz_mul (p := p) (q := ⟨0, 0⟩) (by decide) h1 h2
  have e : psz ⟨0, 0⟩ = 65536 := by decide
  rw [e] at hm
  have := mul_step (s := psz p) (a := a) (b := m) b1 (by rw [← hm, ← ha]; omega)
  rw [← hm, ← ha] at this
  exact ⟨b1, b2, h3, this⟩
theorem psp_ok {p : GPrefix} (h : PV p) : (psp p).xLo ≤ (psp p).xHi := by
  have := PV_bd h; simp only [psp]; omega
/-- all addresses of p are in q -/
def win (p q : GPrefix) : Prop := (psp q).xLo ≤ (psp p).xLo ∧ (psp p).xHi ≤ (psp q).xHi
instance (p q : GPrefix) : Decidable (win p q) := by unfold win; infer_instance
theorem nest_go {p q : GPrefix} (hp : PV p) (hq : PV q) (h : q.xLength ≤ p.xLength) (hn : ¬ apart (psp p) (psp q)) : win p q := by
  obtain ⟨a, ha⟩ := PV_mul hp
  obtain ⟨b, hb⟩ := PV_mul hq
  obtain ⟨m, hm⟩ := psz_mul hq.1 h hp.2.1
  obtain ⟨p1, p2, p3, p4⟩ := PV_bd hp
  obtain ⟨q1, q2, q3, q4⟩ := PV_bd hq
  simp only [apart, psp, not_or] at hn
  have eb : q.xBase = psz p * (m * b) := by rw [hb, hm, Int.mul_assoc]
  have et : q.xBase + psz q = psz p * (m * b + m) := by rw [eb, Int.mul_add, hm]
  have s1 : q.xBase ≤ p.xBase := by
    have : psz p * (m * b) < psz p * (a + 1) := by rw [← eb, Int.mul_add, ← ha]; omega
    have h2 : m * b < a + 1 := Int.lt_of_mul_lt_mul_left this (by omega)
    have h3 : psz p * (m * b) ≤ psz p * a := Int.mul_le_mul_of_nonneg_left (by omega) (by omega)
    rw [← eb, ← ha] at h3; exact h3
  have s2 : p.xBase + psz p ≤ q.xBase + psz q := by
    have := mul_step (s := psz p) (a := a) (b := m * b + m) p1 (by rw [← et, ← ha]; omega)
    rw [← et, ← ha] at this; exact this
  simp only [win, psp]
  omega
/-- two prefixes meet only if one is within the other -/
theorem nest {p q : GPrefix} (hp : PV p) (hq : PV q) : (win p q ∨ win q p) ↔ ¬ apart (psp p) (psp q) := by
  constructor
  · intro h hh
    have := PV_bd hp
    have := PV_bd hq
    simp only [win, psp, apart] at h hh
    omega
  · intro h
    rcases Int.le_total q.xLength p.xLength with e | e
    · exact .inl (nest_go hp hq e h)
    · exact .inr (nest_go hq hp e (fun f => h (apart_symm f)))
/-- a rewriting by itself -/
def RwO (r : GRewrite) : Prop := PV r.xInside ∧ PV r.xOutside ∧ r.xInside.xLength = r.xOutside.xLength
instance (r : GRewrite) : Decidable (RwO r) := by unfold RwO; infer_instance
instance (a b : GSpan) : Decidable (apart a b) := by unfold apart; infer_instance
def pfs (l : List GRewrite) : List GPrefix := l.flatMap fun r => [r.xInside, r.xOutside]
def spl (l : List GRewrite) : List GSpan := (pfs l).map psp
/-- valid rewritings -/
def RwV (l : List GRewrite) : Prop := l.length ≤ 10 ∧ (∀ r ∈ l, RwO r) ∧ (spl l).Pairwise apart
instance (l : List GRewrite) : Decidable (RwV l) := by unfold RwV; infer_instance
theorem pfs_cons (r : GRewrite) (l : List GRewrite) : pfs (r :: l) = r.xInside :: r.xOutside :: pfs l := by simp [pfs]
theorem pfs_app (l m : List GRewrite) : pfs (l ++ m) = pfs l ++ pfs m := by simp [pfs]
theorem pfs_len (l : List GRewrite) : (pfs l).length = 2 * l.length := by
  induction l with
  | nil => simp [pfs]
  | cons r l ih => rw [pfs_cons]; simp only [List.length_cons, ih]; omega
theorem pfs_mem {l : List GRewrite} {p : GPrefix} : p ∈ pfs l ↔ ∃ r ∈ l, p = r.xInside ∨ p = r.xOutside := by
  simp [pfs]
theorem RwV_pv {l : List GRewrite} (h : ∀ r ∈ l, RwO r) : ∀ p ∈ pfs l, PV p := fun p hp => by
  obtain ⟨r, hr, e⟩ := pfs_mem.1 hp
  have := h r hr
  rcases e with e | e
  · rw [e]; exact this.1
  · rw [e]; exact this.2.1
/-- an address is in a prefix -/
def inp (p : GPrefix) (a : Int) : Prop := (psp p).xLo ≤ a ∧ a ≤ (psp p).xHi
instance (p : GPrefix) (a : Int) : Decidable (inp p a) := by unfold inp; infer_instance
/-- the way out and the way in -/
def outF (l : List GRewrite) (a : Int) : Int := match l.find? (fun r => decide (inp r.xInside a)) with | some r => r.xOutside.xBase + (a - r.xInside.xBase) | none => a
def inF (l : List GRewrite) (a : Int) : Int := match l.find? (fun r => decide (inp r.xOutside a)) with | some r => r.xInside.xBase + (a - r.xOutside.xBase) | none => a
theorem apart_in {p q : GPrefix} {a : Int} (h : apart (psp p) (psp q)) (h1 : inp p a) (h2 : inp q a) : False := by
  simp only [apart, inp] at *; omega
/-- what is apart among the prefixes -/
theorem RwV_two {l : List GRewrite} (h : (spl l).Pairwise apart) {r s : GRewrite} (hr : r ∈ l) (hs : s ∈ l) : apart (psp r.xInside) (psp s.xOutside) ∧ (r = s ∨ (apart (psp r.xInside) (psp s.xInside) ∧ apart (psp r.xOutside) (psp s.xOutside))) := by
  induction l with
  | nil => simp at hr
  | cons t l ih =>
    have e : spl (t :: l) = psp t.xInside :: psp t.xOutside :: spl l := by simp [spl, pfs_cons]
    rw [e, List.pairwise_cons, List.pairwise_cons] at h
    obtain ⟨h1, h2, h3⟩ := h
    have mi : ∀ u ∈ l, psp u.xInside ∈ spl l := fun u hu => List.mem_map_of_mem (pfs_mem.2 ⟨u, hu, .inl rfl⟩)
    have mo : ∀ u ∈ l, psp u.xOutside ∈ spl l := fun u hu => List.mem_map_of_mem (pfs_mem.2 ⟨u, hu, .inr rfl⟩)
    rcases List.mem_cons.1 hr with q | q
    · rcases List.mem_cons.1 hs with q2 | q2
      · subst q; subst q2; exact ⟨h1 _ (by simp), .inl rfl⟩
      · subst q; exact ⟨h1 _ (by simp [mo s q2]), .inr ⟨h1 _ (by simp [mi s q2]), h2 _ (mo s q2)⟩⟩
    · rcases List.mem_cons.1 hs with q2 | q2
      · subst q2; exact ⟨apart_symm (h2 _ (mi r q)), .inr ⟨apart_symm (h1 _ (by simp [mi r q])), apart_symm (h2 _ (mo r q))⟩⟩
      · exact ih h3 q q2
theorem find_in {l : List GRewrite} (h : (spl l).Pairwise apart) {r : GRewrite} (hr : r ∈ l) {a : Int} (ha : inp r.xInside a) : l.find? (fun r => decide (inp r.xInside a)) = some r := by
  cases e : l.find? (fun r => decide (inp r.xInside a)) with
  | none => have := List.find?_eq_none.1 e r hr; simp [ha] at this
  | some s =>
    have h1 := List.mem_of_find?_eq_some e
    have h2 := List.find?_some e
    rcases (RwV_two h hr h1).2 with q | q
    · rw [q]
    · exact absurd ha (fun ha => apart_in q.1 ha (by simpa using h2))
theorem find_out {l : List GRewrite} (h : (spl l).Pairwise apart) {r : GRewrite} (hr : r ∈ l) {a : Int} (ha : inp r.xOutside a) : l.find? (fun r => decide (inp r.xOutside a)) = some r := by
  cases e : l.find? (fun r => decide (inp r.xOutside a)) with
  | none => have := List.find?_eq_none.1 e r hr; simp [ha] at this
  | some s =>
    have h1 := List.mem_of_find?_eq_some e
    have h2 := List.find?_some e
    rcases (RwV_two h hr h1).2 with q | q
    · rw [q]
    · exact absurd ha (fun ha => apart_in q.2 ha (by simpa using h2))
theorem psz_same {r : GRewrite} (h : RwO r) : psz r.xInside = psz r.xOutside := by unfold psz; rw [h.2.2]
/-- where it goes: in an inside to the outside, else nowhere -/
theorem outF_cases {l : List GRewrite} (hv : RwV l) (a : Int) : (∃ r ∈ l, inp r.xInside a ∧ inp r.xOutside (outF l a) ∧ outF l a = r.xOutside.xBase + (a - r.xInside.xBase)) ∨ ((∀ r ∈ l, ¬ inp r.xInside a) ∧ outF l a = a) := by
  unfold outF
  cases e : l.find? (fun r => decide (inp r.xInside a)) with
  | none => exact .inr ⟨fun r hr => by have := List.find?_eq_none.1 e r hr; simpa using this, rfl⟩
  | some s =>
    have h1 := List.mem_of_find?_eq_some e
    have h2 : inp s.xInside a := by simpa using List.find?_some e
    have := psz_same (hv.2.1 s h1)
    refine .inl ⟨s, h1, h2, ?_, rfl⟩
    simp only [inp, psp] at h2 ⊢
    omega
theorem inF_cases {l : List GRewrite} (hv : RwV l) (a : Int) : (∃ r ∈ l, inp r.xOutside a ∧ inp r.xInside (inF l a) ∧ inF l a = r.xInside.xBase + (a - r.xOutside.xBase)) ∨ ((∀ r ∈ l, ¬ inp r.xOutside a) ∧ inF l a = a) := by
  unfold inF
  cases e : l.find? (fun r => decide (inp r.xOutside a)) with
  | none => exact .inr ⟨fun r hr => by have := List.find?_eq_none.1 e r hr; simpa using this, rfl⟩
  | some s =>
    have h1 := List.mem_of_find?_eq_some e
    have h2 : inp s.xOutside a := by simpa using List.find?_some e
    have := psz_same (hv.2.1 s h1)
    refine .inl ⟨s, h1, h2, ?_, rfl⟩
    simp only [inp, psp] at h2 ⊢
    omega
theorem outF_none {l : List GRewrite} {a : Int} (h : ∀ r ∈ l, ¬ inp r.xInside a) : outF l a = a := by
  unfold outF
  rw [List.find?_eq_none.2 (fun r hr => by simpa using h r hr)]
theorem inF_none {l : List GRewrite} {a : Int} (h : ∀ r ∈ l, ¬ inp r.xOutside a) : inF l a = a := by
  unfold inF
  rw [List.find?_eq_none.2 (fun r hr => by simpa using h r hr)]
theorem sorted_dec {xs ys : List GSpan} (hp : xs.Perm ys) (hs : ys.Pairwise (fun a b => decide (b.xLo < a.xLo) = false)) (hok : ∀ s ∈ xs, s.xLo ≤ s.xHi) : (∀ n, (h : n + 1 < ys.length) → ys[n].xHi < ys[n + 1].xLo) ↔ xs.Pairwise apart := by
  have hok2 : ∀ s ∈ ys, s.xLo ≤ s.xHi := fun s hm => hok s (hp.mem_iff.2 hm)
  have hs2 : ys.Pairwise (fun a b => a.xLo ≤ b.xLo) := hs.imp (fun {a b} h => by have := of_decide_eq_false h; omega)
  rw [← chain_apart hok2, ← apart_sorted hok2 hs2, perm_apart hp]
theorem spl_ok {l : List GRewrite} (h : ∀ r ∈ l, RwO r) : ∀ s ∈ spl l, s.xLo ≤ s.xHi := fun s hs => by
  obtain ⟨p, hp, rfl⟩ := List.mem_map.1 hs
  exact psp_ok (RwV_pv h p hp)


end
section
open Go Go.Proofs

theorem or_join (i : Nat) (hi : i ≤ 62) (x y : Int) (h0 : 0 ≤ x) (h1 : x < 4611686018427387904) (hm : x % 2 ^ i = 0) (h2 : 0 ≤ y) (h3 : y < 2 ^ i) (h4 : y < 4611686018427387904) : bits .or .i64 x y = x + y := by
  have e : (2 : Int) ^ 62 = 4611686018427387904 := by decide
  exact bits_join .i64 62 (by decide) wraps_i64_62 i x y h0 hm (by rw [e]; exact h1) h2 h3 (by rw [e]; exact h4)
/-- the range of a prefix, and whether it is valid -/
def pspF (p : GPrefix) : GSpan × Bool := if PV p then (psp p, true) else (GSpan.mk 0 0, false)
theorem S_impl_PrefixSpan {p : GPrefix} {κ : GSpan × Bool → Prop} (h : κ (pspF p)) : L_impl_PrefixSpan p κ := by
  unfold L_impl_PrefixSpan
  refine S_impl_PrefixValid (ifW_of (fun e => ?_) (fun e => ?_))
  · have e' : ¬ PV p := by simpa using e
    unfold pspF at h; rw [if_neg e'] at h; exact h
  · have e' : PV p := by simpa using e
    unfold pspF at h; rw [if_pos e'] at h
    obtain ⟨b1, b2, b3, b4⟩ := PV_bd e'
    obtain ⟨h1, h2, h3, h4, h5⟩ := e'
    unfold L_impl_hostMask
    unfold psz at b1 b2 b4
    refine subW_of (by omega) (by omega) ⟨by omega, by omega, ⟨by omega, by omega⟩, subW_of (by omega) (by omega) ?_⟩
    rw [Int.one_mul]
    show κ (GSpan.mk p.xBase (bits .or .i64 p.xBase (2 ^ (16 - p.xLength).toNat - 1)), true)
    rw [or_join (16 - p.xLength).toNat (by omega) p.xBase (2 ^ (16 - p.xLength).toNat - 1) h3 (by omega) h5 (by omega) (by omega) (by omega)]
    have : psp p = GSpan.mk p.xBase (p.xBase + (2 ^ (16 - p.xLength).toNat - 1)) := by
      unfold psp psz; congr 1; omega
    rw [this] at h; exact h
theorem S_spec_PrefixSpan {p : GPrefix} {κ : GSpan × Bool → Prop} (h : κ (pspF p)) : L_spec_PrefixSpan p κ := by
  unfold L_spec_PrefixSpan
  refine S_spec_PrefixValid (ifW_of (fun e => ?_) (fun e => ?_))
  · have e' : ¬ PV p := by simpa using e
    unfold pspF at h; rw [if_neg e'] at h; exact h
  · have e' : PV p := by simpa using e
    unfold pspF at h; rw [if_pos e'] at h
    obtain ⟨b1, b2, b3, b4⟩ := PV_bd e'
    obtain ⟨h1, h2, h3, h4, h5⟩ := e'
    unfold psz at b1 b2 b4
    refine subW_of (by omega) (by omega) ⟨by omega, by omega, ⟨by omega, by omega⟩, ?_⟩
    rw [Int.one_mul]
    exact addW_of (by omega) (by omega) (subW_of (by omega) (by omega) h)
theorem S_PrefixWithin {p q : GPrefix} {κ : Bool → Prop} (hp : PV p) (hq : PV q) (h : κ (decide (win p q))) : L_spec_PrefixWithin p q κ := by
  unfold L_spec_PrefixWithin
  refine S_spec_PrefixSpan ?_
  have e1 : pspF p = (psp p, true) := if_pos hp
  have e2 : pspF q = (psp q, true) := if_pos hq
  rw [e1]
  refine S_spec_PrefixSpan ?_
  rw [e2]
  unfold jnW
  refine ifW_t (ifW_t (ifW_of (fun e => ?_) (fun e => ?_)))
  · have e' : (psp q).xLo ≤ (psp p).xLo := by simpa using e
    rw [show decide (win p q) = decide ((psp p).xHi ≤ (psp q).xHi) from decide_eq_decide.2 ⟨fun hh => hh.2, fun hh => ⟨e', hh⟩⟩] at h
    exact h
  · have e' : ¬ (psp q).xLo ≤ (psp p).xLo := by simpa using e
    rw [decide_eq_false (fun hh : win p q => e' hh.1)] at h
    exact h
theorem pw_get {l : List GSpan} : l.Pairwise apart ↔ ∀ i j, (hi : i < l.length) → (hj : j < l.length) → j < i → apart l[i] l[j] := by
  rw [List.pairwise_iff_getElem]
  constructor
  · intro h i j hi hj hji
    exact apart_symm (h j i hj hi hji)
  · intro h i j hi hj hij
    exact apart_symm (h j i hj hi hij)
theorem S_spec_RewritesValid {l : List GRewrite} (hl : l.length ≤ 2000000000) {κ : Bool → Prop} (h : κ (decide (RwV l))) : L_spec_RewritesValid l κ := by
  unfold L_spec_RewritesValid
  refine count_loop l.length (fun s => s.2) (fun k s => s.2 = (k : Int) ∧ k ≤ l.length ∧ s.1 = pfs (l.take k) ∧ ∀ r ∈ l.take k, RwO r) (fun k s h => h.1) (fun k s h => h.2.1) ?_ ⟨rfl, Nat.zero_le _, by simp [pfs], by simp⟩
  rintro k ⟨xs, t⟩ next ⟨rfl, hk, hx, ho⟩ hn
  simp only at hx
  subst hx
  refine ifW_of (fun hc => ?_) (fun hc => ?_)
  · have hlt : k < l.length := by simpa using hc
    have no : ¬ RwO l[k] → κ false := fun e => by
      rw [decide_eq_false (fun hh : RwV l => e (hh.2.1 _ (List.getElem_mem hlt)))] at h; exact h
    unfold jnW
    refine idxW_of k rfl hlt (S_spec_PrefixValid (ifW_of (fun e => ifW_t (no (fun f => ?_))) (fun e => ?_)))
    · simp [f.1] at e
    have e1 : PV l[k].xInside := by simpa using e
    refine idxW_of k rfl hlt (S_spec_PrefixValid (ifW_of (fun e => ifW_t (no (fun f => ?_))) (fun e => ?_)))
    · simp [f.2.1] at e
    have e2 : PV l[k].xOutside := by simpa using e
    refine idxW_of k rfl hlt (idxW_of k rfl hlt (ifW_of (fun e => no (fun f => ?_)) (fun e => ?_)))
    · simp [f.2.2] at e
    have e3 : l[k].xInside.xLength = l[k].xOutside.xLength := by simpa using e
    refine idxW_of k rfl hlt (idxW_of k rfl hlt (appW_of (by rw [pfs_len]; simp only [List.length_take, List.length_cons, List.length_nil]; omega) (addW_of (by omega) (by omega) (hn hlt _ ⟨by simp, by omega, ?_, ?_⟩))))
    · rw [List.take_succ_eq_append_getElem hlt, pfs_app, pfs_cons]; rfl
    · rw [List.take_succ_eq_append_getElem hlt]
      intro r hr
      rcases List.mem_append.1 hr with q | q
      · exact ho r q
      · simp only [List.mem_singleton] at q; subst q; exact ⟨e1, e2, e3⟩
  · have hge : l.length ≤ k := by simpa using hc
    rw [List.take_of_length_le hge] at ho ⊢
    have hpv := RwV_pv ho
    have hln := pfs_len l
    have no : ¬ (spl l).Pairwise apart → κ false := fun e => by
      rw [decide_eq_false (fun hh : RwV l => e hh.2.2)] at h; exact h
    refine count_loop (pfs l).length (fun s => s) (fun i s => s = (i : Int) ∧ i ≤ (pfs l).length ∧ ∀ a b, (ha : a < (spl l).length) → (hb : b < (spl l).length) → a < i → b < a → apart (spl l)[a] (spl l)[b]) (fun k s h => h.1) (fun k s h => h.2.1) ?_ ⟨rfl, Nat.zero_le _, fun a b _ _ h _ => by omega⟩
    rintro i _ next2 ⟨rfl, hi, hp⟩ hn2
    have hsl : (spl l).length = (pfs l).length := by simp [spl]
    have hget : ∀ a, (ha : a < (pfs l).length) → (spl l)[a]'(by rw [hsl]; exact ha) = psp (pfs l)[a] := fun a ha => by simp [spl]
    refine ifW_of (fun hd => ?_) (fun hd => ?_)
    · have hilt : i < (pfs l).length := by simpa using hd
      refine count_loop i (fun s => s) (fun j s => s = (j : Int) ∧ j ≤ i ∧ ∀ b, (hb : b < (spl l).length) → b < j → apart ((spl l)[i]'(by omega)) (spl l)[b]) (fun k s h => h.1) (fun k s h => h.2.1) ?_ ⟨rfl, Nat.zero_le _, fun b _ h => by omega⟩
      rintro j _ next3 ⟨rfl, hj, hq⟩ hn3
      refine ifW_of (fun he => ?_) (fun he => ?_)
      · have hjlt : j < i := by simpa using he
        have pi := hpv _ (List.getElem_mem hilt)
        have pj := hpv _ (List.getElem_mem (show j < (pfs l).length by omega))
        have nst := nest pi pj
        have bad : (win (pfs l)[i] (pfs l)[j] ∨ win (pfs l)[j] (pfs l)[i]) → κ false := fun w => no (fun hh => by
          have := pw_get.1 hh i j (by omega) (by omega) hjlt
          rw [hget i hilt, hget j (by omega)] at this
          exact nst.1 w this)
        unfold jnW
        refine idxW_of i rfl hilt (idxW_of j rfl (by omega) (S_PrefixWithin pi pj (ifW_of (fun e => ifW_t (bad (.inl (by simpa using e)))) (fun e => ?_))))
        refine idxW_of j rfl (by omega) (idxW_of i rfl hilt (S_PrefixWithin pj pi (ifW_of (fun e2 => bad (.inr (by simpa using e2))) (fun e2 => ?_))))
        refine addW_of (by omega) (by omega) (hn3 hjlt _ ⟨by simp, by omega, fun b hb hbj => ?_⟩)
        by_cases eb : b = j
        · subst eb
          rw [hget i hilt, hget b (by omega)]
          refine Classical.byContradiction (fun f => ?_)
          rcases nst.2 f with g | g
          · simp [g] at e
          · simp [g] at e2
        · exact hq b hb (by omega)
      · have hji : i ≤ j := by simpa using he
        refine addW_of (by omega) (by omega) (hn2 hilt _ ⟨by simp, by omega, fun a b ha hb hai hba => ?_⟩)
        by_cases ea : a = i
        · subst ea; exact hq b hb (by omega)
        · exact hp a b ha hb (by omega) hba
    · have hge2 : (pfs l).length ≤ i := by simpa using hd
      have hpw : (spl l).Pairwise apart := pw_get.2 (fun a b ha hb hba => hp a b ha hb (by omega) hba)
      rw [show decide (RwV l) = decide ((l.length : Int) ≤ 10) from decide_eq_decide.2 ⟨fun hh => by have := hh.1; omega, fun hh => ⟨by omega, ho, hpw⟩⟩] at h
      exact h
theorem S_impl_RewritesValid {l : List GRewrite} (hl : l.length ≤ 9223372036854775807) {κ : Bool → Prop} (h : κ (decide (RwV l))) : L_impl_RewritesValid l κ := by
  unfold L_impl_RewritesValid
  refine ifW_of (fun e => ?_) (fun e => ?_)
  · rw [decide_eq_false (fun hh : RwV l => by have := hh.1; simp at e; omega)] at h; exact h
  have hl10 : l.length ≤ 10 := by simp at e; omega
  refine mulW_of (by omega) (by omega) (makeW_of 0 rfl (by omega) (by omega) ?_)
  refine count_loop l.length (fun s => s.2) (fun k s => s.2 = (k : Int) ∧ k ≤ l.length ∧ s.1 = spl (l.take k) ∧ ∀ r ∈ l.take k, RwO r) (fun k s h => h.1) (fun k s h => h.2.1) ?_ ⟨rfl, Nat.zero_le _, by simp [pfs, spl], by simp⟩
  rintro k ⟨xs, t⟩ next ⟨rfl, hk, hx, ho⟩ hn
  simp only at hx
  subst hx
  have hsl : ∀ m : List GRewrite, (spl m).length = 2 * m.length := fun m => by simp [spl, pfs_len]
  refine ifW_of (fun hc => ?_) (fun hc => ?_)
  · have hlt : k < l.length := by simpa using hc
    have no : ¬ RwO l[k] → κ false := fun e => by
      rw [decide_eq_false (fun hh : RwV l => e (hh.2.1 _ (List.getElem_mem hlt)))] at h; exact h
    refine idxW_of k rfl hlt (S_impl_PrefixSpan ?_)
    by_cases c1 : PV l[k].xInside
    rotate_left 1
    · have e1 : pspF l[k].xInside = (GSpan.mk 0 0, false) := if_neg c1
      rw [e1]
      refine S_impl_PrefixSpan ?_
      unfold jnW
      exact ifW_t (ifW_t (no (fun f => c1 f.1)))
    have e1 : pspF l[k].xInside = (psp l[k].xInside, true) := if_pos c1
    rw [e1]
    refine S_impl_PrefixSpan ?_
    by_cases c2 : PV l[k].xOutside
    rotate_left 1
    · have e2 : pspF l[k].xOutside = (GSpan.mk 0 0, false) := if_neg c2
      rw [e2]
      unfold jnW
      exact ifW_f (ifW_t (ifW_t (no (fun f => c2 f.2.1))))
    have e2 : pspF l[k].xOutside = (psp l[k].xOutside, true) := if_pos c2
    rw [e2]
    unfold jnW
    refine ifW_f (ifW_f (ifW_of (fun e => no (fun f => ?_)) (fun e => ?_)))
    · simp [f.2.2] at e
    have e3 : l[k].xInside.xLength = l[k].xOutside.xLength := by simpa using e
    refine appW_of (by rw [hsl]; simp only [List.length_take, List.length_cons, List.length_nil]; omega) (addW_of (by omega) (by omega) (hn hlt _ ⟨by simp, by omega, ?_, ?_⟩))
    · have e : spl (l.take k ++ [l[k]]) = spl (l.take k) ++ [psp l[k].xInside, psp l[k].xOutside] := by
        simp only [spl, pfs_app, List.map_append]; rfl
      rw [List.take_succ_eq_append_getElem hlt, e]
    · rw [List.take_succ_eq_append_getElem hlt]
      intro r hr
      rcases List.mem_append.1 hr with q | q
      · exact ho r q
      · simp only [List.mem_singleton] at q; subst q; exact ⟨c1, c2, e3⟩
  · have hge : l.length ≤ k := by simpa using hc
    rw [List.take_of_length_le hge] at ho ⊢
    have hlen := hsl l
    refine ⟨by omega, fun ys hp hs => ?_⟩
    have key := sorted_dec hp hs (spl_ok ho)
    have hyl : ys.length = (spl l).length := hp.length_eq.symm
    refine count_loop_from 1 (ys.length + 1) (fun s => s) (fun i s => s = (i : Int) ∧ 1 ≤ i ∧ i ≤ ys.length + 1 ∧ ∀ n, (h : n + 1 < ys.length) → n + 1 < i → ys[n].xHi < ys[n + 1].xLo) (fun k s h => h.1) (fun k s h => h.2.2.1) ?_ ⟨rfl, Nat.le_refl _, by omega, fun n _ h => by omega⟩
    rintro i _ next2 ⟨rfl, hi1, hi2, hq⟩ hn2
    refine ifW_of (fun hd => ?_) (fun hd => ?_)
    · have hilt : i < ys.length := by simpa using hd
      obtain ⟨j, rfl⟩ : ∃ j, i = j + 1 := ⟨i - 1, by omega⟩
      refine idxW_of (j + 1) rfl hilt (subW_of (by omega) (by omega) (idxW_of j (by omega) (by omega) (ifW_of (fun e => ?_) (fun e => ?_))))
      · rw [decide_eq_false (fun hh : RwV l => by
          have := key.2 hh.2.2 j hilt
          simp at e; omega)] at h
        exact h
      · refine addW_of (by omega) (by omega) (hn2 (by omega) _ ⟨by simp, by omega, by omega, fun n hn hni => ?_⟩)
        by_cases en : n = j
        · subst en; simp at e; omega
        · exact hq n hn (by omega)
    · have hge2 : ys.length ≤ i := by simpa using hd
      rw [decide_eq_true (show RwV l from ⟨hl10, ho, key.1 (fun n hn => hq n hn (by omega))⟩)] at h
      exact h


end
section
open Go Go.Proofs

/-- what is drawn is short -/
theorem S_l20Rewrites {b : List UInt8} {p n : Int} (hr : RdP b p) (hp : p ≤ 900000) (hn : n ≤ 4294967296) {κ : List GRewrite × Int → Prop} (h : ∀ l p', l.length ≤ 20 → p ≤ p' → p' ≤ p + 40 → κ (l, p')) : L_spec_l20Rewrites b p n κ := by
  unfold L_spec_l20Rewrites
  refine S_pick hr (fun v hv0 hv1 => ?_)
  have hb := hr
  obtain ⟨hb0, hb1, hb2⟩ := hr
  refine loopW_inv (fun (s : Int × List GRewrite × Int) => p ≤ s.1 ∧ 0 ≤ s.2.2 ∧ s.2.2 ≤ 5 ∧ s.1 ≤ p + 1 + 3 * (5 - s.2.2) ∧ (s.2.1.length : Int) ≤ 5 - s.2.2) (fun s => s.2.2.toNat) ?_ ⟨by simp only; omega, by simp only; omega, by simp only; omega, by simp only; omega, by simp only [List.length_nil]; omega⟩
  rintro ⟨q, xs, t⟩ next ⟨h1, h2, h3, h4, h5⟩ hn2
  simp only at h1 h2 h3 h4 h5
  have rd : ∀ q', q ≤ q' → q' ≤ q + 20 → RdP b q' := fun q' a1 a2 => ⟨hb0, by omega, by omega⟩
  refine ifW_of (fun e => ?_) (fun e => ?_)
  · have e' : 0 < t := by simpa using e
    unfold jnW
    refine S_pick (rd q (by omega) (by omega)) (fun a ha0 ha1 => ?_)
    have ha : 0 ≤ a ∧ a ≤ 8 := by omega
    refine addW_of (by omega) (by omega) (subW_of (by omega) (by omega) ?_)
    obtain ⟨s1, s2⟩ := pow_bd (16 - (8 + a)).toNat (by omega)
    refine ⟨by omega, by omega, ⟨by omega, by omega⟩, ?_⟩
    rw [Int.one_mul]
    refine S_pick (rd _ (by omega) (by omega)) (fun c hc0 hc1 => ?_)
    have hc : 0 ≤ c ∧ c ≤ 127 := by omega
    have w1 : 0 ≤ w64 (c * 256) ∧ w64 (c * 256) ≤ 100000 := by rw [w64_id (by omega) (by omega)]; omega
    refine quoW_le w1.1 (by have := w1.2; omega) (by omega) (fun z hz0 hz1 => ?_)
    refine S_pick (rd _ (by omega) (by omega)) (fun d hd0 hd1 => ?_)
    have hd : 0 ≤ d ∧ d ≤ 127 := by omega
    have w3 : 0 ≤ w64 (w64 (128 + d) * 256) ∧ w64 (w64 (128 + d) * 256) ≤ 100000 := by rw [w64_id (x := 128 + d) (by omega) (by omega), w64_id (by omega) (by omega)]; omega
    refine quoW_le w3.1 (by have := w3.2; omega) (by omega) (fun z2 hz20 hz21 => ?_)
    have ln : xs.length ≤ 5 := by omega
    refine appW_of (by simp; omega) (appW_of (by simp; omega) (S_spec_RewritesValid (by simp; omega) (ifW_of (fun e2 => ?_) (fun e2 => ?_))))
    · refine appW_of (by simp; omega) (subW_of (by omega) (by omega) (hn2 _ ⟨by simp only; omega, by simp only; omega, by simp only; omega, by simp only; omega, by simp only [List.length_append, List.length_singleton]; omega⟩ (by simp only; omega)))
    · refine subW_of (by omega) (by omega) (hn2 _ ⟨by simp only; omega, by simp only; omega, by simp only; omega, by simp only; omega, by simp only; omega⟩ (by simp only; omega))
  · unfold jnW
    have ln : xs.length ≤ 5 := by omega
    refine S_odd (rd q (by omega) (by omega)) hn (fun c q' hq1 hq2 => ifW_of (fun e2 => ?_) (fun e2 => ?_))
    · refine S_pick (rd q' (by omega) (by omega)) (fun a ha0 ha1 => ?_)
      refine ifW_of (fun _ => appW_of (by simp; omega) (h _ _ (by simp; omega) (by omega) (by omega))) (fun _ => ifW_of (fun _ => appW_of (by simp; omega) (h _ _ (by simp; omega) (by omega) (by omega))) (fun _ => makeW_of 11 rfl (by omega) (by omega) (h _ _ (by simp) (by omega) (by omega))))
    · exact h _ _ (by omega) (by omega) (by omega)
/-- halves -/
theorem S_halves {p : GPrefix} (hp : PV p) (hl : p.xLength ≤ 15) {κ : GPrefix × GPrefix → Prop} (h : κ (GPrefix.mk p.xBase (p.xLength + 1), GPrefix.mk (p.xBase + 2 ^ (16 - (p.xLength + 1)).toNat) (p.xLength + 1))) : L_impl_halves p κ := by
  obtain ⟨b1, b2, b3, b4⟩ := PV_bd hp
  obtain ⟨h1, h2, h3, h4, h5⟩ := hp
  obtain ⟨s1, s2⟩ := pow_bd (16 - (p.xLength + 1)).toNat (by omega)
  have e : (16 - p.xLength).toNat = (16 - (p.xLength + 1)).toNat + 1 := by omega
  unfold L_impl_halves
  refine addW_of (by omega) (by omega) (subW_of (by omega) (by omega) ⟨by omega, by omega, ⟨by omega, by omega⟩, ?_⟩)
  rw [Int.one_mul]
  rw [e] at h5
  show κ (GPrefix.mk p.xBase (p.xLength + 1), GPrefix.mk (bits .or .i64 p.xBase (2 ^ (16 - (p.xLength + 1)).toNat)) (p.xLength + 1))
  have e2 : (2 : Int) ^ ((16 - (p.xLength + 1)).toNat + 1) = 2 ^ (16 - (p.xLength + 1)).toNat * 2 := Int.pow_succ _ _
  rw [or_join ((16 - (p.xLength + 1)).toNat + 1) (by omega) p.xBase _ h3 (by omega) h5 (by omega) (by omega) (by omega)]
  exact h
/-- the two of a split -/
def splitF (r : GRewrite) : GRewrite × GRewrite × Bool :=
  if RwV [r] ∧ r.xInside.xLength ≠ 16 then
    (GRewrite.mk (GPrefix.mk r.xInside.xBase (r.xInside.xLength + 1)) (GPrefix.mk r.xOutside.xBase (r.xInside.xLength + 1)),
     GRewrite.mk (GPrefix.mk (r.xInside.xBase + 2 ^ (16 - (r.xInside.xLength + 1)).toNat) (r.xInside.xLength + 1)) (GPrefix.mk (r.xOutside.xBase + 2 ^ (16 - (r.xInside.xLength + 1)).toNat) (r.xInside.xLength + 1)), true)
  else (GRewrite.mk (GPrefix.mk 0 0) (GPrefix.mk 0 0), GRewrite.mk (GPrefix.mk 0 0) (GPrefix.mk 0 0), false)
theorem S_spec_SplitRewrite {r : GRewrite} {κ : GRewrite × GRewrite × Bool → Prop} (h : κ (splitF r)) : L_spec_SplitRewrite r κ := by
  unfold L_spec_SplitRewrite jnW
  have no : ¬ (RwV [r] ∧ r.xInside.xLength ≠ 16) → κ (GRewrite.mk (GPrefix.mk 0 0) (GPrefix.mk 0 0), GRewrite.mk (GPrefix.mk 0 0) (GPrefix.mk 0 0), false) := fun e => by
    have : splitF r = _ := if_neg e
    rw [this] at h; exact h
  refine S_spec_RewritesValid (by simp) (ifW_of (fun e => ifW_t (no (fun f => by simp [f.1] at e))) (fun e => ifW_of (fun e2 => no (fun f => by simp [f.2] at e2)) (fun e2 => ?_)))
  have e1' : RwV [r] := by simpa using e
  have e2' : r.xInside.xLength ≠ 16 := by simpa using e2
  have : splitF r = _ := if_pos ⟨e1', e2'⟩
  rw [this] at h
  obtain ⟨g1, g2, g3⟩ := e1'.2.1 r (by simp)
  have k1 := PV_bd g1
  have k2 := PV_bd g2
  have l0 := g1.1
  have l1 := g1.2.1
  obtain ⟨s1, s2⟩ := pow_bd (16 - (r.xInside.xLength + 1)).toNat (by omega)
  refine addW_of (by omega) (by omega) (subW_of (by omega) (by omega) ⟨by omega, by omega, ⟨by omega, by omega⟩, ?_⟩)
  rw [Int.one_mul]
  exact addW_of (by omega) (by omega) (addW_of (by omega) (by omega) h)
theorem S_impl_SplitRewrite {r : GRewrite} {κ : GRewrite × GRewrite × Bool → Prop} (h : κ (splitF r)) : L_impl_SplitRewrite r κ := by
  unfold L_impl_SplitRewrite jnW
  have no : ¬ (RwV [r] ∧ r.xInside.xLength ≠ 16) → κ (GRewrite.mk (GPrefix.mk 0 0) (GPrefix.mk 0 0), GRewrite.mk (GPrefix.mk 0 0) (GPrefix.mk 0 0), false) := fun e => by
    have : splitF r = _ := if_neg e
    rw [this] at h; exact h
  refine S_impl_RewritesValid (by simp) (ifW_of (fun e => ifW_t (no (fun f => by simp [f.1] at e))) (fun e => ifW_of (fun e2 => no (fun f => by simp [f.2] at e2)) (fun e2 => ?_)))
  have e1' : RwV [r] := by simpa using e
  have e2' : r.xInside.xLength ≠ 16 := by simpa using e2
  have : splitF r = _ := if_pos ⟨e1', e2'⟩
  rw [this] at h
  obtain ⟨g1, g2, g3⟩ := e1'.2.1 r (by simp)
  have l1 := g1.2.1
  have l2 := g2.2.1
  refine S_halves g1 (by omega) (S_halves g2 (by omega) ?_)
  rw [← g3]
  exact h

end
section


def pv (p : GPacket) : Prop := (0 ≤ p.xFrom ∧ p.xFrom ≤ 65535) ∧ (0 ≤ p.xTo ∧ p.xTo ≤ 65535) ∧ (0 ≤ p.xPort ∧ p.xPort ≤ 255) ∧ (0 ≤ p.xProto ∧ p.xProto ≤ 7)
instance (p : GPacket) : Decidable (pv p) := by unfold pv; infer_instance
def tv (t : Int) : Prop := 0 ≤ t ∧ t ≤ 1000000
instance (t : Int) : Decidable (tv t) := by unfold tv; infer_instance

/-! packets -/
theorem S_fieldTop {n : Int} (h0 : 0 ≤ n) (h1 : n < 4) {κ : Int → Prop} (h : κ (if n ≤ 1 then 65535 else if n = 2 then 255 else 7)) : L_impl_FieldTop n κ := by
  unfold L_impl_FieldTop jnW
  refine ifW_of (fun hc => by simp at hc; omega) (fun _ => ifW_of (fun hc => by simp at hc; omega) (fun _ => ?_))
  have : n = 0 ∨ n = 1 ∨ n = 2 ∨ n = 3 := by omega
  rcases this with rfl | rfl | rfl | rfl
  · exact idxW_of 0 rfl (by simp [gl_impl_fieldShapes]) (by simpa [gl_impl_fieldShapes] using h)
  · exact idxW_of 1 rfl (by simp [gl_impl_fieldShapes]) (by simpa [gl_impl_fieldShapes] using h)
  · exact idxW_of 2 rfl (by simp [gl_impl_fieldShapes]) (by simpa [gl_impl_fieldShapes] using h)
  · exact idxW_of 3 rfl (by simp [gl_impl_fieldShapes]) (by simpa [gl_impl_fieldShapes] using h)
def fieldP (p : GPacket) : Nat → Int
  | 0 => p.xFrom
  | 1 => p.xTo
  | 2 => p.xPort
  | _ => p.xProto
def topP : Nat → Int
  | 0 => 65535
  | 1 => 65535
  | 2 => 255
  | _ => 7
theorem pv_iff (p : GPacket) : pv p ↔ ∀ i, i < 4 → 0 ≤ fieldP p i ∧ fieldP p i ≤ topP i := by
  unfold pv
  constructor
  · rintro ⟨h0, h1, h2, h3⟩ i hi
    match i, hi with
    | 0, _ => exact h0
    | 1, _ => exact h1
    | 2, _ => exact h2
    | 3, _ => exact h3
  · intro h
    exact ⟨h 0 (by omega), h 1 (by omega), h 2 (by omega), h 3 (by omega)⟩
theorem S_PacketValid {p : GPacket} {κ : Bool → Prop} (h : κ (decide (pv p))) : L_impl_PacketValid p κ := by
  unfold L_impl_PacketValid L_impl_Packet_fields
  refine count_loop 4 (fun s => s) (fun k s => s = (k : Int) ∧ k ≤ 4 ∧ ∀ i, i < k → 0 ≤ fieldP p i ∧ fieldP p i ≤ topP i) (fun k s h => h.1) (fun k s h => h.2.1) ?_ ⟨rfl, by omega, fun i hi => by omega⟩
  rintro k _ next ⟨rfl, hk, hi⟩ hn
  refine ifW_of (fun hlt => ?_) (fun hge => ?_)
  · have hlt : k < 4 := by simp at hlt; omega
    have hno : ¬ (0 ≤ fieldP p k ∧ fieldP p k ≤ topP k) → κ false := fun hno => by
      rw [decide_eq_false (fun hv => hno ((pv_iff p).1 hv k hlt))] at h
      exact h
    refine idxW_of k rfl (by simpa using hlt) ?_
    have e : ([p.xFrom, p.xTo, p.xPort, p.xProto] : List Int)[k]'(by simpa using hlt) = fieldP p k := by
      match k, hlt with
      | 0, _ => rfl
      | 1, _ => rfl
      | 2, _ => rfl
      | 3, _ => rfl
    simp only [e]
    unfold jnW
    refine ifW_of (fun hc => ?_) (fun hc => S_fieldTop (by omega) (by omega) ?_)
    · simp only [ifW_true]; exact hno (by simp at hc; omega)
    · have et : (if (k : Int) ≤ 1 then (65535 : Int) else if (k : Int) = 2 then 255 else 7) = topP k := by
        match k, hlt with
        | 0, _ => rfl
        | 1, _ => rfl
        | 2, _ => rfl
        | 3, _ => rfl
      rw [et]
      refine ifW_of (fun h2 => hno (by simp at h2; omega)) (fun h2 => addW_of (by omega) (by omega) (hn hlt _ ⟨by simp, by omega, fun i hi' => ?_⟩))
      by_cases e : i = k
      · subst e; simp at hc h2; exact ⟨hc, h2⟩
      · exact hi i (by omega)
  · have : k = 4 := by simp at hge; omega
    subst this
    rw [decide_eq_true ((pv_iff p).2 hi)] at h
    exact h
def lv (t : Int) : Prop := 0 ≤ t ∧ t ≤ 1000
instance (t : Int) : Decidable (lv t) := by unfold lv; infer_instance
/-! flows -/
end
section
open Go Go.Proofs

theorem S_Compare {x y : Int} {κ : Int → Prop} (h1 : x < y → κ (-1)) (h2 : y < x → κ 1) (h3 : x = y → κ 0) : L_cmp_Compare_int x y κ := by
  unfold L_cmp_Compare_int L_cmp_isNaN_int
  simp only [decide_true, Bool.not_true]
  refine ifW_f (ifW_f (ifW_of (fun e => h1 (by simpa using e)) (fun e => ifW_of (fun e2 => h2 (by simpa using e2)) (fun e2 => h3 (by simp at e e2; omega)))))
def mono (ys : List GShift) : Prop := (∀ s ∈ ys, s.xWhere.xLo ≤ s.xWhere.xHi) ∧ ys.Pairwise (fun a b => a.xWhere.xHi < b.xWhere.xLo)
theorem mono_hi {ys : List GShift} (h : mono ys) {i j : Nat} (hj : j < ys.length) (hij : i ≤ j) : (ys[i]'(by omega)).xWhere.xHi ≤ ys[j].xWhere.xHi := by
  by_cases e : i = j
  · subst e; exact Int.le_refl _
  · have h1 := List.pairwise_iff_getElem.1 h.2 i j (by omega) hj (by omega)
    have h2 := h.1 _ (List.getElem_mem hj)
    omega
theorem S_move {ys : List GShift} {a : Int} (hl : ys.length ≤ 1000) (hm : mono ys) (ha : 0 ≤ a ∧ a ≤ 65535) (hb : ∀ s ∈ ys, -65536 ≤ s.xBy ∧ s.xBy ≤ 65536) {κ : Int → Prop}
    (hT : ∀ s ∈ ys, s.xWhere.xLo ≤ a → a ≤ s.xWhere.xHi → κ (a + s.xBy)) (hF : (∀ s ∈ ys, ¬ (s.xWhere.xLo ≤ a ∧ a ≤ s.xWhere.xHi)) → κ a) : L_impl_mover_move ys a κ := by
  unfold L_impl_mover_move
  -- behind the search
  have fin : ∀ (n : Nat) (c : Bool), n ≤ ys.length → (∀ k, (h : k < ys.length) → k < n → ys[k].xWhere.xHi < a) → (∀ k, (h : k < ys.length) → n ≤ k → a ≤ ys[k].xWhere.xHi) →
      (jnW (fun (t67 : Bool) => ifW t67 (idxW ys (n : Int) (fun e69 => addW a e69.xBy (fun t71 => κ t71))) (κ a)) (fun k68 => ifW (decide ((n : Int) < (ys.length : Int))) (idxW ys (n : Int) (fun e5 => k68 (decide (e5.xWhere.xLo ≤ a)))) (k68 false))) := by
    intro n c hn h1 h2
    unfold jnW
    refine ifW_of (fun e => ?_) (fun e => ifW_f (hF (fun s hs hh => ?_)))
    · have hlt : n < ys.length := by simpa using e
      have hg := h2 n hlt (Nat.le_refl _)
      have hbn := hb _ (List.getElem_mem hlt)
      refine idxW_of n rfl hlt (ifW_of (fun e2 => idxW_of n rfl hlt (addW_of (by omega) (by omega) (hT _ (List.getElem_mem hlt) (by simpa using e2) hg))) (fun e2 => hF (fun s hs hh => ?_)))
      have e2' : ¬ ys[n].xWhere.xLo ≤ a := by simpa using e2
      obtain ⟨k, hk, he⟩ := List.getElem_of_mem hs
      subst he
      rcases Nat.lt_or_ge k n with q | q
      · have := h1 k hk q; omega
      · by_cases e3 : n = k
        · subst e3; exact e2' hh.1
        · have h5 := List.pairwise_iff_getElem.1 hm.2 n k hlt hk (by omega)
          have h6 := hm.1 _ (List.getElem_mem hlt)
          omega
    · have hge : ys.length ≤ n := by simpa using e
      obtain ⟨k, hk, he⟩ := List.getElem_of_mem hs
      subst he
      have := h1 k hk (by omega)
      omega
  unfold L_slices_BinarySearchFunc_impl_mover_impl_shift_int__impl_mover_move_1
  refine loopW_inv (fun (s : Int × Int) => ∃ i j : Nat, s.1 = i ∧ s.2 = j ∧ i ≤ j ∧ j ≤ ys.length ∧ (∀ k, (h : k < ys.length) → k < i → ys[k].xWhere.xHi < a) ∧ ∀ k, (h : k < ys.length) → j ≤ k → a ≤ ys[k].xWhere.xHi) (fun s => (s.2 - s.1).toNat) ?_ ⟨0, ys.length, rfl, rfl, Nat.zero_le _, Nat.le_refl _, fun k _ h => by omega, fun k _ h => by omega⟩
  rintro ⟨_, _⟩ next ⟨i, j, rfl, rfl, hij, hj, h1, h2⟩ hn
  refine ifW_of (fun e => ?_) (fun e => ?_)
  · have hlt : i < j := by simpa using e
    refine addW_of (by omega) (by omega) ⟨by omega, by omega, ⟨by decide, by decide, by omega, ⟨by omega, by omega⟩, ?_⟩⟩
    have hh : ((i : Int) + j) / 2 ^ (1 : Int).toNat = (((i + j) / 2 : Nat) : Int) := by
      rw [show (2 : Int) ^ (1 : Int).toNat = 2 by decide]; omega
    refine ⟨by rw [hh]; omega, by rw [hh]; omega, ?_⟩
    generalize hq : ((i : Int) + j) / 2 ^ (1 : Int).toNat = q at hh ⊢
    subst hh
    have hm1 : (i + j) / 2 < ys.length := by omega
    refine idxW_of ((i + j) / 2) rfl hm1 ?_
    unfold L_impl_mover_move_1
    have lo : ys[(i + j) / 2].xWhere.xHi < a → addW (((i + j) / 2 : Nat) : Int) 1 (fun t11 => next (t11, (j : Int))) := fun hlo =>
      addW_of (by omega) (by omega) (hn _ ⟨(i + j) / 2 + 1, j, by simp, rfl, by omega, hj, fun k hk hki => by
        have := mono_hi hm hm1 (show k ≤ (i + j) / 2 by omega); omega, h2⟩ (by simp only; omega))
    have hi : a ≤ ys[(i + j) / 2].xWhere.xHi → next ((i : Int), (((i + j) / 2 : Nat) : Int)) := fun hhi =>
      hn _ ⟨i, (i + j) / 2, rfl, rfl, by omega, by omega, h1, fun k hk hki => by
        have := mono_hi hm hk hki; omega⟩ (by simp only; omega)
    exact S_Compare (fun c => ifW_t (lo c)) (fun c => ifW_f (hi (by omega))) (fun c => ifW_f (hi (by omega)))
  · have hge : j ≤ i := by simpa using e
    have hij' : i = j := by omega
    subst hij'
    show jnW (fun (t75 : Bool) => _) _
    unfold jnW
    refine ifW_of (fun e2 => ?_) (fun e2 => fin i false hj h1 h2)
    have hlt : i < ys.length := by simpa using e2
    refine idxW_of i rfl hlt ?_
    unfold L_impl_mover_move_1
    exact S_Compare (fun _ => fin i false hj h1 h2) (fun _ => fin i false hj h1 h2) (fun _ => fin i false hj h1 h2)
def shO (r : GRewrite) : GShift := GShift.mk (psp r.xInside) (r.xOutside.xBase - r.xInside.xBase)
def shI (r : GRewrite) : GShift := GShift.mk (psp r.xOutside) (r.xInside.xBase - r.xOutside.xBase)
theorem pw_in : ∀ {l : List GRewrite}, (spl l).Pairwise apart → (l.map fun r => psp r.xInside).Pairwise apart ∧ (l.map fun r => psp r.xOutside).Pairwise apart
  | [], _ => by simp
  | t :: l, h => by
    have e : spl (t :: l) = psp t.xInside :: psp t.xOutside :: spl l := by simp [spl, pfs_cons]
    rw [e, List.pairwise_cons, List.pairwise_cons] at h
    obtain ⟨h1, h2, h3⟩ := h
    obtain ⟨i1, i2⟩ := pw_in h3
    have mi : ∀ u ∈ l, psp u.xInside ∈ spl l := fun u hu => List.mem_map_of_mem (pfs_mem.2 ⟨u, hu, .inl rfl⟩)
    have mo : ∀ u ∈ l, psp u.xOutside ∈ spl l := fun u hu => List.mem_map_of_mem (pfs_mem.2 ⟨u, hu, .inr rfl⟩)
    rw [List.map_cons, List.map_cons, List.pairwise_cons, List.pairwise_cons]
    refine ⟨⟨fun s hs => ?_, i1⟩, ⟨fun s hs => ?_, i2⟩⟩
    · obtain ⟨u, hu, rfl⟩ := List.mem_map.1 hs
      exact h1 _ (by simp [mi u hu])
    · obtain ⟨u, hu, rfl⟩ := List.mem_map.1 hs
      exact h2 _ (mo u hu)
theorem mono_of {zs ys : List GShift} (hp : zs.Perm ys) (hs : ys.Pairwise (fun a b => decide (b.xWhere.xLo < a.xWhere.xLo) = false)) (hok : ∀ s ∈ zs, s.xWhere.xLo ≤ s.xWhere.xHi) (ha : (zs.map (·.xWhere)).Pairwise apart) : mono ys := by
  have h2 : ∀ s ∈ ys, s.xWhere.xLo ≤ s.xWhere.xHi := fun s hm => hok s (hp.mem_iff.2 hm)
  refine ⟨h2, ?_⟩
  have h3 : (ys.map (·.xWhere)).Pairwise apart := (perm_apart (hp.map _)).1 ha
  have h4 : (ys.map (·.xWhere)).Pairwise (fun a b => a.xLo ≤ b.xLo) := by
    rw [List.pairwise_map]
    exact hs.imp (fun {a b} h => by have := of_decide_eq_false h; omega)
  have h5 := (apart_sorted (ys := ys.map (·.xWhere)) (fun s hm => by
    obtain ⟨u, hu, rfl⟩ := List.mem_map.1 hm
    exact h2 u hu) h4).1 h3
  rw [List.pairwise_map] at h5
  exact h5
theorem S_shiftTo {p q : GPrefix} (hp : PV p) (hq : PV q) {κ : GShift → Prop} (h : κ (GShift.mk (psp p) (q.xBase - p.xBase))) : L_impl_shiftTo p q κ := by
  have := PV_bd hp
  have := PV_bd hq
  unfold L_impl_shiftTo
  refine S_impl_PrefixSpan ?_
  rw [show pspF p = (psp p, true) from if_pos hp]
  exact subW_of (by omega) (by omega) h
/-- the program's way out -/
theorem S_out {l : List GRewrite} (hv : RwV l) {a : Int} (ha : 0 ≤ a ∧ a ≤ 65535) {κ : Int → Prop} (h : κ (outF l a)) : L_impl_moverOf__impl_Rewrite_outward l (fun r73 => L_impl_mover_move r73 a (fun r75 => κ r75)) := by
  have hl := hv.1
  unfold L_impl_moverOf__impl_Rewrite_outward
  refine makeW_of 0 rfl (by omega) (by omega) ?_
  refine count_loop l.length (fun s => s.2) (fun k s => s.2 = (k : Int) ∧ k ≤ l.length ∧ s.1 = (l.take k).map shO) (fun k s h => h.1) (fun k s h => h.2.1) ?_ ⟨rfl, Nat.zero_le _, by simp⟩
  rintro k ⟨xs, t⟩ next ⟨rfl, hk, hx⟩ hn
  simp only at hx
  subst hx
  refine ifW_of (fun hc => ?_) (fun hc => ?_)
  · have hlt : k < l.length := by simpa using hc
    have ho := hv.2.1 _ (List.getElem_mem hlt)
    refine idxW_of k rfl hlt ?_
    unfold L_impl_Rewrite_outward
    refine S_shiftTo ho.1 ho.2.1 (appW_of (by simp only [List.length_map, List.length_take, List.length_singleton]; omega) (addW_of (by omega) (by omega) (hn hlt _ ⟨by simp, by omega, ?_⟩)))
    rw [List.take_succ_eq_append_getElem hlt, List.map_append]; rfl
  · have hge : l.length ≤ k := by simpa using hc
    rw [List.take_of_length_le hge]
    refine ⟨by simp only [List.length_map]; omega, fun ys hp hs => ?_⟩
    have hm : mono ys := mono_of hp hs (fun s hs => by obtain ⟨r, hr, rfl⟩ := List.mem_map.1 hs; exact psp_ok (hv.2.1 r hr).1) (by
      rw [List.map_map]; exact (pw_in hv.2.2).1)
    have hmem : ∀ s ∈ ys, ∃ r ∈ l, s = shO r := fun s hs => by
      obtain ⟨r, hr, e⟩ := List.mem_map.1 (hp.mem_iff.2 hs); exact ⟨r, hr, e.symm⟩
    refine S_move (by rw [← hp.length_eq]; simp only [List.length_map]; omega) hm ha (fun s hs => ?_) (fun s hs h1 h2 => ?_) (fun hno => ?_)
    · obtain ⟨r, hr, rfl⟩ := hmem s hs
      have := PV_bd (hv.2.1 r hr).1
      have := PV_bd (hv.2.1 r hr).2.1
      simp only [shO]; omega
    · obtain ⟨r, hr, rfl⟩ := hmem s hs
      have e : outF l a = r.xOutside.xBase + (a - r.xInside.xBase) := by unfold outF; rw [find_in hv.2.2 hr ⟨h1, h2⟩]
      have e2 : a + (shO r).xBy = outF l a := by rw [e]; simp only [shO]; omega
      rw [e2]; exact h
    · rw [outF_none (fun r hr hh => hno (shO r) (hp.mem_iff.1 (List.mem_map_of_mem hr)) hh)] at h
      exact h
theorem S_in {l : List GRewrite} (hv : RwV l) {a : Int} (ha : 0 ≤ a ∧ a ≤ 65535) {κ : Int → Prop} (h : κ (inF l a)) : L_impl_moverOf__impl_Rewrite_inward l (fun r73 => L_impl_mover_move r73 a (fun r75 => κ r75)) := by
  have hl := hv.1
  unfold L_impl_moverOf__impl_Rewrite_inward
  refine makeW_of 0 rfl (by omega) (by omega) ?_
  refine count_loop l.length (fun s => s.2) (fun k s => s.2 = (k : Int) ∧ k ≤ l.length ∧ s.1 = (l.take k).map shI) (fun k s h => h.1) (fun k s h => h.2.1) ?_ ⟨rfl, Nat.zero_le _, by simp⟩
  rintro k ⟨xs, t⟩ next ⟨rfl, hk, hx⟩ hn
  simp only at hx
  subst hx
  refine ifW_of (fun hc => ?_) (fun hc => ?_)
  · have hlt : k < l.length := by simpa using hc
    have ho := hv.2.1 _ (List.getElem_mem hlt)
    refine idxW_of k rfl hlt ?_
    unfold L_impl_Rewrite_inward
    refine S_shiftTo ho.2.1 ho.1 (appW_of (by simp only [List.length_map, List.length_take, List.length_singleton]; omega) (addW_of (by omega) (by omega) (hn hlt _ ⟨by simp, by omega, ?_⟩)))
    rw [List.take_succ_eq_append_getElem hlt, List.map_append]; rfl
  · have hge : l.length ≤ k := by simpa using hc
    rw [List.take_of_length_le hge]
    refine ⟨by simp only [List.length_map]; omega, fun ys hp hs => ?_⟩
    have hm : mono ys := mono_of hp hs (fun s hs => by obtain ⟨r, hr, rfl⟩ := List.mem_map.1 hs; exact psp_ok (hv.2.1 r hr).2.1) (by
      rw [List.map_map]; exact (pw_in hv.2.2).2)
    have hmem : ∀ s ∈ ys, ∃ r ∈ l, s = shI r := fun s hs => by
      obtain ⟨r, hr, e⟩ := List.mem_map.1 (hp.mem_iff.2 hs); exact ⟨r, hr, e.symm⟩
    refine S_move (by rw [← hp.length_eq]; simp only [List.length_map]; omega) hm ha (fun s hs => ?_) (fun s hs h1 h2 => ?_) (fun hno => ?_)
    · obtain ⟨r, hr, rfl⟩ := hmem s hs
      have := PV_bd (hv.2.1 r hr).1
      have := PV_bd (hv.2.1 r hr).2.1
      simp only [shI]; omega
    · obtain ⟨r, hr, rfl⟩ := hmem s hs
      have e : inF l a = r.xInside.xBase + (a - r.xOutside.xBase) := by unfold inF; rw [find_out hv.2.2 hr ⟨h1, h2⟩]
      have e2 : a + (shI r).xBy = inF l a := by rw [e]; simp only [shI]; omega
      rw [e2]; exact h
    · rw [inF_none (fun r hr hh => hno (shI r) (hp.mem_iff.1 (List.mem_map_of_mem hr)) hh)] at h
      exact h
/-- a packet on its way -/
def ro (l : List GRewrite) (p : GPacket) : GPacket := if RwV l ∧ pv p then GPacket.mk (outF l p.xFrom) p.xTo p.xPort p.xProto else GPacket.mk 0 0 0 0
def ri (l : List GRewrite) (p : GPacket) : GPacket := if RwV l ∧ pv p then GPacket.mk p.xFrom (inF l p.xTo) p.xPort p.xProto else GPacket.mk 0 0 0 0
theorem S_impl_RewriteOut {l : List GRewrite} {p : GPacket} (hl : l.length ≤ 9223372036854775807) {κ : GPacket → Prop} (h : κ (ro l p)) : L_impl_RewriteOut l p κ := by
  unfold L_impl_RewriteOut jnW
  have no : ¬ (RwV l ∧ pv p) → κ (GPacket.mk 0 0 0 0) := fun e => by unfold ro at h; rw [if_neg e] at h; exact h
  refine S_impl_RewritesValid hl (ifW_of (fun e => ifW_t (no (fun f => by simp [f.1] at e))) (fun e => S_PacketValid (ifW_of (fun e2 => no (fun f => by simp [f.2] at e2)) (fun e2 => ?_))))
  have e1 : RwV l := by simpa using e
  have e2' : pv p := by simpa using e2
  unfold ro at h; rw [if_pos ⟨e1, e2'⟩] at h
  exact S_out e1 e2'.1 (κ := fun t71 => κ (GPacket.mk t71 p.xTo p.xPort p.xProto)) h
theorem S_impl_RewriteIn {l : List GRewrite} {p : GPacket} (hl : l.length ≤ 9223372036854775807) {κ : GPacket → Prop} (h : κ (ri l p)) : L_impl_RewriteIn l p κ := by
  unfold L_impl_RewriteIn jnW
  have no : ¬ (RwV l ∧ pv p) → κ (GPacket.mk 0 0 0 0) := fun e => by unfold ri at h; rw [if_neg e] at h; exact h
  refine S_impl_RewritesValid hl (ifW_of (fun e => ifW_t (no (fun f => by simp [f.1] at e))) (fun e => S_PacketValid (ifW_of (fun e2 => no (fun f => by simp [f.2] at e2)) (fun e2 => ?_))))
  have e1 : RwV l := by simpa using e
  have e2' : pv p := by simpa using e2
  unfold ri at h; rw [if_pos ⟨e1, e2'⟩] at h
  exact S_in e1 e2'.2.1 (κ := fun t71 => κ (GPacket.mk p.xFrom t71 p.xPort p.xProto)) h
-- the reference
end
section


/-! draws -/
theorem S_l20Packet {b : List UInt8} {p n : Int} (hb : b.length ≤ 2000) (h0 : 0 ≤ p) (h1 : p ≤ 900000) (hn : n ≤ 4294967296) {κ : GPacket × Int → Prop} (h : ∀ k p', p ≤ p' → p' ≤ p + 20 → κ (k, p')) : L_spec_l20Packet b p n κ := by
  unfold L_spec_l20Packet
  have rd : ∀ q, 0 ≤ q → q ≤ 900040 → RdP b q := fun q q1 q2 => ⟨hb, q1, by omega⟩
  refine S_pick (rd _ (by omega) (by omega)) (fun a a1 a2 => S_pick (rd _ (by omega) (by omega)) (fun c c1 c2 => S_pick (rd _ (by omega) (by omega)) (fun d d1 d2 => S_pick (rd _ (by omega) (by omega)) (fun e e1 e2 => ?_))))
  have fin : ∀ (q x y z : Int), p ≤ q → q ≤ p + 12 → L_spec_l20Rd_odd b q n (fun (r44, r45) => ifW r44 (L_spec_l20Rd_pick b r45 4 (fun (r46, r47) => ifW (decide (r46 = 0)) (L_spec_l20Rd_pick b r47 2 (fun (r50, r51) => idxW ([(-1), 65536]) r50 (fun e52 => κ ((GPacket.mk e52 y z e), r51)))) (ifW (decide (r46 = 1)) (L_spec_l20Rd_pick b r47 2 (fun (r56, r57) => idxW ([(-1), 65536]) r56 (fun e58 => κ ((GPacket.mk x e58 z e), r57)))) (ifW (decide (r46 = 2)) (L_spec_l20Rd_pick b r47 2 (fun (r62, r63) => idxW ([(-1), 256]) r62 (fun e64 => κ ((GPacket.mk x y e64 e), r63)))) (L_spec_l20Rd_pick b r47 2 (fun (r68, r69) => idxW ([(-1), 8]) r68 (fun e70 => κ ((GPacket.mk x y z e70), r69)))))))) (κ ((GPacket.mk x y z e), r45))) := by
    intro q x y z q1 q2
    refine S_odd (rd _ (by omega) (by omega)) hn (fun o r r1 r2 => ifW_of (fun _ => S_pick (rd _ (by omega) (by omega)) (fun k k1 k2 => ?_)) (fun _ => h _ _ (by omega) (by omega)))
    refine ifW_of (fun _ => ?_) (fun _ => ifW_of (fun _ => ?_) (fun _ => ifW_of (fun _ => ?_) (fun _ => ?_)))
    all_goals exact S_pick (rd _ (by omega) (by omega)) (fun j j1 j2 => idxW_any j1 (by simp; omega) (fun x hx => h _ _ (by omega) (by omega)))
  unfold jnW
  refine S_pick (rd _ (by omega) (by omega)) (fun v v1 v2 => ifW_of (fun _ => ?_) (fun _ => ?_))
  · refine S_pick (rd _ (by omega) (by omega)) (fun f f1 f2 => mulW_of (by omega) (by omega) (S_pick (rd _ (by omega) (by omega)) (fun g g1 g2 => addW_of (by omega) (by omega) (S_pick (rd _ (by omega) (by omega)) (fun i i1 i2 => mulW_of (by omega) (by omega) (S_pick (rd _ (by omega) (by omega)) (fun j j1 j2 => addW_of (by omega) (by omega) (S_pick (rd _ (by omega) (by omega)) (fun l l1 l2 => ?_)))))))))
    exact fin _ _ _ _ (by omega) (by omega)
  · exact fin _ _ _ _ (by omega) (by omega)
/-! the program's other functions -/
/-! the exact law -/
end
section
open Go Go.Proofs

theorem jnW_k {σ : Type} {K : σ → Prop} {B : (σ → Prop) → Prop} (h : B K) : jnW K B := h
theorem half_PV {p : GPrefix} (hp : PV p) (hl : p.xLength ≤ 15) : PV (GPrefix.mk p.xBase (p.xLength + 1)) ∧ PV (GPrefix.mk (p.xBase + 2 ^ (16 - (p.xLength + 1)).toNat) (p.xLength + 1)) ∧ psz p = 2 * 2 ^ (16 - (p.xLength + 1)).toNat := by
  obtain ⟨b1, b2, b3, b4⟩ := PV_bd hp
  obtain ⟨a, ha⟩ := PV_mul hp
  obtain ⟨h1, h2, h3, h4, h5⟩ := hp
  obtain ⟨s1, s2⟩ := pow_bd (16 - (p.xLength + 1)).toNat (by omega)
  have e : psz p = 2 * 2 ^ (16 - (p.xLength + 1)).toNat := by
    unfold psz
    rw [show (16 - p.xLength).toNat = (16 - (p.xLength + 1)).toNat + 1 by omega, Int.pow_succ]; omega
  rw [e] at ha b4
  have m1 : p.xBase % 2 ^ (16 - (p.xLength + 1)).toNat = 0 := by
    rw [ha, Int.mul_comm 2, Int.mul_assoc]; exact Int.mul_emod_right _ _
  refine ⟨⟨by simp only; omega, by simp only; omega, h3, h4, m1⟩, ⟨by simp only; omega, by simp only; omega, by simp only; omega, by simp only; omega, ?_⟩, e⟩
  show (p.xBase + 2 ^ (16 - (p.xLength + 1)).toNat) % 2 ^ (16 - (p.xLength + 1)).toNat = 0
  rw [Int.add_emod_right]; exact m1
theorem pfs2 (a b : GRewrite) : spl [a, b] = [psp a.xInside, psp a.xOutside, psp b.xInside, psp b.xOutside] := rfl
theorem pfs1 (a : GRewrite) : spl [a] = [psp a.xInside, psp a.xOutside] := rfl
/-- the two of a valid one -/
theorem split_ok {r : GRewrite} (hv : RwV [r]) (hl : r.xInside.xLength ≠ 16) : ∃ a b, splitF r = (a, b, true) ∧ RwV [a, b] ∧ (∀ x, outF [a, b] x = outF [r] x) ∧ (∀ x, inF [a, b] x = inF [r] x) := by
  obtain ⟨g1, g2, g3⟩ := hv.2.1 r (by simp)
  have k1 := PV_bd g1
  have k2 := PV_bd g2
  have l1 := g1.2.1
  have l0 := g1.1
  obtain ⟨u1, u2, u3⟩ := half_PV g1 (by omega)
  obtain ⟨v1, v2, v3⟩ := half_PV g2 (by omega)
  rw [← g3] at v1 v2 v3
  have ap := hv.2.2
  rw [pfs1] at ap
  have ap2 := (List.pairwise_cons.1 ap).1 (psp r.xOutside) (by simp)
  obtain ⟨s1, s2⟩ := pow_bd (16 - (r.xInside.xLength + 1)).toNat (by omega)
  have hs : splitF r = _ := if_pos ⟨hv, hl⟩
  refine ⟨_, _, hs, ?_⟩
  have psz1 : ∀ b : Int, psz (GPrefix.mk b (r.xInside.xLength + 1)) = 2 ^ (16 - (r.xInside.xLength + 1)).toNat := fun _ => rfl
  generalize hh : (2 : Int) ^ (16 - (r.xInside.xLength + 1)).toNat = h at *
  simp only [apart, psp, u3, v3] at ap2
  have hv2 : RwV [GRewrite.mk (GPrefix.mk r.xInside.xBase (r.xInside.xLength + 1)) (GPrefix.mk r.xOutside.xBase (r.xInside.xLength + 1)), GRewrite.mk (GPrefix.mk (r.xInside.xBase + h) (r.xInside.xLength + 1)) (GPrefix.mk (r.xOutside.xBase + h) (r.xInside.xLength + 1))] := by
    refine ⟨by simp, fun x hx => ?_, ?_⟩
    · rcases List.mem_cons.1 hx with q | q
      · subst q; exact ⟨u1, v1, rfl⟩
      · simp only [List.mem_singleton] at q; subst q; exact ⟨u2, v2, rfl⟩
    · rw [pfs2]
      simp only [List.pairwise_cons, List.mem_cons, List.not_mem_nil, or_false, forall_eq_or_imp, forall_eq, apart, psp, psz1]
      simp
      omega
  refine ⟨hv2, fun x => ?_, fun x => ?_⟩
  · rcases outF_cases hv x with ⟨s, hs, q1, q2, q3⟩ | ⟨q1, q2⟩
    · simp only [List.mem_singleton] at hs; subst hs
      rw [q3]
      simp only [inp, psp, u3] at q1
      by_cases c : x ≤ s.xInside.xBase + h - 1
      · have := find_in hv2.2.2 (r := GRewrite.mk (GPrefix.mk s.xInside.xBase (s.xInside.xLength + 1)) (GPrefix.mk s.xOutside.xBase (s.xInside.xLength + 1))) (by simp) (a := x) (by simp only [inp, psp, psz1]; omega)
        unfold outF; rw [this]
      · have := find_in hv2.2.2 (r := GRewrite.mk (GPrefix.mk (s.xInside.xBase + h) (s.xInside.xLength + 1)) (GPrefix.mk (s.xOutside.xBase + h) (s.xInside.xLength + 1))) (by simp) (a := x) (by simp only [inp, psp, psz1]; omega)
        unfold outF; rw [this]; simp only; omega
    · rw [q2]
      have := q1 r (by simp)
      simp only [inp, psp, u3] at this
      refine outF_none (fun s hs => ?_)
      rcases List.mem_cons.1 hs with q | q
      · subst q; simp only [inp, psp, psz1]; omega
      · simp only [List.mem_singleton] at q; subst q; simp only [inp, psp, psz1]; omega
  · rcases inF_cases hv x with ⟨s, hs, q1, q2, q3⟩ | ⟨q1, q2⟩
    · simp only [List.mem_singleton] at hs; subst hs
      rw [q3]
      simp only [inp, psp, v3] at q1
      by_cases c : x ≤ s.xOutside.xBase + h - 1
      · have := find_out hv2.2.2 (r := GRewrite.mk (GPrefix.mk s.xInside.xBase (s.xInside.xLength + 1)) (GPrefix.mk s.xOutside.xBase (s.xInside.xLength + 1))) (by simp) (a := x) (by simp only [inp, psp, psz1]; omega)
        unfold inF; rw [this]
      · have := find_out hv2.2.2 (r := GRewrite.mk (GPrefix.mk (s.xInside.xBase + h) (s.xInside.xLength + 1)) (GPrefix.mk (s.xOutside.xBase + h) (s.xInside.xLength + 1))) (by simp) (a := x) (by simp only [inp, psp, psz1]; omega)
        unfold inF; rw [this]; simp only; omega
    · rw [q2]
      have := q1 r (by simp)
      simp only [inp, psp, v3] at this
      refine inF_none (fun s hs => ?_)
      rcases List.mem_cons.1 hs with q | q
      · subst q; simp only [inp, psp, psz1]; omega
      · simp only [List.mem_singleton] at q; subst q; simp only [inp, psp, psz1]; omega
/-- what is drawn for a split has addresses in range -/
theorem pureFnSplitRewrite (code more : List UInt8) : L_laws_FnSplitRewrite code more (fun r => r = true) := by
  unfold L_laws_FnSplitRewrite
  refine jnW_k ?_
  refine ifW_of (fun _ => ifW_t rfl) (fun hc => ifW_of (fun _ => rfl) (fun hc2 => ?_))
  have hm : more.length ≤ 1048576 := by simp at hc2; omega
  unfold L_spec_DrawSplitRewrite
  refine S_l20Open (fun b hb => S_l20Rewrites ⟨hb, by omega, by omega⟩ (by omega) (by omega) (fun l p' hl _ _ => ?_))
  have main : ∀ r : GRewrite, L_impl_SplitRewrite r (fun (r70, r71, r72) => L_spec_SplitRewrite r (fun (r77, r78, r79) => jnW (fun (t144 : Bool) => ifW t144 (false = true) (ifW (!r72) (jnW (fun (t207 : Bool) => t207 = true) (fun k208 => ifW (decide (r70 = (GRewrite.mk (GPrefix.mk 0 0) (GPrefix.mk 0 0)))) (ifW (decide (r71 = (GRewrite.mk (GPrefix.mk 0 0) (GPrefix.mk 0 0)))) (L_laws_alive (fun r146 => k208 r146)) (k208 false)) (k208 false))) (subW 16 r.xInside.xLength (fun t213 => shlW 1 t213 (fun t214 => remW (more.length : Int) t214 (fun t215 => addW r.xInside.xBase t215 (fun t216 => remW (more.length : Int) t214 (fun t217 => addW r.xOutside.xBase t217 (fun t218 => L_spec_DrawPacketNumber more (fun r221 => jnW (fun (t291 : Bool) => t291 = true) (fun k292 => L_impl_RewritesValid ([r70, r71]) (fun r224 => ifW r224 (L_impl_RewriteOut ([r70, r71]) (GPacket.mk t216 t218 0 0) (fun r225 => L_impl_RewriteOut ([r]) (GPacket.mk t216 t218 0 0) (fun r226 => ifW (decide (r225 = r226)) (L_impl_RewriteIn ([r70, r71]) (GPacket.mk t216 t218 0 0) (fun r227 => L_impl_RewriteIn ([r]) (GPacket.mk t216 t218 0 0) (fun r228 => ifW (decide (r227 = r228)) (L_impl_RewriteOut ([r70, r71]) r221 (fun r229 => L_impl_RewriteOut ([r]) r221 (fun r230 => k292 (decide (r229 = r230))))) (k292 false)))) (k292 false)))) (k292 false))))))))))))) (fun k145 => ifW (!(decide (r70 = r77))) (k145 true) (ifW (!(decide (r71 = r78))) (k145 true) (k145 (!(decide (r72 = r79)))))))) := by
    intro r
    refine S_impl_SplitRewrite ?_
    generalize hs : splitF r = s
    obtain ⟨a, b, c⟩ := s
    refine S_spec_SplitRewrite ?_
    rw [hs]
    refine jnW_k (ifW_of (fun e => by simp at e) (fun _ => ifW_of (fun e => by simp at e) (fun _ => ifW_of (fun e => by simp at e) (fun _ => ?_))))
    by_cases hy : RwV [r] ∧ r.xInside.xLength ≠ 16
    · obtain ⟨a', b', e1, e2, e3, e4⟩ := split_ok hy.1 hy.2
      rw [hs] at e1
      simp only [Prod.mk.injEq] at e1
      obtain ⟨rfl, rfl, rfl⟩ := e1
      obtain ⟨g1, g2, g3⟩ := hy.1.2.1 r (by simp)
      have k1 := PV_bd g1
      have k2 := PV_bd g2
      have l0 := g1.1
      have l1 := g1.2.1
      have pz : psz r.xInside = 2 ^ (16 - r.xInside.xLength).toNat := rfl
      rw [pz] at k1
      refine ifW_f (subW_of (by omega) (by omega) ⟨by omega, by omega, ⟨by omega, by omega⟩, ?_⟩)
      rw [Int.one_mul]
      have k3 := psz_same (r := r) ⟨g1, g2, g3⟩
      rw [pz] at k3
      rw [← k3] at k2
      refine remW_lt (by omega) (by omega) (by omega) (fun z hz0 hz1 => addW_of (by omega) (by omega) (remW_lt (by omega) (by omega) (by omega) (fun z2 hz20 hz21 => addW_of (by omega) (by omega) ?_)))
      unfold L_spec_DrawPacketNumber
      refine S_l20Open (fun b2 hb2 => S_l20Packet hb2 (by omega) (by omega) (by omega) (fun q p2 _ _ => ?_))
      refine jnW_k (S_impl_RewritesValid (by simp) ?_)
      rw [decide_eq_true e2]
      have eo : ∀ p, ro [a, b] p = ro [r] p := fun p => by
        unfold ro
        by_cases hp : pv p
        · rw [if_pos ⟨e2, hp⟩, if_pos ⟨hy.1, hp⟩, e3]
        · rw [if_neg (fun f => hp f.2), if_neg (fun f => hp f.2)]
      have ei : ∀ p, ri [a, b] p = ri [r] p := fun p => by
        unfold ri
        by_cases hp : pv p
        · rw [if_pos ⟨e2, hp⟩, if_pos ⟨hy.1, hp⟩, e4]
        · rw [if_neg (fun f => hp f.2), if_neg (fun f => hp f.2)]
      refine ifW_t (S_impl_RewriteOut (by simp) (S_impl_RewriteOut (by simp) ?_))
      rw [eo, decide_eq_true rfl]
      refine ifW_t (S_impl_RewriteIn (by simp) (S_impl_RewriteIn (by simp) ?_))
      rw [ei, decide_eq_true rfl]
      refine ifW_t (S_impl_RewriteOut (by simp) (S_impl_RewriteOut (by simp) ?_))
      rw [eo, decide_eq_true rfl]
    · have : splitF r = _ := if_neg hy
      rw [hs] at this
      simp only [Prod.mk.injEq] at this
      obtain ⟨rfl, rfl, rfl⟩ := this
      exact ifW_t (jnW_k (ifW_t (ifW_t (S_alive rfl))))
  refine ifW_of (fun e => main _) (fun e => subW_of (by omega) (by omega) ?_)
  have hpos : 0 < l.length := by simp at e; exact List.length_pos_iff.2 e
  exact idxW_of (l.length - 1) (by omega) (by omega) (main _)


end
section
open Go.RowKit Go.Shelf Go.Lib Go.Sort Go.Proofs

section
variable {α : Type} [Inhabited α] {E : El α} {enc : α → List Value}
theorem rows_enc (hfl : Flat E enc) {F : Nat → Prop} {w : World} : ∀ {xs : List α} {css : List (List Value)}, Rows E F w xs css → css = xs.map enc
  | [], [], _ => rfl
  | x :: xs, cs :: css, h => by rw [List.map_cons, rows_enc hfl h.2, (hfl _ _ _ _).1 h.1]
  | [], _ :: _, h => by simp [Rows] at h
  | _ :: _, [], h => by simp [Rows] at h
theorem rows_enc' (hfl : Flat E enc) {F : Nat → Prop} {w : World} : ∀ {xs : List α}, Rows E F w xs (xs.map enc)
  | [] => trivial
  | x :: xs => ⟨(hfl _ _ _ _).2 rfl, rows_enc' hfl⟩
theorem flatK_get {k : Nat} (hk : ∀ x, (enc x).length = k) : ∀ (xs : List α) (t : Nat), t < xs.length * k → (xs.map enc).flatten[t]? = some ((enc xs.toArray[t / k]!)[t % k]!)
  | [], t, h => by simp at h
  | x :: xs, t, h => by
    have k0 : 0 < k := by
      rcases Nat.eq_zero_or_pos k with e | e
      · subst e; simp at h
      · exact e
    simp only [List.map_cons, List.flatten_cons]
    by_cases hlt : t < k
    · rw [List.getElem?_append_left (by rw [hk]; exact hlt), Nat.div_eq_of_lt hlt, Nat.mod_eq_of_lt hlt]
      have h1 : t < (enc x).length := by rw [hk]; exact hlt
      simp [h1]
    · have ih := flatK_get hk xs (t - k) (by simp [Nat.add_mul] at h; omega)
      rw [List.getElem?_append_right (by rw [hk]; omega), hk, ih]
      have e1 : t / k = (t - k) / k + 1 := by rw [Nat.div_eq_sub_div k0 (by omega)]
      have e2 : t % k = (t - k) % k := by rw [Nat.mod_eq_sub_mod (by omega)]
      rw [e1, e2]
      simp [Array.getElem!_eq_getD, Array.getD]
theorem flatK_list {k : Nat} (hk : ∀ x, (enc x).length = k) (xs : List α) : (flatK enc k xs.toArray).toList = (xs.map enc).flatten := by
  apply List.ext_getElem?
  intro t
  have hl : (xs.map enc).flatten.length = xs.length * k := by
    induction xs with
    | nil => simp
    | cons x xs ih => simp only [List.map_cons, List.flatten_cons, List.length_append, ih, hk, List.length_cons, Nat.add_mul]; omega
  by_cases h : t < xs.length * k
  · rw [flatK_get hk xs t h]
    have hs : t < (flatK enc k xs.toArray).size := by simpa using h
    have := get_flatK enc k xs.toArray t (by simpa using h)
    rw [getElem!_pos _ t hs] at this
    rw [Array.getElem?_toList, Array.getElem?_eq_getElem hs, this]
  · rw [List.getElem?_eq_none (by simpa using Nat.le_of_not_lt h), List.getElem?_eq_none (by omega)]
theorem own_held (hfl : Flat E enc) {k : Nat} (hk : ∀ x, (enc x).length = k) (hE : E.size = k) {ty : TypeId} {F : Nat → Prop} {w : World} {b n cap : Nat} {xs : List α} (h : Own E ty F w (.slice (some ⟨b, 0, none⟩) n cap) xs) :
    HoldsK enc k w b 0 xs.toArray ∧ b < w.heap.size ∧ n = xs.length ∧ ∃ cur, w.heap[b]? = some (.cells cur ty (0, 0)) ∧ n ≤ cap ∧ cap ≤ maxLen ∧ cur.size = cap * k ∧ cur.toList.take (n * k) = (xs.map enc).flatten := by
  obtain ⟨css, h1, h2, h3⟩ := h
  rcases h3 with ⟨e, _⟩ | ⟨g, cap', cur, e, _, hg, hle, hm, hcur, htake⟩
  · simp at e
  · simp at e
    obtain ⟨rfl, rfl, rfl⟩ := e
    have hcs := rows_enc hfl h1
    subst hcs
    rw [hE] at hcur htake
    refine ⟨fun j hj => ?_, (Array.getElem?_eq_some_iff.1 hg).1, rfl, cur, hg, hle, hm, hcur, htake⟩
    have hj' : j < xs.length * k := by simpa using hj
    refine ⟨?_, by simp [World.frozen?, hg]⟩
    rw [cell_of_row w b _ cur ty (0, 0) hg, Nat.zero_add]
    have h4 := flatK_get hk xs j hj'
    rw [← htake, List.getElem?_take, if_pos hj'] at h4
    have h5 := get_flatK enc k xs.toArray j (by simpa using hj')
    rw [show cur[j]? = cur.toList[j]? by simp, h4]
    show _ = some ((flatK enc k xs.toArray)[j]!)
    rw [h5]
theorem world_row (w : World) (b m : Nat) {ty : TypeId} {cur : Array Value} (hg : w.heap[b]? = some (.cells cur ty (0, 0))) {k : Nat} (ys : Array α) (os : Array Obj) :
    (sortWorldK enc k w b 0 m ys os).heap[b]? = some (.cells (putCells id 0 (flatK enc k ys) cur) ty (0, 0)) := by
  have hb := (Array.getElem?_eq_some_iff.1 hg).1
  unfold sortWorldK grow putRowK putRow mapBlock Sort.ahead
  simp only
  rw [Array.getElem?_append_left (by simpa using hb)]
  simp [Array.getElem?_modify, hg, onCells]
theorem world_other (w : World) (b m : Nat) {k : Nat} (ys : Array α) (os : Array Obj) {c : Nat} (hc : c < w.heap.size) (hne : c ≠ b) : (sortWorldK enc k w b 0 m ys os).heap[c]? = w.heap[c]? := by
  unfold sortWorldK grow putRowK putRow mapBlock Sort.ahead
  simp only
  rw [Array.getElem?_append_left (by simpa using hc)]
  simp [Array.getElem?_modify, Ne.symm hne]
theorem put_take (F cur : Array Value) (h : F.size ≤ cur.size) : (putCells id 0 F cur).toList.take F.size = F.toList := by
  apply List.ext_getElem?
  intro t
  rw [List.getElem?_take]
  by_cases ht : t < F.size
  · rw [if_pos ht]
    have : t < cur.size := by omega
    simp [putCells, this, ht]
  · rw [if_neg ht, List.getElem?_eq_none (by simpa using Nat.le_of_not_lt ht)]
theorem perm_sorted {lt : α → α → Bool} {xs : List α} {d' : Array α} (hp : PermIn 0 xs.toArray.size xs.toArray d') (hs : SortedIn lt 0 xs.toArray.size d') : xs.Perm d'.toList ∧ d'.toList.Pairwise (fun a b => lt b a = false) ∧ d'.size = xs.length := by
  obtain ⟨h1, _, h3⟩ := hp
  have hz : d'.size = xs.length := by simpa using h1
  refine ⟨?_, ?_, hz⟩
  · have e1 : (d'.extract 0 xs.toArray.size).toList = d'.toList := by
      rw [Array.toList_extract]; simp only [List.extract_eq_take_drop, List.drop_zero, Nat.sub_zero]; exact List.take_of_length_le (by simp [hz])
    have e2 : (xs.toArray.extract 0 xs.toArray.size).toList = xs := by
      rw [Array.toList_extract]; simp
    rw [e1, e2] at h3
    exact h3.symm
  · rw [List.pairwise_iff_getElem]
    intro i j hi hj hij
    have := hs i j (Nat.zero_le _) hij (by simpa [hz] using hj)
    simp only [Array.length_toList] at hi hj
    rw [getElem!_pos d' j hj, getElem!_pos d' i hi] at this
    simpa using this
/-- the sort, as a contract of a call that writes the slice in place; from its contracts on rows and on no element -/
theorem w_sort0 {P : Program} {N : FuncId} {k : Nat} (hfl : Flat E enc) (hk : ∀ x, (enc x).length = k) (hE : E.size = k) (cf : α → α → Int) (fv : Value)
    (hsort : ∀ (b cap : Nat) (d : Array α) (w : World), HoldsK enc k w b 0 d → b < w.heap.size → d.size < 4611686018427387904 → Calls P N #[.slice (some ⟨b, 0, none⟩) d.size cap, fv] w fun e w' => e = .returned (.tuple #[]) ∧ ∃ d' n os, PermIn 0 d.size d d' ∧ SortedIn (ltOf cf) 0 d.size d' ∧ w' = sortWorldK enc k w b 0 n d' os)
    (hnone : ∀ (p : Option Addr) (cap : Nat) (w : World), Calls P N #[.slice p 0 cap, fv] w fun e w' => e = .returned (.tuple #[]) ∧ w' = w)
    {w0 : World} {F : Nat → Prop} {v : Value} {ty : TypeId} {xs : List α} {κ : List α → Prop} (hF : ∀ b, F b → b < w0.heap.size ∧ ¬ feet [ownCh E ty v xs] b) (hg : Given [ownCh E ty v xs] F w0) (h : L_lib_sort (ltOf cf) xs κ) :
    Calls P N #[v, fv] w0 (Ret [ownCh E ty v xs] F w0 κ (fun (r : List α) (u : Unit) => .tuple #[]) (fun (r : List α) (u : Unit) => [ownCh E ty v r])) := by
  have hown : Own E ty F w0 v xs := hg.hold (ownCh E ty v xs) (by simp)
  obtain ⟨hsz, hk2⟩ := h
  by_cases hz : xs = []
  · subst hz
    obtain ⟨p, cap, hv⟩ : ∃ p cap, v = .slice p 0 cap := by
      obtain ⟨css, _, _, hq⟩ := hown
      rcases hq with ⟨rfl, _⟩ | ⟨g', cap, cur, rfl, _⟩
      · exact ⟨_, _, rfl⟩
      · exact ⟨_, _, rfl⟩
    have := hnone p cap w0
    rw [← hv] at this
    refine this.mono fun e w' ⟨he, hw⟩ => ?_
    subst hw
    refine ⟨[], (), hk2 [] (List.Perm.refl _) (by simp), he, ⟨rfl, rfl, rfl, Nat.le_refl _, fun _ _ _ => rfl⟩, fun c hc b hb => ?_, List.pairwise_singleton _ _, fun c hc => ?_⟩
    · rw [List.mem_singleton] at hc; subst hc
      exact ⟨.inr ⟨_, List.mem_singleton.2 rfl, hb⟩, hg.lt _ (by simp) b hb⟩
    · rw [List.mem_singleton] at hc; subst hc
      obtain ⟨css, r1, r2⟩ := hown
      exact ⟨css, by rw [rows_enc hfl r1]; exact rows_enc' hfl, r2⟩
  · obtain ⟨b, cap, hv⟩ : ∃ b cap, v = .slice (some ⟨b, 0, none⟩) xs.length cap := by
      obtain ⟨css, _, _, hq⟩ := hown
      rcases hq with ⟨rfl, hn⟩ | ⟨g', cap, cur, rfl, _⟩
      · exact absurd (List.eq_nil_of_length_eq_zero hn) hz
      · exact ⟨_, _, rfl⟩
    subst hv
    obtain ⟨hH, hb, _, cur, hgc, hle, hm, hcur, htake⟩ := own_held hfl hk hE hown
    have hcon := hsort b cap xs.toArray w0 hH hb (by simpa using hsz)
    rw [show xs.toArray.size = xs.length by simp] at hcon
    refine hcon.mono fun e w' ⟨he, d', n, os, hp, hs, hw⟩ => ?_
    obtain ⟨p1, p2, p3⟩ := perm_sorted (by simpa using hp) (by simpa using hs)
    subst hw
    have hys : d' = d'.toList.toArray := by simp
    have hlen : d'.toList.length = xs.length := by simpa using p3
    have hsize : w0.heap.size ≤ (sortWorldK enc k w0 b 0 n d' os).heap.size := size_sortWorldK_c enc k w0 b 0 n d' os
    refine ⟨d'.toList, (), hk2 _ p1 p2, he, ⟨rfl, rfl, rfl, hsize, fun c hc hnf => ?_⟩, fun c hc b' hb' => ?_, List.pairwise_singleton _ _, fun c hc => ?_⟩
    · exact world_other w0 b n d' os hc (fun e' => hnf ⟨_, List.mem_singleton.2 rfl, by simp [ownCh, Value.ownBlock, e']⟩)
    · rw [List.mem_singleton] at hc; subst hc
      have e' : b' = b := by simp [ownCh, Value.ownBlock] at hb'; exact hb'.symm
      subst e'
      exact ⟨.inr ⟨_, List.mem_singleton.2 rfl, by simp [ownCh, Value.ownBlock]⟩, Nat.lt_of_lt_of_le hb hsize⟩
    · rw [List.mem_singleton] at hc; subst hc
      have hfk : (flatK enc k d').toList = (d'.toList.map enc).flatten := by
        have := flatK_list hk d'.toList
        rw [← hys] at this; exact this
      have hfs : (flatK enc k d').size = xs.length * k := by rw [size_flatK, p3]
      refine ⟨d'.toList.map enc, rows_enc' hfl, ?_, .inr ⟨b, cap, _, by rw [hlen], Nat.zero_le _, world_row w0 b n hgc d' os, by omega, hm, ?_, ?_⟩⟩
      · rw [← hfk, Array.length_toList, hfs, hlen, hE]
      · rw [hE, ← hcur]; simp [putCells]
      · rw [hlen, hE, ← hfs, put_take _ _ (by rw [hfs, hcur]; exact Nat.mul_le_mul_right _ hle), hfk]
theorem w_sort {P : Program} {ρ : Ren} (L : SlLaysF0.n6 P ρ) {k : Nat} (aE : ∀ w, (isAgg (ρ.t 24)).run P w = .ok true w) (zE : ∀ w, (Go.sizeOf (ρ.t 24)).run P w = .ok k w) (hfl : Flat E enc) (hk : ∀ x, (enc x).length = k) (hE : E.size = k) (h1 : ∀ x, ∀ v ∈ enc x, v.oneCell' = true)
    (cf : α → α → Int) (hO : SWO (ltOf cf)) (g : Nat) (cb : Array Value) (eg : ∀ args w, (callFunc g args).run P w = .ok (.enter g args) w)
    (hcl : ∀ (x y : α) (W : World), Calls P g (#[.agg (enc x).toArray, .agg (enc y).toArray] ++ cb) W fun e w' => e = .returned (.int .i64 (cf x y)) ∧ ∃ q os', w' = grow (W.drewN q) os')
    {w0 : World} {F : Nat → Prop} {v : Value} {ty : TypeId} {xs : List α} {κ : List α → Prop} (hF : ∀ b, F b → b < w0.heap.size ∧ ¬ feet [ownCh E ty v xs] b) (hg : Given [ownCh E ty v xs] F w0) (h : L_lib_sort (ltOf cf) xs κ) :
    Calls P (ρ.f 6) #[v, .func (.func g) #[] cb] w0 (Ret [ownCh E ty v xs] F w0 κ (fun (r : List α) (u : Unit) => .tuple #[]) (fun (r : List α) (u : Unit) => [ownCh E ty v r])) :=
  w_sort0 hfl hk hE cf _ (fun b cap d w hH hb hsz => AnyQ.slices_SortFunc L k aE zE enc hk h1 cf hO g cb b 0 cap d w eg (fun m os dk _ x y => hcl x y _) hH hb hsz) (fun p cap w => AnyF.slices_SortFunc_none L p cap _ w) hF hg h
end

end
section
open Go.RowKit Go.Shelf Go.Lib Go.Sort Go.Proofs
def Tryd.cmpInt_ren : Go.Shelf.Ren := ⟨fun | 5 => 46 | 7 => 68 | n => n, fun | 22 => 3 | 3 => 3 | 4 => 4 | n => n, fun | n => n⟩
theorem Tryd.cmpInt : Go.Proofs.SlLaysC2.n5 Tryd.prog Tryd.cmpInt_ren where
  mixed := by kernel_rfl
  f5 := ⟨ "cmp.Compare[int]", by decide, Tryd.func46.trans (congrArg some (by kernel_rfl))⟩
  f7 := ⟨ "cmp.isNaN[int]", by decide, Tryd.func68.trans (congrArg some (by kernel_rfl))⟩
  t3 := Tryd.underlying3
  a3 := Tryd.isAgg3
  z3 := Tryd.sizeOf3
  v3 := Tryd.zeroValue3
  t4 := Tryd.underlying4
  a4 := Tryd.isAgg4
  z4 := Tryd.sizeOf4
  v4 := Tryd.zeroValue4
  t22 := Tryd.underlying3
  a22 := Tryd.isAgg3
  z22 := Tryd.sizeOf3
  v22 := Tryd.zeroValue3
theorem cmp_lt (x y : Int) : (Lib.compareInt x y < 0) ↔ x < y := by
  unfold Lib.compareInt
  split
  · simp [*]
  · split <;> simp <;> omega
theorem cmp_int (x y : Int) (W : World) : Calls Tryd.prog 46 #[.int .i64 x, .int .i64 y] W fun e w' => e = .returned (.int .i64 (Lib.compareInt x y)) ∧ w' = W := AnyG.cmp_Compare_int Tryd.cmpInt x y W

end
section
open Go.RowKit Go.Shelf Go.Lib Go.Sort Go.Proofs
def Tryd.pdqShift_ren : Go.Shelf.Ren := ⟨fun | 14 => 73 | 20 => 86 | 21 => 87 | 22 => 88 | 23 => 89 | 24 => 90 | 25 => 91 | 26 => 92 | 27 => 93 | 46 => 107 | 47 => 95 | 48 => 96 | 49 => 108 | 50 => 109 | 15 => 67 | 57 => 114 | 28 => 82 | 29 => 83 | n => n, fun | 24 => 91 | 22 => 61 | 3 => 3 | 25 => 93 | 4 => 4 | 0 => 0 | 46 => 116 | 45 => 115 | 50 => 95 | 66 => 132 | 39 => 104 | 55 => 124 | 70 => 136 | 76 => 145 | 77 => 146 | 53 => 122 | 5 => 5 | 9 => 9 | n => n, fun | n => n⟩
theorem Tryd.pdqShift : Go.Proofs.SlLaysF0.n14 Tryd.prog Tryd.pdqShift_ren where
  mixed := by kernel_rfl
  f14 := ⟨ "slices.pdqsortCmpFunc[loop.example/packetfilter/impl.shift]", by decide, Tryd.func73.trans (congrArg some (by kernel_rfl))⟩
  f15 := Tryd.func67.trans (congrArg some (by kernel_rfl))
  f20 := ⟨ "slices.insertionSortCmpFunc[loop.example/packetfilter/impl.shift]", by decide, Tryd.func86.trans (congrArg some (by kernel_rfl))⟩
  f21 := ⟨ "slices.heapSortCmpFunc[loop.example/packetfilter/impl.shift]", by decide, Tryd.func87.trans (congrArg some (by kernel_rfl))⟩
  f22 := ⟨ "slices.breakPatternsCmpFunc[loop.example/packetfilter/impl.shift]", by decide, Tryd.func88.trans (congrArg some (by kernel_rfl))⟩
  f23 := ⟨ "slices.choosePivotCmpFunc[loop.example/packetfilter/impl.shift]", by decide, Tryd.func89.trans (congrArg some (by kernel_rfl))⟩
  f24 := ⟨ "slices.reverseRangeCmpFunc[loop.example/packetfilter/impl.shift]", by decide, Tryd.func90.trans (congrArg some (by kernel_rfl))⟩
  f25 := ⟨ "slices.partialInsertionSortCmpFunc[loop.example/packetfilter/impl.shift]", by decide, Tryd.func91.trans (congrArg some (by kernel_rfl))⟩
  f26 := ⟨ "slices.partitionEqualCmpFunc[loop.example/packetfilter/impl.shift]", by decide, Tryd.func92.trans (congrArg some (by kernel_rfl))⟩
  f27 := ⟨ "slices.partitionCmpFunc[loop.example/packetfilter/impl.shift]", by decide, Tryd.func93.trans (congrArg some (by kernel_rfl))⟩
  f28 := Tryd.func82.trans (congrArg some (by kernel_rfl))
  f29 := Tryd.func83.trans (congrArg some (by kernel_rfl))
  f46 := ⟨ "slices.siftDownCmpFunc[loop.example/packetfilter/impl.shift]", by decide, Tryd.func107.trans (congrArg some (by kernel_rfl))⟩
  f47 := Tryd.func95.trans (congrArg some (by kernel_rfl))
  f48 := Tryd.func96.trans (congrArg some (by kernel_rfl))
  f49 := ⟨ "slices.medianAdjacentCmpFunc[loop.example/packetfilter/impl.shift]", by decide, Tryd.func108.trans (congrArg some (by kernel_rfl))⟩
  f50 := ⟨ "slices.medianCmpFunc[loop.example/packetfilter/impl.shift]", by decide, Tryd.func109.trans (congrArg some (by kernel_rfl))⟩
  f57 := ⟨ "slices.order2CmpFunc[loop.example/packetfilter/impl.shift]", by decide, Tryd.func114.trans (congrArg some (by kernel_rfl))⟩
  t0 := Tryd.underlying0
  a0 := Tryd.isAgg0
  z0 := Tryd.sizeOf0
  v0 := Tryd.zeroValue0
  t3 := Tryd.underlying3
  a3 := Tryd.isAgg3
  z3 := Tryd.sizeOf3
  v3 := Tryd.zeroValue3
  t4 := Tryd.underlying4
  a4 := Tryd.isAgg4
  z4 := Tryd.sizeOf4
  v4 := Tryd.zeroValue4
  t5 := Tryd.underlying5
  a5 := Tryd.isAgg5
  z5 := Tryd.sizeOf5
  v5 := Tryd.zeroValue5
  t9 := Tryd.underlying9
  a9 := Tryd.isAgg9
  z9 := Tryd.sizeOf9
  v9 := Tryd.zeroValue9
  t22 := Tryd.underlying61
  a22 := Tryd.isAgg61
  z22 := Tryd.sizeOf61
  v22 := Tryd.zeroValue61
  t25 := Tryd.underlying93
  a25 := Tryd.isAgg93
  z25 := Tryd.sizeOf93
  v25 := Tryd.zeroValue93
  t39 := Tryd.underlying104
  a39 := Tryd.isAgg104
  z39 := Tryd.sizeOf104
  v39 := Tryd.zeroValue104
  t45 := Tryd.underlying115
  a45 := Tryd.isAgg115
  z45 := Tryd.sizeOf115
  v45 := Tryd.zeroValue115
  t46 := Tryd.underlying116
  a46 := Tryd.isAgg116
  z46 := Tryd.sizeOf116
  v46 := Tryd.zeroValue116
  t50 := Tryd.underlying95
  a50 := Tryd.isAgg95
  z50 := Tryd.sizeOf95
  v50 := Tryd.zeroValue95
  t53 := Tryd.underlying122
  a53 := Tryd.isAgg122
  z53 := Tryd.sizeOf122
  v53 := Tryd.zeroValue122
  t55 := Tryd.underlying124
  a55 := Tryd.isAgg124
  z55 := Tryd.sizeOf124
  v55 := Tryd.zeroValue124
  t66 := Tryd.underlying132
  a66 := Tryd.isAgg132
  z66 := Tryd.sizeOf132
  v66 := Tryd.zeroValue132
  t70 := Tryd.underlying136
  a70 := Tryd.isAgg136
  z70 := Tryd.sizeOf136
  v70 := Tryd.zeroValue136
  t76 := Tryd.underlying145
  a76 := Tryd.isAgg145
  z76 := Tryd.sizeOf145
  v76 := Tryd.zeroValue145
  t77 := Tryd.underlying146
  a77 := Tryd.isAgg146
  z77 := Tryd.sizeOf146
  v77 := Tryd.zeroValue146
def Tryd.bitsLen_ren : Go.Shelf.Ren := ⟨fun | 125 => 67 | 128 => 82 | 129 => 83 | n => n, fun | 46 => 104 | 3 => 3 | 51 => 122 | 53 => 124 | 4 => 4 | 5 => 5 | 9 => 9 | n => n, fun | n => n⟩
theorem Tryd.bitsLen : Go.Proofs.Lays.n125 Tryd.prog Tryd.bitsLen_ren where
  mixed := by kernel_rfl
  f125 := Tryd.func67.trans (congrArg some (by kernel_rfl))
  f128 := Tryd.func82.trans (congrArg some (by kernel_rfl))
  f129 := Tryd.func83.trans (congrArg some (by kernel_rfl))
  t3 := Tryd.underlying3
  a3 := Tryd.isAgg3
  z3 := Tryd.sizeOf3
  v3 := Tryd.zeroValue3
  t4 := Tryd.underlying4
  a4 := Tryd.isAgg4
  z4 := Tryd.sizeOf4
  v4 := Tryd.zeroValue4
  t5 := Tryd.underlying5
  a5 := Tryd.isAgg5
  z5 := Tryd.sizeOf5
  v5 := Tryd.zeroValue5
  t9 := Tryd.underlying9
  a9 := Tryd.isAgg9
  z9 := Tryd.sizeOf9
  v9 := Tryd.zeroValue9
  t46 := Tryd.underlying104
  a46 := Tryd.isAgg104
  z46 := Tryd.sizeOf104
  v46 := Tryd.zeroValue104
  t51 := Tryd.underlying122
  a51 := Tryd.isAgg122
  z51 := Tryd.sizeOf122
  v51 := Tryd.zeroValue122
  t53 := Tryd.underlying124
  a53 := Tryd.isAgg124
  z53 := Tryd.sizeOf124
  v53 := Tryd.zeroValue124
instance : Inhabited GShift := ⟨⟨⟨0, 0⟩, 0⟩⟩
def cfShift (x y : GShift) : Int := Lib.compareInt x.xWhere.xLo y.xWhere.xLo
theorem swoShift : SWO (ltOf cfShift) := by
  refine ⟨?_, ?_, ?_⟩ <;> simp only [ltOf, cfShift, decide_eq_true_eq, decide_eq_false_iff_not, cmp_lt] <;> intros <;> omega
set_option maxHeartbeats 1000000 in
theorem cloShift (x y : GShift) (W : World) : Calls Tryd.prog 57 #[.agg #[.int .i64 x.xWhere.xLo, .int .i64 x.xWhere.xHi, .int .i64 x.xBy], .agg #[.int .i64 y.xWhere.xLo, .int .i64 y.xWhere.xHi, .int .i64 y.xBy]] W fun e w' => e = .returned (.int .i64 (cfShift x y)) ∧ ∃ q os', w' = grow (W.drewN q) os' := by
  have hcon := fun W' => cmp_int x.xWhere.xLo y.xWhere.xLo W'
  unfold cfShift
  generalize Lib.compareInt x.xWhere.xLo y.xWhere.xLo = r at hcon ⊢
  go_enter Tryd.func57, Tryd.ntmps57
  go_wp2_with (go_at_call 46; refine (hcon _).mono ?_; rintro e w' ⟨rfl, rfl⟩)
  go_ret
  exact ⟨rfl, 0, _, by rw [alloc_eq_grow, alloc_eq_grow, grow_grow]; rfl⟩
theorem egShift : ∀ args w, (callFunc 57 args).run Tryd.prog w = .ok (.enter 57 args) w := enters_of Tryd.func57 (by kernel_rfl) rfl
theorem h1Shift : ∀ x, ∀ v ∈ encGShift x, v.oneCell' = true := fun x v hv => by simp only [encGShift, List.mem_cons, List.not_mem_nil, or_false] at hv; rcases hv with rfl | rfl | rfl <;> rfl
set_option maxHeartbeats 2000000 in
set_option maxRecDepth 100000 in
theorem hsortShift (b cap : Nat) (d : Array GShift) (w : World) (hH : HoldsK encGShift 3 w b 0 d) (hb : b < w.heap.size) (hsz : d.size < 4611686018427387904) : Calls Tryd.prog 56 #[.slice (some ⟨b, 0, none⟩) d.size cap, .func (.func 57) #[] #[]] w fun e w' => e = .returned (.tuple #[]) ∧ ∃ d' n os, PermIn 0 d.size d d' ∧ SortedIn (ltOf cfShift) 0 d.size d' ∧ w' = sortWorldK encGShift 3 w b 0 n d' os := by
  have hlim : Lib.bitLen d.size < 4611686018427387904 := Nat.lt_of_le_of_lt (Lib.bitLen_le d.size 62 (by omega) (by omega)) (by omega)
  have hp := AnyQ.pdqsortCmpFunc_all Tryd.pdqShift 3 (fun w => Tryd.isAgg91 w) (fun w => Tryd.sizeOf91 w) encGShift cfShift 57 #[] swoShift b 0 cap d w egShift (fun m os dk _ x y => cloShift x y _) ⟨fun _ => rfl, h1Shift, hH, hb⟩ (d.size + 1) 0 d.size (Lib.bitLen d.size) d w (by omega) rfl (SWK.start hH) (Nat.zero_le _) (Nat.le_refl _) hsz hlim (Or.inl rfl)
  change Calls Tryd.prog 73 _ _ _ at hp
  have hl : Calls Tryd.prog 67 #[.int .u64 (d.size : Int)] w fun e w' => e = .returned (.int .i64 (Lib.bitLen d.size : Nat)) ∧ w' = w := by
    have h := Any.bits_Len Tryd.bitsLen (d.size : Int) w (by omega) (by omega)
    rw [Int.toNat_natCast] at h
    exact h
  have wr : IntKind.u64.wrap (d.size : Int) = d.size := by simp [IntKind.wrap, IntKind.bits, IntKind.signed]; omega
  have fin := pdq_sorts (ltOf cfShift) swoShift d 0 d.size (Lib.bitLen d.size) true true (Nat.zero_le _) (Nat.le_refl _) (Or.inl rfl)
  clear hH
  go_enter Tryd.func56, Tryd.ntmps56
  go_wp2_with (first | (go_at_call 67; refine hl.mono ?_; rintro e w' ⟨rfl, rfl⟩) | (go_at_call 73; refine hp.mono ?_; rintro e w' ⟨rfl, n, os, rfl⟩))
  go_end0
  exact ⟨rfl, _, n, os, fin.1, fin.2, rfl⟩
set_option maxHeartbeats 2000000 in
set_option maxRecDepth 100000 in
theorem hnoneShift (p : Option Addr) (cap : Nat) (w : World) : Calls Tryd.prog 56 #[.slice p 0 cap, .func (.func 57) #[] #[]] w fun e w' => e = .returned (.tuple #[]) ∧ w' = w := by
  have hp := fun lim W => AnyF.pdqsortCmpFunc_none Tryd.pdqShift p cap lim (.func (.func 57) #[] #[]) W
  change ∀ lim W, Calls Tryd.prog 73 _ _ _ at hp
  have hl : ∀ W, Calls Tryd.prog 67 #[.int .u64 0] W fun e w' => e = .returned (.int .i64 (Lib.bitLen 0 : Nat)) ∧ w' = W := fun W => by
    have h := Any.bits_Len Tryd.bitsLen 0 W (by omega) (by omega)
    exact h
  go_enter Tryd.func56, Tryd.ntmps56
  go_wp2_with (first | (go_at_call 67; refine (hl _).mono ?_; rintro e w' ⟨rfl, rfl⟩) | (go_at_call 73; refine (hp _ _).mono ?_; rintro e w' ⟨rfl, rfl⟩))
  go_end0
  exact ⟨rfl, rfl⟩
theorem w_srt_GShift {w0 : World} {F : Nat → Prop} {v : Value} {ty : TypeId} {xs : List GShift} {κ : List GShift → Prop} (hF : ∀ b, F b → b < w0.heap.size ∧ ¬ feet [ownCh elGShift ty v xs] b) (hg : Given [ownCh elGShift ty v xs] F w0) (h : L_lib_sort (fun (a b : GShift) => decide (a.xWhere.xLo < b.xWhere.xLo)) xs κ) :
    Calls Tryd.prog 56 #[v, .func (.func 57) #[] #[]] w0 (Ret [ownCh elGShift ty v xs] F w0 κ (fun (r : List GShift) (u : Unit) => .tuple #[]) (fun (r : List GShift) (u : Unit) => [ownCh elGShift ty v r])) := by
  have e : (fun (a b : GShift) => decide (a.xWhere.xLo < b.xWhere.xLo)) = ltOf cfShift := by
    funext a b
    exact decide_eq_decide.2 (cmp_lt _ _).symm
  rw [e] at h
  exact w_sort0 flelGShift (fun _ => rfl) rfl cfShift _ hsortShift hnoneShift hF hg h

end
section
open Go.RowKit Go.Shelf Go.Lib Go.Sort Go.Proofs
def Tryd.sortSpan_ren : Go.Shelf.Ren := ⟨fun | 6 => 44 | 15 => 67 | 14 => 66 | 28 => 82 | 29 => 83 | 20 => 74 | 21 => 75 | 22 => 76 | 23 => 77 | 24 => 78 | 25 => 79 | 26 => 80 | 27 => 81 | 46 => 94 | 47 => 95 | 48 => 96 | 49 => 97 | 50 => 98 | 57 => 110 | n => n, fun | 22 => 50 | 24 => 74 | 25 => 80 | 3 => 3 | 39 => 104 | 0 => 0 | 53 => 122 | 55 => 124 | 4 => 4 | 46 => 116 | 45 => 115 | 50 => 95 | 5 => 5 | 9 => 9 | 66 => 132 | 70 => 136 | 76 => 145 | 77 => 146 | n => n, fun | n => n⟩
theorem Tryd.sortSpan : Go.Proofs.SlLaysF0.n6 Tryd.prog Tryd.sortSpan_ren where
  mixed := by kernel_rfl
  f6 := ⟨ "slices.SortFunc[[]loop.example/packetfilter/impl.Span,loop.example/packetfilter/impl.Span]", by decide, Tryd.func44.trans (congrArg some (by kernel_rfl))⟩
  f14 := ⟨ "slices.pdqsortCmpFunc[loop.example/packetfilter/impl.Span]", by decide, Tryd.func66.trans (congrArg some (by kernel_rfl))⟩
  f15 := Tryd.func67.trans (congrArg some (by kernel_rfl))
  f20 := ⟨ "slices.insertionSortCmpFunc[loop.example/packetfilter/impl.Span]", by decide, Tryd.func74.trans (congrArg some (by kernel_rfl))⟩
  f21 := ⟨ "slices.heapSortCmpFunc[loop.example/packetfilter/impl.Span]", by decide, Tryd.func75.trans (congrArg some (by kernel_rfl))⟩
  f22 := ⟨ "slices.breakPatternsCmpFunc[loop.example/packetfilter/impl.Span]", by decide, Tryd.func76.trans (congrArg some (by kernel_rfl))⟩
  f23 := ⟨ "slices.choosePivotCmpFunc[loop.example/packetfilter/impl.Span]", by decide, Tryd.func77.trans (congrArg some (by kernel_rfl))⟩
  f24 := ⟨ "slices.reverseRangeCmpFunc[loop.example/packetfilter/impl.Span]", by decide, Tryd.func78.trans (congrArg some (by kernel_rfl))⟩
  f25 := ⟨ "slices.partialInsertionSortCmpFunc[loop.example/packetfilter/impl.Span]", by decide, Tryd.func79.trans (congrArg some (by kernel_rfl))⟩
  f26 := ⟨ "slices.partitionEqualCmpFunc[loop.example/packetfilter/impl.Span]", by decide, Tryd.func80.trans (congrArg some (by kernel_rfl))⟩
  f27 := ⟨ "slices.partitionCmpFunc[loop.example/packetfilter/impl.Span]", by decide, Tryd.func81.trans (congrArg some (by kernel_rfl))⟩
  f28 := Tryd.func82.trans (congrArg some (by kernel_rfl))
  f29 := Tryd.func83.trans (congrArg some (by kernel_rfl))
  f46 := ⟨ "slices.siftDownCmpFunc[loop.example/packetfilter/impl.Span]", by decide, Tryd.func94.trans (congrArg some (by kernel_rfl))⟩
  f47 := Tryd.func95.trans (congrArg some (by kernel_rfl))
  f48 := Tryd.func96.trans (congrArg some (by kernel_rfl))
  f49 := ⟨ "slices.medianAdjacentCmpFunc[loop.example/packetfilter/impl.Span]", by decide, Tryd.func97.trans (congrArg some (by kernel_rfl))⟩
  f50 := ⟨ "slices.medianCmpFunc[loop.example/packetfilter/impl.Span]", by decide, Tryd.func98.trans (congrArg some (by kernel_rfl))⟩
  f57 := ⟨ "slices.order2CmpFunc[loop.example/packetfilter/impl.Span]", by decide, Tryd.func110.trans (congrArg some (by kernel_rfl))⟩
  t0 := Tryd.underlying0
  a0 := Tryd.isAgg0
  z0 := Tryd.sizeOf0
  v0 := Tryd.zeroValue0
  t3 := Tryd.underlying3
  a3 := Tryd.isAgg3
  z3 := Tryd.sizeOf3
  v3 := Tryd.zeroValue3
  t4 := Tryd.underlying4
  a4 := Tryd.isAgg4
  z4 := Tryd.sizeOf4
  v4 := Tryd.zeroValue4
  t5 := Tryd.underlying5
  a5 := Tryd.isAgg5
  z5 := Tryd.sizeOf5
  v5 := Tryd.zeroValue5
  t9 := Tryd.underlying9
  a9 := Tryd.isAgg9
  z9 := Tryd.sizeOf9
  v9 := Tryd.zeroValue9
  t22 := Tryd.underlying50
  a22 := Tryd.isAgg50
  z22 := Tryd.sizeOf50
  v22 := Tryd.zeroValue50
  t25 := Tryd.underlying80
  a25 := Tryd.isAgg80
  z25 := Tryd.sizeOf80
  v25 := Tryd.zeroValue80
  t39 := Tryd.underlying104
  a39 := Tryd.isAgg104
  z39 := Tryd.sizeOf104
  v39 := Tryd.zeroValue104
  t45 := Tryd.underlying115
  a45 := Tryd.isAgg115
  z45 := Tryd.sizeOf115
  v45 := Tryd.zeroValue115
  t46 := Tryd.underlying116
  a46 := Tryd.isAgg116
  z46 := Tryd.sizeOf116
  v46 := Tryd.zeroValue116
  t50 := Tryd.underlying95
  a50 := Tryd.isAgg95
  z50 := Tryd.sizeOf95
  v50 := Tryd.zeroValue95
  t53 := Tryd.underlying122
  a53 := Tryd.isAgg122
  z53 := Tryd.sizeOf122
  v53 := Tryd.zeroValue122
  t55 := Tryd.underlying124
  a55 := Tryd.isAgg124
  z55 := Tryd.sizeOf124
  v55 := Tryd.zeroValue124
  t66 := Tryd.underlying132
  a66 := Tryd.isAgg132
  z66 := Tryd.sizeOf132
  v66 := Tryd.zeroValue132
  t70 := Tryd.underlying136
  a70 := Tryd.isAgg136
  z70 := Tryd.sizeOf136
  v70 := Tryd.zeroValue136
  t76 := Tryd.underlying145
  a76 := Tryd.isAgg145
  z76 := Tryd.sizeOf145
  v76 := Tryd.zeroValue145
  t77 := Tryd.underlying146
  a77 := Tryd.isAgg146
  z77 := Tryd.sizeOf146
  v77 := Tryd.zeroValue146
instance : Inhabited GSpan := ⟨⟨0, 0⟩⟩
def cfSpan (x y : GSpan) : Int := Lib.compareInt x.xLo y.xLo
theorem swoSpan : SWO (ltOf cfSpan) := by
  refine ⟨?_, ?_, ?_⟩ <;> simp only [ltOf, cfSpan, decide_eq_true_eq, decide_eq_false_iff_not, cmp_lt] <;> intros <;> omega
set_option maxHeartbeats 1000000 in
theorem cloSpan (x y : GSpan) (W : World) : Calls Tryd.prog 45 #[.agg #[.int .i64 x.xLo, .int .i64 x.xHi], .agg #[.int .i64 y.xLo, .int .i64 y.xHi]] W fun e w' => e = .returned (.int .i64 (cfSpan x y)) ∧ ∃ q os', w' = grow (W.drewN q) os' := by
  have hcon := fun W' => cmp_int x.xLo y.xLo W'
  unfold cfSpan
  generalize Lib.compareInt x.xLo y.xLo = r at hcon ⊢
  go_enter Tryd.func45, Tryd.ntmps45
  go_wp2_with (go_at_call 46; refine (hcon _).mono ?_; rintro e w' ⟨rfl, rfl⟩)
  go_ret
  exact ⟨rfl, 0, _, by rw [alloc_eq_grow, alloc_eq_grow, grow_grow]; rfl⟩
theorem w_srt_GSpan {w0 : World} {F : Nat → Prop} {v : Value} {ty : TypeId} {xs : List GSpan} {κ : List GSpan → Prop} (hF : ∀ b, F b → b < w0.heap.size ∧ ¬ feet [ownCh elGSpan ty v xs] b) (hg : Given [ownCh elGSpan ty v xs] F w0) (h : L_lib_sort (fun (a b : GSpan) => decide (a.xLo < b.xLo)) xs κ) :
    Calls Tryd.prog 44 #[v, .func (.func 45) #[] #[]] w0 (Ret [ownCh elGSpan ty v xs] F w0 κ (fun (r : List GSpan) (u : Unit) => .tuple #[]) (fun (r : List GSpan) (u : Unit) => [ownCh elGSpan ty v r])) := by
  have e : (fun (a b : GSpan) => decide (a.xLo < b.xLo)) = ltOf cfSpan := by
    funext a b
    exact decide_eq_decide.2 (cmp_lt _ _).symm
  rw [e] at h
  have eg : ∀ args w, (callFunc 45 args).run Tryd.prog w = .ok (.enter 45 args) w := enters_of Tryd.func45 (by kernel_rfl) rfl
  exact w_sort Tryd.sortSpan (k := 2) (fun w => Tryd.isAgg74 w) (fun w => Tryd.sizeOf74 w) flelGSpan (fun _ => rfl) rfl (fun x v hv => by simp only [encGSpan, List.mem_cons, List.not_mem_nil, or_false] at hv; rcases hv with rfl | rfl <;> rfl) cfSpan swoSpan 45 #[] eg (fun x y W => cloSpan x y W) hF hg h

end
section
open Go.RowKit
theorem arr112 : arrB Tryd.prog 112 = some (4, 111, true, 2) := by kernel_rfl
theorem arr88 : arrB Tryd.prog 88 = some (4, 3, false, 1) := by kernel_rfl
theorem bld26 : bldB Tryd.prog 26 = some (#[(0, 1), (1, 1), (2, 1), (3, 1)], [(.int .i64 0), (.int .i64 0), (.int .i64 0), (.int .i64 0)]) := by kernel_rfl
theorem bld36 : bldB Tryd.prog 36 = some (#[(0, 1), (1, 1)], [(.int .i64 0), (.int .i64 0)]) := by kernel_rfl
theorem bld38 : bldB Tryd.prog 38 = some (#[(0, 2), (2, 2)], [(.int .i64 0), (.int .i64 0), (.int .i64 0), (.int .i64 0)]) := by kernel_rfl
theorem bld74 : bldB Tryd.prog 74 = some (#[(0, 1), (1, 1)], [(.int .i64 0), (.int .i64 0)]) := by kernel_rfl
theorem bld88 : bldA Tryd.prog 88 = some (1, [(.int .i64 0), (.int .i64 0), (.int .i64 0), (.int .i64 0)]) := by kernel_rfl
theorem bld91 : bldB Tryd.prog 91 = some (#[(0, 2), (2, 1)], [(.int .i64 0), (.int .i64 0), (.int .i64 0)]) := by kernel_rfl
theorem bld99 : bldB Tryd.prog 99 = some (#[(0, 1), (1, 1)], [(.slice none 0 0), (.int .i64 0)]) := by kernel_rfl
theorem el101 : elB Tryd.prog 101 = some (3, 1, 8) := by kernel_rfl
theorem el28 : elB Tryd.prog 28 = some (38, 4, 32) := by kernel_rfl
theorem el34 : elB Tryd.prog 34 = some (5, 1, 1) := by kernel_rfl
theorem el50 : elB Tryd.prog 50 = some (74, 2, 16) := by kernel_rfl
theorem el53 : elB Tryd.prog 53 = some (36, 2, 16) := by kernel_rfl
theorem el62 : elB Tryd.prog 62 = some (91, 3, 24) := by kernel_rfl
theorem eqls26 (x y : Operand) (a0 : Int) (a1 : Int) (a2 : Int) (a3 : Int) (b0 : Int) (b1 : Int) (b2 : Int) (b3 : Int) (w : World) : (do eqGuard .eql 26 x y (.agg #[(.int .i64 a0), (.int .i64 a1), (.int .i64 a2), (.int .i64 a3)]) (.agg #[(.int .i64 b0), (.int .i64 b1), (.int .i64 b2), (.int .i64 b3)]); binOp .eql 26 (.agg #[(.int .i64 a0), (.int .i64 a1), (.int .i64 a2), (.int .i64 a3)]) (.agg #[(.int .i64 b0), (.int .i64 b1), (.int .i64 b2), (.int .i64 b3)]) : Sem Value).run Tryd.prog w = .ok (.bool (decide ((GPacket.mk a0 a1 a2 a3) = (GPacket.mk b0 b1 b2 b3)))) w := by
  simp [go_sem, binOp, Op.equal, Op.maxDepth]
  repeat' split
  all_goals simp_all
theorem eqls38 (x y : Operand) (a0 : Int) (a1 : Int) (a2 : Int) (a3 : Int) (b0 : Int) (b1 : Int) (b2 : Int) (b3 : Int) (w : World) : (do eqGuard .eql 38 x y (.agg #[(.int .i64 a0), (.int .i64 a1), (.int .i64 a2), (.int .i64 a3)]) (.agg #[(.int .i64 b0), (.int .i64 b1), (.int .i64 b2), (.int .i64 b3)]); binOp .eql 38 (.agg #[(.int .i64 a0), (.int .i64 a1), (.int .i64 a2), (.int .i64 a3)]) (.agg #[(.int .i64 b0), (.int .i64 b1), (.int .i64 b2), (.int .i64 b3)]) : Sem Value).run Tryd.prog w = .ok (.bool (decide ((GRewrite.mk (GPrefix.mk a0 a1) (GPrefix.mk a2 a3)) = (GRewrite.mk (GPrefix.mk b0 b1) (GPrefix.mk b2 b3))))) w := by
  simp [go_sem, binOp, Op.equal, Op.maxDepth]
  repeat' split
  all_goals simp_all
theorem neqs38 (x y : Operand) (a0 : Int) (a1 : Int) (a2 : Int) (a3 : Int) (b0 : Int) (b1 : Int) (b2 : Int) (b3 : Int) (w : World) : (do eqGuard .neq 38 x y (.agg #[(.int .i64 a0), (.int .i64 a1), (.int .i64 a2), (.int .i64 a3)]) (.agg #[(.int .i64 b0), (.int .i64 b1), (.int .i64 b2), (.int .i64 b3)]); binOp .neq 38 (.agg #[(.int .i64 a0), (.int .i64 a1), (.int .i64 a2), (.int .i64 a3)]) (.agg #[(.int .i64 b0), (.int .i64 b1), (.int .i64 b2), (.int .i64 b3)]) : Sem Value).run Tryd.prog w = .ok (.bool (!decide ((GRewrite.mk (GPrefix.mk a0 a1) (GPrefix.mk a2 a3)) = (GRewrite.mk (GPrefix.mk b0 b1) (GPrefix.mk b2 b3))))) w := by
  simp [go_sem, binOp, Op.equal, Op.maxDepth]
  repeat' split
  all_goals simp_all
theorem fld111_1 : fldB Tryd.prog 111 1 = some (1, false, 1) := by kernel_rfl
theorem fld26_0 : fldB Tryd.prog 26 0 = some (0, false, 1) := by kernel_rfl
theorem fld26_1 : fldB Tryd.prog 26 1 = some (1, false, 1) := by kernel_rfl
theorem fld26_2 : fldB Tryd.prog 26 2 = some (2, false, 1) := by kernel_rfl
theorem fld26_3 : fldB Tryd.prog 26 3 = some (3, false, 1) := by kernel_rfl
theorem fld36_0 : fldB Tryd.prog 36 0 = some (0, false, 1) := by kernel_rfl
theorem fld36_1 : fldB Tryd.prog 36 1 = some (1, false, 1) := by kernel_rfl
theorem fld38_0 : fldB Tryd.prog 38 0 = some (0, true, 2) := by kernel_rfl
theorem fld38_1 : fldB Tryd.prog 38 1 = some (2, true, 2) := by kernel_rfl
theorem fld74_0 : fldB Tryd.prog 74 0 = some (0, false, 1) := by kernel_rfl
theorem fld74_1 : fldB Tryd.prog 74 1 = some (1, false, 1) := by kernel_rfl
theorem fld91_0 : fldB Tryd.prog 91 0 = some (0, true, 2) := by kernel_rfl
theorem fld91_1 : fldB Tryd.prog 91 1 = some (2, false, 1) := by kernel_rfl
theorem fld99_0 : fldB Tryd.prog 99 0 = some (0, false, 1) := by kernel_rfl
theorem fld99_1 : fldB Tryd.prog 99 1 = some (1, false, 1) := by kernel_rfl
theorem ty26 : tyB Tryd.prog 26 = some (true, 4) := by kernel_rfl
theorem ty3 : tyB Tryd.prog 3 = some (false, 1) := by kernel_rfl
theorem ty34 : tyB Tryd.prog 34 = some (false, 1) := by kernel_rfl
theorem ty36 : tyB Tryd.prog 36 = some (true, 2) := by kernel_rfl
theorem ty38 : tyB Tryd.prog 38 = some (true, 4) := by kernel_rfl
theorem ty5 : tyB Tryd.prog 5 = some (false, 1) := by kernel_rfl
theorem ty74 : tyB Tryd.prog 74 = some (true, 2) := by kernel_rfl
theorem ty88 : tyB Tryd.prog 88 = some (true, 4) := by kernel_rfl
theorem ty91 : tyB Tryd.prog 91 = some (true, 3) := by kernel_rfl
theorem und104 : Tryd.prog.underlying 104 = some (.int .u64) := by kernel_rfl
theorem und3 : Tryd.prog.underlying 3 = some (.int .i64) := by kernel_rfl
theorem und4 : Tryd.prog.underlying 4 = some .bool := by kernel_rfl
theorem und5 : Tryd.prog.underlying 5 = some (.int .u8) := by kernel_rfl
theorem zero26 : zeroB Tryd.prog 26 = some [(.int .i64 0), (.int .i64 0), (.int .i64 0), (.int .i64 0)] := by kernel_rfl
theorem zero3 : zeroB Tryd.prog 3 = some [(.int .i64 0)] := by kernel_rfl
theorem zero36 : zeroB Tryd.prog 36 = some [(.int .i64 0), (.int .i64 0)] := by kernel_rfl
theorem zero38 : zeroB Tryd.prog 38 = some [(.int .i64 0), (.int .i64 0), (.int .i64 0), (.int .i64 0)] := by kernel_rfl
theorem zero74 : zeroB Tryd.prog 74 = some [(.int .i64 0), (.int .i64 0)] := by kernel_rfl
theorem zero88 : zeroB Tryd.prog 88 = some [(.int .i64 0), (.int .i64 0), (.int .i64 0), (.int .i64 0)] := by kernel_rfl
theorem zero91 : zeroB Tryd.prog 91 = some [(.int .i64 0), (.int .i64 0), (.int .i64 0)] := by kernel_rfl
theorem mixed : Tryd.prog.follows .mixedOrders = true := by kernel_rfl

set_option maxRecDepth 100000 in
set_option maxHeartbeats 8000000 in
theorem w_spec_l1In {w0 : World} {F : Nat → Prop} {n_0 : Int} {lo_1 : Int} {hi_2 : Int} {κ : Bool → Prop} (hF : ∀ b, F b → b < w0.heap.size ∧ ¬ feet [] b) (h : L_spec_l1In n_0 lo_1 hi_2 κ) :
    Calls Tryd.prog 50 #[(.int .i64 n_0), (.int .i64 lo_1), (.int .i64 hi_2)] w0 (Ret [] F w0 κ (fun (r : Bool) (u : Unit) => (.bool r)) (fun (r : Bool) (u : Unit) => [])) := by
  refine enter0 (args := [(.int .i64 n_0), (.int .i64 lo_1), (.int .i64 hi_2)]) [] hF (Given.nil _ _) Tryd.func50 rfl Tryd.ntmps50 rfl h ?_
  clear h hF
  refine c_seq ?_
  refine c_region ?_
  refine o_as st rfl rfl ?_
  refine c_nil ?_
  refine l_then ?_
  refine c_join (σ := Bool) (fun (t61 : Bool) (a : Act) (w : World) => Has 15 [(6, (.bool t61))] a ∧ Mem (gB F [] w0) (feet []) w0 [] w) ?_ ?_
  · intro k62
    refine c_region ?_
    refine o_mv st rfl rfl ?_
    refine o_mv st rfl rfl ?_
    refine o_geq st rfl rfl rfl ?_
    refine o_mv st rfl rfl ?_
    refine st_sp (dj := 10) rfl ?_ ?_
    · refine o_mv (st_g rfl rfl) rfl rfl ?_
      refine o_mv (st_g rfl rfl) rfl rfl ?_
      refine o_leq (st_g rfl rfl) rfl rfl rfl ?_
      refine o_pickT st rfl rfl rfl ?_
      refine o_as st rfl rfl ?_
      refine c_nil ?_
      exact l_join (decide (n_0 ≤ hi_2)) (fun a w hE hm => ⟨hE.sub ⟨rfl, trivial⟩, (hm.pick [] rfl)⟩)
    · refine st_s rfl rfl rfl rfl ?_
      refine st_s rfl rfl rfl rfl ?_
      refine st_s rfl rfl rfl rfl ?_
      refine o_pickF st rfl rfl rfl ?_
      refine o_as st rfl rfl ?_
      refine c_nil ?_
      exact l_join false (fun a w hE hm => ⟨hE.sub ⟨rfl, trivial⟩, (hm.pick [] rfl)⟩)
  · rintro t61 a w ⟨hE, hm⟩ h
    refine nx_of hE hm h ?_
    clear hE hm h
    refine c_ret ?_
    exact l_end1 Tryd.results50 t61 () (rv_t rfl) (fun _ _ => NewCh.nil _ _ _ _)

set_option maxRecDepth 100000 in
set_option maxHeartbeats 8000000 in
theorem w_spec_PrefixValid {w0 : World} {F : Nat → Prop} {p_0 : GPrefix} {κ : Bool → Prop} (hF : ∀ b, F b → b < w0.heap.size ∧ ¬ feet [] b) (h : L_spec_PrefixValid p_0 κ) :
    Calls Tryd.prog 48 #[(.agg #[(.int .i64 p_0.xBase), (.int .i64 p_0.xLength)])] w0 (Ret [] F w0 κ (fun (r : Bool) (u : Unit) => (.bool r)) (fun (r : Bool) (u : Unit) => [])) := by
  refine enter0 (args := [(.agg #[(.int .i64 p_0.xBase), (.int .i64 p_0.xLength)])]) [] hF (Given.nil _ _) Tryd.func48 rfl Tryd.ntmps48 rfl h ?_
  clear h hF
  refine c_seq ?_
  refine c_region ?_
  refine stw (o_box rfl rfl [(.int .i64 p_0.xBase), (.int .i64 p_0.xLength)] rfl ?_); intro b1
  refine o_as st rfl rfl ?_
  refine c_nil ?_
  refine l_then ?_
  refine c_join (σ := Bool) (fun (t68 : Bool) (a : Act) (w : World) => Has 21 [(2, (.bool t68))] a ∧ Mem (gB F [] w0) (feet []) w0 [] w) ?_ ?_
  · intro k69
    refine c_draw mixed 19 rfl [cellCh b1 [(.int .i64 p_0.xBase), (.int .i64 p_0.xLength)] 36] ?_
    refine o_fad (dt 0 (fun _ m => m)) rfl rfl fld36_1 rfl ?_
    refine o_ldc (dt 1 (fun _ m => m)) (v := (.int .i64 p_0.xLength)) 0 rfl rfl rfl ty3 rfl ?_
    refine d_one (i := 2) rfl (by kernel_rfl) (o_callP (vs := [(.int .i64 p_0.xLength), (.int .i64 0), (.int .i64 16)]) Tryd.call50 rfl rfl (by intro w m h; exact (w_spec_l1In (F := allB [] w) (n_0 := p_0.xLength) (lo_1 := 0) (hi_2 := 16) allB_ok h).mono (fun _ _ k => ret_free (fun r u => fr_nil) k)) ?_); rintro r3 _
    refine d_and (fun _ m => m) ?_
    refine o_mv (dt 3 (fun _ m => m)) rfl rfl ?_
    refine st_sp (dj := 6) rfl ?_ ?_
    · refine o_fad (dtg 4 (fun _ m => m)) rfl rfl fld36_0 rfl ?_
      refine o_ldc (dtg 5 (fun _ m => m)) (v := (.int .i64 p_0.xBase)) 0 rfl rfl rfl ty3 rfl ?_
      refine d_oneg (i := 6) rfl rfl rfl (by kernel_rfl) (o_callP (vs := [(.int .i64 p_0.xBase), (.int .i64 0), (.int .i64 65535)]) Tryd.call50 rfl rfl (by intro w m h; exact (w_spec_l1In (F := allB [] w) (n_0 := p_0.xBase) (lo_1 := 0) (hi_2 := 65535) allB_ok h).mono (fun _ _ k => ret_free (fun r u => fr_nil) k)) ?_); rintro r4 _
      refine d_and (fun _ m => m) ?_
      refine o_pickT (dt 7 (fun _ m => m)) rfl rfl rfl ?_
      refine o_mv (dt 8 (fun _ m => m)) rfl rfl ?_
      refine st_sp (dj := 11) rfl ?_ ?_
      · refine o_fad (dtg 9 (fun _ m => m)) rfl rfl fld36_0 rfl ?_
        refine o_ldc (dtg 10 (fun _ m => m)) (v := (.int .i64 p_0.xBase)) 0 rfl rfl rfl ty3 rfl ?_
        refine o_fad (dtg 11 (fun _ m => m)) rfl rfl fld36_1 rfl ?_
        refine o_ldc (dtg 12 (fun _ m => m)) (v := (.int .i64 p_0.xLength)) 0 rfl rfl rfl ty3 rfl ?_
        refine o_sub (dtg 13 (fun _ m => m)) rfl rfl rfl ?_; intro t5
        refine o_shl (dtg 14 (fun _ m => m)) rfl rfl rfl ?_; intro t6
        refine o_rem (dtg 15 (fun _ m => m)) rfl rfl rfl ?_; intro t7
        refine o_eql (dtg 16 (fun _ m => m)) und3 rfl rfl rfl ?_
        refine o_pickT (dt 17 (fun _ m => m)) rfl rfl rfl ?_
        refine o_as (dt 18 (fun _ m => m)) rfl rfl ?_
        refine d_done (by kernel_rfl) ?_
        exact l_join (decide (t7 = 0)) (fun a w hE hm => ⟨hE.sub ⟨rfl, trivial⟩, (hm.pick [] rfl)⟩)
      · refine dsk 9 (fun _ m => m) rfl (by kernel_rfl) rfl rfl rfl rfl ?_
        refine dsk 10 (fun _ m => m) rfl (by kernel_rfl) rfl rfl rfl rfl ?_
        refine dsk 11 (fun _ m => m) rfl (by kernel_rfl) rfl rfl rfl rfl ?_
        refine dsk 12 (fun _ m => m) rfl (by kernel_rfl) rfl rfl rfl rfl ?_
        refine dsk 13 (fun _ m => m) rfl (by kernel_rfl) rfl rfl rfl rfl ?_
        refine dsk 14 (fun _ m => m) rfl (by kernel_rfl) rfl rfl rfl rfl ?_
        refine dsk 15 (fun _ m => m) rfl (by kernel_rfl) rfl rfl rfl rfl ?_
        refine dsk 16 (fun _ m => m) rfl (by kernel_rfl) rfl rfl rfl rfl ?_
        refine o_pickF (dt 17 (fun _ m => m)) rfl rfl rfl ?_
        refine o_as (dt 18 (fun _ m => m)) rfl rfl ?_
        refine d_done (by kernel_rfl) ?_
        exact l_join false (fun a w hE hm => ⟨hE.sub ⟨rfl, trivial⟩, (hm.pick [] rfl)⟩)
    · refine dsk 4 (fun _ m => m) rfl (by kernel_rfl) rfl rfl rfl rfl ?_
      refine dsk 5 (fun _ m => m) rfl (by kernel_rfl) rfl rfl rfl rfl ?_
      refine dsk 6 (fun _ m => m) rfl (by kernel_rfl) rfl rfl rfl rfl ?_
      refine o_pickF (dt 7 (fun _ m => m)) rfl rfl rfl ?_
      refine o_mv (dt 8 (fun _ m => m)) rfl rfl ?_
      refine dsk 9 (fun _ m => m) rfl (by kernel_rfl) rfl rfl rfl rfl ?_
      refine dsk 10 (fun _ m => m) rfl (by kernel_rfl) rfl rfl rfl rfl ?_
      refine dsk 11 (fun _ m => m) rfl (by kernel_rfl) rfl rfl rfl rfl ?_
      refine dsk 12 (fun _ m => m) rfl (by kernel_rfl) rfl rfl rfl rfl ?_
      refine dsk 13 (fun _ m => m) rfl (by kernel_rfl) rfl rfl rfl rfl ?_
      refine dsk 14 (fun _ m => m) rfl (by kernel_rfl) rfl rfl rfl rfl ?_
      refine dsk 15 (fun _ m => m) rfl (by kernel_rfl) rfl rfl rfl rfl ?_
      refine dsk 16 (fun _ m => m) rfl (by kernel_rfl) rfl rfl rfl rfl ?_
      refine o_pickF (dt 17 (fun _ m => m)) rfl rfl rfl ?_
      refine o_as (dt 18 (fun _ m => m)) rfl rfl ?_
      refine d_done (by kernel_rfl) ?_
      exact l_join false (fun a w hE hm => ⟨hE.sub ⟨rfl, trivial⟩, (hm.pick [] rfl)⟩)
  · rintro t68 a w ⟨hE, hm⟩ h
    refine nx_of hE hm h ?_
    clear hE hm h
    refine c_ret ?_
    exact l_end1 Tryd.results48 t68 () (rv_t rfl) (fun _ _ => NewCh.nil _ _ _ _)

set_option maxRecDepth 100000 in
set_option maxHeartbeats 8000000 in
theorem w_spec_PrefixSpan {w0 : World} {F : Nat → Prop} {p_0 : GPrefix} {κ : (GSpan × Bool) → Prop} (hF : ∀ b, F b → b < w0.heap.size ∧ ¬ feet [] b) (h : L_spec_PrefixSpan p_0 κ) :
    Calls Tryd.prog 69 #[(.agg #[(.int .i64 p_0.xBase), (.int .i64 p_0.xLength)])] w0 (Ret [] F w0 κ (fun (r : (GSpan × Bool)) (u : Unit) => .tuple #[(.agg #[(.int .i64 r.1.xLo), (.int .i64 r.1.xHi)]), (.bool r.2)]) (fun (r : (GSpan × Bool)) (u : Unit) => [])) := by
  refine enter0 (args := [(.agg #[(.int .i64 p_0.xBase), (.int .i64 p_0.xLength)])]) [] hF (Given.nil _ _) Tryd.func69 rfl Tryd.ntmps69 rfl h ?_
  clear h hF
  refine c_seq ?_
  refine c_region ?_
  refine stw (o_box rfl rfl [(.int .i64 p_0.xBase), (.int .i64 p_0.xLength)] rfl ?_); intro b1
  refine stw (o_alloc rfl [(.int .i64 0), (.int .i64 0)] zero74 ?_); intro b3
  refine o_as st rfl rfl ?_
  refine c_nil ?_
  refine l_then ?_
  refine c_seq ?_
  refine c_seq ?_
  refine c_region ?_
  refine o_ldc st (v := (.agg #[(.int .i64 p_0.xBase), (.int .i64 p_0.xLength)])) 1 rfl rfl rfl ty36 rfl ?_
  refine stw (o_callP (vs := [(.agg #[(.int .i64 p_0.xBase), (.int .i64 p_0.xLength)])]) Tryd.call48 rfl rfl (by intro w m h; exact (w_spec_PrefixValid (F := allB [] w) (p_0 := p_0) allB_ok h).mono (fun _ _ k => ret_free (fun r u => fr_nil) k)) ?_); rintro r5 _
  refine o_not st rfl rfl ?_
  refine c_nil ?_
  refine l_then ?_
  refine c_cond rfl ?_ ?_
  · refine c_seq ?_
    refine c_region ?_
    refine o_bld st (qs := []) (cells := [(.int .i64 0), (.int .i64 0)]) (by intro ρ h; simp only [List.map_toArray, List.map_cons, List.map_nil]) rfl bld74 rfl ?_
    refine stw (o_stc (cs' := [(.int .i64 0), (.int .i64 0)]) 0 rfl rfl rfl ty74 rfl rfl rfl rfl ?_)
    refine o_as st rfl rfl ?_
    refine c_nil ?_
    refine l_then ?_
    refine c_ret ?_
    refine l_ret ?_
    exact l_end2 Tryd.results69 ((GSpan.mk 0 0), false) () (rv_c 0 rfl rfl ty74 rfl) (rv_t rfl) rfl (fun _ _ => NewCh.nil _ _ _ _)
  · refine c_skip ?_
    refine l_then ?_
    refine c_seq ?_
    refine c_draw mixed 13 rfl [cellCh b1 [(.int .i64 p_0.xBase), (.int .i64 p_0.xLength)] 36] ?_
    refine o_fad (dt 0 (fun w m => m.pick [1] rfl)) rfl rfl fld36_0 rfl ?_
    refine o_ldc (dt 1 (fun w m => m.pick [1] rfl)) (v := (.int .i64 p_0.xBase)) 0 rfl rfl rfl ty3 rfl ?_
    refine o_fad (dt 2 (fun w m => m.pick [1] rfl)) rfl rfl fld36_0 rfl ?_
    refine o_ldc (dt 3 (fun w m => m.pick [1] rfl)) (v := (.int .i64 p_0.xBase)) 0 rfl rfl rfl ty3 rfl ?_
    refine o_fad (dt 4 (fun w m => m.pick [1] rfl)) rfl rfl fld36_1 rfl ?_
    refine o_ldc (dt 5 (fun w m => m.pick [1] rfl)) (v := (.int .i64 p_0.xLength)) 0 rfl rfl rfl ty3 rfl ?_
    refine o_sub (dt 6 (fun w m => m.pick [1] rfl)) rfl rfl rfl ?_; intro t6
    refine o_shl (dt 7 (fun w m => m.pick [1] rfl)) rfl rfl rfl ?_; intro t7
    refine o_add (dt 8 (fun w m => m.pick [1] rfl)) rfl rfl rfl ?_; intro t8
    refine o_sub (dt 9 (fun w m => m.pick [1] rfl)) rfl rfl rfl ?_; intro t9
    refine o_bld (dt 10 (fun w m => m.pick [1] rfl)) (qs := [(0, (.int .i64 p_0.xBase)), (1, (.int .i64 t9))]) (cells := [(.int .i64 p_0.xBase), (.int .i64 t9)]) (by intro ρ h; simp only [List.map_toArray, List.map_cons, List.map_nil, h (.tmp 9) _ rfl, h (.tmp 17) _ rfl]) rfl bld74 rfl ?_
    refine d_one (i := 11) rfl (by kernel_rfl) (o_stc (cs' := [(.int .i64 p_0.xBase), (.int .i64 t9)]) 0 rfl rfl rfl ty74 rfl rfl rfl rfl ?_)
    refine d_and (fun w m => m.pick [1] rfl) ?_
    refine o_as (dt 12 (fun w m => m.pick [1] rfl)) rfl rfl ?_
    refine d_done (by kernel_rfl) ?_
    refine l_then ?_
    refine c_ret ?_
    exact l_end2 Tryd.results69 ((GSpan.mk p_0.xBase t9), true) () (rv_c 0 rfl rfl ty74 rfl) (rv_t rfl) rfl (fun _ _ => NewCh.nil _ _ _ _)

set_option maxRecDepth 100000 in
set_option maxHeartbeats 8000000 in
theorem w_spec_PrefixWithin {w0 : World} {F : Nat → Prop} {a_0 : GPrefix} {b_1 : GPrefix} {κ : Bool → Prop} (hF : ∀ b, F b → b < w0.heap.size ∧ ¬ feet [] b) (h : L_spec_PrefixWithin a_0 b_1 κ) :
    Calls Tryd.prog 49 #[(.agg #[(.int .i64 a_0.xBase), (.int .i64 a_0.xLength)]), (.agg #[(.int .i64 b_1.xBase), (.int .i64 b_1.xLength)])] w0 (Ret [] F w0 κ (fun (r : Bool) (u : Unit) => (.bool r)) (fun (r : Bool) (u : Unit) => [])) := by
  refine enter0 (args := [(.agg #[(.int .i64 a_0.xBase), (.int .i64 a_0.xLength)]), (.agg #[(.int .i64 b_1.xBase), (.int .i64 b_1.xLength)])]) [] hF (Given.nil _ _) Tryd.func49 rfl Tryd.ntmps49 rfl h ?_
  clear h hF
  refine c_seq ?_
  refine c_region ?_
  refine stw (o_box rfl rfl [(.int .i64 a_0.xBase), (.int .i64 a_0.xLength)] rfl ?_); intro b1
  refine stw (o_box rfl rfl [(.int .i64 b_1.xBase), (.int .i64 b_1.xLength)] rfl ?_); intro b3
  refine o_as st rfl rfl ?_
  refine c_nil ?_
  refine l_then ?_
  refine c_seq ?_
  refine c_region ?_
  refine o_ldc st (v := (.agg #[(.int .i64 a_0.xBase), (.int .i64 a_0.xLength)])) 1 rfl rfl rfl ty36 rfl ?_
  refine stw (o_callP (vs := [(.agg #[(.int .i64 a_0.xBase), (.int .i64 a_0.xLength)])]) Tryd.call69 rfl rfl (by intro w m h; exact (w_spec_PrefixSpan (F := allB [] w) (p_0 := a_0) allB_ok h).mono (fun _ _ k => ret_free (fun r u => fr_nil) k)) ?_); rintro ⟨r5, r6⟩ _
  refine o_mv st rfl rfl ?_
  refine o_ext st (vs := [(.agg #[(.int .i64 r5.xLo), (.int .i64 r5.xHi)]), (.bool r6)]) rfl rfl rfl ?_
  refine o_ext st (vs := [(.agg #[(.int .i64 r5.xLo), (.int .i64 r5.xHi)]), (.bool r6)]) rfl rfl rfl ?_
  refine stw (o_alloc rfl [(.int .i64 0), (.int .i64 0)] zero74 ?_); intro b7
  refine stw (o_stc (cs' := [(.int .i64 r5.xLo), (.int .i64 r5.xHi)]) 0 rfl rfl rfl ty74 rfl rfl rfl rfl ?_)
  refine o_as st rfl rfl ?_
  refine c_nil ?_
  refine l_then ?_
  refine c_seq ?_
  refine c_region ?_
  refine o_ldc st (v := (.agg #[(.int .i64 b_1.xBase), (.int .i64 b_1.xLength)])) 1 rfl rfl rfl ty36 rfl ?_
  refine stw (o_callP (vs := [(.agg #[(.int .i64 b_1.xBase), (.int .i64 b_1.xLength)])]) Tryd.call69 rfl rfl (by intro w m h; exact (w_spec_PrefixSpan (F := allB [] w) (p_0 := b_1) allB_ok h).mono (fun _ _ k => ret_free (fun r u => fr_nil) k)) ?_); rintro ⟨r9, r10⟩ _
  refine o_mv st rfl rfl ?_
  refine o_ext st (vs := [(.agg #[(.int .i64 r9.xLo), (.int .i64 r9.xHi)]), (.bool r10)]) rfl rfl rfl ?_
  refine o_ext st (vs := [(.agg #[(.int .i64 r9.xLo), (.int .i64 r9.xHi)]), (.bool r10)]) rfl rfl rfl ?_
  refine stw (o_alloc rfl [(.int .i64 0), (.int .i64 0)] zero74 ?_); intro b11
  refine stw (o_stc (cs' := [(.int .i64 r9.xLo), (.int .i64 r9.xHi)]) 0 rfl rfl rfl ty74 rfl rfl rfl rfl ?_)
  refine o_as st rfl rfl ?_
  refine c_nil ?_
  refine l_then ?_
  refine c_join (σ := Bool) (fun (t73 : Bool) (a : Act) (w : World) => Has 37 [(4, (.bool t73))] a ∧ Mem (gB F [] w0) (feet []) w0 [] w) ?_ ?_
  · intro k74
    refine c_region ?_
    refine o_mv st rfl rfl ?_
    refine o_mv st rfl rfl ?_
    refine st_sp (dj := 20) rfl ?_ ?_
    · refine o_mv (st_g rfl rfl) rfl rfl ?_
      refine o_pickT st rfl rfl rfl ?_
      refine o_mv st rfl rfl ?_
      refine st_sp (dj := 23) rfl ?_ ?_
      · refine o_fad (st_g rfl rfl) rfl rfl fld74_0 rfl ?_
        refine o_ldc (st_g rfl rfl) (v := (.int .i64 r5.xLo)) 1 rfl rfl rfl ty3 rfl ?_
        refine o_fad (st_g rfl rfl) rfl rfl fld74_0 rfl ?_
        refine o_ldc (st_g rfl rfl) (v := (.int .i64 r9.xLo)) 0 rfl rfl rfl ty3 rfl ?_
        refine o_geq (st_g rfl rfl) rfl rfl rfl ?_
        refine o_pickT st rfl rfl rfl ?_
        refine o_mv st rfl rfl ?_
        refine st_sp (dj := 30) rfl ?_ ?_
        · refine o_fad (st_g rfl rfl) rfl rfl fld74_1 rfl ?_
          refine o_ldc (st_g rfl rfl) (v := (.int .i64 r5.xHi)) 1 rfl rfl rfl ty3 rfl ?_
          refine o_fad (st_g rfl rfl) rfl rfl fld74_1 rfl ?_
          refine o_ldc (st_g rfl rfl) (v := (.int .i64 r9.xHi)) 0 rfl rfl rfl ty3 rfl ?_
          refine o_leq (st_g rfl rfl) rfl rfl rfl ?_
          refine o_pickT st rfl rfl rfl ?_
          refine o_as st rfl rfl ?_
          refine c_nil ?_
          exact l_join (decide (r5.xHi ≤ r9.xHi)) (fun a w hE hm => ⟨hE.sub ⟨rfl, trivial⟩, (hm.pick [] rfl)⟩)
        · refine st_s rfl rfl rfl rfl ?_
          refine st_s rfl rfl rfl rfl ?_
          refine st_s rfl rfl rfl rfl ?_
          refine st_s rfl rfl rfl rfl ?_
          refine st_s rfl rfl rfl rfl ?_
          refine o_pickF st rfl rfl rfl ?_
          refine o_as st rfl rfl ?_
          refine c_nil ?_
          exact l_join false (fun a w hE hm => ⟨hE.sub ⟨rfl, trivial⟩, (hm.pick [] rfl)⟩)
      · refine st_s rfl rfl rfl rfl ?_
        refine st_s rfl rfl rfl rfl ?_
        refine st_s rfl rfl rfl rfl ?_
        refine st_s rfl rfl rfl rfl ?_
        refine st_s rfl rfl rfl rfl ?_
        refine o_pickF st rfl rfl rfl ?_
        refine o_mv st rfl rfl ?_
        refine st_s rfl rfl rfl rfl ?_
        refine st_s rfl rfl rfl rfl ?_
        refine st_s rfl rfl rfl rfl ?_
        refine st_s rfl rfl rfl rfl ?_
        refine st_s rfl rfl rfl rfl ?_
        refine o_pickF st rfl rfl rfl ?_
        refine o_as st rfl rfl ?_
        refine c_nil ?_
        exact l_join false (fun a w hE hm => ⟨hE.sub ⟨rfl, trivial⟩, (hm.pick [] rfl)⟩)
    · refine st_s rfl rfl rfl rfl ?_
      refine o_pickF st rfl rfl rfl ?_
      refine o_mv st rfl rfl ?_
      refine st_s rfl rfl rfl rfl ?_
      refine st_s rfl rfl rfl rfl ?_
      refine st_s rfl rfl rfl rfl ?_
      refine st_s rfl rfl rfl rfl ?_
      refine st_s rfl rfl rfl rfl ?_
      refine o_pickF st rfl rfl rfl ?_
      refine o_mv st rfl rfl ?_
      refine st_s rfl rfl rfl rfl ?_
      refine st_s rfl rfl rfl rfl ?_
      refine st_s rfl rfl rfl rfl ?_
      refine st_s rfl rfl rfl rfl ?_
      refine st_s rfl rfl rfl rfl ?_
      refine o_pickF st rfl rfl rfl ?_
      refine o_as st rfl rfl ?_
      refine c_nil ?_
      exact l_join false (fun a w hE hm => ⟨hE.sub ⟨rfl, trivial⟩, (hm.pick [] rfl)⟩)
  · rintro t73 a w ⟨hE, hm⟩ h
    refine nx_of hE hm h ?_
    clear hE hm h
    refine c_ret ?_
    exact l_end1 Tryd.results49 t73 () (rv_t rfl) (fun _ _ => NewCh.nil _ _ _ _)

set_option maxRecDepth 100000 in
set_option maxHeartbeats 8000000 in
theorem w_spec_RewritesValid {w0 : World} {F : Nat → Prop} {v1 : Value} {list_0 : (List GRewrite)} {κ : Bool → Prop} (hF : ∀ b, F b → b < w0.heap.size ∧ ¬ feet [] b) (hv1 : Sl elGRewrite F w0 v1 list_0) (h : L_spec_RewritesValid list_0 κ) :
    Calls Tryd.prog 24 #[v1] w0 (Ret [] F w0 κ (fun (r : Bool) (u : Unit) => (.bool r)) (fun (r : Bool) (u : Unit) => [])) := by
  refine enterS (args := [v1]) [] hF (Given.nil _ _) Tryd.func24 rfl Tryd.ntmps24 rfl h ?_
  clear h hF
  refine c_seq ?_
  refine c_region ?_
  refine o_as st rfl rfl ?_
  refine c_nil ?_
  refine l_then ?_
  refine c_seq ?_
  refine c_region ?_
  refine stw (o_bsl (enc := encGPrefix) (qs := []) (cells := []) ([] : (List GPrefix)) flelGPrefix (by intro ρ h; simp only [List.map_toArray, List.map_cons, List.map_nil]) rfl el53 zero36 rfl rfl rfl rfl rfl rfl ?_); intro v3
  refine o_as st rfl rfl ?_
  refine c_nil ?_
  refine l_then ?_
  refine c_seq ?_
  refine c_seq ?_
  refine c_region ?_
  refine o_as st rfl rfl ?_
  refine c_nil ?_
  refine l_then ?_
  refine c_block ?_
  refine c_loop (σ := ((List GPrefix) × Int)) (fun ((xs6, t9) : ((List GPrefix) × Int)) (a : Act) (w : World) => ∃ (v5 : Value), Has 92 [(0, v1), (3, v5), (4, (.int .i64 t9))] a ∧ Mem (gB F [] w0) (feet []) w0 [snapCh w0 F, ownCh elGPrefix 36 v5 xs6] w) (fun a w hE hm => ⟨v3, hE.sub ⟨rfl, rfl, rfl, trivial⟩, (hm.pick [1, 0] rfl)⟩) ?_
  rintro nx10 ⟨xs6, t9⟩ a w ⟨v5, hE, hm⟩ h
  refine nx_of hE hm h ?_
  clear hE hm h
  refine c_seq ?_
  refine c_seq ?_
  refine c_region ?_
  refine o_mv st rfl rfl ?_
  refine o_mv st rfl rfl ?_
  refine o_len st el28 0 rfl (reads_snap hv1) rfl rfl ?_
  refine o_lss st rfl rfl rfl ?_
  refine c_nil ?_
  refine l_then ?_
  refine c_cond rfl ?_ ?_
  · refine c_skip ?_
    refine l_then ?_
    refine c_seq ?_
    refine c_block ?_
    refine c_seq ?_
    refine c_join (σ := Bool) (fun (t81 : Bool) (a : Act) (w : World) => Has 92 [(0, v1), (3, v5), (4, (.int .i64 t9)), (44, (.bool t81))] a ∧ Mem (gB F [] w0) (feet []) w0 [ownCh elGPrefix 36 v5 xs6, snapCh w0 F] w) ?_ ?_
    · intro k82
      refine c_draw mixed 31 rfl [snapCh w0 F, ownCh elGPrefix 36 v5 xs6] ?_
      refine o_mv (dt 0 (fun _ m => m)) rfl rfl ?_
      refine o_mv (dt 1 (fun _ m => m)) rfl rfl ?_
      refine o_idx (dt 2 (fun _ m => m)) 0 rfl (reads_snap hv1) rfl rfl rfl el28 ?_; intro e11 h12
      refine o_fadS (dt 3 (fun _ m => m)) 0 rfl (reads_snap hv1) h12 rfl rfl fld38_0 rfl ?_
      refine o_lds (dt 4 (fun _ m => m)) (enc := encGRewrite) (u := (.agg #[(.int .i64 e11.xInside.xBase), (.int .i64 e11.xInside.xLength)])) 0 rfl (reads_snap hv1) flelGRewrite rfl h12 rfl rfl ty36 rfl ?_
      refine d_one (i := 5) rfl (by kernel_rfl) (o_callP (vs := [(.agg #[(.int .i64 e11.xInside.xBase), (.int .i64 e11.xInside.xLength)])]) Tryd.call48 rfl rfl (by intro w m h; exact (w_spec_PrefixValid (F := allB [] w) (p_0 := e11.xInside) allB_ok h).mono (fun _ _ k => ret_free (fun r u => fr_nil) k)) ?_); rintro r13 _
      refine d_and (fun _ m => m) ?_
      refine o_not (dt 6 (fun _ m => m)) rfl rfl ?_
      refine o_mv (dt 7 (fun _ m => m)) rfl rfl ?_
      refine st_sp (dj := 21) rfl ?_ ?_
      · refine dsk 8 (fun _ m => m) rfl (by kernel_rfl) rfl rfl rfl rfl ?_
        refine dsk 9 (fun _ m => m) rfl (by kernel_rfl) rfl rfl rfl rfl ?_
        refine dsk 10 (fun _ m => m) rfl (by kernel_rfl) rfl rfl rfl rfl ?_
        refine dsk 11 (fun _ m => m) rfl (by kernel_rfl) rfl rfl rfl rfl ?_
        refine dsk 12 (fun _ m => m) rfl (by kernel_rfl) rfl rfl rfl rfl ?_
        refine dsk 13 (fun _ m => m) rfl (by kernel_rfl) rfl rfl rfl rfl ?_
        refine dsk 14 (fun _ m => m) rfl (by kernel_rfl) rfl rfl rfl rfl ?_
        refine o_pickT (dt 15 (fun _ m => m)) rfl rfl rfl ?_
        refine o_mv (dt 16 (fun _ m => m)) rfl rfl ?_
        refine dsk 17 (fun _ m => m) rfl (by kernel_rfl) rfl rfl rfl rfl ?_
        refine dsk 18 (fun _ m => m) rfl (by kernel_rfl) rfl rfl rfl rfl ?_
        refine dsk 19 (fun _ m => m) rfl (by kernel_rfl) rfl rfl rfl rfl ?_
        refine dsk 20 (fun _ m => m) rfl (by kernel_rfl) rfl rfl rfl rfl ?_
        refine dsk 21 (fun _ m => m) rfl (by kernel_rfl) rfl rfl rfl rfl ?_
        refine dsk 22 (fun _ m => m) rfl (by kernel_rfl) rfl rfl rfl rfl ?_
        refine dsk 23 (fun _ m => m) rfl (by kernel_rfl) rfl rfl rfl rfl ?_
        refine dsk 24 (fun _ m => m) rfl (by kernel_rfl) rfl rfl rfl rfl ?_
        refine dsk 25 (fun _ m => m) rfl (by kernel_rfl) rfl rfl rfl rfl ?_
        refine dsk 26 (fun _ m => m) rfl (by kernel_rfl) rfl rfl rfl rfl ?_
        refine dsk 27 (fun _ m => m) rfl (by kernel_rfl) rfl rfl rfl rfl ?_
        refine dsk 28 (fun _ m => m) rfl (by kernel_rfl) rfl rfl rfl rfl ?_
        refine dsk 29 (fun _ m => m) rfl (by kernel_rfl) rfl rfl rfl rfl ?_
        refine o_pickT (dt 30 (fun _ m => m)) rfl rfl rfl ?_
        refine d_done (by kernel_rfl) ?_
        exact l_join true (fun a w hE hm => ⟨hE.sub ⟨rfl, rfl, rfl, rfl, trivial⟩, (hm.pick [1, 0] rfl)⟩)
      · refine o_mv (dtg 8 (fun _ m => m)) rfl rfl ?_
        refine o_mv (dtg 9 (fun _ m => m)) rfl rfl ?_
        refine o_idx (dtg 10 (fun _ m => m)) 0 rfl (reads_snap hv1) rfl rfl rfl el28 ?_; intro e14 h15
        refine o_fadS (dtg 11 (fun _ m => m)) 0 rfl (reads_snap hv1) h15 rfl rfl fld38_1 rfl ?_
        refine o_lds (dtg 12 (fun _ m => m)) (enc := encGRewrite) (u := (.agg #[(.int .i64 e14.xOutside.xBase), (.int .i64 e14.xOutside.xLength)])) 0 rfl (reads_snap hv1) flelGRewrite rfl h15 rfl rfl ty36 rfl ?_
        refine d_oneg (i := 13) rfl rfl rfl (by kernel_rfl) (o_callP (vs := [(.agg #[(.int .i64 e14.xOutside.xBase), (.int .i64 e14.xOutside.xLength)])]) Tryd.call48 rfl rfl (by intro w m h; exact (w_spec_PrefixValid (F := allB [] w) (p_0 := e14.xOutside) allB_ok h).mono (fun _ _ k => ret_free (fun r u => fr_nil) k)) ?_); rintro r16 _
        refine d_and (fun _ m => m) ?_
        refine o_not (dtg 14 (fun _ m => m)) rfl rfl ?_
        refine o_pickF (dt 15 (fun _ m => m)) rfl rfl rfl ?_
        refine o_mv (dt 16 (fun _ m => m)) rfl rfl ?_
        refine st_sp (dj := 30) rfl ?_ ?_
        · refine dsk 17 (fun _ m => m) rfl (by kernel_rfl) rfl rfl rfl rfl ?_
          refine dsk 18 (fun _ m => m) rfl (by kernel_rfl) rfl rfl rfl rfl ?_
          refine dsk 19 (fun _ m => m) rfl (by kernel_rfl) rfl rfl rfl rfl ?_
          refine dsk 20 (fun _ m => m) rfl (by kernel_rfl) rfl rfl rfl rfl ?_
          refine dsk 21 (fun _ m => m) rfl (by kernel_rfl) rfl rfl rfl rfl ?_
          refine dsk 22 (fun _ m => m) rfl (by kernel_rfl) rfl rfl rfl rfl ?_
          refine dsk 23 (fun _ m => m) rfl (by kernel_rfl) rfl rfl rfl rfl ?_
          refine dsk 24 (fun _ m => m) rfl (by kernel_rfl) rfl rfl rfl rfl ?_
          refine dsk 25 (fun _ m => m) rfl (by kernel_rfl) rfl rfl rfl rfl ?_
          refine dsk 26 (fun _ m => m) rfl (by kernel_rfl) rfl rfl rfl rfl ?_
          refine dsk 27 (fun _ m => m) rfl (by kernel_rfl) rfl rfl rfl rfl ?_
          refine dsk 28 (fun _ m => m) rfl (by kernel_rfl) rfl rfl rfl rfl ?_
          refine dsk 29 (fun _ m => m) rfl (by kernel_rfl) rfl rfl rfl rfl ?_
          refine o_pickT (dt 30 (fun _ m => m)) rfl rfl rfl ?_
          refine d_done (by kernel_rfl) ?_
          exact l_join true (fun a w hE hm => ⟨hE.sub ⟨rfl, rfl, rfl, rfl, trivial⟩, (hm.pick [1, 0] rfl)⟩)
        · refine o_mv (dtg 17 (fun _ m => m)) rfl rfl ?_
          refine o_mv (dtg 18 (fun _ m => m)) rfl rfl ?_
          refine o_idx (dtg 19 (fun _ m => m)) 0 rfl (reads_snap hv1) rfl rfl rfl el28 ?_; intro e17 h18
          refine o_fadS (dtg 20 (fun _ m => m)) 0 rfl (reads_snap hv1) h18 rfl rfl fld38_0 rfl ?_
          refine o_fadS (dtg 21 (fun _ m => m)) 0 rfl (reads_snap hv1) h18 rfl rfl fld36_1 rfl ?_
          refine o_lds (dtg 22 (fun _ m => m)) (enc := encGRewrite) (u := (.int .i64 e17.xInside.xLength)) 0 rfl (reads_snap hv1) flelGRewrite rfl h18 rfl rfl ty3 rfl ?_
          refine o_mv (dtg 23 (fun _ m => m)) rfl rfl ?_
          refine o_mv (dtg 24 (fun _ m => m)) rfl rfl ?_
          refine o_idx (dtg 25 (fun _ m => m)) 0 rfl (reads_snap hv1) rfl rfl rfl el28 ?_; intro e19 h20
          refine o_fadS (dtg 26 (fun _ m => m)) 0 rfl (reads_snap hv1) h20 rfl rfl fld38_1 rfl ?_
          refine o_fadS (dtg 27 (fun _ m => m)) 0 rfl (reads_snap hv1) h20 rfl rfl fld36_1 rfl ?_
          refine o_lds (dtg 28 (fun _ m => m)) (enc := encGRewrite) (u := (.int .i64 e19.xOutside.xLength)) 0 rfl (reads_snap hv1) flelGRewrite rfl h20 rfl rfl ty3 rfl ?_
          refine o_neq (dtg 29 (fun _ m => m)) und3 rfl rfl rfl ?_
          refine o_pickF (dt 30 (fun _ m => m)) rfl rfl rfl ?_
          refine d_done (by kernel_rfl) ?_
          exact l_join (!(decide (e17.xInside.xLength = e19.xOutside.xLength))) (fun a w hE hm => ⟨hE.sub ⟨rfl, rfl, rfl, rfl, trivial⟩, (hm.pick [1, 0] rfl)⟩)
    · rintro t81 a w ⟨hE, hm⟩ h
      refine nx_of hE hm h ?_
      clear hE hm h
      refine c_cond rfl ?_ ?_
      · refine c_seq ?_
        refine c_region ?_
        refine o_as st rfl rfl ?_
        refine c_nil ?_
        refine l_then ?_
        refine c_ret ?_
        refine l_ret ?_
        refine b_ret ?_
        refine l_ret ?_
        refine l_ret ?_
        refine b_ret ?_
        refine l_ret ?_
        exact l_end1 Tryd.results24 false () (rv_t rfl) (fun _ _ => NewCh.nil _ _ _ _)
      · refine c_skip ?_
        refine l_then ?_
        refine c_draw mixed 14 rfl [snapCh w0 F] ?_
        refine o_mv (dt 0 (fun w m => m.pick [1] rfl)) rfl rfl ?_
        refine o_mv (dt 1 (fun w m => m.pick [1] rfl)) rfl rfl ?_
        refine o_mv (dt 2 (fun w m => m.pick [1] rfl)) rfl rfl ?_
        refine o_idx (dt 3 (fun w m => m.pick [1] rfl)) 0 rfl (reads_snap hv1) rfl rfl rfl el28 ?_; intro e83 h84
        refine o_fadS (dt 4 (fun w m => m.pick [1] rfl)) 0 rfl (reads_snap hv1) h84 rfl rfl fld38_0 rfl ?_
        refine o_lds (dt 5 (fun w m => m.pick [1] rfl)) (enc := encGRewrite) (u := (.agg #[(.int .i64 e83.xInside.xBase), (.int .i64 e83.xInside.xLength)])) 0 rfl (reads_snap hv1) flelGRewrite rfl h84 rfl rfl ty36 rfl ?_
        refine o_mv (dt 6 (fun w m => m.pick [1] rfl)) rfl rfl ?_
        refine o_mv (dt 7 (fun w m => m.pick [1] rfl)) rfl rfl ?_
        refine o_idx (dt 8 (fun w m => m.pick [1] rfl)) 0 rfl (reads_snap hv1) rfl rfl rfl el28 ?_; intro e85 h86
        refine o_fadS (dt 9 (fun w m => m.pick [1] rfl)) 0 rfl (reads_snap hv1) h86 rfl rfl fld38_1 rfl ?_
        refine o_lds (dt 10 (fun w m => m.pick [1] rfl)) (enc := encGRewrite) (u := (.agg #[(.int .i64 e85.xOutside.xBase), (.int .i64 e85.xOutside.xLength)])) 0 rfl (reads_snap hv1) flelGRewrite rfl h86 rfl rfl ty36 rfl ?_
        refine d_one (i := 11) rfl (by kernel_rfl) (o_bsl (enc := encGPrefix) (qs := [(0, (.agg #[(.int .i64 e83.xInside.xBase), (.int .i64 e83.xInside.xLength)])), (1, (.agg #[(.int .i64 e85.xOutside.xBase), (.int .i64 e85.xOutside.xLength)]))]) (cells := [(.int .i64 e83.xInside.xBase), (.int .i64 e83.xInside.xLength), (.int .i64 e85.xOutside.xBase), (.int .i64 e85.xOutside.xLength)]) ([e83.xInside, e85.xOutside]) flelGPrefix (by intro ρ h; simp only [List.map_toArray, List.map_cons, List.map_nil, h (.tmp 50) _ rfl, h (.tmp 55) _ rfl]) rfl el53 zero36 rfl rfl rfl rfl rfl rfl ?_); intro v87
        refine d_and (fun w m => m.pick [2] rfl) ?_
        refine d_one (i := 12) rfl (by kernel_rfl) (o_app 1 0 rfl rfl (src_flat flelGPrefix reads_own) rfl rfl rfl el53 rfl zero36 rfl rfl ?_); intro v89
        refine d_and (fun w m => m.pick [2] rfl) ?_
        refine o_as (dt 13 (fun w m => m.pick [2] rfl)) rfl rfl ?_
        refine d_done (by kernel_rfl) ?_
        refine b_norm ?_
        refine l_then ?_
        refine c_region ?_
        refine o_mv st rfl rfl ?_
        refine o_add st rfl rfl rfl ?_; intro t91
        refine o_as st rfl rfl ?_
        refine c_nil ?_
        exact l_join ((xs6 ++ ([e83.xInside, e85.xOutside])), t91) (fun a w hE hm => ⟨v89, hE.sub ⟨rfl, rfl, rfl, trivial⟩, (hm.pick [2, 1] rfl)⟩)
  · refine c_exit ?_
    refine l_exit ?_
    refine l_exit ?_
    refine b_exit ?_
    refine l_then ?_
    refine c_seq ?_
    refine c_seq ?_
    refine c_region ?_
    refine o_as st rfl rfl ?_
    refine c_nil ?_
    refine l_then ?_
    refine c_block ?_
    refine c_loop (σ := Int) (fun (t92 : Int) (a : Act) (w : World) => Has 92 [(0, v1), (3, v5), (5, (.int .i64 t92))] a ∧ Mem (gB F [] w0) (feet []) w0 [ownCh elGPrefix 36 v5 xs6, snapCh w0 F] w) (fun a w hE hm => ⟨hE.sub ⟨rfl, rfl, rfl, trivial⟩, (hm.pick [1, 0] rfl)⟩) ?_
    rintro nx93 t92 a w ⟨hE, hm⟩ h
    refine nx_of hE hm h ?_
    clear hE hm h
    refine c_seq ?_
    refine c_seq ?_
    refine c_region ?_
    refine o_mv st rfl rfl ?_
    refine o_mv st rfl rfl ?_
    refine o_len st el53 0 rfl reads_own rfl rfl ?_
    refine o_lss st rfl rfl rfl ?_
    refine c_nil ?_
    refine l_then ?_
    refine c_cond rfl ?_ ?_
    · refine c_skip ?_
      refine l_then ?_
      refine c_seq ?_
      refine c_block ?_
      refine c_seq ?_
      refine c_region ?_
      refine o_as st rfl rfl ?_
      refine c_nil ?_
      refine l_then ?_
      refine c_block ?_
      refine c_loop (σ := Int) (fun (t94 : Int) (a : Act) (w : World) => Has 92 [(0, v1), (3, v5), (5, (.int .i64 t92)), (6, (.int .i64 t94))] a ∧ Mem (gB F [] w0) (feet []) w0 [ownCh elGPrefix 36 v5 xs6, snapCh w0 F] w) (fun a w hE hm => ⟨hE.sub ⟨rfl, rfl, rfl, rfl, trivial⟩, (hm.pick [0, 1] rfl)⟩) ?_
      rintro nx95 t94 a w ⟨hE, hm⟩ h
      refine nx_of hE hm h ?_
      clear hE hm h
      refine c_seq ?_
      refine c_seq ?_
      refine c_region ?_
      refine o_mv st rfl rfl ?_
      refine o_mv st rfl rfl ?_
      refine o_lss st rfl rfl rfl ?_
      refine c_nil ?_
      refine l_then ?_
      refine c_cond rfl ?_ ?_
      · refine c_skip ?_
        refine l_then ?_
        refine c_seq ?_
        refine c_block ?_
        refine c_join (σ := Bool) (fun (t166 : Bool) (a : Act) (w : World) => Has 92 [(0, v1), (3, v5), (5, (.int .i64 t92)), (6, (.int .i64 t94)), (88, (.bool t166))] a ∧ Mem (gB F [] w0) (feet []) w0 [ownCh elGPrefix 36 v5 xs6, snapCh w0 F] w) ?_ ?_
        · intro k167
          refine c_draw mixed 20 rfl [ownCh elGPrefix 36 v5 xs6, snapCh w0 F] ?_
          refine o_mv (dt 0 (fun _ m => m)) rfl rfl ?_
          refine o_mv (dt 1 (fun _ m => m)) rfl rfl ?_
          refine o_idx (dt 2 (fun _ m => m)) 0 rfl reads_own rfl rfl rfl el53 ?_; intro e96 h97
          refine o_lds (dt 3 (fun _ m => m)) (enc := encGPrefix) (u := (.agg #[(.int .i64 e96.xBase), (.int .i64 e96.xLength)])) 0 rfl reads_own flelGPrefix rfl h97 rfl rfl ty36 rfl ?_
          refine o_mv (dt 4 (fun _ m => m)) rfl rfl ?_
          refine o_mv (dt 5 (fun _ m => m)) rfl rfl ?_
          refine o_idx (dt 6 (fun _ m => m)) 0 rfl reads_own rfl rfl rfl el53 ?_; intro e98 h99
          refine o_lds (dt 7 (fun _ m => m)) (enc := encGPrefix) (u := (.agg #[(.int .i64 e98.xBase), (.int .i64 e98.xLength)])) 0 rfl reads_own flelGPrefix rfl h99 rfl rfl ty36 rfl ?_
          refine d_one (i := 8) rfl (by kernel_rfl) (o_callP (vs := [(.agg #[(.int .i64 e96.xBase), (.int .i64 e96.xLength)]), (.agg #[(.int .i64 e98.xBase), (.int .i64 e98.xLength)])]) Tryd.call49 rfl rfl (by intro w m h; exact (w_spec_PrefixWithin (F := allB [] w) (a_0 := e96) (b_1 := e98) allB_ok h).mono (fun _ _ k => ret_free (fun r u => fr_nil) k)) ?_); rintro r100 _
          refine d_and (fun _ m => m) ?_
          refine o_mv (dt 9 (fun _ m => m)) rfl rfl ?_
          refine st_sp (dj := 78) rfl ?_ ?_
          · refine dsk 10 (fun _ m => m) rfl (by kernel_rfl) rfl rfl rfl rfl ?_
            refine dsk 11 (fun _ m => m) rfl (by kernel_rfl) rfl rfl rfl rfl ?_
            refine dsk 12 (fun _ m => m) rfl (by kernel_rfl) rfl rfl rfl rfl ?_
            refine dsk 13 (fun _ m => m) rfl (by kernel_rfl) rfl rfl rfl rfl ?_
            refine dsk 14 (fun _ m => m) rfl (by kernel_rfl) rfl rfl rfl rfl ?_
            refine dsk 15 (fun _ m => m) rfl (by kernel_rfl) rfl rfl rfl rfl ?_
            refine dsk 16 (fun _ m => m) rfl (by kernel_rfl) rfl rfl rfl rfl ?_
            refine dsk 17 (fun _ m => m) rfl (by kernel_rfl) rfl rfl rfl rfl ?_
            refine dsk 18 (fun _ m => m) rfl (by kernel_rfl) rfl rfl rfl rfl ?_
            refine o_pickT (dt 19 (fun _ m => m)) rfl rfl rfl ?_
            refine d_done (by kernel_rfl) ?_
            exact l_join true (fun a w hE hm => ⟨hE.sub ⟨rfl, rfl, rfl, rfl, rfl, trivial⟩, (hm.pick [0, 1] rfl)⟩)
          · refine o_mv (dtg 10 (fun _ m => m)) rfl rfl ?_
            refine o_mv (dtg 11 (fun _ m => m)) rfl rfl ?_
            refine o_idx (dtg 12 (fun _ m => m)) 0 rfl reads_own rfl rfl rfl el53 ?_; intro e101 h102
            refine o_lds (dtg 13 (fun _ m => m)) (enc := encGPrefix) (u := (.agg #[(.int .i64 e101.xBase), (.int .i64 e101.xLength)])) 0 rfl reads_own flelGPrefix rfl h102 rfl rfl ty36 rfl ?_
            refine o_mv (dtg 14 (fun _ m => m)) rfl rfl ?_
            refine o_mv (dtg 15 (fun _ m => m)) rfl rfl ?_
            refine o_idx (dtg 16 (fun _ m => m)) 0 rfl reads_own rfl rfl rfl el53 ?_; intro e103 h104
            refine o_lds (dtg 17 (fun _ m => m)) (enc := encGPrefix) (u := (.agg #[(.int .i64 e103.xBase), (.int .i64 e103.xLength)])) 0 rfl reads_own flelGPrefix rfl h104 rfl rfl ty36 rfl ?_
            refine d_oneg (i := 18) rfl rfl rfl (by kernel_rfl) (o_callP (vs := [(.agg #[(.int .i64 e101.xBase), (.int .i64 e101.xLength)]), (.agg #[(.int .i64 e103.xBase), (.int .i64 e103.xLength)])]) Tryd.call49 rfl rfl (by intro w m h; exact (w_spec_PrefixWithin (F := allB [] w) (a_0 := e101) (b_1 := e103) allB_ok h).mono (fun _ _ k => ret_free (fun r u => fr_nil) k)) ?_); rintro r105 _
            refine d_and (fun _ m => m) ?_
            refine o_pickF (dt 19 (fun _ m => m)) rfl rfl rfl ?_
            refine d_done (by kernel_rfl) ?_
            exact l_join r105 (fun a w hE hm => ⟨hE.sub ⟨rfl, rfl, rfl, rfl, rfl, trivial⟩, (hm.pick [0, 1] rfl)⟩)
        · rintro t166 a w ⟨hE, hm⟩ h
          refine nx_of hE hm h ?_
          clear hE hm h
          refine c_cond rfl ?_ ?_
          · refine c_seq ?_
            refine c_region ?_
            refine o_as st rfl rfl ?_
            refine c_nil ?_
            refine l_then ?_
            refine c_ret ?_
            refine b_ret ?_
            refine l_ret ?_
            refine l_ret ?_
            refine b_ret ?_
            refine b_ret ?_
            refine l_ret ?_
            refine l_ret ?_
            refine b_ret ?_
            refine l_ret ?_
            exact l_end1 Tryd.results24 false () (rv_t rfl) (fun _ _ => NewCh.nil _ _ _ _)
          · refine c_skip ?_
            refine b_norm ?_
            refine l_then ?_
            refine c_region ?_
            refine o_mv st rfl rfl ?_
            refine o_add st rfl rfl rfl ?_; intro t168
            refine o_as st rfl rfl ?_
            refine c_nil ?_
            exact l_join t168 (fun a w hE hm => ⟨hE.sub ⟨rfl, rfl, rfl, rfl, trivial⟩, (hm.pick [0, 1] rfl)⟩)
      · refine c_exit ?_
        refine l_exit ?_
        refine l_exit ?_
        refine b_exit ?_
        refine b_norm ?_
        refine l_then ?_
        refine c_region ?_
        refine o_mv st rfl rfl ?_
        refine o_add st rfl rfl rfl ?_; intro t169
        refine o_as st rfl rfl ?_
        refine c_nil ?_
        exact l_join t169 (fun a w hE hm => ⟨hE.sub ⟨rfl, rfl, rfl, trivial⟩, (hm.pick [0, 1] rfl)⟩)
    · refine c_exit ?_
      refine l_exit ?_
      refine l_exit ?_
      refine b_exit ?_
      refine l_then ?_
      refine c_seq ?_
      refine c_region ?_
      refine o_mv st rfl rfl ?_
      refine o_len st el28 1 rfl (reads_snap hv1) rfl rfl ?_
      refine o_leq st rfl rfl rfl ?_
      refine o_as st rfl rfl ?_
      refine c_nil ?_
      refine l_then ?_
      refine c_ret ?_
      exact l_end1 Tryd.results24 (decide ((list_0.length : Int) ≤ 10)) () (rv_t rfl) (fun _ _ => NewCh.nil _ _ _ _)

set_option maxRecDepth 100000 in
set_option maxHeartbeats 8000000 in
theorem w_impl_hostMask {w0 : World} {F : Nat → Prop} {length_0 : Int} {κ : Int → Prop} (hF : ∀ b, F b → b < w0.heap.size ∧ ¬ feet [] b) (h : L_impl_hostMask length_0 κ) :
    Calls Tryd.prog 65 #[(.int .i64 length_0)] w0 (Ret [] F w0 κ (fun (r : Int) (u : Unit) => (.int .i64 r)) (fun (r : Int) (u : Unit) => [])) := by
  refine enter0 (args := [(.int .i64 length_0)]) [] hF (Given.nil _ _) Tryd.func65 rfl Tryd.ntmps65 rfl h ?_
  clear h hF
  refine c_seq ?_
  refine c_region ?_
  refine o_as st rfl rfl ?_
  refine c_nil ?_
  refine l_then ?_
  refine c_seq ?_
  refine c_region ?_
  refine o_mv st rfl rfl ?_
  refine o_sub st rfl rfl rfl ?_; intro t1
  refine o_shl st rfl rfl rfl ?_; intro t2
  refine o_sub st rfl rfl rfl ?_; intro t3
  refine o_as st rfl rfl ?_
  refine c_nil ?_
  refine l_then ?_
  refine c_ret ?_
  exact l_end1 Tryd.results65 t3 () (rv_t rfl) (fun _ _ => NewCh.nil _ _ _ _)

set_option maxRecDepth 100000 in
set_option maxHeartbeats 8000000 in
theorem w_impl_PrefixValid {w0 : World} {F : Nat → Prop} {p_0 : GPrefix} {κ : Bool → Prop} (hF : ∀ b, F b → b < w0.heap.size ∧ ¬ feet [] b) (h : L_impl_PrefixValid p_0 κ) :
    Calls Tryd.prog 64 #[(.agg #[(.int .i64 p_0.xBase), (.int .i64 p_0.xLength)])] w0 (Ret [] F w0 κ (fun (r : Bool) (u : Unit) => (.bool r)) (fun (r : Bool) (u : Unit) => [])) := by
  refine enter0 (args := [(.agg #[(.int .i64 p_0.xBase), (.int .i64 p_0.xLength)])]) [] hF (Given.nil _ _) Tryd.func64 rfl Tryd.ntmps64 rfl h ?_
  clear h hF
  refine c_seq ?_
  refine c_region ?_
  refine stw (o_box rfl rfl [(.int .i64 p_0.xBase), (.int .i64 p_0.xLength)] rfl ?_); intro b1
  refine o_as st rfl rfl ?_
  refine c_nil ?_
  refine l_then ?_
  refine c_seq ?_
  refine c_join (σ := Bool) (fun (t63 : Bool) (a : Act) (w : World) => Has 28 [(1, (.pointer (some ⟨b1, 0, none⟩))), (20, (.bool t63))] a ∧ Mem (gB F [] w0) (feet []) w0 [cellCh b1 [(.int .i64 p_0.xBase), (.int .i64 p_0.xLength)] 36] w) ?_ ?_
  · intro k64
    refine c_region ?_
    refine o_fad st rfl rfl fld36_1 rfl ?_
    refine o_ldc st (v := (.int .i64 p_0.xLength)) 0 rfl rfl rfl ty3 rfl ?_
    refine o_lss st rfl rfl rfl ?_
    refine o_mv st rfl rfl ?_
    refine st_sp (dj := 6) rfl ?_ ?_
    · refine st_s rfl rfl rfl rfl ?_
      refine st_s rfl rfl rfl rfl ?_
      refine st_s rfl rfl rfl rfl ?_
      refine o_pickT st rfl rfl rfl ?_
      refine o_mv st rfl rfl ?_
      refine st_s rfl rfl rfl rfl ?_
      refine st_s rfl rfl rfl rfl ?_
      refine st_s rfl rfl rfl rfl ?_
      refine o_pickT st rfl rfl rfl ?_
      refine o_mv st rfl rfl ?_
      refine st_s rfl rfl rfl rfl ?_
      refine st_s rfl rfl rfl rfl ?_
      refine st_s rfl rfl rfl rfl ?_
      refine o_pickT st rfl rfl rfl ?_
      refine c_nil ?_
      exact l_join true (fun a w hE hm => ⟨hE.sub ⟨rfl, rfl, trivial⟩, (hm.pick [0] rfl)⟩)
    · refine o_fad (st_g rfl rfl) rfl rfl fld36_1 rfl ?_
      refine o_ldc (st_g rfl rfl) (v := (.int .i64 p_0.xLength)) 0 rfl rfl rfl ty3 rfl ?_
      refine o_gtr (st_g rfl rfl) rfl rfl rfl ?_
      refine o_pickF st rfl rfl rfl ?_
      refine o_mv st rfl rfl ?_
      refine st_sp (dj := 11) rfl ?_ ?_
      · refine st_s rfl rfl rfl rfl ?_
        refine st_s rfl rfl rfl rfl ?_
        refine st_s rfl rfl rfl rfl ?_
        refine o_pickT st rfl rfl rfl ?_
        refine o_mv st rfl rfl ?_
        refine st_s rfl rfl rfl rfl ?_
        refine st_s rfl rfl rfl rfl ?_
        refine st_s rfl rfl rfl rfl ?_
        refine o_pickT st rfl rfl rfl ?_
        refine c_nil ?_
        exact l_join true (fun a w hE hm => ⟨hE.sub ⟨rfl, rfl, trivial⟩, (hm.pick [0] rfl)⟩)
      · refine o_fad (st_g rfl rfl) rfl rfl fld36_0 rfl ?_
        refine o_ldc (st_g rfl rfl) (v := (.int .i64 p_0.xBase)) 0 rfl rfl rfl ty3 rfl ?_
        refine o_lss (st_g rfl rfl) rfl rfl rfl ?_
        refine o_pickF st rfl rfl rfl ?_
        refine o_mv st rfl rfl ?_
        refine st_sp (dj := 16) rfl ?_ ?_
        · refine st_s rfl rfl rfl rfl ?_
          refine st_s rfl rfl rfl rfl ?_
          refine st_s rfl rfl rfl rfl ?_
          refine o_pickT st rfl rfl rfl ?_
          refine c_nil ?_
          exact l_join true (fun a w hE hm => ⟨hE.sub ⟨rfl, rfl, trivial⟩, (hm.pick [0] rfl)⟩)
        · refine o_fad (st_g rfl rfl) rfl rfl fld36_0 rfl ?_
          refine o_ldc (st_g rfl rfl) (v := (.int .i64 p_0.xBase)) 0 rfl rfl rfl ty3 rfl ?_
          refine o_gtr (st_g rfl rfl) rfl rfl rfl ?_
          refine o_pickF st rfl rfl rfl ?_
          refine c_nil ?_
          exact l_join (decide (65535 < p_0.xBase)) (fun a w hE hm => ⟨hE.sub ⟨rfl, rfl, trivial⟩, (hm.pick [0] rfl)⟩)
  · rintro t63 a w ⟨hE, hm⟩ h
    refine nx_of hE hm h ?_
    clear hE hm h
    refine c_cond rfl ?_ ?_
    · refine c_seq ?_
      refine c_region ?_
      refine o_as st rfl rfl ?_
      refine c_nil ?_
      refine l_then ?_
      refine c_ret ?_
      refine l_ret ?_
      exact l_end1 Tryd.results64 false () (rv_t rfl) (fun _ _ => NewCh.nil _ _ _ _)
    · refine c_skip ?_
      refine l_then ?_
      refine c_seq ?_
      refine c_draw mixed 8 rfl [cellCh b1 [(.int .i64 p_0.xBase), (.int .i64 p_0.xLength)] 36] ?_
      refine o_fad (dt 0 (fun _ m => m)) rfl rfl fld36_0 rfl ?_
      refine o_ldc (dt 1 (fun _ m => m)) (v := (.int .i64 p_0.xBase)) 0 rfl rfl rfl ty3 rfl ?_
      refine o_fad (dt 2 (fun _ m => m)) rfl rfl fld36_1 rfl ?_
      refine o_ldc (dt 3 (fun _ m => m)) (v := (.int .i64 p_0.xLength)) 0 rfl rfl rfl ty3 rfl ?_
      refine d_one (i := 4) rfl (by kernel_rfl) (o_callP (vs := [(.int .i64 p_0.xLength)]) Tryd.call65 rfl rfl (by intro w m h; exact (w_impl_hostMask (F := allB [] w) (length_0 := p_0.xLength) allB_ok h).mono (fun _ _ k => ret_free (fun r u => fr_nil) k)) ?_); rintro r65 _
      refine d_and (fun _ m => m) ?_
      refine o_and (dt 5 (fun _ m => m)) rfl rfl rfl ?_
      refine o_eql (dt 6 (fun _ m => m)) und3 rfl rfl rfl ?_
      refine o_as (dt 7 (fun _ m => m)) rfl rfl ?_
      refine d_done (by kernel_rfl) ?_
      refine l_then ?_
      refine c_ret ?_
      exact l_end1 Tryd.results64 (decide ((bits .and .i64 p_0.xBase r65) = 0)) () (rv_t rfl) (fun _ _ => NewCh.nil _ _ _ _)

set_option maxRecDepth 100000 in
set_option maxHeartbeats 8000000 in
theorem w_impl_PrefixSpan {w0 : World} {F : Nat → Prop} {p_0 : GPrefix} {κ : (GSpan × Bool) → Prop} (hF : ∀ b, F b → b < w0.heap.size ∧ ¬ feet [] b) (h : L_impl_PrefixSpan p_0 κ) :
    Calls Tryd.prog 43 #[(.agg #[(.int .i64 p_0.xBase), (.int .i64 p_0.xLength)])] w0 (Ret [] F w0 κ (fun (r : (GSpan × Bool)) (u : Unit) => .tuple #[(.agg #[(.int .i64 r.1.xLo), (.int .i64 r.1.xHi)]), (.bool r.2)]) (fun (r : (GSpan × Bool)) (u : Unit) => [])) := by
  refine enter0 (args := [(.agg #[(.int .i64 p_0.xBase), (.int .i64 p_0.xLength)])]) [] hF (Given.nil _ _) Tryd.func43 rfl Tryd.ntmps43 rfl h ?_
  clear h hF
  refine c_seq ?_
  refine c_region ?_
  refine stw (o_box rfl rfl [(.int .i64 p_0.xBase), (.int .i64 p_0.xLength)] rfl ?_); intro b1
  refine stw (o_alloc rfl [(.int .i64 0), (.int .i64 0)] zero74 ?_); intro b3
  refine o_as st rfl rfl ?_
  refine c_nil ?_
  refine l_then ?_
  refine c_seq ?_
  refine c_seq ?_
  refine c_region ?_
  refine o_ldc st (v := (.agg #[(.int .i64 p_0.xBase), (.int .i64 p_0.xLength)])) 1 rfl rfl rfl ty36 rfl ?_
  refine stw (o_callP (vs := [(.agg #[(.int .i64 p_0.xBase), (.int .i64 p_0.xLength)])]) Tryd.call64 rfl rfl (by intro w m h; exact (w_impl_PrefixValid (F := allB [] w) (p_0 := p_0) allB_ok h).mono (fun _ _ k => ret_free (fun r u => fr_nil) k)) ?_); rintro r5 _
  refine o_not st rfl rfl ?_
  refine c_nil ?_
  refine l_then ?_
  refine c_cond rfl ?_ ?_
  · refine c_seq ?_
    refine c_region ?_
    refine o_bld st (qs := []) (cells := [(.int .i64 0), (.int .i64 0)]) (by intro ρ h; simp only [List.map_toArray, List.map_cons, List.map_nil]) rfl bld74 rfl ?_
    refine stw (o_stc (cs' := [(.int .i64 0), (.int .i64 0)]) 0 rfl rfl rfl ty74 rfl rfl rfl rfl ?_)
    refine o_as st rfl rfl ?_
    refine c_nil ?_
    refine l_then ?_
    refine c_ret ?_
    refine l_ret ?_
    exact l_end2 Tryd.results43 ((GSpan.mk 0 0), false) () (rv_c 0 rfl rfl ty74 rfl) (rv_t rfl) rfl (fun _ _ => NewCh.nil _ _ _ _)
  · refine c_skip ?_
    refine l_then ?_
    refine c_seq ?_
    refine c_draw mixed 11 rfl [cellCh b1 [(.int .i64 p_0.xBase), (.int .i64 p_0.xLength)] 36] ?_
    refine o_fad (dt 0 (fun w m => m.pick [1] rfl)) rfl rfl fld36_0 rfl ?_
    refine o_ldc (dt 1 (fun w m => m.pick [1] rfl)) (v := (.int .i64 p_0.xBase)) 0 rfl rfl rfl ty3 rfl ?_
    refine o_fad (dt 2 (fun w m => m.pick [1] rfl)) rfl rfl fld36_0 rfl ?_
    refine o_ldc (dt 3 (fun w m => m.pick [1] rfl)) (v := (.int .i64 p_0.xBase)) 0 rfl rfl rfl ty3 rfl ?_
    refine o_fad (dt 4 (fun w m => m.pick [1] rfl)) rfl rfl fld36_1 rfl ?_
    refine o_ldc (dt 5 (fun w m => m.pick [1] rfl)) (v := (.int .i64 p_0.xLength)) 0 rfl rfl rfl ty3 rfl ?_
    refine d_one (i := 6) rfl (by kernel_rfl) (o_callP (vs := [(.int .i64 p_0.xLength)]) Tryd.call65 rfl rfl (by intro w m h; exact (w_impl_hostMask (F := allB [] w) (length_0 := p_0.xLength) allB_ok h).mono (fun _ _ k => ret_free (fun r u => fr_nil) k)) ?_); rintro r6 _
    refine d_and (fun w m => m.pick [1] rfl) ?_
    refine o_or (dt 7 (fun w m => m.pick [1] rfl)) rfl rfl rfl ?_
    refine o_bld (dt 8 (fun w m => m.pick [1] rfl)) (qs := [(0, (.int .i64 p_0.xBase)), (1, (.int .i64 (bits .or .i64 p_0.xBase r6)))]) (cells := [(.int .i64 p_0.xBase), (.int .i64 (bits .or .i64 p_0.xBase r6))]) (by intro ρ h; simp only [List.map_toArray, List.map_cons, List.map_nil, h (.tmp 9) _ rfl, h (.tmp 15) _ rfl]) rfl bld74 rfl ?_
    refine d_one (i := 9) rfl (by kernel_rfl) (o_stc (cs' := [(.int .i64 p_0.xBase), (.int .i64 (bits .or .i64 p_0.xBase r6))]) 0 rfl rfl rfl ty74 rfl rfl rfl rfl ?_)
    refine d_and (fun w m => m.pick [1] rfl) ?_
    refine o_as (dt 10 (fun w m => m.pick [1] rfl)) rfl rfl ?_
    refine d_done (by kernel_rfl) ?_
    refine l_then ?_
    refine c_ret ?_
    exact l_end2 Tryd.results43 ((GSpan.mk p_0.xBase (bits .or .i64 p_0.xBase r6)), true) () (rv_c 0 rfl rfl ty74 rfl) (rv_t rfl) rfl (fun _ _ => NewCh.nil _ _ _ _)

set_option maxRecDepth 100000 in
set_option maxHeartbeats 8000000 in
theorem w_cmp_isNaN_int {w0 : World} {F : Nat → Prop} {x_0 : Int} {κ : Bool → Prop} (hF : ∀ b, F b → b < w0.heap.size ∧ ¬ feet [] b) (h : L_cmp_isNaN_int x_0 κ) :
    Calls Tryd.prog 68 #[(.int .i64 x_0)] w0 (Ret [] F w0 κ (fun (r : Bool) (u : Unit) => (.bool r)) (fun (r : Bool) (u : Unit) => [])) := by
  refine enter0 (args := [(.int .i64 x_0)]) [] hF (Given.nil _ _) Tryd.func68 rfl Tryd.ntmps68 rfl h ?_
  clear h hF
  refine c_seq ?_
  refine c_region ?_
  refine o_as st rfl rfl ?_
  refine c_nil ?_
  refine l_then ?_
  refine c_seq ?_
  refine c_region ?_
  refine o_mv st rfl rfl ?_
  refine o_mv st rfl rfl ?_
  refine o_neq st und3 rfl rfl rfl ?_
  refine o_as st rfl rfl ?_
  refine c_nil ?_
  refine l_then ?_
  refine c_ret ?_
  exact l_end1 Tryd.results68 (!(decide (x_0 = x_0))) () (rv_t rfl) (fun _ _ => NewCh.nil _ _ _ _)

set_option maxRecDepth 100000 in
set_option maxHeartbeats 8000000 in
theorem w_cmp_Compare_int {w0 : World} {F : Nat → Prop} {x_0 : Int} {y_1 : Int} {κ : Int → Prop} (hF : ∀ b, F b → b < w0.heap.size ∧ ¬ feet [] b) (h : L_cmp_Compare_int x_0 y_1 κ) :
    Calls Tryd.prog 46 #[(.int .i64 x_0), (.int .i64 y_1)] w0 (Ret [] F w0 κ (fun (r : Int) (u : Unit) => (.int .i64 r)) (fun (r : Int) (u : Unit) => [])) := by
  refine enter0 (args := [(.int .i64 x_0), (.int .i64 y_1)]) [] hF (Given.nil _ _) Tryd.func46 rfl Tryd.ntmps46 rfl h ?_
  clear h hF
  refine c_seq ?_
  refine c_region ?_
  refine o_as st rfl rfl ?_
  refine c_nil ?_
  refine l_then ?_
  refine c_seq ?_
  refine c_region ?_
  refine o_mv st rfl rfl ?_
  refine stw (o_callP (vs := [(.int .i64 x_0)]) Tryd.call68 rfl rfl (by intro w m h; exact (w_cmp_isNaN_int (F := allB [] w) (x_0 := x_0) allB_ok h).mono (fun _ _ k => ret_free (fun r u => fr_nil) k)) ?_); rintro r1 _
  refine o_as st rfl rfl ?_
  refine c_nil ?_
  refine l_then ?_
  refine c_seq ?_
  refine c_region ?_
  refine o_mv st rfl rfl ?_
  refine stw (o_callP (vs := [(.int .i64 y_1)]) Tryd.call68 rfl rfl (by intro w m h; exact (w_cmp_isNaN_int (F := allB [] w) (x_0 := y_1) allB_ok h).mono (fun _ _ k => ret_free (fun r u => fr_nil) k)) ?_); rintro r2 _
  refine o_as st rfl rfl ?_
  refine c_nil ?_
  refine l_then ?_
  refine c_seq ?_
  refine c_seq ?_
  refine c_region ?_
  refine o_mv st rfl rfl ?_
  refine c_nil ?_
  refine l_then ?_
  refine c_cond rfl ?_ ?_
  · refine c_seq ?_
    refine c_seq ?_
    refine c_region ?_
    refine o_mv st rfl rfl ?_
    refine c_nil ?_
    refine l_then ?_
    refine c_cond rfl ?_ ?_
    · refine c_seq ?_
      refine c_region ?_
      refine o_as st rfl rfl ?_
      refine c_nil ?_
      refine l_then ?_
      refine c_ret ?_
      refine l_ret ?_
      refine l_ret ?_
      exact l_end1 Tryd.results46 0 () (rv_t rfl) (fun _ _ => NewCh.nil _ _ _ _)
    · refine c_skip ?_
      refine l_then ?_
      refine c_seq ?_
      refine c_region ?_
      refine o_as st rfl rfl ?_
      refine c_nil ?_
      refine l_then ?_
      refine c_ret ?_
      refine l_ret ?_
      exact l_end1 Tryd.results46 (-1) () (rv_t rfl) (fun _ _ => NewCh.nil _ _ _ _)
  · refine c_skip ?_
    refine l_then ?_
    refine c_seq ?_
    refine c_seq ?_
    refine c_region ?_
    refine o_mv st rfl rfl ?_
    refine c_nil ?_
    refine l_then ?_
    refine c_cond rfl ?_ ?_
    · refine c_seq ?_
      refine c_region ?_
      refine o_as st rfl rfl ?_
      refine c_nil ?_
      refine l_then ?_
      refine c_ret ?_
      refine l_ret ?_
      exact l_end1 Tryd.results46 1 () (rv_t rfl) (fun _ _ => NewCh.nil _ _ _ _)
    · refine c_skip ?_
      refine l_then ?_
      refine c_seq ?_
      refine c_seq ?_
      refine c_region ?_
      refine o_mv st rfl rfl ?_
      refine o_mv st rfl rfl ?_
      refine o_lss st rfl rfl rfl ?_
      refine c_nil ?_
      refine l_then ?_
      refine c_cond rfl ?_ ?_
      · refine c_seq ?_
        refine c_region ?_
        refine o_as st rfl rfl ?_
        refine c_nil ?_
        refine l_then ?_
        refine c_ret ?_
        refine l_ret ?_
        exact l_end1 Tryd.results46 (-1) () (rv_t rfl) (fun _ _ => NewCh.nil _ _ _ _)
      · refine c_skip ?_
        refine l_then ?_
        refine c_seq ?_
        refine c_seq ?_
        refine c_region ?_
        refine o_mv st rfl rfl ?_
        refine o_mv st rfl rfl ?_
        refine o_gtr st rfl rfl rfl ?_
        refine c_nil ?_
        refine l_then ?_
        refine c_cond rfl ?_ ?_
        · refine c_seq ?_
          refine c_region ?_
          refine o_as st rfl rfl ?_
          refine c_nil ?_
          refine l_then ?_
          refine c_ret ?_
          refine l_ret ?_
          exact l_end1 Tryd.results46 1 () (rv_t rfl) (fun _ _ => NewCh.nil _ _ _ _)
        · refine c_skip ?_
          refine l_then ?_
          refine c_seq ?_
          refine c_region ?_
          refine o_as st rfl rfl ?_
          refine c_nil ?_
          refine l_then ?_
          refine c_ret ?_
          exact l_end1 Tryd.results46 0 () (rv_t rfl) (fun _ _ => NewCh.nil _ _ _ _)

set_option maxRecDepth 100000 in
set_option maxHeartbeats 8000000 in
theorem w_impl_RewritesValid {w0 : World} {F : Nat → Prop} {v1 : Value} {list_0 : (List GRewrite)} {κ : Bool → Prop} (hF : ∀ b, F b → b < w0.heap.size ∧ ¬ feet [] b) (hv1 : Sl elGRewrite F w0 v1 list_0) (h : L_impl_RewritesValid list_0 κ) :
    Calls Tryd.prog 22 #[v1] w0 (Ret [] F w0 κ (fun (r : Bool) (u : Unit) => (.bool r)) (fun (r : Bool) (u : Unit) => [])) := by
  refine enterS (args := [v1]) [] hF (Given.nil _ _) Tryd.func22 rfl Tryd.ntmps22 rfl h ?_
  clear h hF
  refine c_seq ?_
  refine c_region ?_
  refine o_as st rfl rfl ?_
  refine c_nil ?_
  refine l_then ?_
  refine c_seq ?_
  refine c_seq ?_
  refine c_region ?_
  refine o_mv st rfl rfl ?_
  refine o_len st el28 0 rfl (reads_snap hv1) rfl rfl ?_
  refine o_gtr st rfl rfl rfl ?_
  refine c_nil ?_
  refine l_then ?_
  refine c_cond rfl ?_ ?_
  · refine c_seq ?_
    refine c_region ?_
    refine o_as st rfl rfl ?_
    refine c_nil ?_
    refine l_then ?_
    refine c_ret ?_
    refine l_ret ?_
    exact l_end1 Tryd.results22 false () (rv_t rfl) (fun _ _ => NewCh.nil _ _ _ _)
  · refine c_skip ?_
    refine l_then ?_
    refine c_seq ?_
    refine c_region ?_
    refine o_mv st rfl rfl ?_
    refine o_len st el28 0 rfl (reads_snap hv1) rfl rfl ?_
    refine o_mul st rfl rfl rfl ?_; intro t3
    refine stw (o_make (z := (GSpan.mk 0 0)) flelGSpan rfl rfl rfl el50 rfl zero74 rfl rfl ?_); intro v4 xs5
    refine o_as st rfl rfl ?_
    refine c_nil ?_
    refine l_then ?_
    refine c_seq ?_
    refine c_seq ?_
    refine c_region ?_
    refine o_mv st rfl rfl ?_
    refine o_len st el28 1 rfl (reads_snap hv1) rfl rfl ?_
    refine o_mv st rfl rfl ?_
    refine c_nil ?_
    refine l_then ?_
    refine c_block ?_
    refine c_loop (σ := ((List GSpan) × Int)) (fun ((xs8, t11) : ((List GSpan) × Int)) (a : Act) (w : World) => ∃ (v7 : Value), Has 77 [(3, v7), (18, v1), (19, (.int .i64 (list_0.length : Int))), (20, (.int .i64 t11))] a ∧ Mem (gB F [] w0) (feet []) w0 [snapCh w0 F, ownCh elGSpan 74 v7 xs8] w) (fun a w hE hm => ⟨v4, hE.sub ⟨rfl, rfl, rfl, rfl, trivial⟩, (hm.pick [1, 0] rfl)⟩) ?_
    rintro nx12 ⟨xs8, t11⟩ a w ⟨v7, hE, hm⟩ h
    refine nx_of hE hm h ?_
    clear hE hm h
    refine c_seq ?_
    refine c_region ?_
    refine o_lss st rfl rfl rfl ?_
    refine c_nil ?_
    refine l_then ?_
    refine c_seq ?_
    refine c_cond rfl ?_ ?_
    · refine c_skip ?_
      refine l_then ?_
      refine c_seq ?_
      refine c_block ?_
      refine c_seq ?_
      refine c_region ?_
      refine o_idx st 0 rfl (reads_snap hv1) rfl rfl rfl el28 ?_; intro e13 h14
      refine o_lds st (enc := encGRewrite) (u := (.agg #[(.int .i64 e13.xInside.xBase), (.int .i64 e13.xInside.xLength), (.int .i64 e13.xOutside.xBase), (.int .i64 e13.xOutside.xLength)])) 0 rfl (reads_snap hv1) flelGRewrite rfl h14 rfl rfl ty38 rfl ?_
      refine stw (o_alloc rfl [(.int .i64 0), (.int .i64 0), (.int .i64 0), (.int .i64 0)] zero38 ?_); intro b15
      refine stw (o_stc (cs' := [(.int .i64 e13.xInside.xBase), (.int .i64 e13.xInside.xLength), (.int .i64 e13.xOutside.xBase), (.int .i64 e13.xOutside.xLength)]) 0 rfl rfl rfl ty38 rfl rfl rfl rfl ?_)
      refine c_nil ?_
      refine l_then ?_
      refine c_seq ?_
      refine c_region ?_
      refine o_fad st rfl rfl fld38_0 rfl ?_
      refine o_ldc st (v := (.agg #[(.int .i64 e13.xInside.xBase), (.int .i64 e13.xInside.xLength)])) 0 rfl rfl rfl ty36 rfl ?_
      refine stw (o_callP (vs := [(.agg #[(.int .i64 e13.xInside.xBase), (.int .i64 e13.xInside.xLength)])]) Tryd.call43 rfl rfl (by intro w m h; exact (w_impl_PrefixSpan (F := allB [] w) (p_0 := e13.xInside) allB_ok h).mono (fun _ _ k => ret_free (fun r u => fr_nil) k)) ?_); rintro ⟨r17, r18⟩ _
      refine o_mv st rfl rfl ?_
      refine o_ext st (vs := [(.agg #[(.int .i64 r17.xLo), (.int .i64 r17.xHi)]), (.bool r18)]) rfl rfl rfl ?_
      refine o_ext st (vs := [(.agg #[(.int .i64 r17.xLo), (.int .i64 r17.xHi)]), (.bool r18)]) rfl rfl rfl ?_
      refine stw (o_alloc rfl [(.int .i64 0), (.int .i64 0)] zero74 ?_); intro b19
      refine stw (o_stc (cs' := [(.int .i64 r17.xLo), (.int .i64 r17.xHi)]) 0 rfl rfl rfl ty74 rfl rfl rfl rfl ?_)
      refine o_as st rfl rfl ?_
      refine c_nil ?_
      refine l_then ?_
      refine c_seq ?_
      refine c_region ?_
      refine o_fad st rfl rfl fld38_1 rfl ?_
      refine o_ldc st (v := (.agg #[(.int .i64 e13.xOutside.xBase), (.int .i64 e13.xOutside.xLength)])) 1 rfl rfl rfl ty36 rfl ?_
      refine stw (o_callP (vs := [(.agg #[(.int .i64 e13.xOutside.xBase), (.int .i64 e13.xOutside.xLength)])]) Tryd.call43 rfl rfl (by intro w m h; exact (w_impl_PrefixSpan (F := allB [] w) (p_0 := e13.xOutside) allB_ok h).mono (fun _ _ k => ret_free (fun r u => fr_nil) k)) ?_); rintro ⟨r21, r22⟩ _
      refine o_mv st rfl rfl ?_
      refine o_ext st (vs := [(.agg #[(.int .i64 r21.xLo), (.int .i64 r21.xHi)]), (.bool r22)]) rfl rfl rfl ?_
      refine o_ext st (vs := [(.agg #[(.int .i64 r21.xLo), (.int .i64 r21.xHi)]), (.bool r22)]) rfl rfl rfl ?_
      refine stw (o_alloc rfl [(.int .i64 0), (.int .i64 0)] zero74 ?_); intro b23
      refine stw (o_stc (cs' := [(.int .i64 r21.xLo), (.int .i64 r21.xHi)]) 0 rfl rfl rfl ty74 rfl rfl rfl rfl ?_)
      refine o_as st rfl rfl ?_
      refine c_nil ?_
      refine l_then ?_
      refine c_seq ?_
      refine c_join (σ := Bool) (fun (t85 : Bool) (a : Act) (w : World) => Has 77 [(3, v7), (18, v1), (19, (.int .i64 (list_0.length : Int))), (20, (.int .i64 t11)), (6, (.pointer (some ⟨b19, 0, none⟩))), (8, (.pointer (some ⟨b23, 0, none⟩))), (50, (.bool t85))] a ∧ Mem (gB F [] w0) (feet []) w0 [cellCh b23 [(.int .i64 r21.xLo), (.int .i64 r21.xHi)] 74, cellCh b19 [(.int .i64 r17.xLo), (.int .i64 r17.xHi)] 74, ownCh elGSpan 74 v7 xs8, snapCh w0 F] w) ?_ ?_
      · intro k86
        refine c_region ?_
        refine o_mv st rfl rfl ?_
        refine o_not st rfl rfl ?_
        refine o_mv st rfl rfl ?_
        refine st_sp (dj := 38) rfl ?_ ?_
        · refine st_s rfl rfl rfl rfl ?_
          refine st_s rfl rfl rfl rfl ?_
          refine o_pickT st rfl rfl rfl ?_
          refine o_mv st rfl rfl ?_
          refine st_s rfl rfl rfl rfl ?_
          refine st_s rfl rfl rfl rfl ?_
          refine st_s rfl rfl rfl rfl ?_
          refine st_s rfl rfl rfl rfl ?_
          refine st_s rfl rfl rfl rfl ?_
          refine st_s rfl rfl rfl rfl ?_
          refine st_s rfl rfl rfl rfl ?_
          refine o_pickT st rfl rfl rfl ?_
          refine c_nil ?_
          exact l_join true (fun a w hE hm => ⟨hE.sub ⟨rfl, rfl, rfl, rfl, rfl, rfl, rfl, trivial⟩, (hm.pick [0, 1, 4, 3] rfl)⟩)
        · refine o_mv (st_g rfl rfl) rfl rfl ?_
          refine o_not (st_g rfl rfl) rfl rfl ?_
          refine o_pickF st rfl rfl rfl ?_
          refine o_mv st rfl rfl ?_
          refine st_sp (dj := 42) rfl ?_ ?_
          · refine st_s rfl rfl rfl rfl ?_
            refine st_s rfl rfl rfl rfl ?_
            refine st_s rfl rfl rfl rfl ?_
            refine st_s rfl rfl rfl rfl ?_
            refine st_s rfl rfl rfl rfl ?_
            refine st_s rfl rfl rfl rfl ?_
            refine st_s rfl rfl rfl rfl ?_
            refine o_pickT st rfl rfl rfl ?_
            refine c_nil ?_
            exact l_join true (fun a w hE hm => ⟨hE.sub ⟨rfl, rfl, rfl, rfl, rfl, rfl, rfl, trivial⟩, (hm.pick [0, 1, 4, 3] rfl)⟩)
          · refine o_fad (st_g rfl rfl) rfl rfl fld38_0 rfl ?_
            refine o_fad (st_g rfl rfl) rfl rfl fld36_1 rfl ?_
            refine o_ldc (st_g rfl rfl) (v := (.int .i64 e13.xInside.xLength)) 2 rfl rfl rfl ty3 rfl ?_
            refine o_fad (st_g rfl rfl) rfl rfl fld38_1 rfl ?_
            refine o_fad (st_g rfl rfl) rfl rfl fld36_1 rfl ?_
            refine o_ldc (st_g rfl rfl) (v := (.int .i64 e13.xOutside.xLength)) 2 rfl rfl rfl ty3 rfl ?_
            refine o_neq (st_g rfl rfl) und3 rfl rfl rfl ?_
            refine o_pickF st rfl rfl rfl ?_
            refine c_nil ?_
            exact l_join (!(decide (e13.xInside.xLength = e13.xOutside.xLength))) (fun a w hE hm => ⟨hE.sub ⟨rfl, rfl, rfl, rfl, rfl, rfl, rfl, trivial⟩, (hm.pick [0, 1, 4, 3] rfl)⟩)
      · rintro t85 a w ⟨hE, hm⟩ h
        refine nx_of hE hm h ?_
        clear hE hm h
        refine c_cond rfl ?_ ?_
        · refine c_seq ?_
          refine c_region ?_
          refine o_as st rfl rfl ?_
          refine c_nil ?_
          refine l_then ?_
          refine c_ret ?_
          refine l_ret ?_
          refine b_ret ?_
          refine l_ret ?_
          refine l_ret ?_
          refine b_ret ?_
          refine l_ret ?_
          exact l_end1 Tryd.results22 false () (rv_t rfl) (fun _ _ => NewCh.nil _ _ _ _)
        · refine c_skip ?_
          refine l_then ?_
          refine c_region ?_
          refine o_mv st rfl rfl ?_
          refine o_ldc st (v := (.agg #[(.int .i64 r17.xLo), (.int .i64 r17.xHi)])) 1 rfl rfl rfl ty74 rfl ?_
          refine o_ldc st (v := (.agg #[(.int .i64 r21.xLo), (.int .i64 r21.xHi)])) 0 rfl rfl rfl ty74 rfl ?_
          refine stw (o_bsl (enc := encGSpan) (qs := [(0, (.agg #[(.int .i64 r17.xLo), (.int .i64 r17.xHi)])), (1, (.agg #[(.int .i64 r21.xLo), (.int .i64 r21.xHi)]))]) (cells := [(.int .i64 r17.xLo), (.int .i64 r17.xHi), (.int .i64 r21.xLo), (.int .i64 r21.xHi)]) ([r17, r21]) flelGSpan (by intro ρ h; simp only [List.map_toArray, List.map_cons, List.map_nil, h (.tmp 52) _ rfl, h (.tmp 53) _ rfl]) rfl el50 zero74 rfl rfl rfl rfl rfl rfl ?_); intro v87
          refine stw (o_app 3 0 rfl rfl (src_flat flelGSpan reads_own) rfl rfl rfl el50 rfl zero74 rfl rfl ?_); intro v89
          refine o_as st rfl rfl ?_
          refine c_nil ?_
          refine b_norm ?_
          refine l_then ?_
          refine c_region ?_
          refine o_add st rfl rfl rfl ?_; intro t91
          refine o_mv st rfl rfl ?_
          refine c_nil ?_
          exact l_join ((xs8 ++ ([r17, r21])), t91) (fun a w hE hm => ⟨v89, hE.sub ⟨rfl, rfl, rfl, rfl, trivial⟩, (hm.pick [4, 3] rfl)⟩)
    · refine c_exit ?_
      refine l_exit ?_
      refine l_exit ?_
      refine b_exit ?_
      refine l_then ?_
      refine c_seq ?_
      refine c_region ?_
      refine o_mv st rfl rfl ?_
      refine pk [1, 0] rfl ?_
      refine stw (o_call (vs := [v7, (.func (.func 45) #[] #[])]) (M0 := [ownCh elGSpan 74 v7 xs8]) Tryd.call44 rfl rfl (by intro w m h; exact (w_srt_GSpan (F := allB [ownCh elGSpan 74 v7 xs8] w) (xs := xs8) allB_ok m.given h).mono (fun _ _ k => ret_free (fun r u => (fr_cons (free_own flelGSpan) fr_nil)) k)) ?_); rintro r92 _
      refine c_nil ?_
      refine l_then ?_
      refine c_seq ?_
      refine c_seq ?_
      refine c_region ?_
      refine o_as st rfl rfl ?_
      refine c_nil ?_
      refine l_then ?_
      refine c_block ?_
      refine c_loop (σ := Int) (fun (t94 : Int) (a : Act) (w : World) => Has 77 [(3, v7), (10, (.int .i64 t94))] a ∧ Mem (gB F [] w0) (feet []) w0 [ownCh elGSpan 74 v7 r92] w) (fun a w hE hm => ⟨hE.sub ⟨rfl, rfl, trivial⟩, (hm.pick [0] rfl)⟩) ?_
      rintro nx95 t94 a w ⟨hE, hm⟩ h
      refine nx_of hE hm h ?_
      clear hE hm h
      refine c_seq ?_
      refine c_seq ?_
      refine c_region ?_
      refine o_mv st rfl rfl ?_
      refine o_mv st rfl rfl ?_
      refine o_len st el50 0 rfl reads_own rfl rfl ?_
      refine o_lss st rfl rfl rfl ?_
      refine c_nil ?_
      refine l_then ?_
      refine c_cond rfl ?_ ?_
      · refine c_skip ?_
        refine l_then ?_
        refine c_seq ?_
        refine c_block ?_
        refine c_seq ?_
        refine c_draw mixed 12 rfl [ownCh elGSpan 74 v7 r92] ?_
        refine o_mv (dt 0 (fun _ m => m)) rfl rfl ?_
        refine o_mv (dt 1 (fun _ m => m)) rfl rfl ?_
        refine o_idx (dt 2 (fun _ m => m)) 0 rfl reads_own rfl rfl rfl el50 ?_; intro e96 h97
        refine o_fadS (dt 3 (fun _ m => m)) 0 rfl reads_own h97 rfl rfl fld74_0 rfl ?_
        refine o_lds (dt 4 (fun _ m => m)) (enc := encGSpan) (u := (.int .i64 e96.xLo)) 0 rfl reads_own flelGSpan rfl h97 rfl rfl ty3 rfl ?_
        refine o_mv (dt 5 (fun _ m => m)) rfl rfl ?_
        refine o_mv (dt 6 (fun _ m => m)) rfl rfl ?_
        refine o_sub (dt 7 (fun _ m => m)) rfl rfl rfl ?_; intro t98
        refine o_idx (dt 8 (fun _ m => m)) 0 rfl reads_own rfl rfl rfl el50 ?_; intro e99 h100
        refine o_fadS (dt 9 (fun _ m => m)) 0 rfl reads_own h100 rfl rfl fld74_1 rfl ?_
        refine o_lds (dt 10 (fun _ m => m)) (enc := encGSpan) (u := (.int .i64 e99.xHi)) 0 rfl reads_own flelGSpan rfl h100 rfl rfl ty3 rfl ?_
        refine o_leq (dt 11 (fun _ m => m)) rfl rfl rfl ?_
        refine d_done (by kernel_rfl) ?_
        refine l_then ?_
        refine c_cond rfl ?_ ?_
        · refine c_seq ?_
          refine c_region ?_
          refine o_as st rfl rfl ?_
          refine c_nil ?_
          refine l_then ?_
          refine c_ret ?_
          refine b_ret ?_
          refine l_ret ?_
          refine l_ret ?_
          refine b_ret ?_
          refine l_ret ?_
          exact l_end1 Tryd.results22 false () (rv_t rfl) (fun _ _ => NewCh.nil _ _ _ _)
        · refine c_skip ?_
          refine b_norm ?_
          refine l_then ?_
          refine c_region ?_
          refine o_mv st rfl rfl ?_
          refine o_add st rfl rfl rfl ?_; intro t101
          refine o_as st rfl rfl ?_
          refine c_nil ?_
          exact l_join t101 (fun a w hE hm => ⟨hE.sub ⟨rfl, rfl, trivial⟩, (hm.pick [0] rfl)⟩)
      · refine c_exit ?_
        refine l_exit ?_
        refine l_exit ?_
        refine b_exit ?_
        refine l_then ?_
        refine c_seq ?_
        refine c_region ?_
        refine o_as st rfl rfl ?_
        refine c_nil ?_
        refine l_then ?_
        refine c_ret ?_
        exact l_end1 Tryd.results22 true () (rv_t rfl) (fun _ _ => NewCh.nil _ _ _ _)

set_option maxRecDepth 100000 in
set_option maxHeartbeats 8000000 in
theorem w_impl_Packet_fields {w0 : World} {F : Nat → Prop} {p_0 : GPacket} {κ : A4Int → Prop} (hF : ∀ b, F b → b < w0.heap.size ∧ ¬ feet [] b) (h : L_impl_Packet_fields p_0 κ) :
    Calls Tryd.prog 54 #[(.agg #[(.int .i64 p_0.xFrom), (.int .i64 p_0.xTo), (.int .i64 p_0.xPort), (.int .i64 p_0.xProto)])] w0 (Ret [] F w0 κ (fun (r : A4Int) (u : Unit) => (.agg #[(.int .i64 r.x0), (.int .i64 r.x1), (.int .i64 r.x2), (.int .i64 r.x3)])) (fun (r : A4Int) (u : Unit) => [])) := by
  refine enter0 (args := [(.agg #[(.int .i64 p_0.xFrom), (.int .i64 p_0.xTo), (.int .i64 p_0.xPort), (.int .i64 p_0.xProto)])]) [] hF (Given.nil _ _) Tryd.func54 rfl Tryd.ntmps54 rfl h ?_
  clear h hF
  refine c_seq ?_
  refine c_region ?_
  refine stw (o_box rfl rfl [(.int .i64 p_0.xFrom), (.int .i64 p_0.xTo), (.int .i64 p_0.xPort), (.int .i64 p_0.xProto)] rfl ?_); intro b1
  refine stw (o_allocA (El' := elInt) (z := (0 : Int)) (len := 4) (zs := [(.int .i64 0)]) (fun F w => (flelInt _ _ _ _).2 rfl) rfl zero88 rfl rfl ?_); intro b3
  refine c_nil ?_
  refine l_then ?_
  refine c_seq ?_
  refine c_region ?_
  refine o_fad st rfl rfl fld26_0 rfl ?_
  refine o_ldc st (v := (.int .i64 p_0.xFrom)) 1 rfl rfl rfl ty3 rfl ?_
  refine o_fad st rfl rfl fld26_1 rfl ?_
  refine o_ldc st (v := (.int .i64 p_0.xTo)) 1 rfl rfl rfl ty3 rfl ?_
  refine o_fad st rfl rfl fld26_2 rfl ?_
  refine o_ldc st (v := (.int .i64 p_0.xPort)) 1 rfl rfl rfl ty3 rfl ?_
  refine o_fad st rfl rfl fld26_3 rfl ?_
  refine o_ldc st (v := (.int .i64 p_0.xProto)) 1 rfl rfl rfl ty3 rfl ?_
  refine o_bldA st (qs := [(0, (.int .i64 p_0.xFrom)), (1, (.int .i64 p_0.xTo)), (2, (.int .i64 p_0.xPort)), (3, (.int .i64 p_0.xProto))]) (cells := [(.int .i64 p_0.xFrom), (.int .i64 p_0.xTo), (.int .i64 p_0.xPort), (.int .i64 p_0.xProto)]) (by intro ρ h; simp only [List.map_toArray, List.map_cons, List.map_nil, h (.tmp 4) _ rfl, h (.tmp 6) _ rfl, h (.tmp 8) _ rfl, h (.tmp 10) _ rfl]) rfl bld88 rfl ?_
  refine stw (o_stA (El' := elInt) (len := 4) 0 rfl ([p_0.xFrom, p_0.xTo, p_0.xPort, p_0.xProto]) ([[(.int .i64 p_0.xFrom)], [(.int .i64 p_0.xTo)], [(.int .i64 p_0.xPort)], [(.int .i64 p_0.xProto)]]) (fun w m => ⟨(flelInt _ _ _ _).2 rfl, (flelInt _ _ _ _).2 rfl, (flelInt _ _ _ _).2 rfl, (flelInt _ _ _ _).2 rfl, trivial⟩) rfl rfl rfl rfl rfl rfl ty88 rfl rfl ?_)
  refine c_nil ?_
  refine l_then ?_
  refine c_ret ?_
  refine nx_unarr 0 rfl rfl rfl (by decide) ?_
  rintro wr6 ff7 _ hrows_; obtain ⟨rfl⟩ := rows_f4 flelInt hrows_
  exact l_end1 Tryd.results54 (A4Int.mk p_0.xFrom p_0.xTo p_0.xPort p_0.xProto) () (rv_c 1 rfl rfl ty88 rfl) (fun _ _ => NewCh.nil _ _ _ _)

set_option maxRecDepth 100000 in
set_option maxHeartbeats 8000000 in
theorem w_impl_FieldTop {w0 : World} {F : Nat → Prop} {n_0 : Int} {κ : Int → Prop} (hF : ∀ b, F b → b < w0.heap.size ∧ ¬ feet [] b) (hgl0 : Sl elGFieldShape F w0 (.slice (some ⟨0, 0, none⟩) 4 4) gl_impl_fieldShapes) (h : L_impl_FieldTop n_0 κ) :
    Calls Tryd.prog 55 #[(.int .i64 n_0)] w0 (Ret [] F w0 κ (fun (r : Int) (u : Unit) => (.int .i64 r)) (fun (r : Int) (u : Unit) => [])) := by
  refine enterS (args := [(.int .i64 n_0)]) [] hF (Given.nil _ _) Tryd.func55 rfl Tryd.ntmps55 rfl h ?_
  clear h hF
  refine c_seq ?_
  refine c_region ?_
  refine o_as st rfl rfl ?_
  refine c_nil ?_
  refine l_then ?_
  refine c_seq ?_
  refine c_join (σ := Bool) (fun (t61 : Bool) (a : Act) (w : World) => Has 13 [(0, (.int .i64 n_0)), (8, (.bool t61))] a ∧ Mem (gB F [] w0) (feet []) w0 [snapCh w0 F] w) ?_ ?_
  · intro k62
    refine c_region ?_
    refine o_mv st rfl rfl ?_
    refine o_lss st rfl rfl rfl ?_
    refine o_mv st rfl rfl ?_
    refine st_sp (dj := 5) rfl ?_ ?_
    · refine st_s rfl rfl rfl rfl ?_
      refine st_s rfl rfl rfl rfl ?_
      refine o_pickT st rfl rfl rfl ?_
      refine c_nil ?_
      exact l_join true (fun a w hE hm => ⟨hE.sub ⟨rfl, rfl, trivial⟩, (hm.pick [0] rfl)⟩)
    · refine o_mv (st_g rfl rfl) rfl rfl ?_
      refine o_geq (st_g rfl rfl) rfl rfl rfl ?_
      refine o_pickF st rfl rfl rfl ?_
      refine c_nil ?_
      exact l_join (decide (4 ≤ n_0)) (fun a w hE hm => ⟨hE.sub ⟨rfl, rfl, trivial⟩, (hm.pick [0] rfl)⟩)
  · rintro t61 a w ⟨hE, hm⟩ h
    refine nx_of hE hm h ?_
    clear hE hm h
    refine c_cond rfl ?_ ?_
    · refine c_seq ?_
      refine c_region ?_
      refine o_as st rfl rfl ?_
      refine c_nil ?_
      refine l_then ?_
      refine c_ret ?_
      refine l_ret ?_
      exact l_end1 Tryd.results55 (-1) () (rv_t rfl) (fun _ _ => NewCh.nil _ _ _ _)
    · refine c_skip ?_
      refine l_then ?_
      refine c_seq ?_
      refine c_region ?_
      refine o_mv st rfl rfl ?_
      refine o_ixa st 0 rfl (reads_snap hgl0) rfl rfl rfl arr112 ?_; intro e63 h64
      refine o_fadS st 0 rfl (reads_snap hgl0) h64 rfl rfl fld111_1 rfl ?_
      refine o_lds st (enc := encGFieldShape) (u := (.int .i64 e63.xTop)) 0 rfl (reads_snap hgl0) flelGFieldShape rfl h64 rfl rfl ty3 rfl ?_
      refine o_as st rfl rfl ?_
      refine c_nil ?_
      refine l_then ?_
      refine c_ret ?_
      exact l_end1 Tryd.results55 e63.xTop () (rv_t rfl) (fun _ _ => NewCh.nil _ _ _ _)

set_option maxRecDepth 100000 in
set_option maxHeartbeats 8000000 in
theorem w_impl_PacketValid {w0 : World} {F : Nat → Prop} {p_0 : GPacket} {κ : Bool → Prop} (hF : ∀ b, F b → b < w0.heap.size ∧ ¬ feet [] b) (hgl0 : Sl elGFieldShape F w0 (.slice (some ⟨0, 0, none⟩) 4 4) gl_impl_fieldShapes) (h : L_impl_PacketValid p_0 κ) :
    Calls Tryd.prog 33 #[(.agg #[(.int .i64 p_0.xFrom), (.int .i64 p_0.xTo), (.int .i64 p_0.xPort), (.int .i64 p_0.xProto)])] w0 (Ret [] F w0 κ (fun (r : Bool) (u : Unit) => (.bool r)) (fun (r : Bool) (u : Unit) => [])) := by
  refine enterS (args := [(.agg #[(.int .i64 p_0.xFrom), (.int .i64 p_0.xTo), (.int .i64 p_0.xPort), (.int .i64 p_0.xProto)])]) [] hF (Given.nil _ _) Tryd.func33 rfl Tryd.ntmps33 rfl h ?_
  clear h hF
  refine c_seq ?_
  refine c_region ?_
  refine stw (o_box rfl rfl [(.int .i64 p_0.xFrom), (.int .i64 p_0.xTo), (.int .i64 p_0.xPort), (.int .i64 p_0.xProto)] rfl ?_); intro b1
  refine o_as st rfl rfl ?_
  refine c_nil ?_
  refine l_then ?_
  refine c_seq ?_
  refine c_seq ?_
  refine c_region ?_
  refine o_ldc st (v := (.agg #[(.int .i64 p_0.xFrom), (.int .i64 p_0.xTo), (.int .i64 p_0.xPort), (.int .i64 p_0.xProto)])) 0 rfl rfl rfl ty26 rfl ?_
  refine stw (o_callP (vs := [(.agg #[(.int .i64 p_0.xFrom), (.int .i64 p_0.xTo), (.int .i64 p_0.xPort), (.int .i64 p_0.xProto)])]) Tryd.call54 rfl rfl (by intro w m h; exact (w_impl_Packet_fields (F := allB [] w) (p_0 := p_0) allB_ok h).mono (fun _ _ k => ret_free (fun r u => fr_nil) k)) ?_); rintro r3 _
  refine o_mv st rfl rfl ?_
  refine c_nil ?_
  refine l_then ?_
  refine c_block ?_
  refine c_loop (σ := Int) (fun (t4 : Int) (a : Act) (w : World) => Has 20 [(6, (.agg #[(.int .i64 r3.x0), (.int .i64 r3.x1), (.int .i64 r3.x2), (.int .i64 r3.x3)])), (7, (.int .i64 t4))] a ∧ Mem (gB F [] w0) (feet []) w0 [snapCh w0 F] w) (fun a w hE hm => ⟨hE.sub ⟨rfl, rfl, trivial⟩, (hm.pick [1] rfl)⟩) ?_
  rintro nx5 t4 a w ⟨hE, hm⟩ h
  refine nx_of hE hm h ?_
  clear hE hm h
  refine c_seq ?_
  refine c_region ?_
  refine o_lss st rfl rfl rfl ?_
  refine c_nil ?_
  refine l_then ?_
  refine c_seq ?_
  refine c_cond rfl ?_ ?_
  · refine c_skip ?_
    refine l_then ?_
    refine c_seq ?_
    refine c_block ?_
    refine c_seq ?_
    refine c_region ?_
    refine o_mv st rfl rfl ?_
    refine o_ixv st (enc := encInt) (zs := [r3.x0, r3.x1, r3.x2, r3.x3]) (u := fun (e6 : Int) => (.int .i64 e6)) rfl rfl rfl arr88 rfl rfl (fun _ => rfl) (fun _ => rfl) ?_; intro e6
    refine o_as st rfl rfl ?_
    refine o_as st rfl rfl ?_
    refine c_nil ?_
    refine l_then ?_
    refine c_join (σ := Bool) (fun (t68 : Bool) (a : Act) (w : World) => Has 20 [(6, (.agg #[(.int .i64 r3.x0), (.int .i64 r3.x1), (.int .i64 r3.x2), (.int .i64 r3.x3)])), (7, (.int .i64 t4)), (18, (.bool t68))] a ∧ Mem (gB F [] w0) (feet []) w0 [snapCh w0 F] w) ?_ ?_
    · intro k69
      refine c_region ?_
      refine o_mv st rfl rfl ?_
      refine o_lss st rfl rfl rfl ?_
      refine o_mv st rfl rfl ?_
      refine st_sp (dj := 13) rfl ?_ ?_
      · refine st_s rfl rfl rfl rfl ?_
        refine st_s rfl rfl rfl rfl ?_
        refine st_s rfl rfl rfl rfl ?_
        refine st_s rfl rfl rfl rfl ?_
        refine o_pickT st rfl rfl rfl ?_
        refine c_nil ?_
        exact l_join true (fun a w hE hm => ⟨hE.sub ⟨rfl, rfl, rfl, trivial⟩, (hm.pick [0] rfl)⟩)
      · refine o_mv (st_g rfl rfl) rfl rfl ?_
        refine o_mv (st_g rfl rfl) rfl rfl ?_
        refine st_gw rfl rfl (o_callP (vs := [(.int .i64 t4)]) Tryd.call55 rfl rfl (by intro w m h; exact (w_impl_FieldTop (F := allB [] w) (n_0 := t4) allB_ok (m.rd0 0 rfl (reads_snap hgl0)) h).mono (fun _ _ k => ret_free (fun r u => fr_nil) k)) ?_); rintro r7 _
        refine o_gtr (st_g rfl rfl) rfl rfl rfl ?_
        refine o_pickF st rfl rfl rfl ?_
        refine c_nil ?_
        exact l_join (decide (r7 < e6)) (fun a w hE hm => ⟨hE.sub ⟨rfl, rfl, rfl, trivial⟩, (hm.pick [0] rfl)⟩)
    · rintro t68 a w ⟨hE, hm⟩ h
      refine nx_of hE hm h ?_
      clear hE hm h
      refine c_cond rfl ?_ ?_
      · refine c_seq ?_
        refine c_region ?_
        refine o_as st rfl rfl ?_
        refine c_nil ?_
        refine l_then ?_
        refine c_ret ?_
        refine b_ret ?_
        refine l_ret ?_
        refine l_ret ?_
        refine b_ret ?_
        refine l_ret ?_
        exact l_end1 Tryd.results33 false () (rv_t rfl) (fun _ _ => NewCh.nil _ _ _ _)
      · refine c_skip ?_
        refine b_norm ?_
        refine l_then ?_
        refine c_region ?_
        refine o_add st rfl rfl rfl ?_; intro t70
        refine o_mv st rfl rfl ?_
        refine c_nil ?_
        exact l_join t70 (fun a w hE hm => ⟨hE.sub ⟨rfl, rfl, trivial⟩, (hm.pick [0] rfl)⟩)
  · refine c_exit ?_
    refine l_exit ?_
    refine l_exit ?_
    refine b_exit ?_
    refine l_then ?_
    refine c_seq ?_
    refine c_region ?_
    refine o_as st rfl rfl ?_
    refine c_nil ?_
    refine l_then ?_
    refine c_ret ?_
    exact l_end1 Tryd.results33 true () (rv_t rfl) (fun _ _ => NewCh.nil _ _ _ _)

set_option maxRecDepth 100000 in
set_option maxHeartbeats 8000000 in
theorem w_impl_shiftTo {w0 : World} {F : Nat → Prop} {from_0 : GPrefix} {to_1 : GPrefix} {κ : GShift → Prop} (hF : ∀ b, F b → b < w0.heap.size ∧ ¬ feet [] b) (h : L_impl_shiftTo from_0 to_1 κ) :
    Calls Tryd.prog 58 #[(.agg #[(.int .i64 from_0.xBase), (.int .i64 from_0.xLength)]), (.agg #[(.int .i64 to_1.xBase), (.int .i64 to_1.xLength)])] w0 (Ret [] F w0 κ (fun (r : GShift) (u : Unit) => (.agg #[(.int .i64 r.xWhere.xLo), (.int .i64 r.xWhere.xHi), (.int .i64 r.xBy)])) (fun (r : GShift) (u : Unit) => [])) := by
  refine enter0 (args := [(.agg #[(.int .i64 from_0.xBase), (.int .i64 from_0.xLength)]), (.agg #[(.int .i64 to_1.xBase), (.int .i64 to_1.xLength)])]) [] hF (Given.nil _ _) Tryd.func58 rfl Tryd.ntmps58 rfl h ?_
  clear h hF
  refine c_seq ?_
  refine c_region ?_
  refine stw (o_box rfl rfl [(.int .i64 from_0.xBase), (.int .i64 from_0.xLength)] rfl ?_); intro b1
  refine stw (o_box rfl rfl [(.int .i64 to_1.xBase), (.int .i64 to_1.xLength)] rfl ?_); intro b3
  refine stw (o_alloc rfl [(.int .i64 0), (.int .i64 0), (.int .i64 0)] zero91 ?_); intro b5
  refine c_nil ?_
  refine l_then ?_
  refine c_seq ?_
  refine c_region ?_
  refine o_ldc st (v := (.agg #[(.int .i64 from_0.xBase), (.int .i64 from_0.xLength)])) 2 rfl rfl rfl ty36 rfl ?_
  refine stw (o_callP (vs := [(.agg #[(.int .i64 from_0.xBase), (.int .i64 from_0.xLength)])]) Tryd.call43 rfl rfl (by intro w m h; exact (w_impl_PrefixSpan (F := allB [] w) (p_0 := from_0) allB_ok h).mono (fun _ _ k => ret_free (fun r u => fr_nil) k)) ?_); rintro ⟨r7, r8⟩ _
  refine o_mv st rfl rfl ?_
  refine o_ext st (vs := [(.agg #[(.int .i64 r7.xLo), (.int .i64 r7.xHi)]), (.bool r8)]) rfl rfl rfl ?_
  refine o_ext st (vs := [(.agg #[(.int .i64 r7.xLo), (.int .i64 r7.xHi)]), (.bool r8)]) rfl rfl rfl ?_
  refine stw (o_alloc rfl [(.int .i64 0), (.int .i64 0)] zero74 ?_); intro b9
  refine stw (o_stc (cs' := [(.int .i64 r7.xLo), (.int .i64 r7.xHi)]) 0 rfl rfl rfl ty74 rfl rfl rfl rfl ?_)
  refine o_as st rfl rfl ?_
  refine c_nil ?_
  refine l_then ?_
  refine c_seq ?_
  refine c_region ?_
  refine o_ldc st (v := (.agg #[(.int .i64 r7.xLo), (.int .i64 r7.xHi)])) 0 rfl rfl rfl ty74 rfl ?_
  refine o_fad st rfl rfl fld36_0 rfl ?_
  refine o_ldc st (v := (.int .i64 to_1.xBase)) 2 rfl rfl rfl ty3 rfl ?_
  refine o_fad st rfl rfl fld36_0 rfl ?_
  refine o_ldc st (v := (.int .i64 from_0.xBase)) 3 rfl rfl rfl ty3 rfl ?_
  refine o_sub st rfl rfl rfl ?_; intro t11
  refine o_bld st (qs := [(0, (.agg #[(.int .i64 r7.xLo), (.int .i64 r7.xHi)])), (1, (.int .i64 t11))]) (cells := [(.int .i64 r7.xLo), (.int .i64 r7.xHi), (.int .i64 t11)]) (by intro ρ h; simp only [List.map_toArray, List.map_cons, List.map_nil, h (.tmp 12) _ rfl, h (.tmp 17) _ rfl]) rfl bld91 rfl ?_
  refine stw (o_stc (cs' := [(.int .i64 r7.xLo), (.int .i64 r7.xHi), (.int .i64 t11)]) 1 rfl rfl rfl ty91 rfl rfl rfl rfl ?_)
  refine c_nil ?_
  refine l_then ?_
  refine c_ret ?_
  exact l_end1 Tryd.results58 (GShift.mk r7 t11) () (rv_c 1 rfl rfl ty91 rfl) (fun _ _ => NewCh.nil _ _ _ _)

set_option maxRecDepth 100000 in
set_option maxHeartbeats 8000000 in
theorem w_impl_Rewrite_inward {w0 : World} {F : Nat → Prop} {r_0 : GRewrite} {κ : GShift → Prop} (hF : ∀ b, F b → b < w0.heap.size ∧ ¬ feet [] b) (h : L_impl_Rewrite_inward r_0 κ) :
    Calls Tryd.prog 35 #[(.agg #[(.int .i64 r_0.xInside.xBase), (.int .i64 r_0.xInside.xLength), (.int .i64 r_0.xOutside.xBase), (.int .i64 r_0.xOutside.xLength)])] w0 (Ret [] F w0 κ (fun (r : GShift) (u : Unit) => (.agg #[(.int .i64 r.xWhere.xLo), (.int .i64 r.xWhere.xHi), (.int .i64 r.xBy)])) (fun (r : GShift) (u : Unit) => [])) := by
  refine enter0 (args := [(.agg #[(.int .i64 r_0.xInside.xBase), (.int .i64 r_0.xInside.xLength), (.int .i64 r_0.xOutside.xBase), (.int .i64 r_0.xOutside.xLength)])]) [] hF (Given.nil _ _) Tryd.func35 rfl Tryd.ntmps35 rfl h ?_
  clear h hF
  refine c_seq ?_
  refine c_region ?_
  refine stw (o_box rfl rfl [(.int .i64 r_0.xInside.xBase), (.int .i64 r_0.xInside.xLength), (.int .i64 r_0.xOutside.xBase), (.int .i64 r_0.xOutside.xLength)] rfl ?_); intro b1
  refine stw (o_alloc rfl [(.int .i64 0), (.int .i64 0), (.int .i64 0)] zero91 ?_); intro b3
  refine c_nil ?_
  refine l_then ?_
  refine c_seq ?_
  refine c_region ?_
  refine o_fad st rfl rfl fld38_1 rfl ?_
  refine o_ldc st (v := (.agg #[(.int .i64 r_0.xOutside.xBase), (.int .i64 r_0.xOutside.xLength)])) 1 rfl rfl rfl ty36 rfl ?_
  refine o_fad st rfl rfl fld38_0 rfl ?_
  refine o_ldc st (v := (.agg #[(.int .i64 r_0.xInside.xBase), (.int .i64 r_0.xInside.xLength)])) 1 rfl rfl rfl ty36 rfl ?_
  refine stw (o_callP (vs := [(.agg #[(.int .i64 r_0.xOutside.xBase), (.int .i64 r_0.xOutside.xLength)]), (.agg #[(.int .i64 r_0.xInside.xBase), (.int .i64 r_0.xInside.xLength)])]) Tryd.call58 rfl rfl (by intro w m h; exact (w_impl_shiftTo (F := allB [] w) (from_0 := r_0.xOutside) (to_1 := r_0.xInside) allB_ok h).mono (fun _ _ k => ret_free (fun r u => fr_nil) k)) ?_); rintro r5 _
  refine stw (o_stc (cs' := [(.int .i64 r5.xWhere.xLo), (.int .i64 r5.xWhere.xHi), (.int .i64 r5.xBy)]) 0 rfl rfl rfl ty91 rfl rfl rfl rfl ?_)
  refine c_nil ?_
  refine l_then ?_
  refine c_ret ?_
  exact l_end1 Tryd.results35 r5 () (rv_c 0 rfl rfl ty91 rfl) (fun _ _ => NewCh.nil _ _ _ _)

set_option maxRecDepth 100000 in
set_option maxHeartbeats 8000000 in
theorem w_impl_mover_move_1 {w0 : World} {F : Nat → Prop} {s_0 : GShift} {address_1 : Int} {κ : Int → Prop} (hF : ∀ b, F b → b < w0.heap.size ∧ ¬ feet [] b) (h : L_impl_mover_move_1 s_0 address_1 κ) :
    Calls Tryd.prog 60 #[(.agg #[(.int .i64 s_0.xWhere.xLo), (.int .i64 s_0.xWhere.xHi), (.int .i64 s_0.xBy)]), (.int .i64 address_1)] w0 (Ret [] F w0 κ (fun (r : Int) (u : Unit) => (.int .i64 r)) (fun (r : Int) (u : Unit) => [])) := by
  refine enter0 (args := [(.agg #[(.int .i64 s_0.xWhere.xLo), (.int .i64 s_0.xWhere.xHi), (.int .i64 s_0.xBy)]), (.int .i64 address_1)]) [] hF (Given.nil _ _) Tryd.func60 rfl Tryd.ntmps60 rfl h ?_
  clear h hF
  refine c_seq ?_
  refine c_region ?_
  refine stw (o_box rfl rfl [(.int .i64 s_0.xWhere.xLo), (.int .i64 s_0.xWhere.xHi), (.int .i64 s_0.xBy)] rfl ?_); intro b1
  refine o_as st rfl rfl ?_
  refine c_nil ?_
  refine l_then ?_
  refine c_seq ?_
  refine c_region ?_
  refine o_fad st rfl rfl fld91_0 rfl ?_
  refine o_fad st rfl rfl fld74_1 rfl ?_
  refine o_ldc st (v := (.int .i64 s_0.xWhere.xHi)) 0 rfl rfl rfl ty3 rfl ?_
  refine o_mv st rfl rfl ?_
  refine stw (o_callP (vs := [(.int .i64 s_0.xWhere.xHi), (.int .i64 address_1)]) Tryd.call46 rfl rfl (by intro w m h; exact (w_cmp_Compare_int (F := allB [] w) (x_0 := s_0.xWhere.xHi) (y_1 := address_1) allB_ok h).mono (fun _ _ k => ret_free (fun r u => fr_nil) k)) ?_); rintro r3 _
  refine o_as st rfl rfl ?_
  refine c_nil ?_
  refine l_then ?_
  refine c_ret ?_
  exact l_end1 Tryd.results60 r3 () (rv_t rfl) (fun _ _ => NewCh.nil _ _ _ _)

set_option maxRecDepth 100000 in
set_option maxHeartbeats 8000000 in
theorem w_slices_BinarySearchFunc_impl_mover_impl_shift_int__impl_mover_move_1 {w0 : World} {F : Nat → Prop} {v1 : Value} {x_0 : (List GShift)} {target_1 : Int} {κ : (Int × Bool) → Prop} (hF : ∀ b, F b → b < w0.heap.size ∧ ¬ feet [] b) (hv1 : Sl elGShift F w0 v1 x_0) (h : L_slices_BinarySearchFunc_impl_mover_impl_shift_int__impl_mover_move_1 x_0 target_1 κ) :
    Calls Tryd.prog 59 #[v1, (.int .i64 target_1), (.func (.func 60) #[] #[])] w0 (Ret [] F w0 κ (fun (r : (Int × Bool)) (u : Unit) => .tuple #[(.int .i64 r.1), (.bool r.2)]) (fun (r : (Int × Bool)) (u : Unit) => [])) := by
  refine enterS (args := [v1, (.int .i64 target_1), (.func (.func 60) #[] #[])]) [] hF (Given.nil _ _) Tryd.func59 rfl Tryd.ntmps59 rfl h ?_
  clear h hF
  refine c_seq ?_
  refine c_region ?_
  refine o_as st rfl rfl ?_
  refine o_as st rfl rfl ?_
  refine c_nil ?_
  refine l_then ?_
  refine c_seq ?_
  refine c_region ?_
  refine o_mv st rfl rfl ?_
  refine o_len st el62 0 rfl (reads_snap hv1) rfl rfl ?_
  refine o_as st rfl rfl ?_
  refine c_nil ?_
  refine l_then ?_
  refine c_seq ?_
  refine c_region ?_
  refine o_mv st rfl rfl ?_
  refine o_as st rfl rfl ?_
  refine o_as st rfl rfl ?_
  refine c_nil ?_
  refine l_then ?_
  refine c_seq ?_
  refine c_block ?_
  refine c_loop (σ := (Int × Int)) (fun ((t3, t4) : (Int × Int)) (a : Act) (w : World) => Has 49 [(0, v1), (1, (.int .i64 target_1)), (2, (.func (.func 60) #[] #[])), (8, (.int .i64 (x_0.length : Int))), (9, (.int .i64 t3)), (10, (.int .i64 t4))] a ∧ Mem (gB F [] w0) (feet []) w0 [snapCh w0 F] w) (fun a w hE hm => ⟨hE.sub ⟨rfl, rfl, rfl, rfl, rfl, rfl, trivial⟩, (hm.pick [0] rfl)⟩) ?_
  rintro nx5 ⟨t3, t4⟩ a w ⟨hE, hm⟩ h
  refine nx_of hE hm h ?_
  clear hE hm h
  refine c_seq ?_
  refine c_seq ?_
  refine c_region ?_
  refine o_mv st rfl rfl ?_
  refine o_mv st rfl rfl ?_
  refine o_lss st rfl rfl rfl ?_
  refine c_nil ?_
  refine l_then ?_
  refine c_cond rfl ?_ ?_
  · refine c_skip ?_
    refine l_then ?_
    refine c_block ?_
    refine c_seq ?_
    refine c_region ?_
    refine o_mv st rfl rfl ?_
    refine o_mv st rfl rfl ?_
    refine o_add st rfl rfl rfl ?_; intro t6
    refine o_cnvIU st und3 und104 rfl rfl ?_
    refine o_shrU st rfl rfl rfl ?_; intro t7
    refine o_cnvUI st und104 und3 rfl rfl ?_
    refine o_as st rfl rfl ?_
    refine c_nil ?_
    refine l_then ?_
    refine c_seq ?_
    refine c_region ?_
    refine o_mv st rfl rfl ?_
    refine o_mv st rfl rfl ?_
    refine o_mv st rfl rfl ?_
    refine o_idx st 0 rfl (reads_snap hv1) rfl rfl rfl el62 ?_; intro e8 h9
    refine o_lds st (enc := encGShift) (u := (.agg #[(.int .i64 e8.xWhere.xLo), (.int .i64 e8.xWhere.xHi), (.int .i64 e8.xBy)])) 0 rfl (reads_snap hv1) flelGShift rfl h9 rfl rfl ty91 rfl ?_
    refine o_mv st rfl rfl ?_
    refine stw (o_callXP rfl (runs_val rfl rfl Tryd.call60) rfl (by intro w m h; exact (w_impl_mover_move_1 (F := allB [] w) (s_0 := e8) (address_1 := target_1) allB_ok h).mono (fun _ _ k => ret_free (fun r u => fr_nil) k)) ?_); rintro r10 _
    refine o_lss st rfl rfl rfl ?_
    refine c_nil ?_
    refine l_then ?_
    refine c_cond rfl ?_ ?_
    · refine c_region ?_
      refine o_mv st rfl rfl ?_
      refine o_add st rfl rfl rfl ?_; intro t11
      refine o_as st rfl rfl ?_
      refine c_nil ?_
      refine b_norm ?_
      exact l_join (t11, t4) (fun a w hE hm => ⟨hE.sub ⟨rfl, rfl, rfl, rfl, rfl, rfl, trivial⟩, (hm.pick [0] rfl)⟩)
    · refine c_region ?_
      refine o_mv st rfl rfl ?_
      refine o_as st rfl rfl ?_
      refine c_nil ?_
      refine b_norm ?_
      exact l_join (t3, t7) (fun a w hE hm => ⟨hE.sub ⟨rfl, rfl, rfl, rfl, rfl, rfl, trivial⟩, (hm.pick [0] rfl)⟩)
  · refine c_exit ?_
    refine l_exit ?_
    refine l_exit ?_
    refine b_exit ?_
    refine l_then ?_
    refine c_join (σ := Bool) (fun (t75 : Bool) (a : Act) (w : World) => Has 49 [(6, (.int .i64 t3)), (7, (.bool t75))] a ∧ Mem (gB F [] w0) (feet []) w0 [] w) ?_ ?_
    · intro k76
      refine c_region ?_
      refine o_mv st rfl rfl ?_
      refine o_mv st rfl rfl ?_
      refine o_mv st rfl rfl ?_
      refine o_lss st rfl rfl rfl ?_
      refine o_mv st rfl rfl ?_
      refine st_sp (dj := 39) rfl ?_ ?_
      · refine o_mv (st_g rfl rfl) rfl rfl ?_
        refine o_mv (st_g rfl rfl) rfl rfl ?_
        refine o_mv (st_g rfl rfl) rfl rfl ?_
        refine o_idx (st_g rfl rfl) 0 rfl (reads_snap hv1) rfl rfl rfl el62 ?_; intro e12 h13
        refine o_lds (st_g rfl rfl) (enc := encGShift) (u := (.agg #[(.int .i64 e12.xWhere.xLo), (.int .i64 e12.xWhere.xHi), (.int .i64 e12.xBy)])) 0 rfl (reads_snap hv1) flelGShift rfl h13 rfl rfl ty91 rfl ?_
        refine o_mv (st_g rfl rfl) rfl rfl ?_
        refine st_gw rfl rfl (o_callXP rfl (runs_val rfl rfl Tryd.call60) rfl (by intro w m h; exact (w_impl_mover_move_1 (F := allB [] w) (s_0 := e12) (address_1 := target_1) allB_ok h).mono (fun _ _ k => ret_free (fun r u => fr_nil) k)) ?_); rintro r14 _
        refine o_eql (st_g rfl rfl) und3 rfl rfl rfl ?_
        refine o_pickT st rfl rfl rfl ?_
        refine o_as st rfl rfl ?_
        refine o_as st rfl rfl ?_
        refine c_nil ?_
        exact l_join (decide (r14 = 0)) (fun a w hE hm => ⟨hE.sub ⟨rfl, rfl, trivial⟩, (hm.pick [] rfl)⟩)
      · refine st_s rfl rfl rfl rfl ?_
        refine st_s rfl rfl rfl rfl ?_
        refine st_s rfl rfl rfl rfl ?_
        refine st_s rfl rfl rfl rfl ?_
        refine st_s rfl rfl rfl rfl ?_
        refine st_s rfl rfl rfl rfl ?_
        refine st_s rfl rfl rfl rfl ?_
        refine st_s rfl rfl rfl rfl ?_
        refine o_pickF st rfl rfl rfl ?_
        refine o_as st rfl rfl ?_
        refine o_as st rfl rfl ?_
        refine c_nil ?_
        exact l_join false (fun a w hE hm => ⟨hE.sub ⟨rfl, rfl, trivial⟩, (hm.pick [] rfl)⟩)
    · rintro t75 a w ⟨hE, hm⟩ h
      refine nx_of hE hm h ?_
      clear hE hm h
      refine c_ret ?_
      exact l_end2 Tryd.results59 (t3, t75) () (rv_t rfl) (rv_t rfl) rfl (fun _ _ => NewCh.nil _ _ _ _)

set_option maxRecDepth 100000 in
set_option maxHeartbeats 8000000 in
theorem w_impl_mover_move {w0 : World} {F : Nat → Prop} {v1 : Value} {m_0 : (List GShift)} {address_1 : Int} {κ : Int → Prop} (hF : ∀ b, F b → b < w0.heap.size ∧ ¬ feet [] b) (hv1 : Sl elGShift F w0 v1 m_0) (h : L_impl_mover_move m_0 address_1 κ) :
    Calls Tryd.prog 36 #[v1, (.int .i64 address_1)] w0 (Ret [] F w0 κ (fun (r : Int) (u : Unit) => (.int .i64 r)) (fun (r : Int) (u : Unit) => [])) := by
  refine enterS (args := [v1, (.int .i64 address_1)]) [] hF (Given.nil _ _) Tryd.func36 rfl Tryd.ntmps36 rfl h ?_
  clear h hF
  refine c_seq ?_
  refine c_region ?_
  refine o_as st rfl rfl ?_
  refine c_nil ?_
  refine l_then ?_
  refine c_seq ?_
  refine c_region ?_
  refine o_mv st rfl rfl ?_
  refine o_mv st rfl rfl ?_
  refine stw (o_callP (vs := [v1, (.int .i64 address_1), (.func (.func 60) #[] #[])]) Tryd.call59 rfl rfl (by intro w m h; exact (w_slices_BinarySearchFunc_impl_mover_impl_shift_int__impl_mover_move_1 (F := allB [] w) (x_0 := m_0) (target_1 := address_1) allB_ok (m.rd0 0 rfl (reads_snap hv1)) h).mono (fun _ _ k => ret_free (fun r u => fr_nil) k)) ?_); rintro ⟨r3, r4⟩ _
  refine o_mv st rfl rfl ?_
  refine o_ext st (vs := [(.int .i64 r3), (.bool r4)]) rfl rfl rfl ?_
  refine o_ext st (vs := [(.int .i64 r3), (.bool r4)]) rfl rfl rfl ?_
  refine o_as st rfl rfl ?_
  refine o_as st rfl rfl ?_
  refine c_nil ?_
  refine l_then ?_
  refine c_seq ?_
  refine c_join (σ := Bool) (fun (t67 : Bool) (a : Act) (w : World) => Has 35 [(0, v1), (1, (.int .i64 address_1)), (5, (.int .i64 r3)), (26, (.bool t67))] a ∧ Mem (gB F [] w0) (feet []) w0 [snapCh w0 F] w) ?_ ?_
  · intro k68
    refine c_region ?_
    refine o_mv st rfl rfl ?_
    refine o_mv st rfl rfl ?_
    refine o_len st el62 0 rfl (reads_snap hv1) rfl rfl ?_
    refine o_lss st rfl rfl rfl ?_
    refine o_mv st rfl rfl ?_
    refine st_sp (dj := 17) rfl ?_ ?_
    · refine o_mv (st_g rfl rfl) rfl rfl ?_
      refine o_mv (st_g rfl rfl) rfl rfl ?_
      refine o_idx (st_g rfl rfl) 0 rfl (reads_snap hv1) rfl rfl rfl el62 ?_; intro e5 h6
      refine o_fadS (st_g rfl rfl) 0 rfl (reads_snap hv1) h6 rfl rfl fld91_0 rfl ?_
      refine o_fadS (st_g rfl rfl) 0 rfl (reads_snap hv1) h6 rfl rfl fld74_0 rfl ?_
      refine o_lds (st_g rfl rfl) (enc := encGShift) (u := (.int .i64 e5.xWhere.xLo)) 0 rfl (reads_snap hv1) flelGShift rfl h6 rfl rfl ty3 rfl ?_
      refine o_mv (st_g rfl rfl) rfl rfl ?_
      refine o_leq (st_g rfl rfl) rfl rfl rfl ?_
      refine o_pickT st rfl rfl rfl ?_
      refine c_nil ?_
      exact l_join (decide (e5.xWhere.xLo ≤ address_1)) (fun a w hE hm => ⟨hE.sub ⟨rfl, rfl, rfl, rfl, trivial⟩, (hm.pick [0] rfl)⟩)
    · refine st_s rfl rfl rfl rfl ?_
      refine st_s rfl rfl rfl rfl ?_
      refine st_s rfl rfl rfl rfl ?_
      refine st_s rfl rfl rfl rfl ?_
      refine st_s rfl rfl rfl rfl ?_
      refine st_s rfl rfl rfl rfl ?_
      refine st_s rfl rfl rfl rfl ?_
      refine st_s rfl rfl rfl rfl ?_
      refine o_pickF st rfl rfl rfl ?_
      refine c_nil ?_
      exact l_join false (fun a w hE hm => ⟨hE.sub ⟨rfl, rfl, rfl, rfl, trivial⟩, (hm.pick [0] rfl)⟩)
  · rintro t67 a w ⟨hE, hm⟩ h
    refine nx_of hE hm h ?_
    clear hE hm h
    refine c_cond rfl ?_ ?_
    · refine c_seq ?_
      refine c_region ?_
      refine o_mv st rfl rfl ?_
      refine o_mv st rfl rfl ?_
      refine o_mv st rfl rfl ?_
      refine o_idx st 0 rfl (reads_snap hv1) rfl rfl rfl el62 ?_; intro e69 h70
      refine o_fadS st 0 rfl (reads_snap hv1) h70 rfl rfl fld91_1 rfl ?_
      refine o_lds st (enc := encGShift) (u := (.int .i64 e69.xBy)) 0 rfl (reads_snap hv1) flelGShift rfl h70 rfl rfl ty3 rfl ?_
      refine o_add st rfl rfl rfl ?_; intro t71
      refine o_as st rfl rfl ?_
      refine c_nil ?_
      refine l_then ?_
      refine c_ret ?_
      refine l_ret ?_
      exact l_end1 Tryd.results36 t71 () (rv_t rfl) (fun _ _ => NewCh.nil _ _ _ _)
    · refine c_skip ?_
      refine l_then ?_
      refine c_seq ?_
      refine c_region ?_
      refine o_mv st rfl rfl ?_
      refine o_as st rfl rfl ?_
      refine c_nil ?_
      refine l_then ?_
      refine c_ret ?_
      exact l_end1 Tryd.results36 address_1 () (rv_t rfl) (fun _ _ => NewCh.nil _ _ _ _)

set_option maxRecDepth 100000 in
set_option maxHeartbeats 8000000 in
theorem w_impl_moverOf__impl_Rewrite_inward {w0 : World} {F : Nat → Prop} {v1 : Value} {list_0 : (List GRewrite)} {κ : (List GShift) → Prop} (hF : ∀ b, F b → b < w0.heap.size ∧ ¬ feet [] b) (hv1 : Sl elGRewrite F w0 v1 list_0) (h : L_impl_moverOf__impl_Rewrite_inward list_0 κ) :
    Calls Tryd.prog 34 #[v1, (.func (.func 35) #[] #[])] w0 (Ret [] F w0 κ (fun (r : (List GShift)) (u : Value) => u) (fun (r : (List GShift)) (u : Value) => [ownCh elGShift 91 u r])) := by
  refine enterS (args := [v1, (.func (.func 35) #[] #[])]) [] hF (Given.nil _ _) Tryd.func34 rfl Tryd.ntmps34 rfl h ?_
  clear h hF
  refine c_seq ?_
  refine c_region ?_
  refine stw (o_asn elGShift 91 rfl rfl ?_)
  refine c_nil ?_
  refine l_then ?_
  refine c_seq ?_
  refine c_region ?_
  refine o_mv st rfl rfl ?_
  refine o_len st el28 1 rfl (reads_snap hv1) rfl rfl ?_
  refine stw (o_make (z := (GShift.mk (GSpan.mk 0 0) 0)) flelGShift rfl rfl rfl el62 rfl zero91 rfl rfl ?_); intro v4 xs5
  refine o_as st rfl rfl ?_
  refine c_nil ?_
  refine l_then ?_
  refine c_seq ?_
  refine c_seq ?_
  refine c_region ?_
  refine o_mv st rfl rfl ?_
  refine o_len st el28 2 rfl (reads_snap hv1) rfl rfl ?_
  refine o_mv st rfl rfl ?_
  refine c_nil ?_
  refine l_then ?_
  refine c_block ?_
  refine c_loop (σ := ((List GShift) × Int)) (fun ((xs8, t11) : ((List GShift) × Int)) (a : Act) (w : World) => ∃ (v7 : Value), Has 27 [(1, (.func (.func 35) #[] #[])), (5, v7), (11, v1), (12, (.int .i64 (list_0.length : Int))), (13, (.int .i64 t11))] a ∧ Mem (gB F [] w0) (feet []) w0 [snapCh w0 F, ownCh elGShift 91 v7 xs8] w) (fun a w hE hm => ⟨v4, hE.sub ⟨rfl, rfl, rfl, rfl, rfl, trivial⟩, (hm.pick [2, 0] rfl)⟩) ?_
  rintro nx12 ⟨xs8, t11⟩ a w ⟨v7, hE, hm⟩ h
  refine nx_of hE hm h ?_
  clear hE hm h
  refine c_seq ?_
  refine c_region ?_
  refine o_lss st rfl rfl rfl ?_
  refine c_nil ?_
  refine l_then ?_
  refine c_seq ?_
  refine c_cond rfl ?_ ?_
  · refine c_skip ?_
    refine l_then ?_
    refine c_seq ?_
    refine c_block ?_
    refine c_seq ?_
    refine c_region ?_
    refine o_idx st 0 rfl (reads_snap hv1) rfl rfl rfl el28 ?_; intro e13 h14
    refine o_lds st (enc := encGRewrite) (u := (.agg #[(.int .i64 e13.xInside.xBase), (.int .i64 e13.xInside.xLength), (.int .i64 e13.xOutside.xBase), (.int .i64 e13.xOutside.xLength)])) 0 rfl (reads_snap hv1) flelGRewrite rfl h14 rfl rfl ty38 rfl ?_
    refine stw (o_alloc rfl [(.int .i64 0), (.int .i64 0), (.int .i64 0), (.int .i64 0)] zero38 ?_); intro b15
    refine stw (o_stc (cs' := [(.int .i64 e13.xInside.xBase), (.int .i64 e13.xInside.xLength), (.int .i64 e13.xOutside.xBase), (.int .i64 e13.xOutside.xLength)]) 0 rfl rfl rfl ty38 rfl rfl rfl rfl ?_)
    refine c_nil ?_
    refine l_then ?_
    refine c_region ?_
    refine o_mv st rfl rfl ?_
    refine o_mv st rfl rfl ?_
    refine o_ldc st (v := (.agg #[(.int .i64 e13.xInside.xBase), (.int .i64 e13.xInside.xLength), (.int .i64 e13.xOutside.xBase), (.int .i64 e13.xOutside.xLength)])) 0 rfl rfl rfl ty38 rfl ?_
    refine stw (o_callXP rfl (runs_val rfl rfl Tryd.call35) rfl (by intro w m h; exact (w_impl_Rewrite_inward (F := allB [] w) (r_0 := e13) allB_ok h).mono (fun _ _ k => ret_free (fun r u => fr_nil) k)) ?_); rintro r17 _
    refine stw (o_bsl (enc := encGShift) (qs := [(0, (.agg #[(.int .i64 r17.xWhere.xLo), (.int .i64 r17.xWhere.xHi), (.int .i64 r17.xBy)]))]) (cells := [(.int .i64 r17.xWhere.xLo), (.int .i64 r17.xWhere.xHi), (.int .i64 r17.xBy)]) ([r17]) flelGShift (by intro ρ h; simp only [List.map_toArray, List.map_cons, List.map_nil, h (.tmp 20) _ rfl]) rfl el62 zero91 rfl rfl rfl rfl rfl rfl ?_); intro v18
    refine stw (o_app 3 0 rfl rfl (src_flat flelGShift reads_own) rfl rfl rfl el62 rfl zero91 rfl rfl ?_); intro v20
    refine o_as st rfl rfl ?_
    refine c_nil ?_
    refine b_norm ?_
    refine l_then ?_
    refine c_region ?_
    refine o_add st rfl rfl rfl ?_; intro t22
    refine o_mv st rfl rfl ?_
    refine c_nil ?_
    exact l_join ((xs8 ++ ([r17])), t22) (fun a w hE hm => ⟨v20, hE.sub ⟨rfl, rfl, rfl, rfl, rfl, trivial⟩, (hm.pick [2, 3] rfl)⟩)
  · refine c_exit ?_
    refine l_exit ?_
    refine l_exit ?_
    refine b_exit ?_
    refine l_then ?_
    refine c_seq ?_
    refine c_region ?_
    refine o_mv st rfl rfl ?_
    refine pk [1, 0] rfl ?_
    refine stw (o_call (vs := [v7, (.func (.func 57) #[] #[])]) (M0 := [ownCh elGShift 91 v7 xs8]) Tryd.call56 rfl rfl (by intro w m h; exact (w_srt_GShift (F := allB [ownCh elGShift 91 v7 xs8] w) (xs := xs8) allB_ok m.given h).mono (fun _ _ k => ret_free (fun r u => (fr_cons (free_own flelGShift) fr_nil)) k)) ?_); rintro r23 _
    refine c_nil ?_
    refine l_then ?_
    refine c_seq ?_
    refine c_region ?_
    refine o_mv st rfl rfl ?_
    refine o_as st rfl rfl ?_
    refine c_nil ?_
    refine l_then ?_
    refine c_ret ?_
    exact l_end1 Tryd.results34 r23 v7 (rv_t rfl) (fun w m => NewCh.ofB m [0] rfl)

set_option maxRecDepth 100000 in
set_option maxHeartbeats 8000000 in
theorem w_impl_RewriteIn {w0 : World} {F : Nat → Prop} {v1 : Value} {list_0 : (List GRewrite)} {p_1 : GPacket} {κ : GPacket → Prop} (hF : ∀ b, F b → b < w0.heap.size ∧ ¬ feet [] b) (hv1 : Sl elGRewrite F w0 v1 list_0) (hgl0 : Sl elGFieldShape F w0 (.slice (some ⟨0, 0, none⟩) 4 4) gl_impl_fieldShapes) (h : L_impl_RewriteIn list_0 p_1 κ) :
    Calls Tryd.prog 12 #[v1, (.agg #[(.int .i64 p_1.xFrom), (.int .i64 p_1.xTo), (.int .i64 p_1.xPort), (.int .i64 p_1.xProto)])] w0 (Ret [] F w0 κ (fun (r : GPacket) (u : Unit) => (.agg #[(.int .i64 r.xFrom), (.int .i64 r.xTo), (.int .i64 r.xPort), (.int .i64 r.xProto)])) (fun (r : GPacket) (u : Unit) => [])) := by
  refine enterS (args := [v1, (.agg #[(.int .i64 p_1.xFrom), (.int .i64 p_1.xTo), (.int .i64 p_1.xPort), (.int .i64 p_1.xProto)])]) [] hF (Given.nil _ _) Tryd.func12 rfl Tryd.ntmps12 rfl h ?_
  clear h hF
  refine c_seq ?_
  refine c_region ?_
  refine stw (o_box rfl rfl [(.int .i64 p_1.xFrom), (.int .i64 p_1.xTo), (.int .i64 p_1.xPort), (.int .i64 p_1.xProto)] rfl ?_); intro b3
  refine stw (o_alloc rfl [(.int .i64 0), (.int .i64 0), (.int .i64 0), (.int .i64 0)] zero26 ?_); intro b5
  refine c_nil ?_
  refine l_then ?_
  refine c_seq ?_
  refine c_join (σ := Bool) (fun (t69 : Bool) (a : Act) (w : World) => Has 21 [(0, v1), (3, (.pointer (some ⟨b3, 0, none⟩))), (4, (.pointer (some ⟨b5, 0, none⟩))), (12, (.bool t69))] a ∧ Mem (gB F [] w0) (feet []) w0 [cellCh b5 [(.int .i64 0), (.int .i64 0), (.int .i64 0), (.int .i64 0)] 26, cellCh b3 [(.int .i64 p_1.xFrom), (.int .i64 p_1.xTo), (.int .i64 p_1.xPort), (.int .i64 p_1.xProto)] 26, snapCh w0 F] w) ?_ ?_
  · intro k70
    refine c_region ?_
    refine o_mv st rfl rfl ?_
    refine stw (o_callP (vs := [v1]) Tryd.call22 rfl rfl (by intro w m h; exact (w_impl_RewritesValid (F := allB [] w) (list_0 := list_0) allB_ok (m.rd0 2 rfl (reads_snap hv1)) h).mono (fun _ _ k => ret_free (fun r u => fr_nil) k)) ?_); rintro r7 _
    refine o_not st rfl rfl ?_
    refine o_mv st rfl rfl ?_
    refine st_sp (dj := 8) rfl ?_ ?_
    · refine st_s rfl rfl rfl rfl ?_
      refine st_s rfl rfl rfl rfl ?_
      refine st_s rfl rfl rfl rfl ?_
      refine o_pickT st rfl rfl rfl ?_
      refine c_nil ?_
      exact l_join true (fun a w hE hm => ⟨hE.sub ⟨rfl, rfl, rfl, rfl, trivial⟩, (hm.pick [0, 1, 2] rfl)⟩)
    · refine o_ldc (st_g rfl rfl) (v := (.agg #[(.int .i64 p_1.xFrom), (.int .i64 p_1.xTo), (.int .i64 p_1.xPort), (.int .i64 p_1.xProto)])) 1 rfl rfl rfl ty26 rfl ?_
      refine st_gw rfl rfl (o_callP (vs := [(.agg #[(.int .i64 p_1.xFrom), (.int .i64 p_1.xTo), (.int .i64 p_1.xPort), (.int .i64 p_1.xProto)])]) Tryd.call33 rfl rfl (by intro w m h; exact (w_impl_PacketValid (F := allB [] w) (p_0 := p_1) allB_ok (m.rd0 2 rfl (reads_snap hgl0)) h).mono (fun _ _ k => ret_free (fun r u => fr_nil) k)) ?_); rintro r8 _
      refine o_not (st_g rfl rfl) rfl rfl ?_
      refine o_pickF st rfl rfl rfl ?_
      refine c_nil ?_
      exact l_join (!r8) (fun a w hE hm => ⟨hE.sub ⟨rfl, rfl, rfl, rfl, trivial⟩, (hm.pick [0, 1, 2] rfl)⟩)
  · rintro t69 a w ⟨hE, hm⟩ h
    refine nx_of hE hm h ?_
    clear hE hm h
    refine c_cond rfl ?_ ?_
    · refine c_seq ?_
      refine c_region ?_
      refine o_bld st (qs := []) (cells := [(.int .i64 0), (.int .i64 0), (.int .i64 0), (.int .i64 0)]) (by intro ρ h; simp only [List.map_toArray, List.map_cons, List.map_nil]) rfl bld26 rfl ?_
      refine stw (o_stc (cs' := [(.int .i64 0), (.int .i64 0), (.int .i64 0), (.int .i64 0)]) 0 rfl rfl rfl ty26 rfl rfl rfl rfl ?_)
      refine c_nil ?_
      refine l_then ?_
      refine c_ret ?_
      refine l_ret ?_
      exact l_end1 Tryd.results12 (GPacket.mk 0 0 0 0) () (rv_c 0 rfl rfl ty26 rfl) (fun _ _ => NewCh.nil _ _ _ _)
    · refine c_skip ?_
      refine l_then ?_
      refine c_join (σ := Int) (fun (t71 : Int) (a : Act) (w : World) => Has 21 [(3, (.pointer (some ⟨b3, 0, none⟩))), (4, (.pointer (some ⟨b5, 0, none⟩)))] a ∧ Mem (gB F [] w0) (feet []) w0 [cellCh b5 [(.int .i64 0), (.int .i64 0), (.int .i64 0), (.int .i64 0)] 26, cellCh b3 [(.int .i64 p_1.xFrom), (.int .i64 t71), (.int .i64 p_1.xPort), (.int .i64 p_1.xProto)] 26, snapCh w0 F] w) ?_ ?_
      · intro k72
        refine c_drawQ mixed 7 rfl [cellCh b5 [(.int .i64 0), (.int .i64 0), (.int .i64 0), (.int .i64 0)] 26, snapCh w0 F] ?_
        intro Qd hP hQ
        have H2 : ∀ (r73 : (List GShift)) (v74 : Value) (r75 : Int), Nx 21 (gB F [] w0) (feet []) w0 (wpAnyH Tryd.prog .any (opsAt Tryd.f12 [1, 1, 0]) Qd (Mem (gB F [] w0) (feet []) w0 [cellCh b5 [(.int .i64 0), (.int .i64 0), (.int .i64 0), (.int .i64 0)] 26, snapCh w0 F]) 0 #[true, true, true, true, true, true, true]) [(3, (.pointer (some ⟨b3, 0, none⟩))), (4, (.pointer (some ⟨b5, 0, none⟩)))] [cellCh b5 [(.int .i64 0), (.int .i64 0), (.int .i64 0), (.int .i64 0)] 26, cellCh b3 [(.int .i64 p_1.xFrom), (.int .i64 r75), (.int .i64 p_1.xPort), (.int .i64 p_1.xProto)] 26, snapCh w0 F] (k72 r75) := by
          intro r73 v74 r75
          refine d_done (by kernel_rfl) ?_
          exact fun a w hE hm hφ => hQ r75 a w hφ ((fun a w hE hm => ⟨hE.sub ⟨rfl, rfl, trivial⟩, (hm.pick [0, 1, 2] rfl)⟩) a w hE hm)
        have H3 : ∀ (r73 : (List GShift)) (v74 : Value) (r75 : Int), Nx 21 (gB F [] w0) (feet []) w0 (wpAnyH Tryd.prog .any (opsAt Tryd.f12 [1, 1, 0]) Qd (Mem (gB F [] w0) (feet []) w0 [cellCh b5 [(.int .i64 0), (.int .i64 0), (.int .i64 0), (.int .i64 0)] 26, snapCh w0 F]) 2 #[true, true, true, true, true, false, false]) [(3, (.pointer (some ⟨b3, 0, none⟩))), (4, (.pointer (some ⟨b5, 0, none⟩))), (18, (.int .i64 r75))] [cellCh b5 [(.int .i64 0), (.int .i64 0), (.int .i64 0), (.int .i64 0)] 26, cellCh b3 [(.int .i64 p_1.xFrom), (.int .i64 p_1.xTo), (.int .i64 p_1.xPort), (.int .i64 p_1.xProto)] 26, snapCh w0 F] (k72 r75) := by
          intro r73 v74 r75
          refine o_fad (dt 5 (fun w m => m.pick [0, 2] rfl)) rfl rfl fld26_1 rfl ?_
          refine d_one (i := 6) rfl (by kernel_rfl) (o_stc (cs' := [(.int .i64 p_1.xFrom), (.int .i64 r75), (.int .i64 p_1.xPort), (.int .i64 p_1.xProto)]) 1 rfl rfl rfl ty3 rfl rfl rfl rfl ?_)
          refine d_and (fun w m => m.pick [0, 2] rfl) ?_
          refine pk [0, 1, 2] rfl ?_
          refine re (E' := [(3, (.pointer (some ⟨b3, 0, none⟩))), (4, (.pointer (some ⟨b5, 0, none⟩)))]) ⟨rfl, rfl, trivial⟩ ?_
          exact H2 r73 v74 r75
        have H4 : ∀ (r73 : (List GShift)) (v74 : Value), Nx 21 (gB F [] w0) (feet []) w0 (wpAnyH Tryd.prog .any (opsAt Tryd.f12 [1, 1, 0]) Qd (Mem (gB F [] w0) (feet []) w0 [cellCh b5 [(.int .i64 0), (.int .i64 0), (.int .i64 0), (.int .i64 0)] 26, snapCh w0 F]) 3 #[true, true, true, true, false, false, false]) [(3, (.pointer (some ⟨b3, 0, none⟩))), (4, (.pointer (some ⟨b5, 0, none⟩))), (15, v74), (17, (.int .i64 p_1.xTo))] [ownCh elGShift 91 v74 r73, cellCh b5 [(.int .i64 0), (.int .i64 0), (.int .i64 0), (.int .i64 0)] 26, cellCh b3 [(.int .i64 p_1.xFrom), (.int .i64 p_1.xTo), (.int .i64 p_1.xPort), (.int .i64 p_1.xProto)] 26, snapCh w0 F] (L_impl_mover_move r73 p_1.xTo (fun r75 => k72 r75)) := by
          intro r73 v74
          refine d_one (i := 4) rfl (by kernel_rfl) (o_callP (vs := [v74, (.int .i64 p_1.xTo)]) Tryd.call36 rfl rfl (by intro w m h; exact (w_impl_mover_move (F := allB [] w) (m_0 := r73) (address_1 := p_1.xTo) allB_ok (m.rd0 0 rfl reads_own) h).mono (fun _ _ k => ret_free (fun r u => fr_nil) k)) ?_); rintro r75 _
          refine d_and (fun w m => m.pick [1, 3] rfl) ?_
          refine pk [1, 2, 3] rfl ?_
          refine re (E' := [(3, (.pointer (some ⟨b3, 0, none⟩))), (4, (.pointer (some ⟨b5, 0, none⟩))), (18, (.int .i64 r75))]) ⟨rfl, rfl, rfl, trivial⟩ ?_
          exact H3 r73 v74 r75
        have H5 : ∀ (r73 : (List GShift)) (v74 : Value), Nx 21 (gB F [] w0) (feet []) w0 (wpAnyH Tryd.prog .any (opsAt Tryd.f12 [1, 1, 0]) Qd (Mem (gB F [] w0) (feet []) w0 [cellCh b5 [(.int .i64 0), (.int .i64 0), (.int .i64 0), (.int .i64 0)] 26, snapCh w0 F]) 4 #[true, true, true, false, false, false, false]) [(3, (.pointer (some ⟨b3, 0, none⟩))), (4, (.pointer (some ⟨b5, 0, none⟩))), (16, (.pointer (some ⟨b3, 1, none⟩))), (15, v74)] [ownCh elGShift 91 v74 r73, cellCh b5 [(.int .i64 0), (.int .i64 0), (.int .i64 0), (.int .i64 0)] 26, cellCh b3 [(.int .i64 p_1.xFrom), (.int .i64 p_1.xTo), (.int .i64 p_1.xPort), (.int .i64 p_1.xProto)] 26, snapCh w0 F] (L_impl_mover_move r73 p_1.xTo (fun r75 => k72 r75)) := by
          intro r73 v74
          refine d_one (i := 3) rfl (by kernel_rfl) (o_ldc m_op (v := (.int .i64 p_1.xTo)) 2 rfl rfl rfl ty3 rfl ?_)
          refine d_and (fun w m => m.pick [1, 3] rfl) ?_
          refine pk [0, 1, 2, 3] rfl ?_
          refine re (E' := [(3, (.pointer (some ⟨b3, 0, none⟩))), (4, (.pointer (some ⟨b5, 0, none⟩))), (15, v74), (17, (.int .i64 p_1.xTo))]) ⟨rfl, rfl, rfl, rfl, trivial⟩ ?_
          exact H4 r73 v74
        have H6 : ∀ (_ : Unit), Nx 21 (gB F [] w0) (feet []) w0 (wpAnyH Tryd.prog .any (opsAt Tryd.f12 [1, 1, 0]) Qd (Mem (gB F [] w0) (feet []) w0 [cellCh b5 [(.int .i64 0), (.int .i64 0), (.int .i64 0), (.int .i64 0)] 26, snapCh w0 F]) 4 #[true, false, true, true, false, false, false]) [(3, (.pointer (some ⟨b3, 0, none⟩))), (4, (.pointer (some ⟨b5, 0, none⟩))), (14, v1), (17, (.int .i64 p_1.xTo))] [cellCh b5 [(.int .i64 0), (.int .i64 0), (.int .i64 0), (.int .i64 0)] 26, cellCh b3 [(.int .i64 p_1.xFrom), (.int .i64 p_1.xTo), (.int .i64 p_1.xPort), (.int .i64 p_1.xProto)] 26, snapCh w0 F] (L_impl_moverOf__impl_Rewrite_inward list_0 (fun r76 => L_impl_mover_move r76 p_1.xTo (fun r75 => k72 r75))) := by
          intro _
          refine d_one (i := 1) rfl (by kernel_rfl) (o_callP (vs := [v1, (.func (.func 35) #[] #[])]) Tryd.call34 rfl rfl (by intro w m h; exact (w_impl_moverOf__impl_Rewrite_inward (F := allB [] w) (list_0 := list_0) allB_ok (m.rd0 2 rfl (reads_snap hv1)) h).mono (fun _ _ k => ret_free (fun r u => (fr_cons (free_own flelGShift) fr_nil)) k)) ?_); rintro r76 v77
          refine d_and (fun w m => m.pick [1, 3] rfl) ?_
          refine pk [0, 1, 2, 3] rfl ?_
          refine re (E' := [(3, (.pointer (some ⟨b3, 0, none⟩))), (4, (.pointer (some ⟨b5, 0, none⟩))), (15, v77), (17, (.int .i64 p_1.xTo))]) ⟨rfl, rfl, rfl, rfl, trivial⟩ ?_
          exact H4 r76 v77
        refine o_mv (dt 0 (fun w m => m.pick [0, 2] rfl)) rfl rfl ?_
        refine o_fad (dt 2 (fun w m => m.pick [0, 2] rfl)) rfl rfl fld26_1 rfl ?_
        refine d_two (i := 1) (j := 3) rfl rfl (by kernel_rfl) ?_ ?_
        · intro o ho; cases ho
          refine o_callP (vs := [v1, (.func (.func 35) #[] #[])]) Tryd.call34 rfl rfl (by intro w m h; exact (w_impl_moverOf__impl_Rewrite_inward (F := allB [] w) (list_0 := list_0) allB_ok (m.rd0 2 rfl (reads_snap hv1)) h).mono (fun _ _ k => ret_free (fun r u => (fr_cons (free_own flelGShift) fr_nil)) k)) ?_; rintro r73 v74
          refine d_and (fun w m => m.pick [1, 3] rfl) ?_
          refine pk [0, 1, 2, 3] rfl ?_
          refine re (E' := [(3, (.pointer (some ⟨b3, 0, none⟩))), (4, (.pointer (some ⟨b5, 0, none⟩))), (16, (.pointer (some ⟨b3, 1, none⟩))), (15, v74)]) ⟨rfl, rfl, rfl, rfl, trivial⟩ ?_
          exact H5 r73 v74
        · intro o ho; cases ho
          refine o_ldc m_op (v := (.int .i64 p_1.xTo)) 1 rfl rfl rfl ty3 rfl ?_
          refine d_and (fun w m => m.pick [0, 2] rfl) ?_
          refine pk [0, 1, 2] rfl ?_
          refine re (E' := [(3, (.pointer (some ⟨b3, 0, none⟩))), (4, (.pointer (some ⟨b5, 0, none⟩))), (14, v1), (17, (.int .i64 p_1.xTo))]) ⟨rfl, rfl, rfl, rfl, trivial⟩ ?_
          exact H6 ()
      · rintro t71 a w ⟨hE, hm⟩ h
        refine nx_of hE hm h ?_
        clear hE hm h
        refine c_seq ?_
        refine c_region ?_
        refine o_ldc st (v := (.agg #[(.int .i64 p_1.xFrom), (.int .i64 t71), (.int .i64 p_1.xPort), (.int .i64 p_1.xProto)])) 1 rfl rfl rfl ty26 rfl ?_
        refine stw (o_stc (cs' := [(.int .i64 p_1.xFrom), (.int .i64 t71), (.int .i64 p_1.xPort), (.int .i64 p_1.xProto)]) 0 rfl rfl rfl ty26 rfl rfl rfl rfl ?_)
        refine c_nil ?_
        refine l_then ?_
        refine c_ret ?_
        exact l_end1 Tryd.results12 (GPacket.mk p_1.xFrom t71 p_1.xPort p_1.xProto) () (rv_c 0 rfl rfl ty26 rfl) (fun _ _ => NewCh.nil _ _ _ _)

set_option maxRecDepth 100000 in
set_option maxHeartbeats 8000000 in
theorem w_impl_Rewrite_outward {w0 : World} {F : Nat → Prop} {r_0 : GRewrite} {κ : GShift → Prop} (hF : ∀ b, F b → b < w0.heap.size ∧ ¬ feet [] b) (h : L_impl_Rewrite_outward r_0 κ) :
    Calls Tryd.prog 38 #[(.agg #[(.int .i64 r_0.xInside.xBase), (.int .i64 r_0.xInside.xLength), (.int .i64 r_0.xOutside.xBase), (.int .i64 r_0.xOutside.xLength)])] w0 (Ret [] F w0 κ (fun (r : GShift) (u : Unit) => (.agg #[(.int .i64 r.xWhere.xLo), (.int .i64 r.xWhere.xHi), (.int .i64 r.xBy)])) (fun (r : GShift) (u : Unit) => [])) := by
  refine enter0 (args := [(.agg #[(.int .i64 r_0.xInside.xBase), (.int .i64 r_0.xInside.xLength), (.int .i64 r_0.xOutside.xBase), (.int .i64 r_0.xOutside.xLength)])]) [] hF (Given.nil _ _) Tryd.func38 rfl Tryd.ntmps38 rfl h ?_
  clear h hF
  refine c_seq ?_
  refine c_region ?_
  refine stw (o_box rfl rfl [(.int .i64 r_0.xInside.xBase), (.int .i64 r_0.xInside.xLength), (.int .i64 r_0.xOutside.xBase), (.int .i64 r_0.xOutside.xLength)] rfl ?_); intro b1
  refine stw (o_alloc rfl [(.int .i64 0), (.int .i64 0), (.int .i64 0)] zero91 ?_); intro b3
  refine c_nil ?_
  refine l_then ?_
  refine c_seq ?_
  refine c_region ?_
  refine o_fad st rfl rfl fld38_0 rfl ?_
  refine o_ldc st (v := (.agg #[(.int .i64 r_0.xInside.xBase), (.int .i64 r_0.xInside.xLength)])) 1 rfl rfl rfl ty36 rfl ?_
  refine o_fad st rfl rfl fld38_1 rfl ?_
  refine o_ldc st (v := (.agg #[(.int .i64 r_0.xOutside.xBase), (.int .i64 r_0.xOutside.xLength)])) 1 rfl rfl rfl ty36 rfl ?_
  refine stw (o_callP (vs := [(.agg #[(.int .i64 r_0.xInside.xBase), (.int .i64 r_0.xInside.xLength)]), (.agg #[(.int .i64 r_0.xOutside.xBase), (.int .i64 r_0.xOutside.xLength)])]) Tryd.call58 rfl rfl (by intro w m h; exact (w_impl_shiftTo (F := allB [] w) (from_0 := r_0.xInside) (to_1 := r_0.xOutside) allB_ok h).mono (fun _ _ k => ret_free (fun r u => fr_nil) k)) ?_); rintro r5 _
  refine stw (o_stc (cs' := [(.int .i64 r5.xWhere.xLo), (.int .i64 r5.xWhere.xHi), (.int .i64 r5.xBy)]) 0 rfl rfl rfl ty91 rfl rfl rfl rfl ?_)
  refine c_nil ?_
  refine l_then ?_
  refine c_ret ?_
  exact l_end1 Tryd.results38 r5 () (rv_c 0 rfl rfl ty91 rfl) (fun _ _ => NewCh.nil _ _ _ _)



end
section
open Go.RowKit
set_option maxRecDepth 100000 in
set_option maxHeartbeats 8000000 in
theorem w_impl_moverOf__impl_Rewrite_outward {w0 : World} {F : Nat → Prop} {v1 : Value} {list_0 : (List GRewrite)} {κ : (List GShift) → Prop} (hF : ∀ b, F b → b < w0.heap.size ∧ ¬ feet [] b) (hv1 : Sl elGRewrite F w0 v1 list_0) (h : L_impl_moverOf__impl_Rewrite_outward list_0 κ) :
    Calls Tryd.prog 34 #[v1, (.func (.func 38) #[] #[])] w0 (Ret [] F w0 κ (fun (r : (List GShift)) (u : Value) => u) (fun (r : (List GShift)) (u : Value) => [ownCh elGShift 91 u r])) := by
  refine enterS (args := [v1, (.func (.func 38) #[] #[])]) [] hF (Given.nil _ _) Tryd.func34 rfl Tryd.ntmps34 rfl h ?_
  clear h hF
  refine c_seq ?_
  refine c_region ?_
  refine stw (o_asn elGShift 91 rfl rfl ?_)
  refine c_nil ?_
  refine l_then ?_
  refine c_seq ?_
  refine c_region ?_
  refine o_mv st rfl rfl ?_
  refine o_len st el28 1 rfl (reads_snap hv1) rfl rfl ?_
  refine stw (o_make (z := (GShift.mk (GSpan.mk 0 0) 0)) flelGShift rfl rfl rfl el62 rfl zero91 rfl rfl ?_); intro v4 xs5
  refine o_as st rfl rfl ?_
  refine c_nil ?_
  refine l_then ?_
  refine c_seq ?_
  refine c_seq ?_
  refine c_region ?_
  refine o_mv st rfl rfl ?_
  refine o_len st el28 2 rfl (reads_snap hv1) rfl rfl ?_
  refine o_mv st rfl rfl ?_
  refine c_nil ?_
  refine l_then ?_
  refine c_block ?_
  refine c_loop (σ := ((List GShift) × Int)) (fun ((xs8, t11) : ((List GShift) × Int)) (a : Act) (w : World) => ∃ (v7 : Value), Has 27 [(1, (.func (.func 38) #[] #[])), (5, v7), (11, v1), (12, (.int .i64 (list_0.length : Int))), (13, (.int .i64 t11))] a ∧ Mem (gB F [] w0) (feet []) w0 [snapCh w0 F, ownCh elGShift 91 v7 xs8] w) (fun a w hE hm => ⟨v4, hE.sub ⟨rfl, rfl, rfl, rfl, rfl, trivial⟩, (hm.pick [2, 0] rfl)⟩) ?_
  rintro nx12 ⟨xs8, t11⟩ a w ⟨v7, hE, hm⟩ h
  refine nx_of hE hm h ?_
  clear hE hm h
  refine c_seq ?_
  refine c_region ?_
  refine o_lss st rfl rfl rfl ?_
  refine c_nil ?_
  refine l_then ?_
  refine c_seq ?_
  refine c_cond rfl ?_ ?_
  · refine c_skip ?_
    refine l_then ?_
    refine c_seq ?_
    refine c_block ?_
    refine c_seq ?_
    refine c_region ?_
    refine o_idx st 0 rfl (reads_snap hv1) rfl rfl rfl el28 ?_; intro e13 h14
    refine o_lds st (enc := encGRewrite) (u := (.agg #[(.int .i64 e13.xInside.xBase), (.int .i64 e13.xInside.xLength), (.int .i64 e13.xOutside.xBase), (.int .i64 e13.xOutside.xLength)])) 0 rfl (reads_snap hv1) flelGRewrite rfl h14 rfl rfl ty38 rfl ?_
    refine stw (o_alloc rfl [(.int .i64 0), (.int .i64 0), (.int .i64 0), (.int .i64 0)] zero38 ?_); intro b15
    refine stw (o_stc (cs' := [(.int .i64 e13.xInside.xBase), (.int .i64 e13.xInside.xLength), (.int .i64 e13.xOutside.xBase), (.int .i64 e13.xOutside.xLength)]) 0 rfl rfl rfl ty38 rfl rfl rfl rfl ?_)
    refine c_nil ?_
    refine l_then ?_
    refine c_region ?_
    refine o_mv st rfl rfl ?_
    refine o_mv st rfl rfl ?_
    refine o_ldc st (v := (.agg #[(.int .i64 e13.xInside.xBase), (.int .i64 e13.xInside.xLength), (.int .i64 e13.xOutside.xBase), (.int .i64 e13.xOutside.xLength)])) 0 rfl rfl rfl ty38 rfl ?_
    refine stw (o_callXP rfl (runs_val rfl rfl Tryd.call38) rfl (by intro w m h; exact (w_impl_Rewrite_outward (F := allB [] w) (r_0 := e13) allB_ok h).mono (fun _ _ k => ret_free (fun r u => fr_nil) k)) ?_); rintro r17 _
    refine stw (o_bsl (enc := encGShift) (qs := [(0, (.agg #[(.int .i64 r17.xWhere.xLo), (.int .i64 r17.xWhere.xHi), (.int .i64 r17.xBy)]))]) (cells := [(.int .i64 r17.xWhere.xLo), (.int .i64 r17.xWhere.xHi), (.int .i64 r17.xBy)]) ([r17]) flelGShift (by intro ρ h; simp only [List.map_toArray, List.map_cons, List.map_nil, h (.tmp 20) _ rfl]) rfl el62 zero91 rfl rfl rfl rfl rfl rfl ?_); intro v18
    refine stw (o_app 3 0 rfl rfl (src_flat flelGShift reads_own) rfl rfl rfl el62 rfl zero91 rfl rfl ?_); intro v20
    refine o_as st rfl rfl ?_
    refine c_nil ?_
    refine b_norm ?_
    refine l_then ?_
    refine c_region ?_
    refine o_add st rfl rfl rfl ?_; intro t22
    refine o_mv st rfl rfl ?_
    refine c_nil ?_
    exact l_join ((xs8 ++ ([r17])), t22) (fun a w hE hm => ⟨v20, hE.sub ⟨rfl, rfl, rfl, rfl, rfl, trivial⟩, (hm.pick [2, 3] rfl)⟩)
  · refine c_exit ?_
    refine l_exit ?_
    refine l_exit ?_
    refine b_exit ?_
    refine l_then ?_
    refine c_seq ?_
    refine c_region ?_
    refine o_mv st rfl rfl ?_
    refine pk [1, 0] rfl ?_
    refine stw (o_call (vs := [v7, (.func (.func 57) #[] #[])]) (M0 := [ownCh elGShift 91 v7 xs8]) Tryd.call56 rfl rfl (by intro w m h; exact (w_srt_GShift (F := allB [ownCh elGShift 91 v7 xs8] w) (xs := xs8) allB_ok m.given h).mono (fun _ _ k => ret_free (fun r u => (fr_cons (free_own flelGShift) fr_nil)) k)) ?_); rintro r23 _
    refine c_nil ?_
    refine l_then ?_
    refine c_seq ?_
    refine c_region ?_
    refine o_mv st rfl rfl ?_
    refine o_as st rfl rfl ?_
    refine c_nil ?_
    refine l_then ?_
    refine c_ret ?_
    exact l_end1 Tryd.results34 r23 v7 (rv_t rfl) (fun w m => NewCh.ofB m [0] rfl)

set_option maxRecDepth 100000 in
set_option maxHeartbeats 8000000 in
theorem w_impl_RewriteOut {w0 : World} {F : Nat → Prop} {v1 : Value} {list_0 : (List GRewrite)} {p_1 : GPacket} {κ : GPacket → Prop} (hF : ∀ b, F b → b < w0.heap.size ∧ ¬ feet [] b) (hv1 : Sl elGRewrite F w0 v1 list_0) (hgl0 : Sl elGFieldShape F w0 (.slice (some ⟨0, 0, none⟩) 4 4) gl_impl_fieldShapes) (h : L_impl_RewriteOut list_0 p_1 κ) :
    Calls Tryd.prog 16 #[v1, (.agg #[(.int .i64 p_1.xFrom), (.int .i64 p_1.xTo), (.int .i64 p_1.xPort), (.int .i64 p_1.xProto)])] w0 (Ret [] F w0 κ (fun (r : GPacket) (u : Unit) => (.agg #[(.int .i64 r.xFrom), (.int .i64 r.xTo), (.int .i64 r.xPort), (.int .i64 r.xProto)])) (fun (r : GPacket) (u : Unit) => [])) := by
  refine enterS (args := [v1, (.agg #[(.int .i64 p_1.xFrom), (.int .i64 p_1.xTo), (.int .i64 p_1.xPort), (.int .i64 p_1.xProto)])]) [] hF (Given.nil _ _) Tryd.func16 rfl Tryd.ntmps16 rfl h ?_
  clear h hF
  refine c_seq ?_
  refine c_region ?_
  refine stw (o_box rfl rfl [(.int .i64 p_1.xFrom), (.int .i64 p_1.xTo), (.int .i64 p_1.xPort), (.int .i64 p_1.xProto)] rfl ?_); intro b3
  refine stw (o_alloc rfl [(.int .i64 0), (.int .i64 0), (.int .i64 0), (.int .i64 0)] zero26 ?_); intro b5
  refine c_nil ?_
  refine l_then ?_
  refine c_seq ?_
  refine c_join (σ := Bool) (fun (t69 : Bool) (a : Act) (w : World) => Has 21 [(0, v1), (3, (.pointer (some ⟨b3, 0, none⟩))), (4, (.pointer (some ⟨b5, 0, none⟩))), (12, (.bool t69))] a ∧ Mem (gB F [] w0) (feet []) w0 [cellCh b5 [(.int .i64 0), (.int .i64 0), (.int .i64 0), (.int .i64 0)] 26, cellCh b3 [(.int .i64 p_1.xFrom), (.int .i64 p_1.xTo), (.int .i64 p_1.xPort), (.int .i64 p_1.xProto)] 26, snapCh w0 F] w) ?_ ?_
  · intro k70
    refine c_region ?_
    refine o_mv st rfl rfl ?_
    refine stw (o_callP (vs := [v1]) Tryd.call22 rfl rfl (by intro w m h; exact (w_impl_RewritesValid (F := allB [] w) (list_0 := list_0) allB_ok (m.rd0 2 rfl (reads_snap hv1)) h).mono (fun _ _ k => ret_free (fun r u => fr_nil) k)) ?_); rintro r7 _
    refine o_not st rfl rfl ?_
    refine o_mv st rfl rfl ?_
    refine st_sp (dj := 8) rfl ?_ ?_
    · refine st_s rfl rfl rfl rfl ?_
      refine st_s rfl rfl rfl rfl ?_
      refine st_s rfl rfl rfl rfl ?_
      refine o_pickT st rfl rfl rfl ?_
      refine c_nil ?_
      exact l_join true (fun a w hE hm => ⟨hE.sub ⟨rfl, rfl, rfl, rfl, trivial⟩, (hm.pick [0, 1, 2] rfl)⟩)
    · refine o_ldc (st_g rfl rfl) (v := (.agg #[(.int .i64 p_1.xFrom), (.int .i64 p_1.xTo), (.int .i64 p_1.xPort), (.int .i64 p_1.xProto)])) 1 rfl rfl rfl ty26 rfl ?_
      refine st_gw rfl rfl (o_callP (vs := [(.agg #[(.int .i64 p_1.xFrom), (.int .i64 p_1.xTo), (.int .i64 p_1.xPort), (.int .i64 p_1.xProto)])]) Tryd.call33 rfl rfl (by intro w m h; exact (w_impl_PacketValid (F := allB [] w) (p_0 := p_1) allB_ok (m.rd0 2 rfl (reads_snap hgl0)) h).mono (fun _ _ k => ret_free (fun r u => fr_nil) k)) ?_); rintro r8 _
      refine o_not (st_g rfl rfl) rfl rfl ?_
      refine o_pickF st rfl rfl rfl ?_
      refine c_nil ?_
      exact l_join (!r8) (fun a w hE hm => ⟨hE.sub ⟨rfl, rfl, rfl, rfl, trivial⟩, (hm.pick [0, 1, 2] rfl)⟩)
  · rintro t69 a w ⟨hE, hm⟩ h
    refine nx_of hE hm h ?_
    clear hE hm h
    refine c_cond rfl ?_ ?_
    · refine c_seq ?_
      refine c_region ?_
      refine o_bld st (qs := []) (cells := [(.int .i64 0), (.int .i64 0), (.int .i64 0), (.int .i64 0)]) (by intro ρ h; simp only [List.map_toArray, List.map_cons, List.map_nil]) rfl bld26 rfl ?_
      refine stw (o_stc (cs' := [(.int .i64 0), (.int .i64 0), (.int .i64 0), (.int .i64 0)]) 0 rfl rfl rfl ty26 rfl rfl rfl rfl ?_)
      refine c_nil ?_
      refine l_then ?_
      refine c_ret ?_
      refine l_ret ?_
      exact l_end1 Tryd.results16 (GPacket.mk 0 0 0 0) () (rv_c 0 rfl rfl ty26 rfl) (fun _ _ => NewCh.nil _ _ _ _)
    · refine c_skip ?_
      refine l_then ?_
      refine c_join (σ := Int) (fun (t71 : Int) (a : Act) (w : World) => Has 21 [(3, (.pointer (some ⟨b3, 0, none⟩))), (4, (.pointer (some ⟨b5, 0, none⟩)))] a ∧ Mem (gB F [] w0) (feet []) w0 [cellCh b5 [(.int .i64 0), (.int .i64 0), (.int .i64 0), (.int .i64 0)] 26, cellCh b3 [(.int .i64 t71), (.int .i64 p_1.xTo), (.int .i64 p_1.xPort), (.int .i64 p_1.xProto)] 26, snapCh w0 F] w) ?_ ?_
      · intro k72
        refine c_drawQ mixed 7 rfl [cellCh b5 [(.int .i64 0), (.int .i64 0), (.int .i64 0), (.int .i64 0)] 26, snapCh w0 F] ?_
        intro Qd hP hQ
        have H17 : ∀ (r73 : (List GShift)) (v74 : Value) (r75 : Int), Nx 21 (gB F [] w0) (feet []) w0 (wpAnyH Tryd.prog .any (opsAt Tryd.f16 [1, 1, 0]) Qd (Mem (gB F [] w0) (feet []) w0 [cellCh b5 [(.int .i64 0), (.int .i64 0), (.int .i64 0), (.int .i64 0)] 26, snapCh w0 F]) 0 #[true, true, true, true, true, true, true]) [(3, (.pointer (some ⟨b3, 0, none⟩))), (4, (.pointer (some ⟨b5, 0, none⟩)))] [cellCh b5 [(.int .i64 0), (.int .i64 0), (.int .i64 0), (.int .i64 0)] 26, cellCh b3 [(.int .i64 r75), (.int .i64 p_1.xTo), (.int .i64 p_1.xPort), (.int .i64 p_1.xProto)] 26, snapCh w0 F] (k72 r75) := by
          intro r73 v74 r75
          refine d_done (by kernel_rfl) ?_
          exact fun a w hE hm hφ => hQ r75 a w hφ ((fun a w hE hm => ⟨hE.sub ⟨rfl, rfl, trivial⟩, (hm.pick [0, 1, 2] rfl)⟩) a w hE hm)
        have H18 : ∀ (r73 : (List GShift)) (v74 : Value) (r75 : Int), Nx 21 (gB F [] w0) (feet []) w0 (wpAnyH Tryd.prog .any (opsAt Tryd.f16 [1, 1, 0]) Qd (Mem (gB F [] w0) (feet []) w0 [cellCh b5 [(.int .i64 0), (.int .i64 0), (.int .i64 0), (.int .i64 0)] 26, snapCh w0 F]) 2 #[true, true, true, true, true, false, false]) [(3, (.pointer (some ⟨b3, 0, none⟩))), (4, (.pointer (some ⟨b5, 0, none⟩))), (18, (.int .i64 r75))] [cellCh b5 [(.int .i64 0), (.int .i64 0), (.int .i64 0), (.int .i64 0)] 26, cellCh b3 [(.int .i64 p_1.xFrom), (.int .i64 p_1.xTo), (.int .i64 p_1.xPort), (.int .i64 p_1.xProto)] 26, snapCh w0 F] (k72 r75) := by
          intro r73 v74 r75
          refine o_fad (dt 5 (fun w m => m.pick [0, 2] rfl)) rfl rfl fld26_0 rfl ?_
          refine d_one (i := 6) rfl (by kernel_rfl) (o_stc (cs' := [(.int .i64 r75), (.int .i64 p_1.xTo), (.int .i64 p_1.xPort), (.int .i64 p_1.xProto)]) 1 rfl rfl rfl ty3 rfl rfl rfl rfl ?_)
          refine d_and (fun w m => m.pick [0, 2] rfl) ?_
          refine pk [0, 1, 2] rfl ?_
          refine re (E' := [(3, (.pointer (some ⟨b3, 0, none⟩))), (4, (.pointer (some ⟨b5, 0, none⟩)))]) ⟨rfl, rfl, trivial⟩ ?_
          exact H17 r73 v74 r75
        have H19 : ∀ (r73 : (List GShift)) (v74 : Value), Nx 21 (gB F [] w0) (feet []) w0 (wpAnyH Tryd.prog .any (opsAt Tryd.f16 [1, 1, 0]) Qd (Mem (gB F [] w0) (feet []) w0 [cellCh b5 [(.int .i64 0), (.int .i64 0), (.int .i64 0), (.int .i64 0)] 26, snapCh w0 F]) 3 #[true, true, true, true, false, false, false]) [(3, (.pointer (some ⟨b3, 0, none⟩))), (4, (.pointer (some ⟨b5, 0, none⟩))), (15, v74), (17, (.int .i64 p_1.xFrom))] [ownCh elGShift 91 v74 r73, cellCh b5 [(.int .i64 0), (.int .i64 0), (.int .i64 0), (.int .i64 0)] 26, cellCh b3 [(.int .i64 p_1.xFrom), (.int .i64 p_1.xTo), (.int .i64 p_1.xPort), (.int .i64 p_1.xProto)] 26, snapCh w0 F] (L_impl_mover_move r73 p_1.xFrom (fun r75 => k72 r75)) := by
          intro r73 v74
          refine d_one (i := 4) rfl (by kernel_rfl) (o_callP (vs := [v74, (.int .i64 p_1.xFrom)]) Tryd.call36 rfl rfl (by intro w m h; exact (w_impl_mover_move (F := allB [] w) (m_0 := r73) (address_1 := p_1.xFrom) allB_ok (m.rd0 0 rfl reads_own) h).mono (fun _ _ k => ret_free (fun r u => fr_nil) k)) ?_); rintro r75 _
          refine d_and (fun w m => m.pick [1, 3] rfl) ?_
          refine pk [1, 2, 3] rfl ?_
          refine re (E' := [(3, (.pointer (some ⟨b3, 0, none⟩))), (4, (.pointer (some ⟨b5, 0, none⟩))), (18, (.int .i64 r75))]) ⟨rfl, rfl, rfl, trivial⟩ ?_
          exact H18 r73 v74 r75
        have H20 : ∀ (r73 : (List GShift)) (v74 : Value), Nx 21 (gB F [] w0) (feet []) w0 (wpAnyH Tryd.prog .any (opsAt Tryd.f16 [1, 1, 0]) Qd (Mem (gB F [] w0) (feet []) w0 [cellCh b5 [(.int .i64 0), (.int .i64 0), (.int .i64 0), (.int .i64 0)] 26, snapCh w0 F]) 4 #[true, true, true, false, false, false, false]) [(3, (.pointer (some ⟨b3, 0, none⟩))), (4, (.pointer (some ⟨b5, 0, none⟩))), (16, (.pointer (some ⟨b3, 0, none⟩))), (15, v74)] [ownCh elGShift 91 v74 r73, cellCh b5 [(.int .i64 0), (.int .i64 0), (.int .i64 0), (.int .i64 0)] 26, cellCh b3 [(.int .i64 p_1.xFrom), (.int .i64 p_1.xTo), (.int .i64 p_1.xPort), (.int .i64 p_1.xProto)] 26, snapCh w0 F] (L_impl_mover_move r73 p_1.xFrom (fun r75 => k72 r75)) := by
          intro r73 v74
          refine d_one (i := 3) rfl (by kernel_rfl) (o_ldc m_op (v := (.int .i64 p_1.xFrom)) 2 rfl rfl rfl ty3 rfl ?_)
          refine d_and (fun w m => m.pick [1, 3] rfl) ?_
          refine pk [0, 1, 2, 3] rfl ?_
          refine re (E' := [(3, (.pointer (some ⟨b3, 0, none⟩))), (4, (.pointer (some ⟨b5, 0, none⟩))), (15, v74), (17, (.int .i64 p_1.xFrom))]) ⟨rfl, rfl, rfl, rfl, trivial⟩ ?_
          exact H19 r73 v74
        have H21 : ∀ (_ : Unit), Nx 21 (gB F [] w0) (feet []) w0 (wpAnyH Tryd.prog .any (opsAt Tryd.f16 [1, 1, 0]) Qd (Mem (gB F [] w0) (feet []) w0 [cellCh b5 [(.int .i64 0), (.int .i64 0), (.int .i64 0), (.int .i64 0)] 26, snapCh w0 F]) 4 #[true, false, true, true, false, false, false]) [(3, (.pointer (some ⟨b3, 0, none⟩))), (4, (.pointer (some ⟨b5, 0, none⟩))), (14, v1), (17, (.int .i64 p_1.xFrom))] [cellCh b5 [(.int .i64 0), (.int .i64 0), (.int .i64 0), (.int .i64 0)] 26, cellCh b3 [(.int .i64 p_1.xFrom), (.int .i64 p_1.xTo), (.int .i64 p_1.xPort), (.int .i64 p_1.xProto)] 26, snapCh w0 F] (L_impl_moverOf__impl_Rewrite_outward list_0 (fun r76 => L_impl_mover_move r76 p_1.xFrom (fun r75 => k72 r75))) := by
          intro _
          refine d_one (i := 1) rfl (by kernel_rfl) (o_callP (vs := [v1, (.func (.func 38) #[] #[])]) Tryd.call34 rfl rfl (by intro w m h; exact (w_impl_moverOf__impl_Rewrite_outward (F := allB [] w) (list_0 := list_0) allB_ok (m.rd0 2 rfl (reads_snap hv1)) h).mono (fun _ _ k => ret_free (fun r u => (fr_cons (free_own flelGShift) fr_nil)) k)) ?_); rintro r76 v77
          refine d_and (fun w m => m.pick [1, 3] rfl) ?_
          refine pk [0, 1, 2, 3] rfl ?_
          refine re (E' := [(3, (.pointer (some ⟨b3, 0, none⟩))), (4, (.pointer (some ⟨b5, 0, none⟩))), (15, v77), (17, (.int .i64 p_1.xFrom))]) ⟨rfl, rfl, rfl, rfl, trivial⟩ ?_
          exact H19 r76 v77
        refine o_mv (dt 0 (fun w m => m.pick [0, 2] rfl)) rfl rfl ?_
        refine o_fad (dt 2 (fun w m => m.pick [0, 2] rfl)) rfl rfl fld26_0 rfl ?_
        refine d_two (i := 1) (j := 3) rfl rfl (by kernel_rfl) ?_ ?_
        · intro o ho; cases ho
          refine o_callP (vs := [v1, (.func (.func 38) #[] #[])]) Tryd.call34 rfl rfl (by intro w m h; exact (w_impl_moverOf__impl_Rewrite_outward (F := allB [] w) (list_0 := list_0) allB_ok (m.rd0 2 rfl (reads_snap hv1)) h).mono (fun _ _ k => ret_free (fun r u => (fr_cons (free_own flelGShift) fr_nil)) k)) ?_; rintro r73 v74
          refine d_and (fun w m => m.pick [1, 3] rfl) ?_
          refine pk [0, 1, 2, 3] rfl ?_
          refine re (E' := [(3, (.pointer (some ⟨b3, 0, none⟩))), (4, (.pointer (some ⟨b5, 0, none⟩))), (16, (.pointer (some ⟨b3, 0, none⟩))), (15, v74)]) ⟨rfl, rfl, rfl, rfl, trivial⟩ ?_
          exact H20 r73 v74
        · intro o ho; cases ho
          refine o_ldc m_op (v := (.int .i64 p_1.xFrom)) 1 rfl rfl rfl ty3 rfl ?_
          refine d_and (fun w m => m.pick [0, 2] rfl) ?_
          refine pk [0, 1, 2] rfl ?_
          refine re (E' := [(3, (.pointer (some ⟨b3, 0, none⟩))), (4, (.pointer (some ⟨b5, 0, none⟩))), (14, v1), (17, (.int .i64 p_1.xFrom))]) ⟨rfl, rfl, rfl, rfl, trivial⟩ ?_
          exact H21 ()
      · rintro t71 a w ⟨hE, hm⟩ h
        refine nx_of hE hm h ?_
        clear hE hm h
        refine c_seq ?_
        refine c_region ?_
        refine o_ldc st (v := (.agg #[(.int .i64 t71), (.int .i64 p_1.xTo), (.int .i64 p_1.xPort), (.int .i64 p_1.xProto)])) 1 rfl rfl rfl ty26 rfl ?_
        refine stw (o_stc (cs' := [(.int .i64 t71), (.int .i64 p_1.xTo), (.int .i64 p_1.xPort), (.int .i64 p_1.xProto)]) 0 rfl rfl rfl ty26 rfl rfl rfl rfl ?_)
        refine c_nil ?_
        refine l_then ?_
        refine c_ret ?_
        exact l_end1 Tryd.results16 (GPacket.mk t71 p_1.xTo p_1.xPort p_1.xProto) () (rv_c 0 rfl rfl ty26 rfl) (fun _ _ => NewCh.nil _ _ _ _)

set_option maxRecDepth 100000 in
set_option maxHeartbeats 8000000 in
theorem w_spec_l20Open {w0 : World} {F : Nat → Prop} {v1 : Value} {code_0 : (List UInt8)} {κ : ((List UInt8) × Int) → Prop} (hF : ∀ b, F b → b < w0.heap.size ∧ ¬ feet [] b) (hv1 : Sl elU8 F w0 v1 code_0) (h : L_spec_l20Open code_0 κ) :
    Calls Tryd.prog 39 #[v1] w0 (Ret [] F w0 κ (fun (r : ((List UInt8) × Int)) (u : Nat × Value) => .pointer (some ⟨u.1, 0, none⟩)) (fun (r : ((List UInt8) × Int)) (u : Nat × Value) => [cellCh u.1 [u.2, (.int .i64 r.2)] 99, roCh elU8 u.2 r.1])) := by
  refine enterS (args := [v1]) [] hF (Given.nil _ _) Tryd.func39 rfl Tryd.ntmps39 rfl h ?_
  clear h hF
  refine c_seq ?_
  refine c_region ?_
  refine o_as st rfl rfl ?_
  refine c_nil ?_
  refine l_then ?_
  refine c_join (σ := (List UInt8)) (fun (xs68 : (List UInt8)) (a : Act) (w : World) => ∃ (v67 : Value), Has 11 [(0, v67)] a ∧ Mem (gB F [] w0) (feet []) w0 [roCh elU8 v67 xs68] w) ?_ ?_
  · intro k71
    refine c_seq ?_
    refine c_region ?_
    refine o_mv st rfl rfl ?_
    refine o_len st el34 0 rfl (reads_snap hv1) rfl rfl ?_
    refine o_gtr st rfl rfl rfl ?_
    refine c_nil ?_
    refine l_then ?_
    refine c_cond rfl ?_ ?_
    · refine c_region ?_
      refine o_mv st rfl rfl ?_
      refine nx_note 0 rfl hv1 ?_
      refine stw (o_slc (I := 0) (J := 2000) 0 rfl rfl rfl rfl rfl el34 rfl ?_); intro v3 xs4
      refine o_as st rfl rfl ?_
      refine c_nil ?_
      exact l_join xs4 (fun a w hE hm => ⟨v3, hE.sub ⟨rfl, trivial⟩, (hm.pick [0] rfl)⟩)
    · refine c_skip ?_
      exact l_join code_0 (fun a w hE hm => ⟨v1, hE.sub ⟨rfl, trivial⟩, ((hm.snote 0 rfl hv1).pick [0] rfl)⟩)
  · rintro xs68 a w ⟨v67, hE, hm⟩ h
    refine nx_of hE hm h ?_
    clear hE hm h
    refine c_seq ?_
    refine c_region ?_
    refine o_mv st rfl rfl ?_
    refine nx_ro 0 rfl ?_; rintro a72 l73 q74 rfl
    refine o_bld st (qs := [(0, (.slice a72 l73 q74))]) (cells := [(.slice a72 l73 q74), (.int .i64 0)]) (by intro ρ h; simp only [List.map_toArray, List.map_cons, List.map_nil, h (.tmp 8) _ rfl]) rfl bld99 rfl ?_
    refine stw (o_box rfl rfl [(.slice a72 l73 q74), (.int .i64 0)] rfl ?_); intro b75
    refine o_as st rfl rfl ?_
    refine c_nil ?_
    refine l_then ?_
    refine c_ret ?_
    exact l_end1 Tryd.results39 (xs68, 0) (b75, (.slice a72 l73 q74)) (rv_t rfl) (fun w m => NewCh.ofB m [0, 1] rfl)

set_option maxRecDepth 100000 in
set_option maxHeartbeats 8000000 in
theorem w_spec_l20Rd_pick {w0 : World} {F : Nat → Prop} {b1 : Nat} {v2 : Value} {r_0_b : (List UInt8)} {r_0_p : Int} {n_1 : Int} {κ : (Int × Int) → Prop} (hF : ∀ b, F b → b < w0.heap.size ∧ ¬ feet [cellCh b1 [v2, (.int .i64 r_0_p)] 99] b) (hg : Given [cellCh b1 [v2, (.int .i64 r_0_p)] 99] F w0) (hv2 : Sl elU8 F w0 v2 r_0_b) (h : L_spec_l20Rd_pick r_0_b r_0_p n_1 κ) :
    Calls Tryd.prog 62 #[(.pointer (some ⟨b1, 0, none⟩)), (.int .i64 n_1)] w0 (Ret [cellCh b1 [v2, (.int .i64 r_0_p)] 99] F w0 κ (fun (r : (Int × Int)) (u : Unit) => (.int .i64 r.1)) (fun (r : (Int × Int)) (u : Unit) => [cellCh b1 [v2, (.int .i64 r.2)] 99])) := by
  refine enterS (args := [(.pointer (some ⟨b1, 0, none⟩)), (.int .i64 n_1)]) [cellCh b1 [v2, (.int .i64 r_0_p)] 99] hF hg Tryd.func62 rfl Tryd.ntmps62 rfl h ?_
  clear h hF hg
  refine c_seq ?_
  refine c_region ?_
  refine o_as st rfl rfl ?_
  refine c_nil ?_
  refine l_then ?_
  refine c_seq ?_
  refine c_region ?_
  refine o_mv st rfl rfl ?_
  refine o_mv st rfl rfl ?_
  refine o_nilc st rfl rfl ?_
  refine o_fad st rfl rfl fld99_1 rfl ?_
  refine o_ldc st (v := (.int .i64 r_0_p)) 0 rfl rfl rfl ty3 rfl ?_
  refine o_add st rfl rfl rfl ?_; intro t5
  refine o_nilc st rfl rfl ?_
  refine o_fad st rfl rfl fld99_1 rfl ?_
  refine stw (o_stc (cs' := [v2, (.int .i64 t5)]) 0 rfl rfl rfl ty3 rfl rfl rfl rfl ?_)
  refine c_nil ?_
  refine l_then ?_
  refine c_seq ?_
  refine c_join (σ := Bool) (fun (t66 : Bool) (a : Act) (w : World) => Has 99 [(0, (.pointer (some ⟨b1, 0, none⟩))), (1, (.int .i64 n_1)), (24, (.bool t66))] a ∧ Mem (gB F [cellCh b1 [v2, (.int .i64 r_0_p)] 99] w0) (feet [cellCh b1 [v2, (.int .i64 r_0_p)] 99]) w0 [cellCh b1 [v2, (.int .i64 t5)] 99, snapCh w0 F] w) ?_ ?_
  · intro k67
    refine c_region ?_
    refine o_mv st rfl rfl ?_
    refine o_lss st rfl rfl rfl ?_
    refine o_mv st rfl rfl ?_
    refine st_sp (dj := 17) rfl ?_ ?_
    · refine st_s rfl rfl rfl rfl ?_
      refine st_s rfl rfl rfl rfl ?_
      refine st_s rfl rfl rfl rfl ?_
      refine st_s rfl rfl rfl rfl ?_
      refine st_s rfl rfl rfl rfl ?_
      refine st_s rfl rfl rfl rfl ?_
      refine o_pickT st rfl rfl rfl ?_
      refine c_nil ?_
      exact l_join true (fun a w hE hm => ⟨hE.sub ⟨rfl, rfl, rfl, trivial⟩, (hm.pick [0, 1] rfl)⟩)
    · refine o_mv (st_g rfl rfl) rfl rfl ?_
      refine o_nilc (st_g rfl rfl) rfl rfl ?_
      refine o_fad (st_g rfl rfl) rfl rfl fld99_0 rfl ?_
      refine o_ldc (st_g rfl rfl) (v := v2) 0 rfl rfl rfl ty34 rfl ?_
      refine o_len (st_g rfl rfl) el34 1 rfl (reads_snap hv2) rfl rfl ?_
      refine o_eql (st_g rfl rfl) und3 rfl rfl rfl ?_
      refine o_pickF st rfl rfl rfl ?_
      refine c_nil ?_
      exact l_join (decide ((r_0_b.length : Int) = 0)) (fun a w hE hm => ⟨hE.sub ⟨rfl, rfl, rfl, trivial⟩, (hm.pick [0, 1] rfl)⟩)
  · rintro t66 a w ⟨hE, hm⟩ h
    refine nx_of hE hm h ?_
    clear hE hm h
    refine c_cond rfl ?_ ?_
    · refine c_seq ?_
      refine c_region ?_
      refine o_as st rfl rfl ?_
      refine c_nil ?_
      refine l_then ?_
      refine c_ret ?_
      refine l_ret ?_
      exact l_end1 Tryd.results62 (0, t5) () (rv_t rfl) (fun w m => NewCh.ofB m [0] rfl)
    · refine c_skip ?_
      refine l_then ?_
      refine c_seq ?_
      refine c_region ?_
      refine o_mv st rfl rfl ?_
      refine o_nilc st rfl rfl ?_
      refine o_fad st rfl rfl fld99_1 rfl ?_
      refine o_ldc st (v := (.int .i64 t5)) 0 rfl rfl rfl ty3 rfl ?_
      refine o_sub st rfl rfl rfl ?_; intro t68
      refine o_as st rfl rfl ?_
      refine c_nil ?_
      refine l_then ?_
      refine c_seq ?_
      refine c_seq ?_
      refine c_region ?_
      refine o_mv st rfl rfl ?_
      refine o_mv st rfl rfl ?_
      refine o_nilc st rfl rfl ?_
      refine o_fad st rfl rfl fld99_0 rfl ?_
      refine o_ldc st (v := v2) 0 rfl rfl rfl ty34 rfl ?_
      refine o_len st el34 1 rfl (reads_snap hv2) rfl rfl ?_
      refine o_lss st rfl rfl rfl ?_
      refine c_nil ?_
      refine l_then ?_
      refine c_cond rfl ?_ ?_
      · refine c_seq ?_
        refine c_region ?_
        refine o_mv st rfl rfl ?_
        refine o_nilc st rfl rfl ?_
        refine o_fad st rfl rfl fld99_0 rfl ?_
        refine o_ldc st (v := v2) 0 rfl rfl rfl ty34 rfl ?_
        refine o_mv st rfl rfl ?_
        refine o_idx st 1 rfl (reads_snap hv2) rfl rfl rfl el34 ?_; intro e69 h70
        refine o_lds st (enc := encU8) (u := (.int .u8 (e69.toNat : Int))) 1 rfl (reads_snap hv2) flelU8 rfl h70 rfl rfl ty5 rfl ?_
        refine o_cnvI st und5 und3 rfl rfl ?_
        refine o_mv st rfl rfl ?_
        refine o_rem st rfl rfl rfl ?_; intro t71
        refine o_as st rfl rfl ?_
        refine c_nil ?_
        refine l_then ?_
        refine c_ret ?_
        refine l_ret ?_
        exact l_end1 Tryd.results62 (t71, t5) () (rv_t rfl) (fun w m => NewCh.ofB m [0] rfl)
      · refine c_skip ?_
        refine l_then ?_
        refine c_seq ?_
        refine c_draw mixed 46 rfl [cellCh b1 [v2, (.int .i64 t5)] 99, snapCh w0 F] ?_
        refine o_mv (dt 0 (fun _ m => m)) rfl rfl ?_
        refine o_nilc (dt 1 (fun _ m => m)) rfl rfl ?_
        refine o_fad (dt 2 (fun _ m => m)) rfl rfl fld99_0 rfl ?_
        refine o_ldc (dt 3 (fun _ m => m)) (v := v2) 0 rfl rfl rfl ty34 rfl ?_
        refine o_mv (dt 4 (fun _ m => m)) rfl rfl ?_
        refine o_mv (dt 5 (fun _ m => m)) rfl rfl ?_
        refine o_nilc (dt 6 (fun _ m => m)) rfl rfl ?_
        refine o_fad (dt 7 (fun _ m => m)) rfl rfl fld99_0 rfl ?_
        refine o_ldc (dt 8 (fun _ m => m)) (v := v2) 0 rfl rfl rfl ty34 rfl ?_
        refine o_len (dt 9 (fun _ m => m)) el34 1 rfl (reads_snap hv2) rfl rfl ?_
        refine o_rem (dt 10 (fun _ m => m)) rfl rfl rfl ?_; intro t72
        refine o_idx (dt 11 (fun _ m => m)) 1 rfl (reads_snap hv2) rfl rfl rfl el34 ?_; intro e73 h74
        refine o_lds (dt 12 (fun _ m => m)) (enc := encU8) (u := (.int .u8 (e73.toNat : Int))) 1 rfl (reads_snap hv2) flelU8 rfl h74 rfl rfl ty5 rfl ?_
        refine o_cnvI (dt 13 (fun _ m => m)) und5 und3 rfl rfl ?_
        refine o_mul (dt 14 (fun _ m => m)) rfl rfl rfl ?_; intro t75
        refine o_mv (dt 15 (fun _ m => m)) rfl rfl ?_
        refine o_nilc (dt 16 (fun _ m => m)) rfl rfl ?_
        refine o_fad (dt 17 (fun _ m => m)) rfl rfl fld99_0 rfl ?_
        refine o_ldc (dt 18 (fun _ m => m)) (v := v2) 0 rfl rfl rfl ty34 rfl ?_
        refine o_mv (dt 19 (fun _ m => m)) rfl rfl ?_
        refine o_mul (dt 20 (fun _ m => m)) rfl rfl rfl ?_; intro t76
        refine o_add (dt 21 (fun _ m => m)) rfl rfl rfl ?_; intro t77
        refine o_mv (dt 22 (fun _ m => m)) rfl rfl ?_
        refine o_nilc (dt 23 (fun _ m => m)) rfl rfl ?_
        refine o_fad (dt 24 (fun _ m => m)) rfl rfl fld99_0 rfl ?_
        refine o_ldc (dt 25 (fun _ m => m)) (v := v2) 0 rfl rfl rfl ty34 rfl ?_
        refine o_len (dt 26 (fun _ m => m)) el34 1 rfl (reads_snap hv2) rfl rfl ?_
        refine o_rem (dt 27 (fun _ m => m)) rfl rfl rfl ?_; intro t78
        refine o_idx (dt 28 (fun _ m => m)) 1 rfl (reads_snap hv2) rfl rfl rfl el34 ?_; intro e79 h80
        refine o_lds (dt 29 (fun _ m => m)) (enc := encU8) (u := (.int .u8 (e79.toNat : Int))) 1 rfl (reads_snap hv2) flelU8 rfl h80 rfl rfl ty5 rfl ?_
        refine o_cnvI (dt 30 (fun _ m => m)) und5 und3 rfl rfl ?_
        refine o_mul (dt 31 (fun _ m => m)) rfl rfl rfl ?_; intro t81
        refine o_add (dt 32 (fun _ m => m)) rfl rfl rfl ?_; intro t82
        refine o_mv (dt 33 (fun _ m => m)) rfl rfl ?_
        refine o_mul (dt 34 (fun _ m => m)) rfl rfl rfl ?_; intro t83
        refine o_add (dt 35 (fun _ m => m)) rfl rfl rfl ?_; intro t84
        refine o_mv (dt 36 (fun _ m => m)) rfl rfl ?_
        refine o_mv (dt 37 (fun _ m => m)) rfl rfl ?_
        refine o_nilc (dt 38 (fun _ m => m)) rfl rfl ?_
        refine o_fad (dt 39 (fun _ m => m)) rfl rfl fld99_0 rfl ?_
        refine o_ldc (dt 40 (fun _ m => m)) (v := v2) 0 rfl rfl rfl ty34 rfl ?_
        refine o_len (dt 41 (fun _ m => m)) el34 1 rfl (reads_snap hv2) rfl rfl ?_
        refine o_quo (dt 42 (fun _ m => m)) rfl rfl rfl ?_; intro t85
        refine o_mul (dt 43 (fun _ m => m)) rfl rfl rfl ?_; intro t86
        refine o_add (dt 44 (fun _ m => m)) rfl rfl rfl ?_; intro t87
        refine o_as (dt 45 (fun _ m => m)) rfl rfl ?_
        refine d_done (by kernel_rfl) ?_
        refine l_then ?_
        refine c_seq ?_
        refine c_region ?_
        refine o_mv st rfl rfl ?_
        refine o_mv st rfl rfl ?_
        refine o_quo st rfl rfl rfl ?_; intro t88
        refine o_xor st rfl rfl rfl ?_; intro t89
        refine o_as st rfl rfl ?_
        refine c_nil ?_
        refine l_then ?_
        refine c_seq ?_
        refine c_region ?_
        refine o_mv st rfl rfl ?_
        refine o_mv st rfl rfl ?_
        refine o_rem st rfl rfl rfl ?_; intro t90
        refine o_as st rfl rfl ?_
        refine c_nil ?_
        refine l_then ?_
        refine c_ret ?_
        exact l_end1 Tryd.results62 (t90, t5) () (rv_t rfl) (fun w m => NewCh.ofB m [0] rfl)

set_option maxRecDepth 100000 in
set_option maxHeartbeats 8000000 in
theorem w_spec_l20Rd_odd {w0 : World} {F : Nat → Prop} {b1 : Nat} {v2 : Value} {r_0_b : (List UInt8)} {r_0_p : Int} {n_1 : Int} {κ : (Bool × Int) → Prop} (hF : ∀ b, F b → b < w0.heap.size ∧ ¬ feet [cellCh b1 [v2, (.int .i64 r_0_p)] 99] b) (hg : Given [cellCh b1 [v2, (.int .i64 r_0_p)] 99] F w0) (hv2 : Sl elU8 F w0 v2 r_0_b) (h : L_spec_l20Rd_odd r_0_b r_0_p n_1 κ) :
    Calls Tryd.prog 63 #[(.pointer (some ⟨b1, 0, none⟩)), (.int .i64 n_1)] w0 (Ret [cellCh b1 [v2, (.int .i64 r_0_p)] 99] F w0 κ (fun (r : (Bool × Int)) (u : Unit) => (.bool r.1)) (fun (r : (Bool × Int)) (u : Unit) => [cellCh b1 [v2, (.int .i64 r.2)] 99])) := by
  refine enterS (args := [(.pointer (some ⟨b1, 0, none⟩)), (.int .i64 n_1)]) [cellCh b1 [v2, (.int .i64 r_0_p)] 99] hF hg Tryd.func63 rfl Tryd.ntmps63 rfl h ?_
  clear h hF hg
  refine c_seq ?_
  refine c_region ?_
  refine o_as st rfl rfl ?_
  refine c_nil ?_
  refine l_then ?_
  refine c_join (σ := (Int × Bool)) (fun ((t68, t69) : (Int × Bool)) (a : Act) (w : World) => Has 15 [(4, (.bool t69))] a ∧ Mem (gB F [cellCh b1 [v2, (.int .i64 r_0_p)] 99] w0) (feet [cellCh b1 [v2, (.int .i64 r_0_p)] 99]) w0 [cellCh b1 [v2, (.int .i64 t68)] 99, snapCh w0 F] w) ?_ ?_
  · intro k70
    refine c_region ?_
    refine o_mv st rfl rfl ?_
    refine o_gtr st rfl rfl rfl ?_
    refine o_mv st rfl rfl ?_
    refine st_sp (dj := 7) rfl ?_ ?_
    · refine o_mv (st_g rfl rfl) rfl rfl ?_
      refine o_mv (st_g rfl rfl) rfl rfl ?_
      refine st_gw rfl rfl (o_call (vs := [(.pointer (some ⟨b1, 0, none⟩)), (.int .i64 n_1)]) (M0 := [cellCh b1 [v2, (.int .i64 r_0_p)] 99]) Tryd.call62 rfl rfl (by intro w m h; exact (w_spec_l20Rd_pick (F := allB [cellCh b1 [v2, (.int .i64 r_0_p)] 99] w) (r_0_b := r_0_b) (r_0_p := r_0_p) (n_1 := n_1) allB_ok m.given (m.rdM 0 rfl (reads_snap hv2)) h).mono (fun _ _ k => ret_free (fun r u => (fr_cons free_cell fr_nil)) k)) ?_); rintro ⟨r5, r6⟩ _
      refine o_mv (st_g rfl rfl) rfl rfl ?_
      refine o_sub (st_g rfl rfl) rfl rfl rfl ?_; intro t7
      refine o_eql (st_g rfl rfl) und3 rfl rfl rfl ?_
      refine o_pickT st rfl rfl rfl ?_
      refine o_as st rfl rfl ?_
      refine c_nil ?_
      exact l_join (r6, (decide (r5 = t7))) (fun a w hE hm => ⟨hE.sub ⟨rfl, trivial⟩, (hm.pick [0, 1] rfl)⟩)
    · refine st_s rfl rfl rfl rfl ?_
      refine st_s rfl rfl rfl rfl ?_
      refine st_s rfl rfl rfl rfl ?_
      refine st_s rfl rfl rfl rfl ?_
      refine st_s rfl rfl rfl rfl ?_
      refine st_s rfl rfl rfl rfl ?_
      refine o_pickF st rfl rfl rfl ?_
      refine o_as st rfl rfl ?_
      refine c_nil ?_
      exact l_join (r_0_p, false) (fun a w hE hm => ⟨hE.sub ⟨rfl, trivial⟩, (hm.pick [0, 1] rfl)⟩)
  · rintro ⟨t68, t69⟩ a w ⟨hE, hm⟩ h
    refine nx_of hE hm h ?_
    clear hE hm h
    refine c_ret ?_
    exact l_end1 Tryd.results63 (t69, t68) () (rv_t rfl) (fun w m => NewCh.ofB m [0] rfl)

end

end Go.Proofs.YtdjfbceokpofmaaDoor
