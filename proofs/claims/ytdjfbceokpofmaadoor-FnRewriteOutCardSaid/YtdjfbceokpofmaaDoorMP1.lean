/- Texts of this seat, put together. -/
import Derived.Test.YtdjfbceokpofmaaDoorEls
import Derived.Test.YtdjfbceokpofmaaDoorMA0
import Derived.Laws.BitsLemmas
import Derived.Shelf.SlSortCmp.WholeK
import Derived.Shelf.SlSortCmp.NoneTotal
import Derived.Test.YtdjfbceokpofmaaDoorRows
import Derived.Shelf.SlicesG.Cmp
import Derived.Shelf.SlGeneric
import Derived.StillTailTactics
import Derived.LoopN
import Derived.Shelf.Small.Bits
set_option linter.unusedSimpArgs false
set_option linter.unusedVariables false
set_option linter.unusedSectionVars false
namespace Go.Proofs.YtdjfbceokpofmaaDoor
section
open Go.RowKit
@[ext] structure GPrefix where
  xBase : Int
  xLength : Int
  deriving DecidableEq
def encGPrefix (x : GPrefix) : List Value := [(.int .i64 x.xBase), (.int .i64 x.xLength)]
def elGPrefix : El GPrefix := El.flat 2 encGPrefix (by decide) (fun _ => rfl) (fun x u h => by simp only [encGPrefix, List.mem_cons, List.not_mem_nil, or_false] at h; rcases h with rfl | rfl <;> rfl)
theorem flelGPrefix : Flat elGPrefix encGPrefix := flat_flat
@[ext] structure GSpan where
  xLo : Int
  xHi : Int
  deriving DecidableEq
def encGSpan (x : GSpan) : List Value := [(.int .i64 x.xLo), (.int .i64 x.xHi)]
def elGSpan : El GSpan := El.flat 2 encGSpan (by decide) (fun _ => rfl) (fun x u h => by simp only [encGSpan, List.mem_cons, List.not_mem_nil, or_false] at h; rcases h with rfl | rfl <;> rfl)
theorem flelGSpan : Flat elGSpan encGSpan := flat_flat
@[ext] structure GRewrite where
  xInside : GPrefix
  xOutside : GPrefix
  deriving DecidableEq
def encGRewrite (x : GRewrite) : List Value := [(.int .i64 x.xInside.xBase), (.int .i64 x.xInside.xLength), (.int .i64 x.xOutside.xBase), (.int .i64 x.xOutside.xLength)]
def elGRewrite : El GRewrite := El.flat 4 encGRewrite (by decide) (fun _ => rfl) (fun x u h => by simp only [encGRewrite, List.mem_cons, List.not_mem_nil, or_false] at h; rcases h with rfl | rfl | rfl | rfl <;> rfl)
theorem flelGRewrite : Flat elGRewrite encGRewrite := flat_flat
@[ext] structure GPacket where
  xFrom : Int
  xTo : Int
  xPort : Int
  xProto : Int
  deriving DecidableEq
@[ext] structure A4Int where
  x0 : Int
  x1 : Int
  x2 : Int
  x3 : Int
  deriving DecidableEq
@[ext] structure GShift where
  xWhere : GSpan
  xBy : Int
  deriving DecidableEq
def encGShift (x : GShift) : List Value := [(.int .i64 x.xWhere.xLo), (.int .i64 x.xWhere.xHi), (.int .i64 x.xBy)]
def elGShift : El GShift := El.flat 3 encGShift (by decide) (fun _ => rfl) (fun x u h => by simp only [encGShift, List.mem_cons, List.not_mem_nil, or_false] at h; rcases h with rfl | rfl | rfl <;> rfl)
theorem flelGShift : Flat elGShift encGShift := flat_flat
@[ext] structure GEdge where
  xAt : Int
  xStep : Int
  deriving DecidableEq
def encGEdge (x : GEdge) : List Value := [(.int .i64 x.xAt), (.int .i64 x.xStep)]
def elGEdge : El GEdge := El.flat 2 encGEdge (by decide) (fun _ => rfl) (fun x u h => by simp only [encGEdge, List.mem_cons, List.not_mem_nil, or_false] at h; rcases h with rfl | rfl <;> rfl)
theorem flelGEdge : Flat elGEdge encGEdge := flat_flat
@[ext] structure GFieldShape where
  xName : ByteArray
  xTop : Int
  deriving DecidableEq
def encGFieldShape (x : GFieldShape) : List Value := [(.string x.xName), (.int .i64 x.xTop)]
def elGFieldShape : El GFieldShape := El.flat 2 encGFieldShape (by decide) (fun _ => rfl) (fun x u h => by simp only [encGFieldShape, List.mem_cons, List.not_mem_nil, or_false] at h; rcases h with rfl | rfl <;> rfl)
theorem flelGFieldShape : Flat elGFieldShape encGFieldShape := flat_flat
/-- what the package-level variable reads as -/
def gl_impl_fieldShapes : List GFieldShape := [⟨(ByteArray.mk #[102, 114, 111, 109]), 65535⟩, ⟨(ByteArray.mk #[116, 111]), 65535⟩, ⟨(ByteArray.mk #[112, 111, 114, 116]), 255⟩, ⟨(ByteArray.mk #[112, 114, 111, 116, 111]), 7⟩]

def L_spec_l1In (n_0 : Int) (lo_1 : Int) (hi_2 : Int) (κ : Bool → Prop) : Prop :=
  jnW (fun (t61 : Bool) => κ t61) (fun k62 => ifW (decide (lo_1 ≤ n_0)) (k62 (decide (n_0 ≤ hi_2))) (k62 false))

def L_spec_PrefixValid (p_0 : GPrefix) (κ : Bool → Prop) : Prop :=
  jnW (fun (t68 : Bool) => κ t68) (fun k69 => L_spec_l1In p_0.xLength 0 16 (fun r3 => ifW r3 (L_spec_l1In p_0.xBase 0 65535 (fun r4 => ifW r4 (subW 16 p_0.xLength (fun t5 => shlW 1 t5 (fun t6 => remW p_0.xBase t6 (fun t7 => k69 (decide (t7 = 0)))))) (k69 false))) (k69 false)))

def L_spec_PrefixSpan (p_0 : GPrefix) (κ : (GSpan × Bool) → Prop) : Prop :=
  L_spec_PrefixValid p_0 (fun r5 => ifW (!r5) (κ ((GSpan.mk 0 0), false)) (subW 16 p_0.xLength (fun t6 => shlW 1 t6 (fun t7 => addW p_0.xBase t7 (fun t8 => subW t8 1 (fun t9 => κ ((GSpan.mk p_0.xBase t9), true)))))))

def L_spec_PrefixWithin (a_0 : GPrefix) (b_1 : GPrefix) (κ : Bool → Prop) : Prop :=
  L_spec_PrefixSpan a_0 (fun (r5, r6) => L_spec_PrefixSpan b_1 (fun (r9, r10) => jnW (fun (t73 : Bool) => κ t73) (fun k74 => ifW r6 (ifW r10 (ifW (decide (r9.xLo ≤ r5.xLo)) (k74 (decide (r5.xHi ≤ r9.xHi))) (k74 false)) (k74 false)) (k74 false))))

def L_spec_RewritesValid (list_0 : (List GRewrite)) (κ : Bool → Prop) : Prop :=
  loopW (fun (nx10 : ((List GPrefix) × Int) → Prop) ((xs6, t9) : ((List GPrefix) × Int)) => ifW (decide (t9 < (list_0.length : Int))) (jnW (fun (t81 : Bool) => ifW t81 (κ false) (idxW list_0 t9 (fun e83 => idxW list_0 t9 (fun e85 => appW xs6 ([e83.xInside, e85.xOutside]) (fun _ => addW t9 1 (fun t91 => nx10 ((xs6 ++ ([e83.xInside, e85.xOutside])), t91))))))) (fun k82 => idxW list_0 t9 (fun e11 => L_spec_PrefixValid e11.xInside (fun r13 => ifW (!r13) (k82 true) (idxW list_0 t9 (fun e14 => L_spec_PrefixValid e14.xOutside (fun r16 => ifW (!r16) (k82 true) (idxW list_0 t9 (fun e17 => idxW list_0 t9 (fun e19 => k82 (!(decide (e17.xInside.xLength = e19.xOutside.xLength))))))))))))) (loopW (fun (nx93 : Int → Prop) (t92 : Int) => ifW (decide (t92 < (xs6.length : Int))) (loopW (fun (nx95 : Int → Prop) (t94 : Int) => ifW (decide (t94 < t92)) (jnW (fun (t166 : Bool) => ifW t166 (κ false) (addW t94 1 (fun t168 => nx95 t168))) (fun k167 => idxW xs6 t92 (fun e96 => idxW xs6 t94 (fun e98 => L_spec_PrefixWithin e96 e98 (fun r100 => ifW r100 (k167 true) (idxW xs6 t94 (fun e101 => idxW xs6 t92 (fun e103 => L_spec_PrefixWithin e101 e103 (fun r105 => k167 r105))))))))) (addW t92 1 (fun t169 => nx93 t169))) 0) (κ (decide ((list_0.length : Int) ≤ 10)))) 0)) ([], 0)

def L_spec_PacketValid (p_0 : GPacket) (κ : Bool → Prop) : Prop :=
  jnW (fun (t67 : Bool) => κ t67) (fun k68 => L_spec_l1In p_0.xFrom 0 65535 (fun r3 => ifW r3 (L_spec_l1In p_0.xTo 0 65535 (fun r4 => ifW r4 (L_spec_l1In p_0.xPort 0 255 (fun r5 => ifW r5 (L_spec_l1In p_0.xProto 0 7 (fun r6 => k68 r6)) (k68 false))) (k68 false))) (k68 false)))

def L_spec_l24Map (address_0 : Int) (from_1 : GPrefix) (to_2 : GPrefix) (κ : Int → Prop) : Prop :=
  L_spec_PrefixWithin (GPrefix.mk address_0 16) from_1 (fun r5 => ifW (!r5) (κ (-1)) (addW to_2.xBase address_0 (fun t6 => subW t6 from_1.xBase (fun t7 => κ t7))))

def L_impl_hostMask (length_0 : Int) (κ : Int → Prop) : Prop :=
  subW 16 length_0 (fun t1 => shlW 1 t1 (fun t2 => subW t2 1 (fun t3 => κ t3)))

def L_impl_PrefixValid (p_0 : GPrefix) (κ : Bool → Prop) : Prop :=
  jnW (fun (t63 : Bool) => ifW t63 (κ false) (L_impl_hostMask p_0.xLength (fun r65 => κ (decide ((bits .and .i64 p_0.xBase r65) = 0))))) (fun k64 => ifW (decide (p_0.xLength < 0)) (k64 true) (ifW (decide (16 < p_0.xLength)) (k64 true) (ifW (decide (p_0.xBase < 0)) (k64 true) (k64 (decide (65535 < p_0.xBase))))))

def L_impl_PrefixSpan (p_0 : GPrefix) (κ : (GSpan × Bool) → Prop) : Prop :=
  L_impl_PrefixValid p_0 (fun r5 => ifW (!r5) (κ ((GSpan.mk 0 0), false)) (L_impl_hostMask p_0.xLength (fun r6 => κ ((GSpan.mk p_0.xBase (bits .or .i64 p_0.xBase r6)), true))))

def L_cmp_isNaN_int (x_0 : Int) (κ : Bool → Prop) : Prop :=
  κ (!(decide (x_0 = x_0)))

def L_cmp_Compare_int (x_0 : Int) (y_1 : Int) (κ : Int → Prop) : Prop :=
  L_cmp_isNaN_int x_0 (fun r1 => L_cmp_isNaN_int y_1 (fun r2 => ifW r1 (ifW r2 (κ 0) (κ (-1))) (ifW r2 (κ 1) (ifW (decide (x_0 < y_1)) (κ (-1)) (ifW (decide (y_1 < x_0)) (κ 1) (κ 0))))))

def L_impl_RewritesValid (list_0 : (List GRewrite)) (κ : Bool → Prop) : Prop :=
  ifW (decide (10 < (list_0.length : Int))) (κ false) (mulW 2 (list_0.length : Int) (fun t3 => makeW ((GSpan.mk 0 0) : GSpan) 0 t3 (fun xs5 => loopW (fun (nx12 : ((List GSpan) × Int) → Prop) ((xs8, t11) : ((List GSpan) × Int)) => ifW (decide (t11 < (list_0.length : Int))) (idxW list_0 t11 (fun e13 => L_impl_PrefixSpan e13.xInside (fun (r17, r18) => L_impl_PrefixSpan e13.xOutside (fun (r21, r22) => jnW (fun (t85 : Bool) => ifW t85 (κ false) (appW xs8 ([r17, r21]) (fun _ => addW t11 1 (fun t91 => nx12 ((xs8 ++ ([r17, r21])), t91))))) (fun k86 => ifW (!r18) (k86 true) (ifW (!r22) (k86 true) (k86 (!(decide (e13.xInside.xLength = e13.xOutside.xLength)))))))))) (L_lib_sort (fun (a b : GSpan) => decide (a.xLo < b.xLo)) xs8 (fun r92 => loopW (fun (nx95 : Int → Prop) (t94 : Int) => ifW (decide (t94 < (r92.length : Int))) (idxW r92 t94 (fun e96 => subW t94 1 (fun t98 => idxW r92 t98 (fun e99 => ifW (decide (e96.xLo ≤ e99.xHi)) (κ false) (addW t94 1 (fun t101 => nx95 t101)))))) (κ true)) 1))) (xs5, 0))))

def L_impl_Packet_fields (p_0 : GPacket) (κ : A4Int → Prop) : Prop :=
  κ (A4Int.mk p_0.xFrom p_0.xTo p_0.xPort p_0.xProto)

def L_impl_FieldTop (n_0 : Int) (κ : Int → Prop) : Prop :=
  jnW (fun (t61 : Bool) => ifW t61 (κ (-1)) (idxW gl_impl_fieldShapes n_0 (fun e63 => κ e63.xTop))) (fun k62 => ifW (decide (n_0 < 0)) (k62 true) (k62 (decide (4 ≤ n_0))))

def L_impl_PacketValid (p_0 : GPacket) (κ : Bool → Prop) : Prop :=
  L_impl_Packet_fields p_0 (fun r3 => loopW (fun (nx5 : Int → Prop) (t4 : Int) => ifW (decide (t4 < 4)) (idxW ([r3.x0, r3.x1, r3.x2, r3.x3]) t4 (fun e6 => jnW (fun (t68 : Bool) => ifW t68 (κ false) (addW t4 1 (fun t70 => nx5 t70))) (fun k69 => ifW (decide (e6 < 0)) (k69 true) (L_impl_FieldTop t4 (fun r7 => k69 (decide (r7 < e6))))))) (κ true)) 0)

def L_impl_shiftTo (from_0 : GPrefix) (to_1 : GPrefix) (κ : GShift → Prop) : Prop :=
  L_impl_PrefixSpan from_0 (fun (r7, r8) => subW to_1.xBase from_0.xBase (fun t11 => κ (GShift.mk r7 t11)))

def L_impl_Rewrite_inward (r_0 : GRewrite) (κ : GShift → Prop) : Prop :=
  L_impl_shiftTo r_0.xOutside r_0.xInside (fun r5 => κ r5)

def L_impl_mover_move_1 (s_0 : GShift) (address_1 : Int) (κ : Int → Prop) : Prop :=
  L_cmp_Compare_int s_0.xWhere.xHi address_1 (fun r3 => κ r3)

def L_slices_BinarySearchFunc_impl_mover_impl_shift_int__impl_mover_move_1 (x_0 : (List GShift)) (target_1 : Int) (κ : (Int × Bool) → Prop) : Prop :=
  loopW (fun (nx5 : (Int × Int) → Prop) ((t3, t4) : (Int × Int)) => ifW (decide (t3 < t4)) (addW t3 t4 (fun t6 => posW t6 (fun _ => shrW t6 1 (fun t7 => posW t7 (fun _ => idxW x_0 t7 (fun e8 => L_impl_mover_move_1 e8 target_1 (fun r10 => ifW (decide (r10 < 0)) (addW t7 1 (fun t11 => nx5 (t11, t4))) (nx5 (t3, t7))))))))) (jnW (fun (t75 : Bool) => κ (t3, t75)) (fun k76 => ifW (decide (t3 < (x_0.length : Int))) (idxW x_0 t3 (fun e12 => L_impl_mover_move_1 e12 target_1 (fun r14 => k76 (decide (r14 = 0))))) (k76 false)))) (0, (x_0.length : Int))

def L_impl_mover_move (m_0 : (List GShift)) (address_1 : Int) (κ : Int → Prop) : Prop :=
  L_slices_BinarySearchFunc_impl_mover_impl_shift_int__impl_mover_move_1 m_0 address_1 (fun (r3, r4) => jnW (fun (t67 : Bool) => ifW t67 (idxW m_0 r3 (fun e69 => addW address_1 e69.xBy (fun t71 => κ t71))) (κ address_1)) (fun k68 => ifW (decide (r3 < (m_0.length : Int))) (idxW m_0 r3 (fun e5 => k68 (decide (e5.xWhere.xLo ≤ address_1)))) (k68 false)))

def L_impl_moverOf__impl_Rewrite_inward (list_0 : (List GRewrite)) (κ : (List GShift) → Prop) : Prop :=
  makeW ((GShift.mk (GSpan.mk 0 0) 0) : GShift) 0 (list_0.length : Int) (fun xs5 => loopW (fun (nx12 : ((List GShift) × Int) → Prop) ((xs8, t11) : ((List GShift) × Int)) => ifW (decide (t11 < (list_0.length : Int))) (idxW list_0 t11 (fun e13 => L_impl_Rewrite_inward e13 (fun r17 => appW xs8 ([r17]) (fun _ => addW t11 1 (fun t22 => nx12 ((xs8 ++ ([r17])), t22)))))) (L_lib_sort (fun (a b : GShift) => decide (a.xWhere.xLo < b.xWhere.xLo)) xs8 (fun r23 => κ r23))) (xs5, 0))

def L_impl_RewriteIn (list_0 : (List GRewrite)) (p_1 : GPacket) (κ : GPacket → Prop) : Prop :=
  jnW (fun (t69 : Bool) => ifW t69 (κ (GPacket.mk 0 0 0 0)) (jnW (fun (t71 : Int) => κ (GPacket.mk p_1.xFrom t71 p_1.xPort p_1.xProto)) (fun k72 => L_impl_moverOf__impl_Rewrite_inward list_0 (fun r73 => L_impl_mover_move r73 p_1.xTo (fun r75 => k72 r75))))) (fun k70 => L_impl_RewritesValid list_0 (fun r7 => ifW (!r7) (k70 true) (L_impl_PacketValid p_1 (fun r8 => k70 (!r8)))))

def L_spec_RewriteOut (list_0 : (List GRewrite)) (p_1 : GPacket) (κ : GPacket → Prop) : Prop :=
  jnW (fun (t69 : Bool) => ifW t69 (κ (GPacket.mk 0 0 0 0)) (loopW (fun (nx72 : Int → Prop) (t71 : Int) => ifW (decide (t71 < (list_0.length : Int))) (idxW list_0 t71 (fun e73 => idxW list_0 t71 (fun e75 => L_spec_l24Map p_1.xFrom e73.xInside e75.xOutside (fun r77 => ifW (decide (0 ≤ r77)) (κ (GPacket.mk r77 p_1.xTo p_1.xPort p_1.xProto)) (addW t71 1 (fun t78 => nx72 t78)))))) (κ p_1)) 0)) (fun k70 => L_spec_RewritesValid list_0 (fun r7 => ifW (!r7) (k70 true) (L_spec_PacketValid p_1 (fun r8 => k70 (!r8)))))

def L_impl_Rewrite_outward (r_0 : GRewrite) (κ : GShift → Prop) : Prop :=
  L_impl_shiftTo r_0.xInside r_0.xOutside (fun r5 => κ r5)

def L_impl_moverOf__impl_Rewrite_outward (list_0 : (List GRewrite)) (κ : (List GShift) → Prop) : Prop :=
  makeW ((GShift.mk (GSpan.mk 0 0) 0) : GShift) 0 (list_0.length : Int) (fun xs5 => loopW (fun (nx12 : ((List GShift) × Int) → Prop) ((xs8, t11) : ((List GShift) × Int)) => ifW (decide (t11 < (list_0.length : Int))) (idxW list_0 t11 (fun e13 => L_impl_Rewrite_outward e13 (fun r17 => appW xs8 ([r17]) (fun _ => addW t11 1 (fun t22 => nx12 ((xs8 ++ ([r17])), t22)))))) (L_lib_sort (fun (a b : GShift) => decide (a.xWhere.xLo < b.xWhere.xLo)) xs8 (fun r23 => κ r23))) (xs5, 0))

def L_impl_RewriteOut (list_0 : (List GRewrite)) (p_1 : GPacket) (κ : GPacket → Prop) : Prop :=
  jnW (fun (t69 : Bool) => ifW t69 (κ (GPacket.mk 0 0 0 0)) (jnW (fun (t71 : Int) => κ (GPacket.mk t71 p_1.xTo p_1.xPort p_1.xProto)) (fun k72 => L_impl_moverOf__impl_Rewrite_outward list_0 (fun r73 => L_impl_mover_move r73 p_1.xFrom (fun r75 => k72 r75))))) (fun k70 => L_impl_RewritesValid list_0 (fun r7 => ifW (!r7) (k70 true) (L_impl_PacketValid p_1 (fun r8 => k70 (!r8)))))

def L_spec_l20Open (code_0 : (List UInt8)) (κ : ((List UInt8) × Int) → Prop) : Prop :=
  jnW (fun (xs68 : (List UInt8)) => κ (xs68, 0)) (fun k71 => ifW (decide (2000 < (code_0.length : Int))) (sliceW code_0 0 2000 (fun xs4 => k71 xs4)) (k71 code_0))

def L_spec_l20Rd_pick (r_0_b : (List UInt8)) (r_0_p : Int) (n_1 : Int) (κ : (Int × Int) → Prop) : Prop :=
  addW r_0_p 1 (fun t5 => jnW (fun (t66 : Bool) => ifW t66 (κ (0, t5)) (subW t5 1 (fun t68 => ifW (decide (t68 < (r_0_b.length : Int))) (idxW r_0_b t68 (fun e69 => remW (e69.toNat : Int) n_1 (fun t71 => κ (t71, t5)))) (remW t68 (r_0_b.length : Int) (fun t72 => idxW r_0_b t72 (fun e73 => mulW (e73.toNat : Int) 131 (fun t75 => mulW t68 7 (fun t76 => addW t76 3 (fun t77 => remW t77 (r_0_b.length : Int) (fun t78 => idxW r_0_b t78 (fun e79 => mulW (e79.toNat : Int) 1117 (fun t81 => addW t75 t81 (fun t82 => mulW t68 29 (fun t83 => addW t82 t83 (fun t84 => quoW t68 (r_0_b.length : Int) (fun t85 => mulW t85 53 (fun t86 => addW t84 t86 (fun t87 => quoW t87 64 (fun t88 => xorW t87 t88 (fun t89 => remW t89 n_1 (fun t90 => κ (t90, t5)))))))))))))))))))))) (fun k67 => ifW (decide (n_1 < 1)) (k67 true) (k67 (decide ((r_0_b.length : Int) = 0)))))

def L_spec_l20Rd_odd (r_0_b : (List UInt8)) (r_0_p : Int) (n_1 : Int) (κ : (Bool × Int) → Prop) : Prop :=
  jnW (fun ((t68, t69) : (Int × Bool)) => κ (t69, t68)) (fun k70 => ifW (decide (0 < n_1)) (L_spec_l20Rd_pick r_0_b r_0_p n_1 (fun (r5, r6) => subW n_1 1 (fun t7 => k70 (r6, (decide (r5 = t7)))))) (k70 (r_0_p, false)))

def L_spec_l20Rewrites (r_0_b : (List UInt8)) (r_0_p : Int) (n_1 : Int) (κ : ((List GRewrite) × Int) → Prop) : Prop :=
  L_spec_l20Rd_pick r_0_b r_0_p 5 (fun (r8, r9) => loopW (fun (nx16 : (Int × (List GRewrite) × Int) → Prop) ((t10, xs12, t15) : (Int × (List GRewrite) × Int)) => ifW (decide (0 < t15)) (jnW (fun ((xs122, t125) : ((List GRewrite) × Int)) => subW t15 1 (fun t127 => nx16 (t125, xs122, t127))) (fun k126 => L_spec_l20Rd_pick r_0_b t10 9 (fun (r17, r18) => addW 8 r17 (fun t19 => subW 16 t19 (fun t20 => shlW 1 t20 (fun t21 => jnW (fun ((t23, t24, t25) : (Int × Int × Int)) => jnW (fun (t44 : Bool) => ifW t44 (appW xs12 ([(GRewrite.mk (GPrefix.mk t23 t19) (GPrefix.mk t24 t19))]) (fun _ => k126 ((xs12 ++ ([(GRewrite.mk (GPrefix.mk t23 t19) (GPrefix.mk t24 t19))])), t25))) (k126 (xs12, t25))) (fun k45 => appW ([]) xs12 (fun _ => appW (([]) ++ xs12) ([(GRewrite.mk (GPrefix.mk t23 t19) (GPrefix.mk t24 t19))]) (fun _ => L_spec_RewritesValid ((([]) ++ xs12) ++ ([(GRewrite.mk (GPrefix.mk t23 t19) (GPrefix.mk t24 t19))])) (fun r52 => k45 r52))))) (fun k26 => L_spec_l20Rd_pick r_0_b r18 128 (fun (r27, r28) => quoW (w64 (r27 * 256)) t21 (fun t29 => L_spec_l20Rd_pick r_0_b r28 128 (fun (r30, r31) => quoW (w64 ((w64 (128 + r30)) * 256)) t21 (fun t32 => k26 ((w64 (t29 * t21)), (w64 (t32 * t21)), r31)))))))))))) (jnW (fun ((t203, xs205) : (Int × (List GRewrite))) => κ (xs205, t203)) (fun k208 => L_spec_l20Rd_odd r_0_b t10 n_1 (fun (r128, r129) => ifW r128 (L_spec_l20Rd_pick r_0_b r129 3 (fun (r130, r131) => ifW (decide (r130 = 0)) (appW xs12 ([(GRewrite.mk (GPrefix.mk 0 8) (GPrefix.mk 19712 9))]) (fun _ => k208 (r131, (xs12 ++ ([(GRewrite.mk (GPrefix.mk 0 8) (GPrefix.mk 19712 9))]))))) (ifW (decide (r130 = 1)) (appW xs12 ([(GRewrite.mk (GPrefix.mk 2304 8) (GPrefix.mk 2304 8))]) (fun _ => k208 (r131, (xs12 ++ ([(GRewrite.mk (GPrefix.mk 2304 8) (GPrefix.mk 2304 8))]))))) (makeW ((GRewrite.mk (GPrefix.mk 0 0) (GPrefix.mk 0 0)) : GRewrite) 11 11 (fun xs141 => k208 (r131, xs141)))))) (k208 (r129, xs12)))))) (r9, [], r8))

def L_impl_SpansHave (list_0 : (List GSpan)) (n_1 : Int) (κ : Bool → Prop) : Prop :=
  loopW (fun (nx4 : Int → Prop) (t3 : Int) => ifW (decide (t3 < (list_0.length : Int))) (idxW list_0 t3 (fun e5 => jnW (fun (t69 : Bool) => ifW t69 (κ true) (addW t3 1 (fun t71 => nx4 t71))) (fun k70 => ifW (decide (e5.xLo ≤ n_1)) (k70 (decide (n_1 ≤ e5.xHi))) (k70 false)))) (κ false)) 0

def L_laws_alive (κ : Bool → Prop) : Prop :=
  L_impl_SpansHave ([(GSpan.mk 2 4)]) 3 (fun r3 => κ r3)

def L_spec_l20Packet (r_0_b : (List UInt8)) (r_0_p : Int) (n_1 : Int) (κ : (GPacket × Int) → Prop) : Prop :=
  L_spec_l20Rd_pick r_0_b r_0_p 20 (fun (r7, r8) => L_spec_l20Rd_pick r_0_b r8 20 (fun (r9, r10) => L_spec_l20Rd_pick r_0_b r10 256 (fun (r11, r12) => L_spec_l20Rd_pick r_0_b r12 8 (fun (r13, r14) => jnW (fun ((t93, t94, t95, t96) : (Int × Int × Int × Int)) => jnW (fun ((t186, t187, t188, t189, t190) : (Int × Int × Int × Int × Int)) => κ ((GPacket.mk t187 t188 t189 t190), t186)) (fun k191 => L_spec_l20Rd_odd r_0_b t93 n_1 (fun (r98, r99) => ifW r98 (L_spec_l20Rd_pick r_0_b r99 4 (fun (r100, r101) => ifW (decide (r100 = 0)) (L_spec_l20Rd_pick r_0_b r101 2 (fun (r104, r105) => idxW ([(-1), 65536]) r104 (fun e106 => k191 (r105, e106, t95, t96, r13)))) (ifW (decide (r100 = 1)) (L_spec_l20Rd_pick r_0_b r101 2 (fun (r110, r111) => idxW ([(-1), 65536]) r110 (fun e112 => k191 (r111, t94, e112, t96, r13)))) (ifW (decide (r100 = 2)) (L_spec_l20Rd_pick r_0_b r101 2 (fun (r116, r117) => idxW ([(-1), 256]) r116 (fun e118 => k191 (r117, t94, t95, e118, r13)))) (L_spec_l20Rd_pick r_0_b r101 2 (fun (r122, r123) => idxW ([(-1), 8]) r122 (fun e124 => k191 (r123, t94, t95, t96, e124)))))))) (k191 (r99, t94, t95, t96, r13))))) (fun k97 => L_spec_l20Rd_pick r_0_b r14 2 (fun (r17, r18) => ifW (decide (r17 = 0)) (L_spec_l20Rd_pick r_0_b r18 256 (fun (r19, r20) => mulW r19 256 (fun t21 => L_spec_l20Rd_pick r_0_b r20 256 (fun (r22, r23) => addW t21 r22 (fun t24 => L_spec_l20Rd_pick r_0_b r23 4 (fun (r25, r26) => mulW r25 16384 (fun t27 => L_spec_l20Rd_pick r_0_b r26 256 (fun (r28, r29) => addW t27 r28 (fun t30 => L_spec_l20Rd_pick r_0_b r29 12 (fun (r31, r32) => k97 (r32, t24, t30, r31))))))))))) (k97 (r18, r7, r9, r11))))))))

def L_spec_l20Way (r_0_b : (List UInt8)) (r_0_p : Int) (κ : ((List GRewrite) × GPacket × Int) → Prop) : Prop :=
  L_spec_l20Rewrites r_0_b r_0_p 12 (fun (r8, r11) => L_spec_l20Packet r_0_b r11 12 (fun (r12, r13) => jnW (fun ((t173, t174, t175) : (Int × Int × Int)) => κ (r8, (GPacket.mk t174 t175 r12.xPort r12.xProto), t173)) (fun k176 => jnW (fun ((t78, t79) : (Int × Bool)) => ifW t79 (L_spec_l20Rd_pick r_0_b t78 (r8.length : Int) (fun (r81, r82) => idxW r8 r81 (fun e83 => jnW (fun ((t87, t88) : (Int × Int)) => jnW (fun ((t100, t101) : (Int × Int)) => k176 (t100, t88, t101)) (fun k102 => L_spec_l20Rd_pick r_0_b t87 3 (fun (r104, r105) => idxW ([e83.xInside.xBase, e83.xOutside.xBase, r12.xTo]) r104 (fun e106 => k102 (r105, e106))))) (fun k89 => L_spec_l20Rd_pick r_0_b r82 3 (fun (r91, r92) => idxW ([e83.xInside.xBase, e83.xOutside.xBase, r12.xFrom]) r91 (fun e93 => k89 (r92, e93))))))) (k176 (t78, r12.xFrom, r12.xTo))) (fun k80 => ifW (decide (0 < (r8.length : Int))) (L_spec_l20Rd_pick r_0_b r13 3 (fun (r16, r17) => k80 (r17, (decide (0 < r16))))) (k80 (r13, false))))))

def L_impl_topValid (top_0 : Int) (κ : Bool → Prop) : Prop :=
  jnW (fun (t61 : Bool) => κ t61) (fun k62 => ifW (decide (0 ≤ top_0)) (k62 (decide (top_0 ≤ 65535))) (k62 false))

def L_impl_SpansOf (list_0 : (List GSpan)) (top_1 : Int) (κ : (List GSpan) → Prop) : Prop :=
  jnW (fun (t65 : Bool) => ifW t65 (κ ([])) (mulW 2 (list_0.length : Int) (fun t68 => makeW ((GEdge.mk 0 0) : GEdge) 0 t68 (fun xs70 => loopW (fun (nx77 : ((List GEdge) × Int) → Prop) ((xs73, t76) : ((List GEdge) × Int)) => ifW (decide (t76 < (list_0.length : Int))) (idxW list_0 t76 (fun e78 => jnW (fun (t142 : Bool) => ifW t142 (κ ([])) (addW e78.xHi 1 (fun t145 => appW xs73 ([(GEdge.mk e78.xLo 1), (GEdge.mk t145 (-1))]) (fun _ => addW t76 1 (fun t150 => nx77 ((xs73 ++ ([(GEdge.mk e78.xLo 1), (GEdge.mk t145 (-1))])), t150)))))) (fun k143 => ifW (decide (e78.xLo < 0)) (k143 true) (ifW (decide (e78.xHi < e78.xLo)) (k143 true) (k143 (decide (top_1 < e78.xHi))))))) (L_lib_sort (fun (a b : GEdge) => decide (a.xAt < b.xAt ∨ (a.xAt = b.xAt ∧ b.xStep < a.xStep))) xs73 (fun r151 => loopW (fun (nx161 : ((List GSpan) × Int × Int × Int) → Prop) ((xs155, t158, t159, t160) : ((List GSpan) × Int × Int × Int)) => ifW (decide (t160 < (r151.length : Int))) (jnW (fun ((xs294, t297, t298) : ((List GSpan) × Int × Int)) => addW t160 1 (fun t300 => nx161 (xs294, t297, t298, t300))) (fun k299 => idxW r151 t160 (fun e162 => jnW (fun (t226 : Int) => addW t158 e162.xStep (fun t228 => ifW (decide (t228 = 0)) (subW e162.xAt 1 (fun t229 => appW xs155 ([(GSpan.mk t226 t229)]) (fun _ => k299 ((xs155 ++ ([(GSpan.mk t226 t229)])), t228, t226)))) (k299 (xs155, t228, t226)))) (fun k227 => ifW (decide (t158 = 0)) (k227 e162.xAt) (k227 t159))))) (κ xs155)) ([], 0, 0, 0)))) (xs70, 0))))) (fun k66 => L_impl_topValid top_1 (fun r4 => ifW (!r4) (k66 true) (k66 (decide (40 < (list_0.length : Int))))))

def L_impl_PrefixesSpans (list_0 : (List GPrefix)) (κ : (List GSpan) → Prop) : Prop :=
  ifW (decide (40 < (list_0.length : Int))) (κ ([])) (makeW ((GSpan.mk 0 0) : GSpan) 0 (list_0.length : Int) (fun xs6 => loopW (fun (nx13 : ((List GSpan) × Int) → Prop) ((xs9, t12) : ((List GSpan) × Int)) => ifW (decide (t12 < (list_0.length : Int))) (idxW list_0 t12 (fun e14 => L_impl_PrefixSpan e14 (fun (r18, r19) => ifW (!r19) (κ ([])) (appW xs9 ([r18]) (fun _ => addW t12 1 (fun t27 => nx13 ((xs9 ++ ([r18])), t27))))))) (L_impl_SpansOf xs9 65535 (fun r28 => κ r28))) (xs6, 0)))

def L_impl_HiddenFrom (list_0 : (List GRewrite)) (κ : (List GSpan) → Prop) : Prop :=
  L_impl_RewritesValid list_0 (fun r4 => ifW (!r4) (κ ([])) (makeW ((GPrefix.mk 0 0) : GPrefix) 0 (list_0.length : Int) (fun xs7 => loopW (fun (nx14 : ((List GPrefix) × Int) → Prop) ((xs10, t13) : ((List GPrefix) × Int)) => ifW (decide (t13 < (list_0.length : Int))) (idxW list_0 t13 (fun e15 => appW xs10 ([e15.xInside]) (fun _ => addW t13 1 (fun t23 => nx14 ((xs10 ++ ([e15.xInside])), t23))))) (L_impl_PrefixesSpans xs10 (fun r24 => κ r24))) (xs7, 0))))

def L_spec_DrawRewriteOut (code_0 : (List UInt8)) (κ : ((List GRewrite) × GPacket) → Prop) : Prop :=
  L_spec_l20Open code_0 (fun (r8, r11) => L_spec_l20Way r8 r11 (fun (r12, r15, r16) => κ (r12, r15)))

def L_impl_Packet_reverse (p_0 : GPacket) (κ : GPacket → Prop) : Prop :=
  κ (GPacket.mk p_0.xTo p_0.xFrom p_0.xPort p_0.xProto)

def L_impl_ReversePacket (p_0 : GPacket) (κ : GPacket → Prop) : Prop :=
  L_impl_PacketValid p_0 (fun r5 => ifW (!r5) (κ (GPacket.mk 0 0 0 0)) (L_impl_Packet_reverse p_0 (fun r6 => κ r6)))

def L_laws_FnRewriteOut (code_0 : (List UInt8)) (κ : Bool → Prop) : Prop :=
  ifW (decide (1048576 < (code_0.length : Int))) (κ true) (L_spec_DrawRewriteOut code_0 (fun (r3, r6) => L_impl_RewriteOut r3 r6 (fun r9 => L_spec_RewriteOut r3 r6 (fun r12 => ifW (!(decide (r9 = r12))) (κ false) (jnW (fun (t75 : Bool) => ifW t75 (jnW (fun (t138 : Bool) => κ t138) (fun k139 => ifW (decide (r9 = (GPacket.mk 0 0 0 0))) (L_laws_alive (fun r77 => k139 r77)) (k139 false))) (loopW (fun (nx147 : ((List GPrefix) × Int) → Prop) ((xs143, t146) : ((List GPrefix) × Int)) => ifW (decide (t146 < (r3.length : Int))) (idxW r3 t146 (fun e148 => appW xs143 ([e148.xOutside]) (fun _ => addW t146 1 (fun t154 => nx147 ((xs143 ++ ([e148.xOutside])), t154))))) (L_impl_HiddenFrom r3 (fun r155 => L_impl_ReversePacket r9 (fun r158 => L_impl_RewriteIn r3 r158 (fun r159 => L_impl_ReversePacket r159 (fun r160 => jnW (fun (t230 : Bool) => κ t230) (fun k231 => L_impl_SpansHave r155 r9.xFrom (fun r163 => ifW (!r163) (ifW (decide (r9.xTo = r6.xTo)) (ifW (decide (r9.xPort = r6.xPort)) (ifW (decide (r160 = r6)) (L_impl_RewriteOut r3 r9 (fun r164 => k231 (decide (r164 = r9)))) (L_impl_PrefixesSpans xs143 (fun r165 => L_impl_SpansHave r165 r6.xFrom (fun r168 => ifW r168 (L_impl_RewriteOut r3 r9 (fun r169 => k231 (decide (r169 = r9)))) (k231 false))))) (k231 false)) (k231 false)) (k231 false))))))))) ([], 0))) (fun k76 => L_spec_RewritesValid r3 (fun r13 => ifW (!r13) (k76 true) (L_spec_PacketValid r6 (fun r14 => k76 (!r14))))))))))


end
section
open Go Go.Proofs

/-- the only form of a set -/
def NF (l : List GSpan) : Prop := (∀ s ∈ l, s.xLo ≤ s.xHi) ∧ l.Pairwise (fun a b => a.xHi + 1 < b.xLo)
/-- a number is in one of the ranges -/
def hv (l : List GSpan) (x : Int) : Prop := ∃ s ∈ l, s.xLo ≤ x ∧ x ≤ s.xHi
theorem NF_nil : NF [] := ⟨by simp, by simp⟩
theorem hv_nil (x : Int) : ¬ hv [] x := by simp [hv]
theorem hv_cons (s : GSpan) (l : List GSpan) (x : Int) : hv (s :: l) x ↔ (s.xLo ≤ x ∧ x ≤ s.xHi) ∨ hv l x := by simp [hv]
theorem hv_app (l m : List GSpan) (x : Int) : hv (l ++ m) x ↔ hv l x ∨ hv m x := by
  simp only [hv, List.mem_append]
  constructor
  · rintro ⟨s, h | h, e⟩
    · exact .inl ⟨s, h, e⟩
    · exact .inr ⟨s, h, e⟩
  · rintro (⟨s, h, e⟩ | ⟨s, h, e⟩)
    · exact ⟨s, .inl h, e⟩
    · exact ⟨s, .inr h, e⟩
theorem NF_tail {s : GSpan} {l : List GSpan} (h : NF (s :: l)) : NF l := ⟨fun t ht => h.1 t (List.mem_cons_of_mem _ ht), (List.pairwise_cons.1 h.2).2⟩
theorem NF_gap {s : GSpan} {l : List GSpan} (h : NF (s :: l)) {x : Int} (hx : hv l x) : s.xHi + 1 < x := by
  obtain ⟨t, ht, e1, _⟩ := hx
  have := (List.pairwise_cons.1 h.2).1 t ht
  omega
theorem NF_head {s : GSpan} {l : List GSpan} (h : NF (s :: l)) {x : Int} (hx : hv (s :: l) x) : s.xLo ≤ x := by
  rcases (hv_cons _ _ _).1 hx with e | e
  · exact e.1
  · have := NF_gap h e
    have := h.1 s (by simp)
    omega
theorem NF_app {l m : List GSpan} (hl : NF l) (hm : NF m) (h : ∀ s ∈ l, ∀ t ∈ m, s.xHi + 1 < t.xLo) : NF (l ++ m) :=
  ⟨fun s hs => (List.mem_append.1 hs).elim (hl.1 s) (hm.1 s), List.pairwise_append.2 ⟨hl.2, hm.2, h⟩⟩
theorem NF_one {s : GSpan} (h : s.xLo ≤ s.xHi) : NF [s] := ⟨by simpa using h, by simp⟩
/-- the form is the only one -/
theorem NF_eq : ∀ {a b : List GSpan}, NF a → NF b → (∀ x, hv a x ↔ hv b x) → a = b
  | [], [], _, _, _ => rfl
  | [], t :: b, _, hb, h => absurd ((h t.xLo).2 ((hv_cons _ _ _).2 (.inl ⟨Int.le_refl _, hb.1 t (by simp)⟩))) (hv_nil _)
  | s :: a, [], ha, _, h => absurd ((h s.xLo).1 ((hv_cons _ _ _).2 (.inl ⟨Int.le_refl _, ha.1 s (by simp)⟩))) (hv_nil _)
  | s :: a, t :: b, ha, hb, h => by
    have h1 := ha.1 s (by simp)
    have h2 := hb.1 t (by simp)
    have l1 : t.xLo ≤ s.xLo := NF_head hb ((h _).1 ((hv_cons _ _ _).2 (.inl ⟨Int.le_refl _, h1⟩)))
    have l2 : s.xLo ≤ t.xLo := NF_head ha ((h _).2 ((hv_cons _ _ _).2 (.inl ⟨Int.le_refl _, h2⟩)))
    have u1 : ¬ s.xHi < t.xHi := fun hlt => by
      have := (h (s.xHi + 1)).2 ((hv_cons _ _ _).2 (.inl ⟨by omega, by omega⟩))
      rcases (hv_cons _ _ _).1 this with e | e
      · omega
      · have := NF_gap ha e; omega
    have u2 : ¬ t.xHi < s.xHi := fun hlt => by
      have := (h (t.xHi + 1)).1 ((hv_cons _ _ _).2 (.inl ⟨by omega, by omega⟩))
      rcases (hv_cons _ _ _).1 this with e | e
      · omega
      · have := NF_gap hb e; omega
    have e : s = t := by
      apply GSpan.ext <;> omega
    subst e
    rw [NF_eq (NF_tail ha) (NF_tail hb) (fun x => ?_)]
    have := h x
    rw [hv_cons, hv_cons] at this
    constructor
    · intro hx
      have g := NF_gap ha hx
      rcases this.1 (.inr hx) with e | e
      · omega
      · exact e
    · intro hx
      have g := NF_gap hb hx
      rcases this.2 (.inr hx) with e | e
      · omega
      · exact e

-- ranges that do not meet, and their order
def apart (a b : GSpan) : Prop := a.xHi < b.xLo ∨ b.xHi < a.xLo
theorem apart_symm {a b : GSpan} (h : apart a b) : apart b a := h.symm
theorem apart_sorted : ∀ {ys : List GSpan}, (∀ s ∈ ys, s.xLo ≤ s.xHi) → ys.Pairwise (fun a b => a.xLo ≤ b.xLo) → (ys.Pairwise apart ↔ ys.Pairwise (fun a b => a.xHi < b.xLo))
  | [], _, _ => by simp
  | s :: ys, h, hs => by
    rw [List.pairwise_cons] at hs
    rw [List.pairwise_cons, List.pairwise_cons, apart_sorted (fun t ht => h t (List.mem_cons_of_mem _ ht)) hs.2]
    refine and_congr_left fun _ => ?_
    constructor
    · intro hh t ht
      rcases hh t ht with e | e
      · exact e
      · have := hs.1 t ht; have := h t (List.mem_cons_of_mem _ ht); omega
    · exact fun hh t ht => .inl (hh t ht)
theorem chain_apart : ∀ {ys : List GSpan}, (∀ s ∈ ys, s.xLo ≤ s.xHi) → (ys.Pairwise (fun a b => a.xHi < b.xLo) ↔ ∀ n, (h : n + 1 < ys.length) → ys[n].xHi < ys[n + 1].xLo)
  | [], _ => by simp
  | [s], _ => by simp
  | s :: t :: ys, h => by
    have ih := chain_apart (ys := t :: ys) (fun u hu => h u (List.mem_cons_of_mem _ hu))
    rw [List.pairwise_cons, ih]
    constructor
    · rintro ⟨h1, h2⟩ n hn
      cases n with
      | zero => exact h1 t (by simp)
      | succ n => exact h2 n (by simpa using hn)
    · intro hh
      have h0 := hh 0 (by simp)
      have h2 : ∀ n, (h : n + 1 < (t :: ys).length) → (t :: ys)[n].xHi < (t :: ys)[n + 1].xLo := fun n hn => hh (n + 1) (by simpa using hn)
      refine ⟨fun u hu => ?_, h2⟩
      rcases List.mem_cons.1 hu with e | e
      · subst e; exact h0
      · have := (List.pairwise_cons.1 (ih.2 h2)).1 u e
        have := h t (by simp)
        simp only [List.getElem_cons_zero, List.getElem_cons_succ] at h0
        omega
theorem perm_apart {xs ys : List GSpan} (h : xs.Perm ys) : xs.Pairwise apart ↔ ys.Pairwise apart := h.pairwise_iff apart_symm

-- the sweep over sorted edges (place, step)
/-- how many begin up to a place -/
def upc (l : List (Int × Int)) (x : Int) : Nat := l.countP (fun e => decide (e.2 = 1 ∧ e.1 ≤ x))
/-- how many end up to a place -/
def dnc (l : List (Int × Int)) (x : Int) : Nat := l.countP (fun e => decide (e.2 = -1 ∧ e.1 ≤ x))
def sweep : List (Int × Int) → List GSpan → Int → Int → List GSpan
  | [], out, _, _ => out
  | e :: es, out, d, st => sweep es (if d + e.2 = 0 then out ++ [GSpan.mk (if d = 0 then e.1 else st) (e.1 - 1)] else out) (d + e.2) (if d = 0 then e.1 else st)
theorem upc_app (l m : List (Int × Int)) (x : Int) : upc (l ++ m) x = upc l x + upc m x := by simp [upc]
theorem dnc_app (l m : List (Int × Int)) (x : Int) : dnc (l ++ m) x = dnc l x + dnc m x := by simp [dnc]
theorem upc_zero {l : List (Int × Int)} {x : Int} (h : ∀ e ∈ l, e.2 = 1 → x < e.1) : upc l x = 0 := by
  unfold upc
  rw [List.countP_eq_zero]
  intro e he hh
  simp only [decide_eq_true_eq] at hh
  have := h e he hh.1
  omega
theorem dnc_zero {l : List (Int × Int)} {x : Int} (h : ∀ e ∈ l, e.2 = -1 → x < e.1) : dnc l x = 0 := by
  unfold dnc
  rw [List.countP_eq_zero]
  intro e he hh
  simp only [decide_eq_true_eq] at hh
  have := h e he hh.1
  omega
theorem dnc_pos {l : List (Int × Int)} {x : Int} {e : Int × Int} (he : e ∈ l) (h1 : e.2 = -1) (h2 : e.1 ≤ x) : 0 < dnc l x := by
  unfold dnc
  rw [List.countP_pos_iff]
  exact ⟨e, he, by simp [h1, h2]⟩
theorem upc_mono (l : List (Int × Int)) {x y : Int} (h : x ≤ y) : upc l x ≤ upc l y := by
  unfold upc
  apply List.countP_mono_left
  intro e _ he
  simp only [decide_eq_true_eq] at he ⊢
  exact ⟨he.1, by omega⟩
/-- sums of steps -/
def stp (l : List (Int × Int)) : Int := (l.map (·.2)).sum
theorem stp_cnt : ∀ (l : List (Int × Int)) (x : Int), (∀ e ∈ l, (e.2 = 1 ∨ e.2 = -1) ∧ e.1 ≤ x) → stp l = (upc l x : Int) - (dnc l x : Int)
  | [], _, _ => by simp [stp, upc, dnc]
  | e :: l, x, h => by
    have ih := stp_cnt l x (fun f hf => h f (List.mem_cons_of_mem _ hf))
    obtain ⟨h1, h2⟩ := h e (by simp)
    simp only [stp, List.map_cons, List.sum_cons] at ih ⊢
    rw [ih]
    simp only [upc, dnc, List.countP_cons]
    rcases h1 with h1 | h1 <;> simp [h1, h2] <;> omega
theorem perm_stp {l m : List (Int × Int)} (h : l.Perm m) : stp l = stp m := by
  unfold stp
  induction h with
  | nil => rfl
  | cons x _ ih => simp only [List.map_cons, List.sum_cons, ih]
  | swap x y l => simp only [List.map_cons, List.sum_cons]; omega
  | trans _ _ h1 h2 => exact h1.trans h2
theorem stp_app (l m : List (Int × Int)) : stp (l ++ m) = stp l + stp m := by simp [stp]
/-- the order of edges -/
def edLe (a b : Int × Int) : Prop := a.1 < b.1 ∨ (a.1 = b.1 ∧ b.2 ≤ a.2)

/-- the sweep, from anywhere on -/
theorem sweep_go {all : List (Int × Int)} (hst : ∀ e ∈ all, e.2 = 1 ∨ e.2 = -1) (hG : ∀ x, dnc all x ≤ upc all (x - 1)) (hz : stp all = 0) :
    ∀ (ys pre : List (Int × Int)) (out : List GSpan) (d st : Int), all = pre ++ ys → all.Pairwise edLe → d = stp pre → NF out →
    (d = 0 → (∀ s ∈ out, ∀ e ∈ ys, s.xHi + 1 < e.1) ∧ (∀ x, (∀ e ∈ ys, x < e.1) → (hv out x ↔ dnc all x < upc all x))) →
    (d ≠ 0 → 0 < d ∧ (∀ s ∈ out, s.xHi + 1 < st) ∧ (∀ x, x < st → (hv out x ↔ dnc all x < upc all x)) ∧ (∀ x, st ≤ x → (∀ e ∈ ys, x < e.1) → dnc all x < upc all x) ∧ (∀ e ∈ ys, e.2 = -1 → st < e.1) ∧ (∀ e ∈ ys, st ≤ e.1)) →
    NF (sweep ys out d st) ∧ ∀ x, hv (sweep ys out d st) x ↔ dnc all x < upc all x
  | [], pre, out, d, st, he, hs, hd, hn, h0, h1 => by
    have e0 : d = 0 := by rw [hd]; rw [he, List.append_nil] at hz; exact hz
    exact ⟨hn, fun x => (h0 e0).2 x (by simp)⟩
  | e :: ys, pre, out, d, st, he, hs, hd, hn, h0, h1 => by
    have hs' := hs
    rw [he, List.pairwise_append, List.pairwise_cons] at hs'
    obtain ⟨_, ⟨s1, s2⟩, s3⟩ := hs'
    have hpre : ∀ f ∈ pre, f.1 ≤ e.1 := fun f hf => by
      have := s3 f hf e (by simp)
      rcases this with q | q <;> omega
    have hys : ∀ f ∈ ys, e.1 ≤ f.1 := fun f hf => by
      have := s1 f hf
      rcases this with q | q <;> omega
    have hste : e.2 = 1 ∨ e.2 = -1 := hst e (by rw [he]; simp)
    have hst' : ∀ f ∈ pre ++ [e], f.2 = 1 ∨ f.2 = -1 := fun f hf => hst f (by
      rw [he]
      rcases List.mem_append.1 hf with q | q
      · simp [q]
      · simp at q; simp [q])
    have hd' : d + e.2 = stp (pre ++ [e]) := by rw [stp_app, hd]; simp [stp]
    -- the count of open ranges between this edge and the next
    have hcov : ∀ x, e.1 ≤ x → (∀ f ∈ ys, x < f.1) → d + e.2 = (upc all x : Int) - (dnc all x : Int) := fun x hx hy => by
      have := stp_cnt (pre ++ [e]) x (fun f hf => ⟨hst' f hf, by
        rcases List.mem_append.1 hf with q | q
        · have := hpre f q; omega
        · simp at q; rw [q]; exact hx⟩)
      rw [hd', this, he, show pre ++ e :: ys = (pre ++ [e]) ++ ys by simp, upc_app _ ys, dnc_app _ ys, upc_zero (fun f hf _ => hy f hf), dnc_zero (fun f hf _ => hy f hf)]
      rfl
    have hdp : d = (upc pre e.1 : Int) - (dnc pre e.1 : Int) := by
      rw [hd]; exact stp_cnt pre e.1 (fun f hf => ⟨hst' f (by simp [hf]), hpre f hf⟩)
    have hGe := hG e.1
    rw [he, upc_app, dnc_app] at hGe
    have hup0 : upc (e :: ys) (e.1 - 1) = 0 := upc_zero (fun f hf _ => by
      rcases List.mem_cons.1 hf with q | q
      · rw [q]; omega
      · have := hys f q; omega)
    have hupm := upc_mono pre (show e.1 - 1 ≤ e.1 by omega)
    have hcv : ∀ x, dnc all x ≤ upc all x := fun x => Nat.le_trans (hG x) (upc_mono _ (by omega))
    have hall : all = (pre ++ [e]) ++ ys := by rw [he]; simp
    -- an end: all that follow at the same place are ends
    have hends : e.2 = -1 → d + e.2 = 0 → ∀ f ∈ ys, e.1 < f.1 := fun h2 hz0 f hf => by
      rcases s1 f hf with q | ⟨q1, q2⟩
      · exact q
      · exfalso
        have hf2 : f.2 = -1 := by
          rcases hst f (by rw [he]; simp [hf]) with r | r
          · omega
          · exact r
        have c1 := hcv e.1
        rw [hall, upc_app, dnc_app] at c1
        have c2 := stp_cnt (pre ++ [e]) e.1 (fun f hf => ⟨hst' f hf, by
          rcases List.mem_append.1 hf with q | q
          · exact hpre f q
          · simp at q; rw [q]; exact Int.le_refl _⟩)
        rw [← hd', hz0] at c2
        have c3 := dnc_pos hf hf2 (x := e.1) (by omega)
        have c4 : upc ys e.1 = 0 := upc_zero (fun g hg h1 => by
          rcases s1 g hg with r | ⟨r1, r2⟩
          · exact r
          · omega)
        omega
    unfold sweep
    by_cases hd0 : d = 0
    · have hup : e.2 = 1 := by
        rcases hste with q | q
        · exact q
        · exfalso
          have := dnc_pos (l := e :: ys) (e := e) (by simp) q (x := e.1) (Int.le_refl _)
          omega
      have hno : ∀ f ∈ ys, f.2 = -1 → e.1 < f.1 := fun f hf h2 => by
        rcases Int.lt_or_le e.1 f.1 with q | q
        · exact q
        · exfalso
          have := dnc_pos (l := e :: ys) (e := f) (by simp [hf]) h2 (x := e.1) q
          omega
      obtain ⟨a1, a2⟩ := h0 hd0
      rw [if_neg (by omega), if_pos hd0]
      refine sweep_go hst hG hz ys (pre ++ [e]) out (d + e.2) e.1 hall hs hd' hn (fun h => by omega) (fun _ => ⟨by omega, fun s hs => a1 s hs e (by simp), fun x hx => a2 x (fun f hf => ?_), fun x hx hy => ?_, hno, hys⟩)
      · rcases List.mem_cons.1 hf with q | q
        · rw [q]; exact hx
        · have := hys f q; omega
      · have := hcov x hx hy; omega
    · obtain ⟨b1, b2, b3, b4, b5, b6⟩ := h1 hd0
      rw [if_neg hd0]
      have hbe := b6 e (by simp)
      by_cases hz0 : d + e.2 = 0
      · have hdn : e.2 = -1 := by omega
        have hlt := b5 e (by simp) hdn
        rw [if_pos hz0]
        have hnx := hends hdn hz0
        refine sweep_go hst hG hz ys (pre ++ [e]) _ (d + e.2) st hall hs hd' (NF_app hn (NF_one (by simp only; omega)) (fun s hs t ht => ?_)) (fun _ => ⟨fun s hs f hf => ?_, fun x hx => ?_⟩) (fun h => absurd hz0 h)
        · simp at ht; subst ht; exact b2 s hs
        · have := hnx f hf
          rcases List.mem_append.1 hs with q | q
          · have := b2 s q; omega
          · simp at q; subst q; simp only; omega
        · rw [hv_app, hv_cons]
          simp only [hv_nil, or_false]
          by_cases h2 : x < st
          · rw [b3 x h2]
            constructor
            · rintro (q | q)
              · exact q
              · omega
            · exact .inl
          · have hno : ¬ hv out x := fun ⟨s, hs, q1, q2⟩ => by have := b2 s hs; omega
            by_cases h3 : x < e.1
            · have : dnc all x < upc all x := b4 x (by omega) (fun f hf => by
                rcases List.mem_cons.1 hf with q | q
                · rw [q]; exact h3
                · exact hx f q)
              simp only [this, iff_true]
              exact .inr ⟨by omega, by omega⟩
            · have := hcov x (by omega) hx
              constructor
              · rintro (q | q)
                · exact absurd q hno
                · omega
              · intro q; omega
      · rw [if_neg hz0]
        have hpos : 0 < d + e.2 := by omega
        refine sweep_go hst hG hz ys (pre ++ [e]) out (d + e.2) st hall hs hd' hn (fun h => absurd h hz0) (fun _ => ⟨hpos, b2, b3, fun x hx hy => ?_, fun f hf => b5 f (by simp [hf]), fun f hf => b6 f (by simp [hf])⟩)
        by_cases h3 : x < e.1
        · exact b4 x hx (fun f hf => by
            rcases List.mem_cons.1 hf with q | q
            · rw [q]; exact h3
            · exact hy f q)
        · have := hcov x (by omega) hy; omega
/-- the edges of ranges -/
def edg (xs : List GSpan) : List (Int × Int) := xs.flatMap fun s => [(s.xLo, 1), (s.xHi + 1, -1)]
theorem edg_cons (s : GSpan) (xs : List GSpan) : edg (s :: xs) = (s.xLo, 1) :: (s.xHi + 1, -1) :: edg xs := by simp [edg]
theorem edg_up : ∀ (xs : List GSpan) (x : Int), upc (edg xs) x = xs.countP (fun s => decide (s.xLo ≤ x))
  | [], _ => by simp [edg, upc]
  | s :: xs, x => by
    have ih := edg_up xs x
    simp only [upc] at ih ⊢
    rw [edg_cons, List.countP_cons, List.countP_cons, ih, List.countP_cons]
    simp
theorem edg_dn : ∀ (xs : List GSpan) (x : Int), dnc (edg xs) x = xs.countP (fun s => decide (s.xHi + 1 ≤ x))
  | [], _ => by simp [edg, dnc]
  | s :: xs, x => by
    have ih := edg_dn xs x
    simp only [dnc] at ih ⊢
    rw [edg_cons, List.countP_cons, List.countP_cons, ih, List.countP_cons]
    simp
theorem edg_st : ∀ (xs : List GSpan), ∀ e ∈ edg xs, e.2 = 1 ∨ e.2 = -1
  | [], e, h => by simp [edg] at h
  | s :: xs, e, h => by
    rw [edg_cons] at h
    rcases List.mem_cons.1 h with q | h
    · subst q; exact .inl rfl
    rcases List.mem_cons.1 h with q | h
    · subst q; exact .inr rfl
    exact edg_st xs e h
theorem edg_z : ∀ (xs : List GSpan), stp (edg xs) = 0
  | [] => by simp [edg, stp]
  | s :: xs => by
    have := edg_z xs
    simp only [stp, edg_cons, List.map_cons, List.sum_cons] at this ⊢
    omega
theorem cnt_hv : ∀ (xs : List GSpan) (x : Int), (∀ s ∈ xs, s.xLo ≤ s.xHi) → xs.countP (fun s => decide (s.xHi + 1 ≤ x)) ≤ xs.countP (fun s => decide (s.xLo ≤ x)) ∧ (hv xs x ↔ xs.countP (fun s => decide (s.xHi + 1 ≤ x)) < xs.countP (fun s => decide (s.xLo ≤ x)))
  | [], x, _ => by simp [hv]
  | s :: xs, x, h => by
    obtain ⟨i1, i2⟩ := cnt_hv xs x (fun t ht => h t (List.mem_cons_of_mem _ ht))
    have h0 := h s (by simp)
    rw [List.countP_cons, List.countP_cons, hv_cons, i2]
    simp only [decide_eq_true_eq]
    by_cases c1 : s.xHi + 1 ≤ x
    · have c2 : s.xLo ≤ x := by omega
      rw [if_pos c1, if_pos c2]
      constructor
      · omega
      · constructor
        · rintro (q | q) <;> omega
        · intro q; exact .inr (by omega)
    · rw [if_neg c1]
      by_cases c2 : s.xLo ≤ x
      · rw [if_pos c2]
        refine ⟨by omega, fun _ => by omega, fun _ => .inl ⟨c2, by omega⟩⟩
      · rw [if_neg c2]
        refine ⟨by omega, fun q => ?_, fun q => .inr (by omega)⟩
        rcases q with q | q <;> omega
/-- what the sweep over the sorted edges returns: the set in its form -/
theorem sweep_spec {xs : List GSpan} (hok : ∀ s ∈ xs, s.xLo ≤ s.xHi) {es : List (Int × Int)} (hp : (edg xs).Perm es) (hs : es.Pairwise edLe) (st : Int) :
    NF (sweep es [] 0 st) ∧ ∀ x, hv (sweep es [] 0 st) x ↔ hv xs x := by
  have u : ∀ x, upc es x = xs.countP (fun s => decide (s.xLo ≤ x)) := fun x => by
    rw [← edg_up xs x]; exact (hp.countP_eq _).symm
  have d : ∀ x, dnc es x = xs.countP (fun s => decide (s.xHi + 1 ≤ x)) := fun x => by
    rw [← edg_dn xs x]; exact (hp.countP_eq _).symm
  have hz : stp es = 0 := by
    rw [← edg_z xs]; exact (perm_stp hp).symm
  have hG : ∀ x, dnc es x ≤ upc es (x - 1) := fun x => by
    rw [u, d]
    apply List.countP_mono_left
    intro s hs h
    simp only [decide_eq_true_eq] at h ⊢
    have := hok s hs
    omega
  have := sweep_go (all := es) (fun e he => edg_st xs e (hp.mem_iff.2 he)) hG hz es [] [] 0 st (by simp) hs (by simp [stp]) NF_nil (fun _ => ⟨by simp, fun x hx => by
    rw [upc_zero (fun e he _ => hx e he), dnc_zero (fun e he _ => hx e he)]
    simp [hv]⟩) (fun h => absurd rfl h)
  refine ⟨this.1, fun x => ?_⟩
  rw [this.2 x, u, d]
  exact ((cnt_hv xs x hok).2).symm

-- adding a range
def addS : List GSpan → GSpan → List GSpan → Bool → List GSpan × GSpan × Bool
  | [], s, out, pl => (out, s, pl)
  | x :: xs, s, out, pl =>
    if x.xHi + 1 < s.xLo then addS xs s (out ++ [x]) pl
    else if s.xHi + 1 < x.xLo then addS xs s ((if pl then out else out ++ [s]) ++ [x]) true
    else addS xs (GSpan.mk (min s.xLo x.xLo) (max s.xHi x.xHi)) out pl
def add1 (l : List GSpan) (s : GSpan) : List GSpan :=
  match addS l s [] false with
  | (out, s', pl) => if pl then out else out ++ [s']
theorem add_go : ∀ (l : List GSpan) (s : GSpan) (out : List GSpan) (pl : Bool), NF l → s.xLo ≤ s.xHi → NF out →
    (pl = false → (∀ t ∈ out, t.xHi + 1 < s.xLo) ∧ (∀ t ∈ out, ∀ u ∈ l, t.xHi + 1 < u.xLo)) →
    (pl = true → (∀ t ∈ out, ∀ u ∈ l, t.xHi + 1 < u.xLo) ∧ (∀ u ∈ l, s.xHi + 1 < u.xLo) ∧ s ∈ out) →
    NF (match addS l s out pl with | (o, s', p) => if p then o else o ++ [s']) ∧ ∀ x, hv (match addS l s out pl with | (o, s', p) => if p then o else o ++ [s']) x ↔ hv out x ∨ hv l x ∨ (s.xLo ≤ x ∧ x ≤ s.xHi)
  | [], s, out, pl, hl, hs, ho, h0, h1 => by
    simp only [addS]
    cases pl with
    | true =>
      simp only [if_true]
      obtain ⟨_, _, hm⟩ := h1 rfl
      refine ⟨ho, fun x => ⟨.inl, ?_⟩⟩
      rintro (q | q | q)
      · exact q
      · exact absurd q (hv_nil x)
      · exact ⟨s, hm, q⟩
    | false =>
      simp only [Bool.false_eq_true, if_false]
      obtain ⟨ha, _⟩ := h0 rfl
      refine ⟨NF_app ho (NF_one hs) (fun t ht u hu => by simp at hu; subst hu; exact ha t ht), fun x => ?_⟩
      rw [hv_app, hv_cons]
      simp [hv_nil]
  | y :: l, s, out, pl, hl, hs, ho, h0, h1 => by
    have hy := hl.1 y (by simp)
    have hgap := (List.pairwise_cons.1 hl.2).1
    have hl' := NF_tail hl
    unfold addS
    by_cases c1 : y.xHi + 1 < s.xLo
    · rw [if_pos c1]
      have hpl : pl = false := by
        cases pl with
        | false => rfl
        | true => have := (h1 rfl).2.1 y (by simp); omega
      subst hpl
      obtain ⟨a1, a2⟩ := h0 rfl
      have ih := add_go l s (out ++ [y]) false hl' hs (NF_app ho (NF_one hy) (fun t ht u hu => by simp at hu; subst hu; exact a2 t ht u (by simp)))
        (fun _ => ⟨fun t ht => by
          rcases List.mem_append.1 ht with q | q
          · exact a1 t q
          · simp at q; subst q; exact c1, fun t ht u hu => by
          rcases List.mem_append.1 ht with q | q
          · exact a2 t q u (by simp [hu])
          · simp at q; subst q; exact hgap u hu⟩) (fun h => by simp at h)
      refine ⟨ih.1, fun x => ?_⟩
      rw [ih.2 x, hv_app, hv_cons, hv_cons]
      simp only [hv_nil, or_false]
      constructor
      · rintro ((q | q) | q | q)
        · exact .inl q
        · exact .inr (.inl (.inl q))
        · exact .inr (.inl (.inr q))
        · exact .inr (.inr q)
      · rintro (q | (q | q) | q)
        · exact .inl (.inl q)
        · exact .inl (.inr q)
        · exact .inr (.inl q)
        · exact .inr (.inr q)
    · rw [if_neg c1]
      by_cases c2 : s.xHi + 1 < y.xLo
      · rw [if_pos c2]
        cases pl with
        | true =>
          simp only [if_true]
          obtain ⟨a1, a2, a3⟩ := h1 rfl
          have ih := add_go l s (out ++ [y]) true hl' hs (NF_app ho (NF_one hy) (fun t ht u hu => by simp at hu; subst hu; exact a1 t ht u (by simp))) (fun h => by simp at h)
            (fun _ => ⟨fun t ht u hu => by
              rcases List.mem_append.1 ht with q | q
              · exact a1 t q u (by simp [hu])
              · simp at q; subst q; exact hgap u hu, fun u hu => a2 u (by simp [hu]), by simp [a3]⟩)
          refine ⟨ih.1, fun x => ?_⟩
          rw [ih.2 x, hv_app, hv_cons, hv_cons]
          simp only [hv_nil, or_false]
          constructor
          · rintro ((q | q) | q | q)
            · exact .inl q
            · exact .inr (.inl (.inl q))
            · exact .inr (.inl (.inr q))
            · exact .inr (.inr q)
          · rintro (q | (q | q) | q)
            · exact .inl (.inl q)
            · exact .inl (.inr q)
            · exact .inr (.inl q)
            · exact .inr (.inr q)
        | false =>
          simp only [Bool.false_eq_true, if_false]
          obtain ⟨a1, a2⟩ := h0 rfl
          have n1 : NF (out ++ [s]) := NF_app ho (NF_one hs) (fun t ht u hu => by simp at hu; subst hu; exact a1 t ht)
          have ih := add_go l s ((out ++ [s]) ++ [y]) true hl' hs (NF_app n1 (NF_one hy) (fun t ht u hu => by
              simp at hu; subst hu
              rcases List.mem_append.1 ht with q | q
              · exact a2 t q u (by simp)
              · simp at q; subst q; exact c2)) (fun h => by simp at h)
            (fun _ => ⟨fun t ht u hu => by
              have hg := hgap u hu
              rcases List.mem_append.1 ht with q | q
              · rcases List.mem_append.1 q with q | q
                · exact a2 t q u (by simp [hu])
                · simp at q; subst q; omega
              · simp at q; subst q; exact hg, fun u hu => by have := hgap u hu; omega, by simp⟩)
          refine ⟨ih.1, fun x => ?_⟩
          rw [ih.2 x, hv_app, hv_app, hv_cons, hv_cons, hv_cons]
          simp only [hv_nil, or_false]
          constructor
          · rintro (((q | q) | q) | q | q)
            · exact .inl q
            · exact .inr (.inr q)
            · exact .inr (.inl (.inl q))
            · exact .inr (.inl (.inr q))
            · exact .inr (.inr q)
          · rintro (q | (q | q) | q)
            · exact .inl (.inl (.inl q))
            · exact .inl (.inr q)
            · exact .inr (.inl q)
            · exact .inr (.inr q)
      · rw [if_neg c2]
        have hpl : pl = false := by
          cases pl with
          | false => rfl
          | true => have := (h1 rfl).2.1 y (by simp); omega
        subst hpl
        obtain ⟨a1, a2⟩ := h0 rfl
        have ih := add_go l (GSpan.mk (min s.xLo y.xLo) (max s.xHi y.xHi)) out false hl' (by simp only; omega) ho
          (fun _ => ⟨fun t ht => by
            have := a1 t ht; have := a2 t ht y (by simp)
            simp only; omega, fun t ht u hu => a2 t ht u (by simp [hu])⟩) (fun h => by simp at h)
        refine ⟨ih.1, fun x => ?_⟩
        rw [ih.2 x, hv_cons]
        simp only
        constructor
        · rintro (q | q | q)
          · exact .inl q
          · exact .inr (.inl (.inr q))
          · by_cases c3 : y.xLo ≤ x ∧ x ≤ y.xHi
            · exact .inr (.inl (.inl c3))
            · exact .inr (.inr (by omega))
        · rintro (q | (q | q) | q)
          · exact .inl q
          · exact .inr (.inr (by omega))
          · exact .inr (.inl q)
          · exact .inr (.inr (by omega))
/-- adding a range: the form stays, and the range comes to the set -/
theorem add_spec {l : List GSpan} {s : GSpan} (hl : NF l) (hs : s.xLo ≤ s.xHi) : NF (add1 l s) ∧ ∀ x, hv (add1 l s) x ↔ hv l x ∨ (s.xLo ≤ x ∧ x ≤ s.xHi) := by
  have := add_go l s [] false hl hs NF_nil (fun _ => ⟨by simp, by simp⟩) (fun h => by simp at h)
  refine ⟨this.1, fun x => ?_⟩
  have := this.2 x
  simp only [hv_nil, false_or] at this
  exact this
theorem addAll_spec : ∀ (xs l : List GSpan), NF l → (∀ s ∈ xs, s.xLo ≤ s.xHi) → NF (xs.foldl add1 l) ∧ ∀ x, hv (xs.foldl add1 l) x ↔ hv l x ∨ hv xs x
  | [], l, hl, _ => ⟨hl, fun x => by simp [hv_nil]⟩
  | s :: xs, l, hl, h => by
    obtain ⟨n1, e1⟩ := add_spec hl (h s (by simp))
    obtain ⟨n2, e2⟩ := addAll_spec xs (add1 l s) n1 (fun t ht => h t (List.mem_cons_of_mem _ ht))
    refine ⟨n2, fun x => ?_⟩
    rw [List.foldl_cons, e2 x, e1 x, hv_cons]
    constructor
    · rintro ((q | q) | q)
      · exact .inl q
      · exact .inr (.inl q)
      · exact .inr (.inr q)
    · rintro (q | q | q)
      · exact .inl (.inl q)
      · exact .inl (.inr q)
      · exact .inr q
/-- both ways to the set of ranges are one -/
theorem sweep_add {xs : List GSpan} (hok : ∀ s ∈ xs, s.xLo ≤ s.xHi) {es : List (Int × Int)} (hp : (edg xs).Perm es) (hs : es.Pairwise edLe) (st : Int) : sweep es [] 0 st = xs.foldl add1 [] := by
  obtain ⟨n1, e1⟩ := sweep_spec hok hp hs st
  obtain ⟨n2, e2⟩ := addAll_spec xs [] NF_nil hok
  refine NF_eq n1 n2 (fun x => ?_)
  rw [e1, e2]
  simp [hv_nil]


end
section


theorem ifW_t {A B : Prop} (h : A) : ifW true A B := ⟨fun _ => h, (fun e => by cases e)⟩
theorem ifW_f {A B : Prop} (h : B) : ifW false A B := ⟨(fun e => by cases e), fun _ => h⟩
theorem ifW_of {c : Bool} {A B : Prop} (ht : c = true → A) (hf : c = false → B) : ifW c A B := ⟨ht, hf⟩
@[simp] theorem ifW_true {A B : Prop} : ifW true A B = A := propext ⟨fun h => h.1 rfl, ifW_t⟩
@[simp] theorem ifW_false {A B : Prop} : ifW false A B = B := propext ⟨fun h => h.2 rfl, ifW_f⟩
theorem addW_of {x y : Int} {κ : Int → Prop} (h1 : -9223372036854775808 ≤ x + y) (h2 : x + y ≤ 9223372036854775807) (h : κ (x + y)) : addW x y κ := ⟨⟨h1, h2⟩, h⟩
theorem subW_of {x y : Int} {κ : Int → Prop} (h1 : -9223372036854775808 ≤ x - y) (h2 : x - y ≤ 9223372036854775807) (h : κ (x - y)) : subW x y κ := ⟨⟨h1, h2⟩, h⟩
theorem mulW_of {x y : Int} {κ : Int → Prop} (h1 : -9223372036854775808 ≤ x * y) (h2 : x * y ≤ 9223372036854775807) (h : κ (x * y)) : mulW x y κ := ⟨⟨h1, h2⟩, h⟩
theorem quoW_of {x y : Int} {κ : Int → Prop} (h1 : 0 ≤ x) (h2 : x ≤ 9223372036854775807) (h3 : 0 < y) (h : κ (x / y)) : quoW x y κ := ⟨h3, ⟨by omega, h2⟩, by rw [Int.tdiv_eq_ediv_of_nonneg h1]; exact h⟩
theorem remW_of {x y : Int} {κ : Int → Prop} (h1 : 0 ≤ x) (h2 : x ≤ 9223372036854775807) (h3 : 0 < y) (h : κ (x % y)) : remW x y κ := ⟨h1, h3, ⟨by omega, h2⟩, h⟩
theorem idxW_of {α : Type} {xs : List α} {i : Int} {κ : α → Prop} (n : Nat) (hi : i = n) (hn : n < xs.length) (h : κ xs[n]) : idxW xs i κ := by
  subst hi
  exact ⟨xs[n], by omega, by simp [hn], h⟩
theorem appW_of {α : Type} {xs ys : List α} {κ : List α → Prop} (h1 : xs.length + ys.length ≤ 4294967296) (h : κ (xs ++ ys)) : appW xs ys κ := ⟨h1, h⟩
theorem makeW_of {α : Type} {z : α} {n m : Int} {κ : List α → Prop} (k : Nat) (hn : n = k) (h1 : n ≤ m) (h2 : m ≤ 4294967296) (h : κ (List.replicate k z)) : makeW z n m κ := by
  subst hn
  refine ⟨by omega, h1, ?_, by simpa using h⟩
  unfold lenOk
  omega

/-- a loop that counts a place up to a length, with a state: after each round the state's law holds of the next place -/
theorem count_loop {σ : Type} {F : (σ → Prop) → σ → Prop} (len : Nat) (pos : σ → Int) (I : Nat → σ → Prop) (hpos : ∀ k s, I k s → pos s = k) (hle : ∀ k s, I k s → k ≤ len)
    (h : ∀ k s next, I k s → (k < len → ∀ s', I (k + 1) s' → next s') → F next s) {s : σ} (h0 : I 0 s) : loopW F s := by
  refine loopW_inv (fun s => ∃ k, I k s) (fun s => len - (pos s).toNat) (fun s next ⟨k, hk⟩ hn => ?_) ⟨0, h0⟩
  refine h k s next hk (fun hlt s' hs' => hn s' ⟨k + 1, hs'⟩ ?_)
  rw [hpos _ _ hk, hpos _ _ hs']
  omega

/-- the same, from a place k0 on -/
theorem count_loop_from {σ : Type} {F : (σ → Prop) → σ → Prop} (k0 len : Nat) (pos : σ → Int) (I : Nat → σ → Prop) (hpos : ∀ k s, I k s → pos s = k) (hle : ∀ k s, I k s → k ≤ len)
    (h : ∀ k s next, I k s → (k < len → ∀ s', I (k + 1) s' → next s') → F next s) {s : σ} (h0 : I k0 s) : loopW F s := by
  refine loopW_inv (fun s => ∃ k, I k s) (fun s => len - (pos s).toNat) (fun s next ⟨k, hk⟩ hn => ?_) ⟨k0, h0⟩
  refine h k s next hk (fun hlt s' hs' => hn s' ⟨k + 1, hs'⟩ ?_)
  rw [hpos _ _ hk, hpos _ _ hs']
  omega

end
section
open Go.Lib (decDigits)

def B (l : List UInt8) : ByteArray := ByteArray.mk l.toArray
/-- a digit -/
def dg (c : UInt8) : Bool := decide (48 ≤ c.toNat) && decide (c.toNat ≤ 57)
def val (l : List UInt8) : Nat := l.foldl (fun n c => 10 * n + (c.toNat - 48)) 0
/-- the number at the head of a text: at most six digits -/
def run : Nat → List UInt8 → List UInt8
  | 0, _ => []
  | _, [] => []
  | k + 1, c :: l => if dg c then c :: run k l else []
end
section


theorem u8_lt (e : UInt8) : (0 : Int) ≤ (e.toNat : Int) ∧ (e.toNat : Int) ≤ 255 := by
  have := e.toNat_lt
  omega
theorem xorW_of {x y : Int} {κ : Int → Prop} (h1 : 0 ≤ x) (h2 : x < 4611686018427387904) (h3 : 0 ≤ y) (h4 : y < 4611686018427387904) (h : ∀ z, 0 ≤ z → z < 4611686018427387904 → κ z) : xorW x y κ := by
  refine ⟨h1, h2, h3, h4, h _ (by omega) ?_⟩
  have : x.toNat ^^^ y.toNat < 2 ^ 62 := Nat.xor_lt_two_pow (by omega) (by omega)
  have e : (2 : Nat) ^ 62 = 4611686018427387904 := by decide
  rw [e] at this
  omega
theorem remW_lt {x y : Int} {κ : Int → Prop} (h1 : 0 ≤ x) (h2 : x ≤ 9223372036854775807) (h3 : 0 < y) (h : ∀ z, 0 ≤ z → z < y → κ z) : remW x y κ :=
  remW_of h1 h2 h3 (h _ (Int.emod_nonneg _ (by omega)) (Int.emod_lt_of_pos _ h3))
theorem quoW_le {x y : Int} {κ : Int → Prop} (h1 : 0 ≤ x) (h2 : x ≤ 9223372036854775807) (h3 : 0 < y) (h : ∀ z, 0 ≤ z → z ≤ x → κ z) : quoW x y κ :=
  quoW_of h1 h2 h3 (h _ (Int.ediv_nonneg h1 (by omega)) (Int.ediv_le_self _ h1))
theorem idxW_any {α : Type} {xs : List α} {i : Int} {κ : α → Prop} (h1 : 0 ≤ i) (h2 : i < xs.length) (h : ∀ x, x ∈ xs → κ x) : idxW xs i κ := by
  obtain ⟨n, rfl⟩ := Int.eq_ofNat_of_zero_le h1
  have hn : n < xs.length := by omega
  exact idxW_of n rfl hn (h _ (List.getElem_mem hn))

/-- the reader stands at p of the bytes b -/
def RdP (b : List UInt8) (p : Int) : Prop := b.length ≤ 2000 ∧ 0 ≤ p ∧ p ≤ 1000000

theorem S_pick {b : List UInt8} {p n : Int} (hr : RdP b p) {κ : Int × Int → Prop} (h : ∀ v, 0 ≤ v → (v = 0 ∨ v < n) → κ (v, p + 1)) : L_spec_l20Rd_pick b p n κ := by
  obtain ⟨hb, h0, h1⟩ := hr
  unfold L_spec_l20Rd_pick jnW
  have hz : κ (0, p + 1) := h 0 (Int.le_refl _) (.inl rfl)
  refine addW_of (by omega) (by omega) (ifW_of (fun hc => ?_) (fun hc => ifW_of (fun hc2 => ?_) (fun hc2 => ?_)))
  · simp only [ifW_true]; exact hz
  · exact hz
  · simp at hc hc2
    have hpos : 0 < (b.length : Int) := by
      cases b with
      | nil => simp at hc2
      | cons x l => simp
    refine subW_of (by omega) (by omega) ?_
    have ep : p + 1 - 1 = p := by omega
    rw [ep]
    refine ifW_of (fun hc3 => ?_) (fun hc3 => ?_)
    · simp at hc3
      refine idxW_any h0 hc3 (fun e _ => ?_)
      have := u8_lt e
      exact remW_lt (by omega) (by omega) (by omega) (fun z z1 z2 => h z z1 (.inr z2))
    · refine remW_lt h0 (by omega) hpos (fun z z1 z2 => idxW_any z1 z2 (fun e _ => ?_))
      have he := u8_lt e
      refine mulW_of (by omega) (by omega) (mulW_of (by omega) (by omega) (addW_of (by omega) (by omega) (remW_lt (by omega) (by omega) hpos (fun y y1 y2 => idxW_any y1 y2 (fun d _ => ?_)))))
      have hd := u8_lt d
      refine mulW_of (by omega) (by omega) (addW_of (by omega) (by omega) (mulW_of (by omega) (by omega) (addW_of (by omega) (by omega) (quoW_le (by omega) (by omega) hpos (fun q q1 q2 => ?_)))))
      refine mulW_of (by omega) (by omega) (addW_of (by omega) (by omega) (quoW_le (by omega) (by omega) (by omega) (fun r r1 r2 => ?_)))
      exact xorW_of (by omega) (by omega) (by omega) (by omega) (fun x x1 x2 => remW_lt x1 (by omega) (by omega) (fun z z1 z2 => h z z1 (.inr z2)))
theorem S_odd {b : List UInt8} {p n : Int} (hr : RdP b p) (hn : n ≤ 4294967296) {κ : Bool × Int → Prop} (h : ∀ c p', p ≤ p' → p' ≤ p + 1 → κ (c, p')) : L_spec_l20Rd_odd b p n κ := by
  unfold L_spec_l20Rd_odd jnW
  refine ifW_of (fun hc => S_pick hr (fun v v1 v2 => subW_of (by simp at hc; omega) (by simp at hc; omega) (h _ _ (by omega) (by omega)))) (fun hc => h _ _ (by omega) (by omega))

theorem S_l20Open {c : List UInt8} {κ : List UInt8 × Int → Prop} (h : ∀ b, b.length ≤ 2000 → κ (b, 0)) : L_spec_l20Open c κ := by
  unfold L_spec_l20Open jnW
  refine ifW_of (fun hc => ?_) (fun hc => ?_)
  · simp at hc
    refine ⟨by omega, by omega, by omega, h _ (by simp; omega)⟩
  · simp at hc
    exact h _ (by omega)
theorem S_alive {κ : Bool → Prop} (h : κ true) : L_laws_alive κ := by
  unfold L_laws_alive L_impl_SpansHave
  refine loopW_inv (fun s => s = 0) (fun s => 0) ?_ rfl
  rintro s next rfl hn
  refine ifW_of (fun _ => idxW_of 0 rfl (by simp) ?_) (fun hc => by simp at hc)
  simp [jnW]
  exact h


end
section
open Go.Lib (decDigits)

theorem wraps_i64_62 (n : Int) (h₀ : 0 ≤ n) (h₁ : n < 2 ^ 62) : IntKind.i64.wrap n = n := by
  have : (2 : Int) ^ 62 = 4611686018427387904 := by decide
  simp [IntKind.wrap, IntKind.signed, IntKind.bits]; omega
theorem and_mask (j : Nat) (hj : j < 62) (x : Int) (h0 : 0 ≤ x) (h1 : x < 4611686018427387904) : bits .and .i64 x (2 ^ j - 1) = x % 2 ^ j :=
  bits_mask .i64 62 (by decide) wraps_i64_62 j (by omega) x h0 (by have : (2 : Int) ^ 62 = 4611686018427387904 := by decide
                                                                   omega)

def PV (p : GPrefix) : Prop := 0 ≤ p.xLength ∧ p.xLength ≤ 16 ∧ 0 ≤ p.xBase ∧ p.xBase ≤ 65535 ∧ p.xBase % 2 ^ (16 - p.xLength).toNat = 0
instance (p : GPrefix) : Decidable (PV p) := by unfold PV; infer_instance
theorem S_l1In {n lo hi : Int} {κ : Bool → Prop} (h : κ (decide (lo ≤ n ∧ n ≤ hi))) : L_spec_l1In n lo hi κ := by
  unfold L_spec_l1In jnW
  refine ifW_of (fun hc => ?_) (fun hc => ?_)
  · simp at hc; simpa [hc] using h
  · simp at hc
    have : decide (lo ≤ n ∧ n ≤ hi) = false := by simp; omega
    rw [this] at h; exact h
theorem pow_bd (k : Nat) (h : k ≤ 16) : (1 : Int) ≤ 2 ^ k ∧ (2 : Int) ^ k ≤ 65536 := by
  have h1 : (2 : Nat) ^ k ≤ 2 ^ 16 := Nat.pow_le_pow_right (by decide) h
  have h2 : 1 ≤ (2 : Nat) ^ k := Nat.one_le_pow _ _ (by decide)
  have e : ((2 : Int) ^ k) = ((2 ^ k : Nat) : Int) := by simp
  have e2 : (2 : Nat) ^ 16 = 65536 := by decide
  rw [e]; omega
theorem S_spec_PrefixValid {p : GPrefix} {κ : Bool → Prop} (h : κ (decide (PV p))) : L_spec_PrefixValid p κ := by
  unfold L_spec_PrefixValid jnW
  refine S_l1In (ifW_of (fun hc => ?_) (fun hc => ?_))
  · simp at hc
    refine S_l1In (ifW_of (fun hc2 => ?_) (fun hc2 => ?_))
    · simp at hc2
      obtain ⟨b1, b2⟩ := pow_bd (16 - p.xLength).toNat (by omega)
      refine subW_of (by omega) (by omega) ⟨by omega, by omega, ⟨by omega, by omega⟩, remW_of (by omega) (by omega) (by omega) ?_⟩
      rw [Int.one_mul]
      have : decide (PV p) = decide (p.xBase % 2 ^ (16 - p.xLength).toNat = 0) := by exact decide_eq_decide.2 ⟨fun hh => hh.2.2.2.2, fun hh => ⟨hc.1, hc.2, hc2.1, hc2.2, hh⟩⟩
      rw [this] at h; exact h
    · simp at hc2
      have : decide (PV p) = false := decide_eq_false (fun hh => by obtain ⟨a1, a2, a3, a4, _⟩ := hh; omega)
      rw [this] at h; exact h
  · simp at hc
    have : decide (PV p) = false := decide_eq_false (fun hh => by obtain ⟨a1, a2, a3, a4, _⟩ := hh; omega)
    rw [this] at h; exact h
theorem S_impl_PrefixValid {p : GPrefix} {κ : Bool → Prop} (h : κ (decide (PV p))) : L_impl_PrefixValid p κ := by
  unfold L_impl_PrefixValid jnW
  have no : ¬ (0 ≤ p.xLength ∧ p.xLength ≤ 16 ∧ 0 ≤ p.xBase ∧ p.xBase ≤ 65535) → κ false := fun hn => by
    have : decide (PV p) = false := decide_eq_false (fun hh => by obtain ⟨a1, a2, a3, a4, _⟩ := hh; omega)
    rw [this] at h; exact h
  simp only [ifW_true, ifW_false]
  refine ifW_of (fun hc => no (by simp at hc; omega)) (fun hc => ifW_of (fun hc2 => no (by simp at hc2; omega)) (fun hc2 => ifW_of (fun hc3 => no (by simp at hc3; omega)) (fun hc3 => ifW_of (fun hc4 => no (by simp at hc4; omega)) (fun hc4 => ?_))))
  simp at hc hc2 hc3 hc4
  obtain ⟨b1, b2⟩ := pow_bd (16 - p.xLength).toNat (by omega)
  unfold L_impl_hostMask
  refine subW_of (by omega) (by omega) ⟨by omega, by omega, ⟨by omega, by omega⟩, subW_of (by omega) (by omega) ?_⟩
  rw [Int.one_mul]
  show κ (decide (bits .and .i64 p.xBase (2 ^ (16 - p.xLength).toNat - 1) = 0))
  rw [and_mask _ (by omega) _ (by omega) (by omega)]
  have : decide (PV p) = decide (p.xBase % 2 ^ (16 - p.xLength).toNat = 0) := decide_eq_decide.2 ⟨fun hh => hh.2.2.2.2, fun hh => ⟨hc, hc2, hc3, hc4, hh⟩⟩
  rw [this] at h; exact h

/-! ### the reader of the program -/
end
section
open Go Go.Proofs

def psz (p : GPrefix) : Int := 2 ^ (16 - p.xLength).toNat
def psp (p : GPrefix) : GSpan := GSpan.mk p.xBase (p.xBase + psz p - 1)
theorem mul_step {s a b : Int} (hs : 1 ≤ s) (h : s * a < s * b) : s * a + s ≤ s * b := by
  have h1 : a < b := Int.lt_of_mul_lt_mul_left h (by omega)
  have h2 : s * (a + 1) ≤ s * b := Int.mul_le_mul_of_nonneg_left (by omega) (by omega)
  rw [Int.mul_add, Int.mul_one] at h2
  exact h2
theorem psz_bd {p : GPrefix} (h0 : 0 ≤ p.xLength) (h1 : p.xLength ≤ 16) : 1 ≤ psz p ∧ psz p ≤ 65536 := pow_bd _ (by omega)
theorem psz_mul {p q : GPrefix} (h0 : 0 ≤ q.xLength) (h : q.xLength ≤ p.xLength) (h1 : p.xLength ≤ 16) : ∃ m : Int, psz q = psz p * m := by
  refine ⟨2 ^ (p.xLength - q.xLength).toNat, ?_⟩
  unfold psz
  rw [← Int.pow_add]
  congr 1
  omega
theorem PV_mul {p : GPrefix} (h : PV p) : ∃ a : Int, p.xBase = psz p * a := by
  obtain ⟨_, _, _, _, h5⟩ := h
  exact ⟨p.xBase / psz p, by have := Int.mul_ediv_add_emod p.xBase (psz p); unfold psz at *; omega⟩
theorem PV_bd {p : GPrefix} (h : PV p) : 1 ≤ psz p ∧ psz p ≤ 65536 ∧ 0 ≤ p.xBase ∧ p.xBase + psz p ≤ 65536 := by
  obtain ⟨a, ha⟩ := PV_mul h
  obtain ⟨h1, h2, h3, h4, h5⟩ := h
  obtain ⟨b1, b2⟩ := psz_bd h1 h2
  obtain ⟨m, hm⟩ := psz_mul (p := p) (q := ⟨0, 0⟩) (by decide) h1 h2
  have e : psz ⟨0, 0⟩ = 65536 := by decide
  rw [e] at hm
  have := mul_step (s := psz p) (a := a) (b := m) b1 (by rw [← hm, ← ha]; omega)
  rw [← hm, ← ha] at this
  exact ⟨b1, b2, h3, this⟩
theorem psp_ok {p : GPrefix} (h : PV p) : (psp p).xLo ≤ (psp p).xHi := by
  have := PV_bd h; simp only [psp]; omega
/-- all addresses of p are in q -/
def win (p q : GPrefix) : Prop := (psp q).xLo ≤ (psp p).xLo ∧ (psp p).xHi ≤ (psp q).xHi
instance (p q : GPrefix) : Decidable (win p q) := by unfold win; infer_instance
theorem nest_go {p q : GPrefix} (hp : PV p) (hq : PV q) (h : q.xLength ≤ p.xLength) (hn : ¬ apart (psp p) (psp q)) : win p q := by
  obtain ⟨a, ha⟩ := PV_mul hp
  obtain ⟨b, hb⟩ := PV_mul hq
  obtain ⟨m, hm⟩ := psz_mul hq.1 h hp.2.1
  obtain ⟨p1, p2, p3, p4⟩ := PV_bd hp
  obtain ⟨q1, q2, q3, q4⟩ := PV_bd hq
  simp only [apart, psp, not_or] at hn
  have eb : q.xBase = psz p * (m * b) := by rw [hb, hm, Int.mul_assoc]
  have et : q.xBase + psz q = psz p * (m * b + m) := by rw [eb, Int.mul_add, hm]
  have s1 : q.xBase ≤ p.xBase := by
    have : psz p * (m * b) < psz p * (a + 1) := by rw [← eb, Int.mul_add, ← ha]; omega
    have h2 : m * b < a + 1 := Int.lt_of_mul_lt_mul_left this (by omega)
    have h3 : psz p * (m * b) ≤ psz p * a := Int.mul_le_mul_of_nonneg_left (by omega) (by omega)
    rw [← eb, ← ha] at h3; exact h3
  have s2 : p.xBase + psz p ≤ q.xBase + psz q := by
    have := mul_step (s := psz p) (a := a) (b := m * b + m) p1 (by rw [← et, ← ha]; omega)
    rw [← et, ← ha] at this; exact this
  simp only [win, psp]
  omega
/-- two prefixes meet only if one is within the other -/
theorem nest {p q : GPrefix} (hp : PV p) (hq : PV q) : (win p q ∨ win q p) ↔ ¬ apart (psp p) (psp q) := by
  constructor
  · intro h hh
    have := PV_bd hp
    have := PV_bd hq
    simp only [win, psp, apart] at h hh
    omega
  · intro h
    rcases Int.le_total q.xLength p.xLength with e | e
    · exact .inl (nest_go hp hq e h)
    · exact .inr (nest_go hq hp e (fun f => h (apart_symm f)))
/-- a rewriting by itself -/
def RwO (r : GRewrite) : Prop := PV r.xInside ∧ PV r.xOutside ∧ r.xInside.xLength = r.xOutside.xLength
instance (r : GRewrite) : Decidable (RwO r) := by unfold RwO; infer_instance
instance (a b : GSpan) : Decidable (apart a b) := by unfold apart; infer_instance
def pfs (l : List GRewrite) : List GPrefix := l.flatMap fun r => [r.xInside, r.xOutside]
def spl (l : List GRewrite) : List GSpan := (pfs l).map psp
/-- valid rewritings -/
def RwV (l : List GRewrite) : Prop := l.length ≤ 10 ∧ (∀ r ∈ l, RwO r) ∧ (spl l).Pairwise apart
instance (l : List GRewrite) : Decidable (RwV l) := by unfold RwV; infer_instance
theorem pfs_cons (r : GRewrite) (l : List GRewrite) : pfs (r :: l) = r.xInside :: r.xOutside :: pfs l := by simp [pfs]
theorem pfs_app (l m : List GRewrite) : pfs (l ++ m) = pfs l ++ pfs m := by simp [pfs]
theorem pfs_len (l : List GRewrite) : (pfs l).length = 2 * l.length := by
  induction l with
  | nil => simp [pfs]
  | cons r l ih => rw [pfs_cons]; simp only [List.length_cons, ih]; omega
theorem pfs_mem {l : List GRewrite} {p : GPrefix} : p ∈ pfs l ↔ ∃ r ∈ l, p = r.xInside ∨ p = r.xOutside := by
  simp [pfs]
theorem RwV_pv {l : List GRewrite} (h : ∀ r ∈ l, RwO r) : ∀ p ∈ pfs l, PV p := fun p hp => by
  obtain ⟨r, hr, e⟩ := pfs_mem.1 hp
  have := h r hr
  rcases e with e | e
  · rw [e]; exact this.1
  · rw [e]; exact this.2.1
/-- an address is in a prefix -/
def inp (p : GPrefix) (a : Int) : Prop := (psp p).xLo ≤ a ∧ a ≤ (psp p).xHi
instance (p : GPrefix) (a : Int) : Decidable (inp p a) := by unfold inp; infer_instance
/-- the way out and the way in -/
def outF (l : List GRewrite) (a : Int) : Int := match l.find? (fun r => decide (inp r.xInside a)) with | some r => r.xOutside.xBase + (a - r.xInside.xBase) | none => a
def inF (l : List GRewrite) (a : Int) : Int := match l.find? (fun r => decide (inp r.xOutside a)) with | some r => r.xInside.xBase + (a - r.xOutside.xBase) | none => a
theorem apart_in {p q : GPrefix} {a : Int} (h : apart (psp p) (psp q)) (h1 : inp p a) (h2 : inp q a) : False := by
  simp only [apart, inp] at *; omega
/-- what is apart among the prefixes -/
theorem RwV_two {l : List GRewrite} (h : (spl l).Pairwise apart) {r s : GRewrite} (hr : r ∈ l) (hs : s ∈ l) : apart (psp r.xInside) (psp s.xOutside) ∧ (r = s ∨ (apart (psp r.xInside) (psp s.xInside) ∧ apart (psp r.xOutside) (psp s.xOutside))) := by
  induction l with
  | nil => simp at hr
  | cons t l ih =>
    have e : spl (t :: l) = psp t.xInside :: psp t.xOutside :: spl l := by simp [spl, pfs_cons]
    rw [e, List.pairwise_cons, List.pairwise_cons] at h
    obtain ⟨h1, h2, h3⟩ := h
    have mi : ∀ u ∈ l, psp u.xInside ∈ spl l := fun u hu => List.mem_map_of_mem (pfs_mem.2 ⟨u, hu, .inl rfl⟩)
    have mo : ∀ u ∈ l, psp u.xOutside ∈ spl l := fun u hu => List.mem_map_of_mem (pfs_mem.2 ⟨u, hu, .inr rfl⟩)
    rcases List.mem_cons.1 hr with q | q
    · rcases List.mem_cons.1 hs with q2 | q2
      · subst q; subst q2; exact ⟨h1 _ (by simp), .inl rfl⟩
      · subst q; exact ⟨h1 _ (by simp [mo s q2]), .inr ⟨h1 _ (by simp [mi s q2]), h2 _ (mo s q2)⟩⟩
    · rcases List.mem_cons.1 hs with q2 | q2
      · subst q2; exact ⟨apart_symm (h2 _ (mi r q)), .inr ⟨apart_symm (h1 _ (by simp [mi r q])), apart_symm (h2 _ (mo r q))⟩⟩
      · exact ih h3 q q2
theorem find_in {l : List GRewrite} (h : (spl l).Pairwise apart) {r : GRewrite} (hr : r ∈ l) {a : Int} (ha : inp r.xInside a) : l.find? (fun r => decide (inp r.xInside a)) = some r := by
  cases e : l.find? (fun r => decide (inp r.xInside a)) with
  | none => have := List.find?_eq_none.1 e r hr; simp [ha] at this
  | some s =>
    have h1 := List.mem_of_find?_eq_some e
    have h2 := List.find?_some e
    rcases (RwV_two h hr h1).2 with q | q
    · rw [q]
    · exact absurd ha (fun ha => apart_in q.1 ha (by simpa using h2))
theorem find_out {l : List GRewrite} (h : (spl l).Pairwise apart) {r : GRewrite} (hr : r ∈ l) {a : Int} (ha : inp r.xOutside a) : l.find? (fun r => decide (inp r.xOutside a)) = some r := by
  cases e : l.find? (fun r => decide (inp r.xOutside a)) with
  | none => have := List.find?_eq_none.1 e r hr; simp [ha] at this
  | some s =>
    have h1 := List.mem_of_find?_eq_some e
    have h2 := List.find?_some e
    rcases (RwV_two h hr h1).2 with q | q
    · rw [q]
    · exact absurd ha (fun ha => apart_in q.2 ha (by simpa using h2))
theorem psz_same {r : GRewrite} (h : RwO r) : psz r.xInside = psz r.xOutside := by unfold psz; rw [h.2.2]
/-- where it goes: in an inside to the outside, else nowhere -/
theorem outF_cases {l : List GRewrite} (hv : RwV l) (a : Int) : (∃ r ∈ l, inp r.xInside a ∧ inp r.xOutside (outF l a) ∧ outF l a = r.xOutside.xBase + (a - r.xInside.xBase)) ∨ ((∀ r ∈ l, ¬ inp r.xInside a) ∧ outF l a = a) := by
  unfold outF
  cases e : l.find? (fun r => decide (inp r.xInside a)) with
  | none => exact .inr ⟨fun r hr => by have := List.find?_eq_none.1 e r hr; simpa using this, rfl⟩
  | some s =>
    have h1 := List.mem_of_find?_eq_some e
    have h2 : inp s.xInside a := by simpa using List.find?_some e
    have := psz_same (hv.2.1 s h1)
    refine .inl ⟨s, h1, h2, ?_, rfl⟩
    simp only [inp, psp] at h2 ⊢
    omega
theorem inF_cases {l : List GRewrite} (hv : RwV l) (a : Int) : (∃ r ∈ l, inp r.xOutside a ∧ inp r.xInside (inF l a) ∧ inF l a = r.xInside.xBase + (a - r.xOutside.xBase)) ∨ ((∀ r ∈ l, ¬ inp r.xOutside a) ∧ inF l a = a) := by
  unfold inF
  cases e : l.find? (fun r => decide (inp r.xOutside a)) with
  | none => exact .inr ⟨fun r hr => by have := List.find?_eq_none.1 e r hr; simpa using this, rfl⟩
  | some s =>
    have h1 := List.mem_of_find?_eq_some e
    have h2 : inp s.xOutside a := by simpa using List.find?_some e
    have := psz_same (hv.2.1 s h1)
    refine .inl ⟨s, h1, h2, ?_, rfl⟩
    simp only [inp, psp] at h2 ⊢
    omega
/-- never inside afterwards -/
theorem outF_not {l : List GRewrite} (hv : RwV l) (a : Int) : ∀ r ∈ l, ¬ inp r.xInside (outF l a) := fun r hr hh => by
  rcases outF_cases hv a with ⟨s, hs, _, h2, _⟩ | ⟨h1, h2⟩
  · exact apart_in (RwV_two hv.2.2 hr hs).1 hh h2
  · rw [h2] at hh; exact h1 r hr hh
theorem outF_none {l : List GRewrite} {a : Int} (h : ∀ r ∈ l, ¬ inp r.xInside a) : outF l a = a := by
  unfold outF
  rw [List.find?_eq_none.2 (fun r hr => by simpa using h r hr)]
theorem inF_none {l : List GRewrite} {a : Int} (h : ∀ r ∈ l, ¬ inp r.xOutside a) : inF l a = a := by
  unfold inF
  rw [List.find?_eq_none.2 (fun r hr => by simpa using h r hr)]
theorem outF_twice {l : List GRewrite} (hv : RwV l) (a : Int) : outF l (outF l a) = outF l a := outF_none (outF_not hv a)
/-- the answer comes back -/
theorem in_out {l : List GRewrite} (hv : RwV l) (a : Int) : inF l (outF l a) = a ∨ ∃ r ∈ l, inp r.xOutside a := by
  rcases outF_cases hv a with ⟨s, hs, h1, h2, h3⟩ | ⟨h1, h2⟩
  · left
    have e : inF l (outF l a) = s.xInside.xBase + (outF l a - s.xOutside.xBase) := by
      conv => lhs; unfold inF
      rw [find_out hv.2.2 hs h2]
    rw [e, h3]; omega
  · rw [h2]
    rcases inF_cases hv a with ⟨s, hs, g1, _⟩ | ⟨_, g2⟩
    · exact .inr ⟨s, hs, g1⟩
    · exact .inl g2
theorem outF_range {l : List GRewrite} (hv : RwV l) {a : Int} (h0 : 0 ≤ a) (h1 : a ≤ 65535) : 0 ≤ outF l a ∧ outF l a ≤ 65535 := by
  rcases outF_cases hv a with ⟨s, hs, _, h2, _⟩ | ⟨_, h2⟩
  · have := PV_bd (hv.2.1 s hs).2.1
    simp only [inp, psp] at h2; omega
  · rw [h2]; exact ⟨h0, h1⟩
theorem inF_range {l : List GRewrite} (hv : RwV l) {a : Int} (h0 : 0 ≤ a) (h1 : a ≤ 65535) : 0 ≤ inF l a ∧ inF l a ≤ 65535 := by
  rcases inF_cases hv a with ⟨s, hs, _, h2, _⟩ | ⟨_, h2⟩
  · have := PV_bd (hv.2.1 s hs).1
    simp only [inp, psp] at h2; omega
  · rw [h2]; exact ⟨h0, h1⟩
theorem sorted_dec {xs ys : List GSpan} (hp : xs.Perm ys) (hs : ys.Pairwise (fun a b => decide (b.xLo < a.xLo) = false)) (hok : ∀ s ∈ xs, s.xLo ≤ s.xHi) : (∀ n, (h : n + 1 < ys.length) → ys[n].xHi < ys[n + 1].xLo) ↔ xs.Pairwise apart := by
  have hok2 : ∀ s ∈ ys, s.xLo ≤ s.xHi := fun s hm => hok s (hp.mem_iff.2 hm)
  have hs2 : ys.Pairwise (fun a b => a.xLo ≤ b.xLo) := hs.imp (fun {a b} h => by have := of_decide_eq_false h; omega)
  rw [← chain_apart hok2, ← apart_sorted hok2 hs2, perm_apart hp]
theorem spl_ok {l : List GRewrite} (h : ∀ r ∈ l, RwO r) : ∀ s ∈ spl l, s.xLo ≤ s.xHi := fun s hs => by
  obtain ⟨p, hp, rfl⟩ := List.mem_map.1 hs
  exact psp_ok (RwV_pv h p hp)


end
section
open Go Go.Proofs

theorem or_join (i : Nat) (hi : i ≤ 62) (x y : Int) (h0 : 0 ≤ x) (h1 : x < 4611686018427387904) (hm : x % 2 ^ i = 0) (h2 : 0 ≤ y) (h3 : y < 2 ^ i) (h4 : y < 4611686018427387904) : bits .or .i64 x y = x + y := by
  have e : (2 : Int) ^ 62 = 4611686018427387904 := by decide
  exact bits_join .i64 62 (by decide) wraps_i64_62 i x y h0 hm (by rw [e]; exact h1) h2 h3 (by rw [e]; exact h4)
/-- the range of a prefix, and whether it is valid -/
def pspF (p : GPrefix) : GSpan × Bool := if PV p then (psp p, true) else (GSpan.mk 0 0, false)
theorem S_impl_PrefixSpan {p : GPrefix} {κ : GSpan × Bool → Prop} (h : κ (pspF p)) : L_impl_PrefixSpan p κ := by
  unfold L_impl_PrefixSpan
  refine S_impl_PrefixValid (ifW_of (fun e => ?_) (fun e => ?_))
  · have e' : ¬ PV p := by simpa using e
    unfold pspF at h; rw [if_neg e'] at h; exact h
  · have e' : PV p := by simpa using e
    unfold pspF at h; rw [if_pos e'] at h
    obtain ⟨b1, b2, b3, b4⟩ := PV_bd e'
    obtain ⟨h1, h2, h3, h4, h5⟩ := e'
    unfold L_impl_hostMask
    unfold psz at b1 b2 b4
    refine subW_of (by omega) (by omega) ⟨by omega, by omega, ⟨by omega, by omega⟩, subW_of (by omega) (by omega) ?_⟩
    rw [Int.one_mul]
    show κ (GSpan.mk p.xBase (bits .or .i64 p.xBase (2 ^ (16 - p.xLength).toNat - 1)), true)
    rw [or_join (16 - p.xLength).toNat (by omega) p.xBase (2 ^ (16 - p.xLength).toNat - 1) h3 (by omega) h5 (by omega) (by omega) (by omega)]
    have : psp p = GSpan.mk p.xBase (p.xBase + (2 ^ (16 - p.xLength).toNat - 1)) := by
      unfold psp psz; congr 1; omega
    rw [this] at h; exact h
theorem S_spec_PrefixSpan {p : GPrefix} {κ : GSpan × Bool → Prop} (h : κ (pspF p)) : L_spec_PrefixSpan p κ := by
  unfold L_spec_PrefixSpan
  refine S_spec_PrefixValid (ifW_of (fun e => ?_) (fun e => ?_))
  · have e' : ¬ PV p := by simpa using e
    unfold pspF at h; rw [if_neg e'] at h; exact h
  · have e' : PV p := by simpa using e
    unfold pspF at h; rw [if_pos e'] at h
    obtain ⟨b1, b2, b3, b4⟩ := PV_bd e'
    obtain ⟨h1, h2, h3, h4, h5⟩ := e'
    unfold psz at b1 b2 b4
    refine subW_of (by omega) (by omega) ⟨by omega, by omega, ⟨by omega, by omega⟩, ?_⟩
    rw [Int.one_mul]
    exact addW_of (by omega) (by omega) (subW_of (by omega) (by omega) h)
theorem S_PrefixWithin {p q : GPrefix} {κ : Bool → Prop} (hp : PV p) (hq : PV q) (h : κ (decide (win p q))) : L_spec_PrefixWithin p q κ := by
  unfold L_spec_PrefixWithin
  refine S_spec_PrefixSpan ?_
  have e1 : pspF p = (psp p, true) := if_pos hp
  have e2 : pspF q = (psp q, true) := if_pos hq
  rw [e1]
  refine S_spec_PrefixSpan ?_
  rw [e2]
  unfold jnW
  refine ifW_t (ifW_t (ifW_of (fun e => ?_) (fun e => ?_)))
  · have e' : (psp q).xLo ≤ (psp p).xLo := by simpa using e
    rw [show decide (win p q) = decide ((psp p).xHi ≤ (psp q).xHi) from decide_eq_decide.2 ⟨fun hh => hh.2, fun hh => ⟨e', hh⟩⟩] at h
    exact h
  · have e' : ¬ (psp q).xLo ≤ (psp p).xLo := by simpa using e
    rw [decide_eq_false (fun hh : win p q => e' hh.1)] at h
    exact h
theorem pw_get {l : List GSpan} : l.Pairwise apart ↔ ∀ i j, (hi : i < l.length) → (hj : j < l.length) → j < i → apart l[i] l[j] := by
  rw [List.pairwise_iff_getElem]
  constructor
  · intro h i j hi hj hji
    exact apart_symm (h j i hj hi hji)
  · intro h i j hi hj hij
    exact apart_symm (h j i hj hi hij)
theorem S_spec_RewritesValid {l : List GRewrite} (hl : l.length ≤ 2000000000) {κ : Bool → Prop} (h : κ (decide (RwV l))) : L_spec_RewritesValid l κ := by
  unfold L_spec_RewritesValid
  refine count_loop l.length (fun s => s.2) (fun k s => s.2 = (k : Int) ∧ k ≤ l.length ∧ s.1 = pfs (l.take k) ∧ ∀ r ∈ l.take k, RwO r) (fun k s h => h.1) (fun k s h => h.2.1) ?_ ⟨rfl, Nat.zero_le _, by simp [pfs], by simp⟩
  rintro k ⟨xs, t⟩ next ⟨rfl, hk, hx, ho⟩ hn
  simp only at hx
  subst hx
  refine ifW_of (fun hc => ?_) (fun hc => ?_)
  · have hlt : k < l.length := by simpa using hc
    have no : ¬ RwO l[k] → κ false := fun e => by
      rw [decide_eq_false (fun hh : RwV l => e (hh.2.1 _ (List.getElem_mem hlt)))] at h; exact h
    unfold jnW
    refine idxW_of k rfl hlt (S_spec_PrefixValid (ifW_of (fun e => ifW_t (no (fun f => ?_))) (fun e => ?_)))
    · simp [f.1] at e
    have e1 : PV l[k].xInside := by simpa using e
    refine idxW_of k rfl hlt (S_spec_PrefixValid (ifW_of (fun e => ifW_t (no (fun f => ?_))) (fun e => ?_)))
    · simp [f.2.1] at e
    have e2 : PV l[k].xOutside := by simpa using e
    refine idxW_of k rfl hlt (idxW_of k rfl hlt (ifW_of (fun e => no (fun f => ?_)) (fun e => ?_)))
    · simp [f.2.2] at e
    have e3 : l[k].xInside.xLength = l[k].xOutside.xLength := by simpa using e
    refine idxW_of k rfl hlt (idxW_of k rfl hlt (appW_of (by rw [pfs_len]; simp only [List.length_take, List.length_cons, List.length_nil]; omega) (addW_of (by omega) (by omega) (hn hlt _ ⟨by simp, by omega, ?_, ?_⟩))))
    · rw [List.take_succ_eq_append_getElem hlt, pfs_app, pfs_cons]; rfl
    · rw [List.take_succ_eq_append_getElem hlt]
      intro r hr
      rcases List.mem_append.1 hr with q | q
      · exact ho r q
      · simp only [List.mem_singleton] at q; subst q; exact ⟨e1, e2, e3⟩
  · have hge : l.length ≤ k := by simpa using hc
    rw [List.take_of_length_le hge] at ho ⊢
    have hpv := RwV_pv ho
    have hln := pfs_len l
    have no : ¬ (spl l).Pairwise apart → κ false := fun e => by
      rw [decide_eq_false (fun hh : RwV l => e hh.2.2)] at h; exact h
    refine count_loop (pfs l).length (fun s => s) (fun i s => s = (i : Int) ∧ i ≤ (pfs l).length ∧ ∀ a b, (ha : a < (spl l).length) → (hb : b < (spl l).length) → a < i → b < a → apart (spl l)[a] (spl l)[b]) (fun k s h => h.1) (fun k s h => h.2.1) ?_ ⟨rfl, Nat.zero_le _, fun a b _ _ h _ => by omega⟩
    rintro i _ next2 ⟨rfl, hi, hp⟩ hn2
    have hsl : (spl l).length = (pfs l).length := by simp [spl]
    have hget : ∀ a, (ha : a < (pfs l).length) → (spl l)[a]'(by rw [hsl]; exact ha) = psp (pfs l)[a] := fun a ha => by simp [spl]
    refine ifW_of (fun hd => ?_) (fun hd => ?_)
    · have hilt : i < (pfs l).length := by simpa using hd
      refine count_loop i (fun s => s) (fun j s => s = (j : Int) ∧ j ≤ i ∧ ∀ b, (hb : b < (spl l).length) → b < j → apart ((spl l)[i]'(by omega)) (spl l)[b]) (fun k s h => h.1) (fun k s h => h.2.1) ?_ ⟨rfl, Nat.zero_le _, fun b _ h => by omega⟩
      rintro j _ next3 ⟨rfl, hj, hq⟩ hn3
      refine ifW_of (fun he => ?_) (fun he => ?_)
      · have hjlt : j < i := by simpa using he
        have pi := hpv _ (List.getElem_mem hilt)
        have pj := hpv _ (List.getElem_mem (show j < (pfs l).length by omega))
        have nst := nest pi pj
        have bad : (win (pfs l)[i] (pfs l)[j] ∨ win (pfs l)[j] (pfs l)[i]) → κ false := fun w => no (fun hh => by
          have := pw_get.1 hh i j (by omega) (by omega) hjlt
          rw [hget i hilt, hget j (by omega)] at this
          exact nst.1 w this)
        unfold jnW
        refine idxW_of i rfl hilt (idxW_of j rfl (by omega) (S_PrefixWithin pi pj (ifW_of (fun e => ifW_t (bad (.inl (by simpa using e)))) (fun e => ?_))))
        refine idxW_of j rfl (by omega) (idxW_of i rfl hilt (S_PrefixWithin pj pi (ifW_of (fun e2 => bad (.inr (by simpa using e2))) (fun e2 => ?_))))
        refine addW_of (by omega) (by omega) (hn3 hjlt _ ⟨by simp, by omega, fun b hb hbj => ?_⟩)
        by_cases eb : b = j
        · subst eb
          rw [hget i hilt, hget b (by omega)]
          refine Classical.byContradiction (fun f => ?_)
          rcases nst.2 f with g | g
          · simp [g] at e
          · simp [g] at e2
        · exact hq b hb (by omega)
      · have hji : i ≤ j := by simpa using he
        refine addW_of (by omega) (by omega) (hn2 hilt _ ⟨by simp, by omega, fun a b ha hb hai hba => ?_⟩)
        by_cases ea : a = i
        · subst ea; exact hq b hb (by omega)
        · exact hp a b ha hb (by omega) hba
    · have hge2 : (pfs l).length ≤ i := by simpa using hd
      have hpw : (spl l).Pairwise apart := pw_get.2 (fun a b ha hb hba => hp a b ha hb (by omega) hba)
      rw [show decide (RwV l) = decide ((l.length : Int) ≤ 10) from decide_eq_decide.2 ⟨fun hh => by have := hh.1; omega, fun hh => ⟨by omega, ho, hpw⟩⟩] at h
      exact h
theorem S_impl_RewritesValid {l : List GRewrite} (hl : l.length ≤ 9223372036854775807) {κ : Bool → Prop} (h : κ (decide (RwV l))) : L_impl_RewritesValid l κ := by
  unfold L_impl_RewritesValid
  refine ifW_of (fun e => ?_) (fun e => ?_)
  · rw [decide_eq_false (fun hh : RwV l => by have := hh.1; simp at e; omega)] at h; exact h
  have hl10 : l.length ≤ 10 := by simp at e; omega
  refine mulW_of (by omega) (by omega) (makeW_of 0 rfl (by omega) (by omega) ?_)
  refine count_loop l.length (fun s => s.2) (fun k s => s.2 = (k : Int) ∧ k ≤ l.length ∧ s.1 = spl (l.take k) ∧ ∀ r ∈ l.take k, RwO r) (fun k s h => h.1) (fun k s h => h.2.1) ?_ ⟨rfl, Nat.zero_le _, by simp [pfs, spl], by simp⟩
  rintro k ⟨xs, t⟩ next ⟨rfl, hk, hx, ho⟩ hn
  simp only at hx
  subst hx
  have hsl : ∀ m : List GRewrite, (spl m).length = 2 * m.length := fun m => by simp [spl, pfs_len]
  refine ifW_of (fun hc => ?_) (fun hc => ?_)
  · have hlt : k < l.length := by simpa using hc
    have no : ¬ RwO l[k] → κ false := fun e => by
      rw [decide_eq_false (fun hh : RwV l => e (hh.2.1 _ (List.getElem_mem hlt)))] at h; exact h
    refine idxW_of k rfl hlt (S_impl_PrefixSpan ?_)
    by_cases c1 : PV l[k].xInside
    rotate_left 1
    · have e1 : pspF l[k].xInside = (GSpan.mk 0 0, false) := if_neg c1
      rw [e1]
      refine S_impl_PrefixSpan ?_
      unfold jnW
      exact ifW_t (ifW_t (no (fun f => c1 f.1)))
    have e1 : pspF l[k].xInside = (psp l[k].xInside, true) := if_pos c1
    rw [e1]
    refine S_impl_PrefixSpan ?_
    by_cases c2 : PV l[k].xOutside
    rotate_left 1
    · have e2 : pspF l[k].xOutside = (GSpan.mk 0 0, false) := if_neg c2
      rw [e2]
      unfold jnW
      exact ifW_f (ifW_t (ifW_t (no (fun f => c2 f.2.1))))
    have e2 : pspF l[k].xOutside = (psp l[k].xOutside, true) := if_pos c2
    rw [e2]
    unfold jnW
    refine ifW_f (ifW_f (ifW_of (fun e => no (fun f => ?_)) (fun e => ?_)))
    · simp [f.2.2] at e
    have e3 : l[k].xInside.xLength = l[k].xOutside.xLength := by simpa using e
    refine appW_of (by rw [hsl]; simp only [List.length_take, List.length_cons, List.length_nil]; omega) (addW_of (by omega) (by omega) (hn hlt _ ⟨by simp, by omega, ?_, ?_⟩))
    · have e : spl (l.take k ++ [l[k]]) = spl (l.take k) ++ [psp l[k].xInside, psp l[k].xOutside] := by
        simp only [spl, pfs_app, List.map_append]; rfl
      rw [List.take_succ_eq_append_getElem hlt, e]
    · rw [List.take_succ_eq_append_getElem hlt]
      intro r hr
      rcases List.mem_append.1 hr with q | q
      · exact ho r q
      · simp only [List.mem_singleton] at q; subst q; exact ⟨c1, c2, e3⟩
  · have hge : l.length ≤ k := by simpa using hc
    rw [List.take_of_length_le hge] at ho ⊢
    have hlen := hsl l
    refine ⟨by omega, fun ys hp hs => ?_⟩
    have key := sorted_dec hp hs (spl_ok ho)
    have hyl : ys.length = (spl l).length := hp.length_eq.symm
    refine count_loop_from 1 (ys.length + 1) (fun s => s) (fun i s => s = (i : Int) ∧ 1 ≤ i ∧ i ≤ ys.length + 1 ∧ ∀ n, (h : n + 1 < ys.length) → n + 1 < i → ys[n].xHi < ys[n + 1].xLo) (fun k s h => h.1) (fun k s h => h.2.2.1) ?_ ⟨rfl, Nat.le_refl _, by omega, fun n _ h => by omega⟩
    rintro i _ next2 ⟨rfl, hi1, hi2, hq⟩ hn2
    refine ifW_of (fun hd => ?_) (fun hd => ?_)
    · have hilt : i < ys.length := by simpa using hd
      obtain ⟨j, rfl⟩ : ∃ j, i = j + 1 := ⟨i - 1, by omega⟩
      refine idxW_of (j + 1) rfl hilt (subW_of (by omega) (by omega) (idxW_of j (by omega) (by omega) (ifW_of (fun e => ?_) (fun e => ?_))))
      · rw [decide_eq_false (fun hh : RwV l => by
          have := key.2 hh.2.2 j hilt
          simp at e; omega)] at h
        exact h
      · refine addW_of (by omega) (by omega) (hn2 (by omega) _ ⟨by simp, by omega, by omega, fun n hn hni => ?_⟩)
        by_cases en : n = j
        · subst en; simp at e; omega
        · exact hq n hn (by omega)
    · have hge2 : ys.length ≤ i := by simpa using hd
      rw [decide_eq_true (show RwV l from ⟨hl10, ho, key.1 (fun n hn => hq n hn (by omega))⟩)] at h
      exact h


end
section
open Go Go.Proofs

/-- what is drawn is short -/
theorem S_l20Rewrites {b : List UInt8} {p n : Int} (hr : RdP b p) (hp : p ≤ 900000) (hn : n ≤ 4294967296) {κ : List GRewrite × Int → Prop} (h : ∀ l p', l.length ≤ 20 → p ≤ p' → p' ≤ p + 40 → κ (l, p')) : L_spec_l20Rewrites b p n κ := by
  unfold L_spec_l20Rewrites
  refine S_pick hr (fun v hv0 hv1 => ?_)
  have hb := hr
  obtain ⟨hb0, hb1, hb2⟩ := hr
  refine loopW_inv (fun (s : Int × List GRewrite × Int) => p ≤ s.1 ∧ 0 ≤ s.2.2 ∧ s.2.2 ≤ 5 ∧ s.1 ≤ p + 1 + 3 * (5 - s.2.2) ∧ (s.2.1.length : Int) ≤ 5 - s.2.2) (fun s => s.2.2.toNat) ?_ ⟨by simp only; omega, by simp only; omega, by simp only; omega, by simp only; omega, by simp only [List.length_nil]; omega⟩
  rintro ⟨q, xs, t⟩ next ⟨h1, h2, h3, h4, h5⟩ hn2
  simp only at h1 h2 h3 h4 h5
  have rd : ∀ q', q ≤ q' → q' ≤ q + 20 → RdP b q' := fun q' a1 a2 => ⟨hb0, by omega, by omega⟩
  refine ifW_of (fun e => ?_) (fun e => ?_)
  · have e' : 0 < t := by simpa using e
    unfold jnW
    refine S_pick (rd q (by omega) (by omega)) (fun a ha0 ha1 => ?_)
    have ha : 0 ≤ a ∧ a ≤ 8 := by omega
    refine addW_of (by omega) (by omega) (subW_of (by omega) (by omega) ?_)
    obtain ⟨s1, s2⟩ := pow_bd (16 - (8 + a)).toNat (by omega)
    refine ⟨by omega, by omega, ⟨by omega, by omega⟩, ?_⟩
    rw [Int.one_mul]
    refine S_pick (rd _ (by omega) (by omega)) (fun c hc0 hc1 => ?_)
    have hc : 0 ≤ c ∧ c ≤ 127 := by omega
    have w1 : 0 ≤ w64 (c * 256) ∧ w64 (c * 256) ≤ 100000 := by rw [w64_id (by omega) (by omega)]; omega
    refine quoW_le w1.1 (by have := w1.2; omega) (by omega) (fun z hz0 hz1 => ?_)
    refine S_pick (rd _ (by omega) (by omega)) (fun d hd0 hd1 => ?_)
    have hd : 0 ≤ d ∧ d ≤ 127 := by omega
    have w3 : 0 ≤ w64 (w64 (128 + d) * 256) ∧ w64 (w64 (128 + d) * 256) ≤ 100000 := by rw [w64_id (x := 128 + d) (by omega) (by omega), w64_id (by omega) (by omega)]; omega
    refine quoW_le w3.1 (by have := w3.2; omega) (by omega) (fun z2 hz20 hz21 => ?_)
    have ln : xs.length ≤ 5 := by omega
    refine appW_of (by simp; omega) (appW_of (by simp; omega) (S_spec_RewritesValid (by simp; omega) (ifW_of (fun e2 => ?_) (fun e2 => ?_))))
    · refine appW_of (by simp; omega) (subW_of (by omega) (by omega) (hn2 _ ⟨by simp only; omega, by simp only; omega, by simp only; omega, by simp only; omega, by simp only [List.length_append, List.length_singleton]; omega⟩ (by simp only; omega)))
    · refine subW_of (by omega) (by omega) (hn2 _ ⟨by simp only; omega, by simp only; omega, by simp only; omega, by simp only; omega, by simp only; omega⟩ (by simp only; omega))
  · unfold jnW
    have ln : xs.length ≤ 5 := by omega
    refine S_odd (rd q (by omega) (by omega)) hn (fun c q' hq1 hq2 => ifW_of (fun e2 => ?_) (fun e2 => ?_))
    · refine S_pick (rd q' (by omega) (by omega)) (fun a ha0 ha1 => ?_)
      refine ifW_of (fun _ => appW_of (by simp; omega) (h _ _ (by simp; omega) (by omega) (by omega))) (fun _ => ifW_of (fun _ => appW_of (by simp; omega) (h _ _ (by simp; omega) (by omega) (by omega))) (fun _ => makeW_of 11 rfl (by omega) (by omega) (h _ _ (by simp) (by omega) (by omega))))
    · exact h _ _ (by omega) (by omega) (by omega)
end
section
open Go Go.Proofs

instance (l : List GSpan) (x : Int) : Decidable (hv l x) := by unfold hv; infer_instance
/-- a set of numbers in 0..top, in its form; as many ranges as you like -/
def St (l : List GSpan) (top : Int) : Prop := NF l ∧ ∀ s ∈ l, 0 ≤ s.xLo ∧ s.xHi ≤ top
end
section
open Go Go.Proofs

/-- a set, if it has not too many ranges -/
def lim (l : List GSpan) : List GSpan × Bool := if 40 < l.length then ([], false) else (l, true)
end
section
open Go Go.Proofs

def ed (e : GEdge) : Int × Int := (e.xAt, e.xStep)
/-- a range in 0..65535 -/
def inR (s : GSpan) : Prop := 0 ≤ s.xLo ∧ s.xLo ≤ s.xHi ∧ s.xHi ≤ 65535
def edges (xs : List GSpan) : List GEdge := xs.flatMap fun s => [GEdge.mk s.xLo 1, GEdge.mk (s.xHi + 1) (-1)]
theorem edges_map (xs : List GSpan) : (edges xs).map ed = edg xs := by
  induction xs with
  | nil => rfl
  | cons s xs ih =>
    have e : edges (s :: xs) = GEdge.mk s.xLo 1 :: GEdge.mk (s.xHi + 1) (-1) :: edges xs := by simp [edges]
    rw [e, edg_cons, List.map_cons, List.map_cons, ih]; rfl
theorem edges_len (xs : List GSpan) : (edges xs).length = 2 * xs.length := by
  induction xs with
  | nil => rfl
  | cons s xs ih =>
    have e : edges (s :: xs) = GEdge.mk s.xLo 1 :: GEdge.mk (s.xHi + 1) (-1) :: edges xs := by simp [edges]
    rw [e]; simp only [List.length_cons, ih]; omega
theorem edges_bd {xs : List GSpan} (h : ∀ s ∈ xs, inR s) : ∀ e ∈ edges xs, 0 ≤ e.xAt ∧ e.xAt ≤ 65536 ∧ -1 ≤ e.xStep ∧ e.xStep ≤ 1 := by
  intro e he
  obtain ⟨s, hs, h2⟩ := List.mem_flatMap.1 he
  have := h s hs
  unfold inR at this
  simp only [List.mem_cons, List.not_mem_nil, or_false] at h2
  rcases h2 with rfl | rfl <;> simp only <;> omega
theorem sw_step (e : GEdge) (es : List (Int × Int)) (out : List GSpan) (d st st' : Int) (h : (if d = 0 then e.xAt else st) = st') : sweep (ed e :: es) out d st = sweep es (if d + e.xStep = 0 then out ++ [GSpan.mk st' (e.xAt - 1)] else out) (d + e.xStep) st' := by
  subst h; rfl
theorem S_topValid {κ : Bool → Prop} (h : κ true) : L_impl_topValid 65535 κ := by
  unfold L_impl_topValid jnW
  exact ifW_t (by simpa using h)
theorem S_impl_SpansOf {xs : List GSpan} (hl : xs.length ≤ 40) (hr : ∀ s ∈ xs, inR s) {κ : List GSpan → Prop} (h : κ (xs.foldl add1 [])) : L_impl_SpansOf xs 65535 κ := by
  unfold L_impl_SpansOf jnW
  refine S_topValid (ifW_f ?_)
  rw [show decide (40 < (xs.length : Int)) = false from by simp; omega]
  refine ifW_f (mulW_of (by omega) (by omega) (makeW_of 0 rfl (by omega) (by omega) ?_))
  refine count_loop xs.length (fun s => s.2) (fun k s => s.2 = (k : Int) ∧ k ≤ xs.length ∧ s.1 = edges (xs.take k)) (fun k s h => h.1) (fun k s h => h.2.1) ?_ ⟨rfl, Nat.zero_le _, by simp [edges]⟩
  rintro k ⟨es, t⟩ next ⟨rfl, hk, hx⟩ hn
  simp only at hx
  subst hx
  refine ifW_of (fun hc => ?_) (fun hc => ?_)
  · have hlt : k < xs.length := by simpa using hc
    have hin := hr _ (List.getElem_mem hlt)
    unfold inR at hin
    refine idxW_of k rfl hlt (ifW_of (fun e => by simp at e; omega) (fun _ => ifW_of (fun e => by simp at e; omega) (fun _ => ifW_of (fun e => by simp at e; omega) (fun _ => ?_))))
    refine addW_of (by omega) (by omega) (appW_of (by rw [edges_len]; simp only [List.length_take, List.length_cons, List.length_nil]; omega) (addW_of (by omega) (by omega) (hn hlt _ ⟨by simp, by omega, ?_⟩)))
    rw [List.take_succ_eq_append_getElem hlt]
    simp only [edges, List.flatMap_append, List.flatMap_cons, List.flatMap_nil, List.append_nil]
  · have hge : xs.length ≤ k := by simpa using hc
    rw [List.take_of_length_le hge]
    have hlen := edges_len xs
    refine ⟨by omega, fun ys hp hs => ?_⟩
    have hyl : ys.length = 2 * xs.length := by rw [← hp.length_eq, hlen]
    have hbd : ∀ e ∈ ys, 0 ≤ e.xAt ∧ e.xAt ≤ 65536 ∧ -1 ≤ e.xStep ∧ e.xStep ≤ 1 := fun e he => edges_bd hr e (hp.mem_iff.2 he)
    have hsw : sweep (ys.map ed) [] 0 0 = xs.foldl add1 [] := by
      refine sweep_add (fun s hs => (hr s hs).2.1) (by rw [← edges_map]; exact hp.map _) ?_ 0
      rw [List.pairwise_map]
      exact hs.imp (fun {a b} h => by have := of_decide_eq_false h; unfold edLe ed; simp only; omega)
    refine count_loop ys.length (fun s => s.2.2.2) (fun i (s : List GSpan × Int × Int × Int) => s.2.2.2 = (i : Int) ∧ i ≤ ys.length ∧ sweep ((ys.drop i).map ed) s.1 s.2.1 s.2.2.1 = xs.foldl add1 [] ∧ s.1.length ≤ i ∧ -(i : Int) ≤ s.2.1 ∧ s.2.1 ≤ i) (fun k s h => h.1) (fun k s h => h.2.1) ?_ ⟨rfl, Nat.zero_le _, by simpa using hsw, by simp, by simp, by simp⟩
    rintro i ⟨out, d, st, t⟩ next2 ⟨rfl, hi, hq, ho, hd1, hd2⟩ hn2
    simp only at hq ho hd1 hd2
    refine ifW_of (fun hd => ?_) (fun hd => ?_)
    · have hilt : i < ys.length := by simpa using hd
      have hb := hbd _ (List.getElem_mem hilt)
      rw [List.drop_eq_getElem_cons hilt, List.map_cons] at hq
      refine idxW_of i rfl hilt (ifW_of (fun e => ?_) (fun e => ?_))
      · have e' : d = 0 := by simpa using e
        refine addW_of (by omega) (by omega) (ifW_of (fun e2 => ?_) (fun e2 => ?_))
        · rw [sw_step _ _ _ _ _ _ (if_pos e'), if_pos (show d + ys[i].xStep = 0 by simpa using e2)] at hq
          exact subW_of (by omega) (by omega) (appW_of (by simp only [List.length_singleton]; omega) (addW_of (by omega) (by omega) (hn2 hilt _ ⟨by simp, by omega, hq, by simp only [List.length_append, List.length_singleton]; omega, by simp only; omega, by simp only; omega⟩)))
        · rw [sw_step _ _ _ _ _ _ (if_pos e'), if_neg (show ¬ d + ys[i].xStep = 0 by simpa using e2)] at hq
          exact addW_of (by omega) (by omega) (hn2 hilt _ ⟨by simp, by omega, hq, by simp only; omega, by simp only; omega, by simp only; omega⟩)
      · have e' : ¬ d = 0 := by simpa using e
        refine addW_of (by omega) (by omega) (ifW_of (fun e2 => ?_) (fun e2 => ?_))
        · rw [sw_step _ _ _ _ _ _ (if_neg e'), if_pos (show d + ys[i].xStep = 0 by simpa using e2)] at hq
          exact subW_of (by omega) (by omega) (appW_of (by simp only [List.length_singleton]; omega) (addW_of (by omega) (by omega) (hn2 hilt _ ⟨by simp, by omega, hq, by simp only [List.length_append, List.length_singleton]; omega, by simp only; omega, by simp only; omega⟩)))
        · rw [sw_step _ _ _ _ _ _ (if_neg e'), if_neg (show ¬ d + ys[i].xStep = 0 by simpa using e2)] at hq
          exact addW_of (by omega) (by omega) (hn2 hilt _ ⟨by simp, by omega, hq, by simp only; omega, by simp only; omega, by simp only; omega⟩)
    · have hge2 : ys.length ≤ i := by simpa using hd
      rw [List.drop_eq_nil_of_le hge2] at hq
      simp only [List.map_nil, sweep] at hq
      rw [hq]; exact h


end
section
open Go Go.Proofs

instance (l : List GSpan) : Decidable (NF l) := by unfold NF; infer_instance
instance (l : List GSpan) (t : Int) : Decidable (St l t) := by unfold St; infer_instance
/-- a valid set -/
def SpV (l : List GSpan) (top : Int) : Prop := l.length ≤ 40 ∧ St l top
instance (l : List GSpan) (t : Int) : Decidable (SpV l t) := by unfold SpV; infer_instance
instance (l : List GSpan) (x : Int) : Decidable (hv l x) := by unfold hv; infer_instance
theorem S_impl_SpansHave {l : List GSpan} {x : Int} (hl : l.length ≤ 4294967296) {κ : Bool → Prop} (h : κ (decide (hv l x))) : L_impl_SpansHave l x κ := by
  unfold L_impl_SpansHave
  refine count_loop l.length (fun s => s) (fun k s => s = (k : Int) ∧ k ≤ l.length ∧ ¬ hv (l.take k) x) (fun k s h => h.1) (fun k s h => h.2.1) ?_ ⟨rfl, Nat.zero_le _, by simp [hv]⟩
  rintro k _ next ⟨rfl, hk, hno⟩ hn
  refine ifW_of (fun hc => ?_) (fun hc => ?_)
  · have hlt : k < l.length := by simpa using hc
    unfold jnW
    have go : ¬ (l[k].xLo ≤ x ∧ x ≤ l[k].xHi) → addW (k : Int) 1 (fun t => next t) := fun hh => addW_of (by omega) (by omega) (hn hlt _ ⟨by simp, by omega, by
      rw [List.take_succ_eq_append_getElem hlt, hv_app, hv_cons]
      rintro (q | q | q)
      · exact hno q
      · exact hh q
      · exact hv_nil _ q⟩)
    refine idxW_of k rfl hlt (ifW_of (fun e => ifW_of (fun e2 => ?_) (fun e2 => go (fun f => by simp [f.2] at e2))) (fun e => ifW_f (go (fun f => by simp [f.1] at e))))
    rw [decide_eq_true (show hv l x from ⟨_, List.getElem_mem hlt, by simpa using e, by simpa using e2⟩)] at h
    exact h
  · have hge : l.length ≤ k := by simpa using hc
    rw [List.take_of_length_le hge] at hno
    rw [decide_eq_false hno] at h; exact h

end
section


def pv (p : GPacket) : Prop := (0 ≤ p.xFrom ∧ p.xFrom ≤ 65535) ∧ (0 ≤ p.xTo ∧ p.xTo ≤ 65535) ∧ (0 ≤ p.xPort ∧ p.xPort ≤ 255) ∧ (0 ≤ p.xProto ∧ p.xProto ≤ 7)
instance (p : GPacket) : Decidable (pv p) := by unfold pv; infer_instance
def rev (p : GPacket) : GPacket := ⟨p.xTo, p.xFrom, p.xPort, p.xProto⟩
def tv (t : Int) : Prop := 0 ≤ t ∧ t ≤ 1000000
instance (t : Int) : Decidable (tv t) := by unfold tv; infer_instance

/-! packets -/
theorem S_fieldTop {n : Int} (h0 : 0 ≤ n) (h1 : n < 4) {κ : Int → Prop} (h : κ (if n ≤ 1 then 65535 else if n = 2 then 255 else 7)) : L_impl_FieldTop n κ := by
  unfold L_impl_FieldTop jnW
  refine ifW_of (fun hc => by simp at hc; omega) (fun _ => ifW_of (fun hc => by simp at hc; omega) (fun _ => ?_))
  have : n = 0 ∨ n = 1 ∨ n = 2 ∨ n = 3 := by omega
  rcases this with rfl | rfl | rfl | rfl
  · exact idxW_of 0 rfl (by simp [gl_impl_fieldShapes]) (by simpa [gl_impl_fieldShapes] using h)
  · exact idxW_of 1 rfl (by simp [gl_impl_fieldShapes]) (by simpa [gl_impl_fieldShapes] using h)
  · exact idxW_of 2 rfl (by simp [gl_impl_fieldShapes]) (by simpa [gl_impl_fieldShapes] using h)
  · exact idxW_of 3 rfl (by simp [gl_impl_fieldShapes]) (by simpa [gl_impl_fieldShapes] using h)
def fieldP (p : GPacket) : Nat → Int
  | 0 => p.xFrom
  | 1 => p.xTo
  | 2 => p.xPort
  | _ => p.xProto
def topP : Nat → Int
  | 0 => 65535
  | 1 => 65535
  | 2 => 255
  | _ => 7
theorem pv_iff (p : GPacket) : pv p ↔ ∀ i, i < 4 → 0 ≤ fieldP p i ∧ fieldP p i ≤ topP i := by
  unfold pv
  constructor
  · rintro ⟨h0, h1, h2, h3⟩ i hi
    match i, hi with
    | 0, _ => exact h0
    | 1, _ => exact h1
    | 2, _ => exact h2
    | 3, _ => exact h3
  · intro h
    exact ⟨h 0 (by omega), h 1 (by omega), h 2 (by omega), h 3 (by omega)⟩
theorem S_PacketValid {p : GPacket} {κ : Bool → Prop} (h : κ (decide (pv p))) : L_impl_PacketValid p κ := by
  unfold L_impl_PacketValid L_impl_Packet_fields
  refine count_loop 4 (fun s => s) (fun k s => s = (k : Int) ∧ k ≤ 4 ∧ ∀ i, i < k → 0 ≤ fieldP p i ∧ fieldP p i ≤ topP i) (fun k s h => h.1) (fun k s h => h.2.1) ?_ ⟨rfl, by omega, fun i hi => by omega⟩
  rintro k _ next ⟨rfl, hk, hi⟩ hn
  refine ifW_of (fun hlt => ?_) (fun hge => ?_)
  · have hlt : k < 4 := by simp at hlt; omega
    have hno : ¬ (0 ≤ fieldP p k ∧ fieldP p k ≤ topP k) → κ false := fun hno => by
      rw [decide_eq_false (fun hv => hno ((pv_iff p).1 hv k hlt))] at h
      exact h
    refine idxW_of k rfl (by simpa using hlt) ?_
    have e : ([p.xFrom, p.xTo, p.xPort, p.xProto] : List Int)[k]'(by simpa using hlt) = fieldP p k := by
      match k, hlt with
      | 0, _ => rfl
      | 1, _ => rfl
      | 2, _ => rfl
      | 3, _ => rfl
    simp only [e]
    unfold jnW
    refine ifW_of (fun hc => ?_) (fun hc => S_fieldTop (by omega) (by omega) ?_)
    · simp only [ifW_true]; exact hno (by simp at hc; omega)
    · have et : (if (k : Int) ≤ 1 then (65535 : Int) else if (k : Int) = 2 then 255 else 7) = topP k := by
        match k, hlt with
        | 0, _ => rfl
        | 1, _ => rfl
        | 2, _ => rfl
        | 3, _ => rfl
      rw [et]
      refine ifW_of (fun h2 => hno (by simp at h2; omega)) (fun h2 => addW_of (by omega) (by omega) (hn hlt _ ⟨by simp, by omega, fun i hi' => ?_⟩))
      by_cases e : i = k
      · subst e; simp at hc h2; exact ⟨hc, h2⟩
      · exact hi i (by omega)
  · have : k = 4 := by simp at hge; omega
    subst this
    rw [decide_eq_true ((pv_iff p).2 hi)] at h
    exact h
theorem S_specPacketValid {p : GPacket} {κ : Bool → Prop} (h : κ (decide (pv p))) : L_spec_PacketValid p κ := by
  unfold L_spec_PacketValid jnW
  refine S_l1In (ifW_of (fun h1 => S_l1In (ifW_of (fun h2 => S_l1In (ifW_of (fun h3 => S_l1In ?_) (fun h3 => ?_))) (fun h2 => ?_))) (fun h1 => ?_))
  all_goals
    refine (congrArg κ ?_).mp h
    clear h
    first
      | (refine decide_eq_decide.2 ?_; simp only [decide_eq_true_eq] at *; unfold pv; constructor <;> (intro k; omega))
      | (refine decide_eq_false ?_; simp only [decide_eq_true_eq, decide_eq_false_iff_not] at *; unfold pv; intro k; omega)
def lv (t : Int) : Prop := 0 ≤ t ∧ t ≤ 1000
instance (t : Int) : Decidable (lv t) := by unfold lv; infer_instance
/-! flows -/
end
section
open Go Go.Proofs

theorem S_Compare {x y : Int} {κ : Int → Prop} (h1 : x < y → κ (-1)) (h2 : y < x → κ 1) (h3 : x = y → κ 0) : L_cmp_Compare_int x y κ := by
  unfold L_cmp_Compare_int L_cmp_isNaN_int
  simp only [decide_true, Bool.not_true]
  refine ifW_f (ifW_f (ifW_of (fun e => h1 (by simpa using e)) (fun e => ifW_of (fun e2 => h2 (by simpa using e2)) (fun e2 => h3 (by simp at e e2; omega)))))
def mono (ys : List GShift) : Prop := (∀ s ∈ ys, s.xWhere.xLo ≤ s.xWhere.xHi) ∧ ys.Pairwise (fun a b => a.xWhere.xHi < b.xWhere.xLo)
theorem mono_hi {ys : List GShift} (h : mono ys) {i j : Nat} (hj : j < ys.length) (hij : i ≤ j) : (ys[i]'(by omega)).xWhere.xHi ≤ ys[j].xWhere.xHi := by
  by_cases e : i = j
  · subst e; exact Int.le_refl _
  · have h1 := List.pairwise_iff_getElem.1 h.2 i j (by omega) hj (by omega)
    have h2 := h.1 _ (List.getElem_mem hj)
    omega
theorem S_move {ys : List GShift} {a : Int} (hl : ys.length ≤ 1000) (hm : mono ys) (ha : 0 ≤ a ∧ a ≤ 65535) (hb : ∀ s ∈ ys, -65536 ≤ s.xBy ∧ s.xBy ≤ 65536) {κ : Int → Prop}
    (hT : ∀ s ∈ ys, s.xWhere.xLo ≤ a → a ≤ s.xWhere.xHi → κ (a + s.xBy)) (hF : (∀ s ∈ ys, ¬ (s.xWhere.xLo ≤ a ∧ a ≤ s.xWhere.xHi)) → κ a) : L_impl_mover_move ys a κ := by
  unfold L_impl_mover_move
  -- behind the search
  have fin : ∀ (n : Nat) (c : Bool), n ≤ ys.length → (∀ k, (h : k < ys.length) → k < n → ys[k].xWhere.xHi < a) → (∀ k, (h : k < ys.length) → n ≤ k → a ≤ ys[k].xWhere.xHi) →
      (jnW (fun (t67 : Bool) => ifW t67 (idxW ys (n : Int) (fun e69 => addW a e69.xBy (fun t71 => κ t71))) (κ a)) (fun k68 => ifW (decide ((n : Int) < (ys.length : Int))) (idxW ys (n : Int) (fun e5 => k68 (decide (e5.xWhere.xLo ≤ a)))) (k68 false))) := by
    intro n c hn h1 h2
    unfold jnW
    refine ifW_of (fun e => ?_) (fun e => ifW_f (hF (fun s hs hh => ?_)))
    · have hlt : n < ys.length := by simpa using e
      have hg := h2 n hlt (Nat.le_refl _)
      have hbn := hb _ (List.getElem_mem hlt)
      refine idxW_of n rfl hlt (ifW_of (fun e2 => idxW_of n rfl hlt (addW_of (by omega) (by omega) (hT _ (List.getElem_mem hlt) (by simpa using e2) hg))) (fun e2 => hF (fun s hs hh => ?_)))
      have e2' : ¬ ys[n].xWhere.xLo ≤ a := by simpa using e2
      obtain ⟨k, hk, he⟩ := List.getElem_of_mem hs
      subst he
      rcases Nat.lt_or_ge k n with q | q
      · have := h1 k hk q; omega
      · by_cases e3 : n = k
        · subst e3; exact e2' hh.1
        · have h5 := List.pairwise_iff_getElem.1 hm.2 n k hlt hk (by omega)
          have h6 := hm.1 _ (List.getElem_mem hlt)
          omega
    · have hge : ys.length ≤ n := by simpa using e
      obtain ⟨k, hk, he⟩ := List.getElem_of_mem hs
      subst he
      have := h1 k hk (by omega)
      omega
  unfold L_slices_BinarySearchFunc_impl_mover_impl_shift_int__impl_mover_move_1
  refine loopW_inv (fun (s : Int × Int) => ∃ i j : Nat, s.1 = i ∧ s.2 = j ∧ i ≤ j ∧ j ≤ ys.length ∧ (∀ k, (h : k < ys.length) → k < i → ys[k].xWhere.xHi < a) ∧ ∀ k, (h : k < ys.length) → j ≤ k → a ≤ ys[k].xWhere.xHi) (fun s => (s.2 - s.1).toNat) ?_ ⟨0, ys.length, rfl, rfl, Nat.zero_le _, Nat.le_refl _, fun k _ h => by omega, fun k _ h => by omega⟩
  rintro ⟨_, _⟩ next ⟨i, j, rfl, rfl, hij, hj, h1, h2⟩ hn
  refine ifW_of (fun e => ?_) (fun e => ?_)
  · have hlt : i < j := by simpa using e
    refine addW_of (by omega) (by omega) ⟨by omega, by omega, ⟨by decide, by decide, by omega, ⟨by omega, by omega⟩, ?_⟩⟩
    have hh : ((i : Int) + j) / 2 ^ (1 : Int).toNat = (((i + j) / 2 : Nat) : Int) := by
      rw [show (2 : Int) ^ (1 : Int).toNat = 2 by decide]; omega
    refine ⟨by rw [hh]; omega, by rw [hh]; omega, ?_⟩
    generalize hq : ((i : Int) + j) / 2 ^ (1 : Int).toNat = q at hh ⊢
    subst hh
    have hm1 : (i + j) / 2 < ys.length := by omega
    refine idxW_of ((i + j) / 2) rfl hm1 ?_
    unfold L_impl_mover_move_1
    have lo : ys[(i + j) / 2].xWhere.xHi < a → addW (((i + j) / 2 : Nat) : Int) 1 (fun t11 => next (t11, (j : Int))) := fun hlo =>
      addW_of (by omega) (by omega) (hn _ ⟨(i + j) / 2 + 1, j, by simp, rfl, by omega, hj, fun k hk hki => by
        have := mono_hi hm hm1 (show k ≤ (i + j) / 2 by omega); omega, h2⟩ (by simp only; omega))
    have hi : a ≤ ys[(i + j) / 2].xWhere.xHi → next ((i : Int), (((i + j) / 2 : Nat) : Int)) := fun hhi =>
      hn _ ⟨i, (i + j) / 2, rfl, rfl, by omega, by omega, h1, fun k hk hki => by
        have := mono_hi hm hk hki; omega⟩ (by simp only; omega)
    exact S_Compare (fun c => ifW_t (lo c)) (fun c => ifW_f (hi (by omega))) (fun c => ifW_f (hi (by omega)))
  · have hge : j ≤ i := by simpa using e
    have hij' : i = j := by omega
    subst hij'
    show jnW (fun (t75 : Bool) => _) _
    unfold jnW
    refine ifW_of (fun e2 => ?_) (fun e2 => fin i false hj h1 h2)
    have hlt : i < ys.length := by simpa using e2
    refine idxW_of i rfl hlt ?_
    unfold L_impl_mover_move_1
    exact S_Compare (fun _ => fin i false hj h1 h2) (fun _ => fin i false hj h1 h2) (fun _ => fin i false hj h1 h2)
def shO (r : GRewrite) : GShift := GShift.mk (psp r.xInside) (r.xOutside.xBase - r.xInside.xBase)
def shI (r : GRewrite) : GShift := GShift.mk (psp r.xOutside) (r.xInside.xBase - r.xOutside.xBase)
theorem pw_in : ∀ {l : List GRewrite}, (spl l).Pairwise apart → (l.map fun r => psp r.xInside).Pairwise apart ∧ (l.map fun r => psp r.xOutside).Pairwise apart
  | [], _ => by simp
  | t :: l, h => by
    have e : spl (t :: l) = psp t.xInside :: psp t.xOutside :: spl l := by simp [spl, pfs_cons]
    rw [e, List.pairwise_cons, List.pairwise_cons] at h
    obtain ⟨h1, h2, h3⟩ := h
    obtain ⟨i1, i2⟩ := pw_in h3
    have mi : ∀ u ∈ l, psp u.xInside ∈ spl l := fun u hu => List.mem_map_of_mem (pfs_mem.2 ⟨u, hu, .inl rfl⟩)
    have mo : ∀ u ∈ l, psp u.xOutside ∈ spl l := fun u hu => List.mem_map_of_mem (pfs_mem.2 ⟨u, hu, .inr rfl⟩)
    rw [List.map_cons, List.map_cons, List.pairwise_cons, List.pairwise_cons]
    refine ⟨⟨fun s hs => ?_, i1⟩, ⟨fun s hs => ?_, i2⟩⟩
    · obtain ⟨u, hu, rfl⟩ := List.mem_map.1 hs
      exact h1 _ (by simp [mi u hu])
    · obtain ⟨u, hu, rfl⟩ := List.mem_map.1 hs
      exact h2 _ (mo u hu)
theorem mono_of {zs ys : List GShift} (hp : zs.Perm ys) (hs : ys.Pairwise (fun a b => decide (b.xWhere.xLo < a.xWhere.xLo) = false)) (hok : ∀ s ∈ zs, s.xWhere.xLo ≤ s.xWhere.xHi) (ha : (zs.map (·.xWhere)).Pairwise apart) : mono ys := by
  have h2 : ∀ s ∈ ys, s.xWhere.xLo ≤ s.xWhere.xHi := fun s hm => hok s (hp.mem_iff.2 hm)
  refine ⟨h2, ?_⟩
  have h3 : (ys.map (·.xWhere)).Pairwise apart := (perm_apart (hp.map _)).1 ha
  have h4 : (ys.map (·.xWhere)).Pairwise (fun a b => a.xLo ≤ b.xLo) := by
    rw [List.pairwise_map]
    exact hs.imp (fun {a b} h => by have := of_decide_eq_false h; omega)
  have h5 := (apart_sorted (ys := ys.map (·.xWhere)) (fun s hm => by
    obtain ⟨u, hu, rfl⟩ := List.mem_map.1 hm
    exact h2 u hu) h4).1 h3
  rw [List.pairwise_map] at h5
  exact h5
theorem S_shiftTo {p q : GPrefix} (hp : PV p) (hq : PV q) {κ : GShift → Prop} (h : κ (GShift.mk (psp p) (q.xBase - p.xBase))) : L_impl_shiftTo p q κ := by
  have := PV_bd hp
  have := PV_bd hq
  unfold L_impl_shiftTo
  refine S_impl_PrefixSpan ?_
  rw [show pspF p = (psp p, true) from if_pos hp]
  exact subW_of (by omega) (by omega) h
/-- the program's way out -/
theorem S_out {l : List GRewrite} (hv : RwV l) {a : Int} (ha : 0 ≤ a ∧ a ≤ 65535) {κ : Int → Prop} (h : κ (outF l a)) : L_impl_moverOf__impl_Rewrite_outward l (fun r73 => L_impl_mover_move r73 a (fun r75 => κ r75)) := by
  have hl := hv.1
  unfold L_impl_moverOf__impl_Rewrite_outward
  refine makeW_of 0 rfl (by omega) (by omega) ?_
  refine count_loop l.length (fun s => s.2) (fun k s => s.2 = (k : Int) ∧ k ≤ l.length ∧ s.1 = (l.take k).map shO) (fun k s h => h.1) (fun k s h => h.2.1) ?_ ⟨rfl, Nat.zero_le _, by simp⟩
  rintro k ⟨xs, t⟩ next ⟨rfl, hk, hx⟩ hn
  simp only at hx
  subst hx
  refine ifW_of (fun hc => ?_) (fun hc => ?_)
  · have hlt : k < l.length := by simpa using hc
    have ho := hv.2.1 _ (List.getElem_mem hlt)
    refine idxW_of k rfl hlt ?_
    unfold L_impl_Rewrite_outward
    refine S_shiftTo ho.1 ho.2.1 (appW_of (by simp only [List.length_map, List.length_take, List.length_singleton]; omega) (addW_of (by omega) (by omega) (hn hlt _ ⟨by simp, by omega, ?_⟩)))
    rw [List.take_succ_eq_append_getElem hlt, List.map_append]; rfl
  · have hge : l.length ≤ k := by simpa using hc
    rw [List.take_of_length_le hge]
    refine ⟨by simp only [List.length_map]; omega, fun ys hp hs => ?_⟩
    have hm : mono ys := mono_of hp hs (fun s hs => by obtain ⟨r, hr, rfl⟩ := List.mem_map.1 hs; exact psp_ok (hv.2.1 r hr).1) (by
      rw [List.map_map]; exact (pw_in hv.2.2).1)
    have hmem : ∀ s ∈ ys, ∃ r ∈ l, s = shO r := fun s hs => by
      obtain ⟨r, hr, e⟩ := List.mem_map.1 (hp.mem_iff.2 hs); exact ⟨r, hr, e.symm⟩
    refine S_move (by rw [← hp.length_eq]; simp only [List.length_map]; omega) hm ha (fun s hs => ?_) (fun s hs h1 h2 => ?_) (fun hno => ?_)
    · obtain ⟨r, hr, rfl⟩ := hmem s hs
      have := PV_bd (hv.2.1 r hr).1
      have := PV_bd (hv.2.1 r hr).2.1
      simp only [shO]; omega
    · obtain ⟨r, hr, rfl⟩ := hmem s hs
      have e : outF l a = r.xOutside.xBase + (a - r.xInside.xBase) := by unfold outF; rw [find_in hv.2.2 hr ⟨h1, h2⟩]
      have e2 : a + (shO r).xBy = outF l a := by rw [e]; simp only [shO]; omega
      rw [e2]; exact h
    · rw [outF_none (fun r hr hh => hno (shO r) (hp.mem_iff.1 (List.mem_map_of_mem hr)) hh)] at h
      exact h
theorem S_in {l : List GRewrite} (hv : RwV l) {a : Int} (ha : 0 ≤ a ∧ a ≤ 65535) {κ : Int → Prop} (h : κ (inF l a)) : L_impl_moverOf__impl_Rewrite_inward l (fun r73 => L_impl_mover_move r73 a (fun r75 => κ r75)) := by
  have hl := hv.1
  unfold L_impl_moverOf__impl_Rewrite_inward
  refine makeW_of 0 rfl (by omega) (by omega) ?_
  refine count_loop l.length (fun s => s.2) (fun k s => s.2 = (k : Int) ∧ k ≤ l.length ∧ s.1 = (l.take k).map shI) (fun k s h => h.1) (fun k s h => h.2.1) ?_ ⟨rfl, Nat.zero_le _, by simp⟩
  rintro k ⟨xs, t⟩ next ⟨rfl, hk, hx⟩ hn
  simp only at hx
  subst hx
  refine ifW_of (fun hc => ?_) (fun hc => ?_)
  · have hlt : k < l.length := by simpa using hc
    have ho := hv.2.1 _ (List.getElem_mem hlt)
    refine idxW_of k rfl hlt ?_
    unfold L_impl_Rewrite_inward
    refine S_shiftTo ho.2.1 ho.1 (appW_of (by simp only [List.length_map, List.length_take, List.length_singleton]; omega) (addW_of (by omega) (by omega) (hn hlt _ ⟨by simp, by omega, ?_⟩)))
    rw [List.take_succ_eq_append_getElem hlt, List.map_append]; rfl
  · have hge : l.length ≤ k := by simpa using hc
    rw [List.take_of_length_le hge]
    refine ⟨by simp only [List.length_map]; omega, fun ys hp hs => ?_⟩
    have hm : mono ys := mono_of hp hs (fun s hs => by obtain ⟨r, hr, rfl⟩ := List.mem_map.1 hs; exact psp_ok (hv.2.1 r hr).2.1) (by
      rw [List.map_map]; exact (pw_in hv.2.2).2)
    have hmem : ∀ s ∈ ys, ∃ r ∈ l, s = shI r := fun s hs => by
      obtain ⟨r, hr, e⟩ := List.mem_map.1 (hp.mem_iff.2 hs); exact ⟨r, hr, e.symm⟩
    refine S_move (by rw [← hp.length_eq]; simp only [List.length_map]; omega) hm ha (fun s hs => ?_) (fun s hs h1 h2 => ?_) (fun hno => ?_)
    · obtain ⟨r, hr, rfl⟩ := hmem s hs
      have := PV_bd (hv.2.1 r hr).1
      have := PV_bd (hv.2.1 r hr).2.1
      simp only [shI]; omega
    · obtain ⟨r, hr, rfl⟩ := hmem s hs
      have e : inF l a = r.xInside.xBase + (a - r.xOutside.xBase) := by unfold inF; rw [find_out hv.2.2 hr ⟨h1, h2⟩]
      have e2 : a + (shI r).xBy = inF l a := by rw [e]; simp only [shI]; omega
      rw [e2]; exact h
    · rw [inF_none (fun r hr hh => hno (shI r) (hp.mem_iff.1 (List.mem_map_of_mem hr)) hh)] at h
      exact h
/-- a packet on its way -/
def ro (l : List GRewrite) (p : GPacket) : GPacket := if RwV l ∧ pv p then GPacket.mk (outF l p.xFrom) p.xTo p.xPort p.xProto else GPacket.mk 0 0 0 0
def ri (l : List GRewrite) (p : GPacket) : GPacket := if RwV l ∧ pv p then GPacket.mk p.xFrom (inF l p.xTo) p.xPort p.xProto else GPacket.mk 0 0 0 0
theorem S_impl_RewriteOut {l : List GRewrite} {p : GPacket} (hl : l.length ≤ 9223372036854775807) {κ : GPacket → Prop} (h : κ (ro l p)) : L_impl_RewriteOut l p κ := by
  unfold L_impl_RewriteOut jnW
  have no : ¬ (RwV l ∧ pv p) → κ (GPacket.mk 0 0 0 0) := fun e => by unfold ro at h; rw [if_neg e] at h; exact h
  refine S_impl_RewritesValid hl (ifW_of (fun e => ifW_t (no (fun f => by simp [f.1] at e))) (fun e => S_PacketValid (ifW_of (fun e2 => no (fun f => by simp [f.2] at e2)) (fun e2 => ?_))))
  have e1 : RwV l := by simpa using e
  have e2' : pv p := by simpa using e2
  unfold ro at h; rw [if_pos ⟨e1, e2'⟩] at h
  exact S_out e1 e2'.1 (κ := fun t71 => κ (GPacket.mk t71 p.xTo p.xPort p.xProto)) h
theorem S_impl_RewriteIn {l : List GRewrite} {p : GPacket} (hl : l.length ≤ 9223372036854775807) {κ : GPacket → Prop} (h : κ (ri l p)) : L_impl_RewriteIn l p κ := by
  unfold L_impl_RewriteIn jnW
  have no : ¬ (RwV l ∧ pv p) → κ (GPacket.mk 0 0 0 0) := fun e => by unfold ri at h; rw [if_neg e] at h; exact h
  refine S_impl_RewritesValid hl (ifW_of (fun e => ifW_t (no (fun f => by simp [f.1] at e))) (fun e => S_PacketValid (ifW_of (fun e2 => no (fun f => by simp [f.2] at e2)) (fun e2 => ?_))))
  have e1 : RwV l := by simpa using e
  have e2' : pv p := by simpa using e2
  unfold ri at h; rw [if_pos ⟨e1, e2'⟩] at h
  exact S_in e1 e2'.2.1 (κ := fun t71 => κ (GPacket.mk p.xFrom t71 p.xPort p.xProto)) h
-- the reference
theorem S_l24Map {a : Int} {p q : GPrefix} (hp : PV p) (hq : PV q) (ha : 0 ≤ a ∧ a ≤ 65535) {κ : Int → Prop} (hT : inp p a → κ (q.xBase + (a - p.xBase))) (hF : ¬ inp p a → κ (-1)) : L_spec_l24Map a p q κ := by
  have k1 := PV_bd hp
  have k2 := PV_bd hq
  have e0 : PV (GPrefix.mk a 16) := by
    refine ⟨(show (0 : Int) ≤ 16 by decide), (show (16 : Int) ≤ 16 by decide), ha.1, ha.2, ?_⟩
    rw [show (16 - (GPrefix.mk a 16).xLength).toNat = 0 from rfl, Int.pow_zero]
    exact Int.emod_one _
  have es : psp (GPrefix.mk a 16) = GSpan.mk a a := by
    unfold psp psz
    rw [show (16 - (GPrefix.mk a 16).xLength).toNat = 0 from rfl, Int.pow_zero]
    simp only [GSpan.mk.injEq, true_and]; omega
  have ei : win (GPrefix.mk a 16) p ↔ inp p a := by unfold win inp; rw [es]
  unfold L_spec_l24Map
  refine S_PrefixWithin e0 hp (ifW_of (fun e => ?_) (fun e => ?_))
  · exact hF (fun f => by have := ei.2 f; simp [this] at e)
  · have f : inp p a := ei.1 (by simpa using e)
    have := hT f
    refine addW_of (by omega) (by omega) (subW_of (by omega) (by omega) ?_)
    rw [show q.xBase + a - p.xBase = q.xBase + (a - p.xBase) by omega]; exact this
theorem S_spec_RewriteOut {l : List GRewrite} {p : GPacket} (hl : l.length ≤ 2000000000) {κ : GPacket → Prop} (h : κ (ro l p)) : L_spec_RewriteOut l p κ := by
  unfold L_spec_RewriteOut jnW
  have no : ¬ (RwV l ∧ pv p) → κ (GPacket.mk 0 0 0 0) := fun e => by unfold ro at h; rw [if_neg e] at h; exact h
  refine S_spec_RewritesValid hl (ifW_of (fun e => ifW_t (no (fun f => by simp [f.1] at e))) (fun e => S_specPacketValid (ifW_of (fun e2 => no (fun f => by simp [f.2] at e2)) (fun e2 => ?_))))
  have e1 : RwV l := by simpa using e
  have e2' : pv p := by simpa using e2
  unfold ro at h; rw [if_pos ⟨e1, e2'⟩] at h
  have ha : 0 ≤ p.xFrom ∧ p.xFrom ≤ 65535 := e2'.1
  refine count_loop l.length (fun s => s) (fun k s => s = (k : Int) ∧ k ≤ l.length ∧ ∀ i, (hi : i < l.length) → i < k → ¬ inp l[i].xInside p.xFrom) (fun k s h => h.1) (fun k s h => h.2.1) ?_ ⟨rfl, Nat.zero_le _, fun i _ h => by omega⟩
  rintro k _ next ⟨rfl, hk, hno⟩ hn
  refine ifW_of (fun hc => ?_) (fun hc => ?_)
  · have hlt : k < l.length := by simpa using hc
    have hmem := List.getElem_mem hlt
    have ho := e1.2.1 _ hmem
    have k1 := PV_bd ho.1
    have k2 := PV_bd ho.2.1
    refine idxW_of k rfl hlt (idxW_of k rfl hlt (S_l24Map ho.1 ho.2.1 ha (fun hin => ?_) (fun hin => ?_)))
    · have e3 : outF l p.xFrom = l[k].xOutside.xBase + (p.xFrom - l[k].xInside.xBase) := by unfold outF; rw [find_in e1.2.2 hmem hin]
      have r := outF_range e1 ha.1 ha.2
      rw [e3] at h r
      refine ifW_of (fun _ => h) (fun f => ?_)
      simp at f; omega
    · refine ifW_f (addW_of (by omega) (by omega) (hn hlt _ ⟨by simp, by omega, fun i hi hik => ?_⟩))
      by_cases e3 : i = k
      · subst e3; exact hin
      · exact hno i hi (by omega)
  · have hge : l.length ≤ k := by simpa using hc
    rw [outF_none (fun r hr => by
      obtain ⟨i, hi, e3⟩ := List.getElem_of_mem hr
      rw [← e3]; exact hno i hi (by omega))] at h
    exact h
end
section


/-! draws -/
theorem S_l20Packet {b : List UInt8} {p n : Int} (hb : b.length ≤ 2000) (h0 : 0 ≤ p) (h1 : p ≤ 900000) (hn : n ≤ 4294967296) {κ : GPacket × Int → Prop} (h : ∀ k p', p ≤ p' → p' ≤ p + 20 → κ (k, p')) : L_spec_l20Packet b p n κ := by
  unfold L_spec_l20Packet
  have rd : ∀ q, 0 ≤ q → q ≤ 900040 → RdP b q := fun q q1 q2 => ⟨hb, q1, by omega⟩
  refine S_pick (rd _ (by omega) (by omega)) (fun a a1 a2 => S_pick (rd _ (by omega) (by omega)) (fun c c1 c2 => S_pick (rd _ (by omega) (by omega)) (fun d d1 d2 => S_pick (rd _ (by omega) (by omega)) (fun e e1 e2 => ?_))))
  have fin : ∀ (q x y z : Int), p ≤ q → q ≤ p + 12 → L_spec_l20Rd_odd b q n (fun (r44, r45) => ifW r44 (L_spec_l20Rd_pick b r45 4 (fun (r46, r47) => ifW (decide (r46 = 0)) (L_spec_l20Rd_pick b r47 2 (fun (r50, r51) => idxW ([(-1), 65536]) r50 (fun e52 => κ ((GPacket.mk e52 y z e), r51)))) (ifW (decide (r46 = 1)) (L_spec_l20Rd_pick b r47 2 (fun (r56, r57) => idxW ([(-1), 65536]) r56 (fun e58 => κ ((GPacket.mk x e58 z e), r57)))) (ifW (decide (r46 = 2)) (L_spec_l20Rd_pick b r47 2 (fun (r62, r63) => idxW ([(-1), 256]) r62 (fun e64 => κ ((GPacket.mk x y e64 e), r63)))) (L_spec_l20Rd_pick b r47 2 (fun (r68, r69) => idxW ([(-1), 8]) r68 (fun e70 => κ ((GPacket.mk x y z e70), r69)))))))) (κ ((GPacket.mk x y z e), r45))) := by
    intro q x y z q1 q2
    refine S_odd (rd _ (by omega) (by omega)) hn (fun o r r1 r2 => ifW_of (fun _ => S_pick (rd _ (by omega) (by omega)) (fun k k1 k2 => ?_)) (fun _ => h _ _ (by omega) (by omega)))
    refine ifW_of (fun _ => ?_) (fun _ => ifW_of (fun _ => ?_) (fun _ => ifW_of (fun _ => ?_) (fun _ => ?_)))
    all_goals exact S_pick (rd _ (by omega) (by omega)) (fun j j1 j2 => idxW_any j1 (by simp; omega) (fun x hx => h _ _ (by omega) (by omega)))
  unfold jnW
  refine S_pick (rd _ (by omega) (by omega)) (fun v v1 v2 => ifW_of (fun _ => ?_) (fun _ => ?_))
  · refine S_pick (rd _ (by omega) (by omega)) (fun f f1 f2 => mulW_of (by omega) (by omega) (S_pick (rd _ (by omega) (by omega)) (fun g g1 g2 => addW_of (by omega) (by omega) (S_pick (rd _ (by omega) (by omega)) (fun i i1 i2 => mulW_of (by omega) (by omega) (S_pick (rd _ (by omega) (by omega)) (fun j j1 j2 => addW_of (by omega) (by omega) (S_pick (rd _ (by omega) (by omega)) (fun l l1 l2 => ?_)))))))))
    exact fin _ _ _ _ (by omega) (by omega)
  · exact fin _ _ _ _ (by omega) (by omega)
/-! the program's other functions -/
theorem S_ReversePacket {p : GPacket} {κ : GPacket → Prop} (h : κ (if pv p then rev p else ⟨0, 0, 0, 0⟩)) : L_impl_ReversePacket p κ := by
  unfold L_impl_ReversePacket
  refine S_PacketValid (ifW_of (fun hc => ?_) (fun hc => ?_))
  · rw [if_neg (by simpa using hc)] at h; exact h
  · rw [if_pos (by simpa using hc)] at h; exact h
/-! the exact law -/
end
section
open Go Go.Proofs

theorem addS_len : ∀ (l : List GSpan) (s : GSpan) (out : List GSpan) (pl : Bool), (addS l s out pl).1.length + (if (addS l s out pl).2.2 then 0 else 1) ≤ out.length + l.length + (if pl then 0 else 1)
  | [], s, out, pl => by cases pl <;> simp [addS]
  | x :: xs, s, out, pl => by
    unfold addS
    by_cases c1 : x.xHi + 1 < s.xLo
    · rw [if_pos c1]
      have := addS_len xs s (out ++ [x]) pl
      simp only [List.length_append, List.length_cons, List.length_nil] at this ⊢
      omega
    · rw [if_neg c1]
      by_cases c2 : s.xHi + 1 < x.xLo
      · rw [if_pos c2]
        have := addS_len xs s ((if pl then out else out ++ [s]) ++ [x]) true
        cases pl <;> simp only [List.length_append, List.length_cons, List.length_nil, Bool.false_eq_true, if_true, if_false] at this ⊢ <;> omega
      · rw [if_neg c2]
        have := addS_len xs (GSpan.mk (min s.xLo x.xLo) (max s.xHi x.xHi)) out pl
        simp only [List.length_cons]
        omega
theorem add1_len (l : List GSpan) (s : GSpan) : (add1 l s).length ≤ l.length + 1 := by
  have := addS_len l s [] false
  unfold add1
  generalize addS l s [] false = r at *
  obtain ⟨o, s', pl⟩ := r
  cases pl <;> simp at this ⊢ <;> omega
theorem addAll_len : ∀ (xs a : List GSpan), (xs.foldl add1 a).length ≤ a.length + xs.length
  | [], a => by simp
  | s :: xs, a => by
    have h1 := addAll_len xs (add1 a s)
    have h2 := add1_len a s
    simp only [List.foldl_cons, List.length_cons]
    omega
theorem addAll_hv {xs : List GSpan} (h : ∀ s ∈ xs, inR s) (x : Int) : hv (xs.foldl add1 []) x ↔ hv xs x := by
  rw [(addAll_spec xs [] NF_nil (fun s hs => (h s hs).2.1)).2 x]
  simp [hv_nil]
theorem psp_inR {p : GPrefix} (h : PV p) : inR (psp p) := by
  have := PV_bd h; unfold inR psp; simp only; omega
theorem pfx_inR {ps : List GPrefix} (h : ∀ p ∈ ps, PV p) : ∀ s ∈ ps.map psp, inR s := fun s hs => by
  obtain ⟨p, hp, rfl⟩ := List.mem_map.1 hs
  exact psp_inR (h p hp)
theorem S_impl_PrefixesSpans {ps : List GPrefix} (hl : ps.length ≤ 40) (hv : ∀ p ∈ ps, PV p) {κ : List GSpan → Prop} (h : κ ((ps.map psp).foldl add1 [])) : L_impl_PrefixesSpans ps κ := by
  unfold L_impl_PrefixesSpans
  refine ifW_of (fun e => by simp at e; omega) (fun _ => makeW_of 0 rfl (by omega) (by omega) ?_)
  refine count_loop ps.length (fun s => s.2) (fun k s => s.2 = (k : Int) ∧ k ≤ ps.length ∧ s.1 = (ps.take k).map psp) (fun k s h => h.1) (fun k s h => h.2.1) ?_ ⟨rfl, Nat.zero_le _, by simp⟩
  rintro k ⟨es, t⟩ next ⟨rfl, hk, hx⟩ hn
  simp only at hx
  subst hx
  refine ifW_of (fun hc => ?_) (fun hc => ?_)
  · have hlt : k < ps.length := by simpa using hc
    refine idxW_of k rfl hlt (S_impl_PrefixSpan ?_)
    rw [show pspF ps[k] = (psp ps[k], true) from if_pos (hv _ (List.getElem_mem hlt))]
    refine ifW_f (appW_of (by simp only [List.length_map, List.length_take, List.length_singleton]; omega) (addW_of (by omega) (by omega) (hn hlt _ ⟨by simp, by omega, ?_⟩)))
    rw [List.take_succ_eq_append_getElem hlt, List.map_append]; rfl
  · have hge : ps.length ≤ k := by simpa using hc
    rw [List.take_of_length_le hge]
    exact S_impl_SpansOf (by simpa using hl) (pfx_inR hv) h
/-- the hidden addresses -/
def hidF (l : List GRewrite) : List GSpan := if RwV l then ((l.map (·.xInside)).map psp).foldl add1 [] else []
theorem ins_PV {l : List GRewrite} (h : RwV l) : ∀ p ∈ l.map (·.xInside), PV p := fun p hp => by
  obtain ⟨r, hr, rfl⟩ := List.mem_map.1 hp
  exact (h.2.1 r hr).1
theorem S_impl_HiddenFrom {l : List GRewrite} (hl : l.length ≤ 9223372036854775807) {κ : List GSpan → Prop} (h : κ (hidF l)) : L_impl_HiddenFrom l κ := by
  unfold L_impl_HiddenFrom
  refine S_impl_RewritesValid hl (ifW_of (fun e => ?_) (fun e => ?_))
  · have e' : ¬ RwV l := by simpa using e
    rw [show hidF l = [] from if_neg e'] at h; exact h
  have e' : RwV l := by simpa using e
  have hl10 := e'.1
  rw [show hidF l = _ from if_pos e'] at h
  refine makeW_of 0 rfl (by omega) (by omega) ?_
  refine count_loop l.length (fun s => s.2) (fun k s => s.2 = (k : Int) ∧ k ≤ l.length ∧ s.1 = (l.take k).map (·.xInside)) (fun k s h => h.1) (fun k s h => h.2.1) ?_ ⟨rfl, Nat.zero_le _, by simp⟩
  rintro k ⟨es, t⟩ next ⟨rfl, hk, hx⟩ hn
  simp only at hx
  subst hx
  refine ifW_of (fun hc => ?_) (fun hc => ?_)
  · have hlt : k < l.length := by simpa using hc
    refine idxW_of k rfl hlt (appW_of (by simp only [List.length_map, List.length_take, List.length_singleton]; omega) (addW_of (by omega) (by omega) (hn hlt _ ⟨by simp, by omega, ?_⟩)))
    rw [List.take_succ_eq_append_getElem hlt, List.map_append]; rfl
  · have hge : l.length ≤ k := by simpa using hc
    rw [List.take_of_length_le hge]
    exact S_impl_PrefixesSpans (by simp only [List.length_map]; omega) (ins_PV e') h
theorem hidF_len (l : List GRewrite) : (hidF l).length ≤ 10 := by
  unfold hidF
  split
  · next h =>
    have := addAll_len ((l.map (·.xInside)).map psp) []
    have := h.1
    simp only [List.length_map, List.length_nil] at *
    omega
  · simp
theorem hidF_hv {l : List GRewrite} (h : RwV l) (x : Int) : hv (hidF l) x ↔ ∃ r ∈ l, inp r.xInside x := by
  rw [show hidF l = _ from if_pos h, addAll_hv (pfx_inR (ins_PV h))]
  constructor
  · rintro ⟨s, hs, q⟩
    obtain ⟨p, hp, rfl⟩ := List.mem_map.1 hs
    obtain ⟨r, hr, rfl⟩ := List.mem_map.1 hp
    exact ⟨r, hr, q⟩
  · rintro ⟨r, hr, q⟩
    exact ⟨psp r.xInside, List.mem_map_of_mem (List.mem_map_of_mem hr), q⟩
end
section
open Go Go.Proofs

theorem S_l20Way {b : List UInt8} {p : Int} (hb : b.length ≤ 2000) (h0 : 0 ≤ p) (h1 : p ≤ 100000) {κ : List GRewrite × GPacket × Int → Prop} (h : ∀ l k q, l.length ≤ 20 → κ (l, k, q)) : L_spec_l20Way b p κ := by
  unfold L_spec_l20Way
  refine S_l20Rewrites ⟨hb, by omega, by omega⟩ (by omega) (by omega) (fun l p1 hl a1 a2 => S_l20Packet hb (by omega) (by omega) (by omega) (fun k p2 b1 b2 => ?_))
  unfold jnW
  have rd : ∀ q, p2 ≤ q → q ≤ p2 + 20 → RdP b q := fun q c1 c2 => ⟨hb, by omega, by omega⟩
  refine ifW_of (fun e => ?_) (fun e => ifW_f (h _ _ _ hl))
  have hpos : 0 < (l.length : Int) := by simpa using e
  refine S_pick (rd _ (by omega) (by omega)) (fun v v1 v2 => ifW_of (fun _ => ?_) (fun _ => h _ _ _ hl))
  refine S_pick (rd _ (by omega) (by omega)) (fun u u1 u2 => idxW_any u1 (by omega) (fun e _ => ?_))
  refine S_pick (rd _ (by omega) (by omega)) (fun z z1 z2 => idxW_any z1 (by simp; omega) (fun f _ => ?_))
  exact S_pick (rd _ (by omega) (by omega)) (fun y y1 y2 => idxW_any y1 (by simp; omega) (fun g _ => h _ _ _ hl))
theorem ri_valid {l : List GRewrite} {p : GPacket} (hl : RwV l) (hp : pv p) : ri l p = GPacket.mk p.xFrom (inF l p.xTo) p.xPort p.xProto ∧ pv (ri l p) := by
  have e : ri l p = GPacket.mk p.xFrom (inF l p.xTo) p.xPort p.xProto := by unfold ri; rw [if_pos ⟨hl, hp⟩]
  refine ⟨e, ?_⟩
  rw [e]
  obtain ⟨p1, p2, p3, p4⟩ := hp
  exact ⟨p1, inF_range hl p2.1 p2.2, p3, p4⟩
theorem ro_valid {l : List GRewrite} {p : GPacket} (hl : RwV l) (hp : pv p) : ro l p = GPacket.mk (outF l p.xFrom) p.xTo p.xPort p.xProto ∧ pv (ro l p) := by
  have e : ro l p = GPacket.mk (outF l p.xFrom) p.xTo p.xPort p.xProto := by unfold ro; rw [if_pos ⟨hl, hp⟩]
  refine ⟨e, ?_⟩
  rw [e]
  obtain ⟨p1, p2, p3, p4⟩ := hp
  exact ⟨outF_range hl p1.1 p1.2, p2, p3, p4⟩
theorem ro_twice {l : List GRewrite} {p : GPacket} (hl : RwV l) (hp : pv p) : ro l (ro l p) = ro l p := by
  obtain ⟨e, hv⟩ := ro_valid hl hp
  rw [(ro_valid hl hv).1, e]
  simp only [outF_twice hl]
theorem ro_not {l : List GRewrite} {p : GPacket} (h : ¬ (RwV l ∧ pv p)) : ro l p = GPacket.mk 0 0 0 0 := if_neg h
theorem pureFnRewriteOut (code : List UInt8) : L_laws_FnRewriteOut code (fun r => r = true) := by
  unfold L_laws_FnRewriteOut
  refine ifW_of (fun _ => rfl) (fun hc => ?_)
  unfold L_spec_DrawRewriteOut
  refine S_l20Open (fun b hb => S_l20Way hb (by omega) (by omega) (fun l p q hl => ?_))
  refine S_impl_RewriteOut (by omega) (S_spec_RewriteOut (by omega) (ifW_of (fun e => by simp at e) (fun _ => ?_)))
  have no : ¬ (RwV l ∧ pv p) → ifW (decide (ro l p = GPacket.mk 0 0 0 0)) (L_laws_alive (fun r77 => r77 = true)) (false = true) := fun hh => by
    rw [ro_not hh]
    exact ifW_of (fun _ => S_alive rfl) (fun e => by simp at e)
  unfold jnW
  refine S_spec_RewritesValid (by omega) (ifW_of (fun e => ifW_t (no (fun f => by simp [f.1] at e))) (fun e => S_specPacketValid (ifW_of (fun e2 => no (fun f => by simp [f.2] at e2)) (fun e2 => ?_))))
  have hv1 : RwV l := by simpa using e
  have hv2 : pv p := by simpa using e2
  obtain ⟨er, hvr⟩ := ro_valid hv1 hv2
  have hhl := hidF_len l
  have tw : ∀ {κ : Bool → Prop}, κ true → L_impl_RewriteOut l (ro l p) (fun r => κ (decide (r = ro l p))) := fun {κ} hk => S_impl_RewriteOut (by omega) (by rw [ro_twice hv1 hv2, decide_eq_true rfl]; exact hk)
  have hfr : (ro l p).xFrom = outF l p.xFrom := by rw [er]
  refine count_loop l.length (fun s => s.2) (fun k s => s.2 = (k : Int) ∧ k ≤ l.length ∧ s.1 = (l.take k).map (·.xOutside)) (fun k s h => h.1) (fun k s h => h.2.1) ?_ ⟨rfl, Nat.zero_le _, by simp⟩
  rintro k ⟨es, t⟩ next ⟨rfl, hk, hx⟩ hn
  simp only at hx
  subst hx
  refine ifW_of (fun hc => ?_) (fun hc => ?_)
  · have hlt : k < l.length := by simpa using hc
    refine idxW_of k rfl hlt (appW_of (by simp only [List.length_map, List.length_take, List.length_singleton]; omega) (addW_of (by omega) (by omega) (hn hlt _ ⟨by simp, by omega, ?_⟩)))
    rw [List.take_succ_eq_append_getElem hlt, List.map_append]; rfl
  have hge : l.length ≤ k := by simpa using hc
  rw [List.take_of_length_le hge]
  refine S_impl_HiddenFrom (by omega) (S_ReversePacket ?_)
  rw [if_pos hvr]
  have hrv : pv (rev (ro l p)) := ⟨hvr.2.1, hvr.1, hvr.2.2.1, hvr.2.2.2⟩
  refine S_impl_RewriteIn (by omega) (S_ReversePacket ?_)
  obtain ⟨ei, hvi⟩ := ri_valid hv1 hrv
  rw [if_pos hvi]
  refine S_impl_SpansHave (by omega) ?_
  rw [decide_eq_false (fun f => by
    obtain ⟨r, hr, q⟩ := (hidF_hv hv1 _).1 f
    rw [hfr] at q
    exact outF_not hv1 p.xFrom r hr q)]
  refine ifW_t (ifW_of (fun _ => ifW_of (fun _ => ifW_of (fun _ => tw rfl) (fun e3 => ?_)) (fun e3 => by rw [er] at e3; simp at e3)) (fun e3 => by rw [er] at e3; simp at e3))
  have outs : ∀ p ∈ l.map (·.xOutside), PV p := fun p hp => by
    obtain ⟨r, hr, rfl⟩ := List.mem_map.1 hp
    exact (hv1.2.1 r hr).2.1
  have hl10 := hv1.1
  refine S_impl_PrefixesSpans (by simp only [List.length_map]; omega) outs ?_
  have hln := addAll_len ((l.map (·.xOutside)).map psp) []
  simp only [List.length_map, List.length_nil] at hln
  refine S_impl_SpansHave (by omega) ?_
  rw [decide_eq_true (show hv (((l.map (·.xOutside)).map psp).foldl add1 []) p.xFrom from ?_)]
  · exact ifW_t (tw rfl)
  rw [addAll_hv (pfx_inR outs)]
  rcases in_out hv1 p.xFrom with q | ⟨r, hr, q⟩
  · exfalso
    have e4 : rev (ri l (rev (ro l p))) = p := by
      rw [ei, er]
      simp only [rev, q]
    rw [e4] at e3; simp at e3
  · exact ⟨psp r.xOutside, List.mem_map_of_mem (List.mem_map_of_mem hr), q⟩


end
section
open Go.RowKit Go.Shelf Go.Lib Go.Sort Go.Proofs

section
variable {α : Type} [Inhabited α] {E : El α} {enc : α → List Value}
theorem rows_enc (hfl : Flat E enc) {F : Nat → Prop} {w : World} : ∀ {xs : List α} {css : List (List Value)}, Rows E F w xs css → css = xs.map enc
  | [], [], _ => rfl
  | x :: xs, cs :: css, h => by rw [List.map_cons, rows_enc hfl h.2, (hfl _ _ _ _).1 h.1]
  | [], _ :: _, h => by simp [Rows] at h
  | _ :: _, [], h => by simp [Rows] at h
theorem rows_enc' (hfl : Flat E enc) {F : Nat → Prop} {w : World} : ∀ {xs : List α}, Rows E F w xs (xs.map enc)
  | [] => trivial
  | x :: xs => ⟨(hfl _ _ _ _).2 rfl, rows_enc' hfl⟩
theorem flatK_get {k : Nat} (hk : ∀ x, (enc x).length = k) : ∀ (xs : List α) (t : Nat), t < xs.length * k → (xs.map enc).flatten[t]? = some ((enc xs.toArray[t / k]!)[t % k]!)
  | [], t, h => by simp at h
  | x :: xs, t, h => by
    have k0 : 0 < k := by
      rcases Nat.eq_zero_or_pos k with e | e
      · subst e; simp at h
      · exact e
    simp only [List.map_cons, List.flatten_cons]
    by_cases hlt : t < k
    · rw [List.getElem?_append_left (by rw [hk]; exact hlt), Nat.div_eq_of_lt hlt, Nat.mod_eq_of_lt hlt]
      have h1 : t < (enc x).length := by rw [hk]; exact hlt
      simp [h1]
    · have ih := flatK_get hk xs (t - k) (by simp [Nat.add_mul] at h; omega)
      rw [List.getElem?_append_right (by rw [hk]; omega), hk, ih]
      have e1 : t / k = (t - k) / k + 1 := by rw [Nat.div_eq_sub_div k0 (by omega)]
      have e2 : t % k = (t - k) % k := by rw [Nat.mod_eq_sub_mod (by omega)]
      rw [e1, e2]
      simp [Array.getElem!_eq_getD, Array.getD]
theorem flatK_list {k : Nat} (hk : ∀ x, (enc x).length = k) (xs : List α) : (flatK enc k xs.toArray).toList = (xs.map enc).flatten := by
  apply List.ext_getElem?
  intro t
  have hl : (xs.map enc).flatten.length = xs.length * k := by
    induction xs with
    | nil => simp
    | cons x xs ih => simp only [List.map_cons, List.flatten_cons, List.length_append, ih, hk, List.length_cons, Nat.add_mul]; omega
  by_cases h : t < xs.length * k
  · rw [flatK_get hk xs t h]
    have hs : t < (flatK enc k xs.toArray).size := by simpa using h
    have := get_flatK enc k xs.toArray t (by simpa using h)
    rw [getElem!_pos _ t hs] at this
    rw [Array.getElem?_toList, Array.getElem?_eq_getElem hs, this]
  · rw [List.getElem?_eq_none (by simpa using Nat.le_of_not_lt h), List.getElem?_eq_none (by omega)]
theorem own_held (hfl : Flat E enc) {k : Nat} (hk : ∀ x, (enc x).length = k) (hE : E.size = k) {ty : TypeId} {F : Nat → Prop} {w : World} {b n cap : Nat} {xs : List α} (h : Own E ty F w (.slice (some ⟨b, 0, none⟩) n cap) xs) :
    HoldsK enc k w b 0 xs.toArray ∧ b < w.heap.size ∧ n = xs.length ∧ ∃ cur, w.heap[b]? = some (.cells cur ty (0, 0)) ∧ n ≤ cap ∧ cap ≤ maxLen ∧ cur.size = cap * k ∧ cur.toList.take (n * k) = (xs.map enc).flatten := by
  obtain ⟨css, h1, h2, h3⟩ := h
  rcases h3 with ⟨e, _⟩ | ⟨g, cap', cur, e, _, hg, hle, hm, hcur, htake⟩
  · simp at e
  · simp at e
    obtain ⟨rfl, rfl, rfl⟩ := e
    have hcs := rows_enc hfl h1
    subst hcs
    rw [hE] at hcur htake
    refine ⟨fun j hj => ?_, (Array.getElem?_eq_some_iff.1 hg).1, rfl, cur, hg, hle, hm, hcur, htake⟩
    have hj' : j < xs.length * k := by simpa using hj
    refine ⟨?_, by simp [World.frozen?, hg]⟩
    rw [cell_of_row w b _ cur ty (0, 0) hg, Nat.zero_add]
    have h4 := flatK_get hk xs j hj'
    rw [← htake, List.getElem?_take, if_pos hj'] at h4
    have h5 := get_flatK enc k xs.toArray j (by simpa using hj')
    rw [show cur[j]? = cur.toList[j]? by simp, h4]
    show _ = some ((flatK enc k xs.toArray)[j]!)
    rw [h5]
theorem world_row (w : World) (b m : Nat) {ty : TypeId} {cur : Array Value} (hg : w.heap[b]? = some (.cells cur ty (0, 0))) {k : Nat} (ys : Array α) (os : Array Obj) :
    (sortWorldK enc k w b 0 m ys os).heap[b]? = some (.cells (putCells id 0 (flatK enc k ys) cur) ty (0, 0)) := by
  have hb := (Array.getElem?_eq_some_iff.1 hg).1
  unfold sortWorldK grow putRowK putRow mapBlock Sort.ahead
  simp only
  rw [Array.getElem?_append_left (by simpa using hb)]
  simp [Array.getElem?_modify, hg, onCells]
theorem world_other (w : World) (b m : Nat) {k : Nat} (ys : Array α) (os : Array Obj) {c : Nat} (hc : c < w.heap.size) (hne : c ≠ b) : (sortWorldK enc k w b 0 m ys os).heap[c]? = w.heap[c]? := by
  unfold sortWorldK grow putRowK putRow mapBlock Sort.ahead
  simp only
  rw [Array.getElem?_append_left (by simpa using hc)]
  simp [Array.getElem?_modify, Ne.symm hne]
theorem put_take (F cur : Array Value) (h : F.size ≤ cur.size) : (putCells id 0 F cur).toList.take F.size = F.toList := by
  apply List.ext_getElem?
  intro t
  rw [List.getElem?_take]
  by_cases ht : t < F.size
  · rw [if_pos ht]
    have : t < cur.size := by omega
    simp [putCells, this, ht]
  · rw [if_neg ht, List.getElem?_eq_none (by simpa using Nat.le_of_not_lt ht)]
theorem perm_sorted {lt : α → α → Bool} {xs : List α} {d' : Array α} (hp : PermIn 0 xs.toArray.size xs.toArray d') (hs : SortedIn lt 0 xs.toArray.size d') : xs.Perm d'.toList ∧ d'.toList.Pairwise (fun a b => lt b a = false) ∧ d'.size = xs.length := by
  obtain ⟨h1, _, h3⟩ := hp
  have hz : d'.size = xs.length := by simpa using h1
  refine ⟨?_, ?_, hz⟩
  · have e1 : (d'.extract 0 xs.toArray.size).toList = d'.toList := by
      rw [Array.toList_extract]; simp only [List.extract_eq_take_drop, List.drop_zero, Nat.sub_zero]; exact List.take_of_length_le (by simp [hz])
    have e2 : (xs.toArray.extract 0 xs.toArray.size).toList = xs := by
      rw [Array.toList_extract]; simp
    rw [e1, e2] at h3
    exact h3.symm
  · rw [List.pairwise_iff_getElem]
    intro i j hi hj hij
    have := hs i j (Nat.zero_le _) hij (by simpa [hz] using hj)
    simp only [Array.length_toList] at hi hj
    rw [getElem!_pos d' j hj, getElem!_pos d' i hi] at this
    simpa using this
/-- the sort, as a contract of a call that writes the slice in place; from its contracts on rows and on no element -/
theorem w_sort0 {P : Program} {N : FuncId} {k : Nat} (hfl : Flat E enc) (hk : ∀ x, (enc x).length = k) (hE : E.size = k) (cf : α → α → Int) (fv : Value)
    (hsort : ∀ (b cap : Nat) (d : Array α) (w : World), HoldsK enc k w b 0 d → b < w.heap.size → d.size < 4611686018427387904 → Calls P N #[.slice (some ⟨b, 0, none⟩) d.size cap, fv] w fun e w' => e = .returned (.tuple #[]) ∧ ∃ d' n os, PermIn 0 d.size d d' ∧ SortedIn (ltOf cf) 0 d.size d' ∧ w' = sortWorldK enc k w b 0 n d' os)
    (hnone : ∀ (p : Option Addr) (cap : Nat) (w : World), Calls P N #[.slice p 0 cap, fv] w fun e w' => e = .returned (.tuple #[]) ∧ w' = w)
    {w0 : World} {F : Nat → Prop} {v : Value} {ty : TypeId} {xs : List α} {κ : List α → Prop} (hF : ∀ b, F b → b < w0.heap.size ∧ ¬ feet [ownCh E ty v xs] b) (hg : Given [ownCh E ty v xs] F w0) (h : L_lib_sort (ltOf cf) xs κ) :
    Calls P N #[v, fv] w0 (Ret [ownCh E ty v xs] F w0 κ (fun (r : List α) (u : Unit) => .tuple #[]) (fun (r : List α) (u : Unit) => [ownCh E ty v r])) := by
  have hown : Own E ty F w0 v xs := hg.hold (ownCh E ty v xs) (by simp)
  obtain ⟨hsz, hk2⟩ := h
  by_cases hz : xs = []
  · subst hz
    obtain ⟨p, cap, hv⟩ : ∃ p cap, v = .slice p 0 cap := by
      obtain ⟨css, _, _, hq⟩ := hown
      rcases hq with ⟨rfl, _⟩ | ⟨g', cap, cur, rfl, _⟩
      · exact ⟨_, _, rfl⟩
      · exact ⟨_, _, rfl⟩
    have := hnone p cap w0
    rw [← hv] at this
    refine this.mono fun e w' ⟨he, hw⟩ => ?_
    subst hw
    refine ⟨[], (), hk2 [] (List.Perm.refl _) (by simp), he, ⟨rfl, rfl, rfl, Nat.le_refl _, fun _ _ _ => rfl⟩, fun c hc b hb => ?_, List.pairwise_singleton _ _, fun c hc => ?_⟩
    · rw [List.mem_singleton] at hc; subst hc
      exact ⟨.inr ⟨_, List.mem_singleton.2 rfl, hb⟩, hg.lt _ (by simp) b hb⟩
    · rw [List.mem_singleton] at hc; subst hc
      obtain ⟨css, r1, r2⟩ := hown
      exact ⟨css, by rw [rows_enc hfl r1]; exact rows_enc' hfl, r2⟩
  · obtain ⟨b, cap, hv⟩ : ∃ b cap, v = .slice (some ⟨b, 0, none⟩) xs.length cap := by
      obtain ⟨css, _, _, hq⟩ := hown
      rcases hq with ⟨rfl, hn⟩ | ⟨g', cap, cur, rfl, _⟩
      · exact absurd (List.eq_nil_of_length_eq_zero hn) hz
      · exact ⟨_, _, rfl⟩
    subst hv
    obtain ⟨hH, hb, _, cur, hgc, hle, hm, hcur, htake⟩ := own_held hfl hk hE hown
    have hcon := hsort b cap xs.toArray w0 hH hb (by simpa using hsz)
    rw [show xs.toArray.size = xs.length by simp] at hcon
    refine hcon.mono fun e w' ⟨he, d', n, os, hp, hs, hw⟩ => ?_
    obtain ⟨p1, p2, p3⟩ := perm_sorted (by simpa using hp) (by simpa using hs)
    subst hw
    have hys : d' = d'.toList.toArray := by simp
    have hlen : d'.toList.length = xs.length := by simpa using p3
    have hsize : w0.heap.size ≤ (sortWorldK enc k w0 b 0 n d' os).heap.size := size_sortWorldK_c enc k w0 b 0 n d' os
    refine ⟨d'.toList, (), hk2 _ p1 p2, he, ⟨rfl, rfl, rfl, hsize, fun c hc hnf => ?_⟩, fun c hc b' hb' => ?_, List.pairwise_singleton _ _, fun c hc => ?_⟩
    · exact world_other w0 b n d' os hc (fun e' => hnf ⟨_, List.mem_singleton.2 rfl, by simp [ownCh, Value.ownBlock, e']⟩)
    · rw [List.mem_singleton] at hc; subst hc
      have e' : b' = b := by simp [ownCh, Value.ownBlock] at hb'; exact hb'.symm
      subst e'
      exact ⟨.inr ⟨_, List.mem_singleton.2 rfl, by simp [ownCh, Value.ownBlock]⟩, Nat.lt_of_lt_of_le hb hsize⟩
    · rw [List.mem_singleton] at hc; subst hc
      have hfk : (flatK enc k d').toList = (d'.toList.map enc).flatten := by
        have := flatK_list hk d'.toList
        rw [← hys] at this; exact this
      have hfs : (flatK enc k d').size = xs.length * k := by rw [size_flatK, p3]
      refine ⟨d'.toList.map enc, rows_enc' hfl, ?_, .inr ⟨b, cap, _, by rw [hlen], Nat.zero_le _, world_row w0 b n hgc d' os, by omega, hm, ?_, ?_⟩⟩
      · rw [← hfk, Array.length_toList, hfs, hlen, hE]
      · rw [hE, ← hcur]; simp [putCells]
      · rw [hlen, hE, ← hfs, put_take _ _ (by rw [hfs, hcur]; exact Nat.mul_le_mul_right _ hle), hfk]
theorem w_sort {P : Program} {ρ : Ren} (L : SlLaysF0.n6 P ρ) {k : Nat} (aE : ∀ w, (isAgg (ρ.t 24)).run P w = .ok true w) (zE : ∀ w, (Go.sizeOf (ρ.t 24)).run P w = .ok k w) (hfl : Flat E enc) (hk : ∀ x, (enc x).length = k) (hE : E.size = k) (h1 : ∀ x, ∀ v ∈ enc x, v.oneCell' = true)
    (cf : α → α → Int) (hO : SWO (ltOf cf)) (g : Nat) (cb : Array Value) (eg : ∀ args w, (callFunc g args).run P w = .ok (.enter g args) w)
    (hcl : ∀ (x y : α) (W : World), Calls P g (#[.agg (enc x).toArray, .agg (enc y).toArray] ++ cb) W fun e w' => e = .returned (.int .i64 (cf x y)) ∧ ∃ q os', w' = grow (W.drewN q) os')
    {w0 : World} {F : Nat → Prop} {v : Value} {ty : TypeId} {xs : List α} {κ : List α → Prop} (hF : ∀ b, F b → b < w0.heap.size ∧ ¬ feet [ownCh E ty v xs] b) (hg : Given [ownCh E ty v xs] F w0) (h : L_lib_sort (ltOf cf) xs κ) :
    Calls P (ρ.f 6) #[v, .func (.func g) #[] cb] w0 (Ret [ownCh E ty v xs] F w0 κ (fun (r : List α) (u : Unit) => .tuple #[]) (fun (r : List α) (u : Unit) => [ownCh E ty v r])) :=
  w_sort0 hfl hk hE cf _ (fun b cap d w hH hb hsz => AnyQ.slices_SortFunc L k aE zE enc hk h1 cf hO g cb b 0 cap d w eg (fun m os dk _ x y => hcl x y _) hH hb hsz) (fun p cap w => AnyF.slices_SortFunc_none L p cap _ w) hF hg h
end

end
section
open Go.RowKit Go.Shelf Go.Lib Go.Sort Go.Proofs
def Tryd.cmpInt_ren : Go.Shelf.Ren := ⟨fun | 5 => 46 | 7 => 68 | n => n, fun | 22 => 3 | 3 => 3 | 4 => 4 | n => n, fun | n => n⟩
theorem Tryd.cmpInt : Go.Proofs.SlLaysC2.n5 Tryd.prog Tryd.cmpInt_ren where
  mixed := by kernel_rfl
  f5 := ⟨ "cmp.Compare[int]", by decide, Tryd.func46.trans (congrArg some (by kernel_rfl))⟩
  f7 := ⟨ "cmp.isNaN[int]", by decide, Tryd.func68.trans (congrArg some (by kernel_rfl))⟩
  t3 := Tryd.underlying3
  a3 := Tryd.isAgg3
  z3 := Tryd.sizeOf3
  v3 := Tryd.zeroValue3
  t4 := Tryd.underlying4
  a4 := Tryd.isAgg4
  z4 := Tryd.sizeOf4
  v4 := Tryd.zeroValue4
  t22 := Tryd.underlying3
  a22 := Tryd.isAgg3
  z22 := Tryd.sizeOf3
  v22 := Tryd.zeroValue3
theorem cmp_lt (x y : Int) : (Lib.compareInt x y < 0) ↔ x < y := by
  unfold Lib.compareInt
  split
  · simp [*]
  · split <;> simp <;> omega
theorem cmp_int (x y : Int) (W : World) : Calls Tryd.prog 46 #[.int .i64 x, .int .i64 y] W fun e w' => e = .returned (.int .i64 (Lib.compareInt x y)) ∧ w' = W := AnyG.cmp_Compare_int Tryd.cmpInt x y W

end
section
open Go.RowKit Go.Shelf Go.Lib Go.Sort Go.Proofs
def Tryd.sortEdge_ren : Go.Shelf.Ren := ⟨fun | 6 => 71 | 15 => 67 | 14 => 84 | 28 => 82 | 29 => 83 | 20 => 99 | 21 => 100 | 22 => 101 | 23 => 102 | 24 => 103 | 25 => 104 | 26 => 105 | 27 => 106 | 46 => 111 | 47 => 95 | 48 => 96 | 49 => 112 | 50 => 113 | 57 => 115 | n => n, fun | 22 => 105 | 24 => 107 | 25 => 109 | 3 => 3 | 39 => 104 | 0 => 0 | 53 => 122 | 55 => 124 | 4 => 4 | 46 => 116 | 45 => 115 | 50 => 95 | 5 => 5 | 9 => 9 | 66 => 132 | 70 => 136 | 76 => 145 | 77 => 146 | n => n, fun | n => n⟩
theorem Tryd.sortEdge : Go.Proofs.SlLaysF0.n6 Tryd.prog Tryd.sortEdge_ren where
  mixed := by kernel_rfl
  f6 := ⟨ "slices.SortFunc[[]loop.example/packetfilter/impl.edge,loop.example/packetfilter/impl.edge]", by decide, Tryd.func71.trans (congrArg some (by kernel_rfl))⟩
  f14 := ⟨ "slices.pdqsortCmpFunc[loop.example/packetfilter/impl.edge]", by decide, Tryd.func84.trans (congrArg some (by kernel_rfl))⟩
  f15 := Tryd.func67.trans (congrArg some (by kernel_rfl))
  f20 := ⟨ "slices.insertionSortCmpFunc[loop.example/packetfilter/impl.edge]", by decide, Tryd.func99.trans (congrArg some (by kernel_rfl))⟩
  f21 := ⟨ "slices.heapSortCmpFunc[loop.example/packetfilter/impl.edge]", by decide, Tryd.func100.trans (congrArg some (by kernel_rfl))⟩
  f22 := ⟨ "slices.breakPatternsCmpFunc[loop.example/packetfilter/impl.edge]", by decide, Tryd.func101.trans (congrArg some (by kernel_rfl))⟩
  f23 := ⟨ "slices.choosePivotCmpFunc[loop.example/packetfilter/impl.edge]", by decide, Tryd.func102.trans (congrArg some (by kernel_rfl))⟩
  f24 := ⟨ "slices.reverseRangeCmpFunc[loop.example/packetfilter/impl.edge]", by decide, Tryd.func103.trans (congrArg some (by kernel_rfl))⟩
  f25 := ⟨ "slices.partialInsertionSortCmpFunc[loop.example/packetfilter/impl.edge]", by decide, Tryd.func104.trans (congrArg some (by kernel_rfl))⟩
  f26 := ⟨ "slices.partitionEqualCmpFunc[loop.example/packetfilter/impl.edge]", by decide, Tryd.func105.trans (congrArg some (by kernel_rfl))⟩
  f27 := ⟨ "slices.partitionCmpFunc[loop.example/packetfilter/impl.edge]", by decide, Tryd.func106.trans (congrArg some (by kernel_rfl))⟩
  f28 := Tryd.func82.trans (congrArg some (by kernel_rfl))
  f29 := Tryd.func83.trans (congrArg some (by kernel_rfl))
  f46 := ⟨ "slices.siftDownCmpFunc[loop.example/packetfilter/impl.edge]", by decide, Tryd.func111.trans (congrArg some (by kernel_rfl))⟩
  f47 := Tryd.func95.trans (congrArg some (by kernel_rfl))
  f48 := Tryd.func96.trans (congrArg some (by kernel_rfl))
  f49 := ⟨ "slices.medianAdjacentCmpFunc[loop.example/packetfilter/impl.edge]", by decide, Tryd.func112.trans (congrArg some (by kernel_rfl))⟩
  f50 := ⟨ "slices.medianCmpFunc[loop.example/packetfilter/impl.edge]", by decide, Tryd.func113.trans (congrArg some (by kernel_rfl))⟩
  f57 := ⟨ "slices.order2CmpFunc[loop.example/packetfilter/impl.edge]", by decide, Tryd.func115.trans (congrArg some (by kernel_rfl))⟩
  t0 := Tryd.underlying0
  a0 := Tryd.isAgg0
  z0 := Tryd.sizeOf0
  v0 := Tryd.zeroValue0
  t3 := Tryd.underlying3
  a3 := Tryd.isAgg3
  z3 := Tryd.sizeOf3
  v3 := Tryd.zeroValue3
  t4 := Tryd.underlying4
  a4 := Tryd.isAgg4
  z4 := Tryd.sizeOf4
  v4 := Tryd.zeroValue4
  t5 := Tryd.underlying5
  a5 := Tryd.isAgg5
  z5 := Tryd.sizeOf5
  v5 := Tryd.zeroValue5
  t9 := Tryd.underlying9
  a9 := Tryd.isAgg9
  z9 := Tryd.sizeOf9
  v9 := Tryd.zeroValue9
  t22 := Tryd.underlying105
  a22 := Tryd.isAgg105
  z22 := Tryd.sizeOf105
  v22 := Tryd.zeroValue105
  t25 := Tryd.underlying109
  a25 := Tryd.isAgg109
  z25 := Tryd.sizeOf109
  v25 := Tryd.zeroValue109
  t39 := Tryd.underlying104
  a39 := Tryd.isAgg104
  z39 := Tryd.sizeOf104
  v39 := Tryd.zeroValue104
  t45 := Tryd.underlying115
  a45 := Tryd.isAgg115
  z45 := Tryd.sizeOf115
  v45 := Tryd.zeroValue115
  t46 := Tryd.underlying116
  a46 := Tryd.isAgg116
  z46 := Tryd.sizeOf116
  v46 := Tryd.zeroValue116
  t50 := Tryd.underlying95
  a50 := Tryd.isAgg95
  z50 := Tryd.sizeOf95
  v50 := Tryd.zeroValue95
  t53 := Tryd.underlying122
  a53 := Tryd.isAgg122
  z53 := Tryd.sizeOf122
  v53 := Tryd.zeroValue122
  t55 := Tryd.underlying124
  a55 := Tryd.isAgg124
  z55 := Tryd.sizeOf124
  v55 := Tryd.zeroValue124
  t66 := Tryd.underlying132
  a66 := Tryd.isAgg132
  z66 := Tryd.sizeOf132
  v66 := Tryd.zeroValue132
  t70 := Tryd.underlying136
  a70 := Tryd.isAgg136
  z70 := Tryd.sizeOf136
  v70 := Tryd.zeroValue136
  t76 := Tryd.underlying145
  a76 := Tryd.isAgg145
  z76 := Tryd.sizeOf145
  v76 := Tryd.zeroValue145
  t77 := Tryd.underlying146
  a77 := Tryd.isAgg146
  z77 := Tryd.sizeOf146
  v77 := Tryd.zeroValue146
set_option maxHeartbeats 2000000 in
theorem or_int (a b : Int) (B : Nat) (W : World) (h0 : W.cell? ⟨B, 0, none⟩ = some (.int .i64 a)) (h1 : W.cell? ⟨B, 1, none⟩ = some (.int .i64 b)) : Calls Tryd.prog 85 #[.slice (some ⟨B, 0, none⟩) 2 2] W fun e w' => e = .returned (.int .i64 (if a = 0 then b else a)) ∧ w' = W := by
  by_cases ha : a = 0
  · rw [if_pos ha]
    subst ha
    by_cases hb : b = 0
    · subst hb
      go_enter Tryd.func85, Tryd.ntmps85
      go_wp2_with fail
      refine wp_loop_rounds 3 ?_
      rw [rounds_succ]
      go_wp2_with fail
      rw [rounds_succ]
      go_wp2_with fail
      rw [rounds_succ]
      go_wp2_with fail
      go_ret
      exact ⟨rfl, rfl⟩
    · go_enter Tryd.func85, Tryd.ntmps85
      go_wp2_with fail
      refine wp_loop_rounds 3 ?_
      rw [rounds_succ]
      go_wp2_with fail
      rw [rounds_succ]
      go_wp2_with fail
      go_ret
      exact ⟨rfl, rfl⟩
  · rw [if_neg ha]
    go_enter Tryd.func85, Tryd.ntmps85
    go_wp2_with fail
    refine wp_loop_rounds 3 ?_
    rw [rounds_succ]
    go_wp2_with fail
    go_ret
    exact ⟨rfl, rfl⟩
theorem blk2 (W : World) (A B : Obj) : ((W.alloc A).alloc B).heap[W.heap.size]? = some A ∧ ((W.alloc A).alloc B).heap[W.heap.size + 1]? = some B := by
  have e : ((W.alloc A).alloc B).heap = (W.heap.push A).push B := rfl
  rw [e]
  constructor
  · rw [Array.getElem?_push, if_neg (by rw [Array.size_push]; omega), Array.getElem?_push, if_pos rfl]
  · rw [Array.getElem?_push, if_pos (by rw [Array.size_push])]
theorem blk1 (W : World) (A : Obj) : (W.alloc A).heap[W.heap.size]? = some A := by
  have e : (W.alloc A).heap = W.heap.push A := rfl
  rw [e, Array.getElem?_push, if_pos rfl]
def cfEdge (x y : GEdge) : Int := if Lib.compareInt x.xAt y.xAt = 0 then Lib.compareInt y.xStep x.xStep else Lib.compareInt x.xAt y.xAt
set_option maxRecDepth 100000 in
set_option maxHeartbeats 4000000 in
theorem cloEdge (x y : GEdge) (W : World) : Calls Tryd.prog 72 #[.agg #[.int .i64 x.xAt, .int .i64 x.xStep], .agg #[.int .i64 y.xAt, .int .i64 y.xStep]] W fun e w' => e = .returned (.int .i64 (cfEdge x y)) ∧ ∃ q os', w' = grow (W.drewN q) os' := by
  have hc1 := fun W' => cmp_int x.xAt y.xAt W'
  have hc2 := fun W' => cmp_int y.xStep x.xStep W'
  obtain ⟨r, hr⟩ : ∃ r, r = cfEdge x y := ⟨_, rfl⟩
  rw [← hr]
  unfold cfEdge at hr
  generalize Lib.compareInt x.xAt y.xAt = r1 at hc1 hr
  generalize Lib.compareInt y.xStep x.xStep = r2 at hc2 hr
  have hor := or_int r1 r2
  rw [← hr] at hor
  clear hr
  go_enter Tryd.func72, Tryd.ntmps72
  go_wp2_with fail
  have hg1 : ∃ os, (W.alloc (Obj.cells #[.int .i64 x.xAt, .int .i64 x.xStep] 107)).alloc (Obj.cells #[.int .i64 y.xAt, .int .i64 y.xStep] 107) = grow W os := ⟨_, by rw [alloc_eq_grow, alloc_eq_grow, grow_grow]⟩
  generalize hw1 : (W.alloc (Obj.cells #[.int .i64 x.xAt, .int .i64 x.xStep] 107)).alloc (Obj.cells #[.int .i64 y.xAt, .int .i64 y.xStep] 107) = w1 at hg1 ⊢
  have c0 : w1.cell? ⟨W.heap.size, 0, none⟩ = some (.int .i64 x.xAt) := by rw [← hw1]; unfold World.cell?; rw [(blk2 _ _ _).1]; rfl
  have c1 : w1.cell? ⟨W.heap.size, 1, none⟩ = some (.int .i64 x.xStep) := by rw [← hw1]; unfold World.cell?; rw [(blk2 _ _ _).1]; rfl
  have c2 : w1.cell? ⟨W.heap.size + 1, 0, none⟩ = some (.int .i64 y.xAt) := by rw [← hw1]; unfold World.cell?; rw [(blk2 _ _ _).2]; rfl
  have c3 : w1.cell? ⟨W.heap.size + 1, 1, none⟩ = some (.int .i64 y.xStep) := by rw [← hw1]; unfold World.cell?; rw [(blk2 _ _ _).2]; rfl
  clear hw1
  refine wp_region_still_tail 10 (by kernel_rfl) (by kernel_rfl) ?_
  have hg2 : ∃ os, ({ w1 with drawn := w1.drawn + 1 } : World) = grow (W.drewN 1) os := by
    obtain ⟨os, rfl⟩ := hg1
    exact ⟨os, rfl⟩
  have d0 : ({ w1 with drawn := w1.drawn + 1 } : World).cell? ⟨W.heap.size, 0, none⟩ = some (.int .i64 x.xAt) := c0
  have d1 : ({ w1 with drawn := w1.drawn + 1 } : World).cell? ⟨W.heap.size, 1, none⟩ = some (.int .i64 x.xStep) := c1
  have d2 : ({ w1 with drawn := w1.drawn + 1 } : World).cell? ⟨W.heap.size + 1, 0, none⟩ = some (.int .i64 y.xAt) := c2
  have d3 : ({ w1 with drawn := w1.drawn + 1 } : World).cell? ⟨W.heap.size + 1, 1, none⟩ = some (.int .i64 y.xStep) := c3
  generalize ({ w1 with drawn := w1.drawn + 1 } : World) = w2 at hg2 d0 d1 d2 d3 ⊢
  clear c0 c1 c2 c3 hg1
  simp only [List.take_succ_cons, List.take_zero, List.drop_succ_cons, List.drop_zero]
  still_step
  still_step
  still_step
  still_step
  still_call (hc1 _)
  still_step
  still_step
  still_step
  still_step
  still_call (hc2 _)
  refine wpStill_nil ?_
  clear d0 d1 d2 d3 hc1 hc2
  go_wp2_with (go_at_call 85; refine (hor _ _ ?_ ?_).mono ?_; (· unfold World.cell?; rw [blk1]; rfl); (· unfold World.cell?; rw [blk1]; rfl); rintro e w' ⟨rfl, rfl⟩)
  go_ret
  obtain ⟨os, rfl⟩ := hg2
  exact ⟨rfl, 1, _, by rw [alloc_eq_grow, grow_grow]⟩
instance : Inhabited GEdge := ⟨⟨0, 0⟩⟩
theorem edge_lt (a b : GEdge) : (cfEdge a b < 0) ↔ (a.xAt < b.xAt ∨ (a.xAt = b.xAt ∧ b.xStep < a.xStep)) := by
  unfold cfEdge Lib.compareInt
  by_cases h1 : a.xAt < b.xAt
  · simp [h1]
  · by_cases h2 : a.xAt > b.xAt
    · simp [h1, h2]; omega
    · have : a.xAt = b.xAt := by omega
      simp only [this]
      by_cases h3 : b.xStep < a.xStep
      · simp [h3]
      · by_cases h4 : b.xStep > a.xStep
        · simp [h3, h4]
        · simp [h3, h4]
theorem swoEdge : SWO (ltOf cfEdge) := by
  refine ⟨?_, ?_, ?_⟩ <;> simp only [ltOf, decide_eq_true_eq, decide_eq_false_iff_not, edge_lt] <;> intros <;> omega
theorem w_srt_GEdge {w0 : World} {F : Nat → Prop} {v : Value} {ty : TypeId} {xs : List GEdge} {κ : List GEdge → Prop} (hF : ∀ b, F b → b < w0.heap.size ∧ ¬ feet [ownCh elGEdge ty v xs] b) (hg : Given [ownCh elGEdge ty v xs] F w0) (h : L_lib_sort (fun (a b : GEdge) => decide (a.xAt < b.xAt ∨ (a.xAt = b.xAt ∧ b.xStep < a.xStep))) xs κ) :
    Calls Tryd.prog 71 #[v, .func (.func 72) #[] #[]] w0 (Ret [ownCh elGEdge ty v xs] F w0 κ (fun (r : List GEdge) (u : Unit) => .tuple #[]) (fun (r : List GEdge) (u : Unit) => [ownCh elGEdge ty v r])) := by
  have e : (fun (a b : GEdge) => decide (a.xAt < b.xAt ∨ (a.xAt = b.xAt ∧ b.xStep < a.xStep))) = ltOf cfEdge := by
    funext a b
    exact decide_eq_decide.2 (edge_lt _ _).symm
  rw [e] at h
  have eg : ∀ args w, (callFunc 72 args).run Tryd.prog w = .ok (.enter 72 args) w := enters_of Tryd.func72 (by kernel_rfl) rfl
  exact w_sort Tryd.sortEdge (k := 2) (fun w => Tryd.isAgg107 w) (fun w => Tryd.sizeOf107 w) flelGEdge (fun _ => rfl) rfl (fun x v hv => by simp only [encGEdge, List.mem_cons, List.not_mem_nil, or_false] at hv; rcases hv with rfl | rfl <;> rfl) cfEdge swoEdge 72 #[] eg (fun x y W => cloEdge x y W) hF hg h

end
section
open Go.RowKit Go.Shelf Go.Lib Go.Sort Go.Proofs
def Tryd.pdqShift_ren : Go.Shelf.Ren := ⟨fun | 14 => 73 | 20 => 86 | 21 => 87 | 22 => 88 | 23 => 89 | 24 => 90 | 25 => 91 | 26 => 92 | 27 => 93 | 46 => 107 | 47 => 95 | 48 => 96 | 49 => 108 | 50 => 109 | 15 => 67 | 57 => 114 | 28 => 82 | 29 => 83 | n => n, fun | 24 => 91 | 22 => 61 | 3 => 3 | 25 => 93 | 4 => 4 | 0 => 0 | 46 => 116 | 45 => 115 | 50 => 95 | 66 => 132 | 39 => 104 | 55 => 124 | 70 => 136 | 76 => 145 | 77 => 146 | 53 => 122 | 5 => 5 | 9 => 9 | n => n, fun | n => n⟩
theorem Tryd.pdqShift : Go.Proofs.SlLaysF0.n14 Tryd.prog Tryd.pdqShift_ren where
  mixed := by kernel_rfl
  f14 := ⟨ "slices.pdqsortCmpFunc[loop.example/packetfilter/impl.shift]", by decide, Tryd.func73.trans (congrArg some (by kernel_rfl))⟩
  f15 := Tryd.func67.trans (congrArg some (by kernel_rfl))
  f20 := ⟨ "slices.insertionSortCmpFunc[loop.example/packetfilter/impl.shift]", by decide, Tryd.func86.trans (congrArg some (by kernel_rfl))⟩
  f21 := ⟨ "slices.heapSortCmpFunc[loop.example/packetfilter/impl.shift]", by decide, Tryd.func87.trans (congrArg some (by kernel_rfl))⟩
  f22 := ⟨ "slices.breakPatternsCmpFunc[loop.example/packetfilter/impl.shift]", by decide, Tryd.func88.trans (congrArg some (by kernel_rfl))⟩
  f23 := ⟨ "slices.choosePivotCmpFunc[loop.example/packetfilter/impl.shift]", by decide, Tryd.func89.trans (congrArg some (by kernel_rfl))⟩
  f24 := ⟨ "slices.reverseRangeCmpFunc[loop.example/packetfilter/impl.shift]", by decide, Tryd.func90.trans (congrArg some (by kernel_rfl))⟩
  f25 := ⟨ "slices.partialInsertionSortCmpFunc[loop.example/packetfilter/impl.shift]", by decide, Tryd.func91.trans (congrArg some (by kernel_rfl))⟩
  f26 := ⟨ "slices.partitionEqualCmpFunc[loop.example/packetfilter/impl.shift]", by decide, Tryd.func92.trans (congrArg some (by kernel_rfl))⟩
  f27 := ⟨ "slices.partitionCmpFunc[loop.example/packetfilter/impl.shift]", by decide, Tryd.func93.trans (congrArg some (by kernel_rfl))⟩
  f28 := Tryd.func82.trans (congrArg some (by kernel_rfl))
  f29 := Tryd.func83.trans (congrArg some (by kernel_rfl))
  f46 := ⟨ "slices.siftDownCmpFunc[loop.example/packetfilter/impl.shift]", by decide, Tryd.func107.trans (congrArg some (by kernel_rfl))⟩
  f47 := Tryd.func95.trans (congrArg some (by kernel_rfl))
  f48 := Tryd.func96.trans (congrArg some (by kernel_rfl))
  f49 := ⟨ "slices.medianAdjacentCmpFunc[loop.example/packetfilter/impl.shift]", by decide, Tryd.func108.trans (congrArg some (by kernel_rfl))⟩
  f50 := ⟨ "slices.medianCmpFunc[loop.example/packetfilter/impl.shift]", by decide, Tryd.func109.trans (congrArg some (by kernel_rfl))⟩
  f57 := ⟨ "slices.order2CmpFunc[loop.example/packetfilter/impl.shift]", by decide, Tryd.func114.trans (congrArg some (by kernel_rfl))⟩
  t0 := Tryd.underlying0
  a0 := Tryd.isAgg0
  z0 := Tryd.sizeOf0
  v0 := Tryd.zeroValue0
  t3 := Tryd.underlying3
  a3 := Tryd.isAgg3
  z3 := Tryd.sizeOf3
  v3 := Tryd.zeroValue3
  t4 := Tryd.underlying4
  a4 := Tryd.isAgg4
  z4 := Tryd.sizeOf4
  v4 := Tryd.zeroValue4
  t5 := Tryd.underlying5
  a5 := Tryd.isAgg5
  z5 := Tryd.sizeOf5
  v5 := Tryd.zeroValue5
  t9 := Tryd.underlying9
  a9 := Tryd.isAgg9
  z9 := Tryd.sizeOf9
  v9 := Tryd.zeroValue9
  t22 := Tryd.underlying61
  a22 := Tryd.isAgg61
  z22 := Tryd.sizeOf61
  v22 := Tryd.zeroValue61
  t25 := Tryd.underlying93
  a25 := Tryd.isAgg93
  z25 := Tryd.sizeOf93
  v25 := Tryd.zeroValue93
  t39 := Tryd.underlying104
  a39 := Tryd.isAgg104
  z39 := Tryd.sizeOf104
  v39 := Tryd.zeroValue104
  t45 := Tryd.underlying115
  a45 := Tryd.isAgg115
  z45 := Tryd.sizeOf115
  v45 := Tryd.zeroValue115
  t46 := Tryd.underlying116
  a46 := Tryd.isAgg116
  z46 := Tryd.sizeOf116
  v46 := Tryd.zeroValue116
  t50 := Tryd.underlying95
  a50 := Tryd.isAgg95
  z50 := Tryd.sizeOf95
  v50 := Tryd.zeroValue95
  t53 := Tryd.underlying122
  a53 := Tryd.isAgg122
  z53 := Tryd.sizeOf122
  v53 := Tryd.zeroValue122
  t55 := Tryd.underlying124
  a55 := Tryd.isAgg124
  z55 := Tryd.sizeOf124
  v55 := Tryd.zeroValue124
  t66 := Tryd.underlying132
  a66 := Tryd.isAgg132
  z66 := Tryd.sizeOf132
  v66 := Tryd.zeroValue132
  t70 := Tryd.underlying136
  a70 := Tryd.isAgg136
  z70 := Tryd.sizeOf136
  v70 := Tryd.zeroValue136
  t76 := Tryd.underlying145
  a76 := Tryd.isAgg145
  z76 := Tryd.sizeOf145
  v76 := Tryd.zeroValue145
  t77 := Tryd.underlying146
  a77 := Tryd.isAgg146
  z77 := Tryd.sizeOf146
  v77 := Tryd.zeroValue146
def Tryd.bitsLen_ren : Go.Shelf.Ren := ⟨fun | 125 => 67 | 128 => 82 | 129 => 83 | n => n, fun | 46 => 104 | 3 => 3 | 51 => 122 | 53 => 124 | 4 => 4 | 5 => 5 | 9 => 9 | n => n, fun | n => n⟩
theorem Tryd.bitsLen : Go.Proofs.Lays.n125 Tryd.prog Tryd.bitsLen_ren where
  mixed := by kernel_rfl
  f125 := Tryd.func67.trans (congrArg some (by kernel_rfl))
  f128 := Tryd.func82.trans (congrArg some (by kernel_rfl))
  f129 := Tryd.func83.trans (congrArg some (by kernel_rfl))
  t3 := Tryd.underlying3
  a3 := Tryd.isAgg3
  z3 := Tryd.sizeOf3
  v3 := Tryd.zeroValue3
  t4 := Tryd.underlying4
  a4 := Tryd.isAgg4
  z4 := Tryd.sizeOf4
  v4 := Tryd.zeroValue4
  t5 := Tryd.underlying5
  a5 := Tryd.isAgg5
  z5 := Tryd.sizeOf5
  v5 := Tryd.zeroValue5
  t9 := Tryd.underlying9
  a9 := Tryd.isAgg9
  z9 := Tryd.sizeOf9
  v9 := Tryd.zeroValue9
  t46 := Tryd.underlying104
  a46 := Tryd.isAgg104
  z46 := Tryd.sizeOf104
  v46 := Tryd.zeroValue104
  t51 := Tryd.underlying122
  a51 := Tryd.isAgg122
  z51 := Tryd.sizeOf122
  v51 := Tryd.zeroValue122
  t53 := Tryd.underlying124
  a53 := Tryd.isAgg124
  z53 := Tryd.sizeOf124
  v53 := Tryd.zeroValue124
instance : Inhabited GShift := ⟨⟨⟨0, 0⟩, 0⟩⟩
def cfShift (x y : GShift) : Int := Lib.compareInt x.xWhere.xLo y.xWhere.xLo
theorem swoShift : SWO (ltOf cfShift) := by
  refine ⟨?_, ?_, ?_⟩ <;> simp only [ltOf, cfShift, decide_eq_true_eq, decide_eq_false_iff_not, cmp_lt] <;> intros <;> omega
set_option maxHeartbeats 1000000 in
theorem cloShift (x y : GShift) (W : World) : Calls Tryd.prog 57 #[.agg #[.int .i64 x.xWhere.xLo, .int .i64 x.xWhere.xHi, .int .i64 x.xBy], .agg #[.int .i64 y.xWhere.xLo, .int .i64 y.xWhere.xHi, .int .i64 y.xBy]] W fun e w' => e = .returned (.int .i64 (cfShift x y)) ∧ ∃ q os', w' = grow (W.drewN q) os' := by
  have hcon := fun W' => cmp_int x.xWhere.xLo y.xWhere.xLo W'
  unfold cfShift
  generalize Lib.compareInt x.xWhere.xLo y.xWhere.xLo = r at hcon ⊢
  go_enter Tryd.func57, Tryd.ntmps57
  go_wp2_with (go_at_call 46; refine (hcon _).mono ?_; rintro e w' ⟨rfl, rfl⟩)
  go_ret
  exact ⟨rfl, 0, _, by rw [alloc_eq_grow, alloc_eq_grow, grow_grow]; rfl⟩
theorem egShift : ∀ args w, (callFunc 57 args).run Tryd.prog w = .ok (.enter 57 args) w := enters_of Tryd.func57 (by kernel_rfl) rfl
theorem h1Shift : ∀ x, ∀ v ∈ encGShift x, v.oneCell' = true := fun x v hv => by simp only [encGShift, List.mem_cons, List.not_mem_nil, or_false] at hv; rcases hv with rfl | rfl | rfl <;> rfl
set_option maxHeartbeats 2000000 in
set_option maxRecDepth 100000 in
theorem hsortShift (b cap : Nat) (d : Array GShift) (w : World) (hH : HoldsK encGShift 3 w b 0 d) (hb : b < w.heap.size) (hsz : d.size < 4611686018427387904) : Calls Tryd.prog 56 #[.slice (some ⟨b, 0, none⟩) d.size cap, .func (.func 57) #[] #[]] w fun e w' => e = .returned (.tuple #[]) ∧ ∃ d' n os, PermIn 0 d.size d d' ∧ SortedIn (ltOf cfShift) 0 d.size d' ∧ w' = sortWorldK encGShift 3 w b 0 n d' os := by
  have hlim : Lib.bitLen d.size < 4611686018427387904 := Nat.lt_of_le_of_lt (Lib.bitLen_le d.size 62 (by omega) (by omega)) (by omega)
  have hp := AnyQ.pdqsortCmpFunc_all Tryd.pdqShift 3 (fun w => Tryd.isAgg91 w) (fun w => Tryd.sizeOf91 w) encGShift cfShift 57 #[] swoShift b 0 cap d w egShift (fun m os dk _ x y => cloShift x y _) ⟨fun _ => rfl, h1Shift, hH, hb⟩ (d.size + 1) 0 d.size (Lib.bitLen d.size) d w (by omega) rfl (SWK.start hH) (Nat.zero_le _) (Nat.le_refl _) hsz hlim (Or.inl rfl)
  change Calls Tryd.prog 73 _ _ _ at hp
  have hl : Calls Tryd.prog 67 #[.int .u64 (d.size : Int)] w fun e w' => e = .returned (.int .i64 (Lib.bitLen d.size : Nat)) ∧ w' = w := by
    have h := Any.bits_Len Tryd.bitsLen (d.size : Int) w (by omega) (by omega)
    rw [Int.toNat_natCast] at h
    exact h
  have wr : IntKind.u64.wrap (d.size : Int) = d.size := by simp [IntKind.wrap, IntKind.bits, IntKind.signed]; omega
  have fin := pdq_sorts (ltOf cfShift) swoShift d 0 d.size (Lib.bitLen d.size) true true (Nat.zero_le _) (Nat.le_refl _) (Or.inl rfl)
  clear hH
  go_enter Tryd.func56, Tryd.ntmps56
  go_wp2_with (first | (go_at_call 67; refine hl.mono ?_; rintro e w' ⟨rfl, rfl⟩) | (go_at_call 73; refine hp.mono ?_; rintro e w' ⟨rfl, n, os, rfl⟩))
  go_end0
  exact ⟨rfl, _, n, os, fin.1, fin.2, rfl⟩
set_option maxHeartbeats 2000000 in
set_option maxRecDepth 100000 in
theorem hnoneShift (p : Option Addr) (cap : Nat) (w : World) : Calls Tryd.prog 56 #[.slice p 0 cap, .func (.func 57) #[] #[]] w fun e w' => e = .returned (.tuple #[]) ∧ w' = w := by
  have hp := fun lim W => AnyF.pdqsortCmpFunc_none Tryd.pdqShift p cap lim (.func (.func 57) #[] #[]) W
  change ∀ lim W, Calls Tryd.prog 73 _ _ _ at hp
  have hl : ∀ W, Calls Tryd.prog 67 #[.int .u64 0] W fun e w' => e = .returned (.int .i64 (Lib.bitLen 0 : Nat)) ∧ w' = W := fun W => by
    have h := Any.bits_Len Tryd.bitsLen 0 W (by omega) (by omega)
    exact h
  go_enter Tryd.func56, Tryd.ntmps56
  go_wp2_with (first | (go_at_call 67; refine (hl _).mono ?_; rintro e w' ⟨rfl, rfl⟩) | (go_at_call 73; refine (hp _ _).mono ?_; rintro e w' ⟨rfl, rfl⟩))
  go_end0
  exact ⟨rfl, rfl⟩
theorem w_srt_GShift {w0 : World} {F : Nat → Prop} {v : Value} {ty : TypeId} {xs : List GShift} {κ : List GShift → Prop} (hF : ∀ b, F b → b < w0.heap.size ∧ ¬ feet [ownCh elGShift ty v xs] b) (hg : Given [ownCh elGShift ty v xs] F w0) (h : L_lib_sort (fun (a b : GShift) => decide (a.xWhere.xLo < b.xWhere.xLo)) xs κ) :
    Calls Tryd.prog 56 #[v, .func (.func 57) #[] #[]] w0 (Ret [ownCh elGShift ty v xs] F w0 κ (fun (r : List GShift) (u : Unit) => .tuple #[]) (fun (r : List GShift) (u : Unit) => [ownCh elGShift ty v r])) := by
  have e : (fun (a b : GShift) => decide (a.xWhere.xLo < b.xWhere.xLo)) = ltOf cfShift := by
    funext a b
    exact decide_eq_decide.2 (cmp_lt _ _).symm
  rw [e] at h
  exact w_sort0 flelGShift (fun _ => rfl) rfl cfShift _ hsortShift hnoneShift hF hg h

end
section
open Go.RowKit Go.Shelf Go.Lib Go.Sort Go.Proofs
def Tryd.sortSpan_ren : Go.Shelf.Ren := ⟨fun | 6 => 44 | 15 => 67 | 14 => 66 | 28 => 82 | 29 => 83 | 20 => 74 | 21 => 75 | 22 => 76 | 23 => 77 | 24 => 78 | 25 => 79 | 26 => 80 | 27 => 81 | 46 => 94 | 47 => 95 | 48 => 96 | 49 => 97 | 50 => 98 | 57 => 110 | n => n, fun | 22 => 50 | 24 => 74 | 25 => 80 | 3 => 3 | 39 => 104 | 0 => 0 | 53 => 122 | 55 => 124 | 4 => 4 | 46 => 116 | 45 => 115 | 50 => 95 | 5 => 5 | 9 => 9 | 66 => 132 | 70 => 136 | 76 => 145 | 77 => 146 | n => n, fun | n => n⟩
theorem Tryd.sortSpan : Go.Proofs.SlLaysF0.n6 Tryd.prog Tryd.sortSpan_ren where
  mixed := by kernel_rfl
  f6 := ⟨ "slices.SortFunc[[]loop.example/packetfilter/impl.Span,loop.example/packetfilter/impl.Span]", by decide, Tryd.func44.trans (congrArg some (by kernel_rfl))⟩
  f14 := ⟨ "slices.pdqsortCmpFunc[loop.example/packetfilter/impl.Span]", by decide, Tryd.func66.trans (congrArg some (by kernel_rfl))⟩
  f15 := Tryd.func67.trans (congrArg some (by kernel_rfl))
  f20 := ⟨ "slices.insertionSortCmpFunc[loop.example/packetfilter/impl.Span]", by decide, Tryd.func74.trans (congrArg some (by kernel_rfl))⟩
  f21 := ⟨ "slices.heapSortCmpFunc[loop.example/packetfilter/impl.Span]", by decide, Tryd.func75.trans (congrArg some (by kernel_rfl))⟩
  f22 := ⟨ "slices.breakPatternsCmpFunc[loop.example/packetfilter/impl.Span]", by decide, Tryd.func76.trans (congrArg some (by kernel_rfl))⟩
  f23 := ⟨ "slices.choosePivotCmpFunc[loop.example/packetfilter/impl.Span]", by decide, Tryd.func77.trans (congrArg some (by kernel_rfl))⟩
  f24 := ⟨ "slices.reverseRangeCmpFunc[loop.example/packetfilter/impl.Span]", by decide, Tryd.func78.trans (congrArg some (by kernel_rfl))⟩
  f25 := ⟨ "slices.partialInsertionSortCmpFunc[loop.example/packetfilter/impl.Span]", by decide, Tryd.func79.trans (congrArg some (by kernel_rfl))⟩
  f26 := ⟨ "slices.partitionEqualCmpFunc[loop.example/packetfilter/impl.Span]", by decide, Tryd.func80.trans (congrArg some (by kernel_rfl))⟩
  f27 := ⟨ "slices.partitionCmpFunc[loop.example/packetfilter/impl.Span]", by decide, Tryd.func81.trans (congrArg some (by kernel_rfl))⟩
  f28 := Tryd.func82.trans (congrArg some (by kernel_rfl))
  f29 := Tryd.func83.trans (congrArg some (by kernel_rfl))
  f46 := ⟨ "slices.siftDownCmpFunc[loop.example/packetfilter/impl.Span]", by decide, Tryd.func94.trans (congrArg some (by kernel_rfl))⟩
  f47 := Tryd.func95.trans (congrArg some (by kernel_rfl))
  f48 := Tryd.func96.trans (congrArg some (by kernel_rfl))
  f49 := ⟨ "slices.medianAdjacentCmpFunc[loop.example/packetfilter/impl.Span]", by decide, Tryd.func97.trans (congrArg some (by kernel_rfl))⟩
  f50 := ⟨ "slices.medianCmpFunc[loop.example/packetfilter/impl.Span]", by decide, Tryd.func98.trans (congrArg some (by kernel_rfl))⟩
  f57 := ⟨ "slices.order2CmpFunc[loop.example/packetfilter/impl.Span]", by decide, Tryd.func110.trans (congrArg some (by kernel_rfl))⟩
  t0 := Tryd.underlying0
  a0 := Tryd.isAgg0
  z0 := Tryd.sizeOf0
  v0 := Tryd.zeroValue0
  t3 := Tryd.underlying3
  a3 := Tryd.isAgg3
  z3 := Tryd.sizeOf3
  v3 := Tryd.zeroValue3
  t4 := Tryd.underlying4
  a4 := Tryd.isAgg4
  z4 := Tryd.sizeOf4
  v4 := Tryd.zeroValue4
  t5 := Tryd.underlying5
  a5 := Tryd.isAgg5
  z5 := Tryd.sizeOf5
  v5 := Tryd.zeroValue5
  t9 := Tryd.underlying9
  a9 := Tryd.isAgg9
  z9 := Tryd.sizeOf9
  v9 := Tryd.zeroValue9
  t22 := Tryd.underlying50
  a22 := Tryd.isAgg50
  z22 := Tryd.sizeOf50
  v22 := Tryd.zeroValue50
  t25 := Tryd.underlying80
  a25 := Tryd.isAgg80
  z25 := Tryd.sizeOf80
  v25 := Tryd.zeroValue80
  t39 := Tryd.underlying104
  a39 := Tryd.isAgg104
  z39 := Tryd.sizeOf104
  v39 := Tryd.zeroValue104
  t45 := Tryd.underlying115
  a45 := Tryd.isAgg115
  z45 := Tryd.sizeOf115
  v45 := Tryd.zeroValue115
  t46 := Tryd.underlying116
  a46 := Tryd.isAgg116
  z46 := Tryd.sizeOf116
  v46 := Tryd.zeroValue116
  t50 := Tryd.underlying95
  a50 := Tryd.isAgg95
  z50 := Tryd.sizeOf95
  v50 := Tryd.zeroValue95
  t53 := Tryd.underlying122
  a53 := Tryd.isAgg122
  z53 := Tryd.sizeOf122
  v53 := Tryd.zeroValue122
  t55 := Tryd.underlying124
  a55 := Tryd.isAgg124
  z55 := Tryd.sizeOf124
  v55 := Tryd.zeroValue124
  t66 := Tryd.underlying132
  a66 := Tryd.isAgg132
  z66 := Tryd.sizeOf132
  v66 := Tryd.zeroValue132
  t70 := Tryd.underlying136
  a70 := Tryd.isAgg136
  z70 := Tryd.sizeOf136
  v70 := Tryd.zeroValue136
  t76 := Tryd.underlying145
  a76 := Tryd.isAgg145
  z76 := Tryd.sizeOf145
  v76 := Tryd.zeroValue145
  t77 := Tryd.underlying146
  a77 := Tryd.isAgg146
  z77 := Tryd.sizeOf146
  v77 := Tryd.zeroValue146
instance : Inhabited GSpan := ⟨⟨0, 0⟩⟩
def cfSpan (x y : GSpan) : Int := Lib.compareInt x.xLo y.xLo
theorem swoSpan : SWO (ltOf cfSpan) := by
  refine ⟨?_, ?_, ?_⟩ <;> simp only [ltOf, cfSpan, decide_eq_true_eq, decide_eq_false_iff_not, cmp_lt] <;> intros <;> omega
set_option maxHeartbeats 1000000 in
theorem cloSpan (x y : GSpan) (W : World) : Calls Tryd.prog 45 #[.agg #[.int .i64 x.xLo, .int .i64 x.xHi], .agg #[.int .i64 y.xLo, .int .i64 y.xHi]] W fun e w' => e = .returned (.int .i64 (cfSpan x y)) ∧ ∃ q os', w' = grow (W.drewN q) os' := by
  have hcon := fun W' => cmp_int x.xLo y.xLo W'
  unfold cfSpan
  generalize Lib.compareInt x.xLo y.xLo = r at hcon ⊢
  go_enter Tryd.func45, Tryd.ntmps45
  go_wp2_with (go_at_call 46; refine (hcon _).mono ?_; rintro e w' ⟨rfl, rfl⟩)
  go_ret
  exact ⟨rfl, 0, _, by rw [alloc_eq_grow, alloc_eq_grow, grow_grow]; rfl⟩
theorem w_srt_GSpan {w0 : World} {F : Nat → Prop} {v : Value} {ty : TypeId} {xs : List GSpan} {κ : List GSpan → Prop} (hF : ∀ b, F b → b < w0.heap.size ∧ ¬ feet [ownCh elGSpan ty v xs] b) (hg : Given [ownCh elGSpan ty v xs] F w0) (h : L_lib_sort (fun (a b : GSpan) => decide (a.xLo < b.xLo)) xs κ) :
    Calls Tryd.prog 44 #[v, .func (.func 45) #[] #[]] w0 (Ret [ownCh elGSpan ty v xs] F w0 κ (fun (r : List GSpan) (u : Unit) => .tuple #[]) (fun (r : List GSpan) (u : Unit) => [ownCh elGSpan ty v r])) := by
  have e : (fun (a b : GSpan) => decide (a.xLo < b.xLo)) = ltOf cfSpan := by
    funext a b
    exact decide_eq_decide.2 (cmp_lt _ _).symm
  rw [e] at h
  have eg : ∀ args w, (callFunc 45 args).run Tryd.prog w = .ok (.enter 45 args) w := enters_of Tryd.func45 (by kernel_rfl) rfl
  exact w_sort Tryd.sortSpan (k := 2) (fun w => Tryd.isAgg74 w) (fun w => Tryd.sizeOf74 w) flelGSpan (fun _ => rfl) rfl (fun x v hv => by simp only [encGSpan, List.mem_cons, List.not_mem_nil, or_false] at hv; rcases hv with rfl | rfl <;> rfl) cfSpan swoSpan 45 #[] eg (fun x y W => cloSpan x y W) hF hg h

end
section
open Go.RowKit
theorem arr112 : arrB Tryd.prog 112 = some (4, 111, true, 2) := by kernel_rfl
theorem arr88 : arrB Tryd.prog 88 = some (4, 3, false, 1) := by kernel_rfl
theorem bld107 : bldB Tryd.prog 107 = some (#[(0, 1), (1, 1)], [(.int .i64 0), (.int .i64 0)]) := by kernel_rfl
theorem bld26 : bldB Tryd.prog 26 = some (#[(0, 1), (1, 1), (2, 1), (3, 1)], [(.int .i64 0), (.int .i64 0), (.int .i64 0), (.int .i64 0)]) := by kernel_rfl
theorem bld36 : bldB Tryd.prog 36 = some (#[(0, 1), (1, 1)], [(.int .i64 0), (.int .i64 0)]) := by kernel_rfl
theorem bld38 : bldB Tryd.prog 38 = some (#[(0, 2), (2, 2)], [(.int .i64 0), (.int .i64 0), (.int .i64 0), (.int .i64 0)]) := by kernel_rfl
theorem bld74 : bldB Tryd.prog 74 = some (#[(0, 1), (1, 1)], [(.int .i64 0), (.int .i64 0)]) := by kernel_rfl
theorem bld88 : bldA Tryd.prog 88 = some (1, [(.int .i64 0), (.int .i64 0), (.int .i64 0), (.int .i64 0)]) := by kernel_rfl
theorem bld91 : bldB Tryd.prog 91 = some (#[(0, 2), (2, 1)], [(.int .i64 0), (.int .i64 0), (.int .i64 0)]) := by kernel_rfl
theorem bld99 : bldB Tryd.prog 99 = some (#[(0, 1), (1, 1)], [(.slice none 0 0), (.int .i64 0)]) := by kernel_rfl
theorem el101 : elB Tryd.prog 101 = some (3, 1, 8) := by kernel_rfl
theorem el105 : elB Tryd.prog 105 = some (107, 2, 16) := by kernel_rfl
theorem el28 : elB Tryd.prog 28 = some (38, 4, 32) := by kernel_rfl
theorem el34 : elB Tryd.prog 34 = some (5, 1, 1) := by kernel_rfl
theorem el50 : elB Tryd.prog 50 = some (74, 2, 16) := by kernel_rfl
theorem el53 : elB Tryd.prog 53 = some (36, 2, 16) := by kernel_rfl
theorem el62 : elB Tryd.prog 62 = some (91, 3, 24) := by kernel_rfl
theorem eqls26 (x y : Operand) (a0 : Int) (a1 : Int) (a2 : Int) (a3 : Int) (b0 : Int) (b1 : Int) (b2 : Int) (b3 : Int) (w : World) : (do eqGuard .eql 26 x y (.agg #[(.int .i64 a0), (.int .i64 a1), (.int .i64 a2), (.int .i64 a3)]) (.agg #[(.int .i64 b0), (.int .i64 b1), (.int .i64 b2), (.int .i64 b3)]); binOp .eql 26 (.agg #[(.int .i64 a0), (.int .i64 a1), (.int .i64 a2), (.int .i64 a3)]) (.agg #[(.int .i64 b0), (.int .i64 b1), (.int .i64 b2), (.int .i64 b3)]) : Sem Value).run Tryd.prog w = .ok (.bool (decide ((GPacket.mk a0 a1 a2 a3) = (GPacket.mk b0 b1 b2 b3)))) w := by
  simp [go_sem, binOp, Op.equal, Op.maxDepth]
  repeat' split
  all_goals simp_all
theorem neqs26 (x y : Operand) (a0 : Int) (a1 : Int) (a2 : Int) (a3 : Int) (b0 : Int) (b1 : Int) (b2 : Int) (b3 : Int) (w : World) : (do eqGuard .neq 26 x y (.agg #[(.int .i64 a0), (.int .i64 a1), (.int .i64 a2), (.int .i64 a3)]) (.agg #[(.int .i64 b0), (.int .i64 b1), (.int .i64 b2), (.int .i64 b3)]); binOp .neq 26 (.agg #[(.int .i64 a0), (.int .i64 a1), (.int .i64 a2), (.int .i64 a3)]) (.agg #[(.int .i64 b0), (.int .i64 b1), (.int .i64 b2), (.int .i64 b3)]) : Sem Value).run Tryd.prog w = .ok (.bool (!decide ((GPacket.mk a0 a1 a2 a3) = (GPacket.mk b0 b1 b2 b3)))) w := by
  simp [go_sem, binOp, Op.equal, Op.maxDepth]
  repeat' split
  all_goals simp_all
theorem fld107_0 : fldB Tryd.prog 107 0 = some (0, false, 1) := by kernel_rfl
theorem fld107_1 : fldB Tryd.prog 107 1 = some (1, false, 1) := by kernel_rfl
theorem fld111_1 : fldB Tryd.prog 111 1 = some (1, false, 1) := by kernel_rfl
theorem fld26_0 : fldB Tryd.prog 26 0 = some (0, false, 1) := by kernel_rfl
theorem fld26_1 : fldB Tryd.prog 26 1 = some (1, false, 1) := by kernel_rfl
theorem fld26_2 : fldB Tryd.prog 26 2 = some (2, false, 1) := by kernel_rfl
theorem fld26_3 : fldB Tryd.prog 26 3 = some (3, false, 1) := by kernel_rfl
theorem fld36_0 : fldB Tryd.prog 36 0 = some (0, false, 1) := by kernel_rfl
theorem fld36_1 : fldB Tryd.prog 36 1 = some (1, false, 1) := by kernel_rfl
theorem fld38_0 : fldB Tryd.prog 38 0 = some (0, true, 2) := by kernel_rfl
theorem fld38_1 : fldB Tryd.prog 38 1 = some (2, true, 2) := by kernel_rfl
theorem fld74_0 : fldB Tryd.prog 74 0 = some (0, false, 1) := by kernel_rfl
theorem fld74_1 : fldB Tryd.prog 74 1 = some (1, false, 1) := by kernel_rfl
theorem fld91_0 : fldB Tryd.prog 91 0 = some (0, true, 2) := by kernel_rfl
theorem fld91_1 : fldB Tryd.prog 91 1 = some (2, false, 1) := by kernel_rfl
theorem fld99_0 : fldB Tryd.prog 99 0 = some (0, false, 1) := by kernel_rfl
theorem fld99_1 : fldB Tryd.prog 99 1 = some (1, false, 1) := by kernel_rfl
theorem ty107 : tyB Tryd.prog 107 = some (true, 2) := by kernel_rfl
theorem ty26 : tyB Tryd.prog 26 = some (true, 4) := by kernel_rfl
theorem ty3 : tyB Tryd.prog 3 = some (false, 1) := by kernel_rfl
theorem ty34 : tyB Tryd.prog 34 = some (false, 1) := by kernel_rfl
theorem ty36 : tyB Tryd.prog 36 = some (true, 2) := by kernel_rfl
theorem ty38 : tyB Tryd.prog 38 = some (true, 4) := by kernel_rfl
theorem ty5 : tyB Tryd.prog 5 = some (false, 1) := by kernel_rfl
theorem ty74 : tyB Tryd.prog 74 = some (true, 2) := by kernel_rfl
theorem ty88 : tyB Tryd.prog 88 = some (true, 4) := by kernel_rfl
theorem ty91 : tyB Tryd.prog 91 = some (true, 3) := by kernel_rfl
theorem und104 : Tryd.prog.underlying 104 = some (.int .u64) := by kernel_rfl
theorem und3 : Tryd.prog.underlying 3 = some (.int .i64) := by kernel_rfl
theorem und5 : Tryd.prog.underlying 5 = some (.int .u8) := by kernel_rfl
theorem zero107 : zeroB Tryd.prog 107 = some [(.int .i64 0), (.int .i64 0)] := by kernel_rfl
theorem zero26 : zeroB Tryd.prog 26 = some [(.int .i64 0), (.int .i64 0), (.int .i64 0), (.int .i64 0)] := by kernel_rfl
theorem zero3 : zeroB Tryd.prog 3 = some [(.int .i64 0)] := by kernel_rfl
theorem zero36 : zeroB Tryd.prog 36 = some [(.int .i64 0), (.int .i64 0)] := by kernel_rfl
theorem zero38 : zeroB Tryd.prog 38 = some [(.int .i64 0), (.int .i64 0), (.int .i64 0), (.int .i64 0)] := by kernel_rfl
theorem zero74 : zeroB Tryd.prog 74 = some [(.int .i64 0), (.int .i64 0)] := by kernel_rfl
theorem zero88 : zeroB Tryd.prog 88 = some [(.int .i64 0), (.int .i64 0), (.int .i64 0), (.int .i64 0)] := by kernel_rfl
theorem zero91 : zeroB Tryd.prog 91 = some [(.int .i64 0), (.int .i64 0), (.int .i64 0)] := by kernel_rfl
theorem mixed : Tryd.prog.follows .mixedOrders = true := by kernel_rfl

set_option maxRecDepth 100000 in
set_option maxHeartbeats 8000000 in
theorem w_spec_l1In {w0 : World} {F : Nat → Prop} {n_0 : Int} {lo_1 : Int} {hi_2 : Int} {κ : Bool → Prop} (hF : ∀ b, F b → b < w0.heap.size ∧ ¬ feet [] b) (h : L_spec_l1In n_0 lo_1 hi_2 κ) :
    Calls Tryd.prog 50 #[(.int .i64 n_0), (.int .i64 lo_1), (.int .i64 hi_2)] w0 (Ret [] F w0 κ (fun (r : Bool) (u : Unit) => (.bool r)) (fun (r : Bool) (u : Unit) => [])) := by
  refine enter0 (args := [(.int .i64 n_0), (.int .i64 lo_1), (.int .i64 hi_2)]) [] hF (Given.nil _ _) Tryd.func50 rfl Tryd.ntmps50 rfl h ?_
  clear h hF
  refine c_seq ?_
  refine c_region ?_
  refine o_as st rfl rfl ?_
  refine c_nil ?_
  refine l_then ?_
  refine c_join (σ := Bool) (fun (t61 : Bool) (a : Act) (w : World) => Has 15 [(6, (.bool t61))] a ∧ Mem (gB F [] w0) (feet []) w0 [] w) ?_ ?_
  · intro k62
    refine c_region ?_
    refine o_mv st rfl rfl ?_
    refine o_mv st rfl rfl ?_
    refine o_geq st rfl rfl rfl ?_
    refine o_mv st rfl rfl ?_
    refine st_sp (dj := 10) rfl ?_ ?_
    · refine o_mv (st_g rfl rfl) rfl rfl ?_
      refine o_mv (st_g rfl rfl) rfl rfl ?_
      refine o_leq (st_g rfl rfl) rfl rfl rfl ?_
      refine o_pickT st rfl rfl rfl ?_
      refine o_as st rfl rfl ?_
      refine c_nil ?_
      exact l_join (decide (n_0 ≤ hi_2)) (fun a w hE hm => ⟨hE.sub ⟨rfl, trivial⟩, (hm.pick [] rfl)⟩)
    · refine st_s rfl rfl rfl rfl ?_
      refine st_s rfl rfl rfl rfl ?_
      refine st_s rfl rfl rfl rfl ?_
      refine o_pickF st rfl rfl rfl ?_
      refine o_as st rfl rfl ?_
      refine c_nil ?_
      exact l_join false (fun a w hE hm => ⟨hE.sub ⟨rfl, trivial⟩, (hm.pick [] rfl)⟩)
  · rintro t61 a w ⟨hE, hm⟩ h
    refine nx_of hE hm h ?_
    clear hE hm h
    refine c_ret ?_
    exact l_end1 Tryd.results50 t61 () (rv_t rfl) (fun _ _ => NewCh.nil _ _ _ _)

set_option maxRecDepth 100000 in
set_option maxHeartbeats 8000000 in
theorem w_spec_PrefixValid {w0 : World} {F : Nat → Prop} {p_0 : GPrefix} {κ : Bool → Prop} (hF : ∀ b, F b → b < w0.heap.size ∧ ¬ feet [] b) (h : L_spec_PrefixValid p_0 κ) :
    Calls Tryd.prog 48 #[(.agg #[(.int .i64 p_0.xBase), (.int .i64 p_0.xLength)])] w0 (Ret [] F w0 κ (fun (r : Bool) (u : Unit) => (.bool r)) (fun (r : Bool) (u : Unit) => [])) := by
  refine enter0 (args := [(.agg #[(.int .i64 p_0.xBase), (.int .i64 p_0.xLength)])]) [] hF (Given.nil _ _) Tryd.func48 rfl Tryd.ntmps48 rfl h ?_
  clear h hF
  refine c_seq ?_
  refine c_region ?_
  refine stw (o_box rfl rfl [(.int .i64 p_0.xBase), (.int .i64 p_0.xLength)] rfl ?_); intro b1
  refine o_as st rfl rfl ?_
  refine c_nil ?_
  refine l_then ?_
  refine c_join (σ := Bool) (fun (t68 : Bool) (a : Act) (w : World) => Has 21 [(2, (.bool t68))] a ∧ Mem (gB F [] w0) (feet []) w0 [] w) ?_ ?_
  · intro k69
    refine c_draw mixed 19 rfl [cellCh b1 [(.int .i64 p_0.xBase), (.int .i64 p_0.xLength)] 36] ?_
    refine o_fad (dt 0 (fun _ m => m)) rfl rfl fld36_1 rfl ?_
    refine o_ldc (dt 1 (fun _ m => m)) (v := (.int .i64 p_0.xLength)) 0 rfl rfl rfl ty3 rfl ?_
    refine d_one (i := 2) rfl (by kernel_rfl) (o_callP (vs := [(.int .i64 p_0.xLength), (.int .i64 0), (.int .i64 16)]) Tryd.call50 rfl rfl (by intro w m h; exact (w_spec_l1In (F := allB [] w) (n_0 := p_0.xLength) (lo_1 := 0) (hi_2 := 16) allB_ok h).mono (fun _ _ k => ret_free (fun r u => fr_nil) k)) ?_); rintro r3 _
    refine d_and (fun _ m => m) ?_
    refine o_mv (dt 3 (fun _ m => m)) rfl rfl ?_
    refine st_sp (dj := 6) rfl ?_ ?_
    · refine o_fad (dtg 4 (fun _ m => m)) rfl rfl fld36_0 rfl ?_
      refine o_ldc (dtg 5 (fun _ m => m)) (v := (.int .i64 p_0.xBase)) 0 rfl rfl rfl ty3 rfl ?_
      refine d_oneg (i := 6) rfl rfl rfl (by kernel_rfl) (o_callP (vs := [(.int .i64 p_0.xBase), (.int .i64 0), (.int .i64 65535)]) Tryd.call50 rfl rfl (by intro w m h; exact (w_spec_l1In (F := allB [] w) (n_0 := p_0.xBase) (lo_1 := 0) (hi_2 := 65535) allB_ok h).mono (fun _ _ k => ret_free (fun r u => fr_nil) k)) ?_); rintro r4 _
      refine d_and (fun _ m => m) ?_
      refine o_pickT (dt 7 (fun _ m => m)) rfl rfl rfl ?_
      refine o_mv (dt 8 (fun _ m => m)) rfl rfl ?_
      refine st_sp (dj := 11) rfl ?_ ?_
      · refine o_fad (dtg 9 (fun _ m => m)) rfl rfl fld36_0 rfl ?_
        refine o_ldc (dtg 10 (fun _ m => m)) (v := (.int .i64 p_0.xBase)) 0 rfl rfl rfl ty3 rfl ?_
        refine o_fad (dtg 11 (fun _ m => m)) rfl rfl fld36_1 rfl ?_
        refine o_ldc (dtg 12 (fun _ m => m)) (v := (.int .i64 p_0.xLength)) 0 rfl rfl rfl ty3 rfl ?_
        refine o_sub (dtg 13 (fun _ m => m)) rfl rfl rfl ?_; intro t5
        refine o_shl (dtg 14 (fun _ m => m)) rfl rfl rfl ?_; intro t6
        refine o_rem (dtg 15 (fun _ m => m)) rfl rfl rfl ?_; intro t7
        refine o_eql (dtg 16 (fun _ m => m)) und3 rfl rfl rfl ?_
        refine o_pickT (dt 17 (fun _ m => m)) rfl rfl rfl ?_
        refine o_as (dt 18 (fun _ m => m)) rfl rfl ?_
        refine d_done (by kernel_rfl) ?_
        exact l_join (decide (t7 = 0)) (fun a w hE hm => ⟨hE.sub ⟨rfl, trivial⟩, (hm.pick [] rfl)⟩)
      · refine dsk 9 (fun _ m => m) rfl (by kernel_rfl) rfl rfl rfl rfl ?_
        refine dsk 10 (fun _ m => m) rfl (by kernel_rfl) rfl rfl rfl rfl ?_
        refine dsk 11 (fun _ m => m) rfl (by kernel_rfl) rfl rfl rfl rfl ?_
        refine dsk 12 (fun _ m => m) rfl (by kernel_rfl) rfl rfl rfl rfl ?_
        refine dsk 13 (fun _ m => m) rfl (by kernel_rfl) rfl rfl rfl rfl ?_
        refine dsk 14 (fun _ m => m) rfl (by kernel_rfl) rfl rfl rfl rfl ?_
        refine dsk 15 (fun _ m => m) rfl (by kernel_rfl) rfl rfl rfl rfl ?_
        refine dsk 16 (fun _ m => m) rfl (by kernel_rfl) rfl rfl rfl rfl ?_
        refine o_pickF (dt 17 (fun _ m => m)) rfl rfl rfl ?_
        refine o_as (dt 18 (fun _ m => m)) rfl rfl ?_
        refine d_done (by kernel_rfl) ?_
        exact l_join false (fun a w hE hm => ⟨hE.sub ⟨rfl, trivial⟩, (hm.pick [] rfl)⟩)
    · refine dsk 4 (fun _ m => m) rfl (by kernel_rfl) rfl rfl rfl rfl ?_
      refine dsk 5 (fun _ m => m) rfl (by kernel_rfl) rfl rfl rfl rfl ?_
      refine dsk 6 (fun _ m => m) rfl (by kernel_rfl) rfl rfl rfl rfl ?_
      refine o_pickF (dt 7 (fun _ m => m)) rfl rfl rfl ?_
      refine o_mv (dt 8 (fun _ m => m)) rfl rfl ?_
      refine dsk 9 (fun _ m => m) rfl (by kernel_rfl) rfl rfl rfl rfl ?_
      refine dsk 10 (fun _ m => m) rfl (by kernel_rfl) rfl rfl rfl rfl ?_
      refine dsk 11 (fun _ m => m) rfl (by kernel_rfl) rfl rfl rfl rfl ?_
      refine dsk 12 (fun _ m => m) rfl (by kernel_rfl) rfl rfl rfl rfl ?_
      refine dsk 13 (fun _ m => m) rfl (by kernel_rfl) rfl rfl rfl rfl ?_
      refine dsk 14 (fun _ m => m) rfl (by kernel_rfl) rfl rfl rfl rfl ?_
      refine dsk 15 (fun _ m => m) rfl (by kernel_rfl) rfl rfl rfl rfl ?_
      refine dsk 16 (fun _ m => m) rfl (by kernel_rfl) rfl rfl rfl rfl ?_
      refine o_pickF (dt 17 (fun _ m => m)) rfl rfl rfl ?_
      refine o_as (dt 18 (fun _ m => m)) rfl rfl ?_
      refine d_done (by kernel_rfl) ?_
      exact l_join false (fun a w hE hm => ⟨hE.sub ⟨rfl, trivial⟩, (hm.pick [] rfl)⟩)
  · rintro t68 a w ⟨hE, hm⟩ h
    refine nx_of hE hm h ?_
    clear hE hm h
    refine c_ret ?_
    exact l_end1 Tryd.results48 t68 () (rv_t rfl) (fun _ _ => NewCh.nil _ _ _ _)

set_option maxRecDepth 100000 in
set_option maxHeartbeats 8000000 in
theorem w_spec_PrefixSpan {w0 : World} {F : Nat → Prop} {p_0 : GPrefix} {κ : (GSpan × Bool) → Prop} (hF : ∀ b, F b → b < w0.heap.size ∧ ¬ feet [] b) (h : L_spec_PrefixSpan p_0 κ) :
    Calls Tryd.prog 69 #[(.agg #[(.int .i64 p_0.xBase), (.int .i64 p_0.xLength)])] w0 (Ret [] F w0 κ (fun (r : (GSpan × Bool)) (u : Unit) => .tuple #[(.agg #[(.int .i64 r.1.xLo), (.int .i64 r.1.xHi)]), (.bool r.2)]) (fun (r : (GSpan × Bool)) (u : Unit) => [])) := by
  refine enter0 (args := [(.agg #[(.int .i64 p_0.xBase), (.int .i64 p_0.xLength)])]) [] hF (Given.nil _ _) Tryd.func69 rfl Tryd.ntmps69 rfl h ?_
  clear h hF
  refine c_seq ?_
  refine c_region ?_
  refine stw (o_box rfl rfl [(.int .i64 p_0.xBase), (.int .i64 p_0.xLength)] rfl ?_); intro b1
  refine stw (o_alloc rfl [(.int .i64 0), (.int .i64 0)] zero74 ?_); intro b3
  refine o_as st rfl rfl ?_
  refine c_nil ?_
  refine l_then ?_
  refine c_seq ?_
  refine c_seq ?_
  refine c_region ?_
  refine o_ldc st (v := (.agg #[(.int .i64 p_0.xBase), (.int .i64 p_0.xLength)])) 1 rfl rfl rfl ty36 rfl ?_
  refine stw (o_callP (vs := [(.agg #[(.int .i64 p_0.xBase), (.int .i64 p_0.xLength)])]) Tryd.call48 rfl rfl (by intro w m h; exact (w_spec_PrefixValid (F := allB [] w) (p_0 := p_0) allB_ok h).mono (fun _ _ k => ret_free (fun r u => fr_nil) k)) ?_); rintro r5 _
  refine o_not st rfl rfl ?_
  refine c_nil ?_
  refine l_then ?_
  refine c_cond rfl ?_ ?_
  · refine c_seq ?_
    refine c_region ?_
    refine o_bld st (qs := []) (cells := [(.int .i64 0), (.int .i64 0)]) (by intro ρ h; simp only [List.map_toArray, List.map_cons, List.map_nil]) rfl bld74 rfl ?_
    refine stw (o_stc (cs' := [(.int .i64 0), (.int .i64 0)]) 0 rfl rfl rfl ty74 rfl rfl rfl rfl ?_)
    refine o_as st rfl rfl ?_
    refine c_nil ?_
    refine l_then ?_
    refine c_ret ?_
    refine l_ret ?_
    exact l_end2 Tryd.results69 ((GSpan.mk 0 0), false) () (rv_c 0 rfl rfl ty74 rfl) (rv_t rfl) rfl (fun _ _ => NewCh.nil _ _ _ _)
  · refine c_skip ?_
    refine l_then ?_
    refine c_seq ?_
    refine c_draw mixed 13 rfl [cellCh b1 [(.int .i64 p_0.xBase), (.int .i64 p_0.xLength)] 36] ?_
    refine o_fad (dt 0 (fun w m => m.pick [1] rfl)) rfl rfl fld36_0 rfl ?_
    refine o_ldc (dt 1 (fun w m => m.pick [1] rfl)) (v := (.int .i64 p_0.xBase)) 0 rfl rfl rfl ty3 rfl ?_
    refine o_fad (dt 2 (fun w m => m.pick [1] rfl)) rfl rfl fld36_0 rfl ?_
    refine o_ldc (dt 3 (fun w m => m.pick [1] rfl)) (v := (.int .i64 p_0.xBase)) 0 rfl rfl rfl ty3 rfl ?_
    refine o_fad (dt 4 (fun w m => m.pick [1] rfl)) rfl rfl fld36_1 rfl ?_
    refine o_ldc (dt 5 (fun w m => m.pick [1] rfl)) (v := (.int .i64 p_0.xLength)) 0 rfl rfl rfl ty3 rfl ?_
    refine o_sub (dt 6 (fun w m => m.pick [1] rfl)) rfl rfl rfl ?_; intro t6
    refine o_shl (dt 7 (fun w m => m.pick [1] rfl)) rfl rfl rfl ?_; intro t7
    refine o_add (dt 8 (fun w m => m.pick [1] rfl)) rfl rfl rfl ?_; intro t8
    refine o_sub (dt 9 (fun w m => m.pick [1] rfl)) rfl rfl rfl ?_; intro t9
    refine o_bld (dt 10 (fun w m => m.pick [1] rfl)) (qs := [(0, (.int .i64 p_0.xBase)), (1, (.int .i64 t9))]) (cells := [(.int .i64 p_0.xBase), (.int .i64 t9)]) (by intro ρ h; simp only [List.map_toArray, List.map_cons, List.map_nil, h (.tmp 9) _ rfl, h (.tmp 17) _ rfl]) rfl bld74 rfl ?_
    refine d_one (i := 11) rfl (by kernel_rfl) (o_stc (cs' := [(.int .i64 p_0.xBase), (.int .i64 t9)]) 0 rfl rfl rfl ty74 rfl rfl rfl rfl ?_)
    refine d_and (fun w m => m.pick [1] rfl) ?_
    refine o_as (dt 12 (fun w m => m.pick [1] rfl)) rfl rfl ?_
    refine d_done (by kernel_rfl) ?_
    refine l_then ?_
    refine c_ret ?_
    exact l_end2 Tryd.results69 ((GSpan.mk p_0.xBase t9), true) () (rv_c 0 rfl rfl ty74 rfl) (rv_t rfl) rfl (fun _ _ => NewCh.nil _ _ _ _)

set_option maxRecDepth 100000 in
set_option maxHeartbeats 8000000 in
theorem w_spec_PrefixWithin {w0 : World} {F : Nat → Prop} {a_0 : GPrefix} {b_1 : GPrefix} {κ : Bool → Prop} (hF : ∀ b, F b → b < w0.heap.size ∧ ¬ feet [] b) (h : L_spec_PrefixWithin a_0 b_1 κ) :
    Calls Tryd.prog 49 #[(.agg #[(.int .i64 a_0.xBase), (.int .i64 a_0.xLength)]), (.agg #[(.int .i64 b_1.xBase), (.int .i64 b_1.xLength)])] w0 (Ret [] F w0 κ (fun (r : Bool) (u : Unit) => (.bool r)) (fun (r : Bool) (u : Unit) => [])) := by
  refine enter0 (args := [(.agg #[(.int .i64 a_0.xBase), (.int .i64 a_0.xLength)]), (.agg #[(.int .i64 b_1.xBase), (.int .i64 b_1.xLength)])]) [] hF (Given.nil _ _) Tryd.func49 rfl Tryd.ntmps49 rfl h ?_
  clear h hF
  refine c_seq ?_
  refine c_region ?_
  refine stw (o_box rfl rfl [(.int .i64 a_0.xBase), (.int .i64 a_0.xLength)] rfl ?_); intro b1
  refine stw (o_box rfl rfl [(.int .i64 b_1.xBase), (.int .i64 b_1.xLength)] rfl ?_); intro b3
  refine o_as st rfl rfl ?_
  refine c_nil ?_
  refine l_then ?_
  refine c_seq ?_
  refine c_region ?_
  refine o_ldc st (v := (.agg #[(.int .i64 a_0.xBase), (.int .i64 a_0.xLength)])) 1 rfl rfl rfl ty36 rfl ?_
  refine stw (o_callP (vs := [(.agg #[(.int .i64 a_0.xBase), (.int .i64 a_0.xLength)])]) Tryd.call69 rfl rfl (by intro w m h; exact (w_spec_PrefixSpan (F := allB [] w) (p_0 := a_0) allB_ok h).mono (fun _ _ k => ret_free (fun r u => fr_nil) k)) ?_); rintro ⟨r5, r6⟩ _
  refine o_mv st rfl rfl ?_
  refine o_ext st (vs := [(.agg #[(.int .i64 r5.xLo), (.int .i64 r5.xHi)]), (.bool r6)]) rfl rfl rfl ?_
  refine o_ext st (vs := [(.agg #[(.int .i64 r5.xLo), (.int .i64 r5.xHi)]), (.bool r6)]) rfl rfl rfl ?_
  refine stw (o_alloc rfl [(.int .i64 0), (.int .i64 0)] zero74 ?_); intro b7
  refine stw (o_stc (cs' := [(.int .i64 r5.xLo), (.int .i64 r5.xHi)]) 0 rfl rfl rfl ty74 rfl rfl rfl rfl ?_)
  refine o_as st rfl rfl ?_
  refine c_nil ?_
  refine l_then ?_
  refine c_seq ?_
  refine c_region ?_
  refine o_ldc st (v := (.agg #[(.int .i64 b_1.xBase), (.int .i64 b_1.xLength)])) 1 rfl rfl rfl ty36 rfl ?_
  refine stw (o_callP (vs := [(.agg #[(.int .i64 b_1.xBase), (.int .i64 b_1.xLength)])]) Tryd.call69 rfl rfl (by intro w m h; exact (w_spec_PrefixSpan (F := allB [] w) (p_0 := b_1) allB_ok h).mono (fun _ _ k => ret_free (fun r u => fr_nil) k)) ?_); rintro ⟨r9, r10⟩ _
  refine o_mv st rfl rfl ?_
  refine o_ext st (vs := [(.agg #[(.int .i64 r9.xLo), (.int .i64 r9.xHi)]), (.bool r10)]) rfl rfl rfl ?_
  refine o_ext st (vs := [(.agg #[(.int .i64 r9.xLo), (.int .i64 r9.xHi)]), (.bool r10)]) rfl rfl rfl ?_
  refine stw (o_alloc rfl [(.int .i64 0), (.int .i64 0)] zero74 ?_); intro b11
  refine stw (o_stc (cs' := [(.int .i64 r9.xLo), (.int .i64 r9.xHi)]) 0 rfl rfl rfl ty74 rfl rfl rfl rfl ?_)
  refine o_as st rfl rfl ?_
  refine c_nil ?_
  refine l_then ?_
  refine c_join (σ := Bool) (fun (t73 : Bool) (a : Act) (w : World) => Has 37 [(4, (.bool t73))] a ∧ Mem (gB F [] w0) (feet []) w0 [] w) ?_ ?_
  · intro k74
    refine c_region ?_
    refine o_mv st rfl rfl ?_
    refine o_mv st rfl rfl ?_
    refine st_sp (dj := 20) rfl ?_ ?_
    · refine o_mv (st_g rfl rfl) rfl rfl ?_
      refine o_pickT st rfl rfl rfl ?_
      refine o_mv st rfl rfl ?_
      refine st_sp (dj := 23) rfl ?_ ?_
      · refine o_fad (st_g rfl rfl) rfl rfl fld74_0 rfl ?_
        refine o_ldc (st_g rfl rfl) (v := (.int .i64 r5.xLo)) 1 rfl rfl rfl ty3 rfl ?_
        refine o_fad (st_g rfl rfl) rfl rfl fld74_0 rfl ?_
        refine o_ldc (st_g rfl rfl) (v := (.int .i64 r9.xLo)) 0 rfl rfl rfl ty3 rfl ?_
        refine o_geq (st_g rfl rfl) rfl rfl rfl ?_
        refine o_pickT st rfl rfl rfl ?_
        refine o_mv st rfl rfl ?_
        refine st_sp (dj := 30) rfl ?_ ?_
        · refine o_fad (st_g rfl rfl) rfl rfl fld74_1 rfl ?_
          refine o_ldc (st_g rfl rfl) (v := (.int .i64 r5.xHi)) 1 rfl rfl rfl ty3 rfl ?_
          refine o_fad (st_g rfl rfl) rfl rfl fld74_1 rfl ?_
          refine o_ldc (st_g rfl rfl) (v := (.int .i64 r9.xHi)) 0 rfl rfl rfl ty3 rfl ?_
          refine o_leq (st_g rfl rfl) rfl rfl rfl ?_
          refine o_pickT st rfl rfl rfl ?_
          refine o_as st rfl rfl ?_
          refine c_nil ?_
          exact l_join (decide (r5.xHi ≤ r9.xHi)) (fun a w hE hm => ⟨hE.sub ⟨rfl, trivial⟩, (hm.pick [] rfl)⟩)
        · refine st_s rfl rfl rfl rfl ?_
          refine st_s rfl rfl rfl rfl ?_
          refine st_s rfl rfl rfl rfl ?_
          refine st_s rfl rfl rfl rfl ?_
          refine st_s rfl rfl rfl rfl ?_
          refine o_pickF st rfl rfl rfl ?_
          refine o_as st rfl rfl ?_
          refine c_nil ?_
          exact l_join false (fun a w hE hm => ⟨hE.sub ⟨rfl, trivial⟩, (hm.pick [] rfl)⟩)
      · refine st_s rfl rfl rfl rfl ?_
        refine st_s rfl rfl rfl rfl ?_
        refine st_s rfl rfl rfl rfl ?_
        refine st_s rfl rfl rfl rfl ?_
        refine st_s rfl rfl rfl rfl ?_
        refine o_pickF st rfl rfl rfl ?_
        refine o_mv st rfl rfl ?_
        refine st_s rfl rfl rfl rfl ?_
        refine st_s rfl rfl rfl rfl ?_
        refine st_s rfl rfl rfl rfl ?_
        refine st_s rfl rfl rfl rfl ?_
        refine st_s rfl rfl rfl rfl ?_
        refine o_pickF st rfl rfl rfl ?_
        refine o_as st rfl rfl ?_
        refine c_nil ?_
        exact l_join false (fun a w hE hm => ⟨hE.sub ⟨rfl, trivial⟩, (hm.pick [] rfl)⟩)
    · refine st_s rfl rfl rfl rfl ?_
      refine o_pickF st rfl rfl rfl ?_
      refine o_mv st rfl rfl ?_
      refine st_s rfl rfl rfl rfl ?_
      refine st_s rfl rfl rfl rfl ?_
      refine st_s rfl rfl rfl rfl ?_
      refine st_s rfl rfl rfl rfl ?_
      refine st_s rfl rfl rfl rfl ?_
      refine o_pickF st rfl rfl rfl ?_
      refine o_mv st rfl rfl ?_
      refine st_s rfl rfl rfl rfl ?_
      refine st_s rfl rfl rfl rfl ?_
      refine st_s rfl rfl rfl rfl ?_
      refine st_s rfl rfl rfl rfl ?_
      refine st_s rfl rfl rfl rfl ?_
      refine o_pickF st rfl rfl rfl ?_
      refine o_as st rfl rfl ?_
      refine c_nil ?_
      exact l_join false (fun a w hE hm => ⟨hE.sub ⟨rfl, trivial⟩, (hm.pick [] rfl)⟩)
  · rintro t73 a w ⟨hE, hm⟩ h
    refine nx_of hE hm h ?_
    clear hE hm h
    refine c_ret ?_
    exact l_end1 Tryd.results49 t73 () (rv_t rfl) (fun _ _ => NewCh.nil _ _ _ _)

set_option maxRecDepth 100000 in
set_option maxHeartbeats 8000000 in
theorem w_spec_RewritesValid {w0 : World} {F : Nat → Prop} {v1 : Value} {list_0 : (List GRewrite)} {κ : Bool → Prop} (hF : ∀ b, F b → b < w0.heap.size ∧ ¬ feet [] b) (hv1 : Sl elGRewrite F w0 v1 list_0) (h : L_spec_RewritesValid list_0 κ) :
    Calls Tryd.prog 24 #[v1] w0 (Ret [] F w0 κ (fun (r : Bool) (u : Unit) => (.bool r)) (fun (r : Bool) (u : Unit) => [])) := by
  refine enterS (args := [v1]) [] hF (Given.nil _ _) Tryd.func24 rfl Tryd.ntmps24 rfl h ?_
  clear h hF
  refine c_seq ?_
  refine c_region ?_
  refine o_as st rfl rfl ?_
  refine c_nil ?_
  refine l_then ?_
  refine c_seq ?_
  refine c_region ?_
  refine stw (o_bsl (enc := encGPrefix) (qs := []) (cells := []) ([] : (List GPrefix)) flelGPrefix (by intro ρ h; simp only [List.map_toArray, List.map_cons, List.map_nil]) rfl el53 zero36 rfl rfl rfl rfl rfl rfl ?_); intro v3
  refine o_as st rfl rfl ?_
  refine c_nil ?_
  refine l_then ?_
  refine c_seq ?_
  refine c_seq ?_
  refine c_region ?_
  refine o_as st rfl rfl ?_
  refine c_nil ?_
  refine l_then ?_
  refine c_block ?_
  refine c_loop (σ := ((List GPrefix) × Int)) (fun ((xs6, t9) : ((List GPrefix) × Int)) (a : Act) (w : World) => ∃ (v5 : Value), Has 92 [(0, v1), (3, v5), (4, (.int .i64 t9))] a ∧ Mem (gB F [] w0) (feet []) w0 [snapCh w0 F, ownCh elGPrefix 36 v5 xs6] w) (fun a w hE hm => ⟨v3, hE.sub ⟨rfl, rfl, rfl, trivial⟩, (hm.pick [1, 0] rfl)⟩) ?_
  rintro nx10 ⟨xs6, t9⟩ a w ⟨v5, hE, hm⟩ h
  refine nx_of hE hm h ?_
  clear hE hm h
  refine c_seq ?_
  refine c_seq ?_
  refine c_region ?_
  refine o_mv st rfl rfl ?_
  refine o_mv st rfl rfl ?_
  refine o_len st el28 0 rfl (reads_snap hv1) rfl rfl ?_
  refine o_lss st rfl rfl rfl ?_
  refine c_nil ?_
  refine l_then ?_
  refine c_cond rfl ?_ ?_
  · refine c_skip ?_
    refine l_then ?_
    refine c_seq ?_
    refine c_block ?_
    refine c_seq ?_
    refine c_join (σ := Bool) (fun (t81 : Bool) (a : Act) (w : World) => Has 92 [(0, v1), (3, v5), (4, (.int .i64 t9)), (44, (.bool t81))] a ∧ Mem (gB F [] w0) (feet []) w0 [ownCh elGPrefix 36 v5 xs6, snapCh w0 F] w) ?_ ?_
    · intro k82
      refine c_draw mixed 31 rfl [snapCh w0 F, ownCh elGPrefix 36 v5 xs6] ?_
      refine o_mv (dt 0 (fun _ m => m)) rfl rfl ?_
      refine o_mv (dt 1 (fun _ m => m)) rfl rfl ?_
      refine o_idx (dt 2 (fun _ m => m)) 0 rfl (reads_snap hv1) rfl rfl rfl el28 ?_; intro e11 h12
      refine o_fadS (dt 3 (fun _ m => m)) 0 rfl (reads_snap hv1) h12 rfl rfl fld38_0 rfl ?_
      refine o_lds (dt 4 (fun _ m => m)) (enc := encGRewrite) (u := (.agg #[(.int .i64 e11.xInside.xBase), (.int .i64 e11.xInside.xLength)])) 0 rfl (reads_snap hv1) flelGRewrite rfl h12 rfl rfl ty36 rfl ?_
      refine d_one (i := 5) rfl (by kernel_rfl) (o_callP (vs := [(.agg #[(.int .i64 e11.xInside.xBase), (.int .i64 e11.xInside.xLength)])]) Tryd.call48 rfl rfl (by intro w m h; exact (w_spec_PrefixValid (F := allB [] w) (p_0 := e11.xInside) allB_ok h).mono (fun _ _ k => ret_free (fun r u => fr_nil) k)) ?_); rintro r13 _
      refine d_and (fun _ m => m) ?_
      refine o_not (dt 6 (fun _ m => m)) rfl rfl ?_
      refine o_mv (dt 7 (fun _ m => m)) rfl rfl ?_
      refine st_sp (dj := 21) rfl ?_ ?_
      · refine dsk 8 (fun _ m => m) rfl (by kernel_rfl) rfl rfl rfl rfl ?_
        refine dsk 9 (fun _ m => m) rfl (by kernel_rfl) rfl rfl rfl rfl ?_
        refine dsk 10 (fun _ m => m) rfl (by kernel_rfl) rfl rfl rfl rfl ?_
        refine dsk 11 (fun _ m => m) rfl (by kernel_rfl) rfl rfl rfl rfl ?_
        refine dsk 12 (fun _ m => m) rfl (by kernel_rfl) rfl rfl rfl rfl ?_
        refine dsk 13 (fun _ m => m) rfl (by kernel_rfl) rfl rfl rfl rfl ?_
        refine dsk 14 (fun _ m => m) rfl (by kernel_rfl) rfl rfl rfl rfl ?_
        refine o_pickT (dt 15 (fun _ m => m)) rfl rfl rfl ?_
        refine o_mv (dt 16 (fun _ m => m)) rfl rfl ?_
        refine dsk 17 (fun _ m => m) rfl (by kernel_rfl) rfl rfl rfl rfl ?_
        refine dsk 18 (fun _ m => m) rfl (by kernel_rfl) rfl rfl rfl rfl ?_
        refine dsk 19 (fun _ m => m) rfl (by kernel_rfl) rfl rfl rfl rfl ?_
        refine dsk 20 (fun _ m => m) rfl (by kernel_rfl) rfl rfl rfl rfl ?_
        refine dsk 21 (fun _ m => m) rfl (by kernel_rfl) rfl rfl rfl rfl ?_
        refine dsk 22 (fun _ m => m) rfl (by kernel_rfl) rfl rfl rfl rfl ?_
        refine dsk 23 (fun _ m => m) rfl (by kernel_rfl) rfl rfl rfl rfl ?_
        refine dsk 24 (fun _ m => m) rfl (by kernel_rfl) rfl rfl rfl rfl ?_
        refine dsk 25 (fun _ m => m) rfl (by kernel_rfl) rfl rfl rfl rfl ?_
        refine dsk 26 (fun _ m => m) rfl (by kernel_rfl) rfl rfl rfl rfl ?_
        refine dsk 27 (fun _ m => m) rfl (by kernel_rfl) rfl rfl rfl rfl ?_
        refine dsk 28 (fun _ m => m) rfl (by kernel_rfl) rfl rfl rfl rfl ?_
        refine dsk 29 (fun _ m => m) rfl (by kernel_rfl) rfl rfl rfl rfl ?_
        refine o_pickT (dt 30 (fun _ m => m)) rfl rfl rfl ?_
        refine d_done (by kernel_rfl) ?_
        exact l_join true (fun a w hE hm => ⟨hE.sub ⟨rfl, rfl, rfl, rfl, trivial⟩, (hm.pick [1, 0] rfl)⟩)
      · refine o_mv (dtg 8 (fun _ m => m)) rfl rfl ?_
        refine o_mv (dtg 9 (fun _ m => m)) rfl rfl ?_
        refine o_idx (dtg 10 (fun _ m => m)) 0 rfl (reads_snap hv1) rfl rfl rfl el28 ?_; intro e14 h15
        refine o_fadS (dtg 11 (fun _ m => m)) 0 rfl (reads_snap hv1) h15 rfl rfl fld38_1 rfl ?_
        refine o_lds (dtg 12 (fun _ m => m)) (enc := encGRewrite) (u := (.agg #[(.int .i64 e14.xOutside.xBase), (.int .i64 e14.xOutside.xLength)])) 0 rfl (reads_snap hv1) flelGRewrite rfl h15 rfl rfl ty36 rfl ?_
        refine d_oneg (i := 13) rfl rfl rfl (by kernel_rfl) (o_callP (vs := [(.agg #[(.int .i64 e14.xOutside.xBase), (.int .i64 e14.xOutside.xLength)])]) Tryd.call48 rfl rfl (by intro w m h; exact (w_spec_PrefixValid (F := allB [] w) (p_0 := e14.xOutside) allB_ok h).mono (fun _ _ k => ret_free (fun r u => fr_nil) k)) ?_); rintro r16 _
        refine d_and (fun _ m => m) ?_
        refine o_not (dtg 14 (fun _ m => m)) rfl rfl ?_
        refine o_pickF (dt 15 (fun _ m => m)) rfl rfl rfl ?_
        refine o_mv (dt 16 (fun _ m => m)) rfl rfl ?_
        refine st_sp (dj := 30) rfl ?_ ?_
        · refine dsk 17 (fun _ m => m) rfl (by kernel_rfl) rfl rfl rfl rfl ?_
          refine dsk 18 (fun _ m => m) rfl (by kernel_rfl) rfl rfl rfl rfl ?_
          refine dsk 19 (fun _ m => m) rfl (by kernel_rfl) rfl rfl rfl rfl ?_
          refine dsk 20 (fun _ m => m) rfl (by kernel_rfl) rfl rfl rfl rfl ?_
          refine dsk 21 (fun _ m => m) rfl (by kernel_rfl) rfl rfl rfl rfl ?_
          refine dsk 22 (fun _ m => m) rfl (by kernel_rfl) rfl rfl rfl rfl ?_
          refine dsk 23 (fun _ m => m) rfl (by kernel_rfl) rfl rfl rfl rfl ?_
          refine dsk 24 (fun _ m => m) rfl (by kernel_rfl) rfl rfl rfl rfl ?_
          refine dsk 25 (fun _ m => m) rfl (by kernel_rfl) rfl rfl rfl rfl ?_
          refine dsk 26 (fun _ m => m) rfl (by kernel_rfl) rfl rfl rfl rfl ?_
          refine dsk 27 (fun _ m => m) rfl (by kernel_rfl) rfl rfl rfl rfl ?_
          refine dsk 28 (fun _ m => m) rfl (by kernel_rfl) rfl rfl rfl rfl ?_
          refine dsk 29 (fun _ m => m) rfl (by kernel_rfl) rfl rfl rfl rfl ?_
          refine o_pickT (dt 30 (fun _ m => m)) rfl rfl rfl ?_
          refine d_done (by kernel_rfl) ?_
          exact l_join true (fun a w hE hm => ⟨hE.sub ⟨rfl, rfl, rfl, rfl, trivial⟩, (hm.pick [1, 0] rfl)⟩)
        · refine o_mv (dtg 17 (fun _ m => m)) rfl rfl ?_
          refine o_mv (dtg 18 (fun _ m => m)) rfl rfl ?_
          refine o_idx (dtg 19 (fun _ m => m)) 0 rfl (reads_snap hv1) rfl rfl rfl el28 ?_; intro e17 h18
          refine o_fadS (dtg 20 (fun _ m => m)) 0 rfl (reads_snap hv1) h18 rfl rfl fld38_0 rfl ?_
          refine o_fadS (dtg 21 (fun _ m => m)) 0 rfl (reads_snap hv1) h18 rfl rfl fld36_1 rfl ?_
          refine o_lds (dtg 22 (fun _ m => m)) (enc := encGRewrite) (u := (.int .i64 e17.xInside.xLength)) 0 rfl (reads_snap hv1) flelGRewrite rfl h18 rfl rfl ty3 rfl ?_
          refine o_mv (dtg 23 (fun _ m => m)) rfl rfl ?_
          refine o_mv (dtg 24 (fun _ m => m)) rfl rfl ?_
          refine o_idx (dtg 25 (fun _ m => m)) 0 rfl (reads_snap hv1) rfl rfl rfl el28 ?_; intro e19 h20
          refine o_fadS (dtg 26 (fun _ m => m)) 0 rfl (reads_snap hv1) h20 rfl rfl fld38_1 rfl ?_
          refine o_fadS (dtg 27 (fun _ m => m)) 0 rfl (reads_snap hv1) h20 rfl rfl fld36_1 rfl ?_
          refine o_lds (dtg 28 (fun _ m => m)) (enc := encGRewrite) (u := (.int .i64 e19.xOutside.xLength)) 0 rfl (reads_snap hv1) flelGRewrite rfl h20 rfl rfl ty3 rfl ?_
          refine o_neq (dtg 29 (fun _ m => m)) und3 rfl rfl rfl ?_
          refine o_pickF (dt 30 (fun _ m => m)) rfl rfl rfl ?_
          refine d_done (by kernel_rfl) ?_
          exact l_join (!(decide (e17.xInside.xLength = e19.xOutside.xLength))) (fun a w hE hm => ⟨hE.sub ⟨rfl, rfl, rfl, rfl, trivial⟩, (hm.pick [1, 0] rfl)⟩)
    · rintro t81 a w ⟨hE, hm⟩ h
      refine nx_of hE hm h ?_
      clear hE hm h
      refine c_cond rfl ?_ ?_
      · refine c_seq ?_
        refine c_region ?_
        refine o_as st rfl rfl ?_
        refine c_nil ?_
        refine l_then ?_
        refine c_ret ?_
        refine l_ret ?_
        refine b_ret ?_
        refine l_ret ?_
        refine l_ret ?_
        refine b_ret ?_
        refine l_ret ?_
        exact l_end1 Tryd.results24 false () (rv_t rfl) (fun _ _ => NewCh.nil _ _ _ _)
      · refine c_skip ?_
        refine l_then ?_
        refine c_draw mixed 14 rfl [snapCh w0 F] ?_
        refine o_mv (dt 0 (fun w m => m.pick [1] rfl)) rfl rfl ?_
        refine o_mv (dt 1 (fun w m => m.pick [1] rfl)) rfl rfl ?_
        refine o_mv (dt 2 (fun w m => m.pick [1] rfl)) rfl rfl ?_
        refine o_idx (dt 3 (fun w m => m.pick [1] rfl)) 0 rfl (reads_snap hv1) rfl rfl rfl el28 ?_; intro e83 h84
        refine o_fadS (dt 4 (fun w m => m.pick [1] rfl)) 0 rfl (reads_snap hv1) h84 rfl rfl fld38_0 rfl ?_
        refine o_lds (dt 5 (fun w m => m.pick [1] rfl)) (enc := encGRewrite) (u := (.agg #[(.int .i64 e83.xInside.xBase), (.int .i64 e83.xInside.xLength)])) 0 rfl (reads_snap hv1) flelGRewrite rfl h84 rfl rfl ty36 rfl ?_
        refine o_mv (dt 6 (fun w m => m.pick [1] rfl)) rfl rfl ?_
        refine o_mv (dt 7 (fun w m => m.pick [1] rfl)) rfl rfl ?_
        refine o_idx (dt 8 (fun w m => m.pick [1] rfl)) 0 rfl (reads_snap hv1) rfl rfl rfl el28 ?_; intro e85 h86
        refine o_fadS (dt 9 (fun w m => m.pick [1] rfl)) 0 rfl (reads_snap hv1) h86 rfl rfl fld38_1 rfl ?_
        refine o_lds (dt 10 (fun w m => m.pick [1] rfl)) (enc := encGRewrite) (u := (.agg #[(.int .i64 e85.xOutside.xBase), (.int .i64 e85.xOutside.xLength)])) 0 rfl (reads_snap hv1) flelGRewrite rfl h86 rfl rfl ty36 rfl ?_
        refine d_one (i := 11) rfl (by kernel_rfl) (o_bsl (enc := encGPrefix) (qs := [(0, (.agg #[(.int .i64 e83.xInside.xBase), (.int .i64 e83.xInside.xLength)])), (1, (.agg #[(.int .i64 e85.xOutside.xBase), (.int .i64 e85.xOutside.xLength)]))]) (cells := [(.int .i64 e83.xInside.xBase), (.int .i64 e83.xInside.xLength), (.int .i64 e85.xOutside.xBase), (.int .i64 e85.xOutside.xLength)]) ([e83.xInside, e85.xOutside]) flelGPrefix (by intro ρ h; simp only [List.map_toArray, List.map_cons, List.map_nil, h (.tmp 50) _ rfl, h (.tmp 55) _ rfl]) rfl el53 zero36 rfl rfl rfl rfl rfl rfl ?_); intro v87
        refine d_and (fun w m => m.pick [2] rfl) ?_
        refine d_one (i := 12) rfl (by kernel_rfl) (o_app 1 0 rfl rfl (src_flat flelGPrefix reads_own) rfl rfl rfl el53 rfl zero36 rfl rfl ?_); intro v89
        refine d_and (fun w m => m.pick [2] rfl) ?_
        refine o_as (dt 13 (fun w m => m.pick [2] rfl)) rfl rfl ?_
        refine d_done (by kernel_rfl) ?_
        refine b_norm ?_
        refine l_then ?_
        refine c_region ?_
        refine o_mv st rfl rfl ?_
        refine o_add st rfl rfl rfl ?_; intro t91
        refine o_as st rfl rfl ?_
        refine c_nil ?_
        exact l_join ((xs6 ++ ([e83.xInside, e85.xOutside])), t91) (fun a w hE hm => ⟨v89, hE.sub ⟨rfl, rfl, rfl, trivial⟩, (hm.pick [2, 1] rfl)⟩)
  · refine c_exit ?_
    refine l_exit ?_
    refine l_exit ?_
    refine b_exit ?_
    refine l_then ?_
    refine c_seq ?_
    refine c_seq ?_
    refine c_region ?_
    refine o_as st rfl rfl ?_
    refine c_nil ?_
    refine l_then ?_
    refine c_block ?_
    refine c_loop (σ := Int) (fun (t92 : Int) (a : Act) (w : World) => Has 92 [(0, v1), (3, v5), (5, (.int .i64 t92))] a ∧ Mem (gB F [] w0) (feet []) w0 [ownCh elGPrefix 36 v5 xs6, snapCh w0 F] w) (fun a w hE hm => ⟨hE.sub ⟨rfl, rfl, rfl, trivial⟩, (hm.pick [1, 0] rfl)⟩) ?_
    rintro nx93 t92 a w ⟨hE, hm⟩ h
    refine nx_of hE hm h ?_
    clear hE hm h
    refine c_seq ?_
    refine c_seq ?_
    refine c_region ?_
    refine o_mv st rfl rfl ?_
    refine o_mv st rfl rfl ?_
    refine o_len st el53 0 rfl reads_own rfl rfl ?_
    refine o_lss st rfl rfl rfl ?_
    refine c_nil ?_
    refine l_then ?_
    refine c_cond rfl ?_ ?_
    · refine c_skip ?_
      refine l_then ?_
      refine c_seq ?_
      refine c_block ?_
      refine c_seq ?_
      refine c_region ?_
      refine o_as st rfl rfl ?_
      refine c_nil ?_
      refine l_then ?_
      refine c_block ?_
      refine c_loop (σ := Int) (fun (t94 : Int) (a : Act) (w : World) => Has 92 [(0, v1), (3, v5), (5, (.int .i64 t92)), (6, (.int .i64 t94))] a ∧ Mem (gB F [] w0) (feet []) w0 [ownCh elGPrefix 36 v5 xs6, snapCh w0 F] w) (fun a w hE hm => ⟨hE.sub ⟨rfl, rfl, rfl, rfl, trivial⟩, (hm.pick [0, 1] rfl)⟩) ?_
      rintro nx95 t94 a w ⟨hE, hm⟩ h
      refine nx_of hE hm h ?_
      clear hE hm h
      refine c_seq ?_
      refine c_seq ?_
      refine c_region ?_
      refine o_mv st rfl rfl ?_
      refine o_mv st rfl rfl ?_
      refine o_lss st rfl rfl rfl ?_
      refine c_nil ?_
      refine l_then ?_
      refine c_cond rfl ?_ ?_
      · refine c_skip ?_
        refine l_then ?_
        refine c_seq ?_
        refine c_block ?_
        refine c_join (σ := Bool) (fun (t166 : Bool) (a : Act) (w : World) => Has 92 [(0, v1), (3, v5), (5, (.int .i64 t92)), (6, (.int .i64 t94)), (88, (.bool t166))] a ∧ Mem (gB F [] w0) (feet []) w0 [ownCh elGPrefix 36 v5 xs6, snapCh w0 F] w) ?_ ?_
        · intro k167
          refine c_draw mixed 20 rfl [ownCh elGPrefix 36 v5 xs6, snapCh w0 F] ?_
          refine o_mv (dt 0 (fun _ m => m)) rfl rfl ?_
          refine o_mv (dt 1 (fun _ m => m)) rfl rfl ?_
          refine o_idx (dt 2 (fun _ m => m)) 0 rfl reads_own rfl rfl rfl el53 ?_; intro e96 h97
          refine o_lds (dt 3 (fun _ m => m)) (enc := encGPrefix) (u := (.agg #[(.int .i64 e96.xBase), (.int .i64 e96.xLength)])) 0 rfl reads_own flelGPrefix rfl h97 rfl rfl ty36 rfl ?_
          refine o_mv (dt 4 (fun _ m => m)) rfl rfl ?_
          refine o_mv (dt 5 (fun _ m => m)) rfl rfl ?_
          refine o_idx (dt 6 (fun _ m => m)) 0 rfl reads_own rfl rfl rfl el53 ?_; intro e98 h99
          refine o_lds (dt 7 (fun _ m => m)) (enc := encGPrefix) (u := (.agg #[(.int .i64 e98.xBase), (.int .i64 e98.xLength)])) 0 rfl reads_own flelGPrefix rfl h99 rfl rfl ty36 rfl ?_
          refine d_one (i := 8) rfl (by kernel_rfl) (o_callP (vs := [(.agg #[(.int .i64 e96.xBase), (.int .i64 e96.xLength)]), (.agg #[(.int .i64 e98.xBase), (.int .i64 e98.xLength)])]) Tryd.call49 rfl rfl (by intro w m h; exact (w_spec_PrefixWithin (F := allB [] w) (a_0 := e96) (b_1 := e98) allB_ok h).mono (fun _ _ k => ret_free (fun r u => fr_nil) k)) ?_); rintro r100 _
          refine d_and (fun _ m => m) ?_
          refine o_mv (dt 9 (fun _ m => m)) rfl rfl ?_
          refine st_sp (dj := 78) rfl ?_ ?_
          · refine dsk 10 (fun _ m => m) rfl (by kernel_rfl) rfl rfl rfl rfl ?_
            refine dsk 11 (fun _ m => m) rfl (by kernel_rfl) rfl rfl rfl rfl ?_
            refine dsk 12 (fun _ m => m) rfl (by kernel_rfl) rfl rfl rfl rfl ?_
            refine dsk 13 (fun _ m => m) rfl (by kernel_rfl) rfl rfl rfl rfl ?_
            refine dsk 14 (fun _ m => m) rfl (by kernel_rfl) rfl rfl rfl rfl ?_
            refine dsk 15 (fun _ m => m) rfl (by kernel_rfl) rfl rfl rfl rfl ?_
            refine dsk 16 (fun _ m => m) rfl (by kernel_rfl) rfl rfl rfl rfl ?_
            refine dsk 17 (fun _ m => m) rfl (by kernel_rfl) rfl rfl rfl rfl ?_
            refine dsk 18 (fun _ m => m) rfl (by kernel_rfl) rfl rfl rfl rfl ?_
            refine o_pickT (dt 19 (fun _ m => m)) rfl rfl rfl ?_
            refine d_done (by kernel_rfl) ?_
            exact l_join true (fun a w hE hm => ⟨hE.sub ⟨rfl, rfl, rfl, rfl, rfl, trivial⟩, (hm.pick [0, 1] rfl)⟩)
          · refine o_mv (dtg 10 (fun _ m => m)) rfl rfl ?_
            refine o_mv (dtg 11 (fun _ m => m)) rfl rfl ?_
            refine o_idx (dtg 12 (fun _ m => m)) 0 rfl reads_own rfl rfl rfl el53 ?_; intro e101 h102
            refine o_lds (dtg 13 (fun _ m => m)) (enc := encGPrefix) (u := (.agg #[(.int .i64 e101.xBase), (.int .i64 e101.xLength)])) 0 rfl reads_own flelGPrefix rfl h102 rfl rfl ty36 rfl ?_
            refine o_mv (dtg 14 (fun _ m => m)) rfl rfl ?_
            refine o_mv (dtg 15 (fun _ m => m)) rfl rfl ?_
            refine o_idx (dtg 16 (fun _ m => m)) 0 rfl reads_own rfl rfl rfl el53 ?_; intro e103 h104
            refine o_lds (dtg 17 (fun _ m => m)) (enc := encGPrefix) (u := (.agg #[(.int .i64 e103.xBase), (.int .i64 e103.xLength)])) 0 rfl reads_own flelGPrefix rfl h104 rfl rfl ty36 rfl ?_
            refine d_oneg (i := 18) rfl rfl rfl (by kernel_rfl) (o_callP (vs := [(.agg #[(.int .i64 e101.xBase), (.int .i64 e101.xLength)]), (.agg #[(.int .i64 e103.xBase), (.int .i64 e103.xLength)])]) Tryd.call49 rfl rfl (by intro w m h; exact (w_spec_PrefixWithin (F := allB [] w) (a_0 := e101) (b_1 := e103) allB_ok h).mono (fun _ _ k => ret_free (fun r u => fr_nil) k)) ?_); rintro r105 _
            refine d_and (fun _ m => m) ?_
            refine o_pickF (dt 19 (fun _ m => m)) rfl rfl rfl ?_
            refine d_done (by kernel_rfl) ?_
            exact l_join r105 (fun a w hE hm => ⟨hE.sub ⟨rfl, rfl, rfl, rfl, rfl, trivial⟩, (hm.pick [0, 1] rfl)⟩)
        · rintro t166 a w ⟨hE, hm⟩ h
          refine nx_of hE hm h ?_
          clear hE hm h
          refine c_cond rfl ?_ ?_
          · refine c_seq ?_
            refine c_region ?_
            refine o_as st rfl rfl ?_
            refine c_nil ?_
            refine l_then ?_
            refine c_ret ?_
            refine b_ret ?_
            refine l_ret ?_
            refine l_ret ?_
            refine b_ret ?_
            refine b_ret ?_
            refine l_ret ?_
            refine l_ret ?_
            refine b_ret ?_
            refine l_ret ?_
            exact l_end1 Tryd.results24 false () (rv_t rfl) (fun _ _ => NewCh.nil _ _ _ _)
          · refine c_skip ?_
            refine b_norm ?_
            refine l_then ?_
            refine c_region ?_
            refine o_mv st rfl rfl ?_
            refine o_add st rfl rfl rfl ?_; intro t168
            refine o_as st rfl rfl ?_
            refine c_nil ?_
            exact l_join t168 (fun a w hE hm => ⟨hE.sub ⟨rfl, rfl, rfl, rfl, trivial⟩, (hm.pick [0, 1] rfl)⟩)
      · refine c_exit ?_
        refine l_exit ?_
        refine l_exit ?_
        refine b_exit ?_
        refine b_norm ?_
        refine l_then ?_
        refine c_region ?_
        refine o_mv st rfl rfl ?_
        refine o_add st rfl rfl rfl ?_; intro t169
        refine o_as st rfl rfl ?_
        refine c_nil ?_
        exact l_join t169 (fun a w hE hm => ⟨hE.sub ⟨rfl, rfl, rfl, trivial⟩, (hm.pick [0, 1] rfl)⟩)
    · refine c_exit ?_
      refine l_exit ?_
      refine l_exit ?_
      refine b_exit ?_
      refine l_then ?_
      refine c_seq ?_
      refine c_region ?_
      refine o_mv st rfl rfl ?_
      refine o_len st el28 1 rfl (reads_snap hv1) rfl rfl ?_
      refine o_leq st rfl rfl rfl ?_
      refine o_as st rfl rfl ?_
      refine c_nil ?_
      refine l_then ?_
      refine c_ret ?_
      exact l_end1 Tryd.results24 (decide ((list_0.length : Int) ≤ 10)) () (rv_t rfl) (fun _ _ => NewCh.nil _ _ _ _)

set_option maxRecDepth 100000 in
set_option maxHeartbeats 8000000 in
theorem w_spec_PacketValid {w0 : World} {F : Nat → Prop} {p_0 : GPacket} {κ : Bool → Prop} (hF : ∀ b, F b → b < w0.heap.size ∧ ¬ feet [] b) (h : L_spec_PacketValid p_0 κ) :
    Calls Tryd.prog 25 #[(.agg #[(.int .i64 p_0.xFrom), (.int .i64 p_0.xTo), (.int .i64 p_0.xPort), (.int .i64 p_0.xProto)])] w0 (Ret [] F w0 κ (fun (r : Bool) (u : Unit) => (.bool r)) (fun (r : Bool) (u : Unit) => [])) := by
  refine enter0 (args := [(.agg #[(.int .i64 p_0.xFrom), (.int .i64 p_0.xTo), (.int .i64 p_0.xPort), (.int .i64 p_0.xProto)])]) [] hF (Given.nil _ _) Tryd.func25 rfl Tryd.ntmps25 rfl h ?_
  clear h hF
  refine c_seq ?_
  refine c_region ?_
  refine stw (o_box rfl rfl [(.int .i64 p_0.xFrom), (.int .i64 p_0.xTo), (.int .i64 p_0.xPort), (.int .i64 p_0.xProto)] rfl ?_); intro b1
  refine o_as st rfl rfl ?_
  refine c_nil ?_
  refine l_then ?_
  refine c_join (σ := Bool) (fun (t67 : Bool) (a : Act) (w : World) => Has 21 [(2, (.bool t67))] a ∧ Mem (gB F [] w0) (feet []) w0 [] w) ?_ ?_
  · intro k68
    refine c_region ?_
    refine o_fad st rfl rfl fld26_0 rfl ?_
    refine o_ldc st (v := (.int .i64 p_0.xFrom)) 0 rfl rfl rfl ty3 rfl ?_
    refine stw (o_callP (vs := [(.int .i64 p_0.xFrom), (.int .i64 0), (.int .i64 65535)]) Tryd.call50 rfl rfl (by intro w m h; exact (w_spec_l1In (F := allB [] w) (n_0 := p_0.xFrom) (lo_1 := 0) (hi_2 := 65535) allB_ok h).mono (fun _ _ k => ret_free (fun r u => fr_nil) k)) ?_); rintro r3 _
    refine o_mv st rfl rfl ?_
    refine st_sp (dj := 6) rfl ?_ ?_
    · refine o_fad (st_g rfl rfl) rfl rfl fld26_1 rfl ?_
      refine o_ldc (st_g rfl rfl) (v := (.int .i64 p_0.xTo)) 0 rfl rfl rfl ty3 rfl ?_
      refine st_gw rfl rfl (o_callP (vs := [(.int .i64 p_0.xTo), (.int .i64 0), (.int .i64 65535)]) Tryd.call50 rfl rfl (by intro w m h; exact (w_spec_l1In (F := allB [] w) (n_0 := p_0.xTo) (lo_1 := 0) (hi_2 := 65535) allB_ok h).mono (fun _ _ k => ret_free (fun r u => fr_nil) k)) ?_); rintro r4 _
      refine o_pickT st rfl rfl rfl ?_
      refine o_mv st rfl rfl ?_
      refine st_sp (dj := 11) rfl ?_ ?_
      · refine o_fad (st_g rfl rfl) rfl rfl fld26_2 rfl ?_
        refine o_ldc (st_g rfl rfl) (v := (.int .i64 p_0.xPort)) 0 rfl rfl rfl ty3 rfl ?_
        refine st_gw rfl rfl (o_callP (vs := [(.int .i64 p_0.xPort), (.int .i64 0), (.int .i64 255)]) Tryd.call50 rfl rfl (by intro w m h; exact (w_spec_l1In (F := allB [] w) (n_0 := p_0.xPort) (lo_1 := 0) (hi_2 := 255) allB_ok h).mono (fun _ _ k => ret_free (fun r u => fr_nil) k)) ?_); rintro r5 _
        refine o_pickT st rfl rfl rfl ?_
        refine o_mv st rfl rfl ?_
        refine st_sp (dj := 16) rfl ?_ ?_
        · refine o_fad (st_g rfl rfl) rfl rfl fld26_3 rfl ?_
          refine o_ldc (st_g rfl rfl) (v := (.int .i64 p_0.xProto)) 0 rfl rfl rfl ty3 rfl ?_
          refine st_gw rfl rfl (o_callP (vs := [(.int .i64 p_0.xProto), (.int .i64 0), (.int .i64 7)]) Tryd.call50 rfl rfl (by intro w m h; exact (w_spec_l1In (F := allB [] w) (n_0 := p_0.xProto) (lo_1 := 0) (hi_2 := 7) allB_ok h).mono (fun _ _ k => ret_free (fun r u => fr_nil) k)) ?_); rintro r6 _
          refine o_pickT st rfl rfl rfl ?_
          refine o_as st rfl rfl ?_
          refine c_nil ?_
          exact l_join r6 (fun a w hE hm => ⟨hE.sub ⟨rfl, trivial⟩, (hm.pick [] rfl)⟩)
        · refine st_s rfl rfl rfl rfl ?_
          refine st_s rfl rfl rfl rfl ?_
          refine st_s rfl rfl rfl rfl ?_
          refine o_pickF st rfl rfl rfl ?_
          refine o_as st rfl rfl ?_
          refine c_nil ?_
          exact l_join false (fun a w hE hm => ⟨hE.sub ⟨rfl, trivial⟩, (hm.pick [] rfl)⟩)
      · refine st_s rfl rfl rfl rfl ?_
        refine st_s rfl rfl rfl rfl ?_
        refine st_s rfl rfl rfl rfl ?_
        refine o_pickF st rfl rfl rfl ?_
        refine o_mv st rfl rfl ?_
        refine st_s rfl rfl rfl rfl ?_
        refine st_s rfl rfl rfl rfl ?_
        refine st_s rfl rfl rfl rfl ?_
        refine o_pickF st rfl rfl rfl ?_
        refine o_as st rfl rfl ?_
        refine c_nil ?_
        exact l_join false (fun a w hE hm => ⟨hE.sub ⟨rfl, trivial⟩, (hm.pick [] rfl)⟩)
    · refine st_s rfl rfl rfl rfl ?_
      refine st_s rfl rfl rfl rfl ?_
      refine st_s rfl rfl rfl rfl ?_
      refine o_pickF st rfl rfl rfl ?_
      refine o_mv st rfl rfl ?_
      refine st_s rfl rfl rfl rfl ?_
      refine st_s rfl rfl rfl rfl ?_
      refine st_s rfl rfl rfl rfl ?_
      refine o_pickF st rfl rfl rfl ?_
      refine o_mv st rfl rfl ?_
      refine st_s rfl rfl rfl rfl ?_
      refine st_s rfl rfl rfl rfl ?_
      refine st_s rfl rfl rfl rfl ?_
      refine o_pickF st rfl rfl rfl ?_
      refine o_as st rfl rfl ?_
      refine c_nil ?_
      exact l_join false (fun a w hE hm => ⟨hE.sub ⟨rfl, trivial⟩, (hm.pick [] rfl)⟩)
  · rintro t67 a w ⟨hE, hm⟩ h
    refine nx_of hE hm h ?_
    clear hE hm h
    refine c_ret ?_
    exact l_end1 Tryd.results25 t67 () (rv_t rfl) (fun _ _ => NewCh.nil _ _ _ _)

set_option maxRecDepth 100000 in
set_option maxHeartbeats 8000000 in
theorem w_spec_l24Map {w0 : World} {F : Nat → Prop} {address_0 : Int} {from_1 : GPrefix} {to_2 : GPrefix} {κ : Int → Prop} (hF : ∀ b, F b → b < w0.heap.size ∧ ¬ feet [] b) (h : L_spec_l24Map address_0 from_1 to_2 κ) :
    Calls Tryd.prog 31 #[(.int .i64 address_0), (.agg #[(.int .i64 from_1.xBase), (.int .i64 from_1.xLength)]), (.agg #[(.int .i64 to_2.xBase), (.int .i64 to_2.xLength)])] w0 (Ret [] F w0 κ (fun (r : Int) (u : Unit) => (.int .i64 r)) (fun (r : Int) (u : Unit) => [])) := by
  refine enter0 (args := [(.int .i64 address_0), (.agg #[(.int .i64 from_1.xBase), (.int .i64 from_1.xLength)]), (.agg #[(.int .i64 to_2.xBase), (.int .i64 to_2.xLength)])]) [] hF (Given.nil _ _) Tryd.func31 rfl Tryd.ntmps31 rfl h ?_
  clear h hF
  refine c_seq ?_
  refine c_region ?_
  refine stw (o_box rfl rfl [(.int .i64 from_1.xBase), (.int .i64 from_1.xLength)] rfl ?_); intro b1
  refine stw (o_box rfl rfl [(.int .i64 to_2.xBase), (.int .i64 to_2.xLength)] rfl ?_); intro b3
  refine o_as st rfl rfl ?_
  refine c_nil ?_
  refine l_then ?_
  refine c_seq ?_
  refine c_seq ?_
  refine c_region ?_
  refine o_mv st rfl rfl ?_
  refine o_bld st (qs := [(0, (.int .i64 address_0)), (1, (.int .i64 16))]) (cells := [(.int .i64 address_0), (.int .i64 16)]) (by intro ρ h; simp only [List.map_toArray, List.map_cons, List.map_nil, h (.tmp 7) _ rfl, h (.const (.int .i64 16)) _ rfl]) rfl bld36 rfl ?_
  refine o_ldc st (v := (.agg #[(.int .i64 from_1.xBase), (.int .i64 from_1.xLength)])) 1 rfl rfl rfl ty36 rfl ?_
  refine stw (o_callP (vs := [(.agg #[(.int .i64 address_0), (.int .i64 16)]), (.agg #[(.int .i64 from_1.xBase), (.int .i64 from_1.xLength)])]) Tryd.call49 rfl rfl (by intro w m h; exact (w_spec_PrefixWithin (F := allB [] w) (a_0 := (GPrefix.mk address_0 16)) (b_1 := from_1) allB_ok h).mono (fun _ _ k => ret_free (fun r u => fr_nil) k)) ?_); rintro r5 _
  refine o_not st rfl rfl ?_
  refine c_nil ?_
  refine l_then ?_
  refine c_cond rfl ?_ ?_
  · refine c_seq ?_
    refine c_region ?_
    refine o_as st rfl rfl ?_
    refine c_nil ?_
    refine l_then ?_
    refine c_ret ?_
    refine l_ret ?_
    exact l_end1 Tryd.results31 (-1) () (rv_t rfl) (fun _ _ => NewCh.nil _ _ _ _)
  · refine c_skip ?_
    refine l_then ?_
    refine c_seq ?_
    refine c_region ?_
    refine o_fad st rfl rfl fld36_0 rfl ?_
    refine o_ldc st (v := (.int .i64 to_2.xBase)) 0 rfl rfl rfl ty3 rfl ?_
    refine o_mv st rfl rfl ?_
    refine o_add st rfl rfl rfl ?_; intro t6
    refine o_fad st rfl rfl fld36_0 rfl ?_
    refine o_ldc st (v := (.int .i64 from_1.xBase)) 1 rfl rfl rfl ty3 rfl ?_
    refine o_sub st rfl rfl rfl ?_; intro t7
    refine o_as st rfl rfl ?_
    refine c_nil ?_
    refine l_then ?_
    refine c_ret ?_
    exact l_end1 Tryd.results31 t7 () (rv_t rfl) (fun _ _ => NewCh.nil _ _ _ _)

set_option maxRecDepth 100000 in
set_option maxHeartbeats 8000000 in
theorem w_impl_hostMask {w0 : World} {F : Nat → Prop} {length_0 : Int} {κ : Int → Prop} (hF : ∀ b, F b → b < w0.heap.size ∧ ¬ feet [] b) (h : L_impl_hostMask length_0 κ) :
    Calls Tryd.prog 65 #[(.int .i64 length_0)] w0 (Ret [] F w0 κ (fun (r : Int) (u : Unit) => (.int .i64 r)) (fun (r : Int) (u : Unit) => [])) := by
  refine enter0 (args := [(.int .i64 length_0)]) [] hF (Given.nil _ _) Tryd.func65 rfl Tryd.ntmps65 rfl h ?_
  clear h hF
  refine c_seq ?_
  refine c_region ?_
  refine o_as st rfl rfl ?_
  refine c_nil ?_
  refine l_then ?_
  refine c_seq ?_
  refine c_region ?_
  refine o_mv st rfl rfl ?_
  refine o_sub st rfl rfl rfl ?_; intro t1
  refine o_shl st rfl rfl rfl ?_; intro t2
  refine o_sub st rfl rfl rfl ?_; intro t3
  refine o_as st rfl rfl ?_
  refine c_nil ?_
  refine l_then ?_
  refine c_ret ?_
  exact l_end1 Tryd.results65 t3 () (rv_t rfl) (fun _ _ => NewCh.nil _ _ _ _)

set_option maxRecDepth 100000 in
set_option maxHeartbeats 8000000 in
theorem w_impl_PrefixValid {w0 : World} {F : Nat → Prop} {p_0 : GPrefix} {κ : Bool → Prop} (hF : ∀ b, F b → b < w0.heap.size ∧ ¬ feet [] b) (h : L_impl_PrefixValid p_0 κ) :
    Calls Tryd.prog 64 #[(.agg #[(.int .i64 p_0.xBase), (.int .i64 p_0.xLength)])] w0 (Ret [] F w0 κ (fun (r : Bool) (u : Unit) => (.bool r)) (fun (r : Bool) (u : Unit) => [])) := by
  refine enter0 (args := [(.agg #[(.int .i64 p_0.xBase), (.int .i64 p_0.xLength)])]) [] hF (Given.nil _ _) Tryd.func64 rfl Tryd.ntmps64 rfl h ?_
  clear h hF
  refine c_seq ?_
  refine c_region ?_
  refine stw (o_box rfl rfl [(.int .i64 p_0.xBase), (.int .i64 p_0.xLength)] rfl ?_); intro b1
  refine o_as st rfl rfl ?_
  refine c_nil ?_
  refine l_then ?_
  refine c_seq ?_
  refine c_join (σ := Bool) (fun (t63 : Bool) (a : Act) (w : World) => Has 28 [(1, (.pointer (some ⟨b1, 0, none⟩))), (20, (.bool t63))] a ∧ Mem (gB F [] w0) (feet []) w0 [cellCh b1 [(.int .i64 p_0.xBase), (.int .i64 p_0.xLength)] 36] w) ?_ ?_
  · intro k64
    refine c_region ?_
    refine o_fad st rfl rfl fld36_1 rfl ?_
    refine o_ldc st (v := (.int .i64 p_0.xLength)) 0 rfl rfl rfl ty3 rfl ?_
    refine o_lss st rfl rfl rfl ?_
    refine o_mv st rfl rfl ?_
    refine st_sp (dj := 6) rfl ?_ ?_
    · refine st_s rfl rfl rfl rfl ?_
      refine st_s rfl rfl rfl rfl ?_
      refine st_s rfl rfl rfl rfl ?_
      refine o_pickT st rfl rfl rfl ?_
      refine o_mv st rfl rfl ?_
      refine st_s rfl rfl rfl rfl ?_
      refine st_s rfl rfl rfl rfl ?_
      refine st_s rfl rfl rfl rfl ?_
      refine o_pickT st rfl rfl rfl ?_
      refine o_mv st rfl rfl ?_
      refine st_s rfl rfl rfl rfl ?_
      refine st_s rfl rfl rfl rfl ?_
      refine st_s rfl rfl rfl rfl ?_
      refine o_pickT st rfl rfl rfl ?_
      refine c_nil ?_
      exact l_join true (fun a w hE hm => ⟨hE.sub ⟨rfl, rfl, trivial⟩, (hm.pick [0] rfl)⟩)
    · refine o_fad (st_g rfl rfl) rfl rfl fld36_1 rfl ?_
      refine o_ldc (st_g rfl rfl) (v := (.int .i64 p_0.xLength)) 0 rfl rfl rfl ty3 rfl ?_
      refine o_gtr (st_g rfl rfl) rfl rfl rfl ?_
      refine o_pickF st rfl rfl rfl ?_
      refine o_mv st rfl rfl ?_
      refine st_sp (dj := 11) rfl ?_ ?_
      · refine st_s rfl rfl rfl rfl ?_
        refine st_s rfl rfl rfl rfl ?_
        refine st_s rfl rfl rfl rfl ?_
        refine o_pickT st rfl rfl rfl ?_
        refine o_mv st rfl rfl ?_
        refine st_s rfl rfl rfl rfl ?_
        refine st_s rfl rfl rfl rfl ?_
        refine st_s rfl rfl rfl rfl ?_
        refine o_pickT st rfl rfl rfl ?_
        refine c_nil ?_
        exact l_join true (fun a w hE hm => ⟨hE.sub ⟨rfl, rfl, trivial⟩, (hm.pick [0] rfl)⟩)
      · refine o_fad (st_g rfl rfl) rfl rfl fld36_0 rfl ?_
        refine o_ldc (st_g rfl rfl) (v := (.int .i64 p_0.xBase)) 0 rfl rfl rfl ty3 rfl ?_
        refine o_lss (st_g rfl rfl) rfl rfl rfl ?_
        refine o_pickF st rfl rfl rfl ?_
        refine o_mv st rfl rfl ?_
        refine st_sp (dj := 16) rfl ?_ ?_
        · refine st_s rfl rfl rfl rfl ?_
          refine st_s rfl rfl rfl rfl ?_
          refine st_s rfl rfl rfl rfl ?_
          refine o_pickT st rfl rfl rfl ?_
          refine c_nil ?_
          exact l_join true (fun a w hE hm => ⟨hE.sub ⟨rfl, rfl, trivial⟩, (hm.pick [0] rfl)⟩)
        · refine o_fad (st_g rfl rfl) rfl rfl fld36_0 rfl ?_
          refine o_ldc (st_g rfl rfl) (v := (.int .i64 p_0.xBase)) 0 rfl rfl rfl ty3 rfl ?_
          refine o_gtr (st_g rfl rfl) rfl rfl rfl ?_
          refine o_pickF st rfl rfl rfl ?_
          refine c_nil ?_
          exact l_join (decide (65535 < p_0.xBase)) (fun a w hE hm => ⟨hE.sub ⟨rfl, rfl, trivial⟩, (hm.pick [0] rfl)⟩)
  · rintro t63 a w ⟨hE, hm⟩ h
    refine nx_of hE hm h ?_
    clear hE hm h
    refine c_cond rfl ?_ ?_
    · refine c_seq ?_
      refine c_region ?_
      refine o_as st rfl rfl ?_
      refine c_nil ?_
      refine l_then ?_
      refine c_ret ?_
      refine l_ret ?_
      exact l_end1 Tryd.results64 false () (rv_t rfl) (fun _ _ => NewCh.nil _ _ _ _)
    · refine c_skip ?_
      refine l_then ?_
      refine c_seq ?_
      refine c_draw mixed 8 rfl [cellCh b1 [(.int .i64 p_0.xBase), (.int .i64 p_0.xLength)] 36] ?_
      refine o_fad (dt 0 (fun _ m => m)) rfl rfl fld36_0 rfl ?_
      refine o_ldc (dt 1 (fun _ m => m)) (v := (.int .i64 p_0.xBase)) 0 rfl rfl rfl ty3 rfl ?_
      refine o_fad (dt 2 (fun _ m => m)) rfl rfl fld36_1 rfl ?_
      refine o_ldc (dt 3 (fun _ m => m)) (v := (.int .i64 p_0.xLength)) 0 rfl rfl rfl ty3 rfl ?_
      refine d_one (i := 4) rfl (by kernel_rfl) (o_callP (vs := [(.int .i64 p_0.xLength)]) Tryd.call65 rfl rfl (by intro w m h; exact (w_impl_hostMask (F := allB [] w) (length_0 := p_0.xLength) allB_ok h).mono (fun _ _ k => ret_free (fun r u => fr_nil) k)) ?_); rintro r65 _
      refine d_and (fun _ m => m) ?_
      refine o_and (dt 5 (fun _ m => m)) rfl rfl rfl ?_
      refine o_eql (dt 6 (fun _ m => m)) und3 rfl rfl rfl ?_
      refine o_as (dt 7 (fun _ m => m)) rfl rfl ?_
      refine d_done (by kernel_rfl) ?_
      refine l_then ?_
      refine c_ret ?_
      exact l_end1 Tryd.results64 (decide ((bits .and .i64 p_0.xBase r65) = 0)) () (rv_t rfl) (fun _ _ => NewCh.nil _ _ _ _)

set_option maxRecDepth 100000 in
set_option maxHeartbeats 8000000 in
theorem w_impl_PrefixSpan {w0 : World} {F : Nat → Prop} {p_0 : GPrefix} {κ : (GSpan × Bool) → Prop} (hF : ∀ b, F b → b < w0.heap.size ∧ ¬ feet [] b) (h : L_impl_PrefixSpan p_0 κ) :
    Calls Tryd.prog 43 #[(.agg #[(.int .i64 p_0.xBase), (.int .i64 p_0.xLength)])] w0 (Ret [] F w0 κ (fun (r : (GSpan × Bool)) (u : Unit) => .tuple #[(.agg #[(.int .i64 r.1.xLo), (.int .i64 r.1.xHi)]), (.bool r.2)]) (fun (r : (GSpan × Bool)) (u : Unit) => [])) := by
  refine enter0 (args := [(.agg #[(.int .i64 p_0.xBase), (.int .i64 p_0.xLength)])]) [] hF (Given.nil _ _) Tryd.func43 rfl Tryd.ntmps43 rfl h ?_
  clear h hF
  refine c_seq ?_
  refine c_region ?_
  refine stw (o_box rfl rfl [(.int .i64 p_0.xBase), (.int .i64 p_0.xLength)] rfl ?_); intro b1
  refine stw (o_alloc rfl [(.int .i64 0), (.int .i64 0)] zero74 ?_); intro b3
  refine o_as st rfl rfl ?_
  refine c_nil ?_
  refine l_then ?_
  refine c_seq ?_
  refine c_seq ?_
  refine c_region ?_
  refine o_ldc st (v := (.agg #[(.int .i64 p_0.xBase), (.int .i64 p_0.xLength)])) 1 rfl rfl rfl ty36 rfl ?_
  refine stw (o_callP (vs := [(.agg #[(.int .i64 p_0.xBase), (.int .i64 p_0.xLength)])]) Tryd.call64 rfl rfl (by intro w m h; exact (w_impl_PrefixValid (F := allB [] w) (p_0 := p_0) allB_ok h).mono (fun _ _ k => ret_free (fun r u => fr_nil) k)) ?_); rintro r5 _
  refine o_not st rfl rfl ?_
  refine c_nil ?_
  refine l_then ?_
  refine c_cond rfl ?_ ?_
  · refine c_seq ?_
    refine c_region ?_
    refine o_bld st (qs := []) (cells := [(.int .i64 0), (.int .i64 0)]) (by intro ρ h; simp only [List.map_toArray, List.map_cons, List.map_nil]) rfl bld74 rfl ?_
    refine stw (o_stc (cs' := [(.int .i64 0), (.int .i64 0)]) 0 rfl rfl rfl ty74 rfl rfl rfl rfl ?_)
    refine o_as st rfl rfl ?_
    refine c_nil ?_
    refine l_then ?_
    refine c_ret ?_
    refine l_ret ?_
    exact l_end2 Tryd.results43 ((GSpan.mk 0 0), false) () (rv_c 0 rfl rfl ty74 rfl) (rv_t rfl) rfl (fun _ _ => NewCh.nil _ _ _ _)
  · refine c_skip ?_
    refine l_then ?_
    refine c_seq ?_
    refine c_draw mixed 11 rfl [cellCh b1 [(.int .i64 p_0.xBase), (.int .i64 p_0.xLength)] 36] ?_
    refine o_fad (dt 0 (fun w m => m.pick [1] rfl)) rfl rfl fld36_0 rfl ?_
    refine o_ldc (dt 1 (fun w m => m.pick [1] rfl)) (v := (.int .i64 p_0.xBase)) 0 rfl rfl rfl ty3 rfl ?_
    refine o_fad (dt 2 (fun w m => m.pick [1] rfl)) rfl rfl fld36_0 rfl ?_
    refine o_ldc (dt 3 (fun w m => m.pick [1] rfl)) (v := (.int .i64 p_0.xBase)) 0 rfl rfl rfl ty3 rfl ?_
    refine o_fad (dt 4 (fun w m => m.pick [1] rfl)) rfl rfl fld36_1 rfl ?_
    refine o_ldc (dt 5 (fun w m => m.pick [1] rfl)) (v := (.int .i64 p_0.xLength)) 0 rfl rfl rfl ty3 rfl ?_
    refine d_one (i := 6) rfl (by kernel_rfl) (o_callP (vs := [(.int .i64 p_0.xLength)]) Tryd.call65 rfl rfl (by intro w m h; exact (w_impl_hostMask (F := allB [] w) (length_0 := p_0.xLength) allB_ok h).mono (fun _ _ k => ret_free (fun r u => fr_nil) k)) ?_); rintro r6 _
    refine d_and (fun w m => m.pick [1] rfl) ?_
    refine o_or (dt 7 (fun w m => m.pick [1] rfl)) rfl rfl rfl ?_
    refine o_bld (dt 8 (fun w m => m.pick [1] rfl)) (qs := [(0, (.int .i64 p_0.xBase)), (1, (.int .i64 (bits .or .i64 p_0.xBase r6)))]) (cells := [(.int .i64 p_0.xBase), (.int .i64 (bits .or .i64 p_0.xBase r6))]) (by intro ρ h; simp only [List.map_toArray, List.map_cons, List.map_nil, h (.tmp 9) _ rfl, h (.tmp 15) _ rfl]) rfl bld74 rfl ?_
    refine d_one (i := 9) rfl (by kernel_rfl) (o_stc (cs' := [(.int .i64 p_0.xBase), (.int .i64 (bits .or .i64 p_0.xBase r6))]) 0 rfl rfl rfl ty74 rfl rfl rfl rfl ?_)
    refine d_and (fun w m => m.pick [1] rfl) ?_
    refine o_as (dt 10 (fun w m => m.pick [1] rfl)) rfl rfl ?_
    refine d_done (by kernel_rfl) ?_
    refine l_then ?_
    refine c_ret ?_
    exact l_end2 Tryd.results43 ((GSpan.mk p_0.xBase (bits .or .i64 p_0.xBase r6)), true) () (rv_c 0 rfl rfl ty74 rfl) (rv_t rfl) rfl (fun _ _ => NewCh.nil _ _ _ _)

set_option maxRecDepth 100000 in
set_option maxHeartbeats 8000000 in
theorem w_cmp_isNaN_int {w0 : World} {F : Nat → Prop} {x_0 : Int} {κ : Bool → Prop} (hF : ∀ b, F b → b < w0.heap.size ∧ ¬ feet [] b) (h : L_cmp_isNaN_int x_0 κ) :
    Calls Tryd.prog 68 #[(.int .i64 x_0)] w0 (Ret [] F w0 κ (fun (r : Bool) (u : Unit) => (.bool r)) (fun (r : Bool) (u : Unit) => [])) := by
  refine enter0 (args := [(.int .i64 x_0)]) [] hF (Given.nil _ _) Tryd.func68 rfl Tryd.ntmps68 rfl h ?_
  clear h hF
  refine c_seq ?_
  refine c_region ?_
  refine o_as st rfl rfl ?_
  refine c_nil ?_
  refine l_then ?_
  refine c_seq ?_
  refine c_region ?_
  refine o_mv st rfl rfl ?_
  refine o_mv st rfl rfl ?_
  refine o_neq st und3 rfl rfl rfl ?_
  refine o_as st rfl rfl ?_
  refine c_nil ?_
  refine l_then ?_
  refine c_ret ?_
  exact l_end1 Tryd.results68 (!(decide (x_0 = x_0))) () (rv_t rfl) (fun _ _ => NewCh.nil _ _ _ _)

set_option maxRecDepth 100000 in
set_option maxHeartbeats 8000000 in
theorem w_cmp_Compare_int {w0 : World} {F : Nat → Prop} {x_0 : Int} {y_1 : Int} {κ : Int → Prop} (hF : ∀ b, F b → b < w0.heap.size ∧ ¬ feet [] b) (h : L_cmp_Compare_int x_0 y_1 κ) :
    Calls Tryd.prog 46 #[(.int .i64 x_0), (.int .i64 y_1)] w0 (Ret [] F w0 κ (fun (r : Int) (u : Unit) => (.int .i64 r)) (fun (r : Int) (u : Unit) => [])) := by
  refine enter0 (args := [(.int .i64 x_0), (.int .i64 y_1)]) [] hF (Given.nil _ _) Tryd.func46 rfl Tryd.ntmps46 rfl h ?_
  clear h hF
  refine c_seq ?_
  refine c_region ?_
  refine o_as st rfl rfl ?_
  refine c_nil ?_
  refine l_then ?_
  refine c_seq ?_
  refine c_region ?_
  refine o_mv st rfl rfl ?_
  refine stw (o_callP (vs := [(.int .i64 x_0)]) Tryd.call68 rfl rfl (by intro w m h; exact (w_cmp_isNaN_int (F := allB [] w) (x_0 := x_0) allB_ok h).mono (fun _ _ k => ret_free (fun r u => fr_nil) k)) ?_); rintro r1 _
  refine o_as st rfl rfl ?_
  refine c_nil ?_
  refine l_then ?_
  refine c_seq ?_
  refine c_region ?_
  refine o_mv st rfl rfl ?_
  refine stw (o_callP (vs := [(.int .i64 y_1)]) Tryd.call68 rfl rfl (by intro w m h; exact (w_cmp_isNaN_int (F := allB [] w) (x_0 := y_1) allB_ok h).mono (fun _ _ k => ret_free (fun r u => fr_nil) k)) ?_); rintro r2 _
  refine o_as st rfl rfl ?_
  refine c_nil ?_
  refine l_then ?_
  refine c_seq ?_
  refine c_seq ?_
  refine c_region ?_
  refine o_mv st rfl rfl ?_
  refine c_nil ?_
  refine l_then ?_
  refine c_cond rfl ?_ ?_
  · refine c_seq ?_
    refine c_seq ?_
    refine c_region ?_
    refine o_mv st rfl rfl ?_
    refine c_nil ?_
    refine l_then ?_
    refine c_cond rfl ?_ ?_
    · refine c_seq ?_
      refine c_region ?_
      refine o_as st rfl rfl ?_
      refine c_nil ?_
      refine l_then ?_
      refine c_ret ?_
      refine l_ret ?_
      refine l_ret ?_
      exact l_end1 Tryd.results46 0 () (rv_t rfl) (fun _ _ => NewCh.nil _ _ _ _)
    · refine c_skip ?_
      refine l_then ?_
      refine c_seq ?_
      refine c_region ?_
      refine o_as st rfl rfl ?_
      refine c_nil ?_
      refine l_then ?_
      refine c_ret ?_
      refine l_ret ?_
      exact l_end1 Tryd.results46 (-1) () (rv_t rfl) (fun _ _ => NewCh.nil _ _ _ _)
  · refine c_skip ?_
    refine l_then ?_
    refine c_seq ?_
    refine c_seq ?_
    refine c_region ?_
    refine o_mv st rfl rfl ?_
    refine c_nil ?_
    refine l_then ?_
    refine c_cond rfl ?_ ?_
    · refine c_seq ?_
      refine c_region ?_
      refine o_as st rfl rfl ?_
      refine c_nil ?_
      refine l_then ?_
      refine c_ret ?_
      refine l_ret ?_
      exact l_end1 Tryd.results46 1 () (rv_t rfl) (fun _ _ => NewCh.nil _ _ _ _)
    · refine c_skip ?_
      refine l_then ?_
      refine c_seq ?_
      refine c_seq ?_
      refine c_region ?_
      refine o_mv st rfl rfl ?_
      refine o_mv st rfl rfl ?_
      refine o_lss st rfl rfl rfl ?_
      refine c_nil ?_
      refine l_then ?_
      refine c_cond rfl ?_ ?_
      · refine c_seq ?_
        refine c_region ?_
        refine o_as st rfl rfl ?_
        refine c_nil ?_
        refine l_then ?_
        refine c_ret ?_
        refine l_ret ?_
        exact l_end1 Tryd.results46 (-1) () (rv_t rfl) (fun _ _ => NewCh.nil _ _ _ _)
      · refine c_skip ?_
        refine l_then ?_
        refine c_seq ?_
        refine c_seq ?_
        refine c_region ?_
        refine o_mv st rfl rfl ?_
        refine o_mv st rfl rfl ?_
        refine o_gtr st rfl rfl rfl ?_
        refine c_nil ?_
        refine l_then ?_
        refine c_cond rfl ?_ ?_
        · refine c_seq ?_
          refine c_region ?_
          refine o_as st rfl rfl ?_
          refine c_nil ?_
          refine l_then ?_
          refine c_ret ?_
          refine l_ret ?_
          exact l_end1 Tryd.results46 1 () (rv_t rfl) (fun _ _ => NewCh.nil _ _ _ _)
        · refine c_skip ?_
          refine l_then ?_
          refine c_seq ?_
          refine c_region ?_
          refine o_as st rfl rfl ?_
          refine c_nil ?_
          refine l_then ?_
          refine c_ret ?_
          exact l_end1 Tryd.results46 0 () (rv_t rfl) (fun _ _ => NewCh.nil _ _ _ _)

set_option maxRecDepth 100000 in
set_option maxHeartbeats 8000000 in
theorem w_impl_RewritesValid {w0 : World} {F : Nat → Prop} {v1 : Value} {list_0 : (List GRewrite)} {κ : Bool → Prop} (hF : ∀ b, F b → b < w0.heap.size ∧ ¬ feet [] b) (hv1 : Sl elGRewrite F w0 v1 list_0) (h : L_impl_RewritesValid list_0 κ) :
    Calls Tryd.prog 22 #[v1] w0 (Ret [] F w0 κ (fun (r : Bool) (u : Unit) => (.bool r)) (fun (r : Bool) (u : Unit) => [])) := by
  refine enterS (args := [v1]) [] hF (Given.nil _ _) Tryd.func22 rfl Tryd.ntmps22 rfl h ?_
  clear h hF
  refine c_seq ?_
  refine c_region ?_
  refine o_as st rfl rfl ?_
  refine c_nil ?_
  refine l_then ?_
  refine c_seq ?_
  refine c_seq ?_
  refine c_region ?_
  refine o_mv st rfl rfl ?_
  refine o_len st el28 0 rfl (reads_snap hv1) rfl rfl ?_
  refine o_gtr st rfl rfl rfl ?_
  refine c_nil ?_
  refine l_then ?_
  refine c_cond rfl ?_ ?_
  · refine c_seq ?_
    refine c_region ?_
    refine o_as st rfl rfl ?_
    refine c_nil ?_
    refine l_then ?_
    refine c_ret ?_
    refine l_ret ?_
    exact l_end1 Tryd.results22 false () (rv_t rfl) (fun _ _ => NewCh.nil _ _ _ _)
  · refine c_skip ?_
    refine l_then ?_
    refine c_seq ?_
    refine c_region ?_
    refine o_mv st rfl rfl ?_
    refine o_len st el28 0 rfl (reads_snap hv1) rfl rfl ?_
    refine o_mul st rfl rfl rfl ?_; intro t3
    refine stw (o_make (z := (GSpan.mk 0 0)) flelGSpan rfl rfl rfl el50 rfl zero74 rfl rfl ?_); intro v4 xs5
    refine o_as st rfl rfl ?_
    refine c_nil ?_
    refine l_then ?_
    refine c_seq ?_
    refine c_seq ?_
    refine c_region ?_
    refine o_mv st rfl rfl ?_
    refine o_len st el28 1 rfl (reads_snap hv1) rfl rfl ?_
    refine o_mv st rfl rfl ?_
    refine c_nil ?_
    refine l_then ?_
    refine c_block ?_
    refine c_loop (σ := ((List GSpan) × Int)) (fun ((xs8, t11) : ((List GSpan) × Int)) (a : Act) (w : World) => ∃ (v7 : Value), Has 77 [(3, v7), (18, v1), (19, (.int .i64 (list_0.length : Int))), (20, (.int .i64 t11))] a ∧ Mem (gB F [] w0) (feet []) w0 [snapCh w0 F, ownCh elGSpan 74 v7 xs8] w) (fun a w hE hm => ⟨v4, hE.sub ⟨rfl, rfl, rfl, rfl, trivial⟩, (hm.pick [1, 0] rfl)⟩) ?_
    rintro nx12 ⟨xs8, t11⟩ a w ⟨v7, hE, hm⟩ h
    refine nx_of hE hm h ?_
    clear hE hm h
    refine c_seq ?_
    refine c_region ?_
    refine o_lss st rfl rfl rfl ?_
    refine c_nil ?_
    refine l_then ?_
    refine c_seq ?_
    refine c_cond rfl ?_ ?_
    · refine c_skip ?_
      refine l_then ?_
      refine c_seq ?_
      refine c_block ?_
      refine c_seq ?_
      refine c_region ?_
      refine o_idx st 0 rfl (reads_snap hv1) rfl rfl rfl el28 ?_; intro e13 h14
      refine o_lds st (enc := encGRewrite) (u := (.agg #[(.int .i64 e13.xInside.xBase), (.int .i64 e13.xInside.xLength), (.int .i64 e13.xOutside.xBase), (.int .i64 e13.xOutside.xLength)])) 0 rfl (reads_snap hv1) flelGRewrite rfl h14 rfl rfl ty38 rfl ?_
      refine stw (o_alloc rfl [(.int .i64 0), (.int .i64 0), (.int .i64 0), (.int .i64 0)] zero38 ?_); intro b15
      refine stw (o_stc (cs' := [(.int .i64 e13.xInside.xBase), (.int .i64 e13.xInside.xLength), (.int .i64 e13.xOutside.xBase), (.int .i64 e13.xOutside.xLength)]) 0 rfl rfl rfl ty38 rfl rfl rfl rfl ?_)
      refine c_nil ?_
      refine l_then ?_
      refine c_seq ?_
      refine c_region ?_
      refine o_fad st rfl rfl fld38_0 rfl ?_
      refine o_ldc st (v := (.agg #[(.int .i64 e13.xInside.xBase), (.int .i64 e13.xInside.xLength)])) 0 rfl rfl rfl ty36 rfl ?_
      refine stw (o_callP (vs := [(.agg #[(.int .i64 e13.xInside.xBase), (.int .i64 e13.xInside.xLength)])]) Tryd.call43 rfl rfl (by intro w m h; exact (w_impl_PrefixSpan (F := allB [] w) (p_0 := e13.xInside) allB_ok h).mono (fun _ _ k => ret_free (fun r u => fr_nil) k)) ?_); rintro ⟨r17, r18⟩ _
      refine o_mv st rfl rfl ?_
      refine o_ext st (vs := [(.agg #[(.int .i64 r17.xLo), (.int .i64 r17.xHi)]), (.bool r18)]) rfl rfl rfl ?_
      refine o_ext st (vs := [(.agg #[(.int .i64 r17.xLo), (.int .i64 r17.xHi)]), (.bool r18)]) rfl rfl rfl ?_
      refine stw (o_alloc rfl [(.int .i64 0), (.int .i64 0)] zero74 ?_); intro b19
      refine stw (o_stc (cs' := [(.int .i64 r17.xLo), (.int .i64 r17.xHi)]) 0 rfl rfl rfl ty74 rfl rfl rfl rfl ?_)
      refine o_as st rfl rfl ?_
      refine c_nil ?_
      refine l_then ?_
      refine c_seq ?_
      refine c_region ?_
      refine o_fad st rfl rfl fld38_1 rfl ?_
      refine o_ldc st (v := (.agg #[(.int .i64 e13.xOutside.xBase), (.int .i64 e13.xOutside.xLength)])) 1 rfl rfl rfl ty36 rfl ?_
      refine stw (o_callP (vs := [(.agg #[(.int .i64 e13.xOutside.xBase), (.int .i64 e13.xOutside.xLength)])]) Tryd.call43 rfl rfl (by intro w m h; exact (w_impl_PrefixSpan (F := allB [] w) (p_0 := e13.xOutside) allB_ok h).mono (fun _ _ k => ret_free (fun r u => fr_nil) k)) ?_); rintro ⟨r21, r22⟩ _
      refine o_mv st rfl rfl ?_
      refine o_ext st (vs := [(.agg #[(.int .i64 r21.xLo), (.int .i64 r21.xHi)]), (.bool r22)]) rfl rfl rfl ?_
      refine o_ext st (vs := [(.agg #[(.int .i64 r21.xLo), (.int .i64 r21.xHi)]), (.bool r22)]) rfl rfl rfl ?_
      refine stw (o_alloc rfl [(.int .i64 0), (.int .i64 0)] zero74 ?_); intro b23
      refine stw (o_stc (cs' := [(.int .i64 r21.xLo), (.int .i64 r21.xHi)]) 0 rfl rfl rfl ty74 rfl rfl rfl rfl ?_)
      refine o_as st rfl rfl ?_
      refine c_nil ?_
      refine l_then ?_
      refine c_seq ?_
      refine c_join (σ := Bool) (fun (t85 : Bool) (a : Act) (w : World) => Has 77 [(3, v7), (18, v1), (19, (.int .i64 (list_0.length : Int))), (20, (.int .i64 t11)), (6, (.pointer (some ⟨b19, 0, none⟩))), (8, (.pointer (some ⟨b23, 0, none⟩))), (50, (.bool t85))] a ∧ Mem (gB F [] w0) (feet []) w0 [cellCh b23 [(.int .i64 r21.xLo), (.int .i64 r21.xHi)] 74, cellCh b19 [(.int .i64 r17.xLo), (.int .i64 r17.xHi)] 74, ownCh elGSpan 74 v7 xs8, snapCh w0 F] w) ?_ ?_
      · intro k86
        refine c_region ?_
        refine o_mv st rfl rfl ?_
        refine o_not st rfl rfl ?_
        refine o_mv st rfl rfl ?_
        refine st_sp (dj := 38) rfl ?_ ?_
        · refine st_s rfl rfl rfl rfl ?_
          refine st_s rfl rfl rfl rfl ?_
          refine o_pickT st rfl rfl rfl ?_
          refine o_mv st rfl rfl ?_
          refine st_s rfl rfl rfl rfl ?_
          refine st_s rfl rfl rfl rfl ?_
          refine st_s rfl rfl rfl rfl ?_
          refine st_s rfl rfl rfl rfl ?_
          refine st_s rfl rfl rfl rfl ?_
          refine st_s rfl rfl rfl rfl ?_
          refine st_s rfl rfl rfl rfl ?_
          refine o_pickT st rfl rfl rfl ?_
          refine c_nil ?_
          exact l_join true (fun a w hE hm => ⟨hE.sub ⟨rfl, rfl, rfl, rfl, rfl, rfl, rfl, trivial⟩, (hm.pick [0, 1, 4, 3] rfl)⟩)
        · refine o_mv (st_g rfl rfl) rfl rfl ?_
          refine o_not (st_g rfl rfl) rfl rfl ?_
          refine o_pickF st rfl rfl rfl ?_
          refine o_mv st rfl rfl ?_
          refine st_sp (dj := 42) rfl ?_ ?_
          · refine st_s rfl rfl rfl rfl ?_
            refine st_s rfl rfl rfl rfl ?_
            refine st_s rfl rfl rfl rfl ?_
            refine st_s rfl rfl rfl rfl ?_
            refine st_s rfl rfl rfl rfl ?_
            refine st_s rfl rfl rfl rfl ?_
            refine st_s rfl rfl rfl rfl ?_
            refine o_pickT st rfl rfl rfl ?_
            refine c_nil ?_
            exact l_join true (fun a w hE hm => ⟨hE.sub ⟨rfl, rfl, rfl, rfl, rfl, rfl, rfl, trivial⟩, (hm.pick [0, 1, 4, 3] rfl)⟩)
          · refine o_fad (st_g rfl rfl) rfl rfl fld38_0 rfl ?_
            refine o_fad (st_g rfl rfl) rfl rfl fld36_1 rfl ?_
            refine o_ldc (st_g rfl rfl) (v := (.int .i64 e13.xInside.xLength)) 2 rfl rfl rfl ty3 rfl ?_
            refine o_fad (st_g rfl rfl) rfl rfl fld38_1 rfl ?_
            refine o_fad (st_g rfl rfl) rfl rfl fld36_1 rfl ?_
            refine o_ldc (st_g rfl rfl) (v := (.int .i64 e13.xOutside.xLength)) 2 rfl rfl rfl ty3 rfl ?_
            refine o_neq (st_g rfl rfl) und3 rfl rfl rfl ?_
            refine o_pickF st rfl rfl rfl ?_
            refine c_nil ?_
            exact l_join (!(decide (e13.xInside.xLength = e13.xOutside.xLength))) (fun a w hE hm => ⟨hE.sub ⟨rfl, rfl, rfl, rfl, rfl, rfl, rfl, trivial⟩, (hm.pick [0, 1, 4, 3] rfl)⟩)
      · rintro t85 a w ⟨hE, hm⟩ h
        refine nx_of hE hm h ?_
        clear hE hm h
        refine c_cond rfl ?_ ?_
        · refine c_seq ?_
          refine c_region ?_
          refine o_as st rfl rfl ?_
          refine c_nil ?_
          refine l_then ?_
          refine c_ret ?_
          refine l_ret ?_
          refine b_ret ?_
          refine l_ret ?_
          refine l_ret ?_
          refine b_ret ?_
          refine l_ret ?_
          exact l_end1 Tryd.results22 false () (rv_t rfl) (fun _ _ => NewCh.nil _ _ _ _)
        · refine c_skip ?_
          refine l_then ?_
          refine c_region ?_
          refine o_mv st rfl rfl ?_
          refine o_ldc st (v := (.agg #[(.int .i64 r17.xLo), (.int .i64 r17.xHi)])) 1 rfl rfl rfl ty74 rfl ?_
          refine o_ldc st (v := (.agg #[(.int .i64 r21.xLo), (.int .i64 r21.xHi)])) 0 rfl rfl rfl ty74 rfl ?_
          refine stw (o_bsl (enc := encGSpan) (qs := [(0, (.agg #[(.int .i64 r17.xLo), (.int .i64 r17.xHi)])), (1, (.agg #[(.int .i64 r21.xLo), (.int .i64 r21.xHi)]))]) (cells := [(.int .i64 r17.xLo), (.int .i64 r17.xHi), (.int .i64 r21.xLo), (.int .i64 r21.xHi)]) ([r17, r21]) flelGSpan (by intro ρ h; simp only [List.map_toArray, List.map_cons, List.map_nil, h (.tmp 52) _ rfl, h (.tmp 53) _ rfl]) rfl el50 zero74 rfl rfl rfl rfl rfl rfl ?_); intro v87
          refine stw (o_app 3 0 rfl rfl (src_flat flelGSpan reads_own) rfl rfl rfl el50 rfl zero74 rfl rfl ?_); intro v89
          refine o_as st rfl rfl ?_
          refine c_nil ?_
          refine b_norm ?_
          refine l_then ?_
          refine c_region ?_
          refine o_add st rfl rfl rfl ?_; intro t91
          refine o_mv st rfl rfl ?_
          refine c_nil ?_
          exact l_join ((xs8 ++ ([r17, r21])), t91) (fun a w hE hm => ⟨v89, hE.sub ⟨rfl, rfl, rfl, rfl, trivial⟩, (hm.pick [4, 3] rfl)⟩)
    · refine c_exit ?_
      refine l_exit ?_
      refine l_exit ?_
      refine b_exit ?_
      refine l_then ?_
      refine c_seq ?_
      refine c_region ?_
      refine o_mv st rfl rfl ?_
      refine pk [1, 0] rfl ?_
      refine stw (o_call (vs := [v7, (.func (.func 45) #[] #[])]) (M0 := [ownCh elGSpan 74 v7 xs8]) Tryd.call44 rfl rfl (by intro w m h; exact (w_srt_GSpan (F := allB [ownCh elGSpan 74 v7 xs8] w) (xs := xs8) allB_ok m.given h).mono (fun _ _ k => ret_free (fun r u => (fr_cons (free_own flelGSpan) fr_nil)) k)) ?_); rintro r92 _
      refine c_nil ?_
      refine l_then ?_
      refine c_seq ?_
      refine c_seq ?_
      refine c_region ?_
      refine o_as st rfl rfl ?_
      refine c_nil ?_
      refine l_then ?_
      refine c_block ?_
      refine c_loop (σ := Int) (fun (t94 : Int) (a : Act) (w : World) => Has 77 [(3, v7), (10, (.int .i64 t94))] a ∧ Mem (gB F [] w0) (feet []) w0 [ownCh elGSpan 74 v7 r92] w) (fun a w hE hm => ⟨hE.sub ⟨rfl, rfl, trivial⟩, (hm.pick [0] rfl)⟩) ?_
      rintro nx95 t94 a w ⟨hE, hm⟩ h
      refine nx_of hE hm h ?_
      clear hE hm h
      refine c_seq ?_
      refine c_seq ?_
      refine c_region ?_
      refine o_mv st rfl rfl ?_
      refine o_mv st rfl rfl ?_
      refine o_len st el50 0 rfl reads_own rfl rfl ?_
      refine o_lss st rfl rfl rfl ?_
      refine c_nil ?_
      refine l_then ?_
      refine c_cond rfl ?_ ?_
      · refine c_skip ?_
        refine l_then ?_
        refine c_seq ?_
        refine c_block ?_
        refine c_seq ?_
        refine c_draw mixed 12 rfl [ownCh elGSpan 74 v7 r92] ?_
        refine o_mv (dt 0 (fun _ m => m)) rfl rfl ?_
        refine o_mv (dt 1 (fun _ m => m)) rfl rfl ?_
        refine o_idx (dt 2 (fun _ m => m)) 0 rfl reads_own rfl rfl rfl el50 ?_; intro e96 h97
        refine o_fadS (dt 3 (fun _ m => m)) 0 rfl reads_own h97 rfl rfl fld74_0 rfl ?_
        refine o_lds (dt 4 (fun _ m => m)) (enc := encGSpan) (u := (.int .i64 e96.xLo)) 0 rfl reads_own flelGSpan rfl h97 rfl rfl ty3 rfl ?_
        refine o_mv (dt 5 (fun _ m => m)) rfl rfl ?_
        refine o_mv (dt 6 (fun _ m => m)) rfl rfl ?_
        refine o_sub (dt 7 (fun _ m => m)) rfl rfl rfl ?_; intro t98
        refine o_idx (dt 8 (fun _ m => m)) 0 rfl reads_own rfl rfl rfl el50 ?_; intro e99 h100
        refine o_fadS (dt 9 (fun _ m => m)) 0 rfl reads_own h100 rfl rfl fld74_1 rfl ?_
        refine o_lds (dt 10 (fun _ m => m)) (enc := encGSpan) (u := (.int .i64 e99.xHi)) 0 rfl reads_own flelGSpan rfl h100 rfl rfl ty3 rfl ?_
        refine o_leq (dt 11 (fun _ m => m)) rfl rfl rfl ?_
        refine d_done (by kernel_rfl) ?_
        refine l_then ?_
        refine c_cond rfl ?_ ?_
        · refine c_seq ?_
          refine c_region ?_
          refine o_as st rfl rfl ?_
          refine c_nil ?_
          refine l_then ?_
          refine c_ret ?_
          refine b_ret ?_
          refine l_ret ?_
          refine l_ret ?_
          refine b_ret ?_
          refine l_ret ?_
          exact l_end1 Tryd.results22 false () (rv_t rfl) (fun _ _ => NewCh.nil _ _ _ _)
        · refine c_skip ?_
          refine b_norm ?_
          refine l_then ?_
          refine c_region ?_
          refine o_mv st rfl rfl ?_
          refine o_add st rfl rfl rfl ?_; intro t101
          refine o_as st rfl rfl ?_
          refine c_nil ?_
          exact l_join t101 (fun a w hE hm => ⟨hE.sub ⟨rfl, rfl, trivial⟩, (hm.pick [0] rfl)⟩)
      · refine c_exit ?_
        refine l_exit ?_
        refine l_exit ?_
        refine b_exit ?_
        refine l_then ?_
        refine c_seq ?_
        refine c_region ?_
        refine o_as st rfl rfl ?_
        refine c_nil ?_
        refine l_then ?_
        refine c_ret ?_
        exact l_end1 Tryd.results22 true () (rv_t rfl) (fun _ _ => NewCh.nil _ _ _ _)

set_option maxRecDepth 100000 in
set_option maxHeartbeats 8000000 in
theorem w_impl_Packet_fields {w0 : World} {F : Nat → Prop} {p_0 : GPacket} {κ : A4Int → Prop} (hF : ∀ b, F b → b < w0.heap.size ∧ ¬ feet [] b) (h : L_impl_Packet_fields p_0 κ) :
    Calls Tryd.prog 54 #[(.agg #[(.int .i64 p_0.xFrom), (.int .i64 p_0.xTo), (.int .i64 p_0.xPort), (.int .i64 p_0.xProto)])] w0 (Ret [] F w0 κ (fun (r : A4Int) (u : Unit) => (.agg #[(.int .i64 r.x0), (.int .i64 r.x1), (.int .i64 r.x2), (.int .i64 r.x3)])) (fun (r : A4Int) (u : Unit) => [])) := by
  refine enter0 (args := [(.agg #[(.int .i64 p_0.xFrom), (.int .i64 p_0.xTo), (.int .i64 p_0.xPort), (.int .i64 p_0.xProto)])]) [] hF (Given.nil _ _) Tryd.func54 rfl Tryd.ntmps54 rfl h ?_
  clear h hF
  refine c_seq ?_
  refine c_region ?_
  refine stw (o_box rfl rfl [(.int .i64 p_0.xFrom), (.int .i64 p_0.xTo), (.int .i64 p_0.xPort), (.int .i64 p_0.xProto)] rfl ?_); intro b1
  refine stw (o_allocA (El' := elInt) (z := (0 : Int)) (len := 4) (zs := [(.int .i64 0)]) (fun F w => (flelInt _ _ _ _).2 rfl) rfl zero88 rfl rfl ?_); intro b3
  refine c_nil ?_
  refine l_then ?_
  refine c_seq ?_
  refine c_region ?_
  refine o_fad st rfl rfl fld26_0 rfl ?_
  refine o_ldc st (v := (.int .i64 p_0.xFrom)) 1 rfl rfl rfl ty3 rfl ?_
  refine o_fad st rfl rfl fld26_1 rfl ?_
  refine o_ldc st (v := (.int .i64 p_0.xTo)) 1 rfl rfl rfl ty3 rfl ?_
  refine o_fad st rfl rfl fld26_2 rfl ?_
  refine o_ldc st (v := (.int .i64 p_0.xPort)) 1 rfl rfl rfl ty3 rfl ?_
  refine o_fad st rfl rfl fld26_3 rfl ?_
  refine o_ldc st (v := (.int .i64 p_0.xProto)) 1 rfl rfl rfl ty3 rfl ?_
  refine o_bldA st (qs := [(0, (.int .i64 p_0.xFrom)), (1, (.int .i64 p_0.xTo)), (2, (.int .i64 p_0.xPort)), (3, (.int .i64 p_0.xProto))]) (cells := [(.int .i64 p_0.xFrom), (.int .i64 p_0.xTo), (.int .i64 p_0.xPort), (.int .i64 p_0.xProto)]) (by intro ρ h; simp only [List.map_toArray, List.map_cons, List.map_nil, h (.tmp 4) _ rfl, h (.tmp 6) _ rfl, h (.tmp 8) _ rfl, h (.tmp 10) _ rfl]) rfl bld88 rfl ?_
  refine stw (o_stA (El' := elInt) (len := 4) 0 rfl ([p_0.xFrom, p_0.xTo, p_0.xPort, p_0.xProto]) ([[(.int .i64 p_0.xFrom)], [(.int .i64 p_0.xTo)], [(.int .i64 p_0.xPort)], [(.int .i64 p_0.xProto)]]) (fun w m => ⟨(flelInt _ _ _ _).2 rfl, (flelInt _ _ _ _).2 rfl, (flelInt _ _ _ _).2 rfl, (flelInt _ _ _ _).2 rfl, trivial⟩) rfl rfl rfl rfl rfl rfl ty88 rfl rfl ?_)
  refine c_nil ?_
  refine l_then ?_
  refine c_ret ?_
  refine nx_unarr 0 rfl rfl rfl (by decide) ?_
  rintro wr6 ff7 _ hrows_; obtain ⟨rfl⟩ := rows_f4 flelInt hrows_
  exact l_end1 Tryd.results54 (A4Int.mk p_0.xFrom p_0.xTo p_0.xPort p_0.xProto) () (rv_c 1 rfl rfl ty88 rfl) (fun _ _ => NewCh.nil _ _ _ _)

set_option maxRecDepth 100000 in
set_option maxHeartbeats 8000000 in
theorem w_impl_FieldTop {w0 : World} {F : Nat → Prop} {n_0 : Int} {κ : Int → Prop} (hF : ∀ b, F b → b < w0.heap.size ∧ ¬ feet [] b) (hgl0 : Sl elGFieldShape F w0 (.slice (some ⟨0, 0, none⟩) 4 4) gl_impl_fieldShapes) (h : L_impl_FieldTop n_0 κ) :
    Calls Tryd.prog 55 #[(.int .i64 n_0)] w0 (Ret [] F w0 κ (fun (r : Int) (u : Unit) => (.int .i64 r)) (fun (r : Int) (u : Unit) => [])) := by
  refine enterS (args := [(.int .i64 n_0)]) [] hF (Given.nil _ _) Tryd.func55 rfl Tryd.ntmps55 rfl h ?_
  clear h hF
  refine c_seq ?_
  refine c_region ?_
  refine o_as st rfl rfl ?_
  refine c_nil ?_
  refine l_then ?_
  refine c_seq ?_
  refine c_join (σ := Bool) (fun (t61 : Bool) (a : Act) (w : World) => Has 13 [(0, (.int .i64 n_0)), (8, (.bool t61))] a ∧ Mem (gB F [] w0) (feet []) w0 [snapCh w0 F] w) ?_ ?_
  · intro k62
    refine c_region ?_
    refine o_mv st rfl rfl ?_
    refine o_lss st rfl rfl rfl ?_
    refine o_mv st rfl rfl ?_
    refine st_sp (dj := 5) rfl ?_ ?_
    · refine st_s rfl rfl rfl rfl ?_
      refine st_s rfl rfl rfl rfl ?_
      refine o_pickT st rfl rfl rfl ?_
      refine c_nil ?_
      exact l_join true (fun a w hE hm => ⟨hE.sub ⟨rfl, rfl, trivial⟩, (hm.pick [0] rfl)⟩)
    · refine o_mv (st_g rfl rfl) rfl rfl ?_
      refine o_geq (st_g rfl rfl) rfl rfl rfl ?_
      refine o_pickF st rfl rfl rfl ?_
      refine c_nil ?_
      exact l_join (decide (4 ≤ n_0)) (fun a w hE hm => ⟨hE.sub ⟨rfl, rfl, trivial⟩, (hm.pick [0] rfl)⟩)
  · rintro t61 a w ⟨hE, hm⟩ h
    refine nx_of hE hm h ?_
    clear hE hm h
    refine c_cond rfl ?_ ?_
    · refine c_seq ?_
      refine c_region ?_
      refine o_as st rfl rfl ?_
      refine c_nil ?_
      refine l_then ?_
      refine c_ret ?_
      refine l_ret ?_
      exact l_end1 Tryd.results55 (-1) () (rv_t rfl) (fun _ _ => NewCh.nil _ _ _ _)
    · refine c_skip ?_
      refine l_then ?_
      refine c_seq ?_
      refine c_region ?_
      refine o_mv st rfl rfl ?_
      refine o_ixa st 0 rfl (reads_snap hgl0) rfl rfl rfl arr112 ?_; intro e63 h64
      refine o_fadS st 0 rfl (reads_snap hgl0) h64 rfl rfl fld111_1 rfl ?_
      refine o_lds st (enc := encGFieldShape) (u := (.int .i64 e63.xTop)) 0 rfl (reads_snap hgl0) flelGFieldShape rfl h64 rfl rfl ty3 rfl ?_
      refine o_as st rfl rfl ?_
      refine c_nil ?_
      refine l_then ?_
      refine c_ret ?_
      exact l_end1 Tryd.results55 e63.xTop () (rv_t rfl) (fun _ _ => NewCh.nil _ _ _ _)

set_option maxRecDepth 100000 in
set_option maxHeartbeats 8000000 in
theorem w_impl_PacketValid {w0 : World} {F : Nat → Prop} {p_0 : GPacket} {κ : Bool → Prop} (hF : ∀ b, F b → b < w0.heap.size ∧ ¬ feet [] b) (hgl0 : Sl elGFieldShape F w0 (.slice (some ⟨0, 0, none⟩) 4 4) gl_impl_fieldShapes) (h : L_impl_PacketValid p_0 κ) :
    Calls Tryd.prog 33 #[(.agg #[(.int .i64 p_0.xFrom), (.int .i64 p_0.xTo), (.int .i64 p_0.xPort), (.int .i64 p_0.xProto)])] w0 (Ret [] F w0 κ (fun (r : Bool) (u : Unit) => (.bool r)) (fun (r : Bool) (u : Unit) => [])) := by
  refine enterS (args := [(.agg #[(.int .i64 p_0.xFrom), (.int .i64 p_0.xTo), (.int .i64 p_0.xPort), (.int .i64 p_0.xProto)])]) [] hF (Given.nil _ _) Tryd.func33 rfl Tryd.ntmps33 rfl h ?_
  clear h hF
  refine c_seq ?_
  refine c_region ?_
  refine stw (o_box rfl rfl [(.int .i64 p_0.xFrom), (.int .i64 p_0.xTo), (.int .i64 p_0.xPort), (.int .i64 p_0.xProto)] rfl ?_); intro b1
  refine o_as st rfl rfl ?_
  refine c_nil ?_
  refine l_then ?_
  refine c_seq ?_
  refine c_seq ?_
  refine c_region ?_
  refine o_ldc st (v := (.agg #[(.int .i64 p_0.xFrom), (.int .i64 p_0.xTo), (.int .i64 p_0.xPort), (.int .i64 p_0.xProto)])) 0 rfl rfl rfl ty26 rfl ?_
  refine stw (o_callP (vs := [(.agg #[(.int .i64 p_0.xFrom), (.int .i64 p_0.xTo), (.int .i64 p_0.xPort), (.int .i64 p_0.xProto)])]) Tryd.call54 rfl rfl (by intro w m h; exact (w_impl_Packet_fields (F := allB [] w) (p_0 := p_0) allB_ok h).mono (fun _ _ k => ret_free (fun r u => fr_nil) k)) ?_); rintro r3 _
  refine o_mv st rfl rfl ?_
  refine c_nil ?_
  refine l_then ?_
  refine c_block ?_
  refine c_loop (σ := Int) (fun (t4 : Int) (a : Act) (w : World) => Has 20 [(6, (.agg #[(.int .i64 r3.x0), (.int .i64 r3.x1), (.int .i64 r3.x2), (.int .i64 r3.x3)])), (7, (.int .i64 t4))] a ∧ Mem (gB F [] w0) (feet []) w0 [snapCh w0 F] w) (fun a w hE hm => ⟨hE.sub ⟨rfl, rfl, trivial⟩, (hm.pick [1] rfl)⟩) ?_
  rintro nx5 t4 a w ⟨hE, hm⟩ h
  refine nx_of hE hm h ?_
  clear hE hm h
  refine c_seq ?_
  refine c_region ?_
  refine o_lss st rfl rfl rfl ?_
  refine c_nil ?_
  refine l_then ?_
  refine c_seq ?_
  refine c_cond rfl ?_ ?_
  · refine c_skip ?_
    refine l_then ?_
    refine c_seq ?_
    refine c_block ?_
    refine c_seq ?_
    refine c_region ?_
    refine o_mv st rfl rfl ?_
    refine o_ixv st (enc := encInt) (zs := [r3.x0, r3.x1, r3.x2, r3.x3]) (u := fun (e6 : Int) => (.int .i64 e6)) rfl rfl rfl arr88 rfl rfl (fun _ => rfl) (fun _ => rfl) ?_; intro e6
    refine o_as st rfl rfl ?_
    refine o_as st rfl rfl ?_
    refine c_nil ?_
    refine l_then ?_
    refine c_join (σ := Bool) (fun (t68 : Bool) (a : Act) (w : World) => Has 20 [(6, (.agg #[(.int .i64 r3.x0), (.int .i64 r3.x1), (.int .i64 r3.x2), (.int .i64 r3.x3)])), (7, (.int .i64 t4)), (18, (.bool t68))] a ∧ Mem (gB F [] w0) (feet []) w0 [snapCh w0 F] w) ?_ ?_
    · intro k69
      refine c_region ?_
      refine o_mv st rfl rfl ?_
      refine o_lss st rfl rfl rfl ?_
      refine o_mv st rfl rfl ?_
      refine st_sp (dj := 13) rfl ?_ ?_
      · refine st_s rfl rfl rfl rfl ?_
        refine st_s rfl rfl rfl rfl ?_
        refine st_s rfl rfl rfl rfl ?_
        refine st_s rfl rfl rfl rfl ?_
        refine o_pickT st rfl rfl rfl ?_
        refine c_nil ?_
        exact l_join true (fun a w hE hm => ⟨hE.sub ⟨rfl, rfl, rfl, trivial⟩, (hm.pick [0] rfl)⟩)
      · refine o_mv (st_g rfl rfl) rfl rfl ?_
        refine o_mv (st_g rfl rfl) rfl rfl ?_
        refine st_gw rfl rfl (o_callP (vs := [(.int .i64 t4)]) Tryd.call55 rfl rfl (by intro w m h; exact (w_impl_FieldTop (F := allB [] w) (n_0 := t4) allB_ok (m.rd0 0 rfl (reads_snap hgl0)) h).mono (fun _ _ k => ret_free (fun r u => fr_nil) k)) ?_); rintro r7 _
        refine o_gtr (st_g rfl rfl) rfl rfl rfl ?_
        refine o_pickF st rfl rfl rfl ?_
        refine c_nil ?_
        exact l_join (decide (r7 < e6)) (fun a w hE hm => ⟨hE.sub ⟨rfl, rfl, rfl, trivial⟩, (hm.pick [0] rfl)⟩)
    · rintro t68 a w ⟨hE, hm⟩ h
      refine nx_of hE hm h ?_
      clear hE hm h
      refine c_cond rfl ?_ ?_
      · refine c_seq ?_
        refine c_region ?_
        refine o_as st rfl rfl ?_
        refine c_nil ?_
        refine l_then ?_
        refine c_ret ?_
        refine b_ret ?_
        refine l_ret ?_
        refine l_ret ?_
        refine b_ret ?_
        refine l_ret ?_
        exact l_end1 Tryd.results33 false () (rv_t rfl) (fun _ _ => NewCh.nil _ _ _ _)
      · refine c_skip ?_
        refine b_norm ?_
        refine l_then ?_
        refine c_region ?_
        refine o_add st rfl rfl rfl ?_; intro t70
        refine o_mv st rfl rfl ?_
        refine c_nil ?_
        exact l_join t70 (fun a w hE hm => ⟨hE.sub ⟨rfl, rfl, trivial⟩, (hm.pick [0] rfl)⟩)
  · refine c_exit ?_
    refine l_exit ?_
    refine l_exit ?_
    refine b_exit ?_
    refine l_then ?_
    refine c_seq ?_
    refine c_region ?_
    refine o_as st rfl rfl ?_
    refine c_nil ?_
    refine l_then ?_
    refine c_ret ?_
    exact l_end1 Tryd.results33 true () (rv_t rfl) (fun _ _ => NewCh.nil _ _ _ _)

set_option maxRecDepth 100000 in
set_option maxHeartbeats 8000000 in
theorem w_impl_shiftTo {w0 : World} {F : Nat → Prop} {from_0 : GPrefix} {to_1 : GPrefix} {κ : GShift → Prop} (hF : ∀ b, F b → b < w0.heap.size ∧ ¬ feet [] b) (h : L_impl_shiftTo from_0 to_1 κ) :
    Calls Tryd.prog 58 #[(.agg #[(.int .i64 from_0.xBase), (.int .i64 from_0.xLength)]), (.agg #[(.int .i64 to_1.xBase), (.int .i64 to_1.xLength)])] w0 (Ret [] F w0 κ (fun (r : GShift) (u : Unit) => (.agg #[(.int .i64 r.xWhere.xLo), (.int .i64 r.xWhere.xHi), (.int .i64 r.xBy)])) (fun (r : GShift) (u : Unit) => [])) := by
  refine enter0 (args := [(.agg #[(.int .i64 from_0.xBase), (.int .i64 from_0.xLength)]), (.agg #[(.int .i64 to_1.xBase), (.int .i64 to_1.xLength)])]) [] hF (Given.nil _ _) Tryd.func58 rfl Tryd.ntmps58 rfl h ?_
  clear h hF
  refine c_seq ?_
  refine c_region ?_
  refine stw (o_box rfl rfl [(.int .i64 from_0.xBase), (.int .i64 from_0.xLength)] rfl ?_); intro b1
  refine stw (o_box rfl rfl [(.int .i64 to_1.xBase), (.int .i64 to_1.xLength)] rfl ?_); intro b3
  refine stw (o_alloc rfl [(.int .i64 0), (.int .i64 0), (.int .i64 0)] zero91 ?_); intro b5
  refine c_nil ?_
  refine l_then ?_
  refine c_seq ?_
  refine c_region ?_
  refine o_ldc st (v := (.agg #[(.int .i64 from_0.xBase), (.int .i64 from_0.xLength)])) 2 rfl rfl rfl ty36 rfl ?_
  refine stw (o_callP (vs := [(.agg #[(.int .i64 from_0.xBase), (.int .i64 from_0.xLength)])]) Tryd.call43 rfl rfl (by intro w m h; exact (w_impl_PrefixSpan (F := allB [] w) (p_0 := from_0) allB_ok h).mono (fun _ _ k => ret_free (fun r u => fr_nil) k)) ?_); rintro ⟨r7, r8⟩ _
  refine o_mv st rfl rfl ?_
  refine o_ext st (vs := [(.agg #[(.int .i64 r7.xLo), (.int .i64 r7.xHi)]), (.bool r8)]) rfl rfl rfl ?_
  refine o_ext st (vs := [(.agg #[(.int .i64 r7.xLo), (.int .i64 r7.xHi)]), (.bool r8)]) rfl rfl rfl ?_
  refine stw (o_alloc rfl [(.int .i64 0), (.int .i64 0)] zero74 ?_); intro b9
  refine stw (o_stc (cs' := [(.int .i64 r7.xLo), (.int .i64 r7.xHi)]) 0 rfl rfl rfl ty74 rfl rfl rfl rfl ?_)
  refine o_as st rfl rfl ?_
  refine c_nil ?_
  refine l_then ?_
  refine c_seq ?_
  refine c_region ?_
  refine o_ldc st (v := (.agg #[(.int .i64 r7.xLo), (.int .i64 r7.xHi)])) 0 rfl rfl rfl ty74 rfl ?_
  refine o_fad st rfl rfl fld36_0 rfl ?_
  refine o_ldc st (v := (.int .i64 to_1.xBase)) 2 rfl rfl rfl ty3 rfl ?_
  refine o_fad st rfl rfl fld36_0 rfl ?_
  refine o_ldc st (v := (.int .i64 from_0.xBase)) 3 rfl rfl rfl ty3 rfl ?_
  refine o_sub st rfl rfl rfl ?_; intro t11
  refine o_bld st (qs := [(0, (.agg #[(.int .i64 r7.xLo), (.int .i64 r7.xHi)])), (1, (.int .i64 t11))]) (cells := [(.int .i64 r7.xLo), (.int .i64 r7.xHi), (.int .i64 t11)]) (by intro ρ h; simp only [List.map_toArray, List.map_cons, List.map_nil, h (.tmp 12) _ rfl, h (.tmp 17) _ rfl]) rfl bld91 rfl ?_
  refine stw (o_stc (cs' := [(.int .i64 r7.xLo), (.int .i64 r7.xHi), (.int .i64 t11)]) 1 rfl rfl rfl ty91 rfl rfl rfl rfl ?_)
  refine c_nil ?_
  refine l_then ?_
  refine c_ret ?_
  exact l_end1 Tryd.results58 (GShift.mk r7 t11) () (rv_c 1 rfl rfl ty91 rfl) (fun _ _ => NewCh.nil _ _ _ _)

set_option maxRecDepth 100000 in
set_option maxHeartbeats 8000000 in
theorem w_impl_Rewrite_inward {w0 : World} {F : Nat → Prop} {r_0 : GRewrite} {κ : GShift → Prop} (hF : ∀ b, F b → b < w0.heap.size ∧ ¬ feet [] b) (h : L_impl_Rewrite_inward r_0 κ) :
    Calls Tryd.prog 35 #[(.agg #[(.int .i64 r_0.xInside.xBase), (.int .i64 r_0.xInside.xLength), (.int .i64 r_0.xOutside.xBase), (.int .i64 r_0.xOutside.xLength)])] w0 (Ret [] F w0 κ (fun (r : GShift) (u : Unit) => (.agg #[(.int .i64 r.xWhere.xLo), (.int .i64 r.xWhere.xHi), (.int .i64 r.xBy)])) (fun (r : GShift) (u : Unit) => [])) := by
  refine enter0 (args := [(.agg #[(.int .i64 r_0.xInside.xBase), (.int .i64 r_0.xInside.xLength), (.int .i64 r_0.xOutside.xBase), (.int .i64 r_0.xOutside.xLength)])]) [] hF (Given.nil _ _) Tryd.func35 rfl Tryd.ntmps35 rfl h ?_
  clear h hF
  refine c_seq ?_
  refine c_region ?_
  refine stw (o_box rfl rfl [(.int .i64 r_0.xInside.xBase), (.int .i64 r_0.xInside.xLength), (.int .i64 r_0.xOutside.xBase), (.int .i64 r_0.xOutside.xLength)] rfl ?_); intro b1
  refine stw (o_alloc rfl [(.int .i64 0), (.int .i64 0), (.int .i64 0)] zero91 ?_); intro b3
  refine c_nil ?_
  refine l_then ?_
  refine c_seq ?_
  refine c_region ?_
  refine o_fad st rfl rfl fld38_1 rfl ?_
  refine o_ldc st (v := (.agg #[(.int .i64 r_0.xOutside.xBase), (.int .i64 r_0.xOutside.xLength)])) 1 rfl rfl rfl ty36 rfl ?_
  refine o_fad st rfl rfl fld38_0 rfl ?_
  refine o_ldc st (v := (.agg #[(.int .i64 r_0.xInside.xBase), (.int .i64 r_0.xInside.xLength)])) 1 rfl rfl rfl ty36 rfl ?_
  refine stw (o_callP (vs := [(.agg #[(.int .i64 r_0.xOutside.xBase), (.int .i64 r_0.xOutside.xLength)]), (.agg #[(.int .i64 r_0.xInside.xBase), (.int .i64 r_0.xInside.xLength)])]) Tryd.call58 rfl rfl (by intro w m h; exact (w_impl_shiftTo (F := allB [] w) (from_0 := r_0.xOutside) (to_1 := r_0.xInside) allB_ok h).mono (fun _ _ k => ret_free (fun r u => fr_nil) k)) ?_); rintro r5 _
  refine stw (o_stc (cs' := [(.int .i64 r5.xWhere.xLo), (.int .i64 r5.xWhere.xHi), (.int .i64 r5.xBy)]) 0 rfl rfl rfl ty91 rfl rfl rfl rfl ?_)
  refine c_nil ?_
  refine l_then ?_
  refine c_ret ?_
  exact l_end1 Tryd.results35 r5 () (rv_c 0 rfl rfl ty91 rfl) (fun _ _ => NewCh.nil _ _ _ _)

set_option maxRecDepth 100000 in
set_option maxHeartbeats 8000000 in
theorem w_impl_mover_move_1 {w0 : World} {F : Nat → Prop} {s_0 : GShift} {address_1 : Int} {κ : Int → Prop} (hF : ∀ b, F b → b < w0.heap.size ∧ ¬ feet [] b) (h : L_impl_mover_move_1 s_0 address_1 κ) :
    Calls Tryd.prog 60 #[(.agg #[(.int .i64 s_0.xWhere.xLo), (.int .i64 s_0.xWhere.xHi), (.int .i64 s_0.xBy)]), (.int .i64 address_1)] w0 (Ret [] F w0 κ (fun (r : Int) (u : Unit) => (.int .i64 r)) (fun (r : Int) (u : Unit) => [])) := by
  refine enter0 (args := [(.agg #[(.int .i64 s_0.xWhere.xLo), (.int .i64 s_0.xWhere.xHi), (.int .i64 s_0.xBy)]), (.int .i64 address_1)]) [] hF (Given.nil _ _) Tryd.func60 rfl Tryd.ntmps60 rfl h ?_
  clear h hF
  refine c_seq ?_
  refine c_region ?_
  refine stw (o_box rfl rfl [(.int .i64 s_0.xWhere.xLo), (.int .i64 s_0.xWhere.xHi), (.int .i64 s_0.xBy)] rfl ?_); intro b1
  refine o_as st rfl rfl ?_
  refine c_nil ?_
  refine l_then ?_
  refine c_seq ?_
  refine c_region ?_
  refine o_fad st rfl rfl fld91_0 rfl ?_
  refine o_fad st rfl rfl fld74_1 rfl ?_
  refine o_ldc st (v := (.int .i64 s_0.xWhere.xHi)) 0 rfl rfl rfl ty3 rfl ?_
  refine o_mv st rfl rfl ?_
  refine stw (o_callP (vs := [(.int .i64 s_0.xWhere.xHi), (.int .i64 address_1)]) Tryd.call46 rfl rfl (by intro w m h; exact (w_cmp_Compare_int (F := allB [] w) (x_0 := s_0.xWhere.xHi) (y_1 := address_1) allB_ok h).mono (fun _ _ k => ret_free (fun r u => fr_nil) k)) ?_); rintro r3 _
  refine o_as st rfl rfl ?_
  refine c_nil ?_
  refine l_then ?_
  refine c_ret ?_
  exact l_end1 Tryd.results60 r3 () (rv_t rfl) (fun _ _ => NewCh.nil _ _ _ _)

set_option maxRecDepth 100000 in
set_option maxHeartbeats 8000000 in
theorem w_slices_BinarySearchFunc_impl_mover_impl_shift_int__impl_mover_move_1 {w0 : World} {F : Nat → Prop} {v1 : Value} {x_0 : (List GShift)} {target_1 : Int} {κ : (Int × Bool) → Prop} (hF : ∀ b, F b → b < w0.heap.size ∧ ¬ feet [] b) (hv1 : Sl elGShift F w0 v1 x_0) (h : L_slices_BinarySearchFunc_impl_mover_impl_shift_int__impl_mover_move_1 x_0 target_1 κ) :
    Calls Tryd.prog 59 #[v1, (.int .i64 target_1), (.func (.func 60) #[] #[])] w0 (Ret [] F w0 κ (fun (r : (Int × Bool)) (u : Unit) => .tuple #[(.int .i64 r.1), (.bool r.2)]) (fun (r : (Int × Bool)) (u : Unit) => [])) := by
  refine enterS (args := [v1, (.int .i64 target_1), (.func (.func 60) #[] #[])]) [] hF (Given.nil _ _) Tryd.func59 rfl Tryd.ntmps59 rfl h ?_
  clear h hF
  refine c_seq ?_
  refine c_region ?_
  refine o_as st rfl rfl ?_
  refine o_as st rfl rfl ?_
  refine c_nil ?_
  refine l_then ?_
  refine c_seq ?_
  refine c_region ?_
  refine o_mv st rfl rfl ?_
  refine o_len st el62 0 rfl (reads_snap hv1) rfl rfl ?_
  refine o_as st rfl rfl ?_
  refine c_nil ?_
  refine l_then ?_
  refine c_seq ?_
  refine c_region ?_
  refine o_mv st rfl rfl ?_
  refine o_as st rfl rfl ?_
  refine o_as st rfl rfl ?_
  refine c_nil ?_
  refine l_then ?_
  refine c_seq ?_
  refine c_block ?_
  refine c_loop (σ := (Int × Int)) (fun ((t3, t4) : (Int × Int)) (a : Act) (w : World) => Has 49 [(0, v1), (1, (.int .i64 target_1)), (2, (.func (.func 60) #[] #[])), (8, (.int .i64 (x_0.length : Int))), (9, (.int .i64 t3)), (10, (.int .i64 t4))] a ∧ Mem (gB F [] w0) (feet []) w0 [snapCh w0 F] w) (fun a w hE hm => ⟨hE.sub ⟨rfl, rfl, rfl, rfl, rfl, rfl, trivial⟩, (hm.pick [0] rfl)⟩) ?_
  rintro nx5 ⟨t3, t4⟩ a w ⟨hE, hm⟩ h
  refine nx_of hE hm h ?_
  clear hE hm h
  refine c_seq ?_
  refine c_seq ?_
  refine c_region ?_
  refine o_mv st rfl rfl ?_
  refine o_mv st rfl rfl ?_
  refine o_lss st rfl rfl rfl ?_
  refine c_nil ?_
  refine l_then ?_
  refine c_cond rfl ?_ ?_
  · refine c_skip ?_
    refine l_then ?_
    refine c_block ?_
    refine c_seq ?_
    refine c_region ?_
    refine o_mv st rfl rfl ?_
    refine o_mv st rfl rfl ?_
    refine o_add st rfl rfl rfl ?_; intro t6
    refine o_cnvIU st und3 und104 rfl rfl ?_
    refine o_shrU st rfl rfl rfl ?_; intro t7
    refine o_cnvUI st und104 und3 rfl rfl ?_
    refine o_as st rfl rfl ?_
    refine c_nil ?_
    refine l_then ?_
    refine c_seq ?_
    refine c_region ?_
    refine o_mv st rfl rfl ?_
    refine o_mv st rfl rfl ?_
    refine o_mv st rfl rfl ?_
    refine o_idx st 0 rfl (reads_snap hv1) rfl rfl rfl el62 ?_; intro e8 h9
    refine o_lds st (enc := encGShift) (u := (.agg #[(.int .i64 e8.xWhere.xLo), (.int .i64 e8.xWhere.xHi), (.int .i64 e8.xBy)])) 0 rfl (reads_snap hv1) flelGShift rfl h9 rfl rfl ty91 rfl ?_
    refine o_mv st rfl rfl ?_
    refine stw (o_callXP rfl (runs_val rfl rfl Tryd.call60) rfl (by intro w m h; exact (w_impl_mover_move_1 (F := allB [] w) (s_0 := e8) (address_1 := target_1) allB_ok h).mono (fun _ _ k => ret_free (fun r u => fr_nil) k)) ?_); rintro r10 _
    refine o_lss st rfl rfl rfl ?_
    refine c_nil ?_
    refine l_then ?_
    refine c_cond rfl ?_ ?_
    · refine c_region ?_
      refine o_mv st rfl rfl ?_
      refine o_add st rfl rfl rfl ?_; intro t11
      refine o_as st rfl rfl ?_
      refine c_nil ?_
      refine b_norm ?_
      exact l_join (t11, t4) (fun a w hE hm => ⟨hE.sub ⟨rfl, rfl, rfl, rfl, rfl, rfl, trivial⟩, (hm.pick [0] rfl)⟩)
    · refine c_region ?_
      refine o_mv st rfl rfl ?_
      refine o_as st rfl rfl ?_
      refine c_nil ?_
      refine b_norm ?_
      exact l_join (t3, t7) (fun a w hE hm => ⟨hE.sub ⟨rfl, rfl, rfl, rfl, rfl, rfl, trivial⟩, (hm.pick [0] rfl)⟩)
  · refine c_exit ?_
    refine l_exit ?_
    refine l_exit ?_
    refine b_exit ?_
    refine l_then ?_
    refine c_join (σ := Bool) (fun (t75 : Bool) (a : Act) (w : World) => Has 49 [(6, (.int .i64 t3)), (7, (.bool t75))] a ∧ Mem (gB F [] w0) (feet []) w0 [] w) ?_ ?_
    · intro k76
      refine c_region ?_
      refine o_mv st rfl rfl ?_
      refine o_mv st rfl rfl ?_
      refine o_mv st rfl rfl ?_
      refine o_lss st rfl rfl rfl ?_
      refine o_mv st rfl rfl ?_
      refine st_sp (dj := 39) rfl ?_ ?_
      · refine o_mv (st_g rfl rfl) rfl rfl ?_
        refine o_mv (st_g rfl rfl) rfl rfl ?_
        refine o_mv (st_g rfl rfl) rfl rfl ?_
        refine o_idx (st_g rfl rfl) 0 rfl (reads_snap hv1) rfl rfl rfl el62 ?_; intro e12 h13
        refine o_lds (st_g rfl rfl) (enc := encGShift) (u := (.agg #[(.int .i64 e12.xWhere.xLo), (.int .i64 e12.xWhere.xHi), (.int .i64 e12.xBy)])) 0 rfl (reads_snap hv1) flelGShift rfl h13 rfl rfl ty91 rfl ?_
        refine o_mv (st_g rfl rfl) rfl rfl ?_
        refine st_gw rfl rfl (o_callXP rfl (runs_val rfl rfl Tryd.call60) rfl (by intro w m h; exact (w_impl_mover_move_1 (F := allB [] w) (s_0 := e12) (address_1 := target_1) allB_ok h).mono (fun _ _ k => ret_free (fun r u => fr_nil) k)) ?_); rintro r14 _
        refine o_eql (st_g rfl rfl) und3 rfl rfl rfl ?_
        refine o_pickT st rfl rfl rfl ?_
        refine o_as st rfl rfl ?_
        refine o_as st rfl rfl ?_
        refine c_nil ?_
        exact l_join (decide (r14 = 0)) (fun a w hE hm => ⟨hE.sub ⟨rfl, rfl, trivial⟩, (hm.pick [] rfl)⟩)
      · refine st_s rfl rfl rfl rfl ?_
        refine st_s rfl rfl rfl rfl ?_
        refine st_s rfl rfl rfl rfl ?_
        refine st_s rfl rfl rfl rfl ?_
        refine st_s rfl rfl rfl rfl ?_
        refine st_s rfl rfl rfl rfl ?_
        refine st_s rfl rfl rfl rfl ?_
        refine st_s rfl rfl rfl rfl ?_
        refine o_pickF st rfl rfl rfl ?_
        refine o_as st rfl rfl ?_
        refine o_as st rfl rfl ?_
        refine c_nil ?_
        exact l_join false (fun a w hE hm => ⟨hE.sub ⟨rfl, rfl, trivial⟩, (hm.pick [] rfl)⟩)
    · rintro t75 a w ⟨hE, hm⟩ h
      refine nx_of hE hm h ?_
      clear hE hm h
      refine c_ret ?_
      exact l_end2 Tryd.results59 (t3, t75) () (rv_t rfl) (rv_t rfl) rfl (fun _ _ => NewCh.nil _ _ _ _)

end

end Go.Proofs.YtdjfbceokpofmaaDoor
