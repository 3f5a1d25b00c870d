/- The pure forms of the functions of this seat (printed). -/
import Derived.Test.YtfgbbpmbmmihcaaDoorEls
set_option linter.unusedSimpArgs false
set_option linter.unusedVariables false
namespace Go.Proofs.YtfgbbpmbmmihcaaDoor
open Go.RowKit
@[ext] structure GPacket where
  xFrom : Int
  xTo : Int
  xPort : Int
  xProto : Int
  deriving DecidableEq
def encGPacket (x : GPacket) : List Value := [(.int .i64 x.xFrom), (.int .i64 x.xTo), (.int .i64 x.xPort), (.int .i64 x.xProto)]
def elGPacket : El GPacket := El.flat 4 encGPacket (by decide) (fun _ => rfl) (fun x u h => by simp only [encGPacket, List.mem_cons, List.not_mem_nil, or_false] at h; rcases h with rfl | rfl | rfl | rfl <;> rfl)
theorem flelGPacket : Flat elGPacket encGPacket := flat_flat
@[ext] structure GFlow where
  xWho : GPacket
  xUntil : Int
  deriving DecidableEq
def encGFlow (x : GFlow) : List Value := [(.int .i64 x.xWho.xFrom), (.int .i64 x.xWho.xTo), (.int .i64 x.xWho.xPort), (.int .i64 x.xWho.xProto), (.int .i64 x.xUntil)]
def elGFlow : El GFlow := El.flat 5 encGFlow (by decide) (fun _ => rfl) (fun x u h => by simp only [encGFlow, List.mem_cons, List.not_mem_nil, or_false] at h; rcases h with rfl | rfl | rfl | rfl | rfl <;> rfl)
theorem flelGFlow : Flat elGFlow encGFlow := flat_flat
@[ext] structure A4Int where
  x0 : Int
  x1 : Int
  x2 : Int
  x3 : Int
  deriving DecidableEq
def encA4Int (x : A4Int) : List Value := [(.int .i64 x.x0), (.int .i64 x.x1), (.int .i64 x.x2), (.int .i64 x.x3)]
def elA4Int : El A4Int := El.flat 4 encA4Int (by decide) (fun _ => rfl) (fun x u h => by simp only [encA4Int, List.mem_cons, List.not_mem_nil, or_false] at h; rcases h with rfl | rfl | rfl | rfl <;> rfl)
theorem flelA4Int : Flat elA4Int encA4Int := flat_flat
@[ext] structure GFieldShape where
  xName : ByteArray
  xTop : Int
  deriving DecidableEq
def encGFieldShape (x : GFieldShape) : List Value := [(.string x.xName), (.int .i64 x.xTop)]
def elGFieldShape : El GFieldShape := El.flat 2 encGFieldShape (by decide) (fun _ => rfl) (fun x u h => by simp only [encGFieldShape, List.mem_cons, List.not_mem_nil, or_false] at h; rcases h with rfl | rfl <;> rfl)
theorem flelGFieldShape : Flat elGFieldShape encGFieldShape := flat_flat
@[ext] structure GSpan where
  xLo : Int
  xHi : Int
  deriving DecidableEq
def encGSpan (x : GSpan) : List Value := [(.int .i64 x.xLo), (.int .i64 x.xHi)]
def elGSpan : El GSpan := El.flat 2 encGSpan (by decide) (fun _ => rfl) (fun x u h => by simp only [encGSpan, List.mem_cons, List.not_mem_nil, or_false] at h; rcases h with rfl | rfl <;> rfl)
theorem flelGSpan : Flat elGSpan encGSpan := flat_flat
/-- what the package-level variable reads as -/
def gl_impl_fieldShapes : List GFieldShape := [⟨(ByteArray.mk #[102, 114, 111, 109]), 65535⟩, ⟨(ByteArray.mk #[116, 111]), 65535⟩, ⟨(ByteArray.mk #[112, 111, 114, 116]), 255⟩, ⟨(ByteArray.mk #[112, 114, 111, 116, 111]), 7⟩]

def L_laws_szFlowS (a_0 : (List GFlow)) (left_1 : Int) (κ : Int → Prop) : Prop :=
  subW left_1 (a_0.length : Int) (fun t3 => ifW (decide (t3 < 0)) (κ (-1)) (κ t3))

def L_spec_l1In (n_0 : Int) (lo_1 : Int) (hi_2 : Int) (κ : Bool → Prop) : Prop :=
  jnW (fun (t1 : Bool) => κ t1) (fun k2 => ifW (decide (lo_1 ≤ n_0)) (k2 (decide (n_0 ≤ hi_2))) (k2 false))

def L_spec_PacketValid (p_0 : GPacket) (κ : Bool → Prop) : Prop :=
  jnW (fun (t3 : Bool) => κ t3) (fun k4 => L_spec_l1In p_0.xFrom 0 65535 (fun r5 => ifW r5 (L_spec_l1In p_0.xTo 0 65535 (fun r6 => ifW r6 (L_spec_l1In p_0.xPort 0 255 (fun r7 => ifW r7 (L_spec_l1In p_0.xProto 0 7 (fun r8 => k4 r8)) (k4 false))) (k4 false))) (k4 false)))

def L_spec_ReversePacket (p_0 : GPacket) (κ : GPacket → Prop) : Prop :=
  L_spec_PacketValid p_0 (fun r5 => ifW (!r5) (κ (GPacket.mk 0 0 0 0)) (κ (GPacket.mk p_0.xTo p_0.xFrom p_0.xPort p_0.xProto)))

def L_spec_l19Same (a_0 : GPacket) (b_1 : GPacket) (κ : Bool → Prop) : Prop :=
  jnW (fun (t5 : Bool) => κ t5) (fun k6 => ifW (decide (a_0 = b_1)) (k6 true) (L_spec_ReversePacket b_1 (fun r7 => k6 (decide (a_0 = r7)))))

def L_spec_FlowsValid (list_0 : (List GFlow)) (κ : Bool → Prop) : Prop :=
  loopW (fun (nx4 : Int → Prop) (t3 : Int) => ifW (decide (t3 < (list_0.length : Int))) (jnW (fun (t5 : Bool) => ifW t5 (κ false) (loopW (fun (nx14 : Int → Prop) (t13 : Int) => ifW (decide (t13 < t3)) (idxW list_0 t13 (fun e15 => idxW list_0 t3 (fun e17 => L_spec_l19Same e15.xWho e17.xWho (fun r19 => ifW r19 (κ false) (addW t13 1 (fun t20 => nx14 t20)))))) (addW t3 1 (fun t21 => nx4 t21))) 0)) (fun k6 => idxW list_0 t3 (fun e7 => L_spec_PacketValid e7.xWho (fun r9 => ifW (!r9) (k6 true) (idxW list_0 t3 (fun e10 => L_spec_l1In e10.xUntil 0 1000000 (fun r12 => k6 (!r12)))))))) (κ (decide ((list_0.length : Int) ≤ 20)))) 0

def L_spec_ExpireFlows (list_0 : (List GFlow)) (now_1 : Int) (κ : (List GFlow) → Prop) : Prop :=
  loopW (fun (nx11 : ((List GFlow) × Int) → Prop) ((xs7, t10) : ((List GFlow) × Int)) => jnW (fun (t12 : Bool) => ifW t12 (jnW (fun (xs16 : (List GFlow)) => addW t10 1 (fun t28 => nx11 (xs16, t28))) (fun k19 => idxW list_0 t10 (fun e20 => ifW (decide (now_1 ≤ e20.xUntil)) (idxW list_0 t10 (fun e22 => appW xs7 ([e22]) (fun _ => k19 (xs7 ++ ([e22]))))) (k19 xs7)))) (κ xs7)) (fun k13 => ifW (decide (t10 < (list_0.length : Int))) (L_spec_FlowsValid list_0 (fun r14 => ifW r14 (L_spec_l1In now_1 0 1000000 (fun r15 => k13 r15)) (k13 false))) (k13 false))) ([], 0)

def L_spec_KnownFlow (list_0 : (List GFlow)) (p_1 : GPacket) (now_2 : Int) (κ : Int → Prop) : Prop :=
  loopW (fun (nx6 : Int → Prop) (t5 : Int) => jnW (fun (t7 : Bool) => ifW t7 (jnW (fun (t12 : Bool) => ifW t12 (κ t5) (addW t5 1 (fun t19 => nx6 t19))) (fun k13 => idxW list_0 t5 (fun e14 => L_spec_l19Same e14.xWho p_1 (fun r16 => ifW r16 (idxW list_0 t5 (fun e17 => k13 (decide (now_2 ≤ e17.xUntil)))) (k13 false))))) (κ (-1))) (fun k8 => ifW (decide (t5 < (list_0.length : Int))) (L_spec_FlowsValid list_0 (fun r9 => ifW r9 (L_spec_PacketValid p_1 (fun r10 => ifW r10 (L_spec_l1In now_2 0 1000000 (fun r11 => k8 r11)) (k8 false))) (k8 false))) (k8 false))) 0

def L_spec_TrackFlow (list_0 : (List GFlow)) (p_1 : GPacket) (now_2 : Int) (life_3 : Int) (κ : ((List GFlow) × Bool) → Prop) : Prop :=
  jnW (fun (t6 : Bool) => ifW t6 (κ ([], false)) (L_spec_ExpireFlows list_0 now_2 (fun r14 => addW now_2 life_3 (fun t17 => L_spec_KnownFlow r14 p_1 now_2 (fun r18 => ifW (decide (0 ≤ r18)) (idxW r14 r18 (fun e19 => κ ((r14.set r18.toNat (GFlow.mk e19.xWho (min 1000000 t17))), true))) (ifW (decide ((r14.length : Int) = 20)) (κ (r14, false)) (appW r14 ([(GFlow.mk p_1 (min 1000000 t17))]) (fun _ => κ ((r14 ++ ([(GFlow.mk p_1 (min 1000000 t17))])), true))))))))) (fun k7 => L_spec_FlowsValid list_0 (fun r8 => ifW (!r8) (k7 true) (L_spec_PacketValid p_1 (fun r9 => ifW (!r9) (k7 true) (L_spec_l1In now_2 0 1000000 (fun r10 => ifW (!r10) (k7 true) (L_spec_l1In life_3 0 1000 (fun r11 => k7 (!r11)))))))))

def L_laws_toPacket (a_0 : GPacket) (κ : GPacket → Prop) : Prop :=
  κ a_0

def L_laws_toFlow (a_0 : GFlow) (κ : GFlow → Prop) : Prop :=
  L_laws_toPacket a_0.xWho (fun r7 => κ (GFlow.mk r7 a_0.xUntil))

def L_laws_toFlowS (a_0 : (List GFlow)) (κ : (List GFlow) → Prop) : Prop :=
  makeW ((GFlow.mk (GPacket.mk 0 0 0 0) 0) : GFlow) (a_0.length : Int) (a_0.length : Int) (fun xs5 => loopW (fun (nx10 : ((List GFlow) × Int) → Prop) ((xs7, t9) : ((List GFlow) × Int)) => ifW (decide (t9 < (a_0.length : Int))) (idxW a_0 t9 (fun e11 => L_laws_toFlow e11 (fun r13 => idxW xs7 t9 (fun e14 => addW t9 1 (fun t17 => nx10 ((xs7.set t9.toNat r13), t17)))))) (κ xs7)) (xs5, 0))

def L_impl_Packet_fields (p_0 : GPacket) (κ : A4Int → Prop) : Prop :=
  κ (A4Int.mk p_0.xFrom p_0.xTo p_0.xPort p_0.xProto)

def L_impl_FieldTop (n_0 : Int) (κ : Int → Prop) : Prop :=
  jnW (fun (t1 : Bool) => ifW t1 (κ (-1)) (idxW gl_impl_fieldShapes n_0 (fun e3 => κ e3.xTop))) (fun k2 => ifW (decide (n_0 < 0)) (k2 true) (k2 (decide (4 ≤ n_0))))

def L_impl_PacketValid (p_0 : GPacket) (κ : Bool → Prop) : Prop :=
  L_impl_Packet_fields p_0 (fun r3 => loopW (fun (nx5 : Int → Prop) (t4 : Int) => ifW (decide (t4 < 4)) (idxW ([r3.x0, r3.x1, r3.x2, r3.x3]) t4 (fun e6 => jnW (fun (t7 : Bool) => ifW t7 (κ false) (addW t4 1 (fun t10 => nx5 t10))) (fun k8 => ifW (decide (e6 < 0)) (k8 true) (L_impl_FieldTop t4 (fun r9 => k8 (decide (r9 < e6))))))) (κ true)) 0)

def L_impl_timeValid (now_0 : Int) (κ : Bool → Prop) : Prop :=
  jnW (fun (t1 : Bool) => κ t1) (fun k2 => ifW (decide (0 ≤ now_0)) (k2 (decide (now_0 ≤ 1000000))) (k2 false))

def L_impl_Packet_reverse (p_0 : GPacket) (κ : GPacket → Prop) : Prop :=
  κ (GPacket.mk p_0.xTo p_0.xFrom p_0.xPort p_0.xProto)

def L_impl_indexFlows (list_0 : (List GFlow)) (κ : ((List (GPacket × Int)) × Bool) → Prop) : Prop :=
  ifW (decide (20 < (list_0.length : Int))) (κ ([], false)) (loopW (fun (nx10 : ((List (GPacket × Int)) × Int) → Prop) ((xs7, t9) : ((List (GPacket × Int)) × Int)) => ifW (decide (t9 < (list_0.length : Int))) (idxW list_0 t9 (fun e11 => jnW (fun (t15 : Bool) => ifW t15 (κ ([], false)) (ifW ((mget e11.xWho xs7).2) (κ ([], false)) (L_impl_Packet_reverse e11.xWho (fun r22 => addW t9 1 (fun t24 => nx10 ((mput r22 t9 (mput e11.xWho t9 xs7)), t24)))))) (fun k16 => L_impl_PacketValid e11.xWho (fun r17 => ifW (!r17) (k16 true) (L_impl_timeValid e11.xUntil (fun r18 => k16 (!r18))))))) (κ (xs7, true))) ([], 0))

def L_impl_FlowsValid (list_0 : (List GFlow)) (κ : Bool → Prop) : Prop :=
  L_impl_indexFlows list_0 (fun (r3, r4) => κ r4)

def L_impl_lifeValid (life_0 : Int) (κ : Bool → Prop) : Prop :=
  jnW (fun (t1 : Bool) => κ t1) (fun k2 => ifW (decide (0 ≤ life_0)) (k2 (decide (life_0 ≤ 1000))) (k2 false))

def L_impl_notExpired (list_0 : (List GFlow)) (now_1 : Int) (κ : (List GFlow) → Prop) : Prop :=
  makeW ((GFlow.mk (GPacket.mk 0 0 0 0) 0) : GFlow) 0 (list_0.length : Int) (fun xs5 => loopW (fun (nx12 : ((List GFlow) × Int) → Prop) ((xs8, t11) : ((List GFlow) × Int)) => ifW (decide (t11 < (list_0.length : Int))) (jnW (fun (xs13 : (List GFlow)) => addW t11 1 (fun t25 => nx12 (xs13, t25))) (fun k16 => idxW list_0 t11 (fun e17 => ifW (decide (now_1 ≤ e17.xUntil)) (appW xs8 ([e17]) (fun _ => k16 (xs8 ++ ([e17])))) (k16 xs8)))) (κ xs8)) (xs5, 0))

def L_impl_flowIndex_known (x_0 : (List (GPacket × Int))) (list_1 : (List GFlow)) (p_2 : GPacket) (now_3 : Int) (κ : Int → Prop) : Prop :=
  jnW (fun (t7 : Bool) => ifW t7 (κ (-1)) (κ ((mget p_2 x_0).1))) (fun k8 => ifW (!((mget p_2 x_0).2)) (k8 true) (idxW list_1 ((mget p_2 x_0).1) (fun e9 => k8 (decide (e9.xUntil < now_3)))))

def L_impl_trackValid (list_0 : (List GFlow)) (p_1 : GPacket) (now_2 : Int) (life_3 : Int) (κ : ((List GFlow) × Bool) → Prop) : Prop :=
  L_impl_notExpired list_0 now_2 (fun r6 => addW now_2 life_3 (fun t9 => L_impl_indexFlows r6 (fun (r10, r11) => L_impl_flowIndex_known r10 r6 p_1 now_2 (fun r14 => ifW (decide (0 ≤ r14)) (idxW r6 r14 (fun e15 => κ ((r6.set r14.toNat (GFlow.mk e15.xWho (min t9 1000000))), true))) (ifW (decide ((r6.length : Int) = 20)) (κ (r6, false)) (appW r6 ([(GFlow.mk p_1 (min t9 1000000))]) (fun _ => κ ((r6 ++ ([(GFlow.mk p_1 (min t9 1000000))])), true))))))))

def L_impl_TrackFlow (list_0 : (List GFlow)) (p_1 : GPacket) (now_2 : Int) (life_3 : Int) (κ : ((List GFlow) × Bool) → Prop) : Prop :=
  jnW (fun (t6 : Bool) => ifW t6 (κ ([], false)) (L_impl_trackValid list_0 p_1 now_2 life_3 (fun (r13, r14) => κ (r13, r14)))) (fun k7 => L_impl_FlowsValid list_0 (fun r8 => ifW (!r8) (k7 true) (L_impl_PacketValid p_1 (fun r9 => ifW (!r9) (k7 true) (L_impl_timeValid now_2 (fun r10 => ifW (!r10) (k7 true) (L_impl_lifeValid life_3 (fun r11 => k7 (!r11)))))))))

def L_laws_eqPacket (a_0 : GPacket) (b_1 : GPacket) (κ : Bool → Prop) : Prop :=
  ifW (!(decide (a_0.xFrom = b_1.xFrom))) (κ false) (ifW (!(decide (a_0.xTo = b_1.xTo))) (κ false) (ifW (!(decide (a_0.xPort = b_1.xPort))) (κ false) (ifW (!(decide (a_0.xProto = b_1.xProto))) (κ false) (κ true))))

def L_laws_eqFlow (a_0 : GFlow) (b_1 : GFlow) (κ : Bool → Prop) : Prop :=
  L_laws_eqPacket a_0.xWho b_1.xWho (fun r5 => ifW (!r5) (κ false) (ifW (!(decide (a_0.xUntil = b_1.xUntil))) (κ false) (κ true)))

def L_laws_eqFlowS (a_0 : (List GFlow)) (b_1 : (List GFlow)) (κ : Bool → Prop) : Prop :=
  ifW (!(decide ((a_0.length : Int) = (b_1.length : Int)))) (κ false) (loopW (fun (nx6 : Int → Prop) (t5 : Int) => ifW (decide (t5 < (a_0.length : Int))) (idxW a_0 t5 (fun e7 => idxW b_1 t5 (fun e9 => L_laws_eqFlow e7 e9 (fun r11 => ifW (!r11) (κ false) (addW t5 1 (fun t12 => nx6 t12)))))) (κ true)) 0)

def L_laws_markFlowS (a_0 : (List GFlow)) (k_1 : Int) (κ : (Int × (List GFlow)) → Prop) : Prop :=
  loopW (fun (nx7 : ((List GFlow) × Int × Int) → Prop) ((xs3, t5, t6) : ((List GFlow) × Int × Int)) => ifW (decide (t6 < (xs3.length : Int))) (idxW xs3 t6 (fun e8 => addW t5 1 (fun t11 => idxW (xs3.set t6.toNat (GFlow.mk (GPacket.mk t5 e8.xWho.xTo e8.xWho.xPort e8.xWho.xProto) e8.xUntil)) t6 (fun e12 => addW t11 1 (fun t15 => idxW ((xs3.set t6.toNat (GFlow.mk (GPacket.mk t5 e8.xWho.xTo e8.xWho.xPort e8.xWho.xProto) e8.xUntil)).set t6.toNat (GFlow.mk (GPacket.mk e12.xWho.xFrom t11 e12.xWho.xPort e12.xWho.xProto) e12.xUntil)) t6 (fun e16 => addW t15 1 (fun t19 => idxW (((xs3.set t6.toNat (GFlow.mk (GPacket.mk t5 e8.xWho.xTo e8.xWho.xPort e8.xWho.xProto) e8.xUntil)).set t6.toNat (GFlow.mk (GPacket.mk e12.xWho.xFrom t11 e12.xWho.xPort e12.xWho.xProto) e12.xUntil)).set t6.toNat (GFlow.mk (GPacket.mk e16.xWho.xFrom e16.xWho.xTo t15 e16.xWho.xProto) e16.xUntil)) t6 (fun e20 => addW t19 1 (fun t23 => idxW ((((xs3.set t6.toNat (GFlow.mk (GPacket.mk t5 e8.xWho.xTo e8.xWho.xPort e8.xWho.xProto) e8.xUntil)).set t6.toNat (GFlow.mk (GPacket.mk e12.xWho.xFrom t11 e12.xWho.xPort e12.xWho.xProto) e12.xUntil)).set t6.toNat (GFlow.mk (GPacket.mk e16.xWho.xFrom e16.xWho.xTo t15 e16.xWho.xProto) e16.xUntil)).set t6.toNat (GFlow.mk (GPacket.mk e20.xWho.xFrom e20.xWho.xTo e20.xWho.xPort t19) e20.xUntil)) t6 (fun e24 => addW t23 1 (fun t27 => addW t6 1 (fun t28 => nx7 ((((((xs3.set t6.toNat (GFlow.mk (GPacket.mk t5 e8.xWho.xTo e8.xWho.xPort e8.xWho.xProto) e8.xUntil)).set t6.toNat (GFlow.mk (GPacket.mk e12.xWho.xFrom t11 e12.xWho.xPort e12.xWho.xProto) e12.xUntil)).set t6.toNat (GFlow.mk (GPacket.mk e16.xWho.xFrom e16.xWho.xTo t15 e16.xWho.xProto) e16.xUntil)).set t6.toNat (GFlow.mk (GPacket.mk e20.xWho.xFrom e20.xWho.xTo e20.xWho.xPort t19) e20.xUntil)).set t6.toNat (GFlow.mk e24.xWho t23)), t27, t28))))))))))))) (κ (t5, xs3))) (a_0, k_1, 0)

def L_laws_heldFlowS (a_0 : (List GFlow)) (k_1 : Int) (κ : Int → Prop) : Prop :=
  loopW (fun (nx5 : (Int × Int) → Prop) ((t3, t4) : (Int × Int)) => ifW (decide (t4 < (a_0.length : Int))) (idxW a_0 t4 (fun e6 => ifW (!(decide (e6.xWho.xFrom = t3))) (κ (-1)) (addW t3 1 (fun t8 => idxW a_0 t4 (fun e9 => ifW (!(decide (e9.xWho.xTo = t8))) (κ (-1)) (addW t8 1 (fun t11 => idxW a_0 t4 (fun e12 => ifW (!(decide (e12.xWho.xPort = t11))) (κ (-1)) (addW t11 1 (fun t14 => idxW a_0 t4 (fun e15 => ifW (!(decide (e15.xWho.xProto = t14))) (κ (-1)) (addW t14 1 (fun t17 => idxW a_0 t4 (fun e18 => ifW (!(decide (e18.xUntil = t17))) (κ (-1)) (addW t17 1 (fun t20 => addW t4 1 (fun t21 => nx5 (t20, t21)))))))))))))))))) (κ t3)) (k_1, 0)

def L_laws_FnExactTrackFlow (aList_0 : (List GFlow)) (aP_1 : GPacket) (aNow_2 : Int) (aLife_3 : Int) (κ : Bool → Prop) : Prop :=
  L_laws_szFlowS aList_0 1048576 (fun r5 => ifW (decide (r5 < 0)) (κ true) (L_laws_toFlowS aList_0 (fun r6 => L_laws_toPacket aP_1 (fun r9 => L_spec_TrackFlow r6 r9 aNow_2 aLife_3 (fun (r10, r11) => L_laws_toFlowS aList_0 (fun r14 => L_laws_toPacket aP_1 (fun r17 => L_impl_TrackFlow r14 r17 aNow_2 aLife_3 (fun (r18, r19) => jnW (fun (t22 : Bool) => ifW t22 (κ false) (L_laws_toFlowS aList_0 (fun r25 => L_laws_eqFlowS r14 r25 (fun r28 => ifW (!r28) (κ false) (L_laws_markFlowS r14 1 (fun (r29, r30) => jnW (fun (t32 : Bool) => ifW t32 (κ false) (L_laws_markFlowS r18 1 (fun (r35, r36) => L_laws_heldFlowS r36 1 (fun r38 => ifW (decide (r38 < 0)) (κ false) (ifW (!(decide (r38 = r35))) (κ false) (L_laws_toFlowS aList_0 (fun r39 => L_laws_toPacket aP_1 (fun r42 => L_impl_TrackFlow r39 r42 aNow_2 aLife_3 (fun (r43, r44) => jnW (fun (t47 : Bool) => ifW t47 (κ false) (L_laws_heldFlowS r36 1 (fun r50 => ifW (decide (r50 < 0)) (κ false) (ifW (!(decide (r50 = r35))) (κ false) (κ true))))) (fun k48 => L_laws_eqFlowS r43 r10 (fun r49 => ifW (!r49) (k48 true) (k48 (!(decide (r44 = r11))))))))))))))) (fun k33 => ifW (decide (r29 < 0)) (k33 true) (L_laws_eqFlowS r18 r10 (fun r34 => ifW (!r34) (k33 true) (k33 (!(decide (r19 = r11))))))))))))) (fun k23 => L_laws_eqFlowS r18 r10 (fun r24 => ifW (!r24) (k23 true) (k23 (!(decide (r19 = r11))))))))))))))

def L_spec_l20Open (code_0 : (List UInt8)) (κ : ((List UInt8) × Int) → Prop) : Prop :=
  jnW (fun (xs4 : (List UInt8)) => κ (xs4, 0)) (fun k7 => ifW (decide (2000 < (code_0.length : Int))) (sliceW code_0 0 2000 (fun xs9 => k7 xs9)) (k7 code_0))

def L_spec_l20Rd_pick (r_0_b : (List UInt8)) (r_0_p : Int) (n_1 : Int) (κ : (Int × Int) → Prop) : Prop :=
  addW r_0_p 1 (fun t5 => jnW (fun (t6 : Bool) => ifW t6 (κ (0, t5)) (subW t5 1 (fun t8 => ifW (decide (t8 < (r_0_b.length : Int))) (idxW r_0_b t8 (fun e9 => remW (e9.toNat : Int) n_1 (fun t11 => κ (t11, t5)))) (remW t8 (r_0_b.length : Int) (fun t12 => idxW r_0_b t12 (fun e13 => mulW (e13.toNat : Int) 131 (fun t15 => mulW t8 7 (fun t16 => addW t16 3 (fun t17 => remW t17 (r_0_b.length : Int) (fun t18 => idxW r_0_b t18 (fun e19 => mulW (e19.toNat : Int) 1117 (fun t21 => addW t15 t21 (fun t22 => mulW t8 29 (fun t23 => addW t22 t23 (fun t24 => quoW t8 (r_0_b.length : Int) (fun t25 => mulW t25 53 (fun t26 => addW t24 t26 (fun t27 => quoW t27 64 (fun t28 => xorW t27 t28 (fun t29 => remW t29 n_1 (fun t30 => κ (t30, t5)))))))))))))))))))))) (fun k7 => ifW (decide (n_1 < 1)) (k7 true) (k7 (decide ((r_0_b.length : Int) = 0)))))

def L_spec_l20Rd_odd (r_0_b : (List UInt8)) (r_0_p : Int) (n_1 : Int) (κ : (Bool × Int) → Prop) : Prop :=
  jnW (fun ((t5, t6) : (Int × Bool)) => κ (t6, t5)) (fun k7 => ifW (decide (0 < n_1)) (L_spec_l20Rd_pick r_0_b r_0_p n_1 (fun (r8, r9) => subW n_1 1 (fun t10 => k7 (r9, (decide (r8 = t10)))))) (k7 (r_0_p, false)))

def L_spec_l20Packet (r_0_b : (List UInt8)) (r_0_p : Int) (n_1 : Int) (κ : (GPacket × Int) → Prop) : Prop :=
  L_spec_l20Rd_pick r_0_b r_0_p 20 (fun (r7, r8) => L_spec_l20Rd_pick r_0_b r8 20 (fun (r9, r10) => L_spec_l20Rd_pick r_0_b r10 256 (fun (r11, r12) => L_spec_l20Rd_pick r_0_b r12 8 (fun (r13, r14) => jnW (fun ((t17, t18, t19, t20) : (Int × Int × Int × Int)) => jnW (fun ((t38, t39, t40, t41, t42) : (Int × Int × Int × Int × Int)) => κ ((GPacket.mk t39 t40 t41 t42), t38)) (fun k43 => L_spec_l20Rd_odd r_0_b t17 n_1 (fun (r44, r45) => ifW r44 (L_spec_l20Rd_pick r_0_b r45 4 (fun (r46, r47) => ifW (decide (r46 = 0)) (L_spec_l20Rd_pick r_0_b r47 2 (fun (r50, r51) => idxW ([(-1), 65536]) r50 (fun e52 => k43 (r51, e52, t19, t20, r13)))) (ifW (decide (r46 = 1)) (L_spec_l20Rd_pick r_0_b r47 2 (fun (r56, r57) => idxW ([(-1), 65536]) r56 (fun e58 => k43 (r57, t18, e58, t20, r13)))) (ifW (decide (r46 = 2)) (L_spec_l20Rd_pick r_0_b r47 2 (fun (r62, r63) => idxW ([(-1), 256]) r62 (fun e64 => k43 (r63, t18, t19, e64, r13)))) (L_spec_l20Rd_pick r_0_b r47 2 (fun (r68, r69) => idxW ([(-1), 8]) r68 (fun e70 => k43 (r69, t18, t19, t20, e70)))))))) (k43 (r45, t18, t19, t20, r13))))) (fun k21 => L_spec_l20Rd_pick r_0_b r14 2 (fun (r22, r23) => ifW (decide (r22 = 0)) (L_spec_l20Rd_pick r_0_b r23 256 (fun (r24, r25) => mulW r24 256 (fun t26 => L_spec_l20Rd_pick r_0_b r25 256 (fun (r27, r28) => addW t26 r27 (fun t29 => L_spec_l20Rd_pick r_0_b r28 4 (fun (r30, r31) => mulW r30 16384 (fun t32 => L_spec_l20Rd_pick r_0_b r31 256 (fun (r33, r34) => addW t32 r33 (fun t35 => L_spec_l20Rd_pick r_0_b r34 12 (fun (r36, r37) => k21 (r37, t29, t35, r36))))))))))) (k21 (r23, r7, r9, r11))))))))

def L_spec_l20Flows (r_0_b : (List UInt8)) (r_0_p : Int) (n_1 : Int) (κ : ((List GFlow) × Int) → Prop) : Prop :=
  L_spec_l20Rd_pick r_0_b r_0_p 7 (fun (r8, r9) => loopW (fun (nx16 : (Int × (List GFlow) × Int) → Prop) ((t10, xs12, t15) : (Int × (List GFlow) × Int)) => ifW (decide (0 < t15)) (L_spec_l20Packet r_0_b t10 0 (fun (r17, r18) => L_spec_l20Rd_pick r_0_b r18 60 (fun (r19, r20) => L_spec_TrackFlow xs12 r17 0 r19 (fun (r21, r22) => subW t15 1 (fun t25 => nx16 (r20, r21, t25)))))) (jnW (fun ((t26, xs28) : (Int × (List GFlow))) => jnW (fun ((t46, xs48) : (Int × (List GFlow))) => κ (xs48, t46)) (fun k51 => L_spec_l20Rd_odd r_0_b t26 n_1 (fun (r52, r53) => ifW r52 (L_spec_l20Rd_pick r_0_b r53 4 (fun (r54, r55) => ifW (decide (r54 = 0)) (L_spec_l20Packet r_0_b r55 1 (fun (r56, r57) => appW xs28 ([(GFlow.mk r56 0)]) (fun _ => k51 (r57, (xs28 ++ ([(GFlow.mk r56 0)])))))) (ifW (decide (r54 = 1)) (L_spec_l20Rd_pick r_0_b r55 2 (fun (r64, r65) => idxW ([(-1), 1000001]) r64 (fun e66 => appW xs28 ([(GFlow.mk (GPacket.mk 7777 0 0 0) e66)]) (fun _ => k51 (r65, (xs28 ++ ([(GFlow.mk (GPacket.mk 7777 0 0 0) e66)]))))))) (ifW (decide (r54 = 2)) (appW xs28 ([(GFlow.mk (GPacket.mk 5 6 0 0) 0), (GFlow.mk (GPacket.mk 6 5 0 0) 0)]) (fun _ => k51 (r55, (xs28 ++ ([(GFlow.mk (GPacket.mk 5 6 0 0) 0), (GFlow.mk (GPacket.mk 6 5 0 0) 0)]))))) (makeW ((GFlow.mk (GPacket.mk 0 0 0 0) 0) : GFlow) 21 21 (fun xs77 => k51 (r55, xs77))))))) (k51 (r53, xs28))))) (fun k31 => L_spec_l20Rd_odd r_0_b t10 14 (fun (r32, r33) => ifW r32 (loopW (fun (nx39 : ((List GFlow) × Int) → Prop) ((xs35, t38) : ((List GFlow) × Int)) => ifW (decide ((xs35.length : Int) < 20)) (addW 1000 t38 (fun t40 => appW xs35 ([(GFlow.mk (GPacket.mk t40 0 0 0) 30)]) (fun _ => addW t38 1 (fun t45 => nx39 ((xs35 ++ ([(GFlow.mk (GPacket.mk t40 0 0 0) 30)])), t45))))) (k31 (r33, xs35))) (xs12, 0)) (k31 (r33, xs12)))))) (r9, [], r8))

def L_spec_l20Moment (r_0_b : (List UInt8)) (r_0_p : Int) (κ : ((List GFlow) × GPacket × Int × Int) → Prop) : Prop :=
  L_spec_l20Flows r_0_b r_0_p 14 (fun (r8, r10) => L_spec_l20Packet r_0_b r10 14 (fun (r12, r13) => jnW (fun ((t16, t17, t18, t19, t20) : (Int × Int × Int × Int × Int)) => jnW (fun ((t34, t35) : (Int × Int)) => κ (r8, (GPacket.mk t17 t18 t19 t20), t35, t34)) (fun k36 => L_spec_l20Rd_pick r_0_b t16 70 (fun (r37, r38) => L_spec_l20Rd_pick r_0_b r38 9 (fun (r41, r42) => idxW ([0, 0, 0, 0, 0, 0, 1, 2, 3]) r41 (fun e43 => idxW ([r37, (-1), 1000000, 1000001]) e43 (fun e45 => k36 (r42, e45))))))) (fun k21 => jnW (fun ((t22, t23) : (Int × Bool)) => ifW t23 (L_spec_l20Rd_pick r_0_b t22 (r8.length : Int) (fun (r27, r28) => idxW r8 r27 (fun e29 => L_spec_l20Rd_pick r_0_b r28 2 (fun (r31, r32) => ifW (decide (r31 = 0)) (L_spec_ReversePacket e29.xWho (fun r33 => k21 (r32, r33.xFrom, r33.xTo, r33.xPort, r33.xProto))) (k21 (r32, e29.xWho.xFrom, e29.xWho.xTo, e29.xWho.xPort, e29.xWho.xProto)))))) (k21 (t22, r12.xFrom, r12.xTo, r12.xPort, r12.xProto))) (fun k24 => ifW (decide (0 < (r8.length : Int))) (L_spec_l20Rd_pick r_0_b r13 3 (fun (r25, r26) => k24 (r26, (decide (0 < r25))))) (k24 (r13, false))))))

def L_spec_l20Life (r_0_b : (List UInt8)) (r_0_p : Int) (κ : (Int × Int) → Prop) : Prop :=
  L_spec_l20Rd_pick r_0_b r_0_p 60 (fun (r5, r6) => L_spec_l20Rd_pick r_0_b r6 8 (fun (r11, r12) => idxW ([0, 0, 0, 0, 1, 2, 3, 4]) r11 (fun e13 => idxW ([r5, 0, 1000, (-1), 1001]) e13 (fun e15 => κ (e15, r12)))))

def L_spec_DrawTrackFlow (code_0 : (List UInt8)) (κ : ((List GFlow) × GPacket × Int × Int) → Prop) : Prop :=
  L_spec_l20Open code_0 (fun (r8, r11) => L_spec_l20Moment r8 r11 (fun (r13, r14, r15, r17) => L_spec_l20Life r8 r17 (fun (r21, r22) => κ (r13, r14, r15, r21))))

def L_laws_sameFlows (a_0 : (List GFlow)) (b_1 : (List GFlow)) (κ : Bool → Prop) : Prop :=
  ifW (!(decide ((a_0.length : Int) = (b_1.length : Int)))) (κ false) (loopW (fun (nx6 : Int → Prop) (t5 : Int) => ifW (decide (t5 < (a_0.length : Int))) (idxW a_0 t5 (fun e7 => idxW b_1 t5 (fun e9 => ifW (!(decide (e7 = e9))) (κ false) (addW t5 1 (fun t11 => nx6 t11))))) (κ true)) 0)

def L_impl_SpansHave (list_0 : (List GSpan)) (n_1 : Int) (κ : Bool → Prop) : Prop :=
  loopW (fun (nx4 : Int → Prop) (t3 : Int) => ifW (decide (t3 < (list_0.length : Int))) (idxW list_0 t3 (fun e5 => jnW (fun (t9 : Bool) => ifW t9 (κ true) (addW t3 1 (fun t11 => nx4 t11))) (fun k10 => ifW (decide (e5.xLo ≤ n_1)) (k10 (decide (n_1 ≤ e5.xHi))) (k10 false)))) (κ false)) 0

def L_laws_alive (κ : Bool → Prop) : Prop :=
  L_impl_SpansHave ([(GSpan.mk 2 4)]) 3 (fun r3 => κ r3)

def L_impl_ReversePacket (p_0 : GPacket) (κ : GPacket → Prop) : Prop :=
  L_impl_PacketValid p_0 (fun r5 => ifW (!r5) (κ (GPacket.mk 0 0 0 0)) (L_impl_Packet_reverse p_0 (fun r6 => κ r6)))

def L_impl_ExpireFlows (list_0 : (List GFlow)) (now_1 : Int) (κ : (List GFlow) → Prop) : Prop :=
  jnW (fun (t4 : Bool) => ifW t4 (κ ([])) (L_impl_notExpired list_0 now_1 (fun r9 => κ r9))) (fun k5 => L_impl_FlowsValid list_0 (fun r6 => ifW (!r6) (k5 true) (L_impl_timeValid now_1 (fun r7 => k5 (!r7)))))

def L_impl_KnownFlow (list_0 : (List GFlow)) (p_1 : GPacket) (now_2 : Int) (κ : Int → Prop) : Prop :=
  L_impl_indexFlows list_0 (fun (r5, r6) => jnW (fun (t9 : Bool) => ifW t9 (κ (-1)) (L_impl_flowIndex_known r5 list_0 p_1 now_2 (fun r13 => κ r13))) (fun k10 => ifW (!r6) (k10 true) (L_impl_PacketValid p_1 (fun r11 => ifW (!r11) (k10 true) (L_impl_timeValid now_2 (fun r12 => k10 (!r12)))))))

def L_laws_FnTrackFlow (code_0 : (List UInt8)) (κ : Bool → Prop) : Prop :=
  ifW (decide (1048576 < (code_0.length : Int))) (κ true) (L_spec_DrawTrackFlow code_0 (fun (r3, r4, r5, r6) => L_impl_TrackFlow r3 r4 r5 r6 (fun (r11, r12) => L_spec_TrackFlow r3 r4 r5 r6 (fun (r15, r16) => jnW (fun (t19 : Bool) => ifW t19 (κ false) (ifW (!r12) (jnW (fun (t22 : Bool) => κ t22) (fun k23 => ifW (decide ((r11.length : Int) = 0)) (L_laws_alive (fun r24 => k23 r24)) (L_impl_ExpireFlows r3 r5 (fun r25 => L_laws_sameFlows r11 r25 (fun r28 => ifW r28 (ifW (decide ((r11.length : Int) = 20)) (L_laws_alive (fun r29 => k23 r29)) (k23 false)) (k23 false)))))) (addW r5 r6 (fun t30 => jnW (fun (t31 : Bool) => κ t31) (fun k32 => L_impl_FlowsValid r11 (fun r33 => ifW r33 (L_impl_KnownFlow r11 r4 (min 1000000 t30) (fun r34 => ifW (decide (0 ≤ r34)) (L_impl_ReversePacket r4 (fun r35 => L_impl_KnownFlow r11 r35 r5 (fun r36 => ifW (decide (0 ≤ r36)) (ifW (decide ((min 1000000 t30) = 1000000)) (addW (r3.length : Int) 1 (fun t37 => k32 (decide ((r11.length : Int) ≤ t37)))) (addW (min 1000000 t30) 1 (fun t38 => L_impl_KnownFlow r11 r4 t38 (fun r39 => ifW (decide (r39 = (-1))) (addW (r3.length : Int) 1 (fun t40 => k32 (decide ((r11.length : Int) ≤ t40)))) (k32 false))))) (k32 false)))) (k32 false))) (k32 false))))))) (fun k20 => L_laws_sameFlows r11 r15 (fun r21 => ifW (!r21) (k20 true) (k20 (!(decide (r12 = r16))))))))))

def L_laws_FnFlowsTwice (code_0 : (List UInt8)) (κ : Bool → Prop) : Prop :=
  ifW (decide (1048576 < (code_0.length : Int))) (κ true) (L_spec_DrawTrackFlow code_0 (fun (r3, r4, r5, r6) => L_impl_TrackFlow r3 r4 r5 r6 (fun (r11, r12) => L_spec_TrackFlow r3 r4 r5 r6 (fun (r15, r16) => jnW (fun (t19 : Bool) => ifW t19 (κ false) (ifW (!r12) (L_laws_alive (fun r22 => κ r22)) (L_impl_ReversePacket r4 (fun r23 => L_impl_TrackFlow r11 r23 r5 r6 (fun (r24, r25) => jnW (fun (t28 : Bool) => κ t28) (fun k29 => ifW r25 (L_laws_sameFlows r24 r11 (fun r30 => k29 r30)) (k29 false))))))) (fun k20 => L_laws_sameFlows r11 r15 (fun r21 => ifW (!r21) (k20 true) (k20 (!(decide (r12 = r16))))))))))

end Go.Proofs.YtfgbbpmbmmihcaaDoor
