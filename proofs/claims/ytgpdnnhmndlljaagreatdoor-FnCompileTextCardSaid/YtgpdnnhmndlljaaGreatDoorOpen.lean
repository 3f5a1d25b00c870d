import Derived.Test.YtgpdnnhmndlljaaGreatDoorRows
import Derived.Test.YtgpdnnhmndlljaaGreatDoorEls
import Derived.ProofKit
import Derived.OpenShut
import Derived.ChangeOld
import Derived.Lib.SmallJoins
set_option linter.unusedSimpArgs false
set_option linter.unusedVariables false
namespace Go.Proofs.YtgpdnnhmndlljaaGreatDoor
open Go.ChangeShapes Go.WideShapes Go.ChangeAt Go.RowKit Go.Joins
theorem zjd {w:World} (b:Nat) (h:b<w.heap.size):b<w.heap.size∧¬ uv [] b:=⟨h,fun ⟨c,hc,_⟩=>by simp at hc⟩
theorem zsu {W:World} {k:IntKind} {a:Addr} {len cap:Nat} {zs:List Int} {E:El Int} {enc:Int->List Value} (hfl:VH E enc) (henc:∀ x,enc x=[.int k x]) (hes:E.size=1) (hlc:len<=cap) (hz:len<=zs.length)
  (hcell:∀ i,i<zs.length->W.cell? (a.add i)=some (.int k (zs.getD i 0))):Sl E (fun b=>b<W.heap.size∧¬ uv [] b) W (.slice (some a) len cap) (zs.take len):=by
 have hl:(zs.take len).length=len:=by simp;omega
 refine ⟨some a,cap,by rw [hl],by omega,fun h0=>?_⟩;obtain ⟨b,o,s⟩:=a;have c0:=hcell 0 (by omega);have hs:s=none:=by
  cases s with
  | none=>rfl
  | some x =>
   unfold Addr.add at c0;simp only [World.cell?] at c0;split at c0 <;> simp_all
 subst hs;refine ⟨b,o,rfl,?_,fun i x hx=>⟨_,(hfl _ _ _ _).2 rfl,fun j v hv=>?_⟩⟩
 ·have:=World.block_lt_of_cell? W _ c0;simp only [Addr.add_mid] at this;exact zjd b this
 rw [henc] at hv;rw [hes];have hi:i<len:=by
  have:=(List.getElem?_eq_some_iff.1 hx).1;omega
 have hc:=hcell i (by omega);rw [Addr.add_mid] at hc;rw [List.getElem?_take] at hx;rw [if_pos hi] at hx;cases j with
 | zero =>
  simp at hv;subst hv;simp only [Nat.mul_one,Nat.add_zero];rw [hc,List.getD_eq_getElem?_getD,hx];rfl
 | succ j=>simp at hv
theorem zkE {W:World} {a:Addr} {len cap:Nat} {zs:List Int} (hlc:len<=cap) (hz:len<=zs.length) (hwz:∀ n∈zs,(Lit.int .u8 n).wf=true)
  (hcell:∀ i,i<zs.length->W.cell? (a.add i)=some (.int .u8 (zs.getD i 0))):Sl zbn (fun b=>b<W.heap.size∧¬ uv [] b) W (.slice (some a) len cap) ((zs.take len).map (fun z=>UInt8.ofNat z.toNat)):=by
 have hl:((zs.take len).map (fun z=>UInt8.ofNat z.toNat)).length=len:=by simp;omega
 refine ⟨some a,cap,by rw [hl],by omega,fun h0=>?_⟩;obtain ⟨b,o,s⟩:=a;have c0:=hcell 0 (by omega);have hs:s=none:=by
  cases s with
  | none=>rfl
  | some x =>
   unfold Addr.add at c0;simp only [World.cell?] at c0;split at c0 <;> simp_all
 subst hs;refine ⟨b,o,rfl,?_,fun i x hx=>⟨_,(zcp _ _ _ _).2 rfl,fun j v hv=>?_⟩⟩
 ·have:=World.block_lt_of_cell? W _ c0;simp only [Addr.add_mid] at this;exact zjd b this
 have hi:i<len:=by
  have:=(List.getElem?_eq_some_iff.1 hx).1;omega
 have hc:=hcell i (by omega);rw [Addr.add_mid] at hc;rw [List.getElem?_map,List.getElem?_take,if_pos hi,List.getElem?_eq_getElem (by omega)] at hx;simp only [Option.map_some,Option.some.injEq] at hx;have hw:=hwz _ (List.getElem_mem (l:=zs) (n:=i) (by omega));have hb:0<=zs[i]∧zs[i]<=255:=by
  simp [Lit.wf,IntKind.min,IntKind.max,IntKind.signed,IntKind.bits] at hw;omega
 subst hx;cases j with
 | zero =>
  simp [zcQ] at hv;subst hv;have:zbn.size=1:=rfl;rw [this];simp only [Nat.mul_one,Nat.add_zero];rw [hc,List.getD_eq_getElem?_getD,List.getElem?_eq_getElem (by omega)];simp;omega
 | succ j=>simp [zcQ] at hv
end Go.Proofs.YtgpdnnhmndlljaaGreatDoor
