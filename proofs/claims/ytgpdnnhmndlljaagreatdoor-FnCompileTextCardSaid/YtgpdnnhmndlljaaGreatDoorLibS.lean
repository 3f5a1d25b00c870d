import Derived.Test.YtgpdnnhmndlljaaGreatDoorRows
import Derived.Test.YtgpdnnhmndlljaaGreatDoorEls
import Derived.Ground.NamesProg
import Derived.Shelf.Strings.Prefix
import Derived.Shelf.LaysM
import Derived.Shelf.Strconv.Itoa3
set_option linter.unusedSimpArgs false
set_option linter.unusedVariables false
namespace Go.Proofs.YtgpdnnhmndlljaaGreatDoor
open Go.Shelf Go.RowKit
def Tryz.lays99_ren:Go.Shelf.Ren:=⟨fun | 99=>248 | 206=>256 | n=>n,fun | 9=>9 | 4=>4 | 3=>3 | n=>n,fun | n=>n⟩
theorem Tryz.lays99:Go.Proofs.Lays.n99 Tryz.prog Tryz.lays99_ren where
 mixed:=by kernel_rfl
 f99:=Tryz.func248.trans (congrArg some (by kernel_rfl))
 f206:=Tryz.func256.trans (congrArg some (by kernel_rfl))
 t3:=Tryz.underlying3
 a3:=Tryz.isAgg3
 z3:=Tryz.sizeOf3
 v3:=Tryz.zeroValue3
 t4:=Tryz.underlying4
 a4:=Tryz.isAgg4
 z4:=Tryz.sizeOf4
 v4:=Tryz.zeroValue4
 t9:=Tryz.underlying9
 a9:=Tryz.isAgg9
 z9:=Tryz.sizeOf9
 v9:=Tryz.zeroValue9
theorem zgm {w0:World} {F:Nat->Prop} {s_0 p1:ByteArray} {O:Bool->Prop} (h:U2 s_0 p1 O) :
  Calls Tryz.prog 248 #[.string s_0,.string p1] w0 (Ret [] F w0 O (fun (r:Bool) (u:Unit)=>.bool r) (fun (r:Bool) (u:Unit)=>[])) :=
 (Any.strings_HasPrefix Tryz.lays99 s_0 p1 w0).mono fun e w' ⟨h1,h2⟩=>by
  subst h2
  exact ⟨_,(),h,h1,zft,yr.nil _ _ _ _⟩
structure Tb (F:Nat->Prop) (w:World):Prop where
 here:F 1
 is:Lib.TabIs Tryz.prog w "internal/strconv.uint64pow10" .u64 Lib.pow10Tab
theorem tbG:Tryz.prog.globalNamed "internal/strconv.uint64pow10"=some 1:=by kernel_rfl
theorem Tb.of {F F0:Nat->Prop} {wr w:World} (t:Tb F0 wr) (h:(zl wr F0).holds F w):Tb F w:=⟨h.1 _ t.here,by
 have h1:=t.is
 have h2:=h.2 _ t.here
 unfold Lib.TabIs World.var? at h1 ⊢
 rw [tbG] at h1 ⊢
 simp only [Option.bind_some] at h1 ⊢
 rw [h2];exact h1⟩
theorem Tb.mono {F F':Nat->Prop} {w:World} (t:Tb F w) (h:∀ b,F b->F' b):Tb F' w:=⟨h _ t.here,t.is⟩
def Tryz.laysM171_ren:Go.Shelf.Ren:=⟨fun | 171=>192 | 243=>227 | 246=>246 | 283=>252 | 284=>253 | 285=>254 | 286=>255 | 129=>258 | 317=>257 | 318=>259 | 319=>260 | 320=>261 | 337=>262 | 338=>263 | n=>n,fun | 3=>3 | 9=>9 | 2=>2 | 4=>4 | 171=>303 | 0=>0 | 53=>304 | 37=>22 | 5=>5 | 173=>307 | 212=>310 | 51=>311 | 20=>20 | 213=>312 | 46=>313 | 232=>316 | 233=>317 | n=>n,fun | 17=>1 | 18=>2 | 19=>3 | n=>n⟩
theorem Tryz.laysM171:Go.Proofs.LaysM.n171 Tryz.prog Tryz.laysM171_ren where
 mixed:=by kernel_rfl
 f129:=Tryz.func258.trans (congrArg some (by kernel_rfl))
 f171:=Tryz.func192.trans (congrArg some (by kernel_rfl))
 f243:=Tryz.func227.trans (congrArg some (by kernel_rfl))
 f246:=Tryz.func246.trans (congrArg some (by kernel_rfl))
 f283:=Tryz.func252.trans (congrArg some (by kernel_rfl))
 f284:=Tryz.func253.trans (congrArg some (by kernel_rfl))
 f285:=Tryz.func254.trans (congrArg some (by kernel_rfl))
 f286:=Tryz.func255.trans (congrArg some (by kernel_rfl))
 f317:=Tryz.func257.trans (congrArg some (by kernel_rfl))
 f318:=Tryz.func259.trans (congrArg some (by kernel_rfl))
 f319:=Tryz.func260.trans (congrArg some (by kernel_rfl))
 f320:=Tryz.func261.trans (congrArg some (by kernel_rfl))
 f337:=Tryz.func262.trans (congrArg some (by kernel_rfl))
 f338:=Tryz.func263.trans (congrArg some (by kernel_rfl))
 t0:=Tryz.underlying0
 a0:=Tryz.isAgg0
 z0:=Tryz.sizeOf0
 v0:=Tryz.zeroValue0
 t2:=Tryz.underlying2
 a2:=Tryz.isAgg2
 z2:=Tryz.sizeOf2
 v2:=Tryz.zeroValue2
 t3:=Tryz.underlying3
 a3:=Tryz.isAgg3
 z3:=Tryz.sizeOf3
 v3:=Tryz.zeroValue3
 t4:=Tryz.underlying4
 a4:=Tryz.isAgg4
 z4:=Tryz.sizeOf4
 v4:=Tryz.zeroValue4
 t5:=Tryz.underlying5
 a5:=Tryz.isAgg5
 z5:=Tryz.sizeOf5
 v5:=Tryz.zeroValue5
 t9:=Tryz.underlying9
 a9:=Tryz.isAgg9
 z9:=Tryz.sizeOf9
 v9:=Tryz.zeroValue9
 t20:=Tryz.underlying20
 a20:=Tryz.isAgg20
 z20:=Tryz.sizeOf20
 v20:=Tryz.zeroValue20
 t37:=Tryz.underlying22
 a37:=Tryz.isAgg22
 z37:=Tryz.sizeOf22
 v37:=Tryz.zeroValue22
 t46:=Tryz.underlying313
 a46:=Tryz.isAgg313
 z46:=Tryz.sizeOf313
 v46:=Tryz.zeroValue313
 t51:=Tryz.underlying311
 a51:=Tryz.isAgg311
 z51:=Tryz.sizeOf311
 v51:=Tryz.zeroValue311
 t53:=Tryz.underlying304
 a53:=Tryz.isAgg304
 z53:=Tryz.sizeOf304
 v53:=Tryz.zeroValue304
 t171:=Tryz.underlying303
 a171:=Tryz.isAgg303
 z171:=Tryz.sizeOf303
 v171:=Tryz.zeroValue303
 t173:=Tryz.underlying307
 a173:=Tryz.isAgg307
 z173:=Tryz.sizeOf307
 v173:=Tryz.zeroValue307
 t212:=Tryz.underlying310
 a212:=Tryz.isAgg310
 z212:=Tryz.sizeOf310
 v212:=Tryz.zeroValue310
 t213:=Tryz.underlying312
 a213:=Tryz.isAgg312
 z213:=Tryz.sizeOf312
 t232:=Tryz.underlying316
 a232:=Tryz.isAgg316
 z232:=Tryz.sizeOf316
 v232:=Tryz.zeroValue316
 t233:=Tryz.underlying317
 a233:=Tryz.isAgg317
 z233:=Tryz.sizeOf317
 v233:=Tryz.zeroValue317
 g17:=by kernel_rfl
 g18:=by kernel_rfl
 g19:=by kernel_rfl
 i0:=by kernel_rfl
 i2:=by kernel_rfl
 i3:=by kernel_rfl
 i4:=by kernel_rfl
 i5:=by kernel_rfl
 i9:=by kernel_rfl
 i20:=by kernel_rfl
 i37:=by kernel_rfl
 i46:=by kernel_rfl
 i51:=by kernel_rfl
 i53:=by kernel_rfl
 i171:=by kernel_rfl
 i173:=by kernel_rfl
 i212:=by kernel_rfl
 i232:=by kernel_rfl
 i233:=by kernel_rfl
 m17:=by kernel_rfl
 m18:=by kernel_rfl
 m19:=by kernel_rfl
theorem Va {w0:World} {F F':Nat->Prop} {n_0:Int} {O:ByteArray->Prop} (t:Tb F' w0) (h:XK n_0 O) :
  Calls Tryz.prog 192 #[.int .i64 n_0] w0 (Ret [] F w0 O (fun (r:ByteArray) (u:Unit)=>.string r) (fun (r:ByteArray) (u:Unit)=>[])) :=
 (Any.strconv_Itoa Tryz.laysM171 n_0 h.1.1 h.1.2 w0 t.is).mono fun e w' ⟨h1,k,os,h2⟩=>by
  subst h2
  refine ⟨_,(),h.2,h1,⟨rfl,rfl,rfl,?_,fun b hb _=>?_⟩,yr.nil _ _ _ _⟩
  ·show w0.heap.size<=(w0.heap++os).size
   simp
  ·show (w0.heap++os)[b]?=w0.heap[b]?
   exact Array.getElem?_append_left hb
end Go.Proofs.YtgpdnnhmndlljaaGreatDoor
