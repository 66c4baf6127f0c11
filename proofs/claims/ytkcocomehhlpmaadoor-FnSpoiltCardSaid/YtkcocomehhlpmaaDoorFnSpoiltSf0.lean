/- The shelf's contracts for strings.Builder.String and strconv.Itoa, at this program (laid by the kit's tools, cut by wip/shelfcut.py). -/
import Derived.Shelf.Strings.BuilderK
import Derived.Shelf.Strconv.Itoa3
import Derived.Shelf.LaysM
import Derived.Test.YtkcocomehhlpmaaDoorChecked
namespace Go.Proofs
open Go.Shelf
def Tryd.lays169_ren : Go.Shelf.Ren := ⟨fun | 169 => 31 | n => n, fun | 70 => 54 | 9 => 9 | 0 => 0 | 72 => 56 | 37 => 34 | 127 => 84 | 3 => 3 | 5 => 5 | n => n, fun | n => n⟩
theorem Tryd.lays169 : Go.Proofs.Lays.n169 Tryd.prog Tryd.lays169_ren := {
 mixed := by kernel_rfl
 f169 := Tryd.func31.trans (congrArg some (by kernel_rfl))
 t0 := Tryd.underlying0
 a0 := Tryd.isAgg0
 z0 := Tryd.sizeOf0
 v0 := Tryd.zeroValue0
 t3 := Tryd.underlying3
 a3 := Tryd.isAgg3
 z3 := Tryd.sizeOf3
 v3 := Tryd.zeroValue3
 t9 := Tryd.underlying9
 a9 := Tryd.isAgg9
 z9 := Tryd.sizeOf9
 v9 := Tryd.zeroValue9
 t37 := Tryd.underlying34
 a37 := Tryd.isAgg34
 z37 := Tryd.sizeOf34
 v37 := Tryd.zeroValue34
 t70 := Tryd.underlying54
 a70 := Tryd.isAgg54
 z70 := Tryd.sizeOf54
 v70 := Tryd.zeroValue54
 t72 := Tryd.underlying56
 a72 := Tryd.isAgg56
 z72 := Tryd.sizeOf56
 v72 := Tryd.zeroValue56
 t127 := Tryd.underlying84
 a127 := Tryd.isAgg84
 z127 := Tryd.sizeOf84
 v127 := Tryd.zeroValue84 }
theorem Tryd.Builder_Extra_169 : Builder.Extra Tryd.prog Tryd.lays169_ren := {
 sizeBuilder := by kernel_rfl
 liesBuilder := by kernel_rfl
 t5 := Tryd.underlying5
 a5 := Tryd.isAgg5
 z5 := Tryd.sizeOf5
 v5 := Tryd.zeroValue5
 infoByte := by kernel_rfl
 cellsByte := by kernel_rfl
 sizeByte := by kernel_rfl
 neB5 := by decide }
open Go.RowKit in
theorem Tryd.Builder_String_any_k (B b : Nat) (l : List UInt8) (w : World) (h : Lib.IsBuilderF 56 5 B b (Lib.byteCells l) w) (hBw : B ≤ w.heap.size) :
  Calls Tryd.prog 31 #[.pointer (some ⟨b, 0, none⟩)] w fun e w' => e = .returned (.string ⟨l.toArray⟩) ∧ (Lib.IsBuilderF 56 5 B b (Lib.byteCells l) w' ∧ Below B w w' ∧ Lib.OthersKept 5 (some b) w w') := Any.Builder_String_any_k Tryd.lays169 Tryd.Builder_Extra_169 B b l w h hBw
def Tryd.laysM171_ren : Go.Shelf.Ren := ⟨fun | 171 => 28 | 243 => 52 | 246 => 61 | 283 => 62 | 284 => 63 | 285 => 64 | 286 => 65 | 129 => 67 | 317 => 66 | 318 => 68 | 319 => 69 | 320 => 70 | 337 => 71 | 338 => 72 | n => n, fun | 3 => 3 | 9 => 9 | 2 => 2 | 4 => 4 | 171 => 99 | 0 => 0 | 53 => 65 | 37 => 34 | 5 => 5 | 173 => 102 | 212 => 105 | 51 => 106 | 20 => 20 | 213 => 107 | 46 => 98 | 232 => 111 | 233 => 112 | n => n, fun | 17 => 0 | 18 => 1 | 19 => 2 | n => n⟩
theorem Tryd.laysM171 : Go.Proofs.LaysM.n171 Tryd.prog Tryd.laysM171_ren := {
 mixed := by kernel_rfl
 f129 := Tryd.func67.trans (congrArg some (by kernel_rfl))
 f171 := Tryd.func28.trans (congrArg some (by kernel_rfl))
 f243 := Tryd.func52.trans (congrArg some (by kernel_rfl))
 f246 := Tryd.func61.trans (congrArg some (by kernel_rfl))
 f283 := Tryd.func62.trans (congrArg some (by kernel_rfl))
 f284 := Tryd.func63.trans (congrArg some (by kernel_rfl))
 f285 := Tryd.func64.trans (congrArg some (by kernel_rfl))
 f286 := Tryd.func65.trans (congrArg some (by kernel_rfl))
 f317 := Tryd.func66.trans (congrArg some (by kernel_rfl))
 f318 := Tryd.func68.trans (congrArg some (by kernel_rfl))
 f319 := Tryd.func69.trans (congrArg some (by kernel_rfl))
 f320 := Tryd.func70.trans (congrArg some (by kernel_rfl))
 f337 := Tryd.func71.trans (congrArg some (by kernel_rfl))
 f338 := Tryd.func72.trans (congrArg some (by kernel_rfl))
 t0 := Tryd.underlying0
 a0 := Tryd.isAgg0
 z0 := Tryd.sizeOf0
 v0 := Tryd.zeroValue0
 t2 := Tryd.underlying2
 a2 := Tryd.isAgg2
 z2 := Tryd.sizeOf2
 v2 := Tryd.zeroValue2
 t3 := Tryd.underlying3
 a3 := Tryd.isAgg3
 z3 := Tryd.sizeOf3
 v3 := Tryd.zeroValue3
 t4 := Tryd.underlying4
 a4 := Tryd.isAgg4
 z4 := Tryd.sizeOf4
 v4 := Tryd.zeroValue4
 t5 := Tryd.underlying5
 a5 := Tryd.isAgg5
 z5 := Tryd.sizeOf5
 v5 := Tryd.zeroValue5
 t9 := Tryd.underlying9
 a9 := Tryd.isAgg9
 z9 := Tryd.sizeOf9
 v9 := Tryd.zeroValue9
 t20 := Tryd.underlying20
 a20 := Tryd.isAgg20
 z20 := Tryd.sizeOf20
 v20 := Tryd.zeroValue20
 t37 := Tryd.underlying34
 a37 := Tryd.isAgg34
 z37 := Tryd.sizeOf34
 v37 := Tryd.zeroValue34
 t46 := Tryd.underlying98
 a46 := Tryd.isAgg98
 z46 := Tryd.sizeOf98
 v46 := Tryd.zeroValue98
 t51 := Tryd.underlying106
 a51 := Tryd.isAgg106
 z51 := Tryd.sizeOf106
 v51 := Tryd.zeroValue106
 t53 := Tryd.underlying65
 a53 := Tryd.isAgg65
 z53 := Tryd.sizeOf65
 v53 := Tryd.zeroValue65
 t171 := Tryd.underlying99
 a171 := Tryd.isAgg99
 z171 := Tryd.sizeOf99
 v171 := Tryd.zeroValue99
 t173 := Tryd.underlying102
 a173 := Tryd.isAgg102
 z173 := Tryd.sizeOf102
 v173 := Tryd.zeroValue102
 t212 := Tryd.underlying105
 a212 := Tryd.isAgg105
 z212 := Tryd.sizeOf105
 v212 := Tryd.zeroValue105
 t213 := Tryd.underlying107
 a213 := Tryd.isAgg107
 z213 := Tryd.sizeOf107
 t232 := Tryd.underlying111
 a232 := Tryd.isAgg111
 z232 := Tryd.sizeOf111
 v232 := Tryd.zeroValue111
 t233 := Tryd.underlying112
 a233 := Tryd.isAgg112
 z233 := Tryd.sizeOf112
 v233 := Tryd.zeroValue112
 g17 := by kernel_rfl
 g18 := by kernel_rfl
 g19 := by kernel_rfl
 i0 := by kernel_rfl
 i2 := by kernel_rfl
 i3 := by kernel_rfl
 i4 := by kernel_rfl
 i5 := by kernel_rfl
 i9 := by kernel_rfl
 i20 := by kernel_rfl
 i37 := by kernel_rfl
 i46 := by kernel_rfl
 i51 := by kernel_rfl
 i53 := by kernel_rfl
 i171 := by kernel_rfl
 i173 := by kernel_rfl
 i212 := by kernel_rfl
 i232 := by kernel_rfl
 i233 := by kernel_rfl
 m17 := by kernel_rfl
 m18 := by kernel_rfl
 m19 := by kernel_rfl }
open Go.RowKit Go.Sort Go.Lib in
theorem Tryd.strconv_Itoa (n : Int) (h0 : -9223372036854775808 ≤ n) (h1 : n ≤ 9223372036854775807) (w : World) (htab : Lib.TabIs Tryd.prog w "internal/strconv.uint64pow10" .u64 Lib.pow10Tab) :
  Calls Tryd.prog 28 #[.int .i64 n] w fun e w' => e = .returned (.string ⟨(Lib.itoa n).toArray⟩) ∧ ∃ k os, w' = grow (w.drewN k) os := Any.strconv_Itoa Tryd.laysM171 n h0 h1 w htab
end Go.Proofs
