/-
  Contracts and laws for the law TopChoices, part 1 of 14; made small by a program of mine out of longer texts.
-/
import Derived.Shelf.Small.Bits
import Derived.Shelf.Small.Wraps
import Derived.Shelf.Strconv.Itoa0
import Derived.Shelf.Strconv.Itoa1
import Derived.Shelf.LaysM
import Derived.Shelf.Strconv.Itoa2
import Derived.Shelf.Strconv.Itoa3
import Derived.Shelf.Strings.Search1
import Derived.Shelf.Strings.Search2
import Derived.Shelf.Strings.Cut
import Derived.Shelf.Strings.Shaped
import Derived.Shelf.Sort.Plain
import Derived.Shelf.Bits.Mul64
import Derived.Shelf.Slices.Turned
import Derived.Ground.Names2Prog
import Derived.Shelf.Slices.Clone
import Derived.Shelf.Slices.SearchI
import Derived.Shelf.Slices.In.SortNone
import Derived.Test.YtdahpdnhkflnnaaGreatDoorProg
import Derived.WalkKit
import Derived.Deep.QuietTactic
import Derived.Below
import Derived.Lib.IndexMore
import Derived.Lib.CutLaws
import Derived.Lib.SlicesS
import Derived.BigQuiet
import Derived.Laws.Rows
import Derived.StillTail
import Derived.Laws.AppendOwn
import Derived.OwnWalk
import Derived.Shelf.Vars
import Derived.Test.YtdahpdnhkflnnaaGreatDoorRows
import Derived.WalkSpells
import Derived.Lib.Hide
import Derived.LoopTactic
import Derived.RegionTactic
import Derived.ChangeAlike
import Derived.Lib.ConvBytes
import Derived.Lib.Strings
import Derived.WalkSmall
import Derived.Laws.IdiomStrings
import Derived.Lib.ItoaLen
import Derived.Laws.RangeAny
import Derived.ProofKit
import Derived.OpenShut
import Derived.LaidMore
import Derived.Lib.LaidTab
import Derived.Carry
import Derived.Handed
import Derived.Laws.AppendOwnNone
import Derived.Deep.DeepAppendWide
import Derived.Deep.Slices
import Derived.Laws.CopyOwn
import Derived.ChangeArms
import Derived.Deep.Fields
import Derived.SliceStrings
import Derived.ChangeSlices
import Derived.Deep.RegionHeld3
import Derived.Tactics
import Derived.Tactics2
import Derived.Defers
import Derived.Recover
import Derived.Laws.Pointers
import Derived.Maps.OwnOps
import Derived.Maps.Views
import Derived.DeepKeys4
import Derived.Deep.CutBlock
import Derived.Deep.CutRange
import Derived.Lib.SliceRun
import Derived.Deep.MidRow
import Derived.OrdersHeld
import Derived.StringKeys
import Derived.Laws.MakeOwn
import Derived.Laws.Entries
import Derived.Laws.EntriesVeiled
import Derived.Lib.BitFns
import Derived.Lib.AppendZerosOnto
import Derived.WalkMore
import Derived.Laws.CopyRow
import Derived.Deep.AppendSrc
import Derived.RangeFuncBox
import Derived.RangeFuncLeaves
import Derived.RangeFuncFrom
import Derived.RangeFuncWrites
import Derived.Shelf.Abstract
import Derived.OwnWalkIn
import Derived.TacticsInMore
import Derived.LoopNIn
import Derived.LoopIn
import Derived.Maps.AppendAt
import Derived.Sort.OwnSortedInts
import Derived.IntWalk
import Derived.ChangeSame
import Derived.DataShut
namespace Go.Proofs
set_option linter.unusedVariables false
set_option linter.unusedSimpArgs false
set_option linter.defProp false
set_option maxRecDepth 100000
set_option maxHeartbeats 64000000
section
open Go.Shelf
open Go.RowKit in
open Go.Lib in
open Go.Lib in
open Go.Lib in
open Go.Lib in
open Go.RowKit Go.Sort Go.Lib in
def Tryz.laysM246_ren:Go.Shelf.Ren:=⟨fun |246=>360|283=>363|284=>364|285=>365|286=>366|129=>291|317=>367|318=>368|319=>369|320=>370|337=>371|338=>372|n=>n,fun |2=>2|3=>3|9=>9|4=>4|171=>363|0=>0|53=>55|37=>305|5=>5|173=>365|212=>367|51=>324|20=>20|213=>368|46=>285|232=>369|233=>370|n=>n,fun |17=>2|18=>3|19=>4|n=>n⟩
open Go.RowKit Go.Sort Go.Lib in
open Go.RowKit Go.Sort Go.Lib in
def Tryz.laysM243_ren:Go.Shelf.Ren:=⟨fun |243=>343|246=>360|283=>363|284=>364|285=>365|286=>366|129=>291|317=>367|318=>368|319=>369|320=>370|337=>371|338=>372|n=>n,fun |3=>3|9=>9|2=>2|4=>4|171=>363|0=>0|53=>55|37=>305|5=>5|173=>365|212=>367|51=>324|20=>20|213=>368|46=>285|232=>369|233=>370|n=>n,fun |17=>2|18=>3|19=>4|n=>n⟩
open Go.RowKit Go.Sort Go.Lib in
open Go.RowKit Go.Sort Go.Lib in
def Tryz.laysM171_ren:Go.Shelf.Ren:=⟨fun |171=>302|243=>343|246=>360|283=>363|284=>364|285=>365|286=>366|129=>291|317=>367|318=>368|319=>369|320=>370|337=>371|338=>372|n=>n,fun |3=>3|9=>9|2=>2|4=>4|171=>363|0=>0|53=>55|37=>305|5=>5|173=>365|212=>367|51=>324|20=>20|213=>368|46=>285|232=>369|233=>370|n=>n,fun |17=>2|18=>3|19=>4|n=>n⟩
open Go.RowKit Go.Sort Go.Lib in
def Tryz.lays171_ren:Go.Shelf.Ren:=⟨fun |171=>302|243=>343|246=>360|283=>363|284=>364|285=>365|286=>366|129=>291|317=>367|318=>368|319=>369|320=>370|337=>371|338=>372|n=>n,fun |3=>3|9=>9|2=>2|4=>4|171=>363|0=>0|53=>55|37=>305|5=>5|173=>365|212=>367|51=>324|20=>20|213=>368|46=>285|232=>369|233=>370|n=>n,fun |17=>2|18=>3|19=>4|n=>n⟩
theorem Tryz.lays171:Go.Proofs.Lays.n171 Tryz.prog Tryz.lays171_ren:={
 mixed:=by kernel_rfl
 f129:=Tryz.func291.trans (congrArg some (by kernel_rfl))
 f171:=Tryz.func302.trans (congrArg some (by kernel_rfl))
 f243:=Tryz.func343.trans (congrArg some (by kernel_rfl))
 f246:=Tryz.func360.trans (congrArg some (by kernel_rfl))
 f283:=Tryz.func363.trans (congrArg some (by kernel_rfl))
 f284:=Tryz.func364.trans (congrArg some (by kernel_rfl))
 f285:=Tryz.func365.trans (congrArg some (by kernel_rfl))
 f286:=Tryz.func366.trans (congrArg some (by kernel_rfl))
 f317:=Tryz.func367.trans (congrArg some (by kernel_rfl))
 f318:=Tryz.func368.trans (congrArg some (by kernel_rfl))
 f319:=Tryz.func369.trans (congrArg some (by kernel_rfl))
 f320:=Tryz.func370.trans (congrArg some (by kernel_rfl))
 f337:=Tryz.func371.trans (congrArg some (by kernel_rfl))
 f338:=Tryz.func372.trans (congrArg some (by kernel_rfl))
 t0:=Tryz.underlying0
 a0:=Tryz.isAgg0
 z0:=Tryz.sizeOf0
 v0:=Tryz.zeroValue0
 t2:=Tryz.underlying2
 a2:=Tryz.isAgg2
 z2:=Tryz.sizeOf2
 v2:=Tryz.zeroValue2
 t3:=Tryz.underlying3
 a3:=Tryz.isAgg3
 z3:=Tryz.sizeOf3
 v3:=Tryz.zeroValue3
 t4:=Tryz.underlying4
 a4:=Tryz.isAgg4
 z4:=Tryz.sizeOf4
 v4:=Tryz.zeroValue4
 t5:=Tryz.underlying5
 a5:=Tryz.isAgg5
 z5:=Tryz.sizeOf5
 v5:=Tryz.zeroValue5
 t9:=Tryz.underlying9
 a9:=Tryz.isAgg9
 z9:=Tryz.sizeOf9
 v9:=Tryz.zeroValue9
 t20:=Tryz.underlying20
 a20:=Tryz.isAgg20
 z20:=Tryz.sizeOf20
 v20:=Tryz.zeroValue20
 t37:=Tryz.underlying305
 a37:=Tryz.isAgg305
 z37:=Tryz.sizeOf305
 v37:=Tryz.zeroValue305
 t46:=Tryz.underlying285
 a46:=Tryz.isAgg285
 z46:=Tryz.sizeOf285
 v46:=Tryz.zeroValue285
 t51:=Tryz.underlying324
 a51:=Tryz.isAgg324
 z51:=Tryz.sizeOf324
 v51:=Tryz.zeroValue324
 t53:=Tryz.underlying55
 a53:=Tryz.isAgg55
 z53:=Tryz.sizeOf55
 v53:=Tryz.zeroValue55
 t171:=Tryz.underlying363
 a171:=Tryz.isAgg363
 z171:=Tryz.sizeOf363
 v171:=Tryz.zeroValue363
 t173:=Tryz.underlying365
 a173:=Tryz.isAgg365
 z173:=Tryz.sizeOf365
 v173:=Tryz.zeroValue365
 t212:=Tryz.underlying367
 a212:=Tryz.isAgg367
 z212:=Tryz.sizeOf367
 v212:=Tryz.zeroValue367
 t213:=Tryz.underlying368
 a213:=Tryz.isAgg368
 z213:=Tryz.sizeOf368
 t232:=Tryz.underlying369
 a232:=Tryz.isAgg369
 z232:=Tryz.sizeOf369
 v232:=Tryz.zeroValue369
 t233:=Tryz.underlying370
 a233:=Tryz.isAgg370
 z233:=Tryz.sizeOf370
 v233:=Tryz.zeroValue370
 g17:=by kernel_rfl
 g18:=by kernel_rfl
 g19:=by kernel_rfl}
open Go.RowKit Go.Sort Go.Lib in
theorem Tryz.strconv_Itoa_small (i:Nat) (hi:i<100) (w:World):
  Calls Tryz.prog 302 #[.int .i64 i] w fun e w'=>e= .returned (.string ⟨(Lib.decDigits i).toArray⟩)∧w'=w:=Any.strconv_Itoa_small Tryz.lays171 i hi w
open Go.RowKit Go.Lib in
open Go.RowKit Go.Lib in
open Go.RowKit Go.Lib in
open Go.RowKit Go.Lib in
def Tryz.lays219_ren:Go.Shelf.Ren:=⟨fun |219=>342|217=>356|225=>357|224=>358|267=>359|266=>361|314=>362|n=>n,fun |9=>9|3=>3|4=>4|5=>5|46=>285|146=>361|51=>324|n=>n,fun |1=>1|n=>n⟩
theorem Tryz.lays219:Go.Proofs.Lays.n219 Tryz.prog Tryz.lays219_ren:={
 mixed:=by kernel_rfl
 f217:=Tryz.func356.trans (congrArg some (by kernel_rfl))
 f219:=Tryz.func342.trans (congrArg some (by kernel_rfl))
 f224:=Tryz.func358.trans (congrArg some (by kernel_rfl))
 f225:=Tryz.func357.trans (congrArg some (by kernel_rfl))
 f266:=Tryz.func361.trans (congrArg some (by kernel_rfl))
 f267:=Tryz.func359.trans (congrArg some (by kernel_rfl))
 f314:=Tryz.func362.trans (congrArg some (by kernel_rfl))
 t3:=Tryz.underlying3
 a3:=Tryz.isAgg3
 z3:=Tryz.sizeOf3
 v3:=Tryz.zeroValue3
 t4:=Tryz.underlying4
 a4:=Tryz.isAgg4
 z4:=Tryz.sizeOf4
 v4:=Tryz.zeroValue4
 t5:=Tryz.underlying5
 a5:=Tryz.isAgg5
 z5:=Tryz.sizeOf5
 v5:=Tryz.zeroValue5
 t9:=Tryz.underlying9
 a9:=Tryz.isAgg9
 z9:=Tryz.sizeOf9
 v9:=Tryz.zeroValue9
 t46:=Tryz.underlying285
 a46:=Tryz.isAgg285
 z46:=Tryz.sizeOf285
 v46:=Tryz.zeroValue285
 t51:=Tryz.underlying324
 a51:=Tryz.isAgg324
 z51:=Tryz.sizeOf324
 v51:=Tryz.zeroValue324
 t146:=Tryz.underlying361
 a146:=Tryz.isAgg361
 z146:=Tryz.sizeOf361
 v146:=Tryz.zeroValue361
 g1:=by kernel_rfl}
open Go.RowKit Go.Lib in
theorem Tryz.stringslite_Index_one (s:ByteArray) (c:UInt8) (w:World):
  Calls Tryz.prog 342 #[.string s,.string ⟨#[c]⟩] w fun e w'=>e= .returned (.int .i64 (Lib.indexByte s.data.toList c))∧w'=w:=Any.stringslite_Index_one Tryz.lays219 s c w
open Go.RowKit Go.Lib in
open Go.RowKit Go.Lib in
open Go.RowKit Go.Lib in
open Go.RowKit Go.Lib in
open Go.RowKit Go.Lib in
open Go.RowKit Go.Lib in
def Tryz.lays189_ren:Go.Shelf.Ren:=⟨fun |189=>153|125=>227|257=>226|128=>290|129=>291|294=>281|295=>282|296=>283|297=>284|298=>285|299=>286|216=>287|300=>288|301=>289|328=>322|329=>323|330=>324|331=>325|332=>326|215=>327|343=>346|n=>n,fun |28=>32|3=>3|46=>285|0=>0|51=>324|53=>55|4=>4|183=>317|182=>316|131=>264|5=>5|9=>9|218=>340|222=>344|228=>353|229=>354|n=>n,fun |n=>n⟩
theorem Tryz.lays189:Go.Proofs.Lays.n189 Tryz.prog Tryz.lays189_ren:={
 mixed:=by kernel_rfl
 f125:=Tryz.func227.trans (congrArg some (by kernel_rfl))
 f128:=Tryz.func290.trans (congrArg some (by kernel_rfl))
 f129:=Tryz.func291.trans (congrArg some (by kernel_rfl))
 f189:=Tryz.func153.trans (congrArg some (by kernel_rfl))
 f215:=Tryz.func327.trans (congrArg some (by kernel_rfl))
 f216:=Tryz.func287.trans (congrArg some (by kernel_rfl))
 f257:=Tryz.func226.trans (congrArg some (by kernel_rfl))
 f294:=Tryz.func281.trans (congrArg some (by kernel_rfl))
 f295:=Tryz.func282.trans (congrArg some (by kernel_rfl))
 f296:=Tryz.func283.trans (congrArg some (by kernel_rfl))
 f297:=Tryz.func284.trans (congrArg some (by kernel_rfl))
 f298:=Tryz.func285.trans (congrArg some (by kernel_rfl))
 f299:=Tryz.func286.trans (congrArg some (by kernel_rfl))
 f300:=Tryz.func288.trans (congrArg some (by kernel_rfl))
 f301:=Tryz.func289.trans (congrArg some (by kernel_rfl))
 f328:=Tryz.func322.trans (congrArg some (by kernel_rfl))
 f329:=Tryz.func323.trans (congrArg some (by kernel_rfl))
 f330:=Tryz.func324.trans (congrArg some (by kernel_rfl))
 f331:=Tryz.func325.trans (congrArg some (by kernel_rfl))
 f332:=Tryz.func326.trans (congrArg some (by kernel_rfl))
 f343:=Tryz.func346.trans (congrArg some (by kernel_rfl))
 t0:=Tryz.underlying0
 a0:=Tryz.isAgg0
 z0:=Tryz.sizeOf0
 v0:=Tryz.zeroValue0
 t3:=Tryz.underlying3
 a3:=Tryz.isAgg3
 z3:=Tryz.sizeOf3
 v3:=Tryz.zeroValue3
 t4:=Tryz.underlying4
 a4:=Tryz.isAgg4
 z4:=Tryz.sizeOf4
 v4:=Tryz.zeroValue4
 t5:=Tryz.underlying5
 a5:=Tryz.isAgg5
 z5:=Tryz.sizeOf5
 v5:=Tryz.zeroValue5
 t9:=Tryz.underlying9
 a9:=Tryz.isAgg9
 z9:=Tryz.sizeOf9
 v9:=Tryz.zeroValue9
 t28:=Tryz.underlying32
 a28:=Tryz.isAgg32
 z28:=Tryz.sizeOf32
 v28:=Tryz.zeroValue32
 t46:=Tryz.underlying285
 a46:=Tryz.isAgg285
 z46:=Tryz.sizeOf285
 v46:=Tryz.zeroValue285
 t51:=Tryz.underlying324
 a51:=Tryz.isAgg324
 z51:=Tryz.sizeOf324
 v51:=Tryz.zeroValue324
 t53:=Tryz.underlying55
 a53:=Tryz.isAgg55
 z53:=Tryz.sizeOf55
 v53:=Tryz.zeroValue55
 t131:=Tryz.underlying264
 a131:=Tryz.isAgg264
 z131:=Tryz.sizeOf264
 v131:=Tryz.zeroValue264
 t182:=Tryz.underlying316
 a182:=Tryz.isAgg316
 z182:=Tryz.sizeOf316
 v182:=Tryz.zeroValue316
 t183:=Tryz.underlying317
 a183:=Tryz.isAgg317
 z183:=Tryz.sizeOf317
 v183:=Tryz.zeroValue317
 t218:=Tryz.underlying340
 a218:=Tryz.isAgg340
 z218:=Tryz.sizeOf340
 v218:=Tryz.zeroValue340
 t222:=Tryz.underlying344
 a222:=Tryz.isAgg344
 z222:=Tryz.sizeOf344
 v222:=Tryz.zeroValue344
 t228:=Tryz.underlying353
 a228:=Tryz.isAgg353
 z228:=Tryz.sizeOf353
 v228:=Tryz.zeroValue353
 t229:=Tryz.underlying354
 a229:=Tryz.isAgg354
 z229:=Tryz.sizeOf354
 v229:=Tryz.zeroValue354}
open Go.Sort Go.RowKit in
theorem Tryz.slices_Sort_int (blk off cap:Nat) (zs:List Int) (w:World) (hH:Holds (Value.int .i64) w blk off zs.toArray) (hblk:blk<w.heap.size) (hsz:zs.length<4611686018427387904):
  Calls Tryz.prog 153 #[.slice (some ⟨blk,off,none⟩) zs.length cap] w fun e w'=>
   e= .returned (.tuple #[])∧∃n os,w'=grow (putRow (Value.int .i64) (Sort.ahead w n) blk off (zs.mergeSort fun x y=>decide (x≤y)).toArray) os:=Any.slices_Sort_int Tryz.lays189 blk off cap zs w hH hblk hsz
open Go.RowKit Go.Lib in
open Go.Lib in
open Go.Lib in
def Tryz.lays107_ren:Go.Shelf.Ren:=⟨fun |107=>293|108=>328|n=>n,fun |28=>32|3=>3|4=>4|0=>0|n=>n,fun |n=>n⟩
theorem Tryz.lays107:Go.Proofs.Lays.n107 Tryz.prog Tryz.lays107_ren:={
 mixed:=by kernel_rfl
 f107:=Tryz.func293.trans (congrArg some (by kernel_rfl))
 f108:=Tryz.func328.trans (congrArg some (by kernel_rfl))
 t0:=Tryz.underlying0
 a0:=Tryz.isAgg0
 z0:=Tryz.sizeOf0
 v0:=Tryz.zeroValue0
 t3:=Tryz.underlying3
 a3:=Tryz.isAgg3
 z3:=Tryz.sizeOf3
 v3:=Tryz.zeroValue3
 t4:=Tryz.underlying4
 a4:=Tryz.isAgg4
 z4:=Tryz.sizeOf4
 v4:=Tryz.zeroValue4
 t28:=Tryz.underlying32
 a28:=Tryz.isAgg32
 z28:=Tryz.sizeOf32
 v28:=Tryz.zeroValue32}
open Go.Lib in
theorem Tryz.slices_Contains_int (b off n c:Nat) (zs:List Int) (x:Int) (w:World) (hz:n≤zs.length) (hbig:n≤9223372036854775807) (hc:∀j,j<zs.length→w.cell? ⟨b,off+j,none⟩=some (.int .i64 (zs.getD j 0))):
  Calls Tryz.prog 293 #[.slice (some ⟨b,off,none⟩) n c,.int .i64 x] w fun e w'=>e= .returned (.bool ((zs.take n).contains x))∧w'=w:=Any.slices_Contains_int Tryz.lays107 b off n c zs x w hz hbig hc
open Go.Lib in
theorem Tryz.slices_Contains_int_empty (a:Option Addr) (c:Nat) (x:Int) (w:World):
  Calls Tryz.prog 293 #[.slice a 0 c,.int .i64 x] w fun e w'=>e= .returned (.bool false)∧w'=w:=Any.slices_Contains_int_empty Tryz.lays107 a c x w
open Go.Lib in
open Go.Lib in
def Tryz.lays110_ren:Go.Shelf.Ren:=⟨fun |110=>294|109=>329|n=>n,fun |31=>188|9=>9|4=>4|3=>3|0=>0|n=>n,fun |n=>n⟩
theorem Tryz.lays110:Go.Proofs.Lays.n110 Tryz.prog Tryz.lays110_ren:={
 mixed:=by kernel_rfl
 f109:=Tryz.func329.trans (congrArg some (by kernel_rfl))
 f110:=Tryz.func294.trans (congrArg some (by kernel_rfl))
 t0:=Tryz.underlying0
 a0:=Tryz.isAgg0
 z0:=Tryz.sizeOf0
 v0:=Tryz.zeroValue0
 t3:=Tryz.underlying3
 a3:=Tryz.isAgg3
 z3:=Tryz.sizeOf3
 v3:=Tryz.zeroValue3
 t4:=Tryz.underlying4
 a4:=Tryz.isAgg4
 z4:=Tryz.sizeOf4
 v4:=Tryz.zeroValue4
 t9:=Tryz.underlying9
 a9:=Tryz.isAgg9
 z9:=Tryz.sizeOf9
 v9:=Tryz.zeroValue9
 t31:=Tryz.underlying188
 a31:=Tryz.isAgg188
 z31:=Tryz.sizeOf188
 v31:=Tryz.zeroValue188}
open Go.Lib in
theorem Tryz.slices_Contains_string (b off n c:Nat) (zs:List ByteArray) (x:ByteArray) (w:World) (hz:n≤zs.length) (hbig:n≤9223372036854775807) (hc:∀j,j<zs.length→w.cell? ⟨b,off+j,none⟩=some (.string (zs.getD j ByteArray.empty))):
  Calls Tryz.prog 294 #[.slice (some ⟨b,off,none⟩) n c,.string x] w fun e w'=>e= .returned (.bool (Lib.containsS (zs.take n) x))∧w'=w:=Any.slices_Contains_string Tryz.lays110 b off n c zs x w hz hbig hc
open Go.Lib in
theorem Tryz.slices_Contains_string_empty (a:Option Addr) (c:Nat) (x:ByteArray) (w:World):
  Calls Tryz.prog 294 #[.slice a 0 c,.string x] w fun e w'=>e= .returned (.bool false)∧w'=w:=Any.slices_Contains_string_empty Tryz.lays110 a c x w
def Tryz.laysNm215_ren:Go.Shelf.Ren:=⟨fun |15=>88|n=>n,fun |22=>32|3=>3|4=>4|n=>n,fun |n=>n⟩
theorem Tryz.laysNm215:Go.Proofs.Lays2.n15 Tryz.prog Tryz.laysNm215_ren:={
 mixed:=by kernel_rfl
 f15:=Tryz.func88.trans (congrArg some (by kernel_rfl))
 t3:=Tryz.underlying3
 a3:=Tryz.isAgg3
 z3:=Tryz.sizeOf3
 v3:=Tryz.zeroValue3
 t4:=Tryz.underlying4
 a4:=Tryz.isAgg4
 z4:=Tryz.sizeOf4
 v4:=Tryz.zeroValue4
 t22:=Tryz.underlying32
 a22:=Tryz.isAgg32
 z22:=Tryz.sizeOf32
 v22:=Tryz.zeroValue32
 i3:=by kernel_rfl}
open Go.RowKit Go.Lib in
theorem Tryz.slices_Clone_int (b off n c:Nat) (zs:List Int) (w:World) (hz:n≤zs.length) (hbig:n*8≤140737488355328) (hc:∀j,j<zs.length→w.cell? ⟨b,off+j,none⟩=some (.int .i64 (zs.getD j 0))):
  Calls Tryz.prog 88 #[.slice (some ⟨b,off,none⟩) n c] w fun e w'=>∃v',e= .returned v'∧w'.ownsRow w.heap.size 3 1 v' n ((zs.take n).map (Value.int .i64))∧v'≠ .slice none 0 0∧Below w.heap.size w w':=Any.slices_Clone_int Tryz.laysNm215 b off n c zs w hz hbig hc
open Go.RowKit Go.Lib in
theorem Tryz.slices_Clone_int_nil (n c:Nat) (w:World):
  Calls Tryz.prog 88 #[.slice none n c] w fun e w'=>e= .returned (.slice none 0 0)∧w'=w:=Any.slices_Clone_int_nil Tryz.laysNm215 n c w
open Go.RowKit Go.Lib in
theorem Tryz.slices_Clone_int_zero (a:Addr) (c:Nat) (w:World):
  Calls Tryz.prog 88 #[.slice (some a) 0 c] w fun e w'=>∃v',e= .returned v'∧w'.ownsRow w.heap.size 3 1 v' 0 []∧v'≠ .slice none 0 0∧Below w.heap.size w w':=Any.slices_Clone_int_zero Tryz.laysNm215 a c w
open Go.RowKit Go.Lib in
open Go.RowKit Go.Lib in
open Go.RowKit Go.Sort in
theorem Tryz.slices_Sort_int_none (p:Option Addr) (cap:Nat) (w:World):
  Calls Tryz.prog 153 #[.slice p 0 cap] w fun e w'=>e= .returned (.tuple #[])∧w'=w:=Any.slices_Sort_int_none Tryz.lays189 p cap w
end
end Go.Proofs
namespace Go.Proofs.YtdahpdnhkflnnaaGreatDoor
set_option linter.unusedVariables false
set_option linter.unusedSimpArgs false
set_option linter.defProp false
set_option maxRecDepth 100000
set_option maxHeartbeats 64000000
section
section
open Go.RowKit
def fits (n:Int):Bool:=decide (-9223372036854775808<=n/\n<=9223372036854775807)
def cE (n:Int):Int:=if fits n then 0 else 3
theorem aS {k:IntKind} {a b:Int} (h:a=b):Ending.returned (.int k a)= .returned (.int k b):=by rw[h]
theorem bF {a b:Bool} (h:a=b):Ending.returned (.bool a)= .returned (.bool b):=by rw[h]
def I64 (a:Int):Prop:= -9223372036854775808<=a/\a<=9223372036854775807
theorem aP (a:Addr) (n:Nat):(a.add n).block=a.block:=by unfold Addr.add;split<;>rfl
theorem ay {B:Nat} {a w:World} (h:Below B a w) (n:Nat):Below B a (w.drewN n):=⟨h.os,h.tape,h.output,h.size,h.block⟩
end
section
open Go.RowKit
def byt (d:ByteArray) (k:Nat):Int:=((d.data.toList.getD k 0).toNat:Int)
theorem byt_bd (d:ByteArray) (k:Nat):0<=byt d k/\byt d k<=255:=by
 unfold byt;have:=(d.data.toList.getD k 0).toNat_lt;omega
theorem ir (d:ByteArray) (k:Nat) (h:k<d.size):byt d k=(d[k].toNat:Int):=by
 unfold byt;rw[List.getD_eq_getElem?_getD,List.getElem?_eq_getElem (by simpa using h)]
 rfl
def digs (d:ByteArray) (k:Nat):Prop:=∀j,j<k->48<=byt d j/\byt d j<=57
theorem digs_zero (d:ByteArray):digs d 0:=λ_ h=>by omega
def isNeg (s:ByteArray):Bool:=decide (0<s.size/\byt s 0=45)
def body (s:ByteArray):ByteArray:=if isNeg s then s.extract 1 s.size else s
open Classical in
open Classical in
end
section
open Go.RowKit
def ix (b:UInt8):List UInt8->Nat
 |[]=>0
 |x::l=>if x=b then 0 else ix b l+1
section
variable {b:UInt8}
theorem kQ:∀l,ix b l<=l.length
 |[]=>Nat.le_refl _
 |x::l=>by unfold ix;have:=kQ l;split<;>simp<;>omega
theorem ix_at:∀l,ix b l<l.length->l.getD (ix b l) 0=b
 |[],h=>absurd h (by simp)
 |x::l,h=>by
  unfold ix at h⊢
  split
  ·rename_i e;simpa using e
  ·rename_i e;rw[if_neg e] at h;simp only[List.getD_cons_succ];exact ix_at l (by simp at h;omega)
theorem ix_ne:∀l j,j<ix b l->l.getD j 0≠b
 |[],j,h=>absurd h (by simp[ix])
 |x::l,j,h=>by
  unfold ix at h
  split at h
  ·omega
  ·rename_i e
   cases j with
   |zero=>simpa using e
   |succ j=>simp only[List.getD_cons_succ];exact ix_ne l j (by omega)
theorem qw:∀(l:List UInt8),(∀x∈l,x≠b)->ix b l=l.length
 |[],_=>rfl
 |x::l,h=>by
  simp only[ix,if_neg (h x (by simp)),List.length_cons];rw[qw l λy a=>h y (by simp[a])]
theorem pz (l:List UInt8) (k:Nat) (h:k<=l.length) (c:∀j,j<k->l.getD j 0≠b) (d:k<l.length->l.getD k 0=b):ix b l=k:=by
 have e1:=kQ (b:=b) l;rcases Nat.lt_trichotomy (ix b l) k with a|a|a
 ·exact absurd (ix_at l (by omega)) (c _ a)
 ·exact a
 ·exact absurd (d (by omega)) (ix_ne l k a)
end
end
section
open Go.RowKit
def eJ (c:Int):Bool:=decide (97<=c/\c<=122)
def mK (c:Int):Bool:=decide (48<=c/\c<=57)
def ey (c:Int):Bool:=decide ((97<=c/\c<=122)\/(48<=c/\c<=57)\/(65<=c/\c<=90)\/c=95)
def Wrd (s:ByteArray):Prop:=0<s.size/\eJ (byt s 0)=true/\∀j,j<s.size->ey (byt s j)=true
instance (s:ByteArray):Decidable (Wrd s):=by unfold Wrd;infer_instance
def fp:List ByteArray:=[⟨#[99,108,97,115,115]⟩,⟨#[101,120,116,101,110,100,115]⟩,⟨#[114,97,110,100]⟩,⟨#[114,97,110,100,99]⟩,⟨#[115,116,97,116,101]⟩,⟨#[99,111,110,115,116,114,97,105,110,116]⟩,⟨#[115,111,102,116]⟩,⟨#[100,105,115,116]⟩,⟨#[105,102]⟩,⟨#[101,108,115,101]⟩,⟨#[101,97,99,104]⟩,⟨#[105,110]⟩,⟨#[115,111,108,118,101]⟩,⟨#[98,101,102,111,114,101]⟩,⟨#[105,110,115,105,100,101]⟩,⟨#[112,114,111,112,101,114,116,121]⟩,⟨#[115,101,113]⟩,⟨#[97,110,100]⟩,⟨#[111,114]⟩,⟨#[110,111,116]⟩,⟨#[115,101,116]⟩,⟨#[104,111,108,100]⟩,⟨#[112,108,97,105,110]⟩,⟨#[114,101,112,101,97,116]⟩]
def kR (s:ByteArray):Bool:=Lib.containsS fp s
def aN (s:ByteArray):Bool:=decide (Wrd s)&&decide (s.size<=16)&& !kR s
theorem b9 {s:ByteArray}:aN s=true↔Wrd s/\s.size<=16/\kR s=false:=by
 unfold aN;simp[and_assoc]
def Elt (s:ByteArray):Prop:=4<=s.size/\byt s (s.size-1)=93/\byt s (s.size-3)=91/\48<=byt s (s.size-2)/\byt s (s.size-2)<56/\aN (s.extract 0 (s.size-3))=true
instance (s:ByteArray):Decidable (Elt s):=by unfold Elt;infer_instance
def lI (s:ByteArray):Bool:=decide (Elt s)||aN s
theorem pU {s:ByteArray} {b:UInt8} (h:Wrd s) (d:ey b.toNat=false):∀x∈s.data.toList,x≠b:=by
 intro x f e;obtain⟨j,c,rfl⟩:=List.mem_iff_getElem.1 f;have a:=h.2.2 j (by rw[Lib.size_eq];exact c);unfold byt at a;rw[List.getD_eq_getElem?_getD,List.getElem?_eq_getElem c] at a;simp only[Option.getD_some] at a;rw[e,d] at a;cases a
def cI (b:UInt8) (s:ByteArray):ByteArray:=⟨(s.data.toList.take (ix b s.data.toList)).toArray⟩
def dZ (b:UInt8) (s:ByteArray):ByteArray:=⟨(s.data.toList.drop (ix b s.data.toList+1)).toArray⟩
def eV (b:UInt8) (s:ByteArray):Bool:=decide (ix b s.data.toList<s.data.toList.length)
theorem fO (b:UInt8) (s:ByteArray):(cI b s).size=ix b s.data.toList:=by
 have:=kQ (b:=b) s.data.toList;unfold cI;rw[Lib.size_eq];simp only[List.length_take];omega
theorem lP (b:UInt8) (s:ByteArray):(dZ b s).size=s.size-(ix b s.data.toList+1):=by
 unfold dZ;rw[Lib.size_eq,Lib.size_eq];simp
theorem mB {b c:ByteArray} (h:b.data.toList=c.data.toList):b=c:=by
 obtain⟨⟨b⟩⟩:=b;obtain⟨⟨c⟩⟩:=c;simp only at h;rw[h]
theorem cX (b:UInt8) (s:ByteArray):s.extract 0 (ix b s.data.toList)=cI b s:=mB (by
 unfold cI;rw[Lib.extract_data];simp)
theorem oO (b:UInt8) (s:ByteArray) (j:Nat):byt (dZ b s) j=byt s (ix b s.data.toList+1+j):=by
 unfold byt dZ;simp[List.getD_eq_getElem?_getD,List.getElem?_drop]
theorem qO {b:UInt8} {s:ByteArray} (h:eV b s=true):byt s (ix b s.data.toList)=b.toNat:=by
 unfold byt;rw[ix_at _ (of_decide_eq_true h)]
def varP (s:ByteArray):Bool:=if eV 91 s=true then aN (cI 91 s)&&(decide ((dZ 91 s).size=2)&&(decide (48<=byt (dZ 91 s) 0)&&(decide (byt (dZ 91 s) 0<56)&&decide (byt (dZ 91 s) 1=93)))) else aN s
theorem varP_eq (s:ByteArray):varP s=lI s:=by
 have p:aN s=true->eV 91 s=false:=λh=>by
  have i:=(b9.1 h).1;unfold eV;rw[qw _ (pU i (by decide))];simp
 have n:Elt s->eV 91 s=true/\ix 91 s.data.toList=s.size-3:=λh=>by
  obtain⟨k,l,d,f,g,m⟩:=h;have i:=(b9.1 m).1;have o:s.data.toList.length=s.size:=(Lib.size_eq s).symm
  have c:ix 91 s.data.toList=s.size-3:=by
   refine pz _ _ (by omega) (λj u=> ?_) (λ_=> ?_)
   ·have:=pU i (b:=91) (by decide) (s.data.toList.getD j 0) (by
     rw[Lib.extract_data];simp only[List.drop_zero,Nat.sub_zero];rw[List.getD_eq_getElem?_getD,List.getElem?_eq_getElem (by omega)];simp only[Option.getD_some];rw[List.mem_take_iff_getElem]
     exact⟨j,by omega,rfl⟩)
    exact this
   ·unfold byt at d;exact UInt8.toNat_inj.1 (by simpa using(by omega:(s.data.toList.getD (s.size-3) 0).toNat=91))
  exact⟨by unfold eV;rw[c];exact decide_eq_true (by omega),c⟩
 unfold varP lI
 by_cases a:eV 91 s=true
 ·rw[if_pos a]
  have t:aN s=false:=by
   cases h:aN s
   ·rfl
   ·rw[p h] at a;cases a
  rw[t,Bool.or_false,Bool.eq_iff_iff];simp only[Bool.and_eq_true,decide_eq_true_eq];have r:ix 91 s.data.toList<s.size:=by rw[Lib.size_eq];exact of_decide_eq_true a
  constructor
  ·rintro⟨k,l,d,f,g⟩;have i:=(b9.1 k).1.1;rw[lP] at l;rw[fO] at i;have c:ix 91 s.data.toList=s.size-3:=by omega
   have q:=qO a;rw[oO] at d f g;refine⟨by omega, ?_, ?_, ?_, ?_, ?_⟩
   ·rw[<-g];congr 1;omega
   ·rw[<-c,q];rfl
   ·have e:ix 91 s.data.toList+1+0=s.size-2:=by omega
    rw[e] at d;exact d
   ·have e:ix 91 s.data.toList+1+0=s.size-2:=by omega
    rw[e] at f;exact f
   ·rw[<-c,cX];exact k
  ·intro h;obtain⟨_,c⟩:=n h;obtain⟨k,l,d,f,g,m⟩:=h;rw[lP,oO,oO,<-cX,c];refine⟨m,by omega, ?_, ?_, ?_⟩
   ·rw[show s.size-3+1+0=s.size-2 by omega];exact f
   ·rw[show s.size-3+1+0=s.size-2 by omega];exact g
   ·rw[show s.size-3+1+1=s.size-1 by omega];exact l
 ·rw[if_neg a];have:¬Elt s:=λh=>a (n h).1;rw[decide_eq_false this,Bool.false_or]
end
section
open Go.RowKit
structure Lat (w0:World) where
 w:World
 h:Below w0.heap.size w0 w
instance (w0:World):Nonempty (Lat w0):=⟨⟨w0,Below.refl _ _⟩⟩
theorem ae {w0:World} (n:Nat):Below w0.heap.size w0 {w0 with drawn:=n}:=⟨rfl,rfl,rfl,Nat.le_refl _,λ_ _=>rfl⟩
theorem kP {w0 w':World}:(∃p:Lat w0,w'=p.w)↔Below w0.heap.size w0 w':=⟨λ⟨p,h⟩=>h▸p.h,λh=>⟨⟨w',h⟩,rfl⟩⟩
theorem aJ {P:Program} {f:Nat} {Q:Exit->Act->World->Prop} {a:Act} {w:World} {l:List Oper} (hm:P.follows .mixedOrders=true) (d:Region.lexB .any l.toArray=true)
  (h:wpQuiet P l.toArray (λw'=>∃p:Lat w,w'=p.w) (λb=>∀w',Below w.heap.size w w'->Q .normal b w') l a):(Code.region f l.toArray true).wp P Q a w:=by
 refine wp_region_quiet (C:=λw'=>∃p:Lat w,w'=p.w) hm d (kP.2 (ae _)) ?_
 have e:(λb=>∀w',Below w.heap.size w w'->Q .normal b w')=(λb=>∀w',(∃p:Lat w,w'=p.w)->Q .normal b w'):=by
  funext b
  refine propext ⟨λh w' c=>h w' (kP.1 c),λh w' c=>h w' (kP.2 c)⟩
 rw[<-e];simpa using h
theorem bQ {P:Program} {f:FuncId} {args:Array Value} {w0:World} {p:Lat w0} {v:Value} (h:Calls P f args p.w λe w'=>e= .returned v/\Below p.w.heap.size p.w w'):
  Calls P f args p.w λe a=>e= .returned v/\∃q:Lat w0,a=q.w:=
 h.mono λ_ _ ⟨he,hb⟩=>⟨he,⟨_,p.h.trans (hb.mono p.h.size)⟩,rfl⟩
end
section
open Go.RowKit
def Box (w:World) (g:Nat) (cs:Array Value) (t:TypeId):Prop:=w.heap[g]? =some (.cells cs t (0,0))
section
variable {w w':World} {g:Nat} {t:TypeId} {cs:Array Value}
theorem Box.lt (h:Box w g cs t):g<w.heap.size:=by
 rcases Nat.lt_or_ge g w.heap.size with b|a
 ·exact b
 ·unfold Box at h;rw[Array.getElem?_eq_none a] at h;cases h
theorem Box.cell (h:Box w g cs t) (i:Nat):w.cell? ⟨g,i,none⟩=cs[i]? :=cell_of_row w g i cs t (0,0) h
theorem Box.frozen (h:Box w g cs t) (i:Nat):w.frozen? ⟨g,i,none⟩=false:=by
 unfold Box at h;simp[World.frozen?,h]
theorem Box.new (w:World) (t:TypeId) (cs:Array Value):Box (w.alloc (.cells cs t)) w.heap.size cs t:=heap_alloc_new w _
theorem Box.below (h:Box w g cs t) (a:Below w.heap.size w w'):Box w' g cs t:=(a.block g h.lt).trans h
theorem Box.lat (h:Box w g cs t) (i:Nat) (v:Value) (a:cs[i]? =some v):∀p:Lat w,p.w.cell? ⟨g,i,none⟩=some v:=λp=>by
 rw[(h.below p.h).cell i,a]
theorem Box.at_ (h:Box w g cs t) (i:Nat) (v:Value) (a:cs[i]? =some v):w.cell? ⟨g,i,none⟩=some v:=by rw[h.cell i,a]
end
theorem Box.set_ {w:World} {g:Nat} {t:TypeId} {cs:Array Value} (h:Box w g cs t) (i:Nat) (u:Value):Box (w.setCell ⟨g,i,none⟩ u) g (cs.setIfInBounds i u) t:=by
 unfold Box at h⊢;simp[World.setCell,Array.getElem?_modify,h]
theorem Box.setNe {w:World} {g:Nat} {t:TypeId} {cs:Array Value} (h:Box w g cs t) {p:Addr} (hp:p.block≠g) (u:Value):Box (w.setCell p u) g cs t:=by
 unfold Box at h⊢;rw[<-h];simp[World.setCell,Array.getElem?_modify,hp]
theorem ac (w:World) (o:Obj):Below w.heap.size w (w.alloc o):=(Below.refl _ _).alloc (Nat.le_refl _) _
theorem fi {W:World} {g:Nat} (t:TypeId) (cs:Array Value) (h:W.heap.size=g):Box (W.alloc (.cells cs t)) g cs t:=h▸Box.new W t cs
theorem ab {w w1 w2:World} (h:Below w.heap.size w w1) (a:Below w1.heap.size w1 w2):Below w.heap.size w w2:=h.trans (a.mono h.size)
end
section
open Go.RowKit
section
variable {P:Program} {ops:Array Oper} {md:Region.Mode} {C:World->Prop}
def jY (P:Program) (md:Region.Mode) (ops:Array Oper) (C:World->Prop) (n:Nat) (L:Array Bool->Act->Prop):Nat->Array Bool->Act->Prop
 |0,listed,a=>L listed a
 |f+1,listed,a=>Region.ready md ops listed≠[]/\∀i∈Region.ready md ops listed,i<n/\qOp P ops C i (jY P md ops C n L f (listed.setIfInBounds i true)) a
theorem mC {n g:Nat} {L:Array Bool->Act->Prop} {Q':Exit->Act->World->Prop} (d:∀b a w,C w->L b a->wpAny P md ops Q' g b a w):
  ∀(f:Nat) (b:Array Bool) (a:Act) (w:World),C w->jY P md ops C n L f b a->wpAny P md ops Q' (f+g) b a w
 |0,b,a,w,hw,h=>by rw[Nat.zero_add];exact d _ _ _ hw h
 |f+1,b,a,w,hw,h=>by
  have e:f+1+g=(f+g)+1:=by omega
  rw[e];refine⟨λl=>absurd l h.1,λi hi=> ?_⟩;exact wpOp_of_qOp hw (λj w' c k=>mC d f _ j w' c k) (h.2 i hi).2
theorem oo {n i:Nat} {z:Oper} {v:Value} {L:Array Bool->Act->Prop} (hi:ops[i]? =some z) (l:∀(j:Nat) (o:Oper) cs b,ops[j]? =some o->o.op≠ .select cs b)
  (J:Region.sinkB md ops n=true) (G:Region.chainB md ops n=true) (I:n<ops.size) (u:i<n) (g:∀c a,L c a->∀j∈Region.ready md ops c,n<=j):
  ∀(f:Nat) (c:Array Bool) (a:Act),HeadInv md ops n c→
   (∀j s,ops[j]? =some s->j≠i->c.getD j true=false->(∀e∈s.after,Region.binds md e=true->e.on≠i)->z.apart ops s=true)→
   i∈Region.ready md ops c->YieldsIn P ops C z v a->jY P md ops C n L f (c.setIfInBounds i true) (a.put z.dst v)->jY P md ops C n L (f+1) c a
 |f,c,a,inv,hfree,hr,hy,H=>by
  have y:=(mem_ready.1 hr).1;have q:∀j∈Region.ready md ops c,j<n:=λj m=>Classical.byContradiction λh=>tail_waits J G I inv _ i rfl u y j (by omega) m;refine⟨λh=>(by rw[h] at hr;cases hr),λj m=>⟨q j m, ?_⟩⟩
  by_cases d:j=i
  ·subst d;exact hy.qOp hi H
  cases f with
  |zero=>have:=g _ _ H j (ready_mono m d);have:=q j m;omega
  |succ f=>
   obtain⟨p,s,r,t⟩:=mem_ready.1 m
   have x:∀e∈s.after,Region.binds md e=true->e.on≠i:=λe Q N A=>by
    have E:=t e Q N;rw[A,getD_both y] at E;cases E
   have M:=qOp_put r (hfree j s r d p x) (λcs b=>l i z cs b hi) (λcs b=>l j s cs b r) hy (H.2 j (ready_mono m d)).2;refine qOp_mono (λK F=>oo hi l J G I u g f (c.setIfInBounds j true) K (inv.set m (q j m)) (λk S hk B R D=> ?_) (ready_mono hr (Ne.symm d)) F.1 ?_) M
   ·refine hfree k S hk B ?_ D
    by_cases w:j=k
    ·subst w;exact p
    ·rwa [getD_set_ne true w] at R
   ·rw[Array.setIfInBounds_comm _ _ d];exact F.2
theorem sr {n g:Nat} {Lq:Act->Prop} (c:Region.noSelect ops=true) (m:Region.sinkB md ops n=true) (e:Region.chainB md ops n=true) (f:n<ops.size):
  ∀(l:List Oper) (k:Nat) (listed:Array Bool) (a:Act),(∀j,j<l.length->l[j]? =ops[k+j]?)->k+l.length=n->HeadInv md ops n listed->Region.lexHead md ops g l.length k listed=true->wpQuiet P ops C Lq l a→
   jY P md ops C n (λb p=>Region.seqB md ops g n b=true/\Lq p) l.length listed a
 |[],k,listed,a,_,hk,_,hB,h=>by
  obtain rfl:k=n:=by simpa using hk
  exact⟨by simpa [Region.lexHead] using hB,h⟩
 |o::l,k,listed,a,hl,hk,inv,hB,h=>by
  have d:ops[k]? =some o:=by simpa using(hl 0 (by simp)).symm
  rw[List.length_cons] at hk hB;simp only[Region.lexHead,Bool.and_eq_true] at hB;have i:k∈Region.ready md ops listed:=by simpa using hB.1.1
  have s:qOp P ops C k (wpQuiet P ops C Lq l) a:=by unfold qOp;simp only[d];exact h
  obtain⟨v,t,q⟩:=yieldsIn_of_qOp d s;refine oo d (Region.noSelect_spec c) m e f (by omega) (λ_ _ r=>seqB_ready r.1) l.length listed a inv (Region.free_spec d hB.1.2) i t ?_;refine sr c m e f l (k+1) _ _ (λj u=> ?_) (by omega) (inv.set i (by omega)) hB.2 q;have:=hl (j+1) (by simp only[List.length_cons];omega);rw[List.getElem?_cons_succ] at this;rw[this];congr 1;omega
theorem aL {D:Nat} {Q:Exit->Act->World->Prop} {a:Act} {w:World} {l:List Oper} (n:Nat) (hm:P.follows .mixedOrders=true) (o:Region.lexTailB .any l.toArray n=true)
  (h:wpQuiet P l.toArray (λw'=>∃p:Lat w,w'=p.w) (λk=>∀w',Below w.heap.size w w'->wpList P l.toArray Q (l.drop n) k w') (l.take n) a):(Code.region D l.toArray true).wp P Q a w:=by
 simp only[Region.lexTailB,Bool.and_eq_true,decide_eq_true_eq] at o;obtain⟨⟨⟨⟨f,u⟩,A⟩,x⟩,e⟩:=o;have z:n<l.length:=by simpa using u
 have b:(l.take n).length=n:=by rw[List.length_take];omega
 have d:(l.drop n).length=l.toArray.size-n:=by simp
 have i:HeadInv .any l.toArray n (Array.replicate l.toArray.size false):=
  ⟨by simp,λj E _ s=>(by rw[getD_replicate_false] at s;cases s),λt _ B=>getD_in (by simpa using B) (getD_replicate_false _ _)⟩
 have H:=sr (md:= .any) (g:=l.toArray.size-n) f A x u (l.take n) 0 _ a (λj r=>by
  have m:j<n:=by rw[b] at r;exact r
  simp[m]) (by simpa using b) i (by rw[b];exact e) h
 refine wp_region_any hm ?_;have K:=λy=>mC (Q':=Q) (g:=l.toArray.size-n) y _ _ _ _ (kP.2 (ae (w0:=w) (w.drawn+1))) H
 have this:=K (λc k w' C q=>by
  have v:=wpAny_of_seq (md:= .any) (Q':=Q) (l.drop n) n c k w' (λj=>by simp[List.getElem?_drop]) (by rw[d];exact q.1) (q.2 w' (kP.1 C))
  rwa [d] at v)
 rw[b,show n+(l.toArray.size-n)=l.toArray.size by omega] at this;exact this
end
end
section
open Go.RowKit
theorem gI {a w:World} (h:Below a.heap.size a w) (row:Option Nat):a.grownBy w row:=⟨h.os,h.tape,h.output,h.size,λi hi _=>h.block i hi⟩
theorem lQ {w w':World} {base:Nat} {e:TypeId} {size:Nat} {v:Value} {n:Nat} {xs:List Value} (h:w.ownsRow base e size v n xs) (a:Below w.heap.size w w'):w'.ownsRow base e size v n xs:=by
 refine h.kept (gI a none) ?_;exact Classical.em _
theorem iJ {w:World} {base:Nat} {e:TypeId} {size:Nat} {v:Value} {n:Nat} {xs:List Value} (h:w.ownsRow base e size v n xs) (k:Nat) (hk:v.ownBlock=some k):base<=k:=by
 rcases h.2 with⟨rfl,_⟩|⟨g,cap,cur,rfl,a,_⟩
 ·simp[Value.ownBlock] at hk
 ·simp[Value.ownBlock] at hk;omega
def IL (w:World) (v:Value) (zs:List Int):Prop:=∃(A:Option Addr) (c:Nat),v= .slice A zs.length c/\zs.length<=c/\(0<zs.length->∃a,A=some a/\a.block<w.heap.size/\∀j,j<zs.length->w.cell? (a.add j)=some (.int .i64 (zs.getD j 0)))
theorem IL.nil (w:World):IL w (.slice none 0 0) []:=⟨none,0,rfl,Nat.le_refl _,λh=>absurd h (by simp)⟩
theorem IL.below {w w':World} {v:Value} {l:List Int} (h:IL w v l) (d:Below w.heap.size w w'):IL w' v l:=by
 obtain⟨A,c,rfl,f,h⟩:=h
 exact⟨A,c,rfl,f,λi=>by
  obtain⟨a,e,b,k⟩:=h i
  exact⟨a,e,Nat.lt_of_lt_of_le b d.size,λj g=>by rw[d.cell (by rw[aP];exact b)];exact k j g⟩⟩
def gF (l:List Int):List Value:=l.map (Value.int .i64)
theorem IL.of_own {w:World} {base:Nat} {t:TypeId} {v:Value} {n:Nat} {l:List Int} (h:w.ownsRow base t 1 v n (gF l)):IL w v l:=by
 have f:l.length=n:=by have:=h.1;simpa [gF] using this
 obtain⟨_,a⟩:=h;have i:=a;rcases a with⟨rfl,a⟩|⟨g,cap,cur,rfl,o,d,m,_⟩
 ·have:l=[]:=List.eq_nil_of_length_eq_zero (by omega);subst this;exact IL.nil w
 ·refine⟨some ⟨g,0,none⟩,cap,by rw[f],by omega,λhp=>⟨⟨g,0,none⟩,rfl, ?_,λj k=> ?_⟩⟩
  ·rcases Nat.lt_or_ge g w.heap.size with c|b
   ·exact c
   ·rw[Array.getElem?_eq_none b] at d;cases d
  ·have:=World.ownsRow.cells (g:=g) (w:=w) (base:=base) (e:=t) (size:=1) (n:=n) (xs:=gF l) ⟨by simpa [gF] using f,i⟩ rfl j (.int .i64 (l.getD j 0)) (by
    simp[gF,List.getD_eq_getElem?_getD,List.getElem?_eq_getElem k])
   exact this
end
section
open Go.RowKit
structure RS (w:World) (a:Addr) (l:List ByteArray):Prop where
 lt:a.block<w.heap.size
 cells:∀j,j<l.length->w.cell? (a.add j)=some (.string (l.getD j ⟨#[]⟩))
theorem RS.below {w w':World} {a:Addr} {l:List ByteArray} (h:RS w a l) (b:Below w.heap.size w w'):RS w' a l:=
 ⟨Nat.lt_of_lt_of_le h.lt b.size,λj c=>(b.cell (by rw[aP];exact h.lt)).trans (h.cells j c)⟩
def SL (w:World) (v:Value) (l:List ByteArray):Prop:=∃(A:Option Addr) (c:Nat),v= .slice A l.length c/\l.length<=c/\(0<l.length->∃a,A=some a/\RS w a l)
theorem SL.below {w w':World} {v:Value} {l:List ByteArray} (h:SL w v l) (d:Below w.heap.size w w'):SL w' v l:=by
 obtain⟨A,c,rfl,e,h⟩:=h;exact⟨A,c,rfl,e,λf=>by obtain⟨a,b,g⟩:=h f;exact⟨a,b,g.below d⟩⟩
def scells (l:List ByteArray):List Value:=l.map Value.string
theorem istr:(Tryz.prog.info? 9).map (λi=>(i.zero,i.size,i.bytes))=some (some (.string ⟨#[]⟩),1,16):=by kernel_rfl
end
section
open Go.RowKit
def cM (w:World):Prop:=∃m,w.cell? ⟨1,0,none⟩=some (.int .i64 m)
theorem cM.below {w w':World} (h:cM w) (c:Below w.heap.size w w'):cM w':=by
 obtain⟨m,h⟩:=h
 have a:1<w.heap.size:=by
  rcases Nat.lt_or_ge 1 w.heap.size with a|b
  ·exact a
  ·unfold World.cell? at h;simp only[Array.getElem?_eq_none b] at h;cases h
 exact⟨m,by rw[c.cell (p:=⟨1,0,none⟩) a];exact h⟩
theorem mlen_of_shaped {W:World} (h:W.ShapedOpen Tryz.prog):cM W:=
 cell_of_shapedOpen_int (zero:=#[.int .i64 0]) (t:=3) (k:= .i64) h (by decide+kernel) (by kernel_rfl) rfl (by kernel_rfl) (by kernel_rfl) (by kernel_rfl)
end
section
open Go.RowKit
theorem zh {p:Prop} (h:p):Hid p:=h
class Zm (w w':World) (P:Prop) (Q:outParam Prop):Prop where
 mv:Below w.heap.size w w'->P->Q
theorem zb {w w':World} {P Q:Prop} [Zm w w' P Q] (h:Hid P) (a:Below w.heap.size w w'):Hid Q:=Zm.mv (P:=P) a h
instance {w0 w w':World}:Zm w w' (Below w0.heap.size w0 w) (Below w0.heap.size w0 w'):=⟨λhb h=>ab h hb⟩
instance {w w':World} {g:Nat} {cs:Array Value} {t:TypeId}:Zm w w' (Box w g cs t) (Box w' g cs t):=⟨λhb h=>h.below hb⟩
theorem za {w:World} {g:Nat} {cs:Array Value} {t:TypeId} (h:Hid (Box w g cs t)) (i:Nat) {v:Value} (e:cs[i]? =some v):w.cell? ⟨g,i,none⟩=some v:=h.out.at_ i v e
theorem zv {α:Type _} (x:α):∃y,y=x:=⟨x,rfl⟩
theorem zA1 {w w1:World} {cs:Array Value} {t:TypeId} (h:w.alloc (.cells cs t)=w1):Below w.heap.size w w1/\Hid (Box w1 w.heap.size cs t):=by subst h;exact⟨ac _ _,Box.new _ _ _⟩
theorem zA2 {w w1 w2:World} {c1 c2:Array Value} {b a:TypeId} (c:w.alloc (.cells c1 b)=w1) (d:w1.alloc (.cells c2 a)=w2):Below w.heap.size w w2/\Hid (Box w2 w.heap.size c1 b)/\Hid (Box w2 (w.heap.size+1) c2 a):=by
 subst c;subst d;exact⟨ab (ac _ _) (ac _ _),(Box.new _ _ _).below (ac _ _),fi a c2 (by simp)⟩
theorem zA3 {w w1 w2 d:World} {c1 c2 c3:Array Value} {h i e:TypeId} (f:w.alloc (.cells c1 h)=w1) (g:w1.alloc (.cells c2 i)=w2) (j:w2.alloc (.cells c3 e)=d):Below w.heap.size w d/\Hid (Box d w.heap.size c1 h)/\Hid (Box d (w.heap.size+1) c2 i)/\Hid (Box d (w.heap.size+1+1) c3 e):=by
 obtain⟨a,b,c⟩:=zA2 f g;subst j;exact⟨ab a (ac _ _),b.out.below (ac _ _),c.out.below (ac _ _),fi e c3 (by subst f;subst g;simp)⟩
theorem zA4 {w w1 w2 m e:World} {c1 c2 c3 c4:Array Value} {j k l f:TypeId} (g:w.alloc (.cells c1 j)=w1) (h:w1.alloc (.cells c2 k)=w2) (i:w2.alloc (.cells c3 l)=m) (n:m.alloc (.cells c4 f)=e):Below w.heap.size w e/\Hid (Box e w.heap.size c1 j)/\Hid (Box e (w.heap.size+1) c2 k)/\Hid (Box e (w.heap.size+1+1) c3 l)/\Hid (Box e (w.heap.size+1+1+1) c4 f):=by
 obtain⟨a,b,c,d⟩:=zA3 g h i;subst n;exact⟨ab a (ac _ _),b.out.below (ac _ _),c.out.below (ac _ _),d.out.below (ac _ _),fi f c4 (by subst g;subst h;subst i;simp)⟩
theorem zB4 {w w1 w2 f a:World} {c1 c2 c3 c4:Array Value} {b c d e:TypeId} (g:w.alloc (.cells c1 b)=w1) (h:w1.alloc (.cells c2 c)=w2) (i:w2.alloc (.cells c3 d)=f) (j:f.alloc (.cells c4 e)=a):Hid (Below w.heap.size w a)/\Hid (Box a w.heap.size c1 b)/\Hid (Box a (w.heap.size+1) c2 c)/\Hid (Box a (w.heap.size+1+1) c3 d)/\Hid (Box a (w.heap.size+1+1+1) c4 e):=zA4 g h i j
theorem zB1 {w w1:World} {cs:Array Value} {t:TypeId} (h:w.alloc (.cells cs t)=w1):Hid (Below w.heap.size w w1)/\Hid (Box w1 w.heap.size cs t):=zA1 h
theorem zB2 {w w1 w2:World} {c1 c2:Array Value} {a b:TypeId} (c:w.alloc (.cells c1 a)=w1) (d:w1.alloc (.cells c2 b)=w2):Hid (Below w.heap.size w w2)/\Hid (Box w2 w.heap.size c1 a)/\Hid (Box w2 (w.heap.size+1) c2 b):=zA2 c d
theorem zB3 {w w1 w2 a:World} {c1 c2 c3:Array Value} {b c d:TypeId} (e:w.alloc (.cells c1 b)=w1) (f:w1.alloc (.cells c2 c)=w2) (g:w2.alloc (.cells c3 d)=a):Hid (Below w.heap.size w a)/\Hid (Box a w.heap.size c1 b)/\Hid (Box a (w.heap.size+1) c2 c)/\Hid (Box a (w.heap.size+1+1) c3 d):=zA3 e f g
theorem zk2 {a b:Prop} (x:a) (y:b):Hid a/\Hid b:=⟨x,y⟩
theorem zk3 {a b c:Prop} (x:a) (y:b) (z:c):Hid a/\Hid b/\Hid c:=⟨x,y,z⟩
theorem zk4 {a b c d:Prop} (x:a) (y:b) (z:c) (u:d):Hid a/\Hid b/\Hid c/\Hid d:=⟨x,y,z,u⟩
theorem zk5 {a b c d e:Prop} (x:a) (y:b) (z:c) (u:d) (v:e):Hid a/\Hid b/\Hid c/\Hid d/\Hid e:=⟨x,y,z,u,v⟩
theorem zk6 {a b c d e f:Prop} (x:a) (y:b) (z:c) (u:d) (v:e) (w:f):Hid a/\Hid b/\Hid c/\Hid d/\Hid e/\Hid f:=⟨x,y,z,u,v,w⟩
theorem zp:(∀(a:Act) (i:Nat) (v:Value),a.put (some i) v={a with tmps:=a.tmps.setIfInBounds i v})/\(∀(a:Act) (v:Value),a.put none v=a)/\(∀{α:Type} (l:List α) (i:Nat) (h:i<l.toArray.size),l.toArray[i]=l[i]'(by simpa using h))/\(∀{α:Type} (a:α) (l:List α) (h:0<(a::l).length),(a::l)[0]=a)/\(∀{α:Type} (a:α) (l:List α) (i:Nat) (h:i+1<(a::l).length),(a::l)[i+1]=l[i]'(by simpa using h))/\(∀{α:Type} (l:List α) (i:Nat) (a:α),l.toArray.setIfInBounds i a=(l.set i a).toArray)/\(∀{α:Type} (a b:α) (l:List α),(a::l).set 0 b=b::l)/\(∀{α:Type} (a b:α) (l:List α) (n:Nat),(a::l).set (n+1) b=a::l.set n b):=
 ⟨λ_ _ _=>rfl,λ_ _=>rfl,λ_ _ _=>rfl,λ_ _ _=>rfl,λ_ _ _ _=>rfl,λ_ _ _=>List.setIfInBounds_toArray ..,λ_ _ _=>rfl,λ_ _ _ _=>rfl⟩
theorem zt {P:Program} {md:Region.Mode} {ops:Array Oper} {Q:Exit->Act->World->Prop} {S:World->Prop} {f:Oper} {d:Nat} {b:Array Bool} {a:Act} {w:World} (i:Nat) (v:Value) (hi:ops[i]? =some f) (j:YieldsIf P ops S f v a)
  (h:wpAnyH P md ops Q S d (b.setIfInBounds i true) (a.put f.dst v) w) (e:(Region.noSelect ops&&(Region.free md ops b i&&(Region.ready md ops b).contains i))=true:=by kernel_rfl) (hQ:∀c a w,Q (.panic c) (a.put f.dst v) w->Q (.panic c) a w:=by exact λ_ _ _ h=>h) (g:S w:=by assumption):wpAnyH P md ops Q S (d+1) b a w:=by
 rw[Bool.and_eq_true,Bool.and_eq_true] at e;exact wpAnyH_take hi e.1 e.2.1 e.2.2 hQ j g h
theorem zm (fn:Go.Fn) (first cap:Array Value) (w:World):(Instr.makeFunc fn first cap).run Tryz.prog w= .ok (.func fn first cap) w:=rfl
end
def yj:=@List.getD_eq_getElem?_getD
def yp:=@List.getElem?_eq_getElem
def yq:=@Nat.le_refl
def yr:=@List.length_cons
def yt:=@Nat.zero_le
def yu:=@List.length_append
def yv:=@decide_eq_false
def yw:=@if_neg
def yx:=@Go.RowKit.Below.refl
def yy:=@Option.some.injEq
def yz:=@if_pos
def yA:=@Go.Value.slice.injEq
def yB:=@decide_eq_true
def yC:=@List.mem_cons
def yD:=@List.length_map
def yE:=@Nat.lt_of_lt_of_le
def yF:=@Bool.and_eq_true
def yG:=@List.getElem?_append_right
def yH:=@Nat.zero_add
def yI:=@List.not_mem_nil
def yJ:=@List.getElem?_eq_some_iff
def yK:=@Nat.le_trans
def yM:=@List.length_take
def yN:=@Go.wpQuiet_nil
def yO:=@List.drop_zero
def yP:=@List.getElem?_append_left
def yQ:=@Go.bodyPost_ret
def yR:=@List.length_nil
def yS:=@List.mem_iff_getElem
def yT:=@List.mem_cons_of_mem
def yU:=@Nat.add_zero
def yV:=@List.eq_nil_of_length_eq_zero
def yW:=@List.getElem?_map
def yX:=@List.take_succ_cons
def yY:=@decide_eq_true_eq
def yZ:=@List.append_assoc
def y5:=@Int.toNat_natCast
def y6:=@List.drop_succ_cons
def y7:=@List.length_singleton
def y8:=@List.getElem?_toArray
def y9:=@List.take_zero
def Ab:=@Go.wp_region_held_drew
def Ai:=@List.take_of_length_le
def Aj:=@Go.RowKit.Below.heap_setCell
def Am:=@List.take_add_one
def Aq:=@List.drop_eq_getElem_cons
def As:=@List.length_set
def Ax:=@List.length_replicate
def Ay:=@List.take_length
def Az:=@Option.some.inj
def AA:=@congrArg
def AC:=@Nat.pow_le_pow_right
def AD:=@of_decide_eq_true
def AE:=@List.any_eq_true
def AF:=@List.drop_eq_nil_of_le
def AG:=@Nat.sub_self
def AH:=@or_false
def AI:=@List.size_toArray
def AJ:=@List.getElem_mem
def AK:=@List.getElem?_eq_none
def AM:=@List.foldl_cons
def AN:=@Go.wpAnyH_done
def AP:=@List.mem_map
def AQ:=@List.mem_append
def AR:=@List.getElem?_set_self
def AS:=@List.flatMap_cons
def AT:=@List.append_nil
def AU:=@List.getElem?_set_ne
def AV:=@Option.getD_some
def AW:=@List.mem_singleton
def AX:=@Option.map_some
def AY:=@List.length_drop
def AZ:=@List.mem_append_left
def A8:=@List.length_range
def Ba:=@Go.Lib.size_eq
def Bb:=@Go.info_parts
def Bc:=@List.getElem?_take_of_lt
def Be:=@List.getElem?_range
def Bf:=@List.setIfInBounds_toArray
def Bg:=@List.getElem?_replicate
def Bh:=@Classical.byContradiction
def Bi:=@Nat.mod_eq_of_lt
def Bj:=@List.all_eq_true
def Bk:=@beq_eq_false_iff_ne
def Bl:=@List.map_congr_left
def Bn:=@List.mem_append_right
def Bo:=@List.map_map
def Bp:=@List.filter_congr
def Bq:=@List.set_cons_zero
def Br:=@List.getElem?_drop
def Bt:=@Go.IntWalk.i64_in
def Bu:=@Array.getElem?_eq_some_iff
def Bw:=@Go.Obj.cells.injEq
def Bx:=@List.map_append
def By:=@List.cons.injEq
def Bz:=@Bool.eq_iff_iff
def BA:=@List.foldl_append
def BD:=@Nat.pos_of_ne_zero
def BE:=@Go.mem_ready
def BF:=@Go.getD_replicate_false
def BG:=@Go.World.block_lt_of_cell?
def BH:=@Or.inr
def BI:=@List.mem_range
def BJ:=@List.filter_map
def BM:=@Array.getElem?_setIfInBounds_ne
def BO:=@List.set_append_right
def BP:=@List.ext_getElem
def BQ:=@Ne.symm
def BR:=@Nat.pow_succ
def BS:=@Go.Region.noSelect_spec
def BU:=@List.getElem?_cons_succ
def BW:=@Int.eq_ofNat_of_zero_le
def BX:=@Go.yieldsIn_of_qOp
def BY:=@Nat.mul_comm
def BZ:=@Go.getD_set_ne
def B4:=@Prod.mk.injEq
def B5:=@Bool.true_and
def B7:=@Bool.false_or
def B8:=@Go.Addr.mk.injEq
def B9:=@and_true
def Ca:=@Go.DataW.trod_int
def Cb:=@List.rel_of_pairwise_cons
def Cc:=@if_false
def Cd:=@Nat.lt_or_ge
def Ce:=@List.flatten_cons
def Cf:=@Nat.mod_lt
def Cg:=@decide_eq_false_iff_not
def Ch:=@Nat.exists_eq_add_of_le
def Ci:=@Go.Lib.extract_data
def Cj:=@Go.ready_mono
def Ck:=@Bool.false_eq_true
def Cl:=@Bool.or_eq_true
def Cm:=@List.map_cons
section
open Go.RowKit
theorem numSize (a:Int) (w:World) (c: -9223372036854775808<=a) (b:a<=9223372036854775807):
  Calls Tryz.prog 320 #[.int .i64 a] w λe w'=>e= .returned (.int .u64 (a.natAbs:Int))/\w=w':=by
 go_enter Tryz.func320,Tryz.ntmps320
 go_wp2
 all_goals
  go_ret;refine⟨aS ?_,rfl⟩
  try simp only[IntKind.wrap_u64]
  omega
end
section
open Go.RowKit
theorem refBelow (a:Int) (w:World) (c: -9223372036854775808<=a) (b:a<=9223372036854775807):
  Calls Tryz.prog 259 #[.int .i64 a] w λe w'=>e= .returned (.int .i64 (-(a.natAbs:Int)))/\w=w':=by
 go_enter Tryz.func259,Tryz.ntmps259
 go_wp2
 all_goals
  go_ret;refine⟨aS ?_,rfl⟩;omega
end
section
open Go.RowKit
def pw (a:Int) (k:Nat):Int:=a^k
end
section
open Go.RowKit
def Tab (w:World):Prop:=Lib.TabIs Tryz.prog w "internal/strconv.uint64pow10" .u64 Lib.pow10Tab
theorem gPow:Tryz.prog.globalNamed "internal/strconv.uint64pow10"=some 2:=by kernel_rfl
def xI (n:Int):ByteArray:=⟨(Lib.itoa n).toArray⟩
end
section
open Go.RowKit
theorem oN {b c:ByteArray} (h:b.data.toList=c.data.toList):b=c:=by
 obtain⟨⟨l⟩⟩:=b;obtain⟨⟨m⟩⟩:=c;simp at h;rw[h]
theorem lZ (n:Int):(xI n).data.toList=Lib.itoa n:=by simp[xI]
theorem dec_len {u:Nat} (h:u<=9223372036854775808):(Lib.decDigits u).length<=21:=by
 by_cases c:u=0
 ·subst c;rw[Lib.decDigits,dif_pos (by decide)];simp
 ·have b:=Lib.itoa_neg u (by omega);have a:=Lib.itoa_length_le (-(u:Int)) (by omega) (by omega);rw[b] at a;simp at a;omega
theorem wW (n:Int) (w:World) (J: -9223372036854775808<=n) (K:n<=9223372036854775807):
  Calls Tryz.prog 189 #[.int .i64 n] w λe w'=>e= .returned (.string (xI n))/\Below w.heap.size w w':=by
 obtain⟨u,z⟩:=zv (n.natAbs);have v:u<=9223372036854775808:=by omega
 have C:=zh z;have D:∀w,Calls Tryz.prog 259 #[.int .i64 n] w λe w'=>e= .returned (.int .i64 (-(u:Int)))/\w=w':=λw=>by rw[z];exact refBelow n w J K
 have I:=zh D;clear D z;go_enter Tryz.func189,Tryz.ntmps189;go_wp2_with fail;refine(I _).mono ?_;rintro e w' ⟨rfl,rfl⟩;go_wp2_with fail
 go_loopw [3,4] (λs m wr=>∃(x:Nat) (b:ByteArray),x<=9223372036854775808/\m= .int .i64 (-(x:Int))/\s= .string b/\Lib.decDigits u=Lib.decDigits x++b.data.toList/\Below w.heap.size w wr) (λ_ m _=>(-(intOf m)).toNat)
 case atStart=>exact⟨u,⟨#[]⟩,v,rfl,rfl,by simp,yx _ _⟩
 case round=>
  obtain⟨x,b,W,rfl,rfl,i,t⟩:=hrel
  have M:b.size<=21:=by
   have E:=dec_len v;rw[i] at E;have L:b.size=b.data.toList.length:=Ba b;rw[L];simp at E⊢;omega
  obtain⟨l,d⟩:=zk2 i t;clear i t;obtain⟨r,G⟩:=zv (x%10);obtain⟨q,F⟩:=zv (x/10);have T:r<=9:=by omega
  have e1:(-(x:Int)).tmod 10= -(r:Int):=by rw[Int.neg_tmod,Int.tmod_eq_emod_of_nonneg (by omega)];omega
  have U:(-(x:Int)).tdiv 10= -(q:Int):=by rw[Int.neg_tdiv,Int.tdiv_eq_ediv_of_nonneg (by omega)];omega
  have S:q<=922337203685477580:=by omega
  obtain⟨c,h⟩:=zv (UInt8.ofNat (48+r))
  have Q:(convert 305 9 (.slice (some ⟨wr.heap.size,0,none⟩) 1 1)).run Tryz.prog (wr.alloc (.cells #[.int .u8 (48+r)] 5))= .ok (.string ⟨#[c]⟩) (wr.alloc (.cells #[.int .u8 (48+r)] 5)):=by
   have N:((c.toNat:Nat):Int)=48+r:=by
    have:c.toNat=48+r:=by rw[h];simp;omega
    rw[this];omega
   have:=run_convert_bytes_back (P:=Tryz.prog) (wr.alloc (.cells #[.int .u8 (48+r)] 5)) 305 9 5 ⟨wr.heap.size,0,none⟩ 1 [c] Tryz.underlying305 Tryz.underlying5 Tryz.underlying9 (λj R=>by
    obtain rfl:j=0:=by simpa using R
    simp[Addr.add,go_sem,N])
   simpa using this
  obtain⟨B,p,k⟩:=zk3 G F h;have g:(ByteArray.mk #[c]++b).data.toList=c::b.data.toList:=by simp
  have A:=zh g;clear G F h g
  by_cases H:q=0
  ·have y:(-(q:Int)==0)=true:=by simp;omega
   have a:Lib.decDigits u=(ByteArray.mk #[c]++b).data.toList:=by
    rw[A.out,l.out,Lib.decDigits,dif_pos (by have:=p.out;omega),k.out,B.out,Bi (by have:=p.out;omega)];rfl
   by_cases V:n<0
   ·have f:(ByteArray.mk #[45]++(ByteArray.mk #[c]++b))=xI n:=by
     refine oN ?_;rw[lZ];have e:n= -(u:Int):=by have:=C.out;omega
     rw[e,Lib.itoa_neg u (by omega),a];simp
    have o:=zh f;clear f a H;go_wp2_with fail;go_ret;exact⟨by rw[<-o.out];rfl,d.out.alloc d.out.size _⟩
   ·have f:(ByteArray.mk #[c]++b)=xI n:=by
     refine oN ?_;rw[lZ];have e:n=(u:Int):=by have:=C.out;omega
     rw[e,Lib.itoa_nonneg u,a]
    have o:=zh f;clear f a H;go_wp2_with fail;go_ret;exact⟨by rw[<-o.out];rfl,d.out.alloc d.out.size _⟩
  ·have y:(-(q:Int)==0)=false:=by simp;omega
   have a:Lib.decDigits u=Lib.decDigits q++(ByteArray.mk #[c]++b).data.toList:=by
    rw[A.out,l.out,Lib.decDigits,dif_neg (by have:=p.out;omega),k.out,B.out,p.out];simp
   have o:=zh a;clear a;go_wp2_with fail;go_roundw
   ·exact⟨q,ByteArray.mk #[c]++b,by omega,rfl,rfl,o,d.out.alloc d.out.size _⟩
   ·simp[intOf];have:=p.out;omega
end
section
open Go.RowKit
def dO:Frame:={fn:=0,tmps:=#[],todo:=[.code (.exit 0)],defers:=[],mode:= .run,kind:= .normal}
theorem mA (v:Value):dO.finish v=dO:=rfl
theorem xZ (P:Program) (w:World):∃o w',step P (lone dO [] w)= .ended o w':=by
 refine⟨_,_,step_lone_ended (P:=P) (o:= .stuck "exit, goto: no such block or label" (dO.pos P)) (w':=w) ?_⟩
 simp[stepG,stepG.exec,dO,exitTo,Frame.roundOf]
theorem ry (P:Program):∀(n k:Nat) (m a:Machine),runN P n m= .next a->runN P (n+k) m=runN P k a
 |0,k,m,a,h=>by
  simp only[runN] at h
  injection h with h
  subst h;rw[yH]
 |n+1,k,m,a,h=>by
  rw[show n+1+k=(n+k)+1 by omega];simp only[runN] at h⊢
  cases hs:step P m with
  |next m1=>rw[hs] at h;simp only at h⊢;exact ry P n k m1 a h
  |ended o w=>rw[hs] at h;cases h
theorem py {P:Program} {m:Machine} {b fr2:Frame} {w1 w2:World} {f v2:Value} {n k:Nat} (h:runN P n m= .next (lone b [dO] w1)) (a:runN P (n+k) m= .next (lone fr2 [dO] w2))
  (e:b.leaving P w1 (.returned f)) (p:fr2.leaving P w2 (.returned v2)):f=v2:=by
 rw[ry P n k _ _ h] at a
 match k,a with
 |0,a=>
  simp only[runN] at a
  injection a with a
  have e1:b=fr2:=by have:=AA (λm:Machine=>m.gs[0]?.map (·.frame)) a;simpa [lone] using this
  have g:w1=w2:=AA (λm:Machine=>m.world) a;subst e1 g;obtain⟨_,_,_,fn,j,l⟩:=e;obtain⟨_,_,_,fn',c,d⟩:=p;have:fn=fn':=Az (j.symm.trans c);subst this;have:=l.symm.trans d
  injection this
 |1,a=>
  simp only[runN,step_leave_returned e,mA] at a
  injection a with a
  have:=AA (λm:Machine=>m.gs[0]?.map (·.callers)) a;simp[lone] at this
 |k+2,a=>
  obtain⟨o,w',i⟩:=xZ P w1;simp only[runN,step_leave_returned e,mA,i] at a;cases a
theorem ye {P:Program} {f:FuncId} {args:Array Value} {w:World} {v v':Value} {A B:World->Prop} (h:Calls P f args w λe w'=>e= .returned v/\A w') (j:Calls P f args w λe w'=>e= .returned v'/\B w'):v=v':=by
 obtain⟨e1,w1,g,⟨rfl,_⟩,⟨n,c1⟩,_,b⟩:=h [dO];obtain⟨l,w2,i,⟨rfl,_⟩,⟨k,c2⟩,_,c⟩:=j [dO];rcases Nat.le_total n k with a|a
 ·obtain⟨d,rfl⟩:=Ch a;exact py c1 c2 b c
 ·obtain⟨d,rfl⟩:=Ch a;exact(py c2 c1 c b).symm
theorem rL {P:Program} {o:Oper} {a:Act} {C C':World->Prop} {w:World} {v v':Value} (h:o.quietAt P a C w v) (b:o.quietAt P a C' w v'):v=v':=by
 unfold Oper.quietAt at h b;generalize(execOp a.eval o).run P w=r at*
 cases r with
 |ok n w'=>
  cases n<;>simp only[Oper.quietUpon] at h b
  case value u=>exact h.2.symm.trans b.2
  case skip=>exact h.2.trans b.2.symm
  case enter f args=>exact ye h.2 b.2
 |halt x w'=>simp only[Oper.quietUpon] at h
theorem iY {P:Program} {ops:Array Oper} {C C':World->Prop} {o:Oper} {v v':Value} {a:Act} (h:YieldsIn P ops C o v a) (b:YieldsIn P ops C' o v' a) {w:World} (e:C w) (c:C' w):v=v':=by
 rcases h with⟨_,h⟩|⟨f,rfl⟩
 ·rcases b with⟨_,b⟩|⟨d,_⟩
  ·exact rL (h w e) (b w c)
  ·simp_all
 ·rcases b with⟨d,_⟩|⟨_,rfl⟩
  ·simp_all
  ·rfl
def ki (g:Nat) (o:Oper):Oper:=match o.op with
 | .alloc _=>{o with op:= .assign (.const (.pointer (some ⟨g,0,none⟩)))}
 |_=>o
def jo (γ:Nat->Nat):Nat->List Oper->List Oper
 |_,[]=>[]
 |i,o::l=>ki (γ i) o::jo γ (i+1) l
theorem tD (g:Nat) (o:Oper):(ki g o).after=o.after:=by unfold ki;split<;>rfl
theorem rM (g:Nat) (o:Oper):(ki g o).dst=o.dst:=by unfold ki;split<;>rfl
theorem tC (g:Nat) (o:Oper):(ki g o).guard=o.guard:=by unfold ki;split<;>rfl
theorem rO (γ:Nat->Nat):∀(l:List Oper) (i j:Nat),(jo γ i l)[j]? =(l[j]?).map (ki (γ (i+j)))
 |[],i,j=>by simp[jo]
 |o::l,i,0=>by simp[jo]
 |o::l,i,j+1=>by
  rw[jo,BU,BU,rO γ l (i+1) j,show i+1+j=i+(j+1) by omega]
theorem rN (γ:Nat->Nat):∀(l:List Oper) (i:Nat),(jo γ i l).length=l.length
 |[],i=>rfl
 |o::l,i=>by rw[jo,yr,yr,rN γ l]
theorem qm (γ:Nat->Nat) (l:List Oper) (j:Nat):(jo γ 0 l).toArray[j]? =(l.toArray[j]?).map (ki (γ j)):=by
 rw[y8,y8,rO,yH]
theorem iD (γ:Nat->Nat) (l:List Oper) (md:Region.Mode) (listed:Array Bool):Region.ready md (jo γ 0 l).toArray listed=Region.ready md l.toArray listed:=by
 unfold Region.ready;rw[AI,AI,rN];congr 1
 funext i
 rw[qm]
 cases l.toArray[i]? with
 |none=>rfl
 |some o=>simp only[AX,tD]
theorem ib (γ:Nat->Nat) (l:List Oper) (tmps:Array Value):yielded (jo γ 0 l).toArray tmps=yielded l.toArray tmps:=by
 funext j
 unfold yielded;rw[qm]
 cases l.toArray[j]? with
 |none=>rfl
 |some o=>simp only[AX,Option.bind_some,rM]
theorem pse_seq (γ:Nat->Nat) (l:List Oper) (md:Region.Mode):∀(g k:Nat) (a:Array Bool),Region.seqB md (jo γ 0 l).toArray g k a=Region.seqB md l.toArray g k a
 |0,k,a=>by simp only[Region.seqB,iD]
 |g+1,k,a=>by simp only[Region.seqB,iD,pse_seq γ l md g]
def lA (l:List Oper) (i:Nat) (T:TypeId):Prop:=∃o,l[i]? =some o/\o.op= .alloc T
theorem tB {g:Nat} {o:Oper} (h:∀T,o.op≠ .alloc T):ki g o=o:=by
 unfold ki
 split
 ·rename_i T hT;exact absurd hT (h T)
 ·rfl
structure lC (w0:World) (C:World->Prop):Prop where
 sub:∀w,C w->Below w0.heap.size w0 w
 step:∀w w',C w->Below w.heap.size w w'->C w'
 ne:∃w,C w
theorem lC.of (w0 w:World) (h:Below w0.heap.size w0 w):lC w0 (λw'=>Below w.heap.size w w'):=
 ⟨λw' a=>h.trans (a.mono h.size),λw1 w2 b c=>ab b c,⟨w,yx _ _⟩⟩
section
variable {P:Program} {md:Region.Mode} {l:List Oper} {n gg:Nat} {w0:World} {Z:TypeId->Array Value} {Q':Exit->Act->World->Prop} {Lq:(Nat->Nat)->Act->Prop}
structure Made (l:List Oper) (n:Nat) (Z:TypeId->Array Value) (w0:World) (γ:Nat->Nat) (listed:Array Bool) (w:World):Prop where
 box:∀i T,i<n->lA l i T->listed.getD i false=true->Box w (γ i) (Z T) T/\w0.heap.size<=γ i
 ne:∀i j T U,i<n->j<n->lA l i T->lA l j U->listed.getD i false=true->listed.getD j false=true->i≠j->γ i≠γ j
theorem pI (hn:n<l.length) (hs:Region.sinkB md l.toArray n=true) (hc:Region.chainB md l.toArray n=true) (W:0<gg)
  (hz:∀(i:Nat) (T:TypeId) (o:Oper),l[i]? =some o->o.op= .alloc T->o.guard=none/\∀(a:Act) (w:World),(execOp a.eval o).run P w= .ok (.value (.pointer (some ⟨w.heap.size,0,none⟩))) (w.alloc (.cells (Z T) T)))
  (hL:∀γ listed a w,HeadInv md l.toArray n listed->Below w0.heap.size w0 w->(∀i T,i<n->lA l i T->listed.getD i false=true)->Made l n Z w0 γ listed w->Region.seqB md (jo γ 0 l).toArray gg n listed=true->Lq γ a->wpAny P md l.toArray Q' gg listed a w):
  ∀(f:Nat) (listed:Array Bool) (a:Act) (w:World) (b:Nat->Nat),HeadInv md l.toArray n listed->Below w0.heap.size w0 w->Made l n Z w0 b listed w→
   (∀γ C,lC w0 C->(∀i T,i<n->lA l i T->listed.getD i false=true->γ i=b i)→
    jY P md (jo γ 0 l).toArray C n (λu a'=>Region.seqB md (jo γ 0 l).toArray gg n u=true/\Lq γ a') f listed a)→
   wpAny P md l.toArray Q' (f+gg) listed a w
 |0,listed,a,w,b,inv,hb,hm,H=>by
  have d:=H b _ (lC.of w0 w0 (yx _ _)) (λ_ _ _ _ _=>rfl);obtain⟨d,g⟩:=d;rw[yH];refine hL b listed a w inv hb (λi T hi aC=> ?_) hm d g;refine Bh λB=> ?_
  have J:listed.getD i true=false:=by
   have:listed.getD i false=false:=by simpa using B
   exact getD_in (by rw[inv.size];simp;omega) this
  obtain⟨g',rfl⟩:∃g',gg=g'+1:=⟨gg-1,by omega⟩;simp only[Region.seqB,yF,yY] at d
  have hr:n∈Region.ready md l.toArray listed:=by
   rw[<-iD b l md listed,d.1];simp
  exact tail_waits hs hc (by simpa using hn) inv _ i rfl hi J n (yq _) hr
 |f+1,listed,a,w,b,inv,hb,hm,H=>by
  have e:f+1+gg=(f+gg)+1:=by omega
  rw[e];have H0:=H b _ (lC.of w0 w0 (yx _ _)) (λ_ _ _ _ _=>rfl);refine⟨λM=>absurd M (by have:=H0.1;rwa [iD] at this),λi hi=> ?_⟩;have s:∀γ,i∈Region.ready md (jo γ 0 l).toArray listed:=λγ=>by rw[iD];exact hi
  have X:i<n:=(H0.2 i (s b)).1;obtain⟨J,o,ho,az⟩:=BE.1 hi;have D:l[i]? =some o:=by simpa using ho
  have aw:i<listed.size:=by
   rcases Cd i listed.size with h|h
   ·exact h
   ·rw[inv.size] at h;simp at h;omega
  have Y:listed.getD i false=false:=getD_both J;have G:=inv.set hi X
  have c:∀j,(listed.setIfInBounds i true).getD j false=true↔j=i\/listed.getD j false=true:=λj=>by
   by_cases q:i=j
   ·subst q;simp[aw]
   ·rw[BZ false q];exact⟨.inr,λh=>h.resolve_left (BQ q)⟩
  have aa:∀γ,(jo γ 0 l).toArray[i]? =some (ki (γ i) o):=λγ=>by rw[qm,ho];rfl
  by_cases R:∃T,o.op= .alloc T
  ·obtain⟨T,hT⟩:=R;obtain⟨S,ab⟩:=hz i T o D hT;have aq:lA l i T:=⟨o,D,hT⟩
   have K:∀U,lA l i U->U=T:=λU ⟨o',ho',p⟩=>by
    have:o'=o:=Az (ho'.symm.trans D);subst this;rw[hT] at p
    injection p with p
    exact p.symm
   unfold wpOp;simp only[ho];rw[yz (by unfold Region.wanted;rw[S])];left;unfold Oper.wp;rw[ab,Oper.upon_value];refine pI hn hs hc W hz hL f _ _ _ (λj=>if j=i then w.heap.size else b j) G (hb.alloc hb.size _) ⟨λj U q p y=> ?_,λj k U V q hk p Q z A x=> ?_⟩ (λγ C L F=> ?_)
   ·rcases(c j).1 y with rfl|hl'
    ·rw[yz rfl,K U p];exact⟨Box.new _ _ _,hb.size⟩
    ·have r:j≠i:=λh=>by rw[h,Y] at hl';cases hl'
     rw[yw r];obtain⟨b1,b2⟩:=hm.box j U q p hl';exact⟨b1.below (ac _ _),b2⟩
   ·have ai:∀m U,m<n->lA l m U->(listed.setIfInBounds i true).getD m false=true->m≠i->b m<w.heap.size:=λm U am an ao ap=>
     ((hm.box m U am an (((c m).1 ao).resolve_left ap)).1).lt
    by_cases d:j=i
    ·by_cases g:k=i
     ·exact absurd (d.trans g.symm) x
     ·rw[yz d,yw g];exact Nat.ne_of_gt (ai k V hk Q A g)
    ·by_cases g:k=i
     ·rw[yw d,yz g];exact Nat.ne_of_lt (ai j U q p z d)
     ·rw[yw d,yw g];exact hm.ne j k U V q hk p Q (((c j).1 z).resolve_left d) (((c k).1 A).resolve_left g) x
   ·have ah:γ i=w.heap.size:=by rw[F i T X aq ((c i).2 (.inl rfl)),yz rfl]
    have H1:=H γ C L (λj U q p y=>by
     have r:j≠i:=λh=>by rw[h,Y] at y;cases y
     rw[F j U q p ((c j).2 (.inr y)),yw r])
    obtain⟨_,hq⟩:=H1.2 i (s γ);obtain⟨v,hy,hK⟩:=BX (aa γ) hq
    have hv:v= .pointer (some ⟨w.heap.size,0,none⟩):=by
     obtain⟨wC,E⟩:=L.ne;rcases hy with⟨_,hy⟩|⟨M,_⟩
     ·have g:=hy wC E;unfold Oper.quietAt at g;have e1:(ki (γ i) o).op= .assign (.const (.pointer (some ⟨γ i,0,none⟩))):=by unfold ki;rw[hT]
      rw[show(execOp a.eval (ki (γ i) o)).run P wC= .ok (.value (.pointer (some ⟨γ i,0,none⟩))) wC from by simp[execOp,e1,Act.eval]] at g;simp only[Oper.quietUpon] at g;rw[<-g.2,ah]
     ·unfold Region.wanted at M;rw[tC,S] at M;cases M
    rw[hv,rM] at hK;exact hK
  ·have B:∀T,o.op≠ .alloc T:=λT h=>R ⟨T,h⟩;have t:∀γ,(jo γ 0 l).toArray[i]? =some o:=λγ=>by rw[aa,tB B]
   have I:∀U,¬lA l i U:=λU ⟨o',ho',p⟩=>by
    have:o'=o:=Az (ho'.symm.trans D);subst this;exact B U p
   have HW:=H b _ (lC.of w0 w hb) (λ_ _ _ _ _=>rfl);obtain⟨_,av⟩:=HW.2 i (s b);obtain⟨v,ag,aB⟩:=BX (t b) av;obtain⟨_,ar⟩:=H0.2 i (s b);obtain⟨v0,ae,aA⟩:=BX (t b) ar;have ev:v=v0:=iY ag ae (yx _ _) hb
   have ay:YieldsIn P l.toArray (λw'=>Below w.heap.size w w') o v a:=by
    rcases ag with⟨d,g⟩|⟨d,g⟩
    ·exact .inl ⟨by rw[ib] at d;exact d,g⟩
    ·exact .inr ⟨by rw[ib] at d;exact d,g⟩
   have au:qOp P l.toArray (λw'=>Below w.heap.size w w') i (λa'=>a'=a.put o.dst v) a:=ay.qOp ho rfl;refine wpOp_of_qOp (yx _ _) (λa' w' ad ak=> ?_) au;subst ak;refine pI hn hs hc W hz hL f _ _ _ b G (hb.trans (ad.mono hb.size)) ⟨λj U q p y=> ?_,λj k U V q hk p Q z A x=> ?_⟩ (λγ C L F=> ?_)
   ·have r:j≠i:=λh=>I U (h▸p);obtain⟨b1,b2⟩:=hm.box j U q p (((c j).1 y).resolve_left r);exact⟨b1.below ad,b2⟩
   ·have r:j≠i:=λh=>I U (h▸p);have al:k≠i:=λh=>I V (h▸Q);exact hm.ne j k U V q hk p Q (((c j).1 z).resolve_left r) (((c k).1 A).resolve_left al) x
   ·have H1:=H γ C L (λj U q p y=>F j U q p ((c j).2 (.inr y)));obtain⟨_,hq⟩:=H1.2 i (s γ);obtain⟨v',ax,N⟩:=BX (t γ) hq;obtain⟨wC,E⟩:=L.ne
    have af:YieldsIn P (jo γ 0 l).toArray (λw'=>Below w0.heap.size w0 w') o v0 a:=by
     rcases ae with⟨d,g⟩|⟨d,g⟩
     ·exact .inl ⟨by rw[ib] at d⊢;exact d,g⟩
     ·exact .inr ⟨by rw[ib] at d⊢;exact d,g⟩
    have aj:v'=v0:=iY ax af E (L.sub _ E);rw[aj,<-ev] at N;exact N
structure gZ (w0:World) (C:World->Prop) where
 w:World
 h:Below w0.heap.size w0 w
 c:C w
theorem sg {w0:World} {C:World->Prop} (a:lC w0 C) (w':World):(∃p:gZ w0 C,w'=p.w)↔C w':=⟨λ⟨p,h⟩=>h▸p.c,λh=>⟨⟨w',a.sub _ h,h⟩,rfl⟩⟩
theorem Box.latC {w:World} {C:World->Prop} {g:Nat} {t:TypeId} {cs:Array Value} (h:Box w g cs t) (i:Nat) (v:Value) (a:cs[i]? =some v):∀p:gZ w C,p.w.cell? ⟨g,i,none⟩=some v:=λp=>by
 rw[(h.below p.h).cell i,a]
end
end
section
open Go.RowKit
structure Kit where
 fr:Nat->Bool
 Φ:Nat->Value->World->Prop
 D:Nat->List Nat
 S:Nat->Value->Prop
structure Kit.Known (K:Kit):Prop where
 of:∀j u w,K.Φ j u w->K.S j u
 ne:∀j,∃u,K.S j u
def Kit.Good (K:Kit) (γ:Nat->Value):Prop:=∀j,K.fr j=true->K.S j (γ j)
def Kit.Stable (K:Kit):Prop:=∀j v w w',K.Φ j v w->Below w.heap.size w w'->K.Φ j v w'
def genO (v:Value) (o:Oper):Oper:={o with op:= .assign (.const v)}
def dV (K:Kit) (γ:Nat->Value):Nat->List Oper->List Oper
 |_,[]=>[]
 |i,o::l=>(if K.fr i=true then genO (γ i) o else o)::dV K γ (i+1) l
section
variable (K:Kit) (γ:Nat->Value)
def fq (i:Nat) (o:Oper):Oper:=if K.fr i=true then genO (γ i) o else o
theorem ot (i:Nat) (o:Oper):(fq K γ i o).after=o.after:=by unfold fq;split<;>rfl
theorem gJ (i:Nat) (o:Oper):(fq K γ i o).dst=o.dst:=by unfold fq;split<;>rfl
theorem oq (i:Nat) (o:Oper):(fq K γ i o).guard=o.guard:=by unfold fq;split<;>rfl
theorem sy:∀(l:List Oper) (i j:Nat),(dV K γ i l)[j]? =(l[j]?).map (fq K γ (i+j))
 |[],i,j=>by simp[dV]
 |o::l,i,0=>by simp[dV,fq]
 |o::l,i,j+1=>by
  rw[dV,BU,BU,sy l (i+1) j,show i+1+j=i+(j+1) by omega]
theorem kW:∀(l:List Oper) (i:Nat),(dV K γ i l).length=l.length
 |[],i=>rfl
 |o::l,i=>by rw[dV,yr,yr,kW l]
theorem jS (l:List Oper) (j:Nat):(dV K γ 0 l).toArray[j]? =(l.toArray[j]?).map (fq K γ j):=by
 rw[y8,y8,sy,yH]
theorem pF (l:List Oper) (md:Region.Mode) (listed:Array Bool):Region.ready md (dV K γ 0 l).toArray listed=Region.ready md l.toArray listed:=by
 unfold Region.ready;rw[AI,AI,kW];congr 1
 funext i
 rw[jS]
 cases l.toArray[i]? with
 |none=>rfl
 |some o=>simp only[AX,ot]
theorem cV (l:List Oper) (tmps:Array Value):yielded (dV K γ 0 l).toArray tmps=yielded l.toArray tmps:=by
 funext j
 unfold yielded;rw[jS]
 cases l.toArray[j]? with
 |none=>rfl
 |some o=>simp only[AX,Option.bind_some,gJ]
theorem vF (l:List Oper) (md:Region.Mode):∀(g k:Nat) (a:Array Bool),Region.seqB md (dV K γ 0 l).toArray g k a=Region.seqB md l.toArray g k a
 |0,k,a=>by simp only[Region.seqB,pF]
 |g+1,k,a=>by simp only[Region.seqB,pF,vF l md g]
end
def jZ (P:Program) (Φ:Value->World->Prop) (w:World):Result Next->Prop
 | .ok (.value u) w'=>Φ u w'/\Below w.heap.size w w'
 | .ok (.enter f args) w'=>w'=w/\Calls P f args w (λe a=>∃v,e= .returned v/\(Φ v a/\Below w.heap.size w a))
 |_=>False
def jh (P:Program) (K:Kit) (w0:World) (γ:Nat->Value) (j:Nat) (o:Oper) (a:Act):Prop:=
 o.guard=none/\∀w,Below w0.heap.size w0 w->(∀d∈K.D j,K.Φ d (γ d) w)->jZ P (K.Φ j) w ((execOp a.eval o).run P w)
def fh (ops:Array Oper) (P:Program) (K:Kit) (w0:World) (γ:Nat->Value) (j:Nat) (o:Oper) (a:Act):Prop:=
 Region.wanted o (yielded ops a.tmps)=true/\∀w,Below w0.heap.size w0 w->(∀d∈K.D j,K.Φ d (γ d) w)->jZ P (K.Φ j) w ((execOp a.eval o).run P w)
theorem jh.met {P:Program} {K:Kit} {w0:World} {γ:Nat->Value} {j:Nat} {o:Oper} {a:Act} (ops:Array Oper) (h:jh P K w0 γ j o a):fh ops P K w0 γ j o a:=
 ⟨by unfold Region.wanted;rw[h.1],h.2⟩
theorem fh.of_same {ops:Array Oper} {P:Program} {K:Kit} {w0:World} {γ:Nat->Value} {j:Nat} {o:Oper} {a a':Act} (h:fh ops P K w0 γ j o a) (b:execOp a'.eval o=execOp a.eval o) (c:Region.wanted o (yielded ops a'.tmps)=Region.wanted o (yielded ops a.tmps)):fh ops P K w0 γ j o a':=by
 unfold fh at*;rw[b,c];exact h
section
variable {P:Program} {K:Kit} {w0:World} {γ:Nat->Value} {md:Region.Mode} {l:List Oper} {C:World->Prop} {n gg:Nat}
def iV (P:Program) (K:Kit) (w0:World) (γ:Nat->Value) (md:Region.Mode) (l:List Oper) (C:World->Prop) (n:Nat) (L:Array Bool->Act->Prop):Nat->Array Bool->Act->Prop
 |0,listed,a=>L listed a
 |f+1,listed,a=>Region.ready md l.toArray listed≠[]/\∀i∈Region.ready md l.toArray listed,i<n/\(K.fr i=true->∀o,l[i]? =some o->fh l.toArray P K w0 γ i o a)∧
   qOp P (dV K γ 0 l).toArray C i (iV P K w0 γ md l C n L f (listed.setIfInBounds i true)) a
theorem wY {P:Program} {ops:Array Oper} {C:World->Prop} {i:Nat} {o:Oper} {a:Act} {K:Act->Prop} (hi:ops[i]? =some o) (h:qOp P ops C i K a):qOp P ops C i (λb=>K b/\∃u,b=a.put o.dst u) a:=by
 unfold qOp at*;simp only[hi] at*
 split
 ·rename_i hw;simp only[hw,if_true] at h;obtain⟨v,c,d⟩:=h;exact⟨v,c,d,v,rfl⟩
 ·rename_i hw;simp only[hw] at h;exact⟨h,undef,rfl⟩
theorem mt {i:Nat} {oi:Oper} {v:Value} {L:Array Bool->Act->Prop} (hi:l[i]? =some oi) (t:∀(j:Nat) (o:Oper) cs b,(dV K γ 0 l).toArray[j]? =some o->o.op≠ .select cs b) (m:∀(j:Nat) (o:Oper) cs b,l.toArray[j]? =some o->o.op≠ .select cs b)
  (Z:Region.sinkB md l.toArray n=true) (X:Region.chainB md l.toArray n=true) (Y:n<l.toArray.size) (M:i<n) (r:∀c a,L c a->∀j∈Region.ready md l.toArray c,n<=j):
  ∀(f:Nat) (c:Array Bool) (a:Act),HeadInv md l.toArray n c→
   (∀j oj,(dV K γ 0 l).toArray[j]? =some oj->j≠i->c.getD j true=false->(∀e∈oj.after,Region.binds md e=true->e.on≠i)->(fq K γ i oi).apart (dV K γ 0 l).toArray oj=true)→
   (∀j oj,l.toArray[j]? =some oj->j≠i->c.getD j true=false->(∀e∈oj.after,Region.binds md e=true->e.on≠i)->oi.apart l.toArray oj=true)→
   i∈Region.ready md l.toArray c->YieldsIn P (dV K γ 0 l).toArray C (fq K γ i oi) v a->(K.fr i=true->fh l.toArray P K w0 γ i oi a)->iV P K w0 γ md l C n L f (c.setIfInBounds i true) (a.put oi.dst v)→
   iV P K w0 γ md l C n L (f+1) c a
 |f,c,a,inv,hfree,hfreeL,hr,hy,hfr,H=>by
  have N:=(BE.1 hr).1;have J:(dV K γ 0 l).toArray[i]? =some (fq K γ i oi):=by rw[jS,y8,hi];rfl
  have A:∀j∈Region.ready md l.toArray c,j<n:=λj x=>Bh λh=>tail_waits Z X Y inv _ i rfl M N j (by omega) x;refine⟨λh=>(by rw[h] at hr;cases hr),λj x=>⟨A j x, ?_⟩⟩
  by_cases g:j=i
  ·subst g;refine⟨λh o E=> ?_, ?_⟩
   ·have:o=oi:=Az (E.symm.trans hi);subst this;exact hfr h
   ·have:=hy.qOp (K:=iV P K w0 γ md l C n L f (c.setIfInBounds j true)) J (by rw[gJ];exact H);exact this
  cases f with
  |zero=>have:=r _ _ H j (Cj x g);have:=A j x;omega
  |succ f=>
   obtain⟨p,oj,q,I⟩:=BE.1 x;have w:(dV K γ 0 l).toArray[j]? =some (fq K γ j oj):=by rw[jS,q];rfl
   have y:∀e∈oj.after,Region.binds md e=true->e.on≠i:=λe he hb Q=>by
    have V:=I e he hb;rw[Q,getD_both N] at V;cases V
   obtain⟨F,aa,G⟩:=Oper.apart_spec (hfreeL j oj q g p y);obtain⟨_,R,T⟩:=H.2 j (Cj x g);refine⟨λh o E=> ?_, ?_⟩
   ·have e1:=execOp_put (ops:=l.toArray) o (m j o · · (by rw[y8];exact E)) a oi.dst v (λd hd=>by
     have:o=oj:=by rw[y8] at q;exact Az (E.symm.trans q)
     subst this
     exact F d hd)
    have S:o=oj:=by rw[y8] at q;exact Az (E.symm.trans q)
    exact(R h o E).of_same e1.symm (by rw[S];exact(wanted_put oj a oi.dst v F).symm)
   ·have h2:=qOp_put (P:=P) (C:=C) w (hfree j _ w g p (by rw[ot];exact y)) (λcs b=>t i _ cs b J) (λcs b=>t j _ cs b w) hy (by rw[gJ];exact T);have h3:=wY w h2;refine qOp_mono (λa' h4=> ?_) h3;obtain⟨⟨h5,W⟩,u,hu⟩:=h4;refine mt hi t m Z X Y M r f (c.setIfInBounds j true) a' (inv.set x (A j x)) (λk U hk z D B=> ?_) (λk U hk z D B=> ?_) (Cj hr (BQ g)) h5 (λh=> ?_) ?_
    ·refine hfree k U hk z ?_ B
     by_cases s:j=k
     ·subst s;exact p
     ·rwa [BZ true s] at D
    ·refine hfreeL k U hk z ?_ B
     by_cases s:j=k
     ·subst s;exact p
     ·rwa [BZ true s] at D
    ·rw[hu,gJ];exact(hfr h).of_same (execOp_put (ops:=l.toArray) oi (m i oi · · (by rw[y8];exact hi)) a oj.dst u G) (wanted_put oi a oj.dst u G)
    ·rw[Array.setIfInBounds_comm _ _ g];rw[gJ] at W;exact W
def wpF (P:Program) (K:Kit) (w0:World) (γ:Nat->Value) (C:World->Prop) (ops:Array Oper) (Lq:Act->Prop):Nat->List Oper->Act->Prop
 |_,[],a=>Lq a
 |j,o::rest,a=>if K.fr j=true then fh ops P K w0 γ j o a/\wpF P K w0 γ C ops Lq (j+1) rest (a.put o.dst (γ j)) else∃v,YieldsIn P ops C o v a/\wpF P K w0 γ C ops Lq (j+1) rest (a.put o.dst v)
theorem bG {ops:Array Oper} {Lq:Act->Prop} {j:Nat} {o:Oper} {rest:List Oper} {a:Act} (c:K.fr j=true) (h:jh P K w0 γ j o a) (b:wpF P K w0 γ C ops Lq (j+1) rest (a.put o.dst (γ j))):wpF P K w0 γ C ops Lq j (o::rest) a:=by
 rw[wpF,yz c];exact⟨h.met ops,b⟩
theorem cW {ops:Array Oper} {Lq:Act->Prop} {j:Nat} {o:Oper} {rest:List Oper} {a:Act} (c:K.fr j=true) (h:fh ops P K w0 γ j o a) (b:wpF P K w0 γ C ops Lq (j+1) rest (a.put o.dst (γ j))):wpF P K w0 γ C ops Lq j (o::rest) a:=by
 rw[wpF,yz c];exact⟨h,b⟩
theorem aE {ops:Array Oper} {Lq:Act->Prop} {j:Nat} {o:Oper} {rest:List Oper} {a:Act} (d:K.fr j=false) (h:wpQuiet P ops C (wpF P K w0 γ C ops Lq (j+1) rest) [o] a):wpF P K w0 γ C ops Lq j (o::rest) a:=by
 rw[wpF,yw (by rw[d];decide)];unfold wpQuiet at h
 split at h
 ·rename_i hw;obtain⟨v,b,c⟩:=h;exact⟨v,.inl ⟨hw,b⟩,c⟩
 ·rename_i hw;exact⟨undef,.inr ⟨by simpa using hw,rfl⟩,h⟩
theorem lX {Lq:Act->Prop} (d:Region.noSelect (dV K γ 0 l).toArray=true) (b:Region.noSelect l.toArray=true) (x:Region.sinkB md l.toArray n=true) (s:Region.chainB md l.toArray n=true) (t:n<l.toArray.size):
  ∀(m:List Oper) (k:Nat) (listed:Array Bool) (a:Act),(∀j,j<m.length->m[j]? =l[k+j]?)->k+m.length=n->HeadInv md l.toArray n listed→
   Region.lexHead md (dV K γ 0 l).toArray gg m.length k listed=true->Region.lexHead md l.toArray gg m.length k listed=true->wpF P K w0 γ C (dV K γ 0 l).toArray Lq k m a→
   iV P K w0 γ md l C n (λc y=>Region.seqB md l.toArray gg n c=true/\Lq y) m.length listed a
 |[],k,listed,a,_,hk,_,hB,_,h=>by
  obtain rfl:k=n:=by simpa using hk
  exact⟨by simp only[yR,Region.lexHead] at hB;rw[vF] at hB;exact hB,h⟩
 |o::m,k,listed,a,hl,hk,inv,hB,hBL,h=>by
  have f:l[k]? =some o:=by simpa using(hl 0 (by simp)).symm
  rw[yr] at hk hB hBL;simp only[Region.lexHead,yF] at hB hBL;have u:k∈Region.ready md l.toArray listed:=by simpa using hBL.1.1
  have p:(dV K γ 0 l).toArray[k]? =some (fq K γ k o):=by rw[jS,y8,f];rfl
  have g:l.toArray[k]? =some o:=by rw[y8];exact f
  have q:∃v,YieldsIn P (dV K γ 0 l).toArray C (fq K γ k o) v a/\(K.fr k=true->fh l.toArray P K w0 γ k o a)/\wpF P K w0 γ C (dV K γ 0 l).toArray Lq (k+1) m (a.put o.dst v):=by
   rw[wpF] at h
   by_cases e:K.fr k=true
   ·rw[yz e] at h;refine⟨γ k,.inl ⟨?_,λw _=> ?_⟩,λ_=>(by have:=h.1;unfold fh at this⊢;rw[cV] at this;exact this),h.2⟩
    ·have r:=h.1.1;unfold Region.wanted at r⊢;rw[oq];exact r
    ·have e1:(fq K γ k o).op= .assign (.const (γ k)):=by unfold fq;rw[yz e];rfl
     unfold Oper.quietAt;rw[show(execOp a.eval (fq K γ k o)).run P w= .ok (.value (γ k)) w from by simp[execOp,e1,Act.eval]];exact⟨rfl,rfl⟩
   ·rw[yw e] at h;obtain⟨v,z,A⟩:=h;refine⟨v, ?_,λE=>absurd E e,A⟩;have:fq K γ k o=o:=by unfold fq;rw[yw e]
    rw[this];exact z
  obtain⟨v,F,i,B⟩:=q;refine mt f (BS d) (BS b) x s t (by omega) (λ_ _ D=>seqB_ready D.1) m.length listed a inv (Region.free_spec p hB.1.2) (Region.free_spec g hBL.1.2) u F i ?_;refine lX d b x s t m (k+1) _ _ (λj G=> ?_) (by omega) (inv.set u (by omega)) hB.2 hBL.2 B;have:=hl (j+1) (by simp only[yr];omega);rw[BU] at this;rw[this];congr 1;omega
variable {Q':Exit->Act->World->Prop} {Lq:(Nat->Value)->Act->Prop}
def xY (md:Region.Mode) (l:List Oper) (K:Kit) (n:Nat):Bool:=
 (List.range l.length).all λj=> !K.fr j||((K.D j).all λd=>K.fr d&&decide (d<n)&&match l[j]? with
  |some o=>o.after.any λe=>Region.binds md e&&e.on==d
  |none=>false)
theorem xX {j d:Nat} {o:Oper} (h:xY md l K n=true) (f:l[j]? =some o) (q:K.fr j=true) (m:d∈K.D j):K.fr d=true/\d<n/\∃e∈o.after,Region.binds md e=true/\e.on=d:=by
 unfold xY at h;have a:=Bj.1 h j (BI.2 (yJ.1 f).1);rw[q] at a;simp only[Bool.not_true,B7] at a;have b:=Bj.1 a d m;rw[f] at b;simp only[yF,yY] at b;obtain⟨⟨g,i⟩,k⟩:=b;obtain⟨e,p,c⟩:=Array.any_eq_true'.1 k;simp only[yF,beq_iff_eq] at c;exact⟨g,i,e,p,c.1,c.2⟩
theorem mS (hK:K.Stable) (hV:K.Known) (hn:n<l.length) (hs:Region.sinkB md l.toArray n=true) (hc:Region.chainB md l.toArray n=true) (aa:0<gg) (t:xY md l K n=true)
  (hL:∀γ listed a w,HeadInv md l.toArray n listed->Below w0.heap.size w0 w->(∀d,d<n->K.fr d=true->K.Φ d (γ d) w)->Region.seqB md l.toArray gg n listed=true->Lq γ a->wpAny P md l.toArray Q' gg listed a w):
  ∀(f:Nat) (listed:Array Bool) (a:Act) (w:World) (b:Nat->Value),K.Good b->HeadInv md l.toArray n listed->Below w0.heap.size w0 w->(∀d,d<n->K.fr d=true->listed.getD d false=true->K.Φ d (b d) w)→
   (∀γ C,K.Good γ->lC w0 C->(∀d,d<n->K.fr d=true->listed.getD d false=true->γ d=b d)→
    iV P K w0 γ md l C n (λA a'=>Region.seqB md l.toArray gg n A=true/\Lq γ a') f listed a)→
   wpAny P md l.toArray Q' (f+gg) listed a w
 |0,listed,a,w,b,hgd,inv,hb,hm,H=>by
  obtain⟨g,k⟩:=H b _ hgd (lC.of w0 w0 (yx _ _)) (λ_ _ _ _=>rfl);rw[yH];refine hL b listed a w inv hb (λd s c=>hm d s c ?_) g k;refine Bh λap=> ?_
  have N:listed.getD d true=false:=by
   have:listed.getD d false=false:=by simpa using ap
   exact getD_in (by rw[inv.size];simp;omega) this
  obtain⟨g',rfl⟩:∃g',gg=g'+1:=⟨gg-1,by omega⟩;simp only[Region.seqB,yF,yY] at g;have hr:n∈Region.ready md l.toArray listed:=by rw[g.1];simp
  exact tail_waits hs hc (by simpa using hn) inv _ d rfl s N n (yq _) hr
 |f+1,listed,a,w,b,hgd,inv,hb,hm,H=>by
  have e:f+1+gg=(f+gg)+1:=by omega
  rw[e];have H0:=H b _ hgd (lC.of w0 w0 (yx _ _)) (λ_ _ _ _=>rfl);refine⟨λT=>absurd T H0.1,λi hi=> ?_⟩;obtain⟨ab,ao,aq⟩:=H0.2 i hi;obtain⟨N,o,ho,Z⟩:=BE.1 hi;have ad:l[i]? =some o:=by simpa using ho
  have av:i<listed.size:=by
   rcases Cd i listed.size with h|h
   ·exact h
   ·rw[inv.size] at h;simp at h;omega
  have ac:listed.getD i false=false:=getD_both N;have L:=inv.set hi ab
  have p:∀j,(listed.setIfInBounds i true).getD j false=true↔j=i\/listed.getD j false=true:=λj=>by
   by_cases hj:i=j
   ·subst hj;simp[av]
   ·rw[BZ false hj];exact⟨.inr,λh=>h.resolve_left (BQ hj)⟩
  have F:∀γ,(dV K γ 0 l).toArray[i]? =some (fq K γ i o):=λγ=>by rw[jS,ho];rfl
  by_cases q:K.fr i=true
  ·have M:=ao q o ad
   have am:∀d∈K.D i,K.Φ d (b d) w:=λd s=>by
    obtain⟨g,k,e,he,B,an⟩:=xX t ad q s;have W:=Z e he B;rw[an] at W;exact hm d k g W
   have V:=M.2 w hb am
   have z:∀(u:Value) (w':World),K.Φ i u w'->Below w.heap.size w w'->wpAny P md l.toArray Q' (f+gg) (listed.setIfInBounds i true) (a.put o.dst u) w':=λu w' ah B=>by
    refine mS hK hV hn hs hc aa t hL f _ _ _ (λj=>if j=i then u else b j) (λj hj=> ?_) L (hb.trans (B.mono hb.size)) (λd s c E=> ?_) (λγ C y U I=> ?_)
    ·by_cases m:j=i
     ·subst m;show K.S j (if j=j then u else b j);rw[yz rfl];exact hV.of _ _ _ ah
     ·show K.S j (if j=i then u else b j);rw[yw m];exact hgd j hj
    ·rcases(p d).1 E with rfl|hl'
     ·rw[yz rfl];exact ah
     ·have m:d≠i:=λh=>by rw[h,ac] at hl';cases hl'
      rw[yw m];exact hK d _ _ _ (hm d s c hl') B
    ·have ai:γ i=u:=by rw[I i ab q ((p i).2 (.inl rfl)),yz rfl]
     have H1:=H γ C y U (λd s c E=>by
      have m:d≠i:=λh=>by rw[h,ac] at E;cases E
      rw[I d s c ((p d).2 (.inr E)),yw m])
     obtain⟨_,_,hq⟩:=H1.2 i hi;obtain⟨v,hy,Y⟩:=BX (F γ) hq
     have hv:v=u:=by
      obtain⟨wC,G⟩:=U.ne;rcases hy with⟨_,hy⟩|⟨T,_⟩
      ·have k:=hy wC G;unfold Oper.quietAt at k;have e1:(fq K γ i o).op= .assign (.const (γ i)):=by unfold fq;rw[yz q];rfl
       rw[show(execOp a.eval (fq K γ i o)).run P wC= .ok (.value (γ i)) wC from by simp[execOp,e1,Act.eval]] at k;simp only[Oper.quietUpon] at k;rw[<-k.2,ai]
      ·have W:=M.1;rw[cV] at T;unfold Region.wanted at T W;rw[oq,W] at T;cases T
     rw[hv,gJ] at Y;exact Y
   unfold wpOp;simp only[ho];rw[yz M.1];left;unfold Oper.wp;generalize(execOp a.eval o).run P w=r at V⊢
   cases r with
   |ok nx w'=>
    cases nx<;>simp only[jZ] at V<;>simp only[Oper.upon]
    case value u=>exact z u w' V.1 V.2
    case enter f' args=>
     obtain⟨e1,al⟩:=V;subst e1;refine al.mono λe w'' ⟨v,he,g,k⟩=> ?_;subst he;exact z v w'' g k
   |halt x w'=>simp only[jZ] at V
  ·have J:∀γ,fq K γ i o=o:=λγ=>by unfold fq;rw[yw q]
   have HW:=H b _ hgd (lC.of w0 w hb) (λ_ _ _ _=>rfl);obtain⟨_,_,au⟩:=HW.2 i hi;obtain⟨v,R,ay⟩:=BX (F b) au;obtain⟨v0,Q,ax⟩:=BX (F b) aq;rw[J] at R Q;have ev:v=v0:=iY R Q (yx _ _) hb
   have aw:YieldsIn P l.toArray (λw'=>Below w.heap.size w w') o v a:=by
    rcases R with⟨g,k⟩|⟨g,k⟩
    ·exact .inl ⟨by rw[cV] at g;exact g,k⟩
    ·exact .inr ⟨by rw[cV] at g;exact g,k⟩
   have ar:qOp P l.toArray (λw'=>Below w.heap.size w w') i (λa'=>a'=a.put o.dst v) a:=aw.qOp ho rfl;refine wpOp_of_qOp (yx _ _) (λa' w' ae ak=> ?_) ar;subst ak;refine mS hK hV hn hs hc aa t hL f _ _ _ b hgd L (hb.trans (ae.mono hb.size)) (λd s c E=> ?_) (λγ C y U I=> ?_)
   ·have m:d≠i:=λh=>q (h▸c);exact hK d _ _ _ (hm d s c (((p d).1 E).resolve_left m)) ae
   ·have H1:=H γ C y U (λd s c E=>I d s c ((p d).2 (.inr E)));obtain⟨_,_,hq⟩:=H1.2 i hi;obtain⟨v',af,X⟩:=BX (F γ) hq;obtain⟨wC,G⟩:=U.ne;rw[J] at af
    have ag:YieldsIn P (dV K γ 0 l).toArray (λw'=>Below w0.heap.size w0 w') o v0 a:=by
     rcases Q with⟨g,k⟩|⟨g,k⟩
     ·exact .inl ⟨by rw[cV] at g⊢;exact g,k⟩
     ·exact .inr ⟨by rw[cV] at g⊢;exact g,k⟩
    have aj:v'=v0:=iY af ag G (U.sub _ G);rw[aj,<-ev,gJ] at X;exact X
theorem kz {ops ops':Array Oper} (c:∀tmps,yielded ops tmps=yielded ops' tmps) {Lq:Act->Prop}:∀(m:List Oper) (j:Nat) (a:Act),wpF P K w0 γ C ops Lq j m a->wpF P K w0 γ C ops' Lq j m a
 |[],j,a,h=>h
 |o::m,j,a,h=>by
  rw[wpF] at h⊢
  split at h
  ·rename_i hf;rw[yz hf];exact⟨by have b:=h.1;unfold fh at b⊢;rw[<-c];exact b,kz c m _ _ h.2⟩
  ·rename_i hf;rw[yw hf];obtain⟨v,b,d⟩:=h;refine⟨v, ?_,kz c m _ _ d⟩;unfold YieldsIn at b⊢;rw[<-c];exact b
theorem br {id:Nat} {Q:Exit->Act->World->Prop} {a:Act} {w:World} {l:List Oper} (n:Nat) (K:Kit) (hm:P.follows .mixedOrders=true) (M:Region.lexTailB .any l.toArray n=true) (i:∀γ,Region.lexTailB .any (dV K γ 0 l).toArray n=true)
  (m:xY .any l K n=true) (V:K.Stable) (z:K.Known)
  (h:∀(γ:Nat->Value) (Z:K.Good γ) (C:World->Prop) (k:lC w C) (X:Nonempty (gZ w C)),wpF P K w γ (λw'=>∃p:gZ w C,w'=p.w) l.toArray
   (λf=>∀w',Below w.heap.size w w'->(∀d,d<n->K.fr d=true->K.Φ d (γ d) w')->wpList P l.toArray Q (l.drop n) f w') 0 (l.take n) a):
  (Code.region id l.toArray true).wp P Q a w:=by
 simp only[Region.lexTailB,yF,yY] at M;obtain⟨⟨⟨⟨R,G⟩,I⟩,J⟩,S⟩:=M;have D:n<l.length:=by simpa using G
 have o:(l.drop n).length=l.toArray.size-n:=by simp
 have b:(l.take n).length=n:=by rw[yM];omega
 have e:HeadInv .any l.toArray n (Array.replicate l.toArray.size false):=
  ⟨by simp,λj oj _ r=>(by rw[BF] at r;cases r),λt _ Y=>getD_in (by simpa using Y) (BF _ _)⟩
 refine wp_region_any hm ?_;have e0:l.toArray.size=n+(l.toArray.size-n):=by simp;omega
 have F:=mS (P:=P) (K:=K) (md:= .any) (l:=l) (n:=n) (gg:=l.toArray.size-n) (w0:=w) (Q':=Q)
  (Lq:=λγ f=>∀w',Below w.heap.size w w'->(∀d,d<n->K.fr d=true->K.Φ d (γ d) w')->wpList P l.toArray Q (l.drop n) f w')
  V z D I J (by simp;omega) m (λγ c f w' aa W B s y=> ?_) n (Array.replicate l.toArray.size false) a {w with drawn:=w.drawn+1} (λj=>Classical.choose (z.ne j)) (λj _=>Classical.choose_spec (z.ne j)) e (ae _)
  (λd _ _ r=>(by rw[BF] at r;cases r)) (λγ C q k _=> ?_)
 ·rw[<-e0] at F;exact F
 ·have U:=wpAny_of_seq (P:=P) (md:= .any) (ops:=l.toArray) (Q':=Q) (l.drop n) n c f w' (λj=>by simp[Br]) (by rw[o];exact s) (y w' W B)
  rwa [o] at U
 ·have g:=i γ;simp only[Region.lexTailB,yF,yY] at g;obtain⟨⟨⟨⟨T,g2⟩,g3⟩,g4⟩,L⟩:=g;have E:(dV K γ 0 l).toArray.size=l.toArray.size:=by rw[AI,AI,kW]
  have x:(λw'=>∃p:gZ w C,w'=p.w)=C:=by funext w';exact propext (sg k w')
  have v:=h γ q C k (by obtain⟨wC,u⟩:=k.ne;exact⟨⟨wC,k.sub _ u,u⟩⟩);rw[x] at v;replace v:=kz (ops':=(dV K γ 0 l).toArray) (λtmps=>(cV K γ l tmps).symm) _ _ _ v
  have H:=lX (P:=P) (K:=K) (w0:=w) (γ:=γ) (md:= .any) (l:=l) (C:=C) (n:=n) (gg:=l.toArray.size-n) T R I J G (l.take n) 0 (Array.replicate l.toArray.size false) a (λj N=>by
   have A:j<n:=by rw[b] at N;exact N
   simp[A]) (by simpa using b) e (by rw[b];rw[E] at L;exact L) (by rw[b];exact S) v
  rw[b] at H;exact H
structure FOp where
 j:Nat
 D:List Nat
 S:Value->Prop
 Φ:Value->World->Prop
def Kit.of (L:List FOp):Kit where
 fr j:=L.any λx=>x.j==j
 Φ j:=match L.find? (λx=>x.j==j) with
  |some x=>x.Φ
  |none=>λ_ _=>True
 D j:=match L.find? (λx=>x.j==j) with
  |some x=>x.D
  |none=>[]
 S j:=match L.find? (λx=>x.j==j) with
  |some x=>x.S
  |none=>λ_=>True
theorem Kit.of_stable {L:List FOp} (h:∀x∈L,∀v w w',x.Φ v w->Below w.heap.size w w'->x.Φ v w'):(Kit.of L).Stable:=λj v w w' a b=>by
 unfold Kit.of at a⊢
 cases hx:L.find? (λx=>x.j==j) with
 |none=>simp only[hx]
 |some x=>
  simp only[hx] at a⊢;exact h x (List.mem_of_find?_eq_some hx) v w w' a b
theorem Kit.of_known {L:List FOp} (h:∀x∈L,(∀u w,x.Φ u w->x.S u)/\∃u,x.S u):(Kit.of L).Known:=by
 refine⟨λj u w a=> ?_,λj=> ?_⟩
 ·unfold Kit.of at a⊢
  cases hx:L.find? (λx=>x.j==j) with
  |none=>simp only[hx]
  |some x=>
   simp only[hx] at a⊢;exact(h x (List.mem_of_find?_eq_some hx)).1 u w a
 ·unfold Kit.of
  cases hx:L.find? (λx=>x.j==j) with
  |none=>simp only[hx];exact⟨undef,trivial⟩
  |some x=>
   simp only[hx];exact(h x (List.mem_of_find?_eq_some hx)).2
theorem cB {P:Program} {f:FuncId} {fn:Func} (hf:P.funcs[f]? =some fn) (hname:(fn.name== "runtime.NumGoroutine")=false) (hb:fn.body.isNone=false) (args:Array Value) (w:World):(callFunc f args).run P w= .ok (.enter f args) w:=by
 have h1:fn.name≠ "runtime.NumGoroutine":=by simpa using hname
 have h2:¬fn.body=none:=by intro h;rw[h] at hb;cases hb
 simp[callFunc,hf,h1,h2]
theorem cG {ops:Array Oper} {j:Nat} {o:Oper} {a:Act} (k:Region.wanted o (yielded ops a.tmps)=true) (f:FuncId) (xs:Array Operand) (ts:Array TypeId) (c:∀args w,(callFunc f args).run P w= .ok (.enter f args) w) (l:o.op= .call {callee:= .value (.func f),args:=xs,argTypes:=ts}) {args:Array Value} (b:xs.map a.eval=args)
  (h:∀w,Below w0.heap.size w0 w->(∀d∈K.D j,K.Φ d (γ d) w)->Calls P f args w (λe w'=>∃v,e= .returned v/\(K.Φ j v w'/\Below w.heap.size w w'))):fh ops P K w0 γ j o a:=by
 subst b;refine⟨k,λw g i=> ?_⟩
 have:(execOp a.eval o).run P w= .ok (.enter f (xs.map a.eval)) w:=by
  simp[execOp,l,resolve,invoke,Act.eval,Deferred.ofValue,c,Result.andThen]
 rw[this];exact⟨rfl,h w g i⟩
theorem bc {j:Nat} {o:Oper} {a:Act} (k:o.guard=none) (f:FuncId) (xs:Array Operand) (ts:Array TypeId) (c:∀args w,(callFunc f args).run P w= .ok (.enter f args) w) (l:o.op= .call {callee:= .value (.func f),args:=xs,argTypes:=ts}) {args:Array Value} (b:xs.map a.eval=args)
  (h:∀w,Below w0.heap.size w0 w->(∀d∈K.D j,K.Φ d (γ d) w)->Calls P f args w (λe w'=>∃v,e= .returned v/\(K.Φ j v w'/\Below w.heap.size w w'))):jh P K w0 γ j o a:=by
 subst b;refine⟨k,λw g i=> ?_⟩
 have:(execOp a.eval o).run P w= .ok (.enter f (xs.map a.eval)) w:=by
  simp[execOp,l,resolve,invoke,Act.eval,Deferred.ofValue,c,Result.andThen]
 rw[this];exact⟨rfl,h w g i⟩
end
end
section
open Go.RowKit
theorem pQ {w:World} {a:Addr} {v:Value} (h:w.cell? a=some v):a.spot=none:=by
 unfold World.cell? at h
 split at h
 ·split at h
  ·cases h
  ·rename_i hs;simpa using hs
 ·cases h
theorem fA {b o:Nat} (j:Nat):(⟨b,o,none⟩:Addr).add j=⟨b,o+j,none⟩:=by
 unfold Addr.add
 split
 ·rename_i h;subst h;rfl
 ·rfl
theorem add_zero (a:Addr):a.add 0=a:=rfl
theorem RS.form {w:World} {a:Addr} {l:List ByteArray} (h:RS w a l) (e:0<l.length):∃b o,a=⟨b,o,none⟩/\b<w.heap.size/\∀j,j<l.length->w.cell? ⟨b,o+j,none⟩=some (.string (l.getD j ⟨#[]⟩)):=by
 have c:=pQ (h.cells 0 e);obtain⟨b,o,s⟩:=a;rw[add_zero] at c;simp only at c;subst c;exact⟨b,o,rfl,h.lt,λj d=>by rw[<-fA];exact h.cells j d⟩
theorem IL.form {w:World} {v:Value} {l:List Int} (h:IL w v l):(∃A c,v= .slice A 0 c/\l=[])\/∃b o c,v= .slice (some ⟨b,o,none⟩) l.length c/\l.length<=c/\0<l.length/\b<w.heap.size/\∀j,j<l.length->w.cell? ⟨b,o+j,none⟩=some (.int .i64 (l.getD j 0)):=by
 obtain⟨A,c,rfl,g,m⟩:=h
 by_cases k:l.length=0
 ·have:l=[]:=yV k;subst this;exact .inl ⟨A,c,rfl,rfl⟩
 ·obtain⟨a,rfl,f,d⟩:=m (by omega);have e:=pQ (d 0 (by omega));obtain⟨b,o,s⟩:=a;rw[add_zero] at e;simp only at e;subst e;exact .inr ⟨b,o,c,rfl,g,by omega,f,λj i=>by rw[<-fA];exact d j i⟩
theorem SL.form {w:World} {v:Value} {l:List ByteArray} (h:SL w v l):(∃A c,v= .slice A 0 c/\l=[])\/∃b o c,v= .slice (some ⟨b,o,none⟩) l.length c/\l.length<=c/\0<l.length/\b<w.heap.size/\∀j,j<l.length->w.cell? ⟨b,o+j,none⟩=some (.string (l.getD j ⟨#[]⟩)):=by
 obtain⟨A,c,rfl,f,k⟩:=h
 by_cases g:l.length=0
 ·have:l=[]:=yV g;subst this;exact .inl ⟨A,c,rfl,rfl⟩
 ·obtain⟨a,rfl,i⟩:=k (by omega);obtain⟨b,o,rfl,e,d⟩:=i.form (by omega);exact .inr ⟨b,o,c,rfl,f,by omega,e,d⟩
theorem nu (w:World) (v:Value) (l:List ByteArray) (x:ByteArray) (h:SL w v l) (f:l.length<=9223372036854775807):
  Calls Tryz.prog 294 #[v,.string x] w λe w'=>e= .returned (.bool (Lib.containsS l x))/\w=w':=by
 rcases h.form with⟨A,c,rfl,rfl⟩|⟨b,o,c,rfl,g,i,d,a⟩
 ·exact(Tryz.slices_Contains_string_empty A c x w).mono λe w' ⟨he,hw⟩=>⟨he,hw.symm⟩
 ·refine(Tryz.slices_Contains_string b o l.length c l x w (yq _) f a).mono λe w' ⟨he,hw⟩=>⟨?_,hw.symm⟩;rw[he,Ay]
theorem owns_nil (w:World) (base:Nat) (e:TypeId) (size:Nat):w.ownsRow base e size (.slice none 0 0) 0 []:=by
 refine⟨by simp,.inl ⟨rfl,rfl⟩⟩
theorem rj (w:World) (v:Value) (l:List Int) (h:IL w v l) (g:l.length*8<=140737488355328):
  Calls Tryz.prog 88 #[v] w λe w'=>∃v',e= .returned v'/\(w'.ownsRow w.heap.size 3 1 v' l.length (gF l)/\Below w.heap.size w w'):=by
 rcases h.form with⟨A,c,rfl,rfl⟩|⟨b,o,c,rfl,i,j,f,d⟩
 ·cases A with
  |none=>exact(Tryz.slices_Clone_int_nil 0 c w).mono λe w' ⟨he,hw⟩=>⟨_,he,by rw[hw];exact⟨owns_nil _ _ _ _,yx _ _⟩⟩
  |some a=>exact(Tryz.slices_Clone_int_zero a c w).mono λe w' ⟨v',he,ho,_,hb⟩=>⟨v',he,ho,hb⟩
 ·refine(Tryz.slices_Clone_int b o l.length c l w (yq _) g d).mono λe w' ⟨v',he,ho,_,hb⟩=>⟨v',he, ?_,hb⟩;rw[Ay] at ho;exact ho
theorem kS (b:UInt8):∀l:List UInt8,Lib.indexByte l b=if ix b l<l.length then(ix b l:Int) else -1
 |[]=>by simp[Lib.indexByte,ix]
 |x::l=>by
  unfold Lib.indexByte;rw[kS b l];have d:=kQ (b:=b) l
  by_cases e:x=b
  ·simp[ix,e]
  ·have a:(x==b)=false:=by simpa using e
   simp only[a,ix,yw e,yr,Ck,Cc]
   by_cases h:ix b l<l.length
   ·have c:((ix b l:Int)== -1)=false:=by
     have:¬(ix b l:Int)= -1:=by omega
     exact beq_false_of_ne this
    simp only[yz h,yz (show ix b l+1<l.length+1 by omega),c];simp
   ·simp only[yw h,yw (show¬ix b l+1<l.length+1 by omega)]
    rfl
theorem liteCut (b:UInt8) (s:ByteArray) (w:World) (t:s.size<=9223372036854775807):
  Calls Tryz.prog 301 #[.string s,.string ⟨#[b]⟩] w λe w'=>e= .returned (.tuple #[.string (cI b s),.string (dZ b s),.bool (eV b s)])/\Below w.heap.size w w':=by
 have a:=zh (λw=>Tryz.stringslite_Index_one s b w);rw[kS] at a;have c:=kQ (b:=b) s.data.toList;have g:Hid (eV b s=decide (ix b s.data.toList<s.data.toList.length)):=zh rfl;have q:Hid (cI b s=s.extract 0 (ix b s.data.toList)):=zh (mB (by rw[Ci];simp[cI]));have hQ:Hid (dZ b s=s.extract (ix b s.data.toList+1) s.size):=zh (mB (by rw[Ci];simp only[dZ];exact(Ai (by rw[AY,Ba];omega)).symm));have k:Hid (ix b s.data.toList=s.data.toList.length->cI b s=s/\dZ b s=⟨#[]⟩):=zh λh=>⟨mB (by simp only[cI,h];exact Ai (yq _)),mB (by simp[dZ,h])⟩;obtain⟨n,o⟩:=zv (s.size);have d:s.data.toList.length=n:=by rw[o,Ba]
 rw[d] at a c g k;generalize ix b s.data.toList=i at*;obtain⟨p,hp⟩:=zv (⟨#[b]⟩:ByteArray);have f:p.size=1:=by rw[hp];rfl
 rw[<-hp] at a⊢;generalize cI b s=x at*;generalize dZ b s=y at*;generalize eV b s=z at*
 by_cases h:i<n
 ·rw[yz h] at a;have c1:(0:Int)<=(i:Int):=by omega
  have c2:(i:Int)<=(s.size:Int):=by omega
  have c3:(0:Int)<=(i:Int)+(p.size:Int):=by omega
  have c4:(i:Int)+(p.size:Int)<=(s.size:Int):=by omega
  have m:Hid (z=true):=zh (by rw[g.out];exact yB h);obtain⟨l,r⟩:=zk2 f o;clear k g d hp f h c;go_enter Tryz.func301,Tryz.ntmps301;go_wp2_with fail;refine(a _).mono ?_;rintro e w' ⟨rfl,rfl⟩;go_wp2_with fail
  go_region
  go_wp2_with fail;go_ret3;refine⟨?_,ay (yx _ _) 1⟩;rw[m.out,q.out,hQ.out,l.out]
  rfl
 ·rw[yw h] at a;have hi:i=n:=by omega
  have m:Hid (z=false):=zh (by rw[g.out];exact yv h);have j:=zh (k.out hi);clear k g d hp f h c o hi q hQ;go_enter Tryz.func301,Tryz.ntmps301;go_wp2_with fail;refine(a _).mono ?_;rintro e w' ⟨rfl,rfl⟩;go_wp2_with fail;go_ret3;refine⟨?_,yx _ _⟩;rw[m.out,j.out.1,j.out.2]
  rfl
theorem cutAt (b:UInt8) (s:ByteArray) (w:World) (d:s.size<=9223372036854775807) (h:cM w):
  Calls Tryz.prog 235 #[.string s,.string ⟨#[b]⟩] w λe w'=>e= .returned (.tuple #[.string (cI b s),.string (dZ b s),.bool (eV b s)])/\Below w.heap.size w w':=by
 have a:=zh (λw=>liteCut b s w d);obtain⟨p,hp⟩:=zv (⟨#[b]⟩:ByteArray);rw[<-hp] at a⊢;generalize cI b s=x at*;generalize dZ b s=y at*;generalize eV b s=z at*;clear hp d h;go_enter Tryz.func235,Tryz.ntmps235;go_wp2_with fail;refine(a _).mono ?_;rintro e w' ⟨rfl,c⟩;have f:=zh c;clear c;go_wp2_with fail;go_ret3;exact⟨rfl,f⟩
end
section
open Go.RowKit
theorem sd (c:Int) (w:World) (a: -2147483648<=c) (b:c<=2147483647):
  Calls Tryz.prog 340 #[.int .i32 c] w λe w'=>e= .returned (.bool (eJ c))/\w=w':=by
 go_enter Tryz.func340,Tryz.ntmps340
 go_wp2
 all_goals
  go_ret;refine⟨bF ?_,rfl⟩;unfold eJ
  first|(rw[eq_comm];exact yB (by omega))|(rw[eq_comm];exact yv (by omega))|(simp;omega)
theorem lexDigit (c:Int) (w:World) (a: -2147483648<=c) (b:c<=2147483647):
  Calls Tryz.prog 355 #[.int .i32 c] w λe w'=>e= .returned (.bool (mK c))/\w=w':=by
 go_enter Tryz.func355,Tryz.ntmps355
 go_wp2
 all_goals
  go_ret;refine⟨bF ?_,rfl⟩;unfold mK
  first|(rw[eq_comm];exact yB (by omega))|(rw[eq_comm];exact yv (by omega))|(simp;omega)
theorem sk (c:Int):(eJ c=true/\ey c=true)\/(eJ c=false/\mK c=true/\ey c=true)\/(eJ c=false/\mK c=false/\65<=c/\c<=90/\ey c=true)∨
  (eJ c=false/\mK c=false/\¬65<=c/\(c==95)=false/\ey c=false)\/(eJ c=false/\mK c=false/\65<=c/\decide (c<=90)=false/\(c==95)=true/\ey c=true)\/(eJ c=false/\mK c=false/\65<=c/\decide (c<=90)=false/\(c==95)=false/\ey c=false):=by
 unfold eJ mK ey;simp only[yY,Cg,beq_iff_eq,Bk];omega
theorem tQ (c:Int) (w:World) (g: -2147483648<=c) (h:c<=2147483647):
  Calls Tryz.prog 341 #[.int .i32 c] w λe w'=>e= .returned (.bool (ey c))/\w=w':=by
 have j:=zh (λw=>sd c w g h);have k:=zh (λw=>lexDigit c w g h);have f:=sk c;generalize eJ c=lo at*;generalize mK c=di at*;rcases f with⟨rfl,a⟩|⟨rfl,rfl,a⟩|⟨rfl,rfl,b,d,a⟩|⟨rfl,rfl,b,d,a⟩|⟨rfl,rfl,b,d,l,a⟩|⟨rfl,rfl,b,d,l,a⟩
 all_goals
  have i:=zh a;clear a;go_enter Tryz.func341,Tryz.ntmps341;go_wp2_with fail;refine(j _).mono ?_;rintro e w' ⟨rfl,rfl⟩;go_wp2_with(refine(k _).mono ?_;rintro e w' ⟨rfl,rfl⟩);go_ret;exact⟨bF i.out.symm,rfl⟩
theorem rI (c:Int) (w:World) (a:0<=c) (b:c<=255):
  Calls Tryz.prog 256 #[.int .u8 c] w λe w'=>e= .returned (.bool (eJ c))/\w=w':=by
 go_enter Tryz.func256,Tryz.ntmps256
 go_wp2
 all_goals
  go_ret;refine⟨bF ?_,rfl⟩;unfold eJ
  first|(rw[eq_comm];exact yB (by omega))|(rw[eq_comm];exact yv (by omega))|(simp;omega)
theorem wX (c:Int) (w:World) (a:0<=c) (b:c<=255):
  Calls Tryz.prog 309 #[.int .u8 c] w λe w'=>e= .returned (.bool (mK c))/\w=w':=by
 go_enter Tryz.func309,Tryz.ntmps309
 go_wp2
 all_goals
  go_ret;refine⟨bF ?_,rfl⟩;unfold mK
  first|(rw[eq_comm];exact yB (by omega))|(rw[eq_comm];exact yv (by omega))|(simp;omega)
theorem refInner (c:Int) (w:World) (g:0<=c) (h:c<=255):
  Calls Tryz.prog 258 #[.int .u8 c] w λe w'=>e= .returned (.bool (ey c))/\w=w':=by
 have j:=zh (λw=>rI c w g h);have k:=zh (λw=>wX c w g h);have f:=sk c;generalize eJ c=lo at*;generalize mK c=di at*;rcases f with⟨rfl,a⟩|⟨rfl,rfl,a⟩|⟨rfl,rfl,b,d,a⟩|⟨rfl,rfl,b,d,a⟩|⟨rfl,rfl,b,d,l,a⟩|⟨rfl,rfl,b,d,l,a⟩
 all_goals
  have i:=zh a;clear a;go_enter Tryz.func258,Tryz.ntmps258;go_wp2_with fail;refine(j _).mono ?_;rintro e w' ⟨rfl,rfl⟩;go_wp2_with(refine(k _).mono ?_;rintro e w' ⟨rfl,rfl⟩);go_ret;exact⟨bF i.out.symm,rfl⟩
end
section
open Go.RowKit
def KW (w:World):Prop:=∃v,w.cell? ⟨0,0,none⟩=some v/\SL w v fp
theorem KW.lt {w:World} (h:KW w):0<w.heap.size:=by
 obtain⟨v,h,_⟩:=h;rcases Cd 0 w.heap.size with b|a
 ·exact b
 ·unfold World.cell? at h;simp only[Array.getElem?_eq_none a] at h;cases h
theorem KW.below {w w':World} (h:KW w) (b:Below w.heap.size w w'):KW w':=by
 have a:=h.lt;obtain⟨v,c,d⟩:=h;exact⟨v,by rw[b.cell (p:=⟨0,0,none⟩) a];exact c,d.below b⟩
instance {w w':World}:Zm w w' (KW w) (KW w'):=⟨λhb h=>KW.below h hb⟩
theorem jf (w:World) (s:ByteArray) (p:Nat):Below w.heap.size w (w.iter s p):=ac w _
theorem nf {s:ByteArray} {k:Nat} (h:∀j,j<k->ey (byt s j)=true) (hk:ey (byt s k)=true):∀j,j<k+1->ey (byt s j)=true:=λj a=>by
 by_cases e:j=k
 ·rw[e];exact hk
 ·exact h j (by omega)
theorem not_wrd {s:ByteArray} {k:Nat} (hk:k<s.size) (h:ey (byt s k)=false):decide (Wrd s)=false:=
 yv λa=>by rw[a.2.2 k hk] at h;cases h
theorem not_wrd0 {s:ByteArray} (h:eJ (byt s 0)=false):decide (Wrd s)=false:=
 yv λa=>by rw[a.2.1] at h;cases h
theorem qz {c:Int} (h:128<=c):eJ c=false/\ey c=false:=by
 unfold eJ ey;exact⟨yv (by omega),yv (by omega)⟩
theorem low_inn {c:Int} (h:eJ c=true):ey c=true:=by
 unfold eJ at h;unfold ey;have:=AD h;exact yB (by omega)
theorem et (d:ByteArray):(d.toList.isEmpty=decide (d.size=0))/\((!d.toList.isEmpty)= !decide (d.size=0))/\(d.toList=[]↔d.size=0):=by
 have e:d.toList.isEmpty=decide (d.size=0):=by
  rw[Lib.toList_data,Ba];cases d.data.toList<;>simp
 refine⟨e,by rw[e], ?_⟩;rw[Lib.toList_data,Ba];exact List.length_eq_zero_iff.symm
theorem lexWord (s:ByteArray) (w:World) (L:s.size<=maxLen):
  Calls Tryz.prog 299 #[.string s] w λe w'=>e= .returned (.bool (decide (Wrd s)))/\Below w.heap.size w w':=by
 unfold maxLen at L;go_enter Tryz.func299,Tryz.ntmps299;go_wp2_with fail
 go_loopw [] (λwr=>∃k:Nat,k<=s.size/\Hid (∀j,j<k->ey (byt s j)=true)/\Hid (0<k->eJ (byt s 0)=true)/\wr=w.iter s k) (λwr=>s.size-wr.iterPos w.heap.size)
 case atStart=>exact⟨0,yt _,(λj h=>by omega),(λh=>by omega),rfl⟩
 case round=>
  obtain⟨k,hk,l,i,rfl⟩:=hrel
  by_cases b:k<s.size
  ·have p:=ir s k b;have C:=byt_bd s k
   obtain⟨c,q,D,J,x,m⟩:∃(c:Int) (q:Nat),(∀ty,(Instr.next (.pointer (some ⟨w.heap.size,0,none⟩)) true ty).run Tryz.prog (w.iter s k)= .ok (.tuple #[.bool true,.int .i64 k,.int .i32 c]) (w.iter s q))/\0<=c/\c<=2147483647∧
     ((c=byt s k/\q=k+1)\/(ey c=false/\ey (byt s k)=false/\eJ c=false)):=by
    by_cases I:(s[k]'b).toNat<128
    ·exact⟨byt s k,k+1,λty=>by rw[p];exact run_next_ascii (P:=Tryz.prog) w s k ty b I,by omega,by omega,.inl ⟨rfl,rfl⟩⟩
    ·have d:=(decode_high s k b (by omega)).1;have f:=decode_le s k;exact⟨((Utf8.decode s k).1:Int),k+(Utf8.decode s k).2,λty=>run_next_any (P:=Tryz.prog) w s k ty b,by omega,by omega,.inr ⟨(qz (by omega)).2,(qz (by rw[p];omega)).2,(qz (by omega)).1⟩⟩
   have t:=zh (λw=>sd c w (by omega) x);have o:=zh (λw=>tQ c w (by omega) x)
   have E:(eJ c=true/\ey c=true/\c=byt s k/\q=k+1)\/(eJ c=false/\ey c=true/\c=byt s k/\q=k+1)\/(eJ c=false/\ey c=false/\ey (byt s k)=false):=by
    rcases m with⟨e1,B⟩|⟨e1,B,G⟩
    ·cases i:eJ c
     ·cases hi:ey c
      ·exact .inr (.inr ⟨rfl,rfl,by rw[<-e1];exact hi⟩)
      ·exact .inr (.inl ⟨rfl,rfl,e1,B⟩)
     ·exact .inl ⟨rfl,low_inn i,e1,B⟩
    ·exact .inr (.inr ⟨G,e1,B⟩)
   have z:Hid (q=k+1->∀W,W=w.iter s q->W=w.iter s (k+1)):=zh λh W H=>by rw[H,h]
   clear m p C;rcases E with⟨d,f,g,u⟩|⟨d,f,g,u⟩|⟨d,f,g⟩
   ·have y:=zh (nf l.out (by rw[<-g];exact f))
    have A:Hid (0<k+1->eJ (byt s 0)=true):=zh λ_=>by
     by_cases a:k=0
     ·subst a;rw[<-g];exact d
     ·exact i.out (by omega)
    rw[d] at t;rw[f] at o;have n:=zh u;clear d f g u l i z
    by_cases a:k=0
    ·have v:((k:Int)==0)=true:=by simpa using a
     clear a;go_wp2_with fail;refine(t _).mono ?_;rintro e w' ⟨rfl,rfl⟩;go_wp2_with fail;refine(o _).mono ?_;rintro e w' ⟨rfl,rfl⟩;go_wp2_with fail;go_roundw
     ·exact⟨k+1,by omega,y,A,by rw[n.out]⟩
     ·simp[n.out];omega
    ·have v:((k:Int)==0)=false:=by simpa using a
     clear a;go_wp2_with fail;refine(o _).mono ?_;rintro e w' ⟨rfl,rfl⟩;go_wp2_with fail;go_roundw
     ·exact⟨k+1,by omega,y,A,by rw[n.out]⟩
     ·simp[n.out];omega
   ·by_cases a:k=0
    ·have v:((k:Int)==0)=true:=by simpa using a
     have r:=zh (not_wrd0 (s:=s) (by rw[a] at g;rw[<-g];exact d));rw[d] at t;clear a d f g u l i z;go_wp2_with fail;refine(t _).mono ?_;rintro e w' ⟨rfl,rfl⟩;go_wp2_with fail;go_ret;exact⟨bF r.out.symm,jf _ _ _⟩
    ·have v:((k:Int)==0)=false:=by simpa using a
     have y:=zh (nf l.out (by rw[<-g];exact f));have A:Hid (0<k+1->eJ (byt s 0)=true):=zh λ_=>i.out (by omega);rw[f] at o;have n:=zh u;clear a d f g u l i z;go_wp2_with fail;refine(o _).mono ?_;rintro e w' ⟨rfl,rfl⟩;go_wp2_with fail;go_roundw
     ·exact⟨k+1,by omega,y,A,by rw[n.out]⟩
     ·simp[n.out];omega
   ·have r:=zh (not_wrd b g);rw[d] at t;rw[f] at o;clear d f g l i z
    by_cases a:k=0
    ·have v:((k:Int)==0)=true:=by simpa using a
     clear a;go_wp2_with fail;refine(t _).mono ?_;rintro e w' ⟨rfl,rfl⟩;go_wp2_with fail;go_ret;exact⟨bF r.out.symm,jf _ _ _⟩
    ·have v:((k:Int)==0)=false:=by simpa using a
     clear a;go_wp2_with fail;refine(o _).mono ?_;rintro e w' ⟨rfl,rfl⟩;go_wp2_with fail;go_ret;exact⟨bF r.out.symm,jf _ _ _⟩
  ·have D:=λty=>run_next_end (P:=Tryz.prog) w s k ty b
   have r:Hid ((!s.toList.isEmpty)=decide (Wrd s)):=by
    refine zh ?_;rw[(et s).2.1]
    by_cases F:s.size=0
    ·rw[yB F,yv (λhw:Wrd s=>by have:=hw.1;omega)];rfl
    ·have K:k=s.size:=by omega
     rw[yv F,yB (show Wrd s from⟨by omega,i.out (by omega),λj M=>l.out j (by omega)⟩)];rfl
   clear l i;go_wp2_with fail;go_ret;exact⟨bF r,jf _ _ _⟩
theorem lexKey (s:ByteArray) (w:World) (h:KW w):
  Calls Tryz.prog 300 #[.string s] w λe w'=>e= .returned (.bool (kR s))/\w=w':=by
 obtain⟨v,b,a⟩:=h;have C:=zh (nu w v fp s a (by decide));clear a;go_enter Tryz.func300,Tryz.ntmps300;go_wp2_with fail;refine C.out.mono ?_;rintro e w' ⟨rfl,rfl⟩;go_wp2_with fail;go_ret;exact⟨rfl,rfl⟩
theorem kN (s:ByteArray) (w:World) (j:s.size<=maxLen) (h:KW w):
  Calls Tryz.prog 234 #[.string s] w λe w'=>e= .returned (.bool (aN s))/\Below w.heap.size w w':=by
 have l:=zh h;have i:=zh (λw=>lexWord s w j);have k:=zh (λw h=>lexKey s w h);have d:Hid (aN s=(decide (Wrd s)&&decide (s.size<=16)&& !kR s)):=zh rfl;generalize aN s=r at*;generalize decide (Wrd s)=q at*;generalize kR s=ky at*;unfold maxLen at j;clear h;cases q
 ·go_enter Tryz.func234,Tryz.ntmps234;go_wp2_with fail;refine(i _).mono ?_;rintro e w1 ⟨rfl,a⟩;have c:=zh a;clear a;go_wp2_with fail;go_ret;exact⟨bF (by rw[d.out];rfl),c⟩
 ·by_cases g:s.size<=16
  ·have f:(s.size:Int)<=16:=by omega
   have b:Hid (r= !ky):=zh (by rw[d.out,yB g];rfl);clear d;go_enter Tryz.func234,Tryz.ntmps234;go_wp2_with fail;refine(i _).mono ?_;rintro e w1 ⟨rfl,a⟩;have c:=zh a;clear a;go_wp2_with fail;refine(k _ (l.out.below c)).mono ?_;rintro e w' ⟨rfl,rfl⟩;go_wp2_with fail;go_ret;exact⟨bF (by rw[b.out]),c⟩
  ·have f:¬(s.size:Int)<=16:=by omega
   have b:Hid (r=false):=zh (by rw[d.out,yv g];rfl);clear d;go_enter Tryz.func234,Tryz.ntmps234;go_wp2_with fail;refine(i _).mono ?_;rintro e w1 ⟨rfl,a⟩;have c:=zh a;clear a;go_wp2_with fail;go_ret;exact⟨bF (by rw[b.out]),c⟩
end
section
open Go.RowKit
theorem kh {a b:ByteArray} (h:a≠b):(a.toList==b.toList)=false/\(a.toList !=b.toList)=true:=by
 have c:(a.toList==b.toList)=false:=by
  have:¬a.toList=b.toList:=λe=>h (by
   have d:a.data.toList=b.data.toList:=by rw[<-Lib.toList_data,<-Lib.toList_data];exact e
   exact mB d)
  simpa using this
 exact⟨c,by simp[bne,c]⟩
theorem SL.of_box {w:World} {g:Nat} {cs:Array Value} {t:TypeId} (h:Box w g cs t) (l:List ByteArray) (c:Nat) (d:l.length<=c) (a:cs.toList=scells l):SL w (.slice (some ⟨g,0,none⟩) l.length c) l:=by
 refine⟨some ⟨g,0,none⟩,c,rfl,d,λhp=>⟨_,rfl,⟨h.lt,λj b=> ?_⟩⟩⟩;rw[fA,yH];refine h.at_ j _ ?_;rw[<-Array.getElem?_toList,a];simp[scells,yj,yp b]
theorem rJ (w:World):Calls Tryz.prog 308 #[] w λe w'=>∃v,e= .returned v/\(SL w' v fp/\Below w.heap.size w w'):=by
 go_enter Tryz.func308,Tryz.ntmps308;go_wp2_with fail;go_ret;exact⟨_,rfl,SL.of_box (Box.new _ _ _) fp 24 (by decide) rfl,ac _ _⟩
theorem lp {l:List ByteArray} {s:ByteArray} {k:Nat} (hk:k<l.length) (h:l.getD k ⟨#[]⟩=s):Lib.containsS l s=true:=by
 rw[Lib.containsS_iff,<-h,yj,yp hk];exact AJ hk
theorem j9 {l:List ByteArray} {s:ByteArray} (h:∀j,j<l.length->l.getD j ⟨#[]⟩≠s):Lib.containsS l s=false:=by
 cases hc:Lib.containsS l s
 ·rfl
 ·obtain⟨j,a,b⟩:=yS.1 ((Lib.containsS_iff _ _).1 hc);exact absurd (by rw[yj,yp a];exact b) (h j a)
theorem refHas (w:World) (v:Value) (l:List ByteArray) (s:ByteArray) (h:SL w v l) (E:l.length<=9223372036854775807):
  Calls Tryz.prog 307 #[v,.string s] w λe w'=>e= .returned (.bool (Lib.containsS l s))/\w=w':=by
 obtain⟨A,c,rfl,D,u⟩:=h;have g:=zh (λk hk h=>lp (l:=l) (s:=s) (k:=k) hk h);have m:=zh (j9 (l:=l) (s:=s));obtain⟨N,t⟩:=zv (l.length);rw[<-t] at u D E g m⊢;obtain⟨C,y⟩:=zk2 u t;generalize Lib.containsS l s=r at*;clear u t;go_enter Tryz.func307,Tryz.ntmps307;go_wp2_with fail
 go_loop [5] (λi=>∃k:Nat,k<=N/\i= .int .i64 k/\Hid (∀j,j<k->l.getD j ⟨#[]⟩≠s)) (λi=>N-(intOf i).toNat)
 case atStart=>exact⟨0,yt _,rfl,(λj z=>by omega)⟩
 case round=>
  obtain⟨k,hk,rfl,n⟩:=hrel
  by_cases d:k<N
  ·have o:(k:Int)<N:=by omega
   obtain⟨a,rfl,p⟩:=C.out (by omega)
   by_cases f:l.getD k ⟨#[]⟩=s
   ·have q:=zh (g k d f);have b:w.cell? (a.add k)=some (.string s):=by rw[p.cells k (by rw[<-y.out];exact d),f]
    clear f n p;go_wp2_with fail;go_ret;exact⟨bF q.out.symm,rfl⟩
   ·have B:Hid (∀j,j<k+1->l.getD j ⟨#[]⟩≠s):=λj z=>by
     by_cases e:j=k
     ·rw[e];exact f
     ·exact n.out j (by omega)
    have b:=p.cells k (by rw[<-y.out];exact d);obtain⟨e1,F⟩:=kh f;generalize l.getD k ⟨#[]⟩=x at*;clear f n p;go_wp2_with fail
    go_round
    ·exact⟨k+1,by omega,by go_num,B⟩
    ·simp[intOf];omega
  ·have o:¬(k:Int)<N:=by omega
   have q:=zh (m λj z=>n.out j (by omega));clear n;go_wp2_with fail;go_ret;exact⟨bF q.out.symm,rfl⟩
theorem refKey (s:ByteArray) (w:World):
  Calls Tryz.prog 257 #[.string s] w λe w'=>e= .returned (.bool (kR s))/\Below w.heap.size w w':=by
 have c:=zh (λw v h=>refHas w v fp s h (by decide));go_enter Tryz.func257,Tryz.ntmps257;go_wp2_with fail;refine(rJ _).mono ?_;rintro e w1 ⟨v,rfl,b,a⟩;obtain⟨d,f⟩:=zk2 a b;clear a b;go_wp2_with fail;refine(c _ _ f).mono ?_;rintro e w' ⟨rfl,rfl⟩;go_wp2_with fail;go_ret;exact⟨rfl,d⟩
theorem u6 {s:ByteArray} {k:Nat} (hk:k<s.size) (h:ey (byt s k)=false):aN s=false:=by
 cases hn:aN s
 ·rfl
 ·have:=(b9.1 hn).1.2.2 k hk;rw[h] at this;cases this
theorem kD (s:ByteArray) (w:World) (D:s.size<=maxLen):
  Calls Tryz.prog 188 #[.string s] w λe w'=>e= .returned (.bool (aN s))/\Below w.heap.size w w':=by
 unfold maxLen at D;have a:aN s=false->Hid (aN s=false):=λh=>zh h
 by_cases l:s.size=0
 ·have b:Hid (aN s=false):=a (by
   cases hn:aN s
   ·rfl
   ·have:=(b9.1 hn).1.1;omega)
  have E:s.toList=[]:=(et s).2.2.2 l;clear l a;go_enter Tryz.func188,Tryz.ntmps188;go_wp2_with fail;go_ret;exact⟨bF b.out.symm,yx _ _⟩
 have F:s.toList.isEmpty=false:=by rw[(et s).1];exact yv l
 have G:¬s.toList=[]:=λh=>l ((et s).2.2.1 h)
 by_cases g:16<s.size
 ·have b:Hid (aN s=false):=a (by
   cases hn:aN s
   ·rfl
   ·have:=(b9.1 hn).2.1;omega)
  have B:(16:Int)<s.size:=by omega
  clear l a g;go_enter Tryz.func188,Tryz.ntmps188;go_wp2_with fail;go_ret;exact⟨bF b.out.symm,yx _ _⟩
 have B:¬(16:Int)<s.size:=by omega
 have d:0<s.size:=by omega
 have u:=ir s 0 d;have n:=zh (λw=>rI (s[0].toNat:Int) w (by omega) (by have:=s[0].toNat_lt;omega))
 by_cases m:eJ (byt s 0)=true
 case neg=>
  have b:Hid (aN s=false):=a (by
   cases hn:aN s
   ·rfl
   ·exact absurd (b9.1 hn).1.2.1 m)
  have c:eJ (s[0].toNat:Int)=false:=by rw[<-u];simpa using m
  rw[c] at n;clear l a g m c u;go_enter Tryz.func188,Tryz.ntmps188;go_wp2_with fail;refine(n _).mono ?_;rintro e w' ⟨rfl,rfl⟩;go_wp2_with fail;go_ret;exact⟨bF b.out.symm,yx _ _⟩
 have c:eJ (s[0].toNat:Int)=true:=by rw[<-u];exact m
 rw[c] at n;have y:=zh (λw=>refKey s w)
 have A:Hid ((∀j,j<s.size->ey (byt s j)=true)->aN s= !kR s):=zh λh=>by
  unfold aN;rw[yB (show Wrd s from⟨d,m,h⟩),yB (show s.size<=16 by omega)];rfl
 have x:Hid (kR s=true->aN s=false):=zh λh=>by unfold aN;rw[h];simp
 have v:=zh (λk hk h=>u6 (s:=s) (k:=k) hk h);clear a m c u g l;generalize aN s=r at*;generalize kR s=ky at*;cases ky
 case true=>
  have b:=zh (x rfl);go_enter Tryz.func188,Tryz.ntmps188;go_wp2_with fail;refine(n _).mono ?_;rintro e w' ⟨rfl,rfl⟩;go_wp2_with fail;refine(y _).mono ?_;rintro e w1 ⟨rfl,o⟩;have t:=zh o;clear o;go_wp2_with fail;go_ret;exact⟨bF b.out.symm,t⟩
 go_enter Tryz.func188,Tryz.ntmps188;go_wp2_with fail;refine(n _).mono ?_;rintro e w' ⟨rfl,rfl⟩;go_wp2_with fail;refine(y _).mono ?_;rintro e w1 ⟨rfl,o⟩;have t:=zh o;clear o;go_wp2_with fail
 go_loop [3] (λi=>∃k:Nat,k<=s.size/\i= .int .i64 k/\Hid (∀j,j<k->ey (byt s j)=true)) (λi=>s.size-(intOf i).toNat)
 case atStart=>exact⟨0,yt _,rfl,(λj C=>by omega)⟩
 case round=>
  obtain⟨k,hk,rfl,p⟩:=hrel
  by_cases q:k<s.size
  ·have bk:=ir s k q;have f:=zh (λw=>refInner (s[k].toNat:Int) w (by omega) (by have:=s[k].toNat_lt;omega));rw[<-bk] at f;have BK:=zh bk;clear bk;cases hi:ey (byt s k)
   ·have b:=zh (v k q hi);rw[hi] at f;rw[BK.out] at f;clear p hi;go_wp2_with fail;refine(f _).mono ?_;rintro e w' ⟨rfl,rfl⟩;go_wp2_with fail;go_ret;exact⟨bF b.out.symm,t⟩
   ·have z:=zh (nf p.out hi);rw[hi] at f;rw[BK.out] at f;clear p hi;go_wp2_with fail;refine(f _).mono ?_;rintro e w' ⟨rfl,rfl⟩;go_wp2_with fail
    go_round
    ·exact⟨k+1,by omega,by go_num,z⟩
    ·simp[intOf];omega
  ·have b:=zh (A λj C=>p.out j (by omega));clear p;go_wp2_with fail;go_ret;exact⟨bF (by rw[b.out];rfl),t⟩
end
section
open Go.RowKit
def SPT (w:World) (s:ByteArray) (e:Ending) (w':World):Prop:=∃(a:ByteArray) (i:Int),e= .returned (.tuple #[.string a,.int .i64 i,.bool (decide (Elt s))])/\Below w.heap.size w w'
theorem SPT.mk {w w':World} {s:ByteArray} {a:ByteArray} {i:Int} {b:Bool} (h:b=decide (Elt s)) (c:Below w.heap.size w w'):SPT w s (.returned (.tuple #[.string a,.int .i64 i,.bool b])) w':=⟨a,i,by rw[h],c⟩
theorem refSplit (s:ByteArray) (w:World) (A:s.size<=9223372036854775807):
  Calls Tryz.prog 344 #[.string s] w (SPT w s):=by
 have a:¬Elt s->Hid (false=decide (Elt s)):=λh=>zh (yv h).symm
 by_cases l:s.size<4
 ·have b:=a (λh=>by have:=h.1;omega);have f:(s.size:Int)<4:=by omega
  clear a l;go_enter Tryz.func344,Tryz.ntmps344;go_wp2_with fail;go_ret3;exact SPT.mk b (yx _ _)
 obtain⟨n,t⟩:∃n,s.size=n+4:=⟨s.size-4,by omega⟩;have z:¬(s.size:Int)<4:=by omega
 have v:s.size-1<s.size:=by omega
 have x:s.size-2<s.size:=by omega
 have y:s.size-3<s.size:=by omega
 have i:=ir s _ v;have j:=ir s _ x;have k:=ir s _ y
 have g:Hid (Elt s↔(s[s.size-1].toNat:Int)=93/\(s[s.size-3].toNat:Int)=91/\48<=(s[s.size-2].toNat:Int)/\(s[s.size-2].toNat:Int)<56/\aN (s.extract 0 (s.size-3))=true):=zh (by
  rw[<-i,<-j,<-k];unfold Elt;constructor
  ·exact λh=>h.2
  ·exact λh=>⟨by omega,h⟩)
 have o:=zh (λw=>kD (s.extract 0 (s.size-3)) w (by unfold maxLen;rw[Ba,Ci];simp only[yM,AY];omega));have D:=s[s.size-1].toNat_lt;have E:=s[s.size-2].toNat_lt;have F:=s[s.size-3].toNat_lt;have G:((s.size:Int)-1).toNat=s.size-1:=by omega
 have H:((s.size:Int)-2).toNat=s.size-2:=by omega
 have I:((s.size:Int)-3).toNat=s.size-3:=by omega
 have J:1<=(s.size:Int):=by omega
 have K:2<=(s.size:Int):=by omega
 have L:3<=(s.size:Int):=by omega
 generalize aN (s.extract 0 (s.size-3))=nb at*;clear i j k t l
 by_cases c:(s[s.size-1].toNat:Int)=93
 case neg=>
  have b:=a (λh=>c (g.out.1 h).1);have q:((s[s.size-1].toNat:Int) !=93)=true:=by simpa using c
  clear a c;go_enter Tryz.func344,Tryz.ntmps344;go_wp2_with fail;go_ret3;exact SPT.mk b (yx _ _)
 have q:((s[s.size-1].toNat:Int) !=93)=false:=by simpa using c
 by_cases d:(s[s.size-3].toNat:Int)=91
 case neg=>
  have b:=a (λh=>d (g.out.1 h).2.1);have r:((s[s.size-3].toNat:Int) !=91)=true:=by simpa using d
  clear a c d;go_enter Tryz.func344,Tryz.ntmps344;go_wp2_with fail;go_ret3;exact SPT.mk b (yx _ _)
 have r:((s[s.size-3].toNat:Int) !=91)=false:=by simpa using d
 by_cases B:(s[s.size-2].toNat:Int)<48
 ·have b:=a (λh=>by have:=(g.out.1 h).2.2.1;omega);have u:(s[s.size-2].toNat:Int)-48<0:=by omega
  clear a c d;go_enter Tryz.func344,Tryz.ntmps344;go_wp2_with fail;go_ret3;exact SPT.mk b (yx _ _)
 have u:¬(s[s.size-2].toNat:Int)-48<0:=by omega
 by_cases C:8<=(s[s.size-2].toNat:Int)-48
 ·have b:=a (λh=>by have:=(g.out.1 h).2.2.2.1;omega);clear a c d;go_enter Tryz.func344,Tryz.ntmps344;go_wp2_with fail;go_ret3;exact SPT.mk b (yx _ _)
 have b:Hid (nb=decide (Elt s)):=zh (by
  cases nb
  ·exact(a (λh=>by have:=(g.out.1 h).2.2.2.2;cases this)).out
  ·exact(yB (g.out.2 ⟨c,d,by omega,by omega,rfl⟩)).symm)
 clear a c d;cases nb
 all_goals
  go_enter Tryz.func344,Tryz.ntmps344;go_wp2_with fail;refine(o _).mono ?_;rintro e w1 ⟨rfl,m⟩;have p:=zh m;clear m;go_wp2_with fail;go_ret3;exact SPT.mk b p
theorem refIsVar (s:ByteArray) (w:World) (j:s.size<=9223372036854775807):
  Calls Tryz.prog 312 #[.string s] w λe w'=>e= .returned (.bool (lI s))/\Below w.heap.size w w':=by
 have f:=zh (λw=>refSplit s w j);have h:=zh (λw=>kD s w (by unfold maxLen;omega));have d:Hid (lI s=(decide (Elt s)||aN s)):=zh rfl;unfold SPT at f;generalize lI s=r at*;generalize decide (Elt s)=el at*;generalize aN s=nb at*;cases el
 ·have g:Hid (r=nb):=zh (by rw[d.out];rfl);clear d;go_enter Tryz.func312,Tryz.ntmps312;go_wp2_with fail;refine(f _).mono ?_;rintro e w1 ⟨a,i,rfl,b⟩;have c:=zh b;clear b;go_wp2_with fail;refine(h _).mono ?_;rintro e w2 ⟨rfl,b⟩;replace c:=zb c b;clear b;go_wp2_with fail;go_ret;exact⟨bF (by rw[g.out]),c⟩
 ·have g:Hid (r=true):=zh (by rw[d.out];rfl);clear d;go_enter Tryz.func312,Tryz.ntmps312;go_wp2_with fail;refine(f _).mono ?_;rintro e w1 ⟨a,i,rfl,b⟩;have c:=zh b;clear b;go_wp2_with fail;go_ret;exact⟨bF (by rw[g.out]),c⟩
end
end
end Go.Proofs.YtdahpdnhkflnnaaGreatDoor
