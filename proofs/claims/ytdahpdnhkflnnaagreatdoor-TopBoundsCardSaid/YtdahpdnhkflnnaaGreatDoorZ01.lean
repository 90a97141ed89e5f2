/-
  Contracts and laws for the law TopBounds, part 1 of 12; made small by a program of mine out of longer texts.
-/
import Derived.Shelf.Small.Bits
import Derived.Shelf.Small.Wraps
import Derived.Shelf.Strconv.Itoa0
import Derived.Shelf.Strconv.Itoa1
import Derived.Shelf.LaysM
import Derived.Shelf.Strconv.Itoa2
import Derived.Shelf.Strconv.Itoa3
import Derived.Shelf.Strings.Search1
import Derived.Shelf.Strings.Search2
import Derived.Shelf.Strings.Cut
import Derived.Shelf.Strings.Shaped
import Derived.Shelf.Sort.Plain
import Derived.Shelf.Bits.Mul64
import Derived.Shelf.Slices.Turned
import Derived.Ground.Names2Prog
import Derived.Shelf.Slices.Clone
import Derived.Shelf.Slices.SearchI
import Derived.Shelf.Slices.In.SortNone
import Derived.Test.YtdahpdnhkflnnaaGreatDoorProg
import Derived.WalkKit
import Derived.Deep.QuietTactic
import Derived.Below
import Derived.Lib.IndexMore
import Derived.Lib.CutLaws
import Derived.Lib.SlicesS
import Derived.BigQuiet
import Derived.Laws.Rows
import Derived.StillTail
import Derived.Laws.AppendOwn
import Derived.OwnWalk
import Derived.Shelf.Vars
import Derived.Laws.AppendOwnNone
import Derived.Deep.DeepAppendWide
import Derived.Deep.Slices
import Derived.Lib.Hide
import Derived.Laws.CopyOwn
import Derived.ChangeArms
import Derived.OpenShut
import Derived.Deep.Fields
import Derived.SliceStrings
import Derived.ChangeSlices
import Derived.Maps.OwnOps
import Derived.Maps.Views
import Derived.DeepKeys4
import Derived.Deep.CutBlock
import Derived.Deep.CutRange
import Derived.Deep.RegionHeld3
import Derived.Tactics
import Derived.Tactics2
import Derived.Defers
import Derived.Recover
import Derived.Laws.Pointers
import Derived.Lib.SliceRun
import Derived.Deep.MidRow
import Derived.WalkSmall
import Derived.OrdersHeld
import Derived.Test.YtdahpdnhkflnnaaGreatDoorRows
import Derived.WalkSpells
import Derived.LoopTactic
import Derived.RegionTactic
import Derived.ChangeAlike
import Derived.Laws.RangeAny
import Derived.StringKeys
import Derived.Laws.MakeOwn
import Derived.Laws.Entries
import Derived.Laws.EntriesVeiled
import Derived.Lib.BitFns
import Derived.Lib.AppendZerosOnto
import Derived.WalkMore
import Derived.Deep.RegionWith
import Derived.IntWalk
import Derived.Outline
import Derived.Lib.ItoaNum
import Derived.BigRegion
import Derived.Laws.CopyRow
import Derived.ArgAppend
import Derived.Deep.AppendSrc
import Derived.RangeFuncBox
import Derived.RangeFuncLeaves
import Derived.RangeFuncFrom
import Derived.RangeFuncWrites
import Derived.Shelf.Abstract
import Derived.OwnWalkIn
import Derived.TacticsInMore
import Derived.LoopNIn
import Derived.LoopIn
import Derived.Maps.AppendAt
import Derived.Sort.OwnSortedInts
import Derived.Laws.Closers25b
import Derived.Lib.ConvBytes
import Derived.Lib.Strings
import Derived.Laws.IdiomStrings
import Derived.Lib.ItoaLen
import Derived.ProofKit
import Derived.LaidMore
import Derived.Lib.LaidTab
import Derived.Carry
import Derived.Handed
import Derived.ChangeSame
import Derived.DataShut
set_option linter.unusedVariables false
set_option linter.unusedSimpArgs false
set_option linter.unusedSectionVars false
set_option linter.defProp false
set_option maxRecDepth 100000
set_option maxHeartbeats 64000000
namespace Go.Proofs
section
open Go.Shelf
open Tryz
def Tryz.lays125_ren:Go.Shelf.Ren:=⟨fun |125=>227|128=>290|129=>291|n=>n,fun |46=>285|3=>3|51=>324|53=>55|4=>4|5=>5|9=>9|n=>n,fun |n=>n⟩
theorem Tryz.lays125:Go.Proofs.Lays.n125 prog Tryz.lays125_ren:={
 mixed:=by kernel_rfl
 f125:=func227.trans (congrArg some (by kernel_rfl))
 f128:=func290.trans (congrArg some (by kernel_rfl))
 f129:=func291.trans (congrArg some (by kernel_rfl))
 t3:=underlying3
 a3:=isAgg3
 z3:=sizeOf3
 v3:=zeroValue3
 t4:=underlying4
 a4:=isAgg4
 z4:=sizeOf4
 v4:=zeroValue4
 t5:=underlying5
 a5:=isAgg5
 z5:=sizeOf5
 v5:=zeroValue5
 t9:=underlying9
 a9:=isAgg9
 z9:=sizeOf9
 v9:=zeroValue9
 t46:=underlying285
 a46:=isAgg285
 z46:=sizeOf285
 v46:=zeroValue285
 t51:=underlying324
 a51:=isAgg324
 z51:=sizeOf324
 v51:=zeroValue324
 t53:=underlying55
 a53:=isAgg55
 z53:=sizeOf55
 v53:=zeroValue55}
theorem Tryz.bits_Len (x:Int) (w:World) (h0:0≤x) (h1:x≤18446744073709551615):
  Calls prog 227 #[.int .u64 x] w fun e w'=>e= .returned (.int .i64 (Lib.bitLen x.toNat))∧w'=w:=Any.bits_Len Tryz.lays125 x w h0 h1
def Tryz.lays171_ren:Go.Shelf.Ren:=⟨fun |171=>302|243=>343|246=>360|283=>363|284=>364|285=>365|286=>366|129=>291|317=>367|318=>368|319=>369|320=>370|337=>371|338=>372|n=>n,fun |3=>3|9=>9|2=>2|4=>4|171=>363|0=>0|53=>55|37=>305|5=>5|173=>365|212=>367|51=>324|20=>20|213=>368|46=>285|232=>369|233=>370|n=>n,fun |17=>2|18=>3|19=>4|n=>n⟩
theorem Tryz.lays171:Go.Proofs.Lays.n171 prog Tryz.lays171_ren:={
 mixed:=by kernel_rfl
 f129:=func291.trans (congrArg some (by kernel_rfl))
 f171:=func302.trans (congrArg some (by kernel_rfl))
 f243:=func343.trans (congrArg some (by kernel_rfl))
 f246:=func360.trans (congrArg some (by kernel_rfl))
 f283:=func363.trans (congrArg some (by kernel_rfl))
 f284:=func364.trans (congrArg some (by kernel_rfl))
 f285:=func365.trans (congrArg some (by kernel_rfl))
 f286:=func366.trans (congrArg some (by kernel_rfl))
 f317:=func367.trans (congrArg some (by kernel_rfl))
 f318:=func368.trans (congrArg some (by kernel_rfl))
 f319:=func369.trans (congrArg some (by kernel_rfl))
 f320:=func370.trans (congrArg some (by kernel_rfl))
 f337:=func371.trans (congrArg some (by kernel_rfl))
 f338:=func372.trans (congrArg some (by kernel_rfl))
 t0:=underlying0
 a0:=isAgg0
 z0:=sizeOf0
 v0:=zeroValue0
 t2:=underlying2
 a2:=isAgg2
 z2:=sizeOf2
 v2:=zeroValue2
 t3:=underlying3
 a3:=isAgg3
 z3:=sizeOf3
 v3:=zeroValue3
 t4:=underlying4
 a4:=isAgg4
 z4:=sizeOf4
 v4:=zeroValue4
 t5:=underlying5
 a5:=isAgg5
 z5:=sizeOf5
 v5:=zeroValue5
 t9:=underlying9
 a9:=isAgg9
 z9:=sizeOf9
 v9:=zeroValue9
 t20:=underlying20
 a20:=isAgg20
 z20:=sizeOf20
 v20:=zeroValue20
 t37:=underlying305
 a37:=isAgg305
 z37:=sizeOf305
 v37:=zeroValue305
 t46:=underlying285
 a46:=isAgg285
 z46:=sizeOf285
 v46:=zeroValue285
 t51:=underlying324
 a51:=isAgg324
 z51:=sizeOf324
 v51:=zeroValue324
 t53:=underlying55
 a53:=isAgg55
 z53:=sizeOf55
 v53:=zeroValue55
 t171:=underlying363
 a171:=isAgg363
 z171:=sizeOf363
 v171:=zeroValue363
 t173:=underlying365
 a173:=isAgg365
 z173:=sizeOf365
 v173:=zeroValue365
 t212:=underlying367
 a212:=isAgg367
 z212:=sizeOf367
 v212:=zeroValue367
 t213:=underlying368
 a213:=isAgg368
 z213:=sizeOf368
 t232:=underlying369
 a232:=isAgg369
 z232:=sizeOf369
 v232:=zeroValue369
 t233:=underlying370
 a233:=isAgg370
 z233:=sizeOf370
 v233:=zeroValue370
 g17:=by kernel_rfl
 g18:=by kernel_rfl
 g19:=by kernel_rfl}
open Go.RowKit Go.Sort Go.Lib in
theorem Tryz.strconv_Itoa_small (i:Nat) (hi:i<100) (w:World):
  Calls prog 302 #[.int .i64 i] w fun e w'=>e= .returned (.string ⟨(Lib.decDigits i).toArray⟩)∧w'=w:=Any.strconv_Itoa_small Tryz.lays171 i hi w
def Tryz.lays219_ren:Go.Shelf.Ren:=⟨fun |219=>342|217=>356|225=>357|224=>358|267=>359|266=>361|314=>362|n=>n,fun |9=>9|3=>3|4=>4|5=>5|46=>285|146=>361|51=>324|n=>n,fun |1=>1|n=>n⟩
theorem Tryz.lays219:Go.Proofs.Lays.n219 prog Tryz.lays219_ren:={
 mixed:=by kernel_rfl
 f217:=func356.trans (congrArg some (by kernel_rfl))
 f219:=func342.trans (congrArg some (by kernel_rfl))
 f224:=func358.trans (congrArg some (by kernel_rfl))
 f225:=func357.trans (congrArg some (by kernel_rfl))
 f266:=func361.trans (congrArg some (by kernel_rfl))
 f267:=func359.trans (congrArg some (by kernel_rfl))
 f314:=func362.trans (congrArg some (by kernel_rfl))
 t3:=underlying3
 a3:=isAgg3
 z3:=sizeOf3
 v3:=zeroValue3
 t4:=underlying4
 a4:=isAgg4
 z4:=sizeOf4
 v4:=zeroValue4
 t5:=underlying5
 a5:=isAgg5
 z5:=sizeOf5
 v5:=zeroValue5
 t9:=underlying9
 a9:=isAgg9
 z9:=sizeOf9
 v9:=zeroValue9
 t46:=underlying285
 a46:=isAgg285
 z46:=sizeOf285
 v46:=zeroValue285
 t51:=underlying324
 a51:=isAgg324
 z51:=sizeOf324
 v51:=zeroValue324
 t146:=underlying361
 a146:=isAgg361
 z146:=sizeOf361
 v146:=zeroValue361
 g1:=by kernel_rfl}
open Go.RowKit Go.Lib in
theorem Tryz.stringslite_Index_one (s:ByteArray) (c:UInt8) (w:World):
  Calls prog 342 #[.string s,.string ⟨#[c]⟩] w fun e w'=>e= .returned (.int .i64 (Lib.indexByte s.data.toList c))∧w'=w:=Any.stringslite_Index_one Tryz.lays219 s c w
def Tryz.lays189_ren:Go.Shelf.Ren:=⟨fun |189=>153|125=>227|257=>226|128=>290|129=>291|294=>281|295=>282|296=>283|297=>284|298=>285|299=>286|216=>287|300=>288|301=>289|328=>322|329=>323|330=>324|331=>325|332=>326|215=>327|343=>346|n=>n,fun |28=>32|3=>3|46=>285|0=>0|51=>324|53=>55|4=>4|183=>317|182=>316|131=>264|5=>5|9=>9|218=>340|222=>344|228=>353|229=>354|n=>n,fun |n=>n⟩
theorem Tryz.lays189:Go.Proofs.Lays.n189 prog Tryz.lays189_ren:={
 mixed:=by kernel_rfl
 f125:=func227.trans (congrArg some (by kernel_rfl))
 f128:=func290.trans (congrArg some (by kernel_rfl))
 f129:=func291.trans (congrArg some (by kernel_rfl))
 f189:=func153.trans (congrArg some (by kernel_rfl))
 f215:=func327.trans (congrArg some (by kernel_rfl))
 f216:=func287.trans (congrArg some (by kernel_rfl))
 f257:=func226.trans (congrArg some (by kernel_rfl))
 f294:=func281.trans (congrArg some (by kernel_rfl))
 f295:=func282.trans (congrArg some (by kernel_rfl))
 f296:=func283.trans (congrArg some (by kernel_rfl))
 f297:=func284.trans (congrArg some (by kernel_rfl))
 f298:=func285.trans (congrArg some (by kernel_rfl))
 f299:=func286.trans (congrArg some (by kernel_rfl))
 f300:=func288.trans (congrArg some (by kernel_rfl))
 f301:=func289.trans (congrArg some (by kernel_rfl))
 f328:=func322.trans (congrArg some (by kernel_rfl))
 f329:=func323.trans (congrArg some (by kernel_rfl))
 f330:=func324.trans (congrArg some (by kernel_rfl))
 f331:=func325.trans (congrArg some (by kernel_rfl))
 f332:=func326.trans (congrArg some (by kernel_rfl))
 f343:=func346.trans (congrArg some (by kernel_rfl))
 t0:=underlying0
 a0:=isAgg0
 z0:=sizeOf0
 v0:=zeroValue0
 t3:=underlying3
 a3:=isAgg3
 z3:=sizeOf3
 v3:=zeroValue3
 t4:=underlying4
 a4:=isAgg4
 z4:=sizeOf4
 v4:=zeroValue4
 t5:=underlying5
 a5:=isAgg5
 z5:=sizeOf5
 v5:=zeroValue5
 t9:=underlying9
 a9:=isAgg9
 z9:=sizeOf9
 v9:=zeroValue9
 t28:=underlying32
 a28:=isAgg32
 z28:=sizeOf32
 v28:=zeroValue32
 t46:=underlying285
 a46:=isAgg285
 z46:=sizeOf285
 v46:=zeroValue285
 t51:=underlying324
 a51:=isAgg324
 z51:=sizeOf324
 v51:=zeroValue324
 t53:=underlying55
 a53:=isAgg55
 z53:=sizeOf55
 v53:=zeroValue55
 t131:=underlying264
 a131:=isAgg264
 z131:=sizeOf264
 v131:=zeroValue264
 t182:=underlying316
 a182:=isAgg316
 z182:=sizeOf316
 v182:=zeroValue316
 t183:=underlying317
 a183:=isAgg317
 z183:=sizeOf317
 v183:=zeroValue317
 t218:=underlying340
 a218:=isAgg340
 z218:=sizeOf340
 v218:=zeroValue340
 t222:=underlying344
 a222:=isAgg344
 z222:=sizeOf344
 v222:=zeroValue344
 t228:=underlying353
 a228:=isAgg353
 z228:=sizeOf353
 v228:=zeroValue353
 t229:=underlying354
 a229:=isAgg354
 z229:=sizeOf354
 v229:=zeroValue354}
open Go.Sort Go.RowKit in
theorem Tryz.slices_Sort_int (blk off cap:Nat) (zs:List Int) (w:World) (hH:Holds (Value.int .i64) w blk off zs.toArray) (hblk:blk<w.heap.size) (hsz:zs.length<4611686018427387904):
  Calls prog 153 #[.slice (some ⟨blk,off,none⟩) zs.length cap] w fun e w'=>
   e= .returned (.tuple #[])∧∃n os,w'=grow (putRow (Value.int .i64) (Sort.ahead w n) blk off (zs.mergeSort fun x y=>decide (x≤y)).toArray) os:=Any.slices_Sort_int Tryz.lays189 blk off cap zs w hH hblk hsz
def Tryz.lays264_ren:Go.Shelf.Ren:=⟨fun |264=>319|n=>n,fun |53=>55|46=>285|n=>n,fun |n=>n⟩
theorem Tryz.lays264:Go.Proofs.Lays.n264 prog Tryz.lays264_ren:={
 mixed:=by kernel_rfl
 f264:=func319.trans (congrArg some (by kernel_rfl))
 t46:=underlying285
 a46:=isAgg285
 z46:=sizeOf285
 v46:=zeroValue285
 t53:=underlying55
 a53:=isAgg55
 z53:=sizeOf55
 v53:=zeroValue55}
open Go.RowKit Go.Lib in
theorem Tryz.bits_Mul64 (x y:Nat) (hx:x<18446744073709551616) (hy:y<18446744073709551616) (w:World):
  Calls prog 319 #[.int .u64 x,.int .u64 y] w fun e w'=>e= .returned (.tuple #[.int .u64 ((x*y/18446744073709551616:Nat):Int),.int .u64 ((x*y%18446744073709551616:Nat):Int)])∧w'=w:=Any.bits_Mul64 Tryz.lays264 x y hx hy w
def Tryz.lays107_ren:Go.Shelf.Ren:=⟨fun |107=>293|108=>328|n=>n,fun |28=>32|3=>3|4=>4|0=>0|n=>n,fun |n=>n⟩
theorem Tryz.lays107:Go.Proofs.Lays.n107 prog Tryz.lays107_ren:={
 mixed:=by kernel_rfl
 f107:=func293.trans (congrArg some (by kernel_rfl))
 f108:=func328.trans (congrArg some (by kernel_rfl))
 t0:=underlying0
 a0:=isAgg0
 z0:=sizeOf0
 v0:=zeroValue0
 t3:=underlying3
 a3:=isAgg3
 z3:=sizeOf3
 v3:=zeroValue3
 t4:=underlying4
 a4:=isAgg4
 z4:=sizeOf4
 v4:=zeroValue4
 t28:=underlying32
 a28:=isAgg32
 z28:=sizeOf32
 v28:=zeroValue32}
open Go.Lib in
theorem Tryz.slices_Contains_int (b off n c:Nat) (zs:List Int) (x:Int) (w:World) (hz:n≤zs.length) (hbig:n≤9223372036854775807) (hc:∀j,j<zs.length→w.cell? ⟨b,off+j,none⟩=some (.int .i64 (zs.getD j 0))):
  Calls prog 293 #[.slice (some ⟨b,off,none⟩) n c,.int .i64 x] w fun e w'=>e= .returned (.bool ((zs.take n).contains x))∧w'=w:=Any.slices_Contains_int Tryz.lays107 b off n c zs x w hz hbig hc
open Go.Lib in
theorem Tryz.slices_Contains_int_empty (a:Option Addr) (c:Nat) (x:Int) (w:World):
  Calls prog 293 #[.slice a 0 c,.int .i64 x] w fun e w'=>e= .returned (.bool false)∧w'=w:=Any.slices_Contains_int_empty Tryz.lays107 a c x w
def Tryz.lays110_ren:Go.Shelf.Ren:=⟨fun |110=>294|109=>329|n=>n,fun |31=>188|9=>9|4=>4|3=>3|0=>0|n=>n,fun |n=>n⟩
theorem Tryz.lays110:Go.Proofs.Lays.n110 prog Tryz.lays110_ren:={
 mixed:=by kernel_rfl
 f109:=func329.trans (congrArg some (by kernel_rfl))
 f110:=func294.trans (congrArg some (by kernel_rfl))
 t0:=underlying0
 a0:=isAgg0
 z0:=sizeOf0
 v0:=zeroValue0
 t3:=underlying3
 a3:=isAgg3
 z3:=sizeOf3
 v3:=zeroValue3
 t4:=underlying4
 a4:=isAgg4
 z4:=sizeOf4
 v4:=zeroValue4
 t9:=underlying9
 a9:=isAgg9
 z9:=sizeOf9
 v9:=zeroValue9
 t31:=underlying188
 a31:=isAgg188
 z31:=sizeOf188
 v31:=zeroValue188}
open Go.Lib in
theorem Tryz.slices_Contains_string (b off n c:Nat) (zs:List ByteArray) (x:ByteArray) (w:World) (hz:n≤zs.length) (hbig:n≤9223372036854775807) (hc:∀j,j<zs.length→w.cell? ⟨b,off+j,none⟩=some (.string (zs.getD j ByteArray.empty))):
  Calls prog 294 #[.slice (some ⟨b,off,none⟩) n c,.string x] w fun e w'=>e= .returned (.bool (Lib.containsS (zs.take n) x))∧w'=w:=Any.slices_Contains_string Tryz.lays110 b off n c zs x w hz hbig hc
open Go.Lib in
theorem Tryz.slices_Contains_string_empty (a:Option Addr) (c:Nat) (x:ByteArray) (w:World):
  Calls prog 294 #[.slice a 0 c,.string x] w fun e w'=>e= .returned (.bool false)∧w'=w:=Any.slices_Contains_string_empty Tryz.lays110 a c x w
def Tryz.laysNm215_ren:Go.Shelf.Ren:=⟨fun |15=>88|n=>n,fun |22=>32|3=>3|4=>4|n=>n,fun |n=>n⟩
theorem Tryz.laysNm215:Go.Proofs.Lays2.n15 prog Tryz.laysNm215_ren:={
 mixed:=by kernel_rfl
 f15:=func88.trans (congrArg some (by kernel_rfl))
 t3:=underlying3
 a3:=isAgg3
 z3:=sizeOf3
 v3:=zeroValue3
 t4:=underlying4
 a4:=isAgg4
 z4:=sizeOf4
 v4:=zeroValue4
 t22:=underlying32
 a22:=isAgg32
 z22:=sizeOf32
 v22:=zeroValue32
 i3:=by kernel_rfl}
open Go.RowKit Go.Lib in
theorem Tryz.slices_Clone_int (b off n c:Nat) (zs:List Int) (w:World) (hz:n≤zs.length) (hbig:n*8≤140737488355328) (hc:∀j,j<zs.length→w.cell? ⟨b,off+j,none⟩=some (.int .i64 (zs.getD j 0))):
  Calls prog 88 #[.slice (some ⟨b,off,none⟩) n c] w fun e w'=>∃v',e= .returned v'∧w'.ownsRow w.heap.size 3 1 v' n ((zs.take n).map (Value.int .i64))∧v'≠ .slice none 0 0∧Below w.heap.size w w':=Any.slices_Clone_int Tryz.laysNm215 b off n c zs w hz hbig hc
open Go.RowKit Go.Lib in
theorem Tryz.slices_Clone_int_nil (n c:Nat) (w:World):
  Calls prog 88 #[.slice none n c] w fun e w'=>e= .returned (.slice none 0 0)∧w'=w:=Any.slices_Clone_int_nil Tryz.laysNm215 n c w
open Go.RowKit Go.Lib in
theorem Tryz.slices_Clone_int_zero (a:Addr) (c:Nat) (w:World):
  Calls prog 88 #[.slice (some a) 0 c] w fun e w'=>∃v',e= .returned v'∧w'.ownsRow w.heap.size 3 1 v' 0 []∧v'≠ .slice none 0 0∧Below w.heap.size w w':=Any.slices_Clone_int_zero Tryz.laysNm215 a c w
open Go.RowKit Go.Sort in
theorem Tryz.slices_Sort_int_none (p:Option Addr) (cap:Nat) (w:World):
  Calls prog 153 #[.slice p 0 cap] w fun e w'=>e= .returned (.tuple #[])∧w'=w:=Any.slices_Sort_int_none Tryz.lays189 p cap w
end
end Go.Proofs
namespace Go.Proofs.YtdahpdnhkflnnaaGreatDoor
section
section
open Go.RowKit
def Cs (n:Int):Bool:=decide (-9223372036854775808<=n/\n<=9223372036854775807)
def cV (n:Int):Int:=if Cs n then n else 0
def cE (n:Int):Int:=if Cs n then 0 else 3
def xM {n:Int} (h: -9223372036854775808<=n) (a:n<=9223372036854775807):cV n=n:=by unfold cV Cs;rw[if_pos (by simpa using⟨h,a⟩)]
def RJ {n:Int} (h: -9223372036854775808<=n) (a:n<=9223372036854775807):cE n=0:=by unfold cE Cs;rw[if_pos (by simpa using⟨h,a⟩)]
def Vh {n:Int} (h:n< -9223372036854775808\/9223372036854775807<n):cV n=0:=by unfold cV Cs;rw[if_neg (by simp;omega)]
def RK {n:Int} (h:n< -9223372036854775808\/9223372036854775807<n):cE n=3:=by unfold cE Cs;rw[if_neg (by simp;omega)]
def UM {n:Int} (h:cE n=0): -9223372036854775808<=n/\n<=9223372036854775807:=by
 by_cases a: -9223372036854775808<=n/\n<=9223372036854775807
 .exact a
 rw[RK (by omega)] at h;omega
def fJ {P:Program} {f:FuncId} {args:Array Value} {w:World} {n:Nat} {v:Value} (h:Calls P f args (w.drewN n) λe w'=>e= .returned v/\w.drewN n=w'):Calls P f args (w.drewN n) λe a=>e= .returned v/\∃m,a=w.drewN m:=h.mono λ_ _ ⟨he,hm⟩=>⟨he,n,hm.symm⟩
def qY {k l:IntKind} {a b c d:Int} (h:a=c) (e:b=d):Ending.returned (.tuple #[.int k a,.int l b])= .returned (.tuple #[.int k c,.int l d]):=by rw[h,e]
def aU {k:IntKind} {a b:Int} (h:a=b):Ending.returned (.int k a)= .returned (.int k b):=by rw[h]
def bS {a b:Bool} (h:a=b):Ending.returned (.bool a)= .returned (.bool b):=by rw[h]
def Ps {n v e:Int} (h:(-9223372036854775808<=n/\n<=9223372036854775807/\v=n/\e=0)\/((n< -9223372036854775808\/9223372036854775807<n)/\v=0/\e=3)):Ending.returned (.tuple #[.int .i64 v,.int .i64 e])= .returned (.tuple #[.int .i64 (cV n),.int .i64 (cE n)]):=by
 rcases h with⟨a,b,rfl,rfl⟩|⟨h,rfl,rfl⟩
 .rw[xM a b,RJ a b]
 rw[Vh h,RK h]
def Bw (n:Int):wrap64 n=(n+9223372036854775808)%18446744073709551616-9223372036854775808:=by first|rfl|(unfold wrap64;rfl)
def I64 (a:Int):Prop:= -9223372036854775808<=a/\a<=9223372036854775807
def bf (a:Addr) (n:Nat):(a.add n).block=a.block:=by unfold Addr.add;split<;>rfl
def aE {B:Nat} {a w:World} (h:Below B a w) (n:Nat):Below B a (w.drewN n):=⟨h.os,h.tape,h.output,h.size,h.block⟩
def RI (n:Int):(cV n=n/\cE n=0∧ -9223372036854775808<=n/\n<=9223372036854775807)\/(cV n=0/\cE n=3/\(n< -9223372036854775808\/9223372036854775807<n)):=by
 by_cases h: -9223372036854775808<=n/\n<=9223372036854775807
 .exact .inl ⟨xM h.1 h.2,RJ h.1 h.2,h⟩
 exact .inr ⟨Vh (by omega),RK (by omega),by omega⟩
end
section
open Go.RowKit
def byt (d:ByteArray) (k:Nat):Int:=((d.data.toList.getD k 0).toNat:Int)
def W4 (d:ByteArray) (k:Nat):0<=byt d k/\byt d k<=255:=by unfold byt;have:=(d.data.toList.getD k 0).toNat_lt;omega
def iR (d:ByteArray) (k:Nat) (h:k<d.size):byt d k=(d[k].toNat:Int):=by unfold byt;rw[List.getD_eq_getElem?_getD,List.getElem?_eq_getElem (by simpa using h)];rfl
def Yn (s:ByteArray):Bool:=decide (0<s.size/\byt s 0=45)
def body (s:ByteArray):ByteArray:=if Yn s then s.extract 1 s.size else s
end
section
open Go.RowKit
def ix (b:UInt8):List UInt8->Nat
 |[]=>0
 |x::l=>if x=b then 0 else ix b l+1
section
variable {b:UInt8}
theorem ms:∀l,ix b l<=l.length
 |[]=>Nat.le_refl _
 |x::l=>by unfold ix;have:=ms l;split<;>simp<;>omega
theorem Qw:∀l,ix b l<l.length->l.getD (ix b l) 0=b
 |[],h=>absurd h (by simp)
 |x::l,h=>by
  unfold ix at h⊢;split
  .rename_i e;simpa using e
  rename_i e;rw[if_neg e] at h;simp only[List.getD_cons_succ];exact Qw l (by simp at h;omega)
theorem Qv:∀l j,j<ix b l->l.getD j 0≠b
 |[],j,h=>absurd h (by simp[ix])
 |x::l,j,h=>by
  unfold ix at h;split at h
  .omega
  rename_i e;cases j with
  |zero=>simpa using e
  |succ j=>simp only[List.getD_cons_succ];exact Qv l j (by omega)
theorem sV:∀(l:List UInt8),(∀x∈l,x≠b)->ix b l=l.length
 |[],_=>rfl
 |x::l,h=>by simp only[ix,if_neg (h x (by simp)),List.length_cons];rw[sV l λy a=>h y (by simp[a])]
def rI (l:List UInt8) (k:Nat) (h:k<=l.length) (c:∀j,j<k->l.getD j 0≠b) (d:k<l.length->l.getD k 0=b):ix b l=k:=by
 have e1:=ms (b:=b) l;rcases Nat.lt_trichotomy (ix b l) k with a|a|a
 .exact absurd (Qw l (by omega)) (c _ a)
 .exact a
 exact absurd (d (by omega)) (Qv l k a)
end
end
section
open Go.RowKit
def fg (c:Int):Bool:=decide (97<=c/\c<=122)
def oO (c:Int):Bool:=decide (48<=c/\c<=57)
def eX (c:Int):Bool:=decide ((97<=c/\c<=122)\/(48<=c/\c<=57)\/(65<=c/\c<=90)\/c=95)
def Wrd (s:ByteArray):Prop:=0<s.size/\fg (byt s 0)=true/\∀j,j<s.size->eX (byt s j)=true
instance (s:ByteArray):Decidable (Wrd s):=by unfold Wrd;infer_instance
def fV:List ByteArray:=[⟨#[99,108,97,115,115]⟩,⟨#[101,120,116,101,110,100,115]⟩,⟨#[114,97,110,100]⟩,⟨#[114,97,110,100,99]⟩,⟨#[115,116,97,116,101]⟩,⟨#[99,111,110,115,116,114,97,105,110,116]⟩,⟨#[115,111,102,116]⟩,⟨#[100,105,115,116]⟩,⟨#[105,102]⟩,⟨#[101,108,115,101]⟩,⟨#[101,97,99,104]⟩,⟨#[105,110]⟩,⟨#[115,111,108,118,101]⟩,⟨#[98,101,102,111,114,101]⟩,⟨#[105,110,115,105,100,101]⟩,⟨#[112,114,111,112,101,114,116,121]⟩,⟨#[115,101,113]⟩,⟨#[97,110,100]⟩,⟨#[111,114]⟩,⟨#[110,111,116]⟩,⟨#[115,101,116]⟩,⟨#[104,111,108,100]⟩,⟨#[112,108,97,105,110]⟩,⟨#[114,101,112,101,97,116]⟩]
def mt (s:ByteArray):Bool:=Lib.containsS fV s
def aQ (s:ByteArray):Bool:=decide (Wrd s)&&decide (s.size<=16)&& !mt s
def cj {s:ByteArray}:aQ s=true↔Wrd s/\s.size<=16/\mt s=false:=by unfold aQ;simp[and_assoc]
def Elt (s:ByteArray):Prop:=4<=s.size/\byt s (s.size-1)=93/\byt s (s.size-3)=91/\48<=byt s (s.size-2)/\byt s (s.size-2)<56/\aQ (s.extract 0 (s.size-3))=true
instance (s:ByteArray):Decidable (Elt s):=by unfold Elt;infer_instance
def iC (s:ByteArray):Bool:=decide (Elt s)||aQ s
def sk {s:ByteArray} {b:UInt8} (h:Wrd s) (d:eX b.toNat=false):∀x∈s.data.toList,x≠b:=by intro x f e;obtain⟨j,c,rfl⟩:=List.mem_iff_getElem.1 f;have a:=h.2.2 j (by rw[Lib.size_eq];exact c);unfold byt at a;rw[List.getD_eq_getElem?_getD,List.getElem?_eq_getElem c] at a;simp only[Option.getD_some] at a;rw[e,d] at a;cases a
def cO (b:UInt8) (s:ByteArray):ByteArray:=⟨(s.data.toList.take (ix b s.data.toList)).toArray⟩
def eM (b:UInt8) (s:ByteArray):ByteArray:=⟨(s.data.toList.drop (ix b s.data.toList+1)).toArray⟩
def fF (b:UInt8) (s:ByteArray):Bool:=decide (ix b s.data.toList<s.data.toList.length)
def gX (b:UInt8) (s:ByteArray):(cO b s).size=ix b s.data.toList:=by have:=ms (b:=b) s.data.toList;unfold cO;rw[Lib.size_eq];simp only[List.length_take];omega
def nu (b:UInt8) (s:ByteArray):(eM b s).size=s.size-(ix b s.data.toList+1):=by unfold eM;rw[Lib.size_eq,Lib.size_eq];simp
def lq {b c:ByteArray} (h:b.data.toList=c.data.toList):b=c:=by obtain⟨⟨b⟩⟩:=b;obtain⟨⟨c⟩⟩:=c;simp only at h;rw[h]
def dK (b:UInt8) (s:ByteArray):s.extract 0 (ix b s.data.toList)=cO b s:=lq (by
 unfold cO;rw[Lib.extract_data];simp)
def qE (b:UInt8) (s:ByteArray) (j:Nat):byt (eM b s) j=byt s (ix b s.data.toList+1+j):=by unfold byt eM;simp[List.getD_eq_getElem?_getD,List.getElem?_drop]
def tj {b:UInt8} {s:ByteArray} (h:fF b s=true):byt s (ix b s.data.toList)=b.toNat:=by unfold byt;rw[Qw _ (of_decide_eq_true h)]
def Vu (s:ByteArray):Bool:=if fF 91 s=true then aQ (cO 91 s)&&(decide ((eM 91 s).size=2)&&(decide (48<=byt (eM 91 s) 0)&&(decide (byt (eM 91 s) 0<56)&&decide (byt (eM 91 s) 1=93)))) else aQ s
def SK (s:ByteArray):Vu s=iC s:=by
 have p:aQ s=true->fF 91 s=false:=λh=>by have i:=(cj.1 h).1;unfold fF;rw[sV _ (sk i (by decide))];simp
 have n:Elt s->fF 91 s=true/\ix 91 s.data.toList=s.size-3:=λh=>by
  obtain⟨k,l,d,f,g,m⟩:=h;have i:=(cj.1 m).1;have o:s.data.toList.length=s.size:=(Lib.size_eq s).symm;have c:ix 91 s.data.toList=s.size-3:=by
   refine rI _ _ (by omega) (λj u=> ?_) (λ_=> ?_)
   .have:=sk i (b:=91) (by decide) (s.data.toList.getD j 0) (by rw[Lib.extract_data];simp only[List.drop_zero,Nat.sub_zero];rw[List.getD_eq_getElem?_getD,List.getElem?_eq_getElem (by omega)];simp only[Option.getD_some];rw[List.mem_take_iff_getElem];exact⟨j,by omega,rfl⟩);exact this
   unfold byt at d;exact UInt8.toNat_inj.1 (by simpa using(by omega:(s.data.toList.getD (s.size-3) 0).toNat=91))
  exact⟨by unfold fF;rw[c];exact decide_eq_true (by omega),c⟩
 unfold Vu iC;by_cases a:fF 91 s=true
 .rw[if_pos a];have t:aQ s=false:=by
   cases h:aQ s
   .rfl
   rw[p h] at a;cases a
  rw[t,Bool.or_false,Bool.eq_iff_iff];simp only[Bool.and_eq_true,decide_eq_true_eq];have r:ix 91 s.data.toList<s.size:=by rw[Lib.size_eq];exact of_decide_eq_true a
  constructor
  .rintro⟨k,l,d,f,g⟩;have i:=(cj.1 k).1.1;rw[nu] at l;rw[gX] at i;have c:ix 91 s.data.toList=s.size-3:=by omega
   have q:=tj a;rw[qE] at d f g;refine⟨by omega, ?_, ?_, ?_, ?_, ?_⟩
   .rw[<-g];congr 1;omega
   .rw[<-c,q];rfl
   .have e:ix 91 s.data.toList+1+0=s.size-2:=by omega
    rw[e] at d;exact d
   .have e:ix 91 s.data.toList+1+0=s.size-2:=by omega
    rw[e] at f;exact f
   rw[<-c,dK];exact k
  intro h;have⟨_,c⟩:=n h;obtain⟨k,l,d,f,g,m⟩:=h;rw[nu,qE,qE,<-dK,c];refine⟨m,by omega, ?_, ?_, ?_⟩
  .rw[show s.size-3+1+0=s.size-2 by omega];exact f
  .rw[show s.size-3+1+0=s.size-2 by omega];exact g
  rw[show s.size-3+1+1=s.size-1 by omega];exact l
 rw[if_neg a];have:¬Elt s:=λh=>a (n h).1;rw[decide_eq_false this,Bool.false_or]
end
section
open Go.RowKit
structure Lat (w0:World) where
 w:World
 h:Below w0.heap.size w0 w
instance (w0:World):Nonempty (Lat w0):=⟨⟨w0,Below.refl _ _⟩⟩
def ae {w0:World} (n:Nat):Below w0.heap.size w0 {w0 with drawn:=n}:=⟨rfl,rfl,rfl,Nat.le_refl _,λ_ _=>rfl⟩
def mq {w0 w':World}:(∃p:Lat w0,w'=p.w)↔Below w0.heap.size w0 w':=⟨λ⟨p,h⟩=>h▸p.h,λh=>⟨⟨w',h⟩,rfl⟩⟩
def az {P:Program} {f:Nat} {Q:Exit->Act->World->Prop} {a:Act} {w:World} {l:List Oper} (h:wpQuiet P l.toArray (λw'=>∃p:Lat w,w'=p.w) (λb=>∀w',Below w.heap.size w w'->Q .normal b w') l a) (hm:P.follows .mixedOrders=true:=by kernel_rfl) (d:Region.lexB .any l.toArray=true:=by kernel_rfl):(Code.region f l.toArray true).wp P Q a w:=by
 refine wp_region_quiet (C:=λw'=>∃p:Lat w,w'=p.w) hm d (mq.2 (ae _)) ?_;have e:(λb=>∀w',Below w.heap.size w w'->Q .normal b w')=(λb=>∀w',(∃p:Lat w,w'=p.w)->Q .normal b w'):=by funext b;refine propext ⟨λh w' c=>h w' (mq.1 c),λh w' c=>h w' (mq.2 c)⟩
 rw[<-e];simpa using h
def aG {P:Program} {f:FuncId} {args:Array Value} {w0:World} {p:Lat w0} {v:Value} (h:Calls P f args p.w λe w'=>e= .returned v/\Below p.w.heap.size p.w w'):Calls P f args p.w λe a=>e= .returned v/\∃q:Lat w0,a=q.w:=h.mono λ_ _ ⟨he,hb⟩=>⟨he,⟨_,p.h.trans (hb.mono p.h.size)⟩,rfl⟩
def mo {P:Program} {f:FuncId} {args:Array Value} {w0:World} {p:Lat w0} {v:Value} (h:Calls P f args p.w λe w'=>e= .returned v/\p.w=w'):Calls P f args p.w λe a=>e= .returned v/\∃q:Lat w0,a=q.w:=h.mono λ_ _ ⟨he,hb⟩=>⟨he,p,hb.symm⟩
end
section
open Go.RowKit
def Box (w:World) (g:Nat) (cs:Array Value) (t:TypeId):Prop:=w.heap[g]? =some (.cells cs t (0,0))
section
variable {w w':World} {g:Nat} {t:TypeId} {cs:Array Value}
def Box.lt (h:Box w g cs t):g<w.heap.size:=by
 rcases Nat.lt_or_ge g w.heap.size with b|a
 .exact b
 unfold Box at h;rw[Array.getElem?_eq_none a] at h;cases h
def Box.cell (h:Box w g cs t) (i:Nat):w.cell? ⟨g,i,none⟩=cs[i]? :=cell_of_row w g i cs t (0,0) h
def Box.frozen (h:Box w g cs t) (i:Nat):w.frozen? ⟨g,i,none⟩=false:=by unfold Box at h;simp[World.frozen?,h]
def Box.new (w:World) (t:TypeId) (cs:Array Value):Box (w.alloc (.cells cs t)) w.heap.size cs t:=heap_alloc_new w _
def Box.Q (h:Box w g cs t) (a:Below w.heap.size w w'):Box w' g cs t:=(a.block g h.lt).trans h
def Box.lat (h:Box w g cs t) (i:Nat) (v:Value) (a:cs[i]? =some v):∀p:Lat w,p.w.cell? ⟨g,i,none⟩=some v:=λp=>by
 rw[(h.Q p.h).cell i,a]
def Box.A (h:Box w g cs t) (i:Nat) (v:Value) (a:cs[i]? =some v):w.cell? ⟨g,i,none⟩=some v:=by rw[h.cell i,a]
end
def Box.set_ {w:World} {g:Nat} {t:TypeId} {cs:Array Value} (h:Box w g cs t) (i:Nat) (u:Value):Box (w.setCell ⟨g,i,none⟩ u) g (cs.setIfInBounds i u) t:=by unfold Box at h⊢;simp[World.setCell,Array.getElem?_modify,h]
def Box.setNe {w:World} {g:Nat} {t:TypeId} {cs:Array Value} (h:Box w g cs t) (p:Addr) (u:Value) (a:p.block≠g:=by first|omega |(dsimp only;omega)):Box (w.setCell p u) g cs t:=by unfold Box at h⊢;rw[<-h];simp[World.setCell,Array.getElem?_modify,a]
def ab (w:World) (o:Obj):Below w.heap.size w (w.alloc o):=(Below.refl _ _).alloc (Nat.le_refl _) _
def eS {W:World} {g:Nat} (t:TypeId) (cs:Array Value) (h:W.heap.size=g):Box (W.alloc (.cells cs t)) g cs t:=h▸Box.new W t cs
def aa {w w1 w2:World} (h:Below w.heap.size w w1) (a:Below w1.heap.size w1 w2):Below w.heap.size w w2:=h.trans (a.mono h.size)
end
section
open Go.RowKit
section
variable {P:Program} {ops:Array Oper} {md:Region.Mode} {C:World->Prop}
def kR (P:Program) (md:Region.Mode) (ops:Array Oper) (C:World->Prop) (n:Nat) (L:Array Bool->Act->Prop):Nat->Array Bool->Act->Prop
 |0,listed,a=>L listed a
 |f+1,listed,a=>Region.ready md ops listed≠[]/\∀i∈Region.ready md ops listed,i<n/\qOp P ops C i (kR P md ops C n L f (listed.setIfInBounds i true)) a
theorem oH {n g:Nat} {L:Array Bool->Act->Prop} {Q':Exit->Act->World->Prop} (d:∀b a w,C w->L b a->wpAny P md ops Q' g b a w):
  ∀(f:Nat) (b:Array Bool) (a:Act) (w:World),C w->kR P md ops C n L f b a->wpAny P md ops Q' (f+g) b a w
 |0,b,a,w,hw,h=>by rw[Nat.zero_add];exact d _ _ _ hw h
 |f+1,b,a,w,hw,h=>by
  have e:f+1+g=(f+g)+1:=by omega
  rw[e];refine⟨λl=>absurd l h.1,λi hi=> ?_⟩;exact wpOp_of_qOp hw (λj w' c k=>oH d f _ j w' c k) (h.2 i hi).2
theorem p9 {n i:Nat} {z:Oper} {v:Value} {L:Array Bool->Act->Prop} (hi:ops[i]? =some z) (l:∀(j:Nat) (o:Oper) cs b,ops[j]? =some o->o.op≠ .select cs b)
  (J:Region.sinkB md ops n=true) (G:Region.chainB md ops n=true) (I:n<ops.size) (u:i<n) (g:∀c a,L c a->∀j∈Region.ready md ops c,n<=j):
  ∀(f:Nat) (c:Array Bool) (a:Act),HeadInv md ops n c→
   (∀j s,ops[j]? =some s->j≠i->c.getD j true=false->(∀e∈s.after,Region.binds md e=true->e.on≠i)->z.apart ops s=true)→
   i∈Region.ready md ops c->YieldsIn P ops C z v a->kR P md ops C n L f (c.setIfInBounds i true) (a.put z.dst v)->kR P md ops C n L (f+1) c a
 |f,c,a,inv,hfree,hr,hy,H=>by
  have y:=(mem_ready.1 hr).1;have q:∀j∈Region.ready md ops c,j<n:=λj m=>Classical.byContradiction λh=>tail_waits J G I inv _ i rfl u y j (by omega) m;refine⟨λh=>(by rw[h] at hr;cases hr),λj m=>⟨q j m, ?_⟩⟩;by_cases d:j=i
  .subst d;exact hy.qOp hi H
  cases f with
  |zero=>have:=g _ _ H j (ready_mono m d);have:=q j m;omega
  |succ f=>
   have⟨p,s,r,t⟩:=mem_ready.1 m;have x:∀e∈s.after,Region.binds md e=true->e.on≠i:=λe Q N A=>by have E:=t e Q N;rw[A,getD_both y] at E;cases E
   have M:=qOp_put r (hfree j s r d p x) (λcs b=>l i z cs b hi) (λcs b=>l j s cs b r) hy (H.2 j (ready_mono m d)).2;refine qOp_mono (λK F=>p9 hi l J G I u g f (c.setIfInBounds j true) K (inv.set m (q j m)) (λk S hk B R D=> ?_) (ready_mono hr (Ne.symm d)) F.1 ?_) M
   .refine hfree k S hk B ?_ D;by_cases w:j=k
    .subst w;exact p
    rwa [getD_set_ne true w] at R
   rw[Array.setIfInBounds_comm _ _ d];exact F.2
theorem uR {n g:Nat} {Lq:Act->Prop} (c:Region.noSelect ops=true) (m:Region.sinkB md ops n=true) (e:Region.chainB md ops n=true) (f:n<ops.size):
  ∀(l:List Oper) (k:Nat) (listed:Array Bool) (a:Act),(∀j,j<l.length->l[j]? =ops[k+j]?)->k+l.length=n->HeadInv md ops n listed->Region.lexHead md ops g l.length k listed=true->wpQuiet P ops C Lq l a→
   kR P md ops C n (λb p=>Region.seqB md ops g n b=true/\Lq p) l.length listed a
 |[],k,listed,a,_,hk,_,hB,h=>by
  obtain rfl:k=n:=by simpa using hk
  exact⟨by simpa [Region.lexHead] using hB,h⟩
 |o::l,k,listed,a,hl,hk,inv,hB,h=>by
  have d:ops[k]? =some o:=by simpa using(hl 0 (by simp)).symm
  rw[List.length_cons] at hk hB;simp only[Region.lexHead,Bool.and_eq_true] at hB;have i:k∈Region.ready md ops listed:=by simpa using hB.1.1
  have s:qOp P ops C k (wpQuiet P ops C Lq l) a:=by unfold qOp;simp only[d];exact h
  have⟨v,t,q⟩:=yieldsIn_of_qOp d s;refine p9 d (Region.noSelect_spec c) m e f (by omega) (λ_ _ r=>seqB_ready r.1) l.length listed a inv (Region.free_spec d hB.1.2) i t ?_;refine uR c m e f l (k+1) _ _ (λj u=> ?_) (by omega) (inv.set i (by omega)) hB.2 q;have:=hl (j+1) (by simp only[List.length_cons];omega);rw[List.getElem?_cons_succ] at this;rw[this];congr 1;omega
def aj {D:Nat} {Q:Exit->Act->World->Prop} {a:Act} {w:World} {l:List Oper} (n:Nat) (h:wpQuiet P l.toArray (λw'=>∃p:Lat w,w'=p.w) (λk=>∀w',Below w.heap.size w w'->wpList P l.toArray Q (l.drop n) k w') (l.take n) a) (hm:P.follows .mixedOrders=true:=by kernel_rfl) (o:Region.lexTailB .any l.toArray n=true:=by kernel_rfl):(Code.region D l.toArray true).wp P Q a w:=by
 simp only[Region.lexTailB,Bool.and_eq_true,decide_eq_true_eq] at o;obtain⟨⟨⟨⟨f,u⟩,A⟩,x⟩,e⟩:=o;have z:n<l.length:=by simpa using u
 have b:(l.take n).length=n:=by rw[List.length_take];omega
 have d:(l.drop n).length=l.toArray.size-n:=by simp
 have i:HeadInv .any l.toArray n (Array.replicate l.toArray.size false):=
  ⟨by simp,λj E _ s=>(by rw[getD_replicate_false] at s;cases s),λt _ B=>getD_in (by simpa using B) (getD_replicate_false _ _)⟩;have H:=uR (md:= .any) (g:=l.toArray.size-n) f A x u (l.take n) 0 _ a (λj r=>by
  have m:j<n:=by rw[b] at r;exact r
  simp[m]) (by simpa using b) i (by rw[b];exact e) h;refine wp_region_any hm ?_;have K:=λy=>oH (Q':=Q) (g:=l.toArray.size-n) y _ _ _ _ (mq.2 (ae (w0:=w) (w.drawn+1))) H;have this:=K (λc k w' C q=>by
  have v:=wpAny_of_seq (md:= .any) (Q':=Q) (l.drop n) n c k w' (λj=>by simp[List.getElem?_drop]) (by rw[d];exact q.1) (q.2 w' (mq.1 C));rwa [d] at v);rw[b,show n+(l.toArray.size-n)=l.toArray.size by omega] at this;exact this
end
end
section
open Go.RowKit
def ft {a w:World} (h:Below a.heap.size a w) (row:Option Nat):a.grownBy w row:=⟨h.os,h.tape,h.output,h.size,λi hi _=>h.block i hi⟩
def rB {w w':World} {base:Nat} {e:TypeId} {size:Nat} {v:Value} {n:Nat} {xs:List Value} (h:w.ownsRow base e size v n xs) (a:Below w.heap.size w w'):w'.ownsRow base e size v n xs:=by refine h.kept (ft a none) ?_;exact Classical.em _
def i7 {w:World} {base:Nat} {e:TypeId} {size:Nat} {v:Value} {n:Nat} {xs:List Value} (h:w.ownsRow base e size v n xs) (k:Nat) (hk:v.ownBlock=some k):base<=k:=by
 rcases h.2 with⟨rfl,_⟩|⟨g,cap,cur,rfl,a,_⟩
 .simp[Value.ownBlock] at hk
 simp[Value.ownBlock] at hk;omega
def IL (w:World) (v:Value) (zs:List Int):Prop:=∃(A:Option Addr) (c:Nat),v= .slice A zs.length c/\zs.length<=c/\(0<zs.length->∃a,A=some a/\a.block<w.heap.size/\∀j,j<zs.length->w.cell? (a.add j)=some (.int .i64 (zs.getD j 0)))
def IL.nil (w:World):IL w (.slice none 0 0) []:=⟨none,0,rfl,Nat.le_refl _,λh=>absurd h (by simp)⟩
def IL.Q {w w':World} {v:Value} {l:List Int} (h:IL w v l) (d:Below w.heap.size w w'):IL w' v l:=by obtain⟨A,c,rfl,f,h⟩:=h;exact⟨A,c,rfl,f,λi=>by have⟨a,e,b,k⟩:=h i;exact⟨a,e,Nat.lt_of_lt_of_le b d.size,λj g=>by rw[d.cell (by rw[bf];exact b)];exact k j g⟩⟩
def j5 (l:List Int):List Value:=l.map (Value.int .i64)
def IL.of_own {w:World} {base:Nat} {t:TypeId} {v:Value} {n:Nat} {l:List Int} (h:w.ownsRow base t 1 v n (j5 l)):IL w v l:=by
 have f:l.length=n:=by have:=h.1;simpa [j5] using this
 obtain⟨_,a⟩:=h;have i:=a;rcases a with⟨rfl,a⟩|⟨g,cap,cur,rfl,o,d,m,_⟩
 .have:l=[]:=List.eq_nil_of_length_eq_zero (by omega);subst this;exact IL.nil w
 refine⟨some ⟨g,0,none⟩,cap,by rw[f],by omega,λp=>⟨⟨g,0,none⟩,rfl, ?_,λj k=> ?_⟩⟩
 .rcases Nat.lt_or_ge g w.heap.size with c|b
  .exact c
  rw[Array.getElem?_eq_none b] at d;cases d
 have:=World.ownsRow.cells (g:=g) (w:=w) (base:=base) (e:=t) (size:=1) (n:=n) (xs:=j5 l) ⟨by simpa [j5] using f,i⟩ rfl j (.int .i64 (l.getD j 0)) (by simp[j5,List.getD_eq_getElem?_getD,List.getElem?_eq_getElem k]);exact this
end
section
open Go.RowKit
structure RS (w:World) (a:Addr) (l:List ByteArray):Prop where
 lt:a.block<w.heap.size
 cells:∀j,j<l.length->w.cell? (a.add j)=some (.string (l.getD j ⟨#[]⟩))
def RS.Q {w w':World} {a:Addr} {l:List ByteArray} (h:RS w a l) (b:Below w.heap.size w w'):RS w' a l:=⟨Nat.lt_of_lt_of_le h.lt b.size,λj c=>(b.cell (by rw[bf];exact h.lt)).trans (h.cells j c)⟩
def SL (w:World) (v:Value) (l:List ByteArray):Prop:=∃(A:Option Addr) (c:Nat),v= .slice A l.length c/\l.length<=c/\(0<l.length->∃a,A=some a/\RS w a l)
def SL.nil (w:World):SL w (.slice none 0 0) []:=⟨none,0,rfl,Nat.le_refl _,λh=>absurd h (by simp)⟩
def SL.Q {w w':World} {v:Value} {l:List ByteArray} (h:SL w v l) (d:Below w.heap.size w w'):SL w' v l:=by obtain⟨A,c,rfl,e,h⟩:=h;exact⟨A,c,rfl,e,λf=>by obtain⟨a,b,g⟩:=h f;exact⟨a,b,g.Q d⟩⟩
def F3 (l:List ByteArray):List Value:=l.map Value.string
def Ym:(Tryz.prog.info? 9).map (λi=>(i.zero,i.size,i.bytes))=some (some (.string ⟨#[]⟩),1,16):=by kernel_rfl
end
section
open Go.RowKit
def de (w:World):Prop:=∃m,w.cell? ⟨1,0,none⟩=some (.int .i64 m)
def de.Q {w w':World} (h:de w) (c:Below w.heap.size w w'):de w':=by
 obtain⟨m,h⟩:=h;have a:1<w.heap.size:=by
  rcases Nat.lt_or_ge 1 w.heap.size with a|b
  .exact a
  unfold World.cell? at h;simp only[Array.getElem?_eq_none b] at h;cases h
 exact⟨m,by rw[c.cell (p:=⟨1,0,none⟩) a];exact h⟩
def mlen_of_shaped {W:World} (h:W.ShapedOpen Tryz.prog):de W:=cell_of_shapedOpen_int (zero:=#[.int .i64 0]) (t:=3) (k:= .i64) h (by decide+kernel) (by kernel_rfl) rfl (by kernel_rfl) (by kernel_rfl) (by kernel_rfl)
end
section
open Go.RowKit
def zh {p:Prop} (h:p):Hid p:=h
class Zm (w w':World) (P:Prop) (Q:outParam Prop):Prop where
 mv:Below w.heap.size w w'->P->Q
def zb {w w':World} {P Q:Prop} [Zm w w' P Q] (h:Hid P) (a:Below w.heap.size w w'):Hid Q:=Zm.mv (P:=P) a h
instance {w0 w w':World}:Zm w w' (Below w0.heap.size w0 w) (Below w0.heap.size w0 w'):=⟨λhb h=>aa h hb⟩
instance {w w':World} {g:Nat} {cs:Array Value} {t:TypeId}:Zm w w' (Box w g cs t) (Box w' g cs t):=⟨λhb h=>h.Q hb⟩
def za {w:World} {g:Nat} {cs:Array Value} {t:TypeId} (h:Hid (Box w g cs t)) (i:Nat) {v:Value} (e:cs[i]? =some v:=by exact rfl):w.cell? ⟨g,i,none⟩=some v:=h.A i v e
def zv {α:Type _} (x:α):∃y,y=x:=⟨x,rfl⟩
def zA1 {w w1:World} {cs:Array Value} {t:TypeId} (h:w.alloc (.cells cs t)=w1):Below w.heap.size w w1/\Hid (Box w1 w.heap.size cs t):=by subst h;exact⟨ab _ _,Box.new _ _ _⟩
def zA2 {w w1 w2:World} {c1 c2:Array Value} {b a:TypeId} (c:w.alloc (.cells c1 b)=w1) (d:w1.alloc (.cells c2 a)=w2):Below w.heap.size w w2/\Hid (Box w2 w.heap.size c1 b)/\Hid (Box w2 (w.heap.size+1) c2 a):=by subst c;subst d;exact⟨aa (ab _ _) (ab _ _),(Box.new _ _ _).Q (ab _ _),eS a c2 (by simp)⟩
def zA3 {w w1 w2 d:World} {c1 c2 c3:Array Value} {h i e:TypeId} (f:w.alloc (.cells c1 h)=w1) (g:w1.alloc (.cells c2 i)=w2) (j:w2.alloc (.cells c3 e)=d):Below w.heap.size w d/\Hid (Box d w.heap.size c1 h)/\Hid (Box d (w.heap.size+1) c2 i)/\Hid (Box d (w.heap.size+1+1) c3 e):=by have⟨a,b,c⟩:=zA2 f g;subst j;exact⟨aa a (ab _ _),b.Q (ab _ _),c.Q (ab _ _),eS e c3 (by subst f;subst g;simp)⟩
def zA4 {w w1 w2 m e:World} {c1 c2 c3 c4:Array Value} {j k l f:TypeId} (g:w.alloc (.cells c1 j)=w1) (h:w1.alloc (.cells c2 k)=w2) (i:w2.alloc (.cells c3 l)=m) (n:m.alloc (.cells c4 f)=e):Below w.heap.size w e/\Hid (Box e w.heap.size c1 j)/\Hid (Box e (w.heap.size+1) c2 k)/\Hid (Box e (w.heap.size+1+1) c3 l)/\Hid (Box e (w.heap.size+1+1+1) c4 f):=by have⟨a,b,c,d⟩:=zA3 g h i;subst n;exact⟨aa a (ab _ _),b.Q (ab _ _),c.Q (ab _ _),d.Q (ab _ _),eS f c4 (by subst g;subst h;subst i;simp)⟩
def zB4 {w w1 w2 f a:World} {c1 c2 c3 c4:Array Value} {b c d e:TypeId} (g:w.alloc (.cells c1 b)=w1) (h:w1.alloc (.cells c2 c)=w2) (i:w2.alloc (.cells c3 d)=f) (j:f.alloc (.cells c4 e)=a):Hid (Below w.heap.size w a)/\Hid (Box a w.heap.size c1 b)/\Hid (Box a (w.heap.size+1) c2 c)/\Hid (Box a (w.heap.size+1+1) c3 d)/\Hid (Box a (w.heap.size+1+1+1) c4 e):=zA4 g h i j
def zB1 {w w1:World} {cs:Array Value} {t:TypeId} (h:w.alloc (.cells cs t)=w1):Hid (Below w.heap.size w w1)/\Hid (Box w1 w.heap.size cs t):=zA1 h
def zB2 {w w1 w2:World} {c1 c2:Array Value} {a b:TypeId} (c:w.alloc (.cells c1 a)=w1) (d:w1.alloc (.cells c2 b)=w2):Hid (Below w.heap.size w w2)/\Hid (Box w2 w.heap.size c1 a)/\Hid (Box w2 (w.heap.size+1) c2 b):=zA2 c d
def zB3 {w w1 w2 a:World} {c1 c2 c3:Array Value} {b c d:TypeId} (e:w.alloc (.cells c1 b)=w1) (f:w1.alloc (.cells c2 c)=w2) (g:w2.alloc (.cells c3 d)=a):Hid (Below w.heap.size w a)/\Hid (Box a w.heap.size c1 b)/\Hid (Box a (w.heap.size+1) c2 c)/\Hid (Box a (w.heap.size+1+1) c3 d):=zA3 e f g
def zk2 {a b:Prop} (x:a) (y:b):Hid a/\Hid b:=⟨x,y⟩
def zk3 {a b c:Prop} (x:a) (y:b) (z:c):Hid a/\Hid b/\Hid c:=⟨x,y,z⟩
def zk4 {a b c d:Prop} (x:a) (y:b) (z:c) (u:d):Hid a/\Hid b/\Hid c/\Hid d:=⟨x,y,z,u⟩
def zk5 {a b c d e:Prop} (x:a) (y:b) (z:c) (u:d) (v:e):Hid a/\Hid b/\Hid c/\Hid d/\Hid e:=⟨x,y,z,u,v⟩
def zk6 {a b c d e f:Prop} (x:a) (y:b) (z:c) (u:d) (v:e) (w:f):Hid a/\Hid b/\Hid c/\Hid d/\Hid e/\Hid f:=⟨x,y,z,u,v,w⟩
def zp:(∀(a:Act) (i:Nat) (v:Value),a.put (some i) v={a with tmps:=a.tmps.setIfInBounds i v})/\(∀(a:Act) (v:Value),a.put none v=a)/\(∀{α:Type} (l:List α) (i:Nat) (h:i<l.toArray.size),l.toArray[i]=l[i]'(by simpa using h))/\(∀{α:Type} (a:α) (l:List α) (h:0<(a::l).length),(a::l)[0]=a)/\(∀{α:Type} (a:α) (l:List α) (i:Nat) (h:i+1<(a::l).length),(a::l)[i+1]=l[i]'(by simpa using h))/\(∀{α:Type} (l:List α) (i:Nat) (a:α),l.toArray.setIfInBounds i a=(l.set i a).toArray)/\(∀{α:Type} (a b:α) (l:List α),(a::l).set 0 b=b::l)/\(∀{α:Type} (a b:α) (l:List α) (n:Nat),(a::l).set (n+1) b=a::l.set n b):=⟨λ_ _ _=>rfl,λ_ _=>rfl,λ_ _ _=>rfl,λ_ _ _=>rfl,λ_ _ _ _=>rfl,λ_ _ _=>List.setIfInBounds_toArray ..,λ_ _ _=>rfl,λ_ _ _ _=>rfl⟩
def zt {P:Program} {md:Region.Mode} {ops:Array Oper} {Q:Exit->Act->World->Prop} {S:World->Prop} {f:Oper} {d:Nat} {b:Array Bool} {a:Act} {w:World} (i:Nat) (v:Value) (hi:ops[i]? =some f) (j:YieldsIf P ops S f v a) (h:wpAnyH P md ops Q S d (b.setIfInBounds i true) (a.put f.dst v) w) (e:(Region.noSelect ops&&(Region.free md ops b i&&(Region.ready md ops b).contains i))=true:=by kernel_rfl) (hQ:∀c a w,Q (.panic c) (a.put f.dst v) w->Q (.panic c) a w:=by exact λ_ _ _ h=>h) (g:S w:=by assumption):wpAnyH P md ops Q S (d+1) b a w:=by rw[Bool.and_eq_true,Bool.and_eq_true] at e;exact wpAnyH_take hi e.1 e.2.1 e.2.2 hQ j g h
def zta {P:Program} {md:Region.Mode} {ops:Array Oper} {Q:Exit->Act->World->Prop} {S:World->Prop} {e:Oper} {d:Nat} {b:Array Bool} {a:Act} {w:World} (i:Nat) (v:Value) (hi:ops[i]? =some e) (h:wpAnyH P md ops Q S d (b.setIfInBounds i true) (a.put e.dst v) w) (g:(Region.noSelect ops&&(Region.free md ops b i&&(Region.ready md ops b).contains i))=true:=by kernel_rfl) (hQ:∀c a w,Q (.panic c) (a.put e.dst v) w->Q (.panic c) a w:=by exact λ_ _ _ h=>h) (f:S w:=by assumption) (j:YieldsIf P ops S e v a:=by exact Or.inl ⟨by rfl,λ_ _=>by go_simp⟩):wpAnyH P md ops Q S (d+1) b a w:=zt i v hi j h g hQ f
def zm (fn:Go.Fn) (first cap:Array Value) (w:World):(Instr.makeFunc fn first cap).run Tryz.prog w= .ok (.func fn first cap) w:=rfl
section
variable {w w':World} {g b q:Nat} {cs:Array Value} {t:TypeId} {L:List Value} {u0 u1 u2 u3 u4 u5:Value}
def zy {v:Value} (a:Below w.heap.size w w') (h:Hid (Box w g cs t)) (i:Nat) (e:cs[i]? =some v):w'.cell? ⟨g,i,none⟩=some v:=(a.cell (p:=⟨g,i,none⟩) h.lt).trans (h.A i v e)
def zd2 (h:Hid (Box w g cs t)) (a b:Nat) (e0:cs[a]? =some u0:=by exact rfl) (e1:cs[b]? =some u1:=by exact rfl):w.cell? ⟨g,a,none⟩=some u0/\w.cell? ⟨g,b,none⟩=some u1:=⟨za h _ e0,za h _ e1⟩
def zc2 (h:Hid (Box w g cs t)) (e0:cs[0]? =some u0:=by exact rfl) (e1:cs[1]? =some u1:=by exact rfl):w.cell? ⟨g,0,none⟩=some u0/\w.cell? ⟨g,1,none⟩=some u1:=⟨za h _ e0,za h _ e1⟩
def zd3 (h:Hid (Box w g cs t)) (a b c:Nat) (e0:cs[a]? =some u0:=by exact rfl) (e1:cs[b]? =some u1:=by exact rfl) (d:cs[c]? =some u2:=by exact rfl):w.cell? ⟨g,a,none⟩=some u0/\w.cell? ⟨g,b,none⟩=some u1/\w.cell? ⟨g,c,none⟩=some u2:=⟨za h _ e0,za h _ e1,za h _ d⟩
def zc3 (h:Hid (Box w g cs t)) (e0:cs[0]? =some u0:=by exact rfl) (e1:cs[1]? =some u1:=by exact rfl) (a:cs[2]? =some u2:=by exact rfl):w.cell? ⟨g,0,none⟩=some u0/\w.cell? ⟨g,1,none⟩=some u1/\w.cell? ⟨g,2,none⟩=some u2:=⟨za h _ e0,za h _ e1,za h _ a⟩
def zc4 (h:Hid (Box w g cs t)) (e0:cs[0]? =some u0:=by exact rfl) (e1:cs[1]? =some u1:=by exact rfl) (a:cs[2]? =some u2:=by exact rfl) (b:cs[3]? =some u3:=by exact rfl):w.cell? ⟨g,0,none⟩=some u0/\w.cell? ⟨g,1,none⟩=some u1/\w.cell? ⟨g,2,none⟩=some u2/\w.cell? ⟨g,3,none⟩=some u3:=⟨za h _ e0,za h _ e1,za h _ a,za h _ b⟩
def zx4 (a:Below w.heap.size w w') (d:b<w.heap.size) (c:∀i u,L[i]? =some u->w.cell? ⟨b,q+i,none⟩=some u) (e0:L[0]? =some u0:=by exact rfl) (e1:L[1]? =some u1:=by exact rfl) (e:L[2]? =some u2:=by exact rfl) (f:L[3]? =some u3:=by exact rfl):w'.cell? ⟨b,q+0,none⟩=some u0/\w'.cell? ⟨b,q+1,none⟩=some u1/\w'.cell? ⟨b,q+2,none⟩=some u2/\w'.cell? ⟨b,q+3,none⟩=some u3:=⟨(a.cell (p:=⟨b,q+0,none⟩) d).trans (c _ _ e0),(a.cell (p:=⟨b,q+1,none⟩) d).trans (c _ _ e1),(a.cell (p:=⟨b,q+2,none⟩) d).trans (c _ _ e),(a.cell (p:=⟨b,q+3,none⟩) d).trans (c _ _ f)⟩
def zc5 (h:Hid (Box w g cs t)) (e0:cs[0]? =some u0:=by exact rfl) (e1:cs[1]? =some u1:=by exact rfl) (a:cs[2]? =some u2:=by exact rfl) (b:cs[3]? =some u3:=by exact rfl) (c:cs[4]? =some u4:=by exact rfl):w.cell? ⟨g,0,none⟩=some u0/\w.cell? ⟨g,1,none⟩=some u1/\w.cell? ⟨g,2,none⟩=some u2/\w.cell? ⟨g,3,none⟩=some u3/\w.cell? ⟨g,4,none⟩=some u4:=⟨za h _ e0,za h _ e1,za h _ a,za h _ b,za h _ c⟩
variable {P0 Q0 P1 Q1 P2 Q2 P3 Q3 P4 Q4:Prop}
def zb2 [Zm w w' P0 Q0] [Zm w w' P1 Q1] (b:Hid P0) (c:Hid P1) (a:Below w.heap.size w w'):Hid Q0/\Hid Q1:=⟨zb b a,zb c a⟩
def zb3 [Zm w w' P0 Q0] [Zm w w' P1 Q1] [Zm w w' P2 Q2] (b:Hid P0) (c:Hid P1) (d:Hid P2) (a:Below w.heap.size w w'):Hid Q0/\Hid Q1/\Hid Q2:=⟨zb b a,zb c a,zb d a⟩
def zb4 [Zm w w' P0 Q0] [Zm w w' P1 Q1] [Zm w w' P2 Q2] [Zm w w' P3 Q3] (b:Hid P0) (c:Hid P1) (d:Hid P2) (e:Hid P3) (a:Below w.heap.size w w'):Hid Q0/\Hid Q1/\Hid Q2/\Hid Q3:=⟨zb b a,zb c a,zb d a,zb e a⟩
def zb5 [Zm w w' P0 Q0] [Zm w w' P1 Q1] [Zm w w' P2 Q2] [Zm w w' P3 Q3] [Zm w w' P4 Q4] (b:Hid P0) (c:Hid P1) (d:Hid P2) (e:Hid P3) (f:Hid P4) (a:Below w.heap.size w w'):Hid Q0/\Hid Q1/\Hid Q2/\Hid Q3/\Hid Q4:=⟨zb b a,zb c a,zb d a,zb e a,zb f a⟩
end
abbrev zL (w w':World):Prop:=Below w.heap.size w w'
abbrev zP (g:Nat):Value:= .pointer (some ⟨g,0,none⟩)
def zlt {k n:Nat} (h:k<n):(k:Int)<(n:Int):=by omega
def zge {k n:Nat} (h:¬k<n):¬(k:Int)<(n:Int):=by omega
def zln {k n:Nat} (h:k<n):(k:Int)<(n:Int)/\(0:Int)<=(k:Int):=by omega
def zgq {k n:Nat} (h:k<=n) (c:¬k<n):¬(k:Int)<(n:Int)/\k=n:=by omega
def zn0 (k:Nat):(0:Int)<=(k:Int):=by omega
def zeq {k n:Nat} (h:k<=n) (c:¬k<n):k=n:=by omega
def zK {P:Program} {n:FuncId} {args:Array Value} {w:World} {x:Ending} {R:World->Prop} {Q:Ending->World->Prop} (H:Calls P n args w λe w'=>e=x/\R w') (K:∀w',R w'->Q x w'):Calls P n args w Q:=H.mono λe w' h=>by rw[h.1];exact K w' h.2
def zJ {P:Program} {n:FuncId} {args:Array Value} {w:World} {x:Ending} {R Q:Ending->World->Prop} (H:Calls P n args w R) (K:Q x w) (c:∀e w',R e w'->e=x/\w'=w:=by rintro _ _ ⟨rfl,rfl⟩;exact⟨rfl,rfl⟩):Calls P n args w Q:=H.mono λe w' h=>by obtain⟨a,b⟩:=c e w' h;rw[a,b];exact K
def zvh {α:Type _} (x:α):∃y,Hid (y=x):=⟨x,rfl⟩
def zas {A c:Option Addr} {a b d f:Nat} {p:Addr} (h:Value.slice A a b=Value.slice c d f) (e:c=some p):A=some p:=by rw[Value.slice.injEq] at h;rw[h.1,e]
def zhd {P:Program} {ops:Array Oper} {Q:Exit->Act->World->Prop} {c:Nat} {a:Act} {w:World} (S:World->Prop) (b:S w.drew) (h:S w.drew->wpAnyH P .any ops Q S ops.size (Array.replicate ops.size false) a w.drew) (hm:P.follows .mixedOrders=true:=by kernel_rfl):(Code.region c ops true).wp P Q a w:=wp_region_held_drew hm b h
def zdn {P:Program} {md:Region.Mode} {ops:Array Oper} {Q:Exit->Act->World->Prop} {S:World->Prop} {b:Array Bool} {a:Act} {w:World} {c:Nat} (h:Q .normal a w) (d:Region.ready md ops b=[]:=by kernel_rfl):wpAnyH P md ops Q S c b a w:=wpAnyH_done d h c
noncomputable abbrev zz:Program:=Tryz.prog
abbrev zR (v:Value) (w:World) (e:Ending) (w':World):Prop:=e= .returned v/\Below w.heap.size w w'
abbrev zS (v:Value) (w:World) (e:Ending) (w':World):Prop:=e= .returned v/\w=w'
abbrev zT (v:Value) (w:World) (e:Ending) (w':World):Prop:=e= .returned v/\w'=w
abbrev F0:Array Value:=#[.int .i64 0,.int .i64 0,.int .i64 0,.int .i64 0,.int .i64 0,.int .i64 0,.int .i64 0,.int .i64 0,.int .i64 0,.int .i64 0,.int .i64 0,.int .i64 0,.int .i64 0,.int .i64 0,.int .i64 0,.int .i64 0]
def zr {w:World} {g:Nat} {u0 u1:Value} {t:TypeId} (h:Hid (Box w g #[u0,u1] t)):w.cell? ⟨g,0,none⟩=some u0/\w.cell? ⟨g,1,none⟩=some u1/\g<w.heap.size/\w.frozen? ⟨g,0,none⟩=false/\w.frozen? ⟨g,1,none⟩=false:=⟨za h 0 rfl,za h 1 rfl,h.lt,h.frozen 0,h.frozen 1⟩
def Box.Z {w:World} {g:Nat} {cs:Array Value} {t:TypeId} (h:Box w g cs t) (i:Nat):w.frozen? ⟨g,i,none⟩=false:=h.frozen i
def zm1 (n:Nat) (i:Value) (_:World):Nat:=n-(intOf i).toNat
def zm2 (n:Nat) (_ i:Value) (_:World):Nat:=n-(intOf i).toNat
end
def DC:=@List.getD_eq_getElem?_getD
def DD:=@List.getElem?_eq_getElem
def DE:=@Nat.le_refl
def DF:=@List.length_cons
def DH:=@Nat.zero_le
def DI:=@List.length_append
def DJ:=@decide_eq_false
def DK:=@if_neg
def DM:=@Go.RowKit.Below.refl
def DN:=@Option.some.injEq
def DP:=@if_pos
def DQ:=@Go.Value.slice.injEq
def DR:=@decide_eq_true
def DS:=@List.mem_cons
def DT:=@List.length_map
def DU:=@Nat.lt_of_lt_of_le
def DW:=@Bool.and_eq_true
def DX:=@List.getElem?_append_right
def DY:=@Nat.zero_add
def DZ:=@List.not_mem_nil
def D0:=@List.getElem?_eq_some_iff
def D2:=@Nat.le_trans
def D3:=@List.length_take
def D4:=@Go.wpQuiet_nil
def D5:=@List.drop_zero
def D6:=@List.getElem?_append_left
def D7:=@Go.bodyPost_ret
def D8:=@List.length_nil
def D9:=@List.mem_iff_getElem
def Ea:=@List.mem_cons_of_mem
def Eb:=@Nat.add_zero
def Ec:=@List.eq_nil_of_length_eq_zero
def Ed:=@List.getElem?_map
def Ee:=@List.take_succ_cons
def Ef:=@decide_eq_true_eq
def Eg:=@List.append_assoc
def Eh:=@Int.toNat_natCast
def Ei:=@List.drop_succ_cons
def Ej:=@List.length_singleton
def Ek:=@List.getElem?_toArray
def El:=@List.take_zero
def En:=@List.take_of_length_le
def Eo:=@Go.RowKit.Below.heap_setCell
def Ep:=@List.take_add_one
def Eq:=@List.drop_eq_getElem_cons
def Er:=@List.length_set
def Es:=@List.length_replicate
def Et:=@List.take_length
def Eu:=@Option.some.inj
def Ev:=@congrArg
def Ew:=@Nat.pow_le_pow_right
def Ey:=@of_decide_eq_true
def Ez:=@List.any_eq_true
def EA:=@List.drop_eq_nil_of_le
def EB:=@Nat.sub_self
def EC:=@or_false
def ED:=@List.size_toArray
def EE:=@List.getElem_mem
def EF:=@List.getElem?_eq_none
def EH:=@List.foldl_cons
def EJ:=@List.mem_map
def EK:=@List.mem_append
def EL:=@List.getElem?_set_self
def EM:=@List.flatMap_cons
def EN:=@List.append_nil
def EP:=@List.getElem?_set_ne
def EQ:=@Option.getD_some
def ER:=@List.mem_singleton
def ES:=@Option.map_some
def ET:=@List.length_drop
def EU:=@List.mem_append_left
def EV:=@List.length_range
def EW:=@Go.Lib.size_eq
def EX:=@Go.info_parts
def EY:=@List.getElem?_take_of_lt
def EZ:=@List.getElem?_range
def E1:=@List.setIfInBounds_toArray
def E7:=@List.getElem?_replicate
def E8:=@Classical.byContradiction
def E9:=@Nat.mod_eq_of_lt
def Fa:=@List.all_eq_true
def Fb:=@beq_eq_false_iff_ne
def Fc:=@List.map_congr_left
def Fd:=@List.mem_append_right
def Fe:=@List.map_map
def Ff:=@List.filter_congr
def Fg:=@List.set_cons_zero
def Fh:=@List.getElem?_drop
def Fi:=@Go.IntWalk.i64_in
def Fj:=@Array.getElem?_eq_some_iff
def Fk:=@Go.Obj.cells.injEq
def Fl:=@List.map_append
def Fm:=@List.cons.injEq
def Fo:=@Bool.eq_iff_iff
def Fp:=@List.foldl_append
def Fq:=@Nat.pos_of_ne_zero
def Fr:=@Go.mem_ready
def Ft:=@Go.getD_replicate_false
def Fu:=@Go.World.block_lt_of_cell?
def Fv:=@List.mem_range
def Fw:=@List.filter_map
def Fx:=@Array.getElem?_setIfInBounds_ne
def Fy:=@List.set_append_right
def Fz:=@List.ext_getElem
def FA:=@Ne.symm
def FB:=@Nat.pow_succ
def FC:=@Go.Region.noSelect_spec
def FD:=@List.getElem?_cons_succ
def FE:=@Int.eq_ofNat_of_zero_le
def FF:=@Go.yieldsIn_of_qOp
def FG:=@Nat.mul_comm
def FH:=@Prod.mk.injEq
def FI:=@Bool.true_and
def FJ:=@Bool.false_or
def FK:=@Go.Addr.mk.injEq
def FL:=@and_true
def FM:=@Go.DataW.trod_int
def FN:=@if_false
def FO:=@Nat.lt_or_ge
def FP:=@List.flatten_cons
def FQ:=@Nat.mod_lt
def FR:=@decide_eq_false_iff_not
def FT:=@Nat.exists_eq_add_of_le
def FU:=@Go.Lib.extract_data
def FV:=@Go.ready_mono
def FW:=@Bool.false_eq_true
def FX:=@Bool.or_eq_true
def FY:=@List.map_cons
end
open Value renaming int → zI, slice → zU, string → zV, bool → zW, agg → zX, tuple → zY
open IntKind renaming i64 → zi
open Ending renaming returned → zE
open Obj renaming cells → zC
open List renaming length → zN, getD → zG
open Or renaming inl → zQ, inr → zO
open Go.Proofs.Tryz
section
inductive Ex where
 |mk (op n:Int) (name:ByteArray) (args:List Ex)
def Ex.op:Ex->Int| .mk o _ _ _=>o
def Ex.n:Ex->Int| .mk _ n _ _=>n
def Ex.s:Ex->ByteArray| .mk _ _ s _=>s
def Ex.a:Ex->List Ex| .mk _ _ _ l=>l
def ex0:Ex:= .mk 0 0 ⟨#[]⟩ []
def tN (q:Bool):Nat:=if q=true then 1 else 0
def eW (x:Nat):List Nat->Bool
 |lo::hi::r=>(decide (lo<=x)&&decide (x<=hi))||eW x r
 |_=>false
def jt (x:Nat):Nat:=((List.range 16).map λk=>tN (x.testBit k)).sum
def op1 (op:Int) (a:Nat):Nat:=if op=4 then tN (decide (a=0)) else if op=5 then 65535-a else if op=6 then(65536-a)%65536 else jt a
def op2 (op:Int) (a b:Nat):Nat:=
 if op=7 then(a+b)%65536
 else if op=8 then(a+(65536-b))%65536
 else if op=9 then(a*b)%65536
 else if op=10 then a&&&b
 else if op=11 then a|||b
 else if op=12 then a^^^b
 else if op=13 then(if b<16 then(a*2^b)%65536 else 0)
 else if op=14 then(if b<16 then a/2^b else 0)
 else if op=15 then tN (decide (a=b))
 else if op=16 then tN (!decide (a=b))
 else if op=17 then tN (decide (a<b))
 else if op=18 then tN (!decide (b<a))
 else if op=19 then tN (decide (a≠0)&&decide (b≠0))
 else if op=20 then tN (decide (a≠0)||decide (b≠0))
 else tN (!decide (a≠0)||decide (b≠0))
def opT (op:Int) (l:List Nat):Nat:=
 if op=22 then(if zG l 0 0≠0 then zG l 1 0 else zG l 2 0)
 else if op=23 then tN (eW (zG l 0 0) l.tail)
 else if zN l=1 then op1 op (zG l 0 0)
 else op2 op (zG l 0 0) (zG l 1 0)
def evT (σ:ByteArray->Nat):Nat->Ex->Nat
 |0,_=>0
 |k+1,.mk op n name args=>if op=1 then n.toNat else if op=2 then σ name else opT op (args.map (evT σ k))
def ed (op:Int) (m:Nat):Bool:=
 if op=1\/op=2 then decide (m=0)
 else if op=4\/op=5\/op=6\/op=25 then decide (m=1)
 else if op=22 then decide (m=3)
 else if op=23 then decide (m%2=1)&&decide (3<=m)&&decide (m<=33)
 else decide (7<=op)&&decide (op<=21)&&decide (m=2)
def okE (known:ByteArray->Bool):Nat->Ex->Bool
 |0,_=>false
 |k+1,.mk op n name args=>ed op (zN args)&&(decide (op=1)||decide (n=0))&&decide (0<=n)&&decide (n<=65535)&&(!decide (op=2)||known name)&&args.all (okE known k)
def ny {known:ByteArray->Bool} {k:Nat} {op n:Int} {b:ByteArray} {args:List Ex} (h:okE known (k+1) (.mk op n b args)=true):ed op (zN args)=true/\(op=1\/n=0)/\0<=n/\n<=65535/\(op=2->known b=true)/\∀a∈args,okE known k a=true:=by unfold okE at h;simp only[DW,FX,Ef,Bool.not_eq_true',FR,Fa] at h;obtain⟨⟨⟨⟨⟨c,d⟩,f⟩,g⟩,i⟩,j⟩:=h;exact⟨c,d,f,g,λe=>i.resolve_left (λh=>h e),j⟩
def OR (q:Bool):tN q<65536:=by unfold tN;split<;>omega
theorem sN (x:Nat):jt x<65536:=by
 have b:∀(l:List Nat),((l.map λk=>tN (x.testBit k)).sum)<=zN l:=by
  intro l;induction l with
  |nil=>simp
  |cons a l ih=>
   rw[FY,List.sum_cons,DF];have:tN (x.testBit a)<=1:=by unfold tN;split<;>omega
   omega
 have:=b (List.range 16);rw[EV] at this;unfold jt;omega
structure Nd where
 lv:Nat
 lo:Nat
 hi:Nat
deriving DecidableEq
def nd0:Nd:=⟨20,0,0⟩
def cX:List Nd:=[⟨20,0,0⟩,⟨20,1,1⟩]
def ndA (d:List Nd) (i:Nat):Nd:=zG d i nd0
def lvA (d:List Nd) (i:Nat):Nat:=(ndA d i).lv
def x6 (d:List Nd) (i:Nat):Prop:=lvA d i<20/\(ndA d i).lo<i/\(ndA d i).hi<i/\(ndA d i).lo≠(ndA d i).hi/\lvA d i<lvA d (ndA d i).lo/\lvA d i<lvA d (ndA d i).hi
structure DV (d:List Nd):Prop where
 two:2<=zN d
 top:zN d<=8192
 e0:ndA d 0=⟨20,0,0⟩
 e1:ndA d 1=⟨20,1,1⟩
 pl:∀i,2<=i->i<zN d->x6 d i
 nodup:d.Nodup
def dv0:DV cX:=⟨by decide,by decide,rfl,rfl,λi a b=>by have:zN cX=2:=rfl;omega,by decide⟩
def evF (d:List Nd) (b:Nat->Bool):Nat->Nat->Bool
 |0,f=>f==1
 |k+1,f=>if f<=1 then f==1 else evF d b k (if b (lvA d f)=true then(ndA d f).hi else(ndA d f).lo)
def ev (d:List Nd) (b:Nat->Bool) (f:Nat):Bool:=evF d b f f
def ey {d a:List Nd} {i:Nat} (h:i<zN d):ndA (d++a) i=ndA d i:=by unfold ndA;rw[DC,DC,D6 h]
def pM {d:List Nd} {n:Nd}:ndA (d++[n]) (zN d)=n:=by unfold ndA;rw[DC,DX (DE _),EB];rfl
section
variable {d:List Nd} {b:Nat->Bool}
def DV.lv0 (h:DV d):lvA d 0=20:=by unfold lvA;rw[h.e0]
def DV.lv1 (h:DV d):lvA d 1=20:=by unfold lvA;rw[h.e1]
def DV.lvle (h:DV d) {i:Nat} (hi:i<zN d):lvA d i<=20:=by
 by_cases a:i=0
 .rw[a,h.lv0];exact DE _
 by_cases b:i=1
 .rw[b,h.lv1];exact DE _
 exact Nat.le_of_lt (h.pl i (by omega) hi).1
def DV.lvlt (h:DV d) {i:Nat} (hi:i<zN d):lvA d i<20↔2<=i:=by
 constructor
 .intro a;by_cases b:i=0
  .rw[b,h.lv0] at a;omega
  by_cases c:i=1
  .rw[c,h.lv1] at a;omega
  omega
 intro e;exact(h.pl i e hi).1
theorem vp (h:DV d):∀(k f:Nat),f<zN d->f<=k->evF d b k f=evF d b f f:=by
 intro k;induction k using Nat.strongRecOn with
 |_ k ih=>
  intro f j hk;by_cases c:f<=1
  .have e:∀m,evF d b m f=(f==1):=λm=>by cases m<;>simp[evF,c]
   rw[e,e]
  obtain⟨i,rfl⟩:∃m,k=m+1:=⟨k-1,by omega⟩;obtain⟨f',rfl⟩:∃m,f=m+1:=⟨f-1,by omega⟩;have⟨_,l,n,_⟩:=h.pl (f'+1) (by omega) j;simp only[evF,DK c];have g:(if b (lvA d (f'+1))=true then(ndA d (f'+1)).hi else(ndA d (f'+1)).lo)<=f':=by split<;>omega
  generalize(if b (lvA d (f'+1))=true then(ndA d (f'+1)).hi else(ndA d (f'+1)).lo)=x at g⊢;by_cases a:i=f'
  .rw[a]
  rw[ih i (by omega) x (by omega) (by omega),ih f' (by omega) x (by omega) g]
def gT (h:DV d) {f:Nat} (g:2<=f) (e:f<zN d):ev d b f=if b (lvA d f)=true then ev d b (ndA d f).hi else ev d b (ndA d f).lo:=by
 obtain⟨a,rfl⟩:∃m,f=m+1:=⟨f-1,by omega⟩;have⟨_,i,j,_⟩:=h.pl (a+1) (by omega) e;have c:¬a+1<=1:=by omega
 unfold ev;simp only[evF,DK c];split
 .exact vp h a _ (by omega) (by omega)
 exact vp h a _ (by omega) (by omega)
theorem ij {g:List Nd} (h:DV d) (i:DV (d++g)):∀(f:Nat),f<zN d->ev (d++g) b f=ev d b f:=by
 intro f;induction f using Nat.strongRecOn with
 |_ f ih=>
  intro c;by_cases a:2<=f
  .have⟨_,j,k,_⟩:=h.pl f a c;have e:f<(d++g).length:=by rw[DI];omega
   rw[gT i a e,gT h a c];unfold lvA;rw[ey c,ih _ j (by omega),ih _ k (by omega)]
  have:f=0\/f=1:=by omega
  rcases this with rfl|rfl
  .rfl
  rfl
theorem Uu (h:DV d) {b g:Nat->Bool}:∀(f:Nat),f<zN d->(∀k,lvA d f<=k->k<20->b k=g k)->ev d b f=ev d g f:=by
 intro f;induction f using Nat.strongRecOn with
 |_ f ih=>
  intro e c;by_cases a:2<=f
  .have⟨i,j,l,_,m,n⟩:=h.pl f a e;rw[gT h a e,gT h a e,c _ (DE _) i];rw[ih _ j (by omega) (λk hk=>c k (by omega)),ih _ l (by omega) (λk hk=>c k (by omega))]
  have:f=0\/f=1:=by omega
  rcases this with rfl|rfl
  .rfl
  rfl
end
structure Bd where
 d:List Nd
 full:Bool
def cA (s:Bd) (l lo hi:Nat):Bd×Nat:=
 if lo=hi then(s,lo)
 else if⟨l,lo,hi⟩∈s.d then(s,s.d.idxOf ⟨l,lo,hi⟩)
 else if 8192<=zN s.d then(⟨s.d,true⟩,0)
 else(⟨s.d++[⟨l,lo,hi⟩],s.full⟩,zN s.d)
def UD {d:List Nd} {l lo hi:Nat} (h:DV d) (s:l<20) (m:lo<zN d) (n:hi<zN d) (k:lo≠hi) (j:l<lvA d lo) (e:l<lvA d hi) (t:⟨l,lo,hi⟩∉d) (p:zN d<8192):DV (d++[⟨l,lo,hi⟩]):=by
 have q:=h.two;refine⟨by rw[DI];omega,by rw[DI,Ej];omega,by rw[ey (by omega)];exact h.e0,by rw[ey (by omega)];exact h.e1,λi f g=> ?_, ?_⟩
 .rw[DI,Ej] at g;by_cases b:i<zN d
  .have⟨u,v,w,x,y,z⟩:=h.pl i f b;unfold x6 lvA;rw[ey b,ey (show(ndA d i).lo<zN d by omega),ey (show(ndA d i).hi<zN d by omega)];exact⟨u,v,w,x,y,z⟩
  obtain rfl:i=zN d:=by omega
  unfold x6 lvA;rw[pM];simp only;rw[ey m,ey n];exact⟨s,m,n,k,j,e⟩
 rw[List.nodup_append];refine⟨h.nodup,by simp,λa r c o=> ?_⟩;rw[ER] at o;rintro rfl;exact t (o▸r)
structure Xp (s s':Bd) (l lo hi i:Nat):Prop where
 ext:∃ns,s'.d=s.d++ns
 full:s.full=true->s'.full=true
 ok:s'.full=false->DV s'.d/\i<zN s'.d/\l<=lvA s'.d i/\∀b,ev s'.d b i=if b l=true then ev s.d b hi else ev s.d b lo
def sP {s:Bd} {l lo hi:Nat} (h:DV s.d) (p:l<20) (k:lo<zN s.d) (o:hi<zN s.d) (g:l<lvA s.d lo) (n:l<lvA s.d hi):Xp s (cA s l lo hi).1 l lo hi (cA s l lo hi).2:=by
 unfold cA;split
 .rename_i e;subst e;exact⟨⟨[],by simp⟩,λh=>h,λ_=>⟨h,k,Nat.le_of_lt g,λb=>by split<;>rfl⟩⟩
 rename_i hne;split
 .rename_i hm;refine⟨⟨[],by simp⟩,λh=>h,λ_=> ?_⟩;have d:s.d.idxOf ⟨l,lo,hi⟩<zN s.d:=List.idxOf_lt_length_of_mem hm;have i:ndA s.d (s.d.idxOf ⟨l,lo,hi⟩)=⟨l,lo,hi⟩:=by unfold ndA;rw[DC,DD d,EQ,List.getElem_idxOf]
  have a:lvA s.d (s.d.idxOf ⟨l,lo,hi⟩)=l:=by unfold lvA;rw[i]
  have m:=(h.lvlt d).1 (by rw[a];exact p);refine⟨h,d,by rw[a];exact DE _,λb=> ?_⟩;simp only;rw[gT h m d,a,i]
 rename_i hn;split
 .exact⟨⟨[],by simp⟩,λ_=>rfl,λh=>by cases h⟩
 rename_i hlen;have j:=UD h p k o hne g n hn (by omega);refine⟨⟨_,rfl⟩,λh=>h,λ_=> ?_⟩;have c:ndA (s.d++[⟨l,lo,hi⟩]) (zN s.d)=⟨l,lo,hi⟩:=pM;have a:lvA (s.d++[⟨l,lo,hi⟩]) (zN s.d)=l:=by unfold lvA;rw[c]
 have f:zN s.d<(s.d++[(⟨l,lo,hi⟩:Nd)]).length:=by simp
 refine⟨j,f,by rw[a];exact DE _,λb=> ?_⟩;simp only;rw[gT j h.two f,a,c];simp only;rw[ij h j _ k,ij h j _ o]
structure T3 where
 f:Nat
 g:Nat
 h:Nat
deriving DecidableEq
def cZ (d:List Nd) (f l:Nat) (a:Bool):Nat:=if lvA d f≠l then f else if a=true then(ndA d f).hi else(ndA d f).lo
def lv3 (d:List Nd) (x:T3):Nat:=min (min (lvA d x.f) (lvA d x.g)) (lvA d x.h)
def bL (d:List Nd) (x:T3) (l:Nat) (a:Bool):T3:=⟨cZ d x.f l a,cZ d x.g l a,cZ d x.h l a⟩
structure Ap3 where
 b:Bd
 known:List (T3×Nat)
def jv (l:List (T3×Nat)) (x:T3):Option Nat:=(l.find? λp=>decide (p.1=x)).map (·.2)
def bN (q:Bool):Nat:=if q=true then 1 else 0
def aS (op:Bool->Bool->Bool->Bool):Nat->Ap3->T3->Ap3×Nat
 |0,s,_=>(s,0)
 |k+1,s,x=>
  if s.b.full=true then(s,0)
  else if lv3 s.b.d x=20 then(s,bN (op (x.f==1) (x.g==1) (x.h==1)))
  else match jv s.known x with
   |some i=>(s,i)
   |none=>
    let r1:=aS op k s (bL s.b.d x (lv3 s.b.d x) false)
    let r2:=aS op k r1.1 (bL r1.1.b.d x (lv3 s.b.d x) true)
    let r3:=cA r2.1.b (lv3 s.b.d x) r1.2 r2.2
    (⟨r3.1,(x,r3.2)::r2.1.known⟩,r3.2)
def eQ (op:Bool->Bool->Bool->Bool) (d:List Nd) (x:T3):Option (List Nd×Nat):=if(aS op 21 ⟨⟨d,false⟩,[]⟩ x).1.b.full=true then none else some ((aS op 21 ⟨⟨d,false⟩,[]⟩ x).1.b.d,(aS op 21 ⟨⟨d,false⟩,[]⟩ x).2)
def In3 (d:List Nd) (x:T3):Prop:=x.f<zN d/\x.g<zN d/\x.h<zN d
def Is3 (op:Bool->Bool->Bool->Bool) (d:List Nd) (x:T3) (i:Nat):Prop:=i<zN d/\lv3 d x<=lvA d i/\∀b,ev d b i=op (ev d b x.f) (ev d b x.g) (ev d b x.h)
structure Zh (op:Bool->Bool->Bool->Bool) (s:Ap3):Prop where
 dv:DV s.b.d
 kn:∀p∈s.known,In3 s.b.d p.1/\Is3 op s.b.d p.1 p.2
def In3.app {d a:List Nd} {x:T3} (h:In3 d x):In3 (d++a) x:=by unfold In3 at h⊢;rw[DI];omega
def gR {d a:List Nd} {x:T3} (h:In3 d x):lv3 (d++a) x=lv3 d x:=by unfold lv3 lvA;rw[ey h.1,ey h.2.1,ey h.2.2]
def Is3.app {op:Bool->Bool->Bool->Bool} {d j:List Nd} {x:T3} {i:Nat} (c:DV d) (a:DV (d++j)) (e:In3 d x) (h:Is3 op d x i):Is3 op (d++j) x i:=by
 obtain⟨f,g,k⟩:=h;refine⟨by rw[DI];omega, ?_,λb=> ?_⟩
 .rw[gR e];unfold lvA at g⊢;rw[ey f];exact g
 rw[ij c a _ f,ij c a _ e.1,ij c a _ e.2.1,ij c a _ e.2.2];exact k b
section
variable {d:List Nd}
def s7 (h:DV d) {f l:Nat} (a:f<zN d) (j:l<=lvA d f) (i:l<20) (q:Bool):cZ d f l q<zN d/\l<lvA d (cZ d f l q)/\∀b:Nat->Bool,b l=q->ev d b (cZ d f l q)=ev d b f:=by
 unfold cZ;split
 .rename_i hne;exact⟨a,by omega,λ_ _=>rfl⟩
 rename_i g;have g:lvA d f=l:=by omega
 have c:=(h.lvlt a).1 (by omega);have⟨k,m,n,_,o,p⟩:=h.pl f c a;cases q
 .refine⟨by simp only[FW,FN];omega,by simp only[FW,FN];omega,λb e=> ?_⟩;rw[gT h c a,g,e];simp
 refine⟨by simp only[if_true];omega,by simp only[if_true];omega,λb e=> ?_⟩;rw[gT h c a,g,e];simp
def j6 (h:DV d) {x:T3} (e:In3 d x) (a:lv3 d x<20) (q:Bool):In3 d (bL d x (lv3 d x) q)/\lv3 d x<lv3 d (bL d x (lv3 d x) q)/\∀b:Nat->Bool,b (lv3 d x)=q→ev d b (bL d x (lv3 d x) q).f=ev d b x.f/\ev d b (bL d x (lv3 d x) q).g=ev d b x.g/\ev d b (bL d x (lv3 d x) q).h=ev d b x.h:=by
 have k:lv3 d x<=lvA d x.f:=by unfold lv3;omega
 have l:lv3 d x<=lvA d x.g:=by unfold lv3;omega
 have m:lv3 d x<=lvA d x.h:=by unfold lv3;omega
 have⟨f,n,g⟩:=s7 h e.1 k a q;have⟨i,o,j⟩:=s7 h e.2.1 l a q;have⟨c1,c2,c3⟩:=s7 h e.2.2 m a q;refine⟨⟨f,i,c1⟩, ?_,λb c=>⟨g b c,j b c,c3 b c⟩⟩;show lv3 d x<min (min (lvA d (cZ d x.f (lv3 d x) q)) (lvA d (cZ d x.g (lv3 d x) q))) (lvA d (cZ d x.h (lv3 d x) q));omega
def pR (h:DV d) {x:T3} (a:In3 d x):lv3 d x<=20:=by have:=h.lvle a.1;unfold lv3;omega
end
theorem pX {l:List (T3×Nat)} {x:T3} {i:Nat} (h:jv l x=some i):(x,i)∈l:=by
 unfold jv at h;cases hq:l.find? λp=>decide (p.1=x) with
 |none=>rw[hq] at h;cases h
 |some p=>rw[hq] at h;simp only[ES,DN] at h;have a:=List.find?_some hq;have b:=List.mem_of_find?_eq_some hq;obtain⟨y,j⟩:=p;simp only[Ef] at a;subst a h;exact b
structure YT (op:Bool->Bool->Bool->Bool) (s s':Ap3) (x:T3) (i:Nat):Prop where
 ext:∃ns,s'.b.d=s.b.d++ns
 full:s.b.full=true->s'.b.full=true
 ok:s'.b.full=false->Zh op s'/\Is3 op s'.b.d x i
theorem mS (op:Bool->Bool->Bool->Bool):∀(k:Nat) (s:Ap3) (x:T3),(s.b.full=false->Zh op s/\In3 s.b.d x/\21<=k+lv3 s.b.d x)->YT op s (aS op k s x).1 x (aS op k s x).2
 |0,s,x,h=>by refine⟨⟨[],by simp[aS]⟩,λh=>h,λc=> ?_⟩;have w:s.b.full=false:=c;have⟨h1,h2,h3⟩:=h w;have:=pR h1.dv h2;omega
 |k+1,s,x,h=>by
  unfold aS;by_cases a:s.b.full=true
  .rw[DP a];exact⟨⟨[],by simp⟩,λh=>h,λc=>by rw[a] at c;cases c⟩
  rw[DK a];have⟨t,n,hk⟩:=h (by simpa using a);have d:=t.dv;by_cases B:lv3 s.b.d x=20
  .rw[DP B];refine⟨⟨[],by simp⟩,λh=>h,λc=>⟨t, ?_⟩⟩;have D:∀f,f<zN s.b.d->lvA s.b.d f=20->f=0\/f=1:=λf c N=>by have:=(d.lvlt c);omega
   have l1:=d.lvle n.1;have l2:=d.lvle n.2.1;have l3:=d.lvle n.2.2;have N:lvA s.b.d x.f=20/\lvA s.b.d x.g=20/\lvA s.b.d x.h=20:=by unfold lv3 at B;omega
   have e1:∀f,f=0\/f=1->∀b,ev s.b.d b f=(f==1):=λf c b=>by rcases c with rfl|rfl<;>rfl
   have g1:=e1 _ (D _ n.1 N.1);have g2:=e1 _ (D _ n.2.1 N.2.1);have g3:=e1 _ (D _ n.2.2 N.2.2);have ab:=d.two;cases hq:op (x.f==1) (x.g==1) (x.h==1)
   .refine⟨by show 0<zN s.b.d;omega,by show lv3 s.b.d x<=lvA s.b.d 0;rw[d.lv0];omega,λb=> ?_⟩;show ev s.b.d b 0=_;rw[g1,g2,g3,hq];rfl
   refine⟨by show 1<zN s.b.d;omega,by show lv3 s.b.d x<=lvA s.b.d 1;rw[d.lv1];omega,λb=> ?_⟩;show ev s.b.d b 1=_;rw[g1,g2,g3,hq];rfl
  rw[DK B];have o:lv3 s.b.d x<20:=by have:=pR d n;omega
  cases hkn:jv s.known x with
  |some i=>refine⟨⟨[],by simp⟩,λh=>h,λc=>⟨t, ?_⟩⟩;exact(t.kn _ (pX hkn)).2
  |none=>
   simp only;have⟨I,a2,a3⟩:=j6 d n o false;have L:=mS op k s (bL s.b.d x (lv3 s.b.d x) false) (λ_=>⟨t,I,by omega⟩);generalize aS op k s (bL s.b.d x (lv3 s.b.d x) false)=r1 at L⊢;have⟨E,e1⟩:=L.ext;have M:=mS op k r1.1 (bL r1.1.b.d x (lv3 s.b.d x) true) (λc=>by
    have⟨J,q2⟩:=L.ok c;have q:In3 r1.1.b.d x:=by rw[e1];exact n.app
    have r:lv3 r1.1.b.d x=lv3 s.b.d x:=by rw[e1];exact gR n
    have⟨y,S,T⟩:=j6 J.dv q (by rw[r];exact o) true;rw[r] at y S;exact⟨J,y,by omega⟩);generalize aS op k r1.1 (bL r1.1.b.d x (lv3 s.b.d x) true)=r2 at M⊢;have⟨F,A⟩:=M.ext;have j:r2.1.b.d=s.b.d++(E++F):=by rw[A,e1,Eg]
   by_cases m:r2.1.b.full=true
   .have X:∃Z,(cA r2.1.b (lv3 s.b.d x) r1.2 r2.2).1.d=r2.1.b.d++Z/\(cA r2.1.b (lv3 s.b.d x) r1.2 r2.2).1.full=true:=by
     unfold cA;split
     .exact⟨[],by simp,m⟩
     split
     .exact⟨[],by simp,m⟩
     split
     .exact⟨[],by simp,rfl⟩
     exact⟨_,rfl,m⟩
    obtain⟨Z,K,P⟩:=X;exact⟨⟨E++F++Z,by show(cA _ _ _ _).1.d=_;rw[K,j,Eg]⟩,λ_=>P,λc=>by have w:(cA r2.1.b (lv3 s.b.d x) r1.2 r2.2).1.full=false:=c;rw[P] at w;cases w⟩
   have m:r2.1.b.full=false:=by simpa using m
   have U:r1.1.b.full=false:=by
    cases hq:r1.1.b.full
    .rfl
    rw[M.full hq] at m;cases m
   have⟨J,q2⟩:=L.ok U;have⟨G,p2⟩:=M.ok m;have q:In3 r1.1.b.d x:=by rw[e1];exact n.app
   have r:lv3 r1.1.b.d x=lv3 s.b.d x:=by rw[e1];exact gR n
   have u:In3 r2.1.b.d x:=by rw[j];exact n.app
   have W:lv3 r2.1.b.d x=lv3 s.b.d x:=by rw[j];exact gR n
   have⟨y,S,T⟩:=j6 J.dv q (by rw[r];exact o) true;rw[r] at y S T;have R:In3 r1.1.b.d (bL s.b.d x (lv3 s.b.d x) false):=by rw[e1];exact I.app
   have H:Is3 op r2.1.b.d (bL s.b.d x (lv3 s.b.d x) false) r1.2:=by rw[A];exact Is3.app J.dv (by rw[<-A];exact G.dv) R q2
   have c1:lv3 s.b.d x<lvA r2.1.b.d r1.2:=by have:=H.2.1;rw[j,gR I,<-j] at this;omega
   have c2:lv3 s.b.d x<lvA r2.1.b.d r2.2:=by have:=p2.2.1;rw[A,gR y,<-A] at this;omega
   have Q:=sP (s:=r2.1.b) (l:=lv3 s.b.d x) (lo:=r1.2) (hi:=r2.2) G.dv o H.1 p2.1 c1 c2;generalize cA r2.1.b (lv3 s.b.d x) r1.2 r2.2=r3 at Q⊢;have⟨aa,v⟩:=Q.ext;refine⟨⟨E++F++aa,by show r3.1.d=_;rw[v,j,Eg]⟩,λhs=>absurd hs a,λc=> ?_⟩;have V:r3.1.full=false:=c;have⟨K,P,n3,n4⟩:=Q.ok V;have z:Is3 op r3.1.d x r3.2:=by
    refine⟨P, ?_,λb=> ?_⟩
    .rw[v,gR u,W];rw[<-v];exact n3
    rw[n4 b];have C:∀f,f<r2.1.b.d.length->ev r3.1.d b f=ev r2.1.b.d b f:=λf c=>by rw[v];exact ij G.dv (by rw[<-v];exact K) f c
    rw[C _ u.1,C _ u.2.1,C _ u.2.2];have e:∀f,f<zN s.b.d->ev r2.1.b.d b f=ev s.b.d b f:=λf c=>by rw[j];exact ij d (by rw[<-j];exact G.dv) f c
    have g:∀f,f<r1.1.b.d.length->ev r2.1.b.d b f=ev r1.1.b.d b f:=λf c=>by rw[A];exact ij J.dv (by rw[<-A];exact G.dv) f c
    cases hb:b (lv3 s.b.d x)
    .simp only[FW,FN];rw[H.2.2 b];have⟨t1,t2,t3⟩:=a3 b hb;rw[e _ I.1,e _ I.2.1,e _ I.2.2,t1,t2,t3,e _ n.1,e _ n.2.1,e _ n.2.2]
    simp only[if_true];rw[p2.2.2 b];have⟨t1,t2,t3⟩:=T b hb;rw[g _ y.1,g _ y.2.1,g _ y.2.2,t1,t2,t3,g _ q.1,g _ q.2.1,g _ q.2.2]
   refine⟨⟨K,λp Y=> ?_⟩,z⟩;rcases DS.1 Y with rfl|Y
   .exact⟨by show In3 r3.1.d x;rw[v];exact u.app,z⟩
   have⟨y1,y2⟩:=G.kn p Y;exact⟨by show In3 r3.1.d p.1;rw[v];exact y1.app,by show Is3 op r3.1.d p.1 p.2;rw[v];exact Is3.app G.dv (by rw[<-v];exact K) y1 y2⟩
def lM {op:Bool->Bool->Bool->Bool} {d c:List Nd} {x:T3} {i:Nat} (k:DV d) (g:In3 d x) (h:eQ op d x=some (c,i)):(∃ns,c=d++ns)/\DV c/\i<zN c/\lv3 d x<=lvA c i/\∀b,ev c b i=op (ev d b x.f) (ev d b x.g) (ev d b x.h):=by
 unfold eQ at h;have R:=mS op 21 ⟨⟨d,false⟩,[]⟩ x (λ_=>⟨⟨k,λp n=>by cases n⟩,g,by omega⟩);generalize aS op 21 ⟨⟨d,false⟩,[]⟩ x=r at R h;split at h
 .cases h
 rename_i j;simp only[DN,FH] at h;obtain⟨rfl,rfl⟩:=h;have⟨ns,e⟩:=R.ext;have⟨l,o,m,q⟩:=R.ok (by simpa using j);have e:r.1.b.d=d++ns:=e;refine⟨⟨ns,e⟩,l.dv,o,by rw[e,gR g] at m;rw[e];exact m,λb=> ?_⟩;rw[q b];have a:∀f,f<zN d->ev r.1.b.d b f=ev d b f:=λf j=>by rw[e];exact ij k (by rw[<-e];exact l.dv) f j
 rw[a _ g.1,a _ g.2.1,a _ g.2.2]
def blL:Nat->List (List Bool)
 |0=>[[]]
 |m+1=>(blL m).map (false:: ·)++(blL m).map (true:: ·)
def mN (m:Nat):blL (m+1)=(blL m).map (false:: ·)++(blL m).map (true:: ·):=rfl
theorem tr:∀(m:Nat),∀l∈blL m,zN l=m
 |0,l,h=>by simp[blL] at h;rw[h];rfl
 |m+1,l,h=>by simp only[blL,EK,EJ] at h;rcases h with⟨a,ha,rfl⟩|⟨a,ha,rfl⟩<;>rw[DF,tr m a ha]
theorem qH:∀(m:Nat),(blL m).length=2^m
 |0=>rfl
 |m+1=>by unfold blL;rw[DI,DT,DT,qH m,FB];omega
def fj (l:List Bool):Nat:=l.foldl (λn b=>2*n+bN b) 0
theorem tk:∀(l:List Bool) (n:Nat),l.foldl (λn b=>2*n+bN b) n=n*2^zN l+fj l
 |[],n=>by simp[fj]
 |b::l,n=>by unfold fj;rw[EH,EH,tk l (2*n+bN b),tk l (2*0+bN b),DF,FB];generalize 2^zN l=q;generalize fj l=r;rw[Nat.add_mul,show n*(q*2)=2*n*q by rw[FG q 2,<-Nat.mul_assoc,FG n 2]];simp only[Nat.mul_zero,DY];omega
def rZ (b:Bool) (l:List Bool):fj (b::l)=bN b*2^zN l+fj l:=by unfold fj;rw[EH,tk];simp[fj]
theorem pP:∀(m:Nat),(blL m).map fj=List.range (2^m)
 |0=>rfl
 |m+1=>by
  unfold blL;rw[Fl,Fe,Fe];have e1:(blL m).map (fj∘(false:: ·))=List.range (2^m):=by rw[<-pP m];refine Fc λl _=> ?_;show fj (false::l)=_;rw[rZ];simp[bN]
  have a:(blL m).map (fj∘(true:: ·))=(List.range (2^m)).map (2^m+ ·):=by rw[<-pP m,Fe];refine Fc λl b=> ?_;show fj (true::l)=2^m+fj l;rw[rZ,tr m l b];simp[bN]
  rw[e1,a,FB,Nat.mul_two,List.range_add]
theorem Bj:∀(a m:Nat),blL (a+m)=(blL a).flatMap λx=>(blL m).map (x++ ·)
 |0,m=>by simp[blL]
 |a+1,m=>by rw[show a+1+m=(a+m)+1 by omega,mN,mN,Bj a m,List.flatMap_append];simp only[List.map_flatMap,List.flatMap_map,Fe];rfl
structure Wd where
 w:Nat
 fixed:Option Nat
def fa:List Wd->Nat
 |[]=>0
 |v::vs=>(if v.fixed=none then v.w else 0)+fa vs
def aX (v:Wd):List Nat:=match v.fixed with
 |some x=>[x]
 |none=>List.range (2^v.w)
def bU:List Wd->List (List Nat)
 |[]=>[[]]
 |v::vs=>(aX v).flatMap λx=>(bU vs).map (x:: ·)
def lO:List Wd->List Bool->List Nat
 |[],_=>[]
 |v::vs,l=>match v.fixed with
  |some x=>x::lO vs l
  |none=>fj (l.take v.w)::lO vs (l.drop v.w)
def Di {v:Wd} {x:Nat} (h:v.fixed=some x) (vs:List Wd) (l:List Bool):lO (v::vs) l=x::lO vs l:=by show(match v.fixed with |some x=>x::lO vs l|none=>fj (l.take v.w)::lO vs (l.drop v.w))=_;rw[h]
def Dj {v:Wd} (h:v.fixed=none) (vs:List Wd) (l:List Bool):lO (v::vs) l=fj (l.take v.w)::lO vs (l.drop v.w):=by show(match v.fixed with |some x=>x::lO vs l|none=>fj (l.take v.w)::lO vs (l.drop v.w))=_;rw[h]
theorem AV:∀(vs:List Wd),(blL (fa vs)).map (lO vs)=bU vs
 |[]=>rfl
 |v::vs=>by
  have ih:=AV vs;unfold bU fa aX;cases hf:v.fixed with
  |some x=>simp only[reduceCtorEq,FN,DY,EM,List.flatMap_nil,EN];rw[<-ih,Fe];refine Fc λl _=> ?_;show lO (v::vs) l=x::lO vs l;exact Di hf vs l
  |none=>simp only[if_true];rw[Bj,List.map_flatMap,<-pP v.w,List.flatMap_map];refine flatMap_congr' λa c=> ?_;rw[<-ih,Fe,Fe];refine Fc λl _=> ?_;show lO (v::vs) (a++l)=fj a::lO vs l;have e:=tr _ a c;rw[Dj hf,<-e,List.take_left,List.drop_left] where
 flatMap_congr' {α β:Type} {l:List α} {f g:α->List β} (h:∀a∈l,f a=g a):l.flatMap f=l.flatMap g:=by
  induction l with
  |nil=>rfl
  |cons a l ih=>rw[EM,EM,h a (by simp),ih (λb d=>h b (Ea _ d))]
def Lim (d:List Nd) (n:Nat):Prop:=∀i,lvA d i<20->lvA d i<n
theorem Yj (n:Nat):Lim cX n:=λi h=>by
 have:lvA cX i=20:=by
  unfold lvA ndA cX;match i with
  |0=>rfl
  |1=>rfl
  |i+2=>rfl
 omega
def Qi {d:List Nd} {n:Nat} {x:Nd} (h:Lim d n) (c:x.lv<20->x.lv<n):Lim (d++[x]) n:=λi hi=>by
 by_cases a:i<zN d
 .unfold lvA at hi⊢;rw[ey a] at hi⊢;exact h i hi
 by_cases b:i=zN d
 .subst b;unfold lvA at hi⊢;rw[pM] at hi⊢;exact c hi
 have:ndA (d++[x]) i=nd0:=by unfold ndA;rw[DC,EF (by rw[DI,Ej];omega)];rfl
 unfold lvA at hi;rw[this] at hi;exact absurd hi (by decide)
def ut {s:Bd} {l lo hi n:Nat} (h:Lim s.d n) (a:l<20->l<n):Lim (cA s l lo hi).1.d n:=by
 unfold cA;split
 .exact h
 split
 .exact h
 split
 .exact h
 exact Qi h a
theorem nX (op:Bool->Bool->Bool->Bool) {n:Nat}:∀(k:Nat) (s:Ap3) (x:T3),Lim s.b.d n->Lim (aS op k s x).1.b.d n
 |0,s,x,h=>h
 |k+1,s,x,h=>by
  unfold aS;split
  .exact h
  split
  .exact h
  split
  .exact h
  have b:=nX op k s (bL s.b.d x (lv3 s.b.d x) false) h;have c:=nX op k (aS op k s (bL s.b.d x (lv3 s.b.d x) false)).1 (bL (aS op k s (bL s.b.d x (lv3 s.b.d x) false)).1.b.d x (lv3 s.b.d x) true) b;refine ut c λa=> ?_;have e:lv3 s.b.d x=lvA s.b.d x.f\/lv3 s.b.d x=lvA s.b.d x.g\/lv3 s.b.d x=lvA s.b.d x.h:=by unfold lv3;omega
  rcases e with e|e|e<;> · rw[e] at a⊢;exact h _ a
def Up {op:Bool->Bool->Bool->Bool} {d b:List Nd} {x:T3} {i n:Nat} (h:Lim d n) (a:eQ op d x=some (b,i)):Lim b n:=by
 unfold eQ at a;split at a
 .cases a
 simp only[DN,FH] at a;rw[<-a.1];exact nX op 21 _ x h
def evL (d:List Nd) (l0:Nat) (l:List Bool) (f:Nat):Bool:=ev d (λk=>zG l (k-l0) false) f
def ni (d:List Nd) (l0 m f:Nat):List (List Bool):=(blL m).filter λl=>evL d l0 l f
section
variable {d:List Nd} {l0 f:Nat}
def kd (h:DV d) (a:f<zN d) (b:l0<lvA d f) (x:Bool) (l:List Bool):evL d l0 (x::l) f=evL d (l0+1) l f:=
 Uu h f a λk hk _=>by rw[show k-l0=(k-(l0+1))+1 by omega];rfl
def qt (h:DV d) (a:2<=f) (b:f<zN d) (c:l0=lvA d f) (x:Bool) (l:List Bool):evL d l0 (x::l) f=if x=true then evL d (l0+1) l (ndA d f).hi else evL d (l0+1) l (ndA d f).lo:=by have⟨e,g,i,_,j,k⟩:=h.pl f a b;rw[<-kd h (show(ndA d f).hi<zN d by omega) (by omega) x l,<-kd h (show(ndA d f).lo<zN d by omega) (by omega) x l];unfold evL;rw[gT h a b,<-c,EB];rfl
def BS (h:DV d) (a:f<zN d) (b:l0<lvA d f) (m:Nat):ni d l0 (m+1) f=(ni d (l0+1) m f).map (false:: ·)++(ni d (l0+1) m f).map (true:: ·):=by
 unfold ni;rw[mN,List.filter_append,Fw,Fw];congr 2
 .exact Ff λl _=>kd h a b _ l
 exact Ff λl _=>kd h a b _ l
def BU (h:DV d) (a:2<=f) (b:f<zN d) (c:l0=lvA d f) (m:Nat):ni d l0 (m+1) f=(ni d (l0+1) m (ndA d f).lo).map (false:: ·)++(ni d (l0+1) m (ndA d f).hi).map (true:: ·):=by
 unfold ni;rw[mN,List.filter_append,Fw,Fw];congr 2
 .exact Ff λl _=>(qt h a b c false l).trans (by simp)
 exact Ff λl _=>(qt h a b c true l).trans (by simp)
end
def bT (d:List Nd) (n f:Nat):Nat:=min (lvA d f) n
def ir (d:List Nd) (n:Nat):Nat->Nat->Nat
 |0,f=>bN (f==1)
 |k+1,f=>if f<=1 then bN (f==1) else ir d n k (ndA d f).lo*2^(bT d n (ndA d f).lo-lvA d f-1)+ir d n k (ndA d f).hi*2^(bT d n (ndA d f).hi-lvA d f-1)
def cQ (d:List Nd) (n f:Nat):Nat:=ir d n f f
def j7 (d:List Nd) (n f l:Nat):Nat:=cQ d n f*2^(bT d n f-l)
def sG {d:List Nd} {l0:Nat} {f:Nat} (b:f<=1):∀(m:Nat),(ni d l0 m f).length=bN (f==1)*2^m:=λm=>by
 have a:∀l,evL d l0 l f=(f==1):=λl=>by
  have:f=0\/f=1:=by omega
  rcases this with rfl|rfl<;>rfl
 unfold ni;rw[Ff (q:=λ_=>f==1) (λl _=>a l)];cases hq:(f==1)
 .simp[bN]
 rw[List.filter_eq_self.2 (λ_ _=>rfl),qH];simp[bN]
theorem FZ {d:List Nd} {n:Nat} (h:DV d) (v:n<=20) (l:Lim d n):∀(k f m l0:Nat),f<zN d->f<=k->l0<=bT d n f->n=l0+m->(ni d l0 m f).length=ir d n k f*2^(bT d n f-l0):=by
 intro k;induction k with
 |zero=>
  intro f m l0 a hk g hm;obtain rfl:f=0:=by omega
  rw[sG (by omega)];have:bT d n 0=n:=by unfold bT;rw[h.lv0];omega
  rw[this,show n-l0=m by omega];rfl
 |succ k ih=>
  intro f m;induction m with
  |zero=>
   intro l0 a hk g hm;by_cases b:f<=1
   .rw[sG b];simp only[ir,DP b];have:bT d n f<=n:=by unfold bT;omega
    rw[show bT d n f-l0=0 by omega]
   have:=l f (h.pl f (by omega) a).1;unfold bT at g;omega
  |succ m ihm=>
   intro l0 a hk g hm;by_cases b:f<=1
   .rw[sG b];simp only[ir,DP b];have e:bT d n f=n:=by
     unfold bT;have:f=0\/f=1:=by omega
     rcases this with rfl|rfl
     .rw[h.lv0];omega
     rw[h.lv1];omega
    rw[e,show n-l0=m+1 by omega]
   have j:2<=f:=by omega
   have⟨u,w,x,_,y,z⟩:=h.pl f j a;have s:=l f u;have c:bT d n f=lvA d f:=by unfold bT;omega
   by_cases i:l0<lvA d f
   .rw[BS h a i,DI,DT,DT,ihm (l0+1) a hk (by omega) (by omega)];rw[show bT d n f-l0=(bT d n f-(l0+1))+1 by omega,FB];generalize ir d n (k+1) f=q;generalize 2^(bT d n f-(l0+1))=r;rw[<-Nat.mul_assoc];omega
   have o:l0=lvA d f:=by omega
   rw[BU h j a o,DI,DT,DT];have t:=h.lvle (show(ndA d f).lo<zN d by omega);have p:=h.lvle (show(ndA d f).hi<zN d by omega);rw[ih (ndA d f).lo m (l0+1) (by omega) (by omega) (by unfold bT;omega) (by omega),ih (ndA d f).hi m (l0+1) (by omega) (by omega) (by unfold bT;omega) (by omega)];simp only[ir,DK b];rw[c,o,EB,Nat.pow_zero,Nat.mul_one,Nat.sub_sub,Nat.sub_sub]
def xw {d:List Nd} {n f m l0:Nat} (h:DV d) (e:n<=20) (a:Lim d n) (b:f<zN d) (c:l0<=bT d n f) (hm:n=l0+m):(ni d l0 m f).length=j7 d n f l0:=FZ h e a f f m l0 b (DE _) c hm
abbrev bi:=Nat->Bool
def Bm (α:Type):=List Nd->Option (α×List Nd)
def Bm.ret {α:Type} (a:α):Bm α:=λd=>some (a,d)
def Bm.bind {α β:Type} (m:Bm α) (f:α->Bm β):Bm β:=λd=>match m d with
 |none=>none
 |some (a,d')=>f a d'
def opB (op:Bool->Bool->Bool->Bool) (x:T3):Bm Nat:=λd=>(eQ op d x).map λr=>(r.2,r.1)
def gI (f:Nat):Bm Nat:=opB (λf _ _=> !f) ⟨f,f,f⟩
def et (f g:Nat):Bm Nat:=opB (λf g _=>f&&g) ⟨f,g,g⟩
def orB (f g:Nat):Bm Nat:=opB (λf g _=>f||g) ⟨f,g,g⟩
def iB (f g:Nat):Bm Nat:=opB (λf g _=>f !=g) ⟨f,g,g⟩
def fB (f g h:Nat):Bm Nat:=opB (λf g h=>f&&g|| !f&&h) ⟨f,g,h⟩
def qJ (l:Nat):Bm Nat:=λd=>if(cA ⟨d,false⟩ l 0 1).1.full=true then none else some ((cA ⟨d,false⟩ l 0 1).2,(cA ⟨d,false⟩ l 0 1).1.d)
structure Gd (n:Nat) (d:List Nd):Prop where
 dv:DV d
 lim:Lim d n
def Ext (d a:List Nd):Prop:=∃b,a=d++b
def Ext.refl (d:List Nd):Ext d d:=⟨[],by simp⟩
def Ext.trans {d c d'':List Nd} (h:Ext d c) (e:Ext c d''):Ext d d'':=by obtain⟨a,rfl⟩:=h;obtain⟨b,rfl⟩:=e;exact⟨a++b,by rw[Eg]⟩
structure Fn (d:List Nd) (f:Nat) (φ:bi->Bool):Prop where
 lt:f<zN d
 val:∀b,ev d b f=φ b
def Fn.ext {d a:List Nd} {f:Nat} {φ:bi->Bool} (h:Fn d f φ) (e:DV d) (c:DV a) (g:Ext d a):Fn a f φ:=by obtain⟨i,rfl⟩:=g;exact⟨by rw[DI];have:=h.lt;omega,λb=>by rw[ij e c f h.lt,h.val]⟩
def Fn.congr {d:List Nd} {f:Nat} {φ ψ:bi->Bool} (h:Fn d f φ) (a:∀b,φ b=ψ b):Fn d f ψ:=⟨h.lt,λb=>(h.val b).trans (a b)⟩
def fn0 {d:List Nd} (h:DV d):Fn d 0 λ_=>false:=⟨by have:=h.two;omega,λb=>rfl⟩
def fn1 {d:List Nd} (h:DV d):Fn d 1 λ_=>true:=⟨by have:=h.two;omega,λb=>rfl⟩
def Tr {α:Type} (n:Nat) (d:List Nd) (m:Bm α) (Q:List Nd->α->Prop):Prop:=∀a b,m d=some (a,b)->Ext d b/\Gd n b/\Q b a
section
variable {α β:Type} {n:Nat} {d:List Nd}
def Tr.ret {a:α} {Q:List Nd->α->Prop} (b:Gd n d) (h:Q d a):Tr n d (Bm.ret a) Q:=λc f e=>by
 unfold Bm.ret at e;simp only[DN,FH] at e;obtain⟨rfl,rfl⟩:=e;exact⟨Ext.refl _,b,h⟩
theorem Tr.bind {m:Bm α} {f:α->Bm β} {Q:List Nd->α->Prop} {R:List Nd->β->Prop} (h:Tr n d m Q) (q:∀a c,Ext d c->Gd n c->Q c a->Tr n c (f a) R):Tr n d (m.bind f) R:=λb g e=>by
 unfold Bm.bind at e;cases hm:m d with
 |none=>rw[hm] at e;cases e
 |some r=>obtain⟨a,c⟩:=r;rw[hm] at e;have⟨i,o,p⟩:=h a c hm;have⟨j,k,l⟩:=q a c i o p b g e;exact⟨i.trans j,k,l⟩
def Tr.mono {m:Bm α} {Q R:List Nd->α->Prop} (h:Tr n d m Q) (hQ:∀a b,Ext d b->Gd n b->Q b a->R b a):Tr n d m R:=λa b e=>by
 have⟨c,f,g⟩:=h a b e;exact⟨c,f,hQ a b c f g⟩
theorem uo {op:Bool->Bool->Bool->Bool} {f g h:Nat} {φ ψ χ:bi->Bool} (l:Gd n d) (c:Fn d f φ) (j:Fn d g ψ) (k:Fn d h χ):Tr n d (opB op ⟨f,g,h⟩) λa i=>Fn a i λb=>op (φ b) (ψ b) (χ b):=λi a e=>by
 unfold opB at e;cases hx:eQ op d ⟨f,g,h⟩ with
 |none=>rw[hx] at e;cases e
 |some r=>obtain⟨s,t⟩:=r;rw[hx] at e;simp only[ES,DN,FH] at e;obtain⟨rfl,rfl⟩:=e;have⟨m,o,p,_,q⟩:=lM l.dv ⟨c.lt,j.lt,k.lt⟩ hx;exact⟨m,⟨o,Up l.lim hx⟩,p,λb=>by rw[q b,c.val,j.val,k.val]⟩
def iO {f:Nat} {φ:bi->Bool} (c:Gd n d) (h:Fn d f φ):Tr n d (gI f) λa i=>Fn a i λb=> !(φ b):=uo c h h h
def it {f g:Nat} {φ ψ:bi->Bool} (e:Gd n d) (h:Fn d f φ) (a:Fn d g ψ):Tr n d (et f g) λc i=>Fn c i λb=>φ b&&ψ b:=uo e h a a
def ot {f g:Nat} {φ ψ:bi->Bool} (e:Gd n d) (h:Fn d f φ) (a:Fn d g ψ):Tr n d (orB f g) λc i=>Fn c i λb=>φ b||ψ b:=uo e h a a
def pd {f g:Nat} {φ ψ:bi->Bool} (e:Gd n d) (h:Fn d f φ) (a:Fn d g ψ):Tr n d (iB f g) λc i=>Fn c i λb=>φ b !=ψ b:=uo e h a a
def Do {f g h:Nat} {φ ψ χ:bi->Bool} (k:Gd n d) (c:Fn d f φ) (e:Fn d g ψ) (j:Fn d h χ):Tr n d (fB f g h) λa i=>Fn a i λb=>if φ b=true then ψ b else χ b:=(uo k c e j).mono λi a _ _ q=>q.congr λb=>by cases φ b<;>simp
def W8 {l:Nat} (a:Gd n d) (k:l<n) (t:n<=20):Tr n d (qJ l) λf i=>Fn f i λb=>b l:=λi f e=>by
 unfold qJ at e;have o:=a.dv.lv0;have p:=a.dv.lv1;have q:=a.dv.two;have R:=sP (s:=⟨d,false⟩) (l:=l) (lo:=0) (hi:=1) a.dv (by omega) (by show 0<zN d;omega) (by show 1<zN d;omega) (by show l<lvA d 0;omega) (by show l<lvA d 1;omega);have c:=ut (s:=⟨d,false⟩) (l:=l) (lo:=0) (hi:=1) (n:=n) a.lim (λ_=>k);generalize cA ⟨d,false⟩ l 0 1=r at R c e;split at e
 .cases e
 rename_i hf;simp only[DN,FH] at e;obtain⟨rfl,rfl⟩:=e;have⟨g,h,m,j⟩:=R.ok (by simpa using hf);refine⟨R.ext,⟨g,c⟩,h,λb=> ?_⟩;rw[j b];cases b l<;>rfl
end
abbrev Fs:=List (bi->Bool)
def Wn (d:List Nd) (w:List Nat) (a:Fs):Prop:=zN w=zN a/\∀k,k<zN w->Fn d (zG w k 0) (zG a k λ_=>false)
def Wn.nil (d:List Nd):Wn d [] []:=⟨rfl,λk hk=>absurd hk (by simp)⟩
theorem Wn.cons {d:List Nd} {f:Nat} {w:List Nat} {φ:bi->Bool} {a:Fs} (h:Fn d f φ) (b:Wn d w a):Wn d (f::w) (φ::a):=by
 refine⟨by rw[DF,DF,b.1],λk hk=> ?_⟩;cases k with
 |zero=>exact h
 |succ k=>exact b.2 k (by simp at hk;omega)
def Wn.head {d:List Nd} {f:Nat} {w:List Nat} {φ:bi->Bool} {φs:Fs} (h:Wn d (f::w) (φ::φs)):Fn d f φ/\Wn d w φs:=⟨h.2 0 (by simp),⟨by have:=h.1;simp at this;exact this,λk hk=>h.2 (k+1) (by simp;omega)⟩⟩
def Wn.ext {d a:List Nd} {w:List Nat} {φs:Fs} (h:Wn d w φs) (c:DV d) (b:DV a) (e:Ext d a):Wn a w φs:=⟨h.1,λk hk=>(h.2 k hk).ext c b e⟩
def nC:List Bool->Nat
 |[]=>0
 |b::l=>bN b+2*nC l
def wvl (a:Fs) (b:bi):Nat:=nC (a.map (· b))
def eJ (φ:bi->Bool) (a:Fs) (b:bi):wvl (φ::a) b=bN (φ b)+2*wvl a b:=rfl
theorem sS:∀(l:List Bool),nC l<2^zN l
 |[]=>by simp[nC]
 |b::l=>by have:=sS l;rw[DF,FB];unfold nC bN;split<;>omega
def lu (φs:Fs) (b:bi):wvl φs b<2^zN φs:=by have:=sS (φs.map (· b));rwa [DT] at this
def r9 (b:Bool):bN b<2:=by unfold bN;split<;>omega
theorem uE:∀(l:List Bool) (i:Nat),(nC l).testBit i=zG l i false
 |[],i=>by simp[nC]
 |b::l,0=>by have:=sS l;show(bN b+2*nC l).testBit 0=b;rw[Nat.testBit_zero];cases b<;>simp[bN,Nat.add_mod]
 |b::l,i+1=>by have ih:=uE l i;show(bN b+2*nC l).testBit (i+1)=zG l i false;rw[Nat.testBit_succ,show(bN b+2*nC l)/2=nC l by have:=r9 b;omega,ih]
def bH:List Nat->Nat->Bm Nat
 |[],t=>Bm.ret t
 |f::r,t=>(orB t f).bind λa=>bH r a
theorem tH {n:Nat}:∀(w:List Nat) (a:Fs) {d:List Nd} {t:Nat} {τ:bi->Bool},Gd n d->Wn d w a->Fn d t τ->Tr n d (bH w t) λe i=>Fn e i λb=>τ b||decide (wvl a b≠0)
 |[],[],d,t,τ,hg,hw,ht=>Tr.ret hg (ht.congr λb=>by simp[wvl,nC])
 |[],φ::a,d,t,τ,hg,hw,ht=>by have:=hw.1;simp at this
 |f::w,[],d,t,τ,hg,hw,ht=>by have:=hw.1;simp at this
 |f::w,φ::a,d,t,τ,hg,hw,ht=>by have⟨j,k⟩:=hw.head;refine(ot hg ht j).bind λm e l c h=> ?_;refine(tH w a c (k.ext hg.dv c.dv l) h).mono λi g _ _ q=>q.congr λb=> ?_;rw[eJ];cases τ b<;>cases hφ:φ b<;>simp[bN]<;>omega
def fS:List Nat->List Nat->Nat->Bm (List Nat)
 |x::xs,y::ys,c=>(iB x y).bind λa=>(iB a c).bind λo=>
  if xs=[] then Bm.ret [o]
  else(et x y).bind λg=>(et a c).bind λh=>(orB g h).bind λb=>(fS xs ys b).bind λr=>Bm.ret (o::r)
 |_,_,_=>Bm.ret []
def TK {a b M:Nat} (g:a<2) (c:0<M):(a+2*b)%(M*2)=a+2*(b%M):=by
 have d:=Nat.div_add_mod b M;have f:=FQ b c;have e:a+2*b=(a+2*(b%M))+(M*2)*(b/M):=by
  have:(M*2)*(b/M)=2*(M*(b/M)):=by rw[FG M 2,Nat.mul_assoc]
  omega
 rw[e,Nat.add_mul_mod_self_left,E9 (by omega)]
def Sw (d:List Nd) (w:List Nat) (len:Nat) (ν:bi->Nat):Prop:=∃a:Fs,Wn d w a/\zN a=len/\∀b,wvl a b=ν b
def Sw.ext {d a:List Nd} {w:List Nat} {len:Nat} {ν:bi->Nat} (h:Sw d w len ν) (i:DV d) (b:DV a) (j:Ext d a):Sw a w len ν:=by obtain⟨c,e,f,g⟩:=h;exact⟨c,e.ext i b j,f,g⟩
def Sw.congr {d:List Nd} {w:List Nat} {len:Nat} {ν μ:bi->Nat} (h:Sw d w len ν) (g:∀b,ν b=μ b):Sw d w len μ:=by obtain⟨a,c,e,f⟩:=h;exact⟨a,c,e,λb=>(f b).trans (g b)⟩
def Sw.lt {d:List Nd} {w:List Nat} {len:Nat} {ν:bi->Nat} (h:Sw d w len ν) (b:bi):ν b<2^len:=by obtain⟨a,f,c,e⟩:=h;rw[<-e,<-c];exact lu a b
def Sw.of {d:List Nd} {w:List Nat} {a:Fs} (h:Wn d w a):Sw d w (zN a) (wvl a):=⟨a,h,rfl,λ_=>rfl⟩
theorem OW {n:Nat}:∀(xs ys:List Nat) (φs ψs:Fs) {d:List Nd} {c:Nat} {κ:bi->Bool},Gd n d->Wn d xs φs->Wn d ys ψs->zN φs=zN ψs->Fn d c κ→
  Tr n d (fS xs ys c) λQ w=>Sw Q w (zN φs) λb=>(wvl φs b+wvl ψs b+bN (κ b))%2^zN φs
 |[],ys,[],ψs,d,c,κ,hg,hx,hy,hl,hc=>by refine Tr.ret hg ⟨[],Wn.nil d,rfl,λb=> ?_⟩;show 0=_%2^0;rw[Nat.pow_zero,Nat.mod_one]
 |[],ys,φ::φs,ψs,d,c,κ,hg,hx,hy,hl,hc=>by have:=hx.1;simp at this
 |x::xs,ys,[],ψs,d,c,κ,hg,hx,hy,hl,hc=>by have:=hx.1;simp at this
 |x::xs,ys,φ::φs,[],d,c,κ,hg,hx,hy,hl,hc=>by simp at hl
 |x::xs,[],φ::φs,ψ::ψs,d,c,κ,hg,hx,hy,hl,hc=>by have:=hy.1;simp at this
 |x::xs,y::ys,φ::φs,ψ::ψs,d,c,κ,hg,hx,hy,hl,hc=>by
  have⟨K,L⟩:=hx.head;have⟨N,W⟩:=hy.head;have e:zN φs=zN ψs:=by simpa using hl
  refine(pd hg K N).bind λH d1 e1 l I=> ?_;refine(pd l I (hc.ext hg.dv l.dv e1)).bind λo d2 C a J=> ?_;have i:=e1.trans C;split
  .rename_i hnil;subst hnil;have v:φs=[]:=Ec (by have:=L.1;simpa using this.symm);subst v;have z:ψs=[]:=Ec (by simpa using e.symm);subst z;refine Tr.ret a ⟨_,Wn.cons J (Wn.nil _),rfl,λb=> ?_⟩;show bN ((φ b !=ψ b) !=κ b)+2*0=(bN (φ b)+2*0+(bN (ψ b)+2*0)+bN (κ b))%2^1;generalize φ b=p;generalize ψ b=q;generalize κ b=r;cases p<;>cases q<;>cases r<;>rfl
  refine(it a (K.ext hg.dv a.dv i) (N.ext hg.dv a.dv i)).bind λg d3 j f t=> ?_;have A:=i.trans j;refine(it f (I.ext l.dv f.dv (C.trans j)) (hc.ext hg.dv f.dv A)).bind λh d4 k E u=> ?_;have P:=A.trans k;refine(ot E (t.ext f.dv E.dv k) u).bind λc' d5 D m s=> ?_;have B:=P.trans D;refine(OW xs ys φs ψs m (L.ext hg.dv m.dv B) (W.ext hg.dv m.dv B) e s).bind λr d6 R F S=> ?_;obtain⟨Z,T,U,V⟩:=S;refine Tr.ret F ⟨_,Wn.cons (J.ext a.dv F.dv (j.trans (k.trans (D.trans R)))) T,by rw[DF,DF,U],λb=> ?_⟩;rw[eJ,V b];show bN ((φ b !=ψ b) !=κ b)+2*((wvl φs b+wvl ψs b+bN ((φ b&&ψ b)||((φ b !=ψ b)&&κ b)))%2^zN φs)=(bN (φ b)+2*wvl φs b+(bN (ψ b)+2*wvl ψs b)+bN (κ b))%(2^zN φs*2);have G:0<2^zN φs:=Fq (by simp);generalize 2^zN φs=M at G;generalize wvl φs b=X;generalize wvl ψs b=Y;generalize φ b=p;generalize ψ b=q;generalize κ b=r;rw[<-TK (r9 _) G];congr 1;cases p<;>cases q<;>cases r<;>simp[bN]<;>omega
section
variable {n:Nat} {d:List Nd}
def jh:List Nat->Bm (List Nat)
 |[]=>Bm.ret []
 |f::r=>(gI f).bind λa=>(jh r).bind λb=>Bm.ret (a::b)
theorem Bc:∀(w:List Nat) (a:Fs) {d:List Nd},Gd n d->Wn d w a->Tr n d (jh w) λg w'=>Sw g w' (zN a) λb=>2^zN a-1-wvl a b
 |[],[],d,hg,hw=>Tr.ret hg ⟨[],Wn.nil d,rfl,λb=>rfl⟩
 |[],φ::a,d,hg,hw=>by have:=hw.1;simp at this
 |f::w,[],d,hg,hw=>by have:=hw.1;simp at this
 |f::w,φ::a,d,hg,hw=>by have⟨i,j⟩:=hw.head;refine(iO hg i).bind λt s e1 c k=> ?_;refine(Bc w a c (j.ext hg.dv c.dv e1)).bind λu d2 h e l=> ?_;obtain⟨r,m,o,q⟩:=l;refine Tr.ret e ⟨_,Wn.cons (k.ext c.dv e.dv h) m,by rw[DF,DF,o],λb=> ?_⟩;rw[eJ,q b];show bN (!(φ b))+2*(2^zN a-1-wvl a b)=2^zN a*2-1-(bN (φ b)+2*wvl a b);have:=lu a b;generalize φ b=p;cases p<;>simp[bN]<;>omega
def eqB:List Nat->List Nat->Nat->Bm Nat
 |x::xs,y::ys,t=>(iB x y).bind λu=>(gI u).bind λv=>(et t v).bind λa=>eqB xs ys a
 |_,_,t=>Bm.ret t
def WS (p q:Bool) (X Y:Nat):decide (bN p+2*X=bN q+2*Y)=((p==q)&&decide (X=Y)):=by cases p<;>cases q<;>simp[bN]<;>omega
theorem Vg:∀(xs ys:List Nat) (c a:Fs) {d:List Nd} {t:Nat} {τ:bi->Bool},Gd n d->Wn d xs c->Wn d ys a->zN c=zN a->Fn d t τ→
  Tr n d (eqB xs ys t) λk i=>Fn k i λb=>τ b&&decide (wvl c b=wvl a b)
 |[],[],[],[],d,t,τ,hg,hx,hy,hl,ht=>Tr.ret hg (ht.congr λb=>by simp)
 |[],y::ys,[],[],d,t,τ,hg,hx,hy,hl,ht=>by have:=hy.1;simp at this
 |[],ys,φ::c,a,d,t,τ,hg,hx,hy,hl,ht=>by have:=hx.1;simp at this
 |[],ys,[],ψ::a,d,t,τ,hg,hx,hy,hl,ht=>by simp at hl
 |x::xs,ys,[],a,d,t,τ,hg,hx,hy,hl,ht=>by have:=hx.1;simp at this
 |x::xs,ys,φ::c,[],d,t,τ,hg,hx,hy,hl,ht=>by simp at hl
 |x::xs,[],φ::c,ψ::a,d,t,τ,hg,hx,hy,hl,ht=>by have:=hy.1;simp at this
 |x::xs,y::ys,φ::c,ψ::a,d,t,τ,hg,hx,hy,hl,ht=>by have⟨A,B⟩:=hx.head;have⟨C,D⟩:=hy.head;refine(pd hg A C).bind λu E e1 s w=> ?_;refine(iO s w).bind λv d2 l j z=> ?_;have g:=e1.trans l;refine(it j (ht.ext hg.dv j.dv g) z).bind λJ F o e f=> ?_;have h:=g.trans o;refine(Vg xs ys c a e (B.ext hg.dv e.dv h) (D.ext hg.dv e.dv h) (by simpa using hl) f).mono λi G H I q=>q.congr λb=> ?_;rw[eJ,eJ];rw[WS];generalize decide (wvl c b=wvl a b)=m;generalize φ b=p;generalize ψ b=q;generalize τ b=r;cases p<;>cases q<;>cases r<;>cases m<;>rfl
def ltB:List Nat->List Nat->Nat->Bm Nat
 |x::xs,y::ys,t=>(gI x).bind λa=>(et a y).bind λu=>(iB x y).bind λz=>(gI z).bind λb=>(et b t).bind λv=>(orB u v).bind λc=>ltB xs ys c
 |_,_,t=>Bm.ret t
theorem Va:∀(xs ys:List Nat) (c a:Fs) {d:List Nd} {t:Nat} {τ:bi->Bool},Gd n d->Wn d xs c->Wn d ys a->zN c=zN a->Fn d t τ→
  Tr n d (ltB xs ys t) λK i=>Fn K i λb=>decide (wvl c b<wvl a b)||(decide (wvl c b=wvl a b)&&τ b)
 |[],[],[],[],d,t,τ,hg,hx,hy,hl,ht=>Tr.ret hg (ht.congr λb=>by simp)
 |[],y::ys,[],[],d,t,τ,hg,hx,hy,hl,ht=>by have:=hy.1;simp at this
 |[],ys,φ::c,a,d,t,τ,hg,hx,hy,hl,ht=>by have:=hx.1;simp at this
 |[],ys,[],ψ::a,d,t,τ,hg,hx,hy,hl,ht=>by simp at hl
 |x::xs,ys,[],a,d,t,τ,hg,hx,hy,hl,ht=>by have:=hx.1;simp at this
 |x::xs,ys,φ::c,[],d,t,τ,hg,hx,hy,hl,ht=>by simp at hl
 |x::xs,[],φ::c,ψ::a,d,t,τ,hg,hx,hy,hl,ht=>by have:=hy.1;simp at this
 |x::xs,y::ys,φ::c,ψ::a,d,t,τ,hg,hx,hy,hl,ht=>by
  have⟨G,R⟩:=hx.head;have⟨H,S⟩:=hy.head;refine(iO hg G).bind λnx T e1 C k=> ?_;refine(it C k (H.ext hg.dv C.dv e1)).bind λu d2 g e N=> ?_;have f:=e1.trans g;refine(pd e (G.ext hg.dv e.dv f) (H.ext hg.dv e.dv f)).bind λz U w M Q=> ?_;have I:=f.trans w;refine(iO M Q).bind λnz V A D l=> ?_;have o:=I.trans A;refine(it D l (ht.ext hg.dv D.dv o)).bind λv W B E P=> ?_;have J:=o.trans B;refine(ot E (N.ext e.dv E.dv (w.trans (A.trans B))) P).bind λt' Z L h m=> ?_;have s:=J.trans L;refine(Va xs ys c a h (R.ext hg.dv h.dv s) (S.ext hg.dv h.dv s) (by simpa using hl) m).mono λi d7 e7 g7 q=>q.congr λb=> ?_;rw[eJ,eJ];generalize wvl c b=X;generalize wvl a b=Y;generalize φ b=p;generalize ψ b=q;generalize τ b=r;by_cases j:X<Y
  .have e1:bN p+2*X<bN q+2*Y:=by have:=r9 p;omega
   rw[DR j,DR e1];rfl
  by_cases F:X=Y
  .subst F;rw[DJ j,DR (rfl:X=X)];cases p<;>cases q<;>cases r<;>simp[bN]<;>omega
  have e1:¬bN p+2*X<bN q+2*Y:=by have:=r9 q;omega
  have g:¬bN p+2*X=bN q+2*Y:=by have:=r9 q;have:=r9 p;omega
  rw[DJ j,DJ F,DJ e1,DJ g];rfl
def dL (f:Nat->Nat->Bm Nat):List Nat->List Nat->Bm (List Nat)
 |x::xs,y::ys=>(f x y).bind λz=>(dL f xs ys).bind λr=>Bm.ret (z::r)
 |_,_=>Bm.ret []
def eu (a:Fs) (b:bi) (k:Nat):(wvl a b).testBit k=(zG a k λ_=>false) b:=by unfold wvl;rw[uE,DC,Ed,DC];cases a[k]? <;>rfl
def iG {a:Fs} {b:bi} {v:Nat} (c:v<2^zN a) (h:∀k,k<zN a->(zG a k λ_=>false) b=v.testBit k):wvl a b=v:=by
 refine Nat.eq_of_testBit_eq λk=> ?_;rw[eu];by_cases hk:k<zN a
 .exact h k hk
 rw[DC,EF (by omega)];refine(Nat.testBit_lt_two_pow ?_).symm;exact DU c (Ew (by decide) (by omega))
end
def aB (v:Nat) (len:Nat):List Nat:=(List.range len).map λk=>bN (v.testBit k)
def eZ (v:Nat) (len:Nat):Fs:=(List.range len).map λk=>λ_=>v.testBit k
def vA {d:List Nd} (b:DV d) (v len:Nat):Wn d (aB v len) (eZ v len):=by
 refine⟨by simp[aB,eZ],λk hk=> ?_⟩;have a:k<len:=by simpa [aB] using hk
 have e1:(aB v len).getD k 0=bN (v.testBit k):=by unfold aB;rw[DC,Ed,EZ a];rfl
 have c:((eZ v len).getD k λ_=>false)=λ_=>v.testBit k:=by unfold eZ;rw[DC,Ed,EZ a];rfl
 rw[e1,c];cases v.testBit k
 .exact fn0 b
 exact fn1 b
def rU (v len:Nat) (b:bi) (c:v<2^len):wvl (eZ v len) b=v:=by
 have a:(eZ v len).length=len:=by simp[eZ]
 refine iG (by rw[a];exact c) λk hk=> ?_;rw[a] at hk;unfold eZ;rw[DC,Ed,EZ hk];rfl
def gu {d:List Nd} (a:DV d) {v len:Nat} (c:v<2^len):Sw d (aB v len) len λ_=>v:=⟨eZ v len,vA a v len,by simp[eZ],λb=>rU v len b c⟩
def oR {d:List Nd} {f:Nat} {φ:bi->Bool} {w:List Nat} {len:Nat} {ν:bi->Nat} (h:Fn d f φ) (i:Sw d w len ν):Sw d (f::w) (len+1) λb=>bN (φ b)+2*ν b:=by obtain⟨a,c,e,g⟩:=i;exact⟨φ::a,Wn.cons h c,by rw[DF,e],λb=>by rw[eJ,g]⟩
def aK (t:Nat):List Nat:=t::aB 0 15
def eK {d:List Nd} (a:DV d) {t:Nat} {τ:bi->Bool} (h:Fn d t τ):Sw d (aK t) 16 λb=>bN (τ b):=(oR h (gu a (v:=0) (len:=15) (by decide))).congr λb=>by simp
section
variable {n:Nat} {d:List Nd}
def sC {xs ys:List Nat} {len c:Nat} {μ ν:bi->Nat} {κ:bi->Bool} (h:Gd n d) (i:Sw d xs len μ) (j:Sw d ys len ν) (g:Fn d c κ):Tr n d (fS xs ys c) λf w=>Sw f w len λb=>(μ b+ν b+bN (κ b))%2^len:=by obtain⟨a,k,l,m⟩:=i;obtain⟨e,o,r,p⟩:=j;refine(OW xs ys a e h k o (by omega) g).mono λw f _ _ q=> ?_;rw[l] at q;exact q.congr λb=>by rw[m,p]
def Be {xs:List Nat} {len:Nat} {μ:bi->Nat} (e:Gd n d) (f:Sw d xs len μ):Tr n d (jh xs) λc w=>Sw c w len λb=>2^len-1-μ b:=by obtain⟨a,g,h,i⟩:=f;refine(Bc xs a e g).mono λw c _ _ q=> ?_;rw[h] at q;exact q.congr λb=>by rw[i]
def qA (xs ys:List Nat):Bm (List Nat):=(jh ys).bind λz=>fS xs z 1
def AU {xs ys:List Nat} {len:Nat} {μ ν:bi->Nat} (c:Gd n d) (g:Sw d xs len μ) (e:Sw d ys len ν):Tr n d (qA xs ys) λf w=>Sw f w len λb=>(μ b+(2^len-ν b))%2^len:=by refine(Be c e).bind λz i e1 a h=> ?_;refine(sC a (g.ext c.dv a.dv e1) h (fn1 a.dv)).mono λw d2 _ _ q=>q.congr λb=> ?_;have:=e.lt b;show(μ b+(2^len-1-ν b)+1)%2^len=_;congr 1;omega
def Rc {xs ys:List Nat} {len:Nat} {μ ν:bi->Nat} (f:Gd n d) (g:Sw d xs len μ) (h:Sw d ys len ν):Tr n d (eqB xs ys 1) λe i=>Fn e i λb=>decide (μ b=ν b):=by obtain⟨a,j,o,k⟩:=g;obtain⟨c,l,p,m⟩:=h;exact(Vg xs ys a c f j l (by omega) (fn1 f.dv)).mono λi e _ _ q=>q.congr λb=>by rw[k,m,FI]
def y7 {xs ys:List Nat} {len:Nat} {μ ν:bi->Nat} (f:Gd n d) (g:Sw d xs len μ) (h:Sw d ys len ν):Tr n d (ltB xs ys 0) λe i=>Fn e i λb=>decide (μ b<ν b):=by obtain⟨a,j,o,k⟩:=g;obtain⟨c,l,p,m⟩:=h;exact(Va xs ys a c f j l (by omega) (fn0 f.dv)).mono λi e _ _ q=>q.congr λb=>by rw[k,m,Bool.and_false,Bool.or_false]
def fk {xs:List Nat} {len:Nat} {μ:bi->Nat} (e:Gd n d) (f:Sw d xs len μ):Tr n d (bH xs 0) λc i=>Fn c i λb=>decide (μ b≠0):=by obtain⟨a,g,j,h⟩:=f;exact(tH xs a e g (fn0 e.dv)).mono λi c _ _ q=>q.congr λb=>by rw[h,FJ]
theorem l9 {f:Nat->Nat->Bm Nat} {ω:bi->Bool->Bool->Bool} {xs ys:List Nat} {len:Nat} {μ ν ρ:bi->Nat} (K:∀{g:List Nd} {x y:Nat} {φ ψ:bi->Bool},Ext d g->Gd n g->Fn g x φ->Fn g y ψ->Tr n g (f x y) λg i=>Fn g i λb=>ω b (φ b) (ψ b))
  (m:Gd n d) (h:Sw d xs len μ) (l:Sw d ys len ν) (u:∀b,ρ b<2^len) (v:∀b k,(ρ b).testBit k=ω b ((μ b).testBit k) ((ν b).testBit k)):Tr n d (dL f xs ys) λg w=>Sw g w len ρ:=by
 obtain⟨a,E,F,N⟩:=h;obtain⟨c,G,I,P⟩:=l;have A:∀(xs ys:List Nat) (a c:Fs) {j:List Nd},Ext d j->Gd n j->Wn j xs a->Wn j ys c->zN a=zN c->Tr n j (dL f xs ys) λg w=>∃e:Fs,Wn g w e/\zN e=zN a/\∀k,k<zN a->∀b,(zG e k λ_=>false) b=ω b ((zG a k λ_=>false) b) ((zG c k λ_=>false) b):=by
  intro xs;induction xs with
  |nil=>intro ys a c j t m h l o;have:a=[]:=Ec (by have:=h.1;simpa using this.symm);subst this;unfold dL;exact Tr.ret m ⟨[],Wn.nil j,rfl,λk hk=>absurd hk (by simp)⟩
  |cons x xs ih=>
   intro ys a c j t m h l o;match a,c,ys,h,l,o with
   |[],_,_,h,_,_=>have:=h.1;simp at this
   |φ::a,[],_,_,_,o=>simp at o
   |φ::a,ψ::c,[],_,l,_=>have:=l.1;simp at this
   |φ::a,ψ::c,y::ys,h,l,o=>
    have⟨E,F⟩:=h.head;have⟨G,I⟩:=l.head;refine(K t m E G).bind λz d2 s p M=> ?_;refine(ih ys a c (t.trans s) p (F.ext m.dv p.dv s) (I.ext m.dv p.dv s) (by simpa using o)).bind λr Q J H L=> ?_;obtain⟨e,B,C,D⟩:=L;refine Tr.ret H ⟨_,Wn.cons (M.ext p.dv H.dv J) B,by rw[DF,DF,C],λk hk b=> ?_⟩;cases k with
    |zero=>rfl
    |succ k=>exact D k (by simp at hk;omega) b
 refine(A xs ys a c (Ext.refl d) m E G (by omega)).mono λw g _ _ q=> ?_;obtain⟨e,B,C,D⟩:=q;refine⟨e,B,by omega,λb=>iG (by rw[C,F];exact u b) λk hk=> ?_⟩;rw[D k (by omega) b,v b k,<-N b,<-P b,eu,eu]
def ld:List Nat->List Nat->Bm (List Nat)
 |[],s=>Bm.ret s
 |f::r,s=>(fS s (aK f) 0).bind λa=>ld r a
def wN (l:List Bool):Nat:=(l.map bN).sum
theorem yQ:∀(w:List Nat) (a:Fs) {d:List Nd} {s:List Nat} {σ:bi->Nat},Gd n d->Wn d w a->Sw d s 16 σ->Tr n d (ld w s) λg r=>Sw g r 16 λb=>(σ b+wN (a.map (· b)))%2^16
 |[],[],d,s,σ,hg,hw,hs=>Tr.ret hg (hs.congr λb=>(E9 (by have:=hs.lt b;simpa [wN] using this)).symm)
 |[],φ::a,d,s,σ,hg,hw,hs=>by have:=hw.1;simp at this
 |f::w,[],d,s,σ,hg,hw,hs=>by have:=hw.1;simp at this
 |f::w,φ::a,d,s,σ,hg,hw,hs=>by have⟨h,i⟩:=hw.head;refine(sC hg hs (eK hg.dv h) (fn0 hg.dv)).bind λk j e1 e c=> ?_;refine(yQ w a e (i.ext hg.dv e.dv e1) c).mono λr d2 _ _ q=>q.congr λb=> ?_;show((σ b+bN (φ b)+0)%2^16+wN (a.map (· b)))%2^16=(σ b+(bN (φ b)+wN (a.map (· b))))%2^16;omega
def eA (x:List Nat):List (List Nat)->Nat->Bm Nat
 |lo::hi::r,t=>(ltB x lo 0).bind λu=>(gI u).bind λa=>(ltB hi x 0).bind λv=>(gI v).bind λq=>(et a q).bind λz=>(orB t z).bind λb=>eA x r b
 |_,t=>Bm.ret t
def sW (x:Nat):List Nat->Bool
 |lo::hi::r=>(decide (lo<=x)&&decide (x<=hi))||sW x r
 |_=>false
inductive Sws (d:List Nd) (len:Nat):List (List Nat)->List (bi->Nat)->Prop
 |nil:Sws d len [] []
 |cons {w:List Nat} {ws:List (List Nat)} {ν:bi->Nat} {νs:List (bi->Nat)}:Sw d w len ν->Sws d len ws νs->Sws d len (w::ws) (ν::νs)
theorem Sws.ext {d a:List Nd} {len:Nat} {ws:List (List Nat)} {νs:List (bi->Nat)} (h:Sws d len ws νs) (c:DV d) (b:DV a) (e:Ext d a):Sws a len ws νs:=by
 induction h with
 |nil=>exact .nil
 |cons h _ ih=>exact .cons (h.ext c b e) ih
theorem rJ {x:List Nat} {len:Nat} {ξ:bi->Nat}:∀(ws:List (List Nat)) (a:List (bi->Nat)) {d:List Nd} {t:Nat} {τ:bi->Bool},Gd n d->Sw d x len ξ->Sws d len ws a->Fn d t τ->Tr n d (eA x ws t) λy i=>Fn y i λb=>τ b||sW (ξ b) (a.map (· b))
 |[],[],d,t,τ,hg,hx,hw,ht=>Tr.ret hg (ht.congr λb=>by simp[sW])
 |[w],a,d,t,τ,hg,hx,hw,ht=>by
  cases hw with
  |cons h h'=>cases h';exact Tr.ret hg (ht.congr λb=>by simp[sW])
 |lo::hi::ws,a,d,t,τ,hg,hx,hw,ht=>by
  cases hw with
  |cons h h'=>
   cases h' with
   |@cons _ _ ν2 a h2 h3=>
    rename_i ν1;refine(y7 hg hx h).bind λu K e1 D H=> ?_;refine(iO D H).bind λR d2 A c F=> ?_;have e:=e1.trans A;refine(y7 c (h2.ext hg.dv c.dv e) (hx.ext hg.dv c.dv e)).bind λv L l E I=> ?_;refine(iO E I).bind λq M m o G=> ?_;refine(it o (F.ext c.dv o.dv (l.trans m)) G).bind λz N B p J=> ?_;have j:=e.trans (l.trans (m.trans B));refine(ot p (ht.ext hg.dv p.dv j) J).bind λS P C f g=> ?_;have k:=j.trans C;refine(rJ ws a f (hx.ext hg.dv f.dv k) (h3.ext hg.dv f.dv k) g).mono λi Q _ _ q=>q.congr λb=> ?_;show(τ b||(!decide (ξ b<ν1 b)&& !decide (ν2 b<ξ b))||sW (ξ b) (a.map (· b)))=(τ b||((decide (ν1 b<=ξ b)&&decide (ξ b<=ν2 b))||sW (ξ b) (a.map (· b))));have r:(!decide (ξ b<ν1 b))=decide (ν1 b<=ξ b):=by rw[<-decide_not];exact decide_eq_decide.2 Nat.not_lt
    have s:(!decide (ν2 b<ξ b))=decide (ξ b<=ν2 b):=by rw[<-decide_not];exact decide_eq_decide.2 Nat.not_lt
    rw[r,s,Bool.or_assoc]
end
section
variable {n:Nat} {d:List Nd}
def mf:List Nat->Nat->Bm (List Nat)
 |[],_=>Bm.ret []
 |f::r,y=>(et f y).bind λz=>(mf r y).bind λa=>Bm.ret (z::a)
theorem yX:∀(w:List Nat) (a:Fs) {d:List Nd} {y:Nat} {υ:bi->Bool},Gd n d->Wn d w a->Fn d y υ->Tr n d (mf w y) λg r=>Sw g r (zN a) λb=>wvl a b*bN (υ b)
 |[],[],d,y,υ,hg,hw,hy=>Tr.ret hg ⟨[],Wn.nil d,rfl,λb=>by simp[wvl,nC]⟩
 |[],φ::a,d,y,υ,hg,hw,hy=>by have:=hw.1;simp at this
 |f::w,[],d,y,υ,hg,hw,hy=>by have:=hw.1;simp at this
 |f::w,φ::a,d,y,υ,hg,hw,hy=>by have⟨i,j⟩:=hw.head;refine(it hg i hy).bind λz m e1 c l=> ?_;refine(yX w a c (j.ext hg.dv c.dv e1) (hy.ext hg.dv c.dv e1)).bind λr d2 h e k=> ?_;refine Tr.ret e ((oR (l.ext c.dv e.dv h) k).congr λb=> ?_);rw[eJ];generalize φ b=p;generalize υ b=q;cases p<;>cases q<;>simp[bN]<;>omega
theorem OV {w:List Nat} {len:Nat} {ν:bi->Nat} (a:DV d) (h:Sw d w len ν):∀(k:Nat),Sw d (List.replicate k 0++w) (k+len) λb=>2^k*ν b
 |0=>by rw[DY];exact h.congr λb=>by simp
 |k+1=>by have ih:=OV a h k;have:=oR (fn0 a) ih;rw[show k+1+len=k+len+1 by omega];exact this.congr λb=>by show bN false+2*(2^k*ν b)=2^(k+1)*ν b;rw[FB,FG (2^k) 2,Nat.mul_assoc];simp[bN]
def yj {w:List Nat} {len m:Nat} {ν:bi->Nat} (h:Sw d w len ν) (hm:m<=len):Sw d (w.take m) m λb=>ν b%2^m:=by
 obtain⟨a,g,j,i⟩:=h;have f:(a.take m).length=m:=by rw[D3];omega
 have c:∀k,k<m->(a.take m).getD k (λ_=>false)=zG a k λ_=>false:=λk hk=>by rw[DC,DC,EY hk]
 refine⟨a.take m,⟨by rw[D3,D3,g.1],λk hk=> ?_⟩,f,λb=> ?_⟩
 .have e:k<m:=by rw[D3] at hk;omega
  rw[c k e,DC,EY e,<-DC];exact g.2 k (by rw[D3] at hk;omega)
 refine iG (by rw[f];exact FQ _ (Fq (by simp))) λk hk=> ?_;rw[f] at hk;rw[c k hk,Nat.testBit_mod_two_pow,<-i b,eu];simp[hk]
def SR {w:List Nat} {len m:Nat} {ν:bi->Nat} (h:Sw d w len ν) (hm:m<=len):Sw d (w.drop m) (len-m) λb=>ν b/2^m:=by
 obtain⟨a,e,j,f⟩:=h;have i:(a.drop m).length=len-m:=by rw[ET];omega
 have c:∀k,(a.drop m).getD k (λ_=>false)=zG a (m+k) λ_=>false:=λk=>by rw[DC,DC,Fh]
 refine⟨a.drop m,⟨by rw[ET,ET,e.1],λk hk=> ?_⟩,i,λb=> ?_⟩
 .rw[c k,DC,Fh,<-DC];exact e.2 (m+k) (by rw[ET] at hk;omega)
 show wvl _ b=ν b/2^m;refine iG ?_ λk hk=> ?_
 .rw[i];have g:=lu a b;rw[j] at g;rw[<-f b];refine(Nat.div_lt_iff_lt_mul (Fq (by simp))).2 ?_;rw[<-Nat.pow_add,show len-m+m=len by omega];exact g
 rw[c k,<-f b,Nat.testBit_div_two_pow,eu,Nat.add_comm]
def iX (x:List Nat):List Nat->Nat->List Nat->Bm (List Nat)
 |[],_,s=>Bm.ret s
 |y::ys,k,s=>(mf (x.take (16-k)) y).bind λp=>(fS s (List.replicate k 0++p) 0).bind λa=>iX x ys (k+1) a
theorem yK {x:List Nat} {χ:bi->Nat}:∀(ys:List Nat) (a:Fs) {d:List Nd} {k:Nat} {s:List Nat} {σ:bi->Nat},Gd n d->Sw d x 16 χ->Wn d ys a->Sw d s 16 σ->k+zN ys=16->Tr n d (iX x ys k s) λt r=>Sw t r 16 λb=>(σ b+2^k*χ b*wvl a b)%65536
 |[],[],d,k,s,σ,hg,hx,hy,hs,hk=>Tr.ret hg (hs.congr λb=>by have:=hs.lt b;show σ b=(σ b+2^k*χ b*0)%65536;rw[Nat.mul_zero,Eb];exact(E9 (by simpa using this)).symm)
 |[],ψ::a,d,k,s,σ,hg,hx,hy,hs,hk=>by have:=hy.1;simp at this
 |y::ys,[],d,k,s,σ,hg,hx,hy,hs,hk=>by have:=hy.1;simp at this
 |y::ys,ψ::a,d,k,s,σ,hg,hx,hy,hs,hk=>by
  have⟨v,w⟩:=hy.head;have u:k+zN ys+1=16:=by simpa [Nat.add_assoc] using hk
  have⟨j,c1,c2,c3⟩:=yj hx (m:=16-k) (by omega);refine(yX _ j hg c1 v).bind λp z e1 f o=> ?_;rw[c2] at o;have c:=OV f.dv o k;rw[show k+(16-k)=16 by omega] at c;refine(sC f (hs.ext hg.dv f.dv e1) c (fn0 f.dv)).bind λD d2 g h i=> ?_;have l:=e1.trans g;refine(yK ys a h (hx.ext hg.dv h.dv l) (w.ext hg.dv h.dv l) i (by omega)).mono λr B _ _ q=>q.congr λb=> ?_;rw[eJ,c3 b];have e:2^k*(χ b%2^(16-k))=(2^k*χ b)%65536:=by rw[show(65536:Nat)=2^k*2^(16-k) by rw[<-Nat.pow_add,show k+(16-k)=16 by omega],Nat.mul_mod_mul_left]
  have g:2^(k+1)*χ b*wvl a b=2*(2^k*χ b*wvl a b):=by rw[FB,FG (2^k) 2,Nat.mul_assoc 2,Nat.mul_assoc 2]
  show((σ b+2^k*(χ b%2^(16-k)*bN (ψ b))+bN false)%2^16+2^(k+1)*χ b*wvl a b)%65536=(σ b+2^k*χ b*(bN (ψ b)+2*wvl a b))%65536;rw[<-Nat.mul_assoc,e,g,Nat.mul_add,show 2^k*χ b*(2*wvl a b)=2*(2^k*χ b*wvl a b) by rw[Nat.mul_left_comm]];generalize 2^k*χ b*wvl a b=C;generalize 2^k*χ b=A;cases ψ b<;>simp[bN]<;>omega
def Tx {xs ys:List Nat} {μ ν:bi->Nat} (e:Gd n d) (g:Sw d xs 16 μ) (h:Sw d ys 16 ν):Tr n d (iX xs ys 0 (aB 0 16)) λc w=>Sw c w 16 λb=>(μ b*ν b)%65536:=by obtain⟨a,f,j,i⟩:=h;refine(yK ys a e g f (gu e.dv (v:=0) (by decide)) (by have:=f.1;omega)).mono λw c _ _ q=>q.congr λb=> ?_;rw[i b];simp
def cK (t:Nat):List Nat->List (Option Nat)->Bm (List Nat)
 |o::os,some f::fs=>(et t f).bind λz=>(orB o z).bind λa=>(cK t os fs).bind λr=>Bm.ret (a::r)
 |o::os,none::fs=>(cK t os fs).bind λr=>Bm.ret (o::r)
 |_,_=>Bm.ret []
def On (d:List Nd):Option Nat->(bi->Bool)->Prop
 |some f,φ=>Fn d f φ
 |none,φ=>∀b,φ b=false
inductive Os (d:List Nd):List (Option Nat)->Fs->Prop
 |nil:Os d [] []
 |cons {o:Option Nat} {os:List (Option Nat)} {φ:bi->Bool} {φs:Fs}:On d o φ->Os d os φs->Os d (o::os) (φ::φs)
theorem On.ext {d a:List Nd} {o:Option Nat} {φ:bi->Bool} (h:On d o φ) (c:DV d) (b:DV a) (e:Ext d a):On a o φ:=by
 cases o with
 |none=>exact h
 |some f=>exact Fn.ext h c b e
theorem Os.ext {d a:List Nd} {os:List (Option Nat)} {φs:Fs} (h:Os d os φs) (c:DV d) (b:DV a) (e:Ext d a):Os a os φs:=by
 induction h with
 |nil=>exact .nil
 |cons h _ ih=>exact .cons (h.ext c b e) ih
theorem Os.len {os:List (Option Nat)} {φs:Fs} (h:Os d os φs):zN os=zN φs:=by
 induction h with
 |nil=>rfl
 |cons _ _ ih=>rw[DF,DF,ih]
theorem Os.some {w:List Nat}:∀{a:Fs},Wn d w a->Os d (w.map some) a:=by
 induction w with
 |nil=>intro a h;have:a=[]:=Ec (by have:=h.1;simpa using this.symm);subst this;exact .nil
 |cons f w ih=>
  intro a h;match a,h with
  |[],h=>have:=h.1;simp at this
  |φ::a,h=>have⟨b,c⟩:=h.head;exact .cons b (ih c)
theorem Os.app {a b:List (Option Nat)} {c e:Fs} (h:Os d a c) (f:Os d b e):Os d (a++b) (c++e):=by
 induction h with
 |nil=>exact f
 |cons h _ ih=>exact .cons h ih
theorem Os.none (k:Nat):Os d (List.replicate k none) (List.replicate k λ_=>false):=by
 induction k with
 |zero=>exact .nil
 |succ k ih=>exact .cons (λ_=>rfl) ih
theorem pG {t:Nat} {τ:bi->Bool}:∀(w:List Nat) (os:List (Option Nat)) (a c:Fs) {d:List Nd},Gd n d->Wn d w a->Os d os c->zN a=zN c->Fn d t τ->Tr n d (cK t w os) λy r=>∃e:Fs,Wn y r e/\zN e=zN a/\∀k,k<zN a->∀b,(zG e k λ_=>false) b=((zG a k λ_=>false) b||(τ b&&(zG c k λ_=>false) b))
 |[],os,a,c,d,hg,hw,ho,hl,ht=>by have:a=[]:=Ec (by have:=hw.1;simpa using this.symm);subst this;unfold cK;exact Tr.ret hg ⟨[],Wn.nil d,rfl,λk hk=>absurd hk (by simp)⟩
 |x::w,os,[],c,d,hg,hw,ho,hl,ht=>by have:=hw.1;simp at this
 |x::w,os,φ::a,[],d,hg,hw,ho,hl,ht=>by simp at hl
 |x::w,[],φ::a,ψ::c,d,hg,hw,ho,hl,ht=>by cases ho
 |x::w,none::os,φ::a,ψ::c,d,hg,hw,ho,hl,ht=>by
  have⟨s,u⟩:=hw.head;cases ho with
  |cons h h'=>
   refine(pG w os a c hg u h' (by simpa using hl) ht).bind λr A e1 g m=> ?_;obtain⟨e,o,p,q⟩:=m;refine Tr.ret g ⟨_,Wn.cons (s.ext hg.dv g.dv e1) o,by rw[DF,DF,p],λk hk b=> ?_⟩;cases k with
   |zero=>show φ b=(φ b||(τ b&&ψ b));have D:ψ b=false:=h b;rw[D,Bool.and_false,Bool.or_false]
   |succ k=>exact q k (by simp at hk;omega) b
 |x::w,some f::os,φ::a,ψ::c,d,hg,hw,ho,hl,ht=>by
  have⟨s,u⟩:=hw.head;cases ho with
  |cons h h'=>
   refine(it hg ht h).bind λz A e1 g E=> ?_;refine(ot g (s.ext hg.dv g.dv e1) E).bind λG d2 B i l=> ?_;have j:=e1.trans B;refine(pG w os a c i (u.ext hg.dv i.dv j) (h'.ext hg.dv i.dv j) (by simpa using hl) (ht.ext hg.dv i.dv j)).bind λr F C v m=> ?_;obtain⟨e,o,p,q⟩:=m;refine Tr.ret v ⟨_,Wn.cons (l.ext i.dv v.dv C) o,by rw[DF,DF,p],λk hk b=> ?_⟩;cases k with
   |zero=>rfl
   |succ k=>exact q k (by simp at hk;omega) b
def gN (left:Bool) (s:Nat) (x:List Nat):List (Option Nat):=if left=true then List.replicate s none++(x.take (16-s)).map some else(x.drop s).map some++List.replicate s none
def shT (left:Bool) (s x:Nat):Nat:=if left=true then(x*2^s)%65536 else x/2^s
def O8 {x:List Nat} {χ:bi->Nat} (left:Bool) {s:Nat} (o:s<16) (h:Sw d x 16 χ):∃a:Fs,Os d (gN left s x) a/\zN a=16/\∀b,wvl a b=shT left s (χ b):=by
 cases left
 .have⟨a,i,n,j⟩:=SR h (m:=s) (by omega);have g:∀b,wvl a b=χ b/2^s:=λb=>j b;have f:(a++List.replicate s λ_=>false).length=16:=by rw[DI,Es];omega
  refine⟨a++List.replicate s λ_=>false,(Os.some i).app (Os.none s),f,λb=> ?_⟩;show wvl _ b=χ b/2^s;refine iG ?_ λk hk=> ?_
  .rw[f,<-g b];have:=lu a b;exact DU this (Ew (by decide) (by omega))
  rw[<-g b,eu];by_cases c:k<zN a
  .rw[DC,D6 c,<-DC]
  rw[DC,DX (by omega),DC (l:=a),EF (l:=a) (by omega),E7];split<;>rfl
 have⟨a,i,n,j⟩:=yj h (m:=16-s) (by omega);have g:∀b,wvl a b=χ b%2^(16-s):=λb=>j b;have f:((List.replicate s λ_=>false)++a:Fs).length=16:=by rw[DI,Es];omega
 refine⟨(List.replicate s λ_=>false)++a,(Os.none s).app (Os.some i),f,λb=> ?_⟩;have e:(χ b*2^s)%65536=2^s*(χ b%2^(16-s)):=by rw[show(65536:Nat)=2^s*2^(16-s) by rw[<-Nat.pow_add,show s+(16-s)=16 by omega],FG,Nat.mul_mod_mul_left]
 show _=(χ b*2^s)%65536;refine iG (by rw[f];exact FQ _ (by decide)) λk hk=> ?_;rw[e,<-g b,Nat.testBit_two_pow_mul,eu];by_cases c:k<s
 .rw[DC,D6 (by rw[Es];exact c),E7,DP c];simp[show¬s<=k by omega]
 rw[DC,DX (by rw[Es];omega),Es,<-DC];simp[show s<=k by omega]
def bV (left:Bool) (x y:List Nat):Nat->Nat->List Nat->Bm (List Nat)
 |0,_,out=>Bm.ret out
 |r+1,s,out=>(eqB y (aB s 16) 1).bind λt=>(cK t out (gN left s x)).bind λa=>bV left x y r (s+1) a
theorem tQ {left:Bool} {x y:List Nat} {χ υ:bi->Nat}:∀(r s:Nat) {d:List Nd} {a:List Nat} {ν:bi->Nat},Gd n d->Sw d x 16 χ->Sw d y 16 υ->Sw d a 16 ν->s+r=16->(∀b,s<=υ b->ν b=0)->Tr n d (bV left x y r s a) λz w=>Sw z w 16 λb=>if s<=υ b/\υ b<16 then shT left (υ b) (χ b) else ν b
 |0,s,d,a,ν,hg,hx,hy,ho,hs,h0=>Tr.ret hg (ho.congr λb=>by rw[DK (by omega)])
 |r+1,s,d,a,ν,hg,hx,hy,ho,hs,h0=>by
  refine(Rc hg hy (gu hg.dv (v:=s) (len:=16) (by omega))).bind λt K e1 h C=> ?_;have⟨g,E,F,u⟩:=O8 left (s:=s) (by omega) (hx.ext hg.dv h.dv e1);have⟨c,G,H,m⟩:=ho.ext hg.dv h.dv e1;refine(pG a _ c g h G E (by omega) C).bind λf d2 A i B=> ?_;obtain⟨ρs,I,N,J⟩:=B;have o:=e1.trans A;have e:Sw d2 f 16 λb=>if υ b=s then shT left s (χ b) else ν b:=by
   refine⟨ρs,I,by omega,λb=> ?_⟩;show wvl ρs b=if υ b=s then shT left s (χ b) else ν b
   have l:(if υ b=s then shT left s (χ b) else ν b)<2^zN ρs:=by
    rw[show zN ρs=16 by omega];split
    .rw[<-u b];have:=lu g b;rwa [F] at this
    rw[<-m b];have:=lu c b;rwa [H] at this
   refine iG l λk hk=> ?_;rw[J k (by omega) b];split
   .rename_i he;rw[<-u b,eu];have D:(zG c k λ_=>false) b=false:=by rw[<-eu,m b,h0 b (by omega)];simp
    rw[D,DR he];simp
   rename_i he;rw[<-m b,eu,DJ he];simp
  refine(tQ r (s+1) i (hx.ext hg.dv i.dv o) (hy.ext hg.dv i.dv o) e (by omega) (λb M=> ?_)).mono λw L _ _ q=>q.congr λb=> ?_
  .show(if υ b=s then _ else ν b)=0;rw[DK (by omega)];exact h0 b (by omega)
  show(if s+1<=υ b/\υ b<16 then shT left (υ b) (χ b) else if υ b=s then shT left s (χ b) else ν b)=_;by_cases j:υ b=s
  .rw[DK (by omega),DP j,DP (by omega),j]
  rw[DK j];by_cases p:s+1<=υ b/\υ b<16
  .rw[DP p,DP (by omega)]
  rw[DK p,DK (by omega)]
def tR {left:Bool} {xs ys:List Nat} {μ ν:bi->Nat} (c:Gd n d) (f:Sw d xs 16 μ) (g:Sw d ys 16 ν):Tr n d (bV left xs ys 16 0 (aB 0 16)) λa w=>Sw a w 16 λb=>if ν b<16 then shT left (ν b) (μ b) else 0:=
 (tQ 16 0 c f g (gu c.dv (v:=0) (by decide)) rfl (λ_ _=>rfl)).mono λw a _ _ q=>q.congr λb=>by
  by_cases h:ν b<16
  .rw[DP h,DP ⟨DH _,h⟩]
  rw[DK h,DK (λe=>h e.2)]
def lV (l:Nat):Nat->Bm (List Nat)
 |0=>Bm.ret []
 |w+1=>(qJ (l+w)).bind λf=>(lV l w).bind λr=>Bm.ret (f::r)
def kh (b:bi) (l w:Nat):List Bool:=(List.range w).map λj=>b (l+j)
def rY (l:List Bool) (c:Bool):fj (l++[c])=2*fj l+bN c:=by unfold fj;rw[Fp];rfl
def vE (b:bi) (l w:Nat):fj (kh b l (w+1))=bN (b (l+w))+2*fj (kh b l w):=by unfold kh;rw[List.range_succ,Fl,FY,List.map_nil,rY,Nat.add_comm]
theorem OJ (e:n<=20) {l:Nat}:∀(w:Nat) {d:List Nd},Gd n d->l+w<=n->Tr n d (lV l w) λg r=>Sw g r w λb=>fj (kh b l w)
 |0,d,hg,hl=>Tr.ret hg ⟨[],Wn.nil d,rfl,λb=>rfl⟩
 |w+1,d,hg,hl=>by refine(W8 hg (by omega) e).bind λf k e1 a i=> ?_;refine(OJ e w a (by omega)).bind λr d2 h c j=> ?_;exact Tr.ret c ((oR (i.ext a.dv c.dv h) j).congr λb=>(vE b l w).symm)
def SQ {w:List Nat} {len:Nat} {ν:bi->Nat} (p:DV d) (h:Sw d w len ν) (m:Nat):Sw d (w++aB 0 m) (len+m) ν:=by
 obtain⟨φs,c,n,g⟩:=h;have i:=vA p 0 m;have e:(eZ 0 m).length=m:=by simp[eZ]
 have j:(φs++eZ 0 m).length=len+m:=by rw[DI,n,e]
 refine⟨φs++eZ 0 m,⟨by rw[DI,DI,c.1,i.1],λk hk=> ?_⟩,j,λb=> ?_⟩
 .by_cases a:k<zN w
  .have f:k<zN φs:=by rw[<-c.1];exact a
   rw[DC,D6 a,<-DC,DC (l:=φs++_),D6 f,<-DC];exact c.2 k a
  rw[DI] at hk;have o:=c.1;rw[DC,DX (by omega),<-DC,DC (l:=φs++_),DX (by omega),<-DC,o];exact i.2 _ (by omega)
 refine iG ?_ λk hk=> ?_
 .rw[<-g b,j];have:=lu φs b;exact DU this (Ew (by decide) (by omega))
 rw[<-g b,eu];by_cases a:k<zN φs
 .rw[DC,D6 a,<-DC]
 rw[DC,DX (by omega),DC (l:=φs),EF (l:=φs) (by omega)];have q:=rU 0 m b (Fq (by simp));have:=eu (eZ 0 m) b (k-zN φs);rw[q,DC] at this;rw[<-this];simp
end
inductive Vl where
 |val (v:Nat)
 |bits (l w:Nat)
def vlB (x:Vl):Bm (List Nat):=match x with
 | .val v=>Bm.ret (aB v 16)
 | .bits l w=>(lV l w).bind λr=>Bm.ret (r++aB 0 (16-w))
def vlV (b:bi):Vl->Nat
 | .val v=>v
 | .bits l w=>fj (kh b l w)
def OH (n:Nat):Vl->Prop
 | .val v=>v<65536
 | .bits l w=>l+w<=n/\w<=16
def opW (op:Int) (ws:List (List Nat)):Bm (List Nat):=
 if op=4 then(bH (zG ws 0 []) 0).bind λt=>(gI t).bind λu=>Bm.ret (aK u)
 else if op=5 then jh (zG ws 0 [])
 else if op=6 then qA (aB 0 16) (zG ws 0 [])
 else if op=25 then ld (zG ws 0 []) (aB 0 16)
 else if op=23 then(eA (zG ws 0 []) ws.tail 0).bind λt=>Bm.ret (aK t)
 else if op=22 then(bH (zG ws 0 []) 0).bind λt=>dL (λf g=>fB t f g) (zG ws 1 []) (zG ws 2 [])
 else if op=7 then fS (zG ws 0 []) (zG ws 1 []) 0
 else if op=8 then qA (zG ws 0 []) (zG ws 1 [])
 else if op=9 then iX (zG ws 0 []) (zG ws 1 []) 0 (aB 0 16)
 else if op=10 then dL et (zG ws 0 []) (zG ws 1 [])
 else if op=11 then dL orB (zG ws 0 []) (zG ws 1 [])
 else if op=12 then dL iB (zG ws 0 []) (zG ws 1 [])
 else if op=13 then bV true (zG ws 0 []) (zG ws 1 []) 16 0 (aB 0 16)
 else if op=14 then bV false (zG ws 0 []) (zG ws 1 []) 16 0 (aB 0 16)
 else if op=19 then(bH (zG ws 0 []) 0).bind λs=>(bH (zG ws 1 []) 0).bind λt=>(et s t).bind λu=>Bm.ret (aK u)
 else if op=20 then(bH (zG ws 0 []) 0).bind λs=>(bH (zG ws 1 []) 0).bind λt=>(orB s t).bind λu=>Bm.ret (aK u)
 else if op=21 then(bH (zG ws 0 []) 0).bind λs=>(bH (zG ws 1 []) 0).bind λt=>(gI s).bind λv=>(orB v t).bind λu=>Bm.ret (aK u)
 else if op=15 then(eqB (zG ws 0 []) (zG ws 1 []) 1).bind λt=>Bm.ret (aK t)
 else if op=16 then(eqB (zG ws 0 []) (zG ws 1 []) 1).bind λt=>(gI t).bind λu=>Bm.ret (aK u)
 else if op=17 then(ltB (zG ws 0 []) (zG ws 1 []) 0).bind λt=>Bm.ret (aK t)
 else(ltB (zG ws 1 []) (zG ws 0 []) 0).bind λt=>(gI t).bind λu=>Bm.ret (aK u)
def pQ {α β:Type} (f:α->Bm β):List α->Bm (List β)
 |[]=>Bm.ret []
 |a::l=>(f a).bind λb=>(pQ f l).bind λr=>Bm.ret (b::r)
def iS (V:ByteArray->Vl):Nat->Ex->Bm (List Nat)
 |0,_=>λ_=>none
 |k+1,.mk op n name args=>(pQ (iS V k) args).bind λws=>if op=1 then Bm.ret (aB n.toNat 16) else if op=2 then vlB (V name) else opW op ws
section
variable {n:Nat} {d:List Nd}
def OU (q:Bool):tN q=bN q:=rfl
theorem Qz:∀(l:List Nat) (x:Nat),eW x l=sW x l
 |[],x=>rfl
 |[_],x=>rfl
 |lo::hi::r,x=>by show((decide (lo<=x)&&decide (x<=hi))||eW x r)=((decide (lo<=x)&&decide (x<=hi))||sW x r);rw[Qz r x]
def V6 {a:Fs} (d:zN a=16) (b:bi):wN (a.map (· b))=jt (wvl a b):=by unfold wN jt;rw[Fe];congr 1;refine Fz (by rw[DT,DT,EV,d]) λi c e=> ?_;rw[List.getElem_map,List.getElem_map,List.getElem_range,OU,eu,DC,DD (by rw[DT] at c;exact c)];rfl
def Wc {w:List Nat} {μ:bi->Nat} (op:Int) (m:op=4\/op=5\/op=6\/op=25) (a:Gd n d) (f:Sw d w 16 μ):Tr n d (opW op [w]) λe r=>Sw e r 16 λb=>op1 op (μ b):=by
 rcases m with rfl|rfl|rfl|rfl
 .refine(fk a f).bind λt s e1 i o=> ?_;refine(iO i o).bind λu d2 x g p=>Tr.ret g ?_;refine(eK g.dv p).congr λb=> ?_;show bN (!decide (μ b≠0))=tN (decide (μ b=0));rw[OU];congr 1;by_cases h:μ b=0<;>simp[h]
 .exact(Be a f).mono λr e _ _ q=>q.congr λb=>rfl
 .refine(AU a (gu a.dv (v:=0) (by decide)) f).mono λr e _ _ q=>q.congr λb=> ?_;show(0+(2^16-μ b))%2^16=(65536-μ b)%65536;rw[DY]
 obtain⟨c,j,k,l⟩:=f;refine(yQ w c a j (gu a.dv (v:=0) (by decide))).mono λr e _ _ q=>q.congr λb=> ?_;show(0+wN (c.map (· b)))%2^16=jt (μ b);rw[V6 k,l,DY];exact E9 (sN _)
def Vv {x y:List Nat} {μ ν:bi->Nat} (op:Int) (K:7<=op) (F:op<=21) (c:Gd n d) (e:Sw d x 16 μ) (f:Sw d y 16 ν):Tr n d (opW op [x,y]) λl r=>Sw l r 16 λb=>op2 op (μ b) (ν b):=by
 have G:op=7\/op=8\/op=9\/op=10\/op=11\/op=12\/op=13\/op=14\/op=15\/op=16\/op=17\/op=18\/op=19\/op=20\/op=21:=by omega
 rcases G with rfl|rfl|rfl|rfl|rfl|rfl|rfl|rfl|rfl|rfl|rfl|rfl|rfl|rfl|rfl
 .exact(sC c e f (fn0 c.dv)).mono λr l _ _ q=>q.congr λb=>by show(μ b+ν b+0)%2^16=(μ b+ν b)%65536;rw[Eb]
 .exact(AU c e f).mono λr l _ _ q=>q.congr λb=>rfl
 .exact(Tx c e f).mono λr l _ _ q=>q.congr λb=>rfl
 .exact(l9 (ω:=λ_ p q=>p&&q) (ρ:=λb=>μ b&&&ν b) (λ_ g A j=>it g A j) c e f (λb=>Nat.lt_of_le_of_lt Nat.and_le_left (e.lt b)) (λb k=>Nat.testBit_and _ _ _)).mono λr l _ _ q=>q.congr λb=>rfl
 .exact(l9 (ω:=λ_ p q=>p||q) (ρ:=λb=>μ b|||ν b) (λ_ g A j=>ot g A j) c e f (λb=>Nat.or_lt_two_pow (e.lt b) (f.lt b)) (λb k=>Nat.testBit_or _ _ _)).mono λr l _ _ q=>q.congr λb=>rfl
 .exact(l9 (ω:=λ_ p q=>p !=q) (ρ:=λb=>μ b^^^ν b) (λ_ g A j=>pd g A j) c e f (λb=>Nat.xor_lt_two_pow (e.lt b) (f.lt b)) (λb k=>Nat.testBit_xor _ _ _)).mono λr l _ _ q=>q.congr λb=>rfl
 .exact(tR (left:=true) c e f).mono λr l _ _ q=>q.congr λb=>rfl
 .exact(tR (left:=false) c e f).mono λr l _ _ q=>q.congr λb=>rfl
 .exact(Rc c e f).bind λt z e1 a i=>Tr.ret a ((eK a.dv i).congr λb=>rfl)
 .exact(Rc c e f).bind λt z e1 a i=>(iO a i).bind λu d2 w h m=>Tr.ret h ((eK h.dv m).congr λb=>rfl)
 .exact(y7 c e f).bind λt z e1 a i=>Tr.ret a ((eK a.dv i).congr λb=>rfl)
 .exact(y7 c f e).bind λt z e1 a i=>(iO a i).bind λu d2 w h m=>Tr.ret h ((eK h.dv m).congr λb=>rfl)
 .exact(fk c e).bind λs z e1 a B=>(fk a (f.ext c.dv a.dv e1)).bind λt d2 w h i=>(it h (B.ext a.dv h.dv w) i).bind λu D C o m=>Tr.ret o ((eK o.dv m).congr λb=>rfl)
 .exact(fk c e).bind λs z e1 a B=>(fk a (f.ext c.dv a.dv e1)).bind λt d2 w h i=>(ot h (B.ext a.dv h.dv w) i).bind λu D C o m=>Tr.ret o ((eK o.dv m).congr λb=>rfl)
 exact(fk c e).bind λs z e1 a B=>(fk a (f.ext c.dv a.dv e1)).bind λt d2 w h i=>(iO h (B.ext a.dv h.dv w)).bind λv D C o H=>(ot o H (i.ext h.dv o.dv C)).bind λu I J E m=>Tr.ret E ((eK E.dv m).congr λb=>rfl)
theorem Vt (h:n<=20) {x:Vl} (e:OH n x) (a:Gd n d):Tr n d (vlB x) λf r=>Sw f r 16 λb=>vlV b x:=by
 cases x with
 |val v=>exact Tr.ret a ((gu a.dv (v:=v) (len:=16) e).congr λb=>rfl)
 |bits l w=>obtain⟨g,k⟩:=e;refine(OJ h w a g).bind λr j e1 c i=>Tr.ret c ?_;have:=SQ c.dv i (16-w);rw[show w+(16-w)=16 by omega] at this;exact this
theorem yY {V:ByteArray->Vl} {k:Nat} (j:∀(e:Ex) {d:List Nd},Gd n d->okE (λ_=>true) k e=true->Tr n d (iS V k e) λc r=>Sw c r 16 λb=>evT (λs=>vlV b (V s)) k e):
  ∀(l:List Ex) {d:List Nd},Gd n d->(∀a∈l,okE (λ_=>true) k a=true)->Tr n d (pQ (iS V k) l) λc ws=>Sws c 16 ws (l.map λe=>λb=>evT (λs=>vlV b (V s)) k e)
 |[],d,hg,h=>Tr.ret hg .nil
 |e::l,d,hg,h=>by refine(j e hg (h e (by simp))).bind λw q e1 g f=> ?_;refine(yY j l g (λa o=>h a (Ea _ o))).bind λr d2 m i p=> ?_;exact Tr.ret i (.cons (f.ext g.dv i.dv m) p)
theorem yc (L:n<=20) {V:ByteArray->Vl} (K:∀s,OH n (V s)):∀(k:Nat) (e:Ex) {d:List Nd},Gd n d->okE (λ_=>true) k e=true->Tr n d (iS V k e) λA r=>Sw A r 16 λb=>evT (λs=>vlV b (V s)) k e
 |0,e,d,hg,h=>by cases h
 |k+1,.mk op m name args,d,hg,h=>by
  obtain⟨l,S,T,U, -,M⟩:=ny h;refine(yY (λe=>yc L K k e) args hg M).bind λws J e1 o i=> ?_;by_cases H:op=1
  .subst H;rw[DP rfl];exact Tr.ret o ((gu o.dv (v:=m.toNat) (len:=16) (by omega)).congr λb=>rfl)
  rw[DK H];by_cases I:op=2
  .subst I;rw[DP rfl];exact(Vt L (K name) o).mono λr A _ _ q=>q.congr λb=>rfl
  rw[DK I];have u:∀b,evT (λs=>vlV b (V s)) (k+1) (.mk op m name args)=opT op (args.map (evT (λs=>vlV b (V s)) k)):=λb=>by show(if op=1 then _ else if op=2 then _ else _)=_;rw[DK H,DK I]
  by_cases y:op=23
  .subst y;match args,l,i with
   |[],l,i=>simp[ed] at l
   |a::tl,l,i=>
    cases i with
    |cons hw i=>rename_i w ws _;show Tr n J ((eA w ws 0).bind λt=>Bm.ret (aK t)) _;refine(rJ ws _ o hw i (fn0 o.dv)).bind λt d2 C z G=>Tr.ret z ?_;refine(eK z.dv G).congr λb=> ?_;rw[u b];show bN (false||sW _ _)=tN (eW _ _);rw[FJ,Qz,OU,Fe];rfl
  by_cases x:op=22
  .subst x;match args,l,i with
   |[],l,i=>simp[ed] at l
   |[a],l,i=>simp[ed] at l
   |[a,b],l,i=>simp[ed] at l
   |a::b::c::e::r,l,i=>simp[ed] at l
   |[a,b,c],l,i=>
    cases i with
    |cons ha i=>cases i with
     |cons hb i=>cases i with
      |cons hc i=>cases i with
       |nil=>
        rename_i wa wb wc;show Tr n J ((bH wa 0).bind λt=>dL (λf g=>fB t f g) wb wc) _;refine(fk o ha).bind λt d2 C z G=> ?_;refine(l9 (ω:=λβ p q=>if(decide (evT (λs=>vlV β (V s)) k a≠0))=true then p else q) (ρ:=λβ=>if evT (λs=>vlV β (V s)) k a≠0 then evT (λs=>vlV β (V s)) k b else evT (λs=>vlV β (V s)) k c) (λP g Q E=>Do g (G.ext z.dv g.dv P) Q E) z (hb.ext o.dv z.dv C) (hc.ext o.dv z.dv C) (λβ=> ?_) (λβ j=> ?_)).mono λr A _ _ q=>q.congr λβ=> ?_
        .split
         .exact hb.lt β
         exact hc.lt β
        .by_cases R:evT (λs=>vlV β (V s)) k a=0<;>simp[R]
        rw[u β];rfl
  by_cases F:op=4\/op=5\/op=6\/op=25
  .have B:zN args=1:=by unfold ed at l;rw[DK (by omega),DP F] at l;simpa using l
   match args,B,i with
   |[a],_,i=>
    cases i with
    |cons ha i=>cases i with
     |nil=>refine(Wc op F o ha).mono λr A _ _ q=>q.congr λb=> ?_;rw[u b];unfold opT;rw[DK x,DK y,DP (by simp)];rfl
  have B:7<=op/\op<=21/\zN args=2:=by unfold ed at l;rw[DK (by omega),DK F,DK x,DK y] at l;simp only[DW,Ef] at l;exact⟨l.1.1,l.1.2,l.2⟩
  obtain⟨N,D,B⟩:=B;match args,B,i with
  |[a,c],_,i=>
   cases i with
   |cons ha i=>cases i with
    |cons hc i=>cases i with
     |nil=>refine(Vv op N D o ha hc).mono λr A _ _ q=>q.congr λb=> ?_;rw[u b];unfold opT;rw[DK x,DK y,DK (by simp)];rfl
end
def dep:Nat:=24
def U4 (V:ByteArray->Vl) (e:Ex):Bm Nat:=(iS V dep e).bind λw=>bH w 0
def gL (V:ByteArray->Vl):List Ex->Nat->Bm Nat
 |[],t=>Bm.ret t
 |e::l,t=>(U4 V e).bind λf=>(et t f).bind λa=>gL V l a
def dq (σ:ByteArray->Nat) (l:List Ex):Bool:=l.all λe=>decide (evT σ dep e≠0)
section
variable {n:Nat} {d:List Nd}
def Tm (j:n<=20) {V:ByteArray->Vl} (g:∀s,OH n (V s)) {e:Ex} (i:Gd n d) (h:okE (λ_=>true) dep e=true):Tr n d (U4 V e) λa f=>Fn a f λb=>decide (evT (λs=>vlV b (V s)) dep e≠0):=(yc j g dep e i h).bind λw l e1 c k=>fk c k
theorem xW (j:n<=20) {V:ByteArray->Vl} (h:∀s,OH n (V s)):∀(l:List Ex) {d:List Nd} {t:Nat} {τ:bi->Bool},Gd n d->(∀e∈l,okE (λ_=>true) dep e=true)->Fn d t τ->Tr n d (gL V l t) λm k=>Fn m k λb=>τ b&&dq (λs=>vlV b (V s)) l
 |[],d,t,τ,hg,hl,ht=>Tr.ret hg (ht.congr λb=>by simp[dq])
 |e::l,d,t,τ,hg,hl,ht=>by refine(Tm j h hg (hl e (by simp))).bind λf u e1 g r=> ?_;refine(it g (ht.ext hg.dv g.dv e1) r).bind λk d2 w o c=> ?_;refine(xW j h l o (λa p=>hl a (Ea _ p)) c).mono λi v _ _ q=>q.congr λb=> ?_;unfold dq;rw[List.all_cons,Bool.and_assoc]
end
def bOf (l:List Bool):bi:=λk=>zG l k false
def vF (l:List Bool) (i w:Nat) (h:i+w<=zN l):kh (bOf l) i w=(l.drop i).take w:=by have e:kh (bOf l) i w=(List.range w).map λj=>zG l (i+j) false:=rfl;rw[e];refine Fz (by rw[DT,EV,D3,ET];omega) λj a b=> ?_;rw[DT,EV] at a;rw[List.getElem_map,List.getElem_range,List.getElem_take,List.getElem_drop,DC,DD (by omega)];rfl
def eO:List ByteArray->ByteArray->Option Nat
 |[],_=>none
 |x::l,s=>if x=s then some 0 else(eO l s).map (· +1)
theorem sY:∀{l:List ByteArray} {s:ByteArray} {i:Nat},eO l s=some i->i<zN l
 |[],s,i,h=>by cases h
 |x::l,s,i,h=>by
  unfold eO at h;split at h
  .simp only[DN] at h;subst h;simp
  cases hq:eO l s with
  |none=>rw[hq] at h;cases h
  |some j=>rw[hq] at h;simp only[ES,DN] at h;have:=sY hq;rw[DF];omega
def aM (names:List ByteArray) (a:List Nat) (s:ByteArray):Nat:=match eO names s with
 |some i=>zG a i 0
 |none=>0
def om (names:List ByteArray) (vs:List Wd) (b:List Ex):List (List Nat):=(bU vs).filter λa=>dq (aM names a) b
def goV (c:Nat->Nat):Nat->Nat->Nat->Nat×Nat
 |0,v,k=>(v,k)
 |m+1,v,k=>if k<c v then(v,k) else goV c m (v+1) (k-c v)
def vb (w v:Nat):List Bool:=(List.range w).map λk=>v.testBit (w-1-k)
def jL (w v:Nat):(vb w v).length=w:=by unfold vb;rw[DT,EV]
theorem Bf:∀(w v:Nat),fj (vb w v)=v%2^w
 |0,v=>by simp[vb,fj,Nat.mod_one]
 |w+1,v=>by
  have e:vb (w+1) v=vb w (v/2)++[v.testBit 0]:=by
   unfold vb;rw[List.range_succ,Fl,FY,List.map_nil];congr 1
   .refine Fc λk hk=> ?_;rw[Fv] at hk;rw[show w+1-1-k=(w-1-k)+1 by omega,Nat.testBit_succ]
   rw[show w+1-1-w=0 by omega]
  rw[e,rY,Bf w (v/2),Nat.testBit_zero,FB,FG (2^w) 2,Nat.mod_mul];by_cases h:v%2=1
  .simp[bN,h];omega
  have:v%2=0:=by omega
  simp[bN,this]
def dA:List Wd->List Nat->List Nat×Bool
 |[],_=>([],true)
 |v::vs,a=>
  let r:=dA vs a.tail
  if r.2=false then(a.headD 0::r.1,false)
  else match v.fixed with
   |some x=>(a.headD 0::r.1,true)
   |none=>if a.headD 0+1<2^v.w then((a.headD 0+1)::r.1,false) else(0::r.1,true)
def fu:List Wd->List Nat
 |[]=>[]
 |v::vs=>(match v.fixed with |some x=>x|none=>0)::fu vs
def OM (v:Wd):0<(aX v).length:=by
 unfold aX;split
 .simp
 rw[EV];exact Fq (by simp)
theorem o9:∀(vs:List Wd),0<(bU vs).length
 |[]=>by simp[bU]
 |v::vs=>by
  have b:=o9 vs;have a:=OM v;unfold bU;cases hv:aX v with
  |nil=>rw[hv] at a;simp at a
  |cons x r=>rw[EM,DI,DT];omega
theorem AN {α β:Type} {f:α->List β} {m:Nat} (hm:0<m):∀(l:List α),(∀a∈l,(f a).length=m)->(l.flatMap f).length=zN l*m/\∀j,j<(l.flatMap f).length->(l.flatMap f)[j]? =(l[j/m]?).bind λa=>(f a)[j%m]?
 |[],h=>⟨by simp,λj d=>by simp at d⟩
 |a::l,h=>by
  have⟨i,k⟩:=AN hm l (λb n=>h b (Ea _ n));have e:=h a (by simp);refine⟨by rw[EM,DI,i,e,DF,Nat.succ_mul];omega,λj d=> ?_⟩;rw[EM] at d⊢;by_cases c:j<m
  .rw[D6 (by omega),Nat.div_eq_of_lt c,E9 c];rfl
  rw[DX (by omega),e,k (j-m) (by rw[DI] at d;omega)];have e1:j/m=(j-m)/m+1:=Nat.div_eq_sub_div hm (by omega);have g:j%m=(j-m)%m:=Nat.mod_eq_sub_mod (by omega);rw[e1,g];rfl
def Se (v:Wd) (vs:List Wd):(bU (v::vs)).length=(aX v).length*(bU vs).length/\∀j,j<(bU (v::vs)).length->(bU (v::vs))[j]? =(aX v)[j/(bU vs).length]?.bind λx=>((bU vs)[j%(bU vs).length]?).map (x:: ·):=by have⟨b,c⟩:=AN (f:=λx=>(bU vs).map (x:: ·)) (m:=(bU vs).length) (o9 vs) (aX v) (λa _=>by rw[DT]);refine⟨b,λj d=> ?_⟩;show((aX v).flatMap λx=>(bU vs).map (x:: ·))[j]? =_;rw[c j d];congr 1;funext x;rw[Ed]
theorem qm:∀(vs:List Wd),(bU vs)[0]? =some (fu vs)
 |[]=>rfl
 |v::vs=>by
  have⟨c,a⟩:=Se v vs;rw[a 0 (o9 _),Nat.zero_div,Nat.zero_mod,qm vs];have b:fu (v::vs)=(match v.fixed with |some x=>x|none=>0)::fu vs:=rfl;rw[b];unfold aX;generalize fu vs=fs;cases v.fixed with
  |some x=>rfl
  |none=>simp only;rw[EZ (Fq (by simp))];rfl
theorem Sk:∀(vs:List Wd) (j:Nat) (a:List Nat),(bU vs)[j]? =some a->(j+1<(bU vs).length->(bU vs)[j+1]? =some (dA vs a).1/\(dA vs a).2=false)/\(j+1=(bU vs).length->(dA vs a).1=fu vs/\(dA vs a).2=true)
 |[],j,a,h=>by
  have A:j<1:=by have:=(D0.1 h).1;simpa [bU] using this
  have i:(bU []).length=1:=rfl;exact⟨λh=>by omega,λ_=>⟨rfl,rfl⟩⟩
 |v::vs,j,a,h=>by
  have⟨n,z⟩:=Se v vs;have hm:=o9 vs;have A:=(D0.1 h).1;obtain⟨m,k⟩:∃m,m=(bU vs).length:=⟨_,rfl⟩;rw[<-k] at n z hm;rw[z j A] at h;have I:j%m<m:=FQ _ hm;have E:j%m<(bU vs).length:=by rw[<-k];exact I
  have o:j/m<(aX v).length:=by rw[n] at A;exact(Nat.div_lt_iff_lt_mul hm).2 A
  obtain⟨x,p⟩:∃x,(aX v)[j/m]? =some x:=⟨_,DD o⟩;obtain⟨t,J⟩:∃t,(bU vs)[j%m]? =some t:=⟨_,DD E⟩;rw[p,Option.bind_some,J,ES,DN] at h;subst h;have⟨K,L⟩:=Sk vs (j%m) t J;rw[<-k] at K L;have r:=Nat.div_add_mod j m;have d:dA (v::vs) (x::t)=if(dA vs t).2=false then(x::(dA vs t).1,false) else match v.fixed with
   |some y=>(x::(dA vs t).1,true)
   |none=>if x+1<2^v.w then((x+1)::(dA vs t).1,false) else(0::(dA vs t).1,true):=rfl
  by_cases b:j%m+1<m
  .have⟨q,C⟩:=K b;rw[d,DP C];have f:(j+1)/m=j/m:=by rw[<-r,Nat.add_assoc,Nat.mul_add_div hm,Nat.div_eq_of_lt b,Nat.mul_add_div hm,Nat.div_eq_of_lt I]
   have l:(j+1)%m=j%m+1:=by
    conv=>lhs;rw[<-r,Nat.add_assoc,Nat.mul_add_mod]
    exact E9 b
   have c:j+1<(bU (v::vs)).length:=by rw[n];have:(j/m+1)*m<=(aX v).length*m:=Nat.mul_le_mul_right _ o;rw[Nat.add_mul,FG (j/m)] at this;omega
   refine⟨λ_=>⟨?_,rfl⟩,λD=>by omega⟩;rw[z (j+1) c,f,l,p,Option.bind_some,q];rfl
  have D:j%m+1=m:=by omega
  have⟨q,C⟩:=L D;rw[d,DK (by rw[C];simp)];have f:(j+1)/m=j/m+1:=by
   have e:j+1=m*(j/m+1):=by rw[Nat.mul_add];omega
   rw[e,Nat.mul_div_cancel_left _ hm]
  have l:(j+1)%m=0:=by rw[show j+1=m*(j/m+1) by rw[Nat.mul_add];omega,Nat.mul_mod_right]
  have g:j+1=(j/m+1)*m:=by rw[FG,Nat.mul_add];omega
  cases hf:v.fixed with
  |some y=>
   have u:(aX v).length=1:=by unfold aX;rw[hf];rfl
   have s:j/m=0:=by rw[u] at o;exact Nat.lt_one_iff.1 o
   simp only;refine⟨λi=> ?_,λ_=>⟨?_,by first|rfl|trivial⟩⟩
   .rw[n,u] at i;rw[s] at g;omega
   have H:x=y:=by
    have F:aX v=[y]:=by unfold aX;rw[hf]
    rw[F,s] at p;simpa using p.symm
   rw[q,H];show _=(match v.fixed with |some x=>x|none=>0)::fu vs;rw[hf]
  |none=>
   have B:aX v=List.range (2^v.w):=by unfold aX;rw[hf]
   have G:x=j/m:=by rw[B,EZ (by rw[B,EV] at o;exact o)] at p;simpa using p.symm
   have w:(aX v).length=2^v.w:=by rw[B,EV]
   simp only;by_cases c:x+1<2^v.w
   .rw[DP c];have i:j+1<(bU (v::vs)).length:=by rw[n,w,g];exact Nat.mul_lt_mul_of_pos_right (by omega) hm
    refine⟨λ_=>⟨?_,rfl⟩,λD=>by omega⟩;rw[z (j+1) i,f,l,qm vs,B,EZ (by omega),q,G];rfl
   rw[DK c];refine⟨λi=> ?_,λ_=>⟨?_,rfl⟩⟩
   .rw[n,w,g] at i;have:j/m+1<2^v.w:=Nat.lt_of_mul_lt_mul_right i;omega
   rw[q];show _=(match v.fixed with |some x=>x|none=>0)::fu vs;rw[hf]
def bF (d:List Nd):Nat->List Bool->Nat->Nat
 |_,[],f=>f
 |l,b::bs,f=>bF d (l+1) bs (if lvA d f=l then(if b=true then(ndA d f).hi else(ndA d f).lo) else f)
theorem nS (d:List Nd):∀(a cs:List Bool) (l f:Nat),bF d l (a++cs) f=bF d (l+zN a) cs (bF d l a f)
 |[],cs,l,f=>by simp[bF]
 |b::a,cs,l,f=>by show bF d (l+1) (a++cs) _=_;rw[nS d a cs (l+1),DF];rw[show l+1+zN a=l+(zN a+1) by omega];rfl
theorem qB {d:List Nd} {n:Nat} (h:DV d) (o:n<=20) (m:Lim d n):∀(a:List Bool) (l f:Nat),f<zN d->l+zN a<=n->l<=bT d n f->bF d l a f<zN d/\l+zN a<=bT d n (bF d l a f)/\∀rest,evL d l (a++rest) f=evL d (l+zN a) rest (bF d l a f)
 |[],l,f,hf,hl,hlv=>⟨hf,by simpa [bF] using hlv,λrest=>rfl⟩
 |b::a,l,f,hf,hl,hlv=>by
  rw[DF] at hl⊢;have q:bF d l (b::a) f=bF d (l+1) a (if lvA d f=l then(if b=true then(ndA d f).hi else(ndA d f).lo) else f):=rfl;rw[q];by_cases e:lvA d f=l
  .have c:lvA d f<20:=by omega
   have k:=(h.lvlt hf).1 c;have⟨s,t,u,_,v,w⟩:=h.pl f k hf;rw[DP e];have p:(if b=true then(ndA d f).hi else(ndA d f).lo)<zN d/\l+1<=bT d n (if b=true then(ndA d f).hi else(ndA d f).lo):=by
    split
    .exact⟨by omega,by unfold bT;omega⟩
    exact⟨by omega,by unfold bT;omega⟩
   have⟨i,r,j⟩:=qB h o m a (l+1) _ p.1 (by omega) p.2;refine⟨i,by omega,λrest=> ?_⟩;rw[List.cons_append,qt h k hf e.symm];rw[show l+(zN a+1)=l+1+zN a by omega,<-j rest];split<;>rfl
  rw[DK e];have g:l<lvA d f:=by unfold bT at hlv;omega
  have⟨i,r,j⟩:=qB h o m a (l+1) f hf (by omega) (by unfold bT;omega);refine⟨i,by omega,λrest=> ?_⟩;rw[List.cons_append,kd h hf g,show l+(zN a+1)=l+1+zN a by omega,<-j rest]
def fH:List Wd->Nat
 |[]=>0
 |v::vs=>v.w+fH vs
def dB (f:Nat->Nat) (l:List Nat):Nat:=l.foldl (λs x=>s+f x) 0
theorem tw (f:Nat->Nat):∀(l:List Nat) (s:Nat),l.foldl (λs x=>s+f x) s=s+dB f l
 |[],s=>rfl
 |x::l,s=>by unfold dB;rw[EH,EH,tw f l,tw f l (0+f x)];omega
def bQ (f:Nat->Nat) (x:Nat) (l:List Nat):dB f (x::l)=f x+dB f l:=by show(x::l).foldl (λs x=>s+f x) 0=_;rw[EH,tw];omega
theorem iw {f g:Nat->Nat}:∀{l:List Nat},(∀x∈l,f x=g x)->dB f l=dB g l
 |[],_=>rfl
 |x::l,h=>by rw[bQ,bQ,h x (by simp),iw (λy a=>h y (Ea _ a))]
def chP (F:List Nat->Nat):List Nat->List Nat->Nat->List Nat
 |[],p,_=>p
 |w::ws,p,k=>chP F ws (p++[(goV (λv=>F (p++[v])) (2^w) 0 k).1]) (goV (λv=>F (p++[v])) (2^w) 0 k).2
theorem AC {c:Nat->Nat}:∀(m v k:Nat),k<dB c (List.range' v m)->v<=(goV c m v k).1/\(goV c m v k).1<v+m/\(goV c m v k).2<c (goV c m v k).1
 |0,v,k,h=>by simp[dB] at h
 |m+1,v,k,h=>by
  rw[List.range'_succ,bQ] at h;unfold goV;by_cases hk:k<c v
  .rw[DP hk];exact⟨DE _,by show v<_;omega,hk⟩
  rw[DK hk];have⟨b,d,a⟩:=AC (c:=c) m (v+1) (k-c v) (by omega);exact⟨by omega,by omega,a⟩
end
section
open Go.RowKit
structure Rd (α:Type) where
 k:Nat
 ts:List TypeId
 pos:0<k
 R:World->List Value->α->(Nat->Prop)->Prop
 len:∀{w us x F},R w us x F->zN us=k
 one:∀{w us x F},R w us x F->∀u∈us,u.oneCell'=true
 mono:∀{w us x F G},R w us x F->(∀b,F b->G b)->R w us x G
 same:∀{w w' us x F},R w us x F->w.heap.size<=w'.heap.size->(∀b,b<w.heap.size->F b->w'.heap[b]? =w.heap[b]?)->R w' us x F
def ah:Nat->Prop:=λ_=>True
def BH {w:World} {a:Addr} {v:Value} (h:w.cell? a=some v):a.spot=none:=by
 unfold World.cell? at h;split at h
 .split at h
  .cases h
  rename_i hs;simpa using hs
 cases h
def cC {b o:Nat} (j:Nat):(⟨b,o,none⟩:Addr).add j=⟨b,o+j,none⟩:=by
 unfold Addr.add;split
 .rename_i h;subst h;rfl
 rfl
def fN {w w':World} {b i:Nat} (h:w'.heap[b]? =w.heap[b]?):w'.cell? ⟨b,i,none⟩=w.cell? ⟨b,i,none⟩:=World.cell?_of_block (a:=⟨b,i,none⟩) h
section
variable {α:Type} {φ:Rd α} {w w':World} {v:Value} {xs ys:List α} {F G:Nat->Prop}
def Rs (φ:Rd α) (w:World) (v:Value) (xs:List α) (F:Nat->Prop):Prop:=
 ∃(A:Option Addr) (c:Nat),v=zU A (zN xs) c/\zN xs<=c/\(0<zN xs->∃b o,A=some ⟨b,o,none⟩/\b<w.heap.size∧
  ∀j x,xs[j]? =some x->∃us,(∀i,i<φ.k->w.cell? ⟨b,o+j*φ.k+i,none⟩=us[i]?)/\φ.R w us x F)
def Rs.nil (φ:Rd α) (w:World) (F:Nat->Prop):Rs φ w (zU none 0 0) [] F:=⟨none,0,rfl,DE _,λh=>absurd h (by simp)⟩
def Rs.mono (h:Rs φ w v xs F) (e:∀b,F b->G b):Rs φ w v xs G:=by obtain⟨A,c,rfl,g,h⟩:=h;refine⟨A,c,rfl,g,λk=> ?_⟩;obtain⟨b,o,rfl,f,h⟩:=h k;refine⟨b,o,rfl,f,λj x i=> ?_⟩;have⟨us,a,d⟩:=h j x i;exact⟨us,a,φ.mono d e⟩
def Rs.same (h:Rs φ w v xs F) (a:w.heap.size<=w'.heap.size) (m:∀b,v.ownBlock=some b->w'.heap[b]? =w.heap[b]?) (hk:∀b,b<w.heap.size->F b->w'.heap[b]? =w.heap[b]?):Rs φ w' v xs F:=by obtain⟨A,c,rfl,g,h⟩:=h;refine⟨A,c,rfl,g,λl=> ?_⟩;obtain⟨b,o,rfl,f,h⟩:=h l;refine⟨b,o,rfl,DU f a,λj x k=> ?_⟩;have⟨us,d,e⟩:=h j x k;exact⟨us,λi hi=>by rw[fN (m b rfl)];exact d i hi,φ.same e a hk⟩
def Rs.Q (h:Rs φ w v xs F) (d:zL w w'):Rs φ w' v xs F:=by
 by_cases i:0<zN xs
 .refine h.same d.size (λb a=> ?_) (λb f _=>d.block b f);obtain⟨A,c,rfl,g,h⟩:=h;obtain⟨j,o,rfl,e,_⟩:=h i;simp only[Value.ownBlock,DN] at a;subst a;exact d.block _ e
 obtain⟨A,c,rfl,g,_⟩:=h;exact⟨A,c,rfl,g,λh=>absurd h i⟩
instance:Zm w w' (Rs φ w v xs F) (Rs φ w' v xs F):=⟨λhb h=>Rs.Q h hb⟩
def Rs.slice (h:Rs φ w v xs F):∃A c,v=zU A (zN xs) c/\zN xs<=c:=by obtain⟨A,c,rfl,a,_⟩:=h;exact⟨A,c,rfl,a⟩
def Rs.form (h:Rs φ w v xs F):(∃A c,v=zU A 0 c/\xs=[])\/∃b o c,v=zU (some ⟨b,o,none⟩) (zN xs) c/\zN xs<=c/\0<zN xs/\b<w.heap.size∧∀j x,xs[j]? =some x->∃us,(∀i,i<φ.k->w.cell? ⟨b,o+j*φ.k+i,none⟩=us[i]?)/\φ.R w us x F:=by
 obtain⟨A,c,rfl,e,h⟩:=h;by_cases a:0<zN xs
 .obtain⟨b,o,rfl,d,h⟩:=h a;exact zO ⟨b,o,c,rfl,e,a,d,h⟩
 obtain rfl:xs=[]:=Ec (by omega);exact zQ ⟨A,c,rfl,rfl⟩
theorem Rs.rows (h:Rs φ w v xs F):∃uss:List (List Value),zN uss=zN xs/\(∀j x,xs[j]? =some x->φ.R w (zG uss j []) x F)∧
  (0<zN xs->∃b o c,v=zU (some ⟨b,o,none⟩) (zN xs) c/\b<w.heap.size/\∀j i,j<zN xs->i<φ.k->w.cell? ⟨b,o+j*φ.k+i,none⟩=(zG uss j [])[i]?):=by
 rcases h.form with⟨A,c,rfl,rfl⟩|⟨b,o,c,rfl,t,u,l,g⟩
 .exact⟨[],rfl,λj x h=>by simp at h,λh=>by simp at h⟩
 have p:∀n,n<=zN xs->∃uss:List (List Value),zN uss=n/\∀j x,j<n->xs[j]? =some x->φ.R w (zG uss j []) x F/\∀i,i<φ.k->w.cell? ⟨b,o+j*φ.k+i,none⟩=(zG uss j [])[i]? :=by
  intro n;induction n with
  |zero=>intro _;exact⟨[],rfl,λj x h=>by omega⟩
  |succ n ih=>
   intro y;have⟨uss,d,s⟩:=ih (by omega);have⟨us,q,r⟩:=g n _ (DD (by omega));refine⟨uss++[us],by simp[d],λj x k a=> ?_⟩;by_cases e:j<n
   .rw[show(uss++[us]).getD j []=zG uss j [] by simp[DC,D6 (show j<zN uss by omega)]];exact s j x e a
   obtain rfl:j=n:=by omega
   rw[show(uss++[us]).getD j []=us by rw[<-d];simp[DC]];rw[DD (by omega),DN] at a;subst a;exact⟨r,q⟩
 have⟨uss,m,f⟩:=p (zN xs) (DE _);exact⟨uss,m,λj x a=>(f j x (by have:=(D0.1 a).1;exact this) a).1,λ_=>⟨b,o,c,rfl,l,λj i k hi=>(f j _ k (DD k)).2 i hi⟩⟩
end
theorem jb {k:Nat}:∀{uss:List (List Value)},(∀us∈uss,zN us=k)->zN uss.flatten=zN uss*k
 |[],_=>by simp
 |us::r,h=>by rw[FP,DI,jb (λu a=>h u (Ea _ a)),h us (by simp),DF,Nat.add_mul,Nat.one_mul,Nat.add_comm]
theorem ei {k:Nat}:∀{uss:List (List Value)},(∀us∈uss,zN us=k)->∀j i,i<k->uss.flatten[j*k+i]? =(uss[j]?).bind (λus=>us[i]?)
 |[],_,j,i,_=>by simp
 |us::r,h,0,i,hi=>by rw[FP,Nat.zero_mul,DY,D6 (by rw[h us (by simp)];exact hi)];simp
 |us::r,h,j+1,i,hi=>by have a:=h us (by simp);rw[FP,DX (by rw[a,Nat.add_mul];omega),a,show(j+1)*k+i-k=j*k+i by rw[Nat.add_mul];omega,ei (λu a=>h u (Ea _ a)) j i hi];simp
def Ty (w:World) (B:Nat) (ts:List TypeId) (b:Nat):Prop:=b<B\/∃cs e a,w.heap[b]? =some (zC cs e a)/\e∈ts
def my {w:World} {b:Nat} {o:Obj} (h:w.heap[b]? =some o):b<w.heap.size:=(Fj.1 h).1
def Ty.keep {w w':World} {B:Nat} {ts:List TypeId} {b:Nat} (h:Ty w B ts b) (hk:b<w.heap.size->w'.heap[b]? =w.heap[b]?):Ty w' B ts b:=by
 rcases h with h|⟨cs,e,c,a,d⟩
 .exact zQ h
 exact zO ⟨cs,e,c,(hk (my a)).trans a,d⟩
def Ty.box {w:World} {B g:Nat} {ts:List TypeId} {T:TypeId} {cs:Array Value} {b:Nat} (h:Ty w B ts b) (c:Box w g cs T) (f:T∉ts) (k:B<=g):b≠g:=λe=>by
 subst e;rcases h with h|⟨d,e,j,a,i⟩
 .omega
 unfold Box at c;rw[c] at a;simp only[DN,Fk] at a;exact f (a.2.1▸i)
def Ty.row {w:World} {B C:Nat} {ts:List TypeId} {T:TypeId} {size:Nat} {v:Value} {n:Nat} {xs:List Value} {b:Nat} (h:Ty w C ts b) (i:T∉ts) (f:C<=B) (d:w.ownsRow B T size v n xs):v.ownBlock≠some b:=λe=>by
 have o:=i7 d b e;rcases h with m|⟨cs,k,l,a,j⟩
 .omega
 rcases d.2 with⟨rfl,_⟩|⟨g,cap,cur,rfl,_,c,_⟩
 .simp[Value.ownBlock] at e
 simp only[Value.ownBlock,DN] at e;subst e;rw[c] at a;simp only[DN,Fk] at a;exact i (a.2.1▸j)
section
variable {α:Type} {φ:Rd α} {w w':World} {B C:Nat} {T:TypeId} {v v':Value} {xs ys:List α}
def OG (φ:Rd α) (w:World) (B C:Nat) (T:TypeId) (v:Value) (xs:List α):Prop:=(T∉φ.ts/\C<=B)/\∃uss:List (List Value),zN uss=zN xs/\w.ownsRow B T φ.k v (zN xs) uss.flatten/\∀j x,xs[j]? =some x->φ.R w (zG uss j []) x (Ty w C φ.ts)
def OG.nil (φ:Rd α) (w:World) (B C:Nat) (T:TypeId) (b:T∉φ.ts) (a:C<=B):OG φ w B C T (zU none 0 0) []:=⟨⟨b,a⟩,[],rfl,World.ownsRow_nil _ _ _ _,λj x h=>by simp at h⟩
def OG.slice (h:OG φ w B C T v xs):∃A c,v=zU A (zN xs) c:=by
 obtain⟨_,uss,_,b,_⟩:=h;rcases b.2 with⟨rfl,a⟩|⟨g,cap,cur,rfl,_⟩
 .exact⟨none,0,by rw[a]⟩
 exact⟨_,cap,rfl⟩
def OG.blk (h:OG φ w B C T v xs):∀q,v.ownBlock=some q->B<=q:=by obtain⟨_,uss,_,a,_⟩:=h;exact λq b=>i7 a q b
def kz {us:List Value} {x:α} (h:φ.R w us x (Ty w C φ.ts)) (d:w.heap.size<=w'.heap.size) (hk:∀b,b<w.heap.size->Ty w C φ.ts b->w'.heap[b]? =w.heap[b]?):φ.R w' us x (Ty w' C φ.ts):=φ.mono (φ.same h d hk) λb a=>a.keep λc=>hk b c a
def OG.Q (h:OG φ w B C T v xs) (a:zL w w'):OG φ w' B C T v xs:=by obtain⟨d,uss,g,i,e⟩:=h;exact⟨d,uss,g,rB i a,λj x f=>kz (e j x f) a.size λb c _=>a.block b c⟩
instance:Zm w w' (OG φ w B C T v xs) (OG φ w' B C T v xs):=⟨λhb h=>OG.Q h hb⟩
def OG.rs (h:OG φ w B C T v xs):Rs φ w v xs (Ty w C φ.ts):=by
 obtain⟨q,uss,s,l,e⟩:=h;have k:=l;have d:∀us∈uss,zN us=φ.k:=λus o=>by obtain⟨j,b,rfl⟩:=D9.1 o;have:=φ.len (e j _ (DD (by omega)));rwa [DC,DD b] at this
 rcases l.2 with⟨rfl,m⟩|⟨g,cap,cur,rfl,r,n,f,_⟩
 .obtain rfl:xs=[]:=Ec m;exact Rs.nil φ w _
 refine⟨_,cap,rfl,f,λt=>⟨g,0,rfl,my n,λj x b=>⟨zG uss j [],λi hi=> ?_,e j x b⟩⟩⟩;have c:j<zN uss:=by have:=(D0.1 b).1;omega
 have p:(zG uss j []).length=φ.k:=φ.len (e j x b);have a:uss.flatten[j*φ.k+i]? =some ((zG uss j [])[i]'(by omega)):=by rw[ei d j i hi,DD c];simp only[DC,DD c,EQ,Option.bind_some];exact DD _
 have:=k.cells (g:=g) rfl (j*φ.k+i) _ a;rw[cC,<-Nat.add_assoc] at this;rw[this];exact(DD _).symm
def OG.any (h:OG φ w B C T v xs):Rs φ w v xs ah:=h.rs.mono λ_ _=>trivial
def OG.grow (h:OG φ w B C T v xs) {i:Value} {t size:Nat} {s:List Value} {k:TypeId} {B1:Nat} (c:k∉φ.ts) (a:C<=B1) (r:w.ownsRow B1 k size i t s) (d:w.grownBy w' i.ownBlock) (g:v.ownBlock=none\/v.ownBlock≠i.ownBlock):OG φ w' B C T v xs:=by obtain⟨l,uss,p,q,n⟩:=h;exact⟨l,uss,p,q.kept d g,λj x o=>kz (n j x o) d.size λb f m=>d.block b f λe=>m.row c a r e.symm⟩
def OG.pushes {uss us2:List (List Value)} (f:T∉φ.ts/\C<=B) (l:zN uss=zN xs) (o:w.ownsRow B T φ.k v (zN xs) uss.flatten) (n:∀j x,xs[j]? =some x->φ.R w (zG uss j []) x (Ty w C φ.ts)) (d:zN us2=zN ys) (p:∀j x,ys[j]? =some x->φ.R w (zG us2 j []) x (Ty w C φ.ts)) (i:w'.ownsRow B T φ.k v' (zN xs+zN ys) (uss.flatten++us2.flatten)) (k:w.grownBy w' v.ownBlock):OG φ w' B C T v' (xs++ys):=by
 have a:∀us x,φ.R w us x (Ty w C φ.ts)->φ.R w' us x (Ty w' C φ.ts):=λus x h=>kz h k.size λb g m=>k.block b g λe=>m.row f.1 f.2 o e.symm;refine⟨f,uss++us2,by simp[l,d],by simpa using i,λj x c=> ?_⟩;by_cases e:j<zN xs
 .rw[D6 e] at c;rw[show(uss++us2).getD j []=zG uss j [] by simp[DC,D6 (show j<zN uss by omega)]];exact a _ _ (n j x c)
 rw[DX (by omega)] at c;rw[show(uss++us2).getD j []=zG us2 (j-zN xs) [] by simp[DC,DX (show zN uss<=j by omega),l]];exact a _ _ (p _ x c)
def OG.setBox (h:OG φ w B C T v xs) {g:Nat} {cs:Array Value} {T':TypeId} (m:Box w g cs T') (a:T'∉φ.ts) (o:C<=g) (l:T'≠T) (i:Nat) (u:Value):OG φ (w.setCell ⟨g,i,none⟩ u) B C T v xs:=by
 obtain⟨p,uss,s,n,q⟩:=h;have hk:∀b,b≠g->(w.setCell ⟨g,i,none⟩ u).heap[b]? =w.heap[b]? :=λb c=>Eo w ⟨g,i,none⟩ u b c;refine⟨p,uss,s,n.kept (row:=some g) ⟨rfl,rfl,rfl,by simp[World.setCell],λk _ f=>hk k (λe=>f (by rw[e]))⟩ (zO λe=> ?_),λj x r=>kz (q j x r) (by simp[World.setCell]) λb _ c=>hk b (c.box m a o)⟩;rcases n.2 with⟨rfl,_⟩|⟨t,cap,cur,rfl,_,d,_⟩
 .simp[Value.ownBlock] at e
 simp only[Value.ownBlock,DN] at e;subst e;unfold Box at m;rw[m] at d;simp only[DN,Fk] at d;exact l d.2.1
def F4 {n size:Nat} {v:Value} {ls:List Value} (h:w.ownsRow B T size v n ls) (hk:∀b,v.ownBlock=some b->w'.heap[b]? =w.heap[b]?):w'.ownsRow B T size v n ls:=by
 refine⟨h.1, ?_⟩;rcases h.2 with a|⟨g,cap,cur,rfl,d,e,c⟩
 .exact zQ a
 exact zO ⟨g,cap,cur,rfl,d,(hk g rfl).trans e,c⟩
def pF {B' n size:Nat} {v:Value} {ls:List Value} (h:w.ownsRow B T size v n ls) (d:B'<=B):w.ownsRow B' T size v n ls:=by
 refine⟨h.1, ?_⟩;rcases h.2 with b|⟨g,cap,cur,rfl,a,c⟩
 .exact zQ b
 exact zO ⟨g,cap,cur,rfl,D2 d a,c⟩
def F5 {n size:Nat} {v:Value} {d:List Value} (h:w.ownsRow B T size v n d):∀b,v.ownBlock=some b->b<w.heap.size:=λb a=>by
 rcases h.2 with⟨rfl,_⟩|⟨g,cap,cur,rfl,_,c,_⟩
 .simp[Value.ownBlock] at a
 simp only[Value.ownBlock,DN] at a;subst a;exact my c
def OG.growO {β:Type} {ψ:Rd β} {B1 o:Nat} {c:TypeId} {n:Value} {zs:List β} (h:OG φ w B C T v xs) (p:OG ψ w B1 o c n zs) (q:w.grownBy w' n.ownBlock) (i:T≠c) (f:c∉φ.ts) (d:C<=B1):OG φ w' B C T v xs:=by
 obtain⟨_,m,_,b,_⟩:=p;refine h.grow f d b q ?_;obtain⟨_,uss,_,r,_⟩:=h;rcases r.2 with⟨rfl,_⟩|⟨g,cap,cur,rfl,_,j,_⟩
 .exact zQ rfl
 refine zO λe=> ?_;rcases b.2 with⟨rfl,_⟩|⟨s,k,l,rfl,_,a,_⟩
 .simp[Value.ownBlock] at e
 simp only[Value.ownBlock,DN] at e;subst e;rw[j] at a;simp only[DN,Fk] at a;exact i a.2.1
def dC (X:Nat->Prop) (w w':World):Prop:=w.heap.size<=w'.heap.size/\∀b,b<w.heap.size->¬X b->w'.heap[b]? =w.heap[b]?
def dC.mono {X Y:Nat->Prop} (h:dC X w w') (a:∀b,X b->Y b):dC Y w w':=⟨h.1,λb c e=>h.2 b c λd=>e (a b d)⟩
def dC.refl (X:Nat->Prop) (w:World):dC X w w:=⟨DE _,λ_ _ _=>rfl⟩
def dC.Q {X:Nat->Prop} {w2:World} (h:dC X w w') (a:zL w' w2):dC X w w2:=⟨D2 h.1 a.size,λb c d=>(a.block b (DU c h.1)).trans (h.2 b c d)⟩
instance {X:Nat->Prop} {w2:World}:Zm w' w2 (dC X w w') (dC X w w2):=⟨λhb h=>dC.Q h hb⟩
def dC.set {X:Nat->Prop} (h:dC X w w') {p:Addr} (a:X p.block\/w.heap.size<=p.block) (u:Value):dC X w (w'.setCell p u):=by
 refine⟨by simpa [World.setCell] using h.1,λb d c=>(Eo w' p u b λe=> ?_).trans (h.2 b d c)⟩;subst e;rcases a with a|a
 .exact c a
 omega
def dC.grown {X:Nat->Prop} {w2:World} {row:Option Nat} (h:dC X w w') (a:w'.grownBy w2 row) (g:∀q,row=some q->X q\/w.heap.size<=q):dC X w w2:=by
 refine⟨D2 h.1 a.size,λb c f=>(a.block b (DU c h.1) λe=> ?_).trans (h.2 b c f)⟩;rcases g b e.symm with d|d
 .exact f d
 omega
def OG.boxKept (h:OG φ w B C T v xs) (f:w.grownBy w' v.ownBlock) {g:Nat} {cs:Array Value} {T':TypeId} (c:Box w g cs T') (a:T'≠T\/g<B):Box w' g cs T':=by
 refine(f.block g c.lt λe=> ?_).trans c;obtain⟨j,uss,l,d,k⟩:=h;rcases a with a|a
 .rcases d.2 with⟨rfl,_⟩|⟨i,cap,cur,rfl,_,b,_⟩
  .simp[Value.ownBlock] at e
  simp only[Value.ownBlock,DN] at e;subst e;unfold Box at c;rw[c] at b;simp only[DN,Fk] at b;exact a b.2.1
 have:=i7 d g e.symm;omega
def OG.belowG (h:OG φ w B C T v xs) (d:w.grownBy w' v.ownBlock) {a:Nat} {w0:World} (c:Below a w0 w) (f:a<=w.heap.size) (b:a<=B):Below a w0 w':=c.grown d f λq e=>D2 b (h.blk q e)
def Rs.one {F:Nat->Prop} {us:List Value} {x:α} (h:φ.R w us x F) (t:TypeId):Rs φ (w.alloc (zC us.toArray t)) (zU (some ⟨w.heap.size,0,none⟩) 1 1) [x] F:=by
 refine⟨_,1,rfl,DE _,λ_=>⟨_,_,rfl,by simp,λj y a=>⟨us,λi hi=> ?_, ?_⟩⟩⟩
 .obtain rfl:j=0:=by have:=(D0.1 a).1;simp at this;exact this
  have:=heap_alloc_new w (zC us.toArray t);rw[cell_of_row _ _ _ us.toArray t (0,0) this];simp
 obtain rfl:j=0:=by have:=(D0.1 a).1;simp at this;exact this
 obtain rfl:x=y:=by simpa using a
 exact φ.same h (by simp) λb c _=>heap_alloc_old _ _ c
def iU {P:Program} {w:World} (base:Nat) (t ty e:TypeId) (i:TypeInfo) (size c:Nat) (d:P.underlying t=some (.slice e)) (hi:P.info? e=some i) (v:Value) (n:Nat) (xs:List Value) (a:w.ownsRow base e size v n xs):(Builtin.append_ #[t,t] ty #[v,.slice none 0 c]).run P w= .ok v w:=by
 rcases a.2 with⟨rfl,rfl⟩|⟨g,cap,cur,rfl,_,_,b,_⟩
 .simp[Builtin.append_,run_underlying d,sizeOf,typeInfo,hi,Builtin.lenOf,Builtin.firstCells]
 simp[Builtin.append_,run_underlying d,sizeOf,typeInfo,hi,Builtin.lenOf,Builtin.firstCells,b,storeCells]
section
variable {P:Program} {ops:Array Oper} {rest:List Oper} {o:Oper} {a:Act} {Q:Exit->Act->World->Prop}
theorem aD (D:o.guard=none) (s x:Operand) (t:TypeId) (ho:o.op= .call {callee:= .builtin .append,args:=#[s,x],argTypes:=#[t,t]})
  (i:TypeInfo) (z:Value) (bytes:Nat) (ht:P.underlying t=some (.slice T)) (hi:P.info? T=some i) (hz:i.zero=some z) (r:i.size=φ.k) (J:i.bytes=bytes) (S:z.cells.size=φ.k)
  (hs:a.eval s=v) (F:OG φ w B C T v xs) (sv:Value) (hx:a.eval x=sv) (H:Rs φ w sv ys (Ty w C φ.ts))
  (f:((zN xs+zN ys)+(zN xs+zN ys)/4+192)*bytes<=281474976710656) (I:zN xs+zN ys<=maxLen) (n:B<=w.heap.size)
  (h:∀v' w',Hid (OG φ w' B C T v' (xs++ys))->Hid (w.grownBy w' v.ownBlock)->wpList P ops Q rest (a.put o.dst v') w'):wpList P ops Q (o::rest) a w:=by
 obtain⟨V,uss,Z,g,W⟩:=F;have⟨us2,m,l,A⟩:=H.rows;have c:∀us∈us2,zN us=φ.k:=λus N=>by obtain⟨j,y,rfl⟩:=D9.1 N;have:=φ.len (l j _ (DD (by omega)));rwa [DC,DD y] at this
 have E:∀u∈us2.flatten,u.oneCell'=true:=λu N=>by have⟨us,h1,h2⟩:=List.mem_flatten.1 N;obtain⟨j,y,rfl⟩:=D9.1 h1;have:=φ.one (l j _ (DD (by omega)));rw[DC,DD y] at this;exact this u h2
 obtain⟨A2,c2,rfl,aa⟩:=H.slice;cases A2 with
 |none=>
  obtain rfl:ys=[]:=by
   rcases Nat.eq_zero_or_pos (zN ys) with d|d
   .exact Ec d
   have⟨b,o',c',e,_⟩:=A d;cases e
  refine wpList_plain D λK hK=> ?_;have G:=iU (P:=P) (w:=w) B t o.type T i φ.k c2 ht hi v (zN xs) uss.flatten g;have:=h v w (by simpa using zh (show OG φ w B C T v xs from⟨V,uss,Z,g,W⟩)) (zh ⟨rfl,rfl,rfl,DE _,λ_ _ _=>rfl⟩);have R:a.eval x= .slice none 0 c2:=hx;unfold Oper.wp;simp[execOp,ho,resolve,invoke,builtin,hs,R,G,Result.andThen];exact hK _ _ this
 |some ad=>
  refine wpList_append_own_wide w D s x t ho B T i z φ.k bytes ht hi hz r J S φ.pos v (zN xs) uss.flatten hs g ad (zN ys) c2 us2.flatten hx ?_ ?_ E I f n λv' w' M Y _=> ?_
  .rw[jb c,m]
  .intro j u y;have q:j<zN us2.flatten:=(D0.1 y).1;rw[jb c,m] at q;have hk:=φ.pos;have d:0<zN ys:=by
    rcases Nat.eq_zero_or_pos (zN ys) with d|d
    .rw[d,Nat.zero_mul] at q;omega
    exact d
   have⟨b,o',c',e,_,p⟩:=A d;simp only[DQ,DN] at e;obtain⟨rfl,_,_⟩:=e;have X:j=j/φ.k*φ.k+j%φ.k:=by rw[FG];exact(Nat.div_add_mod j φ.k).symm
   have k:j%φ.k<φ.k:=FQ _ hk;have L:j/φ.k<zN ys:=Nat.div_lt_of_lt_mul (by rw[FG];exact q);have U:=p (j/φ.k) (j%φ.k) L k;rw[Nat.add_assoc,<-X] at U;rw[cC,U,<-y];conv=>rhs;rw[X]
   rw[ei c _ _ k];have:j/φ.k<zN us2:=by omega
   simp[DC,DD this]
  exact h v' w' (zh (OG.pushes V Z g W m l M Y)) (zh Y)
end
end
section
variable {α:Type}
def T8 {w w':World} {u:Value} {l:List Int} (h:IL w u l) (k:w.heap.size<=w'.heap.size) (hk:∀b,u.ownBlock=some b->w'.heap[b]? =w.heap[b]?):IL w' u l:=by obtain⟨A,c,rfl,f,h⟩:=h;refine⟨A,c,rfl,f,λi=> ?_⟩;obtain⟨a,rfl,e,d⟩:=h i;exact⟨a,rfl,DU e k,λj g=>(World.cell?_of_block (by rw[bf];exact hk a.block rfl)).trans (d j g)⟩
def In (F:Nat->Prop) (u:Value) (n:Nat):Prop:=0<n->∀b,u.ownBlock=some b->F b
def QA {w w':World} {u:Value} {l:List Int} (h:IL w u l) (i:w.heap.size<=w'.heap.size) (hk:0<zN l->∀b,b<w.heap.size->u.ownBlock=some b->w'.heap[b]? =w.heap[b]?):IL w' u l:=by
 by_cases d:0<zN l
 .refine T8 h i λb e=>hk d b ?_ e;obtain⟨A,c,rfl,_,h⟩:=h;obtain⟨a,rfl,g,_⟩:=h d;simp only[Value.ownBlock,DN] at e;omega
 obtain⟨A,c,rfl,f,_⟩:=h;exact⟨A,c,rfl,f,λh=>absurd h d⟩
def lE (u:Value) (n:Nat):In ah u n:=λ_ _ _=>trivial
def ilR:Rd (List Int) where
 k:=1
 ts:=[3]
 pos:=by decide
 R:=λw us r F=>∃u,us=[u]/\IL w u r/\In F u (zN r)
 len:=λ⟨_,h,_⟩=>by rw[h];rfl
 one:=λ⟨u,h,a,_⟩ x i=>by obtain⟨A,c,e1,_⟩:=a;rw[h,e1] at i;simp at i;subst i;rfl
 mono:=λ⟨u,h,a,d⟩ j=>⟨u,h,a,λf b e=>j b (d f b e)⟩
 same:=λ⟨u,h,a,d⟩ l hk=>⟨u,h,QA a l λf b g e=>hk b g (d f b e),d⟩
section
variable {w w':World} {v:Value} {rs:List (List Int)} {F:Nat->Prop}
def Rs.ils (h:Rs ilR w v rs F):∃(A:Option Addr) (c:Nat),v=zU A (zN rs) c/\zN rs<=c/\∀k,k<zN rs->∃b o u,A=some ⟨b,o,none⟩/\b<w.heap.size/\w.cell? ⟨b,o+k,none⟩=some u∧IL w u (zG rs k [])/\In F u (zG rs k []).length:=by
 obtain⟨A,c,rfl,j,h⟩:=h;refine⟨A,c,rfl,j,λk hk=> ?_⟩;obtain⟨b,o,rfl,i,h⟩:=h (by omega);obtain⟨us,f,u,rfl,g⟩:=h k _ (DD hk);have e:zG rs k []=rs[k]:=by rw[DC,DD hk];rfl
 rw[e];have a:=f 0 (by decide);have d:ilR.k=1:=rfl;rw[d,Nat.mul_one,Eb] at a;exact⟨b,o,u,rfl,i,a,g⟩
end
def fh (p:α->Bool) (l:List α):Int:=if l.findIdx p<zN l then(l.findIdx p:Int) else -1
def jd {p:α->Bool} {l:List α} {k:Nat} (d:α) (hk:k<zN l) (a:∀j,j<k->p (zG l j d)=false) (h:p (zG l k d)=true):fh p l=k:=by
 have e:l.findIdx p=k:=by rw[List.findIdx_eq hk];refine⟨by rwa [DC,DD hk] at h,λj b=> ?_⟩;have:=a j b;rwa [DC,DD (by omega)] at this
 unfold fh;rw[e,DP hk]
def jc {p:α->Bool} {l:List α} (d:α) (b:∀j,j<zN l->p (zG l j d)=false):fh p l= -1:=by unfold fh;rw[DK];intro h;have c:=List.findIdx_getElem (w:=h);have a:=b _ h;rw[DC,DD h] at a;simp only[EQ] at a;rw[c] at a;cases a
def j8 (p:α->Bool) (l:List α):decide (0<=fh p l)=l.any p:=by
 unfold fh;by_cases h:l.findIdx p<zN l
 .rw[DP h,DR (by omega)];have:=List.findIdx_getElem (w:=h);exact(Ez.2 ⟨_,EE h,this⟩).symm
 rw[DK h,DJ (by decide)];symm;rw[List.any_eq_false];intro x b a;exact h (List.findIdx_lt_length.2 ⟨x,b,a⟩)
end
end
end Go.Proofs.YtdahpdnhkflnnaaGreatDoor
