/-
  DERIVED: THE SHELF's CONTRACTS AT THIS DUMP, IN PLAIN WORDS (tools/lay-plain.mjs out of 'TrydShelf.lean', which tools/lay-shelf.mjs wrote): THE SAME DECLARATIONS UNDER THE SAME NAMES: 'import', 'namespace', 'open', 'def', 'theorem' AND NOTHING ELSE: no command of the shelf's: FOR A HAND-IN. Each laying: the table of numbers ('.._ren') and one theorem, a field a fact of the dump's own or the kernel's comparison; each contract: ONE APPLICATION.
-/
import Derived.Shelf.Strings.Builder1
import Derived.Shelf.Small.Strs
import Derived.Shelf.Strings.BuilderF
import Derived.Shelf.Strconv.Itoa0
import Derived.Shelf.Strconv.Itoa1
import Derived.Shelf.LaysM
import Derived.Shelf.Strconv.Itoa2
import Derived.Shelf.Strconv.Itoa3
import Derived.Shelf.Strconv.Clone
import Derived.Shelf.Strings.Search1
import Derived.Shelf.Slices.Reverse
import Derived.Shelf.Slices.Equal
import Derived.Ground.Names2Prog
import Derived.Shelf.Slices.Clone
import Derived.Shelf.Slices.Cells
import Derived.Shelf.Slices.Empties2
import Derived.Ground.SlgnProg
import Derived.Shelf.SlicesE.Clone
import Derived.Test.YtdnochjajoiooaaDoorProg
namespace Go.Proofs
open Go.Shelf
def Tryd.lays169_ren:Go.Shelf.Ren:=⟨fun|169=>38|n=>n,fun|70=>66|9=>9|0=>0|72=>69|37=>67|127=>108|3=>3|5=>5|n=>n,fun|n=>n⟩
theorem Tryd.lays169:Go.Proofs.Lays.n169 Tryd.prog Tryd.lays169_ren:={
 mixed:=by kernel_rfl
 f169:=Tryd.func38.trans (congrArg some (by kernel_rfl))
 t0:=Tryd.underlying0
 a0:=Tryd.isAgg0
 z0:=Tryd.sizeOf0
 v0:=Tryd.zeroValue0
 t3:=Tryd.underlying3
 a3:=Tryd.isAgg3
 z3:=Tryd.sizeOf3
 v3:=Tryd.zeroValue3
 t9:=Tryd.underlying9
 a9:=Tryd.isAgg9
 z9:=Tryd.sizeOf9
 v9:=Tryd.zeroValue9
 t37:=Tryd.underlying67
 a37:=Tryd.isAgg67
 z37:=Tryd.sizeOf67
 v37:=Tryd.zeroValue67
 t70:=Tryd.underlying66
 a70:=Tryd.isAgg66
 z70:=Tryd.sizeOf66
 v70:=Tryd.zeroValue66
 t72:=Tryd.underlying69
 a72:=Tryd.isAgg69
 z72:=Tryd.sizeOf69
 v72:=Tryd.zeroValue69
 t127:=Tryd.underlying108
 a127:=Tryd.isAgg108
 z127:=Tryd.sizeOf108
 v127:=Tryd.zeroValue108}
theorem Tryd.Builder_Extra_169:Builder.Extra Tryd.prog Tryd.lays169_ren:={
 sizeBuilder:=by kernel_rfl
 liesBuilder:=by kernel_rfl
 t5:=Tryd.underlying5
 a5:=Tryd.isAgg5
 z5:=Tryd.sizeOf5
 v5:=Tryd.zeroValue5
 infoByte:=by kernel_rfl
 cellsByte:=by kernel_rfl
 sizeByte:=by kernel_rfl
 neB5:=by decide}
open Go.RowKit in
theorem Tryd.Builder_String_any (B b:Nat) (l:List UInt8) (w:World) (h:Lib.IsBuilder 69 5 B b (Lib.byteCells l) w) (hBw:B≤w.heap.size):
 Calls Tryd.prog 38 #[.pointer (some ⟨b,0,none⟩)] w fun e w'=>e=.returned (.string ⟨l.toArray⟩)∧Below B w w':=Any.Builder_String_any Tryd.lays169 Tryd.Builder_Extra_169 B b l w h hBw
def Tryd.lays137_ren:Go.Shelf.Ren:=⟨fun|137=>85|217=>92|266=>99|n=>n,fun|9=>9|5=>5|3=>3|n=>n,fun|n=>n⟩
theorem Tryd.lays137:Go.Proofs.Lays.n137 Tryd.prog Tryd.lays137_ren:={
 mixed:=by kernel_rfl
 f137:=Tryd.func85.trans (congrArg some (by kernel_rfl))
 f217:=Tryd.func92.trans (congrArg some (by kernel_rfl))
 f266:=Tryd.func99.trans (congrArg some (by kernel_rfl))
 t3:=Tryd.underlying3
 a3:=Tryd.isAgg3
 z3:=Tryd.sizeOf3
 v3:=Tryd.zeroValue3
 t5:=Tryd.underlying5
 a5:=Tryd.isAgg5
 z5:=Tryd.sizeOf5
 v5:=Tryd.zeroValue5
 t9:=Tryd.underlying9
 a9:=Tryd.isAgg9
 z9:=Tryd.sizeOf9
 v9:=Tryd.zeroValue9}
open Go.RowKit in
theorem Tryd.strings_IndexByte (s:ByteArray) (c:Int) (w:World):
 Calls Tryd.prog 85 #[.string s,.int .u8 c] w fun e w'=>e=.returned (.int .i64 (Lib.indexByte s.data.toList c.toNat.toUInt8))∧w'=w:=Any.strings_IndexByte Tryd.lays137 s c w
def Tryd.laysM171_ren:Go.Shelf.Ren:=⟨fun|171=>61|243=>76|246=>88|283=>95|284=>96|285=>97|286=>98|129=>101|317=>100|318=>102|319=>103|320=>104|337=>105|338=>94|n=>n,fun|3=>3|9=>9|2=>2|4=>4|171=>137|0=>0|53=>29|37=>67|5=>5|173=>139|212=>144|51=>145|20=>20|213=>146|46=>130|232=>150|233=>141|n=>n,fun|17=>4|18=>6|19=>3|n=>n⟩
theorem Tryd.laysM171:Go.Proofs.LaysM.n171 Tryd.prog Tryd.laysM171_ren:={
 mixed:=by kernel_rfl
 f129:=Tryd.func101.trans (congrArg some (by kernel_rfl))
 f171:=Tryd.func61.trans (congrArg some (by kernel_rfl))
 f243:=Tryd.func76.trans (congrArg some (by kernel_rfl))
 f246:=Tryd.func88.trans (congrArg some (by kernel_rfl))
 f283:=Tryd.func95.trans (congrArg some (by kernel_rfl))
 f284:=Tryd.func96.trans (congrArg some (by kernel_rfl))
 f285:=Tryd.func97.trans (congrArg some (by kernel_rfl))
 f286:=Tryd.func98.trans (congrArg some (by kernel_rfl))
 f317:=Tryd.func100.trans (congrArg some (by kernel_rfl))
 f318:=Tryd.func102.trans (congrArg some (by kernel_rfl))
 f319:=Tryd.func103.trans (congrArg some (by kernel_rfl))
 f320:=Tryd.func104.trans (congrArg some (by kernel_rfl))
 f337:=Tryd.func105.trans (congrArg some (by kernel_rfl))
 f338:=Tryd.func94.trans (congrArg some (by kernel_rfl))
 t0:=Tryd.underlying0
 a0:=Tryd.isAgg0
 z0:=Tryd.sizeOf0
 v0:=Tryd.zeroValue0
 t2:=Tryd.underlying2
 a2:=Tryd.isAgg2
 z2:=Tryd.sizeOf2
 v2:=Tryd.zeroValue2
 t3:=Tryd.underlying3
 a3:=Tryd.isAgg3
 z3:=Tryd.sizeOf3
 v3:=Tryd.zeroValue3
 t4:=Tryd.underlying4
 a4:=Tryd.isAgg4
 z4:=Tryd.sizeOf4
 v4:=Tryd.zeroValue4
 t5:=Tryd.underlying5
 a5:=Tryd.isAgg5
 z5:=Tryd.sizeOf5
 v5:=Tryd.zeroValue5
 t9:=Tryd.underlying9
 a9:=Tryd.isAgg9
 z9:=Tryd.sizeOf9
 v9:=Tryd.zeroValue9
 t20:=Tryd.underlying20
 a20:=Tryd.isAgg20
 z20:=Tryd.sizeOf20
 v20:=Tryd.zeroValue20
 t37:=Tryd.underlying67
 a37:=Tryd.isAgg67
 z37:=Tryd.sizeOf67
 v37:=Tryd.zeroValue67
 t46:=Tryd.underlying130
 a46:=Tryd.isAgg130
 z46:=Tryd.sizeOf130
 v46:=Tryd.zeroValue130
 t51:=Tryd.underlying145
 a51:=Tryd.isAgg145
 z51:=Tryd.sizeOf145
 v51:=Tryd.zeroValue145
 t53:=Tryd.underlying29
 a53:=Tryd.isAgg29
 z53:=Tryd.sizeOf29
 v53:=Tryd.zeroValue29
 t171:=Tryd.underlying137
 a171:=Tryd.isAgg137
 z171:=Tryd.sizeOf137
 v171:=Tryd.zeroValue137
 t173:=Tryd.underlying139
 a173:=Tryd.isAgg139
 z173:=Tryd.sizeOf139
 v173:=Tryd.zeroValue139
 t212:=Tryd.underlying144
 a212:=Tryd.isAgg144
 z212:=Tryd.sizeOf144
 v212:=Tryd.zeroValue144
 t213:=Tryd.underlying146
 a213:=Tryd.isAgg146
 z213:=Tryd.sizeOf146
 t232:=Tryd.underlying150
 a232:=Tryd.isAgg150
 z232:=Tryd.sizeOf150
 v232:=Tryd.zeroValue150
 t233:=Tryd.underlying141
 a233:=Tryd.isAgg141
 z233:=Tryd.sizeOf141
 v233:=Tryd.zeroValue141
 g17:=by kernel_rfl
 g18:=by kernel_rfl
 g19:=by kernel_rfl
 i0:=by kernel_rfl
 i2:=by kernel_rfl
 i3:=by kernel_rfl
 i4:=by kernel_rfl
 i5:=by kernel_rfl
 i9:=by kernel_rfl
 i20:=by kernel_rfl
 i37:=by kernel_rfl
 i46:=by kernel_rfl
 i51:=by kernel_rfl
 i53:=by kernel_rfl
 i171:=by kernel_rfl
 i173:=by kernel_rfl
 i212:=by kernel_rfl
 i232:=by kernel_rfl
 i233:=by kernel_rfl
 m17:=by kernel_rfl
 m18:=by kernel_rfl
 m19:=by kernel_rfl}
open Go.RowKit Go.Sort Go.Lib in
theorem Tryd.strconv_Itoa (n:Int) (h0: -9223372036854775808≤n) (h1:n≤9223372036854775807) (w:World) (htab:Lib.TabIs Tryd.prog w "internal/strconv.uint64pow10" .u64 Lib.pow10Tab):
 Calls Tryd.prog 61 #[.int .i64 n] w fun e w'=>e=.returned (.string ⟨(Lib.itoa n).toArray⟩)∧ ∃k os,w'=grow (w.drewN k) os:=Any.strconv_Itoa Tryd.laysM171 n h0 h1 w htab
def Tryd.laysM316_ren:Go.Shelf.Ren:=⟨fun|316=>89|n=>n,fun|9=>9|3=>3|4=>4|37=>67|0=>0|127=>108|5=>5|n=>n,fun|n=>n⟩
theorem Tryd.laysM316:Go.Proofs.LaysM.n316 Tryd.prog Tryd.laysM316_ren:={
 mixed:=by kernel_rfl
 f316:=Tryd.func89.trans (congrArg some (by kernel_rfl))
 t0:=Tryd.underlying0
 a0:=Tryd.isAgg0
 z0:=Tryd.sizeOf0
 v0:=Tryd.zeroValue0
 t3:=Tryd.underlying3
 a3:=Tryd.isAgg3
 z3:=Tryd.sizeOf3
 v3:=Tryd.zeroValue3
 t4:=Tryd.underlying4
 a4:=Tryd.isAgg4
 z4:=Tryd.sizeOf4
 v4:=Tryd.zeroValue4
 t9:=Tryd.underlying9
 a9:=Tryd.isAgg9
 z9:=Tryd.sizeOf9
 v9:=Tryd.zeroValue9
 t37:=Tryd.underlying67
 a37:=Tryd.isAgg67
 z37:=Tryd.sizeOf67
 v37:=Tryd.zeroValue67
 t127:=Tryd.underlying108
 a127:=Tryd.isAgg108
 z127:=Tryd.sizeOf108
 v127:=Tryd.zeroValue108
 t5:=Tryd.underlying5
 a5:=Tryd.isAgg5
 z5:=Tryd.sizeOf5
 v5:=Tryd.zeroValue5
 i0:=by kernel_rfl
 i3:=by kernel_rfl
 i4:=by kernel_rfl
 i5:=by kernel_rfl
 i9:=by kernel_rfl
 i37:=by kernel_rfl
 i127:=by kernel_rfl}
open Go.RowKit in
theorem Tryd.stringslite_Clone (s:ByteArray) (w:World) (hlim:s.size≤281474976710656):
 Calls Tryd.prog 89 #[.string s] w fun e w'=>e=.returned (.string s)∧Below w.heap.size w w':=Any.stringslite_Clone Tryd.laysM316 s w hlim
end Go.Proofs
