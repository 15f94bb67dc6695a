/-
  strings.Repeat in this seat: the library's contract, laid (printed by the kit's lay-shelf and lay-plain; its numbers are this seat's). Conditions: none.
-/
import Derived.Shelf.Strings.Repeat
import Derived.Test.YtdogkekeccbpnaaProg
namespace Go.Proofs.Ytdogkekeccbpnaa
open Go.Shelf
def Try.lays105_ren : Go.Shelf.Ren := ⟨fun | 105 => 141 | 212 => 154 | 99 => 155 | 165 => 156 | 166 => 123 | 170 => 124 | 169 => 126 | 263 => 162 | 264 => 163 | 206 => 164 | 240 => 152 | 241 => 165 | 276 => 160 | 277 => 177 | n => n, fun | 9 => 9 | 3 => 3 | 4 => 4 | 20 => 20 | 0 => 0 | 46 => 101 | 109 => 156 | 5 => 5 | 72 => 124 | 76 => 127 | 51 => 164 | 146 => 165 | 53 => 167 | 148 => 168 | 70 => 122 | 37 => 102 | 75 => 126 | 127 => 155 | 164 => 162 | 80 => 131 | n => n, fun | n => n⟩
theorem Try.lays105 : Go.Proofs.Lays.n105 Try.prog Try.lays105_ren := {
  mixed := by kernel_rfl
  f99 := Try.func155.trans (congrArg some (by kernel_rfl))
  f105 := Try.func141.trans (congrArg some (by kernel_rfl))
  f165 := Try.func156.trans (congrArg some (by kernel_rfl))
  f166 := Try.func123.trans (congrArg some (by kernel_rfl))
  f169 := Try.func126.trans (congrArg some (by kernel_rfl))
  f170 := Try.func124.trans (congrArg some (by kernel_rfl))
  f206 := Try.func164.trans (congrArg some (by kernel_rfl))
  f212 := Try.func154.trans (congrArg some (by kernel_rfl))
  f240 := Try.func152.trans (congrArg some (by kernel_rfl))
  f241 := Try.func165.trans (congrArg some (by kernel_rfl))
  f263 := Try.func162.trans (congrArg some (by kernel_rfl))
  f264 := Try.func163.trans (congrArg some (by kernel_rfl))
  f276 := Try.func160.trans (congrArg some (by kernel_rfl))
  f277 := Try.func177.trans (congrArg some (by kernel_rfl))
  t0 := Try.underlying0
  a0 := Try.isAgg0
  z0 := Try.sizeOf0
  v0 := Try.zeroValue0
  t3 := Try.underlying3
  a3 := Try.isAgg3
  z3 := Try.sizeOf3
  v3 := Try.zeroValue3
  t4 := Try.underlying4
  a4 := Try.isAgg4
  z4 := Try.sizeOf4
  v4 := Try.zeroValue4
  t5 := Try.underlying5
  a5 := Try.isAgg5
  z5 := Try.sizeOf5
  v5 := Try.zeroValue5
  t9 := Try.underlying9
  a9 := Try.isAgg9
  z9 := Try.sizeOf9
  v9 := Try.zeroValue9
  t20 := Try.underlying20
  a20 := Try.isAgg20
  z20 := Try.sizeOf20
  v20 := Try.zeroValue20
  t37 := Try.underlying102
  a37 := Try.isAgg102
  z37 := Try.sizeOf102
  v37 := Try.zeroValue102
  t46 := Try.underlying101
  a46 := Try.isAgg101
  z46 := Try.sizeOf101
  v46 := Try.zeroValue101
  t51 := Try.underlying164
  a51 := Try.isAgg164
  z51 := Try.sizeOf164
  v51 := Try.zeroValue164
  t53 := Try.underlying167
  a53 := Try.isAgg167
  z53 := Try.sizeOf167
  v53 := Try.zeroValue167
  t70 := Try.underlying122
  a70 := Try.isAgg122
  z70 := Try.sizeOf122
  v70 := Try.zeroValue122
  t72 := Try.underlying124
  a72 := Try.isAgg124
  z72 := Try.sizeOf124
  v72 := Try.zeroValue124
  t75 := Try.underlying126
  a75 := Try.isAgg126
  z75 := Try.sizeOf126
  v75 := Try.zeroValue126
  t76 := Try.underlying127
  a76 := Try.isAgg127
  z76 := Try.sizeOf127
  v76 := Try.zeroValue127
  t109 := Try.underlying156
  a109 := Try.isAgg156
  z109 := Try.sizeOf156
  v109 := Try.zeroValue156
  t127 := Try.underlying155
  a127 := Try.isAgg155
  z127 := Try.sizeOf155
  v127 := Try.zeroValue155
  t146 := Try.underlying165
  a146 := Try.isAgg165
  z146 := Try.sizeOf165
  v146 := Try.zeroValue165
  t148 := Try.underlying168
  a148 := Try.isAgg168
  z148 := Try.sizeOf168
  v148 := Try.zeroValue168
  t164 := Try.underlying162
  a164 := Try.isAgg162
  z164 := Try.sizeOf162
  v164 := Try.zeroValue162 }
theorem Try.Builder_Extra_105 : Builder.Extra Try.prog Try.lays105_ren := {
  sizeBuilder := by kernel_rfl
  liesBuilder := by kernel_rfl
  t5 := Try.underlying5
  a5 := Try.isAgg5
  z5 := Try.sizeOf5
  v5 := Try.zeroValue5
  infoByte := by kernel_rfl
  cellsByte := by kernel_rfl
  sizeByte := by kernel_rfl
  neB5 := by decide }
open Go.RowKit Go.Lib in
/-- **strings.Repeat: count ≥ 0, the result within one allocation: count copies of s.** (LAID: no walk: one application.) -/
theorem Try.strings_Repeat (s : ByteArray) (c : Nat) (w : World) (hc : c ≤ 9223372036854775807) (hlen : s.size * c ≤ 140737488355328) :
    Calls Try.prog 141 #[.string s, .int .i64 c] w fun e w' => e = .returned (.string ⟨(Lib.repeatL s.data.toList c).toArray⟩) ∧ Below w.heap.size w w' := Any.strings_Repeat Try.lays105 Try.Builder_Extra_105 s c w hc hlen
end Go.Proofs.Ytdogkekeccbpnaa
