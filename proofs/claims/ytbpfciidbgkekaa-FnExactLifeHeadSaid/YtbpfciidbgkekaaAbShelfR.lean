/-
  DERIVED: THE SHELF's CONTRACTS AT THIS DUMP, IN PLAIN WORDS (tools/lay-plain.mjs out of 'TryShelf.lean', which tools/lay-shelf.mjs wrote): THE SAME DECLARATIONS UNDER THE SAME NAMES: 'import', 'namespace', 'open', 'def', 'theorem' AND NOTHING ELSE: no command of the shelf's: FOR A HAND-IN. Each laying: the table of numbers ('.._ren') and one theorem, a field a fact of the dump's own or the kernel's comparison; each contract: ONE APPLICATION.
-/
import Derived.Shelf.Strings.Repeat
import Derived.Test.YtbpfciidbgkekaaProg
namespace Go.Proofs
open Go.Shelf
def Try.lays105_ren : Go.Shelf.Ren := ⟨fun | 105 => 202 | 212 => 228 | 99 => 229 | 165 => 230 | 166 => 231 | 170 => 232 | 169 => 233 | 263 => 243 | 264 => 244 | 206 => 245 | 240 => 246 | 241 => 247 | 276 => 251 | 277 => 252 | n => n, fun | 9 => 9 | 3 => 3 | 4 => 4 | 20 => 20 | 0 => 0 | 46 => 141 | 109 => 208 | 5 => 5 | 72 => 213 | 76 => 217 | 51 => 164 | 146 => 227 | 53 => 201 | 148 => 229 | 70 => 211 | 37 => 144 | 75 => 216 | 127 => 231 | 164 => 237 | 80 => 109 | n => n, fun | n => n⟩
theorem Try.lays105 : Go.Proofs.Lays.n105 Try.prog Try.lays105_ren := {
  mixed := by kernel_rfl
  f99 := Try.func229.trans (congrArg some (by kernel_rfl))
  f105 := Try.func202.trans (congrArg some (by kernel_rfl))
  f165 := Try.func230.trans (congrArg some (by kernel_rfl))
  f166 := Try.func231.trans (congrArg some (by kernel_rfl))
  f169 := Try.func233.trans (congrArg some (by kernel_rfl))
  f170 := Try.func232.trans (congrArg some (by kernel_rfl))
  f206 := Try.func245.trans (congrArg some (by kernel_rfl))
  f212 := Try.func228.trans (congrArg some (by kernel_rfl))
  f240 := Try.func246.trans (congrArg some (by kernel_rfl))
  f241 := Try.func247.trans (congrArg some (by kernel_rfl))
  f263 := Try.func243.trans (congrArg some (by kernel_rfl))
  f264 := Try.func244.trans (congrArg some (by kernel_rfl))
  f276 := Try.func251.trans (congrArg some (by kernel_rfl))
  f277 := Try.func252.trans (congrArg some (by kernel_rfl))
  t0 := Try.underlying0
  a0 := Try.isAgg0
  z0 := Try.sizeOf0
  v0 := Try.zeroValue0
  t3 := Try.underlying3
  a3 := Try.isAgg3
  z3 := Try.sizeOf3
  v3 := Try.zeroValue3
  t4 := Try.underlying4
  a4 := Try.isAgg4
  z4 := Try.sizeOf4
  v4 := Try.zeroValue4
  t5 := Try.underlying5
  a5 := Try.isAgg5
  z5 := Try.sizeOf5
  v5 := Try.zeroValue5
  t9 := Try.underlying9
  a9 := Try.isAgg9
  z9 := Try.sizeOf9
  v9 := Try.zeroValue9
  t20 := Try.underlying20
  a20 := Try.isAgg20
  z20 := Try.sizeOf20
  v20 := Try.zeroValue20
  t37 := Try.underlying144
  a37 := Try.isAgg144
  z37 := Try.sizeOf144
  v37 := Try.zeroValue144
  t46 := Try.underlying141
  a46 := Try.isAgg141
  z46 := Try.sizeOf141
  v46 := Try.zeroValue141
  t51 := Try.underlying164
  a51 := Try.isAgg164
  z51 := Try.sizeOf164
  v51 := Try.zeroValue164
  t53 := Try.underlying201
  a53 := Try.isAgg201
  z53 := Try.sizeOf201
  v53 := Try.zeroValue201
  t70 := Try.underlying211
  a70 := Try.isAgg211
  z70 := Try.sizeOf211
  v70 := Try.zeroValue211
  t72 := Try.underlying213
  a72 := Try.isAgg213
  z72 := Try.sizeOf213
  v72 := Try.zeroValue213
  t75 := Try.underlying216
  a75 := Try.isAgg216
  z75 := Try.sizeOf216
  v75 := Try.zeroValue216
  t76 := Try.underlying217
  a76 := Try.isAgg217
  z76 := Try.sizeOf217
  v76 := Try.zeroValue217
  t109 := Try.underlying208
  a109 := Try.isAgg208
  z109 := Try.sizeOf208
  v109 := Try.zeroValue208
  t127 := Try.underlying231
  a127 := Try.isAgg231
  z127 := Try.sizeOf231
  v127 := Try.zeroValue231
  t146 := Try.underlying227
  a146 := Try.isAgg227
  z146 := Try.sizeOf227
  v146 := Try.zeroValue227
  t148 := Try.underlying229
  a148 := Try.isAgg229
  z148 := Try.sizeOf229
  v148 := Try.zeroValue229
  t164 := Try.underlying237
  a164 := Try.isAgg237
  z164 := Try.sizeOf237
  v164 := Try.zeroValue237 }
theorem Try.Builder_Extra_105 : Builder.Extra Try.prog Try.lays105_ren := {
  sizeBuilder := by kernel_rfl
  liesBuilder := by kernel_rfl
  t5 := Try.underlying5
  a5 := Try.isAgg5
  z5 := Try.sizeOf5
  v5 := Try.zeroValue5
  infoByte := by kernel_rfl
  cellsByte := by kernel_rfl
  sizeByte := by kernel_rfl
  neB5 := by decide }
open Go.RowKit Go.Lib in
/-- **strings.Repeat: count ≥ 0, the result within one allocation: count copies of s.** (LAID: no walk: one application.) -/
theorem Try.strings_Repeat (s : ByteArray) (c : Nat) (w : World) (hc : c ≤ 9223372036854775807) (hlen : s.size * c ≤ 140737488355328) :
    Calls Try.prog 202 #[.string s, .int .i64 c] w fun e w' => e = .returned (.string ⟨(Lib.repeatL s.data.toList c).toArray⟩) ∧ Below w.heap.size w w' := Any.strings_Repeat Try.lays105 Try.Builder_Extra_105 s c w hc hlen
end Go.Proofs
