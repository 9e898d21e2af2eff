/- Texts of one proof, laid one behind the other (Shelf, ST1, ST2, ST7, Shelf2, ST3, ST9); no condition but what stands at each theorem. -/
import Derived.Shelf.Strings.Builder1
import Derived.Shelf.Strings.Builder2
import Derived.Shelf.Strings.OnBuilder
import Derived.Shelf.Strconv.Itoa0
import Derived.Shelf.Strconv.Itoa1
import Derived.Shelf.LaysM
import Derived.Shelf.Strconv.Itoa2
import Derived.Shelf.Strconv.Itoa3
import Derived.Shelf.Strings.Search1
import Derived.Shelf.Strings.Search2
import Derived.Shelf.Strings.Search3
import Derived.Shelf.Strings.Count
import Derived.Shelf.Strings.Shaped
import Derived.Shelf.Strings.Split
import Derived.Shelf.Strings.SplitShaped
import Derived.Shelf.Bits.Mul64
import Derived.Shelf.Unicode.DecodeSlow
import Derived.Shelf.Slices.Equal
import Derived.Test.YtfmifllcbbfpoaaGreatDoorProg
import Derived.Laws.IdiomStrings
import Derived.Lib.ItoaLen
import Derived.Lib.SmallJoins
import Derived.Test.YtfmifllcbbfpoaaGreatDoorZA
import Derived.Test.YtfmifllcbbfpoaaGreatDoorZB
/-
  DERIVED: THE SHELF's CONTRACTS AT THIS DUMP, IN PLAIN WORDS (tools/lay-plain.mjs out of 'TryzShelf.lean', which tools/lay-shelf.mjs wrote): THE SAME DECLARATIONS UNDER THE SAME NAMES: 'import', 'namespace', 'open', 'def', 'theorem' AND NOTHING ELSE: no command of the shelf's: FOR A HAND-IN. Each laying: the table of numbers ('.._ren') and one theorem, a field a fact of the dump's own or the kernel's comparison; each contract: ONE APPLICATION.
-/
namespace Go.Proofs
open Go.Shelf
def Tryz.laysM171_ren : Go.Shelf.Ren := ⟨fun | 171 => 76 | 243 => 113 | 246 => 133 | 283 => 145 | 284 => 146 | 285 => 147 | 286 => 148 | 129 => 159 | 317 => 158 | 318 => 160 | 319 => 161 | 320 => 162 | 337 => 166 | 338 => 167 | n => n, fun | 3 => 3 | 9 => 9 | 2 => 2 | 4 => 4 | 171 => 144 | 0 => 0 | 53 => 145 | 37 => 22 | 5 => 5 | 173 => 148 | 212 => 156 | 51 => 157 | 20 => 20 | 213 => 158 | 46 => 125 | 232 => 172 | 233 => 173 | n => n, fun | 17 => 1 | 18 => 4 | 19 => 5 | n => n⟩
theorem Tryz.laysM171 : Go.Proofs.LaysM.n171 Tryz.prog Tryz.laysM171_ren := {
  mixed := by kernel_rfl
  f129 := Tryz.func159.trans (congrArg some (by kernel_rfl))
  f171 := Tryz.func76.trans (congrArg some (by kernel_rfl))
  f243 := Tryz.func113.trans (congrArg some (by kernel_rfl))
  f246 := Tryz.func133.trans (congrArg some (by kernel_rfl))
  f283 := Tryz.func145.trans (congrArg some (by kernel_rfl))
  f284 := Tryz.func146.trans (congrArg some (by kernel_rfl))
  f285 := Tryz.func147.trans (congrArg some (by kernel_rfl))
  f286 := Tryz.func148.trans (congrArg some (by kernel_rfl))
  f317 := Tryz.func158.trans (congrArg some (by kernel_rfl))
  f318 := Tryz.func160.trans (congrArg some (by kernel_rfl))
  f319 := Tryz.func161.trans (congrArg some (by kernel_rfl))
  f320 := Tryz.func162.trans (congrArg some (by kernel_rfl))
  f337 := Tryz.func166.trans (congrArg some (by kernel_rfl))
  f338 := Tryz.func167.trans (congrArg some (by kernel_rfl))
  t0 := Tryz.underlying0
  a0 := Tryz.isAgg0
  z0 := Tryz.sizeOf0
  v0 := Tryz.zeroValue0
  t2 := Tryz.underlying2
  a2 := Tryz.isAgg2
  z2 := Tryz.sizeOf2
  v2 := Tryz.zeroValue2
  t3 := Tryz.underlying3
  a3 := Tryz.isAgg3
  z3 := Tryz.sizeOf3
  v3 := Tryz.zeroValue3
  t4 := Tryz.underlying4
  a4 := Tryz.isAgg4
  z4 := Tryz.sizeOf4
  v4 := Tryz.zeroValue4
  t5 := Tryz.underlying5
  a5 := Tryz.isAgg5
  z5 := Tryz.sizeOf5
  v5 := Tryz.zeroValue5
  t9 := Tryz.underlying9
  a9 := Tryz.isAgg9
  z9 := Tryz.sizeOf9
  v9 := Tryz.zeroValue9
  t20 := Tryz.underlying20
  a20 := Tryz.isAgg20
  z20 := Tryz.sizeOf20
  v20 := Tryz.zeroValue20
  t37 := Tryz.underlying22
  a37 := Tryz.isAgg22
  z37 := Tryz.sizeOf22
  v37 := Tryz.zeroValue22
  t46 := Tryz.underlying125
  a46 := Tryz.isAgg125
  z46 := Tryz.sizeOf125
  v46 := Tryz.zeroValue125
  t51 := Tryz.underlying157
  a51 := Tryz.isAgg157
  z51 := Tryz.sizeOf157
  v51 := Tryz.zeroValue157
  t53 := Tryz.underlying145
  a53 := Tryz.isAgg145
  z53 := Tryz.sizeOf145
  v53 := Tryz.zeroValue145
  t171 := Tryz.underlying144
  a171 := Tryz.isAgg144
  z171 := Tryz.sizeOf144
  v171 := Tryz.zeroValue144
  t173 := Tryz.underlying148
  a173 := Tryz.isAgg148
  z173 := Tryz.sizeOf148
  v173 := Tryz.zeroValue148
  t212 := Tryz.underlying156
  a212 := Tryz.isAgg156
  z212 := Tryz.sizeOf156
  v212 := Tryz.zeroValue156
  t213 := Tryz.underlying158
  a213 := Tryz.isAgg158
  z213 := Tryz.sizeOf158
  t232 := Tryz.underlying172
  a232 := Tryz.isAgg172
  z232 := Tryz.sizeOf172
  v232 := Tryz.zeroValue172
  t233 := Tryz.underlying173
  a233 := Tryz.isAgg173
  z233 := Tryz.sizeOf173
  v233 := Tryz.zeroValue173
  g17 := by kernel_rfl
  g18 := by kernel_rfl
  g19 := by kernel_rfl
  i0 := by kernel_rfl
  i2 := by kernel_rfl
  i3 := by kernel_rfl
  i4 := by kernel_rfl
  i5 := by kernel_rfl
  i9 := by kernel_rfl
  i20 := by kernel_rfl
  i37 := by kernel_rfl
  i46 := by kernel_rfl
  i51 := by kernel_rfl
  i53 := by kernel_rfl
  i171 := by kernel_rfl
  i173 := by kernel_rfl
  i212 := by kernel_rfl
  i232 := by kernel_rfl
  i233 := by kernel_rfl
  m17 := by kernel_rfl
  m18 := by kernel_rfl
  m19 := by kernel_rfl }
open Go.RowKit Go.Sort Go.Lib in
/-- strconv.Itoa: "Itoa is equivalent to FormatInt(int64(i), 10).": i's DECIMAL NUMERAL ('Lib.itoa': a '-' where i is negative, then the digits), FOR EVERY int. The world behind the call: the world before it, new blocks behind the heap (the library's 'var a [24]byte'), draws. (LAID: no walk: one application.) -/
theorem Tryz.strconv_Itoa (n : Int) (h0 : -9223372036854775808 ≤ n) (h1 : n ≤ 9223372036854775807) (w : World) (htab : Lib.TabIs Tryz.prog w "internal/strconv.uint64pow10" .u64 Lib.pow10Tab) :
    Calls Tryz.prog 76 #[.int .i64 n] w fun e w' => e = .returned (.string ⟨(Lib.itoa n).toArray⟩) ∧ ∃ k os, w' = grow (w.drewN k) os := Any.strconv_Itoa Tryz.laysM171 n h0 h1 w htab
def Tryz.lays171_ren : Go.Shelf.Ren := ⟨fun | 171 => 76 | 243 => 113 | 246 => 133 | 283 => 145 | 284 => 146 | 285 => 147 | 286 => 148 | 129 => 159 | 317 => 158 | 318 => 160 | 319 => 161 | 320 => 162 | 337 => 166 | 338 => 167 | n => n, fun | 3 => 3 | 9 => 9 | 2 => 2 | 4 => 4 | 171 => 144 | 0 => 0 | 53 => 145 | 37 => 22 | 5 => 5 | 173 => 148 | 212 => 156 | 51 => 157 | 20 => 20 | 213 => 158 | 46 => 125 | 232 => 172 | 233 => 173 | n => n, fun | 17 => 1 | 18 => 4 | 19 => 5 | n => n⟩
theorem Tryz.lays171 : Go.Proofs.Lays.n171 Tryz.prog Tryz.lays171_ren := {
  mixed := by kernel_rfl
  f129 := Tryz.func159.trans (congrArg some (by kernel_rfl))
  f171 := Tryz.func76.trans (congrArg some (by kernel_rfl))
  f243 := Tryz.func113.trans (congrArg some (by kernel_rfl))
  f246 := Tryz.func133.trans (congrArg some (by kernel_rfl))
  f283 := Tryz.func145.trans (congrArg some (by kernel_rfl))
  f284 := Tryz.func146.trans (congrArg some (by kernel_rfl))
  f285 := Tryz.func147.trans (congrArg some (by kernel_rfl))
  f286 := Tryz.func148.trans (congrArg some (by kernel_rfl))
  f317 := Tryz.func158.trans (congrArg some (by kernel_rfl))
  f318 := Tryz.func160.trans (congrArg some (by kernel_rfl))
  f319 := Tryz.func161.trans (congrArg some (by kernel_rfl))
  f320 := Tryz.func162.trans (congrArg some (by kernel_rfl))
  f337 := Tryz.func166.trans (congrArg some (by kernel_rfl))
  f338 := Tryz.func167.trans (congrArg some (by kernel_rfl))
  t0 := Tryz.underlying0
  a0 := Tryz.isAgg0
  z0 := Tryz.sizeOf0
  v0 := Tryz.zeroValue0
  t2 := Tryz.underlying2
  a2 := Tryz.isAgg2
  z2 := Tryz.sizeOf2
  v2 := Tryz.zeroValue2
  t3 := Tryz.underlying3
  a3 := Tryz.isAgg3
  z3 := Tryz.sizeOf3
  v3 := Tryz.zeroValue3
  t4 := Tryz.underlying4
  a4 := Tryz.isAgg4
  z4 := Tryz.sizeOf4
  v4 := Tryz.zeroValue4
  t5 := Tryz.underlying5
  a5 := Tryz.isAgg5
  z5 := Tryz.sizeOf5
  v5 := Tryz.zeroValue5
  t9 := Tryz.underlying9
  a9 := Tryz.isAgg9
  z9 := Tryz.sizeOf9
  v9 := Tryz.zeroValue9
  t20 := Tryz.underlying20
  a20 := Tryz.isAgg20
  z20 := Tryz.sizeOf20
  v20 := Tryz.zeroValue20
  t37 := Tryz.underlying22
  a37 := Tryz.isAgg22
  z37 := Tryz.sizeOf22
  v37 := Tryz.zeroValue22
  t46 := Tryz.underlying125
  a46 := Tryz.isAgg125
  z46 := Tryz.sizeOf125
  v46 := Tryz.zeroValue125
  t51 := Tryz.underlying157
  a51 := Tryz.isAgg157
  z51 := Tryz.sizeOf157
  v51 := Tryz.zeroValue157
  t53 := Tryz.underlying145
  a53 := Tryz.isAgg145
  z53 := Tryz.sizeOf145
  v53 := Tryz.zeroValue145
  t171 := Tryz.underlying144
  a171 := Tryz.isAgg144
  z171 := Tryz.sizeOf144
  v171 := Tryz.zeroValue144
  t173 := Tryz.underlying148
  a173 := Tryz.isAgg148
  z173 := Tryz.sizeOf148
  v173 := Tryz.zeroValue148
  t212 := Tryz.underlying156
  a212 := Tryz.isAgg156
  z212 := Tryz.sizeOf156
  v212 := Tryz.zeroValue156
  t213 := Tryz.underlying158
  a213 := Tryz.isAgg158
  z213 := Tryz.sizeOf158
  t232 := Tryz.underlying172
  a232 := Tryz.isAgg172
  z232 := Tryz.sizeOf172
  v232 := Tryz.zeroValue172
  t233 := Tryz.underlying173
  a233 := Tryz.isAgg173
  z233 := Tryz.sizeOf173
  v233 := Tryz.zeroValue173
  g17 := by kernel_rfl
  g18 := by kernel_rfl
  g19 := by kernel_rfl }
open Go.RowKit Go.Sort Go.Lib in
/-- THE ROAD WITHOUT THE TABLE: 0 <= i < 100: NO PREMISE ON THE WORLD, AND THE WORLD IS AS IT WAS: a row that keeps its argument in that range need list no table ('laid = []'). (LAID: no walk: one application.) -/
theorem Tryz.strconv_Itoa_small (i : Nat) (hi : i < 100) (w : World) :
    Calls Tryz.prog 76 #[.int .i64 i] w fun e w' => e = .returned (.string ⟨(Lib.decDigits i).toArray⟩) ∧ w' = w := Any.strconv_Itoa_small Tryz.lays171 i hi w
def Tryz.lays146_ren : Go.Shelf.Ren := ⟨fun | 146 => 73 | 221 => 111 | 268 => 127 | 138 => 128 | 143 => 129 | 195 => 139 | 197 => 140 | 218 => 141 | 219 => 142 | 260 => 151 | 217 => 152 | 225 => 153 | 224 => 154 | 267 => 155 | 266 => 164 | 314 => 165 | n => n, fun | 9 => 9 | 31 => 62 | 3 => 3 | 4 => 4 | 0 => 0 | 105 => 140 | 21 => 21 | 5 => 5 | 46 => 125 | 119 => 162 | 139 => 165 | 138 => 164 | 146 => 166 | 51 => 157 | n => n, fun | 1 => 0 | 3 => 2 | 4 => 3 | n => n⟩
theorem Tryz.lays146 : Go.Proofs.Lays.n146 Tryz.prog Tryz.lays146_ren := {
  mixed := by kernel_rfl
  f138 := Tryz.func128.trans (congrArg some (by kernel_rfl))
  f143 := Tryz.func129.trans (congrArg some (by kernel_rfl))
  f146 := Tryz.func73.trans (congrArg some (by kernel_rfl))
  f195 := Tryz.func139.trans (congrArg some (by kernel_rfl))
  f197 := Tryz.func140.trans (congrArg some (by kernel_rfl))
  f217 := Tryz.func152.trans (congrArg some (by kernel_rfl))
  f218 := Tryz.func141.trans (congrArg some (by kernel_rfl))
  f219 := Tryz.func142.trans (congrArg some (by kernel_rfl))
  f221 := Tryz.func111.trans (congrArg some (by kernel_rfl))
  f224 := Tryz.func154.trans (congrArg some (by kernel_rfl))
  f225 := Tryz.func153.trans (congrArg some (by kernel_rfl))
  f260 := Tryz.func151.trans (congrArg some (by kernel_rfl))
  f266 := Tryz.func164.trans (congrArg some (by kernel_rfl))
  f267 := Tryz.func155.trans (congrArg some (by kernel_rfl))
  f268 := Tryz.func127.trans (congrArg some (by kernel_rfl))
  f314 := Tryz.func165.trans (congrArg some (by kernel_rfl))
  t0 := Tryz.underlying0
  a0 := Tryz.isAgg0
  z0 := Tryz.sizeOf0
  v0 := Tryz.zeroValue0
  t3 := Tryz.underlying3
  a3 := Tryz.isAgg3
  z3 := Tryz.sizeOf3
  v3 := Tryz.zeroValue3
  t4 := Tryz.underlying4
  a4 := Tryz.isAgg4
  z4 := Tryz.sizeOf4
  v4 := Tryz.zeroValue4
  t5 := Tryz.underlying5
  a5 := Tryz.isAgg5
  z5 := Tryz.sizeOf5
  v5 := Tryz.zeroValue5
  t9 := Tryz.underlying9
  a9 := Tryz.isAgg9
  z9 := Tryz.sizeOf9
  v9 := Tryz.zeroValue9
  t21 := Tryz.underlying21
  a21 := Tryz.isAgg21
  z21 := Tryz.sizeOf21
  v21 := Tryz.zeroValue21
  t31 := Tryz.underlying62
  a31 := Tryz.isAgg62
  z31 := Tryz.sizeOf62
  v31 := Tryz.zeroValue62
  t46 := Tryz.underlying125
  a46 := Tryz.isAgg125
  z46 := Tryz.sizeOf125
  v46 := Tryz.zeroValue125
  t51 := Tryz.underlying157
  a51 := Tryz.isAgg157
  z51 := Tryz.sizeOf157
  v51 := Tryz.zeroValue157
  t105 := Tryz.underlying140
  a105 := Tryz.isAgg140
  z105 := Tryz.sizeOf140
  v105 := Tryz.zeroValue140
  t119 := Tryz.underlying162
  a119 := Tryz.isAgg162
  z119 := Tryz.sizeOf162
  t138 := Tryz.underlying164
  a138 := Tryz.isAgg164
  z138 := Tryz.sizeOf164
  v138 := Tryz.zeroValue164
  t139 := Tryz.underlying165
  a139 := Tryz.isAgg165
  z139 := Tryz.sizeOf165
  v139 := Tryz.zeroValue165
  t146 := Tryz.underlying166
  a146 := Tryz.isAgg166
  z146 := Tryz.sizeOf166
  v146 := Tryz.zeroValue166
  g1 := by kernel_rfl
  g3 := by kernel_rfl
  g4 := by kernel_rfl }
open Go.RowKit Go.Lib in
/-- strings.Split. (LAID: no walk: one application.) -/
theorem Tryz.strings_Split (s sep : ByteArray) (m : Int) (w : World) (hs : s.size < 4294967281) (hm : w.cell? ⟨0, 0, none⟩ = some (.int .i64 m)) (h1 : 1 ≤ sep.size) :
    Calls Tryz.prog 73 #[.string s, .string sep] w fun e w' =>
      e = .returned (.slice (some ⟨w.heap.size, 0, none⟩) (Lib.countB s sep + 1) (Lib.countB s sep + 1)) ∧ w' = w.alloc (.cells ((Lib.splitB sep 0 (Lib.countB s sep) s).map Value.string).toArray 9) := Any.strings_Split Tryz.lays146 (by kernel_rfl) s sep m w hs hm h1
def Tryz.lays111_ren : Go.Shelf.Ren := ⟨fun | 111 => 70 | n => n, fun | 28 => 27 | 3 => 3 | 4 => 4 | 0 => 0 | n => n, fun | n => n⟩
theorem Tryz.lays111 : Go.Proofs.Lays.n111 Tryz.prog Tryz.lays111_ren := {
  mixed := by kernel_rfl
  f111 := Tryz.func70.trans (congrArg some (by kernel_rfl))
  t0 := Tryz.underlying0
  a0 := Tryz.isAgg0
  z0 := Tryz.sizeOf0
  v0 := Tryz.zeroValue0
  t3 := Tryz.underlying3
  a3 := Tryz.isAgg3
  z3 := Tryz.sizeOf3
  v3 := Tryz.zeroValue3
  t4 := Tryz.underlying4
  a4 := Tryz.isAgg4
  z4 := Tryz.sizeOf4
  v4 := Tryz.zeroValue4
  t28 := Tryz.underlying27
  a28 := Tryz.isAgg27
  z28 := Tryz.sizeOf27
  v28 := Tryz.zeroValue27 }
open Go.RowKit Go.Lib in
/-- slices.Equal at []int: "Equal reports whether two slices are equal: the same length and all elements equal. If the lengths are different, Equal returns false. Otherwise, the elements are compared in increasing index order, and the comparison stops at the first unequal pair. Empty and nil slices are considered equal.": IT RETURNS WHETHER THE TWO LISTS OF ELEMENTS ARE ONE; the world is as it was but for the count of draws (the test 's1[i] != s2[i]' has two reads, whose order the model draws, once a round). 'xs', 'ys': what the cells behind the two addresses hold (the spare capacity too, if you have it); 'xs.take n', 'ys.take m': the elements. THE TWO SLICES MAY OVERLAP. (LAID: no walk: one application.) -/
theorem Tryz.slices_Equal_int (b1 o1 n c b2 o2 m d : Nat) (xs ys : List Int) (w : World) (hx : n ≤ xs.length) (hy : m ≤ ys.length) (hbig : n ≤ 9223372036854775807) (hbig2 : m ≤ 9223372036854775807) (hc1 : ∀ j, j < xs.length → w.cell? ⟨b1, o1 + j, none⟩ = some (.int .i64 (xs.getD j 0))) (hc2 : ∀ j, j < ys.length → w.cell? ⟨b2, o2 + j, none⟩ = some (.int .i64 (ys.getD j 0))) :
    Calls Tryz.prog 70 #[.slice (some ⟨b1, o1, none⟩) n c, .slice (some ⟨b2, o2, none⟩) m d] w fun e w' => e = .returned (.bool (xs.take n == ys.take m)) ∧ ∃ q, w' = w.drewN q := Any.slices_Equal_int Tryz.lays111 b1 o1 n c b2 o2 m d xs ys w hx hy hbig hbig2 hc1 hc2
end Go.Proofs
/- Contracts of FormatInt of both sides; no condition but what stands at each theorem. -/
namespace Go.Proofs.YtfmifllcbbfpoaaGreatDoor
set_option linter.unusedSimpArgs false
set_option linter.unusedVariables false
open Go.RowKit Go.Sort
/-- A number as a text. -/
def itext (n : Int) : ByteArray := ⟨(Lib.itoa n).toArray⟩
theorem str_app (a b : List UInt8) : ((⟨a.toArray⟩ : ByteArray) ++ ⟨b.toArray⟩) = ⟨(a ++ b).toArray⟩ := by
  apply ByteArray.ext
  simp
theorem str_cons (b : UInt8) (L : List UInt8) : ((⟨#[b]⟩ : ByteArray) ++ ⟨L.toArray⟩) = ⟨(b :: L).toArray⟩ := str_app [b] L
def dig0 (m : Nat) : List UInt8 := if m = 0 then [] else Lib.decDigits m
theorem dig0_step {m : Nat} (h : m ≠ 0) : dig0 m = dig0 (m / 10) ++ [UInt8.ofNat (48 + m % 10)] := by
  unfold dig0
  rw [if_neg h, Lib.decDigits]
  by_cases h10 : m < 10
  · rw [dif_pos h10, if_pos (by omega), show m % 10 = m by omega]; rfl
  · rw [dif_neg h10, if_neg (by omega)]
theorem spec_l01Figure (d : Int) (w : World) (h0 : 0 ≤ d) (h : d ≤ 9) : Calls Tryz.prog 116 #[.int .i64 d] w fun e w' => e = .returned (.int .u8 (48 + d)) ∧ w = w' := by
  go_enter Tryz.func116, Tryz.ntmps116
  go_wp2
  go_ret
  exact ⟨ret_int (by first | rfl | omega), rfl⟩
theorem convb1 (w : World) (x : Nat) (h : x < 256) : (convert 22 9 (.slice (some ⟨w.heap.size, 0, none⟩) 1 1)).run Tryz.prog (w.alloc (.cells #[.int .u8 (x : Int)] 5)) = .ok (.string ⟨#[UInt8.ofNat x]⟩) (w.alloc (.cells #[.int .u8 (x : Int)] 5)) := by
  refine run_convert_bytes_back (P := Tryz.prog) _ 22 9 5 _ 1 [UInt8.ofNat x] Tryz.underlying22 Tryz.underlying5 Tryz.underlying9 ?_
  intro j hj
  simp only [List.length_cons, List.length_nil] at hj
  obtain rfl : j = 0 := by omega
  rw [add_none, World.cell?_alloc_new]
  simp [Nat.mod_eq_of_lt h]
set_option maxRecDepth 100000 in
set_option maxHeartbeats 1000000 in
theorem spec_FormatInt (n : Nat) (w : World) (h : n ≤ 1000000000000) : Calls Tryz.prog 82 #[.int .i64 n] w fun e w' => e = .returned (.string (itext n)) ∧ Ext w w' := by
  by_cases h0 : n = 0
  case pos =>
    subst h0
    have HF : Hid (itext ((0 : Nat) : Int) = ⟨#[48]⟩) := by unfold Hid itext Lib.itoa Lib.decDigits; rfl
    go_enter Tryz.func82, Tryz.ntmps82
    go_wp2
    go_ret
    exact ⟨by rw [HF.out]; rfl, Ext.refl _⟩
  case neg =>
    have f0 : ((n : Int) == 0) = false := by rw [beq_eq_false_iff_ne]; omega
    go_enter Tryz.func82, Tryz.ntmps82
    go_wp2_with fail
    go_loopw [0, 4] (fun z t wr => ∃ (m : Nat) (L : List UInt8), z = .int .i64 (m : Int) ∧ t = .string ⟨L.toArray⟩ ∧ m ≤ 1000000000000 ∧ L.length ≤ 13 ∧ Hid (m < 10 ^ (13 - L.length)) ∧ Hid (Lib.decDigits n = dig0 m ++ L) ∧ Ext w wr) (fun z _ _ => (intOf z).toNat)
    case atStart => exact ⟨n, [], rfl, rfl, h, by simp, by unfold Hid; simp; omega, by unfold Hid dig0; rw [if_neg h0]; simp, Ext.refl _⟩
    case round =>
      obtain ⟨m, L, rfl, rfl, hm, hL13, hpw, hz, hb⟩ := hrel
      have HB := Lib.hid hb
      clear hb
      by_cases hm0 : m = 0
      · subst hm0
        have HT : Hid (itext (n : Int) = ⟨L.toArray⟩) := by
          have h2 := hz.out
          unfold Hid itext
          rw [Lib.itoa, if_neg (by omega), Int.toNat_natCast, h2]
          simp [dig0]
        have f1 : (((0 : Nat) : Int) != 0) = false := rfl
        have f2 : ((0 : Int) != 0) = false := rfl
        go_wp2_with fail
        go_ret
        exact ⟨by rw [HT.out]; rfl, HB.out⟩
      · have f1 : ((m : Int) != 0) = true := by rw [bne_iff_ne]; omega
        have HZ : Hid (Lib.decDigits n = dig0 (m / 10) ++ (UInt8.ofNat (48 + m % 10) :: L)) := by
          unfold Hid
          rw [hz.out, dig0_step hm0, List.append_assoc]
          rfl
        have hd : m % 10 ≤ 9 := by omega
        have hF := Lib.hid (fun w => spec_l01Figure ((m : Int) % 10) w (by omega) (by omega))
        have hcv := fun (w : World) => convb1 w (48 + m % 10) (by omega)
        have ec : ((48 + m % 10 : Nat) : Int) = 48 + (m : Int) % 10 := by push_cast; rfl
        rw [ec] at hcv
        have hm1 : m / 10 < m := by omega
        have hL12 : L.length ≤ 12 := by
          have h2 := hpw.out
          have : L.length ≠ 13 := by
            intro e; rw [e] at h2; simp at h2; omega
          omega
        have HPw : Hid (m / 10 < 10 ^ (13 - (UInt8.ofNat (48 + m % 10) :: L).length)) := by
          have h2 := hpw.out
          unfold Hid
          rw [show 13 - L.length = (12 - L.length) + 1 by omega, Nat.pow_succ] at h2
          rw [List.length_cons, show 13 - (L.length + 1) = 12 - L.length by omega]
          exact Nat.div_lt_of_lt_mul (by omega)
        clear ec
        go_wp2_with (refine (hF.out _).mono ?_; rintro e w1 ⟨rfl, rfl⟩)
        go_roundw
        case rel => exact ⟨m / 10, UInt8.ofNat (48 + m % 10) :: L, by go_num, by rw [str_cons, UInt8.ofNat_add]; rfl, by omega, by simp; omega, HPw, HZ, HB.out.alloc _⟩
        case measure => simp [intOf]; omega
end Go.Proofs.YtfmifllcbbfpoaaGreatDoor
/- Contracts of the program's FormatInt, and of MoveText of both sides; no condition but what stands at each theorem. -/
namespace Go.Proofs.YtfmifllcbbfpoaaGreatDoor
set_option linter.unusedSimpArgs false
set_option linter.unusedVariables false
open Go.RowKit Go.Sort
theorem itext_nat (i : Nat) : itext (i : Int) = ⟨(Lib.decDigits i).toArray⟩ := by
  unfold itext Lib.itoa
  rw [if_neg (by omega), Int.toNat_natCast]
theorem itext_size (n : Int) (h0 : -9223372036854775808 ≤ n) (h1 : n ≤ 9223372036854775807) : (itext n).size ≤ 21 := by
  have := Lib.itoa_length_le n h0 h1
  show (Lib.itoa n).toArray.size ≤ 21
  simpa using this
theorem impl_FormatIntS (i : Nat) (hi : i < 100) (w : World) : Calls Tryz.prog 32 #[.int .i64 i] w fun e w' => e = .returned (.string (itext i)) ∧ w = w' := by
  have hc := Lib.hid (Tryz.strconv_Itoa_small i hi w)
  have HT := Lib.hid (itext_nat i)
  go_enter Tryz.func32, Tryz.ntmps32
  go_wp2_with (refine hc.out.mono ?_; rintro e w1 ⟨rfl, rfl⟩)
  go_ret
  exact ⟨by rw [HT.out]; rfl, rfl⟩
theorem impl_FormatInt (n : Int) (h0 : -9223372036854775808 ≤ n) (h1 : n ≤ 9223372036854775807) (w : World) (htab : Hid (Lib.TabIs Tryz.prog w "internal/strconv.uint64pow10" .u64 Lib.pow10Tab)) :
    Calls Tryz.prog 32 #[.int .i64 n] w fun e w' => e = .returned (.string (itext n)) ∧ Ext w w' := by
  have hc := Lib.hid (Tryz.strconv_Itoa n h0 h1 w htab.out)
  go_enter Tryz.func32, Tryz.ntmps32
  go_wp2_with fail
  refine hc.out.mono ?_
  rintro e w1 ⟨rfl, k, os, hw⟩
  have HE : Hid (Ext w w1) := by unfold Hid; rw [hw]; exact below_regrown w _ os
  clear hw
  go_wp2_with fail
  go_ret
  exact ⟨rfl, HE.out⟩
def sp1 : ByteArray := ⟨#[32]⟩
/-- Numbers behind a text, each behind a blank; the empty text where one is not from 0 to 20. -/
def mvF (s : ByteArray) : List Int → ByteArray
  | [] => s
  | x :: r => if inB x 0 20 then mvF (s ++ sp1 ++ itext x) r else ByteArray.empty
def moveT (m : GMove) : ByteArray := mvF ⟨#[109, 111, 118, 101]⟩ [m.o, m.t, m.f, m.s]
theorem rd_lit (w : World) (t : TypeId) (xs : List Int) (hn : xs.length ≤ 1048576) : Rd (w.alloc (.cells (xs.map (Value.int .i64)).toArray t)) 1 (some ⟨w.heap.size, 0, none⟩) xs.length (xs.flatMap ienc) := by
  refine ⟨by rw [flat_len ienc 1 ienc_len], by omega, fun _ => ⟨w.heap.size, 0, rfl, by simp, fun j u hu => ?_⟩⟩
  rw [World.cell?_alloc_new, Nat.zero_add]
  rw [ienc_map] at hu
  simpa using hu
set_option maxRecDepth 100000 in
set_option maxHeartbeats 2000000 in
theorem spec_MoveText (m : GMove) (w : World) : Calls Tryz.prog 93 #[.agg #[.int .i64 m.o, .int .i64 m.t, .int .i64 m.f, .int .i64 m.s]] w fun e w' => e = .returned (.string (moveT m)) ∧ Ext w w' := by
  obtain ⟨wa, hwa⟩ : ∃ wa, wa = w.alloc (.cells #[.int .i64 m.o, .int .i64 m.t, .int .i64 m.f, .int .i64 m.s] 46) := ⟨_, rfl⟩
  obtain ⟨wb, hwb⟩ : ∃ wb, wb = wa.alloc (.cells #[.int .i64 m.o, .int .i64 m.t, .int .i64 m.f, .int .i64 m.s] 3) := ⟨_, rfl⟩
  obtain ⟨xs, hxs⟩ : ∃ xs : List Int, xs = [m.o, m.t, m.f, m.s] := ⟨_, rfl⟩
  have hr : Rd wb 1 (some ⟨w.heap.size + 1, 0, none⟩) 4 (xs.flatMap ienc) := by
    have := rd_lit wa 3 [m.o, m.t, m.f, m.s] (by simp)
    rw [show wa.heap.size = w.heap.size + 1 by rw [hwa]; simp] at this
    rw [hwb, hxs]; exact this
  have hE : Ext w wb := by rw [hwb, hwa]; exact ((Ext.refl w).alloc _).alloc _
  have HM : Hid (moveT m = mvF ⟨#[109, 111, 118, 101]⟩ xs) := by unfold Hid moveT; rw [hxs]
  have hl : Hid (xs.length = 4) := by unfold Hid; rw [hxs]; rfl
  have HR := Lib.hid hr
  have HE := Lib.hid hE
  have Hwa := Lib.hid hwa
  have Hwb := Lib.hid hwb
  clear hr hE hwa hwb hxs
  go_enter Tryz.func93, Tryz.ntmps93
  go_wp2_with fail
  rw [← Hwa.out, ← Hwb.out]
  go_loopw [3, 5] (fun s i wr => ∃ (k : Nat) (t : ByteArray), k ≤ 4 ∧ i = .int .i64 k ∧ s = .string t ∧ t.size ≤ 4 + 30 * k ∧ Hid (moveT m = mvF t (xs.drop k)) ∧ Ext wb wr) (fun _ i _ => 4 - (intOf i).toNat)
  case atStart => exact ⟨0, _, Nat.zero_le _, rfl, rfl, by decide, HM, Ext.refl _⟩
  case round =>
    obtain ⟨k, t, hk, rfl, rfl, ht, hz, hb⟩ := hrel
    by_cases hlt : k < 4
    · obtain ⟨b, off, x, hA, hbs, hxk, p0⟩ := ienc_at (HR.out.keep hb) hlt
      injection hA with hA
      injection hA with h1 h2
      subst h1 h2
      rw [Nat.zero_add] at p0
      have HD := Lib.hid (drop_cons hxk)
      have HB := Lib.hid hb
      have cI := Lib.hid (fun w => spec_l01In x 0 20 w)
      have i0 : (0 : Int) ≤ (k : Int) := by omega
      have i1 : (k : Int) < 4 := by omega
      clear hb hxk
      cases hi : inB x 0 20
      case false =>
        rw [hi] at cI
        have HT : Hid (moveT m = ByteArray.empty) := by unfold Hid; rw [hz.out, HD.out, mvF, hi]; rfl
        clear hi
        go_wp2_with (refine (cI.out _).mono ?_; rintro e w1 ⟨rfl, rfl⟩)
        go_ret
        exact ⟨by rw [HT.out]; rfl, HE.out.trans HB.out⟩
      case true =>
        have hx0 : 0 ≤ x ∧ x ≤ 20 := by simpa [inB] using hi
        obtain ⟨z, hzz⟩ := Int.eq_ofNat_of_zero_le hx0.1
        subst hzz
        rw [hi] at cI
        have hsz := itext_size z (by omega) (by omega)
        have HT : Hid (moveT m = mvF (t ++ sp1 ++ itext z) (xs.drop (k + 1))) := by unfold Hid; rw [hz.out, HD.out, mvF, hi]; rfl
        have hts : (t ++ sp1 ++ itext z).size ≤ 4 + 30 * (k + 1) := by
          rw [ByteArray.size_append, ByteArray.size_append]
          have : sp1.size = 1 := rfl
          omega
        have P0 := Lib.hid p0
        clear hi
        obtain ⟨T, hT⟩ : ∃ T, T = itext z := ⟨_, rfl⟩
        have hF := Lib.hid (fun w => spec_FormatInt z w (by omega))
        rw [← hT] at hsz HT hts hF
        have HTT := Lib.hid hT
        clear hT
        go_wp2_with (go_at_call 66; refine (cI.out _).mono ?_; rintro e w1 ⟨rfl, rfl⟩)
        refine (hF.out _).mono ?_
        rintro e w1 ⟨rfl, h1⟩
        have HB1 := Lib.hid (HB.out.trans h1)
        clear h1
        go_wp2_with fail
        go_roundw
        case rel => exact ⟨k + 1, t ++ sp1 ++ T, by omega, by go_num, by first | rfl | (rw [ByteArray.append_assoc]; rfl), hts, HT, HB1.out⟩
        case measure => simp [intOf]; omega
    · obtain rfl : k = 4 := by omega
      have HT : Hid (moveT m = t) := by unfold Hid; rw [hz.out, drop_nil (by rw [hl.out]; omega)]; rfl
      have HB := Lib.hid hb
      clear hb
      go_wp2_with fail
      go_ret
      exact ⟨by rw [HT.out]; rfl, HE.out.trans HB.out⟩
set_option maxRecDepth 100000 in
set_option maxHeartbeats 2000000 in
theorem impl_MoveText (m : GMove) (w : World) : Calls Tryz.prog 62 #[.agg #[.int .i64 m.o, .int .i64 m.t, .int .i64 m.f, .int .i64 m.s]] w fun e w' => e = .returned (.string (moveT m)) ∧ Ext w w' := by
  obtain ⟨wa, hwa⟩ : ∃ wa, wa = w.alloc (.cells #[.int .i64 m.o, .int .i64 m.t, .int .i64 m.f, .int .i64 m.s] 46) := ⟨_, rfl⟩
  obtain ⟨wb, hwb⟩ : ∃ wb, wb = wa.alloc (.cells #[.int .i64 m.o, .int .i64 m.t, .int .i64 m.f, .int .i64 m.s] 3) := ⟨_, rfl⟩
  obtain ⟨xs, hxs⟩ : ∃ xs : List Int, xs = [m.o, m.t, m.f, m.s] := ⟨_, rfl⟩
  have hr : Rd wb 1 (some ⟨w.heap.size + 1, 0, none⟩) 4 (xs.flatMap ienc) := by
    have := rd_lit wa 3 [m.o, m.t, m.f, m.s] (by simp)
    rw [show wa.heap.size = w.heap.size + 1 by rw [hwa]; simp] at this
    rw [hwb, hxs]; exact this
  have hE : Ext w wb := by rw [hwb, hwa]; exact ((Ext.refl w).alloc _).alloc _
  have HM : Hid (moveT m = mvF ⟨#[109, 111, 118, 101]⟩ xs) := by unfold Hid moveT; rw [hxs]
  have hl : Hid (xs.length = 4) := by unfold Hid; rw [hxs]; rfl
  have HR := Lib.hid hr
  have HE := Lib.hid hE
  have Hwa := Lib.hid hwa
  have Hwb := Lib.hid hwb
  clear hr hE hwa hwb hxs
  go_enter Tryz.func62, Tryz.ntmps62
  go_wp2_with fail
  rw [← Hwa.out, ← Hwb.out]
  go_loopw [3, 16] (fun s i wr => ∃ (k : Nat) (t : ByteArray), k ≤ 4 ∧ i = .int .i64 k ∧ s = .string t ∧ t.size ≤ 4 + 30 * k ∧ Hid (moveT m = mvF t (xs.drop k)) ∧ Ext wb wr) (fun _ i _ => 4 - (intOf i).toNat)
  case atStart => exact ⟨0, _, Nat.zero_le _, rfl, rfl, by decide, HM, Ext.refl _⟩
  case round =>
    obtain ⟨k, t, hk, rfl, rfl, ht, hz, hb⟩ := hrel
    by_cases hlt : k < 4
    · obtain ⟨b, off, x, hA, hbs, hxk, p0⟩ := ienc_at (HR.out.keep hb) hlt
      injection hA with hA
      injection hA with h1 h2
      subst h1 h2
      rw [Nat.zero_add] at p0
      have HD := Lib.hid (drop_cons hxk)
      have HB := Lib.hid hb
      have cI := Lib.hid (fun w => impl_between x 0 20 w)
      have i0 : (0 : Int) ≤ (k : Int) := by omega
      have i1 : (k : Int) < 4 := by omega
      clear hb hxk
      cases hi : inB x 0 20
      case false =>
        rw [hi] at cI
        have HT : Hid (moveT m = ByteArray.empty) := by unfold Hid; rw [hz.out, HD.out, mvF, hi]; rfl
        clear hi
        go_wp2_with (refine (cI.out _).mono ?_; rintro e w1 ⟨rfl, rfl⟩)
        go_ret
        exact ⟨by rw [HT.out]; rfl, HE.out.trans HB.out⟩
      case true =>
        have hx0 : 0 ≤ x ∧ x ≤ 20 := by simpa [inB] using hi
        obtain ⟨z, hzz⟩ := Int.eq_ofNat_of_zero_le hx0.1
        subst hzz
        rw [hi] at cI
        have hsz := itext_size z (by omega) (by omega)
        have HT : Hid (moveT m = mvF (t ++ sp1 ++ itext z) (xs.drop (k + 1))) := by unfold Hid; rw [hz.out, HD.out, mvF, hi]; rfl
        have hts : (t ++ sp1 ++ itext z).size ≤ 4 + 30 * (k + 1) := by
          rw [ByteArray.size_append, ByteArray.size_append]
          have : sp1.size = 1 := rfl
          omega
        have P0 := Lib.hid p0
        clear hi
        obtain ⟨T, hT⟩ : ∃ T, T = itext z := ⟨_, rfl⟩
        have hF := Lib.hid (fun w => impl_FormatIntS z (by omega) w)
        rw [← hT] at hsz HT hts hF
        have HTT := Lib.hid hT
        clear hT
        go_wp2_with (go_at_call 54; refine (cI.out _).mono ?_; rintro e w1 ⟨rfl, rfl⟩)
        refine (hF.out _).mono ?_
        rintro e w1 ⟨rfl, rfl⟩
        go_wp2_with fail
        go_roundw
        case rel => exact ⟨k + 1, t ++ sp1 ++ T, by omega, by go_num, by first | rfl | (rw [ByteArray.append_assoc]; rfl), hts, HT, HB.out⟩
        case measure => simp [intOf]; omega
    · obtain rfl : k = 4 := by omega
      have HT : Hid (moveT m = t) := by unfold Hid; rw [hz.out, drop_nil (by rw [hl.out]; omega)]; rfl
      have HB := Lib.hid hb
      clear hb
      go_wp2_with fail
      go_ret
      exact ⟨by rw [HT.out]; rfl, HE.out.trans HB.out⟩
end Go.Proofs.YtfmifllcbbfpoaaGreatDoor
/- ParseUint of both sides and the reference's l40Number: what they answer on a number's own text; no condition but what stands at each theorem. -/
namespace Go.Proofs.YtfmifllcbbfpoaaGreatDoor
set_option linter.unusedSimpArgs false
set_option linter.unusedVariables false
open Go.RowKit Go.Sort
def pS (n : Nat) (b : UInt8) : Nat := 10 * n + (b.toNat - 48)
theorem dd_last {m : Nat} (h : ¬ m < 10) : Lib.decDigits m = Lib.decDigits (m / 10) ++ [UInt8.ofNat (48 + m % 10)] := by rw [Lib.decDigits, dif_neg h]
theorem dg_nat {j : Nat} (h : j < 10) : (UInt8.ofNat (48 + j)).toNat = 48 + j := by
  rw [UInt8.toNat_ofNat']; omega
theorem dd_val (m : Nat) : (Lib.decDigits m).foldl pS 0 = m := by
  induction m using Nat.strongRecOn with
  | _ m ih =>
    by_cases h : m < 10
    · rw [Lib.decDigits_one h]; simp only [List.foldl_cons, List.foldl_nil, pS, dg_nat h]; omega
    · rw [dd_last h, List.foldl_append, ih (m / 10) (by omega)]
      simp only [List.foldl_cons, List.foldl_nil, pS, dg_nat (show m % 10 < 10 by omega)]; omega
theorem dd_dig (m : Nat) : ∀ b ∈ Lib.decDigits m, 48 ≤ b.toNat ∧ b.toNat ≤ 57 := by
  induction m using Nat.strongRecOn with
  | _ m ih =>
    by_cases h : m < 10
    · rw [Lib.decDigits_one h]; intro b hb; simp only [List.mem_singleton] at hb; subst hb; rw [dg_nat h]; omega
    · rw [dd_last h]; intro b hb
      rw [List.mem_append, List.mem_singleton] at hb
      rcases hb with hb | rfl
      · exact ih (m / 10) (by omega) b hb
      · rw [dg_nat (show m % 10 < 10 by omega)]; omega
theorem dd_ne (m : Nat) : 1 ≤ (Lib.decDigits m).length := by
  by_cases h : m < 10
  · rw [Lib.decDigits_one h]; simp
  · rw [dd_last h]; simp
theorem dd_len4 {m : Nat} (hm : m ≤ 1000) : (Lib.decDigits m).length ≤ 4 := by
  by_cases h : m < 10
  · rw [Lib.decDigits_one h]; simp
  rw [dd_last h]
  by_cases h1 : m / 10 < 10
  · rw [Lib.decDigits_one h1]; simp
  rw [dd_last h1]
  by_cases h2 : m / 10 / 10 < 10
  · rw [Lib.decDigits_one h2]; simp
  rw [dd_last h2, Lib.decDigits_one (by omega)]; simp
theorem dd_head (m : Nat) (hm : 1 ≤ m) : (Lib.decDigits m).head? ≠ some 48 := by
  induction m using Nat.strongRecOn with
  | _ m ih =>
    by_cases h : m < 10
    · rw [Lib.decDigits_one h]
      intro e
      simp only [List.head?_cons, Option.some.injEq] at e
      have := congrArg UInt8.toNat e
      rw [dg_nat h] at this
      have h48 : (48 : UInt8).toNat = 48 := rfl
      omega
    · rw [dd_last h]
      have h1 := ih (m / 10) (by omega) (by omega)
      have h2 := dd_ne (m / 10)
      cases hd : Lib.decDigits (m / 10) with
      | nil => rw [hd] at h2; simp at h2
      | cons b r => rw [hd] at h1; simpa using h1
theorem dd_one {m : Nat} (h : 1 < (Lib.decDigits m).length) : 1 ≤ m := by
  by_cases h1 : m < 10
  · rw [Lib.decDigits_one h1] at h; simp at h
  · omega
theorem itext_list (i : Nat) : (itext i).data.toList = Lib.decDigits i := by rw [itext_nat]
theorem itext_sz (i : Nat) : (itext i).size = (Lib.decDigits i).length := by
  rw [itext_nat]; simp [ByteArray.size]
theorem byte_at (s : ByteArray) (k : Nat) (h : k < s.size) : s.data.toList[k]? = some s[k] := by
  have : k < s.data.toList.length := by simpa using h
  rw [List.getElem?_eq_getElem this]; rfl
/-- What ParseUint answers, as far as is needed. -/
def PU (x : ByteArray) (w : World) (e : Ending) (w' : World) : Prop :=
  ∃ (z : Nat) (b : Bool), e = .returned (.tuple #[.int .i64 z, .bool b]) ∧ z ≤ 1000000000 ∧ Ext w w' ∧ ∀ i : Nat, i ≤ 1000 → x = itext i → z = i ∧ b = true
theorem nodig {x : ByteArray} {k : Nat} (hk : k < x.size) (h : x[k].toNat < 48 ∨ 57 < x[k].toNat) : ∀ i : Nat, x ≠ itext i := by
  intro i hi
  have h1 := byte_at x k hk
  have h2 := dd_dig i x[k] (by rw [← itext_list, ← hi]; exact List.mem_of_getElem? h1)
  omega
theorem nozero {x : ByteArray} (hk : 1 < x.size) (h : x[0].toNat = 48) : ∀ i : Nat, x ≠ itext i := by
  intro i hi
  have h1 := byte_at x 0 (by omega)
  have h3 : 1 < (Lib.decDigits i).length := by rw [← itext_sz, ← hi]; exact hk
  refine dd_head i (dd_one h3) ?_
  rw [← itext_list, ← hi, List.head?_eq_getElem?, h1]
  congr 1
  exact UInt8.toNat_inj.1 h
set_option maxRecDepth 100000 in
set_option maxHeartbeats 2000000 in
theorem impl_ParseUint (x : ByteArray) (w : World) (hx : x.size ≤ 9223372036854775807) : Calls Tryz.prog 98 #[.string x] w (PU x w) := by
  have bad : ∀ (w' : World), Ext w w' → Hid (∀ i : Nat, i ≤ 1000 → x ≠ itext i) → PU x w (.returned (.tuple #[.int .i64 0, .bool false])) w' := fun w' e h => ⟨0, false, rfl, by omega, e, fun i hi he => absurd he (h.out i hi)⟩
  have Hbad := Lib.hid bad
  clear bad
  by_cases h10 : 10 < x.size
  case pos =>
    have HN : Hid (∀ i : Nat, i ≤ 1000 → x ≠ itext i) := fun i hi he => by
      have := itext_sz i; have := dd_len4 hi; rw [he] at h10; omega
    have h10' : (10 : Int) < x.size := by omega
    have h1 : x.size ≠ 0 := by omega
    go_enter Tryz.func98, Tryz.ntmps98
    go_wp2
    exact bodyPost_ret (v := .tuple #[.int .i64 0, .bool false]) (by simp [results, Tryz.results98, go_sem, *]) rfl (Hbad.out _ (Ext.refl _) HN)
  case neg =>
  by_cases h0 : x.size = 0
  · have HN : Hid (∀ i : Nat, i ≤ 1000 → x ≠ itext i) := fun i hi he => by
      have := itext_sz i; have := dd_ne i; rw [he] at h0; omega
    go_enter Tryz.func98, Tryz.ntmps98
    go_wp2
    exact bodyPost_ret (v := .tuple #[.int .i64 0, .bool false]) (by simp [results, Tryz.results98, go_sem, *]) rfl (Hbad.out _ (Ext.refl _) HN)
  have h0' : 0 < x.size := by omega
  by_cases h48 : 1 < x.size ∧ x[0].toNat = 48
  · have HN : Hid (∀ i : Nat, i ≤ 1000 → x ≠ itext i) := fun i _ => nozero h48.1 h48.2 i
    obtain ⟨h1, h2⟩ := h48
    go_enter Tryz.func98, Tryz.ntmps98
    go_wp2
    exact bodyPost_ret (v := .tuple #[.int .i64 0, .bool false]) (by simp [results, Tryz.results98, go_sem, *]) rfl (Hbad.out _ (Ext.refl _) HN)
  by_cases h1 : 1 < x.size
  · have h48' : ¬ x[0].toNat = 48 := fun e => h48 ⟨h1, e⟩
    have h48i : ((x[0].toNat : Int) == 48) = false := beq_false_of_ne (show (x[0].toNat : Int) ≠ 48 by omega)
    have hz0 : ((x.size : Int) == 0) = false := beq_false_of_ne (show (x.size : Int) ≠ 0 by omega)
    have h1i : (1 : Int) < x.size := by omega
    clear h48
    go_enter Tryz.func98, Tryz.ntmps98
    go_wp2
    go_loop [4, 5] (fun n i => ∃ k N : Nat, k ≤ x.size ∧ i = .int .i64 k ∧ n = .int .i64 (N : Int) ∧ N < 10 ^ k ∧ Hid (x.data.toList.foldl pS 0 = (x.data.toList.drop k).foldl pS N)) (fun _ i => x.size - (intOf i).toNat)
    case atStart => exact ⟨0, 0, Nat.zero_le _, rfl, rfl, by decide, rfl⟩
    case round =>
      obtain ⟨k, N, hk, rfl, rfl, hN, hz⟩ := hrel
      by_cases hlt : k < x.size
      · have HZ : Hid (x.data.toList.foldl pS 0 = (x.data.toList.drop (k + 1)).foldl pS (pS N x[k])) := by
          unfold Hid; rw [hz.out, drop_cons (byte_at x k hlt)]; rfl
        have hb := x[k].toNat_lt
        have hp : 10 ^ (k + 1) = 10 ^ k * 10 := Nat.pow_succ ..
        have hp9 : 10 ^ k ≤ 10 ^ 9 := Nat.pow_le_pow_right (by decide) (by omega)
        have hp9' : (10 : Nat) ^ 9 = 1000000000 := by decide
        by_cases hd : x[k].toNat < 48 ∨ 57 < x[k].toNat
        · have HN : Hid (∀ i : Nat, i ≤ 1000 → x ≠ itext i) := fun i _ => nodig hlt hd i
          rcases hd with hd | hd
          · go_wp2
            exact bodyPost_ret (v := .tuple #[.int .i64 0, .bool false]) (by simp [results, Tryz.results98, go_sem, *]) rfl (Hbad.out _ (Ext.refl _) HN)
          · have hd2 : ¬ x[k].toNat < 48 := by omega
            go_wp2
            exact bodyPost_ret (v := .tuple #[.int .i64 0, .bool false]) (by simp [results, Tryz.results98, go_sem, *]) rfl (Hbad.out _ (Ext.refl _) HN)
        · have hd1 : ¬ x[k].toNat < 48 := by omega
          have hd2 : ¬ 57 < x[k].toNat := by omega
          have hq : pS N x[k] = 10 * N + (x[k].toNat - 48) := rfl
          generalize 10 ^ k = q at hN hp hp9
          go_wp2
          go_round
          case rel => exact ⟨k + 1, pS N x[k], by omega, by go_num, by (unfold pS; first | rfl | (congr 1; omega) | (push_cast; congr 1; omega)), by rw [hp]; omega, HZ⟩
          case measure => simp [intOf]; omega
      · obtain rfl : k = x.size := by omega
        have hd : Hid (∀ i : Nat, i ≤ 1000 → x = itext i → N = i) := fun i hi he => by
          have h1 := hz.out
          rw [drop_nil (by simp)] at h1
          rw [he, itext_list, dd_val] at h1
          exact h1.symm
        have hN10 : N < 10000000000 := Nat.lt_of_lt_of_le hN (Nat.le_trans (Nat.pow_le_pow_right (by decide) (show x.size ≤ 10 by omega)) (by decide))
        clear hN
        by_cases h9 : 1000000000 < N
        · have HN : Hid (∀ i : Nat, i ≤ 1000 → x ≠ itext i) := fun i hi he => by have := hd.out i hi he; omega
          have h9' : (1000000000 : Int) < N := by omega
          go_wp2
          exact bodyPost_ret (v := .tuple #[.int .i64 0, .bool false]) (by simp [results, Tryz.results98, go_sem, *]) rfl (Hbad.out _ (Ext.refl _) HN)
        · have h9' : ¬ (1000000000 : Int) < N := by omega
          go_wp2
          exact bodyPost_ret (v := .tuple #[.int .i64 N, .bool true]) (by simp [results, Tryz.results98, go_sem, *]) rfl ⟨N, true, rfl, by omega, Ext.refl _, fun i hi he => ⟨hd.out i hi he, rfl⟩⟩
  · have hz0 : ((x.size : Int) == 0) = false := beq_false_of_ne (show (x.size : Int) ≠ 0 by omega)
    clear h48
    go_enter Tryz.func98, Tryz.ntmps98
    go_wp2
    go_loop [4, 5] (fun n i => ∃ k N : Nat, k ≤ x.size ∧ i = .int .i64 k ∧ n = .int .i64 (N : Int) ∧ N < 10 ^ k ∧ Hid (x.data.toList.foldl pS 0 = (x.data.toList.drop k).foldl pS N)) (fun _ i => x.size - (intOf i).toNat)
    case atStart => exact ⟨0, 0, Nat.zero_le _, rfl, rfl, by decide, rfl⟩
    case round =>
      obtain ⟨k, N, hk, rfl, rfl, hN, hz⟩ := hrel
      by_cases hlt : k < x.size
      · have HZ : Hid (x.data.toList.foldl pS 0 = (x.data.toList.drop (k + 1)).foldl pS (pS N x[k])) := by
          unfold Hid; rw [hz.out, drop_cons (byte_at x k hlt)]; rfl
        have hb := x[k].toNat_lt
        have hp : 10 ^ (k + 1) = 10 ^ k * 10 := Nat.pow_succ ..
        have hp9 : 10 ^ k ≤ 10 ^ 9 := Nat.pow_le_pow_right (by decide) (by omega)
        have hp9' : (10 : Nat) ^ 9 = 1000000000 := by decide
        by_cases hd : x[k].toNat < 48 ∨ 57 < x[k].toNat
        · have HN : Hid (∀ i : Nat, i ≤ 1000 → x ≠ itext i) := fun i _ => nodig hlt hd i
          rcases hd with hd | hd
          · go_wp2
            exact bodyPost_ret (v := .tuple #[.int .i64 0, .bool false]) (by simp [results, Tryz.results98, go_sem, *]) rfl (Hbad.out _ (Ext.refl _) HN)
          · have hd2 : ¬ x[k].toNat < 48 := by omega
            go_wp2
            exact bodyPost_ret (v := .tuple #[.int .i64 0, .bool false]) (by simp [results, Tryz.results98, go_sem, *]) rfl (Hbad.out _ (Ext.refl _) HN)
        · have hd1 : ¬ x[k].toNat < 48 := by omega
          have hd2 : ¬ 57 < x[k].toNat := by omega
          have hq : pS N x[k] = 10 * N + (x[k].toNat - 48) := rfl
          generalize 10 ^ k = q at hN hp hp9
          go_wp2
          go_round
          case rel => exact ⟨k + 1, pS N x[k], by omega, by go_num, by (unfold pS; first | rfl | (congr 1; omega) | (push_cast; congr 1; omega)), by rw [hp]; omega, HZ⟩
          case measure => simp [intOf]; omega
      · obtain rfl : k = x.size := by omega
        have hd : Hid (∀ i : Nat, i ≤ 1000 → x = itext i → N = i) := fun i hi he => by
          have h1 := hz.out
          rw [drop_nil (by simp)] at h1
          rw [he, itext_list, dd_val] at h1
          exact h1.symm
        have hN10 : N < 10000000000 := Nat.lt_of_lt_of_le hN (Nat.le_trans (Nat.pow_le_pow_right (by decide) (show x.size ≤ 10 by omega)) (by decide))
        clear hN
        by_cases h9 : 1000000000 < N
        · have HN : Hid (∀ i : Nat, i ≤ 1000 → x ≠ itext i) := fun i hi he => by have := hd.out i hi he; omega
          have h9' : (1000000000 : Int) < N := by omega
          go_wp2
          exact bodyPost_ret (v := .tuple #[.int .i64 0, .bool false]) (by simp [results, Tryz.results98, go_sem, *]) rfl (Hbad.out _ (Ext.refl _) HN)
        · have h9' : ¬ (1000000000 : Int) < N := by omega
          go_wp2
          exact bodyPost_ret (v := .tuple #[.int .i64 N, .bool true]) (by simp [results, Tryz.results98, go_sem, *]) rfl ⟨N, true, rfl, by omega, Ext.refl _, fun i hi he => ⟨hd.out i hi he, rfl⟩⟩
set_option maxRecDepth 100000 in
set_option maxHeartbeats 2000000 in
theorem spec_ParseUint (x : ByteArray) (w : World) (hx : x.size ≤ 9223372036854775807) : Calls Tryz.prog 121 #[.string x] w (PU x w) := by
  have bad : ∀ (w' : World), Ext w w' → Hid (∀ i : Nat, i ≤ 1000 → x ≠ itext i) → PU x w (.returned (.tuple #[.int .i64 0, .bool false])) w' := fun w' e h => ⟨0, false, rfl, by omega, e, fun i hi he => absurd he (h.out i hi)⟩
  have Hbad := Lib.hid bad
  clear bad
  by_cases h10 : 10 < x.size
  case pos =>
    have HN : Hid (∀ i : Nat, i ≤ 1000 → x ≠ itext i) := fun i hi he => by
      have := itext_sz i; have := dd_len4 hi; rw [he] at h10; omega
    have h10' : (10 : Int) < x.size := by omega
    go_enter Tryz.func121, Tryz.ntmps121
    go_wp2
    exact bodyPost_ret (v := .tuple #[.int .i64 0, .bool false]) (by simp [results, Tryz.results121, go_sem, *]) rfl (Hbad.out _ (Ext.refl _) HN)
  case neg =>
  go_enter Tryz.func121, Tryz.ntmps121
  go_wp2
  go_loop [4, 5] (fun n i => ∃ k N : Nat, k ≤ x.size ∧ i = .int .i64 k ∧ n = .int .i64 (N : Int) ∧ N < 10 ^ k ∧ Hid (x.data.toList.foldl pS 0 = (x.data.toList.drop k).foldl pS N)) (fun _ i => x.size - (intOf i).toNat)
  case atStart => exact ⟨0, 0, Nat.zero_le _, rfl, rfl, by decide, rfl⟩
  case round =>
    obtain ⟨k, N, hk, rfl, rfl, hN, hz⟩ := hrel
    by_cases hlt : k < x.size
    · have HZ : Hid (x.data.toList.foldl pS 0 = (x.data.toList.drop (k + 1)).foldl pS (pS N x[k])) := by
        unfold Hid; rw [hz.out, drop_cons (byte_at x k hlt)]; rfl
      have hb := x[k].toNat_lt
      have hp : 10 ^ (k + 1) = 10 ^ k * 10 := Nat.pow_succ ..
      have hp9 : 10 ^ k ≤ 10 ^ 9 := Nat.pow_le_pow_right (by decide) (by omega)
      have hp9' : (10 : Nat) ^ 9 = 1000000000 := by decide
      by_cases hd : x[k].toNat < 48 ∨ 57 < x[k].toNat
      · have HN : Hid (∀ i : Nat, i ≤ 1000 → x ≠ itext i) := fun i _ => nodig hlt hd i
        rcases hd with hd | hd
        · go_wp2
          exact bodyPost_ret (v := .tuple #[.int .i64 0, .bool false]) (by simp [results, Tryz.results121, go_sem, *]) rfl (Hbad.out _ (Ext.refl _) HN)
        · have hd2 : ¬ x[k].toNat < 48 := by omega
          go_wp2
          exact bodyPost_ret (v := .tuple #[.int .i64 0, .bool false]) (by simp [results, Tryz.results121, go_sem, *]) rfl (Hbad.out _ (Ext.refl _) HN)
      · have hd1 : ¬ x[k].toNat < 48 := by omega
        have hd2 : ¬ 57 < x[k].toNat := by omega
        have hq : pS N x[k] = 10 * N + (x[k].toNat - 48) := rfl
        generalize 10 ^ k = q at hN hp hp9
        go_wp2
        go_round
        case rel => exact ⟨k + 1, pS N x[k], by omega, by go_num, by (unfold pS; first | rfl | (congr 1; omega) | (push_cast; congr 1; omega)), by rw [hp]; omega, HZ⟩
        case measure => simp [intOf]; omega
    · obtain rfl : k = x.size := by omega
      have hd : Hid (∀ i : Nat, i ≤ 1000 → x = itext i → N = i) := fun i hi he => by
        have h1 := hz.out
        rw [drop_nil (by simp)] at h1
        rw [he, itext_list, dd_val] at h1
        exact h1.symm
      have hN10 : N < 10000000000 := Nat.lt_of_lt_of_le hN (Nat.le_trans (Nat.pow_le_pow_right (by decide) (show x.size ≤ 10 by omega)) (by decide))
      clear hN
      by_cases h9 : 1000000000 < N
      · have HN : Hid (∀ i : Nat, i ≤ 1000 → x ≠ itext i) := fun i hi he => by have := hd.out i hi he; omega
        have h9' : (1000000000 : Int) < N := by omega
        go_wp2
        exact bodyPost_ret (v := .tuple #[.int .i64 0, .bool false]) (by simp [results, Tryz.results121, go_sem, *]) rfl (Hbad.out _ (Ext.refl _) HN)
      · have h9' : ¬ (1000000000 : Int) < N := by omega
        have hF := Lib.hid (spec_FormatInt N w (by omega))
        cases hT : ((itext N).toList == x.toList)
        case false =>
          have HN : Hid (∀ i : Nat, i ≤ 1000 → x ≠ itext i) := fun i hi he => by
            have := hd.out i hi he; rw [this, ← he] at hT; simp at hT
          obtain ⟨T, hTT⟩ : ∃ T, T = itext N := ⟨_, rfl⟩
          rw [← hTT] at hT hF
          clear hTT
          go_wp2_with (refine hF.out.mono ?_; rintro e w1 ⟨rfl, hb1⟩; have HB1 := Lib.hid hb1; clear hb1)
          exact bodyPost_ret (v := .tuple #[.int .i64 0, .bool false]) (by simp [results, Tryz.results121, go_sem, *]) rfl (Hbad.out _ HB1.out HN)
        case true =>
          obtain ⟨T, hTT⟩ : ∃ T, T = itext N := ⟨_, rfl⟩
          rw [← hTT] at hT hF
          clear hTT
          go_wp2_with (refine hF.out.mono ?_; rintro e w1 ⟨rfl, hb1⟩; have HB1 := Lib.hid hb1; clear hb1)
          exact bodyPost_ret (v := .tuple #[.int .i64 N, .bool true]) (by simp [results, Tryz.results121, go_sem, *]) rfl ⟨N, true, rfl, by omega, HB1.out, fun i hi he => ⟨hd.out i hi he, rfl⟩⟩
end Go.Proofs.YtfmifllcbbfpoaaGreatDoor
/-
  DERIVED: THE SHELF's CONTRACTS AT THIS DUMP, IN PLAIN WORDS (tools/lay-plain.mjs out of 'TryzShelf.lean', which tools/lay-shelf.mjs wrote): THE SAME DECLARATIONS UNDER THE SAME NAMES: 'import', 'namespace', 'open', 'def', 'theorem' AND NOTHING ELSE: no command of the shelf's: FOR A HAND-IN. Each laying: the table of numbers ('.._ren') and one theorem, a field a fact of the dump's own or the kernel's comparison; each contract: ONE APPLICATION.
-/
namespace Go.Proofs
open Go.Shelf
def Tryz.lays156_ren : Go.Shelf.Ren := ⟨fun | 156 => 112 | 165 => 130 | 166 => 131 | 169 => 132 | 240 => 143 | 241 => 144 | 276 => 156 | 277 => 157 | n => n, fun | 31 => 62 | 9 => 9 | 3 => 3 | 4 => 4 | 0 => 0 | 20 => 20 | 72 => 130 | 76 => 134 | 70 => 128 | 37 => 22 | 75 => 133 | 127 => 143 | 164 => 153 | 5 => 5 | 80 => 136 | n => n, fun | n => n⟩
theorem Tryz.lays156 : Go.Proofs.Lays.n156 Tryz.prog Tryz.lays156_ren := {
  mixed := by kernel_rfl
  f156 := Tryz.func112.trans (congrArg some (by kernel_rfl))
  f165 := Tryz.func130.trans (congrArg some (by kernel_rfl))
  f166 := Tryz.func131.trans (congrArg some (by kernel_rfl))
  f169 := Tryz.func132.trans (congrArg some (by kernel_rfl))
  f240 := Tryz.func143.trans (congrArg some (by kernel_rfl))
  f241 := Tryz.func144.trans (congrArg some (by kernel_rfl))
  f276 := Tryz.func156.trans (congrArg some (by kernel_rfl))
  f277 := Tryz.func157.trans (congrArg some (by kernel_rfl))
  t0 := Tryz.underlying0
  a0 := Tryz.isAgg0
  z0 := Tryz.sizeOf0
  v0 := Tryz.zeroValue0
  t3 := Tryz.underlying3
  a3 := Tryz.isAgg3
  z3 := Tryz.sizeOf3
  v3 := Tryz.zeroValue3
  t4 := Tryz.underlying4
  a4 := Tryz.isAgg4
  z4 := Tryz.sizeOf4
  v4 := Tryz.zeroValue4
  t9 := Tryz.underlying9
  a9 := Tryz.isAgg9
  z9 := Tryz.sizeOf9
  v9 := Tryz.zeroValue9
  t20 := Tryz.underlying20
  a20 := Tryz.isAgg20
  z20 := Tryz.sizeOf20
  v20 := Tryz.zeroValue20
  t31 := Tryz.underlying62
  a31 := Tryz.isAgg62
  z31 := Tryz.sizeOf62
  v31 := Tryz.zeroValue62
  t37 := Tryz.underlying22
  a37 := Tryz.isAgg22
  z37 := Tryz.sizeOf22
  v37 := Tryz.zeroValue22
  t70 := Tryz.underlying128
  a70 := Tryz.isAgg128
  z70 := Tryz.sizeOf128
  v70 := Tryz.zeroValue128
  t72 := Tryz.underlying130
  a72 := Tryz.isAgg130
  z72 := Tryz.sizeOf130
  v72 := Tryz.zeroValue130
  t75 := Tryz.underlying133
  a75 := Tryz.isAgg133
  z75 := Tryz.sizeOf133
  v75 := Tryz.zeroValue133
  t76 := Tryz.underlying134
  a76 := Tryz.isAgg134
  z76 := Tryz.sizeOf134
  v76 := Tryz.zeroValue134
  t127 := Tryz.underlying143
  a127 := Tryz.isAgg143
  z127 := Tryz.sizeOf143
  v127 := Tryz.zeroValue143
  t164 := Tryz.underlying153
  a164 := Tryz.isAgg153
  z164 := Tryz.sizeOf153
  v164 := Tryz.zeroValue153 }
theorem Tryz.Builder_Extra_156 : Builder.Extra Tryz.prog Tryz.lays156_ren := {
  sizeBuilder := by kernel_rfl
  liesBuilder := by kernel_rfl
  t5 := Tryz.underlying5
  a5 := Tryz.isAgg5
  z5 := Tryz.sizeOf5
  v5 := Tryz.zeroValue5
  infoByte := by kernel_rfl
  cellsByte := by kernel_rfl
  sizeByte := by kernel_rfl
  neB5 := by decide }
open Go.RowKit in
/-- strings.Join: "Join concatenates the elements of its first argument to create a single string. The separator string sep is placed between elements in the resulting string.": HOWEVER MANY ELEMENTS. Below the heap's end the world is as it was. (LAID: no walk: one application.) -/
theorem Tryz.strings_Join (bk o c : Nat) (xs : List ByteArray) (sep : ByteArray) (w : World) (hcells : ∀ (j : Nat) x, xs[j]? = some x → w.cell? ⟨bk, o + j, none⟩ = some (.string x)) (hbk : bk < w.heap.size) (hN : xs.length ≤ 140737488355328) (hcap : xs.length ≤ c) (hlen : (Lib.join (xs.map (·.data.toList)) sep.data.toList).length ≤ 140737488355328) :
    Calls Tryz.prog 112 #[.slice (some ⟨bk, o, none⟩) xs.length c, .string sep] w fun e w' => e = .returned (.string ⟨(Lib.join (xs.map (·.data.toList)) sep.data.toList).toArray⟩) ∧ Below w.heap.size w w' := Any.strings_Join Tryz.lays156 Tryz.Builder_Extra_156 bk o c xs sep w hcells hbk hN hcap hlen
end Go.Proofs
/- Contracts of withNumbers (the program's join of a word and numbers); no condition but what stands at each theorem. -/
namespace Go.Proofs.YtfmifllcbbfpoaaGreatDoor
set_option linter.unusedSimpArgs false
set_option linter.unusedVariables false
open Go.RowKit Go.Sort
theorem tab_ext {P : Program} {w w' : World} {n : String} {k : IntKind} {zs : List Int} (h : Lib.TabIs P w n k zs) (e : Ext w w') : Lib.TabIs P w' n k zs := by
  cases hg : P.globalNamed n with
  | none => unfold Lib.TabIs World.var? at h; rw [hg] at h; cases h
  | some g => exact Go.Joins.tab_stays hg h e.below (Nat.le_refl _)
/-- A word, and numbers behind it, each behind a blank. -/
def numsF (s : ByteArray) : List Int → ByteArray
  | [] => s
  | x :: r => numsF (s ++ sp1 ++ itext x) r
theorem numsF_eq : ∀ (xs : List Int) (s : ByteArray), numsF s xs = ⟨(s.data.toList ++ Lib.joinTail [32] (xs.map fun x => (itext x).data.toList)).toArray⟩
  | [], s => by simp [numsF, Lib.joinTail]
  | x :: r, s => by
    rw [numsF, numsF_eq r]
    congr 2
    simp [Lib.joinTail, sp1]
theorem join_nums (s : ByteArray) (xs : List Int) : (⟨(Lib.join ((s :: xs.map itext).map (·.data.toList)) (⟨#[32]⟩ : ByteArray).data.toList).toArray⟩ : ByteArray) = numsF s xs := by
  rw [numsF_eq, List.map_cons, Lib.join_cons, List.map_map]
  rfl
theorem numsF_sizeG : ∀ (xs : List Int) (s : ByteArray), (∀ x ∈ xs, 0 ≤ x ∧ x ≤ 1000000) → (numsF s xs).size ≤ s.size + 22 * xs.length
  | [], s, _ => by simp [numsF]
  | x :: r, s, h => by
    have h1 := numsF_sizeG r (s ++ sp1 ++ itext x) (fun y hy => h y (List.mem_cons_of_mem _ hy))
    have h2 := itext_size x (by have := (h x (List.mem_cons_self ..)).1; omega) (by have := (h x (List.mem_cons_self ..)).2; omega)
    rw [ByteArray.size_append, ByteArray.size_append] at h1
    have : sp1.size = 1 := rfl
    simp only [List.length_cons]
    rw [numsF]
    omega
theorem numsF_size (xs : List Int) (s : ByteArray) (h : ∀ x ∈ xs, 0 ≤ x ∧ x ≤ 1000) : (numsF s xs).size ≤ s.size + 22 * xs.length := numsF_sizeG xs s fun x hx => ⟨(h x hx).1, by have := (h x hx).2; omega⟩
def strs (s : ByteArray) (xs : List Int) : List Value := (s :: xs.map itext).map Value.string
theorem strs_len (s : ByteArray) (xs : List Int) : (strs s xs).length = xs.length + 1 := by simp [strs]
theorem strs_snoc (s : ByteArray) (xs : List Int) (x : Int) : strs s (xs ++ [x]) = strs s xs ++ [.string (itext x)] := by simp [strs]
theorem ei_S : EI Tryz.prog 62 9 1 := ei_of Tryz.underlying62 (by omega) (by kernel_rfl)
theorem one_str1 (s : ByteArray) : ∀ u ∈ [Value.string s], u.oneCell' = true := by intro u hu; simp at hu; subst hu; rfl
theorem own_str (W : World) (base : Nat) (t : TypeId) (s : ByteArray) (hb : base ≤ W.heap.size) : (W.alloc (.cells #[.string s] t)).ownsRow base t 1 (.slice (some ⟨W.heap.size, 0, none⟩) 1 1) 1 (strs s []) :=
  own_of_blk hb (Blk.new _ _ _) (by simp) (by unfold maxLen; omega) rfl
set_option maxRecDepth 100000 in
set_option maxHeartbeats 1000000 in
theorem impl_withNumbersG (s : ByteArray) (A : Option Addr) (n c : Nat) (xs : List Int) (w : World) (hx : Rd w 1 A n (xs.flatMap ienc)) (hn : n ≤ 6) (hs : s.size ≤ 8) (hxs : Hid (∀ x ∈ xs, 0 ≤ x ∧ x ≤ 1000000))
    (htab : Hid (Lib.TabIs Tryz.prog w "internal/strconv.uint64pow10" .u64 Lib.pow10Tab)) :
    Calls Tryz.prog 77 #[.string s, .slice A n c] w fun e w' => e = .returned (.string (numsF s xs)) ∧ Ext w w' := by
  have hl := Lib.hid (hx.len ienc_len (by omega))
  have HX := Lib.hid hx
  have Ho0 := Lib.hid (own_str w w.heap.size 9 s (Nat.le_refl _))
  go_enter Tryz.func77, Tryz.ntmps77
  go_wp2_with fail
  go_loopw [5, 12] (fun o i wr => ∃ (k : Nat), k ≤ n ∧ i = .int .i64 k ∧ Hid (wr.ownsRow w.heap.size 9 1 o (k + 1) (strs s (xs.take k))) ∧ Ext w wr) (fun _ i _ => n - (intOf i).toNat)
  case atStart => exact ⟨0, Nat.zero_le _, rfl, Ho0, (Ext.refl _).alloc _⟩
  case round =>
    obtain ⟨k, hk, rfl, hown, hb⟩ := hrel
    by_cases hlt : k < n
    · obtain ⟨b, off, x, rfl, hbs, hxk, h0⟩ := ienc_at (HX.out.keep hb) hlt
      obtain ⟨hx0, hx1⟩ := hxs.out x (List.mem_of_getElem? hxk)
      have HT : Hid (strs s (xs.take (k + 1)) = strs s (xs.take k) ++ [.string (itext x)]) := by
        unfold Hid; rw [← strs_snoc, List.take_add_one, hxk]; rfl
      have HB := Lib.hid hb
      have hF := Lib.hid (impl_FormatInt x (by omega) (by omega) wr (Lib.hid (tab_ext htab.out hb)))
      have hsw := hb.size
      obtain ⟨T, hTT⟩ : ∃ T, T = itext x := ⟨_, rfl⟩
      rw [← hTT] at HT hF
      clear hb hxk hTT
      go_wp2_with (first
        | (go_at_call 32; refine hF.out.mono ?_; rintro e w1 ⟨rfl, hb1⟩; have HB1 := Lib.hid hb1; have hs1 := hb1.size; clear hb1)
        | (at_builtin; refine append1 ei_S rfl _ _ rfl w.heap.size w1 _ _ (k + 1) _ (by rfl) (own_keep hown.out HB1.out) [.string T] (by rfl) rfl (one_str1 _) (by omega) (by omega) ?_; intro v' w2 ho2 he2; have HO2 := Lib.hid ho2; have HE2 := Lib.hid (he2 w (HB.out.trans HB1.out) (Nat.le_refl _)); clear ho2 he2))
      go_roundw
      case rel => exact ⟨k + 1, by omega, by go_num, by unfold Hid; rw [HT.out]; exact HO2.out, HE2.out⟩
      case measure => simp [intOf]; omega
    · obtain rfl : k = n := by omega
      have hown1 := hown.out
      rw [List.take_of_length_le (by rw [hl.out]; omega)] at hown1
      obtain ⟨A', c', rfl, hc'⟩ := own_form hown1
      obtain ⟨-, -, hr⟩ := Rd.of_own hown1
      obtain ⟨g, o, rfl, hg, hcell⟩ := hr (by omega)
      have hJ := Lib.hid (Tryz.strings_Join g o c' (s :: xs.map itext) ⟨#[32]⟩ wr (fun j x hj => hcell j _ (by rw [strs, List.getElem?_map, hj]; rfl)) hg (by simp; have := hl.out; omega) (by simp; have := hl.out; omega) (by
        have h1 := congrArg ByteArray.size (join_nums s xs)
        have h2 := numsF_sizeG xs s hxs.out
        have h3 := hl.out
        have h4 : ∀ L : List UInt8, (⟨L.toArray⟩ : ByteArray).size = L.length := fun L => by simp [ByteArray.size]
        rw [h4] at h1
        omega))
      rw [join_nums, show (s :: xs.map itext).length = k + 1 by simp; exact hl.out] at hJ
      have HB := Lib.hid hb
      clear hb hown hown1 hcell hr
      go_wp2_with (refine hJ.out.mono ?_; rintro e w1 ⟨rfl, hb1⟩; have HB1 := Lib.hid hb1; clear hb1)
      go_ret
      exact ⟨rfl, HB.out.trans HB1.out⟩
theorem impl_withNumbers (s : ByteArray) (A : Option Addr) (n c : Nat) (xs : List Int) (w : World) (hx : Rd w 1 A n (xs.flatMap ienc)) (hn : n ≤ 4) (hs : s.size ≤ 8) (hxs : Hid (∀ x ∈ xs, 0 ≤ x ∧ x ≤ 1000))
    (htab : Hid (Lib.TabIs Tryz.prog w "internal/strconv.uint64pow10" .u64 Lib.pow10Tab)) :
    Calls Tryz.prog 77 #[.string s, .slice A n c] w fun e w' => e = .returned (.string (numsF s xs)) ∧ Ext w w' :=
  impl_withNumbersG s A n c xs w hx (by omega) hs (Lib.hid fun x hx => ⟨(hxs.out x hx).1, by have := (hxs.out x hx).2; omega⟩) htab
end Go.Proofs.YtfmifllcbbfpoaaGreatDoor
/- SplitFields of both sides; no condition but what stands at each theorem. -/
namespace Go.Proofs.YtfmifllcbbfpoaaGreatDoor
set_option linter.unusedSimpArgs false
set_option linter.unusedVariables false
open Go.RowKit Go.Sort
/-- The words of a list that is closed by a blank; the first word goes on from what was read. -/
def wds : List UInt8 → List UInt8 → List (List UInt8)
  | _, [] => []
  | cur, b :: r => if b = 32 then (if cur = [] then wds [] r else cur :: wds [] r) else wds (cur ++ [b]) r
def fieldsOf (x : ByteArray) : List (List UInt8) := wds [] (x.data.toList ++ [32])
def prB (x : ByteArray) : Bool := x.data.toList.all fun b => decide (32 ≤ b.toNat) && decide (b.toNat ≤ 126)
def spOk (x : ByteArray) : Bool := (decide (x.size ≤ 600) && prB x) && decide ((fieldsOf x).length ≤ 24)
def sval (W : List (List UInt8)) : List Value := W.map fun l => .string ⟨l.toArray⟩
def SplitPost (x : ByteArray) (w : World) (e : Ending) (w' : World) : Prop :=
  ∃ v, e = .returned (.tuple #[v, .bool (spOk x)]) ∧ Ext w w' ∧ (spOk x = true → w'.ownsRow w.heap.size 9 1 v (fieldsOf x).length (sval (fieldsOf x)))
theorem wd_nil (cur : List UInt8) : wds cur [] = [] := rfl
theorem wd_ne {b : UInt8} (h : b ≠ 32) (cur r : List UInt8) : wds cur (b :: r) = wds (cur ++ [b]) r := by rw [wds, if_neg h]
theorem wd_e (r : List UInt8) : wds [] (32 :: r) = wds [] r := by rw [wds, if_pos rfl, if_pos rfl]
theorem wd_n {cur : List UInt8} (h : cur ≠ []) (r : List UInt8) : wds cur (32 :: r) = cur :: wds [] r := by rw [wds, if_pos rfl, if_neg h]
theorem cur_snoc {L : List UInt8} {s k : Nat} {b : UInt8} (h : L[k]? = some b) (hs : s ≤ k) : (L.drop s).take (k - s) ++ [b] = (L.drop s).take (k + 1 - s) := by
  rw [show k + 1 - s = (k - s) + 1 by omega, List.take_add_one, List.getElem?_drop, show s + (k - s) = k by omega, h]; rfl
theorem cur_ne {L : List UInt8} {s k : Nat} (hs : s < k) (hk : k ≤ L.length) : (L.drop s).take (k - s) ≠ [] := by
  intro h
  have := congrArg List.length h
  rw [List.length_take, List.length_drop] at this
  simp at this; omega
theorem cur_nil (L : List UInt8) (k : Nat) : (L.drop k).take (k - k) = [] := by simp
theorem ext_bs (x : ByteArray) (s k : Nat) : x.extract s k = ⟨((x.data.toList.drop s).take (k - s)).toArray⟩ := by
  have := ByteArray.extract_mk x.data.toList s k
  simpa using this
theorem dropB {L : List UInt8} {k : Nat} {b : UInt8} (h : L[k]? = some b) : (L ++ [32]).drop k = b :: (L ++ [32]).drop (k + 1) :=
  drop_cons (by rw [List.getElem?_append_left (List.getElem?_eq_some_iff.1 h).1]; exact h)
theorem dropE (L : List UInt8) : (L ++ [32]).drop L.length = 32 :: (L ++ [32]).drop (L.length + 1) :=
  drop_cons (by simp)
theorem sval_snoc (W : List (List UInt8)) (l : List UInt8) : sval (W ++ [l]) = sval W ++ [.string ⟨l.toArray⟩] := by simp [sval]
theorem toList_size (x : ByteArray) : x.data.toList.length = x.size := by rw [Array.length_toList]; rfl
theorem sp_long {x : ByteArray} (h : 600 < x.size) : spOk x = false := by
  unfold spOk; rw [show decide (x.size ≤ 600) = false by simp; omega]; rfl
theorem sp_many {x : ByteArray} (h : 24 < (fieldsOf x).length) : spOk x = false := by
  unfold spOk; rw [show decide ((fieldsOf x).length ≤ 24) = false by simp; omega, Bool.and_false]
theorem sp_bad {x : ByteArray} {k : Nat} (hk : k < x.size) (h : x[k].toNat < 32 ∨ 126 < x[k].toNat) : spOk x = false := by
  have hp : prB x = false := by
    rw [Bool.eq_false_iff]
    intro ha
    unfold prB at ha
    rw [List.all_eq_true] at ha
    have := ha x[k] (List.mem_of_getElem? (byte_at x k hk))
    simp at this
    omega
  unfold spOk; rw [hp, Bool.and_false]; rfl
theorem sp_good {x : ByteArray} (h : x.size ≤ 600) (hp : ∀ k (hk : k < x.size), ¬ (x[k].toNat < 32 ∨ 126 < x[k].toNat)) (hn : (fieldsOf x).length ≤ 24) : spOk x = true := by
  have h1 : prB x = true := by
    unfold prB
    rw [List.all_eq_true]
    intro b hb
    obtain ⟨k, hk⟩ := List.getElem?_of_mem hb
    have hl : k < x.size := by rw [← toList_size]; exact (List.getElem?_eq_some_iff.1 hk).1
    rw [byte_at x k hl] at hk
    have := hp k hl
    injection hk with hk
    subst hk
    simp; omega
  unfold spOk; rw [h1]; simp; omega
set_option maxRecDepth 100000 in
set_option maxHeartbeats 4000000 in
theorem spec_SplitFields (x : ByteArray) (w : World) (hx : x.size ≤ 1048576) : Calls Tryz.prog 78 #[.string x] w (SplitPost x w) := by
  have Hbad := Lib.hid (fun (v : Value) (w' : World) (e : Ext w w') (h : spOk x = false) => (show SplitPost x w (.returned (.tuple #[v, .bool false])) w' from ⟨v, by rw [h], e, fun h' => by rw [h] at h'; cases h'⟩))
  have Ho0 := Lib.hid (own_empty w w.heap.size 9 1 (Nat.le_refl _))
  by_cases h600 : 600 < x.size
  · have h600i : (600 : Int) < x.size := by omega
    have HN := Lib.hid (sp_long h600)
    go_enter Tryz.func78, Tryz.ntmps78
    go_wp2_with fail
    exact bodyPost_ret (v := .tuple #[.slice (some ⟨w.heap.size, 0, none⟩) 0 0, .bool false]) (by simp [results, Tryz.results78, go_sem, *]) rfl (Hbad.out _ _ ((Ext.refl w).alloc _) HN.out)
  have h600i : (x.size : Int) ≤ 600 := by omega
  obtain ⟨L, hL⟩ : ∃ L, L = x.data.toList := ⟨_, rfl⟩
  have HL := Lib.hid hL
  have hLl : L.length = x.size := by rw [hL]; exact toList_size x
  clear hL
  go_enter Tryz.func78, Tryz.ntmps78
  go_wp2_with fail
  go_loopw [4, 5, 6] (fun v st i wr => ∃ (k s : Nat) (W : List (List UInt8)), k ≤ x.size + 1 ∧ s ≤ k ∧ i = .int .i64 k ∧ st = .int .i64 s ∧ Hid (wr.ownsRow w.heap.size 9 1 v W.length (sval W)) ∧ W.length ≤ k ∧ Hid (wds [] (L ++ [32]) = W ++ wds ((L.drop s).take (k - s)) ((L ++ [32]).drop k)) ∧ Hid (∀ j (hj : j < x.size), j < k → ¬ (x[j].toNat < 32 ∨ 126 < x[j].toNat)) ∧ Ext w wr) (fun _ _ i _ => x.size + 1 - (intOf i).toNat)
  case atStart => exact ⟨0, 0, [], by omega, Nat.le_refl _, rfl, rfl, Ho0, Nat.le_refl _, rfl, Lib.hid (fun j _ h => absurd h (by omega)), (Ext.refl _).alloc _⟩
  case round =>
    obtain ⟨k, s, W, hk, hs, rfl, rfl, hown, hWl, hz, hpr, hb⟩ := hrel
    have HB := Lib.hid hb
    have hsw := hb.size
    clear hb
    obtain ⟨A, c', rfl, hnc⟩ := own_form hown.out
    by_cases hle : k ≤ x.size
    · by_cases hlt : k < x.size
      · have hlti : (k : Int) < x.size := by omega
        have hLk : L[k]? = some x[k] := by rw [HL.out]; exact byte_at x k hlt
        by_cases hbad : x[k].toNat < 32 ∨ 126 < x[k].toNat
        · have HN := Lib.hid (sp_bad hlt hbad)
          rcases hbad with hd | hd
          · go_wp2_with fail
            exact bodyPost_ret (v := .tuple #[.slice (some ⟨wr.heap.size, 0, none⟩) 0 0, .bool false]) (by simp [results, Tryz.results78, go_sem, *]) rfl (Hbad.out _ _ (HB.out.alloc _) HN.out)
          · have hd2 : ¬ x[k].toNat < 32 := by omega
            go_wp2_with fail
            exact bodyPost_ret (v := .tuple #[.slice (some ⟨wr.heap.size, 0, none⟩) 0 0, .bool false]) (by simp [results, Tryz.results78, go_sem, *]) rfl (Hbad.out _ _ (HB.out.alloc _) HN.out)
        · have HPR : Hid (∀ j (hj : j < x.size), j < k + 1 → ¬ (x[j].toNat < 32 ∨ 126 < x[j].toNat)) := fun j hj h => by
            by_cases h2 : j < k
            · exact hpr.out j hj h2
            · obtain rfl : j = k := by omega
              exact hbad
          have hd1 : ¬ x[k].toNat < 32 := by omega
          have hd2 : ¬ 126 < x[k].toNat := by omega
          by_cases h32 : x[k].toNat = 32
          · have hb32 : x[k] = 32 := UInt8.toNat_inj.1 h32
            have h32i : ((x[k].toNat : Int) == 32) = true := by simp [h32]
            have HD : Hid ((L ++ [32]).drop k = 32 :: (L ++ [32]).drop (k + 1)) := by unfold Hid; rw [dropB hLk, hb32]
            by_cases hsk : s < k
            · have hski : (s : Int) < (k : Nat) := by omega
              have HZ : Hid (wds [] (L ++ [32]) = (W ++ [(L.drop s).take (k - s)]) ++ wds ((L.drop (k + 1)).take (k + 1 - (k + 1))) ((L ++ [32]).drop (k + 1))) := by
                unfold Hid; rw [hz.out, HD.out, wd_n (cur_ne hsk (by omega)), cur_nil]; simp
              have HT : Hid (x.extract s k = ⟨((L.drop s).take (k - s)).toArray⟩) := by unfold Hid; rw [ext_bs, HL.out]
              clear hLk hb32
              go_wp2_with (at_builtin; refine (fun h : Hid _ => h.out) ?_)
              unfold Hid
              refine append1 ei_S rfl _ _ rfl w.heap.size wr _ _ W.length _ (by rfl) hown.out [.string (x.extract s k)] (by rfl) rfl (one_str1 _) (by omega) (by omega) ?_
              intro v' w2 ho2 he2
              have HO2 := Lib.hid ho2
              have HE2 := Lib.hid (he2 w HB.out (Nat.le_refl _))
              clear ho2 he2
              go_wp2_with fail
              go_roundw
              case rel => exact ⟨k + 1, k + 1, W ++ [(L.drop s).take (k - s)], by omega, Nat.le_refl _, by go_num, by go_num, by (unfold Hid; rw [sval_snoc, ← HT.out, List.length_append]; exact HO2.out), by simp; omega, HZ, HPR, HE2.out⟩
              case measure => simp [intOf] <;> omega
            · obtain rfl : s = k := by omega
              have HZ : Hid (wds [] (L ++ [32]) = W ++ wds ((L.drop (s + 1)).take (s + 1 - (s + 1))) ((L ++ [32]).drop (s + 1))) := by
                unfold Hid; rw [hz.out, HD.out, cur_nil, wd_e, cur_nil]
              clear hLk hb32
              go_wp2_with fail
              go_roundw
              case rel => exact ⟨s + 1, s + 1, W, by omega, Nat.le_refl _, by go_num, by go_num, hown, by omega, HZ, HPR, HB.out⟩
              case measure => simp [intOf] <;> omega
          · have h32i : ((x[k].toNat : Int) == 32) = false := beq_false_of_ne (show (x[k].toNat : Int) ≠ 32 by omega)
            have HZ : Hid (wds [] (L ++ [32]) = W ++ wds ((L.drop s).take (k + 1 - s)) ((L ++ [32]).drop (k + 1))) := by
              unfold Hid; rw [hz.out, dropB hLk, wd_ne (fun e => h32 (by rw [e]; rfl)), cur_snoc hLk hs]
            clear hLk
            go_wp2_with fail
            go_roundw
            case rel => exact ⟨k + 1, s, W, by omega, by omega, by go_num, by rfl, hown, by omega, HZ, HPR, HB.out⟩
            case measure => simp [intOf]; omega
      · obtain rfl : k = x.size := by omega
        have HPR : Hid (∀ j (hj : j < x.size), j < x.size + 1 → ¬ (x[j].toNat < 32 ∨ 126 < x[j].toNat)) := fun j hj _ => hpr.out j hj hj
        have HD : Hid ((L ++ [32]).drop x.size = 32 :: (L ++ [32]).drop (x.size + 1)) := by unfold Hid; rw [← hLl]; exact dropE L
        by_cases hsk : s < x.size
        · have hski : (s : Int) < (x.size : Nat) := by omega
          have HZ : Hid (wds [] (L ++ [32]) = (W ++ [(L.drop s).take (x.size - s)]) ++ wds ((L.drop (x.size + 1)).take (x.size + 1 - (x.size + 1))) ((L ++ [32]).drop (x.size + 1))) := by
            unfold Hid; rw [hz.out, HD.out, wd_n (cur_ne hsk (by omega)), cur_nil]; simp
          have HT : Hid (x.extract s x.size = ⟨((L.drop s).take (x.size - s)).toArray⟩) := by unfold Hid; rw [ext_bs, HL.out]
          go_wp2_with (at_builtin; refine (fun h : Hid _ => h.out) ?_)
          unfold Hid
          refine append1 ei_S rfl _ _ rfl w.heap.size wr _ _ W.length _ (by rfl) hown.out [.string (x.extract s x.size)] (by rfl) rfl (one_str1 _) (by omega) (by omega) ?_
          intro v' w2 ho2 he2
          have HO2 := Lib.hid ho2
          have HE2 := Lib.hid (he2 w HB.out (Nat.le_refl _))
          clear ho2 he2
          go_wp2_with fail
          go_roundw
          case rel => exact ⟨x.size + 1, x.size + 1, W ++ [(L.drop s).take (x.size - s)], by omega, Nat.le_refl _, by go_num, by go_num, by (unfold Hid; rw [sval_snoc, ← HT.out, List.length_append]; exact HO2.out), by simp; omega, HZ, HPR, HE2.out⟩
          case measure => simp [intOf] <;> omega
        · obtain rfl : s = x.size := by omega
          have HZ : Hid (wds [] (L ++ [32]) = W ++ wds ((L.drop (x.size + 1)).take (x.size + 1 - (x.size + 1))) ((L ++ [32]).drop (x.size + 1))) := by
            unfold Hid; rw [hz.out, HD.out, cur_nil, wd_e, cur_nil]
          go_wp2_with fail
          go_roundw
          case rel => exact ⟨x.size + 1, x.size + 1, W, by omega, Nat.le_refl _, by go_num, by go_num, hown, by omega, HZ, HPR, HB.out⟩
          case measure => simp [intOf] <;> omega
    · obtain rfl : k = x.size + 1 := by omega
      have hF : fieldsOf x = W := by
        have h := hz.out
        have hd0 : (L ++ [32]).drop (x.size + 1) = [] := drop_nil (by rw [List.length_append, hLl]; exact Nat.le_refl _)
        rw [hd0, wd_nil, List.append_nil] at h
        unfold fieldsOf
        rw [← HL.out, h]
      by_cases h24 : 24 < W.length
      · have h24i : (24 : Int) < W.length := by omega
        have HN := Lib.hid (sp_many (x := x) (by rw [hF]; exact h24))
        clear hF
        go_wp2_with fail
        exact bodyPost_ret (v := .tuple #[.slice (some ⟨wr.heap.size, 0, none⟩) 0 0, .bool false]) (by simp [results, Tryz.results78, go_sem, *]) rfl (Hbad.out _ _ (HB.out.alloc _) HN.out)
      · have h24i : (W.length : Int) ≤ 24 := by omega
        have hok : spOk x = true := sp_good (by omega) (fun j hj => hpr.out j hj (by omega)) (by rw [hF]; omega)
        have HOK : Hid (SplitPost x w (.returned (.tuple #[.slice A W.length c', .bool true])) wr) := ⟨_, by rw [hok], HB.out, fun _ => by rw [hF]; exact hown.out⟩
        clear hF hok
        go_wp2_with fail
        exact bodyPost_ret (v := .tuple #[.slice A W.length c', .bool true]) (by simp [results, Tryz.results78, go_sem, *]) rfl HOK.out
end Go.Proofs.YtfmifllcbbfpoaaGreatDoor
