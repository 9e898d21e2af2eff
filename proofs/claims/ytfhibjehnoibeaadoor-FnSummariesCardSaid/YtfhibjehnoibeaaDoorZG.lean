/- Texts of one proof, laid one behind the other (Shelf, ST1, ST2, ST7, Shelf2, ST3, ST9, ST4, ST5, MP, MQ); no condition but what stands at each theorem. -/
import Derived.Shelf.Strings.Builder1
import Derived.Shelf.Strings.Builder2
import Derived.Shelf.Strings.OnBuilder
import Derived.Shelf.Strconv.Itoa0
import Derived.Shelf.Strconv.Itoa1
import Derived.Shelf.LaysM
import Derived.Shelf.Strconv.Itoa2
import Derived.Shelf.Strconv.Itoa3
import Derived.Shelf.Strings.Search1
import Derived.Shelf.Strings.Search2
import Derived.Shelf.Strings.Search3
import Derived.Shelf.Strings.Count
import Derived.Shelf.Strings.Shaped
import Derived.Shelf.Strings.Split
import Derived.Shelf.Strings.SplitShaped
import Derived.Shelf.Bits.Mul64
import Derived.Shelf.Unicode.DecodeSlow
import Derived.Test.YtfhibjehnoibeaaDoorProg
import Derived.Laws.IdiomStrings
import Derived.Lib.ItoaLen
import Derived.Lib.SmallJoins
import Derived.Lib.SplitLaws
import Derived.Test.YtfhibjehnoibeaaDoorZA
import Derived.Test.YtfhibjehnoibeaaDoorZB
/-
  DERIVED: THE SHELF's CONTRACTS AT THIS DUMP, IN PLAIN WORDS (tools/lay-plain.mjs out of 'TrydShelf.lean', which tools/lay-shelf.mjs wrote): THE SAME DECLARATIONS UNDER THE SAME NAMES: 'import', 'namespace', 'open', 'def', 'theorem' AND NOTHING ELSE: no command of the shelf's: FOR A HAND-IN. Each laying: the table of numbers ('.._ren') and one theorem, a field a fact of the dump's own or the kernel's comparison; each contract: ONE APPLICATION.
-/
namespace Go.Proofs
open Go.Shelf
def Tryd.laysM171_ren : Go.Shelf.Ren := ⟨fun | 171 => 38 | 243 => 54 | 246 => 69 | 283 => 88 | 284 => 89 | 285 => 90 | 286 => 91 | 129 => 112 | 317 => 111 | 318 => 113 | 319 => 114 | 320 => 115 | 337 => 122 | 338 => 123 | n => n, fun | 3 => 3 | 9 => 9 | 2 => 2 | 4 => 4 | 171 => 131 | 0 => 0 | 53 => 132 | 37 => 22 | 5 => 5 | 173 => 135 | 212 => 143 | 51 => 144 | 20 => 20 | 213 => 145 | 46 => 110 | 232 => 160 | 233 => 161 | n => n, fun | 17 => 1 | 18 => 4 | 19 => 5 | n => n⟩
theorem Tryd.laysM171 : Go.Proofs.LaysM.n171 Tryd.prog Tryd.laysM171_ren := {
  mixed := by kernel_rfl
  f129 := Tryd.func112.trans (congrArg some (by kernel_rfl))
  f171 := Tryd.func38.trans (congrArg some (by kernel_rfl))
  f243 := Tryd.func54.trans (congrArg some (by kernel_rfl))
  f246 := Tryd.func69.trans (congrArg some (by kernel_rfl))
  f283 := Tryd.func88.trans (congrArg some (by kernel_rfl))
  f284 := Tryd.func89.trans (congrArg some (by kernel_rfl))
  f285 := Tryd.func90.trans (congrArg some (by kernel_rfl))
  f286 := Tryd.func91.trans (congrArg some (by kernel_rfl))
  f317 := Tryd.func111.trans (congrArg some (by kernel_rfl))
  f318 := Tryd.func113.trans (congrArg some (by kernel_rfl))
  f319 := Tryd.func114.trans (congrArg some (by kernel_rfl))
  f320 := Tryd.func115.trans (congrArg some (by kernel_rfl))
  f337 := Tryd.func122.trans (congrArg some (by kernel_rfl))
  f338 := Tryd.func123.trans (congrArg some (by kernel_rfl))
  t0 := Tryd.underlying0
  a0 := Tryd.isAgg0
  z0 := Tryd.sizeOf0
  v0 := Tryd.zeroValue0
  t2 := Tryd.underlying2
  a2 := Tryd.isAgg2
  z2 := Tryd.sizeOf2
  v2 := Tryd.zeroValue2
  t3 := Tryd.underlying3
  a3 := Tryd.isAgg3
  z3 := Tryd.sizeOf3
  v3 := Tryd.zeroValue3
  t4 := Tryd.underlying4
  a4 := Tryd.isAgg4
  z4 := Tryd.sizeOf4
  v4 := Tryd.zeroValue4
  t5 := Tryd.underlying5
  a5 := Tryd.isAgg5
  z5 := Tryd.sizeOf5
  v5 := Tryd.zeroValue5
  t9 := Tryd.underlying9
  a9 := Tryd.isAgg9
  z9 := Tryd.sizeOf9
  v9 := Tryd.zeroValue9
  t20 := Tryd.underlying20
  a20 := Tryd.isAgg20
  z20 := Tryd.sizeOf20
  v20 := Tryd.zeroValue20
  t37 := Tryd.underlying22
  a37 := Tryd.isAgg22
  z37 := Tryd.sizeOf22
  v37 := Tryd.zeroValue22
  t46 := Tryd.underlying110
  a46 := Tryd.isAgg110
  z46 := Tryd.sizeOf110
  v46 := Tryd.zeroValue110
  t51 := Tryd.underlying144
  a51 := Tryd.isAgg144
  z51 := Tryd.sizeOf144
  v51 := Tryd.zeroValue144
  t53 := Tryd.underlying132
  a53 := Tryd.isAgg132
  z53 := Tryd.sizeOf132
  v53 := Tryd.zeroValue132
  t171 := Tryd.underlying131
  a171 := Tryd.isAgg131
  z171 := Tryd.sizeOf131
  v171 := Tryd.zeroValue131
  t173 := Tryd.underlying135
  a173 := Tryd.isAgg135
  z173 := Tryd.sizeOf135
  v173 := Tryd.zeroValue135
  t212 := Tryd.underlying143
  a212 := Tryd.isAgg143
  z212 := Tryd.sizeOf143
  v212 := Tryd.zeroValue143
  t213 := Tryd.underlying145
  a213 := Tryd.isAgg145
  z213 := Tryd.sizeOf145
  t232 := Tryd.underlying160
  a232 := Tryd.isAgg160
  z232 := Tryd.sizeOf160
  v232 := Tryd.zeroValue160
  t233 := Tryd.underlying161
  a233 := Tryd.isAgg161
  z233 := Tryd.sizeOf161
  v233 := Tryd.zeroValue161
  g17 := by kernel_rfl
  g18 := by kernel_rfl
  g19 := by kernel_rfl
  i0 := by kernel_rfl
  i2 := by kernel_rfl
  i3 := by kernel_rfl
  i4 := by kernel_rfl
  i5 := by kernel_rfl
  i9 := by kernel_rfl
  i20 := by kernel_rfl
  i37 := by kernel_rfl
  i46 := by kernel_rfl
  i51 := by kernel_rfl
  i53 := by kernel_rfl
  i171 := by kernel_rfl
  i173 := by kernel_rfl
  i212 := by kernel_rfl
  i232 := by kernel_rfl
  i233 := by kernel_rfl
  m17 := by kernel_rfl
  m18 := by kernel_rfl
  m19 := by kernel_rfl }
open Go.RowKit Go.Sort Go.Lib in
/-- strconv.Itoa: "Itoa is equivalent to FormatInt(int64(i), 10).": i's DECIMAL NUMERAL ('Lib.itoa': a '-' where i is negative, then the digits), FOR EVERY int. The world behind the call: the world before it, new blocks behind the heap (the library's 'var a [24]byte'), draws. (LAID: no walk: one application.) -/
theorem Tryd.strconv_Itoa (n : Int) (h0 : -9223372036854775808 ≤ n) (h1 : n ≤ 9223372036854775807) (w : World) (htab : Lib.TabIs Tryd.prog w "internal/strconv.uint64pow10" .u64 Lib.pow10Tab) :
    Calls Tryd.prog 38 #[.int .i64 n] w fun e w' => e = .returned (.string ⟨(Lib.itoa n).toArray⟩) ∧ ∃ k os, w' = grow (w.drewN k) os := Any.strconv_Itoa Tryd.laysM171 n h0 h1 w htab
def Tryd.lays171_ren : Go.Shelf.Ren := ⟨fun | 171 => 38 | 243 => 54 | 246 => 69 | 283 => 88 | 284 => 89 | 285 => 90 | 286 => 91 | 129 => 112 | 317 => 111 | 318 => 113 | 319 => 114 | 320 => 115 | 337 => 122 | 338 => 123 | n => n, fun | 3 => 3 | 9 => 9 | 2 => 2 | 4 => 4 | 171 => 131 | 0 => 0 | 53 => 132 | 37 => 22 | 5 => 5 | 173 => 135 | 212 => 143 | 51 => 144 | 20 => 20 | 213 => 145 | 46 => 110 | 232 => 160 | 233 => 161 | n => n, fun | 17 => 1 | 18 => 4 | 19 => 5 | n => n⟩
theorem Tryd.lays171 : Go.Proofs.Lays.n171 Tryd.prog Tryd.lays171_ren := {
  mixed := by kernel_rfl
  f129 := Tryd.func112.trans (congrArg some (by kernel_rfl))
  f171 := Tryd.func38.trans (congrArg some (by kernel_rfl))
  f243 := Tryd.func54.trans (congrArg some (by kernel_rfl))
  f246 := Tryd.func69.trans (congrArg some (by kernel_rfl))
  f283 := Tryd.func88.trans (congrArg some (by kernel_rfl))
  f284 := Tryd.func89.trans (congrArg some (by kernel_rfl))
  f285 := Tryd.func90.trans (congrArg some (by kernel_rfl))
  f286 := Tryd.func91.trans (congrArg some (by kernel_rfl))
  f317 := Tryd.func111.trans (congrArg some (by kernel_rfl))
  f318 := Tryd.func113.trans (congrArg some (by kernel_rfl))
  f319 := Tryd.func114.trans (congrArg some (by kernel_rfl))
  f320 := Tryd.func115.trans (congrArg some (by kernel_rfl))
  f337 := Tryd.func122.trans (congrArg some (by kernel_rfl))
  f338 := Tryd.func123.trans (congrArg some (by kernel_rfl))
  t0 := Tryd.underlying0
  a0 := Tryd.isAgg0
  z0 := Tryd.sizeOf0
  v0 := Tryd.zeroValue0
  t2 := Tryd.underlying2
  a2 := Tryd.isAgg2
  z2 := Tryd.sizeOf2
  v2 := Tryd.zeroValue2
  t3 := Tryd.underlying3
  a3 := Tryd.isAgg3
  z3 := Tryd.sizeOf3
  v3 := Tryd.zeroValue3
  t4 := Tryd.underlying4
  a4 := Tryd.isAgg4
  z4 := Tryd.sizeOf4
  v4 := Tryd.zeroValue4
  t5 := Tryd.underlying5
  a5 := Tryd.isAgg5
  z5 := Tryd.sizeOf5
  v5 := Tryd.zeroValue5
  t9 := Tryd.underlying9
  a9 := Tryd.isAgg9
  z9 := Tryd.sizeOf9
  v9 := Tryd.zeroValue9
  t20 := Tryd.underlying20
  a20 := Tryd.isAgg20
  z20 := Tryd.sizeOf20
  v20 := Tryd.zeroValue20
  t37 := Tryd.underlying22
  a37 := Tryd.isAgg22
  z37 := Tryd.sizeOf22
  v37 := Tryd.zeroValue22
  t46 := Tryd.underlying110
  a46 := Tryd.isAgg110
  z46 := Tryd.sizeOf110
  v46 := Tryd.zeroValue110
  t51 := Tryd.underlying144
  a51 := Tryd.isAgg144
  z51 := Tryd.sizeOf144
  v51 := Tryd.zeroValue144
  t53 := Tryd.underlying132
  a53 := Tryd.isAgg132
  z53 := Tryd.sizeOf132
  v53 := Tryd.zeroValue132
  t171 := Tryd.underlying131
  a171 := Tryd.isAgg131
  z171 := Tryd.sizeOf131
  v171 := Tryd.zeroValue131
  t173 := Tryd.underlying135
  a173 := Tryd.isAgg135
  z173 := Tryd.sizeOf135
  v173 := Tryd.zeroValue135
  t212 := Tryd.underlying143
  a212 := Tryd.isAgg143
  z212 := Tryd.sizeOf143
  v212 := Tryd.zeroValue143
  t213 := Tryd.underlying145
  a213 := Tryd.isAgg145
  z213 := Tryd.sizeOf145
  t232 := Tryd.underlying160
  a232 := Tryd.isAgg160
  z232 := Tryd.sizeOf160
  v232 := Tryd.zeroValue160
  t233 := Tryd.underlying161
  a233 := Tryd.isAgg161
  z233 := Tryd.sizeOf161
  v233 := Tryd.zeroValue161
  g17 := by kernel_rfl
  g18 := by kernel_rfl
  g19 := by kernel_rfl }
open Go.RowKit Go.Sort Go.Lib in
/-- THE ROAD WITHOUT THE TABLE: 0 <= i < 100: NO PREMISE ON THE WORLD, AND THE WORLD IS AS IT WAS: a row that keeps its argument in that range need list no table ('laid = []'). (LAID: no walk: one application.) -/
theorem Tryd.strconv_Itoa_small (i : Nat) (hi : i < 100) (w : World) :
    Calls Tryd.prog 38 #[.int .i64 i] w fun e w' => e = .returned (.string ⟨(Lib.decDigits i).toArray⟩) ∧ w' = w := Any.strconv_Itoa_small Tryd.lays171 i hi w
def Tryd.lays146_ren : Go.Shelf.Ren := ⟨fun | 146 => 36 | 221 => 52 | 268 => 65 | 138 => 66 | 143 => 67 | 195 => 83 | 197 => 84 | 218 => 85 | 219 => 86 | 260 => 105 | 217 => 106 | 225 => 107 | 224 => 108 | 267 => 109 | 266 => 120 | 314 => 121 | n => n, fun | 9 => 9 | 31 => 54 | 3 => 3 | 4 => 4 | 0 => 0 | 105 => 127 | 21 => 21 | 5 => 5 | 46 => 110 | 119 => 150 | 139 => 153 | 138 => 152 | 146 => 154 | 51 => 144 | n => n, fun | 1 => 0 | 3 => 2 | 4 => 3 | n => n⟩
theorem Tryd.lays146 : Go.Proofs.Lays.n146 Tryd.prog Tryd.lays146_ren := {
  mixed := by kernel_rfl
  f138 := Tryd.func66.trans (congrArg some (by kernel_rfl))
  f143 := Tryd.func67.trans (congrArg some (by kernel_rfl))
  f146 := Tryd.func36.trans (congrArg some (by kernel_rfl))
  f195 := Tryd.func83.trans (congrArg some (by kernel_rfl))
  f197 := Tryd.func84.trans (congrArg some (by kernel_rfl))
  f217 := Tryd.func106.trans (congrArg some (by kernel_rfl))
  f218 := Tryd.func85.trans (congrArg some (by kernel_rfl))
  f219 := Tryd.func86.trans (congrArg some (by kernel_rfl))
  f221 := Tryd.func52.trans (congrArg some (by kernel_rfl))
  f224 := Tryd.func108.trans (congrArg some (by kernel_rfl))
  f225 := Tryd.func107.trans (congrArg some (by kernel_rfl))
  f260 := Tryd.func105.trans (congrArg some (by kernel_rfl))
  f266 := Tryd.func120.trans (congrArg some (by kernel_rfl))
  f267 := Tryd.func109.trans (congrArg some (by kernel_rfl))
  f268 := Tryd.func65.trans (congrArg some (by kernel_rfl))
  f314 := Tryd.func121.trans (congrArg some (by kernel_rfl))
  t0 := Tryd.underlying0
  a0 := Tryd.isAgg0
  z0 := Tryd.sizeOf0
  v0 := Tryd.zeroValue0
  t3 := Tryd.underlying3
  a3 := Tryd.isAgg3
  z3 := Tryd.sizeOf3
  v3 := Tryd.zeroValue3
  t4 := Tryd.underlying4
  a4 := Tryd.isAgg4
  z4 := Tryd.sizeOf4
  v4 := Tryd.zeroValue4
  t5 := Tryd.underlying5
  a5 := Tryd.isAgg5
  z5 := Tryd.sizeOf5
  v5 := Tryd.zeroValue5
  t9 := Tryd.underlying9
  a9 := Tryd.isAgg9
  z9 := Tryd.sizeOf9
  v9 := Tryd.zeroValue9
  t21 := Tryd.underlying21
  a21 := Tryd.isAgg21
  z21 := Tryd.sizeOf21
  v21 := Tryd.zeroValue21
  t31 := Tryd.underlying54
  a31 := Tryd.isAgg54
  z31 := Tryd.sizeOf54
  v31 := Tryd.zeroValue54
  t46 := Tryd.underlying110
  a46 := Tryd.isAgg110
  z46 := Tryd.sizeOf110
  v46 := Tryd.zeroValue110
  t51 := Tryd.underlying144
  a51 := Tryd.isAgg144
  z51 := Tryd.sizeOf144
  v51 := Tryd.zeroValue144
  t105 := Tryd.underlying127
  a105 := Tryd.isAgg127
  z105 := Tryd.sizeOf127
  v105 := Tryd.zeroValue127
  t119 := Tryd.underlying150
  a119 := Tryd.isAgg150
  z119 := Tryd.sizeOf150
  t138 := Tryd.underlying152
  a138 := Tryd.isAgg152
  z138 := Tryd.sizeOf152
  v138 := Tryd.zeroValue152
  t139 := Tryd.underlying153
  a139 := Tryd.isAgg153
  z139 := Tryd.sizeOf153
  v139 := Tryd.zeroValue153
  t146 := Tryd.underlying154
  a146 := Tryd.isAgg154
  z146 := Tryd.sizeOf154
  v146 := Tryd.zeroValue154
  g1 := by kernel_rfl
  g3 := by kernel_rfl
  g4 := by kernel_rfl }
open Go.RowKit Go.Lib in
/-- strings.Split. (LAID: no walk: one application.) -/
theorem Tryd.strings_Split (s sep : ByteArray) (m : Int) (w : World) (hs : s.size < 4294967281) (hm : w.cell? ⟨0, 0, none⟩ = some (.int .i64 m)) (h1 : 1 ≤ sep.size) :
    Calls Tryd.prog 36 #[.string s, .string sep] w fun e w' =>
      e = .returned (.slice (some ⟨w.heap.size, 0, none⟩) (Lib.countB s sep + 1) (Lib.countB s sep + 1)) ∧ w' = w.alloc (.cells ((Lib.splitB sep 0 (Lib.countB s sep) s).map Value.string).toArray 9) := Any.strings_Split Tryd.lays146 (by kernel_rfl) s sep m w hs hm h1
end Go.Proofs
/- Contracts of FormatInt of both sides; no condition but what stands at each theorem. -/
namespace Go.Proofs.YtfhibjehnoibeaaDoor
set_option linter.unusedSimpArgs false
set_option linter.unusedVariables false
open Go.RowKit Go.Sort
/-- A number as a text. -/
def itext (n : Int) : ByteArray := ⟨(Lib.itoa n).toArray⟩
theorem str_app (a b : List UInt8) : ((⟨a.toArray⟩ : ByteArray) ++ ⟨b.toArray⟩) = ⟨(a ++ b).toArray⟩ := by
  apply ByteArray.ext
  simp
theorem str_cons (b : UInt8) (L : List UInt8) : ((⟨#[b]⟩ : ByteArray) ++ ⟨L.toArray⟩) = ⟨(b :: L).toArray⟩ := str_app [b] L
def dig0 (m : Nat) : List UInt8 := if m = 0 then [] else Lib.decDigits m
theorem dig0_step {m : Nat} (h : m ≠ 0) : dig0 m = dig0 (m / 10) ++ [UInt8.ofNat (48 + m % 10)] := by
  unfold dig0
  rw [if_neg h, Lib.decDigits]
  by_cases h10 : m < 10
  · rw [dif_pos h10, if_pos (by omega), show m % 10 = m by omega]; rfl
  · rw [dif_neg h10, if_neg (by omega)]
theorem spec_l01Figure (d : Int) (w : World) (h0 : 0 ≤ d) (h : d ≤ 9) : Calls Tryd.prog 118 #[.int .i64 d] w fun e w' => e = .returned (.int .u8 (48 + d)) ∧ w = w' := by
  go_enter Tryd.func118, Tryd.ntmps118
  go_wp2
  go_ret
  exact ⟨ret_int (by first | rfl | omega), rfl⟩
theorem convb1 (w : World) (x : Nat) (h : x < 256) : (convert 22 9 (.slice (some ⟨w.heap.size, 0, none⟩) 1 1)).run Tryd.prog (w.alloc (.cells #[.int .u8 (x : Int)] 5)) = .ok (.string ⟨#[UInt8.ofNat x]⟩) (w.alloc (.cells #[.int .u8 (x : Int)] 5)) := by
  refine run_convert_bytes_back (P := Tryd.prog) _ 22 9 5 _ 1 [UInt8.ofNat x] Tryd.underlying22 Tryd.underlying5 Tryd.underlying9 ?_
  intro j hj
  simp only [List.length_cons, List.length_nil] at hj
  obtain rfl : j = 0 := by omega
  rw [add_none, World.cell?_alloc_new]
  simp [Nat.mod_eq_of_lt h]
set_option maxRecDepth 100000 in
set_option maxHeartbeats 1000000 in
theorem spec_FormatInt (n : Nat) (w : World) (h : n ≤ 1000000000000) : Calls Tryd.prog 100 #[.int .i64 n] w fun e w' => e = .returned (.string (itext n)) ∧ Ext w w' := by
  by_cases h0 : n = 0
  case pos =>
    subst h0
    have HF : Hid (itext ((0 : Nat) : Int) = ⟨#[48]⟩) := by unfold Hid itext Lib.itoa Lib.decDigits; rfl
    go_enter Tryd.func100, Tryd.ntmps100
    go_wp2
    go_ret
    exact ⟨by rw [HF.out]; rfl, Ext.refl _⟩
  case neg =>
    have f0 : ((n : Int) == 0) = false := by rw [beq_eq_false_iff_ne]; omega
    go_enter Tryd.func100, Tryd.ntmps100
    go_wp2_with fail
    go_loopw [0, 4] (fun z t wr => ∃ (m : Nat) (L : List UInt8), z = .int .i64 (m : Int) ∧ t = .string ⟨L.toArray⟩ ∧ m ≤ 1000000000000 ∧ L.length ≤ 13 ∧ Hid (m < 10 ^ (13 - L.length)) ∧ Hid (Lib.decDigits n = dig0 m ++ L) ∧ Ext w wr) (fun z _ _ => (intOf z).toNat)
    case atStart => exact ⟨n, [], rfl, rfl, h, by simp, by unfold Hid; simp; omega, by unfold Hid dig0; rw [if_neg h0]; simp, Ext.refl _⟩
    case round =>
      obtain ⟨m, L, rfl, rfl, hm, hL13, hpw, hz, hb⟩ := hrel
      have HB := Lib.hid hb
      clear hb
      by_cases hm0 : m = 0
      · subst hm0
        have HT : Hid (itext (n : Int) = ⟨L.toArray⟩) := by
          have h2 := hz.out
          unfold Hid itext
          rw [Lib.itoa, if_neg (by omega), Int.toNat_natCast, h2]
          simp [dig0]
        have f1 : (((0 : Nat) : Int) != 0) = false := rfl
        have f2 : ((0 : Int) != 0) = false := rfl
        go_wp2_with fail
        go_ret
        exact ⟨by rw [HT.out]; rfl, HB.out⟩
      · have f1 : ((m : Int) != 0) = true := by rw [bne_iff_ne]; omega
        have HZ : Hid (Lib.decDigits n = dig0 (m / 10) ++ (UInt8.ofNat (48 + m % 10) :: L)) := by
          unfold Hid
          rw [hz.out, dig0_step hm0, List.append_assoc]
          rfl
        have hd : m % 10 ≤ 9 := by omega
        have hF := Lib.hid (fun w => spec_l01Figure ((m : Int) % 10) w (by omega) (by omega))
        have hcv := fun (w : World) => convb1 w (48 + m % 10) (by omega)
        have ec : ((48 + m % 10 : Nat) : Int) = 48 + (m : Int) % 10 := by push_cast; rfl
        rw [ec] at hcv
        have hm1 : m / 10 < m := by omega
        have hL12 : L.length ≤ 12 := by
          have h2 := hpw.out
          have : L.length ≠ 13 := by
            intro e; rw [e] at h2; simp at h2; omega
          omega
        have HPw : Hid (m / 10 < 10 ^ (13 - (UInt8.ofNat (48 + m % 10) :: L).length)) := by
          have h2 := hpw.out
          unfold Hid
          rw [show 13 - L.length = (12 - L.length) + 1 by omega, Nat.pow_succ] at h2
          rw [List.length_cons, show 13 - (L.length + 1) = 12 - L.length by omega]
          exact Nat.div_lt_of_lt_mul (by omega)
        clear ec
        go_wp2_with (refine (hF.out _).mono ?_; rintro e w1 ⟨rfl, rfl⟩)
        go_roundw
        case rel => exact ⟨m / 10, UInt8.ofNat (48 + m % 10) :: L, by go_num, by rw [str_cons, UInt8.ofNat_add]; rfl, by omega, by simp; omega, HPw, HZ, HB.out.alloc _⟩
        case measure => simp [intOf]; omega
end Go.Proofs.YtfhibjehnoibeaaDoor
/- Contracts of the program's FormatInt, and of MoveText of both sides; no condition but what stands at each theorem. -/
namespace Go.Proofs.YtfhibjehnoibeaaDoor
set_option linter.unusedSimpArgs false
set_option linter.unusedVariables false
open Go.RowKit Go.Sort
theorem itext_nat (i : Nat) : itext (i : Int) = ⟨(Lib.decDigits i).toArray⟩ := by
  unfold itext Lib.itoa
  rw [if_neg (by omega), Int.toNat_natCast]
theorem itext_size (n : Int) (h0 : -9223372036854775808 ≤ n) (h1 : n ≤ 9223372036854775807) : (itext n).size ≤ 21 := by
  have := Lib.itoa_length_le n h0 h1
  show (Lib.itoa n).toArray.size ≤ 21
  simpa using this
theorem impl_FormatIntS (i : Nat) (hi : i < 100) (w : World) : Calls Tryd.prog 19 #[.int .i64 i] w fun e w' => e = .returned (.string (itext i)) ∧ w = w' := by
  have hc := Lib.hid (Tryd.strconv_Itoa_small i hi w)
  have HT := Lib.hid (itext_nat i)
  go_enter Tryd.func19, Tryd.ntmps19
  go_wp2_with (refine hc.out.mono ?_; rintro e w1 ⟨rfl, rfl⟩)
  go_ret
  exact ⟨by rw [HT.out]; rfl, rfl⟩
theorem impl_FormatInt (n : Int) (h0 : -9223372036854775808 ≤ n) (h1 : n ≤ 9223372036854775807) (w : World) (htab : Hid (Lib.TabIs Tryd.prog w "internal/strconv.uint64pow10" .u64 Lib.pow10Tab)) :
    Calls Tryd.prog 19 #[.int .i64 n] w fun e w' => e = .returned (.string (itext n)) ∧ Ext w w' := by
  have hc := Lib.hid (Tryd.strconv_Itoa n h0 h1 w htab.out)
  go_enter Tryd.func19, Tryd.ntmps19
  go_wp2_with fail
  refine hc.out.mono ?_
  rintro e w1 ⟨rfl, k, os, hw⟩
  have HE : Hid (Ext w w1) := by unfold Hid; rw [hw]; exact below_regrown w _ os
  clear hw
  go_wp2_with fail
  go_ret
  exact ⟨rfl, HE.out⟩
def sp1 : ByteArray := ⟨#[32]⟩
/-- Numbers behind a text, each behind a blank; the empty text where one is not from 0 to 20. -/
def mvF (s : ByteArray) : List Int → ByteArray
  | [] => s
  | x :: r => if inB x 0 20 then mvF (s ++ sp1 ++ itext x) r else ByteArray.empty
def moveT (m : GMove) : ByteArray := mvF ⟨#[109, 111, 118, 101]⟩ [m.o, m.t, m.f, m.s]
theorem rd_lit (w : World) (t : TypeId) (xs : List Int) (hn : xs.length ≤ 1048576) : Rd (w.alloc (.cells (xs.map (Value.int .i64)).toArray t)) 1 (some ⟨w.heap.size, 0, none⟩) xs.length (xs.flatMap ienc) := by
  refine ⟨by rw [flat_len ienc 1 ienc_len], by omega, fun _ => ⟨w.heap.size, 0, rfl, by simp, fun j u hu => ?_⟩⟩
  rw [World.cell?_alloc_new, Nat.zero_add]
  rw [ienc_map] at hu
  simpa using hu
set_option maxRecDepth 100000 in
set_option maxHeartbeats 2000000 in
theorem spec_MoveText (m : GMove) (w : World) : Calls Tryd.prog 75 #[.agg #[.int .i64 m.o, .int .i64 m.t, .int .i64 m.f, .int .i64 m.s]] w fun e w' => e = .returned (.string (moveT m)) ∧ Ext w w' := by
  obtain ⟨wa, hwa⟩ : ∃ wa, wa = w.alloc (.cells #[.int .i64 m.o, .int .i64 m.t, .int .i64 m.f, .int .i64 m.s] 41) := ⟨_, rfl⟩
  obtain ⟨wb, hwb⟩ : ∃ wb, wb = wa.alloc (.cells #[.int .i64 m.o, .int .i64 m.t, .int .i64 m.f, .int .i64 m.s] 3) := ⟨_, rfl⟩
  obtain ⟨xs, hxs⟩ : ∃ xs : List Int, xs = [m.o, m.t, m.f, m.s] := ⟨_, rfl⟩
  have hr : Rd wb 1 (some ⟨w.heap.size + 1, 0, none⟩) 4 (xs.flatMap ienc) := by
    have := rd_lit wa 3 [m.o, m.t, m.f, m.s] (by simp)
    rw [show wa.heap.size = w.heap.size + 1 by rw [hwa]; simp] at this
    rw [hwb, hxs]; exact this
  have hE : Ext w wb := by rw [hwb, hwa]; exact ((Ext.refl w).alloc _).alloc _
  have HM : Hid (moveT m = mvF ⟨#[109, 111, 118, 101]⟩ xs) := by unfold Hid moveT; rw [hxs]
  have hl : Hid (xs.length = 4) := by unfold Hid; rw [hxs]; rfl
  have HR := Lib.hid hr
  have HE := Lib.hid hE
  have Hwa := Lib.hid hwa
  have Hwb := Lib.hid hwb
  clear hr hE hwa hwb hxs
  go_enter Tryd.func75, Tryd.ntmps75
  go_wp2_with fail
  rw [← Hwa.out, ← Hwb.out]
  go_loopw [3, 5] (fun s i wr => ∃ (k : Nat) (t : ByteArray), k ≤ 4 ∧ i = .int .i64 k ∧ s = .string t ∧ t.size ≤ 4 + 30 * k ∧ Hid (moveT m = mvF t (xs.drop k)) ∧ Ext wb wr) (fun _ i _ => 4 - (intOf i).toNat)
  case atStart => exact ⟨0, _, Nat.zero_le _, rfl, rfl, by decide, HM, Ext.refl _⟩
  case round =>
    obtain ⟨k, t, hk, rfl, rfl, ht, hz, hb⟩ := hrel
    by_cases hlt : k < 4
    · obtain ⟨b, off, x, hA, hbs, hxk, p0⟩ := ienc_at (HR.out.keep hb) hlt
      injection hA with hA
      injection hA with h1 h2
      subst h1 h2
      rw [Nat.zero_add] at p0
      have HD := Lib.hid (drop_cons hxk)
      have HB := Lib.hid hb
      have cI := Lib.hid (fun w => spec_l01In x 0 20 w)
      have i0 : (0 : Int) ≤ (k : Int) := by omega
      have i1 : (k : Int) < 4 := by omega
      clear hb hxk
      cases hi : inB x 0 20
      case false =>
        rw [hi] at cI
        have HT : Hid (moveT m = ByteArray.empty) := by unfold Hid; rw [hz.out, HD.out, mvF, hi]; rfl
        clear hi
        go_wp2_with (refine (cI.out _).mono ?_; rintro e w1 ⟨rfl, rfl⟩)
        go_ret
        exact ⟨by rw [HT.out]; rfl, HE.out.trans HB.out⟩
      case true =>
        have hx0 : 0 ≤ x ∧ x ≤ 20 := by simpa [inB] using hi
        obtain ⟨z, hzz⟩ := Int.eq_ofNat_of_zero_le hx0.1
        subst hzz
        rw [hi] at cI
        have hsz := itext_size z (by omega) (by omega)
        have HT : Hid (moveT m = mvF (t ++ sp1 ++ itext z) (xs.drop (k + 1))) := by unfold Hid; rw [hz.out, HD.out, mvF, hi]; rfl
        have hts : (t ++ sp1 ++ itext z).size ≤ 4 + 30 * (k + 1) := by
          rw [ByteArray.size_append, ByteArray.size_append]
          have : sp1.size = 1 := rfl
          omega
        have P0 := Lib.hid p0
        clear hi
        obtain ⟨T, hT⟩ : ∃ T, T = itext z := ⟨_, rfl⟩
        have hF := Lib.hid (fun w => spec_FormatInt z w (by omega))
        rw [← hT] at hsz HT hts hF
        have HTT := Lib.hid hT
        clear hT
        go_wp2_with (go_at_call 72; refine (cI.out _).mono ?_; rintro e w1 ⟨rfl, rfl⟩)
        refine (hF.out _).mono ?_
        rintro e w1 ⟨rfl, h1⟩
        have HB1 := Lib.hid (HB.out.trans h1)
        clear h1
        go_wp2_with fail
        go_roundw
        case rel => exact ⟨k + 1, t ++ sp1 ++ T, by omega, by go_num, by first | rfl | (rw [ByteArray.append_assoc]; rfl), hts, HT, HB1.out⟩
        case measure => simp [intOf]; omega
    · obtain rfl : k = 4 := by omega
      have HT : Hid (moveT m = t) := by unfold Hid; rw [hz.out, drop_nil (by rw [hl.out]; omega)]; rfl
      have HB := Lib.hid hb
      clear hb
      go_wp2_with fail
      go_ret
      exact ⟨by rw [HT.out]; rfl, HE.out.trans HB.out⟩
set_option maxRecDepth 100000 in
set_option maxHeartbeats 2000000 in
theorem impl_MoveText (m : GMove) (w : World) : Calls Tryd.prog 14 #[.agg #[.int .i64 m.o, .int .i64 m.t, .int .i64 m.f, .int .i64 m.s]] w fun e w' => e = .returned (.string (moveT m)) ∧ Ext w w' := by
  obtain ⟨wa, hwa⟩ : ∃ wa, wa = w.alloc (.cells #[.int .i64 m.o, .int .i64 m.t, .int .i64 m.f, .int .i64 m.s] 41) := ⟨_, rfl⟩
  obtain ⟨wb, hwb⟩ : ∃ wb, wb = wa.alloc (.cells #[.int .i64 m.o, .int .i64 m.t, .int .i64 m.f, .int .i64 m.s] 3) := ⟨_, rfl⟩
  obtain ⟨xs, hxs⟩ : ∃ xs : List Int, xs = [m.o, m.t, m.f, m.s] := ⟨_, rfl⟩
  have hr : Rd wb 1 (some ⟨w.heap.size + 1, 0, none⟩) 4 (xs.flatMap ienc) := by
    have := rd_lit wa 3 [m.o, m.t, m.f, m.s] (by simp)
    rw [show wa.heap.size = w.heap.size + 1 by rw [hwa]; simp] at this
    rw [hwb, hxs]; exact this
  have hE : Ext w wb := by rw [hwb, hwa]; exact ((Ext.refl w).alloc _).alloc _
  have HM : Hid (moveT m = mvF ⟨#[109, 111, 118, 101]⟩ xs) := by unfold Hid moveT; rw [hxs]
  have hl : Hid (xs.length = 4) := by unfold Hid; rw [hxs]; rfl
  have HR := Lib.hid hr
  have HE := Lib.hid hE
  have Hwa := Lib.hid hwa
  have Hwb := Lib.hid hwb
  clear hr hE hwa hwb hxs
  go_enter Tryd.func14, Tryd.ntmps14
  go_wp2_with fail
  rw [← Hwa.out, ← Hwb.out]
  go_loopw [3, 16] (fun s i wr => ∃ (k : Nat) (t : ByteArray), k ≤ 4 ∧ i = .int .i64 k ∧ s = .string t ∧ t.size ≤ 4 + 30 * k ∧ Hid (moveT m = mvF t (xs.drop k)) ∧ Ext wb wr) (fun _ i _ => 4 - (intOf i).toNat)
  case atStart => exact ⟨0, _, Nat.zero_le _, rfl, rfl, by decide, HM, Ext.refl _⟩
  case round =>
    obtain ⟨k, t, hk, rfl, rfl, ht, hz, hb⟩ := hrel
    by_cases hlt : k < 4
    · obtain ⟨b, off, x, hA, hbs, hxk, p0⟩ := ienc_at (HR.out.keep hb) hlt
      injection hA with hA
      injection hA with h1 h2
      subst h1 h2
      rw [Nat.zero_add] at p0
      have HD := Lib.hid (drop_cons hxk)
      have HB := Lib.hid hb
      have cI := Lib.hid (fun w => impl_between x 0 20 w)
      have i0 : (0 : Int) ≤ (k : Int) := by omega
      have i1 : (k : Int) < 4 := by omega
      clear hb hxk
      cases hi : inB x 0 20
      case false =>
        rw [hi] at cI
        have HT : Hid (moveT m = ByteArray.empty) := by unfold Hid; rw [hz.out, HD.out, mvF, hi]; rfl
        clear hi
        go_wp2_with (refine (cI.out _).mono ?_; rintro e w1 ⟨rfl, rfl⟩)
        go_ret
        exact ⟨by rw [HT.out]; rfl, HE.out.trans HB.out⟩
      case true =>
        have hx0 : 0 ≤ x ∧ x ≤ 20 := by simpa [inB] using hi
        obtain ⟨z, hzz⟩ := Int.eq_ofNat_of_zero_le hx0.1
        subst hzz
        rw [hi] at cI
        have hsz := itext_size z (by omega) (by omega)
        have HT : Hid (moveT m = mvF (t ++ sp1 ++ itext z) (xs.drop (k + 1))) := by unfold Hid; rw [hz.out, HD.out, mvF, hi]; rfl
        have hts : (t ++ sp1 ++ itext z).size ≤ 4 + 30 * (k + 1) := by
          rw [ByteArray.size_append, ByteArray.size_append]
          have : sp1.size = 1 := rfl
          omega
        have P0 := Lib.hid p0
        clear hi
        obtain ⟨T, hT⟩ : ∃ T, T = itext z := ⟨_, rfl⟩
        have hF := Lib.hid (fun w => impl_FormatIntS z (by omega) w)
        rw [← hT] at hsz HT hts hF
        have HTT := Lib.hid hT
        clear hT
        go_wp2_with (go_at_call 34; refine (cI.out _).mono ?_; rintro e w1 ⟨rfl, rfl⟩)
        refine (hF.out _).mono ?_
        rintro e w1 ⟨rfl, rfl⟩
        go_wp2_with fail
        go_roundw
        case rel => exact ⟨k + 1, t ++ sp1 ++ T, by omega, by go_num, by first | rfl | (rw [ByteArray.append_assoc]; rfl), hts, HT, HB.out⟩
        case measure => simp [intOf]; omega
    · obtain rfl : k = 4 := by omega
      have HT : Hid (moveT m = t) := by unfold Hid; rw [hz.out, drop_nil (by rw [hl.out]; omega)]; rfl
      have HB := Lib.hid hb
      clear hb
      go_wp2_with fail
      go_ret
      exact ⟨by rw [HT.out]; rfl, HE.out.trans HB.out⟩
end Go.Proofs.YtfhibjehnoibeaaDoor
/- ParseUint of both sides and the reference's l40Number: what they answer on a number's own text; no condition but what stands at each theorem. -/
namespace Go.Proofs.YtfhibjehnoibeaaDoor
set_option linter.unusedSimpArgs false
set_option linter.unusedVariables false
open Go.RowKit Go.Sort
def pS (n : Nat) (b : UInt8) : Nat := 10 * n + (b.toNat - 48)
theorem dd_last {m : Nat} (h : ¬ m < 10) : Lib.decDigits m = Lib.decDigits (m / 10) ++ [UInt8.ofNat (48 + m % 10)] := by rw [Lib.decDigits, dif_neg h]
theorem dg_nat {j : Nat} (h : j < 10) : (UInt8.ofNat (48 + j)).toNat = 48 + j := by
  rw [UInt8.toNat_ofNat']; omega
theorem dd_val (m : Nat) : (Lib.decDigits m).foldl pS 0 = m := by
  induction m using Nat.strongRecOn with
  | _ m ih =>
    by_cases h : m < 10
    · rw [Lib.decDigits_one h]; simp only [List.foldl_cons, List.foldl_nil, pS, dg_nat h]; omega
    · rw [dd_last h, List.foldl_append, ih (m / 10) (by omega)]
      simp only [List.foldl_cons, List.foldl_nil, pS, dg_nat (show m % 10 < 10 by omega)]; omega
theorem dd_dig (m : Nat) : ∀ b ∈ Lib.decDigits m, 48 ≤ b.toNat ∧ b.toNat ≤ 57 := by
  induction m using Nat.strongRecOn with
  | _ m ih =>
    by_cases h : m < 10
    · rw [Lib.decDigits_one h]; intro b hb; simp only [List.mem_singleton] at hb; subst hb; rw [dg_nat h]; omega
    · rw [dd_last h]; intro b hb
      rw [List.mem_append, List.mem_singleton] at hb
      rcases hb with hb | rfl
      · exact ih (m / 10) (by omega) b hb
      · rw [dg_nat (show m % 10 < 10 by omega)]; omega
theorem dd_ne (m : Nat) : 1 ≤ (Lib.decDigits m).length := by
  by_cases h : m < 10
  · rw [Lib.decDigits_one h]; simp
  · rw [dd_last h]; simp
theorem dd_len4 {m : Nat} (hm : m ≤ 1000) : (Lib.decDigits m).length ≤ 4 := by
  by_cases h : m < 10
  · rw [Lib.decDigits_one h]; simp
  rw [dd_last h]
  by_cases h1 : m / 10 < 10
  · rw [Lib.decDigits_one h1]; simp
  rw [dd_last h1]
  by_cases h2 : m / 10 / 10 < 10
  · rw [Lib.decDigits_one h2]; simp
  rw [dd_last h2, Lib.decDigits_one (by omega)]; simp
theorem dd_head (m : Nat) (hm : 1 ≤ m) : (Lib.decDigits m).head? ≠ some 48 := by
  induction m using Nat.strongRecOn with
  | _ m ih =>
    by_cases h : m < 10
    · rw [Lib.decDigits_one h]
      intro e
      simp only [List.head?_cons, Option.some.injEq] at e
      have := congrArg UInt8.toNat e
      rw [dg_nat h] at this
      have h48 : (48 : UInt8).toNat = 48 := rfl
      omega
    · rw [dd_last h]
      have h1 := ih (m / 10) (by omega) (by omega)
      have h2 := dd_ne (m / 10)
      cases hd : Lib.decDigits (m / 10) with
      | nil => rw [hd] at h2; simp at h2
      | cons b r => rw [hd] at h1; simpa using h1
theorem dd_one {m : Nat} (h : 1 < (Lib.decDigits m).length) : 1 ≤ m := by
  by_cases h1 : m < 10
  · rw [Lib.decDigits_one h1] at h; simp at h
  · omega
theorem itext_list (i : Nat) : (itext i).data.toList = Lib.decDigits i := by rw [itext_nat]
theorem itext_sz (i : Nat) : (itext i).size = (Lib.decDigits i).length := by
  rw [itext_nat]; simp [ByteArray.size]
theorem byte_at (s : ByteArray) (k : Nat) (h : k < s.size) : s.data.toList[k]? = some s[k] := by
  have : k < s.data.toList.length := by simpa using h
  rw [List.getElem?_eq_getElem this]; rfl
/-- What ParseUint answers, as far as is needed. -/
def PU (x : ByteArray) (w : World) (e : Ending) (w' : World) : Prop :=
  ∃ (z : Nat) (b : Bool), e = .returned (.tuple #[.int .i64 z, .bool b]) ∧ z ≤ 1000000000 ∧ Ext w w' ∧ ∀ i : Nat, i ≤ 1000 → x = itext i → z = i ∧ b = true
theorem nodig {x : ByteArray} {k : Nat} (hk : k < x.size) (h : x[k].toNat < 48 ∨ 57 < x[k].toNat) : ∀ i : Nat, x ≠ itext i := by
  intro i hi
  have h1 := byte_at x k hk
  have h2 := dd_dig i x[k] (by rw [← itext_list, ← hi]; exact List.mem_of_getElem? h1)
  omega
theorem nozero {x : ByteArray} (hk : 1 < x.size) (h : x[0].toNat = 48) : ∀ i : Nat, x ≠ itext i := by
  intro i hi
  have h1 := byte_at x 0 (by omega)
  have h3 : 1 < (Lib.decDigits i).length := by rw [← itext_sz, ← hi]; exact hk
  refine dd_head i (dd_one h3) ?_
  rw [← itext_list, ← hi, List.head?_eq_getElem?, h1]
  congr 1
  exact UInt8.toNat_inj.1 h
set_option maxRecDepth 100000 in
set_option maxHeartbeats 2000000 in
theorem impl_ParseUint (x : ByteArray) (w : World) (hx : x.size ≤ 9223372036854775807) : Calls Tryd.prog 26 #[.string x] w (PU x w) := by
  have bad : ∀ (w' : World), Ext w w' → Hid (∀ i : Nat, i ≤ 1000 → x ≠ itext i) → PU x w (.returned (.tuple #[.int .i64 0, .bool false])) w' := fun w' e h => ⟨0, false, rfl, by omega, e, fun i hi he => absurd he (h.out i hi)⟩
  have Hbad := Lib.hid bad
  clear bad
  by_cases h10 : 10 < x.size
  case pos =>
    have HN : Hid (∀ i : Nat, i ≤ 1000 → x ≠ itext i) := fun i hi he => by
      have := itext_sz i; have := dd_len4 hi; rw [he] at h10; omega
    have h10' : (10 : Int) < x.size := by omega
    have h1 : x.size ≠ 0 := by omega
    go_enter Tryd.func26, Tryd.ntmps26
    go_wp2
    exact bodyPost_ret (v := .tuple #[.int .i64 0, .bool false]) (by simp [results, Tryd.results26, go_sem, *]) rfl (Hbad.out _ (Ext.refl _) HN)
  case neg =>
  by_cases h0 : x.size = 0
  · have HN : Hid (∀ i : Nat, i ≤ 1000 → x ≠ itext i) := fun i hi he => by
      have := itext_sz i; have := dd_ne i; rw [he] at h0; omega
    go_enter Tryd.func26, Tryd.ntmps26
    go_wp2
    exact bodyPost_ret (v := .tuple #[.int .i64 0, .bool false]) (by simp [results, Tryd.results26, go_sem, *]) rfl (Hbad.out _ (Ext.refl _) HN)
  have h0' : 0 < x.size := by omega
  by_cases h48 : 1 < x.size ∧ x[0].toNat = 48
  · have HN : Hid (∀ i : Nat, i ≤ 1000 → x ≠ itext i) := fun i _ => nozero h48.1 h48.2 i
    obtain ⟨h1, h2⟩ := h48
    go_enter Tryd.func26, Tryd.ntmps26
    go_wp2
    exact bodyPost_ret (v := .tuple #[.int .i64 0, .bool false]) (by simp [results, Tryd.results26, go_sem, *]) rfl (Hbad.out _ (Ext.refl _) HN)
  by_cases h1 : 1 < x.size
  · have h48' : ¬ x[0].toNat = 48 := fun e => h48 ⟨h1, e⟩
    have h48i : ((x[0].toNat : Int) == 48) = false := beq_false_of_ne (show (x[0].toNat : Int) ≠ 48 by omega)
    have hz0 : ((x.size : Int) == 0) = false := beq_false_of_ne (show (x.size : Int) ≠ 0 by omega)
    have h1i : (1 : Int) < x.size := by omega
    clear h48
    go_enter Tryd.func26, Tryd.ntmps26
    go_wp2
    go_loop [4, 5] (fun n i => ∃ k N : Nat, k ≤ x.size ∧ i = .int .i64 k ∧ n = .int .i64 (N : Int) ∧ N < 10 ^ k ∧ Hid (x.data.toList.foldl pS 0 = (x.data.toList.drop k).foldl pS N)) (fun _ i => x.size - (intOf i).toNat)
    case atStart => exact ⟨0, 0, Nat.zero_le _, rfl, rfl, by decide, rfl⟩
    case round =>
      obtain ⟨k, N, hk, rfl, rfl, hN, hz⟩ := hrel
      by_cases hlt : k < x.size
      · have HZ : Hid (x.data.toList.foldl pS 0 = (x.data.toList.drop (k + 1)).foldl pS (pS N x[k])) := by
          unfold Hid; rw [hz.out, drop_cons (byte_at x k hlt)]; rfl
        have hb := x[k].toNat_lt
        have hp : 10 ^ (k + 1) = 10 ^ k * 10 := Nat.pow_succ ..
        have hp9 : 10 ^ k ≤ 10 ^ 9 := Nat.pow_le_pow_right (by decide) (by omega)
        have hp9' : (10 : Nat) ^ 9 = 1000000000 := by decide
        by_cases hd : x[k].toNat < 48 ∨ 57 < x[k].toNat
        · have HN : Hid (∀ i : Nat, i ≤ 1000 → x ≠ itext i) := fun i _ => nodig hlt hd i
          rcases hd with hd | hd
          · go_wp2
            exact bodyPost_ret (v := .tuple #[.int .i64 0, .bool false]) (by simp [results, Tryd.results26, go_sem, *]) rfl (Hbad.out _ (Ext.refl _) HN)
          · have hd2 : ¬ x[k].toNat < 48 := by omega
            go_wp2
            exact bodyPost_ret (v := .tuple #[.int .i64 0, .bool false]) (by simp [results, Tryd.results26, go_sem, *]) rfl (Hbad.out _ (Ext.refl _) HN)
        · have hd1 : ¬ x[k].toNat < 48 := by omega
          have hd2 : ¬ 57 < x[k].toNat := by omega
          have hq : pS N x[k] = 10 * N + (x[k].toNat - 48) := rfl
          generalize 10 ^ k = q at hN hp hp9
          go_wp2
          go_round
          case rel => exact ⟨k + 1, pS N x[k], by omega, by go_num, by (unfold pS; first | rfl | (congr 1; omega) | (push_cast; congr 1; omega)), by rw [hp]; omega, HZ⟩
          case measure => simp [intOf]; omega
      · obtain rfl : k = x.size := by omega
        have hd : Hid (∀ i : Nat, i ≤ 1000 → x = itext i → N = i) := fun i hi he => by
          have h1 := hz.out
          rw [drop_nil (by simp)] at h1
          rw [he, itext_list, dd_val] at h1
          exact h1.symm
        have hN10 : N < 10000000000 := Nat.lt_of_lt_of_le hN (Nat.le_trans (Nat.pow_le_pow_right (by decide) (show x.size ≤ 10 by omega)) (by decide))
        clear hN
        by_cases h9 : 1000000000 < N
        · have HN : Hid (∀ i : Nat, i ≤ 1000 → x ≠ itext i) := fun i hi he => by have := hd.out i hi he; omega
          have h9' : (1000000000 : Int) < N := by omega
          go_wp2
          exact bodyPost_ret (v := .tuple #[.int .i64 0, .bool false]) (by simp [results, Tryd.results26, go_sem, *]) rfl (Hbad.out _ (Ext.refl _) HN)
        · have h9' : ¬ (1000000000 : Int) < N := by omega
          go_wp2
          exact bodyPost_ret (v := .tuple #[.int .i64 N, .bool true]) (by simp [results, Tryd.results26, go_sem, *]) rfl ⟨N, true, rfl, by omega, Ext.refl _, fun i hi he => ⟨hd.out i hi he, rfl⟩⟩
  · have hz0 : ((x.size : Int) == 0) = false := beq_false_of_ne (show (x.size : Int) ≠ 0 by omega)
    clear h48
    go_enter Tryd.func26, Tryd.ntmps26
    go_wp2
    go_loop [4, 5] (fun n i => ∃ k N : Nat, k ≤ x.size ∧ i = .int .i64 k ∧ n = .int .i64 (N : Int) ∧ N < 10 ^ k ∧ Hid (x.data.toList.foldl pS 0 = (x.data.toList.drop k).foldl pS N)) (fun _ i => x.size - (intOf i).toNat)
    case atStart => exact ⟨0, 0, Nat.zero_le _, rfl, rfl, by decide, rfl⟩
    case round =>
      obtain ⟨k, N, hk, rfl, rfl, hN, hz⟩ := hrel
      by_cases hlt : k < x.size
      · have HZ : Hid (x.data.toList.foldl pS 0 = (x.data.toList.drop (k + 1)).foldl pS (pS N x[k])) := by
          unfold Hid; rw [hz.out, drop_cons (byte_at x k hlt)]; rfl
        have hb := x[k].toNat_lt
        have hp : 10 ^ (k + 1) = 10 ^ k * 10 := Nat.pow_succ ..
        have hp9 : 10 ^ k ≤ 10 ^ 9 := Nat.pow_le_pow_right (by decide) (by omega)
        have hp9' : (10 : Nat) ^ 9 = 1000000000 := by decide
        by_cases hd : x[k].toNat < 48 ∨ 57 < x[k].toNat
        · have HN : Hid (∀ i : Nat, i ≤ 1000 → x ≠ itext i) := fun i _ => nodig hlt hd i
          rcases hd with hd | hd
          · go_wp2
            exact bodyPost_ret (v := .tuple #[.int .i64 0, .bool false]) (by simp [results, Tryd.results26, go_sem, *]) rfl (Hbad.out _ (Ext.refl _) HN)
          · have hd2 : ¬ x[k].toNat < 48 := by omega
            go_wp2
            exact bodyPost_ret (v := .tuple #[.int .i64 0, .bool false]) (by simp [results, Tryd.results26, go_sem, *]) rfl (Hbad.out _ (Ext.refl _) HN)
        · have hd1 : ¬ x[k].toNat < 48 := by omega
          have hd2 : ¬ 57 < x[k].toNat := by omega
          have hq : pS N x[k] = 10 * N + (x[k].toNat - 48) := rfl
          generalize 10 ^ k = q at hN hp hp9
          go_wp2
          go_round
          case rel => exact ⟨k + 1, pS N x[k], by omega, by go_num, by (unfold pS; first | rfl | (congr 1; omega) | (push_cast; congr 1; omega)), by rw [hp]; omega, HZ⟩
          case measure => simp [intOf]; omega
      · obtain rfl : k = x.size := by omega
        have hd : Hid (∀ i : Nat, i ≤ 1000 → x = itext i → N = i) := fun i hi he => by
          have h1 := hz.out
          rw [drop_nil (by simp)] at h1
          rw [he, itext_list, dd_val] at h1
          exact h1.symm
        have hN10 : N < 10000000000 := Nat.lt_of_lt_of_le hN (Nat.le_trans (Nat.pow_le_pow_right (by decide) (show x.size ≤ 10 by omega)) (by decide))
        clear hN
        by_cases h9 : 1000000000 < N
        · have HN : Hid (∀ i : Nat, i ≤ 1000 → x ≠ itext i) := fun i hi he => by have := hd.out i hi he; omega
          have h9' : (1000000000 : Int) < N := by omega
          go_wp2
          exact bodyPost_ret (v := .tuple #[.int .i64 0, .bool false]) (by simp [results, Tryd.results26, go_sem, *]) rfl (Hbad.out _ (Ext.refl _) HN)
        · have h9' : ¬ (1000000000 : Int) < N := by omega
          go_wp2
          exact bodyPost_ret (v := .tuple #[.int .i64 N, .bool true]) (by simp [results, Tryd.results26, go_sem, *]) rfl ⟨N, true, rfl, by omega, Ext.refl _, fun i hi he => ⟨hd.out i hi he, rfl⟩⟩
end Go.Proofs.YtfhibjehnoibeaaDoor
/-
  DERIVED: THE SHELF's CONTRACTS AT THIS DUMP, IN PLAIN WORDS (tools/lay-plain.mjs out of 'TrydShelf.lean', which tools/lay-shelf.mjs wrote): THE SAME DECLARATIONS UNDER THE SAME NAMES: 'import', 'namespace', 'open', 'def', 'theorem' AND NOTHING ELSE: no command of the shelf's: FOR A HAND-IN. Each laying: the table of numbers ('.._ren') and one theorem, a field a fact of the dump's own or the kernel's comparison; each contract: ONE APPLICATION.
-/
namespace Go.Proofs
open Go.Shelf
def Tryd.lays156_ren : Go.Shelf.Ren := ⟨fun | 156 => 27 | 165 => 43 | 166 => 44 | 169 => 45 | 240 => 59 | 241 => 60 | 276 => 76 | 277 => 77 | n => n, fun | 31 => 54 | 9 => 9 | 3 => 3 | 4 => 4 | 0 => 0 | 20 => 20 | 72 => 87 | 76 => 91 | 70 => 85 | 37 => 22 | 75 => 90 | 127 => 109 | 164 => 120 | 5 => 5 | 80 => 93 | n => n, fun | n => n⟩
theorem Tryd.lays156 : Go.Proofs.Lays.n156 Tryd.prog Tryd.lays156_ren := {
  mixed := by kernel_rfl
  f156 := Tryd.func27.trans (congrArg some (by kernel_rfl))
  f165 := Tryd.func43.trans (congrArg some (by kernel_rfl))
  f166 := Tryd.func44.trans (congrArg some (by kernel_rfl))
  f169 := Tryd.func45.trans (congrArg some (by kernel_rfl))
  f240 := Tryd.func59.trans (congrArg some (by kernel_rfl))
  f241 := Tryd.func60.trans (congrArg some (by kernel_rfl))
  f276 := Tryd.func76.trans (congrArg some (by kernel_rfl))
  f277 := Tryd.func77.trans (congrArg some (by kernel_rfl))
  t0 := Tryd.underlying0
  a0 := Tryd.isAgg0
  z0 := Tryd.sizeOf0
  v0 := Tryd.zeroValue0
  t3 := Tryd.underlying3
  a3 := Tryd.isAgg3
  z3 := Tryd.sizeOf3
  v3 := Tryd.zeroValue3
  t4 := Tryd.underlying4
  a4 := Tryd.isAgg4
  z4 := Tryd.sizeOf4
  v4 := Tryd.zeroValue4
  t9 := Tryd.underlying9
  a9 := Tryd.isAgg9
  z9 := Tryd.sizeOf9
  v9 := Tryd.zeroValue9
  t20 := Tryd.underlying20
  a20 := Tryd.isAgg20
  z20 := Tryd.sizeOf20
  v20 := Tryd.zeroValue20
  t31 := Tryd.underlying54
  a31 := Tryd.isAgg54
  z31 := Tryd.sizeOf54
  v31 := Tryd.zeroValue54
  t37 := Tryd.underlying22
  a37 := Tryd.isAgg22
  z37 := Tryd.sizeOf22
  v37 := Tryd.zeroValue22
  t70 := Tryd.underlying85
  a70 := Tryd.isAgg85
  z70 := Tryd.sizeOf85
  v70 := Tryd.zeroValue85
  t72 := Tryd.underlying87
  a72 := Tryd.isAgg87
  z72 := Tryd.sizeOf87
  v72 := Tryd.zeroValue87
  t75 := Tryd.underlying90
  a75 := Tryd.isAgg90
  z75 := Tryd.sizeOf90
  v75 := Tryd.zeroValue90
  t76 := Tryd.underlying91
  a76 := Tryd.isAgg91
  z76 := Tryd.sizeOf91
  v76 := Tryd.zeroValue91
  t127 := Tryd.underlying109
  a127 := Tryd.isAgg109
  z127 := Tryd.sizeOf109
  v127 := Tryd.zeroValue109
  t164 := Tryd.underlying120
  a164 := Tryd.isAgg120
  z164 := Tryd.sizeOf120
  v164 := Tryd.zeroValue120 }
theorem Tryd.Builder_Extra_156 : Builder.Extra Tryd.prog Tryd.lays156_ren := {
  sizeBuilder := by kernel_rfl
  liesBuilder := by kernel_rfl
  t5 := Tryd.underlying5
  a5 := Tryd.isAgg5
  z5 := Tryd.sizeOf5
  v5 := Tryd.zeroValue5
  infoByte := by kernel_rfl
  cellsByte := by kernel_rfl
  sizeByte := by kernel_rfl
  neB5 := by decide }
open Go.RowKit in
/-- strings.Join: "Join concatenates the elements of its first argument to create a single string. The separator string sep is placed between elements in the resulting string.": HOWEVER MANY ELEMENTS. Below the heap's end the world is as it was. (LAID: no walk: one application.) -/
theorem Tryd.strings_Join (bk o c : Nat) (xs : List ByteArray) (sep : ByteArray) (w : World) (hcells : ∀ (j : Nat) x, xs[j]? = some x → w.cell? ⟨bk, o + j, none⟩ = some (.string x)) (hbk : bk < w.heap.size) (hN : xs.length ≤ 140737488355328) (hcap : xs.length ≤ c) (hlen : (Lib.join (xs.map (·.data.toList)) sep.data.toList).length ≤ 140737488355328) :
    Calls Tryd.prog 27 #[.slice (some ⟨bk, o, none⟩) xs.length c, .string sep] w fun e w' => e = .returned (.string ⟨(Lib.join (xs.map (·.data.toList)) sep.data.toList).toArray⟩) ∧ Below w.heap.size w w' := Any.strings_Join Tryd.lays156 Tryd.Builder_Extra_156 bk o c xs sep w hcells hbk hN hcap hlen
end Go.Proofs
/- Contracts of withNumbers (the program's join of a word and numbers); no condition but what stands at each theorem. -/
namespace Go.Proofs.YtfhibjehnoibeaaDoor
set_option linter.unusedSimpArgs false
set_option linter.unusedVariables false
open Go.RowKit Go.Sort
theorem tab_ext {P : Program} {w w' : World} {n : String} {k : IntKind} {zs : List Int} (h : Lib.TabIs P w n k zs) (e : Ext w w') : Lib.TabIs P w' n k zs := by
  cases hg : P.globalNamed n with
  | none => unfold Lib.TabIs World.var? at h; rw [hg] at h; cases h
  | some g => exact Go.Joins.tab_stays hg h e.below (Nat.le_refl _)
/-- A word, and numbers behind it, each behind a blank. -/
def numsF (s : ByteArray) : List Int → ByteArray
  | [] => s
  | x :: r => numsF (s ++ sp1 ++ itext x) r
theorem numsF_eq : ∀ (xs : List Int) (s : ByteArray), numsF s xs = ⟨(s.data.toList ++ Lib.joinTail [32] (xs.map fun x => (itext x).data.toList)).toArray⟩
  | [], s => by simp [numsF, Lib.joinTail]
  | x :: r, s => by
    rw [numsF, numsF_eq r]
    congr 2
    simp [Lib.joinTail, sp1]
theorem join_nums (s : ByteArray) (xs : List Int) : (⟨(Lib.join ((s :: xs.map itext).map (·.data.toList)) (⟨#[32]⟩ : ByteArray).data.toList).toArray⟩ : ByteArray) = numsF s xs := by
  rw [numsF_eq, List.map_cons, Lib.join_cons, List.map_map]
  rfl
theorem numsF_sizeG : ∀ (xs : List Int) (s : ByteArray), (∀ x ∈ xs, 0 ≤ x ∧ x ≤ 1000000) → (numsF s xs).size ≤ s.size + 22 * xs.length
  | [], s, _ => by simp [numsF]
  | x :: r, s, h => by
    have h1 := numsF_sizeG r (s ++ sp1 ++ itext x) (fun y hy => h y (List.mem_cons_of_mem _ hy))
    have h2 := itext_size x (by have := (h x (List.mem_cons_self ..)).1; omega) (by have := (h x (List.mem_cons_self ..)).2; omega)
    rw [ByteArray.size_append, ByteArray.size_append] at h1
    have : sp1.size = 1 := rfl
    simp only [List.length_cons]
    rw [numsF]
    omega
theorem numsF_size (xs : List Int) (s : ByteArray) (h : ∀ x ∈ xs, 0 ≤ x ∧ x ≤ 1000) : (numsF s xs).size ≤ s.size + 22 * xs.length := numsF_sizeG xs s fun x hx => ⟨(h x hx).1, by have := (h x hx).2; omega⟩
def strs (s : ByteArray) (xs : List Int) : List Value := (s :: xs.map itext).map Value.string
theorem strs_len (s : ByteArray) (xs : List Int) : (strs s xs).length = xs.length + 1 := by simp [strs]
theorem strs_snoc (s : ByteArray) (xs : List Int) (x : Int) : strs s (xs ++ [x]) = strs s xs ++ [.string (itext x)] := by simp [strs]
theorem ei_S : EI Tryd.prog 54 9 1 := ei_of Tryd.underlying54 (by omega) (by kernel_rfl)
theorem one_str1 (s : ByteArray) : ∀ u ∈ [Value.string s], u.oneCell' = true := by intro u hu; simp at hu; subst hu; rfl
theorem own_str (W : World) (base : Nat) (t : TypeId) (s : ByteArray) (hb : base ≤ W.heap.size) : (W.alloc (.cells #[.string s] t)).ownsRow base t 1 (.slice (some ⟨W.heap.size, 0, none⟩) 1 1) 1 (strs s []) :=
  own_of_blk hb (Blk.new _ _ _) (by simp) (by unfold maxLen; omega) rfl
set_option maxRecDepth 100000 in
set_option maxHeartbeats 1000000 in
theorem impl_withNumbersG (s : ByteArray) (A : Option Addr) (n c : Nat) (xs : List Int) (w : World) (hx : Rd w 1 A n (xs.flatMap ienc)) (hn : n ≤ 6) (hs : s.size ≤ 8) (hxs : Hid (∀ x ∈ xs, 0 ≤ x ∧ x ≤ 1000000))
    (htab : Hid (Lib.TabIs Tryd.prog w "internal/strconv.uint64pow10" .u64 Lib.pow10Tab)) :
    Calls Tryd.prog 24 #[.string s, .slice A n c] w fun e w' => e = .returned (.string (numsF s xs)) ∧ Ext w w' := by
  have hl := Lib.hid (hx.len ienc_len (by omega))
  have HX := Lib.hid hx
  have Ho0 := Lib.hid (own_str w w.heap.size 9 s (Nat.le_refl _))
  go_enter Tryd.func24, Tryd.ntmps24
  go_wp2_with fail
  go_loopw [5, 12] (fun o i wr => ∃ (k : Nat), k ≤ n ∧ i = .int .i64 k ∧ Hid (wr.ownsRow w.heap.size 9 1 o (k + 1) (strs s (xs.take k))) ∧ Ext w wr) (fun _ i _ => n - (intOf i).toNat)
  case atStart => exact ⟨0, Nat.zero_le _, rfl, Ho0, (Ext.refl _).alloc _⟩
  case round =>
    obtain ⟨k, hk, rfl, hown, hb⟩ := hrel
    by_cases hlt : k < n
    · obtain ⟨b, off, x, rfl, hbs, hxk, h0⟩ := ienc_at (HX.out.keep hb) hlt
      obtain ⟨hx0, hx1⟩ := hxs.out x (List.mem_of_getElem? hxk)
      have HT : Hid (strs s (xs.take (k + 1)) = strs s (xs.take k) ++ [.string (itext x)]) := by
        unfold Hid; rw [← strs_snoc, List.take_add_one, hxk]; rfl
      have HB := Lib.hid hb
      have hF := Lib.hid (impl_FormatInt x (by omega) (by omega) wr (Lib.hid (tab_ext htab.out hb)))
      have hsw := hb.size
      obtain ⟨T, hTT⟩ : ∃ T, T = itext x := ⟨_, rfl⟩
      rw [← hTT] at HT hF
      clear hb hxk hTT
      go_wp2_with (first
        | (go_at_call 19; refine hF.out.mono ?_; rintro e w1 ⟨rfl, hb1⟩; have HB1 := Lib.hid hb1; have hs1 := hb1.size; clear hb1)
        | (at_builtin; refine append1 ei_S rfl _ _ rfl w.heap.size w1 _ _ (k + 1) _ (by rfl) (own_keep hown.out HB1.out) [.string T] (by rfl) rfl (one_str1 _) (by omega) (by omega) ?_; intro v' w2 ho2 he2; have HO2 := Lib.hid ho2; have HE2 := Lib.hid (he2 w (HB.out.trans HB1.out) (Nat.le_refl _)); clear ho2 he2))
      go_roundw
      case rel => exact ⟨k + 1, by omega, by go_num, by unfold Hid; rw [HT.out]; exact HO2.out, HE2.out⟩
      case measure => simp [intOf]; omega
    · obtain rfl : k = n := by omega
      have hown1 := hown.out
      rw [List.take_of_length_le (by rw [hl.out]; omega)] at hown1
      obtain ⟨A', c', rfl, hc'⟩ := own_form hown1
      obtain ⟨-, -, hr⟩ := Rd.of_own hown1
      obtain ⟨g, o, rfl, hg, hcell⟩ := hr (by omega)
      have hJ := Lib.hid (Tryd.strings_Join g o c' (s :: xs.map itext) ⟨#[32]⟩ wr (fun j x hj => hcell j _ (by rw [strs, List.getElem?_map, hj]; rfl)) hg (by simp; have := hl.out; omega) (by simp; have := hl.out; omega) (by
        have h1 := congrArg ByteArray.size (join_nums s xs)
        have h2 := numsF_sizeG xs s hxs.out
        have h3 := hl.out
        have h4 : ∀ L : List UInt8, (⟨L.toArray⟩ : ByteArray).size = L.length := fun L => by simp [ByteArray.size]
        rw [h4] at h1
        omega))
      rw [join_nums, show (s :: xs.map itext).length = k + 1 by simp; exact hl.out] at hJ
      have HB := Lib.hid hb
      clear hb hown hown1 hcell hr
      go_wp2_with (refine hJ.out.mono ?_; rintro e w1 ⟨rfl, hb1⟩; have HB1 := Lib.hid hb1; clear hb1)
      go_ret
      exact ⟨rfl, HB.out.trans HB1.out⟩
theorem impl_withNumbers (s : ByteArray) (A : Option Addr) (n c : Nat) (xs : List Int) (w : World) (hx : Rd w 1 A n (xs.flatMap ienc)) (hn : n ≤ 4) (hs : s.size ≤ 8) (hxs : Hid (∀ x ∈ xs, 0 ≤ x ∧ x ≤ 1000))
    (htab : Hid (Lib.TabIs Tryd.prog w "internal/strconv.uint64pow10" .u64 Lib.pow10Tab)) :
    Calls Tryd.prog 24 #[.string s, .slice A n c] w fun e w' => e = .returned (.string (numsF s xs)) ∧ Ext w w' :=
  impl_withNumbersG s A n c xs w hx (by omega) hs (Lib.hid fun x hx => ⟨(hxs.out x hx).1, by have := (hxs.out x hx).2; omega⟩) htab
end Go.Proofs.YtfhibjehnoibeaaDoor
/- SplitFields of both sides; no condition but what stands at each theorem. -/
namespace Go.Proofs.YtfhibjehnoibeaaDoor
set_option linter.unusedSimpArgs false
set_option linter.unusedVariables false
open Go.RowKit Go.Sort
/-- The words of a list that is closed by a blank; the first word goes on from what was read. -/
def wds : List UInt8 → List UInt8 → List (List UInt8)
  | _, [] => []
  | cur, b :: r => if b = 32 then (if cur = [] then wds [] r else cur :: wds [] r) else wds (cur ++ [b]) r
def fieldsOf (x : ByteArray) : List (List UInt8) := wds [] (x.data.toList ++ [32])
def prB (x : ByteArray) : Bool := x.data.toList.all fun b => decide (32 ≤ b.toNat) && decide (b.toNat ≤ 126)
def spOk (x : ByteArray) : Bool := (decide (x.size ≤ 600) && prB x) && decide ((fieldsOf x).length ≤ 24)
def sval (W : List (List UInt8)) : List Value := W.map fun l => .string ⟨l.toArray⟩
def SplitPost (x : ByteArray) (w : World) (e : Ending) (w' : World) : Prop :=
  ∃ v, e = .returned (.tuple #[v, .bool (spOk x)]) ∧ Ext w w' ∧ (spOk x = true → w'.ownsRow w.heap.size 9 1 v (fieldsOf x).length (sval (fieldsOf x)))
theorem wd_nil (cur : List UInt8) : wds cur [] = [] := rfl
theorem wd_ne {b : UInt8} (h : b ≠ 32) (cur r : List UInt8) : wds cur (b :: r) = wds (cur ++ [b]) r := by rw [wds, if_neg h]
theorem wd_e (r : List UInt8) : wds [] (32 :: r) = wds [] r := by rw [wds, if_pos rfl, if_pos rfl]
theorem wd_n {cur : List UInt8} (h : cur ≠ []) (r : List UInt8) : wds cur (32 :: r) = cur :: wds [] r := by rw [wds, if_pos rfl, if_neg h]
theorem cur_snoc {L : List UInt8} {s k : Nat} {b : UInt8} (h : L[k]? = some b) (hs : s ≤ k) : (L.drop s).take (k - s) ++ [b] = (L.drop s).take (k + 1 - s) := by
  rw [show k + 1 - s = (k - s) + 1 by omega, List.take_add_one, List.getElem?_drop, show s + (k - s) = k by omega, h]; rfl
theorem cur_ne {L : List UInt8} {s k : Nat} (hs : s < k) (hk : k ≤ L.length) : (L.drop s).take (k - s) ≠ [] := by
  intro h
  have := congrArg List.length h
  rw [List.length_take, List.length_drop] at this
  simp at this; omega
theorem cur_nil (L : List UInt8) (k : Nat) : (L.drop k).take (k - k) = [] := by simp
theorem ext_bs (x : ByteArray) (s k : Nat) : x.extract s k = ⟨((x.data.toList.drop s).take (k - s)).toArray⟩ := by
  have := ByteArray.extract_mk x.data.toList s k
  simpa using this
theorem dropB {L : List UInt8} {k : Nat} {b : UInt8} (h : L[k]? = some b) : (L ++ [32]).drop k = b :: (L ++ [32]).drop (k + 1) :=
  drop_cons (by rw [List.getElem?_append_left (List.getElem?_eq_some_iff.1 h).1]; exact h)
theorem dropE (L : List UInt8) : (L ++ [32]).drop L.length = 32 :: (L ++ [32]).drop (L.length + 1) :=
  drop_cons (by simp)
theorem sval_snoc (W : List (List UInt8)) (l : List UInt8) : sval (W ++ [l]) = sval W ++ [.string ⟨l.toArray⟩] := by simp [sval]
theorem toList_size (x : ByteArray) : x.data.toList.length = x.size := by rw [Array.length_toList]; rfl
theorem sp_long {x : ByteArray} (h : 600 < x.size) : spOk x = false := by
  unfold spOk; rw [show decide (x.size ≤ 600) = false by simp; omega]; rfl
theorem sp_many {x : ByteArray} (h : 24 < (fieldsOf x).length) : spOk x = false := by
  unfold spOk; rw [show decide ((fieldsOf x).length ≤ 24) = false by simp; omega, Bool.and_false]
theorem sp_bad {x : ByteArray} {k : Nat} (hk : k < x.size) (h : x[k].toNat < 32 ∨ 126 < x[k].toNat) : spOk x = false := by
  have hp : prB x = false := by
    rw [Bool.eq_false_iff]
    intro ha
    unfold prB at ha
    rw [List.all_eq_true] at ha
    have := ha x[k] (List.mem_of_getElem? (byte_at x k hk))
    simp at this
    omega
  unfold spOk; rw [hp, Bool.and_false]; rfl
theorem sp_good {x : ByteArray} (h : x.size ≤ 600) (hp : ∀ k (hk : k < x.size), ¬ (x[k].toNat < 32 ∨ 126 < x[k].toNat)) (hn : (fieldsOf x).length ≤ 24) : spOk x = true := by
  have h1 : prB x = true := by
    unfold prB
    rw [List.all_eq_true]
    intro b hb
    obtain ⟨k, hk⟩ := List.getElem?_of_mem hb
    have hl : k < x.size := by rw [← toList_size]; exact (List.getElem?_eq_some_iff.1 hk).1
    rw [byte_at x k hl] at hk
    have := hp k hl
    injection hk with hk
    subst hk
    simp; omega
  unfold spOk; rw [h1]; simp; omega
end Go.Proofs.YtfhibjehnoibeaaDoor
/- FormatAct of both sides; no condition but what stands at each theorem. -/
namespace Go.Proofs.YtfhibjehnoibeaaDoor
set_option linter.unusedSimpArgs false
set_option linter.unusedVariables false
open Go.RowKit Go.Sort
def wordOf (k : Int) : ByteArray := if k = 1 then ⟨#[119, 97, 108, 107]⟩ else if k = 2 then ⟨#[109, 111, 118, 101]⟩ else if k = 3 then ⟨#[100, 97, 121, 115]⟩ else if k = 4 then ⟨#[97, 117, 100, 105, 116]⟩ else if k = 5 then ⟨#[119, 104, 101, 114, 101]⟩ else ByteArray.empty
def cntOf (k : Int) : Nat := if k = 1 then 2 else if k = 2 then 4 else if k = 3 then 1 else if k = 5 then 1 else 0
/-- The text of an act; empty where it is none. -/
def actT (a : GAct) : ByteArray := if acOk a then numsF (wordOf a.k) ([a.a, a.b, a.c, a.d].take (cntOf a.k)) else ByteArray.empty
theorem ac_cases {a : GAct} (h : acOk a = true) : (a.k = 1 ∨ a.k = 2 ∨ a.k = 3 ∨ a.k = 4 ∨ a.k = 5) ∧ (0 ≤ a.a ∧ a.a ≤ 1000) ∧ (0 ≤ a.b ∧ a.b ≤ 1000) ∧ (0 ≤ a.c ∧ a.c ≤ 1000) ∧ (0 ≤ a.d ∧ a.d ≤ 1000) := by
  unfold acOk at h
  by_cases h1 : a.k = 1
  · simp [h1, inB] at h; omega
  by_cases h2 : a.k = 2
  · simp [h2, inB] at h; omega
  by_cases h3 : a.k = 3
  · simp [h3, inB] at h; omega
  by_cases h5 : a.k = 5
  · simp [h5, inB] at h; omega
  by_cases h4 : a.k = 4
  · simp [h4] at h; omega
  · simp [h1, h2, h3, h4, h5] at h
theorem vals_ok {x y z u : Int} (hx : 0 ≤ x ∧ x ≤ 1000) (hy : 0 ≤ y ∧ y ≤ 1000) (hz : 0 ≤ z ∧ z ≤ 1000) (hu : 0 ≤ u ∧ u ≤ 1000) : ∀ v ∈ ([x, y, z, u] : List Int), 0 ≤ v ∧ v ≤ 1000 := by
  intro v hv
  simp only [List.mem_cons, List.not_mem_nil, or_false] at hv
  rcases hv with rfl | rfl | rfl | rfl <;> assumption
set_option maxRecDepth 100000 in
set_option maxHeartbeats 2000000 in
theorem impl_FormatAct_1 (x y z u : Int) (hx : 0 ≤ x ∧ x ≤ 1000) (hy : 0 ≤ y ∧ y ≤ 1000) (hz : 0 ≤ z ∧ z ≤ 1000) (hu : 0 ≤ u ∧ u ≤ 1000) (hok : acOk ⟨1, x, y, z, u⟩ = true) (w : World) (htab : Hid (Lib.TabIs Tryd.prog w "internal/strconv.uint64pow10" .u64 Lib.pow10Tab)) :
    Calls Tryd.prog 8 #[.agg #[.int .i64 1, .int .i64 x, .int .i64 y, .int .i64 z, .int .i64 u]] w fun e w' => e = .returned (.tuple #[.string (numsF ⟨#[119, 97, 108, 107]⟩ ([x, y, z, u].take 2)), .bool true]) ∧ Ext w w' := by
  obtain ⟨wa, hwa⟩ : ∃ wa, wa = w.alloc (.cells #[.int .i64 1, .int .i64 x, .int .i64 y, .int .i64 z, .int .i64 u] 37) := ⟨_, rfl⟩
  have hEa : Ext w wa := by rw [hwa]; exact (Ext.refl w).alloc _
  have hsa : wa.heap.size = w.heap.size + 1 := by rw [hwa]; simp
  have hk0 : wa.cell? ⟨w.heap.size, 0, none⟩ = some (.int .i64 1) := by rw [hwa]; simp [World.cell?_alloc_at]
  have hk1 : wa.cell? ⟨w.heap.size, 1, none⟩ = some (.int .i64 x) := by rw [hwa]; simp [World.cell?_alloc_at]
  have hk2 : wa.cell? ⟨w.heap.size, 2, none⟩ = some (.int .i64 y) := by rw [hwa]; simp [World.cell?_alloc_at]
  have hk3 : wa.cell? ⟨w.heap.size, 3, none⟩ = some (.int .i64 z) := by rw [hwa]; simp [World.cell?_alloc_at]
  have hk4 : wa.cell? ⟨w.heap.size, 4, none⟩ = some (.int .i64 u) := by rw [hwa]; simp [World.cell?_alloc_at]
  have Hk := Lib.hid (And.intro hk0 (And.intro hk1 (And.intro hk2 (And.intro hk3 hk4))))
  have Hwa := Lib.hid hwa
  have HEa := Lib.hid hEa
  have HV := Lib.hid (vals_ok hx hy hz hu)
  have cA := Lib.hid (impl_ActOk ⟨1, x, y, z, u⟩ wa)
  rw [hok] at cA
  clear hwa hEa hk0 hk1 hk2 hk3 hk4 hok hx hy hz hu
  go_enter Tryd.func8, Tryd.ntmps8
  go_wp2_with fail
  rw [← Hwa.out]
  refine cA.out.mono ?_
  rintro e w1 ⟨rfl, hb1⟩
  obtain ⟨k0, k1, k2, k3, k4⟩ := Hk.out
  have hs1 := hb1.size
  replace k0 := (hb1.cellAt w.heap.size (by omega) 0).trans k0
  replace k1 := (hb1.cellAt w.heap.size (by omega) 1).trans k1
  replace k2 := (hb1.cellAt w.heap.size (by omega) 2).trans k2
  replace k3 := (hb1.cellAt w.heap.size (by omega) 3).trans k3
  replace k4 := (hb1.cellAt w.heap.size (by omega) 4).trans k4
  have HE1 := Lib.hid (HEa.out.trans hb1)
  have m0 : w1.heap.size ≠ w.heap.size := by omega
  have l0 : w.heap.size < w1.heap.size := by omega
  have hE1a : Ext w (w1.alloc (.cells ([x, y].map (Value.int .i64)).toArray 3)) := (HEa.out.trans hb1).alloc _
  have cW := Lib.hid (impl_withNumbers ⟨#[119, 97, 108, 107]⟩ (some ⟨w1.heap.size, 0, none⟩) 2 2 [x, y] (w1.alloc (.cells ([x, y].map (Value.int .i64)).toArray 3)) (rd_lit w1 3 [x, y] (by simp)) (by omega) (by decide) (Lib.hid (fun v hv => HV.out v (by simp only [List.mem_cons, List.not_mem_nil, or_false] at hv ⊢; omega))) (Lib.hid (tab_ext htab.out hE1a)))
  have HE1a := Lib.hid hE1a
  clear hE1a
  clear hb1
  go_wp2_with (refine cW.out.mono ?_; rintro e w2 ⟨rfl, hb2⟩; have HB2 := Lib.hid hb2; clear hb2)
  refine bodyPost_ret (v := .tuple #[.string (numsF ⟨#[119, 97, 108, 107]⟩ [x, y]), .bool true]) (by simp [results, Tryd.results8, go_sem, *]) rfl ⟨by rfl, HE1a.out.trans HB2.out⟩
set_option maxRecDepth 100000 in
set_option maxHeartbeats 2000000 in
theorem impl_FormatAct_2 (x y z u : Int) (hx : 0 ≤ x ∧ x ≤ 1000) (hy : 0 ≤ y ∧ y ≤ 1000) (hz : 0 ≤ z ∧ z ≤ 1000) (hu : 0 ≤ u ∧ u ≤ 1000) (hok : acOk ⟨2, x, y, z, u⟩ = true) (w : World) (htab : Hid (Lib.TabIs Tryd.prog w "internal/strconv.uint64pow10" .u64 Lib.pow10Tab)) :
    Calls Tryd.prog 8 #[.agg #[.int .i64 2, .int .i64 x, .int .i64 y, .int .i64 z, .int .i64 u]] w fun e w' => e = .returned (.tuple #[.string (numsF ⟨#[109, 111, 118, 101]⟩ ([x, y, z, u].take 4)), .bool true]) ∧ Ext w w' := by
  obtain ⟨wa, hwa⟩ : ∃ wa, wa = w.alloc (.cells #[.int .i64 2, .int .i64 x, .int .i64 y, .int .i64 z, .int .i64 u] 37) := ⟨_, rfl⟩
  have hEa : Ext w wa := by rw [hwa]; exact (Ext.refl w).alloc _
  have hsa : wa.heap.size = w.heap.size + 1 := by rw [hwa]; simp
  have hk0 : wa.cell? ⟨w.heap.size, 0, none⟩ = some (.int .i64 2) := by rw [hwa]; simp [World.cell?_alloc_at]
  have hk1 : wa.cell? ⟨w.heap.size, 1, none⟩ = some (.int .i64 x) := by rw [hwa]; simp [World.cell?_alloc_at]
  have hk2 : wa.cell? ⟨w.heap.size, 2, none⟩ = some (.int .i64 y) := by rw [hwa]; simp [World.cell?_alloc_at]
  have hk3 : wa.cell? ⟨w.heap.size, 3, none⟩ = some (.int .i64 z) := by rw [hwa]; simp [World.cell?_alloc_at]
  have hk4 : wa.cell? ⟨w.heap.size, 4, none⟩ = some (.int .i64 u) := by rw [hwa]; simp [World.cell?_alloc_at]
  have Hk := Lib.hid (And.intro hk0 (And.intro hk1 (And.intro hk2 (And.intro hk3 hk4))))
  have Hwa := Lib.hid hwa
  have HEa := Lib.hid hEa
  have HV := Lib.hid (vals_ok hx hy hz hu)
  have cA := Lib.hid (impl_ActOk ⟨2, x, y, z, u⟩ wa)
  rw [hok] at cA
  clear hwa hEa hk0 hk1 hk2 hk3 hk4 hok hx hy hz hu
  go_enter Tryd.func8, Tryd.ntmps8
  go_wp2_with fail
  rw [← Hwa.out]
  refine cA.out.mono ?_
  rintro e w1 ⟨rfl, hb1⟩
  obtain ⟨k0, k1, k2, k3, k4⟩ := Hk.out
  have hs1 := hb1.size
  replace k0 := (hb1.cellAt w.heap.size (by omega) 0).trans k0
  replace k1 := (hb1.cellAt w.heap.size (by omega) 1).trans k1
  replace k2 := (hb1.cellAt w.heap.size (by omega) 2).trans k2
  replace k3 := (hb1.cellAt w.heap.size (by omega) 3).trans k3
  replace k4 := (hb1.cellAt w.heap.size (by omega) 4).trans k4
  have HE1 := Lib.hid (HEa.out.trans hb1)
  have m0 : w1.heap.size ≠ w.heap.size := by omega
  have l0 : w.heap.size < w1.heap.size := by omega
  have hE1a : Ext w (w1.alloc (.cells ([x, y, z, u].map (Value.int .i64)).toArray 3)) := (HEa.out.trans hb1).alloc _
  have cW := Lib.hid (impl_withNumbers ⟨#[109, 111, 118, 101]⟩ (some ⟨w1.heap.size, 0, none⟩) 4 4 [x, y, z, u] (w1.alloc (.cells ([x, y, z, u].map (Value.int .i64)).toArray 3)) (rd_lit w1 3 [x, y, z, u] (by simp)) (by omega) (by decide) (Lib.hid (fun v hv => HV.out v (by simp only [List.mem_cons, List.not_mem_nil, or_false] at hv ⊢; omega))) (Lib.hid (tab_ext htab.out hE1a)))
  have HE1a := Lib.hid hE1a
  clear hE1a
  clear hb1
  go_wp2_with (refine cW.out.mono ?_; rintro e w2 ⟨rfl, hb2⟩; have HB2 := Lib.hid hb2; clear hb2)
  refine bodyPost_ret (v := .tuple #[.string (numsF ⟨#[109, 111, 118, 101]⟩ [x, y, z, u]), .bool true]) (by simp [results, Tryd.results8, go_sem, *]) rfl ⟨by rfl, HE1a.out.trans HB2.out⟩
set_option maxRecDepth 100000 in
set_option maxHeartbeats 2000000 in
theorem impl_FormatAct_3 (x y z u : Int) (hx : 0 ≤ x ∧ x ≤ 1000) (hy : 0 ≤ y ∧ y ≤ 1000) (hz : 0 ≤ z ∧ z ≤ 1000) (hu : 0 ≤ u ∧ u ≤ 1000) (hok : acOk ⟨3, x, y, z, u⟩ = true) (w : World) (htab : Hid (Lib.TabIs Tryd.prog w "internal/strconv.uint64pow10" .u64 Lib.pow10Tab)) :
    Calls Tryd.prog 8 #[.agg #[.int .i64 3, .int .i64 x, .int .i64 y, .int .i64 z, .int .i64 u]] w fun e w' => e = .returned (.tuple #[.string (numsF ⟨#[100, 97, 121, 115]⟩ ([x, y, z, u].take 1)), .bool true]) ∧ Ext w w' := by
  obtain ⟨wa, hwa⟩ : ∃ wa, wa = w.alloc (.cells #[.int .i64 3, .int .i64 x, .int .i64 y, .int .i64 z, .int .i64 u] 37) := ⟨_, rfl⟩
  have hEa : Ext w wa := by rw [hwa]; exact (Ext.refl w).alloc _
  have hsa : wa.heap.size = w.heap.size + 1 := by rw [hwa]; simp
  have hk0 : wa.cell? ⟨w.heap.size, 0, none⟩ = some (.int .i64 3) := by rw [hwa]; simp [World.cell?_alloc_at]
  have hk1 : wa.cell? ⟨w.heap.size, 1, none⟩ = some (.int .i64 x) := by rw [hwa]; simp [World.cell?_alloc_at]
  have hk2 : wa.cell? ⟨w.heap.size, 2, none⟩ = some (.int .i64 y) := by rw [hwa]; simp [World.cell?_alloc_at]
  have hk3 : wa.cell? ⟨w.heap.size, 3, none⟩ = some (.int .i64 z) := by rw [hwa]; simp [World.cell?_alloc_at]
  have hk4 : wa.cell? ⟨w.heap.size, 4, none⟩ = some (.int .i64 u) := by rw [hwa]; simp [World.cell?_alloc_at]
  have Hk := Lib.hid (And.intro hk0 (And.intro hk1 (And.intro hk2 (And.intro hk3 hk4))))
  have Hwa := Lib.hid hwa
  have HEa := Lib.hid hEa
  have HV := Lib.hid (vals_ok hx hy hz hu)
  have cA := Lib.hid (impl_ActOk ⟨3, x, y, z, u⟩ wa)
  rw [hok] at cA
  clear hwa hEa hk0 hk1 hk2 hk3 hk4 hok hx hy hz hu
  go_enter Tryd.func8, Tryd.ntmps8
  go_wp2_with fail
  rw [← Hwa.out]
  refine cA.out.mono ?_
  rintro e w1 ⟨rfl, hb1⟩
  obtain ⟨k0, k1, k2, k3, k4⟩ := Hk.out
  have hs1 := hb1.size
  replace k0 := (hb1.cellAt w.heap.size (by omega) 0).trans k0
  replace k1 := (hb1.cellAt w.heap.size (by omega) 1).trans k1
  replace k2 := (hb1.cellAt w.heap.size (by omega) 2).trans k2
  replace k3 := (hb1.cellAt w.heap.size (by omega) 3).trans k3
  replace k4 := (hb1.cellAt w.heap.size (by omega) 4).trans k4
  have HE1 := Lib.hid (HEa.out.trans hb1)
  have m0 : w1.heap.size ≠ w.heap.size := by omega
  have l0 : w.heap.size < w1.heap.size := by omega
  have hE1a : Ext w (w1.alloc (.cells ([x].map (Value.int .i64)).toArray 3)) := (HEa.out.trans hb1).alloc _
  have cW := Lib.hid (impl_withNumbers ⟨#[100, 97, 121, 115]⟩ (some ⟨w1.heap.size, 0, none⟩) 1 1 [x] (w1.alloc (.cells ([x].map (Value.int .i64)).toArray 3)) (rd_lit w1 3 [x] (by simp)) (by omega) (by decide) (Lib.hid (fun v hv => HV.out v (by simp only [List.mem_cons, List.not_mem_nil, or_false] at hv ⊢; omega))) (Lib.hid (tab_ext htab.out hE1a)))
  have HE1a := Lib.hid hE1a
  clear hE1a
  clear hb1
  go_wp2_with (refine cW.out.mono ?_; rintro e w2 ⟨rfl, hb2⟩; have HB2 := Lib.hid hb2; clear hb2)
  refine bodyPost_ret (v := .tuple #[.string (numsF ⟨#[100, 97, 121, 115]⟩ [x]), .bool true]) (by simp [results, Tryd.results8, go_sem, *]) rfl ⟨by rfl, HE1a.out.trans HB2.out⟩
set_option maxRecDepth 100000 in
set_option maxHeartbeats 2000000 in
theorem impl_FormatAct_4 (x y z u : Int) (hx : 0 ≤ x ∧ x ≤ 1000) (hy : 0 ≤ y ∧ y ≤ 1000) (hz : 0 ≤ z ∧ z ≤ 1000) (hu : 0 ≤ u ∧ u ≤ 1000) (hok : acOk ⟨4, x, y, z, u⟩ = true) (w : World) (htab : Hid (Lib.TabIs Tryd.prog w "internal/strconv.uint64pow10" .u64 Lib.pow10Tab)) :
    Calls Tryd.prog 8 #[.agg #[.int .i64 4, .int .i64 x, .int .i64 y, .int .i64 z, .int .i64 u]] w fun e w' => e = .returned (.tuple #[.string (numsF ⟨#[97, 117, 100, 105, 116]⟩ ([x, y, z, u].take 0)), .bool true]) ∧ Ext w w' := by
  obtain ⟨wa, hwa⟩ : ∃ wa, wa = w.alloc (.cells #[.int .i64 4, .int .i64 x, .int .i64 y, .int .i64 z, .int .i64 u] 37) := ⟨_, rfl⟩
  have hEa : Ext w wa := by rw [hwa]; exact (Ext.refl w).alloc _
  have hsa : wa.heap.size = w.heap.size + 1 := by rw [hwa]; simp
  have hk0 : wa.cell? ⟨w.heap.size, 0, none⟩ = some (.int .i64 4) := by rw [hwa]; simp [World.cell?_alloc_at]
  have hk1 : wa.cell? ⟨w.heap.size, 1, none⟩ = some (.int .i64 x) := by rw [hwa]; simp [World.cell?_alloc_at]
  have hk2 : wa.cell? ⟨w.heap.size, 2, none⟩ = some (.int .i64 y) := by rw [hwa]; simp [World.cell?_alloc_at]
  have hk3 : wa.cell? ⟨w.heap.size, 3, none⟩ = some (.int .i64 z) := by rw [hwa]; simp [World.cell?_alloc_at]
  have hk4 : wa.cell? ⟨w.heap.size, 4, none⟩ = some (.int .i64 u) := by rw [hwa]; simp [World.cell?_alloc_at]
  have Hk := Lib.hid (And.intro hk0 (And.intro hk1 (And.intro hk2 (And.intro hk3 hk4))))
  have Hwa := Lib.hid hwa
  have HEa := Lib.hid hEa
  have HV := Lib.hid (vals_ok hx hy hz hu)
  have cA := Lib.hid (impl_ActOk ⟨4, x, y, z, u⟩ wa)
  rw [hok] at cA
  clear hwa hEa hk0 hk1 hk2 hk3 hk4 hok hx hy hz hu
  go_enter Tryd.func8, Tryd.ntmps8
  go_wp2_with fail
  rw [← Hwa.out]
  refine cA.out.mono ?_
  rintro e w1 ⟨rfl, hb1⟩
  obtain ⟨k0, k1, k2, k3, k4⟩ := Hk.out
  have hs1 := hb1.size
  replace k0 := (hb1.cellAt w.heap.size (by omega) 0).trans k0
  replace k1 := (hb1.cellAt w.heap.size (by omega) 1).trans k1
  replace k2 := (hb1.cellAt w.heap.size (by omega) 2).trans k2
  replace k3 := (hb1.cellAt w.heap.size (by omega) 3).trans k3
  replace k4 := (hb1.cellAt w.heap.size (by omega) 4).trans k4
  have HE1 := Lib.hid (HEa.out.trans hb1)
  have m0 : w1.heap.size ≠ w.heap.size := by omega
  have l0 : w.heap.size < w1.heap.size := by omega
  clear hb1
  go_wp2_with fail
  refine bodyPost_ret (v := .tuple #[.string ⟨#[97, 117, 100, 105, 116]⟩, .bool true]) (by simp [results, Tryd.results8, go_sem, *]) rfl ⟨by rfl, HE1.out⟩
set_option maxRecDepth 100000 in
set_option maxHeartbeats 2000000 in
theorem impl_FormatAct_5 (x y z u : Int) (hx : 0 ≤ x ∧ x ≤ 1000) (hy : 0 ≤ y ∧ y ≤ 1000) (hz : 0 ≤ z ∧ z ≤ 1000) (hu : 0 ≤ u ∧ u ≤ 1000) (hok : acOk ⟨5, x, y, z, u⟩ = true) (w : World) (htab : Hid (Lib.TabIs Tryd.prog w "internal/strconv.uint64pow10" .u64 Lib.pow10Tab)) :
    Calls Tryd.prog 8 #[.agg #[.int .i64 5, .int .i64 x, .int .i64 y, .int .i64 z, .int .i64 u]] w fun e w' => e = .returned (.tuple #[.string (numsF ⟨#[119, 104, 101, 114, 101]⟩ ([x, y, z, u].take 1)), .bool true]) ∧ Ext w w' := by
  obtain ⟨wa, hwa⟩ : ∃ wa, wa = w.alloc (.cells #[.int .i64 5, .int .i64 x, .int .i64 y, .int .i64 z, .int .i64 u] 37) := ⟨_, rfl⟩
  have hEa : Ext w wa := by rw [hwa]; exact (Ext.refl w).alloc _
  have hsa : wa.heap.size = w.heap.size + 1 := by rw [hwa]; simp
  have hk0 : wa.cell? ⟨w.heap.size, 0, none⟩ = some (.int .i64 5) := by rw [hwa]; simp [World.cell?_alloc_at]
  have hk1 : wa.cell? ⟨w.heap.size, 1, none⟩ = some (.int .i64 x) := by rw [hwa]; simp [World.cell?_alloc_at]
  have hk2 : wa.cell? ⟨w.heap.size, 2, none⟩ = some (.int .i64 y) := by rw [hwa]; simp [World.cell?_alloc_at]
  have hk3 : wa.cell? ⟨w.heap.size, 3, none⟩ = some (.int .i64 z) := by rw [hwa]; simp [World.cell?_alloc_at]
  have hk4 : wa.cell? ⟨w.heap.size, 4, none⟩ = some (.int .i64 u) := by rw [hwa]; simp [World.cell?_alloc_at]
  have Hk := Lib.hid (And.intro hk0 (And.intro hk1 (And.intro hk2 (And.intro hk3 hk4))))
  have Hwa := Lib.hid hwa
  have HEa := Lib.hid hEa
  have HV := Lib.hid (vals_ok hx hy hz hu)
  have cA := Lib.hid (impl_ActOk ⟨5, x, y, z, u⟩ wa)
  rw [hok] at cA
  clear hwa hEa hk0 hk1 hk2 hk3 hk4 hok hx hy hz hu
  go_enter Tryd.func8, Tryd.ntmps8
  go_wp2_with fail
  rw [← Hwa.out]
  refine cA.out.mono ?_
  rintro e w1 ⟨rfl, hb1⟩
  obtain ⟨k0, k1, k2, k3, k4⟩ := Hk.out
  have hs1 := hb1.size
  replace k0 := (hb1.cellAt w.heap.size (by omega) 0).trans k0
  replace k1 := (hb1.cellAt w.heap.size (by omega) 1).trans k1
  replace k2 := (hb1.cellAt w.heap.size (by omega) 2).trans k2
  replace k3 := (hb1.cellAt w.heap.size (by omega) 3).trans k3
  replace k4 := (hb1.cellAt w.heap.size (by omega) 4).trans k4
  have HE1 := Lib.hid (HEa.out.trans hb1)
  have m0 : w1.heap.size ≠ w.heap.size := by omega
  have l0 : w.heap.size < w1.heap.size := by omega
  have hE1a : Ext w (w1.alloc (.cells ([x].map (Value.int .i64)).toArray 3)) := (HEa.out.trans hb1).alloc _
  have cW := Lib.hid (impl_withNumbers ⟨#[119, 104, 101, 114, 101]⟩ (some ⟨w1.heap.size, 0, none⟩) 1 1 [x] (w1.alloc (.cells ([x].map (Value.int .i64)).toArray 3)) (rd_lit w1 3 [x] (by simp)) (by omega) (by decide) (Lib.hid (fun v hv => HV.out v (by simp only [List.mem_cons, List.not_mem_nil, or_false] at hv ⊢; omega))) (Lib.hid (tab_ext htab.out hE1a)))
  have HE1a := Lib.hid hE1a
  clear hE1a
  clear hb1
  go_wp2_with (refine cW.out.mono ?_; rintro e w2 ⟨rfl, hb2⟩; have HB2 := Lib.hid hb2; clear hb2)
  refine bodyPost_ret (v := .tuple #[.string (numsF ⟨#[119, 104, 101, 114, 101]⟩ [x]), .bool true]) (by simp [results, Tryd.results8, go_sem, *]) rfl ⟨by rfl, HE1a.out.trans HB2.out⟩
end Go.Proofs.YtfhibjehnoibeaaDoor
/- FormatAct of both sides, whatever the act, and the walk of its law; no condition but what stands at each theorem. -/
namespace Go.Proofs.YtfhibjehnoibeaaDoor
set_option linter.unusedSimpArgs false
set_option linter.unusedVariables false
open Go.RowKit Go.Sort
set_option maxRecDepth 100000 in
set_option maxHeartbeats 1000000 in
theorem impl_FormatAct (a : GAct) (w : World) (htab : Hid (Lib.TabIs Tryd.prog w "internal/strconv.uint64pow10" .u64 Lib.pow10Tab)) :
    Calls Tryd.prog 8 #[.agg #[.int .i64 a.k, .int .i64 a.a, .int .i64 a.b, .int .i64 a.c, .int .i64 a.d]] w fun e w' => e = .returned (.tuple #[.string (actT a), .bool (acOk a)]) ∧ Ext w w' := by
  cases hok : acOk a
  case true =>
    obtain ⟨hk, hx, hy, hz, hu⟩ := ac_cases hok
    obtain ⟨k, x, y, z, u⟩ := a
    rw [actT, if_pos hok]
    rcases hk with h | h | h | h | h
    all_goals (simp only at h; subst h)
    · exact impl_FormatAct_1 x y z u hx hy hz hu hok w htab
    · exact impl_FormatAct_2 x y z u hx hy hz hu hok w htab
    · exact impl_FormatAct_3 x y z u hx hy hz hu hok w htab
    · exact impl_FormatAct_4 x y z u hx hy hz hu hok w htab
    · exact impl_FormatAct_5 x y z u hx hy hz hu hok w htab
  case false =>
    have cA := Lib.hid (fun w => impl_ActOk a w)
    rw [hok] at cA
    have HN : Hid (actT a = ⟨#[]⟩) := by unfold Hid; rw [actT, hok]; rfl
    clear hok
    go_enter Tryd.func8, Tryd.ntmps8
    go_wp2_with (refine (cA.out _).mono ?_; rintro e w1 ⟨rfl, hb1⟩; have HB1 := Lib.hid hb1; clear hb1)
    refine bodyPost_ret (v := .tuple #[.string ⟨#[]⟩, .bool false]) (by simp [results, Tryd.results8, go_sem, *]) rfl ⟨by rw [HN.out], ?_⟩
    exact ((Ext.refl w).alloc _).trans HB1.out
end Go.Proofs.YtfhibjehnoibeaaDoor
/- Texts of acts, in plain Lean: a text of blank-free words gives its words back; an act's text gives the act back; no condition. -/
namespace Go.Proofs.YtfhibjehnoibeaaDoor
set_option linter.unusedSimpArgs false
set_option linter.unusedVariables false
open Go.RowKit Go.Sort
def bfree (l : List UInt8) : Prop := ∀ b ∈ l, b ≠ 32
theorem wd_word : ∀ (l cur r : List UInt8), bfree l → wds cur (l ++ r) = wds (cur ++ l) r
  | [], cur, r, _ => by simp
  | b :: l, cur, r, h => by
    rw [List.cons_append, wd_ne (h b (List.mem_cons_self ..)), wd_word l _ r (fun c hc => h c (List.mem_cons_of_mem _ hc))]
    simp
theorem wd_tail : ∀ (fs : List (List UInt8)) (cur : List UInt8), cur ≠ [] → (∀ f ∈ fs, f ≠ [] ∧ bfree f) → wds cur (Lib.joinTail [32] fs ++ [32]) = cur :: fs
  | [], cur, h, _ => by
    rw [show Lib.joinTail [32] [] ++ [32] = [(32 : UInt8)] from rfl, wd_n h, wd_nil]
  | g :: fs, cur, h, hf => by
    have hg := hf g (List.mem_cons_self ..)
    rw [show Lib.joinTail [32] (g :: fs) ++ [32] = 32 :: (g ++ (Lib.joinTail [32] fs ++ [32])) by simp [Lib.joinTail], wd_n h, wd_word g [] _ hg.2, List.nil_append, wd_tail fs g hg.1 (fun f h => hf f (List.mem_cons_of_mem _ h))]
theorem wd_join {f : List UInt8} {fs : List (List UInt8)} (hf : ∀ g ∈ f :: fs, g ≠ [] ∧ bfree g) : wds [] (Lib.join (f :: fs) [32] ++ [32]) = f :: fs := by
  have h := hf f (List.mem_cons_self ..)
  rw [Lib.join_cons, List.append_assoc, wd_word f [] _ h.2, List.nil_append, wd_tail fs f h.1 (fun g hg => hf g (List.mem_cons_of_mem _ hg))]
theorem wds_good : ∀ (r cur : List UInt8), bfree cur → ∀ l ∈ wds cur r, l ≠ [] ∧ bfree l
  | [], _, _, l, hl => by rw [wd_nil] at hl; cases hl
  | b :: r, cur, hc, l, hl => by
    by_cases hb : b = 32
    · subst hb
      by_cases hcur : cur = []
      · subst hcur
        rw [wd_e] at hl
        exact wds_good r [] (fun b hb => by cases hb) l hl
      · rw [wd_n hcur] at hl
        rcases List.mem_cons.1 hl with rfl | hl
        · exact ⟨hcur, hc⟩
        · exact wds_good r [] (fun b hb => by cases hb) l hl
    · rw [wd_ne hb] at hl
      refine wds_good r _ (fun c h => ?_) l hl
      rw [List.mem_append, List.mem_singleton] at h
      rcases h with h | rfl
      · exact hc c h
      · exact hb
theorem fields_good (x : ByteArray) : ∀ l ∈ fieldsOf x, l ≠ [] ∧ bfree l := wds_good _ [] (fun b hb => by cases hb)
/-- The words, joined by blanks. -/
def jb (fs : List (List UInt8)) : ByteArray := ⟨(Lib.join fs [32]).toArray⟩
theorem jb_inj {f g : List UInt8} {fs gs : List (List UInt8)} (hf : ∀ l ∈ f :: fs, l ≠ [] ∧ bfree l) (hg : ∀ l ∈ g :: gs, l ≠ [] ∧ bfree l) (h : jb (f :: fs) = jb (g :: gs)) : f :: fs = g :: gs := by
  have h1 : Lib.join (f :: fs) [32] = Lib.join (g :: gs) [32] := by
    have := congrArg (fun b : ByteArray => b.data.toList) h
    simpa [jb] using this
  rw [← wd_join hf, ← wd_join hg, h1]
def actW (a : GAct) : List (List UInt8) := (wordOf a.k).data.toList :: ([a.a, a.b, a.c, a.d].take (cntOf a.k)).map fun x => (itext x).data.toList
theorem actT_jb {a : GAct} (h : acOk a = true) : actT a = jb (actW a) := by
  rw [actT, if_pos h, numsF_eq]
  unfold jb actW
  rw [Lib.join_cons]
theorem itext_good {x : Int} (h : 0 ≤ x) : (itext x).data.toList ≠ [] ∧ bfree (itext x).data.toList := by
  obtain ⟨n, rfl⟩ := Int.eq_ofNat_of_zero_le h
  rw [itext_list]
  refine ⟨fun e => ?_, fun b hb e => ?_⟩
  · have := dd_ne n; rw [e] at this; simp at this
  · have := dd_dig n b hb
    rw [e] at this
    have h32 : (32 : UInt8).toNat = 32 := rfl
    omega
theorem itext_inj {x y : Int} (hx : 0 ≤ x) (hy : 0 ≤ y) (h : (itext x).data.toList = (itext y).data.toList) : x = y := by
  obtain ⟨n, rfl⟩ := Int.eq_ofNat_of_zero_le hx
  obtain ⟨m, rfl⟩ := Int.eq_ofNat_of_zero_le hy
  rw [itext_list, itext_list] at h
  have := congrArg (List.foldl pS 0) h
  rw [dd_val, dd_val] at this
  rw [this]
theorem word_good {k : Int} (h : k = 1 ∨ k = 2 ∨ k = 3 ∨ k = 4 ∨ k = 5) : (wordOf k).data.toList ≠ [] ∧ bfree (wordOf k).data.toList := by
  unfold bfree
  rcases h with rfl | rfl | rfl | rfl | rfl <;> decide
theorem word_inj {k l : Int} (h : k = 1 ∨ k = 2 ∨ k = 3 ∨ k = 4 ∨ k = 5) (h' : l = 1 ∨ l = 2 ∨ l = 3 ∨ l = 4 ∨ l = 5) (e : (wordOf k).data.toList = (wordOf l).data.toList) : k = l := by
  rcases h with rfl | rfl | rfl | rfl | rfl <;> rcases h' with rfl | rfl | rfl | rfl | rfl <;> first | rfl | (exfalso; revert e; decide)
theorem actW_good {a : GAct} (h : acOk a = true) : ∀ l ∈ actW a, l ≠ [] ∧ bfree l := by
  obtain ⟨hk, hx, hy, hz, hu⟩ := ac_cases h
  intro l hl
  unfold actW at hl
  rcases List.mem_cons.1 hl with rfl | hl
  · exact word_good hk
  · obtain ⟨v, hv, rfl⟩ := List.mem_map.1 hl
    exact itext_good (vals_ok hx hy hz hu v (List.mem_of_mem_take hv)).1
/-- An act's text is the text of just these words. -/
theorem act_words {a : GAct} {fs : List (List UInt8)} (h : acOk a = true) (hf : ∀ l ∈ fs, l ≠ [] ∧ bfree l) (hn : fs ≠ []) (e : actT a = jb fs) : fs = actW a := by
  rw [actT_jb h] at e
  cases fs with
  | nil => exact absurd rfl hn
  | cons f fs => exact (jb_inj (actW_good h) hf e).symm
/-- What the parse of a word answers. -/
def NumOf (f : List UInt8) (z : Int) : Prop := ∀ i : Nat, i ≤ 1000 → (⟨f.toArray⟩ : ByteArray) = itext i → z = i
def NumAt (fs : List (List UInt8)) (j : Nat) (z : Int) : Prop := (∃ f, fs[j + 1]? = some f ∧ NumOf f z) ∨ (fs.length ≤ j + 1 ∧ z = 0)
theorem num_is {x z : Int} (h0 : 0 ≤ x) (h1 : x ≤ 1000) (h : NumOf (itext x).data.toList z) : z = x := by
  obtain ⟨n, rfl⟩ := Int.eq_ofNat_of_zero_le h0
  exact h n (by omega) (by rfl)
theorem ac_rest {a : GAct} (h : acOk a = true) : (a.k = 1 → a.c = 0 ∧ a.d = 0) ∧ (a.k = 3 ∨ a.k = 5 → a.b = 0 ∧ a.c = 0 ∧ a.d = 0) ∧ (a.k = 4 → a.a = 0 ∧ a.b = 0 ∧ a.c = 0 ∧ a.d = 0) := by
  unfold acOk at h
  refine ⟨fun e => ?_, fun e => ?_, fun e => ?_⟩
  · simp [e] at h; omega
  · rcases e with e | e <;> (simp [e] at h; omega)
  · simp [e] at h; omega
/-- Where an act has the text of the words, the numbers read from the words are the act's. -/
theorem act_nums {a : GAct} {fs : List (List UInt8)} {n0 n1 n2 n3 : Int} (h : acOk a = true) (e : fs = actW a) (h0 : NumAt fs 0 n0) (h1 : NumAt fs 1 n1) (h2 : NumAt fs 2 n2) (h3 : NumAt fs 3 n3) : a = ⟨a.k, n0, n1, n2, n3⟩ := by
  obtain ⟨hk, hx, hy, hz, hu⟩ := ac_cases h
  obtain ⟨r1, r3, r4⟩ := ac_rest h
  obtain ⟨k, x, y, z, u⟩ := a
  simp only at hk hx hy hz hu r1 r3 r4
  subst e
  have none_ : ∀ {j : Nat} {v : Int}, NumAt (actW ⟨k, x, y, z, u⟩) j v → (actW ⟨k, x, y, z, u⟩).length ≤ j + 1 → v = 0 := by
    intro j v hv hl
    rcases hv with ⟨f, hf, _⟩ | ⟨_, h⟩
    · rw [List.getElem?_eq_none hl] at hf; cases hf
    · exact h
  have some_ : ∀ {j : Nat} {v t : Int}, NumAt (actW ⟨k, x, y, z, u⟩) j v → (actW ⟨k, x, y, z, u⟩)[j + 1]? = some (itext t).data.toList → 0 ≤ t → t ≤ 1000 → v = t := by
    intro j v t hv hl ht0 ht1
    rcases hv with ⟨f, hf, hn⟩ | ⟨h, _⟩
    · rw [hl] at hf
      injection hf with hf
      subst hf
      exact num_is ht0 ht1 hn
    · rw [List.getElem?_eq_none h] at hl; cases hl
  rcases hk with rfl | rfl | rfl | rfl | rfl
  · obtain ⟨e1, e2⟩ := r1 rfl
    rw [some_ h0 rfl hx.1 hx.2, some_ h1 rfl hy.1 hy.2, none_ h2 (by simp [actW, cntOf]), none_ h3 (by simp [actW, cntOf]), e1, e2]
  · rw [some_ h0 rfl hx.1 hx.2, some_ h1 rfl hy.1 hy.2, some_ h2 rfl hz.1 hz.2, some_ h3 rfl hu.1 hu.2]
  · obtain ⟨e1, e2, e3⟩ := r3 (.inl rfl)
    rw [some_ h0 rfl hx.1 hx.2, none_ h1 (by simp [actW, cntOf]), none_ h2 (by simp [actW, cntOf]), none_ h3 (by simp [actW, cntOf]), e1, e2, e3]
  · obtain ⟨e0, e1, e2, e3⟩ := r4 rfl
    rw [none_ h0 (by simp [actW, cntOf]), none_ h1 (by simp [actW, cntOf]), none_ h2 (by simp [actW, cntOf]), none_ h3 (by simp [actW, cntOf]), e0, e1, e2, e3]
  · obtain ⟨e1, e2, e3⟩ := r3 (.inr rfl)
    rw [some_ h0 rfl hx.1 hx.2, none_ h1 (by simp [actW, cntOf]), none_ h2 (by simp [actW, cntOf]), none_ h3 (by simp [actW, cntOf]), e1, e2, e3]
theorem actW_len (a : GAct) : 1 ≤ (actW a).length ∧ (actW a).length ≤ 5 := by
  unfold actW
  simp only [List.length_cons, List.length_map, List.length_take, List.length_nil]
  omega
/-- What ParseAct answers. -/
def PA (x : ByteArray) (a : GAct) (b : Bool) : Prop :=
  (b = true ∧ spOk x = true ∧ acOk a = true ∧ fieldsOf x = actW a) ∨ (b = false ∧ a = ⟨0, 0, 0, 0, 0⟩ ∧ ∀ a', spOk x = true → acOk a' = true → fieldsOf x ≠ actW a')
theorem actW_inj {a a' : GAct} (h : acOk a = true) (h' : acOk a' = true) (e : actW a = actW a') : a = a' := by
  have key : ∀ {b : GAct}, acOk b = true → ∀ {fs}, fs = actW b → ∃ n0 n1 n2 n3, NumAt fs 0 n0 ∧ NumAt fs 1 n1 ∧ NumAt fs 2 n2 ∧ NumAt fs 3 n3 := by
    intro b hb fs e
    have at_ : ∀ j, ∃ n, NumAt fs j n := by
      intro j
      by_cases hj : fs.length ≤ j + 1
      · exact ⟨0, .inr ⟨hj, rfl⟩⟩
      · have hg : fs[j + 1]? = some fs[j + 1] := List.getElem?_eq_getElem (by omega)
        refine ⟨((fs[j + 1]).foldl pS 0 : Nat), .inl ⟨_, hg, fun i hi hh => ?_⟩⟩
        have := congrArg (fun b : ByteArray => b.data.toList) hh
        simp only [itext_list] at this
        rw [show fs[j + 1] = Lib.decDigits i by simpa using this, dd_val]
    obtain ⟨n0, h0⟩ := at_ 0
    obtain ⟨n1, h1⟩ := at_ 1
    obtain ⟨n2, h2⟩ := at_ 2
    obtain ⟨n3, h3⟩ := at_ 3
    exact ⟨n0, n1, n2, n3, h0, h1, h2, h3⟩
  obtain ⟨n0, n1, n2, n3, h0, h1, h2, h3⟩ := key h rfl
  have e1 := act_nums h rfl h0 h1 h2 h3
  have e2 := act_nums h' e h0 h1 h2 h3
  have hw : a.k = a'.k := by
    have := congrArg (fun l : List (List UInt8) => l.head?) e
    simp only [actW, List.head?_cons, Option.some.injEq] at this
    exact word_inj (ac_cases h).1 (ac_cases h').1 this
  rw [e1, e2, hw]
theorem pa_eq {x : ByteArray} {a a' : GAct} {b b' : Bool} (h : PA x a b) (h' : PA x a' b') : a = a' ∧ b = b' := by
  rcases h with ⟨rfl, hs, ho, he⟩ | ⟨rfl, rfl, hn⟩ <;> rcases h' with ⟨rfl, hs', ho', he'⟩ | ⟨rfl, rfl, hn'⟩
  · exact ⟨actW_inj ho ho' (he.symm.trans he'), rfl⟩
  · exact absurd he (hn' a hs ho)
  · exact absurd he' (hn a' hs' ho')
  · exact ⟨rfl, rfl⟩
end Go.Proofs.YtfhibjehnoibeaaDoor
/- Texts of moves and the splitting at one byte, in plain Lean; no condition. -/
namespace Go.Proofs.YtfhibjehnoibeaaDoor
set_option linter.unusedSimpArgs false
set_option linter.unusedVariables false
open Go.RowKit Go.Sort
/-- A text cut at each byte c. -/
def cuts (c : UInt8) : List UInt8 → List (List UInt8)
  | [] => [[]]
  | b :: r => if b = c then [] :: cuts c r else
    match cuts c r with
    | [] => [[b]]
    | h :: t => (b :: h) :: t
theorem cuts_ne (c : UInt8) : ∀ l, cuts c l ≠ []
  | [] => by simp [cuts]
  | b :: r => by
    unfold cuts
    split
    · simp
    · split <;> simp
theorem cuts_hit (c : UInt8) (r : List UInt8) : cuts c (c :: r) = [] :: cuts c r := by rw [cuts, if_pos rfl]
theorem cuts_go {b c : UInt8} (h : b ≠ c) {r : List UInt8} {x : List UInt8} {t : List (List UInt8)} (e : cuts c r = x :: t) : cuts c (b :: r) = (b :: x) :: t := by rw [cuts, if_neg h, e]
theorem splitK_cuts (c : UInt8) : ∀ l : List UInt8, Lib.splitK [c] 0 (Lib.count l [c]) l = cuts c l
  | [] => by
    rw [Lib.count_miss (by simp [Lib.index])]; rfl
  | b :: l => by
    by_cases h : b = c
    · subst h
      have hix : Lib.index (b :: l) [b] = ((0 : Nat) : Int) := by rw [Lib.index]; simp [List.isPrefixOf]
      rw [cuts_hit, Lib.count_cons_eq, Nat.add_comm, Lib.splitK, hix, ← splitK_cuts b l]
      simp
    · have hp : ([c] : List UInt8).isPrefixOf (b :: l) = false := by simp [List.isPrefixOf, Ne.symm h]
      have hix : Lib.index (b :: l) [c] = if Lib.index l [c] == -1 then -1 else Lib.index l [c] + 1 := by rw [Lib.index, hp]; simp
      have ih := splitK_cuts c l
      rw [Lib.count_cons_ne b c l h]
      by_cases hm : Lib.index l [c] = -1
      · rw [Lib.count_miss hm] at ih ⊢
        rw [cuts_go h ih.symm]
        rfl
      · have hge := Lib.index_ge l [c]
        obtain ⟨j, hj⟩ : ∃ j : Nat, Lib.index l [c] = j := ⟨(Lib.index l [c]).toNat, by omega⟩
        have hix' : Lib.index (b :: l) [c] = ((j + 1 : Nat) : Int) := by rw [hix, if_neg (fun e => hm (beq_iff_eq.1 e)), hj]; omega
        rw [Lib.count_hit (by simp) hj, Nat.add_comm] at ih ⊢
        rw [Lib.splitK, hj, if_neg (by first | (simp; done) | (simp; omega))] at ih
        rw [Lib.splitK, hix', if_neg (by first | (simp; done) | (simp; omega))]
        rw [cuts_go h ih.symm]
        simp
theorem splitB_cuts (c : UInt8) (x : ByteArray) : (Lib.splitB ⟨#[c]⟩ 0 (Lib.countB x ⟨#[c]⟩) x).map (·.data.toList) = cuts c x.data.toList := by
  rw [Lib.splitB_data]
  exact splitK_cuts c _
def cfree (c : UInt8) (l : List UInt8) : Prop := ∀ b ∈ l, b ≠ c
theorem cuts_word {c : UInt8} : ∀ {l : List UInt8}, cfree c l → cuts c l = [l]
  | [], _ => rfl
  | b :: l, h => by
    have ih := cuts_word (c := c) (l := l) (fun x hx => h x (List.mem_cons_of_mem _ hx))
    rw [cuts_go (h b (List.mem_cons_self ..)) ih]
theorem cuts_app {c : UInt8} : ∀ {l : List UInt8} (r : List UInt8), cfree c l → cuts c (l ++ c :: r) = l :: cuts c r
  | [], r, _ => by rw [List.nil_append, cuts_hit]
  | b :: l, r, h => by
    have ih := cuts_app (c := c) (l := l) r (fun x hx => h x (List.mem_cons_of_mem _ hx))
    rw [List.cons_append, cuts_go (h b (List.mem_cons_self ..)) ih]
theorem cuts_join {c : UInt8} : ∀ (fs : List (List UInt8)) (f : List UInt8), (∀ g ∈ f :: fs, cfree c g) → cuts c (Lib.join (f :: fs) [c]) = f :: fs
  | [], f, h => by
    rw [Lib.join_cons, show Lib.joinTail [c] ([] : List (List UInt8)) = [] from rfl, List.append_nil]
    exact cuts_word (h f (List.mem_cons_self ..))
  | g :: fs, f, h => by
    have ih := cuts_join (c := c) fs g (fun x hx => h x (List.mem_cons_of_mem _ hx))
    rw [Lib.join_cons, show Lib.joinTail [c] (g :: fs) = c :: (g ++ Lib.joinTail [c] fs) by simp [Lib.joinTail], cuts_app _ (h f (List.mem_cons_self ..)), ← Lib.join_cons, ih]
theorem cuts_len (c : UInt8) : ∀ (L : List UInt8), ∀ l ∈ cuts c L, l.length ≤ L.length
  | [], l, h => by
    rw [show cuts c [] = [[]] from rfl, List.mem_singleton] at h
    subst h; simp
  | b :: r, l, h => by
    by_cases hb : b = c
    · subst hb
      rw [cuts_hit] at h
      rcases List.mem_cons.1 h with rfl | h
      · simp
      · have := cuts_len b r l h; simp; omega
    · have ih := cuts_len c r
      cases e : cuts c r with
      | nil => exact absurd e (cuts_ne c r)
      | cons x t =>
        rw [cuts_go hb e] at h
        rw [e] at ih
        rcases List.mem_cons.1 h with rfl | h
        · have := ih x (List.mem_cons_self ..); simp; omega
        · have := ih l (List.mem_cons_of_mem _ h); simp; omega
/-- The move is one that has a text. -/
def mvB (m : GMove) : Bool := ((inB m.o 0 20 && inB m.t 0 20) && inB m.f 0 20) && inB m.s 0 20
def mvW (m : GMove) : List (List UInt8) := [109, 111, 118, 101] :: [m.o, m.t, m.f, m.s].map fun x => (itext x).data.toList
theorem in20 {x : Int} (h : inB x 0 20 = true) : 0 ≤ x ∧ x ≤ 20 := by simpa [inB] using h
theorem mv_cases {m : GMove} (h : mvB m = true) : inB m.o 0 20 = true ∧ inB m.t 0 20 = true ∧ inB m.f 0 20 = true ∧ inB m.s 0 20 = true := by
  unfold mvB at h
  simp only [Bool.and_eq_true] at h
  exact ⟨h.1.1.1, h.1.1.2, h.1.2, h.2⟩
theorem mvF_ok : ∀ (xs : List Int) (s : ByteArray), (∀ x ∈ xs, inB x 0 20 = true) → mvF s xs = numsF s xs
  | [], s, _ => rfl
  | x :: r, s, h => by rw [mvF, if_pos (h x (List.mem_cons_self ..)), numsF, mvF_ok r _ (fun y hy => h y (List.mem_cons_of_mem _ hy))]
theorem mvF_bad : ∀ (xs : List Int) (s : ByteArray), (∃ x ∈ xs, inB x 0 20 = false) → mvF s xs = ByteArray.empty
  | [], s, h => by obtain ⟨x, hx, _⟩ := h; cases hx
  | x :: r, s, h => by
    cases hx : inB x 0 20
    · rw [mvF, if_neg (by rw [hx]; decide)]
    · rw [mvF, if_pos hx]
      refine mvF_bad r _ ?_
      obtain ⟨y, hy, hyb⟩ := h
      rcases List.mem_cons.1 hy with rfl | hy
      · rw [hx] at hyb; cases hyb
      · exact ⟨y, hy, hyb⟩
theorem moveT_jb {m : GMove} (h : mvB m = true) : moveT m = jb (mvW m) := by
  obtain ⟨h0, h1, h2, h3⟩ := mv_cases h
  unfold moveT
  rw [mvF_ok _ _ (by intro x hx; simp at hx; rcases hx with rfl | rfl | rfl | rfl <;> assumption), numsF_eq]
  unfold jb mvW
  rw [Lib.join_cons]
theorem moveT_bad {m : GMove} (h : mvB m = false) : moveT m = ByteArray.empty := by
  refine mvF_bad _ _ ?_
  unfold mvB at h
  simp only [Bool.and_eq_false_iff] at h
  rcases h with ((h | h) | h) | h
  · exact ⟨_, by simp, h⟩
  · exact ⟨_, by simp, h⟩
  · exact ⟨_, by simp, h⟩
  · exact ⟨_, by simp, h⟩
theorem mvW_good {m : GMove} (h : mvB m = true) : ∀ l ∈ mvW m, l ≠ [] ∧ bfree l := by
  obtain ⟨h0, h1, h2, h3⟩ := mv_cases h
  intro l hl
  unfold mvW at hl
  rcases List.mem_cons.1 hl with rfl | hl
  · unfold bfree; decide
  · obtain ⟨v, hv, rfl⟩ := List.mem_map.1 hl
    simp at hv
    rcases hv with rfl | rfl | rfl | rfl <;> exact itext_good (in20 (by assumption)).1
theorem mvW_len (m : GMove) : (mvW m).length = 5 := rfl
/-- A move's text, cut at the blanks, gives its words. -/
theorem mv_cuts {m : GMove} (h : mvB m = true) : cuts 32 (moveT m).data.toList = mvW m := by
  rw [moveT_jb h]
  have hg := mvW_good h
  unfold jb
  simp only
  exact cuts_join _ _ (fun g hg' => (hg g hg').2)
theorem mv_fields {m : GMove} (h : mvB m = true) : fieldsOf (moveT m) = mvW m := by
  rw [moveT_jb h]
  have hg := mvW_good h
  unfold fieldsOf jb
  simp only
  exact wd_join hg
theorem mv_inj {m m' : GMove} (h : mvB m = true) (h' : mvB m' = true) (e : moveT m = moveT m') : m = m' := by
  have hw : mvW m = mvW m' := by rw [← mv_cuts h, ← mv_cuts h', e]
  obtain ⟨h0, h1, h2, h3⟩ := mv_cases h
  obtain ⟨k0, k1, k2, k3⟩ := mv_cases h'
  unfold mvW at hw
  simp only [List.map_cons, List.map_nil, List.cons.injEq, and_true, true_and] at hw
  obtain ⟨o, t, f, s⟩ := m
  obtain ⟨o', t', f', s'⟩ := m'
  simp only at hw h0 h1 h2 h3 k0 k1 k2 k3
  rw [itext_inj (in20 h0).1 (in20 k0).1 hw.1, itext_inj (in20 h1).1 (in20 k1).1 hw.2.1, itext_inj (in20 h2).1 (in20 k2).1 hw.2.2.1, itext_inj (in20 h3).1 (in20 k3).1 hw.2.2.2]
/-- Where the words are a move's, the numbers read from the words are the move's. -/
theorem mv_nums {m : GMove} {fs : List (List UInt8)} {n0 n1 n2 n3 : Int} (h : mvB m = true) (e : fs = mvW m) (h0 : ∀ f, fs[1]? = some f → NumOf f n0) (h1 : ∀ f, fs[2]? = some f → NumOf f n1) (h2 : ∀ f, fs[3]? = some f → NumOf f n2) (h3 : ∀ f, fs[4]? = some f → NumOf f n3) : m = ⟨n0, n1, n2, n3⟩ := by
  obtain ⟨k0, k1, k2, k3⟩ := mv_cases h
  subst e
  have g0 := in20 k0
  have g1 := in20 k1
  have g2 := in20 k2
  have g3 := in20 k3
  obtain ⟨o, t, f, s⟩ := m
  simp only at g0 g1 g2 g3
  rw [num_is g0.1 (by omega) (h0 _ rfl), num_is g1.1 (by omega) (h1 _ rfl), num_is g2.1 (by omega) (h2 _ rfl), num_is g3.1 (by omega) (h3 _ rfl)]
theorem moveT_ne {m : GMove} (h : mvB m = true) : moveT m ≠ ByteArray.empty := by
  intro e
  have := mv_cuts h
  rw [e] at this
  have := congrArg List.length this
  simp [cuts, mvW] at this
/-- What ParseMove answers. -/
def PM (x : ByteArray) (m : GMove) (b : Bool) : Prop :=
  (b = true ∧ mvB m = true ∧ x = moveT m) ∨ (b = false ∧ m = ⟨0, 0, 0, 0⟩ ∧ ∀ m', mvB m' = true → x ≠ moveT m')
theorem pm_eq {x : ByteArray} {m m' : GMove} {b b' : Bool} (h : PM x m b) (h' : PM x m' b') : m = m' ∧ b = b' := by
  rcases h with ⟨hb, h1, h2⟩ | ⟨hb, h1, h2⟩ <;> rcases h' with ⟨hb', h1', h2'⟩ | ⟨hb', h1', h2'⟩
  · exact ⟨mv_inj h1 h1' (h2.symm.trans h2'), by rw [hb, hb']⟩
  · exact absurd h2 (h2' m h1)
  · exact absurd h2' (h2 m' h1')
  · exact ⟨by rw [h1, h1'], by rw [hb, hb']⟩
/-- Printable bytes. -/
def prL (l : List UInt8) : Prop := ∀ b ∈ l, 32 ≤ b.toNat ∧ b.toNat ≤ 126
theorem prB_iff (x : ByteArray) : prB x = true ↔ prL x.data.toList := by
  unfold prB prL
  rw [List.all_eq_true]
  constructor
  · intro h b hb; simpa using h b hb
  · intro h b hb; simpa using h b hb
theorem pr_tail : ∀ (fs : List (List UInt8)), (∀ f ∈ fs, prL f) → prL (Lib.joinTail [32] fs)
  | [], _ => fun b hb => by simp [Lib.joinTail] at hb
  | f :: fs, h => fun b hb => by
    have h1 := pr_tail fs (fun g hg => h g (List.mem_cons_of_mem _ hg))
    rw [show Lib.joinTail [32] (f :: fs) = 32 :: (f ++ Lib.joinTail [32] fs) by simp [Lib.joinTail]] at hb
    rcases List.mem_cons.1 hb with rfl | hb
    · decide
    · rcases List.mem_append.1 hb with hb | hb
      · exact h f (List.mem_cons_self ..) b hb
      · exact h1 b hb
theorem pr_join {fs : List (List UInt8)} (h : ∀ f ∈ fs, prL f) : prL (Lib.join fs [32]) := by
  cases fs with
  | nil => intro b hb; simp [Lib.join] at hb
  | cons f fs =>
    rw [Lib.join_cons]
    intro b hb
    rcases List.mem_append.1 hb with hb | hb
    · exact h f (List.mem_cons_self ..) b hb
    · exact pr_tail fs (fun g hg => h g (List.mem_cons_of_mem _ hg)) b hb
theorem itext_pr {x : Int} (h : 0 ≤ x) : prL (itext x).data.toList := by
  obtain ⟨n, rfl⟩ := Int.eq_ofNat_of_zero_le h
  rw [itext_list]
  intro b hb
  have := dd_dig n b hb
  omega
theorem mvW_pr {m : GMove} (h : mvB m = true) : ∀ l ∈ mvW m, prL l := by
  obtain ⟨h0, h1, h2, h3⟩ := mv_cases h
  intro l hl
  unfold mvW at hl
  rcases List.mem_cons.1 hl with rfl | hl
  · unfold prL; decide
  · obtain ⟨v, hv, rfl⟩ := List.mem_map.1 hl
    simp at hv
    rcases hv with rfl | rfl | rfl | rfl <;> exact itext_pr (in20 (by assumption)).1
theorem itext_len4 {x : Int} (h0 : 0 ≤ x) (h1 : x ≤ 1000) : (itext x).data.toList.length ≤ 4 := by
  obtain ⟨n, rfl⟩ := Int.eq_ofNat_of_zero_le h0
  rw [itext_list]
  exact dd_len4 (by omega)
theorem mk_size0 (f : List UInt8) : (⟨f.toArray⟩ : ByteArray).size = f.length := by simp [ByteArray.size]
theorem moveT_size (m : GMove) : (moveT m).size ≤ 24 := by
  cases h : mvB m
  · rw [moveT_bad h]; decide
  · obtain ⟨h0, h1, h2, h3⟩ := mv_cases h
    rw [moveT_jb h]
    unfold jb mvW
    rw [Lib.join_cons]
    have l0 := itext_len4 (in20 h0).1 (by have := (in20 h0).2; omega)
    have l1 := itext_len4 (in20 h1).1 (by have := (in20 h1).2; omega)
    have l2 := itext_len4 (in20 h2).1 (by have := (in20 h2).2; omega)
    have l3 := itext_len4 (in20 h3).1 (by have := (in20 h3).2; omega)
    have e : ∀ a b c d : List UInt8, Lib.joinTail [32] [a, b, c, d] = 32 :: (a ++ 32 :: (b ++ 32 :: (c ++ 32 :: d))) := fun a b c d => by simp [Lib.joinTail]
    rw [List.map_cons, List.map_cons, List.map_cons, List.map_cons, List.map_nil, e, mk_size0]
    simp only [List.length_append, List.length_cons, List.length_nil]
    omega
/-- A move's text can be split into fields. -/
theorem mv_sp {m : GMove} (h : mvB m = true) : spOk (moveT m) = true := by
  unfold spOk
  rw [mv_fields h, mvW_len, Bool.and_eq_true, Bool.and_eq_true]
  refine ⟨⟨?_, ?_⟩, by decide⟩
  · have := moveT_size m; simp; omega
  · rw [prB_iff, moveT_jb h]
    unfold jb
    simp only
    exact pr_join (mvW_pr h)
end Go.Proofs.YtfhibjehnoibeaaDoor
