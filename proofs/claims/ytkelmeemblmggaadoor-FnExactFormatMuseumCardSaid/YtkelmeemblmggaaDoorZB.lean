/- Texts of one proof, laid one behind the other (H1, H2, KQ, H3, T2, H4, H5); no condition but what stands at each theorem. -/
import Derived.Test.YtkelmeemblmggaaDoorProg
import Derived.KernelRfl
import Derived.Test.YtkelmeemblmggaaDoorZA
/- Contracts of the laws' own helpers on structs and rows: copies, comparisons, sizes; no condition but what stands at each theorem. -/
namespace Go.Proofs.YtkelmeemblmggaaDoor
set_option linter.unusedSimpArgs false
set_option linter.unusedVariables false
open Go.RowKit












set_option maxRecDepth 100000 in
set_option maxHeartbeats 400000 in
theorem laws_toDoor (s : GDoor) (w : World) :
    Calls Tryd.prog 64 #[.agg #[.int .i64 s.a, .int .i64 s.b]] w fun e w' => e = .returned (.agg #[.int .i64 s.a, .int .i64 s.b]) ∧ Ext w w' := by
  go_enter Tryd.func64, Tryd.ntmps64
  go_wp2
  refine bodyPost_ret (v := .agg #[.int .i64 s.a, .int .i64 s.b]) (by simp [results, Tryd.results64, go_sem]) rfl ⟨rfl, ?_⟩
  (repeat (first | exact Ext.refl _ | assumption | refine Ext.alloc ?_ _ | refine Ext.drew ?_ | refine Ext.drewN ?_ _ | refine Ext.setCell ?_ (by first | (simp; done) | (simp; omega)) _ | refine Ext.trans ?_ (by assumption)))
set_option maxRecDepth 100000 in
set_option maxHeartbeats 1000000 in
theorem laws_eqDoor (a b : GDoor) (hab : a = b) (w : World) :
    Calls Tryd.prog 71 #[.agg #[.int .i64 a.a, .int .i64 a.b], .agg #[.int .i64 b.a, .int .i64 b.b]] w fun e w' => e = .returned (.bool true) ∧ Ext w w' := by
  subst hab
  go_enter Tryd.func71, Tryd.ntmps71
  go_wp2
  all_goals go_ret
  all_goals refine ⟨rfl, ?_⟩
  all_goals (repeat (first | exact Ext.refl _ | assumption | refine Ext.alloc ?_ _ | refine Ext.drew ?_ | refine Ext.drewN ?_ _ | refine Ext.setCell ?_ (by first | (simp; done) | (simp; omega)) _ | refine Ext.trans ?_ (by assumption)))


set_option maxRecDepth 100000 in
set_option maxHeartbeats 400000 in
theorem laws_szIntS (A : Option Addr) (n c : Nat) (left : Int) (w : World) (hl : 0 ≤ left) (hl2 : left ≤ 1048576) (hn : n ≤ 9223372036854775807) :
    Calls Tryd.prog 18 #[.slice A n c, .int .i64 left] w fun e w' => e = .returned (.int .i64 (if left < n then -1 else left - n)) ∧ w = w' := by
  go_enter Tryd.func18, Tryd.ntmps18
  by_cases h : left < n
  all_goals
    go_wp2
    go_ret
    exact ⟨rfl, rfl⟩
theorem info_Int : (Tryd.prog.info? 3).map (fun i => (i.zero.map (·.cells.size), i.size, decide (i.bytes ≤ 4096))) = some (some 1, 1, true) := by kernel_rfl
set_option maxRecDepth 100000 in
set_option maxHeartbeats 1000000 in
theorem laws_toIntS (A : Option Addr) (n c : Nat) (xs : List Int) (w : World) (hx : Rd w 1 A n (xs.flatMap ienc)) (hn : n ≤ 1048576) :
    Calls Tryd.prog 24 #[.slice A n c] w fun e w' => ∃ g : Nat, e = .returned (.slice (some ⟨g, 0, none⟩) n n) ∧ Ext w w' ∧ w'.ownsRow w.heap.size 3 1 (.slice (some ⟨g, 0, none⟩) n n) n (xs.flatMap ienc) := by
  have hl := Lib.hid (hx.len ienc_len (by omega))
  have hin := info_Int
  cases hi : Tryd.prog.info? 3 with
  | none => rw [hi] at hin; cases hin
  | some i =>
  rw [hi] at hin
  simp only [Option.map_some, Option.some.injEq, Prod.mk.injEq, decide_eq_true_eq] at hin
  obtain ⟨hz0, hsz, hby⟩ := hin
  cases hz : i.zero with
  | none => rw [hz] at hz0; cases hz0
  | some z =>
  rw [hz] at hz0
  simp only [Option.map_some, Option.some.injEq] at hz0
  have hmk := make_row (P := Tryd.prog) 25 3 i z Tryd.underlying25 hi hz n (by have := Nat.mul_le_mul hby hn; omega) (by omega)
  rw [hsz] at hmk
  obtain ⟨cells, hcells⟩ : ∃ cells, cells = madeCells z.cells (n * 1) := ⟨_, rfl⟩
  rw [← hcells] at hmk
  have hcs : cells.size = n * 1 := by rw [hcells, size_madeCells]
  clear hcells hi hz hsz hby hz0
  go_enter Tryd.func24, Tryd.ntmps24
  go_wp2_with fail
  go_loopw [4] (fun i wr => ∃ (k : Nat) (cur : Array Value), k ≤ n ∧ i = .int .i64 k ∧ cur.size = n * 1 ∧ Hid (cur.toList.take (k * 1) = (xs.take k).flatMap ienc) ∧ Blk wr w.heap.size 3 cur ∧ Ext w wr) (fun i _ => n - (intOf i).toNat)
  case atStart => exact ⟨0, cells, Nat.zero_le _, rfl, hcs, by unfold Hid; simp, Blk.new _ _ _, (Ext.refl _).alloc _⟩
  case round =>
    obtain ⟨k, cur, hk, rfl, hcz, hz, hblk, hb⟩ := hrel
    clear hmk hcs
    by_cases hlt : k < n
    · obtain ⟨b, off, x, rfl, hbs, hxk, h0⟩ := ienc_at (hx.keep hb) hlt
      have HX := Lib.hid hxk
      have HB := Lib.hid hb
      clear hxk hb
      have c0 := hblk.cellAt (i := k) (by omega)
      have f0 := hblk.free (k)
      have HBk := Lib.hid hblk
      clear hblk
      go_wp2_with fail
      go_roundw
      case rel =>
        refine ⟨k + 1, setRow cur (k * 1) [.int .i64 x], by omega, by go_num, by rw [setRow_size]; exact hcz, ?_, ?_, ?_⟩
        · unfold Hid
          rw [take_snoc HX.out, List.flatMap_append]
          exact setRow_take (m := 1) rfl (by rw [hcz]; omega) hz.out
        · rw [Nat.mul_one]; exact Blk.sets [.int .i64 x] k HBk.out
        · exact Ext.sets [.int .i64 x] k HB.out (Nat.le_refl _)
      case measure => simp [intOf]; omega
    · obtain rfl : k = n := by omega
      go_wp2_with fail
      go_ret
      have h1 := hz.out
      rw [List.take_of_length_le (l := xs) (by rw [hl.out]; omega)] at h1
      exact ⟨w.heap.size, rfl, hb, own_of_blk (Nat.le_refl _) hblk hcz (by unfold maxLen; omega) h1⟩
set_option maxRecDepth 100000 in
set_option maxHeartbeats 1000000 in
theorem laws_eqIntS (A A' : Option Addr) (n c n' c' : Nat) (xs : List Int) (w : World) (hx : Rd w 1 A n (xs.flatMap ienc)) (hy : Rd w 1 A' n' (xs.flatMap ienc)) :
    Calls Tryd.prog 29 #[.slice A n c, .slice A' n' c'] w fun e w' => e = .returned (.bool true) ∧ Ext w w' := by
  have hn := hx.2.1
  obtain rfl : n = n' := by rw [← hx.len ienc_len (by omega), ← hy.len ienc_len (by omega)]
  go_enter Tryd.func29, Tryd.ntmps29
  go_wp2_with fail
  go_loopw [5] (fun i wr => ∃ k : Nat, k ≤ n ∧ i = .int .i64 k ∧ Ext w wr) (fun i _ => n - (intOf i).toNat)
  case atStart => exact ⟨0, Nat.zero_le _, rfl, Ext.refl _⟩
  case round =>
    obtain ⟨k, hk, rfl, hb⟩ := hrel
    by_cases hlt : k < n
    · obtain ⟨b, off, x, rfl, hbs, hxk, h0⟩ := ienc_at (hx.keep hb) hlt
      obtain ⟨b', off', y, rfl, hbs', hyk, g0⟩ := ienc_at (hy.keep hb) hlt
      obtain rfl : x = y := by rw [hyk] at hxk; simpa using hxk.symm
      clear hxk hyk
      have Hb := Lib.hid hb
      clear hb
      go_wp2_with fail
      go_quiet (fail)
      go_wp2_with fail
      go_roundw
      case rel => exact ⟨k + 1, by omega, by go_num, Hb.out.drewN _⟩
      case measure => simp [intOf]; omega
    · go_wp2_with fail
      go_ret
      exact ⟨rfl, hb⟩






set_option maxRecDepth 100000 in
set_option maxHeartbeats 400000 in
theorem laws_szDoorS (A : Option Addr) (n c : Nat) (left : Int) (w : World) (hl : 0 ≤ left) (hl2 : left ≤ 1048576) (hn : n ≤ 9223372036854775807) :
    Calls Tryd.prog 39 #[.slice A n c, .int .i64 left] w fun e w' => e = .returned (.int .i64 (if left < n then -1 else left - n)) ∧ w = w' := by
  go_enter Tryd.func39, Tryd.ntmps39
  by_cases h : left < n
  all_goals
    go_wp2
    go_ret
    exact ⟨rfl, rfl⟩
theorem info_Door : (Tryd.prog.info? 95).map (fun i => (i.zero.map (·.cells.size), i.size, decide (i.bytes ≤ 4096))) = some (some 2, 2, true) := by kernel_rfl
set_option maxRecDepth 100000 in
set_option maxHeartbeats 1000000 in
theorem laws_toDoorS (A : Option Addr) (n c : Nat) (xs : List GDoor) (w : World) (hx : Rd w 2 A n (xs.flatMap GDoor.enc)) (hn : n ≤ 1048576) :
    Calls Tryd.prog 46 #[.slice A n c] w fun e w' => ∃ g : Nat, e = .returned (.slice (some ⟨g, 0, none⟩) n n) ∧ Ext w w' ∧ w'.ownsRow w.heap.size 95 2 (.slice (some ⟨g, 0, none⟩) n n) n (xs.flatMap GDoor.enc) := by
  have hl := Lib.hid (hx.len GDoor.len (by omega))
  have hin := info_Door
  cases hi : Tryd.prog.info? 95 with
  | none => rw [hi] at hin; cases hin
  | some i =>
  rw [hi] at hin
  simp only [Option.map_some, Option.some.injEq, Prod.mk.injEq, decide_eq_true_eq] at hin
  obtain ⟨hz0, hsz, hby⟩ := hin
  cases hz : i.zero with
  | none => rw [hz] at hz0; cases hz0
  | some z =>
  rw [hz] at hz0
  simp only [Option.map_some, Option.some.injEq] at hz0
  have hmk := make_row (P := Tryd.prog) 32 95 i z Tryd.underlying32 hi hz n (by have := Nat.mul_le_mul hby hn; omega) (by omega)
  rw [hsz] at hmk
  obtain ⟨cells, hcells⟩ : ∃ cells, cells = madeCells z.cells (n * 2) := ⟨_, rfl⟩
  rw [← hcells] at hmk
  have hcs : cells.size = n * 2 := by rw [hcells, size_madeCells]
  clear hcells hi hz hsz hby hz0
  go_enter Tryd.func46, Tryd.ntmps46
  go_wp2_with fail
  go_loopw [4] (fun i wr => ∃ (k : Nat) (cur : Array Value), k ≤ n ∧ i = .int .i64 k ∧ cur.size = n * 2 ∧ Hid (cur.toList.take (k * 2) = (xs.take k).flatMap GDoor.enc) ∧ Blk wr w.heap.size 95 cur ∧ Ext w wr) (fun i _ => n - (intOf i).toNat)
  case atStart => exact ⟨0, cells, Nat.zero_le _, rfl, hcs, by unfold Hid; simp, Blk.new _ _ _, (Ext.refl _).alloc _⟩
  case round =>
    obtain ⟨k, cur, hk, rfl, hcz, hz, hblk, hb⟩ := hrel
    clear hmk hcs
    by_cases hlt : k < n
    · obtain ⟨b, off, x, rfl, hbs, hxk, h0, h1⟩ := GDoor.at_ (hx.keep hb) hlt
      have HX := Lib.hid hxk
      have HB := Lib.hid hb
      clear hxk hb
      have c0 := hblk.cellAt (i := k * 2) (by omega)
      have f0 := hblk.free (k * 2)
      have c1 := hblk.cellAt (i := k * 2 + 1) (by omega)
      have f1 := hblk.free (k * 2 + 1)
      have HBk := Lib.hid hblk
      clear hblk
      go_wp2_with (go_at_call 64; refine (laws_toDoor x _).mono ?_; rintro e w1 ⟨rfl, hb1⟩; have hblk1 := HBk.out.keep hb1; have c0 := hblk1.cellAt (i := k * 2) (by omega); have f0 := hblk1.free (k * 2); have c1 := hblk1.cellAt (i := k * 2 + 1) (by omega); have f1 := hblk1.free (k * 2 + 1); have HB1 := Lib.hid hb1; have HBk1 := Lib.hid hblk1; clear hb1 hblk1)
      go_roundw
      case rel =>
        refine ⟨k + 1, setRow cur (k * 2) [.int .i64 x.a, .int .i64 x.b], by omega, by go_num, by rw [setRow_size]; exact hcz, ?_, ?_, ?_⟩
        · unfold Hid
          rw [take_snoc HX.out, List.flatMap_append]
          exact setRow_take (m := 2) rfl (by rw [hcz]; omega) hz.out
        · exact Blk.sets [.int .i64 x.a, .int .i64 x.b] (k * 2) HBk1.out
        · exact Ext.sets [.int .i64 x.a, .int .i64 x.b] (k * 2) (HB.out.trans HB1.out) (Nat.le_refl _)
      case measure => simp [intOf]; omega
    · obtain rfl : k = n := by omega
      go_wp2_with fail
      go_ret
      have h1 := hz.out
      rw [List.take_of_length_le (l := xs) (by rw [hl.out]; omega)] at h1
      exact ⟨w.heap.size, rfl, hb, own_of_blk (Nat.le_refl _) hblk hcz (by unfold maxLen; omega) h1⟩
set_option maxRecDepth 100000 in
set_option maxHeartbeats 1000000 in
theorem laws_eqDoorS (A A' : Option Addr) (n c n' c' : Nat) (xs : List GDoor) (w : World) (hx : Rd w 2 A n (xs.flatMap GDoor.enc)) (hy : Rd w 2 A' n' (xs.flatMap GDoor.enc)) :
    Calls Tryd.prog 53 #[.slice A n c, .slice A' n' c'] w fun e w' => e = .returned (.bool true) ∧ Ext w w' := by
  have hn := hx.2.1
  obtain rfl : n = n' := by rw [← hx.len GDoor.len (by omega), ← hy.len GDoor.len (by omega)]
  go_enter Tryd.func53, Tryd.ntmps53
  go_wp2_with fail
  go_loopw [5] (fun i wr => ∃ k : Nat, k ≤ n ∧ i = .int .i64 k ∧ Ext w wr) (fun i _ => n - (intOf i).toNat)
  case atStart => exact ⟨0, Nat.zero_le _, rfl, Ext.refl _⟩
  case round =>
    obtain ⟨k, hk, rfl, hb⟩ := hrel
    by_cases hlt : k < n
    · obtain ⟨b, off, x, rfl, hbs, hxk, h0, h1⟩ := GDoor.at_ (hx.keep hb) hlt
      obtain ⟨b', off', y, rfl, hbs', hyk, g0, g1⟩ := GDoor.at_ (hy.keep hb) hlt
      obtain rfl : x = y := by rw [hyk] at hxk; simpa using hxk.symm
      clear hxk hyk
      have Hb := Lib.hid hb
      clear hb
      go_wp2_with fail
      go_still_tail 8, (by kernel_rfl)
      change wpList _ _ _ _ _ wr.drew
      go_wp2_with (go_at_call 71; refine (laws_eqDoor x x rfl _).mono ?_; rintro e w1 ⟨rfl, hb1⟩)
      go_roundw
      case rel => exact ⟨k + 1, by omega, by go_num, Hb.out.drew.trans hb1⟩
      case measure => simp [intOf]; omega
    · go_wp2_with fail
      go_ret
      exact ⟨rfl, hb⟩

end Go.Proofs.YtkelmeemblmggaaDoor
/- Contracts of the laws' helpers that write over rows and ask for it again; no condition but what stands at each theorem. -/
namespace Go.Proofs.YtkelmeemblmggaaDoor
set_option linter.unusedSimpArgs false
set_option linter.unusedVariables false
open Go.RowKit
def markB (k : Int) : Bool := k % 3 == 0
def markIntL (k : Int) (n : Nat) : List Int := (List.range n).map fun (i : Nat) => k + ↑i
theorem markIntL_len (k : Int) (n : Nat) : (markIntL k n).length = n := by simp [markIntL]
theorem markIntL_snoc (k : Int) (i : Nat) : markIntL k (i + 1) = markIntL k i ++ [k + ↑i] := by simp [markIntL, List.range_succ]
theorem markIntL_at (k : Int) (n : Nat) {i : Nat} (h : i < n) : (markIntL k n)[i]? = some (k + ↑i) := by simp [markIntL, h]
set_option maxRecDepth 100000 in
set_option maxHeartbeats 1000000 in
theorem laws_markIntS (A : Option Addr) (n c : Nat) (k : Int) (base : Nat) (L : List Value) (w : World) (ho : w.ownsRow base 3 1 (.slice A n c) n L) (hn : n ≤ 1048576) (hk0 : 0 ≤ k) (hk1 : k ≤ 1099511627776) :
    Calls Tryd.prog 32 #[.slice A n c, .int .i64 k] w fun e w' => e = .returned (.int .i64 (k + ↑n * 1)) ∧ w'.ownsRow base 3 1 (.slice A n c) n ((markIntL k n).flatMap ienc) ∧ w.grownBy w' (Value.slice A n c).ownBlock := by
  rcases own_block ho with ⟨rfl, rfl, rfl⟩ | ⟨g, cur0, rfl, hbg, hb0, hnc, hcm, hcs, ht⟩
  · go_enter Tryd.func32, Tryd.ntmps32
    go_wp2_with fail
    refine wp_loop_rounds 1 ?_
    rw [rounds_succ]
    go_wp2
    go_ret
    exact ⟨ret_int (by simp), World.ownsRow_nil _ _ _ _, grown_refl _ _⟩
  · go_enter Tryd.func32, Tryd.ntmps32
    go_wp2_with fail
    go_loopw [1, 5] (fun kv iv wr => ∃ (i : Nat) (cur : Array Value), i ≤ n ∧ iv = .int .i64 i ∧ kv = .int .i64 (k + ↑i * 1) ∧ cur.size = c * 1 ∧ Hid (cur.toList.take (i * 1) = (markIntL k i).flatMap ienc) ∧ Blk wr g 3 cur ∧ w.grownBy wr (some g)) (fun _ iv _ => n - (intOf iv).toNat)
    case atStart => exact ⟨0, cur0, Nat.zero_le _, rfl, by simp, hcs, by unfold Hid; simp [markIntL], hb0, grown_refl _ _⟩
    case round =>
      obtain ⟨i, cur, hi, rfl, rfl, hcz, hz, hblk, hg⟩ := hrel
      by_cases hlt : i < n
      · have hcm' := Nat.mul_le_mul_right 1 hnc
        have c0 := hblk.cellAt (i := i) (by omega)
        have f0 := hblk.free (i)
        have HBk := Lib.hid hblk
        have HG := Lib.hid hg
        clear hblk hg
        go_wp2_with fail
        go_roundw
        case rel =>
          refine ⟨i + 1, setRow cur (i * 1) [.int .i64 (k + ↑i)], by omega, by go_num, mark_num (by push_cast; omega), by rw [setRow_size]; exact hcz, ?_, ?_, ?_⟩
          · unfold Hid
            rw [markIntL_snoc, List.flatMap_append]
            exact setRow_take (m := 1) rfl (by rw [hcz]; omega) hz.out
          · rw [Nat.mul_one]; exact Blk.sets [.int .i64 (k + ↑i)] i HBk.out
          · exact grown_sets [.int .i64 (k + ↑i)] i HG.out
        case measure => simp [intOf]; omega
      · obtain rfl : i = n := by omega
        go_wp2_with fail
        go_ret
        refine ⟨ret_int (by first | rfl | omega), ⟨by rw [flat_len ienc 1 ienc_len, markIntL_len], .inr ⟨g, c, cur, rfl, hbg, hblk, hnc, hcm, hcz, hz.out⟩⟩, hg⟩
def markShiftL (k : Int) (n : Nat) : List GShift := (List.range n).map fun (i : Nat) => ⟨k + ↑i * 3, k + ↑i * 3 + 1, k + ↑i * 3 + 1 + 1⟩
theorem markShiftL_len (k : Int) (n : Nat) : (markShiftL k n).length = n := by simp [markShiftL]
theorem markShiftL_snoc (k : Int) (i : Nat) : markShiftL k (i + 1) = markShiftL k i ++ [⟨k + ↑i * 3, k + ↑i * 3 + 1, k + ↑i * 3 + 1 + 1⟩] := by simp [markShiftL, List.range_succ]
theorem markShiftL_at (k : Int) (n : Nat) {i : Nat} (h : i < n) : (markShiftL k n)[i]? = some (⟨k + ↑i * 3, k + ↑i * 3 + 1, k + ↑i * 3 + 1 + 1⟩) := by simp [markShiftL, h]
def markLoanL (k : Int) (n : Nat) : List GLoan := (List.range n).map fun (i : Nat) => ⟨k + ↑i * 4, k + ↑i * 4 + 1, k + ↑i * 4 + 1 + 1, k + ↑i * 4 + 1 + 1 + 1⟩
theorem markLoanL_len (k : Int) (n : Nat) : (markLoanL k n).length = n := by simp [markLoanL]
theorem markLoanL_snoc (k : Int) (i : Nat) : markLoanL k (i + 1) = markLoanL k i ++ [⟨k + ↑i * 4, k + ↑i * 4 + 1, k + ↑i * 4 + 1 + 1, k + ↑i * 4 + 1 + 1 + 1⟩] := by simp [markLoanL, List.range_succ]
theorem markLoanL_at (k : Int) (n : Nat) {i : Nat} (h : i < n) : (markLoanL k n)[i]? = some (⟨k + ↑i * 4, k + ↑i * 4 + 1, k + ↑i * 4 + 1 + 1, k + ↑i * 4 + 1 + 1 + 1⟩) := by simp [markLoanL, h]
def markClimateL (k : Int) (n : Nat) : List GClimate := (List.range n).map fun (i : Nat) => ⟨k + ↑i * 3, k + ↑i * 3 + 1, k + ↑i * 3 + 1 + 1⟩
theorem markClimateL_len (k : Int) (n : Nat) : (markClimateL k n).length = n := by simp [markClimateL]
theorem markClimateL_snoc (k : Int) (i : Nat) : markClimateL k (i + 1) = markClimateL k i ++ [⟨k + ↑i * 3, k + ↑i * 3 + 1, k + ↑i * 3 + 1 + 1⟩] := by simp [markClimateL, List.range_succ]
theorem markClimateL_at (k : Int) (n : Nat) {i : Nat} (h : i < n) : (markClimateL k n)[i]? = some (⟨k + ↑i * 3, k + ↑i * 3 + 1, k + ↑i * 3 + 1 + 1⟩) := by simp [markClimateL, h]
def markCheckL (k : Int) (n : Nat) : List GCheck := (List.range n).map fun (i : Nat) => ⟨k + ↑i * 3, k + ↑i * 3 + 1, markB (k + ↑i * 3 + 1 + 1)⟩
theorem markCheckL_len (k : Int) (n : Nat) : (markCheckL k n).length = n := by simp [markCheckL]
theorem markCheckL_snoc (k : Int) (i : Nat) : markCheckL k (i + 1) = markCheckL k i ++ [⟨k + ↑i * 3, k + ↑i * 3 + 1, markB (k + ↑i * 3 + 1 + 1)⟩] := by simp [markCheckL, List.range_succ]
theorem markCheckL_at (k : Int) (n : Nat) {i : Nat} (h : i < n) : (markCheckL k n)[i]? = some (⟨k + ↑i * 3, k + ↑i * 3 + 1, markB (k + ↑i * 3 + 1 + 1)⟩) := by simp [markCheckL, h]
def markStayL (k : Int) (n : Nat) : List GStay := (List.range n).map fun (i : Nat) => ⟨k + ↑i * 4, k + ↑i * 4 + 1, k + ↑i * 4 + 1 + 1, k + ↑i * 4 + 1 + 1 + 1⟩
theorem markStayL_len (k : Int) (n : Nat) : (markStayL k n).length = n := by simp [markStayL]
theorem markStayL_snoc (k : Int) (i : Nat) : markStayL k (i + 1) = markStayL k i ++ [⟨k + ↑i * 4, k + ↑i * 4 + 1, k + ↑i * 4 + 1 + 1, k + ↑i * 4 + 1 + 1 + 1⟩] := by simp [markStayL, List.range_succ]
theorem markStayL_at (k : Int) (n : Nat) {i : Nat} (h : i < n) : (markStayL k n)[i]? = some (⟨k + ↑i * 4, k + ↑i * 4 + 1, k + ↑i * 4 + 1 + 1, k + ↑i * 4 + 1 + 1 + 1⟩) := by simp [markStayL, h]
def markDoorL (k : Int) (n : Nat) : List GDoor := (List.range n).map fun (i : Nat) => ⟨k + ↑i * 2, k + ↑i * 2 + 1⟩
theorem markDoorL_len (k : Int) (n : Nat) : (markDoorL k n).length = n := by simp [markDoorL]
theorem markDoorL_snoc (k : Int) (i : Nat) : markDoorL k (i + 1) = markDoorL k i ++ [⟨k + ↑i * 2, k + ↑i * 2 + 1⟩] := by simp [markDoorL, List.range_succ]
theorem markDoorL_at (k : Int) (n : Nat) {i : Nat} (h : i < n) : (markDoorL k n)[i]? = some (⟨k + ↑i * 2, k + ↑i * 2 + 1⟩) := by simp [markDoorL, h]
set_option maxRecDepth 100000 in
set_option maxHeartbeats 1000000 in
theorem laws_markDoorS (A : Option Addr) (n c : Nat) (k : Int) (base : Nat) (L : List Value) (w : World) (ho : w.ownsRow base 95 2 (.slice A n c) n L) (hn : n ≤ 1048576) (hk0 : 0 ≤ k) (hk1 : k ≤ 1099511627776) :
    Calls Tryd.prog 55 #[.slice A n c, .int .i64 k] w fun e w' => e = .returned (.int .i64 (k + ↑n * 2)) ∧ w'.ownsRow base 95 2 (.slice A n c) n ((markDoorL k n).flatMap GDoor.enc) ∧ w.grownBy w' (Value.slice A n c).ownBlock := by
  rcases own_block ho with ⟨rfl, rfl, rfl⟩ | ⟨g, cur0, rfl, hbg, hb0, hnc, hcm, hcs, ht⟩
  · go_enter Tryd.func55, Tryd.ntmps55
    go_wp2_with fail
    refine wp_loop_rounds 1 ?_
    rw [rounds_succ]
    go_wp2
    go_ret
    exact ⟨ret_int (by simp), World.ownsRow_nil _ _ _ _, grown_refl _ _⟩
  · go_enter Tryd.func55, Tryd.ntmps55
    go_wp2_with fail
    go_loopw [1, 5] (fun kv iv wr => ∃ (i : Nat) (cur : Array Value), i ≤ n ∧ iv = .int .i64 i ∧ kv = .int .i64 (k + ↑i * 2) ∧ cur.size = c * 2 ∧ Hid (cur.toList.take (i * 2) = (markDoorL k i).flatMap GDoor.enc) ∧ Blk wr g 95 cur ∧ w.grownBy wr (some g)) (fun _ iv _ => n - (intOf iv).toNat)
    case atStart => exact ⟨0, cur0, Nat.zero_le _, rfl, by simp, hcs, by unfold Hid; simp [markDoorL], hb0, grown_refl _ _⟩
    case round =>
      obtain ⟨i, cur, hi, rfl, rfl, hcz, hz, hblk, hg⟩ := hrel
      by_cases hlt : i < n
      · have hcm' := Nat.mul_le_mul_right 2 hnc
        have c0 := hblk.cellAt (i := i * 2) (by omega)
        have f0 := hblk.free (i * 2)
        have c1 := hblk.cellAt (i := i * 2 + 1) (by omega)
        have f1 := hblk.free (i * 2 + 1)
        have HBk := Lib.hid hblk
        have HG := Lib.hid hg
        clear hblk hg
        go_wp2_with fail
        go_roundw
        case rel =>
          refine ⟨i + 1, setRow cur (i * 2) [.int .i64 (k + ↑i * 2), .int .i64 (k + ↑i * 2 + 1)], by omega, by go_num, mark_num (by push_cast; omega), by rw [setRow_size]; exact hcz, ?_, ?_, ?_⟩
          · unfold Hid
            rw [markDoorL_snoc, List.flatMap_append]
            exact setRow_take (m := 2) rfl (by rw [hcz]; omega) hz.out
          · exact Blk.sets [.int .i64 (k + ↑i * 2), .int .i64 (k + ↑i * 2 + 1)] (i * 2) HBk.out
          · exact grown_sets [.int .i64 (k + ↑i * 2), .int .i64 (k + ↑i * 2 + 1)] (i * 2) HG.out
        case measure => simp [intOf]; omega
      · obtain rfl : i = n := by omega
        go_wp2_with fail
        go_ret
        refine ⟨ret_int (by first | rfl | omega), ⟨by rw [flat_len GDoor.enc 2 GDoor.len, markDoorL_len], .inr ⟨g, c, cur, rfl, hbg, hblk, hnc, hcm, hcz, hz.out⟩⟩, hg⟩
def markMoveL (k : Int) (n : Nat) : List GMove := (List.range n).map fun (i : Nat) => ⟨k + ↑i * 4, k + ↑i * 4 + 1, k + ↑i * 4 + 1 + 1, k + ↑i * 4 + 1 + 1 + 1⟩
theorem markMoveL_len (k : Int) (n : Nat) : (markMoveL k n).length = n := by simp [markMoveL]
theorem markMoveL_snoc (k : Int) (i : Nat) : markMoveL k (i + 1) = markMoveL k i ++ [⟨k + ↑i * 4, k + ↑i * 4 + 1, k + ↑i * 4 + 1 + 1, k + ↑i * 4 + 1 + 1 + 1⟩] := by simp [markMoveL, List.range_succ]
theorem markMoveL_at (k : Int) (n : Nat) {i : Nat} (h : i < n) : (markMoveL k n)[i]? = some (⟨k + ↑i * 4, k + ↑i * 4 + 1, k + ↑i * 4 + 1 + 1, k + ↑i * 4 + 1 + 1 + 1⟩) := by simp [markMoveL, h]
def markActL (k : Int) (n : Nat) : List GAct := (List.range n).map fun (i : Nat) => ⟨k + ↑i * 5, k + ↑i * 5 + 1, k + ↑i * 5 + 1 + 1, k + ↑i * 5 + 1 + 1 + 1, k + ↑i * 5 + 1 + 1 + 1 + 1⟩
theorem markActL_len (k : Int) (n : Nat) : (markActL k n).length = n := by simp [markActL]
theorem markActL_snoc (k : Int) (i : Nat) : markActL k (i + 1) = markActL k i ++ [⟨k + ↑i * 5, k + ↑i * 5 + 1, k + ↑i * 5 + 1 + 1, k + ↑i * 5 + 1 + 1 + 1, k + ↑i * 5 + 1 + 1 + 1 + 1⟩] := by simp [markActL, List.range_succ]
theorem markActL_at (k : Int) (n : Nat) {i : Nat} (h : i < n) : (markActL k n)[i]? = some (⟨k + ↑i * 5, k + ↑i * 5 + 1, k + ↑i * 5 + 1 + 1, k + ↑i * 5 + 1 + 1 + 1, k + ↑i * 5 + 1 + 1 + 1 + 1⟩) := by simp [markActL, h]
end Go.Proofs.YtkelmeemblmggaaDoor
/- A queue of ints: a row of the call's own that is appended to and cut at its head, beside another row that it must not touch; no condition but what stands at each theorem. -/
namespace Go.Proofs.YtkelmeemblmggaaDoor
set_option linter.unusedSimpArgs false
set_option linter.unusedVariables false
open Go.RowKit
def QRow (w : World) (base : Nat) (av : List Nat) (t : TypeId) (v : Value) (L : List Int) : Prop :=
  ∃ g off cap, ∃ cur : Array Value, v = .slice (some ⟨g, off, none⟩) L.length cap ∧ base ≤ g ∧ (∀ x ∈ av, g ≠ x) ∧ Blk w g t cur ∧ off + cap ≤ cur.size ∧ L.length ≤ cap ∧ ∀ j, j < L.length → cur[off + j]? = some (.int .i64 (L.getD j 0))
section
variable {w w' : World} {base : Nat} {av : List Nat} {t : TypeId} {v : Value} {L : List Int}
theorem QRow.keep (h : QRow w base av t v L) (e : Ext w w') : QRow w' base av t v L := by
  obtain ⟨g, off, cap, cur, h1, h2, h3, h4, h5⟩ := h
  exact ⟨g, off, cap, cur, h1, h2, h3, h4.keep e, h5⟩
theorem QRow.far (h : QRow w base av t v L) {gF : Nat} (hF : gF ∈ av) (k : Nat) (x : Value) : QRow (w.setCell ⟨gF, k, none⟩ x) base av t v L := by
  obtain ⟨g, off, cap, cur, h1, h2, h3, h4, h5⟩ := h
  exact ⟨g, off, cap, cur, h1, h2, h3, h4.far (h3 gF hF) x, h5⟩
/-- Its form, and its cells. -/
theorem QRow.form (h : QRow w base av t v L) : ∃ g off cap, v = .slice (some ⟨g, off, none⟩) L.length cap ∧ base ≤ g ∧ (∀ x ∈ av, g ≠ x) ∧ g < w.heap.size ∧ ∀ j, j < L.length → w.cell? ⟨g, off + j, none⟩ = some (.int .i64 (L.getD j 0)) := by
  obtain ⟨g, off, cap, cur, h1, h2, h3, h4, h5, h6, h7⟩ := h
  exact ⟨g, off, cap, h1, h2, h3, h4.lt, fun j hj => by rw [h4.cell]; exact h7 j hj⟩
theorem QRow.other (h : QRow w base av t v L) {av' : List Nat} (ha : ∀ x ∈ av', x ∈ av ∨ w.heap.size ≤ x) : QRow w base av' t v L := by
  obtain ⟨g, off, cap, cur, h1, h2, h3, h4, h5⟩ := h
  refine ⟨g, off, cap, cur, h1, h2, fun x hx => ?_, h4, h5⟩
  rcases ha x hx with h | h
  · exact h3 x h
  · have := h4.lt; omega
theorem QRow.tail {P : Program} {t' : TypeId} {x : Int} (hu : P.underlying t' = some (.slice t)) (hs : ∀ w : World, (sizeOf t).run P w = .ok 1 w) (h : QRow w base av t v (x :: L)) :
    ∃ v', (∀ w1 : World, (Instr.slice t' v (some (.int .i64 1)) none none).run P w1 = .ok v' w1) ∧ QRow w base av t v' L := by
  obtain ⟨g, off, cap, cur, rfl, h2, h3, h4, h5, h6, h7⟩ := h
  have h6' : L.length + 1 ≤ cap := by simpa using h6
  have hb : ∀ (w1 : World) (code : BoundsCode), (Instr.sliceBound (.int .i64 1) (L.length + 1) code).run P w1 = .ok 1 w1 := by
    intro w1 code
    rw [run_sliceBound w1 .i64 1 (L.length + 1) code (by omega) (by omega)]
    rfl
  refine ⟨.slice (if cap = 1 then some ⟨g, off, none⟩ else some ⟨g, off + 1, none⟩) L.length (cap - 1), fun w1 => ?_, ?_⟩
  · simp only [Instr.slice, Sem.run_bind, run_underlying hu, Result.andThen, Instr.sliceBounds, List.length_cons, hb, hs, Sem.run_pure]
    by_cases hc : cap = 1
    · simp [hc]
    · simp [hc, add_none]
  · by_cases hc : cap = 1
    · rw [if_pos hc]
      refine ⟨g, off, cap - 1, cur, rfl, h2, h3, h4, by omega, by omega, fun j hj => ?_⟩
      omega
    · rw [if_neg hc]
      refine ⟨g, off + 1, cap - 1, cur, rfl, h2, h3, h4, by omega, by omega, fun j hj => ?_⟩
      have := h7 (j + 1) (by simp; omega)
      rw [show off + 1 + j = off + (j + 1) by omega, this]
      simp
end
theorem QRow.append {P : Program} {ops : Array Oper} {rest : List Oper} {o : Oper} {a : Act} {Q : Exit → Act → World → Prop} {st t : TypeId} (hE : EI P st t 1) (hgd : o.guard = none) (s x : Operand)
    (ho : o.op = .call { callee := .builtin .append, args := #[s, x], argTypes := #[st, st] }) (base : Nat) (av : List Nat) (W : World) (T : TypeId) (v : Value) (L : List Int) (hs : a.eval s = v) (hq : QRow W base av t v L) (z : Int)
    (hx : a.eval x = .slice (some ⟨W.heap.size, 0, none⟩) 1 1) (hn : L.length ≤ 1073741824) (hbase : base ≤ W.heap.size) (hgF : ∀ x ∈ av, x < W.heap.size)
    (h : ∀ v' w1, QRow w1 base av t v' (L ++ [z]) → (∀ b, Ext b W → b.heap.size ≤ base → Ext b w1) → (∀ x ∈ av, ∀ tt cs, Blk W x tt cs → Blk w1 x tt cs) → wpList P ops Q rest (a.put o.dst v') w1) : wpList P ops Q (o :: rest) a (W.alloc (.cells #[.int .i64 z] T)) := by
  obtain ⟨i, zz, hu, hi, hz, hsz, hby, hzs, h0⟩ := hE
  obtain ⟨g, off, cap, cur, rfl, h2, h3, h4, h5, h6, h7⟩ := hq
  have hgW := h4.lt
  have h4a := h4.keep ((Ext.refl W).alloc (.cells #[.int .i64 z] T))
  refine wpList_append_arg _ hgd s x st ho t i zz 1 i.bytes hu hi hz hsz rfl hzs h0 g off L.length cap (L.map (Value.int .i64)) hs (by simp) ?_ ⟨W.heap.size, 0, none⟩ 1 1 [.int .i64 z] hx (by simp) ?_ ?_ ?_ (by unfold maxLen; omega) ?_ ?_ ?_
  · intro j u hu'
    have hj : j < L.length := by have := (List.getElem?_eq_some_iff.1 hu').1; simpa using this
    rw [h4a.cell, h7 j hj, ← hu']
    simp [hj]
  · intro j u hu'
    rw [add_none, Nat.zero_add, World.cell?_alloc_new]
    simpa using hu'
  · intro u hu'; simp at hu'; subst hu'; rfl
  · intro hr j hj
    simp at hj
    subst hj
    rw [h4a.cell]
    refine ⟨?_, h4a.free _⟩
    have : off + L.length * 1 + 0 < cur.size := by omega
    rw [Array.getElem?_eq_getElem this]; rfl
  · have := Nat.mul_le_mul_left (L.length + 1) hby
    omega
  · intro hr
    refine h _ _ ?_ ?_ ?_
    · refine ⟨g, off, cap, cur.setIfInBounds (off + L.length * 1) (.int .i64 z), by simp, h2, h3, h4a.set _ _, by simpa using h5, by simpa using hr, fun j hj => ?_⟩
      simp only [List.length_append, List.length_cons, List.length_nil] at hj
      by_cases hjl : j = L.length
      · subst hjl
        have : off + L.length < cur.size := by omega
        simp [this]
      · rw [Array.getElem?_setIfInBounds, if_neg (by omega), h7 j (by omega)]
        simp [List.getElem?_append_left (show j < L.length by omega)]
    · intro b hb hbb
      exact (hb.alloc _).setCell (p := ⟨g, _, none⟩) (by simp only; omega) _
    · intro gF hgFm tt cs hc
      exact (hc.keep ((Ext.refl W).alloc _)).far (p := ⟨g, _, none⟩) (Ne.symm (h3 gF hgFm)) _
  · intro _ v' w' ho' hg
    obtain ⟨A', c', rfl, hnc⟩ := own_form ho'
    rcases own_block ho' with ⟨_, hl0, _⟩ | ⟨g', cur', rfl, hb', hB', hnc', _, hcs', ht'⟩
    · omega
    · have hs' : W.heap.size + 1 ≤ g' := by simpa using hb'
      refine h _ _ ?_ ?_ ?_
      · refine ⟨g', 0, c', cur', by simp, by omega, fun x hx => (by have := hgF x hx; omega), hB', by omega, by simpa using hnc', fun j hj => ?_⟩
        have h8 : (cur'.toList.take ((L.length + 1) * 1))[j]? = (L.map (Value.int .i64) ++ [.int .i64 z])[j]? := by rw [ht']
        simp only [List.length_append, List.length_cons, List.length_nil] at hj
        rw [List.getElem?_take, if_pos (by omega)] at h8
        rw [Nat.zero_add, ← Array.getElem?_toList, h8]
        have e : L.map (Value.int .i64) ++ [.int .i64 z] = (L ++ [z]).map (Value.int .i64) := by simp
        have hj2 : j < (L ++ [z]).length := by simp; omega
        rw [e, List.getElem?_map, List.getElem?_eq_getElem hj2, List.getD_eq_getElem?_getD, List.getElem?_eq_getElem hj2]
        rfl
      · intro b hb hbb
        exact (hb.alloc _).grown hg (fun k hk => by cases hk)
      · intro gF hgFm tt cs hc
        have hgF' := hgF gF hgFm
        have := hc.keep ((Ext.refl W).alloc (.cells #[.int .i64 z] T))
        unfold Blk at this ⊢
        rw [hg.block gF (by simp; omega) (by simp)]
        exact this
/-- A literal of one element. -/
theorem QRow.one (W : World) (base : Nat) (av : List Nat) (t : TypeId) (z : Int) (hb : base ≤ W.heap.size) (hg : ∀ x ∈ av, x < W.heap.size) : QRow (W.alloc (.cells #[.int .i64 z] t)) base av t (.slice (some ⟨W.heap.size, 0, none⟩) 1 1) [z] :=
  ⟨W.heap.size, 0, 1, #[.int .i64 z], rfl, hb, fun x hx => (by have := hg x hx; omega), Blk.new _ _ _, by simp, by simp, fun j hj => by simp at hj; subst hj; rfl⟩
theorem hsz_alloc (w : World) (o : Obj) : (w.alloc o).heap.size = w.heap.size + 1 := by simp
/-- A struct of two cells in a box. -/
theorem box2 (w : World) (v1 v2 : Value) (t : TypeId) (wb : World) (hwb : wb = w.alloc (.cells #[v1, v2] t)) :
    Ext w wb ∧ wb.heap.size = w.heap.size + 1 ∧ wb.cell? ⟨w.heap.size, 0, none⟩ = some v1 ∧ wb.cell? ⟨w.heap.size, 1, none⟩ = some v2 := by
  subst hwb
  exact ⟨(Ext.refl w).alloc _, by simp, by rw [World.cell?_alloc_new]; rfl, by rw [World.cell?_alloc_new]; rfl⟩
end Go.Proofs.YtkelmeemblmggaaDoor
/- Contracts of the laws' helpers on houses; no condition but what stands at each theorem. -/
namespace Go.Proofs.YtkelmeemblmggaaDoor
set_option linter.unusedSimpArgs false
set_option linter.unusedVariables false
open Go.RowKit
theorem laws_szHouse (H : Int) (A : Option Addr) (n c : Nat) (left : Int) (w : World) (hl : 0 ≤ left) (hl2 : left ≤ 1048576) (hn : n ≤ 9223372036854775807) :
    Calls Tryd.prog 17 #[.agg #[.int .i64 H, .slice A n c], .int .i64 left] w fun e w' => e = .returned (.int .i64 (if left < n then -1 else left - n)) ∧ Ext w w' := by
  by_cases h : left < n
  · go_enter Tryd.func17, Tryd.ntmps17
    go_wp2_with (go_at_call 39; refine (laws_szDoorS A n c left _ hl hl2 hn).mono ?_; rintro e w1 ⟨he, rfl⟩; rw [if_pos h] at he; subst he)
    go_ret
    exact ⟨by first | rfl | (rw [if_pos h]), (Ext.refl _).alloc _⟩
  · go_enter Tryd.func17, Tryd.ntmps17
    go_wp2_with (go_at_call 39; refine (laws_szDoorS A n c left _ hl hl2 hn).mono ?_; rintro e w1 ⟨he, rfl⟩; rw [if_neg h] at he; subst he)
    go_ret
    exact ⟨by first | rfl | (rw [if_neg h]) | (simp [show ¬ left < (n : Int) by omega]), (Ext.refl _).alloc _⟩
set_option maxRecDepth 100000 in
set_option maxHeartbeats 1000000 in
theorem laws_toHouse (H : Int) (A : Option Addr) (n c : Nat) (ds : List GDoor) (w : World) (hx : Rd w 2 A n (ds.flatMap GDoor.enc)) (hn : n ≤ 1048576) :
    Calls Tryd.prog 23 #[.agg #[.int .i64 H, .slice A n c]] w fun e w' => ∃ g : Nat, e = .returned (.agg #[.int .i64 H, .slice (some ⟨g, 0, none⟩) n n]) ∧ Ext w w' ∧ w'.ownsRow w.heap.size 95 2 (.slice (some ⟨g, 0, none⟩) n n) n (ds.flatMap GDoor.enc) := by
  have HX := Lib.hid hx
  clear hx
  go_enter Tryd.func23, Tryd.ntmps23
  go_wp2_with fail
  refine (laws_toDoorS A n c ds _ (HX.out.keep ((((Ext.refl w).alloc _).alloc _).alloc _)) hn).mono ?_
  rintro e w1 ⟨g, rfl, he1, ho1⟩
  have k1 := he1.cellAt (w.heap.size + 1) (by simp)
  have f1 := he1.frozenAt (w.heap.size + 1) (by simp)
  have k2 := he1.cellAt (w.heap.size + 1 + 1) (by simp)
  have f2 := he1.frozenAt (w.heap.size + 1 + 1) (by simp)
  have hs1 := he1.size
  simp at hs1
  have m1 : w1.heap.size ≠ w.heap.size + 1 := by omega
  have m2 : w1.heap.size ≠ w.heap.size + 1 + 1 := by omega
  have n1 : w.heap.size + 1 ≠ w.heap.size + 1 + 1 := by omega
  have n2 : w.heap.size + 1 + 1 ≠ w.heap.size + 1 := by omega
  have l1 : w.heap.size + 1 < w1.heap.size := by omega
  have l2 : w.heap.size + 1 + 1 < w1.heap.size := by omega
  have HO1 := Lib.hid (own_weak (base' := w.heap.size + 1 + 1 + 1) ho1 (by simp))
  have HE1 : Hid (Ext w w1) := (((((Ext.refl w).alloc _).alloc _).alloc _).trans he1)
  clear ho1 he1
  go_wp2_with fail
  refine bodyPost_ret (v := .agg #[.int .i64 H, .slice (some ⟨g, 0, none⟩) n n]) (by simp [results, Tryd.results23, go_sem, *]) rfl ⟨g, rfl, ?_, ?_⟩
  · have he := HE1.out
    (repeat (first | exact Ext.refl _ | assumption | refine Ext.alloc ?_ _ | refine Ext.drew ?_ | refine Ext.drewN ?_ _ | refine Ext.setCell ?_ (by first | (simp; done) | (simp; omega)) _ | refine Ext.trans ?_ (by assumption)))
  · exact own_weak (own_far (own_far (own_far HO1.out (by omega) _) (by omega) _) (by omega) _) (by omega)
set_option maxRecDepth 100000 in
set_option maxHeartbeats 1000000 in
theorem laws_eqHouse (H : Int) (A : Option Addr) (n c : Nat) (A' : Option Addr) (n' c' : Nat) (ds : List GDoor) (w : World) (hx : Rd w 2 A n (ds.flatMap GDoor.enc)) (hy : Rd w 2 A' n' (ds.flatMap GDoor.enc)) :
    Calls Tryd.prog 28 #[.agg #[.int .i64 H, .slice A n c], .agg #[.int .i64 H, .slice A' n' c']] w fun e w' => e = .returned (.bool true) ∧ Ext w w' := by
  have HX := Lib.hid hx
  have HY := Lib.hid hy
  clear hx hy
  obtain ⟨wb, hwb⟩ : ∃ wb, wb = (w.alloc (.cells #[.int .i64 H, .slice A n c] 34)).alloc (.cells #[.int .i64 H, .slice A' n' c'] 34) := ⟨_, rfl⟩
  have HE : Hid (Ext w wb) := by unfold Hid; rw [hwb]; exact ((Ext.refl w).alloc _).alloc _
  have HC := Lib.hid (laws_eqDoorS A A' n c n' c' ds wb (HX.out.keep HE.out) (HY.out.keep HE.out))
  have Hwb := Lib.hid hwb
  clear hwb
  go_enter Tryd.func28, Tryd.ntmps28
  go_wp2_with fail
  rw [← Hwb.out]
  refine HC.out.mono ?_
  rintro e w1 ⟨rfl, he1⟩
  go_wp2_with fail
  go_ret
  exact ⟨rfl, HE.out.trans he1⟩
theorem laws_markHouse (H : Int) (A : Option Addr) (n c : Nat) (k : Int) (base : Nat) (L : List Value) (w : World) (ho : w.ownsRow base 95 2 (.slice A n c) n L) (hn : n ≤ 1048576) (hk0 : 0 ≤ k) (hk1 : k ≤ 1099511627776) :
    Calls Tryd.prog 31 #[.agg #[.int .i64 H, .slice A n c], .int .i64 k] w fun e w' => e = .returned (.int .i64 (k + ↑n * 2)) ∧ w'.ownsRow base 95 2 (.slice A n c) n ((markDoorL k n).flatMap GDoor.enc) ∧ w.grownBy w' (Value.slice A n c).ownBlock := by
  have HC := Lib.hid (laws_markDoorS A n c k base L _ (own_keep ho ((Ext.refl w).alloc (.cells #[.int .i64 H, .slice A n c] 34))) hn hk0 hk1)
  have HG : Hid (w.grownBy (w.alloc (.cells #[.int .i64 H, .slice A n c] 34)) (Value.slice A n c).ownBlock) := ⟨rfl, rfl, rfl, by simp, fun k hk _ => heap_alloc_old w _ hk⟩
  clear ho
  go_enter Tryd.func31, Tryd.ntmps31
  go_wp2_with fail
  refine HC.out.mono ?_
  rintro e w1 ⟨rfl, ho1, hg1⟩
  have HO1 := Lib.hid ho1
  have HG1 := Lib.hid hg1
  clear ho1 hg1
  go_wp2_with fail
  go_ret
  exact ⟨rfl, HO1.out, grown_trans HG.out HG1.out⟩
end Go.Proofs.YtkelmeemblmggaaDoor
/- Entries of a record and museums as Lean structures, and how their cells stand; no condition but what stands at each theorem. -/
namespace Go.Proofs.YtkelmeemblmggaaDoor
set_option linter.unusedSimpArgs false
set_option linter.unusedVariables false
open Go.RowKit Go.ChangeShapes Go.WideShapes Go.Deep Go.Sort
/-- An entry; its text is no longer than a string can be. -/
structure GEntry where
  m : Int
  x : ByteArray
  s : Int
  h : x.size ≤ 9223372036854775807
def GEntry.enc (e : GEntry) : List Value := [.int .i64 e.m, .string e.x, .int .i64 e.s]
theorem GEntry.len (e : GEntry) : e.enc.length = 3 := rfl
theorem GEntry.at_ {w : World} {A : Option Addr} {n k : Nat} {xs : List GEntry} (h : Rd w 3 A n (xs.flatMap GEntry.enc)) (hk : k < n) :
    ∃ (b off : Nat) (x : GEntry), A = some ⟨b, off, none⟩ ∧ b < w.heap.size ∧ xs[k]? = some x ∧ w.cell? ⟨b, off + k * 3, none⟩ = some (.int .i64 x.m) ∧ w.cell? ⟨b, off + k * 3 + 1, none⟩ = some (.string x.x) ∧ w.cell? ⟨b, off + k * 3 + 2, none⟩ = some (.int .i64 x.s) :=
  Rd.at3 (p := fun (s : GEntry) => .int .i64 s.m) (q := fun s => .string s.x) (r := fun s => .int .i64 s.s) (fun _ => rfl) h hk
structure GMuseum where
  H : Int
  ds : List GDoor
  fs : List Int
  ps : List Int
  gs : List Int
  d : Int
  rs : List GEntry
/-- A slice's three parts. -/
structure SL where
  A : Option Addr
  n : Nat
  c : Nat
/-- A museum's value: its numbers and the places of its five rows. -/
structure MV where
  H : Int
  sd : SL
  sf : SL
  sp : SL
  sg : SL
  d : Int
  sr : SL
def MV.cells (v : MV) : Array Value := #[.int .i64 v.H, .slice v.sd.A v.sd.n v.sd.c, .slice v.sf.A v.sf.n v.sf.c, .slice v.sp.A v.sp.n v.sp.c, .slice v.sg.A v.sg.n v.sg.c, .int .i64 v.d, .slice v.sr.A v.sr.n v.sr.c]
def MV.val (v : MV) : Value := .agg v.cells
/-- The value v reads as the museum m. -/
structure MRd (w : World) (v : MV) (m : GMuseum) : Prop where
  eH : v.H = m.H
  ed : v.d = m.d
  rd : Rd w 2 v.sd.A v.sd.n (m.ds.flatMap GDoor.enc)
  rf : Rd w 1 v.sf.A v.sf.n (m.fs.flatMap ienc)
  rp : Rd w 1 v.sp.A v.sp.n (m.ps.flatMap ienc)
  rg : Rd w 1 v.sg.A v.sg.n (m.gs.flatMap ienc)
  rr : Rd w 3 v.sr.A v.sr.n (m.rs.flatMap GEntry.enc)
theorem MRd.keep {w w' : World} {v : MV} {m : GMuseum} (h : MRd w v m) (e : Ext w w') : MRd w' v m :=
  ⟨h.eH, h.ed, h.rd.keep e, h.rf.keep e, h.rp.keep e, h.rg.keep e, h.rr.keep e⟩
/-- The cells of a museum in a box. -/
structure MBox (w : World) (b : Nat) (v : MV) : Prop where
  lt : b < w.heap.size
  c0 : w.cell? ⟨b, 0, none⟩ = some (.int .i64 v.H)
  c1 : w.cell? ⟨b, 1, none⟩ = some (.slice v.sd.A v.sd.n v.sd.c)
  c2 : w.cell? ⟨b, 2, none⟩ = some (.slice v.sf.A v.sf.n v.sf.c)
  c3 : w.cell? ⟨b, 3, none⟩ = some (.slice v.sp.A v.sp.n v.sp.c)
  c4 : w.cell? ⟨b, 4, none⟩ = some (.slice v.sg.A v.sg.n v.sg.c)
  c5 : w.cell? ⟨b, 5, none⟩ = some (.int .i64 v.d)
  c6 : w.cell? ⟨b, 6, none⟩ = some (.slice v.sr.A v.sr.n v.sr.c)
theorem MBox.keep {w w' : World} {b : Nat} {v : MV} (h : MBox w b v) (e : Ext w w') : MBox w' b v := by
  have k := fun o => e.cellAt b h.lt o
  exact ⟨Nat.lt_of_lt_of_le h.lt e.size, (k 0).trans h.c0, (k 1).trans h.c1, (k 2).trans h.c2, (k 3).trans h.c3, (k 4).trans h.c4, (k 5).trans h.c5, (k 6).trans h.c6⟩
theorem MBox.new {w wb : World} {v : MV} {t : TypeId} (h : wb = w.alloc (.cells v.cells t)) : MBox wb w.heap.size v := by
  subst h
  refine ⟨by simp, ?_, ?_, ?_, ?_, ?_, ?_, ?_⟩ <;> (rw [World.cell?_alloc_new]; rfl)
theorem MBox.regrown {w : World} {b : Nat} {v : MV} (h : MBox w b v) (d : Nat) (os : Array Obj) : MBox (grow (redrawn w d) os) b v := h.keep (ext_rg w d os)
theorem opens_Entry : Opens Tryd.prog 72 GEntry.enc := by
  intro H enc w n cs x h
  obtain ⟨hl, hf⟩ := open_fields Tryd.underlying72 (by kernel_rfl) (by kernel_rfl) h
  obtain ⟨v0, n0, y0, e0, r0⟩ := hf 0 _ rfl
  obtain ⟨z0, rfl, _⟩ := int_of_trod Tryd.underlying3 r0
  obtain ⟨v1, n1, y1, e1, r1⟩ := hf 1 _ rfl
  obtain ⟨z1, rfl, hz1⟩ := string_of_trod Tryd.underlying9 r1
  obtain ⟨v2, n2, y2, e2, r2⟩ := hf 2 _ rfl
  obtain ⟨z2, rfl, _⟩ := int_of_trod Tryd.underlying3 r2
  exact ⟨⟨z0, z1, z2, by unfold maxLen at hz1; omega⟩, by
    apply List.ext_getElem? ; intro i
    have hs : cs.length = 3 := hl
    match i with
    | 0 => rw [e0]; rfl
    | 1 => rw [e1]; rfl
    | 2 => rw [e2]; rfl
    | i + 3 => rw [List.getElem?_eq_none (by omega), List.getElem?_eq_none (by simp [GEntry.enc])]⟩
end Go.Proofs.YtkelmeemblmggaaDoor
/- Contracts of the laws' helpers on entries and museums; no condition but what stands at each theorem. -/
namespace Go.Proofs.YtkelmeemblmggaaDoor
set_option linter.unusedSimpArgs false
set_option linter.unusedVariables false
open Go.RowKit Go.Sort
set_option maxRecDepth 100000 in
set_option maxHeartbeats 400000 in
theorem laws_toEntry (s : GEntry) (w : World) :
    Calls Tryd.prog 47 #[.agg #[.int .i64 s.m, .string s.x, .int .i64 s.s]] w fun e w' => e = .returned (.agg #[.int .i64 s.m, .string s.x, .int .i64 s.s]) ∧ Ext w w' := by
  go_enter Tryd.func47, Tryd.ntmps47
  go_wp2
  refine bodyPost_ret (v := .agg #[.int .i64 s.m, .string s.x, .int .i64 s.s]) (by simp [results, Tryd.results47, go_sem]) rfl ⟨rfl, ?_⟩
  (repeat (first | exact Ext.refl _ | assumption | refine Ext.alloc ?_ _ | refine Ext.drew ?_ | refine Ext.drewN ?_ _ | refine Ext.setCell ?_ (by first | (simp; done) | (simp; omega)) _ | refine Ext.trans ?_ (by assumption)))
set_option maxRecDepth 100000 in
set_option maxHeartbeats 1000000 in
theorem laws_eqEntry (a b : GEntry) (hab : a = b) (w : World) :
    Calls Tryd.prog 54 #[.agg #[.int .i64 a.m, .string a.x, .int .i64 a.s], .agg #[.int .i64 b.m, .string b.x, .int .i64 b.s]] w fun e w' => e = .returned (.bool true) ∧ Ext w w' := by
  subst hab
  go_enter Tryd.func54, Tryd.ntmps54
  go_wp2
  all_goals go_ret
  all_goals refine ⟨rfl, ?_⟩
  all_goals (repeat (first | exact Ext.refl _ | assumption | refine Ext.alloc ?_ _ | refine Ext.drew ?_ | refine Ext.drewN ?_ _ | refine Ext.setCell ?_ (by first | (simp; done) | (simp; omega)) _ | refine Ext.trans ?_ (by assumption)))
theorem info_Entry : (Tryd.prog.info? 51).map (fun i => (i.zero.map (·.cells.size), i.size, decide (i.bytes ≤ 4096))) = some (some 3, 3, true) := by kernel_rfl
set_option maxRecDepth 100000 in
set_option maxHeartbeats 1000000 in
theorem laws_toEntryS (A : Option Addr) (n c : Nat) (xs : List GEntry) (w : World) (hx : Rd w 3 A n (xs.flatMap GEntry.enc)) (hn : n ≤ 1048576) :
    Calls Tryd.prog 25 #[.slice A n c] w fun e w' => ∃ g : Nat, e = .returned (.slice (some ⟨g, 0, none⟩) n n) ∧ Ext w w' ∧ w'.ownsRow w.heap.size 51 3 (.slice (some ⟨g, 0, none⟩) n n) n (xs.flatMap GEntry.enc) := by
  have hl := Lib.hid (hx.len GEntry.len (by omega))
  have hin := info_Entry
  cases hi : Tryd.prog.info? 51 with
  | none => rw [hi] at hin; cases hin
  | some i =>
  rw [hi] at hin
  simp only [Option.map_some, Option.some.injEq, Prod.mk.injEq, decide_eq_true_eq] at hin
  obtain ⟨hz0, hsz, hby⟩ := hin
  cases hz : i.zero with
  | none => rw [hz] at hz0; cases hz0
  | some z =>
  rw [hz] at hz0
  simp only [Option.map_some, Option.some.injEq] at hz0
  have hmk := make_row (P := Tryd.prog) 35 51 i z Tryd.underlying35 hi hz n (by have := Nat.mul_le_mul hby hn; omega) (by omega)
  rw [hsz] at hmk
  obtain ⟨cells, hcells⟩ : ∃ cells, cells = madeCells z.cells (n * 3) := ⟨_, rfl⟩
  rw [← hcells] at hmk
  have hcs : cells.size = n * 3 := by rw [hcells, size_madeCells]
  clear hcells hi hz hsz hby hz0
  go_enter Tryd.func25, Tryd.ntmps25
  go_wp2_with fail
  go_loopw [4] (fun i wr => ∃ (k : Nat) (cur : Array Value), k ≤ n ∧ i = .int .i64 k ∧ cur.size = n * 3 ∧ Hid (cur.toList.take (k * 3) = (xs.take k).flatMap GEntry.enc) ∧ Blk wr w.heap.size 51 cur ∧ Ext w wr) (fun i _ => n - (intOf i).toNat)
  case atStart => exact ⟨0, cells, Nat.zero_le _, rfl, hcs, by unfold Hid; simp, Blk.new _ _ _, (Ext.refl _).alloc _⟩
  case round =>
    obtain ⟨k, cur, hk, rfl, hcz, hz, hblk, hb⟩ := hrel
    clear hmk hcs
    by_cases hlt : k < n
    · obtain ⟨b, off, x, rfl, hbs, hxk, h0, h1, h2⟩ := GEntry.at_ (hx.keep hb) hlt
      have HX := Lib.hid hxk
      have HB := Lib.hid hb
      clear hxk hb
      have c0 := hblk.cellAt (i := k * 3) (by omega)
      have f0 := hblk.free (k * 3)
      have c1 := hblk.cellAt (i := k * 3 + 1) (by omega)
      have f1 := hblk.free (k * 3 + 1)
      have c2 := hblk.cellAt (i := k * 3 + 2) (by omega)
      have f2 := hblk.free (k * 3 + 2)
      have HBk := Lib.hid hblk
      clear hblk
      go_wp2_with (go_at_call 47; refine (laws_toEntry x _).mono ?_; rintro e w1 ⟨rfl, hb1⟩; have hblk1 := HBk.out.keep hb1; have c0 := hblk1.cellAt (i := k * 3) (by omega); have f0 := hblk1.free (k * 3); have c1 := hblk1.cellAt (i := k * 3 + 1) (by omega); have f1 := hblk1.free (k * 3 + 1); have c2 := hblk1.cellAt (i := k * 3 + 2) (by omega); have f2 := hblk1.free (k * 3 + 2); have HB1 := Lib.hid hb1; have HBk1 := Lib.hid hblk1; clear hb1 hblk1)
      go_roundw
      case rel =>
        refine ⟨k + 1, setRow cur (k * 3) [.int .i64 x.m, .string x.x, .int .i64 x.s], by omega, by go_num, by rw [setRow_size]; exact hcz, ?_, ?_, ?_⟩
        · unfold Hid
          rw [take_snoc HX.out, List.flatMap_append]
          exact setRow_take (m := 3) rfl (by rw [hcz]; omega) hz.out
        · exact Blk.sets [.int .i64 x.m, .string x.x, .int .i64 x.s] (k * 3) HBk1.out
        · exact Ext.sets [.int .i64 x.m, .string x.x, .int .i64 x.s] (k * 3) (HB.out.trans HB1.out) (Nat.le_refl _)
      case measure => simp [intOf]; omega
    · obtain rfl : k = n := by omega
      go_wp2_with fail
      go_ret
      have h1 := hz.out
      rw [List.take_of_length_le (l := xs) (by rw [hl.out]; omega)] at h1
      exact ⟨w.heap.size, rfl, hb, own_of_blk (Nat.le_refl _) hblk hcz (by unfold maxLen; omega) h1⟩
set_option maxRecDepth 100000 in
set_option maxHeartbeats 1000000 in
theorem laws_eqEntryS (A A' : Option Addr) (n c n' c' : Nat) (xs : List GEntry) (w : World) (hx : Rd w 3 A n (xs.flatMap GEntry.enc)) (hy : Rd w 3 A' n' (xs.flatMap GEntry.enc)) :
    Calls Tryd.prog 30 #[.slice A n c, .slice A' n' c'] w fun e w' => e = .returned (.bool true) ∧ Ext w w' := by
  have hn := hx.2.1
  obtain rfl : n = n' := by rw [← hx.len GEntry.len (by omega), ← hy.len GEntry.len (by omega)]
  go_enter Tryd.func30, Tryd.ntmps30
  go_wp2_with fail
  go_loopw [5] (fun i wr => ∃ k : Nat, k ≤ n ∧ i = .int .i64 k ∧ Ext w wr) (fun i _ => n - (intOf i).toNat)
  case atStart => exact ⟨0, Nat.zero_le _, rfl, Ext.refl _⟩
  case round =>
    obtain ⟨k, hk, rfl, hb⟩ := hrel
    by_cases hlt : k < n
    · obtain ⟨b, off, x, rfl, hbs, hxk, h0, h1, h2⟩ := GEntry.at_ (hx.keep hb) hlt
      obtain ⟨b', off', y, rfl, hbs', hyk, g0, g1, g2⟩ := GEntry.at_ (hy.keep hb) hlt
      obtain rfl : x = y := by rw [hyk] at hxk; simpa using hxk.symm
      clear hxk hyk
      have Hb := Lib.hid hb
      clear hb
      go_wp2_with fail
      go_still_tail 8, (by kernel_rfl)
      change wpList _ _ _ _ _ wr.drew
      go_wp2_with (go_at_call 54; refine (laws_eqEntry x x rfl _).mono ?_; rintro e w1 ⟨rfl, hb1⟩)
      go_roundw
      case rel => exact ⟨k + 1, by omega, by go_num, Hb.out.drew.trans hb1⟩
      case measure => simp [intOf]; omega
    · go_wp2_with fail
      go_ret
      exact ⟨rfl, hb⟩
def bulkE (xs : List GEntry) : Int := xs.foldr (fun e t => (e.x.size : Int) + t) 0
theorem bulkE_nn : ∀ xs : List GEntry, 0 ≤ bulkE xs
  | [] => by simp [bulkE]
  | e :: r => by have := bulkE_nn r; simp only [bulkE, List.foldr_cons] at *; omega
theorem bulkE_cons (e : GEntry) (r : List GEntry) : bulkE (e :: r) = (e.x.size : Int) + bulkE r := rfl
set_option maxRecDepth 100000 in
set_option maxHeartbeats 400000 in
theorem laws_szEntry (e : GEntry) (left : Int) (w : World) (h0 : 0 ≤ left) (h1 : left ≤ 1048576) :
    Calls Tryd.prog 40 #[.agg #[.int .i64 e.m, .string e.x, .int .i64 e.s], .int .i64 left] w fun r w' => r = .returned (.int .i64 (if left < e.x.size then -1 else left - e.x.size)) ∧ Ext w w' := by
  have hx := e.h
  by_cases h : left < e.x.size
  all_goals
    go_enter Tryd.func40, Tryd.ntmps40
    go_wp2
    go_ret
    refine ⟨ret_int (by simp [h]), ?_⟩
    (repeat (first | exact Ext.refl _ | assumption | refine Ext.alloc ?_ _ | refine Ext.drew ?_ | refine Ext.drewN ?_ _ | refine Ext.setCell ?_ (by first | (simp; done) | (simp; omega)) _ | refine Ext.trans ?_ (by assumption)))
set_option maxRecDepth 100000 in
set_option maxHeartbeats 1000000 in
theorem laws_szEntryS (A : Option Addr) (n c : Nat) (xs : List GEntry) (left : Int) (w : World) (hx : Rd w 3 A n (xs.flatMap GEntry.enc)) (h0 : 0 ≤ left) (h1 : left ≤ 1048576) :
    Calls Tryd.prog 19 #[.slice A n c, .int .i64 left] w fun r w' => r = .returned (.int .i64 (if left < (n : Int) + bulkE xs then -1 else left - ((n : Int) + bulkE xs))) ∧ Ext w w' := by
  have hn := hx.2.1
  have hl := Lib.hid (hx.len GEntry.len (by omega))
  have hB := bulkE_nn xs
  obtain ⟨r, hr⟩ : ∃ r, r = (if left < (n : Int) + bulkE xs then -1 else left - ((n : Int) + bulkE xs)) := ⟨_, rfl⟩
  rw [← hr]
  have HR := Lib.hid hr
  have HX := Lib.hid hx
  clear hr hx
  by_cases q0 : left < n
  case pos =>
    have HQ : Hid (r = -1) := by unfold Hid; rw [HR.out, if_pos (by omega)]
    go_enter Tryd.func19, Tryd.ntmps19
    go_wp2
    go_ret
    exact ⟨ret_int (by rw [HQ.out]), Ext.refl _⟩
  have HB := Lib.hid hB
  clear hB
  go_enter Tryd.func19, Tryd.ntmps19
  go_wp2_with fail
  go_loopw [1, 5] (fun z i wr => ∃ (k : Nat) (a : Int), k ≤ n ∧ i = .int .i64 k ∧ z = .int .i64 a ∧ 0 ≤ a ∧ a ≤ 1048576 ∧ Hid (left - ((n : Int) + bulkE xs) = a - bulkE (xs.drop k)) ∧ Ext w wr) (fun _ i _ => n - (intOf i).toNat)
  case atStart => exact ⟨0, left - n, Nat.zero_le _, rfl, by first | rfl | (rw [IntWalk.wrap64_in _ ⟨by omega, by omega⟩]), by omega, by omega, by unfold Hid; rw [List.drop_zero]; omega, Ext.refl _⟩
  case round =>
    obtain ⟨k, a, hk, rfl, rfl, ha0, ha1, hz, hb⟩ := hrel
    by_cases hlt : k < n
    · obtain ⟨b, off, x, rfl, hbs, hxk, p0, p1, p2⟩ := GEntry.at_ (HX.out.keep hb) hlt
      have HD := Lib.hid (drop_cons hxk)
      have hnn := bulkE_nn (xs.drop (k + 1))
      have hxh := x.h
      have HBb := Lib.hid hb
      clear hxk hb
      by_cases q : a < x.x.size
      · have HQ : Hid (r = -1) := by
          have h2 := hz.out
          rw [HD.out, bulkE_cons] at h2
          unfold Hid; rw [HR.out, if_pos (by omega)]
        clear hnn
        go_wp2_with (go_at_call 40; refine (laws_szEntry x a _ ha0 ha1).mono ?_; rintro e w1 ⟨he, hb1⟩; rw [if_pos q] at he; subst he; have HB1 := Lib.hid hb1; clear hb1)
        go_ret
        exact ⟨ret_int (by rw [HQ.out]), HBb.out.trans HB1.out⟩
      · have HQ : Hid (left - ((n : Int) + bulkE xs) = (a - x.x.size) - bulkE (xs.drop (k + 1))) := by
          have h2 := hz.out
          rw [HD.out, bulkE_cons] at h2
          unfold Hid; omega
        clear hnn
        go_wp2_with (go_at_call 40; refine (laws_szEntry x a _ ha0 ha1).mono ?_; rintro e w1 ⟨he, hb1⟩; rw [if_neg q] at he; subst he; have HB1 := Lib.hid hb1; clear hb1)
        go_roundw
        case rel => exact ⟨k + 1, a - x.x.size, by omega, by go_num, rfl, by omega, by omega, HQ, HBb.out.trans HB1.out⟩
        case measure => simp [intOf]; omega
    · obtain rfl : k = n := by omega
      have HQ : Hid (r = a) := by
        have h2 := hz.out
        have h3 := HB.out
        rw [drop_nil (by rw [hl.out]; omega)] at h2
        have h4 : bulkE [] = 0 := rfl
        unfold Hid; rw [HR.out, if_neg (by omega)]; omega
      go_wp2_with fail
      go_ret
      exact ⟨ret_int (by rw [HQ.out]), hb⟩
end Go.Proofs.YtkelmeemblmggaaDoor
/- Contracts of the laws' helpers on museums: sizes, copies, comparisons; no condition but what stands at each theorem. -/
namespace Go.Proofs.YtkelmeemblmggaaDoor
set_option linter.unusedSimpArgs false
set_option linter.unusedVariables false
open Go.RowKit Go.Sort
/-- Two rows of one's own do not share a block. -/
def Apart (a b : Value) : Prop := ∀ g, a.ownBlock = some g → b.ownBlock ≠ some g
theorem Apart.of_at {a b : Value} {l1 h1 l2 h2 : Nat} (ha : At l1 h1 a) (hb : At l2 h2 b) (hd : h1 ≤ l2 ∨ h2 ≤ l1) : Apart a b := by
  intro g h k
  have p := ha g h
  have q := hb g k
  omega
theorem Apart.symm {a b : Value} (h : Apart a b) : Apart b a := fun g k l => h g l k
theorem own_apart {w w' : World} {base : Nat} {e : TypeId} {m n : Nat} {v v' : Value} {L : List Value} (h : w.ownsRow base e m v n L) (a : Apart v v') (hg : w.grownBy w' v'.ownBlock) : w'.ownsRow base e m v n L := by
  refine h.kept hg ?_
  cases hv : v.ownBlock with
  | none => exact .inl rfl
  | some g => exact .inr fun e => a g hv e.symm
theorem ext_apart {a w w' : World} {v : Value} {base : Nat} {e : TypeId} {m n : Nat} {L : List Value} (h : Ext a w) (ho : w.ownsRow base e m v n L) (hl : a.heap.size ≤ base) (hg : w.grownBy w' v.ownBlock) : Ext a w' :=
  h.grown hg fun k hk => Nat.le_trans hl (ho.lt k hk).1
theorem apart5 {d f p g r : Value} (a1 : Apart d f) (a2 : Apart d p) (a3 : Apart d g) (a4 : Apart d r) (a5 : Apart f p) (a6 : Apart f g) (a7 : Apart f r) (a8 : Apart p g) (a9 : Apart p r) (a10 : Apart g r) : List.Pairwise Apart [d, f, p, g, r] := by
  refine .cons ?_ (.cons ?_ (.cons ?_ (.cons ?_ (.cons ?_ .nil))))
  all_goals intro x hx
  all_goals simp only [List.mem_cons, List.not_mem_nil, or_false] at hx
  · rcases hx with rfl | rfl | rfl | rfl <;> assumption
  · rcases hx with rfl | rfl | rfl <;> assumption
  · rcases hx with rfl | rfl <;> assumption
  · subst hx; assumption
def SL.v (s : SL) : Value := .slice s.A s.n s.c
/-- The value v, all of whose rows the call made itself, in blocks of their own, reads as the museum m. -/
structure MOwn (w : World) (base : Nat) (v : MV) (m : GMuseum) : Prop where
  eH : v.H = m.H
  ed : v.d = m.d
  od : w.ownsRow base 95 2 v.sd.v v.sd.n (m.ds.flatMap GDoor.enc)
  of_ : w.ownsRow base 3 1 v.sf.v v.sf.n (m.fs.flatMap ienc)
  op : w.ownsRow base 3 1 v.sp.v v.sp.n (m.ps.flatMap ienc)
  og : w.ownsRow base 3 1 v.sg.v v.sg.n (m.gs.flatMap ienc)
  or_ : w.ownsRow base 51 3 v.sr.v v.sr.n (m.rs.flatMap GEntry.enc)
  ap : List.Pairwise Apart [v.sd.v, v.sf.v, v.sp.v, v.sg.v, v.sr.v]
theorem MOwn.rd {w : World} {base : Nat} {v : MV} {m : GMuseum} (h : MOwn w base v m) : MRd w v m :=
  ⟨h.eH, h.ed, Rd.of_own h.od, Rd.of_own h.of_, Rd.of_own h.op, Rd.of_own h.og, Rd.of_own h.or_⟩
theorem MOwn.keep {w w' : World} {base : Nat} {v : MV} {m : GMuseum} (h : MOwn w base v m) (e : Ext w w') : MOwn w' base v m :=
  ⟨h.eH, h.ed, own_keep h.od e, own_keep h.of_ e, own_keep h.op e, own_keep h.og e, own_keep h.or_ e, h.ap⟩
theorem MOwn.weak {w : World} {base base' : Nat} {v : MV} {m : GMuseum} (h : MOwn w base v m) (hb : base' ≤ base) : MOwn w base' v m :=
  ⟨h.eH, h.ed, own_weak h.od hb, own_weak h.of_ hb, own_weak h.op hb, own_weak h.og hb, own_weak h.or_ hb, h.ap⟩
/-- How much a museum's rows hold. -/
def bulkM (v : MV) (m : GMuseum) : Int := (v.sd.n : Int) + v.sf.n + v.sp.n + v.sg.n + ((v.sr.n : Int) + bulkE m.rs)
set_option maxRecDepth 100000 in
set_option maxHeartbeats 4000000 in
theorem laws_szMuseum (v : MV) (m : GMuseum) (left : Int) (w : World) (hx : MRd w v m) (h0 : 0 ≤ left) (h1 : left ≤ 1048576) :
    Calls Tryd.prog 5 #[v.val, .int .i64 left] w fun r w' => r = .returned (.int .i64 (if left < bulkM v m then -1 else left - bulkM v m)) ∧ Ext w w' := by
  obtain ⟨wb, hwb⟩ : ∃ wb, wb = w.alloc (.cells v.cells 28) := ⟨_, rfl⟩
  have hbx := MBox.new hwb
  have hE : Ext w wb := by rw [hwb]; exact (Ext.refl w).alloc _
  have hE1 := bulkE_nn m.rs
  obtain ⟨r, hr⟩ : ∃ r, r = (if left < bulkM v m then -1 else left - bulkM v m) := ⟨_, rfl⟩
  rw [← hr]
  unfold bulkM at hr
  obtain ⟨be, hbe⟩ : ∃ be, be = bulkE m.rs := ⟨_, rfl⟩
  have HBE := Lib.hid hbe
  rw [← hbe] at hr hE1
  have nd := hx.rd.2.1
  have nf := hx.rf.2.1
  have np := hx.rp.2.1
  have ng := hx.rg.2.1
  have nr := hx.rr.2.1
  have HX := Lib.hid (hx.keep hE)
  obtain ⟨Hh, ⟨A0, n0, c0⟩, ⟨A1, n1, c1⟩, ⟨A2, n2, c2⟩, ⟨A3, n3, c3⟩, day, ⟨A4, n4, c4⟩⟩ := v
  simp only at nd nf np ng nr hr
  have HR := Lib.hid hr
  have HE := Lib.hid hE
  have Hwb : Hid (wb = w.alloc (.cells #[.int .i64 Hh, .slice A0 n0 c0, .slice A1 n1 c1, .slice A2 n2 c2, .slice A3 n3 c3, .int .i64 day, .slice A4 n4 c4] 28)) := hwb
  have HB := Lib.hid hbx
  have hxr : Hid (Rd wb 3 A4 n4 (m.rs.flatMap GEntry.enc)) := HX.out.rr
  have hbl := hbx.lt
  clear hr hE hwb hbx hbe hx
  show Calls Tryd.prog 5 #[.agg #[.int .i64 Hh, .slice A0 n0 c0, .slice A1 n1 c1, .slice A2 n2 c2, .slice A3 n3 c3, .int .i64 day, .slice A4 n4 c4], .int .i64 left] w _
  by_cases q0 : left < (n0 : Int)
  case pos =>
    have HQ : Hid (r = -1) := by unfold Hid; rw [HR.out, if_pos (by omega)]
    go_enter Tryd.func5, Tryd.ntmps5
    have b0 := HB.out.c0
    have b1 := HB.out.c1
    have b2 := HB.out.c2
    have b3 := HB.out.c3
    have b4 := HB.out.c4
    have b6 := HB.out.c6
    simp only at b0 b1 b2 b3 b4 b6
    go_wp2_with fail
    rw [← Hwb.out]
    refine (laws_szHouse _ _ _ _ _ _ h0 h1 nd).mono ?_
    rintro e w1 ⟨he, hb1⟩
    rw [if_pos (by omega)] at he
    subst he
    have HE1 := Lib.hid hb1
    clear b0 b1 b2 b3 b4 b6
    have b1 := (hb1.cellAt w.heap.size hbl 1).trans HB.out.c1
    have b2 := (hb1.cellAt w.heap.size hbl 2).trans HB.out.c2
    have b3 := (hb1.cellAt w.heap.size hbl 3).trans HB.out.c3
    have b4 := (hb1.cellAt w.heap.size hbl 4).trans HB.out.c4
    have b6 := (hb1.cellAt w.heap.size hbl 6).trans HB.out.c6
    simp only at b1 b2 b3 b4 b6
    clear hb1
    go_wp2_with fail
    go_ret
    exact ⟨ret_int (by rw [HQ.out]), HE.out.trans HE1.out⟩
  by_cases q1 : left < (n0 : Int) + (n1 : Int)
  case pos =>
    have HQ : Hid (r = -1) := by unfold Hid; rw [HR.out, if_pos (by omega)]
    go_enter Tryd.func5, Tryd.ntmps5
    have b0 := HB.out.c0
    have b1 := HB.out.c1
    have b2 := HB.out.c2
    have b3 := HB.out.c3
    have b4 := HB.out.c4
    have b6 := HB.out.c6
    simp only at b0 b1 b2 b3 b4 b6
    go_wp2_with fail
    rw [← Hwb.out]
    refine (laws_szHouse _ _ _ _ _ _ h0 h1 nd).mono ?_
    rintro e w1 ⟨he, hb1⟩
    rw [if_neg (by omega)] at he
    subst he
    have HE1 := Lib.hid hb1
    clear b0 b1 b2 b3 b4 b6
    have b1 := (hb1.cellAt w.heap.size hbl 1).trans HB.out.c1
    have b2 := (hb1.cellAt w.heap.size hbl 2).trans HB.out.c2
    have b3 := (hb1.cellAt w.heap.size hbl 3).trans HB.out.c3
    have b4 := (hb1.cellAt w.heap.size hbl 4).trans HB.out.c4
    have b6 := (hb1.cellAt w.heap.size hbl 6).trans HB.out.c6
    simp only at b1 b2 b3 b4 b6
    clear hb1
    go_wp2_with fail
    refine (laws_szIntS _ _ _ _ _ (by omega) (by omega) nf).mono ?_
    rintro e w2 ⟨he, rfl⟩
    rw [if_pos (by omega)] at he
    subst he
    go_wp2_with fail
    go_ret
    exact ⟨ret_int (by rw [HQ.out]), HE.out.trans HE1.out⟩
  by_cases q2 : left < (n0 : Int) + (n1 : Int) + (n2 : Int)
  case pos =>
    have HQ : Hid (r = -1) := by unfold Hid; rw [HR.out, if_pos (by omega)]
    go_enter Tryd.func5, Tryd.ntmps5
    have b0 := HB.out.c0
    have b1 := HB.out.c1
    have b2 := HB.out.c2
    have b3 := HB.out.c3
    have b4 := HB.out.c4
    have b6 := HB.out.c6
    simp only at b0 b1 b2 b3 b4 b6
    go_wp2_with fail
    rw [← Hwb.out]
    refine (laws_szHouse _ _ _ _ _ _ h0 h1 nd).mono ?_
    rintro e w1 ⟨he, hb1⟩
    rw [if_neg (by omega)] at he
    subst he
    have HE1 := Lib.hid hb1
    clear b0 b1 b2 b3 b4 b6
    have b1 := (hb1.cellAt w.heap.size hbl 1).trans HB.out.c1
    have b2 := (hb1.cellAt w.heap.size hbl 2).trans HB.out.c2
    have b3 := (hb1.cellAt w.heap.size hbl 3).trans HB.out.c3
    have b4 := (hb1.cellAt w.heap.size hbl 4).trans HB.out.c4
    have b6 := (hb1.cellAt w.heap.size hbl 6).trans HB.out.c6
    simp only at b1 b2 b3 b4 b6
    clear hb1
    go_wp2_with fail
    refine (laws_szIntS _ _ _ _ _ (by omega) (by omega) nf).mono ?_
    rintro e w2 ⟨he, rfl⟩
    rw [if_neg (by omega)] at he
    subst he
    go_wp2_with fail
    refine (laws_szIntS _ _ _ _ _ (by omega) (by omega) np).mono ?_
    rintro e w3 ⟨he, rfl⟩
    rw [if_pos (by omega)] at he
    subst he
    go_wp2_with fail
    go_ret
    exact ⟨ret_int (by rw [HQ.out]), HE.out.trans HE1.out⟩
  by_cases q3 : left < (n0 : Int) + (n1 : Int) + (n2 : Int) + (n3 : Int)
  case pos =>
    have HQ : Hid (r = -1) := by unfold Hid; rw [HR.out, if_pos (by omega)]
    go_enter Tryd.func5, Tryd.ntmps5
    have b0 := HB.out.c0
    have b1 := HB.out.c1
    have b2 := HB.out.c2
    have b3 := HB.out.c3
    have b4 := HB.out.c4
    have b6 := HB.out.c6
    simp only at b0 b1 b2 b3 b4 b6
    go_wp2_with fail
    rw [← Hwb.out]
    refine (laws_szHouse _ _ _ _ _ _ h0 h1 nd).mono ?_
    rintro e w1 ⟨he, hb1⟩
    rw [if_neg (by omega)] at he
    subst he
    have HE1 := Lib.hid hb1
    clear b0 b1 b2 b3 b4 b6
    have b1 := (hb1.cellAt w.heap.size hbl 1).trans HB.out.c1
    have b2 := (hb1.cellAt w.heap.size hbl 2).trans HB.out.c2
    have b3 := (hb1.cellAt w.heap.size hbl 3).trans HB.out.c3
    have b4 := (hb1.cellAt w.heap.size hbl 4).trans HB.out.c4
    have b6 := (hb1.cellAt w.heap.size hbl 6).trans HB.out.c6
    simp only at b1 b2 b3 b4 b6
    clear hb1
    go_wp2_with fail
    refine (laws_szIntS _ _ _ _ _ (by omega) (by omega) nf).mono ?_
    rintro e w2 ⟨he, rfl⟩
    rw [if_neg (by omega)] at he
    subst he
    go_wp2_with fail
    refine (laws_szIntS _ _ _ _ _ (by omega) (by omega) np).mono ?_
    rintro e w3 ⟨he, rfl⟩
    rw [if_neg (by omega)] at he
    subst he
    go_wp2_with fail
    refine (laws_szIntS _ _ _ _ _ (by omega) (by omega) ng).mono ?_
    rintro e w4 ⟨he, rfl⟩
    rw [if_pos (by omega)] at he
    subst he
    go_wp2_with fail
    go_ret
    exact ⟨ret_int (by rw [HQ.out]), HE.out.trans HE1.out⟩
  by_cases q4 : left < (n0 : Int) + (n1 : Int) + (n2 : Int) + (n3 : Int) + (n4 : Int) + be
  case pos =>
    have HQ : Hid (r = -1) := by unfold Hid; rw [HR.out, if_pos (by omega)]
    go_enter Tryd.func5, Tryd.ntmps5
    have b0 := HB.out.c0
    have b1 := HB.out.c1
    have b2 := HB.out.c2
    have b3 := HB.out.c3
    have b4 := HB.out.c4
    have b6 := HB.out.c6
    simp only at b0 b1 b2 b3 b4 b6
    go_wp2_with fail
    rw [← Hwb.out]
    refine (laws_szHouse _ _ _ _ _ _ h0 h1 nd).mono ?_
    rintro e w1 ⟨he, hb1⟩
    rw [if_neg (by omega)] at he
    subst he
    have HE1 := Lib.hid hb1
    clear b0 b1 b2 b3 b4 b6
    have b1 := (hb1.cellAt w.heap.size hbl 1).trans HB.out.c1
    have b2 := (hb1.cellAt w.heap.size hbl 2).trans HB.out.c2
    have b3 := (hb1.cellAt w.heap.size hbl 3).trans HB.out.c3
    have b4 := (hb1.cellAt w.heap.size hbl 4).trans HB.out.c4
    have b6 := (hb1.cellAt w.heap.size hbl 6).trans HB.out.c6
    simp only at b1 b2 b3 b4 b6
    clear hb1
    go_wp2_with fail
    refine (laws_szIntS _ _ _ _ _ (by omega) (by omega) nf).mono ?_
    rintro e w2 ⟨he, rfl⟩
    rw [if_neg (by omega)] at he
    subst he
    go_wp2_with fail
    refine (laws_szIntS _ _ _ _ _ (by omega) (by omega) np).mono ?_
    rintro e w3 ⟨he, rfl⟩
    rw [if_neg (by omega)] at he
    subst he
    go_wp2_with fail
    refine (laws_szIntS _ _ _ _ _ (by omega) (by omega) ng).mono ?_
    rintro e w4 ⟨he, rfl⟩
    rw [if_neg (by omega)] at he
    subst he
    go_wp2_with fail
    refine (laws_szEntryS _ _ _ m.rs _ _ (hxr.out.keep HE1.out) (by omega) (by omega)).mono ?_
    rintro e w5 ⟨he, hb5⟩
    rw [← HBE.out] at he
    rw [if_pos (by omega)] at he
    subst he
    have HE5 := Lib.hid hb5
    clear hb5 b1 b2 b3 b4 b6
    go_wp2_with fail
    go_ret
    exact ⟨ret_int (by rw [HQ.out]), HE.out.trans (HE1.out.trans HE5.out)⟩
  have HQ : Hid (r = left - n0 - n1 - n2 - n3 - (n4 + be)) := by unfold Hid; rw [HR.out, if_neg (by omega)]; omega
  go_enter Tryd.func5, Tryd.ntmps5
  have b0 := HB.out.c0
  have b1 := HB.out.c1
  have b2 := HB.out.c2
  have b3 := HB.out.c3
  have b4 := HB.out.c4
  have b6 := HB.out.c6
  simp only at b0 b1 b2 b3 b4 b6
  go_wp2_with fail
  rw [← Hwb.out]
  refine (laws_szHouse _ _ _ _ _ _ h0 h1 nd).mono ?_
  rintro e w1 ⟨he, hb1⟩
  rw [if_neg (by omega)] at he
  subst he
  have HE1 := Lib.hid hb1
  clear b0 b1 b2 b3 b4 b6
  have b1 := (hb1.cellAt w.heap.size hbl 1).trans HB.out.c1
  have b2 := (hb1.cellAt w.heap.size hbl 2).trans HB.out.c2
  have b3 := (hb1.cellAt w.heap.size hbl 3).trans HB.out.c3
  have b4 := (hb1.cellAt w.heap.size hbl 4).trans HB.out.c4
  have b6 := (hb1.cellAt w.heap.size hbl 6).trans HB.out.c6
  simp only at b1 b2 b3 b4 b6
  clear hb1
  go_wp2_with fail
  refine (laws_szIntS _ _ _ _ _ (by omega) (by omega) nf).mono ?_
  rintro e w2 ⟨he, rfl⟩
  rw [if_neg (by omega)] at he
  subst he
  go_wp2_with fail
  refine (laws_szIntS _ _ _ _ _ (by omega) (by omega) np).mono ?_
  rintro e w3 ⟨he, rfl⟩
  rw [if_neg (by omega)] at he
  subst he
  go_wp2_with fail
  refine (laws_szIntS _ _ _ _ _ (by omega) (by omega) ng).mono ?_
  rintro e w4 ⟨he, rfl⟩
  rw [if_neg (by omega)] at he
  subst he
  go_wp2_with fail
  refine (laws_szEntryS _ _ _ m.rs _ _ (hxr.out.keep HE1.out) (by omega) (by omega)).mono ?_
  rintro e w5 ⟨he, hb5⟩
  rw [← HBE.out] at he
  rw [if_neg (by omega)] at he
  subst he
  have HE5 := Lib.hid hb5
  clear hb5 b1 b2 b3 b4 b6
  go_wp2_with fail
  go_ret
  exact ⟨ret_int (by rw [HQ.out]), HE.out.trans (HE1.out.trans HE5.out)⟩
end Go.Proofs.YtkelmeemblmggaaDoor
