/- Contracts of the laws' own helpers on structs and rows: copies, comparisons, sizes; no condition but what stands at each theorem. -/
import Derived.Test.YtkelmeemblmggaaProg
import Derived.Test.YtkelmeemblmggaaK4
import Derived.KernelRfl
namespace Go.Proofs.Ytkelmeemblmggaa
set_option linter.unusedSimpArgs false
set_option linter.unusedVariables false
open Go.RowKit












set_option maxRecDepth 100000 in
set_option maxHeartbeats 400000 in
theorem laws_toDoor (s : GDoor) (w : World) :
    Calls Try.prog 55 #[.agg #[.int .i64 s.a, .int .i64 s.b]] w fun e w' => e = .returned (.agg #[.int .i64 s.a, .int .i64 s.b]) ∧ Ext w w' := by
  go_enter Try.func55, Try.ntmps55
  go_wp2
  refine bodyPost_ret (v := .agg #[.int .i64 s.a, .int .i64 s.b]) (by simp [results, Try.results55, go_sem]) rfl ⟨rfl, ?_⟩
  (repeat (first | exact Ext.refl _ | assumption | refine Ext.alloc ?_ _ | refine Ext.drew ?_ | refine Ext.drewN ?_ _ | refine Ext.setCell ?_ (by first | (simp; done) | (simp; omega)) _ | refine Ext.trans ?_ (by assumption)))
set_option maxRecDepth 100000 in
set_option maxHeartbeats 1000000 in
theorem laws_eqDoor (a b : GDoor) (hab : a = b) (w : World) :
    Calls Try.prog 60 #[.agg #[.int .i64 a.a, .int .i64 a.b], .agg #[.int .i64 b.a, .int .i64 b.b]] w fun e w' => e = .returned (.bool true) ∧ Ext w w' := by
  subst hab
  go_enter Try.func60, Try.ntmps60
  go_wp2
  all_goals go_ret
  all_goals refine ⟨rfl, ?_⟩
  all_goals (repeat (first | exact Ext.refl _ | assumption | refine Ext.alloc ?_ _ | refine Ext.drew ?_ | refine Ext.drewN ?_ _ | refine Ext.setCell ?_ (by first | (simp; done) | (simp; omega)) _ | refine Ext.trans ?_ (by assumption)))


set_option maxRecDepth 100000 in
set_option maxHeartbeats 400000 in
theorem laws_szIntS (A : Option Addr) (n c : Nat) (left : Int) (w : World) (hl : 0 ≤ left) (hl2 : left ≤ 1048576) (hn : n ≤ 9223372036854775807) :
    Calls Try.prog 40 #[.slice A n c, .int .i64 left] w fun e w' => e = .returned (.int .i64 (if left < n then -1 else left - n)) ∧ w = w' := by
  go_enter Try.func40, Try.ntmps40
  by_cases h : left < n
  all_goals
    go_wp2
    go_ret
    exact ⟨rfl, rfl⟩
theorem info_Int : (Try.prog.info? 3).map (fun i => (i.zero.map (·.cells.size), i.size, decide (i.bytes ≤ 4096))) = some (some 1, 1, true) := by kernel_rfl
set_option maxRecDepth 100000 in
set_option maxHeartbeats 1000000 in
theorem laws_toIntS (A : Option Addr) (n c : Nat) (xs : List Int) (w : World) (hx : Rd w 1 A n (xs.flatMap ienc)) (hn : n ≤ 1048576) :
    Calls Try.prog 15 #[.slice A n c] w fun e w' => ∃ g : Nat, e = .returned (.slice (some ⟨g, 0, none⟩) n n) ∧ Ext w w' ∧ w'.ownsRow w.heap.size 3 1 (.slice (some ⟨g, 0, none⟩) n n) n (xs.flatMap ienc) := by
  have hl := Lib.hid (hx.len ienc_len (by omega))
  have hin := info_Int
  cases hi : Try.prog.info? 3 with
  | none => rw [hi] at hin; cases hin
  | some i =>
  rw [hi] at hin
  simp only [Option.map_some, Option.some.injEq, Prod.mk.injEq, decide_eq_true_eq] at hin
  obtain ⟨hz0, hsz, hby⟩ := hin
  cases hz : i.zero with
  | none => rw [hz] at hz0; cases hz0
  | some z =>
  rw [hz] at hz0
  simp only [Option.map_some, Option.some.injEq] at hz0
  have hmk := make_row (P := Try.prog) 25 3 i z Try.underlying25 hi hz n (by have := Nat.mul_le_mul hby hn; omega) (by omega)
  rw [hsz] at hmk
  obtain ⟨cells, hcells⟩ : ∃ cells, cells = madeCells z.cells (n * 1) := ⟨_, rfl⟩
  rw [← hcells] at hmk
  have hcs : cells.size = n * 1 := by rw [hcells, size_madeCells]
  clear hcells hi hz hsz hby hz0
  go_enter Try.func15, Try.ntmps15
  go_wp2_with fail
  go_loopw [4] (fun i wr => ∃ (k : Nat) (cur : Array Value), k ≤ n ∧ i = .int .i64 k ∧ cur.size = n * 1 ∧ Hid (cur.toList.take (k * 1) = (xs.take k).flatMap ienc) ∧ Blk wr w.heap.size 3 cur ∧ Ext w wr) (fun i _ => n - (intOf i).toNat)
  case atStart => exact ⟨0, cells, Nat.zero_le _, rfl, hcs, by unfold Hid; simp, Blk.new _ _ _, (Ext.refl _).alloc _⟩
  case round =>
    obtain ⟨k, cur, hk, rfl, hcz, hz, hblk, hb⟩ := hrel
    clear hmk hcs
    by_cases hlt : k < n
    · obtain ⟨b, off, x, rfl, hbs, hxk, h0⟩ := ienc_at (hx.keep hb) hlt
      have HX := Lib.hid hxk
      have HB := Lib.hid hb
      clear hxk hb
      have c0 := hblk.cellAt (i := k) (by omega)
      have f0 := hblk.free (k)
      have HBk := Lib.hid hblk
      clear hblk
      go_wp2_with fail
      go_roundw
      case rel =>
        refine ⟨k + 1, setRow cur (k * 1) [.int .i64 x], by omega, by go_num, by rw [setRow_size]; exact hcz, ?_, ?_, ?_⟩
        · unfold Hid
          rw [take_snoc HX.out, List.flatMap_append]
          exact setRow_take (m := 1) rfl (by rw [hcz]; omega) hz.out
        · rw [Nat.mul_one]; exact Blk.sets [.int .i64 x] k HBk.out
        · exact Ext.sets [.int .i64 x] k HB.out (Nat.le_refl _)
      case measure => simp [intOf]; omega
    · obtain rfl : k = n := by omega
      go_wp2_with fail
      go_ret
      have h1 := hz.out
      rw [List.take_of_length_le (l := xs) (by rw [hl.out]; omega)] at h1
      exact ⟨w.heap.size, rfl, hb, own_of_blk (Nat.le_refl _) hblk hcz (by unfold maxLen; omega) h1⟩
set_option maxRecDepth 100000 in
set_option maxHeartbeats 1000000 in
theorem laws_eqIntS (A A' : Option Addr) (n c n' c' : Nat) (xs : List Int) (w : World) (hx : Rd w 1 A n (xs.flatMap ienc)) (hy : Rd w 1 A' n' (xs.flatMap ienc)) :
    Calls Try.prog 18 #[.slice A n c, .slice A' n' c'] w fun e w' => e = .returned (.bool true) ∧ Ext w w' := by
  have hn := hx.2.1
  obtain rfl : n = n' := by rw [← hx.len ienc_len (by omega), ← hy.len ienc_len (by omega)]
  go_enter Try.func18, Try.ntmps18
  go_wp2_with fail
  go_loopw [5] (fun i wr => ∃ k : Nat, k ≤ n ∧ i = .int .i64 k ∧ Ext w wr) (fun i _ => n - (intOf i).toNat)
  case atStart => exact ⟨0, Nat.zero_le _, rfl, Ext.refl _⟩
  case round =>
    obtain ⟨k, hk, rfl, hb⟩ := hrel
    by_cases hlt : k < n
    · obtain ⟨b, off, x, rfl, hbs, hxk, h0⟩ := ienc_at (hx.keep hb) hlt
      obtain ⟨b', off', y, rfl, hbs', hyk, g0⟩ := ienc_at (hy.keep hb) hlt
      obtain rfl : x = y := by rw [hyk] at hxk; simpa using hxk.symm
      clear hxk hyk
      have Hb := Lib.hid hb
      clear hb
      go_wp2_with fail
      go_quiet (fail)
      go_wp2_with fail
      go_roundw
      case rel => exact ⟨k + 1, by omega, by go_num, Hb.out.drewN _⟩
      case measure => simp [intOf]; omega
    · go_wp2_with fail
      go_ret
      exact ⟨rfl, hb⟩






set_option maxRecDepth 100000 in
set_option maxHeartbeats 400000 in
theorem laws_szDoorS (A : Option Addr) (n c : Nat) (left : Int) (w : World) (hl : 0 ≤ left) (hl2 : left ≤ 1048576) (hn : n ≤ 9223372036854775807) :
    Calls Try.prog 32 #[.slice A n c, .int .i64 left] w fun e w' => e = .returned (.int .i64 (if left < n then -1 else left - n)) ∧ w = w' := by
  go_enter Try.func32, Try.ntmps32
  by_cases h : left < n
  all_goals
    go_wp2
    go_ret
    exact ⟨rfl, rfl⟩
theorem info_Door : (Try.prog.info? 56).map (fun i => (i.zero.map (·.cells.size), i.size, decide (i.bytes ≤ 4096))) = some (some 2, 2, true) := by kernel_rfl
set_option maxRecDepth 100000 in
set_option maxHeartbeats 1000000 in
theorem laws_toDoorS (A : Option Addr) (n c : Nat) (xs : List GDoor) (w : World) (hx : Rd w 2 A n (xs.flatMap GDoor.enc)) (hn : n ≤ 1048576) :
    Calls Try.prog 35 #[.slice A n c] w fun e w' => ∃ g : Nat, e = .returned (.slice (some ⟨g, 0, none⟩) n n) ∧ Ext w w' ∧ w'.ownsRow w.heap.size 56 2 (.slice (some ⟨g, 0, none⟩) n n) n (xs.flatMap GDoor.enc) := by
  have hl := Lib.hid (hx.len GDoor.len (by omega))
  have hin := info_Door
  cases hi : Try.prog.info? 56 with
  | none => rw [hi] at hin; cases hin
  | some i =>
  rw [hi] at hin
  simp only [Option.map_some, Option.some.injEq, Prod.mk.injEq, decide_eq_true_eq] at hin
  obtain ⟨hz0, hsz, hby⟩ := hin
  cases hz : i.zero with
  | none => rw [hz] at hz0; cases hz0
  | some z =>
  rw [hz] at hz0
  simp only [Option.map_some, Option.some.injEq] at hz0
  have hmk := make_row (P := Try.prog) 22 56 i z Try.underlying22 hi hz n (by have := Nat.mul_le_mul hby hn; omega) (by omega)
  rw [hsz] at hmk
  obtain ⟨cells, hcells⟩ : ∃ cells, cells = madeCells z.cells (n * 2) := ⟨_, rfl⟩
  rw [← hcells] at hmk
  have hcs : cells.size = n * 2 := by rw [hcells, size_madeCells]
  clear hcells hi hz hsz hby hz0
  go_enter Try.func35, Try.ntmps35
  go_wp2_with fail
  go_loopw [4] (fun i wr => ∃ (k : Nat) (cur : Array Value), k ≤ n ∧ i = .int .i64 k ∧ cur.size = n * 2 ∧ Hid (cur.toList.take (k * 2) = (xs.take k).flatMap GDoor.enc) ∧ Blk wr w.heap.size 56 cur ∧ Ext w wr) (fun i _ => n - (intOf i).toNat)
  case atStart => exact ⟨0, cells, Nat.zero_le _, rfl, hcs, by unfold Hid; simp, Blk.new _ _ _, (Ext.refl _).alloc _⟩
  case round =>
    obtain ⟨k, cur, hk, rfl, hcz, hz, hblk, hb⟩ := hrel
    clear hmk hcs
    by_cases hlt : k < n
    · obtain ⟨b, off, x, rfl, hbs, hxk, h0, h1⟩ := GDoor.at_ (hx.keep hb) hlt
      have HX := Lib.hid hxk
      have HB := Lib.hid hb
      clear hxk hb
      have c0 := hblk.cellAt (i := k * 2) (by omega)
      have f0 := hblk.free (k * 2)
      have c1 := hblk.cellAt (i := k * 2 + 1) (by omega)
      have f1 := hblk.free (k * 2 + 1)
      have HBk := Lib.hid hblk
      clear hblk
      go_wp2_with (go_at_call 55; refine (laws_toDoor x _).mono ?_; rintro e w1 ⟨rfl, hb1⟩; have hblk1 := HBk.out.keep hb1; have c0 := hblk1.cellAt (i := k * 2) (by omega); have f0 := hblk1.free (k * 2); have c1 := hblk1.cellAt (i := k * 2 + 1) (by omega); have f1 := hblk1.free (k * 2 + 1); have HB1 := Lib.hid hb1; have HBk1 := Lib.hid hblk1; clear hb1 hblk1)
      go_roundw
      case rel =>
        refine ⟨k + 1, setRow cur (k * 2) [.int .i64 x.a, .int .i64 x.b], by omega, by go_num, by rw [setRow_size]; exact hcz, ?_, ?_, ?_⟩
        · unfold Hid
          rw [take_snoc HX.out, List.flatMap_append]
          exact setRow_take (m := 2) rfl (by rw [hcz]; omega) hz.out
        · exact Blk.sets [.int .i64 x.a, .int .i64 x.b] (k * 2) HBk1.out
        · exact Ext.sets [.int .i64 x.a, .int .i64 x.b] (k * 2) (HB.out.trans HB1.out) (Nat.le_refl _)
      case measure => simp [intOf]; omega
    · obtain rfl : k = n := by omega
      go_wp2_with fail
      go_ret
      have h1 := hz.out
      rw [List.take_of_length_le (l := xs) (by rw [hl.out]; omega)] at h1
      exact ⟨w.heap.size, rfl, hb, own_of_blk (Nat.le_refl _) hblk hcz (by unfold maxLen; omega) h1⟩
set_option maxRecDepth 100000 in
set_option maxHeartbeats 1000000 in
theorem laws_eqDoorS (A A' : Option Addr) (n c n' c' : Nat) (xs : List GDoor) (w : World) (hx : Rd w 2 A n (xs.flatMap GDoor.enc)) (hy : Rd w 2 A' n' (xs.flatMap GDoor.enc)) :
    Calls Try.prog 38 #[.slice A n c, .slice A' n' c'] w fun e w' => e = .returned (.bool true) ∧ Ext w w' := by
  have hn := hx.2.1
  obtain rfl : n = n' := by rw [← hx.len GDoor.len (by omega), ← hy.len GDoor.len (by omega)]
  go_enter Try.func38, Try.ntmps38
  go_wp2_with fail
  go_loopw [5] (fun i wr => ∃ k : Nat, k ≤ n ∧ i = .int .i64 k ∧ Ext w wr) (fun i _ => n - (intOf i).toNat)
  case atStart => exact ⟨0, Nat.zero_le _, rfl, Ext.refl _⟩
  case round =>
    obtain ⟨k, hk, rfl, hb⟩ := hrel
    by_cases hlt : k < n
    · obtain ⟨b, off, x, rfl, hbs, hxk, h0, h1⟩ := GDoor.at_ (hx.keep hb) hlt
      obtain ⟨b', off', y, rfl, hbs', hyk, g0, g1⟩ := GDoor.at_ (hy.keep hb) hlt
      obtain rfl : x = y := by rw [hyk] at hxk; simpa using hxk.symm
      clear hxk hyk
      have Hb := Lib.hid hb
      clear hb
      go_wp2_with fail
      go_still_tail 8, (by kernel_rfl)
      change wpList _ _ _ _ _ wr.drew
      go_wp2_with (go_at_call 60; refine (laws_eqDoor x x rfl _).mono ?_; rintro e w1 ⟨rfl, hb1⟩)
      go_roundw
      case rel => exact ⟨k + 1, by omega, by go_num, Hb.out.drew.trans hb1⟩
      case measure => simp [intOf]; omega
    · go_wp2_with fail
      go_ret
      exact ⟨rfl, hb⟩

end Go.Proofs.Ytkelmeemblmggaa
