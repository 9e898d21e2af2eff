/- Texts of one proof, laid one behind the other (H1, H2, KQ, H3, T2, H4); no condition but what stands at each theorem. -/
import Derived.Test.YtkelmeemblmggaaGreatDoorProg
import Derived.KernelRfl
import Derived.Test.YtkelmeemblmggaaGreatDoorZA
/- Contracts of the laws' own helpers on structs and rows: copies, comparisons, sizes; no condition but what stands at each theorem. -/
namespace Go.Proofs.YtkelmeemblmggaaGreatDoor
set_option linter.unusedSimpArgs false
set_option linter.unusedVariables false
open Go.RowKit






set_option maxRecDepth 100000 in
set_option maxHeartbeats 400000 in
theorem laws_toAct (s : GAct) (w : World) :
    Calls Tryz.prog 56 #[.agg #[.int .i64 s.k, .int .i64 s.a, .int .i64 s.b, .int .i64 s.c, .int .i64 s.d]] w fun e w' => e = .returned (.agg #[.int .i64 s.k, .int .i64 s.a, .int .i64 s.b, .int .i64 s.c, .int .i64 s.d]) ∧ Ext w w' := by
  go_enter Tryz.func56, Tryz.ntmps56
  go_wp2
  refine bodyPost_ret (v := .agg #[.int .i64 s.k, .int .i64 s.a, .int .i64 s.b, .int .i64 s.c, .int .i64 s.d]) (by simp [results, Tryz.results56, go_sem]) rfl ⟨rfl, ?_⟩
  (repeat (first | exact Ext.refl _ | assumption | refine Ext.alloc ?_ _ | refine Ext.drew ?_ | refine Ext.drewN ?_ _ | refine Ext.setCell ?_ (by first | (simp; done) | (simp; omega)) _ | refine Ext.trans ?_ (by assumption)))
set_option maxRecDepth 100000 in
set_option maxHeartbeats 1000000 in
theorem laws_eqAct (a b : GAct) (hab : a = b) (w : World) :
    Calls Tryz.prog 120 #[.agg #[.int .i64 a.k, .int .i64 a.a, .int .i64 a.b, .int .i64 a.c, .int .i64 a.d], .agg #[.int .i64 b.k, .int .i64 b.a, .int .i64 b.b, .int .i64 b.c, .int .i64 b.d]] w fun e w' => e = .returned (.bool true) ∧ Ext w w' := by
  subst hab
  go_enter Tryz.func120, Tryz.ntmps120
  go_wp2
  all_goals go_ret
  all_goals refine ⟨rfl, ?_⟩
  all_goals (repeat (first | exact Ext.refl _ | assumption | refine Ext.alloc ?_ _ | refine Ext.drew ?_ | refine Ext.drewN ?_ _ | refine Ext.setCell ?_ (by first | (simp; done) | (simp; omega)) _ | refine Ext.trans ?_ (by assumption)))




set_option maxRecDepth 100000 in
set_option maxHeartbeats 400000 in
theorem laws_toDoor (s : GDoor) (w : World) :
    Calls Tryz.prog 169 #[.agg #[.int .i64 s.a, .int .i64 s.b]] w fun e w' => e = .returned (.agg #[.int .i64 s.a, .int .i64 s.b]) ∧ Ext w w' := by
  go_enter Tryz.func169, Tryz.ntmps169
  go_wp2
  refine bodyPost_ret (v := .agg #[.int .i64 s.a, .int .i64 s.b]) (by simp [results, Tryz.results169, go_sem]) rfl ⟨rfl, ?_⟩
  (repeat (first | exact Ext.refl _ | assumption | refine Ext.alloc ?_ _ | refine Ext.drew ?_ | refine Ext.drewN ?_ _ | refine Ext.setCell ?_ (by first | (simp; done) | (simp; omega)) _ | refine Ext.trans ?_ (by assumption)))
set_option maxRecDepth 100000 in
set_option maxHeartbeats 1000000 in
theorem laws_eqDoor (a b : GDoor) (hab : a = b) (w : World) :
    Calls Tryz.prog 171 #[.agg #[.int .i64 a.a, .int .i64 a.b], .agg #[.int .i64 b.a, .int .i64 b.b]] w fun e w' => e = .returned (.bool true) ∧ Ext w w' := by
  subst hab
  go_enter Tryz.func171, Tryz.ntmps171
  go_wp2
  all_goals go_ret
  all_goals refine ⟨rfl, ?_⟩
  all_goals (repeat (first | exact Ext.refl _ | assumption | refine Ext.alloc ?_ _ | refine Ext.drew ?_ | refine Ext.drewN ?_ _ | refine Ext.setCell ?_ (by first | (simp; done) | (simp; omega)) _ | refine Ext.trans ?_ (by assumption)))
set_option maxRecDepth 100000 in
set_option maxHeartbeats 400000 in
theorem laws_toMove (s : GMove) (w : World) :
    Calls Tryz.prog 27 #[.agg #[.int .i64 s.o, .int .i64 s.t, .int .i64 s.f, .int .i64 s.s]] w fun e w' => e = .returned (.agg #[.int .i64 s.o, .int .i64 s.t, .int .i64 s.f, .int .i64 s.s]) ∧ Ext w w' := by
  go_enter Tryz.func27, Tryz.ntmps27
  go_wp2
  refine bodyPost_ret (v := .agg #[.int .i64 s.o, .int .i64 s.t, .int .i64 s.f, .int .i64 s.s]) (by simp [results, Tryz.results27, go_sem]) rfl ⟨rfl, ?_⟩
  (repeat (first | exact Ext.refl _ | assumption | refine Ext.alloc ?_ _ | refine Ext.drew ?_ | refine Ext.drewN ?_ _ | refine Ext.setCell ?_ (by first | (simp; done) | (simp; omega)) _ | refine Ext.trans ?_ (by assumption)))

set_option maxRecDepth 100000 in
set_option maxHeartbeats 400000 in
theorem laws_szIntS (A : Option Addr) (n c : Nat) (left : Int) (w : World) (hl : 0 ≤ left) (hl2 : left ≤ 1048576) (hn : n ≤ 9223372036854775807) :
    Calls Tryz.prog 84 #[.slice A n c, .int .i64 left] w fun e w' => e = .returned (.int .i64 (if left < n then -1 else left - n)) ∧ w = w' := by
  go_enter Tryz.func84, Tryz.ntmps84
  by_cases h : left < n
  all_goals
    go_wp2
    go_ret
    exact ⟨rfl, rfl⟩
theorem info_Int : (Tryz.prog.info? 3).map (fun i => (i.zero.map (·.cells.size), i.size, decide (i.bytes ≤ 4096))) = some (some 1, 1, true) := by kernel_rfl
set_option maxRecDepth 100000 in
set_option maxHeartbeats 1000000 in
theorem laws_toIntS (A : Option Addr) (n c : Nat) (xs : List Int) (w : World) (hx : Rd w 1 A n (xs.flatMap ienc)) (hn : n ≤ 1048576) :
    Calls Tryz.prog 53 #[.slice A n c] w fun e w' => ∃ g : Nat, e = .returned (.slice (some ⟨g, 0, none⟩) n n) ∧ Ext w w' ∧ w'.ownsRow w.heap.size 3 1 (.slice (some ⟨g, 0, none⟩) n n) n (xs.flatMap ienc) := by
  have hl := Lib.hid (hx.len ienc_len (by omega))
  have hin := info_Int
  cases hi : Tryz.prog.info? 3 with
  | none => rw [hi] at hin; cases hin
  | some i =>
  rw [hi] at hin
  simp only [Option.map_some, Option.some.injEq, Prod.mk.injEq, decide_eq_true_eq] at hin
  obtain ⟨hz0, hsz, hby⟩ := hin
  cases hz : i.zero with
  | none => rw [hz] at hz0; cases hz0
  | some z =>
  rw [hz] at hz0
  simp only [Option.map_some, Option.some.injEq] at hz0
  have hmk := make_row (P := Tryz.prog) 27 3 i z Tryz.underlying27 hi hz n (by have := Nat.mul_le_mul hby hn; omega) (by omega)
  rw [hsz] at hmk
  obtain ⟨cells, hcells⟩ : ∃ cells, cells = madeCells z.cells (n * 1) := ⟨_, rfl⟩
  rw [← hcells] at hmk
  have hcs : cells.size = n * 1 := by rw [hcells, size_madeCells]
  clear hcells hi hz hsz hby hz0
  go_enter Tryz.func53, Tryz.ntmps53
  go_wp2_with fail
  go_loopw [4] (fun i wr => ∃ (k : Nat) (cur : Array Value), k ≤ n ∧ i = .int .i64 k ∧ cur.size = n * 1 ∧ Hid (cur.toList.take (k * 1) = (xs.take k).flatMap ienc) ∧ Blk wr w.heap.size 3 cur ∧ Ext w wr) (fun i _ => n - (intOf i).toNat)
  case atStart => exact ⟨0, cells, Nat.zero_le _, rfl, hcs, by unfold Hid; simp, Blk.new _ _ _, (Ext.refl _).alloc _⟩
  case round =>
    obtain ⟨k, cur, hk, rfl, hcz, hz, hblk, hb⟩ := hrel
    clear hmk hcs
    by_cases hlt : k < n
    · obtain ⟨b, off, x, rfl, hbs, hxk, h0⟩ := ienc_at (hx.keep hb) hlt
      have HX := Lib.hid hxk
      have HB := Lib.hid hb
      clear hxk hb
      have c0 := hblk.cellAt (i := k) (by omega)
      have f0 := hblk.free (k)
      have HBk := Lib.hid hblk
      clear hblk
      go_wp2_with fail
      go_roundw
      case rel =>
        refine ⟨k + 1, setRow cur (k * 1) [.int .i64 x], by omega, by go_num, by rw [setRow_size]; exact hcz, ?_, ?_, ?_⟩
        · unfold Hid
          rw [take_snoc HX.out, List.flatMap_append]
          exact setRow_take (m := 1) rfl (by rw [hcz]; omega) hz.out
        · rw [Nat.mul_one]; exact Blk.sets [.int .i64 x] k HBk.out
        · exact Ext.sets [.int .i64 x] k HB.out (Nat.le_refl _)
      case measure => simp [intOf]; omega
    · obtain rfl : k = n := by omega
      go_wp2_with fail
      go_ret
      have h1 := hz.out
      rw [List.take_of_length_le (l := xs) (by rw [hl.out]; omega)] at h1
      exact ⟨w.heap.size, rfl, hb, own_of_blk (Nat.le_refl _) hblk hcz (by unfold maxLen; omega) h1⟩
set_option maxRecDepth 100000 in
set_option maxHeartbeats 1000000 in
theorem laws_eqIntS (A A' : Option Addr) (n c n' c' : Nat) (xs : List Int) (w : World) (hx : Rd w 1 A n (xs.flatMap ienc)) (hy : Rd w 1 A' n' (xs.flatMap ienc)) :
    Calls Tryz.prog 55 #[.slice A n c, .slice A' n' c'] w fun e w' => e = .returned (.bool true) ∧ Ext w w' := by
  have hn := hx.2.1
  obtain rfl : n = n' := by rw [← hx.len ienc_len (by omega), ← hy.len ienc_len (by omega)]
  go_enter Tryz.func55, Tryz.ntmps55
  go_wp2_with fail
  go_loopw [5] (fun i wr => ∃ k : Nat, k ≤ n ∧ i = .int .i64 k ∧ Ext w wr) (fun i _ => n - (intOf i).toNat)
  case atStart => exact ⟨0, Nat.zero_le _, rfl, Ext.refl _⟩
  case round =>
    obtain ⟨k, hk, rfl, hb⟩ := hrel
    by_cases hlt : k < n
    · obtain ⟨b, off, x, rfl, hbs, hxk, h0⟩ := ienc_at (hx.keep hb) hlt
      obtain ⟨b', off', y, rfl, hbs', hyk, g0⟩ := ienc_at (hy.keep hb) hlt
      obtain rfl : x = y := by rw [hyk] at hxk; simpa using hxk.symm
      clear hxk hyk
      have Hb := Lib.hid hb
      clear hb
      go_wp2_with fail
      go_quiet (fail)
      go_wp2_with fail
      go_roundw
      case rel => exact ⟨k + 1, by omega, by go_num, Hb.out.drewN _⟩
      case measure => simp [intOf]; omega
    · go_wp2_with fail
      go_ret
      exact ⟨rfl, hb⟩



set_option maxRecDepth 100000 in
set_option maxHeartbeats 400000 in
theorem laws_szActS (A : Option Addr) (n c : Nat) (left : Int) (w : World) (hl : 0 ≤ left) (hl2 : left ≤ 1048576) (hn : n ≤ 9223372036854775807) :
    Calls Tryz.prog 50 #[.slice A n c, .int .i64 left] w fun e w' => e = .returned (.int .i64 (if left < n then -1 else left - n)) ∧ w = w' := by
  go_enter Tryz.func50, Tryz.ntmps50
  by_cases h : left < n
  all_goals
    go_wp2
    go_ret
    exact ⟨rfl, rfl⟩
theorem info_Act : (Tryz.prog.info? 37).map (fun i => (i.zero.map (·.cells.size), i.size, decide (i.bytes ≤ 4096))) = some (some 5, 5, true) := by kernel_rfl
set_option maxRecDepth 100000 in
set_option maxHeartbeats 1000000 in
theorem laws_toActS (A : Option Addr) (n c : Nat) (xs : List GAct) (w : World) (hx : Rd w 5 A n (xs.flatMap GAct.enc)) (hn : n ≤ 1048576) :
    Calls Tryz.prog 52 #[.slice A n c] w fun e w' => ∃ g : Nat, e = .returned (.slice (some ⟨g, 0, none⟩) n n) ∧ Ext w w' ∧ w'.ownsRow w.heap.size 37 5 (.slice (some ⟨g, 0, none⟩) n n) n (xs.flatMap GAct.enc) := by
  have hl := Lib.hid (hx.len GAct.len (by omega))
  have hin := info_Act
  cases hi : Tryz.prog.info? 37 with
  | none => rw [hi] at hin; cases hin
  | some i =>
  rw [hi] at hin
  simp only [Option.map_some, Option.some.injEq, Prod.mk.injEq, decide_eq_true_eq] at hin
  obtain ⟨hz0, hsz, hby⟩ := hin
  cases hz : i.zero with
  | none => rw [hz] at hz0; cases hz0
  | some z =>
  rw [hz] at hz0
  simp only [Option.map_some, Option.some.injEq] at hz0
  have hmk := make_row (P := Tryz.prog) 31 37 i z Tryz.underlying31 hi hz n (by have := Nat.mul_le_mul hby hn; omega) (by omega)
  rw [hsz] at hmk
  obtain ⟨cells, hcells⟩ : ∃ cells, cells = madeCells z.cells (n * 5) := ⟨_, rfl⟩
  rw [← hcells] at hmk
  have hcs : cells.size = n * 5 := by rw [hcells, size_madeCells]
  clear hcells hi hz hsz hby hz0
  go_enter Tryz.func52, Tryz.ntmps52
  go_wp2_with fail
  go_loopw [4] (fun i wr => ∃ (k : Nat) (cur : Array Value), k ≤ n ∧ i = .int .i64 k ∧ cur.size = n * 5 ∧ Hid (cur.toList.take (k * 5) = (xs.take k).flatMap GAct.enc) ∧ Blk wr w.heap.size 37 cur ∧ Ext w wr) (fun i _ => n - (intOf i).toNat)
  case atStart => exact ⟨0, cells, Nat.zero_le _, rfl, hcs, by unfold Hid; simp, Blk.new _ _ _, (Ext.refl _).alloc _⟩
  case round =>
    obtain ⟨k, cur, hk, rfl, hcz, hz, hblk, hb⟩ := hrel
    clear hmk hcs
    by_cases hlt : k < n
    · obtain ⟨b, off, x, rfl, hbs, hxk, h0, h1, h2, h3, h4⟩ := GAct.at_ (hx.keep hb) hlt
      have HX := Lib.hid hxk
      have HB := Lib.hid hb
      clear hxk hb
      have c0 := hblk.cellAt (i := k * 5) (by omega)
      have f0 := hblk.free (k * 5)
      have c1 := hblk.cellAt (i := k * 5 + 1) (by omega)
      have f1 := hblk.free (k * 5 + 1)
      have c2 := hblk.cellAt (i := k * 5 + 2) (by omega)
      have f2 := hblk.free (k * 5 + 2)
      have c3 := hblk.cellAt (i := k * 5 + 3) (by omega)
      have f3 := hblk.free (k * 5 + 3)
      have c4 := hblk.cellAt (i := k * 5 + 4) (by omega)
      have f4 := hblk.free (k * 5 + 4)
      have HBk := Lib.hid hblk
      clear hblk
      go_wp2_with (go_at_call 56; refine (laws_toAct x _).mono ?_; rintro e w1 ⟨rfl, hb1⟩; have hblk1 := HBk.out.keep hb1; have c0 := hblk1.cellAt (i := k * 5) (by omega); have f0 := hblk1.free (k * 5); have c1 := hblk1.cellAt (i := k * 5 + 1) (by omega); have f1 := hblk1.free (k * 5 + 1); have c2 := hblk1.cellAt (i := k * 5 + 2) (by omega); have f2 := hblk1.free (k * 5 + 2); have c3 := hblk1.cellAt (i := k * 5 + 3) (by omega); have f3 := hblk1.free (k * 5 + 3); have c4 := hblk1.cellAt (i := k * 5 + 4) (by omega); have f4 := hblk1.free (k * 5 + 4); have HB1 := Lib.hid hb1; have HBk1 := Lib.hid hblk1; clear hb1 hblk1)
      go_roundw
      case rel =>
        refine ⟨k + 1, setRow cur (k * 5) [.int .i64 x.k, .int .i64 x.a, .int .i64 x.b, .int .i64 x.c, .int .i64 x.d], by omega, by go_num, by rw [setRow_size]; exact hcz, ?_, ?_, ?_⟩
        · unfold Hid
          rw [take_snoc HX.out, List.flatMap_append]
          exact setRow_take (m := 5) rfl (by rw [hcz]; omega) hz.out
        · exact Blk.sets [.int .i64 x.k, .int .i64 x.a, .int .i64 x.b, .int .i64 x.c, .int .i64 x.d] (k * 5) HBk1.out
        · exact Ext.sets [.int .i64 x.k, .int .i64 x.a, .int .i64 x.b, .int .i64 x.c, .int .i64 x.d] (k * 5) (HB.out.trans HB1.out) (Nat.le_refl _)
      case measure => simp [intOf]; omega
    · obtain rfl : k = n := by omega
      go_wp2_with fail
      go_ret
      have h1 := hz.out
      rw [List.take_of_length_le (l := xs) (by rw [hl.out]; omega)] at h1
      exact ⟨w.heap.size, rfl, hb, own_of_blk (Nat.le_refl _) hblk hcz (by unfold maxLen; omega) h1⟩
set_option maxRecDepth 100000 in
set_option maxHeartbeats 1000000 in
theorem laws_eqActS (A A' : Option Addr) (n c n' c' : Nat) (xs : List GAct) (w : World) (hx : Rd w 5 A n (xs.flatMap GAct.enc)) (hy : Rd w 5 A' n' (xs.flatMap GAct.enc)) :
    Calls Tryz.prog 54 #[.slice A n c, .slice A' n' c'] w fun e w' => e = .returned (.bool true) ∧ Ext w w' := by
  have hn := hx.2.1
  obtain rfl : n = n' := by rw [← hx.len GAct.len (by omega), ← hy.len GAct.len (by omega)]
  go_enter Tryz.func54, Tryz.ntmps54
  go_wp2_with fail
  go_loopw [5] (fun i wr => ∃ k : Nat, k ≤ n ∧ i = .int .i64 k ∧ Ext w wr) (fun i _ => n - (intOf i).toNat)
  case atStart => exact ⟨0, Nat.zero_le _, rfl, Ext.refl _⟩
  case round =>
    obtain ⟨k, hk, rfl, hb⟩ := hrel
    by_cases hlt : k < n
    · obtain ⟨b, off, x, rfl, hbs, hxk, h0, h1, h2, h3, h4⟩ := GAct.at_ (hx.keep hb) hlt
      obtain ⟨b', off', y, rfl, hbs', hyk, g0, g1, g2, g3, g4⟩ := GAct.at_ (hy.keep hb) hlt
      obtain rfl : x = y := by rw [hyk] at hxk; simpa using hxk.symm
      clear hxk hyk
      have Hb := Lib.hid hb
      clear hb
      go_wp2_with fail
      go_still_tail 8, (by kernel_rfl)
      change wpList _ _ _ _ _ wr.drew
      go_wp2_with (go_at_call 120; refine (laws_eqAct x x rfl _).mono ?_; rintro e w1 ⟨rfl, hb1⟩)
      go_roundw
      case rel => exact ⟨k + 1, by omega, by go_num, Hb.out.drew.trans hb1⟩
      case measure => simp [intOf]; omega
    · go_wp2_with fail
      go_ret
      exact ⟨rfl, hb⟩


set_option maxRecDepth 100000 in
set_option maxHeartbeats 400000 in
theorem laws_szDoorS (A : Option Addr) (n c : Nat) (left : Int) (w : World) (hl : 0 ≤ left) (hl2 : left ≤ 1048576) (hn : n ≤ 9223372036854775807) :
    Calls Tryz.prog 138 #[.slice A n c, .int .i64 left] w fun e w' => e = .returned (.int .i64 (if left < n then -1 else left - n)) ∧ w = w' := by
  go_enter Tryz.func138, Tryz.ntmps138
  by_cases h : left < n
  all_goals
    go_wp2
    go_ret
    exact ⟨rfl, rfl⟩
theorem info_Door : (Tryz.prog.info? 126).map (fun i => (i.zero.map (·.cells.size), i.size, decide (i.bytes ≤ 4096))) = some (some 2, 2, true) := by kernel_rfl
set_option maxRecDepth 100000 in
set_option maxHeartbeats 1000000 in
theorem laws_toDoorS (A : Option Addr) (n c : Nat) (xs : List GDoor) (w : World) (hx : Rd w 2 A n (xs.flatMap GDoor.enc)) (hn : n ≤ 1048576) :
    Calls Tryz.prog 142 #[.slice A n c] w fun e w' => ∃ g : Nat, e = .returned (.slice (some ⟨g, 0, none⟩) n n) ∧ Ext w w' ∧ w'.ownsRow w.heap.size 126 2 (.slice (some ⟨g, 0, none⟩) n n) n (xs.flatMap GDoor.enc) := by
  have hl := Lib.hid (hx.len GDoor.len (by omega))
  have hin := info_Door
  cases hi : Tryz.prog.info? 126 with
  | none => rw [hi] at hin; cases hin
  | some i =>
  rw [hi] at hin
  simp only [Option.map_some, Option.some.injEq, Prod.mk.injEq, decide_eq_true_eq] at hin
  obtain ⟨hz0, hsz, hby⟩ := hin
  cases hz : i.zero with
  | none => rw [hz] at hz0; cases hz0
  | some z =>
  rw [hz] at hz0
  simp only [Option.map_some, Option.some.injEq] at hz0
  have hmk := make_row (P := Tryz.prog) 24 126 i z Tryz.underlying24 hi hz n (by have := Nat.mul_le_mul hby hn; omega) (by omega)
  rw [hsz] at hmk
  obtain ⟨cells, hcells⟩ : ∃ cells, cells = madeCells z.cells (n * 2) := ⟨_, rfl⟩
  rw [← hcells] at hmk
  have hcs : cells.size = n * 2 := by rw [hcells, size_madeCells]
  clear hcells hi hz hsz hby hz0
  go_enter Tryz.func142, Tryz.ntmps142
  go_wp2_with fail
  go_loopw [4] (fun i wr => ∃ (k : Nat) (cur : Array Value), k ≤ n ∧ i = .int .i64 k ∧ cur.size = n * 2 ∧ Hid (cur.toList.take (k * 2) = (xs.take k).flatMap GDoor.enc) ∧ Blk wr w.heap.size 126 cur ∧ Ext w wr) (fun i _ => n - (intOf i).toNat)
  case atStart => exact ⟨0, cells, Nat.zero_le _, rfl, hcs, by unfold Hid; simp, Blk.new _ _ _, (Ext.refl _).alloc _⟩
  case round =>
    obtain ⟨k, cur, hk, rfl, hcz, hz, hblk, hb⟩ := hrel
    clear hmk hcs
    by_cases hlt : k < n
    · obtain ⟨b, off, x, rfl, hbs, hxk, h0, h1⟩ := GDoor.at_ (hx.keep hb) hlt
      have HX := Lib.hid hxk
      have HB := Lib.hid hb
      clear hxk hb
      have c0 := hblk.cellAt (i := k * 2) (by omega)
      have f0 := hblk.free (k * 2)
      have c1 := hblk.cellAt (i := k * 2 + 1) (by omega)
      have f1 := hblk.free (k * 2 + 1)
      have HBk := Lib.hid hblk
      clear hblk
      go_wp2_with (go_at_call 169; refine (laws_toDoor x _).mono ?_; rintro e w1 ⟨rfl, hb1⟩; have hblk1 := HBk.out.keep hb1; have c0 := hblk1.cellAt (i := k * 2) (by omega); have f0 := hblk1.free (k * 2); have c1 := hblk1.cellAt (i := k * 2 + 1) (by omega); have f1 := hblk1.free (k * 2 + 1); have HB1 := Lib.hid hb1; have HBk1 := Lib.hid hblk1; clear hb1 hblk1)
      go_roundw
      case rel =>
        refine ⟨k + 1, setRow cur (k * 2) [.int .i64 x.a, .int .i64 x.b], by omega, by go_num, by rw [setRow_size]; exact hcz, ?_, ?_, ?_⟩
        · unfold Hid
          rw [take_snoc HX.out, List.flatMap_append]
          exact setRow_take (m := 2) rfl (by rw [hcz]; omega) hz.out
        · exact Blk.sets [.int .i64 x.a, .int .i64 x.b] (k * 2) HBk1.out
        · exact Ext.sets [.int .i64 x.a, .int .i64 x.b] (k * 2) (HB.out.trans HB1.out) (Nat.le_refl _)
      case measure => simp [intOf]; omega
    · obtain rfl : k = n := by omega
      go_wp2_with fail
      go_ret
      have h1 := hz.out
      rw [List.take_of_length_le (l := xs) (by rw [hl.out]; omega)] at h1
      exact ⟨w.heap.size, rfl, hb, own_of_blk (Nat.le_refl _) hblk hcz (by unfold maxLen; omega) h1⟩
set_option maxRecDepth 100000 in
set_option maxHeartbeats 1000000 in
theorem laws_eqDoorS (A A' : Option Addr) (n c n' c' : Nat) (xs : List GDoor) (w : World) (hx : Rd w 2 A n (xs.flatMap GDoor.enc)) (hy : Rd w 2 A' n' (xs.flatMap GDoor.enc)) :
    Calls Tryz.prog 146 #[.slice A n c, .slice A' n' c'] w fun e w' => e = .returned (.bool true) ∧ Ext w w' := by
  have hn := hx.2.1
  obtain rfl : n = n' := by rw [← hx.len GDoor.len (by omega), ← hy.len GDoor.len (by omega)]
  go_enter Tryz.func146, Tryz.ntmps146
  go_wp2_with fail
  go_loopw [5] (fun i wr => ∃ k : Nat, k ≤ n ∧ i = .int .i64 k ∧ Ext w wr) (fun i _ => n - (intOf i).toNat)
  case atStart => exact ⟨0, Nat.zero_le _, rfl, Ext.refl _⟩
  case round =>
    obtain ⟨k, hk, rfl, hb⟩ := hrel
    by_cases hlt : k < n
    · obtain ⟨b, off, x, rfl, hbs, hxk, h0, h1⟩ := GDoor.at_ (hx.keep hb) hlt
      obtain ⟨b', off', y, rfl, hbs', hyk, g0, g1⟩ := GDoor.at_ (hy.keep hb) hlt
      obtain rfl : x = y := by rw [hyk] at hxk; simpa using hxk.symm
      clear hxk hyk
      have Hb := Lib.hid hb
      clear hb
      go_wp2_with fail
      go_still_tail 8, (by kernel_rfl)
      change wpList _ _ _ _ _ wr.drew
      go_wp2_with (go_at_call 171; refine (laws_eqDoor x x rfl _).mono ?_; rintro e w1 ⟨rfl, hb1⟩)
      go_roundw
      case rel => exact ⟨k + 1, by omega, by go_num, Hb.out.drew.trans hb1⟩
      case measure => simp [intOf]; omega
    · go_wp2_with fail
      go_ret
      exact ⟨rfl, hb⟩

end Go.Proofs.YtkelmeemblmggaaGreatDoor
/- Contracts of the laws' helpers that write over rows and ask for it again; no condition but what stands at each theorem. -/
namespace Go.Proofs.YtkelmeemblmggaaGreatDoor
set_option linter.unusedSimpArgs false
set_option linter.unusedVariables false
open Go.RowKit
def markB (k : Int) : Bool := k % 3 == 0
def markIntL (k : Int) (n : Nat) : List Int := (List.range n).map fun (i : Nat) => k + ↑i
theorem markIntL_len (k : Int) (n : Nat) : (markIntL k n).length = n := by simp [markIntL]
theorem markIntL_snoc (k : Int) (i : Nat) : markIntL k (i + 1) = markIntL k i ++ [k + ↑i] := by simp [markIntL, List.range_succ]
theorem markIntL_at (k : Int) (n : Nat) {i : Nat} (h : i < n) : (markIntL k n)[i]? = some (k + ↑i) := by simp [markIntL, h]
set_option maxRecDepth 100000 in
set_option maxHeartbeats 1000000 in
theorem laws_markIntS (A : Option Addr) (n c : Nat) (k : Int) (base : Nat) (L : List Value) (w : World) (ho : w.ownsRow base 3 1 (.slice A n c) n L) (hn : n ≤ 1048576) (hk0 : 0 ≤ k) (hk1 : k ≤ 1099511627776) :
    Calls Tryz.prog 63 #[.slice A n c, .int .i64 k] w fun e w' => e = .returned (.int .i64 (k + ↑n * 1)) ∧ w'.ownsRow base 3 1 (.slice A n c) n ((markIntL k n).flatMap ienc) ∧ w.grownBy w' (Value.slice A n c).ownBlock := by
  rcases own_block ho with ⟨rfl, rfl, rfl⟩ | ⟨g, cur0, rfl, hbg, hb0, hnc, hcm, hcs, ht⟩
  · go_enter Tryz.func63, Tryz.ntmps63
    go_wp2_with fail
    refine wp_loop_rounds 1 ?_
    rw [rounds_succ]
    go_wp2
    go_ret
    exact ⟨ret_int (by simp), World.ownsRow_nil _ _ _ _, grown_refl _ _⟩
  · go_enter Tryz.func63, Tryz.ntmps63
    go_wp2_with fail
    go_loopw [1, 5] (fun kv iv wr => ∃ (i : Nat) (cur : Array Value), i ≤ n ∧ iv = .int .i64 i ∧ kv = .int .i64 (k + ↑i * 1) ∧ cur.size = c * 1 ∧ Hid (cur.toList.take (i * 1) = (markIntL k i).flatMap ienc) ∧ Blk wr g 3 cur ∧ w.grownBy wr (some g)) (fun _ iv _ => n - (intOf iv).toNat)
    case atStart => exact ⟨0, cur0, Nat.zero_le _, rfl, by simp, hcs, by unfold Hid; simp [markIntL], hb0, grown_refl _ _⟩
    case round =>
      obtain ⟨i, cur, hi, rfl, rfl, hcz, hz, hblk, hg⟩ := hrel
      by_cases hlt : i < n
      · have hcm' := Nat.mul_le_mul_right 1 hnc
        have c0 := hblk.cellAt (i := i) (by omega)
        have f0 := hblk.free (i)
        have HBk := Lib.hid hblk
        have HG := Lib.hid hg
        clear hblk hg
        go_wp2_with fail
        go_roundw
        case rel =>
          refine ⟨i + 1, setRow cur (i * 1) [.int .i64 (k + ↑i)], by omega, by go_num, mark_num (by push_cast; omega), by rw [setRow_size]; exact hcz, ?_, ?_, ?_⟩
          · unfold Hid
            rw [markIntL_snoc, List.flatMap_append]
            exact setRow_take (m := 1) rfl (by rw [hcz]; omega) hz.out
          · rw [Nat.mul_one]; exact Blk.sets [.int .i64 (k + ↑i)] i HBk.out
          · exact grown_sets [.int .i64 (k + ↑i)] i HG.out
        case measure => simp [intOf]; omega
      · obtain rfl : i = n := by omega
        go_wp2_with fail
        go_ret
        refine ⟨ret_int (by first | rfl | omega), ⟨by rw [flat_len ienc 1 ienc_len, markIntL_len], .inr ⟨g, c, cur, rfl, hbg, hblk, hnc, hcm, hcz, hz.out⟩⟩, hg⟩
set_option maxRecDepth 100000 in
set_option maxHeartbeats 1000000 in
theorem laws_heldIntS (A : Option Addr) (n c : Nat) (k : Int) (w : World) (hx : Rd w 1 A n ((markIntL k n).flatMap ienc)) (hn : n ≤ 1048576) (hk0 : 0 ≤ k) (hk1 : k ≤ 1099511627776) :
    Calls Tryz.prog 64 #[.slice A n c, .int .i64 k] w fun e w' => e = .returned (.int .i64 (k + ↑n * 1)) ∧ Ext w w' := by
  go_enter Tryz.func64, Tryz.ntmps64
  go_wp2_with fail
  go_loopw [1, 5] (fun kv iv wr => ∃ (i : Nat), i ≤ n ∧ iv = .int .i64 i ∧ kv = .int .i64 (k + ↑i * 1) ∧ Ext w wr) (fun _ iv _ => n - (intOf iv).toNat)
  case atStart => exact ⟨0, Nat.zero_le _, rfl, by simp, Ext.refl _⟩
  case round =>
    obtain ⟨i, hi, rfl, rfl, hb⟩ := hrel
    by_cases hlt : i < n
    · obtain ⟨b, off, x, rfl, hbs, hxk, h0⟩ := ienc_at (hx.keep hb) hlt
      rw [markIntL_at k n hlt] at hxk
      injection hxk with hxk
      subst hxk
      have HB := Lib.hid hb
      clear hb
      go_wp2_with fail
      go_roundw
      case rel => exact ⟨i + 1, by omega, by go_num, mark_num (by push_cast; omega), HB.out⟩
      case measure => simp [intOf]; omega
    · obtain rfl : i = n := by omega
      go_wp2_with fail
      go_ret
      exact ⟨ret_int (by first | rfl | omega), hb⟩
def markShiftL (k : Int) (n : Nat) : List GShift := (List.range n).map fun (i : Nat) => ⟨k + ↑i * 3, k + ↑i * 3 + 1, k + ↑i * 3 + 1 + 1⟩
theorem markShiftL_len (k : Int) (n : Nat) : (markShiftL k n).length = n := by simp [markShiftL]
theorem markShiftL_snoc (k : Int) (i : Nat) : markShiftL k (i + 1) = markShiftL k i ++ [⟨k + ↑i * 3, k + ↑i * 3 + 1, k + ↑i * 3 + 1 + 1⟩] := by simp [markShiftL, List.range_succ]
theorem markShiftL_at (k : Int) (n : Nat) {i : Nat} (h : i < n) : (markShiftL k n)[i]? = some (⟨k + ↑i * 3, k + ↑i * 3 + 1, k + ↑i * 3 + 1 + 1⟩) := by simp [markShiftL, h]
def markLoanL (k : Int) (n : Nat) : List GLoan := (List.range n).map fun (i : Nat) => ⟨k + ↑i * 4, k + ↑i * 4 + 1, k + ↑i * 4 + 1 + 1, k + ↑i * 4 + 1 + 1 + 1⟩
theorem markLoanL_len (k : Int) (n : Nat) : (markLoanL k n).length = n := by simp [markLoanL]
theorem markLoanL_snoc (k : Int) (i : Nat) : markLoanL k (i + 1) = markLoanL k i ++ [⟨k + ↑i * 4, k + ↑i * 4 + 1, k + ↑i * 4 + 1 + 1, k + ↑i * 4 + 1 + 1 + 1⟩] := by simp [markLoanL, List.range_succ]
theorem markLoanL_at (k : Int) (n : Nat) {i : Nat} (h : i < n) : (markLoanL k n)[i]? = some (⟨k + ↑i * 4, k + ↑i * 4 + 1, k + ↑i * 4 + 1 + 1, k + ↑i * 4 + 1 + 1 + 1⟩) := by simp [markLoanL, h]
def markClimateL (k : Int) (n : Nat) : List GClimate := (List.range n).map fun (i : Nat) => ⟨k + ↑i * 3, k + ↑i * 3 + 1, k + ↑i * 3 + 1 + 1⟩
theorem markClimateL_len (k : Int) (n : Nat) : (markClimateL k n).length = n := by simp [markClimateL]
theorem markClimateL_snoc (k : Int) (i : Nat) : markClimateL k (i + 1) = markClimateL k i ++ [⟨k + ↑i * 3, k + ↑i * 3 + 1, k + ↑i * 3 + 1 + 1⟩] := by simp [markClimateL, List.range_succ]
theorem markClimateL_at (k : Int) (n : Nat) {i : Nat} (h : i < n) : (markClimateL k n)[i]? = some (⟨k + ↑i * 3, k + ↑i * 3 + 1, k + ↑i * 3 + 1 + 1⟩) := by simp [markClimateL, h]
def markCheckL (k : Int) (n : Nat) : List GCheck := (List.range n).map fun (i : Nat) => ⟨k + ↑i * 3, k + ↑i * 3 + 1, markB (k + ↑i * 3 + 1 + 1)⟩
theorem markCheckL_len (k : Int) (n : Nat) : (markCheckL k n).length = n := by simp [markCheckL]
theorem markCheckL_snoc (k : Int) (i : Nat) : markCheckL k (i + 1) = markCheckL k i ++ [⟨k + ↑i * 3, k + ↑i * 3 + 1, markB (k + ↑i * 3 + 1 + 1)⟩] := by simp [markCheckL, List.range_succ]
theorem markCheckL_at (k : Int) (n : Nat) {i : Nat} (h : i < n) : (markCheckL k n)[i]? = some (⟨k + ↑i * 3, k + ↑i * 3 + 1, markB (k + ↑i * 3 + 1 + 1)⟩) := by simp [markCheckL, h]
def markStayL (k : Int) (n : Nat) : List GStay := (List.range n).map fun (i : Nat) => ⟨k + ↑i * 4, k + ↑i * 4 + 1, k + ↑i * 4 + 1 + 1, k + ↑i * 4 + 1 + 1 + 1⟩
theorem markStayL_len (k : Int) (n : Nat) : (markStayL k n).length = n := by simp [markStayL]
theorem markStayL_snoc (k : Int) (i : Nat) : markStayL k (i + 1) = markStayL k i ++ [⟨k + ↑i * 4, k + ↑i * 4 + 1, k + ↑i * 4 + 1 + 1, k + ↑i * 4 + 1 + 1 + 1⟩] := by simp [markStayL, List.range_succ]
theorem markStayL_at (k : Int) (n : Nat) {i : Nat} (h : i < n) : (markStayL k n)[i]? = some (⟨k + ↑i * 4, k + ↑i * 4 + 1, k + ↑i * 4 + 1 + 1, k + ↑i * 4 + 1 + 1 + 1⟩) := by simp [markStayL, h]
def markDoorL (k : Int) (n : Nat) : List GDoor := (List.range n).map fun (i : Nat) => ⟨k + ↑i * 2, k + ↑i * 2 + 1⟩
theorem markDoorL_len (k : Int) (n : Nat) : (markDoorL k n).length = n := by simp [markDoorL]
theorem markDoorL_snoc (k : Int) (i : Nat) : markDoorL k (i + 1) = markDoorL k i ++ [⟨k + ↑i * 2, k + ↑i * 2 + 1⟩] := by simp [markDoorL, List.range_succ]
theorem markDoorL_at (k : Int) (n : Nat) {i : Nat} (h : i < n) : (markDoorL k n)[i]? = some (⟨k + ↑i * 2, k + ↑i * 2 + 1⟩) := by simp [markDoorL, h]
set_option maxRecDepth 100000 in
set_option maxHeartbeats 1000000 in
theorem laws_markDoorS (A : Option Addr) (n c : Nat) (k : Int) (base : Nat) (L : List Value) (w : World) (ho : w.ownsRow base 126 2 (.slice A n c) n L) (hn : n ≤ 1048576) (hk0 : 0 ≤ k) (hk1 : k ≤ 1099511627776) :
    Calls Tryz.prog 148 #[.slice A n c, .int .i64 k] w fun e w' => e = .returned (.int .i64 (k + ↑n * 2)) ∧ w'.ownsRow base 126 2 (.slice A n c) n ((markDoorL k n).flatMap GDoor.enc) ∧ w.grownBy w' (Value.slice A n c).ownBlock := by
  rcases own_block ho with ⟨rfl, rfl, rfl⟩ | ⟨g, cur0, rfl, hbg, hb0, hnc, hcm, hcs, ht⟩
  · go_enter Tryz.func148, Tryz.ntmps148
    go_wp2_with fail
    refine wp_loop_rounds 1 ?_
    rw [rounds_succ]
    go_wp2
    go_ret
    exact ⟨ret_int (by simp), World.ownsRow_nil _ _ _ _, grown_refl _ _⟩
  · go_enter Tryz.func148, Tryz.ntmps148
    go_wp2_with fail
    go_loopw [1, 5] (fun kv iv wr => ∃ (i : Nat) (cur : Array Value), i ≤ n ∧ iv = .int .i64 i ∧ kv = .int .i64 (k + ↑i * 2) ∧ cur.size = c * 2 ∧ Hid (cur.toList.take (i * 2) = (markDoorL k i).flatMap GDoor.enc) ∧ Blk wr g 126 cur ∧ w.grownBy wr (some g)) (fun _ iv _ => n - (intOf iv).toNat)
    case atStart => exact ⟨0, cur0, Nat.zero_le _, rfl, by simp, hcs, by unfold Hid; simp [markDoorL], hb0, grown_refl _ _⟩
    case round =>
      obtain ⟨i, cur, hi, rfl, rfl, hcz, hz, hblk, hg⟩ := hrel
      by_cases hlt : i < n
      · have hcm' := Nat.mul_le_mul_right 2 hnc
        have c0 := hblk.cellAt (i := i * 2) (by omega)
        have f0 := hblk.free (i * 2)
        have c1 := hblk.cellAt (i := i * 2 + 1) (by omega)
        have f1 := hblk.free (i * 2 + 1)
        have HBk := Lib.hid hblk
        have HG := Lib.hid hg
        clear hblk hg
        go_wp2_with fail
        go_roundw
        case rel =>
          refine ⟨i + 1, setRow cur (i * 2) [.int .i64 (k + ↑i * 2), .int .i64 (k + ↑i * 2 + 1)], by omega, by go_num, mark_num (by push_cast; omega), by rw [setRow_size]; exact hcz, ?_, ?_, ?_⟩
          · unfold Hid
            rw [markDoorL_snoc, List.flatMap_append]
            exact setRow_take (m := 2) rfl (by rw [hcz]; omega) hz.out
          · exact Blk.sets [.int .i64 (k + ↑i * 2), .int .i64 (k + ↑i * 2 + 1)] (i * 2) HBk.out
          · exact grown_sets [.int .i64 (k + ↑i * 2), .int .i64 (k + ↑i * 2 + 1)] (i * 2) HG.out
        case measure => simp [intOf]; omega
      · obtain rfl : i = n := by omega
        go_wp2_with fail
        go_ret
        refine ⟨ret_int (by first | rfl | omega), ⟨by rw [flat_len GDoor.enc 2 GDoor.len, markDoorL_len], .inr ⟨g, c, cur, rfl, hbg, hblk, hnc, hcm, hcz, hz.out⟩⟩, hg⟩
set_option maxRecDepth 100000 in
set_option maxHeartbeats 1000000 in
theorem laws_heldDoorS (A : Option Addr) (n c : Nat) (k : Int) (w : World) (hx : Rd w 2 A n ((markDoorL k n).flatMap GDoor.enc)) (hn : n ≤ 1048576) (hk0 : 0 ≤ k) (hk1 : k ≤ 1099511627776) :
    Calls Tryz.prog 149 #[.slice A n c, .int .i64 k] w fun e w' => e = .returned (.int .i64 (k + ↑n * 2)) ∧ Ext w w' := by
  go_enter Tryz.func149, Tryz.ntmps149
  go_wp2_with fail
  go_loopw [1, 5] (fun kv iv wr => ∃ (i : Nat), i ≤ n ∧ iv = .int .i64 i ∧ kv = .int .i64 (k + ↑i * 2) ∧ Ext w wr) (fun _ iv _ => n - (intOf iv).toNat)
  case atStart => exact ⟨0, Nat.zero_le _, rfl, by simp, Ext.refl _⟩
  case round =>
    obtain ⟨i, hi, rfl, rfl, hb⟩ := hrel
    by_cases hlt : i < n
    · obtain ⟨b, off, x, rfl, hbs, hxk, h0, h1⟩ := GDoor.at_ (hx.keep hb) hlt
      rw [markDoorL_at k n hlt] at hxk
      injection hxk with hxk
      subst hxk
      have HB := Lib.hid hb
      clear hb
      go_wp2_with fail
      go_roundw
      case rel => exact ⟨i + 1, by omega, by go_num, mark_num (by push_cast; omega), HB.out⟩
      case measure => simp [intOf]; omega
    · obtain rfl : i = n := by omega
      go_wp2_with fail
      go_ret
      exact ⟨ret_int (by first | rfl | omega), hb⟩
def markMoveL (k : Int) (n : Nat) : List GMove := (List.range n).map fun (i : Nat) => ⟨k + ↑i * 4, k + ↑i * 4 + 1, k + ↑i * 4 + 1 + 1, k + ↑i * 4 + 1 + 1 + 1⟩
theorem markMoveL_len (k : Int) (n : Nat) : (markMoveL k n).length = n := by simp [markMoveL]
theorem markMoveL_snoc (k : Int) (i : Nat) : markMoveL k (i + 1) = markMoveL k i ++ [⟨k + ↑i * 4, k + ↑i * 4 + 1, k + ↑i * 4 + 1 + 1, k + ↑i * 4 + 1 + 1 + 1⟩] := by simp [markMoveL, List.range_succ]
theorem markMoveL_at (k : Int) (n : Nat) {i : Nat} (h : i < n) : (markMoveL k n)[i]? = some (⟨k + ↑i * 4, k + ↑i * 4 + 1, k + ↑i * 4 + 1 + 1, k + ↑i * 4 + 1 + 1 + 1⟩) := by simp [markMoveL, h]
def markActL (k : Int) (n : Nat) : List GAct := (List.range n).map fun (i : Nat) => ⟨k + ↑i * 5, k + ↑i * 5 + 1, k + ↑i * 5 + 1 + 1, k + ↑i * 5 + 1 + 1 + 1, k + ↑i * 5 + 1 + 1 + 1 + 1⟩
theorem markActL_len (k : Int) (n : Nat) : (markActL k n).length = n := by simp [markActL]
theorem markActL_snoc (k : Int) (i : Nat) : markActL k (i + 1) = markActL k i ++ [⟨k + ↑i * 5, k + ↑i * 5 + 1, k + ↑i * 5 + 1 + 1, k + ↑i * 5 + 1 + 1 + 1, k + ↑i * 5 + 1 + 1 + 1 + 1⟩] := by simp [markActL, List.range_succ]
theorem markActL_at (k : Int) (n : Nat) {i : Nat} (h : i < n) : (markActL k n)[i]? = some (⟨k + ↑i * 5, k + ↑i * 5 + 1, k + ↑i * 5 + 1 + 1, k + ↑i * 5 + 1 + 1 + 1, k + ↑i * 5 + 1 + 1 + 1 + 1⟩) := by simp [markActL, h]
set_option maxRecDepth 100000 in
set_option maxHeartbeats 1000000 in
theorem laws_markActS (A : Option Addr) (n c : Nat) (k : Int) (base : Nat) (L : List Value) (w : World) (ho : w.ownsRow base 37 5 (.slice A n c) n L) (hn : n ≤ 1048576) (hk0 : 0 ≤ k) (hk1 : k ≤ 1099511627776) :
    Calls Tryz.prog 62 #[.slice A n c, .int .i64 k] w fun e w' => e = .returned (.int .i64 (k + ↑n * 5)) ∧ w'.ownsRow base 37 5 (.slice A n c) n ((markActL k n).flatMap GAct.enc) ∧ w.grownBy w' (Value.slice A n c).ownBlock := by
  rcases own_block ho with ⟨rfl, rfl, rfl⟩ | ⟨g, cur0, rfl, hbg, hb0, hnc, hcm, hcs, ht⟩
  · go_enter Tryz.func62, Tryz.ntmps62
    go_wp2_with fail
    refine wp_loop_rounds 1 ?_
    rw [rounds_succ]
    go_wp2
    go_ret
    exact ⟨ret_int (by simp), World.ownsRow_nil _ _ _ _, grown_refl _ _⟩
  · go_enter Tryz.func62, Tryz.ntmps62
    go_wp2_with fail
    go_loopw [1, 5] (fun kv iv wr => ∃ (i : Nat) (cur : Array Value), i ≤ n ∧ iv = .int .i64 i ∧ kv = .int .i64 (k + ↑i * 5) ∧ cur.size = c * 5 ∧ Hid (cur.toList.take (i * 5) = (markActL k i).flatMap GAct.enc) ∧ Blk wr g 37 cur ∧ w.grownBy wr (some g)) (fun _ iv _ => n - (intOf iv).toNat)
    case atStart => exact ⟨0, cur0, Nat.zero_le _, rfl, by simp, hcs, by unfold Hid; simp [markActL], hb0, grown_refl _ _⟩
    case round =>
      obtain ⟨i, cur, hi, rfl, rfl, hcz, hz, hblk, hg⟩ := hrel
      by_cases hlt : i < n
      · have hcm' := Nat.mul_le_mul_right 5 hnc
        have c0 := hblk.cellAt (i := i * 5) (by omega)
        have f0 := hblk.free (i * 5)
        have c1 := hblk.cellAt (i := i * 5 + 1) (by omega)
        have f1 := hblk.free (i * 5 + 1)
        have c2 := hblk.cellAt (i := i * 5 + 2) (by omega)
        have f2 := hblk.free (i * 5 + 2)
        have c3 := hblk.cellAt (i := i * 5 + 3) (by omega)
        have f3 := hblk.free (i * 5 + 3)
        have c4 := hblk.cellAt (i := i * 5 + 4) (by omega)
        have f4 := hblk.free (i * 5 + 4)
        have HBk := Lib.hid hblk
        have HG := Lib.hid hg
        clear hblk hg
        go_wp2_with fail
        go_roundw
        case rel =>
          refine ⟨i + 1, setRow cur (i * 5) [.int .i64 (k + ↑i * 5), .int .i64 (k + ↑i * 5 + 1), .int .i64 (k + ↑i * 5 + 1 + 1), .int .i64 (k + ↑i * 5 + 1 + 1 + 1), .int .i64 (k + ↑i * 5 + 1 + 1 + 1 + 1)], by omega, by go_num, mark_num (by push_cast; omega), by rw [setRow_size]; exact hcz, ?_, ?_, ?_⟩
          · unfold Hid
            rw [markActL_snoc, List.flatMap_append]
            exact setRow_take (m := 5) rfl (by rw [hcz]; omega) hz.out
          · exact Blk.sets [.int .i64 (k + ↑i * 5), .int .i64 (k + ↑i * 5 + 1), .int .i64 (k + ↑i * 5 + 1 + 1), .int .i64 (k + ↑i * 5 + 1 + 1 + 1), .int .i64 (k + ↑i * 5 + 1 + 1 + 1 + 1)] (i * 5) HBk.out
          · exact grown_sets [.int .i64 (k + ↑i * 5), .int .i64 (k + ↑i * 5 + 1), .int .i64 (k + ↑i * 5 + 1 + 1), .int .i64 (k + ↑i * 5 + 1 + 1 + 1), .int .i64 (k + ↑i * 5 + 1 + 1 + 1 + 1)] (i * 5) HG.out
        case measure => simp [intOf]; omega
      · obtain rfl : i = n := by omega
        go_wp2_with fail
        go_ret
        refine ⟨ret_int (by first | rfl | omega), ⟨by rw [flat_len GAct.enc 5 GAct.len, markActL_len], .inr ⟨g, c, cur, rfl, hbg, hblk, hnc, hcm, hcz, hz.out⟩⟩, hg⟩
end Go.Proofs.YtkelmeemblmggaaGreatDoor
/- A queue of ints: a row of the call's own that is appended to and cut at its head, beside another row that it must not touch; no condition but what stands at each theorem. -/
namespace Go.Proofs.YtkelmeemblmggaaGreatDoor
set_option linter.unusedSimpArgs false
set_option linter.unusedVariables false
open Go.RowKit
def QRow (w : World) (base : Nat) (av : List Nat) (t : TypeId) (v : Value) (L : List Int) : Prop :=
  ∃ g off cap, ∃ cur : Array Value, v = .slice (some ⟨g, off, none⟩) L.length cap ∧ base ≤ g ∧ (∀ x ∈ av, g ≠ x) ∧ Blk w g t cur ∧ off + cap ≤ cur.size ∧ L.length ≤ cap ∧ ∀ j, j < L.length → cur[off + j]? = some (.int .i64 (L.getD j 0))
section
variable {w w' : World} {base : Nat} {av : List Nat} {t : TypeId} {v : Value} {L : List Int}
theorem QRow.keep (h : QRow w base av t v L) (e : Ext w w') : QRow w' base av t v L := by
  obtain ⟨g, off, cap, cur, h1, h2, h3, h4, h5⟩ := h
  exact ⟨g, off, cap, cur, h1, h2, h3, h4.keep e, h5⟩
theorem QRow.far (h : QRow w base av t v L) {gF : Nat} (hF : gF ∈ av) (k : Nat) (x : Value) : QRow (w.setCell ⟨gF, k, none⟩ x) base av t v L := by
  obtain ⟨g, off, cap, cur, h1, h2, h3, h4, h5⟩ := h
  exact ⟨g, off, cap, cur, h1, h2, h3, h4.far (h3 gF hF) x, h5⟩
/-- Its form, and its cells. -/
theorem QRow.form (h : QRow w base av t v L) : ∃ g off cap, v = .slice (some ⟨g, off, none⟩) L.length cap ∧ base ≤ g ∧ (∀ x ∈ av, g ≠ x) ∧ g < w.heap.size ∧ ∀ j, j < L.length → w.cell? ⟨g, off + j, none⟩ = some (.int .i64 (L.getD j 0)) := by
  obtain ⟨g, off, cap, cur, h1, h2, h3, h4, h5, h6, h7⟩ := h
  exact ⟨g, off, cap, h1, h2, h3, h4.lt, fun j hj => by rw [h4.cell]; exact h7 j hj⟩
theorem QRow.other (h : QRow w base av t v L) {av' : List Nat} (ha : ∀ x ∈ av', x ∈ av ∨ w.heap.size ≤ x) : QRow w base av' t v L := by
  obtain ⟨g, off, cap, cur, h1, h2, h3, h4, h5⟩ := h
  refine ⟨g, off, cap, cur, h1, h2, fun x hx => ?_, h4, h5⟩
  rcases ha x hx with h | h
  · exact h3 x h
  · have := h4.lt; omega
theorem QRow.tail {P : Program} {t' : TypeId} {x : Int} (hu : P.underlying t' = some (.slice t)) (hs : ∀ w : World, (sizeOf t).run P w = .ok 1 w) (h : QRow w base av t v (x :: L)) :
    ∃ v', (∀ w1 : World, (Instr.slice t' v (some (.int .i64 1)) none none).run P w1 = .ok v' w1) ∧ QRow w base av t v' L := by
  obtain ⟨g, off, cap, cur, rfl, h2, h3, h4, h5, h6, h7⟩ := h
  have h6' : L.length + 1 ≤ cap := by simpa using h6
  have hb : ∀ (w1 : World) (code : BoundsCode), (Instr.sliceBound (.int .i64 1) (L.length + 1) code).run P w1 = .ok 1 w1 := by
    intro w1 code
    rw [run_sliceBound w1 .i64 1 (L.length + 1) code (by omega) (by omega)]
    rfl
  refine ⟨.slice (if cap = 1 then some ⟨g, off, none⟩ else some ⟨g, off + 1, none⟩) L.length (cap - 1), fun w1 => ?_, ?_⟩
  · simp only [Instr.slice, Sem.run_bind, run_underlying hu, Result.andThen, Instr.sliceBounds, List.length_cons, hb, hs, Sem.run_pure]
    by_cases hc : cap = 1
    · simp [hc]
    · simp [hc, add_none]
  · by_cases hc : cap = 1
    · rw [if_pos hc]
      refine ⟨g, off, cap - 1, cur, rfl, h2, h3, h4, by omega, by omega, fun j hj => ?_⟩
      omega
    · rw [if_neg hc]
      refine ⟨g, off + 1, cap - 1, cur, rfl, h2, h3, h4, by omega, by omega, fun j hj => ?_⟩
      have := h7 (j + 1) (by simp; omega)
      rw [show off + 1 + j = off + (j + 1) by omega, this]
      simp
end
theorem QRow.append {P : Program} {ops : Array Oper} {rest : List Oper} {o : Oper} {a : Act} {Q : Exit → Act → World → Prop} {st t : TypeId} (hE : EI P st t 1) (hgd : o.guard = none) (s x : Operand)
    (ho : o.op = .call { callee := .builtin .append, args := #[s, x], argTypes := #[st, st] }) (base : Nat) (av : List Nat) (W : World) (T : TypeId) (v : Value) (L : List Int) (hs : a.eval s = v) (hq : QRow W base av t v L) (z : Int)
    (hx : a.eval x = .slice (some ⟨W.heap.size, 0, none⟩) 1 1) (hn : L.length ≤ 1073741824) (hbase : base ≤ W.heap.size) (hgF : ∀ x ∈ av, x < W.heap.size)
    (h : ∀ v' w1, QRow w1 base av t v' (L ++ [z]) → (∀ b, Ext b W → b.heap.size ≤ base → Ext b w1) → (∀ x ∈ av, ∀ tt cs, Blk W x tt cs → Blk w1 x tt cs) → wpList P ops Q rest (a.put o.dst v') w1) : wpList P ops Q (o :: rest) a (W.alloc (.cells #[.int .i64 z] T)) := by
  obtain ⟨i, zz, hu, hi, hz, hsz, hby, hzs, h0⟩ := hE
  obtain ⟨g, off, cap, cur, rfl, h2, h3, h4, h5, h6, h7⟩ := hq
  have hgW := h4.lt
  have h4a := h4.keep ((Ext.refl W).alloc (.cells #[.int .i64 z] T))
  refine wpList_append_arg _ hgd s x st ho t i zz 1 i.bytes hu hi hz hsz rfl hzs h0 g off L.length cap (L.map (Value.int .i64)) hs (by simp) ?_ ⟨W.heap.size, 0, none⟩ 1 1 [.int .i64 z] hx (by simp) ?_ ?_ ?_ (by unfold maxLen; omega) ?_ ?_ ?_
  · intro j u hu'
    have hj : j < L.length := by have := (List.getElem?_eq_some_iff.1 hu').1; simpa using this
    rw [h4a.cell, h7 j hj, ← hu']
    simp [hj]
  · intro j u hu'
    rw [add_none, Nat.zero_add, World.cell?_alloc_new]
    simpa using hu'
  · intro u hu'; simp at hu'; subst hu'; rfl
  · intro hr j hj
    simp at hj
    subst hj
    rw [h4a.cell]
    refine ⟨?_, h4a.free _⟩
    have : off + L.length * 1 + 0 < cur.size := by omega
    rw [Array.getElem?_eq_getElem this]; rfl
  · have := Nat.mul_le_mul_left (L.length + 1) hby
    omega
  · intro hr
    refine h _ _ ?_ ?_ ?_
    · refine ⟨g, off, cap, cur.setIfInBounds (off + L.length * 1) (.int .i64 z), by simp, h2, h3, h4a.set _ _, by simpa using h5, by simpa using hr, fun j hj => ?_⟩
      simp only [List.length_append, List.length_cons, List.length_nil] at hj
      by_cases hjl : j = L.length
      · subst hjl
        have : off + L.length < cur.size := by omega
        simp [this]
      · rw [Array.getElem?_setIfInBounds, if_neg (by omega), h7 j (by omega)]
        simp [List.getElem?_append_left (show j < L.length by omega)]
    · intro b hb hbb
      exact (hb.alloc _).setCell (p := ⟨g, _, none⟩) (by simp only; omega) _
    · intro gF hgFm tt cs hc
      exact (hc.keep ((Ext.refl W).alloc _)).far (p := ⟨g, _, none⟩) (Ne.symm (h3 gF hgFm)) _
  · intro _ v' w' ho' hg
    obtain ⟨A', c', rfl, hnc⟩ := own_form ho'
    rcases own_block ho' with ⟨_, hl0, _⟩ | ⟨g', cur', rfl, hb', hB', hnc', _, hcs', ht'⟩
    · omega
    · have hs' : W.heap.size + 1 ≤ g' := by simpa using hb'
      refine h _ _ ?_ ?_ ?_
      · refine ⟨g', 0, c', cur', by simp, by omega, fun x hx => (by have := hgF x hx; omega), hB', by omega, by simpa using hnc', fun j hj => ?_⟩
        have h8 : (cur'.toList.take ((L.length + 1) * 1))[j]? = (L.map (Value.int .i64) ++ [.int .i64 z])[j]? := by rw [ht']
        simp only [List.length_append, List.length_cons, List.length_nil] at hj
        rw [List.getElem?_take, if_pos (by omega)] at h8
        rw [Nat.zero_add, ← Array.getElem?_toList, h8]
        have e : L.map (Value.int .i64) ++ [.int .i64 z] = (L ++ [z]).map (Value.int .i64) := by simp
        have hj2 : j < (L ++ [z]).length := by simp; omega
        rw [e, List.getElem?_map, List.getElem?_eq_getElem hj2, List.getD_eq_getElem?_getD, List.getElem?_eq_getElem hj2]
        rfl
      · intro b hb hbb
        exact (hb.alloc _).grown hg (fun k hk => by cases hk)
      · intro gF hgFm tt cs hc
        have hgF' := hgF gF hgFm
        have := hc.keep ((Ext.refl W).alloc (.cells #[.int .i64 z] T))
        unfold Blk at this ⊢
        rw [hg.block gF (by simp; omega) (by simp)]
        exact this
/-- A literal of one element. -/
theorem QRow.one (W : World) (base : Nat) (av : List Nat) (t : TypeId) (z : Int) (hb : base ≤ W.heap.size) (hg : ∀ x ∈ av, x < W.heap.size) : QRow (W.alloc (.cells #[.int .i64 z] t)) base av t (.slice (some ⟨W.heap.size, 0, none⟩) 1 1) [z] :=
  ⟨W.heap.size, 0, 1, #[.int .i64 z], rfl, hb, fun x hx => (by have := hg x hx; omega), Blk.new _ _ _, by simp, by simp, fun j hj => by simp at hj; subst hj; rfl⟩
theorem hsz_alloc (w : World) (o : Obj) : (w.alloc o).heap.size = w.heap.size + 1 := by simp
/-- A struct of two cells in a box. -/
theorem box2 (w : World) (v1 v2 : Value) (t : TypeId) (wb : World) (hwb : wb = w.alloc (.cells #[v1, v2] t)) :
    Ext w wb ∧ wb.heap.size = w.heap.size + 1 ∧ wb.cell? ⟨w.heap.size, 0, none⟩ = some v1 ∧ wb.cell? ⟨w.heap.size, 1, none⟩ = some v2 := by
  subst hwb
  exact ⟨(Ext.refl w).alloc _, by simp, by rw [World.cell?_alloc_new]; rfl, by rw [World.cell?_alloc_new]; rfl⟩
end Go.Proofs.YtkelmeemblmggaaGreatDoor
/- Contracts of the laws' helpers on houses; no condition but what stands at each theorem. -/
namespace Go.Proofs.YtkelmeemblmggaaGreatDoor
set_option linter.unusedSimpArgs false
set_option linter.unusedVariables false
open Go.RowKit
theorem laws_szHouse (H : Int) (A : Option Addr) (n c : Nat) (left : Int) (w : World) (hl : 0 ≤ left) (hl2 : left ≤ 1048576) (hn : n ≤ 9223372036854775807) :
    Calls Tryz.prog 83 #[.agg #[.int .i64 H, .slice A n c], .int .i64 left] w fun e w' => e = .returned (.int .i64 (if left < n then -1 else left - n)) ∧ Ext w w' := by
  by_cases h : left < n
  · go_enter Tryz.func83, Tryz.ntmps83
    go_wp2_with (go_at_call 138; refine (laws_szDoorS A n c left _ hl hl2 hn).mono ?_; rintro e w1 ⟨he, rfl⟩; rw [if_pos h] at he; subst he)
    go_ret
    exact ⟨by first | rfl | (rw [if_pos h]), (Ext.refl _).alloc _⟩
  · go_enter Tryz.func83, Tryz.ntmps83
    go_wp2_with (go_at_call 138; refine (laws_szDoorS A n c left _ hl hl2 hn).mono ?_; rintro e w1 ⟨he, rfl⟩; rw [if_neg h] at he; subst he)
    go_ret
    exact ⟨by first | rfl | (rw [if_neg h]) | (simp [show ¬ left < (n : Int) by omega]), (Ext.refl _).alloc _⟩
set_option maxRecDepth 100000 in
set_option maxHeartbeats 1000000 in
theorem laws_toHouse (H : Int) (A : Option Addr) (n c : Nat) (ds : List GDoor) (w : World) (hx : Rd w 2 A n (ds.flatMap GDoor.enc)) (hn : n ≤ 1048576) :
    Calls Tryz.prog 89 #[.agg #[.int .i64 H, .slice A n c]] w fun e w' => ∃ g : Nat, e = .returned (.agg #[.int .i64 H, .slice (some ⟨g, 0, none⟩) n n]) ∧ Ext w w' ∧ w'.ownsRow w.heap.size 126 2 (.slice (some ⟨g, 0, none⟩) n n) n (ds.flatMap GDoor.enc) := by
  have HX := Lib.hid hx
  clear hx
  go_enter Tryz.func89, Tryz.ntmps89
  go_wp2_with fail
  refine (laws_toDoorS A n c ds _ (HX.out.keep ((((Ext.refl w).alloc _).alloc _).alloc _)) hn).mono ?_
  rintro e w1 ⟨g, rfl, he1, ho1⟩
  have k1 := he1.cellAt (w.heap.size + 1) (by simp)
  have f1 := he1.frozenAt (w.heap.size + 1) (by simp)
  have k2 := he1.cellAt (w.heap.size + 1 + 1) (by simp)
  have f2 := he1.frozenAt (w.heap.size + 1 + 1) (by simp)
  have hs1 := he1.size
  simp at hs1
  have m1 : w1.heap.size ≠ w.heap.size + 1 := by omega
  have m2 : w1.heap.size ≠ w.heap.size + 1 + 1 := by omega
  have n1 : w.heap.size + 1 ≠ w.heap.size + 1 + 1 := by omega
  have n2 : w.heap.size + 1 + 1 ≠ w.heap.size + 1 := by omega
  have l1 : w.heap.size + 1 < w1.heap.size := by omega
  have l2 : w.heap.size + 1 + 1 < w1.heap.size := by omega
  have HO1 := Lib.hid (own_weak (base' := w.heap.size + 1 + 1 + 1) ho1 (by simp))
  have HE1 : Hid (Ext w w1) := (((((Ext.refl w).alloc _).alloc _).alloc _).trans he1)
  clear ho1 he1
  go_wp2_with fail
  refine bodyPost_ret (v := .agg #[.int .i64 H, .slice (some ⟨g, 0, none⟩) n n]) (by simp [results, Tryz.results89, go_sem, *]) rfl ⟨g, rfl, ?_, ?_⟩
  · have he := HE1.out
    (repeat (first | exact Ext.refl _ | assumption | refine Ext.alloc ?_ _ | refine Ext.drew ?_ | refine Ext.drewN ?_ _ | refine Ext.setCell ?_ (by first | (simp; done) | (simp; omega)) _ | refine Ext.trans ?_ (by assumption)))
  · exact own_weak (own_far (own_far (own_far HO1.out (by omega) _) (by omega) _) (by omega) _) (by omega)
set_option maxRecDepth 100000 in
set_option maxHeartbeats 1000000 in
theorem laws_eqHouse (H : Int) (A : Option Addr) (n c : Nat) (A' : Option Addr) (n' c' : Nat) (ds : List GDoor) (w : World) (hx : Rd w 2 A n (ds.flatMap GDoor.enc)) (hy : Rd w 2 A' n' (ds.flatMap GDoor.enc)) :
    Calls Tryz.prog 94 #[.agg #[.int .i64 H, .slice A n c], .agg #[.int .i64 H, .slice A' n' c']] w fun e w' => e = .returned (.bool true) ∧ Ext w w' := by
  have HX := Lib.hid hx
  have HY := Lib.hid hy
  clear hx hy
  obtain ⟨wb, hwb⟩ : ∃ wb, wb = (w.alloc (.cells #[.int .i64 H, .slice A n c] 26)).alloc (.cells #[.int .i64 H, .slice A' n' c'] 26) := ⟨_, rfl⟩
  have HE : Hid (Ext w wb) := by unfold Hid; rw [hwb]; exact ((Ext.refl w).alloc _).alloc _
  have HC := Lib.hid (laws_eqDoorS A A' n c n' c' ds wb (HX.out.keep HE.out) (HY.out.keep HE.out))
  have Hwb := Lib.hid hwb
  clear hwb
  go_enter Tryz.func94, Tryz.ntmps94
  go_wp2_with fail
  rw [← Hwb.out]
  refine HC.out.mono ?_
  rintro e w1 ⟨rfl, he1⟩
  go_wp2_with fail
  go_ret
  exact ⟨rfl, HE.out.trans he1⟩
theorem laws_markHouse (H : Int) (A : Option Addr) (n c : Nat) (k : Int) (base : Nat) (L : List Value) (w : World) (ho : w.ownsRow base 126 2 (.slice A n c) n L) (hn : n ≤ 1048576) (hk0 : 0 ≤ k) (hk1 : k ≤ 1099511627776) :
    Calls Tryz.prog 96 #[.agg #[.int .i64 H, .slice A n c], .int .i64 k] w fun e w' => e = .returned (.int .i64 (k + ↑n * 2)) ∧ w'.ownsRow base 126 2 (.slice A n c) n ((markDoorL k n).flatMap GDoor.enc) ∧ w.grownBy w' (Value.slice A n c).ownBlock := by
  have HC := Lib.hid (laws_markDoorS A n c k base L _ (own_keep ho ((Ext.refl w).alloc (.cells #[.int .i64 H, .slice A n c] 26))) hn hk0 hk1)
  have HG : Hid (w.grownBy (w.alloc (.cells #[.int .i64 H, .slice A n c] 26)) (Value.slice A n c).ownBlock) := ⟨rfl, rfl, rfl, by simp, fun k hk _ => heap_alloc_old w _ hk⟩
  clear ho
  go_enter Tryz.func96, Tryz.ntmps96
  go_wp2_with fail
  refine HC.out.mono ?_
  rintro e w1 ⟨rfl, ho1, hg1⟩
  have HO1 := Lib.hid ho1
  have HG1 := Lib.hid hg1
  clear ho1 hg1
  go_wp2_with fail
  go_ret
  exact ⟨rfl, HO1.out, grown_trans HG.out HG1.out⟩
end Go.Proofs.YtkelmeemblmggaaGreatDoor
/- Entries of a record and museums as Lean structures, and how their cells stand; no condition but what stands at each theorem. -/
namespace Go.Proofs.YtkelmeemblmggaaGreatDoor
set_option linter.unusedSimpArgs false
set_option linter.unusedVariables false
open Go.RowKit Go.ChangeShapes Go.WideShapes Go.Deep Go.Sort
/-- An entry; its text is no longer than a string can be. -/
structure GEntry where
  m : Int
  x : ByteArray
  s : Int
  h : x.size ≤ 9223372036854775807
def GEntry.enc (e : GEntry) : List Value := [.int .i64 e.m, .string e.x, .int .i64 e.s]
theorem GEntry.len (e : GEntry) : e.enc.length = 3 := rfl
theorem GEntry.at_ {w : World} {A : Option Addr} {n k : Nat} {xs : List GEntry} (h : Rd w 3 A n (xs.flatMap GEntry.enc)) (hk : k < n) :
    ∃ (b off : Nat) (x : GEntry), A = some ⟨b, off, none⟩ ∧ b < w.heap.size ∧ xs[k]? = some x ∧ w.cell? ⟨b, off + k * 3, none⟩ = some (.int .i64 x.m) ∧ w.cell? ⟨b, off + k * 3 + 1, none⟩ = some (.string x.x) ∧ w.cell? ⟨b, off + k * 3 + 2, none⟩ = some (.int .i64 x.s) :=
  Rd.at3 (p := fun (s : GEntry) => .int .i64 s.m) (q := fun s => .string s.x) (r := fun s => .int .i64 s.s) (fun _ => rfl) h hk
structure GMuseum where
  H : Int
  ds : List GDoor
  fs : List Int
  ps : List Int
  gs : List Int
  d : Int
  rs : List GEntry
/-- A slice's three parts. -/
structure SL where
  A : Option Addr
  n : Nat
  c : Nat
/-- A museum's value: its numbers and the places of its five rows. -/
structure MV where
  H : Int
  sd : SL
  sf : SL
  sp : SL
  sg : SL
  d : Int
  sr : SL
def MV.cells (v : MV) : Array Value := #[.int .i64 v.H, .slice v.sd.A v.sd.n v.sd.c, .slice v.sf.A v.sf.n v.sf.c, .slice v.sp.A v.sp.n v.sp.c, .slice v.sg.A v.sg.n v.sg.c, .int .i64 v.d, .slice v.sr.A v.sr.n v.sr.c]
def MV.val (v : MV) : Value := .agg v.cells
/-- The value v reads as the museum m. -/
structure MRd (w : World) (v : MV) (m : GMuseum) : Prop where
  eH : v.H = m.H
  ed : v.d = m.d
  rd : Rd w 2 v.sd.A v.sd.n (m.ds.flatMap GDoor.enc)
  rf : Rd w 1 v.sf.A v.sf.n (m.fs.flatMap ienc)
  rp : Rd w 1 v.sp.A v.sp.n (m.ps.flatMap ienc)
  rg : Rd w 1 v.sg.A v.sg.n (m.gs.flatMap ienc)
  rr : Rd w 3 v.sr.A v.sr.n (m.rs.flatMap GEntry.enc)
theorem MRd.keep {w w' : World} {v : MV} {m : GMuseum} (h : MRd w v m) (e : Ext w w') : MRd w' v m :=
  ⟨h.eH, h.ed, h.rd.keep e, h.rf.keep e, h.rp.keep e, h.rg.keep e, h.rr.keep e⟩
/-- The cells of a museum in a box. -/
structure MBox (w : World) (b : Nat) (v : MV) : Prop where
  lt : b < w.heap.size
  c0 : w.cell? ⟨b, 0, none⟩ = some (.int .i64 v.H)
  c1 : w.cell? ⟨b, 1, none⟩ = some (.slice v.sd.A v.sd.n v.sd.c)
  c2 : w.cell? ⟨b, 2, none⟩ = some (.slice v.sf.A v.sf.n v.sf.c)
  c3 : w.cell? ⟨b, 3, none⟩ = some (.slice v.sp.A v.sp.n v.sp.c)
  c4 : w.cell? ⟨b, 4, none⟩ = some (.slice v.sg.A v.sg.n v.sg.c)
  c5 : w.cell? ⟨b, 5, none⟩ = some (.int .i64 v.d)
  c6 : w.cell? ⟨b, 6, none⟩ = some (.slice v.sr.A v.sr.n v.sr.c)
theorem MBox.keep {w w' : World} {b : Nat} {v : MV} (h : MBox w b v) (e : Ext w w') : MBox w' b v := by
  have k := fun o => e.cellAt b h.lt o
  exact ⟨Nat.lt_of_lt_of_le h.lt e.size, (k 0).trans h.c0, (k 1).trans h.c1, (k 2).trans h.c2, (k 3).trans h.c3, (k 4).trans h.c4, (k 5).trans h.c5, (k 6).trans h.c6⟩
theorem MBox.new {w wb : World} {v : MV} {t : TypeId} (h : wb = w.alloc (.cells v.cells t)) : MBox wb w.heap.size v := by
  subst h
  refine ⟨by simp, ?_, ?_, ?_, ?_, ?_, ?_, ?_⟩ <;> (rw [World.cell?_alloc_new]; rfl)
theorem MBox.regrown {w : World} {b : Nat} {v : MV} (h : MBox w b v) (d : Nat) (os : Array Obj) : MBox (grow (redrawn w d) os) b v := h.keep (ext_rg w d os)
theorem opens_Entry : Opens Tryz.prog 146 GEntry.enc := by
  intro H enc w n cs x h
  obtain ⟨hl, hf⟩ := open_fields Tryz.underlying146 (by kernel_rfl) (by kernel_rfl) h
  obtain ⟨v0, n0, y0, e0, r0⟩ := hf 0 _ rfl
  obtain ⟨z0, rfl, _⟩ := int_of_trod Tryz.underlying3 r0
  obtain ⟨v1, n1, y1, e1, r1⟩ := hf 1 _ rfl
  obtain ⟨z1, rfl, hz1⟩ := string_of_trod Tryz.underlying9 r1
  obtain ⟨v2, n2, y2, e2, r2⟩ := hf 2 _ rfl
  obtain ⟨z2, rfl, _⟩ := int_of_trod Tryz.underlying3 r2
  exact ⟨⟨z0, z1, z2, by unfold maxLen at hz1; omega⟩, by
    apply List.ext_getElem? ; intro i
    have hs : cs.length = 3 := hl
    match i with
    | 0 => rw [e0]; rfl
    | 1 => rw [e1]; rfl
    | 2 => rw [e2]; rfl
    | i + 3 => rw [List.getElem?_eq_none (by omega), List.getElem?_eq_none (by simp [GEntry.enc])]⟩
end Go.Proofs.YtkelmeemblmggaaGreatDoor
/- Contracts of the laws' helpers on entries and museums; no condition but what stands at each theorem. -/
namespace Go.Proofs.YtkelmeemblmggaaGreatDoor
set_option linter.unusedSimpArgs false
set_option linter.unusedVariables false
open Go.RowKit Go.Sort
set_option maxRecDepth 100000 in
set_option maxHeartbeats 400000 in
theorem laws_toEntry (s : GEntry) (w : World) :
    Calls Tryz.prog 143 #[.agg #[.int .i64 s.m, .string s.x, .int .i64 s.s]] w fun e w' => e = .returned (.agg #[.int .i64 s.m, .string s.x, .int .i64 s.s]) ∧ Ext w w' := by
  go_enter Tryz.func143, Tryz.ntmps143
  go_wp2
  refine bodyPost_ret (v := .agg #[.int .i64 s.m, .string s.x, .int .i64 s.s]) (by simp [results, Tryz.results143, go_sem]) rfl ⟨rfl, ?_⟩
  (repeat (first | exact Ext.refl _ | assumption | refine Ext.alloc ?_ _ | refine Ext.drew ?_ | refine Ext.drewN ?_ _ | refine Ext.setCell ?_ (by first | (simp; done) | (simp; omega)) _ | refine Ext.trans ?_ (by assumption)))
set_option maxRecDepth 100000 in
set_option maxHeartbeats 1000000 in
theorem laws_eqEntry (a b : GEntry) (hab : a = b) (w : World) :
    Calls Tryz.prog 147 #[.agg #[.int .i64 a.m, .string a.x, .int .i64 a.s], .agg #[.int .i64 b.m, .string b.x, .int .i64 b.s]] w fun e w' => e = .returned (.bool true) ∧ Ext w w' := by
  subst hab
  go_enter Tryz.func147, Tryz.ntmps147
  go_wp2
  all_goals go_ret
  all_goals refine ⟨rfl, ?_⟩
  all_goals (repeat (first | exact Ext.refl _ | assumption | refine Ext.alloc ?_ _ | refine Ext.drew ?_ | refine Ext.drewN ?_ _ | refine Ext.setCell ?_ (by first | (simp; done) | (simp; omega)) _ | refine Ext.trans ?_ (by assumption)))
theorem info_Entry : (Tryz.prog.info? 43).map (fun i => (i.zero.map (·.cells.size), i.size, decide (i.bytes ≤ 4096))) = some (some 3, 3, true) := by kernel_rfl
set_option maxRecDepth 100000 in
set_option maxHeartbeats 1000000 in
theorem laws_toEntryS (A : Option Addr) (n c : Nat) (xs : List GEntry) (w : World) (hx : Rd w 3 A n (xs.flatMap GEntry.enc)) (hn : n ≤ 1048576) :
    Calls Tryz.prog 90 #[.slice A n c] w fun e w' => ∃ g : Nat, e = .returned (.slice (some ⟨g, 0, none⟩) n n) ∧ Ext w w' ∧ w'.ownsRow w.heap.size 43 3 (.slice (some ⟨g, 0, none⟩) n n) n (xs.flatMap GEntry.enc) := by
  have hl := Lib.hid (hx.len GEntry.len (by omega))
  have hin := info_Entry
  cases hi : Tryz.prog.info? 43 with
  | none => rw [hi] at hin; cases hin
  | some i =>
  rw [hi] at hin
  simp only [Option.map_some, Option.some.injEq, Prod.mk.injEq, decide_eq_true_eq] at hin
  obtain ⟨hz0, hsz, hby⟩ := hin
  cases hz : i.zero with
  | none => rw [hz] at hz0; cases hz0
  | some z =>
  rw [hz] at hz0
  simp only [Option.map_some, Option.some.injEq] at hz0
  have hmk := make_row (P := Tryz.prog) 28 43 i z Tryz.underlying28 hi hz n (by have := Nat.mul_le_mul hby hn; omega) (by omega)
  rw [hsz] at hmk
  obtain ⟨cells, hcells⟩ : ∃ cells, cells = madeCells z.cells (n * 3) := ⟨_, rfl⟩
  rw [← hcells] at hmk
  have hcs : cells.size = n * 3 := by rw [hcells, size_madeCells]
  clear hcells hi hz hsz hby hz0
  go_enter Tryz.func90, Tryz.ntmps90
  go_wp2_with fail
  go_loopw [4] (fun i wr => ∃ (k : Nat) (cur : Array Value), k ≤ n ∧ i = .int .i64 k ∧ cur.size = n * 3 ∧ Hid (cur.toList.take (k * 3) = (xs.take k).flatMap GEntry.enc) ∧ Blk wr w.heap.size 43 cur ∧ Ext w wr) (fun i _ => n - (intOf i).toNat)
  case atStart => exact ⟨0, cells, Nat.zero_le _, rfl, hcs, by unfold Hid; simp, Blk.new _ _ _, (Ext.refl _).alloc _⟩
  case round =>
    obtain ⟨k, cur, hk, rfl, hcz, hz, hblk, hb⟩ := hrel
    clear hmk hcs
    by_cases hlt : k < n
    · obtain ⟨b, off, x, rfl, hbs, hxk, h0, h1, h2⟩ := GEntry.at_ (hx.keep hb) hlt
      have HX := Lib.hid hxk
      have HB := Lib.hid hb
      clear hxk hb
      have c0 := hblk.cellAt (i := k * 3) (by omega)
      have f0 := hblk.free (k * 3)
      have c1 := hblk.cellAt (i := k * 3 + 1) (by omega)
      have f1 := hblk.free (k * 3 + 1)
      have c2 := hblk.cellAt (i := k * 3 + 2) (by omega)
      have f2 := hblk.free (k * 3 + 2)
      have HBk := Lib.hid hblk
      clear hblk
      go_wp2_with (go_at_call 143; refine (laws_toEntry x _).mono ?_; rintro e w1 ⟨rfl, hb1⟩; have hblk1 := HBk.out.keep hb1; have c0 := hblk1.cellAt (i := k * 3) (by omega); have f0 := hblk1.free (k * 3); have c1 := hblk1.cellAt (i := k * 3 + 1) (by omega); have f1 := hblk1.free (k * 3 + 1); have c2 := hblk1.cellAt (i := k * 3 + 2) (by omega); have f2 := hblk1.free (k * 3 + 2); have HB1 := Lib.hid hb1; have HBk1 := Lib.hid hblk1; clear hb1 hblk1)
      go_roundw
      case rel =>
        refine ⟨k + 1, setRow cur (k * 3) [.int .i64 x.m, .string x.x, .int .i64 x.s], by omega, by go_num, by rw [setRow_size]; exact hcz, ?_, ?_, ?_⟩
        · unfold Hid
          rw [take_snoc HX.out, List.flatMap_append]
          exact setRow_take (m := 3) rfl (by rw [hcz]; omega) hz.out
        · exact Blk.sets [.int .i64 x.m, .string x.x, .int .i64 x.s] (k * 3) HBk1.out
        · exact Ext.sets [.int .i64 x.m, .string x.x, .int .i64 x.s] (k * 3) (HB.out.trans HB1.out) (Nat.le_refl _)
      case measure => simp [intOf]; omega
    · obtain rfl : k = n := by omega
      go_wp2_with fail
      go_ret
      have h1 := hz.out
      rw [List.take_of_length_le (l := xs) (by rw [hl.out]; omega)] at h1
      exact ⟨w.heap.size, rfl, hb, own_of_blk (Nat.le_refl _) hblk hcz (by unfold maxLen; omega) h1⟩
set_option maxRecDepth 100000 in
set_option maxHeartbeats 1000000 in
theorem laws_eqEntryS (A A' : Option Addr) (n c n' c' : Nat) (xs : List GEntry) (w : World) (hx : Rd w 3 A n (xs.flatMap GEntry.enc)) (hy : Rd w 3 A' n' (xs.flatMap GEntry.enc)) :
    Calls Tryz.prog 95 #[.slice A n c, .slice A' n' c'] w fun e w' => e = .returned (.bool true) ∧ Ext w w' := by
  have hn := hx.2.1
  obtain rfl : n = n' := by rw [← hx.len GEntry.len (by omega), ← hy.len GEntry.len (by omega)]
  go_enter Tryz.func95, Tryz.ntmps95
  go_wp2_with fail
  go_loopw [5] (fun i wr => ∃ k : Nat, k ≤ n ∧ i = .int .i64 k ∧ Ext w wr) (fun i _ => n - (intOf i).toNat)
  case atStart => exact ⟨0, Nat.zero_le _, rfl, Ext.refl _⟩
  case round =>
    obtain ⟨k, hk, rfl, hb⟩ := hrel
    by_cases hlt : k < n
    · obtain ⟨b, off, x, rfl, hbs, hxk, h0, h1, h2⟩ := GEntry.at_ (hx.keep hb) hlt
      obtain ⟨b', off', y, rfl, hbs', hyk, g0, g1, g2⟩ := GEntry.at_ (hy.keep hb) hlt
      obtain rfl : x = y := by rw [hyk] at hxk; simpa using hxk.symm
      clear hxk hyk
      have Hb := Lib.hid hb
      clear hb
      go_wp2_with fail
      go_still_tail 8, (by kernel_rfl)
      change wpList _ _ _ _ _ wr.drew
      go_wp2_with (go_at_call 147; refine (laws_eqEntry x x rfl _).mono ?_; rintro e w1 ⟨rfl, hb1⟩)
      go_roundw
      case rel => exact ⟨k + 1, by omega, by go_num, Hb.out.drew.trans hb1⟩
      case measure => simp [intOf]; omega
    · go_wp2_with fail
      go_ret
      exact ⟨rfl, hb⟩
def bulkE (xs : List GEntry) : Int := xs.foldr (fun e t => (e.x.size : Int) + t) 0
theorem bulkE_nn : ∀ xs : List GEntry, 0 ≤ bulkE xs
  | [] => by simp [bulkE]
  | e :: r => by have := bulkE_nn r; simp only [bulkE, List.foldr_cons] at *; omega
theorem bulkE_cons (e : GEntry) (r : List GEntry) : bulkE (e :: r) = (e.x.size : Int) + bulkE r := rfl
set_option maxRecDepth 100000 in
set_option maxHeartbeats 400000 in
theorem laws_szEntry (e : GEntry) (left : Int) (w : World) (h0 : 0 ≤ left) (h1 : left ≤ 1048576) :
    Calls Tryz.prog 139 #[.agg #[.int .i64 e.m, .string e.x, .int .i64 e.s], .int .i64 left] w fun r w' => r = .returned (.int .i64 (if left < e.x.size then -1 else left - e.x.size)) ∧ Ext w w' := by
  have hx := e.h
  by_cases h : left < e.x.size
  all_goals
    go_enter Tryz.func139, Tryz.ntmps139
    go_wp2
    go_ret
    refine ⟨ret_int (by simp [h]), ?_⟩
    (repeat (first | exact Ext.refl _ | assumption | refine Ext.alloc ?_ _ | refine Ext.drew ?_ | refine Ext.drewN ?_ _ | refine Ext.setCell ?_ (by first | (simp; done) | (simp; omega)) _ | refine Ext.trans ?_ (by assumption)))
set_option maxRecDepth 100000 in
set_option maxHeartbeats 1000000 in
theorem laws_szEntryS (A : Option Addr) (n c : Nat) (xs : List GEntry) (left : Int) (w : World) (hx : Rd w 3 A n (xs.flatMap GEntry.enc)) (h0 : 0 ≤ left) (h1 : left ≤ 1048576) :
    Calls Tryz.prog 85 #[.slice A n c, .int .i64 left] w fun r w' => r = .returned (.int .i64 (if left < (n : Int) + bulkE xs then -1 else left - ((n : Int) + bulkE xs))) ∧ Ext w w' := by
  have hn := hx.2.1
  have hl := Lib.hid (hx.len GEntry.len (by omega))
  have hB := bulkE_nn xs
  obtain ⟨r, hr⟩ : ∃ r, r = (if left < (n : Int) + bulkE xs then -1 else left - ((n : Int) + bulkE xs)) := ⟨_, rfl⟩
  rw [← hr]
  have HR := Lib.hid hr
  have HX := Lib.hid hx
  clear hr hx
  by_cases q0 : left < n
  case pos =>
    have HQ : Hid (r = -1) := by unfold Hid; rw [HR.out, if_pos (by omega)]
    go_enter Tryz.func85, Tryz.ntmps85
    go_wp2
    go_ret
    exact ⟨ret_int (by rw [HQ.out]), Ext.refl _⟩
  have HB := Lib.hid hB
  clear hB
  go_enter Tryz.func85, Tryz.ntmps85
  go_wp2_with fail
  go_loopw [1, 5] (fun z i wr => ∃ (k : Nat) (a : Int), k ≤ n ∧ i = .int .i64 k ∧ z = .int .i64 a ∧ 0 ≤ a ∧ a ≤ 1048576 ∧ Hid (left - ((n : Int) + bulkE xs) = a - bulkE (xs.drop k)) ∧ Ext w wr) (fun _ i _ => n - (intOf i).toNat)
  case atStart => exact ⟨0, left - n, Nat.zero_le _, rfl, by first | rfl | (rw [IntWalk.wrap64_in _ ⟨by omega, by omega⟩]), by omega, by omega, by unfold Hid; rw [List.drop_zero]; omega, Ext.refl _⟩
  case round =>
    obtain ⟨k, a, hk, rfl, rfl, ha0, ha1, hz, hb⟩ := hrel
    by_cases hlt : k < n
    · obtain ⟨b, off, x, rfl, hbs, hxk, p0, p1, p2⟩ := GEntry.at_ (HX.out.keep hb) hlt
      have HD := Lib.hid (drop_cons hxk)
      have hnn := bulkE_nn (xs.drop (k + 1))
      have hxh := x.h
      have HBb := Lib.hid hb
      clear hxk hb
      by_cases q : a < x.x.size
      · have HQ : Hid (r = -1) := by
          have h2 := hz.out
          rw [HD.out, bulkE_cons] at h2
          unfold Hid; rw [HR.out, if_pos (by omega)]
        clear hnn
        go_wp2_with (go_at_call 139; refine (laws_szEntry x a _ ha0 ha1).mono ?_; rintro e w1 ⟨he, hb1⟩; rw [if_pos q] at he; subst he; have HB1 := Lib.hid hb1; clear hb1)
        go_ret
        exact ⟨ret_int (by rw [HQ.out]), HBb.out.trans HB1.out⟩
      · have HQ : Hid (left - ((n : Int) + bulkE xs) = (a - x.x.size) - bulkE (xs.drop (k + 1))) := by
          have h2 := hz.out
          rw [HD.out, bulkE_cons] at h2
          unfold Hid; omega
        clear hnn
        go_wp2_with (go_at_call 139; refine (laws_szEntry x a _ ha0 ha1).mono ?_; rintro e w1 ⟨he, hb1⟩; rw [if_neg q] at he; subst he; have HB1 := Lib.hid hb1; clear hb1)
        go_roundw
        case rel => exact ⟨k + 1, a - x.x.size, by omega, by go_num, rfl, by omega, by omega, HQ, HBb.out.trans HB1.out⟩
        case measure => simp [intOf]; omega
    · obtain rfl : k = n := by omega
      have HQ : Hid (r = a) := by
        have h2 := hz.out
        have h3 := HB.out
        rw [drop_nil (by rw [hl.out]; omega)] at h2
        have h4 : bulkE [] = 0 := rfl
        unfold Hid; rw [HR.out, if_neg (by omega)]; omega
      go_wp2_with fail
      go_ret
      exact ⟨ret_int (by rw [HQ.out]), hb⟩
end Go.Proofs.YtkelmeemblmggaaGreatDoor
