/- Contracts of the laws' own helpers on structs and rows: copies, comparisons, sizes; no condition but what stands at each theorem. -/
import Derived.Test.YtlgmiifpdjalpaaProg
import Derived.Test.YtlgmiifpdjalpaaK4
import Derived.KernelRfl
namespace Go.Proofs.Ytlgmiifpdjalpaa
set_option linter.unusedSimpArgs false
set_option linter.unusedVariables false
open Go.RowKit
set_option maxRecDepth 100000 in
set_option maxHeartbeats 400000 in
theorem laws_toShift (s : GShift) (w : World) :
    Calls Try.prog 85 #[.agg #[.int .i64 s.g, .int .i64 s.f, .int .i64 s.t]] w fun e w' => e = .returned (.agg #[.int .i64 s.g, .int .i64 s.f, .int .i64 s.t]) ∧ Ext w w' := by
  go_enter Try.func85, Try.ntmps85
  go_wp2
  refine bodyPost_ret (v := .agg #[.int .i64 s.g, .int .i64 s.f, .int .i64 s.t]) (by simp [results, Try.results85, go_sem]) rfl ⟨rfl, ?_⟩
  (repeat (first | exact Ext.refl _ | assumption | refine Ext.alloc ?_ _ | refine Ext.drew ?_ | refine Ext.drewN ?_ _ | refine Ext.setCell ?_ (by first | (simp; done) | (simp; omega)) _ | refine Ext.trans ?_ (by assumption)))
set_option maxRecDepth 100000 in
set_option maxHeartbeats 1000000 in
theorem laws_eqShift (a b : GShift) (hab : a = b) (w : World) :
    Calls Try.prog 87 #[.agg #[.int .i64 a.g, .int .i64 a.f, .int .i64 a.t], .agg #[.int .i64 b.g, .int .i64 b.f, .int .i64 b.t]] w fun e w' => e = .returned (.bool true) ∧ Ext w w' := by
  subst hab
  go_enter Try.func87, Try.ntmps87
  go_wp2
  all_goals go_ret
  all_goals refine ⟨rfl, ?_⟩
  all_goals (repeat (first | exact Ext.refl _ | assumption | refine Ext.alloc ?_ _ | refine Ext.drew ?_ | refine Ext.drewN ?_ _ | refine Ext.setCell ?_ (by first | (simp; done) | (simp; omega)) _ | refine Ext.trans ?_ (by assumption)))
set_option maxRecDepth 100000 in
set_option maxHeartbeats 400000 in
theorem laws_toLoan (s : GLoan) (w : World) :
    Calls Try.prog 32 #[.agg #[.int .i64 s.l, .int .i64 s.lo, .int .i64 s.hi, .int .i64 s.g]] w fun e w' => e = .returned (.agg #[.int .i64 s.l, .int .i64 s.lo, .int .i64 s.hi, .int .i64 s.g]) ∧ Ext w w' := by
  go_enter Try.func32, Try.ntmps32
  go_wp2
  refine bodyPost_ret (v := .agg #[.int .i64 s.l, .int .i64 s.lo, .int .i64 s.hi, .int .i64 s.g]) (by simp [results, Try.results32, go_sem]) rfl ⟨rfl, ?_⟩
  (repeat (first | exact Ext.refl _ | assumption | refine Ext.alloc ?_ _ | refine Ext.drew ?_ | refine Ext.drewN ?_ _ | refine Ext.setCell ?_ (by first | (simp; done) | (simp; omega)) _ | refine Ext.trans ?_ (by assumption)))
set_option maxRecDepth 100000 in
set_option maxHeartbeats 1000000 in
theorem laws_eqLoan (a b : GLoan) (hab : a = b) (w : World) :
    Calls Try.prog 100 #[.agg #[.int .i64 a.l, .int .i64 a.lo, .int .i64 a.hi, .int .i64 a.g], .agg #[.int .i64 b.l, .int .i64 b.lo, .int .i64 b.hi, .int .i64 b.g]] w fun e w' => e = .returned (.bool true) ∧ Ext w w' := by
  subst hab
  go_enter Try.func100, Try.ntmps100
  go_wp2
  all_goals go_ret
  all_goals refine ⟨rfl, ?_⟩
  all_goals (repeat (first | exact Ext.refl _ | assumption | refine Ext.alloc ?_ _ | refine Ext.drew ?_ | refine Ext.drewN ?_ _ | refine Ext.setCell ?_ (by first | (simp; done) | (simp; omega)) _ | refine Ext.trans ?_ (by assumption)))
set_option maxRecDepth 100000 in
set_option maxHeartbeats 400000 in
theorem laws_toClimate (s : GClimate) (w : World) :
    Calls Try.prog 89 #[.agg #[.int .i64 s.l, .int .i64 s.h, .int .i64 s.g]] w fun e w' => e = .returned (.agg #[.int .i64 s.l, .int .i64 s.h, .int .i64 s.g]) ∧ Ext w w' := by
  go_enter Try.func89, Try.ntmps89
  go_wp2
  refine bodyPost_ret (v := .agg #[.int .i64 s.l, .int .i64 s.h, .int .i64 s.g]) (by simp [results, Try.results89, go_sem]) rfl ⟨rfl, ?_⟩
  (repeat (first | exact Ext.refl _ | assumption | refine Ext.alloc ?_ _ | refine Ext.drew ?_ | refine Ext.drewN ?_ _ | refine Ext.setCell ?_ (by first | (simp; done) | (simp; omega)) _ | refine Ext.trans ?_ (by assumption)))
set_option maxRecDepth 100000 in
set_option maxHeartbeats 1000000 in
theorem laws_eqClimate (a b : GClimate) (hab : a = b) (w : World) :
    Calls Try.prog 90 #[.agg #[.int .i64 a.l, .int .i64 a.h, .int .i64 a.g], .agg #[.int .i64 b.l, .int .i64 b.h, .int .i64 b.g]] w fun e w' => e = .returned (.bool true) ∧ Ext w w' := by
  subst hab
  go_enter Try.func90, Try.ntmps90
  go_wp2
  all_goals go_ret
  all_goals refine ⟨rfl, ?_⟩
  all_goals (repeat (first | exact Ext.refl _ | assumption | refine Ext.alloc ?_ _ | refine Ext.drew ?_ | refine Ext.drewN ?_ _ | refine Ext.setCell ?_ (by first | (simp; done) | (simp; omega)) _ | refine Ext.trans ?_ (by assumption)))


set_option maxRecDepth 100000 in
set_option maxHeartbeats 400000 in
theorem laws_toCheck (s : GCheck) (w : World) :
    Calls Try.prog 92 #[.agg #[.int .i64 s.m, .int .i64 s.o, .bool s.th]] w fun e w' => e = .returned (.agg #[.int .i64 s.m, .int .i64 s.o, .bool s.th]) ∧ Ext w w' := by
  go_enter Try.func92, Try.ntmps92
  go_wp2
  refine bodyPost_ret (v := .agg #[.int .i64 s.m, .int .i64 s.o, .bool s.th]) (by simp [results, Try.results92, go_sem]) rfl ⟨rfl, ?_⟩
  (repeat (first | exact Ext.refl _ | assumption | refine Ext.alloc ?_ _ | refine Ext.drew ?_ | refine Ext.drewN ?_ _ | refine Ext.setCell ?_ (by first | (simp; done) | (simp; omega)) _ | refine Ext.trans ?_ (by assumption)))
set_option maxRecDepth 100000 in
set_option maxHeartbeats 1000000 in
theorem laws_eqCheck (a b : GCheck) (hab : a = b) (w : World) :
    Calls Try.prog 93 #[.agg #[.int .i64 a.m, .int .i64 a.o, .bool a.th], .agg #[.int .i64 b.m, .int .i64 b.o, .bool b.th]] w fun e w' => e = .returned (.bool true) ∧ Ext w w' := by
  subst hab
  go_enter Try.func93, Try.ntmps93
  go_wp2
  all_goals go_ret
  all_goals refine ⟨rfl, ?_⟩
  all_goals (repeat (first | exact Ext.refl _ | assumption | refine Ext.alloc ?_ _ | refine Ext.drew ?_ | refine Ext.drewN ?_ _ | refine Ext.setCell ?_ (by first | (simp; done) | (simp; omega)) _ | refine Ext.trans ?_ (by assumption)))
set_option maxRecDepth 100000 in
set_option maxHeartbeats 400000 in
theorem laws_toStay (s : GStay) (w : World) :
    Calls Try.prog 119 #[.agg #[.int .i64 s.p, .int .i64 s.h, .int .i64 s.f, .int .i64 s.t]] w fun e w' => e = .returned (.agg #[.int .i64 s.p, .int .i64 s.h, .int .i64 s.f, .int .i64 s.t]) ∧ Ext w w' := by
  go_enter Try.func119, Try.ntmps119
  go_wp2
  refine bodyPost_ret (v := .agg #[.int .i64 s.p, .int .i64 s.h, .int .i64 s.f, .int .i64 s.t]) (by simp [results, Try.results119, go_sem]) rfl ⟨rfl, ?_⟩
  (repeat (first | exact Ext.refl _ | assumption | refine Ext.alloc ?_ _ | refine Ext.drew ?_ | refine Ext.drewN ?_ _ | refine Ext.setCell ?_ (by first | (simp; done) | (simp; omega)) _ | refine Ext.trans ?_ (by assumption)))
set_option maxRecDepth 100000 in
set_option maxHeartbeats 1000000 in
theorem laws_eqStay (a b : GStay) (hab : a = b) (w : World) :
    Calls Try.prog 120 #[.agg #[.int .i64 a.p, .int .i64 a.h, .int .i64 a.f, .int .i64 a.t], .agg #[.int .i64 b.p, .int .i64 b.h, .int .i64 b.f, .int .i64 b.t]] w fun e w' => e = .returned (.bool true) ∧ Ext w w' := by
  subst hab
  go_enter Try.func120, Try.ntmps120
  go_wp2
  all_goals go_ret
  all_goals refine ⟨rfl, ?_⟩
  all_goals (repeat (first | exact Ext.refl _ | assumption | refine Ext.alloc ?_ _ | refine Ext.drew ?_ | refine Ext.drewN ?_ _ | refine Ext.setCell ?_ (by first | (simp; done) | (simp; omega)) _ | refine Ext.trans ?_ (by assumption)))




theorem info_Int : (Try.prog.info? 3).map (fun i => (i.zero.map (·.cells.size), i.size, decide (i.bytes ≤ 4096))) = some (some 1, 1, true) := by kernel_rfl
set_option maxRecDepth 100000 in
set_option maxHeartbeats 1000000 in
theorem laws_toIntS (A : Option Addr) (n c : Nat) (xs : List Int) (w : World) (hx : Rd w 1 A n (xs.flatMap ienc)) (hn : n ≤ 1048576) :
    Calls Try.prog 53 #[.slice A n c] w fun e w' => ∃ g : Nat, e = .returned (.slice (some ⟨g, 0, none⟩) n n) ∧ Ext w w' ∧ w'.ownsRow w.heap.size 3 1 (.slice (some ⟨g, 0, none⟩) n n) n (xs.flatMap ienc) := by
  have hl := Lib.hid (hx.len ienc_len (by omega))
  have hin := info_Int
  cases hi : Try.prog.info? 3 with
  | none => rw [hi] at hin; cases hin
  | some i =>
  rw [hi] at hin
  simp only [Option.map_some, Option.some.injEq, Prod.mk.injEq, decide_eq_true_eq] at hin
  obtain ⟨hz0, hsz, hby⟩ := hin
  cases hz : i.zero with
  | none => rw [hz] at hz0; cases hz0
  | some z =>
  rw [hz] at hz0
  simp only [Option.map_some, Option.some.injEq] at hz0
  have hmk := make_row (P := Try.prog) 31 3 i z Try.underlying31 hi hz n (by have := Nat.mul_le_mul hby hn; omega) (by omega)
  rw [hsz] at hmk
  obtain ⟨cells, hcells⟩ : ∃ cells, cells = madeCells z.cells (n * 1) := ⟨_, rfl⟩
  rw [← hcells] at hmk
  have hcs : cells.size = n * 1 := by rw [hcells, size_madeCells]
  clear hcells hi hz hsz hby hz0
  go_enter Try.func53, Try.ntmps53
  go_wp2_with fail
  go_loopw [4] (fun i wr => ∃ (k : Nat) (cur : Array Value), k ≤ n ∧ i = .int .i64 k ∧ cur.size = n * 1 ∧ Hid (cur.toList.take (k * 1) = (xs.take k).flatMap ienc) ∧ Blk wr w.heap.size 3 cur ∧ Ext w wr) (fun i _ => n - (intOf i).toNat)
  case atStart => exact ⟨0, cells, Nat.zero_le _, rfl, hcs, by unfold Hid; simp, Blk.new _ _ _, (Ext.refl _).alloc _⟩
  case round =>
    obtain ⟨k, cur, hk, rfl, hcz, hz, hblk, hb⟩ := hrel
    clear hmk hcs
    by_cases hlt : k < n
    · obtain ⟨b, off, x, rfl, hbs, hxk, h0⟩ := ienc_at (hx.keep hb) hlt
      have HX := Lib.hid hxk
      have HB := Lib.hid hb
      clear hxk hb
      have c0 := hblk.cellAt (i := k) (by omega)
      have f0 := hblk.free (k)
      have HBk := Lib.hid hblk
      clear hblk
      go_wp2_with fail
      go_roundw
      case rel =>
        refine ⟨k + 1, setRow cur (k * 1) [.int .i64 x], by omega, by go_num, by rw [setRow_size]; exact hcz, ?_, ?_, ?_⟩
        · unfold Hid
          rw [take_snoc HX.out, List.flatMap_append]
          exact setRow_take (m := 1) rfl (by rw [hcz]; omega) hz.out
        · rw [Nat.mul_one]; exact Blk.sets [.int .i64 x] k HBk.out
        · exact Ext.sets [.int .i64 x] k HB.out (Nat.le_refl _)
      case measure => simp [intOf]; omega
    · obtain rfl : k = n := by omega
      go_wp2_with fail
      go_ret
      have h1 := hz.out
      rw [List.take_of_length_le (l := xs) (by rw [hl.out]; omega)] at h1
      exact ⟨w.heap.size, rfl, hb, own_of_blk (Nat.le_refl _) hblk hcz (by unfold maxLen; omega) h1⟩
set_option maxRecDepth 100000 in
set_option maxHeartbeats 1000000 in
theorem laws_eqIntS (A A' : Option Addr) (n c n' c' : Nat) (xs : List Int) (w : World) (hx : Rd w 1 A n (xs.flatMap ienc)) (hy : Rd w 1 A' n' (xs.flatMap ienc)) :
    Calls Try.prog 34 #[.slice A n c, .slice A' n' c'] w fun e w' => e = .returned (.bool true) ∧ Ext w w' := by
  have hn := hx.2.1
  obtain rfl : n = n' := by rw [← hx.len ienc_len (by omega), ← hy.len ienc_len (by omega)]
  go_enter Try.func34, Try.ntmps34
  go_wp2_with fail
  go_loopw [5] (fun i wr => ∃ k : Nat, k ≤ n ∧ i = .int .i64 k ∧ Ext w wr) (fun i _ => n - (intOf i).toNat)
  case atStart => exact ⟨0, Nat.zero_le _, rfl, Ext.refl _⟩
  case round =>
    obtain ⟨k, hk, rfl, hb⟩ := hrel
    by_cases hlt : k < n
    · obtain ⟨b, off, x, rfl, hbs, hxk, h0⟩ := ienc_at (hx.keep hb) hlt
      obtain ⟨b', off', y, rfl, hbs', hyk, g0⟩ := ienc_at (hy.keep hb) hlt
      obtain rfl : x = y := by rw [hyk] at hxk; simpa using hxk.symm
      clear hxk hyk
      have Hb := Lib.hid hb
      clear hb
      go_wp2_with fail
      go_quiet (fail)
      go_wp2_with fail
      go_roundw
      case rel => exact ⟨k + 1, by omega, by go_num, Hb.out.drewN _⟩
      case measure => simp [intOf]; omega
    · go_wp2_with fail
      go_ret
      exact ⟨rfl, hb⟩
set_option maxRecDepth 100000 in
set_option maxHeartbeats 400000 in
theorem laws_szShiftS (A : Option Addr) (n c : Nat) (left : Int) (w : World) (hl : 0 ≤ left) (hl2 : left ≤ 1048576) (hn : n ≤ 9223372036854775807) :
    Calls Try.prog 25 #[.slice A n c, .int .i64 left] w fun e w' => e = .returned (.int .i64 (if left < n then -1 else left - n)) ∧ w = w' := by
  go_enter Try.func25, Try.ntmps25
  by_cases h : left < n
  all_goals
    go_wp2
    go_ret
    exact ⟨rfl, rfl⟩
theorem info_Shift : (Try.prog.info? 85).map (fun i => (i.zero.map (·.cells.size), i.size, decide (i.bytes ≤ 4096))) = some (some 3, 3, true) := by kernel_rfl
set_option maxRecDepth 100000 in
set_option maxHeartbeats 1000000 in
theorem laws_toShiftS (A : Option Addr) (n c : Nat) (xs : List GShift) (w : World) (hx : Rd w 3 A n (xs.flatMap GShift.enc)) (hn : n ≤ 1048576) :
    Calls Try.prog 27 #[.slice A n c] w fun e w' => ∃ g : Nat, e = .returned (.slice (some ⟨g, 0, none⟩) n n) ∧ Ext w w' ∧ w'.ownsRow w.heap.size 85 3 (.slice (some ⟨g, 0, none⟩) n n) n (xs.flatMap GShift.enc) := by
  have hl := Lib.hid (hx.len GShift.len (by omega))
  have hin := info_Shift
  cases hi : Try.prog.info? 85 with
  | none => rw [hi] at hin; cases hin
  | some i =>
  rw [hi] at hin
  simp only [Option.map_some, Option.some.injEq, Prod.mk.injEq, decide_eq_true_eq] at hin
  obtain ⟨hz0, hsz, hby⟩ := hin
  cases hz : i.zero with
  | none => rw [hz] at hz0; cases hz0
  | some z =>
  rw [hz] at hz0
  simp only [Option.map_some, Option.some.injEq] at hz0
  have hmk := make_row (P := Try.prog) 42 85 i z Try.underlying42 hi hz n (by have := Nat.mul_le_mul hby hn; omega) (by omega)
  rw [hsz] at hmk
  obtain ⟨cells, hcells⟩ : ∃ cells, cells = madeCells z.cells (n * 3) := ⟨_, rfl⟩
  rw [← hcells] at hmk
  have hcs : cells.size = n * 3 := by rw [hcells, size_madeCells]
  clear hcells hi hz hsz hby hz0
  go_enter Try.func27, Try.ntmps27
  go_wp2_with fail
  go_loopw [4] (fun i wr => ∃ (k : Nat) (cur : Array Value), k ≤ n ∧ i = .int .i64 k ∧ cur.size = n * 3 ∧ Hid (cur.toList.take (k * 3) = (xs.take k).flatMap GShift.enc) ∧ Blk wr w.heap.size 85 cur ∧ Ext w wr) (fun i _ => n - (intOf i).toNat)
  case atStart => exact ⟨0, cells, Nat.zero_le _, rfl, hcs, by unfold Hid; simp, Blk.new _ _ _, (Ext.refl _).alloc _⟩
  case round =>
    obtain ⟨k, cur, hk, rfl, hcz, hz, hblk, hb⟩ := hrel
    clear hmk hcs
    by_cases hlt : k < n
    · obtain ⟨b, off, x, rfl, hbs, hxk, h0, h1, h2⟩ := GShift.at_ (hx.keep hb) hlt
      have HX := Lib.hid hxk
      have HB := Lib.hid hb
      clear hxk hb
      have c0 := hblk.cellAt (i := k * 3) (by omega)
      have f0 := hblk.free (k * 3)
      have c1 := hblk.cellAt (i := k * 3 + 1) (by omega)
      have f1 := hblk.free (k * 3 + 1)
      have c2 := hblk.cellAt (i := k * 3 + 2) (by omega)
      have f2 := hblk.free (k * 3 + 2)
      have HBk := Lib.hid hblk
      clear hblk
      go_wp2_with (go_at_call 85; refine (laws_toShift x _).mono ?_; rintro e w1 ⟨rfl, hb1⟩; have hblk1 := HBk.out.keep hb1; have c0 := hblk1.cellAt (i := k * 3) (by omega); have f0 := hblk1.free (k * 3); have c1 := hblk1.cellAt (i := k * 3 + 1) (by omega); have f1 := hblk1.free (k * 3 + 1); have c2 := hblk1.cellAt (i := k * 3 + 2) (by omega); have f2 := hblk1.free (k * 3 + 2); have HB1 := Lib.hid hb1; have HBk1 := Lib.hid hblk1; clear hb1 hblk1)
      go_roundw
      case rel =>
        refine ⟨k + 1, setRow cur (k * 3) [.int .i64 x.g, .int .i64 x.f, .int .i64 x.t], by omega, by go_num, by rw [setRow_size]; exact hcz, ?_, ?_, ?_⟩
        · unfold Hid
          rw [take_snoc HX.out, List.flatMap_append]
          exact setRow_take (m := 3) rfl (by rw [hcz]; omega) hz.out
        · exact Blk.sets [.int .i64 x.g, .int .i64 x.f, .int .i64 x.t] (k * 3) HBk1.out
        · exact Ext.sets [.int .i64 x.g, .int .i64 x.f, .int .i64 x.t] (k * 3) (HB.out.trans HB1.out) (Nat.le_refl _)
      case measure => simp [intOf]; omega
    · obtain rfl : k = n := by omega
      go_wp2_with fail
      go_ret
      have h1 := hz.out
      rw [List.take_of_length_le (l := xs) (by rw [hl.out]; omega)] at h1
      exact ⟨w.heap.size, rfl, hb, own_of_blk (Nat.le_refl _) hblk hcz (by unfold maxLen; omega) h1⟩
set_option maxRecDepth 100000 in
set_option maxHeartbeats 1000000 in
theorem laws_eqShiftS (A A' : Option Addr) (n c n' c' : Nat) (xs : List GShift) (w : World) (hx : Rd w 3 A n (xs.flatMap GShift.enc)) (hy : Rd w 3 A' n' (xs.flatMap GShift.enc)) :
    Calls Try.prog 29 #[.slice A n c, .slice A' n' c'] w fun e w' => e = .returned (.bool true) ∧ Ext w w' := by
  have hn := hx.2.1
  obtain rfl : n = n' := by rw [← hx.len GShift.len (by omega), ← hy.len GShift.len (by omega)]
  go_enter Try.func29, Try.ntmps29
  go_wp2_with fail
  go_loopw [5] (fun i wr => ∃ k : Nat, k ≤ n ∧ i = .int .i64 k ∧ Ext w wr) (fun i _ => n - (intOf i).toNat)
  case atStart => exact ⟨0, Nat.zero_le _, rfl, Ext.refl _⟩
  case round =>
    obtain ⟨k, hk, rfl, hb⟩ := hrel
    by_cases hlt : k < n
    · obtain ⟨b, off, x, rfl, hbs, hxk, h0, h1, h2⟩ := GShift.at_ (hx.keep hb) hlt
      obtain ⟨b', off', y, rfl, hbs', hyk, g0, g1, g2⟩ := GShift.at_ (hy.keep hb) hlt
      obtain rfl : x = y := by rw [hyk] at hxk; simpa using hxk.symm
      clear hxk hyk
      have Hb := Lib.hid hb
      clear hb
      go_wp2_with fail
      go_still_tail 8, (by kernel_rfl)
      change wpList _ _ _ _ _ wr.drew
      go_wp2_with (go_at_call 87; refine (laws_eqShift x x rfl _).mono ?_; rintro e w1 ⟨rfl, hb1⟩)
      go_roundw
      case rel => exact ⟨k + 1, by omega, by go_num, Hb.out.drew.trans hb1⟩
      case measure => simp [intOf]; omega
    · go_wp2_with fail
      go_ret
      exact ⟨rfl, hb⟩
set_option maxRecDepth 100000 in
set_option maxHeartbeats 400000 in
theorem laws_szLoanS (A : Option Addr) (n c : Nat) (left : Int) (w : World) (hl : 0 ≤ left) (hl2 : left ≤ 1048576) (hn : n ≤ 9223372036854775807) :
    Calls Try.prog 50 #[.slice A n c, .int .i64 left] w fun e w' => e = .returned (.int .i64 (if left < n then -1 else left - n)) ∧ w = w' := by
  go_enter Try.func50, Try.ntmps50
  by_cases h : left < n
  all_goals
    go_wp2
    go_ret
    exact ⟨rfl, rfl⟩
theorem info_Loan : (Try.prog.info? 25).map (fun i => (i.zero.map (·.cells.size), i.size, decide (i.bytes ≤ 4096))) = some (some 4, 4, true) := by kernel_rfl
set_option maxRecDepth 100000 in
set_option maxHeartbeats 1000000 in
theorem laws_toLoanS (A : Option Addr) (n c : Nat) (xs : List GLoan) (w : World) (hx : Rd w 4 A n (xs.flatMap GLoan.enc)) (hn : n ≤ 1048576) :
    Calls Try.prog 52 #[.slice A n c] w fun e w' => ∃ g : Nat, e = .returned (.slice (some ⟨g, 0, none⟩) n n) ∧ Ext w w' ∧ w'.ownsRow w.heap.size 25 4 (.slice (some ⟨g, 0, none⟩) n n) n (xs.flatMap GLoan.enc) := by
  have hl := Lib.hid (hx.len GLoan.len (by omega))
  have hin := info_Loan
  cases hi : Try.prog.info? 25 with
  | none => rw [hi] at hin; cases hin
  | some i =>
  rw [hi] at hin
  simp only [Option.map_some, Option.some.injEq, Prod.mk.injEq, decide_eq_true_eq] at hin
  obtain ⟨hz0, hsz, hby⟩ := hin
  cases hz : i.zero with
  | none => rw [hz] at hz0; cases hz0
  | some z =>
  rw [hz] at hz0
  simp only [Option.map_some, Option.some.injEq] at hz0
  have hmk := make_row (P := Try.prog) 64 25 i z Try.underlying64 hi hz n (by have := Nat.mul_le_mul hby hn; omega) (by omega)
  rw [hsz] at hmk
  obtain ⟨cells, hcells⟩ : ∃ cells, cells = madeCells z.cells (n * 4) := ⟨_, rfl⟩
  rw [← hcells] at hmk
  have hcs : cells.size = n * 4 := by rw [hcells, size_madeCells]
  clear hcells hi hz hsz hby hz0
  go_enter Try.func52, Try.ntmps52
  go_wp2_with fail
  go_loopw [4] (fun i wr => ∃ (k : Nat) (cur : Array Value), k ≤ n ∧ i = .int .i64 k ∧ cur.size = n * 4 ∧ Hid (cur.toList.take (k * 4) = (xs.take k).flatMap GLoan.enc) ∧ Blk wr w.heap.size 25 cur ∧ Ext w wr) (fun i _ => n - (intOf i).toNat)
  case atStart => exact ⟨0, cells, Nat.zero_le _, rfl, hcs, by unfold Hid; simp, Blk.new _ _ _, (Ext.refl _).alloc _⟩
  case round =>
    obtain ⟨k, cur, hk, rfl, hcz, hz, hblk, hb⟩ := hrel
    clear hmk hcs
    by_cases hlt : k < n
    · obtain ⟨b, off, x, rfl, hbs, hxk, h0, h1, h2, h3⟩ := GLoan.at_ (hx.keep hb) hlt
      have HX := Lib.hid hxk
      have HB := Lib.hid hb
      clear hxk hb
      have c0 := hblk.cellAt (i := k * 4) (by omega)
      have f0 := hblk.free (k * 4)
      have c1 := hblk.cellAt (i := k * 4 + 1) (by omega)
      have f1 := hblk.free (k * 4 + 1)
      have c2 := hblk.cellAt (i := k * 4 + 2) (by omega)
      have f2 := hblk.free (k * 4 + 2)
      have c3 := hblk.cellAt (i := k * 4 + 3) (by omega)
      have f3 := hblk.free (k * 4 + 3)
      have HBk := Lib.hid hblk
      clear hblk
      go_wp2_with (go_at_call 32; refine (laws_toLoan x _).mono ?_; rintro e w1 ⟨rfl, hb1⟩; have hblk1 := HBk.out.keep hb1; have c0 := hblk1.cellAt (i := k * 4) (by omega); have f0 := hblk1.free (k * 4); have c1 := hblk1.cellAt (i := k * 4 + 1) (by omega); have f1 := hblk1.free (k * 4 + 1); have c2 := hblk1.cellAt (i := k * 4 + 2) (by omega); have f2 := hblk1.free (k * 4 + 2); have c3 := hblk1.cellAt (i := k * 4 + 3) (by omega); have f3 := hblk1.free (k * 4 + 3); have HB1 := Lib.hid hb1; have HBk1 := Lib.hid hblk1; clear hb1 hblk1)
      go_roundw
      case rel =>
        refine ⟨k + 1, setRow cur (k * 4) [.int .i64 x.l, .int .i64 x.lo, .int .i64 x.hi, .int .i64 x.g], by omega, by go_num, by rw [setRow_size]; exact hcz, ?_, ?_, ?_⟩
        · unfold Hid
          rw [take_snoc HX.out, List.flatMap_append]
          exact setRow_take (m := 4) rfl (by rw [hcz]; omega) hz.out
        · exact Blk.sets [.int .i64 x.l, .int .i64 x.lo, .int .i64 x.hi, .int .i64 x.g] (k * 4) HBk1.out
        · exact Ext.sets [.int .i64 x.l, .int .i64 x.lo, .int .i64 x.hi, .int .i64 x.g] (k * 4) (HB.out.trans HB1.out) (Nat.le_refl _)
      case measure => simp [intOf]; omega
    · obtain rfl : k = n := by omega
      go_wp2_with fail
      go_ret
      have h1 := hz.out
      rw [List.take_of_length_le (l := xs) (by rw [hl.out]; omega)] at h1
      exact ⟨w.heap.size, rfl, hb, own_of_blk (Nat.le_refl _) hblk hcz (by unfold maxLen; omega) h1⟩
set_option maxRecDepth 100000 in
set_option maxHeartbeats 1000000 in
theorem laws_eqLoanS (A A' : Option Addr) (n c n' c' : Nat) (xs : List GLoan) (w : World) (hx : Rd w 4 A n (xs.flatMap GLoan.enc)) (hy : Rd w 4 A' n' (xs.flatMap GLoan.enc)) :
    Calls Try.prog 54 #[.slice A n c, .slice A' n' c'] w fun e w' => e = .returned (.bool true) ∧ Ext w w' := by
  have hn := hx.2.1
  obtain rfl : n = n' := by rw [← hx.len GLoan.len (by omega), ← hy.len GLoan.len (by omega)]
  go_enter Try.func54, Try.ntmps54
  go_wp2_with fail
  go_loopw [5] (fun i wr => ∃ k : Nat, k ≤ n ∧ i = .int .i64 k ∧ Ext w wr) (fun i _ => n - (intOf i).toNat)
  case atStart => exact ⟨0, Nat.zero_le _, rfl, Ext.refl _⟩
  case round =>
    obtain ⟨k, hk, rfl, hb⟩ := hrel
    by_cases hlt : k < n
    · obtain ⟨b, off, x, rfl, hbs, hxk, h0, h1, h2, h3⟩ := GLoan.at_ (hx.keep hb) hlt
      obtain ⟨b', off', y, rfl, hbs', hyk, g0, g1, g2, g3⟩ := GLoan.at_ (hy.keep hb) hlt
      obtain rfl : x = y := by rw [hyk] at hxk; simpa using hxk.symm
      clear hxk hyk
      have Hb := Lib.hid hb
      clear hb
      go_wp2_with fail
      go_still_tail 8, (by kernel_rfl)
      change wpList _ _ _ _ _ wr.drew
      go_wp2_with (go_at_call 100; refine (laws_eqLoan x x rfl _).mono ?_; rintro e w1 ⟨rfl, hb1⟩)
      go_roundw
      case rel => exact ⟨k + 1, by omega, by go_num, Hb.out.drew.trans hb1⟩
      case measure => simp [intOf]; omega
    · go_wp2_with fail
      go_ret
      exact ⟨rfl, hb⟩
set_option maxRecDepth 100000 in
set_option maxHeartbeats 400000 in
theorem laws_szClimateS (A : Option Addr) (n c : Nat) (left : Int) (w : World) (hl : 0 ≤ left) (hl2 : left ≤ 1048576) (hn : n ≤ 9223372036854775807) :
    Calls Try.prog 30 #[.slice A n c, .int .i64 left] w fun e w' => e = .returned (.int .i64 (if left < n then -1 else left - n)) ∧ w = w' := by
  go_enter Try.func30, Try.ntmps30
  by_cases h : left < n
  all_goals
    go_wp2
    go_ret
    exact ⟨rfl, rfl⟩
theorem info_Climate : (Try.prog.info? 36).map (fun i => (i.zero.map (·.cells.size), i.size, decide (i.bytes ≤ 4096))) = some (some 3, 3, true) := by kernel_rfl
set_option maxRecDepth 100000 in
set_option maxHeartbeats 1000000 in
theorem laws_toClimateS (A : Option Addr) (n c : Nat) (xs : List GClimate) (w : World) (hx : Rd w 3 A n (xs.flatMap GClimate.enc)) (hn : n ≤ 1048576) :
    Calls Try.prog 33 #[.slice A n c] w fun e w' => ∃ g : Nat, e = .returned (.slice (some ⟨g, 0, none⟩) n n) ∧ Ext w w' ∧ w'.ownsRow w.heap.size 36 3 (.slice (some ⟨g, 0, none⟩) n n) n (xs.flatMap GClimate.enc) := by
  have hl := Lib.hid (hx.len GClimate.len (by omega))
  have hin := info_Climate
  cases hi : Try.prog.info? 36 with
  | none => rw [hi] at hin; cases hin
  | some i =>
  rw [hi] at hin
  simp only [Option.map_some, Option.some.injEq, Prod.mk.injEq, decide_eq_true_eq] at hin
  obtain ⟨hz0, hsz, hby⟩ := hin
  cases hz : i.zero with
  | none => rw [hz] at hz0; cases hz0
  | some z =>
  rw [hz] at hz0
  simp only [Option.map_some, Option.some.injEq] at hz0
  have hmk := make_row (P := Try.prog) 26 36 i z Try.underlying26 hi hz n (by have := Nat.mul_le_mul hby hn; omega) (by omega)
  rw [hsz] at hmk
  obtain ⟨cells, hcells⟩ : ∃ cells, cells = madeCells z.cells (n * 3) := ⟨_, rfl⟩
  rw [← hcells] at hmk
  have hcs : cells.size = n * 3 := by rw [hcells, size_madeCells]
  clear hcells hi hz hsz hby hz0
  go_enter Try.func33, Try.ntmps33
  go_wp2_with fail
  go_loopw [4] (fun i wr => ∃ (k : Nat) (cur : Array Value), k ≤ n ∧ i = .int .i64 k ∧ cur.size = n * 3 ∧ Hid (cur.toList.take (k * 3) = (xs.take k).flatMap GClimate.enc) ∧ Blk wr w.heap.size 36 cur ∧ Ext w wr) (fun i _ => n - (intOf i).toNat)
  case atStart => exact ⟨0, cells, Nat.zero_le _, rfl, hcs, by unfold Hid; simp, Blk.new _ _ _, (Ext.refl _).alloc _⟩
  case round =>
    obtain ⟨k, cur, hk, rfl, hcz, hz, hblk, hb⟩ := hrel
    clear hmk hcs
    by_cases hlt : k < n
    · obtain ⟨b, off, x, rfl, hbs, hxk, h0, h1, h2⟩ := GClimate.at_ (hx.keep hb) hlt
      have HX := Lib.hid hxk
      have HB := Lib.hid hb
      clear hxk hb
      have c0 := hblk.cellAt (i := k * 3) (by omega)
      have f0 := hblk.free (k * 3)
      have c1 := hblk.cellAt (i := k * 3 + 1) (by omega)
      have f1 := hblk.free (k * 3 + 1)
      have c2 := hblk.cellAt (i := k * 3 + 2) (by omega)
      have f2 := hblk.free (k * 3 + 2)
      have HBk := Lib.hid hblk
      clear hblk
      go_wp2_with (go_at_call 89; refine (laws_toClimate x _).mono ?_; rintro e w1 ⟨rfl, hb1⟩; have hblk1 := HBk.out.keep hb1; have c0 := hblk1.cellAt (i := k * 3) (by omega); have f0 := hblk1.free (k * 3); have c1 := hblk1.cellAt (i := k * 3 + 1) (by omega); have f1 := hblk1.free (k * 3 + 1); have c2 := hblk1.cellAt (i := k * 3 + 2) (by omega); have f2 := hblk1.free (k * 3 + 2); have HB1 := Lib.hid hb1; have HBk1 := Lib.hid hblk1; clear hb1 hblk1)
      go_roundw
      case rel =>
        refine ⟨k + 1, setRow cur (k * 3) [.int .i64 x.l, .int .i64 x.h, .int .i64 x.g], by omega, by go_num, by rw [setRow_size]; exact hcz, ?_, ?_, ?_⟩
        · unfold Hid
          rw [take_snoc HX.out, List.flatMap_append]
          exact setRow_take (m := 3) rfl (by rw [hcz]; omega) hz.out
        · exact Blk.sets [.int .i64 x.l, .int .i64 x.h, .int .i64 x.g] (k * 3) HBk1.out
        · exact Ext.sets [.int .i64 x.l, .int .i64 x.h, .int .i64 x.g] (k * 3) (HB.out.trans HB1.out) (Nat.le_refl _)
      case measure => simp [intOf]; omega
    · obtain rfl : k = n := by omega
      go_wp2_with fail
      go_ret
      have h1 := hz.out
      rw [List.take_of_length_le (l := xs) (by rw [hl.out]; omega)] at h1
      exact ⟨w.heap.size, rfl, hb, own_of_blk (Nat.le_refl _) hblk hcz (by unfold maxLen; omega) h1⟩
set_option maxRecDepth 100000 in
set_option maxHeartbeats 1000000 in
theorem laws_eqClimateS (A A' : Option Addr) (n c n' c' : Nat) (xs : List GClimate) (w : World) (hx : Rd w 3 A n (xs.flatMap GClimate.enc)) (hy : Rd w 3 A' n' (xs.flatMap GClimate.enc)) :
    Calls Try.prog 35 #[.slice A n c, .slice A' n' c'] w fun e w' => e = .returned (.bool true) ∧ Ext w w' := by
  have hn := hx.2.1
  obtain rfl : n = n' := by rw [← hx.len GClimate.len (by omega), ← hy.len GClimate.len (by omega)]
  go_enter Try.func35, Try.ntmps35
  go_wp2_with fail
  go_loopw [5] (fun i wr => ∃ k : Nat, k ≤ n ∧ i = .int .i64 k ∧ Ext w wr) (fun i _ => n - (intOf i).toNat)
  case atStart => exact ⟨0, Nat.zero_le _, rfl, Ext.refl _⟩
  case round =>
    obtain ⟨k, hk, rfl, hb⟩ := hrel
    by_cases hlt : k < n
    · obtain ⟨b, off, x, rfl, hbs, hxk, h0, h1, h2⟩ := GClimate.at_ (hx.keep hb) hlt
      obtain ⟨b', off', y, rfl, hbs', hyk, g0, g1, g2⟩ := GClimate.at_ (hy.keep hb) hlt
      obtain rfl : x = y := by rw [hyk] at hxk; simpa using hxk.symm
      clear hxk hyk
      have Hb := Lib.hid hb
      clear hb
      go_wp2_with fail
      go_still_tail 8, (by kernel_rfl)
      change wpList _ _ _ _ _ wr.drew
      go_wp2_with (go_at_call 90; refine (laws_eqClimate x x rfl _).mono ?_; rintro e w1 ⟨rfl, hb1⟩)
      go_roundw
      case rel => exact ⟨k + 1, by omega, by go_num, Hb.out.drew.trans hb1⟩
      case measure => simp [intOf]; omega
    · go_wp2_with fail
      go_ret
      exact ⟨rfl, hb⟩

set_option maxRecDepth 100000 in
set_option maxHeartbeats 400000 in
theorem laws_szCheckS (A : Option Addr) (n c : Nat) (left : Int) (w : World) (hl : 0 ≤ left) (hl2 : left ≤ 1048576) (hn : n ≤ 9223372036854775807) :
    Calls Try.prog 39 #[.slice A n c, .int .i64 left] w fun e w' => e = .returned (.int .i64 (if left < n then -1 else left - n)) ∧ w = w' := by
  go_enter Try.func39, Try.ntmps39
  by_cases h : left < n
  all_goals
    go_wp2
    go_ret
    exact ⟨rfl, rfl⟩
theorem info_Check : (Try.prog.info? 97).map (fun i => (i.zero.map (·.cells.size), i.size, decide (i.bytes ≤ 4096))) = some (some 3, 3, true) := by kernel_rfl
set_option maxRecDepth 100000 in
set_option maxHeartbeats 1000000 in
theorem laws_toCheckS (A : Option Addr) (n c : Nat) (xs : List GCheck) (w : World) (hx : Rd w 3 A n (xs.flatMap GCheck.enc)) (hn : n ≤ 1048576) :
    Calls Try.prog 41 #[.slice A n c] w fun e w' => ∃ g : Nat, e = .returned (.slice (some ⟨g, 0, none⟩) n n) ∧ Ext w w' ∧ w'.ownsRow w.heap.size 97 3 (.slice (some ⟨g, 0, none⟩) n n) n (xs.flatMap GCheck.enc) := by
  have hl := Lib.hid (hx.len GCheck.len (by omega))
  have hin := info_Check
  cases hi : Try.prog.info? 97 with
  | none => rw [hi] at hin; cases hin
  | some i =>
  rw [hi] at hin
  simp only [Option.map_some, Option.some.injEq, Prod.mk.injEq, decide_eq_true_eq] at hin
  obtain ⟨hz0, hsz, hby⟩ := hin
  cases hz : i.zero with
  | none => rw [hz] at hz0; cases hz0
  | some z =>
  rw [hz] at hz0
  simp only [Option.map_some, Option.some.injEq] at hz0
  have hmk := make_row (P := Try.prog) 59 97 i z Try.underlying59 hi hz n (by have := Nat.mul_le_mul hby hn; omega) (by omega)
  rw [hsz] at hmk
  obtain ⟨cells, hcells⟩ : ∃ cells, cells = madeCells z.cells (n * 3) := ⟨_, rfl⟩
  rw [← hcells] at hmk
  have hcs : cells.size = n * 3 := by rw [hcells, size_madeCells]
  clear hcells hi hz hsz hby hz0
  go_enter Try.func41, Try.ntmps41
  go_wp2_with fail
  go_loopw [4] (fun i wr => ∃ (k : Nat) (cur : Array Value), k ≤ n ∧ i = .int .i64 k ∧ cur.size = n * 3 ∧ Hid (cur.toList.take (k * 3) = (xs.take k).flatMap GCheck.enc) ∧ Blk wr w.heap.size 97 cur ∧ Ext w wr) (fun i _ => n - (intOf i).toNat)
  case atStart => exact ⟨0, cells, Nat.zero_le _, rfl, hcs, by unfold Hid; simp, Blk.new _ _ _, (Ext.refl _).alloc _⟩
  case round =>
    obtain ⟨k, cur, hk, rfl, hcz, hz, hblk, hb⟩ := hrel
    clear hmk hcs
    by_cases hlt : k < n
    · obtain ⟨b, off, x, rfl, hbs, hxk, h0, h1, h2⟩ := GCheck.at_ (hx.keep hb) hlt
      have HX := Lib.hid hxk
      have HB := Lib.hid hb
      clear hxk hb
      have c0 := hblk.cellAt (i := k * 3) (by omega)
      have f0 := hblk.free (k * 3)
      have c1 := hblk.cellAt (i := k * 3 + 1) (by omega)
      have f1 := hblk.free (k * 3 + 1)
      have c2 := hblk.cellAt (i := k * 3 + 2) (by omega)
      have f2 := hblk.free (k * 3 + 2)
      have HBk := Lib.hid hblk
      clear hblk
      go_wp2_with (go_at_call 92; refine (laws_toCheck x _).mono ?_; rintro e w1 ⟨rfl, hb1⟩; have hblk1 := HBk.out.keep hb1; have c0 := hblk1.cellAt (i := k * 3) (by omega); have f0 := hblk1.free (k * 3); have c1 := hblk1.cellAt (i := k * 3 + 1) (by omega); have f1 := hblk1.free (k * 3 + 1); have c2 := hblk1.cellAt (i := k * 3 + 2) (by omega); have f2 := hblk1.free (k * 3 + 2); have HB1 := Lib.hid hb1; have HBk1 := Lib.hid hblk1; clear hb1 hblk1)
      go_roundw
      case rel =>
        refine ⟨k + 1, setRow cur (k * 3) [.int .i64 x.m, .int .i64 x.o, .bool x.th], by omega, by go_num, by rw [setRow_size]; exact hcz, ?_, ?_, ?_⟩
        · unfold Hid
          rw [take_snoc HX.out, List.flatMap_append]
          exact setRow_take (m := 3) rfl (by rw [hcz]; omega) hz.out
        · exact Blk.sets [.int .i64 x.m, .int .i64 x.o, .bool x.th] (k * 3) HBk1.out
        · exact Ext.sets [.int .i64 x.m, .int .i64 x.o, .bool x.th] (k * 3) (HB.out.trans HB1.out) (Nat.le_refl _)
      case measure => simp [intOf]; omega
    · obtain rfl : k = n := by omega
      go_wp2_with fail
      go_ret
      have h1 := hz.out
      rw [List.take_of_length_le (l := xs) (by rw [hl.out]; omega)] at h1
      exact ⟨w.heap.size, rfl, hb, own_of_blk (Nat.le_refl _) hblk hcz (by unfold maxLen; omega) h1⟩
set_option maxRecDepth 100000 in
set_option maxHeartbeats 1000000 in
theorem laws_eqCheckS (A A' : Option Addr) (n c n' c' : Nat) (xs : List GCheck) (w : World) (hx : Rd w 3 A n (xs.flatMap GCheck.enc)) (hy : Rd w 3 A' n' (xs.flatMap GCheck.enc)) :
    Calls Try.prog 43 #[.slice A n c, .slice A' n' c'] w fun e w' => e = .returned (.bool true) ∧ Ext w w' := by
  have hn := hx.2.1
  obtain rfl : n = n' := by rw [← hx.len GCheck.len (by omega), ← hy.len GCheck.len (by omega)]
  go_enter Try.func43, Try.ntmps43
  go_wp2_with fail
  go_loopw [5] (fun i wr => ∃ k : Nat, k ≤ n ∧ i = .int .i64 k ∧ Ext w wr) (fun i _ => n - (intOf i).toNat)
  case atStart => exact ⟨0, Nat.zero_le _, rfl, Ext.refl _⟩
  case round =>
    obtain ⟨k, hk, rfl, hb⟩ := hrel
    by_cases hlt : k < n
    · obtain ⟨b, off, x, rfl, hbs, hxk, h0, h1, h2⟩ := GCheck.at_ (hx.keep hb) hlt
      obtain ⟨b', off', y, rfl, hbs', hyk, g0, g1, g2⟩ := GCheck.at_ (hy.keep hb) hlt
      obtain rfl : x = y := by rw [hyk] at hxk; simpa using hxk.symm
      clear hxk hyk
      have Hb := Lib.hid hb
      clear hb
      go_wp2_with fail
      go_still_tail 8, (by kernel_rfl)
      change wpList _ _ _ _ _ wr.drew
      go_wp2_with (go_at_call 93; refine (laws_eqCheck x x rfl _).mono ?_; rintro e w1 ⟨rfl, hb1⟩)
      go_roundw
      case rel => exact ⟨k + 1, by omega, by go_num, Hb.out.drew.trans hb1⟩
      case measure => simp [intOf]; omega
    · go_wp2_with fail
      go_ret
      exact ⟨rfl, hb⟩
set_option maxRecDepth 100000 in
set_option maxHeartbeats 400000 in
theorem laws_szStayS (A : Option Addr) (n c : Nat) (left : Int) (w : World) (hl : 0 ≤ left) (hl2 : left ≤ 1048576) (hn : n ≤ 9223372036854775807) :
    Calls Try.prog 73 #[.slice A n c, .int .i64 left] w fun e w' => e = .returned (.int .i64 (if left < n then -1 else left - n)) ∧ w = w' := by
  go_enter Try.func73, Try.ntmps73
  by_cases h : left < n
  all_goals
    go_wp2
    go_ret
    exact ⟨rfl, rfl⟩
theorem info_Stay : (Try.prog.info? 95).map (fun i => (i.zero.map (·.cells.size), i.size, decide (i.bytes ≤ 4096))) = some (some 4, 4, true) := by kernel_rfl
set_option maxRecDepth 100000 in
set_option maxHeartbeats 1000000 in
theorem laws_toStayS (A : Option Addr) (n c : Nat) (xs : List GStay) (w : World) (hx : Rd w 4 A n (xs.flatMap GStay.enc)) (hn : n ≤ 1048576) :
    Calls Try.prog 75 #[.slice A n c] w fun e w' => ∃ g : Nat, e = .returned (.slice (some ⟨g, 0, none⟩) n n) ∧ Ext w w' ∧ w'.ownsRow w.heap.size 95 4 (.slice (some ⟨g, 0, none⟩) n n) n (xs.flatMap GStay.enc) := by
  have hl := Lib.hid (hx.len GStay.len (by omega))
  have hin := info_Stay
  cases hi : Try.prog.info? 95 with
  | none => rw [hi] at hin; cases hin
  | some i =>
  rw [hi] at hin
  simp only [Option.map_some, Option.some.injEq, Prod.mk.injEq, decide_eq_true_eq] at hin
  obtain ⟨hz0, hsz, hby⟩ := hin
  cases hz : i.zero with
  | none => rw [hz] at hz0; cases hz0
  | some z =>
  rw [hz] at hz0
  simp only [Option.map_some, Option.some.injEq] at hz0
  have hmk := make_row (P := Try.prog) 89 95 i z Try.underlying89 hi hz n (by have := Nat.mul_le_mul hby hn; omega) (by omega)
  rw [hsz] at hmk
  obtain ⟨cells, hcells⟩ : ∃ cells, cells = madeCells z.cells (n * 4) := ⟨_, rfl⟩
  rw [← hcells] at hmk
  have hcs : cells.size = n * 4 := by rw [hcells, size_madeCells]
  clear hcells hi hz hsz hby hz0
  go_enter Try.func75, Try.ntmps75
  go_wp2_with fail
  go_loopw [4] (fun i wr => ∃ (k : Nat) (cur : Array Value), k ≤ n ∧ i = .int .i64 k ∧ cur.size = n * 4 ∧ Hid (cur.toList.take (k * 4) = (xs.take k).flatMap GStay.enc) ∧ Blk wr w.heap.size 95 cur ∧ Ext w wr) (fun i _ => n - (intOf i).toNat)
  case atStart => exact ⟨0, cells, Nat.zero_le _, rfl, hcs, by unfold Hid; simp, Blk.new _ _ _, (Ext.refl _).alloc _⟩
  case round =>
    obtain ⟨k, cur, hk, rfl, hcz, hz, hblk, hb⟩ := hrel
    clear hmk hcs
    by_cases hlt : k < n
    · obtain ⟨b, off, x, rfl, hbs, hxk, h0, h1, h2, h3⟩ := GStay.at_ (hx.keep hb) hlt
      have HX := Lib.hid hxk
      have HB := Lib.hid hb
      clear hxk hb
      have c0 := hblk.cellAt (i := k * 4) (by omega)
      have f0 := hblk.free (k * 4)
      have c1 := hblk.cellAt (i := k * 4 + 1) (by omega)
      have f1 := hblk.free (k * 4 + 1)
      have c2 := hblk.cellAt (i := k * 4 + 2) (by omega)
      have f2 := hblk.free (k * 4 + 2)
      have c3 := hblk.cellAt (i := k * 4 + 3) (by omega)
      have f3 := hblk.free (k * 4 + 3)
      have HBk := Lib.hid hblk
      clear hblk
      go_wp2_with (go_at_call 119; refine (laws_toStay x _).mono ?_; rintro e w1 ⟨rfl, hb1⟩; have hblk1 := HBk.out.keep hb1; have c0 := hblk1.cellAt (i := k * 4) (by omega); have f0 := hblk1.free (k * 4); have c1 := hblk1.cellAt (i := k * 4 + 1) (by omega); have f1 := hblk1.free (k * 4 + 1); have c2 := hblk1.cellAt (i := k * 4 + 2) (by omega); have f2 := hblk1.free (k * 4 + 2); have c3 := hblk1.cellAt (i := k * 4 + 3) (by omega); have f3 := hblk1.free (k * 4 + 3); have HB1 := Lib.hid hb1; have HBk1 := Lib.hid hblk1; clear hb1 hblk1)
      go_roundw
      case rel =>
        refine ⟨k + 1, setRow cur (k * 4) [.int .i64 x.p, .int .i64 x.h, .int .i64 x.f, .int .i64 x.t], by omega, by go_num, by rw [setRow_size]; exact hcz, ?_, ?_, ?_⟩
        · unfold Hid
          rw [take_snoc HX.out, List.flatMap_append]
          exact setRow_take (m := 4) rfl (by rw [hcz]; omega) hz.out
        · exact Blk.sets [.int .i64 x.p, .int .i64 x.h, .int .i64 x.f, .int .i64 x.t] (k * 4) HBk1.out
        · exact Ext.sets [.int .i64 x.p, .int .i64 x.h, .int .i64 x.f, .int .i64 x.t] (k * 4) (HB.out.trans HB1.out) (Nat.le_refl _)
      case measure => simp [intOf]; omega
    · obtain rfl : k = n := by omega
      go_wp2_with fail
      go_ret
      have h1 := hz.out
      rw [List.take_of_length_le (l := xs) (by rw [hl.out]; omega)] at h1
      exact ⟨w.heap.size, rfl, hb, own_of_blk (Nat.le_refl _) hblk hcz (by unfold maxLen; omega) h1⟩
set_option maxRecDepth 100000 in
set_option maxHeartbeats 1000000 in
theorem laws_eqStayS (A A' : Option Addr) (n c n' c' : Nat) (xs : List GStay) (w : World) (hx : Rd w 4 A n (xs.flatMap GStay.enc)) (hy : Rd w 4 A' n' (xs.flatMap GStay.enc)) :
    Calls Try.prog 76 #[.slice A n c, .slice A' n' c'] w fun e w' => e = .returned (.bool true) ∧ Ext w w' := by
  have hn := hx.2.1
  obtain rfl : n = n' := by rw [← hx.len GStay.len (by omega), ← hy.len GStay.len (by omega)]
  go_enter Try.func76, Try.ntmps76
  go_wp2_with fail
  go_loopw [5] (fun i wr => ∃ k : Nat, k ≤ n ∧ i = .int .i64 k ∧ Ext w wr) (fun i _ => n - (intOf i).toNat)
  case atStart => exact ⟨0, Nat.zero_le _, rfl, Ext.refl _⟩
  case round =>
    obtain ⟨k, hk, rfl, hb⟩ := hrel
    by_cases hlt : k < n
    · obtain ⟨b, off, x, rfl, hbs, hxk, h0, h1, h2, h3⟩ := GStay.at_ (hx.keep hb) hlt
      obtain ⟨b', off', y, rfl, hbs', hyk, g0, g1, g2, g3⟩ := GStay.at_ (hy.keep hb) hlt
      obtain rfl : x = y := by rw [hyk] at hxk; simpa using hxk.symm
      clear hxk hyk
      have Hb := Lib.hid hb
      clear hb
      go_wp2_with fail
      go_still_tail 8, (by kernel_rfl)
      change wpList _ _ _ _ _ wr.drew
      go_wp2_with (go_at_call 120; refine (laws_eqStay x x rfl _).mono ?_; rintro e w1 ⟨rfl, hb1⟩)
      go_roundw
      case rel => exact ⟨k + 1, by omega, by go_num, Hb.out.drew.trans hb1⟩
      case measure => simp [intOf]; omega
    · go_wp2_with fail
      go_ret
      exact ⟨rfl, hb⟩


end Go.Proofs.Ytlgmiifpdjalpaa
