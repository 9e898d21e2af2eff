/- Contracts of the laws' own helpers on structs and rows: copies, comparisons, sizes; no condition but what stands at each theorem. -/
import Derived.Test.YtcmbjkidgemdaaaDoorProg
import Derived.Test.YtcmbjkidgemdaaaDoorK4
import Derived.KernelRfl
namespace Go.Proofs.YtcmbjkidgemdaaaDoor
set_option linter.unusedSimpArgs false
set_option linter.unusedVariables false
open Go.RowKit






set_option maxRecDepth 100000 in
set_option maxHeartbeats 400000 in
theorem laws_toAct (s : GAct) (w : World) :
    Calls Tryd.prog 14 #[.agg #[.int .i64 s.k, .int .i64 s.a, .int .i64 s.b, .int .i64 s.c, .int .i64 s.d]] w fun e w' => e = .returned (.agg #[.int .i64 s.k, .int .i64 s.a, .int .i64 s.b, .int .i64 s.c, .int .i64 s.d]) ∧ Ext w w' := by
  go_enter Tryd.func14, Tryd.ntmps14
  go_wp2
  refine bodyPost_ret (v := .agg #[.int .i64 s.k, .int .i64 s.a, .int .i64 s.b, .int .i64 s.c, .int .i64 s.d]) (by simp [results, Tryd.results14, go_sem]) rfl ⟨rfl, ?_⟩
  (repeat (first | exact Ext.refl _ | assumption | refine Ext.alloc ?_ _ | refine Ext.drew ?_ | refine Ext.drewN ?_ _ | refine Ext.setCell ?_ (by first | (simp; done) | (simp; omega)) _ | refine Ext.trans ?_ (by assumption)))
set_option maxRecDepth 100000 in
set_option maxHeartbeats 1000000 in
theorem laws_eqAct (a b : GAct) (hab : a = b) (w : World) :
    Calls Tryd.prog 23 #[.agg #[.int .i64 a.k, .int .i64 a.a, .int .i64 a.b, .int .i64 a.c, .int .i64 a.d], .agg #[.int .i64 b.k, .int .i64 b.a, .int .i64 b.b, .int .i64 b.c, .int .i64 b.d]] w fun e w' => e = .returned (.bool true) ∧ Ext w w' := by
  subst hab
  go_enter Tryd.func23, Tryd.ntmps23
  go_wp2
  all_goals go_ret
  all_goals refine ⟨rfl, ?_⟩
  all_goals (repeat (first | exact Ext.refl _ | assumption | refine Ext.alloc ?_ _ | refine Ext.drew ?_ | refine Ext.drewN ?_ _ | refine Ext.setCell ?_ (by first | (simp; done) | (simp; omega)) _ | refine Ext.trans ?_ (by assumption)))






set_option maxRecDepth 100000 in
set_option maxHeartbeats 400000 in
theorem laws_toMove (s : GMove) (w : World) :
    Calls Tryd.prog 11 #[.agg #[.int .i64 s.o, .int .i64 s.t, .int .i64 s.f, .int .i64 s.s]] w fun e w' => e = .returned (.agg #[.int .i64 s.o, .int .i64 s.t, .int .i64 s.f, .int .i64 s.s]) ∧ Ext w w' := by
  go_enter Tryd.func11, Tryd.ntmps11
  go_wp2
  refine bodyPost_ret (v := .agg #[.int .i64 s.o, .int .i64 s.t, .int .i64 s.f, .int .i64 s.s]) (by simp [results, Tryd.results11, go_sem]) rfl ⟨rfl, ?_⟩
  (repeat (first | exact Ext.refl _ | assumption | refine Ext.alloc ?_ _ | refine Ext.drew ?_ | refine Ext.drewN ?_ _ | refine Ext.setCell ?_ (by first | (simp; done) | (simp; omega)) _ | refine Ext.trans ?_ (by assumption)))
set_option maxRecDepth 100000 in
set_option maxHeartbeats 1000000 in
theorem laws_eqMove (a b : GMove) (hab : a = b) (w : World) :
    Calls Tryd.prog 26 #[.agg #[.int .i64 a.o, .int .i64 a.t, .int .i64 a.f, .int .i64 a.s], .agg #[.int .i64 b.o, .int .i64 b.t, .int .i64 b.f, .int .i64 b.s]] w fun e w' => e = .returned (.bool true) ∧ Ext w w' := by
  subst hab
  go_enter Tryd.func26, Tryd.ntmps26
  go_wp2
  all_goals go_ret
  all_goals refine ⟨rfl, ?_⟩
  all_goals (repeat (first | exact Ext.refl _ | assumption | refine Ext.alloc ?_ _ | refine Ext.drew ?_ | refine Ext.drewN ?_ _ | refine Ext.setCell ?_ (by first | (simp; done) | (simp; omega)) _ | refine Ext.trans ?_ (by assumption)))




set_option maxRecDepth 100000 in
set_option maxHeartbeats 400000 in
theorem laws_szActS (A : Option Addr) (n c : Nat) (left : Int) (w : World) (hl : 0 ≤ left) (hl2 : left ≤ 1048576) (hn : n ≤ 9223372036854775807) :
    Calls Tryd.prog 16 #[.slice A n c, .int .i64 left] w fun e w' => e = .returned (.int .i64 (if left < n then -1 else left - n)) ∧ w = w' := by
  go_enter Tryd.func16, Tryd.ntmps16
  by_cases h : left < n
  all_goals
    go_wp2
    go_ret
    exact ⟨rfl, rfl⟩
theorem info_Act : (Tryd.prog.info? 32).map (fun i => (i.zero.map (·.cells.size), i.size, decide (i.bytes ≤ 4096))) = some (some 5, 5, true) := by kernel_rfl
set_option maxRecDepth 100000 in
set_option maxHeartbeats 1000000 in
theorem laws_toActS (A : Option Addr) (n c : Nat) (xs : List GAct) (w : World) (hx : Rd w 5 A n (xs.flatMap GAct.enc)) (hn : n ≤ 1048576) :
    Calls Tryd.prog 18 #[.slice A n c] w fun e w' => ∃ g : Nat, e = .returned (.slice (some ⟨g, 0, none⟩) n n) ∧ Ext w w' ∧ w'.ownsRow w.heap.size 32 5 (.slice (some ⟨g, 0, none⟩) n n) n (xs.flatMap GAct.enc) := by
  have hl := Lib.hid (hx.len GAct.len (by omega))
  have hin := info_Act
  cases hi : Tryd.prog.info? 32 with
  | none => rw [hi] at hin; cases hin
  | some i =>
  rw [hi] at hin
  simp only [Option.map_some, Option.some.injEq, Prod.mk.injEq, decide_eq_true_eq] at hin
  obtain ⟨hz0, hsz, hby⟩ := hin
  cases hz : i.zero with
  | none => rw [hz] at hz0; cases hz0
  | some z =>
  rw [hz] at hz0
  simp only [Option.map_some, Option.some.injEq] at hz0
  have hmk := make_row (P := Tryd.prog) 38 32 i z Tryd.underlying38 hi hz n (by have := Nat.mul_le_mul hby hn; omega) (by omega)
  rw [hsz] at hmk
  obtain ⟨cells, hcells⟩ : ∃ cells, cells = madeCells z.cells (n * 5) := ⟨_, rfl⟩
  rw [← hcells] at hmk
  have hcs : cells.size = n * 5 := by rw [hcells, size_madeCells]
  clear hcells hi hz hsz hby hz0
  go_enter Tryd.func18, Tryd.ntmps18
  go_wp2_with fail
  go_loopw [4] (fun i wr => ∃ (k : Nat) (cur : Array Value), k ≤ n ∧ i = .int .i64 k ∧ cur.size = n * 5 ∧ Hid (cur.toList.take (k * 5) = (xs.take k).flatMap GAct.enc) ∧ Blk wr w.heap.size 32 cur ∧ Ext w wr) (fun i _ => n - (intOf i).toNat)
  case atStart => exact ⟨0, cells, Nat.zero_le _, rfl, hcs, by unfold Hid; simp, Blk.new _ _ _, (Ext.refl _).alloc _⟩
  case round =>
    obtain ⟨k, cur, hk, rfl, hcz, hz, hblk, hb⟩ := hrel
    clear hmk hcs
    by_cases hlt : k < n
    · obtain ⟨b, off, x, rfl, hbs, hxk, h0, h1, h2, h3, h4⟩ := GAct.at_ (hx.keep hb) hlt
      have HX := Lib.hid hxk
      have HB := Lib.hid hb
      clear hxk hb
      have c0 := hblk.cellAt (i := k * 5) (by omega)
      have f0 := hblk.free (k * 5)
      have c1 := hblk.cellAt (i := k * 5 + 1) (by omega)
      have f1 := hblk.free (k * 5 + 1)
      have c2 := hblk.cellAt (i := k * 5 + 2) (by omega)
      have f2 := hblk.free (k * 5 + 2)
      have c3 := hblk.cellAt (i := k * 5 + 3) (by omega)
      have f3 := hblk.free (k * 5 + 3)
      have c4 := hblk.cellAt (i := k * 5 + 4) (by omega)
      have f4 := hblk.free (k * 5 + 4)
      have HBk := Lib.hid hblk
      clear hblk
      go_wp2_with (go_at_call 14; refine (laws_toAct x _).mono ?_; rintro e w1 ⟨rfl, hb1⟩; have hblk1 := HBk.out.keep hb1; have c0 := hblk1.cellAt (i := k * 5) (by omega); have f0 := hblk1.free (k * 5); have c1 := hblk1.cellAt (i := k * 5 + 1) (by omega); have f1 := hblk1.free (k * 5 + 1); have c2 := hblk1.cellAt (i := k * 5 + 2) (by omega); have f2 := hblk1.free (k * 5 + 2); have c3 := hblk1.cellAt (i := k * 5 + 3) (by omega); have f3 := hblk1.free (k * 5 + 3); have c4 := hblk1.cellAt (i := k * 5 + 4) (by omega); have f4 := hblk1.free (k * 5 + 4); have HB1 := Lib.hid hb1; have HBk1 := Lib.hid hblk1; clear hb1 hblk1)
      go_roundw
      case rel =>
        refine ⟨k + 1, setRow cur (k * 5) [.int .i64 x.k, .int .i64 x.a, .int .i64 x.b, .int .i64 x.c, .int .i64 x.d], by omega, by go_num, by rw [setRow_size]; exact hcz, ?_, ?_, ?_⟩
        · unfold Hid
          rw [take_snoc HX.out, List.flatMap_append]
          exact setRow_take (m := 5) rfl (by rw [hcz]; omega) hz.out
        · exact Blk.sets [.int .i64 x.k, .int .i64 x.a, .int .i64 x.b, .int .i64 x.c, .int .i64 x.d] (k * 5) HBk1.out
        · exact Ext.sets [.int .i64 x.k, .int .i64 x.a, .int .i64 x.b, .int .i64 x.c, .int .i64 x.d] (k * 5) (HB.out.trans HB1.out) (Nat.le_refl _)
      case measure => simp [intOf]; omega
    · obtain rfl : k = n := by omega
      go_wp2_with fail
      go_ret
      have h1 := hz.out
      rw [List.take_of_length_le (l := xs) (by rw [hl.out]; omega)] at h1
      exact ⟨w.heap.size, rfl, hb, own_of_blk (Nat.le_refl _) hblk hcz (by unfold maxLen; omega) h1⟩
set_option maxRecDepth 100000 in
set_option maxHeartbeats 1000000 in
theorem laws_eqActS (A A' : Option Addr) (n c n' c' : Nat) (xs : List GAct) (w : World) (hx : Rd w 5 A n (xs.flatMap GAct.enc)) (hy : Rd w 5 A' n' (xs.flatMap GAct.enc)) :
    Calls Tryd.prog 20 #[.slice A n c, .slice A' n' c'] w fun e w' => e = .returned (.bool true) ∧ Ext w w' := by
  have hn := hx.2.1
  obtain rfl : n = n' := by rw [← hx.len GAct.len (by omega), ← hy.len GAct.len (by omega)]
  go_enter Tryd.func20, Tryd.ntmps20
  go_wp2_with fail
  go_loopw [5] (fun i wr => ∃ k : Nat, k ≤ n ∧ i = .int .i64 k ∧ Ext w wr) (fun i _ => n - (intOf i).toNat)
  case atStart => exact ⟨0, Nat.zero_le _, rfl, Ext.refl _⟩
  case round =>
    obtain ⟨k, hk, rfl, hb⟩ := hrel
    by_cases hlt : k < n
    · obtain ⟨b, off, x, rfl, hbs, hxk, h0, h1, h2, h3, h4⟩ := GAct.at_ (hx.keep hb) hlt
      obtain ⟨b', off', y, rfl, hbs', hyk, g0, g1, g2, g3, g4⟩ := GAct.at_ (hy.keep hb) hlt
      obtain rfl : x = y := by rw [hyk] at hxk; simpa using hxk.symm
      clear hxk hyk
      have Hb := Lib.hid hb
      clear hb
      go_wp2_with fail
      go_still_tail 8, (by kernel_rfl)
      change wpList _ _ _ _ _ wr.drew
      go_wp2_with (go_at_call 23; refine (laws_eqAct x x rfl _).mono ?_; rintro e w1 ⟨rfl, hb1⟩)
      go_roundw
      case rel => exact ⟨k + 1, by omega, by go_num, Hb.out.drew.trans hb1⟩
      case measure => simp [intOf]; omega
    · go_wp2_with fail
      go_ret
      exact ⟨rfl, hb⟩




end Go.Proofs.YtcmbjkidgemdaaaDoor
