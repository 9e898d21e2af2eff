/- Contracts of the laws' helpers on entries and museums; no condition but what stands at each theorem. -/
import Derived.Test.YtkelmeemblmggaaT2
import Derived.Test.YtkelmeemblmggaaH3
namespace Go.Proofs.Ytkelmeemblmggaa
set_option linter.unusedSimpArgs false
set_option linter.unusedVariables false
open Go.RowKit Go.Sort
set_option maxRecDepth 100000 in
set_option maxHeartbeats 400000 in
theorem laws_toEntry (s : GEntry) (w : World) :
    Calls Try.prog 62 #[.agg #[.int .i64 s.m, .string s.x, .int .i64 s.s]] w fun e w' => e = .returned (.agg #[.int .i64 s.m, .string s.x, .int .i64 s.s]) ∧ Ext w w' := by
  go_enter Try.func62, Try.ntmps62
  go_wp2
  refine bodyPost_ret (v := .agg #[.int .i64 s.m, .string s.x, .int .i64 s.s]) (by simp [results, Try.results62, go_sem]) rfl ⟨rfl, ?_⟩
  (repeat (first | exact Ext.refl _ | assumption | refine Ext.alloc ?_ _ | refine Ext.drew ?_ | refine Ext.drewN ?_ _ | refine Ext.setCell ?_ (by first | (simp; done) | (simp; omega)) _ | refine Ext.trans ?_ (by assumption)))
set_option maxRecDepth 100000 in
set_option maxHeartbeats 1000000 in
theorem laws_eqEntry (a b : GEntry) (hab : a = b) (w : World) :
    Calls Try.prog 47 #[.agg #[.int .i64 a.m, .string a.x, .int .i64 a.s], .agg #[.int .i64 b.m, .string b.x, .int .i64 b.s]] w fun e w' => e = .returned (.bool true) ∧ Ext w w' := by
  subst hab
  go_enter Try.func47, Try.ntmps47
  go_wp2
  all_goals go_ret
  all_goals refine ⟨rfl, ?_⟩
  all_goals (repeat (first | exact Ext.refl _ | assumption | refine Ext.alloc ?_ _ | refine Ext.drew ?_ | refine Ext.drewN ?_ _ | refine Ext.setCell ?_ (by first | (simp; done) | (simp; omega)) _ | refine Ext.trans ?_ (by assumption)))
theorem info_Entry : (Try.prog.info? 71).map (fun i => (i.zero.map (·.cells.size), i.size, decide (i.bytes ≤ 4096))) = some (some 3, 3, true) := by kernel_rfl
set_option maxRecDepth 100000 in
set_option maxHeartbeats 1000000 in
theorem laws_toEntryS (A : Option Addr) (n c : Nat) (xs : List GEntry) (w : World) (hx : Rd w 3 A n (xs.flatMap GEntry.enc)) (hn : n ≤ 1048576) :
    Calls Try.prog 43 #[.slice A n c] w fun e w' => ∃ g : Nat, e = .returned (.slice (some ⟨g, 0, none⟩) n n) ∧ Ext w w' ∧ w'.ownsRow w.heap.size 71 3 (.slice (some ⟨g, 0, none⟩) n n) n (xs.flatMap GEntry.enc) := by
  have hl := Lib.hid (hx.len GEntry.len (by omega))
  have hin := info_Entry
  cases hi : Try.prog.info? 71 with
  | none => rw [hi] at hin; cases hin
  | some i =>
  rw [hi] at hin
  simp only [Option.map_some, Option.some.injEq, Prod.mk.injEq, decide_eq_true_eq] at hin
  obtain ⟨hz0, hsz, hby⟩ := hin
  cases hz : i.zero with
  | none => rw [hz] at hz0; cases hz0
  | some z =>
  rw [hz] at hz0
  simp only [Option.map_some, Option.some.injEq] at hz0
  have hmk := make_row (P := Try.prog) 26 71 i z Try.underlying26 hi hz n (by have := Nat.mul_le_mul hby hn; omega) (by omega)
  rw [hsz] at hmk
  obtain ⟨cells, hcells⟩ : ∃ cells, cells = madeCells z.cells (n * 3) := ⟨_, rfl⟩
  rw [← hcells] at hmk
  have hcs : cells.size = n * 3 := by rw [hcells, size_madeCells]
  clear hcells hi hz hsz hby hz0
  go_enter Try.func43, Try.ntmps43
  go_wp2_with fail
  go_loopw [4] (fun i wr => ∃ (k : Nat) (cur : Array Value), k ≤ n ∧ i = .int .i64 k ∧ cur.size = n * 3 ∧ Hid (cur.toList.take (k * 3) = (xs.take k).flatMap GEntry.enc) ∧ Blk wr w.heap.size 71 cur ∧ Ext w wr) (fun i _ => n - (intOf i).toNat)
  case atStart => exact ⟨0, cells, Nat.zero_le _, rfl, hcs, by unfold Hid; simp, Blk.new _ _ _, (Ext.refl _).alloc _⟩
  case round =>
    obtain ⟨k, cur, hk, rfl, hcz, hz, hblk, hb⟩ := hrel
    clear hmk hcs
    by_cases hlt : k < n
    · obtain ⟨b, off, x, rfl, hbs, hxk, h0, h1, h2⟩ := GEntry.at_ (hx.keep hb) hlt
      have HX := Lib.hid hxk
      have HB := Lib.hid hb
      clear hxk hb
      have c0 := hblk.cellAt (i := k * 3) (by omega)
      have f0 := hblk.free (k * 3)
      have c1 := hblk.cellAt (i := k * 3 + 1) (by omega)
      have f1 := hblk.free (k * 3 + 1)
      have c2 := hblk.cellAt (i := k * 3 + 2) (by omega)
      have f2 := hblk.free (k * 3 + 2)
      have HBk := Lib.hid hblk
      clear hblk
      go_wp2_with (go_at_call 62; refine (laws_toEntry x _).mono ?_; rintro e w1 ⟨rfl, hb1⟩; have hblk1 := HBk.out.keep hb1; have c0 := hblk1.cellAt (i := k * 3) (by omega); have f0 := hblk1.free (k * 3); have c1 := hblk1.cellAt (i := k * 3 + 1) (by omega); have f1 := hblk1.free (k * 3 + 1); have c2 := hblk1.cellAt (i := k * 3 + 2) (by omega); have f2 := hblk1.free (k * 3 + 2); have HB1 := Lib.hid hb1; have HBk1 := Lib.hid hblk1; clear hb1 hblk1)
      go_roundw
      case rel =>
        refine ⟨k + 1, setRow cur (k * 3) [.int .i64 x.m, .string x.x, .int .i64 x.s], by omega, by go_num, by rw [setRow_size]; exact hcz, ?_, ?_, ?_⟩
        · unfold Hid
          rw [take_snoc HX.out, List.flatMap_append]
          exact setRow_take (m := 3) rfl (by rw [hcz]; omega) hz.out
        · exact Blk.sets [.int .i64 x.m, .string x.x, .int .i64 x.s] (k * 3) HBk1.out
        · exact Ext.sets [.int .i64 x.m, .string x.x, .int .i64 x.s] (k * 3) (HB.out.trans HB1.out) (Nat.le_refl _)
      case measure => simp [intOf]; omega
    · obtain rfl : k = n := by omega
      go_wp2_with fail
      go_ret
      have h1 := hz.out
      rw [List.take_of_length_le (l := xs) (by rw [hl.out]; omega)] at h1
      exact ⟨w.heap.size, rfl, hb, own_of_blk (Nat.le_refl _) hblk hcz (by unfold maxLen; omega) h1⟩
set_option maxRecDepth 100000 in
set_option maxHeartbeats 1000000 in
theorem laws_eqEntryS (A A' : Option Addr) (n c n' c' : Nat) (xs : List GEntry) (w : World) (hx : Rd w 3 A n (xs.flatMap GEntry.enc)) (hy : Rd w 3 A' n' (xs.flatMap GEntry.enc)) :
    Calls Try.prog 27 #[.slice A n c, .slice A' n' c'] w fun e w' => e = .returned (.bool true) ∧ Ext w w' := by
  have hn := hx.2.1
  obtain rfl : n = n' := by rw [← hx.len GEntry.len (by omega), ← hy.len GEntry.len (by omega)]
  go_enter Try.func27, Try.ntmps27
  go_wp2_with fail
  go_loopw [5] (fun i wr => ∃ k : Nat, k ≤ n ∧ i = .int .i64 k ∧ Ext w wr) (fun i _ => n - (intOf i).toNat)
  case atStart => exact ⟨0, Nat.zero_le _, rfl, Ext.refl _⟩
  case round =>
    obtain ⟨k, hk, rfl, hb⟩ := hrel
    by_cases hlt : k < n
    · obtain ⟨b, off, x, rfl, hbs, hxk, h0, h1, h2⟩ := GEntry.at_ (hx.keep hb) hlt
      obtain ⟨b', off', y, rfl, hbs', hyk, g0, g1, g2⟩ := GEntry.at_ (hy.keep hb) hlt
      obtain rfl : x = y := by rw [hyk] at hxk; simpa using hxk.symm
      clear hxk hyk
      have Hb := Lib.hid hb
      clear hb
      go_wp2_with fail
      go_still_tail 8, (by kernel_rfl)
      change wpList _ _ _ _ _ wr.drew
      go_wp2_with (go_at_call 47; refine (laws_eqEntry x x rfl _).mono ?_; rintro e w1 ⟨rfl, hb1⟩)
      go_roundw
      case rel => exact ⟨k + 1, by omega, by go_num, Hb.out.drew.trans hb1⟩
      case measure => simp [intOf]; omega
    · go_wp2_with fail
      go_ret
      exact ⟨rfl, hb⟩
def bulkE (xs : List GEntry) : Int := xs.foldr (fun e t => (e.x.size : Int) + t) 0
theorem bulkE_nn : ∀ xs : List GEntry, 0 ≤ bulkE xs
  | [] => by simp [bulkE]
  | e :: r => by have := bulkE_nn r; simp only [bulkE, List.foldr_cons] at *; omega
theorem bulkE_cons (e : GEntry) (r : List GEntry) : bulkE (e :: r) = (e.x.size : Int) + bulkE r := rfl
set_option maxRecDepth 100000 in
set_option maxHeartbeats 400000 in
theorem laws_szEntry (e : GEntry) (left : Int) (w : World) (h0 : 0 ≤ left) (h1 : left ≤ 1048576) :
    Calls Try.prog 61 #[.agg #[.int .i64 e.m, .string e.x, .int .i64 e.s], .int .i64 left] w fun r w' => r = .returned (.int .i64 (if left < e.x.size then -1 else left - e.x.size)) ∧ Ext w w' := by
  have hx := e.h
  by_cases h : left < e.x.size
  all_goals
    go_enter Try.func61, Try.ntmps61
    go_wp2
    go_ret
    refine ⟨ret_int (by simp [h]), ?_⟩
    (repeat (first | exact Ext.refl _ | assumption | refine Ext.alloc ?_ _ | refine Ext.drew ?_ | refine Ext.drewN ?_ _ | refine Ext.setCell ?_ (by first | (simp; done) | (simp; omega)) _ | refine Ext.trans ?_ (by assumption)))
set_option maxRecDepth 100000 in
set_option maxHeartbeats 1000000 in
theorem laws_szEntryS (A : Option Addr) (n c : Nat) (xs : List GEntry) (left : Int) (w : World) (hx : Rd w 3 A n (xs.flatMap GEntry.enc)) (h0 : 0 ≤ left) (h1 : left ≤ 1048576) :
    Calls Try.prog 41 #[.slice A n c, .int .i64 left] w fun r w' => r = .returned (.int .i64 (if left < (n : Int) + bulkE xs then -1 else left - ((n : Int) + bulkE xs))) ∧ Ext w w' := by
  have hn := hx.2.1
  have hl := Lib.hid (hx.len GEntry.len (by omega))
  have hB := bulkE_nn xs
  obtain ⟨r, hr⟩ : ∃ r, r = (if left < (n : Int) + bulkE xs then -1 else left - ((n : Int) + bulkE xs)) := ⟨_, rfl⟩
  rw [← hr]
  have HR := Lib.hid hr
  have HX := Lib.hid hx
  clear hr hx
  by_cases q0 : left < n
  case pos =>
    have HQ : Hid (r = -1) := by unfold Hid; rw [HR.out, if_pos (by omega)]
    go_enter Try.func41, Try.ntmps41
    go_wp2
    go_ret
    exact ⟨ret_int (by rw [HQ.out]), Ext.refl _⟩
  have HB := Lib.hid hB
  clear hB
  go_enter Try.func41, Try.ntmps41
  go_wp2_with fail
  go_loopw [1, 5] (fun z i wr => ∃ (k : Nat) (a : Int), k ≤ n ∧ i = .int .i64 k ∧ z = .int .i64 a ∧ 0 ≤ a ∧ a ≤ 1048576 ∧ Hid (left - ((n : Int) + bulkE xs) = a - bulkE (xs.drop k)) ∧ Ext w wr) (fun _ i _ => n - (intOf i).toNat)
  case atStart => exact ⟨0, left - n, Nat.zero_le _, rfl, by first | rfl | (rw [IntWalk.wrap64_in _ ⟨by omega, by omega⟩]), by omega, by omega, by unfold Hid; rw [List.drop_zero]; omega, Ext.refl _⟩
  case round =>
    obtain ⟨k, a, hk, rfl, rfl, ha0, ha1, hz, hb⟩ := hrel
    by_cases hlt : k < n
    · obtain ⟨b, off, x, rfl, hbs, hxk, p0, p1, p2⟩ := GEntry.at_ (HX.out.keep hb) hlt
      have HD := Lib.hid (drop_cons hxk)
      have hnn := bulkE_nn (xs.drop (k + 1))
      have hxh := x.h
      have HBb := Lib.hid hb
      clear hxk hb
      by_cases q : a < x.x.size
      · have HQ : Hid (r = -1) := by
          have h2 := hz.out
          rw [HD.out, bulkE_cons] at h2
          unfold Hid; rw [HR.out, if_pos (by omega)]
        clear hnn
        go_wp2_with (go_at_call 61; refine (laws_szEntry x a _ ha0 ha1).mono ?_; rintro e w1 ⟨he, hb1⟩; rw [if_pos q] at he; subst he; have HB1 := Lib.hid hb1; clear hb1)
        go_ret
        exact ⟨ret_int (by rw [HQ.out]), HBb.out.trans HB1.out⟩
      · have HQ : Hid (left - ((n : Int) + bulkE xs) = (a - x.x.size) - bulkE (xs.drop (k + 1))) := by
          have h2 := hz.out
          rw [HD.out, bulkE_cons] at h2
          unfold Hid; omega
        clear hnn
        go_wp2_with (go_at_call 61; refine (laws_szEntry x a _ ha0 ha1).mono ?_; rintro e w1 ⟨he, hb1⟩; rw [if_neg q] at he; subst he; have HB1 := Lib.hid hb1; clear hb1)
        go_roundw
        case rel => exact ⟨k + 1, a - x.x.size, by omega, by go_num, rfl, by omega, by omega, HQ, HBb.out.trans HB1.out⟩
        case measure => simp [intOf]; omega
    · obtain rfl : k = n := by omega
      have HQ : Hid (r = a) := by
        have h2 := hz.out
        have h3 := HB.out
        rw [drop_nil (by rw [hl.out]; omega)] at h2
        have h4 : bulkE [] = 0 := rfl
        unfold Hid; rw [HR.out, if_neg (by omega)]; omega
      go_wp2_with fail
      go_ret
      exact ⟨ret_int (by rw [HQ.out]), hb⟩
end Go.Proofs.Ytkelmeemblmggaa
