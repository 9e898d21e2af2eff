/- Contracts of the laws' marks on rows of entries; no condition but what stands at each theorem. -/
import Derived.Test.YtkelmeemblmggaaKM
import Derived.Laws.IdiomStrings
import Derived.Lib.ItoaNum
namespace Go.Proofs.Ytkelmeemblmggaa
set_option linter.unusedSimpArgs false
set_option linter.unusedVariables false
open Go.RowKit Go.Sort
def digM (m : Nat) : List UInt8 := if m = 0 then [] else Lib.decDigits m
theorem digM_step {m : Nat} (h : m ≠ 0) : digM m = digM (m / 10) ++ [UInt8.ofNat (48 + m % 10)] := by
  unfold digM
  rw [if_neg h, Lib.decDigits]
  by_cases h10 : m < 10
  · rw [dif_pos h10, if_pos (by omega), show m % 10 = m by omega]; rfl
  · rw [dif_neg h10, if_neg (by omega)]
/-- The text of a mark. -/
def mtxt (k : Nat) : ByteArray := ⟨((109 :: digM k).take 20).toArray⟩
theorem mtxt_size (k : Nat) : (mtxt k).size ≤ 20 := by
  unfold mtxt ByteArray.size
  simp only [List.size_toArray, List.length_take]
  omega
theorem strM_app (a b : List UInt8) : ((⟨a.toArray⟩ : ByteArray) ++ ⟨b.toArray⟩) = ⟨(a ++ b).toArray⟩ := by
  apply ByteArray.ext
  simp
theorem strM_cons (b : UInt8) (L : List UInt8) : ((⟨#[b]⟩ : ByteArray) ++ ⟨L.toArray⟩) = ⟨(b :: L).toArray⟩ := strM_app [b] L
theorem convM1 (w : World) (x : Nat) (h : x < 256) : (convert 85 9 (.slice (some ⟨w.heap.size, 0, none⟩) 1 1)).run Try.prog (w.alloc (.cells #[.int .u8 (x : Int)] 5)) = .ok (.string ⟨#[UInt8.ofNat x]⟩) (w.alloc (.cells #[.int .u8 (x : Int)] 5)) := by
  refine run_convert_bytes_back (P := Try.prog) _ 85 9 5 _ 1 [UInt8.ofNat x] Try.underlying85 Try.underlying5 Try.underlying9 ?_
  intro j hj
  simp only [List.length_cons, List.length_nil] at hj
  obtain rfl : j = 0 := by omega
  rw [add_none, World.cell?_alloc_new]
  simp [Nat.mod_eq_of_lt h]
set_option maxRecDepth 100000 in
set_option maxHeartbeats 1000000 in
theorem laws_markText (n : Nat) (w : World) (hn0 : 0 < n) (h : n ≤ 1000000000000) : Calls Try.prog 48 #[.int .i64 n] w fun e w' => e = .returned (.string (mtxt n)) ∧ Ext w w' := by
  have g0 : ¬ (n : Int) ≤ 0 := by omega
  go_enter Try.func48, Try.ntmps48
  go_wp2_with fail
  go_loopw [0, 3] (fun z t wr => ∃ (m : Nat) (L : List UInt8), z = .int .i64 (m : Int) ∧ t = .string ⟨L.toArray⟩ ∧ m ≤ 1000000000000 ∧ L.length ≤ 13 ∧ Hid (m < 10 ^ (13 - L.length)) ∧ Hid (Lib.decDigits n = digM m ++ L) ∧ Ext w wr) (fun z _ _ => (intOf z).toNat)
  case atStart => exact ⟨n, [], rfl, rfl, h, by simp, by unfold Hid; simp; omega, by unfold Hid digM; rw [if_neg (by omega)]; simp, Ext.refl _⟩
  case round =>
    obtain ⟨m, L, rfl, rfl, hm, hL13, hpw, hz, hb⟩ := hrel
    have HB := Lib.hid hb
    clear hb
    by_cases hm0 : m = 0
    · subst hm0
      have HT : Hid (mtxt n = (⟨#[109]⟩ : ByteArray) ++ ⟨L.toArray⟩) := by
        have h2 := hz.out
        unfold Hid mtxt
        rw [strM_cons, digM, if_neg (by omega), h2]
        simp only [digM, if_true, List.nil_append]
        rw [List.take_of_length_le (by simp; omega)]
      have f1 : ¬ (0 : Int) < ((0 : Nat) : Int) := by omega
      go_wp2_with fail
      go_ret
      exact ⟨by rw [HT.out]; rfl, HB.out⟩
    · have f1 : (0 : Int) < (m : Int) := by omega
      have HZ : Hid (Lib.decDigits n = digM (m / 10) ++ (UInt8.ofNat (48 + m % 10) :: L)) := by
        unfold Hid
        rw [hz.out, digM_step hm0, List.append_assoc]
        rfl
      have hd : m % 10 ≤ 9 := by omega
      have hcv := fun (w : World) => convM1 w (48 + m % 10) (by omega)
      have ec : ((48 + m % 10 : Nat) : Int) = 48 + (m : Int) % 10 := by push_cast; rfl
      rw [ec] at hcv
      have hm1 : m / 10 < m := by omega
      have hL12 : L.length ≤ 12 := by
        have h2 := hpw.out
        have : L.length ≠ 13 := by
          intro e; rw [e] at h2; simp at h2; omega
        omega
      have HPw : Hid (m / 10 < 10 ^ (13 - (UInt8.ofNat (48 + m % 10) :: L).length)) := by
        have h2 := hpw.out
        unfold Hid
        rw [show 13 - L.length = (12 - L.length) + 1 by omega, Nat.pow_succ] at h2
        rw [List.length_cons, show 13 - (L.length + 1) = 12 - L.length by omega]
        exact Nat.div_lt_of_lt_mul (by omega)
      clear ec
      go_wp2_with fail
      go_roundw
      case rel => exact ⟨m / 10, UInt8.ofNat (48 + m % 10) :: L, by go_num, by rw [strM_cons, UInt8.ofNat_add]; rfl, by omega, by simp; omega, HPw, HZ, HB.out.alloc _⟩
      case measure => simp [intOf]; omega
theorem grown_ofExt {w w' : World} (e : Ext w w') (row : Option Nat) : w.grownBy w' row := ⟨e.os, e.tape, e.output, e.size, fun i hi _ => e.block i hi⟩
/-- A marked entry. -/
def markEnt (k : Int) : GEntry := ⟨k, mtxt (k + 1).toNat, k + 1 + 1, by have := mtxt_size (k + 1).toNat; omega⟩
def markEntryL (k : Int) (n : Nat) : List GEntry := (List.range n).map fun (i : Nat) => markEnt (k + ↑i * 3)
theorem markEntryL_len (k : Int) (n : Nat) : (markEntryL k n).length = n := by simp [markEntryL]
theorem markEntryL_snoc (k : Int) (i : Nat) : markEntryL k (i + 1) = markEntryL k i ++ [markEnt (k + ↑i * 3)] := by simp [markEntryL, List.range_succ]
theorem markEntryL_at (k : Int) (n : Nat) {i : Nat} (h : i < n) : (markEntryL k n)[i]? = some (markEnt (k + ↑i * 3)) := by simp [markEntryL, h]
set_option maxRecDepth 100000 in
set_option maxHeartbeats 1000000 in
theorem laws_markEntryS (A : Option Addr) (n c : Nat) (k : Int) (base : Nat) (L : List Value) (w : World) (ho : w.ownsRow base 71 3 (.slice A n c) n L) (hn : n ≤ 1048576) (hk0 : 0 ≤ k) (hk1 : k ≤ 1000000000) :
    Calls Try.prog 28 #[.slice A n c, .int .i64 k] w fun e w' => e = .returned (.int .i64 (k + ↑n * 3)) ∧ w'.ownsRow base 71 3 (.slice A n c) n ((markEntryL k n).flatMap GEntry.enc) ∧ w.grownBy w' (Value.slice A n c).ownBlock := by
  rcases own_block ho with ⟨rfl, rfl, rfl⟩ | ⟨g, cur0, rfl, hbg, hb0, hnc, hcm, hcs, ht⟩
  · go_enter Try.func28, Try.ntmps28
    go_wp2_with fail
    refine wp_loop_rounds 1 ?_
    rw [rounds_succ]
    go_wp2
    go_ret
    exact ⟨ret_int (by simp), World.ownsRow_nil _ _ _ _, grown_refl _ _⟩
  · go_enter Try.func28, Try.ntmps28
    go_wp2_with fail
    go_loopw [1, 5] (fun kv iv wr => ∃ (i : Nat) (cur : Array Value), i ≤ n ∧ iv = .int .i64 i ∧ kv = .int .i64 (k + ↑i * 3) ∧ cur.size = c * 3 ∧ Hid (cur.toList.take (i * 3) = (markEntryL k i).flatMap GEntry.enc) ∧ Blk wr g 71 cur ∧ w.grownBy wr (some g)) (fun _ iv _ => n - (intOf iv).toNat)
    case atStart => exact ⟨0, cur0, Nat.zero_le _, rfl, by simp, hcs, by unfold Hid; simp [markEntryL], hb0, grown_refl _ _⟩
    case round =>
      obtain ⟨i, cur, hi, rfl, rfl, hcz, hz, hblk, hg⟩ := hrel
      by_cases hlt : i < n
      · have hcm' := Nat.mul_le_mul_right 3 hnc
        have c0 := hblk.cellAt (i := i * 3) (by omega)
        have f0 := hblk.free (i * 3)
        have HBk := Lib.hid hblk
        have HG := Lib.hid hg
        clear hblk hg
        go_wp2_with (go_at_call 48; refine (fun h : Hid _ => h.out) ?_)
        unfold Hid
        obtain ⟨q, hq⟩ := Int.eq_ofNat_of_zero_le (show 0 ≤ k + ↑i * 3 + 1 by omega)
        have cT := laws_markText q (wr.setCell ⟨g, i * 3, none⟩ (.int .i64 (k + ↑i * 3))) (by omega) (by omega)
        rw [← hq] at cT
        have hq2 : Hid (mtxt q = mtxt (k + ↑i * 3 + 1).toNat) := Lib.hid (by rw [hq]; rfl)
        clear hq
        refine cT.mono ?_
        rintro e w2 ⟨rfl, e2⟩
        have hb1 := (HBk.out.set (i * 3) (.int .i64 (k + ↑i * 3))).keep e2
        have hg1 := grown_trans (grown_set HG.out (i * 3) (.int .i64 (k + ↑i * 3))) (grown_ofExt e2 (some g))
        have HB2 := Lib.hid hb1
        have HG2 := Lib.hid hg1
        have c1 := hb1.cellAt (i := i * 3 + 1) (by simp; omega)
        have f1 := hb1.free (i * 3 + 1)
        have c2 := hb1.cellAt (i := i * 3 + 2) (by simp; omega)
        have f2 := hb1.free (i * 3 + 2)
        have hl2 := hb1.lt
        have HE : Hid (setRow cur (i * 3) [.int .i64 (k + ↑i * 3), .string (mtxt q), .int .i64 (k + ↑i * 3 + 1 + 1)] = ((cur.setIfInBounds (i * 3) (.int .i64 (k + ↑i * 3))).setIfInBounds (i * 3 + 1) (.string (mtxt q))).setIfInBounds (i * 3 + 2) (.int .i64 (k + ↑i * 3 + 1 + 1))) := Lib.hid (by simp only [setRow])
        clear cT e2 hb1 hg1 c0 f0
        go_wp2_with fail
        go_roundw
        case rel =>
          refine ⟨i + 1, setRow cur (i * 3) [.int .i64 (k + ↑i * 3), .string (mtxt q), .int .i64 (k + ↑i * 3 + 1 + 1)], by omega, by go_num, mark_num (by push_cast; omega), by rw [setRow_size]; exact hcz, ?_, ?_, ?_⟩
          · unfold Hid
            rw [markEntryL_snoc, List.flatMap_append, hq2.out]
            exact setRow_take (m := 3) rfl (by rw [hcz]; omega) hz.out
          · have hE := HE.out
            have hb3 := (HB2.out.set (i * 3 + 1) (.string (mtxt q))).set (i * 3 + 2) (.int .i64 (k + ↑i * 3 + 1 + 1))
            rw [← hE] at hb3
            exact hb3
          · exact grown_set (grown_set HG2.out (i * 3 + 1) (.string (mtxt q))) (i * 3 + 2) (.int .i64 (k + ↑i * 3 + 1 + 1))
        case measure => simp [intOf]; omega
      · obtain rfl : i = n := by omega
        go_wp2_with fail
        go_ret
        refine ⟨ret_int (by first | rfl | omega), ⟨by rw [flat_len GEntry.enc 3 GEntry.len, markEntryL_len], .inr ⟨g, c, cur, rfl, hbg, hblk, hnc, hcm, hcz, hz.out⟩⟩, hg⟩
set_option maxRecDepth 100000 in
set_option maxHeartbeats 1000000 in
theorem laws_heldEntryS (A : Option Addr) (n c : Nat) (k : Int) (w : World) (hx : Rd w 3 A n ((markEntryL k n).flatMap GEntry.enc)) (hn : n ≤ 1048576) (hk0 : 0 ≤ k) (hk1 : k ≤ 1000000000) :
    Calls Try.prog 31 #[.slice A n c, .int .i64 k] w fun e w' => e = .returned (.int .i64 (k + ↑n * 3)) ∧ Ext w w' := by
  go_enter Try.func31, Try.ntmps31
  go_wp2_with fail
  go_loopw [1, 5] (fun kv iv wr => ∃ (i : Nat), i ≤ n ∧ iv = .int .i64 i ∧ kv = .int .i64 (k + ↑i * 3) ∧ Ext w wr) (fun _ iv _ => n - (intOf iv).toNat)
  case atStart => exact ⟨0, Nat.zero_le _, rfl, by simp, Ext.refl _⟩
  case round =>
    obtain ⟨i, hi, rfl, rfl, hb⟩ := hrel
    by_cases hlt : i < n
    · obtain ⟨b, off, x, rfl, hbs, hxk, q0, q1, q2⟩ := GEntry.at_ (hx.keep hb) hlt
      rw [markEntryL_at k n hlt] at hxk
      injection hxk with hxk
      subst hxk
      have HB := Lib.hid hb
      clear hb
      obtain ⟨q, hq⟩ := Int.eq_ofNat_of_zero_le (show 0 ≤ k + ↑i * 3 + 1 by omega)
      have cT := Lib.hid (fun W => laws_markText q W (by omega) (by omega))
      rw [← hq] at cT
      have hq2 : (k + ↑i * 3 + 1).toNat = q := by rw [hq]; rfl
      simp only [markEnt] at q0 q1 q2
      rw [hq2] at q1
      clear hq
      have r1 := cell_regrown q1
      go_wp2_with fail
      (refine wp_region_ext (by kernel_rfl) (by kernel_rfl) ?_; (repeat (go_big_quiet_step (first | (go_at_call 48; with_reducible exact Calls.rg (cT.out _))))); refine wpQuiet_nil ?_)
      intro w10 hb10
      have hb11 := HB.out.trans hb10
      have y2 := (hb10.cellAt b hbs (off + i * 3 + 2)).trans q2
      have HB11 := Lib.hid hb11
      clear hb10 hb11 r1 q0 q1 q2 cT
      go_wp2_with fail
      go_roundw
      case rel => exact ⟨i + 1, by omega, by go_num, mark_num (by push_cast; omega), HB11.out⟩
      case measure => simp [intOf]; omega
    · obtain rfl : i = n := by omega
      go_wp2_with fail
      go_ret
      exact ⟨ret_int (by first | rfl | omega), hb⟩
end Go.Proofs.Ytkelmeemblmggaa
