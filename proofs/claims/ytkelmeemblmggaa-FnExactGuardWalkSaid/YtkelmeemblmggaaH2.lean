/- Contracts of the laws' helpers that write over rows and ask for it again; no condition but what stands at each theorem. -/
import Derived.Test.YtkelmeemblmggaaH1
import Derived.Test.YtkelmeemblmggaaK6
namespace Go.Proofs.Ytkelmeemblmggaa
set_option linter.unusedSimpArgs false
set_option linter.unusedVariables false
open Go.RowKit
def markB (k : Int) : Bool := k % 3 == 0
def markIntL (k : Int) (n : Nat) : List Int := (List.range n).map fun (i : Nat) => k + ↑i
theorem markIntL_len (k : Int) (n : Nat) : (markIntL k n).length = n := by simp [markIntL]
theorem markIntL_snoc (k : Int) (i : Nat) : markIntL k (i + 1) = markIntL k i ++ [k + ↑i] := by simp [markIntL, List.range_succ]
theorem markIntL_at (k : Int) (n : Nat) {i : Nat} (h : i < n) : (markIntL k n)[i]? = some (k + ↑i) := by simp [markIntL, h]
set_option maxRecDepth 100000 in
set_option maxHeartbeats 1000000 in
theorem laws_markIntS (A : Option Addr) (n c : Nat) (k : Int) (base : Nat) (L : List Value) (w : World) (ho : w.ownsRow base 3 1 (.slice A n c) n L) (hn : n ≤ 1048576) (hk0 : 0 ≤ k) (hk1 : k ≤ 1099511627776) :
    Calls Try.prog 20 #[.slice A n c, .int .i64 k] w fun e w' => e = .returned (.int .i64 (k + ↑n * 1)) ∧ w'.ownsRow base 3 1 (.slice A n c) n ((markIntL k n).flatMap ienc) ∧ w.grownBy w' (Value.slice A n c).ownBlock := by
  rcases own_block ho with ⟨rfl, rfl, rfl⟩ | ⟨g, cur0, rfl, hbg, hb0, hnc, hcm, hcs, ht⟩
  · go_enter Try.func20, Try.ntmps20
    go_wp2_with fail
    refine wp_loop_rounds 1 ?_
    rw [rounds_succ]
    go_wp2
    go_ret
    exact ⟨ret_int (by simp), World.ownsRow_nil _ _ _ _, grown_refl _ _⟩
  · go_enter Try.func20, Try.ntmps20
    go_wp2_with fail
    go_loopw [1, 5] (fun kv iv wr => ∃ (i : Nat) (cur : Array Value), i ≤ n ∧ iv = .int .i64 i ∧ kv = .int .i64 (k + ↑i * 1) ∧ cur.size = c * 1 ∧ Hid (cur.toList.take (i * 1) = (markIntL k i).flatMap ienc) ∧ Blk wr g 3 cur ∧ w.grownBy wr (some g)) (fun _ iv _ => n - (intOf iv).toNat)
    case atStart => exact ⟨0, cur0, Nat.zero_le _, rfl, by simp, hcs, by unfold Hid; simp [markIntL], hb0, grown_refl _ _⟩
    case round =>
      obtain ⟨i, cur, hi, rfl, rfl, hcz, hz, hblk, hg⟩ := hrel
      by_cases hlt : i < n
      · have hcm' := Nat.mul_le_mul_right 1 hnc
        have c0 := hblk.cellAt (i := i) (by omega)
        have f0 := hblk.free (i)
        have HBk := Lib.hid hblk
        have HG := Lib.hid hg
        clear hblk hg
        go_wp2_with fail
        go_roundw
        case rel =>
          refine ⟨i + 1, setRow cur (i * 1) [.int .i64 (k + ↑i)], by omega, by go_num, mark_num (by push_cast; omega), by rw [setRow_size]; exact hcz, ?_, ?_, ?_⟩
          · unfold Hid
            rw [markIntL_snoc, List.flatMap_append]
            exact setRow_take (m := 1) rfl (by rw [hcz]; omega) hz.out
          · rw [Nat.mul_one]; exact Blk.sets [.int .i64 (k + ↑i)] i HBk.out
          · exact grown_sets [.int .i64 (k + ↑i)] i HG.out
        case measure => simp [intOf]; omega
      · obtain rfl : i = n := by omega
        go_wp2_with fail
        go_ret
        refine ⟨ret_int (by first | rfl | omega), ⟨by rw [flat_len ienc 1 ienc_len, markIntL_len], .inr ⟨g, c, cur, rfl, hbg, hblk, hnc, hcm, hcz, hz.out⟩⟩, hg⟩
set_option maxRecDepth 100000 in
set_option maxHeartbeats 1000000 in
theorem laws_heldIntS (A : Option Addr) (n c : Nat) (k : Int) (w : World) (hx : Rd w 1 A n ((markIntL k n).flatMap ienc)) (hn : n ≤ 1048576) (hk0 : 0 ≤ k) (hk1 : k ≤ 1099511627776) :
    Calls Try.prog 30 #[.slice A n c, .int .i64 k] w fun e w' => e = .returned (.int .i64 (k + ↑n * 1)) ∧ Ext w w' := by
  go_enter Try.func30, Try.ntmps30
  go_wp2_with fail
  go_loopw [1, 5] (fun kv iv wr => ∃ (i : Nat), i ≤ n ∧ iv = .int .i64 i ∧ kv = .int .i64 (k + ↑i * 1) ∧ Ext w wr) (fun _ iv _ => n - (intOf iv).toNat)
  case atStart => exact ⟨0, Nat.zero_le _, rfl, by simp, Ext.refl _⟩
  case round =>
    obtain ⟨i, hi, rfl, rfl, hb⟩ := hrel
    by_cases hlt : i < n
    · obtain ⟨b, off, x, rfl, hbs, hxk, h0⟩ := ienc_at (hx.keep hb) hlt
      rw [markIntL_at k n hlt] at hxk
      injection hxk with hxk
      subst hxk
      have HB := Lib.hid hb
      clear hb
      go_wp2_with fail
      go_roundw
      case rel => exact ⟨i + 1, by omega, by go_num, mark_num (by push_cast; omega), HB.out⟩
      case measure => simp [intOf]; omega
    · obtain rfl : i = n := by omega
      go_wp2_with fail
      go_ret
      exact ⟨ret_int (by first | rfl | omega), hb⟩
def markShiftL (k : Int) (n : Nat) : List GShift := (List.range n).map fun (i : Nat) => ⟨k + ↑i * 3, k + ↑i * 3 + 1, k + ↑i * 3 + 1 + 1⟩
theorem markShiftL_len (k : Int) (n : Nat) : (markShiftL k n).length = n := by simp [markShiftL]
theorem markShiftL_snoc (k : Int) (i : Nat) : markShiftL k (i + 1) = markShiftL k i ++ [⟨k + ↑i * 3, k + ↑i * 3 + 1, k + ↑i * 3 + 1 + 1⟩] := by simp [markShiftL, List.range_succ]
theorem markShiftL_at (k : Int) (n : Nat) {i : Nat} (h : i < n) : (markShiftL k n)[i]? = some (⟨k + ↑i * 3, k + ↑i * 3 + 1, k + ↑i * 3 + 1 + 1⟩) := by simp [markShiftL, h]
def markLoanL (k : Int) (n : Nat) : List GLoan := (List.range n).map fun (i : Nat) => ⟨k + ↑i * 4, k + ↑i * 4 + 1, k + ↑i * 4 + 1 + 1, k + ↑i * 4 + 1 + 1 + 1⟩
theorem markLoanL_len (k : Int) (n : Nat) : (markLoanL k n).length = n := by simp [markLoanL]
theorem markLoanL_snoc (k : Int) (i : Nat) : markLoanL k (i + 1) = markLoanL k i ++ [⟨k + ↑i * 4, k + ↑i * 4 + 1, k + ↑i * 4 + 1 + 1, k + ↑i * 4 + 1 + 1 + 1⟩] := by simp [markLoanL, List.range_succ]
theorem markLoanL_at (k : Int) (n : Nat) {i : Nat} (h : i < n) : (markLoanL k n)[i]? = some (⟨k + ↑i * 4, k + ↑i * 4 + 1, k + ↑i * 4 + 1 + 1, k + ↑i * 4 + 1 + 1 + 1⟩) := by simp [markLoanL, h]
def markClimateL (k : Int) (n : Nat) : List GClimate := (List.range n).map fun (i : Nat) => ⟨k + ↑i * 3, k + ↑i * 3 + 1, k + ↑i * 3 + 1 + 1⟩
theorem markClimateL_len (k : Int) (n : Nat) : (markClimateL k n).length = n := by simp [markClimateL]
theorem markClimateL_snoc (k : Int) (i : Nat) : markClimateL k (i + 1) = markClimateL k i ++ [⟨k + ↑i * 3, k + ↑i * 3 + 1, k + ↑i * 3 + 1 + 1⟩] := by simp [markClimateL, List.range_succ]
theorem markClimateL_at (k : Int) (n : Nat) {i : Nat} (h : i < n) : (markClimateL k n)[i]? = some (⟨k + ↑i * 3, k + ↑i * 3 + 1, k + ↑i * 3 + 1 + 1⟩) := by simp [markClimateL, h]
def markCheckL (k : Int) (n : Nat) : List GCheck := (List.range n).map fun (i : Nat) => ⟨k + ↑i * 3, k + ↑i * 3 + 1, markB (k + ↑i * 3 + 1 + 1)⟩
theorem markCheckL_len (k : Int) (n : Nat) : (markCheckL k n).length = n := by simp [markCheckL]
theorem markCheckL_snoc (k : Int) (i : Nat) : markCheckL k (i + 1) = markCheckL k i ++ [⟨k + ↑i * 3, k + ↑i * 3 + 1, markB (k + ↑i * 3 + 1 + 1)⟩] := by simp [markCheckL, List.range_succ]
theorem markCheckL_at (k : Int) (n : Nat) {i : Nat} (h : i < n) : (markCheckL k n)[i]? = some (⟨k + ↑i * 3, k + ↑i * 3 + 1, markB (k + ↑i * 3 + 1 + 1)⟩) := by simp [markCheckL, h]
def markStayL (k : Int) (n : Nat) : List GStay := (List.range n).map fun (i : Nat) => ⟨k + ↑i * 4, k + ↑i * 4 + 1, k + ↑i * 4 + 1 + 1, k + ↑i * 4 + 1 + 1 + 1⟩
theorem markStayL_len (k : Int) (n : Nat) : (markStayL k n).length = n := by simp [markStayL]
theorem markStayL_snoc (k : Int) (i : Nat) : markStayL k (i + 1) = markStayL k i ++ [⟨k + ↑i * 4, k + ↑i * 4 + 1, k + ↑i * 4 + 1 + 1, k + ↑i * 4 + 1 + 1 + 1⟩] := by simp [markStayL, List.range_succ]
theorem markStayL_at (k : Int) (n : Nat) {i : Nat} (h : i < n) : (markStayL k n)[i]? = some (⟨k + ↑i * 4, k + ↑i * 4 + 1, k + ↑i * 4 + 1 + 1, k + ↑i * 4 + 1 + 1 + 1⟩) := by simp [markStayL, h]
def markDoorL (k : Int) (n : Nat) : List GDoor := (List.range n).map fun (i : Nat) => ⟨k + ↑i * 2, k + ↑i * 2 + 1⟩
theorem markDoorL_len (k : Int) (n : Nat) : (markDoorL k n).length = n := by simp [markDoorL]
theorem markDoorL_snoc (k : Int) (i : Nat) : markDoorL k (i + 1) = markDoorL k i ++ [⟨k + ↑i * 2, k + ↑i * 2 + 1⟩] := by simp [markDoorL, List.range_succ]
theorem markDoorL_at (k : Int) (n : Nat) {i : Nat} (h : i < n) : (markDoorL k n)[i]? = some (⟨k + ↑i * 2, k + ↑i * 2 + 1⟩) := by simp [markDoorL, h]
set_option maxRecDepth 100000 in
set_option maxHeartbeats 1000000 in
theorem laws_markDoorS (A : Option Addr) (n c : Nat) (k : Int) (base : Nat) (L : List Value) (w : World) (ho : w.ownsRow base 56 2 (.slice A n c) n L) (hn : n ≤ 1048576) (hk0 : 0 ≤ k) (hk1 : k ≤ 1099511627776) :
    Calls Try.prog 39 #[.slice A n c, .int .i64 k] w fun e w' => e = .returned (.int .i64 (k + ↑n * 2)) ∧ w'.ownsRow base 56 2 (.slice A n c) n ((markDoorL k n).flatMap GDoor.enc) ∧ w.grownBy w' (Value.slice A n c).ownBlock := by
  rcases own_block ho with ⟨rfl, rfl, rfl⟩ | ⟨g, cur0, rfl, hbg, hb0, hnc, hcm, hcs, ht⟩
  · go_enter Try.func39, Try.ntmps39
    go_wp2_with fail
    refine wp_loop_rounds 1 ?_
    rw [rounds_succ]
    go_wp2
    go_ret
    exact ⟨ret_int (by simp), World.ownsRow_nil _ _ _ _, grown_refl _ _⟩
  · go_enter Try.func39, Try.ntmps39
    go_wp2_with fail
    go_loopw [1, 5] (fun kv iv wr => ∃ (i : Nat) (cur : Array Value), i ≤ n ∧ iv = .int .i64 i ∧ kv = .int .i64 (k + ↑i * 2) ∧ cur.size = c * 2 ∧ Hid (cur.toList.take (i * 2) = (markDoorL k i).flatMap GDoor.enc) ∧ Blk wr g 56 cur ∧ w.grownBy wr (some g)) (fun _ iv _ => n - (intOf iv).toNat)
    case atStart => exact ⟨0, cur0, Nat.zero_le _, rfl, by simp, hcs, by unfold Hid; simp [markDoorL], hb0, grown_refl _ _⟩
    case round =>
      obtain ⟨i, cur, hi, rfl, rfl, hcz, hz, hblk, hg⟩ := hrel
      by_cases hlt : i < n
      · have hcm' := Nat.mul_le_mul_right 2 hnc
        have c0 := hblk.cellAt (i := i * 2) (by omega)
        have f0 := hblk.free (i * 2)
        have c1 := hblk.cellAt (i := i * 2 + 1) (by omega)
        have f1 := hblk.free (i * 2 + 1)
        have HBk := Lib.hid hblk
        have HG := Lib.hid hg
        clear hblk hg
        go_wp2_with fail
        go_roundw
        case rel =>
          refine ⟨i + 1, setRow cur (i * 2) [.int .i64 (k + ↑i * 2), .int .i64 (k + ↑i * 2 + 1)], by omega, by go_num, mark_num (by push_cast; omega), by rw [setRow_size]; exact hcz, ?_, ?_, ?_⟩
          · unfold Hid
            rw [markDoorL_snoc, List.flatMap_append]
            exact setRow_take (m := 2) rfl (by rw [hcz]; omega) hz.out
          · exact Blk.sets [.int .i64 (k + ↑i * 2), .int .i64 (k + ↑i * 2 + 1)] (i * 2) HBk.out
          · exact grown_sets [.int .i64 (k + ↑i * 2), .int .i64 (k + ↑i * 2 + 1)] (i * 2) HG.out
        case measure => simp [intOf]; omega
      · obtain rfl : i = n := by omega
        go_wp2_with fail
        go_ret
        refine ⟨ret_int (by first | rfl | omega), ⟨by rw [flat_len GDoor.enc 2 GDoor.len, markDoorL_len], .inr ⟨g, c, cur, rfl, hbg, hblk, hnc, hcm, hcz, hz.out⟩⟩, hg⟩
set_option maxRecDepth 100000 in
set_option maxHeartbeats 1000000 in
theorem laws_heldDoorS (A : Option Addr) (n c : Nat) (k : Int) (w : World) (hx : Rd w 2 A n ((markDoorL k n).flatMap GDoor.enc)) (hn : n ≤ 1048576) (hk0 : 0 ≤ k) (hk1 : k ≤ 1099511627776) :
    Calls Try.prog 49 #[.slice A n c, .int .i64 k] w fun e w' => e = .returned (.int .i64 (k + ↑n * 2)) ∧ Ext w w' := by
  go_enter Try.func49, Try.ntmps49
  go_wp2_with fail
  go_loopw [1, 5] (fun kv iv wr => ∃ (i : Nat), i ≤ n ∧ iv = .int .i64 i ∧ kv = .int .i64 (k + ↑i * 2) ∧ Ext w wr) (fun _ iv _ => n - (intOf iv).toNat)
  case atStart => exact ⟨0, Nat.zero_le _, rfl, by simp, Ext.refl _⟩
  case round =>
    obtain ⟨i, hi, rfl, rfl, hb⟩ := hrel
    by_cases hlt : i < n
    · obtain ⟨b, off, x, rfl, hbs, hxk, h0, h1⟩ := GDoor.at_ (hx.keep hb) hlt
      rw [markDoorL_at k n hlt] at hxk
      injection hxk with hxk
      subst hxk
      have HB := Lib.hid hb
      clear hb
      go_wp2_with fail
      go_roundw
      case rel => exact ⟨i + 1, by omega, by go_num, mark_num (by push_cast; omega), HB.out⟩
      case measure => simp [intOf]; omega
    · obtain rfl : i = n := by omega
      go_wp2_with fail
      go_ret
      exact ⟨ret_int (by first | rfl | omega), hb⟩
def markMoveL (k : Int) (n : Nat) : List GMove := (List.range n).map fun (i : Nat) => ⟨k + ↑i * 4, k + ↑i * 4 + 1, k + ↑i * 4 + 1 + 1, k + ↑i * 4 + 1 + 1 + 1⟩
theorem markMoveL_len (k : Int) (n : Nat) : (markMoveL k n).length = n := by simp [markMoveL]
theorem markMoveL_snoc (k : Int) (i : Nat) : markMoveL k (i + 1) = markMoveL k i ++ [⟨k + ↑i * 4, k + ↑i * 4 + 1, k + ↑i * 4 + 1 + 1, k + ↑i * 4 + 1 + 1 + 1⟩] := by simp [markMoveL, List.range_succ]
theorem markMoveL_at (k : Int) (n : Nat) {i : Nat} (h : i < n) : (markMoveL k n)[i]? = some (⟨k + ↑i * 4, k + ↑i * 4 + 1, k + ↑i * 4 + 1 + 1, k + ↑i * 4 + 1 + 1 + 1⟩) := by simp [markMoveL, h]
def markActL (k : Int) (n : Nat) : List GAct := (List.range n).map fun (i : Nat) => ⟨k + ↑i * 5, k + ↑i * 5 + 1, k + ↑i * 5 + 1 + 1, k + ↑i * 5 + 1 + 1 + 1, k + ↑i * 5 + 1 + 1 + 1 + 1⟩
theorem markActL_len (k : Int) (n : Nat) : (markActL k n).length = n := by simp [markActL]
theorem markActL_snoc (k : Int) (i : Nat) : markActL k (i + 1) = markActL k i ++ [⟨k + ↑i * 5, k + ↑i * 5 + 1, k + ↑i * 5 + 1 + 1, k + ↑i * 5 + 1 + 1 + 1, k + ↑i * 5 + 1 + 1 + 1 + 1⟩] := by simp [markActL, List.range_succ]
theorem markActL_at (k : Int) (n : Nat) {i : Nat} (h : i < n) : (markActL k n)[i]? = some (⟨k + ↑i * 5, k + ↑i * 5 + 1, k + ↑i * 5 + 1 + 1, k + ↑i * 5 + 1 + 1 + 1, k + ↑i * 5 + 1 + 1 + 1 + 1⟩) := by simp [markActL, h]
end Go.Proofs.Ytkelmeemblmggaa
