/- Contract of Reverse of slices; no condition but what stands at each theorem. -/
import Derived.Test.YtkelmeemblmggaaSHb
import Derived.RegionTactic
namespace Go.Proofs.Ytkelmeemblmggaa
set_option linter.unusedSimpArgs false
set_option linter.unusedVariables false
open Go.RowKit Go.Sort
theorem grown_drw {a w : World} {row : Option Nat} (h : a.grownBy w row) : a.grownBy w.drew row := ⟨h.os, h.tape, h.output, h.size, h.block⟩
set_option maxRecDepth 100000 in
set_option maxHeartbeats 2000000 in
theorem slices_Reverse (g n c : Nat) (u : List Int) (w : World) (hb : PBlk w g 3 u) (hul : u.length = n) (hn : n ≤ 1073741824) :
    Calls Try.prog 81 #[.slice (some ⟨g, 0, none⟩) n c] w fun e w' => e = .returned (.tuple #[]) ∧ w.grownBy w' (some g) := by
  have HU := Lib.hid hul
  clear hul
  go_enter Try.func81, Try.ntmps81
  go_wp2_with fail
  go_loopw [2, 3] (fun s2 s3 wr => ∃ (i : Nat) (j : Int) (u : List Int), s2 = .int .i64 i ∧ s3 = .int .i64 j ∧ Hid ((i : Int) + j = (n : Int) - 1) ∧ PBlk wr g 3 u ∧ Hid (u.length = n) ∧ w.grownBy wr (some g)) (fun s2 s3 _ => (intOf s3 + 1 - intOf s2).toNat)
  case atStart => exact ⟨0, (n : Int) - 1, u, rfl, rfl, by unfold Hid; omega, hb, HU.out, grown_refl _ _⟩
  case round =>
    obtain ⟨i, j, u, rfl, rfl, hij, hbk, hul, hg⟩ := hrel
    have hij2 := hij.out
    by_cases hlt : (i : Int) < j
    · obtain ⟨q, rfl⟩ := Int.eq_ofNat_of_zero_le (show 0 ≤ j by omega)
      have hq : q < n := by omega
      have hi : i < n := by omega
      have hiq : i < q := by omega
      have hne : i ≠ q := by omega
      have hne' : q ≠ i := by omega
      have ci := hbk.cell (i := i) (by rw [hul.out]; exact hi)
      have cq := hbk.cell (i := q) (by rw [hul.out]; exact hq)
      have fi := hbk.free i
      have fq := hbk.free q
      obtain ⟨x, hx⟩ : ∃ x, x = u.getD i 0 := ⟨_, rfl⟩
      obtain ⟨y, hy⟩ : ∃ y, y = u.getD q 0 := ⟨_, rfl⟩
      rw [← hx] at ci
      rw [← hy] at cq
      have HG := Lib.hid hg
      have HBK := Lib.hid hbk
      have H1 : Hid (PBlk ((wr.setCell ⟨g, i, none⟩ (.int .i64 y)).setCell ⟨g, q, none⟩ (.int .i64 x)) g 3 ((u.set i y).set q x)) := (hbk.set i y).set q x
      have HG1 : Hid (w.grownBy ((wr.setCell ⟨g, i, none⟩ (.int .i64 y)).setCell ⟨g, q, none⟩ (.int .i64 x)) (some g)) := grown_set (grown_set hg _ _) _ _
      clear hx hy hg hbk hb hij2
      go_wp2_with fail
      go_region
      go_wp2_with fail
      go_roundw
      case rel => exact ⟨i + 1, (q : Int) - 1, (u.set i y).set q x, by go_num, rfl, by unfold Hid; have := hij.out; push_cast; omega, H1.out, by unfold Hid; rw [List.length_set, List.length_set]; exact hul.out, grown_drw HG1.out⟩
      case measure => simp [intOf]; omega
    · go_wp2_with fail
      go_end0
      exact ⟨rfl, hg⟩
end Go.Proofs.Ytkelmeemblmggaa
