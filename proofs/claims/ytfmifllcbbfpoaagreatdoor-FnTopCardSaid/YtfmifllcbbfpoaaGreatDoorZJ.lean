/- Texts of one proof, laid one behind the other (SN8, SHp, SP5, SP6); no condition but what stands at each theorem. -/
import Derived.Test.YtfmifllcbbfpoaaGreatDoorZE
import Derived.Test.YtfmifllcbbfpoaaGreatDoorZL
import Derived.Test.YtfmifllcbbfpoaaGreatDoorZM
/- Contracts of SampleMuseum; no condition but what stands at each theorem. -/
namespace Go.Proofs.YtfmifllcbbfpoaaGreatDoor
set_option linter.unusedSimpArgs false
set_option linter.unusedVariables false
open Go.RowKit Go.Sort
def sampleM : GMuseum := newM 4 [⟨0, 1⟩, ⟨0, 2⟩, ⟨1, 3⟩, ⟨2, 3⟩] [0, 0] [0, 0, 3]
theorem rd_blk {w : World} {g : Nat} {t : TypeId} {m n : Nat} {cur : Array Value} {L : List Value} (h : Blk w g t cur) (hs : cur.size = n * m) (hn : n ≤ maxLen) (hL : cur.toList.take (n * m) = L) : Rd w m (some ⟨g, 0, none⟩) n L :=
  Rd.of_own (own_of_blk (Nat.zero_le _) h hs hn hL)
set_option maxRecDepth 100000 in
set_option maxHeartbeats 4000000 in
theorem impl_SampleMuseum (w : World) : Calls Tryz.prog 27 #[] w (CopyPost sampleM w) := by
  obtain ⟨w1, hw1⟩ : ∃ w1, w1 = w.alloc (.cells #[.int .i64 0, .slice none 0 0, .slice none 0 0, .slice none 0 0, .slice none 0 0, .int .i64 0, .slice none 0 0] 30) := ⟨_, rfl⟩
  obtain ⟨w2, hw2⟩ : ∃ w2, w2 = w1.alloc (.cells #[.int .i64 0, .int .i64 1, .int .i64 0, .int .i64 2, .int .i64 1, .int .i64 3, .int .i64 2, .int .i64 3] 92) := ⟨_, rfl⟩
  obtain ⟨w3, hw3⟩ : ∃ w3, w3 = w2.alloc (.cells #[.int .i64 4, .slice (some ⟨w.heap.size + 1, 0, none⟩) 4 4] 26) := ⟨_, rfl⟩
  obtain ⟨w4, hw4⟩ : ∃ w4, w4 = w3.alloc (.cells #[.int .i64 0, .int .i64 0] 3) := ⟨_, rfl⟩
  obtain ⟨w5, hw5⟩ : ∃ w5, w5 = w4.alloc (.cells #[.int .i64 0, .int .i64 0, .int .i64 3] 3) := ⟨_, rfl⟩
  have s1 : w1.heap.size = w.heap.size + 1 := by rw [hw1]; simp
  have s2 : w2.heap.size = w.heap.size + 1 + 1 := by rw [hw2]; simp [s1]
  have s3 : w3.heap.size = w.heap.size + 1 + 1 + 1 := by rw [hw3]; simp [s2]
  have s4 : w4.heap.size = w.heap.size + 1 + 1 + 1 + 1 := by rw [hw4]; simp [s3]
  have s5 : w5.heap.size = w.heap.size + 1 + 1 + 1 + 1 + 1 := by rw [hw5]; simp [s4]
  have e1 : Ext w w1 := by rw [hw1]; exact (Ext.refl _).alloc _
  have e2 : Ext w1 w2 := by rw [hw2]; exact (Ext.refl _).alloc _
  have e3 : Ext w2 w3 := by rw [hw3]; exact (Ext.refl _).alloc _
  have e4 : Ext w3 w4 := by rw [hw4]; exact (Ext.refl _).alloc _
  have e5 : Ext w4 w5 := by rw [hw5]; exact (Ext.refl _).alloc _
  have bz : Blk w5 w.heap.size 30 #[.int .i64 0, .slice none 0 0, .slice none 0 0, .slice none 0 0, .slice none 0 0, .int .i64 0, .slice none 0 0] := by
    have h : Blk w1 w.heap.size 30 #[.int .i64 0, .slice none 0 0, .slice none 0 0, .slice none 0 0, .slice none 0 0, .int .i64 0, .slice none 0 0] := by rw [hw1]; exact Blk.new _ _ _
    exact h.keep (e2.trans (e3.trans (e4.trans e5)))
  have bd : Blk w5 (w.heap.size + 1) 92 #[.int .i64 0, .int .i64 1, .int .i64 0, .int .i64 2, .int .i64 1, .int .i64 3, .int .i64 2, .int .i64 3] := by
    have h : Blk w2 w1.heap.size 92 #[.int .i64 0, .int .i64 1, .int .i64 0, .int .i64 2, .int .i64 1, .int .i64 3, .int .i64 2, .int .i64 3] := by rw [hw2]; exact Blk.new _ _ _
    rw [s1] at h
    exact h.keep (e3.trans (e4.trans e5))
  have bf : Blk w5 (w.heap.size + 1 + 1 + 1) 3 #[.int .i64 0, .int .i64 0] := by
    have h : Blk w4 w3.heap.size 3 #[.int .i64 0, .int .i64 0] := by rw [hw4]; exact Blk.new _ _ _
    rw [s3] at h
    exact h.keep e5
  have bg : Blk w5 (w.heap.size + 1 + 1 + 1 + 1) 3 #[.int .i64 0, .int .i64 0, .int .i64 3] := by
    have h : Blk w5 w4.heap.size 3 #[.int .i64 0, .int .i64 0, .int .i64 3] := by rw [hw5]; exact Blk.new _ _ _
    rw [s4] at h
    exact h
  have cN := Lib.hid (impl_NewMuseum 4 (some ⟨w.heap.size + 1, 0, none⟩) 4 4 [⟨0, 1⟩, ⟨0, 2⟩, ⟨1, 3⟩, ⟨2, 3⟩] (some ⟨w.heap.size + 1 + 1 + 1, 0, none⟩) 2 2 [0, 0] (some ⟨w.heap.size + 1 + 1 + 1 + 1, 0, none⟩) 3 3 [0, 0, 3] w5
    (rd_blk bd rfl (by unfold maxLen; omega) rfl) (rd_blk bf rfl (by unfold maxLen; omega) rfl) (rd_blk bg rfl (by unfold maxLen; omega) rfl) (fun h => by cases h) (fun h => by cases h) (fun h => by cases h) (by omega) (by omega) (by omega))
  have HW5 : Hid (w5 = ((((w.alloc (.cells #[.int .i64 0, .slice none 0 0, .slice none 0 0, .slice none 0 0, .slice none 0 0, .int .i64 0, .slice none 0 0] 30)).alloc (.cells #[.int .i64 0, .int .i64 1, .int .i64 0, .int .i64 2, .int .i64 1, .int .i64 3, .int .i64 2, .int .i64 3] 92)).alloc (.cells #[.int .i64 4, .slice (some ⟨w.heap.size + 1, 0, none⟩) 4 4] 26)).alloc (.cells #[.int .i64 0, .int .i64 0] 3)).alloc (.cells #[.int .i64 0, .int .i64 0, .int .i64 3] 3)) := Lib.hid (by rw [hw5, hw4, hw3, hw2, hw1])
  have HE := Lib.hid (e1.trans (e2.trans (e3.trans (e4.trans e5))))
  have HBz := Lib.hid bz
  have hzl : w.heap.size < w5.heap.size := by omega
  clear hw1 hw2 hw3 hw4 hw5 s1 s2 s3 s4 s5 e1 e2 e3 e4 e5 bz bd bf bg
  go_enter Tryz.func27, Tryz.ntmps27
  go_wp2_with (go_at_call 23; refine (fun h : Hid _ => h.out) ?_)
  unfold Hid
  rw [← HW5.out]
  refine cN.out.mono ?_
  rintro e w6 ⟨v1, hev, he6, ho6⟩
  obtain ⟨H1, ⟨A01, n01, c01⟩, ⟨A11, n11, c11⟩, ⟨A21, n21, c21⟩, ⟨A31, n31, c31⟩, day1, ⟨A41, n41, c41⟩⟩ := v1
  simp only [MV.val, MV.cells] at hev
  subst hev
  have Bz := Blk.keep HBz.out he6
  have x0 := Bz.cellAt (i := 0) (by simp)
  have x1 := Bz.cellAt (i := 1) (by simp)
  have x2 := Bz.cellAt (i := 2) (by simp)
  have x3 := Bz.cellAt (i := 3) (by simp)
  have x4 := Bz.cellAt (i := 4) (by simp)
  have x5 := Bz.cellAt (i := 5) (by simp)
  have x6 := Bz.cellAt (i := 6) (by simp)
  have fz := Bz.free
  simp at x0 x1 x2 x3 x4 x5 x6
  have lz : w.heap.size < w6.heap.size := by have := he6.size; omega
  have HO6 := Lib.hid ho6
  have HE6 := Lib.hid (HE.out.trans he6)
  clear ho6 he6 cN
  go_wp2_with fail
  obtain ⟨b6, k6⟩ := store7 Bz (.int .i64 H1) (.slice A01 n01 c01) (.slice A11 n11 c11) (.slice A21 n21 c21) (.slice A31 n31 c31) (.int .i64 day1) (.slice A41 n41 c41)
  have hO5 := HO6.out.out k6 (by omega)
  have hE5 := k6.ext HE6.out (Nat.le_refl _)
  have hk7 : Ext ((((((((w6.setCell ⟨w.heap.size, 0, none⟩ (.int .i64 H1)).setCell ⟨w.heap.size, 1, none⟩ (.slice A01 n01 c01)).setCell ⟨w.heap.size, 2, none⟩ (.slice A11 n11 c11)).setCell ⟨w.heap.size, 3, none⟩ (.slice A21 n21 c21)).setCell ⟨w.heap.size, 4, none⟩ (.slice A31 n31 c31)).setCell ⟨w.heap.size, 5, none⟩ (.int .i64 day1)).setCell ⟨w.heap.size, 6, none⟩ (.slice A41 n41 c41))) (((((((((w6.setCell ⟨w.heap.size, 0, none⟩ (.int .i64 H1)).setCell ⟨w.heap.size, 1, none⟩ (.slice A01 n01 c01)).setCell ⟨w.heap.size, 2, none⟩ (.slice A11 n11 c11)).setCell ⟨w.heap.size, 3, none⟩ (.slice A21 n21 c21)).setCell ⟨w.heap.size, 4, none⟩ (.slice A31 n31 c31)).setCell ⟨w.heap.size, 5, none⟩ (.int .i64 day1)).setCell ⟨w.heap.size, 6, none⟩ (.slice A41 n41 c41))).alloc (.cells #[.int .i64 H1, .slice A01 n01 c01, .slice A11 n11 c11, .slice A21 n21 c21, .slice A31 n31 c31, .int .i64 day1, .slice A41 n41 c41] 30)) := (Ext.refl _).alloc _
  have b6' := b6.keep hk7
  have hO6 := hO5.keep hk7
  have hE6 := hE5.trans hk7
  clear b6 k6 hO5 hE5 hk7
  generalize ((((((((w6.setCell ⟨w.heap.size, 0, none⟩ (.int .i64 H1)).setCell ⟨w.heap.size, 1, none⟩ (.slice A01 n01 c01)).setCell ⟨w.heap.size, 2, none⟩ (.slice A11 n11 c11)).setCell ⟨w.heap.size, 3, none⟩ (.slice A21 n21 c21)).setCell ⟨w.heap.size, 4, none⟩ (.slice A31 n31 c31)).setCell ⟨w.heap.size, 5, none⟩ (.int .i64 day1)).setCell ⟨w.heap.size, 6, none⟩ (.slice A41 n41 c41))).alloc (.cells #[.int .i64 H1, .slice A01 n01 c01, .slice A11 n11 c11, .slice A21 n21 c21, .slice A31 n31 c31, .int .i64 day1, .slice A41 n41 c41] 30) = w9 at b6' hO6 hE6 ⊢
  have t0 := b6'.cellAt (i := 0) (by simp)
  have t1 := b6'.cellAt (i := 1) (by simp)
  have t2 := b6'.cellAt (i := 2) (by simp)
  have t3 := b6'.cellAt (i := 3) (by simp)
  have t4 := b6'.cellAt (i := 4) (by simp)
  have t5 := b6'.cellAt (i := 5) (by simp)
  have t6 := b6'.cellAt (i := 6) (by simp)
  simp at t0 t1 t2 t3 t4 t5 t6
  refine bodyPost_ret (v := MV.val ⟨H1, ⟨A01, n01, c01⟩, ⟨A11, n11, c11⟩, ⟨A21, n21, c21⟩, ⟨A31, n31, c31⟩, day1, ⟨A41, n41, c41⟩⟩) (by simp [results, Tryz.results27, go_sem, t0, t1, t2, t3, t4, t5, t6, MV.val, MV.cells]) rfl ?_
  exact ⟨_, rfl, hE6, hO6.weak (by omega)⟩
set_option maxRecDepth 100000 in
set_option maxHeartbeats 4000000 in
theorem spec_SampleMuseum (w : World) : Calls Tryz.prog 81 #[] w (CopyPost sampleM w) := by
  obtain ⟨w1, hw1⟩ : ∃ w1, w1 = w.alloc (.cells #[.int .i64 0, .slice none 0 0, .slice none 0 0, .slice none 0 0, .slice none 0 0, .int .i64 0, .slice none 0 0] 30) := ⟨_, rfl⟩
  obtain ⟨w2, hw2⟩ : ∃ w2, w2 = w1.alloc (.cells #[.int .i64 0, .int .i64 1, .int .i64 0, .int .i64 2, .int .i64 1, .int .i64 3, .int .i64 2, .int .i64 3] 92) := ⟨_, rfl⟩
  obtain ⟨w3, hw3⟩ : ∃ w3, w3 = w2.alloc (.cells #[.int .i64 4, .slice (some ⟨w.heap.size + 1, 0, none⟩) 4 4] 26) := ⟨_, rfl⟩
  obtain ⟨w4, hw4⟩ : ∃ w4, w4 = w3.alloc (.cells #[.int .i64 0, .int .i64 0] 3) := ⟨_, rfl⟩
  obtain ⟨w5, hw5⟩ : ∃ w5, w5 = w4.alloc (.cells #[.int .i64 0, .int .i64 0, .int .i64 3] 3) := ⟨_, rfl⟩
  have s1 : w1.heap.size = w.heap.size + 1 := by rw [hw1]; simp
  have s2 : w2.heap.size = w.heap.size + 1 + 1 := by rw [hw2]; simp [s1]
  have s3 : w3.heap.size = w.heap.size + 1 + 1 + 1 := by rw [hw3]; simp [s2]
  have s4 : w4.heap.size = w.heap.size + 1 + 1 + 1 + 1 := by rw [hw4]; simp [s3]
  have s5 : w5.heap.size = w.heap.size + 1 + 1 + 1 + 1 + 1 := by rw [hw5]; simp [s4]
  have e1 : Ext w w1 := by rw [hw1]; exact (Ext.refl _).alloc _
  have e2 : Ext w1 w2 := by rw [hw2]; exact (Ext.refl _).alloc _
  have e3 : Ext w2 w3 := by rw [hw3]; exact (Ext.refl _).alloc _
  have e4 : Ext w3 w4 := by rw [hw4]; exact (Ext.refl _).alloc _
  have e5 : Ext w4 w5 := by rw [hw5]; exact (Ext.refl _).alloc _
  have bz : Blk w5 w.heap.size 30 #[.int .i64 0, .slice none 0 0, .slice none 0 0, .slice none 0 0, .slice none 0 0, .int .i64 0, .slice none 0 0] := by
    have h : Blk w1 w.heap.size 30 #[.int .i64 0, .slice none 0 0, .slice none 0 0, .slice none 0 0, .slice none 0 0, .int .i64 0, .slice none 0 0] := by rw [hw1]; exact Blk.new _ _ _
    exact h.keep (e2.trans (e3.trans (e4.trans e5)))
  have bd : Blk w5 (w.heap.size + 1) 92 #[.int .i64 0, .int .i64 1, .int .i64 0, .int .i64 2, .int .i64 1, .int .i64 3, .int .i64 2, .int .i64 3] := by
    have h : Blk w2 w1.heap.size 92 #[.int .i64 0, .int .i64 1, .int .i64 0, .int .i64 2, .int .i64 1, .int .i64 3, .int .i64 2, .int .i64 3] := by rw [hw2]; exact Blk.new _ _ _
    rw [s1] at h
    exact h.keep (e3.trans (e4.trans e5))
  have bf : Blk w5 (w.heap.size + 1 + 1 + 1) 3 #[.int .i64 0, .int .i64 0] := by
    have h : Blk w4 w3.heap.size 3 #[.int .i64 0, .int .i64 0] := by rw [hw4]; exact Blk.new _ _ _
    rw [s3] at h
    exact h.keep e5
  have bg : Blk w5 (w.heap.size + 1 + 1 + 1 + 1) 3 #[.int .i64 0, .int .i64 0, .int .i64 3] := by
    have h : Blk w5 w4.heap.size 3 #[.int .i64 0, .int .i64 0, .int .i64 3] := by rw [hw5]; exact Blk.new _ _ _
    rw [s4] at h
    exact h
  have cN := Lib.hid (spec_NewMuseum 4 (some ⟨w.heap.size + 1, 0, none⟩) 4 4 [⟨0, 1⟩, ⟨0, 2⟩, ⟨1, 3⟩, ⟨2, 3⟩] (some ⟨w.heap.size + 1 + 1 + 1, 0, none⟩) 2 2 [0, 0] (some ⟨w.heap.size + 1 + 1 + 1 + 1, 0, none⟩) 3 3 [0, 0, 3] w5
    (rd_blk bd rfl (by unfold maxLen; omega) rfl) (rd_blk bf rfl (by unfold maxLen; omega) rfl) (rd_blk bg rfl (by unfold maxLen; omega) rfl) (fun h => by cases h) (fun h => by cases h) (fun h => by cases h) (by omega) (by omega) (by omega))
  have HW5 : Hid (w5 = ((((w.alloc (.cells #[.int .i64 0, .slice none 0 0, .slice none 0 0, .slice none 0 0, .slice none 0 0, .int .i64 0, .slice none 0 0] 30)).alloc (.cells #[.int .i64 0, .int .i64 1, .int .i64 0, .int .i64 2, .int .i64 1, .int .i64 3, .int .i64 2, .int .i64 3] 92)).alloc (.cells #[.int .i64 4, .slice (some ⟨w.heap.size + 1, 0, none⟩) 4 4] 26)).alloc (.cells #[.int .i64 0, .int .i64 0] 3)).alloc (.cells #[.int .i64 0, .int .i64 0, .int .i64 3] 3)) := Lib.hid (by rw [hw5, hw4, hw3, hw2, hw1])
  have HE := Lib.hid (e1.trans (e2.trans (e3.trans (e4.trans e5))))
  have HBz := Lib.hid bz
  have hzl : w.heap.size < w5.heap.size := by omega
  clear hw1 hw2 hw3 hw4 hw5 s1 s2 s3 s4 s5 e1 e2 e3 e4 e5 bz bd bf bg
  go_enter Tryz.func81, Tryz.ntmps81
  go_wp2_with (go_at_call 102; refine (fun h : Hid _ => h.out) ?_)
  unfold Hid
  rw [← HW5.out]
  refine cN.out.mono ?_
  rintro e w6 ⟨v1, hev, he6, ho6⟩
  obtain ⟨H1, ⟨A01, n01, c01⟩, ⟨A11, n11, c11⟩, ⟨A21, n21, c21⟩, ⟨A31, n31, c31⟩, day1, ⟨A41, n41, c41⟩⟩ := v1
  simp only [MV.val, MV.cells] at hev
  subst hev
  have Bz := Blk.keep HBz.out he6
  have x0 := Bz.cellAt (i := 0) (by simp)
  have x1 := Bz.cellAt (i := 1) (by simp)
  have x2 := Bz.cellAt (i := 2) (by simp)
  have x3 := Bz.cellAt (i := 3) (by simp)
  have x4 := Bz.cellAt (i := 4) (by simp)
  have x5 := Bz.cellAt (i := 5) (by simp)
  have x6 := Bz.cellAt (i := 6) (by simp)
  have fz := Bz.free
  simp at x0 x1 x2 x3 x4 x5 x6
  have lz : w.heap.size < w6.heap.size := by have := he6.size; omega
  have HO6 := Lib.hid ho6
  have HE6 := Lib.hid (HE.out.trans he6)
  clear ho6 he6 cN
  go_wp2_with fail
  obtain ⟨b6, k6⟩ := store7 Bz (.int .i64 H1) (.slice A01 n01 c01) (.slice A11 n11 c11) (.slice A21 n21 c21) (.slice A31 n31 c31) (.int .i64 day1) (.slice A41 n41 c41)
  have hO5 := HO6.out.out k6 (by omega)
  have hE5 := k6.ext HE6.out (Nat.le_refl _)
  have hk7 : Ext ((((((((w6.setCell ⟨w.heap.size, 0, none⟩ (.int .i64 H1)).setCell ⟨w.heap.size, 1, none⟩ (.slice A01 n01 c01)).setCell ⟨w.heap.size, 2, none⟩ (.slice A11 n11 c11)).setCell ⟨w.heap.size, 3, none⟩ (.slice A21 n21 c21)).setCell ⟨w.heap.size, 4, none⟩ (.slice A31 n31 c31)).setCell ⟨w.heap.size, 5, none⟩ (.int .i64 day1)).setCell ⟨w.heap.size, 6, none⟩ (.slice A41 n41 c41))) (((((((((w6.setCell ⟨w.heap.size, 0, none⟩ (.int .i64 H1)).setCell ⟨w.heap.size, 1, none⟩ (.slice A01 n01 c01)).setCell ⟨w.heap.size, 2, none⟩ (.slice A11 n11 c11)).setCell ⟨w.heap.size, 3, none⟩ (.slice A21 n21 c21)).setCell ⟨w.heap.size, 4, none⟩ (.slice A31 n31 c31)).setCell ⟨w.heap.size, 5, none⟩ (.int .i64 day1)).setCell ⟨w.heap.size, 6, none⟩ (.slice A41 n41 c41))).alloc (.cells #[.int .i64 H1, .slice A01 n01 c01, .slice A11 n11 c11, .slice A21 n21 c21, .slice A31 n31 c31, .int .i64 day1, .slice A41 n41 c41] 30)) := (Ext.refl _).alloc _
  have b6' := b6.keep hk7
  have hO6 := hO5.keep hk7
  have hE6 := hE5.trans hk7
  clear b6 k6 hO5 hE5 hk7
  generalize ((((((((w6.setCell ⟨w.heap.size, 0, none⟩ (.int .i64 H1)).setCell ⟨w.heap.size, 1, none⟩ (.slice A01 n01 c01)).setCell ⟨w.heap.size, 2, none⟩ (.slice A11 n11 c11)).setCell ⟨w.heap.size, 3, none⟩ (.slice A21 n21 c21)).setCell ⟨w.heap.size, 4, none⟩ (.slice A31 n31 c31)).setCell ⟨w.heap.size, 5, none⟩ (.int .i64 day1)).setCell ⟨w.heap.size, 6, none⟩ (.slice A41 n41 c41))).alloc (.cells #[.int .i64 H1, .slice A01 n01 c01, .slice A11 n11 c11, .slice A21 n21 c21, .slice A31 n31 c31, .int .i64 day1, .slice A41 n41 c41] 30) = w9 at b6' hO6 hE6 ⊢
  have t0 := b6'.cellAt (i := 0) (by simp)
  have t1 := b6'.cellAt (i := 1) (by simp)
  have t2 := b6'.cellAt (i := 2) (by simp)
  have t3 := b6'.cellAt (i := 3) (by simp)
  have t4 := b6'.cellAt (i := 4) (by simp)
  have t5 := b6'.cellAt (i := 5) (by simp)
  have t6 := b6'.cellAt (i := 6) (by simp)
  simp at t0 t1 t2 t3 t4 t5 t6
  refine bodyPost_ret (v := MV.val ⟨H1, ⟨A01, n01, c01⟩, ⟨A11, n11, c11⟩, ⟨A21, n21, c21⟩, ⟨A31, n31, c31⟩, day1, ⟨A41, n41, c41⟩⟩) (by simp [results, Tryz.results81, go_sem, t0, t1, t2, t3, t4, t5, t6, MV.val, MV.cells]) rfl ?_
  exact ⟨_, rfl, hE6, hO6.weak (by omega)⟩
end Go.Proofs.YtfmifllcbbfpoaaGreatDoor
/- Contract of the reference's ReplayMoves; no condition but what stands at each theorem. -/
namespace Go.Proofs.YtfmifllcbbfpoaaGreatDoor
set_option linter.unusedSimpArgs false
set_option linter.unusedVariables false
open Go.RowKit Go.Sort
set_option maxRecDepth 100000 in
set_option maxHeartbeats 8000000 in
theorem spec_ReplayMoves (H : Int) (A : Option Addr) (n c : Nat) (ds : List GDoor) (A1 : Option Addr) (n1 c1 : Nat) (ps : List Int) (A2 : Option Addr) (n2 c2 : Nat) (ms : List GMove) (w : World) (hx : Rd w 2 A n (ds.flatMap GDoor.enc)) (hx1 : Rd w 1 A1 n1 (ps.flatMap ienc)) (hx2 : Rd w 4 A2 n2 (ms.flatMap GMove.enc)) (hnc : Hid (A1 = none → c1 = 0)) (hn1 : n1 ≤ 1048576) :
    Calls Tryz.prog 95 #[.agg #[.int .i64 H, .slice A n c], .slice A1 n1 c1, .slice A2 n2 c2] w (ListBool (replayL H ds ps ms).1 (replayL H ds ps ms).2 w) := by
  have hn2 := hx2.2.1
  have hl1 := Lib.hid (hx1.len ienc_len (by omega))
  have hl2 := Lib.hid (hx2.len GMove.len (by omega))
  obtain ⟨wb, hwb⟩ : ∃ wb, wb = w.alloc (.cells #[.int .i64 H, .slice A n c] 26) := ⟨_, rfl⟩
  obtain ⟨hE, hsb, a0, a1⟩ := box2 w _ _ _ wb hwb
  have HE := Lib.hid hE
  have Hwb := Lib.hid hwb
  have Ha0 := Lib.hid a0
  have Ha1 := Lib.hid a1
  have hxb := Lib.hid (hx.keep hE)
  have hxb1 := Lib.hid (hx1.keep hE)
  have hxb2 := Lib.hid (hx2.keep hE)
  have hbl : w.heap.size < wb.heap.size := by omega
  clear hE hwb a0 a1 hx hx1 hx2
  go_enter Tryz.func95, Tryz.ntmps95
  go_wp2_with fail
  rw [← Hwb.out]
  refine (spec_l35Copy A1 n1 c1 ps wb hxb1.out hnc hn1).mono ?_
  rintro e w1 ⟨g, c', rfl, he, ho⟩
  have HO1 := Lib.hid ho
  have HE1 := Lib.hid he
  clear ho he
  have cP := Lib.hid (spec_PlacesOk H A n c ds A1 n1 c1 ps w1 (hxb.out.keep HE1.out) (hxb1.out.keep HE1.out))
  have a0 := (HE1.out.cellAt w.heap.size hbl 0).trans Ha0.out
  have a1 := (HE1.out.cellAt w.heap.size hbl 1).trans Ha1.out
  cases hok : (placesB H ds ps && decide (n2 ≤ 30))
  case false =>
    have HL : Hid (replayL H ds ps ms = (ps, false)) := by unfold Hid replayL; rw [hl2.out, hok]; rfl
    cases hP : placesB H ds ps
    case false =>
      rw [hP] at cP
      clear hok hP
      go_wp2_with fail
      refine cP.out.mono ?_
      rintro e w2 ⟨rfl, he2⟩
      have HE2 := Lib.hid (Ext.trans HE1.out he2)
      have HO2 := Lib.hid (own_keep HO1.out he2)
      clear he2 a0 a1
      go_wp2_with fail
      go_ret2
      exact ⟨.slice (some ⟨g, 0, none⟩) n1 c', (by rw [HL.out]; rfl), HE.out.trans HE2.out, by rw [HL.out, hl1.out]; exact own_weak HO2.out (by omega)⟩
    case true =>
      have h30 : ¬ n2 ≤ 30 := by rw [hP] at hok; simpa using hok
      rw [hP] at cP
      clear hok hP
      go_wp2_with fail
      refine cP.out.mono ?_
      rintro e w2 ⟨rfl, he2⟩
      have HE2 := Lib.hid (Ext.trans HE1.out he2)
      have HO2 := Lib.hid (own_keep HO1.out he2)
      clear he2 a0 a1
      go_wp2_with fail
      go_ret2
      exact ⟨.slice (some ⟨g, 0, none⟩) n1 c', (by rw [HL.out]; rfl), HE.out.trans HE2.out, by rw [HL.out, hl1.out]; exact own_weak HO2.out (by omega)⟩
  case true =>
    obtain ⟨hP, h30⟩ : placesB H ds ps = true ∧ n2 ≤ 30 := by simpa using hok
    have HL : Hid (replayL H ds ps ms = replayF H ds ps ps ms) := by unfold Hid replayL; rw [hl2.out, hok]; rfl
    have hHB : Hid (houseB H ds = true) := by
      unfold Hid
      simp only [placesB, Bool.and_eq_true] at hP
      exact hallsB_house hP.2
    rw [hP] at cP
    clear hok hP
    go_wp2_with fail
    refine cP.out.mono ?_
    rintro e w2 ⟨rfl, he2⟩
    have HE2 := Lib.hid (Ext.trans HE1.out he2)
    have HO2 := Lib.hid (own_keep HO1.out he2)
    clear he2 a0 a1
    go_wp2_with fail
    go_loopw [9] (fun i wr => ∃ (k : Nat) (u : List Int), k ≤ n2 ∧ i = .int .i64 k ∧ wr.ownsRow wb.heap.size 3 1 (.slice (some ⟨g, 0, none⟩) n1 c') n1 (u.flatMap ienc) ∧ Hid (u.length = n1) ∧ Hid (replayF H ds ps ps ms = replayF H ds ps u (ms.drop k)) ∧ Ext wb wr) (fun i _ => n2 - (intOf i).toNat)
    case atStart => exact ⟨0, ps, Nat.zero_le _, rfl, HO2.out, hl1, rfl, HE2.out⟩
    case round =>
      obtain ⟨k, u, hk, rfl, hown, hul, hz, hb⟩ := hrel
      have HO := Lib.hid hown
      have HB := Lib.hid hb
      have a0 := (hb.cellAt w.heap.size hbl 0).trans Ha0.out
      have a1 := (hb.cellAt w.heap.size hbl 1).trans Ha1.out
      have hbr := hb.size
      have m0 : wr.heap.size ≠ w.heap.size := by omega
      have l0 : w.heap.size < wr.heap.size := by omega
      by_cases hlt : k < n2
      · obtain ⟨b, off, m, rfl, hbs, hmk, p0, p1, p2, p3⟩ := GMove.at_ (hxb2.out.keep hb) hlt
        have HD := Lib.hid (drop_cons hmk)
        clear hmk hb hown
        go_wp2_with fail
        obtain ⟨wd, hwd⟩ : ∃ wd, wd = wr.alloc (.cells #[.int .i64 m.o, .int .i64 m.t, .int .i64 m.f, .int .i64 m.s] 46) := ⟨_, rfl⟩
        rw [← hwd]
        obtain ⟨hEd, hsd, b0, b1, b2, b3⟩ := box4 wr _ _ _ _ _ wd hwd
        have HBd := Lib.hid (HB.out.trans hEd)
        have HOd := Lib.hid (own_keep HO.out hEd)
        have Ha0 := Lib.hid ((hEd.cellAt w.heap.size (by omega) 0).trans a0)
        have Ha1 := Lib.hid ((hEd.cellAt w.heap.size (by omega) 1).trans a1)
        clear hwd a0 a1 b2 b3
        have a0 := Ha0.out
        have a1 := Ha1.out
        have cO := Lib.hid (fun w => spec_l01In m.o 0 ((n1 : Int) - 1) w)
        have cT := Lib.hid (fun w => spec_l01In m.t 0 (wrap64 (H - 1)) w)
        have hsw : w.heap.size + 1 ≤ wb.heap.size := by omega
        have hul' : Hid ((u.length : Int) = n1) := by unfold Hid; rw [hul.out]
        have ew : IntKind.i64.wrap ((n1 : Int) - 1) = (n1 : Int) - 1 := IntWalk.i64_in _ (by omega)
        have eH : IntKind.i64.wrap (H - 1) = wrap64 (H - 1) := IntWalk.i64_left _
        cases hO : inB m.o 0 ((n1 : Int) - 1)
        case false =>
          rw [hO] at cO
          have HG : Hid (goB H ds u m = false) := by unfold Hid goB; rw [hul'.out, hO]; rfl
          clear hO
          have HF : Hid (replayF H ds ps ps ms = (ps, false)) := by unfold Hid; rw [hz.out, HD.out, replayF, HG.out]; rfl
          have y0 := cell_regrown a0
          have y1 := cell_regrown a1
          have y2 := cell_regrown b0
          have y3 := cell_regrown b1
          (refine wp_region_ext (by kernel_rfl) (by kernel_rfl) ?_; (repeat (go_big_quiet_step (first | (go_at_call 66; with_reducible exact Calls.rg0 (cO.out _)) | (go_at_call 66; with_reducible exact Calls.rg0 (cT.out _)) | (go_at_call 67; with_reducible exact Calls.rg (cD.out _ _))))); refine wpQuiet_nil ?_)
          intro w3 he3
          have HE3 := Lib.hid (HBd.out.trans he3)
          clear he3 hEd b0 b1 a0 a1 y0 y1 y2 y3
          go_wp2_with fail
          refine (spec_l35Copy A1 n1 c1 ps w3 (hxb1.out.keep HE3.out) hnc hn1).mono ?_
          rintro e w4 ⟨g2, c2', rfl, he4, ho4⟩
          have HO4 := Lib.hid ho4
          have HE4 := Lib.hid he4
          have hs3 := HE3.out.size
          clear ho4 he4
          go_wp2_with fail
          go_ret2
          exact ⟨.slice (some ⟨g2, 0, none⟩) n1 c2', (by rw [HL.out, HF.out]; rfl), HE.out.trans (HE3.out.trans HE4.out), by rw [HL.out, HF.out]; simp only; rw [hl1.out]; exact own_weak HO4.out (by omega)⟩
        case true =>
          have ho0 : 0 ≤ m.o ∧ m.o < n1 := by simp only [inB, Bool.and_eq_true, decide_eq_true_eq] at hO; omega
          obtain ⟨j, hj⟩ := Int.eq_ofNat_of_zero_le ho0.1
          have hjn : j < n1 := by omega
          have i0 : (0 : Int) ≤ (j : Int) := by omega
          have i1 : (j : Int) < (n1 : Int) := by omega
          obtain ⟨g', hg', hbg, hblk⟩ := PBlk.of_own HOd.out (by omega)
          injection hg' with hg'
          injection hg' with hg'
          subst hg'
          have q0 := hblk.cell (i := j) (by rw [hul.out]; exact hjn)
          have q2 := hblk.lt
          obtain ⟨x, hx⟩ : ∃ x, x = u.getD j 0 := ⟨_, rfl⟩
          rw [← hx] at q0
          have HOo := Lib.hid hO
          rw [hO] at cO
          rw [hj] at b0 cO
          have HJ := Lib.hid hj
          have HXu := Lib.hid hx
          clear hO hj hx ho0 hblk
          have cD := Lib.hid (fun d os => spec_l23Door H A n c ds x m.t (grow (redrawn wd d) os) ((hxb.out.keep HBd.out).keep (ext_rg wd d os)))
          cases hT : inB m.t 0 (wrap64 (H - 1))
          case false =>
            rw [hT] at cT
            have HG : Hid (goB H ds u m = false) := by unfold Hid goB hallB; rw [hul'.out, HOo.out, hT]; rfl
            clear hT
            have HF : Hid (replayF H ds ps ps ms = (ps, false)) := by unfold Hid; rw [hz.out, HD.out, replayF, HG.out]; rfl
            have y0 := cell_regrown a0
            have y1 := cell_regrown a1
            have y2 := cell_regrown b0
            have y3 := cell_regrown b1
            have y4 := cell_regrown q0
            (refine wp_region_ext (by kernel_rfl) (by kernel_rfl) ?_; (repeat (go_big_quiet_step (first | (go_at_call 66; with_reducible exact Calls.rg0 (cO.out _)) | (go_at_call 66; with_reducible exact Calls.rg0 (cT.out _)) | (go_at_call 67; with_reducible exact Calls.rg (cD.out _ _))))); refine wpQuiet_nil ?_)
            intro w3 he3
            have HE3 := Lib.hid (HBd.out.trans he3)
            clear he3 hEd b0 b1 a0 a1 y0 y1 y2 y3
            go_wp2_with fail
            refine (spec_l35Copy A1 n1 c1 ps w3 (hxb1.out.keep HE3.out) hnc hn1).mono ?_
            rintro e w4 ⟨g2, c2', rfl, he4, ho4⟩
            have HO4 := Lib.hid ho4
            have HE4 := Lib.hid he4
            have hs3 := HE3.out.size
            clear ho4 he4
            go_wp2_with fail
            go_ret2
            exact ⟨.slice (some ⟨g2, 0, none⟩) n1 c2', (by rw [HL.out, HF.out]; rfl), HE.out.trans (HE3.out.trans HE4.out), by rw [HL.out, HF.out]; simp only; rw [hl1.out]; exact own_weak HO4.out (by omega)⟩
          case true =>
            rw [hT] at cT
            cases hE : (x == m.t)
            case true =>
              have HG : Hid (goB H ds u m = false) := by
                unfold Hid goB hallB hasDoorB
                rw [hul'.out, HOo.out, hT, HJ.out, Int.toNat_natCast, ← HXu.out, beq_iff_eq.1 hE, doorB_self hHB.out, Bool.and_false]; rfl
              clear hT
              have HF : Hid (replayF H ds ps ps ms = (ps, false)) := by unfold Hid; rw [hz.out, HD.out, replayF, HG.out]; rfl
              have y0 := cell_regrown a0
              have y1 := cell_regrown a1
              have y2 := cell_regrown b0
              have y3 := cell_regrown b1
              have y4 := cell_regrown q0
              (refine wp_region_ext (by kernel_rfl) (by kernel_rfl) ?_; (repeat (go_big_quiet_step (first | (go_at_call 66; with_reducible exact Calls.rg0 (cO.out _)) | (go_at_call 66; with_reducible exact Calls.rg0 (cT.out _)) | (go_at_call 67; with_reducible exact Calls.rg (cD.out _ _))))); refine wpQuiet_nil ?_)
              intro w3 he3
              have HE3 := Lib.hid (HBd.out.trans he3)
              clear he3 hEd b0 b1 a0 a1 y0 y1 y2 y3
              go_wp2_with fail
              refine (spec_l35Copy A1 n1 c1 ps w3 (hxb1.out.keep HE3.out) hnc hn1).mono ?_
              rintro e w4 ⟨g2, c2', rfl, he4, ho4⟩
              have HO4 := Lib.hid ho4
              have HE4 := Lib.hid he4
              have hs3 := HE3.out.size
              clear ho4 he4
              go_wp2_with fail
              go_ret2
              exact ⟨.slice (some ⟨g2, 0, none⟩) n1 c2', (by rw [HL.out, HF.out]; rfl), HE.out.trans (HE3.out.trans HE4.out), by rw [HL.out, HF.out]; simp only; rw [hl1.out]; exact own_weak HO4.out (by omega)⟩
            case false =>
              cases hDo : doorB ds x m.t
              case false =>
                rw [hDo] at cD
                have HG : Hid (goB H ds u m = false) := by
                  unfold Hid goB hallB hasDoorB
                  rw [hul'.out, HOo.out, hT, HJ.out, Int.toNat_natCast, ← HXu.out, hDo, Bool.and_false]; rfl
                clear hT hDo
                have HF : Hid (replayF H ds ps ps ms = (ps, false)) := by unfold Hid; rw [hz.out, HD.out, replayF, HG.out]; rfl
                have y0 := cell_regrown a0
                have y1 := cell_regrown a1
                have y2 := cell_regrown b0
                have y3 := cell_regrown b1
                have y4 := cell_regrown q0
                (refine wp_region_ext (by kernel_rfl) (by kernel_rfl) ?_; (repeat (go_big_quiet_step (first | (go_at_call 66; with_reducible exact Calls.rg0 (cO.out _)) | (go_at_call 66; with_reducible exact Calls.rg0 (cT.out _)) | (go_at_call 67; with_reducible exact Calls.rg (cD.out _ _))))); refine wpQuiet_nil ?_)
                intro w3 he3
                have HE3 := Lib.hid (HBd.out.trans he3)
                clear he3 hEd b0 b1 a0 a1 y0 y1 y2 y3
                go_wp2_with fail
                refine (spec_l35Copy A1 n1 c1 ps w3 (hxb1.out.keep HE3.out) hnc hn1).mono ?_
                rintro e w4 ⟨g2, c2', rfl, he4, ho4⟩
                have HO4 := Lib.hid ho4
                have HE4 := Lib.hid he4
                have hs3 := HE3.out.size
                clear ho4 he4
                go_wp2_with fail
                go_ret2
                exact ⟨.slice (some ⟨g2, 0, none⟩) n1 c2', (by rw [HL.out, HF.out]; rfl), HE.out.trans (HE3.out.trans HE4.out), by rw [HL.out, HF.out]; simp only; rw [hl1.out]; exact own_weak HO4.out (by omega)⟩
              case true =>
                rw [hDo] at cD
                have HG : Hid (goB H ds u m = true) := by
                  unfold Hid goB hallB hasDoorB
                  rw [hul'.out, HOo.out, hT, HJ.out, Int.toNat_natCast, ← HXu.out, hDo, hHB.out]; rfl
                have HF : Hid (replayF H ds ps ps ms = replayF H ds ps (u.set j m.t) (ms.drop (k + 1))) := by unfold Hid; rw [hz.out, HD.out, replayF, HG.out, HJ.out]; rfl
                clear hT hDo
                have Hb0 := Lib.hid b0
                have Hb1 := Lib.hid b1
                have y0 := cell_regrown a0
                have y1 := cell_regrown a1
                have y2 := cell_regrown b0
                have y3 := cell_regrown b1
                have y4 := cell_regrown q0
                (refine wp_region_ext (by kernel_rfl) (by kernel_rfl) ?_; (repeat (go_big_quiet_step (first | (go_at_call 66; with_reducible exact Calls.rg0 (cO.out _)) | (go_at_call 66; with_reducible exact Calls.rg0 (cT.out _)) | (go_at_call 67; with_reducible exact Calls.rg (cD.out _ _))))); refine wpQuiet_nil ?_)
                intro w3 he3
                have HE3 := Lib.hid (HBd.out.trans he3)
                have ho3 := own_keep HOd.out he3
                obtain ⟨g', hg', hbg, hblk⟩ := PBlk.of_own ho3 (by omega)
                injection hg' with hg'
                injection hg' with hg'
                subst hg'
                have HO3 := Lib.hid ho3
                clear q0 b0 b1 a0 a1 y0 y1 y2 y3 y4
                have q0 := hblk.cell (i := j) (by rw [hul.out]; exact hjn)
                have q1 := hblk.free j
                have q2 := hblk.lt
                have b0 := (he3.cellAt wr.heap.size (by omega) 0).trans Hb0.out
                have b1 := (he3.cellAt wr.heap.size (by omega) 1).trans Hb1.out
                clear he3 hblk ho3 hEd
                go_wp2_with fail
                go_roundw
                case rel => exact ⟨k + 1, u.set j m.t, by omega, by go_num, own_set HO3.out j m.t, by unfold Hid; rw [List.length_set]; exact hul.out, HF, HE3.out.setCell hbg _⟩
                case measure => simp [intOf]; omega
      · obtain rfl : k = n2 := by omega
        clear a0 a1
        go_wp2_with fail
        go_ret2
        have hF : replayF H ds ps ps ms = (u, true) := by rw [hz.out, drop_nil (by rw [hl2.out]; omega)]; rfl
        exact ⟨.slice (some ⟨g, 0, none⟩) n1 c', (by rw [HL.out, hF]; rfl), HE.out.trans HB.out, by rw [HL.out, hF]; simp only; rw [hul.out]; exact own_weak HO.out (by omega)⟩
end Go.Proofs.YtfmifllcbbfpoaaGreatDoor
/- AuditMuseum and FirstFraud of the reference, FirstFraud of both sides; no condition but what stands at each theorem. -/
namespace Go.Proofs.YtfmifllcbbfpoaaGreatDoor
set_option linter.unusedSimpArgs false
set_option linter.unusedVariables false
open Go.RowKit Go.Sort
set_option maxRecDepth 100000 in
set_option maxHeartbeats 2000000 in
theorem spec_AuditMuseum (v : MV) (m : GMuseum) (w : World) (hx : MRd w v m) (hf : MFit v) :
    Calls Tryz.prog 50 #[v.val] w fun e w' => e = .returned (.bool (auditB m)) ∧ Ext w w' := by
  obtain ⟨wb, hwb⟩ : ∃ wb, wb = w.alloc (.cells v.cells 30) := ⟨_, rfl⟩
  have hbx := MBox.new hwb
  have hE : Ext w wb := by rw [hwb]; exact (Ext.refl w).alloc _
  have HX := Lib.hid (hx.keep hE)
  have cM := Lib.hid (spec_MuseumOk v m wb HX.out)
  obtain ⟨Hh, ⟨A0, n0, c0⟩, ⟨A1, n1, c1⟩, ⟨A2, n2, c2⟩, ⟨A3, n3, c3⟩, day, ⟨A4, n4, c4⟩⟩ := v
  have hxd : Hid (Rd wb 2 A0 n0 (m.ds.flatMap GDoor.enc)) := HX.out.rd
  have hxf : Hid (Rd wb 1 A1 n1 (m.fs.flatMap ienc)) := HX.out.rf
  have hxp : Hid (Rd wb 1 A2 n2 (m.ps.flatMap ienc)) := HX.out.rp
  have hxr : Hid (Rd wb 3 A4 n4 (m.rs.flatMap GEntry.enc)) := HX.out.rr
  have hzf : Hid (A1 = none → c1 = 0) := hf.zf
  have hnf : n1 ≤ 1048576 := hf.nf
  have hnr : n4 ≤ 1048576 := hf.nr
  have hnp : n2 ≤ 1048576 := hf.np
  have hl1 := Lib.hid (hxf.out.len ienc_len (by omega))
  have hl2 := Lib.hid (hxp.out.len ienc_len (by omega))
  have hl4 := Lib.hid (hxr.out.len GEntry.len (by omega))
  have hH : Hid (Hh = m.H) := hx.eH
  have HE := Lib.hid hE
  have Hwb : Hid (wb = w.alloc (.cells #[.int .i64 Hh, .slice A0 n0 c0, .slice A1 n1 c1, .slice A2 n2 c2, .slice A3 n3 c3, .int .i64 day, .slice A4 n4 c4] 30)) := hwb
  have HB := Lib.hid hbx
  have hbl := hbx.lt
  clear hE hwb hbx hx hf
  show Calls Tryz.prog 50 #[.agg #[.int .i64 Hh, .slice A0 n0 c0, .slice A1 n1 c1, .slice A2 n2 c2, .slice A3 n3 c3, .int .i64 day, .slice A4 n4 c4]] w _
  obtain ⟨b0, b1, b2, b3, b4, b5, b6⟩ := HB.out.cell
  simp only at b0 b1 b2 b3 b4 b5 b6
  cases hm : museumB m
  case false =>
    rw [hm] at cM
    have HF := Lib.hid (audit_bad hm)
    clear hm
    go_enter Tryz.func50, Tryz.ntmps50
    go_wp2_with (go_at_call 45; refine (fun h : Hid _ => h.out) ?_)
    unfold Hid
    rw [← Hwb.out]
    refine cM.out.mono ?_
    rintro e w1 ⟨rfl, h1⟩
    have HE1 := Lib.hid (HE.out.trans h1)
    clear h1 b0 b1 b2 b3 b4 b5 b6
    go_wp2_with fail
    go_ret
    exact ⟨ret_bool HF.out.symm, HE1.out⟩
  rw [hm] at cM
  have hTx := Lib.hid (museum_txt hm)
  have Hm := Lib.hid hm
  have hpp := museumB_parts.1 hm
  have hn4 : n4 ≤ 30 := by (have := sealed_len hpp.2.2.2.2.2.2.1; have := hl4.out; omega)
  have H12 : Hid (n1 = n2) := Lib.hid (by (have := hpp.2.2.1; have := hl1.out; have := hl2.out; omega))
  clear hm hpp
  go_enter Tryz.func50, Tryz.ntmps50
  go_wp2_with (go_at_call 45; refine (fun h : Hid _ => h.out) ?_)
  unfold Hid
  rw [← Hwb.out]
  refine cM.out.mono ?_
  rintro e w1 ⟨rfl, h1⟩
  have HE1 := Lib.hid h1
  have z1 := h1.size
  clear h1 b0 b1 b2 b3 b4 b5 b6
  obtain ⟨b0, b1, b2, b3, b4, b5, b6⟩ := (HB.out.keep HE1.out).cell
  simp only at b0 b1 b2 b3 b4 b5 b6
  have Ho0 : Hid ((w1.alloc (.cells #[] 46)).ownsRow wb.heap.size 46 4 (.slice (some ⟨w1.heap.size, 0, none⟩) 0 0) 0 []) := Lib.hid (own_empty w1 wb.heap.size 46 4 z1)
  have HE2 := Lib.hid (HE1.out.alloc (.cells #[] 46))
  obtain ⟨y0, y1, y2, y3, y4, y5, y6⟩ := (HB.out.keep HE2.out).cell
  simp only at y0 y1 y2 y3 y4 y5 y6
  have hbl1 : w.heap.size < w1.heap.size := by omega
  go_wp2_with fail
  go_loopw [3, 4] (fun o i wr => ∃ k : Nat, k ≤ n4 ∧ i = .int .i64 k ∧ Hid (wr.ownsRow wb.heap.size 46 4 o k ((movesL (m.rs.take k)).flatMap GMove.enc)) ∧ Hid (((m.rs.take k).all fun e => (parseM e.x).2) = true) ∧ Ext wb wr) (fun _ i _ => n4 - (intOf i).toNat)
  case atStart => exact ⟨0, Nat.zero_le _, rfl, Ho0, by unfold Hid; rfl, HE2.out⟩
  case round =>
    obtain ⟨k, hk, rfl, hown, hall, hb⟩ := hrel
    by_cases hlt : k < n4
    · obtain ⟨b, off, x, rfl, hbs, hxk, p0, p1, p2⟩ := GEntry.at_ (hxr.out.keep hb) hlt
      have hxs := hTx.out x (List.mem_of_getElem? hxk)
      have Hk := Lib.hid hxk
      obtain ⟨we, hwe⟩ : ∃ we, we = wr := ⟨_, rfl⟩
      have hEe : Ext wr we := by rw [hwe]; exact Ext.refl _
      have HBr := Lib.hid hb
      have HBe := Lib.hid (hb.trans hEe)
      have Hwe := Lib.hid hwe
      have cP := Lib.hid (spec_ParseMove x.x we (by omega))
      obtain ⟨b0, b1, b2, b3, b4, b5, b6⟩ := (HB.out.keep HBr.out).cell
      simp only at b0 b1 b2 b3 b4 b5 b6
      clear hxk hwe hb
      go_wp2_with (go_at_call 94; refine (fun h : Hid _ => h.out) ?_)
      unfold Hid
      rw [← Hwe.out]
      refine cP.out.mono ?_
      rintro e w2 ⟨mv, pb, rfl, he2, hpm⟩
      have hpe := parseM_of hpm
      have HE3 := Lib.hid (hEe.trans he2)
      clear hEe he2 hpm
      cases pb
      case false =>
        have HF := Lib.hid (audit_no Hk.out (by rw [hpe]))
        clear hpe p0 p1 p2 b0 b1 b2 b3 b4 b5 b6
        go_wp2_with fail
        go_ret
        exact ⟨ret_bool HF.out.symm, (HE.out.trans (HBr.out.trans HE3.out)).alloc _⟩
      case true =>
        have HN : Hid (movesL (m.rs.take (k + 1)) = movesL (m.rs.take k) ++ [mv]) := Lib.hid (by rw [movesL_snoc Hk.out, hpe])
        have HA := Lib.hid (all_snocA Hk.out hall.out (by rw [hpe]))
        clear hpe p0 p1 p2 b0 b1 b2 b3 b4 b5 b6
        go_wp2_with (at_builtin; refine (fun h : Hid _ => h.out) ?_)
        unfold Hid
        refine append1 ei_MoveA rfl _ _ rfl wb.heap.size (w2.alloc (.cells #[.int .i64 mv.o, .int .i64 mv.t, .int .i64 mv.f, .int .i64 mv.s] 46)) _ _ k _ (by rfl) (own_keep hown.out (HE3.out.alloc _)) mv.enc (by rw [heap_size_allocN]; rfl) rfl (one_GMoveA mv) (by omega) ((HBr.out.trans (HE3.out.alloc _)).size) ?_
        intro v' w4 ho4 he4
        have HO4 := Lib.hid ho4
        have HE4 := Lib.hid (he4 wb (HBr.out.trans (HE3.out.alloc _)) (Nat.le_refl _))
        clear ho4 he4
        go_wp2_with fail
        go_roundw
        case rel => exact ⟨k + 1, by omega, by go_num, by unfold Hid; rw [HN.out, List.flatMap_append]; simpa using HO4.out, HA, HE4.out⟩
        case measure => simp [intOf]; omega
    · obtain rfl : n4 = k := by omega
      rw [List.take_of_length_le (by rw [hl4.out]; omega)] at hown hall
      have HIS := Lib.hid (audit_is Hm.out hall.out)
      have HBr := Lib.hid hb
      obtain ⟨P, hP⟩ : ∃ P, P = (replayL m.H m.ds m.fs (movesL m.rs)).1 := ⟨_, rfl⟩
      obtain ⟨rb, hrb⟩ : ∃ rb, rb = (replayL m.H m.ds m.fs (movesL m.rs)).2 := ⟨_, rfl⟩
      have hPl : P.length = n1 := by rw [hP, replayL_len]; exact hl1.out
      rw [← hP, ← hrb] at HIS
      obtain ⟨Am, cm, rfl, -⟩ := own_form hown.out
      have cR : Hid (Calls Tryz.prog 95 #[.agg #[.int .i64 Hh, .slice A0 n0 c0], .slice A1 n1 c1, .slice Am n4 cm] wr (ListBool P rb wr)) := Lib.hid (by
        rw [hP, hrb, ← hH.out]
        exact spec_ReplayMoves Hh A0 n0 c0 m.ds A1 n1 c1 m.fs Am n4 cm (movesL m.rs) wr (hxd.out.keep hb) (hxf.out.keep hb) (Rd.of_own hown.out) hzf hnf)
      have HPl := Lib.hid hPl
      clear hb hP hrb hPl b0 b1 b2 b3 b4 b5 b6
      obtain ⟨b0, b1, b2, b3, b4, b5, b6⟩ := (HB.out.keep HBr.out).cell
      simp only at b0 b1 b2 b3 b4 b5 b6
      go_wp2_with (go_at_call 95; refine (fun h : Hid _ => h.out) ?_)
      unfold Hid
      refine cR.out.mono ?_
      rintro e w5 ⟨vp, rfl, he5, ho5⟩
      obtain ⟨Ap, cp, rfl, -⟩ := own_form ho5
      have hrp := Rd.of_own ho5
      rw [HPl.out] at hrp
      have HRP := Lib.hid hrp
      have HE5 := Lib.hid (HBr.out.trans he5)
      clear he5 ho5 hrp hown b0 b1 b2 b3 b4 b5 b6
      rw [HPl.out]
      obtain ⟨b0, b1, b2, b3, b4, b5, b6⟩ := (HB.out.keep HE5.out).cell
      simp only at b0 b1 b2 b3 b4 b5 b6
      cases rb
      case false =>
        go_wp2_with fail
        go_ret
        exact ⟨ret_bool (by rw [HIS.out]; rfl), HE.out.trans HE5.out⟩
      have H12i : ((n1 : Int) == (n2 : Int)) = true := by rw [H12.out]; simp
      go_wp2_with fail
      go_loopw [9] (fun i wr => ∃ (k : Nat), k ≤ n1 ∧ i = .int .i64 k ∧ Hid (P.take k = m.ps.take k) ∧ Ext w5 wr) (fun i _ => n1 - (intOf i).toNat)
      case atStart => exact ⟨0, Nat.zero_le _, rfl, by unfold Hid; simp, Ext.refl _⟩
      case round =>
        obtain ⟨k, hk, rfl, htk, hb⟩ := hrel
        clear b0 b1 b2 b3 b4 b5 b6
        by_cases hlt : k < n1
        · obtain ⟨bp, op, x, hAp, hbp, hpk, q0⟩ := ienc_at (HRP.out.keep hb) hlt
          obtain ⟨bq, oq, y, hAq, hbq, hqk, r0⟩ := ienc_at (hxp.out.keep (HE5.out.trans hb)) (show k < n2 by (have := H12.out; omega))
          subst hAp hAq
          have HP1 := Lib.hid hpk
          have HQ1 := Lib.hid hqk
          have HW5 := Lib.hid (HE5.out.trans hb)
          obtain ⟨b0, b1, b2, b3, b4, b5, b6⟩ := (HB.out.keep HW5.out).cell
          simp only at b0 b1 b2 b3 b4 b5 b6
          have HBB := Lib.hid hb
          clear hpk hqk hb
          have i1 : (k : Int) < (n2 : Int) := by (have := H12.out; omega)
          by_cases hxy : x = y
          · have hne : (x == y) = true := by simpa using hxy
            have HT : Hid (P.take (k + 1) = m.ps.take (k + 1)) := Lib.hid (by rw [take_snoc HP1.out, take_snoc HQ1.out, htk.out, hxy])
            clear hxy
            go_wp2_with fail
            go_quiet (fail)
            go_wp2_with fail
            go_roundw
            case rel => exact ⟨k + 1, by omega, by go_num, HT, HBB.out.drewN _⟩
            case measure => simp [intOf]; omega
          · have hne : (x == y) = false := by simpa using hxy
            have HF : Hid (auditB m = false) := Lib.hid (by
              rw [HIS.out, Bool.true_and, decide_eq_false_iff_not]
              intro h
              have h1 := HP1.out
              rw [h, HQ1.out] at h1
              injection h1 with h1
              exact hxy h1.symm)
            clear hxy
            go_wp2_with fail
            go_quiet (fail)
            go_wp2_with fail
            go_ret
            exact ⟨ret_bool HF.out.symm, HE.out.trans (HW5.out.drewN _)⟩
        · obtain rfl : n1 = k := by omega
          have hfin := htk.out
          rw [List.take_of_length_le (by rw [HPl.out]; omega), List.take_of_length_le (by rw [hl2.out]; have := H12.out; omega)] at hfin
          have HF : Hid (auditB m = true) := Lib.hid (by rw [HIS.out, hfin]; simp)
          clear hfin
          go_wp2_with fail
          go_ret
          exact ⟨ret_bool HF.out.symm, HE.out.trans (HE5.out.trans hb)⟩
set_option maxRecDepth 100000 in
set_option maxHeartbeats 1000000 in
theorem impl_FirstFraud (v : MV) (m : GMuseum) (w : World) (hx : MRd w v m) (hf : MFit v) (hM : Hid (∃ k, w.cell? ⟨0, 0, none⟩ = some (.int .i64 k))) :
    Calls Tryz.prog 16 #[v.val] w fun e w' => e = .returned (.int .i64 (fraudI m)) ∧ Ext w w' := by
  obtain ⟨wb, hwb⟩ : ∃ wb, wb = w.alloc (.cells v.cells 30) := ⟨_, rfl⟩
  have hbx := MBox.new hwb
  have hE : Ext w wb := by rw [hwb]; exact (Ext.refl w).alloc _
  have HX := Lib.hid (hx.keep hE)
  have cA := Lib.hid (impl_AuditMuseum v m wb HX.out hf (Lib.hid (max_ext hM.out hE)))
  obtain ⟨Hh, ⟨A0, n0, c0⟩, ⟨A1, n1, c1⟩, ⟨A2, n2, c2⟩, ⟨A3, n3, c3⟩, day, ⟨A4, n4, c4⟩⟩ := v
  have hxr : Hid (Rd wb 3 A4 n4 (m.rs.flatMap GEntry.enc)) := HX.out.rr
  have hl4 := Lib.hid (hxr.out.len GEntry.len (by omega))
  have HE := Lib.hid hE
  have Hwb : Hid (wb = w.alloc (.cells #[.int .i64 Hh, .slice A0 n0 c0, .slice A1 n1 c1, .slice A2 n2 c2, .slice A3 n3 c3, .int .i64 day, .slice A4 n4 c4] 30)) := hwb
  have HB := Lib.hid hbx
  have hbl := hbx.lt
  have HFr : Hid (fraudI m = if auditB m then -1 else if brokenI m.rs = -1 then (n4 : Int) else brokenI m.rs) := Lib.hid (by unfold fraudI; rw [hl4.out])
  have cK := Lib.hid (fun W (he : Ext wb W) => impl_FirstBroken A4 n4 c4 m.rs W (hxr.out.keep he))
  have hbd := brokF_bd m.rs 1 none 0
  obtain ⟨z, hz⟩ : ∃ z, z = brokenI m.rs := ⟨_, rfl⟩
  have hz1 : -1 ≤ z := by rw [hz]; exact hbd.1
  rw [← hz] at cK HFr
  obtain ⟨ab, hab⟩ : ∃ ab, ab = auditB m := ⟨_, rfl⟩
  rw [← hab] at cA HFr
  clear hE hwb hbx hx hf hz hab hbd
  show Calls Tryz.prog 16 #[.agg #[.int .i64 Hh, .slice A0 n0 c0, .slice A1 n1 c1, .slice A2 n2 c2, .slice A3 n3 c3, .int .i64 day, .slice A4 n4 c4]] w _
  obtain ⟨b0, b1, b2, b3, b4, b5, b6⟩ := HB.out.cell
  simp only at b0 b1 b2 b3 b4 b5 b6
  go_enter Tryz.func16, Tryz.ntmps16
  go_wp2_with (go_at_call 15; refine (fun h : Hid _ => h.out) ?_)
  unfold Hid
  rw [← Hwb.out]
  refine cA.out.mono ?_
  rintro e w1 ⟨rfl, h1⟩
  have HE1 := Lib.hid h1
  clear h1 b0 b1 b2 b3 b4 b5 b6
  cases ab
  case true =>
    go_wp2_with fail
    go_ret
    exact ⟨ret_int (by rw [HFr.out]; rfl), HE.out.trans HE1.out⟩
  obtain ⟨b0, b1, b2, b3, b4, b5, b6⟩ := (HB.out.keep HE1.out).cell
  simp only at b0 b1 b2 b3 b4 b5 b6
  go_wp2_with (go_at_call 58; refine (fun h : Hid _ => h.out) ?_)
  unfold Hid
  refine (cK.out w1 HE1.out).mono ?_
  rintro e w2 ⟨rfl, h2⟩
  have HE2 := Lib.hid (HE1.out.trans h2)
  clear h2 b0 b1 b2 b3 b4 b5 b6
  obtain ⟨b0, b1, b2, b3, b4, b5, b6⟩ := (HB.out.keep HE2.out).cell
  simp only at b0 b1 b2 b3 b4 b5 b6
  by_cases hz0 : z = -1
  case pos =>
    have HZ := Lib.hid hz0
    have e1 : (z == -1) = true := by simpa using hz0
    have e2 : ¬ 0 ≤ z := by omega
    clear hz0
    go_wp2_with fail
    go_ret
    exact ⟨ret_int (by rw [HFr.out, HZ.out]; rfl), HE.out.trans HE2.out⟩
  case neg =>
    have HZ := Lib.hid hz0
    have e1 : (z == -1) = false := by simpa using hz0
    have e2 : 0 ≤ z := by omega
    clear hz0
    go_wp2_with fail
    go_ret
    exact ⟨ret_int (by rw [HFr.out]; simp [HZ.out]), HE.out.trans HE2.out⟩
end Go.Proofs.YtfmifllcbbfpoaaGreatDoor
/- Contract of the program's DoAct; no condition but what stands at each theorem. -/
namespace Go.Proofs.YtfmifllcbbfpoaaGreatDoor
set_option linter.unusedSimpArgs false
set_option linter.unusedVariables false
open Go.RowKit Go.Sort
theorem act_bad {m : GMuseum} {a : GAct} (h : (museumB m && acOk a) = false) : actN m a = -1 ∧ actM m a = m := by
  unfold actN actM; rw [h]; exact ⟨rfl, rfl⟩
theorem act1 {m : GMuseum} {a : GAct} (h : museumB m = true) (ho : acOk a = true) (hk : a.k = 1) : actN m a = b01 (guardB m a.a a.b) ∧ actM m a = guardM m a.a a.b := by
  unfold actN actM; rw [h, ho, hk]; exact ⟨rfl, rfl⟩
theorem act2 {m : GMuseum} {a : GAct} (h : museumB m = true) (ho : acOk a = true) (hk : a.k = 2) : actN m a = b01 (nightB m ⟨a.a, a.b, a.c, a.d⟩) ∧ actM m a = nightM m ⟨a.a, a.b, a.c, a.d⟩ := by
  unfold actN actM; rw [h, ho, hk]; exact ⟨rfl, rfl⟩
theorem act3 {m : GMuseum} {a : GAct} (h : museumB m = true) (ho : acOk a = true) (hk : a.k = 3) : actN m a = b01 (daysB m a.a) ∧ actM m a = daysM m a.a := by
  unfold actN actM; rw [h, ho, hk]; exact ⟨rfl, rfl⟩
theorem act4 {m : GMuseum} {a : GAct} (h : museumB m = true) (ho : acOk a = true) (hk : a.k = 4) : actN m a = b01 (auditB m) ∧ actM m a = m := by
  unfold actN actM; rw [h, ho, hk]; exact ⟨rfl, rfl⟩
theorem act5 {m : GMuseum} {a : GAct} (h : museumB m = true) (ho : acOk a = true) (hk : a.k = 5) : actN m a = (if a.a < m.ps.length then m.ps.getD a.a.toNat 0 else -1) ∧ actM m a = m := by
  unfold actN actM; rw [h, ho, hk]; exact ⟨rfl, rfl⟩
theorem ac5_a {a : GAct} (ho : acOk a = true) : 0 ≤ a.a := (ac_cases ho).2.1.1
set_option maxRecDepth 100000 in
set_option maxHeartbeats 8000000 in
theorem impl_DoAct (v : MV) (m : GMuseum) (a : GAct) (w : World) (hx : MRd w v m) (hf : MFit v) (hM : Hid (∃ k, w.cell? ⟨0, 0, none⟩ = some (.int .i64 k))) : Calls Tryz.prog 11 #[v.val, .agg #[.int .i64 a.k, .int .i64 a.a, .int .i64 a.b, .int .i64 a.c, .int .i64 a.d]] w (MPost (actM m a) (.int .i64 (actN m a)) w) := by
  obtain ⟨wb, hwb⟩ : ∃ wb, wb = w.alloc (.cells v.cells 30) := ⟨_, rfl⟩
  have hbx := MBox.new hwb
  have hE : Ext w wb := by rw [hwb]; exact (Ext.refl w).alloc _
  obtain ⟨wm, hwm⟩ : ∃ wm, wm = wb.alloc (.cells #[.int .i64 a.k, .int .i64 a.a, .int .i64 a.b, .int .i64 a.c, .int .i64 a.d] 37) := ⟨_, rfl⟩
  have hEm : Ext wb wm := by rw [hwm]; exact (Ext.refl wb).alloc _
  obtain ⟨wz, hwz⟩ : ∃ wz, wz = wm.alloc (.cells #[.int .i64 0, .slice none 0 0, .slice none 0 0, .slice none 0 0, .slice none 0 0, .int .i64 0, .slice none 0 0] 30) := ⟨_, rfl⟩
  have hEz : Ext wm wz := by rw [hwz]; exact (Ext.refl wm).alloc _
  have hsb : wb.heap.size = w.heap.size + 1 := by rw [hwb]; simp
  have hsm : wm.heap.size = w.heap.size + 1 + 1 := by rw [hwm]; simp [hsb]
  have hsz : wz.heap.size = w.heap.size + 1 + 1 + 1 := by rw [hwz]; simp [hsm]
  have HBz : Hid (Blk wz (w.heap.size + 1 + 1) 30 #[.int .i64 0, .slice none 0 0, .slice none 0 0, .slice none 0 0, .slice none 0 0, .int .i64 0, .slice none 0 0]) := Lib.hid (by rw [hwz, ← hsm]; exact Blk.new _ _ _)
  have HBm : Hid (Blk wz (w.heap.size + 1) 37 #[.int .i64 a.k, .int .i64 a.a, .int .i64 a.b, .int .i64 a.c, .int .i64 a.d]) := Lib.hid (by refine Blk.keep ?_ hEz; rw [hwm, ← hsb]; exact Blk.new _ _ _)
  have hE2 := hEm.trans hEz
  have HX := Lib.hid (hx.keep (hE.trans hE2))
  have HB := Lib.hid (hbx.keep hE2)
  have HE := Lib.hid (hE.trans hE2)
  have HMX := Lib.hid (max_ext hM.out (hE.trans hE2))
  have cC := Lib.hid (impl_copyMuseum v m wz HX.out hf)
  obtain ⟨Hh, ⟨A0, n0, c0⟩, ⟨A1, n1, c1⟩, ⟨A2, n2, c2⟩, ⟨A3, n3, c3⟩, day, ⟨A4, n4, c4⟩⟩ := v
  have hH : Hh = m.H := hx.eH
  subst hH
  have Hwz : Hid (wz = ((w.alloc (.cells #[.int .i64 m.H, .slice A0 n0 c0, .slice A1 n1 c1, .slice A2 n2 c2, .slice A3 n3 c3, .int .i64 m.d, .slice A4 n4 c4] 30)).alloc (.cells #[.int .i64 a.k, .int .i64 a.a, .int .i64 a.b, .int .i64 a.c, .int .i64 a.d] 37)).alloc (.cells #[.int .i64 0, .slice none 0 0, .slice none 0 0, .slice none 0 0, .slice none 0 0, .int .i64 0, .slice none 0 0] 30)) := Lib.hid (by rw [hwz, hwm, hwb, ← hx.ed]; rfl)
  have hday : day = m.d := hx.ed
  subst hday
  have hrp : Hid (Rd wz 1 A2 n2 (m.ps.flatMap ienc)) := HX.out.rp
  have hrw : Hid (Rd w 1 A2 n2 (m.ps.flatMap ienc)) := hx.rp
  have hlp := Lib.hid (hrp.out.len ienc_len (by omega))
  obtain ⟨gv, hgv⟩ : ∃ x, x = guardB m a.a a.b := ⟨_, rfl⟩
  obtain ⟨nv, hnv⟩ : ∃ x, x = nightB m ⟨a.a, a.b, a.c, a.d⟩ := ⟨_, rfl⟩
  obtain ⟨dv, hdv⟩ : ∃ x, x = daysB m a.a := ⟨_, rfl⟩
  obtain ⟨av, hav⟩ : ∃ x, x = auditB m := ⟨_, rfl⟩
  have CM : Hid (∀ W, Ext wz W → Calls Tryz.prog 13 #[.agg #[.int .i64 m.H, .slice A0 n0 c0, .slice A1 n1 c1, .slice A2 n2 c2, .slice A3 n3 c3, .int .i64 m.d, .slice A4 n4 c4]] W fun e w' => e = .returned (.bool (museumB m)) ∧ Ext W w') := Lib.hid fun W he => impl_MuseumOk (⟨m.H, ⟨A0, n0, c0⟩, ⟨A1, n1, c1⟩, ⟨A2, n2, c2⟩, ⟨A3, n3, c3⟩, m.d, ⟨A4, n4, c4⟩⟩ : MV) m W (HX.out.keep he)
  have CA := Lib.hid (fun W => impl_ActOk a W)
  have CG : Hid (∀ W, Ext wz W → Calls Tryz.prog 20 #[.agg #[.int .i64 m.H, .slice A0 n0 c0, .slice A1 n1 c1, .slice A2 n2 c2, .slice A3 n3 c3, .int .i64 m.d, .slice A4 n4 c4], .int .i64 a.a, .int .i64 a.b] W (MPost (guardM m a.a a.b) (.bool gv) W)) := Lib.hid fun W he => by rw [hgv]; exact impl_GuardWalk (⟨m.H, ⟨A0, n0, c0⟩, ⟨A1, n1, c1⟩, ⟨A2, n2, c2⟩, ⟨A3, n3, c3⟩, m.d, ⟨A4, n4, c4⟩⟩ : MV) m a.a a.b W (HX.out.keep he) hf
  have CN : Hid (∀ W, Ext wz W → Calls Tryz.prog 19 #[.agg #[.int .i64 m.H, .slice A0 n0 c0, .slice A1 n1 c1, .slice A2 n2 c2, .slice A3 n3 c3, .int .i64 m.d, .slice A4 n4 c4], .agg #[.int .i64 a.a, .int .i64 a.b, .int .i64 a.c, .int .i64 a.d]] W (MPost (nightM m ⟨a.a, a.b, a.c, a.d⟩) (.bool nv) W)) := Lib.hid fun W he => by rw [hnv]; exact impl_NightMove (⟨m.H, ⟨A0, n0, c0⟩, ⟨A1, n1, c1⟩, ⟨A2, n2, c2⟩, ⟨A3, n3, c3⟩, m.d, ⟨A4, n4, c4⟩⟩ : MV) m ⟨a.a, a.b, a.c, a.d⟩ W (HX.out.keep he) hf
  have CD : Hid (∀ W, Ext wz W → Calls Tryz.prog 21 #[.agg #[.int .i64 m.H, .slice A0 n0 c0, .slice A1 n1 c1, .slice A2 n2 c2, .slice A3 n3 c3, .int .i64 m.d, .slice A4 n4 c4], .int .i64 a.a] W (MPost (daysM m a.a) (.bool dv) W)) := Lib.hid fun W he => by rw [hdv]; exact impl_NextDays (⟨m.H, ⟨A0, n0, c0⟩, ⟨A1, n1, c1⟩, ⟨A2, n2, c2⟩, ⟨A3, n3, c3⟩, m.d, ⟨A4, n4, c4⟩⟩ : MV) m a.a W (HX.out.keep he) hf
  have CU : Hid (∀ W, Ext wz W → Calls Tryz.prog 15 #[.agg #[.int .i64 m.H, .slice A0 n0 c0, .slice A1 n1 c1, .slice A2 n2 c2, .slice A3 n3 c3, .int .i64 m.d, .slice A4 n4 c4]] W fun e w' => e = .returned (.bool av) ∧ Ext W w') := Lib.hid fun W he => by rw [hav]; exact impl_AuditMuseum (⟨m.H, ⟨A0, n0, c0⟩, ⟨A1, n1, c1⟩, ⟨A2, n2, c2⟩, ⟨A3, n3, c3⟩, m.d, ⟨A4, n4, c4⟩⟩ : MV) m W (HX.out.keep he) hf (Lib.hid (max_ext HMX.out he))
  have HGV := Lib.hid hgv
  have HNV := Lib.hid hnv
  have HDV := Lib.hid hdv
  have HAV := Lib.hid hav
  have hzl : w.heap.size + 1 + 1 < wz.heap.size := by omega
  clear hwb hwz hwm hbx hE hEz hEm hE2 hx hf hsb hsz hsm hgv hnv hdv hav
  show Calls Tryz.prog 11 #[.agg #[.int .i64 m.H, .slice A0 n0 c0, .slice A1 n1 c1, .slice A2 n2 c2, .slice A3 n3 c3, .int .i64 m.d, .slice A4 n4 c4], .agg #[.int .i64 a.k, .int .i64 a.a, .int .i64 a.b, .int .i64 a.c, .int .i64 a.d]] w _
  obtain ⟨b0, b1, b2, b3, b4, b5, b6⟩ := HB.out.cell
  simp only at b0 b1 b2 b3 b4 b5 b6
  have Hb0 := Lib.hid b0
  rw [Hwz.out] at b0 b1 b2 b3 b4 b5 b6
  go_enter Tryz.func11, Tryz.ntmps11
  go_wp2_with (go_at_call 42; refine (fun h : Hid _ => h.out) ?_)
  unfold Hid
  rw [← Hwz.out]
  refine cC.out.mono ?_
  rintro e w1 ⟨v1, hev, he1, ho1⟩
  obtain ⟨Hh1, ⟨A01, n01, c01⟩, ⟨A11, n11, c11⟩, ⟨A21, n21, c21⟩, ⟨A31, n31, c31⟩, day1, ⟨A41, n41, c41⟩⟩ := v1
  simp only [MV.val, MV.cells] at hev
  subst hev
  obtain ⟨w2, hw2⟩ : ∃ w2, w2 = w1.alloc (.cells #[.int .i64 Hh1, .slice A01 n01 c01, .slice A11 n11 c11, .slice A21 n21 c21, .slice A31 n31 c31, .int .i64 day1, .slice A41 n41 c41] 30) := ⟨_, rfl⟩
  have hB6 : Blk w2 w1.heap.size 30 #[.int .i64 Hh1, .slice A01 n01 c01, .slice A11 n11 c11, .slice A21 n21 c21, .slice A31 n31 c31, .int .i64 day1, .slice A41 n41 c41] := by rw [hw2]; exact Blk.new _ _ _
  have he2 : Ext w1 w2 := by rw [hw2]; exact (Ext.refl _).alloc _
  have HB6 := Lib.hid hB6
  have HO2 := Lib.hid (ho1.keep he2)
  have HE2 := Lib.hid (he1.trans he2)
  have HW2 := Lib.hid hw2
  have hz2 : wz.heap.size ≤ w1.heap.size := he1.size
  have hs2 : w2.heap.size = w1.heap.size + 1 := by rw [hw2]; simp
  clear hB6 he2 ho1 he1 hw2 b0 b1 b2 b3 b4 b5 b6 cC
  obtain ⟨b0, b1, b2, b3, b4, b5, b6⟩ := (HB.out.keep HE2.out).cell
  have hbm := HBm.out.keep HE2.out
  have q0 := hbm.cellAt (i := 0) (by simp)
  have q1 := hbm.cellAt (i := 1) (by simp)
  have q2 := hbm.cellAt (i := 2) (by simp)
  have q3 := hbm.cellAt (i := 3) (by simp)
  have q4 := hbm.cellAt (i := 4) (by simp)
  simp only at b0 b1 b2 b3 b4 b5 b6
  simp at q0 q1 q2 q3 q4
  rw [HW2.out] at b0 b1 b2 b3 b4 b5 b6 q0 q1 q2 q3 q4
  go_wp2_with (go_at_call 13; refine (fun h : Hid _ => h.out) ?_)
  unfold Hid
  rw [← HW2.out]
  refine (CM.out w2 HE2.out).mono ?_
  rintro e w3 ⟨rfl, he3⟩
  have HE3 := Lib.hid (HE2.out.trans he3)
  have HO3 := Lib.hid (HO2.out.keep he3)
  have HB63 := Lib.hid (HB6.out.keep he3)
  have hz3 : w2.heap.size ≤ w3.heap.size := he3.size
  clear he3
  clear hbm b0 b1 b2 b3 b4 b5 b6 q0 q1 q2 q3 q4
  cases hm : museumB m
  case false =>
    have hba := act_bad (a := a) (m := m) (by rw [hm]; rfl)
    have HF := Lib.hid hba.1
    have HM := Lib.hid hba.2
    clear hm hba
    have Bz := Blk.keep HBz.out HE3.out
    have x0 := Bz.cellAt (i := 0) (by simp)
    have x1 := Bz.cellAt (i := 1) (by simp)
    have x2 := Bz.cellAt (i := 2) (by simp)
    have x3 := Bz.cellAt (i := 3) (by simp)
    have x4 := Bz.cellAt (i := 4) (by simp)
    have x5 := Bz.cellAt (i := 5) (by simp)
    have x6 := Bz.cellAt (i := 6) (by simp)
    have fz := Bz.free
    simp at x0 x1 x2 x3 x4 x5 x6
    have lz : w.heap.size + 1 + 1 < w3.heap.size := Bz.lt
    have y0 := HB63.out.cellAt (i := 0) (by simp)
    have y1 := HB63.out.cellAt (i := 1) (by simp)
    have y2 := HB63.out.cellAt (i := 2) (by simp)
    have y3 := HB63.out.cellAt (i := 3) (by simp)
    have y4 := HB63.out.cellAt (i := 4) (by simp)
    have y5 := HB63.out.cellAt (i := 5) (by simp)
    have y6 := HB63.out.cellAt (i := 6) (by simp)
    simp at y0 y1 y2 y3 y4 y5 y6
    go_wp2_with fail
    obtain ⟨b6', k6⟩ := store7 Bz (.int .i64 Hh1) (.slice A01 n01 c01) (.slice A11 n11 c11) (.slice A21 n21 c21) (.slice A31 n31 c31) (.int .i64 day1) (.slice A41 n41 c41)
    have hO6 := HO3.out.out k6 (by omega)
    have hE6 := k6.ext (HE.out.trans HE3.out) (by omega)
    generalize (((((((w3.setCell ⟨w.heap.size + 1 + 1, 0, none⟩ (.int .i64 Hh1)).setCell ⟨w.heap.size + 1 + 1, 1, none⟩ (.slice A01 n01 c01)).setCell ⟨w.heap.size + 1 + 1, 2, none⟩ (.slice A11 n11 c11)).setCell ⟨w.heap.size + 1 + 1, 3, none⟩ (.slice A21 n21 c21)).setCell ⟨w.heap.size + 1 + 1, 4, none⟩ (.slice A31 n31 c31)).setCell ⟨w.heap.size + 1 + 1, 5, none⟩ (.int .i64 day1)).setCell ⟨w.heap.size + 1 + 1, 6, none⟩ (.slice A41 n41 c41)) = w9 at b6' k6 hO6 hE6 ⊢
    have t0 := b6'.cellAt (i := 0) (by simp)
    have t1 := b6'.cellAt (i := 1) (by simp)
    have t2 := b6'.cellAt (i := 2) (by simp)
    have t3 := b6'.cellAt (i := 3) (by simp)
    have t4 := b6'.cellAt (i := 4) (by simp)
    have t5 := b6'.cellAt (i := 5) (by simp)
    have t6 := b6'.cellAt (i := 6) (by simp)
    simp at t0 t1 t2 t3 t4 t5 t6
    refine bodyPost_ret (v := .tuple #[MV.val ⟨Hh1, ⟨A01, n01, c01⟩, ⟨A11, n11, c11⟩, ⟨A21, n21, c21⟩, ⟨A31, n31, c31⟩, day1, ⟨A41, n41, c41⟩⟩, .int .i64 (-1)]) (by simp [results, Tryz.results11, go_sem, t0, t1, t2, t3, t4, t5, t6, MV.val, MV.cells]) rfl ?_
    exact ⟨_, (by rw [HF.out]), hE6, by rw [HM.out]; exact hO6.weak (by omega)⟩
  obtain ⟨b0, b1, b2, b3, b4, b5, b6⟩ := (HB.out.keep HE3.out).cell
  have hbm := HBm.out.keep HE3.out
  have q0 := hbm.cellAt (i := 0) (by simp)
  have q1 := hbm.cellAt (i := 1) (by simp)
  have q2 := hbm.cellAt (i := 2) (by simp)
  have q3 := hbm.cellAt (i := 3) (by simp)
  have q4 := hbm.cellAt (i := 4) (by simp)
  simp only at b0 b1 b2 b3 b4 b5 b6
  simp at q0 q1 q2 q3 q4
  go_wp2_with (go_at_call 43; refine (fun h : Hid _ => h.out) ?_)
  unfold Hid
  refine (CA.out w3).mono ?_
  rintro e w4 ⟨rfl, he4⟩
  have HE4 := Lib.hid (HE3.out.trans he4)
  have HO4 := Lib.hid (HO3.out.keep he4)
  have HB64 := Lib.hid (HB63.out.keep he4)
  have hz4 : w3.heap.size ≤ w4.heap.size := he4.size
  clear he4
  clear hbm b0 b1 b2 b3 b4 b5 b6 q0 q1 q2 q3 q4
  cases hok : acOk a
  case false =>
    have hba := act_bad (a := a) (m := m) (by rw [hok]; simp)
    have HF := Lib.hid hba.1
    have HM := Lib.hid hba.2
    clear hm hok hba
    have Bz := Blk.keep HBz.out HE4.out
    have x0 := Bz.cellAt (i := 0) (by simp)
    have x1 := Bz.cellAt (i := 1) (by simp)
    have x2 := Bz.cellAt (i := 2) (by simp)
    have x3 := Bz.cellAt (i := 3) (by simp)
    have x4 := Bz.cellAt (i := 4) (by simp)
    have x5 := Bz.cellAt (i := 5) (by simp)
    have x6 := Bz.cellAt (i := 6) (by simp)
    have fz := Bz.free
    simp at x0 x1 x2 x3 x4 x5 x6
    have lz : w.heap.size + 1 + 1 < w4.heap.size := Bz.lt
    have y0 := HB64.out.cellAt (i := 0) (by simp)
    have y1 := HB64.out.cellAt (i := 1) (by simp)
    have y2 := HB64.out.cellAt (i := 2) (by simp)
    have y3 := HB64.out.cellAt (i := 3) (by simp)
    have y4 := HB64.out.cellAt (i := 4) (by simp)
    have y5 := HB64.out.cellAt (i := 5) (by simp)
    have y6 := HB64.out.cellAt (i := 6) (by simp)
    simp at y0 y1 y2 y3 y4 y5 y6
    go_wp2_with fail
    obtain ⟨b6', k6⟩ := store7 Bz (.int .i64 Hh1) (.slice A01 n01 c01) (.slice A11 n11 c11) (.slice A21 n21 c21) (.slice A31 n31 c31) (.int .i64 day1) (.slice A41 n41 c41)
    have hO6 := HO4.out.out k6 (by omega)
    have hE6 := k6.ext (HE.out.trans HE4.out) (by omega)
    generalize (((((((w4.setCell ⟨w.heap.size + 1 + 1, 0, none⟩ (.int .i64 Hh1)).setCell ⟨w.heap.size + 1 + 1, 1, none⟩ (.slice A01 n01 c01)).setCell ⟨w.heap.size + 1 + 1, 2, none⟩ (.slice A11 n11 c11)).setCell ⟨w.heap.size + 1 + 1, 3, none⟩ (.slice A21 n21 c21)).setCell ⟨w.heap.size + 1 + 1, 4, none⟩ (.slice A31 n31 c31)).setCell ⟨w.heap.size + 1 + 1, 5, none⟩ (.int .i64 day1)).setCell ⟨w.heap.size + 1 + 1, 6, none⟩ (.slice A41 n41 c41)) = w9 at b6' k6 hO6 hE6 ⊢
    have t0 := b6'.cellAt (i := 0) (by simp)
    have t1 := b6'.cellAt (i := 1) (by simp)
    have t2 := b6'.cellAt (i := 2) (by simp)
    have t3 := b6'.cellAt (i := 3) (by simp)
    have t4 := b6'.cellAt (i := 4) (by simp)
    have t5 := b6'.cellAt (i := 5) (by simp)
    have t6 := b6'.cellAt (i := 6) (by simp)
    simp at t0 t1 t2 t3 t4 t5 t6
    refine bodyPost_ret (v := .tuple #[MV.val ⟨Hh1, ⟨A01, n01, c01⟩, ⟨A11, n11, c11⟩, ⟨A21, n21, c21⟩, ⟨A31, n31, c31⟩, day1, ⟨A41, n41, c41⟩⟩, .int .i64 (-1)]) (by simp [results, Tryz.results11, go_sem, t0, t1, t2, t3, t4, t5, t6, MV.val, MV.cells]) rfl ?_
    exact ⟨_, (by rw [HF.out]), hE6, by rw [HM.out]; exact hO6.weak (by omega)⟩
  rcases (ac_cases hok).1 with hk | hk | hk | hk | hk
  · have hka := act1 hm hok hk
    rw [← HGV.out] at hka
    have HF0 := Lib.hid hka.1
    have HM := Lib.hid hka.2
    have e1 : (a.k == 1) = true := by rw [hk]; rfl
    clear hm hok hk hka
    obtain ⟨b0, b1, b2, b3, b4, b5, b6⟩ := (HB.out.keep HE4.out).cell
    have hbm := HBm.out.keep HE4.out
    have q0 := hbm.cellAt (i := 0) (by simp)
    have q1 := hbm.cellAt (i := 1) (by simp)
    have q2 := hbm.cellAt (i := 2) (by simp)
    have q3 := hbm.cellAt (i := 3) (by simp)
    have q4 := hbm.cellAt (i := 4) (by simp)
    simp only at b0 b1 b2 b3 b4 b5 b6
    simp at q0 q1 q2 q3 q4
    go_wp2_with (go_at_call 20; refine (fun h : Hid _ => h.out) ?_)
    unfold Hid
    refine (CG.out w4 HE4.out).mono ?_
    rintro e w5 ⟨v2, hev, he5, ho5⟩
    obtain ⟨Hh2, ⟨A02, n02, c02⟩, ⟨A12, n12, c12⟩, ⟨A22, n22, c22⟩, ⟨A32, n32, c32⟩, day2, ⟨A42, n42, c42⟩⟩ := v2
    simp only [MV.val, MV.cells] at hev
    subst hev
    have hE5 := HE4.out.trans he5
    have hB5 := HB64.out.keep he5
    have hz5 : w4.heap.size ≤ w5.heap.size := he5.size
    clear he5
    clear hbm b0 b1 b2 b3 b4 b5 b6 q0 q1 q2 q3 q4
    have l5 := hB5.lt
    have f5 := hB5.free
    have HB5 := Lib.hid hB5
    have y0 := HB5.out.cellAt (i := 0) (by simp)
    have y1 := HB5.out.cellAt (i := 1) (by simp)
    have y2 := HB5.out.cellAt (i := 2) (by simp)
    have y3 := HB5.out.cellAt (i := 3) (by simp)
    have y4 := HB5.out.cellAt (i := 4) (by simp)
    have y5 := HB5.out.cellAt (i := 5) (by simp)
    have y6 := HB5.out.cellAt (i := 6) (by simp)
    simp at y0 y1 y2 y3 y4 y5 y6
    clear hB5
    go_upto_region 16 with fail
    obtain ⟨b7, k7⟩ := store7 HB5.out (.int .i64 Hh2) (.slice A02 n02 c02) (.slice A12 n12 c12) (.slice A22 n22 c22) (.slice A32 n32 c32) (.int .i64 day2) (.slice A42 n42 c42)
    have hO7 := ho5.out k7 (by omega)
    have hE7 := k7.ext hE5 hz2
    have hz7 := k7.size
    generalize (((((((w5.setCell ⟨w1.heap.size, 0, none⟩ (.int .i64 Hh2)).setCell ⟨w1.heap.size, 1, none⟩ (.slice A02 n02 c02)).setCell ⟨w1.heap.size, 2, none⟩ (.slice A12 n12 c12)).setCell ⟨w1.heap.size, 3, none⟩ (.slice A22 n22 c22)).setCell ⟨w1.heap.size, 4, none⟩ (.slice A32 n32 c32)).setCell ⟨w1.heap.size, 5, none⟩ (.int .i64 day2)).setCell ⟨w1.heap.size, 6, none⟩ (.slice A42 n42 c42)) = w7 at b7 k7 hO7 hE7 hz7 ⊢
    have HB7 := Lib.hid b7
    have HO7 := Lib.hid hO7
    have HE7 := Lib.hid hE7
    clear b7 k7 hO7 hE7 hE5 ho5 y0 y1 y2 y3 y4 y5 y6 f5 l5
    cases gv
    case false =>
      have HF : Hid (actN m a = 0) := HF0
      have Bz := Blk.keep HBz.out HE7.out
      have x0 := Bz.cellAt (i := 0) (by simp)
      have x1 := Bz.cellAt (i := 1) (by simp)
      have x2 := Bz.cellAt (i := 2) (by simp)
      have x3 := Bz.cellAt (i := 3) (by simp)
      have x4 := Bz.cellAt (i := 4) (by simp)
      have x5 := Bz.cellAt (i := 5) (by simp)
      have x6 := Bz.cellAt (i := 6) (by simp)
      have fz := Bz.free
      simp at x0 x1 x2 x3 x4 x5 x6
      have lz : w.heap.size + 1 + 1 < w7.heap.size := Bz.lt
      have y0 := HB7.out.cellAt (i := 0) (by simp)
      have y1 := HB7.out.cellAt (i := 1) (by simp)
      have y2 := HB7.out.cellAt (i := 2) (by simp)
      have y3 := HB7.out.cellAt (i := 3) (by simp)
      have y4 := HB7.out.cellAt (i := 4) (by simp)
      have y5 := HB7.out.cellAt (i := 5) (by simp)
      have y6 := HB7.out.cellAt (i := 6) (by simp)
      simp at y0 y1 y2 y3 y4 y5 y6
      go_wp2_with fail
      obtain ⟨b6', k6⟩ := store7 Bz (.int .i64 Hh2) (.slice A02 n02 c02) (.slice A12 n12 c12) (.slice A22 n22 c22) (.slice A32 n32 c32) (.int .i64 day2) (.slice A42 n42 c42)
      have hO6 := HO7.out.out k6 (by omega)
      have hE6 := k6.ext (HE.out.trans HE7.out) (by omega)
      generalize (((((((w7.setCell ⟨w.heap.size + 1 + 1, 0, none⟩ (.int .i64 Hh2)).setCell ⟨w.heap.size + 1 + 1, 1, none⟩ (.slice A02 n02 c02)).setCell ⟨w.heap.size + 1 + 1, 2, none⟩ (.slice A12 n12 c12)).setCell ⟨w.heap.size + 1 + 1, 3, none⟩ (.slice A22 n22 c22)).setCell ⟨w.heap.size + 1 + 1, 4, none⟩ (.slice A32 n32 c32)).setCell ⟨w.heap.size + 1 + 1, 5, none⟩ (.int .i64 day2)).setCell ⟨w.heap.size + 1 + 1, 6, none⟩ (.slice A42 n42 c42)) = w9 at b6' k6 hO6 hE6 ⊢
      have t0 := b6'.cellAt (i := 0) (by simp)
      have t1 := b6'.cellAt (i := 1) (by simp)
      have t2 := b6'.cellAt (i := 2) (by simp)
      have t3 := b6'.cellAt (i := 3) (by simp)
      have t4 := b6'.cellAt (i := 4) (by simp)
      have t5 := b6'.cellAt (i := 5) (by simp)
      have t6 := b6'.cellAt (i := 6) (by simp)
      simp at t0 t1 t2 t3 t4 t5 t6
      refine bodyPost_ret (v := .tuple #[MV.val ⟨Hh2, ⟨A02, n02, c02⟩, ⟨A12, n12, c12⟩, ⟨A22, n22, c22⟩, ⟨A32, n32, c32⟩, day2, ⟨A42, n42, c42⟩⟩, .int .i64 0]) (by simp [results, Tryz.results11, go_sem, t0, t1, t2, t3, t4, t5, t6, MV.val, MV.cells]) rfl ?_
      exact ⟨_, (by rw [HF.out]), hE6, by rw [HM.out]; exact hO6.weak (by omega)⟩
    case true =>
      have HF : Hid (actN m a = 1) := HF0
      have Bz := Blk.keep HBz.out HE7.out
      have x0 := Bz.cellAt (i := 0) (by simp)
      have x1 := Bz.cellAt (i := 1) (by simp)
      have x2 := Bz.cellAt (i := 2) (by simp)
      have x3 := Bz.cellAt (i := 3) (by simp)
      have x4 := Bz.cellAt (i := 4) (by simp)
      have x5 := Bz.cellAt (i := 5) (by simp)
      have x6 := Bz.cellAt (i := 6) (by simp)
      have fz := Bz.free
      simp at x0 x1 x2 x3 x4 x5 x6
      have lz : w.heap.size + 1 + 1 < w7.heap.size := Bz.lt
      have y0 := HB7.out.cellAt (i := 0) (by simp)
      have y1 := HB7.out.cellAt (i := 1) (by simp)
      have y2 := HB7.out.cellAt (i := 2) (by simp)
      have y3 := HB7.out.cellAt (i := 3) (by simp)
      have y4 := HB7.out.cellAt (i := 4) (by simp)
      have y5 := HB7.out.cellAt (i := 5) (by simp)
      have y6 := HB7.out.cellAt (i := 6) (by simp)
      simp at y0 y1 y2 y3 y4 y5 y6
      go_wp2_with fail
      obtain ⟨b6', k6⟩ := store7 Bz (.int .i64 Hh2) (.slice A02 n02 c02) (.slice A12 n12 c12) (.slice A22 n22 c22) (.slice A32 n32 c32) (.int .i64 day2) (.slice A42 n42 c42)
      have hO6 := HO7.out.out k6 (by omega)
      have hE6 := k6.ext (HE.out.trans HE7.out) (by omega)
      generalize (((((((w7.setCell ⟨w.heap.size + 1 + 1, 0, none⟩ (.int .i64 Hh2)).setCell ⟨w.heap.size + 1 + 1, 1, none⟩ (.slice A02 n02 c02)).setCell ⟨w.heap.size + 1 + 1, 2, none⟩ (.slice A12 n12 c12)).setCell ⟨w.heap.size + 1 + 1, 3, none⟩ (.slice A22 n22 c22)).setCell ⟨w.heap.size + 1 + 1, 4, none⟩ (.slice A32 n32 c32)).setCell ⟨w.heap.size + 1 + 1, 5, none⟩ (.int .i64 day2)).setCell ⟨w.heap.size + 1 + 1, 6, none⟩ (.slice A42 n42 c42)) = w9 at b6' k6 hO6 hE6 ⊢
      have t0 := b6'.cellAt (i := 0) (by simp)
      have t1 := b6'.cellAt (i := 1) (by simp)
      have t2 := b6'.cellAt (i := 2) (by simp)
      have t3 := b6'.cellAt (i := 3) (by simp)
      have t4 := b6'.cellAt (i := 4) (by simp)
      have t5 := b6'.cellAt (i := 5) (by simp)
      have t6 := b6'.cellAt (i := 6) (by simp)
      simp at t0 t1 t2 t3 t4 t5 t6
      refine bodyPost_ret (v := .tuple #[MV.val ⟨Hh2, ⟨A02, n02, c02⟩, ⟨A12, n12, c12⟩, ⟨A22, n22, c22⟩, ⟨A32, n32, c32⟩, day2, ⟨A42, n42, c42⟩⟩, .int .i64 1]) (by simp [results, Tryz.results11, go_sem, t0, t1, t2, t3, t4, t5, t6, MV.val, MV.cells]) rfl ?_
      exact ⟨_, (by rw [HF.out]), hE6, by rw [HM.out]; exact hO6.weak (by omega)⟩
  · have hka := act2 hm hok hk
    rw [← HNV.out] at hka
    have HF0 := Lib.hid hka.1
    have HM := Lib.hid hka.2
    have e1 : (a.k == 1) = false := by rw [hk]; rfl
    have e2 : (a.k == 2) = true := by rw [hk]; rfl
    clear hm hok hk hka
    obtain ⟨b0, b1, b2, b3, b4, b5, b6⟩ := (HB.out.keep HE4.out).cell
    have hbm := HBm.out.keep HE4.out
    have q0 := hbm.cellAt (i := 0) (by simp)
    have q1 := hbm.cellAt (i := 1) (by simp)
    have q2 := hbm.cellAt (i := 2) (by simp)
    have q3 := hbm.cellAt (i := 3) (by simp)
    have q4 := hbm.cellAt (i := 4) (by simp)
    simp only at b0 b1 b2 b3 b4 b5 b6
    simp at q0 q1 q2 q3 q4
    go_wp2_with (go_at_call 19; refine (fun h : Hid _ => h.out) ?_)
    unfold Hid
    refine (CN.out w4 HE4.out).mono ?_
    rintro e w5 ⟨v2, hev, he5, ho5⟩
    obtain ⟨Hh2, ⟨A02, n02, c02⟩, ⟨A12, n12, c12⟩, ⟨A22, n22, c22⟩, ⟨A32, n32, c32⟩, day2, ⟨A42, n42, c42⟩⟩ := v2
    simp only [MV.val, MV.cells] at hev
    subst hev
    have hE5 := HE4.out.trans he5
    have hB5 := HB64.out.keep he5
    have hz5 : w4.heap.size ≤ w5.heap.size := he5.size
    clear he5
    clear hbm b0 b1 b2 b3 b4 b5 b6 q0 q1 q2 q3 q4
    have l5 := hB5.lt
    have f5 := hB5.free
    have HB5 := Lib.hid hB5
    have y0 := HB5.out.cellAt (i := 0) (by simp)
    have y1 := HB5.out.cellAt (i := 1) (by simp)
    have y2 := HB5.out.cellAt (i := 2) (by simp)
    have y3 := HB5.out.cellAt (i := 3) (by simp)
    have y4 := HB5.out.cellAt (i := 4) (by simp)
    have y5 := HB5.out.cellAt (i := 5) (by simp)
    have y6 := HB5.out.cellAt (i := 6) (by simp)
    simp at y0 y1 y2 y3 y4 y5 y6
    clear hB5
    go_upto_region 16 with fail
    obtain ⟨b7, k7⟩ := store7 HB5.out (.int .i64 Hh2) (.slice A02 n02 c02) (.slice A12 n12 c12) (.slice A22 n22 c22) (.slice A32 n32 c32) (.int .i64 day2) (.slice A42 n42 c42)
    have hO7 := ho5.out k7 (by omega)
    have hE7 := k7.ext hE5 hz2
    have hz7 := k7.size
    generalize (((((((w5.setCell ⟨w1.heap.size, 0, none⟩ (.int .i64 Hh2)).setCell ⟨w1.heap.size, 1, none⟩ (.slice A02 n02 c02)).setCell ⟨w1.heap.size, 2, none⟩ (.slice A12 n12 c12)).setCell ⟨w1.heap.size, 3, none⟩ (.slice A22 n22 c22)).setCell ⟨w1.heap.size, 4, none⟩ (.slice A32 n32 c32)).setCell ⟨w1.heap.size, 5, none⟩ (.int .i64 day2)).setCell ⟨w1.heap.size, 6, none⟩ (.slice A42 n42 c42)) = w7 at b7 k7 hO7 hE7 hz7 ⊢
    have HB7 := Lib.hid b7
    have HO7 := Lib.hid hO7
    have HE7 := Lib.hid hE7
    clear b7 k7 hO7 hE7 hE5 ho5 y0 y1 y2 y3 y4 y5 y6 f5 l5
    cases nv
    case false =>
      have HF : Hid (actN m a = 0) := HF0
      have Bz := Blk.keep HBz.out HE7.out
      have x0 := Bz.cellAt (i := 0) (by simp)
      have x1 := Bz.cellAt (i := 1) (by simp)
      have x2 := Bz.cellAt (i := 2) (by simp)
      have x3 := Bz.cellAt (i := 3) (by simp)
      have x4 := Bz.cellAt (i := 4) (by simp)
      have x5 := Bz.cellAt (i := 5) (by simp)
      have x6 := Bz.cellAt (i := 6) (by simp)
      have fz := Bz.free
      simp at x0 x1 x2 x3 x4 x5 x6
      have lz : w.heap.size + 1 + 1 < w7.heap.size := Bz.lt
      have y0 := HB7.out.cellAt (i := 0) (by simp)
      have y1 := HB7.out.cellAt (i := 1) (by simp)
      have y2 := HB7.out.cellAt (i := 2) (by simp)
      have y3 := HB7.out.cellAt (i := 3) (by simp)
      have y4 := HB7.out.cellAt (i := 4) (by simp)
      have y5 := HB7.out.cellAt (i := 5) (by simp)
      have y6 := HB7.out.cellAt (i := 6) (by simp)
      simp at y0 y1 y2 y3 y4 y5 y6
      go_wp2_with fail
      obtain ⟨b6', k6⟩ := store7 Bz (.int .i64 Hh2) (.slice A02 n02 c02) (.slice A12 n12 c12) (.slice A22 n22 c22) (.slice A32 n32 c32) (.int .i64 day2) (.slice A42 n42 c42)
      have hO6 := HO7.out.out k6 (by omega)
      have hE6 := k6.ext (HE.out.trans HE7.out) (by omega)
      generalize (((((((w7.setCell ⟨w.heap.size + 1 + 1, 0, none⟩ (.int .i64 Hh2)).setCell ⟨w.heap.size + 1 + 1, 1, none⟩ (.slice A02 n02 c02)).setCell ⟨w.heap.size + 1 + 1, 2, none⟩ (.slice A12 n12 c12)).setCell ⟨w.heap.size + 1 + 1, 3, none⟩ (.slice A22 n22 c22)).setCell ⟨w.heap.size + 1 + 1, 4, none⟩ (.slice A32 n32 c32)).setCell ⟨w.heap.size + 1 + 1, 5, none⟩ (.int .i64 day2)).setCell ⟨w.heap.size + 1 + 1, 6, none⟩ (.slice A42 n42 c42)) = w9 at b6' k6 hO6 hE6 ⊢
      have t0 := b6'.cellAt (i := 0) (by simp)
      have t1 := b6'.cellAt (i := 1) (by simp)
      have t2 := b6'.cellAt (i := 2) (by simp)
      have t3 := b6'.cellAt (i := 3) (by simp)
      have t4 := b6'.cellAt (i := 4) (by simp)
      have t5 := b6'.cellAt (i := 5) (by simp)
      have t6 := b6'.cellAt (i := 6) (by simp)
      simp at t0 t1 t2 t3 t4 t5 t6
      refine bodyPost_ret (v := .tuple #[MV.val ⟨Hh2, ⟨A02, n02, c02⟩, ⟨A12, n12, c12⟩, ⟨A22, n22, c22⟩, ⟨A32, n32, c32⟩, day2, ⟨A42, n42, c42⟩⟩, .int .i64 0]) (by simp [results, Tryz.results11, go_sem, t0, t1, t2, t3, t4, t5, t6, MV.val, MV.cells]) rfl ?_
      exact ⟨_, (by rw [HF.out]), hE6, by rw [HM.out]; exact hO6.weak (by omega)⟩
    case true =>
      have HF : Hid (actN m a = 1) := HF0
      have Bz := Blk.keep HBz.out HE7.out
      have x0 := Bz.cellAt (i := 0) (by simp)
      have x1 := Bz.cellAt (i := 1) (by simp)
      have x2 := Bz.cellAt (i := 2) (by simp)
      have x3 := Bz.cellAt (i := 3) (by simp)
      have x4 := Bz.cellAt (i := 4) (by simp)
      have x5 := Bz.cellAt (i := 5) (by simp)
      have x6 := Bz.cellAt (i := 6) (by simp)
      have fz := Bz.free
      simp at x0 x1 x2 x3 x4 x5 x6
      have lz : w.heap.size + 1 + 1 < w7.heap.size := Bz.lt
      have y0 := HB7.out.cellAt (i := 0) (by simp)
      have y1 := HB7.out.cellAt (i := 1) (by simp)
      have y2 := HB7.out.cellAt (i := 2) (by simp)
      have y3 := HB7.out.cellAt (i := 3) (by simp)
      have y4 := HB7.out.cellAt (i := 4) (by simp)
      have y5 := HB7.out.cellAt (i := 5) (by simp)
      have y6 := HB7.out.cellAt (i := 6) (by simp)
      simp at y0 y1 y2 y3 y4 y5 y6
      go_wp2_with fail
      obtain ⟨b6', k6⟩ := store7 Bz (.int .i64 Hh2) (.slice A02 n02 c02) (.slice A12 n12 c12) (.slice A22 n22 c22) (.slice A32 n32 c32) (.int .i64 day2) (.slice A42 n42 c42)
      have hO6 := HO7.out.out k6 (by omega)
      have hE6 := k6.ext (HE.out.trans HE7.out) (by omega)
      generalize (((((((w7.setCell ⟨w.heap.size + 1 + 1, 0, none⟩ (.int .i64 Hh2)).setCell ⟨w.heap.size + 1 + 1, 1, none⟩ (.slice A02 n02 c02)).setCell ⟨w.heap.size + 1 + 1, 2, none⟩ (.slice A12 n12 c12)).setCell ⟨w.heap.size + 1 + 1, 3, none⟩ (.slice A22 n22 c22)).setCell ⟨w.heap.size + 1 + 1, 4, none⟩ (.slice A32 n32 c32)).setCell ⟨w.heap.size + 1 + 1, 5, none⟩ (.int .i64 day2)).setCell ⟨w.heap.size + 1 + 1, 6, none⟩ (.slice A42 n42 c42)) = w9 at b6' k6 hO6 hE6 ⊢
      have t0 := b6'.cellAt (i := 0) (by simp)
      have t1 := b6'.cellAt (i := 1) (by simp)
      have t2 := b6'.cellAt (i := 2) (by simp)
      have t3 := b6'.cellAt (i := 3) (by simp)
      have t4 := b6'.cellAt (i := 4) (by simp)
      have t5 := b6'.cellAt (i := 5) (by simp)
      have t6 := b6'.cellAt (i := 6) (by simp)
      simp at t0 t1 t2 t3 t4 t5 t6
      refine bodyPost_ret (v := .tuple #[MV.val ⟨Hh2, ⟨A02, n02, c02⟩, ⟨A12, n12, c12⟩, ⟨A22, n22, c22⟩, ⟨A32, n32, c32⟩, day2, ⟨A42, n42, c42⟩⟩, .int .i64 1]) (by simp [results, Tryz.results11, go_sem, t0, t1, t2, t3, t4, t5, t6, MV.val, MV.cells]) rfl ?_
      exact ⟨_, (by rw [HF.out]), hE6, by rw [HM.out]; exact hO6.weak (by omega)⟩
  · have hka := act3 hm hok hk
    rw [← HDV.out] at hka
    have HF0 := Lib.hid hka.1
    have HM := Lib.hid hka.2
    have e1 : (a.k == 1) = false := by rw [hk]; rfl
    have e2 : (a.k == 2) = false := by rw [hk]; rfl
    have e3 : (a.k == 3) = true := by rw [hk]; rfl
    clear hm hok hk hka
    obtain ⟨b0, b1, b2, b3, b4, b5, b6⟩ := (HB.out.keep HE4.out).cell
    have hbm := HBm.out.keep HE4.out
    have q0 := hbm.cellAt (i := 0) (by simp)
    have q1 := hbm.cellAt (i := 1) (by simp)
    have q2 := hbm.cellAt (i := 2) (by simp)
    have q3 := hbm.cellAt (i := 3) (by simp)
    have q4 := hbm.cellAt (i := 4) (by simp)
    simp only at b0 b1 b2 b3 b4 b5 b6
    simp at q0 q1 q2 q3 q4
    go_wp2_with (go_at_call 21; refine (fun h : Hid _ => h.out) ?_)
    unfold Hid
    refine (CD.out w4 HE4.out).mono ?_
    rintro e w5 ⟨v2, hev, he5, ho5⟩
    obtain ⟨Hh2, ⟨A02, n02, c02⟩, ⟨A12, n12, c12⟩, ⟨A22, n22, c22⟩, ⟨A32, n32, c32⟩, day2, ⟨A42, n42, c42⟩⟩ := v2
    simp only [MV.val, MV.cells] at hev
    subst hev
    have hE5 := HE4.out.trans he5
    have hB5 := HB64.out.keep he5
    have hz5 : w4.heap.size ≤ w5.heap.size := he5.size
    clear he5
    clear hbm b0 b1 b2 b3 b4 b5 b6 q0 q1 q2 q3 q4
    have l5 := hB5.lt
    have f5 := hB5.free
    have HB5 := Lib.hid hB5
    have y0 := HB5.out.cellAt (i := 0) (by simp)
    have y1 := HB5.out.cellAt (i := 1) (by simp)
    have y2 := HB5.out.cellAt (i := 2) (by simp)
    have y3 := HB5.out.cellAt (i := 3) (by simp)
    have y4 := HB5.out.cellAt (i := 4) (by simp)
    have y5 := HB5.out.cellAt (i := 5) (by simp)
    have y6 := HB5.out.cellAt (i := 6) (by simp)
    simp at y0 y1 y2 y3 y4 y5 y6
    clear hB5
    go_upto_region 16 with fail
    obtain ⟨b7, k7⟩ := store7 HB5.out (.int .i64 Hh2) (.slice A02 n02 c02) (.slice A12 n12 c12) (.slice A22 n22 c22) (.slice A32 n32 c32) (.int .i64 day2) (.slice A42 n42 c42)
    have hO7 := ho5.out k7 (by omega)
    have hE7 := k7.ext hE5 hz2
    have hz7 := k7.size
    generalize (((((((w5.setCell ⟨w1.heap.size, 0, none⟩ (.int .i64 Hh2)).setCell ⟨w1.heap.size, 1, none⟩ (.slice A02 n02 c02)).setCell ⟨w1.heap.size, 2, none⟩ (.slice A12 n12 c12)).setCell ⟨w1.heap.size, 3, none⟩ (.slice A22 n22 c22)).setCell ⟨w1.heap.size, 4, none⟩ (.slice A32 n32 c32)).setCell ⟨w1.heap.size, 5, none⟩ (.int .i64 day2)).setCell ⟨w1.heap.size, 6, none⟩ (.slice A42 n42 c42)) = w7 at b7 k7 hO7 hE7 hz7 ⊢
    have HB7 := Lib.hid b7
    have HO7 := Lib.hid hO7
    have HE7 := Lib.hid hE7
    clear b7 k7 hO7 hE7 hE5 ho5 y0 y1 y2 y3 y4 y5 y6 f5 l5
    cases dv
    case false =>
      have HF : Hid (actN m a = 0) := HF0
      have Bz := Blk.keep HBz.out HE7.out
      have x0 := Bz.cellAt (i := 0) (by simp)
      have x1 := Bz.cellAt (i := 1) (by simp)
      have x2 := Bz.cellAt (i := 2) (by simp)
      have x3 := Bz.cellAt (i := 3) (by simp)
      have x4 := Bz.cellAt (i := 4) (by simp)
      have x5 := Bz.cellAt (i := 5) (by simp)
      have x6 := Bz.cellAt (i := 6) (by simp)
      have fz := Bz.free
      simp at x0 x1 x2 x3 x4 x5 x6
      have lz : w.heap.size + 1 + 1 < w7.heap.size := Bz.lt
      have y0 := HB7.out.cellAt (i := 0) (by simp)
      have y1 := HB7.out.cellAt (i := 1) (by simp)
      have y2 := HB7.out.cellAt (i := 2) (by simp)
      have y3 := HB7.out.cellAt (i := 3) (by simp)
      have y4 := HB7.out.cellAt (i := 4) (by simp)
      have y5 := HB7.out.cellAt (i := 5) (by simp)
      have y6 := HB7.out.cellAt (i := 6) (by simp)
      simp at y0 y1 y2 y3 y4 y5 y6
      go_wp2_with fail
      obtain ⟨b6', k6⟩ := store7 Bz (.int .i64 Hh2) (.slice A02 n02 c02) (.slice A12 n12 c12) (.slice A22 n22 c22) (.slice A32 n32 c32) (.int .i64 day2) (.slice A42 n42 c42)
      have hO6 := HO7.out.out k6 (by omega)
      have hE6 := k6.ext (HE.out.trans HE7.out) (by omega)
      generalize (((((((w7.setCell ⟨w.heap.size + 1 + 1, 0, none⟩ (.int .i64 Hh2)).setCell ⟨w.heap.size + 1 + 1, 1, none⟩ (.slice A02 n02 c02)).setCell ⟨w.heap.size + 1 + 1, 2, none⟩ (.slice A12 n12 c12)).setCell ⟨w.heap.size + 1 + 1, 3, none⟩ (.slice A22 n22 c22)).setCell ⟨w.heap.size + 1 + 1, 4, none⟩ (.slice A32 n32 c32)).setCell ⟨w.heap.size + 1 + 1, 5, none⟩ (.int .i64 day2)).setCell ⟨w.heap.size + 1 + 1, 6, none⟩ (.slice A42 n42 c42)) = w9 at b6' k6 hO6 hE6 ⊢
      have t0 := b6'.cellAt (i := 0) (by simp)
      have t1 := b6'.cellAt (i := 1) (by simp)
      have t2 := b6'.cellAt (i := 2) (by simp)
      have t3 := b6'.cellAt (i := 3) (by simp)
      have t4 := b6'.cellAt (i := 4) (by simp)
      have t5 := b6'.cellAt (i := 5) (by simp)
      have t6 := b6'.cellAt (i := 6) (by simp)
      simp at t0 t1 t2 t3 t4 t5 t6
      refine bodyPost_ret (v := .tuple #[MV.val ⟨Hh2, ⟨A02, n02, c02⟩, ⟨A12, n12, c12⟩, ⟨A22, n22, c22⟩, ⟨A32, n32, c32⟩, day2, ⟨A42, n42, c42⟩⟩, .int .i64 0]) (by simp [results, Tryz.results11, go_sem, t0, t1, t2, t3, t4, t5, t6, MV.val, MV.cells]) rfl ?_
      exact ⟨_, (by rw [HF.out]), hE6, by rw [HM.out]; exact hO6.weak (by omega)⟩
    case true =>
      have HF : Hid (actN m a = 1) := HF0
      have Bz := Blk.keep HBz.out HE7.out
      have x0 := Bz.cellAt (i := 0) (by simp)
      have x1 := Bz.cellAt (i := 1) (by simp)
      have x2 := Bz.cellAt (i := 2) (by simp)
      have x3 := Bz.cellAt (i := 3) (by simp)
      have x4 := Bz.cellAt (i := 4) (by simp)
      have x5 := Bz.cellAt (i := 5) (by simp)
      have x6 := Bz.cellAt (i := 6) (by simp)
      have fz := Bz.free
      simp at x0 x1 x2 x3 x4 x5 x6
      have lz : w.heap.size + 1 + 1 < w7.heap.size := Bz.lt
      have y0 := HB7.out.cellAt (i := 0) (by simp)
      have y1 := HB7.out.cellAt (i := 1) (by simp)
      have y2 := HB7.out.cellAt (i := 2) (by simp)
      have y3 := HB7.out.cellAt (i := 3) (by simp)
      have y4 := HB7.out.cellAt (i := 4) (by simp)
      have y5 := HB7.out.cellAt (i := 5) (by simp)
      have y6 := HB7.out.cellAt (i := 6) (by simp)
      simp at y0 y1 y2 y3 y4 y5 y6
      go_wp2_with fail
      obtain ⟨b6', k6⟩ := store7 Bz (.int .i64 Hh2) (.slice A02 n02 c02) (.slice A12 n12 c12) (.slice A22 n22 c22) (.slice A32 n32 c32) (.int .i64 day2) (.slice A42 n42 c42)
      have hO6 := HO7.out.out k6 (by omega)
      have hE6 := k6.ext (HE.out.trans HE7.out) (by omega)
      generalize (((((((w7.setCell ⟨w.heap.size + 1 + 1, 0, none⟩ (.int .i64 Hh2)).setCell ⟨w.heap.size + 1 + 1, 1, none⟩ (.slice A02 n02 c02)).setCell ⟨w.heap.size + 1 + 1, 2, none⟩ (.slice A12 n12 c12)).setCell ⟨w.heap.size + 1 + 1, 3, none⟩ (.slice A22 n22 c22)).setCell ⟨w.heap.size + 1 + 1, 4, none⟩ (.slice A32 n32 c32)).setCell ⟨w.heap.size + 1 + 1, 5, none⟩ (.int .i64 day2)).setCell ⟨w.heap.size + 1 + 1, 6, none⟩ (.slice A42 n42 c42)) = w9 at b6' k6 hO6 hE6 ⊢
      have t0 := b6'.cellAt (i := 0) (by simp)
      have t1 := b6'.cellAt (i := 1) (by simp)
      have t2 := b6'.cellAt (i := 2) (by simp)
      have t3 := b6'.cellAt (i := 3) (by simp)
      have t4 := b6'.cellAt (i := 4) (by simp)
      have t5 := b6'.cellAt (i := 5) (by simp)
      have t6 := b6'.cellAt (i := 6) (by simp)
      simp at t0 t1 t2 t3 t4 t5 t6
      refine bodyPost_ret (v := .tuple #[MV.val ⟨Hh2, ⟨A02, n02, c02⟩, ⟨A12, n12, c12⟩, ⟨A22, n22, c22⟩, ⟨A32, n32, c32⟩, day2, ⟨A42, n42, c42⟩⟩, .int .i64 1]) (by simp [results, Tryz.results11, go_sem, t0, t1, t2, t3, t4, t5, t6, MV.val, MV.cells]) rfl ?_
      exact ⟨_, (by rw [HF.out]), hE6, by rw [HM.out]; exact hO6.weak (by omega)⟩
  · have hka := act4 hm hok hk
    rw [← HAV.out] at hka
    have HF0 := Lib.hid hka.1
    have HM := Lib.hid hka.2
    have e1 : (a.k == 1) = false := by rw [hk]; rfl
    have e2 : (a.k == 2) = false := by rw [hk]; rfl
    have e3 : (a.k == 3) = false := by rw [hk]; rfl
    have e4 : (a.k == 4) = true := by rw [hk]; rfl
    clear hm hok hk hka
    obtain ⟨b0, b1, b2, b3, b4, b5, b6⟩ := (HB.out.keep HE4.out).cell
    have hbm := HBm.out.keep HE4.out
    have q0 := hbm.cellAt (i := 0) (by simp)
    have q1 := hbm.cellAt (i := 1) (by simp)
    have q2 := hbm.cellAt (i := 2) (by simp)
    have q3 := hbm.cellAt (i := 3) (by simp)
    have q4 := hbm.cellAt (i := 4) (by simp)
    simp only at b0 b1 b2 b3 b4 b5 b6
    simp at q0 q1 q2 q3 q4
    go_wp2_with (go_at_call 15; refine (fun h : Hid _ => h.out) ?_)
    unfold Hid
    refine (CU.out w4 HE4.out).mono ?_
    rintro e w5 ⟨rfl, he5⟩
    have HE5 := Lib.hid (HE4.out.trans he5)
    have HB5 := Lib.hid (HB64.out.keep he5)
    have HO5 := Lib.hid (HO4.out.keep he5)
    have hz5 : w4.heap.size ≤ w5.heap.size := he5.size
    clear he5
    clear hbm b0 b1 b2 b3 b4 b5 b6 q0 q1 q2 q3 q4
    cases av
    case false =>
      have HF : Hid (actN m a = 0) := HF0
      have Bz := Blk.keep HBz.out HE5.out
      have x0 := Bz.cellAt (i := 0) (by simp)
      have x1 := Bz.cellAt (i := 1) (by simp)
      have x2 := Bz.cellAt (i := 2) (by simp)
      have x3 := Bz.cellAt (i := 3) (by simp)
      have x4 := Bz.cellAt (i := 4) (by simp)
      have x5 := Bz.cellAt (i := 5) (by simp)
      have x6 := Bz.cellAt (i := 6) (by simp)
      have fz := Bz.free
      simp at x0 x1 x2 x3 x4 x5 x6
      have lz : w.heap.size + 1 + 1 < w5.heap.size := Bz.lt
      have y0 := HB5.out.cellAt (i := 0) (by simp)
      have y1 := HB5.out.cellAt (i := 1) (by simp)
      have y2 := HB5.out.cellAt (i := 2) (by simp)
      have y3 := HB5.out.cellAt (i := 3) (by simp)
      have y4 := HB5.out.cellAt (i := 4) (by simp)
      have y5 := HB5.out.cellAt (i := 5) (by simp)
      have y6 := HB5.out.cellAt (i := 6) (by simp)
      simp at y0 y1 y2 y3 y4 y5 y6
      go_wp2_with fail
      obtain ⟨b6', k6⟩ := store7 Bz (.int .i64 Hh1) (.slice A01 n01 c01) (.slice A11 n11 c11) (.slice A21 n21 c21) (.slice A31 n31 c31) (.int .i64 day1) (.slice A41 n41 c41)
      have hO6 := HO5.out.out k6 (by omega)
      have hE6 := k6.ext (HE.out.trans HE5.out) (by omega)
      generalize (((((((w5.setCell ⟨w.heap.size + 1 + 1, 0, none⟩ (.int .i64 Hh1)).setCell ⟨w.heap.size + 1 + 1, 1, none⟩ (.slice A01 n01 c01)).setCell ⟨w.heap.size + 1 + 1, 2, none⟩ (.slice A11 n11 c11)).setCell ⟨w.heap.size + 1 + 1, 3, none⟩ (.slice A21 n21 c21)).setCell ⟨w.heap.size + 1 + 1, 4, none⟩ (.slice A31 n31 c31)).setCell ⟨w.heap.size + 1 + 1, 5, none⟩ (.int .i64 day1)).setCell ⟨w.heap.size + 1 + 1, 6, none⟩ (.slice A41 n41 c41)) = w9 at b6' k6 hO6 hE6 ⊢
      have t0 := b6'.cellAt (i := 0) (by simp)
      have t1 := b6'.cellAt (i := 1) (by simp)
      have t2 := b6'.cellAt (i := 2) (by simp)
      have t3 := b6'.cellAt (i := 3) (by simp)
      have t4 := b6'.cellAt (i := 4) (by simp)
      have t5 := b6'.cellAt (i := 5) (by simp)
      have t6 := b6'.cellAt (i := 6) (by simp)
      simp at t0 t1 t2 t3 t4 t5 t6
      refine bodyPost_ret (v := .tuple #[MV.val ⟨Hh1, ⟨A01, n01, c01⟩, ⟨A11, n11, c11⟩, ⟨A21, n21, c21⟩, ⟨A31, n31, c31⟩, day1, ⟨A41, n41, c41⟩⟩, .int .i64 0]) (by simp [results, Tryz.results11, go_sem, t0, t1, t2, t3, t4, t5, t6, MV.val, MV.cells]) rfl ?_
      exact ⟨_, (by rw [HF.out]), hE6, by rw [HM.out]; exact hO6.weak (by omega)⟩
    case true =>
      have HF : Hid (actN m a = 1) := HF0
      have Bz := Blk.keep HBz.out HE5.out
      have x0 := Bz.cellAt (i := 0) (by simp)
      have x1 := Bz.cellAt (i := 1) (by simp)
      have x2 := Bz.cellAt (i := 2) (by simp)
      have x3 := Bz.cellAt (i := 3) (by simp)
      have x4 := Bz.cellAt (i := 4) (by simp)
      have x5 := Bz.cellAt (i := 5) (by simp)
      have x6 := Bz.cellAt (i := 6) (by simp)
      have fz := Bz.free
      simp at x0 x1 x2 x3 x4 x5 x6
      have lz : w.heap.size + 1 + 1 < w5.heap.size := Bz.lt
      have y0 := HB5.out.cellAt (i := 0) (by simp)
      have y1 := HB5.out.cellAt (i := 1) (by simp)
      have y2 := HB5.out.cellAt (i := 2) (by simp)
      have y3 := HB5.out.cellAt (i := 3) (by simp)
      have y4 := HB5.out.cellAt (i := 4) (by simp)
      have y5 := HB5.out.cellAt (i := 5) (by simp)
      have y6 := HB5.out.cellAt (i := 6) (by simp)
      simp at y0 y1 y2 y3 y4 y5 y6
      go_wp2_with fail
      obtain ⟨b6', k6⟩ := store7 Bz (.int .i64 Hh1) (.slice A01 n01 c01) (.slice A11 n11 c11) (.slice A21 n21 c21) (.slice A31 n31 c31) (.int .i64 day1) (.slice A41 n41 c41)
      have hO6 := HO5.out.out k6 (by omega)
      have hE6 := k6.ext (HE.out.trans HE5.out) (by omega)
      generalize (((((((w5.setCell ⟨w.heap.size + 1 + 1, 0, none⟩ (.int .i64 Hh1)).setCell ⟨w.heap.size + 1 + 1, 1, none⟩ (.slice A01 n01 c01)).setCell ⟨w.heap.size + 1 + 1, 2, none⟩ (.slice A11 n11 c11)).setCell ⟨w.heap.size + 1 + 1, 3, none⟩ (.slice A21 n21 c21)).setCell ⟨w.heap.size + 1 + 1, 4, none⟩ (.slice A31 n31 c31)).setCell ⟨w.heap.size + 1 + 1, 5, none⟩ (.int .i64 day1)).setCell ⟨w.heap.size + 1 + 1, 6, none⟩ (.slice A41 n41 c41)) = w9 at b6' k6 hO6 hE6 ⊢
      have t0 := b6'.cellAt (i := 0) (by simp)
      have t1 := b6'.cellAt (i := 1) (by simp)
      have t2 := b6'.cellAt (i := 2) (by simp)
      have t3 := b6'.cellAt (i := 3) (by simp)
      have t4 := b6'.cellAt (i := 4) (by simp)
      have t5 := b6'.cellAt (i := 5) (by simp)
      have t6 := b6'.cellAt (i := 6) (by simp)
      simp at t0 t1 t2 t3 t4 t5 t6
      refine bodyPost_ret (v := .tuple #[MV.val ⟨Hh1, ⟨A01, n01, c01⟩, ⟨A11, n11, c11⟩, ⟨A21, n21, c21⟩, ⟨A31, n31, c31⟩, day1, ⟨A41, n41, c41⟩⟩, .int .i64 1]) (by simp [results, Tryz.results11, go_sem, t0, t1, t2, t3, t4, t5, t6, MV.val, MV.cells]) rfl ?_
      exact ⟨_, (by rw [HF.out]), hE6, by rw [HM.out]; exact hO6.weak (by omega)⟩
  · have hka := act5 hm hok hk
    have ha0 := ac5_a hok
    have HM := Lib.hid hka.2
    have HFA := Lib.hid hka.1
    have e1 : (a.k == 1) = false := by rw [hk]; rfl
    have e2 : (a.k == 2) = false := by rw [hk]; rfl
    have e3 : (a.k == 3) = false := by rw [hk]; rfl
    have e4 : (a.k == 4) = false := by rw [hk]; rfl
    have e5 : (a.k == 5) = true := by rw [hk]; rfl
    clear hm hok hk hka
    obtain ⟨b0, b1, b2, b3, b4, b5, b6⟩ := (HB.out.keep HE4.out).cell
    have hbm := HBm.out.keep HE4.out
    have q0 := hbm.cellAt (i := 0) (by simp)
    have q1 := hbm.cellAt (i := 1) (by simp)
    have q2 := hbm.cellAt (i := 2) (by simp)
    have q3 := hbm.cellAt (i := 3) (by simp)
    have q4 := hbm.cellAt (i := 4) (by simp)
    simp only at b0 b1 b2 b3 b4 b5 b6
    simp at q0 q1 q2 q3 q4
    by_cases hlt : a.a < m.ps.length
    case neg =>
      have HF : Hid (actN m a = -1) := Lib.hid (by rw [HFA.out, if_neg hlt])
      have hge : (n2 : Int) ≤ a.a := by (have := hlp.out; omega)
      clear hlt
      have Bz := Blk.keep HBz.out HE4.out
      have x0 := Bz.cellAt (i := 0) (by simp)
      have x1 := Bz.cellAt (i := 1) (by simp)
      have x2 := Bz.cellAt (i := 2) (by simp)
      have x3 := Bz.cellAt (i := 3) (by simp)
      have x4 := Bz.cellAt (i := 4) (by simp)
      have x5 := Bz.cellAt (i := 5) (by simp)
      have x6 := Bz.cellAt (i := 6) (by simp)
      have fz := Bz.free
      simp at x0 x1 x2 x3 x4 x5 x6
      have lz : w.heap.size + 1 + 1 < w4.heap.size := Bz.lt
      have y0 := HB64.out.cellAt (i := 0) (by simp)
      have y1 := HB64.out.cellAt (i := 1) (by simp)
      have y2 := HB64.out.cellAt (i := 2) (by simp)
      have y3 := HB64.out.cellAt (i := 3) (by simp)
      have y4 := HB64.out.cellAt (i := 4) (by simp)
      have y5 := HB64.out.cellAt (i := 5) (by simp)
      have y6 := HB64.out.cellAt (i := 6) (by simp)
      simp at y0 y1 y2 y3 y4 y5 y6
      go_wp2_with fail
      obtain ⟨b6', k6⟩ := store7 Bz (.int .i64 Hh1) (.slice A01 n01 c01) (.slice A11 n11 c11) (.slice A21 n21 c21) (.slice A31 n31 c31) (.int .i64 day1) (.slice A41 n41 c41)
      have hO6 := HO4.out.out k6 (by omega)
      have hE6 := k6.ext (HE.out.trans HE4.out) (by omega)
      generalize (((((((w4.setCell ⟨w.heap.size + 1 + 1, 0, none⟩ (.int .i64 Hh1)).setCell ⟨w.heap.size + 1 + 1, 1, none⟩ (.slice A01 n01 c01)).setCell ⟨w.heap.size + 1 + 1, 2, none⟩ (.slice A11 n11 c11)).setCell ⟨w.heap.size + 1 + 1, 3, none⟩ (.slice A21 n21 c21)).setCell ⟨w.heap.size + 1 + 1, 4, none⟩ (.slice A31 n31 c31)).setCell ⟨w.heap.size + 1 + 1, 5, none⟩ (.int .i64 day1)).setCell ⟨w.heap.size + 1 + 1, 6, none⟩ (.slice A41 n41 c41)) = w9 at b6' k6 hO6 hE6 ⊢
      have t0 := b6'.cellAt (i := 0) (by simp)
      have t1 := b6'.cellAt (i := 1) (by simp)
      have t2 := b6'.cellAt (i := 2) (by simp)
      have t3 := b6'.cellAt (i := 3) (by simp)
      have t4 := b6'.cellAt (i := 4) (by simp)
      have t5 := b6'.cellAt (i := 5) (by simp)
      have t6 := b6'.cellAt (i := 6) (by simp)
      simp at t0 t1 t2 t3 t4 t5 t6
      refine bodyPost_ret (v := .tuple #[MV.val ⟨Hh1, ⟨A01, n01, c01⟩, ⟨A11, n11, c11⟩, ⟨A21, n21, c21⟩, ⟨A31, n31, c31⟩, day1, ⟨A41, n41, c41⟩⟩, .int .i64 (-1)]) (by simp [results, Tryz.results11, go_sem, t0, t1, t2, t3, t4, t5, t6, MV.val, MV.cells]) rfl ?_
      exact ⟨_, (by rw [HF.out]), hE6, by rw [HM.out]; exact hO6.weak (by omega)⟩
    obtain ⟨j, hj⟩ := Int.eq_ofNat_of_zero_le ha0
    have hj2 : j < n2 := by (have := hlp.out; omega)
    obtain ⟨bp, op, p, hA2, hbp, hpk, r00⟩ := ienc_at hrw.out hj2
    have r0 := ((HE.out.trans HE4.out).cellAt bp hbp (op + j)).trans r00
    clear r00
    have HF : Hid (actN m a = p) := Lib.hid (by rw [HFA.out, if_pos hlt, hj]; simp [hpk])
    have hge : ¬ (n2 : Int) ≤ a.a := by omega
    have hge2 : a.a < (n2 : Int) := by omega
    rw [hj] at q1 hge hge2
    have HJ := Lib.hid hj
    subst hA2
    clear hlt hpk hj
    have Bz := Blk.keep HBz.out HE4.out
    have x0 := Bz.cellAt (i := 0) (by simp)
    have x1 := Bz.cellAt (i := 1) (by simp)
    have x2 := Bz.cellAt (i := 2) (by simp)
    have x3 := Bz.cellAt (i := 3) (by simp)
    have x4 := Bz.cellAt (i := 4) (by simp)
    have x5 := Bz.cellAt (i := 5) (by simp)
    have x6 := Bz.cellAt (i := 6) (by simp)
    have fz := Bz.free
    simp at x0 x1 x2 x3 x4 x5 x6
    have lz : w.heap.size + 1 + 1 < w4.heap.size := Bz.lt
    have y0 := HB64.out.cellAt (i := 0) (by simp)
    have y1 := HB64.out.cellAt (i := 1) (by simp)
    have y2 := HB64.out.cellAt (i := 2) (by simp)
    have y3 := HB64.out.cellAt (i := 3) (by simp)
    have y4 := HB64.out.cellAt (i := 4) (by simp)
    have y5 := HB64.out.cellAt (i := 5) (by simp)
    have y6 := HB64.out.cellAt (i := 6) (by simp)
    simp at y0 y1 y2 y3 y4 y5 y6
    have hbpn : bp ≠ w.heap.size + 1 + 1 := by omega
    have hbpm : w.heap.size + 1 + 1 ≠ bp := by omega
    have hwn : w.heap.size + 1 + 1 ≠ w.heap.size := by omega
    have ne7 : w1.heap.size ≠ w.heap.size + 1 + 1 := by omega
    have ne8 : w.heap.size + 1 + 1 ≠ w1.heap.size := by omega
    go_upto_region 7 with fail
    go_region_held3 (fun w' => w'.cell? ⟨w1.heap.size, 0, none⟩ = some (.int .i64 Hh1) ∧ w'.cell? ⟨w1.heap.size, 1, none⟩ = some (.slice A01 n01 c01) ∧ w'.cell? ⟨w1.heap.size, 2, none⟩ = some (.slice A11 n11 c11) ∧ w'.cell? ⟨w1.heap.size, 3, none⟩ = some (.slice A21 n21 c21) ∧ w'.cell? ⟨w1.heap.size, 4, none⟩ = some (.slice A31 n31 c31) ∧ w'.cell? ⟨w1.heap.size, 5, none⟩ = some (.int .i64 day1) ∧ w'.cell? ⟨w1.heap.size, 6, none⟩ = some (.slice A41 n41 c41) ∧ w'.cell? ⟨w.heap.size, 3, none⟩ = some (.slice (some ⟨bp, op, none⟩) n2 c2) ∧ w'.cell? ⟨w.heap.size + 1, 1, none⟩ = some (.int .i64 (j : Int)) ∧ w'.cell? ⟨bp, op + j, none⟩ = some (.int .i64 p)) (go_keep) (fail)
    go_wp2_with fail
    obtain ⟨b6', k6⟩ := store7 Bz (.int .i64 Hh1) (.slice A01 n01 c01) (.slice A11 n11 c11) (.slice A21 n21 c21) (.slice A31 n31 c31) (.int .i64 day1) (.slice A41 n41 c41)
    have hO6 := HO4.out.out k6 (by omega)
    have hE6 := k6.ext (HE.out.trans HE4.out) (by omega)
    generalize (((((((w4.setCell ⟨w.heap.size + 1 + 1, 0, none⟩ (.int .i64 Hh1)).setCell ⟨w.heap.size + 1 + 1, 1, none⟩ (.slice A01 n01 c01)).setCell ⟨w.heap.size + 1 + 1, 2, none⟩ (.slice A11 n11 c11)).setCell ⟨w.heap.size + 1 + 1, 3, none⟩ (.slice A21 n21 c21)).setCell ⟨w.heap.size + 1 + 1, 4, none⟩ (.slice A31 n31 c31)).setCell ⟨w.heap.size + 1 + 1, 5, none⟩ (.int .i64 day1)).setCell ⟨w.heap.size + 1 + 1, 6, none⟩ (.slice A41 n41 c41)) = w9 at b6' k6 hO6 hE6 ⊢
    have t0 := b6'.cellAt (i := 0) (by simp)
    have t1 := b6'.cellAt (i := 1) (by simp)
    have t2 := b6'.cellAt (i := 2) (by simp)
    have t3 := b6'.cellAt (i := 3) (by simp)
    have t4 := b6'.cellAt (i := 4) (by simp)
    have t5 := b6'.cellAt (i := 5) (by simp)
    have t6 := b6'.cellAt (i := 6) (by simp)
    simp at t0 t1 t2 t3 t4 t5 t6
    refine bodyPost_ret (v := .tuple #[MV.val ⟨Hh1, ⟨A01, n01, c01⟩, ⟨A11, n11, c11⟩, ⟨A21, n21, c21⟩, ⟨A31, n31, c31⟩, day1, ⟨A41, n41, c41⟩⟩, .int .i64 p]) (by simp [results, Tryz.results11, go_sem, t0, t1, t2, t3, t4, t5, t6, MV.val, MV.cells]) rfl ?_
    exact ⟨_, (by rw [HF.out]), hE6.drew, by rw [HM.out]; exact (hO6.keep (Ext.refl _).drew).weak (by omega)⟩
end Go.Proofs.YtfmifllcbbfpoaaGreatDoor
