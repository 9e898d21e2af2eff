/- Contracts of SampleMuseum; no condition but what stands at each theorem. -/
import Derived.Test.YtkelmeemblmggaaSN7
namespace Go.Proofs.Ytkelmeemblmggaa
set_option linter.unusedSimpArgs false
set_option linter.unusedVariables false
open Go.RowKit Go.Sort
def sampleM : GMuseum := newM 4 [⟨0, 1⟩, ⟨0, 2⟩, ⟨1, 3⟩, ⟨2, 3⟩] [0, 0] [0, 0, 3]
theorem rd_blk {w : World} {g : Nat} {t : TypeId} {m n : Nat} {cur : Array Value} {L : List Value} (h : Blk w g t cur) (hs : cur.size = n * m) (hn : n ≤ maxLen) (hL : cur.toList.take (n * m) = L) : Rd w m (some ⟨g, 0, none⟩) n L :=
  Rd.of_own (own_of_blk (Nat.zero_le _) h hs hn hL)
set_option maxRecDepth 100000 in
set_option maxHeartbeats 4000000 in
theorem impl_SampleMuseum (w : World) : Calls Try.prog 8 #[] w (CopyPost sampleM w) := by
  obtain ⟨w1, hw1⟩ : ∃ w1, w1 = w.alloc (.cells #[.int .i64 0, .slice none 0 0, .slice none 0 0, .slice none 0 0, .slice none 0 0, .int .i64 0, .slice none 0 0] 28) := ⟨_, rfl⟩
  obtain ⟨w2, hw2⟩ : ∃ w2, w2 = w1.alloc (.cells #[.int .i64 0, .int .i64 1, .int .i64 0, .int .i64 2, .int .i64 1, .int .i64 3, .int .i64 2, .int .i64 3] 56) := ⟨_, rfl⟩
  obtain ⟨w3, hw3⟩ : ∃ w3, w3 = w2.alloc (.cells #[.int .i64 4, .slice (some ⟨w.heap.size + 1, 0, none⟩) 4 4] 24) := ⟨_, rfl⟩
  obtain ⟨w4, hw4⟩ : ∃ w4, w4 = w3.alloc (.cells #[.int .i64 0, .int .i64 0] 3) := ⟨_, rfl⟩
  obtain ⟨w5, hw5⟩ : ∃ w5, w5 = w4.alloc (.cells #[.int .i64 0, .int .i64 0, .int .i64 3] 3) := ⟨_, rfl⟩
  have s1 : w1.heap.size = w.heap.size + 1 := by rw [hw1]; simp
  have s2 : w2.heap.size = w.heap.size + 1 + 1 := by rw [hw2]; simp [s1]
  have s3 : w3.heap.size = w.heap.size + 1 + 1 + 1 := by rw [hw3]; simp [s2]
  have s4 : w4.heap.size = w.heap.size + 1 + 1 + 1 + 1 := by rw [hw4]; simp [s3]
  have s5 : w5.heap.size = w.heap.size + 1 + 1 + 1 + 1 + 1 := by rw [hw5]; simp [s4]
  have e1 : Ext w w1 := by rw [hw1]; exact (Ext.refl _).alloc _
  have e2 : Ext w1 w2 := by rw [hw2]; exact (Ext.refl _).alloc _
  have e3 : Ext w2 w3 := by rw [hw3]; exact (Ext.refl _).alloc _
  have e4 : Ext w3 w4 := by rw [hw4]; exact (Ext.refl _).alloc _
  have e5 : Ext w4 w5 := by rw [hw5]; exact (Ext.refl _).alloc _
  have bz : Blk w5 w.heap.size 28 #[.int .i64 0, .slice none 0 0, .slice none 0 0, .slice none 0 0, .slice none 0 0, .int .i64 0, .slice none 0 0] := by
    have h : Blk w1 w.heap.size 28 #[.int .i64 0, .slice none 0 0, .slice none 0 0, .slice none 0 0, .slice none 0 0, .int .i64 0, .slice none 0 0] := by rw [hw1]; exact Blk.new _ _ _
    exact h.keep (e2.trans (e3.trans (e4.trans e5)))
  have bd : Blk w5 (w.heap.size + 1) 56 #[.int .i64 0, .int .i64 1, .int .i64 0, .int .i64 2, .int .i64 1, .int .i64 3, .int .i64 2, .int .i64 3] := by
    have h : Blk w2 w1.heap.size 56 #[.int .i64 0, .int .i64 1, .int .i64 0, .int .i64 2, .int .i64 1, .int .i64 3, .int .i64 2, .int .i64 3] := by rw [hw2]; exact Blk.new _ _ _
    rw [s1] at h
    exact h.keep (e3.trans (e4.trans e5))
  have bf : Blk w5 (w.heap.size + 1 + 1 + 1) 3 #[.int .i64 0, .int .i64 0] := by
    have h : Blk w4 w3.heap.size 3 #[.int .i64 0, .int .i64 0] := by rw [hw4]; exact Blk.new _ _ _
    rw [s3] at h
    exact h.keep e5
  have bg : Blk w5 (w.heap.size + 1 + 1 + 1 + 1) 3 #[.int .i64 0, .int .i64 0, .int .i64 3] := by
    have h : Blk w5 w4.heap.size 3 #[.int .i64 0, .int .i64 0, .int .i64 3] := by rw [hw5]; exact Blk.new _ _ _
    rw [s4] at h
    exact h
  have cN := Lib.hid (impl_NewMuseum 4 (some ⟨w.heap.size + 1, 0, none⟩) 4 4 [⟨0, 1⟩, ⟨0, 2⟩, ⟨1, 3⟩, ⟨2, 3⟩] (some ⟨w.heap.size + 1 + 1 + 1, 0, none⟩) 2 2 [0, 0] (some ⟨w.heap.size + 1 + 1 + 1 + 1, 0, none⟩) 3 3 [0, 0, 3] w5
    (rd_blk bd rfl (by unfold maxLen; omega) rfl) (rd_blk bf rfl (by unfold maxLen; omega) rfl) (rd_blk bg rfl (by unfold maxLen; omega) rfl) (fun h => by cases h) (fun h => by cases h) (fun h => by cases h) (by omega) (by omega) (by omega))
  have HW5 : Hid (w5 = ((((w.alloc (.cells #[.int .i64 0, .slice none 0 0, .slice none 0 0, .slice none 0 0, .slice none 0 0, .int .i64 0, .slice none 0 0] 28)).alloc (.cells #[.int .i64 0, .int .i64 1, .int .i64 0, .int .i64 2, .int .i64 1, .int .i64 3, .int .i64 2, .int .i64 3] 56)).alloc (.cells #[.int .i64 4, .slice (some ⟨w.heap.size + 1, 0, none⟩) 4 4] 24)).alloc (.cells #[.int .i64 0, .int .i64 0] 3)).alloc (.cells #[.int .i64 0, .int .i64 0, .int .i64 3] 3)) := Lib.hid (by rw [hw5, hw4, hw3, hw2, hw1])
  have HE := Lib.hid (e1.trans (e2.trans (e3.trans (e4.trans e5))))
  have HBz := Lib.hid bz
  have hzl : w.heap.size < w5.heap.size := by omega
  clear hw1 hw2 hw3 hw4 hw5 s1 s2 s3 s4 s5 e1 e2 e3 e4 e5 bz bd bf bg
  go_enter Try.func8, Try.ntmps8
  go_wp2_with (go_at_call 16; refine (fun h : Hid _ => h.out) ?_)
  unfold Hid
  rw [← HW5.out]
  refine cN.out.mono ?_
  rintro e w6 ⟨v1, hev, he6, ho6⟩
  obtain ⟨H1, ⟨A01, n01, c01⟩, ⟨A11, n11, c11⟩, ⟨A21, n21, c21⟩, ⟨A31, n31, c31⟩, day1, ⟨A41, n41, c41⟩⟩ := v1
  simp only [MV.val, MV.cells] at hev
  subst hev
  have Bz := Blk.keep HBz.out he6
  have x0 := Bz.cellAt (i := 0) (by simp)
  have x1 := Bz.cellAt (i := 1) (by simp)
  have x2 := Bz.cellAt (i := 2) (by simp)
  have x3 := Bz.cellAt (i := 3) (by simp)
  have x4 := Bz.cellAt (i := 4) (by simp)
  have x5 := Bz.cellAt (i := 5) (by simp)
  have x6 := Bz.cellAt (i := 6) (by simp)
  have fz := Bz.free
  simp at x0 x1 x2 x3 x4 x5 x6
  have lz : w.heap.size < w6.heap.size := by have := he6.size; omega
  have HO6 := Lib.hid ho6
  have HE6 := Lib.hid (HE.out.trans he6)
  clear ho6 he6 cN
  go_wp2_with fail
  obtain ⟨b6, k6⟩ := store7 Bz (.int .i64 H1) (.slice A01 n01 c01) (.slice A11 n11 c11) (.slice A21 n21 c21) (.slice A31 n31 c31) (.int .i64 day1) (.slice A41 n41 c41)
  have hO5 := HO6.out.out k6 (by omega)
  have hE5 := k6.ext HE6.out (Nat.le_refl _)
  have hk7 : Ext ((((((((w6.setCell ⟨w.heap.size, 0, none⟩ (.int .i64 H1)).setCell ⟨w.heap.size, 1, none⟩ (.slice A01 n01 c01)).setCell ⟨w.heap.size, 2, none⟩ (.slice A11 n11 c11)).setCell ⟨w.heap.size, 3, none⟩ (.slice A21 n21 c21)).setCell ⟨w.heap.size, 4, none⟩ (.slice A31 n31 c31)).setCell ⟨w.heap.size, 5, none⟩ (.int .i64 day1)).setCell ⟨w.heap.size, 6, none⟩ (.slice A41 n41 c41))) (((((((((w6.setCell ⟨w.heap.size, 0, none⟩ (.int .i64 H1)).setCell ⟨w.heap.size, 1, none⟩ (.slice A01 n01 c01)).setCell ⟨w.heap.size, 2, none⟩ (.slice A11 n11 c11)).setCell ⟨w.heap.size, 3, none⟩ (.slice A21 n21 c21)).setCell ⟨w.heap.size, 4, none⟩ (.slice A31 n31 c31)).setCell ⟨w.heap.size, 5, none⟩ (.int .i64 day1)).setCell ⟨w.heap.size, 6, none⟩ (.slice A41 n41 c41))).alloc (.cells #[.int .i64 H1, .slice A01 n01 c01, .slice A11 n11 c11, .slice A21 n21 c21, .slice A31 n31 c31, .int .i64 day1, .slice A41 n41 c41] 28)) := (Ext.refl _).alloc _
  have b6' := b6.keep hk7
  have hO6 := hO5.keep hk7
  have hE6 := hE5.trans hk7
  clear b6 k6 hO5 hE5 hk7
  generalize ((((((((w6.setCell ⟨w.heap.size, 0, none⟩ (.int .i64 H1)).setCell ⟨w.heap.size, 1, none⟩ (.slice A01 n01 c01)).setCell ⟨w.heap.size, 2, none⟩ (.slice A11 n11 c11)).setCell ⟨w.heap.size, 3, none⟩ (.slice A21 n21 c21)).setCell ⟨w.heap.size, 4, none⟩ (.slice A31 n31 c31)).setCell ⟨w.heap.size, 5, none⟩ (.int .i64 day1)).setCell ⟨w.heap.size, 6, none⟩ (.slice A41 n41 c41))).alloc (.cells #[.int .i64 H1, .slice A01 n01 c01, .slice A11 n11 c11, .slice A21 n21 c21, .slice A31 n31 c31, .int .i64 day1, .slice A41 n41 c41] 28) = w9 at b6' hO6 hE6 ⊢
  have t0 := b6'.cellAt (i := 0) (by simp)
  have t1 := b6'.cellAt (i := 1) (by simp)
  have t2 := b6'.cellAt (i := 2) (by simp)
  have t3 := b6'.cellAt (i := 3) (by simp)
  have t4 := b6'.cellAt (i := 4) (by simp)
  have t5 := b6'.cellAt (i := 5) (by simp)
  have t6 := b6'.cellAt (i := 6) (by simp)
  simp at t0 t1 t2 t3 t4 t5 t6
  refine bodyPost_ret (v := MV.val ⟨H1, ⟨A01, n01, c01⟩, ⟨A11, n11, c11⟩, ⟨A21, n21, c21⟩, ⟨A31, n31, c31⟩, day1, ⟨A41, n41, c41⟩⟩) (by simp [results, Try.results8, go_sem, t0, t1, t2, t3, t4, t5, t6, MV.val, MV.cells]) rfl ?_
  exact ⟨_, rfl, hE6, hO6.weak (by omega)⟩
set_option maxRecDepth 100000 in
set_option maxHeartbeats 4000000 in
theorem spec_SampleMuseum (w : World) : Calls Try.prog 7 #[] w (CopyPost sampleM w) := by
  obtain ⟨w1, hw1⟩ : ∃ w1, w1 = w.alloc (.cells #[.int .i64 0, .slice none 0 0, .slice none 0 0, .slice none 0 0, .slice none 0 0, .int .i64 0, .slice none 0 0] 28) := ⟨_, rfl⟩
  obtain ⟨w2, hw2⟩ : ∃ w2, w2 = w1.alloc (.cells #[.int .i64 0, .int .i64 1, .int .i64 0, .int .i64 2, .int .i64 1, .int .i64 3, .int .i64 2, .int .i64 3] 56) := ⟨_, rfl⟩
  obtain ⟨w3, hw3⟩ : ∃ w3, w3 = w2.alloc (.cells #[.int .i64 4, .slice (some ⟨w.heap.size + 1, 0, none⟩) 4 4] 24) := ⟨_, rfl⟩
  obtain ⟨w4, hw4⟩ : ∃ w4, w4 = w3.alloc (.cells #[.int .i64 0, .int .i64 0] 3) := ⟨_, rfl⟩
  obtain ⟨w5, hw5⟩ : ∃ w5, w5 = w4.alloc (.cells #[.int .i64 0, .int .i64 0, .int .i64 3] 3) := ⟨_, rfl⟩
  have s1 : w1.heap.size = w.heap.size + 1 := by rw [hw1]; simp
  have s2 : w2.heap.size = w.heap.size + 1 + 1 := by rw [hw2]; simp [s1]
  have s3 : w3.heap.size = w.heap.size + 1 + 1 + 1 := by rw [hw3]; simp [s2]
  have s4 : w4.heap.size = w.heap.size + 1 + 1 + 1 + 1 := by rw [hw4]; simp [s3]
  have s5 : w5.heap.size = w.heap.size + 1 + 1 + 1 + 1 + 1 := by rw [hw5]; simp [s4]
  have e1 : Ext w w1 := by rw [hw1]; exact (Ext.refl _).alloc _
  have e2 : Ext w1 w2 := by rw [hw2]; exact (Ext.refl _).alloc _
  have e3 : Ext w2 w3 := by rw [hw3]; exact (Ext.refl _).alloc _
  have e4 : Ext w3 w4 := by rw [hw4]; exact (Ext.refl _).alloc _
  have e5 : Ext w4 w5 := by rw [hw5]; exact (Ext.refl _).alloc _
  have bz : Blk w5 w.heap.size 28 #[.int .i64 0, .slice none 0 0, .slice none 0 0, .slice none 0 0, .slice none 0 0, .int .i64 0, .slice none 0 0] := by
    have h : Blk w1 w.heap.size 28 #[.int .i64 0, .slice none 0 0, .slice none 0 0, .slice none 0 0, .slice none 0 0, .int .i64 0, .slice none 0 0] := by rw [hw1]; exact Blk.new _ _ _
    exact h.keep (e2.trans (e3.trans (e4.trans e5)))
  have bd : Blk w5 (w.heap.size + 1) 56 #[.int .i64 0, .int .i64 1, .int .i64 0, .int .i64 2, .int .i64 1, .int .i64 3, .int .i64 2, .int .i64 3] := by
    have h : Blk w2 w1.heap.size 56 #[.int .i64 0, .int .i64 1, .int .i64 0, .int .i64 2, .int .i64 1, .int .i64 3, .int .i64 2, .int .i64 3] := by rw [hw2]; exact Blk.new _ _ _
    rw [s1] at h
    exact h.keep (e3.trans (e4.trans e5))
  have bf : Blk w5 (w.heap.size + 1 + 1 + 1) 3 #[.int .i64 0, .int .i64 0] := by
    have h : Blk w4 w3.heap.size 3 #[.int .i64 0, .int .i64 0] := by rw [hw4]; exact Blk.new _ _ _
    rw [s3] at h
    exact h.keep e5
  have bg : Blk w5 (w.heap.size + 1 + 1 + 1 + 1) 3 #[.int .i64 0, .int .i64 0, .int .i64 3] := by
    have h : Blk w5 w4.heap.size 3 #[.int .i64 0, .int .i64 0, .int .i64 3] := by rw [hw5]; exact Blk.new _ _ _
    rw [s4] at h
    exact h
  have cN := Lib.hid (spec_NewMuseum 4 (some ⟨w.heap.size + 1, 0, none⟩) 4 4 [⟨0, 1⟩, ⟨0, 2⟩, ⟨1, 3⟩, ⟨2, 3⟩] (some ⟨w.heap.size + 1 + 1 + 1, 0, none⟩) 2 2 [0, 0] (some ⟨w.heap.size + 1 + 1 + 1 + 1, 0, none⟩) 3 3 [0, 0, 3] w5
    (rd_blk bd rfl (by unfold maxLen; omega) rfl) (rd_blk bf rfl (by unfold maxLen; omega) rfl) (rd_blk bg rfl (by unfold maxLen; omega) rfl) (fun h => by cases h) (fun h => by cases h) (fun h => by cases h) (by omega) (by omega) (by omega))
  have HW5 : Hid (w5 = ((((w.alloc (.cells #[.int .i64 0, .slice none 0 0, .slice none 0 0, .slice none 0 0, .slice none 0 0, .int .i64 0, .slice none 0 0] 28)).alloc (.cells #[.int .i64 0, .int .i64 1, .int .i64 0, .int .i64 2, .int .i64 1, .int .i64 3, .int .i64 2, .int .i64 3] 56)).alloc (.cells #[.int .i64 4, .slice (some ⟨w.heap.size + 1, 0, none⟩) 4 4] 24)).alloc (.cells #[.int .i64 0, .int .i64 0] 3)).alloc (.cells #[.int .i64 0, .int .i64 0, .int .i64 3] 3)) := Lib.hid (by rw [hw5, hw4, hw3, hw2, hw1])
  have HE := Lib.hid (e1.trans (e2.trans (e3.trans (e4.trans e5))))
  have HBz := Lib.hid bz
  have hzl : w.heap.size < w5.heap.size := by omega
  clear hw1 hw2 hw3 hw4 hw5 s1 s2 s3 s4 s5 e1 e2 e3 e4 e5 bz bd bf bg
  go_enter Try.func7, Try.ntmps7
  go_wp2_with (go_at_call 13; refine (fun h : Hid _ => h.out) ?_)
  unfold Hid
  rw [← HW5.out]
  refine cN.out.mono ?_
  rintro e w6 ⟨v1, hev, he6, ho6⟩
  obtain ⟨H1, ⟨A01, n01, c01⟩, ⟨A11, n11, c11⟩, ⟨A21, n21, c21⟩, ⟨A31, n31, c31⟩, day1, ⟨A41, n41, c41⟩⟩ := v1
  simp only [MV.val, MV.cells] at hev
  subst hev
  have Bz := Blk.keep HBz.out he6
  have x0 := Bz.cellAt (i := 0) (by simp)
  have x1 := Bz.cellAt (i := 1) (by simp)
  have x2 := Bz.cellAt (i := 2) (by simp)
  have x3 := Bz.cellAt (i := 3) (by simp)
  have x4 := Bz.cellAt (i := 4) (by simp)
  have x5 := Bz.cellAt (i := 5) (by simp)
  have x6 := Bz.cellAt (i := 6) (by simp)
  have fz := Bz.free
  simp at x0 x1 x2 x3 x4 x5 x6
  have lz : w.heap.size < w6.heap.size := by have := he6.size; omega
  have HO6 := Lib.hid ho6
  have HE6 := Lib.hid (HE.out.trans he6)
  clear ho6 he6 cN
  go_wp2_with fail
  obtain ⟨b6, k6⟩ := store7 Bz (.int .i64 H1) (.slice A01 n01 c01) (.slice A11 n11 c11) (.slice A21 n21 c21) (.slice A31 n31 c31) (.int .i64 day1) (.slice A41 n41 c41)
  have hO5 := HO6.out.out k6 (by omega)
  have hE5 := k6.ext HE6.out (Nat.le_refl _)
  have hk7 : Ext ((((((((w6.setCell ⟨w.heap.size, 0, none⟩ (.int .i64 H1)).setCell ⟨w.heap.size, 1, none⟩ (.slice A01 n01 c01)).setCell ⟨w.heap.size, 2, none⟩ (.slice A11 n11 c11)).setCell ⟨w.heap.size, 3, none⟩ (.slice A21 n21 c21)).setCell ⟨w.heap.size, 4, none⟩ (.slice A31 n31 c31)).setCell ⟨w.heap.size, 5, none⟩ (.int .i64 day1)).setCell ⟨w.heap.size, 6, none⟩ (.slice A41 n41 c41))) (((((((((w6.setCell ⟨w.heap.size, 0, none⟩ (.int .i64 H1)).setCell ⟨w.heap.size, 1, none⟩ (.slice A01 n01 c01)).setCell ⟨w.heap.size, 2, none⟩ (.slice A11 n11 c11)).setCell ⟨w.heap.size, 3, none⟩ (.slice A21 n21 c21)).setCell ⟨w.heap.size, 4, none⟩ (.slice A31 n31 c31)).setCell ⟨w.heap.size, 5, none⟩ (.int .i64 day1)).setCell ⟨w.heap.size, 6, none⟩ (.slice A41 n41 c41))).alloc (.cells #[.int .i64 H1, .slice A01 n01 c01, .slice A11 n11 c11, .slice A21 n21 c21, .slice A31 n31 c31, .int .i64 day1, .slice A41 n41 c41] 28)) := (Ext.refl _).alloc _
  have b6' := b6.keep hk7
  have hO6 := hO5.keep hk7
  have hE6 := hE5.trans hk7
  clear b6 k6 hO5 hE5 hk7
  generalize ((((((((w6.setCell ⟨w.heap.size, 0, none⟩ (.int .i64 H1)).setCell ⟨w.heap.size, 1, none⟩ (.slice A01 n01 c01)).setCell ⟨w.heap.size, 2, none⟩ (.slice A11 n11 c11)).setCell ⟨w.heap.size, 3, none⟩ (.slice A21 n21 c21)).setCell ⟨w.heap.size, 4, none⟩ (.slice A31 n31 c31)).setCell ⟨w.heap.size, 5, none⟩ (.int .i64 day1)).setCell ⟨w.heap.size, 6, none⟩ (.slice A41 n41 c41))).alloc (.cells #[.int .i64 H1, .slice A01 n01 c01, .slice A11 n11 c11, .slice A21 n21 c21, .slice A31 n31 c31, .int .i64 day1, .slice A41 n41 c41] 28) = w9 at b6' hO6 hE6 ⊢
  have t0 := b6'.cellAt (i := 0) (by simp)
  have t1 := b6'.cellAt (i := 1) (by simp)
  have t2 := b6'.cellAt (i := 2) (by simp)
  have t3 := b6'.cellAt (i := 3) (by simp)
  have t4 := b6'.cellAt (i := 4) (by simp)
  have t5 := b6'.cellAt (i := 5) (by simp)
  have t6 := b6'.cellAt (i := 6) (by simp)
  simp at t0 t1 t2 t3 t4 t5 t6
  refine bodyPost_ret (v := MV.val ⟨H1, ⟨A01, n01, c01⟩, ⟨A11, n11, c11⟩, ⟨A21, n21, c21⟩, ⟨A31, n31, c31⟩, day1, ⟨A41, n41, c41⟩⟩) (by simp [results, Try.results7, go_sem, t0, t1, t2, t3, t4, t5, t6, MV.val, MV.cells]) rfl ?_
  exact ⟨_, rfl, hE6, hO6.weak (by omega)⟩
end Go.Proofs.Ytkelmeemblmggaa
