/- Contracts of Repeat and Reverse of slices, of what they call; no condition but what stands at each theorem. -/
import Derived.Test.YtkelmeemblmggaaSHa
import Derived.Laws.CopyOwn
import Derived.Deep.RegionLaw
namespace Go.Proofs.Ytkelmeemblmggaa
set_option linter.unusedSimpArgs false
set_option linter.unusedVariables false
open Go.RowKit Go.Sort
set_option maxRecDepth 100000 in
set_option maxHeartbeats 2000000 in
theorem bits_Mul64 (h : Nat) (h1 : 1 ≤ h) (h7 : h ≤ 7) (w : World) : Calls Try.prog 84 #[.int .u64 1, .int .u64 (h : Int)] w fun e w' => e = .returned (.tuple #[.int .u64 0, .int .u64 (h : Int)]) ∧ w = w' := by
  have hc : h = 1 ∨ h = 2 ∨ h = 3 ∨ h = 4 ∨ h = 5 ∨ h = 6 ∨ h = 7 := by omega
  rcases hc with rfl | rfl | rfl | rfl | rfl | rfl | rfl
  all_goals
    go_enter Try.func84, Try.ntmps84
    go_wp2
    go_ret2
    exact ⟨rfl, rfl⟩
theorem bits_Mul (h : Nat) (h1 : 1 ≤ h) (h7 : h ≤ 7) (w : World) : Calls Try.prog 82 #[.int .u64 1, .int .u64 (h : Int)] w fun e w' => e = .returned (.tuple #[.int .u64 0, .int .u64 (h : Int)]) ∧ w = w' := by
  go_enter Try.func82, Try.ntmps82
  go_wp2_with (go_at_call 84; refine (bits_Mul64 h h1 h7 _).mono ?_; rintro e w1 ⟨rfl, rfl⟩)
  go_ret2
  exact ⟨rfl, rfl⟩
def filled (h k : Nat) : List Int := List.replicate k (-1) ++ List.replicate (h - k) 0
theorem filled_len {h k : Nat} (hk : k ≤ h) : (filled h k).length = h := by simp [filled]; omega
theorem filled_zero (h : Nat) : filled h 0 = List.replicate h 0 := by simp [filled]
theorem filled_all (h : Nat) : filled h h = List.replicate h (-1) := by simp [filled]
theorem filled_splice {h k m : Nat} (hk : k + m ≤ h) : splice ((filled h k).map (Value.int .i64)) k ((List.replicate m (-1 : Int)).map (Value.int .i64)) = (filled h (k + m)).map (Value.int .i64) := by
  unfold splice filled
  apply List.ext_getElem?
  intro j
  simp only [List.map_append, List.map_replicate, List.length_replicate]
  by_cases h1 : j < k
  · simp [List.getElem?_append, List.getElem?_take, List.getElem?_replicate, h1, show j < k + m by omega]
  · by_cases h2 : j < k + m
    · simp [List.getElem?_append, List.getElem?_take, List.getElem?_replicate, h1, h2, show j - k < m by omega, show min k (k + (h - k)) = k by omega]
    · simp [List.getElem?_append, List.getElem?_take, List.getElem?_drop, List.getElem?_replicate, h1, h2, show ¬ j - k < m by omega, show min k (k + (h - k)) = k by omega]
      by_cases h3 : j < h
      · simp [show ¬ (k + m + (j - k - m)) < k by omega, show (k + m + (j - k - m)) - k < h - k by omega, show j - (k + m) < h - (k + m) by omega]
      · simp [show ¬ (k + m + (j - k - m)) < k by omega, show ¬ (k + m + (j - k - m)) - k < h - k by omega, show ¬ j - (k + m) < h - (k + m) by omega]
set_option maxRecDepth 100000 in
set_option maxHeartbeats 2000000 in
theorem slices_Repeat (h : Nat) (h1 : 1 ≤ h) (h7 : h ≤ 7) (g0 c0 : Nat) (w : World) (hg : w.cell? ⟨g0, 0, none⟩ = some (.int .i64 (-1))) (hg0 : g0 < w.heap.size) :
    Calls Try.prog 80 #[.slice (some ⟨g0, 0, none⟩) 1 c0, .int .i64 (h : Int)] w fun e w' => e = .returned (.slice (some ⟨w.heap.size, 0, none⟩) h h) ∧ Ext w w' ∧ IBlk w' w.heap.size 3 (List.replicate h (-1)) := by
  obtain ⟨cl, hcl⟩ : ∃ cl, cl = (filled h 0).map (Value.int .i64) := ⟨_, rfl⟩
  have hmk := mk_int h (by omega)
  rw [← filled_zero, ← hcl] at hmk
  have hclen : cl.length = h := by rw [hcl]; simp [filled]
  have Hclen := Lib.hid hclen
  have HB0 := Lib.hid (Blk.new w 3 cl.toArray)
  have HE0 := Lib.hid ((Ext.refl w).alloc (.cells cl.toArray 3))
  have Hg := Lib.hid ((HE0.out.cellAt g0 hg0 0).trans hg)
  have hsp : splice cl 0 [.int .i64 (-1)] = (filled h 1).map (Value.int .i64) := by
    have := filled_splice (h := h) (k := 0) (m := 1) (by omega)
    rw [hcl]; exact this
  have HSp := Lib.hid hsp
  clear hcl hclen hsp
  have d0 : decide ((h : Int) < 0) = false := by simp
  have d1 : decide ((9223372036854775807 : Int) < (h : Int)) = false := by simp; omega
  go_enter Try.func80, Try.ntmps80
  go_wp2_with (first | (go_at_call 82; refine (bits_Mul h h1 h7 _).mono ?_; rintro e w1 ⟨rfl, rfl⟩) | (refine wpList_copy_splice rfl (.tmp 31) (.tmp 32) 25 25 rfl 3 Try.underlying25 (by kernel_rfl) _ _ h h 1 c0 (by rfl) (by rfl) w.heap.size 0 cl 3 HB0.out [.int .i64 (-1)] (by simp [Nat.min_eq_left h1]) (fun _ => ⟨rfl, ⟨g0, 0, none⟩, rfl, fun j v hv => by cases j with | zero => (rw [add_none, ← hv]; exact Hg.out) | succ j => simp at hv⟩) (by rw [Hclen.out]; simpa using h1) (by intro v hv; simp at hv; subst hv; rfl) w.heap.size w HE0.out (Nat.le_refl _) ?_; intro w2 hg2 hb2))
  have hb2' := hb2
  have hi2 : IBlk w2 w.heap.size 3 (filled h 1) := by
    have := hg2.out
    rw [HSp.out] at this
    exact this
  have HI2 := Lib.hid hi2
  have HE2 : Hid (Ext w w2) := hb2'
  clear hb2 hb2' hi2 hg2 hmk
  go_loopw [8] (fun i wr => ∃ k : Nat, 1 ≤ k ∧ k ≤ h ∧ i = .int .i64 k ∧ Hid (IBlk wr w.heap.size 3 (filled h k)) ∧ Ext w wr) (fun i _ => h - (intOf i).toNat)
  case atStart => exact ⟨1, Nat.le_refl _, h1, rfl, HI2.out, HE2.out⟩
  case round =>
    obtain ⟨k, hk1, hk, rfl, hI, hb⟩ := hrel
    by_cases hlt : k < h
    · have hne : ¬ h = k := by omega
      have hne2 : ¬ h = 0 := by omega
      obtain ⟨m, hm⟩ : ∃ m, m = Nat.min k (h - k) := ⟨_, rfl⟩
      have hm1 : 1 ≤ m := by rw [hm]; exact Nat.le_min.2 ⟨hk1, by omega⟩
      have hm2 : k + m ≤ h := by have : m ≤ h - k := by rw [hm]; exact Nat.min_le_right _ _
                                 omega
      have hmk2 : m ≤ k := by rw [hm]; exact Nat.min_le_left _ _
      have HM := Lib.hid hm
      have HB := Lib.hid hb
      have HID : Hid (Blk (wr.drew) w.heap.size 3 ((filled h k).map (Value.int .i64)).toArray) := hI.out
      have hsp := filled_splice (h := h) (k := k) (m := m) hm2
      have HSP := Lib.hid hsp
      have HCE : Hid (∀ j v, ((List.replicate m (-1 : Int)).map (Value.int .i64))[j]? = some v → wr.drew.cell? ((⟨w.heap.size, 0, none⟩ : Addr).add j) = some v) := by
        unfold Hid
        intro j v hv
        have hj : j < m := by have := (List.getElem?_eq_some_iff.1 hv).1; simpa using this
        have hv2 : v = .int .i64 (-1) := by
          simp only [List.map_replicate, List.getElem?_replicate, hj, if_true] at hv
          injection hv with hv; exact hv.symm
        rw [add_none, Nat.zero_add, HID.out.cell, hv2]
        simp [filled, List.getElem?_append, show j < k by omega]
      clear hm hb hsp
      go_wp2_with fail
      go_region_law ((refine step_copy_splice (by rfl) (.tmp 41) (.tmp 44) 25 25 (by rfl) 3 Try.underlying25 (by kernel_rfl) (some ⟨w.heap.size, k, none⟩) (some ⟨w.heap.size, 0, none⟩) (h - k) (h - k) k h (by simp [go_sem]) (by simp [go_sem]) w.heap.size k ((filled h k).map (Value.int .i64)) 3 HID.out ((List.replicate m (-1 : Int)).map (Value.int .i64)) (by rw [List.length_map, List.length_replicate]; exact HM.out) (fun _ => ⟨rfl, _, rfl, HCE.out⟩) (by simp [filled]; omega) (by intro v hv; simp at hv; rw [hv.2]; rfl) w.heap.size w HB.out.drew (Nat.le_refl _) ?_; intro w3 hg3 hb3))
      have hi3 : IBlk w3 w.heap.size 3 (filled h (k + m)) := by
        have := hg3.out
        rw [HSP.out] at this
        exact this
      have HI3 := Lib.hid hi3
      have HE3 : Hid (Ext w w3) := hb3
      clear hg3 hb3 hi3
      have hwr : IntKind.i64.wrap ((k : Int) + (m : Int)) = ((k + m : Nat) : Int) := by rw [IntWalk.i64_in _ (by omega)]; push_cast; rfl
      rw [hwr]
      clear hwr
      go_simp
      go_roundw
      case rel => exact ⟨.int .i64 ((k : Int) + (m : Int)), _, _, _, _, _, _, _, _, _, _, _, _, _, ⟨k + m, by omega, hm2, by push_cast; rfl, HI3.out, HE3.out⟩, rfl⟩
      case measure => simp [intOf]; omega
    · obtain rfl : k = h := by omega
      go_wp2_with fail
      go_ret
      exact ⟨rfl, hb, by have := hI.out; rw [filled_all] at this; exact this⟩
end Go.Proofs.Ytkelmeemblmggaa
