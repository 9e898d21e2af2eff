/- The walk of the law of ParseMove; no condition but what stands at each theorem. -/
import Derived.Test.YtcmbjkidgemdaaaDoorSTf
import Derived.Test.YtcmbjkidgemdaaaDoorH1
namespace Go.Proofs.YtcmbjkidgemdaaaDoor
set_option linter.unusedSimpArgs false
set_option linter.unusedVariables false
open Go.RowKit Go.Sort
theorem max_ext {w w' : World} {g : Nat} (h : ∃ m, w.cell? ⟨g, 0, none⟩ = some (.int .i64 m)) (e : Ext w w') : ∃ m, w'.cell? ⟨g, 0, none⟩ = some (.int .i64 m) := by
  obtain ⟨m, h⟩ := h
  exact ⟨m, (e.cellAt _ (World.block_lt_of_cell? w _ h) 0).trans h⟩
set_option maxRecDepth 100000 in
set_option maxHeartbeats 2000000 in
theorem law_ParseMove (x : ByteArray) (w : World) (hM : Hid (∃ m, w.cell? ⟨0, 0, none⟩ = some (.int .i64 m))) :
    Calls Tryd.prog 7 #[.string x] w fun e w' => e = .returned (.bool true) ∧ Ext w w' := by
  by_cases hx2 : x.size ≤ 1048576
  case neg =>
    go_enter Tryd.func7, Tryd.ntmps7
    go_wp2_with fail
    all_goals go_ret
    all_goals exact ⟨rfl, Ext.refl _⟩
  case pos =>
    go_enter Tryd.func7, Tryd.ntmps7
    go_wp2_with fail
    refine (spec_ParseMove x w hx2).mono ?_
    rintro e w1 ⟨m, b, rfl, hb1, hp⟩
    have z1 := hb1.size
    have HP := Lib.hid hp
    have HB1 := Lib.hid hb1
    clear hp hb1
    go_wp2_with fail
    obtain ⟨W2, hW2⟩ : ∃ W2, W2 = w1.alloc (.cells #[.int .i64 m.o, .int .i64 m.t, .int .i64 m.f, .int .i64 m.s] 25) := ⟨_, rfl⟩
    have hB2 : Blk W2 w1.heap.size 25 #[.int .i64 m.o, .int .i64 m.t, .int .i64 m.f, .int .i64 m.s] := by rw [hW2]; exact Blk.new _ _ _
    have hE2 : Ext w1 W2 := by rw [hW2]; exact (Ext.refl _).alloc _
    rw [← hW2]
    clear hW2
    have HE2 := Lib.hid (HB1.out.trans hE2)
    refine (impl_ParseMove x W2 hx2 (Lib.hid (max_ext hM HE2.out))).mono ?_
    rintro e w3 ⟨m', b', rfl, hb3, hp'⟩
    obtain ⟨rfl, rfl⟩ := pm_eq HP.out hp'
    have z2 := hE2.size
    have z3 := hb3.size
    have l2 := hB2.lt
    have hB3 := hB2.keep hb3
    have x0 := hB3.cell 0
    have x1 := hB3.cell 1
    have x2 := hB3.cell 2
    have x3 := hB3.cell 3
    have xz : ∀ o, w3.frozen? ⟨w1.heap.size, o, none⟩ = false := fun o => hB3.free o
    have m3 : w3.heap.size ≠ w1.heap.size := by omega
    have l3 : w1.heap.size < w3.heap.size := by omega
    have HE3 := Lib.hid (HE2.out.trans hb3)
    clear hb3 hp' hB2 hE2 hB3 hM HP
    go_wp2_with fail
    obtain ⟨W4, hW4⟩ : ∃ W4, W4 = w3.alloc (.cells #[.int .i64 m.o, .int .i64 m.t, .int .i64 m.f, .int .i64 m.s] 25) := ⟨_, rfl⟩
    have hE4 : Ext w3 W4 := by rw [hW4]; exact (Ext.refl _).alloc _
    rw [← hW4]
    clear hW4
    have HE4 := Lib.hid (HE3.out.trans hE4)
    clear hE4
    refine (laws_eqMove m m rfl W4).mono ?_
    rintro e w5 ⟨rfl, hb5⟩
    have HE5 := Lib.hid (HE4.out.trans hb5)
    clear hb5
    go_wp2_with fail
    all_goals go_ret
    all_goals exact ⟨rfl, HE5.out⟩
end Go.Proofs.YtcmbjkidgemdaaaDoor
