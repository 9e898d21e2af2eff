/- FormatAct of both sides, whatever the act, and the walk of its law; no condition but what stands at each theorem. -/
import Derived.Test.YtcmbjkidgemdaaaDoorST4
import Derived.Test.YtcmbjkidgemdaaaDoorH1
namespace Go.Proofs.YtcmbjkidgemdaaaDoor
set_option linter.unusedSimpArgs false
set_option linter.unusedVariables false
open Go.RowKit Go.Sort
set_option maxRecDepth 100000 in
set_option maxHeartbeats 1000000 in
theorem spec_FormatAct (a : GAct) (w : World) :
    Calls Tryd.prog 13 #[.agg #[.int .i64 a.k, .int .i64 a.a, .int .i64 a.b, .int .i64 a.c, .int .i64 a.d]] w fun e w' => e = .returned (.tuple #[.string (actT a), .bool (acOk a)]) ∧ Ext w w' := by
  cases hok : acOk a
  case true =>
    obtain ⟨hk, hx, hy, hz, hu⟩ := ac_cases hok
    obtain ⟨k, x, y, z, u⟩ := a
    rw [actT, if_pos hok]
    rcases hk with h | h | h | h | h
    all_goals (simp only at h; subst h)
    · exact spec_FormatAct_1 x y z u hx hy hz hu hok w
    · exact spec_FormatAct_2 x y z u hx hy hz hu hok w
    · exact spec_FormatAct_3 x y z u hx hy hz hu hok w
    · exact spec_FormatAct_4 x y z u hx hy hz hu hok w
    · exact spec_FormatAct_5 x y z u hx hy hz hu hok w
  case false =>
    have cA := Lib.hid (fun w => spec_ActOk a w)
    rw [hok] at cA
    have HN : Hid (actT a = ⟨#[]⟩) := by unfold Hid; rw [actT, hok]; rfl
    clear hok
    go_enter Tryd.func13, Tryd.ntmps13
    go_wp2_with (refine (cA.out _).mono ?_; rintro e w1 ⟨rfl, hb1⟩; have HB1 := Lib.hid hb1; clear hb1)
    refine bodyPost_ret (v := .tuple #[.string ⟨#[]⟩, .bool false]) (by simp [results, Tryd.results13, go_sem, *]) rfl ⟨by rw [HN.out], ?_⟩
    exact ((Ext.refl w).alloc _).trans HB1.out
set_option maxRecDepth 100000 in
set_option maxHeartbeats 1000000 in
theorem impl_FormatAct (a : GAct) (w : World) (htab : Hid (Lib.TabIs Tryd.prog w "internal/strconv.uint64pow10" .u64 Lib.pow10Tab)) :
    Calls Tryd.prog 15 #[.agg #[.int .i64 a.k, .int .i64 a.a, .int .i64 a.b, .int .i64 a.c, .int .i64 a.d]] w fun e w' => e = .returned (.tuple #[.string (actT a), .bool (acOk a)]) ∧ Ext w w' := by
  cases hok : acOk a
  case true =>
    obtain ⟨hk, hx, hy, hz, hu⟩ := ac_cases hok
    obtain ⟨k, x, y, z, u⟩ := a
    rw [actT, if_pos hok]
    rcases hk with h | h | h | h | h
    all_goals (simp only at h; subst h)
    · exact impl_FormatAct_1 x y z u hx hy hz hu hok w htab
    · exact impl_FormatAct_2 x y z u hx hy hz hu hok w htab
    · exact impl_FormatAct_3 x y z u hx hy hz hu hok w htab
    · exact impl_FormatAct_4 x y z u hx hy hz hu hok w htab
    · exact impl_FormatAct_5 x y z u hx hy hz hu hok w htab
  case false =>
    have cA := Lib.hid (fun w => impl_ActOk a w)
    rw [hok] at cA
    have HN : Hid (actT a = ⟨#[]⟩) := by unfold Hid; rw [actT, hok]; rfl
    clear hok
    go_enter Tryd.func15, Tryd.ntmps15
    go_wp2_with (refine (cA.out _).mono ?_; rintro e w1 ⟨rfl, hb1⟩; have HB1 := Lib.hid hb1; clear hb1)
    refine bodyPost_ret (v := .tuple #[.string ⟨#[]⟩, .bool false]) (by simp [results, Tryd.results15, go_sem, *]) rfl ⟨by rw [HN.out], ?_⟩
    exact ((Ext.refl w).alloc _).trans HB1.out
set_option maxRecDepth 100000 in
set_option maxHeartbeats 1000000 in
theorem law_FormatAct (s : GAct) (w : World) (htab : Hid (Lib.TabIs Tryd.prog w "internal/strconv.uint64pow10" .u64 Lib.pow10Tab)) :
    Calls Tryd.prog 4 #[.agg #[.int .i64 s.k, .int .i64 s.a, .int .i64 s.b, .int .i64 s.c, .int .i64 s.d]] w fun e w' => e = .returned (.bool true) ∧ Ext w w' := by
  obtain ⟨wa, hwa⟩ : ∃ wa, wa = w.alloc (.cells #[.int .i64 s.k, .int .i64 s.a, .int .i64 s.b, .int .i64 s.c, .int .i64 s.d] 29) := ⟨_, rfl⟩
  have hEa : Ext w wa := by rw [hwa]; exact (Ext.refl w).alloc _
  have hsa : wa.heap.size = w.heap.size + 1 := by rw [hwa]; simp
  have hk0 : wa.cell? ⟨w.heap.size, 0, none⟩ = some (.int .i64 s.k) := by rw [hwa]; simp [World.cell?_alloc_at]
  have hk1 : wa.cell? ⟨w.heap.size, 1, none⟩ = some (.int .i64 s.a) := by rw [hwa]; simp [World.cell?_alloc_at]
  have hk2 : wa.cell? ⟨w.heap.size, 2, none⟩ = some (.int .i64 s.b) := by rw [hwa]; simp [World.cell?_alloc_at]
  have hk3 : wa.cell? ⟨w.heap.size, 3, none⟩ = some (.int .i64 s.c) := by rw [hwa]; simp [World.cell?_alloc_at]
  have hk4 : wa.cell? ⟨w.heap.size, 4, none⟩ = some (.int .i64 s.d) := by rw [hwa]; simp [World.cell?_alloc_at]
  have Hwa := Lib.hid hwa
  clear hwa
  go_enter Tryd.func4, Tryd.ntmps4
  go_wp2_with fail
  rw [← Hwa.out]
  refine (laws_toAct s wa).mono ?_
  rintro e w1 ⟨rfl, hb1⟩
  have z1 := hb1.size
  have e1 := hEa.trans hb1
  have k0 := fun o => hb1.cellAt w.heap.size (by omega) o
  go_wp2_with fail
  refine (spec_FormatAct s w1).mono ?_
  rintro e w2 ⟨rfl, hb2⟩
  have z2 := hb2.size
  have e2 := e1.trans hb2
  replace k0 := fun o => (hb2.cellAt w.heap.size (by omega) o).trans (k0 o)
  go_wp2_with fail
  refine (laws_toAct s w2).mono ?_
  rintro e w3 ⟨rfl, hb3⟩
  have e3 := e2.trans hb3
  go_wp2_with fail
  refine (impl_FormatAct s w3 (Lib.hid (tab_ext htab.out e3))).mono ?_
  rintro e w4 ⟨rfl, hb4⟩
  have e4 := Lib.hid (e3.trans hb4)
  clear hb1 hb2 hb3 hb4 e1 e2 e3
  go_wp2_with fail
  all_goals go_ret
  all_goals exact ⟨rfl, e4.out⟩
end Go.Proofs.YtcmbjkidgemdaaaDoor
