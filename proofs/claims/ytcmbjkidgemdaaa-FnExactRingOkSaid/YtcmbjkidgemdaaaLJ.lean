/- The walk of the law on RingOk; no condition. -/
import Derived.Test.YtcmbjkidgemdaaaSHh
import Derived.Test.YtcmbjkidgemdaaaH3
namespace Go.Proofs.Ytcmbjkidgemdaaa
set_option linter.unusedSimpArgs false
set_option linter.unusedVariables false
open Go.RowKit
set_option maxRecDepth 100000 in
set_option maxHeartbeats 8000000 in
theorem law_RingOk (H0 : Int) (A0 : Option Addr) (n0 c0 : Nat) (a0 : List GDoor) (a1 : Int) (w : World) (hx0 : Rd w 2 A0 n0 (a0.flatMap GDoor.enc)) :
    Calls Try.prog 3 #[.agg #[.int .i64 H0, .slice A0 n0 c0], .int .i64 a1] w fun e w' => e = .returned (.bool true) ∧ Ext w w' := by
  have hnn0 := hx0.2.1
  by_cases hq0 : n0 ≤ 1048576
  case neg =>
    go_enter Try.func3, Try.ntmps3
    go_wp2_with fail
    obtain ⟨wb, hwb⟩ : ∃ wb, wb = (w.alloc (.cells #[.int .i64 H0, .slice A0 n0 c0] 24)) := ⟨_, rfl⟩
    rw [← hwb]
    have hsb : w.heap.size + 1 ≤ wb.heap.size := by rw [hwb]; simp
    have Eb := Lib.hid (show Ext w wb from by rw [hwb]; (repeat (first | exact Ext.refl _ | assumption | refine Ext.alloc ?_ _ | refine Ext.drew ?_ | refine Ext.drewN ?_ _ | refine Ext.setCell ?_ (by first | (simp; done) | (simp; omega)) _ | refine Ext.trans ?_ (by assumption))))
    have kb0_0 : wb.cell? ⟨w.heap.size, 0, none⟩ = some (.int .i64 H0) := by (rw [hwb]; first | (simp [World.cell?_alloc_at, World.cell?_alloc_past]; done) | (rw [World.cell?_alloc_new]; rfl) | (rw [World.cell?_alloc_lt _ _ _ (by simp), World.cell?_alloc_new]; rfl))
    have kb0_1 : wb.cell? ⟨w.heap.size, 1, none⟩ = some (.slice A0 n0 c0) := by (rw [hwb]; first | (simp [World.cell?_alloc_at, World.cell?_alloc_past]; done) | (rw [World.cell?_alloc_new]; rfl) | (rw [World.cell?_alloc_lt _ _ _ (by simp), World.cell?_alloc_new]; rfl))
    clear hwb
    replace hx0 := hx0.keep Eb.out
    have eb0 := Ext.refl wb
    refine (laws_szHouse _ _ _ _ _ _ (by omega) (by omega) hnn0).mono ?_
    rintro e w1 ⟨he, b1⟩
    rw [if_pos (by omega)] at he
    subst he
    have eb1 := eb0.trans b1
    have z1 := b1.size
    clear b1 eb0
    (try clear k0)
    have k0 := fun o => eb1.cellAt (w.heap.size) (by omega) o
    go_wp2_with fail
    go_ret
    exact ⟨rfl, Eb.out.trans eb1⟩
  have hn0 : n0 ≤ 1048576 := by omega
  go_enter Try.func3, Try.ntmps3
  go_wp2_with fail
  obtain ⟨wb, hwb⟩ : ∃ wb, wb = (w.alloc (.cells #[.int .i64 H0, .slice A0 n0 c0] 24)) := ⟨_, rfl⟩
  rw [← hwb]
  have hsb : w.heap.size + 1 ≤ wb.heap.size := by rw [hwb]; simp
  have Eb := Lib.hid (show Ext w wb from by rw [hwb]; (repeat (first | exact Ext.refl _ | assumption | refine Ext.alloc ?_ _ | refine Ext.drew ?_ | refine Ext.drewN ?_ _ | refine Ext.setCell ?_ (by first | (simp; done) | (simp; omega)) _ | refine Ext.trans ?_ (by assumption))))
  have kb0_0 : wb.cell? ⟨w.heap.size, 0, none⟩ = some (.int .i64 H0) := by (rw [hwb]; first | (simp [World.cell?_alloc_at, World.cell?_alloc_past]; done) | (rw [World.cell?_alloc_new]; rfl) | (rw [World.cell?_alloc_lt _ _ _ (by simp), World.cell?_alloc_new]; rfl))
  have kb0_1 : wb.cell? ⟨w.heap.size, 1, none⟩ = some (.slice A0 n0 c0) := by (rw [hwb]; first | (simp [World.cell?_alloc_at, World.cell?_alloc_past]; done) | (rw [World.cell?_alloc_new]; rfl) | (rw [World.cell?_alloc_lt _ _ _ (by simp), World.cell?_alloc_new]; rfl))
  clear hwb
  replace hx0 := hx0.keep Eb.out
  have eb0 := Ext.refl wb
  refine (laws_szHouse _ _ _ _ _ _ (by omega) (by omega) hnn0).mono ?_
  rintro e w1 ⟨he, b1⟩
  rw [if_neg (by omega)] at he
  subst he
  have eb1 := eb0.trans b1
  have z1 := b1.size
  clear b1 eb0
  (try clear k0)
  have k0 := fun o => eb1.cellAt (w.heap.size) (by omega) o
  go_wp2_with fail
  refine (laws_toHouse _ _ _ _ a0 _ (hx0.keep eb1) hn0).mono ?_
  rintro e w2 ⟨gW_0, rfl, b2, oW_0⟩
  have eb2 := eb1.trans b2
  have z2 := b2.size
  clear b2 eb1
  (try clear k0)
  have k0 := fun o => eb2.cellAt (w.heap.size) (by omega) o
  have at_oW_0 := At.of_own oW_0
  go_wp2_with fail
  refine (spec_RingOk _ _ _ _ a0 a1 _ (Rd.of_own oW_0)).mono ?_
  rintro e w3 ⟨rfl, b3⟩
  have eb3 := eb2.trans b3
  have z3 := b3.size
  replace oW_0 := own_keep oW_0 b3
  clear b3 eb2
  (try clear k0)
  have k0 := fun o => eb3.cellAt (w.heap.size) (by omega) o
  clear oW_0
  go_wp2_with fail
  refine (laws_toHouse _ _ _ _ a0 _ (hx0.keep eb3) hn0).mono ?_
  rintro e w4 ⟨gX0, rfl, b4, oX0⟩
  have eb4 := eb3.trans b4
  have z4 := b4.size
  clear b4 eb3
  (try clear k0)
  have k0 := fun o => eb4.cellAt (w.heap.size) (by omega) o
  have at_oX0 := At.of_own oX0
  go_wp2_with fail
  obtain ⟨w5, hw5⟩ : ∃ w5, w5 = w4.alloc (.cells #[.int .i64 H0, .slice (some ⟨gX0, 0, none⟩) n0 n0] 29) := ⟨_, rfl⟩
  rw [← hw5]
  obtain ⟨b5, hz5, xk0_0, xk0_1⟩ := box2 w4 _ _ _ w5 hw5
  clear hw5
  obtain ⟨gb0, hgb0⟩ : ∃ gb, gb = w4.heap.size := ⟨_, rfl⟩
  rw [← hgb0] at xk0_0 xk0_1 ⊢
  have eb5 := eb4.trans b5
  have z5 := b5.size
  replace oX0 := own_keep oX0 b5
  clear b5 eb4
  (try clear k0)
  have k0 := fun o => eb5.cellAt (w.heap.size) (by omega) o
  have ex05 := Ext.refl w5
  have hgbl0 : gb0 < w5.heap.size ∧ wb.heap.size ≤ gb0 := by (have := eb5.size; omega)
  clear hgb0 hz5
  go_wp2_with fail
  refine (impl_RingOk _ _ _ _ a0 a1 _ (Rd.of_own oX0)).mono ?_
  rintro e w6 ⟨rfl, b6⟩
  have eb6 := eb5.trans b6
  have ex06 := ex05.trans b6
  have z6 := b6.size
  replace oX0 := own_keep oX0 b6
  clear b6 eb5 ex05
  (try clear k0)
  have k0 := fun o => eb6.cellAt (w.heap.size) (by omega) o
  (try clear k1)
  have k1 := fun o => ex06.cellAt (gb0) (by omega) o
  go_wp2_with fail
  have s0 := (k0 0).trans kb0_0
  have s1 := (k0 1).trans kb0_1
  have s2 := (k1 0).trans xk0_0
  have s3 := (k1 1).trans xk0_1
  go_region_held3 (fun w' => w'.cell? ⟨w.heap.size, 0, none⟩ = some (.int .i64 H0) ∧ w'.cell? ⟨w.heap.size, 1, none⟩ = some (.slice A0 n0 c0) ∧ w'.cell? ⟨gb0, 0, none⟩ = some (.int .i64 H0) ∧ w'.cell? ⟨gb0, 1, none⟩ = some (.slice (some ⟨gX0, 0, none⟩) n0 n0)) (go_keep) (first | (go_at_call 16; refine (laws_toHouse _ _ _ _ a0 _ ((hx0.keep eb6).keep ((Ext.refl _).drewN 1)) hn0).mono ?_; rintro e w7 ⟨gY0, rfl, b7, oY0⟩; have k := b7.cellAt (w.heap.size) (by first | omega | (simp; omega)); have k' := b7.cellAt gb0 (by first | omega | (simp; omega)); have zz : w6.heap.size ≤ w7.heap.size := b7.size) | (go_at_call 18; refine (laws_eqHouse _ _ _ _ _ _ _ a0 _ (Rd.of_own (own_keep (own_keep oX0 ((Ext.refl _).drewN 1)) b7)) (Rd.of_own oY0)).mono ?_; rintro e w8 ⟨rfl, b8⟩; have q := b8.cellAt (w.heap.size) (by omega); have q' := b8.cellAt gb0 (by omega)))
  have eb8 := (eb6.drewN 1).trans (b7.trans b8)
  have ex08 := (ex06.drewN 1).trans (b7.trans b8)
  have z8 := (Ext.trans b7 b8).size
  replace oX0 := own_keep oX0 (((Ext.refl w6).drewN 1).trans (b7.trans b8))
  clear s0 s1 s2 s3 k k' q q' zz oY0 b7 b8 eb6 ex06
  (try clear k0)
  have k0 := fun o => eb8.cellAt (w.heap.size) (by omega) o
  (try clear k1)
  have k1 := fun o => ex08.cellAt (gb0) (by omega) o
  go_wp2_with fail
  go_ret
  exact ⟨rfl, Eb.out.trans eb8⟩
end Go.Proofs.Ytcmbjkidgemdaaa
