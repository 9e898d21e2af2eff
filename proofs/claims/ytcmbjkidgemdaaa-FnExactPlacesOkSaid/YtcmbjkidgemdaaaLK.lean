/- The walk of the law on PlacesOk; no condition. -/
import Derived.Test.YtcmbjkidgemdaaaSHi
import Derived.Test.YtcmbjkidgemdaaaH3
namespace Go.Proofs.Ytcmbjkidgemdaaa
set_option linter.unusedSimpArgs false
set_option linter.unusedVariables false
open Go.RowKit
set_option maxRecDepth 100000 in
set_option maxHeartbeats 8000000 in
theorem law_PlacesOk (H0 : Int) (A0 : Option Addr) (n0 c0 : Nat) (a0 : List GDoor) (A1 : Option Addr) (n1 c1 : Nat) (a1 : List Int) (w : World) (hx0 : Rd w 2 A0 n0 (a0.flatMap GDoor.enc)) (hx1 : Rd w 1 A1 n1 (a1.flatMap ienc)) :
    Calls Try.prog 4 #[.agg #[.int .i64 H0, .slice A0 n0 c0], .slice A1 n1 c1] w fun e w' => e = .returned (.bool true) ∧ Ext w w' := by
  have hnn0 := hx0.2.1
  have hnn1 := hx1.2.1
  by_cases hq0 : n1 ≤ 1048576
  case neg =>
    go_enter Try.func4, Try.ntmps4
    go_wp2_with fail
    go_ret
    refine ⟨rfl, ?_⟩
    (repeat (first | exact Ext.refl _ | assumption | refine Ext.alloc ?_ _ | refine Ext.drew ?_ | refine Ext.drewN ?_ _ | refine Ext.setCell ?_ (by first | (simp; done) | (simp; omega)) _ | refine Ext.trans ?_ (by assumption)))
  by_cases hq1 : n0 ≤ 1048576
  case neg =>
    go_enter Try.func4, Try.ntmps4
    go_wp2_with fail
    obtain ⟨wb, hwb⟩ : ∃ wb, wb = (w.alloc (.cells #[.int .i64 H0, .slice A0 n0 c0] 24)) := ⟨_, rfl⟩
    rw [← hwb]
    have hsb : w.heap.size + 1 ≤ wb.heap.size := by rw [hwb]; simp
    have Eb := Lib.hid (show Ext w wb from by rw [hwb]; (repeat (first | exact Ext.refl _ | assumption | refine Ext.alloc ?_ _ | refine Ext.drew ?_ | refine Ext.drewN ?_ _ | refine Ext.setCell ?_ (by first | (simp; done) | (simp; omega)) _ | refine Ext.trans ?_ (by assumption))))
    have kb0_0 : wb.cell? ⟨w.heap.size, 0, none⟩ = some (.int .i64 H0) := by (rw [hwb]; first | (simp [World.cell?_alloc_at, World.cell?_alloc_past]; done) | (rw [World.cell?_alloc_new]; rfl) | (rw [World.cell?_alloc_lt _ _ _ (by simp), World.cell?_alloc_new]; rfl))
    have kb0_1 : wb.cell? ⟨w.heap.size, 1, none⟩ = some (.slice A0 n0 c0) := by (rw [hwb]; first | (simp [World.cell?_alloc_at, World.cell?_alloc_past]; done) | (rw [World.cell?_alloc_new]; rfl) | (rw [World.cell?_alloc_lt _ _ _ (by simp), World.cell?_alloc_new]; rfl))
    clear hwb
    replace hx0 := hx0.keep Eb.out
    replace hx1 := hx1.keep Eb.out
    have eb0 := Ext.refl wb
    refine (laws_szHouse _ _ _ _ _ _ (by omega) (by omega) hnn0).mono ?_
    rintro e w1 ⟨he, b1⟩
    rw [if_pos (by omega)] at he
    subst he
    have eb1 := eb0.trans b1
    have z1 := b1.size
    clear b1 eb0
    (try clear k0)
    have k0 := fun o => eb1.cellAt (w.heap.size) (by omega) o
    go_wp2_with fail
    go_ret
    exact ⟨rfl, Eb.out.trans eb1⟩
  have hn0 : n0 ≤ 1048576 := by omega
  have hn1 : n1 ≤ 1048576 := by omega
  go_enter Try.func4, Try.ntmps4
  go_wp2_with fail
  obtain ⟨wb, hwb⟩ : ∃ wb, wb = (w.alloc (.cells #[.int .i64 H0, .slice A0 n0 c0] 24)) := ⟨_, rfl⟩
  rw [← hwb]
  have hsb : w.heap.size + 1 ≤ wb.heap.size := by rw [hwb]; simp
  have Eb := Lib.hid (show Ext w wb from by rw [hwb]; (repeat (first | exact Ext.refl _ | assumption | refine Ext.alloc ?_ _ | refine Ext.drew ?_ | refine Ext.drewN ?_ _ | refine Ext.setCell ?_ (by first | (simp; done) | (simp; omega)) _ | refine Ext.trans ?_ (by assumption))))
  have kb0_0 : wb.cell? ⟨w.heap.size, 0, none⟩ = some (.int .i64 H0) := by (rw [hwb]; first | (simp [World.cell?_alloc_at, World.cell?_alloc_past]; done) | (rw [World.cell?_alloc_new]; rfl) | (rw [World.cell?_alloc_lt _ _ _ (by simp), World.cell?_alloc_new]; rfl))
  have kb0_1 : wb.cell? ⟨w.heap.size, 1, none⟩ = some (.slice A0 n0 c0) := by (rw [hwb]; first | (simp [World.cell?_alloc_at, World.cell?_alloc_past]; done) | (rw [World.cell?_alloc_new]; rfl) | (rw [World.cell?_alloc_lt _ _ _ (by simp), World.cell?_alloc_new]; rfl))
  clear hwb
  replace hx0 := hx0.keep Eb.out
  replace hx1 := hx1.keep Eb.out
  have eb0 := Ext.refl wb
  refine (laws_szHouse _ _ _ _ _ _ (by omega) (by omega) hnn0).mono ?_
  rintro e w1 ⟨he, b1⟩
  rw [if_neg (by omega)] at he
  subst he
  have eb1 := eb0.trans b1
  have z1 := b1.size
  clear b1 eb0
  (try clear k0)
  have k0 := fun o => eb1.cellAt (w.heap.size) (by omega) o
  go_wp2_with fail
  refine (laws_toHouse _ _ _ _ a0 _ (hx0.keep eb1) hn0).mono ?_
  rintro e w2 ⟨gW_0, rfl, b2, oW_0⟩
  have eb2 := eb1.trans b2
  have z2 := b2.size
  clear b2 eb1
  (try clear k0)
  have k0 := fun o => eb2.cellAt (w.heap.size) (by omega) o
  have at_oW_0 := At.of_own oW_0
  go_wp2_with fail
  refine (laws_toIntS _ _ _ a1 _ (hx1.keep eb2) hn1).mono ?_
  rintro e w3 ⟨gW_1, rfl, b3, oW_1⟩
  have eb3 := eb2.trans b3
  have z3 := b3.size
  replace oW_0 := own_keep oW_0 b3
  clear b3 eb2
  (try clear k0)
  have k0 := fun o => eb3.cellAt (w.heap.size) (by omega) o
  have at_oW_1 := At.of_own oW_1
  go_wp2_with fail
  refine (spec_PlacesOk _ _ _ _ a0 _ _ _ a1 _ (Rd.of_own oW_0) (Rd.of_own oW_1)).mono ?_
  rintro e w4 ⟨rfl, b4⟩
  have eb4 := eb3.trans b4
  have z4 := b4.size
  replace oW_0 := own_keep oW_0 b4
  replace oW_1 := own_keep oW_1 b4
  clear b4 eb3
  (try clear k0)
  have k0 := fun o => eb4.cellAt (w.heap.size) (by omega) o
  clear oW_0
  clear oW_1
  go_wp2_with fail
  refine (laws_toHouse _ _ _ _ a0 _ (hx0.keep eb4) hn0).mono ?_
  rintro e w5 ⟨gX0, rfl, b5, oX0⟩
  have eb5 := eb4.trans b5
  have z5 := b5.size
  clear b5 eb4
  (try clear k0)
  have k0 := fun o => eb5.cellAt (w.heap.size) (by omega) o
  have at_oX0 := At.of_own oX0
  go_wp2_with fail
  obtain ⟨w6, hw6⟩ : ∃ w6, w6 = w5.alloc (.cells #[.int .i64 H0, .slice (some ⟨gX0, 0, none⟩) n0 n0] 29) := ⟨_, rfl⟩
  rw [← hw6]
  obtain ⟨b6, hz6, xk0_0, xk0_1⟩ := box2 w5 _ _ _ w6 hw6
  clear hw6
  obtain ⟨gb0, hgb0⟩ : ∃ gb, gb = w5.heap.size := ⟨_, rfl⟩
  rw [← hgb0] at xk0_0 xk0_1 ⊢
  have eb6 := eb5.trans b6
  have z6 := b6.size
  replace oX0 := own_keep oX0 b6
  clear b6 eb5
  (try clear k0)
  have k0 := fun o => eb6.cellAt (w.heap.size) (by omega) o
  have ex06 := Ext.refl w6
  have hgbl0 : gb0 < w6.heap.size ∧ wb.heap.size ≤ gb0 := by (have := eb6.size; omega)
  clear hgb0 hz6
  go_wp2_with fail
  refine (laws_toIntS _ _ _ a1 _ (hx1.keep eb6) hn1).mono ?_
  rintro e w7 ⟨gX1, rfl, b7, oX1⟩
  have eb7 := eb6.trans b7
  have ex07 := ex06.trans b7
  have z7 := b7.size
  replace oX0 := own_keep oX0 b7
  clear b7 eb6 ex06
  (try clear k0)
  have k0 := fun o => eb7.cellAt (w.heap.size) (by omega) o
  (try clear k1)
  have k1 := fun o => ex07.cellAt (gb0) (by omega) o
  have at_oX1 := At.of_own oX1
  go_wp2_with fail
  refine (impl_PlacesOk _ _ _ _ a0 _ _ _ a1 _ (Rd.of_own oX0) (Rd.of_own oX1)).mono ?_
  rintro e w8 ⟨rfl, b8⟩
  have eb8 := eb7.trans b8
  have ex08 := ex07.trans b8
  have z8 := b8.size
  replace oX0 := own_keep oX0 b8
  replace oX1 := own_keep oX1 b8
  clear b8 eb7 ex07
  (try clear k0)
  have k0 := fun o => eb8.cellAt (w.heap.size) (by omega) o
  (try clear k1)
  have k1 := fun o => ex08.cellAt (gb0) (by omega) o
  go_wp2_with fail
  have s0 := (k0 0).trans kb0_0
  have s1 := (k0 1).trans kb0_1
  have s2 := (k1 0).trans xk0_0
  have s3 := (k1 1).trans xk0_1
  go_region_held3 (fun w' => w'.cell? ⟨w.heap.size, 0, none⟩ = some (.int .i64 H0) ∧ w'.cell? ⟨w.heap.size, 1, none⟩ = some (.slice A0 n0 c0) ∧ w'.cell? ⟨gb0, 0, none⟩ = some (.int .i64 H0) ∧ w'.cell? ⟨gb0, 1, none⟩ = some (.slice (some ⟨gX0, 0, none⟩) n0 n0)) (go_keep) (first | (go_at_call 16; refine (laws_toHouse _ _ _ _ a0 _ ((hx0.keep eb8).keep ((Ext.refl _).drewN 1)) hn0).mono ?_; rintro e w9 ⟨gY0, rfl, b9, oY0⟩; have k := b9.cellAt (w.heap.size) (by first | omega | (simp; omega)); have k' := b9.cellAt gb0 (by first | omega | (simp; omega)); have zz : w8.heap.size ≤ w9.heap.size := b9.size) | (go_at_call 18; refine (laws_eqHouse _ _ _ _ _ _ _ a0 _ (Rd.of_own (own_keep (own_keep oX0 ((Ext.refl _).drewN 1)) b9)) (Rd.of_own oY0)).mono ?_; rintro e w10 ⟨rfl, b10⟩; have q := b10.cellAt (w.heap.size) (by omega); have q' := b10.cellAt gb0 (by omega)))
  have eb10 := (eb8.drewN 1).trans (b9.trans b10)
  have ex010 := (ex08.drewN 1).trans (b9.trans b10)
  have z10 := (Ext.trans b9 b10).size
  replace oX0 := own_keep oX0 (((Ext.refl w8).drewN 1).trans (b9.trans b10))
  replace oX1 := own_keep oX1 (((Ext.refl w8).drewN 1).trans (b9.trans b10))
  clear s0 s1 s2 s3 k k' q q' zz oY0 b9 b10 eb8 ex08
  (try clear k0)
  have k0 := fun o => eb10.cellAt (w.heap.size) (by omega) o
  (try clear k1)
  have k1 := fun o => ex010.cellAt (gb0) (by omega) o
  go_wp2_with fail
  refine (laws_toIntS _ _ _ a1 _ (hx1.keep eb10) hn1).mono ?_
  rintro e w11 ⟨gY1, rfl, b11, oY1⟩
  have eb11 := eb10.trans b11
  have ex011 := ex010.trans b11
  have z11 := b11.size
  replace oX0 := own_keep oX0 b11
  replace oX1 := own_keep oX1 b11
  clear b11 eb10 ex010
  (try clear k0)
  have k0 := fun o => eb11.cellAt (w.heap.size) (by omega) o
  (try clear k1)
  have k1 := fun o => ex011.cellAt (gb0) (by omega) o
  have at_oY1 := At.of_own oY1
  go_wp2_with fail
  refine (laws_eqIntS _ _ _ _ _ _ _ _ (Rd.of_own oX1) (Rd.of_own oY1)).mono ?_
  rintro e w12 ⟨rfl, b12⟩
  have eb12 := eb11.trans b12
  have ex012 := ex011.trans b12
  have z12 := b12.size
  replace oX0 := own_keep oX0 b12
  replace oX1 := own_keep oX1 b12
  replace oY1 := own_keep oY1 b12
  clear b12 eb11 ex011
  (try clear k0)
  have k0 := fun o => eb12.cellAt (w.heap.size) (by omega) o
  (try clear k1)
  have k1 := fun o => ex012.cellAt (gb0) (by omega) o
  clear oY1
  go_wp2_with fail
  go_ret
  exact ⟨rfl, Eb.out.trans eb12⟩
end Go.Proofs.Ytcmbjkidgemdaaa
