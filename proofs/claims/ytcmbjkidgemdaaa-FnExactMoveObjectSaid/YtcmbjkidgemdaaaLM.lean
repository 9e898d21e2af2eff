/- The walk of the law on MoveObject; no condition. -/
import Derived.Test.YtcmbjkidgemdaaaSHm
import Derived.Test.YtcmbjkidgemdaaaH3
namespace Go.Proofs.Ytcmbjkidgemdaaa
set_option linter.unusedSimpArgs false
set_option linter.unusedVariables false
open Go.RowKit
theorem moveL_len (H : Int) (ds : List GDoor) (ps gs : List Int) (m : GMove) : (moveL H ds ps gs m).length = ps.length := by unfold moveL; split <;> simp
set_option maxRecDepth 100000 in
set_option maxHeartbeats 8000000 in
theorem law_MoveObject (H0 : Int) (A0 : Option Addr) (n0 c0 : Nat) (a0 : List GDoor) (A1 : Option Addr) (n1 c1 : Nat) (a1 : List Int) (A2 : Option Addr) (n2 c2 : Nat) (a2 : List Int) (a3 : GMove) (w : World) (hx0 : Rd w 2 A0 n0 (a0.flatMap GDoor.enc)) (hx1 : Rd w 1 A1 n1 (a1.flatMap ienc)) (hx2 : Rd w 1 A2 n2 (a2.flatMap ienc)) :
    Calls Try.prog 9 #[.agg #[.int .i64 H0, .slice A0 n0 c0], .slice A1 n1 c1, .slice A2 n2 c2, .agg #[.int .i64 a3.o, .int .i64 a3.t, .int .i64 a3.f, .int .i64 a3.s]] w fun e w' => e = .returned (.bool true) ∧ Ext w w' := by
  have hnn0 := hx0.2.1
  have hnn1 := hx1.2.1
  have hnn2 := hx2.2.1
  by_cases hq0 : n1 ≤ 1048576
  case neg =>
    go_enter Try.func9, Try.ntmps9
    go_wp2_with fail
    go_ret
    refine ⟨rfl, ?_⟩
    (repeat (first | exact Ext.refl _ | assumption | refine Ext.alloc ?_ _ | refine Ext.drew ?_ | refine Ext.drewN ?_ _ | refine Ext.setCell ?_ (by first | (simp; done) | (simp; omega)) _ | refine Ext.trans ?_ (by assumption)))
  by_cases hq1 : n2 ≤ 1048576
  case neg =>
    go_enter Try.func9, Try.ntmps9
    go_wp2_with fail
    go_ret
    refine ⟨rfl, ?_⟩
    (repeat (first | exact Ext.refl _ | assumption | refine Ext.alloc ?_ _ | refine Ext.drew ?_ | refine Ext.drewN ?_ _ | refine Ext.setCell ?_ (by first | (simp; done) | (simp; omega)) _ | refine Ext.trans ?_ (by assumption)))
  by_cases hq2 : n0 ≤ 1048576
  case neg =>
    go_enter Try.func9, Try.ntmps9
    go_wp2_with fail
    obtain ⟨wb, hwb⟩ : ∃ wb, wb = ((w.alloc (.cells #[.int .i64 H0, .slice A0 n0 c0] 24)).alloc (.cells #[.int .i64 a3.o, .int .i64 a3.t, .int .i64 a3.f, .int .i64 a3.s] 47)) := ⟨_, rfl⟩
    rw [← hwb]
    have hsb : w.heap.size + 2 ≤ wb.heap.size := by rw [hwb]; simp
    have Eb := Lib.hid (show Ext w wb from by rw [hwb]; (repeat (first | exact Ext.refl _ | assumption | refine Ext.alloc ?_ _ | refine Ext.drew ?_ | refine Ext.drewN ?_ _ | refine Ext.setCell ?_ (by first | (simp; done) | (simp; omega)) _ | refine Ext.trans ?_ (by assumption))))
    have kb0_0 : wb.cell? ⟨w.heap.size, 0, none⟩ = some (.int .i64 H0) := by (rw [hwb]; first | (simp [World.cell?_alloc_at, World.cell?_alloc_past]; done) | (rw [World.cell?_alloc_new]; rfl) | (rw [World.cell?_alloc_lt _ _ _ (by simp), World.cell?_alloc_new]; rfl))
    have kb0_1 : wb.cell? ⟨w.heap.size, 1, none⟩ = some (.slice A0 n0 c0) := by (rw [hwb]; first | (simp [World.cell?_alloc_at, World.cell?_alloc_past]; done) | (rw [World.cell?_alloc_new]; rfl) | (rw [World.cell?_alloc_lt _ _ _ (by simp), World.cell?_alloc_new]; rfl))
    have kb1_0 : wb.cell? ⟨w.heap.size + 1, 0, none⟩ = some (.int .i64 a3.o) := by (rw [hwb]; first | (simp [World.cell?_alloc_at, World.cell?_alloc_past]; done) | (rw [World.cell?_alloc_new]; rfl) | (rw [World.cell?_alloc_lt _ _ _ (by simp), World.cell?_alloc_new]; rfl))
    have kb1_1 : wb.cell? ⟨w.heap.size + 1, 1, none⟩ = some (.int .i64 a3.t) := by (rw [hwb]; first | (simp [World.cell?_alloc_at, World.cell?_alloc_past]; done) | (rw [World.cell?_alloc_new]; rfl) | (rw [World.cell?_alloc_lt _ _ _ (by simp), World.cell?_alloc_new]; rfl))
    have kb1_2 : wb.cell? ⟨w.heap.size + 1, 2, none⟩ = some (.int .i64 a3.f) := by (rw [hwb]; first | (simp [World.cell?_alloc_at, World.cell?_alloc_past]; done) | (rw [World.cell?_alloc_new]; rfl) | (rw [World.cell?_alloc_lt _ _ _ (by simp), World.cell?_alloc_new]; rfl))
    have kb1_3 : wb.cell? ⟨w.heap.size + 1, 3, none⟩ = some (.int .i64 a3.s) := by (rw [hwb]; first | (simp [World.cell?_alloc_at, World.cell?_alloc_past]; done) | (rw [World.cell?_alloc_new]; rfl) | (rw [World.cell?_alloc_lt _ _ _ (by simp), World.cell?_alloc_new]; rfl))
    clear hwb
    replace hx0 := hx0.keep Eb.out
    replace hx1 := hx1.keep Eb.out
    replace hx2 := hx2.keep Eb.out
    have eb0 := Ext.refl wb
    refine (laws_szHouse _ _ _ _ _ _ (by omega) (by omega) hnn0).mono ?_
    rintro e w1 ⟨he, b1⟩
    rw [if_pos (by omega)] at he
    subst he
    have eb1 := eb0.trans b1
    have z1 := b1.size
    clear b1 eb0
    (try clear k0)
    have k0 := fun o => eb1.cellAt (w.heap.size) (by omega) o
    (try clear k1)
    have k1 := fun o => eb1.cellAt (w.heap.size + 1) (by omega) o
    go_wp2_with fail
    go_ret
    exact ⟨rfl, Eb.out.trans eb1⟩
  have hn0 : n0 ≤ 1048576 := by omega
  have hn1 : n1 ≤ 1048576 := by omega
  have hn2 : n2 ≤ 1048576 := by omega
  go_enter Try.func9, Try.ntmps9
  go_wp2_with fail
  obtain ⟨wb, hwb⟩ : ∃ wb, wb = ((w.alloc (.cells #[.int .i64 H0, .slice A0 n0 c0] 24)).alloc (.cells #[.int .i64 a3.o, .int .i64 a3.t, .int .i64 a3.f, .int .i64 a3.s] 47)) := ⟨_, rfl⟩
  rw [← hwb]
  have hsb : w.heap.size + 2 ≤ wb.heap.size := by rw [hwb]; simp
  have Eb := Lib.hid (show Ext w wb from by rw [hwb]; (repeat (first | exact Ext.refl _ | assumption | refine Ext.alloc ?_ _ | refine Ext.drew ?_ | refine Ext.drewN ?_ _ | refine Ext.setCell ?_ (by first | (simp; done) | (simp; omega)) _ | refine Ext.trans ?_ (by assumption))))
  have kb0_0 : wb.cell? ⟨w.heap.size, 0, none⟩ = some (.int .i64 H0) := by (rw [hwb]; first | (simp [World.cell?_alloc_at, World.cell?_alloc_past]; done) | (rw [World.cell?_alloc_new]; rfl) | (rw [World.cell?_alloc_lt _ _ _ (by simp), World.cell?_alloc_new]; rfl))
  have kb0_1 : wb.cell? ⟨w.heap.size, 1, none⟩ = some (.slice A0 n0 c0) := by (rw [hwb]; first | (simp [World.cell?_alloc_at, World.cell?_alloc_past]; done) | (rw [World.cell?_alloc_new]; rfl) | (rw [World.cell?_alloc_lt _ _ _ (by simp), World.cell?_alloc_new]; rfl))
  have kb1_0 : wb.cell? ⟨w.heap.size + 1, 0, none⟩ = some (.int .i64 a3.o) := by (rw [hwb]; first | (simp [World.cell?_alloc_at, World.cell?_alloc_past]; done) | (rw [World.cell?_alloc_new]; rfl) | (rw [World.cell?_alloc_lt _ _ _ (by simp), World.cell?_alloc_new]; rfl))
  have kb1_1 : wb.cell? ⟨w.heap.size + 1, 1, none⟩ = some (.int .i64 a3.t) := by (rw [hwb]; first | (simp [World.cell?_alloc_at, World.cell?_alloc_past]; done) | (rw [World.cell?_alloc_new]; rfl) | (rw [World.cell?_alloc_lt _ _ _ (by simp), World.cell?_alloc_new]; rfl))
  have kb1_2 : wb.cell? ⟨w.heap.size + 1, 2, none⟩ = some (.int .i64 a3.f) := by (rw [hwb]; first | (simp [World.cell?_alloc_at, World.cell?_alloc_past]; done) | (rw [World.cell?_alloc_new]; rfl) | (rw [World.cell?_alloc_lt _ _ _ (by simp), World.cell?_alloc_new]; rfl))
  have kb1_3 : wb.cell? ⟨w.heap.size + 1, 3, none⟩ = some (.int .i64 a3.s) := by (rw [hwb]; first | (simp [World.cell?_alloc_at, World.cell?_alloc_past]; done) | (rw [World.cell?_alloc_new]; rfl) | (rw [World.cell?_alloc_lt _ _ _ (by simp), World.cell?_alloc_new]; rfl))
  clear hwb
  replace hx0 := hx0.keep Eb.out
  replace hx1 := hx1.keep Eb.out
  replace hx2 := hx2.keep Eb.out
  have eb0 := Ext.refl wb
  refine (laws_szHouse _ _ _ _ _ _ (by omega) (by omega) hnn0).mono ?_
  rintro e w1 ⟨he, b1⟩
  rw [if_neg (by omega)] at he
  subst he
  have eb1 := eb0.trans b1
  have z1 := b1.size
  clear b1 eb0
  (try clear k0)
  have k0 := fun o => eb1.cellAt (w.heap.size) (by omega) o
  (try clear k1)
  have k1 := fun o => eb1.cellAt (w.heap.size + 1) (by omega) o
  go_wp2_with fail
  have s0_0 := (k0 0).trans kb0_0
  have s0_1 := (k0 1).trans kb0_1
  have s1_0 := (k1 0).trans kb1_0
  have s1_1 := (k1 1).trans kb1_1
  have s1_2 := (k1 2).trans kb1_2
  have s1_3 := (k1 3).trans kb1_3
  go_region_held3 (fun w' => w'.cell? ⟨w.heap.size, 0, none⟩ = some (.int .i64 H0) ∧ w'.cell? ⟨w.heap.size, 1, none⟩ = some (.slice A0 n0 c0) ∧ w'.cell? ⟨w.heap.size + 1, 0, none⟩ = some (.int .i64 a3.o) ∧ w'.cell? ⟨w.heap.size + 1, 1, none⟩ = some (.int .i64 a3.t) ∧ w'.cell? ⟨w.heap.size + 1, 2, none⟩ = some (.int .i64 a3.f) ∧ w'.cell? ⟨w.heap.size + 1, 3, none⟩ = some (.int .i64 a3.s)) (go_keep) (first | (go_at_call 16; refine (laws_toHouse _ _ _ _ a0 _ ((hx0.keep eb1).keep ((Ext.refl _).drewN 1)) hn0).mono ?_; rintro e w2 ⟨gW_0, rfl, b2, oW_0⟩; have y2_0 := b2.cellAt (w.heap.size) (by first | omega | (simp; omega)); have y2_1 := b2.cellAt (w.heap.size + 1) (by first | omega | (simp; omega)); have zz2 : w1.heap.size ≤ w2.heap.size := b2.size) | (go_at_call 20; with_reducible show Calls _ _ #[.slice A1 n1 c1] _ _; refine (laws_toIntS A1 n1 c1 a1 _ ((hx1.keep eb1).keep (Ext.trans ((Ext.refl _).drewN 1) b2)) hn1).mono ?_; rintro e w3 ⟨gW_1, rfl, b3, oW_1⟩; have y3_0 := b3.cellAt (w.heap.size) (by first | omega | (simp; omega)); have y3_1 := b3.cellAt (w.heap.size + 1) (by first | omega | (simp; omega)); have zz3 : w2.heap.size ≤ w3.heap.size := b3.size) | (go_at_call 20; with_reducible show Calls _ _ #[.slice A2 n2 c2] _ _; refine (laws_toIntS A2 n2 c2 a2 _ ((hx2.keep eb1).keep (Ext.trans ((Ext.refl _).drewN 1) (Ext.trans b2 b3))) hn2).mono ?_; rintro e w4 ⟨gW_2, rfl, b4, oW_2⟩; have y4_0 := b4.cellAt (w.heap.size) (by first | omega | (simp; omega)); have y4_1 := b4.cellAt (w.heap.size + 1) (by first | omega | (simp; omega)); have zz4 : w3.heap.size ≤ w4.heap.size := b4.size) | (go_at_call 31; refine (laws_toMove a3 _).mono ?_; rintro e w5 ⟨rfl, b5⟩; have y5_0 := b5.cellAt (w.heap.size) (by first | omega | (simp; omega)); have y5_1 := b5.cellAt (w.heap.size + 1) (by first | omega | (simp; omega)); have zz5 : w4.heap.size ≤ w5.heap.size := b5.size) | (go_at_call 38; refine (spec_MoveObject H0 _ _ _ a0 _ _ _ a1 _ _ _ a2 a3 _ (Rd.of_own (own_keep oW_0 (Ext.trans b3 (Ext.trans b4 b5)))) (Rd.of_own (own_keep oW_1 (Ext.trans b4 b5))) (Rd.of_own (own_keep oW_2 b5)) (Lib.hid (own_nilcap (own_keep oW_1 (Ext.trans b4 b5)))) hn1).mono ?_; rintro e w6 ⟨vW, rfl, b6, orW⟩; have y6_0 := b6.cellAt (w.heap.size) (by first | omega | (simp; omega)); have y6_1 := b6.cellAt (w.heap.size + 1) (by first | omega | (simp; omega)); have zz6 : w5.heap.size ≤ w6.heap.size := b6.size))
  have eb6 := (eb1.drewN 1).trans (Ext.trans b2 (Ext.trans b3 (Ext.trans b4 (Ext.trans b5 b6))))
  have z6 : w1.heap.size ≤ w6.heap.size := Ext.size (((Ext.refl w1).drewN 1).trans (Ext.trans b2 (Ext.trans b3 (Ext.trans b4 (Ext.trans b5 b6)))))
  clear oW_0
  clear oW_1
  clear oW_2
  clear s0_0 s0_1 s1_0 s1_1 s1_2 s1_3
  clear y2_0 y2_1 y3_0 y3_1 y4_0 y4_1 y5_0 y5_1 y6_0 y6_1
  clear b2 b3 b4 b5 b6 eb1
  (try clear k0)
  have k0 := fun o => eb6.cellAt (w.heap.size) (by omega) o
  (try clear k1)
  have k1 := fun o => eb6.cellAt (w.heap.size + 1) (by omega) o
  obtain ⟨AW, cW, rfl, _⟩ := own_form orW
  have at_orW := At.of_own orW
  go_wp2_with fail
  refine (laws_toHouse _ _ _ _ a0 _ (hx0.keep eb6) hn0).mono ?_
  rintro e w7 ⟨gX0, rfl, b7, oX0⟩
  have eb7 := eb6.trans b7
  have z7 := b7.size
  replace orW := own_keep orW b7
  clear b7 eb6
  (try clear k0)
  have k0 := fun o => eb7.cellAt (w.heap.size) (by omega) o
  (try clear k1)
  have k1 := fun o => eb7.cellAt (w.heap.size + 1) (by omega) o
  have at_oX0 := At.of_own oX0
  go_wp2_with fail
  obtain ⟨w8, hw8⟩ : ∃ w8, w8 = w7.alloc (.cells #[.int .i64 H0, .slice (some ⟨gX0, 0, none⟩) n0 n0] 29) := ⟨_, rfl⟩
  rw [← hw8]
  obtain ⟨b8, hz8, xk0_0, xk0_1⟩ := box2 w7 _ _ _ w8 hw8
  clear hw8
  obtain ⟨gb0, hgb0⟩ : ∃ gb, gb = w7.heap.size := ⟨_, rfl⟩
  rw [← hgb0] at xk0_0 xk0_1 ⊢
  have eb8 := eb7.trans b8
  have z8 := b8.size
  replace orW := own_keep orW b8
  replace oX0 := own_keep oX0 b8
  clear b8 eb7
  (try clear k0)
  have k0 := fun o => eb8.cellAt (w.heap.size) (by omega) o
  (try clear k1)
  have k1 := fun o => eb8.cellAt (w.heap.size + 1) (by omega) o
  have ex08 := Ext.refl w8
  have hgbl0 : gb0 < w8.heap.size ∧ wb.heap.size ≤ gb0 := by (have := eb8.size; omega)
  clear hgb0 hz8
  go_wp2_with fail
  refine (laws_toIntS _ _ _ a1 _ (hx1.keep eb8) hn1).mono ?_
  rintro e w9 ⟨gX1, rfl, b9, oX1⟩
  have eb9 := eb8.trans b9
  have ex09 := ex08.trans b9
  have z9 := b9.size
  replace orW := own_keep orW b9
  replace oX0 := own_keep oX0 b9
  clear b9 eb8 ex08
  (try clear k0)
  have k0 := fun o => eb9.cellAt (w.heap.size) (by omega) o
  (try clear k1)
  have k1 := fun o => eb9.cellAt (w.heap.size + 1) (by omega) o
  (try clear k2)
  have k2 := fun o => ex09.cellAt (gb0) (by omega) o
  have at_oX1 := At.of_own oX1
  go_wp2_with fail
  refine (laws_toIntS _ _ _ a2 _ (hx2.keep eb9) hn2).mono ?_
  rintro e w10 ⟨gX2, rfl, b10, oX2⟩
  have eb10 := eb9.trans b10
  have ex010 := ex09.trans b10
  have z10 := b10.size
  replace orW := own_keep orW b10
  replace oX0 := own_keep oX0 b10
  replace oX1 := own_keep oX1 b10
  clear b10 eb9 ex09
  (try clear k0)
  have k0 := fun o => eb10.cellAt (w.heap.size) (by omega) o
  (try clear k1)
  have k1 := fun o => eb10.cellAt (w.heap.size + 1) (by omega) o
  (try clear k2)
  have k2 := fun o => ex010.cellAt (gb0) (by omega) o
  have at_oX2 := At.of_own oX2
  go_wp2_with fail
  have s0_0 := (k0 0).trans kb0_0
  have s0_1 := (k0 1).trans kb0_1
  have s1_0 := (k1 0).trans kb1_0
  have s1_1 := (k1 1).trans kb1_1
  have s1_2 := (k1 2).trans kb1_2
  have s1_3 := (k1 3).trans kb1_3
  have s2_0 := (k2 0).trans xk0_0
  have s2_1 := (k2 1).trans xk0_1
  go_region_held3 (fun w' => w'.cell? ⟨w.heap.size, 0, none⟩ = some (.int .i64 H0) ∧ w'.cell? ⟨w.heap.size, 1, none⟩ = some (.slice A0 n0 c0) ∧ w'.cell? ⟨w.heap.size + 1, 0, none⟩ = some (.int .i64 a3.o) ∧ w'.cell? ⟨w.heap.size + 1, 1, none⟩ = some (.int .i64 a3.t) ∧ w'.cell? ⟨w.heap.size + 1, 2, none⟩ = some (.int .i64 a3.f) ∧ w'.cell? ⟨w.heap.size + 1, 3, none⟩ = some (.int .i64 a3.s) ∧ w'.cell? ⟨gb0, 0, none⟩ = some (.int .i64 H0) ∧ w'.cell? ⟨gb0, 1, none⟩ = some (.slice (some ⟨gX0, 0, none⟩) n0 n0)) (go_keep) (first | (go_at_call 31; refine (laws_toMove a3 _).mono ?_; rintro e w11 ⟨rfl, b11⟩; have y11_0 := b11.cellAt (w.heap.size) (by first | omega | (simp; omega)); have y11_1 := b11.cellAt (w.heap.size + 1) (by first | omega | (simp; omega)); have y11_2 := b11.cellAt (gb0) (by first | omega | (simp; omega)); have zz11 : w10.heap.size ≤ w11.heap.size := b11.size) | (go_at_call 39; refine (impl_MoveObject H0 _ _ _ a0 _ _ _ a1 _ _ _ a2 a3 _ (Rd.of_own (own_keep oX0 (Ext.trans ((Ext.refl _).drewN 1) b11))) (Rd.of_own (own_keep oX1 (Ext.trans ((Ext.refl _).drewN 1) b11))) (Rd.of_own (own_keep oX2 (Ext.trans ((Ext.refl _).drewN 1) b11))) (Lib.hid (own_nilcap (own_keep oX1 (Ext.trans ((Ext.refl _).drewN 1) b11)))) hn1).mono ?_; rintro e w12 ⟨vG, rfl, b12, orG⟩; have y12_0 := b12.cellAt (w.heap.size) (by first | omega | (simp; omega)); have y12_1 := b12.cellAt (w.heap.size + 1) (by first | omega | (simp; omega)); have y12_2 := b12.cellAt (gb0) (by first | omega | (simp; omega)); have zz12 : w11.heap.size ≤ w12.heap.size := b12.size))
  have eb12 := (eb10.drewN 1).trans (Ext.trans b11 b12)
  have ex012 := (ex010.drewN 1).trans (Ext.trans b11 b12)
  have z12 : w10.heap.size ≤ w12.heap.size := Ext.size (((Ext.refl w10).drewN 1).trans (Ext.trans b11 b12))
  replace orW := own_keep orW (((Ext.refl w10).drewN 1).trans (Ext.trans b11 b12))
  replace oX0 := own_keep oX0 (((Ext.refl w10).drewN 1).trans (Ext.trans b11 b12))
  replace oX1 := own_keep oX1 (((Ext.refl w10).drewN 1).trans (Ext.trans b11 b12))
  replace oX2 := own_keep oX2 (((Ext.refl w10).drewN 1).trans (Ext.trans b11 b12))
  clear s0_0 s0_1 s1_0 s1_1 s1_2 s1_3 s2_0 s2_1
  clear y11_0 y11_1 y11_2 y12_0 y12_1 y12_2
  clear b11 b12 eb10 ex010
  (try clear k0)
  have k0 := fun o => eb12.cellAt (w.heap.size) (by omega) o
  (try clear k1)
  have k1 := fun o => eb12.cellAt (w.heap.size + 1) (by omega) o
  (try clear k2)
  have k2 := fun o => ex012.cellAt (gb0) (by omega) o
  obtain ⟨AG, cG, rfl, _⟩ := own_form orG
  have at_orG := At.of_own orG
  go_wp2_with fail
  refine (laws_eqIntS _ _ _ _ _ _ _ _ (Rd.of_own orG) (Rd.of_own orW)).mono ?_
  rintro e w13 ⟨rfl, b13⟩
  have eb13 := eb12.trans b13
  have ex013 := ex012.trans b13
  have z13 := b13.size
  replace orW := own_keep orW b13
  replace oX0 := own_keep oX0 b13
  replace oX1 := own_keep oX1 b13
  replace oX2 := own_keep oX2 b13
  replace orG := own_keep orG b13
  clear b13 eb12 ex012
  (try clear k0)
  have k0 := fun o => eb13.cellAt (w.heap.size) (by omega) o
  (try clear k1)
  have k1 := fun o => eb13.cellAt (w.heap.size + 1) (by omega) o
  (try clear k2)
  have k2 := fun o => ex013.cellAt (gb0) (by omega) o
  go_wp2_with fail
  have s0 := (k0 0).trans kb0_0
  have s1 := (k0 1).trans kb0_1
  have s2 := (k2 0).trans xk0_0
  have s3 := (k2 1).trans xk0_1
  go_region_held3 (fun w' => w'.cell? ⟨w.heap.size, 0, none⟩ = some (.int .i64 H0) ∧ w'.cell? ⟨w.heap.size, 1, none⟩ = some (.slice A0 n0 c0) ∧ w'.cell? ⟨gb0, 0, none⟩ = some (.int .i64 H0) ∧ w'.cell? ⟨gb0, 1, none⟩ = some (.slice (some ⟨gX0, 0, none⟩) n0 n0)) (go_keep) (first | (go_at_call 16; refine (laws_toHouse _ _ _ _ a0 _ ((hx0.keep eb13).keep ((Ext.refl _).drewN 1)) hn0).mono ?_; rintro e w14 ⟨gY0, rfl, b14, oY0⟩; have k := b14.cellAt (w.heap.size) (by first | omega | (simp; omega)); have k' := b14.cellAt gb0 (by first | omega | (simp; omega)); have zz : w13.heap.size ≤ w14.heap.size := b14.size) | (go_at_call 18; refine (laws_eqHouse _ _ _ _ _ _ _ a0 _ (Rd.of_own (own_keep (own_keep oX0 ((Ext.refl _).drewN 1)) b14)) (Rd.of_own oY0)).mono ?_; rintro e w15 ⟨rfl, b15⟩; have q := b15.cellAt (w.heap.size) (by omega); have q' := b15.cellAt gb0 (by omega)))
  have eb15 := (eb13.drewN 1).trans (b14.trans b15)
  have ex015 := (ex013.drewN 1).trans (b14.trans b15)
  have z15 : w13.heap.size ≤ w15.heap.size := (((Ext.refl w13).drewN 1).trans (Ext.trans b14 b15)).size
  replace orW := own_keep orW (((Ext.refl w13).drewN 1).trans (b14.trans b15))
  replace oX0 := own_keep oX0 (((Ext.refl w13).drewN 1).trans (b14.trans b15))
  replace oX1 := own_keep oX1 (((Ext.refl w13).drewN 1).trans (b14.trans b15))
  replace oX2 := own_keep oX2 (((Ext.refl w13).drewN 1).trans (b14.trans b15))
  replace orG := own_keep orG (((Ext.refl w13).drewN 1).trans (b14.trans b15))
  clear s0 s1 s2 s3 k k' q q' zz oY0 b14 b15 eb13 ex013
  (try clear k0)
  have k0 := fun o => eb15.cellAt (w.heap.size) (by omega) o
  (try clear k1)
  have k1 := fun o => eb15.cellAt (w.heap.size + 1) (by omega) o
  (try clear k2)
  have k2 := fun o => ex015.cellAt (gb0) (by omega) o
  go_wp2_with fail
  refine (laws_toIntS _ _ _ a1 _ (hx1.keep eb15) hn1).mono ?_
  rintro e w16 ⟨gY1, rfl, b16, oY1⟩
  have eb16 := eb15.trans b16
  have ex016 := ex015.trans b16
  have z16 := b16.size
  replace orW := own_keep orW b16
  replace oX0 := own_keep oX0 b16
  replace oX1 := own_keep oX1 b16
  replace oX2 := own_keep oX2 b16
  replace orG := own_keep orG b16
  clear b16 eb15 ex015
  (try clear k0)
  have k0 := fun o => eb16.cellAt (w.heap.size) (by omega) o
  (try clear k1)
  have k1 := fun o => eb16.cellAt (w.heap.size + 1) (by omega) o
  (try clear k2)
  have k2 := fun o => ex016.cellAt (gb0) (by omega) o
  have at_oY1 := At.of_own oY1
  go_wp2_with fail
  refine (laws_eqIntS _ _ _ _ _ _ _ _ (Rd.of_own oX1) (Rd.of_own oY1)).mono ?_
  rintro e w17 ⟨rfl, b17⟩
  have eb17 := eb16.trans b17
  have ex017 := ex016.trans b17
  have z17 := b17.size
  replace orW := own_keep orW b17
  replace oX0 := own_keep oX0 b17
  replace oX1 := own_keep oX1 b17
  replace oX2 := own_keep oX2 b17
  replace orG := own_keep orG b17
  replace oY1 := own_keep oY1 b17
  clear b17 eb16 ex016
  (try clear k0)
  have k0 := fun o => eb17.cellAt (w.heap.size) (by omega) o
  (try clear k1)
  have k1 := fun o => eb17.cellAt (w.heap.size + 1) (by omega) o
  (try clear k2)
  have k2 := fun o => ex017.cellAt (gb0) (by omega) o
  clear oY1
  go_wp2_with fail
  refine (laws_toIntS _ _ _ a2 _ (hx2.keep eb17) hn2).mono ?_
  rintro e w18 ⟨gY2, rfl, b18, oY2⟩
  have eb18 := eb17.trans b18
  have ex018 := ex017.trans b18
  have z18 := b18.size
  replace orW := own_keep orW b18
  replace oX0 := own_keep oX0 b18
  replace oX1 := own_keep oX1 b18
  replace oX2 := own_keep oX2 b18
  replace orG := own_keep orG b18
  clear b18 eb17 ex017
  (try clear k0)
  have k0 := fun o => eb18.cellAt (w.heap.size) (by omega) o
  (try clear k1)
  have k1 := fun o => eb18.cellAt (w.heap.size + 1) (by omega) o
  (try clear k2)
  have k2 := fun o => ex018.cellAt (gb0) (by omega) o
  have at_oY2 := At.of_own oY2
  go_wp2_with fail
  refine (laws_eqIntS _ _ _ _ _ _ _ _ (Rd.of_own oX2) (Rd.of_own oY2)).mono ?_
  rintro e w19 ⟨rfl, b19⟩
  have eb19 := eb18.trans b19
  have ex019 := ex018.trans b19
  have z19 := b19.size
  replace orW := own_keep orW b19
  replace oX0 := own_keep oX0 b19
  replace oX1 := own_keep oX1 b19
  replace oX2 := own_keep oX2 b19
  replace orG := own_keep orG b19
  replace oY2 := own_keep oY2 b19
  clear b19 eb18 ex018
  (try clear k0)
  have k0 := fun o => eb19.cellAt (w.heap.size) (by omega) o
  (try clear k1)
  have k1 := fun o => eb19.cellAt (w.heap.size + 1) (by omega) o
  (try clear k2)
  have k2 := fun o => ex019.cellAt (gb0) (by omega) o
  clear oY2
  have hLn : (moveL H0 a0 a1 a2 a3).length ≤ 1048576 := by rw [moveL_len, hx1.len ienc_len (by omega)]; exact hn1
  go_wp2_with fail
  refine (laws_markHouse _ _ _ _ _ _ _ _ oX0 hn0 (by omega) (by omega)).mono ?_
  rintro e w20 ⟨rfl, om20, hg20⟩
  clear ex019
  (try clear k2)
  have eb20 := ext_kept eb19 at_oX0 (by omega) hg20
  have z20 := hg20.size
  replace orW := own_kept orW at_orW at_oX0 (by omega) hg20
  replace orG := own_kept orG at_orG at_oX0 (by omega) hg20
  replace oX1 := own_kept oX1 at_oX1 at_oX0 (by omega) hg20
  replace oX2 := own_kept oX2 at_oX2 at_oX0 (by omega) hg20
  clear oX0 hg20 eb19
  clear om20
  (try clear k0)
  have k0 := fun o => eb20.cellAt (w.heap.size) (by omega) o
  (try clear k1)
  have k1 := fun o => eb20.cellAt (w.heap.size + 1) (by omega) o
  go_wp2_with fail
  refine (laws_markIntS _ _ _ _ _ _ _ oX1 hn1 (by omega) (by omega)).mono ?_
  rintro e w21 ⟨rfl, om21, hg21⟩
  have eb21 := ext_kept eb20 at_oX1 (by omega) hg21
  have z21 := hg21.size
  replace orW := own_kept orW at_orW at_oX1 (by omega) hg21
  replace orG := own_kept orG at_orG at_oX1 (by omega) hg21
  replace oX2 := own_kept oX2 at_oX2 at_oX1 (by omega) hg21
  clear oX1 hg21 eb20
  clear om21
  (try clear k0)
  have k0 := fun o => eb21.cellAt (w.heap.size) (by omega) o
  (try clear k1)
  have k1 := fun o => eb21.cellAt (w.heap.size + 1) (by omega) o
  go_wp2_with fail
  refine (laws_markIntS _ _ _ _ _ _ _ oX2 hn2 (by omega) (by omega)).mono ?_
  rintro e w22 ⟨rfl, om22, hg22⟩
  have eb22 := ext_kept eb21 at_oX2 (by omega) hg22
  have z22 := hg22.size
  replace orW := own_kept orW at_orW at_oX2 (by omega) hg22
  replace orG := own_kept orG at_orG at_oX2 (by omega) hg22
  clear oX2 hg22 eb21
  clear om22
  (try clear k0)
  have k0 := fun o => eb22.cellAt (w.heap.size) (by omega) o
  (try clear k1)
  have k1 := fun o => eb22.cellAt (w.heap.size + 1) (by omega) o
  go_wp2_with fail
  refine (laws_eqIntS _ _ _ _ _ _ _ _ (Rd.of_own orG) (Rd.of_own orW)).mono ?_
  rintro e w23 ⟨rfl, b23⟩
  have eb23 := eb22.trans b23
  have z23 := b23.size
  replace orW := own_keep orW b23
  replace orG := own_keep orG b23
  clear b23 eb22
  (try clear k0)
  have k0 := fun o => eb23.cellAt (w.heap.size) (by omega) o
  (try clear k1)
  have k1 := fun o => eb23.cellAt (w.heap.size + 1) (by omega) o
  go_wp2_with fail
  refine (laws_markIntS _ _ _ _ _ _ _ orG hLn (by omega) (by omega)).mono ?_
  rintro e w24 ⟨rfl, om24, hg24⟩
  have eb24 := ext_kept eb23 at_orG (by omega) hg24
  have z24 := hg24.size
  replace orW := own_kept orW at_orW at_orG (by omega) hg24
  clear orG hg24 eb23
  have orM := om24
  clear om24
  (try clear k0)
  have k0 := fun o => eb24.cellAt (w.heap.size) (by omega) o
  (try clear k1)
  have k1 := fun o => eb24.cellAt (w.heap.size + 1) (by omega) o
  go_wp2_with fail
  refine (laws_heldIntS _ _ _ _ _ (Rd.of_own orM) hLn (by omega) (by omega)).mono ?_
  rintro e w25 ⟨rfl, b25⟩
  have eb25 := eb24.trans b25
  have z25 := b25.size
  replace orW := own_keep orW b25
  replace orM := own_keep orM b25
  clear b25 eb24
  (try clear k0)
  have k0 := fun o => eb25.cellAt (w.heap.size) (by omega) o
  (try clear k1)
  have k1 := fun o => eb25.cellAt (w.heap.size + 1) (by omega) o
  go_wp2_with fail
  have s0_0 := (k0 0).trans kb0_0
  have s0_1 := (k0 1).trans kb0_1
  have s1_0 := (k1 0).trans kb1_0
  have s1_1 := (k1 1).trans kb1_1
  have s1_2 := (k1 2).trans kb1_2
  have s1_3 := (k1 3).trans kb1_3
  go_region_held3 (fun w' => w'.cell? ⟨w.heap.size, 0, none⟩ = some (.int .i64 H0) ∧ w'.cell? ⟨w.heap.size, 1, none⟩ = some (.slice A0 n0 c0) ∧ w'.cell? ⟨w.heap.size + 1, 0, none⟩ = some (.int .i64 a3.o) ∧ w'.cell? ⟨w.heap.size + 1, 1, none⟩ = some (.int .i64 a3.t) ∧ w'.cell? ⟨w.heap.size + 1, 2, none⟩ = some (.int .i64 a3.f) ∧ w'.cell? ⟨w.heap.size + 1, 3, none⟩ = some (.int .i64 a3.s)) (go_keep) (first | (go_at_call 16; refine (laws_toHouse _ _ _ _ a0 _ ((hx0.keep eb25).keep ((Ext.refl _).drewN 1)) hn0).mono ?_; rintro e w26 ⟨gH_0, rfl, b26, oH_0⟩; have y26_0 := b26.cellAt (w.heap.size) (by first | omega | (simp; omega)); have y26_1 := b26.cellAt (w.heap.size + 1) (by first | omega | (simp; omega)); have zz26 : w25.heap.size ≤ w26.heap.size := b26.size) | (go_at_call 20; with_reducible show Calls _ _ #[.slice A1 n1 c1] _ _; refine (laws_toIntS A1 n1 c1 a1 _ ((hx1.keep eb25).keep (Ext.trans ((Ext.refl _).drewN 1) b26)) hn1).mono ?_; rintro e w27 ⟨gH_1, rfl, b27, oH_1⟩; have y27_0 := b27.cellAt (w.heap.size) (by first | omega | (simp; omega)); have y27_1 := b27.cellAt (w.heap.size + 1) (by first | omega | (simp; omega)); have zz27 : w26.heap.size ≤ w27.heap.size := b27.size) | (go_at_call 20; with_reducible show Calls _ _ #[.slice A2 n2 c2] _ _; refine (laws_toIntS A2 n2 c2 a2 _ ((hx2.keep eb25).keep (Ext.trans ((Ext.refl _).drewN 1) (Ext.trans b26 b27))) hn2).mono ?_; rintro e w28 ⟨gH_2, rfl, b28, oH_2⟩; have y28_0 := b28.cellAt (w.heap.size) (by first | omega | (simp; omega)); have y28_1 := b28.cellAt (w.heap.size + 1) (by first | omega | (simp; omega)); have zz28 : w27.heap.size ≤ w28.heap.size := b28.size) | (go_at_call 31; refine (laws_toMove a3 _).mono ?_; rintro e w29 ⟨rfl, b29⟩; have y29_0 := b29.cellAt (w.heap.size) (by first | omega | (simp; omega)); have y29_1 := b29.cellAt (w.heap.size + 1) (by first | omega | (simp; omega)); have zz29 : w28.heap.size ≤ w29.heap.size := b29.size) | (go_at_call 39; refine (impl_MoveObject H0 _ _ _ a0 _ _ _ a1 _ _ _ a2 a3 _ (Rd.of_own (own_keep oH_0 (Ext.trans b27 (Ext.trans b28 b29)))) (Rd.of_own (own_keep oH_1 (Ext.trans b28 b29))) (Rd.of_own (own_keep oH_2 b29)) (Lib.hid (own_nilcap (own_keep oH_1 (Ext.trans b28 b29)))) hn1).mono ?_; rintro e w30 ⟨vH, rfl, b30, orH⟩; have y30_0 := b30.cellAt (w.heap.size) (by first | omega | (simp; omega)); have y30_1 := b30.cellAt (w.heap.size + 1) (by first | omega | (simp; omega)); have zz30 : w29.heap.size ≤ w30.heap.size := b30.size))
  have eb30 := (eb25.drewN 1).trans (Ext.trans b26 (Ext.trans b27 (Ext.trans b28 (Ext.trans b29 b30))))
  have z30 : w25.heap.size ≤ w30.heap.size := Ext.size (((Ext.refl w25).drewN 1).trans (Ext.trans b26 (Ext.trans b27 (Ext.trans b28 (Ext.trans b29 b30)))))
  replace orW := own_keep orW (((Ext.refl w25).drewN 1).trans (Ext.trans b26 (Ext.trans b27 (Ext.trans b28 (Ext.trans b29 b30)))))
  replace orM := own_keep orM (((Ext.refl w25).drewN 1).trans (Ext.trans b26 (Ext.trans b27 (Ext.trans b28 (Ext.trans b29 b30)))))
  clear oH_0
  clear oH_1
  clear oH_2
  clear s0_0 s0_1 s1_0 s1_1 s1_2 s1_3
  clear y26_0 y26_1 y27_0 y27_1 y28_0 y28_1 y29_0 y29_1 y30_0 y30_1
  clear b26 b27 b28 b29 b30 eb25
  (try clear k0)
  have k0 := fun o => eb30.cellAt (w.heap.size) (by omega) o
  (try clear k1)
  have k1 := fun o => eb30.cellAt (w.heap.size + 1) (by omega) o
  obtain ⟨AH, cH, rfl, _⟩ := own_form orH
  have at_orH := At.of_own orH
  go_wp2_with fail
  refine (laws_eqIntS _ _ _ _ _ _ _ _ (Rd.of_own orH) (Rd.of_own orW)).mono ?_
  rintro e w31 ⟨rfl, b31⟩
  have eb31 := eb30.trans b31
  have z31 := b31.size
  replace orW := own_keep orW b31
  replace orM := own_keep orM b31
  replace orH := own_keep orH b31
  clear b31 eb30
  (try clear k0)
  have k0 := fun o => eb31.cellAt (w.heap.size) (by omega) o
  (try clear k1)
  have k1 := fun o => eb31.cellAt (w.heap.size + 1) (by omega) o
  go_wp2_with fail
  refine (laws_heldIntS _ _ _ _ _ (Rd.of_own orM) hLn (by omega) (by omega)).mono ?_
  rintro e w32 ⟨rfl, b32⟩
  have eb32 := eb31.trans b32
  have z32 := b32.size
  replace orW := own_keep orW b32
  replace orM := own_keep orM b32
  replace orH := own_keep orH b32
  clear b32 eb31
  (try clear k0)
  have k0 := fun o => eb32.cellAt (w.heap.size) (by omega) o
  (try clear k1)
  have k1 := fun o => eb32.cellAt (w.heap.size + 1) (by omega) o
  go_wp2_with fail
  go_ret
  exact ⟨rfl, Eb.out.trans eb32⟩
end Go.Proofs.Ytcmbjkidgemdaaa
