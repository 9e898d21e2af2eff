/- The walk of the law on HallsWith; no condition. -/
import Derived.Test.YtcmbjkidgemdaaaSHs
import Derived.Test.YtcmbjkidgemdaaaH3
namespace Go.Proofs.Ytcmbjkidgemdaaa
set_option linter.unusedSimpArgs false
set_option linter.unusedVariables false
open Go.RowKit
set_option maxRecDepth 100000 in
set_option maxHeartbeats 8000000 in
theorem law_HallsWith (H0 : Int) (A0 : Option Addr) (n0 c0 : Nat) (a0 : List GDoor) (a1 : Int) (a2 : Int) (w : World) (hx0 : Rd w 2 A0 n0 (a0.flatMap GDoor.enc)) :
    Calls Try.prog 7 #[.agg #[.int .i64 H0, .slice A0 n0 c0], .int .i64 a1, .int .i64 a2] w fun e w' => e = .returned (.bool true) ∧ Ext w w' := by
  have hnn0 := hx0.2.1
  by_cases hq0 : n0 ≤ 1048576
  case neg =>
    go_enter Try.func7, Try.ntmps7
    go_wp2_with fail
    obtain ⟨wb, hwb⟩ : ∃ wb, wb = (w.alloc (.cells #[.int .i64 H0, .slice A0 n0 c0] 24)) := ⟨_, rfl⟩
    rw [← hwb]
    have hsb : w.heap.size + 1 ≤ wb.heap.size := by rw [hwb]; simp
    have Eb := Lib.hid (show Ext w wb from by rw [hwb]; (repeat (first | exact Ext.refl _ | assumption | refine Ext.alloc ?_ _ | refine Ext.drew ?_ | refine Ext.drewN ?_ _ | refine Ext.setCell ?_ (by first | (simp; done) | (simp; omega)) _ | refine Ext.trans ?_ (by assumption))))
    have kb0_0 : wb.cell? ⟨w.heap.size, 0, none⟩ = some (.int .i64 H0) := by (rw [hwb]; first | (simp [World.cell?_alloc_at, World.cell?_alloc_past]; done) | (rw [World.cell?_alloc_new]; rfl) | (rw [World.cell?_alloc_lt _ _ _ (by simp), World.cell?_alloc_new]; rfl))
    have kb0_1 : wb.cell? ⟨w.heap.size, 1, none⟩ = some (.slice A0 n0 c0) := by (rw [hwb]; first | (simp [World.cell?_alloc_at, World.cell?_alloc_past]; done) | (rw [World.cell?_alloc_new]; rfl) | (rw [World.cell?_alloc_lt _ _ _ (by simp), World.cell?_alloc_new]; rfl))
    clear hwb
    replace hx0 := hx0.keep Eb.out
    have eb0 := Ext.refl wb
    refine (laws_szHouse _ _ _ _ _ _ (by omega) (by omega) hnn0).mono ?_
    rintro e w1 ⟨he, b1⟩
    rw [if_pos (by omega)] at he
    subst he
    have eb1 := eb0.trans b1
    have z1 := b1.size
    clear b1 eb0
    (try clear k0)
    have k0 := fun o => eb1.cellAt (w.heap.size) (by omega) o
    go_wp2_with fail
    go_ret
    exact ⟨rfl, Eb.out.trans eb1⟩
  have hn0 : n0 ≤ 1048576 := by omega
  go_enter Try.func7, Try.ntmps7
  go_wp2_with fail
  obtain ⟨wb, hwb⟩ : ∃ wb, wb = (w.alloc (.cells #[.int .i64 H0, .slice A0 n0 c0] 24)) := ⟨_, rfl⟩
  rw [← hwb]
  have hsb : w.heap.size + 1 ≤ wb.heap.size := by rw [hwb]; simp
  have Eb := Lib.hid (show Ext w wb from by rw [hwb]; (repeat (first | exact Ext.refl _ | assumption | refine Ext.alloc ?_ _ | refine Ext.drew ?_ | refine Ext.drewN ?_ _ | refine Ext.setCell ?_ (by first | (simp; done) | (simp; omega)) _ | refine Ext.trans ?_ (by assumption))))
  have kb0_0 : wb.cell? ⟨w.heap.size, 0, none⟩ = some (.int .i64 H0) := by (rw [hwb]; first | (simp [World.cell?_alloc_at, World.cell?_alloc_past]; done) | (rw [World.cell?_alloc_new]; rfl) | (rw [World.cell?_alloc_lt _ _ _ (by simp), World.cell?_alloc_new]; rfl))
  have kb0_1 : wb.cell? ⟨w.heap.size, 1, none⟩ = some (.slice A0 n0 c0) := by (rw [hwb]; first | (simp [World.cell?_alloc_at, World.cell?_alloc_past]; done) | (rw [World.cell?_alloc_new]; rfl) | (rw [World.cell?_alloc_lt _ _ _ (by simp), World.cell?_alloc_new]; rfl))
  clear hwb
  replace hx0 := hx0.keep Eb.out
  have eb0 := Ext.refl wb
  refine (laws_szHouse _ _ _ _ _ _ (by omega) (by omega) hnn0).mono ?_
  rintro e w1 ⟨he, b1⟩
  rw [if_neg (by omega)] at he
  subst he
  have eb1 := eb0.trans b1
  have z1 := b1.size
  clear b1 eb0
  (try clear k0)
  have k0 := fun o => eb1.cellAt (w.heap.size) (by omega) o
  go_wp2_with fail
  refine (laws_toHouse _ _ _ _ a0 _ (hx0.keep eb1) hn0).mono ?_
  rintro e w2 ⟨gW_0, rfl, b2, oW_0⟩
  have eb2 := eb1.trans b2
  have z2 := b2.size
  clear b2 eb1
  (try clear k0)
  have k0 := fun o => eb2.cellAt (w.heap.size) (by omega) o
  have at_oW_0 := At.of_own oW_0
  go_wp2_with fail
  refine (spec_HallsWith H0 _ _ _ a0 a1 a2 _ (Rd.of_own oW_0)).mono ?_
  rintro e w3 ⟨vW, rfl, b3, orW⟩
  have eb3 := eb2.trans b3
  have z3 := b3.size
  replace oW_0 := own_keep oW_0 b3
  clear b3 eb2
  (try clear k0)
  have k0 := fun o => eb3.cellAt (w.heap.size) (by omega) o
  clear oW_0
  obtain ⟨AW, cW, rfl, _⟩ := own_form orW
  have at_orW := At.of_own orW
  go_wp2_with fail
  refine (laws_toHouse _ _ _ _ a0 _ (hx0.keep eb3) hn0).mono ?_
  rintro e w4 ⟨gX0, rfl, b4, oX0⟩
  have eb4 := eb3.trans b4
  have z4 := b4.size
  replace orW := own_keep orW b4
  clear b4 eb3
  (try clear k0)
  have k0 := fun o => eb4.cellAt (w.heap.size) (by omega) o
  have at_oX0 := At.of_own oX0
  go_wp2_with fail
  obtain ⟨w5, hw5⟩ : ∃ w5, w5 = w4.alloc (.cells #[.int .i64 H0, .slice (some ⟨gX0, 0, none⟩) n0 n0] 29) := ⟨_, rfl⟩
  rw [← hw5]
  obtain ⟨b5, hz5, xk0_0, xk0_1⟩ := box2 w4 _ _ _ w5 hw5
  clear hw5
  obtain ⟨gb0, hgb0⟩ : ∃ gb, gb = w4.heap.size := ⟨_, rfl⟩
  rw [← hgb0] at xk0_0 xk0_1 ⊢
  have eb5 := eb4.trans b5
  have z5 := b5.size
  replace orW := own_keep orW b5
  replace oX0 := own_keep oX0 b5
  clear b5 eb4
  (try clear k0)
  have k0 := fun o => eb5.cellAt (w.heap.size) (by omega) o
  have ex05 := Ext.refl w5
  have hgbl0 : gb0 < w5.heap.size ∧ wb.heap.size ≤ gb0 := by (have := eb5.size; omega)
  clear hgb0 hz5
  go_wp2_with fail
  refine (impl_HallsWith H0 _ _ _ a0 a1 a2 _ (Rd.of_own oX0)).mono ?_
  rintro e w6 ⟨vG, rfl, b6, orG⟩
  have eb6 := eb5.trans b6
  have ex06 := ex05.trans b6
  have z6 := b6.size
  replace orW := own_keep orW b6
  replace oX0 := own_keep oX0 b6
  clear b6 eb5 ex05
  (try clear k0)
  have k0 := fun o => eb6.cellAt (w.heap.size) (by omega) o
  (try clear k1)
  have k1 := fun o => ex06.cellAt (gb0) (by omega) o
  obtain ⟨AG, cG, rfl, _⟩ := own_form orG
  have at_orG := At.of_own orG
  go_wp2_with fail
  refine (laws_eqIntS _ _ _ _ _ _ _ _ (Rd.of_own orG) (Rd.of_own orW)).mono ?_
  rintro e w7 ⟨rfl, b7⟩
  have eb7 := eb6.trans b7
  have ex07 := ex06.trans b7
  have z7 := b7.size
  replace orW := own_keep orW b7
  replace oX0 := own_keep oX0 b7
  replace orG := own_keep orG b7
  clear b7 eb6 ex06
  (try clear k0)
  have k0 := fun o => eb7.cellAt (w.heap.size) (by omega) o
  (try clear k1)
  have k1 := fun o => ex07.cellAt (gb0) (by omega) o
  go_wp2_with fail
  have s0 := (k0 0).trans kb0_0
  have s1 := (k0 1).trans kb0_1
  have s2 := (k1 0).trans xk0_0
  have s3 := (k1 1).trans xk0_1
  go_region_held3 (fun w' => w'.cell? ⟨w.heap.size, 0, none⟩ = some (.int .i64 H0) ∧ w'.cell? ⟨w.heap.size, 1, none⟩ = some (.slice A0 n0 c0) ∧ w'.cell? ⟨gb0, 0, none⟩ = some (.int .i64 H0) ∧ w'.cell? ⟨gb0, 1, none⟩ = some (.slice (some ⟨gX0, 0, none⟩) n0 n0)) (go_keep) (first | (go_at_call 16; refine (laws_toHouse _ _ _ _ a0 _ ((hx0.keep eb7).keep ((Ext.refl _).drewN 1)) hn0).mono ?_; rintro e w8 ⟨gY0, rfl, b8, oY0⟩; have k := b8.cellAt (w.heap.size) (by first | omega | (simp; omega)); have k' := b8.cellAt gb0 (by first | omega | (simp; omega)); have zz : w7.heap.size ≤ w8.heap.size := b8.size) | (go_at_call 18; refine (laws_eqHouse _ _ _ _ _ _ _ a0 _ (Rd.of_own (own_keep (own_keep oX0 ((Ext.refl _).drewN 1)) b8)) (Rd.of_own oY0)).mono ?_; rintro e w9 ⟨rfl, b9⟩; have q := b9.cellAt (w.heap.size) (by omega); have q' := b9.cellAt gb0 (by omega)))
  have eb9 := (eb7.drewN 1).trans (b8.trans b9)
  have ex09 := (ex07.drewN 1).trans (b8.trans b9)
  have z9 : w7.heap.size ≤ w9.heap.size := (((Ext.refl w7).drewN 1).trans (Ext.trans b8 b9)).size
  replace orW := own_keep orW (((Ext.refl w7).drewN 1).trans (b8.trans b9))
  replace oX0 := own_keep oX0 (((Ext.refl w7).drewN 1).trans (b8.trans b9))
  replace orG := own_keep orG (((Ext.refl w7).drewN 1).trans (b8.trans b9))
  clear s0 s1 s2 s3 k k' q q' zz oY0 b8 b9 eb7 ex07
  (try clear k0)
  have k0 := fun o => eb9.cellAt (w.heap.size) (by omega) o
  (try clear k1)
  have k1 := fun o => ex09.cellAt (gb0) (by omega) o
  have hLn : (hallsWL H0 a0 a1 a2).length ≤ 1048576 := Nat.le_trans (hallsWL_len H0 a0 a1 a2) (by omega)
  go_wp2_with fail
  refine (laws_markHouse _ _ _ _ _ _ _ _ oX0 hn0 (by omega) (by omega)).mono ?_
  rintro e w10 ⟨rfl, om10, hg10⟩
  clear ex09
  (try clear k1)
  have eb10 := ext_kept eb9 at_oX0 (by omega) hg10
  have z10 := hg10.size
  replace orW := own_kept orW at_orW at_oX0 (by omega) hg10
  replace orG := own_kept orG at_orG at_oX0 (by omega) hg10
  clear oX0 hg10 eb9
  clear om10
  (try clear k0)
  have k0 := fun o => eb10.cellAt (w.heap.size) (by omega) o
  go_wp2_with fail
  refine (laws_eqIntS _ _ _ _ _ _ _ _ (Rd.of_own orG) (Rd.of_own orW)).mono ?_
  rintro e w11 ⟨rfl, b11⟩
  have eb11 := eb10.trans b11
  have z11 := b11.size
  replace orW := own_keep orW b11
  replace orG := own_keep orG b11
  clear b11 eb10
  (try clear k0)
  have k0 := fun o => eb11.cellAt (w.heap.size) (by omega) o
  go_wp2_with fail
  refine (laws_markIntS _ _ _ _ _ _ _ orG hLn (by omega) (by omega)).mono ?_
  rintro e w12 ⟨rfl, om12, hg12⟩
  have eb12 := ext_kept eb11 at_orG (by omega) hg12
  have z12 := hg12.size
  replace orW := own_kept orW at_orW at_orG (by omega) hg12
  clear orG hg12 eb11
  have orM := om12
  clear om12
  (try clear k0)
  have k0 := fun o => eb12.cellAt (w.heap.size) (by omega) o
  go_wp2_with fail
  refine (laws_heldIntS _ _ _ _ _ (Rd.of_own orM) hLn (by omega) (by omega)).mono ?_
  rintro e w13 ⟨rfl, b13⟩
  have eb13 := eb12.trans b13
  have z13 := b13.size
  replace orW := own_keep orW b13
  replace orM := own_keep orM b13
  clear b13 eb12
  (try clear k0)
  have k0 := fun o => eb13.cellAt (w.heap.size) (by omega) o
  go_wp2_with fail
  refine (laws_toHouse _ _ _ _ a0 _ (hx0.keep eb13) hn0).mono ?_
  rintro e w14 ⟨gH_0, rfl, b14, oH_0⟩
  have eb14 := eb13.trans b14
  have z14 := b14.size
  replace orW := own_keep orW b14
  replace orM := own_keep orM b14
  clear b14 eb13
  (try clear k0)
  have k0 := fun o => eb14.cellAt (w.heap.size) (by omega) o
  have at_oH_0 := At.of_own oH_0
  go_wp2_with fail
  refine (impl_HallsWith H0 _ _ _ a0 a1 a2 _ (Rd.of_own oH_0)).mono ?_
  rintro e w15 ⟨vH, rfl, b15, orH⟩
  have eb15 := eb14.trans b15
  have z15 := b15.size
  replace orW := own_keep orW b15
  replace orM := own_keep orM b15
  replace oH_0 := own_keep oH_0 b15
  clear b15 eb14
  (try clear k0)
  have k0 := fun o => eb15.cellAt (w.heap.size) (by omega) o
  clear oH_0
  obtain ⟨AH, cH, rfl, _⟩ := own_form orH
  have at_orH := At.of_own orH
  go_wp2_with fail
  refine (laws_eqIntS _ _ _ _ _ _ _ _ (Rd.of_own orH) (Rd.of_own orW)).mono ?_
  rintro e w16 ⟨rfl, b16⟩
  have eb16 := eb15.trans b16
  have z16 := b16.size
  replace orW := own_keep orW b16
  replace orM := own_keep orM b16
  replace orH := own_keep orH b16
  clear b16 eb15
  (try clear k0)
  have k0 := fun o => eb16.cellAt (w.heap.size) (by omega) o
  go_wp2_with fail
  refine (laws_heldIntS _ _ _ _ _ (Rd.of_own orM) hLn (by omega) (by omega)).mono ?_
  rintro e w17 ⟨rfl, b17⟩
  have eb17 := eb16.trans b17
  have z17 := b17.size
  replace orW := own_keep orW b17
  replace orM := own_keep orM b17
  replace orH := own_keep orH b17
  clear b17 eb16
  (try clear k0)
  have k0 := fun o => eb17.cellAt (w.heap.size) (by omega) o
  go_wp2_with fail
  go_ret
  exact ⟨rfl, Eb.out.trans eb17⟩
end Go.Proofs.Ytcmbjkidgemdaaa
