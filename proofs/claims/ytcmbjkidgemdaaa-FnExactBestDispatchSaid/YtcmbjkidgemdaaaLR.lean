/- The walk of the law on BestDispatch; no condition. -/
import Derived.Test.YtcmbjkidgemdaaaSIb
import Derived.Test.YtcmbjkidgemdaaaH3
namespace Go.Proofs.Ytcmbjkidgemdaaa
set_option linter.unusedSimpArgs false
set_option linter.unusedVariables false
open Go.RowKit
set_option maxRecDepth 100000 in
set_option maxHeartbeats 8000000 in
theorem law_BestDispatch (H0 : Int) (A0 : Option Addr) (n0 c0 : Nat) (a0 : List GDoor) (A1 : Option Addr) (n1 c1 : Nat) (a1 : List Int) (A2 : Option Addr) (n2 c2 : Nat) (a2 : List Int) (w : World) (hx0 : Rd w 2 A0 n0 (a0.flatMap GDoor.enc)) (hx1 : Rd w 1 A1 n1 (a1.flatMap ienc)) (hx2 : Rd w 1 A2 n2 (a2.flatMap ienc)) :
    Calls Try.prog 10 #[.agg #[.int .i64 H0, .slice A0 n0 c0], .slice A1 n1 c1, .slice A2 n2 c2] w fun e w' => e = .returned (.bool true) ∧ Ext w w' := by
  have hnn0 := hx0.2.1
  have hnn1 := hx1.2.1
  have hnn2 := hx2.2.1
  by_cases hq0 : n1 ≤ 1048576
  case neg =>
    go_enter Try.func10, Try.ntmps10
    go_wp2_with fail
    go_ret
    refine ⟨rfl, ?_⟩
    (repeat (first | exact Ext.refl _ | assumption | refine Ext.alloc ?_ _ | refine Ext.drew ?_ | refine Ext.drewN ?_ _ | refine Ext.setCell ?_ (by first | (simp; done) | (simp; omega)) _ | refine Ext.trans ?_ (by assumption)))
  by_cases hq1 : n2 ≤ 1048576
  case neg =>
    go_enter Try.func10, Try.ntmps10
    go_wp2_with fail
    go_ret
    refine ⟨rfl, ?_⟩
    (repeat (first | exact Ext.refl _ | assumption | refine Ext.alloc ?_ _ | refine Ext.drew ?_ | refine Ext.drewN ?_ _ | refine Ext.setCell ?_ (by first | (simp; done) | (simp; omega)) _ | refine Ext.trans ?_ (by assumption)))
  by_cases hq2 : n0 ≤ 1048576
  case neg =>
    go_enter Try.func10, Try.ntmps10
    go_wp2_with fail
    obtain ⟨wb, hwb⟩ : ∃ wb, wb = (w.alloc (.cells #[.int .i64 H0, .slice A0 n0 c0] 24)) := ⟨_, rfl⟩
    rw [← hwb]
    have hsb : w.heap.size + 1 ≤ wb.heap.size := by rw [hwb]; simp
    have Eb := Lib.hid (show Ext w wb from by rw [hwb]; (repeat (first | exact Ext.refl _ | assumption | refine Ext.alloc ?_ _ | refine Ext.drew ?_ | refine Ext.drewN ?_ _ | refine Ext.setCell ?_ (by first | (simp; done) | (simp; omega)) _ | refine Ext.trans ?_ (by assumption))))
    have kb0_0 : wb.cell? ⟨w.heap.size, 0, none⟩ = some (.int .i64 H0) := by (rw [hwb]; first | (simp [World.cell?_alloc_at, World.cell?_alloc_past]; done) | (rw [World.cell?_alloc_new]; rfl) | (rw [World.cell?_alloc_lt _ _ _ (by simp), World.cell?_alloc_new]; rfl))
    have kb0_1 : wb.cell? ⟨w.heap.size, 1, none⟩ = some (.slice A0 n0 c0) := by (rw [hwb]; first | (simp [World.cell?_alloc_at, World.cell?_alloc_past]; done) | (rw [World.cell?_alloc_new]; rfl) | (rw [World.cell?_alloc_lt _ _ _ (by simp), World.cell?_alloc_new]; rfl))
    clear hwb
    replace hx0 := hx0.keep Eb.out
    replace hx1 := hx1.keep Eb.out
    replace hx2 := hx2.keep Eb.out
    have eb0 := Ext.refl wb
    refine (laws_szHouse _ _ _ _ _ _ (by omega) (by omega) hnn0).mono ?_
    rintro e w1 ⟨he, b1⟩
    rw [if_pos (by omega)] at he
    subst he
    have eb1 := eb0.trans b1
    have z1 := b1.size
    clear b1 eb0
    (try clear k0)
    have k0 := fun o => eb1.cellAt (w.heap.size) (by omega) o
    go_wp2_with fail
    go_ret
    exact ⟨rfl, Eb.out.trans eb1⟩
  have hn0 : n0 ≤ 1048576 := by omega
  have hn1 : n1 ≤ 1048576 := by omega
  have hn2 : n2 ≤ 1048576 := by omega
  go_enter Try.func10, Try.ntmps10
  go_wp2_with fail
  obtain ⟨wb, hwb⟩ : ∃ wb, wb = (w.alloc (.cells #[.int .i64 H0, .slice A0 n0 c0] 24)) := ⟨_, rfl⟩
  rw [← hwb]
  have hsb : w.heap.size + 1 ≤ wb.heap.size := by rw [hwb]; simp
  have Eb := Lib.hid (show Ext w wb from by rw [hwb]; (repeat (first | exact Ext.refl _ | assumption | refine Ext.alloc ?_ _ | refine Ext.drew ?_ | refine Ext.drewN ?_ _ | refine Ext.setCell ?_ (by first | (simp; done) | (simp; omega)) _ | refine Ext.trans ?_ (by assumption))))
  have kb0_0 : wb.cell? ⟨w.heap.size, 0, none⟩ = some (.int .i64 H0) := by (rw [hwb]; first | (simp [World.cell?_alloc_at, World.cell?_alloc_past]; done) | (rw [World.cell?_alloc_new]; rfl) | (rw [World.cell?_alloc_lt _ _ _ (by simp), World.cell?_alloc_new]; rfl))
  have kb0_1 : wb.cell? ⟨w.heap.size, 1, none⟩ = some (.slice A0 n0 c0) := by (rw [hwb]; first | (simp [World.cell?_alloc_at, World.cell?_alloc_past]; done) | (rw [World.cell?_alloc_new]; rfl) | (rw [World.cell?_alloc_lt _ _ _ (by simp), World.cell?_alloc_new]; rfl))
  clear hwb
  replace hx0 := hx0.keep Eb.out
  replace hx1 := hx1.keep Eb.out
  replace hx2 := hx2.keep Eb.out
  have eb0 := Ext.refl wb
  refine (laws_szHouse _ _ _ _ _ _ (by omega) (by omega) hnn0).mono ?_
  rintro e w1 ⟨he, b1⟩
  rw [if_neg (by omega)] at he
  subst he
  have eb1 := eb0.trans b1
  have z1 := b1.size
  clear b1 eb0
  (try clear k0)
  have k0 := fun o => eb1.cellAt (w.heap.size) (by omega) o
  go_wp2_with fail
  refine (laws_toHouse _ _ _ _ a0 _ (hx0.keep eb1) hn0).mono ?_
  rintro e w2 ⟨gW_0, rfl, b2, oW_0⟩
  have eb2 := eb1.trans b2
  have z2 := b2.size
  clear b2 eb1
  (try clear k0)
  have k0 := fun o => eb2.cellAt (w.heap.size) (by omega) o
  have at_oW_0 := At.of_own oW_0
  go_wp2_with fail
  refine (laws_toIntS _ _ _ a1 _ (hx1.keep eb2) hn1).mono ?_
  rintro e w3 ⟨gW_1, rfl, b3, oW_1⟩
  have eb3 := eb2.trans b3
  have z3 := b3.size
  replace oW_0 := own_keep oW_0 b3
  clear b3 eb2
  (try clear k0)
  have k0 := fun o => eb3.cellAt (w.heap.size) (by omega) o
  have at_oW_1 := At.of_own oW_1
  go_wp2_with fail
  refine (laws_toIntS _ _ _ a2 _ (hx2.keep eb3) hn2).mono ?_
  rintro e w4 ⟨gW_2, rfl, b4, oW_2⟩
  have eb4 := eb3.trans b4
  have z4 := b4.size
  replace oW_0 := own_keep oW_0 b4
  replace oW_1 := own_keep oW_1 b4
  clear b4 eb3
  (try clear k0)
  have k0 := fun o => eb4.cellAt (w.heap.size) (by omega) o
  have at_oW_2 := At.of_own oW_2
  go_wp2_with fail
  refine (spec_BestDispatch H0 _ _ _ a0 _ _ _ a1 _ _ _ a2 _ (Rd.of_own oW_0) (Rd.of_own oW_1) (Rd.of_own oW_2) (Nat.le_refl _)).mono ?_
  rintro e w5 ⟨vW, rfl, b5, orW⟩
  have eb5 := eb4.trans b5
  have z5 := b5.size
  replace oW_0 := own_keep oW_0 b5
  replace oW_1 := own_keep oW_1 b5
  replace oW_2 := own_keep oW_2 b5
  clear b5 eb4
  (try clear k0)
  have k0 := fun o => eb5.cellAt (w.heap.size) (by omega) o
  clear oW_0
  clear oW_1
  clear oW_2
  obtain ⟨AW, cW, rfl, _⟩ := own_form orW
  have at_orW := At.of_own orW
  go_wp2_with fail
  refine (laws_toHouse _ _ _ _ a0 _ (hx0.keep eb5) hn0).mono ?_
  rintro e w6 ⟨gX0, rfl, b6, oX0⟩
  have eb6 := eb5.trans b6
  have z6 := b6.size
  replace orW := own_keep orW b6
  clear b6 eb5
  (try clear k0)
  have k0 := fun o => eb6.cellAt (w.heap.size) (by omega) o
  have at_oX0 := At.of_own oX0
  go_wp2_with fail
  obtain ⟨w7, hw7⟩ : ∃ w7, w7 = w6.alloc (.cells #[.int .i64 H0, .slice (some ⟨gX0, 0, none⟩) n0 n0] 29) := ⟨_, rfl⟩
  rw [← hw7]
  obtain ⟨b7, hz7, xk0_0, xk0_1⟩ := box2 w6 _ _ _ w7 hw7
  clear hw7
  obtain ⟨gb0, hgb0⟩ : ∃ gb, gb = w6.heap.size := ⟨_, rfl⟩
  rw [← hgb0] at xk0_0 xk0_1 ⊢
  have eb7 := eb6.trans b7
  have z7 := b7.size
  replace orW := own_keep orW b7
  replace oX0 := own_keep oX0 b7
  clear b7 eb6
  (try clear k0)
  have k0 := fun o => eb7.cellAt (w.heap.size) (by omega) o
  have ex07 := Ext.refl w7
  have hgbl0 : gb0 < w7.heap.size ∧ wb.heap.size ≤ gb0 := by (have := eb7.size; omega)
  clear hgb0 hz7
  go_wp2_with fail
  refine (laws_toIntS _ _ _ a1 _ (hx1.keep eb7) hn1).mono ?_
  rintro e w8 ⟨gX1, rfl, b8, oX1⟩
  have eb8 := eb7.trans b8
  have ex08 := ex07.trans b8
  have z8 := b8.size
  replace orW := own_keep orW b8
  replace oX0 := own_keep oX0 b8
  clear b8 eb7 ex07
  (try clear k0)
  have k0 := fun o => eb8.cellAt (w.heap.size) (by omega) o
  (try clear k1)
  have k1 := fun o => ex08.cellAt (gb0) (by omega) o
  have at_oX1 := At.of_own oX1
  go_wp2_with fail
  refine (laws_toIntS _ _ _ a2 _ (hx2.keep eb8) hn2).mono ?_
  rintro e w9 ⟨gX2, rfl, b9, oX2⟩
  have eb9 := eb8.trans b9
  have ex09 := ex08.trans b9
  have z9 := b9.size
  replace orW := own_keep orW b9
  replace oX0 := own_keep oX0 b9
  replace oX1 := own_keep oX1 b9
  clear b9 eb8 ex08
  (try clear k0)
  have k0 := fun o => eb9.cellAt (w.heap.size) (by omega) o
  (try clear k1)
  have k1 := fun o => ex09.cellAt (gb0) (by omega) o
  have at_oX2 := At.of_own oX2
  go_wp2_with fail
  refine (impl_BestDispatch H0 _ _ _ a0 _ _ _ a1 _ _ _ a2 _ (Rd.of_own oX0) (Rd.of_own oX1) (Rd.of_own oX2)).mono ?_
  rintro e w10 ⟨vG, rfl, b10, orG⟩
  have eb10 := eb9.trans b10
  have ex010 := ex09.trans b10
  have z10 := b10.size
  replace orW := own_keep orW b10
  replace oX0 := own_keep oX0 b10
  replace oX1 := own_keep oX1 b10
  replace oX2 := own_keep oX2 b10
  clear b10 eb9 ex09
  (try clear k0)
  have k0 := fun o => eb10.cellAt (w.heap.size) (by omega) o
  (try clear k1)
  have k1 := fun o => ex010.cellAt (gb0) (by omega) o
  obtain ⟨AG, cG, rfl, _⟩ := own_form orG
  have at_orG := At.of_own orG
  go_wp2_with fail
  refine (laws_eqIntS _ _ _ _ _ _ _ _ (Rd.of_own orG) (Rd.of_own orW)).mono ?_
  rintro e w11 ⟨rfl, b11⟩
  have eb11 := eb10.trans b11
  have ex011 := ex010.trans b11
  have z11 := b11.size
  replace orW := own_keep orW b11
  replace oX0 := own_keep oX0 b11
  replace oX1 := own_keep oX1 b11
  replace oX2 := own_keep oX2 b11
  replace orG := own_keep orG b11
  clear b11 eb10 ex010
  (try clear k0)
  have k0 := fun o => eb11.cellAt (w.heap.size) (by omega) o
  (try clear k1)
  have k1 := fun o => ex011.cellAt (gb0) (by omega) o
  go_wp2_with fail
  have s0 := (k0 0).trans kb0_0
  have s1 := (k0 1).trans kb0_1
  have s2 := (k1 0).trans xk0_0
  have s3 := (k1 1).trans xk0_1
  go_region_held3 (fun w' => w'.cell? ⟨w.heap.size, 0, none⟩ = some (.int .i64 H0) ∧ w'.cell? ⟨w.heap.size, 1, none⟩ = some (.slice A0 n0 c0) ∧ w'.cell? ⟨gb0, 0, none⟩ = some (.int .i64 H0) ∧ w'.cell? ⟨gb0, 1, none⟩ = some (.slice (some ⟨gX0, 0, none⟩) n0 n0)) (go_keep) (first | (go_at_call 16; refine (laws_toHouse _ _ _ _ a0 _ ((hx0.keep eb11).keep ((Ext.refl _).drewN 1)) hn0).mono ?_; rintro e w12 ⟨gY0, rfl, b12, oY0⟩; have k := b12.cellAt (w.heap.size) (by first | omega | (simp; omega)); have k' := b12.cellAt gb0 (by first | omega | (simp; omega)); have zz : w11.heap.size ≤ w12.heap.size := b12.size) | (go_at_call 18; refine (laws_eqHouse _ _ _ _ _ _ _ a0 _ (Rd.of_own (own_keep (own_keep oX0 ((Ext.refl _).drewN 1)) b12)) (Rd.of_own oY0)).mono ?_; rintro e w13 ⟨rfl, b13⟩; have q := b13.cellAt (w.heap.size) (by omega); have q' := b13.cellAt gb0 (by omega)))
  have eb13 := (eb11.drewN 1).trans (b12.trans b13)
  have ex013 := (ex011.drewN 1).trans (b12.trans b13)
  have z13 : w11.heap.size ≤ w13.heap.size := (((Ext.refl w11).drewN 1).trans (Ext.trans b12 b13)).size
  replace orW := own_keep orW (((Ext.refl w11).drewN 1).trans (b12.trans b13))
  replace oX0 := own_keep oX0 (((Ext.refl w11).drewN 1).trans (b12.trans b13))
  replace oX1 := own_keep oX1 (((Ext.refl w11).drewN 1).trans (b12.trans b13))
  replace oX2 := own_keep oX2 (((Ext.refl w11).drewN 1).trans (b12.trans b13))
  replace orG := own_keep orG (((Ext.refl w11).drewN 1).trans (b12.trans b13))
  clear s0 s1 s2 s3 k k' q q' zz oY0 b12 b13 eb11 ex011
  (try clear k0)
  have k0 := fun o => eb13.cellAt (w.heap.size) (by omega) o
  (try clear k1)
  have k1 := fun o => ex013.cellAt (gb0) (by omega) o
  go_wp2_with fail
  refine (laws_toIntS _ _ _ a1 _ (hx1.keep eb13) hn1).mono ?_
  rintro e w14 ⟨gY1, rfl, b14, oY1⟩
  have eb14 := eb13.trans b14
  have ex014 := ex013.trans b14
  have z14 := b14.size
  replace orW := own_keep orW b14
  replace oX0 := own_keep oX0 b14
  replace oX1 := own_keep oX1 b14
  replace oX2 := own_keep oX2 b14
  replace orG := own_keep orG b14
  clear b14 eb13 ex013
  (try clear k0)
  have k0 := fun o => eb14.cellAt (w.heap.size) (by omega) o
  (try clear k1)
  have k1 := fun o => ex014.cellAt (gb0) (by omega) o
  have at_oY1 := At.of_own oY1
  go_wp2_with fail
  refine (laws_eqIntS _ _ _ _ _ _ _ _ (Rd.of_own oX1) (Rd.of_own oY1)).mono ?_
  rintro e w15 ⟨rfl, b15⟩
  have eb15 := eb14.trans b15
  have ex015 := ex014.trans b15
  have z15 := b15.size
  replace orW := own_keep orW b15
  replace oX0 := own_keep oX0 b15
  replace oX1 := own_keep oX1 b15
  replace oX2 := own_keep oX2 b15
  replace orG := own_keep orG b15
  replace oY1 := own_keep oY1 b15
  clear b15 eb14 ex014
  (try clear k0)
  have k0 := fun o => eb15.cellAt (w.heap.size) (by omega) o
  (try clear k1)
  have k1 := fun o => ex015.cellAt (gb0) (by omega) o
  clear oY1
  go_wp2_with fail
  refine (laws_toIntS _ _ _ a2 _ (hx2.keep eb15) hn2).mono ?_
  rintro e w16 ⟨gY2, rfl, b16, oY2⟩
  have eb16 := eb15.trans b16
  have ex016 := ex015.trans b16
  have z16 := b16.size
  replace orW := own_keep orW b16
  replace oX0 := own_keep oX0 b16
  replace oX1 := own_keep oX1 b16
  replace oX2 := own_keep oX2 b16
  replace orG := own_keep orG b16
  clear b16 eb15 ex015
  (try clear k0)
  have k0 := fun o => eb16.cellAt (w.heap.size) (by omega) o
  (try clear k1)
  have k1 := fun o => ex016.cellAt (gb0) (by omega) o
  have at_oY2 := At.of_own oY2
  go_wp2_with fail
  refine (laws_eqIntS _ _ _ _ _ _ _ _ (Rd.of_own oX2) (Rd.of_own oY2)).mono ?_
  rintro e w17 ⟨rfl, b17⟩
  have eb17 := eb16.trans b17
  have ex017 := ex016.trans b17
  have z17 := b17.size
  replace orW := own_keep orW b17
  replace oX0 := own_keep oX0 b17
  replace oX1 := own_keep oX1 b17
  replace oX2 := own_keep oX2 b17
  replace orG := own_keep orG b17
  replace oY2 := own_keep oY2 b17
  clear b17 eb16 ex016
  (try clear k0)
  have k0 := fun o => eb17.cellAt (w.heap.size) (by omega) o
  (try clear k1)
  have k1 := fun o => ex017.cellAt (gb0) (by omega) o
  clear oY2
  have hLn : (bestD H0 a0 a1 a2).length ≤ 1048576 := Nat.le_trans (bestD_len H0 a0 a1 a2) (by omega)
  go_wp2_with fail
  refine (laws_markHouse _ _ _ _ _ _ _ _ oX0 hn0 (by omega) (by omega)).mono ?_
  rintro e w18 ⟨rfl, om18, hg18⟩
  clear ex017
  (try clear k1)
  have eb18 := ext_kept eb17 at_oX0 (by omega) hg18
  have z18 := hg18.size
  replace orW := own_kept orW at_orW at_oX0 (by omega) hg18
  replace orG := own_kept orG at_orG at_oX0 (by omega) hg18
  replace oX1 := own_kept oX1 at_oX1 at_oX0 (by omega) hg18
  replace oX2 := own_kept oX2 at_oX2 at_oX0 (by omega) hg18
  clear oX0 hg18 eb17
  clear om18
  (try clear k0)
  have k0 := fun o => eb18.cellAt (w.heap.size) (by omega) o
  go_wp2_with fail
  refine (laws_markIntS _ _ _ _ _ _ _ oX1 hn1 (by omega) (by omega)).mono ?_
  rintro e w19 ⟨rfl, om19, hg19⟩
  have eb19 := ext_kept eb18 at_oX1 (by omega) hg19
  have z19 := hg19.size
  replace orW := own_kept orW at_orW at_oX1 (by omega) hg19
  replace orG := own_kept orG at_orG at_oX1 (by omega) hg19
  replace oX2 := own_kept oX2 at_oX2 at_oX1 (by omega) hg19
  clear oX1 hg19 eb18
  clear om19
  (try clear k0)
  have k0 := fun o => eb19.cellAt (w.heap.size) (by omega) o
  go_wp2_with fail
  refine (laws_markIntS _ _ _ _ _ _ _ oX2 hn2 (by omega) (by omega)).mono ?_
  rintro e w20 ⟨rfl, om20, hg20⟩
  have eb20 := ext_kept eb19 at_oX2 (by omega) hg20
  have z20 := hg20.size
  replace orW := own_kept orW at_orW at_oX2 (by omega) hg20
  replace orG := own_kept orG at_orG at_oX2 (by omega) hg20
  clear oX2 hg20 eb19
  clear om20
  (try clear k0)
  have k0 := fun o => eb20.cellAt (w.heap.size) (by omega) o
  go_wp2_with fail
  refine (laws_eqIntS _ _ _ _ _ _ _ _ (Rd.of_own orG) (Rd.of_own orW)).mono ?_
  rintro e w21 ⟨rfl, b21⟩
  have eb21 := eb20.trans b21
  have z21 := b21.size
  replace orW := own_keep orW b21
  replace orG := own_keep orG b21
  clear b21 eb20
  (try clear k0)
  have k0 := fun o => eb21.cellAt (w.heap.size) (by omega) o
  go_wp2_with fail
  refine (laws_markIntS _ _ _ _ _ _ _ orG hLn (by omega) (by omega)).mono ?_
  rintro e w22 ⟨rfl, om22, hg22⟩
  have eb22 := ext_kept eb21 at_orG (by omega) hg22
  have z22 := hg22.size
  replace orW := own_kept orW at_orW at_orG (by omega) hg22
  clear orG hg22 eb21
  have orM := om22
  clear om22
  (try clear k0)
  have k0 := fun o => eb22.cellAt (w.heap.size) (by omega) o
  go_wp2_with fail
  refine (laws_heldIntS _ _ _ _ _ (Rd.of_own orM) hLn (by omega) (by omega)).mono ?_
  rintro e w23 ⟨rfl, b23⟩
  have eb23 := eb22.trans b23
  have z23 := b23.size
  replace orW := own_keep orW b23
  replace orM := own_keep orM b23
  clear b23 eb22
  (try clear k0)
  have k0 := fun o => eb23.cellAt (w.heap.size) (by omega) o
  go_wp2_with fail
  refine (laws_toHouse _ _ _ _ a0 _ (hx0.keep eb23) hn0).mono ?_
  rintro e w24 ⟨gH_0, rfl, b24, oH_0⟩
  have eb24 := eb23.trans b24
  have z24 := b24.size
  replace orW := own_keep orW b24
  replace orM := own_keep orM b24
  clear b24 eb23
  (try clear k0)
  have k0 := fun o => eb24.cellAt (w.heap.size) (by omega) o
  have at_oH_0 := At.of_own oH_0
  go_wp2_with fail
  refine (laws_toIntS _ _ _ a1 _ (hx1.keep eb24) hn1).mono ?_
  rintro e w25 ⟨gH_1, rfl, b25, oH_1⟩
  have eb25 := eb24.trans b25
  have z25 := b25.size
  replace orW := own_keep orW b25
  replace orM := own_keep orM b25
  replace oH_0 := own_keep oH_0 b25
  clear b25 eb24
  (try clear k0)
  have k0 := fun o => eb25.cellAt (w.heap.size) (by omega) o
  have at_oH_1 := At.of_own oH_1
  go_wp2_with fail
  refine (laws_toIntS _ _ _ a2 _ (hx2.keep eb25) hn2).mono ?_
  rintro e w26 ⟨gH_2, rfl, b26, oH_2⟩
  have eb26 := eb25.trans b26
  have z26 := b26.size
  replace orW := own_keep orW b26
  replace orM := own_keep orM b26
  replace oH_0 := own_keep oH_0 b26
  replace oH_1 := own_keep oH_1 b26
  clear b26 eb25
  (try clear k0)
  have k0 := fun o => eb26.cellAt (w.heap.size) (by omega) o
  have at_oH_2 := At.of_own oH_2
  go_wp2_with fail
  refine (impl_BestDispatch H0 _ _ _ a0 _ _ _ a1 _ _ _ a2 _ (Rd.of_own oH_0) (Rd.of_own oH_1) (Rd.of_own oH_2)).mono ?_
  rintro e w27 ⟨vH, rfl, b27, orH⟩
  have eb27 := eb26.trans b27
  have z27 := b27.size
  replace orW := own_keep orW b27
  replace orM := own_keep orM b27
  replace oH_0 := own_keep oH_0 b27
  replace oH_1 := own_keep oH_1 b27
  replace oH_2 := own_keep oH_2 b27
  clear b27 eb26
  (try clear k0)
  have k0 := fun o => eb27.cellAt (w.heap.size) (by omega) o
  clear oH_0
  clear oH_1
  clear oH_2
  obtain ⟨AH, cH, rfl, _⟩ := own_form orH
  have at_orH := At.of_own orH
  go_wp2_with fail
  refine (laws_eqIntS _ _ _ _ _ _ _ _ (Rd.of_own orH) (Rd.of_own orW)).mono ?_
  rintro e w28 ⟨rfl, b28⟩
  have eb28 := eb27.trans b28
  have z28 := b28.size
  replace orW := own_keep orW b28
  replace orM := own_keep orM b28
  replace orH := own_keep orH b28
  clear b28 eb27
  (try clear k0)
  have k0 := fun o => eb28.cellAt (w.heap.size) (by omega) o
  go_wp2_with fail
  refine (laws_heldIntS _ _ _ _ _ (Rd.of_own orM) hLn (by omega) (by omega)).mono ?_
  rintro e w29 ⟨rfl, b29⟩
  have eb29 := eb28.trans b29
  have z29 := b29.size
  replace orW := own_keep orW b29
  replace orM := own_keep orM b29
  replace orH := own_keep orH b29
  clear b29 eb28
  (try clear k0)
  have k0 := fun o => eb29.cellAt (w.heap.size) (by omega) o
  go_wp2_with fail
  go_ret
  exact ⟨rfl, Eb.out.trans eb29⟩
end Go.Proofs.Ytcmbjkidgemdaaa
