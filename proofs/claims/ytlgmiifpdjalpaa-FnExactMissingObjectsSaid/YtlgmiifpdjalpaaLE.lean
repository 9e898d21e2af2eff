/- The walks of the laws on HallsFor and MissingObjects; no condition. -/
import Derived.Test.YtlgmiifpdjalpaaS5
import Derived.Test.YtlgmiifpdjalpaaH2
namespace Go.Proofs.Ytlgmiifpdjalpaa
open Go.RowKit
theorem hallsFor_len (l : GLoan) (hs : List GClimate) : (hallsFor l hs).length ≤ hs.length := by
  have h : ∀ (hs : List GClimate) (p : List Int × Int), (hs.foldl (hallStep l) p).1.length ≤ p.1.length + hs.length := by
    intro hs
    induction hs with
    | nil => intro p; simp
    | cons c hs ih =>
      intro p
      refine Nat.le_trans (ih _) ?_
      simp only [hallStep, List.length_cons]
      split <;> simp <;> omega
  have := h hs ([], 0)
  simpa [hallsFor] using this
theorem missObj_len (xs : List GCheck) (count : Int) : (missObj xs count).length ≤ 50 := by
  unfold missObj
  split
  · rename_i h
    have := missTo_len xs count.toNat
    simp [inB] at h
    omega
  · simp
set_option maxRecDepth 100000 in
set_option maxHeartbeats 4000000 in
theorem law_HallsFor (a0 : GLoan) (A1 : Option Addr) (n1 c1 : Nat) (a1 : List GClimate) (w : World) (hx1 : Rd w 3 A1 n1 (a1.flatMap GClimate.enc)) :
    Calls Try.prog 5 #[.agg #[.int .i64 a0.l, .int .i64 a0.lo, .int .i64 a0.hi, .int .i64 a0.g], .slice A1 n1 c1] w fun e w' => e = .returned (.bool true) ∧ Ext w w' := by
  have hnn1 := hx1.2.1
  by_cases hq0 : n1 ≤ 1048576
  case neg =>
    go_enter Try.func5, Try.ntmps5
    go_wp2_with fail
    refine (laws_szClimateS _ _ _ _ _ (by omega) (by omega) hnn1).mono ?_
    rintro e _ ⟨he, rfl⟩
    rw [if_pos (by omega)] at he
    subst he
    go_wp2_with fail
    go_ret
    refine ⟨rfl, ?_⟩
    (repeat (first | exact Ext.refl _ | assumption | refine Ext.alloc ?_ _ | refine Ext.drew ?_ | refine Ext.drewN ?_ _ | refine Ext.setCell ?_ (by first | (simp; done) | (simp; omega)) _ | refine Ext.trans ?_ (by assumption)))
  have hn1 : n1 ≤ 1048576 := by omega
  go_enter Try.func5, Try.ntmps5
  go_wp2_with fail
  refine (laws_szClimateS _ _ _ _ _ (by omega) (by omega) hnn1).mono ?_
  rintro e _ ⟨he, rfl⟩
  rw [if_neg (by omega)] at he
  subst he
  go_wp2_with fail
  obtain ⟨wb, hwb⟩ : ∃ wb, wb = (w.alloc (.cells #[.int .i64 a0.l, .int .i64 a0.lo, .int .i64 a0.hi, .int .i64 a0.g] 46)) := ⟨_, rfl⟩
  rw [← hwb]
  have hsb : w.heap.size + 1 ≤ wb.heap.size := by rw [hwb]; simp
  have Eb := Lib.hid (show Ext w wb from by rw [hwb]; (repeat (first | exact Ext.refl _ | assumption | refine Ext.alloc ?_ _ | refine Ext.drew ?_ | refine Ext.drewN ?_ _ | refine Ext.setCell ?_ (by first | (simp; done) | (simp; omega)) _ | refine Ext.trans ?_ (by assumption))))
  have kb0_0 : wb.cell? ⟨w.heap.size, 0, none⟩ = some (.int .i64 a0.l) := by rw [hwb]; simp [World.cell?_alloc_at, World.cell?_alloc_past]
  have kb0_1 : wb.cell? ⟨w.heap.size, 1, none⟩ = some (.int .i64 a0.lo) := by rw [hwb]; simp [World.cell?_alloc_at, World.cell?_alloc_past]
  have kb0_2 : wb.cell? ⟨w.heap.size, 2, none⟩ = some (.int .i64 a0.hi) := by rw [hwb]; simp [World.cell?_alloc_at, World.cell?_alloc_past]
  have kb0_3 : wb.cell? ⟨w.heap.size, 3, none⟩ = some (.int .i64 a0.g) := by rw [hwb]; simp [World.cell?_alloc_at, World.cell?_alloc_past]
  clear hwb
  replace hx1 := hx1.keep Eb.out
  have e0 := Ext.refl wb
  go_wp2_with fail
  refine (laws_toLoan a0 _).mono ?_
  rintro e w1 ⟨rfl, b1⟩
  have e1 := e0.trans b1
  have z1 := b1.size
  clear b1 e0
  (try clear k0)
  have k0 := fun o => e1.cellAt (w.heap.size) (by omega) o
  go_wp2_with fail
  refine (laws_toClimateS _ _ _ a1 _ (hx1.keep e1) hn1).mono ?_
  rintro e w2 ⟨gW_1, rfl, b2, oW_1⟩
  have e2 := e1.trans b2
  have z2 := b2.size
  clear b2 e1
  (try clear k0)
  have k0 := fun o => e2.cellAt (w.heap.size) (by omega) o
  have at_oW_1 := At.of_own oW_1
  go_wp2_with fail
  refine (spec_HallsFor a0 _ _ _ a1 _ (Rd.of_own oW_1) hn1).mono ?_
  rintro e w3 ⟨vW, rfl, b3, orW⟩
  have e3 := e2.trans b3
  have z3 := b3.size
  replace oW_1 := own_keep oW_1 b3
  clear b3 e2
  (try clear k0)
  have k0 := fun o => e3.cellAt (w.heap.size) (by omega) o
  clear oW_1
  obtain ⟨AW, cW, rfl, _⟩ := own_form orW
  have at_orW := At.of_own orW
  go_wp2_with fail
  refine (laws_toClimateS _ _ _ a1 _ (hx1.keep e3) hn1).mono ?_
  rintro e w4 ⟨gX1, rfl, b4, oX1⟩
  have e4 := e3.trans b4
  have z4 := b4.size
  replace orW := own_keep orW b4
  clear b4 e3
  (try clear k0)
  have k0 := fun o => e4.cellAt (w.heap.size) (by omega) o
  have at_oX1 := At.of_own oX1
  go_wp2_with fail
  refine (laws_toLoan a0 _).mono ?_
  rintro e w5 ⟨rfl, b5⟩
  have e5 := e4.trans b5
  have z5 := b5.size
  replace orW := own_keep orW b5
  replace oX1 := own_keep oX1 b5
  clear b5 e4
  (try clear k0)
  have k0 := fun o => e5.cellAt (w.heap.size) (by omega) o
  go_wp2_with fail
  refine (impl_HallsFor a0 _ _ _ a1 _ (Rd.of_own oX1) hn1).mono ?_
  rintro e w6 ⟨vG, rfl, b6, orG⟩
  have e6 := e5.trans b6
  have z6 := b6.size
  replace orW := own_keep orW b6
  replace oX1 := own_keep oX1 b6
  clear b6 e5
  (try clear k0)
  have k0 := fun o => e6.cellAt (w.heap.size) (by omega) o
  obtain ⟨AG, cG, rfl, _⟩ := own_form orG
  have at_orG := At.of_own orG
  go_wp2_with fail
  refine (laws_eqIntS _ _ _ _ _ _ _ _ (Rd.of_own orG) (Rd.of_own orW)).mono ?_
  rintro e w7 ⟨rfl, b7⟩
  have e7 := e6.trans b7
  have z7 := b7.size
  replace orW := own_keep orW b7
  replace oX1 := own_keep oX1 b7
  replace orG := own_keep orG b7
  clear b7 e6
  (try clear k0)
  have k0 := fun o => e7.cellAt (w.heap.size) (by omega) o
  go_wp2_with fail
  refine (laws_toClimateS _ _ _ a1 _ (hx1.keep e7) hn1).mono ?_
  rintro e w8 ⟨gY1, rfl, b8, oY1⟩
  have e8 := e7.trans b8
  have z8 := b8.size
  replace orW := own_keep orW b8
  replace oX1 := own_keep oX1 b8
  replace orG := own_keep orG b8
  clear b8 e7
  (try clear k0)
  have k0 := fun o => e8.cellAt (w.heap.size) (by omega) o
  have at_oY1 := At.of_own oY1
  go_wp2_with fail
  refine (laws_eqClimateS _ _ _ _ _ _ _ _ (Rd.of_own oX1) (Rd.of_own oY1)).mono ?_
  rintro e w9 ⟨rfl, b9⟩
  have e9 := e8.trans b9
  have z9 := b9.size
  replace orW := own_keep orW b9
  replace oX1 := own_keep oX1 b9
  replace orG := own_keep orG b9
  replace oY1 := own_keep oY1 b9
  clear b9 e8
  (try clear k0)
  have k0 := fun o => e9.cellAt (w.heap.size) (by omega) o
  clear oY1
  have hLn : (hallsFor a0 a1).length ≤ 1048576 := Nat.le_trans (hallsFor_len a0 a1) (by rw [hx1.len GClimate.len (by omega)]; exact hn1)
  go_wp2_with fail
  refine (laws_markClimateS _ _ _ _ _ _ _ oX1 hn1 (by omega) (by omega)).mono ?_
  rintro e w10 ⟨rfl, om10, hg10⟩
  have e10 := ext_kept e9 at_oX1 (by omega) hg10
  have z10 := hg10.size
  replace orW := own_kept orW at_orW at_oX1 (by omega) hg10
  replace orG := own_kept orG at_orG at_oX1 (by omega) hg10
  clear oX1 hg10 e9
  clear om10
  (try clear k0)
  have k0 := fun o => e10.cellAt (w.heap.size) (by omega) o
  go_wp2_with fail
  refine (laws_eqIntS _ _ _ _ _ _ _ _ (Rd.of_own orG) (Rd.of_own orW)).mono ?_
  rintro e w11 ⟨rfl, b11⟩
  have e11 := e10.trans b11
  have z11 := b11.size
  replace orW := own_keep orW b11
  replace orG := own_keep orG b11
  clear b11 e10
  (try clear k0)
  have k0 := fun o => e11.cellAt (w.heap.size) (by omega) o
  go_wp2_with fail
  refine (laws_markIntS _ _ _ _ _ _ _ orG hLn (by omega) (by omega)).mono ?_
  rintro e w12 ⟨rfl, om12, hg12⟩
  have e12 := ext_kept e11 at_orG (by omega) hg12
  have z12 := hg12.size
  replace orW := own_kept orW at_orW at_orG (by omega) hg12
  clear orG hg12 e11
  have orM := om12
  clear om12
  (try clear k0)
  have k0 := fun o => e12.cellAt (w.heap.size) (by omega) o
  go_wp2_with fail
  refine (laws_heldIntS _ _ _ _ _ (Rd.of_own orM) hLn (by omega) (by omega)).mono ?_
  rintro e w13 ⟨rfl, b13⟩
  have e13 := e12.trans b13
  have z13 := b13.size
  replace orW := own_keep orW b13
  replace orM := own_keep orM b13
  clear b13 e12
  (try clear k0)
  have k0 := fun o => e13.cellAt (w.heap.size) (by omega) o
  go_wp2_with fail
  refine (laws_toLoan a0 _).mono ?_
  rintro e w14 ⟨rfl, b14⟩
  have e14 := e13.trans b14
  have z14 := b14.size
  replace orW := own_keep orW b14
  replace orM := own_keep orM b14
  clear b14 e13
  (try clear k0)
  have k0 := fun o => e14.cellAt (w.heap.size) (by omega) o
  go_wp2_with fail
  refine (laws_toClimateS _ _ _ a1 _ (hx1.keep e14) hn1).mono ?_
  rintro e w15 ⟨gH_1, rfl, b15, oH_1⟩
  have e15 := e14.trans b15
  have z15 := b15.size
  replace orW := own_keep orW b15
  replace orM := own_keep orM b15
  clear b15 e14
  (try clear k0)
  have k0 := fun o => e15.cellAt (w.heap.size) (by omega) o
  have at_oH_1 := At.of_own oH_1
  go_wp2_with fail
  refine (impl_HallsFor a0 _ _ _ a1 _ (Rd.of_own oH_1) hn1).mono ?_
  rintro e w16 ⟨vH, rfl, b16, orH⟩
  have e16 := e15.trans b16
  have z16 := b16.size
  replace orW := own_keep orW b16
  replace orM := own_keep orM b16
  replace oH_1 := own_keep oH_1 b16
  clear b16 e15
  (try clear k0)
  have k0 := fun o => e16.cellAt (w.heap.size) (by omega) o
  clear oH_1
  obtain ⟨AH, cH, rfl, _⟩ := own_form orH
  have at_orH := At.of_own orH
  go_wp2_with fail
  refine (laws_eqIntS _ _ _ _ _ _ _ _ (Rd.of_own orH) (Rd.of_own orW)).mono ?_
  rintro e w17 ⟨rfl, b17⟩
  have e17 := e16.trans b17
  have z17 := b17.size
  replace orW := own_keep orW b17
  replace orM := own_keep orM b17
  replace orH := own_keep orH b17
  clear b17 e16
  (try clear k0)
  have k0 := fun o => e17.cellAt (w.heap.size) (by omega) o
  go_wp2_with fail
  refine (laws_heldIntS _ _ _ _ _ (Rd.of_own orM) hLn (by omega) (by omega)).mono ?_
  rintro e w18 ⟨rfl, b18⟩
  have e18 := e17.trans b18
  have z18 := b18.size
  replace orW := own_keep orW b18
  replace orM := own_keep orM b18
  replace orH := own_keep orH b18
  clear b18 e17
  (try clear k0)
  have k0 := fun o => e18.cellAt (w.heap.size) (by omega) o
  go_wp2_with fail
  go_ret
  exact ⟨rfl, Eb.out.trans e18⟩
set_option maxRecDepth 100000 in
set_option maxHeartbeats 4000000 in
theorem law_MissingObjects (A0 : Option Addr) (n0 c0 : Nat) (a0 : List GCheck) (a1 : Int) (w : World) (hx0 : Rd w 3 A0 n0 (a0.flatMap GCheck.enc)) :
    Calls Try.prog 6 #[.slice A0 n0 c0, .int .i64 a1] w fun e w' => e = .returned (.bool true) ∧ Ext w w' := by
  have hnn0 := hx0.2.1
  by_cases hq0 : n0 ≤ 1048576
  case neg =>
    go_enter Try.func6, Try.ntmps6
    go_wp2_with fail
    refine (laws_szCheckS _ _ _ _ _ (by omega) (by omega) hnn0).mono ?_
    rintro e _ ⟨he, rfl⟩
    rw [if_pos (by omega)] at he
    subst he
    go_wp2_with fail
    go_ret
    refine ⟨rfl, ?_⟩
    (repeat (first | exact Ext.refl _ | assumption | refine Ext.alloc ?_ _ | refine Ext.drew ?_ | refine Ext.drewN ?_ _ | refine Ext.setCell ?_ (by first | (simp; done) | (simp; omega)) _ | refine Ext.trans ?_ (by assumption)))
  have hn0 : n0 ≤ 1048576 := by omega
  go_enter Try.func6, Try.ntmps6
  go_wp2_with fail
  refine (laws_szCheckS _ _ _ _ _ (by omega) (by omega) hnn0).mono ?_
  rintro e _ ⟨he, rfl⟩
  rw [if_neg (by omega)] at he
  subst he
  go_wp2_with fail
  have e0 := Ext.refl w
  go_wp2_with fail
  refine (laws_toCheckS _ _ _ a0 _ (hx0.keep e0) hn0).mono ?_
  rintro e w1 ⟨gW_0, rfl, b1, oW_0⟩
  have e1 := e0.trans b1
  have z1 := b1.size
  clear b1 e0
  have at_oW_0 := At.of_own oW_0
  go_wp2_with fail
  refine (spec_MissingObjects _ _ _ a0 a1 _ (Rd.of_own oW_0)).mono ?_
  rintro e w2 ⟨vW, rfl, b2, orW⟩
  have e2 := e1.trans b2
  have z2 := b2.size
  replace oW_0 := own_keep oW_0 b2
  clear b2 e1
  clear oW_0
  obtain ⟨AW, cW, rfl, _⟩ := own_form orW
  have at_orW := At.of_own orW
  go_wp2_with fail
  refine (laws_toCheckS _ _ _ a0 _ (hx0.keep e2) hn0).mono ?_
  rintro e w3 ⟨gX0, rfl, b3, oX0⟩
  have e3 := e2.trans b3
  have z3 := b3.size
  replace orW := own_keep orW b3
  clear b3 e2
  have at_oX0 := At.of_own oX0
  go_wp2_with fail
  refine (impl_MissingObjects _ _ _ a0 a1 _ (Rd.of_own oX0)).mono ?_
  rintro e w4 ⟨vG, rfl, b4, orG⟩
  have e4 := e3.trans b4
  have z4 := b4.size
  replace orW := own_keep orW b4
  replace oX0 := own_keep oX0 b4
  clear b4 e3
  obtain ⟨AG, cG, rfl, _⟩ := own_form orG
  have at_orG := At.of_own orG
  go_wp2_with fail
  refine (laws_eqIntS _ _ _ _ _ _ _ _ (Rd.of_own orG) (Rd.of_own orW)).mono ?_
  rintro e w5 ⟨rfl, b5⟩
  have e5 := e4.trans b5
  have z5 := b5.size
  replace orW := own_keep orW b5
  replace oX0 := own_keep oX0 b5
  replace orG := own_keep orG b5
  clear b5 e4
  go_wp2_with fail
  refine (laws_toCheckS _ _ _ a0 _ (hx0.keep e5) hn0).mono ?_
  rintro e w6 ⟨gY0, rfl, b6, oY0⟩
  have e6 := e5.trans b6
  have z6 := b6.size
  replace orW := own_keep orW b6
  replace oX0 := own_keep oX0 b6
  replace orG := own_keep orG b6
  clear b6 e5
  have at_oY0 := At.of_own oY0
  go_wp2_with fail
  refine (laws_eqCheckS _ _ _ _ _ _ _ _ (Rd.of_own oX0) (Rd.of_own oY0)).mono ?_
  rintro e w7 ⟨rfl, b7⟩
  have e7 := e6.trans b7
  have z7 := b7.size
  replace orW := own_keep orW b7
  replace oX0 := own_keep oX0 b7
  replace orG := own_keep orG b7
  replace oY0 := own_keep oY0 b7
  clear b7 e6
  clear oY0
  have hLn : (missObj a0 a1).length ≤ 1048576 := Nat.le_trans (missObj_len a0 a1) (by omega)
  go_wp2_with fail
  refine (laws_markCheckS _ _ _ _ _ _ _ oX0 hn0 (by omega) (by omega)).mono ?_
  rintro e w8 ⟨rfl, om8, hg8⟩
  have e8 := ext_kept e7 at_oX0 (by omega) hg8
  have z8 := hg8.size
  replace orW := own_kept orW at_orW at_oX0 (by omega) hg8
  replace orG := own_kept orG at_orG at_oX0 (by omega) hg8
  clear oX0 hg8 e7
  clear om8
  go_wp2_with fail
  refine (laws_eqIntS _ _ _ _ _ _ _ _ (Rd.of_own orG) (Rd.of_own orW)).mono ?_
  rintro e w9 ⟨rfl, b9⟩
  have e9 := e8.trans b9
  have z9 := b9.size
  replace orW := own_keep orW b9
  replace orG := own_keep orG b9
  clear b9 e8
  go_wp2_with fail
  refine (laws_markIntS _ _ _ _ _ _ _ orG hLn (by omega) (by omega)).mono ?_
  rintro e w10 ⟨rfl, om10, hg10⟩
  have e10 := ext_kept e9 at_orG (by omega) hg10
  have z10 := hg10.size
  replace orW := own_kept orW at_orW at_orG (by omega) hg10
  clear orG hg10 e9
  have orM := om10
  clear om10
  go_wp2_with fail
  refine (laws_heldIntS _ _ _ _ _ (Rd.of_own orM) hLn (by omega) (by omega)).mono ?_
  rintro e w11 ⟨rfl, b11⟩
  have e11 := e10.trans b11
  have z11 := b11.size
  replace orW := own_keep orW b11
  replace orM := own_keep orM b11
  clear b11 e10
  go_wp2_with fail
  refine (laws_toCheckS _ _ _ a0 _ (hx0.keep e11) hn0).mono ?_
  rintro e w12 ⟨gH_0, rfl, b12, oH_0⟩
  have e12 := e11.trans b12
  have z12 := b12.size
  replace orW := own_keep orW b12
  replace orM := own_keep orM b12
  clear b12 e11
  have at_oH_0 := At.of_own oH_0
  go_wp2_with fail
  refine (impl_MissingObjects _ _ _ a0 a1 _ (Rd.of_own oH_0)).mono ?_
  rintro e w13 ⟨vH, rfl, b13, orH⟩
  have e13 := e12.trans b13
  have z13 := b13.size
  replace orW := own_keep orW b13
  replace orM := own_keep orM b13
  replace oH_0 := own_keep oH_0 b13
  clear b13 e12
  clear oH_0
  obtain ⟨AH, cH, rfl, _⟩ := own_form orH
  have at_orH := At.of_own orH
  go_wp2_with fail
  refine (laws_eqIntS _ _ _ _ _ _ _ _ (Rd.of_own orH) (Rd.of_own orW)).mono ?_
  rintro e w14 ⟨rfl, b14⟩
  have e14 := e13.trans b14
  have z14 := b14.size
  replace orW := own_keep orW b14
  replace orM := own_keep orM b14
  replace orH := own_keep orH b14
  clear b14 e13
  go_wp2_with fail
  refine (laws_heldIntS _ _ _ _ _ (Rd.of_own orM) hLn (by omega) (by omega)).mono ?_
  rintro e w15 ⟨rfl, b15⟩
  have e15 := e14.trans b15
  have z15 := b15.size
  replace orW := own_keep orW b15
  replace orM := own_keep orM b15
  replace orH := own_keep orH b15
  clear b15 e14
  go_wp2_with fail
  go_ret
  exact ⟨rfl, e15⟩
end Go.Proofs.Ytlgmiifpdjalpaa
