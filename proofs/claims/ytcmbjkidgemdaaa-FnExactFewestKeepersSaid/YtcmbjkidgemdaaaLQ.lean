/- The walk of the law on FewestKeepers; no condition. -/
import Derived.Test.YtcmbjkidgemdaaaSHx
import Derived.Test.YtcmbjkidgemdaaaH3
namespace Go.Proofs.Ytcmbjkidgemdaaa
set_option linter.unusedSimpArgs false
set_option linter.unusedVariables false
open Go.RowKit
theorem lsts_len (n : Nat) : ∀ (m : Nat) (b : List Int), ∀ x ∈ lsts n m b, x.length = b.length + m
  | 0, b, x, h => by simp only [lsts, List.mem_cons, List.not_mem_nil, or_false] at h; subst h; rfl
  | m + 1, b, x, h => by
    simp only [lsts, List.mem_flatMap] at h
    obtain ⟨k, _, hx⟩ := h
    have := lsts_len n m _ x hx
    simp at this
    omega
theorem leastK_len (H : Int) (ds : List GDoor) (rings : List Int) : (leastK H ds rings).length ≤ 6 := by
  unfold leastK
  split
  · rename_i hc
    simp only [Bool.and_eq_true, decide_eq_true_eq] at hc
    have h6 := hc.2.1
    cases hf : findK rings.length (keepP H.toNat ds rings) with
    | none => simp
    | some a =>
      unfold findK at hf
      obtain ⟨m, hm, hf⟩ := List.exists_of_findSome?_eq_some hf
      have h1 := lsts_len _ _ _ a (List.mem_of_find?_eq_some hf)
      have h2 : m < 0 + (rings.length + 1) := by
        obtain ⟨i, hi, rfl⟩ := List.mem_range'.1 hm
        omega
      simp at h1
      simp
      omega
  · simp
set_option maxRecDepth 100000 in
set_option maxHeartbeats 8000000 in
theorem law_FewestKeepers (H0 : Int) (A0 : Option Addr) (n0 c0 : Nat) (a0 : List GDoor) (A1 : Option Addr) (n1 c1 : Nat) (a1 : List Int) (w : World) (hx0 : Rd w 2 A0 n0 (a0.flatMap GDoor.enc)) (hx1 : Rd w 1 A1 n1 (a1.flatMap ienc)) :
    Calls Try.prog 11 #[.agg #[.int .i64 H0, .slice A0 n0 c0], .slice A1 n1 c1] w fun e w' => e = .returned (.bool true) ∧ Ext w w' := by
  have hnn0 := hx0.2.1
  have hnn1 := hx1.2.1
  by_cases hq0 : n1 ≤ 1048576
  case neg =>
    go_enter Try.func11, Try.ntmps11
    go_wp2_with fail
    go_ret
    refine ⟨rfl, ?_⟩
    (repeat (first | exact Ext.refl _ | assumption | refine Ext.alloc ?_ _ | refine Ext.drew ?_ | refine Ext.drewN ?_ _ | refine Ext.setCell ?_ (by first | (simp; done) | (simp; omega)) _ | refine Ext.trans ?_ (by assumption)))
  by_cases hq1 : n0 ≤ 1048576
  case neg =>
    go_enter Try.func11, Try.ntmps11
    go_wp2_with fail
    obtain ⟨wb, hwb⟩ : ∃ wb, wb = (w.alloc (.cells #[.int .i64 H0, .slice A0 n0 c0] 24)) := ⟨_, rfl⟩
    rw [← hwb]
    have hsb : w.heap.size + 1 ≤ wb.heap.size := by rw [hwb]; simp
    have Eb := Lib.hid (show Ext w wb from by rw [hwb]; (repeat (first | exact Ext.refl _ | assumption | refine Ext.alloc ?_ _ | refine Ext.drew ?_ | refine Ext.drewN ?_ _ | refine Ext.setCell ?_ (by first | (simp; done) | (simp; omega)) _ | refine Ext.trans ?_ (by assumption))))
    have kb0_0 : wb.cell? ⟨w.heap.size, 0, none⟩ = some (.int .i64 H0) := by (rw [hwb]; first | (simp [World.cell?_alloc_at, World.cell?_alloc_past]; done) | (rw [World.cell?_alloc_new]; rfl) | (rw [World.cell?_alloc_lt _ _ _ (by simp), World.cell?_alloc_new]; rfl))
    have kb0_1 : wb.cell? ⟨w.heap.size, 1, none⟩ = some (.slice A0 n0 c0) := by (rw [hwb]; first | (simp [World.cell?_alloc_at, World.cell?_alloc_past]; done) | (rw [World.cell?_alloc_new]; rfl) | (rw [World.cell?_alloc_lt _ _ _ (by simp), World.cell?_alloc_new]; rfl))
    clear hwb
    replace hx0 := hx0.keep Eb.out
    replace hx1 := hx1.keep Eb.out
    have eb0 := Ext.refl wb
    refine (laws_szHouse _ _ _ _ _ _ (by omega) (by omega) hnn0).mono ?_
    rintro e w1 ⟨he, b1⟩
    rw [if_pos (by omega)] at he
    subst he
    have eb1 := eb0.trans b1
    have z1 := b1.size
    clear b1 eb0
    (try clear k0)
    have k0 := fun o => eb1.cellAt (w.heap.size) (by omega) o
    go_wp2_with fail
    go_ret
    exact ⟨rfl, Eb.out.trans eb1⟩
  have hn0 : n0 ≤ 1048576 := by omega
  have hn1 : n1 ≤ 1048576 := by omega
  go_enter Try.func11, Try.ntmps11
  go_wp2_with fail
  obtain ⟨wb, hwb⟩ : ∃ wb, wb = (w.alloc (.cells #[.int .i64 H0, .slice A0 n0 c0] 24)) := ⟨_, rfl⟩
  rw [← hwb]
  have hsb : w.heap.size + 1 ≤ wb.heap.size := by rw [hwb]; simp
  have Eb := Lib.hid (show Ext w wb from by rw [hwb]; (repeat (first | exact Ext.refl _ | assumption | refine Ext.alloc ?_ _ | refine Ext.drew ?_ | refine Ext.drewN ?_ _ | refine Ext.setCell ?_ (by first | (simp; done) | (simp; omega)) _ | refine Ext.trans ?_ (by assumption))))
  have kb0_0 : wb.cell? ⟨w.heap.size, 0, none⟩ = some (.int .i64 H0) := by (rw [hwb]; first | (simp [World.cell?_alloc_at, World.cell?_alloc_past]; done) | (rw [World.cell?_alloc_new]; rfl) | (rw [World.cell?_alloc_lt _ _ _ (by simp), World.cell?_alloc_new]; rfl))
  have kb0_1 : wb.cell? ⟨w.heap.size, 1, none⟩ = some (.slice A0 n0 c0) := by (rw [hwb]; first | (simp [World.cell?_alloc_at, World.cell?_alloc_past]; done) | (rw [World.cell?_alloc_new]; rfl) | (rw [World.cell?_alloc_lt _ _ _ (by simp), World.cell?_alloc_new]; rfl))
  clear hwb
  replace hx0 := hx0.keep Eb.out
  replace hx1 := hx1.keep Eb.out
  have eb0 := Ext.refl wb
  refine (laws_szHouse _ _ _ _ _ _ (by omega) (by omega) hnn0).mono ?_
  rintro e w1 ⟨he, b1⟩
  rw [if_neg (by omega)] at he
  subst he
  have eb1 := eb0.trans b1
  have z1 := b1.size
  clear b1 eb0
  (try clear k0)
  have k0 := fun o => eb1.cellAt (w.heap.size) (by omega) o
  go_wp2_with fail
  refine (laws_toHouse _ _ _ _ a0 _ (hx0.keep eb1) hn0).mono ?_
  rintro e w2 ⟨gW_0, rfl, b2, oW_0⟩
  have eb2 := eb1.trans b2
  have z2 := b2.size
  clear b2 eb1
  (try clear k0)
  have k0 := fun o => eb2.cellAt (w.heap.size) (by omega) o
  have at_oW_0 := At.of_own oW_0
  go_wp2_with fail
  refine (laws_toIntS _ _ _ a1 _ (hx1.keep eb2) hn1).mono ?_
  rintro e w3 ⟨gW_1, rfl, b3, oW_1⟩
  have eb3 := eb2.trans b3
  have z3 := b3.size
  replace oW_0 := own_keep oW_0 b3
  clear b3 eb2
  (try clear k0)
  have k0 := fun o => eb3.cellAt (w.heap.size) (by omega) o
  have at_oW_1 := At.of_own oW_1
  go_wp2_with fail
  refine (spec_FewestKeepers H0 _ _ _ a0 _ _ _ a1 _ (Rd.of_own oW_0) (Rd.of_own oW_1) hn1).mono ?_
  rintro e w4 ⟨vW, rfl, b4, orW⟩
  have eb4 := eb3.trans b4
  have z4 := b4.size
  replace oW_0 := own_keep oW_0 b4
  replace oW_1 := own_keep oW_1 b4
  clear b4 eb3
  (try clear k0)
  have k0 := fun o => eb4.cellAt (w.heap.size) (by omega) o
  clear oW_0
  clear oW_1
  obtain ⟨AW, cW, rfl, _⟩ := own_form orW
  have at_orW := At.of_own orW
  go_wp2_with fail
  refine (laws_toHouse _ _ _ _ a0 _ (hx0.keep eb4) hn0).mono ?_
  rintro e w5 ⟨gX0, rfl, b5, oX0⟩
  have eb5 := eb4.trans b5
  have z5 := b5.size
  replace orW := own_keep orW b5
  clear b5 eb4
  (try clear k0)
  have k0 := fun o => eb5.cellAt (w.heap.size) (by omega) o
  have at_oX0 := At.of_own oX0
  go_wp2_with fail
  obtain ⟨w6, hw6⟩ : ∃ w6, w6 = w5.alloc (.cells #[.int .i64 H0, .slice (some ⟨gX0, 0, none⟩) n0 n0] 29) := ⟨_, rfl⟩
  rw [← hw6]
  obtain ⟨b6, hz6, xk0_0, xk0_1⟩ := box2 w5 _ _ _ w6 hw6
  clear hw6
  obtain ⟨gb0, hgb0⟩ : ∃ gb, gb = w5.heap.size := ⟨_, rfl⟩
  rw [← hgb0] at xk0_0 xk0_1 ⊢
  have eb6 := eb5.trans b6
  have z6 := b6.size
  replace orW := own_keep orW b6
  replace oX0 := own_keep oX0 b6
  clear b6 eb5
  (try clear k0)
  have k0 := fun o => eb6.cellAt (w.heap.size) (by omega) o
  have ex06 := Ext.refl w6
  have hgbl0 : gb0 < w6.heap.size ∧ wb.heap.size ≤ gb0 := by (have := eb6.size; omega)
  clear hgb0 hz6
  go_wp2_with fail
  refine (laws_toIntS _ _ _ a1 _ (hx1.keep eb6) hn1).mono ?_
  rintro e w7 ⟨gX1, rfl, b7, oX1⟩
  have eb7 := eb6.trans b7
  have ex07 := ex06.trans b7
  have z7 := b7.size
  replace orW := own_keep orW b7
  replace oX0 := own_keep oX0 b7
  clear b7 eb6 ex06
  (try clear k0)
  have k0 := fun o => eb7.cellAt (w.heap.size) (by omega) o
  (try clear k1)
  have k1 := fun o => ex07.cellAt (gb0) (by omega) o
  have at_oX1 := At.of_own oX1
  go_wp2_with fail
  refine (impl_FewestKeepers H0 _ _ _ a0 _ _ _ a1 _ (Rd.of_own oX0) (Rd.of_own oX1) hn1).mono ?_
  rintro e w8 ⟨vG, rfl, b8, orG⟩
  have eb8 := eb7.trans b8
  have ex08 := ex07.trans b8
  have z8 := b8.size
  replace orW := own_keep orW b8
  replace oX0 := own_keep oX0 b8
  replace oX1 := own_keep oX1 b8
  clear b8 eb7 ex07
  (try clear k0)
  have k0 := fun o => eb8.cellAt (w.heap.size) (by omega) o
  (try clear k1)
  have k1 := fun o => ex08.cellAt (gb0) (by omega) o
  obtain ⟨AG, cG, rfl, _⟩ := own_form orG
  have at_orG := At.of_own orG
  go_wp2_with fail
  refine (laws_eqIntS _ _ _ _ _ _ _ _ (Rd.of_own orG) (Rd.of_own orW)).mono ?_
  rintro e w9 ⟨rfl, b9⟩
  have eb9 := eb8.trans b9
  have ex09 := ex08.trans b9
  have z9 := b9.size
  replace orW := own_keep orW b9
  replace oX0 := own_keep oX0 b9
  replace oX1 := own_keep oX1 b9
  replace orG := own_keep orG b9
  clear b9 eb8 ex08
  (try clear k0)
  have k0 := fun o => eb9.cellAt (w.heap.size) (by omega) o
  (try clear k1)
  have k1 := fun o => ex09.cellAt (gb0) (by omega) o
  go_wp2_with fail
  have s0 := (k0 0).trans kb0_0
  have s1 := (k0 1).trans kb0_1
  have s2 := (k1 0).trans xk0_0
  have s3 := (k1 1).trans xk0_1
  go_region_held3 (fun w' => w'.cell? ⟨w.heap.size, 0, none⟩ = some (.int .i64 H0) ∧ w'.cell? ⟨w.heap.size, 1, none⟩ = some (.slice A0 n0 c0) ∧ w'.cell? ⟨gb0, 0, none⟩ = some (.int .i64 H0) ∧ w'.cell? ⟨gb0, 1, none⟩ = some (.slice (some ⟨gX0, 0, none⟩) n0 n0)) (go_keep) (first | (go_at_call 16; refine (laws_toHouse _ _ _ _ a0 _ ((hx0.keep eb9).keep ((Ext.refl _).drewN 1)) hn0).mono ?_; rintro e w10 ⟨gY0, rfl, b10, oY0⟩; have k := b10.cellAt (w.heap.size) (by first | omega | (simp; omega)); have k' := b10.cellAt gb0 (by first | omega | (simp; omega)); have zz : w9.heap.size ≤ w10.heap.size := b10.size) | (go_at_call 18; refine (laws_eqHouse _ _ _ _ _ _ _ a0 _ (Rd.of_own (own_keep (own_keep oX0 ((Ext.refl _).drewN 1)) b10)) (Rd.of_own oY0)).mono ?_; rintro e w11 ⟨rfl, b11⟩; have q := b11.cellAt (w.heap.size) (by omega); have q' := b11.cellAt gb0 (by omega)))
  have eb11 := (eb9.drewN 1).trans (b10.trans b11)
  have ex011 := (ex09.drewN 1).trans (b10.trans b11)
  have z11 : w9.heap.size ≤ w11.heap.size := (((Ext.refl w9).drewN 1).trans (Ext.trans b10 b11)).size
  replace orW := own_keep orW (((Ext.refl w9).drewN 1).trans (b10.trans b11))
  replace oX0 := own_keep oX0 (((Ext.refl w9).drewN 1).trans (b10.trans b11))
  replace oX1 := own_keep oX1 (((Ext.refl w9).drewN 1).trans (b10.trans b11))
  replace orG := own_keep orG (((Ext.refl w9).drewN 1).trans (b10.trans b11))
  clear s0 s1 s2 s3 k k' q q' zz oY0 b10 b11 eb9 ex09
  (try clear k0)
  have k0 := fun o => eb11.cellAt (w.heap.size) (by omega) o
  (try clear k1)
  have k1 := fun o => ex011.cellAt (gb0) (by omega) o
  go_wp2_with fail
  refine (laws_toIntS _ _ _ a1 _ (hx1.keep eb11) hn1).mono ?_
  rintro e w12 ⟨gY1, rfl, b12, oY1⟩
  have eb12 := eb11.trans b12
  have ex012 := ex011.trans b12
  have z12 := b12.size
  replace orW := own_keep orW b12
  replace oX0 := own_keep oX0 b12
  replace oX1 := own_keep oX1 b12
  replace orG := own_keep orG b12
  clear b12 eb11 ex011
  (try clear k0)
  have k0 := fun o => eb12.cellAt (w.heap.size) (by omega) o
  (try clear k1)
  have k1 := fun o => ex012.cellAt (gb0) (by omega) o
  have at_oY1 := At.of_own oY1
  go_wp2_with fail
  refine (laws_eqIntS _ _ _ _ _ _ _ _ (Rd.of_own oX1) (Rd.of_own oY1)).mono ?_
  rintro e w13 ⟨rfl, b13⟩
  have eb13 := eb12.trans b13
  have ex013 := ex012.trans b13
  have z13 := b13.size
  replace orW := own_keep orW b13
  replace oX0 := own_keep oX0 b13
  replace oX1 := own_keep oX1 b13
  replace orG := own_keep orG b13
  replace oY1 := own_keep oY1 b13
  clear b13 eb12 ex012
  (try clear k0)
  have k0 := fun o => eb13.cellAt (w.heap.size) (by omega) o
  (try clear k1)
  have k1 := fun o => ex013.cellAt (gb0) (by omega) o
  clear oY1
  have hLn : (leastK H0 a0 a1).length ≤ 1048576 := Nat.le_trans (leastK_len H0 a0 a1) (by omega)
  go_wp2_with fail
  refine (laws_markHouse _ _ _ _ _ _ _ _ oX0 hn0 (by omega) (by omega)).mono ?_
  rintro e w14 ⟨rfl, om14, hg14⟩
  clear ex013
  (try clear k1)
  have eb14 := ext_kept eb13 at_oX0 (by omega) hg14
  have z14 := hg14.size
  replace orW := own_kept orW at_orW at_oX0 (by omega) hg14
  replace orG := own_kept orG at_orG at_oX0 (by omega) hg14
  replace oX1 := own_kept oX1 at_oX1 at_oX0 (by omega) hg14
  clear oX0 hg14 eb13
  clear om14
  (try clear k0)
  have k0 := fun o => eb14.cellAt (w.heap.size) (by omega) o
  go_wp2_with fail
  refine (laws_markIntS _ _ _ _ _ _ _ oX1 hn1 (by omega) (by omega)).mono ?_
  rintro e w15 ⟨rfl, om15, hg15⟩
  have eb15 := ext_kept eb14 at_oX1 (by omega) hg15
  have z15 := hg15.size
  replace orW := own_kept orW at_orW at_oX1 (by omega) hg15
  replace orG := own_kept orG at_orG at_oX1 (by omega) hg15
  clear oX1 hg15 eb14
  clear om15
  (try clear k0)
  have k0 := fun o => eb15.cellAt (w.heap.size) (by omega) o
  go_wp2_with fail
  refine (laws_eqIntS _ _ _ _ _ _ _ _ (Rd.of_own orG) (Rd.of_own orW)).mono ?_
  rintro e w16 ⟨rfl, b16⟩
  have eb16 := eb15.trans b16
  have z16 := b16.size
  replace orW := own_keep orW b16
  replace orG := own_keep orG b16
  clear b16 eb15
  (try clear k0)
  have k0 := fun o => eb16.cellAt (w.heap.size) (by omega) o
  go_wp2_with fail
  refine (laws_markIntS _ _ _ _ _ _ _ orG hLn (by omega) (by omega)).mono ?_
  rintro e w17 ⟨rfl, om17, hg17⟩
  have eb17 := ext_kept eb16 at_orG (by omega) hg17
  have z17 := hg17.size
  replace orW := own_kept orW at_orW at_orG (by omega) hg17
  clear orG hg17 eb16
  have orM := om17
  clear om17
  (try clear k0)
  have k0 := fun o => eb17.cellAt (w.heap.size) (by omega) o
  go_wp2_with fail
  refine (laws_heldIntS _ _ _ _ _ (Rd.of_own orM) hLn (by omega) (by omega)).mono ?_
  rintro e w18 ⟨rfl, b18⟩
  have eb18 := eb17.trans b18
  have z18 := b18.size
  replace orW := own_keep orW b18
  replace orM := own_keep orM b18
  clear b18 eb17
  (try clear k0)
  have k0 := fun o => eb18.cellAt (w.heap.size) (by omega) o
  go_wp2_with fail
  refine (laws_toHouse _ _ _ _ a0 _ (hx0.keep eb18) hn0).mono ?_
  rintro e w19 ⟨gH_0, rfl, b19, oH_0⟩
  have eb19 := eb18.trans b19
  have z19 := b19.size
  replace orW := own_keep orW b19
  replace orM := own_keep orM b19
  clear b19 eb18
  (try clear k0)
  have k0 := fun o => eb19.cellAt (w.heap.size) (by omega) o
  have at_oH_0 := At.of_own oH_0
  go_wp2_with fail
  refine (laws_toIntS _ _ _ a1 _ (hx1.keep eb19) hn1).mono ?_
  rintro e w20 ⟨gH_1, rfl, b20, oH_1⟩
  have eb20 := eb19.trans b20
  have z20 := b20.size
  replace orW := own_keep orW b20
  replace orM := own_keep orM b20
  replace oH_0 := own_keep oH_0 b20
  clear b20 eb19
  (try clear k0)
  have k0 := fun o => eb20.cellAt (w.heap.size) (by omega) o
  have at_oH_1 := At.of_own oH_1
  go_wp2_with fail
  refine (impl_FewestKeepers H0 _ _ _ a0 _ _ _ a1 _ (Rd.of_own oH_0) (Rd.of_own oH_1) hn1).mono ?_
  rintro e w21 ⟨vH, rfl, b21, orH⟩
  have eb21 := eb20.trans b21
  have z21 := b21.size
  replace orW := own_keep orW b21
  replace orM := own_keep orM b21
  replace oH_0 := own_keep oH_0 b21
  replace oH_1 := own_keep oH_1 b21
  clear b21 eb20
  (try clear k0)
  have k0 := fun o => eb21.cellAt (w.heap.size) (by omega) o
  clear oH_0
  clear oH_1
  obtain ⟨AH, cH, rfl, _⟩ := own_form orH
  have at_orH := At.of_own orH
  go_wp2_with fail
  refine (laws_eqIntS _ _ _ _ _ _ _ _ (Rd.of_own orH) (Rd.of_own orW)).mono ?_
  rintro e w22 ⟨rfl, b22⟩
  have eb22 := eb21.trans b22
  have z22 := b22.size
  replace orW := own_keep orW b22
  replace orM := own_keep orM b22
  replace orH := own_keep orH b22
  clear b22 eb21
  (try clear k0)
  have k0 := fun o => eb22.cellAt (w.heap.size) (by omega) o
  go_wp2_with fail
  refine (laws_heldIntS _ _ _ _ _ (Rd.of_own orM) hLn (by omega) (by omega)).mono ?_
  rintro e w23 ⟨rfl, b23⟩
  have eb23 := eb22.trans b23
  have z23 := b23.size
  replace orW := own_keep orW b23
  replace orM := own_keep orM b23
  replace orH := own_keep orH b23
  clear b23 eb22
  (try clear k0)
  have k0 := fun o => eb23.cellAt (w.heap.size) (by omega) o
  go_wp2_with fail
  go_ret
  exact ⟨rfl, Eb.out.trans eb23⟩
end Go.Proofs.Ytcmbjkidgemdaaa
