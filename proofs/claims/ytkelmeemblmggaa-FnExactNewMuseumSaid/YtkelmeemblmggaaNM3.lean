/- The walk of the law on NewMuseum; no condition. -/
import Derived.Test.YtkelmeemblmggaaNM2
namespace Go.Proofs.Ytkelmeemblmggaa
set_option linter.unusedSimpArgs false
set_option linter.unusedVariables false
open Go.RowKit Go.Sort
theorem new_fit {w : World} {base : Nat} {v : MV} {H : Int} {ds : List GDoor} {fs gs : List Int} (h : MOwn w base v (newM H ds fs gs)) (h0 : ds.length ≤ 1048576) (h1 : fs.length ≤ 1048576) (h2 : gs.length ≤ 1048576) : MFit v := by
  obtain ⟨a1, a2, a3, a4, a5⟩ := h.rd.lens
  obtain ⟨b1, b2, b3, b4, b5⟩ := newM_lens H ds fs gs
  exact MFit.of_own h (by omega) (by omega) (by omega) (by omega) (by omega)
set_option maxRecDepth 100000 in
set_option maxHeartbeats 8000000 in
theorem law_NewMuseum (H0 : Int) (A0 : Option Addr) (n0 c0 : Nat) (a0 : List GDoor) (A1 : Option Addr) (n1 c1 : Nat) (a1 : List Int) (A2 : Option Addr) (n2 c2 : Nat) (a2 : List Int) (w : World) (hx0 : Rd w 2 A0 n0 (a0.flatMap GDoor.enc)) (hx1 : Rd w 1 A1 n1 (a1.flatMap ienc)) (hx2 : Rd w 1 A2 n2 (a2.flatMap ienc)) :
    Calls Try.prog 4 #[.agg #[.int .i64 H0, .slice A0 n0 c0], .slice A1 n1 c1, .slice A2 n2 c2] w fun e w' => e = .returned (.bool true) ∧ Ext w w' := by
  have hnn0 := hx0.2.1
  have hnn1 := hx1.2.1
  have hnn2 := hx2.2.1
  by_cases hq0 : n1 ≤ 1048576
  case neg =>
    go_enter Try.func4, Try.ntmps4
    go_wp2_with fail
    go_ret
    refine ⟨rfl, ?_⟩
    (repeat (first | exact Ext.refl _ | assumption | refine Ext.alloc ?_ _ | refine Ext.drew ?_ | refine Ext.drewN ?_ _ | refine Ext.setCell ?_ (by first | (simp; done) | (simp; omega)) _ | refine Ext.trans ?_ (by assumption)))
  by_cases hq1 : n2 ≤ 1048576
  case neg =>
    go_enter Try.func4, Try.ntmps4
    go_wp2_with fail
    go_ret
    refine ⟨rfl, ?_⟩
    (repeat (first | exact Ext.refl _ | assumption | refine Ext.alloc ?_ _ | refine Ext.drew ?_ | refine Ext.drewN ?_ _ | refine Ext.setCell ?_ (by first | (simp; done) | (simp; omega)) _ | refine Ext.trans ?_ (by assumption)))
  by_cases hq2 : n0 ≤ 1048576
  case neg =>
    go_enter Try.func4, Try.ntmps4
    go_wp2_with fail
    obtain ⟨wb, hwb⟩ : ∃ wb, wb = (w.alloc (.cells #[.int .i64 H0, .slice A0 n0 c0] 35)) := ⟨_, rfl⟩
    rw [← hwb]
    have hsb : w.heap.size + 1 ≤ wb.heap.size := by rw [hwb]; simp
    have Eb := Lib.hid (show Ext w wb from by rw [hwb]; (repeat (first | exact Ext.refl _ | assumption | refine Ext.alloc ?_ _ | refine Ext.drew ?_ | refine Ext.drewN ?_ _ | refine Ext.setCell ?_ (by first | (simp; done) | (simp; omega)) _ | refine Ext.trans ?_ (by assumption))))
    have kb0_0 : wb.cell? ⟨w.heap.size, 0, none⟩ = some (.int .i64 H0) := by (rw [hwb]; first | (simp [World.cell?_alloc_at, World.cell?_alloc_past]; done) | (rw [World.cell?_alloc_new]; rfl) | (rw [World.cell?_alloc_lt _ _ _ (by simp), World.cell?_alloc_new]; rfl))
    have kb0_1 : wb.cell? ⟨w.heap.size, 1, none⟩ = some (.slice A0 n0 c0) := by (rw [hwb]; first | (simp [World.cell?_alloc_at, World.cell?_alloc_past]; done) | (rw [World.cell?_alloc_new]; rfl) | (rw [World.cell?_alloc_lt _ _ _ (by simp), World.cell?_alloc_new]; rfl))
    clear hwb
    replace hx0 := hx0.keep Eb.out
    replace hx1 := hx1.keep Eb.out
    replace hx2 := hx2.keep Eb.out
    have eb0 := Ext.refl wb
    refine (laws_szHouse _ _ _ _ _ _ (by omega) (by omega) hnn0).mono ?_
    rintro e w1 ⟨he, b1⟩
    rw [if_pos (by omega)] at he
    subst he
    have eb1 := eb0.trans b1
    have z1 := b1.size
    clear b1 eb0
    (try clear k0)
    have k0 := fun o => eb1.cellAt (w.heap.size) (by omega) o
    go_wp2_with fail
    go_ret
    exact ⟨rfl, Eb.out.trans eb1⟩
  have hn0 : n0 ≤ 1048576 := by omega
  have hn1 : n1 ≤ 1048576 := by omega
  have hn2 : n2 ≤ 1048576 := by omega
  have HF := Lib.hid (fun (W : World) (base : Nat) (v : MV) (h : MOwn W base v (newM H0 a0 a1 a2)) => new_fit h (by have := hx0.len GDoor.len (by omega); omega) (by have := hx1.len ienc_len (by omega); omega) (by have := hx2.len ienc_len (by omega); omega))
  have hNN := Lib.hid (fun v : MV => markEnd_nn (v := v))
  go_enter Try.func4, Try.ntmps4
  go_wp2_with fail
  obtain ⟨wb, hwb⟩ : ∃ wb, wb = (w.alloc (.cells #[.int .i64 H0, .slice A0 n0 c0] 35)) := ⟨_, rfl⟩
  rw [← hwb]
  have hsb : w.heap.size + 1 ≤ wb.heap.size := by rw [hwb]; simp
  have Eb := Lib.hid (show Ext w wb from by rw [hwb]; (repeat (first | exact Ext.refl _ | assumption | refine Ext.alloc ?_ _ | refine Ext.drew ?_ | refine Ext.drewN ?_ _ | refine Ext.setCell ?_ (by first | (simp; done) | (simp; omega)) _ | refine Ext.trans ?_ (by assumption))))
  have kb0_0 : wb.cell? ⟨w.heap.size, 0, none⟩ = some (.int .i64 H0) := by (rw [hwb]; first | (simp [World.cell?_alloc_at, World.cell?_alloc_past]; done) | (rw [World.cell?_alloc_new]; rfl) | (rw [World.cell?_alloc_lt _ _ _ (by simp), World.cell?_alloc_new]; rfl))
  have kb0_1 : wb.cell? ⟨w.heap.size, 1, none⟩ = some (.slice A0 n0 c0) := by (rw [hwb]; first | (simp [World.cell?_alloc_at, World.cell?_alloc_past]; done) | (rw [World.cell?_alloc_new]; rfl) | (rw [World.cell?_alloc_lt _ _ _ (by simp), World.cell?_alloc_new]; rfl))
  clear hwb
  replace hx0 := hx0.keep Eb.out
  replace hx1 := hx1.keep Eb.out
  replace hx2 := hx2.keep Eb.out
  have eb0 := Ext.refl wb
  refine (laws_szHouse _ _ _ _ _ _ (by omega) (by omega) hnn0).mono ?_
  rintro e w1 ⟨he, b1⟩
  rw [if_neg (by omega)] at he
  subst he
  have eb1 := eb0.trans b1
  have z1 := b1.size
  clear b1 eb0
  (try clear k0)
  have k0 := fun o => eb1.cellAt (w.heap.size) (by omega) o
  go_wp2_with fail
  refine (laws_toHouse _ _ _ _ a0 _ (hx0.keep eb1) hn0).mono ?_
  rintro e w2 ⟨gW_0, rfl, b2, oW_0⟩
  have eb2 := eb1.trans b2
  have z2 := b2.size
  clear b2 eb1
  (try clear k0)
  have k0 := fun o => eb2.cellAt (w.heap.size) (by omega) o
  have at_oW_0 := At.of_own oW_0
  go_wp2_with fail
  refine (laws_toIntS _ _ _ a1 _ (hx1.keep eb2) hn1).mono ?_
  rintro e w3 ⟨gW_1, rfl, b3, oW_1⟩
  have eb3 := eb2.trans b3
  have z3 := b3.size
  replace oW_0 := own_keep oW_0 b3
  clear b3 eb2
  (try clear k0)
  have k0 := fun o => eb3.cellAt (w.heap.size) (by omega) o
  have at_oW_1 := At.of_own oW_1
  go_wp2_with fail
  refine (laws_toIntS _ _ _ a2 _ (hx2.keep eb3) hn2).mono ?_
  rintro e w4 ⟨gW_2, rfl, b4, oW_2⟩
  have eb4 := eb3.trans b4
  have z4 := b4.size
  replace oW_0 := own_keep oW_0 b4
  replace oW_1 := own_keep oW_1 b4
  clear b4 eb3
  (try clear k0)
  have k0 := fun o => eb4.cellAt (w.heap.size) (by omega) o
  have at_oW_2 := At.of_own oW_2
  go_wp2_with fail
  refine (spec_NewMuseum H0 _ _ _ a0 _ _ _ a1 _ _ _ a2 _ (Rd.of_own oW_0) (Rd.of_own oW_1) (Rd.of_own oW_2) (fun h => by cases h) (fun h => by cases h) (fun h => by cases h) hn0 hn1 hn2).mono ?_
  rintro e w5 ⟨vW, hev, b5, oW⟩
  obtain ⟨HW, ⟨AW0, nW0, kW0⟩, ⟨AW1, nW1, kW1⟩, ⟨AW2, nW2, kW2⟩, ⟨AW3, nW3, kW3⟩, dW, ⟨AW4, nW4, kW4⟩⟩ := vW
  simp only [MV.val, MV.cells] at hev
  subst hev
  have eb5 := eb4.trans b5
  have z5 := b5.size
  replace oW_0 := own_keep oW_0 b5
  replace oW_1 := own_keep oW_1 b5
  replace oW_2 := own_keep oW_2 b5
  clear b5 eb4
  (try clear k0)
  have k0 := fun o => eb5.cellAt (w.heap.size) (by omega) o
  clear oW_0
  clear oW_1
  clear oW_2
  have MW := Lib.hid (MAt.of_own oW)
  have FW := Lib.hid (HF.out _ _ _ oW)
  have OW := Lib.hid oW
  clear oW
  obtain ⟨w6, hw6⟩ : ∃ w6, w6 = w5.alloc (.cells #[.int .i64 HW, .slice AW0 nW0 kW0, .slice AW1 nW1 kW1, .slice AW2 nW2 kW2, .slice AW3 nW3 kW3, .int .i64 dW, .slice AW4 nW4 kW4] 28) := ⟨_, rfl⟩
  have HW6 := Lib.hid hw6
  have b6 : Ext w5 w6 := by rw [hw6]; exact (Ext.refl _).alloc _
  have BW := Lib.hid (MBox.new (v := (⟨HW, ⟨AW0, nW0, kW0⟩, ⟨AW1, nW1, kW1⟩, ⟨AW2, nW2, kW2⟩, ⟨AW3, nW3, kW3⟩, dW, ⟨AW4, nW4, kW4⟩⟩ : MV)) hw6)
  have zl6 : w5.heap.size < w6.heap.size := BW.out.lt
  clear hw6
  have eb6 := eb5.trans b6
  have z6 := b6.size
  have OW := Lib.hid (OW.out.keep b6)
  clear b6 eb5
  (try clear k0)
  have k0 := fun o => eb6.cellAt (w.heap.size) (by omega) o
  rw [HW6.out] at k0
  go_wp2_with fail
  rw [← HW6.out]
  refine (laws_toHouse _ _ _ _ a0 _ (hx0.keep eb6) hn0).mono ?_
  rintro e w7 ⟨gX0, rfl, b7, oX0⟩
  have eb7 := eb6.trans b7
  have z7 := b7.size
  have OW := Lib.hid (OW.out.keep b7)
  have BW := Lib.hid (BW.out.keep b7)
  clear b7 eb6
  (try clear k0)
  have k0 := fun o => eb7.cellAt (w.heap.size) (by omega) o
  have at_oX0 := At.of_own oX0
  go_wp2_with fail
  obtain ⟨w8, hw8⟩ : ∃ w8, w8 = w7.alloc (.cells #[.int .i64 H0, .slice (some ⟨gX0, 0, none⟩) n0 n0] 24) := ⟨_, rfl⟩
  rw [← hw8]
  obtain ⟨b8, hz8, xk0_0, xk0_1⟩ := box2 w7 _ _ _ w8 hw8
  clear hw8
  obtain ⟨gb0, hgb0⟩ : ∃ gb, gb = w7.heap.size := ⟨_, rfl⟩
  rw [← hgb0] at xk0_0 xk0_1 ⊢
  have eb8 := eb7.trans b8
  have z8 := b8.size
  replace oX0 := own_keep oX0 b8
  have OW := Lib.hid (OW.out.keep b8)
  have BW := Lib.hid (BW.out.keep b8)
  clear b8 eb7
  (try clear k0)
  have k0 := fun o => eb8.cellAt (w.heap.size) (by omega) o
  have ex08 := Ext.refl w8
  have hgbl0 : gb0 < w8.heap.size ∧ wb.heap.size ≤ gb0 := by (have := eb8.size; omega)
  clear hgb0 hz8
  go_wp2_with fail
  refine (laws_toIntS _ _ _ a1 _ (hx1.keep eb8) hn1).mono ?_
  rintro e w9 ⟨gX1, rfl, b9, oX1⟩
  have eb9 := eb8.trans b9
  have ex09 := ex08.trans b9
  have z9 := b9.size
  replace oX0 := own_keep oX0 b9
  have OW := Lib.hid (OW.out.keep b9)
  have BW := Lib.hid (BW.out.keep b9)
  clear b9 eb8 ex08
  (try clear k0)
  have k0 := fun o => eb9.cellAt (w.heap.size) (by omega) o
  (try clear k1)
  have k1 := fun o => ex09.cellAt (gb0) (by omega) o
  have at_oX1 := At.of_own oX1
  go_wp2_with fail
  refine (laws_toIntS _ _ _ a2 _ (hx2.keep eb9) hn2).mono ?_
  rintro e w10 ⟨gX2, rfl, b10, oX2⟩
  have eb10 := eb9.trans b10
  have ex010 := ex09.trans b10
  have z10 := b10.size
  replace oX0 := own_keep oX0 b10
  replace oX1 := own_keep oX1 b10
  have OW := Lib.hid (OW.out.keep b10)
  have BW := Lib.hid (BW.out.keep b10)
  clear b10 eb9 ex09
  (try clear k0)
  have k0 := fun o => eb10.cellAt (w.heap.size) (by omega) o
  (try clear k1)
  have k1 := fun o => ex010.cellAt (gb0) (by omega) o
  have at_oX2 := At.of_own oX2
  obtain ⟨wx, hwx⟩ : ∃ wx, wx = w10.heap.size := ⟨_, rfl⟩
  go_wp2_with fail
  refine (impl_NewMuseum H0 _ _ _ a0 _ _ _ a1 _ _ _ a2 _ (Rd.of_own oX0) (Rd.of_own oX1) (Rd.of_own oX2) (fun h => by cases h) (fun h => by cases h) (fun h => by cases h) hn0 hn1 hn2).mono ?_
  rintro e w11 ⟨vG, hev, b11, oG⟩
  obtain ⟨HG, ⟨AG0, nG0, kG0⟩, ⟨AG1, nG1, kG1⟩, ⟨AG2, nG2, kG2⟩, ⟨AG3, nG3, kG3⟩, dG, ⟨AG4, nG4, kG4⟩⟩ := vG
  simp only [MV.val, MV.cells] at hev
  subst hev
  have eb11 := eb10.trans b11
  have ex011 := ex010.trans b11
  have z11 := b11.size
  replace oX0 := own_keep oX0 b11
  replace oX1 := own_keep oX1 b11
  replace oX2 := own_keep oX2 b11
  have OW := Lib.hid (OW.out.keep b11)
  have BW := Lib.hid (BW.out.keep b11)
  clear b11 eb10 ex010
  (try clear k0)
  have k0 := fun o => eb11.cellAt (w.heap.size) (by omega) o
  (try clear k1)
  have k1 := fun o => ex011.cellAt (gb0) (by omega) o
  have MG := Lib.hid (MAt.of_own oG)
  have FG := Lib.hid (HF.out _ _ _ oG)
  have OG := Lib.hid oG
  clear oG
  obtain ⟨w12, hw12⟩ : ∃ w12, w12 = w11.alloc (.cells #[.int .i64 HG, .slice AG0 nG0 kG0, .slice AG1 nG1 kG1, .slice AG2 nG2 kG2, .slice AG3 nG3 kG3, .int .i64 dG, .slice AG4 nG4 kG4] 28) := ⟨_, rfl⟩
  have HW12 := Lib.hid hw12
  have b12 : Ext w11 w12 := by rw [hw12]; exact (Ext.refl _).alloc _
  have BG := Lib.hid (MBox.new (v := (⟨HG, ⟨AG0, nG0, kG0⟩, ⟨AG1, nG1, kG1⟩, ⟨AG2, nG2, kG2⟩, ⟨AG3, nG3, kG3⟩, dG, ⟨AG4, nG4, kG4⟩⟩ : MV)) hw12)
  have zl12 : w11.heap.size < w12.heap.size := BG.out.lt
  clear hw12
  have eb12 := eb11.trans b12
  have ex012 := ex011.trans b12
  have z12 := b12.size
  replace oX0 := own_keep oX0 b12
  replace oX1 := own_keep oX1 b12
  replace oX2 := own_keep oX2 b12
  have OW := Lib.hid (OW.out.keep b12)
  have BW := Lib.hid (BW.out.keep b12)
  have OG := Lib.hid (OG.out.keep b12)
  clear b12 eb11 ex011
  (try clear k0)
  have k0 := fun o => eb12.cellAt (w.heap.size) (by omega) o
  (try clear k1)
  have k1 := fun o => ex012.cellAt (gb0) (by omega) o
  rw [HW12.out] at k0 k1
  obtain ⟨wy, hwy⟩ : ∃ wy, wy = w11.heap.size := ⟨_, rfl⟩
  obtain ⟨cb0, cb1, cb2, cb3, cb4, cb5, cb6⟩ := BG.out.cell
  simp only at cb0 cb1 cb2 cb3 cb4 cb5 cb6
  obtain ⟨cy0, cy1, cy2, cy3, cy4, cy5, cy6⟩ := BW.out.cell
  simp only at cy0 cy1 cy2 cy3 cy4 cy5 cy6
  rw [HW12.out] at cb0 cb1 cb2 cb3 cb4 cb5 cb6 cy0 cy1 cy2 cy3 cy4 cy5 cy6
  go_wp2_with fail
  rw [← HW12.out]
  refine (laws_eqMuseum (⟨HG, ⟨AG0, nG0, kG0⟩, ⟨AG1, nG1, kG1⟩, ⟨AG2, nG2, kG2⟩, ⟨AG3, nG3, kG3⟩, dG, ⟨AG4, nG4, kG4⟩⟩ : MV) (⟨HW, ⟨AW0, nW0, kW0⟩, ⟨AW1, nW1, kW1⟩, ⟨AW2, nW2, kW2⟩, ⟨AW3, nW3, kW3⟩, dW, ⟨AW4, nW4, kW4⟩⟩ : MV) _ w12 OG.out.rd OW.out.rd).mono ?_
  rintro e w13 ⟨rfl, b13⟩
  have eb13 := eb12.trans b13
  have ex013 := ex012.trans b13
  have z13 := b13.size
  replace oX0 := own_keep oX0 b13
  replace oX1 := own_keep oX1 b13
  replace oX2 := own_keep oX2 b13
  have OW := Lib.hid (OW.out.keep b13)
  have BW := Lib.hid (BW.out.keep b13)
  have OG := Lib.hid (OG.out.keep b13)
  have BG := Lib.hid (BG.out.keep b13)
  clear b13 eb12 ex012
  (try clear k0)
  have k0 := fun o => eb13.cellAt (w.heap.size) (by omega) o
  (try clear k1)
  have k1 := fun o => ex013.cellAt (gb0) (by omega) o
  clear cb0 cb1 cb2 cb3 cb4 cb5 cb6 cy0 cy1 cy2 cy3 cy4 cy5 cy6
  go_wp2_with fail
  have s0 := (k0 0).trans kb0_0
  have s1 := (k0 1).trans kb0_1
  have s2 := (k1 0).trans xk0_0
  have s3 := (k1 1).trans xk0_1
  go_region_held3 (fun w' => w'.cell? ⟨w.heap.size, 0, none⟩ = some (.int .i64 H0) ∧ w'.cell? ⟨w.heap.size, 1, none⟩ = some (.slice A0 n0 c0) ∧ w'.cell? ⟨gb0, 0, none⟩ = some (.int .i64 H0) ∧ w'.cell? ⟨gb0, 1, none⟩ = some (.slice (some ⟨gX0, 0, none⟩) n0 n0)) (go_keep) (first | (go_at_call 14; refine (laws_toHouse _ _ _ _ a0 _ ((hx0.keep eb13).keep ((Ext.refl _).drewN 1)) hn0).mono ?_; rintro e w14 ⟨gY0, rfl, b14, oY0⟩; have k := b14.cellAt (w.heap.size) (by first | omega | (simp; omega)); have k' := b14.cellAt gb0 (by first | omega | (simp; omega)); have zz : w13.heap.size ≤ w14.heap.size := b14.size) | (go_at_call 17; refine (laws_eqHouse _ _ _ _ _ _ _ a0 _ (Rd.of_own (own_keep (own_keep oX0 ((Ext.refl _).drewN 1)) b14)) (Rd.of_own oY0)).mono ?_; rintro e w15 ⟨rfl, b15⟩; have q := b15.cellAt (w.heap.size) (by omega); have q' := b15.cellAt gb0 (by omega)))
  have eb15 := (eb13.drewN 1).trans (b14.trans b15)
  have ex015 := (ex013.drewN 1).trans (b14.trans b15)
  have z15 : w13.heap.size ≤ w15.heap.size := (((Ext.refl w13).drewN 1).trans (Ext.trans b14 b15)).size
  replace oX0 := own_keep oX0 (((Ext.refl w13).drewN 1).trans (b14.trans b15))
  replace oX1 := own_keep oX1 (((Ext.refl w13).drewN 1).trans (b14.trans b15))
  replace oX2 := own_keep oX2 (((Ext.refl w13).drewN 1).trans (b14.trans b15))
  have OW := Lib.hid (OW.out.keep (((Ext.refl w13).drewN 1).trans (b14.trans b15)))
  have BW := Lib.hid (BW.out.keep (((Ext.refl w13).drewN 1).trans (b14.trans b15)))
  have OG := Lib.hid (OG.out.keep (((Ext.refl w13).drewN 1).trans (b14.trans b15)))
  have BG := Lib.hid (BG.out.keep (((Ext.refl w13).drewN 1).trans (b14.trans b15)))
  clear s0 s1 s2 s3 k k' q q' zz oY0 b14 b15 eb13 ex013
  (try clear k0)
  have k0 := fun o => eb15.cellAt (w.heap.size) (by omega) o
  (try clear k1)
  have k1 := fun o => ex015.cellAt (gb0) (by omega) o
  go_wp2_with fail
  refine (laws_toIntS _ _ _ a1 _ (hx1.keep eb15) hn1).mono ?_
  rintro e w16 ⟨gY1, rfl, b16, oY1⟩
  have eb16 := eb15.trans b16
  have ex016 := ex015.trans b16
  have z16 := b16.size
  replace oX0 := own_keep oX0 b16
  replace oX1 := own_keep oX1 b16
  replace oX2 := own_keep oX2 b16
  have OW := Lib.hid (OW.out.keep b16)
  have BW := Lib.hid (BW.out.keep b16)
  have OG := Lib.hid (OG.out.keep b16)
  have BG := Lib.hid (BG.out.keep b16)
  clear b16 eb15 ex015
  (try clear k0)
  have k0 := fun o => eb16.cellAt (w.heap.size) (by omega) o
  (try clear k1)
  have k1 := fun o => ex016.cellAt (gb0) (by omega) o
  have at_oY1 := At.of_own oY1
  go_wp2_with fail
  refine (laws_eqIntS _ _ _ _ _ _ _ _ (Rd.of_own oX1) (Rd.of_own oY1)).mono ?_
  rintro e w17 ⟨rfl, b17⟩
  have eb17 := eb16.trans b17
  have ex017 := ex016.trans b17
  have z17 := b17.size
  replace oX0 := own_keep oX0 b17
  replace oX1 := own_keep oX1 b17
  replace oX2 := own_keep oX2 b17
  replace oY1 := own_keep oY1 b17
  have OW := Lib.hid (OW.out.keep b17)
  have BW := Lib.hid (BW.out.keep b17)
  have OG := Lib.hid (OG.out.keep b17)
  have BG := Lib.hid (BG.out.keep b17)
  clear b17 eb16 ex016
  (try clear k0)
  have k0 := fun o => eb17.cellAt (w.heap.size) (by omega) o
  (try clear k1)
  have k1 := fun o => ex017.cellAt (gb0) (by omega) o
  clear oY1
  go_wp2_with fail
  refine (laws_toIntS _ _ _ a2 _ (hx2.keep eb17) hn2).mono ?_
  rintro e w18 ⟨gY2, rfl, b18, oY2⟩
  have eb18 := eb17.trans b18
  have ex018 := ex017.trans b18
  have z18 := b18.size
  replace oX0 := own_keep oX0 b18
  replace oX1 := own_keep oX1 b18
  replace oX2 := own_keep oX2 b18
  have OW := Lib.hid (OW.out.keep b18)
  have BW := Lib.hid (BW.out.keep b18)
  have OG := Lib.hid (OG.out.keep b18)
  have BG := Lib.hid (BG.out.keep b18)
  clear b18 eb17 ex017
  (try clear k0)
  have k0 := fun o => eb18.cellAt (w.heap.size) (by omega) o
  (try clear k1)
  have k1 := fun o => ex018.cellAt (gb0) (by omega) o
  have at_oY2 := At.of_own oY2
  go_wp2_with fail
  refine (laws_eqIntS _ _ _ _ _ _ _ _ (Rd.of_own oX2) (Rd.of_own oY2)).mono ?_
  rintro e w19 ⟨rfl, b19⟩
  have eb19 := eb18.trans b19
  have ex019 := ex018.trans b19
  have z19 := b19.size
  replace oX0 := own_keep oX0 b19
  replace oX1 := own_keep oX1 b19
  replace oX2 := own_keep oX2 b19
  replace oY2 := own_keep oY2 b19
  have OW := Lib.hid (OW.out.keep b19)
  have BW := Lib.hid (BW.out.keep b19)
  have OG := Lib.hid (OG.out.keep b19)
  have BG := Lib.hid (BG.out.keep b19)
  clear b19 eb18 ex018
  (try clear k0)
  have k0 := fun o => eb19.cellAt (w.heap.size) (by omega) o
  (try clear k1)
  have k1 := fun o => ex019.cellAt (gb0) (by omega) o
  clear oY2
  go_wp2_with fail
  refine (laws_markHouse _ _ _ _ _ _ _ _ oX0 hn0 (by omega) (by omega)).mono ?_
  rintro e w20 ⟨rfl, om20, hg20⟩
  clear ex019
  (try clear k1)
  have eb20 := ext_kept eb19 at_oX0 (by omega) hg20
  have z20 := hg20.size
  replace oX1 := own_kept oX1 at_oX1 at_oX0 (by omega) hg20
  replace oX2 := own_kept oX2 at_oX2 at_oX0 (by omega) hg20
  have kk20 := KeptOut.of_at hg20 at_oX0
  have OW := Lib.hid (OW.out.below kk20 (MW.out.mono (Nat.le_refl _) (by omega)))
  have BW := Lib.hid (BW.out.out kk20 (.inl (by omega)))
  have OG := Lib.hid (OG.out.out kk20 (by omega))
  have BG := Lib.hid (BG.out.out kk20 (.inr (by omega)))
  clear kk20
  clear oX0 hg20 eb19
  clear om20
  (try clear k0)
  have k0 := fun o => eb20.cellAt (w.heap.size) (by omega) o
  go_wp2_with fail
  refine (laws_markIntS _ _ _ _ _ _ _ oX1 hn1 (by omega) (by omega)).mono ?_
  rintro e w21 ⟨rfl, om21, hg21⟩
  have eb21 := ext_kept eb20 at_oX1 (by omega) hg21
  have z21 := hg21.size
  replace oX2 := own_kept oX2 at_oX2 at_oX1 (by omega) hg21
  have kk21 := KeptOut.of_at hg21 at_oX1
  have OW := Lib.hid (OW.out.below kk21 (MW.out.mono (Nat.le_refl _) (by omega)))
  have BW := Lib.hid (BW.out.out kk21 (.inl (by omega)))
  have OG := Lib.hid (OG.out.out kk21 (by omega))
  have BG := Lib.hid (BG.out.out kk21 (.inr (by omega)))
  clear kk21
  clear oX1 hg21 eb20
  clear om21
  (try clear k0)
  have k0 := fun o => eb21.cellAt (w.heap.size) (by omega) o
  go_wp2_with fail
  refine (laws_markIntS _ _ _ _ _ _ _ oX2 hn2 (by omega) (by omega)).mono ?_
  rintro e w22 ⟨rfl, om22, hg22⟩
  have eb22 := ext_kept eb21 at_oX2 (by omega) hg22
  have z22 := hg22.size
  have kk22 := KeptOut.of_at hg22 at_oX2
  have OW := Lib.hid (OW.out.below kk22 (MW.out.mono (Nat.le_refl _) (by omega)))
  have BW := Lib.hid (BW.out.out kk22 (.inl (by omega)))
  have OG := Lib.hid (OG.out.out kk22 (by omega))
  have BG := Lib.hid (BG.out.out kk22 (.inr (by omega)))
  clear kk22
  clear oX2 hg22 eb21
  clear om22
  (try clear k0)
  have k0 := fun o => eb22.cellAt (w.heap.size) (by omega) o
  obtain ⟨cb0, cb1, cb2, cb3, cb4, cb5, cb6⟩ := BG.out.cell
  simp only at cb0 cb1 cb2 cb3 cb4 cb5 cb6
  obtain ⟨cy0, cy1, cy2, cy3, cy4, cy5, cy6⟩ := BW.out.cell
  simp only at cy0 cy1 cy2 cy3 cy4 cy5 cy6
  go_wp2_with fail
  refine (laws_eqMuseum (⟨HG, ⟨AG0, nG0, kG0⟩, ⟨AG1, nG1, kG1⟩, ⟨AG2, nG2, kG2⟩, ⟨AG3, nG3, kG3⟩, dG, ⟨AG4, nG4, kG4⟩⟩ : MV) (⟨HW, ⟨AW0, nW0, kW0⟩, ⟨AW1, nW1, kW1⟩, ⟨AW2, nW2, kW2⟩, ⟨AW3, nW3, kW3⟩, dW, ⟨AW4, nW4, kW4⟩⟩ : MV) _ w22 OG.out.rd OW.out.rd).mono ?_
  rintro e w23 ⟨rfl, b23⟩
  have eb23 := eb22.trans b23
  have z23 := b23.size
  have OW := Lib.hid (OW.out.keep b23)
  have BW := Lib.hid (BW.out.keep b23)
  have OG := Lib.hid (OG.out.keep b23)
  have BG := Lib.hid (BG.out.keep b23)
  clear b23 eb22
  (try clear k0)
  have k0 := fun o => eb23.cellAt (w.heap.size) (by omega) o
  clear cb0 cb1 cb2 cb3 cb4 cb5 cb6 cy0 cy1 cy2 cy3 cy4 cy5 cy6
  obtain ⟨cb0, cb1, cb2, cb3, cb4, cb5, cb6⟩ := BG.out.cell
  simp only at cb0 cb1 cb2 cb3 cb4 cb5 cb6
  go_wp2_with fail
  obtain ⟨kg, hkg⟩ : ∃ z, z = markEnd 1 (⟨HG, ⟨AG0, nG0, kG0⟩, ⟨AG1, nG1, kG1⟩, ⟨AG2, nG2, kG2⟩, ⟨AG3, nG3, kG3⟩, dG, ⟨AG4, nG4, kG4⟩⟩ : MV) := ⟨_, rfl⟩
  have nkg : ¬ kg < 0 := by rw [hkg]; exact markEnd_nn
  refine (laws_markMuseum (⟨HG, ⟨AG0, nG0, kG0⟩, ⟨AG1, nG1, kG1⟩, ⟨AG2, nG2, kG2⟩, ⟨AG3, nG3, kG3⟩, dG, ⟨AG4, nG4, kG4⟩⟩ : MV) _ 1 wx wy w23 (by rw [hwx]; exact OG.out) (by rw [hwx, hwy]; exact MG.out) FG.out (by omega) (by omega) (by omega)).mono ?_
  rintro e w24 ⟨he, om, km⟩
  rw [← hkg] at he
  subst he
  have eb24 := km.ext eb23 (by omega)
  have z24 := km.size
  have BW := Lib.hid (BW.out.out km (.inl (by omega)))
  have BG := Lib.hid (BG.out.out km (.inr (by omega)))
  have OW := Lib.hid (OW.out.below km (MW.out.mono (Nat.le_refl _) (by omega)))
  have OM := Lib.hid om
  have HKG := Lib.hid hkg
  clear km om OG hkg eb23
  clear cb0 cb1 cb2 cb3 cb4 cb5 cb6
  (try clear k0)
  have k0 := fun o => eb24.cellAt (w.heap.size) (by omega) o
  obtain ⟨cb0, cb1, cb2, cb3, cb4, cb5, cb6⟩ := BG.out.cell
  simp only at cb0 cb1 cb2 cb3 cb4 cb5 cb6
  go_wp2_with fail
  refine (laws_heldMuseum (⟨HG, ⟨AG0, nG0, kG0⟩, ⟨AG1, nG1, kG1⟩, ⟨AG2, nG2, kG2⟩, ⟨AG3, nG3, kG3⟩, dG, ⟨AG4, nG4, kG4⟩⟩ : MV) _ 1 w24 OM.out.rd FG.out (by omega) (by omega)).mono ?_
  rintro e w25 ⟨he, b25⟩
  rw [← HKG.out] at he
  subst he
  have eb25 := eb24.trans b25
  have z25 := b25.size
  have BW := Lib.hid (BW.out.keep b25)
  have BG := Lib.hid (BG.out.keep b25)
  have OW := Lib.hid (OW.out.keep b25)
  have OM := Lib.hid (OM.out.keep b25)
  clear b25 eb24
  (try clear k0)
  have k0 := fun o => eb25.cellAt (w.heap.size) (by omega) o
  clear cb0 cb1 cb2 cb3 cb4 cb5 cb6
  go_wp2_with fail
  refine (laws_toHouse _ _ _ _ a0 _ (hx0.keep eb25) hn0).mono ?_
  rintro e w26 ⟨gH_0, rfl, b26, oH_0⟩
  have eb26 := eb25.trans b26
  have z26 := b26.size
  have BW := Lib.hid (BW.out.keep b26)
  have BG := Lib.hid (BG.out.keep b26)
  have OW := Lib.hid (OW.out.keep b26)
  have OM := Lib.hid (OM.out.keep b26)
  clear b26 eb25
  (try clear k0)
  have k0 := fun o => eb26.cellAt (w.heap.size) (by omega) o
  have at_oH_0 := At.of_own oH_0
  go_wp2_with fail
  refine (laws_toIntS _ _ _ a1 _ (hx1.keep eb26) hn1).mono ?_
  rintro e w27 ⟨gH_1, rfl, b27, oH_1⟩
  have eb27 := eb26.trans b27
  have z27 := b27.size
  replace oH_0 := own_keep oH_0 b27
  have BW := Lib.hid (BW.out.keep b27)
  have BG := Lib.hid (BG.out.keep b27)
  have OW := Lib.hid (OW.out.keep b27)
  have OM := Lib.hid (OM.out.keep b27)
  clear b27 eb26
  (try clear k0)
  have k0 := fun o => eb27.cellAt (w.heap.size) (by omega) o
  have at_oH_1 := At.of_own oH_1
  go_wp2_with fail
  refine (laws_toIntS _ _ _ a2 _ (hx2.keep eb27) hn2).mono ?_
  rintro e w28 ⟨gH_2, rfl, b28, oH_2⟩
  have eb28 := eb27.trans b28
  have z28 := b28.size
  replace oH_0 := own_keep oH_0 b28
  replace oH_1 := own_keep oH_1 b28
  have BW := Lib.hid (BW.out.keep b28)
  have BG := Lib.hid (BG.out.keep b28)
  have OW := Lib.hid (OW.out.keep b28)
  have OM := Lib.hid (OM.out.keep b28)
  clear b28 eb27
  (try clear k0)
  have k0 := fun o => eb28.cellAt (w.heap.size) (by omega) o
  have at_oH_2 := At.of_own oH_2
  go_wp2_with fail
  refine (impl_NewMuseum H0 _ _ _ a0 _ _ _ a1 _ _ _ a2 _ (Rd.of_own oH_0) (Rd.of_own oH_1) (Rd.of_own oH_2) (fun h => by cases h) (fun h => by cases h) (fun h => by cases h) hn0 hn1 hn2).mono ?_
  rintro e w29 ⟨vH, hev, b29, oH⟩
  obtain ⟨HH, ⟨AH0, nH0, kH0⟩, ⟨AH1, nH1, kH1⟩, ⟨AH2, nH2, kH2⟩, ⟨AH3, nH3, kH3⟩, dH, ⟨AH4, nH4, kH4⟩⟩ := vH
  simp only [MV.val, MV.cells] at hev
  subst hev
  have eb29 := eb28.trans b29
  have z29 := b29.size
  replace oH_0 := own_keep oH_0 b29
  replace oH_1 := own_keep oH_1 b29
  replace oH_2 := own_keep oH_2 b29
  have BW := Lib.hid (BW.out.keep b29)
  have BG := Lib.hid (BG.out.keep b29)
  have OW := Lib.hid (OW.out.keep b29)
  have OM := Lib.hid (OM.out.keep b29)
  clear b29 eb28
  (try clear k0)
  have k0 := fun o => eb29.cellAt (w.heap.size) (by omega) o
  clear oH_0
  clear oH_1
  clear oH_2
  have MH := Lib.hid (MAt.of_own oH)
  have FH := Lib.hid (HF.out _ _ _ oH)
  have OH := Lib.hid oH
  clear oH
  obtain ⟨w30, hw30⟩ : ∃ w30, w30 = w29.alloc (.cells #[.int .i64 HH, .slice AH0 nH0 kH0, .slice AH1 nH1 kH1, .slice AH2 nH2 kH2, .slice AH3 nH3 kH3, .int .i64 dH, .slice AH4 nH4 kH4] 28) := ⟨_, rfl⟩
  have HW30 := Lib.hid hw30
  have b30 : Ext w29 w30 := by rw [hw30]; exact (Ext.refl _).alloc _
  have BH := Lib.hid (MBox.new (v := (⟨HH, ⟨AH0, nH0, kH0⟩, ⟨AH1, nH1, kH1⟩, ⟨AH2, nH2, kH2⟩, ⟨AH3, nH3, kH3⟩, dH, ⟨AH4, nH4, kH4⟩⟩ : MV)) hw30)
  have zl30 : w29.heap.size < w30.heap.size := BH.out.lt
  clear hw30
  have eb30 := eb29.trans b30
  have z30 := b30.size
  have BW := Lib.hid (BW.out.keep b30)
  have BG := Lib.hid (BG.out.keep b30)
  have OW := Lib.hid (OW.out.keep b30)
  have OM := Lib.hid (OM.out.keep b30)
  have OH := Lib.hid (OH.out.keep b30)
  clear b30 eb29
  (try clear k0)
  have k0 := fun o => eb30.cellAt (w.heap.size) (by omega) o
  rw [HW30.out] at k0
  obtain ⟨cb0, cb1, cb2, cb3, cb4, cb5, cb6⟩ := BH.out.cell
  simp only at cb0 cb1 cb2 cb3 cb4 cb5 cb6
  obtain ⟨cy0, cy1, cy2, cy3, cy4, cy5, cy6⟩ := BW.out.cell
  simp only at cy0 cy1 cy2 cy3 cy4 cy5 cy6
  rw [HW30.out] at cb0 cb1 cb2 cb3 cb4 cb5 cb6 cy0 cy1 cy2 cy3 cy4 cy5 cy6
  go_wp2_with fail
  rw [← HW30.out]
  refine (laws_eqMuseum (⟨HH, ⟨AH0, nH0, kH0⟩, ⟨AH1, nH1, kH1⟩, ⟨AH2, nH2, kH2⟩, ⟨AH3, nH3, kH3⟩, dH, ⟨AH4, nH4, kH4⟩⟩ : MV) (⟨HW, ⟨AW0, nW0, kW0⟩, ⟨AW1, nW1, kW1⟩, ⟨AW2, nW2, kW2⟩, ⟨AW3, nW3, kW3⟩, dW, ⟨AW4, nW4, kW4⟩⟩ : MV) _ w30 OH.out.rd OW.out.rd).mono ?_
  rintro e w31 ⟨rfl, b31⟩
  have eb31 := eb30.trans b31
  have z31 := b31.size
  have BW := Lib.hid (BW.out.keep b31)
  have BG := Lib.hid (BG.out.keep b31)
  have OW := Lib.hid (OW.out.keep b31)
  have OM := Lib.hid (OM.out.keep b31)
  have OH := Lib.hid (OH.out.keep b31)
  have BH := Lib.hid (BH.out.keep b31)
  clear b31 eb30
  (try clear k0)
  have k0 := fun o => eb31.cellAt (w.heap.size) (by omega) o
  clear cb0 cb1 cb2 cb3 cb4 cb5 cb6 cy0 cy1 cy2 cy3 cy4 cy5 cy6
  obtain ⟨cb0, cb1, cb2, cb3, cb4, cb5, cb6⟩ := BG.out.cell
  simp only at cb0 cb1 cb2 cb3 cb4 cb5 cb6
  go_wp2_with fail
  refine (laws_heldMuseum (⟨HG, ⟨AG0, nG0, kG0⟩, ⟨AG1, nG1, kG1⟩, ⟨AG2, nG2, kG2⟩, ⟨AG3, nG3, kG3⟩, dG, ⟨AG4, nG4, kG4⟩⟩ : MV) _ 1 w31 OM.out.rd FG.out (by omega) (by omega)).mono ?_
  rintro e w32 ⟨he, b32⟩
  rw [← HKG.out] at he
  subst he
  have eb32 := eb31.trans b32
  have z32 := b32.size
  have BW := Lib.hid (BW.out.keep b32)
  have BG := Lib.hid (BG.out.keep b32)
  have OW := Lib.hid (OW.out.keep b32)
  have OM := Lib.hid (OM.out.keep b32)
  have OH := Lib.hid (OH.out.keep b32)
  have BH := Lib.hid (BH.out.keep b32)
  clear b32 eb31
  (try clear k0)
  have k0 := fun o => eb32.cellAt (w.heap.size) (by omega) o
  clear cb0 cb1 cb2 cb3 cb4 cb5 cb6
  go_wp2_with fail
  go_ret
  exact ⟨rfl, Eb.out.trans eb32⟩
end Go.Proofs.Ytkelmeemblmggaa
