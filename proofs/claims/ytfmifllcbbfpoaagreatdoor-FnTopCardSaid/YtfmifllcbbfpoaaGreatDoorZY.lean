/- Texts of one proof, laid one behind the other (SDi, SDj); no condition but what stands at each theorem. -/
import Derived.Test.YtfmifllcbbfpoaaGreatDoorZS
import Derived.Test.YtfmifllcbbfpoaaGreatDoorZT
import Derived.Test.YtfmifllcbbfpoaaGreatDoorZX
/- The drawing of a museum and of acts from a code; no condition but what stands at each theorem. -/
namespace Go.Proofs.YtfmifllcbbfpoaaGreatDoor
set_option linter.unusedSimpArgs false
set_option linter.unusedVariables false
open Go.RowKit Go.Sort
theorem sample_dm : DMus sampleM 0 :=
  (new_ok (H := 4) (ds := [⟨0, 1⟩, ⟨0, 2⟩, ⟨1, 3⟩, ⟨2, 3⟩]) (ps := [0, 0]) (gs := [0, 0, 3]) (by kernel_rfl) (by simp) (by simp) (by intro x hx; simp at hx; omega) (by intro x hx; simp at hx; omega) (by simp) (by simp)).1
set_option maxRecDepth 100000 in
set_option maxHeartbeats 4000000 in
theorem spec_l39Museum (p : Nat) (w : World) (hc : Cur w p) : Calls Tryz.prog 40 #[.pointer (some ⟨p, 0, none⟩)] w (DrawnMuseum p w) := by
  have hpw := hc.lt
  obtain ⟨wa, hwa⟩ : ∃ wa, wa = w.alloc (.cells #[.int .i64 0, .slice none 0 0, .slice none 0 0, .slice none 0 0, .slice none 0 0, .int .i64 0, .slice none 0 0] 30) := ⟨_, rfl⟩
  have hBa : Blk wa w.heap.size 30 zeroV.cells := by rw [hwa]; exact Blk.new _ _ _
  have hca : Cur wa p := by rw [hwa]; exact cur_alloc hc _
  have hga : w.grownBy wa (some p) := by rw [hwa]; exact grown_alloc (grown_refl _ _) _
  have hsa : wa.heap.size = w.heap.size + 1 := by rw [hwa]; simp
  have Hwa := Lib.hid hwa
  have HBa := Lib.hid hBa
  have HCa := Lib.hid hca
  have HGa := Lib.hid hga
  clear hwa hBa hca hga hc
  go_enter Tryz.func40, Tryz.ntmps40
  go_wp2_with (go_at_call 85; refine (fun h : Hid _ => h.out) ?_)
  unfold Hid
  rw [← Hwa.out]
  refine (spec_l01Once p _ _ HCa.out).mono ?_
  rintro e w1 ⟨b, rfl, hc1, hg1⟩
  have hz1 := hg1.size
  have HB1 := Lib.hid (blk_grown HBa.out (by omega) hg1)
  have HG1 := Lib.hid (grown_trans HGa.out hg1)
  have HC1 := Lib.hid hc1
  clear hg1 hc1 HBa HGa HCa
  cases b
  · go_wp2_with (go_at_call 59; refine (fun h : Hid _ => h.out) ?_)
    unfold Hid
    refine (spec_l38Museum p _ HC1.out).mono ?_
    rintro e w2 ⟨v, m, hev, ho, hdm, hc2, hg2⟩
    have HB2 := Lib.hid (blk_grown HB1.out (by omega) hg2)
    have HG2 := Lib.hid (grown_trans HG1.out hg2)
    have HC2 := Lib.hid hc2
    have HO2 := Lib.hid ho
    have HDM := Lib.hid hdm
    clear hg2 hc2 ho hdm
    obtain ⟨H', ⟨A0, n0, k0⟩, ⟨A1, n1, k1⟩, ⟨A2, n2, k2⟩, ⟨A3, n3, k3⟩, d, ⟨A4, n4, k4⟩⟩ := v
    simp only [MV.val, MV.cells] at hev
    subst hev
    have z0 := HB2.out.cellAt (i := 0) (by simp [zeroV, MV.cells])
    have z1 := HB2.out.cellAt (i := 1) (by simp [zeroV, MV.cells])
    have z2 := HB2.out.cellAt (i := 2) (by simp [zeroV, MV.cells])
    have z3 := HB2.out.cellAt (i := 3) (by simp [zeroV, MV.cells])
    have z4 := HB2.out.cellAt (i := 4) (by simp [zeroV, MV.cells])
    have z5 := HB2.out.cellAt (i := 5) (by simp [zeroV, MV.cells])
    have z6 := HB2.out.cellAt (i := 6) (by simp [zeroV, MV.cells])
    simp [zeroV, MV.cells] at z0 z1 z2 z3 z4 z5 z6
    have zf := HB2.out.free
    have zl := HB2.out.lt
    go_wp2_with fail
    obtain ⟨b6, kp⟩ := store7 (a0 := .int .i64 0) (a1 := .slice none 0 0) (a2 := .slice none 0 0) (a3 := .slice none 0 0) (a4 := .slice none 0 0) (a5 := .int .i64 0) (a6 := .slice none 0 0) HB2.out (.int .i64 H') (.slice A0 n0 k0) (.slice A1 n1 k1) (.slice A2 n2 k2) (.slice A3 n3 k3) (.int .i64 d) (.slice A4 n4 k4)
    have fo := HO2.out.out kp (by omega)
    have fc := cur7 HC2.out hpw (.int .i64 H') (.slice A0 n0 k0) (.slice A1 n1 k1) (.slice A2 n2 k2) (.slice A3 n3 k3) (.int .i64 d) (.slice A4 n4 k4)
    have fg := grown7 HG2.out (Nat.le_refl _) (.int .i64 H') (.slice A0 n0 k0) (.slice A1 n1 k1) (.slice A2 n2 k2) (.slice A3 n3 k3) (.int .i64 d) (.slice A4 n4 k4)
    unfold set7 at fc fg
    generalize (((((((w2.setCell ⟨w.heap.size, 0, none⟩ (.int .i64 H')).setCell ⟨w.heap.size, 1, none⟩ (.slice A0 n0 k0)).setCell ⟨w.heap.size, 2, none⟩ (.slice A1 n1 k1)).setCell ⟨w.heap.size, 3, none⟩ (.slice A2 n2 k2)).setCell ⟨w.heap.size, 4, none⟩ (.slice A3 n3 k3)).setCell ⟨w.heap.size, 5, none⟩ (.int .i64 d)).setCell ⟨w.heap.size, 6, none⟩ (.slice A4 n4 k4)) = w9 at b6 kp fo fc fg ⊢
    have t0 := b6.cellAt (i := 0) (by simp)
    have t1 := b6.cellAt (i := 1) (by simp)
    have t2 := b6.cellAt (i := 2) (by simp)
    have t3 := b6.cellAt (i := 3) (by simp)
    have t4 := b6.cellAt (i := 4) (by simp)
    have t5 := b6.cellAt (i := 5) (by simp)
    have t6 := b6.cellAt (i := 6) (by simp)
    simp only [List.getElem_toArray, List.getElem_cons_zero, List.getElem_cons_succ] at t0 t1 t2 t3 t4 t5 t6
    refine bodyPost_ret (v := MV.val ⟨H', ⟨A0, n0, k0⟩, ⟨A1, n1, k1⟩, ⟨A2, n2, k2⟩, ⟨A3, n3, k3⟩, d, ⟨A4, n4, k4⟩⟩) (by simp [results, Tryz.results40, go_sem, t0, t1, t2, t3, t4, t5, t6, MV.val, MV.cells]) rfl ?_
    exact ⟨_, m, rfl, fo.weak (by omega), HDM.out, fc, fg⟩
  · go_wp2_with (go_at_call 81; refine (fun h : Hid _ => h.out) ?_)
    unfold Hid
    refine (spec_SampleMuseum _).mono ?_
    rintro e w2 ⟨v, hev, he2, ho⟩
    have HB2 := Lib.hid (HB1.out.keep he2)
    have HG2 := Lib.hid (grown_extD HG1.out he2)
    have HC2 := Lib.hid (cur_ext HC1.out he2)
    have HO2 := Lib.hid ho
    clear he2 ho
    obtain ⟨H', ⟨A0, n0, k0⟩, ⟨A1, n1, k1⟩, ⟨A2, n2, k2⟩, ⟨A3, n3, k3⟩, d, ⟨A4, n4, k4⟩⟩ := v
    simp only [MV.val, MV.cells] at hev
    subst hev
    have z0 := HB2.out.cellAt (i := 0) (by simp [zeroV, MV.cells])
    have z1 := HB2.out.cellAt (i := 1) (by simp [zeroV, MV.cells])
    have z2 := HB2.out.cellAt (i := 2) (by simp [zeroV, MV.cells])
    have z3 := HB2.out.cellAt (i := 3) (by simp [zeroV, MV.cells])
    have z4 := HB2.out.cellAt (i := 4) (by simp [zeroV, MV.cells])
    have z5 := HB2.out.cellAt (i := 5) (by simp [zeroV, MV.cells])
    have z6 := HB2.out.cellAt (i := 6) (by simp [zeroV, MV.cells])
    simp [zeroV, MV.cells] at z0 z1 z2 z3 z4 z5 z6
    have zf := HB2.out.free
    have zl := HB2.out.lt
    go_wp2_with fail
    obtain ⟨b6, kp⟩ := store7 (a0 := .int .i64 0) (a1 := .slice none 0 0) (a2 := .slice none 0 0) (a3 := .slice none 0 0) (a4 := .slice none 0 0) (a5 := .int .i64 0) (a6 := .slice none 0 0) HB2.out (.int .i64 H') (.slice A0 n0 k0) (.slice A1 n1 k1) (.slice A2 n2 k2) (.slice A3 n3 k3) (.int .i64 d) (.slice A4 n4 k4)
    have fo := HO2.out.out kp (by omega)
    have fc := cur7 HC2.out hpw (.int .i64 H') (.slice A0 n0 k0) (.slice A1 n1 k1) (.slice A2 n2 k2) (.slice A3 n3 k3) (.int .i64 d) (.slice A4 n4 k4)
    have fg := grown7 HG2.out (Nat.le_refl _) (.int .i64 H') (.slice A0 n0 k0) (.slice A1 n1 k1) (.slice A2 n2 k2) (.slice A3 n3 k3) (.int .i64 d) (.slice A4 n4 k4)
    unfold set7 at fc fg
    generalize (((((((w2.setCell ⟨w.heap.size, 0, none⟩ (.int .i64 H')).setCell ⟨w.heap.size, 1, none⟩ (.slice A0 n0 k0)).setCell ⟨w.heap.size, 2, none⟩ (.slice A1 n1 k1)).setCell ⟨w.heap.size, 3, none⟩ (.slice A2 n2 k2)).setCell ⟨w.heap.size, 4, none⟩ (.slice A3 n3 k3)).setCell ⟨w.heap.size, 5, none⟩ (.int .i64 d)).setCell ⟨w.heap.size, 6, none⟩ (.slice A4 n4 k4)) = w9 at b6 kp fo fc fg ⊢
    have t0 := b6.cellAt (i := 0) (by simp)
    have t1 := b6.cellAt (i := 1) (by simp)
    have t2 := b6.cellAt (i := 2) (by simp)
    have t3 := b6.cellAt (i := 3) (by simp)
    have t4 := b6.cellAt (i := 4) (by simp)
    have t5 := b6.cellAt (i := 5) (by simp)
    have t6 := b6.cellAt (i := 6) (by simp)
    simp only [List.getElem_toArray, List.getElem_cons_zero, List.getElem_cons_succ] at t0 t1 t2 t3 t4 t5 t6
    refine bodyPost_ret (v := MV.val ⟨H', ⟨A0, n0, k0⟩, ⟨A1, n1, k1⟩, ⟨A2, n2, k2⟩, ⟨A3, n3, k3⟩, d, ⟨A4, n4, k4⟩⟩) (by simp [results, Tryz.results40, go_sem, t0, t1, t2, t3, t4, t5, t6, MV.val, MV.cells]) rfl ?_
    exact ⟨_, sampleM, rfl, fo.weak (by omega), sample_dm.mono (by omega), fc, fg⟩
/-- A museum has been drawn from a code. -/
def DrewMuseum (w : World) (e : Ending) (w' : World) : Prop := ∃ (v : MV) (m : GMuseum), e = .returned v.val ∧ MOwn w' w.heap.size v m ∧ DMus m 1000 ∧ Ext w w'
set_option maxRecDepth 100000 in
set_option maxHeartbeats 4000000 in
theorem spec_DrawMuseum (A : Option Addr) (n c : Nat) (xs : List Int) (w : World) (hx : Rd w 1 A n (xs.flatMap benc)) (hxs : ∀ x ∈ xs, 0 ≤ x ∧ x ≤ 255) (hn1 : n ≤ 1048576) : Calls Tryz.prog 18 #[.slice A n c] w (DrewMuseum w) := by
  obtain ⟨wa, hwa⟩ : ∃ wa, wa = w.alloc (.cells #[.int .i64 0, .slice none 0 0, .slice none 0 0, .slice none 0 0, .slice none 0 0, .int .i64 0, .slice none 0 0] 30) := ⟨_, rfl⟩
  have hBa : Blk wa w.heap.size 30 zeroV.cells := by rw [hwa]; exact Blk.new _ _ _
  have hEa : Ext w wa := by rw [hwa]; exact (Ext.refl _).alloc _
  have hsa : wa.heap.size = w.heap.size + 1 := by rw [hwa]; simp
  have Hwa := Lib.hid hwa
  have HBa := Lib.hid hBa
  have HEa := Lib.hid hEa
  have cN := Lib.hid (spec_l01New A n c xs wa (hx.keep hEa) hxs hn1)
  clear hwa hBa hEa hx hxs
  go_enter Tryz.func18, Tryz.ntmps18
  go_wp2_with (go_at_call 39; refine (fun h : Hid _ => h.out) ?_)
  unfold Hid
  rw [← Hwa.out]
  refine cN.out.mono ?_
  rintro e w1 ⟨p, rfl, hp, hc1, he1⟩
  have hz1 := he1.size
  have hp1 := hc1.lt
  have HB1 := Lib.hid (HBa.out.keep he1)
  have HE1 := Lib.hid (HEa.out.trans he1)
  have HC1 := Lib.hid hc1
  clear hc1 he1 HBa HEa
  go_wp2_with (go_at_call 59; refine (fun h : Hid _ => h.out) ?_)
  unfold Hid
  refine (spec_l38Museum p _ HC1.out).mono ?_
  rintro e w2 ⟨v, m, hev, ho, hdm, hc2, hg2⟩
  have hz2 := hg2.size
  have HB2 := Lib.hid (blk_grown HB1.out (by omega) hg2)
  have HE2 := Lib.hid (HE1.out.grown hg2 (fun q hq => by injection hq with hq; omega))
  have HC2 := Lib.hid hc2
  have HO2 := Lib.hid ho
  have HDM := Lib.hid hdm
  clear hg2 hc2 ho hdm HB1 HE1 HC1
  obtain ⟨H', ⟨A0, n0, k0⟩, ⟨A1, n1, k1⟩, ⟨A2, n2, k2⟩, ⟨A3, n3, k3⟩, d, ⟨A4, n4, k4⟩⟩ := v
  simp only [MV.val, MV.cells] at hev
  subst hev
  have z0 := HB2.out.cellAt (i := 0) (by simp [zeroV, MV.cells])
  have z1 := HB2.out.cellAt (i := 1) (by simp [zeroV, MV.cells])
  have z2 := HB2.out.cellAt (i := 2) (by simp [zeroV, MV.cells])
  have z3 := HB2.out.cellAt (i := 3) (by simp [zeroV, MV.cells])
  have z4 := HB2.out.cellAt (i := 4) (by simp [zeroV, MV.cells])
  have z5 := HB2.out.cellAt (i := 5) (by simp [zeroV, MV.cells])
  have z6 := HB2.out.cellAt (i := 6) (by simp [zeroV, MV.cells])
  simp [zeroV, MV.cells] at z0 z1 z2 z3 z4 z5 z6
  have zf := HB2.out.free
  have zl := HB2.out.lt
  go_wp2_with fail
  obtain ⟨b6, kp⟩ := store7 (a0 := .int .i64 0) (a1 := .slice none 0 0) (a2 := .slice none 0 0) (a3 := .slice none 0 0) (a4 := .slice none 0 0) (a5 := .int .i64 0) (a6 := .slice none 0 0) HB2.out (.int .i64 H') (.slice A0 n0 k0) (.slice A1 n1 k1) (.slice A2 n2 k2) (.slice A3 n3 k3) (.int .i64 d) (.slice A4 n4 k4)
  have fo := HO2.out.out kp (by omega)
  have fe := kp.ext HE2.out (Nat.le_refl _)
  generalize (((((((w2.setCell ⟨w.heap.size, 0, none⟩ (.int .i64 H')).setCell ⟨w.heap.size, 1, none⟩ (.slice A0 n0 k0)).setCell ⟨w.heap.size, 2, none⟩ (.slice A1 n1 k1)).setCell ⟨w.heap.size, 3, none⟩ (.slice A2 n2 k2)).setCell ⟨w.heap.size, 4, none⟩ (.slice A3 n3 k3)).setCell ⟨w.heap.size, 5, none⟩ (.int .i64 d)).setCell ⟨w.heap.size, 6, none⟩ (.slice A4 n4 k4)) = w9 at b6 kp fo fe ⊢
  have t0 := b6.cellAt (i := 0) (by simp)
  have t1 := b6.cellAt (i := 1) (by simp)
  have t2 := b6.cellAt (i := 2) (by simp)
  have t3 := b6.cellAt (i := 3) (by simp)
  have t4 := b6.cellAt (i := 4) (by simp)
  have t5 := b6.cellAt (i := 5) (by simp)
  have t6 := b6.cellAt (i := 6) (by simp)
  simp only [List.getElem_toArray, List.getElem_cons_zero, List.getElem_cons_succ] at t0 t1 t2 t3 t4 t5 t6
  refine bodyPost_ret (v := MV.val ⟨H', ⟨A0, n0, k0⟩, ⟨A1, n1, k1⟩, ⟨A2, n2, k2⟩, ⟨A3, n3, k3⟩, d, ⟨A4, n4, k4⟩⟩) (by simp [results, Tryz.results18, go_sem, t0, t1, t2, t3, t4, t5, t6, MV.val, MV.cells]) rfl ?_
  exact ⟨_, m, rfl, fo.weak (by omega), HDM.out, fe⟩
/-- A museum and acts have been drawn from a code. -/
def DrewActs (w : World) (e : Ending) (w' : World) : Prop := ∃ (v : MV) (m : GMuseum) (Aa : Option Addr) (ca : Nat) (ys : List GAct), e = .returned (.tuple #[v.val, .slice Aa ys.length ca]) ∧ MOwn w' w.heap.size v m ∧ DMus m 1000 ∧ w'.ownsRow w.heap.size 37 5 (.slice Aa ys.length ca) ys.length (ys.flatMap GAct.enc) ∧ ys.length ≤ 21 ∧ (∀ y ∈ ys, acOk y = true) ∧ Ext w w'
set_option maxRecDepth 100000 in
set_option maxHeartbeats 4000000 in
theorem spec_DrawActs (A : Option Addr) (n c : Nat) (xs : List Int) (w : World) (hx : Rd w 1 A n (xs.flatMap benc)) (hxs : ∀ x ∈ xs, 0 ≤ x ∧ x ≤ 255) (hn1 : n ≤ 1048576) : Calls Tryz.prog 10 #[.slice A n c] w (DrewActs w) := by
  obtain ⟨wa, hwa⟩ : ∃ wa, wa = w.alloc (.cells #[.int .i64 0, .slice none 0 0, .slice none 0 0, .slice none 0 0, .slice none 0 0, .int .i64 0, .slice none 0 0] 30) := ⟨_, rfl⟩
  have hBa : Blk wa w.heap.size 30 zeroV.cells := by rw [hwa]; exact Blk.new _ _ _
  have hEa : Ext w wa := by rw [hwa]; exact (Ext.refl _).alloc _
  have hsa : wa.heap.size = w.heap.size + 1 := by rw [hwa]; simp
  have Hwa := Lib.hid hwa
  have HBa := Lib.hid hBa
  have HEa := Lib.hid hEa
  have cN := Lib.hid (spec_l01New A n c xs wa (hx.keep hEa) hxs hn1)
  clear hwa hBa hEa hx hxs
  go_enter Tryz.func10, Tryz.ntmps10
  go_wp2_with (go_at_call 39; refine (fun h : Hid _ => h.out) ?_)
  unfold Hid
  rw [← Hwa.out]
  refine cN.out.mono ?_
  rintro e w1 ⟨p, rfl, hp, hc1, he1⟩
  have hz1 := he1.size
  have hp1 := hc1.lt
  have HB1 := Lib.hid (HBa.out.keep he1)
  have HE1 := Lib.hid (HEa.out.trans he1)
  have HC1 := Lib.hid hc1
  clear hc1 he1 HBa HEa
  go_wp2_with (go_at_call 40; refine (fun h : Hid _ => h.out) ?_)
  unfold Hid
  refine (spec_l39Museum p _ HC1.out).mono ?_
  rintro e w2 ⟨v, m, hev, ho, hdm, hc2, hg2⟩
  have hz2 := hg2.size
  have HB2 := Lib.hid (blk_grown HB1.out (by omega) hg2)
  have HE2 := Lib.hid (HE1.out.grown hg2 (fun q hq => by injection hq with hq; omega))
  have HC2 := Lib.hid hc2
  have HO2 := Lib.hid ho
  have HDM := Lib.hid hdm
  clear hg2 hc2 ho hdm HB1 HE1 HC1
  obtain ⟨H', ⟨A0, n0, k0⟩, ⟨A1, n1, k1⟩, ⟨A2, n2, k2⟩, ⟨A3, n3, k3⟩, d, ⟨A4, n4, k4⟩⟩ := v
  simp only [MV.val, MV.cells] at hev
  subst hev
  go_wp2_with (go_at_call 41; refine (fun h : Hid _ => h.out) ?_)
  unfold Hid
  refine (spec_l39List p _ HC2.out).mono ?_
  rintro e w3 ⟨va, ys, rfl, hoa, hla, hma, hc3, hg3⟩
  obtain ⟨Aa, ca, rfl, -⟩ := own_form hoa
  have hz3 := hg3.size
  have HB3 := Lib.hid (blk_grown HB2.out (by omega) hg3)
  have HE3 := Lib.hid (HE2.out.grown hg3 (fun q hq => by injection hq with hq; omega))
  have HO3 := Lib.hid (HO2.out.grownP hp1 hg3)
  have HA3 := Lib.hid hoa
  clear hc3 hg3 hoa HB2 HE2 HC2 HO2
  have z0 := HB3.out.cellAt (i := 0) (by simp [zeroV, MV.cells])
  have z1 := HB3.out.cellAt (i := 1) (by simp [zeroV, MV.cells])
  have z2 := HB3.out.cellAt (i := 2) (by simp [zeroV, MV.cells])
  have z3 := HB3.out.cellAt (i := 3) (by simp [zeroV, MV.cells])
  have z4 := HB3.out.cellAt (i := 4) (by simp [zeroV, MV.cells])
  have z5 := HB3.out.cellAt (i := 5) (by simp [zeroV, MV.cells])
  have z6 := HB3.out.cellAt (i := 6) (by simp [zeroV, MV.cells])
  simp [zeroV, MV.cells] at z0 z1 z2 z3 z4 z5 z6
  have zf := HB3.out.free
  have zl := HB3.out.lt
  go_wp2_with fail
  obtain ⟨b6, kp⟩ := store7 (a0 := .int .i64 0) (a1 := .slice none 0 0) (a2 := .slice none 0 0) (a3 := .slice none 0 0) (a4 := .slice none 0 0) (a5 := .int .i64 0) (a6 := .slice none 0 0) HB3.out (.int .i64 H') (.slice A0 n0 k0) (.slice A1 n1 k1) (.slice A2 n2 k2) (.slice A3 n3 k3) (.int .i64 d) (.slice A4 n4 k4)
  have fo := HO3.out.out kp (by omega)
  have fa := kp.own HA3.out (fun g hg => .inr (by have := (HA3.out.lt g hg).1; omega))
  have fe := kp.ext HE3.out (Nat.le_refl _)
  generalize (((((((w3.setCell ⟨w.heap.size, 0, none⟩ (.int .i64 H')).setCell ⟨w.heap.size, 1, none⟩ (.slice A0 n0 k0)).setCell ⟨w.heap.size, 2, none⟩ (.slice A1 n1 k1)).setCell ⟨w.heap.size, 3, none⟩ (.slice A2 n2 k2)).setCell ⟨w.heap.size, 4, none⟩ (.slice A3 n3 k3)).setCell ⟨w.heap.size, 5, none⟩ (.int .i64 d)).setCell ⟨w.heap.size, 6, none⟩ (.slice A4 n4 k4)) = w9 at b6 kp fo fa fe ⊢
  have t0 := b6.cellAt (i := 0) (by simp)
  have t1 := b6.cellAt (i := 1) (by simp)
  have t2 := b6.cellAt (i := 2) (by simp)
  have t3 := b6.cellAt (i := 3) (by simp)
  have t4 := b6.cellAt (i := 4) (by simp)
  have t5 := b6.cellAt (i := 5) (by simp)
  have t6 := b6.cellAt (i := 6) (by simp)
  simp only [List.getElem_toArray, List.getElem_cons_zero, List.getElem_cons_succ] at t0 t1 t2 t3 t4 t5 t6
  refine bodyPost_ret (v := .tuple #[MV.val ⟨H', ⟨A0, n0, k0⟩, ⟨A1, n1, k1⟩, ⟨A2, n2, k2⟩, ⟨A3, n3, k3⟩, d, ⟨A4, n4, k4⟩⟩, .slice Aa ys.length ca]) (by simp [results, Tryz.results10, go_sem, t0, t1, t2, t3, t4, t5, t6, MV.val, MV.cells]) rfl ?_
  exact ⟨_, m, Aa, ca, ys, rfl, fo.weak (by omega), HDM.out, own_weak fa (by omega), hla, hma, fe⟩
end Go.Proofs.YtfmifllcbbfpoaaGreatDoor
/- Small functions of the laws: a code's length, a number taken from a code; no condition but what stands at each theorem. -/
namespace Go.Proofs.YtfmifllcbbfpoaaGreatDoor
set_option linter.unusedSimpArgs false
set_option linter.unusedVariables false
open Go.RowKit Go.Sort
def bencU (b : UInt8) : List Value := [.int .u8 (b.toNat : Int)]
theorem rd_bytes {w : World} {A : Option Addr} {n : Nat} {bs : List UInt8} (h : Rd w 1 A n (bs.flatMap bencU)) : Rd w 1 A n ((bs.map fun b => (b.toNat : Int)).flatMap benc) := by
  rw [List.flatMap_map]; exact h
theorem bytes_bd (bs : List UInt8) : ∀ x ∈ bs.map (fun b => (b.toNat : Int)), 0 ≤ x ∧ x ≤ 255 := by
  intro x hx
  obtain ⟨b, _, rfl⟩ := List.mem_map.1 hx
  have := b.toNat_lt
  omega
theorem laws_big (A : Option Addr) (n c : Nat) (w : World) : Calls Tryz.prog 9 #[.slice A n c] w fun e w' => e = .returned (.bool (decide (1048576 < n))) ∧ w = w' := by
  go_enter Tryz.func9, Tryz.ntmps9
  go_wp2_with fail
  go_ret
  exact ⟨ret_bool (by rw [Bool.eq_iff_iff]; simp; omega), rfl⟩
/-- The number that a code gives at i. -/
def atV (xs : List Int) (i : Nat) : Int := xs.getD ((i * 5 + 1) % xs.length) 0
theorem atV_bd {xs : List Int} (h : ∀ x ∈ xs, 0 ≤ x ∧ x ≤ 255) (i : Nat) : 0 ≤ atV xs i ∧ atV xs i ≤ 255 := by
  unfold atV
  rw [List.getD_eq_getElem?_getD]
  cases hk : xs[(i * 5 + 1) % xs.length]? with
  | none => simp
  | some x => exact h x (List.mem_of_getElem? hk)
set_option maxRecDepth 100000 in
set_option maxHeartbeats 1000000 in
theorem laws_at (A : Option Addr) (n c : Nat) (xs : List Int) (i : Nat) (w : World) (hx : Rd w 1 A n (xs.flatMap benc)) (hxs : ∀ x ∈ xs, 0 ≤ x ∧ x ≤ 255) (hi : i ≤ 1000) (hn : n ≤ 1048576) :
    Calls Tryz.prog 17 #[.slice A n c, .int .i64 i] w fun e w' => e = .returned (.int .i64 (atV xs i)) ∧ Ext w w' := by
  have hl := hx.len benc_len (by omega)
  by_cases h0 : n = 0
  · subst h0
    have he : Hid (atV xs i = 0) := Lib.hid (by have : xs = [] := List.eq_nil_of_length_eq_zero hl; subst this; rfl)
    go_enter Tryz.func17, Tryz.ntmps17
    go_wp2_with fail
    go_ret
    exact ⟨ret_int he.out.symm, Ext.refl _⟩
  · have hq : (i * 5 + 1) % n < n := Nat.mod_lt _ (by omega)
    obtain ⟨b, off, x, rfl, hbs, hxk, h1⟩ := benc_at hx hq
    have hxb := hxs x (List.mem_of_getElem? hxk)
    have he : Hid (atV xs i = x) := Lib.hid (by unfold atV; rw [hl, List.getD_eq_getElem?_getD, hxk]; rfl)
    have hne : ((n : Int) == 0) = false := beq_false_of_ne (by omega)
    have hne2 : ¬ (n : Int) = 0 := by omega
    have hm : ((i : Int) * 5 + 1).tmod (n : Int) = (((i * 5 + 1) % n : Nat) : Int) := by
      rw [show ((i : Int) * 5 + 1) = ((i * 5 + 1 : Nat) : Int) by push_cast; rfl]; rfl
    have hm2 : ((i : Int) * 5 + 1) % (n : Int) = (((i * 5 + 1) % n : Nat) : Int) := by
      rw [show ((i : Int) * 5 + 1) = ((i * 5 + 1 : Nat) : Int) by push_cast; rfl]; rfl
    have hqi : (((i * 5 + 1) % n : Nat) : Int) < n := by omega
    clear hx hxs hxk hl
    have hrem : ∀ W : World, (binOp .rem 3 (.int .i64 ((i : Int) * 5 + 1)) (.int .i64 (n : Int))).run Tryz.prog W = .ok (.int .i64 (((i * 5 + 1) % n : Nat) : Int)) W := fun W => by
      rw [binOp_rem]
      unfold Op.intDiv
      rw [if_neg hne2, ← hm]
      rfl
    have hqa : ((i : Int) * 5 + 1) % (n : Int) < n := Int.emod_lt_of_pos _ (by omega)
    have hqb : 0 ≤ ((i : Int) * 5 + 1) % (n : Int) := Int.emod_nonneg _ (by omega)
    have hqc : (((i : Int) * 5 + 1) % (n : Int)).toNat = (i * 5 + 1) % n := by rw [hm2]; rfl
    clear hm hm2 hne2
    go_enter Tryz.func17, Tryz.ntmps17
    go_wp2_with fail
    go_ret
    exact ⟨ret_int he.out.symm, Ext.refl _⟩
end Go.Proofs.YtfmifllcbbfpoaaGreatDoor
