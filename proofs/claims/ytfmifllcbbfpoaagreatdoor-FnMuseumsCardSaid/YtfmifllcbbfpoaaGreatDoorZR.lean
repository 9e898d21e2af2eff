/- Texts of one proof, laid one behind the other (KN, SP9); no condition but what stands at each theorem. -/
import Derived.Deep.DeepCutAuto
import Derived.Test.YtfmifllcbbfpoaaGreatDoorZF
import Derived.Test.YtfmifllcbbfpoaaGreatDoorZN
import Derived.Test.YtfmifllcbbfpoaaGreatDoorZQ
/- A museum boxed by a region that draws its order; no condition but what stands at each theorem. -/
namespace Go.Proofs.YtfmifllcbbfpoaaGreatDoor
set_option linter.unusedSimpArgs false
set_option linter.unusedVariables false
open Go.RowKit Go.Sort
/-- What a region that calls and boxes a museum has left: the box g, the rows in lo..hi, the world. -/
structure GotK (w1 wx : World) (g lo hi : Nat) (v : MV) (M : GMuseum) : Prop where
  e : Ext w1 wx
  g1 : w1.heap.size ≤ g
  l1 : w1.heap.size ≤ lo
  h1 : hi ≤ wx.heap.size
  o1 : g < lo ∨ hi ≤ g
  box : MBox wx g v
  own : MOwn wx lo v M
  rows : MAt lo hi v
theorem GotK.of {w1 W wC wD : World} {g : Nat} {H : Int} {A0 A1 A2 A3 A4 : Option Addr} {n0 k0 n1 k1 n2 k2 n3 k3 n4 k4 : Nat} {d : Int} {M : GMuseum} {t : TypeId} {a0 a1 a2 a3 a4 a5 a6 : Value}
    (ho : MOwn wC W.heap.size (⟨H, ⟨A0, n0, k0⟩, ⟨A1, n1, k1⟩, ⟨A2, n2, k2⟩, ⟨A3, n3, k3⟩, d, ⟨A4, n4, k4⟩⟩ : MV) M) (hC : Ext W wC) (hz : Blk wD g t #[a0, a1, a2, a3, a4, a5, a6]) (hE : Ext w1 W) (hK : Ext wC wD) (hg : w1.heap.size ≤ g) (hout : g < W.heap.size ∨ wC.heap.size ≤ g) :
    GotK w1 (((((((wD.setCell ⟨g, 0, none⟩ (.int .i64 H)).setCell ⟨g, 1, none⟩ (.slice A0 n0 k0)).setCell ⟨g, 2, none⟩ (.slice A1 n1 k1)).setCell ⟨g, 3, none⟩ (.slice A2 n2 k2)).setCell ⟨g, 4, none⟩ (.slice A3 n3 k3)).setCell ⟨g, 5, none⟩ (.int .i64 d)).setCell ⟨g, 6, none⟩ (.slice A4 n4 k4)) g W.heap.size wC.heap.size ⟨H, ⟨A0, n0, k0⟩, ⟨A1, n1, k1⟩, ⟨A2, n2, k2⟩, ⟨A3, n3, k3⟩, d, ⟨A4, n4, k4⟩⟩ M := by
  obtain ⟨b, k⟩ := store7 hz (.int .i64 H) (.slice A0 n0 k0) (.slice A1 n1 k1) (.slice A2 n2 k2) (.slice A3 n3 k3) (.int .i64 d) (.slice A4 n4 k4)
  have s1 := hE.size
  have s2 := hC.size
  have s3 := hK.size
  have s4 := k.size
  have ho1 := ho.keep hK
  refine ⟨k.ext (hE.trans (hC.trans hK)) hg, hg, s1, by omega, hout, .of_blk b, ?_, .of_own ho⟩
  rcases hout with h | h
  · exact ho1.out k (by omega)
  · exact ho1.below k ((MAt.of_own ho).mono (Nat.le_refl _) h)
theorem GotK.new {w1 W wC : World} {H : Int} {A0 A1 A2 A3 A4 : Option Addr} {n0 k0 n1 k1 n2 k2 n3 k3 n4 k4 : Nat} {d : Int} {M : GMuseum} {t : TypeId}
    (ho : MOwn wC W.heap.size (⟨H, ⟨A0, n0, k0⟩, ⟨A1, n1, k1⟩, ⟨A2, n2, k2⟩, ⟨A3, n3, k3⟩, d, ⟨A4, n4, k4⟩⟩ : MV) M) (hC : Ext W wC) (hE : Ext w1 W) :
    GotK w1 (wC.alloc (.cells #[.int .i64 H, .slice A0 n0 k0, .slice A1 n1 k1, .slice A2 n2 k2, .slice A3 n3 k3, .int .i64 d, .slice A4 n4 k4] t)) wC.heap.size W.heap.size wC.heap.size ⟨H, ⟨A0, n0, k0⟩, ⟨A1, n1, k1⟩, ⟨A2, n2, k2⟩, ⟨A3, n3, k3⟩, d, ⟨A4, n4, k4⟩⟩ M := by
  have s1 := hE.size
  have s2 := hC.size
  exact ⟨(hE.trans hC).alloc _, by omega, s1, by simp, .inr (Nat.le_refl _), .of_blk (Blk.new _ _ _), ho.keep ((Ext.refl _).alloc _), .of_own ho⟩
theorem heap_size_drewK (w : World) (n : Nat) : (w.drewN n).heap.size = w.heap.size := rfl
theorem Blk.outL {w w' : World} {lo hi b : Nat} {t : TypeId} {cs : Array Value} (h : Blk w b t cs) (k : KeptOut lo hi w w') (hb : b < lo ∨ hi ≤ b) : Blk w' b t cs := (k.2 b h.lt hb).trans h
end Go.Proofs.YtfmifllcbbfpoaaGreatDoor
/- Contract of the reference's RunActs; no condition but what stands at each theorem. -/
namespace Go.Proofs.YtfmifllcbbfpoaaGreatDoor
set_option linter.unusedSimpArgs false
set_option linter.unusedVariables false
open Go.RowKit Go.Sort
set_option maxRecDepth 100000 in
set_option maxHeartbeats 8000000 in
theorem spec_RunActs (v : MV) (m : GMuseum) (A5 : Option Addr) (n5 c5 : Nat) (xs : List GAct) (w : World) (hx : MRd w v m) (hf : MFit v) (hxa : Rd w 5 A5 n5 (xs.flatMap GAct.enc)) : Calls Tryz.prog 80 #[v.val, .slice A5 n5 c5] w (RunPost (runM m xs) (runL m xs) w) := by
  have hn5 := hxa.2.1
  obtain ⟨wb, hwb⟩ : ∃ wb, wb = w.alloc (.cells v.cells 30) := ⟨_, rfl⟩
  have hbx := MBox.new hwb
  have hE : Ext w wb := by rw [hwb]; exact (Ext.refl w).alloc _
  obtain ⟨wz, hwz⟩ : ∃ wz, wz = wb.alloc (.cells #[.int .i64 0, .slice none 0 0, .slice none 0 0, .slice none 0 0, .slice none 0 0, .int .i64 0, .slice none 0 0] 30) := ⟨_, rfl⟩
  have hEz : Ext wb wz := by rw [hwz]; exact (Ext.refl wb).alloc _
  have hsb : wb.heap.size = w.heap.size + 1 := by rw [hwb]; simp
  have hsz : wz.heap.size = w.heap.size + 1 + 1 := by rw [hwz]; simp [hsb]
  have HBz : Hid (Blk wz (w.heap.size + 1) 30 #[.int .i64 0, .slice none 0 0, .slice none 0 0, .slice none 0 0, .slice none 0 0, .int .i64 0, .slice none 0 0]) := Lib.hid (by rw [hwz, ← hsb]; exact Blk.new _ _ _)
  have HX := Lib.hid (hx.keep (hE.trans hEz))
  have HA := Lib.hid (hxa.keep (hE.trans hEz))
  have hla := Lib.hid (hxa.len GAct.len (by omega))
  have HB := Lib.hid (hbx.keep hEz)
  have HE := Lib.hid (hE.trans hEz)
  have cC := Lib.hid (spec_l38Copy v m wz HX.out hf)
  have HFit : Hid (∀ (W : World) (base : Nat) (u : MV) (l : List Int) (ys : List GAct), MOwn W base u (runF m ys l).1 → MFit u) := Lib.hid fun W base u l ys h => fit_lens h (run_lens ys m l) hx hf
  have cM := Lib.hid (fun W (he : Ext wz W) => spec_MuseumOk v m W (HX.out.keep he))
  obtain ⟨Hh, ⟨A0, n0, c0⟩, ⟨A1, n1, c1⟩, ⟨A2, n2, c2⟩, ⟨A3, n3, c3⟩, day, ⟨A4, n4, c4⟩⟩ := v
  have hH : Hh = m.H := hx.eH
  subst hH
  have Hwz : Hid (wz = (w.alloc (.cells #[.int .i64 m.H, .slice A0 n0 c0, .slice A1 n1 c1, .slice A2 n2 c2, .slice A3 n3 c3, .int .i64 m.d, .slice A4 n4 c4] 30)).alloc (.cells #[.int .i64 0, .slice none 0 0, .slice none 0 0, .slice none 0 0, .slice none 0 0, .int .i64 0, .slice none 0 0] 30)) := Lib.hid (by rw [hwz, hwb, ← hx.ed]; rfl)
  have hday : day = m.d := hx.ed
  subst hday
  have CM : Hid (∀ W, Ext wz W → Calls Tryz.prog 45 #[.agg #[.int .i64 m.H, .slice A0 n0 c0, .slice A1 n1 c1, .slice A2 n2 c2, .slice A3 n3 c3, .int .i64 m.d, .slice A4 n4 c4]] W fun e w' => e = .returned (.bool (museumB m)) ∧ Ext W w') := cM
  have hzl : w.heap.size + 1 < wz.heap.size := by omega
  clear hwb hwz hbx hE hEz hx hf hxa hsb hsz cM
  show Calls Tryz.prog 80 #[.agg #[.int .i64 m.H, .slice A0 n0 c0, .slice A1 n1 c1, .slice A2 n2 c2, .slice A3 n3 c3, .int .i64 m.d, .slice A4 n4 c4], .slice A5 n5 c5] w _
  obtain ⟨b0, b1, b2, b3, b4, b5, b6⟩ := HB.out.cell
  simp only at b0 b1 b2 b3 b4 b5 b6
  have Hb0 := Lib.hid b0
  rw [Hwz.out] at b0 b1 b2 b3 b4 b5 b6
  go_enter Tryz.func80, Tryz.ntmps80
  go_wp2_with (go_at_call 44; refine (fun h : Hid _ => h.out) ?_)
  unfold Hid
  rw [← Hwz.out]
  refine cC.out.mono ?_
  rintro e w1 ⟨v1, hev, he1, ho1⟩
  obtain ⟨Hh1, ⟨A01, n01, c01⟩, ⟨A11, n11, c11⟩, ⟨A21, n21, c21⟩, ⟨A31, n31, c31⟩, day1, ⟨A41, n41, c41⟩⟩ := v1
  simp only [MV.val, MV.cells] at hev
  subst hev
  obtain ⟨w2, hw2⟩ : ∃ w2, w2 = w1.alloc (.cells #[.int .i64 Hh1, .slice A01 n01 c01, .slice A11 n11 c11, .slice A21 n21 c21, .slice A31 n31 c31, .int .i64 day1, .slice A41 n41 c41] 30) := ⟨_, rfl⟩
  have hB6 : Blk w2 w1.heap.size 30 #[.int .i64 Hh1, .slice A01 n01 c01, .slice A11 n11 c11, .slice A21 n21 c21, .slice A31 n31 c31, .int .i64 day1, .slice A41 n41 c41] := by rw [hw2]; exact Blk.new _ _ _
  have he2 : Ext w1 w2 := by rw [hw2]; exact (Ext.refl _).alloc _
  have HAT := Lib.hid (MAt.of_own ho1)
  have HB6 := Lib.hid hB6
  have HO2 := Lib.hid (ho1.keep he2)
  have HE2 := Lib.hid (he1.trans he2)
  have HW2 := Lib.hid hw2
  have hz2 : wz.heap.size ≤ w1.heap.size := he1.size
  have hs2 : w2.heap.size = w1.heap.size + 1 := by rw [hw2]; simp
  clear hB6 he2 ho1 he1 hw2 b0 b1 b2 b3 b4 b5 b6 cC
  obtain ⟨wl, hwl⟩ : ∃ wl, wl = w2.alloc (.cells #[] 3) := ⟨_, rfl⟩
  have hel : Ext w2 wl := by rw [hwl]; exact (Ext.refl _).alloc _
  have HLl : Hid (wl.ownsRow w2.heap.size 3 1 (.slice (some ⟨w2.heap.size, 0, none⟩) 0 0) 0 []) := Lib.hid (by rw [hwl]; exact own_empty w2 w2.heap.size 3 1 (Nat.le_refl _))
  have HEl := Lib.hid (HE2.out.trans hel)
  have HOl := Lib.hid (HO2.out.keep hel)
  have HBl := Lib.hid (HB6.out.keep hel)
  have HWl : Hid (wl = (w1.alloc (.cells #[.int .i64 Hh1, .slice A01 n01 c01, .slice A11 n11 c11, .slice A21 n21 c21, .slice A31 n31 c31, .int .i64 day1, .slice A41 n41 c41] 30)).alloc (.cells #[] 3)) := Lib.hid (by rw [hwl, HW2.out])
  have hzl2 : w2.heap.size < wl.heap.size := by rw [hwl]; simp
  clear hwl hel
  obtain ⟨b0, b1, b2, b3, b4, b5, b6⟩ := (HB.out.keep HEl.out).cell
  simp only at b0 b1 b2 b3 b4 b5 b6
  rw [HWl.out] at b0 b1 b2 b3 b4 b5 b6
  go_wp2_with (go_at_call 45; refine (fun h : Hid _ => h.out) ?_)
  unfold Hid
  rw [← HWl.out]
  refine (CM.out wl HEl.out).mono ?_
  rintro e w3 ⟨rfl, he3⟩
  have HE3 := Lib.hid (HEl.out.trans he3)
  have HO3 := Lib.hid (HOl.out.keep he3)
  have HB63 := Lib.hid (HBl.out.keep he3)
  have HL3 := Lib.hid (own_keep HLl.out he3)
  have hz3 : wl.heap.size ≤ w3.heap.size := he3.size
  clear he3 b0 b1 b2 b3 b4 b5 b6
  cases hm : museumB m
  case false =>
    have hrn := run_no (m := m) (acts := xs) (by unfold runB; rw [hm]; rfl)
    have HM := Lib.hid hrn.1
    have HLs := Lib.hid hrn.2
    have Bz := Blk.keep HBz.out HE3.out
    have x0 := Bz.cellAt (i := 0) (by simp)
    have x1 := Bz.cellAt (i := 1) (by simp)
    have x2 := Bz.cellAt (i := 2) (by simp)
    have x3 := Bz.cellAt (i := 3) (by simp)
    have x4 := Bz.cellAt (i := 4) (by simp)
    have x5 := Bz.cellAt (i := 5) (by simp)
    have x6 := Bz.cellAt (i := 6) (by simp)
    have fz := Bz.free
    simp at x0 x1 x2 x3 x4 x5 x6
    have lz : w.heap.size + 1 < w3.heap.size := Bz.lt
    have y0 := HB63.out.cellAt (i := 0) (by simp)
    have y1 := HB63.out.cellAt (i := 1) (by simp)
    have y2 := HB63.out.cellAt (i := 2) (by simp)
    have y3 := HB63.out.cellAt (i := 3) (by simp)
    have y4 := HB63.out.cellAt (i := 4) (by simp)
    have y5 := HB63.out.cellAt (i := 5) (by simp)
    have y6 := HB63.out.cellAt (i := 6) (by simp)
    simp at y0 y1 y2 y3 y4 y5 y6
    go_wp2_with fail
    obtain ⟨b6', k6⟩ := store7 Bz (.int .i64 Hh1) (.slice A01 n01 c01) (.slice A11 n11 c11) (.slice A21 n21 c21) (.slice A31 n31 c31) (.int .i64 day1) (.slice A41 n41 c41)
    have hO6 := HO3.out.out k6 (by omega)
    have hE6 := k6.ext (HE.out.trans HE3.out) (by omega)
    have hz6 := k6.size
    have hL6 := k6.own HL3.out (fun g hg => by have := (HL3.out.lt g hg).1; omega)
    generalize (((((((w3.setCell ⟨w.heap.size + 1, 0, none⟩ (.int .i64 Hh1)).setCell ⟨w.heap.size + 1, 1, none⟩ (.slice A01 n01 c01)).setCell ⟨w.heap.size + 1, 2, none⟩ (.slice A11 n11 c11)).setCell ⟨w.heap.size + 1, 3, none⟩ (.slice A21 n21 c21)).setCell ⟨w.heap.size + 1, 4, none⟩ (.slice A31 n31 c31)).setCell ⟨w.heap.size + 1, 5, none⟩ (.int .i64 day1)).setCell ⟨w.heap.size + 1, 6, none⟩ (.slice A41 n41 c41)) = w9 at b6' k6 hO6 hE6 hL6 hz6 ⊢
    have t0 := b6'.cellAt (i := 0) (by simp)
    have t1 := b6'.cellAt (i := 1) (by simp)
    have t2 := b6'.cellAt (i := 2) (by simp)
    have t3 := b6'.cellAt (i := 3) (by simp)
    have t4 := b6'.cellAt (i := 4) (by simp)
    have t5 := b6'.cellAt (i := 5) (by simp)
    have t6 := b6'.cellAt (i := 6) (by simp)
    simp at t0 t1 t2 t3 t4 t5 t6
    refine bodyPost_ret (v := .tuple #[MV.val ⟨Hh1, ⟨A01, n01, c01⟩, ⟨A11, n11, c11⟩, ⟨A21, n21, c21⟩, ⟨A31, n31, c31⟩, day1, ⟨A41, n41, c41⟩⟩, .slice (some ⟨w2.heap.size, 0, none⟩) 0 0]) (by simp [results, Tryz.results80, go_sem, t0, t1, t2, t3, t4, t5, t6, MV.val, MV.cells]) rfl ?_
    exact ⟨_, _, rfl, hE6, by rw [HM.out]; exact hO6.weak (by omega), by rw [HLs.out]; exact own_weak hL6 (by omega), MApart.of_at HAT.out (At.of_own HL3.out) (.inl (by omega)), ⟨wz.heap.size, w1.heap.size, by omega, by omega, HAT.out, fun g hg => .inr (by have := (HL3.out.lt g hg).1; omega)⟩⟩
  by_cases h40 : n5 ≤ 40
  case neg =>
    have h40' : (40 : Int) < (n5 : Int) := by omega
    have hrn := run_no (m := m) (acts := xs) (by unfold runB; rw [hla.out]; simp [h40])
    have HM := Lib.hid hrn.1
    have HLs := Lib.hid hrn.2
    have Bz := Blk.keep HBz.out HE3.out
    have x0 := Bz.cellAt (i := 0) (by simp)
    have x1 := Bz.cellAt (i := 1) (by simp)
    have x2 := Bz.cellAt (i := 2) (by simp)
    have x3 := Bz.cellAt (i := 3) (by simp)
    have x4 := Bz.cellAt (i := 4) (by simp)
    have x5 := Bz.cellAt (i := 5) (by simp)
    have x6 := Bz.cellAt (i := 6) (by simp)
    have fz := Bz.free
    simp at x0 x1 x2 x3 x4 x5 x6
    have lz : w.heap.size + 1 < w3.heap.size := Bz.lt
    have y0 := HB63.out.cellAt (i := 0) (by simp)
    have y1 := HB63.out.cellAt (i := 1) (by simp)
    have y2 := HB63.out.cellAt (i := 2) (by simp)
    have y3 := HB63.out.cellAt (i := 3) (by simp)
    have y4 := HB63.out.cellAt (i := 4) (by simp)
    have y5 := HB63.out.cellAt (i := 5) (by simp)
    have y6 := HB63.out.cellAt (i := 6) (by simp)
    simp at y0 y1 y2 y3 y4 y5 y6
    go_wp2_with fail
    obtain ⟨b6', k6⟩ := store7 Bz (.int .i64 Hh1) (.slice A01 n01 c01) (.slice A11 n11 c11) (.slice A21 n21 c21) (.slice A31 n31 c31) (.int .i64 day1) (.slice A41 n41 c41)
    have hO6 := HO3.out.out k6 (by omega)
    have hE6 := k6.ext (HE.out.trans HE3.out) (by omega)
    have hz6 := k6.size
    have hL6 := k6.own HL3.out (fun g hg => by have := (HL3.out.lt g hg).1; omega)
    generalize (((((((w3.setCell ⟨w.heap.size + 1, 0, none⟩ (.int .i64 Hh1)).setCell ⟨w.heap.size + 1, 1, none⟩ (.slice A01 n01 c01)).setCell ⟨w.heap.size + 1, 2, none⟩ (.slice A11 n11 c11)).setCell ⟨w.heap.size + 1, 3, none⟩ (.slice A21 n21 c21)).setCell ⟨w.heap.size + 1, 4, none⟩ (.slice A31 n31 c31)).setCell ⟨w.heap.size + 1, 5, none⟩ (.int .i64 day1)).setCell ⟨w.heap.size + 1, 6, none⟩ (.slice A41 n41 c41)) = w9 at b6' k6 hO6 hE6 hL6 hz6 ⊢
    have t0 := b6'.cellAt (i := 0) (by simp)
    have t1 := b6'.cellAt (i := 1) (by simp)
    have t2 := b6'.cellAt (i := 2) (by simp)
    have t3 := b6'.cellAt (i := 3) (by simp)
    have t4 := b6'.cellAt (i := 4) (by simp)
    have t5 := b6'.cellAt (i := 5) (by simp)
    have t6 := b6'.cellAt (i := 6) (by simp)
    simp at t0 t1 t2 t3 t4 t5 t6
    refine bodyPost_ret (v := .tuple #[MV.val ⟨Hh1, ⟨A01, n01, c01⟩, ⟨A11, n11, c11⟩, ⟨A21, n21, c21⟩, ⟨A31, n31, c31⟩, day1, ⟨A41, n41, c41⟩⟩, .slice (some ⟨w2.heap.size, 0, none⟩) 0 0]) (by simp [results, Tryz.results80, go_sem, t0, t1, t2, t3, t4, t5, t6, MV.val, MV.cells]) rfl ?_
    exact ⟨_, _, rfl, hE6, by rw [HM.out]; exact hO6.weak (by omega), by rw [HLs.out]; exact own_weak hL6 (by omega), MApart.of_at HAT.out (At.of_own HL3.out) (.inl (by omega)), ⟨wz.heap.size, w1.heap.size, by omega, by omega, HAT.out, fun g hg => .inr (by have := (HL3.out.lt g hg).1; omega)⟩⟩
  have h40' : ¬ (40 : Int) < (n5 : Int) := by omega
  have hry := run_yes (m := m) (acts := xs) (by unfold runB; rw [hm, hla.out]; simp [h40])
  have HM := Lib.hid hry.1
  have HLs := Lib.hid hry.2
  clear hry hm
  have HL0 : Hid (w3.ownsRow w2.heap.size 3 1 (.slice (some ⟨w1.heap.size + 1, 0, none⟩) 0 0) 0 []) := Lib.hid (by rw [← hs2]; exact HL3.out)
  have HB0 := HB63
  have HO0 := HO3
  have HE0 := HE3
  have HP0 : Hid (MApart ⟨Hh1, ⟨A01, n01, c01⟩, ⟨A11, n11, c11⟩, ⟨A21, n21, c21⟩, ⟨A31, n31, c31⟩, day1, ⟨A41, n41, c41⟩⟩ (.slice (some ⟨w1.heap.size + 1, 0, none⟩) 0 0)) := Lib.hid (MApart.of_at HAT.out (At.of_own HL0.out) (.inl (by omega)))
  have HR0 : Hid (MRange wz.heap.size w3 ⟨Hh1, ⟨A01, n01, c01⟩, ⟨A11, n11, c11⟩, ⟨A21, n21, c21⟩, ⟨A31, n31, c31⟩, day1, ⟨A41, n41, c41⟩⟩ (.slice (some ⟨w1.heap.size + 1, 0, none⟩) 0 0)) := Lib.hid ⟨wz.heap.size, w1.heap.size, Nat.le_refl _, by omega, HAT.out, fun g hg => .inr (by have := (HL0.out.lt g hg).1; omega)⟩
  go_wp2_with fail
  go_loopw [7, 8] (fun o i wr => ∃ (k : Nat) (u : MV), k ≤ n5 ∧ i = .int .i64 k ∧ Hid (Blk wr w1.heap.size 30 u.cells) ∧ Hid (MOwn wr wz.heap.size u (runF m (xs.take k) []).1) ∧ Hid (wr.ownsRow w2.heap.size 3 1 o k ((runF m (xs.take k) []).2.flatMap ienc)) ∧ Hid (MApart u o) ∧ Hid (MRange wz.heap.size wr u o) ∧ Hid (Ext wz wr)) (fun _ i _ => n5 - (intOf i).toNat)
  case atStart => exact ⟨0, ⟨Hh1, ⟨A01, n01, c01⟩, ⟨A11, n11, c11⟩, ⟨A21, n21, c21⟩, ⟨A31, n31, c31⟩, day1, ⟨A41, n41, c41⟩⟩, Nat.zero_le _, rfl, HB0, HO0, HL0, HP0, HR0, HE0⟩
  case round =>
    obtain ⟨k, u, hk, rfl, hB, hO, hL, hP, hR, hEr⟩ := hrel
    obtain ⟨Hh2, ⟨A02, n02, c02⟩, ⟨A12, n12, c12⟩, ⟨A22, n22, c22⟩, ⟨A32, n32, c32⟩, day2, ⟨A42, n42, c42⟩⟩ := u
    have hBc : Hid (Blk wr w1.heap.size 30 #[.int .i64 Hh2, .slice A02 n02 c02, .slice A12 n12 c12, .slice A22 n22 c22, .slice A32 n32 c32, .int .i64 day2, .slice A42 n42 c42]) := hB
    by_cases hlt : k < n5
    · obtain ⟨bq, oq, a, hA5, hbq, hak, p0, p1, p2, p3, p4⟩ := GAct.at_ (HA.out.keep hEr.out) hlt
      subst hA5
      have HN : Hid (runF m (xs.take (k + 1)) [] = (actM (runF m (xs.take k) []).1 a, (runF m (xs.take k) []).2 ++ [actN (runF m (xs.take k) []).1 a])) := Lib.hid (by rw [take_snoc hak, runF_snoc])
      obtain ⟨mk, hmk⟩ : ∃ mk, mk = (runF m (xs.take k) []).1 := ⟨_, rfl⟩
      obtain ⟨Lk, hLk⟩ : ∃ Lk, Lk = (runF m (xs.take k) []).2 := ⟨_, rfl⟩
      have hfk := HFit.out _ _ _ _ _ hO.out
      rw [← hmk] at hO HN
      rw [← hLk] at hL HN
      have cD := Lib.hid (fun W (he : Ext wr W) => spec_DoAct ⟨Hh2, ⟨A02, n02, c02⟩, ⟨A12, n12, c12⟩, ⟨A22, n22, c22⟩, ⟨A32, n32, c32⟩, day2, ⟨A42, n42, c42⟩⟩ mk a W (hO.out.rd.keep he) hfk)
      have hb1 := hBc.out.lt
      obtain ⟨Nk, hNk⟩ : ∃ z, z = actN mk a := ⟨_, rfl⟩
      rw [← hNk] at HN cD
      clear hak hmk hLk hfk hNk
      have y0 := hBc.out.cellAt (i := 0) (by simp)
      have y1 := hBc.out.cellAt (i := 1) (by simp)
      have y2 := hBc.out.cellAt (i := 2) (by simp)
      have y3 := hBc.out.cellAt (i := 3) (by simp)
      have y4 := hBc.out.cellAt (i := 4) (by simp)
      have y5 := hBc.out.cellAt (i := 5) (by simp)
      have y6 := hBc.out.cellAt (i := 6) (by simp)
      simp at y0 y1 y2 y3 y4 y5 y6
      have ne1 : wr.heap.size ≠ w1.heap.size := by omega
      have ne2 : wr.heap.size ≠ bq := by omega
      go_upto_region 8 with fail
      go_cut [9, 10] (fun p q wx => ∃ (g lo hi : Nat) (v : MV), p = .pointer (some ⟨g, 0, none⟩) ∧ q = .int .i64 Nk ∧ GotK wr wx g lo hi v (actM mk a))
      case first =>
        go_region_held3 (fun w' => w'.cell? ⟨w1.heap.size, 0, none⟩ = some (.int .i64 Hh2) ∧ w'.cell? ⟨w1.heap.size, 1, none⟩ = some (.slice A02 n02 c02) ∧ w'.cell? ⟨w1.heap.size, 2, none⟩ = some (.slice A12 n12 c12) ∧ w'.cell? ⟨w1.heap.size, 3, none⟩ = some (.slice A22 n22 c22) ∧ w'.cell? ⟨w1.heap.size, 4, none⟩ = some (.slice A32 n32 c32) ∧ w'.cell? ⟨w1.heap.size, 5, none⟩ = some (.int .i64 day2) ∧ w'.cell? ⟨w1.heap.size, 6, none⟩ = some (.slice A42 n42 c42) ∧ w'.cell? ⟨bq, oq + k * 5, none⟩ = some (.int .i64 a.k) ∧ w'.cell? ⟨bq, oq + k * 5 + 1, none⟩ = some (.int .i64 a.a) ∧ w'.cell? ⟨bq, oq + k * 5 + 2, none⟩ = some (.int .i64 a.b) ∧ w'.cell? ⟨bq, oq + k * 5 + 3, none⟩ = some (.int .i64 a.c) ∧ w'.cell? ⟨bq, oq + k * 5 + 4, none⟩ = some (.int .i64 a.d)) (go_keep) (first
          | (go_at_call 12; refine (cD.out _ (by first | exact (Ext.refl _).drew | exact ((Ext.refl _).alloc _).drew)).mono ?_; rintro e wC ⟨v3, hev, hC, oC⟩; obtain ⟨Hh3, ⟨A03, n03, c03⟩, ⟨A13, n13, c13⟩, ⟨A23, n23, c23⟩, ⟨A33, n33, c33⟩, day3, ⟨A43, n43, c43⟩⟩ := v3; simp only [MV.val, MV.cells] at hev; subst hev; have eu : Ext wr wC := (by first | exact Ext.trans (Ext.refl _).drew hC | exact Ext.trans ((Ext.refl _).alloc _).drew hC); have um := hBc.out.keep eu; have um0 := um.cellAt (i := 0) (by simp); have um1 := um.cellAt (i := 1) (by simp); have um2 := um.cellAt (i := 2) (by simp); have um3 := um.cellAt (i := 3) (by simp); have um4 := um.cellAt (i := 4) (by simp); have um5 := um.cellAt (i := 5) (by simp); have um6 := um.cellAt (i := 6) (by simp); simp at um0 um1 um2 um3 um4 um5 um6; have up0 := (eu.cellAt bq hbq _).trans p0; have up1 := (eu.cellAt bq hbq _).trans p1; have up2 := (eu.cellAt bq hbq _).trans p2; have up3 := (eu.cellAt bq hbq _).trans p3; have up4 := (eu.cellAt bq hbq _).trans p4; have zu := eu.size; have ne3 : wC.heap.size ≠ w1.heap.size := (by omega); have ne4 : wC.heap.size ≠ bq := (by omega); (first | (have kC := Blk.keep (Blk.drew (Blk.new _ _ _)) hC; have kC0 := kC.cellAt (i := 0) (by simp); have kC1 := kC.cellAt (i := 1) (by simp); have kC2 := kC.cellAt (i := 2) (by simp); have kC3 := kC.cellAt (i := 3) (by simp); have kC4 := kC.cellAt (i := 4) (by simp); have kC5 := kC.cellAt (i := 5) (by simp); have kC6 := kC.cellAt (i := 6) (by simp); simp at kC0 kC1 kC2 kC3 kC4 kC5 kC6; have kCf := kC.free; have kCl := kC.lt) | skip)))
        all_goals go_wp2_with fail
        all_goals go_meet
        all_goals first
          | (have hG := GotK.of oC hC kC (show Ext wr _ from (by first | exact ((Ext.refl _).alloc _).drew | (repeat (first | exact Ext.refl _ | assumption | refine Ext.alloc ?_ _ | refine Ext.drew ?_ | refine Ext.drewN ?_ _ | refine Ext.setCell ?_ (by first | (simp; done) | (simp; omega)) _ | refine Ext.trans ?_ (by assumption))))) (Ext.refl _) (by omega) (by first | exact .inl (by simp) | exact .inl (by show wr.heap.size < (wr.alloc _).heap.size; simp)); with_reducible exact ⟨_, _, _, _, rfl, rfl, hG⟩)
          | ((fail_if_success (have := kC)); have hG := GotK.new (t := 30) oC hC (show Ext wr _ from (by first | exact (Ext.refl _).drew | (repeat (first | exact Ext.refl _ | assumption | refine Ext.alloc ?_ _ | refine Ext.drew ?_ | refine Ext.drewN ?_ _ | refine Ext.setCell ?_ (by first | (simp; done) | (simp; omega)) _ | refine Ext.trans ?_ (by assumption))))); with_reducible exact ⟨_, _, _, _, rfl, rfl, hG⟩)
      case rest =>
      obtain ⟨gx, lox, hix, ⟨Hh3, ⟨A03, n03, c03⟩, ⟨A13, n13, c13⟩, ⟨A23, n23, c23⟩, ⟨A33, n33, c33⟩, day3, ⟨A43, n43, c43⟩⟩, rfl, rfl, hG⟩ := hcut
      obtain ⟨w4, rfl⟩ : ∃ x, x = wc := ⟨_, rfl⟩
      have hg1 := hG.g1
      have hg2 := hG.l1
      have hg3 := hG.h1
      have hb4 := hBc.out.keep hG.e
      have HO4 := Lib.hid hG.own
      have HAT5 := Lib.hid hG.rows
      have HE4 := Lib.hid (hEr.out.trans hG.e)
      have HL4 := Lib.hid (own_keep hL.out hG.e)
      have hz4 := hG.e.size
      have hgl := hG.box.lt
      obtain ⟨b0, b1, b2, b3, b4, b5, b6⟩ := hG.box.cell
      simp only at b0 b1 b2 b3 b4 b5 b6
      clear y0 y1 y2 y3 y4 y5 y6 p0 p1 p2 p3 p4 hG
      have z0 := hb4.cellAt (i := 0) (by simp)
      have z1 := hb4.cellAt (i := 1) (by simp)
      have z2 := hb4.cellAt (i := 2) (by simp)
      have z3 := hb4.cellAt (i := 3) (by simp)
      have z4 := hb4.cellAt (i := 4) (by simp)
      have z5 := hb4.cellAt (i := 5) (by simp)
      have z6 := hb4.cellAt (i := 6) (by simp)
      simp at z0 z1 z2 z3 z4 z5 z6
      have f4 := hb4.free
      have l4 := hb4.lt
      have Hb4 := Lib.hid hb4
      clear hb4
      go_upto_region 10 with fail
      obtain ⟨b7, k7⟩ := store7 Hb4.out (.int .i64 Hh3) (.slice A03 n03 c03) (.slice A13 n13 c13) (.slice A23 n23 c23) (.slice A33 n33 c33) (.int .i64 day3) (.slice A43 n43 c43)
      have hO7 := HO4.out.out k7 (by omega)
      have hE7 := k7.ext HE4.out hz2
      have hL7 := k7.own HL4.out (fun g hg => by have := (HL4.out.lt g hg).1; omega)
      have hz7 := k7.size
      generalize (((((((w4.setCell ⟨w1.heap.size, 0, none⟩ (.int .i64 Hh3)).setCell ⟨w1.heap.size, 1, none⟩ (.slice A03 n03 c03)).setCell ⟨w1.heap.size, 2, none⟩ (.slice A13 n13 c13)).setCell ⟨w1.heap.size, 3, none⟩ (.slice A23 n23 c23)).setCell ⟨w1.heap.size, 4, none⟩ (.slice A33 n33 c33)).setCell ⟨w1.heap.size, 5, none⟩ (.int .i64 day3)).setCell ⟨w1.heap.size, 6, none⟩ (.slice A43 n43 c43)) = w7 at b7 k7 hO7 hE7 hL7 hz7 ⊢
      have hP7 : MApart ⟨Hh3, ⟨A03, n03, c03⟩, ⟨A13, n13, c13⟩, ⟨A23, n23, c23⟩, ⟨A33, n33, c33⟩, day3, ⟨A43, n43, c43⟩⟩ u7 := MApart.of_at HAT5.out (At.of_own hL.out) (.inr (by omega))
      have HB7 := Lib.hid b7
      have HO7 := Lib.hid hO7
      have HE7 := Lib.hid hE7
      have HL7 := Lib.hid hL7
      have HP7 := Lib.hid hP7
      clear b7 k7 hO7 hE7 hL7 hP7 z0 z1 z2 z3 z4 z5 z6 f4 l4 b0 b1 b2 b3 b4 b5 b6
      go_wp2_with (at_builtin; refine (fun h : Hid _ => h.out) ?_)
      unfold Hid
      refine append1W ei_IntN rfl _ _ rfl w2.heap.size w7 _ _ k _ (by rfl) HL7.out [.int .i64 Nk] (by rfl) rfl (one_intR Nk) (by omega) (by omega) ?_
      intro v' w8 ho8 hg8 hv8
      have HO8 := Lib.hid ho8
      have hB8 : Blk w8 w1.heap.size 30 #[.int .i64 Hh3, .slice A03 n03 c03, .slice A13 n13 c13, .slice A23 n23 c23, .slice A33 n33 c33, .int .i64 day3, .slice A43 n43 c43] := (hg8.block w1.heap.size HB7.out.lt (fun e => by have := (HL7.out.lt _ e.symm).1; omega)).trans HB7.out
      have hM8 := HO7.out.grown HP7.out hg8
      have hP8 := HP7.out.moved HO7.out hv8
      have hE8 := HE7.out.grown hg8 (fun g hg => by have := (HL7.out.lt g hg).1; omega)
      have HB8 := Lib.hid hB8
      have HM8 := Lib.hid (hM8.weak (show wz.heap.size ≤ lox by (have := HE3.out.size; have := hEr.out.size; omega)))
      have hs8 := hg8.size
      have HR8 : Hid (MRange wz.heap.size w8 ⟨Hh3, ⟨A03, n03, c03⟩, ⟨A13, n13, c13⟩, ⟨A23, n23, c23⟩, ⟨A33, n33, c33⟩, day3, ⟨A43, n43, c43⟩⟩ v') := Lib.hid ⟨lox, hix, by (have := HE3.out.size; have := hEr.out.size; omega), by omega, HAT5.out, fun g hg => by
        rcases hv8 g hg with h | h
        · exact .inl (by have := (hL.out.lt g h).2; omega)
        · exact .inr (by omega)⟩
      have HP8 := Lib.hid hP8
      have HE8 := Lib.hid hE8
      clear ho8 hg8 hv8 hB8 hM8 hP8 hE8
      go_wp2_with fail
      go_roundw
      case rel => exact ⟨k + 1, ⟨Hh3, ⟨A03, n03, c03⟩, ⟨A13, n13, c13⟩, ⟨A23, n23, c23⟩, ⟨A33, n33, c33⟩, day3, ⟨A43, n43, c43⟩⟩, by omega, by go_num, HB8, by unfold Hid; rw [HN.out]; exact HM8.out, by unfold Hid; rw [HN.out, List.flatMap_append]; simpa [ienc] using HO8.out, HP8, HR8, HE8⟩
      case measure => simp [intOf]; omega
    · obtain rfl : n5 = k := by omega
      rw [List.take_of_length_le (by rw [hla.out]; omega)] at hO hL
      rw [← HM.out] at hO
      rw [← HLs.out] at hL
      have hLl : (runL m xs).length = n5 := by
        have := hL.out.1
        rw [ienc_map, List.length_map] at this
        omega
      have HLl2 := Lib.hid hLl
      clear HM HLs hLl
      have HLs : Hid (runL m xs = runL m xs) := Lib.hid rfl
      have HM : Hid (runM m xs = runM m xs) := Lib.hid rfl
      have Bz := Blk.keep HBz.out hEr.out
      have x0 := Bz.cellAt (i := 0) (by simp)
      have x1 := Bz.cellAt (i := 1) (by simp)
      have x2 := Bz.cellAt (i := 2) (by simp)
      have x3 := Bz.cellAt (i := 3) (by simp)
      have x4 := Bz.cellAt (i := 4) (by simp)
      have x5 := Bz.cellAt (i := 5) (by simp)
      have x6 := Bz.cellAt (i := 6) (by simp)
      have fz := Bz.free
      simp at x0 x1 x2 x3 x4 x5 x6
      have lz : w.heap.size + 1 < wr.heap.size := Bz.lt
      have y0 := hBc.out.cellAt (i := 0) (by simp)
      have y1 := hBc.out.cellAt (i := 1) (by simp)
      have y2 := hBc.out.cellAt (i := 2) (by simp)
      have y3 := hBc.out.cellAt (i := 3) (by simp)
      have y4 := hBc.out.cellAt (i := 4) (by simp)
      have y5 := hBc.out.cellAt (i := 5) (by simp)
      have y6 := hBc.out.cellAt (i := 6) (by simp)
      simp at y0 y1 y2 y3 y4 y5 y6
      go_wp2_with fail
      obtain ⟨b6', k6⟩ := store7 Bz (.int .i64 Hh2) (.slice A02 n02 c02) (.slice A12 n12 c12) (.slice A22 n22 c22) (.slice A32 n32 c32) (.int .i64 day2) (.slice A42 n42 c42)
      have hO6 := hO.out.out k6 (by omega)
      have hE6 := k6.ext (HE.out.trans hEr.out) (by omega)
      have hz6 := k6.size
      have hL6 := k6.own hL.out (fun g hg => by have := (hL.out.lt g hg).1; omega)
      generalize (((((((wr.setCell ⟨w.heap.size + 1, 0, none⟩ (.int .i64 Hh2)).setCell ⟨w.heap.size + 1, 1, none⟩ (.slice A02 n02 c02)).setCell ⟨w.heap.size + 1, 2, none⟩ (.slice A12 n12 c12)).setCell ⟨w.heap.size + 1, 3, none⟩ (.slice A22 n22 c22)).setCell ⟨w.heap.size + 1, 4, none⟩ (.slice A32 n32 c32)).setCell ⟨w.heap.size + 1, 5, none⟩ (.int .i64 day2)).setCell ⟨w.heap.size + 1, 6, none⟩ (.slice A42 n42 c42)) = w9 at b6' k6 hO6 hE6 hL6 hz6 ⊢
      have t0 := b6'.cellAt (i := 0) (by simp)
      have t1 := b6'.cellAt (i := 1) (by simp)
      have t2 := b6'.cellAt (i := 2) (by simp)
      have t3 := b6'.cellAt (i := 3) (by simp)
      have t4 := b6'.cellAt (i := 4) (by simp)
      have t5 := b6'.cellAt (i := 5) (by simp)
      have t6 := b6'.cellAt (i := 6) (by simp)
      simp at t0 t1 t2 t3 t4 t5 t6
      refine bodyPost_ret (v := .tuple #[MV.val ⟨Hh2, ⟨A02, n02, c02⟩, ⟨A12, n12, c12⟩, ⟨A22, n22, c22⟩, ⟨A32, n32, c32⟩, day2, ⟨A42, n42, c42⟩⟩, u7]) (by simp [results, Tryz.results80, go_sem, t0, t1, t2, t3, t4, t5, t6, MV.val, MV.cells]) rfl ?_
      exact ⟨_, _, rfl, hE6, hO6.weak (by omega), by rw [HLl2.out]; exact own_weak hL6 (by omega), hP.out, hR.out.grow (by omega) (by omega)⟩
end Go.Proofs.YtfmifllcbbfpoaaGreatDoor
