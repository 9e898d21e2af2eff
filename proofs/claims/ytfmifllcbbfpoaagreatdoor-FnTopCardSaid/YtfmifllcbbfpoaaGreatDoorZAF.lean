/- Texts of one proof, laid one behind the other (QE); no condition but what stands at each theorem. -/
import Derived.Deep.DeepCutAuto
import Derived.Test.YtfmifllcbbfpoaaGreatDoorZJ
import Derived.Test.YtfmifllcbbfpoaaGreatDoorZL
import Derived.Test.YtfmifllcbbfpoaaGreatDoorZM
import Derived.Test.YtfmifllcbbfpoaaGreatDoorZQ
import Derived.Test.YtfmifllcbbfpoaaGreatDoorZAE
/- The law FnTop, walked; no condition but what stands at each theorem. -/
namespace Go.Proofs.YtfmifllcbbfpoaaGreatDoor
set_option linter.unusedSimpArgs false
set_option linter.unusedVariables false
open Go.RowKit Go.Sort
/-- The law's museum stands in the box g, its rows elsewhere; the acts stand. -/
structure TSt (w : World) (g : Nat) (v : MV) (m : GMuseum) (A : Option Addr) (na : Nat) (ys : List GAct) (wx : World) : Prop where
  e : Ext w wx
  gl : w.heap.size ≤ g
  blk : Blk wx g 30 v.cells
  own : ∃ lo hi, MOwn wx lo v m ∧ MAt lo hi v ∧ hi ≤ wx.heap.size ∧ (g < lo ∨ hi ≤ g)
  acts : Rd wx 5 A na (ys.flatMap GAct.enc)
  far : 0 < na → ∀ b off, A = some ⟨b, off, none⟩ → b ≠ g
theorem TSt.ext {w wx w2 : World} {g na : Nat} {v : MV} {m : GMuseum} {A : Option Addr} {ys : List GAct} (h : TSt w g v m A na ys wx) (e : Ext wx w2) : TSt w g v m A na ys w2 := by
  obtain ⟨lo, hi, h1, h2, h3, h4⟩ := h.own
  exact ⟨h.e.trans e, h.gl, h.blk.keep e, ⟨lo, hi, h1.keep e, h2, Nat.le_trans h3 e.size, h4⟩, h.acts.keep e, h.far⟩
theorem TSt.rd {w wx : World} {g na : Nat} {v : MV} {m : GMuseum} {A : Option Addr} {ys : List GAct} (h : TSt w g v m A na ys wx) : MRd wx v m := by
  obtain ⟨lo, hi, h1, -⟩ := h.own
  exact h1.rd
theorem TSt.fit {w wx : World} {g na : Nat} {v : MV} {m : GMuseum} {A : Option Addr} {ys : List GAct} (h : TSt w g v m A na ys wx) (hm : museumB m = true) : MFit v := by
  obtain ⟨lo, hi, h1, -⟩ := h.own
  exact fit_ok h1 hm
theorem TSt.put {w wx : World} {g na : Nat} {v : MV} {m M : GMuseum} {A : Option Addr} {ys : List GAct} {lo hi : Nat} {H : Int} {A0 A1 A2 A3 A4 : Option Addr} {n0 k0 n1 k1 n2 k2 n3 k3 n4 k4 : Nat} {d : Int} (h : TSt w g v m A na ys wx)
    (ho : MOwn wx lo (⟨H, ⟨A0, n0, k0⟩, ⟨A1, n1, k1⟩, ⟨A2, n2, k2⟩, ⟨A3, n3, k3⟩, d, ⟨A4, n4, k4⟩⟩ : MV) M) (ha : MAt lo hi (⟨H, ⟨A0, n0, k0⟩, ⟨A1, n1, k1⟩, ⟨A2, n2, k2⟩, ⟨A3, n3, k3⟩, d, ⟨A4, n4, k4⟩⟩ : MV)) (hl : g < lo) (hh : hi ≤ wx.heap.size) :
    TSt w g ⟨H, ⟨A0, n0, k0⟩, ⟨A1, n1, k1⟩, ⟨A2, n2, k2⟩, ⟨A3, n3, k3⟩, d, ⟨A4, n4, k4⟩⟩ M A na ys (((((((wx.setCell ⟨g, 0, none⟩ (.int .i64 H)).setCell ⟨g, 1, none⟩ (.slice A0 n0 k0)).setCell ⟨g, 2, none⟩ (.slice A1 n1 k1)).setCell ⟨g, 3, none⟩ (.slice A2 n2 k2)).setCell ⟨g, 4, none⟩ (.slice A3 n3 k3)).setCell ⟨g, 5, none⟩ (.int .i64 d)).setCell ⟨g, 6, none⟩ (.slice A4 n4 k4)) := by
  obtain ⟨b, kp⟩ := store7 (a0 := .int .i64 v.H) (a1 := .slice v.sd.A v.sd.n v.sd.c) (a2 := .slice v.sf.A v.sf.n v.sf.c) (a3 := .slice v.sp.A v.sp.n v.sp.c) (a4 := .slice v.sg.A v.sg.n v.sg.c) (a5 := .int .i64 v.d) (a6 := .slice v.sr.A v.sr.n v.sr.c) h.blk (.int .i64 H) (.slice A0 n0 k0) (.slice A1 n1 k1) (.slice A2 n2 k2) (.slice A3 n3 k3) (.int .i64 d) (.slice A4 n4 k4)
  refine ⟨kp.ext h.e h.gl, h.gl, b, ⟨lo, hi, ho.out kp (by omega), ha, Nat.le_trans hh kp.size, .inl hl⟩, ?_, h.far⟩
  have f := h.far
  exact Rd.far (Rd.far (Rd.far (Rd.far (Rd.far (Rd.far (Rd.far h.acts ⟨g, 0, none⟩ _ f) ⟨g, 1, none⟩ _ f) ⟨g, 2, none⟩ _ f) ⟨g, 3, none⟩ _ f) ⟨g, 4, none⟩ _ f) ⟨g, 5, none⟩ _ f) ⟨g, 6, none⟩ _ f
theorem own_freeT {w : World} {base n c g m : Nat} {e : TypeId} {L : List Value} (h : w.ownsRow base e m (.slice (some ⟨g, 0, none⟩) n c) n L) : ∀ i, w.frozen? ⟨g, i, none⟩ = false := by
  rcases own_block h with ⟨hA, _⟩ | ⟨g', cur, hA, hb, hblk, -⟩
  · cases hA
  · injection hA with hA
    injection hA with hA
    subst hA
    exact fun i => hblk.free i
theorem rd1_ltT {w : World} {b off n k : Nat} {xs : List Int} (h : Rd w 1 (some ⟨b, off, none⟩) n (xs.flatMap ienc)) (hk : k < n) : b < w.heap.size := by
  obtain ⟨b', off', x, e', hb, -⟩ := ienc_at h hk
  injection e' with e'
  injection e' with e1 e2
  subst e1
  exact hb
theorem act_places (m : GMuseum) (a : GAct) : (actM m a).ps.length = m.ps.length := (act_lens m a).2.2.1
set_option maxRecDepth 100000 in
set_option maxHeartbeats 8000000 in
theorem law_FnTop (A : Option Addr) (n c : Nat) (bs : List UInt8) (w : World) (hx : Rd w 1 A n (bs.flatMap bencU)) (hM : Hid (∃ k, w.cell? ⟨0, 0, none⟩ = some (.int .i64 k))) :
    Calls Tryz.prog 3 #[.slice A n c] w fun e w' => e = .returned (.bool true) ∧ Ext w w' := by
  by_cases hbig : 1048576 < n
  case pos =>
    go_enter Tryz.func3, Tryz.ntmps3
    go_wp2_with (refine (laws_big A n c _).mono ?_; rintro e w1 ⟨he, rfl⟩; rw [decide_eq_true hbig] at he; subst he)
    go_ret
    exact ⟨rfl, Ext.refl _⟩
  case neg =>
  have hxb := rd_bytes hx
  have hbd := bytes_bd bs
  obtain ⟨xs, hxs⟩ : ∃ xs, xs = bs.map fun b => (b.toNat : Int) := ⟨_, rfl⟩
  rw [← hxs] at hxb hbd
  clear hxs hx
  have cD := Lib.hid (spec_DrawActs A n c xs w hxb hbd (by omega))
  have HXB := Lib.hid hxb
  have HBD := Lib.hid hbd
  have hn20 : n ≤ 1048576 := by omega
  clear hxb hbd
  go_enter Tryz.func3, Tryz.ntmps3
  go_wp2_with (go_at_call 9; refine (fun h : Hid _ => h.out) ?_)
  unfold Hid
  refine (laws_big A n c _).mono ?_
  rintro e w0 ⟨he, rfl⟩
  rw [decide_eq_false hbig] at he
  subst he
  go_wp2_with (go_at_call 10; refine (fun h : Hid _ => h.out) ?_)
  unfold Hid
  refine (cD.out).mono ?_
  rintro e w1 ⟨v, m, Aa, ca, ys, rfl, ho, hdm, hoa, hla, hma, he1⟩
  obtain ⟨HV, ⟨AV0, nV0, kV0⟩, ⟨AV1, nV1, kV1⟩, ⟨AV2, nV2, kV2⟩, ⟨AV3, nV3, kV3⟩, dV, ⟨AV4, nV4, kV4⟩⟩ := v
  simp only [MV.val, MV.cells]
  obtain ⟨w2, hw2⟩ : ∃ w2, w2 = w1.alloc (.cells #[.int .i64 HV, .slice AV0 nV0 kV0, .slice AV1 nV1 kV1, .slice AV2 nV2 kV2, .slice AV3 nV3 kV3, .int .i64 dV, .slice AV4 nV4 kV4] 30) := ⟨_, rfl⟩
  have hE2 : Ext w1 w2 := by rw [hw2]; exact (Ext.refl _).alloc _
  obtain ⟨g3, hg3⟩ : ∃ g3, g3 = w1.heap.size := ⟨_, rfl⟩
  obtain ⟨na, hna⟩ : ∃ na, na = ys.length := ⟨_, rfl⟩
  have HT : Hid (TSt w g3 (⟨HV, ⟨AV0, nV0, kV0⟩, ⟨AV1, nV1, kV1⟩, ⟨AV2, nV2, kV2⟩, ⟨AV3, nV3, kV3⟩, dV, ⟨AV4, nV4, kV4⟩⟩ : MV) m Aa na ys w2) := Lib.hid ⟨he1.trans hE2, by rw [hg3]; exact he1.size, by rw [hw2, hg3]; exact Blk.new _ _ _, ⟨w.heap.size, w1.heap.size, ho.keep hE2, MAt.of_own ho, hE2.size, .inr (by omega)⟩, by rw [hna]; exact Rd.of_own (own_keep hoa hE2), fun _ b off e => by have := (hoa.lt b (by rw [e]; rfl)).2; omega⟩
  rw [← hna] at hla ⊢
  have HNA := Lib.hid hna
  have HAU := Lib.hid hdm.au
  have hps := hdm.np
  have HPS := Lib.hid hps
  have HW2 := Lib.hid hw2
  have HG3 := Lib.hid hg3
  clear hw2 hE2 ho hoa he1 hdm hma hna hg3 hps cD
  go_upto_region 4 with fail
  rw [← HG3.out, ← HW2.out]
  clear HW2
  go_wp2_with fail
  go_loopw [5] (fun iv wr => ∃ (k : Nat) (HL : Int) (AL0 AL1 AL2 AL3 AL4 : Option Addr) (nL0 kL0 nL1 kL1 nL2 kL2 nL3 kL3 nL4 kL4 : Nat) (dL : Int) (mu : GMuseum), k ≤ na ∧ iv = .int .i64 k ∧ Hid (TSt w g3 (⟨HL, ⟨AL0, nL0, kL0⟩, ⟨AL1, nL1, kL1⟩, ⟨AL2, nL2, kL2⟩, ⟨AL3, nL3, kL3⟩, dL, ⟨AL4, nL4, kL4⟩⟩ : MV) mu Aa na ys wr) ∧ Hid (Audited mu) ∧ Hid (1 ≤ mu.ps.length)) (fun iv _ => na - (intOf iv).toNat)
  case atStart => exact ⟨0, HV, AV0, AV1, AV2, AV3, AV4, nV0, kV0, nV1, kV1, nV2, kV2, nV3, kV3, nV4, kV4, dV, m, Nat.zero_le _, rfl, HT, HAU, HPS⟩
  case round =>
    clear HT HAU HPS
    obtain ⟨k, HL, AL0, AL1, AL2, AL3, AL4, nL0, kL0, nL1, kL1, nL2, kL2, nL3, kL3, nL4, kL4, dL, mu, hk, rfl, HT, HAU, HPS⟩ := hrel
    by_cases hlt : k < na
    · have hm := HAU.out.1
      have HMM := Lib.hid hm
      obtain ⟨bq, oq, a, hA5, hbq, hak, p0, p1, p2, p3, p4⟩ := GAct.at_ HT.out.acts hlt
      subst hA5
      have HFT := Lib.hid (HT.out.fit hm)
      have hgw := HT.out.blk.lt
      have hEw := HT.out.e
      clear hm hak
      obtain ⟨Nk, hNk⟩ : ∃ z, z = actN mu a := ⟨_, rfl⟩
      have HNK := Lib.hid hNk
      clear hNk
      have hbx := HT.out.blk
      simp only [MV.cells] at hbx
      have HBX := Lib.hid hbx
      clear hbx
      have cD := Lib.hid (fun W (he : Ext wr W) => impl_DoAct (⟨HL, ⟨AL0, nL0, kL0⟩, ⟨AL1, nL1, kL1⟩, ⟨AL2, nL2, kL2⟩, ⟨AL3, nL3, kL3⟩, dL, ⟨AL4, nL4, kL4⟩⟩ : MV) mu a W (HT.out.rd.keep he) HFT.out (Lib.hid (max_ext hM.out (hEw.trans he))))
      rw [← HNK.out] at cD
      have y0 := HBX.out.cellAt (i := 0) (by simp)
      have y1 := HBX.out.cellAt (i := 1) (by simp)
      have y2 := HBX.out.cellAt (i := 2) (by simp)
      have y3 := HBX.out.cellAt (i := 3) (by simp)
      have y4 := HBX.out.cellAt (i := 4) (by simp)
      have y5 := HBX.out.cellAt (i := 5) (by simp)
      have y6 := HBX.out.cellAt (i := 6) (by simp)
      simp at y0 y1 y2 y3 y4 y5 y6
      have ne1 : wr.heap.size ≠ g3 := by omega
      have ne2 : wr.heap.size ≠ bq := by omega
      have i0 : (0 : Int) ≤ (k : Int) := by omega
      have i1 : (k : Int) < (na : Int) := by omega
      go_upto_region 7 with fail
      go_cut [6, 7] (fun p q wx => ∃ (g lo hi : Nat) (v : MV), p = .pointer (some ⟨g, 0, none⟩) ∧ q = .int .i64 Nk ∧ GotK wr wx g lo hi v (actM mu a))
      case first => as_aux_lemma =>
        go_region_held3 (fun w' => w'.cell? ⟨g3, 0, none⟩ = some (.int .i64 HL) ∧ w'.cell? ⟨g3, 1, none⟩ = some (.slice AL0 nL0 kL0) ∧ w'.cell? ⟨g3, 2, none⟩ = some (.slice AL1 nL1 kL1) ∧ w'.cell? ⟨g3, 3, none⟩ = some (.slice AL2 nL2 kL2) ∧ w'.cell? ⟨g3, 4, none⟩ = some (.slice AL3 nL3 kL3) ∧ w'.cell? ⟨g3, 5, none⟩ = some (.int .i64 dL) ∧ w'.cell? ⟨g3, 6, none⟩ = some (.slice AL4 nL4 kL4) ∧ w'.cell? ⟨bq, oq + k * 5, none⟩ = some (.int .i64 a.k) ∧ w'.cell? ⟨bq, oq + k * 5 + 1, none⟩ = some (.int .i64 a.a) ∧ w'.cell? ⟨bq, oq + k * 5 + 2, none⟩ = some (.int .i64 a.b) ∧ w'.cell? ⟨bq, oq + k * 5 + 3, none⟩ = some (.int .i64 a.c) ∧ w'.cell? ⟨bq, oq + k * 5 + 4, none⟩ = some (.int .i64 a.d)) (go_keep) (first
          | (go_at_call 11; refine (cD.out _ (by first | exact (Ext.refl _).drew | exact ((Ext.refl _).alloc _).drew)).mono ?_; rintro e wC ⟨v3, hev, hC, oC⟩; obtain ⟨HX, ⟨AX0, nX0, kX0⟩, ⟨AX1, nX1, kX1⟩, ⟨AX2, nX2, kX2⟩, ⟨AX3, nX3, kX3⟩, dX, ⟨AX4, nX4, kX4⟩⟩ := v3; simp only [MV.val, MV.cells] at hev; subst hev; have eu : Ext wr wC := (by first | exact Ext.trans (Ext.refl _).drew hC | exact Ext.trans ((Ext.refl _).alloc _).drew hC); have um := HBX.out.keep eu; have um0 := um.cellAt (i := 0) (by simp); have um1 := um.cellAt (i := 1) (by simp); have um2 := um.cellAt (i := 2) (by simp); have um3 := um.cellAt (i := 3) (by simp); have um4 := um.cellAt (i := 4) (by simp); have um5 := um.cellAt (i := 5) (by simp); have um6 := um.cellAt (i := 6) (by simp); simp at um0 um1 um2 um3 um4 um5 um6; have up0 := (eu.cellAt bq hbq _).trans p0; have up1 := (eu.cellAt bq hbq _).trans p1; have up2 := (eu.cellAt bq hbq _).trans p2; have up3 := (eu.cellAt bq hbq _).trans p3; have up4 := (eu.cellAt bq hbq _).trans p4; have zu := eu.size; have ne3 : wC.heap.size ≠ g3 := (by omega); have ne4 : wC.heap.size ≠ bq := (by omega); (first | (have kC := Blk.keep (Blk.drew (Blk.new _ _ _)) hC; have kC0 := kC.cellAt (i := 0) (by simp); have kC1 := kC.cellAt (i := 1) (by simp); have kC2 := kC.cellAt (i := 2) (by simp); have kC3 := kC.cellAt (i := 3) (by simp); have kC4 := kC.cellAt (i := 4) (by simp); have kC5 := kC.cellAt (i := 5) (by simp); have kC6 := kC.cellAt (i := 6) (by simp); simp at kC0 kC1 kC2 kC3 kC4 kC5 kC6; have kCf := kC.free; have kCl := kC.lt) | skip)))
        all_goals go_wp2_with fail
        all_goals go_meet
        all_goals first
          | (have hG := GotK.of oC hC kC (show Ext wr _ from (by first | exact ((Ext.refl _).alloc _).drew | (repeat (first | exact Ext.refl _ | assumption | refine Ext.alloc ?_ _ | refine Ext.drew ?_ | refine Ext.drewN ?_ _ | refine Ext.setCell ?_ (by first | (simp; done) | (simp; omega)) _ | refine Ext.trans ?_ (by assumption))))) (Ext.refl _) (by omega) (by first | exact .inl (by simp) | exact .inl (by show wr.heap.size < (wr.alloc _).heap.size; simp)); with_reducible exact ⟨_, _, _, _, rfl, rfl, hG⟩)
          | ((fail_if_success (have := kC)); have hG := GotK.new (t := 30) oC hC (show Ext wr _ from (by first | exact (Ext.refl _).drew | (repeat (first | exact Ext.refl _ | assumption | refine Ext.alloc ?_ _ | refine Ext.drew ?_ | refine Ext.drewN ?_ _ | refine Ext.setCell ?_ (by first | (simp; done) | (simp; omega)) _ | refine Ext.trans ?_ (by assumption))))); with_reducible exact ⟨_, _, _, _, rfl, rfl, hG⟩)
      case rest =>
      obtain ⟨gX, loX, hiX, ⟨HX, ⟨AX0, nX0, kX0⟩, ⟨AX1, nX1, kX1⟩, ⟨AX2, nX2, kX2⟩, ⟨AX3, nX3, kX3⟩, dX, ⟨AX4, nX4, kX4⟩⟩, rfl, rfl, hGX⟩ := hcut
      clear y0 y1 y2 y3 y4 y5 y6 ne1 ne2 cD
      obtain ⟨w4, rfl⟩ : ∃ x, x = wc := ⟨_, rfl⟩
      have hE4 := hGX.e
      have HBX6 := Lib.hid hGX.box
      have HRX := Lib.hid hGX.own
      have HT := Lib.hid (HT.out.ext hE4)
      have hz4 := hE4.size
      have p0 := (hE4.cellAt bq hbq _).trans p0
      have p1 := (hE4.cellAt bq hbq _).trans p1
      have p2 := (hE4.cellAt bq hbq _).trans p2
      have p3 := (hE4.cellAt bq hbq _).trans p3
      have p4 := (hE4.cellAt bq hbq _).trans p4
      have hEw := hEw.trans hE4
      have hbq := Nat.lt_of_lt_of_le hbq hz4
      have HBX := Lib.hid (HBX.out.keep hE4)
      have hgw := Nat.lt_of_lt_of_le hgw hz4
      clear hGX hE4 hz4
      have cD := Lib.hid (fun W (he : Ext w4 W) => spec_DoAct (⟨HL, ⟨AL0, nL0, kL0⟩, ⟨AL1, nL1, kL1⟩, ⟨AL2, nL2, kL2⟩, ⟨AL3, nL3, kL3⟩, dL, ⟨AL4, nL4, kL4⟩⟩ : MV) mu a W (HT.out.rd.keep he) HFT.out)
      rw [← HNK.out] at cD
      have y0 := HBX.out.cellAt (i := 0) (by simp)
      have y1 := HBX.out.cellAt (i := 1) (by simp)
      have y2 := HBX.out.cellAt (i := 2) (by simp)
      have y3 := HBX.out.cellAt (i := 3) (by simp)
      have y4 := HBX.out.cellAt (i := 4) (by simp)
      have y5 := HBX.out.cellAt (i := 5) (by simp)
      have y6 := HBX.out.cellAt (i := 6) (by simp)
      simp at y0 y1 y2 y3 y4 y5 y6
      have ne1 : w4.heap.size ≠ g3 := by omega
      have ne2 : w4.heap.size ≠ bq := by omega
      have i0 : (0 : Int) ≤ (k : Int) := by omega
      have i1 : (k : Int) < (na : Int) := by omega
      go_upto_region 8 with fail
      go_cut [8, 9] (fun p q wx => ∃ (g lo hi : Nat) (v : MV), p = .pointer (some ⟨g, 0, none⟩) ∧ q = .int .i64 Nk ∧ GotK w4 wx g lo hi v (actM mu a))
      case first => as_aux_lemma =>
        go_region_held3 (fun w' => w'.cell? ⟨g3, 0, none⟩ = some (.int .i64 HL) ∧ w'.cell? ⟨g3, 1, none⟩ = some (.slice AL0 nL0 kL0) ∧ w'.cell? ⟨g3, 2, none⟩ = some (.slice AL1 nL1 kL1) ∧ w'.cell? ⟨g3, 3, none⟩ = some (.slice AL2 nL2 kL2) ∧ w'.cell? ⟨g3, 4, none⟩ = some (.slice AL3 nL3 kL3) ∧ w'.cell? ⟨g3, 5, none⟩ = some (.int .i64 dL) ∧ w'.cell? ⟨g3, 6, none⟩ = some (.slice AL4 nL4 kL4) ∧ w'.cell? ⟨bq, oq + k * 5, none⟩ = some (.int .i64 a.k) ∧ w'.cell? ⟨bq, oq + k * 5 + 1, none⟩ = some (.int .i64 a.a) ∧ w'.cell? ⟨bq, oq + k * 5 + 2, none⟩ = some (.int .i64 a.b) ∧ w'.cell? ⟨bq, oq + k * 5 + 3, none⟩ = some (.int .i64 a.c) ∧ w'.cell? ⟨bq, oq + k * 5 + 4, none⟩ = some (.int .i64 a.d)) (go_keep) (first
          | (go_at_call 12; refine (cD.out _ (by first | exact (Ext.refl _).drew | exact ((Ext.refl _).alloc _).drew)).mono ?_; rintro e wC ⟨v3, hev, hC, oC⟩; obtain ⟨HS, ⟨AS0, nS0, kS0⟩, ⟨AS1, nS1, kS1⟩, ⟨AS2, nS2, kS2⟩, ⟨AS3, nS3, kS3⟩, dS, ⟨AS4, nS4, kS4⟩⟩ := v3; simp only [MV.val, MV.cells] at hev; subst hev; have eu : Ext w4 wC := (by first | exact Ext.trans (Ext.refl _).drew hC | exact Ext.trans ((Ext.refl _).alloc _).drew hC); have um := HBX.out.keep eu; have um0 := um.cellAt (i := 0) (by simp); have um1 := um.cellAt (i := 1) (by simp); have um2 := um.cellAt (i := 2) (by simp); have um3 := um.cellAt (i := 3) (by simp); have um4 := um.cellAt (i := 4) (by simp); have um5 := um.cellAt (i := 5) (by simp); have um6 := um.cellAt (i := 6) (by simp); simp at um0 um1 um2 um3 um4 um5 um6; have up0 := (eu.cellAt bq hbq _).trans p0; have up1 := (eu.cellAt bq hbq _).trans p1; have up2 := (eu.cellAt bq hbq _).trans p2; have up3 := (eu.cellAt bq hbq _).trans p3; have up4 := (eu.cellAt bq hbq _).trans p4; have zu := eu.size; have ne3 : wC.heap.size ≠ g3 := (by omega); have ne4 : wC.heap.size ≠ bq := (by omega); (first | (have kC := Blk.keep (Blk.drew (Blk.new _ _ _)) hC; have kC0 := kC.cellAt (i := 0) (by simp); have kC1 := kC.cellAt (i := 1) (by simp); have kC2 := kC.cellAt (i := 2) (by simp); have kC3 := kC.cellAt (i := 3) (by simp); have kC4 := kC.cellAt (i := 4) (by simp); have kC5 := kC.cellAt (i := 5) (by simp); have kC6 := kC.cellAt (i := 6) (by simp); simp at kC0 kC1 kC2 kC3 kC4 kC5 kC6; have kCf := kC.free; have kCl := kC.lt) | skip)))
        all_goals go_wp2_with fail
        all_goals go_meet
        all_goals first
          | (have hG := GotK.of oC hC kC (show Ext w4 _ from (by first | exact ((Ext.refl _).alloc _).drew | (repeat (first | exact Ext.refl _ | assumption | refine Ext.alloc ?_ _ | refine Ext.drew ?_ | refine Ext.drewN ?_ _ | refine Ext.setCell ?_ (by first | (simp; done) | (simp; omega)) _ | refine Ext.trans ?_ (by assumption))))) (Ext.refl _) (by omega) (by first | exact .inl (by simp) | exact .inl (by show w4.heap.size < (w4.alloc _).heap.size; simp)); with_reducible exact ⟨_, _, _, _, rfl, rfl, hG⟩)
          | ((fail_if_success (have := kC)); have hG := GotK.new (t := 30) oC hC (show Ext w4 _ from (by first | exact (Ext.refl _).drew | (repeat (first | exact Ext.refl _ | assumption | refine Ext.alloc ?_ _ | refine Ext.drew ?_ | refine Ext.drewN ?_ _ | refine Ext.setCell ?_ (by first | (simp; done) | (simp; omega)) _ | refine Ext.trans ?_ (by assumption))))); with_reducible exact ⟨_, _, _, _, rfl, rfl, hG⟩)
      case rest =>
      obtain ⟨gS, loS, hiS, ⟨HS, ⟨AS0, nS0, kS0⟩, ⟨AS1, nS1, kS1⟩, ⟨AS2, nS2, kS2⟩, ⟨AS3, nS3, kS3⟩, dS, ⟨AS4, nS4, kS4⟩⟩, rfl, rfl, hGS⟩ := hcut
      clear y0 y1 y2 y3 y4 y5 y6 ne1 ne2 cD
      obtain ⟨w5, rfl⟩ : ∃ x, x = wc := ⟨_, rfl⟩
      have hE5 := hGS.e
      have HBS := Lib.hid hGS.box
      have HRS := Lib.hid hGS.own
      have HAS := Lib.hid hGS.rows
      have hhS := hGS.h1
      have hlS := hGS.l1
      have HT := Lib.hid (HT.out.ext hE5)
      have HBX6 := Lib.hid (HBX6.out.keep hE5)
      have HRX := Lib.hid (HRX.out.keep hE5)
      have hM := Lib.hid hM.out
      have HAM := Lib.hid (audited_act HAU.out a)
      have hgS : g3 < loS := by omega
      clear hGS hE5 p0 p1 p2 p3 p4 HBX i0 i1 hlS
      obtain ⟨M, hMM⟩ : ∃ M, M = actM mu a := ⟨_, rfl⟩
      rw [← hMM] at HRS HRX HAM
      have HMA := Lib.hid hMM
      clear hMM
      have HFX := Lib.hid (fit_ok HRX.out HAM.out.1)
      obtain ⟨b0, b1, b2, b3, b4, b5, b6⟩ := HBX6.out.cell
      simp only at b0 b1 b2 b3 b4 b5 b6
      go_wp2_with (go_at_call 13; refine (fun h : Hid _ => h.out) ?_)
      unfold Hid
      refine (impl_MuseumOk (⟨HX, ⟨AX0, nX0, kX0⟩, ⟨AX1, nX1, kX1⟩, ⟨AX2, nX2, kX2⟩, ⟨AX3, nX3, kX3⟩, dX, ⟨AX4, nX4, kX4⟩⟩ : MV) M w5 HRX.out.rd).mono ?_
      rintro e w6 ⟨he, he9⟩
      rw [HAM.out.1] at he
      subst he
      have HT := Lib.hid (HT.out.ext he9)
      have HBX6 := Lib.hid (HBX6.out.keep he9)
      have HBS := Lib.hid (HBS.out.keep he9)
      have HRX := Lib.hid (HRX.out.keep he9)
      have HRS := Lib.hid (HRS.out.keep he9)
      have hhS := Nat.le_trans hhS he9.size
      clear he9
      clear b0 b1 b2 b3 b4 b5 b6
      obtain ⟨-, -, -, c3, -, -, -⟩ := HBX6.out.cell
      obtain ⟨-, -, -, d3, -, -, -⟩ := HBS.out.cell
      simp only at c3 d3
      go_wp2_with (go_at_call 14; refine (fun h : Hid _ => h.out) ?_)
      unfold Hid
      refine (laws_sameInts AX2 nX2 kX2 AS2 nS2 kS2 M.ps w6 HRX.out.rd.rp HRS.out.rd.rp).mono ?_
      rintro e w7 ⟨he, he9⟩
      subst he
      have HT := Lib.hid (HT.out.ext he9)
      have HBX6 := Lib.hid (HBX6.out.keep he9)
      have HBS := Lib.hid (HBS.out.keep he9)
      have HRX := Lib.hid (HRX.out.keep he9)
      have HRS := Lib.hid (HRS.out.keep he9)
      have hhS := Nat.le_trans hhS he9.size
      clear he9
      clear c3 d3
      obtain ⟨b0, b1, b2, b3, b4, b5, b6⟩ := HBX6.out.cell
      simp only at b0 b1 b2 b3 b4 b5 b6
      go_wp2_with (go_at_call 15; refine (fun h : Hid _ => h.out) ?_)
      unfold Hid
      refine (impl_AuditMuseum (⟨HX, ⟨AX0, nX0, kX0⟩, ⟨AX1, nX1, kX1⟩, ⟨AX2, nX2, kX2⟩, ⟨AX3, nX3, kX3⟩, dX, ⟨AX4, nX4, kX4⟩⟩ : MV) M w7 HRX.out.rd HFX.out (Lib.hid (max_ext hM.out HT.out.e))).mono ?_
      rintro e w8 ⟨he, he9⟩
      rw [audited_audit HAM.out] at he
      subst he
      have HT := Lib.hid (HT.out.ext he9)
      have HBX6 := Lib.hid (HBX6.out.keep he9)
      have HBS := Lib.hid (HBS.out.keep he9)
      have HRX := Lib.hid (HRX.out.keep he9)
      have HRS := Lib.hid (HRS.out.keep he9)
      have hhS := Nat.le_trans hhS he9.size
      clear he9
      clear b0 b1 b2 b3 b4 b5 b6
      obtain ⟨b0, b1, b2, b3, b4, b5, b6⟩ := HBX6.out.cell
      simp only at b0 b1 b2 b3 b4 b5 b6
      go_wp2_with (go_at_call 16; refine (fun h : Hid _ => h.out) ?_)
      unfold Hid
      refine (impl_FirstFraud (⟨HX, ⟨AX0, nX0, kX0⟩, ⟨AX1, nX1, kX1⟩, ⟨AX2, nX2, kX2⟩, ⟨AX3, nX3, kX3⟩, dX, ⟨AX4, nX4, kX4⟩⟩ : MV) M w8 HRX.out.rd HFX.out (Lib.hid (max_ext hM.out HT.out.e))).mono ?_
      rintro e w9 ⟨he, he9⟩
      rw [audited_fraud HAM.out] at he
      subst he
      have HT := Lib.hid (HT.out.ext he9)
      have HBX6 := Lib.hid (HBX6.out.keep he9)
      have HBS := Lib.hid (HBS.out.keep he9)
      have HRX := Lib.hid (HRX.out.keep he9)
      have HRS := Lib.hid (HRS.out.keep he9)
      have hhS := Nat.le_trans hhS he9.size
      clear he9
      clear b0 b1 b2 b3 b4 b5 b6
      obtain ⟨b0, b1, b2, b3, b4, b5, b6⟩ := HBS.out.cell
      simp only at b0 b1 b2 b3 b4 b5 b6
      have hb3 := HT.out.blk
      simp only [MV.cells] at hb3
      have z0 := hb3.cellAt (i := 0) (by simp)
      have z1 := hb3.cellAt (i := 1) (by simp)
      have z2 := hb3.cellAt (i := 2) (by simp)
      have z3 := hb3.cellAt (i := 3) (by simp)
      have z4 := hb3.cellAt (i := 4) (by simp)
      have z5 := hb3.cellAt (i := 5) (by simp)
      have z6 := hb3.cellAt (i := 6) (by simp)
      simp only [List.getElem_toArray, List.getElem_cons_zero, List.getElem_cons_succ] at z0 z1 z2 z3 z4 z5 z6
      have zf := hb3.free
      have zl := hb3.lt
      clear hb3
      go_wp2_with fail
      have hN := HT.out.put HRS.out HAS.out hgS hhS
      have HN := Lib.hid hN
      generalize (((((((w9.setCell ⟨g3, 0, none⟩ (.int .i64 HS)).setCell ⟨g3, 1, none⟩ (.slice AS0 nS0 kS0)).setCell ⟨g3, 2, none⟩ (.slice AS1 nS1 kS1)).setCell ⟨g3, 3, none⟩ (.slice AS2 nS2 kS2)).setCell ⟨g3, 4, none⟩ (.slice AS3 nS3 kS3)).setCell ⟨g3, 5, none⟩ (.int .i64 dS)).setCell ⟨g3, 6, none⟩ (.slice AS4 nS4 kS4)) = wN at HN ⊢
      clear hN
      have HPM : Hid (1 ≤ M.ps.length) := Lib.hid (by rw [HMA.out, act_places]; exact HPS.out)
      go_roundw
      case rel => exact ⟨k + 1, HS, AS0, AS1, AS2, AS3, AS4, nS0, kS0, nS1, kS1, nS2, kS2, nS3, kS3, nS4, kS4, dS, M, by omega, by go_num, HN, HAM, HPM⟩
      case measure => simp [intOf]; omega
    · obtain rfl : k = na := by omega
      have hbL := HT.out.blk
      simp only [MV.cells] at hbL
      have HB3 := Lib.hid hbL
      have HR := Lib.hid HT.out.rd
      have HE := Lib.hid HT.out.e
      have HFL := Lib.hid (HT.out.fit HAU.out.1)
      obtain ⟨-, -, l2, -, l4⟩ := HR.out.lens
      simp only at l2 l4
      have HL2 := Lib.hid l2
      have HL4 := Lib.hid l4
      have hp2 : 0 < nL2 := by have := HPS.out; omega
      have hll := museum_lens HAU.out.1
      have hn6 : nL2 ≤ 6 := by omega
      have hn30 : nL4 ≤ 30 := by omega
      have HHL : Hid (HL = mu.H) := Lib.hid HR.out.eH
      have hH1 : 0 < HL := by have h1 := (houseB_spec (museumB_house HAU.out.1)).1; have := HHL.out; omega
      have hgw := HB3.out.lt
      have hgw0 := HT.out.gl
      have hcap : nL4 ≤ kL4 := by
        obtain ⟨lo, hi, hO, -⟩ := HT.out.own
        obtain ⟨A', c', e', h'⟩ := own_form hO.or_
        unfold SL.v at e'
        injection e' with e1 e2 e3
        have h2 : nL4 ≤ c' := h'
        have h3 : kL4 = c' := e3
        omega
      clear hbL l2 l4 hll HT
      obtain ⟨a0, ha0⟩ : ∃ a, a = atV xs 0 := ⟨_, rfl⟩
      have hab0 := atV_bd HBD.out 0
      rw [← ha0] at hab0
      have cA0 : Hid (∀ W, Ext w W → Calls Tryz.prog 17 #[.slice A n c, .int .i64 0] W fun e w' => e = .returned (.int .i64 a0) ∧ Ext W w') := Lib.hid (fun W he => by have h := laws_at A n c xs 0 W (HXB.out.keep he) HBD.out (by omega) hn20; rw [← ha0] at h; exact h)
      clear ha0
      obtain ⟨a1, ha1⟩ : ∃ a, a = atV xs 1 := ⟨_, rfl⟩
      have hab1 := atV_bd HBD.out 1
      rw [← ha1] at hab1
      have cA1 : Hid (∀ W, Ext w W → Calls Tryz.prog 17 #[.slice A n c, .int .i64 1] W fun e w' => e = .returned (.int .i64 a1) ∧ Ext W w') := Lib.hid (fun W he => by have h := laws_at A n c xs 1 W (HXB.out.keep he) HBD.out (by omega) hn20; rw [← ha1] at h; exact h)
      clear ha1
      obtain ⟨a2, ha2⟩ : ∃ a, a = atV xs 2 := ⟨_, rfl⟩
      have hab2 := atV_bd HBD.out 2
      rw [← ha2] at hab2
      have cA2 : Hid (∀ W, Ext w W → Calls Tryz.prog 17 #[.slice A n c, .int .i64 2] W fun e w' => e = .returned (.int .i64 a2) ∧ Ext W w') := Lib.hid (fun W he => by have h := laws_at A n c xs 2 W (HXB.out.keep he) HBD.out (by omega) hn20; rw [← ha2] at h; exact h)
      clear ha2
      obtain ⟨a3, ha3⟩ : ∃ a, a = atV xs 3 := ⟨_, rfl⟩
      have hab3 := atV_bd HBD.out 3
      rw [← ha3] at hab3
      have cA3 : Hid (∀ W, Ext w W → Calls Tryz.prog 17 #[.slice A n c, .int .i64 3] W fun e w' => e = .returned (.int .i64 a3) ∧ Ext W w') := Lib.hid (fun W he => by have h := laws_at A n c xs 3 W (HXB.out.keep he) HBD.out (by omega) hn20; rw [← ha3] at h; exact h)
      clear ha3
      have z0 := HB3.out.cellAt (i := 0) (by simp)
      have z1 := HB3.out.cellAt (i := 1) (by simp)
      have z2 := HB3.out.cellAt (i := 2) (by simp)
      have z3 := HB3.out.cellAt (i := 3) (by simp)
      have z4 := HB3.out.cellAt (i := 4) (by simp)
      have z5 := HB3.out.cellAt (i := 5) (by simp)
      have z6 := HB3.out.cellAt (i := 6) (by simp)
      simp only [List.getElem_toArray, List.getElem_cons_zero, List.getElem_cons_succ] at z0 z1 z2 z3 z4 z5 z6
      go_upto_region 13 with fail
      clear z0 z1 z2 z3 z4 z5 z6
      obtain ⟨wA, hwA⟩ : ∃ wA, wA = wr.alloc (.cells #[.int .i64 HL, .slice AL0 nL0 kL0, .slice AL1 nL1 kL1, .slice AL2 nL2 kL2, .slice AL3 nL3 kL3, .int .i64 dL, .slice AL4 nL4 kL4] 30) := ⟨_, rfl⟩
      obtain ⟨wB, hwB⟩ : ∃ wB, wB = wA.alloc (.cells #[] 3) := ⟨_, rfl⟩
      have eA : Ext wr wA := by rw [hwA]; exact (Ext.refl _).alloc _
      have eB : Ext wA wB := by rw [hwB]; exact (Ext.refl _).alloc _
      have hsA : wA.heap.size = wr.heap.size + 1 := by rw [hwA]; simp
      obtain ⟨gb, hgb⟩ : ∃ gb, gb = wr.heap.size := ⟨_, rfl⟩
      have HBB : Hid (Blk wA gb 30 #[.int .i64 HL, .slice AL0 nL0 kL0, .slice AL1 nL1 kL1, .slice AL2 nL2 kL2, .slice AL3 nL3 kL3, .int .i64 dL, .slice AL4 nL4 kL4]) := Lib.hid (by rw [hwA, hgb]; exact Blk.new _ _ _)
      have HOB : Hid (wB.ownsRow wA.heap.size 3 1 (.slice (some ⟨wr.heap.size + 1, 0, none⟩) 0 0) 0 []) := Lib.hid (by rw [← hsA, hwB]; exact own_empty wA wA.heap.size 3 1 (Nat.le_refl _))
      have HWB : Hid (wB = (wr.alloc (.cells #[.int .i64 HL, .slice AL0 nL0 kL0, .slice AL1 nL1 kL1, .slice AL2 nL2 kL2, .slice AL3 nL3 kL3, .int .i64 dL, .slice AL4 nL4 kL4] 30)).alloc (.cells #[] 3)) := Lib.hid (by rw [hwB, hwA])
      have HEB := Lib.hid eB
      have HEA := Lib.hid eA
      have z3 := (HB3.out.keep (eA.trans eB)).cellAt (i := 3) (by simp)
      simp only [List.getElem_toArray, List.getElem_cons_zero, List.getElem_cons_succ] at z3
      rw [HWB.out] at z3
      have HGB := Lib.hid hgb
      clear hwA hwB eA eB hgb
      go_wp2_with (at_builtin; refine (fun h : Hid _ => h.out) ?_)
      unfold Hid
      rw [← HWB.out]
      rw [← HGB.out] at HOB ⊢
      refine appendRd ei_IntD rfl _ _ rfl wA.heap.size wB _ 0 [] (by rfl) HOB.out AL2 nL2 kL2 (mu.ps.flatMap ienc) (by rfl) (HR.out.rp.keep (HEA.out.trans HEB.out)) HFL.out.zp (one_iencM _) (by omega) HEB.out.size ?_
      intro v' wC hoC heC
      rw [Nat.zero_add, List.nil_append] at hoC
      have hEC := heC wA HEB.out (Nat.le_refl _)
      obtain ⟨Ab, cb, rfl, -⟩ := own_form hoC
      rcases own_block hoC with ⟨-, h0', -⟩ | ⟨gr, cur, hAb, hgr, -, -, -, -, -⟩
      · omega
      subst hAb
      have bC := HBB.out.keep hEC
      have y3 := bC.cellAt (i := 3) (by simp)
      simp only [List.getElem_toArray, List.getElem_cons_zero, List.getElem_cons_succ] at y3
      have yf := bC.free
      have yl := bC.lt
      clear z3 heC
      go_upto_region 14 with fail
      have hDb := bC.set 3 (.slice (some ⟨gr, 0, none⟩) nL2 cb)
      simp only [List.setIfInBounds_toArray, List.set_cons_succ, List.set_cons_zero] at hDb
      have hDo := own_far (k := 3) hoC (show gb < wA.heap.size by have := HGB.out; omega) (.slice (some ⟨gr, 0, none⟩) nL2 cb)
      have hDe : Ext wr (wC.setCell ⟨gb, 3, none⟩ (.slice (some ⟨gr, 0, none⟩) nL2 cb)) := (HEA.out.trans hEC).setCell (show wr.heap.size ≤ gb by have := HGB.out; omega) _
      generalize wC.setCell ⟨gb, 3, none⟩ (.slice (some ⟨gr, 0, none⟩) nL2 cb) = wD at hDb hDo hDe ⊢
      have HBY := Lib.hid hDb
      have HOY := Lib.hid hDo
      have HED := Lib.hid hDe
      have hgg1 : gr ≠ gb := by have := HGB.out; omega
      have hgg2 : gr ≠ g3 := by omega
      have hgg3 : gb ≠ g3 := by have := HGB.out; omega
      clear hDb hDo hDe bC y3 yf yl hoC hEC HEB HEA HBB HOB HWB
      obtain ⟨kI, kI1, kI2, kI3, kI4⟩ := rem_facts hab0.1 (show 0 < (nL2 : Int) by omega)
      obtain ⟨kk, hkk⟩ := Int.eq_ofNat_of_zero_le kI3
      subst hkk
      have hkl : kk < nL2 := by omega
      have kI5 := fun W => rem_run a0 (nL2 : Int) (by omega) W
      rw [← kI1] at kI5
      have kI6 := kI1.symm
      have zn2 : ¬ (nL2 : Int) = 0 := by omega
      have zN2 : ¬ nL2 = 0 := by omega
      have zb2 : ((nL2 : Int) == 0) = false := by simp; omega
      have z3 := (HB3.out.keep HED.out).cellAt (i := 3) (by simp)
      simp only [List.getElem_toArray, List.getElem_cons_zero, List.getElem_cons_succ] at z3
      have rz3 := cell_regrown z3
      have cT := Lib.hid (fun (d : Nat) (os : Array Obj) => cA0.out (grow (redrawn wD d) os) ((HE.out.trans HED.out).trans (ext_rg wD d os)))
      clear kI1 z3
      (refine wp_region_ext (by kernel_rfl) (by kernel_rfl) ?_; (repeat (go_big_quiet_step (first | (go_at_call 17; with_reducible exact Calls.rg (cT.out _ _))))); refine wpQuiet_nil ?_)
      intro wE heE
      have HEE := Lib.hid (HED.out.trans heE)
      have HBY := Lib.hid (HBY.out.keep heE)
      have HOY := Lib.hid (own_keep HOY.out heE)
      clear heE rz3 cT kI5 kI6 kI2 zn2 zN2 zb2 HED
      obtain ⟨x, xI1, xI2, xI3, xI4⟩ := rem_facts hab1.1 hH1
      have xI5 := fun W => rem_run a1 HL (by omega) W
      rw [← xI1] at xI5
      have xI6 := xI1.symm
      have znH : ¬ HL = 0 := by omega
      have zbH : (HL == 0) = false := by simp; omega
      have z0 := (HB3.out.keep HEE.out).cellAt (i := 0) (by simp)
      have y3 := HBY.out.cellAt (i := 3) (by simp)
      simp only [List.getElem_toArray, List.getElem_cons_zero, List.getElem_cons_succ] at z0 y3
      have i0 : (0 : Int) ≤ (kk : Int) := by omega
      have i1 : (kk : Int) < (nL2 : Int) := by omega
      have rf := own_freeT HOY.out
      have rl := (HOY.out.lt gr rfl).2
      obtain ⟨pz, hpz, pc⟩ := ienc_at' (Rd.of_own HOY.out) hkl
      simp only [Nat.zero_add] at pc
      have HPZ := Lib.hid hpz
      clear xI1 hpz
      go_upto_region 15 with fail
      go_region_held3 (fun w' => w'.cell? ⟨gb, 3, none⟩ = some (.slice (some ⟨gr, 0, none⟩) nL2 cb) ∧ w'.cell? ⟨g3, 0, none⟩ = some (.int .i64 HL)) (go_keep) (first
        | (go_at_call 17; refine (cA1.out _ ((HE.out.trans HEE.out).drew)).mono ?_; rintro e wF ⟨rfl, heF⟩; have heE := Ext.trans (Ext.refl wE).drew heF; have oF := own_keep HOY.out heE; have rf := own_freeT oF; have rl := (oF.lt gr rfl).2; have bb := HB3.out.keep (HEE.out.trans heE); have by_ := HBY.out.keep heE; have z0 := bb.cellAt (i := 0) (by simp); have y3 := by_.cellAt (i := 3) (by simp); simp only [List.getElem_toArray, List.getElem_cons_zero, List.getElem_cons_succ] at z0 y3; have pc := (heE.cellAt gr (HOY.out.lt gr rfl).2 _).trans pc))
      have hGo := own_setG oF kk x
      have hGe : Ext wr (wF.setCell ⟨gr, kk, none⟩ (.int .i64 x)) := (HEE.out.trans heE).setCell (show wr.heap.size ≤ gr by have := HGB.out; omega) _
      have hGb := by_.far (p := ⟨gr, kk, none⟩) hgg1.symm (.int .i64 x)
      generalize wF.setCell ⟨gr, kk, none⟩ (.int .i64 x) = wG at hGo hGe hGb ⊢
      have HOG := Lib.hid hGo
      have HEG := Lib.hid hGe
      have HBG := Lib.hid hGb
      clear hGo hGe hGb oF rf rl bb by_ z0 y3 pc heE heF xI5 xI6 xI2 znH zbH HEE HBY HOY
      obtain ⟨bp, op, pk, hAp, -, hpk, q0⟩ := ienc_at HR.out.rp hkl
      simp only at hAp
      subst hAp
      have hRY : MRd wG (⟨HL, ⟨AL0, nL0, kL0⟩, ⟨AL1, nL1, kL1⟩, ⟨some ⟨gr, 0, none⟩, nL2, cb⟩, ⟨AL3, nL3, kL3⟩, dL, ⟨AL4, nL4, kL4⟩⟩ : MV) { mu with ps := mu.ps.set kk x } := ⟨HR.out.eH, HR.out.ed, HR.out.rd.keep HEG.out, HR.out.rf.keep HEG.out, Rd.of_own HOG.out, HR.out.rg.keep HEG.out, HR.out.rr.keep HEG.out⟩
      have hFY : MFit (⟨HL, ⟨AL0, nL0, kL0⟩, ⟨AL1, nL1, kL1⟩, ⟨some ⟨gr, 0, none⟩, nL2, cb⟩, ⟨AL3, nL3, kL3⟩, dL, ⟨AL4, nL4, kL4⟩⟩ : MV) := ⟨HFL.out.zd, HFL.out.zf, (fun h => by cases h), HFL.out.zg, HFL.out.zr, HFL.out.nd, HFL.out.nf, HFL.out.np, HFL.out.ng, HFL.out.nr⟩
      have hbad := bad_place (k := kk) HAU.out (by have := HL2.out; omega) xI3 (by have := HHL.out; omega)
      have hpd : mu.ps.getD kk 0 = pk := by rw [List.getD_eq_getElem?_getD, hpk]; rfl
      rw [hpd] at hbad
      have cA : Hid (∀ (d : Nat) (os : Array Obj), Calls Tryz.prog 15 #[.agg #[.int .i64 HL, .slice AL0 nL0 kL0, .slice AL1 nL1 kL1, .slice (some ⟨gr, 0, none⟩) nL2 cb, .slice AL3 nL3 kL3, .int .i64 dL, .slice AL4 nL4 kL4]] (grow (redrawn wG d) os) fun e w' => e = .returned (.bool (decide (x = pk))) ∧ Ext (grow (redrawn wG d) os) w') := Lib.hid (fun d os => by
        have k := ext_rg wG d os
        have h := impl_AuditMuseum (⟨HL, ⟨AL0, nL0, kL0⟩, ⟨AL1, nL1, kL1⟩, ⟨some ⟨gr, 0, none⟩, nL2, cb⟩, ⟨AL3, nL3, kL3⟩, dL, ⟨AL4, nL4, kL4⟩⟩ : MV) { mu with ps := mu.ps.set kk x } _ (hRY.keep k) hFY (Lib.hid (max_ext hM.out ((HE.out.trans HEG.out).trans k)))
        rw [hbad] at h
        exact h)
      obtain ⟨xq, hxq, pc⟩ := ienc_at' (Rd.of_own HOG.out) hkl
      simp only [Nat.zero_add] at pc
      have hxx : xq = x := by
        rw [List.getElem?_set_self (by have := HL2.out; omega)] at hxq
        injection hxq with hxq
        exact hxq.symm
      subst hxx
      have HRY := Lib.hid hRY
      have HFY := Lib.hid hFY
      have q1 := (HEG.out.cellAt bp (rd1_ltT HR.out.rp hkl) _).trans q0
      clear hRY hFY hbad hpd hpk hxq q0
      have rpc := cell_regrown pc
      have rq1 := cell_regrown q1
      have bg3 := HB3.out.keep HEG.out
      have z3 := bg3.cellAt (i := 3) (by simp)
      have u0 := HBG.out.cellAt (i := 0) (by simp)
      have u1 := HBG.out.cellAt (i := 1) (by simp)
      have u2 := HBG.out.cellAt (i := 2) (by simp)
      have u3 := HBG.out.cellAt (i := 3) (by simp)
      have u4 := HBG.out.cellAt (i := 4) (by simp)
      have u5 := HBG.out.cellAt (i := 5) (by simp)
      have u6 := HBG.out.cellAt (i := 6) (by simp)
      simp only [List.getElem_toArray, List.getElem_cons_zero, List.getElem_cons_succ] at u0 u1 u2 u3 u4 u5 u6
      simp only [List.getElem_toArray, List.getElem_cons_zero, List.getElem_cons_succ] at z3
      have rz3 := cell_regrown z3
      have ru0 := cell_regrown u0
      have ru1 := cell_regrown u1
      have ru2 := cell_regrown u2
      have ru3 := cell_regrown u3
      have ru4 := cell_regrown u4
      have ru5 := cell_regrown u5
      have ru6 := cell_regrown u6
      clear pc q1 bg3 z3 u0 u1 u2 u3 u4 u5 u6
      go_upto_region 16 with fail
      go_cut [110] (fun q wx => q = .bool false ∧ Hid (Ext wG wx))
      case first => as_aux_lemma =>
        by_cases hxp : xq = pk
        · subst hxp
          rw [show decide (xq = xq) = true by simp] at cA
          (refine wp_region_ext (by kernel_rfl) (by kernel_rfl) ?_; (repeat (go_big_quiet_step (first | (go_at_call 15; with_reducible exact Calls.rg (cA.out _ _))))); refine wpQuiet_nil ?_)
          intro w3 he3
          have HE3 := Lib.hid he3
          clear he3
          go_wp2_with fail
          go_meet
          exact ⟨rfl, HE3⟩
        · rw [show decide (xq = pk) = false by simp [hxp]] at cA
          have hxb : (xq == pk) = false := by simp [hxp]
          (refine wp_region_ext (by kernel_rfl) (by kernel_rfl) ?_; (repeat (go_big_quiet_step (first | (go_at_call 15; with_reducible exact Calls.rg (cA.out _ _))))); refine wpQuiet_nil ?_)
          intro w3 he3
          have HE3 := Lib.hid he3
          clear he3
          go_wp2_with fail
          go_meet
          exact ⟨rfl, HE3⟩
      case rest =>
      obtain ⟨rfl, hcu⟩ := hcut
      obtain ⟨wH, rfl⟩ : ∃ y, y = wc := ⟨_, rfl⟩
      have HEH := Lib.hid (HEG.out.trans hcu.out)
      clear hcu rpc rq1 rz3 ru0 ru1 ru2 ru3 ru4 ru5 ru6 cA HRY HFY HBG HOG HEG
      have z6 := (HB3.out.keep HEH.out).cellAt (i := 6) (by simp)
      simp only [List.getElem_toArray, List.getElem_cons_zero, List.getElem_cons_succ] at z6
      by_cases hr0 : nL4 = 0
      · have HR0 : Hid (mu.rs = []) := Lib.hid (List.eq_nil_of_length_eq_zero (by have := HL4.out; omega))
        have hr0b : ((nL4 : Int) == 0) = true := by simp [hr0]
        have hr0c : (nL4 : Int) = 0 := by omega
        have HFP := Lib.hid (no_record HAU.out HR0.out)
        clear hr0
        have z0 := (HB3.out.keep HEH.out).cellAt (i := 0) (by simp)
        have z1 := (HB3.out.keep HEH.out).cellAt (i := 1) (by simp)
        have z2 := (HB3.out.keep HEH.out).cellAt (i := 2) (by simp)
        have z3 := (HB3.out.keep HEH.out).cellAt (i := 3) (by simp)
        have z4 := (HB3.out.keep HEH.out).cellAt (i := 4) (by simp)
        have z5 := (HB3.out.keep HEH.out).cellAt (i := 5) (by simp)
        have z6 := (HB3.out.keep HEH.out).cellAt (i := 6) (by simp)
        simp only [List.getElem_toArray, List.getElem_cons_zero, List.getElem_cons_succ] at z0 z1 z2 z3 z4 z5 z6
        go_wp2_with (go_at_call 15; refine (fun h : Hid _ => h.out) ?_)
        unfold Hid
        refine (impl_AuditMuseum (⟨HL, ⟨AL0, nL0, kL0⟩, ⟨AL1, nL1, kL1⟩, ⟨some ⟨bp, op, none⟩, nL2, kL2⟩, ⟨AL3, nL3, kL3⟩, dL, ⟨AL4, nL4, kL4⟩⟩ : MV) mu wH (HR.out.keep HEH.out) HFL.out (Lib.hid (max_ext hM.out (HE.out.trans HEH.out)))).mono ?_
        rintro e wI ⟨he, heI⟩
        rw [audited_audit HAU.out] at he
        subst he
        have HEI := Lib.hid (HEH.out.trans heI)
        clear heI z0 z1 z2 z3 z4 z5 z6
        have z2 := (HB3.out.keep HEI.out).cellAt (i := 2) (by simp)
        have z3 := (HB3.out.keep HEI.out).cellAt (i := 3) (by simp)
        simp only [List.getElem_toArray, List.getElem_cons_zero, List.getElem_cons_succ] at z2 z3
        have hRF := HR.out.rf.keep HEI.out
        rw [HFP.out] at hRF
        have HRF := Lib.hid hRF
        clear hRF
        go_wp2_with (go_at_call 14; refine (fun h : Hid _ => h.out) ?_)
        unfold Hid
        refine (laws_sameInts AL1 nL1 kL1 (some ⟨bp, op, none⟩) nL2 kL2 mu.ps wI HRF.out (HR.out.rp.keep HEI.out)).mono ?_
        rintro e wJ ⟨rfl, heJ⟩
        have HEJ := Lib.hid (HEI.out.trans heJ)
        clear heJ
        go_wp2_with fail
        go_ret
        exact ⟨rfl, HE.out.trans HEJ.out⟩
      · have hr1 : 0 < nL4 := by omega
        have hr0b : ((nL4 : Int) == 0) = false := by simp; omega
        have hr0c : ¬ (nL4 : Int) = 0 := by omega
        obtain ⟨iI, iI1, iI2, iI3, iI4⟩ := rem_facts hab2.1 (show 0 < (nL4 : Int) by omega)
        obtain ⟨ii, hii⟩ := Int.eq_ofNat_of_zero_le iI3
        subst hii
        have hil : ii < nL4 := by omega
        have iI5 := fun W => rem_run a2 (nL4 : Int) (by omega) W
        rw [← iI1] at iI5
        have iI6 := iI1.symm
        have rz6 := cell_regrown z6
        have cT := Lib.hid (fun (d : Nat) (os : Array Obj) => cA2.out (grow (redrawn wH d) os) ((HE.out.trans HEH.out).trans (ext_rg wH d os)))
        clear iI1
        go_upto_region 20 with fail
        (refine wp_region_ext (by kernel_rfl) (by kernel_rfl) ?_; (repeat (go_big_quiet_step (first | (go_at_call 17; with_reducible exact Calls.rg (cT.out _ _))))); refine wpQuiet_nil ?_)
        intro wI heI
        have HEI := Lib.hid (HEH.out.trans heI)
        clear heI rz6 z6 cT iI5 iI6 iI2 hr0b hr0c
        have z0 := (HB3.out.keep HEI.out).cellAt (i := 0) (by simp)
        have z1 := (HB3.out.keep HEI.out).cellAt (i := 1) (by simp)
        have z2 := (HB3.out.keep HEI.out).cellAt (i := 2) (by simp)
        have z3 := (HB3.out.keep HEI.out).cellAt (i := 3) (by simp)
        have z4 := (HB3.out.keep HEI.out).cellAt (i := 4) (by simp)
        have z5 := (HB3.out.keep HEI.out).cellAt (i := 5) (by simp)
        have z6 := (HB3.out.keep HEI.out).cellAt (i := 6) (by simp)
        simp only [List.getElem_toArray, List.getElem_cons_zero, List.getElem_cons_succ] at z0 z1 z2 z3 z4 z5 z6
        go_upto_region 22 with fail
        clear z0 z1 z2 z3 z4 z5 z6
        obtain ⟨wJ, hwJ⟩ : ∃ wJ, wJ = wI.alloc (.cells #[.int .i64 HL, .slice AL0 nL0 kL0, .slice AL1 nL1 kL1, .slice (some ⟨bp, op, none⟩) nL2 kL2, .slice AL3 nL3 kL3, .int .i64 dL, .slice AL4 nL4 kL4] 30) := ⟨_, rfl⟩
        obtain ⟨wK, hwK⟩ : ∃ wK, wK = wJ.alloc (.cells #[] 43) := ⟨_, rfl⟩
        have eJ : Ext wI wJ := by rw [hwJ]; exact (Ext.refl _).alloc _
        have eK : Ext wJ wK := by rw [hwK]; exact (Ext.refl _).alloc _
        have hsJ : wJ.heap.size = wI.heap.size + 1 := by rw [hwJ]; simp
        obtain ⟨gw, hgw'⟩ : ∃ gw, gw = wI.heap.size := ⟨_, rfl⟩
        have HBW : Hid (Blk wJ gw 30 #[.int .i64 HL, .slice AL0 nL0 kL0, .slice AL1 nL1 kL1, .slice (some ⟨bp, op, none⟩) nL2 kL2, .slice AL3 nL3 kL3, .int .i64 dL, .slice AL4 nL4 kL4]) := Lib.hid (by rw [hwJ, hgw']; exact Blk.new _ _ _)
        have HOW : Hid (wK.ownsRow wJ.heap.size 43 3 (.slice (some ⟨wI.heap.size + 1, 0, none⟩) 0 0) 0 []) := Lib.hid (by rw [← hsJ, hwK]; exact own_empty wJ wJ.heap.size 43 3 (Nat.le_refl _))
        have HWK : Hid (wK = (wI.alloc (.cells #[.int .i64 HL, .slice AL0 nL0 kL0, .slice AL1 nL1 kL1, .slice (some ⟨bp, op, none⟩) nL2 kL2, .slice AL3 nL3 kL3, .int .i64 dL, .slice AL4 nL4 kL4] 30)).alloc (.cells #[] 43)) := Lib.hid (by rw [hwK, hwJ])
        have HEK := Lib.hid eK
        have HIJ := Lib.hid eJ
        have HEJ := Lib.hid (HEI.out.trans eJ)
        have z6 := ((HB3.out.keep HEI.out).keep (eJ.trans eK)).cellAt (i := 6) (by simp)
        simp only [List.getElem_toArray, List.getElem_cons_zero, List.getElem_cons_succ] at z6
        rw [HWK.out] at z6
        have HGW := Lib.hid hgw'
        have HSJ := Lib.hid hsJ
        clear hwJ hwK eJ eK hgw' hsJ
        go_wp2_with (at_builtin; refine (fun h : Hid _ => h.out) ?_)
        unfold Hid
        rw [← HWK.out]
        rw [← HGW.out] at HOW ⊢
        refine appendRd ei_EntryI rfl _ _ rfl wJ.heap.size wK _ 0 [] (by rfl) HOW.out AL4 nL4 kL4 (mu.rs.flatMap GEntry.enc) (by rfl) (HR.out.rr.keep (HEJ.out.trans HEK.out)) HFL.out.zr (one_GEntry _) (by omega) HEK.out.size ?_
        intro v' wL hoL heL
        rw [Nat.zero_add, List.nil_append] at hoL
        have hEL := heL wJ HEK.out (Nat.le_refl _)
        obtain ⟨At, ct, rfl, -⟩ := own_form hoL
        rcases own_block hoL with ⟨-, h0', -⟩ | ⟨gt, cur, hAt, hgt, -, -, -, -, -⟩
        · omega
        subst hAt
        have bL := HBW.out.keep hEL
        have y6 := bL.cellAt (i := 6) (by simp)
        simp only [List.getElem_toArray, List.getElem_cons_zero, List.getElem_cons_succ] at y6
        have yf := bL.free
        have yl := bL.lt
        clear z6 heL
        go_upto_region 23 with fail
        have hMb := bL.set 6 (.slice (some ⟨gt, 0, none⟩) nL4 ct)
        simp only [List.setIfInBounds_toArray, List.set_cons_succ, List.set_cons_zero] at hMb
        have hMo := own_far (k := 6) hoL (show gw < wJ.heap.size by have := HGW.out; have := HSJ.out; omega) (.slice (some ⟨gt, 0, none⟩) nL4 ct)
        have hMe : Ext wI (wL.setCell ⟨gw, 6, none⟩ (.slice (some ⟨gt, 0, none⟩) nL4 ct)) := (HIJ.out.trans hEL).setCell (show wI.heap.size ≤ gw by have := HGW.out; omega) _
        generalize wL.setCell ⟨gw, 6, none⟩ (.slice (some ⟨gt, 0, none⟩) nL4 ct) = wM at hMb hMo hMe ⊢
        have HBM := Lib.hid hMb
        have HOM := Lib.hid hMo
        have HEM := Lib.hid (HEI.out.trans hMe)
        have HIM := Lib.hid hMe
        have hgt1 : gt ≠ gw := by have := HGW.out; have := HSJ.out; omega
        have hIM := hMe.size
        have hgtI : wI.heap.size ≤ gt := by have := HSJ.out; omega
        have hgwI : wI.heap.size ≤ gw := by have := HGW.out; omega
        clear hMb hMo bL y6 yf yl hoL hEL HEK HEJ HBW HOW HWK
        obtain ⟨bt, ot, en, hAt2, -, hen, p0, p1, p2⟩ := GEntry.at_ (Rd.of_own HOM.out) hil
        injection hAt2 with hAt2
        injection hAt2 with hAt3 hAt4
        subst hAt3
        subst hAt4
        simp only [Nat.zero_add] at p0 p1 p2
        have HEN := Lib.hid hen
        have htp := text_pos HAU.out (List.mem_of_getElem? hen)
        have y6 := HBM.out.cellAt (i := 6) (by simp)
        simp only [List.getElem_toArray, List.getElem_cons_zero, List.getElem_cons_succ] at y6
        have e0 : (0 : Int) ≤ (ii : Int) := by omega
        have e1 : (ii : Int) < (nL4 : Int) := by omega
        obtain ⟨cap, wN, hcv, eN, hlN, hcN, hfN⟩ := conv_bytes wM en.x
        have HCN := Lib.hid hcN
        have HFN := Lib.hid hfN
        have HNE := Lib.hid eN
        obtain ⟨gB, hgB⟩ : ∃ gB, gB = wM.heap.size := ⟨_, rfl⟩
        rw [← hgB] at hcv hlN HCN HFN
        have hgBI : wM.heap.size ≤ gB := by omega
        have HGBB := Lib.hid hgB
        clear hen hcN hfN eN hgB
        go_upto_region 24 with fail
        clear hcv y6 p0 p1 p2
        obtain ⟨jI, jI1, jI2, jI3, jI4⟩ := rem_facts hab3.1 (show 0 < (en.x.size : Int) by omega)
        obtain ⟨jj, hjj⟩ := Int.eq_ofNat_of_zero_le jI3
        subst hjj
        have hjl : jj < en.x.size := by omega
        have hjd : jj < en.x.data.size := hjl
        have jI5 := fun W => rem_run a3 (en.x.size : Int) (by omega) W
        rw [← jI1] at jI5
        have jI6 := jI1.symm
        have zs : ¬ (en.x.size : Int) = 0 := by omega
        have zsN : ¬ en.x.size = 0 := by omega
        have HEN2 := Lib.hid (HEM.out.trans HNE.out)
        clear jI1
        go_wp2_with (go_at_call 17; refine (fun h : Hid _ => h.out) ?_)
        unfold Hid
        refine (cA3.out wN (HE.out.trans HEN2.out)).mono ?_
        rintro e wO ⟨rfl, heO⟩
        obtain ⟨cb', hcb'⟩ : ∃ b : UInt8, b = en.x.data[jj] := ⟨_, rfl⟩
        have c0 : wO.cell? ⟨gB, jj, none⟩ = some (.int .u8 (cb'.toNat : Int)) := by rw [hcb']; exact (heO.cellAt gB hlN jj).trans (HCN.out jj hjd)
        have f0 : wO.frozen? ⟨gB, jj, none⟩ = false := (heO.frozenAt gB hlN jj).trans (HFN.out jj hjd)
        have hwr8 := (u8_next cb').1
        have j0 : (0 : Int) ≤ (jj : Int) := by omega
        have j1 : (jj : Int) < (en.x.size : Int) := by omega
        have lO := Nat.lt_of_lt_of_le hlN heO.size
        have HCB := Lib.hid hcb'
        have HEO := Lib.hid (HNE.out.trans heO)
        have HCO : Hid (∀ j (hj : j < en.x.data.size), wO.cell? ⟨gB, j, none⟩ = some (.int .u8 (en.x.data[j].toNat : Int))) := Lib.hid (fun j hj => (heO.cellAt gB hlN j).trans (HCN.out j hj))
        clear heO hcb' HCN HFN
        go_upto_region 26 with fail
        have hv8 : ((cb'.toNat : Int) + 1) % 256 = ((cb' + 1).toNat : Int) := by
          rw [UInt8.toNat_add]
          have h1 : (1 : UInt8).toNat = 1 := rfl
          rw [h1]
          omega
        rw [hv8]
        clear hv8
        obtain ⟨wP, hwP⟩ : ∃ wP, wP = wO.setCell ⟨gB, jj, none⟩ (.int .u8 ((cb' + 1).toNat : Int)) := ⟨_, rfl⟩
        obtain ⟨l, hl⟩ : ∃ l, l = en.x.data.toList.set jj (cb' + 1) := ⟨_, rfl⟩
        have hll : l.length = en.x.size := by rw [hl, List.length_set, Array.length_toList]; rfl
        have HCP : Hid (∀ j (hj : j < l.length), wP.cell? ⟨gB, j, none⟩ = some (.int .u8 (l[j].toNat : Int))) := Lib.hid (fun j hj => by
          have hj2 : j < en.x.data.size := by rw [hll] at hj; exact hj
          by_cases hjj : j = jj
          · subst hjj
            rw [hwP, World.cell?_setCell_same _ _ _ c0]
            simp [hl]
          · rw [hwP, World.cell?_setCell_other _ _ _ _ (by intro h; injection h with _ h; exact hjj h.symm), HCO.out j hj2]
            simp only [hl, List.getElem_set, if_neg (Ne.symm hjj)]
            rfl)
        have hMP : Ext wM wP := by rw [hwP]; exact HEO.out.setCell hgBI _
        have HPM := Lib.hid hMP
        have HOP := Lib.hid (own_keep HOM.out hMP)
        have HBP := Lib.hid (HBM.out.keep hMP)
        have HEP := Lib.hid (HEM.out.trans hMP)
        have HWP := Lib.hid hwP
        have HLL := Lib.hid hl
        have hlP := Nat.lt_of_lt_of_le lO (show wO.heap.size ≤ wP.heap.size by rw [hwP, heap_size_setCell]; exact Nat.le_refl _)
        rw [← hwP]
        clear hwP hl hMP c0 f0 lO hwr8 jI5 jI6 zs zsN
        have hcs : (convert 22 9 (.slice (some ⟨gB, 0, none⟩) en.x.size cap)).run Tryz.prog wP = .ok (.string ⟨l.toArray⟩) wP := by
          rw [← hll]
          exact run_convert_bytes_back (P := Tryz.prog) wP 22 9 5 ⟨gB, 0, none⟩ cap l Tryz.underlying22 Tryz.underlying5 Tryz.underlying9 (fun j hj => by
            rw [show (Addr.add ⟨gB, 0, none⟩ j) = ⟨gB, j, none⟩ by first | (simp [Addr.add]; done) | (simp [Addr.add]; omega)]
            exact HCP.out j hj)
        obtain ⟨y, hy⟩ : ∃ y : ByteArray, y = ⟨l.toArray⟩ := ⟨_, rfl⟩
        rw [← hy] at hcs
        have hys : y.size ≤ 9223372036854775807 := by
          have : y.size = l.length := by rw [hy]; show l.toArray.size = l.length; simp
          omega
        have HY := Lib.hid hy
        have y6 := HBP.out.cellAt (i := 6) (by simp)
        simp only [List.getElem_toArray, List.getElem_cons_zero, List.getElem_cons_succ] at y6
        obtain ⟨bt2, ot2, en2, hAt5, -, hen2, p0, p1, p2⟩ := GEntry.at_ (Rd.of_own HOP.out) hil
        injection hAt5 with hAt5
        injection hAt5 with hAt6 hAt7
        subst hAt6
        subst hAt7
        simp only [Nat.zero_add] at p0 p1 p2
        have rf := own_freeT HOP.out
        have rl := (HOP.out.lt gt rfl).2
        clear hy hen2 hll
        go_upto_region 27 with fail
        have hQo := own_setE HOP.out HEN.out y hys
        have hQe : Ext wI (wP.setCell ⟨gt, ii * 3 + 1, none⟩ (.string y)) := (HIM.out.trans HPM.out).setCell hgtI _
        have hQb := HBP.out.far (p := ⟨gt, ii * 3 + 1, none⟩) hgt1.symm (.string y)
        generalize wP.setCell ⟨gt, ii * 3 + 1, none⟩ (.string y) = wQ at hQo hQe hQb ⊢
        have HOQ := Lib.hid hQo
        have HEQ := Lib.hid (HEI.out.trans hQe)
        have HBQ := Lib.hid hQb
        clear hQo hQe hQb hcs y6 p0 p1 p2 rf rl
        have z0 := (HB3.out.keep HEQ.out).cellAt (i := 0) (by simp)
        have z1 := (HB3.out.keep HEQ.out).cellAt (i := 1) (by simp)
        have z2 := (HB3.out.keep HEQ.out).cellAt (i := 2) (by simp)
        have z3 := (HB3.out.keep HEQ.out).cellAt (i := 3) (by simp)
        have z4 := (HB3.out.keep HEQ.out).cellAt (i := 4) (by simp)
        have z5 := (HB3.out.keep HEQ.out).cellAt (i := 5) (by simp)
        have z6 := (HB3.out.keep HEQ.out).cellAt (i := 6) (by simp)
        simp only [List.getElem_toArray, List.getElem_cons_zero, List.getElem_cons_succ] at z0 z1 z2 z3 z4 z5 z6
        go_upto_region 28 with fail
        clear z0 z1 z2 z3 z4 z5 z6
        obtain ⟨wR, hwR⟩ : ∃ wR, wR = wQ.alloc (.cells #[.int .i64 HL, .slice AL0 nL0 kL0, .slice AL1 nL1 kL1, .slice (some ⟨bp, op, none⟩) nL2 kL2, .slice AL3 nL3 kL3, .int .i64 dL, .slice AL4 nL4 kL4] 30) := ⟨_, rfl⟩
        have eR : Ext wQ wR := by rw [hwR]; exact (Ext.refl _).alloc _
        obtain ⟨gl, hgl⟩ : ∃ gl, gl = wQ.heap.size := ⟨_, rfl⟩
        have HBR : Hid (Blk wR gl 30 #[.int .i64 HL, .slice AL0 nL0 kL0, .slice AL1 nL1 kL1, .slice (some ⟨bp, op, none⟩) nL2 kL2, .slice AL3 nL3 kL3, .int .i64 dL, .slice AL4 nL4 kL4]) := Lib.hid (by rw [hwR, hgl]; exact Blk.new _ _ _)
        rw [← hwR, ← hgl]
        have HER := Lib.hid (HEQ.out.trans eR)
        have HEQR := Lib.hid eR
        have hgl2 : wQ.heap.size ≤ gl := by omega
        have HGL := Lib.hid hgl
        obtain ⟨bq, oq, e0', hAq, -, he0', -, -, -⟩ := GEntry.at_ HR.out.rr hr1
        simp only at hAq
        subst hAq
        have hnz : (HB3.out.keep HER.out) = (HB3.out.keep HER.out) := rfl
        have z6 := (HB3.out.keep HER.out).cellAt (i := 6) (by simp)
        have y6 := HBR.out.cellAt (i := 6) (by simp)
        simp only [List.getElem_toArray, List.getElem_cons_zero, List.getElem_cons_succ] at z6 y6
        have yf := HBR.out.free
        have yl := HBR.out.lt
        obtain ⟨nm, hnm⟩ : ∃ nm, nm = nL4 - 1 := ⟨_, rfl⟩
        have hs1 : wrap64 ((nL4 : Int) - 1) = (nm : Int) := by rw [IntWalk.wrap64_in _ ⟨by omega, by omega⟩]; omega
        have hs2 : IntKind.i64.wrap ((nL4 : Int) - 1) = (nm : Int) := by rw [IntWalk.i64_in _ (by omega)]; omega
        have hm0 : (0 : Int) ≤ (nm : Int) := by omega
        have hm1 : (nm : Int) ≤ (kL4 : Int) := by omega
        have hm2 : nm ≤ kL4 := by omega
        have HNM := Lib.hid hnm
        clear hwR eR hgl he0' hnz hnm
        go_upto_region 29 with fail
        have hSb := HBR.out.set 6 (.slice (some ⟨bq, oq, none⟩) nm kL4)
        simp only [List.setIfInBounds_toArray, List.set_cons_succ, List.set_cons_zero] at hSb
        have hSe : Ext wQ (wR.setCell ⟨gl, 6, none⟩ (.slice (some ⟨bq, oq, none⟩) nm kL4)) := HEQR.out.setCell hgl2 _
        generalize wR.setCell ⟨gl, 6, none⟩ (.slice (some ⟨bq, oq, none⟩) nm kL4) = wS at hSb hSe ⊢
        have HBS2 := Lib.hid hSb
        have HES := Lib.hid (HEQ.out.trans hSe)
        have HOS := Lib.hid (own_keep HOQ.out hSe)
        have HBWS := Lib.hid (HBQ.out.keep hSe)
        clear hSb hSe z6 y6 yf yl hs1 hs2
        obtain ⟨e', he'⟩ : ∃ e' : GEntry, e' = ⟨en.m, y, en.s, hys⟩ := ⟨_, rfl⟩
        rw [← he'] at HOS
        obtain ⟨k1, k2, k3⟩ := cut_at HEN.out e'
        have hcd := (u8_next cb').2
        have hbt := cut_at (l := en.x.data.toList) (i := jj) (e := cb') (by rw [List.getElem?_eq_getElem (by rw [Array.length_toList]; exact hjd)]; exact congrArg some (by rw [Array.getElem_toList]; exact HCB.out.symm)) (cb' + 1)
        have hch := changed_byte HAU.out k1 (e' := e') (by rw [he']) (by rw [he']) hbt.1 (show e'.x.data.toList = _ by rw [he']; show y.data.toList = _; rw [HY.out]; show l = _; rw [HLL.out]; exact hbt.2.1) hcd
        rw [← k2, k3] at hch
        obtain ⟨rs0, eL, hrs⟩ : ∃ rs0 eL, mu.rs = rs0 ++ [eL] := by
          have hne : mu.rs ≠ [] := by intro h; have := HL4.out; rw [h] at this; simp at this; omega
          exact ⟨mu.rs.dropLast, mu.rs.getLast hne, (List.dropLast_concat_getLast hne).symm⟩
        have hlo := lost_entry HAU.out hrs
        have hRS : MRd wS (⟨HL, ⟨AL0, nL0, kL0⟩, ⟨AL1, nL1, kL1⟩, ⟨some ⟨bp, op, none⟩, nL2, kL2⟩, ⟨AL3, nL3, kL3⟩, dL, ⟨some ⟨gt, 0, none⟩, nL4, ct⟩⟩ : MV) { mu with rs := mu.rs.set ii e' } := ⟨HR.out.eH, HR.out.ed, HR.out.rd.keep HES.out, HR.out.rf.keep HES.out, HR.out.rp.keep HES.out, HR.out.rg.keep HES.out, Rd.of_own HOS.out⟩
        have hFS : MFit (⟨HL, ⟨AL0, nL0, kL0⟩, ⟨AL1, nL1, kL1⟩, ⟨some ⟨bp, op, none⟩, nL2, kL2⟩, ⟨AL3, nL3, kL3⟩, dL, ⟨some ⟨gt, 0, none⟩, nL4, ct⟩⟩ : MV) := ⟨HFL.out.zd, HFL.out.zf, HFL.out.zp, HFL.out.zg, (fun h => by cases h), HFL.out.nd, HFL.out.nf, HFL.out.np, HFL.out.ng, HFL.out.nr⟩
        have hrr := HR.out.rr.keep HES.out
        simp only at hrr
        rw [hrs] at hrr
        have hRL : MRd wS (⟨HL, ⟨AL0, nL0, kL0⟩, ⟨AL1, nL1, kL1⟩, ⟨some ⟨bp, op, none⟩, nL2, kL2⟩, ⟨AL3, nL3, kL3⟩, dL, ⟨some ⟨bq, oq, none⟩, nm, kL4⟩⟩ : MV) { mu with rs := rs0 } := ⟨HR.out.eH, HR.out.ed, HR.out.rd.keep HES.out, HR.out.rf.keep HES.out, HR.out.rp.keep HES.out, HR.out.rg.keep HES.out, by show Rd wS 3 _ nm _; rw [HNM.out]; exact rd_init hrr⟩
        have hFR : MFit (⟨HL, ⟨AL0, nL0, kL0⟩, ⟨AL1, nL1, kL1⟩, ⟨some ⟨bp, op, none⟩, nL2, kL2⟩, ⟨AL3, nL3, kL3⟩, dL, ⟨some ⟨bq, oq, none⟩, nm, kL4⟩⟩ : MV) := ⟨HFL.out.zd, HFL.out.zf, HFL.out.zp, HFL.out.zg, (fun h => by cases h), HFL.out.nd, HFL.out.nf, HFL.out.np, HFL.out.ng, by show nm ≤ 1048576; have := HNM.out; omega⟩
        have HRS3 := Lib.hid hRS
        have HFS3 := Lib.hid hFS
        have HRL3 := Lib.hid hRL
        have HFR3 := Lib.hid hFR
        have HCH := Lib.hid hch
        have HLO := Lib.hid hlo
        have HBSS := Lib.hid HBWS.out
        clear hRS hFS hRL hFR hch hlo hrr hrs hbt k1 k2 k3 he' hcd
        have b0 := HBWS.out.cellAt (i := 0) (by simp)
        have b1 := HBWS.out.cellAt (i := 1) (by simp)
        have b2 := HBWS.out.cellAt (i := 2) (by simp)
        have b3 := HBWS.out.cellAt (i := 3) (by simp)
        have b4 := HBWS.out.cellAt (i := 4) (by simp)
        have b5 := HBWS.out.cellAt (i := 5) (by simp)
        have b6 := HBWS.out.cellAt (i := 6) (by simp)
        simp only [List.getElem_toArray, List.getElem_cons_zero, List.getElem_cons_succ] at b0 b1 b2 b3 b4 b5 b6
        go_wp2_with (go_at_call 15; refine (fun h : Hid _ => h.out) ?_)
        unfold Hid
        refine (impl_AuditMuseum (⟨HL, ⟨AL0, nL0, kL0⟩, ⟨AL1, nL1, kL1⟩, ⟨some ⟨bp, op, none⟩, nL2, kL2⟩, ⟨AL3, nL3, kL3⟩, dL, ⟨some ⟨gt, 0, none⟩, nL4, ct⟩⟩ : MV) { mu with rs := mu.rs.set ii e' } wS HRS3.out HFS3.out (Lib.hid (max_ext hM.out (HE.out.trans HES.out)))).mono ?_
        rintro e wT ⟨he, heT⟩
        rw [HCH.out.1] at he
        subst he
        have HET := Lib.hid heT
        clear heT b0 b1 b2 b3 b4 b5 b6
        have b0 := (HBWS.out.keep HET.out).cellAt (i := 0) (by simp)
        have b1 := (HBWS.out.keep HET.out).cellAt (i := 1) (by simp)
        have b2 := (HBWS.out.keep HET.out).cellAt (i := 2) (by simp)
        have b3 := (HBWS.out.keep HET.out).cellAt (i := 3) (by simp)
        have b4 := (HBWS.out.keep HET.out).cellAt (i := 4) (by simp)
        have b5 := (HBWS.out.keep HET.out).cellAt (i := 5) (by simp)
        have b6 := (HBWS.out.keep HET.out).cellAt (i := 6) (by simp)
        simp only [List.getElem_toArray, List.getElem_cons_zero, List.getElem_cons_succ] at b0 b1 b2 b3 b4 b5 b6
        go_wp2_with (go_at_call 16; refine (fun h : Hid _ => h.out) ?_)
        unfold Hid
        refine (impl_FirstFraud (⟨HL, ⟨AL0, nL0, kL0⟩, ⟨AL1, nL1, kL1⟩, ⟨some ⟨bp, op, none⟩, nL2, kL2⟩, ⟨AL3, nL3, kL3⟩, dL, ⟨some ⟨gt, 0, none⟩, nL4, ct⟩⟩ : MV) { mu with rs := mu.rs.set ii e' } wT (HRS3.out.keep HET.out) HFS3.out (Lib.hid (max_ext hM.out (HE.out.trans (HES.out.trans HET.out))))).mono ?_
        rintro e wU ⟨he, heU⟩
        rw [HCH.out.2] at he
        subst he
        have HEU := Lib.hid (HET.out.trans heU)
        clear heU b0 b1 b2 b3 b4 b5 b6
        have b0 := (HBS2.out.keep HEU.out).cellAt (i := 0) (by simp)
        have b1 := (HBS2.out.keep HEU.out).cellAt (i := 1) (by simp)
        have b2 := (HBS2.out.keep HEU.out).cellAt (i := 2) (by simp)
        have b3 := (HBS2.out.keep HEU.out).cellAt (i := 3) (by simp)
        have b4 := (HBS2.out.keep HEU.out).cellAt (i := 4) (by simp)
        have b5 := (HBS2.out.keep HEU.out).cellAt (i := 5) (by simp)
        have b6 := (HBS2.out.keep HEU.out).cellAt (i := 6) (by simp)
        simp only [List.getElem_toArray, List.getElem_cons_zero, List.getElem_cons_succ] at b0 b1 b2 b3 b4 b5 b6
        go_wp2_with (go_at_call 15; refine (fun h : Hid _ => h.out) ?_)
        unfold Hid
        refine (impl_AuditMuseum (⟨HL, ⟨AL0, nL0, kL0⟩, ⟨AL1, nL1, kL1⟩, ⟨some ⟨bp, op, none⟩, nL2, kL2⟩, ⟨AL3, nL3, kL3⟩, dL, ⟨some ⟨bq, oq, none⟩, nm, kL4⟩⟩ : MV) { mu with rs := rs0 } wU (HRL3.out.keep HEU.out) HFR3.out (Lib.hid (max_ext hM.out (HE.out.trans (HES.out.trans HEU.out))))).mono ?_
        rintro e wV ⟨he, heV⟩
        rw [HLO.out] at he
        subst he
        have HEV := Lib.hid (HEU.out.trans heV)
        clear heV b0 b1 b2 b3 b4 b5 b6
        go_wp2_with fail
        go_ret
        exact ⟨rfl, HE.out.trans (HES.out.trans HEV.out)⟩
end Go.Proofs.YtfmifllcbbfpoaaGreatDoor
