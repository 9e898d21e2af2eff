/- Texts of one proof, laid one behind the other (SDh, SDc, SDd, SDi); no condition but what stands at each theorem. -/
import Derived.Deep.DeepCutAuto
import Derived.Test.YtfhibjehnoibeaaDoorZE
import Derived.Test.YtfhibjehnoibeaaDoorZH
import Derived.Test.YtfhibjehnoibeaaDoorZI
import Derived.Test.YtfhibjehnoibeaaDoorZJ
/- The drawing of a museum; no condition but what stands at each theorem. -/
namespace Go.Proofs.YtfhibjehnoibeaaDoor
set_option linter.unusedSimpArgs false
set_option linter.unusedVariables false
open Go.RowKit Go.Sort
abbrev set7 (w : World) (g : Nat) (u0 u1 u2 u3 u4 u5 u6 : Value) : World := ((((((w.setCell ⟨g, 0, none⟩ u0).setCell ⟨g, 1, none⟩ u1).setCell ⟨g, 2, none⟩ u2).setCell ⟨g, 3, none⟩ u3).setCell ⟨g, 4, none⟩ u4).setCell ⟨g, 5, none⟩ u5).setCell ⟨g, 6, none⟩ u6
theorem cur7 {w : World} {p g : Nat} (h : Cur w p) (hp : p < g) (u0 u1 u2 u3 u4 u5 u6 : Value) : Cur (set7 w g u0 u1 u2 u3 u4 u5 u6) p :=
  cur_far (cur_far (cur_far (cur_far (cur_far (cur_far (cur_far h hp u0) hp u1) hp u2) hp u3) hp u4) hp u5) hp u6
theorem grown7 {a w : World} {row : Option Nat} (h : a.grownBy w row) {g : Nat} (hg : a.heap.size ≤ g) (u0 u1 u2 u3 u4 u5 u6 : Value) : a.grownBy (set7 w g u0 u1 u2 u3 u4 u5 u6) row :=
  grown_fresh (grown_fresh (grown_fresh (grown_fresh (grown_fresh (grown_fresh (grown_fresh h hg u0) hg u1) hg u2) hg u3) hg u4) hg u5) hg u6
theorem MOwn.grownP {w w' : World} {base p : Nat} {v : MV} {m : GMuseum} (h : MOwn w base v m) (hp : p < base) (g : w.grownBy w' (some p)) : MOwn w' base v m :=
  ⟨h.eH, h.ed, own_grown h.od hp g, own_grown h.of_ hp g, own_grown h.op hp g, own_grown h.og hp g, own_grown h.or_ hp g, h.ap⟩
/-- A museum stands in the box g, its rows in lo..hi. -/
structure MSt (w1 : World) (p g lo hi : Nat) (v : MV) (m : GMuseum) (wx : World) : Prop where
  lp : p < w1.heap.size
  cu : Cur wx p
  gr : w1.grownBy wx (some p)
  blk : Blk wx g 30 v.cells
  own : MOwn wx lo v m
  rows : MAt lo hi v
  l1 : w1.heap.size ≤ lo
  g1 : w1.heap.size ≤ g
  h1 : hi ≤ wx.heap.size
  ap : g < lo ∨ hi ≤ g
theorem MSt.draw {w1 wx w2 : World} {p g lo hi : Nat} {v : MV} {m : GMuseum} (h : MSt w1 p g lo hi v m wx) (hc : Cur w2 p) (hg : wx.grownBy w2 (some p)) : MSt w1 p g lo hi v m w2 := by
  have lp := h.lp
  have l1 := h.l1
  have g1 := h.g1
  exact ⟨lp, hc, grown_trans h.gr hg, blk_grown h.blk (by omega) hg, h.own.grownP (by omega) hg, h.rows, h.l1, h.g1, Nat.le_trans h.h1 hg.size, h.ap⟩
theorem MSt.ext {w1 wx w2 : World} {p g lo hi : Nat} {v : MV} {m : GMuseum} (h : MSt w1 p g lo hi v m wx) (e : Ext wx w2) : MSt w1 p g lo hi v m w2 :=
  ⟨h.lp, cur_ext h.cu e, grown_extD h.gr e, h.blk.keep e, h.own.keep e, h.rows, h.l1, h.g1, Nat.le_trans h.h1 e.size, h.ap⟩
theorem MSt.put {w1 wx w2 : World} {p g lo hi : Nat} {v : MV} {m : GMuseum} (h : MSt w1 p g lo hi v m wx) (e : Ext wx w2) {H : Int} {A0 A1 A2 A3 A4 : Option Addr} {n0 k0 n1 k1 n2 k2 n3 k3 n4 k4 : Nat} {d : Int} {M : GMuseum}
    (ho : MOwn w2 wx.heap.size (⟨H, ⟨A0, n0, k0⟩, ⟨A1, n1, k1⟩, ⟨A2, n2, k2⟩, ⟨A3, n3, k3⟩, d, ⟨A4, n4, k4⟩⟩ : MV) M) :
    MSt w1 p g wx.heap.size w2.heap.size ⟨H, ⟨A0, n0, k0⟩, ⟨A1, n1, k1⟩, ⟨A2, n2, k2⟩, ⟨A3, n3, k3⟩, d, ⟨A4, n4, k4⟩⟩ M (set7 w2 g (.int .i64 H) (.slice A0 n0 k0) (.slice A1 n1 k1) (.slice A2 n2 k2) (.slice A3 n3 k3) (.int .i64 d) (.slice A4 n4 k4)) := by
  have k := h.ext e
  have hgl := h.blk.lt
  have lp := h.lp
  have g1 := h.g1
  obtain ⟨b, kp⟩ := store7 (a0 := .int .i64 v.H) (a1 := .slice v.sd.A v.sd.n v.sd.c) (a2 := .slice v.sf.A v.sf.n v.sf.c) (a3 := .slice v.sp.A v.sp.n v.sp.c) (a4 := .slice v.sg.A v.sg.n v.sg.c) (a5 := .int .i64 v.d) (a6 := .slice v.sr.A v.sr.n v.sr.c) k.blk (.int .i64 H) (.slice A0 n0 k0) (.slice A1 n1 k1) (.slice A2 n2 k2) (.slice A3 n3 k3) (.int .i64 d) (.slice A4 n4 k4)
  exact ⟨h.lp, cur7 k.cu (by omega) _ _ _ _ _ _ _, grown7 k.gr h.g1 _ _ _ _ _ _ _, b, ho.out kp (by omega), MAt.of_own ho, Nat.le_trans h.gr.size (Nat.le_refl _), h.g1, kp.size, .inl hgl⟩
theorem MSt.of_inv {w1 W : World} {p H lo hi : Nat} {ds : List GDoor} {c1 b1 a1 c2 b2 a2 : Bool} {y1 z1 r1 y2 z2 r2 tN px : Value} (h : RInv w1 p H ds lo hi c1 b1 a1 c2 b2 a2 true true y1 z1 r1 y2 z2 r2 tN px W) (hp : p < w1.heap.size) :
    ∃ (g : Nat) (H' : Int) (A0 A1 A2 A3 A4 : Option Addr) (n0 k0 n1 k1 n2 k2 n3 k3 n4 k4 : Nat) (d : Int) (m : GMuseum) (b : Bool), px = .pointer (some ⟨g, 0, none⟩) ∧ tN = .tuple #[.agg #[.int .i64 H', .slice A0 n0 k0, .slice A1 n1 k1, .slice A2 n2 k2, .slice A3 n3 k3, .int .i64 d, .slice A4 n4 k4], .bool b] ∧ DMus m 0 ∧ m.H = H ∧ m.ds = ds ∧ Blk W g 30 zeroV.cells ∧
      MSt w1 p g lo hi ⟨H', ⟨A0, n0, k0⟩, ⟨A1, n1, k1⟩, ⟨A2, n2, k2⟩, ⟨A3, n3, k3⟩, d, ⟨A4, n4, k4⟩⟩ m (set7 W g (.int .i64 H') (.slice A0 n0 k0) (.slice A1 n1 k1) (.slice A2 n2 k2) (.slice A3 n3 k3) (.int .i64 d) (.slice A4 n4 k4)) := by
  obtain ⟨g, e1, e2, e3, -, -, e6⟩ := h.X rfl
  obtain ⟨⟨H', ⟨A0, n0, k0⟩, ⟨A1, n1, k1⟩, ⟨A2, n2, k2⟩, ⟨A3, n3, k3⟩, d, ⟨A4, n4, k4⟩⟩, m, b, f1, f2, f3, f4, f5, f6, f7, f8⟩ := h.N rfl
  refine ⟨g, H', A0, A1, A2, A3, A4, n0, k0, n1, k1, n2, k2, n3, k3, n4, k4, d, m, b, e1, f1, f2, f3, f4, e3, ?_⟩
  obtain ⟨bl, kp⟩ := store7 (a0 := .int .i64 0) (a1 := .slice none 0 0) (a2 := .slice none 0 0) (a3 := .slice none 0 0) (a4 := .slice none 0 0) (a5 := .int .i64 0) (a6 := .slice none 0 0) e3 (.int .i64 H') (.slice A0 n0 k0) (.slice A1 n1 k1) (.slice A2 n2 k2) (.slice A3 n3 k3) (.int .i64 d) (.slice A4 n4 k4)
  refine ⟨hp, cur7 h.cu (by omega) _ _ _ _ _ _ _, grown7 h.g e2 _ _ _ _ _ _ _, bl, ?_, f6, f7, e2, Nat.le_trans f8 kp.size, e6 rfl⟩
  rcases e6 rfl with q | q
  · exact f5.out kp (by omega)
  · exact f5.below kp (f6.mono (Nat.le_refl _) q)
/-- A museum has been drawn, in rows of the call's own. -/
def DrawnMuseum (p : Nat) (w : World) (e : Ending) (w' : World) : Prop := ∃ (v : MV) (m : GMuseum), e = .returned v.val ∧ MOwn w' w.heap.size v m ∧ DMus m 1000 ∧ Cur w' p ∧ w.grownBy w' (some p)
set_option maxRecDepth 100000 in
set_option maxHeartbeats 16000000 in
theorem spec_l38Museum (p : Nat) (w : World) (hc : Cur w p) : Calls Tryd.prog 41 #[.pointer (some ⟨p, 0, none⟩)] w (DrawnMuseum p w) := by
  have hpw := hc.lt
  obtain ⟨wa, hwa⟩ : ∃ wa, wa = w.alloc (.cells #[.int .i64 0, .slice none 0 0, .slice none 0 0, .slice none 0 0, .slice none 0 0, .int .i64 0, .slice none 0 0] 30) := ⟨_, rfl⟩
  have hBa : Blk wa w.heap.size 30 zeroV.cells := by rw [hwa]; exact Blk.new _ _ _
  have hca : Cur wa p := by rw [hwa]; exact cur_alloc hc _
  have hga : w.grownBy wa (some p) := by rw [hwa]; exact grown_alloc (grown_refl _ _) _
  have hsa : wa.heap.size = w.heap.size + 1 := by rw [hwa]; simp
  have Hwa := Lib.hid hwa
  have HBa := Lib.hid hBa
  have HCa := Lib.hid hca
  have HGa := Lib.hid hga
  clear hwa hBa hca hga hc
  go_enter Tryd.func41, Tryd.ntmps41
  go_wp2_with (go_at_call 28; refine (fun h : Hid _ => h.out) ?_)
  unfold Hid
  rw [← Hwa.out]
  refine (spec_l23House p _ HCa.out).mono ?_
  rintro e w1 ⟨H, hv, ds, rfl, hH1, hH7, hB, hoD, hc1, hg1⟩
  obtain ⟨Ad, cd, rfl, -⟩ := own_form hoD
  have hcd := own_nilM hoD
  obtain ⟨nd, hnd⟩ : ∃ nd, nd = ds.length := ⟨_, rfl⟩
  rw [← hnd] at hoD ⊢
  have hz1 := hg1.size
  obtain ⟨w2, hw2⟩ : ∃ w2, w2 = w1.alloc (.cells #[.int .i64 (H : Int), .slice Ad nd cd] 26) := ⟨_, rfl⟩
  have hE2 : Ext w1 w2 := by rw [hw2]; exact (Ext.refl _).alloc _
  have HBh : Hid (Blk w2 w1.heap.size 26 #[.int .i64 (H : Int), .slice Ad nd cd]) := Lib.hid (by rw [hw2]; exact Blk.new _ _ _)
  have HD2 := Lib.hid (own_keep hoD hE2)
  have HC2 := Lib.hid (cur_ext hc1 hE2)
  have HG2 := Lib.hid (grown_extD (grown_trans HGa.out hg1) hE2)
  have HB2 := Lib.hid ((blk_grown HBa.out (by omega) hg1).keep hE2)
  have hs2 : w2.heap.size = w1.heap.size + 1 := by rw [hw2]; simp
  have HW2 := Lib.hid hw2
  have HCD := Lib.hid hcd
  have HHB := Lib.hid hB
  have h12 : nd ≤ 12 := by have := (houseB_spec hB).2.2.1; omega
  have hp2 : p < w2.heap.size := by omega
  obtain ⟨gh, hgh⟩ : ∃ gh, gh = w1.heap.size := ⟨_, rfl⟩
  have HGH := Lib.hid hgh
  have hghp : gh ≠ p := by omega
  have hghw : w.heap.size + 1 ≤ gh := by omega
  have hgh2 : gh + 1 = w2.heap.size := by omega
  rw [← hgh] at HBh
  have HPA : Hid (wa.heap.size = w.heap.size + 1) := Lib.hid hsa
  clear hoD hE2 hc1 hg1 hw2 hcd hB hnd hgh HBa HCa HGa hz1 hsa
  go_upto_region 2 with fail
  rw [← HW2.out, ← HGH.out]
  go_cut [4, 5] (fun q4 q5 wx => ∃ (g lo hi : Nat) (H' : Int) (A0 A1 A2 A3 A4 : Option Addr) (n0 k0 n1 k1 n2 k2 n3 k3 n4 k4 : Nat) (d : Int) (m : GMuseum) (b : Bool), q4 = .pointer (some ⟨g, 0, none⟩) ∧ q5 = .bool b ∧ Hid (DMus m 0) ∧ Hid (m.H = H) ∧ Hid (m.ds = ds) ∧ Hid (MSt w2 p g lo hi ⟨H', ⟨A0, n0, k0⟩, ⟨A1, n1, k1⟩, ⟨A2, n2, k2⟩, ⟨A3, n3, k3⟩, d, ⟨A4, n4, k4⟩⟩ m wx))
  case first =>
    have k0 := HBh.out.cellAt (i := 0) (by simp)
    have k1 := HBh.out.cellAt (i := 1) (by simp)
    simp at k0 k1
    have hSof : ∀ W, w2.grownBy W (some p) → (W.cell? ⟨gh, 0, none⟩ = some (.int .i64 (H : Int)) ∧ W.cell? ⟨gh, 1, none⟩ = some (.slice Ad nd cd)) := fun W hW => by
      have hb := blk_grown HBh.out hghp hW
      have q0 := hb.cellAt (i := 0) (by simp)
      have q1 := hb.cellAt (i := 1) (by simp)
      simp at q0 q1
      exact ⟨q0, q1⟩
    refine wp_region_held_drew (S := fun w' => w'.cell? ⟨gh, 0, none⟩ = some (.int .i64 (H : Int)) ∧ w'.cell? ⟨gh, 1, none⟩ = some (.slice Ad nd cd)) (by kernel_rfl) ⟨k0, k1⟩ (fun hHeld => ?_)
    have HINI : Hid (RInv w2 p H ds 0 0 false false false false false false false false undef undef undef undef undef undef undef undef w2.drew) := Lib.hid ⟨cur_drew HC2.out, grown_drew1 (grown_refl _ _), nf, nf, nf, nf, nf2, nf2, nf, nf2, nf, nf2, nf, nf⟩
    refine wpAnyH_takeD (i := 0) (oi := _) (v := ?_) 12 rfl rfl (by kernel_rfl) (by kernel_rfl) (by kernel_rfl) (fun _ _ _ h => h) (Or.inl ⟨by rfl, ?_⟩) (by assumption) ?_
    rotate_left 1
    · (intro w' hSw; (try dsimp only at hSw); go_simp; try with_reducible rfl)
    (try simp only [Act.put, List.setIfInBounds_toArray, List.set_cons_zero, List.set_cons_succ])
    refine wpAnyH_takeD (i := 1) (oi := _) (v := ?_) 13 rfl rfl (by kernel_rfl) (by kernel_rfl) (by kernel_rfl) (fun _ _ _ h => h) (Or.inl ⟨by rfl, ?_⟩) (by assumption) ?_
    rotate_left 1
    · (intro w' hSw; (try dsimp only at hSw); go_simp; try with_reducible rfl)
    (try simp only [Act.put, List.setIfInBounds_toArray, List.set_cons_zero, List.set_cons_succ])
    refine wpAnyH_takeD (i := 2) (oi := _) (v := ?_) 14 rfl rfl (by kernel_rfl) (by kernel_rfl) (by kernel_rfl) (fun _ _ _ h => h) (Or.inl ⟨by rfl, ?_⟩) (by assumption) ?_
    rotate_left 1
    · (intro w' hSw; (try dsimp only at hSw); go_simp; try with_reducible rfl)
    (try simp only [Act.put, List.setIfInBounds_toArray, List.set_cons_zero, List.set_cons_succ])
    refine wpAnyH_takeD (i := 6) (oi := _) (v := ?_) 18 rfl rfl (by kernel_rfl) (by kernel_rfl) (by kernel_rfl) (fun _ _ _ h => h) (Or.inl ⟨by rfl, ?_⟩) (by assumption) ?_
    rotate_left 1
    · (intro w' hSw; (try dsimp only at hSw); go_simp; try with_reducible rfl)
    (try simp only [Act.put, List.setIfInBounds_toArray, List.set_cons_zero, List.set_cons_succ])
    refine wpAnyH_takeD (i := 7) (oi := _) (v := ?_) 19 rfl rfl (by kernel_rfl) (by kernel_rfl) (by kernel_rfl) (fun _ _ _ h => h) (Or.inl ⟨by rfl, ?_⟩) (by assumption) ?_
    rotate_left 1
    · (intro w' hSw; (try dsimp only at hSw); go_simp; try with_reducible rfl)
    (try simp only [Act.put, List.setIfInBounds_toArray, List.set_cons_zero, List.set_cons_succ])
    clear k0 k1 hHeld
    refine wpAnyH_start 5 8 (#[true, true, true, false, false, false, true, true, false, false, false, false, false, false, false, false, false, false]) (by kernel_rfl) (by kernel_rfl) ?_
    refine wpAnyH_invX 5 (fun n listed a W => ∃ (lo hi : Nat) (c1 b1 a1 c2 b2 a2 cN x : Bool) (y1 z1 r1 y2 z2 r2 tN px : Value), listed = #[true, true, true, c1, b1, a1, true, true, c2, b2, a2, cN, false, false, false, x, false, false] ∧ a = ⟨#[.pointer (some ⟨p, 0, none⟩), undef, .pointer (some ⟨w.heap.size, 0, none⟩), .pointer (some ⟨gh, 0, none⟩), px, undef, undef, undef, undef, .pointer (some ⟨p, 0, none⟩), .agg #[.int .i64 (H : Int), .slice Ad nd cd], undef, .agg #[.int .i64 (H : Int), .slice Ad nd cd], .pointer (some ⟨p, 0, none⟩), .agg #[.int .i64 (H : Int), .slice Ad nd cd], y1, z1, r1, .pointer (some ⟨p, 0, none⟩), .agg #[.int .i64 (H : Int), .slice Ad nd cd], y2, z2, r2, tN, undef, undef, undef, undef, undef, undef, undef, undef, undef, undef, undef, undef, undef, undef, undef, undef, undef, undef, undef, undef, undef, undef, undef, undef, undef, undef, undef, undef, undef, undef, undef, undef, undef, undef, undef, undef, undef, undef, undef, undef, undef, undef, undef, undef, undef, undef, undef, undef, undef, undef, undef, undef], []⟩ ∧ n = nat1 c1 + nat1 b1 + nat1 a1 + nat1 c2 + nat1 b2 + nat1 a2 + nat1 cN + nat1 x ∧ RInv w2 p H ds lo hi c1 b1 a1 c2 b2 a2 cN x y1 z1 r1 y2 z2 r2 tN px W) ?_ ?_ 8 _ _ _ ?_
    · rintro listed a W ⟨lo, hi, c1, b1, a1, c2, b2, a2, cN, x, y1, z1, r1, y2, z2, r2, tN, px, rfl, rfl, hn, hI⟩
      cases c1
      · simp only [nat1_f] at hn; omega
      cases b1
      · simp only [nat1_f] at hn; omega
      cases a1
      · simp only [nat1_f] at hn; omega
      cases c2
      · simp only [nat1_f] at hn; omega
      cases b2
      · simp only [nat1_f] at hn; omega
      cases a2
      · simp only [nat1_f] at hn; omega
      cases cN
      · simp only [nat1_f] at hn; omega
      cases x
      · simp only [nat1_f] at hn; omega
      clear hn
      have hSW := hSof W hI.g
      obtain ⟨g, H', A0, A1, A2, A3, A4, n0, k0, n1, k1, n2, k2, n3, k3, n4, k4, d, m, b, rfl, rfl, hdm, hH, hd, hz, hst⟩ := MSt.of_inv hI hp2
      have HDM := Lib.hid hdm
      have HmH := Lib.hid hH
      have Hmd := Lib.hid hd
      clear hdm hH hd
      (try simp only [Act.put, List.setIfInBounds_toArray, List.set_cons_zero, List.set_cons_succ])
      refine wpAnyH_takeD (i := 12) (oi := _) (v := ?_) 11 rfl rfl (by kernel_rfl) (by kernel_rfl) (by kernel_rfl) (fun _ _ _ h => h) (Or.inl ⟨by rfl, ?_⟩) hSW ?_
      rotate_left 1
      · (intro w' hSw; (try dsimp only at hSw); go_simp; try with_reducible rfl)
      (try simp only [Act.put, List.setIfInBounds_toArray, List.set_cons_zero, List.set_cons_succ])
      refine wpAnyH_takeD (i := 13) (oi := _) (v := ?_) 24 rfl rfl (by kernel_rfl) (by kernel_rfl) (by kernel_rfl) (fun _ _ _ h => h) (Or.inl ⟨by rfl, ?_⟩) hSW ?_
      rotate_left 1
      · (intro w' hSw; (try dsimp only at hSw); go_simp; try with_reducible rfl)
      (try simp only [Act.put, List.setIfInBounds_toArray, List.set_cons_zero, List.set_cons_succ])
      refine wpAnyH_takeD (i := 14) (oi := _) (v := ?_) 25 rfl rfl (by kernel_rfl) (by kernel_rfl) (by kernel_rfl) (fun _ _ _ h => h) (Or.inl ⟨by rfl, ?_⟩) hSW ?_
      rotate_left 1
      · (intro w' hSw; (try dsimp only at hSw); go_simp; try with_reducible rfl)
      (try simp only [Act.put, List.setIfInBounds_toArray, List.set_cons_zero, List.set_cons_succ])
      refine ⟨fun h => absurd h (by rw [show Region.ready _ _ _ = [16] from by kernel_rfl]; simp), fun i hi => ?_⟩
      rw [show Region.ready _ _ _ = [16] from by kernel_rfl, List.mem_singleton] at hi
      subst hi
      refine wpOp_step (o := { dst := none, op := Op.store 30 (Operand.tmp 4) (Operand.tmp 24), type := _, pos := _, after := _, guard := none }) rfl (fun K' hK => ?_)
      have x0 := hz.cellAt (i := 0) (by simp [zeroV, MV.cells])
      have x1 := hz.cellAt (i := 1) (by simp [zeroV, MV.cells])
      have x2 := hz.cellAt (i := 2) (by simp [zeroV, MV.cells])
      have x3 := hz.cellAt (i := 3) (by simp [zeroV, MV.cells])
      have x4 := hz.cellAt (i := 4) (by simp [zeroV, MV.cells])
      have x5 := hz.cellAt (i := 5) (by simp [zeroV, MV.cells])
      have x6 := hz.cellAt (i := 6) (by simp [zeroV, MV.cells])
      simp [zeroV, MV.cells] at x0 x1 x2 x3 x4 x5 x6
      have fz := hz.free
      have lz := hz.lt
      go_simp
      unfold set7 at hst
      have hS6 := hSof _ hst.gr
      have HST := Lib.hid hst
      clear hst hz x0 x1 x2 x3 x4 x5 x6 fz lz
      generalize (((((((W.setCell ⟨g, 0, none⟩ (.int .i64 H')).setCell ⟨g, 1, none⟩ (.slice A0 n0 k0)).setCell ⟨g, 2, none⟩ (.slice A1 n1 k1)).setCell ⟨g, 3, none⟩ (.slice A2 n2 k2)).setCell ⟨g, 4, none⟩ (.slice A3 n3 k3)).setCell ⟨g, 5, none⟩ (.int .i64 d)).setCell ⟨g, 6, none⟩ (.slice A4 n4 k4)) = w6 at hS6 HST ⊢
      refine hK _ _ ⟨hS6, ?_⟩
      clear hK K'
      refine ⟨fun h => absurd h (by rw [show Region.ready _ _ _ = [17] from by kernel_rfl]; simp), fun i hi => ?_⟩
      rw [show Region.ready _ _ _ = [17] from by kernel_rfl, List.mem_singleton] at hi
      subst hi
      refine wpOp_step (o := { dst := some 5, op := Op.assign (Operand.tmp 25), type := _, pos := _, after := _, guard := none }) rfl (fun K' hK => ?_)
      go_simp
      refine hK _ _ ⟨hS6, by kernel_rfl, ?_⟩
      clear hK K' hS6 hSof
      go_wp2_with fail
      go_meet
      exact ⟨g, lo, hi, H', A0, A1, A2, A3, A4, n0, k0, n1, k1, n2, k2, n3, k3, n4, k4, d, m, b, rfl, rfl, HDM, HmH, Hmd, HST⟩
    · rintro n listed a W ⟨lo, hi, c1, b1, a1, c2, b2, a2, cN, x, y1, z1, r1, y2, z2, r2, tN, px, rfl, rfl, hn, hI⟩
      have hSW := hSof W hI.g
      cases cN
      rotate_left 1
      · left
        have f1 := hI.o4 rfl
        subst f1
        obtain ⟨f2, f3⟩ := hI.o3 rfl
        subst f2
        subst f3
        have f4 := hI.o2 rfl
        subst f4
        obtain ⟨f5, f6⟩ := hI.o1 rfl
        subst f5
        subst f6
        cases x
        rotate_left 1
        · simp only [nat1_t] at hn; omega
        obtain rfl : n = 0 := by simp only [nat1_t, nat1_f] at hn; omega
        clear hn
        obtain ⟨v0, m0, b, rfl, -⟩ := hI.N rfl
        obtain ⟨H', ⟨A0, n0, k0⟩, ⟨A1, n1, k1⟩, ⟨A2, n2, k2⟩, ⟨A3, n3, k3⟩, d, ⟨A4, n4, k4⟩⟩ := v0
        simp only [MV.val, MV.cells] at hI ⊢
        refine wpAnyH_takeD (i := 12) (oi := _) (v := ?_) 11 rfl rfl (by kernel_rfl) (by kernel_rfl) (by kernel_rfl) (fun _ _ _ h => h) (Or.inl ⟨by rfl, ?_⟩) hSW ?_
        rotate_left 1
        · (intro w' hSw; (try dsimp only at hSw); go_simp; try with_reducible rfl)
        (try simp only [Act.put, List.setIfInBounds_toArray, List.set_cons_zero, List.set_cons_succ])
        refine wpAnyH_takeD (i := 13) (oi := _) (v := ?_) 24 rfl rfl (by kernel_rfl) (by kernel_rfl) (by kernel_rfl) (fun _ _ _ h => h) (Or.inl ⟨by rfl, ?_⟩) hSW ?_
        rotate_left 1
        · (intro w' hSw; (try dsimp only at hSw); go_simp; try with_reducible rfl)
        (try simp only [Act.put, List.setIfInBounds_toArray, List.set_cons_zero, List.set_cons_succ])
        refine wpAnyH_takeD (i := 14) (oi := _) (v := ?_) 25 rfl rfl (by kernel_rfl) (by kernel_rfl) (by kernel_rfl) (fun _ _ _ h => h) (Or.inl ⟨by rfl, ?_⟩) hSW ?_
        rotate_left 1
        · (intro w' hSw; (try dsimp only at hSw); go_simp; try with_reducible rfl)
        (try simp only [Act.put, List.setIfInBounds_toArray, List.set_cons_zero, List.set_cons_succ])
        refine ⟨fun h => absurd h (by rw [show Region.ready _ _ _ = [15] from by kernel_rfl]; simp), fun i hi => ?_⟩
        rw [show Region.ready _ _ _ = [15] from by kernel_rfl, List.mem_singleton] at hi
        subst hi
        refine wpOp_step (o := { dst := some 4, op := Op.alloc 30, type := _, pos := _, after := _, guard := none }) rfl (fun K' hK => ?_)
        go_simp
        have hI2 := hI.box
        simp only [zeroV, MV.cells] at hI2
        refine hK _ _ ⟨hSof _ hI2.g, ?_⟩
        clear hK K'
        obtain ⟨g, q0, q1, q2, q3, q4, q5, q6, q7, q8, q9, qa, qb, qc, qd, qe, qf, qg, m, qb2, hpx, htN, hdm, hH, hd, hz, hst⟩ := MSt.of_inv hI2 hp2
        injection hpx with hpx
        injection hpx with hpx
        injection hpx with hpx
        subst hpx
        simp only [Value.tuple.injEq, Value.agg.injEq, Value.int.injEq, Value.slice.injEq, Value.bool.injEq, Array.mk.injEq, List.cons.injEq, true_and, and_true] at htN
        obtain ⟨⟨rfl, ⟨rfl, rfl, rfl⟩, ⟨rfl, rfl, rfl⟩, ⟨rfl, rfl, rfl⟩, ⟨rfl, rfl, rfl⟩, rfl, ⟨rfl, rfl, rfl⟩⟩, rfl⟩ := htN
        obtain ⟨g, hg⟩ : ∃ g, g = W.heap.size := ⟨_, rfl⟩
        rw [← hg] at hz hst ⊢
        clear hg
        have HDM := Lib.hid hdm
        have HmH := Lib.hid hH
        have Hmd := Lib.hid hd
        clear hdm hH hd
        (try simp only [Act.put, List.setIfInBounds_toArray, List.set_cons_zero, List.set_cons_succ])
        refine ⟨fun h => absurd h (by rw [show Region.ready _ _ _ = [16] from by kernel_rfl]; simp), fun i hi => ?_⟩
        rw [show Region.ready _ _ _ = [16] from by kernel_rfl, List.mem_singleton] at hi
        subst hi
        refine wpOp_step (o := { dst := none, op := Op.store 30 (Operand.tmp 4) (Operand.tmp 24), type := _, pos := _, after := _, guard := none }) rfl (fun K' hK => ?_)
        have x0 := hz.cellAt (i := 0) (by simp [zeroV, MV.cells])
        have x1 := hz.cellAt (i := 1) (by simp [zeroV, MV.cells])
        have x2 := hz.cellAt (i := 2) (by simp [zeroV, MV.cells])
        have x3 := hz.cellAt (i := 3) (by simp [zeroV, MV.cells])
        have x4 := hz.cellAt (i := 4) (by simp [zeroV, MV.cells])
        have x5 := hz.cellAt (i := 5) (by simp [zeroV, MV.cells])
        have x6 := hz.cellAt (i := 6) (by simp [zeroV, MV.cells])
        simp [zeroV, MV.cells] at x0 x1 x2 x3 x4 x5 x6
        have fz := hz.free
        have lz := hz.lt
        go_simp
        unfold set7 at hst
        have hS6 := hSof _ hst.gr
        have HST := Lib.hid hst
        clear hst hz x0 x1 x2 x3 x4 x5 x6 fz lz
        generalize ((((((((W.alloc (.cells #[.int .i64 0, .slice none 0 0, .slice none 0 0, .slice none 0 0, .slice none 0 0, .int .i64 0, .slice none 0 0] 30)).setCell ⟨g, 0, none⟩ (.int .i64 H')).setCell ⟨g, 1, none⟩ (.slice A0 n0 k0)).setCell ⟨g, 2, none⟩ (.slice A1 n1 k1)).setCell ⟨g, 3, none⟩ (.slice A2 n2 k2)).setCell ⟨g, 4, none⟩ (.slice A3 n3 k3)).setCell ⟨g, 5, none⟩ (.int .i64 d)).setCell ⟨g, 6, none⟩ (.slice A4 n4 k4)) = w6 at hS6 HST ⊢
        refine hK _ _ ⟨hS6, ?_⟩
        clear hK K'
        refine ⟨fun h => absurd h (by rw [show Region.ready _ _ _ = [17] from by kernel_rfl]; simp), fun i hi => ?_⟩
        rw [show Region.ready _ _ _ = [17] from by kernel_rfl, List.mem_singleton] at hi
        subst hi
        refine wpOp_step (o := { dst := some 5, op := Op.assign (Operand.tmp 25), type := _, pos := _, after := _, guard := none }) rfl (fun K' hK => ?_)
        go_simp
        refine hK _ _ ⟨hS6, by kernel_rfl, ?_⟩
        clear hK K' hS6 hSof
        go_wp2_with fail
        go_meet
        exact ⟨g, lo, hi, H', A0, A1, A2, A3, A4, n0, k0, n1, k1, n2, k2, n3, k3, n4, k4, d, m, b, rfl, rfl, HDM, HmH, Hmd, HST⟩
      · right
        refine ⟨?_, ?_⟩
        · cases c1
          · exact ready_ne 3 (by show 3 < 18; omega) (by kernel_rfl)
          cases b1
          · exact ready_ne 4 (by show 4 < 18; omega) (by kernel_rfl)
          cases a1
          · exact ready_ne 5 (by show 5 < 18; omega) (by kernel_rfl)
          cases c2
          · exact ready_ne 8 (by show 8 < 18; omega) (by kernel_rfl)
          cases b2
          · exact ready_ne 9 (by show 9 < 18; omega) (by kernel_rfl)
          cases a2
          · exact ready_ne 10 (by show 10 < 18; omega) (by kernel_rfl)
          exact ready_ne 11 (by show 11 < 18; omega) (by kernel_rfl)
        · intro i hi
          obtain ⟨hlt, hu, h2⟩ := ready_at hi
          replace hlt : i < 18 := hlt
          clear hi
          have hcase : i = 0 ∨ i = 1 ∨ i = 2 ∨ i = 3 ∨ i = 4 ∨ i = 5 ∨ i = 6 ∨ i = 7 ∨ i = 8 ∨ i = 9 ∨ i = 10 ∨ i = 11 ∨ i = 12 ∨ i = 13 ∨ i = 14 ∨ i = 15 ∨ i = 16 ∨ i = 17 := by omega
          rcases hcase with rfl | rfl | rfl | rfl | rfl | rfl | rfl | rfl | rfl | rfl | rfl | rfl | rfl | rfl | rfl | rfl | rfl | rfl
          · -- 0
            exact (kill hu (by kernel_rfl)).elim
          · -- 1
            exact (kill hu (by kernel_rfl)).elim
          · -- 2
            exact (kill hu (by kernel_rfl)).elim
          · -- 3
            cases c1
            rotate_left 1
            · exact (kill hu (by kernel_rfl)).elim
            cases a1
            rotate_left 1
            · exact Bool.noConfusion ((hI.o1 rfl).1)
            cases c2
            rotate_left 1
            · exact Bool.noConfusion (hI.o2 rfl)
            cases a2
            rotate_left 1
            · exact Bool.noConfusion ((hI.o3 rfl).1)
            have hcn : n = nat1 true + nat1 b1 + nat1 false + nat1 false + nat1 b2 + nat1 false + nat1 false + nat1 x := by simp only [nat1_f, nat1_t] at hn ⊢; omega
            refine wpOp_step (o := { dst := some 15, op := Op.call { callee := Callee.value (Operand.func 29), args := #[Operand.tmp 13, Operand.tmp 14, Operand.const (Value.int IntKind.i64 4)], argTypes := _ }, type := _, pos := _, after := _, guard := none }) rfl (fun K' hK => ?_)
            go_simp
            go_at_call 29
            refine (spec_l31Places p H _ 4 W hI.cu hH1 (by omega) (by omega)).mono ?_
            rintro e W' ⟨v, L, rfl, ho, hl, hr, hc, hg⟩
            have hI2 := hI.call1 hp2 ho (by omega) hr hc hg
            refine hK _ _ ⟨hSof _ hI2.g, ?_⟩
            exact ⟨lo, hi, true, b1, false, false, b2, false, false, x, v, z1, r1, y2, z2, r2, tN, px, by kernel_rfl, rfl, hcn, hI2⟩
          · -- 4
            cases b1
            rotate_left 1
            · exact (kill hu (by kernel_rfl)).elim
            cases a1
            rotate_left 1
            · exact Bool.noConfusion ((hI.o1 rfl).2)
            cases c2
            rotate_left 1
            · exact Bool.noConfusion (hI.o2 rfl)
            cases a2
            rotate_left 1
            · exact Bool.noConfusion ((hI.o3 rfl).1)
            have hcn : n = nat1 c1 + nat1 true + nat1 false + nat1 false + nat1 b2 + nat1 false + nat1 false + nat1 x := by simp only [nat1_f, nat1_t] at hn ⊢; omega
            refine wpOp_step (o := { dst := some 16, op := Op.buildSlice 27 1 #[(0, Operand.const (Value.int IntKind.i64 0))], type := _, pos := _, after := _, guard := none }) rfl (fun K' hK => ?_)
            go_simp
            have hI2 := hI.build1
            refine hK _ _ ⟨hSof _ hI2.g, ?_⟩
            exact ⟨lo, hi, c1, true, false, false, b2, false, false, x, y1, (.slice (some ⟨W.heap.size, 0, none⟩) 1 1), r1, y2, z2, r2, tN, px, by kernel_rfl, rfl, hcn, hI2⟩
          · -- 5
            cases c1
            · exact (kill h2 (by kernel_rfl)).elim
            cases b1
            · exact (kill h2 (by kernel_rfl)).elim
            cases a1
            rotate_left 1
            · exact (kill hu (by kernel_rfl)).elim
            cases c2
            rotate_left 1
            · exact Bool.noConfusion (hI.o2 rfl)
            cases a2
            rotate_left 1
            · exact Bool.noConfusion ((hI.o3 rfl).1)
            have hcn : n = nat1 true + nat1 true + nat1 true + nat1 false + nat1 b2 + nat1 false + nat1 false + nat1 x := by simp only [nat1_f, nat1_t] at hn ⊢; omega
            obtain ⟨g, rfl, hg0, hblk⟩ := hI.B1 rfl rfl
            obtain ⟨L, hown, hl, hr⟩ := hI.R1 rfl rfl
            refine wpOp_step (o := { dst := some 17, op := Op.call { callee := Callee.builtin Builtin.append, args := #[Operand.tmp 15, Operand.tmp 16], argTypes := #[27, 27] }, type := 27, pos := _, after := _, guard := none }) rfl (fun K' hK => ?_)
            refine step_appAt ei_IntD rfl _ _ rfl w2.heap.size W _ L.length (L.flatMap ienc) (by rfl) hown (some ⟨g, 0, none⟩) 1 1 [.int .i64 0] (by rfl) (rd_blk hblk (by rfl) (by unfold maxLen; omega) (by rfl)) (fun h => by cases h) (by intro u hu; simp at hu; subst hu; rfl) (by omega) hI.base ?_
            intro v' W' ho' hg hv
            have ho2 : W'.ownsRow w2.heap.size 3 1 v' (L ++ [0]).length ((L ++ [0]).flatMap ienc) := by rw [List.length_append, List.flatMap_append]; exact ho'
            have hI2 := hI.app1 hp2 ho2 (by simp) (by simp; omega) (fun q hq => by rcases List.mem_append.1 hq with hq | hq; exact hr q hq; simp at hq; subst hq; omega) hg
            refine hK _ _ ⟨hSof _ hI2.g, ?_⟩
            exact ⟨lo, hi, true, true, true, false, b2, false, false, x, y1, _, v', y2, z2, r2, tN, px, by kernel_rfl, rfl, hcn, hI2⟩
          · -- 6
            exact (kill hu (by kernel_rfl)).elim
          · -- 7
            exact (kill hu (by kernel_rfl)).elim
          · -- 8
            cases a1
            · exact (kill h2 (by kernel_rfl)).elim
            cases c2
            rotate_left 1
            · exact (kill hu (by kernel_rfl)).elim
            cases a2
            rotate_left 1
            · exact Bool.noConfusion ((hI.o3 rfl).1)
            have hcn : n = nat1 c1 + nat1 b1 + nat1 true + nat1 true + nat1 b2 + nat1 false + nat1 false + nat1 x := by simp only [nat1_f, nat1_t] at hn ⊢; omega
            refine wpOp_step (o := { dst := some 20, op := Op.call { callee := Callee.value (Operand.func 29), args := #[Operand.tmp 18, Operand.tmp 19, Operand.const (Value.int IntKind.i64 4)], argTypes := _ }, type := _, pos := _, after := _, guard := none }) rfl (fun K' hK => ?_)
            go_simp
            go_at_call 29
            refine (spec_l31Places p H _ 4 W hI.cu hH1 (by omega) (by omega)).mono ?_
            rintro e W' ⟨v, L, rfl, ho, hl, hr, hc, hg⟩
            have hI2 := hI.call2 hp2 ho (by omega) hr hc hg
            refine hK _ _ ⟨hSof _ hI2.g, ?_⟩
            exact ⟨lo, hi, c1, b1, true, true, b2, false, false, x, y1, z1, r1, v, z2, r2, tN, px, by kernel_rfl, rfl, hcn, hI2⟩
          · -- 9
            cases b2
            rotate_left 1
            · exact (kill hu (by kernel_rfl)).elim
            cases a2
            rotate_left 1
            · exact Bool.noConfusion ((hI.o3 rfl).2)
            have hcn : n = nat1 c1 + nat1 b1 + nat1 a1 + nat1 c2 + nat1 true + nat1 false + nat1 false + nat1 x := by simp only [nat1_f, nat1_t] at hn ⊢; omega
            refine wpOp_step (o := { dst := some 21, op := Op.buildSlice 27 2 #[(0, Operand.const (Value.int IntKind.i64 0)), (1, Operand.const (Value.int IntKind.i64 0))], type := _, pos := _, after := _, guard := none }) rfl (fun K' hK => ?_)
            go_simp
            have hI2 := hI.build2
            refine hK _ _ ⟨hSof _ hI2.g, ?_⟩
            exact ⟨lo, hi, c1, b1, a1, c2, true, false, false, x, y1, z1, r1, y2, (.slice (some ⟨W.heap.size, 0, none⟩) 2 2), r2, tN, px, by kernel_rfl, rfl, hcn, hI2⟩
          · -- 10
            cases c2
            · exact (kill h2 (by kernel_rfl)).elim
            cases b2
            · exact (kill h2 (by kernel_rfl)).elim
            cases a2
            rotate_left 1
            · exact (kill hu (by kernel_rfl)).elim
            have hcn : n = nat1 c1 + nat1 b1 + nat1 a1 + nat1 true + nat1 true + nat1 true + nat1 false + nat1 x := by simp only [nat1_f, nat1_t] at hn ⊢; omega
            obtain ⟨g, rfl, hg0, hblk, -⟩ := hI.B2 rfl rfl
            obtain ⟨⟨L, hown, hl, hr⟩, -⟩ := hI.R2 rfl rfl
            refine wpOp_step (o := { dst := some 22, op := Op.call { callee := Callee.builtin Builtin.append, args := #[Operand.tmp 20, Operand.tmp 21], argTypes := #[27, 27] }, type := 27, pos := _, after := _, guard := none }) rfl (fun K' hK => ?_)
            refine step_appAt ei_IntD rfl _ _ rfl w2.heap.size W _ L.length (L.flatMap ienc) (by rfl) hown (some ⟨g, 0, none⟩) 2 2 [.int .i64 0, .int .i64 0] (by rfl) (rd_blk hblk (by rfl) (by unfold maxLen; omega) (by rfl)) (fun h => by cases h) (by intro u hu; simp at hu; subst hu; rfl) (by omega) hI.base ?_
            intro v' W' ho' hg hv
            have ho2 : W'.ownsRow w2.heap.size 3 1 v' (L ++ [0, 0]).length ((L ++ [0, 0]).flatMap ienc) := by rw [List.length_append, List.flatMap_append]; exact ho'
            have hI2 := hI.app2 hp2 ho2 (by simp) (by simp; omega) (fun q hq => by rcases List.mem_append.1 hq with hq | hq; exact hr q hq; simp at hq; subst hq; omega) hg
            refine hK _ _ ⟨hSof _ hI2.g, ?_⟩
            exact ⟨lo, hi, c1, b1, a1, true, true, true, false, x, y1, z1, r1, y2, _, v', tN, px, by kernel_rfl, rfl, hcn, hI2⟩
          · -- 11
            cases a1
            · exact (kill h2 (by kernel_rfl)).elim
            cases a2
            · exact (kill h2 (by kernel_rfl)).elim
            have hcn : n = nat1 c1 + nat1 b1 + nat1 true + nat1 c2 + nat1 b2 + nat1 true + nat1 true + nat1 x := by simp only [nat1_f, nat1_t] at hn ⊢; omega
            obtain ⟨L1, hown1, h11, h12', hr1⟩ := hI.S1 rfl
            obtain ⟨L2, hown2, h21, h22, hr2⟩ := hI.S2 rfl
            obtain ⟨B1, k1, rfl, -⟩ := own_form hown1
            obtain ⟨B2, k2, rfl, -⟩ := own_form hown2
            have hD := own_grown HD2.out (by have := HPA.out; omega) hI.g
            refine wpOp_step (o := { dst := some 23, op := Op.call { callee := Callee.value (Operand.func 55), args := #[Operand.tmp 12, Operand.tmp 17, Operand.tmp 22], argTypes := _ }, type := _, pos := _, after := _, guard := none }) rfl (fun K' hK => ?_)
            go_simp
            go_at_call 55
            refine (spec_NewMuseum (H : Int) Ad nd cd ds B1 L1.length k1 L1 B2 L2.length k2 L2 W (Rd.of_own hD) (Rd.of_own hown1) (Rd.of_own hown2) HCD.out (own_nilM hown1) (own_nilM hown2) (by omega) (by omega) (by omega)).mono ?_
            rintro e W' ⟨v, rfl, he, ho⟩
            obtain ⟨hm1, hm2, hm3⟩ := new_ok HHB.out (show L1.length ≤ 6 by omega) h22 hr1 hr2 h11 h21
            have hI2 := hI.made (b := museumB (rawM H ds L1 L2)) he hm1 hm2 hm3 ho
            refine hK _ _ ⟨hSof _ hI2.g, ?_⟩
            exact ⟨_, _, c1, b1, true, c2, b2, true, true, x, y1, z1, _, y2, z2, _, _, px, by kernel_rfl, rfl, hcn, hI2⟩
          · -- 12
            exact (kill h2 (by kernel_rfl)).elim
          · -- 13
            exact (kill h2 (by kernel_rfl)).elim
          · -- 14
            exact (kill h2 (by kernel_rfl)).elim
          · -- 15
            cases x
            rotate_left 1
            · exact (kill hu (by kernel_rfl)).elim
            have hcn : n = nat1 c1 + nat1 b1 + nat1 a1 + nat1 c2 + nat1 b2 + nat1 a2 + nat1 false + nat1 true := by simp only [nat1_f, nat1_t] at hn ⊢; omega
            refine wpOp_step (o := { dst := some 4, op := Op.alloc 30, type := _, pos := _, after := _, guard := none }) rfl (fun K' hK => ?_)
            go_simp
            have hI2 := hI.box
            simp only [zeroV, MV.cells] at hI2
            refine hK _ _ ⟨hSof _ hI2.g, ?_⟩
            exact ⟨lo, hi, c1, b1, a1, c2, b2, a2, false, true, y1, z1, r1, y2, z2, r2, tN, (.pointer (some ⟨W.heap.size, 0, none⟩)), by kernel_rfl, rfl, hcn, hI2⟩
          · -- 16
            cases x
            · exact (kill h2 (by kernel_rfl)).elim
            · exact (kill h2 (by kernel_rfl)).elim
          · -- 17
            exact (kill h2 (by kernel_rfl)).elim
    · exact ⟨0, 0, false, false, false, false, false, false, false, false, undef, undef, undef, undef, undef, undef, undef, undef, rfl, rfl, rfl, HINI.out⟩
  case rest =>
  obtain ⟨g, lo, hi, H', A0, A1, A2, A3, A4, n0, k0, n1, k1, n2, k2, n3, k3, n4, k4, d, m, b, rfl, rfl, HDM, HmH, Hmd, HST⟩ := hcut
  obtain ⟨w3, rfl⟩ : ∃ x, x = wc := ⟨_, rfl⟩
  go_wp2_with (go_at_call 30; refine (fun h : Hid _ => h.out) ?_)
  unfold Hid
  refine (spec_l01Below p _ _ HST.out.cu).mono ?_
  rintro e w4 ⟨rn, rfl, r0, r1, hc4, hg4⟩
  obtain ⟨n, rfl⟩ := Int.eq_ofNat_of_zero_le r0
  have hn15 : n ≤ 15 := by omega
  have HST4 := Lib.hid (HST.out.draw hc4 hg4)
  clear hc4 hg4 HST r0 r1
  go_wp2_with fail
  go_loopw [7] (fun iv wr => ∃ (k lo hi : Nat) (H' : Int) (A0 A1 A2 A3 A4 : Option Addr) (n0 k0 n1 k1 n2 k2 n3 k3 n4 k4 : Nat) (d : Int) (m : GMuseum), k ≤ n ∧ iv = .int .i64 k ∧ Hid (DMus m (9 * (k : Int))) ∧ Hid (m.H = H) ∧ Hid (m.ds = ds) ∧ Hid (MSt w2 p g lo hi ⟨H', ⟨A0, n0, k0⟩, ⟨A1, n1, k1⟩, ⟨A2, n2, k2⟩, ⟨A3, n3, k3⟩, d, ⟨A4, n4, k4⟩⟩ m wr)) (fun iv _ => n - (intOf iv).toNat)
  case atStart => exact ⟨0, lo, hi, H', A0, A1, A2, A3, A4, n0, k0, n1, k1, n2, k2, n3, k3, n4, k4, d, m, Nat.zero_le _, rfl, Lib.hid (HDM.out.mono (by omega)), HmH, Hmd, HST4⟩
  case round =>
    clear HST4 HDM HmH Hmd
    clear H' A0 A1 A2 A3 A4 n0 k0 n1 k1 n2 k2 n3 k3 n4 k4 d m lo hi
    obtain ⟨k, lo, hi, H', A0, A1, A2, A3, A4, n0, k0, n1, k1, n2, k2, n3, k3, n4, k4, d, m, hk, rfl, HDM, HmH, Hmd, HSr⟩ := hrel
    by_cases hlt : k < n
    · go_wp2_with (go_at_call 30; refine (fun h : Hid _ => h.out) ?_)
      unfold Hid
      refine (spec_l01Below p _ _ HSr.out.cu).mono ?_
      rintro e wd ⟨q, rfl, q0, q1, hcd, hgd⟩
      have HSd := Lib.hid (HSr.out.draw hcd hgd)
      clear hcd hgd HSr q1
      have hq : q = 0 ∨ q = 1 ∨ q = 2 ∨ 3 ≤ q := by omega
      have hmm := Lib.hid HDM.out.au.1
      rcases hq with rfl | rfl | rfl | hq3
      · -- 0
        have hfit := fit_ok HSd.out.own hmm.out
        have cN := Lib.hid (fun (z : Int) (W : World) (hR : MRd W ⟨H', ⟨A0, n0, k0⟩, ⟨A1, n1, k1⟩, ⟨A2, n2, k2⟩, ⟨A3, n3, k3⟩, d, ⟨A4, n4, k4⟩⟩ m) => (spec_NextDays ⟨H', ⟨A0, n0, k0⟩, ⟨A1, n1, k1⟩, ⟨A2, n2, k2⟩, ⟨A3, n3, k3⟩, d, ⟨A4, n4, k4⟩⟩ m z W hR hfit : Calls Tryd.prog 56 #[.agg #[.int .i64 H', .slice A0 n0 k0, .slice A1 n1 k1, .slice A2 n2 k2, .slice A3 n3 k3, .int .i64 d, .slice A4 n4 k4], .int .i64 z] W (MPost (daysM m z) (.bool (daysB m z)) W)))
        clear hfit
        have hSq := HSd.out.ext (Ext.refl wd).drew
        have hcu := hSq.cu
        have x0 := HSd.out.blk.cellAt (i := 0) (by simp [MV.cells])
        have x1 := HSd.out.blk.cellAt (i := 1) (by simp [MV.cells])
        have x2 := HSd.out.blk.cellAt (i := 2) (by simp [MV.cells])
        have x3 := HSd.out.blk.cellAt (i := 3) (by simp [MV.cells])
        have x4 := HSd.out.blk.cellAt (i := 4) (by simp [MV.cells])
        have x5 := HSd.out.blk.cellAt (i := 5) (by simp [MV.cells])
        have x6 := HSd.out.blk.cellAt (i := 6) (by simp [MV.cells])
        simp [MV.cells] at x0 x1 x2 x3 x4 x5 x6
        go_wp2_with fail
        go_region_with (first
          | (go_at_call 30; refine (spec_l01Below p _ _ hcu).mono ?_; rintro e wA ⟨r, rfl, r0, r1, hcA, hgA⟩; have HSA := hSq.draw hcA hgA; have x0a := HSA.blk.cellAt (i := 0) (by simp [MV.cells]); have x1a := HSA.blk.cellAt (i := 1) (by simp [MV.cells]); have x2a := HSA.blk.cellAt (i := 2) (by simp [MV.cells]); have x3a := HSA.blk.cellAt (i := 3) (by simp [MV.cells]); have x4a := HSA.blk.cellAt (i := 4) (by simp [MV.cells]); have x5a := HSA.blk.cellAt (i := 5) (by simp [MV.cells]); have x6a := HSA.blk.cellAt (i := 6) (by simp [MV.cells]); simp [MV.cells] at x0a x1a x2a x3a x4a x5a x6a; have hr9 : r < 9 := (by omega); have hwr : wrap64 (1 + r) = 1 + r := IntWalk.wrap64_in _ ⟨by omega, by omega⟩; have hwr2 : IntKind.i64.wrap (1 + r) = 1 + r := IntWalk.i64_in _ (by omega))
          | (go_at_call 56; refine (cN.out (1 + r) wA HSA.own.rd).mono ?_; rintro e wB ⟨vB, hevB, heB, hoB⟩; obtain ⟨H2, ⟨B0, p0, j0⟩, ⟨B1, p1, j1⟩, ⟨B2, p2, j2⟩, ⟨B3, p3, j3⟩, d2, ⟨B4, p4, j4⟩⟩ := vB; simp only [MV.val, MV.cells] at hevB; subst hevB; have HSB := HSA.ext heB; have x0b := HSB.blk.cellAt (i := 0) (by simp [MV.cells]); have x1b := HSB.blk.cellAt (i := 1) (by simp [MV.cells]); have x2b := HSB.blk.cellAt (i := 2) (by simp [MV.cells]); have x3b := HSB.blk.cellAt (i := 3) (by simp [MV.cells]); have x4b := HSB.blk.cellAt (i := 4) (by simp [MV.cells]); have x5b := HSB.blk.cellAt (i := 5) (by simp [MV.cells]); have x6b := HSB.blk.cellAt (i := 6) (by simp [MV.cells]); simp [MV.cells] at x0b x1b x2b x3b x4b x5b x6b; have gf := HSB.blk.free; have gl := HSB.blk.lt))
        all_goals (
          have HF := HSA.put heB hoB
          have HF2 := Lib.hid HF
          unfold set7 at HF2
          generalize (((((((wB.setCell ⟨g, 0, none⟩ (.int .i64 H2)).setCell ⟨g, 1, none⟩ (.slice B0 p0 j0)).setCell ⟨g, 2, none⟩ (.slice B1 p1 j1)).setCell ⟨g, 3, none⟩ (.slice B2 p2 j2)).setCell ⟨g, 4, none⟩ (.slice B3 p3 j3)).setCell ⟨g, 5, none⟩ (.int .i64 d2)).setCell ⟨g, 6, none⟩ (.slice B4 p4 j4)) = w9 at HF2 ⊢
          have HDM2 : Hid (DMus (daysM m (1 + r)) (9 * ((k + 1 : Nat) : Int))) := Lib.hid ((HDM.out.days (1 + r) (by omega)).mono (by push_cast; omega))
          have HmH2 : Hid ((daysM m (1 + r)).H = H) := Lib.hid ((days_same m (1 + r)).1.trans HmH.out)
          have Hmd2 : Hid ((daysM m (1 + r)).ds = ds) := Lib.hid ((days_same m (1 + r)).2.trans Hmd.out)
          clear HF
          go_wp2_with fail
          go_roundw
          case rel => exact ⟨k + 1, _, _, H2, B0, B1, B2, B3, B4, p0, j0, p1, j1, p2, j2, p3, j3, p4, j4, d2, _, by omega, by go_num, HDM2, HmH2, Hmd2, HF2⟩
          case measure => simp [intOf]; omega)
      · -- 1
        have y4 := HSd.out.blk.cellAt (i := 4) (by simp [MV.cells])
        simp [MV.cells] at y4
        go_wp2_with (go_at_call 30; refine (fun h : Hid _ => h.out) ?_)
        unfold Hid
        refine (spec_l01Below p _ _ HSd.out.cu).mono ?_
        rintro e we ⟨gq, rfl, g0, g1, hce, hge⟩
        have HSe := Lib.hid (HSd.out.draw hce hge)
        clear hce hge y4 g1
        have hfit := fit_ok HSe.out.own hmm.out
        have cN := Lib.hid (fun (z1 z2 : Int) (W : World) (hR : MRd W ⟨H', ⟨A0, n0, k0⟩, ⟨A1, n1, k1⟩, ⟨A2, n2, k2⟩, ⟨A3, n3, k3⟩, d, ⟨A4, n4, k4⟩⟩ m) => (spec_GuardWalk ⟨H', ⟨A0, n0, k0⟩, ⟨A1, n1, k1⟩, ⟨A2, n2, k2⟩, ⟨A3, n3, k3⟩, d, ⟨A4, n4, k4⟩⟩ m z1 z2 W hR hfit : Calls Tryd.prog 57 #[.agg #[.int .i64 H', .slice A0 n0 k0, .slice A1 n1 k1, .slice A2 n2 k2, .slice A3 n3 k3, .int .i64 d, .slice A4 n4 k4], .int .i64 z1, .int .i64 z2] W (MPost (guardM m z1 z2) (.bool (guardB m z1 z2)) W)))
        clear hfit
        have hSq := HSe.out.ext (Ext.refl we).drew
        have hcu := hSq.cu
        have x0 := HSe.out.blk.cellAt (i := 0) (by simp [MV.cells])
        have x1 := HSe.out.blk.cellAt (i := 1) (by simp [MV.cells])
        have x2 := HSe.out.blk.cellAt (i := 2) (by simp [MV.cells])
        have x3 := HSe.out.blk.cellAt (i := 3) (by simp [MV.cells])
        have x4 := HSe.out.blk.cellAt (i := 4) (by simp [MV.cells])
        have x5 := HSe.out.blk.cellAt (i := 5) (by simp [MV.cells])
        have x6 := HSe.out.blk.cellAt (i := 6) (by simp [MV.cells])
        simp [MV.cells] at x0 x1 x2 x3 x4 x5 x6
        have hhe := blk_grown HBh.out hghp HSe.out.gr; have h0e := hhe.cellAt (i := 0) (by simp); have h1e := hhe.cellAt (i := 1) (by simp); simp at h0e h1e
        go_wp2_with fail
        go_region_with (first
          | (go_at_call 30; refine (spec_l01Below p _ _ hcu).mono ?_; rintro e wA ⟨r, rfl, r0, r1, hcA, hgA⟩; have HSA := hSq.draw hcA hgA; have x0a := HSA.blk.cellAt (i := 0) (by simp [MV.cells]); have x1a := HSA.blk.cellAt (i := 1) (by simp [MV.cells]); have x2a := HSA.blk.cellAt (i := 2) (by simp [MV.cells]); have x3a := HSA.blk.cellAt (i := 3) (by simp [MV.cells]); have x4a := HSA.blk.cellAt (i := 4) (by simp [MV.cells]); have x5a := HSA.blk.cellAt (i := 5) (by simp [MV.cells]); have x6a := HSA.blk.cellAt (i := 6) (by simp [MV.cells]); simp [MV.cells] at x0a x1a x2a x3a x4a x5a x6a; have hha := blk_grown HBh.out hghp HSA.gr; have h0a := hha.cellAt (i := 0) (by simp); have h1a := hha.cellAt (i := 1) (by simp); simp at h0a h1a)
          | (go_at_call 57; refine (cN.out gq r wA HSA.own.rd).mono ?_; rintro e wB ⟨vB, hevB, heB, hoB⟩; obtain ⟨H2, ⟨B0, p0, j0⟩, ⟨B1, p1, j1⟩, ⟨B2, p2, j2⟩, ⟨B3, p3, j3⟩, d2, ⟨B4, p4, j4⟩⟩ := vB; simp only [MV.val, MV.cells] at hevB; subst hevB; have HSB := HSA.ext heB; have x0b := HSB.blk.cellAt (i := 0) (by simp [MV.cells]); have x1b := HSB.blk.cellAt (i := 1) (by simp [MV.cells]); have x2b := HSB.blk.cellAt (i := 2) (by simp [MV.cells]); have x3b := HSB.blk.cellAt (i := 3) (by simp [MV.cells]); have x4b := HSB.blk.cellAt (i := 4) (by simp [MV.cells]); have x5b := HSB.blk.cellAt (i := 5) (by simp [MV.cells]); have x6b := HSB.blk.cellAt (i := 6) (by simp [MV.cells]); simp [MV.cells] at x0b x1b x2b x3b x4b x5b x6b; have gf := HSB.blk.free; have gl := HSB.blk.lt; have hhb := blk_grown HBh.out hghp HSB.gr; have h0b := hhb.cellAt (i := 0) (by simp); have h1b := hhb.cellAt (i := 1) (by simp); simp at h0b h1b))
        all_goals (
          have HF := HSA.put heB hoB
          have HF2 := Lib.hid HF
          unfold set7 at HF2
          generalize (((((((wB.setCell ⟨g, 0, none⟩ (.int .i64 H2)).setCell ⟨g, 1, none⟩ (.slice B0 p0 j0)).setCell ⟨g, 2, none⟩ (.slice B1 p1 j1)).setCell ⟨g, 3, none⟩ (.slice B2 p2 j2)).setCell ⟨g, 4, none⟩ (.slice B3 p3 j3)).setCell ⟨g, 5, none⟩ (.int .i64 d2)).setCell ⟨g, 6, none⟩ (.slice B4 p4 j4)) = w9 at HF2 ⊢
          have HDM2 : Hid (DMus (guardM m gq r) (9 * ((k + 1 : Nat) : Int))) := Lib.hid ((HDM.out.guard gq r).mono (by push_cast; omega))
          have HmH2 : Hid ((guardM m gq r).H = H) := Lib.hid ((guard_same m gq r).1.trans HmH.out)
          have Hmd2 : Hid ((guardM m gq r).ds = ds) := Lib.hid ((guard_same m gq r).2.1.trans Hmd.out)
          clear HF
          go_wp2_with fail
          go_roundw
          case rel => exact ⟨k + 1, _, _, H2, B0, B1, B2, B3, B4, p0, j0, p1, j1, p2, j2, p3, j3, p4, j4, d2, _, by omega, by go_num, HDM2, HmH2, Hmd2, HF2⟩
          case measure => simp [intOf]; omega)
      · -- 2
        have y4 := HSd.out.blk.cellAt (i := 4) (by simp [MV.cells])
        simp [MV.cells] at y4
        go_wp2_with (go_at_call 30; refine (fun h : Hid _ => h.out) ?_)
        unfold Hid
        refine (spec_l01Below p _ _ HSd.out.cu).mono ?_
        rintro e we ⟨gq, rfl, g0, g1, hce, hge⟩
        have HSe := Lib.hid (HSd.out.draw hce hge)
        clear hce hge y4 g1
        have hfit := fit_ok HSe.out.own hmm.out
        have cN := Lib.hid (fun (z1 z2 : Int) (W : World) (hR : MRd W ⟨H', ⟨A0, n0, k0⟩, ⟨A1, n1, k1⟩, ⟨A2, n2, k2⟩, ⟨A3, n3, k3⟩, d, ⟨A4, n4, k4⟩⟩ m) => (spec_GuardWalk ⟨H', ⟨A0, n0, k0⟩, ⟨A1, n1, k1⟩, ⟨A2, n2, k2⟩, ⟨A3, n3, k3⟩, d, ⟨A4, n4, k4⟩⟩ m z1 z2 W hR hfit : Calls Tryd.prog 57 #[.agg #[.int .i64 H', .slice A0 n0 k0, .slice A1 n1 k1, .slice A2 n2 k2, .slice A3 n3 k3, .int .i64 d, .slice A4 n4 k4], .int .i64 z1, .int .i64 z2] W (MPost (guardM m z1 z2) (.bool (guardB m z1 z2)) W)))
        clear hfit
        have hSq := HSe.out.ext (Ext.refl we).drew
        have hcu := hSq.cu
        have x0 := HSe.out.blk.cellAt (i := 0) (by simp [MV.cells])
        have x1 := HSe.out.blk.cellAt (i := 1) (by simp [MV.cells])
        have x2 := HSe.out.blk.cellAt (i := 2) (by simp [MV.cells])
        have x3 := HSe.out.blk.cellAt (i := 3) (by simp [MV.cells])
        have x4 := HSe.out.blk.cellAt (i := 4) (by simp [MV.cells])
        have x5 := HSe.out.blk.cellAt (i := 5) (by simp [MV.cells])
        have x6 := HSe.out.blk.cellAt (i := 6) (by simp [MV.cells])
        simp [MV.cells] at x0 x1 x2 x3 x4 x5 x6
        have hhe := blk_grown HBh.out hghp HSe.out.gr; have h0e := hhe.cellAt (i := 0) (by simp); have h1e := hhe.cellAt (i := 1) (by simp); simp at h0e h1e
        go_wp2_with fail
        go_region_with (first
          | (go_at_call 30; refine (spec_l01Below p _ _ hcu).mono ?_; rintro e wA ⟨r, rfl, r0, r1, hcA, hgA⟩; have HSA := hSq.draw hcA hgA; have x0a := HSA.blk.cellAt (i := 0) (by simp [MV.cells]); have x1a := HSA.blk.cellAt (i := 1) (by simp [MV.cells]); have x2a := HSA.blk.cellAt (i := 2) (by simp [MV.cells]); have x3a := HSA.blk.cellAt (i := 3) (by simp [MV.cells]); have x4a := HSA.blk.cellAt (i := 4) (by simp [MV.cells]); have x5a := HSA.blk.cellAt (i := 5) (by simp [MV.cells]); have x6a := HSA.blk.cellAt (i := 6) (by simp [MV.cells]); simp [MV.cells] at x0a x1a x2a x3a x4a x5a x6a; have hha := blk_grown HBh.out hghp HSA.gr; have h0a := hha.cellAt (i := 0) (by simp); have h1a := hha.cellAt (i := 1) (by simp); simp at h0a h1a)
          | (go_at_call 57; refine (cN.out gq r wA HSA.own.rd).mono ?_; rintro e wB ⟨vB, hevB, heB, hoB⟩; obtain ⟨H2, ⟨B0, p0, j0⟩, ⟨B1, p1, j1⟩, ⟨B2, p2, j2⟩, ⟨B3, p3, j3⟩, d2, ⟨B4, p4, j4⟩⟩ := vB; simp only [MV.val, MV.cells] at hevB; subst hevB; have HSB := HSA.ext heB; have x0b := HSB.blk.cellAt (i := 0) (by simp [MV.cells]); have x1b := HSB.blk.cellAt (i := 1) (by simp [MV.cells]); have x2b := HSB.blk.cellAt (i := 2) (by simp [MV.cells]); have x3b := HSB.blk.cellAt (i := 3) (by simp [MV.cells]); have x4b := HSB.blk.cellAt (i := 4) (by simp [MV.cells]); have x5b := HSB.blk.cellAt (i := 5) (by simp [MV.cells]); have x6b := HSB.blk.cellAt (i := 6) (by simp [MV.cells]); simp [MV.cells] at x0b x1b x2b x3b x4b x5b x6b; have gf := HSB.blk.free; have gl := HSB.blk.lt; have hhb := blk_grown HBh.out hghp HSB.gr; have h0b := hhb.cellAt (i := 0) (by simp); have h1b := hhb.cellAt (i := 1) (by simp); simp at h0b h1b))
        all_goals (
          have HF := HSA.put heB hoB
          have HF2 := Lib.hid HF
          unfold set7 at HF2
          generalize (((((((wB.setCell ⟨g, 0, none⟩ (.int .i64 H2)).setCell ⟨g, 1, none⟩ (.slice B0 p0 j0)).setCell ⟨g, 2, none⟩ (.slice B1 p1 j1)).setCell ⟨g, 3, none⟩ (.slice B2 p2 j2)).setCell ⟨g, 4, none⟩ (.slice B3 p3 j3)).setCell ⟨g, 5, none⟩ (.int .i64 d2)).setCell ⟨g, 6, none⟩ (.slice B4 p4 j4)) = w9 at HF2 ⊢
          have HDM2 : Hid (DMus (guardM m gq r) (9 * ((k + 1 : Nat) : Int))) := Lib.hid ((HDM.out.guard gq r).mono (by push_cast; omega))
          have HmH2 : Hid ((guardM m gq r).H = H) := Lib.hid ((guard_same m gq r).1.trans HmH.out)
          have Hmd2 : Hid ((guardM m gq r).ds = ds) := Lib.hid ((guard_same m gq r).2.1.trans Hmd.out)
          clear HF
          go_wp2_with fail
          go_roundw
          case rel => exact ⟨k + 1, _, _, H2, B0, B1, B2, B3, B4, p0, j0, p1, j1, p2, j2, p3, j3, p4, j4, d2, _, by omega, by go_num, HDM2, HmH2, Hmd2, HF2⟩
          case measure => simp [intOf]; omega)
      · -- 3
        have hq0 : (q == 0) = false := by simp; omega
        have hq1 : (q == 1) = false := by simp; omega
        have hq2 : (q == 2) = false := by simp; omega
        have hq0b : ¬ q = 0 := by omega
        have hq1b : ¬ q = 1 := by omega
        have hq2b : ¬ q = 2 := by omega
        have hfit := fit_ok HSd.out.own hmm.out
        have cN := Lib.hid (fun (x : GMove) (W : World) (hR : MRd W ⟨H', ⟨A0, n0, k0⟩, ⟨A1, n1, k1⟩, ⟨A2, n2, k2⟩, ⟨A3, n3, k3⟩, d, ⟨A4, n4, k4⟩⟩ m) => (spec_NightMove ⟨H', ⟨A0, n0, k0⟩, ⟨A1, n1, k1⟩, ⟨A2, n2, k2⟩, ⟨A3, n3, k3⟩, d, ⟨A4, n4, k4⟩⟩ m x W hR hfit : Calls Tryd.prog 58 #[.agg #[.int .i64 H', .slice A0 n0 k0, .slice A1 n1 k1, .slice A2 n2 k2, .slice A3 n3 k3, .int .i64 d, .slice A4 n4 k4], .agg #[.int .i64 x.o, .int .i64 x.t, .int .i64 x.f, .int .i64 x.s]] W (MPost (nightM m x) (.bool (nightB m x)) W)))
        clear hfit
        have hSq := HSd.out.ext (Ext.refl wd).drew
        obtain ⟨e1, e2, e3, e4, e5⟩ := hSq.own.rd.lens
        simp only at e1 e2 e3 e4 e5
        have hnp := HDM.out.np
        have hng := HDM.out.ng
        have hll := museum_lens hmm.out
        have hDq := own_grown (own_weak HD2.out (show w.heap.size + 1 ≤ wa.heap.size by have := HPA.out; omega)) (by omega) hSq.gr
        have hlo := hSq.l1
        have cL := Lib.hid (spec_l35Move p H Ad nd cd ds A2 n2 k2 m.ps A3 n3 k3 m.gs wd.drew hSq.cu (Rd.of_own hDq) hSq.own.rd.rp hSq.own.rd.rg (fun _ b off e => by have := (hDq.lt b (by rw [e]; rfl)).1; omega) (fun _ b off e => by have := (hSq.own.op.lt b (by show (Value.slice A2 n2 k2).ownBlock = some b; rw [e]; rfl)).1; omega) (fun _ b off e => by have := (hSq.own.og.lt b (by show (Value.slice A3 n3 k3).ownBlock = some b; rw [e]; rfl)).1; omega) HHB.out (fun x hx => by have := museum_places hmm.out x hx; rw [HmH.out] at this; exact this) (by omega) (by omega) (by omega) (by omega))
        clear hDq hlo hll hnp hng e1 e2 e3 e4 e5
        have x0 := HSd.out.blk.cellAt (i := 0) (by simp [MV.cells])
        have x1 := HSd.out.blk.cellAt (i := 1) (by simp [MV.cells])
        have x2 := HSd.out.blk.cellAt (i := 2) (by simp [MV.cells])
        have x3 := HSd.out.blk.cellAt (i := 3) (by simp [MV.cells])
        have x4 := HSd.out.blk.cellAt (i := 4) (by simp [MV.cells])
        have x5 := HSd.out.blk.cellAt (i := 5) (by simp [MV.cells])
        have x6 := HSd.out.blk.cellAt (i := 6) (by simp [MV.cells])
        simp [MV.cells] at x0 x1 x2 x3 x4 x5 x6
        have hhe := blk_grown HBh.out hghp HSd.out.gr; have h0e := hhe.cellAt (i := 0) (by simp); have h1e := hhe.cellAt (i := 1) (by simp); simp at h0e h1e
        go_wp2_with fail
        go_region_with (first
          | (go_at_call 31; refine cL.out.mono ?_; rintro e wA ⟨x, rfl, hxm, hcA, hgA⟩; have HSA := hSq.draw hcA hgA; have x0a := HSA.blk.cellAt (i := 0) (by simp [MV.cells]); have x1a := HSA.blk.cellAt (i := 1) (by simp [MV.cells]); have x2a := HSA.blk.cellAt (i := 2) (by simp [MV.cells]); have x3a := HSA.blk.cellAt (i := 3) (by simp [MV.cells]); have x4a := HSA.blk.cellAt (i := 4) (by simp [MV.cells]); have x5a := HSA.blk.cellAt (i := 5) (by simp [MV.cells]); have x6a := HSA.blk.cellAt (i := 6) (by simp [MV.cells]); simp [MV.cells] at x0a x1a x2a x3a x4a x5a x6a; have hha := blk_grown HBh.out hghp HSA.gr; have h0a := hha.cellAt (i := 0) (by simp); have h1a := hha.cellAt (i := 1) (by simp); simp at h0a h1a)
          | (go_at_call 58; refine (cN.out x wA HSA.own.rd).mono ?_; rintro e wB ⟨vB, hevB, heB, hoB⟩; obtain ⟨H2, ⟨B0, p0, j0⟩, ⟨B1, p1, j1⟩, ⟨B2, p2, j2⟩, ⟨B3, p3, j3⟩, d2, ⟨B4, p4, j4⟩⟩ := vB; simp only [MV.val, MV.cells] at hevB; subst hevB; have HSB := HSA.ext heB; have x0b := HSB.blk.cellAt (i := 0) (by simp [MV.cells]); have x1b := HSB.blk.cellAt (i := 1) (by simp [MV.cells]); have x2b := HSB.blk.cellAt (i := 2) (by simp [MV.cells]); have x3b := HSB.blk.cellAt (i := 3) (by simp [MV.cells]); have x4b := HSB.blk.cellAt (i := 4) (by simp [MV.cells]); have x5b := HSB.blk.cellAt (i := 5) (by simp [MV.cells]); have x6b := HSB.blk.cellAt (i := 6) (by simp [MV.cells]); simp [MV.cells] at x0b x1b x2b x3b x4b x5b x6b; have gf := HSB.blk.free; have gl := HSB.blk.lt; have hhb := blk_grown HBh.out hghp HSB.gr; have h0b := hhb.cellAt (i := 0) (by simp); have h1b := hhb.cellAt (i := 1) (by simp); simp at h0b h1b))
        all_goals (
          have HF := HSA.put heB hoB
          have HF2 := Lib.hid HF
          unfold set7 at HF2
          generalize (((((((wB.setCell ⟨g, 0, none⟩ (.int .i64 H2)).setCell ⟨g, 1, none⟩ (.slice B0 p0 j0)).setCell ⟨g, 2, none⟩ (.slice B1 p1 j1)).setCell ⟨g, 3, none⟩ (.slice B2 p2 j2)).setCell ⟨g, 4, none⟩ (.slice B3 p3 j3)).setCell ⟨g, 5, none⟩ (.int .i64 d2)).setCell ⟨g, 6, none⟩ (.slice B4 p4 j4)) = w9 at HF2 ⊢
          have HDM2 : Hid (DMus (nightM m x) (9 * ((k + 1 : Nat) : Int))) := Lib.hid ((HDM.out.night x).mono (by push_cast; omega))
          have HmH2 : Hid ((nightM m x).H = H) := Lib.hid ((night_same m x).1.trans HmH.out)
          have Hmd2 : Hid ((nightM m x).ds = ds) := Lib.hid ((night_same m x).2.1.trans Hmd.out)
          clear HF
          go_wp2_with fail
          go_roundw
          case rel => exact ⟨k + 1, _, _, H2, B0, B1, B2, B3, B4, p0, j0, p1, j1, p2, j2, p3, j3, p4, j4, d2, _, by omega, by go_num, HDM2, HmH2, Hmd2, HF2⟩
          case measure => simp [intOf]; omega)
    · obtain rfl : k = n := by omega
      have hz2 := hghw
      have x0 := HSr.out.blk.cellAt (i := 0) (by simp [MV.cells])
      have x1 := HSr.out.blk.cellAt (i := 1) (by simp [MV.cells])
      have x2 := HSr.out.blk.cellAt (i := 2) (by simp [MV.cells])
      have x3 := HSr.out.blk.cellAt (i := 3) (by simp [MV.cells])
      have x4 := HSr.out.blk.cellAt (i := 4) (by simp [MV.cells])
      have x5 := HSr.out.blk.cellAt (i := 5) (by simp [MV.cells])
      have x6 := HSr.out.blk.cellAt (i := 6) (by simp [MV.cells])
      simp [MV.cells] at x0 x1 x2 x3 x4 x5 x6
      have Bz := blk_grown HB2.out (by omega) HSr.out.gr
      have z0 := Bz.cellAt (i := 0) (by simp [zeroV, MV.cells])
      have z1 := Bz.cellAt (i := 1) (by simp [zeroV, MV.cells])
      have z2 := Bz.cellAt (i := 2) (by simp [zeroV, MV.cells])
      have z3 := Bz.cellAt (i := 3) (by simp [zeroV, MV.cells])
      have z4 := Bz.cellAt (i := 4) (by simp [zeroV, MV.cells])
      have z5 := Bz.cellAt (i := 5) (by simp [zeroV, MV.cells])
      have z6 := Bz.cellAt (i := 6) (by simp [zeroV, MV.cells])
      simp [zeroV, MV.cells] at z0 z1 z2 z3 z4 z5 z6
      have zf := Bz.free
      have zl := Bz.lt
      go_wp2_with fail
      have F := HSr.out
      have hlo := F.l1
      obtain ⟨b6, kp⟩ := store7 (a0 := .int .i64 0) (a1 := .slice none 0 0) (a2 := .slice none 0 0) (a3 := .slice none 0 0) (a4 := .slice none 0 0) (a5 := .int .i64 0) (a6 := .slice none 0 0) Bz (.int .i64 H') (.slice A0 n0 k0) (.slice A1 n1 k1) (.slice A2 n2 k2) (.slice A3 n3 k3) (.int .i64 d) (.slice A4 n4 k4)
      have fo := F.own.out kp (by omega)
      have fc := cur7 F.cu hpw (.int .i64 H') (.slice A0 n0 k0) (.slice A1 n1 k1) (.slice A2 n2 k2) (.slice A3 n3 k3) (.int .i64 d) (.slice A4 n4 k4)
      have fg := grown7 (grown_trans HG2.out F.gr) (Nat.le_refl _) (.int .i64 H') (.slice A0 n0 k0) (.slice A1 n1 k1) (.slice A2 n2 k2) (.slice A3 n3 k3) (.int .i64 d) (.slice A4 n4 k4)
      unfold set7 at fc fg
      generalize (((((((wr.setCell ⟨w.heap.size, 0, none⟩ (.int .i64 H')).setCell ⟨w.heap.size, 1, none⟩ (.slice A0 n0 k0)).setCell ⟨w.heap.size, 2, none⟩ (.slice A1 n1 k1)).setCell ⟨w.heap.size, 3, none⟩ (.slice A2 n2 k2)).setCell ⟨w.heap.size, 4, none⟩ (.slice A3 n3 k3)).setCell ⟨w.heap.size, 5, none⟩ (.int .i64 d)).setCell ⟨w.heap.size, 6, none⟩ (.slice A4 n4 k4)) = w9 at b6 kp fo fc fg ⊢
      have t0 := b6.cellAt (i := 0) (by simp)
      have t1 := b6.cellAt (i := 1) (by simp)
      have t2 := b6.cellAt (i := 2) (by simp)
      have t3 := b6.cellAt (i := 3) (by simp)
      have t4 := b6.cellAt (i := 4) (by simp)
      have t5 := b6.cellAt (i := 5) (by simp)
      have t6 := b6.cellAt (i := 6) (by simp)
      simp only [List.getElem_toArray, List.getElem_cons_zero, List.getElem_cons_succ] at t0 t1 t2 t3 t4 t5 t6
      refine bodyPost_ret (v := MV.val ⟨H', ⟨A0, n0, k0⟩, ⟨A1, n1, k1⟩, ⟨A2, n2, k2⟩, ⟨A3, n3, k3⟩, d, ⟨A4, n4, k4⟩⟩) (by simp [results, Tryd.results41, go_sem, t0, t1, t2, t3, t4, t5, t6, MV.val, MV.cells]) rfl ?_
      exact ⟨_, m, rfl, fo.weak (by omega), HDM.out.mono (by omega), fc, fg⟩
end Go.Proofs.YtfhibjehnoibeaaDoor
/- The drawing of an act; no condition but what stands at each theorem. -/
namespace Go.Proofs.YtfhibjehnoibeaaDoor
set_option linter.unusedSimpArgs false
set_option linter.unusedVariables false
open Go.RowKit Go.Sort
/-- A valid act has been drawn. -/
def DrawnAct (p : Nat) (w : World) (e : Ending) (w' : World) : Prop := ∃ a : GAct, e = .returned (.agg #[.int .i64 a.k, .int .i64 a.a, .int .i64 a.b, .int .i64 a.c, .int .i64 a.d]) ∧ acOk a = true ∧ Cur w' p ∧ w.grownBy w' (some p)
theorem drawnA {p : Nat} {w w' : World} {k a b c d : Int} (h : acOk ⟨k, a, b, c, d⟩ = true) (hc : Cur w' p) (hg : w.grownBy w' (some p)) : DrawnAct p w (.returned (.agg #[.int .i64 k, .int .i64 a, .int .i64 b, .int .i64 c, .int .i64 d])) w' := ⟨⟨k, a, b, c, d⟩, rfl, h, hc, hg⟩
theorem set5_cur {W : World} {p g : Nat} (h : Cur W p) (hq : p < g) (u0 u1 u2 u3 u4 : Value) : Cur (set5 W g u0 u1 u2 u3 u4) p := by
  unfold set5; exact cur_far (cur_far (cur_far (cur_far (cur_far h hq _) hq _) hq _) hq _) hq _
theorem set5_grown {w W : World} {row : Option Nat} {g : Nat} (h : w.grownBy W row) (hq : w.heap.size ≤ g) (u0 u1 u2 u3 u4 : Value) : w.grownBy (set5 W g u0 u1 u2 u3 u4) row := by
  unfold set5; exact grown_fresh (grown_fresh (grown_fresh (grown_fresh (grown_fresh h hq _) hq _) hq _) hq _) hq _
set_option maxRecDepth 100000 in
set_option maxHeartbeats 2000000 in
theorem spec_l39Act (p : Nat) (w : World) (hc : Cur w p) : Calls Tryd.prog 42 #[.pointer (some ⟨p, 0, none⟩)] w (DrawnAct p w) := by
  have hp := hc.lt
  obtain ⟨wa, hwa⟩ : ∃ wa, wa = w.alloc (.cells #[.int .i64 0, .int .i64 0, .int .i64 0, .int .i64 0, .int .i64 0] 37) := ⟨_, rfl⟩
  have hB : Blk wa w.heap.size 37 #[.int .i64 0, .int .i64 0, .int .i64 0, .int .i64 0, .int .i64 0] := by rw [hwa]; exact Blk.new _ _ _
  have hca : Cur wa p := by rw [hwa]; exact cur_alloc hc _
  have hga : w.grownBy wa (some p) := by rw [hwa]; exact grown_alloc (grown_refl _ _) _
  have Hwa := Lib.hid hwa
  have HB0 := Lib.hid hB
  have HG0 := Lib.hid hga
  have cA := Lib.hid (spec_l01Below p 8 wa hca)
  clear hwa hB hga hca hc
  go_enter Tryd.func42, Tryd.ntmps42
  go_wp2_with (go_at_call 30; refine (fun h : Hid _ => h.out) ?_)
  unfold Hid
  rw [← Hwa.out]
  refine cA.out.mono ?_
  rintro e w1 ⟨r, rfl, hr0, hr1, hc1, hg1⟩
  have HB1 := Lib.hid (blk_grown HB0.out (by omega) hg1)
  have HG1 := Lib.hid (grown_trans HG0.out hg1)
  have HC1 := Lib.hid hc1
  clear hg1 hc1 cA
  by_cases q0 : r = 0
  · subst q0
    go_wp2_with (go_at_call 30; refine (fun h : Hid _ => h.out) ?_)
    unfold Hid
    refine (spec_l01Below p _ _ HC1.out).mono ?_
    rintro e w2 ⟨a, rfl, a0, a1, hc2, hg2⟩
    have HB2 := Lib.hid (blk_grown HB1.out (by omega) hg2)
    have HG2 := Lib.hid (grown_trans HG1.out hg2)
    have HC2 := Lib.hid hc2
    clear hg2 hc2
    go_wp2_with (go_at_call 30; refine (fun h : Hid _ => h.out) ?_)
    unfold Hid
    refine (spec_l01Below p _ _ HC2.out).mono ?_
    rintro e w3 ⟨b, rfl, b0, b1, hc3, hg3⟩
    have HB3 := Lib.hid (blk_grown HB2.out (by omega) hg3)
    have HG3 := Lib.hid (grown_trans HG2.out hg3)
    have HC3 := Lib.hid hc3
    clear hg3 hc3
    have c0 : w3.cell? ⟨w.heap.size, 0, none⟩ = some (.int .i64 0) := HB3.out.cell 0
    have c1 : w3.cell? ⟨w.heap.size, 1, none⟩ = some (.int .i64 0) := HB3.out.cell 1
    have c2 : w3.cell? ⟨w.heap.size, 2, none⟩ = some (.int .i64 0) := HB3.out.cell 2
    have c3 : w3.cell? ⟨w.heap.size, 3, none⟩ = some (.int .i64 0) := HB3.out.cell 3
    have c4 : w3.cell? ⟨w.heap.size, 4, none⟩ = some (.int .i64 0) := HB3.out.cell 4
    have fz : ∀ o, w3.frozen? ⟨w.heap.size, o, none⟩ = false := fun o => HB3.out.free o
    go_wp2_with fail
    obtain ⟨WF, hWF⟩ : ∃ WF, WF = set5 w3 w.heap.size (.int .i64 (1)) (.int .i64 (a)) (.int .i64 (b)) (.int .i64 (0)) (.int .i64 (0)) := ⟨_, rfl⟩
    have FB := set5_blk HB3.out (.int .i64 (1)) (.int .i64 (a)) (.int .i64 (b)) (.int .i64 (0)) (.int .i64 (0))
    have FC := set5_cur HC3.out hp (.int .i64 (1)) (.int .i64 (a)) (.int .i64 (b)) (.int .i64 (0)) (.int .i64 (0))
    have FG := set5_grown HG3.out (Nat.le_refl _) (.int .i64 (1)) (.int .i64 (a)) (.int .i64 (b)) (.int .i64 (0)) (.int .i64 (0))
    rw [← hWF] at FB FC FG
    unfold set5 at hWF
    rw [← hWF]
    clear hWF c0 c1 c2 c3 c4 fz
    have y0 := FB.cell 0
    have y1 := FB.cell 1
    have y2 := FB.cell 2
    have y3 := FB.cell 3
    have y4 := FB.cell 4
    refine bodyPost_ret (v := .agg #[.int .i64 (1), .int .i64 (a), .int .i64 (b), .int .i64 (0), .int .i64 (0)]) (by simp [results, Tryd.results42, go_sem, y0, y1, y2, y3, y4]) rfl (drawnA ?_ FC FG)
    simp [acOk, inB] <;> omega
  by_cases q1 : r = 1
  · subst q1
    go_wp2_with (go_at_call 30; refine (fun h : Hid _ => h.out) ?_)
    unfold Hid
    refine (spec_l01Below p _ _ HC1.out).mono ?_
    rintro e w2 ⟨a, rfl, a0, a1, hc2, hg2⟩
    have HB2 := Lib.hid (blk_grown HB1.out (by omega) hg2)
    have HG2 := Lib.hid (grown_trans HG1.out hg2)
    have HC2 := Lib.hid hc2
    clear hg2 hc2
    go_wp2_with (go_at_call 30; refine (fun h : Hid _ => h.out) ?_)
    unfold Hid
    refine (spec_l01Below p _ _ HC2.out).mono ?_
    rintro e w3 ⟨b, rfl, b0, b1, hc3, hg3⟩
    have HB3 := Lib.hid (blk_grown HB2.out (by omega) hg3)
    have HG3 := Lib.hid (grown_trans HG2.out hg3)
    have HC3 := Lib.hid hc3
    clear hg3 hc3
    have c0 : w3.cell? ⟨w.heap.size, 0, none⟩ = some (.int .i64 0) := HB3.out.cell 0
    have c1 : w3.cell? ⟨w.heap.size, 1, none⟩ = some (.int .i64 0) := HB3.out.cell 1
    have c2 : w3.cell? ⟨w.heap.size, 2, none⟩ = some (.int .i64 0) := HB3.out.cell 2
    have c3 : w3.cell? ⟨w.heap.size, 3, none⟩ = some (.int .i64 0) := HB3.out.cell 3
    have c4 : w3.cell? ⟨w.heap.size, 4, none⟩ = some (.int .i64 0) := HB3.out.cell 4
    have fz : ∀ o, w3.frozen? ⟨w.heap.size, o, none⟩ = false := fun o => HB3.out.free o
    go_wp2_with fail
    obtain ⟨WF, hWF⟩ : ∃ WF, WF = set5 w3 w.heap.size (.int .i64 (1)) (.int .i64 (a)) (.int .i64 (b)) (.int .i64 (0)) (.int .i64 (0)) := ⟨_, rfl⟩
    have FB := set5_blk HB3.out (.int .i64 (1)) (.int .i64 (a)) (.int .i64 (b)) (.int .i64 (0)) (.int .i64 (0))
    have FC := set5_cur HC3.out hp (.int .i64 (1)) (.int .i64 (a)) (.int .i64 (b)) (.int .i64 (0)) (.int .i64 (0))
    have FG := set5_grown HG3.out (Nat.le_refl _) (.int .i64 (1)) (.int .i64 (a)) (.int .i64 (b)) (.int .i64 (0)) (.int .i64 (0))
    rw [← hWF] at FB FC FG
    unfold set5 at hWF
    rw [← hWF]
    clear hWF c0 c1 c2 c3 c4 fz
    have y0 := FB.cell 0
    have y1 := FB.cell 1
    have y2 := FB.cell 2
    have y3 := FB.cell 3
    have y4 := FB.cell 4
    refine bodyPost_ret (v := .agg #[.int .i64 (1), .int .i64 (a), .int .i64 (b), .int .i64 (0), .int .i64 (0)]) (by simp [results, Tryd.results42, go_sem, y0, y1, y2, y3, y4]) rfl (drawnA ?_ FC FG)
    simp [acOk, inB] <;> omega
  by_cases q2 : r = 2
  · subst q2
    go_wp2_with (go_at_call 30; refine (fun h : Hid _ => h.out) ?_)
    unfold Hid
    refine (spec_l01Below p _ _ HC1.out).mono ?_
    rintro e w2 ⟨a, rfl, a0, a1, hc2, hg2⟩
    have HB2 := Lib.hid (blk_grown HB1.out (by omega) hg2)
    have HG2 := Lib.hid (grown_trans HG1.out hg2)
    have HC2 := Lib.hid hc2
    clear hg2 hc2
    have c0 : w2.cell? ⟨w.heap.size, 0, none⟩ = some (.int .i64 0) := HB2.out.cell 0
    have c1 : w2.cell? ⟨w.heap.size, 1, none⟩ = some (.int .i64 0) := HB2.out.cell 1
    have c2 : w2.cell? ⟨w.heap.size, 2, none⟩ = some (.int .i64 0) := HB2.out.cell 2
    have c3 : w2.cell? ⟨w.heap.size, 3, none⟩ = some (.int .i64 0) := HB2.out.cell 3
    have c4 : w2.cell? ⟨w.heap.size, 4, none⟩ = some (.int .i64 0) := HB2.out.cell 4
    have fz : ∀ o, w2.frozen? ⟨w.heap.size, o, none⟩ = false := fun o => HB2.out.free o
    go_wp2_with fail
    obtain ⟨WF, hWF⟩ : ∃ WF, WF = set5 w2 w.heap.size (.int .i64 (3)) (.int .i64 (1 + a)) (.int .i64 (0)) (.int .i64 (0)) (.int .i64 (0)) := ⟨_, rfl⟩
    have FB := set5_blk HB2.out (.int .i64 (3)) (.int .i64 (1 + a)) (.int .i64 (0)) (.int .i64 (0)) (.int .i64 (0))
    have FC := set5_cur HC2.out hp (.int .i64 (3)) (.int .i64 (1 + a)) (.int .i64 (0)) (.int .i64 (0)) (.int .i64 (0))
    have FG := set5_grown HG2.out (Nat.le_refl _) (.int .i64 (3)) (.int .i64 (1 + a)) (.int .i64 (0)) (.int .i64 (0)) (.int .i64 (0))
    rw [← hWF] at FB FC FG
    unfold set5 at hWF
    rw [← hWF]
    clear hWF c0 c1 c2 c3 c4 fz
    have y0 := FB.cell 0
    have y1 := FB.cell 1
    have y2 := FB.cell 2
    have y3 := FB.cell 3
    have y4 := FB.cell 4
    refine bodyPost_ret (v := .agg #[.int .i64 (3), .int .i64 (1 + a), .int .i64 (0), .int .i64 (0), .int .i64 (0)]) (by simp [results, Tryd.results42, go_sem, y0, y1, y2, y3, y4]) rfl (drawnA ?_ FC FG)
    simp [acOk, inB] <;> omega
  by_cases q3 : r = 3
  · subst q3
    have c0 : w1.cell? ⟨w.heap.size, 0, none⟩ = some (.int .i64 0) := HB1.out.cell 0
    have c1 : w1.cell? ⟨w.heap.size, 1, none⟩ = some (.int .i64 0) := HB1.out.cell 1
    have c2 : w1.cell? ⟨w.heap.size, 2, none⟩ = some (.int .i64 0) := HB1.out.cell 2
    have c3 : w1.cell? ⟨w.heap.size, 3, none⟩ = some (.int .i64 0) := HB1.out.cell 3
    have c4 : w1.cell? ⟨w.heap.size, 4, none⟩ = some (.int .i64 0) := HB1.out.cell 4
    have fz : ∀ o, w1.frozen? ⟨w.heap.size, o, none⟩ = false := fun o => HB1.out.free o
    go_wp2_with fail
    obtain ⟨WF, hWF⟩ : ∃ WF, WF = set5 w1 w.heap.size (.int .i64 (4)) (.int .i64 (0)) (.int .i64 (0)) (.int .i64 (0)) (.int .i64 (0)) := ⟨_, rfl⟩
    have FB := set5_blk HB1.out (.int .i64 (4)) (.int .i64 (0)) (.int .i64 (0)) (.int .i64 (0)) (.int .i64 (0))
    have FC := set5_cur HC1.out hp (.int .i64 (4)) (.int .i64 (0)) (.int .i64 (0)) (.int .i64 (0)) (.int .i64 (0))
    have FG := set5_grown HG1.out (Nat.le_refl _) (.int .i64 (4)) (.int .i64 (0)) (.int .i64 (0)) (.int .i64 (0)) (.int .i64 (0))
    rw [← hWF] at FB FC FG
    unfold set5 at hWF
    rw [← hWF]
    clear hWF c0 c1 c2 c3 c4 fz
    have y0 := FB.cell 0
    have y1 := FB.cell 1
    have y2 := FB.cell 2
    have y3 := FB.cell 3
    have y4 := FB.cell 4
    refine bodyPost_ret (v := .agg #[.int .i64 (4), .int .i64 (0), .int .i64 (0), .int .i64 (0), .int .i64 (0)]) (by simp [results, Tryd.results42, go_sem, y0, y1, y2, y3, y4]) rfl (drawnA ?_ FC FG)
    simp [acOk, inB] <;> omega
  by_cases q4 : r = 4
  · subst q4
    go_wp2_with (go_at_call 30; refine (fun h : Hid _ => h.out) ?_)
    unfold Hid
    refine (spec_l01Below p _ _ HC1.out).mono ?_
    rintro e w2 ⟨a, rfl, a0, a1, hc2, hg2⟩
    have HB2 := Lib.hid (blk_grown HB1.out (by omega) hg2)
    have HG2 := Lib.hid (grown_trans HG1.out hg2)
    have HC2 := Lib.hid hc2
    clear hg2 hc2
    have c0 : w2.cell? ⟨w.heap.size, 0, none⟩ = some (.int .i64 0) := HB2.out.cell 0
    have c1 : w2.cell? ⟨w.heap.size, 1, none⟩ = some (.int .i64 0) := HB2.out.cell 1
    have c2 : w2.cell? ⟨w.heap.size, 2, none⟩ = some (.int .i64 0) := HB2.out.cell 2
    have c3 : w2.cell? ⟨w.heap.size, 3, none⟩ = some (.int .i64 0) := HB2.out.cell 3
    have c4 : w2.cell? ⟨w.heap.size, 4, none⟩ = some (.int .i64 0) := HB2.out.cell 4
    have fz : ∀ o, w2.frozen? ⟨w.heap.size, o, none⟩ = false := fun o => HB2.out.free o
    go_wp2_with fail
    obtain ⟨WF, hWF⟩ : ∃ WF, WF = set5 w2 w.heap.size (.int .i64 (5)) (.int .i64 (a)) (.int .i64 (0)) (.int .i64 (0)) (.int .i64 (0)) := ⟨_, rfl⟩
    have FB := set5_blk HB2.out (.int .i64 (5)) (.int .i64 (a)) (.int .i64 (0)) (.int .i64 (0)) (.int .i64 (0))
    have FC := set5_cur HC2.out hp (.int .i64 (5)) (.int .i64 (a)) (.int .i64 (0)) (.int .i64 (0)) (.int .i64 (0))
    have FG := set5_grown HG2.out (Nat.le_refl _) (.int .i64 (5)) (.int .i64 (a)) (.int .i64 (0)) (.int .i64 (0)) (.int .i64 (0))
    rw [← hWF] at FB FC FG
    unfold set5 at hWF
    rw [← hWF]
    clear hWF c0 c1 c2 c3 c4 fz
    have y0 := FB.cell 0
    have y1 := FB.cell 1
    have y2 := FB.cell 2
    have y3 := FB.cell 3
    have y4 := FB.cell 4
    refine bodyPost_ret (v := .agg #[.int .i64 (5), .int .i64 (a), .int .i64 (0), .int .i64 (0), .int .i64 (0)]) (by simp [results, Tryd.results42, go_sem, y0, y1, y2, y3, y4]) rfl (drawnA ?_ FC FG)
    simp [acOk, inB] <;> omega
  have g0 : (r == 0) = false := beq_false_of_ne q0
  have g1 : (r == 1) = false := beq_false_of_ne q1
  have g2 : (r == 2) = false := beq_false_of_ne q2
  have g3 : (r == 3) = false := beq_false_of_ne q3
  have g4 : (r == 4) = false := beq_false_of_ne q4
  clear q0 q1 q2 q3 q4
  go_wp2_with (go_at_call 30; refine (fun h : Hid _ => h.out) ?_)
  unfold Hid
  refine (spec_l01Below p _ _ HC1.out).mono ?_
  rintro e w2 ⟨a, rfl, a0, a1, hc2, hg2⟩
  have HB2 := Lib.hid (blk_grown HB1.out (by omega) hg2)
  have HG2 := Lib.hid (grown_trans HG1.out hg2)
  have HC2 := Lib.hid hc2
  clear hg2 hc2
  go_wp2_with (go_at_call 30; refine (fun h : Hid _ => h.out) ?_)
  unfold Hid
  refine (spec_l01Below p _ _ HC2.out).mono ?_
  rintro e w3 ⟨b, rfl, b0, b1, hc3, hg3⟩
  have HB3 := Lib.hid (blk_grown HB2.out (by omega) hg3)
  have HG3 := Lib.hid (grown_trans HG2.out hg3)
  have HC3 := Lib.hid hc3
  clear hg3 hc3
  go_wp2_with (go_at_call 30; refine (fun h : Hid _ => h.out) ?_)
  unfold Hid
  refine (spec_l01Below p _ _ HC3.out).mono ?_
  rintro e w4 ⟨c, rfl, c0, c1, hc4, hg4⟩
  have HB4 := Lib.hid (blk_grown HB3.out (by omega) hg4)
  have HG4 := Lib.hid (grown_trans HG3.out hg4)
  have HC4 := Lib.hid hc4
  clear hg4 hc4
  go_wp2_with (go_at_call 30; refine (fun h : Hid _ => h.out) ?_)
  unfold Hid
  refine (spec_l01Below p _ _ HC4.out).mono ?_
  rintro e w5 ⟨d, rfl, d0, d1, hc5, hg5⟩
  have HB5 := Lib.hid (blk_grown HB4.out (by omega) hg5)
  have HG5 := Lib.hid (grown_trans HG4.out hg5)
  have HC5 := Lib.hid hc5
  clear hg5 hc5
  have c0 : w5.cell? ⟨w.heap.size, 0, none⟩ = some (.int .i64 0) := HB5.out.cell 0
  have c1 : w5.cell? ⟨w.heap.size, 1, none⟩ = some (.int .i64 0) := HB5.out.cell 1
  have c2 : w5.cell? ⟨w.heap.size, 2, none⟩ = some (.int .i64 0) := HB5.out.cell 2
  have c3 : w5.cell? ⟨w.heap.size, 3, none⟩ = some (.int .i64 0) := HB5.out.cell 3
  have c4 : w5.cell? ⟨w.heap.size, 4, none⟩ = some (.int .i64 0) := HB5.out.cell 4
  have fz : ∀ o, w5.frozen? ⟨w.heap.size, o, none⟩ = false := fun o => HB5.out.free o
  go_wp2_with fail
  obtain ⟨WF, hWF⟩ : ∃ WF, WF = set5 w5 w.heap.size (.int .i64 (2)) (.int .i64 (a)) (.int .i64 (b)) (.int .i64 (c)) (.int .i64 (d)) := ⟨_, rfl⟩
  have FB := set5_blk HB5.out (.int .i64 (2)) (.int .i64 (a)) (.int .i64 (b)) (.int .i64 (c)) (.int .i64 (d))
  have FC := set5_cur HC5.out hp (.int .i64 (2)) (.int .i64 (a)) (.int .i64 (b)) (.int .i64 (c)) (.int .i64 (d))
  have FG := set5_grown HG5.out (Nat.le_refl _) (.int .i64 (2)) (.int .i64 (a)) (.int .i64 (b)) (.int .i64 (c)) (.int .i64 (d))
  rw [← hWF] at FB FC FG
  unfold set5 at hWF
  rw [← hWF]
  clear hWF c0 c1 c2 c3 c4 fz
  have y0 := FB.cell 0
  have y1 := FB.cell 1
  have y2 := FB.cell 2
  have y3 := FB.cell 3
  have y4 := FB.cell 4
  refine bodyPost_ret (v := .agg #[.int .i64 (2), .int .i64 (a), .int .i64 (b), .int .i64 (c), .int .i64 (d)]) (by simp [results, Tryd.results42, go_sem, y0, y1, y2, y3, y4]) rfl (drawnA ?_ FC FG)
  simp [acOk, inB] <;> omega
end Go.Proofs.YtfhibjehnoibeaaDoor
/- The drawing of a list of acts; no condition but what stands at each theorem. -/
namespace Go.Proofs.YtfhibjehnoibeaaDoor
set_option linter.unusedSimpArgs false
set_option linter.unusedVariables false
open Go.RowKit Go.Sort
theorem ei_ActD : EI Tryd.prog 31 37 5 := ei_of Tryd.underlying31 (by omega) (by kernel_rfl)
theorem one_GActD (x : GAct) : ∀ u ∈ x.enc, u.oneCell' = true := by
  intro u hu
  simp [GAct.enc] at hu
  rcases hu with rfl | rfl | rfl | rfl | rfl <;> rfl
/-- Valid acts have been drawn, a row of the call's own. -/
def DrawnActs (p : Nat) (w : World) (e : Ending) (w' : World) : Prop := ∃ (v : Value) (xs : List GAct), e = .returned v ∧ w'.ownsRow w.heap.size 37 5 v xs.length (xs.flatMap GAct.enc) ∧ xs.length ≤ 21 ∧ (∀ x ∈ xs, acOk x = true) ∧ Cur w' p ∧ w.grownBy w' (some p)
set_option maxRecDepth 100000 in
set_option maxHeartbeats 2000000 in
theorem spec_l39List (p : Nat) (w : World) (hc : Cur w p) : Calls Tryd.prog 22 #[.pointer (some ⟨p, 0, none⟩)] w (DrawnActs p w) := by
  have hp := hc.lt
  obtain ⟨wa, hwa⟩ : ∃ wa, wa = w.alloc (.cells #[] 37) := ⟨_, rfl⟩
  have hca : Cur wa p := by rw [hwa]; exact cur_alloc hc _
  have hga : w.grownBy wa (some p) := by rw [hwa]; exact grown_alloc (grown_refl _ _) _
  have hoa : wa.ownsRow w.heap.size 37 5 (.slice (some ⟨w.heap.size, 0, none⟩) 0 0) 0 (([] : List GAct).flatMap GAct.enc) := by rw [hwa]; exact own_empty w w.heap.size 37 5 (Nat.le_refl _)
  have Hwa := Lib.hid hwa
  have HOa := Lib.hid hoa
  have HGa := Lib.hid hga
  have cA := Lib.hid (spec_l01Below p 22 wa hca)
  clear hwa hoa hga hca hc
  go_enter Tryd.func22, Tryd.ntmps22
  go_wp2_with (go_at_call 30; refine (fun h : Hid _ => h.out) ?_)
  unfold Hid
  rw [← Hwa.out]
  refine cA.out.mono ?_
  rintro e w2 ⟨q, rfl, hq0, hq1, hc2, hg2⟩
  have HO2 := Lib.hid (own_grown HOa.out hp hg2)
  have HG2 := Lib.hid (grown_trans HGa.out hg2)
  have HC2 := Lib.hid hc2
  obtain ⟨n, rfl⟩ := Int.eq_ofNat_of_zero_le hq0
  have hn21 : n ≤ 21 := by omega
  clear hg2 hc2 hq0 hq1 cA
  go_wp2_with fail
  go_loopw [3, 5] (fun ov iv wr => ∃ (k : Nat) (L : List GAct), k ≤ n ∧ iv = .int .i64 k ∧ Hid (L.length = k) ∧ Hid (∀ x ∈ L, acOk x = true) ∧ Hid (wr.ownsRow w.heap.size 37 5 ov L.length (L.flatMap GAct.enc)) ∧ Hid (Cur wr p) ∧ Hid (w.grownBy wr (some p))) (fun _ iv _ => n - (intOf iv).toNat)
  case atStart => exact ⟨0, [], by omega, rfl, Lib.hid rfl, Lib.hid (fun x hx => by cases hx), HO2, HC2, HG2⟩
  case round =>
    obtain ⟨k, L, hk, rfl, hLk, hLm, hown, hcr, hgr⟩ := hrel
    by_cases hlt : k < n
    · go_wp2_with (go_at_call 42; refine (fun h : Hid _ => h.out) ?_)
      unfold Hid
      refine (spec_l39Act p _ hcr.out).mono ?_
      rintro e w5 ⟨a, rfl, hok, hc5, hg5⟩
      obtain ⟨w4, hw4⟩ : ∃ w4, w4 = w5.alloc (.cells #[.int .i64 a.k, .int .i64 a.a, .int .i64 a.b, .int .i64 a.c, .int .i64 a.d] 37) := ⟨_, rfl⟩
      have he4 : Ext w5 w4 := by rw [hw4]; exact (Ext.refl _).alloc _
      have HO5 := Lib.hid (own_keep (own_grown hown.out hp hg5) he4)
      have HG5 : Hid (w.grownBy w4 (some p)) := Lib.hid (by rw [hw4]; exact grown_alloc (grown_trans hgr.out hg5) _)
      have HC5 : Hid (Cur w4 p) := Lib.hid (by rw [hw4]; exact cur_alloc hc5 _)
      have HW4 := Lib.hid hw4
      have HOK := Lib.hid hok
      have hsz : w.heap.size ≤ w4.heap.size := HG5.out.size
      have hLl : L.length ≤ 21 := by have := hLk.out; omega
      clear hg5 hc5 hok hw4 he4
      go_wp2_with (at_builtin; refine (fun h : Hid _ => h.out) ?_)
      unfold Hid
      rw [← HW4.out]
      refine append1g ei_ActD rfl _ _ rfl w.heap.size w4 _ _ L.length _ (by rfl) HO5.out a.enc (by rw [HW4.out, heap_size_allocN]; rfl) rfl (one_GActD a) (by omega) hsz ?_
      intro v6 w6 row ho6 hg6 hr6
      have HO6 := Lib.hid ho6
      have HC6 := Lib.hid (cur_grown HC5.out hg6 (fun q hq => by have := hr6 q hq; omega))
      have HG6 := Lib.hid (grown_over HG5.out hg6 (fun q hq => hr6 q hq))
      clear ho6 hg6 hr6
      go_wp2_with fail
      go_roundw
      case rel => exact ⟨k + 1, L ++ [a], by omega, by go_num, Lib.hid (by have := hLk.out; simp; omega), Lib.hid (fun x hx => by
        rcases List.mem_append.1 hx with hx | hx
        · exact hLm.out x hx
        · rw [List.mem_singleton] at hx; subst hx; exact HOK.out), by unfold Hid; rw [List.length_append, List.flatMap_append]; simpa using HO6.out, HC6, HG6⟩
      case measure => simp [intOf] <;> omega
    · go_wp2_with fail
      go_ret
      exact ⟨_, L, rfl, hown.out, by have := hLk.out; omega, hLm.out, hcr.out, hgr.out⟩
end Go.Proofs.YtfhibjehnoibeaaDoor
/- The drawing of a museum and of acts from a code; no condition but what stands at each theorem. -/
namespace Go.Proofs.YtfhibjehnoibeaaDoor
set_option linter.unusedSimpArgs false
set_option linter.unusedVariables false
open Go.RowKit Go.Sort
theorem sample_dm : DMus sampleM 0 :=
  (new_ok (H := 4) (ds := [⟨0, 1⟩, ⟨0, 2⟩, ⟨1, 3⟩, ⟨2, 3⟩]) (ps := [0, 0]) (gs := [0, 0, 3]) (by kernel_rfl) (by simp) (by simp) (by intro x hx; simp at hx; omega) (by intro x hx; simp at hx; omega) (by simp) (by simp)).1
set_option maxRecDepth 100000 in
set_option maxHeartbeats 4000000 in
theorem spec_l39Museum (p : Nat) (w : World) (hc : Cur w p) : Calls Tryd.prog 21 #[.pointer (some ⟨p, 0, none⟩)] w (DrawnMuseum p w) := by
  have hpw := hc.lt
  obtain ⟨wa, hwa⟩ : ∃ wa, wa = w.alloc (.cells #[.int .i64 0, .slice none 0 0, .slice none 0 0, .slice none 0 0, .slice none 0 0, .int .i64 0, .slice none 0 0] 30) := ⟨_, rfl⟩
  have hBa : Blk wa w.heap.size 30 zeroV.cells := by rw [hwa]; exact Blk.new _ _ _
  have hca : Cur wa p := by rw [hwa]; exact cur_alloc hc _
  have hga : w.grownBy wa (some p) := by rw [hwa]; exact grown_alloc (grown_refl _ _) _
  have hsa : wa.heap.size = w.heap.size + 1 := by rw [hwa]; simp
  have Hwa := Lib.hid hwa
  have HBa := Lib.hid hBa
  have HCa := Lib.hid hca
  have HGa := Lib.hid hga
  clear hwa hBa hca hga hc
  go_enter Tryd.func21, Tryd.ntmps21
  go_wp2_with (go_at_call 39; refine (fun h : Hid _ => h.out) ?_)
  unfold Hid
  rw [← Hwa.out]
  refine (spec_l01Once p _ _ HCa.out).mono ?_
  rintro e w1 ⟨b, rfl, hc1, hg1⟩
  have hz1 := hg1.size
  have HB1 := Lib.hid (blk_grown HBa.out (by omega) hg1)
  have HG1 := Lib.hid (grown_trans HGa.out hg1)
  have HC1 := Lib.hid hc1
  clear hg1 hc1 HBa HGa HCa
  cases b
  · go_wp2_with (go_at_call 41; refine (fun h : Hid _ => h.out) ?_)
    unfold Hid
    refine (spec_l38Museum p _ HC1.out).mono ?_
    rintro e w2 ⟨v, m, hev, ho, hdm, hc2, hg2⟩
    have HB2 := Lib.hid (blk_grown HB1.out (by omega) hg2)
    have HG2 := Lib.hid (grown_trans HG1.out hg2)
    have HC2 := Lib.hid hc2
    have HO2 := Lib.hid ho
    have HDM := Lib.hid hdm
    clear hg2 hc2 ho hdm
    obtain ⟨H', ⟨A0, n0, k0⟩, ⟨A1, n1, k1⟩, ⟨A2, n2, k2⟩, ⟨A3, n3, k3⟩, d, ⟨A4, n4, k4⟩⟩ := v
    simp only [MV.val, MV.cells] at hev
    subst hev
    have z0 := HB2.out.cellAt (i := 0) (by simp [zeroV, MV.cells])
    have z1 := HB2.out.cellAt (i := 1) (by simp [zeroV, MV.cells])
    have z2 := HB2.out.cellAt (i := 2) (by simp [zeroV, MV.cells])
    have z3 := HB2.out.cellAt (i := 3) (by simp [zeroV, MV.cells])
    have z4 := HB2.out.cellAt (i := 4) (by simp [zeroV, MV.cells])
    have z5 := HB2.out.cellAt (i := 5) (by simp [zeroV, MV.cells])
    have z6 := HB2.out.cellAt (i := 6) (by simp [zeroV, MV.cells])
    simp [zeroV, MV.cells] at z0 z1 z2 z3 z4 z5 z6
    have zf := HB2.out.free
    have zl := HB2.out.lt
    go_wp2_with fail
    obtain ⟨b6, kp⟩ := store7 (a0 := .int .i64 0) (a1 := .slice none 0 0) (a2 := .slice none 0 0) (a3 := .slice none 0 0) (a4 := .slice none 0 0) (a5 := .int .i64 0) (a6 := .slice none 0 0) HB2.out (.int .i64 H') (.slice A0 n0 k0) (.slice A1 n1 k1) (.slice A2 n2 k2) (.slice A3 n3 k3) (.int .i64 d) (.slice A4 n4 k4)
    have fo := HO2.out.out kp (by omega)
    have fc := cur7 HC2.out hpw (.int .i64 H') (.slice A0 n0 k0) (.slice A1 n1 k1) (.slice A2 n2 k2) (.slice A3 n3 k3) (.int .i64 d) (.slice A4 n4 k4)
    have fg := grown7 HG2.out (Nat.le_refl _) (.int .i64 H') (.slice A0 n0 k0) (.slice A1 n1 k1) (.slice A2 n2 k2) (.slice A3 n3 k3) (.int .i64 d) (.slice A4 n4 k4)
    unfold set7 at fc fg
    generalize (((((((w2.setCell ⟨w.heap.size, 0, none⟩ (.int .i64 H')).setCell ⟨w.heap.size, 1, none⟩ (.slice A0 n0 k0)).setCell ⟨w.heap.size, 2, none⟩ (.slice A1 n1 k1)).setCell ⟨w.heap.size, 3, none⟩ (.slice A2 n2 k2)).setCell ⟨w.heap.size, 4, none⟩ (.slice A3 n3 k3)).setCell ⟨w.heap.size, 5, none⟩ (.int .i64 d)).setCell ⟨w.heap.size, 6, none⟩ (.slice A4 n4 k4)) = w9 at b6 kp fo fc fg ⊢
    have t0 := b6.cellAt (i := 0) (by simp)
    have t1 := b6.cellAt (i := 1) (by simp)
    have t2 := b6.cellAt (i := 2) (by simp)
    have t3 := b6.cellAt (i := 3) (by simp)
    have t4 := b6.cellAt (i := 4) (by simp)
    have t5 := b6.cellAt (i := 5) (by simp)
    have t6 := b6.cellAt (i := 6) (by simp)
    simp only [List.getElem_toArray, List.getElem_cons_zero, List.getElem_cons_succ] at t0 t1 t2 t3 t4 t5 t6
    refine bodyPost_ret (v := MV.val ⟨H', ⟨A0, n0, k0⟩, ⟨A1, n1, k1⟩, ⟨A2, n2, k2⟩, ⟨A3, n3, k3⟩, d, ⟨A4, n4, k4⟩⟩) (by simp [results, Tryd.results21, go_sem, t0, t1, t2, t3, t4, t5, t6, MV.val, MV.cells]) rfl ?_
    exact ⟨_, m, rfl, fo.weak (by omega), HDM.out, fc, fg⟩
  · go_wp2_with (go_at_call 40; refine (fun h : Hid _ => h.out) ?_)
    unfold Hid
    refine (spec_SampleMuseum _).mono ?_
    rintro e w2 ⟨v, hev, he2, ho⟩
    have HB2 := Lib.hid (HB1.out.keep he2)
    have HG2 := Lib.hid (grown_extD HG1.out he2)
    have HC2 := Lib.hid (cur_ext HC1.out he2)
    have HO2 := Lib.hid ho
    clear he2 ho
    obtain ⟨H', ⟨A0, n0, k0⟩, ⟨A1, n1, k1⟩, ⟨A2, n2, k2⟩, ⟨A3, n3, k3⟩, d, ⟨A4, n4, k4⟩⟩ := v
    simp only [MV.val, MV.cells] at hev
    subst hev
    have z0 := HB2.out.cellAt (i := 0) (by simp [zeroV, MV.cells])
    have z1 := HB2.out.cellAt (i := 1) (by simp [zeroV, MV.cells])
    have z2 := HB2.out.cellAt (i := 2) (by simp [zeroV, MV.cells])
    have z3 := HB2.out.cellAt (i := 3) (by simp [zeroV, MV.cells])
    have z4 := HB2.out.cellAt (i := 4) (by simp [zeroV, MV.cells])
    have z5 := HB2.out.cellAt (i := 5) (by simp [zeroV, MV.cells])
    have z6 := HB2.out.cellAt (i := 6) (by simp [zeroV, MV.cells])
    simp [zeroV, MV.cells] at z0 z1 z2 z3 z4 z5 z6
    have zf := HB2.out.free
    have zl := HB2.out.lt
    go_wp2_with fail
    obtain ⟨b6, kp⟩ := store7 (a0 := .int .i64 0) (a1 := .slice none 0 0) (a2 := .slice none 0 0) (a3 := .slice none 0 0) (a4 := .slice none 0 0) (a5 := .int .i64 0) (a6 := .slice none 0 0) HB2.out (.int .i64 H') (.slice A0 n0 k0) (.slice A1 n1 k1) (.slice A2 n2 k2) (.slice A3 n3 k3) (.int .i64 d) (.slice A4 n4 k4)
    have fo := HO2.out.out kp (by omega)
    have fc := cur7 HC2.out hpw (.int .i64 H') (.slice A0 n0 k0) (.slice A1 n1 k1) (.slice A2 n2 k2) (.slice A3 n3 k3) (.int .i64 d) (.slice A4 n4 k4)
    have fg := grown7 HG2.out (Nat.le_refl _) (.int .i64 H') (.slice A0 n0 k0) (.slice A1 n1 k1) (.slice A2 n2 k2) (.slice A3 n3 k3) (.int .i64 d) (.slice A4 n4 k4)
    unfold set7 at fc fg
    generalize (((((((w2.setCell ⟨w.heap.size, 0, none⟩ (.int .i64 H')).setCell ⟨w.heap.size, 1, none⟩ (.slice A0 n0 k0)).setCell ⟨w.heap.size, 2, none⟩ (.slice A1 n1 k1)).setCell ⟨w.heap.size, 3, none⟩ (.slice A2 n2 k2)).setCell ⟨w.heap.size, 4, none⟩ (.slice A3 n3 k3)).setCell ⟨w.heap.size, 5, none⟩ (.int .i64 d)).setCell ⟨w.heap.size, 6, none⟩ (.slice A4 n4 k4)) = w9 at b6 kp fo fc fg ⊢
    have t0 := b6.cellAt (i := 0) (by simp)
    have t1 := b6.cellAt (i := 1) (by simp)
    have t2 := b6.cellAt (i := 2) (by simp)
    have t3 := b6.cellAt (i := 3) (by simp)
    have t4 := b6.cellAt (i := 4) (by simp)
    have t5 := b6.cellAt (i := 5) (by simp)
    have t6 := b6.cellAt (i := 6) (by simp)
    simp only [List.getElem_toArray, List.getElem_cons_zero, List.getElem_cons_succ] at t0 t1 t2 t3 t4 t5 t6
    refine bodyPost_ret (v := MV.val ⟨H', ⟨A0, n0, k0⟩, ⟨A1, n1, k1⟩, ⟨A2, n2, k2⟩, ⟨A3, n3, k3⟩, d, ⟨A4, n4, k4⟩⟩) (by simp [results, Tryd.results21, go_sem, t0, t1, t2, t3, t4, t5, t6, MV.val, MV.cells]) rfl ?_
    exact ⟨_, sampleM, rfl, fo.weak (by omega), sample_dm.mono (by omega), fc, fg⟩
/-- A museum and acts have been drawn from a code. -/
def DrewActs (w : World) (e : Ending) (w' : World) : Prop := ∃ (v : MV) (m : GMuseum) (Aa : Option Addr) (ca : Nat) (ys : List GAct), e = .returned (.tuple #[v.val, .slice Aa ys.length ca]) ∧ MOwn w' w.heap.size v m ∧ DMus m 1000 ∧ w'.ownsRow w.heap.size 37 5 (.slice Aa ys.length ca) ys.length (ys.flatMap GAct.enc) ∧ ys.length ≤ 21 ∧ (∀ y ∈ ys, acOk y = true) ∧ Ext w w'
set_option maxRecDepth 100000 in
set_option maxHeartbeats 4000000 in
theorem spec_DrawActs (A : Option Addr) (n c : Nat) (xs : List Int) (w : World) (hx : Rd w 1 A n (xs.flatMap benc)) (hxs : ∀ x ∈ xs, 0 ≤ x ∧ x ≤ 255) (hn1 : n ≤ 1048576) : Calls Tryd.prog 7 #[.slice A n c] w (DrewActs w) := by
  obtain ⟨wa, hwa⟩ : ∃ wa, wa = w.alloc (.cells #[.int .i64 0, .slice none 0 0, .slice none 0 0, .slice none 0 0, .slice none 0 0, .int .i64 0, .slice none 0 0] 30) := ⟨_, rfl⟩
  have hBa : Blk wa w.heap.size 30 zeroV.cells := by rw [hwa]; exact Blk.new _ _ _
  have hEa : Ext w wa := by rw [hwa]; exact (Ext.refl _).alloc _
  have hsa : wa.heap.size = w.heap.size + 1 := by rw [hwa]; simp
  have Hwa := Lib.hid hwa
  have HBa := Lib.hid hBa
  have HEa := Lib.hid hEa
  have cN := Lib.hid (spec_l01New A n c xs wa (hx.keep hEa) hxs hn1)
  clear hwa hBa hEa hx hxs
  go_enter Tryd.func7, Tryd.ntmps7
  go_wp2_with (go_at_call 20; refine (fun h : Hid _ => h.out) ?_)
  unfold Hid
  rw [← Hwa.out]
  refine cN.out.mono ?_
  rintro e w1 ⟨p, rfl, hp, hc1, he1⟩
  have hz1 := he1.size
  have hp1 := hc1.lt
  have HB1 := Lib.hid (HBa.out.keep he1)
  have HE1 := Lib.hid (HEa.out.trans he1)
  have HC1 := Lib.hid hc1
  clear hc1 he1 HBa HEa
  go_wp2_with (go_at_call 21; refine (fun h : Hid _ => h.out) ?_)
  unfold Hid
  refine (spec_l39Museum p _ HC1.out).mono ?_
  rintro e w2 ⟨v, m, hev, ho, hdm, hc2, hg2⟩
  have hz2 := hg2.size
  have HB2 := Lib.hid (blk_grown HB1.out (by omega) hg2)
  have HE2 := Lib.hid (HE1.out.grown hg2 (fun q hq => by injection hq with hq; omega))
  have HC2 := Lib.hid hc2
  have HO2 := Lib.hid ho
  have HDM := Lib.hid hdm
  clear hg2 hc2 ho hdm HB1 HE1 HC1
  obtain ⟨H', ⟨A0, n0, k0⟩, ⟨A1, n1, k1⟩, ⟨A2, n2, k2⟩, ⟨A3, n3, k3⟩, d, ⟨A4, n4, k4⟩⟩ := v
  simp only [MV.val, MV.cells] at hev
  subst hev
  go_wp2_with (go_at_call 22; refine (fun h : Hid _ => h.out) ?_)
  unfold Hid
  refine (spec_l39List p _ HC2.out).mono ?_
  rintro e w3 ⟨va, ys, rfl, hoa, hla, hma, hc3, hg3⟩
  obtain ⟨Aa, ca, rfl, -⟩ := own_form hoa
  have hz3 := hg3.size
  have HB3 := Lib.hid (blk_grown HB2.out (by omega) hg3)
  have HE3 := Lib.hid (HE2.out.grown hg3 (fun q hq => by injection hq with hq; omega))
  have HO3 := Lib.hid (HO2.out.grownP hp1 hg3)
  have HA3 := Lib.hid hoa
  clear hc3 hg3 hoa HB2 HE2 HC2 HO2
  have z0 := HB3.out.cellAt (i := 0) (by simp [zeroV, MV.cells])
  have z1 := HB3.out.cellAt (i := 1) (by simp [zeroV, MV.cells])
  have z2 := HB3.out.cellAt (i := 2) (by simp [zeroV, MV.cells])
  have z3 := HB3.out.cellAt (i := 3) (by simp [zeroV, MV.cells])
  have z4 := HB3.out.cellAt (i := 4) (by simp [zeroV, MV.cells])
  have z5 := HB3.out.cellAt (i := 5) (by simp [zeroV, MV.cells])
  have z6 := HB3.out.cellAt (i := 6) (by simp [zeroV, MV.cells])
  simp [zeroV, MV.cells] at z0 z1 z2 z3 z4 z5 z6
  have zf := HB3.out.free
  have zl := HB3.out.lt
  go_wp2_with fail
  obtain ⟨b6, kp⟩ := store7 (a0 := .int .i64 0) (a1 := .slice none 0 0) (a2 := .slice none 0 0) (a3 := .slice none 0 0) (a4 := .slice none 0 0) (a5 := .int .i64 0) (a6 := .slice none 0 0) HB3.out (.int .i64 H') (.slice A0 n0 k0) (.slice A1 n1 k1) (.slice A2 n2 k2) (.slice A3 n3 k3) (.int .i64 d) (.slice A4 n4 k4)
  have fo := HO3.out.out kp (by omega)
  have fa := kp.own HA3.out (fun g hg => .inr (by have := (HA3.out.lt g hg).1; omega))
  have fe := kp.ext HE3.out (Nat.le_refl _)
  generalize (((((((w3.setCell ⟨w.heap.size, 0, none⟩ (.int .i64 H')).setCell ⟨w.heap.size, 1, none⟩ (.slice A0 n0 k0)).setCell ⟨w.heap.size, 2, none⟩ (.slice A1 n1 k1)).setCell ⟨w.heap.size, 3, none⟩ (.slice A2 n2 k2)).setCell ⟨w.heap.size, 4, none⟩ (.slice A3 n3 k3)).setCell ⟨w.heap.size, 5, none⟩ (.int .i64 d)).setCell ⟨w.heap.size, 6, none⟩ (.slice A4 n4 k4)) = w9 at b6 kp fo fa fe ⊢
  have t0 := b6.cellAt (i := 0) (by simp)
  have t1 := b6.cellAt (i := 1) (by simp)
  have t2 := b6.cellAt (i := 2) (by simp)
  have t3 := b6.cellAt (i := 3) (by simp)
  have t4 := b6.cellAt (i := 4) (by simp)
  have t5 := b6.cellAt (i := 5) (by simp)
  have t6 := b6.cellAt (i := 6) (by simp)
  simp only [List.getElem_toArray, List.getElem_cons_zero, List.getElem_cons_succ] at t0 t1 t2 t3 t4 t5 t6
  refine bodyPost_ret (v := .tuple #[MV.val ⟨H', ⟨A0, n0, k0⟩, ⟨A1, n1, k1⟩, ⟨A2, n2, k2⟩, ⟨A3, n3, k3⟩, d, ⟨A4, n4, k4⟩⟩, .slice Aa ys.length ca]) (by simp [results, Tryd.results7, go_sem, t0, t1, t2, t3, t4, t5, t6, MV.val, MV.cells]) rfl ?_
  exact ⟨_, m, Aa, ca, ys, rfl, fo.weak (by omega), HDM.out, own_weak fa (by omega), hla, hma, fe⟩
end Go.Proofs.YtfhibjehnoibeaaDoor
