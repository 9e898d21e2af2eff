/- Texts of one proof, laid one behind the other (H8, NM1, SHk); no condition but what stands at each theorem. -/
import Derived.Test.YtkelmeemblmggaaGreatDoorZG
import Derived.Test.YtkelmeemblmggaaGreatDoorZI
import Derived.Test.YtkelmeemblmggaaGreatDoorZJ
/- Contracts of the laws' marks on museums; no condition but what stands at each theorem. -/
namespace Go.Proofs.YtkelmeemblmggaaGreatDoor
set_option linter.unusedSimpArgs false
set_option linter.unusedVariables false
open Go.RowKit Go.Sort
def mk1 (k : Int) (v : MV) : Int := k + v.sd.n * 2
def mk2 (k : Int) (v : MV) : Int := mk1 k v + v.sf.n
def mk3 (k : Int) (v : MV) : Int := mk2 k v + v.sp.n
def mk4 (k : Int) (v : MV) : Int := mk3 k v + v.sg.n
def markEnd (k : Int) (v : MV) : Int := mk4 k v + v.sr.n * 3
/-- The museum that the marks make. -/
def markMus (k : Int) (v : MV) (m : GMuseum) : GMuseum := ⟨m.H, markDoorL k v.sd.n, markIntL (mk1 k v) v.sf.n, markIntL (mk2 k v) v.sp.n, markIntL (mk3 k v) v.sg.n, m.d, markEntryL (mk4 k v) v.sr.n⟩
set_option maxRecDepth 100000 in
set_option maxHeartbeats 2000000 in
theorem laws_markMuseum (v : MV) (m : GMuseum) (k : Int) (base hi : Nat) (w : World) (ho : MOwn w base v m) (hat : MAt base hi v) (hf : MFit v) (hhi : hi ≤ w.heap.size) (hk0 : 0 ≤ k) (hk1 : k ≤ 1000000) :
    Calls Tryz.prog 30 #[v.val, .int .i64 k] w fun e w' => e = .returned (.int .i64 (markEnd k v)) ∧ MOwn w' base v (markMus k v m) ∧ KeptOut base hi w w' := by
  obtain ⟨wb, hwb⟩ : ∃ wb, wb = w.alloc (.cells v.cells 30) := ⟨_, rfl⟩
  have hbx := MBox.new hwb
  have hE : Ext w wb := by rw [hwb]; exact (Ext.refl w).alloc _
  have HO := Lib.hid (ho.keep hE)
  have HAT := Lib.hid hat
  obtain ⟨d1, d2, d3, d4, f1, f2, f3, p1, p2, g1⟩ := aparts ho.ap
  have HAP := Lib.hid ho.ap
  have HeH := Lib.hid ho.eH
  have Hed := Lib.hid ho.ed
  have nd := hf.nd
  have nf := hf.nf
  have np := hf.np
  have ng := hf.ng
  have nr := hf.nr
  have HK0 : Hid (KeptOut base hi w wb) := Lib.hid (.of_ext hE)
  have HB := Lib.hid hbx
  have HD1 := Lib.hid d1
  have HD2 := Lib.hid d2
  have HD3 := Lib.hid d3
  have HD4 := Lib.hid d4
  have HF1 := Lib.hid f1
  have HF2 := Lib.hid f2
  have HF3 := Lib.hid f3
  have HP1 := Lib.hid p1
  have HP2 := Lib.hid p2
  have HG1 := Lib.hid g1
  obtain ⟨Hh, ⟨A0, n0, c0⟩, ⟨A1, n1, c1⟩, ⟨A2, n2, c2⟩, ⟨A3, n3, c3⟩, day, ⟨A4, n4, c4⟩⟩ := v
  simp only at nd nf np ng nr
  have Hwb : Hid (wb = w.alloc (.cells #[.int .i64 Hh, .slice A0 n0 c0, .slice A1 n1 c1, .slice A2 n2 c2, .slice A3 n3 c3, .int .i64 day, .slice A4 n4 c4] 30)) := hwb
  clear hwb hbx hE ho hat d1 d2 d3 d4 f1 f2 f3 p1 p2 g1 hf
  show Calls Tryz.prog 30 #[.agg #[.int .i64 Hh, .slice A0 n0 c0, .slice A1 n1 c1, .slice A2 n2 c2, .slice A3 n3 c3, .int .i64 day, .slice A4 n4 c4], .int .i64 k] w _
  have b0 := HB.out.c0
  have b1 := HB.out.c1
  simp only at b0 b1
  go_enter Tryz.func30, Tryz.ntmps30
  go_wp2_with (go_at_call 96; refine (fun h : Hid _ => h.out) ?_)
  unfold Hid
  rw [← Hwb.out]
  refine (laws_markHouse Hh A0 n0 c0 k base _ wb HO.out.od nd hk0 (by omega)).mono ?_
  rintro e w1 ⟨rfl, o1, g1⟩
  have K1 := Lib.hid (KeptOut.of_at g1 HAT.out.1)
  have O1 := Lib.hid o1
  have F1 := Lib.hid (own_apart HO.out.of_ (Apart.symm HD1.out) g1)
  have P1 := Lib.hid (own_apart HO.out.op (Apart.symm HD2.out) g1)
  have G1 := Lib.hid (own_apart HO.out.og (Apart.symm HD3.out) g1)
  have R1 := Lib.hid (own_apart HO.out.or_ (Apart.symm HD4.out) g1)
  have B1 := Lib.hid (HB.out.out K1.out (.inr hhi))
  clear g1 o1 b0 b1
  have b2 := B1.out.c2
  simp only at b2
  go_wp2_with (go_at_call 63; refine (fun h : Hid _ => h.out) ?_)
  unfold Hid
  refine (laws_markIntS A1 n1 c1 _ base _ w1 F1.out nf (by omega) (by omega)).mono ?_
  rintro e w2 ⟨rfl, o2, g2⟩
  have K2 := Lib.hid (KeptOut.trans K1.out (KeptOut.of_at g2 HAT.out.2.1))
  have F2 := Lib.hid o2
  have O2 := Lib.hid (own_apart O1.out HD1.out g2)
  have P2 := Lib.hid (own_apart P1.out (Apart.symm HF1.out) g2)
  have G2 := Lib.hid (own_apart G1.out (Apart.symm HF2.out) g2)
  have R2 := Lib.hid (own_apart R1.out (Apart.symm HF3.out) g2)
  have B2 := Lib.hid (HB.out.out K2.out (.inr hhi))
  clear g2 o2 b2
  have b3 := B2.out.c3
  simp only at b3
  go_wp2_with (go_at_call 63; refine (fun h : Hid _ => h.out) ?_)
  unfold Hid
  refine (laws_markIntS A2 n2 c2 _ base _ w2 P2.out np (by omega) (by omega)).mono ?_
  rintro e w3 ⟨rfl, o3, g3⟩
  have K3 := Lib.hid (KeptOut.trans K2.out (KeptOut.of_at g3 HAT.out.2.2.1))
  have P3 := Lib.hid o3
  have O3 := Lib.hid (own_apart O2.out HD2.out g3)
  have F3 := Lib.hid (own_apart F2.out HF1.out g3)
  have G3 := Lib.hid (own_apart G2.out (Apart.symm HP1.out) g3)
  have R3 := Lib.hid (own_apart R2.out (Apart.symm HP2.out) g3)
  have B3 := Lib.hid (HB.out.out K3.out (.inr hhi))
  clear g3 o3 b3
  have b4 := B3.out.c4
  simp only at b4
  go_wp2_with (go_at_call 63; refine (fun h : Hid _ => h.out) ?_)
  unfold Hid
  refine (laws_markIntS A3 n3 c3 _ base _ w3 G3.out ng (by omega) (by omega)).mono ?_
  rintro e w4 ⟨rfl, o4, g4⟩
  have K4 := Lib.hid (KeptOut.trans K3.out (KeptOut.of_at g4 HAT.out.2.2.2.1))
  have G4 := Lib.hid o4
  have O4 := Lib.hid (own_apart O3.out HD3.out g4)
  have F4 := Lib.hid (own_apart F3.out HF2.out g4)
  have P4 := Lib.hid (own_apart P3.out HP1.out g4)
  have R4 := Lib.hid (own_apart R3.out (Apart.symm HG1.out) g4)
  have B4 := Lib.hid (HB.out.out K4.out (.inr hhi))
  clear g4 o4 b4
  have b6 := B4.out.c6
  simp only at b6
  go_wp2_with (go_at_call 97; refine (fun h : Hid _ => h.out) ?_)
  unfold Hid
  refine (laws_markEntryS A4 n4 c4 _ base _ w4 R4.out nr (by omega) (by omega)).mono ?_
  rintro e w5 ⟨rfl, o5, g5⟩
  have K5 := Lib.hid (KeptOut.trans K4.out (KeptOut.of_at g5 HAT.out.2.2.2.2))
  have R5 := Lib.hid o5
  have O5 := Lib.hid (own_apart O4.out HD4.out g5)
  have F5 := Lib.hid (own_apart F4.out HF3.out g5)
  have P5 := Lib.hid (own_apart P4.out HP2.out g5)
  have G5 := Lib.hid (own_apart G4.out HG1.out g5)
  clear g5 o5 b6
  go_wp2_with fail
  go_ret
  exact ⟨rfl, ⟨HeH.out, Hed.out, O5.out, F5.out, P5.out, G5.out, R5.out, HAP.out⟩, HK0.out.trans K5.out⟩
theorem laws_heldHouse (H : Int) (A : Option Addr) (n c : Nat) (k : Int) (w : World) (hx : Rd w 2 A n ((markDoorL k n).flatMap GDoor.enc)) (hn : n ≤ 1048576) (hk0 : 0 ≤ k) (hk1 : k ≤ 1099511627776) :
    Calls Tryz.prog 98 #[.agg #[.int .i64 H, .slice A n c], .int .i64 k] w fun e w' => e = .returned (.int .i64 (k + ↑n * 2)) ∧ Ext w w' := by
  have HC := Lib.hid (laws_heldDoorS A n c k _ (hx.keep ((Ext.refl w).alloc (.cells #[.int .i64 H, .slice A n c] 26))) hn hk0 hk1)
  clear hx
  have hk2 : ¬ k + ↑n * 2 < 0 := by omega
  go_enter Tryz.func98, Tryz.ntmps98
  go_wp2_with (go_at_call 149; refine (fun h : Hid _ => h.out) ?_)
  unfold Hid
  refine HC.out.mono ?_
  rintro e w1 ⟨rfl, hb1⟩
  have HB1 := Lib.hid (((Ext.refl w).alloc (.cells #[.int .i64 H, .slice A n c] 26)).trans hb1)
  clear hb1
  go_wp2_with fail
  go_ret
  exact ⟨rfl, HB1.out⟩
theorem mk_bounds {k : Int} {n0 n1 n2 n3 n4 : Nat} (hk0 : 0 ≤ k) (hk1 : k ≤ 1000000) (h0 : n0 ≤ 1048576) (h1 : n1 ≤ 1048576) (h2 : n2 ≤ 1048576) (h3 : n3 ≤ 1048576) (h4 : n4 ≤ 1048576) :
    (0 ≤ k + ↑n0 * 2 ∧ k + ↑n0 * 2 ≤ 4000000) ∧ (0 ≤ k + ↑n0 * 2 + ↑n1 ∧ k + ↑n0 * 2 + ↑n1 ≤ 6000000) ∧ (0 ≤ k + ↑n0 * 2 + ↑n1 + ↑n2 ∧ k + ↑n0 * 2 + ↑n1 + ↑n2 ≤ 8000000) ∧ (0 ≤ k + ↑n0 * 2 + ↑n1 + ↑n2 + ↑n3 ∧ k + ↑n0 * 2 + ↑n1 + ↑n2 + ↑n3 ≤ 10000000) ∧ 0 ≤ k + ↑n0 * 2 + ↑n1 + ↑n2 + ↑n3 + ↑n4 * 3 := by
  have e0 : (n0 : Int) ≤ 1048576 := by omega
  have e1 : (n1 : Int) ≤ 1048576 := by omega
  have e2 : (n2 : Int) ≤ 1048576 := by omega
  have e3 : (n3 : Int) ≤ 1048576 := by omega
  have a1 : 0 ≤ k + ↑n0 * 2 ∧ k + ↑n0 * 2 ≤ 4000000 := by omega
  have a2 : 0 ≤ k + ↑n0 * 2 + ↑n1 ∧ k + ↑n0 * 2 + ↑n1 ≤ 6000000 := by constructor <;> omega
  have a3 : 0 ≤ k + ↑n0 * 2 + ↑n1 + ↑n2 ∧ k + ↑n0 * 2 + ↑n1 + ↑n2 ≤ 8000000 := ⟨Int.add_nonneg a2.1 (Int.natCast_nonneg _), Int.le_trans (Int.add_le_add a2.2 e2) (by decide)⟩
  have a4 : 0 ≤ k + ↑n0 * 2 + ↑n1 + ↑n2 + ↑n3 ∧ k + ↑n0 * 2 + ↑n1 + ↑n2 + ↑n3 ≤ 10000000 := ⟨Int.add_nonneg a3.1 (Int.natCast_nonneg _), Int.le_trans (Int.add_le_add a3.2 e3) (by decide)⟩
  exact ⟨a1, a2, a3, a4, Int.add_nonneg a4.1 (Int.mul_nonneg (Int.natCast_nonneg _) (by decide))⟩
set_option maxRecDepth 100000 in
set_option maxHeartbeats 2000000 in
theorem laws_heldMuseum (v : MV) (m : GMuseum) (k : Int) (w : World) (hx : MRd w v (markMus k v m)) (hf : MFit v) (hk0 : 0 ≤ k) (hk1 : k ≤ 1000000) :
    Calls Tryz.prog 31 #[v.val, .int .i64 k] w fun e w' => e = .returned (.int .i64 (markEnd k v)) ∧ Ext w w' := by
  obtain ⟨wb, hwb⟩ : ∃ wb, wb = w.alloc (.cells v.cells 30) := ⟨_, rfl⟩
  have hbx := MBox.new hwb
  have hE : Ext w wb := by rw [hwb]; exact (Ext.refl w).alloc _
  have HX := Lib.hid (hx.keep hE)
  have nd := hf.nd
  have nf := hf.nf
  have np := hf.np
  have ng := hf.ng
  have nr := hf.nr
  have HE := Lib.hid hE
  have HB := Lib.hid hbx
  obtain ⟨Hh, ⟨A0, n0, c0⟩, ⟨A1, n1, c1⟩, ⟨A2, n2, c2⟩, ⟨A3, n3, c3⟩, day, ⟨A4, n4, c4⟩⟩ := v
  simp only at nd nf np ng nr
  have Hwb : Hid (wb = w.alloc (.cells #[.int .i64 Hh, .slice A0 n0 c0, .slice A1 n1 c1, .slice A2 n2 c2, .slice A3 n3 c3, .int .i64 day, .slice A4 n4 c4] 30)) := hwb
  have HD : Hid (Rd wb 2 A0 n0 ((markDoorL k n0).flatMap GDoor.enc)) := Lib.hid (by have h := HX.out.rd; simp only [markMus, mk4, mk3, mk2, mk1] at h; exact h)
  have HF : Hid (Rd wb 1 A1 n1 ((markIntL (k + ↑n0 * 2) n1).flatMap ienc)) := Lib.hid (by have h := HX.out.rf; simp only [markMus, mk4, mk3, mk2, mk1] at h; exact h)
  have HP : Hid (Rd wb 1 A2 n2 ((markIntL (k + ↑n0 * 2 + ↑n1) n2).flatMap ienc)) := Lib.hid (by have h := HX.out.rp; simp only [markMus, mk4, mk3, mk2, mk1] at h; exact h)
  have HG : Hid (Rd wb 1 A3 n3 ((markIntL (k + ↑n0 * 2 + ↑n1 + ↑n2) n3).flatMap ienc)) := Lib.hid (by have h := HX.out.rg; simp only [markMus, mk4, mk3, mk2, mk1] at h; exact h)
  have HRR : Hid (Rd wb 3 A4 n4 ((markEntryL (k + ↑n0 * 2 + ↑n1 + ↑n2 + ↑n3) n4).flatMap GEntry.enc)) := Lib.hid (by have h := HX.out.rr; simp only [markMus, mk4, mk3, mk2, mk1] at h; exact h)
  obtain ⟨z1, z2, z3, z4, z5⟩ := mk_bounds (n0 := n0) (n1 := n1) (n2 := n2) (n3 := n3) (n4 := n4) hk0 hk1 nd nf np ng nr
  have cD := Lib.hid (laws_heldHouse Hh A0 n0 c0 k wb HD.out nd hk0 (Int.le_trans hk1 (by decide)))
  have cF := Lib.hid (fun W (he : Ext wb W) => laws_heldIntS A1 n1 c1 _ W (HF.out.keep he) nf z1.1 (Int.le_trans z1.2 (by decide)))
  have cP := Lib.hid (fun W (he : Ext wb W) => laws_heldIntS A2 n2 c2 _ W (HP.out.keep he) np z2.1 (Int.le_trans z2.2 (by decide)))
  have cG := Lib.hid (fun W (he : Ext wb W) => laws_heldIntS A3 n3 c3 _ W (HG.out.keep he) ng z3.1 (Int.le_trans z3.2 (by decide)))
  have cR := Lib.hid (fun W (he : Ext wb W) => laws_heldEntryS A4 n4 c4 _ W (HRR.out.keep he) nr z4.1 (Int.le_trans z4.2 (by decide)))
  have T1 := Lib.hid (Int.not_lt.2 z1.1)
  have T2 := Lib.hid (Int.not_lt.2 z2.1)
  have T3 := Lib.hid (Int.not_lt.2 z3.1)
  have T4 := Lib.hid (Int.not_lt.2 z4.1)
  have T5 := Lib.hid (Int.not_lt.2 z5)
  clear hwb hbx hE hf hx HX HD HF HP HG HRR z1 z2 z3 z4 z5 nd nf np ng nr
  show Calls Tryz.prog 31 #[.agg #[.int .i64 Hh, .slice A0 n0 c0, .slice A1 n1 c1, .slice A2 n2 c2, .slice A3 n3 c3, .int .i64 day, .slice A4 n4 c4], .int .i64 k] w _
  have b0 := HB.out.c0
  have b1 := HB.out.c1
  simp only at b0 b1
  go_enter Tryz.func31, Tryz.ntmps31
  go_wp2_with (go_at_call 98; refine (fun h : Hid _ => h.out) ?_)
  unfold Hid
  rw [← Hwb.out]
  refine cD.out.mono ?_
  rintro e w1 ⟨rfl, e1⟩
  have E1 := Lib.hid e1
  clear e1 b0 b1 cD
  have t1 := T1.out
  have b2 := (HB.out.keep E1.out).c2
  simp only at b2
  go_wp2_with (go_at_call 64; refine (fun h : Hid _ => h.out) ?_)
  unfold Hid
  refine (cF.out _ E1.out).mono ?_
  rintro e w2 ⟨rfl, e2⟩
  have E2 := Lib.hid (E1.out.trans e2)
  clear e2 b2 t1 cF
  have t2 := T2.out
  have b3 := (HB.out.keep E2.out).c3
  simp only at b3
  go_wp2_with (go_at_call 64; refine (fun h : Hid _ => h.out) ?_)
  unfold Hid
  refine (cP.out _ E2.out).mono ?_
  rintro e w3 ⟨rfl, e3⟩
  have E3 := Lib.hid (E2.out.trans e3)
  clear e3 b3 t2 cP
  have t3 := T3.out
  have b4 := (HB.out.keep E3.out).c4
  simp only at b4
  go_wp2_with (go_at_call 64; refine (fun h : Hid _ => h.out) ?_)
  unfold Hid
  refine (cG.out _ E3.out).mono ?_
  rintro e w4 ⟨rfl, e4⟩
  have E4 := Lib.hid (E3.out.trans e4)
  clear e4 b4 t3 cG
  have t4 := T4.out
  have b6 := (HB.out.keep E4.out).c6
  simp only at b6
  go_wp2_with (go_at_call 99; refine (fun h : Hid _ => h.out) ?_)
  unfold Hid
  refine (cR.out _ E4.out).mono ?_
  rintro e w5 ⟨rfl, e5⟩
  have E5 := Lib.hid (E4.out.trans e5)
  clear e5 b6 t4 cR
  have t5 := T5.out
  have HEF := Lib.hid (HE.out.trans E5.out)
  go_wp2_with fail
  go_ret
  exact ⟨rfl, HEF.out⟩
end Go.Proofs.YtkelmeemblmggaaGreatDoor
/- The walk of the law on NextDays; no condition. -/
namespace Go.Proofs.YtkelmeemblmggaaGreatDoor
set_option linter.unusedSimpArgs false
set_option linter.unusedVariables false
open Go.RowKit Go.Sort
theorem bulk_bdN {v : MV} {m : GMuseum} (h : bulkM v m ≤ 1048576) : v.sd.n ≤ 1048576 ∧ v.sf.n ≤ 1048576 ∧ v.sp.n ≤ 1048576 ∧ v.sg.n ≤ 1048576 ∧ v.sr.n ≤ 1048576 := by
  have := bulkE_nn m.rs
  unfold bulkM at h
  omega
theorem MRd.lens {w : World} {v : MV} {m : GMuseum} (h : MRd w v m) : m.ds.length = v.sd.n ∧ m.fs.length = v.sf.n ∧ m.ps.length = v.sp.n ∧ m.gs.length = v.sg.n ∧ m.rs.length = v.sr.n :=
  ⟨h.rd.len GDoor.len (by omega), h.rf.len ienc_len (by omega), h.rp.len ienc_len (by omega), h.rg.len ienc_len (by omega), h.rr.len GEntry.len (by omega)⟩
theorem markEnd_nn {v : MV} : ¬ markEnd 1 v < 0 := by unfold markEnd mk4 mk3 mk2 mk1; omega
theorem daysM_lens (m : GMuseum) (d : Int) : (daysM m d).ds.length = m.ds.length ∧ (daysM m d).fs.length = m.fs.length ∧ (daysM m d).ps.length = m.ps.length ∧ (daysM m d).gs.length = m.gs.length ∧ (daysM m d).rs.length = m.rs.length := by
  unfold daysM
  split <;> exact ⟨rfl, rfl, rfl, rfl, rfl⟩
theorem days_fit {w : World} {base : Nat} {v v' : MV} {m : GMuseum} {d : Int} (h : MOwn w base v (daysM m d)) {w' : World} (hx : MRd w' v' m) (hd : v'.sd.n ≤ 1048576) (hf : v'.sf.n ≤ 1048576) (hp : v'.sp.n ≤ 1048576) (hg : v'.sg.n ≤ 1048576) (hr : v'.sr.n ≤ 1048576) : MFit v := by
  obtain ⟨a1, a2, a3, a4, a5⟩ := h.rd.lens
  obtain ⟨b1, b2, b3, b4, b5⟩ := hx.lens
  obtain ⟨c1, c2, c3, c4, c5⟩ := daysM_lens m d
  exact MFit.of_own h (by omega) (by omega) (by omega) (by omega) (by omega)
end Go.Proofs.YtkelmeemblmggaaGreatDoor
/- Contracts of CanMove and l35Near; no condition but what stands at each theorem. -/
namespace Go.Proofs.YtkelmeemblmggaaGreatDoor
set_option linter.unusedSimpArgs false
set_option linter.unusedVariables false
open Go.RowKit Go.Sort
def canMoveB (H : Int) (ds : List GDoor) (ps gs : List Int) (m : GMove) : Bool :=
  placesB H ds ps && (decide (gs.length ≤ 6) && (hallsB H ds gs && (goB H ds ps m && (inB m.f 0 ((gs.length : Int) - 1) && (inB m.s 0 ((gs.length : Int) - 1) && ((m.f != m.s) && (nearB gs ps m m.f && nearB gs ps m m.s)))))))
theorem doorB_self {H : Int} {ds : List GDoor} (hB : houseB H ds = true) (x : Int) : doorB ds x x = false := by
  unfold doorB
  rw [Bool.eq_false_iff]
  intro hc
  rw [List.any_eq_true] at hc
  obtain ⟨d, hd, he⟩ := hc
  have h1 := (houseB_spec hB).2.2.2.2.1 d hd
  simp only [isDoor, imin, imax, Bool.and_eq_true, beq_iff_eq] at he
  simp only [doorOk, Bool.and_eq_true, decide_eq_true_eq] at h1
  have h2 := he.1
  have h3 := he.2
  simp at h2 h3
  omega
theorem hallsB_house {H : Int} {ds : List GDoor} {xs : List Int} (h : hallsB H ds xs = true) : houseB H ds = true := by
  unfold hallsB at h; rw [Bool.and_eq_true] at h; exact h.2
theorem boxHPGM (w : World) (a0 a1 p g b0 b1 b2 b3 : Value) (t1 t2 t3 t4 : TypeId) (wb : World) (hwb : wb = (((w.alloc (.cells #[a0, a1] t1)).alloc (.cells #[p] t2)).alloc (.cells #[g] t3)).alloc (.cells #[b0, b1, b2, b3] t4)) :
    Ext w wb ∧ wb.heap.size = w.heap.size + 1 + 1 + 1 + 1 ∧ wb.cell? ⟨w.heap.size, 0, none⟩ = some a0 ∧ wb.cell? ⟨w.heap.size, 1, none⟩ = some a1 ∧ wb.cell? ⟨w.heap.size + 1, 0, none⟩ = some p ∧ wb.cell? ⟨w.heap.size + 1 + 1, 0, none⟩ = some g ∧ wb.cell? ⟨w.heap.size + 1 + 1 + 1, 0, none⟩ = some b0 ∧ wb.cell? ⟨w.heap.size + 1 + 1 + 1, 1, none⟩ = some b1 ∧ wb.cell? ⟨w.heap.size + 1 + 1 + 1, 2, none⟩ = some b2 ∧ wb.cell? ⟨w.heap.size + 1 + 1 + 1, 3, none⟩ = some b3 := by
  subst hwb
  have h1 : w.heap.size + 1 = (w.alloc (.cells #[a0, a1] t1)).heap.size := by simp
  have h2 : w.heap.size + 1 + 1 = ((w.alloc (.cells #[a0, a1] t1)).alloc (.cells #[p] t2)).heap.size := by simp
  have h3 : w.heap.size + 1 + 1 + 1 = (((w.alloc (.cells #[a0, a1] t1)).alloc (.cells #[p] t2)).alloc (.cells #[g] t3)).heap.size := by simp
  refine ⟨((((Ext.refl w).alloc _).alloc _).alloc _).alloc _, by simp, ?_, ?_, ?_, ?_, ?_, ?_, ?_, ?_⟩
  · rw [World.cell?_alloc_lt _ _ _ (by first | (simp; done) | (simp; omega)), World.cell?_alloc_lt _ _ _ (by first | (simp; done) | (simp; omega)), World.cell?_alloc_lt _ _ _ (by first | (simp; done) | (simp; omega)), World.cell?_alloc_new]; rfl
  · rw [World.cell?_alloc_lt _ _ _ (by first | (simp; done) | (simp; omega)), World.cell?_alloc_lt _ _ _ (by first | (simp; done) | (simp; omega)), World.cell?_alloc_lt _ _ _ (by first | (simp; done) | (simp; omega)), World.cell?_alloc_new]; rfl
  · rw [World.cell?_alloc_lt _ _ _ (by first | (simp; done) | (simp; omega)), World.cell?_alloc_lt _ _ _ (by simp), h1, World.cell?_alloc_new]; rfl
  · rw [World.cell?_alloc_lt _ _ _ (by simp), h2, World.cell?_alloc_new]; rfl
  all_goals rw [h3, World.cell?_alloc_new]; rfl
set_option maxRecDepth 100000 in
set_option maxHeartbeats 8000000 in
theorem impl_CanMove (H : Int) (A : Option Addr) (n c : Nat) (ds : List GDoor) (A1 : Option Addr) (n1 c1 : Nat) (ps : List Int) (A2 : Option Addr) (n2 c2 : Nat) (gs : List Int) (m : GMove) (w : World) (hx : Rd w 2 A n (ds.flatMap GDoor.enc)) (hx1 : Rd w 1 A1 n1 (ps.flatMap ienc)) (hx2 : Rd w 1 A2 n2 (gs.flatMap ienc)) :
    Calls Tryz.prog 144 #[.agg #[.int .i64 H, .slice A n c], .slice A1 n1 c1, .slice A2 n2 c2, .agg #[.int .i64 m.o, .int .i64 m.t, .int .i64 m.f, .int .i64 m.s]] w fun e w' => e = .returned (.bool (canMoveB H ds ps gs m)) ∧ Ext w w' := by
  obtain ⟨o, t, f, s⟩ := m
  dsimp only
  have hn1 := hx1.2.1
  have hn2 := hx2.2.1
  have hl1 := Lib.hid (hx1.len ienc_len (by omega))
  have hl2 := Lib.hid (hx2.len ienc_len (by omega))
  obtain ⟨wb, hwb⟩ : ∃ wb, wb = (((w.alloc (.cells #[.int .i64 H, .slice A n c] 26)).alloc (.cells #[.slice A1 n1 c1] 27)).alloc (.cells #[.slice A2 n2 c2] 27)).alloc (.cells #[.int .i64 o, .int .i64 t, .int .i64 f, .int .i64 s] 56) := ⟨_, rfl⟩
  obtain ⟨hE, hsb, a0, a1, ap, ag, b0, b1, b2, b3⟩ := boxHPGM w _ _ _ _ _ _ _ _ _ _ _ _ wb hwb
  have HE := Lib.hid hE
  have Hwb := Lib.hid hwb
  have Ha0 := Lib.hid a0
  have Ha1 := Lib.hid a1
  have Hap := Lib.hid ap
  have Hag := Lib.hid ag
  have Hb0 := Lib.hid b0
  have Hb1 := Lib.hid b1
  have Hb2 := Lib.hid b2
  have Hb3 := Lib.hid b3
  have hxb := Lib.hid (hx.keep hE)
  have hxb1 := Lib.hid (hx1.keep hE)
  have hxb2 := Lib.hid (hx2.keep hE)
  have cP := Lib.hid (impl_PlacesOk H A n c ds A1 n1 c1 ps wb hxb.out hxb1.out)
  clear hE hwb a0 a1 ap ag b0 b1 b2 b3 hx hx1 hx2
  cases hP : placesB H ds ps
  case false =>
    rw [hP] at cP
    have HF : Hid (canMoveB H ds ps gs ⟨o, t, f, s⟩ = false) := by unfold Hid canMoveB; simp [hP]
    clear hP
    go_enter Tryz.func144, Tryz.ntmps144
    go_wp2_with fail
    rw [← Hwb.out]
    refine cP.out.mono ?_
    rintro e w1 ⟨rfl, he1⟩
    have HE1 := Lib.hid he1
    have a0 := (HE1.out.cellAt (w.heap.size) (by omega) 0).trans Ha0.out
    have a1 := (HE1.out.cellAt (w.heap.size) (by omega) 1).trans Ha1.out
    have ap := (HE1.out.cellAt (w.heap.size + 1) (by omega) 0).trans Hap.out
    have ag := (HE1.out.cellAt (w.heap.size + 1 + 1) (by omega) 0).trans Hag.out
    have b0 := (HE1.out.cellAt (w.heap.size + 1 + 1 + 1) (by omega) 0).trans Hb0.out
    have b1 := (HE1.out.cellAt (w.heap.size + 1 + 1 + 1) (by omega) 1).trans Hb1.out
    have b2 := (HE1.out.cellAt (w.heap.size + 1 + 1 + 1) (by omega) 2).trans Hb2.out
    have b3 := (HE1.out.cellAt (w.heap.size + 1 + 1 + 1) (by omega) 3).trans Hb3.out
    clear he1
    go_wp2_with fail
    go_ret
    exact ⟨ret_bool HF.out.symm, HE.out.trans (HE1.out)⟩
  rw [hP] at cP
  by_cases h6 : n2 ≤ 6
  case neg =>
    have HF : Hid (canMoveB H ds ps gs ⟨o, t, f, s⟩ = false) := by unfold Hid canMoveB; simp [hl2.out, h6]
    clear hP
    go_enter Tryz.func144, Tryz.ntmps144
    go_wp2_with fail
    rw [← Hwb.out]
    refine cP.out.mono ?_
    rintro e w1 ⟨rfl, he1⟩
    have HE1 := Lib.hid he1
    have a0 := (HE1.out.cellAt (w.heap.size) (by omega) 0).trans Ha0.out
    have a1 := (HE1.out.cellAt (w.heap.size) (by omega) 1).trans Ha1.out
    have ap := (HE1.out.cellAt (w.heap.size + 1) (by omega) 0).trans Hap.out
    have ag := (HE1.out.cellAt (w.heap.size + 1 + 1) (by omega) 0).trans Hag.out
    have b0 := (HE1.out.cellAt (w.heap.size + 1 + 1 + 1) (by omega) 0).trans Hb0.out
    have b1 := (HE1.out.cellAt (w.heap.size + 1 + 1 + 1) (by omega) 1).trans Hb1.out
    have b2 := (HE1.out.cellAt (w.heap.size + 1 + 1 + 1) (by omega) 2).trans Hb2.out
    have b3 := (HE1.out.cellAt (w.heap.size + 1 + 1 + 1) (by omega) 3).trans Hb3.out
    clear he1
    go_wp2_with fail
    go_ret
    exact ⟨ret_bool HF.out.symm, HE.out.trans (HE1.out)⟩
  have cH := Lib.hid (fun w1 he => impl_hallsOk H A n c ds A2 n2 c2 gs w1 (hxb.out.keep he) (hxb2.out.keep (w' := w1) he))
  cases hH : hallsB H ds gs
  case false =>
    rw [hH] at cH
    have HF : Hid (canMoveB H ds ps gs ⟨o, t, f, s⟩ = false) := by unfold Hid canMoveB; simp [hH]
    clear hP hH
    go_enter Tryz.func144, Tryz.ntmps144
    go_wp2_with fail
    rw [← Hwb.out]
    refine cP.out.mono ?_
    rintro e w1 ⟨rfl, he1⟩
    have HE1 := Lib.hid he1
    have a0 := (HE1.out.cellAt (w.heap.size) (by omega) 0).trans Ha0.out
    have a1 := (HE1.out.cellAt (w.heap.size) (by omega) 1).trans Ha1.out
    have ap := (HE1.out.cellAt (w.heap.size + 1) (by omega) 0).trans Hap.out
    have ag := (HE1.out.cellAt (w.heap.size + 1 + 1) (by omega) 0).trans Hag.out
    have b0 := (HE1.out.cellAt (w.heap.size + 1 + 1 + 1) (by omega) 0).trans Hb0.out
    have b1 := (HE1.out.cellAt (w.heap.size + 1 + 1 + 1) (by omega) 1).trans Hb1.out
    have b2 := (HE1.out.cellAt (w.heap.size + 1 + 1 + 1) (by omega) 2).trans Hb2.out
    have b3 := (HE1.out.cellAt (w.heap.size + 1 + 1 + 1) (by omega) 3).trans Hb3.out
    clear he1
    go_wp2_with fail
    refine (cH.out w1 (HE1.out)).mono ?_
    rintro e w2 ⟨rfl, he2⟩
    have HE2 := Lib.hid (Ext.trans (HE1.out) he2)
    clear a0 a1 ap ag b0 b1 b2 b3 he2
    have a0 := (HE2.out.cellAt (w.heap.size) (by omega) 0).trans Ha0.out
    have a1 := (HE2.out.cellAt (w.heap.size) (by omega) 1).trans Ha1.out
    have ap := (HE2.out.cellAt (w.heap.size + 1) (by omega) 0).trans Hap.out
    have ag := (HE2.out.cellAt (w.heap.size + 1 + 1) (by omega) 0).trans Hag.out
    have b0 := (HE2.out.cellAt (w.heap.size + 1 + 1 + 1) (by omega) 0).trans Hb0.out
    have b1 := (HE2.out.cellAt (w.heap.size + 1 + 1 + 1) (by omega) 1).trans Hb1.out
    have b2 := (HE2.out.cellAt (w.heap.size + 1 + 1 + 1) (by omega) 2).trans Hb2.out
    have b3 := (HE2.out.cellAt (w.heap.size + 1 + 1 + 1) (by omega) 3).trans Hb3.out
    go_wp2_with fail
    go_ret
    exact ⟨ret_bool HF.out.symm, HE.out.trans (HE2.out)⟩
  rw [hH] at cH
  have cG := Lib.hid (fun w1 he => impl_canGo H A n c ds A1 n1 c1 ps ⟨o, t, f, s⟩ w1 (hxb.out.keep he) (hxb1.out.keep (w' := w1) he))
  cases hG : goB H ds ps ⟨o, t, f, s⟩
  case false =>
    rw [hG] at cG
    have HF : Hid (canMoveB H ds ps gs ⟨o, t, f, s⟩ = false) := by unfold Hid canMoveB; simp [hG]
    clear hP hH hG
    go_enter Tryz.func144, Tryz.ntmps144
    go_wp2_with fail
    rw [← Hwb.out]
    refine cP.out.mono ?_
    rintro e w1 ⟨rfl, he1⟩
    have HE1 := Lib.hid he1
    have a0 := (HE1.out.cellAt (w.heap.size) (by omega) 0).trans Ha0.out
    have a1 := (HE1.out.cellAt (w.heap.size) (by omega) 1).trans Ha1.out
    have ap := (HE1.out.cellAt (w.heap.size + 1) (by omega) 0).trans Hap.out
    have ag := (HE1.out.cellAt (w.heap.size + 1 + 1) (by omega) 0).trans Hag.out
    have b0 := (HE1.out.cellAt (w.heap.size + 1 + 1 + 1) (by omega) 0).trans Hb0.out
    have b1 := (HE1.out.cellAt (w.heap.size + 1 + 1 + 1) (by omega) 1).trans Hb1.out
    have b2 := (HE1.out.cellAt (w.heap.size + 1 + 1 + 1) (by omega) 2).trans Hb2.out
    have b3 := (HE1.out.cellAt (w.heap.size + 1 + 1 + 1) (by omega) 3).trans Hb3.out
    clear he1
    go_wp2_with fail
    refine (cH.out w1 (HE1.out)).mono ?_
    rintro e w2 ⟨rfl, he2⟩
    have HE2 := Lib.hid (Ext.trans (HE1.out) he2)
    clear a0 a1 ap ag b0 b1 b2 b3 he2
    have a0 := (HE2.out.cellAt (w.heap.size) (by omega) 0).trans Ha0.out
    have a1 := (HE2.out.cellAt (w.heap.size) (by omega) 1).trans Ha1.out
    have ap := (HE2.out.cellAt (w.heap.size + 1) (by omega) 0).trans Hap.out
    have ag := (HE2.out.cellAt (w.heap.size + 1 + 1) (by omega) 0).trans Hag.out
    have b0 := (HE2.out.cellAt (w.heap.size + 1 + 1 + 1) (by omega) 0).trans Hb0.out
    have b1 := (HE2.out.cellAt (w.heap.size + 1 + 1 + 1) (by omega) 1).trans Hb1.out
    have b2 := (HE2.out.cellAt (w.heap.size + 1 + 1 + 1) (by omega) 2).trans Hb2.out
    have b3 := (HE2.out.cellAt (w.heap.size + 1 + 1 + 1) (by omega) 3).trans Hb3.out
    go_wp2_with fail
    refine (cG.out w2 (HE2.out)).mono ?_
    rintro e w3 ⟨rfl, he3⟩
    have HE3 := Lib.hid (Ext.trans (HE2.out) he3)
    clear a0 a1 ap ag b0 b1 b2 b3 he3
    have a0 := (HE3.out.cellAt (w.heap.size) (by omega) 0).trans Ha0.out
    have a1 := (HE3.out.cellAt (w.heap.size) (by omega) 1).trans Ha1.out
    have ap := (HE3.out.cellAt (w.heap.size + 1) (by omega) 0).trans Hap.out
    have ag := (HE3.out.cellAt (w.heap.size + 1 + 1) (by omega) 0).trans Hag.out
    have b0 := (HE3.out.cellAt (w.heap.size + 1 + 1 + 1) (by omega) 0).trans Hb0.out
    have b1 := (HE3.out.cellAt (w.heap.size + 1 + 1 + 1) (by omega) 1).trans Hb1.out
    have b2 := (HE3.out.cellAt (w.heap.size + 1 + 1 + 1) (by omega) 2).trans Hb2.out
    have b3 := (HE3.out.cellAt (w.heap.size + 1 + 1 + 1) (by omega) 3).trans Hb3.out
    go_wp2_with fail
    go_ret
    exact ⟨ret_bool HF.out.symm, HE.out.trans (HE3.out)⟩
  rw [hG] at cG
  have cF := Lib.hid (fun W => impl_between f 0 ((n2 : Int) - 1) W)
  have cS := Lib.hid (fun W => impl_between s 0 ((n2 : Int) - 1) W)
  cases hF : inB f 0 ((n2 : Int) - 1)
  case false =>
    rw [hF] at cF
    have HF : Hid (canMoveB H ds ps gs ⟨o, t, f, s⟩ = false) := by unfold Hid canMoveB; simp [hl2.out, hF]
    clear hP hH hG hF cS
    go_enter Tryz.func144, Tryz.ntmps144
    go_wp2_with fail
    rw [← Hwb.out]
    refine cP.out.mono ?_
    rintro e w1 ⟨rfl, he1⟩
    have HE1 := Lib.hid he1
    have a0 := (HE1.out.cellAt (w.heap.size) (by omega) 0).trans Ha0.out
    have a1 := (HE1.out.cellAt (w.heap.size) (by omega) 1).trans Ha1.out
    have ap := (HE1.out.cellAt (w.heap.size + 1) (by omega) 0).trans Hap.out
    have ag := (HE1.out.cellAt (w.heap.size + 1 + 1) (by omega) 0).trans Hag.out
    have b0 := (HE1.out.cellAt (w.heap.size + 1 + 1 + 1) (by omega) 0).trans Hb0.out
    have b1 := (HE1.out.cellAt (w.heap.size + 1 + 1 + 1) (by omega) 1).trans Hb1.out
    have b2 := (HE1.out.cellAt (w.heap.size + 1 + 1 + 1) (by omega) 2).trans Hb2.out
    have b3 := (HE1.out.cellAt (w.heap.size + 1 + 1 + 1) (by omega) 3).trans Hb3.out
    clear he1
    go_wp2_with fail
    refine (cH.out w1 (HE1.out)).mono ?_
    rintro e w2 ⟨rfl, he2⟩
    have HE2 := Lib.hid (Ext.trans (HE1.out) he2)
    clear a0 a1 ap ag b0 b1 b2 b3 he2
    have a0 := (HE2.out.cellAt (w.heap.size) (by omega) 0).trans Ha0.out
    have a1 := (HE2.out.cellAt (w.heap.size) (by omega) 1).trans Ha1.out
    have ap := (HE2.out.cellAt (w.heap.size + 1) (by omega) 0).trans Hap.out
    have ag := (HE2.out.cellAt (w.heap.size + 1 + 1) (by omega) 0).trans Hag.out
    have b0 := (HE2.out.cellAt (w.heap.size + 1 + 1 + 1) (by omega) 0).trans Hb0.out
    have b1 := (HE2.out.cellAt (w.heap.size + 1 + 1 + 1) (by omega) 1).trans Hb1.out
    have b2 := (HE2.out.cellAt (w.heap.size + 1 + 1 + 1) (by omega) 2).trans Hb2.out
    have b3 := (HE2.out.cellAt (w.heap.size + 1 + 1 + 1) (by omega) 3).trans Hb3.out
    go_wp2_with fail
    refine (cG.out w2 (HE2.out)).mono ?_
    rintro e w3 ⟨rfl, he3⟩
    have HE3 := Lib.hid (Ext.trans (HE2.out) he3)
    clear a0 a1 ap ag b0 b1 b2 b3 he3
    have a0 := (HE3.out.cellAt (w.heap.size) (by omega) 0).trans Ha0.out
    have a1 := (HE3.out.cellAt (w.heap.size) (by omega) 1).trans Ha1.out
    have ap := (HE3.out.cellAt (w.heap.size + 1) (by omega) 0).trans Hap.out
    have ag := (HE3.out.cellAt (w.heap.size + 1 + 1) (by omega) 0).trans Hag.out
    have b0 := (HE3.out.cellAt (w.heap.size + 1 + 1 + 1) (by omega) 0).trans Hb0.out
    have b1 := (HE3.out.cellAt (w.heap.size + 1 + 1 + 1) (by omega) 1).trans Hb1.out
    have b2 := (HE3.out.cellAt (w.heap.size + 1 + 1 + 1) (by omega) 2).trans Hb2.out
    have b3 := (HE3.out.cellAt (w.heap.size + 1 + 1 + 1) (by omega) 3).trans Hb3.out
    go_wp2_with (first | (with_reducible exact fail) | (go_at_call 78; first | (with_reducible refine (cF.out _).mono ?_; rintro e w9 ⟨rfl, rfl⟩) | (with_reducible refine (cS.out _).mono ?_; rintro e w9 ⟨rfl, rfl⟩)))
    go_ret
    exact ⟨ret_bool HF.out.symm, HE.out.trans (HE3.out)⟩
  rw [hF] at cF
  cases hS : inB s 0 ((n2 : Int) - 1)
  case false =>
    rw [hS] at cS
    have HF : Hid (canMoveB H ds ps gs ⟨o, t, f, s⟩ = false) := by unfold Hid canMoveB; simp [hl2.out, hS]
    clear hP hH hG hF hS
    go_enter Tryz.func144, Tryz.ntmps144
    go_wp2_with fail
    rw [← Hwb.out]
    refine cP.out.mono ?_
    rintro e w1 ⟨rfl, he1⟩
    have HE1 := Lib.hid he1
    have a0 := (HE1.out.cellAt (w.heap.size) (by omega) 0).trans Ha0.out
    have a1 := (HE1.out.cellAt (w.heap.size) (by omega) 1).trans Ha1.out
    have ap := (HE1.out.cellAt (w.heap.size + 1) (by omega) 0).trans Hap.out
    have ag := (HE1.out.cellAt (w.heap.size + 1 + 1) (by omega) 0).trans Hag.out
    have b0 := (HE1.out.cellAt (w.heap.size + 1 + 1 + 1) (by omega) 0).trans Hb0.out
    have b1 := (HE1.out.cellAt (w.heap.size + 1 + 1 + 1) (by omega) 1).trans Hb1.out
    have b2 := (HE1.out.cellAt (w.heap.size + 1 + 1 + 1) (by omega) 2).trans Hb2.out
    have b3 := (HE1.out.cellAt (w.heap.size + 1 + 1 + 1) (by omega) 3).trans Hb3.out
    clear he1
    go_wp2_with fail
    refine (cH.out w1 (HE1.out)).mono ?_
    rintro e w2 ⟨rfl, he2⟩
    have HE2 := Lib.hid (Ext.trans (HE1.out) he2)
    clear a0 a1 ap ag b0 b1 b2 b3 he2
    have a0 := (HE2.out.cellAt (w.heap.size) (by omega) 0).trans Ha0.out
    have a1 := (HE2.out.cellAt (w.heap.size) (by omega) 1).trans Ha1.out
    have ap := (HE2.out.cellAt (w.heap.size + 1) (by omega) 0).trans Hap.out
    have ag := (HE2.out.cellAt (w.heap.size + 1 + 1) (by omega) 0).trans Hag.out
    have b0 := (HE2.out.cellAt (w.heap.size + 1 + 1 + 1) (by omega) 0).trans Hb0.out
    have b1 := (HE2.out.cellAt (w.heap.size + 1 + 1 + 1) (by omega) 1).trans Hb1.out
    have b2 := (HE2.out.cellAt (w.heap.size + 1 + 1 + 1) (by omega) 2).trans Hb2.out
    have b3 := (HE2.out.cellAt (w.heap.size + 1 + 1 + 1) (by omega) 3).trans Hb3.out
    go_wp2_with fail
    refine (cG.out w2 (HE2.out)).mono ?_
    rintro e w3 ⟨rfl, he3⟩
    have HE3 := Lib.hid (Ext.trans (HE2.out) he3)
    clear a0 a1 ap ag b0 b1 b2 b3 he3
    have a0 := (HE3.out.cellAt (w.heap.size) (by omega) 0).trans Ha0.out
    have a1 := (HE3.out.cellAt (w.heap.size) (by omega) 1).trans Ha1.out
    have ap := (HE3.out.cellAt (w.heap.size + 1) (by omega) 0).trans Hap.out
    have ag := (HE3.out.cellAt (w.heap.size + 1 + 1) (by omega) 0).trans Hag.out
    have b0 := (HE3.out.cellAt (w.heap.size + 1 + 1 + 1) (by omega) 0).trans Hb0.out
    have b1 := (HE3.out.cellAt (w.heap.size + 1 + 1 + 1) (by omega) 1).trans Hb1.out
    have b2 := (HE3.out.cellAt (w.heap.size + 1 + 1 + 1) (by omega) 2).trans Hb2.out
    have b3 := (HE3.out.cellAt (w.heap.size + 1 + 1 + 1) (by omega) 3).trans Hb3.out
    go_wp2_with (first | (with_reducible exact fail) | (go_at_call 78; first | (with_reducible refine (cF.out _).mono ?_; rintro e w9 ⟨rfl, rfl⟩) | (with_reducible refine (cS.out _).mono ?_; rintro e w9 ⟨rfl, rfl⟩)))
    go_ret
    exact ⟨ret_bool HF.out.symm, HE.out.trans (HE3.out)⟩
  rw [hS] at cS
  cases hE : (f == s)
  case true =>
    have hEq : f = s := by simpa using hE
    have HF : Hid (canMoveB H ds ps gs ⟨o, t, f, s⟩ = false) := by unfold Hid canMoveB; simp [hEq]
    clear hP hH hG hF hS hEq
    go_enter Tryz.func144, Tryz.ntmps144
    go_wp2_with fail
    rw [← Hwb.out]
    refine cP.out.mono ?_
    rintro e w1 ⟨rfl, he1⟩
    have HE1 := Lib.hid he1
    have a0 := (HE1.out.cellAt (w.heap.size) (by omega) 0).trans Ha0.out
    have a1 := (HE1.out.cellAt (w.heap.size) (by omega) 1).trans Ha1.out
    have ap := (HE1.out.cellAt (w.heap.size + 1) (by omega) 0).trans Hap.out
    have ag := (HE1.out.cellAt (w.heap.size + 1 + 1) (by omega) 0).trans Hag.out
    have b0 := (HE1.out.cellAt (w.heap.size + 1 + 1 + 1) (by omega) 0).trans Hb0.out
    have b1 := (HE1.out.cellAt (w.heap.size + 1 + 1 + 1) (by omega) 1).trans Hb1.out
    have b2 := (HE1.out.cellAt (w.heap.size + 1 + 1 + 1) (by omega) 2).trans Hb2.out
    have b3 := (HE1.out.cellAt (w.heap.size + 1 + 1 + 1) (by omega) 3).trans Hb3.out
    clear he1
    go_wp2_with fail
    refine (cH.out w1 (HE1.out)).mono ?_
    rintro e w2 ⟨rfl, he2⟩
    have HE2 := Lib.hid (Ext.trans (HE1.out) he2)
    clear a0 a1 ap ag b0 b1 b2 b3 he2
    have a0 := (HE2.out.cellAt (w.heap.size) (by omega) 0).trans Ha0.out
    have a1 := (HE2.out.cellAt (w.heap.size) (by omega) 1).trans Ha1.out
    have ap := (HE2.out.cellAt (w.heap.size + 1) (by omega) 0).trans Hap.out
    have ag := (HE2.out.cellAt (w.heap.size + 1 + 1) (by omega) 0).trans Hag.out
    have b0 := (HE2.out.cellAt (w.heap.size + 1 + 1 + 1) (by omega) 0).trans Hb0.out
    have b1 := (HE2.out.cellAt (w.heap.size + 1 + 1 + 1) (by omega) 1).trans Hb1.out
    have b2 := (HE2.out.cellAt (w.heap.size + 1 + 1 + 1) (by omega) 2).trans Hb2.out
    have b3 := (HE2.out.cellAt (w.heap.size + 1 + 1 + 1) (by omega) 3).trans Hb3.out
    go_wp2_with fail
    refine (cG.out w2 (HE2.out)).mono ?_
    rintro e w3 ⟨rfl, he3⟩
    have HE3 := Lib.hid (Ext.trans (HE2.out) he3)
    clear a0 a1 ap ag b0 b1 b2 b3 he3
    have a0 := (HE3.out.cellAt (w.heap.size) (by omega) 0).trans Ha0.out
    have a1 := (HE3.out.cellAt (w.heap.size) (by omega) 1).trans Ha1.out
    have ap := (HE3.out.cellAt (w.heap.size + 1) (by omega) 0).trans Hap.out
    have ag := (HE3.out.cellAt (w.heap.size + 1 + 1) (by omega) 0).trans Hag.out
    have b0 := (HE3.out.cellAt (w.heap.size + 1 + 1 + 1) (by omega) 0).trans Hb0.out
    have b1 := (HE3.out.cellAt (w.heap.size + 1 + 1 + 1) (by omega) 1).trans Hb1.out
    have b2 := (HE3.out.cellAt (w.heap.size + 1 + 1 + 1) (by omega) 2).trans Hb2.out
    have b3 := (HE3.out.cellAt (w.heap.size + 1 + 1 + 1) (by omega) 3).trans Hb3.out
    go_wp2_with (first | (with_reducible exact fail) | (go_at_call 78; first | (with_reducible refine (cF.out _).mono ?_; rintro e w9 ⟨rfl, rfl⟩) | (with_reducible refine (cS.out _).mono ?_; rintro e w9 ⟨rfl, rfl⟩)))
    go_ret
    exact ⟨ret_bool HF.out.symm, HE.out.trans (HE3.out)⟩
  have hfs : 0 ≤ f ∧ f ≤ (n2 : Int) - 1 := by simpa [inB] using hF
  have hss : 0 ≤ s ∧ s ≤ (n2 : Int) - 1 := by simpa [inB] using hS
  have hos : 0 ≤ o ∧ o ≤ (n1 : Int) - 1 := by (have h := hG; unfold goB at h; rw [Bool.and_eq_true, hl1.out] at h; simpa [inB] using h.1)
  have cN1 := Lib.hid (fun w1 (he : Ext wb w1) => impl_CanMove1 (w.heap.size + 1 + 1) (w.heap.size + 1) (w.heap.size + 1 + 1 + 1) A1 n1 c1 ps A2 n2 c2 gs ⟨o, t, f, s⟩ f w1 (hxb1.out.keep he) (hxb2.out.keep he) ((he.cellAt _ (by omega) _).trans Hag.out) ((he.cellAt _ (by omega) _).trans Hap.out) ((he.cellAt _ (by omega) _).trans Hb0.out) ((he.cellAt _ (by omega) _).trans Hb1.out) (by omega) (by omega) (by dsimp only; omega) (by dsimp only; omega))
  have cN2 := Lib.hid (fun w1 (he : Ext wb w1) => impl_CanMove1 (w.heap.size + 1 + 1) (w.heap.size + 1) (w.heap.size + 1 + 1 + 1) A1 n1 c1 ps A2 n2 c2 gs ⟨o, t, f, s⟩ s w1 (hxb1.out.keep he) (hxb2.out.keep he) ((he.cellAt _ (by omega) _).trans Hag.out) ((he.cellAt _ (by omega) _).trans Hap.out) ((he.cellAt _ (by omega) _).trans Hb0.out) ((he.cellAt _ (by omega) _).trans Hb1.out) (by omega) (by omega) (by dsimp only; omega) (by dsimp only; omega))
  have hne : (f != s) = true := by simp at hE; simp [hE]
  have HV : Hid (canMoveB H ds ps gs ⟨o, t, f, s⟩ = (nearB gs ps ⟨o, t, f, s⟩ f && nearB gs ps ⟨o, t, f, s⟩ s)) := by unfold Hid canMoveB; simp only [hP, hH, hG, hl2.out, decide_eq_true h6, hF, hS, hne, Bool.true_and]
  clear hfs hss hos hne hP hH hG hF hS
  cases hN : nearB gs ps ⟨o, t, f, s⟩ f
  case false =>
    rw [hN] at cN1
    have HF : Hid (canMoveB H ds ps gs ⟨o, t, f, s⟩ = false) := by unfold Hid; rw [HV.out, hN]; rfl
    clear hN cN2
    go_enter Tryz.func144, Tryz.ntmps144
    go_wp2_with fail
    rw [← Hwb.out]
    refine cP.out.mono ?_
    rintro e w1 ⟨rfl, he1⟩
    have HE1 := Lib.hid he1
    have a0 := (HE1.out.cellAt (w.heap.size) (by omega) 0).trans Ha0.out
    have a1 := (HE1.out.cellAt (w.heap.size) (by omega) 1).trans Ha1.out
    have ap := (HE1.out.cellAt (w.heap.size + 1) (by omega) 0).trans Hap.out
    have ag := (HE1.out.cellAt (w.heap.size + 1 + 1) (by omega) 0).trans Hag.out
    have b0 := (HE1.out.cellAt (w.heap.size + 1 + 1 + 1) (by omega) 0).trans Hb0.out
    have b1 := (HE1.out.cellAt (w.heap.size + 1 + 1 + 1) (by omega) 1).trans Hb1.out
    have b2 := (HE1.out.cellAt (w.heap.size + 1 + 1 + 1) (by omega) 2).trans Hb2.out
    have b3 := (HE1.out.cellAt (w.heap.size + 1 + 1 + 1) (by omega) 3).trans Hb3.out
    clear he1
    go_wp2_with fail
    refine (cH.out w1 (HE1.out)).mono ?_
    rintro e w2 ⟨rfl, he2⟩
    have HE2 := Lib.hid (Ext.trans (HE1.out) he2)
    clear a0 a1 ap ag b0 b1 b2 b3 he2
    have a0 := (HE2.out.cellAt (w.heap.size) (by omega) 0).trans Ha0.out
    have a1 := (HE2.out.cellAt (w.heap.size) (by omega) 1).trans Ha1.out
    have ap := (HE2.out.cellAt (w.heap.size + 1) (by omega) 0).trans Hap.out
    have ag := (HE2.out.cellAt (w.heap.size + 1 + 1) (by omega) 0).trans Hag.out
    have b0 := (HE2.out.cellAt (w.heap.size + 1 + 1 + 1) (by omega) 0).trans Hb0.out
    have b1 := (HE2.out.cellAt (w.heap.size + 1 + 1 + 1) (by omega) 1).trans Hb1.out
    have b2 := (HE2.out.cellAt (w.heap.size + 1 + 1 + 1) (by omega) 2).trans Hb2.out
    have b3 := (HE2.out.cellAt (w.heap.size + 1 + 1 + 1) (by omega) 3).trans Hb3.out
    go_wp2_with fail
    refine (cG.out w2 (HE2.out)).mono ?_
    rintro e w3 ⟨rfl, he3⟩
    have HE3 := Lib.hid (Ext.trans (HE2.out) he3)
    clear a0 a1 ap ag b0 b1 b2 b3 he3
    have a0 := (HE3.out.cellAt (w.heap.size) (by omega) 0).trans Ha0.out
    have a1 := (HE3.out.cellAt (w.heap.size) (by omega) 1).trans Ha1.out
    have ap := (HE3.out.cellAt (w.heap.size + 1) (by omega) 0).trans Hap.out
    have ag := (HE3.out.cellAt (w.heap.size + 1 + 1) (by omega) 0).trans Hag.out
    have b0 := (HE3.out.cellAt (w.heap.size + 1 + 1 + 1) (by omega) 0).trans Hb0.out
    have b1 := (HE3.out.cellAt (w.heap.size + 1 + 1 + 1) (by omega) 1).trans Hb1.out
    have b2 := (HE3.out.cellAt (w.heap.size + 1 + 1 + 1) (by omega) 2).trans Hb2.out
    have b3 := (HE3.out.cellAt (w.heap.size + 1 + 1 + 1) (by omega) 3).trans Hb3.out
    go_wp2_with (first | (with_reducible exact fail) | (go_at_call 78; first | (with_reducible refine (cF.out _).mono ?_; rintro e w9 ⟨rfl, rfl⟩) | (with_reducible refine (cS.out _).mono ?_; rintro e w9 ⟨rfl, rfl⟩)))
    refine (cN1.out w3 (HE3.out)).mono ?_
    rintro e w4 ⟨rfl, he4⟩
    have HE4 := Lib.hid (Ext.trans (HE3.out) he4)
    clear a0 a1 ap ag b0 b1 b2 b3 he4
    have a0 := (HE4.out.cellAt (w.heap.size) (by omega) 0).trans Ha0.out
    have a1 := (HE4.out.cellAt (w.heap.size) (by omega) 1).trans Ha1.out
    have ap := (HE4.out.cellAt (w.heap.size + 1) (by omega) 0).trans Hap.out
    have ag := (HE4.out.cellAt (w.heap.size + 1 + 1) (by omega) 0).trans Hag.out
    have b0 := (HE4.out.cellAt (w.heap.size + 1 + 1 + 1) (by omega) 0).trans Hb0.out
    have b1 := (HE4.out.cellAt (w.heap.size + 1 + 1 + 1) (by omega) 1).trans Hb1.out
    have b2 := (HE4.out.cellAt (w.heap.size + 1 + 1 + 1) (by omega) 2).trans Hb2.out
    have b3 := (HE4.out.cellAt (w.heap.size + 1 + 1 + 1) (by omega) 3).trans Hb3.out
    go_wp2_with fail
    go_ret
    exact ⟨ret_bool HF.out.symm, HE.out.trans (HE4.out)⟩
  rw [hN] at cN1
  cases hM : nearB gs ps ⟨o, t, f, s⟩ s
  case false =>
    rw [hM] at cN2
    have HF : Hid (canMoveB H ds ps gs ⟨o, t, f, s⟩ = false) := by unfold Hid; rw [HV.out, hN, hM]; rfl
    clear hN hM
    go_enter Tryz.func144, Tryz.ntmps144
    go_wp2_with fail
    rw [← Hwb.out]
    refine cP.out.mono ?_
    rintro e w1 ⟨rfl, he1⟩
    have HE1 := Lib.hid he1
    have a0 := (HE1.out.cellAt (w.heap.size) (by omega) 0).trans Ha0.out
    have a1 := (HE1.out.cellAt (w.heap.size) (by omega) 1).trans Ha1.out
    have ap := (HE1.out.cellAt (w.heap.size + 1) (by omega) 0).trans Hap.out
    have ag := (HE1.out.cellAt (w.heap.size + 1 + 1) (by omega) 0).trans Hag.out
    have b0 := (HE1.out.cellAt (w.heap.size + 1 + 1 + 1) (by omega) 0).trans Hb0.out
    have b1 := (HE1.out.cellAt (w.heap.size + 1 + 1 + 1) (by omega) 1).trans Hb1.out
    have b2 := (HE1.out.cellAt (w.heap.size + 1 + 1 + 1) (by omega) 2).trans Hb2.out
    have b3 := (HE1.out.cellAt (w.heap.size + 1 + 1 + 1) (by omega) 3).trans Hb3.out
    clear he1
    go_wp2_with fail
    refine (cH.out w1 (HE1.out)).mono ?_
    rintro e w2 ⟨rfl, he2⟩
    have HE2 := Lib.hid (Ext.trans (HE1.out) he2)
    clear a0 a1 ap ag b0 b1 b2 b3 he2
    have a0 := (HE2.out.cellAt (w.heap.size) (by omega) 0).trans Ha0.out
    have a1 := (HE2.out.cellAt (w.heap.size) (by omega) 1).trans Ha1.out
    have ap := (HE2.out.cellAt (w.heap.size + 1) (by omega) 0).trans Hap.out
    have ag := (HE2.out.cellAt (w.heap.size + 1 + 1) (by omega) 0).trans Hag.out
    have b0 := (HE2.out.cellAt (w.heap.size + 1 + 1 + 1) (by omega) 0).trans Hb0.out
    have b1 := (HE2.out.cellAt (w.heap.size + 1 + 1 + 1) (by omega) 1).trans Hb1.out
    have b2 := (HE2.out.cellAt (w.heap.size + 1 + 1 + 1) (by omega) 2).trans Hb2.out
    have b3 := (HE2.out.cellAt (w.heap.size + 1 + 1 + 1) (by omega) 3).trans Hb3.out
    go_wp2_with fail
    refine (cG.out w2 (HE2.out)).mono ?_
    rintro e w3 ⟨rfl, he3⟩
    have HE3 := Lib.hid (Ext.trans (HE2.out) he3)
    clear a0 a1 ap ag b0 b1 b2 b3 he3
    have a0 := (HE3.out.cellAt (w.heap.size) (by omega) 0).trans Ha0.out
    have a1 := (HE3.out.cellAt (w.heap.size) (by omega) 1).trans Ha1.out
    have ap := (HE3.out.cellAt (w.heap.size + 1) (by omega) 0).trans Hap.out
    have ag := (HE3.out.cellAt (w.heap.size + 1 + 1) (by omega) 0).trans Hag.out
    have b0 := (HE3.out.cellAt (w.heap.size + 1 + 1 + 1) (by omega) 0).trans Hb0.out
    have b1 := (HE3.out.cellAt (w.heap.size + 1 + 1 + 1) (by omega) 1).trans Hb1.out
    have b2 := (HE3.out.cellAt (w.heap.size + 1 + 1 + 1) (by omega) 2).trans Hb2.out
    have b3 := (HE3.out.cellAt (w.heap.size + 1 + 1 + 1) (by omega) 3).trans Hb3.out
    go_wp2_with (first | (with_reducible exact fail) | (go_at_call 78; first | (with_reducible refine (cF.out _).mono ?_; rintro e w9 ⟨rfl, rfl⟩) | (with_reducible refine (cS.out _).mono ?_; rintro e w9 ⟨rfl, rfl⟩)))
    refine (cN1.out w3 (HE3.out)).mono ?_
    rintro e w4 ⟨rfl, he4⟩
    have HE4 := Lib.hid (Ext.trans (HE3.out) he4)
    clear a0 a1 ap ag b0 b1 b2 b3 he4
    have a0 := (HE4.out.cellAt (w.heap.size) (by omega) 0).trans Ha0.out
    have a1 := (HE4.out.cellAt (w.heap.size) (by omega) 1).trans Ha1.out
    have ap := (HE4.out.cellAt (w.heap.size + 1) (by omega) 0).trans Hap.out
    have ag := (HE4.out.cellAt (w.heap.size + 1 + 1) (by omega) 0).trans Hag.out
    have b0 := (HE4.out.cellAt (w.heap.size + 1 + 1 + 1) (by omega) 0).trans Hb0.out
    have b1 := (HE4.out.cellAt (w.heap.size + 1 + 1 + 1) (by omega) 1).trans Hb1.out
    have b2 := (HE4.out.cellAt (w.heap.size + 1 + 1 + 1) (by omega) 2).trans Hb2.out
    have b3 := (HE4.out.cellAt (w.heap.size + 1 + 1 + 1) (by omega) 3).trans Hb3.out
    go_wp2_with fail
    refine (cN2.out w4 (HE4.out)).mono ?_
    rintro e w5 ⟨rfl, he5⟩
    have HE5 := Lib.hid (Ext.trans (HE4.out) he5)
    clear a0 a1 ap ag b0 b1 b2 b3 he5
    have a0 := (HE5.out.cellAt (w.heap.size) (by omega) 0).trans Ha0.out
    have a1 := (HE5.out.cellAt (w.heap.size) (by omega) 1).trans Ha1.out
    have ap := (HE5.out.cellAt (w.heap.size + 1) (by omega) 0).trans Hap.out
    have ag := (HE5.out.cellAt (w.heap.size + 1 + 1) (by omega) 0).trans Hag.out
    have b0 := (HE5.out.cellAt (w.heap.size + 1 + 1 + 1) (by omega) 0).trans Hb0.out
    have b1 := (HE5.out.cellAt (w.heap.size + 1 + 1 + 1) (by omega) 1).trans Hb1.out
    have b2 := (HE5.out.cellAt (w.heap.size + 1 + 1 + 1) (by omega) 2).trans Hb2.out
    have b3 := (HE5.out.cellAt (w.heap.size + 1 + 1 + 1) (by omega) 3).trans Hb3.out
    go_wp2_with fail
    go_ret
    exact ⟨ret_bool HF.out.symm, HE.out.trans (HE5.out)⟩
  case true =>
    rw [hM] at cN2
    have HF : Hid (canMoveB H ds ps gs ⟨o, t, f, s⟩ = true) := by unfold Hid; rw [HV.out, hN, hM]; rfl
    clear hN hM
    go_enter Tryz.func144, Tryz.ntmps144
    go_wp2_with fail
    rw [← Hwb.out]
    refine cP.out.mono ?_
    rintro e w1 ⟨rfl, he1⟩
    have HE1 := Lib.hid he1
    have a0 := (HE1.out.cellAt (w.heap.size) (by omega) 0).trans Ha0.out
    have a1 := (HE1.out.cellAt (w.heap.size) (by omega) 1).trans Ha1.out
    have ap := (HE1.out.cellAt (w.heap.size + 1) (by omega) 0).trans Hap.out
    have ag := (HE1.out.cellAt (w.heap.size + 1 + 1) (by omega) 0).trans Hag.out
    have b0 := (HE1.out.cellAt (w.heap.size + 1 + 1 + 1) (by omega) 0).trans Hb0.out
    have b1 := (HE1.out.cellAt (w.heap.size + 1 + 1 + 1) (by omega) 1).trans Hb1.out
    have b2 := (HE1.out.cellAt (w.heap.size + 1 + 1 + 1) (by omega) 2).trans Hb2.out
    have b3 := (HE1.out.cellAt (w.heap.size + 1 + 1 + 1) (by omega) 3).trans Hb3.out
    clear he1
    go_wp2_with fail
    refine (cH.out w1 (HE1.out)).mono ?_
    rintro e w2 ⟨rfl, he2⟩
    have HE2 := Lib.hid (Ext.trans (HE1.out) he2)
    clear a0 a1 ap ag b0 b1 b2 b3 he2
    have a0 := (HE2.out.cellAt (w.heap.size) (by omega) 0).trans Ha0.out
    have a1 := (HE2.out.cellAt (w.heap.size) (by omega) 1).trans Ha1.out
    have ap := (HE2.out.cellAt (w.heap.size + 1) (by omega) 0).trans Hap.out
    have ag := (HE2.out.cellAt (w.heap.size + 1 + 1) (by omega) 0).trans Hag.out
    have b0 := (HE2.out.cellAt (w.heap.size + 1 + 1 + 1) (by omega) 0).trans Hb0.out
    have b1 := (HE2.out.cellAt (w.heap.size + 1 + 1 + 1) (by omega) 1).trans Hb1.out
    have b2 := (HE2.out.cellAt (w.heap.size + 1 + 1 + 1) (by omega) 2).trans Hb2.out
    have b3 := (HE2.out.cellAt (w.heap.size + 1 + 1 + 1) (by omega) 3).trans Hb3.out
    go_wp2_with fail
    refine (cG.out w2 (HE2.out)).mono ?_
    rintro e w3 ⟨rfl, he3⟩
    have HE3 := Lib.hid (Ext.trans (HE2.out) he3)
    clear a0 a1 ap ag b0 b1 b2 b3 he3
    have a0 := (HE3.out.cellAt (w.heap.size) (by omega) 0).trans Ha0.out
    have a1 := (HE3.out.cellAt (w.heap.size) (by omega) 1).trans Ha1.out
    have ap := (HE3.out.cellAt (w.heap.size + 1) (by omega) 0).trans Hap.out
    have ag := (HE3.out.cellAt (w.heap.size + 1 + 1) (by omega) 0).trans Hag.out
    have b0 := (HE3.out.cellAt (w.heap.size + 1 + 1 + 1) (by omega) 0).trans Hb0.out
    have b1 := (HE3.out.cellAt (w.heap.size + 1 + 1 + 1) (by omega) 1).trans Hb1.out
    have b2 := (HE3.out.cellAt (w.heap.size + 1 + 1 + 1) (by omega) 2).trans Hb2.out
    have b3 := (HE3.out.cellAt (w.heap.size + 1 + 1 + 1) (by omega) 3).trans Hb3.out
    go_wp2_with (first | (with_reducible exact fail) | (go_at_call 78; first | (with_reducible refine (cF.out _).mono ?_; rintro e w9 ⟨rfl, rfl⟩) | (with_reducible refine (cS.out _).mono ?_; rintro e w9 ⟨rfl, rfl⟩)))
    refine (cN1.out w3 (HE3.out)).mono ?_
    rintro e w4 ⟨rfl, he4⟩
    have HE4 := Lib.hid (Ext.trans (HE3.out) he4)
    clear a0 a1 ap ag b0 b1 b2 b3 he4
    have a0 := (HE4.out.cellAt (w.heap.size) (by omega) 0).trans Ha0.out
    have a1 := (HE4.out.cellAt (w.heap.size) (by omega) 1).trans Ha1.out
    have ap := (HE4.out.cellAt (w.heap.size + 1) (by omega) 0).trans Hap.out
    have ag := (HE4.out.cellAt (w.heap.size + 1 + 1) (by omega) 0).trans Hag.out
    have b0 := (HE4.out.cellAt (w.heap.size + 1 + 1 + 1) (by omega) 0).trans Hb0.out
    have b1 := (HE4.out.cellAt (w.heap.size + 1 + 1 + 1) (by omega) 1).trans Hb1.out
    have b2 := (HE4.out.cellAt (w.heap.size + 1 + 1 + 1) (by omega) 2).trans Hb2.out
    have b3 := (HE4.out.cellAt (w.heap.size + 1 + 1 + 1) (by omega) 3).trans Hb3.out
    go_wp2_with fail
    refine (cN2.out w4 (HE4.out)).mono ?_
    rintro e w5 ⟨rfl, he5⟩
    have HE5 := Lib.hid (Ext.trans (HE4.out) he5)
    clear a0 a1 ap ag b0 b1 b2 b3 he5
    have a0 := (HE5.out.cellAt (w.heap.size) (by omega) 0).trans Ha0.out
    have a1 := (HE5.out.cellAt (w.heap.size) (by omega) 1).trans Ha1.out
    have ap := (HE5.out.cellAt (w.heap.size + 1) (by omega) 0).trans Hap.out
    have ag := (HE5.out.cellAt (w.heap.size + 1 + 1) (by omega) 0).trans Hag.out
    have b0 := (HE5.out.cellAt (w.heap.size + 1 + 1 + 1) (by omega) 0).trans Hb0.out
    have b1 := (HE5.out.cellAt (w.heap.size + 1 + 1 + 1) (by omega) 1).trans Hb1.out
    have b2 := (HE5.out.cellAt (w.heap.size + 1 + 1 + 1) (by omega) 2).trans Hb2.out
    have b3 := (HE5.out.cellAt (w.heap.size + 1 + 1 + 1) (by omega) 3).trans Hb3.out
    go_wp2_with fail
    go_ret
    exact ⟨ret_bool HF.out.symm, HE.out.trans (HE5.out)⟩
end Go.Proofs.YtkelmeemblmggaaGreatDoor
