/- Contracts of the laws' marks on museums; no condition but what stands at each theorem. -/
import Derived.Test.YtkelmeemblmggaaH7
import Derived.Test.YtkelmeemblmggaaSN1
namespace Go.Proofs.Ytkelmeemblmggaa
set_option linter.unusedSimpArgs false
set_option linter.unusedVariables false
open Go.RowKit Go.Sort
def mk1 (k : Int) (v : MV) : Int := k + v.sd.n * 2
def mk2 (k : Int) (v : MV) : Int := mk1 k v + v.sf.n
def mk3 (k : Int) (v : MV) : Int := mk2 k v + v.sp.n
def mk4 (k : Int) (v : MV) : Int := mk3 k v + v.sg.n
def markEnd (k : Int) (v : MV) : Int := mk4 k v + v.sr.n * 3
/-- The museum that the marks make. -/
def markMus (k : Int) (v : MV) (m : GMuseum) : GMuseum := ⟨m.H, markDoorL k v.sd.n, markIntL (mk1 k v) v.sf.n, markIntL (mk2 k v) v.sp.n, markIntL (mk3 k v) v.sg.n, m.d, markEntryL (mk4 k v) v.sr.n⟩
set_option maxRecDepth 100000 in
set_option maxHeartbeats 2000000 in
theorem laws_markMuseum (v : MV) (m : GMuseum) (k : Int) (base hi : Nat) (w : World) (ho : MOwn w base v m) (hat : MAt base hi v) (hf : MFit v) (hhi : hi ≤ w.heap.size) (hk0 : 0 ≤ k) (hk1 : k ≤ 1000000) :
    Calls Try.prog 10 #[v.val, .int .i64 k] w fun e w' => e = .returned (.int .i64 (markEnd k v)) ∧ MOwn w' base v (markMus k v m) ∧ KeptOut base hi w w' := by
  obtain ⟨wb, hwb⟩ : ∃ wb, wb = w.alloc (.cells v.cells 28) := ⟨_, rfl⟩
  have hbx := MBox.new hwb
  have hE : Ext w wb := by rw [hwb]; exact (Ext.refl w).alloc _
  have HO := Lib.hid (ho.keep hE)
  have HAT := Lib.hid hat
  obtain ⟨d1, d2, d3, d4, f1, f2, f3, p1, p2, g1⟩ := aparts ho.ap
  have HAP := Lib.hid ho.ap
  have HeH := Lib.hid ho.eH
  have Hed := Lib.hid ho.ed
  have nd := hf.nd
  have nf := hf.nf
  have np := hf.np
  have ng := hf.ng
  have nr := hf.nr
  have HK0 : Hid (KeptOut base hi w wb) := Lib.hid (.of_ext hE)
  have HB := Lib.hid hbx
  have HD1 := Lib.hid d1
  have HD2 := Lib.hid d2
  have HD3 := Lib.hid d3
  have HD4 := Lib.hid d4
  have HF1 := Lib.hid f1
  have HF2 := Lib.hid f2
  have HF3 := Lib.hid f3
  have HP1 := Lib.hid p1
  have HP2 := Lib.hid p2
  have HG1 := Lib.hid g1
  obtain ⟨Hh, ⟨A0, n0, c0⟩, ⟨A1, n1, c1⟩, ⟨A2, n2, c2⟩, ⟨A3, n3, c3⟩, day, ⟨A4, n4, c4⟩⟩ := v
  simp only at nd nf np ng nr
  have Hwb : Hid (wb = w.alloc (.cells #[.int .i64 Hh, .slice A0 n0 c0, .slice A1 n1 c1, .slice A2 n2 c2, .slice A3 n3 c3, .int .i64 day, .slice A4 n4 c4] 28)) := hwb
  clear hwb hbx hE ho hat d1 d2 d3 d4 f1 f2 f3 p1 p2 g1 hf
  show Calls Try.prog 10 #[.agg #[.int .i64 Hh, .slice A0 n0 c0, .slice A1 n1 c1, .slice A2 n2 c2, .slice A3 n3 c3, .int .i64 day, .slice A4 n4 c4], .int .i64 k] w _
  have b0 := HB.out.c0
  have b1 := HB.out.c1
  simp only at b0 b1
  go_enter Try.func10, Try.ntmps10
  go_wp2_with (go_at_call 19; refine (fun h : Hid _ => h.out) ?_)
  unfold Hid
  rw [← Hwb.out]
  refine (laws_markHouse Hh A0 n0 c0 k base _ wb HO.out.od nd hk0 (by omega)).mono ?_
  rintro e w1 ⟨rfl, o1, g1⟩
  have K1 := Lib.hid (KeptOut.of_at g1 HAT.out.1)
  have O1 := Lib.hid o1
  have F1 := Lib.hid (own_apart HO.out.of_ (Apart.symm HD1.out) g1)
  have P1 := Lib.hid (own_apart HO.out.op (Apart.symm HD2.out) g1)
  have G1 := Lib.hid (own_apart HO.out.og (Apart.symm HD3.out) g1)
  have R1 := Lib.hid (own_apart HO.out.or_ (Apart.symm HD4.out) g1)
  have B1 := Lib.hid (HB.out.out K1.out (.inr hhi))
  clear g1 o1 b0 b1
  have b2 := B1.out.c2
  simp only at b2
  go_wp2_with (go_at_call 20; refine (fun h : Hid _ => h.out) ?_)
  unfold Hid
  refine (laws_markIntS A1 n1 c1 _ base _ w1 F1.out nf (by omega) (by omega)).mono ?_
  rintro e w2 ⟨rfl, o2, g2⟩
  have K2 := Lib.hid (KeptOut.trans K1.out (KeptOut.of_at g2 HAT.out.2.1))
  have F2 := Lib.hid o2
  have O2 := Lib.hid (own_apart O1.out HD1.out g2)
  have P2 := Lib.hid (own_apart P1.out (Apart.symm HF1.out) g2)
  have G2 := Lib.hid (own_apart G1.out (Apart.symm HF2.out) g2)
  have R2 := Lib.hid (own_apart R1.out (Apart.symm HF3.out) g2)
  have B2 := Lib.hid (HB.out.out K2.out (.inr hhi))
  clear g2 o2 b2
  have b3 := B2.out.c3
  simp only at b3
  go_wp2_with (go_at_call 20; refine (fun h : Hid _ => h.out) ?_)
  unfold Hid
  refine (laws_markIntS A2 n2 c2 _ base _ w2 P2.out np (by omega) (by omega)).mono ?_
  rintro e w3 ⟨rfl, o3, g3⟩
  have K3 := Lib.hid (KeptOut.trans K2.out (KeptOut.of_at g3 HAT.out.2.2.1))
  have P3 := Lib.hid o3
  have O3 := Lib.hid (own_apart O2.out HD2.out g3)
  have F3 := Lib.hid (own_apart F2.out HF1.out g3)
  have G3 := Lib.hid (own_apart G2.out (Apart.symm HP1.out) g3)
  have R3 := Lib.hid (own_apart R2.out (Apart.symm HP2.out) g3)
  have B3 := Lib.hid (HB.out.out K3.out (.inr hhi))
  clear g3 o3 b3
  have b4 := B3.out.c4
  simp only at b4
  go_wp2_with (go_at_call 20; refine (fun h : Hid _ => h.out) ?_)
  unfold Hid
  refine (laws_markIntS A3 n3 c3 _ base _ w3 G3.out ng (by omega) (by omega)).mono ?_
  rintro e w4 ⟨rfl, o4, g4⟩
  have K4 := Lib.hid (KeptOut.trans K3.out (KeptOut.of_at g4 HAT.out.2.2.2.1))
  have G4 := Lib.hid o4
  have O4 := Lib.hid (own_apart O3.out HD3.out g4)
  have F4 := Lib.hid (own_apart F3.out HF2.out g4)
  have P4 := Lib.hid (own_apart P3.out HP1.out g4)
  have R4 := Lib.hid (own_apart R3.out (Apart.symm HG1.out) g4)
  have B4 := Lib.hid (HB.out.out K4.out (.inr hhi))
  clear g4 o4 b4
  have b6 := B4.out.c6
  simp only at b6
  go_wp2_with (go_at_call 28; refine (fun h : Hid _ => h.out) ?_)
  unfold Hid
  refine (laws_markEntryS A4 n4 c4 _ base _ w4 R4.out nr (by omega) (by omega)).mono ?_
  rintro e w5 ⟨rfl, o5, g5⟩
  have K5 := Lib.hid (KeptOut.trans K4.out (KeptOut.of_at g5 HAT.out.2.2.2.2))
  have R5 := Lib.hid o5
  have O5 := Lib.hid (own_apart O4.out HD4.out g5)
  have F5 := Lib.hid (own_apart F4.out HF3.out g5)
  have P5 := Lib.hid (own_apart P4.out HP2.out g5)
  have G5 := Lib.hid (own_apart G4.out HG1.out g5)
  clear g5 o5 b6
  go_wp2_with fail
  go_ret
  exact ⟨rfl, ⟨HeH.out, Hed.out, O5.out, F5.out, P5.out, G5.out, R5.out, HAP.out⟩, HK0.out.trans K5.out⟩
theorem laws_heldHouse (H : Int) (A : Option Addr) (n c : Nat) (k : Int) (w : World) (hx : Rd w 2 A n ((markDoorL k n).flatMap GDoor.enc)) (hn : n ≤ 1048576) (hk0 : 0 ≤ k) (hk1 : k ≤ 1099511627776) :
    Calls Try.prog 29 #[.agg #[.int .i64 H, .slice A n c], .int .i64 k] w fun e w' => e = .returned (.int .i64 (k + ↑n * 2)) ∧ Ext w w' := by
  have HC := Lib.hid (laws_heldDoorS A n c k _ (hx.keep ((Ext.refl w).alloc (.cells #[.int .i64 H, .slice A n c] 24))) hn hk0 hk1)
  clear hx
  have hk2 : ¬ k + ↑n * 2 < 0 := by omega
  go_enter Try.func29, Try.ntmps29
  go_wp2_with (go_at_call 49; refine (fun h : Hid _ => h.out) ?_)
  unfold Hid
  refine HC.out.mono ?_
  rintro e w1 ⟨rfl, hb1⟩
  have HB1 := Lib.hid (((Ext.refl w).alloc (.cells #[.int .i64 H, .slice A n c] 24)).trans hb1)
  clear hb1
  go_wp2_with fail
  go_ret
  exact ⟨rfl, HB1.out⟩
theorem mk_bounds {k : Int} {n0 n1 n2 n3 n4 : Nat} (hk0 : 0 ≤ k) (hk1 : k ≤ 1000000) (h0 : n0 ≤ 1048576) (h1 : n1 ≤ 1048576) (h2 : n2 ≤ 1048576) (h3 : n3 ≤ 1048576) (h4 : n4 ≤ 1048576) :
    (0 ≤ k + ↑n0 * 2 ∧ k + ↑n0 * 2 ≤ 4000000) ∧ (0 ≤ k + ↑n0 * 2 + ↑n1 ∧ k + ↑n0 * 2 + ↑n1 ≤ 6000000) ∧ (0 ≤ k + ↑n0 * 2 + ↑n1 + ↑n2 ∧ k + ↑n0 * 2 + ↑n1 + ↑n2 ≤ 8000000) ∧ (0 ≤ k + ↑n0 * 2 + ↑n1 + ↑n2 + ↑n3 ∧ k + ↑n0 * 2 + ↑n1 + ↑n2 + ↑n3 ≤ 10000000) ∧ 0 ≤ k + ↑n0 * 2 + ↑n1 + ↑n2 + ↑n3 + ↑n4 * 3 := by
  have e0 : (n0 : Int) ≤ 1048576 := by omega
  have e1 : (n1 : Int) ≤ 1048576 := by omega
  have e2 : (n2 : Int) ≤ 1048576 := by omega
  have e3 : (n3 : Int) ≤ 1048576 := by omega
  have a1 : 0 ≤ k + ↑n0 * 2 ∧ k + ↑n0 * 2 ≤ 4000000 := by omega
  have a2 : 0 ≤ k + ↑n0 * 2 + ↑n1 ∧ k + ↑n0 * 2 + ↑n1 ≤ 6000000 := by constructor <;> omega
  have a3 : 0 ≤ k + ↑n0 * 2 + ↑n1 + ↑n2 ∧ k + ↑n0 * 2 + ↑n1 + ↑n2 ≤ 8000000 := ⟨Int.add_nonneg a2.1 (Int.natCast_nonneg _), Int.le_trans (Int.add_le_add a2.2 e2) (by decide)⟩
  have a4 : 0 ≤ k + ↑n0 * 2 + ↑n1 + ↑n2 + ↑n3 ∧ k + ↑n0 * 2 + ↑n1 + ↑n2 + ↑n3 ≤ 10000000 := ⟨Int.add_nonneg a3.1 (Int.natCast_nonneg _), Int.le_trans (Int.add_le_add a3.2 e3) (by decide)⟩
  exact ⟨a1, a2, a3, a4, Int.add_nonneg a4.1 (Int.mul_nonneg (Int.natCast_nonneg _) (by decide))⟩
set_option maxRecDepth 100000 in
set_option maxHeartbeats 2000000 in
theorem laws_heldMuseum (v : MV) (m : GMuseum) (k : Int) (w : World) (hx : MRd w v (markMus k v m)) (hf : MFit v) (hk0 : 0 ≤ k) (hk1 : k ≤ 1000000) :
    Calls Try.prog 11 #[v.val, .int .i64 k] w fun e w' => e = .returned (.int .i64 (markEnd k v)) ∧ Ext w w' := by
  obtain ⟨wb, hwb⟩ : ∃ wb, wb = w.alloc (.cells v.cells 28) := ⟨_, rfl⟩
  have hbx := MBox.new hwb
  have hE : Ext w wb := by rw [hwb]; exact (Ext.refl w).alloc _
  have HX := Lib.hid (hx.keep hE)
  have nd := hf.nd
  have nf := hf.nf
  have np := hf.np
  have ng := hf.ng
  have nr := hf.nr
  have HE := Lib.hid hE
  have HB := Lib.hid hbx
  obtain ⟨Hh, ⟨A0, n0, c0⟩, ⟨A1, n1, c1⟩, ⟨A2, n2, c2⟩, ⟨A3, n3, c3⟩, day, ⟨A4, n4, c4⟩⟩ := v
  simp only at nd nf np ng nr
  have Hwb : Hid (wb = w.alloc (.cells #[.int .i64 Hh, .slice A0 n0 c0, .slice A1 n1 c1, .slice A2 n2 c2, .slice A3 n3 c3, .int .i64 day, .slice A4 n4 c4] 28)) := hwb
  have HD : Hid (Rd wb 2 A0 n0 ((markDoorL k n0).flatMap GDoor.enc)) := Lib.hid (by have h := HX.out.rd; simp only [markMus, mk4, mk3, mk2, mk1] at h; exact h)
  have HF : Hid (Rd wb 1 A1 n1 ((markIntL (k + ↑n0 * 2) n1).flatMap ienc)) := Lib.hid (by have h := HX.out.rf; simp only [markMus, mk4, mk3, mk2, mk1] at h; exact h)
  have HP : Hid (Rd wb 1 A2 n2 ((markIntL (k + ↑n0 * 2 + ↑n1) n2).flatMap ienc)) := Lib.hid (by have h := HX.out.rp; simp only [markMus, mk4, mk3, mk2, mk1] at h; exact h)
  have HG : Hid (Rd wb 1 A3 n3 ((markIntL (k + ↑n0 * 2 + ↑n1 + ↑n2) n3).flatMap ienc)) := Lib.hid (by have h := HX.out.rg; simp only [markMus, mk4, mk3, mk2, mk1] at h; exact h)
  have HRR : Hid (Rd wb 3 A4 n4 ((markEntryL (k + ↑n0 * 2 + ↑n1 + ↑n2 + ↑n3) n4).flatMap GEntry.enc)) := Lib.hid (by have h := HX.out.rr; simp only [markMus, mk4, mk3, mk2, mk1] at h; exact h)
  obtain ⟨z1, z2, z3, z4, z5⟩ := mk_bounds (n0 := n0) (n1 := n1) (n2 := n2) (n3 := n3) (n4 := n4) hk0 hk1 nd nf np ng nr
  have cD := Lib.hid (laws_heldHouse Hh A0 n0 c0 k wb HD.out nd hk0 (Int.le_trans hk1 (by decide)))
  have cF := Lib.hid (fun W (he : Ext wb W) => laws_heldIntS A1 n1 c1 _ W (HF.out.keep he) nf z1.1 (Int.le_trans z1.2 (by decide)))
  have cP := Lib.hid (fun W (he : Ext wb W) => laws_heldIntS A2 n2 c2 _ W (HP.out.keep he) np z2.1 (Int.le_trans z2.2 (by decide)))
  have cG := Lib.hid (fun W (he : Ext wb W) => laws_heldIntS A3 n3 c3 _ W (HG.out.keep he) ng z3.1 (Int.le_trans z3.2 (by decide)))
  have cR := Lib.hid (fun W (he : Ext wb W) => laws_heldEntryS A4 n4 c4 _ W (HRR.out.keep he) nr z4.1 (Int.le_trans z4.2 (by decide)))
  have T1 := Lib.hid (Int.not_lt.2 z1.1)
  have T2 := Lib.hid (Int.not_lt.2 z2.1)
  have T3 := Lib.hid (Int.not_lt.2 z3.1)
  have T4 := Lib.hid (Int.not_lt.2 z4.1)
  have T5 := Lib.hid (Int.not_lt.2 z5)
  clear hwb hbx hE hf hx HX HD HF HP HG HRR z1 z2 z3 z4 z5 nd nf np ng nr
  show Calls Try.prog 11 #[.agg #[.int .i64 Hh, .slice A0 n0 c0, .slice A1 n1 c1, .slice A2 n2 c2, .slice A3 n3 c3, .int .i64 day, .slice A4 n4 c4], .int .i64 k] w _
  have b0 := HB.out.c0
  have b1 := HB.out.c1
  simp only at b0 b1
  go_enter Try.func11, Try.ntmps11
  go_wp2_with (go_at_call 29; refine (fun h : Hid _ => h.out) ?_)
  unfold Hid
  rw [← Hwb.out]
  refine cD.out.mono ?_
  rintro e w1 ⟨rfl, e1⟩
  have E1 := Lib.hid e1
  clear e1 b0 b1 cD
  have t1 := T1.out
  have b2 := (HB.out.keep E1.out).c2
  simp only at b2
  go_wp2_with (go_at_call 30; refine (fun h : Hid _ => h.out) ?_)
  unfold Hid
  refine (cF.out _ E1.out).mono ?_
  rintro e w2 ⟨rfl, e2⟩
  have E2 := Lib.hid (E1.out.trans e2)
  clear e2 b2 t1 cF
  have t2 := T2.out
  have b3 := (HB.out.keep E2.out).c3
  simp only at b3
  go_wp2_with (go_at_call 30; refine (fun h : Hid _ => h.out) ?_)
  unfold Hid
  refine (cP.out _ E2.out).mono ?_
  rintro e w3 ⟨rfl, e3⟩
  have E3 := Lib.hid (E2.out.trans e3)
  clear e3 b3 t2 cP
  have t3 := T3.out
  have b4 := (HB.out.keep E3.out).c4
  simp only at b4
  go_wp2_with (go_at_call 30; refine (fun h : Hid _ => h.out) ?_)
  unfold Hid
  refine (cG.out _ E3.out).mono ?_
  rintro e w4 ⟨rfl, e4⟩
  have E4 := Lib.hid (E3.out.trans e4)
  clear e4 b4 t3 cG
  have t4 := T4.out
  have b6 := (HB.out.keep E4.out).c6
  simp only at b6
  go_wp2_with (go_at_call 31; refine (fun h : Hid _ => h.out) ?_)
  unfold Hid
  refine (cR.out _ E4.out).mono ?_
  rintro e w5 ⟨rfl, e5⟩
  have E5 := Lib.hid (E4.out.trans e5)
  clear e5 b6 t4 cR
  have t5 := T5.out
  have HEF := Lib.hid (HE.out.trans E5.out)
  go_wp2_with fail
  go_ret
  exact ⟨rfl, HEF.out⟩
end Go.Proofs.Ytkelmeemblmggaa
