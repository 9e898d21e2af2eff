/- Texts of one proof, laid one behind the other (SM2, SN1, KI, SN2, SN3, SN4); no condition but what stands at each theorem. -/
import Derived.Deep.RegionHeld3
import Derived.Maps.AppendAt
import Derived.Test.YtfhibjehnoibeaaDoorZA
import Derived.Test.YtfhibjehnoibeaaDoorZB
import Derived.Test.YtfhibjehnoibeaaDoorZC
/- Contracts of MuseumOk; no condition but what stands at each theorem. -/
namespace Go.Proofs.YtfhibjehnoibeaaDoor
set_option linter.unusedSimpArgs false
set_option linter.unusedVariables false
open Go.RowKit Go.Sort
def museumB (m : GMuseum) : Bool := placesB m.H m.ds m.fs && (placesB m.H m.ds m.ps && ((m.fs.length == m.ps.length) && (decide (m.gs.length ≤ 6) && (hallsB m.H m.ds m.gs && (inB m.d 0 1000000 && (sealedB m.rs && m.rs.all fun e => decide (e.m ≤ m.d)))))))
theorem brokF_sorted : ∀ (rs : List GEntry) (s : Int) (p : Option Int) (k : Nat), brokF s p k rs = -1 → (∀ q, p = some q → ∀ e ∈ rs, q ≤ e.m) ∧ rs.Pairwise fun a b => a.m ≤ b.m
  | [], _, _, _, _ => ⟨fun _ _ e he => by simp at he, .nil⟩
  | e :: r, s, p, k, h => by
    unfold brokF at h
    split at h
    · omega
    · rename_i hc
      simp only [Bool.or_eq_true, not_or, decide_eq_true_eq] at hc
      obtain ⟨h1, h2⟩ := brokF_sorted r e.s (some e.m) (k + 1) h
      refine ⟨fun q hq x hx => ?_, .cons (fun x hx => h1 e.m rfl x hx) h2⟩
      have h3 : q ≤ e.m := by
        have := hc.2.2
        rw [hq] at this
        simp only [early, decide_eq_true_eq] at this
        omega
      rcases List.mem_cons.1 hx with rfl | hx
      · exact h3
      · have := h1 e.m rfl x hx; omega
/-- Of a sealed record, the last moment is the latest. -/
theorem sealed_last {rs : List GEntry} {k : Nat} {x : GEntry} (h : sealedB rs = true) (hk : rs.length = k + 1) (hx : rs[k]? = some x) (d : Int) : (rs.all fun e => decide (e.m ≤ d)) = decide (x.m ≤ d) := by
  simp only [sealedB, Bool.and_eq_true, beq_iff_eq] at h
  have hp := (brokF_sorted rs 1 none 0 h.2).2
  rw [Bool.eq_iff_iff]
  simp only [List.all_eq_true, decide_eq_true_eq]
  constructor
  · intro hall; exact hall x (List.mem_of_getElem? hx)
  · intro hxd e he
    obtain ⟨i, hi⟩ := List.getElem?_of_mem he
    have hil : i < rs.length := (List.getElem?_eq_some_iff.1 hi).1
    by_cases hik : i = k
    · subst hik; rw [hx] at hi; injection hi with hi; subst hi; exact hxd
    · have := List.pairwise_iff_getElem.1 hp i k hil (by omega) (by omega)
      have e1 : rs[i] = e := (List.getElem?_eq_some_iff.1 hi).2
      have e2 : rs[k] = x := (List.getElem?_eq_some_iff.1 hx).2
      rw [e1, e2] at this
      omega
set_option maxRecDepth 100000 in
set_option maxHeartbeats 8000000 in
theorem impl_MuseumOk (v : MV) (m : GMuseum) (w : World) (hx : MRd w v m) :
    Calls Tryd.prog 37 #[v.val] w fun e w' => e = .returned (.bool (museumB m)) ∧ Ext w w' := by
  obtain ⟨wb, hwb⟩ : ∃ wb, wb = w.alloc (.cells v.cells 30) := ⟨_, rfl⟩
  have hbx := MBox.new hwb
  have hE : Ext w wb := by rw [hwb]; exact (Ext.refl w).alloc _
  have HX := Lib.hid (hx.keep hE)
  obtain ⟨Hh, ⟨A0, n0, c0⟩, ⟨A1, n1, c1⟩, ⟨A2, n2, c2⟩, ⟨A3, n3, c3⟩, day, ⟨A4, n4, c4⟩⟩ := v
  obtain ⟨mH, mds, mfs, mps, mgs, md, mrs⟩ := m
  obtain rfl : Hh = mH := hx.eH
  obtain rfl : day = md := hx.ed
  have hxd : Hid (Rd wb 2 A0 n0 (mds.flatMap GDoor.enc)) := HX.out.rd
  have hxf : Hid (Rd wb 1 A1 n1 (mfs.flatMap ienc)) := HX.out.rf
  have hxp : Hid (Rd wb 1 A2 n2 (mps.flatMap ienc)) := HX.out.rp
  have hxg : Hid (Rd wb 1 A3 n3 (mgs.flatMap ienc)) := HX.out.rg
  have hxr : Hid (Rd wb 3 A4 n4 (mrs.flatMap GEntry.enc)) := HX.out.rr
  have hl1 := Lib.hid (hxf.out.len ienc_len (by omega))
  have hl2 := Lib.hid (hxp.out.len ienc_len (by omega))
  have hl3 := Lib.hid (hxg.out.len ienc_len (by omega))
  have hl4 := Lib.hid (hxr.out.len GEntry.len (by omega))
  have nn1 := hxf.out.2.1
  have nn2 := hxp.out.2.1
  have nn3 := hxg.out.2.1
  have nn4 := hxr.out.2.1
  have HE := Lib.hid hE
  have Hwb : Hid (wb = w.alloc (.cells #[.int .i64 Hh, .slice A0 n0 c0, .slice A1 n1 c1, .slice A2 n2 c2, .slice A3 n3 c3, .int .i64 day, .slice A4 n4 c4] 30)) := hwb
  have HB := Lib.hid hbx
  have hbl := hbx.lt
  have e0 := Ext.refl wb
  clear hE hwb hbx hx HX
  show Calls Tryd.prog 37 #[.agg #[.int .i64 Hh, .slice A0 n0 c0, .slice A1 n1 c1, .slice A2 n2 c2, .slice A3 n3 c3, .int .i64 day, .slice A4 n4 c4]] w _
  have cF := Lib.hid (fun W (he : Ext wb W) => impl_PlacesOk Hh A0 n0 c0 mds A1 n1 c1 mfs W (hxd.out.keep he) (hxf.out.keep he))
  have cP := Lib.hid (fun W (he : Ext wb W) => impl_PlacesOk Hh A0 n0 c0 mds A2 n2 c2 mps W (hxd.out.keep he) (hxp.out.keep he))
  have cG := Lib.hid (fun W (he : Ext wb W) => impl_hallsOk Hh A0 n0 c0 mds A3 n3 c3 mgs W (hxd.out.keep he) (hxg.out.keep he))
  have cD := Lib.hid (fun W => impl_between day 0 1000000 W)
  have cS := Lib.hid (fun W (he : Ext wb W) => impl_IsSealed A4 n4 c4 mrs W (hxr.out.keep he))
  cases hp0 : placesB Hh mds mfs
  case false =>
    rw [hp0] at cF
    have HF : Hid (museumB ⟨Hh, mds, mfs, mps, mgs, day, mrs⟩ = false) := by unfold Hid museumB; simp [hp0]
    clear hp0
    go_enter Tryd.func37, Tryd.ntmps37
    have b0 := (e0.cellAt w.heap.size hbl 0).trans HB.out.c0
    have b1 := (e0.cellAt w.heap.size hbl 1).trans HB.out.c1
    have b2 := (e0.cellAt w.heap.size hbl 2).trans HB.out.c2
    have b3 := (e0.cellAt w.heap.size hbl 3).trans HB.out.c3
    have b4 := (e0.cellAt w.heap.size hbl 4).trans HB.out.c4
    have b5 := (e0.cellAt w.heap.size hbl 5).trans HB.out.c5
    have b6 := (e0.cellAt w.heap.size hbl 6).trans HB.out.c6
    simp only at b0 b1 b2 b3 b4 b5 b6
    go_wp2_with fail
    rw [← Hwb.out]
    refine ((cF.out _ e0)).mono ?_
    rintro e w1 ⟨rfl, h1⟩
    have e1 := e0.trans h1
    clear h1
    clear b0 b1 b2 b3 b4 b5 b6
    have b0 := (e1.cellAt w.heap.size hbl 0).trans HB.out.c0
    have b1 := (e1.cellAt w.heap.size hbl 1).trans HB.out.c1
    have b2 := (e1.cellAt w.heap.size hbl 2).trans HB.out.c2
    have b3 := (e1.cellAt w.heap.size hbl 3).trans HB.out.c3
    have b4 := (e1.cellAt w.heap.size hbl 4).trans HB.out.c4
    have b5 := (e1.cellAt w.heap.size hbl 5).trans HB.out.c5
    have b6 := (e1.cellAt w.heap.size hbl 6).trans HB.out.c6
    simp only at b0 b1 b2 b3 b4 b5 b6
    go_wp2_with fail
    go_ret
    exact ⟨ret_bool HF.out.symm, HE.out.trans e1⟩
  rw [hp0] at cF
  cases hp1 : placesB Hh mds mps
  case false =>
    rw [hp1] at cP
    have HF : Hid (museumB ⟨Hh, mds, mfs, mps, mgs, day, mrs⟩ = false) := by unfold Hid museumB; simp [hp1]
    clear hp0 hp1
    go_enter Tryd.func37, Tryd.ntmps37
    have b0 := (e0.cellAt w.heap.size hbl 0).trans HB.out.c0
    have b1 := (e0.cellAt w.heap.size hbl 1).trans HB.out.c1
    have b2 := (e0.cellAt w.heap.size hbl 2).trans HB.out.c2
    have b3 := (e0.cellAt w.heap.size hbl 3).trans HB.out.c3
    have b4 := (e0.cellAt w.heap.size hbl 4).trans HB.out.c4
    have b5 := (e0.cellAt w.heap.size hbl 5).trans HB.out.c5
    have b6 := (e0.cellAt w.heap.size hbl 6).trans HB.out.c6
    simp only at b0 b1 b2 b3 b4 b5 b6
    go_wp2_with fail
    rw [← Hwb.out]
    refine ((cF.out _ e0)).mono ?_
    rintro e w1 ⟨rfl, h1⟩
    have e1 := e0.trans h1
    clear h1
    clear b0 b1 b2 b3 b4 b5 b6
    have b0 := (e1.cellAt w.heap.size hbl 0).trans HB.out.c0
    have b1 := (e1.cellAt w.heap.size hbl 1).trans HB.out.c1
    have b2 := (e1.cellAt w.heap.size hbl 2).trans HB.out.c2
    have b3 := (e1.cellAt w.heap.size hbl 3).trans HB.out.c3
    have b4 := (e1.cellAt w.heap.size hbl 4).trans HB.out.c4
    have b5 := (e1.cellAt w.heap.size hbl 5).trans HB.out.c5
    have b6 := (e1.cellAt w.heap.size hbl 6).trans HB.out.c6
    simp only at b0 b1 b2 b3 b4 b5 b6
    go_wp2_with fail
    refine ((cP.out _ e1)).mono ?_
    rintro e w2 ⟨rfl, h2⟩
    have e2 := e1.trans h2
    clear h2
    clear b0 b1 b2 b3 b4 b5 b6
    have b0 := (e2.cellAt w.heap.size hbl 0).trans HB.out.c0
    have b1 := (e2.cellAt w.heap.size hbl 1).trans HB.out.c1
    have b2 := (e2.cellAt w.heap.size hbl 2).trans HB.out.c2
    have b3 := (e2.cellAt w.heap.size hbl 3).trans HB.out.c3
    have b4 := (e2.cellAt w.heap.size hbl 4).trans HB.out.c4
    have b5 := (e2.cellAt w.heap.size hbl 5).trans HB.out.c5
    have b6 := (e2.cellAt w.heap.size hbl 6).trans HB.out.c6
    simp only at b0 b1 b2 b3 b4 b5 b6
    go_wp2_with fail
    go_ret
    exact ⟨ret_bool HF.out.symm, HE.out.trans e2⟩
  rw [hp1] at cP
  cases hp2 : ((n1 : Int) == (n2 : Int))
  case false =>
    have hp2' : ((n1 : Int) != (n2 : Int)) = true := by rw [bne, hp2]; rfl
    have hpn : (n1 == n2) = false := by rw [beq_eq_false_iff_ne] at hp2 ⊢; omega
    have HF : Hid (museumB ⟨Hh, mds, mfs, mps, mgs, day, mrs⟩ = false) := by unfold Hid museumB; simp only [hl1.out, hl2.out, hpn]; simp
    clear hp0 hp1
    go_enter Tryd.func37, Tryd.ntmps37
    have b0 := (e0.cellAt w.heap.size hbl 0).trans HB.out.c0
    have b1 := (e0.cellAt w.heap.size hbl 1).trans HB.out.c1
    have b2 := (e0.cellAt w.heap.size hbl 2).trans HB.out.c2
    have b3 := (e0.cellAt w.heap.size hbl 3).trans HB.out.c3
    have b4 := (e0.cellAt w.heap.size hbl 4).trans HB.out.c4
    have b5 := (e0.cellAt w.heap.size hbl 5).trans HB.out.c5
    have b6 := (e0.cellAt w.heap.size hbl 6).trans HB.out.c6
    simp only at b0 b1 b2 b3 b4 b5 b6
    go_wp2_with fail
    rw [← Hwb.out]
    refine ((cF.out _ e0)).mono ?_
    rintro e w1 ⟨rfl, h1⟩
    have e1 := e0.trans h1
    clear h1
    clear b0 b1 b2 b3 b4 b5 b6
    have b0 := (e1.cellAt w.heap.size hbl 0).trans HB.out.c0
    have b1 := (e1.cellAt w.heap.size hbl 1).trans HB.out.c1
    have b2 := (e1.cellAt w.heap.size hbl 2).trans HB.out.c2
    have b3 := (e1.cellAt w.heap.size hbl 3).trans HB.out.c3
    have b4 := (e1.cellAt w.heap.size hbl 4).trans HB.out.c4
    have b5 := (e1.cellAt w.heap.size hbl 5).trans HB.out.c5
    have b6 := (e1.cellAt w.heap.size hbl 6).trans HB.out.c6
    simp only at b0 b1 b2 b3 b4 b5 b6
    go_wp2_with fail
    refine ((cP.out _ e1)).mono ?_
    rintro e w2 ⟨rfl, h2⟩
    have e2 := e1.trans h2
    clear h2
    clear b0 b1 b2 b3 b4 b5 b6
    have b0 := (e2.cellAt w.heap.size hbl 0).trans HB.out.c0
    have b1 := (e2.cellAt w.heap.size hbl 1).trans HB.out.c1
    have b2 := (e2.cellAt w.heap.size hbl 2).trans HB.out.c2
    have b3 := (e2.cellAt w.heap.size hbl 3).trans HB.out.c3
    have b4 := (e2.cellAt w.heap.size hbl 4).trans HB.out.c4
    have b5 := (e2.cellAt w.heap.size hbl 5).trans HB.out.c5
    have b6 := (e2.cellAt w.heap.size hbl 6).trans HB.out.c6
    simp only at b0 b1 b2 b3 b4 b5 b6
    go_wp2_with fail
    go_ret
    exact ⟨ret_bool HF.out.symm, HE.out.trans e2⟩
  have hpb : ((n1 : Int) != (n2 : Int)) = false := by rw [bne, hp2]; rfl
  have hpn : (n1 == n2) = true := by rw [beq_iff_eq] at hp2 ⊢; omega
  by_cases hp3 : n3 ≤ 6
  case neg =>
    have HF : Hid (museumB ⟨Hh, mds, mfs, mps, mgs, day, mrs⟩ = false) := by unfold Hid museumB; simp only [hl3.out, decide_eq_false hp3]; simp
    clear hp0 hp1
    go_enter Tryd.func37, Tryd.ntmps37
    have b0 := (e0.cellAt w.heap.size hbl 0).trans HB.out.c0
    have b1 := (e0.cellAt w.heap.size hbl 1).trans HB.out.c1
    have b2 := (e0.cellAt w.heap.size hbl 2).trans HB.out.c2
    have b3 := (e0.cellAt w.heap.size hbl 3).trans HB.out.c3
    have b4 := (e0.cellAt w.heap.size hbl 4).trans HB.out.c4
    have b5 := (e0.cellAt w.heap.size hbl 5).trans HB.out.c5
    have b6 := (e0.cellAt w.heap.size hbl 6).trans HB.out.c6
    simp only at b0 b1 b2 b3 b4 b5 b6
    go_wp2_with fail
    rw [← Hwb.out]
    refine ((cF.out _ e0)).mono ?_
    rintro e w1 ⟨rfl, h1⟩
    have e1 := e0.trans h1
    clear h1
    clear b0 b1 b2 b3 b4 b5 b6
    have b0 := (e1.cellAt w.heap.size hbl 0).trans HB.out.c0
    have b1 := (e1.cellAt w.heap.size hbl 1).trans HB.out.c1
    have b2 := (e1.cellAt w.heap.size hbl 2).trans HB.out.c2
    have b3 := (e1.cellAt w.heap.size hbl 3).trans HB.out.c3
    have b4 := (e1.cellAt w.heap.size hbl 4).trans HB.out.c4
    have b5 := (e1.cellAt w.heap.size hbl 5).trans HB.out.c5
    have b6 := (e1.cellAt w.heap.size hbl 6).trans HB.out.c6
    simp only at b0 b1 b2 b3 b4 b5 b6
    go_wp2_with fail
    refine ((cP.out _ e1)).mono ?_
    rintro e w2 ⟨rfl, h2⟩
    have e2 := e1.trans h2
    clear h2
    clear b0 b1 b2 b3 b4 b5 b6
    have b0 := (e2.cellAt w.heap.size hbl 0).trans HB.out.c0
    have b1 := (e2.cellAt w.heap.size hbl 1).trans HB.out.c1
    have b2 := (e2.cellAt w.heap.size hbl 2).trans HB.out.c2
    have b3 := (e2.cellAt w.heap.size hbl 3).trans HB.out.c3
    have b4 := (e2.cellAt w.heap.size hbl 4).trans HB.out.c4
    have b5 := (e2.cellAt w.heap.size hbl 5).trans HB.out.c5
    have b6 := (e2.cellAt w.heap.size hbl 6).trans HB.out.c6
    simp only at b0 b1 b2 b3 b4 b5 b6
    go_wp2_with fail
    go_ret
    exact ⟨ret_bool HF.out.symm, HE.out.trans e2⟩
  cases hp4 : hallsB Hh mds mgs
  case false =>
    rw [hp4] at cG
    have HF : Hid (museumB ⟨Hh, mds, mfs, mps, mgs, day, mrs⟩ = false) := by unfold Hid museumB; simp [hp4]
    clear hp0 hp1 hp4
    go_enter Tryd.func37, Tryd.ntmps37
    have b0 := (e0.cellAt w.heap.size hbl 0).trans HB.out.c0
    have b1 := (e0.cellAt w.heap.size hbl 1).trans HB.out.c1
    have b2 := (e0.cellAt w.heap.size hbl 2).trans HB.out.c2
    have b3 := (e0.cellAt w.heap.size hbl 3).trans HB.out.c3
    have b4 := (e0.cellAt w.heap.size hbl 4).trans HB.out.c4
    have b5 := (e0.cellAt w.heap.size hbl 5).trans HB.out.c5
    have b6 := (e0.cellAt w.heap.size hbl 6).trans HB.out.c6
    simp only at b0 b1 b2 b3 b4 b5 b6
    go_wp2_with fail
    rw [← Hwb.out]
    refine ((cF.out _ e0)).mono ?_
    rintro e w1 ⟨rfl, h1⟩
    have e1 := e0.trans h1
    clear h1
    clear b0 b1 b2 b3 b4 b5 b6
    have b0 := (e1.cellAt w.heap.size hbl 0).trans HB.out.c0
    have b1 := (e1.cellAt w.heap.size hbl 1).trans HB.out.c1
    have b2 := (e1.cellAt w.heap.size hbl 2).trans HB.out.c2
    have b3 := (e1.cellAt w.heap.size hbl 3).trans HB.out.c3
    have b4 := (e1.cellAt w.heap.size hbl 4).trans HB.out.c4
    have b5 := (e1.cellAt w.heap.size hbl 5).trans HB.out.c5
    have b6 := (e1.cellAt w.heap.size hbl 6).trans HB.out.c6
    simp only at b0 b1 b2 b3 b4 b5 b6
    go_wp2_with fail
    refine ((cP.out _ e1)).mono ?_
    rintro e w2 ⟨rfl, h2⟩
    have e2 := e1.trans h2
    clear h2
    clear b0 b1 b2 b3 b4 b5 b6
    have b0 := (e2.cellAt w.heap.size hbl 0).trans HB.out.c0
    have b1 := (e2.cellAt w.heap.size hbl 1).trans HB.out.c1
    have b2 := (e2.cellAt w.heap.size hbl 2).trans HB.out.c2
    have b3 := (e2.cellAt w.heap.size hbl 3).trans HB.out.c3
    have b4 := (e2.cellAt w.heap.size hbl 4).trans HB.out.c4
    have b5 := (e2.cellAt w.heap.size hbl 5).trans HB.out.c5
    have b6 := (e2.cellAt w.heap.size hbl 6).trans HB.out.c6
    simp only at b0 b1 b2 b3 b4 b5 b6
    go_wp2_with fail
    refine ((cG.out _ e2)).mono ?_
    rintro e w3 ⟨rfl, h3⟩
    have e3 := e2.trans h3
    clear h3
    clear b0 b1 b2 b3 b4 b5 b6
    have b0 := (e3.cellAt w.heap.size hbl 0).trans HB.out.c0
    have b1 := (e3.cellAt w.heap.size hbl 1).trans HB.out.c1
    have b2 := (e3.cellAt w.heap.size hbl 2).trans HB.out.c2
    have b3 := (e3.cellAt w.heap.size hbl 3).trans HB.out.c3
    have b4 := (e3.cellAt w.heap.size hbl 4).trans HB.out.c4
    have b5 := (e3.cellAt w.heap.size hbl 5).trans HB.out.c5
    have b6 := (e3.cellAt w.heap.size hbl 6).trans HB.out.c6
    simp only at b0 b1 b2 b3 b4 b5 b6
    go_wp2_with fail
    go_ret
    exact ⟨ret_bool HF.out.symm, HE.out.trans e3⟩
  rw [hp4] at cG
  cases hp5 : inB day 0 1000000
  case false =>
    rw [hp5] at cD
    have HF : Hid (museumB ⟨Hh, mds, mfs, mps, mgs, day, mrs⟩ = false) := by unfold Hid museumB; simp [hp5]
    clear hp0 hp1 hp4 hp5
    go_enter Tryd.func37, Tryd.ntmps37
    have b0 := (e0.cellAt w.heap.size hbl 0).trans HB.out.c0
    have b1 := (e0.cellAt w.heap.size hbl 1).trans HB.out.c1
    have b2 := (e0.cellAt w.heap.size hbl 2).trans HB.out.c2
    have b3 := (e0.cellAt w.heap.size hbl 3).trans HB.out.c3
    have b4 := (e0.cellAt w.heap.size hbl 4).trans HB.out.c4
    have b5 := (e0.cellAt w.heap.size hbl 5).trans HB.out.c5
    have b6 := (e0.cellAt w.heap.size hbl 6).trans HB.out.c6
    simp only at b0 b1 b2 b3 b4 b5 b6
    go_wp2_with fail
    rw [← Hwb.out]
    refine ((cF.out _ e0)).mono ?_
    rintro e w1 ⟨rfl, h1⟩
    have e1 := e0.trans h1
    clear h1
    clear b0 b1 b2 b3 b4 b5 b6
    have b0 := (e1.cellAt w.heap.size hbl 0).trans HB.out.c0
    have b1 := (e1.cellAt w.heap.size hbl 1).trans HB.out.c1
    have b2 := (e1.cellAt w.heap.size hbl 2).trans HB.out.c2
    have b3 := (e1.cellAt w.heap.size hbl 3).trans HB.out.c3
    have b4 := (e1.cellAt w.heap.size hbl 4).trans HB.out.c4
    have b5 := (e1.cellAt w.heap.size hbl 5).trans HB.out.c5
    have b6 := (e1.cellAt w.heap.size hbl 6).trans HB.out.c6
    simp only at b0 b1 b2 b3 b4 b5 b6
    go_wp2_with fail
    refine ((cP.out _ e1)).mono ?_
    rintro e w2 ⟨rfl, h2⟩
    have e2 := e1.trans h2
    clear h2
    clear b0 b1 b2 b3 b4 b5 b6
    have b0 := (e2.cellAt w.heap.size hbl 0).trans HB.out.c0
    have b1 := (e2.cellAt w.heap.size hbl 1).trans HB.out.c1
    have b2 := (e2.cellAt w.heap.size hbl 2).trans HB.out.c2
    have b3 := (e2.cellAt w.heap.size hbl 3).trans HB.out.c3
    have b4 := (e2.cellAt w.heap.size hbl 4).trans HB.out.c4
    have b5 := (e2.cellAt w.heap.size hbl 5).trans HB.out.c5
    have b6 := (e2.cellAt w.heap.size hbl 6).trans HB.out.c6
    simp only at b0 b1 b2 b3 b4 b5 b6
    go_wp2_with fail
    refine ((cG.out _ e2)).mono ?_
    rintro e w3 ⟨rfl, h3⟩
    have e3 := e2.trans h3
    clear h3
    clear b0 b1 b2 b3 b4 b5 b6
    have b0 := (e3.cellAt w.heap.size hbl 0).trans HB.out.c0
    have b1 := (e3.cellAt w.heap.size hbl 1).trans HB.out.c1
    have b2 := (e3.cellAt w.heap.size hbl 2).trans HB.out.c2
    have b3 := (e3.cellAt w.heap.size hbl 3).trans HB.out.c3
    have b4 := (e3.cellAt w.heap.size hbl 4).trans HB.out.c4
    have b5 := (e3.cellAt w.heap.size hbl 5).trans HB.out.c5
    have b6 := (e3.cellAt w.heap.size hbl 6).trans HB.out.c6
    simp only at b0 b1 b2 b3 b4 b5 b6
    go_wp2_with fail
    refine (cD.out _).mono ?_
    rintro e _ ⟨rfl, rfl⟩
    go_wp2_with fail
    go_ret
    exact ⟨ret_bool HF.out.symm, HE.out.trans e3⟩
  rw [hp5] at cD
  cases hp6 : sealedB mrs
  case false =>
    rw [hp6] at cS
    have HF : Hid (museumB ⟨Hh, mds, mfs, mps, mgs, day, mrs⟩ = false) := by unfold Hid museumB; simp [hp6]
    clear hp0 hp1 hp4 hp5 hp6
    go_enter Tryd.func37, Tryd.ntmps37
    have b0 := (e0.cellAt w.heap.size hbl 0).trans HB.out.c0
    have b1 := (e0.cellAt w.heap.size hbl 1).trans HB.out.c1
    have b2 := (e0.cellAt w.heap.size hbl 2).trans HB.out.c2
    have b3 := (e0.cellAt w.heap.size hbl 3).trans HB.out.c3
    have b4 := (e0.cellAt w.heap.size hbl 4).trans HB.out.c4
    have b5 := (e0.cellAt w.heap.size hbl 5).trans HB.out.c5
    have b6 := (e0.cellAt w.heap.size hbl 6).trans HB.out.c6
    simp only at b0 b1 b2 b3 b4 b5 b6
    go_wp2_with fail
    rw [← Hwb.out]
    refine ((cF.out _ e0)).mono ?_
    rintro e w1 ⟨rfl, h1⟩
    have e1 := e0.trans h1
    clear h1
    clear b0 b1 b2 b3 b4 b5 b6
    have b0 := (e1.cellAt w.heap.size hbl 0).trans HB.out.c0
    have b1 := (e1.cellAt w.heap.size hbl 1).trans HB.out.c1
    have b2 := (e1.cellAt w.heap.size hbl 2).trans HB.out.c2
    have b3 := (e1.cellAt w.heap.size hbl 3).trans HB.out.c3
    have b4 := (e1.cellAt w.heap.size hbl 4).trans HB.out.c4
    have b5 := (e1.cellAt w.heap.size hbl 5).trans HB.out.c5
    have b6 := (e1.cellAt w.heap.size hbl 6).trans HB.out.c6
    simp only at b0 b1 b2 b3 b4 b5 b6
    go_wp2_with fail
    refine ((cP.out _ e1)).mono ?_
    rintro e w2 ⟨rfl, h2⟩
    have e2 := e1.trans h2
    clear h2
    clear b0 b1 b2 b3 b4 b5 b6
    have b0 := (e2.cellAt w.heap.size hbl 0).trans HB.out.c0
    have b1 := (e2.cellAt w.heap.size hbl 1).trans HB.out.c1
    have b2 := (e2.cellAt w.heap.size hbl 2).trans HB.out.c2
    have b3 := (e2.cellAt w.heap.size hbl 3).trans HB.out.c3
    have b4 := (e2.cellAt w.heap.size hbl 4).trans HB.out.c4
    have b5 := (e2.cellAt w.heap.size hbl 5).trans HB.out.c5
    have b6 := (e2.cellAt w.heap.size hbl 6).trans HB.out.c6
    simp only at b0 b1 b2 b3 b4 b5 b6
    go_wp2_with fail
    refine ((cG.out _ e2)).mono ?_
    rintro e w3 ⟨rfl, h3⟩
    have e3 := e2.trans h3
    clear h3
    clear b0 b1 b2 b3 b4 b5 b6
    have b0 := (e3.cellAt w.heap.size hbl 0).trans HB.out.c0
    have b1 := (e3.cellAt w.heap.size hbl 1).trans HB.out.c1
    have b2 := (e3.cellAt w.heap.size hbl 2).trans HB.out.c2
    have b3 := (e3.cellAt w.heap.size hbl 3).trans HB.out.c3
    have b4 := (e3.cellAt w.heap.size hbl 4).trans HB.out.c4
    have b5 := (e3.cellAt w.heap.size hbl 5).trans HB.out.c5
    have b6 := (e3.cellAt w.heap.size hbl 6).trans HB.out.c6
    simp only at b0 b1 b2 b3 b4 b5 b6
    go_wp2_with fail
    refine (cD.out _).mono ?_
    rintro e _ ⟨rfl, rfl⟩
    go_wp2_with fail
    refine ((cS.out _ e3)).mono ?_
    rintro e w4 ⟨rfl, h4⟩
    have e4 := e3.trans h4
    clear h4
    clear b0 b1 b2 b3 b4 b5 b6
    have b0 := (e4.cellAt w.heap.size hbl 0).trans HB.out.c0
    have b1 := (e4.cellAt w.heap.size hbl 1).trans HB.out.c1
    have b2 := (e4.cellAt w.heap.size hbl 2).trans HB.out.c2
    have b3 := (e4.cellAt w.heap.size hbl 3).trans HB.out.c3
    have b4 := (e4.cellAt w.heap.size hbl 4).trans HB.out.c4
    have b5 := (e4.cellAt w.heap.size hbl 5).trans HB.out.c5
    have b6 := (e4.cellAt w.heap.size hbl 6).trans HB.out.c6
    simp only at b0 b1 b2 b3 b4 b5 b6
    go_wp2_with fail
    go_ret
    exact ⟨ret_bool HF.out.symm, HE.out.trans e4⟩
  rw [hp6] at cS
  have HM : Hid (museumB ⟨Hh, mds, mfs, mps, mgs, day, mrs⟩ = (mrs.all fun e => decide (e.m ≤ day))) := by unfold Hid museumB; simp only [hp0, hp1, hp4, hp5, hp6, hl1.out, hl2.out, hl3.out, hpn, decide_eq_true hp3, Bool.true_and]
  clear hpn hp0 hp1 hp4 hp5 hp6
  go_enter Tryd.func37, Tryd.ntmps37
  have b0 := (e0.cellAt w.heap.size hbl 0).trans HB.out.c0
  have b1 := (e0.cellAt w.heap.size hbl 1).trans HB.out.c1
  have b2 := (e0.cellAt w.heap.size hbl 2).trans HB.out.c2
  have b3 := (e0.cellAt w.heap.size hbl 3).trans HB.out.c3
  have b4 := (e0.cellAt w.heap.size hbl 4).trans HB.out.c4
  have b5 := (e0.cellAt w.heap.size hbl 5).trans HB.out.c5
  have b6 := (e0.cellAt w.heap.size hbl 6).trans HB.out.c6
  simp only at b0 b1 b2 b3 b4 b5 b6
  go_wp2_with fail
  rw [← Hwb.out]
  refine ((cF.out _ e0)).mono ?_
  rintro e w1 ⟨rfl, h1⟩
  have e1 := e0.trans h1
  clear h1
  clear b0 b1 b2 b3 b4 b5 b6
  have b0 := (e1.cellAt w.heap.size hbl 0).trans HB.out.c0
  have b1 := (e1.cellAt w.heap.size hbl 1).trans HB.out.c1
  have b2 := (e1.cellAt w.heap.size hbl 2).trans HB.out.c2
  have b3 := (e1.cellAt w.heap.size hbl 3).trans HB.out.c3
  have b4 := (e1.cellAt w.heap.size hbl 4).trans HB.out.c4
  have b5 := (e1.cellAt w.heap.size hbl 5).trans HB.out.c5
  have b6 := (e1.cellAt w.heap.size hbl 6).trans HB.out.c6
  simp only at b0 b1 b2 b3 b4 b5 b6
  go_wp2_with fail
  refine ((cP.out _ e1)).mono ?_
  rintro e w2 ⟨rfl, h2⟩
  have e2 := e1.trans h2
  clear h2
  clear b0 b1 b2 b3 b4 b5 b6
  have b0 := (e2.cellAt w.heap.size hbl 0).trans HB.out.c0
  have b1 := (e2.cellAt w.heap.size hbl 1).trans HB.out.c1
  have b2 := (e2.cellAt w.heap.size hbl 2).trans HB.out.c2
  have b3 := (e2.cellAt w.heap.size hbl 3).trans HB.out.c3
  have b4 := (e2.cellAt w.heap.size hbl 4).trans HB.out.c4
  have b5 := (e2.cellAt w.heap.size hbl 5).trans HB.out.c5
  have b6 := (e2.cellAt w.heap.size hbl 6).trans HB.out.c6
  simp only at b0 b1 b2 b3 b4 b5 b6
  go_wp2_with fail
  refine ((cG.out _ e2)).mono ?_
  rintro e w3 ⟨rfl, h3⟩
  have e3 := e2.trans h3
  clear h3
  clear b0 b1 b2 b3 b4 b5 b6
  have b0 := (e3.cellAt w.heap.size hbl 0).trans HB.out.c0
  have b1 := (e3.cellAt w.heap.size hbl 1).trans HB.out.c1
  have b2 := (e3.cellAt w.heap.size hbl 2).trans HB.out.c2
  have b3 := (e3.cellAt w.heap.size hbl 3).trans HB.out.c3
  have b4 := (e3.cellAt w.heap.size hbl 4).trans HB.out.c4
  have b5 := (e3.cellAt w.heap.size hbl 5).trans HB.out.c5
  have b6 := (e3.cellAt w.heap.size hbl 6).trans HB.out.c6
  simp only at b0 b1 b2 b3 b4 b5 b6
  go_wp2_with fail
  refine (cD.out _).mono ?_
  rintro e _ ⟨rfl, rfl⟩
  go_wp2_with fail
  refine ((cS.out _ e3)).mono ?_
  rintro e w4 ⟨rfl, h4⟩
  have e4 := e3.trans h4
  clear h4
  clear b0 b1 b2 b3 b4 b5 b6
  have b0 := (e4.cellAt w.heap.size hbl 0).trans HB.out.c0
  have b1 := (e4.cellAt w.heap.size hbl 1).trans HB.out.c1
  have b2 := (e4.cellAt w.heap.size hbl 2).trans HB.out.c2
  have b3 := (e4.cellAt w.heap.size hbl 3).trans HB.out.c3
  have b4 := (e4.cellAt w.heap.size hbl 4).trans HB.out.c4
  have b5 := (e4.cellAt w.heap.size hbl 5).trans HB.out.c5
  have b6 := (e4.cellAt w.heap.size hbl 6).trans HB.out.c6
  simp only at b0 b1 b2 b3 b4 b5 b6
  go_wp2_with fail
  clear b0 b1 b2 b3 b4 b5 b6
  go_loopw [57] (fun i wr => ∃ k : Nat, k ≤ n4 ∧ i = .int .i64 k ∧ Hid (museumB ⟨Hh, mds, mfs, mps, mgs, day, mrs⟩ = ((mrs.drop k).all fun e => decide (e.m ≤ day))) ∧ Ext wb wr) (fun i _ => n4 - (intOf i).toNat)
  case atStart => exact ⟨0, Nat.zero_le _, rfl, HM, e4⟩
  case round =>
    obtain ⟨k, hk, rfl, hz, hb⟩ := hrel
    have b5 := (hb.cellAt w.heap.size hbl 5).trans HB.out.c5
    have hbs := hb.size
    simp only at b5
    by_cases hlt : k < n4
    · obtain ⟨b, off, x, rfl, hbb, hxk, p0, p1, p2⟩ := GEntry.at_ (hxr.out.keep hb) hlt
      have HD := Lib.hid (drop_cons hxk)
      have HBb := Lib.hid hb
      have m0 : wr.heap.size ≠ w.heap.size := by omega
      have l0 : w.heap.size < wr.heap.size := by omega
      clear hxk hb
      by_cases q : x.m ≤ day
      · have HF : Hid (museumB ⟨Hh, mds, mfs, mps, mgs, day, mrs⟩ = ((mrs.drop (k + 1)).all fun e => decide (e.m ≤ day))) := by unfold Hid; rw [hz.out, HD.out, List.all_cons, decide_eq_true q, Bool.true_and]
        go_wp2_with fail
        go_roundw
        case rel => exact ⟨k + 1, by omega, by go_num, HF, HBb.out.alloc _⟩
        case measure => simp [intOf]; omega
      · have HF : Hid (museumB ⟨Hh, mds, mfs, mps, mgs, day, mrs⟩ = false) := by unfold Hid; rw [hz.out, HD.out, List.all_cons, decide_eq_false q, Bool.false_and]
        go_wp2_with fail
        go_ret
        exact ⟨ret_bool HF.out.symm, HE.out.trans (HBb.out.alloc _)⟩
    · obtain rfl : k = n4 := by omega
      have HF : Hid (museumB ⟨Hh, mds, mfs, mps, mgs, day, mrs⟩ = true) := by unfold Hid; rw [hz.out, drop_nil (by rw [hl4.out]; omega)]; rfl
      have HBb := Lib.hid hb
      clear hb
      go_wp2_with fail
      go_ret
      exact ⟨ret_bool HF.out.symm, HE.out.trans HBb.out⟩
set_option maxRecDepth 100000 in
set_option maxHeartbeats 8000000 in
theorem spec_MuseumOk (v : MV) (m : GMuseum) (w : World) (hx : MRd w v m) :
    Calls Tryd.prog 71 #[v.val] w fun e w' => e = .returned (.bool (museumB m)) ∧ Ext w w' := by
  obtain ⟨wb, hwb⟩ : ∃ wb, wb = w.alloc (.cells v.cells 30) := ⟨_, rfl⟩
  have hbx := MBox.new hwb
  have hE : Ext w wb := by rw [hwb]; exact (Ext.refl w).alloc _
  have HX := Lib.hid (hx.keep hE)
  obtain ⟨Hh, ⟨A0, n0, c0⟩, ⟨A1, n1, c1⟩, ⟨A2, n2, c2⟩, ⟨A3, n3, c3⟩, day, ⟨A4, n4, c4⟩⟩ := v
  obtain ⟨mH, mds, mfs, mps, mgs, md, mrs⟩ := m
  obtain rfl : Hh = mH := hx.eH
  obtain rfl : day = md := hx.ed
  have hxd : Hid (Rd wb 2 A0 n0 (mds.flatMap GDoor.enc)) := HX.out.rd
  have hxf : Hid (Rd wb 1 A1 n1 (mfs.flatMap ienc)) := HX.out.rf
  have hxp : Hid (Rd wb 1 A2 n2 (mps.flatMap ienc)) := HX.out.rp
  have hxg : Hid (Rd wb 1 A3 n3 (mgs.flatMap ienc)) := HX.out.rg
  have hxr : Hid (Rd wb 3 A4 n4 (mrs.flatMap GEntry.enc)) := HX.out.rr
  have hl1 := Lib.hid (hxf.out.len ienc_len (by omega))
  have hl2 := Lib.hid (hxp.out.len ienc_len (by omega))
  have hl3 := Lib.hid (hxg.out.len ienc_len (by omega))
  have hl4 := Lib.hid (hxr.out.len GEntry.len (by omega))
  have nn1 := hxf.out.2.1
  have nn2 := hxp.out.2.1
  have nn3 := hxg.out.2.1
  have nn4 := hxr.out.2.1
  have HE := Lib.hid hE
  have Hwb : Hid (wb = w.alloc (.cells #[.int .i64 Hh, .slice A0 n0 c0, .slice A1 n1 c1, .slice A2 n2 c2, .slice A3 n3 c3, .int .i64 day, .slice A4 n4 c4] 30)) := hwb
  have HB := Lib.hid hbx
  have hbl := hbx.lt
  have e0 := Ext.refl wb
  clear hE hwb hbx hx HX
  show Calls Tryd.prog 71 #[.agg #[.int .i64 Hh, .slice A0 n0 c0, .slice A1 n1 c1, .slice A2 n2 c2, .slice A3 n3 c3, .int .i64 day, .slice A4 n4 c4]] w _
  have cF := Lib.hid (fun W (he : Ext wb W) => spec_PlacesOk Hh A0 n0 c0 mds A1 n1 c1 mfs W (hxd.out.keep he) (hxf.out.keep he))
  have cP := Lib.hid (fun W (he : Ext wb W) => spec_PlacesOk Hh A0 n0 c0 mds A2 n2 c2 mps W (hxd.out.keep he) (hxp.out.keep he))
  have cG := Lib.hid (fun W (he : Ext wb W) => spec_l31Halls Hh A0 n0 c0 mds A3 n3 c3 mgs W (hxd.out.keep he) (hxg.out.keep he))
  have cD := Lib.hid (fun W => spec_l01In day 0 1000000 W)
  have cS := Lib.hid (fun W (he : Ext wb W) => spec_IsSealed A4 n4 c4 mrs W (hxr.out.keep he))
  cases hp0 : placesB Hh mds mfs
  case false =>
    rw [hp0] at cF
    have HF : Hid (museumB ⟨Hh, mds, mfs, mps, mgs, day, mrs⟩ = false) := by unfold Hid museumB; simp [hp0]
    clear hp0
    go_enter Tryd.func71, Tryd.ntmps71
    have b0 := (e0.cellAt w.heap.size hbl 0).trans HB.out.c0
    have b1 := (e0.cellAt w.heap.size hbl 1).trans HB.out.c1
    have b2 := (e0.cellAt w.heap.size hbl 2).trans HB.out.c2
    have b3 := (e0.cellAt w.heap.size hbl 3).trans HB.out.c3
    have b4 := (e0.cellAt w.heap.size hbl 4).trans HB.out.c4
    have b5 := (e0.cellAt w.heap.size hbl 5).trans HB.out.c5
    have b6 := (e0.cellAt w.heap.size hbl 6).trans HB.out.c6
    simp only at b0 b1 b2 b3 b4 b5 b6
    go_wp2_with fail
    rw [← Hwb.out]
    refine ((cF.out _ e0)).mono ?_
    rintro e w1 ⟨rfl, h1⟩
    have e1 := e0.trans h1
    clear h1
    clear b0 b1 b2 b3 b4 b5 b6
    have b0 := (e1.cellAt w.heap.size hbl 0).trans HB.out.c0
    have b1 := (e1.cellAt w.heap.size hbl 1).trans HB.out.c1
    have b2 := (e1.cellAt w.heap.size hbl 2).trans HB.out.c2
    have b3 := (e1.cellAt w.heap.size hbl 3).trans HB.out.c3
    have b4 := (e1.cellAt w.heap.size hbl 4).trans HB.out.c4
    have b5 := (e1.cellAt w.heap.size hbl 5).trans HB.out.c5
    have b6 := (e1.cellAt w.heap.size hbl 6).trans HB.out.c6
    simp only at b0 b1 b2 b3 b4 b5 b6
    go_wp2_with fail
    go_ret
    exact ⟨ret_bool HF.out.symm, HE.out.trans e1⟩
  rw [hp0] at cF
  cases hp1 : placesB Hh mds mps
  case false =>
    rw [hp1] at cP
    have HF : Hid (museumB ⟨Hh, mds, mfs, mps, mgs, day, mrs⟩ = false) := by unfold Hid museumB; simp [hp1]
    clear hp0 hp1
    go_enter Tryd.func71, Tryd.ntmps71
    have b0 := (e0.cellAt w.heap.size hbl 0).trans HB.out.c0
    have b1 := (e0.cellAt w.heap.size hbl 1).trans HB.out.c1
    have b2 := (e0.cellAt w.heap.size hbl 2).trans HB.out.c2
    have b3 := (e0.cellAt w.heap.size hbl 3).trans HB.out.c3
    have b4 := (e0.cellAt w.heap.size hbl 4).trans HB.out.c4
    have b5 := (e0.cellAt w.heap.size hbl 5).trans HB.out.c5
    have b6 := (e0.cellAt w.heap.size hbl 6).trans HB.out.c6
    simp only at b0 b1 b2 b3 b4 b5 b6
    go_wp2_with fail
    rw [← Hwb.out]
    refine ((cF.out _ e0)).mono ?_
    rintro e w1 ⟨rfl, h1⟩
    have e1 := e0.trans h1
    clear h1
    clear b0 b1 b2 b3 b4 b5 b6
    have b0 := (e1.cellAt w.heap.size hbl 0).trans HB.out.c0
    have b1 := (e1.cellAt w.heap.size hbl 1).trans HB.out.c1
    have b2 := (e1.cellAt w.heap.size hbl 2).trans HB.out.c2
    have b3 := (e1.cellAt w.heap.size hbl 3).trans HB.out.c3
    have b4 := (e1.cellAt w.heap.size hbl 4).trans HB.out.c4
    have b5 := (e1.cellAt w.heap.size hbl 5).trans HB.out.c5
    have b6 := (e1.cellAt w.heap.size hbl 6).trans HB.out.c6
    simp only at b0 b1 b2 b3 b4 b5 b6
    go_wp2_with fail
    refine ((cP.out _ e1)).mono ?_
    rintro e w2 ⟨rfl, h2⟩
    have e2 := e1.trans h2
    clear h2
    clear b0 b1 b2 b3 b4 b5 b6
    have b0 := (e2.cellAt w.heap.size hbl 0).trans HB.out.c0
    have b1 := (e2.cellAt w.heap.size hbl 1).trans HB.out.c1
    have b2 := (e2.cellAt w.heap.size hbl 2).trans HB.out.c2
    have b3 := (e2.cellAt w.heap.size hbl 3).trans HB.out.c3
    have b4 := (e2.cellAt w.heap.size hbl 4).trans HB.out.c4
    have b5 := (e2.cellAt w.heap.size hbl 5).trans HB.out.c5
    have b6 := (e2.cellAt w.heap.size hbl 6).trans HB.out.c6
    simp only at b0 b1 b2 b3 b4 b5 b6
    go_wp2_with fail
    go_ret
    exact ⟨ret_bool HF.out.symm, HE.out.trans e2⟩
  rw [hp1] at cP
  cases hp2 : ((n1 : Int) == (n2 : Int))
  case false =>
    have hp2' : ((n1 : Int) != (n2 : Int)) = true := by rw [bne, hp2]; rfl
    have hpn : (n1 == n2) = false := by rw [beq_eq_false_iff_ne] at hp2 ⊢; omega
    have HF : Hid (museumB ⟨Hh, mds, mfs, mps, mgs, day, mrs⟩ = false) := by unfold Hid museumB; simp only [hl1.out, hl2.out, hpn]; simp
    clear hp0 hp1
    go_enter Tryd.func71, Tryd.ntmps71
    have b0 := (e0.cellAt w.heap.size hbl 0).trans HB.out.c0
    have b1 := (e0.cellAt w.heap.size hbl 1).trans HB.out.c1
    have b2 := (e0.cellAt w.heap.size hbl 2).trans HB.out.c2
    have b3 := (e0.cellAt w.heap.size hbl 3).trans HB.out.c3
    have b4 := (e0.cellAt w.heap.size hbl 4).trans HB.out.c4
    have b5 := (e0.cellAt w.heap.size hbl 5).trans HB.out.c5
    have b6 := (e0.cellAt w.heap.size hbl 6).trans HB.out.c6
    simp only at b0 b1 b2 b3 b4 b5 b6
    go_wp2_with fail
    rw [← Hwb.out]
    refine ((cF.out _ e0)).mono ?_
    rintro e w1 ⟨rfl, h1⟩
    have e1 := e0.trans h1
    clear h1
    clear b0 b1 b2 b3 b4 b5 b6
    have b0 := (e1.cellAt w.heap.size hbl 0).trans HB.out.c0
    have b1 := (e1.cellAt w.heap.size hbl 1).trans HB.out.c1
    have b2 := (e1.cellAt w.heap.size hbl 2).trans HB.out.c2
    have b3 := (e1.cellAt w.heap.size hbl 3).trans HB.out.c3
    have b4 := (e1.cellAt w.heap.size hbl 4).trans HB.out.c4
    have b5 := (e1.cellAt w.heap.size hbl 5).trans HB.out.c5
    have b6 := (e1.cellAt w.heap.size hbl 6).trans HB.out.c6
    simp only at b0 b1 b2 b3 b4 b5 b6
    go_wp2_with fail
    refine ((cP.out _ e1)).mono ?_
    rintro e w2 ⟨rfl, h2⟩
    have e2 := e1.trans h2
    clear h2
    clear b0 b1 b2 b3 b4 b5 b6
    have b0 := (e2.cellAt w.heap.size hbl 0).trans HB.out.c0
    have b1 := (e2.cellAt w.heap.size hbl 1).trans HB.out.c1
    have b2 := (e2.cellAt w.heap.size hbl 2).trans HB.out.c2
    have b3 := (e2.cellAt w.heap.size hbl 3).trans HB.out.c3
    have b4 := (e2.cellAt w.heap.size hbl 4).trans HB.out.c4
    have b5 := (e2.cellAt w.heap.size hbl 5).trans HB.out.c5
    have b6 := (e2.cellAt w.heap.size hbl 6).trans HB.out.c6
    simp only at b0 b1 b2 b3 b4 b5 b6
    go_wp2_with fail
    go_ret
    exact ⟨ret_bool HF.out.symm, HE.out.trans e2⟩
  have hpb : ((n1 : Int) != (n2 : Int)) = false := by rw [bne, hp2]; rfl
  have hpn : (n1 == n2) = true := by rw [beq_iff_eq] at hp2 ⊢; omega
  cases hp3 : hallsB Hh mds mgs
  case false =>
    rw [hp3] at cG
    have HF : Hid (museumB ⟨Hh, mds, mfs, mps, mgs, day, mrs⟩ = false) := by unfold Hid museumB; simp [hp3]
    clear hp0 hp1 hp3
    go_enter Tryd.func71, Tryd.ntmps71
    have b0 := (e0.cellAt w.heap.size hbl 0).trans HB.out.c0
    have b1 := (e0.cellAt w.heap.size hbl 1).trans HB.out.c1
    have b2 := (e0.cellAt w.heap.size hbl 2).trans HB.out.c2
    have b3 := (e0.cellAt w.heap.size hbl 3).trans HB.out.c3
    have b4 := (e0.cellAt w.heap.size hbl 4).trans HB.out.c4
    have b5 := (e0.cellAt w.heap.size hbl 5).trans HB.out.c5
    have b6 := (e0.cellAt w.heap.size hbl 6).trans HB.out.c6
    simp only at b0 b1 b2 b3 b4 b5 b6
    go_wp2_with fail
    rw [← Hwb.out]
    refine ((cF.out _ e0)).mono ?_
    rintro e w1 ⟨rfl, h1⟩
    have e1 := e0.trans h1
    clear h1
    clear b0 b1 b2 b3 b4 b5 b6
    have b0 := (e1.cellAt w.heap.size hbl 0).trans HB.out.c0
    have b1 := (e1.cellAt w.heap.size hbl 1).trans HB.out.c1
    have b2 := (e1.cellAt w.heap.size hbl 2).trans HB.out.c2
    have b3 := (e1.cellAt w.heap.size hbl 3).trans HB.out.c3
    have b4 := (e1.cellAt w.heap.size hbl 4).trans HB.out.c4
    have b5 := (e1.cellAt w.heap.size hbl 5).trans HB.out.c5
    have b6 := (e1.cellAt w.heap.size hbl 6).trans HB.out.c6
    simp only at b0 b1 b2 b3 b4 b5 b6
    go_wp2_with fail
    refine ((cP.out _ e1)).mono ?_
    rintro e w2 ⟨rfl, h2⟩
    have e2 := e1.trans h2
    clear h2
    clear b0 b1 b2 b3 b4 b5 b6
    have b0 := (e2.cellAt w.heap.size hbl 0).trans HB.out.c0
    have b1 := (e2.cellAt w.heap.size hbl 1).trans HB.out.c1
    have b2 := (e2.cellAt w.heap.size hbl 2).trans HB.out.c2
    have b3 := (e2.cellAt w.heap.size hbl 3).trans HB.out.c3
    have b4 := (e2.cellAt w.heap.size hbl 4).trans HB.out.c4
    have b5 := (e2.cellAt w.heap.size hbl 5).trans HB.out.c5
    have b6 := (e2.cellAt w.heap.size hbl 6).trans HB.out.c6
    simp only at b0 b1 b2 b3 b4 b5 b6
    go_wp2_with fail
    refine ((cG.out _ e2)).mono ?_
    rintro e w3 ⟨rfl, h3⟩
    have e3 := e2.trans h3
    clear h3
    clear b0 b1 b2 b3 b4 b5 b6
    have b0 := (e3.cellAt w.heap.size hbl 0).trans HB.out.c0
    have b1 := (e3.cellAt w.heap.size hbl 1).trans HB.out.c1
    have b2 := (e3.cellAt w.heap.size hbl 2).trans HB.out.c2
    have b3 := (e3.cellAt w.heap.size hbl 3).trans HB.out.c3
    have b4 := (e3.cellAt w.heap.size hbl 4).trans HB.out.c4
    have b5 := (e3.cellAt w.heap.size hbl 5).trans HB.out.c5
    have b6 := (e3.cellAt w.heap.size hbl 6).trans HB.out.c6
    simp only at b0 b1 b2 b3 b4 b5 b6
    go_wp2_with fail
    go_ret
    exact ⟨ret_bool HF.out.symm, HE.out.trans e3⟩
  rw [hp3] at cG
  by_cases hp4 : n3 ≤ 6
  case neg =>
    have HF : Hid (museumB ⟨Hh, mds, mfs, mps, mgs, day, mrs⟩ = false) := by unfold Hid museumB; simp only [hl3.out, decide_eq_false hp4]; simp
    clear hp0 hp1 hp3
    go_enter Tryd.func71, Tryd.ntmps71
    have b0 := (e0.cellAt w.heap.size hbl 0).trans HB.out.c0
    have b1 := (e0.cellAt w.heap.size hbl 1).trans HB.out.c1
    have b2 := (e0.cellAt w.heap.size hbl 2).trans HB.out.c2
    have b3 := (e0.cellAt w.heap.size hbl 3).trans HB.out.c3
    have b4 := (e0.cellAt w.heap.size hbl 4).trans HB.out.c4
    have b5 := (e0.cellAt w.heap.size hbl 5).trans HB.out.c5
    have b6 := (e0.cellAt w.heap.size hbl 6).trans HB.out.c6
    simp only at b0 b1 b2 b3 b4 b5 b6
    go_wp2_with fail
    rw [← Hwb.out]
    refine ((cF.out _ e0)).mono ?_
    rintro e w1 ⟨rfl, h1⟩
    have e1 := e0.trans h1
    clear h1
    clear b0 b1 b2 b3 b4 b5 b6
    have b0 := (e1.cellAt w.heap.size hbl 0).trans HB.out.c0
    have b1 := (e1.cellAt w.heap.size hbl 1).trans HB.out.c1
    have b2 := (e1.cellAt w.heap.size hbl 2).trans HB.out.c2
    have b3 := (e1.cellAt w.heap.size hbl 3).trans HB.out.c3
    have b4 := (e1.cellAt w.heap.size hbl 4).trans HB.out.c4
    have b5 := (e1.cellAt w.heap.size hbl 5).trans HB.out.c5
    have b6 := (e1.cellAt w.heap.size hbl 6).trans HB.out.c6
    simp only at b0 b1 b2 b3 b4 b5 b6
    go_wp2_with fail
    refine ((cP.out _ e1)).mono ?_
    rintro e w2 ⟨rfl, h2⟩
    have e2 := e1.trans h2
    clear h2
    clear b0 b1 b2 b3 b4 b5 b6
    have b0 := (e2.cellAt w.heap.size hbl 0).trans HB.out.c0
    have b1 := (e2.cellAt w.heap.size hbl 1).trans HB.out.c1
    have b2 := (e2.cellAt w.heap.size hbl 2).trans HB.out.c2
    have b3 := (e2.cellAt w.heap.size hbl 3).trans HB.out.c3
    have b4 := (e2.cellAt w.heap.size hbl 4).trans HB.out.c4
    have b5 := (e2.cellAt w.heap.size hbl 5).trans HB.out.c5
    have b6 := (e2.cellAt w.heap.size hbl 6).trans HB.out.c6
    simp only at b0 b1 b2 b3 b4 b5 b6
    go_wp2_with fail
    refine ((cG.out _ e2)).mono ?_
    rintro e w3 ⟨rfl, h3⟩
    have e3 := e2.trans h3
    clear h3
    clear b0 b1 b2 b3 b4 b5 b6
    have b0 := (e3.cellAt w.heap.size hbl 0).trans HB.out.c0
    have b1 := (e3.cellAt w.heap.size hbl 1).trans HB.out.c1
    have b2 := (e3.cellAt w.heap.size hbl 2).trans HB.out.c2
    have b3 := (e3.cellAt w.heap.size hbl 3).trans HB.out.c3
    have b4 := (e3.cellAt w.heap.size hbl 4).trans HB.out.c4
    have b5 := (e3.cellAt w.heap.size hbl 5).trans HB.out.c5
    have b6 := (e3.cellAt w.heap.size hbl 6).trans HB.out.c6
    simp only at b0 b1 b2 b3 b4 b5 b6
    go_wp2_with fail
    go_ret
    exact ⟨ret_bool HF.out.symm, HE.out.trans e3⟩
  have HM : Hid (museumB ⟨Hh, mds, mfs, mps, mgs, day, mrs⟩ = (inB day 0 1000000 && (sealedB mrs && mrs.all fun e => decide (e.m ≤ day)))) := by unfold Hid museumB; simp only [hp0, hp1, hp3, hl1.out, hl2.out, hl3.out, hpn, decide_eq_true hp4, Bool.true_and]
  clear hpn hp0 hp1 hp3
  cases hi : inB day 0 1000000
  case false =>
    rw [hi] at cD
    have HF : Hid (museumB ⟨Hh, mds, mfs, mps, mgs, day, mrs⟩ = false) := by unfold Hid; rw [HM.out, hi]; rfl
    clear hi
    go_enter Tryd.func71, Tryd.ntmps71
    have b0 := (e0.cellAt w.heap.size hbl 0).trans HB.out.c0
    have b1 := (e0.cellAt w.heap.size hbl 1).trans HB.out.c1
    have b2 := (e0.cellAt w.heap.size hbl 2).trans HB.out.c2
    have b3 := (e0.cellAt w.heap.size hbl 3).trans HB.out.c3
    have b4 := (e0.cellAt w.heap.size hbl 4).trans HB.out.c4
    have b5 := (e0.cellAt w.heap.size hbl 5).trans HB.out.c5
    have b6 := (e0.cellAt w.heap.size hbl 6).trans HB.out.c6
    simp only at b0 b1 b2 b3 b4 b5 b6
    go_wp2_with fail
    rw [← Hwb.out]
    refine ((cF.out _ e0)).mono ?_
    rintro e w1 ⟨rfl, h1⟩
    have e1 := e0.trans h1
    clear h1
    clear b0 b1 b2 b3 b4 b5 b6
    have b0 := (e1.cellAt w.heap.size hbl 0).trans HB.out.c0
    have b1 := (e1.cellAt w.heap.size hbl 1).trans HB.out.c1
    have b2 := (e1.cellAt w.heap.size hbl 2).trans HB.out.c2
    have b3 := (e1.cellAt w.heap.size hbl 3).trans HB.out.c3
    have b4 := (e1.cellAt w.heap.size hbl 4).trans HB.out.c4
    have b5 := (e1.cellAt w.heap.size hbl 5).trans HB.out.c5
    have b6 := (e1.cellAt w.heap.size hbl 6).trans HB.out.c6
    simp only at b0 b1 b2 b3 b4 b5 b6
    go_wp2_with fail
    refine ((cP.out _ e1)).mono ?_
    rintro e w2 ⟨rfl, h2⟩
    have e2 := e1.trans h2
    clear h2
    clear b0 b1 b2 b3 b4 b5 b6
    have b0 := (e2.cellAt w.heap.size hbl 0).trans HB.out.c0
    have b1 := (e2.cellAt w.heap.size hbl 1).trans HB.out.c1
    have b2 := (e2.cellAt w.heap.size hbl 2).trans HB.out.c2
    have b3 := (e2.cellAt w.heap.size hbl 3).trans HB.out.c3
    have b4 := (e2.cellAt w.heap.size hbl 4).trans HB.out.c4
    have b5 := (e2.cellAt w.heap.size hbl 5).trans HB.out.c5
    have b6 := (e2.cellAt w.heap.size hbl 6).trans HB.out.c6
    simp only at b0 b1 b2 b3 b4 b5 b6
    go_wp2_with fail
    refine ((cG.out _ e2)).mono ?_
    rintro e w3 ⟨rfl, h3⟩
    have e3 := e2.trans h3
    clear h3
    clear b0 b1 b2 b3 b4 b5 b6
    have b0 := (e3.cellAt w.heap.size hbl 0).trans HB.out.c0
    have b1 := (e3.cellAt w.heap.size hbl 1).trans HB.out.c1
    have b2 := (e3.cellAt w.heap.size hbl 2).trans HB.out.c2
    have b3 := (e3.cellAt w.heap.size hbl 3).trans HB.out.c3
    have b4 := (e3.cellAt w.heap.size hbl 4).trans HB.out.c4
    have b5 := (e3.cellAt w.heap.size hbl 5).trans HB.out.c5
    have b6 := (e3.cellAt w.heap.size hbl 6).trans HB.out.c6
    simp only at b0 b1 b2 b3 b4 b5 b6
    go_wp2_with fail
    have E3 := Lib.hid e3
    have cS' := Lib.hid (fun d os => cS.out (grow (redrawn w3 d) os) (e3.trans (ext_rg w3 d os)))
    have y0 := cell_regrown b0
    have y1 := cell_regrown b1
    have y2 := cell_regrown b2
    have y3 := cell_regrown b3
    have y4 := cell_regrown b4
    have y5 := cell_regrown b5
    have y6 := cell_regrown b6
    clear e3
    (refine wp_region_ext (by kernel_rfl) (by kernel_rfl) ?_; (repeat (go_big_quiet_step (first | (go_at_call 72; with_reducible exact Calls.rg0 (cD.out _)) | (go_at_call 96; with_reducible exact Calls.rg (cS'.out _ _))))); refine wpQuiet_nil ?_)
    intro w9 he9
    have HE9 := Lib.hid (E3.out.trans he9)
    clear he9 b0 y0 b1 y1 b2 y2 b3 y3 b4 y4 b5 y5 b6 y6
    go_wp2_with fail
    go_ret
    exact ⟨ret_bool HF.out.symm, HE.out.trans HE9.out⟩
  rw [hi] at cD
  cases hs : sealedB mrs
  case false =>
    rw [hs] at cS
    have HF : Hid (museumB ⟨Hh, mds, mfs, mps, mgs, day, mrs⟩ = false) := by unfold Hid; rw [HM.out, hs, hi]; rfl
    clear hi hs
    go_enter Tryd.func71, Tryd.ntmps71
    have b0 := (e0.cellAt w.heap.size hbl 0).trans HB.out.c0
    have b1 := (e0.cellAt w.heap.size hbl 1).trans HB.out.c1
    have b2 := (e0.cellAt w.heap.size hbl 2).trans HB.out.c2
    have b3 := (e0.cellAt w.heap.size hbl 3).trans HB.out.c3
    have b4 := (e0.cellAt w.heap.size hbl 4).trans HB.out.c4
    have b5 := (e0.cellAt w.heap.size hbl 5).trans HB.out.c5
    have b6 := (e0.cellAt w.heap.size hbl 6).trans HB.out.c6
    simp only at b0 b1 b2 b3 b4 b5 b6
    go_wp2_with fail
    rw [← Hwb.out]
    refine ((cF.out _ e0)).mono ?_
    rintro e w1 ⟨rfl, h1⟩
    have e1 := e0.trans h1
    clear h1
    clear b0 b1 b2 b3 b4 b5 b6
    have b0 := (e1.cellAt w.heap.size hbl 0).trans HB.out.c0
    have b1 := (e1.cellAt w.heap.size hbl 1).trans HB.out.c1
    have b2 := (e1.cellAt w.heap.size hbl 2).trans HB.out.c2
    have b3 := (e1.cellAt w.heap.size hbl 3).trans HB.out.c3
    have b4 := (e1.cellAt w.heap.size hbl 4).trans HB.out.c4
    have b5 := (e1.cellAt w.heap.size hbl 5).trans HB.out.c5
    have b6 := (e1.cellAt w.heap.size hbl 6).trans HB.out.c6
    simp only at b0 b1 b2 b3 b4 b5 b6
    go_wp2_with fail
    refine ((cP.out _ e1)).mono ?_
    rintro e w2 ⟨rfl, h2⟩
    have e2 := e1.trans h2
    clear h2
    clear b0 b1 b2 b3 b4 b5 b6
    have b0 := (e2.cellAt w.heap.size hbl 0).trans HB.out.c0
    have b1 := (e2.cellAt w.heap.size hbl 1).trans HB.out.c1
    have b2 := (e2.cellAt w.heap.size hbl 2).trans HB.out.c2
    have b3 := (e2.cellAt w.heap.size hbl 3).trans HB.out.c3
    have b4 := (e2.cellAt w.heap.size hbl 4).trans HB.out.c4
    have b5 := (e2.cellAt w.heap.size hbl 5).trans HB.out.c5
    have b6 := (e2.cellAt w.heap.size hbl 6).trans HB.out.c6
    simp only at b0 b1 b2 b3 b4 b5 b6
    go_wp2_with fail
    refine ((cG.out _ e2)).mono ?_
    rintro e w3 ⟨rfl, h3⟩
    have e3 := e2.trans h3
    clear h3
    clear b0 b1 b2 b3 b4 b5 b6
    have b0 := (e3.cellAt w.heap.size hbl 0).trans HB.out.c0
    have b1 := (e3.cellAt w.heap.size hbl 1).trans HB.out.c1
    have b2 := (e3.cellAt w.heap.size hbl 2).trans HB.out.c2
    have b3 := (e3.cellAt w.heap.size hbl 3).trans HB.out.c3
    have b4 := (e3.cellAt w.heap.size hbl 4).trans HB.out.c4
    have b5 := (e3.cellAt w.heap.size hbl 5).trans HB.out.c5
    have b6 := (e3.cellAt w.heap.size hbl 6).trans HB.out.c6
    simp only at b0 b1 b2 b3 b4 b5 b6
    go_wp2_with fail
    have E3 := Lib.hid e3
    have cS' := Lib.hid (fun d os => cS.out (grow (redrawn w3 d) os) (e3.trans (ext_rg w3 d os)))
    have y0 := cell_regrown b0
    have y1 := cell_regrown b1
    have y2 := cell_regrown b2
    have y3 := cell_regrown b3
    have y4 := cell_regrown b4
    have y5 := cell_regrown b5
    have y6 := cell_regrown b6
    clear e3
    (refine wp_region_ext (by kernel_rfl) (by kernel_rfl) ?_; (repeat (go_big_quiet_step (first | (go_at_call 72; with_reducible exact Calls.rg0 (cD.out _)) | (go_at_call 96; with_reducible exact Calls.rg (cS'.out _ _))))); refine wpQuiet_nil ?_)
    intro w9 he9
    have HE9 := Lib.hid (E3.out.trans he9)
    clear he9 b0 y0 b1 y1 b2 y2 b3 y3 b4 y4 b5 y5 b6 y6
    go_wp2_with fail
    go_ret
    exact ⟨ret_bool HF.out.symm, HE.out.trans HE9.out⟩
  rw [hs] at cS
  by_cases h4 : n4 = 0
  case pos =>
    have hnil : mrs = [] := List.eq_nil_of_length_eq_zero (by rw [hl4.out]; exact h4)
    have HF : Hid (museumB ⟨Hh, mds, mfs, mps, mgs, day, mrs⟩ = true) := by unfold Hid; rw [HM.out, hs, hi, hnil]; rfl
    have f4 : ((n4 : Int) == 0) = true := by rw [beq_iff_eq]; omega
    clear hi hs hnil h4
    go_enter Tryd.func71, Tryd.ntmps71
    have b0 := (e0.cellAt w.heap.size hbl 0).trans HB.out.c0
    have b1 := (e0.cellAt w.heap.size hbl 1).trans HB.out.c1
    have b2 := (e0.cellAt w.heap.size hbl 2).trans HB.out.c2
    have b3 := (e0.cellAt w.heap.size hbl 3).trans HB.out.c3
    have b4 := (e0.cellAt w.heap.size hbl 4).trans HB.out.c4
    have b5 := (e0.cellAt w.heap.size hbl 5).trans HB.out.c5
    have b6 := (e0.cellAt w.heap.size hbl 6).trans HB.out.c6
    simp only at b0 b1 b2 b3 b4 b5 b6
    go_wp2_with fail
    rw [← Hwb.out]
    refine ((cF.out _ e0)).mono ?_
    rintro e w1 ⟨rfl, h1⟩
    have e1 := e0.trans h1
    clear h1
    clear b0 b1 b2 b3 b4 b5 b6
    have b0 := (e1.cellAt w.heap.size hbl 0).trans HB.out.c0
    have b1 := (e1.cellAt w.heap.size hbl 1).trans HB.out.c1
    have b2 := (e1.cellAt w.heap.size hbl 2).trans HB.out.c2
    have b3 := (e1.cellAt w.heap.size hbl 3).trans HB.out.c3
    have b4 := (e1.cellAt w.heap.size hbl 4).trans HB.out.c4
    have b5 := (e1.cellAt w.heap.size hbl 5).trans HB.out.c5
    have b6 := (e1.cellAt w.heap.size hbl 6).trans HB.out.c6
    simp only at b0 b1 b2 b3 b4 b5 b6
    go_wp2_with fail
    refine ((cP.out _ e1)).mono ?_
    rintro e w2 ⟨rfl, h2⟩
    have e2 := e1.trans h2
    clear h2
    clear b0 b1 b2 b3 b4 b5 b6
    have b0 := (e2.cellAt w.heap.size hbl 0).trans HB.out.c0
    have b1 := (e2.cellAt w.heap.size hbl 1).trans HB.out.c1
    have b2 := (e2.cellAt w.heap.size hbl 2).trans HB.out.c2
    have b3 := (e2.cellAt w.heap.size hbl 3).trans HB.out.c3
    have b4 := (e2.cellAt w.heap.size hbl 4).trans HB.out.c4
    have b5 := (e2.cellAt w.heap.size hbl 5).trans HB.out.c5
    have b6 := (e2.cellAt w.heap.size hbl 6).trans HB.out.c6
    simp only at b0 b1 b2 b3 b4 b5 b6
    go_wp2_with fail
    refine ((cG.out _ e2)).mono ?_
    rintro e w3 ⟨rfl, h3⟩
    have e3 := e2.trans h3
    clear h3
    clear b0 b1 b2 b3 b4 b5 b6
    have b0 := (e3.cellAt w.heap.size hbl 0).trans HB.out.c0
    have b1 := (e3.cellAt w.heap.size hbl 1).trans HB.out.c1
    have b2 := (e3.cellAt w.heap.size hbl 2).trans HB.out.c2
    have b3 := (e3.cellAt w.heap.size hbl 3).trans HB.out.c3
    have b4 := (e3.cellAt w.heap.size hbl 4).trans HB.out.c4
    have b5 := (e3.cellAt w.heap.size hbl 5).trans HB.out.c5
    have b6 := (e3.cellAt w.heap.size hbl 6).trans HB.out.c6
    simp only at b0 b1 b2 b3 b4 b5 b6
    go_wp2_with fail
    have E3 := Lib.hid e3
    have cS' := Lib.hid (fun d os => cS.out (grow (redrawn w3 d) os) (e3.trans (ext_rg w3 d os)))
    have y0 := cell_regrown b0
    have y1 := cell_regrown b1
    have y2 := cell_regrown b2
    have y3 := cell_regrown b3
    have y4 := cell_regrown b4
    have y5 := cell_regrown b5
    have y6 := cell_regrown b6
    clear e3
    (refine wp_region_ext (by kernel_rfl) (by kernel_rfl) ?_; (repeat (go_big_quiet_step (first | (go_at_call 72; with_reducible exact Calls.rg0 (cD.out _)) | (go_at_call 96; with_reducible exact Calls.rg (cS'.out _ _))))); refine wpQuiet_nil ?_)
    intro w9 he9
    have HE9 := Lib.hid (E3.out.trans he9)
    clear he9 b0 y0 b1 y1 b2 y2 b3 y3 b4 y4 b5 y5 b6 y6
    go_wp2_with fail
    go_ret
    exact ⟨ret_bool HF.out.symm, HE.out.trans HE9.out⟩
  case neg =>
    obtain ⟨bb, off, x, hA, hbb, hxk, p0, -, -⟩ := GEntry.at_ hxr.out (show n4 - 1 < n4 by omega)
    have HF : Hid (museumB ⟨Hh, mds, mfs, mps, mgs, day, mrs⟩ = decide (x.m ≤ day)) := by
      unfold Hid
      rw [HM.out, hs, hi, sealed_last hs (k := n4 - 1) (by rw [hl4.out]; omega) hxk]; rfl
    have f4 : ((n4 : Int) == 0) = false := by rw [beq_eq_false_iff_ne]; omega
    have ew : IntKind.i64.wrap ((n4 : Int) - 1) = (n4 : Int) - 1 := IntWalk.i64_in _ (by omega)
    have i1 : (0 : Int) ≤ (n4 : Int) - 1 := by omega
    have i4 : (1 : Int) ≤ (n4 : Int) := by omega
    have i2 : (n4 : Int) - 1 < (n4 : Int) := by omega
    have i3 : ((n4 : Int) - 1).toNat = n4 - 1 := by omega
    subst hA
    clear hi hs hxk h4
    cases hd : decide (x.m ≤ day)
    case false =>
      rw [hd] at HF
      go_enter Tryd.func71, Tryd.ntmps71
      have b0 := (e0.cellAt w.heap.size hbl 0).trans HB.out.c0
      have b1 := (e0.cellAt w.heap.size hbl 1).trans HB.out.c1
      have b2 := (e0.cellAt w.heap.size hbl 2).trans HB.out.c2
      have b3 := (e0.cellAt w.heap.size hbl 3).trans HB.out.c3
      have b4 := (e0.cellAt w.heap.size hbl 4).trans HB.out.c4
      have b5 := (e0.cellAt w.heap.size hbl 5).trans HB.out.c5
      have b6 := (e0.cellAt w.heap.size hbl 6).trans HB.out.c6
      simp only at b0 b1 b2 b3 b4 b5 b6
      go_wp2_with fail
      rw [← Hwb.out]
      refine ((cF.out _ e0)).mono ?_
      rintro e w1 ⟨rfl, h1⟩
      have e1 := e0.trans h1
      clear h1
      clear b0 b1 b2 b3 b4 b5 b6
      have b0 := (e1.cellAt w.heap.size hbl 0).trans HB.out.c0
      have b1 := (e1.cellAt w.heap.size hbl 1).trans HB.out.c1
      have b2 := (e1.cellAt w.heap.size hbl 2).trans HB.out.c2
      have b3 := (e1.cellAt w.heap.size hbl 3).trans HB.out.c3
      have b4 := (e1.cellAt w.heap.size hbl 4).trans HB.out.c4
      have b5 := (e1.cellAt w.heap.size hbl 5).trans HB.out.c5
      have b6 := (e1.cellAt w.heap.size hbl 6).trans HB.out.c6
      simp only at b0 b1 b2 b3 b4 b5 b6
      go_wp2_with fail
      refine ((cP.out _ e1)).mono ?_
      rintro e w2 ⟨rfl, h2⟩
      have e2 := e1.trans h2
      clear h2
      clear b0 b1 b2 b3 b4 b5 b6
      have b0 := (e2.cellAt w.heap.size hbl 0).trans HB.out.c0
      have b1 := (e2.cellAt w.heap.size hbl 1).trans HB.out.c1
      have b2 := (e2.cellAt w.heap.size hbl 2).trans HB.out.c2
      have b3 := (e2.cellAt w.heap.size hbl 3).trans HB.out.c3
      have b4 := (e2.cellAt w.heap.size hbl 4).trans HB.out.c4
      have b5 := (e2.cellAt w.heap.size hbl 5).trans HB.out.c5
      have b6 := (e2.cellAt w.heap.size hbl 6).trans HB.out.c6
      simp only at b0 b1 b2 b3 b4 b5 b6
      go_wp2_with fail
      refine ((cG.out _ e2)).mono ?_
      rintro e w3 ⟨rfl, h3⟩
      have e3 := e2.trans h3
      clear h3
      clear b0 b1 b2 b3 b4 b5 b6
      have b0 := (e3.cellAt w.heap.size hbl 0).trans HB.out.c0
      have b1 := (e3.cellAt w.heap.size hbl 1).trans HB.out.c1
      have b2 := (e3.cellAt w.heap.size hbl 2).trans HB.out.c2
      have b3 := (e3.cellAt w.heap.size hbl 3).trans HB.out.c3
      have b4 := (e3.cellAt w.heap.size hbl 4).trans HB.out.c4
      have b5 := (e3.cellAt w.heap.size hbl 5).trans HB.out.c5
      have b6 := (e3.cellAt w.heap.size hbl 6).trans HB.out.c6
      simp only at b0 b1 b2 b3 b4 b5 b6
      go_wp2_with fail
      have E3 := Lib.hid e3
      have cS' := Lib.hid (fun d os => cS.out (grow (redrawn w3 d) os) (e3.trans (ext_rg w3 d os)))
      have y0 := cell_regrown b0
      have y1 := cell_regrown b1
      have y2 := cell_regrown b2
      have y3 := cell_regrown b3
      have y4 := cell_regrown b4
      have y5 := cell_regrown b5
      have y6 := cell_regrown b6
      have x0 := (e3.cellAt bb hbb _).trans p0
      have x1 := cell_regrown x0
      clear e3
      (refine wp_region_ext (by kernel_rfl) (by kernel_rfl) ?_; (repeat (go_big_quiet_step (first | (go_at_call 72; with_reducible exact Calls.rg0 (cD.out _)) | (go_at_call 96; with_reducible exact Calls.rg (cS'.out _ _))))); refine wpQuiet_nil ?_)
      intro w9 he9
      have HE9 := Lib.hid (E3.out.trans he9)
      clear he9 b0 y0 b1 y1 b2 y2 b3 y3 b4 y4 b5 y5 b6 y6 x0 x1
      go_wp2_with fail
      go_ret
      exact ⟨ret_bool HF.out.symm, HE.out.trans HE9.out⟩
    case true =>
      rw [hd] at HF
      go_enter Tryd.func71, Tryd.ntmps71
      have b0 := (e0.cellAt w.heap.size hbl 0).trans HB.out.c0
      have b1 := (e0.cellAt w.heap.size hbl 1).trans HB.out.c1
      have b2 := (e0.cellAt w.heap.size hbl 2).trans HB.out.c2
      have b3 := (e0.cellAt w.heap.size hbl 3).trans HB.out.c3
      have b4 := (e0.cellAt w.heap.size hbl 4).trans HB.out.c4
      have b5 := (e0.cellAt w.heap.size hbl 5).trans HB.out.c5
      have b6 := (e0.cellAt w.heap.size hbl 6).trans HB.out.c6
      simp only at b0 b1 b2 b3 b4 b5 b6
      go_wp2_with fail
      rw [← Hwb.out]
      refine ((cF.out _ e0)).mono ?_
      rintro e w1 ⟨rfl, h1⟩
      have e1 := e0.trans h1
      clear h1
      clear b0 b1 b2 b3 b4 b5 b6
      have b0 := (e1.cellAt w.heap.size hbl 0).trans HB.out.c0
      have b1 := (e1.cellAt w.heap.size hbl 1).trans HB.out.c1
      have b2 := (e1.cellAt w.heap.size hbl 2).trans HB.out.c2
      have b3 := (e1.cellAt w.heap.size hbl 3).trans HB.out.c3
      have b4 := (e1.cellAt w.heap.size hbl 4).trans HB.out.c4
      have b5 := (e1.cellAt w.heap.size hbl 5).trans HB.out.c5
      have b6 := (e1.cellAt w.heap.size hbl 6).trans HB.out.c6
      simp only at b0 b1 b2 b3 b4 b5 b6
      go_wp2_with fail
      refine ((cP.out _ e1)).mono ?_
      rintro e w2 ⟨rfl, h2⟩
      have e2 := e1.trans h2
      clear h2
      clear b0 b1 b2 b3 b4 b5 b6
      have b0 := (e2.cellAt w.heap.size hbl 0).trans HB.out.c0
      have b1 := (e2.cellAt w.heap.size hbl 1).trans HB.out.c1
      have b2 := (e2.cellAt w.heap.size hbl 2).trans HB.out.c2
      have b3 := (e2.cellAt w.heap.size hbl 3).trans HB.out.c3
      have b4 := (e2.cellAt w.heap.size hbl 4).trans HB.out.c4
      have b5 := (e2.cellAt w.heap.size hbl 5).trans HB.out.c5
      have b6 := (e2.cellAt w.heap.size hbl 6).trans HB.out.c6
      simp only at b0 b1 b2 b3 b4 b5 b6
      go_wp2_with fail
      refine ((cG.out _ e2)).mono ?_
      rintro e w3 ⟨rfl, h3⟩
      have e3 := e2.trans h3
      clear h3
      clear b0 b1 b2 b3 b4 b5 b6
      have b0 := (e3.cellAt w.heap.size hbl 0).trans HB.out.c0
      have b1 := (e3.cellAt w.heap.size hbl 1).trans HB.out.c1
      have b2 := (e3.cellAt w.heap.size hbl 2).trans HB.out.c2
      have b3 := (e3.cellAt w.heap.size hbl 3).trans HB.out.c3
      have b4 := (e3.cellAt w.heap.size hbl 4).trans HB.out.c4
      have b5 := (e3.cellAt w.heap.size hbl 5).trans HB.out.c5
      have b6 := (e3.cellAt w.heap.size hbl 6).trans HB.out.c6
      simp only at b0 b1 b2 b3 b4 b5 b6
      go_wp2_with fail
      have E3 := Lib.hid e3
      have cS' := Lib.hid (fun d os => cS.out (grow (redrawn w3 d) os) (e3.trans (ext_rg w3 d os)))
      have y0 := cell_regrown b0
      have y1 := cell_regrown b1
      have y2 := cell_regrown b2
      have y3 := cell_regrown b3
      have y4 := cell_regrown b4
      have y5 := cell_regrown b5
      have y6 := cell_regrown b6
      have x0 := (e3.cellAt bb hbb _).trans p0
      have x1 := cell_regrown x0
      clear e3
      (refine wp_region_ext (by kernel_rfl) (by kernel_rfl) ?_; (repeat (go_big_quiet_step (first | (go_at_call 72; with_reducible exact Calls.rg0 (cD.out _)) | (go_at_call 96; with_reducible exact Calls.rg (cS'.out _ _))))); refine wpQuiet_nil ?_)
      intro w9 he9
      have HE9 := Lib.hid (E3.out.trans he9)
      clear he9 b0 y0 b1 y1 b2 y2 b3 y3 b4 y4 b5 y5 b6 y6 x0 x1
      go_wp2_with fail
      go_ret
      exact ⟨ret_bool HF.out.symm, HE.out.trans HE9.out⟩
end Go.Proofs.YtfhibjehnoibeaaDoor
/- Contracts of the copies of records; no condition but what stands at each theorem. -/
namespace Go.Proofs.YtfhibjehnoibeaaDoor
set_option linter.unusedSimpArgs false
set_option linter.unusedVariables false
open Go.RowKit Go.Sort
theorem one_GEntry1 (x : GEntry) : ∀ u ∈ x.enc, u.oneCell' = true := by
  intro u hu
  simp only [GEntry.enc, List.mem_cons, List.not_mem_nil, or_false] at hu
  rcases hu with rfl | rfl | rfl <;> rfl
theorem one_GEntry (xs : List GEntry) : ∀ u ∈ xs.flatMap GEntry.enc, u.oneCell' = true := by
  intro u hu
  obtain ⟨x, _, h⟩ := List.mem_flatMap.1 hu
  exact one_GEntry1 x u h
theorem one_GDoorN (xs : List GDoor) : ∀ u ∈ xs.flatMap GDoor.enc, u.oneCell' = true := by
  intro u hu
  obtain ⟨x, _, h⟩ := List.mem_flatMap.1 hu
  simp only [GDoor.enc, List.mem_cons, List.not_mem_nil, or_false] at h
  rcases h with rfl | rfl <;> rfl
theorem own_nilM {w : World} {base : Nat} {e : TypeId} {m n n' c : Nat} {A : Option Addr} {L : List Value} (h : w.ownsRow base e m (.slice A n' c) n L) : A = none → c = 0 := by
  intro hA
  rcases h.2 with ⟨hv, _⟩ | ⟨g, cap, cur, hv, _⟩
  · injection hv
  · injection hv with h1
    rw [hA] at h1
    cases h1
/-- A row that is nil has no room; rows of at most 2^20 elements. -/
structure MFit (v : MV) : Prop where
  zd : v.sd.A = none → v.sd.c = 0
  zf : v.sf.A = none → v.sf.c = 0
  zp : v.sp.A = none → v.sp.c = 0
  zg : v.sg.A = none → v.sg.c = 0
  zr : v.sr.A = none → v.sr.c = 0
  nd : v.sd.n ≤ 1048576
  nf : v.sf.n ≤ 1048576
  np : v.sp.n ≤ 1048576
  ng : v.sg.n ≤ 1048576
  nr : v.sr.n ≤ 1048576
theorem MFit.of_own {w : World} {base : Nat} {v : MV} {m : GMuseum} (h : MOwn w base v m) (hd : v.sd.n ≤ 1048576) (hf : v.sf.n ≤ 1048576) (hp : v.sp.n ≤ 1048576) (hg : v.sg.n ≤ 1048576) (hr : v.sr.n ≤ 1048576) : MFit v :=
  ⟨own_nilM h.od, own_nilM h.of_, own_nilM h.op, own_nilM h.og, own_nilM h.or_, hd, hf, hp, hg, hr⟩
/-- A copy of the museum m, in rows of the call's own. -/
def CopyPost (m : GMuseum) (w : World) (e : Ending) (w' : World) : Prop := ∃ v : MV, e = .returned v.val ∧ Ext w w' ∧ MOwn w' w.heap.size v m
theorem one_iencM (xs : List Int) : ∀ u ∈ xs.flatMap ienc, u.oneCell' = true := by
  intro u hu
  obtain ⟨x, _, h⟩ := List.mem_flatMap.1 hu
  simp only [ienc, List.mem_singleton] at h
  subst h
  rfl
theorem ei_IntN : EI Tryd.prog 27 3 1 := ei_of Tryd.underlying27 (by omega) (by kernel_rfl)
theorem spec_l35CopyN (A : Option Addr) (n c : Nat) (xs : List Int) (w : World) (hx : Rd w 1 A n (xs.flatMap ienc)) (hnc : Hid (A = none → c = 0)) (hn : n ≤ 1048576) :
    Calls Tryd.prog 92 #[.slice A n c] w fun e w' => ∃ g c', e = .returned (.slice (some ⟨g, 0, none⟩) n c') ∧ Ext w w' ∧ w'.ownsRow w.heap.size 3 1 (.slice (some ⟨g, 0, none⟩) n c') n (xs.flatMap ienc) := by
  have HX := Lib.hid hx
  clear hx
  go_enter Tryd.func92, Tryd.ntmps92
  go_wp2_with (at_builtin; refine (fun h : Hid _ => h.out) ?_)
  unfold Hid
  refine appendRdN ei_IntN rfl _ _ rfl w.heap.size _ _ 0 [] (by rfl) (own_empty w w.heap.size 3 1 (Nat.le_refl _)) A n c (xs.flatMap ienc) (by rfl) (HX.out.alloc _) hnc.out (one_iencM _) (by omega) (by simp) (by intro h; cases h) ?_
  intro g c' w1
  rw [Nat.zero_add, List.nil_append]
  intro ho he
  have HO1 := Lib.hid ho
  have HE1 := Lib.hid (he w ((Ext.refl w).alloc _) (Nat.le_refl _))
  clear ho he
  go_wp2_with fail
  go_ret
  exact ⟨g, c', rfl, HE1.out, HO1.out⟩
theorem ei_EntryS : EI Tryd.prog 28 58 3 := ei_of Tryd.underlying28 (by omega) (by kernel_rfl)
theorem spec_l30Copy (A : Option Addr) (n c : Nat) (xs : List GEntry) (w : World) (hx : Rd w 3 A n (xs.flatMap GEntry.enc)) (hnc : Hid (A = none → c = 0)) (hn : n ≤ 1048576) :
    Calls Tryd.prog 93 #[.slice A n c] w fun e w' => ∃ g c', e = .returned (.slice (some ⟨g, 0, none⟩) n c') ∧ Ext w w' ∧ w'.ownsRow w.heap.size 58 3 (.slice (some ⟨g, 0, none⟩) n c') n (xs.flatMap GEntry.enc) := by
  have HX := Lib.hid hx
  clear hx
  go_enter Tryd.func93, Tryd.ntmps93
  go_wp2_with (at_builtin; refine (fun h : Hid _ => h.out) ?_)
  unfold Hid
  refine appendRdN ei_EntryS rfl _ _ rfl w.heap.size _ _ 0 [] (by rfl) (own_empty w w.heap.size 58 3 (Nat.le_refl _)) A n c (xs.flatMap GEntry.enc) (by rfl) (HX.out.alloc _) hnc.out (one_GEntry _) (by omega) (by simp) (by intro h; cases h) ?_
  intro g c' w1
  rw [Nat.zero_add, List.nil_append]
  intro ho he
  have HO1 := Lib.hid ho
  have HE1 := Lib.hid (he w ((Ext.refl w).alloc _) (Nat.le_refl _))
  clear ho he
  go_wp2_with fail
  go_ret
  exact ⟨g, c', rfl, HE1.out, HO1.out⟩
end Go.Proofs.YtfhibjehnoibeaaDoor
/- A region that draws its order, walked by what holds between its operations; no condition but what stands at each theorem. -/
namespace Go.Proofs.YtfhibjehnoibeaaDoor
set_option linter.unusedSimpArgs false
set_option linter.unusedVariables false
open Go.RowKit
/-- n operations are left that may come in any order; Inv holds between them. -/
theorem wpAnyH_inv {P : Program} {md : Region.Mode} {ops : Array Oper} {Q : Exit → Act → World → Prop} {S : World → Prop} (f1 : Nat) (Inv : Nat → Array Bool → Act → World → Prop)
    (h0 : ∀ listed a w, Inv 0 listed a w → wpAnyH P md ops Q S f1 listed a w)
    (hs : ∀ n listed a w, Inv (n + 1) listed a w → Region.ready md ops listed ≠ [] ∧ ∀ i ∈ Region.ready md ops listed, wpOp P ops Q i (fun a' w' => S w' ∧ Inv n (listed.setIfInBounds i true) a' w') a w) :
    ∀ n listed a w, Inv n listed a w → wpAnyH P md ops Q S (f1 + n) listed a w
  | 0, listed, a, w, h => h0 listed a w h
  | n + 1, listed, a, w, h => by
    obtain ⟨h1, h2⟩ := hs n listed a w h
    exact ⟨fun e => absurd e h1, fun i hi => wpOp_mono (fun a' w' h3 => ⟨h3.1, wpAnyH_inv f1 Inv h0 hs n _ a' w' h3.2⟩) (h2 i hi)⟩
theorem wpAnyH_takeD {P : Program} {md : Region.Mode} {ops : Array Oper} {Q : Exit → Act → World → Prop} {S : World → Prop} {i : Nat} {oi : Oper} {v : Value} {fuel : Nat} {listed : Array Bool} {a : Act} {w : World} (d : Tmp) (hi : ops[i]? = some oi) (hd : oi.dst = some d)
    (hs : Region.noSelect ops = true) (hf : Region.free md ops listed i = true) (hr : (Region.ready md ops listed).contains i = true)
    (hQ : ∀ c a w, Q (.panic c) (a.put oi.dst v) w → Q (.panic c) a w) (hy : YieldsIf P ops S oi v a) (hS : S w)
    (h : wpAnyH P md ops Q S fuel (listed.setIfInBounds i true) (a.put (some d) v) w) : wpAnyH P md ops Q S (fuel + 1) listed a w := by
  rw [← hd] at h
  exact wpAnyH_take hi hs hf hr hQ hy hS h
theorem wpAnyH_start {P : Program} {md : Region.Mode} {ops : Array Oper} {Q : Exit → Act → World → Prop} {S : World → Prop} {fuel : Nat} (f1 n : Nat) {l : Array Bool} (l' : Array Bool) {a : Act} {w : World} (hf : fuel = f1 + n) (hl : l = l')
    (h : wpAnyH P md ops Q S (f1 + n) l' a w) : wpAnyH P md ops Q S fuel l a w := by
  subst hf
  subst hl
  exact h
/-- append of a row that came in to one of the call's own: what it reads as, how the world grew, where it lies. -/
theorem wp_appAt {P : Program} {o : Oper} {a : Act} {K : Act → World → Prop} {Q : Exit → Act → World → Prop} {t e : TypeId} {m : Nat} (hE : EI P t e m) (s x : Operand)
    (ho : o.op = .call { callee := .builtin .append, args := #[s, x], argTypes := #[t, t] }) (base : Nat) (W : World) (v : Value) (n : Nat) (xs : List Value) (hs : a.eval s = v) (hown : W.ownsRow base e m v n xs)
    (A : Option Addr) (k c : Nat) (ys : List Value) (hx : a.eval x = .slice A k c) (hr : Rd W m A k ys) (hA : A = none → c = 0) (h1 : ∀ u ∈ ys, u.oneCell' = true) (hn : n + k ≤ 1073741824) (hbase : base ≤ W.heap.size)
    (h : ∀ v' w1, w1.ownsRow base e m v' (n + k) (xs ++ ys) → W.grownBy w1 v.ownBlock → (∀ g, v'.ownBlock = some g → v.ownBlock = some g ∨ W.heap.size ≤ g) → K (a.put o.dst v') w1) : Oper.wp P o a W K Q := by
  obtain ⟨i, z, hu, hi, hz, hsz, hby, hzs, h0⟩ := hE
  subst hsz
  cases A with
  | none =>
    have hk := hr.none_len rfl
    subst hk
    have hc := hA rfl
    subst hc
    have hys : ys = [] := List.eq_nil_of_length_eq_zero (by rw [hr.1]; simp)
    subst hys
    have hrun := run_append_owned_none (P := P) (w := W) base t o.type e i i.size hu hi v n xs hown
    unfold Oper.wp
    simp [execOp, ho, resolve, invoke, builtin, hs, hx, hrun, Result.andThen]
    refine h v W (by simpa using hown) (grown_refl W _) fun g hg => .inl hg
  | some ad =>
    obtain ⟨v', w', hrun, h2, h3, -, h5⟩ := run_append_own_at (P := P) W base t o.type e i z i.size i.bytes hu hi hz rfl rfl hzs h0 v n xs hown ad k c ys hr.1 (hr.cells ad rfl) h1 (by unfold maxLen; omega) (by
      have := Nat.mul_le_mul_left (n + k) hby
      omega) hbase
    unfold Oper.wp
    simp [execOp, ho, resolve, invoke, builtin, hs, hx, hrun, Result.andThen]
    refine h v' w' h2 h3 fun g hg => ?_
    rcases h5 with e' | e'
    · exact .inl (by rw [← e', hg])
    · rw [hg] at e'
      injection e' with e'
      exact .inr (by rw [e']; exact Nat.le_refl _)
theorem step_appAt {P : Program} {ops : Array Oper} {o : Oper} {a : Act} {K : Act → World → Prop} {Q : Exit → Act → World → Prop} {E : Prop} {t e : TypeId} {m : Nat} (hE : EI P t e m) (hgd : o.guard = none) (s x : Operand)
    (ho : o.op = .call { callee := .builtin .append, args := #[s, x], argTypes := #[t, t] }) (base : Nat) (W : World) (v : Value) (n : Nat) (xs : List Value) (hs : a.eval s = v) (hown : W.ownsRow base e m v n xs)
    (A : Option Addr) (k c : Nat) (ys : List Value) (hx : a.eval x = .slice A k c) (hr : Rd W m A k ys) (hA : A = none → c = 0) (h1 : ∀ u ∈ ys, u.oneCell' = true) (hn : n + k ≤ 1073741824) (hbase : base ≤ W.heap.size)
    (h : ∀ v' w1, w1.ownsRow base e m v' (n + k) (xs ++ ys) → W.grownBy w1 v.ownBlock → (∀ g, v'.ownBlock = some g → v.ownBlock = some g ∨ W.heap.size ≤ g) → K (a.put o.dst v') w1) :
    if Region.wanted o (yielded ops a.tmps) = true then Oper.wp P o a W K Q else E := by
  rw [if_pos (by simp [Region.wanted, hgd])]
  exact wp_appAt hE s x ho base W v n xs hs hown A k c ys hx hr hA h1 hn hbase h
end Go.Proofs.YtfhibjehnoibeaaDoor
/- Contract of the reference's copy of a museum; no condition but what stands at each theorem. -/
namespace Go.Proofs.YtfhibjehnoibeaaDoor
set_option linter.unusedSimpArgs false
set_option linter.unusedVariables false
open Go.RowKit Go.Sort
theorem ei_DoorN : EI Tryd.prog 24 96 2 := ei_of Tryd.underlying24 (by omega) (by kernel_rfl)
/-- The cells of a museum's box, told again. -/
def MCell (w : World) (b : Nat) (v : MV) : Prop := w.cell? ⟨b, 0, none⟩ = some (.int .i64 v.H) ∧ w.cell? ⟨b, 1, none⟩ = some (.slice v.sd.A v.sd.n v.sd.c) ∧ w.cell? ⟨b, 2, none⟩ = some (.slice v.sf.A v.sf.n v.sf.c) ∧ w.cell? ⟨b, 3, none⟩ = some (.slice v.sp.A v.sp.n v.sp.c) ∧ w.cell? ⟨b, 4, none⟩ = some (.slice v.sg.A v.sg.n v.sg.c) ∧ w.cell? ⟨b, 5, none⟩ = some (.int .i64 v.d) ∧ w.cell? ⟨b, 6, none⟩ = some (.slice v.sr.A v.sr.n v.sr.c)
theorem MBox.cell {w : World} {b : Nat} {v : MV} (h : MBox w b v) : MCell w b v := ⟨h.c0, h.c1, h.c2, h.c3, h.c4, h.c5, h.c6⟩
theorem heap_size_allocN (w : World) (o : Obj) : (w.alloc o).heap.size = w.heap.size + 1 := by simp
set_option maxRecDepth 100000 in
set_option maxHeartbeats 4000000 in
theorem spec_l38Copy (v : MV) (m : GMuseum) (w : World) (hx : MRd w v m) (hf : MFit v) : Calls Tryd.prog 70 #[v.val] w (CopyPost m w) := by
  obtain ⟨wb, hwb⟩ : ∃ wb, wb = w.alloc (.cells v.cells 30) := ⟨_, rfl⟩
  have hbx := MBox.new hwb
  have hE : Ext w wb := by rw [hwb]; exact (Ext.refl w).alloc _
  obtain ⟨wz, hwz⟩ : ∃ wz, wz = wb.alloc (.cells #[.int .i64 0, .slice none 0 0, .slice none 0 0, .slice none 0 0, .slice none 0 0, .int .i64 0, .slice none 0 0] 30) := ⟨_, rfl⟩
  have hEz : Ext wb wz := by rw [hwz]; exact (Ext.refl wb).alloc _
  have hsb : wb.heap.size = w.heap.size + 1 := by rw [hwb]; simp
  have hsz : wz.heap.size = w.heap.size + 1 + 1 := by rw [hwz]; simp [hsb]
  have HBz : Hid (Blk wz (w.heap.size + 1) 30 #[.int .i64 0, .slice none 0 0, .slice none 0 0, .slice none 0 0, .slice none 0 0, .int .i64 0, .slice none 0 0]) := Lib.hid (by rw [hwz, ← hsb]; exact Blk.new _ _ _)
  have HX := Lib.hid (hx.keep (hE.trans hEz))
  have HB := Lib.hid (hbx.keep hEz)
  have HE := Lib.hid (hE.trans hEz)
  have HF := Lib.hid hf
  have HeH := Lib.hid hx.eH
  have Hed := Lib.hid hx.ed
  obtain ⟨Hh, ⟨A0, n0, c0⟩, ⟨A1, n1, c1⟩, ⟨A2, n2, c2⟩, ⟨A3, n3, c3⟩, day, ⟨A4, n4, c4⟩⟩ := v
  have Hwz : Hid (wz = (w.alloc (.cells #[.int .i64 Hh, .slice A0 n0 c0, .slice A1 n1 c1, .slice A2 n2 c2, .slice A3 n3 c3, .int .i64 day, .slice A4 n4 c4] 30)).alloc (.cells #[.int .i64 0, .slice none 0 0, .slice none 0 0, .slice none 0 0, .slice none 0 0, .int .i64 0, .slice none 0 0] 30)) := Lib.hid (by rw [hwz, hwb]; rfl)
  have nd : n0 ≤ 1048576 := hf.nd
  have nf : n1 ≤ 1048576 := hf.nf
  have np : n2 ≤ 1048576 := hf.np
  have ng : n3 ≤ 1048576 := hf.ng
  have nr : n4 ≤ 1048576 := hf.nr
  have hzl : w.heap.size + 1 < wz.heap.size := by omega
  clear hwb hwz hbx hE hEz hx hf hsb hsz
  show Calls Tryd.prog 70 #[.agg #[.int .i64 Hh, .slice A0 n0 c0, .slice A1 n1 c1, .slice A2 n2 c2, .slice A3 n3 c3, .int .i64 day, .slice A4 n4 c4]] w _
  obtain ⟨b0, b1, b2, b3, b4, b5, b6⟩ := HB.out.cell
  simp only at b0 b1 b2 b3 b4 b5 b6
  go_enter Tryd.func70, Tryd.ntmps70
  go_wp2_with fail
  rw [← Hwz.out]
  have HOe := Lib.hid (own_keep (own_empty wz wz.heap.size 96 2 (Nat.le_refl _)) (Ext.refl _).drew)
  have m1 : w.heap.size ≠ w.heap.size + 1 := by omega
  have m2 : w.heap.size + 1 ≠ w.heap.size := by omega
  have cF := Lib.hid (fun W (he : Ext wz W) => spec_l35CopyN A1 n1 c1 m.fs W (HX.out.rf.keep he) (Lib.hid HF.out.zf) nf)
  have cP := Lib.hid (fun W (he : Ext wz W) => spec_l35CopyN A2 n2 c2 m.ps W (HX.out.rp.keep he) (Lib.hid HF.out.zp) np)
  have cG := Lib.hid (fun W (he : Ext wz W) => spec_l35CopyN A3 n3 c3 m.gs W (HX.out.rg.keep he) (Lib.hid HF.out.zg) ng)
  have cR := Lib.hid (fun W (he : Ext wz W) => spec_l30Copy A4 n4 c4 m.rs W (HX.out.rr.keep he) (Lib.hid HF.out.zr) nr)
  go_region_held3 (fun w' => w'.cell? ⟨w.heap.size, 0, none⟩ = some (.int .i64 Hh) ∧ w'.cell? ⟨w.heap.size, 1, none⟩ = some (.slice A0 n0 c0) ∧ w'.cell? ⟨w.heap.size, 2, none⟩ = some (.slice A1 n1 c1) ∧ w'.cell? ⟨w.heap.size, 3, none⟩ = some (.slice A2 n2 c2) ∧ w'.cell? ⟨w.heap.size, 4, none⟩ = some (.slice A3 n3 c3) ∧ w'.cell? ⟨w.heap.size, 5, none⟩ = some (.int .i64 day) ∧ w'.cell? ⟨w.heap.size, 6, none⟩ = some (.slice A4 n4 c4)) (first | (refine ⟨?_, ?_, ?_, ?_, ?_, ?_, ?_⟩ <;> simp only [cell_set_far, m2, ne_eq, not_false_eq_true] <;> assumption) | go_keep) (first
    | (refine step_appAt ei_DoorN (by rfl) _ _ (by rfl) wz.heap.size (wz.alloc (.cells #[] 96)).drew (.slice (some ⟨wz.heap.size, 0, none⟩) 0 0) 0 [] (by rfl) HOe.out A0 n0 c0 (m.ds.flatMap GDoor.enc) (by rfl) ((HX.out.rd.alloc _).drew) HF.out.zd (one_GDoorN _) (by omega) (by show wz.heap.size ≤ (wz.alloc _).heap.size; rw [heap_size_allocN]; omega) ?_; intro v1 w1 ho1 hg1 hv1; have he1 : Ext wz w1 := Ext.grown ((Ext.refl wz).alloc _).drew hg1 (fun q hq => (HOe.out.lt q hq).1); rw [Nat.zero_add, List.nil_append] at ho1; obtain ⟨Ad, kd, hvd, hkd⟩ := own_form ho1; subst hvd; obtain ⟨y0, y1, y2, y3, y4, y5, y6⟩ := (HB.out.keep he1).cell; simp only at y0 y1 y2 y3 y4 y5 y6; have q1 : w.heap.size < w1.heap.size := (by have := he1.size; omega); have q2 : w.heap.size + 1 < w1.heap.size := (by have := he1.size; omega))
    | (go_at_call 92; (with_reducible show Calls _ _ #[.slice A1 n1 c1] _ _); refine (cF.out _ he1).mono ?_; rintro e w2 ⟨g2, k2, rfl, h2, o2⟩; have he2 : Ext wz w2 := he1.trans h2; obtain ⟨y0, y1, y2, y3, y4, y5, y6⟩ := (HB.out.keep he2).cell; simp only at y0 y1 y2 y3 y4 y5 y6; have q1 : w.heap.size < w2.heap.size := (by have := he2.size; omega); have q2 : w.heap.size + 1 < w2.heap.size := (by have := he2.size; omega))
    | (go_at_call 92; (with_reducible show Calls _ _ #[.slice A2 n2 c2] _ _); refine (cP.out _ he2).mono ?_; rintro e w3 ⟨g3, k3, rfl, h3, o3⟩; have he3 : Ext wz w3 := he2.trans h3; obtain ⟨y0, y1, y2, y3, y4, y5, y6⟩ := (HB.out.keep he3).cell; simp only at y0 y1 y2 y3 y4 y5 y6; have q1 : w.heap.size < w3.heap.size := (by have := he3.size; omega); have q2 : w.heap.size + 1 < w3.heap.size := (by have := he3.size; omega))
    | (go_at_call 92; (with_reducible show Calls _ _ #[.slice A3 n3 c3] _ _); refine (cG.out _ he3).mono ?_; rintro e w4 ⟨g4, k4, rfl, h4, o4⟩; have he4 : Ext wz w4 := he3.trans h4; obtain ⟨y0, y1, y2, y3, y4, y5, y6⟩ := (HB.out.keep he4).cell; simp only at y0 y1 y2 y3 y4 y5 y6; have q1 : w.heap.size < w4.heap.size := (by have := he4.size; omega); have q2 : w.heap.size + 1 < w4.heap.size := (by have := he4.size; omega))
    | (go_at_call 93; refine (cR.out _ he4).mono ?_; rintro e w5 ⟨g5, k5, rfl, h5, o5⟩; have he5 : Ext wz w5 := he4.trans h5; have Bz := Blk.keep HBz.out he5; have x0 := Bz.cellAt (i := 0) (by simp); have x1 := Bz.cellAt (i := 1) (by simp); have x2 := Bz.cellAt (i := 2) (by simp); have x3 := Bz.cellAt (i := 3) (by simp); have x4 := Bz.cellAt (i := 4) (by simp); have x5 := Bz.cellAt (i := 5) (by simp); have x6 := Bz.cellAt (i := 6) (by simp); have fz := Bz.free; simp at x0 x1 x2 x3 x4 x5 x6; obtain ⟨y0, y1, y2, y3, y4, y5, y6⟩ := (HB.out.keep he5).cell; simp only at y0 y1 y2 y3 y4 y5 y6; have q1 : w.heap.size < w5.heap.size := (by have := he5.size; omega); have q2 : w.heap.size + 1 < w5.heap.size := (by have := he5.size; omega)))
  have hE5 := HE.out.trans he5
  have hO5 : MOwn w5 wz.heap.size ⟨Hh, ⟨Ad, n0, kd⟩, ⟨some ⟨g2, 0, none⟩, n1, k2⟩, ⟨some ⟨g3, 0, none⟩, n2, k3⟩, ⟨some ⟨g4, 0, none⟩, n3, k4⟩, day, ⟨some ⟨g5, 0, none⟩, n4, k5⟩⟩ m := by
    have ad := At.of_own ho1
    have af := At.of_own o2
    have ap := At.of_own o3
    have ag := At.of_own o4
    have ar := At.of_own o5
    have z2 := h2.size
    have z3 := h3.size
    have z4 := h4.size
    have z5 := h5.size
    refine ⟨HeH.out, Hed.out, own_keep ho1 (h2.trans (h3.trans (h4.trans h5))), own_weak (own_keep o2 (h3.trans (h4.trans h5))) he1.size, own_weak (own_keep o3 (h4.trans h5)) he2.size, own_weak (own_keep o4 h5) he3.size, own_weak o5 he4.size, ?_⟩
    exact apart5 (Apart.of_at ad af (.inl (Nat.le_refl _))) (Apart.of_at ad ap (.inl z2)) (Apart.of_at ad ag (.inl (Nat.le_trans z2 z3))) (Apart.of_at ad ar (.inl (Nat.le_trans z2 (Nat.le_trans z3 z4))))
      (Apart.of_at af ap (.inl (Nat.le_refl _))) (Apart.of_at af ag (.inl z3)) (Apart.of_at af ar (.inl (Nat.le_trans z3 z4))) (Apart.of_at ap ag (.inl (Nat.le_refl _))) (Apart.of_at ap ar (.inl z4)) (Apart.of_at ag ar (.inl (Nat.le_refl _)))
  obtain ⟨b6', k6⟩ := store7 Bz (.int .i64 Hh) (.slice Ad n0 kd) (.slice (some ⟨g2, 0, none⟩) n1 k2) (.slice (some ⟨g3, 0, none⟩) n2 k3) (.slice (some ⟨g4, 0, none⟩) n3 k4) (.int .i64 day) (.slice (some ⟨g5, 0, none⟩) n4 k5)
  have hO6 := hO5.out k6 (by omega)
  have hE6 := k6.ext hE5 (by omega)
  generalize ((((((w5.setCell ⟨w.heap.size + 1, 0, none⟩ (.int .i64 Hh)).setCell ⟨w.heap.size + 1, 1, none⟩ (.slice Ad n0 kd)).setCell ⟨w.heap.size + 1, 2, none⟩ (.slice (some ⟨g2, 0, none⟩) n1 k2)).setCell ⟨w.heap.size + 1, 3, none⟩ (.slice (some ⟨g3, 0, none⟩) n2 k3)).setCell ⟨w.heap.size + 1, 4, none⟩ (.slice (some ⟨g4, 0, none⟩) n3 k4)).setCell ⟨w.heap.size + 1, 5, none⟩ (.int .i64 day)).setCell ⟨w.heap.size + 1, 6, none⟩ (.slice (some ⟨g5, 0, none⟩) n4 k5) = w6 at b6' k6 hO6 hE6 ⊢
  have HO6 := Lib.hid (hO6.weak (show w.heap.size ≤ wz.heap.size by omega))
  have HE6 := Lib.hid hE6
  have t0 := b6'.cellAt (i := 0) (by simp)
  have t1 := b6'.cellAt (i := 1) (by simp)
  have t2 := b6'.cellAt (i := 2) (by simp)
  have t3 := b6'.cellAt (i := 3) (by simp)
  have t4 := b6'.cellAt (i := 4) (by simp)
  have t5 := b6'.cellAt (i := 5) (by simp)
  have t6 := b6'.cellAt (i := 6) (by simp)
  simp at t0 t1 t2 t3 t4 t5 t6
  clear b6' k6 hO6 hE6 hO5 hE5 Bz x0 x1 x2 x3 x4 x5 x6 fz ho1 hg1 hv1 o2 o3 o4 o5 h2 h3 h4 h5 he1 he2 he3 he4 he5 y0 y1 y2 y3 y4 y5 y6
  go_wp2_with fail
  refine bodyPost_ret (v := MV.val ⟨Hh, ⟨Ad, n0, kd⟩, ⟨some ⟨g2, 0, none⟩, n1, k2⟩, ⟨some ⟨g3, 0, none⟩, n2, k3⟩, ⟨some ⟨g4, 0, none⟩, n3, k4⟩, day, ⟨some ⟨g5, 0, none⟩, n4, k5⟩⟩) (by simp [results, Tryd.results70, go_sem, t0, t1, t2, t3, t4, t5, t6, MV.val, MV.cells]) rfl ?_
  exact ⟨_, rfl, HE6.out, HO6.out⟩
end Go.Proofs.YtfhibjehnoibeaaDoor
/- Contract of the program's copy of a museum; no condition but what stands at each theorem. -/
namespace Go.Proofs.YtfhibjehnoibeaaDoor
set_option linter.unusedSimpArgs false
set_option linter.unusedVariables false
open Go.RowKit Go.Sort
/-- One row of the copy: not begun, an empty row of its own, or filled. -/
structure RS (W : World) (base : Nat) (e : TypeId) (m n : Nat) (xs : List Value) (b a : Bool) (yb ya u : Value) : Prop where
  nob : b = false → u = .slice none 0 0
  mid : b = true → a = false → yb = u
  fin : a = true → ya = u
  own : W.ownsRow base e m u (if a then n else 0) (if a then xs else [])
  ab : a = true → b = true
theorem RS.keep {W W' : World} {base : Nat} {e : TypeId} {m n : Nat} {xs : List Value} {b a : Bool} {yb ya u : Value} (h : RS W base e m n xs b a yb ya u) (k : Ext W W') : RS W' base e m n xs b a yb ya u :=
  ⟨h.nob, h.mid, h.fin, own_keep h.own k, h.ab⟩
theorem RS.other {W W' : World} {base : Nat} {e : TypeId} {m n : Nat} {xs : List Value} {b a : Bool} {yb ya u v : Value} (h : RS W base e m n xs b a yb ya u) (k : Apart u v) (g : W.grownBy W' v.ownBlock) : RS W' base e m n xs b a yb ya u :=
  ⟨h.nob, h.mid, h.fin, own_apart h.own k g, h.ab⟩
theorem RS.made {W : World} {base : Nat} {e : TypeId} {m n : Nat} {xs : List Value} {yb ya u : Value} (_h : RS W base e m n xs false false yb ya u) (hb : base ≤ W.heap.size) (y : Value) : RS (W.alloc (.cells #[] e)) base e m n xs true false (.slice (some ⟨W.heap.size, 0, none⟩) 0 0) y (.slice (some ⟨W.heap.size, 0, none⟩) 0 0) :=
  ⟨fun h => (by cases h), fun _ _ => rfl, fun h => (by cases h), own_empty W base e m hb, fun h => (by cases h)⟩
theorem apart_nil (v : Value) : Apart (.slice none 0 0) v := fun g h => by simp [Value.ownBlock] at h
theorem apart_new {W : World} {base : Nat} {e : TypeId} {m n : Nat} {v : Value} {L : List Value} (h : W.ownsRow base e m v n L) : Apart v (.slice (some ⟨W.heap.size, 0, none⟩) 0 0) := fun g hg hg' => by
  have := (h.lt g hg).2
  simp [Value.ownBlock] at hg'
  omega
theorem apart_grown {W : World} {base : Nat} {e : TypeId} {m n : Nat} {u v v' : Value} {L : List Value} (h : Apart u v) (hu : W.ownsRow base e m u n L) (hv : ∀ g, v'.ownBlock = some g → v.ownBlock = some g ∨ W.heap.size ≤ g) : Apart u v' := fun g hg hg' => by
  rcases hv g hg' with h1 | h1
  · exact h g hg h1
  · have := (hu.lt g hg).2
    omega
def nat1 (b : Bool) : Nat := if b then 0 else 1
theorem nat1_f : nat1 false = 1 := rfl
theorem nat1_t : nat1 true = 0 := rfl
theorem kill {x : Bool} (h : x = true) (k : x = false) : False := by rw [h] at k; cases k
theorem ready_at {md : Region.Mode} {ops : Array Oper} {listed : Array Bool} {i : Nat} (h : i ∈ Region.ready md ops listed) :
    i < ops.size ∧ (!listed.getD i true) = true ∧ ((ops[i]?).map (·.after.all fun e => !Region.binds md e || listed.getD e.on false)).getD false = true := by
  unfold Region.ready at h
  obtain ⟨h1, h2⟩ := List.mem_filter.1 h
  rw [Bool.and_eq_true] at h2
  exact ⟨List.mem_range.1 h1, h2.1, h2.2⟩
theorem ready_ne {md : Region.Mode} {ops : Array Oper} {listed : Array Bool} (i : Nat) (h0 : i < ops.size) (h : (!listed.getD i true && ((ops[i]?).map (·.after.all fun e => !Region.binds md e || listed.getD e.on false)).getD false) = true) : Region.ready md ops listed ≠ [] := by
  intro he
  have : i ∈ Region.ready md ops listed := List.mem_filter.2 ⟨List.mem_range.2 h0, h⟩
  rw [he] at this
  cases this
end Go.Proofs.YtfhibjehnoibeaaDoor
/- Contracts of NextDays; no condition but what stands at each theorem. -/
namespace Go.Proofs.YtfhibjehnoibeaaDoor
set_option linter.unusedSimpArgs false
set_option linter.unusedVariables false
open Go.RowKit Go.Sort
/-- A museum and a further value have been told, the museum in rows of the call's own. -/
def MPost (m : GMuseum) (x : Value) (w : World) (e : Ending) (w' : World) : Prop := ∃ v : MV, e = .returned (.tuple #[v.val, x]) ∧ Ext w w' ∧ MOwn w' w.heap.size v m
def daysB (m : GMuseum) (d : Int) : Bool := museumB m && (inB d 1 1000 && decide (m.d + d ≤ 1000000))
def daysM (m : GMuseum) (d : Int) : GMuseum := if daysB m d then { m with d := m.d + d } else m
theorem museumB_d {m : GMuseum} (h : museumB m = true) : 0 ≤ m.d ∧ m.d ≤ 1000000 := by
  unfold museumB at h
  simp only [Bool.and_eq_true] at h
  have := h.2.2.2.2.2.1
  simp only [inB, Bool.and_eq_true, decide_eq_true_eq] at this
  exact this
theorem MOwn.day {w : World} {base : Nat} {v : MV} {m : GMuseum} (h : MOwn w base v m) (d : Int) : MOwn w base { v with d := d } { m with d := d } := ⟨h.eH, rfl, h.od, h.of_, h.op, h.og, h.or_, h.ap⟩
end Go.Proofs.YtfhibjehnoibeaaDoor
