/- Texts of one proof, laid one behind the other (SHk, SHl, SHm, SHn); no condition but what stands at each theorem. -/
import Derived.Test.YtfhibjehnoibeaaDoorZA
import Derived.Test.YtfhibjehnoibeaaDoorZE
/- Contracts of CanMove and l35Near; no condition but what stands at each theorem. -/
namespace Go.Proofs.YtfhibjehnoibeaaDoor
set_option linter.unusedSimpArgs false
set_option linter.unusedVariables false
open Go.RowKit Go.Sort
def canMoveB (H : Int) (ds : List GDoor) (ps gs : List Int) (m : GMove) : Bool :=
  placesB H ds ps && (decide (gs.length ≤ 6) && (hallsB H ds gs && (goB H ds ps m && (inB m.f 0 ((gs.length : Int) - 1) && (inB m.s 0 ((gs.length : Int) - 1) && ((m.f != m.s) && (nearB gs ps m m.f && nearB gs ps m m.s)))))))
theorem doorB_self {H : Int} {ds : List GDoor} (hB : houseB H ds = true) (x : Int) : doorB ds x x = false := by
  unfold doorB
  rw [Bool.eq_false_iff]
  intro hc
  rw [List.any_eq_true] at hc
  obtain ⟨d, hd, he⟩ := hc
  have h1 := (houseB_spec hB).2.2.2.2.1 d hd
  simp only [isDoor, imin, imax, Bool.and_eq_true, beq_iff_eq] at he
  simp only [doorOk, Bool.and_eq_true, decide_eq_true_eq] at h1
  have h2 := he.1
  have h3 := he.2
  simp at h2 h3
  omega
theorem hallsB_house {H : Int} {ds : List GDoor} {xs : List Int} (h : hallsB H ds xs = true) : houseB H ds = true := by
  unfold hallsB at h; rw [Bool.and_eq_true] at h; exact h.2
theorem boxHPGM (w : World) (a0 a1 p g b0 b1 b2 b3 : Value) (t1 t2 t3 t4 : TypeId) (wb : World) (hwb : wb = (((w.alloc (.cells #[a0, a1] t1)).alloc (.cells #[p] t2)).alloc (.cells #[g] t3)).alloc (.cells #[b0, b1, b2, b3] t4)) :
    Ext w wb ∧ wb.heap.size = w.heap.size + 1 + 1 + 1 + 1 ∧ wb.cell? ⟨w.heap.size, 0, none⟩ = some a0 ∧ wb.cell? ⟨w.heap.size, 1, none⟩ = some a1 ∧ wb.cell? ⟨w.heap.size + 1, 0, none⟩ = some p ∧ wb.cell? ⟨w.heap.size + 1 + 1, 0, none⟩ = some g ∧ wb.cell? ⟨w.heap.size + 1 + 1 + 1, 0, none⟩ = some b0 ∧ wb.cell? ⟨w.heap.size + 1 + 1 + 1, 1, none⟩ = some b1 ∧ wb.cell? ⟨w.heap.size + 1 + 1 + 1, 2, none⟩ = some b2 ∧ wb.cell? ⟨w.heap.size + 1 + 1 + 1, 3, none⟩ = some b3 := by
  subst hwb
  have h1 : w.heap.size + 1 = (w.alloc (.cells #[a0, a1] t1)).heap.size := by simp
  have h2 : w.heap.size + 1 + 1 = ((w.alloc (.cells #[a0, a1] t1)).alloc (.cells #[p] t2)).heap.size := by simp
  have h3 : w.heap.size + 1 + 1 + 1 = (((w.alloc (.cells #[a0, a1] t1)).alloc (.cells #[p] t2)).alloc (.cells #[g] t3)).heap.size := by simp
  refine ⟨((((Ext.refl w).alloc _).alloc _).alloc _).alloc _, by simp, ?_, ?_, ?_, ?_, ?_, ?_, ?_, ?_⟩
  · rw [World.cell?_alloc_lt _ _ _ (by first | (simp; done) | (simp; omega)), World.cell?_alloc_lt _ _ _ (by first | (simp; done) | (simp; omega)), World.cell?_alloc_lt _ _ _ (by first | (simp; done) | (simp; omega)), World.cell?_alloc_new]; rfl
  · rw [World.cell?_alloc_lt _ _ _ (by first | (simp; done) | (simp; omega)), World.cell?_alloc_lt _ _ _ (by first | (simp; done) | (simp; omega)), World.cell?_alloc_lt _ _ _ (by first | (simp; done) | (simp; omega)), World.cell?_alloc_new]; rfl
  · rw [World.cell?_alloc_lt _ _ _ (by first | (simp; done) | (simp; omega)), World.cell?_alloc_lt _ _ _ (by simp), h1, World.cell?_alloc_new]; rfl
  · rw [World.cell?_alloc_lt _ _ _ (by simp), h2, World.cell?_alloc_new]; rfl
  all_goals rw [h3, World.cell?_alloc_new]; rfl
set_option maxRecDepth 100000 in
set_option maxHeartbeats 8000000 in
theorem impl_CanMove (H : Int) (A : Option Addr) (n c : Nat) (ds : List GDoor) (A1 : Option Addr) (n1 c1 : Nat) (ps : List Int) (A2 : Option Addr) (n2 c2 : Nat) (gs : List Int) (m : GMove) (w : World) (hx : Rd w 2 A n (ds.flatMap GDoor.enc)) (hx1 : Rd w 1 A1 n1 (ps.flatMap ienc)) (hx2 : Rd w 1 A2 n2 (gs.flatMap ienc)) :
    Calls Tryd.prog 11 #[.agg #[.int .i64 H, .slice A n c], .slice A1 n1 c1, .slice A2 n2 c2, .agg #[.int .i64 m.o, .int .i64 m.t, .int .i64 m.f, .int .i64 m.s]] w fun e w' => e = .returned (.bool (canMoveB H ds ps gs m)) ∧ Ext w w' := by
  obtain ⟨o, t, f, s⟩ := m
  dsimp only
  have hn1 := hx1.2.1
  have hn2 := hx2.2.1
  have hl1 := Lib.hid (hx1.len ienc_len (by omega))
  have hl2 := Lib.hid (hx2.len ienc_len (by omega))
  obtain ⟨wb, hwb⟩ : ∃ wb, wb = (((w.alloc (.cells #[.int .i64 H, .slice A n c] 26)).alloc (.cells #[.slice A1 n1 c1] 27)).alloc (.cells #[.slice A2 n2 c2] 27)).alloc (.cells #[.int .i64 o, .int .i64 t, .int .i64 f, .int .i64 s] 41) := ⟨_, rfl⟩
  obtain ⟨hE, hsb, a0, a1, ap, ag, b0, b1, b2, b3⟩ := boxHPGM w _ _ _ _ _ _ _ _ _ _ _ _ wb hwb
  have HE := Lib.hid hE
  have Hwb := Lib.hid hwb
  have Ha0 := Lib.hid a0
  have Ha1 := Lib.hid a1
  have Hap := Lib.hid ap
  have Hag := Lib.hid ag
  have Hb0 := Lib.hid b0
  have Hb1 := Lib.hid b1
  have Hb2 := Lib.hid b2
  have Hb3 := Lib.hid b3
  have hxb := Lib.hid (hx.keep hE)
  have hxb1 := Lib.hid (hx1.keep hE)
  have hxb2 := Lib.hid (hx2.keep hE)
  have cP := Lib.hid (impl_PlacesOk H A n c ds A1 n1 c1 ps wb hxb.out hxb1.out)
  clear hE hwb a0 a1 ap ag b0 b1 b2 b3 hx hx1 hx2
  cases hP : placesB H ds ps
  case false =>
    rw [hP] at cP
    have HF : Hid (canMoveB H ds ps gs ⟨o, t, f, s⟩ = false) := by unfold Hid canMoveB; simp [hP]
    clear hP
    go_enter Tryd.func11, Tryd.ntmps11
    go_wp2_with fail
    rw [← Hwb.out]
    refine cP.out.mono ?_
    rintro e w1 ⟨rfl, he1⟩
    have HE1 := Lib.hid he1
    have a0 := (HE1.out.cellAt (w.heap.size) (by omega) 0).trans Ha0.out
    have a1 := (HE1.out.cellAt (w.heap.size) (by omega) 1).trans Ha1.out
    have ap := (HE1.out.cellAt (w.heap.size + 1) (by omega) 0).trans Hap.out
    have ag := (HE1.out.cellAt (w.heap.size + 1 + 1) (by omega) 0).trans Hag.out
    have b0 := (HE1.out.cellAt (w.heap.size + 1 + 1 + 1) (by omega) 0).trans Hb0.out
    have b1 := (HE1.out.cellAt (w.heap.size + 1 + 1 + 1) (by omega) 1).trans Hb1.out
    have b2 := (HE1.out.cellAt (w.heap.size + 1 + 1 + 1) (by omega) 2).trans Hb2.out
    have b3 := (HE1.out.cellAt (w.heap.size + 1 + 1 + 1) (by omega) 3).trans Hb3.out
    clear he1
    go_wp2_with fail
    go_ret
    exact ⟨ret_bool HF.out.symm, HE.out.trans (HE1.out)⟩
  rw [hP] at cP
  by_cases h6 : n2 ≤ 6
  case neg =>
    have HF : Hid (canMoveB H ds ps gs ⟨o, t, f, s⟩ = false) := by unfold Hid canMoveB; simp [hl2.out, h6]
    clear hP
    go_enter Tryd.func11, Tryd.ntmps11
    go_wp2_with fail
    rw [← Hwb.out]
    refine cP.out.mono ?_
    rintro e w1 ⟨rfl, he1⟩
    have HE1 := Lib.hid he1
    have a0 := (HE1.out.cellAt (w.heap.size) (by omega) 0).trans Ha0.out
    have a1 := (HE1.out.cellAt (w.heap.size) (by omega) 1).trans Ha1.out
    have ap := (HE1.out.cellAt (w.heap.size + 1) (by omega) 0).trans Hap.out
    have ag := (HE1.out.cellAt (w.heap.size + 1 + 1) (by omega) 0).trans Hag.out
    have b0 := (HE1.out.cellAt (w.heap.size + 1 + 1 + 1) (by omega) 0).trans Hb0.out
    have b1 := (HE1.out.cellAt (w.heap.size + 1 + 1 + 1) (by omega) 1).trans Hb1.out
    have b2 := (HE1.out.cellAt (w.heap.size + 1 + 1 + 1) (by omega) 2).trans Hb2.out
    have b3 := (HE1.out.cellAt (w.heap.size + 1 + 1 + 1) (by omega) 3).trans Hb3.out
    clear he1
    go_wp2_with fail
    go_ret
    exact ⟨ret_bool HF.out.symm, HE.out.trans (HE1.out)⟩
  have cH := Lib.hid (fun w1 he => impl_hallsOk H A n c ds A2 n2 c2 gs w1 (hxb.out.keep he) (hxb2.out.keep (w' := w1) he))
  cases hH : hallsB H ds gs
  case false =>
    rw [hH] at cH
    have HF : Hid (canMoveB H ds ps gs ⟨o, t, f, s⟩ = false) := by unfold Hid canMoveB; simp [hH]
    clear hP hH
    go_enter Tryd.func11, Tryd.ntmps11
    go_wp2_with fail
    rw [← Hwb.out]
    refine cP.out.mono ?_
    rintro e w1 ⟨rfl, he1⟩
    have HE1 := Lib.hid he1
    have a0 := (HE1.out.cellAt (w.heap.size) (by omega) 0).trans Ha0.out
    have a1 := (HE1.out.cellAt (w.heap.size) (by omega) 1).trans Ha1.out
    have ap := (HE1.out.cellAt (w.heap.size + 1) (by omega) 0).trans Hap.out
    have ag := (HE1.out.cellAt (w.heap.size + 1 + 1) (by omega) 0).trans Hag.out
    have b0 := (HE1.out.cellAt (w.heap.size + 1 + 1 + 1) (by omega) 0).trans Hb0.out
    have b1 := (HE1.out.cellAt (w.heap.size + 1 + 1 + 1) (by omega) 1).trans Hb1.out
    have b2 := (HE1.out.cellAt (w.heap.size + 1 + 1 + 1) (by omega) 2).trans Hb2.out
    have b3 := (HE1.out.cellAt (w.heap.size + 1 + 1 + 1) (by omega) 3).trans Hb3.out
    clear he1
    go_wp2_with fail
    refine (cH.out w1 (HE1.out)).mono ?_
    rintro e w2 ⟨rfl, he2⟩
    have HE2 := Lib.hid (Ext.trans (HE1.out) he2)
    clear a0 a1 ap ag b0 b1 b2 b3 he2
    have a0 := (HE2.out.cellAt (w.heap.size) (by omega) 0).trans Ha0.out
    have a1 := (HE2.out.cellAt (w.heap.size) (by omega) 1).trans Ha1.out
    have ap := (HE2.out.cellAt (w.heap.size + 1) (by omega) 0).trans Hap.out
    have ag := (HE2.out.cellAt (w.heap.size + 1 + 1) (by omega) 0).trans Hag.out
    have b0 := (HE2.out.cellAt (w.heap.size + 1 + 1 + 1) (by omega) 0).trans Hb0.out
    have b1 := (HE2.out.cellAt (w.heap.size + 1 + 1 + 1) (by omega) 1).trans Hb1.out
    have b2 := (HE2.out.cellAt (w.heap.size + 1 + 1 + 1) (by omega) 2).trans Hb2.out
    have b3 := (HE2.out.cellAt (w.heap.size + 1 + 1 + 1) (by omega) 3).trans Hb3.out
    go_wp2_with fail
    go_ret
    exact ⟨ret_bool HF.out.symm, HE.out.trans (HE2.out)⟩
  rw [hH] at cH
  have cG := Lib.hid (fun w1 he => impl_canGo H A n c ds A1 n1 c1 ps ⟨o, t, f, s⟩ w1 (hxb.out.keep he) (hxb1.out.keep (w' := w1) he))
  cases hG : goB H ds ps ⟨o, t, f, s⟩
  case false =>
    rw [hG] at cG
    have HF : Hid (canMoveB H ds ps gs ⟨o, t, f, s⟩ = false) := by unfold Hid canMoveB; simp [hG]
    clear hP hH hG
    go_enter Tryd.func11, Tryd.ntmps11
    go_wp2_with fail
    rw [← Hwb.out]
    refine cP.out.mono ?_
    rintro e w1 ⟨rfl, he1⟩
    have HE1 := Lib.hid he1
    have a0 := (HE1.out.cellAt (w.heap.size) (by omega) 0).trans Ha0.out
    have a1 := (HE1.out.cellAt (w.heap.size) (by omega) 1).trans Ha1.out
    have ap := (HE1.out.cellAt (w.heap.size + 1) (by omega) 0).trans Hap.out
    have ag := (HE1.out.cellAt (w.heap.size + 1 + 1) (by omega) 0).trans Hag.out
    have b0 := (HE1.out.cellAt (w.heap.size + 1 + 1 + 1) (by omega) 0).trans Hb0.out
    have b1 := (HE1.out.cellAt (w.heap.size + 1 + 1 + 1) (by omega) 1).trans Hb1.out
    have b2 := (HE1.out.cellAt (w.heap.size + 1 + 1 + 1) (by omega) 2).trans Hb2.out
    have b3 := (HE1.out.cellAt (w.heap.size + 1 + 1 + 1) (by omega) 3).trans Hb3.out
    clear he1
    go_wp2_with fail
    refine (cH.out w1 (HE1.out)).mono ?_
    rintro e w2 ⟨rfl, he2⟩
    have HE2 := Lib.hid (Ext.trans (HE1.out) he2)
    clear a0 a1 ap ag b0 b1 b2 b3 he2
    have a0 := (HE2.out.cellAt (w.heap.size) (by omega) 0).trans Ha0.out
    have a1 := (HE2.out.cellAt (w.heap.size) (by omega) 1).trans Ha1.out
    have ap := (HE2.out.cellAt (w.heap.size + 1) (by omega) 0).trans Hap.out
    have ag := (HE2.out.cellAt (w.heap.size + 1 + 1) (by omega) 0).trans Hag.out
    have b0 := (HE2.out.cellAt (w.heap.size + 1 + 1 + 1) (by omega) 0).trans Hb0.out
    have b1 := (HE2.out.cellAt (w.heap.size + 1 + 1 + 1) (by omega) 1).trans Hb1.out
    have b2 := (HE2.out.cellAt (w.heap.size + 1 + 1 + 1) (by omega) 2).trans Hb2.out
    have b3 := (HE2.out.cellAt (w.heap.size + 1 + 1 + 1) (by omega) 3).trans Hb3.out
    go_wp2_with fail
    refine (cG.out w2 (HE2.out)).mono ?_
    rintro e w3 ⟨rfl, he3⟩
    have HE3 := Lib.hid (Ext.trans (HE2.out) he3)
    clear a0 a1 ap ag b0 b1 b2 b3 he3
    have a0 := (HE3.out.cellAt (w.heap.size) (by omega) 0).trans Ha0.out
    have a1 := (HE3.out.cellAt (w.heap.size) (by omega) 1).trans Ha1.out
    have ap := (HE3.out.cellAt (w.heap.size + 1) (by omega) 0).trans Hap.out
    have ag := (HE3.out.cellAt (w.heap.size + 1 + 1) (by omega) 0).trans Hag.out
    have b0 := (HE3.out.cellAt (w.heap.size + 1 + 1 + 1) (by omega) 0).trans Hb0.out
    have b1 := (HE3.out.cellAt (w.heap.size + 1 + 1 + 1) (by omega) 1).trans Hb1.out
    have b2 := (HE3.out.cellAt (w.heap.size + 1 + 1 + 1) (by omega) 2).trans Hb2.out
    have b3 := (HE3.out.cellAt (w.heap.size + 1 + 1 + 1) (by omega) 3).trans Hb3.out
    go_wp2_with fail
    go_ret
    exact ⟨ret_bool HF.out.symm, HE.out.trans (HE3.out)⟩
  rw [hG] at cG
  have cF := Lib.hid (fun W => impl_between f 0 ((n2 : Int) - 1) W)
  have cS := Lib.hid (fun W => impl_between s 0 ((n2 : Int) - 1) W)
  cases hF : inB f 0 ((n2 : Int) - 1)
  case false =>
    rw [hF] at cF
    have HF : Hid (canMoveB H ds ps gs ⟨o, t, f, s⟩ = false) := by unfold Hid canMoveB; simp [hl2.out, hF]
    clear hP hH hG hF cS
    go_enter Tryd.func11, Tryd.ntmps11
    go_wp2_with fail
    rw [← Hwb.out]
    refine cP.out.mono ?_
    rintro e w1 ⟨rfl, he1⟩
    have HE1 := Lib.hid he1
    have a0 := (HE1.out.cellAt (w.heap.size) (by omega) 0).trans Ha0.out
    have a1 := (HE1.out.cellAt (w.heap.size) (by omega) 1).trans Ha1.out
    have ap := (HE1.out.cellAt (w.heap.size + 1) (by omega) 0).trans Hap.out
    have ag := (HE1.out.cellAt (w.heap.size + 1 + 1) (by omega) 0).trans Hag.out
    have b0 := (HE1.out.cellAt (w.heap.size + 1 + 1 + 1) (by omega) 0).trans Hb0.out
    have b1 := (HE1.out.cellAt (w.heap.size + 1 + 1 + 1) (by omega) 1).trans Hb1.out
    have b2 := (HE1.out.cellAt (w.heap.size + 1 + 1 + 1) (by omega) 2).trans Hb2.out
    have b3 := (HE1.out.cellAt (w.heap.size + 1 + 1 + 1) (by omega) 3).trans Hb3.out
    clear he1
    go_wp2_with fail
    refine (cH.out w1 (HE1.out)).mono ?_
    rintro e w2 ⟨rfl, he2⟩
    have HE2 := Lib.hid (Ext.trans (HE1.out) he2)
    clear a0 a1 ap ag b0 b1 b2 b3 he2
    have a0 := (HE2.out.cellAt (w.heap.size) (by omega) 0).trans Ha0.out
    have a1 := (HE2.out.cellAt (w.heap.size) (by omega) 1).trans Ha1.out
    have ap := (HE2.out.cellAt (w.heap.size + 1) (by omega) 0).trans Hap.out
    have ag := (HE2.out.cellAt (w.heap.size + 1 + 1) (by omega) 0).trans Hag.out
    have b0 := (HE2.out.cellAt (w.heap.size + 1 + 1 + 1) (by omega) 0).trans Hb0.out
    have b1 := (HE2.out.cellAt (w.heap.size + 1 + 1 + 1) (by omega) 1).trans Hb1.out
    have b2 := (HE2.out.cellAt (w.heap.size + 1 + 1 + 1) (by omega) 2).trans Hb2.out
    have b3 := (HE2.out.cellAt (w.heap.size + 1 + 1 + 1) (by omega) 3).trans Hb3.out
    go_wp2_with fail
    refine (cG.out w2 (HE2.out)).mono ?_
    rintro e w3 ⟨rfl, he3⟩
    have HE3 := Lib.hid (Ext.trans (HE2.out) he3)
    clear a0 a1 ap ag b0 b1 b2 b3 he3
    have a0 := (HE3.out.cellAt (w.heap.size) (by omega) 0).trans Ha0.out
    have a1 := (HE3.out.cellAt (w.heap.size) (by omega) 1).trans Ha1.out
    have ap := (HE3.out.cellAt (w.heap.size + 1) (by omega) 0).trans Hap.out
    have ag := (HE3.out.cellAt (w.heap.size + 1 + 1) (by omega) 0).trans Hag.out
    have b0 := (HE3.out.cellAt (w.heap.size + 1 + 1 + 1) (by omega) 0).trans Hb0.out
    have b1 := (HE3.out.cellAt (w.heap.size + 1 + 1 + 1) (by omega) 1).trans Hb1.out
    have b2 := (HE3.out.cellAt (w.heap.size + 1 + 1 + 1) (by omega) 2).trans Hb2.out
    have b3 := (HE3.out.cellAt (w.heap.size + 1 + 1 + 1) (by omega) 3).trans Hb3.out
    go_wp2_with (first | (with_reducible exact fail) | (go_at_call 34; first | (with_reducible refine (cF.out _).mono ?_; rintro e w9 ⟨rfl, rfl⟩) | (with_reducible refine (cS.out _).mono ?_; rintro e w9 ⟨rfl, rfl⟩)))
    go_ret
    exact ⟨ret_bool HF.out.symm, HE.out.trans (HE3.out)⟩
  rw [hF] at cF
  cases hS : inB s 0 ((n2 : Int) - 1)
  case false =>
    rw [hS] at cS
    have HF : Hid (canMoveB H ds ps gs ⟨o, t, f, s⟩ = false) := by unfold Hid canMoveB; simp [hl2.out, hS]
    clear hP hH hG hF hS
    go_enter Tryd.func11, Tryd.ntmps11
    go_wp2_with fail
    rw [← Hwb.out]
    refine cP.out.mono ?_
    rintro e w1 ⟨rfl, he1⟩
    have HE1 := Lib.hid he1
    have a0 := (HE1.out.cellAt (w.heap.size) (by omega) 0).trans Ha0.out
    have a1 := (HE1.out.cellAt (w.heap.size) (by omega) 1).trans Ha1.out
    have ap := (HE1.out.cellAt (w.heap.size + 1) (by omega) 0).trans Hap.out
    have ag := (HE1.out.cellAt (w.heap.size + 1 + 1) (by omega) 0).trans Hag.out
    have b0 := (HE1.out.cellAt (w.heap.size + 1 + 1 + 1) (by omega) 0).trans Hb0.out
    have b1 := (HE1.out.cellAt (w.heap.size + 1 + 1 + 1) (by omega) 1).trans Hb1.out
    have b2 := (HE1.out.cellAt (w.heap.size + 1 + 1 + 1) (by omega) 2).trans Hb2.out
    have b3 := (HE1.out.cellAt (w.heap.size + 1 + 1 + 1) (by omega) 3).trans Hb3.out
    clear he1
    go_wp2_with fail
    refine (cH.out w1 (HE1.out)).mono ?_
    rintro e w2 ⟨rfl, he2⟩
    have HE2 := Lib.hid (Ext.trans (HE1.out) he2)
    clear a0 a1 ap ag b0 b1 b2 b3 he2
    have a0 := (HE2.out.cellAt (w.heap.size) (by omega) 0).trans Ha0.out
    have a1 := (HE2.out.cellAt (w.heap.size) (by omega) 1).trans Ha1.out
    have ap := (HE2.out.cellAt (w.heap.size + 1) (by omega) 0).trans Hap.out
    have ag := (HE2.out.cellAt (w.heap.size + 1 + 1) (by omega) 0).trans Hag.out
    have b0 := (HE2.out.cellAt (w.heap.size + 1 + 1 + 1) (by omega) 0).trans Hb0.out
    have b1 := (HE2.out.cellAt (w.heap.size + 1 + 1 + 1) (by omega) 1).trans Hb1.out
    have b2 := (HE2.out.cellAt (w.heap.size + 1 + 1 + 1) (by omega) 2).trans Hb2.out
    have b3 := (HE2.out.cellAt (w.heap.size + 1 + 1 + 1) (by omega) 3).trans Hb3.out
    go_wp2_with fail
    refine (cG.out w2 (HE2.out)).mono ?_
    rintro e w3 ⟨rfl, he3⟩
    have HE3 := Lib.hid (Ext.trans (HE2.out) he3)
    clear a0 a1 ap ag b0 b1 b2 b3 he3
    have a0 := (HE3.out.cellAt (w.heap.size) (by omega) 0).trans Ha0.out
    have a1 := (HE3.out.cellAt (w.heap.size) (by omega) 1).trans Ha1.out
    have ap := (HE3.out.cellAt (w.heap.size + 1) (by omega) 0).trans Hap.out
    have ag := (HE3.out.cellAt (w.heap.size + 1 + 1) (by omega) 0).trans Hag.out
    have b0 := (HE3.out.cellAt (w.heap.size + 1 + 1 + 1) (by omega) 0).trans Hb0.out
    have b1 := (HE3.out.cellAt (w.heap.size + 1 + 1 + 1) (by omega) 1).trans Hb1.out
    have b2 := (HE3.out.cellAt (w.heap.size + 1 + 1 + 1) (by omega) 2).trans Hb2.out
    have b3 := (HE3.out.cellAt (w.heap.size + 1 + 1 + 1) (by omega) 3).trans Hb3.out
    go_wp2_with (first | (with_reducible exact fail) | (go_at_call 34; first | (with_reducible refine (cF.out _).mono ?_; rintro e w9 ⟨rfl, rfl⟩) | (with_reducible refine (cS.out _).mono ?_; rintro e w9 ⟨rfl, rfl⟩)))
    go_ret
    exact ⟨ret_bool HF.out.symm, HE.out.trans (HE3.out)⟩
  rw [hS] at cS
  cases hE : (f == s)
  case true =>
    have hEq : f = s := by simpa using hE
    have HF : Hid (canMoveB H ds ps gs ⟨o, t, f, s⟩ = false) := by unfold Hid canMoveB; simp [hEq]
    clear hP hH hG hF hS hEq
    go_enter Tryd.func11, Tryd.ntmps11
    go_wp2_with fail
    rw [← Hwb.out]
    refine cP.out.mono ?_
    rintro e w1 ⟨rfl, he1⟩
    have HE1 := Lib.hid he1
    have a0 := (HE1.out.cellAt (w.heap.size) (by omega) 0).trans Ha0.out
    have a1 := (HE1.out.cellAt (w.heap.size) (by omega) 1).trans Ha1.out
    have ap := (HE1.out.cellAt (w.heap.size + 1) (by omega) 0).trans Hap.out
    have ag := (HE1.out.cellAt (w.heap.size + 1 + 1) (by omega) 0).trans Hag.out
    have b0 := (HE1.out.cellAt (w.heap.size + 1 + 1 + 1) (by omega) 0).trans Hb0.out
    have b1 := (HE1.out.cellAt (w.heap.size + 1 + 1 + 1) (by omega) 1).trans Hb1.out
    have b2 := (HE1.out.cellAt (w.heap.size + 1 + 1 + 1) (by omega) 2).trans Hb2.out
    have b3 := (HE1.out.cellAt (w.heap.size + 1 + 1 + 1) (by omega) 3).trans Hb3.out
    clear he1
    go_wp2_with fail
    refine (cH.out w1 (HE1.out)).mono ?_
    rintro e w2 ⟨rfl, he2⟩
    have HE2 := Lib.hid (Ext.trans (HE1.out) he2)
    clear a0 a1 ap ag b0 b1 b2 b3 he2
    have a0 := (HE2.out.cellAt (w.heap.size) (by omega) 0).trans Ha0.out
    have a1 := (HE2.out.cellAt (w.heap.size) (by omega) 1).trans Ha1.out
    have ap := (HE2.out.cellAt (w.heap.size + 1) (by omega) 0).trans Hap.out
    have ag := (HE2.out.cellAt (w.heap.size + 1 + 1) (by omega) 0).trans Hag.out
    have b0 := (HE2.out.cellAt (w.heap.size + 1 + 1 + 1) (by omega) 0).trans Hb0.out
    have b1 := (HE2.out.cellAt (w.heap.size + 1 + 1 + 1) (by omega) 1).trans Hb1.out
    have b2 := (HE2.out.cellAt (w.heap.size + 1 + 1 + 1) (by omega) 2).trans Hb2.out
    have b3 := (HE2.out.cellAt (w.heap.size + 1 + 1 + 1) (by omega) 3).trans Hb3.out
    go_wp2_with fail
    refine (cG.out w2 (HE2.out)).mono ?_
    rintro e w3 ⟨rfl, he3⟩
    have HE3 := Lib.hid (Ext.trans (HE2.out) he3)
    clear a0 a1 ap ag b0 b1 b2 b3 he3
    have a0 := (HE3.out.cellAt (w.heap.size) (by omega) 0).trans Ha0.out
    have a1 := (HE3.out.cellAt (w.heap.size) (by omega) 1).trans Ha1.out
    have ap := (HE3.out.cellAt (w.heap.size + 1) (by omega) 0).trans Hap.out
    have ag := (HE3.out.cellAt (w.heap.size + 1 + 1) (by omega) 0).trans Hag.out
    have b0 := (HE3.out.cellAt (w.heap.size + 1 + 1 + 1) (by omega) 0).trans Hb0.out
    have b1 := (HE3.out.cellAt (w.heap.size + 1 + 1 + 1) (by omega) 1).trans Hb1.out
    have b2 := (HE3.out.cellAt (w.heap.size + 1 + 1 + 1) (by omega) 2).trans Hb2.out
    have b3 := (HE3.out.cellAt (w.heap.size + 1 + 1 + 1) (by omega) 3).trans Hb3.out
    go_wp2_with (first | (with_reducible exact fail) | (go_at_call 34; first | (with_reducible refine (cF.out _).mono ?_; rintro e w9 ⟨rfl, rfl⟩) | (with_reducible refine (cS.out _).mono ?_; rintro e w9 ⟨rfl, rfl⟩)))
    go_ret
    exact ⟨ret_bool HF.out.symm, HE.out.trans (HE3.out)⟩
  have hfs : 0 ≤ f ∧ f ≤ (n2 : Int) - 1 := by simpa [inB] using hF
  have hss : 0 ≤ s ∧ s ≤ (n2 : Int) - 1 := by simpa [inB] using hS
  have hos : 0 ≤ o ∧ o ≤ (n1 : Int) - 1 := by (have h := hG; unfold goB at h; rw [Bool.and_eq_true, hl1.out] at h; simpa [inB] using h.1)
  have cN1 := Lib.hid (fun w1 (he : Ext wb w1) => impl_CanMove1 (w.heap.size + 1 + 1) (w.heap.size + 1) (w.heap.size + 1 + 1 + 1) A1 n1 c1 ps A2 n2 c2 gs ⟨o, t, f, s⟩ f w1 (hxb1.out.keep he) (hxb2.out.keep he) ((he.cellAt _ (by omega) _).trans Hag.out) ((he.cellAt _ (by omega) _).trans Hap.out) ((he.cellAt _ (by omega) _).trans Hb0.out) ((he.cellAt _ (by omega) _).trans Hb1.out) (by omega) (by omega) (by dsimp only; omega) (by dsimp only; omega))
  have cN2 := Lib.hid (fun w1 (he : Ext wb w1) => impl_CanMove1 (w.heap.size + 1 + 1) (w.heap.size + 1) (w.heap.size + 1 + 1 + 1) A1 n1 c1 ps A2 n2 c2 gs ⟨o, t, f, s⟩ s w1 (hxb1.out.keep he) (hxb2.out.keep he) ((he.cellAt _ (by omega) _).trans Hag.out) ((he.cellAt _ (by omega) _).trans Hap.out) ((he.cellAt _ (by omega) _).trans Hb0.out) ((he.cellAt _ (by omega) _).trans Hb1.out) (by omega) (by omega) (by dsimp only; omega) (by dsimp only; omega))
  have hne : (f != s) = true := by simp at hE; simp [hE]
  have HV : Hid (canMoveB H ds ps gs ⟨o, t, f, s⟩ = (nearB gs ps ⟨o, t, f, s⟩ f && nearB gs ps ⟨o, t, f, s⟩ s)) := by unfold Hid canMoveB; simp only [hP, hH, hG, hl2.out, decide_eq_true h6, hF, hS, hne, Bool.true_and]
  clear hfs hss hos hne hP hH hG hF hS
  cases hN : nearB gs ps ⟨o, t, f, s⟩ f
  case false =>
    rw [hN] at cN1
    have HF : Hid (canMoveB H ds ps gs ⟨o, t, f, s⟩ = false) := by unfold Hid; rw [HV.out, hN]; rfl
    clear hN cN2
    go_enter Tryd.func11, Tryd.ntmps11
    go_wp2_with fail
    rw [← Hwb.out]
    refine cP.out.mono ?_
    rintro e w1 ⟨rfl, he1⟩
    have HE1 := Lib.hid he1
    have a0 := (HE1.out.cellAt (w.heap.size) (by omega) 0).trans Ha0.out
    have a1 := (HE1.out.cellAt (w.heap.size) (by omega) 1).trans Ha1.out
    have ap := (HE1.out.cellAt (w.heap.size + 1) (by omega) 0).trans Hap.out
    have ag := (HE1.out.cellAt (w.heap.size + 1 + 1) (by omega) 0).trans Hag.out
    have b0 := (HE1.out.cellAt (w.heap.size + 1 + 1 + 1) (by omega) 0).trans Hb0.out
    have b1 := (HE1.out.cellAt (w.heap.size + 1 + 1 + 1) (by omega) 1).trans Hb1.out
    have b2 := (HE1.out.cellAt (w.heap.size + 1 + 1 + 1) (by omega) 2).trans Hb2.out
    have b3 := (HE1.out.cellAt (w.heap.size + 1 + 1 + 1) (by omega) 3).trans Hb3.out
    clear he1
    go_wp2_with fail
    refine (cH.out w1 (HE1.out)).mono ?_
    rintro e w2 ⟨rfl, he2⟩
    have HE2 := Lib.hid (Ext.trans (HE1.out) he2)
    clear a0 a1 ap ag b0 b1 b2 b3 he2
    have a0 := (HE2.out.cellAt (w.heap.size) (by omega) 0).trans Ha0.out
    have a1 := (HE2.out.cellAt (w.heap.size) (by omega) 1).trans Ha1.out
    have ap := (HE2.out.cellAt (w.heap.size + 1) (by omega) 0).trans Hap.out
    have ag := (HE2.out.cellAt (w.heap.size + 1 + 1) (by omega) 0).trans Hag.out
    have b0 := (HE2.out.cellAt (w.heap.size + 1 + 1 + 1) (by omega) 0).trans Hb0.out
    have b1 := (HE2.out.cellAt (w.heap.size + 1 + 1 + 1) (by omega) 1).trans Hb1.out
    have b2 := (HE2.out.cellAt (w.heap.size + 1 + 1 + 1) (by omega) 2).trans Hb2.out
    have b3 := (HE2.out.cellAt (w.heap.size + 1 + 1 + 1) (by omega) 3).trans Hb3.out
    go_wp2_with fail
    refine (cG.out w2 (HE2.out)).mono ?_
    rintro e w3 ⟨rfl, he3⟩
    have HE3 := Lib.hid (Ext.trans (HE2.out) he3)
    clear a0 a1 ap ag b0 b1 b2 b3 he3
    have a0 := (HE3.out.cellAt (w.heap.size) (by omega) 0).trans Ha0.out
    have a1 := (HE3.out.cellAt (w.heap.size) (by omega) 1).trans Ha1.out
    have ap := (HE3.out.cellAt (w.heap.size + 1) (by omega) 0).trans Hap.out
    have ag := (HE3.out.cellAt (w.heap.size + 1 + 1) (by omega) 0).trans Hag.out
    have b0 := (HE3.out.cellAt (w.heap.size + 1 + 1 + 1) (by omega) 0).trans Hb0.out
    have b1 := (HE3.out.cellAt (w.heap.size + 1 + 1 + 1) (by omega) 1).trans Hb1.out
    have b2 := (HE3.out.cellAt (w.heap.size + 1 + 1 + 1) (by omega) 2).trans Hb2.out
    have b3 := (HE3.out.cellAt (w.heap.size + 1 + 1 + 1) (by omega) 3).trans Hb3.out
    go_wp2_with (first | (with_reducible exact fail) | (go_at_call 34; first | (with_reducible refine (cF.out _).mono ?_; rintro e w9 ⟨rfl, rfl⟩) | (with_reducible refine (cS.out _).mono ?_; rintro e w9 ⟨rfl, rfl⟩)))
    refine (cN1.out w3 (HE3.out)).mono ?_
    rintro e w4 ⟨rfl, he4⟩
    have HE4 := Lib.hid (Ext.trans (HE3.out) he4)
    clear a0 a1 ap ag b0 b1 b2 b3 he4
    have a0 := (HE4.out.cellAt (w.heap.size) (by omega) 0).trans Ha0.out
    have a1 := (HE4.out.cellAt (w.heap.size) (by omega) 1).trans Ha1.out
    have ap := (HE4.out.cellAt (w.heap.size + 1) (by omega) 0).trans Hap.out
    have ag := (HE4.out.cellAt (w.heap.size + 1 + 1) (by omega) 0).trans Hag.out
    have b0 := (HE4.out.cellAt (w.heap.size + 1 + 1 + 1) (by omega) 0).trans Hb0.out
    have b1 := (HE4.out.cellAt (w.heap.size + 1 + 1 + 1) (by omega) 1).trans Hb1.out
    have b2 := (HE4.out.cellAt (w.heap.size + 1 + 1 + 1) (by omega) 2).trans Hb2.out
    have b3 := (HE4.out.cellAt (w.heap.size + 1 + 1 + 1) (by omega) 3).trans Hb3.out
    go_wp2_with fail
    go_ret
    exact ⟨ret_bool HF.out.symm, HE.out.trans (HE4.out)⟩
  rw [hN] at cN1
  cases hM : nearB gs ps ⟨o, t, f, s⟩ s
  case false =>
    rw [hM] at cN2
    have HF : Hid (canMoveB H ds ps gs ⟨o, t, f, s⟩ = false) := by unfold Hid; rw [HV.out, hN, hM]; rfl
    clear hN hM
    go_enter Tryd.func11, Tryd.ntmps11
    go_wp2_with fail
    rw [← Hwb.out]
    refine cP.out.mono ?_
    rintro e w1 ⟨rfl, he1⟩
    have HE1 := Lib.hid he1
    have a0 := (HE1.out.cellAt (w.heap.size) (by omega) 0).trans Ha0.out
    have a1 := (HE1.out.cellAt (w.heap.size) (by omega) 1).trans Ha1.out
    have ap := (HE1.out.cellAt (w.heap.size + 1) (by omega) 0).trans Hap.out
    have ag := (HE1.out.cellAt (w.heap.size + 1 + 1) (by omega) 0).trans Hag.out
    have b0 := (HE1.out.cellAt (w.heap.size + 1 + 1 + 1) (by omega) 0).trans Hb0.out
    have b1 := (HE1.out.cellAt (w.heap.size + 1 + 1 + 1) (by omega) 1).trans Hb1.out
    have b2 := (HE1.out.cellAt (w.heap.size + 1 + 1 + 1) (by omega) 2).trans Hb2.out
    have b3 := (HE1.out.cellAt (w.heap.size + 1 + 1 + 1) (by omega) 3).trans Hb3.out
    clear he1
    go_wp2_with fail
    refine (cH.out w1 (HE1.out)).mono ?_
    rintro e w2 ⟨rfl, he2⟩
    have HE2 := Lib.hid (Ext.trans (HE1.out) he2)
    clear a0 a1 ap ag b0 b1 b2 b3 he2
    have a0 := (HE2.out.cellAt (w.heap.size) (by omega) 0).trans Ha0.out
    have a1 := (HE2.out.cellAt (w.heap.size) (by omega) 1).trans Ha1.out
    have ap := (HE2.out.cellAt (w.heap.size + 1) (by omega) 0).trans Hap.out
    have ag := (HE2.out.cellAt (w.heap.size + 1 + 1) (by omega) 0).trans Hag.out
    have b0 := (HE2.out.cellAt (w.heap.size + 1 + 1 + 1) (by omega) 0).trans Hb0.out
    have b1 := (HE2.out.cellAt (w.heap.size + 1 + 1 + 1) (by omega) 1).trans Hb1.out
    have b2 := (HE2.out.cellAt (w.heap.size + 1 + 1 + 1) (by omega) 2).trans Hb2.out
    have b3 := (HE2.out.cellAt (w.heap.size + 1 + 1 + 1) (by omega) 3).trans Hb3.out
    go_wp2_with fail
    refine (cG.out w2 (HE2.out)).mono ?_
    rintro e w3 ⟨rfl, he3⟩
    have HE3 := Lib.hid (Ext.trans (HE2.out) he3)
    clear a0 a1 ap ag b0 b1 b2 b3 he3
    have a0 := (HE3.out.cellAt (w.heap.size) (by omega) 0).trans Ha0.out
    have a1 := (HE3.out.cellAt (w.heap.size) (by omega) 1).trans Ha1.out
    have ap := (HE3.out.cellAt (w.heap.size + 1) (by omega) 0).trans Hap.out
    have ag := (HE3.out.cellAt (w.heap.size + 1 + 1) (by omega) 0).trans Hag.out
    have b0 := (HE3.out.cellAt (w.heap.size + 1 + 1 + 1) (by omega) 0).trans Hb0.out
    have b1 := (HE3.out.cellAt (w.heap.size + 1 + 1 + 1) (by omega) 1).trans Hb1.out
    have b2 := (HE3.out.cellAt (w.heap.size + 1 + 1 + 1) (by omega) 2).trans Hb2.out
    have b3 := (HE3.out.cellAt (w.heap.size + 1 + 1 + 1) (by omega) 3).trans Hb3.out
    go_wp2_with (first | (with_reducible exact fail) | (go_at_call 34; first | (with_reducible refine (cF.out _).mono ?_; rintro e w9 ⟨rfl, rfl⟩) | (with_reducible refine (cS.out _).mono ?_; rintro e w9 ⟨rfl, rfl⟩)))
    refine (cN1.out w3 (HE3.out)).mono ?_
    rintro e w4 ⟨rfl, he4⟩
    have HE4 := Lib.hid (Ext.trans (HE3.out) he4)
    clear a0 a1 ap ag b0 b1 b2 b3 he4
    have a0 := (HE4.out.cellAt (w.heap.size) (by omega) 0).trans Ha0.out
    have a1 := (HE4.out.cellAt (w.heap.size) (by omega) 1).trans Ha1.out
    have ap := (HE4.out.cellAt (w.heap.size + 1) (by omega) 0).trans Hap.out
    have ag := (HE4.out.cellAt (w.heap.size + 1 + 1) (by omega) 0).trans Hag.out
    have b0 := (HE4.out.cellAt (w.heap.size + 1 + 1 + 1) (by omega) 0).trans Hb0.out
    have b1 := (HE4.out.cellAt (w.heap.size + 1 + 1 + 1) (by omega) 1).trans Hb1.out
    have b2 := (HE4.out.cellAt (w.heap.size + 1 + 1 + 1) (by omega) 2).trans Hb2.out
    have b3 := (HE4.out.cellAt (w.heap.size + 1 + 1 + 1) (by omega) 3).trans Hb3.out
    go_wp2_with fail
    refine (cN2.out w4 (HE4.out)).mono ?_
    rintro e w5 ⟨rfl, he5⟩
    have HE5 := Lib.hid (Ext.trans (HE4.out) he5)
    clear a0 a1 ap ag b0 b1 b2 b3 he5
    have a0 := (HE5.out.cellAt (w.heap.size) (by omega) 0).trans Ha0.out
    have a1 := (HE5.out.cellAt (w.heap.size) (by omega) 1).trans Ha1.out
    have ap := (HE5.out.cellAt (w.heap.size + 1) (by omega) 0).trans Hap.out
    have ag := (HE5.out.cellAt (w.heap.size + 1 + 1) (by omega) 0).trans Hag.out
    have b0 := (HE5.out.cellAt (w.heap.size + 1 + 1 + 1) (by omega) 0).trans Hb0.out
    have b1 := (HE5.out.cellAt (w.heap.size + 1 + 1 + 1) (by omega) 1).trans Hb1.out
    have b2 := (HE5.out.cellAt (w.heap.size + 1 + 1 + 1) (by omega) 2).trans Hb2.out
    have b3 := (HE5.out.cellAt (w.heap.size + 1 + 1 + 1) (by omega) 3).trans Hb3.out
    go_wp2_with fail
    go_ret
    exact ⟨ret_bool HF.out.symm, HE.out.trans (HE5.out)⟩
  case true =>
    rw [hM] at cN2
    have HF : Hid (canMoveB H ds ps gs ⟨o, t, f, s⟩ = true) := by unfold Hid; rw [HV.out, hN, hM]; rfl
    clear hN hM
    go_enter Tryd.func11, Tryd.ntmps11
    go_wp2_with fail
    rw [← Hwb.out]
    refine cP.out.mono ?_
    rintro e w1 ⟨rfl, he1⟩
    have HE1 := Lib.hid he1
    have a0 := (HE1.out.cellAt (w.heap.size) (by omega) 0).trans Ha0.out
    have a1 := (HE1.out.cellAt (w.heap.size) (by omega) 1).trans Ha1.out
    have ap := (HE1.out.cellAt (w.heap.size + 1) (by omega) 0).trans Hap.out
    have ag := (HE1.out.cellAt (w.heap.size + 1 + 1) (by omega) 0).trans Hag.out
    have b0 := (HE1.out.cellAt (w.heap.size + 1 + 1 + 1) (by omega) 0).trans Hb0.out
    have b1 := (HE1.out.cellAt (w.heap.size + 1 + 1 + 1) (by omega) 1).trans Hb1.out
    have b2 := (HE1.out.cellAt (w.heap.size + 1 + 1 + 1) (by omega) 2).trans Hb2.out
    have b3 := (HE1.out.cellAt (w.heap.size + 1 + 1 + 1) (by omega) 3).trans Hb3.out
    clear he1
    go_wp2_with fail
    refine (cH.out w1 (HE1.out)).mono ?_
    rintro e w2 ⟨rfl, he2⟩
    have HE2 := Lib.hid (Ext.trans (HE1.out) he2)
    clear a0 a1 ap ag b0 b1 b2 b3 he2
    have a0 := (HE2.out.cellAt (w.heap.size) (by omega) 0).trans Ha0.out
    have a1 := (HE2.out.cellAt (w.heap.size) (by omega) 1).trans Ha1.out
    have ap := (HE2.out.cellAt (w.heap.size + 1) (by omega) 0).trans Hap.out
    have ag := (HE2.out.cellAt (w.heap.size + 1 + 1) (by omega) 0).trans Hag.out
    have b0 := (HE2.out.cellAt (w.heap.size + 1 + 1 + 1) (by omega) 0).trans Hb0.out
    have b1 := (HE2.out.cellAt (w.heap.size + 1 + 1 + 1) (by omega) 1).trans Hb1.out
    have b2 := (HE2.out.cellAt (w.heap.size + 1 + 1 + 1) (by omega) 2).trans Hb2.out
    have b3 := (HE2.out.cellAt (w.heap.size + 1 + 1 + 1) (by omega) 3).trans Hb3.out
    go_wp2_with fail
    refine (cG.out w2 (HE2.out)).mono ?_
    rintro e w3 ⟨rfl, he3⟩
    have HE3 := Lib.hid (Ext.trans (HE2.out) he3)
    clear a0 a1 ap ag b0 b1 b2 b3 he3
    have a0 := (HE3.out.cellAt (w.heap.size) (by omega) 0).trans Ha0.out
    have a1 := (HE3.out.cellAt (w.heap.size) (by omega) 1).trans Ha1.out
    have ap := (HE3.out.cellAt (w.heap.size + 1) (by omega) 0).trans Hap.out
    have ag := (HE3.out.cellAt (w.heap.size + 1 + 1) (by omega) 0).trans Hag.out
    have b0 := (HE3.out.cellAt (w.heap.size + 1 + 1 + 1) (by omega) 0).trans Hb0.out
    have b1 := (HE3.out.cellAt (w.heap.size + 1 + 1 + 1) (by omega) 1).trans Hb1.out
    have b2 := (HE3.out.cellAt (w.heap.size + 1 + 1 + 1) (by omega) 2).trans Hb2.out
    have b3 := (HE3.out.cellAt (w.heap.size + 1 + 1 + 1) (by omega) 3).trans Hb3.out
    go_wp2_with (first | (with_reducible exact fail) | (go_at_call 34; first | (with_reducible refine (cF.out _).mono ?_; rintro e w9 ⟨rfl, rfl⟩) | (with_reducible refine (cS.out _).mono ?_; rintro e w9 ⟨rfl, rfl⟩)))
    refine (cN1.out w3 (HE3.out)).mono ?_
    rintro e w4 ⟨rfl, he4⟩
    have HE4 := Lib.hid (Ext.trans (HE3.out) he4)
    clear a0 a1 ap ag b0 b1 b2 b3 he4
    have a0 := (HE4.out.cellAt (w.heap.size) (by omega) 0).trans Ha0.out
    have a1 := (HE4.out.cellAt (w.heap.size) (by omega) 1).trans Ha1.out
    have ap := (HE4.out.cellAt (w.heap.size + 1) (by omega) 0).trans Hap.out
    have ag := (HE4.out.cellAt (w.heap.size + 1 + 1) (by omega) 0).trans Hag.out
    have b0 := (HE4.out.cellAt (w.heap.size + 1 + 1 + 1) (by omega) 0).trans Hb0.out
    have b1 := (HE4.out.cellAt (w.heap.size + 1 + 1 + 1) (by omega) 1).trans Hb1.out
    have b2 := (HE4.out.cellAt (w.heap.size + 1 + 1 + 1) (by omega) 2).trans Hb2.out
    have b3 := (HE4.out.cellAt (w.heap.size + 1 + 1 + 1) (by omega) 3).trans Hb3.out
    go_wp2_with fail
    refine (cN2.out w4 (HE4.out)).mono ?_
    rintro e w5 ⟨rfl, he5⟩
    have HE5 := Lib.hid (Ext.trans (HE4.out) he5)
    clear a0 a1 ap ag b0 b1 b2 b3 he5
    have a0 := (HE5.out.cellAt (w.heap.size) (by omega) 0).trans Ha0.out
    have a1 := (HE5.out.cellAt (w.heap.size) (by omega) 1).trans Ha1.out
    have ap := (HE5.out.cellAt (w.heap.size + 1) (by omega) 0).trans Hap.out
    have ag := (HE5.out.cellAt (w.heap.size + 1 + 1) (by omega) 0).trans Hag.out
    have b0 := (HE5.out.cellAt (w.heap.size + 1 + 1 + 1) (by omega) 0).trans Hb0.out
    have b1 := (HE5.out.cellAt (w.heap.size + 1 + 1 + 1) (by omega) 1).trans Hb1.out
    have b2 := (HE5.out.cellAt (w.heap.size + 1 + 1 + 1) (by omega) 2).trans Hb2.out
    have b3 := (HE5.out.cellAt (w.heap.size + 1 + 1 + 1) (by omega) 3).trans Hb3.out
    go_wp2_with fail
    go_ret
    exact ⟨ret_bool HF.out.symm, HE.out.trans (HE5.out)⟩
end Go.Proofs.YtfhibjehnoibeaaDoor
/- Contract of the reference's CanMove; no condition but what stands at each theorem. -/
namespace Go.Proofs.YtfhibjehnoibeaaDoor
set_option linter.unusedSimpArgs false
set_option linter.unusedVariables false
open Go.RowKit Go.Sort
theorem spec_l35Near (x y z : Int) (w : World) : Calls Tryd.prog 48 #[.int .i64 x, .int .i64 y, .int .i64 z] w fun e w' => e = .returned (.bool ((x == y) || (x == z))) ∧ w = w' := by
  cases e1 : (x == y)
  · cases e2 : (x == z)
    all_goals go_enter Tryd.func48, Tryd.ntmps48
    all_goals go_wp2_with fail
    all_goals go_ret
    all_goals exact ⟨rfl, rfl⟩
  · go_enter Tryd.func48, Tryd.ntmps48
    go_wp2_with fail
    go_ret
    exact ⟨rfl, rfl⟩
set_option maxRecDepth 100000 in
set_option maxHeartbeats 8000000 in
theorem spec_CanMove (H : Int) (A : Option Addr) (n c : Nat) (ds : List GDoor) (A1 : Option Addr) (n1 c1 : Nat) (ps : List Int) (A2 : Option Addr) (n2 c2 : Nat) (gs : List Int) (m : GMove) (w : World) (hx : Rd w 2 A n (ds.flatMap GDoor.enc)) (hx1 : Rd w 1 A1 n1 (ps.flatMap ienc)) (hx2 : Rd w 1 A2 n2 (gs.flatMap ienc)) :
    Calls Tryd.prog 97 #[.agg #[.int .i64 H, .slice A n c], .slice A1 n1 c1, .slice A2 n2 c2, .agg #[.int .i64 m.o, .int .i64 m.t, .int .i64 m.f, .int .i64 m.s]] w fun e w' => e = .returned (.bool (canMoveB H ds ps gs m)) ∧ Ext w w' := by
  obtain ⟨o, t, f, s⟩ := m
  dsimp only
  have hn1 := hx1.2.1
  have hn2 := hx2.2.1
  have hl1 := Lib.hid (hx1.len ienc_len (by omega))
  have hl2 := Lib.hid (hx2.len ienc_len (by omega))
  obtain ⟨wb, hwb⟩ : ∃ wb, wb = (w.alloc (.cells #[.int .i64 H, .slice A n c] 26)).alloc (.cells #[.int .i64 o, .int .i64 t, .int .i64 f, .int .i64 s] 41) := ⟨_, rfl⟩
  obtain ⟨hE, hsb, a0, a1, b0, b1, b2, b3⟩ := boxHM w _ _ _ _ _ _ _ _ wb hwb
  have HE := Lib.hid hE
  have Hwb := Lib.hid hwb
  have Ha0 := Lib.hid a0
  have Ha1 := Lib.hid a1
  have Hb0 := Lib.hid b0
  have Hb1 := Lib.hid b1
  have Hb2 := Lib.hid b2
  have Hb3 := Lib.hid b3
  have hxb := Lib.hid (hx.keep hE)
  have hxb1 := Lib.hid (hx1.keep hE)
  have hxb2 := Lib.hid (hx2.keep hE)
  have cP := Lib.hid (spec_PlacesOk H A n c ds A1 n1 c1 ps wb hxb.out hxb1.out)
  clear hE hwb a0 a1 b0 b1 b2 b3 hx hx1 hx2
  cases hP : placesB H ds ps
  case false =>
    rw [hP] at cP
    have HF : Hid (canMoveB H ds ps gs ⟨o, t, f, s⟩ = false) := by unfold Hid canMoveB goB hasDoorB; simp [hP]
    clear hP
    go_enter Tryd.func97, Tryd.ntmps97
    go_wp2_with fail
    rw [← Hwb.out]
    refine cP.out.mono ?_
    rintro e w1 ⟨rfl, he1⟩
    have HE1 := Lib.hid he1
    have a0 := (HE1.out.cellAt (w.heap.size) (by omega) 0).trans Ha0.out
    have a1 := (HE1.out.cellAt (w.heap.size) (by omega) 1).trans Ha1.out
    have b0 := (HE1.out.cellAt (w.heap.size + 1) (by omega) 0).trans Hb0.out
    have b1 := (HE1.out.cellAt (w.heap.size + 1) (by omega) 1).trans Hb1.out
    have b2 := (HE1.out.cellAt (w.heap.size + 1) (by omega) 2).trans Hb2.out
    have b3 := (HE1.out.cellAt (w.heap.size + 1) (by omega) 3).trans Hb3.out
    clear he1
    go_wp2_with fail
    go_ret
    exact ⟨ret_bool HF.out.symm, HE.out.trans (HE1.out)⟩
  rw [hP] at cP
  have cH := Lib.hid (fun w1 he => spec_l31Halls H A n c ds A2 n2 c2 gs w1 (hxb.out.keep he) (hxb2.out.keep (w' := w1) he))
  cases hH : hallsB H ds gs
  case false =>
    rw [hH] at cH
    have HF : Hid (canMoveB H ds ps gs ⟨o, t, f, s⟩ = false) := by unfold Hid canMoveB goB hasDoorB; simp [hH]
    clear hP hH
    go_enter Tryd.func97, Tryd.ntmps97
    go_wp2_with fail
    rw [← Hwb.out]
    refine cP.out.mono ?_
    rintro e w1 ⟨rfl, he1⟩
    have HE1 := Lib.hid he1
    have a0 := (HE1.out.cellAt (w.heap.size) (by omega) 0).trans Ha0.out
    have a1 := (HE1.out.cellAt (w.heap.size) (by omega) 1).trans Ha1.out
    have b0 := (HE1.out.cellAt (w.heap.size + 1) (by omega) 0).trans Hb0.out
    have b1 := (HE1.out.cellAt (w.heap.size + 1) (by omega) 1).trans Hb1.out
    have b2 := (HE1.out.cellAt (w.heap.size + 1) (by omega) 2).trans Hb2.out
    have b3 := (HE1.out.cellAt (w.heap.size + 1) (by omega) 3).trans Hb3.out
    clear he1
    go_wp2_with fail
    refine (cH.out w1 (HE1.out)).mono ?_
    rintro e w2 ⟨rfl, he2⟩
    have HE2 := Lib.hid (Ext.trans (HE1.out) he2)
    clear a0 a1 b0 b1 b2 b3 he2
    have a0 := (HE2.out.cellAt (w.heap.size) (by omega) 0).trans Ha0.out
    have a1 := (HE2.out.cellAt (w.heap.size) (by omega) 1).trans Ha1.out
    have b0 := (HE2.out.cellAt (w.heap.size + 1) (by omega) 0).trans Hb0.out
    have b1 := (HE2.out.cellAt (w.heap.size + 1) (by omega) 1).trans Hb1.out
    have b2 := (HE2.out.cellAt (w.heap.size + 1) (by omega) 2).trans Hb2.out
    have b3 := (HE2.out.cellAt (w.heap.size + 1) (by omega) 3).trans Hb3.out
    go_wp2_with (go_at_call 72; first | (with_reducible refine (cO.out _).mono ?_; rintro e w9 ⟨rfl, rfl⟩) | (with_reducible refine (cT.out _).mono ?_; rintro e w9 ⟨rfl, rfl⟩) | (with_reducible refine (cF.out _).mono ?_; rintro e w9 ⟨rfl, rfl⟩) | (with_reducible refine (cS.out _).mono ?_; rintro e w9 ⟨rfl, rfl⟩))
    go_ret
    exact ⟨ret_bool HF.out.symm, HE.out.trans (HE2.out)⟩
  rw [hH] at cH
  by_cases h6 : n2 ≤ 6
  case neg =>
    have HF : Hid (canMoveB H ds ps gs ⟨o, t, f, s⟩ = false) := by unfold Hid canMoveB goB hasDoorB; simp [hl2.out, h6]
    clear hP hH
    go_enter Tryd.func97, Tryd.ntmps97
    go_wp2_with fail
    rw [← Hwb.out]
    refine cP.out.mono ?_
    rintro e w1 ⟨rfl, he1⟩
    have HE1 := Lib.hid he1
    have a0 := (HE1.out.cellAt (w.heap.size) (by omega) 0).trans Ha0.out
    have a1 := (HE1.out.cellAt (w.heap.size) (by omega) 1).trans Ha1.out
    have b0 := (HE1.out.cellAt (w.heap.size + 1) (by omega) 0).trans Hb0.out
    have b1 := (HE1.out.cellAt (w.heap.size + 1) (by omega) 1).trans Hb1.out
    have b2 := (HE1.out.cellAt (w.heap.size + 1) (by omega) 2).trans Hb2.out
    have b3 := (HE1.out.cellAt (w.heap.size + 1) (by omega) 3).trans Hb3.out
    clear he1
    go_wp2_with fail
    refine (cH.out w1 (HE1.out)).mono ?_
    rintro e w2 ⟨rfl, he2⟩
    have HE2 := Lib.hid (Ext.trans (HE1.out) he2)
    clear a0 a1 b0 b1 b2 b3 he2
    have a0 := (HE2.out.cellAt (w.heap.size) (by omega) 0).trans Ha0.out
    have a1 := (HE2.out.cellAt (w.heap.size) (by omega) 1).trans Ha1.out
    have b0 := (HE2.out.cellAt (w.heap.size + 1) (by omega) 0).trans Hb0.out
    have b1 := (HE2.out.cellAt (w.heap.size + 1) (by omega) 1).trans Hb1.out
    have b2 := (HE2.out.cellAt (w.heap.size + 1) (by omega) 2).trans Hb2.out
    have b3 := (HE2.out.cellAt (w.heap.size + 1) (by omega) 3).trans Hb3.out
    go_wp2_with (go_at_call 72; first | (with_reducible refine (cO.out _).mono ?_; rintro e w9 ⟨rfl, rfl⟩) | (with_reducible refine (cT.out _).mono ?_; rintro e w9 ⟨rfl, rfl⟩) | (with_reducible refine (cF.out _).mono ?_; rintro e w9 ⟨rfl, rfl⟩) | (with_reducible refine (cS.out _).mono ?_; rintro e w9 ⟨rfl, rfl⟩))
    go_ret
    exact ⟨ret_bool HF.out.symm, HE.out.trans (HE2.out)⟩
  have cO := Lib.hid (fun W => spec_l01In o 0 ((n1 : Int) - 1) W)
  have cT := Lib.hid (fun W => spec_l01In t 0 (wrap64 (H - 1)) W)
  have cF := Lib.hid (fun W => spec_l01In f 0 ((n2 : Int) - 1) W)
  have cS := Lib.hid (fun W => spec_l01In s 0 ((n2 : Int) - 1) W)
  cases hO : inB o 0 ((n1 : Int) - 1)
  case false =>
    rw [hO] at cO
    have HF : Hid (canMoveB H ds ps gs ⟨o, t, f, s⟩ = false) := by unfold Hid canMoveB goB hasDoorB; simp [hl1.out, hO]
    clear hP hH hO
    go_enter Tryd.func97, Tryd.ntmps97
    go_wp2_with fail
    rw [← Hwb.out]
    refine cP.out.mono ?_
    rintro e w1 ⟨rfl, he1⟩
    have HE1 := Lib.hid he1
    have a0 := (HE1.out.cellAt (w.heap.size) (by omega) 0).trans Ha0.out
    have a1 := (HE1.out.cellAt (w.heap.size) (by omega) 1).trans Ha1.out
    have b0 := (HE1.out.cellAt (w.heap.size + 1) (by omega) 0).trans Hb0.out
    have b1 := (HE1.out.cellAt (w.heap.size + 1) (by omega) 1).trans Hb1.out
    have b2 := (HE1.out.cellAt (w.heap.size + 1) (by omega) 2).trans Hb2.out
    have b3 := (HE1.out.cellAt (w.heap.size + 1) (by omega) 3).trans Hb3.out
    clear he1
    go_wp2_with fail
    refine (cH.out w1 (HE1.out)).mono ?_
    rintro e w2 ⟨rfl, he2⟩
    have HE2 := Lib.hid (Ext.trans (HE1.out) he2)
    clear a0 a1 b0 b1 b2 b3 he2
    have a0 := (HE2.out.cellAt (w.heap.size) (by omega) 0).trans Ha0.out
    have a1 := (HE2.out.cellAt (w.heap.size) (by omega) 1).trans Ha1.out
    have b0 := (HE2.out.cellAt (w.heap.size + 1) (by omega) 0).trans Hb0.out
    have b1 := (HE2.out.cellAt (w.heap.size + 1) (by omega) 1).trans Hb1.out
    have b2 := (HE2.out.cellAt (w.heap.size + 1) (by omega) 2).trans Hb2.out
    have b3 := (HE2.out.cellAt (w.heap.size + 1) (by omega) 3).trans Hb3.out
    go_wp2_with (go_at_call 72; first | (with_reducible refine (cO.out _).mono ?_; rintro e w9 ⟨rfl, rfl⟩) | (with_reducible refine (cT.out _).mono ?_; rintro e w9 ⟨rfl, rfl⟩) | (with_reducible refine (cF.out _).mono ?_; rintro e w9 ⟨rfl, rfl⟩) | (with_reducible refine (cS.out _).mono ?_; rintro e w9 ⟨rfl, rfl⟩))
    go_ret
    exact ⟨ret_bool HF.out.symm, HE.out.trans (HE2.out)⟩
  rw [hO] at cO
  cases hT : inB t 0 (wrap64 (H - 1))
  case false =>
    rw [hT] at cT
    have HF : Hid (canMoveB H ds ps gs ⟨o, t, f, s⟩ = false) := by unfold Hid canMoveB goB hasDoorB; simp [hallB, hT]
    clear hP hH hO hT
    go_enter Tryd.func97, Tryd.ntmps97
    go_wp2_with fail
    rw [← Hwb.out]
    refine cP.out.mono ?_
    rintro e w1 ⟨rfl, he1⟩
    have HE1 := Lib.hid he1
    have a0 := (HE1.out.cellAt (w.heap.size) (by omega) 0).trans Ha0.out
    have a1 := (HE1.out.cellAt (w.heap.size) (by omega) 1).trans Ha1.out
    have b0 := (HE1.out.cellAt (w.heap.size + 1) (by omega) 0).trans Hb0.out
    have b1 := (HE1.out.cellAt (w.heap.size + 1) (by omega) 1).trans Hb1.out
    have b2 := (HE1.out.cellAt (w.heap.size + 1) (by omega) 2).trans Hb2.out
    have b3 := (HE1.out.cellAt (w.heap.size + 1) (by omega) 3).trans Hb3.out
    clear he1
    go_wp2_with fail
    refine (cH.out w1 (HE1.out)).mono ?_
    rintro e w2 ⟨rfl, he2⟩
    have HE2 := Lib.hid (Ext.trans (HE1.out) he2)
    clear a0 a1 b0 b1 b2 b3 he2
    have a0 := (HE2.out.cellAt (w.heap.size) (by omega) 0).trans Ha0.out
    have a1 := (HE2.out.cellAt (w.heap.size) (by omega) 1).trans Ha1.out
    have b0 := (HE2.out.cellAt (w.heap.size + 1) (by omega) 0).trans Hb0.out
    have b1 := (HE2.out.cellAt (w.heap.size + 1) (by omega) 1).trans Hb1.out
    have b2 := (HE2.out.cellAt (w.heap.size + 1) (by omega) 2).trans Hb2.out
    have b3 := (HE2.out.cellAt (w.heap.size + 1) (by omega) 3).trans Hb3.out
    go_wp2_with (go_at_call 72; first | (with_reducible refine (cO.out _).mono ?_; rintro e w9 ⟨rfl, rfl⟩) | (with_reducible refine (cT.out _).mono ?_; rintro e w9 ⟨rfl, rfl⟩) | (with_reducible refine (cF.out _).mono ?_; rintro e w9 ⟨rfl, rfl⟩) | (with_reducible refine (cS.out _).mono ?_; rintro e w9 ⟨rfl, rfl⟩))
    go_ret
    exact ⟨ret_bool HF.out.symm, HE.out.trans (HE2.out)⟩
  rw [hT] at cT
  have hos : 0 ≤ o ∧ o ≤ (n1 : Int) - 1 := by simpa [inB] using hO
  obtain ⟨j, rfl⟩ := Int.eq_ofNat_of_zero_le hos.1
  have hj : j < n1 := by omega
  clear hos
  obtain ⟨bp, offp, x, rfl, hbp, hxk, q0⟩ := ienc_at hxb1.out hj
  have hX : ps.getD j 0 = x := getD_of' hxk
  have HQ := Lib.hid q0
  have Hq0 := HQ
  clear HQ q0 hxk
  have cD := Lib.hid (fun w1 (he : Ext wb w1) => spec_l23Door H A n c ds x t w1 (hxb.out.keep he))
  cases hX2 : (x == t)
  case true =>
    have hxt : x = t := by simpa using hX2
    have hself := doorB_self (hallsB_house hH) t
    have HF : Hid (canMoveB H ds ps gs ⟨j, t, f, s⟩ = false) := by unfold Hid canMoveB goB hasDoorB; simp only [Int.toNat_natCast, Bool.and_false, Bool.false_and, hX, hxt, hself]
    clear hP hH hO hT hX hxt hself
    go_enter Tryd.func97, Tryd.ntmps97
    go_wp2_with fail
    rw [← Hwb.out]
    refine cP.out.mono ?_
    rintro e w1 ⟨rfl, he1⟩
    have HE1 := Lib.hid he1
    have a0 := (HE1.out.cellAt (w.heap.size) (by omega) (0)).trans Ha0.out
    have a1 := (HE1.out.cellAt (w.heap.size) (by omega) (1)).trans Ha1.out
    have b0 := (HE1.out.cellAt (w.heap.size + 1) (by omega) (0)).trans Hb0.out
    have b1 := (HE1.out.cellAt (w.heap.size + 1) (by omega) (1)).trans Hb1.out
    have b2 := (HE1.out.cellAt (w.heap.size + 1) (by omega) (2)).trans Hb2.out
    have b3 := (HE1.out.cellAt (w.heap.size + 1) (by omega) (3)).trans Hb3.out
    have q0 := (HE1.out.cellAt (bp) (by omega) (offp + j)).trans Hq0.out
    clear he1
    go_wp2_with fail
    refine (cH.out w1 (HE1.out)).mono ?_
    rintro e w2 ⟨rfl, he2⟩
    have HE2 := Lib.hid (Ext.trans (HE1.out) he2)
    clear a0 a1 b0 b1 b2 b3 he2
    have a0 := (HE2.out.cellAt (w.heap.size) (by omega) (0)).trans Ha0.out
    have a1 := (HE2.out.cellAt (w.heap.size) (by omega) (1)).trans Ha1.out
    have b0 := (HE2.out.cellAt (w.heap.size + 1) (by omega) (0)).trans Hb0.out
    have b1 := (HE2.out.cellAt (w.heap.size + 1) (by omega) (1)).trans Hb1.out
    have b2 := (HE2.out.cellAt (w.heap.size + 1) (by omega) (2)).trans Hb2.out
    have b3 := (HE2.out.cellAt (w.heap.size + 1) (by omega) (3)).trans Hb3.out
    have q0 := (HE2.out.cellAt (bp) (by omega) (offp + j)).trans Hq0.out
    go_wp2_with (go_at_call 72; first | (with_reducible refine (cO.out _).mono ?_; rintro e w9 ⟨rfl, rfl⟩) | (with_reducible refine (cT.out _).mono ?_; rintro e w9 ⟨rfl, rfl⟩) | (with_reducible refine (cF.out _).mono ?_; rintro e w9 ⟨rfl, rfl⟩) | (with_reducible refine (cS.out _).mono ?_; rintro e w9 ⟨rfl, rfl⟩))
    go_ret
    exact ⟨ret_bool HF.out.symm, HE.out.trans (HE2.out)⟩
  cases hD : doorB ds x t
  case false =>
    rw [hD] at cD
    have HF : Hid (canMoveB H ds ps gs ⟨j, t, f, s⟩ = false) := by unfold Hid canMoveB goB hasDoorB; simp only [Int.toNat_natCast, Bool.and_false, Bool.false_and, hX, hD]
    clear hP hH hO hT hX hD
    go_enter Tryd.func97, Tryd.ntmps97
    go_wp2_with fail
    rw [← Hwb.out]
    refine cP.out.mono ?_
    rintro e w1 ⟨rfl, he1⟩
    have HE1 := Lib.hid he1
    have a0 := (HE1.out.cellAt (w.heap.size) (by omega) (0)).trans Ha0.out
    have a1 := (HE1.out.cellAt (w.heap.size) (by omega) (1)).trans Ha1.out
    have b0 := (HE1.out.cellAt (w.heap.size + 1) (by omega) (0)).trans Hb0.out
    have b1 := (HE1.out.cellAt (w.heap.size + 1) (by omega) (1)).trans Hb1.out
    have b2 := (HE1.out.cellAt (w.heap.size + 1) (by omega) (2)).trans Hb2.out
    have b3 := (HE1.out.cellAt (w.heap.size + 1) (by omega) (3)).trans Hb3.out
    have q0 := (HE1.out.cellAt (bp) (by omega) (offp + j)).trans Hq0.out
    clear he1
    go_wp2_with fail
    refine (cH.out w1 (HE1.out)).mono ?_
    rintro e w2 ⟨rfl, he2⟩
    have HE2 := Lib.hid (Ext.trans (HE1.out) he2)
    clear a0 a1 b0 b1 b2 b3 he2
    have a0 := (HE2.out.cellAt (w.heap.size) (by omega) (0)).trans Ha0.out
    have a1 := (HE2.out.cellAt (w.heap.size) (by omega) (1)).trans Ha1.out
    have b0 := (HE2.out.cellAt (w.heap.size + 1) (by omega) (0)).trans Hb0.out
    have b1 := (HE2.out.cellAt (w.heap.size + 1) (by omega) (1)).trans Hb1.out
    have b2 := (HE2.out.cellAt (w.heap.size + 1) (by omega) (2)).trans Hb2.out
    have b3 := (HE2.out.cellAt (w.heap.size + 1) (by omega) (3)).trans Hb3.out
    have q0 := (HE2.out.cellAt (bp) (by omega) (offp + j)).trans Hq0.out
    go_wp2_with (go_at_call 72; first | (with_reducible refine (cO.out _).mono ?_; rintro e w9 ⟨rfl, rfl⟩) | (with_reducible refine (cT.out _).mono ?_; rintro e w9 ⟨rfl, rfl⟩) | (with_reducible refine (cF.out _).mono ?_; rintro e w9 ⟨rfl, rfl⟩) | (with_reducible refine (cS.out _).mono ?_; rintro e w9 ⟨rfl, rfl⟩))
    refine (cD.out w2 (HE2.out)).mono ?_
    rintro e w3 ⟨rfl, he3⟩
    have HE3 := Lib.hid (Ext.trans (HE2.out) he3)
    clear a0 a1 b0 b1 b2 b3 he3
    have a0 := (HE3.out.cellAt (w.heap.size) (by omega) (0)).trans Ha0.out
    have a1 := (HE3.out.cellAt (w.heap.size) (by omega) (1)).trans Ha1.out
    have b0 := (HE3.out.cellAt (w.heap.size + 1) (by omega) (0)).trans Hb0.out
    have b1 := (HE3.out.cellAt (w.heap.size + 1) (by omega) (1)).trans Hb1.out
    have b2 := (HE3.out.cellAt (w.heap.size + 1) (by omega) (2)).trans Hb2.out
    have b3 := (HE3.out.cellAt (w.heap.size + 1) (by omega) (3)).trans Hb3.out
    have q0 := (HE3.out.cellAt (bp) (by omega) (offp + j)).trans Hq0.out
    go_wp2_with (go_at_call 72; first | (with_reducible refine (cO.out _).mono ?_; rintro e w9 ⟨rfl, rfl⟩) | (with_reducible refine (cT.out _).mono ?_; rintro e w9 ⟨rfl, rfl⟩) | (with_reducible refine (cF.out _).mono ?_; rintro e w9 ⟨rfl, rfl⟩) | (with_reducible refine (cS.out _).mono ?_; rintro e w9 ⟨rfl, rfl⟩))
    go_ret
    exact ⟨ret_bool HF.out.symm, HE.out.trans (HE3.out)⟩
  rw [hD] at cD
  cases hE : (f == s)
  case true =>
    have hEq : f = s := by simpa using hE
    have HF : Hid (canMoveB H ds ps gs ⟨j, t, f, s⟩ = false) := by unfold Hid canMoveB goB hasDoorB; simp [hEq]
    clear hP hH hO hT hX hD hEq
    go_enter Tryd.func97, Tryd.ntmps97
    go_wp2_with fail
    rw [← Hwb.out]
    refine cP.out.mono ?_
    rintro e w1 ⟨rfl, he1⟩
    have HE1 := Lib.hid he1
    have a0 := (HE1.out.cellAt (w.heap.size) (by omega) (0)).trans Ha0.out
    have a1 := (HE1.out.cellAt (w.heap.size) (by omega) (1)).trans Ha1.out
    have b0 := (HE1.out.cellAt (w.heap.size + 1) (by omega) (0)).trans Hb0.out
    have b1 := (HE1.out.cellAt (w.heap.size + 1) (by omega) (1)).trans Hb1.out
    have b2 := (HE1.out.cellAt (w.heap.size + 1) (by omega) (2)).trans Hb2.out
    have b3 := (HE1.out.cellAt (w.heap.size + 1) (by omega) (3)).trans Hb3.out
    have q0 := (HE1.out.cellAt (bp) (by omega) (offp + j)).trans Hq0.out
    clear he1
    go_wp2_with fail
    refine (cH.out w1 (HE1.out)).mono ?_
    rintro e w2 ⟨rfl, he2⟩
    have HE2 := Lib.hid (Ext.trans (HE1.out) he2)
    clear a0 a1 b0 b1 b2 b3 he2
    have a0 := (HE2.out.cellAt (w.heap.size) (by omega) (0)).trans Ha0.out
    have a1 := (HE2.out.cellAt (w.heap.size) (by omega) (1)).trans Ha1.out
    have b0 := (HE2.out.cellAt (w.heap.size + 1) (by omega) (0)).trans Hb0.out
    have b1 := (HE2.out.cellAt (w.heap.size + 1) (by omega) (1)).trans Hb1.out
    have b2 := (HE2.out.cellAt (w.heap.size + 1) (by omega) (2)).trans Hb2.out
    have b3 := (HE2.out.cellAt (w.heap.size + 1) (by omega) (3)).trans Hb3.out
    have q0 := (HE2.out.cellAt (bp) (by omega) (offp + j)).trans Hq0.out
    go_wp2_with (go_at_call 72; first | (with_reducible refine (cO.out _).mono ?_; rintro e w9 ⟨rfl, rfl⟩) | (with_reducible refine (cT.out _).mono ?_; rintro e w9 ⟨rfl, rfl⟩) | (with_reducible refine (cF.out _).mono ?_; rintro e w9 ⟨rfl, rfl⟩) | (with_reducible refine (cS.out _).mono ?_; rintro e w9 ⟨rfl, rfl⟩))
    refine (cD.out w2 (HE2.out)).mono ?_
    rintro e w3 ⟨rfl, he3⟩
    have HE3 := Lib.hid (Ext.trans (HE2.out) he3)
    clear a0 a1 b0 b1 b2 b3 he3
    have a0 := (HE3.out.cellAt (w.heap.size) (by omega) (0)).trans Ha0.out
    have a1 := (HE3.out.cellAt (w.heap.size) (by omega) (1)).trans Ha1.out
    have b0 := (HE3.out.cellAt (w.heap.size + 1) (by omega) (0)).trans Hb0.out
    have b1 := (HE3.out.cellAt (w.heap.size + 1) (by omega) (1)).trans Hb1.out
    have b2 := (HE3.out.cellAt (w.heap.size + 1) (by omega) (2)).trans Hb2.out
    have b3 := (HE3.out.cellAt (w.heap.size + 1) (by omega) (3)).trans Hb3.out
    have q0 := (HE3.out.cellAt (bp) (by omega) (offp + j)).trans Hq0.out
    go_wp2_with (go_at_call 72; first | (with_reducible refine (cO.out _).mono ?_; rintro e w9 ⟨rfl, rfl⟩) | (with_reducible refine (cT.out _).mono ?_; rintro e w9 ⟨rfl, rfl⟩) | (with_reducible refine (cF.out _).mono ?_; rintro e w9 ⟨rfl, rfl⟩) | (with_reducible refine (cS.out _).mono ?_; rintro e w9 ⟨rfl, rfl⟩))
    go_ret
    exact ⟨ret_bool HF.out.symm, HE.out.trans (HE3.out)⟩
  cases hF : inB f 0 ((n2 : Int) - 1)
  case false =>
    rw [hF] at cF
    have HF : Hid (canMoveB H ds ps gs ⟨j, t, f, s⟩ = false) := by unfold Hid canMoveB goB hasDoorB; simp [hl2.out, hF]
    clear hP hH hO hT hX hD hF
    go_enter Tryd.func97, Tryd.ntmps97
    go_wp2_with fail
    rw [← Hwb.out]
    refine cP.out.mono ?_
    rintro e w1 ⟨rfl, he1⟩
    have HE1 := Lib.hid he1
    have a0 := (HE1.out.cellAt (w.heap.size) (by omega) (0)).trans Ha0.out
    have a1 := (HE1.out.cellAt (w.heap.size) (by omega) (1)).trans Ha1.out
    have b0 := (HE1.out.cellAt (w.heap.size + 1) (by omega) (0)).trans Hb0.out
    have b1 := (HE1.out.cellAt (w.heap.size + 1) (by omega) (1)).trans Hb1.out
    have b2 := (HE1.out.cellAt (w.heap.size + 1) (by omega) (2)).trans Hb2.out
    have b3 := (HE1.out.cellAt (w.heap.size + 1) (by omega) (3)).trans Hb3.out
    have q0 := (HE1.out.cellAt (bp) (by omega) (offp + j)).trans Hq0.out
    clear he1
    go_wp2_with fail
    refine (cH.out w1 (HE1.out)).mono ?_
    rintro e w2 ⟨rfl, he2⟩
    have HE2 := Lib.hid (Ext.trans (HE1.out) he2)
    clear a0 a1 b0 b1 b2 b3 he2
    have a0 := (HE2.out.cellAt (w.heap.size) (by omega) (0)).trans Ha0.out
    have a1 := (HE2.out.cellAt (w.heap.size) (by omega) (1)).trans Ha1.out
    have b0 := (HE2.out.cellAt (w.heap.size + 1) (by omega) (0)).trans Hb0.out
    have b1 := (HE2.out.cellAt (w.heap.size + 1) (by omega) (1)).trans Hb1.out
    have b2 := (HE2.out.cellAt (w.heap.size + 1) (by omega) (2)).trans Hb2.out
    have b3 := (HE2.out.cellAt (w.heap.size + 1) (by omega) (3)).trans Hb3.out
    have q0 := (HE2.out.cellAt (bp) (by omega) (offp + j)).trans Hq0.out
    go_wp2_with (go_at_call 72; first | (with_reducible refine (cO.out _).mono ?_; rintro e w9 ⟨rfl, rfl⟩) | (with_reducible refine (cT.out _).mono ?_; rintro e w9 ⟨rfl, rfl⟩) | (with_reducible refine (cF.out _).mono ?_; rintro e w9 ⟨rfl, rfl⟩) | (with_reducible refine (cS.out _).mono ?_; rintro e w9 ⟨rfl, rfl⟩))
    refine (cD.out w2 (HE2.out)).mono ?_
    rintro e w3 ⟨rfl, he3⟩
    have HE3 := Lib.hid (Ext.trans (HE2.out) he3)
    clear a0 a1 b0 b1 b2 b3 he3
    have a0 := (HE3.out.cellAt (w.heap.size) (by omega) (0)).trans Ha0.out
    have a1 := (HE3.out.cellAt (w.heap.size) (by omega) (1)).trans Ha1.out
    have b0 := (HE3.out.cellAt (w.heap.size + 1) (by omega) (0)).trans Hb0.out
    have b1 := (HE3.out.cellAt (w.heap.size + 1) (by omega) (1)).trans Hb1.out
    have b2 := (HE3.out.cellAt (w.heap.size + 1) (by omega) (2)).trans Hb2.out
    have b3 := (HE3.out.cellAt (w.heap.size + 1) (by omega) (3)).trans Hb3.out
    have q0 := (HE3.out.cellAt (bp) (by omega) (offp + j)).trans Hq0.out
    go_wp2_with (go_at_call 72; first | (with_reducible refine (cO.out _).mono ?_; rintro e w9 ⟨rfl, rfl⟩) | (with_reducible refine (cT.out _).mono ?_; rintro e w9 ⟨rfl, rfl⟩) | (with_reducible refine (cF.out _).mono ?_; rintro e w9 ⟨rfl, rfl⟩) | (with_reducible refine (cS.out _).mono ?_; rintro e w9 ⟨rfl, rfl⟩))
    go_ret
    exact ⟨ret_bool HF.out.symm, HE.out.trans (HE3.out)⟩
  rw [hF] at cF
  cases hS : inB s 0 ((n2 : Int) - 1)
  case false =>
    rw [hS] at cS
    have HF : Hid (canMoveB H ds ps gs ⟨j, t, f, s⟩ = false) := by unfold Hid canMoveB goB hasDoorB; simp [hl2.out, hS]
    clear hP hH hO hT hX hD hF hS
    go_enter Tryd.func97, Tryd.ntmps97
    go_wp2_with fail
    rw [← Hwb.out]
    refine cP.out.mono ?_
    rintro e w1 ⟨rfl, he1⟩
    have HE1 := Lib.hid he1
    have a0 := (HE1.out.cellAt (w.heap.size) (by omega) (0)).trans Ha0.out
    have a1 := (HE1.out.cellAt (w.heap.size) (by omega) (1)).trans Ha1.out
    have b0 := (HE1.out.cellAt (w.heap.size + 1) (by omega) (0)).trans Hb0.out
    have b1 := (HE1.out.cellAt (w.heap.size + 1) (by omega) (1)).trans Hb1.out
    have b2 := (HE1.out.cellAt (w.heap.size + 1) (by omega) (2)).trans Hb2.out
    have b3 := (HE1.out.cellAt (w.heap.size + 1) (by omega) (3)).trans Hb3.out
    have q0 := (HE1.out.cellAt (bp) (by omega) (offp + j)).trans Hq0.out
    clear he1
    go_wp2_with fail
    refine (cH.out w1 (HE1.out)).mono ?_
    rintro e w2 ⟨rfl, he2⟩
    have HE2 := Lib.hid (Ext.trans (HE1.out) he2)
    clear a0 a1 b0 b1 b2 b3 he2
    have a0 := (HE2.out.cellAt (w.heap.size) (by omega) (0)).trans Ha0.out
    have a1 := (HE2.out.cellAt (w.heap.size) (by omega) (1)).trans Ha1.out
    have b0 := (HE2.out.cellAt (w.heap.size + 1) (by omega) (0)).trans Hb0.out
    have b1 := (HE2.out.cellAt (w.heap.size + 1) (by omega) (1)).trans Hb1.out
    have b2 := (HE2.out.cellAt (w.heap.size + 1) (by omega) (2)).trans Hb2.out
    have b3 := (HE2.out.cellAt (w.heap.size + 1) (by omega) (3)).trans Hb3.out
    have q0 := (HE2.out.cellAt (bp) (by omega) (offp + j)).trans Hq0.out
    go_wp2_with (go_at_call 72; first | (with_reducible refine (cO.out _).mono ?_; rintro e w9 ⟨rfl, rfl⟩) | (with_reducible refine (cT.out _).mono ?_; rintro e w9 ⟨rfl, rfl⟩) | (with_reducible refine (cF.out _).mono ?_; rintro e w9 ⟨rfl, rfl⟩) | (with_reducible refine (cS.out _).mono ?_; rintro e w9 ⟨rfl, rfl⟩))
    refine (cD.out w2 (HE2.out)).mono ?_
    rintro e w3 ⟨rfl, he3⟩
    have HE3 := Lib.hid (Ext.trans (HE2.out) he3)
    clear a0 a1 b0 b1 b2 b3 he3
    have a0 := (HE3.out.cellAt (w.heap.size) (by omega) (0)).trans Ha0.out
    have a1 := (HE3.out.cellAt (w.heap.size) (by omega) (1)).trans Ha1.out
    have b0 := (HE3.out.cellAt (w.heap.size + 1) (by omega) (0)).trans Hb0.out
    have b1 := (HE3.out.cellAt (w.heap.size + 1) (by omega) (1)).trans Hb1.out
    have b2 := (HE3.out.cellAt (w.heap.size + 1) (by omega) (2)).trans Hb2.out
    have b3 := (HE3.out.cellAt (w.heap.size + 1) (by omega) (3)).trans Hb3.out
    have q0 := (HE3.out.cellAt (bp) (by omega) (offp + j)).trans Hq0.out
    go_wp2_with (go_at_call 72; first | (with_reducible refine (cO.out _).mono ?_; rintro e w9 ⟨rfl, rfl⟩) | (with_reducible refine (cT.out _).mono ?_; rintro e w9 ⟨rfl, rfl⟩) | (with_reducible refine (cF.out _).mono ?_; rintro e w9 ⟨rfl, rfl⟩) | (with_reducible refine (cS.out _).mono ?_; rintro e w9 ⟨rfl, rfl⟩))
    go_ret
    exact ⟨ret_bool HF.out.symm, HE.out.trans (HE3.out)⟩
  rw [hS] at cS
  have hne : (f != s) = true := by simp at hE; simp [hE]
  have hh : houseB H ds = true := hallsB_house hH
  have HV : Hid (canMoveB H ds ps gs ⟨j, t, f, s⟩ = (nearB gs ps ⟨j, t, f, s⟩ f && nearB gs ps ⟨j, t, f, s⟩ s)) := by unfold Hid canMoveB goB hasDoorB hallB; simp only [hP, hH, hh, hl1.out, hl2.out, hO, hT, Int.toNat_natCast, hX, hD, decide_eq_true h6, hF, hS, hne, Bool.true_and]
  have hfs : 0 ≤ f ∧ f ≤ (n2 : Int) - 1 := by simpa [inB] using hF
  have hss : 0 ≤ s ∧ s ≤ (n2 : Int) - 1 := by simpa [inB] using hS
  obtain ⟨kf, rfl⟩ := Int.eq_ofNat_of_zero_le hfs.1
  obtain ⟨ks, rfl⟩ := Int.eq_ofNat_of_zero_le hss.1
  have hkf : kf < n2 := by omega
  have hks : ks < n2 := by omega
  obtain ⟨bg, offg, gf, rfl, hbg, hgf, qf⟩ := ienc_at hxb2.out hkf
  obtain ⟨bg', offg', gk, hAg, hbg', hgk, qs⟩ := ienc_at hxb2.out hks
  obtain ⟨rfl, rfl⟩ : bg' = bg ∧ offg' = offg := by simp at hAg; exact ⟨hAg.1.symm, hAg.2.symm⟩
  have HQf := Lib.hid (fun w1 (he : Ext wb w1) => (he.cellAt _ (by omega) _).trans qf)
  have HQs := Lib.hid (fun w1 (he : Ext wb w1) => (he.cellAt _ (by omega) _).trans qs)
  have hNf : nearB gs ps ⟨j, t, kf, ks⟩ kf = ((gf == x) || (gf == t)) := by unfold nearB; simp only [Int.toNat_natCast, hX, getD_of' hgf]
  have hNs : nearB gs ps ⟨j, t, kf, ks⟩ ks = ((gk == x) || (gk == t)) := by unfold nearB; simp only [Int.toNat_natCast, hX, getD_of' hgk]
  have cN1 := Lib.hid (fun W => spec_l35Near gf x t W)
  have cN2 := Lib.hid (fun W => spec_l35Near gk x t W)
  rw [hNf, hNs] at HV
  clear hfs hss hne hh hP hH hO hT hX hD hF hS hNf hNs hgf hgk qf qs hAg
  cases hN : ((gf == x) || (gf == t))
  case false =>
    rw [hN] at cN1
    have HF : Hid (canMoveB H ds ps gs ⟨j, t, kf, ks⟩ = false) := by unfold Hid; rw [HV.out, hN]; rfl
    clear hN
    go_enter Tryd.func97, Tryd.ntmps97
    go_wp2_with fail
    rw [← Hwb.out]
    refine cP.out.mono ?_
    rintro e w1 ⟨rfl, he1⟩
    have HE1 := Lib.hid he1
    have a0 := (HE1.out.cellAt (w.heap.size) (by omega) (0)).trans Ha0.out
    have a1 := (HE1.out.cellAt (w.heap.size) (by omega) (1)).trans Ha1.out
    have b0 := (HE1.out.cellAt (w.heap.size + 1) (by omega) (0)).trans Hb0.out
    have b1 := (HE1.out.cellAt (w.heap.size + 1) (by omega) (1)).trans Hb1.out
    have b2 := (HE1.out.cellAt (w.heap.size + 1) (by omega) (2)).trans Hb2.out
    have b3 := (HE1.out.cellAt (w.heap.size + 1) (by omega) (3)).trans Hb3.out
    have q0 := (HE1.out.cellAt (bp) (by omega) (offp + j)).trans Hq0.out
    clear he1
    go_wp2_with fail
    refine (cH.out w1 (HE1.out)).mono ?_
    rintro e w2 ⟨rfl, he2⟩
    have HE2 := Lib.hid (Ext.trans (HE1.out) he2)
    clear a0 a1 b0 b1 b2 b3 he2
    have a0 := (HE2.out.cellAt (w.heap.size) (by omega) (0)).trans Ha0.out
    have a1 := (HE2.out.cellAt (w.heap.size) (by omega) (1)).trans Ha1.out
    have b0 := (HE2.out.cellAt (w.heap.size + 1) (by omega) (0)).trans Hb0.out
    have b1 := (HE2.out.cellAt (w.heap.size + 1) (by omega) (1)).trans Hb1.out
    have b2 := (HE2.out.cellAt (w.heap.size + 1) (by omega) (2)).trans Hb2.out
    have b3 := (HE2.out.cellAt (w.heap.size + 1) (by omega) (3)).trans Hb3.out
    have q0 := (HE2.out.cellAt (bp) (by omega) (offp + j)).trans Hq0.out
    go_wp2_with (go_at_call 72; first | (with_reducible refine (cO.out _).mono ?_; rintro e w9 ⟨rfl, rfl⟩) | (with_reducible refine (cT.out _).mono ?_; rintro e w9 ⟨rfl, rfl⟩) | (with_reducible refine (cF.out _).mono ?_; rintro e w9 ⟨rfl, rfl⟩) | (with_reducible refine (cS.out _).mono ?_; rintro e w9 ⟨rfl, rfl⟩))
    refine (cD.out w2 (HE2.out)).mono ?_
    rintro e w3 ⟨rfl, he3⟩
    have HE3 := Lib.hid (Ext.trans (HE2.out) he3)
    clear a0 a1 b0 b1 b2 b3 he3
    have a0 := (HE3.out.cellAt (w.heap.size) (by omega) (0)).trans Ha0.out
    have a1 := (HE3.out.cellAt (w.heap.size) (by omega) (1)).trans Ha1.out
    have b0 := (HE3.out.cellAt (w.heap.size + 1) (by omega) (0)).trans Hb0.out
    have b1 := (HE3.out.cellAt (w.heap.size + 1) (by omega) (1)).trans Hb1.out
    have b2 := (HE3.out.cellAt (w.heap.size + 1) (by omega) (2)).trans Hb2.out
    have b3 := (HE3.out.cellAt (w.heap.size + 1) (by omega) (3)).trans Hb3.out
    have q0 := (HE3.out.cellAt (bp) (by omega) (offp + j)).trans Hq0.out
    go_wp2_with (go_at_call 72; first | (with_reducible refine (cO.out _).mono ?_; rintro e w9 ⟨rfl, rfl⟩) | (with_reducible refine (cT.out _).mono ?_; rintro e w9 ⟨rfl, rfl⟩) | (with_reducible refine (cF.out _).mono ?_; rintro e w9 ⟨rfl, rfl⟩) | (with_reducible refine (cS.out _).mono ?_; rintro e w9 ⟨rfl, rfl⟩))
    have e1 := cell_regrown b1
    have e2 := cell_regrown b2
    have e3 := cell_regrown b3
    have e4 := cell_regrown (HQf.out w3 (HE3.out))
    have e5 := cell_regrown (HQs.out w3 (HE3.out))
    (refine wp_region_ext (by kernel_rfl) (by kernel_rfl) ?_; (repeat (go_big_quiet_step (first | (go_at_call 48; with_reducible exact Calls.rg0 (cN1.out _)) | (go_at_call 48; with_reducible exact Calls.rg0 (cN2.out _))))); refine wpQuiet_nil ?_)
    intro w4 hb4
    have HE4 := Lib.hid (Ext.trans (HE3.out) hb4)
    go_wp2_with fail
    go_ret
    exact ⟨ret_bool HF.out.symm, HE.out.trans (HE4.out)⟩
  rw [hN] at cN1
  cases hM : ((gk == x) || (gk == t))
  case false =>
    rw [hM] at cN2
    have HF : Hid (canMoveB H ds ps gs ⟨j, t, kf, ks⟩ = false) := by unfold Hid; rw [HV.out, hN, hM]; rfl
    clear hN hM
    go_enter Tryd.func97, Tryd.ntmps97
    go_wp2_with fail
    rw [← Hwb.out]
    refine cP.out.mono ?_
    rintro e w1 ⟨rfl, he1⟩
    have HE1 := Lib.hid he1
    have a0 := (HE1.out.cellAt (w.heap.size) (by omega) (0)).trans Ha0.out
    have a1 := (HE1.out.cellAt (w.heap.size) (by omega) (1)).trans Ha1.out
    have b0 := (HE1.out.cellAt (w.heap.size + 1) (by omega) (0)).trans Hb0.out
    have b1 := (HE1.out.cellAt (w.heap.size + 1) (by omega) (1)).trans Hb1.out
    have b2 := (HE1.out.cellAt (w.heap.size + 1) (by omega) (2)).trans Hb2.out
    have b3 := (HE1.out.cellAt (w.heap.size + 1) (by omega) (3)).trans Hb3.out
    have q0 := (HE1.out.cellAt (bp) (by omega) (offp + j)).trans Hq0.out
    clear he1
    go_wp2_with fail
    refine (cH.out w1 (HE1.out)).mono ?_
    rintro e w2 ⟨rfl, he2⟩
    have HE2 := Lib.hid (Ext.trans (HE1.out) he2)
    clear a0 a1 b0 b1 b2 b3 he2
    have a0 := (HE2.out.cellAt (w.heap.size) (by omega) (0)).trans Ha0.out
    have a1 := (HE2.out.cellAt (w.heap.size) (by omega) (1)).trans Ha1.out
    have b0 := (HE2.out.cellAt (w.heap.size + 1) (by omega) (0)).trans Hb0.out
    have b1 := (HE2.out.cellAt (w.heap.size + 1) (by omega) (1)).trans Hb1.out
    have b2 := (HE2.out.cellAt (w.heap.size + 1) (by omega) (2)).trans Hb2.out
    have b3 := (HE2.out.cellAt (w.heap.size + 1) (by omega) (3)).trans Hb3.out
    have q0 := (HE2.out.cellAt (bp) (by omega) (offp + j)).trans Hq0.out
    go_wp2_with (go_at_call 72; first | (with_reducible refine (cO.out _).mono ?_; rintro e w9 ⟨rfl, rfl⟩) | (with_reducible refine (cT.out _).mono ?_; rintro e w9 ⟨rfl, rfl⟩) | (with_reducible refine (cF.out _).mono ?_; rintro e w9 ⟨rfl, rfl⟩) | (with_reducible refine (cS.out _).mono ?_; rintro e w9 ⟨rfl, rfl⟩))
    refine (cD.out w2 (HE2.out)).mono ?_
    rintro e w3 ⟨rfl, he3⟩
    have HE3 := Lib.hid (Ext.trans (HE2.out) he3)
    clear a0 a1 b0 b1 b2 b3 he3
    have a0 := (HE3.out.cellAt (w.heap.size) (by omega) (0)).trans Ha0.out
    have a1 := (HE3.out.cellAt (w.heap.size) (by omega) (1)).trans Ha1.out
    have b0 := (HE3.out.cellAt (w.heap.size + 1) (by omega) (0)).trans Hb0.out
    have b1 := (HE3.out.cellAt (w.heap.size + 1) (by omega) (1)).trans Hb1.out
    have b2 := (HE3.out.cellAt (w.heap.size + 1) (by omega) (2)).trans Hb2.out
    have b3 := (HE3.out.cellAt (w.heap.size + 1) (by omega) (3)).trans Hb3.out
    have q0 := (HE3.out.cellAt (bp) (by omega) (offp + j)).trans Hq0.out
    go_wp2_with (go_at_call 72; first | (with_reducible refine (cO.out _).mono ?_; rintro e w9 ⟨rfl, rfl⟩) | (with_reducible refine (cT.out _).mono ?_; rintro e w9 ⟨rfl, rfl⟩) | (with_reducible refine (cF.out _).mono ?_; rintro e w9 ⟨rfl, rfl⟩) | (with_reducible refine (cS.out _).mono ?_; rintro e w9 ⟨rfl, rfl⟩))
    have e1 := cell_regrown b1
    have e2 := cell_regrown b2
    have e3 := cell_regrown b3
    have e4 := cell_regrown (HQf.out w3 (HE3.out))
    have e5 := cell_regrown (HQs.out w3 (HE3.out))
    (refine wp_region_ext (by kernel_rfl) (by kernel_rfl) ?_; (repeat (go_big_quiet_step (first | (go_at_call 48; with_reducible exact Calls.rg0 (cN1.out _)) | (go_at_call 48; with_reducible exact Calls.rg0 (cN2.out _))))); refine wpQuiet_nil ?_)
    intro w4 hb4
    have HE4 := Lib.hid (Ext.trans (HE3.out) hb4)
    go_wp2_with fail
    go_ret
    exact ⟨ret_bool HF.out.symm, HE.out.trans (HE4.out)⟩
  case true =>
    rw [hM] at cN2
    have HF : Hid (canMoveB H ds ps gs ⟨j, t, kf, ks⟩ = true) := by unfold Hid; rw [HV.out, hN, hM]; rfl
    clear hN hM
    go_enter Tryd.func97, Tryd.ntmps97
    go_wp2_with fail
    rw [← Hwb.out]
    refine cP.out.mono ?_
    rintro e w1 ⟨rfl, he1⟩
    have HE1 := Lib.hid he1
    have a0 := (HE1.out.cellAt (w.heap.size) (by omega) (0)).trans Ha0.out
    have a1 := (HE1.out.cellAt (w.heap.size) (by omega) (1)).trans Ha1.out
    have b0 := (HE1.out.cellAt (w.heap.size + 1) (by omega) (0)).trans Hb0.out
    have b1 := (HE1.out.cellAt (w.heap.size + 1) (by omega) (1)).trans Hb1.out
    have b2 := (HE1.out.cellAt (w.heap.size + 1) (by omega) (2)).trans Hb2.out
    have b3 := (HE1.out.cellAt (w.heap.size + 1) (by omega) (3)).trans Hb3.out
    have q0 := (HE1.out.cellAt (bp) (by omega) (offp + j)).trans Hq0.out
    clear he1
    go_wp2_with fail
    refine (cH.out w1 (HE1.out)).mono ?_
    rintro e w2 ⟨rfl, he2⟩
    have HE2 := Lib.hid (Ext.trans (HE1.out) he2)
    clear a0 a1 b0 b1 b2 b3 he2
    have a0 := (HE2.out.cellAt (w.heap.size) (by omega) (0)).trans Ha0.out
    have a1 := (HE2.out.cellAt (w.heap.size) (by omega) (1)).trans Ha1.out
    have b0 := (HE2.out.cellAt (w.heap.size + 1) (by omega) (0)).trans Hb0.out
    have b1 := (HE2.out.cellAt (w.heap.size + 1) (by omega) (1)).trans Hb1.out
    have b2 := (HE2.out.cellAt (w.heap.size + 1) (by omega) (2)).trans Hb2.out
    have b3 := (HE2.out.cellAt (w.heap.size + 1) (by omega) (3)).trans Hb3.out
    have q0 := (HE2.out.cellAt (bp) (by omega) (offp + j)).trans Hq0.out
    go_wp2_with (go_at_call 72; first | (with_reducible refine (cO.out _).mono ?_; rintro e w9 ⟨rfl, rfl⟩) | (with_reducible refine (cT.out _).mono ?_; rintro e w9 ⟨rfl, rfl⟩) | (with_reducible refine (cF.out _).mono ?_; rintro e w9 ⟨rfl, rfl⟩) | (with_reducible refine (cS.out _).mono ?_; rintro e w9 ⟨rfl, rfl⟩))
    refine (cD.out w2 (HE2.out)).mono ?_
    rintro e w3 ⟨rfl, he3⟩
    have HE3 := Lib.hid (Ext.trans (HE2.out) he3)
    clear a0 a1 b0 b1 b2 b3 he3
    have a0 := (HE3.out.cellAt (w.heap.size) (by omega) (0)).trans Ha0.out
    have a1 := (HE3.out.cellAt (w.heap.size) (by omega) (1)).trans Ha1.out
    have b0 := (HE3.out.cellAt (w.heap.size + 1) (by omega) (0)).trans Hb0.out
    have b1 := (HE3.out.cellAt (w.heap.size + 1) (by omega) (1)).trans Hb1.out
    have b2 := (HE3.out.cellAt (w.heap.size + 1) (by omega) (2)).trans Hb2.out
    have b3 := (HE3.out.cellAt (w.heap.size + 1) (by omega) (3)).trans Hb3.out
    have q0 := (HE3.out.cellAt (bp) (by omega) (offp + j)).trans Hq0.out
    go_wp2_with (go_at_call 72; first | (with_reducible refine (cO.out _).mono ?_; rintro e w9 ⟨rfl, rfl⟩) | (with_reducible refine (cT.out _).mono ?_; rintro e w9 ⟨rfl, rfl⟩) | (with_reducible refine (cF.out _).mono ?_; rintro e w9 ⟨rfl, rfl⟩) | (with_reducible refine (cS.out _).mono ?_; rintro e w9 ⟨rfl, rfl⟩))
    have e1 := cell_regrown b1
    have e2 := cell_regrown b2
    have e3 := cell_regrown b3
    have e4 := cell_regrown (HQf.out w3 (HE3.out))
    have e5 := cell_regrown (HQs.out w3 (HE3.out))
    (refine wp_region_ext (by kernel_rfl) (by kernel_rfl) ?_; (repeat (go_big_quiet_step (first | (go_at_call 48; with_reducible exact Calls.rg0 (cN1.out _)) | (go_at_call 48; with_reducible exact Calls.rg0 (cN2.out _))))); refine wpQuiet_nil ?_)
    intro w4 hb4
    have HE4 := Lib.hid (Ext.trans (HE3.out) hb4)
    go_wp2_with fail
    go_ret
    exact ⟨ret_bool HF.out.symm, HE.out.trans (HE4.out)⟩
end Go.Proofs.YtfhibjehnoibeaaDoor
/- Contracts of MoveObject and l35Copy; no condition but what stands at each theorem. -/
namespace Go.Proofs.YtfhibjehnoibeaaDoor
set_option linter.unusedSimpArgs false
set_option linter.unusedVariables false
open Go.RowKit Go.Sort
/-- A list and whether. -/
def ListBool (L : List Int) (b : Bool) (w : World) (e : Ending) (w' : World) : Prop := ∃ v, e = .returned (.tuple #[v, .bool b]) ∧ Ext w w' ∧ w'.ownsRow w.heap.size 3 1 v L.length (L.flatMap ienc)
def moveL (H : Int) (ds : List GDoor) (ps gs : List Int) (m : GMove) : List Int := if canMoveB H ds ps gs m then ps.set m.o.toNat m.t else ps
theorem own_set {w : World} {base n c g : Nat} {t : TypeId} {u : List Int} (h : w.ownsRow base t 1 (.slice (some ⟨g, 0, none⟩) n c) n (u.flatMap ienc)) (i : Nat) (x : Int) :
    (w.setCell ⟨g, i, none⟩ (.int .i64 x)).ownsRow base t 1 (.slice (some ⟨g, 0, none⟩) n c) n ((u.set i x).flatMap ienc) := by
  rcases own_block h with ⟨hA, _⟩ | ⟨g', cur, hA, hb, hblk, hnc, hcm, hcs, ht⟩
  · cases hA
  · injection hA with hA
    injection hA with hA
    subst hA
    refine ⟨?_, .inr ⟨g, c, _, rfl, hb, hblk.set i _, hnc, hcm, by simpa using hcs, ?_⟩⟩
    · have := h.1
      rw [ienc_map, List.length_map] at this ⊢
      simpa using this
    · rw [ienc_map] at ht ⊢
      rw [List.map_set, ← ht]
      simp [List.take_set]
theorem canMoveB_obj {H : Int} {ds : List GDoor} {ps gs : List Int} {m : GMove} (h : canMoveB H ds ps gs m = true) : 0 ≤ m.o ∧ m.o < ps.length := by
  simp only [canMoveB, goB, inB, Bool.and_eq_true, decide_eq_true_eq] at h
  have h1 := h.2.2.2.1.1
  omega
theorem spec_l35Copy (A : Option Addr) (n c : Nat) (xs : List Int) (w : World) (hx : Rd w 1 A n (xs.flatMap ienc)) (hnc : Hid (A = none → c = 0)) (hn : n ≤ 1048576) :
    Calls Tryd.prog 92 #[.slice A n c] w fun e w' => ∃ g c', e = .returned (.slice (some ⟨g, 0, none⟩) n c') ∧ Ext w w' ∧ w'.ownsRow w.heap.size 3 1 (.slice (some ⟨g, 0, none⟩) n c') n (xs.flatMap ienc) := by
  have HX := Lib.hid hx
  clear hx
  go_enter Tryd.func92, Tryd.ntmps92
  go_wp2_with (at_builtin; refine (fun h : Hid _ => h.out) ?_)
  unfold Hid
  refine appendRdN ei_I rfl _ _ rfl w.heap.size _ _ 0 [] (by rfl) (own_empty w w.heap.size 3 1 (Nat.le_refl _)) A n c (xs.flatMap ienc) (by rfl) (HX.out.alloc _) hnc.out (one_ienc _) (by omega) (by simp) (by intro h; cases h) ?_
  intro g c' w1
  rw [Nat.zero_add, List.nil_append]
  intro ho he
  have HO1 := Lib.hid ho
  have HE1 := Lib.hid (he w ((Ext.refl w).alloc _) (Nat.le_refl _))
  clear ho he
  go_wp2_with fail
  go_ret
  exact ⟨g, c', rfl, HE1.out, HO1.out⟩
set_option maxRecDepth 100000 in
set_option maxHeartbeats 2000000 in
theorem impl_MoveObject (H : Int) (A : Option Addr) (n c : Nat) (ds : List GDoor) (A1 : Option Addr) (n1 c1 : Nat) (ps : List Int) (A2 : Option Addr) (n2 c2 : Nat) (gs : List Int) (m : GMove) (w : World) (hx : Rd w 2 A n (ds.flatMap GDoor.enc)) (hx1 : Rd w 1 A1 n1 (ps.flatMap ienc)) (hx2 : Rd w 1 A2 n2 (gs.flatMap ienc)) (hnc : Hid (A1 = none → c1 = 0)) (hn1 : n1 ≤ 1048576) :
    Calls Tryd.prog 12 #[.agg #[.int .i64 H, .slice A n c], .slice A1 n1 c1, .slice A2 n2 c2, .agg #[.int .i64 m.o, .int .i64 m.t, .int .i64 m.f, .int .i64 m.s]] w (ListBool (moveL H ds ps gs m) (canMoveB H ds ps gs m) w) := by
  have hl1 := Lib.hid (hx1.len ienc_len (by omega))
  obtain ⟨wb, hwb⟩ : ∃ wb, wb = (w.alloc (.cells #[.int .i64 H, .slice A n c] 26)).alloc (.cells #[.int .i64 m.o, .int .i64 m.t, .int .i64 m.f, .int .i64 m.s] 41) := ⟨_, rfl⟩
  obtain ⟨hE, hsb, a0, a1, b0, b1, b2, b3⟩ := boxHM w _ _ _ _ _ _ _ _ wb hwb
  have HE := Lib.hid hE
  have Hwb := Lib.hid hwb
  have Ha0 := Lib.hid a0
  have Ha1 := Lib.hid a1
  have Hb0 := Lib.hid b0
  have Hb1 := Lib.hid b1
  have Hb2 := Lib.hid b2
  have Hb3 := Lib.hid b3
  have hxb := Lib.hid (hx.keep hE)
  have hxb1 := Lib.hid (hx1.keep hE)
  have hxb2 := Lib.hid (hx2.keep hE)
  clear hE hwb a0 a1 b0 b1 b2 b3 hx hx1 hx2
  go_enter Tryd.func12, Tryd.ntmps12
  go_wp2_with (at_builtin; refine (fun h : Hid _ => h.out) ?_)
  unfold Hid
  rw [← Hwb.out]
  refine appendRdN ei_I rfl _ _ rfl wb.heap.size _ _ 0 [] (by rw [hsb]; rfl) (own_empty wb wb.heap.size 3 1 (Nat.le_refl _)) A1 n1 c1 (ps.flatMap ienc) (by rfl) (hxb1.out.alloc _) hnc.out (one_ienc _) (by omega) (by simp) (by intro h; cases h) ?_
  intro g c' w1
  rw [Nat.zero_add, List.nil_append]
  intro ho he
  have HO1 := Lib.hid ho
  have HE1 := Lib.hid (he wb ((Ext.refl wb).alloc _) (Nat.le_refl _))
  clear ho he
  have cM := Lib.hid (impl_CanMove H A n c ds A1 n1 c1 ps A2 n2 c2 gs m w1 (hxb.out.keep HE1.out) (hxb1.out.keep HE1.out) (hxb2.out.keep HE1.out))
  have a0 := (HE1.out.cellAt (w.heap.size) (by omega) 0).trans Ha0.out
  have a1 := (HE1.out.cellAt (w.heap.size) (by omega) 1).trans Ha1.out
  have b0 := (HE1.out.cellAt (w.heap.size + 1) (by omega) 0).trans Hb0.out
  have b1 := (HE1.out.cellAt (w.heap.size + 1) (by omega) 1).trans Hb1.out
  have b2 := (HE1.out.cellAt (w.heap.size + 1) (by omega) 2).trans Hb2.out
  have b3 := (HE1.out.cellAt (w.heap.size + 1) (by omega) 3).trans Hb3.out
  cases hM : canMoveB H ds ps gs m
  case false =>
    rw [hM] at cM
    have HL : Hid (moveL H ds ps gs m = ps) := by unfold Hid moveL; rw [hM]; rfl
    have HM := Lib.hid hM
    clear hM
    go_wp2_with fail
    refine cM.out.mono ?_
    rintro e w2 ⟨rfl, he2⟩
    have HE2 := Lib.hid (Ext.trans HE1.out he2)
    have HO2 := Lib.hid (own_keep HO1.out he2)
    clear he2 a0 a1 b0 b1 b2 b3
    go_wp2_with fail
    go_ret2
    exact ⟨.slice (some ⟨g, 0, none⟩) n1 c', (by rw [HM.out]; rfl), HE.out.trans HE2.out, by rw [HL.out, hl1.out]; exact own_weak HO2.out (by omega)⟩
  case true =>
    rw [hM] at cM
    obtain ⟨ho0, ho1⟩ := canMoveB_obj hM
    obtain ⟨j, hj⟩ := Int.eq_ofNat_of_zero_le ho0
    have hjn : j < n1 := by (have := hl1.out; omega)
    have HL : Hid (moveL H ds ps gs m = ps.set j m.t) := by unfold Hid moveL; rw [hM, hj]; rfl
    rw [hj] at Hb0
    have HM := Lib.hid hM
    clear hM ho0 ho1 hsb hj
    have hsb : w.heap.size + 1 + 1 ≤ wb.heap.size := by rw [Hwb.out]; simp
    go_wp2_with fail
    refine cM.out.mono ?_
    rintro e w2 ⟨rfl, he2⟩
    have HE2 := Lib.hid (Ext.trans HE1.out he2)
    have ho2 := own_keep HO1.out he2
    obtain ⟨g', hg', hbg, hblk⟩ := PBlk.of_own ho2 (by omega)
    injection hg' with hg'
    injection hg' with hg'
    subst hg'
    have HO2 := Lib.hid ho2
    have q0 := hblk.cell (i := j) (by rw [hl1.out]; exact hjn)
    have q1 := hblk.free j
    have q2 := hblk.lt
    clear he2 a0 a1 b0 b1 b2 b3 hblk ho2
    have b0 := (HE2.out.cellAt (w.heap.size + 1) (by omega) 0).trans Hb0.out
    have b1 := (HE2.out.cellAt (w.heap.size + 1) (by omega) 1).trans Hb1.out
    go_wp2_with fail
    go_ret2
    exact ⟨.slice (some ⟨g, 0, none⟩) n1 c', (by rw [HM.out]; rfl), HE.out.trans (HE2.out.setCell hbg _), by rw [HL.out, List.length_set, hl1.out]; exact own_weak (own_set HO2.out j m.t) (by omega)⟩
set_option maxRecDepth 100000 in
set_option maxHeartbeats 2000000 in
theorem spec_MoveObject (H : Int) (A : Option Addr) (n c : Nat) (ds : List GDoor) (A1 : Option Addr) (n1 c1 : Nat) (ps : List Int) (A2 : Option Addr) (n2 c2 : Nat) (gs : List Int) (m : GMove) (w : World) (hx : Rd w 2 A n (ds.flatMap GDoor.enc)) (hx1 : Rd w 1 A1 n1 (ps.flatMap ienc)) (hx2 : Rd w 1 A2 n2 (gs.flatMap ienc)) (hnc : Hid (A1 = none → c1 = 0)) (hn1 : n1 ≤ 1048576) :
    Calls Tryd.prog 73 #[.agg #[.int .i64 H, .slice A n c], .slice A1 n1 c1, .slice A2 n2 c2, .agg #[.int .i64 m.o, .int .i64 m.t, .int .i64 m.f, .int .i64 m.s]] w (ListBool (moveL H ds ps gs m) (canMoveB H ds ps gs m) w) := by
  have hl1 := Lib.hid (hx1.len ienc_len (by omega))
  obtain ⟨wb, hwb⟩ : ∃ wb, wb = (w.alloc (.cells #[.int .i64 H, .slice A n c] 26)).alloc (.cells #[.int .i64 m.o, .int .i64 m.t, .int .i64 m.f, .int .i64 m.s] 41) := ⟨_, rfl⟩
  obtain ⟨hE, hsb, a0, a1, b0, b1, b2, b3⟩ := boxHM w _ _ _ _ _ _ _ _ wb hwb
  have HE := Lib.hid hE
  have Hwb := Lib.hid hwb
  have Ha0 := Lib.hid a0
  have Ha1 := Lib.hid a1
  have Hb0 := Lib.hid b0
  have Hb1 := Lib.hid b1
  have Hb2 := Lib.hid b2
  have Hb3 := Lib.hid b3
  have hxb := Lib.hid (hx.keep hE)
  have hxb1 := Lib.hid (hx1.keep hE)
  have hxb2 := Lib.hid (hx2.keep hE)
  clear hE hwb a0 a1 b0 b1 b2 b3 hx hx1 hx2
  go_enter Tryd.func73, Tryd.ntmps73
  go_wp2_with fail
  rw [← Hwb.out]
  refine (spec_l35Copy A1 n1 c1 ps wb hxb1.out hnc hn1).mono ?_
  rintro e w1 ⟨g, c', rfl, he, ho⟩
  have HO1 := Lib.hid ho
  have HE1 := Lib.hid he
  clear ho he
  have cM := Lib.hid (spec_CanMove H A n c ds A1 n1 c1 ps A2 n2 c2 gs m w1 (hxb.out.keep HE1.out) (hxb1.out.keep HE1.out) (hxb2.out.keep HE1.out))
  have a0 := (HE1.out.cellAt (w.heap.size) (by omega) 0).trans Ha0.out
  have a1 := (HE1.out.cellAt (w.heap.size) (by omega) 1).trans Ha1.out
  have b0 := (HE1.out.cellAt (w.heap.size + 1) (by omega) 0).trans Hb0.out
  have b1 := (HE1.out.cellAt (w.heap.size + 1) (by omega) 1).trans Hb1.out
  have b2 := (HE1.out.cellAt (w.heap.size + 1) (by omega) 2).trans Hb2.out
  have b3 := (HE1.out.cellAt (w.heap.size + 1) (by omega) 3).trans Hb3.out
  cases hM : canMoveB H ds ps gs m
  case false =>
    rw [hM] at cM
    have HL : Hid (moveL H ds ps gs m = ps) := by unfold Hid moveL; rw [hM]; rfl
    have HM := Lib.hid hM
    clear hM
    go_wp2_with fail
    refine cM.out.mono ?_
    rintro e w2 ⟨rfl, he2⟩
    have HE2 := Lib.hid (Ext.trans HE1.out he2)
    have HO2 := Lib.hid (own_keep HO1.out he2)
    clear he2 a0 a1 b0 b1 b2 b3
    go_wp2_with fail
    go_ret2
    exact ⟨.slice (some ⟨g, 0, none⟩) n1 c', (by rw [HM.out]; rfl), HE.out.trans HE2.out, by rw [HL.out, hl1.out]; exact own_weak HO2.out (by omega)⟩
  case true =>
    rw [hM] at cM
    obtain ⟨ho0, ho1⟩ := canMoveB_obj hM
    obtain ⟨j, hj⟩ := Int.eq_ofNat_of_zero_le ho0
    have hjn : j < n1 := by (have := hl1.out; omega)
    have HL : Hid (moveL H ds ps gs m = ps.set j m.t) := by unfold Hid moveL; rw [hM, hj]; rfl
    rw [hj] at Hb0
    have HM := Lib.hid hM
    clear hM ho0 ho1 hsb hj
    have hsb : w.heap.size + 1 + 1 ≤ wb.heap.size := by rw [Hwb.out]; simp
    go_wp2_with fail
    refine cM.out.mono ?_
    rintro e w2 ⟨rfl, he2⟩
    have HE2 := Lib.hid (Ext.trans HE1.out he2)
    have ho2 := own_keep HO1.out he2
    obtain ⟨g', hg', hbg, hblk⟩ := PBlk.of_own ho2 (by omega)
    injection hg' with hg'
    injection hg' with hg'
    subst hg'
    have HO2 := Lib.hid ho2
    have q0 := hblk.cell (i := j) (by rw [hl1.out]; exact hjn)
    have q1 := hblk.free j
    have q2 := hblk.lt
    clear he2 a0 a1 b0 b1 b2 b3 hblk ho2
    have b0 := (HE2.out.cellAt (w.heap.size + 1) (by omega) 0).trans Hb0.out
    have b1 := (HE2.out.cellAt (w.heap.size + 1) (by omega) 1).trans Hb1.out
    go_wp2_with fail
    go_ret2
    exact ⟨.slice (some ⟨g, 0, none⟩) n1 c', (by rw [HM.out]; rfl), HE.out.trans (HE2.out.setCell hbg _), by rw [HL.out, List.length_set, hl1.out]; exact own_weak (own_set HO2.out j m.t) (by omega)⟩
end Go.Proofs.YtfhibjehnoibeaaDoor
/- Contracts of ReplayMoves; no condition but what stands at each theorem. -/
namespace Go.Proofs.YtfhibjehnoibeaaDoor
set_option linter.unusedSimpArgs false
set_option linter.unusedVariables false
open Go.RowKit Go.Sort
/-- The moves ms done from u; where one does not go, ps. -/
def replayF (H : Int) (ds : List GDoor) (ps : List Int) : List Int → List GMove → List Int × Bool
  | u, [] => (u, true)
  | u, m :: r => if goB H ds u m then replayF H ds ps (u.set m.o.toNat m.t) r else (ps, false)
def replayL (H : Int) (ds : List GDoor) (ps : List Int) (ms : List GMove) : List Int × Bool :=
  if placesB H ds ps && decide (ms.length ≤ 30) then replayF H ds ps ps ms else (ps, false)
theorem goB_obj {H : Int} {ds : List GDoor} {ps : List Int} {m : GMove} (h : goB H ds ps m = true) : 0 ≤ m.o ∧ m.o < ps.length := by
  simp only [goB, inB, Bool.and_eq_true, decide_eq_true_eq] at h
  have h1 := h.1
  omega
theorem replayF_len (H : Int) (ds : List GDoor) (ps : List Int) : ∀ (ms : List GMove) (u : List Int), u.length = ps.length → (replayF H ds ps u ms).1.length = ps.length
  | [], u, h => h
  | m :: r, u, h => by
    unfold replayF
    split
    · exact replayF_len H ds ps r _ (by simpa using h)
    · rfl
theorem replayL_len (H : Int) (ds : List GDoor) (ps : List Int) (ms : List GMove) : (replayL H ds ps ms).1.length = ps.length := by
  unfold replayL
  split
  · exact replayF_len H ds ps ms ps rfl
  · rfl
theorem box4 (w : World) (b0 b1 b2 b3 : Value) (t : TypeId) (wb : World) (hwb : wb = w.alloc (.cells #[b0, b1, b2, b3] t)) :
    Ext w wb ∧ wb.heap.size = w.heap.size + 1 ∧ wb.cell? ⟨w.heap.size, 0, none⟩ = some b0 ∧ wb.cell? ⟨w.heap.size, 1, none⟩ = some b1 ∧ wb.cell? ⟨w.heap.size, 2, none⟩ = some b2 ∧ wb.cell? ⟨w.heap.size, 3, none⟩ = some b3 := by
  subst hwb
  refine ⟨(Ext.refl w).alloc _, by simp, ?_, ?_, ?_, ?_⟩
  all_goals rw [World.cell?_alloc_new]; rfl
end Go.Proofs.YtfhibjehnoibeaaDoor
