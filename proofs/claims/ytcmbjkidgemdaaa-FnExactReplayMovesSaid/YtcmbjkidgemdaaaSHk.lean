/- Contracts of CanMove and l35Near; no condition but what stands at each theorem. -/
import Derived.Test.YtcmbjkidgemdaaaSHj
namespace Go.Proofs.Ytcmbjkidgemdaaa
set_option linter.unusedSimpArgs false
set_option linter.unusedVariables false
open Go.RowKit Go.Sort
def canMoveB (H : Int) (ds : List GDoor) (ps gs : List Int) (m : GMove) : Bool :=
  placesB H ds ps && (decide (gs.length ≤ 6) && (hallsB H ds gs && (goB H ds ps m && (inB m.f 0 ((gs.length : Int) - 1) && (inB m.s 0 ((gs.length : Int) - 1) && ((m.f != m.s) && (nearB gs ps m m.f && nearB gs ps m m.s)))))))
theorem doorB_self {H : Int} {ds : List GDoor} (hB : houseB H ds = true) (x : Int) : doorB ds x x = false := by
  unfold doorB
  rw [Bool.eq_false_iff]
  intro hc
  rw [List.any_eq_true] at hc
  obtain ⟨d, hd, he⟩ := hc
  have h1 := (houseB_spec hB).2.2.2.2.1 d hd
  simp only [isDoor, imin, imax, Bool.and_eq_true, beq_iff_eq] at he
  simp only [doorOk, Bool.and_eq_true, decide_eq_true_eq] at h1
  have h2 := he.1
  have h3 := he.2
  simp at h2 h3
  omega
theorem hallsB_house {H : Int} {ds : List GDoor} {xs : List Int} (h : hallsB H ds xs = true) : houseB H ds = true := by
  unfold hallsB at h; rw [Bool.and_eq_true] at h; exact h.2
theorem boxHPGM (w : World) (a0 a1 p g b0 b1 b2 b3 : Value) (t1 t2 t3 t4 : TypeId) (wb : World) (hwb : wb = (((w.alloc (.cells #[a0, a1] t1)).alloc (.cells #[p] t2)).alloc (.cells #[g] t3)).alloc (.cells #[b0, b1, b2, b3] t4)) :
    Ext w wb ∧ wb.heap.size = w.heap.size + 1 + 1 + 1 + 1 ∧ wb.cell? ⟨w.heap.size, 0, none⟩ = some a0 ∧ wb.cell? ⟨w.heap.size, 1, none⟩ = some a1 ∧ wb.cell? ⟨w.heap.size + 1, 0, none⟩ = some p ∧ wb.cell? ⟨w.heap.size + 1 + 1, 0, none⟩ = some g ∧ wb.cell? ⟨w.heap.size + 1 + 1 + 1, 0, none⟩ = some b0 ∧ wb.cell? ⟨w.heap.size + 1 + 1 + 1, 1, none⟩ = some b1 ∧ wb.cell? ⟨w.heap.size + 1 + 1 + 1, 2, none⟩ = some b2 ∧ wb.cell? ⟨w.heap.size + 1 + 1 + 1, 3, none⟩ = some b3 := by
  subst hwb
  have h1 : w.heap.size + 1 = (w.alloc (.cells #[a0, a1] t1)).heap.size := by simp
  have h2 : w.heap.size + 1 + 1 = ((w.alloc (.cells #[a0, a1] t1)).alloc (.cells #[p] t2)).heap.size := by simp
  have h3 : w.heap.size + 1 + 1 + 1 = (((w.alloc (.cells #[a0, a1] t1)).alloc (.cells #[p] t2)).alloc (.cells #[g] t3)).heap.size := by simp
  refine ⟨((((Ext.refl w).alloc _).alloc _).alloc _).alloc _, by simp, ?_, ?_, ?_, ?_, ?_, ?_, ?_, ?_⟩
  · rw [World.cell?_alloc_lt _ _ _ (by first | (simp; done) | (simp; omega)), World.cell?_alloc_lt _ _ _ (by first | (simp; done) | (simp; omega)), World.cell?_alloc_lt _ _ _ (by first | (simp; done) | (simp; omega)), World.cell?_alloc_new]; rfl
  · rw [World.cell?_alloc_lt _ _ _ (by first | (simp; done) | (simp; omega)), World.cell?_alloc_lt _ _ _ (by first | (simp; done) | (simp; omega)), World.cell?_alloc_lt _ _ _ (by first | (simp; done) | (simp; omega)), World.cell?_alloc_new]; rfl
  · rw [World.cell?_alloc_lt _ _ _ (by first | (simp; done) | (simp; omega)), World.cell?_alloc_lt _ _ _ (by simp), h1, World.cell?_alloc_new]; rfl
  · rw [World.cell?_alloc_lt _ _ _ (by simp), h2, World.cell?_alloc_new]; rfl
  all_goals rw [h3, World.cell?_alloc_new]; rfl
set_option maxRecDepth 100000 in
set_option maxHeartbeats 8000000 in
theorem impl_CanMove (H : Int) (A : Option Addr) (n c : Nat) (ds : List GDoor) (A1 : Option Addr) (n1 c1 : Nat) (ps : List Int) (A2 : Option Addr) (n2 c2 : Nat) (gs : List Int) (m : GMove) (w : World) (hx : Rd w 2 A n (ds.flatMap GDoor.enc)) (hx1 : Rd w 1 A1 n1 (ps.flatMap ienc)) (hx2 : Rd w 1 A2 n2 (gs.flatMap ienc)) :
    Calls Try.prog 32 #[.agg #[.int .i64 H, .slice A n c], .slice A1 n1 c1, .slice A2 n2 c2, .agg #[.int .i64 m.o, .int .i64 m.t, .int .i64 m.f, .int .i64 m.s]] w fun e w' => e = .returned (.bool (canMoveB H ds ps gs m)) ∧ Ext w w' := by
  obtain ⟨o, t, f, s⟩ := m
  dsimp only
  have hn1 := hx1.2.1
  have hn2 := hx2.2.1
  have hl1 := Lib.hid (hx1.len ienc_len (by omega))
  have hl2 := Lib.hid (hx2.len ienc_len (by omega))
  obtain ⟨wb, hwb⟩ : ∃ wb, wb = (((w.alloc (.cells #[.int .i64 H, .slice A n c] 29)).alloc (.cells #[.slice A1 n1 c1] 33)).alloc (.cells #[.slice A2 n2 c2] 33)).alloc (.cells #[.int .i64 o, .int .i64 t, .int .i64 f, .int .i64 s] 49) := ⟨_, rfl⟩
  obtain ⟨hE, hsb, a0, a1, ap, ag, b0, b1, b2, b3⟩ := boxHPGM w _ _ _ _ _ _ _ _ _ _ _ _ wb hwb
  have HE := Lib.hid hE
  have Hwb := Lib.hid hwb
  have Ha0 := Lib.hid a0
  have Ha1 := Lib.hid a1
  have Hap := Lib.hid ap
  have Hag := Lib.hid ag
  have Hb0 := Lib.hid b0
  have Hb1 := Lib.hid b1
  have Hb2 := Lib.hid b2
  have Hb3 := Lib.hid b3
  have hxb := Lib.hid (hx.keep hE)
  have hxb1 := Lib.hid (hx1.keep hE)
  have hxb2 := Lib.hid (hx2.keep hE)
  have cP := Lib.hid (impl_PlacesOk H A n c ds A1 n1 c1 ps wb hxb.out hxb1.out)
  clear hE hwb a0 a1 ap ag b0 b1 b2 b3 hx hx1 hx2
  cases hP : placesB H ds ps
  case false =>
    rw [hP] at cP
    have HF : Hid (canMoveB H ds ps gs ⟨o, t, f, s⟩ = false) := by unfold Hid canMoveB; simp [hP]
    clear hP
    go_enter Try.func32, Try.ntmps32
    go_wp2_with fail
    rw [← Hwb.out]
    refine cP.out.mono ?_
    rintro e w1 ⟨rfl, he1⟩
    have HE1 := Lib.hid he1
    have a0 := (HE1.out.cellAt (w.heap.size) (by omega) 0).trans Ha0.out
    have a1 := (HE1.out.cellAt (w.heap.size) (by omega) 1).trans Ha1.out
    have ap := (HE1.out.cellAt (w.heap.size + 1) (by omega) 0).trans Hap.out
    have ag := (HE1.out.cellAt (w.heap.size + 1 + 1) (by omega) 0).trans Hag.out
    have b0 := (HE1.out.cellAt (w.heap.size + 1 + 1 + 1) (by omega) 0).trans Hb0.out
    have b1 := (HE1.out.cellAt (w.heap.size + 1 + 1 + 1) (by omega) 1).trans Hb1.out
    have b2 := (HE1.out.cellAt (w.heap.size + 1 + 1 + 1) (by omega) 2).trans Hb2.out
    have b3 := (HE1.out.cellAt (w.heap.size + 1 + 1 + 1) (by omega) 3).trans Hb3.out
    clear he1
    go_wp2_with fail
    go_ret
    exact ⟨ret_bool HF.out.symm, HE.out.trans (HE1.out)⟩
  rw [hP] at cP
  by_cases h6 : n2 ≤ 6
  case neg =>
    have HF : Hid (canMoveB H ds ps gs ⟨o, t, f, s⟩ = false) := by unfold Hid canMoveB; simp [hl2.out, h6]
    clear hP
    go_enter Try.func32, Try.ntmps32
    go_wp2_with fail
    rw [← Hwb.out]
    refine cP.out.mono ?_
    rintro e w1 ⟨rfl, he1⟩
    have HE1 := Lib.hid he1
    have a0 := (HE1.out.cellAt (w.heap.size) (by omega) 0).trans Ha0.out
    have a1 := (HE1.out.cellAt (w.heap.size) (by omega) 1).trans Ha1.out
    have ap := (HE1.out.cellAt (w.heap.size + 1) (by omega) 0).trans Hap.out
    have ag := (HE1.out.cellAt (w.heap.size + 1 + 1) (by omega) 0).trans Hag.out
    have b0 := (HE1.out.cellAt (w.heap.size + 1 + 1 + 1) (by omega) 0).trans Hb0.out
    have b1 := (HE1.out.cellAt (w.heap.size + 1 + 1 + 1) (by omega) 1).trans Hb1.out
    have b2 := (HE1.out.cellAt (w.heap.size + 1 + 1 + 1) (by omega) 2).trans Hb2.out
    have b3 := (HE1.out.cellAt (w.heap.size + 1 + 1 + 1) (by omega) 3).trans Hb3.out
    clear he1
    go_wp2_with fail
    go_ret
    exact ⟨ret_bool HF.out.symm, HE.out.trans (HE1.out)⟩
  have cH := Lib.hid (fun w1 he => impl_hallsOk H A n c ds A2 n2 c2 gs w1 (hxb.out.keep he) (hxb2.out.keep (w' := w1) he))
  cases hH : hallsB H ds gs
  case false =>
    rw [hH] at cH
    have HF : Hid (canMoveB H ds ps gs ⟨o, t, f, s⟩ = false) := by unfold Hid canMoveB; simp [hH]
    clear hP hH
    go_enter Try.func32, Try.ntmps32
    go_wp2_with fail
    rw [← Hwb.out]
    refine cP.out.mono ?_
    rintro e w1 ⟨rfl, he1⟩
    have HE1 := Lib.hid he1
    have a0 := (HE1.out.cellAt (w.heap.size) (by omega) 0).trans Ha0.out
    have a1 := (HE1.out.cellAt (w.heap.size) (by omega) 1).trans Ha1.out
    have ap := (HE1.out.cellAt (w.heap.size + 1) (by omega) 0).trans Hap.out
    have ag := (HE1.out.cellAt (w.heap.size + 1 + 1) (by omega) 0).trans Hag.out
    have b0 := (HE1.out.cellAt (w.heap.size + 1 + 1 + 1) (by omega) 0).trans Hb0.out
    have b1 := (HE1.out.cellAt (w.heap.size + 1 + 1 + 1) (by omega) 1).trans Hb1.out
    have b2 := (HE1.out.cellAt (w.heap.size + 1 + 1 + 1) (by omega) 2).trans Hb2.out
    have b3 := (HE1.out.cellAt (w.heap.size + 1 + 1 + 1) (by omega) 3).trans Hb3.out
    clear he1
    go_wp2_with fail
    refine (cH.out w1 (HE1.out)).mono ?_
    rintro e w2 ⟨rfl, he2⟩
    have HE2 := Lib.hid (Ext.trans (HE1.out) he2)
    clear a0 a1 ap ag b0 b1 b2 b3 he2
    have a0 := (HE2.out.cellAt (w.heap.size) (by omega) 0).trans Ha0.out
    have a1 := (HE2.out.cellAt (w.heap.size) (by omega) 1).trans Ha1.out
    have ap := (HE2.out.cellAt (w.heap.size + 1) (by omega) 0).trans Hap.out
    have ag := (HE2.out.cellAt (w.heap.size + 1 + 1) (by omega) 0).trans Hag.out
    have b0 := (HE2.out.cellAt (w.heap.size + 1 + 1 + 1) (by omega) 0).trans Hb0.out
    have b1 := (HE2.out.cellAt (w.heap.size + 1 + 1 + 1) (by omega) 1).trans Hb1.out
    have b2 := (HE2.out.cellAt (w.heap.size + 1 + 1 + 1) (by omega) 2).trans Hb2.out
    have b3 := (HE2.out.cellAt (w.heap.size + 1 + 1 + 1) (by omega) 3).trans Hb3.out
    go_wp2_with fail
    go_ret
    exact ⟨ret_bool HF.out.symm, HE.out.trans (HE2.out)⟩
  rw [hH] at cH
  have cG := Lib.hid (fun w1 he => impl_canGo H A n c ds A1 n1 c1 ps ⟨o, t, f, s⟩ w1 (hxb.out.keep he) (hxb1.out.keep (w' := w1) he))
  cases hG : goB H ds ps ⟨o, t, f, s⟩
  case false =>
    rw [hG] at cG
    have HF : Hid (canMoveB H ds ps gs ⟨o, t, f, s⟩ = false) := by unfold Hid canMoveB; simp [hG]
    clear hP hH hG
    go_enter Try.func32, Try.ntmps32
    go_wp2_with fail
    rw [← Hwb.out]
    refine cP.out.mono ?_
    rintro e w1 ⟨rfl, he1⟩
    have HE1 := Lib.hid he1
    have a0 := (HE1.out.cellAt (w.heap.size) (by omega) 0).trans Ha0.out
    have a1 := (HE1.out.cellAt (w.heap.size) (by omega) 1).trans Ha1.out
    have ap := (HE1.out.cellAt (w.heap.size + 1) (by omega) 0).trans Hap.out
    have ag := (HE1.out.cellAt (w.heap.size + 1 + 1) (by omega) 0).trans Hag.out
    have b0 := (HE1.out.cellAt (w.heap.size + 1 + 1 + 1) (by omega) 0).trans Hb0.out
    have b1 := (HE1.out.cellAt (w.heap.size + 1 + 1 + 1) (by omega) 1).trans Hb1.out
    have b2 := (HE1.out.cellAt (w.heap.size + 1 + 1 + 1) (by omega) 2).trans Hb2.out
    have b3 := (HE1.out.cellAt (w.heap.size + 1 + 1 + 1) (by omega) 3).trans Hb3.out
    clear he1
    go_wp2_with fail
    refine (cH.out w1 (HE1.out)).mono ?_
    rintro e w2 ⟨rfl, he2⟩
    have HE2 := Lib.hid (Ext.trans (HE1.out) he2)
    clear a0 a1 ap ag b0 b1 b2 b3 he2
    have a0 := (HE2.out.cellAt (w.heap.size) (by omega) 0).trans Ha0.out
    have a1 := (HE2.out.cellAt (w.heap.size) (by omega) 1).trans Ha1.out
    have ap := (HE2.out.cellAt (w.heap.size + 1) (by omega) 0).trans Hap.out
    have ag := (HE2.out.cellAt (w.heap.size + 1 + 1) (by omega) 0).trans Hag.out
    have b0 := (HE2.out.cellAt (w.heap.size + 1 + 1 + 1) (by omega) 0).trans Hb0.out
    have b1 := (HE2.out.cellAt (w.heap.size + 1 + 1 + 1) (by omega) 1).trans Hb1.out
    have b2 := (HE2.out.cellAt (w.heap.size + 1 + 1 + 1) (by omega) 2).trans Hb2.out
    have b3 := (HE2.out.cellAt (w.heap.size + 1 + 1 + 1) (by omega) 3).trans Hb3.out
    go_wp2_with fail
    refine (cG.out w2 (HE2.out)).mono ?_
    rintro e w3 ⟨rfl, he3⟩
    have HE3 := Lib.hid (Ext.trans (HE2.out) he3)
    clear a0 a1 ap ag b0 b1 b2 b3 he3
    have a0 := (HE3.out.cellAt (w.heap.size) (by omega) 0).trans Ha0.out
    have a1 := (HE3.out.cellAt (w.heap.size) (by omega) 1).trans Ha1.out
    have ap := (HE3.out.cellAt (w.heap.size + 1) (by omega) 0).trans Hap.out
    have ag := (HE3.out.cellAt (w.heap.size + 1 + 1) (by omega) 0).trans Hag.out
    have b0 := (HE3.out.cellAt (w.heap.size + 1 + 1 + 1) (by omega) 0).trans Hb0.out
    have b1 := (HE3.out.cellAt (w.heap.size + 1 + 1 + 1) (by omega) 1).trans Hb1.out
    have b2 := (HE3.out.cellAt (w.heap.size + 1 + 1 + 1) (by omega) 2).trans Hb2.out
    have b3 := (HE3.out.cellAt (w.heap.size + 1 + 1 + 1) (by omega) 3).trans Hb3.out
    go_wp2_with fail
    go_ret
    exact ⟨ret_bool HF.out.symm, HE.out.trans (HE3.out)⟩
  rw [hG] at cG
  have cF := Lib.hid (fun W => impl_between f 0 ((n2 : Int) - 1) W)
  have cS := Lib.hid (fun W => impl_between s 0 ((n2 : Int) - 1) W)
  cases hF : inB f 0 ((n2 : Int) - 1)
  case false =>
    rw [hF] at cF
    have HF : Hid (canMoveB H ds ps gs ⟨o, t, f, s⟩ = false) := by unfold Hid canMoveB; simp [hl2.out, hF]
    clear hP hH hG hF cS
    go_enter Try.func32, Try.ntmps32
    go_wp2_with fail
    rw [← Hwb.out]
    refine cP.out.mono ?_
    rintro e w1 ⟨rfl, he1⟩
    have HE1 := Lib.hid he1
    have a0 := (HE1.out.cellAt (w.heap.size) (by omega) 0).trans Ha0.out
    have a1 := (HE1.out.cellAt (w.heap.size) (by omega) 1).trans Ha1.out
    have ap := (HE1.out.cellAt (w.heap.size + 1) (by omega) 0).trans Hap.out
    have ag := (HE1.out.cellAt (w.heap.size + 1 + 1) (by omega) 0).trans Hag.out
    have b0 := (HE1.out.cellAt (w.heap.size + 1 + 1 + 1) (by omega) 0).trans Hb0.out
    have b1 := (HE1.out.cellAt (w.heap.size + 1 + 1 + 1) (by omega) 1).trans Hb1.out
    have b2 := (HE1.out.cellAt (w.heap.size + 1 + 1 + 1) (by omega) 2).trans Hb2.out
    have b3 := (HE1.out.cellAt (w.heap.size + 1 + 1 + 1) (by omega) 3).trans Hb3.out
    clear he1
    go_wp2_with fail
    refine (cH.out w1 (HE1.out)).mono ?_
    rintro e w2 ⟨rfl, he2⟩
    have HE2 := Lib.hid (Ext.trans (HE1.out) he2)
    clear a0 a1 ap ag b0 b1 b2 b3 he2
    have a0 := (HE2.out.cellAt (w.heap.size) (by omega) 0).trans Ha0.out
    have a1 := (HE2.out.cellAt (w.heap.size) (by omega) 1).trans Ha1.out
    have ap := (HE2.out.cellAt (w.heap.size + 1) (by omega) 0).trans Hap.out
    have ag := (HE2.out.cellAt (w.heap.size + 1 + 1) (by omega) 0).trans Hag.out
    have b0 := (HE2.out.cellAt (w.heap.size + 1 + 1 + 1) (by omega) 0).trans Hb0.out
    have b1 := (HE2.out.cellAt (w.heap.size + 1 + 1 + 1) (by omega) 1).trans Hb1.out
    have b2 := (HE2.out.cellAt (w.heap.size + 1 + 1 + 1) (by omega) 2).trans Hb2.out
    have b3 := (HE2.out.cellAt (w.heap.size + 1 + 1 + 1) (by omega) 3).trans Hb3.out
    go_wp2_with fail
    refine (cG.out w2 (HE2.out)).mono ?_
    rintro e w3 ⟨rfl, he3⟩
    have HE3 := Lib.hid (Ext.trans (HE2.out) he3)
    clear a0 a1 ap ag b0 b1 b2 b3 he3
    have a0 := (HE3.out.cellAt (w.heap.size) (by omega) 0).trans Ha0.out
    have a1 := (HE3.out.cellAt (w.heap.size) (by omega) 1).trans Ha1.out
    have ap := (HE3.out.cellAt (w.heap.size + 1) (by omega) 0).trans Hap.out
    have ag := (HE3.out.cellAt (w.heap.size + 1 + 1) (by omega) 0).trans Hag.out
    have b0 := (HE3.out.cellAt (w.heap.size + 1 + 1 + 1) (by omega) 0).trans Hb0.out
    have b1 := (HE3.out.cellAt (w.heap.size + 1 + 1 + 1) (by omega) 1).trans Hb1.out
    have b2 := (HE3.out.cellAt (w.heap.size + 1 + 1 + 1) (by omega) 2).trans Hb2.out
    have b3 := (HE3.out.cellAt (w.heap.size + 1 + 1 + 1) (by omega) 3).trans Hb3.out
    go_wp2_with (first | (with_reducible exact fail) | (go_at_call 59; first | (with_reducible refine (cF.out _).mono ?_; rintro e w9 ⟨rfl, rfl⟩) | (with_reducible refine (cS.out _).mono ?_; rintro e w9 ⟨rfl, rfl⟩)))
    go_ret
    exact ⟨ret_bool HF.out.symm, HE.out.trans (HE3.out)⟩
  rw [hF] at cF
  cases hS : inB s 0 ((n2 : Int) - 1)
  case false =>
    rw [hS] at cS
    have HF : Hid (canMoveB H ds ps gs ⟨o, t, f, s⟩ = false) := by unfold Hid canMoveB; simp [hl2.out, hS]
    clear hP hH hG hF hS
    go_enter Try.func32, Try.ntmps32
    go_wp2_with fail
    rw [← Hwb.out]
    refine cP.out.mono ?_
    rintro e w1 ⟨rfl, he1⟩
    have HE1 := Lib.hid he1
    have a0 := (HE1.out.cellAt (w.heap.size) (by omega) 0).trans Ha0.out
    have a1 := (HE1.out.cellAt (w.heap.size) (by omega) 1).trans Ha1.out
    have ap := (HE1.out.cellAt (w.heap.size + 1) (by omega) 0).trans Hap.out
    have ag := (HE1.out.cellAt (w.heap.size + 1 + 1) (by omega) 0).trans Hag.out
    have b0 := (HE1.out.cellAt (w.heap.size + 1 + 1 + 1) (by omega) 0).trans Hb0.out
    have b1 := (HE1.out.cellAt (w.heap.size + 1 + 1 + 1) (by omega) 1).trans Hb1.out
    have b2 := (HE1.out.cellAt (w.heap.size + 1 + 1 + 1) (by omega) 2).trans Hb2.out
    have b3 := (HE1.out.cellAt (w.heap.size + 1 + 1 + 1) (by omega) 3).trans Hb3.out
    clear he1
    go_wp2_with fail
    refine (cH.out w1 (HE1.out)).mono ?_
    rintro e w2 ⟨rfl, he2⟩
    have HE2 := Lib.hid (Ext.trans (HE1.out) he2)
    clear a0 a1 ap ag b0 b1 b2 b3 he2
    have a0 := (HE2.out.cellAt (w.heap.size) (by omega) 0).trans Ha0.out
    have a1 := (HE2.out.cellAt (w.heap.size) (by omega) 1).trans Ha1.out
    have ap := (HE2.out.cellAt (w.heap.size + 1) (by omega) 0).trans Hap.out
    have ag := (HE2.out.cellAt (w.heap.size + 1 + 1) (by omega) 0).trans Hag.out
    have b0 := (HE2.out.cellAt (w.heap.size + 1 + 1 + 1) (by omega) 0).trans Hb0.out
    have b1 := (HE2.out.cellAt (w.heap.size + 1 + 1 + 1) (by omega) 1).trans Hb1.out
    have b2 := (HE2.out.cellAt (w.heap.size + 1 + 1 + 1) (by omega) 2).trans Hb2.out
    have b3 := (HE2.out.cellAt (w.heap.size + 1 + 1 + 1) (by omega) 3).trans Hb3.out
    go_wp2_with fail
    refine (cG.out w2 (HE2.out)).mono ?_
    rintro e w3 ⟨rfl, he3⟩
    have HE3 := Lib.hid (Ext.trans (HE2.out) he3)
    clear a0 a1 ap ag b0 b1 b2 b3 he3
    have a0 := (HE3.out.cellAt (w.heap.size) (by omega) 0).trans Ha0.out
    have a1 := (HE3.out.cellAt (w.heap.size) (by omega) 1).trans Ha1.out
    have ap := (HE3.out.cellAt (w.heap.size + 1) (by omega) 0).trans Hap.out
    have ag := (HE3.out.cellAt (w.heap.size + 1 + 1) (by omega) 0).trans Hag.out
    have b0 := (HE3.out.cellAt (w.heap.size + 1 + 1 + 1) (by omega) 0).trans Hb0.out
    have b1 := (HE3.out.cellAt (w.heap.size + 1 + 1 + 1) (by omega) 1).trans Hb1.out
    have b2 := (HE3.out.cellAt (w.heap.size + 1 + 1 + 1) (by omega) 2).trans Hb2.out
    have b3 := (HE3.out.cellAt (w.heap.size + 1 + 1 + 1) (by omega) 3).trans Hb3.out
    go_wp2_with (first | (with_reducible exact fail) | (go_at_call 59; first | (with_reducible refine (cF.out _).mono ?_; rintro e w9 ⟨rfl, rfl⟩) | (with_reducible refine (cS.out _).mono ?_; rintro e w9 ⟨rfl, rfl⟩)))
    go_ret
    exact ⟨ret_bool HF.out.symm, HE.out.trans (HE3.out)⟩
  rw [hS] at cS
  cases hE : (f == s)
  case true =>
    have hEq : f = s := by simpa using hE
    have HF : Hid (canMoveB H ds ps gs ⟨o, t, f, s⟩ = false) := by unfold Hid canMoveB; simp [hEq]
    clear hP hH hG hF hS hEq
    go_enter Try.func32, Try.ntmps32
    go_wp2_with fail
    rw [← Hwb.out]
    refine cP.out.mono ?_
    rintro e w1 ⟨rfl, he1⟩
    have HE1 := Lib.hid he1
    have a0 := (HE1.out.cellAt (w.heap.size) (by omega) 0).trans Ha0.out
    have a1 := (HE1.out.cellAt (w.heap.size) (by omega) 1).trans Ha1.out
    have ap := (HE1.out.cellAt (w.heap.size + 1) (by omega) 0).trans Hap.out
    have ag := (HE1.out.cellAt (w.heap.size + 1 + 1) (by omega) 0).trans Hag.out
    have b0 := (HE1.out.cellAt (w.heap.size + 1 + 1 + 1) (by omega) 0).trans Hb0.out
    have b1 := (HE1.out.cellAt (w.heap.size + 1 + 1 + 1) (by omega) 1).trans Hb1.out
    have b2 := (HE1.out.cellAt (w.heap.size + 1 + 1 + 1) (by omega) 2).trans Hb2.out
    have b3 := (HE1.out.cellAt (w.heap.size + 1 + 1 + 1) (by omega) 3).trans Hb3.out
    clear he1
    go_wp2_with fail
    refine (cH.out w1 (HE1.out)).mono ?_
    rintro e w2 ⟨rfl, he2⟩
    have HE2 := Lib.hid (Ext.trans (HE1.out) he2)
    clear a0 a1 ap ag b0 b1 b2 b3 he2
    have a0 := (HE2.out.cellAt (w.heap.size) (by omega) 0).trans Ha0.out
    have a1 := (HE2.out.cellAt (w.heap.size) (by omega) 1).trans Ha1.out
    have ap := (HE2.out.cellAt (w.heap.size + 1) (by omega) 0).trans Hap.out
    have ag := (HE2.out.cellAt (w.heap.size + 1 + 1) (by omega) 0).trans Hag.out
    have b0 := (HE2.out.cellAt (w.heap.size + 1 + 1 + 1) (by omega) 0).trans Hb0.out
    have b1 := (HE2.out.cellAt (w.heap.size + 1 + 1 + 1) (by omega) 1).trans Hb1.out
    have b2 := (HE2.out.cellAt (w.heap.size + 1 + 1 + 1) (by omega) 2).trans Hb2.out
    have b3 := (HE2.out.cellAt (w.heap.size + 1 + 1 + 1) (by omega) 3).trans Hb3.out
    go_wp2_with fail
    refine (cG.out w2 (HE2.out)).mono ?_
    rintro e w3 ⟨rfl, he3⟩
    have HE3 := Lib.hid (Ext.trans (HE2.out) he3)
    clear a0 a1 ap ag b0 b1 b2 b3 he3
    have a0 := (HE3.out.cellAt (w.heap.size) (by omega) 0).trans Ha0.out
    have a1 := (HE3.out.cellAt (w.heap.size) (by omega) 1).trans Ha1.out
    have ap := (HE3.out.cellAt (w.heap.size + 1) (by omega) 0).trans Hap.out
    have ag := (HE3.out.cellAt (w.heap.size + 1 + 1) (by omega) 0).trans Hag.out
    have b0 := (HE3.out.cellAt (w.heap.size + 1 + 1 + 1) (by omega) 0).trans Hb0.out
    have b1 := (HE3.out.cellAt (w.heap.size + 1 + 1 + 1) (by omega) 1).trans Hb1.out
    have b2 := (HE3.out.cellAt (w.heap.size + 1 + 1 + 1) (by omega) 2).trans Hb2.out
    have b3 := (HE3.out.cellAt (w.heap.size + 1 + 1 + 1) (by omega) 3).trans Hb3.out
    go_wp2_with (first | (with_reducible exact fail) | (go_at_call 59; first | (with_reducible refine (cF.out _).mono ?_; rintro e w9 ⟨rfl, rfl⟩) | (with_reducible refine (cS.out _).mono ?_; rintro e w9 ⟨rfl, rfl⟩)))
    go_ret
    exact ⟨ret_bool HF.out.symm, HE.out.trans (HE3.out)⟩
  have hfs : 0 ≤ f ∧ f ≤ (n2 : Int) - 1 := by simpa [inB] using hF
  have hss : 0 ≤ s ∧ s ≤ (n2 : Int) - 1 := by simpa [inB] using hS
  have hos : 0 ≤ o ∧ o ≤ (n1 : Int) - 1 := by (have h := hG; unfold goB at h; rw [Bool.and_eq_true, hl1.out] at h; simpa [inB] using h.1)
  have cN1 := Lib.hid (fun w1 (he : Ext wb w1) => impl_CanMove1 (w.heap.size + 1 + 1) (w.heap.size + 1) (w.heap.size + 1 + 1 + 1) A1 n1 c1 ps A2 n2 c2 gs ⟨o, t, f, s⟩ f w1 (hxb1.out.keep he) (hxb2.out.keep he) ((he.cellAt _ (by omega) _).trans Hag.out) ((he.cellAt _ (by omega) _).trans Hap.out) ((he.cellAt _ (by omega) _).trans Hb0.out) ((he.cellAt _ (by omega) _).trans Hb1.out) (by omega) (by omega) (by dsimp only; omega) (by dsimp only; omega))
  have cN2 := Lib.hid (fun w1 (he : Ext wb w1) => impl_CanMove1 (w.heap.size + 1 + 1) (w.heap.size + 1) (w.heap.size + 1 + 1 + 1) A1 n1 c1 ps A2 n2 c2 gs ⟨o, t, f, s⟩ s w1 (hxb1.out.keep he) (hxb2.out.keep he) ((he.cellAt _ (by omega) _).trans Hag.out) ((he.cellAt _ (by omega) _).trans Hap.out) ((he.cellAt _ (by omega) _).trans Hb0.out) ((he.cellAt _ (by omega) _).trans Hb1.out) (by omega) (by omega) (by dsimp only; omega) (by dsimp only; omega))
  have hne : (f != s) = true := by simp at hE; simp [hE]
  have HV : Hid (canMoveB H ds ps gs ⟨o, t, f, s⟩ = (nearB gs ps ⟨o, t, f, s⟩ f && nearB gs ps ⟨o, t, f, s⟩ s)) := by unfold Hid canMoveB; simp only [hP, hH, hG, hl2.out, decide_eq_true h6, hF, hS, hne, Bool.true_and]
  clear hfs hss hos hne hP hH hG hF hS
  cases hN : nearB gs ps ⟨o, t, f, s⟩ f
  case false =>
    rw [hN] at cN1
    have HF : Hid (canMoveB H ds ps gs ⟨o, t, f, s⟩ = false) := by unfold Hid; rw [HV.out, hN]; rfl
    clear hN cN2
    go_enter Try.func32, Try.ntmps32
    go_wp2_with fail
    rw [← Hwb.out]
    refine cP.out.mono ?_
    rintro e w1 ⟨rfl, he1⟩
    have HE1 := Lib.hid he1
    have a0 := (HE1.out.cellAt (w.heap.size) (by omega) 0).trans Ha0.out
    have a1 := (HE1.out.cellAt (w.heap.size) (by omega) 1).trans Ha1.out
    have ap := (HE1.out.cellAt (w.heap.size + 1) (by omega) 0).trans Hap.out
    have ag := (HE1.out.cellAt (w.heap.size + 1 + 1) (by omega) 0).trans Hag.out
    have b0 := (HE1.out.cellAt (w.heap.size + 1 + 1 + 1) (by omega) 0).trans Hb0.out
    have b1 := (HE1.out.cellAt (w.heap.size + 1 + 1 + 1) (by omega) 1).trans Hb1.out
    have b2 := (HE1.out.cellAt (w.heap.size + 1 + 1 + 1) (by omega) 2).trans Hb2.out
    have b3 := (HE1.out.cellAt (w.heap.size + 1 + 1 + 1) (by omega) 3).trans Hb3.out
    clear he1
    go_wp2_with fail
    refine (cH.out w1 (HE1.out)).mono ?_
    rintro e w2 ⟨rfl, he2⟩
    have HE2 := Lib.hid (Ext.trans (HE1.out) he2)
    clear a0 a1 ap ag b0 b1 b2 b3 he2
    have a0 := (HE2.out.cellAt (w.heap.size) (by omega) 0).trans Ha0.out
    have a1 := (HE2.out.cellAt (w.heap.size) (by omega) 1).trans Ha1.out
    have ap := (HE2.out.cellAt (w.heap.size + 1) (by omega) 0).trans Hap.out
    have ag := (HE2.out.cellAt (w.heap.size + 1 + 1) (by omega) 0).trans Hag.out
    have b0 := (HE2.out.cellAt (w.heap.size + 1 + 1 + 1) (by omega) 0).trans Hb0.out
    have b1 := (HE2.out.cellAt (w.heap.size + 1 + 1 + 1) (by omega) 1).trans Hb1.out
    have b2 := (HE2.out.cellAt (w.heap.size + 1 + 1 + 1) (by omega) 2).trans Hb2.out
    have b3 := (HE2.out.cellAt (w.heap.size + 1 + 1 + 1) (by omega) 3).trans Hb3.out
    go_wp2_with fail
    refine (cG.out w2 (HE2.out)).mono ?_
    rintro e w3 ⟨rfl, he3⟩
    have HE3 := Lib.hid (Ext.trans (HE2.out) he3)
    clear a0 a1 ap ag b0 b1 b2 b3 he3
    have a0 := (HE3.out.cellAt (w.heap.size) (by omega) 0).trans Ha0.out
    have a1 := (HE3.out.cellAt (w.heap.size) (by omega) 1).trans Ha1.out
    have ap := (HE3.out.cellAt (w.heap.size + 1) (by omega) 0).trans Hap.out
    have ag := (HE3.out.cellAt (w.heap.size + 1 + 1) (by omega) 0).trans Hag.out
    have b0 := (HE3.out.cellAt (w.heap.size + 1 + 1 + 1) (by omega) 0).trans Hb0.out
    have b1 := (HE3.out.cellAt (w.heap.size + 1 + 1 + 1) (by omega) 1).trans Hb1.out
    have b2 := (HE3.out.cellAt (w.heap.size + 1 + 1 + 1) (by omega) 2).trans Hb2.out
    have b3 := (HE3.out.cellAt (w.heap.size + 1 + 1 + 1) (by omega) 3).trans Hb3.out
    go_wp2_with (first | (with_reducible exact fail) | (go_at_call 59; first | (with_reducible refine (cF.out _).mono ?_; rintro e w9 ⟨rfl, rfl⟩) | (with_reducible refine (cS.out _).mono ?_; rintro e w9 ⟨rfl, rfl⟩)))
    refine (cN1.out w3 (HE3.out)).mono ?_
    rintro e w4 ⟨rfl, he4⟩
    have HE4 := Lib.hid (Ext.trans (HE3.out) he4)
    clear a0 a1 ap ag b0 b1 b2 b3 he4
    have a0 := (HE4.out.cellAt (w.heap.size) (by omega) 0).trans Ha0.out
    have a1 := (HE4.out.cellAt (w.heap.size) (by omega) 1).trans Ha1.out
    have ap := (HE4.out.cellAt (w.heap.size + 1) (by omega) 0).trans Hap.out
    have ag := (HE4.out.cellAt (w.heap.size + 1 + 1) (by omega) 0).trans Hag.out
    have b0 := (HE4.out.cellAt (w.heap.size + 1 + 1 + 1) (by omega) 0).trans Hb0.out
    have b1 := (HE4.out.cellAt (w.heap.size + 1 + 1 + 1) (by omega) 1).trans Hb1.out
    have b2 := (HE4.out.cellAt (w.heap.size + 1 + 1 + 1) (by omega) 2).trans Hb2.out
    have b3 := (HE4.out.cellAt (w.heap.size + 1 + 1 + 1) (by omega) 3).trans Hb3.out
    go_wp2_with fail
    go_ret
    exact ⟨ret_bool HF.out.symm, HE.out.trans (HE4.out)⟩
  rw [hN] at cN1
  cases hM : nearB gs ps ⟨o, t, f, s⟩ s
  case false =>
    rw [hM] at cN2
    have HF : Hid (canMoveB H ds ps gs ⟨o, t, f, s⟩ = false) := by unfold Hid; rw [HV.out, hN, hM]; rfl
    clear hN hM
    go_enter Try.func32, Try.ntmps32
    go_wp2_with fail
    rw [← Hwb.out]
    refine cP.out.mono ?_
    rintro e w1 ⟨rfl, he1⟩
    have HE1 := Lib.hid he1
    have a0 := (HE1.out.cellAt (w.heap.size) (by omega) 0).trans Ha0.out
    have a1 := (HE1.out.cellAt (w.heap.size) (by omega) 1).trans Ha1.out
    have ap := (HE1.out.cellAt (w.heap.size + 1) (by omega) 0).trans Hap.out
    have ag := (HE1.out.cellAt (w.heap.size + 1 + 1) (by omega) 0).trans Hag.out
    have b0 := (HE1.out.cellAt (w.heap.size + 1 + 1 + 1) (by omega) 0).trans Hb0.out
    have b1 := (HE1.out.cellAt (w.heap.size + 1 + 1 + 1) (by omega) 1).trans Hb1.out
    have b2 := (HE1.out.cellAt (w.heap.size + 1 + 1 + 1) (by omega) 2).trans Hb2.out
    have b3 := (HE1.out.cellAt (w.heap.size + 1 + 1 + 1) (by omega) 3).trans Hb3.out
    clear he1
    go_wp2_with fail
    refine (cH.out w1 (HE1.out)).mono ?_
    rintro e w2 ⟨rfl, he2⟩
    have HE2 := Lib.hid (Ext.trans (HE1.out) he2)
    clear a0 a1 ap ag b0 b1 b2 b3 he2
    have a0 := (HE2.out.cellAt (w.heap.size) (by omega) 0).trans Ha0.out
    have a1 := (HE2.out.cellAt (w.heap.size) (by omega) 1).trans Ha1.out
    have ap := (HE2.out.cellAt (w.heap.size + 1) (by omega) 0).trans Hap.out
    have ag := (HE2.out.cellAt (w.heap.size + 1 + 1) (by omega) 0).trans Hag.out
    have b0 := (HE2.out.cellAt (w.heap.size + 1 + 1 + 1) (by omega) 0).trans Hb0.out
    have b1 := (HE2.out.cellAt (w.heap.size + 1 + 1 + 1) (by omega) 1).trans Hb1.out
    have b2 := (HE2.out.cellAt (w.heap.size + 1 + 1 + 1) (by omega) 2).trans Hb2.out
    have b3 := (HE2.out.cellAt (w.heap.size + 1 + 1 + 1) (by omega) 3).trans Hb3.out
    go_wp2_with fail
    refine (cG.out w2 (HE2.out)).mono ?_
    rintro e w3 ⟨rfl, he3⟩
    have HE3 := Lib.hid (Ext.trans (HE2.out) he3)
    clear a0 a1 ap ag b0 b1 b2 b3 he3
    have a0 := (HE3.out.cellAt (w.heap.size) (by omega) 0).trans Ha0.out
    have a1 := (HE3.out.cellAt (w.heap.size) (by omega) 1).trans Ha1.out
    have ap := (HE3.out.cellAt (w.heap.size + 1) (by omega) 0).trans Hap.out
    have ag := (HE3.out.cellAt (w.heap.size + 1 + 1) (by omega) 0).trans Hag.out
    have b0 := (HE3.out.cellAt (w.heap.size + 1 + 1 + 1) (by omega) 0).trans Hb0.out
    have b1 := (HE3.out.cellAt (w.heap.size + 1 + 1 + 1) (by omega) 1).trans Hb1.out
    have b2 := (HE3.out.cellAt (w.heap.size + 1 + 1 + 1) (by omega) 2).trans Hb2.out
    have b3 := (HE3.out.cellAt (w.heap.size + 1 + 1 + 1) (by omega) 3).trans Hb3.out
    go_wp2_with (first | (with_reducible exact fail) | (go_at_call 59; first | (with_reducible refine (cF.out _).mono ?_; rintro e w9 ⟨rfl, rfl⟩) | (with_reducible refine (cS.out _).mono ?_; rintro e w9 ⟨rfl, rfl⟩)))
    refine (cN1.out w3 (HE3.out)).mono ?_
    rintro e w4 ⟨rfl, he4⟩
    have HE4 := Lib.hid (Ext.trans (HE3.out) he4)
    clear a0 a1 ap ag b0 b1 b2 b3 he4
    have a0 := (HE4.out.cellAt (w.heap.size) (by omega) 0).trans Ha0.out
    have a1 := (HE4.out.cellAt (w.heap.size) (by omega) 1).trans Ha1.out
    have ap := (HE4.out.cellAt (w.heap.size + 1) (by omega) 0).trans Hap.out
    have ag := (HE4.out.cellAt (w.heap.size + 1 + 1) (by omega) 0).trans Hag.out
    have b0 := (HE4.out.cellAt (w.heap.size + 1 + 1 + 1) (by omega) 0).trans Hb0.out
    have b1 := (HE4.out.cellAt (w.heap.size + 1 + 1 + 1) (by omega) 1).trans Hb1.out
    have b2 := (HE4.out.cellAt (w.heap.size + 1 + 1 + 1) (by omega) 2).trans Hb2.out
    have b3 := (HE4.out.cellAt (w.heap.size + 1 + 1 + 1) (by omega) 3).trans Hb3.out
    go_wp2_with fail
    refine (cN2.out w4 (HE4.out)).mono ?_
    rintro e w5 ⟨rfl, he5⟩
    have HE5 := Lib.hid (Ext.trans (HE4.out) he5)
    clear a0 a1 ap ag b0 b1 b2 b3 he5
    have a0 := (HE5.out.cellAt (w.heap.size) (by omega) 0).trans Ha0.out
    have a1 := (HE5.out.cellAt (w.heap.size) (by omega) 1).trans Ha1.out
    have ap := (HE5.out.cellAt (w.heap.size + 1) (by omega) 0).trans Hap.out
    have ag := (HE5.out.cellAt (w.heap.size + 1 + 1) (by omega) 0).trans Hag.out
    have b0 := (HE5.out.cellAt (w.heap.size + 1 + 1 + 1) (by omega) 0).trans Hb0.out
    have b1 := (HE5.out.cellAt (w.heap.size + 1 + 1 + 1) (by omega) 1).trans Hb1.out
    have b2 := (HE5.out.cellAt (w.heap.size + 1 + 1 + 1) (by omega) 2).trans Hb2.out
    have b3 := (HE5.out.cellAt (w.heap.size + 1 + 1 + 1) (by omega) 3).trans Hb3.out
    go_wp2_with fail
    go_ret
    exact ⟨ret_bool HF.out.symm, HE.out.trans (HE5.out)⟩
  case true =>
    rw [hM] at cN2
    have HF : Hid (canMoveB H ds ps gs ⟨o, t, f, s⟩ = true) := by unfold Hid; rw [HV.out, hN, hM]; rfl
    clear hN hM
    go_enter Try.func32, Try.ntmps32
    go_wp2_with fail
    rw [← Hwb.out]
    refine cP.out.mono ?_
    rintro e w1 ⟨rfl, he1⟩
    have HE1 := Lib.hid he1
    have a0 := (HE1.out.cellAt (w.heap.size) (by omega) 0).trans Ha0.out
    have a1 := (HE1.out.cellAt (w.heap.size) (by omega) 1).trans Ha1.out
    have ap := (HE1.out.cellAt (w.heap.size + 1) (by omega) 0).trans Hap.out
    have ag := (HE1.out.cellAt (w.heap.size + 1 + 1) (by omega) 0).trans Hag.out
    have b0 := (HE1.out.cellAt (w.heap.size + 1 + 1 + 1) (by omega) 0).trans Hb0.out
    have b1 := (HE1.out.cellAt (w.heap.size + 1 + 1 + 1) (by omega) 1).trans Hb1.out
    have b2 := (HE1.out.cellAt (w.heap.size + 1 + 1 + 1) (by omega) 2).trans Hb2.out
    have b3 := (HE1.out.cellAt (w.heap.size + 1 + 1 + 1) (by omega) 3).trans Hb3.out
    clear he1
    go_wp2_with fail
    refine (cH.out w1 (HE1.out)).mono ?_
    rintro e w2 ⟨rfl, he2⟩
    have HE2 := Lib.hid (Ext.trans (HE1.out) he2)
    clear a0 a1 ap ag b0 b1 b2 b3 he2
    have a0 := (HE2.out.cellAt (w.heap.size) (by omega) 0).trans Ha0.out
    have a1 := (HE2.out.cellAt (w.heap.size) (by omega) 1).trans Ha1.out
    have ap := (HE2.out.cellAt (w.heap.size + 1) (by omega) 0).trans Hap.out
    have ag := (HE2.out.cellAt (w.heap.size + 1 + 1) (by omega) 0).trans Hag.out
    have b0 := (HE2.out.cellAt (w.heap.size + 1 + 1 + 1) (by omega) 0).trans Hb0.out
    have b1 := (HE2.out.cellAt (w.heap.size + 1 + 1 + 1) (by omega) 1).trans Hb1.out
    have b2 := (HE2.out.cellAt (w.heap.size + 1 + 1 + 1) (by omega) 2).trans Hb2.out
    have b3 := (HE2.out.cellAt (w.heap.size + 1 + 1 + 1) (by omega) 3).trans Hb3.out
    go_wp2_with fail
    refine (cG.out w2 (HE2.out)).mono ?_
    rintro e w3 ⟨rfl, he3⟩
    have HE3 := Lib.hid (Ext.trans (HE2.out) he3)
    clear a0 a1 ap ag b0 b1 b2 b3 he3
    have a0 := (HE3.out.cellAt (w.heap.size) (by omega) 0).trans Ha0.out
    have a1 := (HE3.out.cellAt (w.heap.size) (by omega) 1).trans Ha1.out
    have ap := (HE3.out.cellAt (w.heap.size + 1) (by omega) 0).trans Hap.out
    have ag := (HE3.out.cellAt (w.heap.size + 1 + 1) (by omega) 0).trans Hag.out
    have b0 := (HE3.out.cellAt (w.heap.size + 1 + 1 + 1) (by omega) 0).trans Hb0.out
    have b1 := (HE3.out.cellAt (w.heap.size + 1 + 1 + 1) (by omega) 1).trans Hb1.out
    have b2 := (HE3.out.cellAt (w.heap.size + 1 + 1 + 1) (by omega) 2).trans Hb2.out
    have b3 := (HE3.out.cellAt (w.heap.size + 1 + 1 + 1) (by omega) 3).trans Hb3.out
    go_wp2_with (first | (with_reducible exact fail) | (go_at_call 59; first | (with_reducible refine (cF.out _).mono ?_; rintro e w9 ⟨rfl, rfl⟩) | (with_reducible refine (cS.out _).mono ?_; rintro e w9 ⟨rfl, rfl⟩)))
    refine (cN1.out w3 (HE3.out)).mono ?_
    rintro e w4 ⟨rfl, he4⟩
    have HE4 := Lib.hid (Ext.trans (HE3.out) he4)
    clear a0 a1 ap ag b0 b1 b2 b3 he4
    have a0 := (HE4.out.cellAt (w.heap.size) (by omega) 0).trans Ha0.out
    have a1 := (HE4.out.cellAt (w.heap.size) (by omega) 1).trans Ha1.out
    have ap := (HE4.out.cellAt (w.heap.size + 1) (by omega) 0).trans Hap.out
    have ag := (HE4.out.cellAt (w.heap.size + 1 + 1) (by omega) 0).trans Hag.out
    have b0 := (HE4.out.cellAt (w.heap.size + 1 + 1 + 1) (by omega) 0).trans Hb0.out
    have b1 := (HE4.out.cellAt (w.heap.size + 1 + 1 + 1) (by omega) 1).trans Hb1.out
    have b2 := (HE4.out.cellAt (w.heap.size + 1 + 1 + 1) (by omega) 2).trans Hb2.out
    have b3 := (HE4.out.cellAt (w.heap.size + 1 + 1 + 1) (by omega) 3).trans Hb3.out
    go_wp2_with fail
    refine (cN2.out w4 (HE4.out)).mono ?_
    rintro e w5 ⟨rfl, he5⟩
    have HE5 := Lib.hid (Ext.trans (HE4.out) he5)
    clear a0 a1 ap ag b0 b1 b2 b3 he5
    have a0 := (HE5.out.cellAt (w.heap.size) (by omega) 0).trans Ha0.out
    have a1 := (HE5.out.cellAt (w.heap.size) (by omega) 1).trans Ha1.out
    have ap := (HE5.out.cellAt (w.heap.size + 1) (by omega) 0).trans Hap.out
    have ag := (HE5.out.cellAt (w.heap.size + 1 + 1) (by omega) 0).trans Hag.out
    have b0 := (HE5.out.cellAt (w.heap.size + 1 + 1 + 1) (by omega) 0).trans Hb0.out
    have b1 := (HE5.out.cellAt (w.heap.size + 1 + 1 + 1) (by omega) 1).trans Hb1.out
    have b2 := (HE5.out.cellAt (w.heap.size + 1 + 1 + 1) (by omega) 2).trans Hb2.out
    have b3 := (HE5.out.cellAt (w.heap.size + 1 + 1 + 1) (by omega) 3).trans Hb3.out
    go_wp2_with fail
    go_ret
    exact ⟨ret_bool HF.out.symm, HE.out.trans (HE5.out)⟩
end Go.Proofs.Ytcmbjkidgemdaaa
