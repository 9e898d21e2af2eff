/- Contract of the reference's CanMove; no condition but what stands at each theorem. -/
import Derived.Test.YtcmbjkidgemdaaaSHk
namespace Go.Proofs.Ytcmbjkidgemdaaa
set_option linter.unusedSimpArgs false
set_option linter.unusedVariables false
open Go.RowKit Go.Sort
theorem spec_l35Near (x y z : Int) (w : World) : Calls Try.prog 71 #[.int .i64 x, .int .i64 y, .int .i64 z] w fun e w' => e = .returned (.bool ((x == y) || (x == z))) ∧ w = w' := by
  cases e1 : (x == y)
  · cases e2 : (x == z)
    all_goals go_enter Try.func71, Try.ntmps71
    all_goals go_wp2_with fail
    all_goals go_ret
    all_goals exact ⟨rfl, rfl⟩
  · go_enter Try.func71, Try.ntmps71
    go_wp2_with fail
    go_ret
    exact ⟨rfl, rfl⟩
set_option maxRecDepth 100000 in
set_option maxHeartbeats 8000000 in
theorem spec_CanMove (H : Int) (A : Option Addr) (n c : Nat) (ds : List GDoor) (A1 : Option Addr) (n1 c1 : Nat) (ps : List Int) (A2 : Option Addr) (n2 c2 : Nat) (gs : List Int) (m : GMove) (w : World) (hx : Rd w 2 A n (ds.flatMap GDoor.enc)) (hx1 : Rd w 1 A1 n1 (ps.flatMap ienc)) (hx2 : Rd w 1 A2 n2 (gs.flatMap ienc)) :
    Calls Try.prog 30 #[.agg #[.int .i64 H, .slice A n c], .slice A1 n1 c1, .slice A2 n2 c2, .agg #[.int .i64 m.o, .int .i64 m.t, .int .i64 m.f, .int .i64 m.s]] w fun e w' => e = .returned (.bool (canMoveB H ds ps gs m)) ∧ Ext w w' := by
  obtain ⟨o, t, f, s⟩ := m
  dsimp only
  have hn1 := hx1.2.1
  have hn2 := hx2.2.1
  have hl1 := Lib.hid (hx1.len ienc_len (by omega))
  have hl2 := Lib.hid (hx2.len ienc_len (by omega))
  obtain ⟨wb, hwb⟩ : ∃ wb, wb = (w.alloc (.cells #[.int .i64 H, .slice A n c] 29)).alloc (.cells #[.int .i64 o, .int .i64 t, .int .i64 f, .int .i64 s] 49) := ⟨_, rfl⟩
  obtain ⟨hE, hsb, a0, a1, b0, b1, b2, b3⟩ := boxHM w _ _ _ _ _ _ _ _ wb hwb
  have HE := Lib.hid hE
  have Hwb := Lib.hid hwb
  have Ha0 := Lib.hid a0
  have Ha1 := Lib.hid a1
  have Hb0 := Lib.hid b0
  have Hb1 := Lib.hid b1
  have Hb2 := Lib.hid b2
  have Hb3 := Lib.hid b3
  have hxb := Lib.hid (hx.keep hE)
  have hxb1 := Lib.hid (hx1.keep hE)
  have hxb2 := Lib.hid (hx2.keep hE)
  have cP := Lib.hid (spec_PlacesOk H A n c ds A1 n1 c1 ps wb hxb.out hxb1.out)
  clear hE hwb a0 a1 b0 b1 b2 b3 hx hx1 hx2
  cases hP : placesB H ds ps
  case false =>
    rw [hP] at cP
    have HF : Hid (canMoveB H ds ps gs ⟨o, t, f, s⟩ = false) := by unfold Hid canMoveB goB hasDoorB; simp [hP]
    clear hP
    go_enter Try.func30, Try.ntmps30
    go_wp2_with fail
    rw [← Hwb.out]
    refine cP.out.mono ?_
    rintro e w1 ⟨rfl, he1⟩
    have HE1 := Lib.hid he1
    have a0 := (HE1.out.cellAt (w.heap.size) (by omega) 0).trans Ha0.out
    have a1 := (HE1.out.cellAt (w.heap.size) (by omega) 1).trans Ha1.out
    have b0 := (HE1.out.cellAt (w.heap.size + 1) (by omega) 0).trans Hb0.out
    have b1 := (HE1.out.cellAt (w.heap.size + 1) (by omega) 1).trans Hb1.out
    have b2 := (HE1.out.cellAt (w.heap.size + 1) (by omega) 2).trans Hb2.out
    have b3 := (HE1.out.cellAt (w.heap.size + 1) (by omega) 3).trans Hb3.out
    clear he1
    go_wp2_with fail
    go_ret
    exact ⟨ret_bool HF.out.symm, HE.out.trans (HE1.out)⟩
  rw [hP] at cP
  have cH := Lib.hid (fun w1 he => spec_l31Halls H A n c ds A2 n2 c2 gs w1 (hxb.out.keep he) (hxb2.out.keep (w' := w1) he))
  cases hH : hallsB H ds gs
  case false =>
    rw [hH] at cH
    have HF : Hid (canMoveB H ds ps gs ⟨o, t, f, s⟩ = false) := by unfold Hid canMoveB goB hasDoorB; simp [hH]
    clear hP hH
    go_enter Try.func30, Try.ntmps30
    go_wp2_with fail
    rw [← Hwb.out]
    refine cP.out.mono ?_
    rintro e w1 ⟨rfl, he1⟩
    have HE1 := Lib.hid he1
    have a0 := (HE1.out.cellAt (w.heap.size) (by omega) 0).trans Ha0.out
    have a1 := (HE1.out.cellAt (w.heap.size) (by omega) 1).trans Ha1.out
    have b0 := (HE1.out.cellAt (w.heap.size + 1) (by omega) 0).trans Hb0.out
    have b1 := (HE1.out.cellAt (w.heap.size + 1) (by omega) 1).trans Hb1.out
    have b2 := (HE1.out.cellAt (w.heap.size + 1) (by omega) 2).trans Hb2.out
    have b3 := (HE1.out.cellAt (w.heap.size + 1) (by omega) 3).trans Hb3.out
    clear he1
    go_wp2_with fail
    refine (cH.out w1 (HE1.out)).mono ?_
    rintro e w2 ⟨rfl, he2⟩
    have HE2 := Lib.hid (Ext.trans (HE1.out) he2)
    clear a0 a1 b0 b1 b2 b3 he2
    have a0 := (HE2.out.cellAt (w.heap.size) (by omega) 0).trans Ha0.out
    have a1 := (HE2.out.cellAt (w.heap.size) (by omega) 1).trans Ha1.out
    have b0 := (HE2.out.cellAt (w.heap.size + 1) (by omega) 0).trans Hb0.out
    have b1 := (HE2.out.cellAt (w.heap.size + 1) (by omega) 1).trans Hb1.out
    have b2 := (HE2.out.cellAt (w.heap.size + 1) (by omega) 2).trans Hb2.out
    have b3 := (HE2.out.cellAt (w.heap.size + 1) (by omega) 3).trans Hb3.out
    go_wp2_with (go_at_call 56; first | (with_reducible refine (cO.out _).mono ?_; rintro e w9 ⟨rfl, rfl⟩) | (with_reducible refine (cT.out _).mono ?_; rintro e w9 ⟨rfl, rfl⟩) | (with_reducible refine (cF.out _).mono ?_; rintro e w9 ⟨rfl, rfl⟩) | (with_reducible refine (cS.out _).mono ?_; rintro e w9 ⟨rfl, rfl⟩))
    go_ret
    exact ⟨ret_bool HF.out.symm, HE.out.trans (HE2.out)⟩
  rw [hH] at cH
  by_cases h6 : n2 ≤ 6
  case neg =>
    have HF : Hid (canMoveB H ds ps gs ⟨o, t, f, s⟩ = false) := by unfold Hid canMoveB goB hasDoorB; simp [hl2.out, h6]
    clear hP hH
    go_enter Try.func30, Try.ntmps30
    go_wp2_with fail
    rw [← Hwb.out]
    refine cP.out.mono ?_
    rintro e w1 ⟨rfl, he1⟩
    have HE1 := Lib.hid he1
    have a0 := (HE1.out.cellAt (w.heap.size) (by omega) 0).trans Ha0.out
    have a1 := (HE1.out.cellAt (w.heap.size) (by omega) 1).trans Ha1.out
    have b0 := (HE1.out.cellAt (w.heap.size + 1) (by omega) 0).trans Hb0.out
    have b1 := (HE1.out.cellAt (w.heap.size + 1) (by omega) 1).trans Hb1.out
    have b2 := (HE1.out.cellAt (w.heap.size + 1) (by omega) 2).trans Hb2.out
    have b3 := (HE1.out.cellAt (w.heap.size + 1) (by omega) 3).trans Hb3.out
    clear he1
    go_wp2_with fail
    refine (cH.out w1 (HE1.out)).mono ?_
    rintro e w2 ⟨rfl, he2⟩
    have HE2 := Lib.hid (Ext.trans (HE1.out) he2)
    clear a0 a1 b0 b1 b2 b3 he2
    have a0 := (HE2.out.cellAt (w.heap.size) (by omega) 0).trans Ha0.out
    have a1 := (HE2.out.cellAt (w.heap.size) (by omega) 1).trans Ha1.out
    have b0 := (HE2.out.cellAt (w.heap.size + 1) (by omega) 0).trans Hb0.out
    have b1 := (HE2.out.cellAt (w.heap.size + 1) (by omega) 1).trans Hb1.out
    have b2 := (HE2.out.cellAt (w.heap.size + 1) (by omega) 2).trans Hb2.out
    have b3 := (HE2.out.cellAt (w.heap.size + 1) (by omega) 3).trans Hb3.out
    go_wp2_with (go_at_call 56; first | (with_reducible refine (cO.out _).mono ?_; rintro e w9 ⟨rfl, rfl⟩) | (with_reducible refine (cT.out _).mono ?_; rintro e w9 ⟨rfl, rfl⟩) | (with_reducible refine (cF.out _).mono ?_; rintro e w9 ⟨rfl, rfl⟩) | (with_reducible refine (cS.out _).mono ?_; rintro e w9 ⟨rfl, rfl⟩))
    go_ret
    exact ⟨ret_bool HF.out.symm, HE.out.trans (HE2.out)⟩
  have cO := Lib.hid (fun W => spec_l01In o 0 ((n1 : Int) - 1) W)
  have cT := Lib.hid (fun W => spec_l01In t 0 (wrap64 (H - 1)) W)
  have cF := Lib.hid (fun W => spec_l01In f 0 ((n2 : Int) - 1) W)
  have cS := Lib.hid (fun W => spec_l01In s 0 ((n2 : Int) - 1) W)
  cases hO : inB o 0 ((n1 : Int) - 1)
  case false =>
    rw [hO] at cO
    have HF : Hid (canMoveB H ds ps gs ⟨o, t, f, s⟩ = false) := by unfold Hid canMoveB goB hasDoorB; simp [hl1.out, hO]
    clear hP hH hO
    go_enter Try.func30, Try.ntmps30
    go_wp2_with fail
    rw [← Hwb.out]
    refine cP.out.mono ?_
    rintro e w1 ⟨rfl, he1⟩
    have HE1 := Lib.hid he1
    have a0 := (HE1.out.cellAt (w.heap.size) (by omega) 0).trans Ha0.out
    have a1 := (HE1.out.cellAt (w.heap.size) (by omega) 1).trans Ha1.out
    have b0 := (HE1.out.cellAt (w.heap.size + 1) (by omega) 0).trans Hb0.out
    have b1 := (HE1.out.cellAt (w.heap.size + 1) (by omega) 1).trans Hb1.out
    have b2 := (HE1.out.cellAt (w.heap.size + 1) (by omega) 2).trans Hb2.out
    have b3 := (HE1.out.cellAt (w.heap.size + 1) (by omega) 3).trans Hb3.out
    clear he1
    go_wp2_with fail
    refine (cH.out w1 (HE1.out)).mono ?_
    rintro e w2 ⟨rfl, he2⟩
    have HE2 := Lib.hid (Ext.trans (HE1.out) he2)
    clear a0 a1 b0 b1 b2 b3 he2
    have a0 := (HE2.out.cellAt (w.heap.size) (by omega) 0).trans Ha0.out
    have a1 := (HE2.out.cellAt (w.heap.size) (by omega) 1).trans Ha1.out
    have b0 := (HE2.out.cellAt (w.heap.size + 1) (by omega) 0).trans Hb0.out
    have b1 := (HE2.out.cellAt (w.heap.size + 1) (by omega) 1).trans Hb1.out
    have b2 := (HE2.out.cellAt (w.heap.size + 1) (by omega) 2).trans Hb2.out
    have b3 := (HE2.out.cellAt (w.heap.size + 1) (by omega) 3).trans Hb3.out
    go_wp2_with (go_at_call 56; first | (with_reducible refine (cO.out _).mono ?_; rintro e w9 ⟨rfl, rfl⟩) | (with_reducible refine (cT.out _).mono ?_; rintro e w9 ⟨rfl, rfl⟩) | (with_reducible refine (cF.out _).mono ?_; rintro e w9 ⟨rfl, rfl⟩) | (with_reducible refine (cS.out _).mono ?_; rintro e w9 ⟨rfl, rfl⟩))
    go_ret
    exact ⟨ret_bool HF.out.symm, HE.out.trans (HE2.out)⟩
  rw [hO] at cO
  cases hT : inB t 0 (wrap64 (H - 1))
  case false =>
    rw [hT] at cT
    have HF : Hid (canMoveB H ds ps gs ⟨o, t, f, s⟩ = false) := by unfold Hid canMoveB goB hasDoorB; simp [hallB, hT]
    clear hP hH hO hT
    go_enter Try.func30, Try.ntmps30
    go_wp2_with fail
    rw [← Hwb.out]
    refine cP.out.mono ?_
    rintro e w1 ⟨rfl, he1⟩
    have HE1 := Lib.hid he1
    have a0 := (HE1.out.cellAt (w.heap.size) (by omega) 0).trans Ha0.out
    have a1 := (HE1.out.cellAt (w.heap.size) (by omega) 1).trans Ha1.out
    have b0 := (HE1.out.cellAt (w.heap.size + 1) (by omega) 0).trans Hb0.out
    have b1 := (HE1.out.cellAt (w.heap.size + 1) (by omega) 1).trans Hb1.out
    have b2 := (HE1.out.cellAt (w.heap.size + 1) (by omega) 2).trans Hb2.out
    have b3 := (HE1.out.cellAt (w.heap.size + 1) (by omega) 3).trans Hb3.out
    clear he1
    go_wp2_with fail
    refine (cH.out w1 (HE1.out)).mono ?_
    rintro e w2 ⟨rfl, he2⟩
    have HE2 := Lib.hid (Ext.trans (HE1.out) he2)
    clear a0 a1 b0 b1 b2 b3 he2
    have a0 := (HE2.out.cellAt (w.heap.size) (by omega) 0).trans Ha0.out
    have a1 := (HE2.out.cellAt (w.heap.size) (by omega) 1).trans Ha1.out
    have b0 := (HE2.out.cellAt (w.heap.size + 1) (by omega) 0).trans Hb0.out
    have b1 := (HE2.out.cellAt (w.heap.size + 1) (by omega) 1).trans Hb1.out
    have b2 := (HE2.out.cellAt (w.heap.size + 1) (by omega) 2).trans Hb2.out
    have b3 := (HE2.out.cellAt (w.heap.size + 1) (by omega) 3).trans Hb3.out
    go_wp2_with (go_at_call 56; first | (with_reducible refine (cO.out _).mono ?_; rintro e w9 ⟨rfl, rfl⟩) | (with_reducible refine (cT.out _).mono ?_; rintro e w9 ⟨rfl, rfl⟩) | (with_reducible refine (cF.out _).mono ?_; rintro e w9 ⟨rfl, rfl⟩) | (with_reducible refine (cS.out _).mono ?_; rintro e w9 ⟨rfl, rfl⟩))
    go_ret
    exact ⟨ret_bool HF.out.symm, HE.out.trans (HE2.out)⟩
  rw [hT] at cT
  have hos : 0 ≤ o ∧ o ≤ (n1 : Int) - 1 := by simpa [inB] using hO
  obtain ⟨j, rfl⟩ := Int.eq_ofNat_of_zero_le hos.1
  have hj : j < n1 := by omega
  clear hos
  obtain ⟨bp, offp, x, rfl, hbp, hxk, q0⟩ := ienc_at hxb1.out hj
  have hX : ps.getD j 0 = x := getD_of' hxk
  have HQ := Lib.hid q0
  have Hq0 := HQ
  clear HQ q0 hxk
  have cD := Lib.hid (fun w1 (he : Ext wb w1) => spec_l23Door H A n c ds x t w1 (hxb.out.keep he))
  cases hX2 : (x == t)
  case true =>
    have hxt : x = t := by simpa using hX2
    have hself := doorB_self (hallsB_house hH) t
    have HF : Hid (canMoveB H ds ps gs ⟨j, t, f, s⟩ = false) := by unfold Hid canMoveB goB hasDoorB; simp only [Int.toNat_natCast, Bool.and_false, Bool.false_and, hX, hxt, hself]
    clear hP hH hO hT hX hxt hself
    go_enter Try.func30, Try.ntmps30
    go_wp2_with fail
    rw [← Hwb.out]
    refine cP.out.mono ?_
    rintro e w1 ⟨rfl, he1⟩
    have HE1 := Lib.hid he1
    have a0 := (HE1.out.cellAt (w.heap.size) (by omega) (0)).trans Ha0.out
    have a1 := (HE1.out.cellAt (w.heap.size) (by omega) (1)).trans Ha1.out
    have b0 := (HE1.out.cellAt (w.heap.size + 1) (by omega) (0)).trans Hb0.out
    have b1 := (HE1.out.cellAt (w.heap.size + 1) (by omega) (1)).trans Hb1.out
    have b2 := (HE1.out.cellAt (w.heap.size + 1) (by omega) (2)).trans Hb2.out
    have b3 := (HE1.out.cellAt (w.heap.size + 1) (by omega) (3)).trans Hb3.out
    have q0 := (HE1.out.cellAt (bp) (by omega) (offp + j)).trans Hq0.out
    clear he1
    go_wp2_with fail
    refine (cH.out w1 (HE1.out)).mono ?_
    rintro e w2 ⟨rfl, he2⟩
    have HE2 := Lib.hid (Ext.trans (HE1.out) he2)
    clear a0 a1 b0 b1 b2 b3 he2
    have a0 := (HE2.out.cellAt (w.heap.size) (by omega) (0)).trans Ha0.out
    have a1 := (HE2.out.cellAt (w.heap.size) (by omega) (1)).trans Ha1.out
    have b0 := (HE2.out.cellAt (w.heap.size + 1) (by omega) (0)).trans Hb0.out
    have b1 := (HE2.out.cellAt (w.heap.size + 1) (by omega) (1)).trans Hb1.out
    have b2 := (HE2.out.cellAt (w.heap.size + 1) (by omega) (2)).trans Hb2.out
    have b3 := (HE2.out.cellAt (w.heap.size + 1) (by omega) (3)).trans Hb3.out
    have q0 := (HE2.out.cellAt (bp) (by omega) (offp + j)).trans Hq0.out
    go_wp2_with (go_at_call 56; first | (with_reducible refine (cO.out _).mono ?_; rintro e w9 ⟨rfl, rfl⟩) | (with_reducible refine (cT.out _).mono ?_; rintro e w9 ⟨rfl, rfl⟩) | (with_reducible refine (cF.out _).mono ?_; rintro e w9 ⟨rfl, rfl⟩) | (with_reducible refine (cS.out _).mono ?_; rintro e w9 ⟨rfl, rfl⟩))
    go_ret
    exact ⟨ret_bool HF.out.symm, HE.out.trans (HE2.out)⟩
  cases hD : doorB ds x t
  case false =>
    rw [hD] at cD
    have HF : Hid (canMoveB H ds ps gs ⟨j, t, f, s⟩ = false) := by unfold Hid canMoveB goB hasDoorB; simp only [Int.toNat_natCast, Bool.and_false, Bool.false_and, hX, hD]
    clear hP hH hO hT hX hD
    go_enter Try.func30, Try.ntmps30
    go_wp2_with fail
    rw [← Hwb.out]
    refine cP.out.mono ?_
    rintro e w1 ⟨rfl, he1⟩
    have HE1 := Lib.hid he1
    have a0 := (HE1.out.cellAt (w.heap.size) (by omega) (0)).trans Ha0.out
    have a1 := (HE1.out.cellAt (w.heap.size) (by omega) (1)).trans Ha1.out
    have b0 := (HE1.out.cellAt (w.heap.size + 1) (by omega) (0)).trans Hb0.out
    have b1 := (HE1.out.cellAt (w.heap.size + 1) (by omega) (1)).trans Hb1.out
    have b2 := (HE1.out.cellAt (w.heap.size + 1) (by omega) (2)).trans Hb2.out
    have b3 := (HE1.out.cellAt (w.heap.size + 1) (by omega) (3)).trans Hb3.out
    have q0 := (HE1.out.cellAt (bp) (by omega) (offp + j)).trans Hq0.out
    clear he1
    go_wp2_with fail
    refine (cH.out w1 (HE1.out)).mono ?_
    rintro e w2 ⟨rfl, he2⟩
    have HE2 := Lib.hid (Ext.trans (HE1.out) he2)
    clear a0 a1 b0 b1 b2 b3 he2
    have a0 := (HE2.out.cellAt (w.heap.size) (by omega) (0)).trans Ha0.out
    have a1 := (HE2.out.cellAt (w.heap.size) (by omega) (1)).trans Ha1.out
    have b0 := (HE2.out.cellAt (w.heap.size + 1) (by omega) (0)).trans Hb0.out
    have b1 := (HE2.out.cellAt (w.heap.size + 1) (by omega) (1)).trans Hb1.out
    have b2 := (HE2.out.cellAt (w.heap.size + 1) (by omega) (2)).trans Hb2.out
    have b3 := (HE2.out.cellAt (w.heap.size + 1) (by omega) (3)).trans Hb3.out
    have q0 := (HE2.out.cellAt (bp) (by omega) (offp + j)).trans Hq0.out
    go_wp2_with (go_at_call 56; first | (with_reducible refine (cO.out _).mono ?_; rintro e w9 ⟨rfl, rfl⟩) | (with_reducible refine (cT.out _).mono ?_; rintro e w9 ⟨rfl, rfl⟩) | (with_reducible refine (cF.out _).mono ?_; rintro e w9 ⟨rfl, rfl⟩) | (with_reducible refine (cS.out _).mono ?_; rintro e w9 ⟨rfl, rfl⟩))
    refine (cD.out w2 (HE2.out)).mono ?_
    rintro e w3 ⟨rfl, he3⟩
    have HE3 := Lib.hid (Ext.trans (HE2.out) he3)
    clear a0 a1 b0 b1 b2 b3 he3
    have a0 := (HE3.out.cellAt (w.heap.size) (by omega) (0)).trans Ha0.out
    have a1 := (HE3.out.cellAt (w.heap.size) (by omega) (1)).trans Ha1.out
    have b0 := (HE3.out.cellAt (w.heap.size + 1) (by omega) (0)).trans Hb0.out
    have b1 := (HE3.out.cellAt (w.heap.size + 1) (by omega) (1)).trans Hb1.out
    have b2 := (HE3.out.cellAt (w.heap.size + 1) (by omega) (2)).trans Hb2.out
    have b3 := (HE3.out.cellAt (w.heap.size + 1) (by omega) (3)).trans Hb3.out
    have q0 := (HE3.out.cellAt (bp) (by omega) (offp + j)).trans Hq0.out
    go_wp2_with (go_at_call 56; first | (with_reducible refine (cO.out _).mono ?_; rintro e w9 ⟨rfl, rfl⟩) | (with_reducible refine (cT.out _).mono ?_; rintro e w9 ⟨rfl, rfl⟩) | (with_reducible refine (cF.out _).mono ?_; rintro e w9 ⟨rfl, rfl⟩) | (with_reducible refine (cS.out _).mono ?_; rintro e w9 ⟨rfl, rfl⟩))
    go_ret
    exact ⟨ret_bool HF.out.symm, HE.out.trans (HE3.out)⟩
  rw [hD] at cD
  cases hE : (f == s)
  case true =>
    have hEq : f = s := by simpa using hE
    have HF : Hid (canMoveB H ds ps gs ⟨j, t, f, s⟩ = false) := by unfold Hid canMoveB goB hasDoorB; simp [hEq]
    clear hP hH hO hT hX hD hEq
    go_enter Try.func30, Try.ntmps30
    go_wp2_with fail
    rw [← Hwb.out]
    refine cP.out.mono ?_
    rintro e w1 ⟨rfl, he1⟩
    have HE1 := Lib.hid he1
    have a0 := (HE1.out.cellAt (w.heap.size) (by omega) (0)).trans Ha0.out
    have a1 := (HE1.out.cellAt (w.heap.size) (by omega) (1)).trans Ha1.out
    have b0 := (HE1.out.cellAt (w.heap.size + 1) (by omega) (0)).trans Hb0.out
    have b1 := (HE1.out.cellAt (w.heap.size + 1) (by omega) (1)).trans Hb1.out
    have b2 := (HE1.out.cellAt (w.heap.size + 1) (by omega) (2)).trans Hb2.out
    have b3 := (HE1.out.cellAt (w.heap.size + 1) (by omega) (3)).trans Hb3.out
    have q0 := (HE1.out.cellAt (bp) (by omega) (offp + j)).trans Hq0.out
    clear he1
    go_wp2_with fail
    refine (cH.out w1 (HE1.out)).mono ?_
    rintro e w2 ⟨rfl, he2⟩
    have HE2 := Lib.hid (Ext.trans (HE1.out) he2)
    clear a0 a1 b0 b1 b2 b3 he2
    have a0 := (HE2.out.cellAt (w.heap.size) (by omega) (0)).trans Ha0.out
    have a1 := (HE2.out.cellAt (w.heap.size) (by omega) (1)).trans Ha1.out
    have b0 := (HE2.out.cellAt (w.heap.size + 1) (by omega) (0)).trans Hb0.out
    have b1 := (HE2.out.cellAt (w.heap.size + 1) (by omega) (1)).trans Hb1.out
    have b2 := (HE2.out.cellAt (w.heap.size + 1) (by omega) (2)).trans Hb2.out
    have b3 := (HE2.out.cellAt (w.heap.size + 1) (by omega) (3)).trans Hb3.out
    have q0 := (HE2.out.cellAt (bp) (by omega) (offp + j)).trans Hq0.out
    go_wp2_with (go_at_call 56; first | (with_reducible refine (cO.out _).mono ?_; rintro e w9 ⟨rfl, rfl⟩) | (with_reducible refine (cT.out _).mono ?_; rintro e w9 ⟨rfl, rfl⟩) | (with_reducible refine (cF.out _).mono ?_; rintro e w9 ⟨rfl, rfl⟩) | (with_reducible refine (cS.out _).mono ?_; rintro e w9 ⟨rfl, rfl⟩))
    refine (cD.out w2 (HE2.out)).mono ?_
    rintro e w3 ⟨rfl, he3⟩
    have HE3 := Lib.hid (Ext.trans (HE2.out) he3)
    clear a0 a1 b0 b1 b2 b3 he3
    have a0 := (HE3.out.cellAt (w.heap.size) (by omega) (0)).trans Ha0.out
    have a1 := (HE3.out.cellAt (w.heap.size) (by omega) (1)).trans Ha1.out
    have b0 := (HE3.out.cellAt (w.heap.size + 1) (by omega) (0)).trans Hb0.out
    have b1 := (HE3.out.cellAt (w.heap.size + 1) (by omega) (1)).trans Hb1.out
    have b2 := (HE3.out.cellAt (w.heap.size + 1) (by omega) (2)).trans Hb2.out
    have b3 := (HE3.out.cellAt (w.heap.size + 1) (by omega) (3)).trans Hb3.out
    have q0 := (HE3.out.cellAt (bp) (by omega) (offp + j)).trans Hq0.out
    go_wp2_with (go_at_call 56; first | (with_reducible refine (cO.out _).mono ?_; rintro e w9 ⟨rfl, rfl⟩) | (with_reducible refine (cT.out _).mono ?_; rintro e w9 ⟨rfl, rfl⟩) | (with_reducible refine (cF.out _).mono ?_; rintro e w9 ⟨rfl, rfl⟩) | (with_reducible refine (cS.out _).mono ?_; rintro e w9 ⟨rfl, rfl⟩))
    go_ret
    exact ⟨ret_bool HF.out.symm, HE.out.trans (HE3.out)⟩
  cases hF : inB f 0 ((n2 : Int) - 1)
  case false =>
    rw [hF] at cF
    have HF : Hid (canMoveB H ds ps gs ⟨j, t, f, s⟩ = false) := by unfold Hid canMoveB goB hasDoorB; simp [hl2.out, hF]
    clear hP hH hO hT hX hD hF
    go_enter Try.func30, Try.ntmps30
    go_wp2_with fail
    rw [← Hwb.out]
    refine cP.out.mono ?_
    rintro e w1 ⟨rfl, he1⟩
    have HE1 := Lib.hid he1
    have a0 := (HE1.out.cellAt (w.heap.size) (by omega) (0)).trans Ha0.out
    have a1 := (HE1.out.cellAt (w.heap.size) (by omega) (1)).trans Ha1.out
    have b0 := (HE1.out.cellAt (w.heap.size + 1) (by omega) (0)).trans Hb0.out
    have b1 := (HE1.out.cellAt (w.heap.size + 1) (by omega) (1)).trans Hb1.out
    have b2 := (HE1.out.cellAt (w.heap.size + 1) (by omega) (2)).trans Hb2.out
    have b3 := (HE1.out.cellAt (w.heap.size + 1) (by omega) (3)).trans Hb3.out
    have q0 := (HE1.out.cellAt (bp) (by omega) (offp + j)).trans Hq0.out
    clear he1
    go_wp2_with fail
    refine (cH.out w1 (HE1.out)).mono ?_
    rintro e w2 ⟨rfl, he2⟩
    have HE2 := Lib.hid (Ext.trans (HE1.out) he2)
    clear a0 a1 b0 b1 b2 b3 he2
    have a0 := (HE2.out.cellAt (w.heap.size) (by omega) (0)).trans Ha0.out
    have a1 := (HE2.out.cellAt (w.heap.size) (by omega) (1)).trans Ha1.out
    have b0 := (HE2.out.cellAt (w.heap.size + 1) (by omega) (0)).trans Hb0.out
    have b1 := (HE2.out.cellAt (w.heap.size + 1) (by omega) (1)).trans Hb1.out
    have b2 := (HE2.out.cellAt (w.heap.size + 1) (by omega) (2)).trans Hb2.out
    have b3 := (HE2.out.cellAt (w.heap.size + 1) (by omega) (3)).trans Hb3.out
    have q0 := (HE2.out.cellAt (bp) (by omega) (offp + j)).trans Hq0.out
    go_wp2_with (go_at_call 56; first | (with_reducible refine (cO.out _).mono ?_; rintro e w9 ⟨rfl, rfl⟩) | (with_reducible refine (cT.out _).mono ?_; rintro e w9 ⟨rfl, rfl⟩) | (with_reducible refine (cF.out _).mono ?_; rintro e w9 ⟨rfl, rfl⟩) | (with_reducible refine (cS.out _).mono ?_; rintro e w9 ⟨rfl, rfl⟩))
    refine (cD.out w2 (HE2.out)).mono ?_
    rintro e w3 ⟨rfl, he3⟩
    have HE3 := Lib.hid (Ext.trans (HE2.out) he3)
    clear a0 a1 b0 b1 b2 b3 he3
    have a0 := (HE3.out.cellAt (w.heap.size) (by omega) (0)).trans Ha0.out
    have a1 := (HE3.out.cellAt (w.heap.size) (by omega) (1)).trans Ha1.out
    have b0 := (HE3.out.cellAt (w.heap.size + 1) (by omega) (0)).trans Hb0.out
    have b1 := (HE3.out.cellAt (w.heap.size + 1) (by omega) (1)).trans Hb1.out
    have b2 := (HE3.out.cellAt (w.heap.size + 1) (by omega) (2)).trans Hb2.out
    have b3 := (HE3.out.cellAt (w.heap.size + 1) (by omega) (3)).trans Hb3.out
    have q0 := (HE3.out.cellAt (bp) (by omega) (offp + j)).trans Hq0.out
    go_wp2_with (go_at_call 56; first | (with_reducible refine (cO.out _).mono ?_; rintro e w9 ⟨rfl, rfl⟩) | (with_reducible refine (cT.out _).mono ?_; rintro e w9 ⟨rfl, rfl⟩) | (with_reducible refine (cF.out _).mono ?_; rintro e w9 ⟨rfl, rfl⟩) | (with_reducible refine (cS.out _).mono ?_; rintro e w9 ⟨rfl, rfl⟩))
    go_ret
    exact ⟨ret_bool HF.out.symm, HE.out.trans (HE3.out)⟩
  rw [hF] at cF
  cases hS : inB s 0 ((n2 : Int) - 1)
  case false =>
    rw [hS] at cS
    have HF : Hid (canMoveB H ds ps gs ⟨j, t, f, s⟩ = false) := by unfold Hid canMoveB goB hasDoorB; simp [hl2.out, hS]
    clear hP hH hO hT hX hD hF hS
    go_enter Try.func30, Try.ntmps30
    go_wp2_with fail
    rw [← Hwb.out]
    refine cP.out.mono ?_
    rintro e w1 ⟨rfl, he1⟩
    have HE1 := Lib.hid he1
    have a0 := (HE1.out.cellAt (w.heap.size) (by omega) (0)).trans Ha0.out
    have a1 := (HE1.out.cellAt (w.heap.size) (by omega) (1)).trans Ha1.out
    have b0 := (HE1.out.cellAt (w.heap.size + 1) (by omega) (0)).trans Hb0.out
    have b1 := (HE1.out.cellAt (w.heap.size + 1) (by omega) (1)).trans Hb1.out
    have b2 := (HE1.out.cellAt (w.heap.size + 1) (by omega) (2)).trans Hb2.out
    have b3 := (HE1.out.cellAt (w.heap.size + 1) (by omega) (3)).trans Hb3.out
    have q0 := (HE1.out.cellAt (bp) (by omega) (offp + j)).trans Hq0.out
    clear he1
    go_wp2_with fail
    refine (cH.out w1 (HE1.out)).mono ?_
    rintro e w2 ⟨rfl, he2⟩
    have HE2 := Lib.hid (Ext.trans (HE1.out) he2)
    clear a0 a1 b0 b1 b2 b3 he2
    have a0 := (HE2.out.cellAt (w.heap.size) (by omega) (0)).trans Ha0.out
    have a1 := (HE2.out.cellAt (w.heap.size) (by omega) (1)).trans Ha1.out
    have b0 := (HE2.out.cellAt (w.heap.size + 1) (by omega) (0)).trans Hb0.out
    have b1 := (HE2.out.cellAt (w.heap.size + 1) (by omega) (1)).trans Hb1.out
    have b2 := (HE2.out.cellAt (w.heap.size + 1) (by omega) (2)).trans Hb2.out
    have b3 := (HE2.out.cellAt (w.heap.size + 1) (by omega) (3)).trans Hb3.out
    have q0 := (HE2.out.cellAt (bp) (by omega) (offp + j)).trans Hq0.out
    go_wp2_with (go_at_call 56; first | (with_reducible refine (cO.out _).mono ?_; rintro e w9 ⟨rfl, rfl⟩) | (with_reducible refine (cT.out _).mono ?_; rintro e w9 ⟨rfl, rfl⟩) | (with_reducible refine (cF.out _).mono ?_; rintro e w9 ⟨rfl, rfl⟩) | (with_reducible refine (cS.out _).mono ?_; rintro e w9 ⟨rfl, rfl⟩))
    refine (cD.out w2 (HE2.out)).mono ?_
    rintro e w3 ⟨rfl, he3⟩
    have HE3 := Lib.hid (Ext.trans (HE2.out) he3)
    clear a0 a1 b0 b1 b2 b3 he3
    have a0 := (HE3.out.cellAt (w.heap.size) (by omega) (0)).trans Ha0.out
    have a1 := (HE3.out.cellAt (w.heap.size) (by omega) (1)).trans Ha1.out
    have b0 := (HE3.out.cellAt (w.heap.size + 1) (by omega) (0)).trans Hb0.out
    have b1 := (HE3.out.cellAt (w.heap.size + 1) (by omega) (1)).trans Hb1.out
    have b2 := (HE3.out.cellAt (w.heap.size + 1) (by omega) (2)).trans Hb2.out
    have b3 := (HE3.out.cellAt (w.heap.size + 1) (by omega) (3)).trans Hb3.out
    have q0 := (HE3.out.cellAt (bp) (by omega) (offp + j)).trans Hq0.out
    go_wp2_with (go_at_call 56; first | (with_reducible refine (cO.out _).mono ?_; rintro e w9 ⟨rfl, rfl⟩) | (with_reducible refine (cT.out _).mono ?_; rintro e w9 ⟨rfl, rfl⟩) | (with_reducible refine (cF.out _).mono ?_; rintro e w9 ⟨rfl, rfl⟩) | (with_reducible refine (cS.out _).mono ?_; rintro e w9 ⟨rfl, rfl⟩))
    go_ret
    exact ⟨ret_bool HF.out.symm, HE.out.trans (HE3.out)⟩
  rw [hS] at cS
  have hne : (f != s) = true := by simp at hE; simp [hE]
  have hh : houseB H ds = true := hallsB_house hH
  have HV : Hid (canMoveB H ds ps gs ⟨j, t, f, s⟩ = (nearB gs ps ⟨j, t, f, s⟩ f && nearB gs ps ⟨j, t, f, s⟩ s)) := by unfold Hid canMoveB goB hasDoorB hallB; simp only [hP, hH, hh, hl1.out, hl2.out, hO, hT, Int.toNat_natCast, hX, hD, decide_eq_true h6, hF, hS, hne, Bool.true_and]
  have hfs : 0 ≤ f ∧ f ≤ (n2 : Int) - 1 := by simpa [inB] using hF
  have hss : 0 ≤ s ∧ s ≤ (n2 : Int) - 1 := by simpa [inB] using hS
  obtain ⟨kf, rfl⟩ := Int.eq_ofNat_of_zero_le hfs.1
  obtain ⟨ks, rfl⟩ := Int.eq_ofNat_of_zero_le hss.1
  have hkf : kf < n2 := by omega
  have hks : ks < n2 := by omega
  obtain ⟨bg, offg, gf, rfl, hbg, hgf, qf⟩ := ienc_at hxb2.out hkf
  obtain ⟨bg', offg', gk, hAg, hbg', hgk, qs⟩ := ienc_at hxb2.out hks
  obtain ⟨rfl, rfl⟩ : bg' = bg ∧ offg' = offg := by simp at hAg; exact ⟨hAg.1.symm, hAg.2.symm⟩
  have HQf := Lib.hid (fun w1 (he : Ext wb w1) => (he.cellAt _ (by omega) _).trans qf)
  have HQs := Lib.hid (fun w1 (he : Ext wb w1) => (he.cellAt _ (by omega) _).trans qs)
  have hNf : nearB gs ps ⟨j, t, kf, ks⟩ kf = ((gf == x) || (gf == t)) := by unfold nearB; simp only [Int.toNat_natCast, hX, getD_of' hgf]
  have hNs : nearB gs ps ⟨j, t, kf, ks⟩ ks = ((gk == x) || (gk == t)) := by unfold nearB; simp only [Int.toNat_natCast, hX, getD_of' hgk]
  have cN1 := Lib.hid (fun W => spec_l35Near gf x t W)
  have cN2 := Lib.hid (fun W => spec_l35Near gk x t W)
  rw [hNf, hNs] at HV
  clear hfs hss hne hh hP hH hO hT hX hD hF hS hNf hNs hgf hgk qf qs hAg
  cases hN : ((gf == x) || (gf == t))
  case false =>
    rw [hN] at cN1
    have HF : Hid (canMoveB H ds ps gs ⟨j, t, kf, ks⟩ = false) := by unfold Hid; rw [HV.out, hN]; rfl
    clear hN
    go_enter Try.func30, Try.ntmps30
    go_wp2_with fail
    rw [← Hwb.out]
    refine cP.out.mono ?_
    rintro e w1 ⟨rfl, he1⟩
    have HE1 := Lib.hid he1
    have a0 := (HE1.out.cellAt (w.heap.size) (by omega) (0)).trans Ha0.out
    have a1 := (HE1.out.cellAt (w.heap.size) (by omega) (1)).trans Ha1.out
    have b0 := (HE1.out.cellAt (w.heap.size + 1) (by omega) (0)).trans Hb0.out
    have b1 := (HE1.out.cellAt (w.heap.size + 1) (by omega) (1)).trans Hb1.out
    have b2 := (HE1.out.cellAt (w.heap.size + 1) (by omega) (2)).trans Hb2.out
    have b3 := (HE1.out.cellAt (w.heap.size + 1) (by omega) (3)).trans Hb3.out
    have q0 := (HE1.out.cellAt (bp) (by omega) (offp + j)).trans Hq0.out
    clear he1
    go_wp2_with fail
    refine (cH.out w1 (HE1.out)).mono ?_
    rintro e w2 ⟨rfl, he2⟩
    have HE2 := Lib.hid (Ext.trans (HE1.out) he2)
    clear a0 a1 b0 b1 b2 b3 he2
    have a0 := (HE2.out.cellAt (w.heap.size) (by omega) (0)).trans Ha0.out
    have a1 := (HE2.out.cellAt (w.heap.size) (by omega) (1)).trans Ha1.out
    have b0 := (HE2.out.cellAt (w.heap.size + 1) (by omega) (0)).trans Hb0.out
    have b1 := (HE2.out.cellAt (w.heap.size + 1) (by omega) (1)).trans Hb1.out
    have b2 := (HE2.out.cellAt (w.heap.size + 1) (by omega) (2)).trans Hb2.out
    have b3 := (HE2.out.cellAt (w.heap.size + 1) (by omega) (3)).trans Hb3.out
    have q0 := (HE2.out.cellAt (bp) (by omega) (offp + j)).trans Hq0.out
    go_wp2_with (go_at_call 56; first | (with_reducible refine (cO.out _).mono ?_; rintro e w9 ⟨rfl, rfl⟩) | (with_reducible refine (cT.out _).mono ?_; rintro e w9 ⟨rfl, rfl⟩) | (with_reducible refine (cF.out _).mono ?_; rintro e w9 ⟨rfl, rfl⟩) | (with_reducible refine (cS.out _).mono ?_; rintro e w9 ⟨rfl, rfl⟩))
    refine (cD.out w2 (HE2.out)).mono ?_
    rintro e w3 ⟨rfl, he3⟩
    have HE3 := Lib.hid (Ext.trans (HE2.out) he3)
    clear a0 a1 b0 b1 b2 b3 he3
    have a0 := (HE3.out.cellAt (w.heap.size) (by omega) (0)).trans Ha0.out
    have a1 := (HE3.out.cellAt (w.heap.size) (by omega) (1)).trans Ha1.out
    have b0 := (HE3.out.cellAt (w.heap.size + 1) (by omega) (0)).trans Hb0.out
    have b1 := (HE3.out.cellAt (w.heap.size + 1) (by omega) (1)).trans Hb1.out
    have b2 := (HE3.out.cellAt (w.heap.size + 1) (by omega) (2)).trans Hb2.out
    have b3 := (HE3.out.cellAt (w.heap.size + 1) (by omega) (3)).trans Hb3.out
    have q0 := (HE3.out.cellAt (bp) (by omega) (offp + j)).trans Hq0.out
    go_wp2_with (go_at_call 56; first | (with_reducible refine (cO.out _).mono ?_; rintro e w9 ⟨rfl, rfl⟩) | (with_reducible refine (cT.out _).mono ?_; rintro e w9 ⟨rfl, rfl⟩) | (with_reducible refine (cF.out _).mono ?_; rintro e w9 ⟨rfl, rfl⟩) | (with_reducible refine (cS.out _).mono ?_; rintro e w9 ⟨rfl, rfl⟩))
    have e1 := cell_regrown b1
    have e2 := cell_regrown b2
    have e3 := cell_regrown b3
    have e4 := cell_regrown (HQf.out w3 (HE3.out))
    have e5 := cell_regrown (HQs.out w3 (HE3.out))
    (refine wp_region_ext (by kernel_rfl) (by kernel_rfl) ?_; (repeat (go_big_quiet_step (first | (go_at_call 71; with_reducible exact Calls.rg0 (cN1.out _)) | (go_at_call 71; with_reducible exact Calls.rg0 (cN2.out _))))); refine wpQuiet_nil ?_)
    intro w4 hb4
    have HE4 := Lib.hid (Ext.trans (HE3.out) hb4)
    go_wp2_with fail
    go_ret
    exact ⟨ret_bool HF.out.symm, HE.out.trans (HE4.out)⟩
  rw [hN] at cN1
  cases hM : ((gk == x) || (gk == t))
  case false =>
    rw [hM] at cN2
    have HF : Hid (canMoveB H ds ps gs ⟨j, t, kf, ks⟩ = false) := by unfold Hid; rw [HV.out, hN, hM]; rfl
    clear hN hM
    go_enter Try.func30, Try.ntmps30
    go_wp2_with fail
    rw [← Hwb.out]
    refine cP.out.mono ?_
    rintro e w1 ⟨rfl, he1⟩
    have HE1 := Lib.hid he1
    have a0 := (HE1.out.cellAt (w.heap.size) (by omega) (0)).trans Ha0.out
    have a1 := (HE1.out.cellAt (w.heap.size) (by omega) (1)).trans Ha1.out
    have b0 := (HE1.out.cellAt (w.heap.size + 1) (by omega) (0)).trans Hb0.out
    have b1 := (HE1.out.cellAt (w.heap.size + 1) (by omega) (1)).trans Hb1.out
    have b2 := (HE1.out.cellAt (w.heap.size + 1) (by omega) (2)).trans Hb2.out
    have b3 := (HE1.out.cellAt (w.heap.size + 1) (by omega) (3)).trans Hb3.out
    have q0 := (HE1.out.cellAt (bp) (by omega) (offp + j)).trans Hq0.out
    clear he1
    go_wp2_with fail
    refine (cH.out w1 (HE1.out)).mono ?_
    rintro e w2 ⟨rfl, he2⟩
    have HE2 := Lib.hid (Ext.trans (HE1.out) he2)
    clear a0 a1 b0 b1 b2 b3 he2
    have a0 := (HE2.out.cellAt (w.heap.size) (by omega) (0)).trans Ha0.out
    have a1 := (HE2.out.cellAt (w.heap.size) (by omega) (1)).trans Ha1.out
    have b0 := (HE2.out.cellAt (w.heap.size + 1) (by omega) (0)).trans Hb0.out
    have b1 := (HE2.out.cellAt (w.heap.size + 1) (by omega) (1)).trans Hb1.out
    have b2 := (HE2.out.cellAt (w.heap.size + 1) (by omega) (2)).trans Hb2.out
    have b3 := (HE2.out.cellAt (w.heap.size + 1) (by omega) (3)).trans Hb3.out
    have q0 := (HE2.out.cellAt (bp) (by omega) (offp + j)).trans Hq0.out
    go_wp2_with (go_at_call 56; first | (with_reducible refine (cO.out _).mono ?_; rintro e w9 ⟨rfl, rfl⟩) | (with_reducible refine (cT.out _).mono ?_; rintro e w9 ⟨rfl, rfl⟩) | (with_reducible refine (cF.out _).mono ?_; rintro e w9 ⟨rfl, rfl⟩) | (with_reducible refine (cS.out _).mono ?_; rintro e w9 ⟨rfl, rfl⟩))
    refine (cD.out w2 (HE2.out)).mono ?_
    rintro e w3 ⟨rfl, he3⟩
    have HE3 := Lib.hid (Ext.trans (HE2.out) he3)
    clear a0 a1 b0 b1 b2 b3 he3
    have a0 := (HE3.out.cellAt (w.heap.size) (by omega) (0)).trans Ha0.out
    have a1 := (HE3.out.cellAt (w.heap.size) (by omega) (1)).trans Ha1.out
    have b0 := (HE3.out.cellAt (w.heap.size + 1) (by omega) (0)).trans Hb0.out
    have b1 := (HE3.out.cellAt (w.heap.size + 1) (by omega) (1)).trans Hb1.out
    have b2 := (HE3.out.cellAt (w.heap.size + 1) (by omega) (2)).trans Hb2.out
    have b3 := (HE3.out.cellAt (w.heap.size + 1) (by omega) (3)).trans Hb3.out
    have q0 := (HE3.out.cellAt (bp) (by omega) (offp + j)).trans Hq0.out
    go_wp2_with (go_at_call 56; first | (with_reducible refine (cO.out _).mono ?_; rintro e w9 ⟨rfl, rfl⟩) | (with_reducible refine (cT.out _).mono ?_; rintro e w9 ⟨rfl, rfl⟩) | (with_reducible refine (cF.out _).mono ?_; rintro e w9 ⟨rfl, rfl⟩) | (with_reducible refine (cS.out _).mono ?_; rintro e w9 ⟨rfl, rfl⟩))
    have e1 := cell_regrown b1
    have e2 := cell_regrown b2
    have e3 := cell_regrown b3
    have e4 := cell_regrown (HQf.out w3 (HE3.out))
    have e5 := cell_regrown (HQs.out w3 (HE3.out))
    (refine wp_region_ext (by kernel_rfl) (by kernel_rfl) ?_; (repeat (go_big_quiet_step (first | (go_at_call 71; with_reducible exact Calls.rg0 (cN1.out _)) | (go_at_call 71; with_reducible exact Calls.rg0 (cN2.out _))))); refine wpQuiet_nil ?_)
    intro w4 hb4
    have HE4 := Lib.hid (Ext.trans (HE3.out) hb4)
    go_wp2_with fail
    go_ret
    exact ⟨ret_bool HF.out.symm, HE.out.trans (HE4.out)⟩
  case true =>
    rw [hM] at cN2
    have HF : Hid (canMoveB H ds ps gs ⟨j, t, kf, ks⟩ = true) := by unfold Hid; rw [HV.out, hN, hM]; rfl
    clear hN hM
    go_enter Try.func30, Try.ntmps30
    go_wp2_with fail
    rw [← Hwb.out]
    refine cP.out.mono ?_
    rintro e w1 ⟨rfl, he1⟩
    have HE1 := Lib.hid he1
    have a0 := (HE1.out.cellAt (w.heap.size) (by omega) (0)).trans Ha0.out
    have a1 := (HE1.out.cellAt (w.heap.size) (by omega) (1)).trans Ha1.out
    have b0 := (HE1.out.cellAt (w.heap.size + 1) (by omega) (0)).trans Hb0.out
    have b1 := (HE1.out.cellAt (w.heap.size + 1) (by omega) (1)).trans Hb1.out
    have b2 := (HE1.out.cellAt (w.heap.size + 1) (by omega) (2)).trans Hb2.out
    have b3 := (HE1.out.cellAt (w.heap.size + 1) (by omega) (3)).trans Hb3.out
    have q0 := (HE1.out.cellAt (bp) (by omega) (offp + j)).trans Hq0.out
    clear he1
    go_wp2_with fail
    refine (cH.out w1 (HE1.out)).mono ?_
    rintro e w2 ⟨rfl, he2⟩
    have HE2 := Lib.hid (Ext.trans (HE1.out) he2)
    clear a0 a1 b0 b1 b2 b3 he2
    have a0 := (HE2.out.cellAt (w.heap.size) (by omega) (0)).trans Ha0.out
    have a1 := (HE2.out.cellAt (w.heap.size) (by omega) (1)).trans Ha1.out
    have b0 := (HE2.out.cellAt (w.heap.size + 1) (by omega) (0)).trans Hb0.out
    have b1 := (HE2.out.cellAt (w.heap.size + 1) (by omega) (1)).trans Hb1.out
    have b2 := (HE2.out.cellAt (w.heap.size + 1) (by omega) (2)).trans Hb2.out
    have b3 := (HE2.out.cellAt (w.heap.size + 1) (by omega) (3)).trans Hb3.out
    have q0 := (HE2.out.cellAt (bp) (by omega) (offp + j)).trans Hq0.out
    go_wp2_with (go_at_call 56; first | (with_reducible refine (cO.out _).mono ?_; rintro e w9 ⟨rfl, rfl⟩) | (with_reducible refine (cT.out _).mono ?_; rintro e w9 ⟨rfl, rfl⟩) | (with_reducible refine (cF.out _).mono ?_; rintro e w9 ⟨rfl, rfl⟩) | (with_reducible refine (cS.out _).mono ?_; rintro e w9 ⟨rfl, rfl⟩))
    refine (cD.out w2 (HE2.out)).mono ?_
    rintro e w3 ⟨rfl, he3⟩
    have HE3 := Lib.hid (Ext.trans (HE2.out) he3)
    clear a0 a1 b0 b1 b2 b3 he3
    have a0 := (HE3.out.cellAt (w.heap.size) (by omega) (0)).trans Ha0.out
    have a1 := (HE3.out.cellAt (w.heap.size) (by omega) (1)).trans Ha1.out
    have b0 := (HE3.out.cellAt (w.heap.size + 1) (by omega) (0)).trans Hb0.out
    have b1 := (HE3.out.cellAt (w.heap.size + 1) (by omega) (1)).trans Hb1.out
    have b2 := (HE3.out.cellAt (w.heap.size + 1) (by omega) (2)).trans Hb2.out
    have b3 := (HE3.out.cellAt (w.heap.size + 1) (by omega) (3)).trans Hb3.out
    have q0 := (HE3.out.cellAt (bp) (by omega) (offp + j)).trans Hq0.out
    go_wp2_with (go_at_call 56; first | (with_reducible refine (cO.out _).mono ?_; rintro e w9 ⟨rfl, rfl⟩) | (with_reducible refine (cT.out _).mono ?_; rintro e w9 ⟨rfl, rfl⟩) | (with_reducible refine (cF.out _).mono ?_; rintro e w9 ⟨rfl, rfl⟩) | (with_reducible refine (cS.out _).mono ?_; rintro e w9 ⟨rfl, rfl⟩))
    have e1 := cell_regrown b1
    have e2 := cell_regrown b2
    have e3 := cell_regrown b3
    have e4 := cell_regrown (HQf.out w3 (HE3.out))
    have e5 := cell_regrown (HQs.out w3 (HE3.out))
    (refine wp_region_ext (by kernel_rfl) (by kernel_rfl) ?_; (repeat (go_big_quiet_step (first | (go_at_call 71; with_reducible exact Calls.rg0 (cN1.out _)) | (go_at_call 71; with_reducible exact Calls.rg0 (cN2.out _))))); refine wpQuiet_nil ?_)
    intro w4 hb4
    have HE4 := Lib.hid (Ext.trans (HE3.out) hb4)
    go_wp2_with fail
    go_ret
    exact ⟨ret_bool HF.out.symm, HE.out.trans (HE4.out)⟩
end Go.Proofs.Ytcmbjkidgemdaaa
