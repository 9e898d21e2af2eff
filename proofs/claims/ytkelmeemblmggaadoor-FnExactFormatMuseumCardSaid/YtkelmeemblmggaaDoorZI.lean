/- Texts of one proof, laid one behind the other (SHl, SHm, SHn, Shelf, ST1, ST2); no condition but what stands at each theorem. -/
import Derived.Shelf.Strings.Builder1
import Derived.Shelf.Strings.Builder2
import Derived.Shelf.Strings.OnBuilder
import Derived.Shelf.Strconv.Itoa0
import Derived.Shelf.Strconv.Itoa1
import Derived.Shelf.LaysM
import Derived.Shelf.Strconv.Itoa2
import Derived.Shelf.Strconv.Itoa3
import Derived.Shelf.Bits.Mul64
import Derived.Test.YtkelmeemblmggaaDoorProg
import Derived.Laws.IdiomStrings
import Derived.Lib.ItoaLen
import Derived.Test.YtkelmeemblmggaaDoorZA
import Derived.Test.YtkelmeemblmggaaDoorZB
import Derived.Test.YtkelmeemblmggaaDoorZC
import Derived.Test.YtkelmeemblmggaaDoorZH
/- Contract of the reference's CanMove; no condition but what stands at each theorem. -/
namespace Go.Proofs.YtkelmeemblmggaaDoor
set_option linter.unusedSimpArgs false
set_option linter.unusedVariables false
open Go.RowKit Go.Sort
theorem spec_l35Near (x y z : Int) (w : World) : Calls Tryd.prog 94 #[.int .i64 x, .int .i64 y, .int .i64 z] w fun e w' => e = .returned (.bool ((x == y) || (x == z))) ∧ w = w' := by
  cases e1 : (x == y)
  · cases e2 : (x == z)
    all_goals go_enter Tryd.func94, Tryd.ntmps94
    all_goals go_wp2_with fail
    all_goals go_ret
    all_goals exact ⟨rfl, rfl⟩
  · go_enter Tryd.func94, Tryd.ntmps94
    go_wp2_with fail
    go_ret
    exact ⟨rfl, rfl⟩
set_option maxRecDepth 100000 in
set_option maxHeartbeats 8000000 in
theorem spec_CanMove (H : Int) (A : Option Addr) (n c : Nat) (ds : List GDoor) (A1 : Option Addr) (n1 c1 : Nat) (ps : List Int) (A2 : Option Addr) (n2 c2 : Nat) (gs : List Int) (m : GMove) (w : World) (hx : Rd w 2 A n (ds.flatMap GDoor.enc)) (hx1 : Rd w 1 A1 n1 (ps.flatMap ienc)) (hx2 : Rd w 1 A2 n2 (gs.flatMap ienc)) :
    Calls Tryd.prog 108 #[.agg #[.int .i64 H, .slice A n c], .slice A1 n1 c1, .slice A2 n2 c2, .agg #[.int .i64 m.o, .int .i64 m.t, .int .i64 m.f, .int .i64 m.s]] w fun e w' => e = .returned (.bool (canMoveB H ds ps gs m)) ∧ Ext w w' := by
  obtain ⟨o, t, f, s⟩ := m
  dsimp only
  have hn1 := hx1.2.1
  have hn2 := hx2.2.1
  have hl1 := Lib.hid (hx1.len ienc_len (by omega))
  have hl2 := Lib.hid (hx2.len ienc_len (by omega))
  obtain ⟨wb, hwb⟩ : ∃ wb, wb = (w.alloc (.cells #[.int .i64 H, .slice A n c] 34)).alloc (.cells #[.int .i64 o, .int .i64 t, .int .i64 f, .int .i64 s] 117) := ⟨_, rfl⟩
  obtain ⟨hE, hsb, a0, a1, b0, b1, b2, b3⟩ := boxHM w _ _ _ _ _ _ _ _ wb hwb
  have HE := Lib.hid hE
  have Hwb := Lib.hid hwb
  have Ha0 := Lib.hid a0
  have Ha1 := Lib.hid a1
  have Hb0 := Lib.hid b0
  have Hb1 := Lib.hid b1
  have Hb2 := Lib.hid b2
  have Hb3 := Lib.hid b3
  have hxb := Lib.hid (hx.keep hE)
  have hxb1 := Lib.hid (hx1.keep hE)
  have hxb2 := Lib.hid (hx2.keep hE)
  have cP := Lib.hid (spec_PlacesOk H A n c ds A1 n1 c1 ps wb hxb.out hxb1.out)
  clear hE hwb a0 a1 b0 b1 b2 b3 hx hx1 hx2
  cases hP : placesB H ds ps
  case false =>
    rw [hP] at cP
    have HF : Hid (canMoveB H ds ps gs ⟨o, t, f, s⟩ = false) := by unfold Hid canMoveB goB hasDoorB; simp [hP]
    clear hP
    go_enter Tryd.func108, Tryd.ntmps108
    go_wp2_with fail
    rw [← Hwb.out]
    refine cP.out.mono ?_
    rintro e w1 ⟨rfl, he1⟩
    have HE1 := Lib.hid he1
    have a0 := (HE1.out.cellAt (w.heap.size) (by omega) 0).trans Ha0.out
    have a1 := (HE1.out.cellAt (w.heap.size) (by omega) 1).trans Ha1.out
    have b0 := (HE1.out.cellAt (w.heap.size + 1) (by omega) 0).trans Hb0.out
    have b1 := (HE1.out.cellAt (w.heap.size + 1) (by omega) 1).trans Hb1.out
    have b2 := (HE1.out.cellAt (w.heap.size + 1) (by omega) 2).trans Hb2.out
    have b3 := (HE1.out.cellAt (w.heap.size + 1) (by omega) 3).trans Hb3.out
    clear he1
    go_wp2_with fail
    go_ret
    exact ⟨ret_bool HF.out.symm, HE.out.trans (HE1.out)⟩
  rw [hP] at cP
  have cH := Lib.hid (fun w1 he => spec_l31Halls H A n c ds A2 n2 c2 gs w1 (hxb.out.keep he) (hxb2.out.keep (w' := w1) he))
  cases hH : hallsB H ds gs
  case false =>
    rw [hH] at cH
    have HF : Hid (canMoveB H ds ps gs ⟨o, t, f, s⟩ = false) := by unfold Hid canMoveB goB hasDoorB; simp [hH]
    clear hP hH
    go_enter Tryd.func108, Tryd.ntmps108
    go_wp2_with fail
    rw [← Hwb.out]
    refine cP.out.mono ?_
    rintro e w1 ⟨rfl, he1⟩
    have HE1 := Lib.hid he1
    have a0 := (HE1.out.cellAt (w.heap.size) (by omega) 0).trans Ha0.out
    have a1 := (HE1.out.cellAt (w.heap.size) (by omega) 1).trans Ha1.out
    have b0 := (HE1.out.cellAt (w.heap.size + 1) (by omega) 0).trans Hb0.out
    have b1 := (HE1.out.cellAt (w.heap.size + 1) (by omega) 1).trans Hb1.out
    have b2 := (HE1.out.cellAt (w.heap.size + 1) (by omega) 2).trans Hb2.out
    have b3 := (HE1.out.cellAt (w.heap.size + 1) (by omega) 3).trans Hb3.out
    clear he1
    go_wp2_with fail
    refine (cH.out w1 (HE1.out)).mono ?_
    rintro e w2 ⟨rfl, he2⟩
    have HE2 := Lib.hid (Ext.trans (HE1.out) he2)
    clear a0 a1 b0 b1 b2 b3 he2
    have a0 := (HE2.out.cellAt (w.heap.size) (by omega) 0).trans Ha0.out
    have a1 := (HE2.out.cellAt (w.heap.size) (by omega) 1).trans Ha1.out
    have b0 := (HE2.out.cellAt (w.heap.size + 1) (by omega) 0).trans Hb0.out
    have b1 := (HE2.out.cellAt (w.heap.size + 1) (by omega) 1).trans Hb1.out
    have b2 := (HE2.out.cellAt (w.heap.size + 1) (by omega) 2).trans Hb2.out
    have b3 := (HE2.out.cellAt (w.heap.size + 1) (by omega) 3).trans Hb3.out
    go_wp2_with (go_at_call 43; first | (with_reducible refine (cO.out _).mono ?_; rintro e w9 ⟨rfl, rfl⟩) | (with_reducible refine (cT.out _).mono ?_; rintro e w9 ⟨rfl, rfl⟩) | (with_reducible refine (cF.out _).mono ?_; rintro e w9 ⟨rfl, rfl⟩) | (with_reducible refine (cS.out _).mono ?_; rintro e w9 ⟨rfl, rfl⟩))
    go_ret
    exact ⟨ret_bool HF.out.symm, HE.out.trans (HE2.out)⟩
  rw [hH] at cH
  by_cases h6 : n2 ≤ 6
  case neg =>
    have HF : Hid (canMoveB H ds ps gs ⟨o, t, f, s⟩ = false) := by unfold Hid canMoveB goB hasDoorB; simp [hl2.out, h6]
    clear hP hH
    go_enter Tryd.func108, Tryd.ntmps108
    go_wp2_with fail
    rw [← Hwb.out]
    refine cP.out.mono ?_
    rintro e w1 ⟨rfl, he1⟩
    have HE1 := Lib.hid he1
    have a0 := (HE1.out.cellAt (w.heap.size) (by omega) 0).trans Ha0.out
    have a1 := (HE1.out.cellAt (w.heap.size) (by omega) 1).trans Ha1.out
    have b0 := (HE1.out.cellAt (w.heap.size + 1) (by omega) 0).trans Hb0.out
    have b1 := (HE1.out.cellAt (w.heap.size + 1) (by omega) 1).trans Hb1.out
    have b2 := (HE1.out.cellAt (w.heap.size + 1) (by omega) 2).trans Hb2.out
    have b3 := (HE1.out.cellAt (w.heap.size + 1) (by omega) 3).trans Hb3.out
    clear he1
    go_wp2_with fail
    refine (cH.out w1 (HE1.out)).mono ?_
    rintro e w2 ⟨rfl, he2⟩
    have HE2 := Lib.hid (Ext.trans (HE1.out) he2)
    clear a0 a1 b0 b1 b2 b3 he2
    have a0 := (HE2.out.cellAt (w.heap.size) (by omega) 0).trans Ha0.out
    have a1 := (HE2.out.cellAt (w.heap.size) (by omega) 1).trans Ha1.out
    have b0 := (HE2.out.cellAt (w.heap.size + 1) (by omega) 0).trans Hb0.out
    have b1 := (HE2.out.cellAt (w.heap.size + 1) (by omega) 1).trans Hb1.out
    have b2 := (HE2.out.cellAt (w.heap.size + 1) (by omega) 2).trans Hb2.out
    have b3 := (HE2.out.cellAt (w.heap.size + 1) (by omega) 3).trans Hb3.out
    go_wp2_with (go_at_call 43; first | (with_reducible refine (cO.out _).mono ?_; rintro e w9 ⟨rfl, rfl⟩) | (with_reducible refine (cT.out _).mono ?_; rintro e w9 ⟨rfl, rfl⟩) | (with_reducible refine (cF.out _).mono ?_; rintro e w9 ⟨rfl, rfl⟩) | (with_reducible refine (cS.out _).mono ?_; rintro e w9 ⟨rfl, rfl⟩))
    go_ret
    exact ⟨ret_bool HF.out.symm, HE.out.trans (HE2.out)⟩
  have cO := Lib.hid (fun W => spec_l01In o 0 ((n1 : Int) - 1) W)
  have cT := Lib.hid (fun W => spec_l01In t 0 (wrap64 (H - 1)) W)
  have cF := Lib.hid (fun W => spec_l01In f 0 ((n2 : Int) - 1) W)
  have cS := Lib.hid (fun W => spec_l01In s 0 ((n2 : Int) - 1) W)
  cases hO : inB o 0 ((n1 : Int) - 1)
  case false =>
    rw [hO] at cO
    have HF : Hid (canMoveB H ds ps gs ⟨o, t, f, s⟩ = false) := by unfold Hid canMoveB goB hasDoorB; simp [hl1.out, hO]
    clear hP hH hO
    go_enter Tryd.func108, Tryd.ntmps108
    go_wp2_with fail
    rw [← Hwb.out]
    refine cP.out.mono ?_
    rintro e w1 ⟨rfl, he1⟩
    have HE1 := Lib.hid he1
    have a0 := (HE1.out.cellAt (w.heap.size) (by omega) 0).trans Ha0.out
    have a1 := (HE1.out.cellAt (w.heap.size) (by omega) 1).trans Ha1.out
    have b0 := (HE1.out.cellAt (w.heap.size + 1) (by omega) 0).trans Hb0.out
    have b1 := (HE1.out.cellAt (w.heap.size + 1) (by omega) 1).trans Hb1.out
    have b2 := (HE1.out.cellAt (w.heap.size + 1) (by omega) 2).trans Hb2.out
    have b3 := (HE1.out.cellAt (w.heap.size + 1) (by omega) 3).trans Hb3.out
    clear he1
    go_wp2_with fail
    refine (cH.out w1 (HE1.out)).mono ?_
    rintro e w2 ⟨rfl, he2⟩
    have HE2 := Lib.hid (Ext.trans (HE1.out) he2)
    clear a0 a1 b0 b1 b2 b3 he2
    have a0 := (HE2.out.cellAt (w.heap.size) (by omega) 0).trans Ha0.out
    have a1 := (HE2.out.cellAt (w.heap.size) (by omega) 1).trans Ha1.out
    have b0 := (HE2.out.cellAt (w.heap.size + 1) (by omega) 0).trans Hb0.out
    have b1 := (HE2.out.cellAt (w.heap.size + 1) (by omega) 1).trans Hb1.out
    have b2 := (HE2.out.cellAt (w.heap.size + 1) (by omega) 2).trans Hb2.out
    have b3 := (HE2.out.cellAt (w.heap.size + 1) (by omega) 3).trans Hb3.out
    go_wp2_with (go_at_call 43; first | (with_reducible refine (cO.out _).mono ?_; rintro e w9 ⟨rfl, rfl⟩) | (with_reducible refine (cT.out _).mono ?_; rintro e w9 ⟨rfl, rfl⟩) | (with_reducible refine (cF.out _).mono ?_; rintro e w9 ⟨rfl, rfl⟩) | (with_reducible refine (cS.out _).mono ?_; rintro e w9 ⟨rfl, rfl⟩))
    go_ret
    exact ⟨ret_bool HF.out.symm, HE.out.trans (HE2.out)⟩
  rw [hO] at cO
  cases hT : inB t 0 (wrap64 (H - 1))
  case false =>
    rw [hT] at cT
    have HF : Hid (canMoveB H ds ps gs ⟨o, t, f, s⟩ = false) := by unfold Hid canMoveB goB hasDoorB; simp [hallB, hT]
    clear hP hH hO hT
    go_enter Tryd.func108, Tryd.ntmps108
    go_wp2_with fail
    rw [← Hwb.out]
    refine cP.out.mono ?_
    rintro e w1 ⟨rfl, he1⟩
    have HE1 := Lib.hid he1
    have a0 := (HE1.out.cellAt (w.heap.size) (by omega) 0).trans Ha0.out
    have a1 := (HE1.out.cellAt (w.heap.size) (by omega) 1).trans Ha1.out
    have b0 := (HE1.out.cellAt (w.heap.size + 1) (by omega) 0).trans Hb0.out
    have b1 := (HE1.out.cellAt (w.heap.size + 1) (by omega) 1).trans Hb1.out
    have b2 := (HE1.out.cellAt (w.heap.size + 1) (by omega) 2).trans Hb2.out
    have b3 := (HE1.out.cellAt (w.heap.size + 1) (by omega) 3).trans Hb3.out
    clear he1
    go_wp2_with fail
    refine (cH.out w1 (HE1.out)).mono ?_
    rintro e w2 ⟨rfl, he2⟩
    have HE2 := Lib.hid (Ext.trans (HE1.out) he2)
    clear a0 a1 b0 b1 b2 b3 he2
    have a0 := (HE2.out.cellAt (w.heap.size) (by omega) 0).trans Ha0.out
    have a1 := (HE2.out.cellAt (w.heap.size) (by omega) 1).trans Ha1.out
    have b0 := (HE2.out.cellAt (w.heap.size + 1) (by omega) 0).trans Hb0.out
    have b1 := (HE2.out.cellAt (w.heap.size + 1) (by omega) 1).trans Hb1.out
    have b2 := (HE2.out.cellAt (w.heap.size + 1) (by omega) 2).trans Hb2.out
    have b3 := (HE2.out.cellAt (w.heap.size + 1) (by omega) 3).trans Hb3.out
    go_wp2_with (go_at_call 43; first | (with_reducible refine (cO.out _).mono ?_; rintro e w9 ⟨rfl, rfl⟩) | (with_reducible refine (cT.out _).mono ?_; rintro e w9 ⟨rfl, rfl⟩) | (with_reducible refine (cF.out _).mono ?_; rintro e w9 ⟨rfl, rfl⟩) | (with_reducible refine (cS.out _).mono ?_; rintro e w9 ⟨rfl, rfl⟩))
    go_ret
    exact ⟨ret_bool HF.out.symm, HE.out.trans (HE2.out)⟩
  rw [hT] at cT
  have hos : 0 ≤ o ∧ o ≤ (n1 : Int) - 1 := by simpa [inB] using hO
  obtain ⟨j, rfl⟩ := Int.eq_ofNat_of_zero_le hos.1
  have hj : j < n1 := by omega
  clear hos
  obtain ⟨bp, offp, x, rfl, hbp, hxk, q0⟩ := ienc_at hxb1.out hj
  have hX : ps.getD j 0 = x := getD_of' hxk
  have HQ := Lib.hid q0
  have Hq0 := HQ
  clear HQ q0 hxk
  have cD := Lib.hid (fun w1 (he : Ext wb w1) => spec_l23Door H A n c ds x t w1 (hxb.out.keep he))
  cases hX2 : (x == t)
  case true =>
    have hxt : x = t := by simpa using hX2
    have hself := doorB_self (hallsB_house hH) t
    have HF : Hid (canMoveB H ds ps gs ⟨j, t, f, s⟩ = false) := by unfold Hid canMoveB goB hasDoorB; simp only [Int.toNat_natCast, Bool.and_false, Bool.false_and, hX, hxt, hself]
    clear hP hH hO hT hX hxt hself
    go_enter Tryd.func108, Tryd.ntmps108
    go_wp2_with fail
    rw [← Hwb.out]
    refine cP.out.mono ?_
    rintro e w1 ⟨rfl, he1⟩
    have HE1 := Lib.hid he1
    have a0 := (HE1.out.cellAt (w.heap.size) (by omega) (0)).trans Ha0.out
    have a1 := (HE1.out.cellAt (w.heap.size) (by omega) (1)).trans Ha1.out
    have b0 := (HE1.out.cellAt (w.heap.size + 1) (by omega) (0)).trans Hb0.out
    have b1 := (HE1.out.cellAt (w.heap.size + 1) (by omega) (1)).trans Hb1.out
    have b2 := (HE1.out.cellAt (w.heap.size + 1) (by omega) (2)).trans Hb2.out
    have b3 := (HE1.out.cellAt (w.heap.size + 1) (by omega) (3)).trans Hb3.out
    have q0 := (HE1.out.cellAt (bp) (by omega) (offp + j)).trans Hq0.out
    clear he1
    go_wp2_with fail
    refine (cH.out w1 (HE1.out)).mono ?_
    rintro e w2 ⟨rfl, he2⟩
    have HE2 := Lib.hid (Ext.trans (HE1.out) he2)
    clear a0 a1 b0 b1 b2 b3 he2
    have a0 := (HE2.out.cellAt (w.heap.size) (by omega) (0)).trans Ha0.out
    have a1 := (HE2.out.cellAt (w.heap.size) (by omega) (1)).trans Ha1.out
    have b0 := (HE2.out.cellAt (w.heap.size + 1) (by omega) (0)).trans Hb0.out
    have b1 := (HE2.out.cellAt (w.heap.size + 1) (by omega) (1)).trans Hb1.out
    have b2 := (HE2.out.cellAt (w.heap.size + 1) (by omega) (2)).trans Hb2.out
    have b3 := (HE2.out.cellAt (w.heap.size + 1) (by omega) (3)).trans Hb3.out
    have q0 := (HE2.out.cellAt (bp) (by omega) (offp + j)).trans Hq0.out
    go_wp2_with (go_at_call 43; first | (with_reducible refine (cO.out _).mono ?_; rintro e w9 ⟨rfl, rfl⟩) | (with_reducible refine (cT.out _).mono ?_; rintro e w9 ⟨rfl, rfl⟩) | (with_reducible refine (cF.out _).mono ?_; rintro e w9 ⟨rfl, rfl⟩) | (with_reducible refine (cS.out _).mono ?_; rintro e w9 ⟨rfl, rfl⟩))
    go_ret
    exact ⟨ret_bool HF.out.symm, HE.out.trans (HE2.out)⟩
  cases hD : doorB ds x t
  case false =>
    rw [hD] at cD
    have HF : Hid (canMoveB H ds ps gs ⟨j, t, f, s⟩ = false) := by unfold Hid canMoveB goB hasDoorB; simp only [Int.toNat_natCast, Bool.and_false, Bool.false_and, hX, hD]
    clear hP hH hO hT hX hD
    go_enter Tryd.func108, Tryd.ntmps108
    go_wp2_with fail
    rw [← Hwb.out]
    refine cP.out.mono ?_
    rintro e w1 ⟨rfl, he1⟩
    have HE1 := Lib.hid he1
    have a0 := (HE1.out.cellAt (w.heap.size) (by omega) (0)).trans Ha0.out
    have a1 := (HE1.out.cellAt (w.heap.size) (by omega) (1)).trans Ha1.out
    have b0 := (HE1.out.cellAt (w.heap.size + 1) (by omega) (0)).trans Hb0.out
    have b1 := (HE1.out.cellAt (w.heap.size + 1) (by omega) (1)).trans Hb1.out
    have b2 := (HE1.out.cellAt (w.heap.size + 1) (by omega) (2)).trans Hb2.out
    have b3 := (HE1.out.cellAt (w.heap.size + 1) (by omega) (3)).trans Hb3.out
    have q0 := (HE1.out.cellAt (bp) (by omega) (offp + j)).trans Hq0.out
    clear he1
    go_wp2_with fail
    refine (cH.out w1 (HE1.out)).mono ?_
    rintro e w2 ⟨rfl, he2⟩
    have HE2 := Lib.hid (Ext.trans (HE1.out) he2)
    clear a0 a1 b0 b1 b2 b3 he2
    have a0 := (HE2.out.cellAt (w.heap.size) (by omega) (0)).trans Ha0.out
    have a1 := (HE2.out.cellAt (w.heap.size) (by omega) (1)).trans Ha1.out
    have b0 := (HE2.out.cellAt (w.heap.size + 1) (by omega) (0)).trans Hb0.out
    have b1 := (HE2.out.cellAt (w.heap.size + 1) (by omega) (1)).trans Hb1.out
    have b2 := (HE2.out.cellAt (w.heap.size + 1) (by omega) (2)).trans Hb2.out
    have b3 := (HE2.out.cellAt (w.heap.size + 1) (by omega) (3)).trans Hb3.out
    have q0 := (HE2.out.cellAt (bp) (by omega) (offp + j)).trans Hq0.out
    go_wp2_with (go_at_call 43; first | (with_reducible refine (cO.out _).mono ?_; rintro e w9 ⟨rfl, rfl⟩) | (with_reducible refine (cT.out _).mono ?_; rintro e w9 ⟨rfl, rfl⟩) | (with_reducible refine (cF.out _).mono ?_; rintro e w9 ⟨rfl, rfl⟩) | (with_reducible refine (cS.out _).mono ?_; rintro e w9 ⟨rfl, rfl⟩))
    refine (cD.out w2 (HE2.out)).mono ?_
    rintro e w3 ⟨rfl, he3⟩
    have HE3 := Lib.hid (Ext.trans (HE2.out) he3)
    clear a0 a1 b0 b1 b2 b3 he3
    have a0 := (HE3.out.cellAt (w.heap.size) (by omega) (0)).trans Ha0.out
    have a1 := (HE3.out.cellAt (w.heap.size) (by omega) (1)).trans Ha1.out
    have b0 := (HE3.out.cellAt (w.heap.size + 1) (by omega) (0)).trans Hb0.out
    have b1 := (HE3.out.cellAt (w.heap.size + 1) (by omega) (1)).trans Hb1.out
    have b2 := (HE3.out.cellAt (w.heap.size + 1) (by omega) (2)).trans Hb2.out
    have b3 := (HE3.out.cellAt (w.heap.size + 1) (by omega) (3)).trans Hb3.out
    have q0 := (HE3.out.cellAt (bp) (by omega) (offp + j)).trans Hq0.out
    go_wp2_with (go_at_call 43; first | (with_reducible refine (cO.out _).mono ?_; rintro e w9 ⟨rfl, rfl⟩) | (with_reducible refine (cT.out _).mono ?_; rintro e w9 ⟨rfl, rfl⟩) | (with_reducible refine (cF.out _).mono ?_; rintro e w9 ⟨rfl, rfl⟩) | (with_reducible refine (cS.out _).mono ?_; rintro e w9 ⟨rfl, rfl⟩))
    go_ret
    exact ⟨ret_bool HF.out.symm, HE.out.trans (HE3.out)⟩
  rw [hD] at cD
  cases hE : (f == s)
  case true =>
    have hEq : f = s := by simpa using hE
    have HF : Hid (canMoveB H ds ps gs ⟨j, t, f, s⟩ = false) := by unfold Hid canMoveB goB hasDoorB; simp [hEq]
    clear hP hH hO hT hX hD hEq
    go_enter Tryd.func108, Tryd.ntmps108
    go_wp2_with fail
    rw [← Hwb.out]
    refine cP.out.mono ?_
    rintro e w1 ⟨rfl, he1⟩
    have HE1 := Lib.hid he1
    have a0 := (HE1.out.cellAt (w.heap.size) (by omega) (0)).trans Ha0.out
    have a1 := (HE1.out.cellAt (w.heap.size) (by omega) (1)).trans Ha1.out
    have b0 := (HE1.out.cellAt (w.heap.size + 1) (by omega) (0)).trans Hb0.out
    have b1 := (HE1.out.cellAt (w.heap.size + 1) (by omega) (1)).trans Hb1.out
    have b2 := (HE1.out.cellAt (w.heap.size + 1) (by omega) (2)).trans Hb2.out
    have b3 := (HE1.out.cellAt (w.heap.size + 1) (by omega) (3)).trans Hb3.out
    have q0 := (HE1.out.cellAt (bp) (by omega) (offp + j)).trans Hq0.out
    clear he1
    go_wp2_with fail
    refine (cH.out w1 (HE1.out)).mono ?_
    rintro e w2 ⟨rfl, he2⟩
    have HE2 := Lib.hid (Ext.trans (HE1.out) he2)
    clear a0 a1 b0 b1 b2 b3 he2
    have a0 := (HE2.out.cellAt (w.heap.size) (by omega) (0)).trans Ha0.out
    have a1 := (HE2.out.cellAt (w.heap.size) (by omega) (1)).trans Ha1.out
    have b0 := (HE2.out.cellAt (w.heap.size + 1) (by omega) (0)).trans Hb0.out
    have b1 := (HE2.out.cellAt (w.heap.size + 1) (by omega) (1)).trans Hb1.out
    have b2 := (HE2.out.cellAt (w.heap.size + 1) (by omega) (2)).trans Hb2.out
    have b3 := (HE2.out.cellAt (w.heap.size + 1) (by omega) (3)).trans Hb3.out
    have q0 := (HE2.out.cellAt (bp) (by omega) (offp + j)).trans Hq0.out
    go_wp2_with (go_at_call 43; first | (with_reducible refine (cO.out _).mono ?_; rintro e w9 ⟨rfl, rfl⟩) | (with_reducible refine (cT.out _).mono ?_; rintro e w9 ⟨rfl, rfl⟩) | (with_reducible refine (cF.out _).mono ?_; rintro e w9 ⟨rfl, rfl⟩) | (with_reducible refine (cS.out _).mono ?_; rintro e w9 ⟨rfl, rfl⟩))
    refine (cD.out w2 (HE2.out)).mono ?_
    rintro e w3 ⟨rfl, he3⟩
    have HE3 := Lib.hid (Ext.trans (HE2.out) he3)
    clear a0 a1 b0 b1 b2 b3 he3
    have a0 := (HE3.out.cellAt (w.heap.size) (by omega) (0)).trans Ha0.out
    have a1 := (HE3.out.cellAt (w.heap.size) (by omega) (1)).trans Ha1.out
    have b0 := (HE3.out.cellAt (w.heap.size + 1) (by omega) (0)).trans Hb0.out
    have b1 := (HE3.out.cellAt (w.heap.size + 1) (by omega) (1)).trans Hb1.out
    have b2 := (HE3.out.cellAt (w.heap.size + 1) (by omega) (2)).trans Hb2.out
    have b3 := (HE3.out.cellAt (w.heap.size + 1) (by omega) (3)).trans Hb3.out
    have q0 := (HE3.out.cellAt (bp) (by omega) (offp + j)).trans Hq0.out
    go_wp2_with (go_at_call 43; first | (with_reducible refine (cO.out _).mono ?_; rintro e w9 ⟨rfl, rfl⟩) | (with_reducible refine (cT.out _).mono ?_; rintro e w9 ⟨rfl, rfl⟩) | (with_reducible refine (cF.out _).mono ?_; rintro e w9 ⟨rfl, rfl⟩) | (with_reducible refine (cS.out _).mono ?_; rintro e w9 ⟨rfl, rfl⟩))
    go_ret
    exact ⟨ret_bool HF.out.symm, HE.out.trans (HE3.out)⟩
  cases hF : inB f 0 ((n2 : Int) - 1)
  case false =>
    rw [hF] at cF
    have HF : Hid (canMoveB H ds ps gs ⟨j, t, f, s⟩ = false) := by unfold Hid canMoveB goB hasDoorB; simp [hl2.out, hF]
    clear hP hH hO hT hX hD hF
    go_enter Tryd.func108, Tryd.ntmps108
    go_wp2_with fail
    rw [← Hwb.out]
    refine cP.out.mono ?_
    rintro e w1 ⟨rfl, he1⟩
    have HE1 := Lib.hid he1
    have a0 := (HE1.out.cellAt (w.heap.size) (by omega) (0)).trans Ha0.out
    have a1 := (HE1.out.cellAt (w.heap.size) (by omega) (1)).trans Ha1.out
    have b0 := (HE1.out.cellAt (w.heap.size + 1) (by omega) (0)).trans Hb0.out
    have b1 := (HE1.out.cellAt (w.heap.size + 1) (by omega) (1)).trans Hb1.out
    have b2 := (HE1.out.cellAt (w.heap.size + 1) (by omega) (2)).trans Hb2.out
    have b3 := (HE1.out.cellAt (w.heap.size + 1) (by omega) (3)).trans Hb3.out
    have q0 := (HE1.out.cellAt (bp) (by omega) (offp + j)).trans Hq0.out
    clear he1
    go_wp2_with fail
    refine (cH.out w1 (HE1.out)).mono ?_
    rintro e w2 ⟨rfl, he2⟩
    have HE2 := Lib.hid (Ext.trans (HE1.out) he2)
    clear a0 a1 b0 b1 b2 b3 he2
    have a0 := (HE2.out.cellAt (w.heap.size) (by omega) (0)).trans Ha0.out
    have a1 := (HE2.out.cellAt (w.heap.size) (by omega) (1)).trans Ha1.out
    have b0 := (HE2.out.cellAt (w.heap.size + 1) (by omega) (0)).trans Hb0.out
    have b1 := (HE2.out.cellAt (w.heap.size + 1) (by omega) (1)).trans Hb1.out
    have b2 := (HE2.out.cellAt (w.heap.size + 1) (by omega) (2)).trans Hb2.out
    have b3 := (HE2.out.cellAt (w.heap.size + 1) (by omega) (3)).trans Hb3.out
    have q0 := (HE2.out.cellAt (bp) (by omega) (offp + j)).trans Hq0.out
    go_wp2_with (go_at_call 43; first | (with_reducible refine (cO.out _).mono ?_; rintro e w9 ⟨rfl, rfl⟩) | (with_reducible refine (cT.out _).mono ?_; rintro e w9 ⟨rfl, rfl⟩) | (with_reducible refine (cF.out _).mono ?_; rintro e w9 ⟨rfl, rfl⟩) | (with_reducible refine (cS.out _).mono ?_; rintro e w9 ⟨rfl, rfl⟩))
    refine (cD.out w2 (HE2.out)).mono ?_
    rintro e w3 ⟨rfl, he3⟩
    have HE3 := Lib.hid (Ext.trans (HE2.out) he3)
    clear a0 a1 b0 b1 b2 b3 he3
    have a0 := (HE3.out.cellAt (w.heap.size) (by omega) (0)).trans Ha0.out
    have a1 := (HE3.out.cellAt (w.heap.size) (by omega) (1)).trans Ha1.out
    have b0 := (HE3.out.cellAt (w.heap.size + 1) (by omega) (0)).trans Hb0.out
    have b1 := (HE3.out.cellAt (w.heap.size + 1) (by omega) (1)).trans Hb1.out
    have b2 := (HE3.out.cellAt (w.heap.size + 1) (by omega) (2)).trans Hb2.out
    have b3 := (HE3.out.cellAt (w.heap.size + 1) (by omega) (3)).trans Hb3.out
    have q0 := (HE3.out.cellAt (bp) (by omega) (offp + j)).trans Hq0.out
    go_wp2_with (go_at_call 43; first | (with_reducible refine (cO.out _).mono ?_; rintro e w9 ⟨rfl, rfl⟩) | (with_reducible refine (cT.out _).mono ?_; rintro e w9 ⟨rfl, rfl⟩) | (with_reducible refine (cF.out _).mono ?_; rintro e w9 ⟨rfl, rfl⟩) | (with_reducible refine (cS.out _).mono ?_; rintro e w9 ⟨rfl, rfl⟩))
    go_ret
    exact ⟨ret_bool HF.out.symm, HE.out.trans (HE3.out)⟩
  rw [hF] at cF
  cases hS : inB s 0 ((n2 : Int) - 1)
  case false =>
    rw [hS] at cS
    have HF : Hid (canMoveB H ds ps gs ⟨j, t, f, s⟩ = false) := by unfold Hid canMoveB goB hasDoorB; simp [hl2.out, hS]
    clear hP hH hO hT hX hD hF hS
    go_enter Tryd.func108, Tryd.ntmps108
    go_wp2_with fail
    rw [← Hwb.out]
    refine cP.out.mono ?_
    rintro e w1 ⟨rfl, he1⟩
    have HE1 := Lib.hid he1
    have a0 := (HE1.out.cellAt (w.heap.size) (by omega) (0)).trans Ha0.out
    have a1 := (HE1.out.cellAt (w.heap.size) (by omega) (1)).trans Ha1.out
    have b0 := (HE1.out.cellAt (w.heap.size + 1) (by omega) (0)).trans Hb0.out
    have b1 := (HE1.out.cellAt (w.heap.size + 1) (by omega) (1)).trans Hb1.out
    have b2 := (HE1.out.cellAt (w.heap.size + 1) (by omega) (2)).trans Hb2.out
    have b3 := (HE1.out.cellAt (w.heap.size + 1) (by omega) (3)).trans Hb3.out
    have q0 := (HE1.out.cellAt (bp) (by omega) (offp + j)).trans Hq0.out
    clear he1
    go_wp2_with fail
    refine (cH.out w1 (HE1.out)).mono ?_
    rintro e w2 ⟨rfl, he2⟩
    have HE2 := Lib.hid (Ext.trans (HE1.out) he2)
    clear a0 a1 b0 b1 b2 b3 he2
    have a0 := (HE2.out.cellAt (w.heap.size) (by omega) (0)).trans Ha0.out
    have a1 := (HE2.out.cellAt (w.heap.size) (by omega) (1)).trans Ha1.out
    have b0 := (HE2.out.cellAt (w.heap.size + 1) (by omega) (0)).trans Hb0.out
    have b1 := (HE2.out.cellAt (w.heap.size + 1) (by omega) (1)).trans Hb1.out
    have b2 := (HE2.out.cellAt (w.heap.size + 1) (by omega) (2)).trans Hb2.out
    have b3 := (HE2.out.cellAt (w.heap.size + 1) (by omega) (3)).trans Hb3.out
    have q0 := (HE2.out.cellAt (bp) (by omega) (offp + j)).trans Hq0.out
    go_wp2_with (go_at_call 43; first | (with_reducible refine (cO.out _).mono ?_; rintro e w9 ⟨rfl, rfl⟩) | (with_reducible refine (cT.out _).mono ?_; rintro e w9 ⟨rfl, rfl⟩) | (with_reducible refine (cF.out _).mono ?_; rintro e w9 ⟨rfl, rfl⟩) | (with_reducible refine (cS.out _).mono ?_; rintro e w9 ⟨rfl, rfl⟩))
    refine (cD.out w2 (HE2.out)).mono ?_
    rintro e w3 ⟨rfl, he3⟩
    have HE3 := Lib.hid (Ext.trans (HE2.out) he3)
    clear a0 a1 b0 b1 b2 b3 he3
    have a0 := (HE3.out.cellAt (w.heap.size) (by omega) (0)).trans Ha0.out
    have a1 := (HE3.out.cellAt (w.heap.size) (by omega) (1)).trans Ha1.out
    have b0 := (HE3.out.cellAt (w.heap.size + 1) (by omega) (0)).trans Hb0.out
    have b1 := (HE3.out.cellAt (w.heap.size + 1) (by omega) (1)).trans Hb1.out
    have b2 := (HE3.out.cellAt (w.heap.size + 1) (by omega) (2)).trans Hb2.out
    have b3 := (HE3.out.cellAt (w.heap.size + 1) (by omega) (3)).trans Hb3.out
    have q0 := (HE3.out.cellAt (bp) (by omega) (offp + j)).trans Hq0.out
    go_wp2_with (go_at_call 43; first | (with_reducible refine (cO.out _).mono ?_; rintro e w9 ⟨rfl, rfl⟩) | (with_reducible refine (cT.out _).mono ?_; rintro e w9 ⟨rfl, rfl⟩) | (with_reducible refine (cF.out _).mono ?_; rintro e w9 ⟨rfl, rfl⟩) | (with_reducible refine (cS.out _).mono ?_; rintro e w9 ⟨rfl, rfl⟩))
    go_ret
    exact ⟨ret_bool HF.out.symm, HE.out.trans (HE3.out)⟩
  rw [hS] at cS
  have hne : (f != s) = true := by simp at hE; simp [hE]
  have hh : houseB H ds = true := hallsB_house hH
  have HV : Hid (canMoveB H ds ps gs ⟨j, t, f, s⟩ = (nearB gs ps ⟨j, t, f, s⟩ f && nearB gs ps ⟨j, t, f, s⟩ s)) := by unfold Hid canMoveB goB hasDoorB hallB; simp only [hP, hH, hh, hl1.out, hl2.out, hO, hT, Int.toNat_natCast, hX, hD, decide_eq_true h6, hF, hS, hne, Bool.true_and]
  have hfs : 0 ≤ f ∧ f ≤ (n2 : Int) - 1 := by simpa [inB] using hF
  have hss : 0 ≤ s ∧ s ≤ (n2 : Int) - 1 := by simpa [inB] using hS
  obtain ⟨kf, rfl⟩ := Int.eq_ofNat_of_zero_le hfs.1
  obtain ⟨ks, rfl⟩ := Int.eq_ofNat_of_zero_le hss.1
  have hkf : kf < n2 := by omega
  have hks : ks < n2 := by omega
  obtain ⟨bg, offg, gf, rfl, hbg, hgf, qf⟩ := ienc_at hxb2.out hkf
  obtain ⟨bg', offg', gk, hAg, hbg', hgk, qs⟩ := ienc_at hxb2.out hks
  obtain ⟨rfl, rfl⟩ : bg' = bg ∧ offg' = offg := by simp at hAg; exact ⟨hAg.1.symm, hAg.2.symm⟩
  have HQf := Lib.hid (fun w1 (he : Ext wb w1) => (he.cellAt _ (by omega) _).trans qf)
  have HQs := Lib.hid (fun w1 (he : Ext wb w1) => (he.cellAt _ (by omega) _).trans qs)
  have hNf : nearB gs ps ⟨j, t, kf, ks⟩ kf = ((gf == x) || (gf == t)) := by unfold nearB; simp only [Int.toNat_natCast, hX, getD_of' hgf]
  have hNs : nearB gs ps ⟨j, t, kf, ks⟩ ks = ((gk == x) || (gk == t)) := by unfold nearB; simp only [Int.toNat_natCast, hX, getD_of' hgk]
  have cN1 := Lib.hid (fun W => spec_l35Near gf x t W)
  have cN2 := Lib.hid (fun W => spec_l35Near gk x t W)
  rw [hNf, hNs] at HV
  clear hfs hss hne hh hP hH hO hT hX hD hF hS hNf hNs hgf hgk qf qs hAg
  cases hN : ((gf == x) || (gf == t))
  case false =>
    rw [hN] at cN1
    have HF : Hid (canMoveB H ds ps gs ⟨j, t, kf, ks⟩ = false) := by unfold Hid; rw [HV.out, hN]; rfl
    clear hN
    go_enter Tryd.func108, Tryd.ntmps108
    go_wp2_with fail
    rw [← Hwb.out]
    refine cP.out.mono ?_
    rintro e w1 ⟨rfl, he1⟩
    have HE1 := Lib.hid he1
    have a0 := (HE1.out.cellAt (w.heap.size) (by omega) (0)).trans Ha0.out
    have a1 := (HE1.out.cellAt (w.heap.size) (by omega) (1)).trans Ha1.out
    have b0 := (HE1.out.cellAt (w.heap.size + 1) (by omega) (0)).trans Hb0.out
    have b1 := (HE1.out.cellAt (w.heap.size + 1) (by omega) (1)).trans Hb1.out
    have b2 := (HE1.out.cellAt (w.heap.size + 1) (by omega) (2)).trans Hb2.out
    have b3 := (HE1.out.cellAt (w.heap.size + 1) (by omega) (3)).trans Hb3.out
    have q0 := (HE1.out.cellAt (bp) (by omega) (offp + j)).trans Hq0.out
    clear he1
    go_wp2_with fail
    refine (cH.out w1 (HE1.out)).mono ?_
    rintro e w2 ⟨rfl, he2⟩
    have HE2 := Lib.hid (Ext.trans (HE1.out) he2)
    clear a0 a1 b0 b1 b2 b3 he2
    have a0 := (HE2.out.cellAt (w.heap.size) (by omega) (0)).trans Ha0.out
    have a1 := (HE2.out.cellAt (w.heap.size) (by omega) (1)).trans Ha1.out
    have b0 := (HE2.out.cellAt (w.heap.size + 1) (by omega) (0)).trans Hb0.out
    have b1 := (HE2.out.cellAt (w.heap.size + 1) (by omega) (1)).trans Hb1.out
    have b2 := (HE2.out.cellAt (w.heap.size + 1) (by omega) (2)).trans Hb2.out
    have b3 := (HE2.out.cellAt (w.heap.size + 1) (by omega) (3)).trans Hb3.out
    have q0 := (HE2.out.cellAt (bp) (by omega) (offp + j)).trans Hq0.out
    go_wp2_with (go_at_call 43; first | (with_reducible refine (cO.out _).mono ?_; rintro e w9 ⟨rfl, rfl⟩) | (with_reducible refine (cT.out _).mono ?_; rintro e w9 ⟨rfl, rfl⟩) | (with_reducible refine (cF.out _).mono ?_; rintro e w9 ⟨rfl, rfl⟩) | (with_reducible refine (cS.out _).mono ?_; rintro e w9 ⟨rfl, rfl⟩))
    refine (cD.out w2 (HE2.out)).mono ?_
    rintro e w3 ⟨rfl, he3⟩
    have HE3 := Lib.hid (Ext.trans (HE2.out) he3)
    clear a0 a1 b0 b1 b2 b3 he3
    have a0 := (HE3.out.cellAt (w.heap.size) (by omega) (0)).trans Ha0.out
    have a1 := (HE3.out.cellAt (w.heap.size) (by omega) (1)).trans Ha1.out
    have b0 := (HE3.out.cellAt (w.heap.size + 1) (by omega) (0)).trans Hb0.out
    have b1 := (HE3.out.cellAt (w.heap.size + 1) (by omega) (1)).trans Hb1.out
    have b2 := (HE3.out.cellAt (w.heap.size + 1) (by omega) (2)).trans Hb2.out
    have b3 := (HE3.out.cellAt (w.heap.size + 1) (by omega) (3)).trans Hb3.out
    have q0 := (HE3.out.cellAt (bp) (by omega) (offp + j)).trans Hq0.out
    go_wp2_with (go_at_call 43; first | (with_reducible refine (cO.out _).mono ?_; rintro e w9 ⟨rfl, rfl⟩) | (with_reducible refine (cT.out _).mono ?_; rintro e w9 ⟨rfl, rfl⟩) | (with_reducible refine (cF.out _).mono ?_; rintro e w9 ⟨rfl, rfl⟩) | (with_reducible refine (cS.out _).mono ?_; rintro e w9 ⟨rfl, rfl⟩))
    have e1 := cell_regrown b1
    have e2 := cell_regrown b2
    have e3 := cell_regrown b3
    have e4 := cell_regrown (HQf.out w3 (HE3.out))
    have e5 := cell_regrown (HQs.out w3 (HE3.out))
    (refine wp_region_ext (by kernel_rfl) (by kernel_rfl) ?_; (repeat (go_big_quiet_step (first | (go_at_call 94; with_reducible exact Calls.rg0 (cN1.out _)) | (go_at_call 94; with_reducible exact Calls.rg0 (cN2.out _))))); refine wpQuiet_nil ?_)
    intro w4 hb4
    have HE4 := Lib.hid (Ext.trans (HE3.out) hb4)
    go_wp2_with fail
    go_ret
    exact ⟨ret_bool HF.out.symm, HE.out.trans (HE4.out)⟩
  rw [hN] at cN1
  cases hM : ((gk == x) || (gk == t))
  case false =>
    rw [hM] at cN2
    have HF : Hid (canMoveB H ds ps gs ⟨j, t, kf, ks⟩ = false) := by unfold Hid; rw [HV.out, hN, hM]; rfl
    clear hN hM
    go_enter Tryd.func108, Tryd.ntmps108
    go_wp2_with fail
    rw [← Hwb.out]
    refine cP.out.mono ?_
    rintro e w1 ⟨rfl, he1⟩
    have HE1 := Lib.hid he1
    have a0 := (HE1.out.cellAt (w.heap.size) (by omega) (0)).trans Ha0.out
    have a1 := (HE1.out.cellAt (w.heap.size) (by omega) (1)).trans Ha1.out
    have b0 := (HE1.out.cellAt (w.heap.size + 1) (by omega) (0)).trans Hb0.out
    have b1 := (HE1.out.cellAt (w.heap.size + 1) (by omega) (1)).trans Hb1.out
    have b2 := (HE1.out.cellAt (w.heap.size + 1) (by omega) (2)).trans Hb2.out
    have b3 := (HE1.out.cellAt (w.heap.size + 1) (by omega) (3)).trans Hb3.out
    have q0 := (HE1.out.cellAt (bp) (by omega) (offp + j)).trans Hq0.out
    clear he1
    go_wp2_with fail
    refine (cH.out w1 (HE1.out)).mono ?_
    rintro e w2 ⟨rfl, he2⟩
    have HE2 := Lib.hid (Ext.trans (HE1.out) he2)
    clear a0 a1 b0 b1 b2 b3 he2
    have a0 := (HE2.out.cellAt (w.heap.size) (by omega) (0)).trans Ha0.out
    have a1 := (HE2.out.cellAt (w.heap.size) (by omega) (1)).trans Ha1.out
    have b0 := (HE2.out.cellAt (w.heap.size + 1) (by omega) (0)).trans Hb0.out
    have b1 := (HE2.out.cellAt (w.heap.size + 1) (by omega) (1)).trans Hb1.out
    have b2 := (HE2.out.cellAt (w.heap.size + 1) (by omega) (2)).trans Hb2.out
    have b3 := (HE2.out.cellAt (w.heap.size + 1) (by omega) (3)).trans Hb3.out
    have q0 := (HE2.out.cellAt (bp) (by omega) (offp + j)).trans Hq0.out
    go_wp2_with (go_at_call 43; first | (with_reducible refine (cO.out _).mono ?_; rintro e w9 ⟨rfl, rfl⟩) | (with_reducible refine (cT.out _).mono ?_; rintro e w9 ⟨rfl, rfl⟩) | (with_reducible refine (cF.out _).mono ?_; rintro e w9 ⟨rfl, rfl⟩) | (with_reducible refine (cS.out _).mono ?_; rintro e w9 ⟨rfl, rfl⟩))
    refine (cD.out w2 (HE2.out)).mono ?_
    rintro e w3 ⟨rfl, he3⟩
    have HE3 := Lib.hid (Ext.trans (HE2.out) he3)
    clear a0 a1 b0 b1 b2 b3 he3
    have a0 := (HE3.out.cellAt (w.heap.size) (by omega) (0)).trans Ha0.out
    have a1 := (HE3.out.cellAt (w.heap.size) (by omega) (1)).trans Ha1.out
    have b0 := (HE3.out.cellAt (w.heap.size + 1) (by omega) (0)).trans Hb0.out
    have b1 := (HE3.out.cellAt (w.heap.size + 1) (by omega) (1)).trans Hb1.out
    have b2 := (HE3.out.cellAt (w.heap.size + 1) (by omega) (2)).trans Hb2.out
    have b3 := (HE3.out.cellAt (w.heap.size + 1) (by omega) (3)).trans Hb3.out
    have q0 := (HE3.out.cellAt (bp) (by omega) (offp + j)).trans Hq0.out
    go_wp2_with (go_at_call 43; first | (with_reducible refine (cO.out _).mono ?_; rintro e w9 ⟨rfl, rfl⟩) | (with_reducible refine (cT.out _).mono ?_; rintro e w9 ⟨rfl, rfl⟩) | (with_reducible refine (cF.out _).mono ?_; rintro e w9 ⟨rfl, rfl⟩) | (with_reducible refine (cS.out _).mono ?_; rintro e w9 ⟨rfl, rfl⟩))
    have e1 := cell_regrown b1
    have e2 := cell_regrown b2
    have e3 := cell_regrown b3
    have e4 := cell_regrown (HQf.out w3 (HE3.out))
    have e5 := cell_regrown (HQs.out w3 (HE3.out))
    (refine wp_region_ext (by kernel_rfl) (by kernel_rfl) ?_; (repeat (go_big_quiet_step (first | (go_at_call 94; with_reducible exact Calls.rg0 (cN1.out _)) | (go_at_call 94; with_reducible exact Calls.rg0 (cN2.out _))))); refine wpQuiet_nil ?_)
    intro w4 hb4
    have HE4 := Lib.hid (Ext.trans (HE3.out) hb4)
    go_wp2_with fail
    go_ret
    exact ⟨ret_bool HF.out.symm, HE.out.trans (HE4.out)⟩
  case true =>
    rw [hM] at cN2
    have HF : Hid (canMoveB H ds ps gs ⟨j, t, kf, ks⟩ = true) := by unfold Hid; rw [HV.out, hN, hM]; rfl
    clear hN hM
    go_enter Tryd.func108, Tryd.ntmps108
    go_wp2_with fail
    rw [← Hwb.out]
    refine cP.out.mono ?_
    rintro e w1 ⟨rfl, he1⟩
    have HE1 := Lib.hid he1
    have a0 := (HE1.out.cellAt (w.heap.size) (by omega) (0)).trans Ha0.out
    have a1 := (HE1.out.cellAt (w.heap.size) (by omega) (1)).trans Ha1.out
    have b0 := (HE1.out.cellAt (w.heap.size + 1) (by omega) (0)).trans Hb0.out
    have b1 := (HE1.out.cellAt (w.heap.size + 1) (by omega) (1)).trans Hb1.out
    have b2 := (HE1.out.cellAt (w.heap.size + 1) (by omega) (2)).trans Hb2.out
    have b3 := (HE1.out.cellAt (w.heap.size + 1) (by omega) (3)).trans Hb3.out
    have q0 := (HE1.out.cellAt (bp) (by omega) (offp + j)).trans Hq0.out
    clear he1
    go_wp2_with fail
    refine (cH.out w1 (HE1.out)).mono ?_
    rintro e w2 ⟨rfl, he2⟩
    have HE2 := Lib.hid (Ext.trans (HE1.out) he2)
    clear a0 a1 b0 b1 b2 b3 he2
    have a0 := (HE2.out.cellAt (w.heap.size) (by omega) (0)).trans Ha0.out
    have a1 := (HE2.out.cellAt (w.heap.size) (by omega) (1)).trans Ha1.out
    have b0 := (HE2.out.cellAt (w.heap.size + 1) (by omega) (0)).trans Hb0.out
    have b1 := (HE2.out.cellAt (w.heap.size + 1) (by omega) (1)).trans Hb1.out
    have b2 := (HE2.out.cellAt (w.heap.size + 1) (by omega) (2)).trans Hb2.out
    have b3 := (HE2.out.cellAt (w.heap.size + 1) (by omega) (3)).trans Hb3.out
    have q0 := (HE2.out.cellAt (bp) (by omega) (offp + j)).trans Hq0.out
    go_wp2_with (go_at_call 43; first | (with_reducible refine (cO.out _).mono ?_; rintro e w9 ⟨rfl, rfl⟩) | (with_reducible refine (cT.out _).mono ?_; rintro e w9 ⟨rfl, rfl⟩) | (with_reducible refine (cF.out _).mono ?_; rintro e w9 ⟨rfl, rfl⟩) | (with_reducible refine (cS.out _).mono ?_; rintro e w9 ⟨rfl, rfl⟩))
    refine (cD.out w2 (HE2.out)).mono ?_
    rintro e w3 ⟨rfl, he3⟩
    have HE3 := Lib.hid (Ext.trans (HE2.out) he3)
    clear a0 a1 b0 b1 b2 b3 he3
    have a0 := (HE3.out.cellAt (w.heap.size) (by omega) (0)).trans Ha0.out
    have a1 := (HE3.out.cellAt (w.heap.size) (by omega) (1)).trans Ha1.out
    have b0 := (HE3.out.cellAt (w.heap.size + 1) (by omega) (0)).trans Hb0.out
    have b1 := (HE3.out.cellAt (w.heap.size + 1) (by omega) (1)).trans Hb1.out
    have b2 := (HE3.out.cellAt (w.heap.size + 1) (by omega) (2)).trans Hb2.out
    have b3 := (HE3.out.cellAt (w.heap.size + 1) (by omega) (3)).trans Hb3.out
    have q0 := (HE3.out.cellAt (bp) (by omega) (offp + j)).trans Hq0.out
    go_wp2_with (go_at_call 43; first | (with_reducible refine (cO.out _).mono ?_; rintro e w9 ⟨rfl, rfl⟩) | (with_reducible refine (cT.out _).mono ?_; rintro e w9 ⟨rfl, rfl⟩) | (with_reducible refine (cF.out _).mono ?_; rintro e w9 ⟨rfl, rfl⟩) | (with_reducible refine (cS.out _).mono ?_; rintro e w9 ⟨rfl, rfl⟩))
    have e1 := cell_regrown b1
    have e2 := cell_regrown b2
    have e3 := cell_regrown b3
    have e4 := cell_regrown (HQf.out w3 (HE3.out))
    have e5 := cell_regrown (HQs.out w3 (HE3.out))
    (refine wp_region_ext (by kernel_rfl) (by kernel_rfl) ?_; (repeat (go_big_quiet_step (first | (go_at_call 94; with_reducible exact Calls.rg0 (cN1.out _)) | (go_at_call 94; with_reducible exact Calls.rg0 (cN2.out _))))); refine wpQuiet_nil ?_)
    intro w4 hb4
    have HE4 := Lib.hid (Ext.trans (HE3.out) hb4)
    go_wp2_with fail
    go_ret
    exact ⟨ret_bool HF.out.symm, HE.out.trans (HE4.out)⟩
end Go.Proofs.YtkelmeemblmggaaDoor
/- Contracts of MoveObject and l35Copy; no condition but what stands at each theorem. -/
namespace Go.Proofs.YtkelmeemblmggaaDoor
set_option linter.unusedSimpArgs false
set_option linter.unusedVariables false
open Go.RowKit Go.Sort
/-- A list and whether. -/
def ListBool (L : List Int) (b : Bool) (w : World) (e : Ending) (w' : World) : Prop := ∃ v, e = .returned (.tuple #[v, .bool b]) ∧ Ext w w' ∧ w'.ownsRow w.heap.size 3 1 v L.length (L.flatMap ienc)
def moveL (H : Int) (ds : List GDoor) (ps gs : List Int) (m : GMove) : List Int := if canMoveB H ds ps gs m then ps.set m.o.toNat m.t else ps
theorem own_set {w : World} {base n c g : Nat} {t : TypeId} {u : List Int} (h : w.ownsRow base t 1 (.slice (some ⟨g, 0, none⟩) n c) n (u.flatMap ienc)) (i : Nat) (x : Int) :
    (w.setCell ⟨g, i, none⟩ (.int .i64 x)).ownsRow base t 1 (.slice (some ⟨g, 0, none⟩) n c) n ((u.set i x).flatMap ienc) := by
  rcases own_block h with ⟨hA, _⟩ | ⟨g', cur, hA, hb, hblk, hnc, hcm, hcs, ht⟩
  · cases hA
  · injection hA with hA
    injection hA with hA
    subst hA
    refine ⟨?_, .inr ⟨g, c, _, rfl, hb, hblk.set i _, hnc, hcm, by simpa using hcs, ?_⟩⟩
    · have := h.1
      rw [ienc_map, List.length_map] at this ⊢
      simpa using this
    · rw [ienc_map] at ht ⊢
      rw [List.map_set, ← ht]
      simp [List.take_set]
theorem canMoveB_obj {H : Int} {ds : List GDoor} {ps gs : List Int} {m : GMove} (h : canMoveB H ds ps gs m = true) : 0 ≤ m.o ∧ m.o < ps.length := by
  simp only [canMoveB, goB, inB, Bool.and_eq_true, decide_eq_true_eq] at h
  have h1 := h.2.2.2.1.1
  omega
theorem spec_l35Copy (A : Option Addr) (n c : Nat) (xs : List Int) (w : World) (hx : Rd w 1 A n (xs.flatMap ienc)) (hnc : Hid (A = none → c = 0)) (hn : n ≤ 1048576) :
    Calls Tryd.prog 106 #[.slice A n c] w fun e w' => ∃ g c', e = .returned (.slice (some ⟨g, 0, none⟩) n c') ∧ Ext w w' ∧ w'.ownsRow w.heap.size 3 1 (.slice (some ⟨g, 0, none⟩) n c') n (xs.flatMap ienc) := by
  have HX := Lib.hid hx
  clear hx
  go_enter Tryd.func106, Tryd.ntmps106
  go_wp2_with (at_builtin; refine (fun h : Hid _ => h.out) ?_)
  unfold Hid
  refine appendRdN ei_I rfl _ _ rfl w.heap.size _ _ 0 [] (by rfl) (own_empty w w.heap.size 3 1 (Nat.le_refl _)) A n c (xs.flatMap ienc) (by rfl) (HX.out.alloc _) hnc.out (one_ienc _) (by omega) (by simp) (by intro h; cases h) ?_
  intro g c' w1
  rw [Nat.zero_add, List.nil_append]
  intro ho he
  have HO1 := Lib.hid ho
  have HE1 := Lib.hid (he w ((Ext.refl w).alloc _) (Nat.le_refl _))
  clear ho he
  go_wp2_with fail
  go_ret
  exact ⟨g, c', rfl, HE1.out, HO1.out⟩
set_option maxRecDepth 100000 in
set_option maxHeartbeats 2000000 in
theorem spec_MoveObject (H : Int) (A : Option Addr) (n c : Nat) (ds : List GDoor) (A1 : Option Addr) (n1 c1 : Nat) (ps : List Int) (A2 : Option Addr) (n2 c2 : Nat) (gs : List Int) (m : GMove) (w : World) (hx : Rd w 2 A n (ds.flatMap GDoor.enc)) (hx1 : Rd w 1 A1 n1 (ps.flatMap ienc)) (hx2 : Rd w 1 A2 n2 (gs.flatMap ienc)) (hnc : Hid (A1 = none → c1 = 0)) (hn1 : n1 ≤ 1048576) :
    Calls Tryd.prog 90 #[.agg #[.int .i64 H, .slice A n c], .slice A1 n1 c1, .slice A2 n2 c2, .agg #[.int .i64 m.o, .int .i64 m.t, .int .i64 m.f, .int .i64 m.s]] w (ListBool (moveL H ds ps gs m) (canMoveB H ds ps gs m) w) := by
  have hl1 := Lib.hid (hx1.len ienc_len (by omega))
  obtain ⟨wb, hwb⟩ : ∃ wb, wb = (w.alloc (.cells #[.int .i64 H, .slice A n c] 34)).alloc (.cells #[.int .i64 m.o, .int .i64 m.t, .int .i64 m.f, .int .i64 m.s] 117) := ⟨_, rfl⟩
  obtain ⟨hE, hsb, a0, a1, b0, b1, b2, b3⟩ := boxHM w _ _ _ _ _ _ _ _ wb hwb
  have HE := Lib.hid hE
  have Hwb := Lib.hid hwb
  have Ha0 := Lib.hid a0
  have Ha1 := Lib.hid a1
  have Hb0 := Lib.hid b0
  have Hb1 := Lib.hid b1
  have Hb2 := Lib.hid b2
  have Hb3 := Lib.hid b3
  have hxb := Lib.hid (hx.keep hE)
  have hxb1 := Lib.hid (hx1.keep hE)
  have hxb2 := Lib.hid (hx2.keep hE)
  clear hE hwb a0 a1 b0 b1 b2 b3 hx hx1 hx2
  go_enter Tryd.func90, Tryd.ntmps90
  go_wp2_with fail
  rw [← Hwb.out]
  refine (spec_l35Copy A1 n1 c1 ps wb hxb1.out hnc hn1).mono ?_
  rintro e w1 ⟨g, c', rfl, he, ho⟩
  have HO1 := Lib.hid ho
  have HE1 := Lib.hid he
  clear ho he
  have cM := Lib.hid (spec_CanMove H A n c ds A1 n1 c1 ps A2 n2 c2 gs m w1 (hxb.out.keep HE1.out) (hxb1.out.keep HE1.out) (hxb2.out.keep HE1.out))
  have a0 := (HE1.out.cellAt (w.heap.size) (by omega) 0).trans Ha0.out
  have a1 := (HE1.out.cellAt (w.heap.size) (by omega) 1).trans Ha1.out
  have b0 := (HE1.out.cellAt (w.heap.size + 1) (by omega) 0).trans Hb0.out
  have b1 := (HE1.out.cellAt (w.heap.size + 1) (by omega) 1).trans Hb1.out
  have b2 := (HE1.out.cellAt (w.heap.size + 1) (by omega) 2).trans Hb2.out
  have b3 := (HE1.out.cellAt (w.heap.size + 1) (by omega) 3).trans Hb3.out
  cases hM : canMoveB H ds ps gs m
  case false =>
    rw [hM] at cM
    have HL : Hid (moveL H ds ps gs m = ps) := by unfold Hid moveL; rw [hM]; rfl
    have HM := Lib.hid hM
    clear hM
    go_wp2_with fail
    refine cM.out.mono ?_
    rintro e w2 ⟨rfl, he2⟩
    have HE2 := Lib.hid (Ext.trans HE1.out he2)
    have HO2 := Lib.hid (own_keep HO1.out he2)
    clear he2 a0 a1 b0 b1 b2 b3
    go_wp2_with fail
    go_ret2
    exact ⟨.slice (some ⟨g, 0, none⟩) n1 c', (by rw [HM.out]; rfl), HE.out.trans HE2.out, by rw [HL.out, hl1.out]; exact own_weak HO2.out (by omega)⟩
  case true =>
    rw [hM] at cM
    obtain ⟨ho0, ho1⟩ := canMoveB_obj hM
    obtain ⟨j, hj⟩ := Int.eq_ofNat_of_zero_le ho0
    have hjn : j < n1 := by (have := hl1.out; omega)
    have HL : Hid (moveL H ds ps gs m = ps.set j m.t) := by unfold Hid moveL; rw [hM, hj]; rfl
    rw [hj] at Hb0
    have HM := Lib.hid hM
    clear hM ho0 ho1 hsb hj
    have hsb : w.heap.size + 1 + 1 ≤ wb.heap.size := by rw [Hwb.out]; simp
    go_wp2_with fail
    refine cM.out.mono ?_
    rintro e w2 ⟨rfl, he2⟩
    have HE2 := Lib.hid (Ext.trans HE1.out he2)
    have ho2 := own_keep HO1.out he2
    obtain ⟨g', hg', hbg, hblk⟩ := PBlk.of_own ho2 (by omega)
    injection hg' with hg'
    injection hg' with hg'
    subst hg'
    have HO2 := Lib.hid ho2
    have q0 := hblk.cell (i := j) (by rw [hl1.out]; exact hjn)
    have q1 := hblk.free j
    have q2 := hblk.lt
    clear he2 a0 a1 b0 b1 b2 b3 hblk ho2
    have b0 := (HE2.out.cellAt (w.heap.size + 1) (by omega) 0).trans Hb0.out
    have b1 := (HE2.out.cellAt (w.heap.size + 1) (by omega) 1).trans Hb1.out
    go_wp2_with fail
    go_ret2
    exact ⟨.slice (some ⟨g, 0, none⟩) n1 c', (by rw [HM.out]; rfl), HE.out.trans (HE2.out.setCell hbg _), by rw [HL.out, List.length_set, hl1.out]; exact own_weak (own_set HO2.out j m.t) (by omega)⟩
end Go.Proofs.YtkelmeemblmggaaDoor
/- Contracts of ReplayMoves; no condition but what stands at each theorem. -/
namespace Go.Proofs.YtkelmeemblmggaaDoor
set_option linter.unusedSimpArgs false
set_option linter.unusedVariables false
open Go.RowKit Go.Sort
/-- The moves ms done from u; where one does not go, ps. -/
def replayF (H : Int) (ds : List GDoor) (ps : List Int) : List Int → List GMove → List Int × Bool
  | u, [] => (u, true)
  | u, m :: r => if goB H ds u m then replayF H ds ps (u.set m.o.toNat m.t) r else (ps, false)
def replayL (H : Int) (ds : List GDoor) (ps : List Int) (ms : List GMove) : List Int × Bool :=
  if placesB H ds ps && decide (ms.length ≤ 30) then replayF H ds ps ps ms else (ps, false)
theorem goB_obj {H : Int} {ds : List GDoor} {ps : List Int} {m : GMove} (h : goB H ds ps m = true) : 0 ≤ m.o ∧ m.o < ps.length := by
  simp only [goB, inB, Bool.and_eq_true, decide_eq_true_eq] at h
  have h1 := h.1
  omega
theorem replayF_len (H : Int) (ds : List GDoor) (ps : List Int) : ∀ (ms : List GMove) (u : List Int), u.length = ps.length → (replayF H ds ps u ms).1.length = ps.length
  | [], u, h => h
  | m :: r, u, h => by
    unfold replayF
    split
    · exact replayF_len H ds ps r _ (by simpa using h)
    · rfl
theorem replayL_len (H : Int) (ds : List GDoor) (ps : List Int) (ms : List GMove) : (replayL H ds ps ms).1.length = ps.length := by
  unfold replayL
  split
  · exact replayF_len H ds ps ms ps rfl
  · rfl
theorem box4 (w : World) (b0 b1 b2 b3 : Value) (t : TypeId) (wb : World) (hwb : wb = w.alloc (.cells #[b0, b1, b2, b3] t)) :
    Ext w wb ∧ wb.heap.size = w.heap.size + 1 ∧ wb.cell? ⟨w.heap.size, 0, none⟩ = some b0 ∧ wb.cell? ⟨w.heap.size, 1, none⟩ = some b1 ∧ wb.cell? ⟨w.heap.size, 2, none⟩ = some b2 ∧ wb.cell? ⟨w.heap.size, 3, none⟩ = some b3 := by
  subst hwb
  refine ⟨(Ext.refl w).alloc _, by simp, ?_, ?_, ?_, ?_⟩
  all_goals rw [World.cell?_alloc_new]; rfl
end Go.Proofs.YtkelmeemblmggaaDoor
/-
  DERIVED: THE SHELF's CONTRACTS AT THIS DUMP, IN PLAIN WORDS (tools/lay-plain.mjs out of 'TrydShelf.lean', which tools/lay-shelf.mjs wrote): THE SAME DECLARATIONS UNDER THE SAME NAMES: 'import', 'namespace', 'open', 'def', 'theorem' AND NOTHING ELSE: no command of the shelf's: FOR A HAND-IN. Each laying: the table of numbers ('.._ren') and one theorem, a field a fact of the dump's own or the kernel's comparison; each contract: ONE APPLICATION.
-/
namespace Go.Proofs
open Go.Shelf
def Tryd.laysM171_ren : Go.Shelf.Ren := ⟨fun | 171 => 38 | 243 => 61 | 246 => 80 | 283 => 95 | 284 => 96 | 285 => 97 | 286 => 98 | 129 => 112 | 317 => 111 | 318 => 113 | 319 => 114 | 320 => 115 | 337 => 118 | 338 => 119 | n => n, fun | 3 => 3 | 9 => 9 | 2 => 2 | 4 => 4 | 171 => 134 | 0 => 0 | 53 => 135 | 37 => 44 | 5 => 5 | 173 => 138 | 212 => 150 | 51 => 151 | 20 => 20 | 213 => 152 | 46 => 133 | 232 => 160 | 233 => 161 | n => n, fun | 17 => 0 | 18 => 2 | 19 => 3 | n => n⟩
theorem Tryd.laysM171 : Go.Proofs.LaysM.n171 Tryd.prog Tryd.laysM171_ren := {
  mixed := by kernel_rfl
  f129 := Tryd.func112.trans (congrArg some (by kernel_rfl))
  f171 := Tryd.func38.trans (congrArg some (by kernel_rfl))
  f243 := Tryd.func61.trans (congrArg some (by kernel_rfl))
  f246 := Tryd.func80.trans (congrArg some (by kernel_rfl))
  f283 := Tryd.func95.trans (congrArg some (by kernel_rfl))
  f284 := Tryd.func96.trans (congrArg some (by kernel_rfl))
  f285 := Tryd.func97.trans (congrArg some (by kernel_rfl))
  f286 := Tryd.func98.trans (congrArg some (by kernel_rfl))
  f317 := Tryd.func111.trans (congrArg some (by kernel_rfl))
  f318 := Tryd.func113.trans (congrArg some (by kernel_rfl))
  f319 := Tryd.func114.trans (congrArg some (by kernel_rfl))
  f320 := Tryd.func115.trans (congrArg some (by kernel_rfl))
  f337 := Tryd.func118.trans (congrArg some (by kernel_rfl))
  f338 := Tryd.func119.trans (congrArg some (by kernel_rfl))
  t0 := Tryd.underlying0
  a0 := Tryd.isAgg0
  z0 := Tryd.sizeOf0
  v0 := Tryd.zeroValue0
  t2 := Tryd.underlying2
  a2 := Tryd.isAgg2
  z2 := Tryd.sizeOf2
  v2 := Tryd.zeroValue2
  t3 := Tryd.underlying3
  a3 := Tryd.isAgg3
  z3 := Tryd.sizeOf3
  v3 := Tryd.zeroValue3
  t4 := Tryd.underlying4
  a4 := Tryd.isAgg4
  z4 := Tryd.sizeOf4
  v4 := Tryd.zeroValue4
  t5 := Tryd.underlying5
  a5 := Tryd.isAgg5
  z5 := Tryd.sizeOf5
  v5 := Tryd.zeroValue5
  t9 := Tryd.underlying9
  a9 := Tryd.isAgg9
  z9 := Tryd.sizeOf9
  v9 := Tryd.zeroValue9
  t20 := Tryd.underlying20
  a20 := Tryd.isAgg20
  z20 := Tryd.sizeOf20
  v20 := Tryd.zeroValue20
  t37 := Tryd.underlying44
  a37 := Tryd.isAgg44
  z37 := Tryd.sizeOf44
  v37 := Tryd.zeroValue44
  t46 := Tryd.underlying133
  a46 := Tryd.isAgg133
  z46 := Tryd.sizeOf133
  v46 := Tryd.zeroValue133
  t51 := Tryd.underlying151
  a51 := Tryd.isAgg151
  z51 := Tryd.sizeOf151
  v51 := Tryd.zeroValue151
  t53 := Tryd.underlying135
  a53 := Tryd.isAgg135
  z53 := Tryd.sizeOf135
  v53 := Tryd.zeroValue135
  t171 := Tryd.underlying134
  a171 := Tryd.isAgg134
  z171 := Tryd.sizeOf134
  v171 := Tryd.zeroValue134
  t173 := Tryd.underlying138
  a173 := Tryd.isAgg138
  z173 := Tryd.sizeOf138
  v173 := Tryd.zeroValue138
  t212 := Tryd.underlying150
  a212 := Tryd.isAgg150
  z212 := Tryd.sizeOf150
  v212 := Tryd.zeroValue150
  t213 := Tryd.underlying152
  a213 := Tryd.isAgg152
  z213 := Tryd.sizeOf152
  t232 := Tryd.underlying160
  a232 := Tryd.isAgg160
  z232 := Tryd.sizeOf160
  v232 := Tryd.zeroValue160
  t233 := Tryd.underlying161
  a233 := Tryd.isAgg161
  z233 := Tryd.sizeOf161
  v233 := Tryd.zeroValue161
  g17 := by kernel_rfl
  g18 := by kernel_rfl
  g19 := by kernel_rfl
  i0 := by kernel_rfl
  i2 := by kernel_rfl
  i3 := by kernel_rfl
  i4 := by kernel_rfl
  i5 := by kernel_rfl
  i9 := by kernel_rfl
  i20 := by kernel_rfl
  i37 := by kernel_rfl
  i46 := by kernel_rfl
  i51 := by kernel_rfl
  i53 := by kernel_rfl
  i171 := by kernel_rfl
  i173 := by kernel_rfl
  i212 := by kernel_rfl
  i232 := by kernel_rfl
  i233 := by kernel_rfl
  m17 := by kernel_rfl
  m18 := by kernel_rfl
  m19 := by kernel_rfl }
open Go.RowKit Go.Sort Go.Lib in
/-- strconv.Itoa: "Itoa is equivalent to FormatInt(int64(i), 10).": i's DECIMAL NUMERAL ('Lib.itoa': a '-' where i is negative, then the digits), FOR EVERY int. The world behind the call: the world before it, new blocks behind the heap (the library's 'var a [24]byte'), draws. (LAID: no walk: one application.) -/
theorem Tryd.strconv_Itoa (n : Int) (h0 : -9223372036854775808 ≤ n) (h1 : n ≤ 9223372036854775807) (w : World) (htab : Lib.TabIs Tryd.prog w "internal/strconv.uint64pow10" .u64 Lib.pow10Tab) :
    Calls Tryd.prog 38 #[.int .i64 n] w fun e w' => e = .returned (.string ⟨(Lib.itoa n).toArray⟩) ∧ ∃ k os, w' = grow (w.drewN k) os := Any.strconv_Itoa Tryd.laysM171 n h0 h1 w htab
def Tryd.lays171_ren : Go.Shelf.Ren := ⟨fun | 171 => 38 | 243 => 61 | 246 => 80 | 283 => 95 | 284 => 96 | 285 => 97 | 286 => 98 | 129 => 112 | 317 => 111 | 318 => 113 | 319 => 114 | 320 => 115 | 337 => 118 | 338 => 119 | n => n, fun | 3 => 3 | 9 => 9 | 2 => 2 | 4 => 4 | 171 => 134 | 0 => 0 | 53 => 135 | 37 => 44 | 5 => 5 | 173 => 138 | 212 => 150 | 51 => 151 | 20 => 20 | 213 => 152 | 46 => 133 | 232 => 160 | 233 => 161 | n => n, fun | 17 => 0 | 18 => 2 | 19 => 3 | n => n⟩
theorem Tryd.lays171 : Go.Proofs.Lays.n171 Tryd.prog Tryd.lays171_ren := {
  mixed := by kernel_rfl
  f129 := Tryd.func112.trans (congrArg some (by kernel_rfl))
  f171 := Tryd.func38.trans (congrArg some (by kernel_rfl))
  f243 := Tryd.func61.trans (congrArg some (by kernel_rfl))
  f246 := Tryd.func80.trans (congrArg some (by kernel_rfl))
  f283 := Tryd.func95.trans (congrArg some (by kernel_rfl))
  f284 := Tryd.func96.trans (congrArg some (by kernel_rfl))
  f285 := Tryd.func97.trans (congrArg some (by kernel_rfl))
  f286 := Tryd.func98.trans (congrArg some (by kernel_rfl))
  f317 := Tryd.func111.trans (congrArg some (by kernel_rfl))
  f318 := Tryd.func113.trans (congrArg some (by kernel_rfl))
  f319 := Tryd.func114.trans (congrArg some (by kernel_rfl))
  f320 := Tryd.func115.trans (congrArg some (by kernel_rfl))
  f337 := Tryd.func118.trans (congrArg some (by kernel_rfl))
  f338 := Tryd.func119.trans (congrArg some (by kernel_rfl))
  t0 := Tryd.underlying0
  a0 := Tryd.isAgg0
  z0 := Tryd.sizeOf0
  v0 := Tryd.zeroValue0
  t2 := Tryd.underlying2
  a2 := Tryd.isAgg2
  z2 := Tryd.sizeOf2
  v2 := Tryd.zeroValue2
  t3 := Tryd.underlying3
  a3 := Tryd.isAgg3
  z3 := Tryd.sizeOf3
  v3 := Tryd.zeroValue3
  t4 := Tryd.underlying4
  a4 := Tryd.isAgg4
  z4 := Tryd.sizeOf4
  v4 := Tryd.zeroValue4
  t5 := Tryd.underlying5
  a5 := Tryd.isAgg5
  z5 := Tryd.sizeOf5
  v5 := Tryd.zeroValue5
  t9 := Tryd.underlying9
  a9 := Tryd.isAgg9
  z9 := Tryd.sizeOf9
  v9 := Tryd.zeroValue9
  t20 := Tryd.underlying20
  a20 := Tryd.isAgg20
  z20 := Tryd.sizeOf20
  v20 := Tryd.zeroValue20
  t37 := Tryd.underlying44
  a37 := Tryd.isAgg44
  z37 := Tryd.sizeOf44
  v37 := Tryd.zeroValue44
  t46 := Tryd.underlying133
  a46 := Tryd.isAgg133
  z46 := Tryd.sizeOf133
  v46 := Tryd.zeroValue133
  t51 := Tryd.underlying151
  a51 := Tryd.isAgg151
  z51 := Tryd.sizeOf151
  v51 := Tryd.zeroValue151
  t53 := Tryd.underlying135
  a53 := Tryd.isAgg135
  z53 := Tryd.sizeOf135
  v53 := Tryd.zeroValue135
  t171 := Tryd.underlying134
  a171 := Tryd.isAgg134
  z171 := Tryd.sizeOf134
  v171 := Tryd.zeroValue134
  t173 := Tryd.underlying138
  a173 := Tryd.isAgg138
  z173 := Tryd.sizeOf138
  v173 := Tryd.zeroValue138
  t212 := Tryd.underlying150
  a212 := Tryd.isAgg150
  z212 := Tryd.sizeOf150
  v212 := Tryd.zeroValue150
  t213 := Tryd.underlying152
  a213 := Tryd.isAgg152
  z213 := Tryd.sizeOf152
  t232 := Tryd.underlying160
  a232 := Tryd.isAgg160
  z232 := Tryd.sizeOf160
  v232 := Tryd.zeroValue160
  t233 := Tryd.underlying161
  a233 := Tryd.isAgg161
  z233 := Tryd.sizeOf161
  v233 := Tryd.zeroValue161
  g17 := by kernel_rfl
  g18 := by kernel_rfl
  g19 := by kernel_rfl }
open Go.RowKit Go.Sort Go.Lib in
/-- THE ROAD WITHOUT THE TABLE: 0 <= i < 100: NO PREMISE ON THE WORLD, AND THE WORLD IS AS IT WAS: a row that keeps its argument in that range need list no table ('laid = []'). (LAID: no walk: one application.) -/
theorem Tryd.strconv_Itoa_small (i : Nat) (hi : i < 100) (w : World) :
    Calls Tryd.prog 38 #[.int .i64 i] w fun e w' => e = .returned (.string ⟨(Lib.decDigits i).toArray⟩) ∧ w' = w := Any.strconv_Itoa_small Tryd.lays171 i hi w
end Go.Proofs
/- Contracts of FormatInt of both sides; no condition but what stands at each theorem. -/
namespace Go.Proofs.YtkelmeemblmggaaDoor
set_option linter.unusedSimpArgs false
set_option linter.unusedVariables false
open Go.RowKit Go.Sort
/-- A number as a text. -/
def itext (n : Int) : ByteArray := ⟨(Lib.itoa n).toArray⟩
theorem str_app (a b : List UInt8) : ((⟨a.toArray⟩ : ByteArray) ++ ⟨b.toArray⟩) = ⟨(a ++ b).toArray⟩ := by
  apply ByteArray.ext
  simp
theorem str_cons (b : UInt8) (L : List UInt8) : ((⟨#[b]⟩ : ByteArray) ++ ⟨L.toArray⟩) = ⟨(b :: L).toArray⟩ := str_app [b] L
def dig0 (m : Nat) : List UInt8 := if m = 0 then [] else Lib.decDigits m
theorem dig0_step {m : Nat} (h : m ≠ 0) : dig0 m = dig0 (m / 10) ++ [UInt8.ofNat (48 + m % 10)] := by
  unfold dig0
  rw [if_neg h, Lib.decDigits]
  by_cases h10 : m < 10
  · rw [dif_pos h10, if_pos (by omega), show m % 10 = m by omega]; rfl
  · rw [dif_neg h10, if_neg (by omega)]
theorem spec_l01Figure (d : Int) (w : World) (h0 : 0 ≤ d) (h : d ≤ 9) : Calls Tryd.prog 45 #[.int .i64 d] w fun e w' => e = .returned (.int .u8 (48 + d)) ∧ w = w' := by
  go_enter Tryd.func45, Tryd.ntmps45
  go_wp2
  go_ret
  exact ⟨ret_int (by first | rfl | omega), rfl⟩
theorem convb1 (w : World) (x : Nat) (h : x < 256) : (convert 44 9 (.slice (some ⟨w.heap.size, 0, none⟩) 1 1)).run Tryd.prog (w.alloc (.cells #[.int .u8 (x : Int)] 5)) = .ok (.string ⟨#[UInt8.ofNat x]⟩) (w.alloc (.cells #[.int .u8 (x : Int)] 5)) := by
  refine run_convert_bytes_back (P := Tryd.prog) _ 44 9 5 _ 1 [UInt8.ofNat x] Tryd.underlying44 Tryd.underlying5 Tryd.underlying9 ?_
  intro j hj
  simp only [List.length_cons, List.length_nil] at hj
  obtain rfl : j = 0 := by omega
  rw [add_none, World.cell?_alloc_new]
  simp [Nat.mod_eq_of_lt h]
set_option maxRecDepth 100000 in
set_option maxHeartbeats 1000000 in
theorem spec_FormatInt (n : Nat) (w : World) (h : n ≤ 1000000000000) : Calls Tryd.prog 22 #[.int .i64 n] w fun e w' => e = .returned (.string (itext n)) ∧ Ext w w' := by
  by_cases h0 : n = 0
  case pos =>
    subst h0
    have HF : Hid (itext ((0 : Nat) : Int) = ⟨#[48]⟩) := by unfold Hid itext Lib.itoa Lib.decDigits; rfl
    go_enter Tryd.func22, Tryd.ntmps22
    go_wp2
    go_ret
    exact ⟨by rw [HF.out]; rfl, Ext.refl _⟩
  case neg =>
    have f0 : ((n : Int) == 0) = false := by rw [beq_eq_false_iff_ne]; omega
    go_enter Tryd.func22, Tryd.ntmps22
    go_wp2_with fail
    go_loopw [0, 4] (fun z t wr => ∃ (m : Nat) (L : List UInt8), z = .int .i64 (m : Int) ∧ t = .string ⟨L.toArray⟩ ∧ m ≤ 1000000000000 ∧ L.length ≤ 13 ∧ Hid (m < 10 ^ (13 - L.length)) ∧ Hid (Lib.decDigits n = dig0 m ++ L) ∧ Ext w wr) (fun z _ _ => (intOf z).toNat)
    case atStart => exact ⟨n, [], rfl, rfl, h, by simp, by unfold Hid; simp; omega, by unfold Hid dig0; rw [if_neg h0]; simp, Ext.refl _⟩
    case round =>
      obtain ⟨m, L, rfl, rfl, hm, hL13, hpw, hz, hb⟩ := hrel
      have HB := Lib.hid hb
      clear hb
      by_cases hm0 : m = 0
      · subst hm0
        have HT : Hid (itext (n : Int) = ⟨L.toArray⟩) := by
          have h2 := hz.out
          unfold Hid itext
          rw [Lib.itoa, if_neg (by omega), Int.toNat_natCast, h2]
          simp [dig0]
        have f1 : (((0 : Nat) : Int) != 0) = false := rfl
        have f2 : ((0 : Int) != 0) = false := rfl
        go_wp2_with fail
        go_ret
        exact ⟨by rw [HT.out]; rfl, HB.out⟩
      · have f1 : ((m : Int) != 0) = true := by rw [bne_iff_ne]; omega
        have HZ : Hid (Lib.decDigits n = dig0 (m / 10) ++ (UInt8.ofNat (48 + m % 10) :: L)) := by
          unfold Hid
          rw [hz.out, dig0_step hm0, List.append_assoc]
          rfl
        have hd : m % 10 ≤ 9 := by omega
        have hF := Lib.hid (fun w => spec_l01Figure ((m : Int) % 10) w (by omega) (by omega))
        have hcv := fun (w : World) => convb1 w (48 + m % 10) (by omega)
        have ec : ((48 + m % 10 : Nat) : Int) = 48 + (m : Int) % 10 := by push_cast; rfl
        rw [ec] at hcv
        have hm1 : m / 10 < m := by omega
        have hL12 : L.length ≤ 12 := by
          have h2 := hpw.out
          have : L.length ≠ 13 := by
            intro e; rw [e] at h2; simp at h2; omega
          omega
        have HPw : Hid (m / 10 < 10 ^ (13 - (UInt8.ofNat (48 + m % 10) :: L).length)) := by
          have h2 := hpw.out
          unfold Hid
          rw [show 13 - L.length = (12 - L.length) + 1 by omega, Nat.pow_succ] at h2
          rw [List.length_cons, show 13 - (L.length + 1) = 12 - L.length by omega]
          exact Nat.div_lt_of_lt_mul (by omega)
        clear ec
        go_wp2_with (refine (hF.out _).mono ?_; rintro e w1 ⟨rfl, rfl⟩)
        go_roundw
        case rel => exact ⟨m / 10, UInt8.ofNat (48 + m % 10) :: L, by go_num, by rw [str_cons, UInt8.ofNat_add]; rfl, by omega, by simp; omega, HPw, HZ, HB.out.alloc _⟩
        case measure => simp [intOf]; omega
end Go.Proofs.YtkelmeemblmggaaDoor
/- Contracts of the program's FormatInt, and of MoveText of both sides; no condition but what stands at each theorem. -/
namespace Go.Proofs.YtkelmeemblmggaaDoor
set_option linter.unusedSimpArgs false
set_option linter.unusedVariables false
open Go.RowKit Go.Sort
theorem itext_nat (i : Nat) : itext (i : Int) = ⟨(Lib.decDigits i).toArray⟩ := by
  unfold itext Lib.itoa
  rw [if_neg (by omega), Int.toNat_natCast]
theorem itext_size (n : Int) (h0 : -9223372036854775808 ≤ n) (h1 : n ≤ 9223372036854775807) : (itext n).size ≤ 21 := by
  have := Lib.itoa_length_le n h0 h1
  show (Lib.itoa n).toArray.size ≤ 21
  simpa using this
theorem impl_FormatIntS (i : Nat) (hi : i < 100) (w : World) : Calls Tryd.prog 16 #[.int .i64 i] w fun e w' => e = .returned (.string (itext i)) ∧ w = w' := by
  have hc := Lib.hid (Tryd.strconv_Itoa_small i hi w)
  have HT := Lib.hid (itext_nat i)
  go_enter Tryd.func16, Tryd.ntmps16
  go_wp2_with (refine hc.out.mono ?_; rintro e w1 ⟨rfl, rfl⟩)
  go_ret
  exact ⟨by rw [HT.out]; rfl, rfl⟩
theorem impl_FormatInt (n : Int) (h0 : -9223372036854775808 ≤ n) (h1 : n ≤ 9223372036854775807) (w : World) (htab : Hid (Lib.TabIs Tryd.prog w "internal/strconv.uint64pow10" .u64 Lib.pow10Tab)) :
    Calls Tryd.prog 16 #[.int .i64 n] w fun e w' => e = .returned (.string (itext n)) ∧ Ext w w' := by
  have hc := Lib.hid (Tryd.strconv_Itoa n h0 h1 w htab.out)
  go_enter Tryd.func16, Tryd.ntmps16
  go_wp2_with fail
  refine hc.out.mono ?_
  rintro e w1 ⟨rfl, k, os, hw⟩
  have HE : Hid (Ext w w1) := by unfold Hid; rw [hw]; exact below_regrown w _ os
  clear hw
  go_wp2_with fail
  go_ret
  exact ⟨rfl, HE.out⟩
def sp1 : ByteArray := ⟨#[32]⟩
/-- Numbers behind a text, each behind a blank; the empty text where one is not from 0 to 20. -/
def mvF (s : ByteArray) : List Int → ByteArray
  | [] => s
  | x :: r => if inB x 0 20 then mvF (s ++ sp1 ++ itext x) r else ByteArray.empty
def moveT (m : GMove) : ByteArray := mvF ⟨#[109, 111, 118, 101]⟩ [m.o, m.t, m.f, m.s]
theorem rd_lit (w : World) (t : TypeId) (xs : List Int) (hn : xs.length ≤ 1048576) : Rd (w.alloc (.cells (xs.map (Value.int .i64)).toArray t)) 1 (some ⟨w.heap.size, 0, none⟩) xs.length (xs.flatMap ienc) := by
  refine ⟨by rw [flat_len ienc 1 ienc_len], by omega, fun _ => ⟨w.heap.size, 0, rfl, by simp, fun j u hu => ?_⟩⟩
  rw [World.cell?_alloc_new, Nat.zero_add]
  rw [ienc_map] at hu
  simpa using hu
set_option maxRecDepth 100000 in
set_option maxHeartbeats 2000000 in
theorem spec_MoveText (m : GMove) (w : World) : Calls Tryd.prog 92 #[.agg #[.int .i64 m.o, .int .i64 m.t, .int .i64 m.f, .int .i64 m.s]] w fun e w' => e = .returned (.string (moveT m)) ∧ Ext w w' := by
  obtain ⟨wa, hwa⟩ : ∃ wa, wa = w.alloc (.cells #[.int .i64 m.o, .int .i64 m.t, .int .i64 m.f, .int .i64 m.s] 117) := ⟨_, rfl⟩
  obtain ⟨wb, hwb⟩ : ∃ wb, wb = wa.alloc (.cells #[.int .i64 m.o, .int .i64 m.t, .int .i64 m.f, .int .i64 m.s] 3) := ⟨_, rfl⟩
  obtain ⟨xs, hxs⟩ : ∃ xs : List Int, xs = [m.o, m.t, m.f, m.s] := ⟨_, rfl⟩
  have hr : Rd wb 1 (some ⟨w.heap.size + 1, 0, none⟩) 4 (xs.flatMap ienc) := by
    have := rd_lit wa 3 [m.o, m.t, m.f, m.s] (by simp)
    rw [show wa.heap.size = w.heap.size + 1 by rw [hwa]; simp] at this
    rw [hwb, hxs]; exact this
  have hE : Ext w wb := by rw [hwb, hwa]; exact ((Ext.refl w).alloc _).alloc _
  have HM : Hid (moveT m = mvF ⟨#[109, 111, 118, 101]⟩ xs) := by unfold Hid moveT; rw [hxs]
  have hl : Hid (xs.length = 4) := by unfold Hid; rw [hxs]; rfl
  have HR := Lib.hid hr
  have HE := Lib.hid hE
  have Hwa := Lib.hid hwa
  have Hwb := Lib.hid hwb
  clear hr hE hwa hwb hxs
  go_enter Tryd.func92, Tryd.ntmps92
  go_wp2_with fail
  rw [← Hwa.out, ← Hwb.out]
  go_loopw [3, 5] (fun s i wr => ∃ (k : Nat) (t : ByteArray), k ≤ 4 ∧ i = .int .i64 k ∧ s = .string t ∧ t.size ≤ 4 + 30 * k ∧ Hid (moveT m = mvF t (xs.drop k)) ∧ Ext wb wr) (fun _ i _ => 4 - (intOf i).toNat)
  case atStart => exact ⟨0, _, Nat.zero_le _, rfl, rfl, by decide, HM, Ext.refl _⟩
  case round =>
    obtain ⟨k, t, hk, rfl, rfl, ht, hz, hb⟩ := hrel
    by_cases hlt : k < 4
    · obtain ⟨b, off, x, hA, hbs, hxk, p0⟩ := ienc_at (HR.out.keep hb) hlt
      injection hA with hA
      injection hA with h1 h2
      subst h1 h2
      rw [Nat.zero_add] at p0
      have HD := Lib.hid (drop_cons hxk)
      have HB := Lib.hid hb
      have cI := Lib.hid (fun w => spec_l01In x 0 20 w)
      have i0 : (0 : Int) ≤ (k : Int) := by omega
      have i1 : (k : Int) < 4 := by omega
      clear hb hxk
      cases hi : inB x 0 20
      case false =>
        rw [hi] at cI
        have HT : Hid (moveT m = ByteArray.empty) := by unfold Hid; rw [hz.out, HD.out, mvF, hi]; rfl
        clear hi
        go_wp2_with (refine (cI.out _).mono ?_; rintro e w1 ⟨rfl, rfl⟩)
        go_ret
        exact ⟨by rw [HT.out]; rfl, HE.out.trans HB.out⟩
      case true =>
        have hx0 : 0 ≤ x ∧ x ≤ 20 := by simpa [inB] using hi
        obtain ⟨z, hzz⟩ := Int.eq_ofNat_of_zero_le hx0.1
        subst hzz
        rw [hi] at cI
        have hsz := itext_size z (by omega) (by omega)
        have HT : Hid (moveT m = mvF (t ++ sp1 ++ itext z) (xs.drop (k + 1))) := by unfold Hid; rw [hz.out, HD.out, mvF, hi]; rfl
        have hts : (t ++ sp1 ++ itext z).size ≤ 4 + 30 * (k + 1) := by
          rw [ByteArray.size_append, ByteArray.size_append]
          have : sp1.size = 1 := rfl
          omega
        have P0 := Lib.hid p0
        clear hi
        obtain ⟨T, hT⟩ : ∃ T, T = itext z := ⟨_, rfl⟩
        have hF := Lib.hid (fun w => spec_FormatInt z w (by omega))
        rw [← hT] at hsz HT hts hF
        have HTT := Lib.hid hT
        clear hT
        go_wp2_with (go_at_call 43; refine (cI.out _).mono ?_; rintro e w1 ⟨rfl, rfl⟩)
        refine (hF.out _).mono ?_
        rintro e w1 ⟨rfl, h1⟩
        have HB1 := Lib.hid (HB.out.trans h1)
        clear h1
        go_wp2_with fail
        go_roundw
        case rel => exact ⟨k + 1, t ++ sp1 ++ T, by omega, by go_num, by first | rfl | (rw [ByteArray.append_assoc]; rfl), hts, HT, HB1.out⟩
        case measure => simp [intOf]; omega
    · obtain rfl : k = 4 := by omega
      have HT : Hid (moveT m = t) := by unfold Hid; rw [hz.out, drop_nil (by rw [hl.out]; omega)]; rfl
      have HB := Lib.hid hb
      clear hb
      go_wp2_with fail
      go_ret
      exact ⟨by rw [HT.out]; rfl, HE.out.trans HB.out⟩
end Go.Proofs.YtkelmeemblmggaaDoor
