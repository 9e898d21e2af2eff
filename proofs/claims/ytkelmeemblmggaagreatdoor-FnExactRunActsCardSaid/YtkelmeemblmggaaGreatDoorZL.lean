/- Texts of one proof, laid one behind the other (SHl, SHm, SHn, Shelf); no condition but what stands at each theorem. -/
import Derived.Shelf.Strings.Builder1
import Derived.Shelf.Strings.Builder2
import Derived.Shelf.Strings.OnBuilder
import Derived.Shelf.Strconv.Itoa0
import Derived.Shelf.Strconv.Itoa1
import Derived.Shelf.LaysM
import Derived.Shelf.Strconv.Itoa2
import Derived.Shelf.Strconv.Itoa3
import Derived.Shelf.Strings.Search1
import Derived.Shelf.Strings.Search2
import Derived.Shelf.Strings.Search3
import Derived.Shelf.Strings.Count
import Derived.Shelf.Strings.Shaped
import Derived.Shelf.Strings.Split
import Derived.Shelf.Strings.SplitShaped
import Derived.Shelf.Bits.Mul64
import Derived.Shelf.Unicode.DecodeSlow
import Derived.Shelf.Slices.Equal
import Derived.Test.YtkelmeemblmggaaGreatDoorProg
import Derived.Test.YtkelmeemblmggaaGreatDoorZA
import Derived.Test.YtkelmeemblmggaaGreatDoorZB
import Derived.Test.YtkelmeemblmggaaGreatDoorZK
/- Contract of the reference's CanMove; no condition but what stands at each theorem. -/
namespace Go.Proofs.YtkelmeemblmggaaGreatDoor
set_option linter.unusedSimpArgs false
set_option linter.unusedVariables false
open Go.RowKit Go.Sort
theorem spec_l35Near (x y z : Int) (w : World) : Calls Tryz.prog 109 #[.int .i64 x, .int .i64 y, .int .i64 z] w fun e w' => e = .returned (.bool ((x == y) || (x == z))) ∧ w = w' := by
  cases e1 : (x == y)
  · cases e2 : (x == z)
    all_goals go_enter Tryz.func109, Tryz.ntmps109
    all_goals go_wp2_with fail
    all_goals go_ret
    all_goals exact ⟨rfl, rfl⟩
  · go_enter Tryz.func109, Tryz.ntmps109
    go_wp2_with fail
    go_ret
    exact ⟨rfl, rfl⟩
set_option maxRecDepth 100000 in
set_option maxHeartbeats 8000000 in
theorem spec_CanMove (H : Int) (A : Option Addr) (n c : Nat) (ds : List GDoor) (A1 : Option Addr) (n1 c1 : Nat) (ps : List Int) (A2 : Option Addr) (n2 c2 : Nat) (gs : List Int) (m : GMove) (w : World) (hx : Rd w 2 A n (ds.flatMap GDoor.enc)) (hx1 : Rd w 1 A1 n1 (ps.flatMap ienc)) (hx2 : Rd w 1 A2 n2 (gs.flatMap ienc)) :
    Calls Tryz.prog 37 #[.agg #[.int .i64 H, .slice A n c], .slice A1 n1 c1, .slice A2 n2 c2, .agg #[.int .i64 m.o, .int .i64 m.t, .int .i64 m.f, .int .i64 m.s]] w fun e w' => e = .returned (.bool (canMoveB H ds ps gs m)) ∧ Ext w w' := by
  obtain ⟨o, t, f, s⟩ := m
  dsimp only
  have hn1 := hx1.2.1
  have hn2 := hx2.2.1
  have hl1 := Lib.hid (hx1.len ienc_len (by omega))
  have hl2 := Lib.hid (hx2.len ienc_len (by omega))
  obtain ⟨wb, hwb⟩ : ∃ wb, wb = (w.alloc (.cells #[.int .i64 H, .slice A n c] 26)).alloc (.cells #[.int .i64 o, .int .i64 t, .int .i64 f, .int .i64 s] 56) := ⟨_, rfl⟩
  obtain ⟨hE, hsb, a0, a1, b0, b1, b2, b3⟩ := boxHM w _ _ _ _ _ _ _ _ wb hwb
  have HE := Lib.hid hE
  have Hwb := Lib.hid hwb
  have Ha0 := Lib.hid a0
  have Ha1 := Lib.hid a1
  have Hb0 := Lib.hid b0
  have Hb1 := Lib.hid b1
  have Hb2 := Lib.hid b2
  have Hb3 := Lib.hid b3
  have hxb := Lib.hid (hx.keep hE)
  have hxb1 := Lib.hid (hx1.keep hE)
  have hxb2 := Lib.hid (hx2.keep hE)
  have cP := Lib.hid (spec_PlacesOk H A n c ds A1 n1 c1 ps wb hxb.out hxb1.out)
  clear hE hwb a0 a1 b0 b1 b2 b3 hx hx1 hx2
  cases hP : placesB H ds ps
  case false =>
    rw [hP] at cP
    have HF : Hid (canMoveB H ds ps gs ⟨o, t, f, s⟩ = false) := by unfold Hid canMoveB goB hasDoorB; simp [hP]
    clear hP
    go_enter Tryz.func37, Tryz.ntmps37
    go_wp2_with fail
    rw [← Hwb.out]
    refine cP.out.mono ?_
    rintro e w1 ⟨rfl, he1⟩
    have HE1 := Lib.hid he1
    have a0 := (HE1.out.cellAt (w.heap.size) (by omega) 0).trans Ha0.out
    have a1 := (HE1.out.cellAt (w.heap.size) (by omega) 1).trans Ha1.out
    have b0 := (HE1.out.cellAt (w.heap.size + 1) (by omega) 0).trans Hb0.out
    have b1 := (HE1.out.cellAt (w.heap.size + 1) (by omega) 1).trans Hb1.out
    have b2 := (HE1.out.cellAt (w.heap.size + 1) (by omega) 2).trans Hb2.out
    have b3 := (HE1.out.cellAt (w.heap.size + 1) (by omega) 3).trans Hb3.out
    clear he1
    go_wp2_with fail
    go_ret
    exact ⟨ret_bool HF.out.symm, HE.out.trans (HE1.out)⟩
  rw [hP] at cP
  have cH := Lib.hid (fun w1 he => spec_l31Halls H A n c ds A2 n2 c2 gs w1 (hxb.out.keep he) (hxb2.out.keep (w' := w1) he))
  cases hH : hallsB H ds gs
  case false =>
    rw [hH] at cH
    have HF : Hid (canMoveB H ds ps gs ⟨o, t, f, s⟩ = false) := by unfold Hid canMoveB goB hasDoorB; simp [hH]
    clear hP hH
    go_enter Tryz.func37, Tryz.ntmps37
    go_wp2_with fail
    rw [← Hwb.out]
    refine cP.out.mono ?_
    rintro e w1 ⟨rfl, he1⟩
    have HE1 := Lib.hid he1
    have a0 := (HE1.out.cellAt (w.heap.size) (by omega) 0).trans Ha0.out
    have a1 := (HE1.out.cellAt (w.heap.size) (by omega) 1).trans Ha1.out
    have b0 := (HE1.out.cellAt (w.heap.size + 1) (by omega) 0).trans Hb0.out
    have b1 := (HE1.out.cellAt (w.heap.size + 1) (by omega) 1).trans Hb1.out
    have b2 := (HE1.out.cellAt (w.heap.size + 1) (by omega) 2).trans Hb2.out
    have b3 := (HE1.out.cellAt (w.heap.size + 1) (by omega) 3).trans Hb3.out
    clear he1
    go_wp2_with fail
    refine (cH.out w1 (HE1.out)).mono ?_
    rintro e w2 ⟨rfl, he2⟩
    have HE2 := Lib.hid (Ext.trans (HE1.out) he2)
    clear a0 a1 b0 b1 b2 b3 he2
    have a0 := (HE2.out.cellAt (w.heap.size) (by omega) 0).trans Ha0.out
    have a1 := (HE2.out.cellAt (w.heap.size) (by omega) 1).trans Ha1.out
    have b0 := (HE2.out.cellAt (w.heap.size + 1) (by omega) 0).trans Hb0.out
    have b1 := (HE2.out.cellAt (w.heap.size + 1) (by omega) 1).trans Hb1.out
    have b2 := (HE2.out.cellAt (w.heap.size + 1) (by omega) 2).trans Hb2.out
    have b3 := (HE2.out.cellAt (w.heap.size + 1) (by omega) 3).trans Hb3.out
    go_wp2_with (go_at_call 107; first | (with_reducible refine (cO.out _).mono ?_; rintro e w9 ⟨rfl, rfl⟩) | (with_reducible refine (cT.out _).mono ?_; rintro e w9 ⟨rfl, rfl⟩) | (with_reducible refine (cF.out _).mono ?_; rintro e w9 ⟨rfl, rfl⟩) | (with_reducible refine (cS.out _).mono ?_; rintro e w9 ⟨rfl, rfl⟩))
    go_ret
    exact ⟨ret_bool HF.out.symm, HE.out.trans (HE2.out)⟩
  rw [hH] at cH
  by_cases h6 : n2 ≤ 6
  case neg =>
    have HF : Hid (canMoveB H ds ps gs ⟨o, t, f, s⟩ = false) := by unfold Hid canMoveB goB hasDoorB; simp [hl2.out, h6]
    clear hP hH
    go_enter Tryz.func37, Tryz.ntmps37
    go_wp2_with fail
    rw [← Hwb.out]
    refine cP.out.mono ?_
    rintro e w1 ⟨rfl, he1⟩
    have HE1 := Lib.hid he1
    have a0 := (HE1.out.cellAt (w.heap.size) (by omega) 0).trans Ha0.out
    have a1 := (HE1.out.cellAt (w.heap.size) (by omega) 1).trans Ha1.out
    have b0 := (HE1.out.cellAt (w.heap.size + 1) (by omega) 0).trans Hb0.out
    have b1 := (HE1.out.cellAt (w.heap.size + 1) (by omega) 1).trans Hb1.out
    have b2 := (HE1.out.cellAt (w.heap.size + 1) (by omega) 2).trans Hb2.out
    have b3 := (HE1.out.cellAt (w.heap.size + 1) (by omega) 3).trans Hb3.out
    clear he1
    go_wp2_with fail
    refine (cH.out w1 (HE1.out)).mono ?_
    rintro e w2 ⟨rfl, he2⟩
    have HE2 := Lib.hid (Ext.trans (HE1.out) he2)
    clear a0 a1 b0 b1 b2 b3 he2
    have a0 := (HE2.out.cellAt (w.heap.size) (by omega) 0).trans Ha0.out
    have a1 := (HE2.out.cellAt (w.heap.size) (by omega) 1).trans Ha1.out
    have b0 := (HE2.out.cellAt (w.heap.size + 1) (by omega) 0).trans Hb0.out
    have b1 := (HE2.out.cellAt (w.heap.size + 1) (by omega) 1).trans Hb1.out
    have b2 := (HE2.out.cellAt (w.heap.size + 1) (by omega) 2).trans Hb2.out
    have b3 := (HE2.out.cellAt (w.heap.size + 1) (by omega) 3).trans Hb3.out
    go_wp2_with (go_at_call 107; first | (with_reducible refine (cO.out _).mono ?_; rintro e w9 ⟨rfl, rfl⟩) | (with_reducible refine (cT.out _).mono ?_; rintro e w9 ⟨rfl, rfl⟩) | (with_reducible refine (cF.out _).mono ?_; rintro e w9 ⟨rfl, rfl⟩) | (with_reducible refine (cS.out _).mono ?_; rintro e w9 ⟨rfl, rfl⟩))
    go_ret
    exact ⟨ret_bool HF.out.symm, HE.out.trans (HE2.out)⟩
  have cO := Lib.hid (fun W => spec_l01In o 0 ((n1 : Int) - 1) W)
  have cT := Lib.hid (fun W => spec_l01In t 0 (wrap64 (H - 1)) W)
  have cF := Lib.hid (fun W => spec_l01In f 0 ((n2 : Int) - 1) W)
  have cS := Lib.hid (fun W => spec_l01In s 0 ((n2 : Int) - 1) W)
  cases hO : inB o 0 ((n1 : Int) - 1)
  case false =>
    rw [hO] at cO
    have HF : Hid (canMoveB H ds ps gs ⟨o, t, f, s⟩ = false) := by unfold Hid canMoveB goB hasDoorB; simp [hl1.out, hO]
    clear hP hH hO
    go_enter Tryz.func37, Tryz.ntmps37
    go_wp2_with fail
    rw [← Hwb.out]
    refine cP.out.mono ?_
    rintro e w1 ⟨rfl, he1⟩
    have HE1 := Lib.hid he1
    have a0 := (HE1.out.cellAt (w.heap.size) (by omega) 0).trans Ha0.out
    have a1 := (HE1.out.cellAt (w.heap.size) (by omega) 1).trans Ha1.out
    have b0 := (HE1.out.cellAt (w.heap.size + 1) (by omega) 0).trans Hb0.out
    have b1 := (HE1.out.cellAt (w.heap.size + 1) (by omega) 1).trans Hb1.out
    have b2 := (HE1.out.cellAt (w.heap.size + 1) (by omega) 2).trans Hb2.out
    have b3 := (HE1.out.cellAt (w.heap.size + 1) (by omega) 3).trans Hb3.out
    clear he1
    go_wp2_with fail
    refine (cH.out w1 (HE1.out)).mono ?_
    rintro e w2 ⟨rfl, he2⟩
    have HE2 := Lib.hid (Ext.trans (HE1.out) he2)
    clear a0 a1 b0 b1 b2 b3 he2
    have a0 := (HE2.out.cellAt (w.heap.size) (by omega) 0).trans Ha0.out
    have a1 := (HE2.out.cellAt (w.heap.size) (by omega) 1).trans Ha1.out
    have b0 := (HE2.out.cellAt (w.heap.size + 1) (by omega) 0).trans Hb0.out
    have b1 := (HE2.out.cellAt (w.heap.size + 1) (by omega) 1).trans Hb1.out
    have b2 := (HE2.out.cellAt (w.heap.size + 1) (by omega) 2).trans Hb2.out
    have b3 := (HE2.out.cellAt (w.heap.size + 1) (by omega) 3).trans Hb3.out
    go_wp2_with (go_at_call 107; first | (with_reducible refine (cO.out _).mono ?_; rintro e w9 ⟨rfl, rfl⟩) | (with_reducible refine (cT.out _).mono ?_; rintro e w9 ⟨rfl, rfl⟩) | (with_reducible refine (cF.out _).mono ?_; rintro e w9 ⟨rfl, rfl⟩) | (with_reducible refine (cS.out _).mono ?_; rintro e w9 ⟨rfl, rfl⟩))
    go_ret
    exact ⟨ret_bool HF.out.symm, HE.out.trans (HE2.out)⟩
  rw [hO] at cO
  cases hT : inB t 0 (wrap64 (H - 1))
  case false =>
    rw [hT] at cT
    have HF : Hid (canMoveB H ds ps gs ⟨o, t, f, s⟩ = false) := by unfold Hid canMoveB goB hasDoorB; simp [hallB, hT]
    clear hP hH hO hT
    go_enter Tryz.func37, Tryz.ntmps37
    go_wp2_with fail
    rw [← Hwb.out]
    refine cP.out.mono ?_
    rintro e w1 ⟨rfl, he1⟩
    have HE1 := Lib.hid he1
    have a0 := (HE1.out.cellAt (w.heap.size) (by omega) 0).trans Ha0.out
    have a1 := (HE1.out.cellAt (w.heap.size) (by omega) 1).trans Ha1.out
    have b0 := (HE1.out.cellAt (w.heap.size + 1) (by omega) 0).trans Hb0.out
    have b1 := (HE1.out.cellAt (w.heap.size + 1) (by omega) 1).trans Hb1.out
    have b2 := (HE1.out.cellAt (w.heap.size + 1) (by omega) 2).trans Hb2.out
    have b3 := (HE1.out.cellAt (w.heap.size + 1) (by omega) 3).trans Hb3.out
    clear he1
    go_wp2_with fail
    refine (cH.out w1 (HE1.out)).mono ?_
    rintro e w2 ⟨rfl, he2⟩
    have HE2 := Lib.hid (Ext.trans (HE1.out) he2)
    clear a0 a1 b0 b1 b2 b3 he2
    have a0 := (HE2.out.cellAt (w.heap.size) (by omega) 0).trans Ha0.out
    have a1 := (HE2.out.cellAt (w.heap.size) (by omega) 1).trans Ha1.out
    have b0 := (HE2.out.cellAt (w.heap.size + 1) (by omega) 0).trans Hb0.out
    have b1 := (HE2.out.cellAt (w.heap.size + 1) (by omega) 1).trans Hb1.out
    have b2 := (HE2.out.cellAt (w.heap.size + 1) (by omega) 2).trans Hb2.out
    have b3 := (HE2.out.cellAt (w.heap.size + 1) (by omega) 3).trans Hb3.out
    go_wp2_with (go_at_call 107; first | (with_reducible refine (cO.out _).mono ?_; rintro e w9 ⟨rfl, rfl⟩) | (with_reducible refine (cT.out _).mono ?_; rintro e w9 ⟨rfl, rfl⟩) | (with_reducible refine (cF.out _).mono ?_; rintro e w9 ⟨rfl, rfl⟩) | (with_reducible refine (cS.out _).mono ?_; rintro e w9 ⟨rfl, rfl⟩))
    go_ret
    exact ⟨ret_bool HF.out.symm, HE.out.trans (HE2.out)⟩
  rw [hT] at cT
  have hos : 0 ≤ o ∧ o ≤ (n1 : Int) - 1 := by simpa [inB] using hO
  obtain ⟨j, rfl⟩ := Int.eq_ofNat_of_zero_le hos.1
  have hj : j < n1 := by omega
  clear hos
  obtain ⟨bp, offp, x, rfl, hbp, hxk, q0⟩ := ienc_at hxb1.out hj
  have hX : ps.getD j 0 = x := getD_of' hxk
  have HQ := Lib.hid q0
  have Hq0 := HQ
  clear HQ q0 hxk
  have cD := Lib.hid (fun w1 (he : Ext wb w1) => spec_l23Door H A n c ds x t w1 (hxb.out.keep he))
  cases hX2 : (x == t)
  case true =>
    have hxt : x = t := by simpa using hX2
    have hself := doorB_self (hallsB_house hH) t
    have HF : Hid (canMoveB H ds ps gs ⟨j, t, f, s⟩ = false) := by unfold Hid canMoveB goB hasDoorB; simp only [Int.toNat_natCast, Bool.and_false, Bool.false_and, hX, hxt, hself]
    clear hP hH hO hT hX hxt hself
    go_enter Tryz.func37, Tryz.ntmps37
    go_wp2_with fail
    rw [← Hwb.out]
    refine cP.out.mono ?_
    rintro e w1 ⟨rfl, he1⟩
    have HE1 := Lib.hid he1
    have a0 := (HE1.out.cellAt (w.heap.size) (by omega) (0)).trans Ha0.out
    have a1 := (HE1.out.cellAt (w.heap.size) (by omega) (1)).trans Ha1.out
    have b0 := (HE1.out.cellAt (w.heap.size + 1) (by omega) (0)).trans Hb0.out
    have b1 := (HE1.out.cellAt (w.heap.size + 1) (by omega) (1)).trans Hb1.out
    have b2 := (HE1.out.cellAt (w.heap.size + 1) (by omega) (2)).trans Hb2.out
    have b3 := (HE1.out.cellAt (w.heap.size + 1) (by omega) (3)).trans Hb3.out
    have q0 := (HE1.out.cellAt (bp) (by omega) (offp + j)).trans Hq0.out
    clear he1
    go_wp2_with fail
    refine (cH.out w1 (HE1.out)).mono ?_
    rintro e w2 ⟨rfl, he2⟩
    have HE2 := Lib.hid (Ext.trans (HE1.out) he2)
    clear a0 a1 b0 b1 b2 b3 he2
    have a0 := (HE2.out.cellAt (w.heap.size) (by omega) (0)).trans Ha0.out
    have a1 := (HE2.out.cellAt (w.heap.size) (by omega) (1)).trans Ha1.out
    have b0 := (HE2.out.cellAt (w.heap.size + 1) (by omega) (0)).trans Hb0.out
    have b1 := (HE2.out.cellAt (w.heap.size + 1) (by omega) (1)).trans Hb1.out
    have b2 := (HE2.out.cellAt (w.heap.size + 1) (by omega) (2)).trans Hb2.out
    have b3 := (HE2.out.cellAt (w.heap.size + 1) (by omega) (3)).trans Hb3.out
    have q0 := (HE2.out.cellAt (bp) (by omega) (offp + j)).trans Hq0.out
    go_wp2_with (go_at_call 107; first | (with_reducible refine (cO.out _).mono ?_; rintro e w9 ⟨rfl, rfl⟩) | (with_reducible refine (cT.out _).mono ?_; rintro e w9 ⟨rfl, rfl⟩) | (with_reducible refine (cF.out _).mono ?_; rintro e w9 ⟨rfl, rfl⟩) | (with_reducible refine (cS.out _).mono ?_; rintro e w9 ⟨rfl, rfl⟩))
    go_ret
    exact ⟨ret_bool HF.out.symm, HE.out.trans (HE2.out)⟩
  cases hD : doorB ds x t
  case false =>
    rw [hD] at cD
    have HF : Hid (canMoveB H ds ps gs ⟨j, t, f, s⟩ = false) := by unfold Hid canMoveB goB hasDoorB; simp only [Int.toNat_natCast, Bool.and_false, Bool.false_and, hX, hD]
    clear hP hH hO hT hX hD
    go_enter Tryz.func37, Tryz.ntmps37
    go_wp2_with fail
    rw [← Hwb.out]
    refine cP.out.mono ?_
    rintro e w1 ⟨rfl, he1⟩
    have HE1 := Lib.hid he1
    have a0 := (HE1.out.cellAt (w.heap.size) (by omega) (0)).trans Ha0.out
    have a1 := (HE1.out.cellAt (w.heap.size) (by omega) (1)).trans Ha1.out
    have b0 := (HE1.out.cellAt (w.heap.size + 1) (by omega) (0)).trans Hb0.out
    have b1 := (HE1.out.cellAt (w.heap.size + 1) (by omega) (1)).trans Hb1.out
    have b2 := (HE1.out.cellAt (w.heap.size + 1) (by omega) (2)).trans Hb2.out
    have b3 := (HE1.out.cellAt (w.heap.size + 1) (by omega) (3)).trans Hb3.out
    have q0 := (HE1.out.cellAt (bp) (by omega) (offp + j)).trans Hq0.out
    clear he1
    go_wp2_with fail
    refine (cH.out w1 (HE1.out)).mono ?_
    rintro e w2 ⟨rfl, he2⟩
    have HE2 := Lib.hid (Ext.trans (HE1.out) he2)
    clear a0 a1 b0 b1 b2 b3 he2
    have a0 := (HE2.out.cellAt (w.heap.size) (by omega) (0)).trans Ha0.out
    have a1 := (HE2.out.cellAt (w.heap.size) (by omega) (1)).trans Ha1.out
    have b0 := (HE2.out.cellAt (w.heap.size + 1) (by omega) (0)).trans Hb0.out
    have b1 := (HE2.out.cellAt (w.heap.size + 1) (by omega) (1)).trans Hb1.out
    have b2 := (HE2.out.cellAt (w.heap.size + 1) (by omega) (2)).trans Hb2.out
    have b3 := (HE2.out.cellAt (w.heap.size + 1) (by omega) (3)).trans Hb3.out
    have q0 := (HE2.out.cellAt (bp) (by omega) (offp + j)).trans Hq0.out
    go_wp2_with (go_at_call 107; first | (with_reducible refine (cO.out _).mono ?_; rintro e w9 ⟨rfl, rfl⟩) | (with_reducible refine (cT.out _).mono ?_; rintro e w9 ⟨rfl, rfl⟩) | (with_reducible refine (cF.out _).mono ?_; rintro e w9 ⟨rfl, rfl⟩) | (with_reducible refine (cS.out _).mono ?_; rintro e w9 ⟨rfl, rfl⟩))
    refine (cD.out w2 (HE2.out)).mono ?_
    rintro e w3 ⟨rfl, he3⟩
    have HE3 := Lib.hid (Ext.trans (HE2.out) he3)
    clear a0 a1 b0 b1 b2 b3 he3
    have a0 := (HE3.out.cellAt (w.heap.size) (by omega) (0)).trans Ha0.out
    have a1 := (HE3.out.cellAt (w.heap.size) (by omega) (1)).trans Ha1.out
    have b0 := (HE3.out.cellAt (w.heap.size + 1) (by omega) (0)).trans Hb0.out
    have b1 := (HE3.out.cellAt (w.heap.size + 1) (by omega) (1)).trans Hb1.out
    have b2 := (HE3.out.cellAt (w.heap.size + 1) (by omega) (2)).trans Hb2.out
    have b3 := (HE3.out.cellAt (w.heap.size + 1) (by omega) (3)).trans Hb3.out
    have q0 := (HE3.out.cellAt (bp) (by omega) (offp + j)).trans Hq0.out
    go_wp2_with (go_at_call 107; first | (with_reducible refine (cO.out _).mono ?_; rintro e w9 ⟨rfl, rfl⟩) | (with_reducible refine (cT.out _).mono ?_; rintro e w9 ⟨rfl, rfl⟩) | (with_reducible refine (cF.out _).mono ?_; rintro e w9 ⟨rfl, rfl⟩) | (with_reducible refine (cS.out _).mono ?_; rintro e w9 ⟨rfl, rfl⟩))
    go_ret
    exact ⟨ret_bool HF.out.symm, HE.out.trans (HE3.out)⟩
  rw [hD] at cD
  cases hE : (f == s)
  case true =>
    have hEq : f = s := by simpa using hE
    have HF : Hid (canMoveB H ds ps gs ⟨j, t, f, s⟩ = false) := by unfold Hid canMoveB goB hasDoorB; simp [hEq]
    clear hP hH hO hT hX hD hEq
    go_enter Tryz.func37, Tryz.ntmps37
    go_wp2_with fail
    rw [← Hwb.out]
    refine cP.out.mono ?_
    rintro e w1 ⟨rfl, he1⟩
    have HE1 := Lib.hid he1
    have a0 := (HE1.out.cellAt (w.heap.size) (by omega) (0)).trans Ha0.out
    have a1 := (HE1.out.cellAt (w.heap.size) (by omega) (1)).trans Ha1.out
    have b0 := (HE1.out.cellAt (w.heap.size + 1) (by omega) (0)).trans Hb0.out
    have b1 := (HE1.out.cellAt (w.heap.size + 1) (by omega) (1)).trans Hb1.out
    have b2 := (HE1.out.cellAt (w.heap.size + 1) (by omega) (2)).trans Hb2.out
    have b3 := (HE1.out.cellAt (w.heap.size + 1) (by omega) (3)).trans Hb3.out
    have q0 := (HE1.out.cellAt (bp) (by omega) (offp + j)).trans Hq0.out
    clear he1
    go_wp2_with fail
    refine (cH.out w1 (HE1.out)).mono ?_
    rintro e w2 ⟨rfl, he2⟩
    have HE2 := Lib.hid (Ext.trans (HE1.out) he2)
    clear a0 a1 b0 b1 b2 b3 he2
    have a0 := (HE2.out.cellAt (w.heap.size) (by omega) (0)).trans Ha0.out
    have a1 := (HE2.out.cellAt (w.heap.size) (by omega) (1)).trans Ha1.out
    have b0 := (HE2.out.cellAt (w.heap.size + 1) (by omega) (0)).trans Hb0.out
    have b1 := (HE2.out.cellAt (w.heap.size + 1) (by omega) (1)).trans Hb1.out
    have b2 := (HE2.out.cellAt (w.heap.size + 1) (by omega) (2)).trans Hb2.out
    have b3 := (HE2.out.cellAt (w.heap.size + 1) (by omega) (3)).trans Hb3.out
    have q0 := (HE2.out.cellAt (bp) (by omega) (offp + j)).trans Hq0.out
    go_wp2_with (go_at_call 107; first | (with_reducible refine (cO.out _).mono ?_; rintro e w9 ⟨rfl, rfl⟩) | (with_reducible refine (cT.out _).mono ?_; rintro e w9 ⟨rfl, rfl⟩) | (with_reducible refine (cF.out _).mono ?_; rintro e w9 ⟨rfl, rfl⟩) | (with_reducible refine (cS.out _).mono ?_; rintro e w9 ⟨rfl, rfl⟩))
    refine (cD.out w2 (HE2.out)).mono ?_
    rintro e w3 ⟨rfl, he3⟩
    have HE3 := Lib.hid (Ext.trans (HE2.out) he3)
    clear a0 a1 b0 b1 b2 b3 he3
    have a0 := (HE3.out.cellAt (w.heap.size) (by omega) (0)).trans Ha0.out
    have a1 := (HE3.out.cellAt (w.heap.size) (by omega) (1)).trans Ha1.out
    have b0 := (HE3.out.cellAt (w.heap.size + 1) (by omega) (0)).trans Hb0.out
    have b1 := (HE3.out.cellAt (w.heap.size + 1) (by omega) (1)).trans Hb1.out
    have b2 := (HE3.out.cellAt (w.heap.size + 1) (by omega) (2)).trans Hb2.out
    have b3 := (HE3.out.cellAt (w.heap.size + 1) (by omega) (3)).trans Hb3.out
    have q0 := (HE3.out.cellAt (bp) (by omega) (offp + j)).trans Hq0.out
    go_wp2_with (go_at_call 107; first | (with_reducible refine (cO.out _).mono ?_; rintro e w9 ⟨rfl, rfl⟩) | (with_reducible refine (cT.out _).mono ?_; rintro e w9 ⟨rfl, rfl⟩) | (with_reducible refine (cF.out _).mono ?_; rintro e w9 ⟨rfl, rfl⟩) | (with_reducible refine (cS.out _).mono ?_; rintro e w9 ⟨rfl, rfl⟩))
    go_ret
    exact ⟨ret_bool HF.out.symm, HE.out.trans (HE3.out)⟩
  cases hF : inB f 0 ((n2 : Int) - 1)
  case false =>
    rw [hF] at cF
    have HF : Hid (canMoveB H ds ps gs ⟨j, t, f, s⟩ = false) := by unfold Hid canMoveB goB hasDoorB; simp [hl2.out, hF]
    clear hP hH hO hT hX hD hF
    go_enter Tryz.func37, Tryz.ntmps37
    go_wp2_with fail
    rw [← Hwb.out]
    refine cP.out.mono ?_
    rintro e w1 ⟨rfl, he1⟩
    have HE1 := Lib.hid he1
    have a0 := (HE1.out.cellAt (w.heap.size) (by omega) (0)).trans Ha0.out
    have a1 := (HE1.out.cellAt (w.heap.size) (by omega) (1)).trans Ha1.out
    have b0 := (HE1.out.cellAt (w.heap.size + 1) (by omega) (0)).trans Hb0.out
    have b1 := (HE1.out.cellAt (w.heap.size + 1) (by omega) (1)).trans Hb1.out
    have b2 := (HE1.out.cellAt (w.heap.size + 1) (by omega) (2)).trans Hb2.out
    have b3 := (HE1.out.cellAt (w.heap.size + 1) (by omega) (3)).trans Hb3.out
    have q0 := (HE1.out.cellAt (bp) (by omega) (offp + j)).trans Hq0.out
    clear he1
    go_wp2_with fail
    refine (cH.out w1 (HE1.out)).mono ?_
    rintro e w2 ⟨rfl, he2⟩
    have HE2 := Lib.hid (Ext.trans (HE1.out) he2)
    clear a0 a1 b0 b1 b2 b3 he2
    have a0 := (HE2.out.cellAt (w.heap.size) (by omega) (0)).trans Ha0.out
    have a1 := (HE2.out.cellAt (w.heap.size) (by omega) (1)).trans Ha1.out
    have b0 := (HE2.out.cellAt (w.heap.size + 1) (by omega) (0)).trans Hb0.out
    have b1 := (HE2.out.cellAt (w.heap.size + 1) (by omega) (1)).trans Hb1.out
    have b2 := (HE2.out.cellAt (w.heap.size + 1) (by omega) (2)).trans Hb2.out
    have b3 := (HE2.out.cellAt (w.heap.size + 1) (by omega) (3)).trans Hb3.out
    have q0 := (HE2.out.cellAt (bp) (by omega) (offp + j)).trans Hq0.out
    go_wp2_with (go_at_call 107; first | (with_reducible refine (cO.out _).mono ?_; rintro e w9 ⟨rfl, rfl⟩) | (with_reducible refine (cT.out _).mono ?_; rintro e w9 ⟨rfl, rfl⟩) | (with_reducible refine (cF.out _).mono ?_; rintro e w9 ⟨rfl, rfl⟩) | (with_reducible refine (cS.out _).mono ?_; rintro e w9 ⟨rfl, rfl⟩))
    refine (cD.out w2 (HE2.out)).mono ?_
    rintro e w3 ⟨rfl, he3⟩
    have HE3 := Lib.hid (Ext.trans (HE2.out) he3)
    clear a0 a1 b0 b1 b2 b3 he3
    have a0 := (HE3.out.cellAt (w.heap.size) (by omega) (0)).trans Ha0.out
    have a1 := (HE3.out.cellAt (w.heap.size) (by omega) (1)).trans Ha1.out
    have b0 := (HE3.out.cellAt (w.heap.size + 1) (by omega) (0)).trans Hb0.out
    have b1 := (HE3.out.cellAt (w.heap.size + 1) (by omega) (1)).trans Hb1.out
    have b2 := (HE3.out.cellAt (w.heap.size + 1) (by omega) (2)).trans Hb2.out
    have b3 := (HE3.out.cellAt (w.heap.size + 1) (by omega) (3)).trans Hb3.out
    have q0 := (HE3.out.cellAt (bp) (by omega) (offp + j)).trans Hq0.out
    go_wp2_with (go_at_call 107; first | (with_reducible refine (cO.out _).mono ?_; rintro e w9 ⟨rfl, rfl⟩) | (with_reducible refine (cT.out _).mono ?_; rintro e w9 ⟨rfl, rfl⟩) | (with_reducible refine (cF.out _).mono ?_; rintro e w9 ⟨rfl, rfl⟩) | (with_reducible refine (cS.out _).mono ?_; rintro e w9 ⟨rfl, rfl⟩))
    go_ret
    exact ⟨ret_bool HF.out.symm, HE.out.trans (HE3.out)⟩
  rw [hF] at cF
  cases hS : inB s 0 ((n2 : Int) - 1)
  case false =>
    rw [hS] at cS
    have HF : Hid (canMoveB H ds ps gs ⟨j, t, f, s⟩ = false) := by unfold Hid canMoveB goB hasDoorB; simp [hl2.out, hS]
    clear hP hH hO hT hX hD hF hS
    go_enter Tryz.func37, Tryz.ntmps37
    go_wp2_with fail
    rw [← Hwb.out]
    refine cP.out.mono ?_
    rintro e w1 ⟨rfl, he1⟩
    have HE1 := Lib.hid he1
    have a0 := (HE1.out.cellAt (w.heap.size) (by omega) (0)).trans Ha0.out
    have a1 := (HE1.out.cellAt (w.heap.size) (by omega) (1)).trans Ha1.out
    have b0 := (HE1.out.cellAt (w.heap.size + 1) (by omega) (0)).trans Hb0.out
    have b1 := (HE1.out.cellAt (w.heap.size + 1) (by omega) (1)).trans Hb1.out
    have b2 := (HE1.out.cellAt (w.heap.size + 1) (by omega) (2)).trans Hb2.out
    have b3 := (HE1.out.cellAt (w.heap.size + 1) (by omega) (3)).trans Hb3.out
    have q0 := (HE1.out.cellAt (bp) (by omega) (offp + j)).trans Hq0.out
    clear he1
    go_wp2_with fail
    refine (cH.out w1 (HE1.out)).mono ?_
    rintro e w2 ⟨rfl, he2⟩
    have HE2 := Lib.hid (Ext.trans (HE1.out) he2)
    clear a0 a1 b0 b1 b2 b3 he2
    have a0 := (HE2.out.cellAt (w.heap.size) (by omega) (0)).trans Ha0.out
    have a1 := (HE2.out.cellAt (w.heap.size) (by omega) (1)).trans Ha1.out
    have b0 := (HE2.out.cellAt (w.heap.size + 1) (by omega) (0)).trans Hb0.out
    have b1 := (HE2.out.cellAt (w.heap.size + 1) (by omega) (1)).trans Hb1.out
    have b2 := (HE2.out.cellAt (w.heap.size + 1) (by omega) (2)).trans Hb2.out
    have b3 := (HE2.out.cellAt (w.heap.size + 1) (by omega) (3)).trans Hb3.out
    have q0 := (HE2.out.cellAt (bp) (by omega) (offp + j)).trans Hq0.out
    go_wp2_with (go_at_call 107; first | (with_reducible refine (cO.out _).mono ?_; rintro e w9 ⟨rfl, rfl⟩) | (with_reducible refine (cT.out _).mono ?_; rintro e w9 ⟨rfl, rfl⟩) | (with_reducible refine (cF.out _).mono ?_; rintro e w9 ⟨rfl, rfl⟩) | (with_reducible refine (cS.out _).mono ?_; rintro e w9 ⟨rfl, rfl⟩))
    refine (cD.out w2 (HE2.out)).mono ?_
    rintro e w3 ⟨rfl, he3⟩
    have HE3 := Lib.hid (Ext.trans (HE2.out) he3)
    clear a0 a1 b0 b1 b2 b3 he3
    have a0 := (HE3.out.cellAt (w.heap.size) (by omega) (0)).trans Ha0.out
    have a1 := (HE3.out.cellAt (w.heap.size) (by omega) (1)).trans Ha1.out
    have b0 := (HE3.out.cellAt (w.heap.size + 1) (by omega) (0)).trans Hb0.out
    have b1 := (HE3.out.cellAt (w.heap.size + 1) (by omega) (1)).trans Hb1.out
    have b2 := (HE3.out.cellAt (w.heap.size + 1) (by omega) (2)).trans Hb2.out
    have b3 := (HE3.out.cellAt (w.heap.size + 1) (by omega) (3)).trans Hb3.out
    have q0 := (HE3.out.cellAt (bp) (by omega) (offp + j)).trans Hq0.out
    go_wp2_with (go_at_call 107; first | (with_reducible refine (cO.out _).mono ?_; rintro e w9 ⟨rfl, rfl⟩) | (with_reducible refine (cT.out _).mono ?_; rintro e w9 ⟨rfl, rfl⟩) | (with_reducible refine (cF.out _).mono ?_; rintro e w9 ⟨rfl, rfl⟩) | (with_reducible refine (cS.out _).mono ?_; rintro e w9 ⟨rfl, rfl⟩))
    go_ret
    exact ⟨ret_bool HF.out.symm, HE.out.trans (HE3.out)⟩
  rw [hS] at cS
  have hne : (f != s) = true := by simp at hE; simp [hE]
  have hh : houseB H ds = true := hallsB_house hH
  have HV : Hid (canMoveB H ds ps gs ⟨j, t, f, s⟩ = (nearB gs ps ⟨j, t, f, s⟩ f && nearB gs ps ⟨j, t, f, s⟩ s)) := by unfold Hid canMoveB goB hasDoorB hallB; simp only [hP, hH, hh, hl1.out, hl2.out, hO, hT, Int.toNat_natCast, hX, hD, decide_eq_true h6, hF, hS, hne, Bool.true_and]
  have hfs : 0 ≤ f ∧ f ≤ (n2 : Int) - 1 := by simpa [inB] using hF
  have hss : 0 ≤ s ∧ s ≤ (n2 : Int) - 1 := by simpa [inB] using hS
  obtain ⟨kf, rfl⟩ := Int.eq_ofNat_of_zero_le hfs.1
  obtain ⟨ks, rfl⟩ := Int.eq_ofNat_of_zero_le hss.1
  have hkf : kf < n2 := by omega
  have hks : ks < n2 := by omega
  obtain ⟨bg, offg, gf, rfl, hbg, hgf, qf⟩ := ienc_at hxb2.out hkf
  obtain ⟨bg', offg', gk, hAg, hbg', hgk, qs⟩ := ienc_at hxb2.out hks
  obtain ⟨rfl, rfl⟩ : bg' = bg ∧ offg' = offg := by simp at hAg; exact ⟨hAg.1.symm, hAg.2.symm⟩
  have HQf := Lib.hid (fun w1 (he : Ext wb w1) => (he.cellAt _ (by omega) _).trans qf)
  have HQs := Lib.hid (fun w1 (he : Ext wb w1) => (he.cellAt _ (by omega) _).trans qs)
  have hNf : nearB gs ps ⟨j, t, kf, ks⟩ kf = ((gf == x) || (gf == t)) := by unfold nearB; simp only [Int.toNat_natCast, hX, getD_of' hgf]
  have hNs : nearB gs ps ⟨j, t, kf, ks⟩ ks = ((gk == x) || (gk == t)) := by unfold nearB; simp only [Int.toNat_natCast, hX, getD_of' hgk]
  have cN1 := Lib.hid (fun W => spec_l35Near gf x t W)
  have cN2 := Lib.hid (fun W => spec_l35Near gk x t W)
  rw [hNf, hNs] at HV
  clear hfs hss hne hh hP hH hO hT hX hD hF hS hNf hNs hgf hgk qf qs hAg
  cases hN : ((gf == x) || (gf == t))
  case false =>
    rw [hN] at cN1
    have HF : Hid (canMoveB H ds ps gs ⟨j, t, kf, ks⟩ = false) := by unfold Hid; rw [HV.out, hN]; rfl
    clear hN
    go_enter Tryz.func37, Tryz.ntmps37
    go_wp2_with fail
    rw [← Hwb.out]
    refine cP.out.mono ?_
    rintro e w1 ⟨rfl, he1⟩
    have HE1 := Lib.hid he1
    have a0 := (HE1.out.cellAt (w.heap.size) (by omega) (0)).trans Ha0.out
    have a1 := (HE1.out.cellAt (w.heap.size) (by omega) (1)).trans Ha1.out
    have b0 := (HE1.out.cellAt (w.heap.size + 1) (by omega) (0)).trans Hb0.out
    have b1 := (HE1.out.cellAt (w.heap.size + 1) (by omega) (1)).trans Hb1.out
    have b2 := (HE1.out.cellAt (w.heap.size + 1) (by omega) (2)).trans Hb2.out
    have b3 := (HE1.out.cellAt (w.heap.size + 1) (by omega) (3)).trans Hb3.out
    have q0 := (HE1.out.cellAt (bp) (by omega) (offp + j)).trans Hq0.out
    clear he1
    go_wp2_with fail
    refine (cH.out w1 (HE1.out)).mono ?_
    rintro e w2 ⟨rfl, he2⟩
    have HE2 := Lib.hid (Ext.trans (HE1.out) he2)
    clear a0 a1 b0 b1 b2 b3 he2
    have a0 := (HE2.out.cellAt (w.heap.size) (by omega) (0)).trans Ha0.out
    have a1 := (HE2.out.cellAt (w.heap.size) (by omega) (1)).trans Ha1.out
    have b0 := (HE2.out.cellAt (w.heap.size + 1) (by omega) (0)).trans Hb0.out
    have b1 := (HE2.out.cellAt (w.heap.size + 1) (by omega) (1)).trans Hb1.out
    have b2 := (HE2.out.cellAt (w.heap.size + 1) (by omega) (2)).trans Hb2.out
    have b3 := (HE2.out.cellAt (w.heap.size + 1) (by omega) (3)).trans Hb3.out
    have q0 := (HE2.out.cellAt (bp) (by omega) (offp + j)).trans Hq0.out
    go_wp2_with (go_at_call 107; first | (with_reducible refine (cO.out _).mono ?_; rintro e w9 ⟨rfl, rfl⟩) | (with_reducible refine (cT.out _).mono ?_; rintro e w9 ⟨rfl, rfl⟩) | (with_reducible refine (cF.out _).mono ?_; rintro e w9 ⟨rfl, rfl⟩) | (with_reducible refine (cS.out _).mono ?_; rintro e w9 ⟨rfl, rfl⟩))
    refine (cD.out w2 (HE2.out)).mono ?_
    rintro e w3 ⟨rfl, he3⟩
    have HE3 := Lib.hid (Ext.trans (HE2.out) he3)
    clear a0 a1 b0 b1 b2 b3 he3
    have a0 := (HE3.out.cellAt (w.heap.size) (by omega) (0)).trans Ha0.out
    have a1 := (HE3.out.cellAt (w.heap.size) (by omega) (1)).trans Ha1.out
    have b0 := (HE3.out.cellAt (w.heap.size + 1) (by omega) (0)).trans Hb0.out
    have b1 := (HE3.out.cellAt (w.heap.size + 1) (by omega) (1)).trans Hb1.out
    have b2 := (HE3.out.cellAt (w.heap.size + 1) (by omega) (2)).trans Hb2.out
    have b3 := (HE3.out.cellAt (w.heap.size + 1) (by omega) (3)).trans Hb3.out
    have q0 := (HE3.out.cellAt (bp) (by omega) (offp + j)).trans Hq0.out
    go_wp2_with (go_at_call 107; first | (with_reducible refine (cO.out _).mono ?_; rintro e w9 ⟨rfl, rfl⟩) | (with_reducible refine (cT.out _).mono ?_; rintro e w9 ⟨rfl, rfl⟩) | (with_reducible refine (cF.out _).mono ?_; rintro e w9 ⟨rfl, rfl⟩) | (with_reducible refine (cS.out _).mono ?_; rintro e w9 ⟨rfl, rfl⟩))
    have e1 := cell_regrown b1
    have e2 := cell_regrown b2
    have e3 := cell_regrown b3
    have e4 := cell_regrown (HQf.out w3 (HE3.out))
    have e5 := cell_regrown (HQs.out w3 (HE3.out))
    (refine wp_region_ext (by kernel_rfl) (by kernel_rfl) ?_; (repeat (go_big_quiet_step (first | (go_at_call 109; with_reducible exact Calls.rg0 (cN1.out _)) | (go_at_call 109; with_reducible exact Calls.rg0 (cN2.out _))))); refine wpQuiet_nil ?_)
    intro w4 hb4
    have HE4 := Lib.hid (Ext.trans (HE3.out) hb4)
    go_wp2_with fail
    go_ret
    exact ⟨ret_bool HF.out.symm, HE.out.trans (HE4.out)⟩
  rw [hN] at cN1
  cases hM : ((gk == x) || (gk == t))
  case false =>
    rw [hM] at cN2
    have HF : Hid (canMoveB H ds ps gs ⟨j, t, kf, ks⟩ = false) := by unfold Hid; rw [HV.out, hN, hM]; rfl
    clear hN hM
    go_enter Tryz.func37, Tryz.ntmps37
    go_wp2_with fail
    rw [← Hwb.out]
    refine cP.out.mono ?_
    rintro e w1 ⟨rfl, he1⟩
    have HE1 := Lib.hid he1
    have a0 := (HE1.out.cellAt (w.heap.size) (by omega) (0)).trans Ha0.out
    have a1 := (HE1.out.cellAt (w.heap.size) (by omega) (1)).trans Ha1.out
    have b0 := (HE1.out.cellAt (w.heap.size + 1) (by omega) (0)).trans Hb0.out
    have b1 := (HE1.out.cellAt (w.heap.size + 1) (by omega) (1)).trans Hb1.out
    have b2 := (HE1.out.cellAt (w.heap.size + 1) (by omega) (2)).trans Hb2.out
    have b3 := (HE1.out.cellAt (w.heap.size + 1) (by omega) (3)).trans Hb3.out
    have q0 := (HE1.out.cellAt (bp) (by omega) (offp + j)).trans Hq0.out
    clear he1
    go_wp2_with fail
    refine (cH.out w1 (HE1.out)).mono ?_
    rintro e w2 ⟨rfl, he2⟩
    have HE2 := Lib.hid (Ext.trans (HE1.out) he2)
    clear a0 a1 b0 b1 b2 b3 he2
    have a0 := (HE2.out.cellAt (w.heap.size) (by omega) (0)).trans Ha0.out
    have a1 := (HE2.out.cellAt (w.heap.size) (by omega) (1)).trans Ha1.out
    have b0 := (HE2.out.cellAt (w.heap.size + 1) (by omega) (0)).trans Hb0.out
    have b1 := (HE2.out.cellAt (w.heap.size + 1) (by omega) (1)).trans Hb1.out
    have b2 := (HE2.out.cellAt (w.heap.size + 1) (by omega) (2)).trans Hb2.out
    have b3 := (HE2.out.cellAt (w.heap.size + 1) (by omega) (3)).trans Hb3.out
    have q0 := (HE2.out.cellAt (bp) (by omega) (offp + j)).trans Hq0.out
    go_wp2_with (go_at_call 107; first | (with_reducible refine (cO.out _).mono ?_; rintro e w9 ⟨rfl, rfl⟩) | (with_reducible refine (cT.out _).mono ?_; rintro e w9 ⟨rfl, rfl⟩) | (with_reducible refine (cF.out _).mono ?_; rintro e w9 ⟨rfl, rfl⟩) | (with_reducible refine (cS.out _).mono ?_; rintro e w9 ⟨rfl, rfl⟩))
    refine (cD.out w2 (HE2.out)).mono ?_
    rintro e w3 ⟨rfl, he3⟩
    have HE3 := Lib.hid (Ext.trans (HE2.out) he3)
    clear a0 a1 b0 b1 b2 b3 he3
    have a0 := (HE3.out.cellAt (w.heap.size) (by omega) (0)).trans Ha0.out
    have a1 := (HE3.out.cellAt (w.heap.size) (by omega) (1)).trans Ha1.out
    have b0 := (HE3.out.cellAt (w.heap.size + 1) (by omega) (0)).trans Hb0.out
    have b1 := (HE3.out.cellAt (w.heap.size + 1) (by omega) (1)).trans Hb1.out
    have b2 := (HE3.out.cellAt (w.heap.size + 1) (by omega) (2)).trans Hb2.out
    have b3 := (HE3.out.cellAt (w.heap.size + 1) (by omega) (3)).trans Hb3.out
    have q0 := (HE3.out.cellAt (bp) (by omega) (offp + j)).trans Hq0.out
    go_wp2_with (go_at_call 107; first | (with_reducible refine (cO.out _).mono ?_; rintro e w9 ⟨rfl, rfl⟩) | (with_reducible refine (cT.out _).mono ?_; rintro e w9 ⟨rfl, rfl⟩) | (with_reducible refine (cF.out _).mono ?_; rintro e w9 ⟨rfl, rfl⟩) | (with_reducible refine (cS.out _).mono ?_; rintro e w9 ⟨rfl, rfl⟩))
    have e1 := cell_regrown b1
    have e2 := cell_regrown b2
    have e3 := cell_regrown b3
    have e4 := cell_regrown (HQf.out w3 (HE3.out))
    have e5 := cell_regrown (HQs.out w3 (HE3.out))
    (refine wp_region_ext (by kernel_rfl) (by kernel_rfl) ?_; (repeat (go_big_quiet_step (first | (go_at_call 109; with_reducible exact Calls.rg0 (cN1.out _)) | (go_at_call 109; with_reducible exact Calls.rg0 (cN2.out _))))); refine wpQuiet_nil ?_)
    intro w4 hb4
    have HE4 := Lib.hid (Ext.trans (HE3.out) hb4)
    go_wp2_with fail
    go_ret
    exact ⟨ret_bool HF.out.symm, HE.out.trans (HE4.out)⟩
  case true =>
    rw [hM] at cN2
    have HF : Hid (canMoveB H ds ps gs ⟨j, t, kf, ks⟩ = true) := by unfold Hid; rw [HV.out, hN, hM]; rfl
    clear hN hM
    go_enter Tryz.func37, Tryz.ntmps37
    go_wp2_with fail
    rw [← Hwb.out]
    refine cP.out.mono ?_
    rintro e w1 ⟨rfl, he1⟩
    have HE1 := Lib.hid he1
    have a0 := (HE1.out.cellAt (w.heap.size) (by omega) (0)).trans Ha0.out
    have a1 := (HE1.out.cellAt (w.heap.size) (by omega) (1)).trans Ha1.out
    have b0 := (HE1.out.cellAt (w.heap.size + 1) (by omega) (0)).trans Hb0.out
    have b1 := (HE1.out.cellAt (w.heap.size + 1) (by omega) (1)).trans Hb1.out
    have b2 := (HE1.out.cellAt (w.heap.size + 1) (by omega) (2)).trans Hb2.out
    have b3 := (HE1.out.cellAt (w.heap.size + 1) (by omega) (3)).trans Hb3.out
    have q0 := (HE1.out.cellAt (bp) (by omega) (offp + j)).trans Hq0.out
    clear he1
    go_wp2_with fail
    refine (cH.out w1 (HE1.out)).mono ?_
    rintro e w2 ⟨rfl, he2⟩
    have HE2 := Lib.hid (Ext.trans (HE1.out) he2)
    clear a0 a1 b0 b1 b2 b3 he2
    have a0 := (HE2.out.cellAt (w.heap.size) (by omega) (0)).trans Ha0.out
    have a1 := (HE2.out.cellAt (w.heap.size) (by omega) (1)).trans Ha1.out
    have b0 := (HE2.out.cellAt (w.heap.size + 1) (by omega) (0)).trans Hb0.out
    have b1 := (HE2.out.cellAt (w.heap.size + 1) (by omega) (1)).trans Hb1.out
    have b2 := (HE2.out.cellAt (w.heap.size + 1) (by omega) (2)).trans Hb2.out
    have b3 := (HE2.out.cellAt (w.heap.size + 1) (by omega) (3)).trans Hb3.out
    have q0 := (HE2.out.cellAt (bp) (by omega) (offp + j)).trans Hq0.out
    go_wp2_with (go_at_call 107; first | (with_reducible refine (cO.out _).mono ?_; rintro e w9 ⟨rfl, rfl⟩) | (with_reducible refine (cT.out _).mono ?_; rintro e w9 ⟨rfl, rfl⟩) | (with_reducible refine (cF.out _).mono ?_; rintro e w9 ⟨rfl, rfl⟩) | (with_reducible refine (cS.out _).mono ?_; rintro e w9 ⟨rfl, rfl⟩))
    refine (cD.out w2 (HE2.out)).mono ?_
    rintro e w3 ⟨rfl, he3⟩
    have HE3 := Lib.hid (Ext.trans (HE2.out) he3)
    clear a0 a1 b0 b1 b2 b3 he3
    have a0 := (HE3.out.cellAt (w.heap.size) (by omega) (0)).trans Ha0.out
    have a1 := (HE3.out.cellAt (w.heap.size) (by omega) (1)).trans Ha1.out
    have b0 := (HE3.out.cellAt (w.heap.size + 1) (by omega) (0)).trans Hb0.out
    have b1 := (HE3.out.cellAt (w.heap.size + 1) (by omega) (1)).trans Hb1.out
    have b2 := (HE3.out.cellAt (w.heap.size + 1) (by omega) (2)).trans Hb2.out
    have b3 := (HE3.out.cellAt (w.heap.size + 1) (by omega) (3)).trans Hb3.out
    have q0 := (HE3.out.cellAt (bp) (by omega) (offp + j)).trans Hq0.out
    go_wp2_with (go_at_call 107; first | (with_reducible refine (cO.out _).mono ?_; rintro e w9 ⟨rfl, rfl⟩) | (with_reducible refine (cT.out _).mono ?_; rintro e w9 ⟨rfl, rfl⟩) | (with_reducible refine (cF.out _).mono ?_; rintro e w9 ⟨rfl, rfl⟩) | (with_reducible refine (cS.out _).mono ?_; rintro e w9 ⟨rfl, rfl⟩))
    have e1 := cell_regrown b1
    have e2 := cell_regrown b2
    have e3 := cell_regrown b3
    have e4 := cell_regrown (HQf.out w3 (HE3.out))
    have e5 := cell_regrown (HQs.out w3 (HE3.out))
    (refine wp_region_ext (by kernel_rfl) (by kernel_rfl) ?_; (repeat (go_big_quiet_step (first | (go_at_call 109; with_reducible exact Calls.rg0 (cN1.out _)) | (go_at_call 109; with_reducible exact Calls.rg0 (cN2.out _))))); refine wpQuiet_nil ?_)
    intro w4 hb4
    have HE4 := Lib.hid (Ext.trans (HE3.out) hb4)
    go_wp2_with fail
    go_ret
    exact ⟨ret_bool HF.out.symm, HE.out.trans (HE4.out)⟩
end Go.Proofs.YtkelmeemblmggaaGreatDoor
/- Contracts of MoveObject and l35Copy; no condition but what stands at each theorem. -/
namespace Go.Proofs.YtkelmeemblmggaaGreatDoor
set_option linter.unusedSimpArgs false
set_option linter.unusedVariables false
open Go.RowKit Go.Sort
/-- A list and whether. -/
def ListBool (L : List Int) (b : Bool) (w : World) (e : Ending) (w' : World) : Prop := ∃ v, e = .returned (.tuple #[v, .bool b]) ∧ Ext w w' ∧ w'.ownsRow w.heap.size 3 1 v L.length (L.flatMap ienc)
def moveL (H : Int) (ds : List GDoor) (ps gs : List Int) (m : GMove) : List Int := if canMoveB H ds ps gs m then ps.set m.o.toNat m.t else ps
theorem own_set {w : World} {base n c g : Nat} {t : TypeId} {u : List Int} (h : w.ownsRow base t 1 (.slice (some ⟨g, 0, none⟩) n c) n (u.flatMap ienc)) (i : Nat) (x : Int) :
    (w.setCell ⟨g, i, none⟩ (.int .i64 x)).ownsRow base t 1 (.slice (some ⟨g, 0, none⟩) n c) n ((u.set i x).flatMap ienc) := by
  rcases own_block h with ⟨hA, _⟩ | ⟨g', cur, hA, hb, hblk, hnc, hcm, hcs, ht⟩
  · cases hA
  · injection hA with hA
    injection hA with hA
    subst hA
    refine ⟨?_, .inr ⟨g, c, _, rfl, hb, hblk.set i _, hnc, hcm, by simpa using hcs, ?_⟩⟩
    · have := h.1
      rw [ienc_map, List.length_map] at this ⊢
      simpa using this
    · rw [ienc_map] at ht ⊢
      rw [List.map_set, ← ht]
      simp [List.take_set]
theorem canMoveB_obj {H : Int} {ds : List GDoor} {ps gs : List Int} {m : GMove} (h : canMoveB H ds ps gs m = true) : 0 ≤ m.o ∧ m.o < ps.length := by
  simp only [canMoveB, goB, inB, Bool.and_eq_true, decide_eq_true_eq] at h
  have h1 := h.2.2.2.1.1
  omega
theorem spec_l35Copy (A : Option Addr) (n c : Nat) (xs : List Int) (w : World) (hx : Rd w 1 A n (xs.flatMap ienc)) (hnc : Hid (A = none → c = 0)) (hn : n ≤ 1048576) :
    Calls Tryz.prog 130 #[.slice A n c] w fun e w' => ∃ g c', e = .returned (.slice (some ⟨g, 0, none⟩) n c') ∧ Ext w w' ∧ w'.ownsRow w.heap.size 3 1 (.slice (some ⟨g, 0, none⟩) n c') n (xs.flatMap ienc) := by
  have HX := Lib.hid hx
  clear hx
  go_enter Tryz.func130, Tryz.ntmps130
  go_wp2_with (at_builtin; refine (fun h : Hid _ => h.out) ?_)
  unfold Hid
  refine appendRdN ei_I rfl _ _ rfl w.heap.size _ _ 0 [] (by rfl) (own_empty w w.heap.size 3 1 (Nat.le_refl _)) A n c (xs.flatMap ienc) (by rfl) (HX.out.alloc _) hnc.out (one_ienc _) (by omega) (by simp) (by intro h; cases h) ?_
  intro g c' w1
  rw [Nat.zero_add, List.nil_append]
  intro ho he
  have HO1 := Lib.hid ho
  have HE1 := Lib.hid (he w ((Ext.refl w).alloc _) (Nat.le_refl _))
  clear ho he
  go_wp2_with fail
  go_ret
  exact ⟨g, c', rfl, HE1.out, HO1.out⟩
set_option maxRecDepth 100000 in
set_option maxHeartbeats 2000000 in
theorem impl_MoveObject (H : Int) (A : Option Addr) (n c : Nat) (ds : List GDoor) (A1 : Option Addr) (n1 c1 : Nat) (ps : List Int) (A2 : Option Addr) (n2 c2 : Nat) (gs : List Int) (m : GMove) (w : World) (hx : Rd w 2 A n (ds.flatMap GDoor.enc)) (hx1 : Rd w 1 A1 n1 (ps.flatMap ienc)) (hx2 : Rd w 1 A2 n2 (gs.flatMap ienc)) (hnc : Hid (A1 = none → c1 = 0)) (hn1 : n1 ≤ 1048576) :
    Calls Tryz.prog 91 #[.agg #[.int .i64 H, .slice A n c], .slice A1 n1 c1, .slice A2 n2 c2, .agg #[.int .i64 m.o, .int .i64 m.t, .int .i64 m.f, .int .i64 m.s]] w (ListBool (moveL H ds ps gs m) (canMoveB H ds ps gs m) w) := by
  have hl1 := Lib.hid (hx1.len ienc_len (by omega))
  obtain ⟨wb, hwb⟩ : ∃ wb, wb = (w.alloc (.cells #[.int .i64 H, .slice A n c] 26)).alloc (.cells #[.int .i64 m.o, .int .i64 m.t, .int .i64 m.f, .int .i64 m.s] 56) := ⟨_, rfl⟩
  obtain ⟨hE, hsb, a0, a1, b0, b1, b2, b3⟩ := boxHM w _ _ _ _ _ _ _ _ wb hwb
  have HE := Lib.hid hE
  have Hwb := Lib.hid hwb
  have Ha0 := Lib.hid a0
  have Ha1 := Lib.hid a1
  have Hb0 := Lib.hid b0
  have Hb1 := Lib.hid b1
  have Hb2 := Lib.hid b2
  have Hb3 := Lib.hid b3
  have hxb := Lib.hid (hx.keep hE)
  have hxb1 := Lib.hid (hx1.keep hE)
  have hxb2 := Lib.hid (hx2.keep hE)
  clear hE hwb a0 a1 b0 b1 b2 b3 hx hx1 hx2
  go_enter Tryz.func91, Tryz.ntmps91
  go_wp2_with (at_builtin; refine (fun h : Hid _ => h.out) ?_)
  unfold Hid
  rw [← Hwb.out]
  refine appendRdN ei_I rfl _ _ rfl wb.heap.size _ _ 0 [] (by rw [hsb]; rfl) (own_empty wb wb.heap.size 3 1 (Nat.le_refl _)) A1 n1 c1 (ps.flatMap ienc) (by rfl) (hxb1.out.alloc _) hnc.out (one_ienc _) (by omega) (by simp) (by intro h; cases h) ?_
  intro g c' w1
  rw [Nat.zero_add, List.nil_append]
  intro ho he
  have HO1 := Lib.hid ho
  have HE1 := Lib.hid (he wb ((Ext.refl wb).alloc _) (Nat.le_refl _))
  clear ho he
  have cM := Lib.hid (impl_CanMove H A n c ds A1 n1 c1 ps A2 n2 c2 gs m w1 (hxb.out.keep HE1.out) (hxb1.out.keep HE1.out) (hxb2.out.keep HE1.out))
  have a0 := (HE1.out.cellAt (w.heap.size) (by omega) 0).trans Ha0.out
  have a1 := (HE1.out.cellAt (w.heap.size) (by omega) 1).trans Ha1.out
  have b0 := (HE1.out.cellAt (w.heap.size + 1) (by omega) 0).trans Hb0.out
  have b1 := (HE1.out.cellAt (w.heap.size + 1) (by omega) 1).trans Hb1.out
  have b2 := (HE1.out.cellAt (w.heap.size + 1) (by omega) 2).trans Hb2.out
  have b3 := (HE1.out.cellAt (w.heap.size + 1) (by omega) 3).trans Hb3.out
  cases hM : canMoveB H ds ps gs m
  case false =>
    rw [hM] at cM
    have HL : Hid (moveL H ds ps gs m = ps) := by unfold Hid moveL; rw [hM]; rfl
    have HM := Lib.hid hM
    clear hM
    go_wp2_with fail
    refine cM.out.mono ?_
    rintro e w2 ⟨rfl, he2⟩
    have HE2 := Lib.hid (Ext.trans HE1.out he2)
    have HO2 := Lib.hid (own_keep HO1.out he2)
    clear he2 a0 a1 b0 b1 b2 b3
    go_wp2_with fail
    go_ret2
    exact ⟨.slice (some ⟨g, 0, none⟩) n1 c', (by rw [HM.out]; rfl), HE.out.trans HE2.out, by rw [HL.out, hl1.out]; exact own_weak HO2.out (by omega)⟩
  case true =>
    rw [hM] at cM
    obtain ⟨ho0, ho1⟩ := canMoveB_obj hM
    obtain ⟨j, hj⟩ := Int.eq_ofNat_of_zero_le ho0
    have hjn : j < n1 := by (have := hl1.out; omega)
    have HL : Hid (moveL H ds ps gs m = ps.set j m.t) := by unfold Hid moveL; rw [hM, hj]; rfl
    rw [hj] at Hb0
    have HM := Lib.hid hM
    clear hM ho0 ho1 hsb hj
    have hsb : w.heap.size + 1 + 1 ≤ wb.heap.size := by rw [Hwb.out]; simp
    go_wp2_with fail
    refine cM.out.mono ?_
    rintro e w2 ⟨rfl, he2⟩
    have HE2 := Lib.hid (Ext.trans HE1.out he2)
    have ho2 := own_keep HO1.out he2
    obtain ⟨g', hg', hbg, hblk⟩ := PBlk.of_own ho2 (by omega)
    injection hg' with hg'
    injection hg' with hg'
    subst hg'
    have HO2 := Lib.hid ho2
    have q0 := hblk.cell (i := j) (by rw [hl1.out]; exact hjn)
    have q1 := hblk.free j
    have q2 := hblk.lt
    clear he2 a0 a1 b0 b1 b2 b3 hblk ho2
    have b0 := (HE2.out.cellAt (w.heap.size + 1) (by omega) 0).trans Hb0.out
    have b1 := (HE2.out.cellAt (w.heap.size + 1) (by omega) 1).trans Hb1.out
    go_wp2_with fail
    go_ret2
    exact ⟨.slice (some ⟨g, 0, none⟩) n1 c', (by rw [HM.out]; rfl), HE.out.trans (HE2.out.setCell hbg _), by rw [HL.out, List.length_set, hl1.out]; exact own_weak (own_set HO2.out j m.t) (by omega)⟩
set_option maxRecDepth 100000 in
set_option maxHeartbeats 2000000 in
theorem spec_MoveObject (H : Int) (A : Option Addr) (n c : Nat) (ds : List GDoor) (A1 : Option Addr) (n1 c1 : Nat) (ps : List Int) (A2 : Option Addr) (n2 c2 : Nat) (gs : List Int) (m : GMove) (w : World) (hx : Rd w 2 A n (ds.flatMap GDoor.enc)) (hx1 : Rd w 1 A1 n1 (ps.flatMap ienc)) (hx2 : Rd w 1 A2 n2 (gs.flatMap ienc)) (hnc : Hid (A1 = none → c1 = 0)) (hn1 : n1 ≤ 1048576) :
    Calls Tryz.prog 86 #[.agg #[.int .i64 H, .slice A n c], .slice A1 n1 c1, .slice A2 n2 c2, .agg #[.int .i64 m.o, .int .i64 m.t, .int .i64 m.f, .int .i64 m.s]] w (ListBool (moveL H ds ps gs m) (canMoveB H ds ps gs m) w) := by
  have hl1 := Lib.hid (hx1.len ienc_len (by omega))
  obtain ⟨wb, hwb⟩ : ∃ wb, wb = (w.alloc (.cells #[.int .i64 H, .slice A n c] 26)).alloc (.cells #[.int .i64 m.o, .int .i64 m.t, .int .i64 m.f, .int .i64 m.s] 56) := ⟨_, rfl⟩
  obtain ⟨hE, hsb, a0, a1, b0, b1, b2, b3⟩ := boxHM w _ _ _ _ _ _ _ _ wb hwb
  have HE := Lib.hid hE
  have Hwb := Lib.hid hwb
  have Ha0 := Lib.hid a0
  have Ha1 := Lib.hid a1
  have Hb0 := Lib.hid b0
  have Hb1 := Lib.hid b1
  have Hb2 := Lib.hid b2
  have Hb3 := Lib.hid b3
  have hxb := Lib.hid (hx.keep hE)
  have hxb1 := Lib.hid (hx1.keep hE)
  have hxb2 := Lib.hid (hx2.keep hE)
  clear hE hwb a0 a1 b0 b1 b2 b3 hx hx1 hx2
  go_enter Tryz.func86, Tryz.ntmps86
  go_wp2_with fail
  rw [← Hwb.out]
  refine (spec_l35Copy A1 n1 c1 ps wb hxb1.out hnc hn1).mono ?_
  rintro e w1 ⟨g, c', rfl, he, ho⟩
  have HO1 := Lib.hid ho
  have HE1 := Lib.hid he
  clear ho he
  have cM := Lib.hid (spec_CanMove H A n c ds A1 n1 c1 ps A2 n2 c2 gs m w1 (hxb.out.keep HE1.out) (hxb1.out.keep HE1.out) (hxb2.out.keep HE1.out))
  have a0 := (HE1.out.cellAt (w.heap.size) (by omega) 0).trans Ha0.out
  have a1 := (HE1.out.cellAt (w.heap.size) (by omega) 1).trans Ha1.out
  have b0 := (HE1.out.cellAt (w.heap.size + 1) (by omega) 0).trans Hb0.out
  have b1 := (HE1.out.cellAt (w.heap.size + 1) (by omega) 1).trans Hb1.out
  have b2 := (HE1.out.cellAt (w.heap.size + 1) (by omega) 2).trans Hb2.out
  have b3 := (HE1.out.cellAt (w.heap.size + 1) (by omega) 3).trans Hb3.out
  cases hM : canMoveB H ds ps gs m
  case false =>
    rw [hM] at cM
    have HL : Hid (moveL H ds ps gs m = ps) := by unfold Hid moveL; rw [hM]; rfl
    have HM := Lib.hid hM
    clear hM
    go_wp2_with fail
    refine cM.out.mono ?_
    rintro e w2 ⟨rfl, he2⟩
    have HE2 := Lib.hid (Ext.trans HE1.out he2)
    have HO2 := Lib.hid (own_keep HO1.out he2)
    clear he2 a0 a1 b0 b1 b2 b3
    go_wp2_with fail
    go_ret2
    exact ⟨.slice (some ⟨g, 0, none⟩) n1 c', (by rw [HM.out]; rfl), HE.out.trans HE2.out, by rw [HL.out, hl1.out]; exact own_weak HO2.out (by omega)⟩
  case true =>
    rw [hM] at cM
    obtain ⟨ho0, ho1⟩ := canMoveB_obj hM
    obtain ⟨j, hj⟩ := Int.eq_ofNat_of_zero_le ho0
    have hjn : j < n1 := by (have := hl1.out; omega)
    have HL : Hid (moveL H ds ps gs m = ps.set j m.t) := by unfold Hid moveL; rw [hM, hj]; rfl
    rw [hj] at Hb0
    have HM := Lib.hid hM
    clear hM ho0 ho1 hsb hj
    have hsb : w.heap.size + 1 + 1 ≤ wb.heap.size := by rw [Hwb.out]; simp
    go_wp2_with fail
    refine cM.out.mono ?_
    rintro e w2 ⟨rfl, he2⟩
    have HE2 := Lib.hid (Ext.trans HE1.out he2)
    have ho2 := own_keep HO1.out he2
    obtain ⟨g', hg', hbg, hblk⟩ := PBlk.of_own ho2 (by omega)
    injection hg' with hg'
    injection hg' with hg'
    subst hg'
    have HO2 := Lib.hid ho2
    have q0 := hblk.cell (i := j) (by rw [hl1.out]; exact hjn)
    have q1 := hblk.free j
    have q2 := hblk.lt
    clear he2 a0 a1 b0 b1 b2 b3 hblk ho2
    have b0 := (HE2.out.cellAt (w.heap.size + 1) (by omega) 0).trans Hb0.out
    have b1 := (HE2.out.cellAt (w.heap.size + 1) (by omega) 1).trans Hb1.out
    go_wp2_with fail
    go_ret2
    exact ⟨.slice (some ⟨g, 0, none⟩) n1 c', (by rw [HM.out]; rfl), HE.out.trans (HE2.out.setCell hbg _), by rw [HL.out, List.length_set, hl1.out]; exact own_weak (own_set HO2.out j m.t) (by omega)⟩
end Go.Proofs.YtkelmeemblmggaaGreatDoor
/- Contracts of ReplayMoves; no condition but what stands at each theorem. -/
namespace Go.Proofs.YtkelmeemblmggaaGreatDoor
set_option linter.unusedSimpArgs false
set_option linter.unusedVariables false
open Go.RowKit Go.Sort
/-- The moves ms done from u; where one does not go, ps. -/
def replayF (H : Int) (ds : List GDoor) (ps : List Int) : List Int → List GMove → List Int × Bool
  | u, [] => (u, true)
  | u, m :: r => if goB H ds u m then replayF H ds ps (u.set m.o.toNat m.t) r else (ps, false)
def replayL (H : Int) (ds : List GDoor) (ps : List Int) (ms : List GMove) : List Int × Bool :=
  if placesB H ds ps && decide (ms.length ≤ 30) then replayF H ds ps ps ms else (ps, false)
theorem goB_obj {H : Int} {ds : List GDoor} {ps : List Int} {m : GMove} (h : goB H ds ps m = true) : 0 ≤ m.o ∧ m.o < ps.length := by
  simp only [goB, inB, Bool.and_eq_true, decide_eq_true_eq] at h
  have h1 := h.1
  omega
theorem replayF_len (H : Int) (ds : List GDoor) (ps : List Int) : ∀ (ms : List GMove) (u : List Int), u.length = ps.length → (replayF H ds ps u ms).1.length = ps.length
  | [], u, h => h
  | m :: r, u, h => by
    unfold replayF
    split
    · exact replayF_len H ds ps r _ (by simpa using h)
    · rfl
theorem replayL_len (H : Int) (ds : List GDoor) (ps : List Int) (ms : List GMove) : (replayL H ds ps ms).1.length = ps.length := by
  unfold replayL
  split
  · exact replayF_len H ds ps ms ps rfl
  · rfl
theorem box4 (w : World) (b0 b1 b2 b3 : Value) (t : TypeId) (wb : World) (hwb : wb = w.alloc (.cells #[b0, b1, b2, b3] t)) :
    Ext w wb ∧ wb.heap.size = w.heap.size + 1 ∧ wb.cell? ⟨w.heap.size, 0, none⟩ = some b0 ∧ wb.cell? ⟨w.heap.size, 1, none⟩ = some b1 ∧ wb.cell? ⟨w.heap.size, 2, none⟩ = some b2 ∧ wb.cell? ⟨w.heap.size, 3, none⟩ = some b3 := by
  subst hwb
  refine ⟨(Ext.refl w).alloc _, by simp, ?_, ?_, ?_, ?_⟩
  all_goals rw [World.cell?_alloc_new]; rfl
end Go.Proofs.YtkelmeemblmggaaGreatDoor
/-
  DERIVED: THE SHELF's CONTRACTS AT THIS DUMP, IN PLAIN WORDS (tools/lay-plain.mjs out of 'TryzShelf.lean', which tools/lay-shelf.mjs wrote): THE SAME DECLARATIONS UNDER THE SAME NAMES: 'import', 'namespace', 'open', 'def', 'theorem' AND NOTHING ELSE: no command of the shelf's: FOR A HAND-IN. Each laying: the table of numbers ('.._ren') and one theorem, a field a fact of the dump's own or the kernel's comparison; each contract: ONE APPLICATION.
-/
namespace Go.Proofs
open Go.Shelf
def Tryz.laysM171_ren : Go.Shelf.Ren := ⟨fun | 171 => 117 | 243 => 161 | 246 => 180 | 283 => 191 | 284 => 192 | 285 => 193 | 286 => 194 | 129 => 205 | 317 => 204 | 318 => 206 | 319 => 207 | 320 => 208 | 337 => 212 | 338 => 213 | n => n, fun | 3 => 3 | 9 => 9 | 2 => 2 | 4 => 4 | 171 => 189 | 0 => 0 | 53 => 190 | 37 => 22 | 5 => 5 | 173 => 193 | 212 => 201 | 51 => 202 | 20 => 20 | 213 => 203 | 46 => 170 | 232 => 217 | 233 => 218 | n => n, fun | 17 => 1 | 18 => 4 | 19 => 5 | n => n⟩
theorem Tryz.laysM171 : Go.Proofs.LaysM.n171 Tryz.prog Tryz.laysM171_ren := {
  mixed := by kernel_rfl
  f129 := Tryz.func205.trans (congrArg some (by kernel_rfl))
  f171 := Tryz.func117.trans (congrArg some (by kernel_rfl))
  f243 := Tryz.func161.trans (congrArg some (by kernel_rfl))
  f246 := Tryz.func180.trans (congrArg some (by kernel_rfl))
  f283 := Tryz.func191.trans (congrArg some (by kernel_rfl))
  f284 := Tryz.func192.trans (congrArg some (by kernel_rfl))
  f285 := Tryz.func193.trans (congrArg some (by kernel_rfl))
  f286 := Tryz.func194.trans (congrArg some (by kernel_rfl))
  f317 := Tryz.func204.trans (congrArg some (by kernel_rfl))
  f318 := Tryz.func206.trans (congrArg some (by kernel_rfl))
  f319 := Tryz.func207.trans (congrArg some (by kernel_rfl))
  f320 := Tryz.func208.trans (congrArg some (by kernel_rfl))
  f337 := Tryz.func212.trans (congrArg some (by kernel_rfl))
  f338 := Tryz.func213.trans (congrArg some (by kernel_rfl))
  t0 := Tryz.underlying0
  a0 := Tryz.isAgg0
  z0 := Tryz.sizeOf0
  v0 := Tryz.zeroValue0
  t2 := Tryz.underlying2
  a2 := Tryz.isAgg2
  z2 := Tryz.sizeOf2
  v2 := Tryz.zeroValue2
  t3 := Tryz.underlying3
  a3 := Tryz.isAgg3
  z3 := Tryz.sizeOf3
  v3 := Tryz.zeroValue3
  t4 := Tryz.underlying4
  a4 := Tryz.isAgg4
  z4 := Tryz.sizeOf4
  v4 := Tryz.zeroValue4
  t5 := Tryz.underlying5
  a5 := Tryz.isAgg5
  z5 := Tryz.sizeOf5
  v5 := Tryz.zeroValue5
  t9 := Tryz.underlying9
  a9 := Tryz.isAgg9
  z9 := Tryz.sizeOf9
  v9 := Tryz.zeroValue9
  t20 := Tryz.underlying20
  a20 := Tryz.isAgg20
  z20 := Tryz.sizeOf20
  v20 := Tryz.zeroValue20
  t37 := Tryz.underlying22
  a37 := Tryz.isAgg22
  z37 := Tryz.sizeOf22
  v37 := Tryz.zeroValue22
  t46 := Tryz.underlying170
  a46 := Tryz.isAgg170
  z46 := Tryz.sizeOf170
  v46 := Tryz.zeroValue170
  t51 := Tryz.underlying202
  a51 := Tryz.isAgg202
  z51 := Tryz.sizeOf202
  v51 := Tryz.zeroValue202
  t53 := Tryz.underlying190
  a53 := Tryz.isAgg190
  z53 := Tryz.sizeOf190
  v53 := Tryz.zeroValue190
  t171 := Tryz.underlying189
  a171 := Tryz.isAgg189
  z171 := Tryz.sizeOf189
  v171 := Tryz.zeroValue189
  t173 := Tryz.underlying193
  a173 := Tryz.isAgg193
  z173 := Tryz.sizeOf193
  v173 := Tryz.zeroValue193
  t212 := Tryz.underlying201
  a212 := Tryz.isAgg201
  z212 := Tryz.sizeOf201
  v212 := Tryz.zeroValue201
  t213 := Tryz.underlying203
  a213 := Tryz.isAgg203
  z213 := Tryz.sizeOf203
  t232 := Tryz.underlying217
  a232 := Tryz.isAgg217
  z232 := Tryz.sizeOf217
  v232 := Tryz.zeroValue217
  t233 := Tryz.underlying218
  a233 := Tryz.isAgg218
  z233 := Tryz.sizeOf218
  v233 := Tryz.zeroValue218
  g17 := by kernel_rfl
  g18 := by kernel_rfl
  g19 := by kernel_rfl
  i0 := by kernel_rfl
  i2 := by kernel_rfl
  i3 := by kernel_rfl
  i4 := by kernel_rfl
  i5 := by kernel_rfl
  i9 := by kernel_rfl
  i20 := by kernel_rfl
  i37 := by kernel_rfl
  i46 := by kernel_rfl
  i51 := by kernel_rfl
  i53 := by kernel_rfl
  i171 := by kernel_rfl
  i173 := by kernel_rfl
  i212 := by kernel_rfl
  i232 := by kernel_rfl
  i233 := by kernel_rfl
  m17 := by kernel_rfl
  m18 := by kernel_rfl
  m19 := by kernel_rfl }
open Go.RowKit Go.Sort Go.Lib in
/-- strconv.Itoa: "Itoa is equivalent to FormatInt(int64(i), 10).": i's DECIMAL NUMERAL ('Lib.itoa': a '-' where i is negative, then the digits), FOR EVERY int. The world behind the call: the world before it, new blocks behind the heap (the library's 'var a [24]byte'), draws. (LAID: no walk: one application.) -/
theorem Tryz.strconv_Itoa (n : Int) (h0 : -9223372036854775808 ≤ n) (h1 : n ≤ 9223372036854775807) (w : World) (htab : Lib.TabIs Tryz.prog w "internal/strconv.uint64pow10" .u64 Lib.pow10Tab) :
    Calls Tryz.prog 117 #[.int .i64 n] w fun e w' => e = .returned (.string ⟨(Lib.itoa n).toArray⟩) ∧ ∃ k os, w' = grow (w.drewN k) os := Any.strconv_Itoa Tryz.laysM171 n h0 h1 w htab
def Tryz.lays171_ren : Go.Shelf.Ren := ⟨fun | 171 => 117 | 243 => 161 | 246 => 180 | 283 => 191 | 284 => 192 | 285 => 193 | 286 => 194 | 129 => 205 | 317 => 204 | 318 => 206 | 319 => 207 | 320 => 208 | 337 => 212 | 338 => 213 | n => n, fun | 3 => 3 | 9 => 9 | 2 => 2 | 4 => 4 | 171 => 189 | 0 => 0 | 53 => 190 | 37 => 22 | 5 => 5 | 173 => 193 | 212 => 201 | 51 => 202 | 20 => 20 | 213 => 203 | 46 => 170 | 232 => 217 | 233 => 218 | n => n, fun | 17 => 1 | 18 => 4 | 19 => 5 | n => n⟩
theorem Tryz.lays171 : Go.Proofs.Lays.n171 Tryz.prog Tryz.lays171_ren := {
  mixed := by kernel_rfl
  f129 := Tryz.func205.trans (congrArg some (by kernel_rfl))
  f171 := Tryz.func117.trans (congrArg some (by kernel_rfl))
  f243 := Tryz.func161.trans (congrArg some (by kernel_rfl))
  f246 := Tryz.func180.trans (congrArg some (by kernel_rfl))
  f283 := Tryz.func191.trans (congrArg some (by kernel_rfl))
  f284 := Tryz.func192.trans (congrArg some (by kernel_rfl))
  f285 := Tryz.func193.trans (congrArg some (by kernel_rfl))
  f286 := Tryz.func194.trans (congrArg some (by kernel_rfl))
  f317 := Tryz.func204.trans (congrArg some (by kernel_rfl))
  f318 := Tryz.func206.trans (congrArg some (by kernel_rfl))
  f319 := Tryz.func207.trans (congrArg some (by kernel_rfl))
  f320 := Tryz.func208.trans (congrArg some (by kernel_rfl))
  f337 := Tryz.func212.trans (congrArg some (by kernel_rfl))
  f338 := Tryz.func213.trans (congrArg some (by kernel_rfl))
  t0 := Tryz.underlying0
  a0 := Tryz.isAgg0
  z0 := Tryz.sizeOf0
  v0 := Tryz.zeroValue0
  t2 := Tryz.underlying2
  a2 := Tryz.isAgg2
  z2 := Tryz.sizeOf2
  v2 := Tryz.zeroValue2
  t3 := Tryz.underlying3
  a3 := Tryz.isAgg3
  z3 := Tryz.sizeOf3
  v3 := Tryz.zeroValue3
  t4 := Tryz.underlying4
  a4 := Tryz.isAgg4
  z4 := Tryz.sizeOf4
  v4 := Tryz.zeroValue4
  t5 := Tryz.underlying5
  a5 := Tryz.isAgg5
  z5 := Tryz.sizeOf5
  v5 := Tryz.zeroValue5
  t9 := Tryz.underlying9
  a9 := Tryz.isAgg9
  z9 := Tryz.sizeOf9
  v9 := Tryz.zeroValue9
  t20 := Tryz.underlying20
  a20 := Tryz.isAgg20
  z20 := Tryz.sizeOf20
  v20 := Tryz.zeroValue20
  t37 := Tryz.underlying22
  a37 := Tryz.isAgg22
  z37 := Tryz.sizeOf22
  v37 := Tryz.zeroValue22
  t46 := Tryz.underlying170
  a46 := Tryz.isAgg170
  z46 := Tryz.sizeOf170
  v46 := Tryz.zeroValue170
  t51 := Tryz.underlying202
  a51 := Tryz.isAgg202
  z51 := Tryz.sizeOf202
  v51 := Tryz.zeroValue202
  t53 := Tryz.underlying190
  a53 := Tryz.isAgg190
  z53 := Tryz.sizeOf190
  v53 := Tryz.zeroValue190
  t171 := Tryz.underlying189
  a171 := Tryz.isAgg189
  z171 := Tryz.sizeOf189
  v171 := Tryz.zeroValue189
  t173 := Tryz.underlying193
  a173 := Tryz.isAgg193
  z173 := Tryz.sizeOf193
  v173 := Tryz.zeroValue193
  t212 := Tryz.underlying201
  a212 := Tryz.isAgg201
  z212 := Tryz.sizeOf201
  v212 := Tryz.zeroValue201
  t213 := Tryz.underlying203
  a213 := Tryz.isAgg203
  z213 := Tryz.sizeOf203
  t232 := Tryz.underlying217
  a232 := Tryz.isAgg217
  z232 := Tryz.sizeOf217
  v232 := Tryz.zeroValue217
  t233 := Tryz.underlying218
  a233 := Tryz.isAgg218
  z233 := Tryz.sizeOf218
  v233 := Tryz.zeroValue218
  g17 := by kernel_rfl
  g18 := by kernel_rfl
  g19 := by kernel_rfl }
open Go.RowKit Go.Sort Go.Lib in
/-- THE ROAD WITHOUT THE TABLE: 0 <= i < 100: NO PREMISE ON THE WORLD, AND THE WORLD IS AS IT WAS: a row that keeps its argument in that range need list no table ('laid = []'). (LAID: no walk: one application.) -/
theorem Tryz.strconv_Itoa_small (i : Nat) (hi : i < 100) (w : World) :
    Calls Tryz.prog 117 #[.int .i64 i] w fun e w' => e = .returned (.string ⟨(Lib.decDigits i).toArray⟩) ∧ w' = w := Any.strconv_Itoa_small Tryz.lays171 i hi w
def Tryz.lays146_ren : Go.Shelf.Ren := ⟨fun | 146 => 114 | 221 => 159 | 268 => 174 | 138 => 175 | 143 => 176 | 195 => 185 | 197 => 186 | 218 => 187 | 219 => 188 | 260 => 197 | 217 => 198 | 225 => 199 | 224 => 200 | 267 => 201 | 266 => 210 | 314 => 211 | n => n, fun | 9 => 9 | 31 => 76 | 3 => 3 | 4 => 4 | 0 => 0 | 105 => 185 | 21 => 21 | 5 => 5 | 46 => 170 | 119 => 207 | 139 => 210 | 138 => 209 | 146 => 211 | 51 => 202 | n => n, fun | 1 => 0 | 3 => 2 | 4 => 3 | n => n⟩
theorem Tryz.lays146 : Go.Proofs.Lays.n146 Tryz.prog Tryz.lays146_ren := {
  mixed := by kernel_rfl
  f138 := Tryz.func175.trans (congrArg some (by kernel_rfl))
  f143 := Tryz.func176.trans (congrArg some (by kernel_rfl))
  f146 := Tryz.func114.trans (congrArg some (by kernel_rfl))
  f195 := Tryz.func185.trans (congrArg some (by kernel_rfl))
  f197 := Tryz.func186.trans (congrArg some (by kernel_rfl))
  f217 := Tryz.func198.trans (congrArg some (by kernel_rfl))
  f218 := Tryz.func187.trans (congrArg some (by kernel_rfl))
  f219 := Tryz.func188.trans (congrArg some (by kernel_rfl))
  f221 := Tryz.func159.trans (congrArg some (by kernel_rfl))
  f224 := Tryz.func200.trans (congrArg some (by kernel_rfl))
  f225 := Tryz.func199.trans (congrArg some (by kernel_rfl))
  f260 := Tryz.func197.trans (congrArg some (by kernel_rfl))
  f266 := Tryz.func210.trans (congrArg some (by kernel_rfl))
  f267 := Tryz.func201.trans (congrArg some (by kernel_rfl))
  f268 := Tryz.func174.trans (congrArg some (by kernel_rfl))
  f314 := Tryz.func211.trans (congrArg some (by kernel_rfl))
  t0 := Tryz.underlying0
  a0 := Tryz.isAgg0
  z0 := Tryz.sizeOf0
  v0 := Tryz.zeroValue0
  t3 := Tryz.underlying3
  a3 := Tryz.isAgg3
  z3 := Tryz.sizeOf3
  v3 := Tryz.zeroValue3
  t4 := Tryz.underlying4
  a4 := Tryz.isAgg4
  z4 := Tryz.sizeOf4
  v4 := Tryz.zeroValue4
  t5 := Tryz.underlying5
  a5 := Tryz.isAgg5
  z5 := Tryz.sizeOf5
  v5 := Tryz.zeroValue5
  t9 := Tryz.underlying9
  a9 := Tryz.isAgg9
  z9 := Tryz.sizeOf9
  v9 := Tryz.zeroValue9
  t21 := Tryz.underlying21
  a21 := Tryz.isAgg21
  z21 := Tryz.sizeOf21
  v21 := Tryz.zeroValue21
  t31 := Tryz.underlying76
  a31 := Tryz.isAgg76
  z31 := Tryz.sizeOf76
  v31 := Tryz.zeroValue76
  t46 := Tryz.underlying170
  a46 := Tryz.isAgg170
  z46 := Tryz.sizeOf170
  v46 := Tryz.zeroValue170
  t51 := Tryz.underlying202
  a51 := Tryz.isAgg202
  z51 := Tryz.sizeOf202
  v51 := Tryz.zeroValue202
  t105 := Tryz.underlying185
  a105 := Tryz.isAgg185
  z105 := Tryz.sizeOf185
  v105 := Tryz.zeroValue185
  t119 := Tryz.underlying207
  a119 := Tryz.isAgg207
  z119 := Tryz.sizeOf207
  t138 := Tryz.underlying209
  a138 := Tryz.isAgg209
  z138 := Tryz.sizeOf209
  v138 := Tryz.zeroValue209
  t139 := Tryz.underlying210
  a139 := Tryz.isAgg210
  z139 := Tryz.sizeOf210
  v139 := Tryz.zeroValue210
  t146 := Tryz.underlying211
  a146 := Tryz.isAgg211
  z146 := Tryz.sizeOf211
  v146 := Tryz.zeroValue211
  g1 := by kernel_rfl
  g3 := by kernel_rfl
  g4 := by kernel_rfl }
open Go.RowKit Go.Lib in
/-- strings.Split. (LAID: no walk: one application.) -/
theorem Tryz.strings_Split (s sep : ByteArray) (m : Int) (w : World) (hs : s.size < 4294967281) (hm : w.cell? ⟨0, 0, none⟩ = some (.int .i64 m)) (h1 : 1 ≤ sep.size) :
    Calls Tryz.prog 114 #[.string s, .string sep] w fun e w' =>
      e = .returned (.slice (some ⟨w.heap.size, 0, none⟩) (Lib.countB s sep + 1) (Lib.countB s sep + 1)) ∧ w' = w.alloc (.cells ((Lib.splitB sep 0 (Lib.countB s sep) s).map Value.string).toArray 9) := Any.strings_Split Tryz.lays146 (by kernel_rfl) s sep m w hs hm h1
def Tryz.lays111_ren : Go.Shelf.Ren := ⟨fun | 111 => 111 | n => n, fun | 28 => 27 | 3 => 3 | 4 => 4 | 0 => 0 | n => n, fun | n => n⟩
theorem Tryz.lays111 : Go.Proofs.Lays.n111 Tryz.prog Tryz.lays111_ren := {
  mixed := by kernel_rfl
  f111 := Tryz.func111.trans (congrArg some (by kernel_rfl))
  t0 := Tryz.underlying0
  a0 := Tryz.isAgg0
  z0 := Tryz.sizeOf0
  v0 := Tryz.zeroValue0
  t3 := Tryz.underlying3
  a3 := Tryz.isAgg3
  z3 := Tryz.sizeOf3
  v3 := Tryz.zeroValue3
  t4 := Tryz.underlying4
  a4 := Tryz.isAgg4
  z4 := Tryz.sizeOf4
  v4 := Tryz.zeroValue4
  t28 := Tryz.underlying27
  a28 := Tryz.isAgg27
  z28 := Tryz.sizeOf27
  v28 := Tryz.zeroValue27 }
open Go.RowKit Go.Lib in
/-- slices.Equal at []int: "Equal reports whether two slices are equal: the same length and all elements equal. If the lengths are different, Equal returns false. Otherwise, the elements are compared in increasing index order, and the comparison stops at the first unequal pair. Empty and nil slices are considered equal.": IT RETURNS WHETHER THE TWO LISTS OF ELEMENTS ARE ONE; the world is as it was but for the count of draws (the test 's1[i] != s2[i]' has two reads, whose order the model draws, once a round). 'xs', 'ys': what the cells behind the two addresses hold (the spare capacity too, if you have it); 'xs.take n', 'ys.take m': the elements. THE TWO SLICES MAY OVERLAP. (LAID: no walk: one application.) -/
theorem Tryz.slices_Equal_int (b1 o1 n c b2 o2 m d : Nat) (xs ys : List Int) (w : World) (hx : n ≤ xs.length) (hy : m ≤ ys.length) (hbig : n ≤ 9223372036854775807) (hbig2 : m ≤ 9223372036854775807) (hc1 : ∀ j, j < xs.length → w.cell? ⟨b1, o1 + j, none⟩ = some (.int .i64 (xs.getD j 0))) (hc2 : ∀ j, j < ys.length → w.cell? ⟨b2, o2 + j, none⟩ = some (.int .i64 (ys.getD j 0))) :
    Calls Tryz.prog 111 #[.slice (some ⟨b1, o1, none⟩) n c, .slice (some ⟨b2, o2, none⟩) m d] w fun e w' => e = .returned (.bool (xs.take n == ys.take m)) ∧ ∃ q, w' = w.drewN q := Any.slices_Equal_int Tryz.lays111 b1 o1 n c b2 o2 m d xs ys w hx hy hbig hbig2 hc1 hc2
end Go.Proofs
