/- Contracts of l23Door and l23Form; no condition but what stands at each theorem. -/
import Derived.Test.YtkelmeemblmggaaSHe
namespace Go.Proofs.Ytkelmeemblmggaa
set_option linter.unusedSimpArgs false
set_option linter.unusedVariables false
open Go.RowKit Go.Sort
set_option maxRecDepth 100000 in
set_option maxHeartbeats 2000000 in
theorem spec_l23Door (H : Int) (A : Option Addr) (n c : Nat) (ds : List GDoor) (x y : Int) (w : World) (hx : Rd w 2 A n (ds.flatMap GDoor.enc)) :
    Calls Try.prog 45 #[.agg #[.int .i64 H, .slice A n c], .int .i64 x, .int .i64 y] w fun e w' => e = .returned (.bool (doorB ds x y)) ∧ Ext w w' := by
  have hn := hx.2.1
  have hl := Lib.hid (hx.len GDoor.len (by omega))
  have hmin := @run_imin Try.prog
  have hmax := @run_imax Try.prog
  obtain ⟨wb, hwb⟩ : ∃ wb, wb = w.alloc (.cells #[.int .i64 H, .slice A n c] 24) := ⟨_, rfl⟩
  obtain ⟨hE, hsb, k0, k1⟩ := box2 w _ _ _ wb hwb
  have HE := Lib.hid hE
  have Hwb := Lib.hid hwb
  have hxb := hx.keep hE
  clear hwb hE hsb hx k0
  go_enter Try.func45, Try.ntmps45
  go_wp2_with fail
  rw [← Hwb.out]
  go_loop [7] (fun i => ∃ k : Nat, k ≤ n ∧ i = .int .i64 k ∧ Hid (doorB ds x y = (ds.drop k).any (isDoor x y))) (fun i => n - (intOf i).toNat)
  case atStart => exact ⟨0, Nat.zero_le _, rfl, rfl⟩
  case round =>
    obtain ⟨k, hk, rfl, hz⟩ := hrel
    by_cases hlt : k < n
    · obtain ⟨b, off, d, rfl, hbs, hdk, h0, h1⟩ := GDoor.at_ hxb hlt
      have HD := Lib.hid (drop_cons hdk)
      clear hdk
      cases ea : (d.a == imin x y)
      · have hdo : Hid (isDoor x y d = false) := by unfold Hid isDoor; rw [ea]; rfl
        go_wp2_with fail
        go_round
        case rel => exact ⟨k + 1, by omega, by go_num, by unfold Hid; rw [hz.out, HD.out, List.any_cons, hdo.out]; rfl⟩
        case measure => simp [intOf]; omega
      · cases eb : (d.b == imax x y)
        · have hdo : Hid (isDoor x y d = false) := by unfold Hid isDoor; rw [ea, eb]; rfl
          go_wp2_with fail
          go_round
          case rel => exact ⟨k + 1, by omega, by go_num, by unfold Hid; rw [hz.out, HD.out, List.any_cons, hdo.out]; rfl⟩
          case measure => simp [intOf]; omega
        · have hdo : Hid (isDoor x y d = true) := by unfold Hid isDoor; rw [ea, eb]; rfl
          go_wp2_with fail
          go_ret
          exact ⟨ret_bool (by rw [hz.out, HD.out, List.any_cons, hdo.out]; rfl), HE.out⟩
    · obtain rfl : k = n := by omega
      go_wp2_with fail
      go_ret
      exact ⟨ret_bool (by rw [hz.out, drop_nil (by rw [hl.out]; omega)]; rfl), HE.out⟩
set_option maxRecDepth 100000 in
set_option maxHeartbeats 4000000 in
theorem spec_l23Form (H : Int) (A : Option Addr) (n c : Nat) (ds : List GDoor) (w : World) (hx : Rd w 2 A n (ds.flatMap GDoor.enc)) :
    Calls Try.prog 71 #[.agg #[.int .i64 H, .slice A n c]] w fun e w' => e = .returned (.bool (formB H ds)) ∧ Ext w w' := by
  have hn := hx.2.1
  have hl := Lib.hid (hx.len GDoor.len (by omega))
  obtain ⟨wb, hwb⟩ : ∃ wb, wb = w.alloc (.cells #[.int .i64 H, .slice A n c] 24) := ⟨_, rfl⟩
  obtain ⟨hE, hsb, k0, k1⟩ := box2 w _ _ _ wb hwb
  have HE := Lib.hid hE
  have Hwb := Lib.hid hwb
  have Hk0 := Lib.hid k0
  have Hk1 := Lib.hid k1
  have hxb := hx.keep hE
  have hbl : w.heap.size < wb.heap.size := by omega
  clear hwb hE k0 k1 hsb hx
  have HHF : Hid (∀ X : Bool, doorsOk H none ds = X → X = false → formB H ds = false) := by
    unfold Hid; intro X h1 h2; unfold formB; rw [h1, h2]; simp
  go_enter Try.func71, Try.ntmps71
  go_wp2_with fail
  rw [← Hwb.out]
  go_loopw [3] (fun i wr => ∃ k : Nat, k ≤ n ∧ i = .int .i64 k ∧ Hid (doorsOk H none ds = doorsOk H (prevD ds k) (ds.drop k)) ∧ Ext wb wr) (fun i _ => n - (intOf i).toNat)
  case atStart => exact ⟨0, Nat.zero_le _, rfl, rfl, Ext.refl _⟩
  case round =>
    obtain ⟨k, hk, rfl, hz, hb⟩ := hrel
    have r0 := (hb.cellAt w.heap.size hbl 0).trans Hk0.out
    have r1 := (hb.cellAt w.heap.size hbl 1).trans Hk1.out
    have hbr := hb.size
    have m0 : wr.heap.size ≠ w.heap.size := by omega
    have l0 : w.heap.size < wr.heap.size := by omega
    by_cases hlt : k < n
    · obtain ⟨b, off, d, rfl, hbs, hdk, q0, q1⟩ := GDoor.at_ (hxb.keep hb) hlt
      have hst := doorsOk_step H hdk
      rw [← hz.out] at hst
      have HST := Lib.hid hst
      have HB := Lib.hid hb
      have HDK := Lib.hid hdk
      clear hst hb hdk
      cases hdo : doorOk H d
      case false =>
        have HF : Hid (formB H ds = false) := by unfold Hid; exact HHF.out _ HST.out (by rw [hdo]; simp)
        have hdn : ¬ (0 ≤ d.a ∧ d.a < d.b ∧ d.b < H) := by
          intro hc
          have : doorOk H d = true := by simp [doorOk, hc.1, hc.2.1, hc.2.2]
          rw [hdo] at this; cases this
        clear hdo
        by_cases e1 : d.a < 0
        · clear hdn
          go_wp2_with fail
          go_ret
          exact ⟨ret_bool HF.out.symm, HE.out.trans (HB.out.alloc _)⟩
        by_cases e2 : d.b ≤ d.a
        · clear hdn
          go_wp2_with fail
          go_ret
          exact ⟨ret_bool HF.out.symm, HE.out.trans (HB.out.alloc _)⟩
        have e3 : H ≤ d.b := by omega
        clear hdn
        go_wp2_with fail
        go_ret
        exact ⟨ret_bool HF.out.symm, HE.out.trans (HB.out.alloc _)⟩
      have hdp : 0 ≤ d.a ∧ d.a < d.b ∧ d.b < H := by
        simp only [doorOk, Bool.and_eq_true, decide_eq_true_eq] at hdo
        exact ⟨hdo.1.1, hdo.1.2, hdo.2⟩
      obtain ⟨e1, e2, e3⟩ := hdp
      have HDO := Lib.hid hdo
      clear hdo
      go_wp2_with fail
      obtain ⟨wd, hwd⟩ : ∃ wd, wd = wr.alloc (.cells #[.int .i64 d.a, .int .i64 d.b] 56) := ⟨_, rfl⟩
      rw [← hwd]
      obtain ⟨hEd, hsd, d0, d1⟩ := box2 wr _ _ _ wd hwd
      have s0 := (hEd.cellAt w.heap.size (by omega) 0).trans r0
      have s1 := (hEd.cellAt w.heap.size (by omega) 1).trans r1
      have HEd := Lib.hid (HB.out.trans hEd)
      clear hwd hsd r0 r1 q0 q1
      by_cases hk0 : k = 0
      · subst hk0
        clear hEd
        go_quiet (fail)
        go_wp2_with fail
        go_roundw
        case rel => exact ⟨1, by omega, rfl, by unfold Hid; rw [HST.out, HDO.out]; rfl, HEd.out.drewN _⟩
        case measure => simp [intOf]; omega
      · obtain ⟨b', off', p, hA, hbs', hpk, q0, q1⟩ := GDoor.at_ (hxb.keep HEd.out) (k := k - 1) (by omega)
        simp only [Option.some.injEq, Addr.mk.injEq, and_true] at hA
        obtain ⟨rfl, rfl⟩ := hA
        have hpv : prevD ds k = some p := by
          obtain ⟨m, rfl⟩ : ∃ m, k = m + 1 := ⟨k - 1, by omega⟩
          exact hpk
        have HST2 : Hid (doorsOk H none ds = (dlt p d && doorsOk H (prevD ds (k + 1)) (ds.drop (k + 1)))) := by
          unfold Hid; rw [HST.out, HDO.out, hpv]; simp
        have hkp : 0 < k := by omega
        clear hpk hpv hEd
        by_cases f1 : d.a < p.a
        · have HF : Hid (formB H ds = false) := by
            unfold Hid; refine HHF.out _ HST2.out ?_
            have : dlt p d = false := by unfold dlt; rw [decide_eq_false (by omega), beq_eq_false_iff_ne.2 (by omega)]; rfl
            rw [this]; rfl
          go_quiet (fail)
          go_wp2_with fail
          go_ret
          exact ⟨ret_bool HF.out.symm, HE.out.trans (HEd.out.drewN _)⟩
        cases f2 : (d.a == p.a)
        · have f2' : d.a ≠ p.a := by simpa using f2
          have hd2 : Hid (dlt p d = true) := by unfold Hid dlt; rw [decide_eq_true (by omega)]; rfl
          clear f2'
          go_quiet (fail)
          go_wp2_with fail
          go_roundw
          case rel => exact ⟨k + 1, by omega, by go_num, by unfold Hid; rw [HST2.out, hd2.out]; rfl, HEd.out.drewN _⟩
          case measure => simp [intOf]; omega
        · have F2 := Lib.hid f2
          by_cases f3 : d.b ≤ p.b
          · have HF : Hid (formB H ds = false) := by
              unfold Hid; refine HHF.out _ HST2.out ?_
              have : dlt p d = false := by unfold dlt; rw [decide_eq_false (by have := beq_iff_eq.1 F2.out; omega), decide_eq_false (by omega)]; simp
              rw [this]; rfl
            go_quiet (fail)
            go_wp2_with fail
            go_ret
            exact ⟨ret_bool HF.out.symm, HE.out.trans (HEd.out.drewN _)⟩
          · have hd2 : Hid (dlt p d = true) := by unfold Hid dlt; have hz9 : decide (p.b < d.b) = true := decide_eq_true (by omega); rw [show (p.a == d.a) = true by rw [beq_iff_eq]; exact (beq_iff_eq.1 F2.out).symm, hz9]; simp
            go_quiet (fail)
            go_wp2_with fail
            go_roundw
            case rel => exact ⟨k + 1, by omega, by go_num, by unfold Hid; rw [HST2.out, hd2.out]; rfl, HEd.out.drewN _⟩
            case measure => simp [intOf]; omega
    · obtain rfl : k = n := by omega
      have hdok : doorsOk H none ds = true := by rw [hz.out, drop_nil (xs := ds) (k := k) (by rw [hl.out]; exact Nat.le_refl _)]; cases prevD ds k <;> rfl
      have HForm : Hid (formB H ds = (inB H 1 7 && decide (k ≤ 12))) := by
        unfold Hid formB; rw [hdok, hl.out]; simp
      clear hdok hz
      cases hr : inB H 1 7
      · go_wp2_with (go_at_call 42; refine (spec_l01In _ _ _ _).mono ?_; rintro e w1 ⟨he, rfl⟩; rw [hr] at he; subst he)
        go_ret
        exact ⟨ret_bool (by rw [HForm.out, hr]; rfl), HE.out.trans hb⟩
      · go_wp2_with (go_at_call 42; refine (spec_l01In _ _ _ _).mono ?_; rintro e w1 ⟨he, rfl⟩; rw [hr] at he; subst he)
        go_ret
        exact ⟨ret_bool (by rw [HForm.out, hr, Bool.eq_iff_iff]; simp; try omega), HE.out.trans hb⟩
end Go.Proofs.Ytkelmeemblmggaa
