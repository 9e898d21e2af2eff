/- Texts of one proof, laid one behind the other (SHe, SHf, SHg, SHh, SHi); no condition but what stands at each theorem. -/
import Derived.Lib.SliceRun
import Derived.Test.YtfhibjehnoibeaaDoorZB
/- Contracts of wayIn and the program's HouseOk; no condition but what stands at each theorem. -/
namespace Go.Proofs.YtfhibjehnoibeaaDoor
set_option linter.unusedSimpArgs false
set_option linter.unusedVariables false
open Go.RowKit Go.Sort
theorem getD_of' {α : Type} {xs : List α} {k : Nat} {x d : α} (h : xs[k]? = some x) : xs.getD k d = x := by simp [h]
theorem hbox_of {w wb : World} {h : Nat} {A : Option Addr} {n c : Nat} {ds : List GDoor} {t : TypeId} (hwb : wb = w.alloc (.cells #[.int .i64 (h : Int), .slice A n c] t)) (hx : Rd w 2 A n (ds.flatMap GDoor.enc)) : HBox wb w.heap.size h A n c ds := by
  obtain ⟨h1, h2, h3, h4⟩ := box2 w _ _ _ wb hwb
  exact ⟨h3, h4, by omega, hx.keep h1⟩
theorem impl_wayIn (h : Nat) (A : Option Addr) (n c : Nat) (ds : List GDoor) (a b : Nat) (w : World) (hx : Rd w 2 A n (ds.flatMap GDoor.enc)) (hs : Hid (NoTwice ds)) (h1 : 1 ≤ h) (h7 : h ≤ 7) (hn12 : n ≤ 12) (ha : a < h) (hb : b < h) :
    Calls Tryd.prog 63 #[.agg #[.int .i64 h, .slice A n c], .int .i64 a, .int .i64 b] w (WayPost (bfsAll ds h a) b w) := by
  obtain ⟨wb, hwb⟩ : ∃ wb, wb = w.alloc (.cells #[.int .i64 (h : Int), .slice A n c] 26) := ⟨_, rfl⟩
  have H := hbox_of hwb hx
  have HC := Lib.hid (impl_shortest h A n c ds a b w.heap.size wb H hs h1 h7 hn12 ha hb)
  have HE : Hid (Ext w wb) := by unfold Hid; rw [hwb]; exact (Ext.refl w).alloc _
  have Hwb := Lib.hid hwb
  clear H hwb
  go_enter Tryd.func63, Tryd.ntmps63
  go_wp2_with fail
  rw [← Hwb.out]
  refine HC.out.mono ?_
  rintro e w5 (⟨hf, rfl, he5⟩ | ⟨hf, g, c', rfl, he5⟩)
  · have HF := Lib.hid hf
    clear hf
    go_wp2_with fail
    go_ret
    exact .inl ⟨HF.out, rfl, HE.out.trans he5⟩
  · have HF := Lib.hid hf
    clear hf
    go_wp2_with fail
    go_ret
    exact .inr ⟨HF.out, g, c', rfl, HE.out.trans he5⟩
def prevD (ds : List GDoor) : Nat → Option GDoor
  | 0 => none
  | k + 1 => ds[k]?
theorem doorsOk_step (H : Int) {ds : List GDoor} {k : Nat} {d : GDoor} (hd : ds[k]? = some d) : doorsOk H (prevD ds k) (ds.drop k) = (doorOk H d && (match prevD ds k with | none => true | some p => dlt p d) && doorsOk H (prevD ds (k + 1)) (ds.drop (k + 1))) := by
  rw [drop_cons hd]
  cases k with
  | zero => simp [doorsOk, prevD, hd]
  | succ k =>
    have hk : k < ds.length := by have := (List.getElem?_eq_some_iff.1 hd).1; omega
    have h1 : ds[k]? = some ds[k] := List.getElem?_eq_getElem hk
    simp [doorsOk, prevD, hd, h1]
set_option maxRecDepth 100000 in
set_option maxHeartbeats 4000000 in
theorem impl_HouseOk (H : Int) (A : Option Addr) (n c : Nat) (ds : List GDoor) (w : World) (hx : Rd w 2 A n (ds.flatMap GDoor.enc)) :
    Calls Tryd.prog 50 #[.agg #[.int .i64 H, .slice A n c]] w fun e w' => e = .returned (.bool (houseB H ds)) ∧ Ext w w' := by
  have hn := hx.2.1
  have hl := Lib.hid (hx.len GDoor.len (by omega))
  obtain ⟨wb, hwb⟩ : ∃ wb, wb = w.alloc (.cells #[.int .i64 H, .slice A n c] 26) := ⟨_, rfl⟩
  obtain ⟨hE, hsb, k0, k1⟩ := box2 w _ _ _ wb hwb
  have HE := Lib.hid hE
  have Hwb := Lib.hid hwb
  have Hk0 := Lib.hid k0
  have Hk1 := Lib.hid k1
  have Hsb := Lib.hid hsb
  have hxb := hx.keep hE
  have hbl : w.heap.size < wb.heap.size := by omega
  clear hwb hE k0 k1 hsb hx
  cases hr : inB H 1 7
  case false =>
    have HF : Hid (houseB H ds = false) := by unfold Hid houseB formB; rw [hr]; simp
    have k0 := Hk0.out
    go_enter Tryd.func50, Tryd.ntmps50
    go_wp2_with (rw [← Hwb.out]; go_at_call 34; refine (impl_between _ _ _ _).mono ?_; rintro e w1 ⟨he, rfl⟩; rw [hr] at he; subst he)
    go_ret
    exact ⟨ret_bool HF.out.symm, HE.out⟩
  have hrb : 1 ≤ H ∧ H ≤ 7 := by simpa [inB] using hr
  obtain ⟨h, rfl⟩ := Int.eq_ofNat_of_zero_le (show 0 ≤ H by omega)
  have h1 : 1 ≤ h := by omega
  have h7 : h ≤ 7 := by omega
  have HR := Lib.hid hr
  have k0 := Hk0.out
  have k1 := Hk1.out
  by_cases hn12 : n ≤ 12
  case neg =>
    have HF : Hid (houseB h ds = false) := by unfold Hid houseB formB; rw [hl.out, decide_eq_false hn12]; simp
    go_enter Tryd.func50, Tryd.ntmps50
    go_wp2_with (rw [← Hwb.out]; go_at_call 34; refine (impl_between _ _ _ _).mono ?_; rintro e w1 ⟨he, rfl⟩; rw [HR.out] at he; subst he; clear hr)
    go_ret
    exact ⟨ret_bool HF.out.symm, HE.out⟩
  clear hrb
  go_enter Tryd.func50, Tryd.ntmps50
  go_wp2_with (rw [← Hwb.out]; go_at_call 34; refine (impl_between _ _ _ _).mono ?_; rintro e w1 ⟨he, rfl⟩; rw [HR.out] at he; subst he; clear hr)
  clear k0 k1
  have HHF : Hid (∀ X : Bool, doorsOk (h : Int) none ds = X → X = false → houseB h ds = false) := by
    unfold Hid; intro X h1 h2; unfold houseB formB; rw [h1, h2]; simp
  go_loopw [19] (fun i wr => ∃ k : Nat, k ≤ n ∧ i = .int .i64 k ∧ Hid (doorsOk (h : Int) none ds = doorsOk (h : Int) (prevD ds k) (ds.drop k)) ∧ Ext wb wr) (fun i _ => n - (intOf i).toNat)
  case atStart => exact ⟨0, Nat.zero_le _, rfl, rfl, Ext.refl _⟩
  case round =>
    obtain ⟨k, hk, rfl, hz, hb⟩ := hrel
    have r0 := (hb.cellAt w.heap.size hbl 0).trans Hk0.out
    have r1 := (hb.cellAt w.heap.size hbl 1).trans Hk1.out
    have hbr := hb.size
    have m0 : wr.heap.size ≠ w.heap.size := by omega
    have l0 : w.heap.size < wr.heap.size := by omega
    by_cases hlt : k < n
    · obtain ⟨b, off, d, rfl, hbs, hdk, q0, q1⟩ := GDoor.at_ (hxb.keep hb) hlt
      have hst := doorsOk_step (h : Int) hdk
      rw [← hz.out] at hst
      have HST := Lib.hid hst
      have HB := Lib.hid hb
      have HDK := Lib.hid hdk
      clear hst hb hdk
      cases hdo : doorOk (h : Int) d
      case false =>
        have HF : Hid (houseB h ds = false) := by unfold Hid; exact HHF.out _ HST.out (by rw [hdo]; simp)
        have hdn : ¬ (0 ≤ d.a ∧ d.a < d.b ∧ d.b < (h : Int)) := by
          intro hc
          have : doorOk (h : Int) d = true := by simp [doorOk, hc.1, hc.2.1, hc.2.2]
          rw [hdo] at this; cases this
        clear hdo
        by_cases e1 : d.a < 0
        · clear hdn
          go_wp2_with fail
          go_ret
          exact ⟨ret_bool HF.out.symm, HE.out.trans (HB.out.alloc _)⟩
        by_cases e2 : d.b ≤ d.a
        · clear hdn
          go_wp2_with fail
          go_ret
          exact ⟨ret_bool HF.out.symm, HE.out.trans (HB.out.alloc _)⟩
        have e3 : (h : Int) ≤ d.b := by omega
        clear hdn
        go_wp2_with fail
        go_ret
        exact ⟨ret_bool HF.out.symm, HE.out.trans (HB.out.alloc _)⟩
      have hdp : 0 ≤ d.a ∧ d.a < d.b ∧ d.b < (h : Int) := by
        simp only [doorOk, Bool.and_eq_true, decide_eq_true_eq] at hdo
        exact ⟨hdo.1.1, hdo.1.2, hdo.2⟩
      obtain ⟨e1, e2, e3⟩ := hdp
      have HDO := Lib.hid hdo
      clear hdo
      go_wp2_with fail
      obtain ⟨wd, hwd⟩ : ∃ wd, wd = wr.alloc (.cells #[.int .i64 d.a, .int .i64 d.b] 96) := ⟨_, rfl⟩
      rw [← hwd]
      obtain ⟨hEd, hsd, d0, d1⟩ := box2 wr _ _ _ wd hwd
      have s0 := (hEd.cellAt w.heap.size (by omega) 0).trans r0
      have s1 := (hEd.cellAt w.heap.size (by omega) 1).trans r1
      have HEd := Lib.hid (HB.out.trans hEd)
      clear hwd hsd r0 r1 q0 q1
      by_cases hk0 : k = 0
      · subst hk0
        clear hEd
        go_quiet (fail)
        go_wp2_with fail
        go_roundw
        case rel => exact ⟨1, by omega, rfl, by unfold Hid; rw [HST.out, HDO.out]; rfl, HEd.out.drewN _⟩
        case measure => simp [intOf]; omega
      · obtain ⟨b', off', p, hA, hbs', hpk, q0, q1⟩ := GDoor.at_ (hxb.keep HEd.out) (k := k - 1) (by omega)
        simp only [Option.some.injEq, Addr.mk.injEq, and_true] at hA
        obtain ⟨rfl, rfl⟩ := hA
        have hpv : prevD ds k = some p := by
          obtain ⟨m, rfl⟩ : ∃ m, k = m + 1 := ⟨k - 1, by omega⟩
          exact hpk
        have HST2 : Hid (doorsOk (h : Int) none ds = (dlt p d && doorsOk (h : Int) (prevD ds (k + 1)) (ds.drop (k + 1)))) := by
          unfold Hid; rw [HST.out, HDO.out, hpv]; simp
        have hkp : 0 < k := by omega
        clear hpk hpv hEd
        by_cases f1 : d.a < p.a
        · have HF : Hid (houseB h ds = false) := by
            unfold Hid; refine HHF.out _ HST2.out ?_
            have : dlt p d = false := by unfold dlt; rw [decide_eq_false (by omega), beq_eq_false_iff_ne.2 (by omega)]; rfl
            rw [this]; rfl
          go_quiet (fail)
          go_wp2_with fail
          go_ret
          exact ⟨ret_bool HF.out.symm, HE.out.trans (HEd.out.drewN _)⟩
        cases f2 : (p.a == d.a)
        · have f2' : p.a ≠ d.a := by simpa using f2
          have hd2 : Hid (dlt p d = true) := by unfold Hid dlt; rw [decide_eq_true (by omega)]; rfl
          clear f2'
          go_quiet (fail)
          go_wp2_with fail
          go_roundw
          case rel => exact ⟨k + 1, by omega, by go_num, by unfold Hid; rw [HST2.out, hd2.out]; rfl, HEd.out.drewN _⟩
          case measure => simp [intOf]; omega
        · have F2 := Lib.hid f2
          by_cases f3 : d.b ≤ p.b
          · have HF : Hid (houseB h ds = false) := by
              unfold Hid; refine HHF.out _ HST2.out ?_
              have : dlt p d = false := by unfold dlt; rw [decide_eq_false (by have := beq_iff_eq.1 F2.out; omega), decide_eq_false (by omega)]; simp
              rw [this]; rfl
            go_quiet (fail)
            go_wp2_with fail
            go_ret
            exact ⟨ret_bool HF.out.symm, HE.out.trans (HEd.out.drewN _)⟩
          · have hd2 : Hid (dlt p d = true) := by unfold Hid dlt; have hz9 : decide (p.b < d.b) = true := decide_eq_true (by omega); rw [F2.out, hz9]; simp
            go_quiet (fail)
            go_wp2_with fail
            go_roundw
            case rel => exact ⟨k + 1, by omega, by go_num, by unfold Hid; rw [HST2.out, hd2.out]; rfl, HEd.out.drewN _⟩
            case measure => simp [intOf]; omega
    · obtain rfl : k = n := by omega
      have hdok : doorsOk (h : Int) none ds = true := by rw [hz.out, drop_nil (xs := ds) (k := k) (by rw [hl.out]; exact Nat.le_refl _)]; cases prevD ds k <;> rfl
      have HNT := Lib.hid (doorsOk_spec hdok).2
      have HForm : Hid (houseB h ds = (List.range h).all fun k => reachB ds h 0 k) := by
        unfold Hid houseB formB
        rw [hdok, HR.out, hl.out, decide_eq_true hn12, Int.toNat_natCast]; rfl
      have HB := Lib.hid hb
      clear hdok hz
      have hnil := fun (w : World) (a : Option Addr) (n c : Nat) => Lib.run_eql_slice_nil (P := Tryd.prog) w 27 3 a n c 0 0 Tryd.underlying27
      go_wp2_with fail
      obtain ⟨wo, rfl⟩ : ∃ wo : World, wo = wr := ⟨_, rfl⟩
      clear r0 r1 hb
      go_loopw [5] (fun i wi => ∃ q : Nat, q ≤ h ∧ i = .int .i64 q ∧ Hid (∀ j, j < q → reachB ds h 0 j = true) ∧ Ext wb wi) (fun i _ => h - (intOf i).toNat)
      case atStart => exact ⟨0, Nat.zero_le _, rfl, by unfold Hid; intro j hj; omega, HB.out⟩
      case round =>
        obtain ⟨q, hq, rfl, hall, hbi⟩ := hrel
        have r0 := (hbi.cellAt w.heap.size hbl 0).trans Hk0.out
        have r1 := (hbi.cellAt w.heap.size hbl 1).trans Hk1.out
        by_cases hqh : q < h
        · have HC := Lib.hid (impl_wayIn h A k c ds 0 q wr (hxb.keep hbi) HNT h1 h7 hn12 (by omega) hqh)
          have HBi := Lib.hid hbi
          clear hbi
          go_wp2_with fail
          refine HC.out.mono ?_
          rintro e w5 (⟨hf, rfl, he5⟩ | ⟨hf, g, c', rfl, he5⟩)
          · have HF : Hid (houseB h ds = false) := by
              unfold Hid; rw [HForm.out, Bool.eq_false_iff]
              intro hc
              rw [List.all_eq_true] at hc
              have := hc q (by simpa using hqh)
              unfold reachB at this
              rw [decide_eq_true_eq] at this
              omega
            have HE5 := Lib.hid he5
            clear hf he5 HC
            go_wp2_with fail
            go_ret
            exact ⟨ret_bool HF.out.symm, HE.out.trans (HBi.out.trans HE5.out)⟩
          · have HF := Lib.hid hf
            have HE5 := Lib.hid he5
            clear hf he5 HC
            go_wp2_with fail
            go_roundw
            case rel => exact ⟨q + 1, by omega, by go_num, by unfold Hid; intro j hj; by_cases hjq : j = q; (subst hjq; unfold reachB; exact decide_eq_true HF.out); exact hall.out j (by omega), HBi.out.trans HE5.out⟩
            case measure => simp [intOf]; omega
        · obtain rfl : q = h := by omega
          have HF : Hid (houseB q ds = true) := by
            unfold Hid; rw [HForm.out, List.all_eq_true]
            intro j hj
            exact hall.out j (by simpa using hj)
          go_wp2_with fail
          go_ret
          exact ⟨ret_bool HF.out.symm, HE.out.trans hbi⟩
end Go.Proofs.YtfhibjehnoibeaaDoor
/- Contracts of l23Door and l23Form; no condition but what stands at each theorem. -/
namespace Go.Proofs.YtfhibjehnoibeaaDoor
set_option linter.unusedSimpArgs false
set_option linter.unusedVariables false
open Go.RowKit Go.Sort
set_option maxRecDepth 100000 in
set_option maxHeartbeats 2000000 in
theorem spec_l23Door (H : Int) (A : Option Addr) (n c : Nat) (ds : List GDoor) (x y : Int) (w : World) (hx : Rd w 2 A n (ds.flatMap GDoor.enc)) :
    Calls Tryd.prog 62 #[.agg #[.int .i64 H, .slice A n c], .int .i64 x, .int .i64 y] w fun e w' => e = .returned (.bool (doorB ds x y)) ∧ Ext w w' := by
  have hn := hx.2.1
  have hl := Lib.hid (hx.len GDoor.len (by omega))
  have hmin := @run_imin Tryd.prog
  have hmax := @run_imax Tryd.prog
  obtain ⟨wb, hwb⟩ : ∃ wb, wb = w.alloc (.cells #[.int .i64 H, .slice A n c] 26) := ⟨_, rfl⟩
  obtain ⟨hE, hsb, k0, k1⟩ := box2 w _ _ _ wb hwb
  have HE := Lib.hid hE
  have Hwb := Lib.hid hwb
  have hxb := hx.keep hE
  clear hwb hE hsb hx k0
  go_enter Tryd.func62, Tryd.ntmps62
  go_wp2_with fail
  rw [← Hwb.out]
  go_loop [7] (fun i => ∃ k : Nat, k ≤ n ∧ i = .int .i64 k ∧ Hid (doorB ds x y = (ds.drop k).any (isDoor x y))) (fun i => n - (intOf i).toNat)
  case atStart => exact ⟨0, Nat.zero_le _, rfl, rfl⟩
  case round =>
    obtain ⟨k, hk, rfl, hz⟩ := hrel
    by_cases hlt : k < n
    · obtain ⟨b, off, d, rfl, hbs, hdk, h0, h1⟩ := GDoor.at_ hxb hlt
      have HD := Lib.hid (drop_cons hdk)
      clear hdk
      cases ea : (d.a == imin x y)
      · have hdo : Hid (isDoor x y d = false) := by unfold Hid isDoor; rw [ea]; rfl
        go_wp2_with fail
        go_round
        case rel => exact ⟨k + 1, by omega, by go_num, by unfold Hid; rw [hz.out, HD.out, List.any_cons, hdo.out]; rfl⟩
        case measure => simp [intOf]; omega
      · cases eb : (d.b == imax x y)
        · have hdo : Hid (isDoor x y d = false) := by unfold Hid isDoor; rw [ea, eb]; rfl
          go_wp2_with fail
          go_round
          case rel => exact ⟨k + 1, by omega, by go_num, by unfold Hid; rw [hz.out, HD.out, List.any_cons, hdo.out]; rfl⟩
          case measure => simp [intOf]; omega
        · have hdo : Hid (isDoor x y d = true) := by unfold Hid isDoor; rw [ea, eb]; rfl
          go_wp2_with fail
          go_ret
          exact ⟨ret_bool (by rw [hz.out, HD.out, List.any_cons, hdo.out]; rfl), HE.out⟩
    · obtain rfl : k = n := by omega
      go_wp2_with fail
      go_ret
      exact ⟨ret_bool (by rw [hz.out, drop_nil (by rw [hl.out]; omega)]; rfl), HE.out⟩
set_option maxRecDepth 100000 in
set_option maxHeartbeats 4000000 in
theorem spec_l23Form (H : Int) (A : Option Addr) (n c : Nat) (ds : List GDoor) (w : World) (hx : Rd w 2 A n (ds.flatMap GDoor.enc)) :
    Calls Tryd.prog 101 #[.agg #[.int .i64 H, .slice A n c]] w fun e w' => e = .returned (.bool (formB H ds)) ∧ Ext w w' := by
  have hn := hx.2.1
  have hl := Lib.hid (hx.len GDoor.len (by omega))
  obtain ⟨wb, hwb⟩ : ∃ wb, wb = w.alloc (.cells #[.int .i64 H, .slice A n c] 26) := ⟨_, rfl⟩
  obtain ⟨hE, hsb, k0, k1⟩ := box2 w _ _ _ wb hwb
  have HE := Lib.hid hE
  have Hwb := Lib.hid hwb
  have Hk0 := Lib.hid k0
  have Hk1 := Lib.hid k1
  have hxb := hx.keep hE
  have hbl : w.heap.size < wb.heap.size := by omega
  clear hwb hE k0 k1 hsb hx
  have HHF : Hid (∀ X : Bool, doorsOk H none ds = X → X = false → formB H ds = false) := by
    unfold Hid; intro X h1 h2; unfold formB; rw [h1, h2]; simp
  go_enter Tryd.func101, Tryd.ntmps101
  go_wp2_with fail
  rw [← Hwb.out]
  go_loopw [3] (fun i wr => ∃ k : Nat, k ≤ n ∧ i = .int .i64 k ∧ Hid (doorsOk H none ds = doorsOk H (prevD ds k) (ds.drop k)) ∧ Ext wb wr) (fun i _ => n - (intOf i).toNat)
  case atStart => exact ⟨0, Nat.zero_le _, rfl, rfl, Ext.refl _⟩
  case round =>
    obtain ⟨k, hk, rfl, hz, hb⟩ := hrel
    have r0 := (hb.cellAt w.heap.size hbl 0).trans Hk0.out
    have r1 := (hb.cellAt w.heap.size hbl 1).trans Hk1.out
    have hbr := hb.size
    have m0 : wr.heap.size ≠ w.heap.size := by omega
    have l0 : w.heap.size < wr.heap.size := by omega
    by_cases hlt : k < n
    · obtain ⟨b, off, d, rfl, hbs, hdk, q0, q1⟩ := GDoor.at_ (hxb.keep hb) hlt
      have hst := doorsOk_step H hdk
      rw [← hz.out] at hst
      have HST := Lib.hid hst
      have HB := Lib.hid hb
      have HDK := Lib.hid hdk
      clear hst hb hdk
      cases hdo : doorOk H d
      case false =>
        have HF : Hid (formB H ds = false) := by unfold Hid; exact HHF.out _ HST.out (by rw [hdo]; simp)
        have hdn : ¬ (0 ≤ d.a ∧ d.a < d.b ∧ d.b < H) := by
          intro hc
          have : doorOk H d = true := by simp [doorOk, hc.1, hc.2.1, hc.2.2]
          rw [hdo] at this; cases this
        clear hdo
        by_cases e1 : d.a < 0
        · clear hdn
          go_wp2_with fail
          go_ret
          exact ⟨ret_bool HF.out.symm, HE.out.trans (HB.out.alloc _)⟩
        by_cases e2 : d.b ≤ d.a
        · clear hdn
          go_wp2_with fail
          go_ret
          exact ⟨ret_bool HF.out.symm, HE.out.trans (HB.out.alloc _)⟩
        have e3 : H ≤ d.b := by omega
        clear hdn
        go_wp2_with fail
        go_ret
        exact ⟨ret_bool HF.out.symm, HE.out.trans (HB.out.alloc _)⟩
      have hdp : 0 ≤ d.a ∧ d.a < d.b ∧ d.b < H := by
        simp only [doorOk, Bool.and_eq_true, decide_eq_true_eq] at hdo
        exact ⟨hdo.1.1, hdo.1.2, hdo.2⟩
      obtain ⟨e1, e2, e3⟩ := hdp
      have HDO := Lib.hid hdo
      clear hdo
      go_wp2_with fail
      obtain ⟨wd, hwd⟩ : ∃ wd, wd = wr.alloc (.cells #[.int .i64 d.a, .int .i64 d.b] 96) := ⟨_, rfl⟩
      rw [← hwd]
      obtain ⟨hEd, hsd, d0, d1⟩ := box2 wr _ _ _ wd hwd
      have s0 := (hEd.cellAt w.heap.size (by omega) 0).trans r0
      have s1 := (hEd.cellAt w.heap.size (by omega) 1).trans r1
      have HEd := Lib.hid (HB.out.trans hEd)
      clear hwd hsd r0 r1 q0 q1
      by_cases hk0 : k = 0
      · subst hk0
        clear hEd
        go_quiet (fail)
        go_wp2_with fail
        go_roundw
        case rel => exact ⟨1, by omega, rfl, by unfold Hid; rw [HST.out, HDO.out]; rfl, HEd.out.drewN _⟩
        case measure => simp [intOf]; omega
      · obtain ⟨b', off', p, hA, hbs', hpk, q0, q1⟩ := GDoor.at_ (hxb.keep HEd.out) (k := k - 1) (by omega)
        simp only [Option.some.injEq, Addr.mk.injEq, and_true] at hA
        obtain ⟨rfl, rfl⟩ := hA
        have hpv : prevD ds k = some p := by
          obtain ⟨m, rfl⟩ : ∃ m, k = m + 1 := ⟨k - 1, by omega⟩
          exact hpk
        have HST2 : Hid (doorsOk H none ds = (dlt p d && doorsOk H (prevD ds (k + 1)) (ds.drop (k + 1)))) := by
          unfold Hid; rw [HST.out, HDO.out, hpv]; simp
        have hkp : 0 < k := by omega
        clear hpk hpv hEd
        by_cases f1 : d.a < p.a
        · have HF : Hid (formB H ds = false) := by
            unfold Hid; refine HHF.out _ HST2.out ?_
            have : dlt p d = false := by unfold dlt; rw [decide_eq_false (by omega), beq_eq_false_iff_ne.2 (by omega)]; rfl
            rw [this]; rfl
          go_quiet (fail)
          go_wp2_with fail
          go_ret
          exact ⟨ret_bool HF.out.symm, HE.out.trans (HEd.out.drewN _)⟩
        cases f2 : (d.a == p.a)
        · have f2' : d.a ≠ p.a := by simpa using f2
          have hd2 : Hid (dlt p d = true) := by unfold Hid dlt; rw [decide_eq_true (by omega)]; rfl
          clear f2'
          go_quiet (fail)
          go_wp2_with fail
          go_roundw
          case rel => exact ⟨k + 1, by omega, by go_num, by unfold Hid; rw [HST2.out, hd2.out]; rfl, HEd.out.drewN _⟩
          case measure => simp [intOf]; omega
        · have F2 := Lib.hid f2
          by_cases f3 : d.b ≤ p.b
          · have HF : Hid (formB H ds = false) := by
              unfold Hid; refine HHF.out _ HST2.out ?_
              have : dlt p d = false := by unfold dlt; rw [decide_eq_false (by have := beq_iff_eq.1 F2.out; omega), decide_eq_false (by omega)]; simp
              rw [this]; rfl
            go_quiet (fail)
            go_wp2_with fail
            go_ret
            exact ⟨ret_bool HF.out.symm, HE.out.trans (HEd.out.drewN _)⟩
          · have hd2 : Hid (dlt p d = true) := by unfold Hid dlt; have hz9 : decide (p.b < d.b) = true := decide_eq_true (by omega); rw [show (p.a == d.a) = true by rw [beq_iff_eq]; exact (beq_iff_eq.1 F2.out).symm, hz9]; simp
            go_quiet (fail)
            go_wp2_with fail
            go_roundw
            case rel => exact ⟨k + 1, by omega, by go_num, by unfold Hid; rw [HST2.out, hd2.out]; rfl, HEd.out.drewN _⟩
            case measure => simp [intOf]; omega
    · obtain rfl : k = n := by omega
      have hdok : doorsOk H none ds = true := by rw [hz.out, drop_nil (xs := ds) (k := k) (by rw [hl.out]; exact Nat.le_refl _)]; cases prevD ds k <;> rfl
      have HForm : Hid (formB H ds = (inB H 1 7 && decide (k ≤ 12))) := by
        unfold Hid formB; rw [hdok, hl.out]; simp
      clear hdok hz
      cases hr : inB H 1 7
      · go_wp2_with (go_at_call 72; refine (spec_l01In _ _ _ _).mono ?_; rintro e w1 ⟨he, rfl⟩; rw [hr] at he; subst he)
        go_ret
        exact ⟨ret_bool (by rw [HForm.out, hr]; rfl), HE.out.trans hb⟩
      · go_wp2_with (go_at_call 72; refine (spec_l01In _ _ _ _).mono ?_; rintro e w1 ⟨he, rfl⟩; rw [hr] at he; subst he)
        go_ret
        exact ⟨ret_bool (by rw [HForm.out, hr, Bool.eq_iff_iff]; simp; try omega), HE.out.trans hb⟩
end Go.Proofs.YtfhibjehnoibeaaDoor
/- Contract of l23Distances; no condition but what stands at each theorem. -/
namespace Go.Proofs.YtfhibjehnoibeaaDoor
set_option linter.unusedSimpArgs false
set_option linter.unusedVariables false
open Go.RowKit Go.Sort
theorem filled_set {h k : Nat} (hk : k < h) : (filled h k).set k (-1) = filled h (k + 1) := by
  obtain ⟨m, hm⟩ : ∃ m, h - k = m + 1 := ⟨h - k - 1, by omega⟩
  have h2 : h - (k + 1) = m := by omega
  unfold filled
  rw [hm, h2, List.set_append_right _ _ (by simp), List.replicate_succ, List.length_replicate, Nat.sub_self, List.set_cons_zero, List.replicate_succ', List.append_assoc]
  rfl
set_option maxRecDepth 100000 in
set_option maxHeartbeats 4000000 in
theorem spec_l23Distances (h : Nat) (A : Option Addr) (n c : Nat) (ds : List GDoor) (a : Nat) (w : World) (hx : Rd w 2 A n (ds.flatMap GDoor.enc)) (h1 : 1 ≤ h) (h7 : h ≤ 7) (ha : a < h) :
    Calls Tryd.prog 102 #[.agg #[.int .i64 h, .slice A n c], .int .i64 a] w fun e w' => ∃ g, e = .returned (.slice (some ⟨g, 0, none⟩) h h) ∧ Ext w w' ∧ w.heap.size ≤ g ∧ IBlk w' g 3 (bfsAll ds h a).d := by
  obtain ⟨wb, hwb⟩ : ∃ wb, wb = w.alloc (.cells #[.int .i64 (h : Int), .slice A n c] 26) := ⟨_, rfl⟩
  have H := hbox_of hwb hx
  have HE : Hid (Ext w wb) := by unfold Hid; rw [hwb]; exact (Ext.refl w).alloc _
  have hsb : wb.heap.size = w.heap.size + 1 := by rw [hwb]; simp
  have Hwb := Lib.hid hwb
  obtain ⟨cl, hcl⟩ : ∃ cl, cl = (filled h 0).map (Value.int .i64) := ⟨_, rfl⟩
  have hmk := mk_int h (by omega)
  rw [← filled_zero, ← hcl] at hmk
  have HI0 : Hid (IBlk (wb.alloc (.cells cl.toArray 3)) wb.heap.size 3 (filled h 0)) := by unfold Hid; rw [hcl]; exact Blk.new _ _ _
  obtain ⟨gD, hgD⟩ : ∃ gD, gD = wb.heap.size := ⟨_, rfl⟩
  have hgDw : w.heap.size < gD := by omega
  have HE0 := Lib.hid ((Ext.refl wb).alloc (.cells cl.toArray 3))
  have k0 := H.k0
  have HH := Lib.hid H
  have HSb := Lib.hid hsb
  have HgD := Lib.hid hgD
  rw [← hgD] at HI0
  clear hwb hcl H hsb hx hgD
  go_enter Tryd.func102, Tryd.ntmps102
  go_wp2_with fail
  rw [← Hwb.out, show w.heap.size + 1 = gD by rw [HgD.out, HSb.out]]
  clear hmk
  have hgDb : wb.heap.size ≤ gD := by rw [HgD.out]; exact Nat.le_refl _
  have hwb1 : w.heap.size < wb.heap.size := by rw [HSb.out]; omega
  go_loopw [6] (fun i wr => ∃ k : Nat, k ≤ h ∧ i = .int .i64 k ∧ IBlk wr gD 3 (filled h k) ∧ Ext wb wr) (fun i _ => h - (intOf i).toNat)
  case atStart => exact ⟨0, Nat.zero_le _, rfl, HI0.out, HE0.out⟩
  case round =>
    obtain ⟨k, hk, rfl, hI, hb⟩ := hrel
    have r0 := (hb.cellAt w.heap.size hwb1 0).trans k0
    have hgl := hI.lt
    have m0 : gD ≠ w.heap.size := by omega
    by_cases hlt : k < h
    · have cF := hI.cell (i := k) (by rw [filled_len hk]; exact hlt)
      have fF := hI.free k
      have hset : (filled h k).set k (-1) = filled h (k + 1) := filled_set hlt
      have HI' : Hid (IBlk (wr.setCell ⟨gD, k, none⟩ (.int .i64 (-1))) gD 3 (filled h (k + 1))) := by unfold Hid; rw [← hset]; exact hI.set k (-1)
      have HB' : Hid (Ext wb (wr.setCell ⟨gD, k, none⟩ (.int .i64 (-1)))) := hb.setCell hgDb _
      obtain ⟨vv, hvv⟩ : ∃ vv, vv = (filled h k).getD k 0 := ⟨_, rfl⟩
      rw [← hvv] at cF
      clear hset hI hb hvv
      go_wp2_with fail
      go_roundw
      case rel => exact ⟨k + 1, by omega, by go_num, HI'.out, HB'.out⟩
      case measure => simp [intOf]; omega
    · obtain rfl : k = h := by omega
      rw [filled_all] at hI
      have cF := hI.cell (i := a) (by simpa using ha)
      have fF := hI.free a
      obtain ⟨vv, hvv⟩ : ∃ vv, vv = (List.replicate k (-1 : Int)).getD a 0 := ⟨_, rfl⟩
      rw [← hvv] at cF
      have HI1 := Lib.hid hI
      have HB1 := Lib.hid hb
      clear hvv hI hb
      go_wp2_with fail
      obtain ⟨w3, hw3⟩ : ∃ w3, w3 = wr.setCell ⟨gD, a, none⟩ (.int .i64 0) := ⟨_, rfl⟩
      rw [← hw3]
      have hs3 : wr.heap.size = w3.heap.size := by rw [hw3]; simp [World.setCell]
      rw [hs3]
      have hI3 : IBlk w3 gD 3 (bs0 k a).d := by rw [hw3]; exact HI1.out.set a 0
      have hE3 : Ext wb w3 := by rw [hw3]; exact HB1.out.setCell hgDb _
      have hg3 := hI3.lt
      have HQ := Lib.hid (QRow.one w3 wb.heap.size [gD] 3 (a : Int) hE3.size (by intro x hx; simp at hx; omega))
      have HI4 := Lib.hid (hI3.keep ((Ext.refl w3).alloc (.cells #[.int .i64 (a : Int)] 3)))
      have HE4 := Lib.hid (hE3.alloc (.cells #[.int .i64 (a : Int)] 3))
      have HBI := Lib.hid (binv0 ha)
      clear hw3 hs3 hI3 hE3 cF fF r0
      go_loopw [7, 8] (fun qv kv wi => ∃ (i : Nat) (S : BS), i ≤ S.q.length ∧ kv = .int .i64 i ∧ QRow wi wb.heap.size [gD] 3 qv S.q ∧ IBlk wi gD 3 S.d ∧ Hid (BInv a k S) ∧ Hid (bfsAll ds k a = bfs ds k (k - i) i S) ∧ Ext wb wi) (fun _ kv _ => k - (intOf kv).toNat)
      case atStart => exact ⟨0, bs0 k a, Nat.zero_le _, rfl, HQ.out, HI4.out, HBI.out, rfl, HE4.out⟩
      case round =>
        obtain ⟨wo, rfl⟩ : ∃ wo : World, wo = wr := ⟨_, rfl⟩
        obtain ⟨i, S, hi, rfl, hq, hI, hbi, hz, hb'⟩ := hrel
        have hqh := hbi.out.qle
        obtain ⟨g, off, cap, rfl, hbg, hng, hgl', hcell⟩ := hq.form
        by_cases hiq : i < S.q.length
        · have hSi : S.q.getD i 0 = S.q[i] := by simp [hiq]
          obtain ⟨p, hp, hxp, hfp⟩ := hbi.out.qin (S.q.getD i 0) (by rw [hSi]; exact List.getElem_mem hiq)
          have r0 := (hb'.cellAt w.heap.size hwb1 0).trans k0
          have HQo := Lib.hid hq
          have HIo := Lib.hid hI
          have HEo := Lib.hid hb'
          have Hxp := Lib.hid hxp
          clear hSi hxp hq hI hb' hcell r0
          go_wp2_with fail
          go_loopw [7, 9] (fun qv jv wi => ∃ (j : Nat) (S' : BS), j ≤ k ∧ jv = .int .i64 j ∧ QRow wi wb.heap.size [gD] 3 qv S'.q ∧ IBlk wi gD 3 S'.d ∧ Hid (BInv a k S') ∧ Hid (S' = (List.range j).foldl (visB ds (p : Int)) S) ∧ Hid (S'.q.getD i 0 = (p : Int)) ∧ i < S'.q.length ∧ Hid (0 ≤ S'.f.getD p 0) ∧ Ext wb wi) (fun _ jv _ => k - (intOf jv).toNat)
          case atStart => exact ⟨0, S, Nat.zero_le _, rfl, HQo.out, HIo.out, hbi.out, rfl, Hxp.out, hiq, hfp, HEo.out⟩
          case round =>
            obtain ⟨j, S', hj, rfl, hq', hI', hbi', hS', hxp', hlt', hfp', hE'⟩ := hrel
            have r0 := (hE'.cellAt w.heap.size hwb1 0).trans k0
            have r1 := (hE'.cellAt w.heap.size hwb1 1).trans HH.out.k1
            have hwr := hE'.size
            by_cases hjl : j < k
            · have hl' : S'.d.length = k := hbi'.out.ld
              have cD := hI'.cell (i := j) (by rw [hl']; exact hjl)
              have fD := hI'.free j
              have cP := hI'.cell (i := p) (by rw [hl']; exact hp)
              obtain ⟨g', off', cap', rfl, hbg', hng', hgl', hcell'⟩ := hq'.form
              have cQ := hcell' i hlt'
              rw [hxp'.out] at cQ
              obtain ⟨dv, hdv⟩ : ∃ dv, dv = S'.d.getD j 0 := ⟨_, rfl⟩
              obtain ⟨dp, hdp⟩ : ∃ dp, dp = S'.d.getD p 0 := ⟨_, rfl⟩
              rw [← hdv] at cD
              rw [← hdp] at cP
              have hdpb : 0 ≤ dp ∧ dp < 8 := by
                have h1 := hbi'.out.iff_ p hp
                have h2 := hbi'.out.dlt_ p hp hfp'.out
                have h3 := hbi'.out.qle
                have h4 := hfp'.out
                omega
              obtain ⟨hdp0, hdp8⟩ := hdpb
              have hgDl := hI'.lt
              have hqk : S'.q.length ≤ 7 := by have := hbi'.out.qle; omega
              have e0 := cell_regrown cD
              have e1 := cell_regrown cQ
              have e2 := cell_regrown r0
              have e3 := cell_regrown r1
              have cC := fun (d : Nat) (os : Array Obj) => spec_l23Door (k : Int) A n c ds (j : Int) (p : Int) _ ((HH.out.rd.keep hE').keep (ext_rg wr d os))
              have hsn : Hid ((List.range (j + 1)).foldl (visB ds (p : Int)) S = visB ds (p : Int) S' j) := by
                unfold Hid; rw [List.range_succ, List.foldl_append, ← hS'.out]; rfl
              have hbv := hbi'.out.vis hp hfp'.out hjl
              have hiffj := Lib.hid (hbi'.out.iff_ j hjl)
              have HDV := Lib.hid hdv
              have HDPd := Lib.hid hdp
              have HQ' := Lib.hid hq'
              have HI' := Lib.hid hI'
              have HE' := Lib.hid hE'
              have HBV := Lib.hid hbv
              have hng1 := Lib.hid (hng' gD (by simp))
              have hcom : Hid (doorB ds (p : Int) j = doorB ds j (p : Int)) := doorB_comm _ _ _
              clear hdv hdp hq' hI' hE' hbv hl' hcell' hng'
              by_cases hneg : dv < 0
              case neg =>
                have hvis : Hid (visB ds (p : Int) S' j = S') := by
                  unfold Hid visB vis
                  have : ¬ S'.f.getD j 0 < 0 := by rw [hiffj.out, ← HDV.out]; exact hneg
                  rw [if_neg this]; split <;> rfl
                have hneg2 : decide (dv < 0) = false := decide_eq_false hneg
                clear cC e0 e1 e2 e3
                go_wp2_with fail
                go_quiet (fail)
                go_wp2_with fail
                go_roundw
                case rel => exact ⟨j + 1, S', by omega, by go_num, HQ'.out.keep ((Ext.refl wr).drewN _), HI'.out.keep ((Ext.refl wr).drewN _), hbi'.out, by unfold Hid; rw [hsn.out, hvis.out], hxp'.out, hlt', hfp'.out, HE'.out.drewN _⟩
                case measure => simp [intOf]; omega
              cases hdo : doorB ds (j : Int) (p : Int)
              case false =>
                have hvis : Hid (visB ds (p : Int) S' j = S') := by unfold Hid visB; rw [hcom.out, hdo]; rfl
                rw [hdo] at cC
                clear hdo
                go_wp2_with fail
                (refine wp_region_ext (by kernel_rfl) (by kernel_rfl) ?_; (repeat (go_big_quiet_step (first | (go_at_call 62; with_reducible exact Calls.rg (cC _ _))))); refine wpQuiet_nil ?_)
                intro w6 hb6
                go_wp2_with fail
                go_roundw
                case rel => exact ⟨j + 1, S', by omega, by go_num, HQ'.out.keep hb6, HI'.out.keep hb6, hbi'.out, by unfold Hid; rw [hsn.out, hvis.out], hxp'.out, hlt', hfp'.out, HE'.out.trans hb6⟩
                case measure => simp [intOf]; omega
              have hvis : Hid (visB ds (p : Int) S' j = ⟨S'.q ++ [(j : Int)], S'.f.set j (p : Int), S'.d.set j (dp + 1)⟩) := by
                unfold Hid visB vis
                rw [hcom.out, hdo, if_pos rfl, if_pos (by rw [hiffj.out, ← HDV.out]; exact hneg), Int.toNat_natCast, ← HDPd.out]
              have hvis2 : Hid (visB ds (p : Int) S' j = vis (p : Int) S' j) := by unfold Hid visB; rw [hcom.out, hdo]; rfl
              rw [hdo] at cC
              clear hdo
              go_wp2_with fail
              (refine wp_region_ext (by kernel_rfl) (by kernel_rfl) ?_; (repeat (go_big_quiet_step (first | (go_at_call 62; with_reducible exact Calls.rg (cC _ _))))); refine wpQuiet_nil ?_)
              intro w6 hb6
              clear e0 e1 e2 e3 cC r0 r1
              have cD6 := (hb6.cellAt gD hgDl j).trans cD
              have cP6 := (hb6.cellAt gD hgDl p).trans cP
              have cQ6 := (hb6.cellAt g' hgl' (off' + i)).trans cQ
              have hI6 := HI'.out.keep hb6
              have fD6 := hI6.free j
              have HI6 := Lib.hid hI6
              have HQ6 := Lib.hid (HQ'.out.keep hb6)
              have HE6 := Lib.hid (HE'.out.trans hb6)
              have hsz6 := hb6.size
              have HB6 := Lib.hid hb6
              clear hI6 hb6 cD cP cQ fD
              go_wp2_with (at_builtin; refine (fun h : Hid _ => h.out) ?_)
              unfold Hid
              obtain ⟨wj, hwj⟩ : ∃ wj, wj = w6.setCell ⟨gD, j, none⟩ (.int .i64 (dp + 1)) := ⟨_, rfl⟩
              rw [← hwj]
              have hszj : wj.heap.size = w6.heap.size := by rw [hwj]; simp [World.setCell]
              have hqj : QRow wj wb.heap.size [gD] 3 (.slice (some ⟨g', off', none⟩) S'.q.length cap') S'.q := by rw [hwj]; exact HQ6.out.far (by simp) j _
              have hij : IBlk wj gD 3 (S'.d.set j (dp + 1)) := by rw [hwj]; exact HI6.out.set j (dp + 1)
              have hEj : Ext wb wj := by rw [hwj]; exact HE6.out.setCell hgDb _
              refine QRow.append ei_I rfl _ _ rfl wb.heap.size [gD] wj _ _ S'.q (by rfl) hqj (j : Int) (by rw [hszj]; rfl) (by omega) (by omega) (by intro x hx; simp at hx; omega) ?_
              intro v7 w7 hq7 he7 hb7
              have HE7 := Lib.hid (he7 wb hEj (Nat.le_refl _))
              have hi7 : IBlk w7 gD 3 (S'.d.set j (dp + 1)) := hb7 gD (by simp) _ _ hij
              have HI7 := Lib.hid hi7
              have HQ7 := Lib.hid hq7
              have hq0 : (S'.q ++ [(j : Int)]).getD i 0 = (p : Int) ∧ i < (S'.q ++ [(j : Int)]).length := by
                rw [← hxp'.out]
                refine ⟨by simp [List.getElem?_append_left hlt'], by simp; omega⟩
              have hfp7 := vis_mono (x := (p : Int)) (k := j) (by omega) hfp'.out
              have HFP7 := Lib.hid hfp7
              have HQ0 := Lib.hid hq0
              clear hwj hszj hqj hij hEj hq7 he7 hb7 hi7 hq0 hfp7
              go_wp2_with fail
              go_roundw
              case rel => exact ⟨j + 1, visB ds (p : Int) S' j, by omega, by go_num, by rw [hvis.out]; exact HQ7.out, by rw [hvis.out]; exact HI7.out, by unfold Hid; rw [hvis2.out]; exact HBV.out, by unfold Hid; rw [hsn.out], by unfold Hid; rw [hvis.out]; exact HQ0.out.1, by rw [hvis.out]; exact HQ0.out.2, by unfold Hid; rw [hvis2.out]; exact HFP7.out, HE7.out⟩
              case measure => simp [intOf]; omega
            · obtain rfl : j = k := by omega
              have HE' := Lib.hid hE'
              have HI' := Lib.hid hI'
              have HQ' := Lib.hid hq'
              have hrnd : Hid (bfs ds j (j - i) i S = bfs ds j (j - (i + 1)) (i + 1) S') := by
                unfold Hid
                have e : j - i = (j - (i + 1)) + 1 := by omega
                rw [e, bfs, if_pos hiq, rnd, Hxp.out, ← hS'.out]
              clear hE' hI' hq'
              go_wp2_with fail
              go_roundw
              case rel => exact ⟨i + 1, S', hlt', by go_num, HQ'.out, HI'.out, hbi'.out, by unfold Hid; rw [hz.out, hrnd.out], HE'.out⟩
              case measure => simp [intOf]; omega
        · have hSe : bfsAll ds k a = S := by
            rw [hz.out]
            cases k - i with
            | zero => rfl
            | succ m => rw [bfs, if_neg hiq]
          have HSe := Lib.hid hSe
          have HIo := Lib.hid hI
          have HEo := Lib.hid hb'
          have hiq2 : i = S.q.length := by omega
          clear hSe hI hb' hq hcell
          go_wp2_with fail
          go_ret
          exact ⟨gD, rfl, HE.out.trans HEo.out, by omega, by rw [HSe.out]; exact HIo.out⟩
end Go.Proofs.YtfhibjehnoibeaaDoor
/- Contracts of the reference's HouseOk, of RingOk, PlacesOk and what they call; no condition but what stands at each theorem. -/
namespace Go.Proofs.YtfhibjehnoibeaaDoor
set_option linter.unusedSimpArgs false
set_option linter.unusedVariables false
open Go.RowKit Go.Sort
theorem houseB_spec {H : Int} {ds : List GDoor} (hB : houseB H ds = true) : 1 ≤ H ∧ H ≤ 7 ∧ ds.length ≤ 12 ∧ NoTwice ds ∧ (∀ d ∈ ds, doorOk H d = true) ∧ ∀ k, k < H.toNat → reachB ds H.toNat 0 k = true := by
  simp only [houseB, formB, Bool.and_eq_true, decide_eq_true_eq, List.all_eq_true] at hB
  obtain ⟨⟨⟨h1, h2⟩, h3⟩, h4⟩ := hB
  have h5 : 1 ≤ H ∧ H ≤ 7 := by simpa [inB] using h1
  exact ⟨h5.1, h5.2, h2, (doorsOk_spec h3).2, (doorsOk_spec h3).1, fun k hk => h4 k (by simpa using hk)⟩
set_option maxRecDepth 100000 in
set_option maxHeartbeats 2000000 in
theorem spec_HouseOk (H : Int) (A : Option Addr) (n c : Nat) (ds : List GDoor) (w : World) (hx : Rd w 2 A n (ds.flatMap GDoor.enc)) :
    Calls Tryd.prog 78 #[.agg #[.int .i64 H, .slice A n c]] w fun e w' => e = .returned (.bool (houseB H ds)) ∧ Ext w w' := by
  have hn := hx.2.1
  have hl := Lib.hid (hx.len GDoor.len (by omega))
  obtain ⟨wb, hwb⟩ : ∃ wb, wb = w.alloc (.cells #[.int .i64 H, .slice A n c] 26) := ⟨_, rfl⟩
  obtain ⟨hE, hsb, k0, k1⟩ := box2 w _ _ _ wb hwb
  have HE := Lib.hid hE
  have Hwb := Lib.hid hwb
  have Hk0 := Lib.hid k0
  have Hk1 := Lib.hid k1
  have hxb := hx.keep hE
  have hbl : w.heap.size < wb.heap.size := by omega
  have HC := Lib.hid (spec_l23Form H A n c ds wb hxb)
  cases hf : formB H ds
  case false =>
    rw [hf] at HC
    have HF : Hid (houseB H ds = false) := by unfold Hid houseB; rw [hf]; rfl
    clear hE hsb hx hf k0 k1
    go_enter Tryd.func78, Tryd.ntmps78
    go_wp2_with fail
    rw [← Hwb.out]
    refine HC.out.mono ?_
    rintro e w1 ⟨rfl, he1⟩
    go_wp2_with fail
    go_ret
    exact ⟨ret_bool HF.out.symm, HE.out.trans he1⟩
  have hfs := hf
  simp only [formB, Bool.and_eq_true, decide_eq_true_eq] at hfs
  obtain ⟨⟨hr, hn12⟩, hdok⟩ := hfs
  have hrb : 1 ≤ H ∧ H ≤ 7 := by simpa [inB] using hr
  obtain ⟨h, rfl⟩ := Int.eq_ofNat_of_zero_le (show 0 ≤ H by omega)
  have h1 : 1 ≤ h := by omega
  have h7 : h ≤ 7 := by omega
  rw [hf] at HC
  have HForm : Hid (houseB h ds = (List.range h).all fun k => reachB ds h 0 k) := by unfold Hid houseB; rw [hf, Int.toNat_natCast]; rfl
  clear hrb hr hn12 hdok hf hE hsb hx k0 k1 hwb
  have k0 := Hk0.out
  have k1 := Hk1.out
  go_enter Tryd.func78, Tryd.ntmps78
  go_wp2_with fail
  rw [← Hwb.out]
  refine HC.out.mono ?_
  rintro e w1 ⟨rfl, he1⟩
  have r0 := (he1.cellAt w.heap.size hbl 0).trans k0
  have r1 := (he1.cellAt w.heap.size hbl 1).trans k1
  have HD := Lib.hid (spec_l23Distances h A n c ds 0 w1 (hxb.keep he1) h1 h7 (by omega))
  have HE1 := Lib.hid he1
  clear he1 k0 k1 HC
  go_wp2_with fail
  refine HD.out.mono ?_
  rintro e w2 ⟨gD, rfl, he2, hgD, hI2⟩
  have hE2 := HE1.out.trans he2
  have r0 := (hE2.cellAt w.heap.size hbl 0).trans Hk0.out
  have hinv := BInv.all ds (show 0 < h by omega)
  have hdl : Hid ((bfsAll ds h 0).d.length = h) := hinv.ld
  have hiff := Lib.hid hinv.iff_
  obtain ⟨S, hS⟩ : ∃ S, S = bfsAll ds h 0 := ⟨_, rfl⟩
  rw [← hS] at hI2 hdl hiff
  have HS := Lib.hid hS
  have HE2 := Lib.hid hE2
  clear he2 hE2 hgD HD hinv hS
  go_wp2_with fail
  go_loop [4] (fun i => ∃ q : Nat, q ≤ h ∧ i = .int .i64 q ∧ Hid (∀ j, j < q → reachB ds h 0 j = true)) (fun i => h - (intOf i).toNat)
  case atStart => exact ⟨0, Nat.zero_le _, rfl, by unfold Hid; intro j hj; omega⟩
  case round =>
    obtain ⟨q, hq, rfl, hall⟩ := hrel
    by_cases hqh : q < h
    · have cD := hI2.cell (i := q) (by rw [hdl.out]; exact hqh)
      obtain ⟨dv, hdv⟩ : ∃ dv, dv = S.d.getD q 0 := ⟨_, rfl⟩
      rw [← hdv] at cD
      have HDV := Lib.hid hdv
      clear hdv
      by_cases hneg : dv < 0
      · have HF : Hid (houseB h ds = false) := by
          unfold Hid; rw [HForm.out, Bool.eq_false_iff]
          intro hc
          rw [List.all_eq_true] at hc
          have := hc q (by simpa using hqh)
          unfold reachB at this
          rw [decide_eq_true_eq, ← HS.out] at this
          have h3 := hiff.out q hqh
          rw [HDV.out] at hneg
          omega
        go_wp2_with fail
        go_ret
        exact ⟨ret_bool HF.out.symm, HE.out.trans HE2.out⟩
      · have hre : Hid (reachB ds h 0 q = true) := by
          unfold Hid reachB
          rw [decide_eq_true_eq, ← HS.out]
          have h3 := hiff.out q hqh
          rw [HDV.out] at hneg
          omega
        go_wp2_with fail
        go_round
        case rel => exact ⟨q + 1, by omega, by go_num, by unfold Hid; intro j hj; by_cases hjq : j = q; (subst hjq; exact hre.out); exact hall.out j (by omega)⟩
        case measure => simp [intOf]; omega
    · obtain rfl : q = h := by omega
      have HF : Hid (houseB q ds = true) := by
        unfold Hid; rw [HForm.out, List.all_eq_true]
        intro j hj
        exact hall.out j (by simpa using hj)
      go_wp2_with fail
      go_ret
      exact ⟨ret_bool HF.out.symm, HE.out.trans HE2.out⟩
def ringB (H : Int) (ds : List GDoor) (ring : Int) : Bool := houseB H ds && inB ring 0 (((2 ^ ds.length : Nat) : Int) - 1)
end Go.Proofs.YtfhibjehnoibeaaDoor
/- Contracts of isHall, hallsOk, l31Halls and PlacesOk; no condition but what stands at each theorem. -/
namespace Go.Proofs.YtfhibjehnoibeaaDoor
set_option linter.unusedSimpArgs false
set_option linter.unusedVariables false
open Go.RowKit Go.Sort
def hallB (H k : Int) : Bool := inB k 0 (wrap64 (H - 1))
def hallsB (H : Int) (ds : List GDoor) (xs : List Int) : Bool := xs.all (hallB H) && houseB H ds
def placesB (H : Int) (ds : List GDoor) (xs : List Int) : Bool := decide (xs.length ≤ 6) && hallsB H ds xs
theorem hallsB_no {H : Int} {ds : List GDoor} {xs : List Int} {k : Nat} {x : Int} (hz : Hid (hallsB H ds xs = hallsB H ds (xs.drop k))) (hxk : Hid (xs[k]? = some x)) (h : Hid (hallB H x = false)) : Hid (hallsB H ds xs = false) := by
  unfold Hid at *
  rw [hz, drop_cons hxk]
  unfold hallsB
  rw [List.all_cons, h]
  rfl
theorem hallsB_step {H : Int} {ds : List GDoor} {xs : List Int} {k : Nat} {x : Int} (hz : Hid (hallsB H ds xs = hallsB H ds (xs.drop k))) (hxk : Hid (xs[k]? = some x)) (h : Hid (hallB H x = true)) : Hid (hallsB H ds xs = hallsB H ds (xs.drop (k + 1))) := by
  unfold Hid at *
  rw [hz, drop_cons hxk]
  unfold hallsB
  rw [List.all_cons, h]
  rfl
theorem impl_isHall (H : Int) (A : Option Addr) (n c : Nat) (k : Int) (w : World) :
    Calls Tryd.prog 49 #[.agg #[.int .i64 H, .slice A n c], .int .i64 k] w fun e w' => e = .returned (.bool (hallB H k)) ∧ Ext w w' := by
  go_enter Tryd.func49, Tryd.ntmps49
  go_wp2_with (go_at_call 34; refine (impl_between k 0 (wrap64 (H - 1)) _).mono ?_; rintro e w1 ⟨rfl, rfl⟩)
  go_ret
  exact ⟨rfl, (Ext.refl w).alloc _⟩
set_option maxRecDepth 100000 in
set_option maxHeartbeats 1000000 in
theorem impl_hallsOk (H : Int) (A : Option Addr) (n c : Nat) (ds : List GDoor) (A1 : Option Addr) (n1 c1 : Nat) (xs : List Int) (w : World) (hx : Rd w 2 A n (ds.flatMap GDoor.enc)) (hx1 : Rd w 1 A1 n1 (xs.flatMap ienc)) :
    Calls Tryd.prog 32 #[.agg #[.int .i64 H, .slice A n c], .slice A1 n1 c1] w fun e w' => e = .returned (.bool (hallsB H ds xs)) ∧ Ext w w' := by
  have hn := hx.2.1
  have hn1 := hx1.2.1
  have hl1 := Lib.hid (hx1.len ienc_len (by omega))
  obtain ⟨wb, hwb⟩ : ∃ wb, wb = w.alloc (.cells #[.int .i64 H, .slice A n c] 26) := ⟨_, rfl⟩
  obtain ⟨hE, hsb, k0, k1⟩ := box2 w _ _ _ wb hwb
  have HE := Lib.hid hE
  have Hwb := Lib.hid hwb
  have Hk0 := Lib.hid k0
  have Hk1 := Lib.hid k1
  have hxb := Lib.hid (hx.keep hE)
  have hxb1 := Lib.hid (hx1.keep hE)
  have hbl : w.heap.size < wb.heap.size := by omega
  clear hE hsb hwb k0 k1 hx hx1
  go_enter Tryd.func32, Tryd.ntmps32
  go_wp2_with fail
  rw [← Hwb.out]
  go_loopw [9] (fun i wr => ∃ k : Nat, k ≤ n1 ∧ i = .int .i64 k ∧ Hid (hallsB H ds xs = hallsB H ds (xs.drop k)) ∧ Ext wb wr) (fun i _ => n1 - (intOf i).toNat)
  case atStart => exact ⟨0, Nat.zero_le _, rfl, rfl, Ext.refl _⟩
  case round =>
    obtain ⟨k, hk, rfl, hz, hb⟩ := hrel
    have r0 := (hb.cellAt w.heap.size hbl 0).trans Hk0.out
    have r1 := (hb.cellAt w.heap.size hbl 1).trans Hk1.out
    by_cases hlt : k < n1
    · obtain ⟨b, off, x, rfl, hbs, hxk, q0⟩ := ienc_at (hxb1.out.keep hb) hlt
      have HB := Lib.hid hb
      have HXK := Lib.hid hxk
      have HC := Lib.hid (impl_isHall H A n c x wr)
      clear hb hxk
      cases hh : hallB H x
      case false =>
        rw [hh] at HC
        have HF := hallsB_no hz HXK hh
        clear hh
        go_wp2_with (go_at_call 49; refine HC.out.mono ?_; rintro e w1 ⟨rfl, he1⟩; have HE1 := Lib.hid he1; clear he1)
        go_ret
        exact ⟨ret_bool HF.out.symm, HE.out.trans (HB.out.trans HE1.out)⟩
      rw [hh] at HC
      have HF := hallsB_step hz HXK hh
      clear hh
      go_wp2_with (go_at_call 49; refine HC.out.mono ?_; rintro e w1 ⟨rfl, he1⟩; have HE1 := Lib.hid he1; clear he1)
      go_round
      case rel => exact ⟨k + 1, by omega, by go_num, HF, HB.out.trans HE1.out⟩
      case measure => simp [intOf]; omega
    · obtain rfl : k = n1 := by omega
      have HF : Hid (hallsB H ds xs = houseB H ds) := by unfold Hid; rw [hz.out, drop_nil (by rw [hl1.out]; omega)]; rfl
      have HC := Lib.hid (impl_HouseOk H A n c ds wr (hxb.out.keep hb))
      have HB := Lib.hid hb
      clear hb hz
      go_wp2_with (go_at_call 50; refine HC.out.mono ?_; rintro e w1 ⟨rfl, he1⟩; have HE1 := Lib.hid he1; clear he1)
      go_ret
      exact ⟨ret_bool HF.out.symm, HE.out.trans (HB.out.trans HE1.out)⟩
set_option maxRecDepth 100000 in
set_option maxHeartbeats 1000000 in
theorem spec_l31Halls (H : Int) (A : Option Addr) (n c : Nat) (ds : List GDoor) (A1 : Option Addr) (n1 c1 : Nat) (xs : List Int) (w : World) (hx : Rd w 2 A n (ds.flatMap GDoor.enc)) (hx1 : Rd w 1 A1 n1 (xs.flatMap ienc)) :
    Calls Tryd.prog 95 #[.agg #[.int .i64 H, .slice A n c], .slice A1 n1 c1] w fun e w' => e = .returned (.bool (hallsB H ds xs)) ∧ Ext w w' := by
  have hn := hx.2.1
  have hn1 := hx1.2.1
  have hl1 := Lib.hid (hx1.len ienc_len (by omega))
  obtain ⟨wb, hwb⟩ : ∃ wb, wb = w.alloc (.cells #[.int .i64 H, .slice A n c] 26) := ⟨_, rfl⟩
  obtain ⟨hE, hsb, k0, k1⟩ := box2 w _ _ _ wb hwb
  have HE := Lib.hid hE
  have Hwb := Lib.hid hwb
  have Hk0 := Lib.hid k0
  have Hk1 := Lib.hid k1
  have hxb := Lib.hid (hx.keep hE)
  have hxb1 := Lib.hid (hx1.keep hE)
  have hbl : w.heap.size < wb.heap.size := by omega
  clear hE hsb hwb k0 k1 hx hx1
  go_enter Tryd.func95, Tryd.ntmps95
  go_wp2_with fail
  rw [← Hwb.out]
  go_loopw [5] (fun i wr => ∃ k : Nat, k ≤ n1 ∧ i = .int .i64 k ∧ Hid (hallsB H ds xs = hallsB H ds (xs.drop k)) ∧ Ext wb wr) (fun i _ => n1 - (intOf i).toNat)
  case atStart => exact ⟨0, Nat.zero_le _, rfl, rfl, Ext.refl _⟩
  case round =>
    obtain ⟨k, hk, rfl, hz, hb⟩ := hrel
    have r0 := (hb.cellAt w.heap.size hbl 0).trans Hk0.out
    have r1 := (hb.cellAt w.heap.size hbl 1).trans Hk1.out
    by_cases hlt : k < n1
    · obtain ⟨b, off, x, rfl, hbs, hxk, q0⟩ := ienc_at (hxb1.out.keep hb) hlt
      have e0 := cell_regrown r0
      have e1 := cell_regrown q0
      have HB := Lib.hid hb
      clear hb
      have HXK := Lib.hid hxk
      clear hxk
      cases hh : hallB H x
      case false =>
        have HF := hallsB_no hz HXK hh
        have cB : ∀ W, Calls Tryd.prog 72 #[.int .i64 x, .int .i64 0, .int .i64 (wrap64 (H - 1))] W fun e W' => e = .returned (.bool false) ∧ W = W' := fun W => by have := spec_l01In x 0 (wrap64 (H - 1)) W; rwa [show inB x 0 (wrap64 (H - 1)) = false from hh] at this
        clear hh
        go_wp2_with fail
        (refine wp_region_ext (by kernel_rfl) (by kernel_rfl) ?_; (repeat (go_big_quiet_step (first | (go_at_call 72; with_reducible exact Calls.rg0 (cB _))))); refine wpQuiet_nil ?_)
        intro w1 hb1
        go_wp2_with fail
        go_ret
        exact ⟨ret_bool HF.out.symm, HE.out.trans (HB.out.trans hb1)⟩
      have HF := hallsB_step hz HXK hh
      have cB : ∀ W, Calls Tryd.prog 72 #[.int .i64 x, .int .i64 0, .int .i64 (wrap64 (H - 1))] W fun e W' => e = .returned (.bool true) ∧ W = W' := fun W => by have := spec_l01In x 0 (wrap64 (H - 1)) W; rwa [show inB x 0 (wrap64 (H - 1)) = true from hh] at this
      clear hh
      go_wp2_with fail
      (refine wp_region_ext (by kernel_rfl) (by kernel_rfl) ?_; (repeat (go_big_quiet_step (first | (go_at_call 72; with_reducible exact Calls.rg0 (cB _))))); refine wpQuiet_nil ?_)
      intro w1 hb1
      go_wp2_with fail
      go_round
      case rel => exact ⟨k + 1, by omega, by go_num, HF, HB.out.trans hb1⟩
      case measure => simp [intOf]; omega
    · obtain rfl : k = n1 := by omega
      have HF : Hid (hallsB H ds xs = houseB H ds) := by unfold Hid; rw [hz.out, drop_nil (by rw [hl1.out]; omega)]; rfl
      have HC := Lib.hid (spec_HouseOk H A n c ds wr (hxb.out.keep hb))
      have HB := Lib.hid hb
      clear hz hb
      go_wp2_with (go_at_call 78; refine HC.out.mono ?_; rintro e w1 ⟨rfl, he1⟩; have HE1 := Lib.hid he1; clear he1)
      go_ret
      exact ⟨ret_bool HF.out.symm, HE.out.trans (HB.out.trans HE1.out)⟩
set_option maxRecDepth 100000 in
set_option maxHeartbeats 1000000 in
theorem impl_PlacesOk (H : Int) (A : Option Addr) (n c : Nat) (ds : List GDoor) (A1 : Option Addr) (n1 c1 : Nat) (xs : List Int) (w : World) (hx : Rd w 2 A n (ds.flatMap GDoor.enc)) (hx1 : Rd w 1 A1 n1 (xs.flatMap ienc)) :
    Calls Tryd.prog 17 #[.agg #[.int .i64 H, .slice A n c], .slice A1 n1 c1] w fun e w' => e = .returned (.bool (placesB H ds xs)) ∧ Ext w w' := by
  have hn1 := hx1.2.1
  have hl1 := Lib.hid (hx1.len ienc_len (by omega))
  obtain ⟨wb, hwb⟩ : ∃ wb, wb = w.alloc (.cells #[.int .i64 H, .slice A n c] 26) := ⟨_, rfl⟩
  obtain ⟨hE, hsb, k0, k1⟩ := box2 w _ _ _ wb hwb
  have HE := Lib.hid hE
  have Hwb := Lib.hid hwb
  have HC := Lib.hid (impl_hallsOk H A n c ds A1 n1 c1 xs wb (hx.keep hE) (hx1.keep hE))
  clear hE hsb hwb k0 k1 hx hx1
  by_cases h6 : n1 ≤ 6
  · have HF : Hid (placesB H ds xs = hallsB H ds xs) := by unfold Hid placesB; rw [hl1.out, decide_eq_true h6]; rfl
    cases hB : hallsB H ds xs
    all_goals (rw [hB] at HC HF; clear hB)
    all_goals go_enter Tryd.func17, Tryd.ntmps17
    all_goals go_wp2_with (rw [← Hwb.out]; go_at_call 32; refine HC.out.mono ?_; rintro e w1 ⟨rfl, he1⟩; have HE1 := Lib.hid he1; clear he1)
    all_goals go_ret
    all_goals first | exact ⟨ret_bool HF.out.symm, HE.out.trans HE1.out⟩ | exact ⟨ret_bool (by rw [HF.out]; simp; omega), HE.out.trans HE1.out⟩
  · have HF : Hid (placesB H ds xs = false) := by unfold Hid placesB; rw [hl1.out, decide_eq_false h6]; rfl
    cases hB : hallsB H ds xs
    all_goals (rw [hB] at HC; clear hB)
    all_goals go_enter Tryd.func17, Tryd.ntmps17
    all_goals go_wp2_with (rw [← Hwb.out]; go_at_call 32; refine HC.out.mono ?_; rintro e w1 ⟨rfl, he1⟩; have HE1 := Lib.hid he1; clear he1)
    all_goals go_ret
    all_goals first | exact ⟨ret_bool HF.out.symm, HE.out.trans HE1.out⟩ | exact ⟨ret_bool (by rw [HF.out]; simp; omega), HE.out.trans HE1.out⟩ | exact ⟨ret_bool HF.out.symm, by rw [← Hwb.out]; exact HE.out⟩ | exact ⟨ret_bool HF.out.symm, HE.out⟩
set_option maxRecDepth 100000 in
set_option maxHeartbeats 1000000 in
theorem spec_PlacesOk (H : Int) (A : Option Addr) (n c : Nat) (ds : List GDoor) (A1 : Option Addr) (n1 c1 : Nat) (xs : List Int) (w : World) (hx : Rd w 2 A n (ds.flatMap GDoor.enc)) (hx1 : Rd w 1 A1 n1 (xs.flatMap ienc)) :
    Calls Tryd.prog 94 #[.agg #[.int .i64 H, .slice A n c], .slice A1 n1 c1] w fun e w' => e = .returned (.bool (placesB H ds xs)) ∧ Ext w w' := by
  have hn1 := hx1.2.1
  have hl1 := Lib.hid (hx1.len ienc_len (by omega))
  obtain ⟨wb, hwb⟩ : ∃ wb, wb = w.alloc (.cells #[.int .i64 H, .slice A n c] 26) := ⟨_, rfl⟩
  obtain ⟨hE, hsb, k0, k1⟩ := box2 w _ _ _ wb hwb
  have HE := Lib.hid hE
  have Hwb := Lib.hid hwb
  have HC := Lib.hid (spec_l31Halls H A n c ds A1 n1 c1 xs wb (hx.keep hE) (hx1.keep hE))
  clear hE hsb hwb k0 k1 hx hx1
  by_cases h6 : n1 ≤ 6
  · have HF : Hid (placesB H ds xs = hallsB H ds xs) := by unfold Hid placesB; rw [hl1.out, decide_eq_true h6]; rfl
    cases hB : hallsB H ds xs
    all_goals (rw [hB] at HC HF; clear hB)
    all_goals go_enter Tryd.func94, Tryd.ntmps94
    all_goals go_wp2_with (rw [← Hwb.out]; go_at_call 95; refine HC.out.mono ?_; rintro e w1 ⟨rfl, he1⟩; have HE1 := Lib.hid he1; clear he1)
    all_goals go_ret
    all_goals first | exact ⟨ret_bool HF.out.symm, HE.out.trans HE1.out⟩ | exact ⟨ret_bool (by rw [HF.out]; simp; omega), HE.out.trans HE1.out⟩
  · have HF : Hid (placesB H ds xs = false) := by unfold Hid placesB; rw [hl1.out, decide_eq_false h6]; rfl
    cases hB : hallsB H ds xs
    all_goals (rw [hB] at HC; clear hB)
    all_goals go_enter Tryd.func94, Tryd.ntmps94
    all_goals go_wp2_with (rw [← Hwb.out]; go_at_call 95; refine HC.out.mono ?_; rintro e w1 ⟨rfl, he1⟩; have HE1 := Lib.hid he1; clear he1)
    all_goals go_ret
    all_goals first | exact ⟨ret_bool HF.out.symm, HE.out.trans HE1.out⟩ | exact ⟨ret_bool (by rw [HF.out]; simp; omega), HE.out.trans HE1.out⟩ | exact ⟨ret_bool HF.out.symm, by rw [← Hwb.out]; exact HE.out⟩ | exact ⟨ret_bool HF.out.symm, HE.out⟩
end Go.Proofs.YtfhibjehnoibeaaDoor
