/- Contracts of wayIn and the program's HouseOk; no condition but what stands at each theorem. -/
import Derived.Test.YtkelmeemblmggaaSHd
import Derived.Lib.SliceRun
namespace Go.Proofs.Ytkelmeemblmggaa
set_option linter.unusedSimpArgs false
set_option linter.unusedVariables false
open Go.RowKit Go.Sort
theorem getD_of' {α : Type} {xs : List α} {k : Nat} {x d : α} (h : xs[k]? = some x) : xs.getD k d = x := by simp [h]
theorem hbox_of {w wb : World} {h : Nat} {A : Option Addr} {n c : Nat} {ds : List GDoor} {t : TypeId} (hwb : wb = w.alloc (.cells #[.int .i64 (h : Int), .slice A n c] t)) (hx : Rd w 2 A n (ds.flatMap GDoor.enc)) : HBox wb w.heap.size h A n c ds := by
  obtain ⟨h1, h2, h3, h4⟩ := box2 w _ _ _ wb hwb
  exact ⟨h3, h4, by omega, hx.keep h1⟩
theorem impl_wayIn (h : Nat) (A : Option Addr) (n c : Nat) (ds : List GDoor) (a b : Nat) (w : World) (hx : Rd w 2 A n (ds.flatMap GDoor.enc)) (hs : Hid (NoTwice ds)) (h1 : 1 ≤ h) (h7 : h ≤ 7) (hn12 : n ≤ 12) (ha : a < h) (hb : b < h) :
    Calls Try.prog 69 #[.agg #[.int .i64 h, .slice A n c], .int .i64 a, .int .i64 b] w (WayPost (bfsAll ds h a) b w) := by
  obtain ⟨wb, hwb⟩ : ∃ wb, wb = w.alloc (.cells #[.int .i64 (h : Int), .slice A n c] 24) := ⟨_, rfl⟩
  have H := hbox_of hwb hx
  have HC := Lib.hid (impl_shortest h A n c ds a b w.heap.size wb H hs h1 h7 hn12 ha hb)
  have HE : Hid (Ext w wb) := by unfold Hid; rw [hwb]; exact (Ext.refl w).alloc _
  have Hwb := Lib.hid hwb
  clear H hwb
  go_enter Try.func69, Try.ntmps69
  go_wp2_with fail
  rw [← Hwb.out]
  refine HC.out.mono ?_
  rintro e w5 (⟨hf, rfl, he5⟩ | ⟨hf, g, c', rfl, he5⟩)
  · have HF := Lib.hid hf
    clear hf
    go_wp2_with fail
    go_ret
    exact .inl ⟨HF.out, rfl, HE.out.trans he5⟩
  · have HF := Lib.hid hf
    clear hf
    go_wp2_with fail
    go_ret
    exact .inr ⟨HF.out, g, c', rfl, HE.out.trans he5⟩
def prevD (ds : List GDoor) : Nat → Option GDoor
  | 0 => none
  | k + 1 => ds[k]?
theorem doorsOk_step (H : Int) {ds : List GDoor} {k : Nat} {d : GDoor} (hd : ds[k]? = some d) : doorsOk H (prevD ds k) (ds.drop k) = (doorOk H d && (match prevD ds k with | none => true | some p => dlt p d) && doorsOk H (prevD ds (k + 1)) (ds.drop (k + 1))) := by
  rw [drop_cons hd]
  cases k with
  | zero => simp [doorsOk, prevD, hd]
  | succ k =>
    have hk : k < ds.length := by have := (List.getElem?_eq_some_iff.1 hd).1; omega
    have h1 : ds[k]? = some ds[k] := List.getElem?_eq_getElem hk
    simp [doorsOk, prevD, hd, h1]
set_option maxRecDepth 100000 in
set_option maxHeartbeats 4000000 in
theorem impl_HouseOk (H : Int) (A : Option Addr) (n c : Nat) (ds : List GDoor) (w : World) (hx : Rd w 2 A n (ds.flatMap GDoor.enc)) :
    Calls Try.prog 63 #[.agg #[.int .i64 H, .slice A n c]] w fun e w' => e = .returned (.bool (houseB H ds)) ∧ Ext w w' := by
  have hn := hx.2.1
  have hl := Lib.hid (hx.len GDoor.len (by omega))
  obtain ⟨wb, hwb⟩ : ∃ wb, wb = w.alloc (.cells #[.int .i64 H, .slice A n c] 24) := ⟨_, rfl⟩
  obtain ⟨hE, hsb, k0, k1⟩ := box2 w _ _ _ wb hwb
  have HE := Lib.hid hE
  have Hwb := Lib.hid hwb
  have Hk0 := Lib.hid k0
  have Hk1 := Lib.hid k1
  have Hsb := Lib.hid hsb
  have hxb := hx.keep hE
  have hbl : w.heap.size < wb.heap.size := by omega
  clear hwb hE k0 k1 hsb hx
  cases hr : inB H 1 7
  case false =>
    have HF : Hid (houseB H ds = false) := by unfold Hid houseB formB; rw [hr]; simp
    have k0 := Hk0.out
    go_enter Try.func63, Try.ntmps63
    go_wp2_with (rw [← Hwb.out]; go_at_call 44; refine (impl_between _ _ _ _).mono ?_; rintro e w1 ⟨he, rfl⟩; rw [hr] at he; subst he)
    go_ret
    exact ⟨ret_bool HF.out.symm, HE.out⟩
  have hrb : 1 ≤ H ∧ H ≤ 7 := by simpa [inB] using hr
  obtain ⟨h, rfl⟩ := Int.eq_ofNat_of_zero_le (show 0 ≤ H by omega)
  have h1 : 1 ≤ h := by omega
  have h7 : h ≤ 7 := by omega
  have HR := Lib.hid hr
  have k0 := Hk0.out
  have k1 := Hk1.out
  by_cases hn12 : n ≤ 12
  case neg =>
    have HF : Hid (houseB h ds = false) := by unfold Hid houseB formB; rw [hl.out, decide_eq_false hn12]; simp
    go_enter Try.func63, Try.ntmps63
    go_wp2_with (rw [← Hwb.out]; go_at_call 44; refine (impl_between _ _ _ _).mono ?_; rintro e w1 ⟨he, rfl⟩; rw [HR.out] at he; subst he; clear hr)
    go_ret
    exact ⟨ret_bool HF.out.symm, HE.out⟩
  clear hrb
  go_enter Try.func63, Try.ntmps63
  go_wp2_with (rw [← Hwb.out]; go_at_call 44; refine (impl_between _ _ _ _).mono ?_; rintro e w1 ⟨he, rfl⟩; rw [HR.out] at he; subst he; clear hr)
  clear k0 k1
  have HHF : Hid (∀ X : Bool, doorsOk (h : Int) none ds = X → X = false → houseB h ds = false) := by
    unfold Hid; intro X h1 h2; unfold houseB formB; rw [h1, h2]; simp
  go_loopw [19] (fun i wr => ∃ k : Nat, k ≤ n ∧ i = .int .i64 k ∧ Hid (doorsOk (h : Int) none ds = doorsOk (h : Int) (prevD ds k) (ds.drop k)) ∧ Ext wb wr) (fun i _ => n - (intOf i).toNat)
  case atStart => exact ⟨0, Nat.zero_le _, rfl, rfl, Ext.refl _⟩
  case round =>
    obtain ⟨k, hk, rfl, hz, hb⟩ := hrel
    have r0 := (hb.cellAt w.heap.size hbl 0).trans Hk0.out
    have r1 := (hb.cellAt w.heap.size hbl 1).trans Hk1.out
    have hbr := hb.size
    have m0 : wr.heap.size ≠ w.heap.size := by omega
    have l0 : w.heap.size < wr.heap.size := by omega
    by_cases hlt : k < n
    · obtain ⟨b, off, d, rfl, hbs, hdk, q0, q1⟩ := GDoor.at_ (hxb.keep hb) hlt
      have hst := doorsOk_step (h : Int) hdk
      rw [← hz.out] at hst
      have HST := Lib.hid hst
      have HB := Lib.hid hb
      have HDK := Lib.hid hdk
      clear hst hb hdk
      cases hdo : doorOk (h : Int) d
      case false =>
        have HF : Hid (houseB h ds = false) := by unfold Hid; exact HHF.out _ HST.out (by rw [hdo]; simp)
        have hdn : ¬ (0 ≤ d.a ∧ d.a < d.b ∧ d.b < (h : Int)) := by
          intro hc
          have : doorOk (h : Int) d = true := by simp [doorOk, hc.1, hc.2.1, hc.2.2]
          rw [hdo] at this; cases this
        clear hdo
        by_cases e1 : d.a < 0
        · clear hdn
          go_wp2_with fail
          go_ret
          exact ⟨ret_bool HF.out.symm, HE.out.trans (HB.out.alloc _)⟩
        by_cases e2 : d.b ≤ d.a
        · clear hdn
          go_wp2_with fail
          go_ret
          exact ⟨ret_bool HF.out.symm, HE.out.trans (HB.out.alloc _)⟩
        have e3 : (h : Int) ≤ d.b := by omega
        clear hdn
        go_wp2_with fail
        go_ret
        exact ⟨ret_bool HF.out.symm, HE.out.trans (HB.out.alloc _)⟩
      have hdp : 0 ≤ d.a ∧ d.a < d.b ∧ d.b < (h : Int) := by
        simp only [doorOk, Bool.and_eq_true, decide_eq_true_eq] at hdo
        exact ⟨hdo.1.1, hdo.1.2, hdo.2⟩
      obtain ⟨e1, e2, e3⟩ := hdp
      have HDO := Lib.hid hdo
      clear hdo
      go_wp2_with fail
      obtain ⟨wd, hwd⟩ : ∃ wd, wd = wr.alloc (.cells #[.int .i64 d.a, .int .i64 d.b] 56) := ⟨_, rfl⟩
      rw [← hwd]
      obtain ⟨hEd, hsd, d0, d1⟩ := box2 wr _ _ _ wd hwd
      have s0 := (hEd.cellAt w.heap.size (by omega) 0).trans r0
      have s1 := (hEd.cellAt w.heap.size (by omega) 1).trans r1
      have HEd := Lib.hid (HB.out.trans hEd)
      clear hwd hsd r0 r1 q0 q1
      by_cases hk0 : k = 0
      · subst hk0
        clear hEd
        go_quiet (fail)
        go_wp2_with fail
        go_roundw
        case rel => exact ⟨1, by omega, rfl, by unfold Hid; rw [HST.out, HDO.out]; rfl, HEd.out.drewN _⟩
        case measure => simp [intOf]; omega
      · obtain ⟨b', off', p, hA, hbs', hpk, q0, q1⟩ := GDoor.at_ (hxb.keep HEd.out) (k := k - 1) (by omega)
        simp only [Option.some.injEq, Addr.mk.injEq, and_true] at hA
        obtain ⟨rfl, rfl⟩ := hA
        have hpv : prevD ds k = some p := by
          obtain ⟨m, rfl⟩ : ∃ m, k = m + 1 := ⟨k - 1, by omega⟩
          exact hpk
        have HST2 : Hid (doorsOk (h : Int) none ds = (dlt p d && doorsOk (h : Int) (prevD ds (k + 1)) (ds.drop (k + 1)))) := by
          unfold Hid; rw [HST.out, HDO.out, hpv]; simp
        have hkp : 0 < k := by omega
        clear hpk hpv hEd
        by_cases f1 : d.a < p.a
        · have HF : Hid (houseB h ds = false) := by
            unfold Hid; refine HHF.out _ HST2.out ?_
            have : dlt p d = false := by unfold dlt; rw [decide_eq_false (by omega), beq_eq_false_iff_ne.2 (by omega)]; rfl
            rw [this]; rfl
          go_quiet (fail)
          go_wp2_with fail
          go_ret
          exact ⟨ret_bool HF.out.symm, HE.out.trans (HEd.out.drewN _)⟩
        cases f2 : (p.a == d.a)
        · have f2' : p.a ≠ d.a := by simpa using f2
          have hd2 : Hid (dlt p d = true) := by unfold Hid dlt; rw [decide_eq_true (by omega)]; rfl
          clear f2'
          go_quiet (fail)
          go_wp2_with fail
          go_roundw
          case rel => exact ⟨k + 1, by omega, by go_num, by unfold Hid; rw [HST2.out, hd2.out]; rfl, HEd.out.drewN _⟩
          case measure => simp [intOf]; omega
        · have F2 := Lib.hid f2
          by_cases f3 : d.b ≤ p.b
          · have HF : Hid (houseB h ds = false) := by
              unfold Hid; refine HHF.out _ HST2.out ?_
              have : dlt p d = false := by unfold dlt; rw [decide_eq_false (by have := beq_iff_eq.1 F2.out; omega), decide_eq_false (by omega)]; simp
              rw [this]; rfl
            go_quiet (fail)
            go_wp2_with fail
            go_ret
            exact ⟨ret_bool HF.out.symm, HE.out.trans (HEd.out.drewN _)⟩
          · have hd2 : Hid (dlt p d = true) := by unfold Hid dlt; have hz9 : decide (p.b < d.b) = true := decide_eq_true (by omega); rw [F2.out, hz9]; simp
            go_quiet (fail)
            go_wp2_with fail
            go_roundw
            case rel => exact ⟨k + 1, by omega, by go_num, by unfold Hid; rw [HST2.out, hd2.out]; rfl, HEd.out.drewN _⟩
            case measure => simp [intOf]; omega
    · obtain rfl : k = n := by omega
      have hdok : doorsOk (h : Int) none ds = true := by rw [hz.out, drop_nil (xs := ds) (k := k) (by rw [hl.out]; exact Nat.le_refl _)]; cases prevD ds k <;> rfl
      have HNT := Lib.hid (doorsOk_spec hdok).2
      have HForm : Hid (houseB h ds = (List.range h).all fun k => reachB ds h 0 k) := by
        unfold Hid houseB formB
        rw [hdok, HR.out, hl.out, decide_eq_true hn12, Int.toNat_natCast]; rfl
      have HB := Lib.hid hb
      clear hdok hz
      have hnil := fun (w : World) (a : Option Addr) (n c : Nat) => Lib.run_eql_slice_nil (P := Try.prog) w 25 3 a n c 0 0 Try.underlying25
      go_wp2_with fail
      obtain ⟨wo, rfl⟩ : ∃ wo : World, wo = wr := ⟨_, rfl⟩
      clear r0 r1 hb
      go_loopw [5] (fun i wi => ∃ q : Nat, q ≤ h ∧ i = .int .i64 q ∧ Hid (∀ j, j < q → reachB ds h 0 j = true) ∧ Ext wb wi) (fun i _ => h - (intOf i).toNat)
      case atStart => exact ⟨0, Nat.zero_le _, rfl, by unfold Hid; intro j hj; omega, HB.out⟩
      case round =>
        obtain ⟨q, hq, rfl, hall, hbi⟩ := hrel
        have r0 := (hbi.cellAt w.heap.size hbl 0).trans Hk0.out
        have r1 := (hbi.cellAt w.heap.size hbl 1).trans Hk1.out
        by_cases hqh : q < h
        · have HC := Lib.hid (impl_wayIn h A k c ds 0 q wr (hxb.keep hbi) HNT h1 h7 hn12 (by omega) hqh)
          have HBi := Lib.hid hbi
          clear hbi
          go_wp2_with fail
          refine HC.out.mono ?_
          rintro e w5 (⟨hf, rfl, he5⟩ | ⟨hf, g, c', rfl, he5⟩)
          · have HF : Hid (houseB h ds = false) := by
              unfold Hid; rw [HForm.out, Bool.eq_false_iff]
              intro hc
              rw [List.all_eq_true] at hc
              have := hc q (by simpa using hqh)
              unfold reachB at this
              rw [decide_eq_true_eq] at this
              omega
            have HE5 := Lib.hid he5
            clear hf he5 HC
            go_wp2_with fail
            go_ret
            exact ⟨ret_bool HF.out.symm, HE.out.trans (HBi.out.trans HE5.out)⟩
          · have HF := Lib.hid hf
            have HE5 := Lib.hid he5
            clear hf he5 HC
            go_wp2_with fail
            go_roundw
            case rel => exact ⟨q + 1, by omega, by go_num, by unfold Hid; intro j hj; by_cases hjq : j = q; (subst hjq; unfold reachB; exact decide_eq_true HF.out); exact hall.out j (by omega), HBi.out.trans HE5.out⟩
            case measure => simp [intOf]; omega
        · obtain rfl : q = h := by omega
          have HF : Hid (houseB q ds = true) := by
            unfold Hid; rw [HForm.out, List.all_eq_true]
            intro j hj
            exact hall.out j (by simpa using hj)
          go_wp2_with fail
          go_ret
          exact ⟨ret_bool HF.out.symm, HE.out.trans hbi⟩
end Go.Proofs.Ytkelmeemblmggaa
