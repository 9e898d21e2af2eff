/- Contracts of the reference's l37Rings and MasterRings; no condition but what stands at each theorem. -/
import Derived.Test.YtcmbjkidgemdaaaSHt
namespace Go.Proofs.Ytcmbjkidgemdaaa
set_option linter.unusedSimpArgs false
set_option linter.unusedVariables false
open Go.RowKit Go.Sort
theorem wrap_pow1 {h : Nat} (h7 : h ≤ 7) : wrap64 (wrap64 ((2 : Int) ^ h) - 1) = ((2 ^ h - 1 : Nat) : Int) := by
  have h8 : h = 0 ∨ h = 1 ∨ h = 2 ∨ h = 3 ∨ h = 4 ∨ h = 5 ∨ h = 6 ∨ h = 7 := by omega
  rcases h8 with rfl | rfl | rfl | rfl | rfl | rfl | rfl | rfl <;> (simp [wrap64])
theorem cmp_pow1 {h S : Nat} (h7 : h ≤ 7) : ((S : Int) == wrap64 (wrap64 ((2 : Int) ^ h) - 1)) = (S == 2 ^ h - 1) := by
  rw [wrap_pow1 h7, Bool.eq_iff_iff]
  generalize 2 ^ h - 1 = z
  simp only [beq_iff_eq]
  omega
set_option maxRecDepth 100000 in
set_option maxHeartbeats 2000000 in
theorem spec_l37Rings (H : Int) (A : Option Addr) (n c : Nat) (ds : List GDoor) (A1 : Option Addr) (n1 c1 : Nat) (rings : List Int) (w : World) (hx : Rd w 2 A n (ds.flatMap GDoor.enc)) (hx1 : Rd w 1 A1 n1 (rings.flatMap ienc)) :
    Calls Try.prog 76 #[.agg #[.int .i64 H, .slice A n c], .slice A1 n1 c1] w fun e w' => e = .returned (.bool (ringsB H ds rings)) ∧ Ext w w' := by
  have hl1 := Lib.hid (hx1.len ienc_len (by omega))
  have hn1 := hx1.2.1
  obtain ⟨wb, hwb⟩ : ∃ wb, wb = w.alloc (.cells #[.int .i64 H, .slice A n c] 29) := ⟨_, rfl⟩
  obtain ⟨hE, hsb, k0, k1⟩ := box2 w _ _ _ wb hwb
  have HE := Lib.hid hE
  have Hwb := Lib.hid hwb
  have Hk0 := Lib.hid k0
  have Hk1 := Lib.hid k1
  have hbl : w.heap.size < wb.heap.size := by omega
  have hxb := Lib.hid (hx.keep hE)
  have hxb1 := Lib.hid (hx1.keep hE)
  clear hE hx hx1 hsb k0 k1 hwb
  go_enter Try.func76, Try.ntmps76
  go_wp2_with fail
  rw [← Hwb.out]
  go_loopw [5] (fun i wr => ∃ k : Nat, k ≤ n1 ∧ i = .int .i64 k ∧ Hid (rings.all (ringB H ds) = (rings.drop k).all (ringB H ds)) ∧ Ext wb wr) (fun i _ => n1 - (intOf i).toNat)
  case atStart => exact ⟨0, Nat.zero_le _, rfl, rfl, Ext.refl _⟩
  case round =>
    obtain ⟨k, hk, rfl, hz, hb⟩ := hrel
    have hbs := hb.size
    have HB := Lib.hid hb
    have k0 := (HB.out.cellAt w.heap.size hbl 0).trans Hk0.out
    have k1 := (HB.out.cellAt w.heap.size hbl 1).trans Hk1.out
    by_cases hlt : k < n1
    · obtain ⟨b, off, x, rfl, hbb, hxk, p0⟩ := ienc_at (hxb1.out.keep hb) hlt
      have HD := Lib.hid (drop_cons hxk)
      have cR := Lib.hid (fun d os => spec_RingOk H A n c ds x (grow (redrawn wr d) os) ((hxb.out.keep HB.out).keep (ext_rg wr d os)))
      have i0 : (0 : Int) ≤ (k : Int) := by omega
      have i1 : (k : Int) < (n1 : Int) := by omega
      have y0 := cell_regrown k0
      have y1 := cell_regrown k1
      have y2 := cell_regrown p0
      clear hb hxk
      cases hR : ringB H ds x
      case false =>
        rw [hR] at cR
        have HF : Hid (ringsB H ds rings = false) := by unfold Hid ringsB; rw [hz.out, HD.out]; simp [hR]
        clear hR
        go_wp2_with fail
        (refine wp_region_ext (by kernel_rfl) (by kernel_rfl) ?_; (repeat (go_big_quiet_step (first | (go_at_call 15; with_reducible exact Calls.rg (cR.out _ _))))); refine wpQuiet_nil ?_)
        intro w3 he3
        have HE3 := Lib.hid (HB.out.trans he3)
        clear he3 k0 k1 y0 y1 y2 p0
        go_wp2_with fail
        go_ret
        exact ⟨ret_bool HF.out.symm, HE.out.trans HE3.out⟩
      case true =>
        rw [hR] at cR
        have HF : Hid (rings.all (ringB H ds) = (rings.drop (k + 1)).all (ringB H ds)) := by unfold Hid; rw [hz.out, HD.out]; simp [hR]
        clear hR
        go_wp2_with fail
        (refine wp_region_ext (by kernel_rfl) (by kernel_rfl) ?_; (repeat (go_big_quiet_step (first | (go_at_call 15; with_reducible exact Calls.rg (cR.out _ _))))); refine wpQuiet_nil ?_)
        intro w3 he3
        have HE3 := Lib.hid (HB.out.trans he3)
        clear he3 k0 k1 y0 y1 y2 p0
        go_wp2_with fail
        go_roundw
        case rel => exact ⟨k + 1, by omega, by go_num, HF, HE3.out⟩
        case measure => simp [intOf]; omega
    · obtain rfl : k = n1 := by omega
      have HF : Hid (ringsB H ds rings = houseB H ds) := by unfold Hid ringsB; rw [hz.out, drop_nil (by rw [hl1.out]; omega)]; rfl
      have cH := Lib.hid (spec_HouseOk H A n c ds wr (hxb.out.keep HB.out))
      clear hb
      go_wp2_with fail
      refine cH.out.mono ?_
      rintro e w1 ⟨rfl, he1⟩
      have HE1 := Lib.hid (HB.out.trans he1)
      clear he1
      go_wp2_with fail
      go_ret
      exact ⟨ret_bool HF.out.symm, HE.out.trans HE1.out⟩
set_option maxRecDepth 100000 in
set_option maxHeartbeats 4000000 in
theorem spec_MasterRings (H : Int) (A : Option Addr) (n c : Nat) (ds : List GDoor) (A1 : Option Addr) (n1 c1 : Nat) (rings : List Int) (w : World) (hx : Rd w 2 A n (ds.flatMap GDoor.enc)) (hx1 : Rd w 1 A1 n1 (rings.flatMap ienc)) (hn1 : n1 ≤ 1048576) :
    Calls Try.prog 37 #[.agg #[.int .i64 H, .slice A n c], .slice A1 n1 c1] w (OwnL (mastL H ds rings) w) := by
  have hl := Lib.hid (hx.len GDoor.len (by omega))
  have hl1 := Lib.hid (hx1.len ienc_len (by omega))
  obtain ⟨wb, hwb⟩ : ∃ wb, wb = w.alloc (.cells #[.int .i64 H, .slice A n c] 29) := ⟨_, rfl⟩
  obtain ⟨hE, hsb, k0, k1⟩ := box2 w _ _ _ wb hwb
  have HE := Lib.hid hE
  have Hwb := Lib.hid hwb
  have Hk0 := Lib.hid k0
  have Hk1 := Lib.hid k1
  have hbl : w.heap.size < wb.heap.size := by omega
  have hxb := Lib.hid (hx.keep hE)
  have hxb1 := Lib.hid (hx1.keep hE)
  clear hE hx hx1 hsb k0 k1 hwb
  obtain ⟨wc, hwc⟩ : ∃ wc, wc = wb.alloc (.cells #[] 3) := ⟨_, rfl⟩
  have HEc : Hid (Ext wb wc) := by unfold Hid; rw [hwc]; exact (Ext.refl wb).alloc _
  have HOc : Hid (wc.ownsRow wb.heap.size 3 1 (.slice (some ⟨wb.heap.size, 0, none⟩) 0 0) 0 []) := by unfold Hid; rw [hwc]; exact own_empty wb wb.heap.size 3 1 (Nat.le_refl _)
  have hsb : wb.heap.size = w.heap.size + 1 := by rw [Hwb.out]; simp
  rw [hsb] at HOc
  have Hwc := Lib.hid hwc
  have Hsb := Lib.hid hsb
  clear hwc hsb
  have hsw := HE.out.size
  have cA := Lib.hid (fun w1 (he : Ext wb w1) => spec_l37Rings H A n c ds A1 n1 c1 rings w1 (hxb.out.keep he) (hxb1.out.keep he))
  cases hall : rings.all (ringB H ds)
  case false =>
    have hn0 : 0 < n1 := by
      have := hl1.out
      cases rings with
      | nil => simp at hall
      | cons _ _ => simp at this; omega
    have hA : ringsB H ds rings = false := by unfold ringsB; rw [hall]; rfl
    rw [hA] at cA
    have HF : Hid (mastL H ds rings = []) := by unfold Hid; exact mastG_no H ds rings 0 [] hall
    clear hall hA
    go_enter Try.func37, Try.ntmps37
    go_wp2_with fail
    rw [← Hwb.out, ← Hwc.out]
    have k0 := (HEc.out.cellAt w.heap.size hbl 0).trans Hk0.out
    have k1 := (HEc.out.cellAt w.heap.size hbl 1).trans Hk1.out
    refine wp_loop_rounds 1 ?_
    rw [rounds_succ]
    go_wp2_with fail
    refine (cA.out _ HEc.out).mono ?_
    rintro e w1 ⟨rfl, he1⟩
    have HO1 := Lib.hid (own_keep HOc.out he1)
    have HE1 := Lib.hid (HEc.out.trans he1)
    clear he1 k0 k1
    go_wp2_with fail
    go_ret
    exact ⟨_, rfl, HE.out.trans HE1.out, by rw [HF.out]; exact own_weak HO1.out (by omega)⟩
  case true =>
    have hall' := Lib.hid (List.all_eq_true.1 hall)
    have hrB : Hid (houseB H ds = true → ringsB H ds rings = true) := by unfold Hid ringsB; intro h; rw [hall, h]; rfl
    clear hall
    go_enter Try.func37, Try.ntmps37
    go_wp2_with fail
    rw [← Hwb.out, ← Hwc.out]
    go_loopw [5, 6] (fun o i wr => ∃ (k : Nat) (M : List Int), k ≤ n1 ∧ i = .int .i64 k ∧ wr.ownsRow (w.heap.size + 1) 3 1 o M.length (M.flatMap ienc) ∧ Hid (mastL H ds rings = mastG H ds k M (rings.drop k)) ∧ Hid (M.length ≤ k) ∧ Ext wb wr) (fun _ i _ => n1 - (intOf i).toNat)
    case atStart => exact ⟨0, [], Nat.zero_le _, rfl, HOc.out, rfl, Nat.zero_le _, HEc.out⟩
    case round =>
      obtain ⟨k, M, hk, rfl, hown, hz, hMk, hb⟩ := hrel
      have hbs := hb.size
      have hMl : M.length ≤ 1048576 := by have := hMk.out; omega
      have HO := Lib.hid hown
      have HB := Lib.hid hb
      by_cases hlt : k < n1
      · obtain ⟨b, off, r, rfl, hbb, hrk, p0⟩ := ienc_at (hxb1.out.keep hb) hlt
        have HD := Lib.hid (drop_cons hrk)
        have hR := hall'.out r (List.mem_of_getElem? hrk)
        have k0 := (HB.out.cellAt w.heap.size hbl 0).trans Hk0.out
        have k1 := (HB.out.cellAt w.heap.size hbl 1).trans Hk1.out
        obtain ⟨hB, r0, r1⟩ := ringB_spec hR
        rw [hrB.out hB] at cA
        obtain ⟨h1, h7, h12, hT, hok, -⟩ := houseB_spec hB
        obtain ⟨h, hh⟩ := Int.eq_ofNat_of_zero_le (show 0 ≤ H by omega)
        obtain ⟨q, hq⟩ := Int.eq_ofNat_of_zero_le r0
        subst hh hq
        have HF : Hid (∀ t, fullB h ds q = t → mastL h ds rings = mastG h ds (k + 1) (if t then M ++ [(k : Int)] else M) (rings.drop (k + 1))) := by
          unfold Hid; intro t ht; rw [hz.out, HD.out, mastG, hR, ht]; rfl
        have HK := Lib.hid hok
        have hset := full_set (r := q) (show 1 ≤ h by omega) hok
        have hS128 := reached_128 (a := 0) (n := h) (by omega) (by omega) (opened_ok hok q)
        have P0 := Lib.hid p0
        clear hown hb hrk hR hB hT hok p0
        go_wp2_with fail
        refine (cA.out _ HB.out).mono ?_
        rintro e w1 ⟨rfl, he1⟩
        have HO1 := Lib.hid (own_keep HO.out he1)
        have HE1 := Lib.hid (HB.out.trans he1)
        have p0 := (he1.cellAt b (by omega) _).trans P0.out
        clear he1 k0 k1
        have k0 := (HE1.out.cellAt w.heap.size hbl 0).trans Hk0.out
        have k1 := (HE1.out.cellAt w.heap.size hbl 1).trans Hk1.out
        have cH := Lib.hid (fun d os => spec_l37Reached h A n c ds 0 q (grow (redrawn w1 d) os) ((hxb.out.keep HE1.out).keep (ext_rg w1 d os)) HK (by omega) (by have := hl.out; omega) (by omega) (by omega))
        obtain ⟨S, hS⟩ : ∃ S, S = reached (opened q ds) 0 h := ⟨_, rfl⟩
        rw [← hS] at cH hset hS128
        rw [← cmp_pow1 (by omega)] at hset
        have HS := Lib.hid hS
        have y0 := cell_regrown k0
        have y1 := cell_regrown k1
        have y2 := cell_regrown p0
        have i0 : (0 : Int) ≤ (k : Int) := by omega
        have i1 : (k : Int) < (n1 : Int) := by omega
        clear hS
        cases hF : fullB h ds q
        case false =>
          have HM := Lib.hid (HF.out false hF)
          rw [hF] at hset
          clear hF
          go_wp2_with fail
          (refine wp_region_ext (by kernel_rfl) (by kernel_rfl) ?_; (repeat (go_big_quiet_step (first | (go_at_call 74; with_reducible exact Calls.rg (cH.out _ _))))); refine wpQuiet_nil ?_)
          intro w3 he3
          have HE3 := Lib.hid (HE1.out.trans he3)
          have HO3 := Lib.hid (own_keep HO1.out he3)
          have hs3 := HE3.out.size
          have hsb := Hsb.out
          clear he3 k0 k1 p0 y0 y1 y2
          go_wp2_with fail
          go_roundw
          case rel => exact ⟨k + 1, M, by omega, by go_num, HO3.out, by unfold Hid; rw [HM.out]; rfl, by have := hMk.out; unfold Hid; omega, HE3.out⟩
          case measure => simp [intOf]; omega
        case true =>
          have HM := Lib.hid (HF.out true hF)
          rw [hF] at hset
          clear hF
          go_wp2_with fail
          (refine wp_region_ext (by kernel_rfl) (by kernel_rfl) ?_; (repeat (go_big_quiet_step (first | (go_at_call 74; with_reducible exact Calls.rg (cH.out _ _))))); refine wpQuiet_nil ?_)
          intro w3 he3
          have HE3 := Lib.hid (HE1.out.trans he3)
          have HO3 := Lib.hid (own_keep HO1.out he3)
          have hs3 := HE3.out.size
          have hsb := Hsb.out
          clear he3 k0 k1 p0 y0 y1 y2
          go_wp2_with (at_builtin; refine append1 ei_I rfl _ _ rfl (w.heap.size + 1) w3 _ _ M.length _ (by rfl) HO3.out [.int .i64 k] (by rfl) rfl (one_int1 _) (by omega) (by omega) ?_; intro v' w6 ho6 he6; have HO6 := Lib.hid ho6; have HE6 := Lib.hid (he6 wb HE3.out (by omega)); clear ho6 he6)
          go_roundw
          case rel => exact ⟨k + 1, M ++ [(k : Int)], by omega, by go_num, by have := HO6.out; simpa [ienc] using this, by unfold Hid; rw [HM.out]; rfl, by have := hMk.out; unfold Hid; simp; omega, HE6.out⟩
          case measure => simp [intOf]; omega
      · obtain rfl : k = n1 := by omega
        clear hown hb
        go_wp2_with fail
        go_ret
        have hM : mastL H ds rings = M := by rw [hz.out, drop_nil (by rw [hl1.out]; omega)]; rfl
        exact ⟨_, rfl, HE.out.trans HB.out, by rw [hM]; exact own_weak HO.out (by omega)⟩
end Go.Proofs.Ytcmbjkidgemdaaa
