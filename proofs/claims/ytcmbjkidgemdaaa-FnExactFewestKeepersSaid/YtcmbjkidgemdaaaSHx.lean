/- Contract of the reference's FewestKeepers; no condition but what stands at each theorem. -/
import Derived.Test.YtcmbjkidgemdaaaSHw
import Derived.Test.YtcmbjkidgemdaaaKB
namespace Go.Proofs.Ytcmbjkidgemdaaa
set_option linter.unusedSimpArgs false
set_option linter.unusedVariables false
open Go.RowKit Go.Sort
set_option maxRecDepth 100000 in
set_option maxHeartbeats 1000000 in
theorem spec_l19Less (A0 : Option Addr) (n0 c0 : Nat) (xs : List Int) (A1 : Option Addr) (n1 c1 : Nat) (ys : List Int) (w : World) (hx : Rd w 1 A0 n0 (xs.flatMap ienc)) (hy : Rd w 1 A1 n1 (ys.flatMap ienc)) :
    Calls Try.prog 82 #[.slice A0 n0 c0, .slice A1 n1 c1] w fun e w' => e = .returned (.bool (lessL xs ys)) ∧ Ext w w' := by
  have hn0 := hx.2.1
  have hn1 := hy.2.1
  have hl0 := Lib.hid (hx.len ienc_len (by omega))
  have hl1 := Lib.hid (hy.len ienc_len (by omega))
  go_enter Try.func82, Try.ntmps82
  go_wp2_with fail
  go_loopw [5] (fun i wr => ∃ k : Nat, k ≤ n0 ∧ k ≤ n1 ∧ i = .int .i64 k ∧ Hid (lessL xs ys = lessL (xs.drop k) (ys.drop k)) ∧ Ext w wr) (fun i _ => n0 - (intOf i).toNat)
  case atStart => exact ⟨0, Nat.zero_le _, Nat.zero_le _, rfl, rfl, Ext.refl _⟩
  case round =>
    obtain ⟨k, hk0, hk1, rfl, hz, hb⟩ := hrel
    by_cases hlt0 : k < n0
    case neg =>
      obtain rfl : k = n0 := by omega
      go_wp2_with fail
      go_ret
      refine ⟨ret_bool ?_, hb⟩
      rw [hz.out, drop_nil (by rw [hl0.out]; omega)]
      cases h : ys.drop k with
      | nil => have := congrArg List.length h; simp at this; rw [hl1.out] at this; simp [lessL]; omega
      | cons y r => have := congrArg List.length h; simp at this; rw [hl1.out] at this; simp [lessL]; omega
    by_cases hlt1 : k < n1
    case neg =>
      obtain rfl : k = n1 := by omega
      go_wp2_with fail
      go_ret
      refine ⟨ret_bool ?_, hb⟩
      rw [hz.out, drop_nil (xs := ys) (by rw [hl1.out]; omega)]
      cases h : xs.drop k with
      | nil => have := congrArg List.length h; simp at this; rw [hl0.out] at this; omega
      | cons y r => simp [lessL]; omega
    obtain ⟨b, off, x, rfl, hbs, hxk, h0⟩ := ienc_at (hx.keep hb) hlt0
    obtain ⟨b1, off1, y, rfl, hbs1, hyk, h1⟩ := ienc_at (hy.keep hb) hlt1
    have HX := Lib.hid (drop_cons hxk)
    have HY := Lib.hid (drop_cons hyk)
    have HB := Lib.hid hb
    clear hxk hyk hb
    cases hxy : (x != y)
    · go_wp2_with fail
      go_quiet (fail)
      go_wp2_with fail
      go_roundw
      case rel => exact ⟨k + 1, by omega, by omega, by go_num, by unfold Hid; rw [hz.out, HX.out, HY.out, lessL]; simp at hxy; simp [hxy], HB.out.drewN _⟩
      case measure => simp [intOf]; omega
    · go_wp2_with fail
      go_quiet (fail)
      go_wp2_with fail
      go_quiet (fail)
      go_wp2_with fail
      go_ret
      exact ⟨ret_bool (by rw [hz.out, HX.out, HY.out, lessL]; simp at hxy; simp [hxy]), (HB.out.drewN _).drewN _⟩
theorem opened_zero : ∀ ds : List GDoor, opened 0 ds = []
  | [] => rfl
  | d :: ds => by unfold opened; exact opened_zero ds
theorem ball_nil (h : Nat) : ∀ n k, ball [] h 0 n k = (k == 0)
  | 0, k => rfl
  | n + 1, k => by
    have : ∀ j : Nat, (ball [] h 0 n j && doorB [] j k) = false := by intro j; simp [doorB]
    simp [ball, ball_nil h n k, this]
theorem full_zero (h : Nat) (ds : List GDoor) (h1 : 1 ≤ h) : fullB h ds 0 = (h == 1) := by
  unfold fullB hallsL
  rw [Int.toNat_natCast, show ((0 : Int).toNat) = 0 from rfl, opened_zero]
  have e : (List.range h).filter (reachB [] h 0) = [0] := by
    have e1 : (List.range h).filter (reachB [] h 0) = (List.range h).filter fun k => k == 0 := by
      apply List.filter_congr
      intro k hk
      rw [reach_ball [] (by omega) (by simpa using hk), ball_nil]
    rw [e1]
    obtain ⟨m, rfl⟩ : ∃ m, h = m + 1 := ⟨h - 1, by omega⟩
    rw [List.range_succ_eq_map, List.filter_cons]
    simp [List.filter_map]
  rw [e, Bool.eq_iff_iff]
  simp
  omega
theorem leastK_no {H : Int} {ds : List GDoor} {rings : List Int} (h : (!ringsB H ds rings || decide (6 < rings.length) || (H == 1)) = true) : leastK H ds rings = [] := by
  unfold leastK
  split
  · rename_i hc
    simp only [Bool.and_eq_true, decide_eq_true_eq] at hc
    obtain ⟨hB, h6, hall⟩ := hc
    have h7 : ringsB H ds rings = true := by unfold ringsB; rw [hall, hB]; rfl
    have h8 : decide (6 < rings.length) = false := by simp; omega
    rw [h7, h8] at h
    simp at h
    subst h
    have hp : keepP 1 ds rings [] = true := by
      have := full_zero 1 ds (by omega)
      unfold keepP orL
      simpa using this
    unfold findK
    rw [List.range'_succ, List.findSome?_cons]
    simp [lsts, hp]
  · rfl
theorem leastK_yes {h : Nat} {ds : List GDoor} {rings : List Int} (hB : houseB h ds = true) (h6 : rings.length ≤ 6) (hall : rings.all (ringB h ds) = true) (h1 : h ≠ 1) (h0 : 1 ≤ h) :
    leastK h ds rings = (setsL rings.length).foldl (bestStep (keepP h ds rings)) [] := by
  have hp : keepP h ds rings [] = false := by
    have := full_zero h ds h0
    unfold keepP orL
    simp only [List.foldl_nil]
    have e : ((0 : Nat) : Int) = 0 := rfl
    rw [e, this]
    simpa using h1
  unfold leastK
  rw [hB, hall, decide_eq_true h6, best_eq h6, allL_find]
  simp only [Bool.and_self, if_true]
  unfold findK
  rw [List.range'_succ, List.findSome?_cons]
  simp [lsts, hp]
theorem orL_snoc (rings b : List Int) (k : Nat) (r : Int) (z : Nat) (hr : rings[k]? = some r) (hz : r = (z : Int)) : orL rings (b ++ [(k : Int)]) = orL rings b ||| z := by
  unfold orL
  rw [List.foldl_append]
  simp only [List.foldl_cons, List.foldl_nil, orS]
  rw [Int.toNat_natCast, getD_of' hr, hz, Int.toNat_natCast]
set_option maxRecDepth 100000 in
set_option maxHeartbeats 8000000 in
theorem spec_FewestKeepers (H : Int) (A : Option Addr) (n c : Nat) (ds : List GDoor) (A1 : Option Addr) (n1 c1 : Nat) (rings : List Int) (w : World) (hx : Rd w 2 A n (ds.flatMap GDoor.enc)) (hx1 : Rd w 1 A1 n1 (rings.flatMap ienc)) (hn1 : n1 ≤ 1048576) :
    Calls Try.prog 42 #[.agg #[.int .i64 H, .slice A n c], .slice A1 n1 c1] w (OwnL (leastK H ds rings) w) := by
  have hl := Lib.hid (hx.len GDoor.len (by omega))
  have hl1 := Lib.hid (hx1.len ienc_len (by omega))
  obtain ⟨wb, hwb⟩ : ∃ wb, wb = w.alloc (.cells #[.int .i64 H, .slice A n c] 29) := ⟨_, rfl⟩
  obtain ⟨hE, hsb, k0, k1⟩ := box2 w _ _ _ wb hwb
  have HE := Lib.hid hE
  have Hwb := Lib.hid hwb
  have Hk0 := Lib.hid k0
  have Hk1 := Lib.hid k1
  have hbl : w.heap.size < wb.heap.size := by omega
  have hxb := Lib.hid (hx.keep hE)
  have hxb1 := Lib.hid (hx1.keep hE)
  clear hE hx hx1 hsb k0 k1 hwb
  obtain ⟨wc, hwc⟩ : ∃ wc, wc = wb.alloc (.cells #[] 3) := ⟨_, rfl⟩
  have HEc : Hid (Ext wb wc) := by unfold Hid; rw [hwc]; exact (Ext.refl wb).alloc _
  have HOc : Hid (wc.ownsRow wb.heap.size 3 1 (.slice (some ⟨wb.heap.size, 0, none⟩) 0 0) 0 []) := by unfold Hid; rw [hwc]; exact own_empty wb wb.heap.size 3 1 (Nat.le_refl _)
  have hsb : wb.heap.size = w.heap.size + 1 := by rw [Hwb.out]; simp
  rw [hsb] at HOc
  have Hwc := Lib.hid hwc
  have Hsb := Lib.hid hsb
  clear hwc hsb
  have hsw := HE.out.size
  have cA := Lib.hid (spec_l37Rings H A n c ds A1 n1 c1 rings wc (hxb.out.keep HEc.out) (hxb1.out.keep HEc.out))
  cases hbad : (!ringsB H ds rings || decide (6 < rings.length) || (H == 1))
  case true =>
    have HF := Lib.hid (leastK_no hbad)
    rw [hl1.out] at hbad
    have HBad := Lib.hid hbad
    clear hbad
    cases hA : ringsB H ds rings
    case false =>
      rw [hA] at cA
      clear hA
      go_enter Try.func42, Try.ntmps42
      go_wp2_with fail
      rw [← Hwb.out, ← Hwc.out]
      refine cA.out.mono ?_
      rintro e w1 ⟨rfl, he1⟩
      have HO1 := Lib.hid (own_keep HOc.out he1)
      have HE1 := Lib.hid (HEc.out.trans he1)
      clear he1
      go_wp2_with fail
      go_ret
      exact ⟨_, rfl, HE.out.trans HE1.out, by rw [HF.out]; exact own_weak HO1.out (by omega)⟩
    case true =>
      have hb := HBad.out
      rw [hA] at cA hb
      clear hA
      by_cases h6 : 6 < n1
      · clear hb
        go_enter Try.func42, Try.ntmps42
        go_wp2_with fail
        rw [← Hwb.out, ← Hwc.out]
        refine cA.out.mono ?_
        rintro e w1 ⟨rfl, he1⟩
        have HO1 := Lib.hid (own_keep HOc.out he1)
        have HE1 := Lib.hid (HEc.out.trans he1)
        clear he1
        go_wp2_with fail
        go_ret
        exact ⟨_, rfl, HE.out.trans HE1.out, by rw [HF.out]; exact own_weak HO1.out (by omega)⟩
      · have h1 : (H == 1) = true := by simpa [h6] using hb
        clear hb
        go_enter Try.func42, Try.ntmps42
        go_wp2_with fail
        rw [← Hwb.out, ← Hwc.out]
        refine cA.out.mono ?_
        rintro e w1 ⟨rfl, he1⟩
        have HO1 := Lib.hid (own_keep HOc.out he1)
        have HE1 := Lib.hid (HEc.out.trans he1)
        have k0 := (HE1.out.cellAt w.heap.size hbl 0).trans Hk0.out
        clear he1
        go_wp2_with fail
        go_ret
        exact ⟨_, rfl, HE.out.trans HE1.out, by rw [HF.out]; exact own_weak HO1.out (by omega)⟩
  case false =>
    simp only [Bool.or_eq_false_iff, Bool.not_eq_false', decide_eq_false_iff_not] at hbad
    obtain ⟨⟨hA, h6'⟩, hne⟩ := hbad
    rw [hA] at cA
    have h6 : n1 ≤ 6 := by rw [hl1.out] at h6'; omega
    obtain ⟨hall, hB⟩ : rings.all (ringB H ds) = true ∧ houseB H ds = true := by unfold ringsB at hA; simpa [Bool.and_eq_true] using hA
    obtain ⟨h1, h7, h12, hT, hok, -⟩ := houseB_spec hB
    obtain ⟨h, hh⟩ := Int.eq_ofNat_of_zero_le (show 0 ≤ H by omega)
    subst hh
    have hn12 : n ≤ 12 := by have := hl.out; omega
    have HC : Hid (leastK h ds rings = (setsL n1).foldl (bestStep (keepP h ds rings)) []) := by
      unfold Hid
      rw [← hl1.out]
      exact leastK_yes hB (by rw [hl1.out]; exact h6) hall (by simp at hne; omega) (by omega)
    have HK := Lib.hid hok
    have HA := Lib.hid hall
    have Hset := Lib.hid (fun q => full_set (r := q) (show 1 ≤ h by omega) hok)
    clear hA hall hB hT hok h6' h12
    obtain ⟨T, hT⟩ : ∃ T, T = 2 ^ n1 := ⟨_, rfl⟩
    have hT64 : T ≤ 64 := by rw [hT]; exact Nat.le_trans (Nat.pow_le_pow_right (by omega) h6) (by decide)
    have hT1 : 1 ≤ T := by rw [hT]; exact Nat.one_le_two_pow
    have hw : wrap64 ((2 : Int) ^ n1) = (T : Int) := by
      have e : ((2 : Int) ^ n1) = (T : Int) := by rw [hT]; push_cast; rfl
      rw [e]; exact IntWalk.wrap64_in _ ⟨by omega, by omega⟩
    have HT := Lib.hid hT
    clear hT
    go_enter Try.func42, Try.ntmps42
    go_wp2_with fail
    rw [← Hwb.out, ← Hwc.out]
    refine cA.out.mono ?_
    rintro e w1 ⟨rfl, he1⟩
    have HO1 := Lib.hid (own_keep HOc.out he1)
    have HE1 := Lib.hid (HEc.out.trans he1)
    have k0 := (HE1.out.cellAt w.heap.size hbl 0).trans Hk0.out
    clear he1
    go_wp2_with fail
    clear k0
    go_loopw [5, 6] (fun o i wr => ∃ (s : Nat) (L : List Int), 1 ≤ s ∧ s ≤ T ∧ i = .int .i64 s ∧ wr.ownsRow (w.heap.size + 1) 3 1 o L.length (L.flatMap ienc) ∧ Hid ((setsL n1).foldl (bestStep (keepP h ds rings)) [] = ((List.range' s (T - s)).map (bitsL n1)).foldl (bestStep (keepP h ds rings)) L) ∧ Ext wb wr) (fun _ i _ => T - (intOf i).toNat)
    case atStart => exact ⟨1, [], Nat.le_refl _, hT1, rfl, HO1.out, by rw [HT.out]; rfl, HE1.out⟩
    case round =>
      obtain ⟨wo, rfl⟩ : ∃ wo : World, wo = wr := ⟨_, rfl⟩
      obtain ⟨s, L, hs1, hs, rfl, hown, hz, hb⟩ := hrel
      obtain ⟨Ab, cb, rfl, hncb⟩ := own_form hown
      have HO := Lib.hid hown
      have HB := Lib.hid hb
      have hbo := hb.size
      clear hown hb
      by_cases hlt : s < T
      · have HOi := Lib.hid (own_empty wo wo.heap.size 3 1 (Nat.le_refl _))
        have HEi := Lib.hid ((Ext.refl wo).alloc (.cells #[] 3))
        have hr' : Hid (List.range' s (T - s) = s :: List.range' (s + 1) (T - (s + 1))) := by
          unfold Hid
          have : T - s = (T - (s + 1)) + 1 := by omega
          rw [this, List.range'_succ]
        go_wp2_with fail
        rw [hw]
        go_loopw [7, 8, 9] (fun o z i wi => ∃ (k S : Nat) (L2 : List Int), k ≤ n1 ∧ i = .int .i64 k ∧ z = .int .i64 (S : Int) ∧ S < 4096 ∧ Hid (S = orL rings L2) ∧ wi.ownsRow wo.heap.size 3 1 o L2.length (L2.flatMap ienc) ∧ Hid (L2 = ((List.range k).filter (bitB s)).map fun (k : Nat) => (k : Int)) ∧ Hid (L2.length ≤ k) ∧ Ext wo wi) (fun _ _ i _ => n1 - (intOf i).toNat)
        case atStart => exact ⟨0, 0, [], Nat.zero_le _, rfl, rfl, by omega, rfl, HOi.out, rfl, Nat.zero_le _, HEi.out⟩
        case round =>
          obtain ⟨k, S, L2, hk, rfl, rfl, hS, hSz, hown2, hz2, hLk, hbi⟩ := hrel
          have HO2 := Lib.hid hown2
          have HBi := Lib.hid hbi
          have hsi := hbi.size
          by_cases hlk : k < n1
          · obtain ⟨b, off, r, rfl, hbb, hrk, pb⟩ := ienc_at hxb1.out hlk
            obtain ⟨r0, r4⟩ := ring_at HA.out hrk
            obtain ⟨z, hz0⟩ := Int.eq_ofNat_of_zero_le r0
            have hz4 : z < 4096 := by omega
            have HSn := Lib.hid (orL_snoc rings L2 k r z hrk hz0)
            rw [hz0] at pb
            have p0 := ((HB.out.trans hbi).cellAt b hbb _).trans pb
            have P0 := Lib.hid ((HB.out.cellAt b hbb _).trans pb)
            have HOr := bits_or S z (by omega) (by omega)
            have hlt2 := or_lt4096 hS hz4
            clear hown2 hbi hrk hz0 r0 r4 pb
            have hbt : (bits .and .i64 ((s : Int) / 2 ^ k) 1 == 1) = bitB s k := bit_test s k (by omega)
            cases hbit : bitB s k
            · rw [hbit] at hbt
              have Hbit := Lib.hid hbit
              clear hbit
              go_wp2_with fail
              go_roundw
              case rel => exact ⟨k + 1, S, L2, by omega, by go_num, rfl, hS, hSz, HO2.out, by unfold Hid; rw [hz2.out, List.range_succ, List.filter_append]; simp [Hbit.out], by have := hLk.out; unfold Hid; omega, HBi.out⟩
              case measure => simp [intOf]; omega
            · rw [hbit] at hbt
              have Hbit := Lib.hid hbit
              clear hbit p0
              go_wp2_with (at_builtin; refine (fun h : Hid _ => h.out) ?_)
              unfold Hid
              refine append1G ei_I rfl _ _ rfl wo.heap.size wr _ _ L2.length _ (by rfl) HO2.out [.int .i64 k] (by rfl) rfl (one_int1 _) (by have := hLk.out; omega) hsi ?_
              intro v' w2 row ho2 hg2 hr2
              have HO3 := Lib.hid ho2
              have HE3 := Lib.hid (grown_ext hg2 hr2 HBi.out (Nat.le_refl _))
              have p0 := (HE3.out.cellAt b (by omega) _).trans P0.out
              clear ho2 hg2 hr2
              go_wp2_with fail
              go_roundw
              case rel => exact ⟨k + 1, S ||| z, L2 ++ [(k : Int)], by omega, by go_num, by first | rfl | rw [HOr], hlt2, by unfold Hid; rw [HSn.out, ← hSz.out], by have := HO3.out; simpa [ienc] using this, by unfold Hid; rw [hz2.out, List.range_succ, List.filter_append]; simp [Hbit.out], by unfold Hid; have := hLk.out; simp; omega, HE3.out⟩
              case measure => simp [intOf]; omega
          · obtain rfl : k = n1 := by omega
            have HL2 : Hid (bitsL k s = L2) := by unfold Hid; rw [hz2.out]; rfl
            obtain ⟨Al, cl, rfl, hncl⟩ := own_form hown2
            have HE2 := Lib.hid (HB.out.trans hbi)
            clear hown2 hbi
            have k0 := (HE2.out.cellAt w.heap.size hbl 0).trans Hk0.out
            have k1 := (HE2.out.cellAt w.heap.size hbl 1).trans Hk1.out
            have y0 := cell_regrown k0
            have y1 := cell_regrown k1
            have hset := Hset.out S
            rw [← cmp_pow1 (by omega)] at hset
            have HPm : Hid (keepP h ds rings L2 = fullB h ds (S : Int)) := by unfold Hid keepP; rw [hSz.out]
            have cH := Lib.hid (fun d os => spec_l37Reached h A n c ds 0 S (grow (redrawn wr d) os) ((hxb.out.keep HE2.out).keep (ext_rg wr d os)) HK (by omega) hn12 (by omega) (by omega))
            have cL := Lib.hid (fun d os => spec_l19Less Al L2.length cl L2 Ab L.length cb L (grow (redrawn wr d) os) ((Rd.of_own HO2.out).keep (ext_rg wr d os)) ((Rd.of_own HO.out).keep (HBi.out.trans (ext_rg wr d os))))
            obtain ⟨R, hR⟩ : ∃ R, R = reached (opened S ds) 0 h := ⟨_, rfl⟩
            rw [← hR] at cH hset
            have HR := Lib.hid hR
            have HF : Hid (∀ X, bestStep (keepP h ds rings) L L2 = X → (setsL k).foldl (bestStep (keepP h ds rings)) [] = ((List.range' (s + 1) (T - (s + 1))).map (bitsL k)).foldl (bestStep (keepP h ds rings)) X) := by
              unfold Hid; intro X hX; rw [hz.out, hr'.out, List.map_cons, List.foldl_cons, HL2.out, hX]
            clear hw hR
            obtain ⟨t, ht⟩ : ∃ t, t = fullB h ds (S : Int) := ⟨_, rfl⟩
            rw [← ht] at hset HPm
            clear ht
            cases t
            · have hst : Hid (bestStep (keepP h ds rings) L L2 = L) := by unfold Hid bestStep; rw [HPm.out]; rfl
              go_wp2_with fail
              (refine wp_region_ext (by kernel_rfl) (by kernel_rfl) ?_; (repeat (go_big_quiet_step (first | (go_at_call 74; with_reducible exact Calls.rg (cH.out _ _)) | (go_at_call 82; with_reducible exact Calls.rg (cL.out _ _))))); refine wpQuiet_nil ?_)
              intro w3 he3
              have HE3 := Lib.hid (HE2.out.trans he3)
              have HO3 := Lib.hid (own_keep HO2.out he3)
              have HO4 := Lib.hid (own_keep HO.out (HBi.out.trans he3))
              clear he3 k0 k1 y0 y1
              go_wp2_with fail
              go_roundw
              case rel => exact ⟨s + 1, L, by omega, by omega, by go_num, HO4.out, HF.out L hst.out, HE3.out⟩
              case measure => simp [intOf]; omega
            by_cases e0 : L.length = 0
            · have hst : Hid (bestStep (keepP h ds rings) L L2 = L2) := by unfold Hid bestStep; rw [HPm.out, List.eq_nil_of_length_eq_zero e0]; rfl
              have f0 : ((L.length : Int) == 0) = true := by rw [beq_iff_eq]; omega
              have f1 : (L.length == 0) = true := by rw [beq_iff_eq]; exact e0
              clear e0
              go_wp2_with fail
              (refine wp_region_ext (by kernel_rfl) (by kernel_rfl) ?_; (repeat (go_big_quiet_step (first | (go_at_call 74; with_reducible exact Calls.rg (cH.out _ _)) | (go_at_call 82; with_reducible exact Calls.rg (cL.out _ _))))); refine wpQuiet_nil ?_)
              intro w3 he3
              have HE3 := Lib.hid (HE2.out.trans he3)
              have HO3 := Lib.hid (own_keep HO2.out he3)
              have HO4 := Lib.hid (own_keep HO.out (HBi.out.trans he3))
              clear he3 k0 k1 y0 y1
              go_wp2_with fail
              go_roundw
              case rel => exact ⟨s + 1, L2, by omega, by omega, by go_num, own_weak HO3.out (by have := Hsb.out; omega), HF.out L2 hst.out, HE3.out⟩
              case measure => simp [intOf]; omega
            have f0 : ((L.length : Int) == 0) = false := by rw [beq_eq_false_iff_ne]; omega
            have hbet : Hid (better L L2 = ltr L2 L) := by
              unfold Hid; cases L with
              | nil => exact absurd rfl e0
              | cons _ _ => rfl
            by_cases e1 : L2.length < L.length
            · have hst : Hid (bestStep (keepP h ds rings) L L2 = L2) := by unfold Hid bestStep; rw [HPm.out, hbet.out, ltr, decide_eq_true e1]; rfl
              have d1 : decide (L2.length < L.length) = true := by simpa using e1
              go_wp2_with fail
              (refine wp_region_ext (by kernel_rfl) (by kernel_rfl) ?_; (repeat (go_big_quiet_step (first | (go_at_call 74; with_reducible exact Calls.rg (cH.out _ _)) | (go_at_call 82; with_reducible exact Calls.rg (cL.out _ _))))); refine wpQuiet_nil ?_)
              intro w3 he3
              have HE3 := Lib.hid (HE2.out.trans he3)
              have HO3 := Lib.hid (own_keep HO2.out he3)
              have HO4 := Lib.hid (own_keep HO.out (HBi.out.trans he3))
              clear he3 k0 k1 y0 y1
              go_wp2_with fail
              go_roundw
              case rel => exact ⟨s + 1, L2, by omega, by omega, by go_num, own_weak HO3.out (by have := Hsb.out; omega), HF.out L2 hst.out, HE3.out⟩
              case measure => simp [intOf]; omega
            have d1 : decide (L2.length < L.length) = false := by simpa using e1
            by_cases e2 : L2.length = L.length
            case neg =>
              have hst : Hid (bestStep (keepP h ds rings) L L2 = L) := by unfold Hid bestStep; rw [HPm.out, hbet.out, ltr, decide_eq_false e1, beq_eq_false_iff_ne.2 e2]; rfl
              have f2 : ((L2.length : Int) == (L.length : Int)) = false := by rw [beq_eq_false_iff_ne]; omega
              go_wp2_with fail
              (refine wp_region_ext (by kernel_rfl) (by kernel_rfl) ?_; (repeat (go_big_quiet_step (first | (go_at_call 74; with_reducible exact Calls.rg (cH.out _ _)) | (go_at_call 82; with_reducible exact Calls.rg (cL.out _ _))))); refine wpQuiet_nil ?_)
              intro w3 he3
              have HE3 := Lib.hid (HE2.out.trans he3)
              have HO3 := Lib.hid (own_keep HO2.out he3)
              have HO4 := Lib.hid (own_keep HO.out (HBi.out.trans he3))
              clear he3 k0 k1 y0 y1
              go_wp2_with fail
              go_roundw
              case rel => exact ⟨s + 1, L, by omega, by omega, by go_num, HO4.out, HF.out L hst.out, HE3.out⟩
              case measure => simp [intOf]; omega
            have f2 : ((L2.length : Int) == (L.length : Int)) = true := by rw [beq_iff_eq]; omega
            have E2 := Lib.hid e2
            clear e2
            cases hle : lessL L2 L
            · have hst : Hid (bestStep (keepP h ds rings) L L2 = L) := by unfold Hid bestStep; rw [HPm.out, hbet.out, ltr, decide_eq_false e1, hle, Bool.and_false]; rfl
              rw [hle] at cL
              go_wp2_with fail
              (refine wp_region_ext (by kernel_rfl) (by kernel_rfl) ?_; (repeat (go_big_quiet_step (first | (go_at_call 74; with_reducible exact Calls.rg (cH.out _ _)) | (go_at_call 82; with_reducible exact Calls.rg (cL.out _ _))))); refine wpQuiet_nil ?_)
              intro w3 he3
              have HE3 := Lib.hid (HE2.out.trans he3)
              have HO3 := Lib.hid (own_keep HO2.out he3)
              have HO4 := Lib.hid (own_keep HO.out (HBi.out.trans he3))
              clear he3 k0 k1 y0 y1
              go_wp2_with fail
              go_roundw
              case rel => exact ⟨s + 1, L, by omega, by omega, by go_num, HO4.out, HF.out L hst.out, HE3.out⟩
              case measure => simp [intOf]; omega
            · have hst : Hid (bestStep (keepP h ds rings) L L2 = L2) := by unfold Hid bestStep; rw [HPm.out, hbet.out, ltr, decide_eq_false e1, hle, beq_iff_eq.2 E2.out]; rfl
              rw [hle] at cL
              go_wp2_with fail
              (refine wp_region_ext (by kernel_rfl) (by kernel_rfl) ?_; (repeat (go_big_quiet_step (first | (go_at_call 74; with_reducible exact Calls.rg (cH.out _ _)) | (go_at_call 82; with_reducible exact Calls.rg (cL.out _ _))))); refine wpQuiet_nil ?_)
              intro w3 he3
              have HE3 := Lib.hid (HE2.out.trans he3)
              have HO3 := Lib.hid (own_keep HO2.out he3)
              have HO4 := Lib.hid (own_keep HO.out (HBi.out.trans he3))
              clear he3 k0 k1 y0 y1
              go_wp2_with fail
              go_roundw
              case rel => exact ⟨s + 1, L2, by omega, by omega, by go_num, own_weak HO3.out (by have := Hsb.out; omega), HF.out L2 hst.out, HE3.out⟩
              case measure => simp [intOf]; omega
      · obtain rfl : s = T := by omega
        have h2 : leastK h ds rings = L := by rw [HC.out, hz.out, Nat.sub_self]; rfl
        go_wp2_with fail
        go_ret
        exact ⟨_, rfl, HE.out.trans HB.out, by rw [h2]; exact own_weak HO.out (by omega)⟩
end Go.Proofs.Ytcmbjkidgemdaaa
