/- Texts of one proof, laid one behind the other (SHw, SHx, MX, H1, H2, S7, SD1); no condition but what stands at each theorem. -/
import Derived.Test.YtfhibjehnoibeaaProg
import Derived.KernelRfl
import Derived.Test.YtfhibjehnoibeaaZA
import Derived.Test.YtfhibjehnoibeaaZB
import Derived.Test.YtfhibjehnoibeaaZC
/- Contracts of the program's FewestKeepers and of its test; no condition but what stands at each theorem. -/
namespace Go.Proofs.Ytfhibjehnoibeaa
set_option linter.unusedSimpArgs false
set_option linter.unusedVariables false
open Go.RowKit Go.Sort
def orS (rings : List Int) (s : Nat) (i : Int) : Nat := s ||| (rings.getD i.toNat 0).toNat
def orL (rings b : List Int) : Nat := b.foldl (orS rings) 0
def keepP (h : Nat) (ds : List GDoor) (rings b : List Int) : Bool := fullB h ds ((orL rings b : Nat) : Int)
def findK (n : Nat) (p : List Int → Bool) : Option (List Int) := (List.range' 0 (n + 1)).findSome? fun (m : Nat) => (lsts n m []).find? p
def leastK (H : Int) (ds : List GDoor) (rings : List Int) : List Int := if houseB H ds && (decide (rings.length ≤ 6) && rings.all (ringB H ds)) then (findK rings.length (keepP H.toNat ds rings)).getD [] else []
theorem box21 (w : World) (a0 a1 p : Value) (t1 t2 : TypeId) (wb : World) (hwb : wb = (w.alloc (.cells #[a0, a1] t1)).alloc (.cells #[p] t2)) :
    Ext w wb ∧ wb.heap.size = w.heap.size + 1 + 1 ∧ wb.cell? ⟨w.heap.size, 0, none⟩ = some a0 ∧ wb.cell? ⟨w.heap.size, 1, none⟩ = some a1 ∧ wb.cell? ⟨w.heap.size + 1, 0, none⟩ = some p := by
  subst hwb
  refine ⟨((Ext.refl w).alloc _).alloc _, by simp, ?_, ?_, ?_⟩
  · rw [World.cell?_alloc_lt _ _ _ (by simp), World.cell?_alloc_new]; rfl
  · rw [World.cell?_alloc_lt _ _ _ (by simp), World.cell?_alloc_new]; rfl
  · have h : w.heap.size + 1 = (w.alloc (.cells #[a0, a1] t1)).heap.size := by simp
    rw [h, World.cell?_alloc_new]; rfl
theorem or_lt4096 {s t : Nat} (hs : s < 4096) (ht : t < 4096) : s ||| t < 4096 := Nat.or_lt_two_pow (n := 12) hs ht
theorem ring_at {H : Int} {ds : List GDoor} {rings : List Int} (h : rings.all (ringB H ds) = true) {q : Nat} {r : Int} (hr : rings[q]? = some r) : 0 ≤ r ∧ r ≤ 4095 :=
  (ringB_spec (List.all_eq_true.1 h r (List.mem_of_getElem? hr))).2
set_option maxRecDepth 100000 in
set_option maxHeartbeats 2000000 in
theorem keep_tst (h : Nat) (A : Option Addr) (n c : Nat) (ds : List GDoor) (A1 : Option Addr) (n1 c1 : Nat) (rings : List Int) (W0 : World) (b1 b2 : Nat) (hb1 : b1 < W0.heap.size) (hb2 : b2 < W0.heap.size)
    (hq1 : W0.cell? ⟨b1, 0, none⟩ = some (.slice A1 n1 c1)) (hq2 : W0.cell? ⟨b2, 0, none⟩ = some (.int .i64 (h : Int))) (hq3 : W0.cell? ⟨b2, 1, none⟩ = some (.slice A n c))
    (hx : Rd W0 2 A n (ds.flatMap GDoor.enc)) (hx1 : Rd W0 1 A1 n1 (rings.flatMap ienc)) (hs : Hid (NoTwice ds)) (h1 : 1 ≤ h) (h7 : h ≤ 7) (hn12 : n ≤ 12) (hall : Hid (rings.all (ringB h ds) = true)) :
    Tst2 16 (.pointer (some ⟨b1, 0, none⟩)) (.pointer (some ⟨b2, 0, none⟩)) n1 (keepP h ds rings) W0 := by
  intro w A4 k c4 b hW hx4 hib hk6
  have hl := Lib.hid (hx4.len ienc_len (by omega))
  have hib' := Lib.hid hib
  have hnn1 := hx1.2.1
  have S1 := Lib.hid ((hW.cellAt b1 hb1 0).trans hq1)
  have S2 := Lib.hid ((hW.cellAt b2 hb2 0).trans hq2)
  have S3 := Lib.hid ((hW.cellAt b2 hb2 1).trans hq3)
  have hsW := hW.size
  clear hib hq1 hq2 hq3
  go_enter Try.func16, Try.ntmps16
  go_wp2_with fail
  go_loopw [5, 10] (fun s i wr => ∃ j S : Nat, j ≤ k ∧ i = .int .i64 j ∧ s = .int .i64 (S : Int) ∧ S < 4096 ∧ Hid (orL rings b = (b.drop j).foldl (orS rings) S) ∧ Ext w wr) (fun _ i _ => k - (intOf i).toNat)
  case atStart => exact ⟨0, 0, Nat.zero_le _, rfl, rfl, by omega, rfl, Ext.refl _⟩
  case round =>
    obtain ⟨j, S, hj, rfl, rfl, hS, hz, hb⟩ := hrel
    have r1 := (hb.cellAt b1 (by omega) 0).trans S1.out
    have r2 := (hb.cellAt b2 (by omega) 0).trans S2.out
    have r3 := (hb.cellAt b2 (by omega) 1).trans S3.out
    by_cases hlt : j < k
    · obtain ⟨bb, off, x, rfl, hbs, hxk, p0⟩ := ienc_at (hx4.keep hb) hlt
      have hxb := hib'.out x (List.mem_of_getElem? hxk)
      obtain ⟨q, rfl⟩ := Int.eq_ofNat_of_zero_le hxb.1
      have hq : q < n1 := by omega
      obtain ⟨b0, off0, r, rfl, hbs0, hrk, g0⟩ := ienc_at (hx1.keep (hW.trans hb)) hq
      obtain ⟨r0, r4⟩ := ring_at hall.out hrk
      obtain ⟨z, hz0⟩ := Int.eq_ofNat_of_zero_le r0
      rw [hz0] at g0
      have hz4 : z < 4096 := by omega
      have HOr := bits_or S z (by omega) (by omega)
      have hlt2 := or_lt4096 hS hz4
      have HS : Hid (orL rings b = (b.drop (j + 1)).foldl (orS rings) (S ||| z)) := by
        unfold Hid; rw [hz.out, drop_cons hxk, List.foldl_cons, orS, Int.toNat_natCast, getD_of' hrk, hz0, Int.toNat_natCast]
      have HB := Lib.hid hb
      have i0 : (0 : Int) ≤ (q : Int) := by omega
      have i1 : (q : Int) < (n1 : Int) := by omega
      clear hxk hrk hxb hb hz0 r0 r4
      go_wp2_with fail
      go_roundw
      case rel => exact ⟨j + 1, S ||| z, by omega, by go_num, by first | rfl | rw [HOr], hlt2, HS, HB.out⟩
      case measure => simp [intOf]; omega
    · obtain rfl : j = k := by omega
      have HZ : Hid (keepP h ds rings b = fullB h ds (S : Int)) := by unfold Hid keepP; rw [hz.out, drop_nil (by rw [hl.out]; omega)]; rfl
      have cH := Lib.hid (impl_hallsWith h A n c ds 0 S (wr.drewN 1) ((hx.keep (hW.trans hb)).keep ((Ext.refl wr).drewN 1)) hs h1 h7 hn12 (by omega) (by omega))
      have hcmp : (((hallsL ds h 0 S).length : Int) == (h : Int)) = fullB h ds (S : Int) := by
        unfold fullB; rw [Bool.eq_iff_iff]; simp only [Int.toNat_natCast, beq_iff_eq]; omega
      have hL7 := hallsL_len ds h 0 S
      have HB := Lib.hid hb
      have hbs := hb.size
      clear hb
      obtain ⟨t, ht⟩ : ∃ t, t = fullB h ds (S : Int) := ⟨_, rfl⟩
      rw [← ht] at hcmp HZ
      clear ht
      go_wp2_with fail
      cases t
      all_goals
        go_region_held3 (fun w' => w'.cell? ⟨b2, 0, none⟩ = some (.int .i64 (h : Int)) ∧ w'.cell? ⟨b2, 1, none⟩ = some (.slice A n c)) (go_keep) ((go_at_call 17; refine (cH.out).mono ?_; rintro e w3 ⟨v3, rfl, he3, ho3⟩; obtain ⟨A3, c3, rfl, hnc3⟩ := own_form ho3; have y0 := he3.cellAt b2 (by simp; omega) 0; have y1 := he3.cellAt b2 (by simp; omega) 1))
        have HE3 := Lib.hid (HB.out.trans (((Ext.refl _).drewN 1).trans he3))
        clear he3 ho3 y0 y1 r1 r2 r3
        go_wp2_with fail
        go_ret
        exact ⟨ret_bool HZ.out.symm, HE3.out⟩
set_option maxRecDepth 100000 in
set_option maxHeartbeats 4000000 in
theorem impl_FewestKeepers (H : Int) (A : Option Addr) (n c : Nat) (ds : List GDoor) (A1 : Option Addr) (n1 c1 : Nat) (rings : List Int) (w : World) (hx : Rd w 2 A n (ds.flatMap GDoor.enc)) (hx1 : Rd w 1 A1 n1 (rings.flatMap ienc)) (hn1 : n1 ≤ 1048576) :
    Calls Try.prog 6 #[.agg #[.int .i64 H, .slice A n c], .slice A1 n1 c1] w (OwnL (leastK H ds rings) w) := by
  have hl := Lib.hid (hx.len GDoor.len (by omega))
  have hl1 := Lib.hid (hx1.len ienc_len (by omega))
  obtain ⟨wb, hwb⟩ : ∃ wb, wb = (w.alloc (.cells #[.int .i64 H, .slice A n c] 26)).alloc (.cells #[.slice A1 n1 c1] 27) := ⟨_, rfl⟩
  obtain ⟨hE, hsb, q1, q2, q3⟩ := box21 w _ _ _ _ _ wb hwb
  have HE := Lib.hid hE
  have Hwb := Lib.hid hwb
  have Q1 := Lib.hid q1
  have Q2 := Lib.hid q2
  have Q3 := Lib.hid q3
  have hxb := Lib.hid (hx.keep hE)
  have hxb1 := Lib.hid (hx1.keep hE)
  have hbl : w.heap.size + 1 < wb.heap.size := by omega
  have cO := Lib.hid (impl_HouseOk H A n c ds wb hxb.out)
  clear hE hwb q1 q2 q3 hx hx1 hsb
  cases hB : houseB H ds
  case false =>
    rw [hB] at cO
    have HF : Hid (leastK H ds rings = []) := by unfold Hid leastK; rw [hB]; rfl
    clear hB
    have q1 := Q1.out
    have q2 := Q2.out
    go_enter Try.func6, Try.ntmps6
    go_wp2_with fail
    rw [← Hwb.out]
    refine cO.out.mono ?_
    rintro e w1 ⟨rfl, he1⟩
    have HE1 := Lib.hid he1
    clear he1 q1 q2
    go_wp2_with fail
    go_ret
    exact ⟨_, rfl, HE.out.trans HE1.out, by rw [HF.out]; exact World.ownsRow_nil _ _ _ _⟩
  rw [hB] at cO
  by_cases h6 : n1 ≤ 6
  case neg =>
    have HF : Hid (leastK H ds rings = []) := by unfold Hid leastK; rw [decide_eq_false (show ¬ rings.length ≤ 6 by rw [hl1.out]; exact h6)]; simp
    clear hB
    go_enter Try.func6, Try.ntmps6
    go_wp2_with fail
    rw [← Hwb.out]
    refine cO.out.mono ?_
    rintro e w1 ⟨rfl, he1⟩
    have q3 := (he1.cellAt (w.heap.size + 1) hbl 0).trans Q3.out
    have HE1 := Lib.hid he1
    clear he1
    go_wp2_with fail
    go_ret
    exact ⟨_, rfl, HE.out.trans HE1.out, by rw [HF.out]; exact World.ownsRow_nil _ _ _ _⟩
  have cR := Lib.hid (fun x w1 (he : Ext wb w1) => impl_RingOk H A n c ds x w1 (hxb.out.keep he))
  have HB := Lib.hid hB
  clear hB
  go_enter Try.func6, Try.ntmps6
  go_wp2_with fail
  rw [← Hwb.out]
  refine cO.out.mono ?_
  rintro e w1 ⟨rfl, he1⟩
  have q3 := (he1.cellAt (w.heap.size + 1) hbl 0).trans Q3.out
  have HE1 := Lib.hid he1
  clear he1
  go_wp2_with fail
  clear q3
  go_loopw [20] (fun i wr => ∃ k : Nat, k ≤ n1 ∧ i = .int .i64 k ∧ Hid (rings.all (ringB H ds) = (rings.drop k).all (ringB H ds)) ∧ Ext wb wr) (fun i _ => n1 - (intOf i).toNat)
  case atStart => exact ⟨0, Nat.zero_le _, rfl, rfl, HE1.out⟩
  case round =>
    obtain ⟨k, hk, rfl, hz, hb⟩ := hrel
    have k0 := (hb.cellAt w.heap.size (by omega) 0).trans Q1.out
    have k1 := (hb.cellAt w.heap.size (by omega) 1).trans Q2.out
    have k2 := (hb.cellAt (w.heap.size + 1) hbl 0).trans Q3.out
    by_cases hlt : k < n1
    · obtain ⟨b, off, x, rfl, hbb, hxk, p0⟩ := ienc_at (hxb1.out.keep hb) hlt
      have HD := Lib.hid (drop_cons hxk)
      have HBb := Lib.hid hb
      have cRx := Lib.hid (cR.out x wr hb)
      clear hb hxk
      cases hR : ringB H ds x
      case false =>
        rw [hR] at cRx
        have HF : Hid (leastK H ds rings = []) := by unfold Hid leastK; rw [hz.out, HD.out]; simp [hR]
        clear hR
        go_wp2_with fail
        refine cRx.out.mono ?_
        rintro e w3 ⟨rfl, he3⟩
        have HE3 := Lib.hid (HBb.out.trans he3)
        clear he3 k0 k1 k2
        go_wp2_with fail
        go_ret
        exact ⟨_, rfl, HE.out.trans HE3.out, by rw [HF.out]; exact World.ownsRow_nil _ _ _ _⟩
      case true =>
        rw [hR] at cRx
        have HF : Hid (rings.all (ringB H ds) = (rings.drop (k + 1)).all (ringB H ds)) := by unfold Hid; rw [hz.out, HD.out]; simp [hR]
        clear hR
        go_wp2_with fail
        refine cRx.out.mono ?_
        rintro e w3 ⟨rfl, he3⟩
        have HE3 := Lib.hid (HBb.out.trans he3)
        clear he3 k0 k1 k2
        go_wp2_with fail
        go_roundw
        case rel => exact ⟨k + 1, by omega, by go_num, HF, HE3.out⟩
        case measure => simp [intOf]; omega
    · obtain rfl : k = n1 := by omega
      obtain ⟨wo, rfl⟩ : ∃ wo : World, wo = wr := ⟨_, rfl⟩
      have hall : rings.all (ringB H ds) = true := by rw [hz.out, drop_nil (by rw [hl1.out]; omega)]; rfl
      obtain ⟨h1, h7, h12, hT, hok, -⟩ := houseB_spec HB.out
      obtain ⟨h, hh⟩ := Int.eq_ofNat_of_zero_le (show 0 ≤ H by omega)
      subst hh
      have HT := Lib.hid hT
      have HA := Lib.hid hall
      have HF : Hid (leastK h ds rings = (findK k (keepP h ds rings)).getD []) := by
        unfold Hid leastK; rw [HB.out, hall, hl1.out, decide_eq_true h6]; rfl
      have hn12 : n ≤ 12 := by have := hl.out; omega
      have HTs := Lib.hid (keep_tst h A n c ds A1 k c1 rings wo (w.heap.size + 1) w.heap.size (by have := hb.size; omega) (by have := hb.size; omega) k2 k0 k1 (hxb.out.keep hb) (hxb1.out.keep hb) HT (by omega) (by omega) hn12 HA)
      have HBb := Lib.hid hb
      have K2 := Lib.hid k2
      have hbs := hb.size
      clear hb hall hT hok hz h12
      go_wp2_with fail
      clear k0 k1 k2
      go_loopw [8] (fun i wr => ∃ m : Nat, m ≤ k + 1 ∧ i = .int .i64 m ∧ Hid (findK k (keepP h ds rings) = (List.range' m (k + 1 - m)).findSome? fun (m : Nat) => (lsts k m []).find? (keepP h ds rings)) ∧ Ext wo wr) (fun i _ => k + 1 - (intOf i).toNat)
      case atStart => exact ⟨0, by omega, rfl, rfl, Ext.refl _⟩
      case round =>
        obtain ⟨m, hm, rfl, hz, hb⟩ := hrel
        have k2 := (hb.cellAt (w.heap.size + 1) (by omega) 0).trans K2.out
        by_cases hlt : m ≤ k
        · have hr' : Hid (List.range' m (k + 1 - m) = m :: List.range' (m + 1) (k + 1 - (m + 1))) := by
            unfold Hid
            have : k + 1 - m = (k + 1 - (m + 1)) + 1 := by omega
            rw [this, List.range'_succ]
          have HBr := Lib.hid hb
          have HCall := Lib.hid (impl_firstList2 _ _ k h6 (keepP h ds rings) wo HTs.out m [] none 0 0 wr hb (Rd.nil _ _) (Nat.le_refl _) (by unfold Hid; intro; rfl) (by unfold Hid; intro x hx; simp at hx) (by omega))
          clear hb
          go_wp2_with fail
          refine HCall.out.mono ?_
          clear HCall
          rintro e w5 (⟨hF, rfl, he5⟩ | ⟨L, g, c', hF, rfl, he5, ho5⟩)
          · have HE5 := Lib.hid (HBr.out.trans he5)
            have HFx := Lib.hid hF
            clear hF he5 k2
            go_wp2_with fail
            go_roundw
            case rel => exact ⟨m + 1, by omega, by go_num, by unfold Hid; rw [hz.out, hr'.out, List.findSome?_cons, HFx.out], HE5.out⟩
            case measure => simp [intOf]; omega
          · have HE5 := Lib.hid (HE.out.trans (HBb.out.trans (HBr.out.trans he5)))
            have HFx := Lib.hid hF
            have hs4 := (HE.out.trans (HBb.out.trans HBr.out)).size
            have HO5 := Lib.hid (own_weak ho5 hs4)
            clear hF he5 ho5 k2
            go_wp2_with fail
            go_ret
            have hC : leastK h ds rings = L := by rw [HF.out, hz.out, hr'.out, List.findSome?_cons, HFx.out]; rfl
            exact ⟨_, rfl, HE5.out, by rw [hC]; exact HO5.out⟩
        · obtain rfl : m = k + 1 := by omega
          have HBr := Lib.hid hb
          clear hb
          go_wp2_with fail
          go_ret
          have hC : leastK h ds rings = [] := by rw [HF.out, hz.out, Nat.sub_self]; rfl
          exact ⟨_, rfl, HE.out.trans (HBb.out.trans HBr.out), by rw [hC]; exact World.ownsRow_nil _ _ _ _⟩
end Go.Proofs.Ytfhibjehnoibeaa
/- Contract of the reference's FewestKeepers; no condition but what stands at each theorem. -/
namespace Go.Proofs.Ytfhibjehnoibeaa
set_option linter.unusedSimpArgs false
set_option linter.unusedVariables false
open Go.RowKit Go.Sort
theorem opened_zero : ∀ ds : List GDoor, opened 0 ds = []
  | [] => rfl
  | d :: ds => by unfold opened; exact opened_zero ds
theorem ball_nil (h : Nat) : ∀ n k, ball [] h 0 n k = (k == 0)
  | 0, k => rfl
  | n + 1, k => by
    have : ∀ j : Nat, (ball [] h 0 n j && doorB [] j k) = false := by intro j; simp [doorB]
    simp [ball, ball_nil h n k, this]
theorem full_zero (h : Nat) (ds : List GDoor) (h1 : 1 ≤ h) : fullB h ds 0 = (h == 1) := by
  unfold fullB hallsL
  rw [Int.toNat_natCast, show ((0 : Int).toNat) = 0 from rfl, opened_zero]
  have e : (List.range h).filter (reachB [] h 0) = [0] := by
    have e1 : (List.range h).filter (reachB [] h 0) = (List.range h).filter fun k => k == 0 := by
      apply List.filter_congr
      intro k hk
      rw [reach_ball [] (by omega) (by simpa using hk), ball_nil]
    rw [e1]
    obtain ⟨m, rfl⟩ : ∃ m, h = m + 1 := ⟨h - 1, by omega⟩
    rw [List.range_succ_eq_map, List.filter_cons]
    simp [List.filter_map]
  rw [e, Bool.eq_iff_iff]
  simp
  omega
theorem leastK_no {H : Int} {ds : List GDoor} {rings : List Int} (h : (!ringsB H ds rings || decide (6 < rings.length) || (H == 1)) = true) : leastK H ds rings = [] := by
  unfold leastK
  split
  · rename_i hc
    simp only [Bool.and_eq_true, decide_eq_true_eq] at hc
    obtain ⟨hB, h6, hall⟩ := hc
    have h7 : ringsB H ds rings = true := by unfold ringsB; rw [hall, hB]; rfl
    have h8 : decide (6 < rings.length) = false := by simp; omega
    rw [h7, h8] at h
    simp at h
    subst h
    have hp : keepP 1 ds rings [] = true := by
      have := full_zero 1 ds (by omega)
      unfold keepP orL
      simpa using this
    unfold findK
    rw [List.range'_succ, List.findSome?_cons]
    simp [lsts, hp]
  · rfl
theorem leastK_yes {h : Nat} {ds : List GDoor} {rings : List Int} (hB : houseB h ds = true) (h6 : rings.length ≤ 6) (hall : rings.all (ringB h ds) = true) (h1 : h ≠ 1) (h0 : 1 ≤ h) :
    leastK h ds rings = (setsL rings.length).foldl (bestStep (keepP h ds rings)) [] := by
  have hp : keepP h ds rings [] = false := by
    have := full_zero h ds h0
    unfold keepP orL
    simp only [List.foldl_nil]
    have e : ((0 : Nat) : Int) = 0 := rfl
    rw [e, this]
    simpa using h1
  unfold leastK
  rw [hB, hall, decide_eq_true h6, best_eq h6, allL_find]
  simp only [Bool.and_self, if_true]
  unfold findK
  rw [List.range'_succ, List.findSome?_cons]
  simp [lsts, hp]
theorem orL_snoc (rings b : List Int) (k : Nat) (r : Int) (z : Nat) (hr : rings[k]? = some r) (hz : r = (z : Int)) : orL rings (b ++ [(k : Int)]) = orL rings b ||| z := by
  unfold orL
  rw [List.foldl_append]
  simp only [List.foldl_cons, List.foldl_nil, orS]
  rw [Int.toNat_natCast, getD_of' hr, hz, Int.toNat_natCast]
end Go.Proofs.Ytfhibjehnoibeaa
/- A house of a tree of halls with some further doors is a valid house, in plain Lean; no condition. -/
namespace Go.Proofs.Ytfhibjehnoibeaa
set_option linter.unusedSimpArgs false
set_option linter.unusedVariables false
theorem sub_len : ∀ (l t : List Nat), l.Nodup → (∀ x ∈ l, x ∈ t) → l.length ≤ t.length
  | [], t, _, _ => by simp
  | x :: l, t, hd, h => by
    have hx := h x (List.mem_cons_self ..)
    have h1 := List.nodup_cons.1 hd
    have h2 := sub_len l (t.erase x) h1.2 (fun y hy => (List.mem_erase_of_ne (fun e => h1.1 (by rw [← e]; exact hy))).2 (h y (List.mem_cons_of_mem _ hy)))
    rw [List.length_erase_of_mem hx] at h2
    have := List.length_pos_of_mem hx
    simp only [List.length_cons]
    omega
/-- The doors of hall a to later halls. -/
def rowTo (tr : List Nat) (a b : Nat) : List GDoor := ((List.range' (a + 1) (b - (a + 1))).filter fun c => decide (a * 7 + c ∈ tr)).map fun (c : Nat) => ⟨(a : Int), (c : Int)⟩
def dsTo (H : Nat) (tr : List Nat) (a : Nat) : List GDoor := (List.range a).flatMap fun a => rowTo tr a H
theorem rowTo_zero (tr : List Nat) (a : Nat) : rowTo tr a (a + 1) = [] := by simp [rowTo]
theorem rowTo_succ (tr : List Nat) (a b : Nat) (h : a + 1 ≤ b) : rowTo tr a (b + 1) = rowTo tr a b ++ if a * 7 + b ∈ tr then [⟨(a : Int), (b : Int)⟩] else [] := by
  unfold rowTo
  obtain ⟨m, rfl⟩ : ∃ m, b = a + 1 + m := ⟨b - (a + 1), by omega⟩
  rw [show a + 1 + m + 1 - (a + 1) = m + 1 by omega, show a + 1 + m - (a + 1) = m by omega, List.range'_concat, List.filter_append, List.map_append, Nat.one_mul]
  congr 1
  by_cases hm : a * 7 + (a + 1 + m) ∈ tr
  · rw [if_pos hm]; simp [hm]
  · rw [if_neg hm]; simp [hm]
theorem dsTo_succ (H : Nat) (tr : List Nat) (a : Nat) : dsTo H tr (a + 1) = dsTo H tr a ++ rowTo tr a H := by simp [dsTo, List.range_succ]
theorem mem_rowTo {tr : List Nat} {a b : Nat} {d : GDoor} (h : d ∈ rowTo tr a b) : ∃ c : Nat, d = ⟨(a : Int), (c : Int)⟩ ∧ a < c ∧ c < b ∧ a * 7 + c ∈ tr := by
  unfold rowTo at h
  obtain ⟨c, hc, rfl⟩ := List.mem_map.1 h
  obtain ⟨h1, h2⟩ := List.mem_filter.1 hc
  rw [List.mem_range'_1] at h1
  exact ⟨c, rfl, by omega, by omega, by simpa using h2⟩
theorem mem_dsTo {H : Nat} {tr : List Nat} {a : Nat} {d : GDoor} (h : d ∈ dsTo H tr a) : ∃ b c : Nat, d = ⟨(b : Int), (c : Int)⟩ ∧ b < a ∧ b < c ∧ c < H ∧ b * 7 + c ∈ tr := by
  unfold dsTo at h
  obtain ⟨b, hb, hd⟩ := List.mem_flatMap.1 h
  obtain ⟨c, h1, h2, h3, h4⟩ := mem_rowTo hd
  exact ⟨b, c, h1, List.mem_range.1 hb, h2, h3, h4⟩
theorem in_dsTo {H : Nat} {tr : List Nat} {b c : Nat} (hbc : b < c) (hc : c < H) (ht : b * 7 + c ∈ tr) : (⟨(b : Int), (c : Int)⟩ : GDoor) ∈ dsTo H tr H := by
  unfold dsTo rowTo
  refine List.mem_flatMap.2 ⟨b, List.mem_range.2 (by omega), List.mem_map.2 ⟨c, List.mem_filter.2 ⟨?_, by simpa using ht⟩, rfl⟩⟩
  rw [List.mem_range'_1]; omega
theorem dsTo_pw (H : Nat) (tr : List Nat) (a : Nat) : (dsTo H tr a).Pairwise (fun p d => dlt p d = true) := by
  unfold dsTo
  rw [List.pairwise_flatMap]
  refine ⟨fun b _ => ?_, ?_⟩
  · unfold rowTo
    rw [List.pairwise_map]
    refine List.Pairwise.filter _ ?_
    refine List.Pairwise.imp ?_ (List.pairwise_lt_range' (s := b + 1) (n := H - (b + 1)))
    intro x y hxy
    simp [dlt]
    omega
  · refine List.Pairwise.imp ?_ List.pairwise_lt_range
    intro x y hxy p hp d hd
    obtain ⟨c, rfl, _⟩ := mem_rowTo hp
    obtain ⟨e, rfl, _⟩ := mem_rowTo hd
    simp [dlt]
    omega
theorem doorsOk_of {H : Int} : ∀ {ds : List GDoor} (prev : Option GDoor), (∀ d ∈ ds, doorOk H d = true) → ds.Pairwise (fun p d => dlt p d = true) → (∀ p, prev = some p → ∀ d ∈ ds, dlt p d = true) → doorsOk H prev ds = true
  | [], none, _, _, _ => rfl
  | [], some _, _, _, _ => rfl
  | d :: r, none, h1, h2, _ => by
    rw [doorsOk, h1 d (List.mem_cons_self ..), doorsOk_of (some d) (fun e he => h1 e (List.mem_cons_of_mem _ he)) (List.pairwise_cons.1 h2).2 (fun p hp e he => by injection hp with hp; subst hp; exact (List.pairwise_cons.1 h2).1 e he)]; rfl
  | d :: r, some p, h1, h2, h3 => by
    rw [doorsOk, h1 d (List.mem_cons_self ..), h3 p rfl d (List.mem_cons_self ..), doorsOk_of (some d) (fun e he => h1 e (List.mem_cons_of_mem _ he)) (List.pairwise_cons.1 h2).2 (fun p hp e he => by injection hp with hp; subst hp; exact (List.pairwise_cons.1 h2).1 e he)]; rfl
theorem dsTo_len {H : Nat} (hH : H ≤ 7) (tr : List Nat) (a : Nat) : (dsTo H tr a).length ≤ tr.length := by
  have key := sub_len ((dsTo H tr a).map fun d => (d.a * 7 + d.b).toNat) tr ?_ ?_
  · rwa [List.length_map] at key
  · rw [List.nodup_iff_pairwise_ne, List.pairwise_map]
    have := dsTo_pw H tr a
    rw [List.pairwise_iff_getElem] at this ⊢
    intro i j hi hj hij
    have h1 := this i j hi hj hij
    obtain ⟨b, c, e1, _, h2, h3, _⟩ := mem_dsTo (List.getElem_mem hi)
    obtain ⟨b', c', e2, _, h2', h3', _⟩ := mem_dsTo (List.getElem_mem hj)
    rw [e1, e2] at h1 ⊢
    simp [dlt] at h1
    simp only
    omega
  · intro x hx
    obtain ⟨d, hd, rfl⟩ := List.mem_map.1 hx
    obtain ⟨b, c, rfl, _, _, _, h⟩ := mem_dsTo hd
    simp only
    rw [show ((b : Int) * 7 + (c : Int)).toNat = b * 7 + c by omega]
    exact h
/-- What is drawn: a door from each hall to an earlier one, and no more than nine doors. -/
theorem drawn_house {H : Nat} (h1 : 1 ≤ H) (h7 : H ≤ 7) {tr : List Nat} (hl : tr.length ≤ 12) (ht : ∀ k, 1 ≤ k → k < H → ∃ j, j < k ∧ j * 7 + k ∈ tr) : houseB (H : Int) (dsTo H tr H) = true := by
  have hok : ∀ d ∈ dsTo H tr H, doorOk (H : Int) d = true := fun d hd => by
    obtain ⟨b, c, rfl, _, h2, h3, _⟩ := mem_dsTo hd
    simp [doorOk]; omega
  have hform : formB (H : Int) (dsTo H tr H) = true := by
    unfold formB
    rw [doorsOk_of none hok (dsTo_pw H tr H) (fun p hp => by cases hp)]
    have := dsTo_len h7 tr H
    simp [inB]; omega
  have hreach : ∀ k, k < H → ∃ n, ball (dsTo H tr H) H 0 n k = true := by
    intro k
    induction k using Nat.strongRecOn with
    | _ k ih =>
      intro hk
      by_cases h0 : k = 0
      · subst h0
        exact ⟨0, by simp [ball]⟩
      · obtain ⟨j, hj, hjt⟩ := ht k (by omega) hk
        obtain ⟨n, hn⟩ := ih j hj (by omega)
        exact ⟨n + 1, ball_step (by omega) hn (mem_doorB (in_dsTo hj hk hjt) rfl rfl hj)⟩
  unfold houseB
  rw [hform, Bool.true_and, List.all_eq_true]
  intro k hk
  have hk' : k < H := by simpa using List.mem_range.1 hk
  obtain ⟨n, hn⟩ := hreach k hk'
  rw [Int.toNat_natCast, reach_ball _ (by omega) hk']
  exact ball_most _ (by omega) hk' hn
/-- A row of marks. -/
def flagL (n : Nat) (p : List Nat) : List Bool := (List.range n).map fun k => decide (k ∈ p)
theorem flagL_len (n : Nat) (p : List Nat) : (flagL n p).length = n := by simp [flagL]
theorem flagL_at {n : Nat} (p : List Nat) {k : Nat} (h : k < n) : (flagL n p)[k]? = some (decide (k ∈ p)) := by simp [flagL, h]
theorem flagL_nil (n : Nat) : flagL n [] = List.replicate n false := by
  apply List.ext_getElem?
  intro k
  by_cases h : k < n
  · rw [flagL_at _ h]; simp [h]
  · rw [List.getElem?_eq_none (by rw [flagL_len]; omega), List.getElem?_eq_none (by simp; omega)]
theorem flagL_set {n : Nat} (p : List Nat) (i : Nat) : (flagL n p).set i true = flagL n (p ++ [i]) := by
  apply List.ext_getElem?
  intro k
  by_cases h : k < n
  · rw [flagL_at _ h, List.getElem?_set]
    by_cases e : i = k
    · subst e; rw [if_pos rfl, if_pos (by rw [flagL_len]; exact h)]; simp
    · rw [if_neg e, flagL_at _ h]; simp [Ne.symm e]
  · rw [List.getElem?_eq_none (by rw [List.length_set, flagL_len]; omega), List.getElem?_eq_none (by rw [flagL_len]; omega)]
end Go.Proofs.Ytfhibjehnoibeaa
/- Contracts of the laws' own helpers on structs and rows: copies, comparisons, sizes; no condition but what stands at each theorem. -/
namespace Go.Proofs.Ytfhibjehnoibeaa
set_option linter.unusedSimpArgs false
set_option linter.unusedVariables false
open Go.RowKit

























end Go.Proofs.Ytfhibjehnoibeaa
/- Contracts of the laws' helpers that write over rows and ask for it again; no condition but what stands at each theorem. -/
namespace Go.Proofs.Ytfhibjehnoibeaa
set_option linter.unusedSimpArgs false
set_option linter.unusedVariables false
open Go.RowKit
def markB (k : Int) : Bool := k % 3 == 0
def markIntL (k : Int) (n : Nat) : List Int := (List.range n).map fun (i : Nat) => k + ↑i
theorem markIntL_len (k : Int) (n : Nat) : (markIntL k n).length = n := by simp [markIntL]
theorem markIntL_snoc (k : Int) (i : Nat) : markIntL k (i + 1) = markIntL k i ++ [k + ↑i] := by simp [markIntL, List.range_succ]
theorem markIntL_at (k : Int) (n : Nat) {i : Nat} (h : i < n) : (markIntL k n)[i]? = some (k + ↑i) := by simp [markIntL, h]
def markShiftL (k : Int) (n : Nat) : List GShift := (List.range n).map fun (i : Nat) => ⟨k + ↑i * 3, k + ↑i * 3 + 1, k + ↑i * 3 + 1 + 1⟩
theorem markShiftL_len (k : Int) (n : Nat) : (markShiftL k n).length = n := by simp [markShiftL]
theorem markShiftL_snoc (k : Int) (i : Nat) : markShiftL k (i + 1) = markShiftL k i ++ [⟨k + ↑i * 3, k + ↑i * 3 + 1, k + ↑i * 3 + 1 + 1⟩] := by simp [markShiftL, List.range_succ]
theorem markShiftL_at (k : Int) (n : Nat) {i : Nat} (h : i < n) : (markShiftL k n)[i]? = some (⟨k + ↑i * 3, k + ↑i * 3 + 1, k + ↑i * 3 + 1 + 1⟩) := by simp [markShiftL, h]
def markLoanL (k : Int) (n : Nat) : List GLoan := (List.range n).map fun (i : Nat) => ⟨k + ↑i * 4, k + ↑i * 4 + 1, k + ↑i * 4 + 1 + 1, k + ↑i * 4 + 1 + 1 + 1⟩
theorem markLoanL_len (k : Int) (n : Nat) : (markLoanL k n).length = n := by simp [markLoanL]
theorem markLoanL_snoc (k : Int) (i : Nat) : markLoanL k (i + 1) = markLoanL k i ++ [⟨k + ↑i * 4, k + ↑i * 4 + 1, k + ↑i * 4 + 1 + 1, k + ↑i * 4 + 1 + 1 + 1⟩] := by simp [markLoanL, List.range_succ]
theorem markLoanL_at (k : Int) (n : Nat) {i : Nat} (h : i < n) : (markLoanL k n)[i]? = some (⟨k + ↑i * 4, k + ↑i * 4 + 1, k + ↑i * 4 + 1 + 1, k + ↑i * 4 + 1 + 1 + 1⟩) := by simp [markLoanL, h]
def markClimateL (k : Int) (n : Nat) : List GClimate := (List.range n).map fun (i : Nat) => ⟨k + ↑i * 3, k + ↑i * 3 + 1, k + ↑i * 3 + 1 + 1⟩
theorem markClimateL_len (k : Int) (n : Nat) : (markClimateL k n).length = n := by simp [markClimateL]
theorem markClimateL_snoc (k : Int) (i : Nat) : markClimateL k (i + 1) = markClimateL k i ++ [⟨k + ↑i * 3, k + ↑i * 3 + 1, k + ↑i * 3 + 1 + 1⟩] := by simp [markClimateL, List.range_succ]
theorem markClimateL_at (k : Int) (n : Nat) {i : Nat} (h : i < n) : (markClimateL k n)[i]? = some (⟨k + ↑i * 3, k + ↑i * 3 + 1, k + ↑i * 3 + 1 + 1⟩) := by simp [markClimateL, h]
def markCheckL (k : Int) (n : Nat) : List GCheck := (List.range n).map fun (i : Nat) => ⟨k + ↑i * 3, k + ↑i * 3 + 1, markB (k + ↑i * 3 + 1 + 1)⟩
theorem markCheckL_len (k : Int) (n : Nat) : (markCheckL k n).length = n := by simp [markCheckL]
theorem markCheckL_snoc (k : Int) (i : Nat) : markCheckL k (i + 1) = markCheckL k i ++ [⟨k + ↑i * 3, k + ↑i * 3 + 1, markB (k + ↑i * 3 + 1 + 1)⟩] := by simp [markCheckL, List.range_succ]
theorem markCheckL_at (k : Int) (n : Nat) {i : Nat} (h : i < n) : (markCheckL k n)[i]? = some (⟨k + ↑i * 3, k + ↑i * 3 + 1, markB (k + ↑i * 3 + 1 + 1)⟩) := by simp [markCheckL, h]
def markStayL (k : Int) (n : Nat) : List GStay := (List.range n).map fun (i : Nat) => ⟨k + ↑i * 4, k + ↑i * 4 + 1, k + ↑i * 4 + 1 + 1, k + ↑i * 4 + 1 + 1 + 1⟩
theorem markStayL_len (k : Int) (n : Nat) : (markStayL k n).length = n := by simp [markStayL]
theorem markStayL_snoc (k : Int) (i : Nat) : markStayL k (i + 1) = markStayL k i ++ [⟨k + ↑i * 4, k + ↑i * 4 + 1, k + ↑i * 4 + 1 + 1, k + ↑i * 4 + 1 + 1 + 1⟩] := by simp [markStayL, List.range_succ]
theorem markStayL_at (k : Int) (n : Nat) {i : Nat} (h : i < n) : (markStayL k n)[i]? = some (⟨k + ↑i * 4, k + ↑i * 4 + 1, k + ↑i * 4 + 1 + 1, k + ↑i * 4 + 1 + 1 + 1⟩) := by simp [markStayL, h]
def markDoorL (k : Int) (n : Nat) : List GDoor := (List.range n).map fun (i : Nat) => ⟨k + ↑i * 2, k + ↑i * 2 + 1⟩
theorem markDoorL_len (k : Int) (n : Nat) : (markDoorL k n).length = n := by simp [markDoorL]
theorem markDoorL_snoc (k : Int) (i : Nat) : markDoorL k (i + 1) = markDoorL k i ++ [⟨k + ↑i * 2, k + ↑i * 2 + 1⟩] := by simp [markDoorL, List.range_succ]
theorem markDoorL_at (k : Int) (n : Nat) {i : Nat} (h : i < n) : (markDoorL k n)[i]? = some (⟨k + ↑i * 2, k + ↑i * 2 + 1⟩) := by simp [markDoorL, h]
def markMoveL (k : Int) (n : Nat) : List GMove := (List.range n).map fun (i : Nat) => ⟨k + ↑i * 4, k + ↑i * 4 + 1, k + ↑i * 4 + 1 + 1, k + ↑i * 4 + 1 + 1 + 1⟩
theorem markMoveL_len (k : Int) (n : Nat) : (markMoveL k n).length = n := by simp [markMoveL]
theorem markMoveL_snoc (k : Int) (i : Nat) : markMoveL k (i + 1) = markMoveL k i ++ [⟨k + ↑i * 4, k + ↑i * 4 + 1, k + ↑i * 4 + 1 + 1, k + ↑i * 4 + 1 + 1 + 1⟩] := by simp [markMoveL, List.range_succ]
theorem markMoveL_at (k : Int) (n : Nat) {i : Nat} (h : i < n) : (markMoveL k n)[i]? = some (⟨k + ↑i * 4, k + ↑i * 4 + 1, k + ↑i * 4 + 1 + 1, k + ↑i * 4 + 1 + 1 + 1⟩) := by simp [markMoveL, h]
def markActL (k : Int) (n : Nat) : List GAct := (List.range n).map fun (i : Nat) => ⟨k + ↑i * 5, k + ↑i * 5 + 1, k + ↑i * 5 + 1 + 1, k + ↑i * 5 + 1 + 1 + 1, k + ↑i * 5 + 1 + 1 + 1 + 1⟩
theorem markActL_len (k : Int) (n : Nat) : (markActL k n).length = n := by simp [markActL]
theorem markActL_snoc (k : Int) (i : Nat) : markActL k (i + 1) = markActL k i ++ [⟨k + ↑i * 5, k + ↑i * 5 + 1, k + ↑i * 5 + 1 + 1, k + ↑i * 5 + 1 + 1 + 1, k + ↑i * 5 + 1 + 1 + 1 + 1⟩] := by simp [markActL, List.range_succ]
theorem markActL_at (k : Int) (n : Nat) {i : Nat} (h : i < n) : (markActL k n)[i]? = some (⟨k + ↑i * 5, k + ↑i * 5 + 1, k + ↑i * 5 + 1 + 1, k + ↑i * 5 + 1 + 1 + 1, k + ↑i * 5 + 1 + 1 + 1 + 1⟩) := by simp [markActL, h]
end Go.Proofs.Ytfhibjehnoibeaa
/- The drawing of numbers from a code: the cursor's contracts; no condition but what stands at each theorem. -/
namespace Go.Proofs.Ytfhibjehnoibeaa
set_option linter.unusedSimpArgs false
set_option linter.unusedVariables false
open Go.RowKit
def benc (i : Int) : List Value := [.int .u8 i]
theorem benc_len (x : Int) : (benc x).length = 1 := rfl
theorem benc_at {w : World} {A : Option Addr} {n k : Nat} {xs : List Int} (h : Rd w 1 A n (xs.flatMap benc)) (hk : k < n) :
    ∃ (b off : Nat) (x : Int), A = some ⟨b, off, none⟩ ∧ b < w.heap.size ∧ xs[k]? = some x ∧ w.cell? ⟨b, off + k, none⟩ = some (.int .u8 x) :=
  Rd.at1 (p := fun (s : Int) => .int .u8 s) (fun _ => rfl) h hk
theorem and255 (a : Int) : 0 ≤ bits .and .i64 a 255 ∧ bits .and .i64 a 255 ≤ 255 := by
  have h : ((BitVec.ofInt 64 a &&& BitVec.ofInt 64 255).toNat) ≤ 255 := by
    rw [BitVec.toNat_and]
    exact Nat.le_trans Nat.and_le_right (by decide)
  have e : bits .and .i64 a 255 = IntKind.i64.wrap ((BitVec.ofInt 64 a &&& BitVec.ofInt 64 255).toNat : Int) := rfl
  rw [e, IntKind.wrap_i64]
  omega
/-- The cursor at block p, over bytes that were there in world w0. -/
def Cur (w : World) (p : Nat) : Prop := ∃ (A : Option Addr) (n c : Nat) (xs : List Int) (i h : Int), Blk w p 44 #[.slice A n c, .int .i64 i, .int .i64 h] ∧ Rd w 1 A n (xs.flatMap benc) ∧ n ≤ 1048576 ∧ 0 ≤ i ∧ i ≤ n ∧ (∀ x ∈ xs, 0 ≤ x ∧ x ≤ 255) ∧ (0 < n → ∀ b off, A = some ⟨b, off, none⟩ → b < p)
theorem rd_set {w : World} {A : Option Addr} {m n p o : Nat} {xs : List Value} (h : Rd w m A n xs) (hA : 0 < n → ∀ b off, A = some ⟨b, off, none⟩ → b < p) (u : Value) : Rd (w.setCell ⟨p, o, none⟩ u) m A n xs :=
  ⟨h.1, h.2.1, fun hn => by
    obtain ⟨b, off, rfl, hb, hc⟩ := h.2.2 hn
    have hbp := hA hn b off rfl
    refine ⟨b, off, rfl, by simpa [World.setCell] using hb, fun j u' hu => ?_⟩
    rw [World.cell?_setCell_other _ _ _ _ (by intro e; injection e with e1; omega)]
    exact hc j u' hu⟩
theorem rd_grown {w w' : World} {A : Option Addr} {m n p : Nat} {xs : List Value} (h : Rd w m A n xs) (hA : 0 < n → ∀ b off, A = some ⟨b, off, none⟩ → b ≠ p) (g : w.grownBy w' (some p)) : Rd w' m A n xs :=
  ⟨h.1, h.2.1, fun hn => by
    obtain ⟨b, off, rfl, hb, hc⟩ := h.2.2 hn
    have hbp := hA hn b off rfl
    refine ⟨b, off, rfl, Nat.lt_of_lt_of_le hb g.size, fun j u' hu => ?_⟩
    have e : w'.heap[b]? = w.heap[b]? := g.block b hb (fun e => hbp (Option.some.inj e))
    rw [← hc j u' hu]
    simp only [World.cell?, e]⟩
theorem blk_grown {w w' : World} {g p : Nat} {t : TypeId} {cs : Array Value} (h : Blk w g t cs) (hp : g ≠ p) (k : w.grownBy w' (some p)) : Blk w' g t cs :=
  (k.block g h.lt (fun e => hp (Option.some.inj e))).trans h
theorem grown_drew {a w : World} {row : Option Nat} (h : a.grownBy w row) (n : Nat) : a.grownBy (w.drewN n) row := ⟨h.os, h.tape, h.output, h.size, h.block⟩
theorem grown_drew1 {a w : World} {row : Option Nat} (h : a.grownBy w row) : a.grownBy w.drew row := ⟨h.os, h.tape, h.output, h.size, h.block⟩
/-- A number from 0 to 255 has been drawn. -/
def DrawnByte (w : World) (p : Nat) (e : Ending) (w' : World) : Prop := ∃ r : Int, e = .returned (.int .i64 r) ∧ 0 ≤ r ∧ r ≤ 255 ∧ Cur w' p ∧ w.grownBy w' (some p)
theorem drawn_end {w w' : World} {p : Nat} {r : Int} (h0 : 0 ≤ r) (h1 : r ≤ 255) (hc : Cur w' p) (hg : w.grownBy w' (some p)) : DrawnByte w p (.returned (.int .i64 r)) w' := ⟨r, rfl, h0, h1, hc, hg⟩
set_option maxRecDepth 100000 in
set_option maxHeartbeats 1000000 in
theorem spec_l01Byte (p : Nat) (w : World) (hc : Cur w p) :
    Calls Try.prog 24 #[.pointer (some ⟨p, 0, none⟩)] w (DrawnByte w p) := by
  obtain ⟨A, n, c, xs, i, h, hb, hx, hn, hi0, hi1, hxs, hAp⟩ := hc
  have c0 := hb.cellAt (i := 0) (by simp)
  have c1 := hb.cellAt (i := 1) (by simp)
  have c2 := hb.cellAt (i := 2) (by simp)
  have f1 := hb.free 1
  have f2 := hb.free 2
  simp at c0 c1 c2
  have HB := Lib.hid hb
  clear hb
  go_enter Try.func24, Try.ntmps24
  go_wp2_with fail
  generalize wrap64 (wrap64 (h * 6364136223846793005) + 1442695040888963407) = h1
  clear c0 c1 c2 f1 f2
  have hb1 := HB.out.set 2 (.int .i64 h1)
  have hx1 := rd_set (o := 2) hx hAp (.int .i64 h1)
  have hg1 := grown_set (grown_refl w (some p)) 2 (.int .i64 h1)
  clear hx HB
  generalize w.setCell ⟨p, 2, none⟩ (.int .i64 h1) = w1 at hb1 hx1 hg1 ⊢
  simp only [List.setIfInBounds_toArray, List.set_cons_succ, List.set_cons_zero] at hb1
  have c0 := hb1.cellAt (i := 0) (by simp)
  have c1 := hb1.cellAt (i := 1) (by simp)
  have c2 := hb1.cellAt (i := 2) (by simp)
  have f1 := hb1.free 1
  simp at c0 c1 c2
  have HB := Lib.hid hb1
  have HX := Lib.hid hx1
  have HG := Lib.hid hg1
  clear hb1 hx1 hg1
  go_quiet (fail)
  go_wp2_with fail
  have hr := and255 (bits .xor .i64 (h1 / 8589934592) (h1 / 35184372088832))
  generalize bits .and .i64 (bits .xor .i64 (h1 / 8589934592) (h1 / 35184372088832)) 255 = r at hr ⊢
  have d0 : (w1.drewN nq).cell? ⟨p, 0, none⟩ = some (Value.slice A n c) := c0
  have d1 : (w1.drewN nq).cell? ⟨p, 1, none⟩ = some (Value.int IntKind.i64 i) := c1
  have d2 : (w1.drewN nq).frozen? ⟨p, 1, none⟩ = false := f1
  have b2 : Blk (w1.drewN nq) p 44 #[Value.slice A n c, Value.int IntKind.i64 i, Value.int IntKind.i64 h1] := HB.out
  have x2 : Rd (w1.drewN nq) 1 A n (xs.flatMap benc) := HX.out
  have g2 := grown_drew HG.out nq
  clear c0 c1 c2 f1 HB HX HG
  generalize w1.drewN nq = w2 at d0 d1 d2 b2 x2 g2 ⊢
  have HB := Lib.hid b2
  have HX := Lib.hid x2
  have HG := Lib.hid g2
  clear b2 x2 g2
  by_cases hin : i < (n : Int)
  · obtain ⟨b, off, x, rfl, hbs, hxk, hcell⟩ := benc_at HX.out (k := i.toNat) (by omega)
    have hin' : i < ((n : Nat) : Int) := hin
    have hx := hxs x (List.mem_of_getElem? hxk)
    have hq : wrap64 (r + x) = r + x := by unfold wrap64; omega
    have hw : wrap64 (i + 1) = i + 1 := by unfold wrap64; omega
    go_quiet (fail)
    go_wp2_with fail
    have e0 : (w2.drewN nq).cell? ⟨p, 0, none⟩ = some (Value.slice (some ⟨b, off, none⟩) n c) := d0
    have e1 : (w2.drewN nq).cell? ⟨p, 1, none⟩ = some (Value.int IntKind.i64 i) := d1
    have e2 : (w2.drewN nq).frozen? ⟨p, 1, none⟩ = false := d2
    have e3 : (w2.drewN nq).cell? ⟨b, off + i.toNat, none⟩ = some (.int .u8 x) := hcell
    have b3 : Blk (w2.drewN nq) p 44 #[Value.slice (some ⟨b, off, none⟩) n c, Value.int IntKind.i64 i, Value.int IntKind.i64 h1] := HB.out
    have x3 : Rd (w2.drewN nq) 1 (some ⟨b, off, none⟩) n (xs.flatMap benc) := HX.out
    have g3 := grown_drew HG.out nq
    clear d0 d1 d2 hcell HB HX HG
    generalize w2.drewN nq = w3 at e0 e1 e2 e3 b3 x3 g3 ⊢
    have HB := Lib.hid b3
    have HX := Lib.hid x3
    have HG := Lib.hid g3
    clear b3 x3 g3
    go_quiet (fail)
    go_wp2_with fail
    have hr2 := and255 (r + x)
    have hb4 := HB.out.set 1 (.int .i64 (i + 1))
    have hx4 := rd_set (o := 1) HX.out hAp (.int .i64 (i + 1))
    have hg4 := grown_set (grown_drew HG.out nq) 1 (.int .i64 (i + 1))
    simp only [List.setIfInBounds_toArray, List.set_cons_succ, List.set_cons_zero] at hb4
    go_ret
    exact drawn_end hr2.1 hr2.2 ⟨_, n, c, xs, i + 1, h1, hb4, hx4, hn, by omega, by omega, hxs, hAp⟩ hg4
  · go_quiet (fail)
    go_wp2_with fail
    go_ret
    exact drawn_end hr.1 hr.2 ⟨A, n, c, xs, i, h1, HB.out, HX.out, hn, hi0, hi1, hxs, hAp⟩ (grown_drew HG.out _)
/-- A number has been drawn that lies below n, or is 0. -/
def DrawnBelow (n : Int) (w : World) (p : Nat) (e : Ending) (w' : World) : Prop := ∃ r : Int, e = .returned (.int .i64 r) ∧ 0 ≤ r ∧ (r < n ∨ r = 0) ∧ Cur w' p ∧ w.grownBy w' (some p)
set_option maxRecDepth 100000 in
set_option maxHeartbeats 1000000 in
theorem spec_l01Below (p : Nat) (n : Int) (w : World) (hc : Cur w p) :
    Calls Try.prog 21 #[.pointer (some ⟨p, 0, none⟩), .int .i64 n] w (DrawnBelow n w p) := by
  have hg := grown_refl w (some p)
  by_cases h0 : n ≤ 0
  · go_enter Try.func21, Try.ntmps21
    go_wp2_with fail
    go_ret
    exact ⟨0, rfl, by omega, .inr rfl, hc, grown_refl _ _⟩
  · by_cases h1 : n ≤ 256
    · go_enter Try.func21, Try.ntmps21
      go_wp2_with (go_at_call 24; refine (spec_l01Byte p _ (by assumption)).mono ?_; rintro e w1 ⟨r, rfl, hr0, hr1, hc1, hg1⟩; replace hg := grown_trans hg hg1; clear hg1)
      go_ret
      exact ⟨_, rfl, Int.emod_nonneg _ (by omega), .inl (Int.emod_lt_of_pos _ (by omega)), hc1, hg⟩
    · go_enter Try.func21, Try.ntmps21
      go_wp2_with (go_at_call 24; refine (spec_l01Byte p _ (by assumption)).mono ?_; rintro e w1 ⟨r, rfl, hr0, hr1, hc1, hg1⟩; replace hg := grown_trans hg hg1; clear hg1)
      go_ret
      exact ⟨_, rfl, Int.emod_nonneg _ (by omega), .inl (Int.emod_lt_of_pos _ (by omega)), hc1, hg⟩
theorem heap_size_setCell (w : World) (a : Addr) (u : Value) : (w.setCell a u).heap.size = w.heap.size := by simp [World.setCell]
theorem heap_size_alloc (w : World) (o : Obj) : (w.alloc o).heap.size = w.heap.size + 1 := by simp
theorem heap_size_drew (w : World) : w.drew.heap.size = w.heap.size := rfl
theorem heap_size_drewN (w : World) (n : Nat) : (w.drewN n).heap.size = w.heap.size := rfl
theorem Cur.lt {w : World} {p : Nat} (h : Cur w p) : p < w.heap.size := by
  obtain ⟨_, _, _, _, _, _, hb, _⟩ := h
  exact hb.lt
theorem cur_ext {w w' : World} {p : Nat} (h : Cur w p) (e : Ext w w') : Cur w' p := by
  obtain ⟨A, n, c, xs, i, h, hb, hx, r⟩ := h
  exact ⟨A, n, c, xs, i, h, hb.keep e, hx.keep e, r⟩
theorem cur_alloc {w : World} {p : Nat} (h : Cur w p) (o : Obj) : Cur (w.alloc o) p := cur_ext h ((Ext.refl w).alloc o)
theorem cur_drew {w : World} {p : Nat} (h : Cur w p) : Cur w.drew p := h
theorem cur_drewN {w : World} {p : Nat} (h : Cur w p) (n : Nat) : Cur (w.drewN n) p := h
theorem cur_grown {w w' : World} {p : Nat} {row : Option Nat} (h : Cur w p) (g : w.grownBy w' row) (hr : ∀ k, row = some k → p < k) : Cur w' p := by
  obtain ⟨A, n, c, xs, i, h, hb, hx, hn, h0, h1, h2, hA⟩ := h
  refine ⟨A, n, c, xs, i, h, (g.block p hb.lt (fun e => ?_)).trans hb, ⟨hx.1, hx.2.1, fun hn0 => ?_⟩, hn, h0, h1, h2, hA⟩
  · exact absurd (hr p e.symm) (by omega)
  · obtain ⟨b, off, rfl, hbs, hc⟩ := hx.2.2 hn0
    have hbp := hA hn0 b off rfl
    refine ⟨b, off, rfl, Nat.lt_of_lt_of_le hbs g.size, fun j u' hu => ?_⟩
    have e : w'.heap[b]? = w.heap[b]? := g.block b hbs (fun e => absurd (hr b e.symm) (by omega))
    rw [← hc j u' hu]
    simp only [World.cell?, e]
theorem cur_far {w : World} {p q : Nat} (h : Cur w p) (hq : p < q) {o : Nat} (u : Value) : Cur (w.setCell ⟨q, o, none⟩ u) p :=
  cur_grown h (grown_set (grown_refl w (some q)) o u) (fun k hk => by injection hk with hk; omega)
theorem grown_alloc {a w : World} {row : Option Nat} (h : a.grownBy w row) (o : Obj) : a.grownBy (w.alloc o) row :=
  ⟨h.os, h.tape, h.output, Nat.le_trans h.size (by rw [heap_size_alloc]; omega), fun i hi hn => (Below.block (((Ext.refl w).alloc o).below) i (Nat.lt_of_lt_of_le hi h.size)).trans (h.block i hi hn)⟩
theorem grown_fresh {a w : World} {row : Option Nat} (h : a.grownBy w row) {q o : Nat} (hq : a.heap.size ≤ q) (u : Value) : a.grownBy (w.setCell ⟨q, o, none⟩ u) row :=
  ⟨h.os, h.tape, h.output, by rw [heap_size_setCell]; exact h.size, fun i hi hn => (Below.heap_setCell w _ u i (fun e => by dsimp only at e; omega)).trans (h.block i hi hn)⟩
theorem grown_extD {a w w' : World} {row : Option Nat} (h : a.grownBy w row) (e : Ext w w') : a.grownBy w' row :=
  grown_trans h ⟨e.os, e.tape, e.output, e.size, fun i hi _ => e.block i hi⟩
theorem grown_cell {w w' : World} {p : Nat} (g : w.grownBy w' (some p)) (b : Nat) (hp : b ≠ p) (hb : b < w.heap.size) (o : Nat) : w'.cell? ⟨b, o, none⟩ = w.cell? ⟨b, o, none⟩ := by
  have e : w'.heap[b]? = w.heap[b]? := g.block b hb (fun e => hp (Option.some.inj e))
  simp only [World.cell?, e]
theorem grown_frozen {w w' : World} {p : Nat} (g : w.grownBy w' (some p)) (b : Nat) (hp : b ≠ p) (hb : b < w.heap.size) (o : Nat) : w'.frozen? ⟨b, o, none⟩ = w.frozen? ⟨b, o, none⟩ := by
  have e : w'.heap[b]? = w.heap[b]? := g.block b hb (fun e => hp (Option.some.inj e))
  simp only [World.frozen?, e]
theorem own_grown {w w' : World} {base p : Nat} {e : TypeId} {m n : Nat} {v : Value} {L : List Value} (h : w.ownsRow base e m v n L) (hp : p < base) (g : w.grownBy w' (some p)) : w'.ownsRow base e m v n L := by
  refine h.kept g ?_
  cases hv : v.ownBlock with
  | none => exact .inl rfl
  | some q =>
    refine .inr fun e => ?_
    have := (h.lt q hv).1
    injection e with e
    omega
theorem grown_over {a w w' : World} {r0 row : Option Nat} (h : a.grownBy w r0) (g : w.grownBy w' row) (hr : ∀ k, row = some k → a.heap.size ≤ k) : a.grownBy w' r0 :=
  ⟨g.os.trans h.os, g.tape.trans h.tape, g.output.trans h.output, Nat.le_trans h.size g.size, fun i hi hn => (g.block i (Nat.lt_of_lt_of_le hi h.size) (fun e => absurd (hr i e.symm) (by omega))).trans (h.block i hi hn)⟩
theorem append1g {P : Program} {ops : Array Oper} {rest : List Oper} {o : Oper} {a : Act} {Q : Exit → Act → World → Prop} {t e : TypeId} {m : Nat} (hE : EI P t e m) (hgd : o.guard = none) (s x : Operand)
    (ho : o.op = .call { callee := .builtin .append, args := #[s, x], argTypes := #[t, t] }) (base : Nat) (W : World) (T : TypeId) (v : Value) (n : Nat) (xs : List Value) (hs : a.eval s = v) (hown : W.ownsRow base e m v n xs)
    (news : List Value) (hx : a.eval x = .slice (some ⟨W.heap.size, 0, none⟩) 1 1) (hl : news.length = m) (h1 : ∀ u ∈ news, u.oneCell' = true) (hn : n ≤ 1073741824) (hbase : base ≤ W.heap.size)
    (h : ∀ v' w1 row, w1.ownsRow base e m v' (n + 1) (xs ++ news) → W.grownBy w1 row → (∀ k, row = some k → base ≤ k) → wpList P ops Q rest (a.put o.dst v') w1) : wpList P ops Q (o :: rest) a (W.alloc (.cells news.toArray T)) := by
  obtain ⟨i, z, hu, hi, hz, hsz, hby, hzs, h0⟩ := hE
  refine wpList_append_own _ hgd s x t ho base e i z m i.bytes hu hi hz hsz rfl hzs h0 v n xs hs (hown.alloc _) ⟨W.heap.size, 0, none⟩ 1 1 news hx (by omega) ?_ h1 (by unfold maxLen; omega) ?_ (by simp; omega) ?_
  · intro j u hu'
    rw [add_none, Nat.zero_add, World.cell?_alloc_new]
    simpa using hu'
  · have := Nat.mul_le_mul_left (n + 1) hby
    omega
  · intro v' w1 ho' hg _
    exact h v' w1 _ ho' (grown_trans (grown_alloc (grown_refl W _) _) hg) (fun k hk => (hown.lt k hk).1)
theorem new_cur {A : Option Addr} {n c : Nat} {xs : List Int} {w wr : World} (hx : Rd w 1 A n (xs.flatMap benc)) (hxs : ∀ x ∈ xs, 0 ≤ x ∧ x ≤ 255) (hn1 : n ≤ 1048576) (hb : Ext w wr) (z : Int) :
    ∃ p, Ending.returned (.pointer (some ⟨wr.heap.size, 0, none⟩)) = Ending.returned (.pointer (some ⟨p, 0, none⟩)) ∧ w.heap.size ≤ p ∧
      Cur (wr.alloc (.cells #[.slice A n c, .int .i64 0, .int .i64 z] 44)) p ∧ Ext w (wr.alloc (.cells #[.slice A n c, .int .i64 0, .int .i64 z] 44)) := by
  have e : Ext w (wr.alloc (.cells #[.slice A n c, .int .i64 0, .int .i64 z] 44)) := Ext.alloc hb _
  refine ⟨_, rfl, hb.size, ⟨A, n, c, xs, 0, z, Blk.new _ _ _, hx.keep e, hn1, by omega, by omega, hxs, fun h0 b off hA => ?_⟩, e⟩
  obtain ⟨b', off', hA', hb', _⟩ := hx.2.2 h0
  rw [hA] at hA'
  injection hA' with h1
  injection h1 with h1
  subst h1
  exact Nat.lt_of_lt_of_le hb' hb.size
set_option maxRecDepth 100000 in
set_option maxHeartbeats 1000000 in
theorem spec_l01New (A : Option Addr) (n c : Nat) (xs : List Int) (w : World) (hx : Rd w 1 A n (xs.flatMap benc)) (hxs : ∀ x ∈ xs, 0 ≤ x ∧ x ≤ 255) (hn1 : n ≤ 1048576) :
    Calls Try.prog 12 #[.slice A n c] w fun e w' => ∃ p, e = .returned (.pointer (some ⟨p, 0, none⟩)) ∧ w.heap.size ≤ p ∧ Cur w' p ∧ Ext w w' := by
  have hn := hx.2.1
  go_enter Try.func12, Try.ntmps12
  go_wp2_with fail
  go_loopw [3, 4] (fun o i wr => ∃ (k : Nat) (z : Int), k ≤ n ∧ i = .int .i64 k ∧ o = .int .i64 z ∧ Ext w wr) (fun _ i _ => n - (intOf i).toNat)
  case atStart => exact ⟨0, _, Nat.zero_le _, rfl, rfl, Ext.refl _⟩
  case round =>
    obtain ⟨k, z, hk, rfl, rfl, hb⟩ := hrel
    by_cases hlt : k < n
    · by_cases h4 : (k : Int) < 4000
      · obtain ⟨b, off, x, rfl, hbs, hxk, h0⟩ := benc_at (hx.keep hb) hlt
        have HB := Lib.hid hb
        have hbd := hxs x (List.mem_of_getElem? hxk)
        clear hxk hb
        go_wp2_with fail
        go_roundw
        case rel => exact ⟨k + 1, _, by omega, by go_num, rfl, HB.out⟩
        case measure => simp [intOf]; omega
      · go_wp2_with fail
        go_ret
        exact new_cur hx hxs hn1 hb z
    · go_wp2_with fail
      go_ret
      exact new_cur hx hxs hn1 hb z
end Go.Proofs.Ytfhibjehnoibeaa
/- A house that is drawn: the walk; no condition but what stands at each theorem. -/
namespace Go.Proofs.Ytfhibjehnoibeaa
set_option linter.unusedSimpArgs false
set_option linter.unusedVariables false
open Go.RowKit
theorem made_boolsD (n : Nat) : madeCells (Value.bool false).cells (n * 1) = ((List.replicate n false).map Value.bool).toArray := by
  apply Array.ext
  · simp [size_madeCells, Value.cells]
  · intro i h1 h2
    simp [madeCells, Value.cells, Nat.mod_one]
theorem mk_boolD (n : Nat) (hn : n ≤ 1048576) (w : World) : (Instr.makeSlice 46 (.int .i64 (n : Int)) (.int .i64 (n : Int))).run Try.prog w = .ok (.slice (some ⟨w.heap.size, 0, none⟩) n n) (w.alloc (.cells ((List.replicate n false).map (Value.bool)).toArray 4)) := by
  have hin : (Try.prog.info? 4).map (fun i => (i.zero.map (·.cells.size), i.size, decide (i.bytes ≤ 4096))) = some (some 1, 1, true) := by kernel_rfl
  cases hi : Try.prog.info? 4 with
  | none => rw [hi] at hin; cases hin
  | some i =>
  have hz : i.zero = some (.bool false) := by
    have h : (Try.prog.info? 4).map (fun i => i.zero) = some (some (.bool false)) := by kernel_rfl
    rw [hi] at h; simpa using h
  rw [hi] at hin
  simp only [Option.map_some, Option.some.injEq, Prod.mk.injEq, decide_eq_true_eq] at hin
  obtain ⟨-, hsz, hby⟩ := hin
  have h := make_row (P := Try.prog) 46 4 i _ Try.underlying46 hi hz n (by have := Nat.mul_le_mul hby hn; omega) (by omega) w
  rw [hsz, made_boolsD] at h
  exact h
theorem mk49 (w : World) : (Instr.makeSlice 46 (.int .i64 49) (.int .i64 49)).run Try.prog w = .ok (.slice (some ⟨w.heap.size, 0, none⟩) 49 49) (w.alloc (.cells ((flagL 49 []).map Value.bool).toArray 4)) := by
  rw [flagL_nil]
  exact mk_boolD 49 (by omega) w
def FBlk (w : World) (g : Nat) (t : TypeId) (u : List Bool) : Prop := Blk w g t (u.map Value.bool).toArray
theorem FBlk.cell {w : World} {g : Nat} {t : TypeId} {u : List Bool} (h : FBlk w g t u) {i : Nat} {b : Bool} (hi : u[i]? = some b) : w.cell? ⟨g, i, none⟩ = some (.bool b) := by
  rw [Blk.cell h]; simp [hi]
theorem FBlk.set {w : World} {g : Nat} {t : TypeId} {u : List Bool} (h : FBlk w g t u) (i : Nat) (x : Bool) : FBlk (w.setCell ⟨g, i, none⟩ (.bool x)) g t (u.set i x) := by
  have := Blk.set h i (.bool x)
  unfold FBlk
  rw [List.map_set, ← List.setIfInBounds_toArray]
  exact this
theorem blk_over {w w' : World} {g base : Nat} {t : TypeId} {cs : Array Value} {row : Option Nat} (h : Blk w g t cs) (k : w.grownBy w' row) (hr : ∀ k, row = some k → base ≤ k) (hg : g < base) : Blk w' g t cs :=
  (k.block g h.lt (fun e => by have := hr g e.symm; omega)).trans h
/-- While a house is drawn: the result's box, the house's box, the marks, the cursor. -/
structure HSt (w : World) (p gh H : Nat) (v : Value) (tr : List Nat) (wr : World) : Prop where
  lp : p < w.heap.size
  lr : w.heap.size < gh
  r : Blk wr w.heap.size 26 #[.int .i64 0, .slice none 0 0]
  h : Blk wr gh 26 #[.int .i64 (H : Int), v]
  m : FBlk wr (gh + 1) 4 (flagL 49 tr)
  c : Cur wr p
  g : w.grownBy wr (some p)
theorem HSt.draw {w wr w' : World} {p gh H : Nat} {v : Value} {tr : List Nat} (h : HSt w p gh H v tr wr) (hc : Cur w' p) (hg : wr.grownBy w' (some p)) : HSt w p gh H v tr w' :=
  have lp := h.lp
  have lr := h.lr
  ⟨h.lp, h.lr, blk_grown h.r (by omega) hg, blk_grown h.h (by omega) hg, blk_grown h.m (by omega) hg, hc, grown_trans h.g hg⟩
theorem HSt.mark {w wr : World} {p gh H : Nat} {v : Value} {tr : List Nat} (h : HSt w p gh H v tr wr) (q : Nat) : HSt w p gh H v (tr ++ [q]) (wr.setCell ⟨gh + 1, q, none⟩ (.bool true)) := by
  have lp := h.lp
  have lr := h.lr
  refine ⟨h.lp, h.lr, Blk.far h.r (p := ⟨gh + 1, q, none⟩) (by show w.heap.size ≠ gh + 1; omega) _, Blk.far h.h (p := ⟨gh + 1, q, none⟩) (by show gh ≠ gh + 1; omega) _, ?_, cur_far h.c (by omega) _, grown_fresh h.g (by omega) _⟩
  rw [← flagL_set]
  exact FBlk.set h.m q true
theorem HSt.app {w wr w' : World} {p gh H : Nat} {v : Value} {tr : List Nat} {row : Option Nat} (h : HSt w p gh H v tr wr) (hg : wr.grownBy w' row) (hr : ∀ k, row = some k → gh + 2 ≤ k) : HSt w p gh H v tr w' := by
  have lp := h.lp
  have lr := h.lr
  exact ⟨h.lp, h.lr, blk_over h.r hg hr (by omega), blk_over h.h hg hr (by omega), blk_over h.m hg hr (by omega), cur_grown h.c hg (fun k hk => by have := hr k hk; omega), grown_over h.g hg (fun k hk => by have := hr k hk; omega)⟩
theorem HSt.put {w wr : World} {p gh H : Nat} {v : Value} {tr : List Nat} (h : HSt w p gh H v tr wr) (v' : Value) : HSt w p gh H v' tr (wr.setCell ⟨gh, 1, none⟩ v') := by
  have lp := h.lp
  have lr := h.lr
  exact ⟨h.lp, h.lr, Blk.far h.r (p := ⟨gh, 1, none⟩) (by show w.heap.size ≠ gh; omega) _, h.h.set 1 v', Blk.far h.m (p := ⟨gh, 1, none⟩) (by show gh + 1 ≠ gh; omega) _, cur_far h.c (by omega) _, grown_fresh h.g (by omega) _⟩
theorem ei_D : EI Try.prog 24 48 2 := ei_of Try.underlying24 (by omega) (by kernel_rfl)
/-- A valid house, of doors of the call's own. -/
def DrawnHouse (p : Nat) (w : World) (e : Ending) (w' : World) : Prop :=
  ∃ (H : Nat) (v : Value) (ds : List GDoor), e = .returned (.agg #[.int .i64 (H : Int), v]) ∧ 1 ≤ H ∧ H ≤ 7 ∧ houseB (H : Int) ds = true ∧ w'.ownsRow w.heap.size 48 2 v ds.length (ds.flatMap GDoor.enc) ∧ Cur w' p ∧ w.grownBy w' (some p)
set_option maxRecDepth 100000 in
set_option maxHeartbeats 1500000 in
theorem spec_l23House (p : Nat) (w : World) (hc : Cur w p) :
    Calls Try.prog 13 #[.pointer (some ⟨p, 0, none⟩)] w (DrawnHouse p w) := by
  have hpw := hc.lt
  obtain ⟨wa, hwa⟩ : ∃ wa, wa = w.alloc (.cells #[.int .i64 0, .slice none 0 0] 26) := ⟨_, rfl⟩
  have hBa : Blk wa w.heap.size 26 #[.int .i64 0, .slice none 0 0] := by rw [hwa]; exact Blk.new _ _ _
  have hca : Cur wa p := by rw [hwa]; exact cur_alloc hc _
  have hga : w.grownBy wa (some p) := by rw [hwa]; exact grown_alloc (grown_refl _ _) _
  have hsa : wa.heap.size = w.heap.size + 1 := by rw [hwa]; simp
  have Hwa := Lib.hid hwa
  have cB := Lib.hid (spec_l01Below p 7 wa hca)
  have HBa := Lib.hid hBa
  have HGa := Lib.hid hga
  have hmk := mk49
  clear hwa hBa hga hca hc
  go_enter Try.func13, Try.ntmps13
  go_wp2_with fail
  rw [← Hwa.out]
  refine cB.out.mono ?_
  rintro e w1 ⟨r, rfl, h0, h1, hc1, hg1⟩
  have hr7 : r < 7 := by omega
  obtain ⟨H, hH⟩ : ∃ H : Nat, (H : Int) = 1 + r := ⟨(1 + r).toNat, by omega⟩
  have hH1 : 1 ≤ H := by omega
  have hH7 : H ≤ 7 := by omega
  have z1 := hg1.size
  have hB1 := blk_grown HBa.out (by omega) hg1
  have HG1 := Lib.hid (grown_trans HGa.out hg1)
  have HB1 := Lib.hid hB1
  have HC1 := Lib.hid hc1
  obtain ⟨wb, hwb⟩ : ∃ wb, wb = w1.alloc (.cells #[.int .i64 (H : Int), .slice none 0 0] 26) := ⟨_, rfl⟩
  obtain ⟨wc, hwc⟩ : ∃ wc, wc = wb.alloc (.cells ((flagL 49 []).map Value.bool).toArray 4) := ⟨_, rfl⟩
  have hsb : wb.heap.size = w1.heap.size + 1 := by rw [hwb]; simp
  have hsc : wc.heap.size = w1.heap.size + 2 := by rw [hwc]; simp; omega
  have hEb : Ext w1 wb := by rw [hwb]; exact (Ext.refl _).alloc _
  have hEc : Ext wb wc := by rw [hwc]; exact (Ext.refl _).alloc _
  have hBh : Hid (Blk wc w1.heap.size 26 #[.int .i64 (H : Int), .slice none 0 0]) := by
    refine Blk.keep ?_ hEc
    rw [hwb]; exact Blk.new _ _ _
  have hBw : Hid (FBlk wc (w1.heap.size + 1) 4 (flagL 49 [])) := by
    unfold Hid FBlk
    rw [← hsb, hwc]; exact Blk.new _ _ _
  have hBr := Lib.hid (HB1.out.keep (hEb.trans hEc))
  have hCc := Lib.hid (cur_ext HC1.out (hEb.trans hEc))
  have hGc := Lib.hid (grown_extD HG1.out (hEb.trans hEc))
  obtain ⟨Z, hZ⟩ : ∃ Z, Z = ((flagL 49 []).map Value.bool).toArray := ⟨_, rfl⟩
  simp only [← hZ] at hmk hwc
  have h1r : wrap64 (1 + r) = (H : Int) := by rw [hH]; exact IntWalk.wrap64_in _ ⟨by omega, by omega⟩
  have h1r2 : IntKind.i64.wrap (1 + r) = (H : Int) := by rw [hH]; exact IntWalk.i64_in _ (by omega)
  clear hg1 hB1 hc1 hEb hEc hZ
  go_wp2_with fail
  rw [← hH, ← hwb, ← hwc]
  have HS0 : Hid (HSt w p w1.heap.size H (.slice none 0 0) [] wc) := ⟨hpw, by omega, hBr.out, hBh.out, hBw.out, hCc.out, hGc.out⟩
  clear hwb hwc hsb hsc hmk hBr hBh hBw hCc hGc HC1 HG1 HB1 hH h1r h1r2 h0 h1 hr7
  obtain ⟨gh, hgh⟩ : ∃ gh, gh = w1.heap.size := ⟨_, rfl⟩
  rw [← hgh] at HS0 ⊢
  have hlr : w.heap.size < gh := by omega
  clear hgh
  go_loopw [5] (fun kv wr => ∃ (k : Nat) (tr : List Nat), 1 ≤ k ∧ k ≤ H ∧ kv = .int .i64 k ∧ Hid (tr.length + 1 = k) ∧ Hid (∀ i, 1 ≤ i → i < k → ∃ j, j < i ∧ j * 7 + i ∈ tr) ∧ Hid (HSt w p gh H (.slice none 0 0) tr wr)) (fun kv _ => H - (intOf kv).toNat)
  case atStart => exact ⟨1, [], Nat.le_refl _, hH1, rfl, Lib.hid rfl, Lib.hid (fun i h1 h2 => by omega), HS0⟩
  case round =>
    obtain ⟨k, tr, hk1, hkH, rfl, htl, htr, hst⟩ := hrel
    have b0 := hst.out.h.cell 0
    have lh := hst.out.h.lt
    by_cases hlt : k < H
    · have cD := Lib.hid (spec_l01Below p k wr hst.out.c)
      have hkHi : (k : Int) < H := by omega
      go_wp2_with (refine cD.out.mono ?_; rintro e w2 ⟨r, rfl, h0, h1, hc2, hg2⟩; obtain ⟨rn, rfl⟩ := Int.eq_ofNat_of_zero_le h0; have hrk : rn < k := (by omega); have hq49 : rn * 7 + k < 49 := (by omega); have hs2 := Lib.hid (hst.out.draw hc2 hg2); have m0 := FBlk.cell hs2.out.m (flagL_at tr hq49); have m1 := Blk.free hs2.out.m (rn * 7 + k); have hqi : (rn : Int) * 7 + (k : Int) < 49 := (by omega); have hqz : (0 : Int) ≤ (rn : Int) * 7 + (k : Int) := (by omega); have hqn : ((rn : Int) * 7 + (k : Int)).toNat = rn * 7 + k := (by omega); clear hc2 hg2)
      go_roundw
      case rel => exact ⟨k + 1, tr ++ [rn * 7 + k], by omega, by omega, by go_num, Lib.hid (by have := htl.out; simp; omega), Lib.hid (fun i h1 h2 => by
        by_cases hik : i = k
        · subst hik
          exact ⟨rn, hrk, by simp⟩
        · obtain ⟨j, hj, hm⟩ := htr.out i h1 (by omega)
          exact ⟨j, hj, List.mem_append_left _ hm⟩), hs2.out.mark (rn * 7 + k)⟩
      case measure => simp [intOf]; omega
    obtain rfl : k = H := by omega
    have HT := Lib.hid htr.out
    have cD := Lib.hid (spec_l01Below p 4 wr hst.out.c)
    go_wp2_with (refine cD.out.mono ?_; rintro e w2 ⟨r, rfl, h0, h1, hc2, hg2⟩; obtain ⟨rn, rfl⟩ := Int.eq_ofNat_of_zero_le h0; have hs2 := Lib.hid (hst.out.draw hc2 hg2); clear hc2 hg2)
    have hrn : rn ≤ 3 := by omega
    clear b0 lh
    go_loopw [6] (fun nv wr => ∃ (m : Nat) (tr : List Nat), m ≤ 3 ∧ nv = .int .i64 m ∧ Hid (tr.length + m ≤ 9) ∧ Hid (∀ i, 1 ≤ i → i < k → ∃ j, j < i ∧ j * 7 + i ∈ tr) ∧ Hid (HSt w p gh k (.slice none 0 0) tr wr)) (fun nv _ => (intOf nv).toNat)
    case atStart => exact ⟨rn, tr, hrn, rfl, Lib.hid (by have := htl.out; omega), HT, hs2⟩
    case round =>
      obtain ⟨m, tr, hm3, rfl, htl, htr, hst⟩ := hrel
      have b0 := hst.out.h.cell 0
      have lh := hst.out.h.lt
      by_cases hgo : 0 < m ∧ 2 < k
      · obtain ⟨hm0, hk2⟩ := hgo
        have hm0i : (0 : Int) < m := by omega
        have hk2i : (2 : Int) < k := by omega
        have hk1i : (1 : Int) ≤ k := by omega
        have cD := Lib.hid (spec_l01Below p ((k : Int) - 1) wr hst.out.c)
        go_wp2_with (go_at_call 21; refine (fun h : Hid _ => h.out) ?_)
        unfold Hid
        refine cD.out.mono ?_
        rintro e w2 ⟨r, rfl, h0, h1, hc2, hg2⟩
        obtain ⟨rn, rfl⟩ := Int.eq_ofNat_of_zero_le h0
        have hrk : rn + 1 < k := (by omega)
        have hs2 := Lib.hid (hst.out.draw hc2 hg2)
        have cE := Lib.hid (spec_l01Below p (1 + (rn : Int)) w2 hc2)
        clear hc2 hg2
        go_wp2_with (go_at_call 21; refine (fun h : Hid _ => h.out) ?_)
        unfold Hid
        refine cE.out.mono ?_
        rintro e w3 ⟨r, rfl, h0', h1', hc3, hg3⟩
        obtain ⟨sn, rfl⟩ := Int.eq_ofNat_of_zero_le h0'
        have hsr : sn < rn + 1 := (by omega)
        have hq49 : sn * 7 + (rn + 1) < 49 := (by omega)
        have hs3 := Lib.hid (hs2.out.draw hc3 hg3)
        have m0 := FBlk.cell hs3.out.m (flagL_at tr hq49)
        have m1 := Blk.free hs3.out.m (sn * 7 + (rn + 1))
        have hqi : (sn : Int) * 7 + (1 + (rn : Int)) < 49 := (by omega)
        have hqz : (0 : Int) ≤ (sn : Int) * 7 + (1 + (rn : Int)) := (by omega)
        have hqn : ((sn : Int) * 7 + (1 + (rn : Int))).toNat = sn * 7 + (rn + 1) := (by omega)
        clear hc3 hg3
        go_wp2_with fail
        go_roundw
        case rel => exact ⟨m - 1, tr ++ [sn * 7 + (rn + 1)], by omega, by go_num, Lib.hid (by have := htl.out; simp; omega), Lib.hid (fun i h1 h2 => by
          obtain ⟨j, hj, hm⟩ := htr.out i h1 h2
          exact ⟨j, hj, List.mem_append_left _ hm⟩), hs3.out.mark (sn * 7 + (rn + 1))⟩
        case measure => simp [intOf]; omega
      · have hhouse := Lib.hid (drawn_house (tr := tr) hH1 hH7 (by have := htl.out; omega) htr.out)
        have hgo2 : ¬ ((0 : Int) < m ∧ (2 : Int) < k) := by omega
        have HLT : Hid (tr.length ≤ 9) := by have := htl.out; unfold Hid; omega
        clear htl htr
        by_cases hm0 : (0 : Int) < m
        · have hk2 : ¬ (2 : Int) < k := by omega
          clear hgo
          go_wp2_with fail
          clear b0 lh
          go_loopw [8] (fun av wr => ∃ (a : Nat) (v : Value), a ≤ k ∧ av = .int .i64 a ∧ Hid (HSt w p gh k v tr wr) ∧ Hid (wr.ownsRow (gh + 2) 48 2 v (dsTo k tr a).length ((dsTo k tr a).flatMap GDoor.enc))) (fun av _ => k - (intOf av).toNat)
          case atStart => exact ⟨0, .slice none 0 0, Nat.zero_le _, rfl, hst, World.ownsRow_nil _ _ _ _⟩
          case round =>
            obtain ⟨a, v, hak, rfl, hst, hown⟩ := hrel
            have b0 := hst.out.h.cell 0
            have lh := hst.out.h.lt
            by_cases hlt : a < k
            · have hlti : (a : Int) < k := by omega
              have haw : wrap64 ((a : Int) + 1) = (a : Int) + 1 := IntWalk.wrap64_in _ ⟨by omega, by omega⟩
              go_wp2_with fail
              clear b0 lh
              go_loopw [9] (fun bv wr => ∃ (b : Nat) (v : Value), a + 1 ≤ b ∧ b ≤ k ∧ bv = .int .i64 b ∧ Hid (HSt w p gh k v tr wr) ∧ Hid (wr.ownsRow (gh + 2) 48 2 v (dsTo k tr a ++ rowTo tr a b).length ((dsTo k tr a ++ rowTo tr a b).flatMap GDoor.enc))) (fun bv _ => k - (intOf bv).toNat)
              case atStart => exact ⟨a + 1, v, Nat.le_refl _, by omega, by go_num, hst, by unfold Hid; rw [rowTo_zero, List.append_nil]; exact hown.out⟩
              case round =>
                obtain ⟨b, v, hab, hbk, rfl, hst, hown⟩ := hrel
                have b0 := hst.out.h.cell 0
                have lh := hst.out.h.lt
                by_cases hlb : b < k
                · have hlbi : (b : Int) < k := by omega
                  have hq49 : a * 7 + b < 49 := by omega
                  have m0 := FBlk.cell hst.out.m (flagL_at tr hq49)
                  have lm : gh + 1 < wr.heap.size := hst.out.m.lt
                  have hqi : (a : Int) * 7 + (b : Int) < 49 := by omega
                  have hqz : (0 : Int) ≤ (a : Int) * 7 + (b : Int) := by omega
                  have hqn : ((a : Int) * 7 + (b : Int)).toNat = a * 7 + b := by omega
                  have HR := Lib.hid (rowTo_succ tr a b hab)
                  by_cases hin : a * 7 + b ∈ tr
                  · rw [show decide (a * 7 + b ∈ tr) = true by simpa using hin] at m0
                    rw [if_pos hin] at HR
                    have b1 := hst.out.h.cell 1
                    have hlen : (dsTo k tr a ++ rowTo tr a b).length ≤ 1000 := by
                      rw [List.length_append]
                      have h1 := dsTo_len hH7 tr a
                      have h2 : (rowTo tr a b).length ≤ 7 := by
                        unfold rowTo
                        rw [List.length_map]
                        exact Nat.le_trans (List.length_filter_le ..) (by rw [List.length_range']; omega)
                      have := HLT.out
                      omega
                    obtain ⟨L, hL⟩ : ∃ L, L = dsTo k tr a ++ rowTo tr a b := ⟨_, rfl⟩
                    rw [← hL] at hown hlen
                    have HLL := Lib.hid hL
                    clear hin hL
                    go_wp2_with (at_builtin; refine append1g ei_D rfl _ _ rfl (gh + 2) wr _ _ L.length _ (by rfl) hown.out [.int .i64 (a : Int), .int .i64 (b : Int)] (by rfl) rfl (by intro u hu; simp at hu; rcases hu with rfl | rfl <;> rfl) (by omega) (by omega) ?_; intro v' w3 row ho3 hg3 hr3; have HS3 := Lib.hid (hst.out.app hg3 hr3); have c0 := HS3.out.h.cell 0; have c1 := HS3.out.h.cell 1; have cf := Blk.free HS3.out.h 1; have l3 := HS3.out.h.lt; obtain ⟨Av', cv', rfl, hcv'⟩ := own_form ho3; have HO3 := Lib.hid ho3; clear ho3 hg3 hr3)
                    go_roundw
                    case rel => rw [haw]; (first | refine ⟨_, _, _, _, _, _, _, _, _, _, _, _, _, _, _, _, _, _, _, _, _, _, ?_, rfl⟩); exact ⟨b + 1, .slice Av' (L.length + 1) cv', by omega, by omega, by go_num, HS3.out.put _, by unfold Hid; rw [HR.out, ← List.append_assoc, ← HLL.out, List.length_append, List.flatMap_append]; exact own_far HO3.out (by omega) _⟩
                    case measure => simp [intOf]; omega
                  · rw [show decide (a * 7 + b ∈ tr) = false by simpa using hin] at m0
                    rw [if_neg hin, List.append_nil] at HR
                    clear hin
                    go_wp2_with fail
                    go_roundw
                    case rel => exact ⟨b + 1, v, by omega, by omega, by go_num, hst, by unfold Hid; rw [HR.out]; exact hown.out⟩
                    case measure => simp [intOf]; omega
                · obtain rfl : b = k := by omega
                  have HO := Lib.hid (show wr.ownsRow (gh + 2) 48 2 v (dsTo b tr (a + 1)).length ((dsTo b tr (a + 1)).flatMap GDoor.enc) by rw [dsTo_succ]; exact hown.out)
                  clear hown
                  go_wp2_with fail
                  go_roundw
                  case rel => exact ⟨a + 1, v, by omega, by go_num, hst, HO⟩
                  case measure => simp [intOf]; omega
            · obtain rfl : a = k := by omega
              obtain ⟨Av, cv, rfl, hcv⟩ := own_form hown.out
              obtain ⟨nd, hnd⟩ : ∃ nd, nd = (dsTo a tr a).length := ⟨_, rfl⟩
              have HND := Lib.hid hnd
              rw [← hnd] at hst hown
              clear hnd hcv
              have b1 := hst.out.h.cell 1
              have r0 := hst.out.r.cell 0
              have r1 := hst.out.r.cell 1
              have rf : ∀ o, wr.frozen? ⟨w.heap.size, o, none⟩ = false := fun o => Blk.free hst.out.r o
              have lr := hst.out.r.lt
              go_wp2_with fail
              obtain ⟨WF, hWF⟩ : ∃ WF, WF = (wr.setCell ⟨w.heap.size, 0, none⟩ (.int .i64 (a : Int))).setCell ⟨w.heap.size, 1, none⟩ (.slice Av nd cv) := ⟨_, rfl⟩
              have FB := (hst.out.r.set 0 (.int .i64 (a : Int))).set 1 (.slice Av nd cv)
              have FO := own_far (k := 1) (own_far (k := 0) hown.out (show w.heap.size < gh + 2 by omega) (.int .i64 (a : Int))) (show w.heap.size < gh + 2 by omega) (.slice Av nd cv)
              have FC := cur_far (o := 1) (cur_far (o := 0) hst.out.c hpw (.int .i64 (a : Int))) hpw (.slice Av nd cv)
              have FG := grown_fresh (o := 1) (grown_fresh (o := 0) hst.out.g (Nat.le_refl _) (.int .i64 (a : Int))) (Nat.le_refl _) (.slice Av nd cv)
              rw [← hWF] at FB FO FC FG
              rw [← hWF]
              clear hWF
              have y0 := FB.cell 0
              have y1 := FB.cell 1
              refine bodyPost_ret (v := .agg #[.int .i64 (a : Int), .slice Av nd cv]) (by simp [results, Try.results13, go_sem, y0, y1]) rfl ?_
              exact ⟨a, .slice Av nd cv, dsTo a tr a, rfl, hH1, hH7, hhouse.out, by rw [← HND.out]; exact own_weak FO (by omega), FC, FG⟩
        · clear hgo
          go_wp2_with fail
          clear b0 lh
          go_loopw [8] (fun av wr => ∃ (a : Nat) (v : Value), a ≤ k ∧ av = .int .i64 a ∧ Hid (HSt w p gh k v tr wr) ∧ Hid (wr.ownsRow (gh + 2) 48 2 v (dsTo k tr a).length ((dsTo k tr a).flatMap GDoor.enc))) (fun av _ => k - (intOf av).toNat)
          case atStart => exact ⟨0, .slice none 0 0, Nat.zero_le _, rfl, hst, World.ownsRow_nil _ _ _ _⟩
          case round =>
            obtain ⟨a, v, hak, rfl, hst, hown⟩ := hrel
            have b0 := hst.out.h.cell 0
            have lh := hst.out.h.lt
            by_cases hlt : a < k
            · have hlti : (a : Int) < k := by omega
              have haw : wrap64 ((a : Int) + 1) = (a : Int) + 1 := IntWalk.wrap64_in _ ⟨by omega, by omega⟩
              go_wp2_with fail
              clear b0 lh
              go_loopw [9] (fun bv wr => ∃ (b : Nat) (v : Value), a + 1 ≤ b ∧ b ≤ k ∧ bv = .int .i64 b ∧ Hid (HSt w p gh k v tr wr) ∧ Hid (wr.ownsRow (gh + 2) 48 2 v (dsTo k tr a ++ rowTo tr a b).length ((dsTo k tr a ++ rowTo tr a b).flatMap GDoor.enc))) (fun bv _ => k - (intOf bv).toNat)
              case atStart => exact ⟨a + 1, v, Nat.le_refl _, by omega, by go_num, hst, by unfold Hid; rw [rowTo_zero, List.append_nil]; exact hown.out⟩
              case round =>
                obtain ⟨b, v, hab, hbk, rfl, hst, hown⟩ := hrel
                have b0 := hst.out.h.cell 0
                have lh := hst.out.h.lt
                by_cases hlb : b < k
                · have hlbi : (b : Int) < k := by omega
                  have hq49 : a * 7 + b < 49 := by omega
                  have m0 := FBlk.cell hst.out.m (flagL_at tr hq49)
                  have lm : gh + 1 < wr.heap.size := hst.out.m.lt
                  have hqi : (a : Int) * 7 + (b : Int) < 49 := by omega
                  have hqz : (0 : Int) ≤ (a : Int) * 7 + (b : Int) := by omega
                  have hqn : ((a : Int) * 7 + (b : Int)).toNat = a * 7 + b := by omega
                  have HR := Lib.hid (rowTo_succ tr a b hab)
                  by_cases hin : a * 7 + b ∈ tr
                  · rw [show decide (a * 7 + b ∈ tr) = true by simpa using hin] at m0
                    rw [if_pos hin] at HR
                    have b1 := hst.out.h.cell 1
                    have hlen : (dsTo k tr a ++ rowTo tr a b).length ≤ 1000 := by
                      rw [List.length_append]
                      have h1 := dsTo_len hH7 tr a
                      have h2 : (rowTo tr a b).length ≤ 7 := by
                        unfold rowTo
                        rw [List.length_map]
                        exact Nat.le_trans (List.length_filter_le ..) (by rw [List.length_range']; omega)
                      have := HLT.out
                      omega
                    obtain ⟨L, hL⟩ : ∃ L, L = dsTo k tr a ++ rowTo tr a b := ⟨_, rfl⟩
                    rw [← hL] at hown hlen
                    have HLL := Lib.hid hL
                    clear hin hL
                    go_wp2_with (at_builtin; refine append1g ei_D rfl _ _ rfl (gh + 2) wr _ _ L.length _ (by rfl) hown.out [.int .i64 (a : Int), .int .i64 (b : Int)] (by rfl) rfl (by intro u hu; simp at hu; rcases hu with rfl | rfl <;> rfl) (by omega) (by omega) ?_; intro v' w3 row ho3 hg3 hr3; have HS3 := Lib.hid (hst.out.app hg3 hr3); have c0 := HS3.out.h.cell 0; have c1 := HS3.out.h.cell 1; have cf := Blk.free HS3.out.h 1; have l3 := HS3.out.h.lt; obtain ⟨Av', cv', rfl, hcv'⟩ := own_form ho3; have HO3 := Lib.hid ho3; clear ho3 hg3 hr3)
                    go_roundw
                    case rel => rw [haw]; (first | refine ⟨_, _, _, _, _, _, _, _, _, _, _, _, _, _, _, _, _, _, _, _, _, _, ?_, rfl⟩); exact ⟨b + 1, .slice Av' (L.length + 1) cv', by omega, by omega, by go_num, HS3.out.put _, by unfold Hid; rw [HR.out, ← List.append_assoc, ← HLL.out, List.length_append, List.flatMap_append]; exact own_far HO3.out (by omega) _⟩
                    case measure => simp [intOf]; omega
                  · rw [show decide (a * 7 + b ∈ tr) = false by simpa using hin] at m0
                    rw [if_neg hin, List.append_nil] at HR
                    clear hin
                    go_wp2_with fail
                    go_roundw
                    case rel => exact ⟨b + 1, v, by omega, by omega, by go_num, hst, by unfold Hid; rw [HR.out]; exact hown.out⟩
                    case measure => simp [intOf]; omega
                · obtain rfl : b = k := by omega
                  have HO := Lib.hid (show wr.ownsRow (gh + 2) 48 2 v (dsTo b tr (a + 1)).length ((dsTo b tr (a + 1)).flatMap GDoor.enc) by rw [dsTo_succ]; exact hown.out)
                  clear hown
                  go_wp2_with fail
                  go_roundw
                  case rel => exact ⟨a + 1, v, by omega, by go_num, hst, HO⟩
                  case measure => simp [intOf]; omega
            · obtain rfl : a = k := by omega
              obtain ⟨Av, cv, rfl, hcv⟩ := own_form hown.out
              obtain ⟨nd, hnd⟩ : ∃ nd, nd = (dsTo a tr a).length := ⟨_, rfl⟩
              have HND := Lib.hid hnd
              rw [← hnd] at hst hown
              clear hnd hcv
              have b1 := hst.out.h.cell 1
              have r0 := hst.out.r.cell 0
              have r1 := hst.out.r.cell 1
              have rf : ∀ o, wr.frozen? ⟨w.heap.size, o, none⟩ = false := fun o => Blk.free hst.out.r o
              have lr := hst.out.r.lt
              go_wp2_with fail
              obtain ⟨WF, hWF⟩ : ∃ WF, WF = (wr.setCell ⟨w.heap.size, 0, none⟩ (.int .i64 (a : Int))).setCell ⟨w.heap.size, 1, none⟩ (.slice Av nd cv) := ⟨_, rfl⟩
              have FB := (hst.out.r.set 0 (.int .i64 (a : Int))).set 1 (.slice Av nd cv)
              have FO := own_far (k := 1) (own_far (k := 0) hown.out (show w.heap.size < gh + 2 by omega) (.int .i64 (a : Int))) (show w.heap.size < gh + 2 by omega) (.slice Av nd cv)
              have FC := cur_far (o := 1) (cur_far (o := 0) hst.out.c hpw (.int .i64 (a : Int))) hpw (.slice Av nd cv)
              have FG := grown_fresh (o := 1) (grown_fresh (o := 0) hst.out.g (Nat.le_refl _) (.int .i64 (a : Int))) (Nat.le_refl _) (.slice Av nd cv)
              rw [← hWF] at FB FO FC FG
              rw [← hWF]
              clear hWF
              have y0 := FB.cell 0
              have y1 := FB.cell 1
              refine bodyPost_ret (v := .agg #[.int .i64 (a : Int), .slice Av nd cv]) (by simp [results, Try.results13, go_sem, y0, y1]) rfl ?_
              exact ⟨a, .slice Av nd cv, dsTo a tr a, rfl, hH1, hH7, hhouse.out, by rw [← HND.out]; exact own_weak FO (by omega), FC, FG⟩
end Go.Proofs.Ytfhibjehnoibeaa
