/- Contracts of the program's FewestKeepers and of its test; no condition but what stands at each theorem. -/
import Derived.Test.YtcmbjkidgemdaaaSHv
namespace Go.Proofs.Ytcmbjkidgemdaaa
set_option linter.unusedSimpArgs false
set_option linter.unusedVariables false
open Go.RowKit Go.Sort
def orS (rings : List Int) (s : Nat) (i : Int) : Nat := s ||| (rings.getD i.toNat 0).toNat
def orL (rings b : List Int) : Nat := b.foldl (orS rings) 0
def keepP (h : Nat) (ds : List GDoor) (rings b : List Int) : Bool := fullB h ds ((orL rings b : Nat) : Int)
def findK (n : Nat) (p : List Int → Bool) : Option (List Int) := (List.range' 0 (n + 1)).findSome? fun (m : Nat) => (lsts n m []).find? p
def leastK (H : Int) (ds : List GDoor) (rings : List Int) : List Int := if houseB H ds && (decide (rings.length ≤ 6) && rings.all (ringB H ds)) then (findK rings.length (keepP H.toNat ds rings)).getD [] else []
theorem box21 (w : World) (a0 a1 p : Value) (t1 t2 : TypeId) (wb : World) (hwb : wb = (w.alloc (.cells #[a0, a1] t1)).alloc (.cells #[p] t2)) :
    Ext w wb ∧ wb.heap.size = w.heap.size + 1 + 1 ∧ wb.cell? ⟨w.heap.size, 0, none⟩ = some a0 ∧ wb.cell? ⟨w.heap.size, 1, none⟩ = some a1 ∧ wb.cell? ⟨w.heap.size + 1, 0, none⟩ = some p := by
  subst hwb
  refine ⟨((Ext.refl w).alloc _).alloc _, by simp, ?_, ?_, ?_⟩
  · rw [World.cell?_alloc_lt _ _ _ (by simp), World.cell?_alloc_new]; rfl
  · rw [World.cell?_alloc_lt _ _ _ (by simp), World.cell?_alloc_new]; rfl
  · have h : w.heap.size + 1 = (w.alloc (.cells #[a0, a1] t1)).heap.size := by simp
    rw [h, World.cell?_alloc_new]; rfl
theorem or_lt4096 {s t : Nat} (hs : s < 4096) (ht : t < 4096) : s ||| t < 4096 := Nat.or_lt_two_pow (n := 12) hs ht
theorem ring_at {H : Int} {ds : List GDoor} {rings : List Int} (h : rings.all (ringB H ds) = true) {q : Nat} {r : Int} (hr : rings[q]? = some r) : 0 ≤ r ∧ r ≤ 4095 :=
  (ringB_spec (List.all_eq_true.1 h r (List.mem_of_getElem? hr))).2
set_option maxRecDepth 100000 in
set_option maxHeartbeats 2000000 in
theorem keep_tst (h : Nat) (A : Option Addr) (n c : Nat) (ds : List GDoor) (A1 : Option Addr) (n1 c1 : Nat) (rings : List Int) (W0 : World) (b1 b2 : Nat) (hb1 : b1 < W0.heap.size) (hb2 : b2 < W0.heap.size)
    (hq1 : W0.cell? ⟨b1, 0, none⟩ = some (.slice A1 n1 c1)) (hq2 : W0.cell? ⟨b2, 0, none⟩ = some (.int .i64 (h : Int))) (hq3 : W0.cell? ⟨b2, 1, none⟩ = some (.slice A n c))
    (hx : Rd W0 2 A n (ds.flatMap GDoor.enc)) (hx1 : Rd W0 1 A1 n1 (rings.flatMap ienc)) (hs : Hid (NoTwice ds)) (h1 : 1 ≤ h) (h7 : h ≤ 7) (hn12 : n ≤ 12) (hall : Hid (rings.all (ringB h ds) = true)) :
    Tst2 66 (.pointer (some ⟨b1, 0, none⟩)) (.pointer (some ⟨b2, 0, none⟩)) n1 (keepP h ds rings) W0 := by
  intro w A4 k c4 b hW hx4 hib hk6
  have hl := Lib.hid (hx4.len ienc_len (by omega))
  have hib' := Lib.hid hib
  have hnn1 := hx1.2.1
  have S1 := Lib.hid ((hW.cellAt b1 hb1 0).trans hq1)
  have S2 := Lib.hid ((hW.cellAt b2 hb2 0).trans hq2)
  have S3 := Lib.hid ((hW.cellAt b2 hb2 1).trans hq3)
  have hsW := hW.size
  clear hib hq1 hq2 hq3
  go_enter Try.func66, Try.ntmps66
  go_wp2_with fail
  go_loopw [5, 10] (fun s i wr => ∃ j S : Nat, j ≤ k ∧ i = .int .i64 j ∧ s = .int .i64 (S : Int) ∧ S < 4096 ∧ Hid (orL rings b = (b.drop j).foldl (orS rings) S) ∧ Ext w wr) (fun _ i _ => k - (intOf i).toNat)
  case atStart => exact ⟨0, 0, Nat.zero_le _, rfl, rfl, by omega, rfl, Ext.refl _⟩
  case round =>
    obtain ⟨j, S, hj, rfl, rfl, hS, hz, hb⟩ := hrel
    have r1 := (hb.cellAt b1 (by omega) 0).trans S1.out
    have r2 := (hb.cellAt b2 (by omega) 0).trans S2.out
    have r3 := (hb.cellAt b2 (by omega) 1).trans S3.out
    by_cases hlt : j < k
    · obtain ⟨bb, off, x, rfl, hbs, hxk, p0⟩ := ienc_at (hx4.keep hb) hlt
      have hxb := hib'.out x (List.mem_of_getElem? hxk)
      obtain ⟨q, rfl⟩ := Int.eq_ofNat_of_zero_le hxb.1
      have hq : q < n1 := by omega
      obtain ⟨b0, off0, r, rfl, hbs0, hrk, g0⟩ := ienc_at (hx1.keep (hW.trans hb)) hq
      obtain ⟨r0, r4⟩ := ring_at hall.out hrk
      obtain ⟨z, hz0⟩ := Int.eq_ofNat_of_zero_le r0
      rw [hz0] at g0
      have hz4 : z < 4096 := by omega
      have HOr := bits_or S z (by omega) (by omega)
      have hlt2 := or_lt4096 hS hz4
      have HS : Hid (orL rings b = (b.drop (j + 1)).foldl (orS rings) (S ||| z)) := by
        unfold Hid; rw [hz.out, drop_cons hxk, List.foldl_cons, orS, Int.toNat_natCast, getD_of' hrk, hz0, Int.toNat_natCast]
      have HB := Lib.hid hb
      have i0 : (0 : Int) ≤ (q : Int) := by omega
      have i1 : (q : Int) < (n1 : Int) := by omega
      clear hxk hrk hxb hb hz0 r0 r4
      go_wp2_with fail
      go_roundw
      case rel => exact ⟨j + 1, S ||| z, by omega, by go_num, by first | rfl | rw [HOr], hlt2, HS, HB.out⟩
      case measure => simp [intOf]; omega
    · obtain rfl : j = k := by omega
      have HZ : Hid (keepP h ds rings b = fullB h ds (S : Int)) := by unfold Hid keepP; rw [hz.out, drop_nil (by rw [hl.out]; omega)]; rfl
      have cH := Lib.hid (impl_hallsWith h A n c ds 0 S (wr.drewN 1) ((hx.keep (hW.trans hb)).keep ((Ext.refl wr).drewN 1)) hs h1 h7 hn12 (by omega) (by omega))
      have hcmp : (((hallsL ds h 0 S).length : Int) == (h : Int)) = fullB h ds (S : Int) := by
        unfold fullB; rw [Bool.eq_iff_iff]; simp only [Int.toNat_natCast, beq_iff_eq]; omega
      have hL7 := hallsL_len ds h 0 S
      have HB := Lib.hid hb
      have hbs := hb.size
      clear hb
      obtain ⟨t, ht⟩ : ∃ t, t = fullB h ds (S : Int) := ⟨_, rfl⟩
      rw [← ht] at hcmp HZ
      clear ht
      go_wp2_with fail
      cases t
      all_goals
        go_region_held3 (fun w' => w'.cell? ⟨b2, 0, none⟩ = some (.int .i64 (h : Int)) ∧ w'.cell? ⟨b2, 1, none⟩ = some (.slice A n c)) (go_keep) ((go_at_call 67; refine (cH.out).mono ?_; rintro e w3 ⟨v3, rfl, he3, ho3⟩; obtain ⟨A3, c3, rfl, hnc3⟩ := own_form ho3; have y0 := he3.cellAt b2 (by simp; omega) 0; have y1 := he3.cellAt b2 (by simp; omega) 1))
        have HE3 := Lib.hid (HB.out.trans (((Ext.refl _).drewN 1).trans he3))
        clear he3 ho3 y0 y1 r1 r2 r3
        go_wp2_with fail
        go_ret
        exact ⟨ret_bool HZ.out.symm, HE3.out⟩
set_option maxRecDepth 100000 in
set_option maxHeartbeats 4000000 in
theorem impl_FewestKeepers (H : Int) (A : Option Addr) (n c : Nat) (ds : List GDoor) (A1 : Option Addr) (n1 c1 : Nat) (rings : List Int) (w : World) (hx : Rd w 2 A n (ds.flatMap GDoor.enc)) (hx1 : Rd w 1 A1 n1 (rings.flatMap ienc)) (hn1 : n1 ≤ 1048576) :
    Calls Try.prog 25 #[.agg #[.int .i64 H, .slice A n c], .slice A1 n1 c1] w (OwnL (leastK H ds rings) w) := by
  have hl := Lib.hid (hx.len GDoor.len (by omega))
  have hl1 := Lib.hid (hx1.len ienc_len (by omega))
  obtain ⟨wb, hwb⟩ : ∃ wb, wb = (w.alloc (.cells #[.int .i64 H, .slice A n c] 29)).alloc (.cells #[.slice A1 n1 c1] 33) := ⟨_, rfl⟩
  obtain ⟨hE, hsb, q1, q2, q3⟩ := box21 w _ _ _ _ _ wb hwb
  have HE := Lib.hid hE
  have Hwb := Lib.hid hwb
  have Q1 := Lib.hid q1
  have Q2 := Lib.hid q2
  have Q3 := Lib.hid q3
  have hxb := Lib.hid (hx.keep hE)
  have hxb1 := Lib.hid (hx1.keep hE)
  have hbl : w.heap.size + 1 < wb.heap.size := by omega
  have cO := Lib.hid (impl_HouseOk H A n c ds wb hxb.out)
  clear hE hwb q1 q2 q3 hx hx1 hsb
  cases hB : houseB H ds
  case false =>
    rw [hB] at cO
    have HF : Hid (leastK H ds rings = []) := by unfold Hid leastK; rw [hB]; rfl
    clear hB
    have q1 := Q1.out
    have q2 := Q2.out
    go_enter Try.func25, Try.ntmps25
    go_wp2_with fail
    rw [← Hwb.out]
    refine cO.out.mono ?_
    rintro e w1 ⟨rfl, he1⟩
    have HE1 := Lib.hid he1
    clear he1 q1 q2
    go_wp2_with fail
    go_ret
    exact ⟨_, rfl, HE.out.trans HE1.out, by rw [HF.out]; exact World.ownsRow_nil _ _ _ _⟩
  rw [hB] at cO
  by_cases h6 : n1 ≤ 6
  case neg =>
    have HF : Hid (leastK H ds rings = []) := by unfold Hid leastK; rw [decide_eq_false (show ¬ rings.length ≤ 6 by rw [hl1.out]; exact h6)]; simp
    clear hB
    go_enter Try.func25, Try.ntmps25
    go_wp2_with fail
    rw [← Hwb.out]
    refine cO.out.mono ?_
    rintro e w1 ⟨rfl, he1⟩
    have q3 := (he1.cellAt (w.heap.size + 1) hbl 0).trans Q3.out
    have HE1 := Lib.hid he1
    clear he1
    go_wp2_with fail
    go_ret
    exact ⟨_, rfl, HE.out.trans HE1.out, by rw [HF.out]; exact World.ownsRow_nil _ _ _ _⟩
  have cR := Lib.hid (fun x w1 (he : Ext wb w1) => impl_RingOk H A n c ds x w1 (hxb.out.keep he))
  have HB := Lib.hid hB
  clear hB
  go_enter Try.func25, Try.ntmps25
  go_wp2_with fail
  rw [← Hwb.out]
  refine cO.out.mono ?_
  rintro e w1 ⟨rfl, he1⟩
  have q3 := (he1.cellAt (w.heap.size + 1) hbl 0).trans Q3.out
  have HE1 := Lib.hid he1
  clear he1
  go_wp2_with fail
  clear q3
  go_loopw [20] (fun i wr => ∃ k : Nat, k ≤ n1 ∧ i = .int .i64 k ∧ Hid (rings.all (ringB H ds) = (rings.drop k).all (ringB H ds)) ∧ Ext wb wr) (fun i _ => n1 - (intOf i).toNat)
  case atStart => exact ⟨0, Nat.zero_le _, rfl, rfl, HE1.out⟩
  case round =>
    obtain ⟨k, hk, rfl, hz, hb⟩ := hrel
    have k0 := (hb.cellAt w.heap.size (by omega) 0).trans Q1.out
    have k1 := (hb.cellAt w.heap.size (by omega) 1).trans Q2.out
    have k2 := (hb.cellAt (w.heap.size + 1) hbl 0).trans Q3.out
    by_cases hlt : k < n1
    · obtain ⟨b, off, x, rfl, hbb, hxk, p0⟩ := ienc_at (hxb1.out.keep hb) hlt
      have HD := Lib.hid (drop_cons hxk)
      have HBb := Lib.hid hb
      have cRx := Lib.hid (cR.out x wr hb)
      clear hb hxk
      cases hR : ringB H ds x
      case false =>
        rw [hR] at cRx
        have HF : Hid (leastK H ds rings = []) := by unfold Hid leastK; rw [hz.out, HD.out]; simp [hR]
        clear hR
        go_wp2_with fail
        refine cRx.out.mono ?_
        rintro e w3 ⟨rfl, he3⟩
        have HE3 := Lib.hid (HBb.out.trans he3)
        clear he3 k0 k1 k2
        go_wp2_with fail
        go_ret
        exact ⟨_, rfl, HE.out.trans HE3.out, by rw [HF.out]; exact World.ownsRow_nil _ _ _ _⟩
      case true =>
        rw [hR] at cRx
        have HF : Hid (rings.all (ringB H ds) = (rings.drop (k + 1)).all (ringB H ds)) := by unfold Hid; rw [hz.out, HD.out]; simp [hR]
        clear hR
        go_wp2_with fail
        refine cRx.out.mono ?_
        rintro e w3 ⟨rfl, he3⟩
        have HE3 := Lib.hid (HBb.out.trans he3)
        clear he3 k0 k1 k2
        go_wp2_with fail
        go_roundw
        case rel => exact ⟨k + 1, by omega, by go_num, HF, HE3.out⟩
        case measure => simp [intOf]; omega
    · obtain rfl : k = n1 := by omega
      obtain ⟨wo, rfl⟩ : ∃ wo : World, wo = wr := ⟨_, rfl⟩
      have hall : rings.all (ringB H ds) = true := by rw [hz.out, drop_nil (by rw [hl1.out]; omega)]; rfl
      obtain ⟨h1, h7, h12, hT, hok, -⟩ := houseB_spec HB.out
      obtain ⟨h, hh⟩ := Int.eq_ofNat_of_zero_le (show 0 ≤ H by omega)
      subst hh
      have HT := Lib.hid hT
      have HA := Lib.hid hall
      have HF : Hid (leastK h ds rings = (findK k (keepP h ds rings)).getD []) := by
        unfold Hid leastK; rw [HB.out, hall, hl1.out, decide_eq_true h6]; rfl
      have hn12 : n ≤ 12 := by have := hl.out; omega
      have HTs := Lib.hid (keep_tst h A n c ds A1 k c1 rings wo (w.heap.size + 1) w.heap.size (by have := hb.size; omega) (by have := hb.size; omega) k2 k0 k1 (hxb.out.keep hb) (hxb1.out.keep hb) HT (by omega) (by omega) hn12 HA)
      have HBb := Lib.hid hb
      have K2 := Lib.hid k2
      have hbs := hb.size
      clear hb hall hT hok hz h12
      go_wp2_with fail
      clear k0 k1 k2
      go_loopw [8] (fun i wr => ∃ m : Nat, m ≤ k + 1 ∧ i = .int .i64 m ∧ Hid (findK k (keepP h ds rings) = (List.range' m (k + 1 - m)).findSome? fun (m : Nat) => (lsts k m []).find? (keepP h ds rings)) ∧ Ext wo wr) (fun i _ => k + 1 - (intOf i).toNat)
      case atStart => exact ⟨0, by omega, rfl, rfl, Ext.refl _⟩
      case round =>
        obtain ⟨m, hm, rfl, hz, hb⟩ := hrel
        have k2 := (hb.cellAt (w.heap.size + 1) (by omega) 0).trans K2.out
        by_cases hlt : m ≤ k
        · have hr' : Hid (List.range' m (k + 1 - m) = m :: List.range' (m + 1) (k + 1 - (m + 1))) := by
            unfold Hid
            have : k + 1 - m = (k + 1 - (m + 1)) + 1 := by omega
            rw [this, List.range'_succ]
          have HBr := Lib.hid hb
          have HCall := Lib.hid (impl_firstList2 _ _ k h6 (keepP h ds rings) wo HTs.out m [] none 0 0 wr hb (Rd.nil _ _) (Nat.le_refl _) (by unfold Hid; intro; rfl) (by unfold Hid; intro x hx; simp at hx) (by omega))
          clear hb
          go_wp2_with fail
          refine HCall.out.mono ?_
          clear HCall
          rintro e w5 (⟨hF, rfl, he5⟩ | ⟨L, g, c', hF, rfl, he5, ho5⟩)
          · have HE5 := Lib.hid (HBr.out.trans he5)
            have HFx := Lib.hid hF
            clear hF he5 k2
            go_wp2_with fail
            go_roundw
            case rel => exact ⟨m + 1, by omega, by go_num, by unfold Hid; rw [hz.out, hr'.out, List.findSome?_cons, HFx.out], HE5.out⟩
            case measure => simp [intOf]; omega
          · have HE5 := Lib.hid (HE.out.trans (HBb.out.trans (HBr.out.trans he5)))
            have HFx := Lib.hid hF
            have hs4 := (HE.out.trans (HBb.out.trans HBr.out)).size
            have HO5 := Lib.hid (own_weak ho5 hs4)
            clear hF he5 ho5 k2
            go_wp2_with fail
            go_ret
            have hC : leastK h ds rings = L := by rw [HF.out, hz.out, hr'.out, List.findSome?_cons, HFx.out]; rfl
            exact ⟨_, rfl, HE5.out, by rw [hC]; exact HO5.out⟩
        · obtain rfl : m = k + 1 := by omega
          have HBr := Lib.hid hb
          clear hb
          go_wp2_with fail
          go_ret
          have hC : leastK h ds rings = [] := by rw [HF.out, hz.out, Nat.sub_self]; rfl
          exact ⟨_, rfl, HE.out.trans (HBb.out.trans HBr.out), by rw [hC]; exact World.ownsRow_nil _ _ _ _⟩
end Go.Proofs.Ytcmbjkidgemdaaa
