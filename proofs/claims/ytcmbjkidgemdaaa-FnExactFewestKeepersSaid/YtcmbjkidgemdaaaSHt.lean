/- Contracts of MasterRings and l37Rings; no condition but what stands at each theorem. -/
import Derived.Test.YtcmbjkidgemdaaaSHs
namespace Go.Proofs.Ytcmbjkidgemdaaa
set_option linter.unusedSimpArgs false
set_option linter.unusedVariables false
open Go.RowKit Go.Sort
def fullB (H : Int) (ds : List GDoor) (r : Int) : Bool := (hallsL ds H.toNat 0 r.toNat).length == H.toNat
def mastG (H : Int) (ds : List GDoor) : Nat → List Int → List Int → List Int
  | _, M, [] => M
  | k, M, r :: rs => if ringB H ds r then mastG H ds (k + 1) (if fullB H ds r then M ++ [(k : Int)] else M) rs else []
def mastL (H : Int) (ds : List GDoor) (rings : List Int) : List Int := mastG H ds 0 [] rings
theorem mastG_len (H : Int) (ds : List GDoor) : ∀ (rs : List Int) (k : Nat) (M : List Int), (mastG H ds k M rs).length ≤ M.length + rs.length
  | [], k, M => by simp [mastG]
  | r :: rs, k, M => by
    unfold mastG
    split
    · have := mastG_len H ds rs (k + 1) (if fullB H ds r then M ++ [(k : Int)] else M)
      split at this <;> split <;> simp_all <;> omega
    · simp
theorem mastG_no (H : Int) (ds : List GDoor) : ∀ (rs : List Int) (k : Nat) (M : List Int), rs.all (ringB H ds) = false → mastG H ds k M rs = []
  | [], k, M, h => by simp at h
  | r :: rs, k, M, h => by
    unfold mastG
    cases hr : ringB H ds r with
    | false => rfl
    | true =>
      simp only [if_true]
      exact mastG_no H ds rs (k + 1) _ (by simpa [hr] using h)
def ringsB (H : Int) (ds : List GDoor) (rings : List Int) : Bool := rings.all (ringB H ds) && houseB H ds
/-- All halls are open just if the reference's set is full. -/
theorem full_set {ds : List GDoor} {h r : Nat} (h1 : 1 ≤ h) (hok : ∀ d ∈ ds, doorOk h d = true) : (reached (opened r ds) 0 h == 2 ^ h - 1) = fullB h ds r := by
  have ho := opened_ok hok r
  rw [Bool.eq_iff_iff]
  unfold fullB hallsL
  simp only [Int.toNat_natCast, beq_iff_eq, List.length_map]
  have hl : (((List.range h).filter (reachB (opened r ds) h 0)).length = h) ↔ ∀ k ∈ List.range h, reachB (opened r ds) h 0 k = true := by
    have := List.length_filter_eq_length_iff (p := reachB (opened r ds) h 0) (l := List.range h)
    rw [List.length_range] at this
    exact this
  rw [hl]
  constructor
  · intro e k hk
    have hk' : k < h := by simpa using hk
    rw [← reached_reach (by omega) hk' ho, e, Nat.testBit_two_pow_sub_one]
    simpa using hk'
  · intro hall
    apply Nat.eq_of_testBit_eq
    intro k
    rw [Nat.testBit_two_pow_sub_one]
    by_cases hk : k < h
    · rw [reached_reach (by omega) hk ho, hall k (by simpa using hk)]
      simp [hk]
    · cases hb : (reached (opened r ds) 0 h).testBit k with
      | false => simp [hk]
      | true => have := (reached_sound (by omega) ho h k hb).1; omega
set_option maxRecDepth 100000 in
set_option maxHeartbeats 4000000 in
theorem impl_MasterRings (H : Int) (A : Option Addr) (n c : Nat) (ds : List GDoor) (A1 : Option Addr) (n1 c1 : Nat) (rings : List Int) (w : World) (hx : Rd w 2 A n (ds.flatMap GDoor.enc)) (hx1 : Rd w 1 A1 n1 (rings.flatMap ienc)) (hn1 : n1 ≤ 1048576) :
    Calls Try.prog 29 #[.agg #[.int .i64 H, .slice A n c], .slice A1 n1 c1] w (OwnL (mastL H ds rings) w) := by
  have hl := Lib.hid (hx.len GDoor.len (by omega))
  have hl1 := Lib.hid (hx1.len ienc_len (by omega))
  obtain ⟨wb, hwb⟩ : ∃ wb, wb = w.alloc (.cells #[.int .i64 H, .slice A n c] 29) := ⟨_, rfl⟩
  obtain ⟨hE, hsb, k0, k1⟩ := box2 w _ _ _ wb hwb
  have HE := Lib.hid hE
  have Hwb := Lib.hid hwb
  have Hk0 := Lib.hid k0
  have Hk1 := Lib.hid k1
  have hbl : w.heap.size < wb.heap.size := by omega
  have hxb := Lib.hid (hx.keep hE)
  have hxb1 := Lib.hid (hx1.keep hE)
  clear hE hx hx1 hsb k0 k1 hwb
  obtain ⟨wc, hwc⟩ : ∃ wc, wc = wb.alloc (.cells #[] 3) := ⟨_, rfl⟩
  have HEc : Hid (Ext wb wc) := by unfold Hid; rw [hwc]; exact (Ext.refl wb).alloc _
  have HOc : Hid (wc.ownsRow wb.heap.size 3 1 (.slice (some ⟨wb.heap.size, 0, none⟩) 0 0) 0 []) := by unfold Hid; rw [hwc]; exact own_empty wb wb.heap.size 3 1 (Nat.le_refl _)
  have hsb : wb.heap.size = w.heap.size + 1 := by rw [Hwb.out]; simp
  rw [hsb] at HOc
  have Hwc := Lib.hid hwc
  have Hsb := Lib.hid hsb
  clear hwc hsb
  have hsw := HE.out.size
  go_enter Try.func29, Try.ntmps29
  go_wp2_with fail
  rw [← Hwb.out, ← Hwc.out]
  go_loopw [5, 11] (fun o i wr => ∃ (k : Nat) (M : List Int), k ≤ n1 ∧ i = .int .i64 k ∧ wr.ownsRow (w.heap.size + 1) 3 1 o M.length (M.flatMap ienc) ∧ Hid (mastL H ds rings = mastG H ds k M (rings.drop k)) ∧ Hid (M.length ≤ k) ∧ Ext wb wr) (fun _ i _ => n1 - (intOf i).toNat)
  case atStart => exact ⟨0, [], Nat.zero_le _, rfl, HOc.out, rfl, Nat.zero_le _, HEc.out⟩
  case round =>
    obtain ⟨k, M, hk, rfl, hown, hz, hMk, hb⟩ := hrel
    have hbs := hb.size
    have hMl : M.length ≤ 1048576 := by have := hMk.out; omega
    have HO := Lib.hid hown
    have HB := Lib.hid hb
    by_cases hlt : k < n1
    · obtain ⟨b, off, r, rfl, hbb, hrk, p0⟩ := ienc_at (hxb1.out.keep hb) hlt
      have HD := Lib.hid (drop_cons hrk)
      have cR := Lib.hid (impl_RingOk H A n c ds r wr (hxb.out.keep HB.out))
      have k0 := (HB.out.cellAt w.heap.size hbl 0).trans Hk0.out
      have k1 := (HB.out.cellAt w.heap.size hbl 1).trans Hk1.out
      clear hown hb hrk
      cases hR : ringB H ds r
      case false =>
        rw [hR] at cR
        have HF : Hid (mastL H ds rings = []) := by unfold Hid; rw [hz.out, HD.out, mastG, hR]; rfl
        clear hR
        go_wp2_with fail
        refine cR.out.mono ?_
        rintro e w1 ⟨rfl, he1⟩
        have HE1 := Lib.hid (HB.out.trans he1)
        clear he1 k0 k1
        go_wp2_with fail
        go_ret
        exact ⟨_, rfl, HE.out.trans HE1.out, by rw [HF.out]; exact World.ownsRow_nil _ _ _ _⟩
      case true =>
        rw [hR] at cR
        obtain ⟨hB, r0, r1⟩ := ringB_spec hR
        obtain ⟨h1, h7, h12, hT, hok, -⟩ := houseB_spec hB
        obtain ⟨h, hh⟩ := Int.eq_ofNat_of_zero_le (show 0 ≤ H by omega)
        obtain ⟨q, hq⟩ := Int.eq_ofNat_of_zero_le r0
        subst hh hq
        have HT := Lib.hid hT
        have cH := Lib.hid (fun w1 he => impl_hallsWith h A n c ds 0 q w1 (hxb.out.keep he) HT (by omega) (by omega) (by have := hl.out; omega) (by omega) (by omega))
        have HF : Hid (∀ t, fullB h ds q = t → mastL h ds rings = mastG h ds (k + 1) (if t then M ++ [(k : Int)] else M) (rings.drop (k + 1))) := by
          unfold Hid; intro t ht; rw [hz.out, HD.out, mastG, hR, ht]; rfl
        clear hR hB hT hok
        go_wp2_with fail
        refine cR.out.mono ?_
        rintro e w1 ⟨rfl, he1⟩
        have HO1 := Lib.hid (own_keep HO.out he1)
        have HE1 := Lib.hid (HB.out.trans he1)
        clear he1 k0 k1
        have k0 := (HE1.out.cellAt w.heap.size hbl 0).trans Hk0.out
        have k1 := (HE1.out.cellAt w.heap.size hbl 1).trans Hk1.out
        go_wp2_with fail
        have hlw : wb.heap.size ≤ w1.heap.size := HE1.out.size
        have hcmp : (((hallsL ds h 0 q).length : Int) == (h : Int)) = fullB h ds q := by
          unfold fullB; rw [Bool.eq_iff_iff]; simp only [Int.toNat_natCast, beq_iff_eq]; omega
        have hL7 := hallsL_len ds h 0 q
        cases hF : fullB h ds q
        all_goals rw [hF] at hcmp
        case false =>
          have HM := Lib.hid (HF.out false hF)
          clear hF
          go_region_held3 (fun w' => w'.cell? ⟨w.heap.size, 0, none⟩ = some (.int .i64 (h : Int)) ∧ w'.cell? ⟨w.heap.size, 1, none⟩ = some (.slice A n c)) (go_keep) ((go_at_call 67; refine (cH.out _ (HE1.out.trans ((Ext.refl _).drewN 1))).mono ?_; rintro e w3 ⟨v3, rfl, he3, ho3⟩; obtain ⟨A3, c3, rfl, hnc3⟩ := own_form ho3; have y0 := he3.cellAt w.heap.size (by simp; omega) 0; have y1 := he3.cellAt w.heap.size (by simp; omega) 1))
          have HE3 := Lib.hid (HE1.out.trans (((Ext.refl _).drewN 1).trans he3))
          have HO3 := Lib.hid (own_keep HO1.out (((Ext.refl _).drewN 1).trans he3))
          clear he3 ho3 k0 k1 y0 y1
          go_wp2_with fail
          go_roundw
          case rel => exact ⟨k + 1, M, by omega, by go_num, HO3.out, by unfold Hid; rw [HM.out]; rfl, by have := hMk.out; unfold Hid; omega, HE3.out⟩
          case measure => simp [intOf]; omega
        case true =>
          have HM := Lib.hid (HF.out true hF)
          clear hF
          go_region_held3 (fun w' => w'.cell? ⟨w.heap.size, 0, none⟩ = some (.int .i64 (h : Int)) ∧ w'.cell? ⟨w.heap.size, 1, none⟩ = some (.slice A n c)) (go_keep) ((go_at_call 67; refine (cH.out _ (HE1.out.trans ((Ext.refl _).drewN 1))).mono ?_; rintro e w3 ⟨v3, rfl, he3, ho3⟩; obtain ⟨A3, c3, rfl, hnc3⟩ := own_form ho3; have y0 := he3.cellAt w.heap.size (by simp; omega) 0; have y1 := he3.cellAt w.heap.size (by simp; omega) 1))
          have HE3 := Lib.hid (HE1.out.trans (((Ext.refl _).drewN 1).trans he3))
          have HO3 := Lib.hid (own_keep HO1.out (((Ext.refl _).drewN 1).trans he3))
          have hs3 := HE3.out.size
          have hsb := Hsb.out
          clear he3 ho3 k0 k1 y0 y1
          go_wp2_with (at_builtin; refine append1 ei_I rfl _ _ rfl (w.heap.size + 1) w3 _ _ M.length _ (by rfl) HO3.out [.int .i64 k] (by rfl) rfl (one_int1 _) (by omega) (by omega) ?_; intro v' w6 ho6 he6; have HO6 := Lib.hid ho6; have HE6 := Lib.hid (he6 wb HE3.out (by omega)); clear ho6 he6)
          go_roundw
          case rel => exact ⟨k + 1, M ++ [(k : Int)], by omega, by go_num, by have := HO6.out; simpa [ienc] using this, by unfold Hid; rw [HM.out]; rfl, by have := hMk.out; unfold Hid; simp; omega, HE6.out⟩
          case measure => simp [intOf]; omega
    · obtain rfl : k = n1 := by omega
      clear hown hb
      go_wp2_with fail
      go_ret
      have hM : mastL H ds rings = M := by rw [hz.out, drop_nil (by rw [hl1.out]; omega)]; rfl
      exact ⟨_, rfl, HE.out.trans HB.out, by rw [hM]; exact own_weak HO.out (by omega)⟩
end Go.Proofs.Ytcmbjkidgemdaaa
