/- Contract of LeastConflict and of its test; no condition but what stands at each theorem. -/
import Derived.Test.YtlgmiifpdjalpaaS13
import Derived.Test.YtlgmiifpdjalpaaS14
namespace Go.Proofs.Ytlgmiifpdjalpaa
set_option linter.unusedSimpArgs false
set_option linter.unusedVariables false
open Go.RowKit Go.Sort
def loanAt (loans : List GLoan) (x : Int) : GLoan := loans.getD x.toNat ⟨0, 0, 0, 0⟩
def confl (loans : List GLoan) (halls : List GClimate) (room : List Int) (b : List Int) : Bool := (plansAll (b.map (loanAt loans)) halls room).1 == 0
theorem one_GLoan (xs : List GLoan) : ∀ u ∈ xs.flatMap GLoan.enc, u.oneCell' = true := by
  intro u hu
  obtain ⟨x, _, hx⟩ := List.mem_flatMap.1 hu
  simp only [GLoan.enc, List.mem_cons, List.not_mem_nil, or_false] at hx
  rcases hx with rfl | rfl | rfl | rfl <;> rfl
theorem one_GLoan1 (x : GLoan) : ∀ u ∈ x.enc, u.oneCell' = true := by
  intro u hu
  simp only [GLoan.enc, List.mem_cons, List.not_mem_nil, or_false] at hu
  rcases hu with rfl | rfl | rfl | rfl <;> rfl
theorem ei_Loan : EI Try.prog 64 25 4 := ei_of Try.underlying64 (by omega) (by kernel_rfl)
set_option maxRecDepth 100000 in
set_option maxHeartbeats 1000000 in
theorem conflict_tst (A0 : Option Addr) (n0 c0 : Nat) (loans : List GLoan) (A1 : Option Addr) (n1 c1 : Nat) (halls : List GClimate) (A2 : Option Addr) (n2 c2 : Nat) (room : List Int) (W0 : World) (b1 b2 b3 : Nat)
    (hb1 : b1 < W0.heap.size) (hb2 : b2 < W0.heap.size) (hb3 : b3 < W0.heap.size)
    (hq1 : W0.cell? ⟨b1, 0, none⟩ = some (.slice A0 n0 c0)) (hq2 : W0.cell? ⟨b2, 0, none⟩ = some (.slice A1 n1 c1)) (hq3 : W0.cell? ⟨b3, 0, none⟩ = some (.slice A2 n2 c2))
    (hx0 : Rd W0 4 A0 n0 (loans.flatMap GLoan.enc)) (hx1 : Rd W0 3 A1 n1 (halls.flatMap GClimate.enc)) (hx2 : Rd W0 1 A2 n2 (room.flatMap ienc)) (hnc : Hid (A2 = none → c2 = 0)) (h06 : n0 ≤ 6) :
    Tst3 97 (.pointer (some ⟨b1, 0, none⟩)) (.pointer (some ⟨b2, 0, none⟩)) (.pointer (some ⟨b3, 0, none⟩)) n0 (confl loans halls room) W0 := by
  intro w A k c b hW hx hib hk6
  have hl := Lib.hid (hx.len ienc_len (by omega))
  have hib' := Lib.hid hib
  have HE0 := Lib.hid (own_empty w w.heap.size 25 4 (Nat.le_refl _))
  have s1 := (hW.cellAt b1 hb1 0).trans hq1
  have s2 := (hW.cellAt b2 hb2 0).trans hq2
  have s3 := (hW.cellAt b3 hb3 0).trans hq3
  have hsW := hW.size
  clear hib hq1 hq2 hq3
  go_enter Try.func97, Try.ntmps97
  go_wp2_with fail
  go_loopw [6, 12] (fun s i wr => ∃ (j : Nat) (L : List GLoan), j ≤ k ∧ i = .int .i64 j ∧ wr.ownsRow w.heap.size 25 4 s L.length (L.flatMap GLoan.enc) ∧ Hid (L = (b.take j).map (loanAt loans)) ∧ Hid (L.length = j) ∧ Ext w wr) (fun _ i _ => k - (intOf i).toNat)
  case atStart => exact ⟨0, [], Nat.zero_le _, rfl, HE0.out, rfl, rfl, (Ext.refl _).alloc _⟩
  case round =>
    obtain ⟨j, L, hj, rfl, hown, hz, hLj, hb⟩ := hrel
    have r1 := (hb.cellAt b1 (by omega) 0).trans s1
    have r2 := (hb.cellAt b2 (by omega) 0).trans s2
    have r3 := (hb.cellAt b3 (by omega) 0).trans s3
    by_cases hlt : j < k
    · obtain ⟨bb, off, x, rfl, hbs, hxk, h0⟩ := ienc_at (hx.keep hb) hlt
      have hxb := hib'.out x (List.mem_of_getElem? hxk)
      obtain ⟨q, rfl⟩ := Int.eq_ofNat_of_zero_le hxb.1
      have hq : q < n0 := by omega
      obtain ⟨b0, off0, l, rfl, hbs0, hlk, g0, g1, g2, g3⟩ := GLoan.at_ (hx0.keep (hW.trans hb)) hq
      have HL : Hid (loanAt loans (q : Int) = l) := by unfold Hid loanAt; rw [Int.toNat_natCast]; exact getD_of hlk
      have HX := Lib.hid (take_snoc hxk)
      clear hxk hlk hxb
      have HO := Lib.hid hown
      have HB := Lib.hid hb
      have hsb := hb.size
      clear hown hb
      go_wp2_with (at_builtin; refine append1 ei_Loan rfl _ _ rfl w.heap.size wr _ u6 L.length _ (by rfl) HO.out (GLoan.enc l) (by rfl) rfl (one_GLoan1 l) (by have := hLj.out; omega) hsb ?_; intro v' w2 ho2 he2; have HO2 := Lib.hid ho2; have HE2 := Lib.hid (he2 w HB.out (Nat.le_refl _)); clear ho2 he2)
      go_roundw
      case rel =>
        refine ⟨j + 1, L ++ [l], by omega, by go_num, ?_, by unfold Hid; rw [HX.out, List.map_append, ← hz.out]; simp [HL.out], by unfold Hid; have := hLj.out; simp; omega, HE2.out⟩
        have := HO2.out
        simpa using this
      case measure => simp [intOf]; omega
    · obtain rfl : j = k := by omega
      have HB := Lib.hid hb
      obtain ⟨As, cs, rfl, hncs⟩ := own_form hown
      have hp : (plansAll L halls room).1 = (plansAll (b.map (loanAt loans)) halls room).1 := by
        have := hz.out
        rw [List.take_of_length_le (by rw [hl.out]; omega)] at this
        rw [this]
      have HP := Lib.hid hp
      have HCall := Lib.hid (impl_CountPlans As _ cs L A1 n1 c1 halls A2 n2 c2 room wr (Rd.of_own hown) (hx1.keep (hW.trans hb)) (hx2.keep (hW.trans hb)) hnc)
      clear hb hp hown
      go_wp2_with fail
      refine HCall.out.mono ?_
      rintro e w5 ⟨rfl, he5⟩
      have HE5 := Lib.hid (HB.out.trans he5)
      clear he5 HCall
      go_wp2_with fail
      go_ret
      exact ⟨ret_bool (by unfold confl; rw [HP.out]), HE5.out⟩
def leastC (loans : List GLoan) (halls : List GClimate) (room : List Int) : List Int := if sizesOkB loans.length halls.length room then ((allL loans.length).find? (confl loans halls room)).getD [] else []
set_option maxRecDepth 100000 in
set_option maxHeartbeats 1000000 in
theorem impl_LeastConflict (A0 : Option Addr) (n0 c0 : Nat) (loans : List GLoan) (A1 : Option Addr) (n1 c1 : Nat) (halls : List GClimate) (A2 : Option Addr) (n2 c2 : Nat) (room : List Int) (w : World)
    (hx0 : Rd w 4 A0 n0 (loans.flatMap GLoan.enc)) (hx1 : Rd w 3 A1 n1 (halls.flatMap GClimate.enc)) (hx2 : Rd w 1 A2 n2 (room.flatMap ienc)) (hnc : Hid (A2 = none → c2 = 0)) :
    Calls Try.prog 48 #[.slice A0 n0 c0, .slice A1 n1 c1, .slice A2 n2 c2] w fun e w' => ∃ v, e = .returned v ∧ Ext w w' ∧ w'.ownsRow w.heap.size 3 1 v (leastC loans halls room).length ((leastC loans halls room).flatMap ienc) := by
  have hn0 := hx0.2.1
  have hn1 := hx1.2.1
  have hl0 := Lib.hid (hx0.len GLoan.len (by omega))
  have hl1 := Lib.hid (hx1.len GClimate.len (by omega))
  have hl2 := Lib.hid (hx2.len ienc_len (by omega))
  have HC : Hid (leastC loans halls room = if sizesOkB n0 n1 room then ((allL n0).find? (confl loans halls room)).getD [] else []) := by unfold Hid leastC; rw [hl0.out, hl1.out]
  obtain ⟨wb, hwb⟩ : ∃ wb, wb = ((w.alloc (.cells #[.slice A0 n0 c0] 64)).alloc (.cells #[.slice A1 n1 c1] 26)).alloc (.cells #[.slice A2 n2 c2] 31) := ⟨_, rfl⟩
  obtain ⟨hEb, hsb, q1, q2, q3⟩ := boxes3 w _ _ _ _ _ _ wb hwb
  have HEb := Lib.hid hEb
  have Hwb := Lib.hid hwb
  cases hv : sizesOkB n0 n1 room
  case false =>
    rw [hv] at HC
    have HCall := Lib.hid (impl_sizesOk A0 n0 c0 A1 n1 c1 A2 n2 c2 room wb (hx2.keep hEb) hn0 hn1)
    rw [hv] at HCall
    clear hwb hEb q1 q2 q3 hv
    go_enter Try.func48, Try.ntmps48
    go_wp2_with fail
    rw [← Hwb.out]
    refine HCall.out.mono ?_
    rintro e w1 ⟨rfl, rfl⟩
    go_wp2_with fail
    go_ret
    exact ⟨_, rfl, HEb.out, by rw [HC.out]; exact World.ownsRow_nil _ _ _ _⟩
  obtain ⟨g0, g1, g2, g3, g4⟩ := sizesOkB_spec hv
  rw [hl2.out] at g3
  subst g3
  have HCall := Lib.hid (impl_sizesOk A0 n0 c0 A1 n2 c1 A2 n2 c2 room wb (hx2.keep hEb) hn0 hn1)
  have HT := Lib.hid (conflict_tst A0 n0 c0 loans A1 n2 c1 halls A2 n2 c2 room wb w.heap.size (w.heap.size + 1) (w.heap.size + 1 + 1) (by omega) (by omega) (by omega) q1 q2 q3 (hx0.keep hEb) (hx1.keep hEb) (hx2.keep hEb) hnc g0)
  rw [hv] at HC HCall
  have Hq1 := Lib.hid q1
  have Hsb := Lib.hid hsb
  clear hwb hEb q1 q2 q3 hsb hv g4
  go_enter Try.func48, Try.ntmps48
  go_wp2_with fail
  rw [← Hwb.out]
  refine HCall.out.mono ?_
  rintro e w1 ⟨rfl, rfl⟩
  clear HCall
  go_wp2_with fail
  go_loopw [8] (fun i wr => ∃ k : Nat, 1 ≤ k ∧ k ≤ n0 + 1 ∧ i = .int .i64 k ∧ Hid ((allL n0).find? (confl loans halls room) = (List.range' k (n0 + 1 - k)).findSome? fun (m : Nat) => (lsts n0 m []).find? (confl loans halls room)) ∧ Ext wb wr) (fun i _ => n0 + 1 - (intOf i).toNat)
  case atStart => exact ⟨1, Nat.le_refl _, by omega, rfl, by unfold Hid; rw [allL_find]; rfl, Ext.refl _⟩
  case round =>
    obtain ⟨k, hk1, hk, rfl, hz, hb⟩ := hrel
    have r1 := (hb.cellAt w.heap.size (by rw [Hsb.out]; omega) 0).trans Hq1.out
    by_cases hlt : k ≤ n0
    · have hr' : Hid (List.range' k (n0 + 1 - k) = k :: List.range' (k + 1) (n0 + 1 - (k + 1))) := by
        unfold Hid
        have : n0 + 1 - k = (n0 + 1 - (k + 1)) + 1 := by omega
        rw [this, List.range'_succ]
      have HB := Lib.hid hb
      have HCall := Lib.hid (impl_firstList3 _ _ _ n0 g0 (confl loans halls room) wb HT.out k [] none 0 0 wr hb (Rd.nil _ _) (Nat.le_refl _) (by unfold Hid; intro; rfl) (by unfold Hid; intro x hx; simp at hx) (by omega))
      clear hb
      go_wp2_with fail
      refine HCall.out.mono ?_
      clear HCall
      rintro e w5 (⟨hF, rfl, he5⟩ | ⟨L, g, c, hF, rfl, he5, ho5⟩)
      · have HE5 := Lib.hid (HB.out.trans he5)
        have HF := Lib.hid hF
        clear hF he5
        go_wp2_with fail
        go_roundw
        case rel => exact ⟨k + 1, by omega, by omega, by go_num, by unfold Hid; rw [hz.out, hr'.out, List.findSome?_cons, HF.out], HE5.out⟩
        case measure => simp [intOf]; omega
      · have HE5 := Lib.hid (HEb.out.trans (HB.out.trans he5))
        have HF := Lib.hid hF
        have hs4 := (HEb.out.trans HB.out).size
        have HO5 := Lib.hid (own_weak ho5 hs4)
        clear hF he5 ho5
        go_wp2_with fail
        go_ret
        have hC : leastC loans halls room = L := by rw [HC.out, hz.out, hr'.out, List.findSome?_cons, HF.out]; rfl
        exact ⟨_, rfl, HE5.out, by rw [hC]; exact HO5.out⟩
    · obtain rfl : k = n0 + 1 := by omega
      have HB := Lib.hid hb
      clear hb
      go_wp2_with fail
      go_ret
      have hC : leastC loans halls room = [] := by rw [HC.out, hz.out, Nat.sub_self]; rfl
      exact ⟨_, rfl, HEb.out.trans HB.out, by rw [hC]; exact World.ownsRow_nil _ _ _ _⟩
end Go.Proofs.Ytlgmiifpdjalpaa
