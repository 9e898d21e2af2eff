/- The drawing of an exhibition; no condition but what stands at each theorem. -/
import Derived.Test.YtlgmiifpdjalpaaS8
import Derived.Test.YtlgmiifpdjalpaaS15
import Derived.Test.YtlgmiifpdjalpaaSW1
namespace Go.Proofs.Ytlgmiifpdjalpaa
set_option linter.unusedSimpArgs false
set_option linter.unusedVariables false
open Go.RowKit
theorem own_nil {w : World} {base : Nat} {e : TypeId} {m n n' c : Nat} {A : Option Addr} {L : List Value} (h : w.ownsRow base e m (.slice A n' c) n L) : A = none → c = 0 := by
  intro hA
  rcases h.2 with ⟨hv, _⟩ | ⟨g, cap, cur, hv, _⟩
  · injection hv
  · injection hv with h1
    rw [hA] at h1
    cases h1
/-- Fit loans, halls and room have been drawn, rows of the call's own. -/
def DrawnCase (p : Nat) (w : World) (e : Ending) (w' : World) : Prop := ∃ (Al : Option Addr) (cl : Nat) (loans : List GLoan) (Ah : Option Addr) (ch : Nat) (halls : List GClimate) (Ar : Option Addr) (cr : Nat) (room : List Int),
  e = .returned (.tuple #[.slice Al loans.length cl, .slice Ah halls.length ch, .slice Ar halls.length cr]) ∧
  w'.ownsRow w.heap.size 25 4 (.slice Al loans.length cl) loans.length (loans.flatMap GLoan.enc) ∧ w'.ownsRow w.heap.size 36 3 (.slice Ah halls.length ch) halls.length (halls.flatMap GClimate.enc) ∧ w'.ownsRow w.heap.size 3 1 (.slice Ar halls.length cr) halls.length (room.flatMap ienc) ∧
  loans.length ≤ 4 ∧ 1 ≤ halls.length ∧ halls.length ≤ 4 ∧ room.length = halls.length ∧ (∀ x ∈ room, 1 ≤ x ∧ x ≤ 2) ∧ (∀ l ∈ loans, loOk l = true) ∧ Cur w' p ∧ w.grownBy w' (some p)
theorem ei_intX : EI Try.prog 31 3 1 := ei_of Try.underlying31 (by omega) (by kernel_rfl)
set_option maxRecDepth 100000 in
set_option maxHeartbeats 2000000 in
theorem spec_l34Case (p : Nat) (w : World) (hc : Cur w p) :
    Calls Try.prog 94 #[.pointer (some ⟨p, 0, none⟩)] w (DrawnCase p w) := by
  have hp := hc.lt
  obtain ⟨wa, hwa⟩ : ∃ wa, wa = w.alloc (.cells #[] 25) := ⟨_, rfl⟩
  have hca : Cur wa p := by rw [hwa]; exact cur_alloc hc _
  have hga : w.grownBy wa (some p) := by rw [hwa]; exact grown_alloc (grown_refl _ _) _
  have hoa : wa.ownsRow w.heap.size 25 4 (.slice (some ⟨w.heap.size, 0, none⟩) 0 0) 0 (([] : List GLoan).flatMap GLoan.enc) := by rw [hwa]; exact own_empty w w.heap.size 25 4 (Nat.le_refl _)
  have Hwa := Lib.hid hwa
  have HOa := Lib.hid hoa
  have HGa := Lib.hid hga
  clear hwa hoa hga hc
  go_enter Try.func94, Try.ntmps94
  go_wp2_with (go_at_call 105; refine (fun h : Hid _ => h.out) ?_)
  unfold Hid
  rw [← Hwa.out]
  refine (spec_l01Below p _ _ hca).mono ?_
  rintro e w2 ⟨r2, rfl, h20, h21, hc2, hg2⟩
  have HO2 := Lib.hid (own_grown HOa.out hp hg2)
  have HG2 := Lib.hid (grown_trans HGa.out hg2)
  have HC2 := Lib.hid hc2
  obtain ⟨n, rfl⟩ := Int.eq_ofNat_of_zero_le h20
  have hn4 : n ≤ 4 := by omega
  clear hg2 hc2 h20 h21 hca
  go_wp2_with fail
  go_loopw [5, 7, 8] (fun ov iv _ wr => ∃ (k : Nat) (L : List GLoan), k ≤ n ∧ iv = .int .i64 k ∧ Hid (L.length = k) ∧ Hid (∀ x ∈ L, loOk x = true) ∧ Hid (wr.ownsRow w.heap.size 25 4 ov L.length (L.flatMap GLoan.enc)) ∧ Hid (Cur wr p) ∧ Hid (w.grownBy wr (some p))) (fun _ iv _ _ => n - (intOf iv).toNat)
  case atStart => exact ⟨0, [], Nat.zero_le _, rfl, Lib.hid rfl, Lib.hid (fun x hx => by cases hx), HO2, HC2, HG2⟩
  case round =>
    obtain ⟨k, L, hk, rfl, hLk, hLm, hown, hcr, hgr⟩ := hrel
    by_cases hlt : k < n
    · go_wp2_with (go_at_call 79; refine (fun h : Hid _ => h.out) ?_)
      unfold Hid
      refine (spec_l33Loan p _ hcr.out).mono ?_
      rintro e w3 ⟨l, rfl, hl, hc3, hg3⟩
      have HO3 := Lib.hid ((own_grown hown.out hp hg3).alloc (.cells #[.int .i64 l.l, .int .i64 l.lo, .int .i64 l.hi, .int .i64 l.g] 25))
      have HG3 := Lib.hid (grown_alloc (grown_trans hgr.out hg3) (.cells #[.int .i64 l.l, .int .i64 l.lo, .int .i64 l.hi, .int .i64 l.g] 25))
      have HC3 := Lib.hid (cur_alloc hc3 (.cells #[.int .i64 l.l, .int .i64 l.lo, .int .i64 l.hi, .int .i64 l.g] 25))
      obtain ⟨w4, hw4⟩ : ∃ w4, w4 = w3.alloc (.cells #[.int .i64 l.l, .int .i64 l.lo, .int .i64 l.hi, .int .i64 l.g] 25) := ⟨_, rfl⟩
      have HW4 := Lib.hid hw4
      have hsz : w.heap.size ≤ w4.heap.size := by rw [hw4]; exact HG3.out.size
      have hLl : L.length ≤ 4 := by have := hLk.out; omega
      clear hg3 hc3 hw4
      go_wp2_with (at_builtin; refine (fun h : Hid _ => h.out) ?_)
      unfold Hid
      rw [← HW4.out] at HO3 HG3 HC3 ⊢
      refine append1g ei_Loan rfl _ _ rfl w.heap.size w4 _ _ L.length _ (by rfl) HO3.out (GLoan.enc l) (by rw [HW4.out, heap_size_alloc]; rfl) rfl (one_GLoan1 l) (by omega) hsz ?_
      intro v6 w6 row ho6 hg6 hr6
      have HO6 := Lib.hid ho6
      have HC6 := Lib.hid (cur_grown HC3.out hg6 (fun q hq => by have := hr6 q hq; omega))
      have HG6 := Lib.hid (grown_over HG3.out hg6 (fun q hq => hr6 q hq))
      clear ho6 hg6 hr6
      go_wp2_with fail
      go_roundw
      case rel => exact ⟨k + 1, L ++ [l], by omega, by go_num, Lib.hid (by have := hLk.out; simp; omega), Lib.hid (fun x hx => by
        rcases List.mem_append.1 hx with hx | hx
        · exact hLm.out x hx
        · rw [List.mem_singleton] at hx
          rw [hx]; exact hl), by unfold Hid; rw [List.length_append, List.flatMap_append]; simpa using HO6.out, HC6, HG6⟩
      case measure => simp [intOf] <;> omega
    · obtain rfl : k = n := by omega
      go_wp2_with (go_at_call 80; refine (fun h : Hid _ => h.out) ?_)
      unfold Hid
      refine (spec_l33Halls p _ hcr.out).mono ?_
      rintro e w3 ⟨v3, hs, rfl, ho3, hl4, hl1, hc3, hg3⟩
      obtain ⟨Al, cl, rfl, hcl⟩ := own_form hown.out
      obtain ⟨Ah, ch, rfl, hch⟩ := own_form ho3
      have HOL := Lib.hid (own_grown hown.out hp hg3)
      have hsz : w.heap.size ≤ wr.heap.size := hgr.out.size
      have HOH := Lib.hid (own_weak ho3 hsz)
      have HG3 := Lib.hid (grown_trans hgr.out hg3)
      have hsz3 : w.heap.size ≤ w3.heap.size := HG3.out.size
      have hLl : L.length ≤ 4 := by have := hLk.out; omega
      have hC3 := Lib.hid (cur_alloc hc3 (.cells #[] 3))
      have hp3 : p < w3.heap.size := by omega
      clear hg3 ho3 hc3 hcr hgr hown
      go_wp2_with fail
      go_loopw [10, 11] (fun ov iv wr => ∃ (k : Nat) (R : List Int), k ≤ hs.length ∧ iv = .int .i64 k ∧ Hid (R.length = k) ∧ Hid (∀ x ∈ R, 1 ≤ x ∧ x ≤ 2) ∧ Hid (wr.ownsRow w3.heap.size 3 1 ov R.length (R.flatMap ienc)) ∧ Hid (Cur wr p) ∧ Hid (w3.grownBy wr (some p))) (fun _ iv _ => hs.length - (intOf iv).toNat)
      case atStart => exact ⟨0, [], Nat.zero_le _, rfl, Lib.hid rfl, Lib.hid (fun x hx => by cases hx), Lib.hid (own_empty w3 w3.heap.size 3 1 (Nat.le_refl _)), hC3, Lib.hid (grown_alloc (grown_refl _ _) _)⟩
      case round =>
        obtain ⟨k, R, hk, rfl, hRk, hRm, hown, hcr, hgr⟩ := hrel
        by_cases hlt : k < hs.length
        · have hlti : (k : Int) < hs.length := by omega
          go_wp2_with (go_at_call 105; refine (fun h : Hid _ => h.out) ?_)
          unfold Hid
          refine (spec_l01Below p _ _ hcr.out).mono ?_
          rintro e w5 ⟨r, rfl, hr0, hr1, hc5, hg5⟩
          have HO5 := Lib.hid (own_grown hown.out hp3 hg5)
          have HG5 := Lib.hid (grown_trans hgr.out hg5)
          have HC5 := Lib.hid hc5
          have hsz5 : w3.heap.size ≤ w5.heap.size := HG5.out.size
          have hRl : R.length ≤ 4 := by have := hRk.out; omega
          clear hg5 hc5
          go_wp2_with (at_builtin; refine (fun h : Hid _ => h.out) ?_)
          unfold Hid
          refine append1g ei_intX rfl _ _ rfl w3.heap.size w5 _ _ R.length _ (by rfl) HO5.out [.int .i64 (1 + r)] (by rfl) rfl (by intro u hu; simp at hu; subst hu; rfl) (by omega) hsz5 ?_
          intro v6 w6 row ho6 hg6 hr6
          have HO6 := Lib.hid ho6
          have HC6 := Lib.hid (cur_grown HC5.out hg6 (fun q hq => by have := hr6 q hq; omega))
          have HG6 := Lib.hid (grown_over HG5.out hg6 (fun q hq => hr6 q hq))
          clear ho6 hg6 hr6
          go_wp2_with fail
          go_roundw
          case rel => exact ⟨k + 1, R ++ [1 + r], by omega, by go_num, Lib.hid (by have := hRk.out; simp; omega), Lib.hid (fun x hx => by
            rcases List.mem_append.1 hx with hx | hx
            · exact hRm.out x hx
            · rw [List.mem_singleton] at hx
              omega), by unfold Hid; rw [List.length_append, List.flatMap_append]; simpa [ienc] using HO6.out, HC6, HG6⟩
          case measure => simp [intOf] <;> omega
        · obtain rfl : k = hs.length := by omega
          have ho := hown.out
          rw [hRk.out] at ho
          obtain ⟨Ar, cr, rfl, hcr2⟩ := own_form ho
          have HO := Lib.hid (own_weak ho hsz3)
          clear ho
          go_wp2_with fail
          refine bodyPost_ret (v := .tuple #[.slice Al L.length cl, .slice Ah hs.length ch, .slice Ar hs.length cr]) (by simp [results, Try.results94, go_sem, *]) rfl ?_
          exact ⟨Al, cl, L, Ah, ch, hs, Ar, cr, R, rfl, own_grown HOL.out hp hgr.out, own_grown HOH.out hp hgr.out, HO.out, hLl, hl1, hl4, hRk.out, hRm.out, hLm.out, hcr.out, grown_trans HG3.out hgr.out⟩
/-- An exhibition has been drawn: fit loans, halls and room. -/
def DrawnExh (w : World) (e : Ending) (w' : World) : Prop := ∃ (Al : Option Addr) (cl : Nat) (loans : List GLoan) (Ah : Option Addr) (ch : Nat) (halls : List GClimate) (Ar : Option Addr) (cr : Nat) (room : List Int),
  e = .returned (.tuple #[.slice Al loans.length cl, .slice Ah halls.length ch, .slice Ar halls.length cr]) ∧
  Rd w' 4 Al loans.length (loans.flatMap GLoan.enc) ∧ Rd w' 3 Ah halls.length (halls.flatMap GClimate.enc) ∧ Rd w' 1 Ar halls.length (room.flatMap ienc) ∧ (Ar = none → cr = 0) ∧
  loans.length ≤ 4 ∧ sizesOkB loans.length halls.length room = true ∧ Ext w w'
set_option maxRecDepth 100000 in
set_option maxHeartbeats 1000000 in
theorem spec_DrawExhibition (A : Option Addr) (n c : Nat) (xs : List Int) (w : World) (hx : Rd w 1 A n (xs.flatMap benc)) (hxs : ∀ x ∈ xs, 0 ≤ x ∧ x ≤ 255) (hn1 : n ≤ 1048576) :
    Calls Try.prog 45 #[.slice A n c] w (DrawnExh w) := by
  have cN := Lib.hid (spec_l01New A n c xs w hx hxs hn1)
  clear hx hxs
  go_enter Try.func45, Try.ntmps45
  go_wp2_with (go_at_call 78; refine (fun h : Hid _ => h.out) ?_)
  unfold Hid
  refine cN.out.mono ?_
  rintro e w1 ⟨p, rfl, hp, hc1, he1⟩
  go_wp2_with (go_at_call 94; refine (fun h : Hid _ => h.out) ?_)
  unfold Hid
  refine (spec_l34Case p _ hc1).mono ?_
  rintro e w2 ⟨Al, cl, L, Ah, ch, hs, Ar, cr, R, rfl, ho1, ho2, ho3, hl4, h1, h4, hRl, hR, hLm, hc2, hg2⟩
  have HE := Lib.hid (he1.grown hg2 (fun q hq => by injection hq with hq; omega))
  have H1 := Lib.hid (Rd.of_own ho1)
  have H2 := Lib.hid (Rd.of_own ho2)
  have H3 := Lib.hid (Rd.of_own ho3)
  have H4 := Lib.hid (own_nil ho3)
  have H5 : Hid (sizesOkB L.length hs.length R = true) := Lib.hid (by
    simp only [sizesOkB, inB, Bool.and_eq_true, decide_eq_true_eq, List.all_eq_true]
    exact ⟨⟨⟨by omega, by omega⟩, hRl⟩, fun x hx => by have := hR x hx; omega⟩)
  clear ho1 ho2 ho3 hc2 hg2 he1 hc1
  go_wp2_with fail
  refine bodyPost_ret (v := .tuple #[.slice Al L.length cl, .slice Ah hs.length ch, .slice Ar hs.length cr]) (by simp [results, Try.results45, go_sem, *]) rfl ?_
  exact ⟨Al, cl, L, Ah, ch, hs, Ar, cr, R, rfl, H1.out, H2.out, H3.out, H4.out, hl4, H5.out, HE.out⟩
end Go.Proofs.Ytlgmiifpdjalpaa
