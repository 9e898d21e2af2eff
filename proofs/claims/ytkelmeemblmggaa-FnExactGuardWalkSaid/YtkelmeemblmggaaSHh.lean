/- Contracts of the reference's HouseOk, of RingOk, PlacesOk and what they call; no condition but what stands at each theorem. -/
import Derived.Test.YtkelmeemblmggaaSHg
namespace Go.Proofs.Ytkelmeemblmggaa
set_option linter.unusedSimpArgs false
set_option linter.unusedVariables false
open Go.RowKit Go.Sort
theorem houseB_spec {H : Int} {ds : List GDoor} (hB : houseB H ds = true) : 1 ≤ H ∧ H ≤ 7 ∧ ds.length ≤ 12 ∧ NoTwice ds ∧ (∀ d ∈ ds, doorOk H d = true) ∧ ∀ k, k < H.toNat → reachB ds H.toNat 0 k = true := by
  simp only [houseB, formB, Bool.and_eq_true, decide_eq_true_eq, List.all_eq_true] at hB
  obtain ⟨⟨⟨h1, h2⟩, h3⟩, h4⟩ := hB
  have h5 : 1 ≤ H ∧ H ≤ 7 := by simpa [inB] using h1
  exact ⟨h5.1, h5.2, h2, (doorsOk_spec h3).2, (doorsOk_spec h3).1, fun k hk => h4 k (by simpa using hk)⟩
set_option maxRecDepth 100000 in
set_option maxHeartbeats 2000000 in
theorem spec_HouseOk (H : Int) (A : Option Addr) (n c : Nat) (ds : List GDoor) (w : World) (hx : Rd w 2 A n (ds.flatMap GDoor.enc)) :
    Calls Try.prog 65 #[.agg #[.int .i64 H, .slice A n c]] w fun e w' => e = .returned (.bool (houseB H ds)) ∧ Ext w w' := by
  have hn := hx.2.1
  have hl := Lib.hid (hx.len GDoor.len (by omega))
  obtain ⟨wb, hwb⟩ : ∃ wb, wb = w.alloc (.cells #[.int .i64 H, .slice A n c] 24) := ⟨_, rfl⟩
  obtain ⟨hE, hsb, k0, k1⟩ := box2 w _ _ _ wb hwb
  have HE := Lib.hid hE
  have Hwb := Lib.hid hwb
  have Hk0 := Lib.hid k0
  have Hk1 := Lib.hid k1
  have hxb := hx.keep hE
  have hbl : w.heap.size < wb.heap.size := by omega
  have HC := Lib.hid (spec_l23Form H A n c ds wb hxb)
  cases hf : formB H ds
  case false =>
    rw [hf] at HC
    have HF : Hid (houseB H ds = false) := by unfold Hid houseB; rw [hf]; rfl
    clear hE hsb hx hf k0 k1
    go_enter Try.func65, Try.ntmps65
    go_wp2_with fail
    rw [← Hwb.out]
    refine HC.out.mono ?_
    rintro e w1 ⟨rfl, he1⟩
    go_wp2_with fail
    go_ret
    exact ⟨ret_bool HF.out.symm, HE.out.trans he1⟩
  have hfs := hf
  simp only [formB, Bool.and_eq_true, decide_eq_true_eq] at hfs
  obtain ⟨⟨hr, hn12⟩, hdok⟩ := hfs
  have hrb : 1 ≤ H ∧ H ≤ 7 := by simpa [inB] using hr
  obtain ⟨h, rfl⟩ := Int.eq_ofNat_of_zero_le (show 0 ≤ H by omega)
  have h1 : 1 ≤ h := by omega
  have h7 : h ≤ 7 := by omega
  rw [hf] at HC
  have HForm : Hid (houseB h ds = (List.range h).all fun k => reachB ds h 0 k) := by unfold Hid houseB; rw [hf, Int.toNat_natCast]; rfl
  clear hrb hr hn12 hdok hf hE hsb hx k0 k1 hwb
  have k0 := Hk0.out
  have k1 := Hk1.out
  go_enter Try.func65, Try.ntmps65
  go_wp2_with fail
  rw [← Hwb.out]
  refine HC.out.mono ?_
  rintro e w1 ⟨rfl, he1⟩
  have r0 := (he1.cellAt w.heap.size hbl 0).trans k0
  have r1 := (he1.cellAt w.heap.size hbl 1).trans k1
  have HD := Lib.hid (spec_l23Distances h A n c ds 0 w1 (hxb.keep he1) h1 h7 (by omega))
  have HE1 := Lib.hid he1
  clear he1 k0 k1 HC
  go_wp2_with fail
  refine HD.out.mono ?_
  rintro e w2 ⟨gD, rfl, he2, hgD, hI2⟩
  have hE2 := HE1.out.trans he2
  have r0 := (hE2.cellAt w.heap.size hbl 0).trans Hk0.out
  have hinv := BInv.all ds (show 0 < h by omega)
  have hdl : Hid ((bfsAll ds h 0).d.length = h) := hinv.ld
  have hiff := Lib.hid hinv.iff_
  obtain ⟨S, hS⟩ : ∃ S, S = bfsAll ds h 0 := ⟨_, rfl⟩
  rw [← hS] at hI2 hdl hiff
  have HS := Lib.hid hS
  have HE2 := Lib.hid hE2
  clear he2 hE2 hgD HD hinv hS
  go_wp2_with fail
  go_loop [4] (fun i => ∃ q : Nat, q ≤ h ∧ i = .int .i64 q ∧ Hid (∀ j, j < q → reachB ds h 0 j = true)) (fun i => h - (intOf i).toNat)
  case atStart => exact ⟨0, Nat.zero_le _, rfl, by unfold Hid; intro j hj; omega⟩
  case round =>
    obtain ⟨q, hq, rfl, hall⟩ := hrel
    by_cases hqh : q < h
    · have cD := hI2.cell (i := q) (by rw [hdl.out]; exact hqh)
      obtain ⟨dv, hdv⟩ : ∃ dv, dv = S.d.getD q 0 := ⟨_, rfl⟩
      rw [← hdv] at cD
      have HDV := Lib.hid hdv
      clear hdv
      by_cases hneg : dv < 0
      · have HF : Hid (houseB h ds = false) := by
          unfold Hid; rw [HForm.out, Bool.eq_false_iff]
          intro hc
          rw [List.all_eq_true] at hc
          have := hc q (by simpa using hqh)
          unfold reachB at this
          rw [decide_eq_true_eq, ← HS.out] at this
          have h3 := hiff.out q hqh
          rw [HDV.out] at hneg
          omega
        go_wp2_with fail
        go_ret
        exact ⟨ret_bool HF.out.symm, HE.out.trans HE2.out⟩
      · have hre : Hid (reachB ds h 0 q = true) := by
          unfold Hid reachB
          rw [decide_eq_true_eq, ← HS.out]
          have h3 := hiff.out q hqh
          rw [HDV.out] at hneg
          omega
        go_wp2_with fail
        go_round
        case rel => exact ⟨q + 1, by omega, by go_num, by unfold Hid; intro j hj; by_cases hjq : j = q; (subst hjq; exact hre.out); exact hall.out j (by omega)⟩
        case measure => simp [intOf]; omega
    · obtain rfl : q = h := by omega
      have HF : Hid (houseB q ds = true) := by
        unfold Hid; rw [HForm.out, List.all_eq_true]
        intro j hj
        exact hall.out j (by simpa using hj)
      go_wp2_with fail
      go_ret
      exact ⟨ret_bool HF.out.symm, HE.out.trans HE2.out⟩
def ringB (H : Int) (ds : List GDoor) (ring : Int) : Bool := houseB H ds && inB ring 0 (((2 ^ ds.length : Nat) : Int) - 1)
end Go.Proofs.Ytkelmeemblmggaa
