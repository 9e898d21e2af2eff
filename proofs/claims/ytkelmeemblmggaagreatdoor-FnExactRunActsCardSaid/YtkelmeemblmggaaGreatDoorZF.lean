/- Texts of one proof, laid one behind the other (SHi); no condition but what stands at each theorem. -/
import Derived.Test.YtkelmeemblmggaaGreatDoorZE
/- Contracts of isHall, hallsOk, l31Halls and PlacesOk; no condition but what stands at each theorem. -/
namespace Go.Proofs.YtkelmeemblmggaaGreatDoor
set_option linter.unusedSimpArgs false
set_option linter.unusedVariables false
open Go.RowKit Go.Sort
def hallB (H k : Int) : Bool := inB k 0 (wrap64 (H - 1))
def hallsB (H : Int) (ds : List GDoor) (xs : List Int) : Bool := xs.all (hallB H) && houseB H ds
def placesB (H : Int) (ds : List GDoor) (xs : List Int) : Bool := decide (xs.length ≤ 6) && hallsB H ds xs
theorem hallsB_no {H : Int} {ds : List GDoor} {xs : List Int} {k : Nat} {x : Int} (hz : Hid (hallsB H ds xs = hallsB H ds (xs.drop k))) (hxk : Hid (xs[k]? = some x)) (h : Hid (hallB H x = false)) : Hid (hallsB H ds xs = false) := by
  unfold Hid at *
  rw [hz, drop_cons hxk]
  unfold hallsB
  rw [List.all_cons, h]
  rfl
theorem hallsB_step {H : Int} {ds : List GDoor} {xs : List Int} {k : Nat} {x : Int} (hz : Hid (hallsB H ds xs = hallsB H ds (xs.drop k))) (hxk : Hid (xs[k]? = some x)) (h : Hid (hallB H x = true)) : Hid (hallsB H ds xs = hallsB H ds (xs.drop (k + 1))) := by
  unfold Hid at *
  rw [hz, drop_cons hxk]
  unfold hallsB
  rw [List.all_cons, h]
  rfl
theorem impl_isHall (H : Int) (A : Option Addr) (n c : Nat) (k : Int) (w : World) :
    Calls Tryz.prog 133 #[.agg #[.int .i64 H, .slice A n c], .int .i64 k] w fun e w' => e = .returned (.bool (hallB H k)) ∧ Ext w w' := by
  go_enter Tryz.func133, Tryz.ntmps133
  go_wp2_with (go_at_call 78; refine (impl_between k 0 (wrap64 (H - 1)) _).mono ?_; rintro e w1 ⟨rfl, rfl⟩)
  go_ret
  exact ⟨rfl, (Ext.refl w).alloc _⟩
set_option maxRecDepth 100000 in
set_option maxHeartbeats 1000000 in
theorem impl_hallsOk (H : Int) (A : Option Addr) (n c : Nat) (ds : List GDoor) (A1 : Option Addr) (n1 c1 : Nat) (xs : List Int) (w : World) (hx : Rd w 2 A n (ds.flatMap GDoor.enc)) (hx1 : Rd w 1 A1 n1 (xs.flatMap ienc)) :
    Calls Tryz.prog 77 #[.agg #[.int .i64 H, .slice A n c], .slice A1 n1 c1] w fun e w' => e = .returned (.bool (hallsB H ds xs)) ∧ Ext w w' := by
  have hn := hx.2.1
  have hn1 := hx1.2.1
  have hl1 := Lib.hid (hx1.len ienc_len (by omega))
  obtain ⟨wb, hwb⟩ : ∃ wb, wb = w.alloc (.cells #[.int .i64 H, .slice A n c] 26) := ⟨_, rfl⟩
  obtain ⟨hE, hsb, k0, k1⟩ := box2 w _ _ _ wb hwb
  have HE := Lib.hid hE
  have Hwb := Lib.hid hwb
  have Hk0 := Lib.hid k0
  have Hk1 := Lib.hid k1
  have hxb := Lib.hid (hx.keep hE)
  have hxb1 := Lib.hid (hx1.keep hE)
  have hbl : w.heap.size < wb.heap.size := by omega
  clear hE hsb hwb k0 k1 hx hx1
  go_enter Tryz.func77, Tryz.ntmps77
  go_wp2_with fail
  rw [← Hwb.out]
  go_loopw [9] (fun i wr => ∃ k : Nat, k ≤ n1 ∧ i = .int .i64 k ∧ Hid (hallsB H ds xs = hallsB H ds (xs.drop k)) ∧ Ext wb wr) (fun i _ => n1 - (intOf i).toNat)
  case atStart => exact ⟨0, Nat.zero_le _, rfl, rfl, Ext.refl _⟩
  case round =>
    obtain ⟨k, hk, rfl, hz, hb⟩ := hrel
    have r0 := (hb.cellAt w.heap.size hbl 0).trans Hk0.out
    have r1 := (hb.cellAt w.heap.size hbl 1).trans Hk1.out
    by_cases hlt : k < n1
    · obtain ⟨b, off, x, rfl, hbs, hxk, q0⟩ := ienc_at (hxb1.out.keep hb) hlt
      have HB := Lib.hid hb
      have HXK := Lib.hid hxk
      have HC := Lib.hid (impl_isHall H A n c x wr)
      clear hb hxk
      cases hh : hallB H x
      case false =>
        rw [hh] at HC
        have HF := hallsB_no hz HXK hh
        clear hh
        go_wp2_with (go_at_call 133; refine HC.out.mono ?_; rintro e w1 ⟨rfl, he1⟩; have HE1 := Lib.hid he1; clear he1)
        go_ret
        exact ⟨ret_bool HF.out.symm, HE.out.trans (HB.out.trans HE1.out)⟩
      rw [hh] at HC
      have HF := hallsB_step hz HXK hh
      clear hh
      go_wp2_with (go_at_call 133; refine HC.out.mono ?_; rintro e w1 ⟨rfl, he1⟩; have HE1 := Lib.hid he1; clear he1)
      go_round
      case rel => exact ⟨k + 1, by omega, by go_num, HF, HB.out.trans HE1.out⟩
      case measure => simp [intOf]; omega
    · obtain rfl : k = n1 := by omega
      have HF : Hid (hallsB H ds xs = houseB H ds) := by unfold Hid; rw [hz.out, drop_nil (by rw [hl1.out]; omega)]; rfl
      have HC := Lib.hid (impl_HouseOk H A n c ds wr (hxb.out.keep hb))
      have HB := Lib.hid hb
      clear hb hz
      go_wp2_with (go_at_call 134; refine HC.out.mono ?_; rintro e w1 ⟨rfl, he1⟩; have HE1 := Lib.hid he1; clear he1)
      go_ret
      exact ⟨ret_bool HF.out.symm, HE.out.trans (HB.out.trans HE1.out)⟩
set_option maxRecDepth 100000 in
set_option maxHeartbeats 1000000 in
theorem spec_l31Halls (H : Int) (A : Option Addr) (n c : Nat) (ds : List GDoor) (A1 : Option Addr) (n1 c1 : Nat) (xs : List Int) (w : World) (hx : Rd w 2 A n (ds.flatMap GDoor.enc)) (hx1 : Rd w 1 A1 n1 (xs.flatMap ienc)) :
    Calls Tryz.prog 106 #[.agg #[.int .i64 H, .slice A n c], .slice A1 n1 c1] w fun e w' => e = .returned (.bool (hallsB H ds xs)) ∧ Ext w w' := by
  have hn := hx.2.1
  have hn1 := hx1.2.1
  have hl1 := Lib.hid (hx1.len ienc_len (by omega))
  obtain ⟨wb, hwb⟩ : ∃ wb, wb = w.alloc (.cells #[.int .i64 H, .slice A n c] 26) := ⟨_, rfl⟩
  obtain ⟨hE, hsb, k0, k1⟩ := box2 w _ _ _ wb hwb
  have HE := Lib.hid hE
  have Hwb := Lib.hid hwb
  have Hk0 := Lib.hid k0
  have Hk1 := Lib.hid k1
  have hxb := Lib.hid (hx.keep hE)
  have hxb1 := Lib.hid (hx1.keep hE)
  have hbl : w.heap.size < wb.heap.size := by omega
  clear hE hsb hwb k0 k1 hx hx1
  go_enter Tryz.func106, Tryz.ntmps106
  go_wp2_with fail
  rw [← Hwb.out]
  go_loopw [5] (fun i wr => ∃ k : Nat, k ≤ n1 ∧ i = .int .i64 k ∧ Hid (hallsB H ds xs = hallsB H ds (xs.drop k)) ∧ Ext wb wr) (fun i _ => n1 - (intOf i).toNat)
  case atStart => exact ⟨0, Nat.zero_le _, rfl, rfl, Ext.refl _⟩
  case round =>
    obtain ⟨k, hk, rfl, hz, hb⟩ := hrel
    have r0 := (hb.cellAt w.heap.size hbl 0).trans Hk0.out
    have r1 := (hb.cellAt w.heap.size hbl 1).trans Hk1.out
    by_cases hlt : k < n1
    · obtain ⟨b, off, x, rfl, hbs, hxk, q0⟩ := ienc_at (hxb1.out.keep hb) hlt
      have e0 := cell_regrown r0
      have e1 := cell_regrown q0
      have HB := Lib.hid hb
      clear hb
      have HXK := Lib.hid hxk
      clear hxk
      cases hh : hallB H x
      case false =>
        have HF := hallsB_no hz HXK hh
        have cB : ∀ W, Calls Tryz.prog 107 #[.int .i64 x, .int .i64 0, .int .i64 (wrap64 (H - 1))] W fun e W' => e = .returned (.bool false) ∧ W = W' := fun W => by have := spec_l01In x 0 (wrap64 (H - 1)) W; rwa [show inB x 0 (wrap64 (H - 1)) = false from hh] at this
        clear hh
        go_wp2_with fail
        (refine wp_region_ext (by kernel_rfl) (by kernel_rfl) ?_; (repeat (go_big_quiet_step (first | (go_at_call 107; with_reducible exact Calls.rg0 (cB _))))); refine wpQuiet_nil ?_)
        intro w1 hb1
        go_wp2_with fail
        go_ret
        exact ⟨ret_bool HF.out.symm, HE.out.trans (HB.out.trans hb1)⟩
      have HF := hallsB_step hz HXK hh
      have cB : ∀ W, Calls Tryz.prog 107 #[.int .i64 x, .int .i64 0, .int .i64 (wrap64 (H - 1))] W fun e W' => e = .returned (.bool true) ∧ W = W' := fun W => by have := spec_l01In x 0 (wrap64 (H - 1)) W; rwa [show inB x 0 (wrap64 (H - 1)) = true from hh] at this
      clear hh
      go_wp2_with fail
      (refine wp_region_ext (by kernel_rfl) (by kernel_rfl) ?_; (repeat (go_big_quiet_step (first | (go_at_call 107; with_reducible exact Calls.rg0 (cB _))))); refine wpQuiet_nil ?_)
      intro w1 hb1
      go_wp2_with fail
      go_round
      case rel => exact ⟨k + 1, by omega, by go_num, HF, HB.out.trans hb1⟩
      case measure => simp [intOf]; omega
    · obtain rfl : k = n1 := by omega
      have HF : Hid (hallsB H ds xs = houseB H ds) := by unfold Hid; rw [hz.out, drop_nil (by rw [hl1.out]; omega)]; rfl
      have HC := Lib.hid (spec_HouseOk H A n c ds wr (hxb.out.keep hb))
      have HB := Lib.hid hb
      clear hz hb
      go_wp2_with (go_at_call 110; refine HC.out.mono ?_; rintro e w1 ⟨rfl, he1⟩; have HE1 := Lib.hid he1; clear he1)
      go_ret
      exact ⟨ret_bool HF.out.symm, HE.out.trans (HB.out.trans HE1.out)⟩
set_option maxRecDepth 100000 in
set_option maxHeartbeats 1000000 in
theorem impl_PlacesOk (H : Int) (A : Option Addr) (n c : Nat) (ds : List GDoor) (A1 : Option Addr) (n1 c1 : Nat) (xs : List Int) (w : World) (hx : Rd w 2 A n (ds.flatMap GDoor.enc)) (hx1 : Rd w 1 A1 n1 (xs.flatMap ienc)) :
    Calls Tryz.prog 76 #[.agg #[.int .i64 H, .slice A n c], .slice A1 n1 c1] w fun e w' => e = .returned (.bool (placesB H ds xs)) ∧ Ext w w' := by
  have hn1 := hx1.2.1
  have hl1 := Lib.hid (hx1.len ienc_len (by omega))
  obtain ⟨wb, hwb⟩ : ∃ wb, wb = w.alloc (.cells #[.int .i64 H, .slice A n c] 26) := ⟨_, rfl⟩
  obtain ⟨hE, hsb, k0, k1⟩ := box2 w _ _ _ wb hwb
  have HE := Lib.hid hE
  have Hwb := Lib.hid hwb
  have HC := Lib.hid (impl_hallsOk H A n c ds A1 n1 c1 xs wb (hx.keep hE) (hx1.keep hE))
  clear hE hsb hwb k0 k1 hx hx1
  by_cases h6 : n1 ≤ 6
  · have HF : Hid (placesB H ds xs = hallsB H ds xs) := by unfold Hid placesB; rw [hl1.out, decide_eq_true h6]; rfl
    cases hB : hallsB H ds xs
    all_goals (rw [hB] at HC HF; clear hB)
    all_goals go_enter Tryz.func76, Tryz.ntmps76
    all_goals go_wp2_with (rw [← Hwb.out]; go_at_call 77; refine HC.out.mono ?_; rintro e w1 ⟨rfl, he1⟩; have HE1 := Lib.hid he1; clear he1)
    all_goals go_ret
    all_goals first | exact ⟨ret_bool HF.out.symm, HE.out.trans HE1.out⟩ | exact ⟨ret_bool (by rw [HF.out]; simp; omega), HE.out.trans HE1.out⟩
  · have HF : Hid (placesB H ds xs = false) := by unfold Hid placesB; rw [hl1.out, decide_eq_false h6]; rfl
    cases hB : hallsB H ds xs
    all_goals (rw [hB] at HC; clear hB)
    all_goals go_enter Tryz.func76, Tryz.ntmps76
    all_goals go_wp2_with (rw [← Hwb.out]; go_at_call 77; refine HC.out.mono ?_; rintro e w1 ⟨rfl, he1⟩; have HE1 := Lib.hid he1; clear he1)
    all_goals go_ret
    all_goals first | exact ⟨ret_bool HF.out.symm, HE.out.trans HE1.out⟩ | exact ⟨ret_bool (by rw [HF.out]; simp; omega), HE.out.trans HE1.out⟩ | exact ⟨ret_bool HF.out.symm, by rw [← Hwb.out]; exact HE.out⟩ | exact ⟨ret_bool HF.out.symm, HE.out⟩
set_option maxRecDepth 100000 in
set_option maxHeartbeats 1000000 in
theorem spec_PlacesOk (H : Int) (A : Option Addr) (n c : Nat) (ds : List GDoor) (A1 : Option Addr) (n1 c1 : Nat) (xs : List Int) (w : World) (hx : Rd w 2 A n (ds.flatMap GDoor.enc)) (hx1 : Rd w 1 A1 n1 (xs.flatMap ienc)) :
    Calls Tryz.prog 105 #[.agg #[.int .i64 H, .slice A n c], .slice A1 n1 c1] w fun e w' => e = .returned (.bool (placesB H ds xs)) ∧ Ext w w' := by
  have hn1 := hx1.2.1
  have hl1 := Lib.hid (hx1.len ienc_len (by omega))
  obtain ⟨wb, hwb⟩ : ∃ wb, wb = w.alloc (.cells #[.int .i64 H, .slice A n c] 26) := ⟨_, rfl⟩
  obtain ⟨hE, hsb, k0, k1⟩ := box2 w _ _ _ wb hwb
  have HE := Lib.hid hE
  have Hwb := Lib.hid hwb
  have HC := Lib.hid (spec_l31Halls H A n c ds A1 n1 c1 xs wb (hx.keep hE) (hx1.keep hE))
  clear hE hsb hwb k0 k1 hx hx1
  by_cases h6 : n1 ≤ 6
  · have HF : Hid (placesB H ds xs = hallsB H ds xs) := by unfold Hid placesB; rw [hl1.out, decide_eq_true h6]; rfl
    cases hB : hallsB H ds xs
    all_goals (rw [hB] at HC HF; clear hB)
    all_goals go_enter Tryz.func105, Tryz.ntmps105
    all_goals go_wp2_with (rw [← Hwb.out]; go_at_call 106; refine HC.out.mono ?_; rintro e w1 ⟨rfl, he1⟩; have HE1 := Lib.hid he1; clear he1)
    all_goals go_ret
    all_goals first | exact ⟨ret_bool HF.out.symm, HE.out.trans HE1.out⟩ | exact ⟨ret_bool (by rw [HF.out]; simp; omega), HE.out.trans HE1.out⟩
  · have HF : Hid (placesB H ds xs = false) := by unfold Hid placesB; rw [hl1.out, decide_eq_false h6]; rfl
    cases hB : hallsB H ds xs
    all_goals (rw [hB] at HC; clear hB)
    all_goals go_enter Tryz.func105, Tryz.ntmps105
    all_goals go_wp2_with (rw [← Hwb.out]; go_at_call 106; refine HC.out.mono ?_; rintro e w1 ⟨rfl, he1⟩; have HE1 := Lib.hid he1; clear he1)
    all_goals go_ret
    all_goals first | exact ⟨ret_bool HF.out.symm, HE.out.trans HE1.out⟩ | exact ⟨ret_bool (by rw [HF.out]; simp; omega), HE.out.trans HE1.out⟩ | exact ⟨ret_bool HF.out.symm, by rw [← Hwb.out]; exact HE.out⟩ | exact ⟨ret_bool HF.out.symm, HE.out⟩
end Go.Proofs.YtkelmeemblmggaaGreatDoor
