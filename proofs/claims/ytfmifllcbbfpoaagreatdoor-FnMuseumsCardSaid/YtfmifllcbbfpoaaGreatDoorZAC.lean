/- Texts of one proof, laid one behind the other (QS, QD); no condition but what stands at each theorem. -/
import Derived.Deep.DeepCutAuto
import Derived.Test.YtfmifllcbbfpoaaGreatDoorZE
import Derived.Test.YtfmifllcbbfpoaaGreatDoorZF
import Derived.Test.YtfmifllcbbfpoaaGreatDoorZG
import Derived.Test.YtfmifllcbbfpoaaGreatDoorZM
import Derived.Test.YtfmifllcbbfpoaaGreatDoorZR
import Derived.Test.YtfmifllcbbfpoaaGreatDoorZY
/- Small functions of the laws on museums; no condition but what stands at each theorem. -/
namespace Go.Proofs.YtfmifllcbbfpoaaGreatDoor
set_option linter.unusedSimpArgs false
set_option linter.unusedVariables false
open Go.RowKit Go.Sort
theorem rem_run (a b : Int) (hb : b ≠ 0) (W : World) : (binOp .rem 3 (.int .i64 a) (.int .i64 b)).run Tryz.prog W = .ok (.int .i64 (a.tmod b)) W := by
  rw [binOp_rem]
  unfold Op.intDiv
  rw [if_neg hb]
  rfl
theorem rem_facts {a b : Int} (ha : 0 ≤ a) (hb : 0 < b) : ∃ r, r = a.tmod b ∧ a % b = r ∧ 0 ≤ r ∧ r < b :=
  ⟨_, rfl, by rw [Int.tmod_eq_emod_of_nonneg ha], Int.tmod_nonneg _ ha, Int.tmod_lt_of_pos _ hb⟩
set_option maxRecDepth 100000 in
set_option maxHeartbeats 1000000 in
theorem laws_sameInts (A : Option Addr) (n c : Nat) (A' : Option Addr) (n' c' : Nat) (xs : List Int) (w : World) (hx : Rd w 1 A n (xs.flatMap ienc)) (hy : Rd w 1 A' n' (xs.flatMap ienc)) :
    Calls Tryz.prog 14 #[.slice A n c, .slice A' n' c'] w fun e w' => e = .returned (.bool true) ∧ Ext w w' := by
  have hn := hx.2.1
  obtain rfl : n = n' := by rw [← hx.len ienc_len (by omega), ← hy.len ienc_len (by omega)]
  have HX := Lib.hid hx
  have HY := Lib.hid hy
  clear hx hy
  go_enter Tryz.func14, Tryz.ntmps14
  go_wp2_with fail
  go_loopw [5] (fun i wr => ∃ (k : Nat), k ≤ n ∧ i = .int .i64 k ∧ Ext w wr) (fun i _ => n - (intOf i).toNat)
  case atStart => exact ⟨0, Nat.zero_le _, rfl, Ext.refl _⟩
  case round =>
    obtain ⟨k, hk, rfl, hb⟩ := hrel
    by_cases hlt : k < n
    · obtain ⟨b, off, y, rfl, hbs, hyk, h0⟩ := ienc_at (HX.out.keep hb) hlt
      obtain ⟨b', off', y', rfl, hbs', hyk', h0'⟩ := ienc_at (HY.out.keep hb) hlt
      rw [hyk] at hyk'
      injection hyk' with hyk'
      subst hyk'
      have HB := Lib.hid hb
      have k0 : (0 : Int) ≤ (k : Int) := by omega
      have k1 : (k : Int) < (n : Int) := by omega
      have z1 := cell_regrown h0
      have z2 := cell_regrown h0'
      clear hyk hb
      go_wp2_with fail
      (refine wp_region_ext (by kernel_rfl) (by kernel_rfl) ?_; (repeat (go_big_quiet_step (first | fail))); refine wpQuiet_nil ?_)
      intro w3 he3
      have HE3 := Lib.hid (HB.out.trans he3)
      clear he3 z1 z2 h0 h0'
      go_wp2_with fail
      go_roundw
      case rel => exact ⟨k + 1, by omega, by go_num, HE3.out⟩
      case measure => simp [intOf]; omega
    · go_wp2_with fail
      go_ret
      exact ⟨rfl, hb⟩
theorem laws_btoi (b : Bool) (w : World) : Calls Tryz.prog 25 #[.bool b] w fun e w' => e = .returned (.int .i64 (b01 b)) ∧ w = w' := by
  cases b
  all_goals
    go_enter Tryz.func25, Tryz.ntmps25
    go_wp2_with fail
    go_ret
    exact ⟨rfl, rfl⟩
set_option maxRecDepth 100000 in
set_option maxHeartbeats 1000000 in
theorem spec_HasDoor (H : Int) (A : Option Addr) (n c : Nat) (ds : List GDoor) (x y : Int) (w : World) (hx : Rd w 2 A n (ds.flatMap GDoor.enc)) (hB : houseB H ds = true) :
    Calls Tryz.prog 24 #[.agg #[.int .i64 H, .slice A n c], .int .i64 x, .int .i64 y] w fun e w' => e = .returned (.bool (doorB ds x y)) ∧ Ext w w' := by
  have HB := Lib.hid hB
  clear hB
  obtain ⟨wb, hwb⟩ : ∃ wb, wb = w.alloc (.cells #[.int .i64 H, .slice A n c] 26) := ⟨_, rfl⟩
  obtain ⟨hE, hsb, k0, k1⟩ := box2 w _ _ _ wb hwb
  have HE := Lib.hid hE
  have Hwb := Lib.hid hwb
  have Hk0 := Lib.hid k0
  have Hk1 := Lib.hid k1
  have hbl : w.heap.size < wb.heap.size := by omega
  have hxb := Lib.hid (hx.keep hE)
  clear hE hx hsb k0 k1 hwb
  have HC := Lib.hid (spec_HouseOk H A n c ds wb hxb.out)
  rw [HB.out] at HC
  by_cases hxy : x = y
  · subst hxy
    have HF := Lib.hid (doorB_self HB.out x)
    go_enter Tryz.func24, Tryz.ntmps24
    go_wp2_with (go_at_call 69; refine (fun h : Hid _ => h.out) ?_)
    unfold Hid
    rw [← Hwb.out]
    refine HC.out.mono ?_
    rintro e w1 ⟨rfl, he1⟩
    have HE1 := Lib.hid he1
    clear he1
    go_wp2_with fail
    go_ret
    exact ⟨ret_bool HF.out.symm, HE.out.trans HE1.out⟩
  · have hb : (x != y) = true := by simp [hxy]
    go_enter Tryz.func24, Tryz.ntmps24
    go_wp2_with (go_at_call 69; refine (fun h : Hid _ => h.out) ?_)
    unfold Hid
    rw [← Hwb.out]
    refine HC.out.mono ?_
    rintro e w1 ⟨rfl, he1⟩
    have k0 := (he1.cellAt w.heap.size hbl 0).trans Hk0.out
    have k1 := (he1.cellAt w.heap.size hbl 1).trans Hk1.out
    have HE1 := Lib.hid he1
    clear he1
    go_wp2_with (go_at_call 67; refine (fun h : Hid _ => h.out) ?_)
    unfold Hid
    refine (spec_l23Door H A n c ds x y w1 (hxb.out.keep HE1.out)).mono ?_
    rintro e w2 ⟨rfl, he2⟩
    have HE2 := Lib.hid he2
    clear he2
    go_wp2_with fail
    go_ret
    exact ⟨rfl, HE.out.trans (HE1.out.trans HE2.out)⟩
/-- What a region that boxes a move has left: the box g, the world. -/
structure GotX (w1 wx : World) (g : Nat) (x : GMove) : Prop where
  e : Ext w1 wx
  g1 : w1.heap.size ≤ g
  box : Blk wx g 46 #[.int .i64 x.o, .int .i64 x.t, .int .i64 x.f, .int .i64 x.s]
theorem GotX.of {w1 wD : World} {g : Nat} {a0 a1 a2 a3 : Value} {o t f s : Int} (hz : Blk wD g 46 #[a0, a1, a2, a3]) (hE : Ext w1 wD) (hg : w1.heap.size ≤ g) :
    GotX w1 ((((wD.setCell ⟨g, 0, none⟩ (.int .i64 o)).setCell ⟨g, 1, none⟩ (.int .i64 t)).setCell ⟨g, 2, none⟩ (.int .i64 f)).setCell ⟨g, 3, none⟩ (.int .i64 s)) g ⟨o, t, f, s⟩ := by
  have b := (((hz.set 0 (.int .i64 o)).set 1 (.int .i64 t)).set 2 (.int .i64 f)).set 3 (.int .i64 s)
  simp only [List.setIfInBounds_toArray, List.set_cons_succ, List.set_cons_zero] at b
  exact ⟨(((hE.setCell hg _).setCell hg _).setCell hg _).setCell hg _, hg, b⟩
theorem GotX.new {w1 wC : World} {o t f s : Int} (hE : Ext w1 wC) : GotX w1 (wC.alloc (.cells #[.int .i64 o, .int .i64 t, .int .i64 f, .int .i64 s] 46)) wC.heap.size ⟨o, t, f, s⟩ :=
  ⟨hE.alloc _, hE.size, Blk.new _ _ _⟩
/- Plain facts of the law on museums. -/
theorem night_iff {m : GMuseum} (h : museumB m = true) (x : GMove) : nightB m x = (canMoveB m.H m.ds m.ps m.gs x && decide (m.rs.length < 30)) := by
  unfold nightB
  rw [h, app_iff h]
  rfl
theorem night_len {m : GMuseum} (x : GMove) : ((nightM m x).rs.length : Int) = m.rs.length + b01 (nightB m x) := by
  unfold nightM
  cases nightB m x <;> simp [b01]
theorem guard_door {m : GMuseum} (h : museumB m = true) {g k y : Int} (h0 : 0 ≤ g) (h1 : g < m.gs.length) (hy : m.gs[g.toNat]? = some y) : guardB m g k = doorB m.ds y k := by
  have hi : inB g 0 ((m.gs.length : Int) - 1) = true := by simp [inB]; omega
  unfold guardB
  rw [h, hi]
  have : guardOf m g = y := by unfold guardOf; rw [List.getD_eq_getElem?_getD, hy]; rfl
  rw [this]
  rfl
theorem guard_places (m : GMuseum) (g k : Int) : (guardM m g k).ps = m.ps := by unfold guardM; split <;> rfl
theorem days_yes {m : GMuseum} (h : museumB m = true) (hd : m.d ≤ 1000) {d : Int} (h1 : 1 ≤ d) (h2 : d ≤ 1000) : daysB m d = true ∧ (daysM m d).d = m.d + d := by
  have hb : daysB m d = true := by unfold daysB; rw [h]; simp [inB]; omega
  exact ⟨hb, by unfold daysM; rw [if_pos hb]⟩
theorem new_back {m : GMuseum} (h : museumB m = true) : museumB (rawM m.H m.ds m.fs m.gs) = true := by
  have hl := museum_lens h
  have hg := museum_guards h
  have hH := museumB_house h
  rw [museumB_parts] at h
  exact raw_ok hH hl.2.1 hl.2.2.2.1 (placesB_parts h.1).2.2 hg
theorem new_places {m : GMuseum} (h : museumB m = true) : (newM m.H m.ds m.fs m.gs).ps = m.fs ∧ auditB (newM m.H m.ds m.fs m.gs) = true ∧ museumB (newM m.H m.ds m.fs m.gs) = true := by
  have hb := new_back h
  have he : newM m.H m.ds m.fs m.gs = rawM m.H m.ds m.fs m.gs := by unfold newM; rw [if_pos hb]
  exact ⟨by rw [he]; rfl, audited_audit (audited_new hb), by rw [he]; exact hb⟩
end Go.Proofs.YtfmifllcbbfpoaaGreatDoor
/- The law FnMuseums, walked; no condition but what stands at each theorem. -/
namespace Go.Proofs.YtfmifllcbbfpoaaGreatDoor
set_option linter.unusedSimpArgs false
set_option linter.unusedVariables false
open Go.RowKit Go.Sort
set_option maxRecDepth 100000 in
set_option maxHeartbeats 8000000 in
theorem law_FnMuseums (A : Option Addr) (n c : Nat) (bs : List UInt8) (w : World) (hx : Rd w 1 A n (bs.flatMap bencU)) (hM : Hid (∃ k, w.cell? ⟨0, 0, none⟩ = some (.int .i64 k))) :
    Calls Tryz.prog 4 #[.slice A n c] w fun e w' => e = .returned (.bool true) ∧ Ext w w' := by
  by_cases hbig : 1048576 < n
  case pos =>
    go_enter Tryz.func4, Tryz.ntmps4
    go_wp2_with (refine (laws_big A n c _).mono ?_; rintro e w1 ⟨he, rfl⟩; rw [decide_eq_true hbig] at he; subst he)
    go_ret
    exact ⟨rfl, Ext.refl _⟩
  case neg =>
  have hxb := rd_bytes hx
  have hbd := bytes_bd bs
  obtain ⟨xs, hxs⟩ : ∃ xs, xs = bs.map fun b => (b.toNat : Int) := ⟨_, rfl⟩
  rw [← hxs] at hxb hbd
  clear hxs hx
  have cD := Lib.hid (spec_DrawMuseum A n c xs w hxb hbd (by omega))
  have HXB := Lib.hid hxb
  have HBD := Lib.hid hbd
  have hn20 : n ≤ 1048576 := by omega
  clear hxb hbd
  go_enter Tryz.func4, Tryz.ntmps4
  go_wp2_with (go_at_call 9; refine (fun h : Hid _ => h.out) ?_)
  unfold Hid
  refine (laws_big A n c _).mono ?_
  rintro e w0 ⟨he, rfl⟩
  rw [decide_eq_false hbig] at he
  subst he
  go_wp2_with (go_at_call 18; refine (fun h : Hid _ => h.out) ?_)
  unfold Hid
  refine cD.out.mono ?_
  rintro e w1 ⟨v, m, rfl, ho, hdm, he1⟩
  obtain ⟨HV, ⟨AV0, nV0, kV0⟩, ⟨AV1, nV1, kV1⟩, ⟨AV2, nV2, kV2⟩, ⟨AV3, nV3, kV3⟩, dV, ⟨AV4, nV4, kV4⟩⟩ := v
  simp only [MV.val, MV.cells]
  have hm := hdm.au.1
  obtain ⟨w2, hw2⟩ : ∃ w2, w2 = w1.alloc (.cells #[.int .i64 HV, .slice AV0 nV0 kV0, .slice AV1 nV1 kV1, .slice AV2 nV2 kV2, .slice AV3 nV3 kV3, .int .i64 dV, .slice AV4 nV4 kV4] 30) := ⟨_, rfl⟩
  have hE2 : Ext w1 w2 := by rw [hw2]; exact (Ext.refl _).alloc _
  have HB3 : Hid (Blk w2 w1.heap.size 30 #[.int .i64 HV, .slice AV0 nV0 kV0, .slice AV1 nV1 kV1, .slice AV2 nV2 kV2, .slice AV3 nV3 kV3, .int .i64 dV, .slice AV4 nV4 kV4]) := Lib.hid (by rw [hw2]; exact Blk.new _ _ _)
  have HR3 := Lib.hid (ho.rd.keep hE2)
  have HE := Lib.hid (he1.trans hE2)
  have HW := Lib.hid hw2
  have HMM := Lib.hid hm
  have HDM := Lib.hid hdm
  have HF := Lib.hid (fit_ok ho hm)
  have hH1 := (houseB_spec (museumB_house hm)).1
  have hHV : HV = m.H := ho.eH
  have hdV : dV = m.d := ho.ed
  have hnp := hdm.np
  have hng := hdm.ng
  have hnd := hdm.nd
  obtain ⟨l0, l1, l2, l3, l4⟩ := ho.rd.lens
  simp only at l0 l1 l2 l3 l4
  have hll := museum_lens hm
  subst hHV hdV
  have hp2 : 0 < nV2 := by omega
  have hp3 : 2 ≤ nV3 := by omega
  have HL3 := Lib.hid l3
  have HL4 := Lib.hid l4
  have HL2 := Lib.hid l2
  clear l0 l1 l2 l3 l4 hll hnp hng
  obtain ⟨g3, hg3⟩ : ∃ g3, g3 = w1.heap.size := ⟨_, rfl⟩
  rw [← hg3] at HB3
  have HG3 := Lib.hid hg3
  have hd0 := (museumB_d hm).1
  clear hw2 hE2 ho he1 hm hdm cD hg3
  obtain ⟨a0, ha0⟩ : ∃ a, a = atV xs 0 := ⟨_, rfl⟩
  have hab0 := atV_bd HBD.out 0
  rw [← ha0] at hab0
  have cA0 : Hid (∀ W, Ext w W → Calls Tryz.prog 17 #[.slice A n c, .int .i64 0] W fun e w' => e = .returned (.int .i64 a0) ∧ Ext W w') := Lib.hid (fun W he => by have h := laws_at A n c xs 0 W (HXB.out.keep he) HBD.out (by omega) hn20; rw [← ha0] at h; exact h)
  clear ha0
  obtain ⟨a1, ha1⟩ : ∃ a, a = atV xs 1 := ⟨_, rfl⟩
  have hab1 := atV_bd HBD.out 1
  rw [← ha1] at hab1
  have cA1 : Hid (∀ W, Ext w W → Calls Tryz.prog 17 #[.slice A n c, .int .i64 1] W fun e w' => e = .returned (.int .i64 a1) ∧ Ext W w') := Lib.hid (fun W he => by have h := laws_at A n c xs 1 W (HXB.out.keep he) HBD.out (by omega) hn20; rw [← ha1] at h; exact h)
  clear ha1
  obtain ⟨a2, ha2⟩ : ∃ a, a = atV xs 2 := ⟨_, rfl⟩
  have hab2 := atV_bd HBD.out 2
  rw [← ha2] at hab2
  have cA2 : Hid (∀ W, Ext w W → Calls Tryz.prog 17 #[.slice A n c, .int .i64 2] W fun e w' => e = .returned (.int .i64 a2) ∧ Ext W w') := Lib.hid (fun W he => by have h := laws_at A n c xs 2 W (HXB.out.keep he) HBD.out (by omega) hn20; rw [← ha2] at h; exact h)
  clear ha2
  obtain ⟨a3, ha3⟩ : ∃ a, a = atV xs 3 := ⟨_, rfl⟩
  have hab3 := atV_bd HBD.out 3
  rw [← ha3] at hab3
  have cA3 : Hid (∀ W, Ext w W → Calls Tryz.prog 17 #[.slice A n c, .int .i64 3] W fun e w' => e = .returned (.int .i64 a3) ∧ Ext W w') := Lib.hid (fun W he => by have h := laws_at A n c xs 3 W (HXB.out.keep he) HBD.out (by omega) hn20; rw [← ha3] at h; exact h)
  clear ha3
  obtain ⟨a4, ha4⟩ : ∃ a, a = atV xs 4 := ⟨_, rfl⟩
  have hab4 := atV_bd HBD.out 4
  rw [← ha4] at hab4
  have cA4 : Hid (∀ W, Ext w W → Calls Tryz.prog 17 #[.slice A n c, .int .i64 4] W fun e w' => e = .returned (.int .i64 a4) ∧ Ext W w') := Lib.hid (fun W he => by have h := laws_at A n c xs 4 W (HXB.out.keep he) HBD.out (by omega) hn20; rw [← ha4] at h; exact h)
  clear ha4
  obtain ⟨o, ho1, ho2, ho3, ho4⟩ := rem_facts hab0.1 (show 0 < (nV2 : Int) by omega)
  have ho5 := fun W => rem_run a0 (nV2 : Int) (show (nV2 : Int) ≠ 0 by omega) W
  rw [← ho1] at ho5
  have ho6 := ho1.symm
  clear ho1
  obtain ⟨t, ht1, ht2, ht3, ht4⟩ := rem_facts hab1.1 (show 0 < m.H by omega)
  have ht5 := fun W => rem_run a1 m.H (show m.H ≠ 0 by omega) W
  rw [← ht1] at ht5
  have ht6 := ht1.symm
  clear ht1
  obtain ⟨f, hf1, hf2, hf3, hf4⟩ := rem_facts hab2.1 (show 0 < (nV3 : Int) by omega)
  have hf5 := fun W => rem_run a2 (nV3 : Int) (show (nV3 : Int) ≠ 0 by omega) W
  rw [← hf1] at hf5
  have hf6 := hf1.symm
  clear hf1
  obtain ⟨s, hs1, hs2, hs3, hs4⟩ := rem_facts hab3.1 (show 0 < (nV3 : Int) by omega)
  have hs5 := fun W => rem_run a3 (nV3 : Int) (show (nV3 : Int) ≠ 0 by omega) W
  rw [← hs1] at hs5
  have hs6 := hs1.symm
  clear hs1
  have zn2 : ¬ (nV2 : Int) = 0 := by omega
  have zbn2 : ((nV2 : Int) == 0) = false := by simp; omega
  have zn3 : ¬ (nV3 : Int) = 0 := by omega
  have zbn3 : ((nV3 : Int) == 0) = false := by simp; omega
  have znH : ¬ m.H = 0 := by omega
  have zbnH : (m.H == 0) = false := by simp; omega
  have zN2 : ¬ nV2 = 0 := by omega
  have zN3 : ¬ nV3 = 0 := by omega
  have HE0 := HE
  go_upto_region 4 with fail
  rw [← HG3.out, ← HW.out]
  clear HW
  have b0 := HB3.out.cellAt (i := 0) (by simp)
  have b1 := HB3.out.cellAt (i := 1) (by simp)
  have b2 := HB3.out.cellAt (i := 2) (by simp)
  have b3 := HB3.out.cellAt (i := 3) (by simp)
  have b4 := HB3.out.cellAt (i := 4) (by simp)
  have b5 := HB3.out.cellAt (i := 5) (by simp)
  have b6 := HB3.out.cellAt (i := 6) (by simp)
  simp only [List.getElem_toArray, List.getElem_cons_zero, List.getElem_cons_succ] at b0 b1 b2 b3 b4 b5 b6
  have hg3l := HB3.out.lt
  have nz0 : w2.heap.size ≠ g3 := by omega
  go_cut [4] (fun q wx => ∃ g, q = .pointer (some ⟨g, 0, none⟩) ∧ GotX w2 wx g ⟨o, t, f, s⟩)
  case first => as_aux_lemma =>
    go_region_held3 (fun w' => w'.cell? ⟨g3, 0, none⟩ = some (.int .i64 m.H) ∧ w'.cell? ⟨g3, 3, none⟩ = some (.slice AV2 nV2 kV2) ∧ w'.cell? ⟨g3, 4, none⟩ = some (.slice AV3 nV3 kV3)) (go_keep) (first
      | (go_at_call 17; (first | with_reducible refine (cA0.out _ (by first | with_reducible exact HE0.out.trans eu | with_reducible exact HE0.out.trans (eu.alloc _) | with_reducible exact HE0.out.trans (Ext.refl _).drew | with_reducible exact HE0.out.trans (((Ext.refl _).alloc _).drew))).mono ?_ | with_reducible refine (cA1.out _ (by first | with_reducible exact HE0.out.trans eu | with_reducible exact HE0.out.trans (eu.alloc _) | with_reducible exact HE0.out.trans (Ext.refl _).drew | with_reducible exact HE0.out.trans (((Ext.refl _).alloc _).drew))).mono ?_ | with_reducible refine (cA2.out _ (by first | with_reducible exact HE0.out.trans eu | with_reducible exact HE0.out.trans (eu.alloc _) | with_reducible exact HE0.out.trans (Ext.refl _).drew | with_reducible exact HE0.out.trans (((Ext.refl _).alloc _).drew))).mono ?_ | with_reducible refine (cA3.out _ (by first | with_reducible exact HE0.out.trans eu | with_reducible exact HE0.out.trans (eu.alloc _) | with_reducible exact HE0.out.trans (Ext.refl _).drew | with_reducible exact HE0.out.trans (((Ext.refl _).alloc _).drew))).mono ?_); rintro e w9 ⟨rfl, hJ⟩; have eu : Ext w2 w9 := (by first | with_reducible exact Ext.trans (Ext.refl _).drew hJ | with_reducible exact Ext.trans (((Ext.refl _).alloc _).drew) hJ | with_reducible exact Ext.trans eu hJ | with_reducible exact Ext.trans (eu.alloc _) hJ); (first | with_reducible have kz := Blk.keep kz hJ | with_reducible have kz := Blk.keep (Blk.drew (Blk.new _ _ _)) hJ | with_reducible have kz := Blk.keep (Blk.new _ _ _) hJ | skip); have bb := HB3.out.keep eu; have b0 := bb.cellAt (i := 0) (by simp); have b3 := bb.cellAt (i := 3) (by simp); have b4 := bb.cellAt (i := 4) (by simp); simp only [List.getElem_toArray, List.getElem_cons_zero, List.getElem_cons_succ] at b0 b3 b4; have zsz := eu.size; have nz : w9.heap.size ≠ g3 := (by omega); (try (have kf := kz.free; have kl := kz.lt; have q0 := kz.cellAt (i := 0) (by simp); have q1 := kz.cellAt (i := 1) (by simp); have q2 := kz.cellAt (i := 2) (by simp); have q3 := kz.cellAt (i := 3) (by simp); simp at q0 q1 q2 q3)); clear bb))
    all_goals go_wp2_with fail
    all_goals go_meet
    all_goals first
      | with_reducible exact ⟨_, rfl, GotX.new eu⟩
      | with_reducible exact ⟨_, rfl, GotX.of kz eu (by first | with_reducible exact Nat.le_refl _ | (simp; done) | (simp; omega) | omega)⟩
  case rest =>
  obtain ⟨gx, rfl, hX⟩ := hcut
  obtain ⟨w3, rfl⟩ : ∃ x, x = wc := ⟨_, rfl⟩
  have hE3 := hX.e
  have HBX := Lib.hid hX.box
  clear hX b0 b1 b2 b3 b4 b5 b6
  have HB3 := Lib.hid (HB3.out.keep hE3)
  have HR3 := Lib.hid (HR3.out.keep hE3)
  have HE := Lib.hid (HE.out.trans hE3)
  clear hE3
  obtain ⟨ob, hob⟩ : ∃ b, b = nightB m ⟨o, t, f, s⟩ := ⟨_, rfl⟩
  have HOB := Lib.hid hob
  have cN := Lib.hid (impl_NightMove (⟨m.H, ⟨AV0, nV0, kV0⟩, ⟨AV1, nV1, kV1⟩, ⟨AV2, nV2, kV2⟩, ⟨AV3, nV3, kV3⟩, m.d, ⟨AV4, nV4, kV4⟩⟩ : MV) m ⟨o, t, f, s⟩ w3 HR3.out HF.out)
  rw [← hob] at cN
  clear hob
  have b0 := HB3.out.cellAt (i := 0) (by simp)
  have b1 := HB3.out.cellAt (i := 1) (by simp)
  have b2 := HB3.out.cellAt (i := 2) (by simp)
  have b3 := HB3.out.cellAt (i := 3) (by simp)
  have b4 := HB3.out.cellAt (i := 4) (by simp)
  have b5 := HB3.out.cellAt (i := 5) (by simp)
  have b6 := HB3.out.cellAt (i := 6) (by simp)
  simp only [List.getElem_toArray, List.getElem_cons_zero, List.getElem_cons_succ] at b0 b1 b2 b3 b4 b5 b6
  have x0 := HBX.out.cellAt (i := 0) (by simp)
  have x1 := HBX.out.cellAt (i := 1) (by simp)
  have x2 := HBX.out.cellAt (i := 2) (by simp)
  have x3 := HBX.out.cellAt (i := 3) (by simp)
  simp only [List.getElem_toArray, List.getElem_cons_zero, List.getElem_cons_succ] at x0 x1 x2 x3
  go_wp2_with (go_at_call 19; refine (fun h : Hid _ => h.out) ?_)
  unfold Hid
  refine (cN.out).mono ?_
  rintro e w4 ⟨v9, hev, he9, ho9⟩
  obtain ⟨HA, ⟨AA0, nA0, kA0⟩, ⟨AA1, nA1, kA1⟩, ⟨AA2, nA2, kA2⟩, ⟨AA3, nA3, kA3⟩, dA, ⟨AA4, nA4, kA4⟩⟩ := v9
  simp only [MV.val, MV.cells] at hev
  subst hev
  clear b0 b1 b2 b3 b4 b5 b6
  have HRA := Lib.hid ho9.rd
  have hdA := ho9.ed
  obtain ⟨-, -, -, -, l9⟩ := ho9.rd.lens
  simp only at hdA l9
  have HLA := Lib.hid l9
  have HDA := Lib.hid hdA
  clear l9 hdA
  clear ho9
  have HB3 := Lib.hid (HB3.out.keep he9)
  have HBX := Lib.hid (HBX.out.keep he9)
  have HR3 := Lib.hid (HR3.out.keep he9)
  have HE := Lib.hid (HE.out.trans he9)
  clear he9
  obtain ⟨w5, hw5⟩ : ∃ w5, w5 = w4.alloc (.cells #[.int .i64 HA, .slice AA0 nA0 kA0, .slice AA1 nA1 kA1, .slice AA2 nA2 kA2, .slice AA3 nA3 kA3, .int .i64 dA, .slice AA4 nA4 kA4] 30) := ⟨_, rfl⟩
  have hEn : Ext w4 w5 := by rw [hw5]; exact (Ext.refl _).alloc _
  have HB5 : Hid (Blk w5 w4.heap.size 30 #[.int .i64 HA, .slice AA0 nA0 kA0, .slice AA1 nA1 kA1, .slice AA2 nA2 kA2, .slice AA3 nA3 kA3, .int .i64 dA, .slice AA4 nA4 kA4]) := Lib.hid (by rw [hw5]; exact Blk.new _ _ _)
  have HW := Lib.hid hw5
  clear hw5
  have HB3 := Lib.hid (HB3.out.keep hEn)
  have HBX := Lib.hid (HBX.out.keep hEn)
  have HR3 := Lib.hid (HR3.out.keep hEn)
  have HRA := Lib.hid (HRA.out.keep hEn)
  have HE := Lib.hid (HE.out.trans hEn)
  clear hEn
  clear x0 x1 x2 x3 cN
  obtain ⟨tb, htb⟩ : ∃ b, b = guardB m f t := ⟨_, rfl⟩
  have HTB := Lib.hid htb
  have cN := Lib.hid (impl_GuardWalk (⟨m.H, ⟨AV0, nV0, kV0⟩, ⟨AV1, nV1, kV1⟩, ⟨AV2, nV2, kV2⟩, ⟨AV3, nV3, kV3⟩, m.d, ⟨AV4, nV4, kV4⟩⟩ : MV) m f t w5 HR3.out HF.out)
  rw [← htb] at cN
  clear htb
  go_upto_region 6 with fail
  rw [← HW.out]
  clear HW
  have b0 := HB3.out.cellAt (i := 0) (by simp)
  have b1 := HB3.out.cellAt (i := 1) (by simp)
  have b2 := HB3.out.cellAt (i := 2) (by simp)
  have b3 := HB3.out.cellAt (i := 3) (by simp)
  have b4 := HB3.out.cellAt (i := 4) (by simp)
  have b5 := HB3.out.cellAt (i := 5) (by simp)
  have b6 := HB3.out.cellAt (i := 6) (by simp)
  simp only [List.getElem_toArray, List.getElem_cons_zero, List.getElem_cons_succ] at b0 b1 b2 b3 b4 b5 b6
  have x0 := HBX.out.cellAt (i := 0) (by simp)
  have x1 := HBX.out.cellAt (i := 1) (by simp)
  have x2 := HBX.out.cellAt (i := 2) (by simp)
  have x3 := HBX.out.cellAt (i := 3) (by simp)
  simp only [List.getElem_toArray, List.getElem_cons_zero, List.getElem_cons_succ] at x0 x1 x2 x3
  go_wp2_with (go_at_call 20; refine (fun h : Hid _ => h.out) ?_)
  unfold Hid
  refine (cN.out).mono ?_
  rintro e w6 ⟨v9, hev, he9, ho9⟩
  obtain ⟨HB, ⟨AB0, nB0, kB0⟩, ⟨AB1, nB1, kB1⟩, ⟨AB2, nB2, kB2⟩, ⟨AB3, nB3, kB3⟩, dB, ⟨AB4, nB4, kB4⟩⟩ := v9
  simp only [MV.val, MV.cells] at hev
  subst hev
  clear b0 b1 b2 b3 b4 b5 b6
  have HRB := Lib.hid ho9.rd
  have hdB := ho9.ed
  obtain ⟨-, -, -, -, l9⟩ := ho9.rd.lens
  simp only at hdB l9
  have HLB := Lib.hid l9
  have HDB := Lib.hid hdB
  clear l9 hdB
  clear ho9
  have HB3 := Lib.hid (HB3.out.keep he9)
  have HBX := Lib.hid (HBX.out.keep he9)
  have HB5 := Lib.hid (HB5.out.keep he9)
  have HR3 := Lib.hid (HR3.out.keep he9)
  have HRA := Lib.hid (HRA.out.keep he9)
  have HE := Lib.hid (HE.out.trans he9)
  clear he9
  obtain ⟨w7, hw7⟩ : ∃ w7, w7 = w6.alloc (.cells #[.int .i64 HB, .slice AB0 nB0 kB0, .slice AB1 nB1 kB1, .slice AB2 nB2 kB2, .slice AB3 nB3 kB3, .int .i64 dB, .slice AB4 nB4 kB4] 30) := ⟨_, rfl⟩
  have hEn : Ext w6 w7 := by rw [hw7]; exact (Ext.refl _).alloc _
  have HB7 : Hid (Blk w7 w6.heap.size 30 #[.int .i64 HB, .slice AB0 nB0 kB0, .slice AB1 nB1 kB1, .slice AB2 nB2 kB2, .slice AB3 nB3 kB3, .int .i64 dB, .slice AB4 nB4 kB4]) := Lib.hid (by rw [hw7]; exact Blk.new _ _ _)
  have HW := Lib.hid hw7
  clear hw7
  have HB3 := Lib.hid (HB3.out.keep hEn)
  have HBX := Lib.hid (HBX.out.keep hEn)
  have HB5 := Lib.hid (HB5.out.keep hEn)
  have HR3 := Lib.hid (HR3.out.keep hEn)
  have HRA := Lib.hid (HRA.out.keep hEn)
  have HRB := Lib.hid (HRB.out.keep hEn)
  have HE := Lib.hid (HE.out.trans hEn)
  clear hEn
  clear x0 x1 x2 x3 cN
  go_upto_region 7 with fail
  rw [← HW.out]
  clear HW
  have hwa : wrap64 (1 + a4) = 1 + a4 := IntWalk.wrap64_in _ ⟨by omega, by omega⟩
  have hwa2 : IntKind.i64.wrap (1 + a4) = 1 + a4 := IntWalk.i64_in _ (by omega)
  obtain ⟨hdy, hdd⟩ := days_yes HMM.out hnd (show 1 ≤ 1 + a4 by omega) (by omega)
  have cN := Lib.hid (fun W (he : Ext w7 W) => impl_NextDays (⟨m.H, ⟨AV0, nV0, kV0⟩, ⟨AV1, nV1, kV1⟩, ⟨AV2, nV2, kV2⟩, ⟨AV3, nV3, kV3⟩, m.d, ⟨AV4, nV4, kV4⟩⟩ : MV) m (1 + a4) W (HR3.out.keep he) HF.out)
  rw [hdy] at cN
  have HDD := Lib.hid hdd
  have HE7 := HE
  clear hdd hdy
  have b0 := HB3.out.cellAt (i := 0) (by simp)
  have b1 := HB3.out.cellAt (i := 1) (by simp)
  have b2 := HB3.out.cellAt (i := 2) (by simp)
  have b3 := HB3.out.cellAt (i := 3) (by simp)
  have b4 := HB3.out.cellAt (i := 4) (by simp)
  have b5 := HB3.out.cellAt (i := 5) (by simp)
  have b6 := HB3.out.cellAt (i := 6) (by simp)
  simp only [List.getElem_toArray, List.getElem_cons_zero, List.getElem_cons_succ] at b0 b1 b2 b3 b4 b5 b6
  have hg3m := HB3.out.lt
  have nz7 : w7.heap.size ≠ g3 := by omega
  go_cut [9, 10] (fun p q wx => ∃ (g lo hi : Nat) (v : MV), p = .pointer (some ⟨g, 0, none⟩) ∧ q = .bool true ∧ GotK w7 wx g lo hi v (daysM m (1 + a4)))
  case first => as_aux_lemma =>
    go_region_held3 (fun w' => w'.cell? ⟨g3, 0, none⟩ = some (.int .i64 m.H) ∧ w'.cell? ⟨g3, 1, none⟩ = some (.slice AV0 nV0 kV0) ∧ w'.cell? ⟨g3, 2, none⟩ = some (.slice AV1 nV1 kV1) ∧ w'.cell? ⟨g3, 3, none⟩ = some (.slice AV2 nV2 kV2) ∧ w'.cell? ⟨g3, 4, none⟩ = some (.slice AV3 nV3 kV3) ∧ w'.cell? ⟨g3, 5, none⟩ = some (.int .i64 m.d) ∧ w'.cell? ⟨g3, 6, none⟩ = some (.slice AV4 nV4 kV4)) (go_keep) (first
      | (go_at_call 17; refine (cA4.out _ (by first | with_reducible exact HE7.out.trans (Ext.refl _).drew | with_reducible exact HE7.out.trans (((Ext.refl _).alloc _).drew))).mono ?_; rintro e w9 ⟨rfl, hJ⟩; have eu : Ext w7 w9 := (by first | with_reducible exact Ext.trans (Ext.refl _).drew hJ | with_reducible exact Ext.trans (((Ext.refl _).alloc _).drew) hJ | with_reducible exact Ext.trans eu hJ | with_reducible exact Ext.trans (eu.alloc _) hJ); have zsz := eu.size; have nz : w9.heap.size ≠ g3 := (by omega); have bb := HB3.out.keep eu; have b0 := bb.cellAt (i := 0) (by simp); have b1 := bb.cellAt (i := 1) (by simp); have b2 := bb.cellAt (i := 2) (by simp); have b3 := bb.cellAt (i := 3) (by simp); have b4 := bb.cellAt (i := 4) (by simp); have b5 := bb.cellAt (i := 5) (by simp); have b6 := bb.cellAt (i := 6) (by simp); simp only [List.getElem_toArray, List.getElem_cons_zero, List.getElem_cons_succ] at b0 b1 b2 b3 b4 b5 b6; (first | with_reducible have kz := Blk.keep kz hJ | with_reducible have kz := Blk.keep (Blk.drew (Blk.new _ _ _)) hJ | with_reducible have kz := Blk.keep (Blk.new _ _ _) hJ | skip))
      | (go_at_call 21; refine (cN.out _ (by first | with_reducible exact eu | with_reducible exact eu.alloc _)).mono ?_; rintro e wC ⟨v9, hev, hC, oC⟩; obtain ⟨HC, ⟨AC0, nC0, kC0⟩, ⟨AC1, nC1, kC1⟩, ⟨AC2, nC2, kC2⟩, ⟨AC3, nC3, kC3⟩, dC, ⟨AC4, nC4, kC4⟩⟩ := v9; simp only [MV.val, MV.cells] at hev; subst hev; have eu2 : Ext w7 wC := (by first | with_reducible exact eu.trans hC | with_reducible exact (eu.alloc _).trans hC); have bb := HB3.out.keep eu2; have b0 := bb.cellAt (i := 0) (by simp); have b1 := bb.cellAt (i := 1) (by simp); have b2 := bb.cellAt (i := 2) (by simp); have b3 := bb.cellAt (i := 3) (by simp); have b4 := bb.cellAt (i := 4) (by simp); have b5 := bb.cellAt (i := 5) (by simp); have b6 := bb.cellAt (i := 6) (by simp); simp only [List.getElem_toArray, List.getElem_cons_zero, List.getElem_cons_succ] at b0 b1 b2 b3 b4 b5 b6; (first | with_reducible have kC := Blk.keep kz hC | with_reducible have kC := Blk.keep (Blk.drew (Blk.new _ _ _)) hC | with_reducible have kC := Blk.keep (Blk.new _ _ _) hC | skip); have zsz := eu2.size; have nz : wC.heap.size ≠ g3 := (by omega); (try (have kCf := kC.free; have kCl := kC.lt; have kC0 := kC.cellAt (i := 0) (by simp); have kC1 := kC.cellAt (i := 1) (by simp); have kC2 := kC.cellAt (i := 2) (by simp); have kC3 := kC.cellAt (i := 3) (by simp); have kC4 := kC.cellAt (i := 4) (by simp); have kC5 := kC.cellAt (i := 5) (by simp); have kC6 := kC.cellAt (i := 6) (by simp); simp at kC0 kC1 kC2 kC3 kC4 kC5 kC6))))
    all_goals go_wp2_with fail
    all_goals go_meet
    all_goals first
      | (have hG := GotK.of oC hC kC (show Ext w7 _ from (by first | with_reducible exact eu | with_reducible exact eu.alloc _)) (Ext.refl _) (by have := eu.size; omega) (by first | with_reducible exact .inl kz.lt | with_reducible exact .inl (by simp; done) | with_reducible exact .inl (by simp; omega)); exact ⟨_, _, _, _, rfl, rfl, hG⟩)
      | (have hG := GotK.new (t := 30) oC hC (show Ext w7 _ from (by first | with_reducible exact eu | with_reducible exact eu.alloc _)); exact ⟨_, _, _, _, rfl, rfl, hG⟩)
  case rest =>
  obtain ⟨gc, lox, hix, ⟨HC, ⟨AC0, nC0, kC0⟩, ⟨AC1, nC1, kC1⟩, ⟨AC2, nC2, kC2⟩, ⟨AC3, nC3, kC3⟩, dC, ⟨AC4, nC4, kC4⟩⟩, rfl, rfl, hG⟩ := hcut
  obtain ⟨w8, rfl⟩ : ∃ x, x = wc := ⟨_, rfl⟩
  have hE8 := hG.e
  obtain ⟨y0, y1, y2, y3, y4, y5, y6⟩ := hG.box.cell
  simp only at y0 y1 y2 y3 y4 y5 y6
  have hcl := hG.box.lt
  have hdC := hG.own.ed
  simp only at hdC
  rw [HDD.out] at hdC
  have HDC := Lib.hid hdC
  clear hdC
  have HRC := Lib.hid hG.own.rd
  have HBC := Lib.hid hG.box
  clear hG b0 b1 b2 b3 b4 b5 b6 cN y0 y1 y2 y3 y4 y5 y6
  have HB3 := Lib.hid (HB3.out.keep hE8)
  have HBX := Lib.hid (HBX.out.keep hE8)
  have HB5 := Lib.hid (HB5.out.keep hE8)
  have HB7 := Lib.hid (HB7.out.keep hE8)
  have HR3 := Lib.hid (HR3.out.keep hE8)
  have HRA := Lib.hid (HRA.out.keep hE8)
  have HRB := Lib.hid (HRB.out.keep hE8)
  have HE := Lib.hid (HE.out.trans hE8)
  clear hE8
  obtain rfl : dC = m.d + 1 + a4 := by have := HDC.out; omega
  obtain ⟨fn, hfn⟩ := Int.eq_ofNat_of_zero_le hf3
  subst hfn
  have hfl : fn < nV3 := by omega
  clear hwa hwa2 ho5 ht5 hf5 hs5 ho6 ht6 hf6 hs6 ho2 ht2 hf2 hs2
  obtain ⟨cb, hcb⟩ : ∃ b, b = canMoveB m.H m.ds m.ps m.gs ⟨o, t, (fn : Int), s⟩ := ⟨_, rfl⟩
  have cC := Lib.hid (spec_CanMove m.H AV0 nV0 kV0 m.ds AV2 nV2 kV2 m.ps AV3 nV3 kV3 m.gs ⟨o, t, (fn : Int), s⟩ w8 HR3.out.rd HR3.out.rp HR3.out.rg)
  rw [← hcb] at cC
  have HO2 : Hid (ob = (cb && decide (nV4 < 30))) := Lib.hid (by rw [HOB.out, night_iff HMM.out, ← hcb, HL4.out])
  clear hcb
  go_upto_region 8 with fail
  go_cut [11] (fun q wx => q = .bool ob ∧ Hid (Ext w8 wx))
  case first =>
    have b0 := HB3.out.cellAt (i := 0) (by simp)
    have b1 := HB3.out.cellAt (i := 1) (by simp)
    have b2 := HB3.out.cellAt (i := 2) (by simp)
    have b3 := HB3.out.cellAt (i := 3) (by simp)
    have b4 := HB3.out.cellAt (i := 4) (by simp)
    have b5 := HB3.out.cellAt (i := 5) (by simp)
    have b6 := HB3.out.cellAt (i := 6) (by simp)
    simp only [List.getElem_toArray, List.getElem_cons_zero, List.getElem_cons_succ] at b0 b1 b2 b3 b4 b5 b6
    have x0 := HBX.out.cellAt (i := 0) (by simp)
    have x1 := HBX.out.cellAt (i := 1) (by simp)
    have x2 := HBX.out.cellAt (i := 2) (by simp)
    have x3 := HBX.out.cellAt (i := 3) (by simp)
    simp only [List.getElem_toArray, List.getElem_cons_zero, List.getElem_cons_succ] at x0 x1 x2 x3
    cases cb
    · go_wp2_with (go_at_call 22; refine (fun h : Hid _ => h.out) ?_)
      unfold Hid
      refine cC.out.mono ?_
      rintro e w9 ⟨rfl, he9⟩
      have HE9 := Lib.hid he9
      clear he9
      go_wp2_with fail
      go_meet
      exact ⟨by rw [HO2.out]; rfl, HE9⟩
    · go_wp2_with (go_at_call 22; refine (fun h : Hid _ => h.out) ?_)
      unfold Hid
      refine cC.out.mono ?_
      rintro e w9 ⟨rfl, he9⟩
      have c6 := (HB3.out.keep he9).cellAt (i := 6) (by simp)
      simp only [List.getElem_toArray, List.getElem_cons_zero, List.getElem_cons_succ] at c6
      have HE9 := Lib.hid he9
      clear he9
      by_cases hl : nV4 < 30
      · have hl2 : (nV4 : Int) < 30 := by omega
        go_wp2_with fail
        go_meet
        exact ⟨by rw [HO2.out]; simp [hl], HE9⟩
      · have hl2 : ¬ (nV4 : Int) < 30 := by omega
        go_wp2_with fail
        go_meet
        exact ⟨by rw [HO2.out]; first | (simp [hl]; done) | (simp [hl]; omega), HE9⟩
  case rest =>
  obtain ⟨rfl, HEc⟩ := hcut
  obtain ⟨w9, rfl⟩ : ∃ x, x = wc := ⟨_, rfl⟩
  have he9 := HEc.out
  clear HEc cC HO2
  have HB3 := Lib.hid (HB3.out.keep he9)
  have HBX := Lib.hid (HBX.out.keep he9)
  have HB5 := Lib.hid (HB5.out.keep he9)
  have HB7 := Lib.hid (HB7.out.keep he9)
  have HBC := Lib.hid (HBC.out.keep he9)
  have HR3 := Lib.hid (HR3.out.keep he9)
  have HRA := Lib.hid (HRA.out.keep he9)
  have HRB := Lib.hid (HRB.out.keep he9)
  have HRC := Lib.hid (HRC.out.keep he9)
  have HE := Lib.hid (HE.out.trans he9)
  clear he9
  have hnb := Lib.hid (new_back HMM.out)
  have hnp := Lib.hid (new_places HMM.out)
  have cN := Lib.hid (impl_NewMuseum m.H AV0 nV0 kV0 m.ds AV1 nV1 kV1 m.fs AV3 nV3 kV3 m.gs w9 HR3.out.rd HR3.out.rf HR3.out.rg HF.out.zd HF.out.zf HF.out.zg HF.out.nd HF.out.nf HF.out.ng)
  rw [hnb.out] at cN
  have b0 := HB3.out.cellAt (i := 0) (by simp)
  have b1 := HB3.out.cellAt (i := 1) (by simp)
  have b2 := HB3.out.cellAt (i := 2) (by simp)
  have b3 := HB3.out.cellAt (i := 3) (by simp)
  have b4 := HB3.out.cellAt (i := 4) (by simp)
  have b5 := HB3.out.cellAt (i := 5) (by simp)
  have b6 := HB3.out.cellAt (i := 6) (by simp)
  simp only [List.getElem_toArray, List.getElem_cons_zero, List.getElem_cons_succ] at b0 b1 b2 b3 b4 b5 b6
  go_wp2_with (go_at_call 23; refine (fun h : Hid _ => h.out) ?_)
  unfold Hid
  refine (cN.out).mono ?_
  rintro e w10 ⟨v9, hev, he9, ho9⟩
  obtain ⟨HN, ⟨AN0, nN0, kN0⟩, ⟨AN1, nN1, kN1⟩, ⟨AN2, nN2, kN2⟩, ⟨AN3, nN3, kN3⟩, dN, ⟨AN4, nN4, kN4⟩⟩ := v9
  simp only [MV.val, MV.cells] at hev
  subst hev
  clear b0 b1 b2 b3 b4 b5 b6
  have HRN := Lib.hid ho9.rd
  have HFN := Lib.hid (fit_ok ho9 hnp.out.2.2)
  clear ho9 cN
  have HB3 := Lib.hid (HB3.out.keep he9)
  have HBX := Lib.hid (HBX.out.keep he9)
  have HB5 := Lib.hid (HB5.out.keep he9)
  have HB7 := Lib.hid (HB7.out.keep he9)
  have HBC := Lib.hid (HBC.out.keep he9)
  have HR3 := Lib.hid (HR3.out.keep he9)
  have HRA := Lib.hid (HRA.out.keep he9)
  have HRB := Lib.hid (HRB.out.keep he9)
  have HRC := Lib.hid (HRC.out.keep he9)
  have HE := Lib.hid (HE.out.trans he9)
  clear he9
  obtain ⟨w11, hw11⟩ : ∃ w11, w11 = w10.alloc (.cells #[.int .i64 HN, .slice AN0 nN0 kN0, .slice AN1 nN1 kN1, .slice AN2 nN2 kN2, .slice AN3 nN3 kN3, .int .i64 dN, .slice AN4 nN4 kN4] 30) := ⟨_, rfl⟩
  have hEn : Ext w10 w11 := by rw [hw11]; exact (Ext.refl _).alloc _
  have HB12 : Hid (Blk w11 w10.heap.size 30 #[.int .i64 HN, .slice AN0 nN0 kN0, .slice AN1 nN1 kN1, .slice AN2 nN2 kN2, .slice AN3 nN3 kN3, .int .i64 dN, .slice AN4 nN4 kN4]) := Lib.hid (by rw [hw11]; exact Blk.new _ _ _)
  have HW := Lib.hid hw11
  clear hw11
  have HB3 := Lib.hid (HB3.out.keep hEn)
  have HBX := Lib.hid (HBX.out.keep hEn)
  have HB5 := Lib.hid (HB5.out.keep hEn)
  have HB7 := Lib.hid (HB7.out.keep hEn)
  have HBC := Lib.hid (HBC.out.keep hEn)
  have HR3 := Lib.hid (HR3.out.keep hEn)
  have HRA := Lib.hid (HRA.out.keep hEn)
  have HRB := Lib.hid (HRB.out.keep hEn)
  have HRC := Lib.hid (HRC.out.keep hEn)
  have HRN := Lib.hid (HRN.out.keep hEn)
  have HE := Lib.hid (HE.out.trans hEn)
  clear hEn
  go_upto_region 10 with fail
  rw [← HW.out]
  clear HW
  have cM1 : Hid (∀ (d : Nat) (os : Array Obj), Calls Tryz.prog 13 #[.agg #[.int .i64 m.H, .slice AV0 nV0 kV0, .slice AV1 nV1 kV1, .slice AV2 nV2 kV2, .slice AV3 nV3 kV3, .int .i64 m.d, .slice AV4 nV4 kV4]] (grow (redrawn w11 d) os) fun e w' => e = .returned (.bool true) ∧ Ext (grow (redrawn w11 d) os) w') := Lib.hid (fun d os => by have k := ext_rg w11 d os; have h := impl_MuseumOk (⟨m.H, ⟨AV0, nV0, kV0⟩, ⟨AV1, nV1, kV1⟩, ⟨AV2, nV2, kV2⟩, ⟨AV3, nV3, kV3⟩, m.d, ⟨AV4, nV4, kV4⟩⟩ : MV) m _ (HR3.out.keep k); rw [HMM.out] at h; exact h)
  have cM2 : Hid (∀ (d : Nat) (os : Array Obj), Calls Tryz.prog 13 #[.agg #[.int .i64 HA, .slice AA0 nA0 kA0, .slice AA1 nA1 kA1, .slice AA2 nA2 kA2, .slice AA3 nA3 kA3, .int .i64 dA, .slice AA4 nA4 kA4]] (grow (redrawn w11 d) os) fun e w' => e = .returned (.bool true) ∧ Ext (grow (redrawn w11 d) os) w') := Lib.hid (fun d os => by have k := ext_rg w11 d os; have h := impl_MuseumOk (⟨HA, ⟨AA0, nA0, kA0⟩, ⟨AA1, nA1, kA1⟩, ⟨AA2, nA2, kA2⟩, ⟨AA3, nA3, kA3⟩, dA, ⟨AA4, nA4, kA4⟩⟩ : MV) (nightM m ⟨o, t, (fn : Int), s⟩) _ (HRA.out.keep k); rw [night_ok HMM.out _] at h; exact h)
  have cM3 : Hid (∀ (d : Nat) (os : Array Obj), Calls Tryz.prog 13 #[.agg #[.int .i64 HB, .slice AB0 nB0 kB0, .slice AB1 nB1 kB1, .slice AB2 nB2 kB2, .slice AB3 nB3 kB3, .int .i64 dB, .slice AB4 nB4 kB4]] (grow (redrawn w11 d) os) fun e w' => e = .returned (.bool true) ∧ Ext (grow (redrawn w11 d) os) w') := Lib.hid (fun d os => by have k := ext_rg w11 d os; have h := impl_MuseumOk (⟨HB, ⟨AB0, nB0, kB0⟩, ⟨AB1, nB1, kB1⟩, ⟨AB2, nB2, kB2⟩, ⟨AB3, nB3, kB3⟩, dB, ⟨AB4, nB4, kB4⟩⟩ : MV) (guardM m (fn : Int) t) _ (HRB.out.keep k); rw [guard_ok HMM.out _ _] at h; exact h)
  have cM4 : Hid (∀ (d : Nat) (os : Array Obj), Calls Tryz.prog 13 #[.agg #[.int .i64 HC, .slice AC0 nC0 kC0, .slice AC1 nC1 kC1, .slice AC2 nC2 kC2, .slice AC3 nC3 kC3, .int .i64 (m.d + 1 + a4), .slice AC4 nC4 kC4]] (grow (redrawn w11 d) os) fun e w' => e = .returned (.bool true) ∧ Ext (grow (redrawn w11 d) os) w') := Lib.hid (fun d os => by have k := ext_rg w11 d os; have h := impl_MuseumOk (⟨HC, ⟨AC0, nC0, kC0⟩, ⟨AC1, nC1, kC1⟩, ⟨AC2, nC2, kC2⟩, ⟨AC3, nC3, kC3⟩, (m.d + 1 + a4), ⟨AC4, nC4, kC4⟩⟩ : MV) (daysM m (1 + a4)) _ (HRC.out.keep k); rw [days_ok HMM.out _] at h; exact h)
  obtain ⟨bg, og, y, hAg, -, hyk, p0⟩ := ienc_at HR3.out.rg hfl
  simp only at hAg
  subst hAg
  have hdo : doorB m.ds y t = tb := by rw [HTB.out, guard_door HMM.out hf3 (by have := HL3.out; omega) (by rw [Int.toNat_natCast]; exact hyk)]
  have HDO := Lib.hid hdo
  have i0 : (0 : Int) ≤ (fn : Int) := by omega
  have i1 : (fn : Int) < (nV3 : Int) := by omega
  clear hyk hdo
  have cH : Hid (∀ (d : Nat) (os : Array Obj), Calls Tryz.prog 24 #[.agg #[.int .i64 m.H, .slice AV0 nV0 kV0], .int .i64 y, .int .i64 t] (grow (redrawn w11 d) os) fun e w' => e = .returned (.bool tb) ∧ Ext (grow (redrawn w11 d) os) w') := Lib.hid (fun d os => by have k := ext_rg w11 d os; have h := spec_HasDoor m.H AV0 nV0 kV0 m.ds y t _ (HR3.out.rd.keep k) (museumB_house HMM.out); rw [HDO.out] at h; exact h)
  have cT : Hid (∀ (d : Nat) (os : Array Obj), Calls Tryz.prog 17 #[.slice A n c, .int .i64 4] (grow (redrawn w11 d) os) fun e w' => e = .returned (.int .i64 a4) ∧ Ext (grow (redrawn w11 d) os) w') := Lib.hid (fun d os => by have k := ext_rg w11 d os; have h := cA4.out _ (HE.out.trans k); exact h)
  have cB := Lib.hid (fun (d : Nat) (os : Array Obj) => laws_btoi ob (grow (redrawn w11 d) os))
  have hRP := HRB.out.rp
  rw [guard_places] at hRP
  have HRP := Lib.hid hRP
  have hRQ := HRN.out.rp
  rw [hnp.out.1] at hRQ
  have HRQ := Lib.hid hRQ
  clear hRP hRQ
  have cS1 : Hid (∀ (d : Nat) (os : Array Obj), Calls Tryz.prog 14 #[.slice AB2 nB2 kB2, .slice AV2 nV2 kV2] (grow (redrawn w11 d) os) fun e w' => e = .returned (.bool true) ∧ Ext (grow (redrawn w11 d) os) w') := Lib.hid (fun d os => by have k := ext_rg w11 d os; have h := laws_sameInts AB2 nB2 kB2 AV2 nV2 kV2 m.ps _ (HRP.out.keep k) (HR3.out.rp.keep k); exact h)
  have cS2 : Hid (∀ (d : Nat) (os : Array Obj), Calls Tryz.prog 14 #[.slice AN2 nN2 kN2, .slice AV1 nV1 kV1] (grow (redrawn w11 d) os) fun e w' => e = .returned (.bool true) ∧ Ext (grow (redrawn w11 d) os) w') := Lib.hid (fun d os => by have k := ext_rg w11 d os; have h := laws_sameInts AN2 nN2 kN2 AV1 nV1 kV1 m.fs _ (HRQ.out.keep k) (HR3.out.rf.keep k); exact h)
  have cU : Hid (∀ (d : Nat) (os : Array Obj), Calls Tryz.prog 15 #[.agg #[.int .i64 HN, .slice AN0 nN0 kN0, .slice AN1 nN1 kN1, .slice AN2 nN2 kN2, .slice AN3 nN3 kN3, .int .i64 dN, .slice AN4 nN4 kN4]] (grow (redrawn w11 d) os) fun e w' => e = .returned (.bool true) ∧ Ext (grow (redrawn w11 d) os) w') := Lib.hid (fun d os => by have k := ext_rg w11 d os; have h := impl_AuditMuseum (⟨HN, ⟨AN0, nN0, kN0⟩, ⟨AN1, nN1, kN1⟩, ⟨AN2, nN2, kN2⟩, ⟨AN3, nN3, kN3⟩, dN, ⟨AN4, nN4, kN4⟩⟩ : MV) (newM m.H m.ds m.fs m.gs) _ (HRN.out.keep k) HFN.out (Lib.hid (max_ext hM.out (HE.out.trans k))); rw [hnp.out.2.1] at h; exact h)
  have bv0 := HB3.out.cellAt (i := 0) (by simp)
  have bv1 := HB3.out.cellAt (i := 1) (by simp)
  have bv2 := HB3.out.cellAt (i := 2) (by simp)
  have bv3 := HB3.out.cellAt (i := 3) (by simp)
  have bv4 := HB3.out.cellAt (i := 4) (by simp)
  have bv5 := HB3.out.cellAt (i := 5) (by simp)
  have bv6 := HB3.out.cellAt (i := 6) (by simp)
  simp only [List.getElem_toArray, List.getElem_cons_zero, List.getElem_cons_succ] at bv0 bv1 bv2 bv3 bv4 bv5 bv6
  have rbv0 := cell_regrown bv0
  have rbv1 := cell_regrown bv1
  have rbv2 := cell_regrown bv2
  have rbv3 := cell_regrown bv3
  have rbv4 := cell_regrown bv4
  have rbv5 := cell_regrown bv5
  have rbv6 := cell_regrown bv6
  clear bv0 bv1 bv2 bv3 bv4 bv5 bv6
  have bx0 := HBX.out.cellAt (i := 0) (by simp)
  have bx1 := HBX.out.cellAt (i := 1) (by simp)
  have bx2 := HBX.out.cellAt (i := 2) (by simp)
  have bx3 := HBX.out.cellAt (i := 3) (by simp)
  simp only [List.getElem_toArray, List.getElem_cons_zero, List.getElem_cons_succ] at bx0 bx1 bx2 bx3
  have rbx0 := cell_regrown bx0
  have rbx1 := cell_regrown bx1
  have rbx2 := cell_regrown bx2
  have rbx3 := cell_regrown bx3
  clear bx0 bx1 bx2 bx3
  have ba0 := HB5.out.cellAt (i := 0) (by simp)
  have ba1 := HB5.out.cellAt (i := 1) (by simp)
  have ba2 := HB5.out.cellAt (i := 2) (by simp)
  have ba3 := HB5.out.cellAt (i := 3) (by simp)
  have ba4 := HB5.out.cellAt (i := 4) (by simp)
  have ba5 := HB5.out.cellAt (i := 5) (by simp)
  have ba6 := HB5.out.cellAt (i := 6) (by simp)
  simp only [List.getElem_toArray, List.getElem_cons_zero, List.getElem_cons_succ] at ba0 ba1 ba2 ba3 ba4 ba5 ba6
  have rba0 := cell_regrown ba0
  have rba1 := cell_regrown ba1
  have rba2 := cell_regrown ba2
  have rba3 := cell_regrown ba3
  have rba4 := cell_regrown ba4
  have rba5 := cell_regrown ba5
  have rba6 := cell_regrown ba6
  clear ba0 ba1 ba2 ba3 ba4 ba5 ba6
  have bb0 := HB7.out.cellAt (i := 0) (by simp)
  have bb1 := HB7.out.cellAt (i := 1) (by simp)
  have bb2 := HB7.out.cellAt (i := 2) (by simp)
  have bb3 := HB7.out.cellAt (i := 3) (by simp)
  have bb4 := HB7.out.cellAt (i := 4) (by simp)
  have bb5 := HB7.out.cellAt (i := 5) (by simp)
  have bb6 := HB7.out.cellAt (i := 6) (by simp)
  simp only [List.getElem_toArray, List.getElem_cons_zero, List.getElem_cons_succ] at bb0 bb1 bb2 bb3 bb4 bb5 bb6
  have rbb0 := cell_regrown bb0
  have rbb1 := cell_regrown bb1
  have rbb2 := cell_regrown bb2
  have rbb3 := cell_regrown bb3
  have rbb4 := cell_regrown bb4
  have rbb5 := cell_regrown bb5
  have rbb6 := cell_regrown bb6
  clear bb0 bb1 bb2 bb3 bb4 bb5 bb6
  obtain ⟨bc0, bc1, bc2, bc3, bc4, bc5, bc6⟩ := HBC.out.cell
  simp only at bc0 bc1 bc2 bc3 bc4 bc5 bc6
  have rbc0 := cell_regrown bc0
  have rbc1 := cell_regrown bc1
  have rbc2 := cell_regrown bc2
  have rbc3 := cell_regrown bc3
  have rbc4 := cell_regrown bc4
  have rbc5 := cell_regrown bc5
  have rbc6 := cell_regrown bc6
  clear bc0 bc1 bc2 bc3 bc4 bc5 bc6
  have bn0 := HB12.out.cellAt (i := 0) (by simp)
  have bn1 := HB12.out.cellAt (i := 1) (by simp)
  have bn2 := HB12.out.cellAt (i := 2) (by simp)
  have bn3 := HB12.out.cellAt (i := 3) (by simp)
  have bn4 := HB12.out.cellAt (i := 4) (by simp)
  have bn5 := HB12.out.cellAt (i := 5) (by simp)
  have bn6 := HB12.out.cellAt (i := 6) (by simp)
  simp only [List.getElem_toArray, List.getElem_cons_zero, List.getElem_cons_succ] at bn0 bn1 bn2 bn3 bn4 bn5 bn6
  have rbn0 := cell_regrown bn0
  have rbn1 := cell_regrown bn1
  have rbn2 := cell_regrown bn2
  have rbn3 := cell_regrown bn3
  have rbn4 := cell_regrown bn4
  have rbn5 := cell_regrown bn5
  have rbn6 := cell_regrown bn6
  clear bn0 bn1 bn2 bn3 bn4 bn5 bn6
  have rp0 := cell_regrown p0
  clear p0
  have w1' : wrap64 (m.d + 1) = m.d + 1 := IntWalk.wrap64_in _ ⟨by omega, by omega⟩
  have w1k : IntKind.i64.wrap (m.d + 1) = m.d + 1 := IntWalk.i64_in _ (by omega)
  have w2' : wrap64 (m.d + 1 + a4) = m.d + 1 + a4 := IntWalk.wrap64_in _ ⟨by omega, by omega⟩
  have w2k : IntKind.i64.wrap (m.d + 1 + a4) = m.d + 1 + a4 := IntWalk.i64_in _ (by omega)
  have hb01 : 0 ≤ b01 ob ∧ b01 ob ≤ 1 := by cases ob <;> decide
  have hA4 : (nA4 : Int) = (nV4 : Int) + b01 ob := by have h1 := night_len (m := m) ⟨o, t, (fn : Int), s⟩; rw [← HOB.out, HL4.out, HLA.out] at h1; exact h1
  have hV4 : nV4 ≤ 30 := by have := (museum_lens HMM.out).2.2.2.2; have := HL4.out; omega
  have w3' : wrap64 ((nV4 : Int) + b01 ob) = (nV4 : Int) + b01 ob := IntWalk.wrap64_in _ ⟨by omega, by omega⟩
  have w3k : IntKind.i64.wrap ((nV4 : Int) + b01 ob) = (nV4 : Int) + b01 ob := IntWalk.i64_in _ (by omega)
  as_aux_lemma =>
    refine wp_region_ext (by kernel_rfl) (by kernel_rfl) ?_
    repeat (go_big_quiet_step (first | (go_at_call 13; first | with_reducible exact Calls.rg (cM1.out _ _) | with_reducible exact Calls.rg (cM2.out _ _) | with_reducible exact Calls.rg (cM3.out _ _) | with_reducible exact Calls.rg (cM4.out _ _)) | (go_at_call 24; with_reducible exact Calls.rg (cH.out _ _)) | (go_at_call 17; with_reducible exact Calls.rg (cT.out _ _)) | (go_at_call 25; with_reducible exact Calls.rg0 (cB.out _ _)) | (go_at_call 14; first | with_reducible exact Calls.rg (cS1.out _ _) | with_reducible exact Calls.rg (cS2.out _ _)) | (go_at_call 15; with_reducible exact Calls.rg (cU.out _ _))))
    dsimp only [List.append]
    repeat (go_big_quiet_step (first | (go_at_call 13; first | with_reducible exact Calls.rg (cM1.out _ _) | with_reducible exact Calls.rg (cM2.out _ _) | with_reducible exact Calls.rg (cM3.out _ _) | with_reducible exact Calls.rg (cM4.out _ _)) | (go_at_call 24; with_reducible exact Calls.rg (cH.out _ _)) | (go_at_call 17; with_reducible exact Calls.rg (cT.out _ _)) | (go_at_call 25; with_reducible exact Calls.rg0 (cB.out _ _)) | (go_at_call 14; first | with_reducible exact Calls.rg (cS1.out _ _) | with_reducible exact Calls.rg (cS2.out _ _)) | (go_at_call 15; with_reducible exact Calls.rg (cU.out _ _))))
    refine wpQuiet_nil ?_
    intro w12 he12
    have HE9 := Lib.hid (HE.out.trans he12)
    clear he12
    go_wp2_with fail
    go_ret
    exact ⟨rfl, HE9.out⟩
end Go.Proofs.YtfmifllcbbfpoaaGreatDoor
