/- Contracts of PlanOk; no condition but what stands at each theorem. -/
import Derived.Test.YtlgmiifpdjalpaaS9
import Derived.Test.YtlgmiifpdjalpaaM1
import Derived.Deep.DeepFit
import Derived.Outline
namespace Go.Proofs.Ytlgmiifpdjalpaa
set_option linter.unusedSimpArgs false
set_option linter.unusedVariables false
open Go.RowKit Go.Sort
def planOkB (loans : List GLoan) (halls : List GClimate) (room plan : List Int) : Bool := sizesOkB loans.length halls.length room && decide (plan.length = loans.length) && planRun loans halls room 0 (List.replicate halls.length 0) plan
theorem getD_of {α : Type} {xs : List α} {k : Nat} {x d : α} (h : xs[k]? = some x) : xs.getD k d = x := by simp [h]
theorem sizesOkB_spec {nl nh : Nat} {room : List Int} (h : sizesOkB nl nh room = true) : nl ≤ 6 ∧ 1 ≤ nh ∧ nh ≤ 5 ∧ room.length = nh ∧ ∀ x ∈ room, 0 ≤ x ∧ x ≤ 6 := by
  simp only [sizesOkB, inB, Bool.and_eq_true, decide_eq_true_eq, List.all_eq_true] at h
  obtain ⟨⟨⟨h1, h2⟩, h3⟩, h4⟩ := h
  exact ⟨h1, by omega, by omega, h3, h4⟩
set_option maxRecDepth 100000 in
set_option maxHeartbeats 2000000 in
theorem impl_PlanOk (A0 : Option Addr) (n0 c0 : Nat) (loans : List GLoan) (A1 : Option Addr) (n1 c1 : Nat) (halls : List GClimate) (A2 : Option Addr) (n2 c2 : Nat) (room : List Int) (A3 : Option Addr) (n3 c3 : Nat) (plan : List Int) (w : World)
    (hx0 : Rd w 4 A0 n0 (loans.flatMap GLoan.enc)) (hx1 : Rd w 3 A1 n1 (halls.flatMap GClimate.enc)) (hx2 : Rd w 1 A2 n2 (room.flatMap ienc)) (hx3 : Rd w 1 A3 n3 (plan.flatMap ienc)) :
    Calls Try.prog 49 #[.slice A0 n0 c0, .slice A1 n1 c1, .slice A2 n2 c2, .slice A3 n3 c3] w fun e w' => e = .returned (.bool (planOkB loans halls room plan)) ∧ Ext w w' := by
  have hn0 := hx0.2.1
  have hn1 := hx1.2.1
  have hn2 := hx2.2.1
  have hn3 := hx3.2.1
  have hl0 := Lib.hid (hx0.len GLoan.len (by omega))
  have hl1 := Lib.hid (hx1.len GClimate.len (by omega))
  have hl2 := Lib.hid (hx2.len ienc_len (by omega))
  have hl3 := Lib.hid (hx3.len ienc_len (by omega))
  cases hv : sizesOkB n0 n1 room
  case false =>
    go_enter Try.func49, Try.ntmps49
    go_wp2_with (go_at_call 96; refine (impl_sizesOk _ _ _ _ _ _ _ _ _ room _ hx2 hn0 hn1).mono ?_; rintro e w1 ⟨he, rfl⟩; rw [hv] at he; subst he)
    go_ret
    exact ⟨ret_bool (by unfold planOkB; rw [hl0.out, hl1.out, hv]; rfl), Ext.refl _⟩
  obtain ⟨g0, g1, g2, g3, g4⟩ := sizesOkB_spec hv
  rw [hl2.out] at g3
  subst g3
  by_cases hp : n3 = n0
  case neg =>
    have b2 : ((n3 : Int) != (n0 : Int)) = true := by rw [bne_iff_ne]; omega
    go_enter Try.func49, Try.ntmps49
    go_wp2_with (go_at_call 96; refine (impl_sizesOk _ _ _ _ _ _ _ _ _ room _ hx2 hn0 hn1).mono ?_; rintro e w1 ⟨he, rfl⟩; rw [hv] at he; subst he)
    go_ret
    exact ⟨ret_bool (by unfold planOkB; rw [hl0.out, hl3.out, decide_eq_false hp]; simp), Ext.refl _⟩
  subst hp
  have hv' := Lib.hid hv
  obtain ⟨cells, hcells⟩ : ∃ cells, cells = ((List.replicate n2 (0 : Int)).map (Value.int .i64)).toArray := ⟨_, rfl⟩
  have hmk := mk_ints n2 (by omega)
  rw [← hcells] at hmk
  have Hcells := Lib.hid hcells
  have G4 := Lib.hid g4
  clear hcells g4
  go_enter Try.func49, Try.ntmps49
  go_wp2_with (go_at_call 96; refine (impl_sizesOk _ _ _ _ _ _ _ _ _ room _ hx2 hn0 hn1).mono ?_; rintro e w1 ⟨he, rfl⟩; rw [hv] at he; subst he)
  clear hv hmk
  go_loopw [29] (fun i wr => ∃ (k : Nat) (u : List Int), k ≤ n3 ∧ i = .int .i64 k ∧ IBlk wr w.heap.size 3 u ∧ Hid (u.length = n2) ∧ Hid (∀ j, 0 ≤ u.getD j 0 ∧ u.getD j 0 ≤ k) ∧ Hid (planRun loans halls room 0 (List.replicate n2 0) plan = planRun loans halls room k u (plan.drop k)) ∧ Ext w wr) (fun i _ => n3 - (intOf i).toNat)
  case atStart => exact ⟨0, List.replicate n2 0, Nat.zero_le _, rfl, by rw [Hcells.out]; exact Blk.new _ _ _, by simp [Hid], by intro j; by_cases h : j < n2 <;> simp [h], rfl, (Ext.refl _).alloc _⟩
  case round =>
    obtain ⟨k, u, hk, rfl, hblk, hul, hub, hz, hb⟩ := hrel
    have HZ := Lib.hid hz
    clear hz
    have hgl := hblk.lt
    by_cases hlt : k < n3
    · obtain ⟨b, off, l, rfl, hbs, hlk, h0, h1, h2, h3⟩ := GLoan.at_ (hx0.keep hb) hlt
      obtain ⟨b3, off3, x, rfl, hbs3, hxk, p0⟩ := ienc_at (hx3.keep hb) hlt
      have HL := Lib.hid (getD_of (d := ⟨0, 0, 0, 0⟩) hlk)
      have HX := Lib.hid (drop_cons hxk)
      clear hxk hlk
      have HB := Lib.hid hb
      have HBk := Lib.hid hblk
      clear hblk hb
      cases hin : inB x 0 ((n2 : Int) - 1)
      · have cB : ∀ w, Calls Try.prog 81 #[.int .i64 x, .int .i64 0, .int .i64 ((n2 : Int) - 1)] w fun e w' => e = .returned (.bool false) ∧ w = w' := fun w => by have := impl_between x 0 ((n2 : Int) - 1) w; rwa [hin] at this
        have Hin := Lib.hid hin
        clear hin
        go_wp2_with fail
        (refine wp_region_ext (by kernel_rfl) (by kernel_rfl) ?_; (repeat (go_big_quiet_step (first | (go_at_call 81; with_reducible exact Calls.rg0 (cB _))))); refine wpQuiet_nil ?_)
        intro w1 hb1
        go_wp2_with fail
        go_ret
        exact ⟨ret_bool (by unfold planOkB; rw [hl1.out, hl3.out, HZ.out.out, HX.out, hl0.out, hv'.out]; simp [planRun, badAt, hl1.out, Hin.out]), HB.out.trans hb1⟩
      · have hx : 0 ≤ x ∧ x ≤ (n2 : Int) - 1 := by simpa [inB] using hin
        obtain ⟨m, rfl⟩ := Int.eq_ofNat_of_zero_le hx.1
        obtain ⟨-, hm⟩ := hx
        have hm' : m < n2 := by omega
        obtain ⟨b1, off1, c, rfl, hbs1, hck, q0, q1, q2⟩ := GClimate.at_ (hx1.keep HB.out) hm'
        obtain ⟨b2, off2, y, rfl, hbs2, hyk, r0⟩ := ienc_at (hx2.keep HB.out) hm'
        have HC := Lib.hid (getD_of (d := ⟨0, 0, 0⟩) hck)
        have HY := Lib.hid (getD_of (d := (0 : Int)) hyk)
        clear hck hyk
        have cB : ∀ w, Calls Try.prog 81 #[.int .i64 m, .int .i64 0, .int .i64 ((n2 : Int) - 1)] w fun e w' => e = .returned (.bool true) ∧ w = w' := fun w => by have := impl_between m 0 ((n2 : Int) - 1) w; rwa [hin] at this
        have Hin := Lib.hid hin
        have e0 := cell_regrown h0
        have e1 := cell_regrown h1
        have e2 := cell_regrown h2
        have e3 := cell_regrown h3
        have e4 := cell_regrown q0
        have e5 := cell_regrown q1
        have e6 := cell_regrown q2
        have cR := impl_Breaches l c
        clear hin
        cases hbr : (breach l c != 0)
        case true =>
          have hbad : Hid (badAt loans halls k (m : Int) = true) := by unfold Hid badAt; rw [hl1.out, Hin.out]; simp only [Int.toNat_natCast]; rw [HL.out, HC.out, hbr]; rfl
          go_wp2_with fail
          (refine wp_region_ext (by kernel_rfl) (by kernel_rfl) ?_; (repeat (go_big_quiet_step (first | (go_at_call 81; with_reducible exact Calls.rg0 (cB _)) | (go_at_call 22; with_reducible exact Calls.rg (cR _))))); refine wpQuiet_nil ?_)
          intro w1 hb1
          go_wp2_with fail
          go_ret
          exact ⟨ret_bool (by unfold planOkB; rw [hl1.out, hl3.out, HZ.out.out, HX.out, planRun, hbad.out]; simp), HB.out.trans hb1⟩
        case false =>
          have hbad : Hid (badAt loans halls k (m : Int) = false) := by unfold Hid badAt; rw [hl1.out, Hin.out]; simp only [Int.toNat_natCast]; rw [HL.out, HC.out, hbr]; rfl
          go_wp2_with fail
          (refine wp_region_ext (by kernel_rfl) (by kernel_rfl) ?_; (repeat (go_big_quiet_step (first | (go_at_call 81; with_reducible exact Calls.rg0 (cB _)) | (go_at_call 22; with_reducible exact Calls.rg (cR _))))); refine wpQuiet_nil ?_)
          intro w1 hb1
          clear h0 h1 h2 h3 q0 q1 q2 e0 e1 e2 e3 e4 e5 e6 cR cB p0 r0 hbr
          have hbk1 := HBk.out.keep hb1
          have s0 := hbk1.cell (i := m) (by rw [hul.out]; exact hm')
          have s1 := hbk1.free m
          have HB1 := Lib.hid (HB.out.trans hb1)
          have HBk1 := Lib.hid hbk1
          clear hb1 hbk1
          obtain ⟨v, hv⟩ : ∃ v, v = u.getD m 0 := ⟨_, rfl⟩
          rw [← hv] at s0
          have hvb := hub.out m
          rw [← hv] at hvb
          obtain ⟨hv0, hv1⟩ := hvb
          have HV := Lib.hid hv
          clear hv
          go_wp2_with fail
          obtain ⟨w2, hw2⟩ : ∃ w2, w2 = w1.setCell ⟨w.heap.size, m, none⟩ (.int .i64 (v + 1)) := ⟨_, rfl⟩
          rw [← hw2]
          have HB2 : Hid (Ext w w2) := by unfold Hid; rw [hw2]; exact HB1.out.setCell (Nat.le_refl _) _
          have hI : (u.set m (v + 1)) = inc u m := by unfold inc; rw [HV.out]
          have HI : Hid (IBlk w2 w.heap.size 3 (inc u m)) := by unfold Hid; rw [hw2, ← hI]; exact HBk1.out.set m (v + 1)
          have HIL : Hid ((inc u m).length = n2) := by unfold Hid; rw [inc_len]; exact hul.out
          have HG : Hid ((inc u m).getD m 0 = v + 1) := by unfold Hid; rw [inc_get u m m (by rw [hul.out]; exact hm'), if_pos rfl, HV.out]
          have s2 := HI.out.cell (i := m) (by rw [HIL.out]; exact hm')
          rw [HG.out] at s2
          clear hI hw2 s0 s1
          obtain ⟨b2', off2', y', hA, hbs2', hyk', r0⟩ := ienc_at (hx2.keep HB2.out) hm'
          simp only [Option.some.injEq, Addr.mk.injEq, and_true] at hA
          obtain ⟨rfl, rfl⟩ := hA
          obtain rfl : y' = y := by rw [← HY.out]; simp [hyk']
          clear hyk'
          by_cases hgt : y' < v + 1
          · go_quiet (fail)
            go_wp2_with fail
            go_ret
            exact ⟨ret_bool (by unfold planOkB; rw [hl1.out, hl3.out, HZ.out.out, HX.out, planRun, hbad.out]; simp only [Int.toNat_natCast, Bool.false_eq_true, if_false]; rw [HY.out, HG.out, if_pos hgt]; simp), HB2.out.drewN _⟩
          · go_quiet (fail)
            go_wp2_with fail
            go_roundw
            case rel =>
              refine ⟨k + 1, inc u m, by omega, by go_num, HI.out, HIL.out, ?_, ?_, HB2.out.drewN _⟩
              · intro j
                have := hub.out j
                rw [inc_get u m j (by rw [hul.out]; exact hm')]
                split
                · rw [← HV.out]; push_cast; omega
                · push_cast; omega
              · unfold Hid
                rw [HZ.out.out, HX.out, planRun, hbad.out]; simp only [Int.toNat_natCast, Bool.false_eq_true, if_false]; rw [HY.out, HG.out, if_neg hgt]
            case measure => simp [intOf]; omega
    · obtain rfl : k = n3 := by omega
      go_wp2_with fail
      go_ret
      exact ⟨ret_bool (by unfold planOkB; rw [hl1.out, hl3.out, HZ.out.out, drop_nil (by rw [hl3.out]; omega), hl0.out, hv'.out]; simp [planRun]), hb⟩
def planOkS (loans : List GLoan) (halls : List GClimate) (room plan : List Int) : Bool := sizesOkB loans.length halls.length room && decide (plan.length = loans.length) && (match planRunS loans halls 0 (List.replicate halls.length 0) plan with | none => false | some v => fits room v halls.length)
set_option maxRecDepth 100000 in
set_option maxHeartbeats 2000000 in
theorem spec_PlanOk (A0 : Option Addr) (n0 c0 : Nat) (loans : List GLoan) (A1 : Option Addr) (n1 c1 : Nat) (halls : List GClimate) (A2 : Option Addr) (n2 c2 : Nat) (room : List Int) (A3 : Option Addr) (n3 c3 : Nat) (plan : List Int) (w : World)
    (hx0 : Rd w 4 A0 n0 (loans.flatMap GLoan.enc)) (hx1 : Rd w 3 A1 n1 (halls.flatMap GClimate.enc)) (hx2 : Rd w 1 A2 n2 (room.flatMap ienc)) (hx3 : Rd w 1 A3 n3 (plan.flatMap ienc)) :
    Calls Try.prog 51 #[.slice A0 n0 c0, .slice A1 n1 c1, .slice A2 n2 c2, .slice A3 n3 c3] w fun e w' => e = .returned (.bool (planOkS loans halls room plan)) ∧ Ext w w' := by
  have hn0 := hx0.2.1
  have hn1 := hx1.2.1
  have hn2 := hx2.2.1
  have hn3 := hx3.2.1
  have hl0 := Lib.hid (hx0.len GLoan.len (by omega))
  have hl1 := Lib.hid (hx1.len GClimate.len (by omega))
  have hl2 := Lib.hid (hx2.len ienc_len (by omega))
  have hl3 := Lib.hid (hx3.len ienc_len (by omega))
  cases hv : sizesOkB n0 n1 room
  case false =>
    go_enter Try.func51, Try.ntmps51
    go_wp2_with (go_at_call 99; refine (spec_l34Valid _ _ _ _ _ _ _ _ _ room _ hx2 hn0 hn1).mono ?_; rintro e w1 ⟨he, rfl⟩; rw [hv] at he; subst he)
    go_ret
    exact ⟨ret_bool (by unfold planOkS; rw [hl0.out, hl1.out, hv]; rfl), Ext.refl _⟩
  obtain ⟨g0, g1, g2, g3, g4⟩ := sizesOkB_spec hv
  rw [hl2.out] at g3
  subst g3
  by_cases hp : n3 = n0
  case neg =>
    have b2 : ((n3 : Int) != (n0 : Int)) = true := by rw [bne_iff_ne]; omega
    go_enter Try.func51, Try.ntmps51
    go_wp2_with (go_at_call 99; refine (spec_l34Valid _ _ _ _ _ _ _ _ _ room _ hx2 hn0 hn1).mono ?_; rintro e w1 ⟨he, rfl⟩; rw [hv] at he; subst he)
    go_ret
    exact ⟨ret_bool (by unfold planOkS; rw [hl0.out, hl3.out, decide_eq_false hp]; simp), Ext.refl _⟩
  subst hp
  have hv' := Lib.hid hv
  obtain ⟨cells, hcells⟩ : ∃ cells, cells = ((List.replicate n2 (0 : Int)).map (Value.int .i64)).toArray := ⟨_, rfl⟩
  have hmk := mk_ints n2 (by omega)
  rw [← hcells] at hmk
  have Hcells := Lib.hid hcells
  have G4 := Lib.hid g4
  clear hcells g4
  go_enter Try.func51, Try.ntmps51
  go_wp2_with (go_at_call 99; refine (spec_l34Valid _ _ _ _ _ _ _ _ _ room _ hx2 hn0 hn1).mono ?_; rintro e w1 ⟨he, rfl⟩; rw [hv] at he; subst he)
  clear hv hmk
  go_loopw [10] (fun i wr => ∃ (k : Nat) (u : List Int), k ≤ n3 ∧ i = .int .i64 k ∧ IBlk wr w.heap.size 3 u ∧ Hid (u.length = n2) ∧ Hid (∀ j, 0 ≤ u.getD j 0 ∧ u.getD j 0 ≤ k) ∧ Hid (planRunS loans halls 0 (List.replicate n2 0) plan = planRunS loans halls k u (plan.drop k)) ∧ Ext w wr) (fun i _ => n3 - (intOf i).toNat)
  case atStart => exact ⟨0, List.replicate n2 0, Nat.zero_le _, rfl, by rw [Hcells.out]; exact Blk.new _ _ _, by simp [Hid], by intro j; by_cases h : j < n2 <;> simp [h], rfl, (Ext.refl _).alloc _⟩
  case round =>
    obtain ⟨k, u, hk, rfl, hblk, hul, hub, hz, hb⟩ := hrel
    have HZ := Lib.hid hz
    clear hz
    have hgl := hblk.lt
    by_cases hlt : k < n3
    · obtain ⟨b, off, l, rfl, hbs, hlk, h0, h1, h2, h3⟩ := GLoan.at_ (hx0.keep hb) hlt
      obtain ⟨b3, off3, x, rfl, hbs3, hxk, p0⟩ := ienc_at (hx3.keep hb) hlt
      have HL := Lib.hid (getD_of (d := ⟨0, 0, 0, 0⟩) hlk)
      have HX := Lib.hid (drop_cons hxk)
      clear hxk hlk
      have HB := Lib.hid hb
      have HBk := Lib.hid hblk
      clear hblk hb
      have e7 := cell_regrown p0
      cases hin : inB x 0 ((n2 : Int) - 1)
      · have cB : ∀ w, Calls Try.prog 83 #[.int .i64 x, .int .i64 0, .int .i64 ((n2 : Int) - 1)] w fun e w' => e = .returned (.bool false) ∧ w = w' := fun w => by have := spec_l01In x 0 ((n2 : Int) - 1) w; rwa [hin] at this
        have Hin := Lib.hid hin
        clear hin
        go_wp2_with fail
        (refine wp_region_ext (by kernel_rfl) (by kernel_rfl) ?_; (repeat (go_big_quiet_step (first | (go_at_call 83; with_reducible exact Calls.rg0 (cB _))))); refine wpQuiet_nil ?_)
        intro w1 hb1
        go_wp2_with fail
        go_ret
        exact ⟨ret_bool (by unfold planOkS; rw [hl1.out, hl3.out, HZ.out.out, HX.out, hl0.out, hv'.out]; simp [planRunS, badAt, hl1.out, Hin.out]), HB.out.trans hb1⟩
      · have hx : 0 ≤ x ∧ x ≤ (n2 : Int) - 1 := by simpa [inB] using hin
        obtain ⟨m, rfl⟩ := Int.eq_ofNat_of_zero_le hx.1
        obtain ⟨-, hm⟩ := hx
        have hm' : m < n2 := by omega
        obtain ⟨b1, off1, c, rfl, hbs1, hck, q0, q1, q2⟩ := GClimate.at_ (hx1.keep HB.out) hm'
        obtain ⟨b2, off2, y, rfl, hbs2, hyk, r0⟩ := ienc_at (hx2.keep HB.out) hm'
        have HC := Lib.hid (getD_of (d := ⟨0, 0, 0⟩) hck)
        have HY := Lib.hid (getD_of (d := (0 : Int)) hyk)
        clear hck hyk
        have cB : ∀ w, Calls Try.prog 83 #[.int .i64 m, .int .i64 0, .int .i64 ((n2 : Int) - 1)] w fun e w' => e = .returned (.bool true) ∧ w = w' := fun w => by have := spec_l01In m 0 ((n2 : Int) - 1) w; rwa [hin] at this
        have Hin := Lib.hid hin
        have e0 := cell_regrown h0
        have e1 := cell_regrown h1
        have e2 := cell_regrown h2
        have e3 := cell_regrown h3
        have e4 := cell_regrown q0
        have e5 := cell_regrown q1
        have e6 := cell_regrown q2
        have cR := spec_Breaches l c
        clear hin
        cases hbr : (breach l c != 0)
        case true =>
          have hbad : Hid (badAt loans halls k (m : Int) = true) := by unfold Hid badAt; rw [hl1.out, Hin.out]; simp only [Int.toNat_natCast]; rw [HL.out, HC.out, hbr]; rfl
          go_wp2_with fail
          (refine wp_region_ext (by kernel_rfl) (by kernel_rfl) ?_; (repeat (go_big_quiet_step (first | (go_at_call 83; with_reducible exact Calls.rg0 (cB _)) | (go_at_call 88; with_reducible exact Calls.rg (cR _))))); refine wpQuiet_nil ?_)
          intro w1 hb1
          go_wp2_with fail
          go_ret
          exact ⟨ret_bool (by unfold planOkS; rw [hl1.out, hl3.out, HZ.out.out, HX.out, planRunS, hbad.out]; simp), HB.out.trans hb1⟩
        case false =>
          have hbad : Hid (badAt loans halls k (m : Int) = false) := by unfold Hid badAt; rw [hl1.out, Hin.out]; simp only [Int.toNat_natCast]; rw [HL.out, HC.out, hbr]; rfl
          go_wp2_with fail
          (refine wp_region_ext (by kernel_rfl) (by kernel_rfl) ?_; (repeat (go_big_quiet_step (first | (go_at_call 83; with_reducible exact Calls.rg0 (cB _)) | (go_at_call 88; with_reducible exact Calls.rg (cR _))))); refine wpQuiet_nil ?_)
          intro w1 hb1
          clear h0 h1 h2 h3 q0 q1 q2 e0 e1 e2 e3 e4 e5 e6 e7 cR cB p0 r0 hbr
          have hbk1 := HBk.out.keep hb1
          have s0 := hbk1.cell (i := m) (by rw [hul.out]; exact hm')
          have s1 := hbk1.free m
          have HB1 := Lib.hid (HB.out.trans hb1)
          have HBk1 := Lib.hid hbk1
          clear hb1 hbk1
          obtain ⟨v, hv⟩ : ∃ v, v = u.getD m 0 := ⟨_, rfl⟩
          rw [← hv] at s0
          have hvb := hub.out m
          rw [← hv] at hvb
          obtain ⟨hv0, hv1⟩ := hvb
          have HV := Lib.hid hv
          clear hv
          have z0 := hx3.keep HB1.out
          obtain ⟨b3', off3', x', hA, hbs3', hxk', p0⟩ := ienc_at z0 hlt
          simp only [Option.some.injEq, Addr.mk.injEq, and_true] at hA
          obtain ⟨rfl, rfl⟩ := hA
          obtain rfl : x' = (m : Int) := by have := drop_cons hxk'; rw [HX.out] at this; simpa using this.symm
          clear hxk' z0
          have HB2 : Hid (Ext w (w1.setCell ⟨w.heap.size, m, none⟩ (.int .i64 (v + 1))).drew) := (HB1.out.setCell (Nat.le_refl _) _).drew
          have HI : Hid (IBlk (w1.setCell ⟨w.heap.size, m, none⟩ (.int .i64 (v + 1))).drew w.heap.size 3 (inc u m)) := by
            have := HBk1.out.set m (v + 1)
            unfold Hid inc
            rw [← HV.out]; exact this
          have HIL : Hid ((inc u m).length = n2) := by unfold Hid; rw [inc_len]; exact hul.out
          go_wp2_with fail
          go_still_tail 14, (by kernel_rfl)
          go_wp2_with fail
          go_roundw
          case rel =>
            refine ⟨k + 1, inc u m, by omega, by go_num, HI.out, HIL.out, ?_, ?_, HB2.out⟩
            · intro j
              have := hub.out j
              rw [inc_get u m j (by rw [hul.out]; exact hm')]
              split
              · rw [← HV.out]; push_cast; omega
              · push_cast; omega
            · unfold Hid
              rw [HZ.out.out, HX.out, planRunS, hbad.out]; simp
          case measure => simp [intOf]; omega
    · obtain rfl : k = n3 := by omega
      have HR : Hid (planOkS loans halls room plan = fits room u n2) := by
        unfold Hid planOkS; rw [hl1.out, hl3.out, HZ.out.out, drop_nil (by rw [hl3.out]; omega), hl0.out, hv'.out]; simp [planRunS]
      have HB := Lib.hid hb
      have HBk := Lib.hid hblk
      clear hb hblk HZ
      go_wp2_with fail
      obtain ⟨wo, hwo⟩ : ∃ wo : World, wo = wr := ⟨_, rfl⟩
      have HBo : Hid (Ext w wo) := by unfold Hid; rw [hwo]; exact HB.out
      have HBko : Hid (IBlk wo w.heap.size 3 u) := by unfold Hid; rw [hwo]; exact HBk.out
      rw [← hwo]
      clear hwo HB HBk hgl
      go_loopw [11] (fun i wi => ∃ j : Nat, j ≤ n2 ∧ i = .int .i64 j ∧ Hid (∀ q, q < j → u.getD q 0 ≤ room.getD q 0) ∧ Ext wo wi) (fun i _ => n2 - (intOf i).toNat)
      case atStart => exact ⟨0, Nat.zero_le _, rfl, by unfold Hid; intro q hq; omega, Ext.refl _⟩
      case round =>
        obtain ⟨j, hj, rfl, hq, hbi⟩ := hrel
        by_cases hjl : j < n2
        · have hbk := HBko.out.keep hbi
          have s0 := hbk.cell (i := j) (by rw [hul.out]; exact hjl)
          obtain ⟨v, hv⟩ : ∃ v, v = u.getD j 0 := ⟨_, rfl⟩
          rw [← hv] at s0
          obtain ⟨b2, off2, y, rfl, hbs2, hyk, r0⟩ := ienc_at (hx2.keep (HBo.out.trans hbi)) hjl
          have HY := Lib.hid (getD_of (d := (0 : Int)) hyk)
          have HV := Lib.hid hv
          have HBI := Lib.hid hbi
          clear hyk hv hbk hbi
          by_cases hgt : y < v
          · go_wp2_with fail
            go_quiet (fail)
            go_wp2_with fail
            go_ret
            refine ⟨ret_bool ?_, (HBo.out.trans HBI.out).drewN _⟩
            rw [HR.out]
            unfold fits
            symm
            rw [Bool.eq_false_iff]
            intro hc
            rw [List.all_eq_true] at hc
            have := hc j (by simp; omega)
            rw [decide_eq_true_eq, ← HV.out, HY.out] at this
            omega
          · go_wp2_with fail
            go_quiet (fail)
            go_wp2_with fail
            go_roundw
            case rel =>
              refine ⟨j + 1, by omega, by go_num, ?_, HBI.out.drewN _⟩
              intro q hq1
              by_cases h : q = j
              · subst h; rw [← HV.out, HY.out]; omega
              · exact hq.out q (by omega)
            case measure => simp [intOf]; omega
        · obtain rfl : j = n2 := by omega
          go_wp2_with fail
          go_ret
          refine ⟨ret_bool ?_, HBo.out.trans hbi⟩
          rw [HR.out]
          unfold fits
          symm
          rw [List.all_eq_true]
          intro q hq1
          rw [decide_eq_true_eq]
          exact hq.out q (by simpa using hq1)
theorem planOk_eq (loans : List GLoan) (halls : List GClimate) (room plan : List Int) : planOkB loans halls room plan = planOkS loans halls room plan := by
  unfold planOkB planOkS
  cases hv : sizesOkB loans.length halls.length room with
  | false => simp
  | true =>
    obtain ⟨-, -, -, g3, g4⟩ := sizesOkB_spec hv
    have hf : fits room (List.replicate halls.length 0) halls.length = true := by
      unfold fits
      rw [List.all_eq_true]
      intro k hk
      have hk1 : k < room.length := by rw [g3]; simpa using hk
      have := g4 room[k] (List.getElem_mem hk1)
      have h2 : k < halls.length := by omega
      simp [h2, hk1]; omega
    rw [planRun_eq loans halls room plan 0 _ (by simp) hf]
    cases planRunS loans halls 0 (List.replicate halls.length 0) plan <;> rfl
theorem impl_PlanOk_s (A0 : Option Addr) (n0 c0 : Nat) (loans : List GLoan) (A1 : Option Addr) (n1 c1 : Nat) (halls : List GClimate) (A2 : Option Addr) (n2 c2 : Nat) (room : List Int) (A3 : Option Addr) (n3 c3 : Nat) (plan : List Int) (w : World)
    (hx0 : Rd w 4 A0 n0 (loans.flatMap GLoan.enc)) (hx1 : Rd w 3 A1 n1 (halls.flatMap GClimate.enc)) (hx2 : Rd w 1 A2 n2 (room.flatMap ienc)) (hx3 : Rd w 1 A3 n3 (plan.flatMap ienc)) :
    Calls Try.prog 49 #[.slice A0 n0 c0, .slice A1 n1 c1, .slice A2 n2 c2, .slice A3 n3 c3] w fun e w' => e = .returned (.bool (planOkS loans halls room plan)) ∧ Ext w w' := by
  rw [← planOk_eq]; exact impl_PlanOk A0 n0 c0 loans A1 n1 c1 halls A2 n2 c2 room A3 n3 c3 plan w hx0 hx1 hx2 hx3
end Go.Proofs.Ytlgmiifpdjalpaa
