/- Contracts of CountPlans and FirstPlan; no condition but what stands at each theorem. -/
import Derived.Test.YtlgmiifpdjalpaaS12
namespace Go.Proofs.Ytlgmiifpdjalpaa
set_option linter.unusedSimpArgs false
set_option linter.unusedVariables false
open Go.RowKit Go.Sort
def plansAll (loans : List GLoan) (halls : List GClimate) (room : List Int) : Int × List Int := if sizesOkB loans.length halls.length room then plansF loans halls loans.length room [] else (0, [])
theorem plansAll_yes {loans : List GLoan} {halls : List GClimate} {room : List Int} (h : sizesOkB loans.length halls.length room = true) : plansAll loans halls room = plansF loans halls loans.length room [] := by unfold plansAll; rw [if_pos h]
theorem plansAll_no {loans : List GLoan} {halls : List GClimate} {room : List Int} (h : sizesOkB loans.length halls.length room = false) : plansAll loans halls room = (0, []) := by unfold plansAll; rw [h]; rfl
theorem room_bd {room : List Int} {n : Nat} (h : ∀ x ∈ room, 0 ≤ x ∧ x ≤ 6) (hl : room.length = n) : ∀ j, 0 ≤ room.getD j 0 ∧ room.getD j 0 ≤ 6 := by
  intro j
  by_cases hj : j < room.length
  · have := h room[j] (List.getElem_mem hj)
    simpa [hj] using this
  · simp [hj]
set_option maxRecDepth 100000 in
set_option maxHeartbeats 1000000 in
theorem impl_allPlans (A0 : Option Addr) (n0 c0 : Nat) (loans : List GLoan) (A1 : Option Addr) (n1 c1 : Nat) (halls : List GClimate) (A2 : Option Addr) (n2 c2 : Nat) (room : List Int) (w : World)
    (hx0 : Rd w 4 A0 n0 (loans.flatMap GLoan.enc)) (hx1 : Rd w 3 A1 n1 (halls.flatMap GClimate.enc)) (hx2 : Rd w 1 A2 n2 (room.flatMap ienc)) (hnc : Hid (A2 = none → c2 = 0)) :
    Calls Try.prog 95 #[.slice A0 n0 c0, .slice A1 n1 c1, .slice A2 n2 c2] w (PlansPost (plansAll loans halls room) w) := by
  have hn0 := hx0.2.1
  have hn1 := hx1.2.1
  have hl0 := hx0.len GLoan.len (by omega)
  have hl1 := hx1.len GClimate.len (by omega)
  have hl2 := hx2.len ienc_len (by omega)
  cases hv : sizesOkB n0 n1 room
  case false =>
    have hP : plansAll loans halls room = (0, []) := plansAll_no (by rw [hl0, hl1]; exact hv)
    rw [hP]
    have HL := Lib.hid (And.intro hl0 (And.intro hl1 hl2))
    clear hl0 hl1 hl2 hP
    go_enter Try.func95, Try.ntmps95
    go_wp2_with (go_at_call 96; refine (impl_sizesOk _ _ _ _ _ _ _ _ _ room _ hx2 hn0 hn1).mono ?_; rintro e w1 ⟨he, rfl⟩; rw [hv] at he; subst he)
    go_ret2
    exact ⟨_, rfl, Ext.refl _, World.ownsRow_nil _ _ _ _⟩
  obtain ⟨g0, g1, g2, g3, g4⟩ := sizesOkB_spec hv
  rw [hl2] at g3
  subst g3
  have hP : plansAll loans halls room = plansF loans halls n0 room [] := by rw [plansAll_yes (by rw [hl0, hl1]; exact hv), hl0]
  rw [hP]
  have HB := Lib.hid (room_bd g4 hl2)
  have HL2 := Lib.hid hl2
  have HE := Lib.hid (own_empty w w.heap.size 3 1 (Nat.le_refl _))
  have HX2 := Lib.hid (hx2.alloc (.cells #[] 3))
  have HEx := Lib.hid ((Ext.refl w).alloc (.cells #[] 3))
  have HV := Lib.hid hv
  clear hl0 hl1 hl2 hP g4
  go_enter Try.func95, Try.ntmps95
  go_wp2_with (first
    | (go_at_call 96; refine (impl_sizesOk _ _ _ _ _ _ _ _ _ room _ hx2 hn0 hn1).mono ?_; rintro e w1 ⟨he, rfl⟩; rw [HV.out] at he; subst he; clear hv)
    | (at_builtin; refine (fun h : Hid _ => h.out) ?_))
  unfold Hid
  refine appendRd ei_int rfl _ _ rfl w.heap.size _ _ 0 [] (by rfl) HE.out A2 n2 c2 (room.flatMap ienc) (by rfl) HX2.out hnc.out (one_ienc _) (by omega) (by simp) ?_
  intro vl w2 hol hel
  obtain ⟨Al, cl, rfl, hncl⟩ := own_form hol
  rw [Nat.zero_add, List.nil_append] at hol
  obtain ⟨gl, rfl, hgl, hbkl⟩ := PBlk.of_own hol g1
  have hel2 := hel w HEx.out (Nat.le_refl _)
  have hcall := impl_plans loans halls A0 n0 c0 A1 n2 c1 gl cl g0 g2 n0 room [] none 0 0 w2 (by omega) HB HL2 hbkl (hx0.keep hel2) (hx1.keep hel2) (Rd.nil _ _) (by unfold Hid; intro; rfl)
    (by unfold Hid; intro hn b off hA; obtain ⟨b', off', h1, h2, -⟩ := hx0.2.2 hn; rw [hA] at h1; injection h1 with h1; injection h1 with h1; omega)
    (by unfold Hid; intro hn b off hA; obtain ⟨b', off', h1, h2, -⟩ := hx1.2.2 hn; rw [hA] at h1; injection h1 with h1; injection h1 with h1; omega)
    (by unfold Hid; intro _ b off hA; cases hA) (by omega) (Nat.le_refl _)
  have HCall := Lib.hid hcall
  have Hel2 := Lib.hid hel2
  have hs := hel2.size
  clear hcall hel2 hel hol hbkl
  go_wp2_with fail
  refine HCall.out.mono ?_
  rintro e w3 ⟨v3, rfl, he3, ho3⟩
  go_wp2_with fail
  go_ret2
  exact ⟨v3, rfl, Hel2.out.trans he3, own_weak ho3 (by omega)⟩
theorem impl_CountPlans (A0 : Option Addr) (n0 c0 : Nat) (loans : List GLoan) (A1 : Option Addr) (n1 c1 : Nat) (halls : List GClimate) (A2 : Option Addr) (n2 c2 : Nat) (room : List Int) (w : World)
    (hx0 : Rd w 4 A0 n0 (loans.flatMap GLoan.enc)) (hx1 : Rd w 3 A1 n1 (halls.flatMap GClimate.enc)) (hx2 : Rd w 1 A2 n2 (room.flatMap ienc)) (hnc : Hid (A2 = none → c2 = 0)) :
    Calls Try.prog 47 #[.slice A0 n0 c0, .slice A1 n1 c1, .slice A2 n2 c2] w fun e w' => e = .returned (.int .i64 (plansAll loans halls room).1) ∧ Ext w w' := by
  go_enter Try.func47, Try.ntmps47
  go_wp2_with fail
  refine (impl_allPlans _ _ _ loans _ _ _ halls _ _ _ room _ hx0 hx1 hx2 hnc).mono ?_
  rintro e w1 ⟨v, rfl, he, ho⟩
  go_wp2_with fail
  go_ret
  exact ⟨rfl, he⟩
/-- A list and a bool have been told. -/
def ListBool (L : List Int) (b : Bool) (w : World) (e : Ending) (w' : World) : Prop := ∃ v, e = .returned (.tuple #[v, .bool b]) ∧ Ext w w' ∧ w'.ownsRow w.heap.size 3 1 v L.length (L.flatMap ienc)
theorem impl_FirstPlan (A0 : Option Addr) (n0 c0 : Nat) (loans : List GLoan) (A1 : Option Addr) (n1 c1 : Nat) (halls : List GClimate) (A2 : Option Addr) (n2 c2 : Nat) (room : List Int) (w : World)
    (hx0 : Rd w 4 A0 n0 (loans.flatMap GLoan.enc)) (hx1 : Rd w 3 A1 n1 (halls.flatMap GClimate.enc)) (hx2 : Rd w 1 A2 n2 (room.flatMap ienc)) (hnc : Hid (A2 = none → c2 = 0)) :
    Calls Try.prog 46 #[.slice A0 n0 c0, .slice A1 n1 c1, .slice A2 n2 c2] w (ListBool (plansAll loans halls room).2 (decide (0 < (plansAll loans halls room).1)) w) := by
  go_enter Try.func46, Try.ntmps46
  go_wp2_with fail
  refine (impl_allPlans _ _ _ loans _ _ _ halls _ _ _ room _ hx0 hx1 hx2 hnc).mono ?_
  rintro e w1 ⟨v, rfl, he, ho⟩
  go_wp2_with fail
  go_ret2
  exact ⟨v, rfl, he, ho⟩
theorem spec_CountPlans (A0 : Option Addr) (n0 c0 : Nat) (loans : List GLoan) (A1 : Option Addr) (n1 c1 : Nat) (halls : List GClimate) (A2 : Option Addr) (n2 c2 : Nat) (room : List Int) (w : World)
    (hx0 : Rd w 4 A0 n0 (loans.flatMap GLoan.enc)) (hx1 : Rd w 3 A1 n1 (halls.flatMap GClimate.enc)) (hx2 : Rd w 1 A2 n2 (room.flatMap ienc)) (hnc : Hid (A2 = none → c2 = 0)) :
    Calls Try.prog 55 #[.slice A0 n0 c0, .slice A1 n1 c1, .slice A2 n2 c2] w fun e w' => e = .returned (.int .i64 (plansAll loans halls room).1) ∧ Ext w w' := by
  have hn0 := hx0.2.1
  have hn1 := hx1.2.1
  have hl0 := hx0.len GLoan.len (by omega)
  have hl1 := hx1.len GClimate.len (by omega)
  have hl2 := hx2.len ienc_len (by omega)
  cases hv : sizesOkB n0 n1 room
  case false =>
    have hP : plansAll loans halls room = (0, []) := plansAll_no (by rw [hl0, hl1]; exact hv)
    rw [hP]
    have HL := Lib.hid (And.intro hl0 (And.intro hl1 hl2))
    clear hl0 hl1 hl2 hP
    go_enter Try.func55, Try.ntmps55
    go_wp2_with (go_at_call 99; refine (spec_l34Valid _ _ _ _ _ _ _ _ _ room _ hx2 hn0 hn1).mono ?_; rintro e w1 ⟨he, rfl⟩; rw [hv] at he; subst he)
    go_ret
    exact ⟨rfl, Ext.refl _⟩
  obtain ⟨g0, g1, g2, g3, g4⟩ := sizesOkB_spec hv
  rw [hl2] at g3
  subst g3
  have hP : plansAll loans halls room = plansF loans halls n0 room [] := by rw [plansAll_yes (by rw [hl0, hl1]; exact hv), hl0]
  rw [hP]
  have HEx := (Ext.refl w).alloc (.cells #[] 3)
  have HCall := Lib.hid (spec_l34Count loans halls A0 n0 c0 A1 n2 c1 g0 g1 g2 n0 room [] A2 c2 (some ⟨w.heap.size, 0, none⟩) 0 0 _ (by omega) (Lib.hid (room_bd g4 hl2)) (Lib.hid hl2) (hx0.keep HEx) (hx1.keep HEx) (hx2.keep HEx) (Rd.of_own (own_empty w w.heap.size 3 1 (Nat.le_refl _))) hnc (by unfold Hid; intro h; cases h))
  have HE := Lib.hid HEx
  have HV := Lib.hid hv
  clear hl0 hl1 hl2 hP g4 HEx
  go_enter Try.func55, Try.ntmps55
  go_wp2_with (first
    | (go_at_call 99; refine (spec_l34Valid _ _ _ _ _ _ _ _ _ room _ hx2 hn0 hn1).mono ?_; rintro e w1 ⟨he, rfl⟩; rw [HV.out] at he; subst he; clear hv)
    | (go_at_call 101; refine HCall.out.mono ?_; rintro e w3 ⟨v3, rfl, he3, ho3⟩; have He3 := Lib.hid he3; clear he3 ho3))
  go_ret
  exact ⟨rfl, HE.out.trans He3.out⟩
theorem spec_FirstPlan (A0 : Option Addr) (n0 c0 : Nat) (loans : List GLoan) (A1 : Option Addr) (n1 c1 : Nat) (halls : List GClimate) (A2 : Option Addr) (n2 c2 : Nat) (room : List Int) (w : World)
    (hx0 : Rd w 4 A0 n0 (loans.flatMap GLoan.enc)) (hx1 : Rd w 3 A1 n1 (halls.flatMap GClimate.enc)) (hx2 : Rd w 1 A2 n2 (room.flatMap ienc)) (hnc : Hid (A2 = none → c2 = 0)) :
    Calls Try.prog 56 #[.slice A0 n0 c0, .slice A1 n1 c1, .slice A2 n2 c2] w (ListBool (plansAll loans halls room).2 (decide (0 < (plansAll loans halls room).1)) w) := by
  have hn0 := hx0.2.1
  have hn1 := hx1.2.1
  have hl0 := hx0.len GLoan.len (by omega)
  have hl1 := hx1.len GClimate.len (by omega)
  have hl2 := hx2.len ienc_len (by omega)
  cases hv : sizesOkB n0 n1 room
  case false =>
    have hP : plansAll loans halls room = (0, []) := plansAll_no (by rw [hl0, hl1]; exact hv)
    rw [hP]
    have HL := Lib.hid (And.intro hl0 (And.intro hl1 hl2))
    clear hl0 hl1 hl2 hP
    go_enter Try.func56, Try.ntmps56
    go_wp2_with (go_at_call 99; refine (spec_l34Valid _ _ _ _ _ _ _ _ _ room _ hx2 hn0 hn1).mono ?_; rintro e w1 ⟨he, rfl⟩; rw [hv] at he; subst he)
    go_ret2
    exact ⟨_, rfl, (Ext.refl _).alloc _, own_empty w w.heap.size 3 1 (Nat.le_refl _)⟩
  obtain ⟨g0, g1, g2, g3, g4⟩ := sizesOkB_spec hv
  rw [hl2] at g3
  subst g3
  have hP : plansAll loans halls room = plansF loans halls n0 room [] := by rw [plansAll_yes (by rw [hl0, hl1]; exact hv), hl0]
  rw [hP]
  have HEx := (Ext.refl w).alloc (.cells #[] 3)
  have HCall := Lib.hid (spec_l34Count loans halls A0 n0 c0 A1 n2 c1 g0 g1 g2 n0 room [] A2 c2 (some ⟨w.heap.size, 0, none⟩) 0 0 _ (by omega) (Lib.hid (room_bd g4 hl2)) (Lib.hid hl2) (hx0.keep HEx) (hx1.keep HEx) (hx2.keep HEx) (Rd.of_own (own_empty w w.heap.size 3 1 (Nat.le_refl _))) hnc (by unfold Hid; intro h; cases h))
  have HE := Lib.hid HEx
  have HV := Lib.hid hv
  clear hl0 hl1 hl2 hP g4 HEx
  go_enter Try.func56, Try.ntmps56
  go_wp2_with (first
    | (go_at_call 99; refine (spec_l34Valid _ _ _ _ _ _ _ _ _ room _ hx2 hn0 hn1).mono ?_; rintro e w1 ⟨he, rfl⟩; rw [HV.out] at he; subst he; clear hv)
    | (go_at_call 101; refine HCall.out.mono ?_; rintro e w3 ⟨v3, rfl, he3, ho3⟩; have He3 := Lib.hid he3; have Ho3 := Lib.hid ho3; clear he3 ho3))
  go_ret2
  exact ⟨v3, rfl, HE.out.trans He3.out, own_weak Ho3.out (by simp)⟩
end Go.Proofs.Ytlgmiifpdjalpaa
