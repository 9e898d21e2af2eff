/- Contracts of the copies of records; no condition but what stands at each theorem. -/
import Derived.Test.YtkelmeemblmggaaKM
import Derived.Test.YtkelmeemblmggaaSM2
namespace Go.Proofs.Ytkelmeemblmggaa
set_option linter.unusedSimpArgs false
set_option linter.unusedVariables false
open Go.RowKit Go.Sort
theorem one_GEntry1 (x : GEntry) : ∀ u ∈ x.enc, u.oneCell' = true := by
  intro u hu
  simp only [GEntry.enc, List.mem_cons, List.not_mem_nil, or_false] at hu
  rcases hu with rfl | rfl | rfl <;> rfl
theorem one_GEntry (xs : List GEntry) : ∀ u ∈ xs.flatMap GEntry.enc, u.oneCell' = true := by
  intro u hu
  obtain ⟨x, _, h⟩ := List.mem_flatMap.1 hu
  exact one_GEntry1 x u h
theorem one_GDoorN (xs : List GDoor) : ∀ u ∈ xs.flatMap GDoor.enc, u.oneCell' = true := by
  intro u hu
  obtain ⟨x, _, h⟩ := List.mem_flatMap.1 hu
  simp only [GDoor.enc, List.mem_cons, List.not_mem_nil, or_false] at h
  rcases h with rfl | rfl <;> rfl
theorem own_nilM {w : World} {base : Nat} {e : TypeId} {m n n' c : Nat} {A : Option Addr} {L : List Value} (h : w.ownsRow base e m (.slice A n' c) n L) : A = none → c = 0 := by
  intro hA
  rcases h.2 with ⟨hv, _⟩ | ⟨g, cap, cur, hv, _⟩
  · injection hv
  · injection hv with h1
    rw [hA] at h1
    cases h1
/-- A row that is nil has no room; rows of at most 2^20 elements. -/
structure MFit (v : MV) : Prop where
  zd : v.sd.A = none → v.sd.c = 0
  zf : v.sf.A = none → v.sf.c = 0
  zp : v.sp.A = none → v.sp.c = 0
  zg : v.sg.A = none → v.sg.c = 0
  zr : v.sr.A = none → v.sr.c = 0
  nd : v.sd.n ≤ 1048576
  nf : v.sf.n ≤ 1048576
  np : v.sp.n ≤ 1048576
  ng : v.sg.n ≤ 1048576
  nr : v.sr.n ≤ 1048576
theorem MFit.of_own {w : World} {base : Nat} {v : MV} {m : GMuseum} (h : MOwn w base v m) (hd : v.sd.n ≤ 1048576) (hf : v.sf.n ≤ 1048576) (hp : v.sp.n ≤ 1048576) (hg : v.sg.n ≤ 1048576) (hr : v.sr.n ≤ 1048576) : MFit v :=
  ⟨own_nilM h.od, own_nilM h.of_, own_nilM h.op, own_nilM h.og, own_nilM h.or_, hd, hf, hp, hg, hr⟩
/-- A copy of the museum m, in rows of the call's own. -/
def CopyPost (m : GMuseum) (w : World) (e : Ending) (w' : World) : Prop := ∃ v : MV, e = .returned v.val ∧ Ext w w' ∧ MOwn w' w.heap.size v m
theorem one_iencM (xs : List Int) : ∀ u ∈ xs.flatMap ienc, u.oneCell' = true := by
  intro u hu
  obtain ⟨x, _, h⟩ := List.mem_flatMap.1 hu
  simp only [ienc, List.mem_singleton] at h
  subst h
  rfl
theorem ei_IntN : EI Try.prog 25 3 1 := ei_of Try.underlying25 (by omega) (by kernel_rfl)
theorem spec_l35CopyN (A : Option Addr) (n c : Nat) (xs : List Int) (w : World) (hx : Rd w 1 A n (xs.flatMap ienc)) (hnc : Hid (A = none → c = 0)) (hn : n ≤ 1048576) :
    Calls Try.prog 50 #[.slice A n c] w fun e w' => ∃ g c', e = .returned (.slice (some ⟨g, 0, none⟩) n c') ∧ Ext w w' ∧ w'.ownsRow w.heap.size 3 1 (.slice (some ⟨g, 0, none⟩) n c') n (xs.flatMap ienc) := by
  have HX := Lib.hid hx
  clear hx
  go_enter Try.func50, Try.ntmps50
  go_wp2_with (at_builtin; refine (fun h : Hid _ => h.out) ?_)
  unfold Hid
  refine appendRdN ei_IntN rfl _ _ rfl w.heap.size _ _ 0 [] (by rfl) (own_empty w w.heap.size 3 1 (Nat.le_refl _)) A n c (xs.flatMap ienc) (by rfl) (HX.out.alloc _) hnc.out (one_iencM _) (by omega) (by simp) (by intro h; cases h) ?_
  intro g c' w1
  rw [Nat.zero_add, List.nil_append]
  intro ho he
  have HO1 := Lib.hid ho
  have HE1 := Lib.hid (he w ((Ext.refl w).alloc _) (Nat.le_refl _))
  clear ho he
  go_wp2_with fail
  go_ret
  exact ⟨g, c', rfl, HE1.out, HO1.out⟩
theorem ei_EntryS : EI Try.prog 26 71 3 := ei_of Try.underlying26 (by omega) (by kernel_rfl)
theorem spec_l30Copy (A : Option Addr) (n c : Nat) (xs : List GEntry) (w : World) (hx : Rd w 3 A n (xs.flatMap GEntry.enc)) (hnc : Hid (A = none → c = 0)) (hn : n ≤ 1048576) :
    Calls Try.prog 51 #[.slice A n c] w fun e w' => ∃ g c', e = .returned (.slice (some ⟨g, 0, none⟩) n c') ∧ Ext w w' ∧ w'.ownsRow w.heap.size 71 3 (.slice (some ⟨g, 0, none⟩) n c') n (xs.flatMap GEntry.enc) := by
  have HX := Lib.hid hx
  clear hx
  go_enter Try.func51, Try.ntmps51
  go_wp2_with (at_builtin; refine (fun h : Hid _ => h.out) ?_)
  unfold Hid
  refine appendRdN ei_EntryS rfl _ _ rfl w.heap.size _ _ 0 [] (by rfl) (own_empty w w.heap.size 71 3 (Nat.le_refl _)) A n c (xs.flatMap GEntry.enc) (by rfl) (HX.out.alloc _) hnc.out (one_GEntry _) (by omega) (by simp) (by intro h; cases h) ?_
  intro g c' w1
  rw [Nat.zero_add, List.nil_append]
  intro ho he
  have HO1 := Lib.hid ho
  have HE1 := Lib.hid (he w ((Ext.refl w).alloc _) (Nat.le_refl _))
  clear ho he
  go_wp2_with fail
  go_ret
  exact ⟨g, c', rfl, HE1.out, HO1.out⟩
theorem ei_EntryI : EI Try.prog 26 71 3 := ei_of Try.underlying26 (by omega) (by kernel_rfl)
theorem impl_copyRecord (A : Option Addr) (n c : Nat) (xs : List GEntry) (w : World) (hx : Rd w 3 A n (xs.flatMap GEntry.enc)) (hnc : Hid (A = none → c = 0)) (hn : n ≤ 1048576) :
    Calls Try.prog 56 #[.slice A n c] w fun e w' => ∃ g c', e = .returned (.slice (some ⟨g, 0, none⟩) n c') ∧ Ext w w' ∧ w'.ownsRow w.heap.size 71 3 (.slice (some ⟨g, 0, none⟩) n c') n (xs.flatMap GEntry.enc) := by
  have HX := Lib.hid hx
  clear hx
  go_enter Try.func56, Try.ntmps56
  go_wp2_with (at_builtin; refine (fun h : Hid _ => h.out) ?_)
  unfold Hid
  refine appendRdN ei_EntryI rfl _ _ rfl w.heap.size _ _ 0 [] (by rfl) (own_empty w w.heap.size 71 3 (Nat.le_refl _)) A n c (xs.flatMap GEntry.enc) (by rfl) (HX.out.alloc _) hnc.out (one_GEntry _) (by omega) (by simp) (by intro h; cases h) ?_
  intro g c' w1
  rw [Nat.zero_add, List.nil_append]
  intro ho he
  have HO1 := Lib.hid ho
  have HE1 := Lib.hid (he w ((Ext.refl w).alloc _) (Nat.le_refl _))
  clear ho he
  go_wp2_with fail
  go_ret
  exact ⟨g, c', rfl, HE1.out, HO1.out⟩
end Go.Proofs.Ytkelmeemblmggaa
