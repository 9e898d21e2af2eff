/- Contracts of the laws' helpers on museums: sizes, copies, comparisons; no condition but what stands at each theorem. -/
import Derived.Test.YtkelmeemblmggaaH4
namespace Go.Proofs.Ytkelmeemblmggaa
set_option linter.unusedSimpArgs false
set_option linter.unusedVariables false
open Go.RowKit Go.Sort
/-- Two rows of one's own do not share a block. -/
def Apart (a b : Value) : Prop := ∀ g, a.ownBlock = some g → b.ownBlock ≠ some g
theorem Apart.of_at {a b : Value} {l1 h1 l2 h2 : Nat} (ha : At l1 h1 a) (hb : At l2 h2 b) (hd : h1 ≤ l2 ∨ h2 ≤ l1) : Apart a b := by
  intro g h k
  have p := ha g h
  have q := hb g k
  omega
theorem Apart.symm {a b : Value} (h : Apart a b) : Apart b a := fun g k l => h g l k
theorem own_apart {w w' : World} {base : Nat} {e : TypeId} {m n : Nat} {v v' : Value} {L : List Value} (h : w.ownsRow base e m v n L) (a : Apart v v') (hg : w.grownBy w' v'.ownBlock) : w'.ownsRow base e m v n L := by
  refine h.kept hg ?_
  cases hv : v.ownBlock with
  | none => exact .inl rfl
  | some g => exact .inr fun e => a g hv e.symm
theorem ext_apart {a w w' : World} {v : Value} {base : Nat} {e : TypeId} {m n : Nat} {L : List Value} (h : Ext a w) (ho : w.ownsRow base e m v n L) (hl : a.heap.size ≤ base) (hg : w.grownBy w' v.ownBlock) : Ext a w' :=
  h.grown hg fun k hk => Nat.le_trans hl (ho.lt k hk).1
theorem apart5 {d f p g r : Value} (a1 : Apart d f) (a2 : Apart d p) (a3 : Apart d g) (a4 : Apart d r) (a5 : Apart f p) (a6 : Apart f g) (a7 : Apart f r) (a8 : Apart p g) (a9 : Apart p r) (a10 : Apart g r) : List.Pairwise Apart [d, f, p, g, r] := by
  refine .cons ?_ (.cons ?_ (.cons ?_ (.cons ?_ (.cons ?_ .nil))))
  all_goals intro x hx
  all_goals simp only [List.mem_cons, List.not_mem_nil, or_false] at hx
  · rcases hx with rfl | rfl | rfl | rfl <;> assumption
  · rcases hx with rfl | rfl | rfl <;> assumption
  · rcases hx with rfl | rfl <;> assumption
  · subst hx; assumption
def SL.v (s : SL) : Value := .slice s.A s.n s.c
/-- The value v, all of whose rows the call made itself, in blocks of their own, reads as the museum m. -/
structure MOwn (w : World) (base : Nat) (v : MV) (m : GMuseum) : Prop where
  eH : v.H = m.H
  ed : v.d = m.d
  od : w.ownsRow base 56 2 v.sd.v v.sd.n (m.ds.flatMap GDoor.enc)
  of_ : w.ownsRow base 3 1 v.sf.v v.sf.n (m.fs.flatMap ienc)
  op : w.ownsRow base 3 1 v.sp.v v.sp.n (m.ps.flatMap ienc)
  og : w.ownsRow base 3 1 v.sg.v v.sg.n (m.gs.flatMap ienc)
  or_ : w.ownsRow base 71 3 v.sr.v v.sr.n (m.rs.flatMap GEntry.enc)
  ap : List.Pairwise Apart [v.sd.v, v.sf.v, v.sp.v, v.sg.v, v.sr.v]
theorem MOwn.rd {w : World} {base : Nat} {v : MV} {m : GMuseum} (h : MOwn w base v m) : MRd w v m :=
  ⟨h.eH, h.ed, Rd.of_own h.od, Rd.of_own h.of_, Rd.of_own h.op, Rd.of_own h.og, Rd.of_own h.or_⟩
theorem MOwn.keep {w w' : World} {base : Nat} {v : MV} {m : GMuseum} (h : MOwn w base v m) (e : Ext w w') : MOwn w' base v m :=
  ⟨h.eH, h.ed, own_keep h.od e, own_keep h.of_ e, own_keep h.op e, own_keep h.og e, own_keep h.or_ e, h.ap⟩
theorem MOwn.weak {w : World} {base base' : Nat} {v : MV} {m : GMuseum} (h : MOwn w base v m) (hb : base' ≤ base) : MOwn w base' v m :=
  ⟨h.eH, h.ed, own_weak h.od hb, own_weak h.of_ hb, own_weak h.op hb, own_weak h.og hb, own_weak h.or_ hb, h.ap⟩
/-- How much a museum's rows hold. -/
def bulkM (v : MV) (m : GMuseum) : Int := (v.sd.n : Int) + v.sf.n + v.sp.n + v.sg.n + ((v.sr.n : Int) + bulkE m.rs)
set_option maxRecDepth 100000 in
set_option maxHeartbeats 4000000 in
theorem laws_szMuseum (v : MV) (m : GMuseum) (left : Int) (w : World) (hx : MRd w v m) (h0 : 0 ≤ left) (h1 : left ≤ 1048576) :
    Calls Try.prog 21 #[v.val, .int .i64 left] w fun r w' => r = .returned (.int .i64 (if left < bulkM v m then -1 else left - bulkM v m)) ∧ Ext w w' := by
  obtain ⟨wb, hwb⟩ : ∃ wb, wb = w.alloc (.cells v.cells 48) := ⟨_, rfl⟩
  have hbx := MBox.new hwb
  have hE : Ext w wb := by rw [hwb]; exact (Ext.refl w).alloc _
  have hE1 := bulkE_nn m.rs
  obtain ⟨r, hr⟩ : ∃ r, r = (if left < bulkM v m then -1 else left - bulkM v m) := ⟨_, rfl⟩
  rw [← hr]
  unfold bulkM at hr
  obtain ⟨be, hbe⟩ : ∃ be, be = bulkE m.rs := ⟨_, rfl⟩
  have HBE := Lib.hid hbe
  rw [← hbe] at hr hE1
  have nd := hx.rd.2.1
  have nf := hx.rf.2.1
  have np := hx.rp.2.1
  have ng := hx.rg.2.1
  have nr := hx.rr.2.1
  have HX := Lib.hid (hx.keep hE)
  obtain ⟨Hh, ⟨A0, n0, c0⟩, ⟨A1, n1, c1⟩, ⟨A2, n2, c2⟩, ⟨A3, n3, c3⟩, day, ⟨A4, n4, c4⟩⟩ := v
  simp only at nd nf np ng nr hr
  have HR := Lib.hid hr
  have HE := Lib.hid hE
  have Hwb : Hid (wb = w.alloc (.cells #[.int .i64 Hh, .slice A0 n0 c0, .slice A1 n1 c1, .slice A2 n2 c2, .slice A3 n3 c3, .int .i64 day, .slice A4 n4 c4] 48)) := hwb
  have HB := Lib.hid hbx
  have hxr : Hid (Rd wb 3 A4 n4 (m.rs.flatMap GEntry.enc)) := HX.out.rr
  have hbl := hbx.lt
  clear hr hE hwb hbx hbe hx
  show Calls Try.prog 21 #[.agg #[.int .i64 Hh, .slice A0 n0 c0, .slice A1 n1 c1, .slice A2 n2 c2, .slice A3 n3 c3, .int .i64 day, .slice A4 n4 c4], .int .i64 left] w _
  by_cases q0 : left < (n0 : Int)
  case pos =>
    have HQ : Hid (r = -1) := by unfold Hid; rw [HR.out, if_pos (by omega)]
    go_enter Try.func21, Try.ntmps21
    have b0 := HB.out.c0
    have b1 := HB.out.c1
    have b2 := HB.out.c2
    have b3 := HB.out.c3
    have b4 := HB.out.c4
    have b6 := HB.out.c6
    simp only at b0 b1 b2 b3 b4 b6
    go_wp2_with fail
    rw [← Hwb.out]
    refine (laws_szHouse _ _ _ _ _ _ h0 h1 nd).mono ?_
    rintro e w1 ⟨he, hb1⟩
    rw [if_pos (by omega)] at he
    subst he
    have HE1 := Lib.hid hb1
    clear b0 b1 b2 b3 b4 b6
    have b1 := (hb1.cellAt w.heap.size hbl 1).trans HB.out.c1
    have b2 := (hb1.cellAt w.heap.size hbl 2).trans HB.out.c2
    have b3 := (hb1.cellAt w.heap.size hbl 3).trans HB.out.c3
    have b4 := (hb1.cellAt w.heap.size hbl 4).trans HB.out.c4
    have b6 := (hb1.cellAt w.heap.size hbl 6).trans HB.out.c6
    simp only at b1 b2 b3 b4 b6
    clear hb1
    go_wp2_with fail
    go_ret
    exact ⟨ret_int (by rw [HQ.out]), HE.out.trans HE1.out⟩
  by_cases q1 : left < (n0 : Int) + (n1 : Int)
  case pos =>
    have HQ : Hid (r = -1) := by unfold Hid; rw [HR.out, if_pos (by omega)]
    go_enter Try.func21, Try.ntmps21
    have b0 := HB.out.c0
    have b1 := HB.out.c1
    have b2 := HB.out.c2
    have b3 := HB.out.c3
    have b4 := HB.out.c4
    have b6 := HB.out.c6
    simp only at b0 b1 b2 b3 b4 b6
    go_wp2_with fail
    rw [← Hwb.out]
    refine (laws_szHouse _ _ _ _ _ _ h0 h1 nd).mono ?_
    rintro e w1 ⟨he, hb1⟩
    rw [if_neg (by omega)] at he
    subst he
    have HE1 := Lib.hid hb1
    clear b0 b1 b2 b3 b4 b6
    have b1 := (hb1.cellAt w.heap.size hbl 1).trans HB.out.c1
    have b2 := (hb1.cellAt w.heap.size hbl 2).trans HB.out.c2
    have b3 := (hb1.cellAt w.heap.size hbl 3).trans HB.out.c3
    have b4 := (hb1.cellAt w.heap.size hbl 4).trans HB.out.c4
    have b6 := (hb1.cellAt w.heap.size hbl 6).trans HB.out.c6
    simp only at b1 b2 b3 b4 b6
    clear hb1
    go_wp2_with fail
    refine (laws_szIntS _ _ _ _ _ (by omega) (by omega) nf).mono ?_
    rintro e w2 ⟨he, rfl⟩
    rw [if_pos (by omega)] at he
    subst he
    go_wp2_with fail
    go_ret
    exact ⟨ret_int (by rw [HQ.out]), HE.out.trans HE1.out⟩
  by_cases q2 : left < (n0 : Int) + (n1 : Int) + (n2 : Int)
  case pos =>
    have HQ : Hid (r = -1) := by unfold Hid; rw [HR.out, if_pos (by omega)]
    go_enter Try.func21, Try.ntmps21
    have b0 := HB.out.c0
    have b1 := HB.out.c1
    have b2 := HB.out.c2
    have b3 := HB.out.c3
    have b4 := HB.out.c4
    have b6 := HB.out.c6
    simp only at b0 b1 b2 b3 b4 b6
    go_wp2_with fail
    rw [← Hwb.out]
    refine (laws_szHouse _ _ _ _ _ _ h0 h1 nd).mono ?_
    rintro e w1 ⟨he, hb1⟩
    rw [if_neg (by omega)] at he
    subst he
    have HE1 := Lib.hid hb1
    clear b0 b1 b2 b3 b4 b6
    have b1 := (hb1.cellAt w.heap.size hbl 1).trans HB.out.c1
    have b2 := (hb1.cellAt w.heap.size hbl 2).trans HB.out.c2
    have b3 := (hb1.cellAt w.heap.size hbl 3).trans HB.out.c3
    have b4 := (hb1.cellAt w.heap.size hbl 4).trans HB.out.c4
    have b6 := (hb1.cellAt w.heap.size hbl 6).trans HB.out.c6
    simp only at b1 b2 b3 b4 b6
    clear hb1
    go_wp2_with fail
    refine (laws_szIntS _ _ _ _ _ (by omega) (by omega) nf).mono ?_
    rintro e w2 ⟨he, rfl⟩
    rw [if_neg (by omega)] at he
    subst he
    go_wp2_with fail
    refine (laws_szIntS _ _ _ _ _ (by omega) (by omega) np).mono ?_
    rintro e w3 ⟨he, rfl⟩
    rw [if_pos (by omega)] at he
    subst he
    go_wp2_with fail
    go_ret
    exact ⟨ret_int (by rw [HQ.out]), HE.out.trans HE1.out⟩
  by_cases q3 : left < (n0 : Int) + (n1 : Int) + (n2 : Int) + (n3 : Int)
  case pos =>
    have HQ : Hid (r = -1) := by unfold Hid; rw [HR.out, if_pos (by omega)]
    go_enter Try.func21, Try.ntmps21
    have b0 := HB.out.c0
    have b1 := HB.out.c1
    have b2 := HB.out.c2
    have b3 := HB.out.c3
    have b4 := HB.out.c4
    have b6 := HB.out.c6
    simp only at b0 b1 b2 b3 b4 b6
    go_wp2_with fail
    rw [← Hwb.out]
    refine (laws_szHouse _ _ _ _ _ _ h0 h1 nd).mono ?_
    rintro e w1 ⟨he, hb1⟩
    rw [if_neg (by omega)] at he
    subst he
    have HE1 := Lib.hid hb1
    clear b0 b1 b2 b3 b4 b6
    have b1 := (hb1.cellAt w.heap.size hbl 1).trans HB.out.c1
    have b2 := (hb1.cellAt w.heap.size hbl 2).trans HB.out.c2
    have b3 := (hb1.cellAt w.heap.size hbl 3).trans HB.out.c3
    have b4 := (hb1.cellAt w.heap.size hbl 4).trans HB.out.c4
    have b6 := (hb1.cellAt w.heap.size hbl 6).trans HB.out.c6
    simp only at b1 b2 b3 b4 b6
    clear hb1
    go_wp2_with fail
    refine (laws_szIntS _ _ _ _ _ (by omega) (by omega) nf).mono ?_
    rintro e w2 ⟨he, rfl⟩
    rw [if_neg (by omega)] at he
    subst he
    go_wp2_with fail
    refine (laws_szIntS _ _ _ _ _ (by omega) (by omega) np).mono ?_
    rintro e w3 ⟨he, rfl⟩
    rw [if_neg (by omega)] at he
    subst he
    go_wp2_with fail
    refine (laws_szIntS _ _ _ _ _ (by omega) (by omega) ng).mono ?_
    rintro e w4 ⟨he, rfl⟩
    rw [if_pos (by omega)] at he
    subst he
    go_wp2_with fail
    go_ret
    exact ⟨ret_int (by rw [HQ.out]), HE.out.trans HE1.out⟩
  by_cases q4 : left < (n0 : Int) + (n1 : Int) + (n2 : Int) + (n3 : Int) + (n4 : Int) + be
  case pos =>
    have HQ : Hid (r = -1) := by unfold Hid; rw [HR.out, if_pos (by omega)]
    go_enter Try.func21, Try.ntmps21
    have b0 := HB.out.c0
    have b1 := HB.out.c1
    have b2 := HB.out.c2
    have b3 := HB.out.c3
    have b4 := HB.out.c4
    have b6 := HB.out.c6
    simp only at b0 b1 b2 b3 b4 b6
    go_wp2_with fail
    rw [← Hwb.out]
    refine (laws_szHouse _ _ _ _ _ _ h0 h1 nd).mono ?_
    rintro e w1 ⟨he, hb1⟩
    rw [if_neg (by omega)] at he
    subst he
    have HE1 := Lib.hid hb1
    clear b0 b1 b2 b3 b4 b6
    have b1 := (hb1.cellAt w.heap.size hbl 1).trans HB.out.c1
    have b2 := (hb1.cellAt w.heap.size hbl 2).trans HB.out.c2
    have b3 := (hb1.cellAt w.heap.size hbl 3).trans HB.out.c3
    have b4 := (hb1.cellAt w.heap.size hbl 4).trans HB.out.c4
    have b6 := (hb1.cellAt w.heap.size hbl 6).trans HB.out.c6
    simp only at b1 b2 b3 b4 b6
    clear hb1
    go_wp2_with fail
    refine (laws_szIntS _ _ _ _ _ (by omega) (by omega) nf).mono ?_
    rintro e w2 ⟨he, rfl⟩
    rw [if_neg (by omega)] at he
    subst he
    go_wp2_with fail
    refine (laws_szIntS _ _ _ _ _ (by omega) (by omega) np).mono ?_
    rintro e w3 ⟨he, rfl⟩
    rw [if_neg (by omega)] at he
    subst he
    go_wp2_with fail
    refine (laws_szIntS _ _ _ _ _ (by omega) (by omega) ng).mono ?_
    rintro e w4 ⟨he, rfl⟩
    rw [if_neg (by omega)] at he
    subst he
    go_wp2_with fail
    refine (laws_szEntryS _ _ _ m.rs _ _ (hxr.out.keep HE1.out) (by omega) (by omega)).mono ?_
    rintro e w5 ⟨he, hb5⟩
    rw [← HBE.out] at he
    rw [if_pos (by omega)] at he
    subst he
    have HE5 := Lib.hid hb5
    clear hb5 b1 b2 b3 b4 b6
    go_wp2_with fail
    go_ret
    exact ⟨ret_int (by rw [HQ.out]), HE.out.trans (HE1.out.trans HE5.out)⟩
  have HQ : Hid (r = left - n0 - n1 - n2 - n3 - (n4 + be)) := by unfold Hid; rw [HR.out, if_neg (by omega)]; omega
  go_enter Try.func21, Try.ntmps21
  have b0 := HB.out.c0
  have b1 := HB.out.c1
  have b2 := HB.out.c2
  have b3 := HB.out.c3
  have b4 := HB.out.c4
  have b6 := HB.out.c6
  simp only at b0 b1 b2 b3 b4 b6
  go_wp2_with fail
  rw [← Hwb.out]
  refine (laws_szHouse _ _ _ _ _ _ h0 h1 nd).mono ?_
  rintro e w1 ⟨he, hb1⟩
  rw [if_neg (by omega)] at he
  subst he
  have HE1 := Lib.hid hb1
  clear b0 b1 b2 b3 b4 b6
  have b1 := (hb1.cellAt w.heap.size hbl 1).trans HB.out.c1
  have b2 := (hb1.cellAt w.heap.size hbl 2).trans HB.out.c2
  have b3 := (hb1.cellAt w.heap.size hbl 3).trans HB.out.c3
  have b4 := (hb1.cellAt w.heap.size hbl 4).trans HB.out.c4
  have b6 := (hb1.cellAt w.heap.size hbl 6).trans HB.out.c6
  simp only at b1 b2 b3 b4 b6
  clear hb1
  go_wp2_with fail
  refine (laws_szIntS _ _ _ _ _ (by omega) (by omega) nf).mono ?_
  rintro e w2 ⟨he, rfl⟩
  rw [if_neg (by omega)] at he
  subst he
  go_wp2_with fail
  refine (laws_szIntS _ _ _ _ _ (by omega) (by omega) np).mono ?_
  rintro e w3 ⟨he, rfl⟩
  rw [if_neg (by omega)] at he
  subst he
  go_wp2_with fail
  refine (laws_szIntS _ _ _ _ _ (by omega) (by omega) ng).mono ?_
  rintro e w4 ⟨he, rfl⟩
  rw [if_neg (by omega)] at he
  subst he
  go_wp2_with fail
  refine (laws_szEntryS _ _ _ m.rs _ _ (hxr.out.keep HE1.out) (by omega) (by omega)).mono ?_
  rintro e w5 ⟨he, hb5⟩
  rw [← HBE.out] at he
  rw [if_neg (by omega)] at he
  subst he
  have HE5 := Lib.hid hb5
  clear hb5 b1 b2 b3 b4 b6
  go_wp2_with fail
  go_ret
  exact ⟨ret_int (by rw [HQ.out]), HE.out.trans (HE1.out.trans HE5.out)⟩
end Go.Proofs.Ytkelmeemblmggaa
