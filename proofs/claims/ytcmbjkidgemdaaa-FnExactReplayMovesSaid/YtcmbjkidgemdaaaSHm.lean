/- Contracts of MoveObject and l35Copy; no condition but what stands at each theorem. -/
import Derived.Test.YtcmbjkidgemdaaaSHl
import Derived.Test.YtcmbjkidgemdaaaK9
import Derived.Test.YtcmbjkidgemdaaaKQ
namespace Go.Proofs.Ytcmbjkidgemdaaa
set_option linter.unusedSimpArgs false
set_option linter.unusedVariables false
open Go.RowKit Go.Sort
/-- A list and whether. -/
def ListBool (L : List Int) (b : Bool) (w : World) (e : Ending) (w' : World) : Prop := ∃ v, e = .returned (.tuple #[v, .bool b]) ∧ Ext w w' ∧ w'.ownsRow w.heap.size 3 1 v L.length (L.flatMap ienc)
def moveL (H : Int) (ds : List GDoor) (ps gs : List Int) (m : GMove) : List Int := if canMoveB H ds ps gs m then ps.set m.o.toNat m.t else ps
theorem own_set {w : World} {base n c g : Nat} {t : TypeId} {u : List Int} (h : w.ownsRow base t 1 (.slice (some ⟨g, 0, none⟩) n c) n (u.flatMap ienc)) (i : Nat) (x : Int) :
    (w.setCell ⟨g, i, none⟩ (.int .i64 x)).ownsRow base t 1 (.slice (some ⟨g, 0, none⟩) n c) n ((u.set i x).flatMap ienc) := by
  rcases own_block h with ⟨hA, _⟩ | ⟨g', cur, hA, hb, hblk, hnc, hcm, hcs, ht⟩
  · cases hA
  · injection hA with hA
    injection hA with hA
    subst hA
    refine ⟨?_, .inr ⟨g, c, _, rfl, hb, hblk.set i _, hnc, hcm, by simpa using hcs, ?_⟩⟩
    · have := h.1
      rw [ienc_map, List.length_map] at this ⊢
      simpa using this
    · rw [ienc_map] at ht ⊢
      rw [List.map_set, ← ht]
      simp [List.take_set]
theorem canMoveB_obj {H : Int} {ds : List GDoor} {ps gs : List Int} {m : GMove} (h : canMoveB H ds ps gs m = true) : 0 ≤ m.o ∧ m.o < ps.length := by
  simp only [canMoveB, goB, inB, Bool.and_eq_true, decide_eq_true_eq] at h
  have h1 := h.2.2.2.1.1
  omega
theorem spec_l35Copy (A : Option Addr) (n c : Nat) (xs : List Int) (w : World) (hx : Rd w 1 A n (xs.flatMap ienc)) (hnc : Hid (A = none → c = 0)) (hn : n ≤ 1048576) :
    Calls Try.prog 77 #[.slice A n c] w fun e w' => ∃ g c', e = .returned (.slice (some ⟨g, 0, none⟩) n c') ∧ Ext w w' ∧ w'.ownsRow w.heap.size 3 1 (.slice (some ⟨g, 0, none⟩) n c') n (xs.flatMap ienc) := by
  have HX := Lib.hid hx
  clear hx
  go_enter Try.func77, Try.ntmps77
  go_wp2_with (at_builtin; refine (fun h : Hid _ => h.out) ?_)
  unfold Hid
  refine appendRdN ei_I rfl _ _ rfl w.heap.size _ _ 0 [] (by rfl) (own_empty w w.heap.size 3 1 (Nat.le_refl _)) A n c (xs.flatMap ienc) (by rfl) (HX.out.alloc _) hnc.out (one_ienc _) (by omega) (by simp) (by intro h; cases h) ?_
  intro g c' w1
  rw [Nat.zero_add, List.nil_append]
  intro ho he
  have HO1 := Lib.hid ho
  have HE1 := Lib.hid (he w ((Ext.refl w).alloc _) (Nat.le_refl _))
  clear ho he
  go_wp2_with fail
  go_ret
  exact ⟨g, c', rfl, HE1.out, HO1.out⟩
set_option maxRecDepth 100000 in
set_option maxHeartbeats 2000000 in
theorem impl_MoveObject (H : Int) (A : Option Addr) (n c : Nat) (ds : List GDoor) (A1 : Option Addr) (n1 c1 : Nat) (ps : List Int) (A2 : Option Addr) (n2 c2 : Nat) (gs : List Int) (m : GMove) (w : World) (hx : Rd w 2 A n (ds.flatMap GDoor.enc)) (hx1 : Rd w 1 A1 n1 (ps.flatMap ienc)) (hx2 : Rd w 1 A2 n2 (gs.flatMap ienc)) (hnc : Hid (A1 = none → c1 = 0)) (hn1 : n1 ≤ 1048576) :
    Calls Try.prog 39 #[.agg #[.int .i64 H, .slice A n c], .slice A1 n1 c1, .slice A2 n2 c2, .agg #[.int .i64 m.o, .int .i64 m.t, .int .i64 m.f, .int .i64 m.s]] w (ListBool (moveL H ds ps gs m) (canMoveB H ds ps gs m) w) := by
  have hl1 := Lib.hid (hx1.len ienc_len (by omega))
  obtain ⟨wb, hwb⟩ : ∃ wb, wb = (w.alloc (.cells #[.int .i64 H, .slice A n c] 29)).alloc (.cells #[.int .i64 m.o, .int .i64 m.t, .int .i64 m.f, .int .i64 m.s] 49) := ⟨_, rfl⟩
  obtain ⟨hE, hsb, a0, a1, b0, b1, b2, b3⟩ := boxHM w _ _ _ _ _ _ _ _ wb hwb
  have HE := Lib.hid hE
  have Hwb := Lib.hid hwb
  have Ha0 := Lib.hid a0
  have Ha1 := Lib.hid a1
  have Hb0 := Lib.hid b0
  have Hb1 := Lib.hid b1
  have Hb2 := Lib.hid b2
  have Hb3 := Lib.hid b3
  have hxb := Lib.hid (hx.keep hE)
  have hxb1 := Lib.hid (hx1.keep hE)
  have hxb2 := Lib.hid (hx2.keep hE)
  clear hE hwb a0 a1 b0 b1 b2 b3 hx hx1 hx2
  go_enter Try.func39, Try.ntmps39
  go_wp2_with (at_builtin; refine (fun h : Hid _ => h.out) ?_)
  unfold Hid
  rw [← Hwb.out]
  refine appendRdN ei_I rfl _ _ rfl wb.heap.size _ _ 0 [] (by rw [hsb]; rfl) (own_empty wb wb.heap.size 3 1 (Nat.le_refl _)) A1 n1 c1 (ps.flatMap ienc) (by rfl) (hxb1.out.alloc _) hnc.out (one_ienc _) (by omega) (by simp) (by intro h; cases h) ?_
  intro g c' w1
  rw [Nat.zero_add, List.nil_append]
  intro ho he
  have HO1 := Lib.hid ho
  have HE1 := Lib.hid (he wb ((Ext.refl wb).alloc _) (Nat.le_refl _))
  clear ho he
  have cM := Lib.hid (impl_CanMove H A n c ds A1 n1 c1 ps A2 n2 c2 gs m w1 (hxb.out.keep HE1.out) (hxb1.out.keep HE1.out) (hxb2.out.keep HE1.out))
  have a0 := (HE1.out.cellAt (w.heap.size) (by omega) 0).trans Ha0.out
  have a1 := (HE1.out.cellAt (w.heap.size) (by omega) 1).trans Ha1.out
  have b0 := (HE1.out.cellAt (w.heap.size + 1) (by omega) 0).trans Hb0.out
  have b1 := (HE1.out.cellAt (w.heap.size + 1) (by omega) 1).trans Hb1.out
  have b2 := (HE1.out.cellAt (w.heap.size + 1) (by omega) 2).trans Hb2.out
  have b3 := (HE1.out.cellAt (w.heap.size + 1) (by omega) 3).trans Hb3.out
  cases hM : canMoveB H ds ps gs m
  case false =>
    rw [hM] at cM
    have HL : Hid (moveL H ds ps gs m = ps) := by unfold Hid moveL; rw [hM]; rfl
    have HM := Lib.hid hM
    clear hM
    go_wp2_with fail
    refine cM.out.mono ?_
    rintro e w2 ⟨rfl, he2⟩
    have HE2 := Lib.hid (Ext.trans HE1.out he2)
    have HO2 := Lib.hid (own_keep HO1.out he2)
    clear he2 a0 a1 b0 b1 b2 b3
    go_wp2_with fail
    go_ret2
    exact ⟨.slice (some ⟨g, 0, none⟩) n1 c', (by rw [HM.out]; rfl), HE.out.trans HE2.out, by rw [HL.out, hl1.out]; exact own_weak HO2.out (by omega)⟩
  case true =>
    rw [hM] at cM
    obtain ⟨ho0, ho1⟩ := canMoveB_obj hM
    obtain ⟨j, hj⟩ := Int.eq_ofNat_of_zero_le ho0
    have hjn : j < n1 := by (have := hl1.out; omega)
    have HL : Hid (moveL H ds ps gs m = ps.set j m.t) := by unfold Hid moveL; rw [hM, hj]; rfl
    rw [hj] at Hb0
    have HM := Lib.hid hM
    clear hM ho0 ho1 hsb hj
    have hsb : w.heap.size + 1 + 1 ≤ wb.heap.size := by rw [Hwb.out]; simp
    go_wp2_with fail
    refine cM.out.mono ?_
    rintro e w2 ⟨rfl, he2⟩
    have HE2 := Lib.hid (Ext.trans HE1.out he2)
    have ho2 := own_keep HO1.out he2
    obtain ⟨g', hg', hbg, hblk⟩ := PBlk.of_own ho2 (by omega)
    injection hg' with hg'
    injection hg' with hg'
    subst hg'
    have HO2 := Lib.hid ho2
    have q0 := hblk.cell (i := j) (by rw [hl1.out]; exact hjn)
    have q1 := hblk.free j
    have q2 := hblk.lt
    clear he2 a0 a1 b0 b1 b2 b3 hblk ho2
    have b0 := (HE2.out.cellAt (w.heap.size + 1) (by omega) 0).trans Hb0.out
    have b1 := (HE2.out.cellAt (w.heap.size + 1) (by omega) 1).trans Hb1.out
    go_wp2_with fail
    go_ret2
    exact ⟨.slice (some ⟨g, 0, none⟩) n1 c', (by rw [HM.out]; rfl), HE.out.trans (HE2.out.setCell hbg _), by rw [HL.out, List.length_set, hl1.out]; exact own_weak (own_set HO2.out j m.t) (by omega)⟩
set_option maxRecDepth 100000 in
set_option maxHeartbeats 2000000 in
theorem spec_MoveObject (H : Int) (A : Option Addr) (n c : Nat) (ds : List GDoor) (A1 : Option Addr) (n1 c1 : Nat) (ps : List Int) (A2 : Option Addr) (n2 c2 : Nat) (gs : List Int) (m : GMove) (w : World) (hx : Rd w 2 A n (ds.flatMap GDoor.enc)) (hx1 : Rd w 1 A1 n1 (ps.flatMap ienc)) (hx2 : Rd w 1 A2 n2 (gs.flatMap ienc)) (hnc : Hid (A1 = none → c1 = 0)) (hn1 : n1 ≤ 1048576) :
    Calls Try.prog 38 #[.agg #[.int .i64 H, .slice A n c], .slice A1 n1 c1, .slice A2 n2 c2, .agg #[.int .i64 m.o, .int .i64 m.t, .int .i64 m.f, .int .i64 m.s]] w (ListBool (moveL H ds ps gs m) (canMoveB H ds ps gs m) w) := by
  have hl1 := Lib.hid (hx1.len ienc_len (by omega))
  obtain ⟨wb, hwb⟩ : ∃ wb, wb = (w.alloc (.cells #[.int .i64 H, .slice A n c] 29)).alloc (.cells #[.int .i64 m.o, .int .i64 m.t, .int .i64 m.f, .int .i64 m.s] 49) := ⟨_, rfl⟩
  obtain ⟨hE, hsb, a0, a1, b0, b1, b2, b3⟩ := boxHM w _ _ _ _ _ _ _ _ wb hwb
  have HE := Lib.hid hE
  have Hwb := Lib.hid hwb
  have Ha0 := Lib.hid a0
  have Ha1 := Lib.hid a1
  have Hb0 := Lib.hid b0
  have Hb1 := Lib.hid b1
  have Hb2 := Lib.hid b2
  have Hb3 := Lib.hid b3
  have hxb := Lib.hid (hx.keep hE)
  have hxb1 := Lib.hid (hx1.keep hE)
  have hxb2 := Lib.hid (hx2.keep hE)
  clear hE hwb a0 a1 b0 b1 b2 b3 hx hx1 hx2
  go_enter Try.func38, Try.ntmps38
  go_wp2_with fail
  rw [← Hwb.out]
  refine (spec_l35Copy A1 n1 c1 ps wb hxb1.out hnc hn1).mono ?_
  rintro e w1 ⟨g, c', rfl, he, ho⟩
  have HO1 := Lib.hid ho
  have HE1 := Lib.hid he
  clear ho he
  have cM := Lib.hid (spec_CanMove H A n c ds A1 n1 c1 ps A2 n2 c2 gs m w1 (hxb.out.keep HE1.out) (hxb1.out.keep HE1.out) (hxb2.out.keep HE1.out))
  have a0 := (HE1.out.cellAt (w.heap.size) (by omega) 0).trans Ha0.out
  have a1 := (HE1.out.cellAt (w.heap.size) (by omega) 1).trans Ha1.out
  have b0 := (HE1.out.cellAt (w.heap.size + 1) (by omega) 0).trans Hb0.out
  have b1 := (HE1.out.cellAt (w.heap.size + 1) (by omega) 1).trans Hb1.out
  have b2 := (HE1.out.cellAt (w.heap.size + 1) (by omega) 2).trans Hb2.out
  have b3 := (HE1.out.cellAt (w.heap.size + 1) (by omega) 3).trans Hb3.out
  cases hM : canMoveB H ds ps gs m
  case false =>
    rw [hM] at cM
    have HL : Hid (moveL H ds ps gs m = ps) := by unfold Hid moveL; rw [hM]; rfl
    have HM := Lib.hid hM
    clear hM
    go_wp2_with fail
    refine cM.out.mono ?_
    rintro e w2 ⟨rfl, he2⟩
    have HE2 := Lib.hid (Ext.trans HE1.out he2)
    have HO2 := Lib.hid (own_keep HO1.out he2)
    clear he2 a0 a1 b0 b1 b2 b3
    go_wp2_with fail
    go_ret2
    exact ⟨.slice (some ⟨g, 0, none⟩) n1 c', (by rw [HM.out]; rfl), HE.out.trans HE2.out, by rw [HL.out, hl1.out]; exact own_weak HO2.out (by omega)⟩
  case true =>
    rw [hM] at cM
    obtain ⟨ho0, ho1⟩ := canMoveB_obj hM
    obtain ⟨j, hj⟩ := Int.eq_ofNat_of_zero_le ho0
    have hjn : j < n1 := by (have := hl1.out; omega)
    have HL : Hid (moveL H ds ps gs m = ps.set j m.t) := by unfold Hid moveL; rw [hM, hj]; rfl
    rw [hj] at Hb0
    have HM := Lib.hid hM
    clear hM ho0 ho1 hsb hj
    have hsb : w.heap.size + 1 + 1 ≤ wb.heap.size := by rw [Hwb.out]; simp
    go_wp2_with fail
    refine cM.out.mono ?_
    rintro e w2 ⟨rfl, he2⟩
    have HE2 := Lib.hid (Ext.trans HE1.out he2)
    have ho2 := own_keep HO1.out he2
    obtain ⟨g', hg', hbg, hblk⟩ := PBlk.of_own ho2 (by omega)
    injection hg' with hg'
    injection hg' with hg'
    subst hg'
    have HO2 := Lib.hid ho2
    have q0 := hblk.cell (i := j) (by rw [hl1.out]; exact hjn)
    have q1 := hblk.free j
    have q2 := hblk.lt
    clear he2 a0 a1 b0 b1 b2 b3 hblk ho2
    have b0 := (HE2.out.cellAt (w.heap.size + 1) (by omega) 0).trans Hb0.out
    have b1 := (HE2.out.cellAt (w.heap.size + 1) (by omega) 1).trans Hb1.out
    go_wp2_with fail
    go_ret2
    exact ⟨.slice (some ⟨g, 0, none⟩) n1 c', (by rw [HM.out]; rfl), HE.out.trans (HE2.out.setCell hbg _), by rw [HL.out, List.length_set, hl1.out]; exact own_weak (own_set HO2.out j m.t) (by omega)⟩
end Go.Proofs.Ytcmbjkidgemdaaa
