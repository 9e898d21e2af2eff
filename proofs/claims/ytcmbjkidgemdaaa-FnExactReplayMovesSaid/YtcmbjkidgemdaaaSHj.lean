/- Contracts of slices.Index and Contains on doors, HasDoor, canGo and the closure of CanMove; no condition but what stands at each theorem. -/
import Derived.Test.YtcmbjkidgemdaaaSHi
namespace Go.Proofs.Ytcmbjkidgemdaaa
set_option linter.unusedSimpArgs false
set_option linter.unusedVariables false
open Go.RowKit Go.Sort
def dEq (p q : Int) (d : GDoor) : Bool := (d.a == p) && (d.b == q)
set_option maxRecDepth 100000 in
set_option maxHeartbeats 1000000 in
theorem shelf_IndexD (A : Option Addr) (n c : Nat) (ds : List GDoor) (p q : Int) (w : World) (hx : Rd w 2 A n (ds.flatMap GDoor.enc)) :
    Calls Try.prog 116 #[.slice A n c, .agg #[.int .i64 p, .int .i64 q]] w fun e w' => ∃ r : Int, e = .returned (.int .i64 r) ∧ decide (0 ≤ r) = ds.any (dEq p q) ∧ Ext w w' := by
  have hn := hx.2.1
  have hl := Lib.hid (hx.len GDoor.len (by omega))
  obtain ⟨wb, hwb⟩ : ∃ wb, wb = w.alloc (.cells #[.int .i64 p, .int .i64 q] 108) := ⟨_, rfl⟩
  obtain ⟨hE, hsb, k0, k1⟩ := box2 w _ _ _ wb hwb
  have HE := Lib.hid hE
  have Hwb := Lib.hid hwb
  have Hk0 := Lib.hid k0
  have Hk1 := Lib.hid k1
  have hxb := Lib.hid (hx.keep hE)
  have hbl : w.heap.size < wb.heap.size := by omega
  clear hE hsb hwb k0 k1 hx
  go_enter Try.func116, Try.ntmps116
  go_wp2_with fail
  rw [← Hwb.out]
  go_loopw [8] (fun i wr => ∃ k : Nat, k ≤ n ∧ i = .int .i64 k ∧ Hid (ds.any (dEq p q) = (ds.drop k).any (dEq p q)) ∧ Ext wb wr) (fun i _ => n - (intOf i).toNat)
  case atStart => exact ⟨0, Nat.zero_le _, rfl, rfl, Ext.refl _⟩
  case round =>
    obtain ⟨k, hk, rfl, hz, hb⟩ := hrel
    have r0 := (hb.cellAt w.heap.size hbl 0).trans Hk0.out
    have r1 := (hb.cellAt w.heap.size hbl 1).trans Hk1.out
    by_cases hlt : k < n
    · obtain ⟨b, off, d, rfl, hbs, hdk, h0, h1⟩ := GDoor.at_ (hxb.out.keep hb) hlt
      have HD := Lib.hid (drop_cons hdk)
      have HB := Lib.hid hb
      clear hdk hb
      by_cases ea : p = d.a
      case neg =>
        have hdo : Hid (dEq p q d = false) := by unfold Hid dEq; rw [beq_eq_false_iff_ne.2 (Ne.symm ea)]; rfl
        go_wp2_with fail
        go_quiet (fail)
        go_wp2_with fail
        go_roundw
        case rel => exact ⟨k + 1, by omega, by go_num, by unfold Hid; rw [hz.out, HD.out, List.any_cons, hdo.out]; rfl, HB.out.drewN _⟩
        case measure => simp [intOf]; omega
      by_cases eb : q = d.b
      case neg =>
        have hdo : Hid (dEq p q d = false) := by unfold Hid dEq; rw [beq_eq_false_iff_ne.2 (Ne.symm eb), Bool.and_false]
        go_wp2_with fail
        go_quiet (fail)
        go_wp2_with fail
        go_roundw
        case rel => exact ⟨k + 1, by omega, by go_num, by unfold Hid; rw [hz.out, HD.out, List.any_cons, hdo.out]; rfl, HB.out.drewN _⟩
        case measure => simp [intOf]; omega
      have hdo : Hid (dEq p q d = true) := by unfold Hid dEq; rw [ea, eb]; simp
      go_wp2_with fail
      go_quiet (fail)
      go_wp2_with fail
      go_ret
      exact ⟨k, rfl, by rw [hz.out, HD.out, List.any_cons, hdo.out]; simp, HE.out.trans (HB.out.drewN _)⟩
    · obtain rfl : k = n := by omega
      go_wp2_with fail
      go_ret
      exact ⟨-1, rfl, by rw [hz.out, drop_nil (by rw [hl.out]; omega)]; rfl, HE.out.trans hb⟩
theorem shelf_ContainsD (A : Option Addr) (n c : Nat) (ds : List GDoor) (p q : Int) (w : World) (hx : Rd w 2 A n (ds.flatMap GDoor.enc)) :
    Calls Try.prog 110 #[.slice A n c, .agg #[.int .i64 p, .int .i64 q]] w fun e w' => e = .returned (.bool (ds.any (dEq p q))) ∧ Ext w w' := by
  obtain ⟨wb, hwb⟩ : ∃ wb, wb = w.alloc (.cells #[.int .i64 p, .int .i64 q] 108) := ⟨_, rfl⟩
  obtain ⟨hE, hsb, k0, k1⟩ := box2 w _ _ _ wb hwb
  have HE := Lib.hid hE
  have Hwb := Lib.hid hwb
  have HC := Lib.hid (shelf_IndexD A n c ds p q wb (hx.keep hE))
  clear hE hsb hwb k0 k1 hx
  go_enter Try.func110, Try.ntmps110
  go_wp2_with fail
  rw [← Hwb.out]
  refine HC.out.mono ?_
  rintro e w1 ⟨r, rfl, hr, he1⟩
  have HR := Lib.hid hr
  have HE1 := Lib.hid he1
  clear hr he1
  go_wp2_with fail
  go_ret
  exact ⟨ret_bool (by rw [← HR.out]), HE.out.trans HE1.out⟩
def hasDoorB (H : Int) (ds : List GDoor) (x y : Int) : Bool := houseB H ds && doorB ds x y
set_option maxRecDepth 100000 in
set_option maxHeartbeats 1000000 in
theorem impl_HasDoor (H : Int) (A : Option Addr) (n c : Nat) (ds : List GDoor) (x y : Int) (w : World) (hx : Rd w 2 A n (ds.flatMap GDoor.enc)) :
    Calls Try.prog 97 #[.agg #[.int .i64 H, .slice A n c], .int .i64 x, .int .i64 y] w fun e w' => e = .returned (.bool (hasDoorB H ds x y)) ∧ Ext w w' := by
  have hmin := @run_imin Try.prog
  have hmax := @run_imax Try.prog
  obtain ⟨wb, hwb⟩ : ∃ wb, wb = w.alloc (.cells #[.int .i64 H, .slice A n c] 29) := ⟨_, rfl⟩
  obtain ⟨hE, hsb, k0, k1⟩ := box2 w _ _ _ wb hwb
  have HE := Lib.hid hE
  have Hwb := Lib.hid hwb
  have Hk1 := Lib.hid k1
  have hbl : w.heap.size < wb.heap.size := by omega
  have hxb := Lib.hid (hx.keep hE)
  have HC := Lib.hid (impl_HouseOk H A n c ds wb hxb.out)
  clear hE hsb hx k0 k1 hwb
  cases hB : houseB H ds
  case false =>
    rw [hB] at HC
    have HF : Hid (hasDoorB H ds x y = false) := by unfold Hid hasDoorB; rw [hB]; rfl
    clear hB
    go_enter Try.func97, Try.ntmps97
    go_wp2_with fail
    rw [← Hwb.out]
    refine HC.out.mono ?_
    rintro e w1 ⟨rfl, he1⟩
    have HE1 := Lib.hid he1
    clear he1
    go_wp2_with fail
    go_ret
    exact ⟨ret_bool HF.out.symm, HE.out.trans HE1.out⟩
  rw [hB] at HC
  have HF : Hid (hasDoorB H ds x y = ds.any (dEq (imin x y) (imax x y))) := by unfold Hid hasDoorB doorB; rw [hB]; rfl
  clear hB
  go_enter Try.func97, Try.ntmps97
  go_wp2_with fail
  rw [← Hwb.out]
  refine HC.out.mono ?_
  rintro e w1 ⟨rfl, he1⟩
  have r1 := (he1.cellAt w.heap.size hbl 1).trans Hk1.out
  have HC2 := Lib.hid (shelf_ContainsD A n c ds (imin x y) (imax x y) w1 (hxb.out.keep he1))
  have HE1 := Lib.hid he1
  clear he1
  go_wp2_with (go_at_call 110; refine HC2.out.mono ?_; rintro e w2 ⟨rfl, he2⟩; have HE2 := Lib.hid he2; clear he2)
  go_ret
  exact ⟨ret_bool HF.out.symm, HE.out.trans (HE1.out.trans HE2.out)⟩
def goB (H : Int) (ds : List GDoor) (ps : List Int) (m : GMove) : Bool := inB m.o 0 ((ps.length : Int) - 1) && (hallB H m.t && hasDoorB H ds (ps.getD m.o.toNat 0) m.t)
theorem boxHM (w : World) (a0 a1 b0 b1 b2 b3 : Value) (t1 t2 : TypeId) (wb : World) (hwb : wb = (w.alloc (.cells #[a0, a1] t1)).alloc (.cells #[b0, b1, b2, b3] t2)) :
    Ext w wb ∧ wb.heap.size = w.heap.size + 1 + 1 ∧ wb.cell? ⟨w.heap.size, 0, none⟩ = some a0 ∧ wb.cell? ⟨w.heap.size, 1, none⟩ = some a1 ∧ wb.cell? ⟨w.heap.size + 1, 0, none⟩ = some b0 ∧ wb.cell? ⟨w.heap.size + 1, 1, none⟩ = some b1 ∧ wb.cell? ⟨w.heap.size + 1, 2, none⟩ = some b2 ∧ wb.cell? ⟨w.heap.size + 1, 3, none⟩ = some b3 := by
  subst hwb
  have h : w.heap.size + 1 = (w.alloc (.cells #[a0, a1] t1)).heap.size := by simp
  refine ⟨((Ext.refl w).alloc _).alloc _, by simp, ?_, ?_, ?_, ?_, ?_, ?_⟩
  · rw [World.cell?_alloc_lt _ _ _ (by simp), World.cell?_alloc_new]; rfl
  · rw [World.cell?_alloc_lt _ _ _ (by simp), World.cell?_alloc_new]; rfl
  all_goals rw [h, World.cell?_alloc_new]; rfl
set_option maxRecDepth 100000 in
set_option maxHeartbeats 2000000 in
theorem impl_canGo (H : Int) (A : Option Addr) (n c : Nat) (ds : List GDoor) (A1 : Option Addr) (n1 c1 : Nat) (ps : List Int) (m : GMove) (w : World) (hx : Rd w 2 A n (ds.flatMap GDoor.enc)) (hx1 : Rd w 1 A1 n1 (ps.flatMap ienc)) :
    Calls Try.prog 72 #[.agg #[.int .i64 H, .slice A n c], .slice A1 n1 c1, .agg #[.int .i64 m.o, .int .i64 m.t, .int .i64 m.f, .int .i64 m.s]] w fun e w' => e = .returned (.bool (goB H ds ps m)) ∧ Ext w w' := by
  obtain ⟨o, t, f, s⟩ := m
  dsimp only
  have hn1 := hx1.2.1
  have hl1 := Lib.hid (hx1.len ienc_len (by omega))
  obtain ⟨wb, hwb⟩ : ∃ wb, wb = (w.alloc (.cells #[.int .i64 H, .slice A n c] 29)).alloc (.cells #[.int .i64 o, .int .i64 t, .int .i64 f, .int .i64 s] 49) := ⟨_, rfl⟩
  obtain ⟨hE, hsb, k0, k1, k2, k3, -, -⟩ := boxHM w _ _ _ _ _ _ _ _ wb hwb
  have HE := Lib.hid hE
  have Hwb := Lib.hid hwb
  have hxb := Lib.hid (hx.keep hE)
  have hxb1 := Lib.hid (hx1.keep hE)
  have e0 := cell_regrown k0
  have e1 := cell_regrown k1
  have e2 := cell_regrown k2
  have e3 := cell_regrown k3
  clear hE hsb hwb k0 k1 k2 k3 hx hx1
  cases hin : inB o 0 ((n1 : Int) - 1)
  case false =>
    have cB : ∀ W, Calls Try.prog 59 #[.int .i64 o, .int .i64 0, .int .i64 ((n1 : Int) - 1)] W fun e W' => e = .returned (.bool false) ∧ W = W' := fun W => by have := impl_between o 0 ((n1 : Int) - 1) W; rwa [hin] at this
    have HF : Hid (goB H ds ps ⟨o, t, f, s⟩ = false) := by unfold Hid goB; simp only [hl1.out, hin, Bool.false_and]
    clear hin
    go_enter Try.func72, Try.ntmps72
    go_wp2_with fail
    rw [← Hwb.out]
    (refine wp_region_ext (by kernel_rfl) (by kernel_rfl) ?_; (repeat (go_big_quiet_step (first | (go_at_call 59; with_reducible exact Calls.rg0 (cB _))))); refine wpQuiet_nil ?_)
    intro w1 hb1
    go_wp2_with fail
    go_ret
    exact ⟨ret_bool HF.out.symm, HE.out.trans hb1⟩
  have hox : 0 ≤ o ∧ o ≤ (n1 : Int) - 1 := by simpa [inB] using hin
  obtain ⟨j, rfl⟩ := Int.eq_ofNat_of_zero_le hox.1
  have hj : j < n1 := by omega
  clear hox
  have cB : ∀ W, Calls Try.prog 59 #[.int .i64 j, .int .i64 0, .int .i64 ((n1 : Int) - 1)] W fun e W' => e = .returned (.bool true) ∧ W = W' := fun W => by have := impl_between j 0 ((n1 : Int) - 1) W; rwa [hin] at this
  cases hh : hallB H t
  case false =>
    have cI := fun W => impl_isHall H A n c t W
    rw [hh] at cI
    have HF : Hid (goB H ds ps ⟨j, t, f, s⟩ = false) := by unfold Hid goB; simp only [hl1.out, hin, hh, Bool.false_and, Bool.and_false]
    clear hin hh
    go_enter Try.func72, Try.ntmps72
    go_wp2_with fail
    rw [← Hwb.out]
    (refine wp_region_ext (by kernel_rfl) (by kernel_rfl) ?_; (repeat (go_big_quiet_step (first | (go_at_call 59; with_reducible exact Calls.rg0 (cB _)) | (go_at_call 69; with_reducible exact Calls.rg (cI _))))); refine wpQuiet_nil ?_)
    intro w1 hb1
    go_wp2_with fail
    go_ret
    exact ⟨ret_bool HF.out.symm, HE.out.trans hb1⟩
  have cI := fun W => impl_isHall H A n c t W
  rw [hh] at cI
  obtain ⟨b, off, x, rfl, hbs, hxk, q0⟩ := ienc_at hxb1.out hj
  have e4 := cell_regrown q0
  have HX := Lib.hid (getD_of' (d := (0 : Int)) hxk)
  have cD := fun d os => impl_HasDoor H A n c ds x t _ (hxb.out.keep (ext_rg wb d os))
  have HF : Hid (goB H ds ps ⟨j, t, f, s⟩ = hasDoorB H ds x t) := by unfold Hid goB; simp only [hl1.out, hin, hh, Int.toNat_natCast, HX.out, Bool.true_and]
  clear hin hh hxk q0
  cases hd : hasDoorB H ds x t
  all_goals (rw [hd] at cD HF; clear hd)
  all_goals go_enter Try.func72, Try.ntmps72
  all_goals go_wp2_with fail
  all_goals rw [← Hwb.out]
  all_goals (refine wp_region_ext (by kernel_rfl) (by kernel_rfl) ?_; (repeat (go_big_quiet_step (first | (go_at_call 59; with_reducible exact Calls.rg0 (cB _)) | (go_at_call 69; with_reducible exact Calls.rg (cI _)) | (go_at_call 97; with_reducible exact Calls.rg (cD _ _))))); refine wpQuiet_nil ?_)
  all_goals intro w1 hb1
  all_goals go_wp2_with fail
  all_goals go_ret
  all_goals exact ⟨ret_bool HF.out.symm, HE.out.trans hb1⟩
/-- Whether guard k stands where the object is, or goes. -/
def nearB (gs ps : List Int) (m : GMove) (k : Int) : Bool := (gs.getD k.toNat 0 == ps.getD m.o.toNat 0) || (gs.getD k.toNat 0 == m.t)
set_option maxRecDepth 100000 in
set_option maxHeartbeats 2000000 in
theorem impl_CanMove1 (bg bp bm : Nat) (A1 : Option Addr) (n1 c1 : Nat) (ps : List Int) (A2 : Option Addr) (n2 c2 : Nat) (gs : List Int) (m : GMove) (k : Int) (w : World)
    (hx1 : Rd w 1 A1 n1 (ps.flatMap ienc)) (hx2 : Rd w 1 A2 n2 (gs.flatMap ienc)) (kg : w.cell? ⟨bg, 0, none⟩ = some (.slice A2 n2 c2)) (kp : w.cell? ⟨bp, 0, none⟩ = some (.slice A1 n1 c1))
    (ko : w.cell? ⟨bm, 0, none⟩ = some (.int .i64 m.o)) (kt : w.cell? ⟨bm, 1, none⟩ = some (.int .i64 m.t)) (h0 : 0 ≤ k) (h1 : k < n2) (h2 : 0 ≤ m.o) (h3 : m.o < n1) :
    Calls Try.prog 73 #[.int .i64 k, .pointer (some ⟨bg, 0, none⟩), .pointer (some ⟨bp, 0, none⟩), .pointer (some ⟨bm, 0, none⟩)] w fun e w' => e = .returned (.bool (nearB gs ps m k)) ∧ Ext w w' := by
  obtain ⟨o, t, f, s⟩ := m
  dsimp only at ko kt h2 h3
  have hn1 := hx1.2.1
  have hn2 := hx2.2.1
  obtain ⟨j, rfl⟩ := Int.eq_ofNat_of_zero_le h0
  obtain ⟨i, rfl⟩ := Int.eq_ofNat_of_zero_le h2
  have hj : j < n2 := by omega
  have hi : i < n1 := by omega
  obtain ⟨b1, off1, x, rfl, hbs1, hxk, q1⟩ := ienc_at hx1 hi
  obtain ⟨b2, off2, y, rfl, hbs2, hyk, q2⟩ := ienc_at hx2 hj
  have HF : Hid (nearB gs ps ⟨i, t, f, s⟩ j = ((y == x) || (y == t))) := by unfold Hid nearB; simp only [Int.toNat_natCast, getD_of' hxk, getD_of' hyk]
  clear hxk hyk hx1 hx2 h0 h1 h2 h3
  cases e1 : (y == x)
  · cases e2 : (y == t)
    all_goals have HV : Hid (nearB gs ps ⟨i, t, f, s⟩ j = (y == t)) := by unfold Hid; rw [HF.out, e1, Bool.false_or]
    all_goals clear HF
    all_goals rw [e2] at HV
    all_goals go_enter Try.func73, Try.ntmps73
    all_goals go_wp2_with fail
    all_goals go_quiet (fail)
    all_goals go_wp2_with fail
    all_goals go_ret
    all_goals exact ⟨ret_bool HV.out.symm, (Ext.refl w).drewN _⟩
  · have HV : Hid (nearB gs ps ⟨i, t, f, s⟩ j = true) := by unfold Hid; rw [HF.out, e1, Bool.true_or]
    clear HF
    go_enter Try.func73, Try.ntmps73
    go_wp2_with fail
    go_quiet (fail)
    go_wp2_with fail
    go_ret
    exact ⟨ret_bool HV.out.symm, (Ext.refl w).drewN _⟩
end Go.Proofs.Ytcmbjkidgemdaaa
