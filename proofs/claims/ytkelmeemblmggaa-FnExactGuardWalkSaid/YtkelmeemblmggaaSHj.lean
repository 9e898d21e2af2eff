/- Contracts of slices.Index and Contains on doors, HasDoor, canGo and the closure of CanMove; no condition but what stands at each theorem. -/
import Derived.Test.YtkelmeemblmggaaSHi
namespace Go.Proofs.Ytkelmeemblmggaa
set_option linter.unusedSimpArgs false
set_option linter.unusedVariables false
open Go.RowKit Go.Sort
def dEq (p q : Int) (d : GDoor) : Bool := (d.a == p) && (d.b == q)
set_option maxRecDepth 100000 in
set_option maxHeartbeats 1000000 in
theorem shelf_IndexD (A : Option Addr) (n c : Nat) (ds : List GDoor) (p q : Int) (w : World) (hx : Rd w 2 A n (ds.flatMap GDoor.enc)) :
    Calls Try.prog 70 #[.slice A n c, .agg #[.int .i64 p, .int .i64 q]] w fun e w' => ∃ r : Int, e = .returned (.int .i64 r) ∧ decide (0 ≤ r) = ds.any (dEq p q) ∧ Ext w w' := by
  have hn := hx.2.1
  have hl := Lib.hid (hx.len GDoor.len (by omega))
  obtain ⟨wb, hwb⟩ : ∃ wb, wb = w.alloc (.cells #[.int .i64 p, .int .i64 q] 56) := ⟨_, rfl⟩
  obtain ⟨hE, hsb, k0, k1⟩ := box2 w _ _ _ wb hwb
  have HE := Lib.hid hE
  have Hwb := Lib.hid hwb
  have Hk0 := Lib.hid k0
  have Hk1 := Lib.hid k1
  have hxb := Lib.hid (hx.keep hE)
  have hbl : w.heap.size < wb.heap.size := by omega
  clear hE hsb hwb k0 k1 hx
  go_enter Try.func70, Try.ntmps70
  go_wp2_with fail
  rw [← Hwb.out]
  go_loopw [8] (fun i wr => ∃ k : Nat, k ≤ n ∧ i = .int .i64 k ∧ Hid (ds.any (dEq p q) = (ds.drop k).any (dEq p q)) ∧ Ext wb wr) (fun i _ => n - (intOf i).toNat)
  case atStart => exact ⟨0, Nat.zero_le _, rfl, rfl, Ext.refl _⟩
  case round =>
    obtain ⟨k, hk, rfl, hz, hb⟩ := hrel
    have r0 := (hb.cellAt w.heap.size hbl 0).trans Hk0.out
    have r1 := (hb.cellAt w.heap.size hbl 1).trans Hk1.out
    by_cases hlt : k < n
    · obtain ⟨b, off, d, rfl, hbs, hdk, h0, h1⟩ := GDoor.at_ (hxb.out.keep hb) hlt
      have HD := Lib.hid (drop_cons hdk)
      have HB := Lib.hid hb
      clear hdk hb
      by_cases ea : p = d.a
      case neg =>
        have hdo : Hid (dEq p q d = false) := by unfold Hid dEq; rw [beq_eq_false_iff_ne.2 (Ne.symm ea)]; rfl
        go_wp2_with fail
        go_quiet (fail)
        go_wp2_with fail
        go_roundw
        case rel => exact ⟨k + 1, by omega, by go_num, by unfold Hid; rw [hz.out, HD.out, List.any_cons, hdo.out]; rfl, HB.out.drewN _⟩
        case measure => simp [intOf]; omega
      by_cases eb : q = d.b
      case neg =>
        have hdo : Hid (dEq p q d = false) := by unfold Hid dEq; rw [beq_eq_false_iff_ne.2 (Ne.symm eb), Bool.and_false]
        go_wp2_with fail
        go_quiet (fail)
        go_wp2_with fail
        go_roundw
        case rel => exact ⟨k + 1, by omega, by go_num, by unfold Hid; rw [hz.out, HD.out, List.any_cons, hdo.out]; rfl, HB.out.drewN _⟩
        case measure => simp [intOf]; omega
      have hdo : Hid (dEq p q d = true) := by unfold Hid dEq; rw [ea, eb]; simp
      go_wp2_with fail
      go_quiet (fail)
      go_wp2_with fail
      go_ret
      exact ⟨k, rfl, by rw [hz.out, HD.out, List.any_cons, hdo.out]; simp, HE.out.trans (HB.out.drewN _)⟩
    · obtain rfl : k = n := by omega
      go_wp2_with fail
      go_ret
      exact ⟨-1, rfl, by rw [hz.out, drop_nil (by rw [hl.out]; omega)]; rfl, HE.out.trans hb⟩
theorem shelf_ContainsD (A : Option Addr) (n c : Nat) (ds : List GDoor) (p q : Int) (w : World) (hx : Rd w 2 A n (ds.flatMap GDoor.enc)) :
    Calls Try.prog 64 #[.slice A n c, .agg #[.int .i64 p, .int .i64 q]] w fun e w' => e = .returned (.bool (ds.any (dEq p q))) ∧ Ext w w' := by
  obtain ⟨wb, hwb⟩ : ∃ wb, wb = w.alloc (.cells #[.int .i64 p, .int .i64 q] 56) := ⟨_, rfl⟩
  obtain ⟨hE, hsb, k0, k1⟩ := box2 w _ _ _ wb hwb
  have HE := Lib.hid hE
  have Hwb := Lib.hid hwb
  have HC := Lib.hid (shelf_IndexD A n c ds p q wb (hx.keep hE))
  clear hE hsb hwb k0 k1 hx
  go_enter Try.func64, Try.ntmps64
  go_wp2_with fail
  rw [← Hwb.out]
  refine HC.out.mono ?_
  rintro e w1 ⟨r, rfl, hr, he1⟩
  have HR := Lib.hid hr
  have HE1 := Lib.hid he1
  clear hr he1
  go_wp2_with fail
  go_ret
  exact ⟨ret_bool (by rw [← HR.out]), HE.out.trans HE1.out⟩
def hasDoorB (H : Int) (ds : List GDoor) (x y : Int) : Bool := houseB H ds && doorB ds x y
set_option maxRecDepth 100000 in
set_option maxHeartbeats 1000000 in
theorem impl_HasDoor (H : Int) (A : Option Addr) (n c : Nat) (ds : List GDoor) (x y : Int) (w : World) (hx : Rd w 2 A n (ds.flatMap GDoor.enc)) :
    Calls Try.prog 46 #[.agg #[.int .i64 H, .slice A n c], .int .i64 x, .int .i64 y] w fun e w' => e = .returned (.bool (hasDoorB H ds x y)) ∧ Ext w w' := by
  have hmin := @run_imin Try.prog
  have hmax := @run_imax Try.prog
  obtain ⟨wb, hwb⟩ : ∃ wb, wb = w.alloc (.cells #[.int .i64 H, .slice A n c] 24) := ⟨_, rfl⟩
  obtain ⟨hE, hsb, k0, k1⟩ := box2 w _ _ _ wb hwb
  have HE := Lib.hid hE
  have Hwb := Lib.hid hwb
  have Hk1 := Lib.hid k1
  have hbl : w.heap.size < wb.heap.size := by omega
  have hxb := Lib.hid (hx.keep hE)
  have HC := Lib.hid (impl_HouseOk H A n c ds wb hxb.out)
  clear hE hsb hx k0 k1 hwb
  cases hB : houseB H ds
  case false =>
    rw [hB] at HC
    have HF : Hid (hasDoorB H ds x y = false) := by unfold Hid hasDoorB; rw [hB]; rfl
    clear hB
    go_enter Try.func46, Try.ntmps46
    go_wp2_with fail
    rw [← Hwb.out]
    refine HC.out.mono ?_
    rintro e w1 ⟨rfl, he1⟩
    have HE1 := Lib.hid he1
    clear he1
    go_wp2_with fail
    go_ret
    exact ⟨ret_bool HF.out.symm, HE.out.trans HE1.out⟩
  rw [hB] at HC
  have HF : Hid (hasDoorB H ds x y = ds.any (dEq (imin x y) (imax x y))) := by unfold Hid hasDoorB doorB; rw [hB]; rfl
  clear hB
  go_enter Try.func46, Try.ntmps46
  go_wp2_with fail
  rw [← Hwb.out]
  refine HC.out.mono ?_
  rintro e w1 ⟨rfl, he1⟩
  have r1 := (he1.cellAt w.heap.size hbl 1).trans Hk1.out
  have HC2 := Lib.hid (shelf_ContainsD A n c ds (imin x y) (imax x y) w1 (hxb.out.keep he1))
  have HE1 := Lib.hid he1
  clear he1
  go_wp2_with (go_at_call 64; refine HC2.out.mono ?_; rintro e w2 ⟨rfl, he2⟩; have HE2 := Lib.hid he2; clear he2)
  go_ret
  exact ⟨ret_bool HF.out.symm, HE.out.trans (HE1.out.trans HE2.out)⟩
def goB (H : Int) (ds : List GDoor) (ps : List Int) (m : GMove) : Bool := inB m.o 0 ((ps.length : Int) - 1) && (hallB H m.t && hasDoorB H ds (ps.getD m.o.toNat 0) m.t)
theorem boxHM (w : World) (a0 a1 b0 b1 b2 b3 : Value) (t1 t2 : TypeId) (wb : World) (hwb : wb = (w.alloc (.cells #[a0, a1] t1)).alloc (.cells #[b0, b1, b2, b3] t2)) :
    Ext w wb ∧ wb.heap.size = w.heap.size + 1 + 1 ∧ wb.cell? ⟨w.heap.size, 0, none⟩ = some a0 ∧ wb.cell? ⟨w.heap.size, 1, none⟩ = some a1 ∧ wb.cell? ⟨w.heap.size + 1, 0, none⟩ = some b0 ∧ wb.cell? ⟨w.heap.size + 1, 1, none⟩ = some b1 ∧ wb.cell? ⟨w.heap.size + 1, 2, none⟩ = some b2 ∧ wb.cell? ⟨w.heap.size + 1, 3, none⟩ = some b3 := by
  subst hwb
  have h : w.heap.size + 1 = (w.alloc (.cells #[a0, a1] t1)).heap.size := by simp
  refine ⟨((Ext.refl w).alloc _).alloc _, by simp, ?_, ?_, ?_, ?_, ?_, ?_⟩
  · rw [World.cell?_alloc_lt _ _ _ (by simp), World.cell?_alloc_new]; rfl
  · rw [World.cell?_alloc_lt _ _ _ (by simp), World.cell?_alloc_new]; rfl
  all_goals rw [h, World.cell?_alloc_new]; rfl
end Go.Proofs.Ytkelmeemblmggaa
