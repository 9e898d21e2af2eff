/- Contracts of linksOf and l23Door; no condition but what stands at each theorem. -/
import Derived.Test.YtkelmeemblmggaaS1
import Derived.Test.YtkelmeemblmggaaMH
import Derived.Test.YtkelmeemblmggaaKQ
import Derived.Test.YtkelmeemblmggaaKB
import Derived.Deep.DeepFit
import Derived.KernelRfl
namespace Go.Proofs.Ytkelmeemblmggaa
set_option linter.unusedSimpArgs false
set_option linter.unusedVariables false
open Go.RowKit Go.Sort
theorem ei_I : EI Try.prog 25 3 1 := ei_of Try.underlying25 (by omega) (by kernel_rfl)
theorem sz_int (w : World) : (sizeOf 3).run Try.prog w = .ok 1 w := by kernel_rfl
theorem mk_int (n : Nat) (hn : n ≤ 1048576) (w : World) : (Instr.makeSlice 25 (.int .i64 (n : Int)) (.int .i64 (n : Int))).run Try.prog w = .ok (.slice (some ⟨w.heap.size, 0, none⟩) n n) (w.alloc (.cells ((List.replicate n (0 : Int)).map (Value.int .i64)).toArray 3)) := by
  have hin : (Try.prog.info? 3).map (fun i => (i.zero.map (·.cells.size), i.size, decide (i.bytes ≤ 4096))) = some (some 1, 1, true) := by kernel_rfl
  cases hi : Try.prog.info? 3 with
  | none => rw [hi] at hin; cases hin
  | some i =>
  have hz : i.zero = some (.int .i64 0) := by
    have h : (Try.prog.info? 3).map (fun i => i.zero) = some (some (.int .i64 0)) := by kernel_rfl
    rw [hi] at h; simpa using h
  rw [hi] at hin
  simp only [Option.map_some, Option.some.injEq, Prod.mk.injEq, decide_eq_true_eq] at hin
  obtain ⟨-, hsz, hby⟩ := hin
  have h := make_row (P := Try.prog) 25 3 i _ Try.underlying25 hi hz n (by have := Nat.mul_le_mul hby hn; omega) (by omega) w
  rw [hsz, made_ints] at h
  exact h
set_option maxRecDepth 100000 in
set_option maxHeartbeats 2000000 in
theorem impl_linksOf (nh : Nat) (A : Option Addr) (n c : Nat) (ds : List GDoor) (x : Int) (w : World) (hx : Rd w 2 A n (ds.flatMap GDoor.enc)) (hh : nh ≤ 7) (hn12 : n ≤ 12) :
    Calls Try.prog 77 #[.agg #[.int .i64 nh, .slice A n c], .int .i64 x] w fun e w' => ∃ v, e = .returned v ∧ Ext w w' ∧ w'.ownsRow w.heap.size 3 1 v (linksTo ds x nh).length ((linksTo ds x nh).flatMap ienc) := by
  have hl := Lib.hid (hx.len GDoor.len (by omega))
  have hmin := @run_imin Try.prog
  have hmax := @run_imax Try.prog
  obtain ⟨wb, hwb⟩ : ∃ wb, wb = w.alloc (.cells #[.int .i64 (nh : Int), .slice A n c] 24) := ⟨_, rfl⟩
  obtain ⟨hEb, hsb, k0, k1⟩ := box2 w _ _ _ wb hwb
  have HEb := Lib.hid hEb
  have Hwb := Lib.hid hwb
  have hxb := hx.keep hEb
  have ho0 := own_empty wb (w.heap.size + 1) 3 1 (by omega)
  rw [hsb] at ho0
  have HO0 := Lib.hid ho0
  have Hk0 := Lib.hid k0
  have Hk1 := Lib.hid k1
  have Hsb := Lib.hid hsb
  clear hwb hEb hx k0 k1 hsb ho0
  go_enter Try.func77, Try.ntmps77
  go_wp2_with fail
  rw [← Hwb.out]
  go_loopw [5, 6] (fun o i wr => ∃ (k : Nat) (L : List Int), k ≤ nh ∧ i = .int .i64 k ∧ wr.ownsRow (w.heap.size + 1) 3 1 o L.length (L.flatMap ienc) ∧ Hid (L = linksTo ds x k) ∧ Ext wb wr) (fun _ i _ => nh - (intOf i).toNat)
  case atStart => exact ⟨0, [], Nat.zero_le _, rfl, HO0.out, rfl, (Ext.refl _).alloc _⟩
  case round =>
    obtain ⟨wo, rfl⟩ : ∃ wo : World, wo = wr := ⟨_, rfl⟩
    obtain ⟨k, L, hk, rfl, hown, hz, hb⟩ := hrel
    have r0 := (hb.cellAt w.heap.size (by rw [Hsb.out]; omega) 0).trans Hk0.out
    have r1 := (hb.cellAt w.heap.size (by rw [Hsb.out]; omega) 1).trans Hk1.out
    by_cases hlt : k < nh
    · have HO := Lib.hid hown
      have HB := Lib.hid hb
      have hsw := hb.size
      have hsw1 : w.heap.size + 1 ≤ wb.heap.size := by rw [Hsb.out]; exact Nat.le_refl _
      clear hown hb
      go_wp2_with fail
      go_loopw [5, 19] (fun o i wi => ∃ (j : Nat) (L2 : List Int), j ≤ n ∧ i = .int .i64 j ∧ wi.ownsRow (w.heap.size + 1) 3 1 o L2.length (L2.flatMap ienc) ∧ Hid (L2 = linksTo ds x k ++ ((ds.take j).filter (isDoor x k)).map fun _ => (k : Int)) ∧ Hid (L2.length ≤ L.length + j) ∧ Ext wb wi) (fun _ i _ => n - (intOf i).toNat)
      case atStart => exact ⟨0, L, Nat.zero_le _, rfl, HO.out, by unfold Hid; rw [hz.out]; simp, by unfold Hid; omega, HB.out⟩
      case round =>
        obtain ⟨j, L2, hj, rfl, hown2, hz2, hLj, hbi⟩ := hrel
        have hLk : L.length ≤ 84 := by
          rw [hz.out]
          have h1 := linksTo_len ds x k
          rw [hl.out] at h1
          have h2 : k * n ≤ 7 * 12 := Nat.mul_le_mul (by omega) hn12
          omega
        by_cases hjl : j < n
        · obtain ⟨b, off, d, rfl, hbs, hdk, h0, h1⟩ := GDoor.at_ (hxb.keep hbi) hjl
          have HD := Lib.hid (take_snoc hdk)
          have HO2 := Lib.hid hown2
          have HBi := Lib.hid hbi
          have hsi := hbi.size
          rw [Hsb.out] at hsi
          clear hown2 hbi hdk
          by_cases ea : d.a = imin x k
          case neg =>
            have hdo : Hid (isDoor x k d = false) := by unfold Hid isDoor; rw [beq_eq_false_iff_ne.2 ea]; rfl
            go_wp2_with fail
            go_roundw
            case rel => exact ⟨j + 1, L2, by omega, by go_num, own_keep HO2.out ((Ext.refl wr).alloc _), by unfold Hid; rw [hz2.out, HD.out, List.filter_append]; simp [hdo.out], by have := hLj.out; unfold Hid; omega, HBi.out.alloc _⟩
            case measure => simp [intOf]; omega
          by_cases eb : d.b = imax x k
          case neg =>
            have hdo : Hid (isDoor x k d = false) := by unfold Hid isDoor; rw [beq_eq_false_iff_ne.2 eb, Bool.and_false]
            go_wp2_with fail
            go_roundw
            case rel => exact ⟨j + 1, L2, by omega, by go_num, own_keep HO2.out ((Ext.refl wr).alloc _), by unfold Hid; rw [hz2.out, HD.out, List.filter_append]; simp [hdo.out], by have := hLj.out; unfold Hid; omega, HBi.out.alloc _⟩
            case measure => simp [intOf]; omega
          have hdo : Hid (isDoor x k d = true) := by unfold Hid isDoor; rw [ea, eb]; simp
          go_wp2_with (at_builtin; refine append1 ei_I rfl _ _ rfl (w.heap.size + 1) _ _ u5 L2.length _ (by rfl) (own_keep HO2.out ((Ext.refl wr).alloc _)) [.int .i64 k] (by rw [hsz_alloc]; rfl) rfl (by intro u hu; simp at hu; subst hu; rfl) (by have := hLj.out; omega) (by rw [hsz_alloc]; omega) ?_; intro v' w2 ho2 he2; have HO3 := Lib.hid ho2; have HE3 := Lib.hid (he2 wb (HBi.out.alloc _) (by rw [Hsb.out]; exact Nat.le_refl _)); clear ho2 he2)
          go_roundw
          case rel =>
            refine ⟨j + 1, L2 ++ [(k : Int)], by omega, by go_num, ?_, by unfold Hid; rw [hz2.out, HD.out, List.filter_append]; simp [hdo.out], by have := hLj.out; unfold Hid; simp; omega, HE3.out⟩
            have := HO3.out
            simpa [ienc] using this
          case measure => simp [intOf]; omega
        · obtain rfl : j = n := by omega
          go_wp2_with fail
          go_roundw
          case rel => exact ⟨k + 1, L2, by omega, by go_num, hown2, by unfold Hid; rw [hz2.out, linksTo_succ, List.take_of_length_le (by rw [hl.out]; omega)], hbi⟩
          case measure => simp [intOf]; omega
    · obtain rfl : k = nh := by omega
      go_wp2_with fail
      go_ret
      exact ⟨_, rfl, HEb.out.trans hb, by rw [← hz.out]; exact own_weak hown (by omega)⟩
end Go.Proofs.Ytkelmeemblmggaa
