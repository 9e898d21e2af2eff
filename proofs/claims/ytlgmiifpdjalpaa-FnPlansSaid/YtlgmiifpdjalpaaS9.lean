/- Contracts of the sizes of plans; no condition but what stands at each theorem. -/
import Derived.Test.YtlgmiifpdjalpaaS2
import Derived.Test.YtlgmiifpdjalpaaH1
import Derived.Test.YtlgmiifpdjalpaaK7
namespace Go.Proofs.Ytlgmiifpdjalpaa
set_option linter.unusedSimpArgs false
set_option linter.unusedVariables false
open Go.RowKit
theorem mk_ints (n : Nat) (hn : n ≤ 1048576) (w : World) : (Instr.makeSlice 31 (.int .i64 (n : Int)) (.int .i64 (n : Int))).run Try.prog w = .ok (.slice (some ⟨w.heap.size, 0, none⟩) n n) (w.alloc (.cells ((List.replicate n (0 : Int)).map (Value.int .i64)).toArray 3)) := by
  have hin := info_Int
  cases hi : Try.prog.info? 3 with
  | none => rw [hi] at hin; cases hin
  | some i =>
  have hz : i.zero = some (.int .i64 0) := by
    have h : (Try.prog.info? 3).map (fun i => i.zero) = some (some (.int .i64 0)) := by kernel_rfl
    rw [hi] at h; simpa using h
  rw [hi] at hin
  simp only [Option.map_some, Option.some.injEq, Prod.mk.injEq, decide_eq_true_eq] at hin
  obtain ⟨-, hsz, hby⟩ := hin
  have h := make_row (P := Try.prog) 31 3 i _ Try.underlying31 hi hz n (by have := Nat.mul_le_mul hby hn; omega) (by omega) w
  rw [hsz, made_ints] at h
  exact h
def sizesOkB (nl nh : Nat) (room : List Int) : Bool := decide (nl ≤ 6) && inB nh 1 5 && decide (room.length = nh) && room.all (fun x => inB x 0 6)
set_option maxRecDepth 100000 in
set_option maxHeartbeats 1000000 in
theorem impl_sizesOk (A0 : Option Addr) (n0 c0 : Nat) (A1 : Option Addr) (n1 c1 : Nat) (A2 : Option Addr) (n2 c2 : Nat) (room : List Int) (w : World) (hx : Rd w 1 A2 n2 (room.flatMap ienc)) (hn0 : n0 ≤ 9223372036854775807) (hn1 : n1 ≤ 9223372036854775807) :
    Calls Try.prog 96 #[.slice A0 n0 c0, .slice A1 n1 c1, .slice A2 n2 c2] w fun e w' => e = .returned (.bool (sizesOkB n0 n1 room)) ∧ w = w' := by
  have hn := hx.2.1
  have hl := Lib.hid (hx.len ienc_len (by omega))
  by_cases a0 : n0 ≤ 6
  case neg =>
    go_enter Try.func96, Try.ntmps96
    go_wp2_with fail
    go_ret
    exact ⟨ret_bool (by simp [sizesOkB, a0]), rfl⟩
  cases a1 : inB n1 1 5
  case false =>
    go_enter Try.func96, Try.ntmps96
    go_wp2_with (go_at_call 81; refine (impl_between _ _ _ _).mono ?_; rintro e w1 ⟨he, rfl⟩; rw [a1] at he; subst he)
    go_ret
    exact ⟨ret_bool (by simp [sizesOkB, a1]), rfl⟩
  have A1 := Lib.hid a1
  by_cases a2 : n2 = n1
  case neg =>
    have b2 : ((n2 : Int) != (n1 : Int)) = true := by rw [bne_iff_ne]; omega
    go_enter Try.func96, Try.ntmps96
    go_wp2_with (go_at_call 81; refine (impl_between _ _ _ _).mono ?_; rintro e w1 ⟨he, rfl⟩; rw [a1] at he; subst he)
    go_ret
    exact ⟨ret_bool (by simp [sizesOkB, hl.out, a2]), rfl⟩
  subst a2
  go_enter Try.func96, Try.ntmps96
  go_wp2_with (go_at_call 81; refine (impl_between _ _ _ _).mono ?_; rintro e w1 ⟨he, rfl⟩; rw [a1] at he; subst he)
  clear a1
  go_loop [27] (fun i => ∃ k : Nat, k ≤ n2 ∧ i = .int .i64 k ∧ Hid (room.all (fun x => inB x 0 6) = (room.drop k).all (fun x => inB x 0 6))) (fun i => n2 - (intOf i).toNat)
  case atStart => exact ⟨0, Nat.zero_le _, rfl, rfl⟩
  case round =>
    obtain ⟨k, hk, rfl, hz⟩ := hrel
    by_cases hlt : k < n2
    · obtain ⟨b, off, x, rfl, hbs, hxk, h0⟩ := ienc_at hx hlt
      have HX := Lib.hid (drop_cons hxk)
      clear hxk
      cases hin : inB x 0 6
      · go_wp2_with (go_at_call 81; refine (impl_between _ _ _ _).mono ?_; rintro e w1 ⟨he, rfl⟩; rw [hin] at he; subst he)
        go_ret
        exact ⟨ret_bool (by unfold sizesOkB; rw [hz.out, HX.out]; simp [hin]), rfl⟩
      · go_wp2_with (go_at_call 81; refine (impl_between _ _ _ _).mono ?_; rintro e w1 ⟨he, rfl⟩; rw [hin] at he; subst he)
        go_round
        case rel => exact ⟨k + 1, by omega, by go_num, by unfold Hid; rw [hz.out, HX.out]; simp [hin]⟩
        case measure => simp [intOf]; omega
    · obtain rfl : k = n2 := by omega
      go_wp2_with fail
      go_ret
      exact ⟨ret_bool (by unfold sizesOkB; rw [hz.out, drop_nil (by rw [hl.out]; omega), hl.out, A1.out]; simp [a0]), rfl⟩
set_option maxRecDepth 100000 in
set_option maxHeartbeats 1000000 in
theorem spec_l34Valid (A0 : Option Addr) (n0 c0 : Nat) (A1 : Option Addr) (n1 c1 : Nat) (A2 : Option Addr) (n2 c2 : Nat) (room : List Int) (w : World) (hx : Rd w 1 A2 n2 (room.flatMap ienc)) (hn0 : n0 ≤ 9223372036854775807) (_hn1 : n1 ≤ 9223372036854775807) :
    Calls Try.prog 99 #[.slice A0 n0 c0, .slice A1 n1 c1, .slice A2 n2 c2] w fun e w' => e = .returned (.bool (sizesOkB n0 n1 room)) ∧ w = w' := by
  have hn := hx.2.1
  have hl := Lib.hid (hx.len ienc_len (by omega))
  go_enter Try.func99, Try.ntmps99
  go_wp2_with fail
  go_loop [7] (fun i => ∃ k : Nat, k ≤ n2 ∧ i = .int .i64 k ∧ Hid (room.all (fun x => inB x 0 6) = (room.drop k).all (fun x => inB x 0 6))) (fun i => n2 - (intOf i).toNat)
  case atStart => exact ⟨0, Nat.zero_le _, rfl, rfl⟩
  case round =>
    obtain ⟨k, hk, rfl, hz⟩ := hrel
    by_cases hlt : k < n2
    · obtain ⟨b, off, x, rfl, hbs, hxk, h0⟩ := ienc_at hx hlt
      have HX := Lib.hid (drop_cons hxk)
      clear hxk
      cases hin : inB x 0 6
      · go_wp2_with (go_at_call 83; refine (spec_l01In _ _ _ _).mono ?_; rintro e w1 ⟨he, rfl⟩; rw [hin] at he; subst he)
        go_ret
        exact ⟨ret_bool (by unfold sizesOkB; rw [hz.out, HX.out]; simp [hin]), rfl⟩
      · go_wp2_with (go_at_call 83; refine (spec_l01In _ _ _ _).mono ?_; rintro e w1 ⟨he, rfl⟩; rw [hin] at he; subst he)
        go_round
        case rel => exact ⟨k + 1, by omega, by go_num, by unfold Hid; rw [hz.out, HX.out]; simp [hin]⟩
        case measure => simp [intOf]; omega
    · obtain rfl : k = n2 := by omega
      have hz1 : Hid (sizesOkB n0 n1 room = (decide (n0 ≤ 6) && inB n1 1 5 && decide (k = n1))) := by
        unfold Hid sizesOkB; rw [hz.out, drop_nil (by rw [hl.out]; omega), hl.out]; simp
      clear hz
      by_cases a0 : n0 ≤ 6
      case neg =>
        go_wp2_with fail
        go_ret
        exact ⟨ret_bool (by rw [hz1.out]; simp [a0]), rfl⟩
      cases a1 : inB n1 1 5
      case false =>
        go_wp2_with (go_at_call 83; refine (spec_l01In _ _ _ _).mono ?_; rintro e w1 ⟨he, rfl⟩; rw [a1] at he; subst he)
        go_ret
        exact ⟨ret_bool (by rw [hz1.out]; simp [a1]), rfl⟩
      go_wp2_with (go_at_call 83; refine (spec_l01In _ _ _ _).mono ?_; rintro e w1 ⟨he, rfl⟩; rw [a1] at he; subst he)
      go_ret
      exact ⟨ret_bool (by rw [hz1.out, a1, Bool.eq_iff_iff]; simp [a0]; try omega), rfl⟩
end Go.Proofs.Ytlgmiifpdjalpaa
