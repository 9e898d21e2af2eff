/- Contract of CountFill of both sides; no condition but what stands at each theorem. -/
import Derived.Test.YtlgmiifpdjalpaaSF5
namespace Go.Proofs.Ytlgmiifpdjalpaa
set_option linter.unusedSimpArgs false
set_option linter.unusedVariables false
open Go.RowKit Go.Sort
theorem mostL_snoc (xs : List Int) (x : Int) : mostL (xs ++ [x]) = imax (mostL xs) x := by simp [mostL]
/-- The reference's count, step by step. -/
def cntL (xs : List Int) : Int := xs.foldl (fun z x => imax z (x + 1)) 0
theorem cntL_snoc (xs : List Int) (x : Int) : cntL (xs ++ [x]) = imax (cntL xs) (x + 1) := by simp [cntL]
theorem cnt_fold : ∀ (xs : List Int) (z : Int), xs.foldl (fun z x => imax z (x + 1)) (z + 1) = xs.foldl imax z + 1
  | [], z => rfl
  | x :: xs, z => by
    rw [List.foldl_cons, List.foldl_cons, ← cnt_fold xs]
    congr 1
    unfold imax
    split <;> split <;> omega
theorem cntL_eq (xs : List Int) : cntL xs = mostL xs + 1 := by
  have h := cnt_fold xs (-1)
  rw [show (-1 : Int) + 1 = 0 from rfl] at h
  exact h
theorem most_bd {xs : List Int} {B : Int} (hB : -1 ≤ B) (h : ∀ x ∈ xs, x ≤ B) : -1 ≤ mostL xs ∧ mostL xs ≤ B := by
  have key : ∀ (xs : List Int) (z : Int), -1 ≤ z → z ≤ B → (∀ x ∈ xs, x ≤ B) → -1 ≤ xs.foldl imax z ∧ xs.foldl imax z ≤ B := by
    intro xs
    induction xs with
    | nil => intro z h0 h1 _; exact ⟨h0, h1⟩
    | cons x xs ih =>
      intro z h0 h1 h2
      have hx := h2 x (List.mem_cons_self ..)
      refine ih (imax z x) ?_ ?_ (fun y hy => h2 y (List.mem_cons_of_mem _ hy))
      · unfold imax; split <;> omega
      · unfold imax; split <;> omega
  exact key xs (-1) (by omega) hB h
/-- The guards' numbers are below the number of shifts. -/
theorem fold_out (xs : List GShift) (rest : Int) : ∀ (p : List Nat) (s : List Int × List Int) (B : Int), (∀ x ∈ s.2, 0 ≤ x ∧ x ≤ B) → (s.1.length : Int) + p.length ≤ B + 1 → ∀ x ∈ (p.foldl (fstep xs rest) s).2, 0 ≤ x ∧ x ≤ B
  | [], s, B, h, _ => h
  | i :: p, s, B, h, hl => by
    rw [List.foldl_cons]
    have h1 := (putG_len s.1 (pickG s.1 (shF xs i) rest) (shT xs i)).1
    have h2 := pickG_le s.1 (shF xs i) rest
    simp only [List.length_cons] at hl
    refine fold_out xs rest p _ B (fun x hx => ?_) (by simp only [fstep]; push_cast at hl ⊢; omega)
    rcases List.mem_or_eq_of_mem_set hx with hx | rfl
    · exact h x hx
    · push_cast at hl; omega
theorem fillL_bd {xs : List GShift} {rest : Int} : ∀ x ∈ fillL xs rest, 0 ≤ x ∧ x ≤ 19 := by
  unfold fillL
  split
  · rename_i hv
    have hn : xs.length ≤ 20 := by
      unfold fillV at hv; simp at hv; omega
    intro x hx
    have h0 : xs.length = 0 ∨ 0 < xs.length := by omega
    refine fold_out xs rest (ordL xs) _ 19 (fun y hy => ?_) (by rw [ordL_len]; simp; omega) x hx
    simp at hy
    omega
  · intro x hx; cases hx
set_option maxRecDepth 100000 in
set_option maxHeartbeats 1000000 in
theorem impl_CountFill (A : Option Addr) (n c : Nat) (xs : List GShift) (rest : Int) (w : World) (hx : Rd w 3 A n (xs.flatMap GShift.enc)) :
    Calls Try.prog 61 #[.slice A n c, .int .i64 rest] w fun e w' => e = .returned (.int .i64 (cntL (fillL xs rest))) ∧ Ext w w' := by
  have cF := Lib.hid (impl_FillShifts A n c xs rest w hx)
  have hbd := Lib.hid (fillL_bd (xs := xs) (rest := rest))
  obtain ⟨L, hL⟩ : ∃ L, L = fillL xs rest := ⟨_, rfl⟩
  have HL := Lib.hid hL
  rw [← hL] at hbd ⊢
  have hlen : L.length ≤ 20 := by
    rw [hL]; unfold fillL
    split
    · rename_i hv; rw [fillS_out]; unfold fillV at hv; simp at hv; omega
    · simp
  clear hx hL
  go_enter Try.func61, Try.ntmps61
  go_wp2_with (refine cF.out.mono ?_; rintro e w1 ⟨v, rfl, hb1, hown⟩; rw [← HL.out] at hown; obtain ⟨Av, cv, rfl, hcv⟩ := own_form hown; have HB1 := Lib.hid hb1; have HR := Lib.hid (Rd.of_own hown); clear hb1 hown)
  have hmx := @run_imax Try.prog
  go_loopw [5, 12] (fun mv iv wr => ∃ k : Nat, k ≤ L.length ∧ iv = .int .i64 k ∧ mv = .int .i64 (mostL (L.take k)) ∧ Ext w1 wr) (fun _ iv _ => L.length - (intOf iv).toNat)
  case atStart => exact ⟨0, Nat.zero_le _, rfl, rfl, Ext.refl _⟩
  case round =>
    obtain ⟨k, hk, rfl, rfl, hb⟩ := hrel
    by_cases hlt : k < L.length
    · obtain ⟨b, off, x, rfl, hbs, hxk, h0⟩ := ienc_at (HR.out.keep hb) hlt
      have HM : Hid (mostL (L.take (k + 1)) = imax (mostL (L.take k)) x) := by unfold Hid; rw [List.take_add_one, hxk, Option.toList_some, mostL_snoc]
      have HB := Lib.hid hb
      have hki : (k : Int) < L.length := by omega
      clear hb hxk
      obtain ⟨M, hM⟩ : ∃ M, M = mostL (L.take k) := ⟨_, rfl⟩
      rw [← hM] at HM ⊢
      clear hM
      go_wp2_with fail
      go_roundw
      case rel => exact ⟨k + 1, by omega, by go_num, by rw [HM.out], HB.out⟩
      case measure => simp [intOf]; omega
    · obtain rfl : k = L.length := by omega
      have hmb := most_bd (xs := L) (B := 19) (by omega) (fun x hx => (hbd.out x hx).2)
      rw [List.take_length]
      have HC : Hid (cntL L = mostL L + 1) := cntL_eq L
      obtain ⟨M, hM⟩ : ∃ M, M = mostL L := ⟨_, rfl⟩
      rw [← hM] at HC hmb ⊢
      go_wp2_with fail
      go_ret
      exact ⟨ret_int (by rw [HC.out, hM]), HB1.out.trans hb⟩
set_option maxRecDepth 100000 in
set_option maxHeartbeats 1000000 in
theorem spec_CountFill (A : Option Addr) (n c : Nat) (xs : List GShift) (rest : Int) (w : World) (hx : Rd w 3 A n (xs.flatMap GShift.enc)) :
    Calls Try.prog 65 #[.slice A n c, .int .i64 rest] w fun e w' => e = .returned (.int .i64 (cntL (fillL xs rest))) ∧ Ext w w' := by
  have cF := Lib.hid (spec_FillShifts A n c xs rest w hx)
  have hbd := Lib.hid (fillL_bd (xs := xs) (rest := rest))
  obtain ⟨L, hL⟩ : ∃ L, L = fillL xs rest := ⟨_, rfl⟩
  have HL := Lib.hid hL
  rw [← hL] at hbd ⊢
  have hlen : L.length ≤ 20 := by
    rw [hL]; unfold fillL
    split
    · rename_i hv; rw [fillS_out]; unfold fillV at hv; simp at hv; omega
    · simp
  clear hx hL
  go_enter Try.func65, Try.ntmps65
  go_wp2_with (refine cF.out.mono ?_; rintro e w1 ⟨v, rfl, hb1, hown⟩; rw [← HL.out] at hown; obtain ⟨Av, cv, rfl, hcv⟩ := own_form hown; have HB1 := Lib.hid hb1; have HR := Lib.hid (Rd.of_own hown); clear hb1 hown)
  have hmx := @run_imax Try.prog
  go_loopw [6, 7] (fun mv iv wr => ∃ k : Nat, k ≤ L.length ∧ iv = .int .i64 k ∧ mv = .int .i64 (cntL (L.take k)) ∧ Ext w1 wr) (fun _ iv _ => L.length - (intOf iv).toNat)
  case atStart => exact ⟨0, Nat.zero_le _, rfl, rfl, Ext.refl _⟩
  case round =>
    obtain ⟨k, hk, rfl, rfl, hb⟩ := hrel
    by_cases hlt : k < L.length
    · obtain ⟨b, off, x, rfl, hbs, hxk, h0⟩ := ienc_at (HR.out.keep hb) hlt
      have HM : Hid (cntL (L.take (k + 1)) = imax (cntL (L.take k)) (x + 1)) := by unfold Hid; rw [List.take_add_one, hxk, Option.toList_some, cntL_snoc]
      have HB := Lib.hid hb
      have hxb := hbd.out x (List.mem_of_getElem? hxk)
      have hki : (k : Int) < L.length := by omega
      clear hb hxk
      obtain ⟨M, hM⟩ : ∃ M, M = cntL (L.take k) := ⟨_, rfl⟩
      rw [← hM] at HM ⊢
      clear hM
      go_wp2_with fail
      go_roundw
      case rel => exact ⟨k + 1, by omega, by go_num, by rw [HM.out], HB.out⟩
      case measure => simp [intOf]; omega
    · obtain rfl : k = L.length := by omega
      rw [List.take_length]
      go_wp2_with fail
      go_ret
      exact ⟨rfl, HB1.out.trans hb⟩
end Go.Proofs.Ytlgmiifpdjalpaa
