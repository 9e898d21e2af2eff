/- ParseUint of both sides and the reference's l40Number: what they answer on a number's own text; no condition but what stands at each theorem. -/
import Derived.Test.YtcmbjkidgemdaaaDoorST2
namespace Go.Proofs.YtcmbjkidgemdaaaDoor
set_option linter.unusedSimpArgs false
set_option linter.unusedVariables false
open Go.RowKit Go.Sort
def pS (n : Nat) (b : UInt8) : Nat := 10 * n + (b.toNat - 48)
theorem dd_last {m : Nat} (h : ¬ m < 10) : Lib.decDigits m = Lib.decDigits (m / 10) ++ [UInt8.ofNat (48 + m % 10)] := by rw [Lib.decDigits, dif_neg h]
theorem dg_nat {j : Nat} (h : j < 10) : (UInt8.ofNat (48 + j)).toNat = 48 + j := by
  rw [UInt8.toNat_ofNat']; omega
theorem dd_val (m : Nat) : (Lib.decDigits m).foldl pS 0 = m := by
  induction m using Nat.strongRecOn with
  | _ m ih =>
    by_cases h : m < 10
    · rw [Lib.decDigits_one h]; simp only [List.foldl_cons, List.foldl_nil, pS, dg_nat h]; omega
    · rw [dd_last h, List.foldl_append, ih (m / 10) (by omega)]
      simp only [List.foldl_cons, List.foldl_nil, pS, dg_nat (show m % 10 < 10 by omega)]; omega
theorem dd_dig (m : Nat) : ∀ b ∈ Lib.decDigits m, 48 ≤ b.toNat ∧ b.toNat ≤ 57 := by
  induction m using Nat.strongRecOn with
  | _ m ih =>
    by_cases h : m < 10
    · rw [Lib.decDigits_one h]; intro b hb; simp only [List.mem_singleton] at hb; subst hb; rw [dg_nat h]; omega
    · rw [dd_last h]; intro b hb
      rw [List.mem_append, List.mem_singleton] at hb
      rcases hb with hb | rfl
      · exact ih (m / 10) (by omega) b hb
      · rw [dg_nat (show m % 10 < 10 by omega)]; omega
theorem dd_ne (m : Nat) : 1 ≤ (Lib.decDigits m).length := by
  by_cases h : m < 10
  · rw [Lib.decDigits_one h]; simp
  · rw [dd_last h]; simp
theorem dd_len4 {m : Nat} (hm : m ≤ 1000) : (Lib.decDigits m).length ≤ 4 := by
  by_cases h : m < 10
  · rw [Lib.decDigits_one h]; simp
  rw [dd_last h]
  by_cases h1 : m / 10 < 10
  · rw [Lib.decDigits_one h1]; simp
  rw [dd_last h1]
  by_cases h2 : m / 10 / 10 < 10
  · rw [Lib.decDigits_one h2]; simp
  rw [dd_last h2, Lib.decDigits_one (by omega)]; simp
theorem dd_head (m : Nat) (hm : 1 ≤ m) : (Lib.decDigits m).head? ≠ some 48 := by
  induction m using Nat.strongRecOn with
  | _ m ih =>
    by_cases h : m < 10
    · rw [Lib.decDigits_one h]
      intro e
      simp only [List.head?_cons, Option.some.injEq] at e
      have := congrArg UInt8.toNat e
      rw [dg_nat h] at this
      have h48 : (48 : UInt8).toNat = 48 := rfl
      omega
    · rw [dd_last h]
      have h1 := ih (m / 10) (by omega) (by omega)
      have h2 := dd_ne (m / 10)
      cases hd : Lib.decDigits (m / 10) with
      | nil => rw [hd] at h2; simp at h2
      | cons b r => rw [hd] at h1; simpa using h1
theorem dd_one {m : Nat} (h : 1 < (Lib.decDigits m).length) : 1 ≤ m := by
  by_cases h1 : m < 10
  · rw [Lib.decDigits_one h1] at h; simp at h
  · omega
theorem itext_list (i : Nat) : (itext i).data.toList = Lib.decDigits i := by rw [itext_nat]
theorem itext_sz (i : Nat) : (itext i).size = (Lib.decDigits i).length := by
  rw [itext_nat]; simp [ByteArray.size]
theorem byte_at (s : ByteArray) (k : Nat) (h : k < s.size) : s.data.toList[k]? = some s[k] := by
  have : k < s.data.toList.length := by simpa using h
  rw [List.getElem?_eq_getElem this]; rfl
/-- What ParseUint answers, as far as is needed. -/
def PU (x : ByteArray) (w : World) (e : Ending) (w' : World) : Prop :=
  ∃ (z : Nat) (b : Bool), e = .returned (.tuple #[.int .i64 z, .bool b]) ∧ z ≤ 1000000000 ∧ Ext w w' ∧ ∀ i : Nat, i ≤ 1000 → x = itext i → z = i ∧ b = true
theorem nodig {x : ByteArray} {k : Nat} (hk : k < x.size) (h : x[k].toNat < 48 ∨ 57 < x[k].toNat) : ∀ i : Nat, x ≠ itext i := by
  intro i hi
  have h1 := byte_at x k hk
  have h2 := dd_dig i x[k] (by rw [← itext_list, ← hi]; exact List.mem_of_getElem? h1)
  omega
theorem nozero {x : ByteArray} (hk : 1 < x.size) (h : x[0].toNat = 48) : ∀ i : Nat, x ≠ itext i := by
  intro i hi
  have h1 := byte_at x 0 (by omega)
  have h3 : 1 < (Lib.decDigits i).length := by rw [← itext_sz, ← hi]; exact hk
  refine dd_head i (dd_one h3) ?_
  rw [← itext_list, ← hi, List.head?_eq_getElem?, h1]
  congr 1
  exact UInt8.toNat_inj.1 h
set_option maxRecDepth 100000 in
set_option maxHeartbeats 2000000 in
theorem impl_ParseUint (x : ByteArray) (w : World) (hx : x.size ≤ 9223372036854775807) : Calls Tryd.prog 45 #[.string x] w (PU x w) := by
  have bad : ∀ (w' : World), Ext w w' → Hid (∀ i : Nat, i ≤ 1000 → x ≠ itext i) → PU x w (.returned (.tuple #[.int .i64 0, .bool false])) w' := fun w' e h => ⟨0, false, rfl, by omega, e, fun i hi he => absurd he (h.out i hi)⟩
  have Hbad := Lib.hid bad
  clear bad
  by_cases h10 : 10 < x.size
  case pos =>
    have HN : Hid (∀ i : Nat, i ≤ 1000 → x ≠ itext i) := fun i hi he => by
      have := itext_sz i; have := dd_len4 hi; rw [he] at h10; omega
    have h10' : (10 : Int) < x.size := by omega
    have h1 : x.size ≠ 0 := by omega
    go_enter Tryd.func45, Tryd.ntmps45
    go_wp2
    exact bodyPost_ret (v := .tuple #[.int .i64 0, .bool false]) (by simp [results, Tryd.results45, go_sem, *]) rfl (Hbad.out _ (Ext.refl _) HN)
  case neg =>
  by_cases h0 : x.size = 0
  · have HN : Hid (∀ i : Nat, i ≤ 1000 → x ≠ itext i) := fun i hi he => by
      have := itext_sz i; have := dd_ne i; rw [he] at h0; omega
    go_enter Tryd.func45, Tryd.ntmps45
    go_wp2
    exact bodyPost_ret (v := .tuple #[.int .i64 0, .bool false]) (by simp [results, Tryd.results45, go_sem, *]) rfl (Hbad.out _ (Ext.refl _) HN)
  have h0' : 0 < x.size := by omega
  by_cases h48 : 1 < x.size ∧ x[0].toNat = 48
  · have HN : Hid (∀ i : Nat, i ≤ 1000 → x ≠ itext i) := fun i _ => nozero h48.1 h48.2 i
    obtain ⟨h1, h2⟩ := h48
    go_enter Tryd.func45, Tryd.ntmps45
    go_wp2
    exact bodyPost_ret (v := .tuple #[.int .i64 0, .bool false]) (by simp [results, Tryd.results45, go_sem, *]) rfl (Hbad.out _ (Ext.refl _) HN)
  by_cases h1 : 1 < x.size
  · have h48' : ¬ x[0].toNat = 48 := fun e => h48 ⟨h1, e⟩
    have h48i : ((x[0].toNat : Int) == 48) = false := beq_false_of_ne (show (x[0].toNat : Int) ≠ 48 by omega)
    have hz0 : ((x.size : Int) == 0) = false := beq_false_of_ne (show (x.size : Int) ≠ 0 by omega)
    have h1i : (1 : Int) < x.size := by omega
    clear h48
    go_enter Tryd.func45, Tryd.ntmps45
    go_wp2
    go_loop [4, 5] (fun n i => ∃ k N : Nat, k ≤ x.size ∧ i = .int .i64 k ∧ n = .int .i64 (N : Int) ∧ N < 10 ^ k ∧ Hid (x.data.toList.foldl pS 0 = (x.data.toList.drop k).foldl pS N)) (fun _ i => x.size - (intOf i).toNat)
    case atStart => exact ⟨0, 0, Nat.zero_le _, rfl, rfl, by decide, rfl⟩
    case round =>
      obtain ⟨k, N, hk, rfl, rfl, hN, hz⟩ := hrel
      by_cases hlt : k < x.size
      · have HZ : Hid (x.data.toList.foldl pS 0 = (x.data.toList.drop (k + 1)).foldl pS (pS N x[k])) := by
          unfold Hid; rw [hz.out, drop_cons (byte_at x k hlt)]; rfl
        have hb := x[k].toNat_lt
        have hp : 10 ^ (k + 1) = 10 ^ k * 10 := Nat.pow_succ ..
        have hp9 : 10 ^ k ≤ 10 ^ 9 := Nat.pow_le_pow_right (by decide) (by omega)
        have hp9' : (10 : Nat) ^ 9 = 1000000000 := by decide
        by_cases hd : x[k].toNat < 48 ∨ 57 < x[k].toNat
        · have HN : Hid (∀ i : Nat, i ≤ 1000 → x ≠ itext i) := fun i _ => nodig hlt hd i
          rcases hd with hd | hd
          · go_wp2
            exact bodyPost_ret (v := .tuple #[.int .i64 0, .bool false]) (by simp [results, Tryd.results45, go_sem, *]) rfl (Hbad.out _ (Ext.refl _) HN)
          · have hd2 : ¬ x[k].toNat < 48 := by omega
            go_wp2
            exact bodyPost_ret (v := .tuple #[.int .i64 0, .bool false]) (by simp [results, Tryd.results45, go_sem, *]) rfl (Hbad.out _ (Ext.refl _) HN)
        · have hd1 : ¬ x[k].toNat < 48 := by omega
          have hd2 : ¬ 57 < x[k].toNat := by omega
          have hq : pS N x[k] = 10 * N + (x[k].toNat - 48) := rfl
          generalize 10 ^ k = q at hN hp hp9
          go_wp2
          go_round
          case rel => exact ⟨k + 1, pS N x[k], by omega, by go_num, by (unfold pS; first | rfl | (congr 1; omega) | (push_cast; congr 1; omega)), by rw [hp]; omega, HZ⟩
          case measure => simp [intOf]; omega
      · obtain rfl : k = x.size := by omega
        have hd : Hid (∀ i : Nat, i ≤ 1000 → x = itext i → N = i) := fun i hi he => by
          have h1 := hz.out
          rw [drop_nil (by simp)] at h1
          rw [he, itext_list, dd_val] at h1
          exact h1.symm
        have hN10 : N < 10000000000 := Nat.lt_of_lt_of_le hN (Nat.le_trans (Nat.pow_le_pow_right (by decide) (show x.size ≤ 10 by omega)) (by decide))
        clear hN
        by_cases h9 : 1000000000 < N
        · have HN : Hid (∀ i : Nat, i ≤ 1000 → x ≠ itext i) := fun i hi he => by have := hd.out i hi he; omega
          have h9' : (1000000000 : Int) < N := by omega
          go_wp2
          exact bodyPost_ret (v := .tuple #[.int .i64 0, .bool false]) (by simp [results, Tryd.results45, go_sem, *]) rfl (Hbad.out _ (Ext.refl _) HN)
        · have h9' : ¬ (1000000000 : Int) < N := by omega
          go_wp2
          exact bodyPost_ret (v := .tuple #[.int .i64 N, .bool true]) (by simp [results, Tryd.results45, go_sem, *]) rfl ⟨N, true, rfl, by omega, Ext.refl _, fun i hi he => ⟨hd.out i hi he, rfl⟩⟩
  · have hz0 : ((x.size : Int) == 0) = false := beq_false_of_ne (show (x.size : Int) ≠ 0 by omega)
    clear h48
    go_enter Tryd.func45, Tryd.ntmps45
    go_wp2
    go_loop [4, 5] (fun n i => ∃ k N : Nat, k ≤ x.size ∧ i = .int .i64 k ∧ n = .int .i64 (N : Int) ∧ N < 10 ^ k ∧ Hid (x.data.toList.foldl pS 0 = (x.data.toList.drop k).foldl pS N)) (fun _ i => x.size - (intOf i).toNat)
    case atStart => exact ⟨0, 0, Nat.zero_le _, rfl, rfl, by decide, rfl⟩
    case round =>
      obtain ⟨k, N, hk, rfl, rfl, hN, hz⟩ := hrel
      by_cases hlt : k < x.size
      · have HZ : Hid (x.data.toList.foldl pS 0 = (x.data.toList.drop (k + 1)).foldl pS (pS N x[k])) := by
          unfold Hid; rw [hz.out, drop_cons (byte_at x k hlt)]; rfl
        have hb := x[k].toNat_lt
        have hp : 10 ^ (k + 1) = 10 ^ k * 10 := Nat.pow_succ ..
        have hp9 : 10 ^ k ≤ 10 ^ 9 := Nat.pow_le_pow_right (by decide) (by omega)
        have hp9' : (10 : Nat) ^ 9 = 1000000000 := by decide
        by_cases hd : x[k].toNat < 48 ∨ 57 < x[k].toNat
        · have HN : Hid (∀ i : Nat, i ≤ 1000 → x ≠ itext i) := fun i _ => nodig hlt hd i
          rcases hd with hd | hd
          · go_wp2
            exact bodyPost_ret (v := .tuple #[.int .i64 0, .bool false]) (by simp [results, Tryd.results45, go_sem, *]) rfl (Hbad.out _ (Ext.refl _) HN)
          · have hd2 : ¬ x[k].toNat < 48 := by omega
            go_wp2
            exact bodyPost_ret (v := .tuple #[.int .i64 0, .bool false]) (by simp [results, Tryd.results45, go_sem, *]) rfl (Hbad.out _ (Ext.refl _) HN)
        · have hd1 : ¬ x[k].toNat < 48 := by omega
          have hd2 : ¬ 57 < x[k].toNat := by omega
          have hq : pS N x[k] = 10 * N + (x[k].toNat - 48) := rfl
          generalize 10 ^ k = q at hN hp hp9
          go_wp2
          go_round
          case rel => exact ⟨k + 1, pS N x[k], by omega, by go_num, by (unfold pS; first | rfl | (congr 1; omega) | (push_cast; congr 1; omega)), by rw [hp]; omega, HZ⟩
          case measure => simp [intOf]; omega
      · obtain rfl : k = x.size := by omega
        have hd : Hid (∀ i : Nat, i ≤ 1000 → x = itext i → N = i) := fun i hi he => by
          have h1 := hz.out
          rw [drop_nil (by simp)] at h1
          rw [he, itext_list, dd_val] at h1
          exact h1.symm
        have hN10 : N < 10000000000 := Nat.lt_of_lt_of_le hN (Nat.le_trans (Nat.pow_le_pow_right (by decide) (show x.size ≤ 10 by omega)) (by decide))
        clear hN
        by_cases h9 : 1000000000 < N
        · have HN : Hid (∀ i : Nat, i ≤ 1000 → x ≠ itext i) := fun i hi he => by have := hd.out i hi he; omega
          have h9' : (1000000000 : Int) < N := by omega
          go_wp2
          exact bodyPost_ret (v := .tuple #[.int .i64 0, .bool false]) (by simp [results, Tryd.results45, go_sem, *]) rfl (Hbad.out _ (Ext.refl _) HN)
        · have h9' : ¬ (1000000000 : Int) < N := by omega
          go_wp2
          exact bodyPost_ret (v := .tuple #[.int .i64 N, .bool true]) (by simp [results, Tryd.results45, go_sem, *]) rfl ⟨N, true, rfl, by omega, Ext.refl _, fun i hi he => ⟨hd.out i hi he, rfl⟩⟩
set_option maxRecDepth 100000 in
set_option maxHeartbeats 2000000 in
theorem spec_ParseUint (x : ByteArray) (w : World) (hx : x.size ≤ 9223372036854775807) : Calls Tryd.prog 47 #[.string x] w (PU x w) := by
  have bad : ∀ (w' : World), Ext w w' → Hid (∀ i : Nat, i ≤ 1000 → x ≠ itext i) → PU x w (.returned (.tuple #[.int .i64 0, .bool false])) w' := fun w' e h => ⟨0, false, rfl, by omega, e, fun i hi he => absurd he (h.out i hi)⟩
  have Hbad := Lib.hid bad
  clear bad
  by_cases h10 : 10 < x.size
  case pos =>
    have HN : Hid (∀ i : Nat, i ≤ 1000 → x ≠ itext i) := fun i hi he => by
      have := itext_sz i; have := dd_len4 hi; rw [he] at h10; omega
    have h10' : (10 : Int) < x.size := by omega
    go_enter Tryd.func47, Tryd.ntmps47
    go_wp2
    exact bodyPost_ret (v := .tuple #[.int .i64 0, .bool false]) (by simp [results, Tryd.results47, go_sem, *]) rfl (Hbad.out _ (Ext.refl _) HN)
  case neg =>
  go_enter Tryd.func47, Tryd.ntmps47
  go_wp2
  go_loop [4, 5] (fun n i => ∃ k N : Nat, k ≤ x.size ∧ i = .int .i64 k ∧ n = .int .i64 (N : Int) ∧ N < 10 ^ k ∧ Hid (x.data.toList.foldl pS 0 = (x.data.toList.drop k).foldl pS N)) (fun _ i => x.size - (intOf i).toNat)
  case atStart => exact ⟨0, 0, Nat.zero_le _, rfl, rfl, by decide, rfl⟩
  case round =>
    obtain ⟨k, N, hk, rfl, rfl, hN, hz⟩ := hrel
    by_cases hlt : k < x.size
    · have HZ : Hid (x.data.toList.foldl pS 0 = (x.data.toList.drop (k + 1)).foldl pS (pS N x[k])) := by
        unfold Hid; rw [hz.out, drop_cons (byte_at x k hlt)]; rfl
      have hb := x[k].toNat_lt
      have hp : 10 ^ (k + 1) = 10 ^ k * 10 := Nat.pow_succ ..
      have hp9 : 10 ^ k ≤ 10 ^ 9 := Nat.pow_le_pow_right (by decide) (by omega)
      have hp9' : (10 : Nat) ^ 9 = 1000000000 := by decide
      by_cases hd : x[k].toNat < 48 ∨ 57 < x[k].toNat
      · have HN : Hid (∀ i : Nat, i ≤ 1000 → x ≠ itext i) := fun i _ => nodig hlt hd i
        rcases hd with hd | hd
        · go_wp2
          exact bodyPost_ret (v := .tuple #[.int .i64 0, .bool false]) (by simp [results, Tryd.results47, go_sem, *]) rfl (Hbad.out _ (Ext.refl _) HN)
        · have hd2 : ¬ x[k].toNat < 48 := by omega
          go_wp2
          exact bodyPost_ret (v := .tuple #[.int .i64 0, .bool false]) (by simp [results, Tryd.results47, go_sem, *]) rfl (Hbad.out _ (Ext.refl _) HN)
      · have hd1 : ¬ x[k].toNat < 48 := by omega
        have hd2 : ¬ 57 < x[k].toNat := by omega
        have hq : pS N x[k] = 10 * N + (x[k].toNat - 48) := rfl
        generalize 10 ^ k = q at hN hp hp9
        go_wp2
        go_round
        case rel => exact ⟨k + 1, pS N x[k], by omega, by go_num, by (unfold pS; first | rfl | (congr 1; omega) | (push_cast; congr 1; omega)), by rw [hp]; omega, HZ⟩
        case measure => simp [intOf]; omega
    · obtain rfl : k = x.size := by omega
      have hd : Hid (∀ i : Nat, i ≤ 1000 → x = itext i → N = i) := fun i hi he => by
        have h1 := hz.out
        rw [drop_nil (by simp)] at h1
        rw [he, itext_list, dd_val] at h1
        exact h1.symm
      have hN10 : N < 10000000000 := Nat.lt_of_lt_of_le hN (Nat.le_trans (Nat.pow_le_pow_right (by decide) (show x.size ≤ 10 by omega)) (by decide))
      clear hN
      by_cases h9 : 1000000000 < N
      · have HN : Hid (∀ i : Nat, i ≤ 1000 → x ≠ itext i) := fun i hi he => by have := hd.out i hi he; omega
        have h9' : (1000000000 : Int) < N := by omega
        go_wp2
        exact bodyPost_ret (v := .tuple #[.int .i64 0, .bool false]) (by simp [results, Tryd.results47, go_sem, *]) rfl (Hbad.out _ (Ext.refl _) HN)
      · have h9' : ¬ (1000000000 : Int) < N := by omega
        have hF := Lib.hid (spec_FormatInt N w (by omega))
        cases hT : ((itext N).toList == x.toList)
        case false =>
          have HN : Hid (∀ i : Nat, i ≤ 1000 → x ≠ itext i) := fun i hi he => by
            have := hd.out i hi he; rw [this, ← he] at hT; simp at hT
          obtain ⟨T, hTT⟩ : ∃ T, T = itext N := ⟨_, rfl⟩
          rw [← hTT] at hT hF
          clear hTT
          go_wp2_with (refine hF.out.mono ?_; rintro e w1 ⟨rfl, hb1⟩; have HB1 := Lib.hid hb1; clear hb1)
          exact bodyPost_ret (v := .tuple #[.int .i64 0, .bool false]) (by simp [results, Tryd.results47, go_sem, *]) rfl (Hbad.out _ HB1.out HN)
        case true =>
          obtain ⟨T, hTT⟩ : ∃ T, T = itext N := ⟨_, rfl⟩
          rw [← hTT] at hT hF
          clear hTT
          go_wp2_with (refine hF.out.mono ?_; rintro e w1 ⟨rfl, hb1⟩; have HB1 := Lib.hid hb1; clear hb1)
          exact bodyPost_ret (v := .tuple #[.int .i64 N, .bool true]) (by simp [results, Tryd.results47, go_sem, *]) rfl ⟨N, true, rfl, by omega, HB1.out, fun i hi he => ⟨hd.out i hi he, rfl⟩⟩
end Go.Proofs.YtcmbjkidgemdaaaDoor
