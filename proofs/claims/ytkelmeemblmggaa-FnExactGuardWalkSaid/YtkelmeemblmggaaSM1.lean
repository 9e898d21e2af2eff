/- Contracts of DigestOf, SealAfter, FirstBroken and IsSealed; no condition but what stands at each theorem. -/
import Derived.Test.YtkelmeemblmggaaT2
import Derived.Test.YtkelmeemblmggaaS1
import Derived.IntWalk
import Derived.KernelRfl
namespace Go.Proofs.Ytkelmeemblmggaa
set_option linter.unusedSimpArgs false
set_option linter.unusedVariables false
open Go.RowKit Go.Sort
def digS (n : Nat) (b : UInt8) : Nat := (n * 257 + b.toNat + 1) % 1000003
def digL (l : List UInt8) : Nat := l.foldl digS 7
def digest (x : ByteArray) : Int := if x.size ≤ 200 then (digL x.data.toList : Int) else -1
theorem digS_lt (n : Nat) (b : UInt8) : digS n b < 1000003 := Nat.mod_lt _ (by decide)
theorem digL_lt (l : List UInt8) : digL l < 1000003 := by
  unfold digL
  have key : ∀ (l : List UInt8) (n : Nat), n < 1000003 → l.foldl digS n < 1000003 := by
    intro l
    induction l with
    | nil => intro n h; exact h
    | cons b l ih => intro n _; exact ih _ (digS_lt n b)
  exact key l 7 (by decide)
theorem digest_bd (x : ByteArray) : -1 ≤ digest x ∧ digest x ≤ 1000002 := by
  unfold digest
  have := digL_lt x.data.toList
  split <;> omega
theorem bytes_at (s : ByteArray) (k : Nat) (h : k < s.size) : s.data.toList[k]? = some s[k] := by
  have : k < s.data.toList.length := by simpa using h
  rw [List.getElem?_eq_getElem this]
  rfl
def sealB (s m : Int) (x : ByteArray) : Int := if inB s 0 1000002 && (inB m 0 1000000 && decide (0 ≤ digest x)) then (s * 1009 + m * 31 + digest x) % 1000003 else -1
theorem sealB_bd (s m : Int) (x : ByteArray) : -1 ≤ sealB s m x ∧ sealB s m x ≤ 1000002 := by
  unfold sealB
  split <;> omega
def early (p : Option Int) (m : Int) : Bool := match p with | none => false | some q => decide (m < q)
def brokF : Int → Option Int → Nat → List GEntry → Int
  | _, _, _, [] => -1
  | s, p, k, e :: r => if decide (sealB s e.m e.x < 0) || ((sealB s e.m e.x != e.s) || early p e.m) then (k : Int) else brokF e.s (some e.m) (k + 1) r
def brokenI (rs : List GEntry) : Int := brokF 1 none 0 rs
theorem brokF_bd : ∀ (rs : List GEntry) (s : Int) (p : Option Int) (k : Nat), -1 ≤ brokF s p k rs ∧ brokF s p k rs < (k : Int) + rs.length
  | [], s, p, k => by simp [brokF]; omega
  | e :: r, s, p, k => by
    unfold brokF
    split
    · simp; omega
    · have := brokF_bd r e.s (some e.m) (k + 1)
      simp
      omega
def sealedB (rs : List GEntry) : Bool := decide (rs.length ≤ 30) && (brokenI rs == -1)
def prevM (rs : List GEntry) : Nat → Option Int
  | 0 => none
  | k + 1 => (rs[k]?).map (·.m)
theorem box3 (w : World) (a b c : Value) (t : TypeId) (wb : World) (hwb : wb = w.alloc (.cells #[a, b, c] t)) :
    Ext w wb ∧ wb.heap.size = w.heap.size + 1 ∧ wb.cell? ⟨w.heap.size, 0, none⟩ = some a ∧ wb.cell? ⟨w.heap.size, 1, none⟩ = some b ∧ wb.cell? ⟨w.heap.size, 2, none⟩ = some c := by
  subst hwb
  refine ⟨(Ext.refl w).alloc _, by simp, ?_, ?_, ?_⟩
  all_goals rw [World.cell?_alloc_new]; rfl
set_option maxRecDepth 100000 in
set_option maxHeartbeats 1000000 in
theorem spec_DigestOf (x : ByteArray) (w : World) (hx : x.size ≤ 9223372036854775807) : Calls Try.prog 78 #[.string x] w fun e w' => e = .returned (.int .i64 (digest x)) ∧ w = w' := by
  by_cases h2 : x.size ≤ 200
  case neg =>
    have HF : Hid (digest x = -1) := by unfold Hid digest; rw [if_neg h2]
    go_enter Try.func78, Try.ntmps78
    go_wp2
    go_ret
    exact ⟨ret_int (by rw [HF.out]), rfl⟩
  case pos =>
    have HF : Hid (digest x = (x.data.toList.foldl digS 7 : Nat)) := by unfold Hid digest; rw [if_pos h2]; rfl
    go_enter Try.func78, Try.ntmps78
    go_wp2
    go_loop [3, 4] (fun n i => ∃ k N : Nat, k ≤ x.size ∧ i = .int .i64 k ∧ n = .int .i64 (N : Int) ∧ N < 1000003 ∧ Hid (x.data.toList.foldl digS 7 = (x.data.toList.drop k).foldl digS N)) (fun _ i => x.size - (intOf i).toNat)
    case atStart => exact ⟨0, 7, Nat.zero_le _, rfl, rfl, by decide, rfl⟩
    case round =>
      obtain ⟨k, N, hk, rfl, rfl, hN, hz⟩ := hrel
      by_cases hlt : k < x.size
      · have HZ : Hid (x.data.toList.foldl digS 7 = (x.data.toList.drop (k + 1)).foldl digS (digS N x[k])) := by
          unfold Hid; rw [hz.out, drop_cons (bytes_at x k hlt)]; rfl
        have hb := x[k].toNat_lt
        have hl := digS_lt N x[k]
        go_wp2
        go_round
        case rel => exact ⟨k + 1, digS N x[k], by omega, by go_num, by (unfold digS; first | rfl | (push_cast; rfl)), hl, HZ⟩
        case measure => simp [intOf]; omega
      · obtain rfl : k = x.size := by omega
        have hd : x.data.toList.foldl digS 7 = N := by rw [hz.out, drop_nil (by simp)]; rfl
        go_wp2
        go_ret
        exact ⟨ret_int (by rw [HF.out, hd]), rfl⟩
set_option maxRecDepth 100000 in
set_option maxHeartbeats 1000000 in
theorem spec_SealAfter (s m : Int) (x : ByteArray) (w : World) (hx : x.size ≤ 9223372036854775807) : Calls Try.prog 73 #[.int .i64 s, .int .i64 m, .string x] w fun e w' => e = .returned (.int .i64 (sealB s m x)) ∧ w = w' := by
  obtain ⟨d, hd⟩ : ∃ d, d = digest x := ⟨_, rfl⟩
  have hbd := digest_bd x
  have cD := Lib.hid (spec_DigestOf x w hx)
  have HS : Hid (sealB s m x = if inB s 0 1000002 && (inB m 0 1000000 && decide (0 ≤ d)) then (s * 1009 + m * 31 + d) % 1000003 else -1) := by unfold Hid sealB; rw [hd]
  rw [← hd] at hbd cD
  clear hd
  have c1 := Lib.hid (fun w => spec_l01In s 0 1000002 w)
  have c2 := Lib.hid (fun w => spec_l01In m 0 1000000 w)
  cases h1 : inB s 0 1000002
  case false =>
    rw [h1] at HS c1
    clear h1
    go_enter Try.func73, Try.ntmps73
    go_wp2_with (first | (go_at_call 78; refine cD.out.mono ?_; rintro e w1 ⟨rfl, rfl⟩) | (go_at_call 42; with_reducible refine (c1.out _).mono ?_; rintro e w1 ⟨rfl, rfl⟩))
    go_ret
    exact ⟨ret_int (by rw [HS.out]; rfl), rfl⟩
  have hs0 : 0 ≤ s ∧ s ≤ 1000002 := by simpa [inB] using h1
  cases h2 : inB m 0 1000000
  case false =>
    rw [h1] at HS c1
    rw [h2] at HS c2
    clear h1 h2
    go_enter Try.func73, Try.ntmps73
    go_wp2_with (first | (go_at_call 78; refine cD.out.mono ?_; rintro e w1 ⟨rfl, rfl⟩) | (go_at_call 42; with_reducible refine (c1.out _).mono ?_; rintro e w1 ⟨rfl, rfl⟩) | (go_at_call 42; with_reducible refine (c2.out _).mono ?_; rintro e w1 ⟨rfl, rfl⟩))
    go_ret
    exact ⟨ret_int (by rw [HS.out]; rfl), rfl⟩
  have hm0 : 0 ≤ m ∧ m ≤ 1000000 := by simpa [inB] using h2
  rw [h1] at HS c1
  rw [h2] at HS c2
  clear h1 h2
  obtain ⟨t, ht⟩ : ∃ t, t = decide (0 ≤ d) := ⟨_, rfl⟩
  rw [← ht] at HS
  cases t
  all_goals
    first | (have h3 : d < 0 := by simpa using ht.symm) | (have h3 : 0 ≤ d := by simpa using ht.symm)
    clear ht
    obtain ⟨s0, s1⟩ := hs0
    obtain ⟨m0, m1⟩ := hm0
    obtain ⟨d0, d1⟩ := hbd
    go_enter Try.func73, Try.ntmps73
    go_wp2_with (first | (go_at_call 78; refine cD.out.mono ?_; rintro e w1 ⟨rfl, rfl⟩) | (go_at_call 42; with_reducible refine (c1.out _).mono ?_; rintro e w1 ⟨rfl, rfl⟩) | (go_at_call 42; with_reducible refine (c2.out _).mono ?_; rintro e w1 ⟨rfl, rfl⟩))
    go_ret
    exact ⟨ret_int (by rw [HS.out]; rfl), rfl⟩
set_option maxRecDepth 100000 in
set_option maxHeartbeats 4000000 in
theorem spec_FirstBroken (A : Option Addr) (n c : Nat) (rs : List GEntry) (w : World) (hx : Rd w 3 A n (rs.flatMap GEntry.enc)) :
    Calls Try.prog 66 #[.slice A n c] w fun e w' => e = .returned (.int .i64 (brokenI rs)) ∧ Ext w w' := by
  have hn := hx.2.1
  have hl := Lib.hid (hx.len GEntry.len (by omega))
  have HX := Lib.hid hx
  clear hx
  go_enter Try.func66, Try.ntmps66
  go_wp2_with fail
  go_loopw [3, 4] (fun s i wr => ∃ (k : Nat) (z : Int), k ≤ n ∧ i = .int .i64 k ∧ s = .int .i64 z ∧ Hid (brokenI rs = brokF z (prevM rs k) k (rs.drop k)) ∧ Ext w wr) (fun _ i _ => n - (intOf i).toNat)
  case atStart => exact ⟨0, 1, Nat.zero_le _, rfl, rfl, rfl, Ext.refl _⟩
  case round =>
    obtain ⟨k, z, hk, rfl, rfl, hz, hb⟩ := hrel
    by_cases hlt : k < n
    case neg =>
      obtain rfl : k = n := by omega
      go_wp2_with fail
      go_ret
      exact ⟨ret_int (by rw [hz.out, drop_nil (by rw [hl.out]; omega)]; rfl), hb⟩
    obtain ⟨b, off, x, rfl, hbs, hxk, p0, p1, p2⟩ := GEntry.at_ (HX.out.keep hb) hlt
    have HD := Lib.hid (drop_cons hxk)
    have HP : Hid (prevM rs (k + 1) = some x.m) := by unfold Hid; show (rs[k]?).map (·.m) = some x.m; rw [hxk]; rfl
    obtain ⟨y, hy⟩ : ∃ y, y = sealB z x.m x.x := ⟨_, rfl⟩
    have cS := Lib.hid (fun w => spec_SealAfter z x.m x.x w x.h)
    rw [← hy] at cS
    have HF : Hid (∀ t, (decide (y < 0) || ((y != x.s) || early (prevM rs k) x.m)) = t → brokenI rs = if t then (k : Int) else brokF x.s (some x.m) (k + 1) (rs.drop (k + 1))) := by
      unfold Hid; intro t ht; rw [hz.out, HD.out, brokF, ← hy, ht]
    obtain ⟨wd, hwd⟩ : ∃ wd, wd = wr.alloc (.cells #[.int .i64 x.m, .string x.x, .int .i64 x.s] 71) := ⟨_, rfl⟩
    obtain ⟨hEd, hsd, q0, q1, q2⟩ := box3 wr _ _ _ _ wd hwd
    have HBd := Lib.hid (hb.trans hEd)
    have Hwd := Lib.hid hwd
    clear hwd hy
    have i0 : (0 : Int) ≤ (k : Int) := by omega
    by_cases c1 : y < 0
    case pos =>
      have HT := Lib.hid (HF.out true (by simp [c1]))
      have d1 : decide (y < 0) = true := by simpa using c1
      clear hb hxk hEd
      go_wp2_with fail
      rw [← Hwd.out]
      refine (cS.out _).mono ?_
      rintro e w3 ⟨rfl, rfl⟩
      go_wp2_with fail
      go_quiet (fail)
      go_wp2_with fail
      go_ret
      exact ⟨ret_int (by rw [HT.out]; rfl), HBd.out.drewN _⟩
    have d1 : decide (y < 0) = false := by simpa using c1
    cases c2 : (y != x.s)
    case true =>
      have HT := Lib.hid (HF.out true (by simp [c2]))
      clear hb hxk hEd
      go_wp2_with fail
      rw [← Hwd.out]
      refine (cS.out _).mono ?_
      rintro e w3 ⟨rfl, rfl⟩
      go_wp2_with fail
      go_quiet (fail)
      go_wp2_with fail
      go_ret
      exact ⟨ret_int (by rw [HT.out]; rfl), HBd.out.drewN _⟩
    case false =>
    have HC2 := Lib.hid c2
    by_cases hk0 : k = 0
    case pos =>
      subst hk0
      simp only [Nat.zero_mul, Nat.add_zero] at p0 p1 p2
      have HT := Lib.hid (HF.out false (by simp [d1, c2, prevM, early]))
      clear hb hxk hEd
      go_wp2_with fail
      rw [← Hwd.out]
      refine (cS.out _).mono ?_
      rintro e w3 ⟨rfl, rfl⟩
      go_wp2_with fail
      go_quiet (fail)
      go_wp2_with fail
      go_roundw
      case rel => exact ⟨1, x.s, by omega, by first | rfl | go_num, rfl, by unfold Hid; rw [HT.out, HP.out]; rfl, HBd.out.drewN _⟩
      case measure => simp [intOf]; omega
    obtain ⟨b', off', x', hA, hbs', hxk', p0', -, -⟩ := GEntry.at_ (HX.out.keep hb) (show k - 1 < n by omega)
    injection hA with hA
    injection hA with hA1 hA2
    subst hA1 hA2
    have hpr : prevM rs k = some x'.m := by
      obtain ⟨j, rfl⟩ : ∃ j, k = j + 1 := ⟨k - 1, by omega⟩
      rw [Nat.add_sub_cancel] at hxk'
      show (rs[j]?).map (·.m) = some x'.m
      rw [hxk']; rfl
    have dk : decide ((0 : Int) < (k : Int)) = true := by simp; omega
    have dkn : decide (0 < k) = true := by simp; omega
    have ew : IntKind.i64.wrap ((k : Int) - 1) = (k : Int) - 1 := IntWalk.i64_in _ (by omega)
    have i1 : (0 : Int) ≤ (k : Int) - 1 := by omega
    have i4 : (1 : Int) ≤ (k : Int) := by omega
    have i2 : (k : Int) - 1 < (n : Int) := by omega
    have i3 : ((k : Int) - 1).toNat = k - 1 := by omega
    have q3 := (hEd.cellAt b (by omega) _).trans p0'
    cases c3 : decide (x.m < x'.m)
    case true =>
      have HT := Lib.hid (HF.out true (by simp [d1, c2, hpr, early, c3]))
      have c3' : x.m < x'.m := by simpa using c3
      clear hb hxk hEd hxk' hpr
      go_wp2_with fail
      rw [← Hwd.out]
      refine (cS.out _).mono ?_
      rintro e w3 ⟨rfl, rfl⟩
      go_wp2_with fail
      go_quiet (fail)
      go_wp2_with fail
      go_ret
      exact ⟨ret_int (by rw [HT.out]; rfl), HBd.out.drewN _⟩
    case false =>
      have HT := Lib.hid (HF.out false (by simp [d1, c2, hpr, early, c3]))
      clear hb hxk hEd hxk' hpr
      go_wp2_with fail
      rw [← Hwd.out]
      refine (cS.out _).mono ?_
      rintro e w3 ⟨rfl, rfl⟩
      go_wp2_with fail
      go_quiet (fail)
      clear ew i3
      go_wp2_with fail
      go_roundw
      case rel => exact ⟨k + 1, x.s, by omega, by go_num, rfl, by unfold Hid; rw [HT.out, HP.out]; rfl, HBd.out.drewN _⟩
      case measure => simp [intOf]; omega
set_option maxRecDepth 100000 in
set_option maxHeartbeats 1000000 in
theorem spec_IsSealed (A : Option Addr) (n c : Nat) (rs : List GEntry) (w : World) (hx : Rd w 3 A n (rs.flatMap GEntry.enc)) :
    Calls Try.prog 54 #[.slice A n c] w fun e w' => e = .returned (.bool (sealedB rs)) ∧ Ext w w' := by
  have hn := hx.2.1
  have hl := Lib.hid (hx.len GEntry.len (by omega))
  have HS : Hid (sealedB rs = (decide (n ≤ 30) && (brokenI rs == -1))) := by unfold Hid sealedB; rw [hl.out]
  have cB := Lib.hid (spec_FirstBroken A n c rs w hx)
  have hbd := brokF_bd rs 1 none 0
  obtain ⟨z, hz⟩ : ∃ z, z = brokenI rs := ⟨_, rfl⟩
  have hz1 : -1 ≤ z := by rw [hz]; exact hbd.1
  rw [← hz] at HS cB
  clear hz hbd hx
  by_cases h3 : n ≤ 30
  case neg =>
    go_enter Try.func54, Try.ntmps54
    go_wp2_with fail
    go_ret
    exact ⟨ret_bool (by rw [HS.out]; simp [h3]), Ext.refl _⟩
  case pos =>
    by_cases hzz : z = -1
    · have e1 : (z == -1) = true := by simpa using hzz
      have e2 : z < 0 := by omega
      clear hzz
      go_enter Try.func54, Try.ntmps54
      go_wp2_with fail
      refine cB.out.mono ?_
      rintro e w1 ⟨rfl, he1⟩
      have HE1 := Lib.hid he1
      clear he1
      go_wp2_with fail
      go_ret
      exact ⟨ret_bool (by rw [HS.out, e1]; simp [h3, e2]), HE1.out⟩
    · have e1 : (z == -1) = false := by simpa using hzz
      have e2 : ¬ z < 0 := by omega
      clear hzz
      go_enter Try.func54, Try.ntmps54
      go_wp2_with fail
      refine cB.out.mono ?_
      rintro e w1 ⟨rfl, he1⟩
      have HE1 := Lib.hid he1
      clear he1
      go_wp2_with fail
      go_ret
      exact ⟨ret_bool (by rw [HS.out, e1]; simp [e2]), HE1.out⟩
set_option maxRecDepth 100000 in
set_option maxHeartbeats 1000000 in
theorem impl_DigestOf (x : ByteArray) (w : World) (hx : x.size ≤ 9223372036854775807) : Calls Try.prog 79 #[.string x] w fun e w' => e = .returned (.int .i64 (digest x)) ∧ w = w' := by
  by_cases h2 : x.size ≤ 200
  case neg =>
    have HF : Hid (digest x = -1) := by unfold Hid digest; rw [if_neg h2]
    go_enter Try.func79, Try.ntmps79
    go_wp2
    go_ret
    exact ⟨ret_int (by rw [HF.out]), rfl⟩
  case pos =>
    have HF : Hid (digest x = (x.data.toList.foldl digS 7 : Nat)) := by unfold Hid digest; rw [if_pos h2]; rfl
    go_enter Try.func79, Try.ntmps79
    go_wp2
    go_loop [3, 4] (fun n i => ∃ k N : Nat, k ≤ x.size ∧ i = .int .i64 k ∧ n = .int .i64 (N : Int) ∧ N < 1000003 ∧ Hid (x.data.toList.foldl digS 7 = (x.data.toList.drop k).foldl digS N)) (fun _ i => x.size - (intOf i).toNat)
    case atStart => exact ⟨0, 7, Nat.zero_le _, rfl, rfl, by decide, rfl⟩
    case round =>
      obtain ⟨k, N, hk, rfl, rfl, hN, hz⟩ := hrel
      by_cases hlt : k < x.size
      · have HZ : Hid (x.data.toList.foldl digS 7 = (x.data.toList.drop (k + 1)).foldl digS (digS N x[k])) := by
          unfold Hid; rw [hz.out, drop_cons (bytes_at x k hlt)]; rfl
        have hb := x[k].toNat_lt
        have hl := digS_lt N x[k]
        go_wp2
        go_round
        case rel => exact ⟨k + 1, digS N x[k], by omega, by go_num, by (unfold digS; first | rfl | (push_cast; rfl)), hl, HZ⟩
        case measure => simp [intOf]; omega
      · obtain rfl : k = x.size := by omega
        have hd : x.data.toList.foldl digS 7 = N := by rw [hz.out, drop_nil (by simp)]; rfl
        go_wp2
        go_ret
        exact ⟨ret_int (by rw [HF.out, hd]), rfl⟩
set_option maxRecDepth 100000 in
set_option maxHeartbeats 1000000 in
theorem impl_SealAfter (s m : Int) (x : ByteArray) (w : World) (hx : x.size ≤ 9223372036854775807) : Calls Try.prog 74 #[.int .i64 s, .int .i64 m, .string x] w fun e w' => e = .returned (.int .i64 (sealB s m x)) ∧ w = w' := by
  obtain ⟨d, hd⟩ : ∃ d, d = digest x := ⟨_, rfl⟩
  have hbd := digest_bd x
  have cD := Lib.hid (impl_DigestOf x w hx)
  have HS : Hid (sealB s m x = if inB s 0 1000002 && (inB m 0 1000000 && decide (0 ≤ d)) then (s * 1009 + m * 31 + d) % 1000003 else -1) := by unfold Hid sealB; rw [hd]
  rw [← hd] at hbd cD
  clear hd
  have c1 := Lib.hid (fun w => impl_between s 0 1000002 w)
  have c2 := Lib.hid (fun w => impl_between m 0 1000000 w)
  cases h1 : inB s 0 1000002
  case false =>
    rw [h1] at HS c1
    clear h1
    go_enter Try.func74, Try.ntmps74
    go_wp2_with (first | (go_at_call 79; refine cD.out.mono ?_; rintro e w1 ⟨rfl, rfl⟩) | (go_at_call 44; with_reducible refine (c1.out _).mono ?_; rintro e w1 ⟨rfl, rfl⟩))
    go_ret
    exact ⟨ret_int (by rw [HS.out]; rfl), rfl⟩
  have hs0 : 0 ≤ s ∧ s ≤ 1000002 := by simpa [inB] using h1
  cases h2 : inB m 0 1000000
  case false =>
    rw [h1] at HS c1
    rw [h2] at HS c2
    clear h1 h2
    go_enter Try.func74, Try.ntmps74
    go_wp2_with (first | (go_at_call 79; refine cD.out.mono ?_; rintro e w1 ⟨rfl, rfl⟩) | (go_at_call 44; with_reducible refine (c1.out _).mono ?_; rintro e w1 ⟨rfl, rfl⟩) | (go_at_call 44; with_reducible refine (c2.out _).mono ?_; rintro e w1 ⟨rfl, rfl⟩))
    go_ret
    exact ⟨ret_int (by rw [HS.out]; rfl), rfl⟩
  have hm0 : 0 ≤ m ∧ m ≤ 1000000 := by simpa [inB] using h2
  rw [h1] at HS c1
  rw [h2] at HS c2
  clear h1 h2
  obtain ⟨t, ht⟩ : ∃ t, t = decide (0 ≤ d) := ⟨_, rfl⟩
  rw [← ht] at HS
  cases t
  all_goals
    first | (have h3 : d < 0 := by simpa using ht.symm) | (have h3 : 0 ≤ d := by simpa using ht.symm)
    clear ht
    obtain ⟨s0, s1⟩ := hs0
    obtain ⟨m0, m1⟩ := hm0
    obtain ⟨d0, d1⟩ := hbd
    go_enter Try.func74, Try.ntmps74
    go_wp2_with (first | (go_at_call 79; refine cD.out.mono ?_; rintro e w1 ⟨rfl, rfl⟩) | (go_at_call 44; with_reducible refine (c1.out _).mono ?_; rintro e w1 ⟨rfl, rfl⟩) | (go_at_call 44; with_reducible refine (c2.out _).mono ?_; rintro e w1 ⟨rfl, rfl⟩))
    go_ret
    exact ⟨ret_int (by rw [HS.out]; rfl), rfl⟩
set_option maxRecDepth 100000 in
set_option maxHeartbeats 4000000 in
theorem impl_FirstBroken (A : Option Addr) (n c : Nat) (rs : List GEntry) (w : World) (hx : Rd w 3 A n (rs.flatMap GEntry.enc)) :
    Calls Try.prog 68 #[.slice A n c] w fun e w' => e = .returned (.int .i64 (brokenI rs)) ∧ Ext w w' := by
  have hn := hx.2.1
  have hl := Lib.hid (hx.len GEntry.len (by omega))
  have HX := Lib.hid hx
  clear hx
  go_enter Try.func68, Try.ntmps68
  go_wp2_with fail
  go_loopw [3, 9] (fun s i wr => ∃ (k : Nat) (z : Int), k ≤ n ∧ i = .int .i64 k ∧ s = .int .i64 z ∧ Hid (brokenI rs = brokF z (prevM rs k) k (rs.drop k)) ∧ Ext w wr) (fun _ i _ => n - (intOf i).toNat)
  case atStart => exact ⟨0, 1, Nat.zero_le _, rfl, rfl, rfl, Ext.refl _⟩
  case round =>
    obtain ⟨k, z, hk, rfl, rfl, hz, hb⟩ := hrel
    by_cases hlt : k < n
    case neg =>
      obtain rfl : k = n := by omega
      go_wp2_with fail
      go_ret
      exact ⟨ret_int (by rw [hz.out, drop_nil (by rw [hl.out]; omega)]; rfl), hb⟩
    obtain ⟨b, off, x, rfl, hbs, hxk, p0, p1, p2⟩ := GEntry.at_ (HX.out.keep hb) hlt
    have HD := Lib.hid (drop_cons hxk)
    have HP : Hid (prevM rs (k + 1) = some x.m) := by unfold Hid; show (rs[k]?).map (·.m) = some x.m; rw [hxk]; rfl
    obtain ⟨y, hy⟩ : ∃ y, y = sealB z x.m x.x := ⟨_, rfl⟩
    have cS := Lib.hid (fun w => impl_SealAfter z x.m x.x w x.h)
    rw [← hy] at cS
    have HF : Hid (∀ t, (decide (y < 0) || ((y != x.s) || early (prevM rs k) x.m)) = t → brokenI rs = if t then (k : Int) else brokF x.s (some x.m) (k + 1) (rs.drop (k + 1))) := by
      unfold Hid; intro t ht; rw [hz.out, HD.out, brokF, ← hy, ht]
    obtain ⟨wd, hwd⟩ : ∃ wd, wd = wr.alloc (.cells #[.int .i64 x.m, .string x.x, .int .i64 x.s] 71) := ⟨_, rfl⟩
    obtain ⟨hEd, hsd, q0, q1, q2⟩ := box3 wr _ _ _ _ wd hwd
    have HBd := Lib.hid (hb.trans hEd)
    have Hwd := Lib.hid hwd
    clear hwd hy
    have i0 : (0 : Int) ≤ (k : Int) := by omega
    by_cases c1 : y < 0
    case pos =>
      have HT := Lib.hid (HF.out true (by simp [c1]))
      have d1 : decide (y < 0) = true := by simpa using c1
      clear hb hxk hEd
      go_wp2_with fail
      rw [← Hwd.out]
      refine (cS.out _).mono ?_
      rintro e w3 ⟨rfl, rfl⟩
      go_wp2_with fail
      go_quiet (fail)
      go_wp2_with fail
      go_ret
      exact ⟨ret_int (by rw [HT.out]; rfl), HBd.out.drewN _⟩
    have d1 : decide (y < 0) = false := by simpa using c1
    cases c2 : (y != x.s)
    case true =>
      have HT := Lib.hid (HF.out true (by simp [c2]))
      clear hb hxk hEd
      go_wp2_with fail
      rw [← Hwd.out]
      refine (cS.out _).mono ?_
      rintro e w3 ⟨rfl, rfl⟩
      go_wp2_with fail
      go_quiet (fail)
      go_wp2_with fail
      go_ret
      exact ⟨ret_int (by rw [HT.out]; rfl), HBd.out.drewN _⟩
    case false =>
    have HC2 := Lib.hid c2
    by_cases hk0 : k = 0
    case pos =>
      subst hk0
      simp only [Nat.zero_mul, Nat.add_zero] at p0 p1 p2
      have HT := Lib.hid (HF.out false (by simp [d1, c2, prevM, early]))
      clear hb hxk hEd
      go_wp2_with fail
      rw [← Hwd.out]
      refine (cS.out _).mono ?_
      rintro e w3 ⟨rfl, rfl⟩
      go_wp2_with fail
      go_quiet (fail)
      go_wp2_with fail
      go_roundw
      case rel => exact ⟨1, x.s, by omega, by first | rfl | go_num, rfl, by unfold Hid; rw [HT.out, HP.out]; rfl, HBd.out.drewN _⟩
      case measure => simp [intOf]; omega
    obtain ⟨b', off', x', hA, hbs', hxk', p0', -, -⟩ := GEntry.at_ (HX.out.keep hb) (show k - 1 < n by omega)
    injection hA with hA
    injection hA with hA1 hA2
    subst hA1 hA2
    have hpr : prevM rs k = some x'.m := by
      obtain ⟨j, rfl⟩ : ∃ j, k = j + 1 := ⟨k - 1, by omega⟩
      rw [Nat.add_sub_cancel] at hxk'
      show (rs[j]?).map (·.m) = some x'.m
      rw [hxk']; rfl
    have dk : decide ((0 : Int) < (k : Int)) = true := by simp; omega
    have dkn : decide (0 < k) = true := by simp; omega
    have ew : IntKind.i64.wrap ((k : Int) - 1) = (k : Int) - 1 := IntWalk.i64_in _ (by omega)
    have i1 : (0 : Int) ≤ (k : Int) - 1 := by omega
    have i4 : (1 : Int) ≤ (k : Int) := by omega
    have i2 : (k : Int) - 1 < (n : Int) := by omega
    have i3 : ((k : Int) - 1).toNat = k - 1 := by omega
    have q3 := (hEd.cellAt b (by omega) _).trans p0'
    cases c3 : decide (x.m < x'.m)
    case true =>
      have HT := Lib.hid (HF.out true (by simp [d1, c2, hpr, early, c3]))
      have c3' : x.m < x'.m := by simpa using c3
      clear hb hxk hEd hxk' hpr
      go_wp2_with fail
      rw [← Hwd.out]
      refine (cS.out _).mono ?_
      rintro e w3 ⟨rfl, rfl⟩
      go_wp2_with fail
      go_quiet (fail)
      go_wp2_with fail
      go_ret
      exact ⟨ret_int (by rw [HT.out]; rfl), HBd.out.drewN _⟩
    case false =>
      have HT := Lib.hid (HF.out false (by simp [d1, c2, hpr, early, c3]))
      clear hb hxk hEd hxk' hpr
      go_wp2_with fail
      rw [← Hwd.out]
      refine (cS.out _).mono ?_
      rintro e w3 ⟨rfl, rfl⟩
      go_wp2_with fail
      go_quiet (fail)
      clear ew i3
      go_wp2_with fail
      go_roundw
      case rel => exact ⟨k + 1, x.s, by omega, by go_num, rfl, by unfold Hid; rw [HT.out, HP.out]; rfl, HBd.out.drewN _⟩
      case measure => simp [intOf]; omega
set_option maxRecDepth 100000 in
set_option maxHeartbeats 1000000 in
theorem impl_IsSealed (A : Option Addr) (n c : Nat) (rs : List GEntry) (w : World) (hx : Rd w 3 A n (rs.flatMap GEntry.enc)) :
    Calls Try.prog 59 #[.slice A n c] w fun e w' => e = .returned (.bool (sealedB rs)) ∧ Ext w w' := by
  have hn := hx.2.1
  have hl := Lib.hid (hx.len GEntry.len (by omega))
  have HS : Hid (sealedB rs = (decide (n ≤ 30) && (brokenI rs == -1))) := by unfold Hid sealedB; rw [hl.out]
  have cB := Lib.hid (impl_FirstBroken A n c rs w hx)
  have hbd := brokF_bd rs 1 none 0
  obtain ⟨z, hz⟩ : ∃ z, z = brokenI rs := ⟨_, rfl⟩
  have hz1 : -1 ≤ z := by rw [hz]; exact hbd.1
  rw [← hz] at HS cB
  clear hz hbd hx
  by_cases h3 : n ≤ 30
  case neg =>
    go_enter Try.func59, Try.ntmps59
    go_wp2_with fail
    go_ret
    exact ⟨ret_bool (by rw [HS.out]; simp [h3]), Ext.refl _⟩
  case pos =>
    by_cases hzz : z = -1
    · have e1 : (z == -1) = true := by simpa using hzz
      have e2 : z < 0 := by omega
      clear hzz
      go_enter Try.func59, Try.ntmps59
      go_wp2_with fail
      refine cB.out.mono ?_
      rintro e w1 ⟨rfl, he1⟩
      have HE1 := Lib.hid he1
      clear he1
      go_wp2_with fail
      go_ret
      exact ⟨ret_bool (by rw [HS.out, e1]; simp [h3, e2]), HE1.out⟩
    · have e1 : (z == -1) = false := by simpa using hzz
      have e2 : ¬ z < 0 := by omega
      clear hzz
      go_enter Try.func59, Try.ntmps59
      go_wp2_with fail
      refine cB.out.mono ?_
      rintro e w1 ⟨rfl, he1⟩
      have HE1 := Lib.hid he1
      clear he1
      go_wp2_with fail
      go_ret
      exact ⟨ret_bool (by rw [HS.out, e1]; simp [e2]), HE1.out⟩
end Go.Proofs.Ytkelmeemblmggaa
