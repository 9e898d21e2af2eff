/- Contracts of the program's FormatInt, and of MoveText of both sides; no condition but what stands at each theorem. -/
import Derived.Test.YtcmbjkidgemdaaaDoorST1
import Derived.Lib.ItoaLen
namespace Go.Proofs.YtcmbjkidgemdaaaDoor
set_option linter.unusedSimpArgs false
set_option linter.unusedVariables false
open Go.RowKit Go.Sort
theorem itext_nat (i : Nat) : itext (i : Int) = ⟨(Lib.decDigits i).toArray⟩ := by
  unfold itext Lib.itoa
  rw [if_neg (by omega), Int.toNat_natCast]
theorem itext_size (n : Int) (h0 : -9223372036854775808 ≤ n) (h1 : n ≤ 9223372036854775807) : (itext n).size ≤ 21 := by
  have := Lib.itoa_length_le n h0 h1
  show (Lib.itoa n).toArray.size ≤ 21
  simpa using this
theorem impl_FormatIntS (i : Nat) (hi : i < 100) (w : World) : Calls Tryd.prog 38 #[.int .i64 i] w fun e w' => e = .returned (.string (itext i)) ∧ w = w' := by
  have hc := Lib.hid (Tryd.strconv_Itoa_small i hi w)
  have HT := Lib.hid (itext_nat i)
  go_enter Tryd.func38, Tryd.ntmps38
  go_wp2_with (refine hc.out.mono ?_; rintro e w1 ⟨rfl, rfl⟩)
  go_ret
  exact ⟨by rw [HT.out]; rfl, rfl⟩
theorem impl_FormatInt (n : Int) (h0 : -9223372036854775808 ≤ n) (h1 : n ≤ 9223372036854775807) (w : World) (htab : Hid (Lib.TabIs Tryd.prog w "internal/strconv.uint64pow10" .u64 Lib.pow10Tab)) :
    Calls Tryd.prog 38 #[.int .i64 n] w fun e w' => e = .returned (.string (itext n)) ∧ Ext w w' := by
  have hc := Lib.hid (Tryd.strconv_Itoa n h0 h1 w htab.out)
  go_enter Tryd.func38, Tryd.ntmps38
  go_wp2_with fail
  refine hc.out.mono ?_
  rintro e w1 ⟨rfl, k, os, hw⟩
  have HE : Hid (Ext w w1) := by unfold Hid; rw [hw]; exact below_regrown w _ os
  clear hw
  go_wp2_with fail
  go_ret
  exact ⟨rfl, HE.out⟩
def sp1 : ByteArray := ⟨#[32]⟩
/-- Numbers behind a text, each behind a blank; the empty text where one is not from 0 to 20. -/
def mvF (s : ByteArray) : List Int → ByteArray
  | [] => s
  | x :: r => if inB x 0 20 then mvF (s ++ sp1 ++ itext x) r else ByteArray.empty
def moveT (m : GMove) : ByteArray := mvF ⟨#[109, 111, 118, 101]⟩ [m.o, m.t, m.f, m.s]
theorem rd_lit (w : World) (t : TypeId) (xs : List Int) (hn : xs.length ≤ 1048576) : Rd (w.alloc (.cells (xs.map (Value.int .i64)).toArray t)) 1 (some ⟨w.heap.size, 0, none⟩) xs.length (xs.flatMap ienc) := by
  refine ⟨by rw [flat_len ienc 1 ienc_len], by omega, fun _ => ⟨w.heap.size, 0, rfl, by simp, fun j u hu => ?_⟩⟩
  rw [World.cell?_alloc_new, Nat.zero_add]
  rw [ienc_map] at hu
  simpa using hu
set_option maxRecDepth 100000 in
set_option maxHeartbeats 2000000 in
theorem spec_MoveText (m : GMove) (w : World) : Calls Tryd.prog 10 #[.agg #[.int .i64 m.o, .int .i64 m.t, .int .i64 m.f, .int .i64 m.s]] w fun e w' => e = .returned (.string (moveT m)) ∧ Ext w w' := by
  obtain ⟨wa, hwa⟩ : ∃ wa, wa = w.alloc (.cells #[.int .i64 m.o, .int .i64 m.t, .int .i64 m.f, .int .i64 m.s] 25) := ⟨_, rfl⟩
  obtain ⟨wb, hwb⟩ : ∃ wb, wb = wa.alloc (.cells #[.int .i64 m.o, .int .i64 m.t, .int .i64 m.f, .int .i64 m.s] 3) := ⟨_, rfl⟩
  obtain ⟨xs, hxs⟩ : ∃ xs : List Int, xs = [m.o, m.t, m.f, m.s] := ⟨_, rfl⟩
  have hr : Rd wb 1 (some ⟨w.heap.size + 1, 0, none⟩) 4 (xs.flatMap ienc) := by
    have := rd_lit wa 3 [m.o, m.t, m.f, m.s] (by simp)
    rw [show wa.heap.size = w.heap.size + 1 by rw [hwa]; simp] at this
    rw [hwb, hxs]; exact this
  have hE : Ext w wb := by rw [hwb, hwa]; exact ((Ext.refl w).alloc _).alloc _
  have HM : Hid (moveT m = mvF ⟨#[109, 111, 118, 101]⟩ xs) := by unfold Hid moveT; rw [hxs]
  have hl : Hid (xs.length = 4) := by unfold Hid; rw [hxs]; rfl
  have HR := Lib.hid hr
  have HE := Lib.hid hE
  have Hwa := Lib.hid hwa
  have Hwb := Lib.hid hwb
  clear hr hE hwa hwb hxs
  go_enter Tryd.func10, Tryd.ntmps10
  go_wp2_with fail
  rw [← Hwa.out, ← Hwb.out]
  go_loopw [3, 5] (fun s i wr => ∃ (k : Nat) (t : ByteArray), k ≤ 4 ∧ i = .int .i64 k ∧ s = .string t ∧ t.size ≤ 4 + 30 * k ∧ Hid (moveT m = mvF t (xs.drop k)) ∧ Ext wb wr) (fun _ i _ => 4 - (intOf i).toNat)
  case atStart => exact ⟨0, _, Nat.zero_le _, rfl, rfl, by decide, HM, Ext.refl _⟩
  case round =>
    obtain ⟨k, t, hk, rfl, rfl, ht, hz, hb⟩ := hrel
    by_cases hlt : k < 4
    · obtain ⟨b, off, x, hA, hbs, hxk, p0⟩ := ienc_at (HR.out.keep hb) hlt
      injection hA with hA
      injection hA with h1 h2
      subst h1 h2
      rw [Nat.zero_add] at p0
      have HD := Lib.hid (drop_cons hxk)
      have HB := Lib.hid hb
      have cI := Lib.hid (fun w => spec_l01In x 0 20 w)
      have i0 : (0 : Int) ≤ (k : Int) := by omega
      have i1 : (k : Int) < 4 := by omega
      clear hb hxk
      cases hi : inB x 0 20
      case false =>
        rw [hi] at cI
        have HT : Hid (moveT m = ByteArray.empty) := by unfold Hid; rw [hz.out, HD.out, mvF, hi]; rfl
        clear hi
        go_wp2_with (refine (cI.out _).mono ?_; rintro e w1 ⟨rfl, rfl⟩)
        go_ret
        exact ⟨by rw [HT.out]; rfl, HE.out.trans HB.out⟩
      case true =>
        have hx0 : 0 ≤ x ∧ x ≤ 20 := by simpa [inB] using hi
        obtain ⟨z, hzz⟩ := Int.eq_ofNat_of_zero_le hx0.1
        subst hzz
        rw [hi] at cI
        have hsz := itext_size z (by omega) (by omega)
        have HT : Hid (moveT m = mvF (t ++ sp1 ++ itext z) (xs.drop (k + 1))) := by unfold Hid; rw [hz.out, HD.out, mvF, hi]; rfl
        have hts : (t ++ sp1 ++ itext z).size ≤ 4 + 30 * (k + 1) := by
          rw [ByteArray.size_append, ByteArray.size_append]
          have : sp1.size = 1 := rfl
          omega
        have P0 := Lib.hid p0
        clear hi
        obtain ⟨T, hT⟩ : ∃ T, T = itext z := ⟨_, rfl⟩
        have hF := Lib.hid (fun w => spec_FormatInt z w (by omega))
        rw [← hT] at hsz HT hts hF
        have HTT := Lib.hid hT
        clear hT
        go_wp2_with (go_at_call 35; refine (cI.out _).mono ?_; rintro e w1 ⟨rfl, rfl⟩)
        refine (hF.out _).mono ?_
        rintro e w1 ⟨rfl, h1⟩
        have HB1 := Lib.hid (HB.out.trans h1)
        clear h1
        go_wp2_with fail
        go_roundw
        case rel => exact ⟨k + 1, t ++ sp1 ++ T, by omega, by go_num, by first | rfl | (rw [ByteArray.append_assoc]; rfl), hts, HT, HB1.out⟩
        case measure => simp [intOf]; omega
    · obtain rfl : k = 4 := by omega
      have HT : Hid (moveT m = t) := by unfold Hid; rw [hz.out, drop_nil (by rw [hl.out]; omega)]; rfl
      have HB := Lib.hid hb
      clear hb
      go_wp2_with fail
      go_ret
      exact ⟨by rw [HT.out]; rfl, HE.out.trans HB.out⟩
set_option maxRecDepth 100000 in
set_option maxHeartbeats 2000000 in
theorem impl_MoveText (m : GMove) (w : World) : Calls Tryd.prog 12 #[.agg #[.int .i64 m.o, .int .i64 m.t, .int .i64 m.f, .int .i64 m.s]] w fun e w' => e = .returned (.string (moveT m)) ∧ Ext w w' := by
  obtain ⟨wa, hwa⟩ : ∃ wa, wa = w.alloc (.cells #[.int .i64 m.o, .int .i64 m.t, .int .i64 m.f, .int .i64 m.s] 25) := ⟨_, rfl⟩
  obtain ⟨wb, hwb⟩ : ∃ wb, wb = wa.alloc (.cells #[.int .i64 m.o, .int .i64 m.t, .int .i64 m.f, .int .i64 m.s] 3) := ⟨_, rfl⟩
  obtain ⟨xs, hxs⟩ : ∃ xs : List Int, xs = [m.o, m.t, m.f, m.s] := ⟨_, rfl⟩
  have hr : Rd wb 1 (some ⟨w.heap.size + 1, 0, none⟩) 4 (xs.flatMap ienc) := by
    have := rd_lit wa 3 [m.o, m.t, m.f, m.s] (by simp)
    rw [show wa.heap.size = w.heap.size + 1 by rw [hwa]; simp] at this
    rw [hwb, hxs]; exact this
  have hE : Ext w wb := by rw [hwb, hwa]; exact ((Ext.refl w).alloc _).alloc _
  have HM : Hid (moveT m = mvF ⟨#[109, 111, 118, 101]⟩ xs) := by unfold Hid moveT; rw [hxs]
  have hl : Hid (xs.length = 4) := by unfold Hid; rw [hxs]; rfl
  have HR := Lib.hid hr
  have HE := Lib.hid hE
  have Hwa := Lib.hid hwa
  have Hwb := Lib.hid hwb
  clear hr hE hwa hwb hxs
  go_enter Tryd.func12, Tryd.ntmps12
  go_wp2_with fail
  rw [← Hwa.out, ← Hwb.out]
  go_loopw [3, 16] (fun s i wr => ∃ (k : Nat) (t : ByteArray), k ≤ 4 ∧ i = .int .i64 k ∧ s = .string t ∧ t.size ≤ 4 + 30 * k ∧ Hid (moveT m = mvF t (xs.drop k)) ∧ Ext wb wr) (fun _ i _ => 4 - (intOf i).toNat)
  case atStart => exact ⟨0, _, Nat.zero_le _, rfl, rfl, by decide, HM, Ext.refl _⟩
  case round =>
    obtain ⟨k, t, hk, rfl, rfl, ht, hz, hb⟩ := hrel
    by_cases hlt : k < 4
    · obtain ⟨b, off, x, hA, hbs, hxk, p0⟩ := ienc_at (HR.out.keep hb) hlt
      injection hA with hA
      injection hA with h1 h2
      subst h1 h2
      rw [Nat.zero_add] at p0
      have HD := Lib.hid (drop_cons hxk)
      have HB := Lib.hid hb
      have cI := Lib.hid (fun w => impl_between x 0 20 w)
      have i0 : (0 : Int) ≤ (k : Int) := by omega
      have i1 : (k : Int) < 4 := by omega
      clear hb hxk
      cases hi : inB x 0 20
      case false =>
        rw [hi] at cI
        have HT : Hid (moveT m = ByteArray.empty) := by unfold Hid; rw [hz.out, HD.out, mvF, hi]; rfl
        clear hi
        go_wp2_with (refine (cI.out _).mono ?_; rintro e w1 ⟨rfl, rfl⟩)
        go_ret
        exact ⟨by rw [HT.out]; rfl, HE.out.trans HB.out⟩
      case true =>
        have hx0 : 0 ≤ x ∧ x ≤ 20 := by simpa [inB] using hi
        obtain ⟨z, hzz⟩ := Int.eq_ofNat_of_zero_le hx0.1
        subst hzz
        rw [hi] at cI
        have hsz := itext_size z (by omega) (by omega)
        have HT : Hid (moveT m = mvF (t ++ sp1 ++ itext z) (xs.drop (k + 1))) := by unfold Hid; rw [hz.out, HD.out, mvF, hi]; rfl
        have hts : (t ++ sp1 ++ itext z).size ≤ 4 + 30 * (k + 1) := by
          rw [ByteArray.size_append, ByteArray.size_append]
          have : sp1.size = 1 := rfl
          omega
        have P0 := Lib.hid p0
        clear hi
        obtain ⟨T, hT⟩ : ∃ T, T = itext z := ⟨_, rfl⟩
        have hF := Lib.hid (fun w => impl_FormatIntS z (by omega) w)
        rw [← hT] at hsz HT hts hF
        have HTT := Lib.hid hT
        clear hT
        go_wp2_with (go_at_call 37; refine (cI.out _).mono ?_; rintro e w1 ⟨rfl, rfl⟩)
        refine (hF.out _).mono ?_
        rintro e w1 ⟨rfl, rfl⟩
        go_wp2_with fail
        go_roundw
        case rel => exact ⟨k + 1, t ++ sp1 ++ T, by omega, by go_num, by first | rfl | (rw [ByteArray.append_assoc]; rfl), hts, HT, HB.out⟩
        case measure => simp [intOf]; omega
    · obtain rfl : k = 4 := by omega
      have HT : Hid (moveT m = t) := by unfold Hid; rw [hz.out, drop_nil (by rw [hl.out]; omega)]; rfl
      have HB := Lib.hid hb
      clear hb
      go_wp2_with fail
      go_ret
      exact ⟨by rw [HT.out]; rfl, HE.out.trans HB.out⟩
end Go.Proofs.YtcmbjkidgemdaaaDoor
