/- Contracts of l37Reached and HallsWith; no condition but what stands at each theorem. -/
import Derived.Test.YtcmbjkidgemdaaaSHq
import Derived.Test.YtcmbjkidgemdaaaSHi
namespace Go.Proofs.Ytcmbjkidgemdaaa
set_option linter.unusedSimpArgs false
set_option linter.unusedVariables false
open Go.RowKit Go.Sort
theorem bitB_test (s k : Nat) : bitB s k = s.testBit k := by
  unfold bitB
  rw [Nat.testBit_eq_decide_div_mod_eq, Nat.shiftRight_eq_div_pow, Bool.eq_iff_iff]
  simp
theorem shl_lt {x : Nat} (h : x < 7) : 1 <<< x < 128 := by
  rw [Nat.one_shiftLeft]
  exact Nat.lt_of_le_of_lt (Nat.pow_le_pow_right (by omega) (show x ≤ 6 by omega)) (by decide)
theorem or_lt128 {s t : Nat} (hs : s < 128) (ht : t < 128) : s ||| t < 128 := Nat.or_lt_two_pow (n := 7) hs ht
theorem shl_int (x : Nat) : ((2 : Int) ^ x) = ((1 <<< x : Nat) : Int) := by rw [Nat.one_shiftLeft]; push_cast; rfl
theorem wrap_shl {x : Nat} (h : x < 7) : wrap64 ((2 : Int) ^ x) = ((1 <<< x : Nat) : Int) := by
  have h1 := shl_lt h
  rw [shl_int]
  generalize 1 <<< x = z at *
  exact IntWalk.wrap64_in _ ⟨by omega, by omega⟩
theorem shl_cast (x : Nat) : ((1 : Int) <<< x) = ((1 <<< x : Nat) : Int) := by push_cast; rfl
theorem opened_ok {H : Int} {ds : List GDoor} (h : ∀ d ∈ ds, doorOk H d = true) (r : Nat) : ∀ d ∈ opened r ds, doorOk H d = true := fun d hd => h d ((opened_sub r ds).subset hd)
theorem reached_128 {ds : List GDoor} {h a : Nat} (ha : a < h) (h7 : h ≤ 7) (hok : ∀ d ∈ ds, doorOk h d = true) (n : Nat) : reached ds a n < 128 :=
  Nat.lt_of_lt_of_le (reached_lt ha hok n) (Nat.pow_le_pow_right (by omega) h7)
set_option maxRecDepth 100000 in
set_option maxHeartbeats 4000000 in
theorem spec_l37Reached (h : Nat) (A : Option Addr) (n c : Nat) (ds : List GDoor) (a ring : Nat) (w : World) (hx : Rd w 2 A n (ds.flatMap GDoor.enc)) (hok : Hid (∀ d ∈ ds, doorOk h d = true)) (h7 : h ≤ 7) (hn12 : n ≤ 12) (ha : a < h) (hring : ring ≤ 1048576) :
    Calls Try.prog 74 #[.agg #[.int .i64 h, .slice A n c], .int .i64 a, .int .i64 ring] w fun e w' => e = .returned (.int .i64 ((reached (opened ring ds) a h : Nat) : Int)) ∧ Ext w w' := by
  have hl := Lib.hid (hx.len GDoor.len (by omega))
  obtain ⟨wb, hwb⟩ : ∃ wb, wb = w.alloc (.cells #[.int .i64 (h : Int), .slice A n c] 29) := ⟨_, rfl⟩
  obtain ⟨hE, hsb, a0, a1⟩ := box2 w _ _ _ wb hwb
  have HE := Lib.hid hE
  have Hwb := Lib.hid hwb
  have Ha0 := Lib.hid a0
  have Ha1 := Lib.hid a1
  have hxb := Lib.hid (hx.keep hE)
  have hbl : w.heap.size < wb.heap.size := by omega
  have hnn := hx.2.1
  have HR := Lib.hid (fun k => reached_128 (n := k) ha h7 (opened_ok hok.out ring))
  have hsh : wrap64 ((2 : Int) ^ a) = ((1 <<< a : Nat) : Int) := wrap_shl (by omega)
  clear hE hwb hx hsb a0 a1
  go_enter Try.func74, Try.ntmps74
  go_wp2_with fail
  rw [← Hwb.out]
  go_loopw [7, 8] (fun s i wr => ∃ k S : Nat, k ≤ h ∧ i = .int .i64 k ∧ s = .int .i64 (S : Int) ∧ Hid (S = reached (opened ring ds) a k) ∧ S < 128 ∧ Ext wb wr) (fun _ i _ => h - (intOf i).toNat)
  case atStart => exact ⟨0, 1 <<< a, Nat.zero_le _, rfl, by first | rfl | rw [hsh], rfl, shl_lt (by omega), Ext.refl _⟩
  case round =>
    clear hsh
    obtain ⟨k, S, hk, rfl, rfl, hz, hS, hb⟩ := hrel
    have a0 := (hb.cellAt w.heap.size hbl 0).trans Ha0.out
    have a1 := (hb.cellAt w.heap.size hbl 1).trans Ha1.out
    by_cases hlt : k < h
    · obtain ⟨wo, rfl⟩ : ∃ wo : World, wo = wr := ⟨_, rfl⟩
      have HB := Lib.hid hb
      clear hb
      have hz2 : Hid (reached (opened ring ds) a (k + 1) = (opened (ring >>> 0) (ds.drop 0)).foldl reach1 S) := by unfold Hid; rw [hz.out]; rfl
      go_wp2_with fail
      clear a0 a1
      go_loopw [7, 9] (fun s i wr => ∃ j S : Nat, j ≤ n ∧ i = .int .i64 j ∧ s = .int .i64 (S : Int) ∧ Hid (reached (opened ring ds) a (k + 1) = (opened (ring >>> j) (ds.drop j)).foldl reach1 S) ∧ S < 128 ∧ Ext wb wr) (fun _ i _ => n - (intOf i).toNat)
      case atStart => exact ⟨0, S, Nat.zero_le _, rfl, rfl, hz2, hS, HB.out⟩
      case round =>
        clear hz2 hz hS
        obtain ⟨j, S, hj, rfl, rfl, hz, hS, hb⟩ := hrel
        have a0 := (hb.cellAt w.heap.size hbl 0).trans Ha0.out
        have a1 := (hb.cellAt w.heap.size hbl 1).trans Ha1.out
        by_cases hlt2 : j < n
        · obtain ⟨b, off, d, rfl, hbs, hdk, p0, p1⟩ := GDoor.at_ (hxb.out.keep hb) hlt2
          have HA := Lib.hid (opened_at (ring := ring) hdk)
          have hdo := hok.out d (List.mem_of_getElem? hdk)
          simp only [doorOk, Bool.and_eq_true, decide_eq_true_eq] at hdo
          obtain ⟨⟨d0, d1⟩, d2⟩ := hdo
          obtain ⟨x, hx⟩ := Int.eq_ofNat_of_zero_le d0
          obtain ⟨y, hy⟩ := Int.eq_ofNat_of_zero_le (show 0 ≤ d.b by omega)
          have hx7 : x < 7 := by omega
          have hy7 : y < 7 := by omega
          rw [hx] at p0
          rw [hy] at p1
          have HS : Hid (∀ t : Bool, (S.testBit x || S.testBit y) = t → reach1 S d = if t then S ||| (1 <<< x) ||| (1 <<< y) else S) := by
            unfold Hid; intro t ht; unfold reach1; rw [hx, hy, Int.toNat_natCast, Int.toNat_natCast, ht]
          have hbr : (bits .and .i64 ((ring : Int) / 2 ^ j) 1 == 1) = bitB ring j := bit_test ring j (by omega)
          have hbx : (bits .and .i64 ((S : Int) / 2 ^ x) 1 == 1) = bitB S x := bit_test S x (by omega)
          have hby : (bits .and .i64 ((S : Int) / 2 ^ y) 1 == 1) = bitB S y := bit_test S y (by omega)
          rw [bitB_test S x] at hbx
          rw [bitB_test S y] at hby
          have hsx : wrap64 ((2 : Int) ^ x) = ((1 <<< x : Nat) : Int) := wrap_shl hx7
          have hsy : wrap64 ((2 : Int) ^ y) = ((1 <<< y : Nat) : Int) := wrap_shl hy7
          have hs1 := bits_or S (1 <<< x) (by omega) (Nat.lt_trans (shl_lt hx7) (by decide))
          have h12 := or_lt128 hS (shl_lt hx7)
          have hs2 := bits_or (S ||| (1 <<< x)) (1 <<< y) (Nat.lt_trans h12 (by decide)) (Nat.lt_trans (shl_lt hy7) (by decide))
          have h123 := or_lt128 h12 (shl_lt hy7)
          have HB2 := Lib.hid hb
          have HX := Lib.hid hx
          have HY := Lib.hid hy
          clear hb hdk d0 d1 d2 hx hy a0
          cases hrb : bitB ring j
          · rw [hrb] at hbr HA
            clear hrb
            go_wp2_with fail
            go_roundw
            case rel => exact ⟨j + 1, S, by omega, by go_num, rfl, by unfold Hid; rw [hz.out, HA.out]; rfl, hS, HB2.out.alloc _⟩
            case measure => simp [intOf]; omega
          · rw [hrb] at hbr HA
            clear hrb
            have HX2 := Lib.hid hbx
            have HY2 := Lib.hid hby
            cases hX : S.testBit x
            · rw [hX] at hbx HS
              cases hY : S.testBit y
              · rw [hY] at hby HS
                clear hX hY
                go_wp2_with fail
                go_roundw
                case rel => exact ⟨j + 1, S, by omega, by go_num, rfl, by unfold Hid; rw [hz.out, HA.out, if_pos (by first | rfl | trivial), List.foldl_cons, HS.out false rfl]; rfl, hS, HB2.out.alloc _⟩
                case measure => simp [intOf]; omega
              · rw [hY] at hby HS
                clear hX hY
                obtain ⟨wd, hwd⟩ : ∃ wd, wd = wr.alloc (.cells #[.int .i64 (x : Int), .int .i64 (y : Int)] 108) := ⟨_, rfl⟩
                obtain ⟨hEd, hsd, q0, q1⟩ := box2 wr _ _ _ wd hwd
                have HEd := Lib.hid hEd
                have Hwd := Lib.hid hwd
                have tx : (0 : Int) ≤ (x : Int) := by omega
                have ty : (0 : Int) ≤ (y : Int) := by omega
                clear hwd hEd
                go_wp2_with fail
                go_quiet (fail)
                go_wp2_with fail
                go_roundw
                case rel => exact ⟨j + 1, S ||| (1 <<< x) ||| (1 <<< y), by omega, by go_num, by rw [shl_cast x, shl_cast y, hs1, hs2], by unfold Hid; rw [hz.out, HA.out, if_pos (by first | rfl | trivial), List.foldl_cons, HS.out true rfl]; rfl, h123, (HB2.out.alloc _).drewN _⟩
                case measure => simp [intOf]; omega
            · rw [hX] at hbx HS
              rw [Bool.true_or] at HS
              clear hX hby
              obtain ⟨wd, hwd⟩ : ∃ wd, wd = wr.alloc (.cells #[.int .i64 (x : Int), .int .i64 (y : Int)] 108) := ⟨_, rfl⟩
              obtain ⟨hEd, hsd, q0, q1⟩ := box2 wr _ _ _ wd hwd
              have HEd := Lib.hid hEd
              have Hwd := Lib.hid hwd
              have tx : (0 : Int) ≤ (x : Int) := by omega
              have ty : (0 : Int) ≤ (y : Int) := by omega
              clear hwd hEd
              go_wp2_with fail
              go_quiet (fail)
              go_wp2_with fail
              go_roundw
              case rel => exact ⟨j + 1, S ||| (1 <<< x) ||| (1 <<< y), by omega, by go_num, by rw [shl_cast x, shl_cast y, hs1, hs2], by unfold Hid; rw [hz.out, HA.out, if_pos (by first | rfl | trivial), List.foldl_cons, HS.out true rfl]; rfl, h123, (HB2.out.alloc _).drewN _⟩
              case measure => simp [intOf]; omega
        · obtain rfl : j = n := by omega
          have hz3 : Hid (S = reached (opened ring ds) a (k + 1)) := by unfold Hid; rw [hz.out, drop_nil (by rw [hl.out]; omega)]; simp [opened]
          have HB2 := Lib.hid hb
          clear hb
          go_wp2_with fail
          go_roundw
          case rel => exact ⟨k + 1, S, by omega, by go_num, rfl, hz3, hS, HB2.out⟩
          case measure => simp [intOf]; omega
    · obtain rfl : k = h := by omega
      go_wp2_with fail
      go_ret
      exact ⟨ret_int (by rw [hz.out]), HE.out.trans hb⟩
end Go.Proofs.Ytcmbjkidgemdaaa
