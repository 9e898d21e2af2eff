/- Contracts of FormatInt of both sides; no condition but what stands at each theorem. -/
import Derived.Test.YtcmbjkidgemdaaaDoorShelf
import Derived.Test.YtcmbjkidgemdaaaDoorS1
import Derived.Test.YtcmbjkidgemdaaaDoorKG
import Derived.Laws.IdiomStrings
namespace Go.Proofs.YtcmbjkidgemdaaaDoor
set_option linter.unusedSimpArgs false
set_option linter.unusedVariables false
open Go.RowKit Go.Sort
/-- A number as a text. -/
def itext (n : Int) : ByteArray := ⟨(Lib.itoa n).toArray⟩
theorem str_app (a b : List UInt8) : ((⟨a.toArray⟩ : ByteArray) ++ ⟨b.toArray⟩) = ⟨(a ++ b).toArray⟩ := by
  apply ByteArray.ext
  simp
theorem str_cons (b : UInt8) (L : List UInt8) : ((⟨#[b]⟩ : ByteArray) ++ ⟨L.toArray⟩) = ⟨(b :: L).toArray⟩ := str_app [b] L
def dig0 (m : Nat) : List UInt8 := if m = 0 then [] else Lib.decDigits m
theorem dig0_step {m : Nat} (h : m ≠ 0) : dig0 m = dig0 (m / 10) ++ [UInt8.ofNat (48 + m % 10)] := by
  unfold dig0
  rw [if_neg h, Lib.decDigits]
  by_cases h10 : m < 10
  · rw [dif_pos h10, if_pos (by omega), show m % 10 = m by omega]; rfl
  · rw [dif_neg h10, if_neg (by omega)]
theorem spec_l01Figure (d : Int) (w : World) (h0 : 0 ≤ d) (h : d ≤ 9) : Calls Tryd.prog 59 #[.int .i64 d] w fun e w' => e = .returned (.int .u8 (48 + d)) ∧ w = w' := by
  go_enter Tryd.func59, Tryd.ntmps59
  go_wp2
  go_ret
  exact ⟨ret_int (by first | rfl | omega), rfl⟩
theorem convb1 (w : World) (x : Nat) (h : x < 256) : (convert 49 9 (.slice (some ⟨w.heap.size, 0, none⟩) 1 1)).run Tryd.prog (w.alloc (.cells #[.int .u8 (x : Int)] 5)) = .ok (.string ⟨#[UInt8.ofNat x]⟩) (w.alloc (.cells #[.int .u8 (x : Int)] 5)) := by
  refine run_convert_bytes_back (P := Tryd.prog) _ 49 9 5 _ 1 [UInt8.ofNat x] Tryd.underlying49 Tryd.underlying5 Tryd.underlying9 ?_
  intro j hj
  simp only [List.length_cons, List.length_nil] at hj
  obtain rfl : j = 0 := by omega
  rw [add_none, World.cell?_alloc_new]
  simp [Nat.mod_eq_of_lt h]
set_option maxRecDepth 100000 in
set_option maxHeartbeats 1000000 in
theorem spec_FormatInt (n : Nat) (w : World) (h : n ≤ 1000000000000) : Calls Tryd.prog 36 #[.int .i64 n] w fun e w' => e = .returned (.string (itext n)) ∧ Ext w w' := by
  by_cases h0 : n = 0
  case pos =>
    subst h0
    have HF : Hid (itext ((0 : Nat) : Int) = ⟨#[48]⟩) := by unfold Hid itext Lib.itoa Lib.decDigits; rfl
    go_enter Tryd.func36, Tryd.ntmps36
    go_wp2
    go_ret
    exact ⟨by rw [HF.out]; rfl, Ext.refl _⟩
  case neg =>
    have f0 : ((n : Int) == 0) = false := by rw [beq_eq_false_iff_ne]; omega
    go_enter Tryd.func36, Tryd.ntmps36
    go_wp2_with fail
    go_loopw [0, 4] (fun z t wr => ∃ (m : Nat) (L : List UInt8), z = .int .i64 (m : Int) ∧ t = .string ⟨L.toArray⟩ ∧ m ≤ 1000000000000 ∧ L.length ≤ 13 ∧ Hid (m < 10 ^ (13 - L.length)) ∧ Hid (Lib.decDigits n = dig0 m ++ L) ∧ Ext w wr) (fun z _ _ => (intOf z).toNat)
    case atStart => exact ⟨n, [], rfl, rfl, h, by simp, by unfold Hid; simp; omega, by unfold Hid dig0; rw [if_neg h0]; simp, Ext.refl _⟩
    case round =>
      obtain ⟨m, L, rfl, rfl, hm, hL13, hpw, hz, hb⟩ := hrel
      have HB := Lib.hid hb
      clear hb
      by_cases hm0 : m = 0
      · subst hm0
        have HT : Hid (itext (n : Int) = ⟨L.toArray⟩) := by
          have h2 := hz.out
          unfold Hid itext
          rw [Lib.itoa, if_neg (by omega), Int.toNat_natCast, h2]
          simp [dig0]
        have f1 : (((0 : Nat) : Int) != 0) = false := rfl
        have f2 : ((0 : Int) != 0) = false := rfl
        go_wp2_with fail
        go_ret
        exact ⟨by rw [HT.out]; rfl, HB.out⟩
      · have f1 : ((m : Int) != 0) = true := by rw [bne_iff_ne]; omega
        have HZ : Hid (Lib.decDigits n = dig0 (m / 10) ++ (UInt8.ofNat (48 + m % 10) :: L)) := by
          unfold Hid
          rw [hz.out, dig0_step hm0, List.append_assoc]
          rfl
        have hd : m % 10 ≤ 9 := by omega
        have hF := Lib.hid (fun w => spec_l01Figure ((m : Int) % 10) w (by omega) (by omega))
        have hcv := fun (w : World) => convb1 w (48 + m % 10) (by omega)
        have ec : ((48 + m % 10 : Nat) : Int) = 48 + (m : Int) % 10 := by push_cast; rfl
        rw [ec] at hcv
        have hm1 : m / 10 < m := by omega
        have hL12 : L.length ≤ 12 := by
          have h2 := hpw.out
          have : L.length ≠ 13 := by
            intro e; rw [e] at h2; simp at h2; omega
          omega
        have HPw : Hid (m / 10 < 10 ^ (13 - (UInt8.ofNat (48 + m % 10) :: L).length)) := by
          have h2 := hpw.out
          unfold Hid
          rw [show 13 - L.length = (12 - L.length) + 1 by omega, Nat.pow_succ] at h2
          rw [List.length_cons, show 13 - (L.length + 1) = 12 - L.length by omega]
          exact Nat.div_lt_of_lt_mul (by omega)
        clear ec
        go_wp2_with (refine (hF.out _).mono ?_; rintro e w1 ⟨rfl, rfl⟩)
        go_roundw
        case rel => exact ⟨m / 10, UInt8.ofNat (48 + m % 10) :: L, by go_num, by rw [str_cons, UInt8.ofNat_add]; rfl, by omega, by simp; omega, HPw, HZ, HB.out.alloc _⟩
        case measure => simp [intOf]; omega
end Go.Proofs.YtcmbjkidgemdaaaDoor
