/- The reference's l40Number; no condition but what stands at each theorem. -/
import Derived.Test.YtcmbjkidgemdaaaDoorST7
namespace Go.Proofs.YtcmbjkidgemdaaaDoor
set_option linter.unusedSimpArgs false
set_option linter.unusedVariables false
open Go.RowKit Go.Sort
def PN (x : ByteArray) (w : World) (e : Ending) (w' : World) : Prop :=
  ∃ z : Int, e = .returned (.int .i64 z) ∧ Ext w w' ∧ ∀ i : Nat, i ≤ 1000 → x = itext i → z = i
theorem nominus {x : ByteArray} (hk : 1 < x.size) (h : x[0].toNat = 45) : ∀ i : Nat, x ≠ itext i := nodig (k := 0) (by omega) (by omega)
set_option maxRecDepth 100000 in
set_option maxHeartbeats 2000000 in
theorem spec_l40Number (x : ByteArray) (w : World) (hx : x.size ≤ 1000000) : Calls Tryd.prog 43 #[.string x] w (PN x w) := by
  have cP := Lib.hid (spec_ParseUint x w (by omega))
  by_cases h1 : 1 < x.size
  · have h1i : (1 : Int) < x.size := by omega
    by_cases h45 : x[0].toNat = 45
    · have HN := Lib.hid (nominus h1 h45)
      go_enter Tryd.func43, Tryd.ntmps43
      go_wp2_with (refine (spec_ParseUint _ w ?_).mono ?_; (first | (simp; omega) | omega); rintro e w1 ⟨z, b, rfl, hz, hb, -⟩; have HB := Lib.hid hb; clear hb)
      go_ret
      exact ⟨_, rfl, HB.out, fun i _ he => absurd he (HN.out i)⟩
    · have h45i : ((x[0].toNat : Int) == 45) = false := beq_false_of_ne (show (x[0].toNat : Int) ≠ 45 by omega)
      go_enter Tryd.func43, Tryd.ntmps43
      go_wp2_with (refine cP.out.mono ?_; rintro e w1 ⟨z, b, rfl, hz, hb, h⟩; have HB := Lib.hid hb; have HH := Lib.hid h; clear hb h)
      go_ret
      exact ⟨_, rfl, HB.out, fun i hi he => by rw [(HH.out i hi he).1]⟩
  · go_enter Tryd.func43, Tryd.ntmps43
    go_wp2_with (refine cP.out.mono ?_; rintro e w1 ⟨z, b, rfl, hz, hb, h⟩; have HB := Lib.hid hb; have HH := Lib.hid h; clear hb h)
    go_ret
    exact ⟨_, rfl, HB.out, fun i hi he => by rw [(HH.out i hi he).1]⟩
end Go.Proofs.YtcmbjkidgemdaaaDoor
