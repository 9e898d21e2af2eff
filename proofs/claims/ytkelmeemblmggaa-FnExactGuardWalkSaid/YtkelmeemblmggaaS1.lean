/- A text of lemmas for the laws of this seat; what each says stands at its theorem; no condition. -/
import Derived.Test.YtkelmeemblmggaaT1
namespace Go.Proofs.Ytkelmeemblmggaa
set_option linter.unusedSimpArgs false
set_option linter.unusedVariables false
open Go.RowKit
/-! Contracts of the functions on plain structs. -/
set_option maxRecDepth 100000 in
set_option maxHeartbeats 400000 in
theorem impl_between (n lo hi : Int) (w : World) :
    Calls Try.prog 44 #[.int .i64 n, .int .i64 lo, .int .i64 hi] w fun e w' => e = .returned (.bool (inB n lo hi)) ∧ w = w' := by
  go_enter Try.func44, Try.ntmps44
  go_wp2
  all_goals go_ret
  all_goals exact ⟨ret_bool (by simp [inB]; omega), rfl⟩
set_option maxRecDepth 100000 in
set_option maxHeartbeats 400000 in
theorem spec_l01In (n lo hi : Int) (w : World) :
    Calls Try.prog 42 #[.int .i64 n, .int .i64 lo, .int .i64 hi] w fun e w' => e = .returned (.bool (inB n lo hi)) ∧ w = w' := by
  go_enter Try.func42, Try.ntmps42
  go_wp2
  all_goals go_ret
  all_goals exact ⟨ret_bool (by simp [inB]; omega), rfl⟩
def shOk (s : GShift) : Bool := inB s.g 0 20 && inB s.f 0 10000 && inB s.t 0 10000 && decide (s.f < s.t)
def loOk (s : GLoan) : Bool := inB s.l 0 1000 && inB s.g 0 1000 && inB s.lo 0 100 && inB s.hi 0 100 && decide (s.lo ≤ s.hi)
def acOk (s : GAct) : Bool :=
  if s.k == 1 then inB s.a 0 5 && inB s.b 0 6 && s.c == 0 && s.d == 0 else if s.k == 2 then inB s.a 0 5 && inB s.b 0 6 && inB s.c 0 5 && inB s.d 0 5
  else if s.k == 3 then inB s.a 1 1000 && s.b == 0 && s.c == 0 && s.d == 0 else if s.k == 5 then inB s.a 0 5 && s.b == 0 && s.c == 0 && s.d == 0
  else if s.k == 4 then s.a == 0 && s.b == 0 && s.c == 0 && s.d == 0 else false
end Go.Proofs.Ytkelmeemblmggaa
