/- What the law on shifts asks of the least count, in plain Lean; no condition. -/
import Derived.Test.YtlgmiifpdjalpaaMJ
namespace Go.Proofs.Ytlgmiifpdjalpaa
set_option linter.unusedSimpArgs false
set_option linter.unusedVariables false
theorem least_law {xs : List GShift} {t : Int} (hall : ∀ x ∈ xs, shOk x = true) (hl : xs.length ≤ 20) (h0 : 0 ≤ t) (h1 : t ≤ 9990) :
    0 ≤ leastI xs t (t + 5) ∧ leastI xs t (t + 5) ≤ onDuty xs t ∧ leastI xs t (t + 5) ≤ onDuty xs (t + 4) := by
  have hok : lodOk xs t (t + 5) = true := by
    have ha : allSh xs = true := by unfold allSh; rw [List.all_eq_true.2 hall, decide_eq_true hl]; rfl
    simp only [lodOk, ha, inB, Bool.true_and, Bool.and_eq_true, decide_eq_true_eq]
    omega
  unfold leastI
  rw [if_pos hok]
  obtain ⟨a1, a2, a3⟩ := minI_spec (fun (j : Nat) => onDuty xs (t + j)) (List.range (t + 5 - t).toNat) (xs.length : Int)
  refine ⟨?_, ?_, ?_⟩
  · rcases a3 with h | ⟨j, _, h⟩
    · rw [h]; omega
    · rw [h, onDuty_count]; omega
  · have := a2 0 (List.mem_range.2 (by omega))
    simpa using this
  · have := a2 4 (List.mem_range.2 (by omega))
    exact this
end Go.Proofs.Ytlgmiifpdjalpaa
