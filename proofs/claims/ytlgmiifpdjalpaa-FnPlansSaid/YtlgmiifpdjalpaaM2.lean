/- Plans: the count of the plans that begin with a head, and the first one; no condition but what stands at each theorem. -/
import Derived.Test.YtlgmiifpdjalpaaS2
namespace Go.Proofs.Ytlgmiifpdjalpaa
set_option linter.unusedSimpArgs false
set_option linter.unusedVariables false
def offB (loans : List GLoan) (halls : List GClimate) (left head : List Int) (k : Nat) : Bool :=
  (left.getD k 0 == 0) || (breach (loans.getD head.length ⟨0, 0, 0, 0⟩) (halls.getD k ⟨0, 0, 0⟩) != 0)
def planStep (f : List Int → List Int → Int × List Int) (loans : List GLoan) (halls : List GClimate) (left head : List Int) (acc : Int × List Int) (k : Nat) : Int × List Int :=
  if offB loans halls left head k then acc else
    (acc.1 + (f (left.set k (left.getD k 0 - 1)) (head ++ [(k : Int)])).1, if (acc.1 == 0) && decide (0 < (f (left.set k (left.getD k 0 - 1)) (head ++ [(k : Int)])).1) then (f (left.set k (left.getD k 0 - 1)) (head ++ [(k : Int)])).2 else acc.2)
def plansF (loans : List GLoan) (halls : List GClimate) : Nat → List Int → List Int → Int × List Int
  | 0, _, head => (1, head)
  | f + 1, left, head => (List.range halls.length).foldl (planStep (plansF loans halls f) loans halls left head) (0, [])
def plansTo (loans : List GLoan) (halls : List GClimate) (f : Nat) (left head : List Int) (k : Nat) : Int × List Int := (List.range k).foldl (planStep (plansF loans halls f) loans halls left head) (0, [])
theorem plansTo_zero (loans : List GLoan) (halls : List GClimate) (f : Nat) (left head : List Int) : plansTo loans halls f left head 0 = (0, []) := rfl
theorem plansTo_succ (loans : List GLoan) (halls : List GClimate) (f : Nat) (left head : List Int) (k : Nat) : plansTo loans halls f left head (k + 1) = planStep (plansF loans halls f) loans halls left head (plansTo loans halls f left head k) k := by
  unfold plansTo; rw [List.range_succ, List.foldl_append]; rfl
theorem plansF_succ (loans : List GLoan) (halls : List GClimate) (f : Nat) (left head : List Int) : plansF loans halls (f + 1) left head = plansTo loans halls f left head halls.length := rfl
theorem plansF_bd (loans : List GLoan) (halls : List GClimate) (hh : halls.length ≤ 5) : ∀ (f : Nat) (left head : List Int), 0 ≤ (plansF loans halls f left head).1 ∧ (plansF loans halls f left head).1 ≤ ((5 ^ f : Nat) : Int) ∧ ((plansF loans halls f left head).2.length = head.length + f ∨ (plansF loans halls f left head).2 = [])
  | 0, left, head => by simp [plansF]
  | f + 1, left, head => by
    have ih := plansF_bd loans halls hh f
    have h : ∀ k, 0 ≤ (plansTo loans halls f left head k).1 ∧ (plansTo loans halls f left head k).1 ≤ (k : Int) * ((5 ^ f : Nat) : Int) ∧ ((plansTo loans halls f left head k).2.length = head.length + (f + 1) ∨ (plansTo loans halls f left head k).2 = []) := by
      intro k
      induction k with
      | zero => simp [plansTo_zero]
      | succ k ihk =>
        rw [plansTo_succ]
        unfold planStep
        have e : ((k + 1 : Nat) : Int) * ((5 ^ f : Nat) : Int) = (k : Int) * ((5 ^ f : Nat) : Int) + ((5 ^ f : Nat) : Int) := by push_cast; rw [Int.add_mul, Int.one_mul]
        obtain ⟨i1, i2, i3⟩ := ih (left.set k (left.getD k 0 - 1)) (head ++ [(k : Int)])
        have hp : (0 : Int) ≤ ((5 ^ f : Nat) : Int) := by omega
        split
        · rw [e]; exact ⟨ihk.1, by omega, ihk.2.2⟩
        · rw [e]
          refine ⟨by simp only; omega, by simp only; omega, ?_⟩
          simp only
          split
          · rw [List.length_append] at i3
            rcases i3 with i3 | i3
            · left; rw [i3]; simp; omega
            · right; exact i3
          · exact ihk.2.2
    rw [plansF_succ]
    obtain ⟨h1, h2, h3⟩ := h halls.length
    refine ⟨h1, Int.le_trans h2 ?_, h3⟩
    have : ((5 ^ (f + 1) : Nat) : Int) = 5 * ((5 ^ f : Nat) : Int) := by rw [Nat.pow_succ]; push_cast; omega
    rw [this]
    have hp : (0 : Int) ≤ ((5 ^ f : Nat) : Int) := Int.natCast_nonneg _
    exact Int.mul_le_mul_of_nonneg_right (by omega) hp
theorem pow5 {f : Nat} (h : f ≤ 6) : 5 ^ f ≤ 15625 := Nat.le_trans (Nat.pow_le_pow_right (by omega) h) (by decide)
theorem plansF_le (loans : List GLoan) (halls : List GClimate) (hh : halls.length ≤ 5) {f : Nat} (hf : f ≤ 6) (left head : List Int) : 0 ≤ (plansF loans halls f left head).1 ∧ (plansF loans halls f left head).1 ≤ 15625 := by
  obtain ⟨h1, h2, -⟩ := plansF_bd loans halls hh f left head
  have := pow5 hf
  omega
theorem plansTo_le (loans : List GLoan) (halls : List GClimate) (hh : halls.length ≤ 5) {f : Nat} (hf : f ≤ 6) (left head : List Int) (k : Nat) : 0 ≤ (plansTo loans halls f left head k).1 ∧ (plansTo loans halls f left head k).1 ≤ (k : Int) * 15625 ∧ ((plansTo loans halls f left head k).2.length = head.length + (f + 1) ∨ (plansTo loans halls f left head k).2 = []) := by
  induction k with
  | zero => simp [plansTo_zero]
  | succ k ihk =>
    rw [plansTo_succ]
    unfold planStep
    have i0 := plansF_le loans halls hh hf (left.set k (left.getD k 0 - 1)) (head ++ [(k : Int)])
    obtain ⟨-, -, i3⟩ := plansF_bd loans halls hh f (left.set k (left.getD k 0 - 1)) (head ++ [(k : Int)])
    have e : ((k + 1 : Nat) : Int) * 15625 = (k : Int) * 15625 + 15625 := by push_cast; omega
    split
    · rw [e]; exact ⟨ihk.1, by omega, ihk.2.2⟩
    · rw [e]
      refine ⟨by simp only; omega, by simp only; omega, ?_⟩
      simp only
      split
      · rw [List.length_append] at i3
        rcases i3 with i3 | i3
        · left; rw [i3]; simp; omega
        · right; exact i3
      · exact ihk.2.2
def okPlans (loans : List GLoan) (halls : List GClimate) (room : List Int) : Int × List Int := plansF loans halls loans.length room []
end Go.Proofs.Ytlgmiifpdjalpaa
