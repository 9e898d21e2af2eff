/- Plans: what the program's PlanOk and the reference's compute, and that both come to the same; no condition but what stands at each theorem. -/
import Derived.Test.YtlgmiifpdjalpaaS2
namespace Go.Proofs.Ytlgmiifpdjalpaa
set_option linter.unusedSimpArgs false
set_option linter.unusedVariables false
def inc (u : List Int) (k : Nat) : List Int := u.set k (u.getD k 0 + 1)
def badAt (loans : List GLoan) (halls : List GClimate) (i : Nat) (k : Int) : Bool :=
  !(inB k 0 ((halls.length : Int) - 1)) || (breach (loans.getD i ⟨0, 0, 0, 0⟩) (halls.getD k.toNat ⟨0, 0, 0⟩) != 0)
def planRun (loans : List GLoan) (halls : List GClimate) (room : List Int) : Nat → List Int → List Int → Bool
  | _, _, [] => true
  | i, u, k :: r => if badAt loans halls i k then false else if room.getD k.toNat 0 < (inc u k.toNat).getD k.toNat 0 then false else planRun loans halls room (i + 1) (inc u k.toNat) r
def fits (room u : List Int) (n : Nat) : Bool := (List.range n).all fun k => decide (u.getD k 0 ≤ room.getD k 0)
def planRunS (loans : List GLoan) (halls : List GClimate) : Nat → List Int → List Int → Option (List Int)
  | _, u, [] => some u
  | i, u, k :: r => if badAt loans halls i k then none else planRunS loans halls (i + 1) (inc u k.toNat) r
theorem inc_get (u : List Int) (k j : Nat) (hk : k < u.length) : (inc u k).getD j 0 = if j = k then u.getD k 0 + 1 else u.getD j 0 := by
  unfold inc
  by_cases h : j = k
  · subst h; simp [hk]
  · rw [if_neg h]; simp [Ne.symm h]
theorem inc_len (u : List Int) (k : Nat) : (inc u k).length = u.length := by simp [inc]
theorem planRunS_mono (loans : List GLoan) (halls : List GClimate) : ∀ (plan : List Int) (i : Nat) (u v : List Int), u.length = halls.length → planRunS loans halls i u plan = some v → v.length = halls.length ∧ ∀ j, u.getD j 0 ≤ v.getD j 0
  | [], i, u, v, hu, h => by simp [planRunS] at h; subst h; exact ⟨hu, fun j => Int.le_refl _⟩
  | k :: r, i, u, v, hu, h => by
    unfold planRunS at h
    cases hb : badAt loans halls i k with
    | true => rw [hb] at h; simp at h
    | false =>
      rw [hb] at h
      simp only [Bool.false_eq_true, if_false] at h
      obtain ⟨h1, h2⟩ := planRunS_mono loans halls r (i + 1) _ v (by rw [inc_len, hu]) h
      refine ⟨h1, fun j => Int.le_trans ?_ (h2 j)⟩
      have hk : k.toNat < u.length := by
        simp only [badAt, inB, Bool.or_eq_false_iff, Bool.not_eq_false', Bool.and_eq_true, decide_eq_true_eq] at hb
        omega
      rw [inc_get u _ j hk]
      split
      · subst_vars; omega
      · omega
theorem planRun_eq (loans : List GLoan) (halls : List GClimate) (room : List Int) : ∀ (plan : List Int) (i : Nat) (u : List Int), u.length = halls.length → fits room u halls.length = true →
    planRun loans halls room i u plan = (match planRunS loans halls i u plan with | none => false | some v => fits room v halls.length)
  | [], i, u, hu, hf => by simp [planRun, planRunS, hf]
  | k :: r, i, u, hu, hf => by
    unfold planRun planRunS
    cases hb : badAt loans halls i k with
    | true => simp
    | false =>
      simp only [Bool.false_eq_true, if_false]
      have hk : k.toNat < u.length := by
        simp only [badAt, inB, Bool.or_eq_false_iff, Bool.not_eq_false', Bool.and_eq_true, decide_eq_true_eq] at hb
        omega
      by_cases hr : room.getD k.toNat 0 < (inc u k.toNat).getD k.toNat 0
      · rw [if_pos hr]
        cases hs : planRunS loans halls (i + 1) (inc u k.toNat) r with
        | none => rfl
        | some v =>
          obtain ⟨h1, h2⟩ := planRunS_mono loans halls r (i + 1) _ v (by rw [inc_len, hu]) hs
          symm
          show fits room v halls.length = false
          rw [Bool.eq_false_iff]
          intro hc
          unfold fits at hc
          rw [List.all_eq_true] at hc
          have := hc k.toNat (by simp; omega)
          have h3 := h2 k.toNat
          simp only [decide_eq_true_eq] at this
          omega
      · rw [if_neg hr]
        refine planRun_eq loans halls room r (i + 1) _ (by rw [inc_len, hu]) ?_
        unfold fits at hf ⊢
        rw [List.all_eq_true] at hf ⊢
        intro j hj
        have := hf j hj
        simp only [decide_eq_true_eq] at this ⊢
        rw [inc_get u _ j hk]
        rw [inc_get u _ _ hk, if_pos rfl] at hr
        split
        · subst_vars; omega
        · exact this
end Go.Proofs.Ytlgmiifpdjalpaa
