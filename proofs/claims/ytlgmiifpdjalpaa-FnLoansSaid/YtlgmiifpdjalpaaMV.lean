/- What the law on loans asks, in plain Lean; no condition but what stands at each theorem. -/
import Derived.Test.YtlgmiifpdjalpaaS5
import Derived.Test.YtlgmiifpdjalpaaS2
namespace Go.Proofs.Ytlgmiifpdjalpaa
set_option linter.unusedSimpArgs false
set_option linter.unusedVariables false
theorem breach_zero {l : GLoan} (h : loOk l = true) (c : GClimate) : breach l c = 0 ↔ (c.l ≤ l.l ∧ l.lo ≤ c.h ∧ c.h ≤ l.hi ∧ l.g ≤ c.g) := by
  unfold breach
  rw [if_pos h]
  simp only [inB, Bool.and_eq_true, decide_eq_true_eq]
  split <;> split <;> split <;> omega
theorem loOk_iff (l : GLoan) : loOk l = true ↔ (0 ≤ l.l ∧ l.l ≤ 1000 ∧ 0 ≤ l.g ∧ l.g ≤ 1000 ∧ 0 ≤ l.lo ∧ l.lo ≤ 100 ∧ 0 ≤ l.hi ∧ l.hi ≤ 100 ∧ l.lo ≤ l.hi) := by
  simp only [loOk, inB, Bool.and_eq_true, decide_eq_true_eq]
  omega
theorem join_parts (a b : GLoan) : ((joinD a b).l ≤ a.l ∧ (joinD a b).l ≤ b.l ∧ ((joinD a b).l = a.l ∨ (joinD a b).l = b.l)) ∧ (a.lo ≤ (joinD a b).lo ∧ b.lo ≤ (joinD a b).lo ∧ ((joinD a b).lo = a.lo ∨ (joinD a b).lo = b.lo)) ∧
    ((joinD a b).hi ≤ a.hi ∧ (joinD a b).hi ≤ b.hi ∧ ((joinD a b).hi = a.hi ∨ (joinD a b).hi = b.hi)) ∧ (a.g ≤ (joinD a b).g ∧ b.g ≤ (joinD a b).g ∧ ((joinD a b).g = a.g ∨ (joinD a b).g = b.g)) := by
  unfold joinD imin imax
  simp only
  refine ⟨?_, ?_, ?_, ?_⟩ <;> split <;> omega
/-- A hall is fit for both loans just if it is fit for the joined one. -/
theorem loan_join {a b : GLoan} (ha : loOk a = true) (hb : loOk b = true) (c : GClimate) :
    (joinOk a b = true → (breach (joinL a b) c == 0) = ((breach a c == 0) && (breach b c == 0))) ∧ (joinOk a b = false → ((breach a c == 0) && (breach b c == 0)) = false) := by
  obtain ⟨p1, p2, p3, p4⟩ := join_parts a b
  have za := breach_zero ha c
  have zb := breach_zero hb c
  constructor
  · intro h
    have hj : loOk (joinD a b) = true := by unfold joinOk at h; simp only [Bool.and_eq_true] at h; exact h.2
    have zj := breach_zero hj c
    have e : joinL a b = joinD a b := by unfold joinL; rw [if_pos h]
    rw [e, Bool.eq_iff_iff]
    simp only [Bool.and_eq_true, beq_iff_eq]
    rw [za, zb, zj]
    omega
  · intro h
    rw [Bool.eq_false_iff]
    intro k
    simp only [Bool.and_eq_true, beq_iff_eq] at k
    rw [za, zb] at k
    have ja := (loOk_iff a).1 ha
    have jb := (loOk_iff b).1 hb
    have : joinOk a b = true := by
      unfold joinOk
      rw [ha, hb, (loOk_iff _).2 (by omega)]
      rfl
    rw [this] at h
    cases h
theorem strict_fewer {a b : GLoan} (h : strOk a b = true) (c : GClimate) (k : (breach a c == 0) = true) : (breach b c == 0) = true := by
  simp only [strOk, Bool.and_eq_true, decide_eq_true_eq] at h
  obtain ⟨⟨⟨⟨⟨ha, hb⟩, h1⟩, h2⟩, h3⟩, h4⟩ := h
  simp only [beq_iff_eq] at k ⊢
  rw [breach_zero ha] at k
  rw [breach_zero hb]
  omega
theorem strict_self {a : GLoan} (h : loOk a = true) : strOk a a = true := by
  simp [strOk, h]
theorem strict_join {a b : GLoan} (h : joinOk a b = true) : strOk (joinL a b) a = true ∧ strOk (joinL a b) b = true := by
  obtain ⟨p1, p2, p3, p4⟩ := join_parts a b
  have e : joinL a b = joinD a b := by unfold joinL; rw [if_pos h]
  unfold joinOk at h
  simp only [Bool.and_eq_true] at h
  obtain ⟨⟨ha, hb⟩, hj⟩ := h
  rw [e]
  simp only [strOk, Bool.and_eq_true, decide_eq_true_eq]
  exact ⟨⟨⟨⟨⟨⟨hj, ha⟩, by omega⟩, by omega⟩, by omega⟩, by omega⟩, ⟨⟨⟨⟨⟨hj, hb⟩, by omega⟩, by omega⟩, by omega⟩, by omega⟩⟩
theorem hallsFor_gen (l : GLoan) (x : Int) : ∀ (hs : List GClimate) (p : List Int) (i : Int), x ∈ (hs.foldl (hallStep l) (p, i)).1 ↔ x ∈ p ∨ ∃ (j : Nat) (c : GClimate), hs[j]? = some c ∧ x = i + j ∧ breach l c = 0
  | [], p, i => by simp
  | c :: hs, p, i => by
    rw [List.foldl_cons]
    have ih := hallsFor_gen l x hs (hallStep l (p, i) c).1 (hallStep l (p, i) c).2
    have e2 : (hallStep l (p, i) c).2 = i + 1 := rfl
    have e1 : (x ∈ (hallStep l (p, i) c).1) ↔ (x ∈ p ∨ (x = i ∧ breach l c = 0)) := by
      unfold hallStep
      simp only
      split
      · rename_i h
        simp at h
        simp [h]
      · rename_i h
        simp at h
        simp [h]
    refine ih.trans ?_
    rw [e1, e2]
    constructor
    · rintro ((h | ⟨h1, h2⟩) | ⟨j, d, h1, h2, h3⟩)
      · exact .inl h
      · exact .inr ⟨0, c, by simp, by omega, h2⟩
      · exact .inr ⟨j + 1, d, by simpa using h1, by omega, h3⟩
    · rintro (h | ⟨j, d, h1, h2, h3⟩)
      · exact .inl (.inl h)
      · cases j with
        | zero =>
          simp at h1
          subst h1
          exact .inl (.inr ⟨by omega, h3⟩)
        | succ j => exact .inr ⟨j, d, by simpa using h1, by omega, h3⟩
theorem hallsFor_has {l : GLoan} {hs : List GClimate} {k : Nat} {c : GClimate} (h : hs[k]? = some c) : decide ((k : Int) ∈ hallsFor l hs) = (breach l c == 0) := by
  unfold hallsFor
  rw [Bool.eq_iff_iff, decide_eq_true_eq, beq_iff_eq, hallsFor_gen]
  constructor
  · rintro (h1 | ⟨j, d, h1, h2, h3⟩)
    · simp at h1
    · have : j = k := by omega
      subst this
      rw [h] at h1
      injection h1 with h1
      rw [h1]
      exact h3
  · intro h1
    exact .inr ⟨k, c, h, by omega, h1⟩
theorem hallStep_len (l : GLoan) : ∀ (hs : List GClimate) (p : List Int × Int), (hs.foldl (hallStep l) p).1.length ≤ p.1.length + hs.length
  | [], p => by simp
  | c :: hs, p => by
    have := hallStep_len l hs (hallStep l p c)
    have h2 : (hallStep l p c).1.length ≤ p.1.length + 1 := by unfold hallStep; simp only; split <;> simp
    simp only [List.foldl_cons, List.length_cons]
    omega
end Go.Proofs.Ytlgmiifpdjalpaa
