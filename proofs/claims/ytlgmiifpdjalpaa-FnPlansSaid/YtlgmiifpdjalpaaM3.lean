/- Least lists of indices: the first in the order of length and then of the alphabet, and the best of all bit sets, are the same; no condition but what stands at each theorem. -/
import Derived.Test.YtlgmiifpdjalpaaK0
namespace Go.Proofs.Ytlgmiifpdjalpaa
set_option linter.unusedSimpArgs false
set_option linter.unusedVariables false
def lessL : List Int → List Int → Bool
  | [], [] => false
  | [], _ :: _ => true
  | _ :: _, [] => false
  | x :: a, y :: b => if x == y then lessL a b else decide (x < y)
theorem lessL_irrefl : ∀ a : List Int, lessL a a = false
  | [] => rfl
  | x :: a => by simp [lessL, lessL_irrefl a]
theorem lessL_trans : ∀ {a b c : List Int}, lessL a b = true → lessL b c = true → lessL a c = true
  | [], [], _, h, _ => by simp [lessL] at h
  | [], _ :: _, [], _, h => by simp [lessL] at h
  | [], _ :: _, _ :: _, _, _ => rfl
  | _ :: _, [], _, h, _ => by simp [lessL] at h
  | _ :: _, _ :: _, [], _, h => by simp [lessL] at h
  | x :: a, y :: b, z :: c, h1, h2 => by
    simp only [lessL] at h1 h2 ⊢
    by_cases hxy : x = y
    · subst hxy
      by_cases hyz : x = z
      · subst hyz
        simp at h1 h2 ⊢
        exact lessL_trans h1 h2
      · simpa [hyz] using h2
    · by_cases hyz : y = z
      · subst hyz; simp [hxy] at h1 ⊢; exact h1
      · simp [hxy] at h1
        simp [hyz] at h2
        have : x ≠ z := by omega
        simp [this]; omega
theorem lessL_total : ∀ (a b : List Int), a = b ∨ lessL a b = true ∨ lessL b a = true
  | [], [] => .inl rfl
  | [], _ :: _ => .inr (.inl rfl)
  | _ :: _, [] => .inr (.inr rfl)
  | x :: a, y :: b => by
    by_cases h : x = y
    · subst h
      rcases lessL_total a b with h | h | h
      · exact .inl (by rw [h])
      · exact .inr (.inl (by simp [lessL, h]))
      · exact .inr (.inr (by simp [lessL, h]))
    · rcases Int.lt_or_gt_of_ne h with h1 | h1
      · exact .inr (.inl (by simp [lessL, h, h1]))
      · exact .inr (.inr (by simp [lessL, Ne.symm h]; omega))
/-- a comes before b: shorter, or of the same length and less. -/
def ltr (a b : List Int) : Bool := decide (a.length < b.length) || (a.length == b.length && lessL a b)
theorem ltr_trans {a b c : List Int} (h1 : ltr a b = true) (h2 : ltr b c = true) : ltr a c = true := by
  simp only [ltr, Bool.or_eq_true, Bool.and_eq_true, decide_eq_true_eq, beq_iff_eq] at *
  rcases h1 with h1 | h1 <;> rcases h2 with h2 | h2
  · left; omega
  · left; omega
  · left; omega
  · right; exact ⟨by omega, lessL_trans h1.2 h2.2⟩
theorem ltr_asymm {a b : List Int} (h1 : ltr a b = true) (h2 : ltr b a = true) : False := by
  have := ltr_trans h1 h2
  simp [ltr, lessL_irrefl] at this
theorem ltr_total (a b : List Int) : a = b ∨ ltr a b = true ∨ ltr b a = true := by
  simp only [ltr, Bool.or_eq_true, Bool.and_eq_true, decide_eq_true_eq, beq_iff_eq]
  rcases Nat.lt_trichotomy a.length b.length with h | h | h
  · exact .inr (.inl (.inl h))
  · rcases lessL_total a b with h1 | h1 | h1
    · exact .inl h1
    · exact .inr (.inl (.inr ⟨h, h1⟩))
    · exact .inr (.inr (.inr ⟨h.symm, h1⟩))
  · exact .inr (.inr (.inl h))
def better (best l : List Int) : Bool := best.isEmpty || ltr l best
def bestStep (p : List Int → Bool) (best l : List Int) : List Int := if p l && better best l then l else best
/-- best is the least of the lists of B for which p is true. -/
def Least (p : List Int → Bool) (B : List (List Int)) (best : List Int) : Prop :=
  (best = [] ∧ ∀ x ∈ B, p x = false) ∨ (best ≠ [] ∧ best ∈ B ∧ p best = true ∧ ∀ x ∈ B, p x = true → x = best ∨ ltr best x = true)
theorem least_step {p : List Int → Bool} {B : List (List Int)} {best l : List Int} (h : Least p B best) (hl : l ≠ []) : Least p (B ++ [l]) (bestStep p best l) := by
  unfold bestStep
  cases hp : p l with
  | false =>
    simp only [Bool.false_and, Bool.false_eq_true, if_false]
    rcases h with ⟨h1, h2⟩ | ⟨h1, h2, h3, h4⟩
    · exact .inl ⟨h1, fun x hx => by rcases List.mem_append.1 hx with hx | hx; exact h2 x hx; simp at hx; rw [hx]; exact hp⟩
    · exact .inr ⟨h1, by simp [h2], h3, fun x hx hpx => by rcases List.mem_append.1 hx with hx | hx; exact h4 x hx hpx; simp at hx; rw [hx, hp] at hpx; cases hpx⟩
  | true =>
    simp only [Bool.true_and]
    rcases h with ⟨h1, h2⟩ | ⟨h1, h2, h3, h4⟩
    · subst h1
      simp only [better, List.isEmpty_nil, Bool.true_or, if_true]
      exact .inr ⟨hl, by simp, hp, fun x hx hpx => by rcases List.mem_append.1 hx with hx | hx; rw [h2 x hx] at hpx; cases hpx; simp at hx; exact .inl hx⟩
    · have hb : better best l = ltr l best := by cases best with | nil => exact absurd rfl h1 | cons _ _ => rfl
      rw [hb]
      cases hlt : ltr l best with
      | true =>
        simp only [if_true]
        refine .inr ⟨hl, by simp, hp, fun x hx hpx => ?_⟩
        rcases List.mem_append.1 hx with hx | hx
        · rcases h4 x hx hpx with h5 | h5
          · right; rw [h5]; exact hlt
          · right; exact ltr_trans hlt h5
        · simp at hx; exact .inl hx
      | false =>
        simp only [Bool.false_eq_true, if_false]
        refine .inr ⟨h1, by simp [h2], h3, fun x hx hpx => ?_⟩
        rcases List.mem_append.1 hx with hx | hx
        · exact h4 x hx hpx
        · simp at hx
          subst hx
          rcases ltr_total x best with h5 | h5 | h5
          · exact .inl h5
          · rw [h5] at hlt; cases hlt
          · exact .inr h5
theorem least_unique {p : List Int → Bool} {B : List (List Int)} {a b : List Int} (h : Least p B a) (k : Least p B b) : a = b := by
  rcases h with ⟨h1, h2⟩ | ⟨h1, h2, h3, h4⟩ <;> rcases k with ⟨k1, k2⟩ | ⟨k1, k2, k3, k4⟩
  · rw [h1, k1]
  · rw [h2 b k2] at k3; cases k3
  · rw [k2 a h2] at h3; cases h3
  · rcases h4 b k2 k3 with h5 | h5
    · exact h5.symm
    · rcases k4 a h2 h3 with k5 | k5
      · exact k5
      · exact (ltr_asymm h5 k5).elim
theorem least_find {p : List Int → Bool} : ∀ {A : List (List Int)}, A.Pairwise (fun a b => ltr a b = true) → (∀ a ∈ A, a ≠ []) → Least p A ((A.find? p).getD [])
  | [], _, _ => .inl ⟨rfl, fun x hx => by simp at hx⟩
  | a :: A, hp, hne => by
    rw [List.pairwise_cons] at hp
    cases hpa : p a with
    | true =>
      rw [List.find?_cons_of_pos hpa]
      exact .inr ⟨hne a (by simp), by simp, hpa, fun x hx _ => by rcases List.mem_cons.1 hx with hx | hx; exact .inl hx; exact .inr (hp.1 x hx)⟩
    | false =>
      rw [List.find?_cons_of_neg (by rw [hpa]; decide)]
      rcases least_find (p := p) hp.2 (fun x hx => hne x (by simp [hx])) with ⟨h1, h2⟩ | ⟨h1, h2, h3, h4⟩
      · exact .inl ⟨h1, fun x hx => by rcases List.mem_cons.1 hx with hx | hx; rw [hx]; exact hpa; exact h2 x hx⟩
      · exact .inr ⟨h1, by simp [h2], h3, fun x hx hpx => by rcases List.mem_cons.1 hx with hx | hx; rw [hx, hpa] at hpx; cases hpx; exact h4 x hx hpx⟩
theorem least_fold (p : List Int → Bool) : ∀ (C B : List (List Int)) (best : List Int), (∀ x ∈ C, x ≠ []) → Least p B best → Least p (B ++ C) (C.foldl (bestStep p) best)
  | [], B, best, _, h => by simpa using h
  | l :: C, B, best, hne, h => by
    have := least_fold p C (B ++ [l]) _ (fun x hx => hne x (by simp [hx])) (least_step h (hne l (by simp)))
    simpa using this
theorem least_congr {p : List Int → Bool} {A B : List (List Int)} (h : ∀ x, x ∈ A ↔ x ∈ B) {best : List Int} (k : Least p A best) : Least p B best := by
  rcases k with ⟨h1, h2⟩ | ⟨h1, h2, h3, h4⟩
  · exact .inl ⟨h1, fun x hx => h2 x ((h x).2 hx)⟩
  · exact .inr ⟨h1, (h _).1 h2, h3, fun x hx => h4 x ((h x).2 hx)⟩
/-- The program's lists: ascending, of a length, beginning so. -/
def fromN (b : List Int) : Nat := match b.getLast? with | none => 0 | some x => (x + 1).toNat
def lsts (n : Nat) : Nat → List Int → List (List Int)
  | 0, b => [b]
  | m + 1, b => (List.range' (fromN b) (n - fromN b)).flatMap fun (k : Nat) => lsts n m (b ++ [(k : Int)])
def allL (n : Nat) : List (List Int) := (List.range' 1 n).flatMap fun m => lsts n m []
def bitsL (n s : Nat) : List Int := ((List.range n).filter fun k => (s >>> k) % 2 == 1).map fun (k : Nat) => (k : Int)
def setsL (n : Nat) : List (List Int) := (List.range' 1 (2 ^ n - 1)).map (bitsL n)
theorem sets_all {n : Nat} (h : n ≤ 6) : (allL n).Pairwise (fun a b => ltr a b = true) ∧ (∀ a ∈ allL n, a ≠ []) ∧ (∀ x ∈ allL n, x ∈ setsL n) ∧ (∀ x ∈ setsL n, x ∈ allL n) := by
  have h7 : n = 0 ∨ n = 1 ∨ n = 2 ∨ n = 3 ∨ n = 4 ∨ n = 5 ∨ n = 6 := by omega
  rcases h7 with rfl | rfl | rfl | rfl | rfl | rfl | rfl <;> exact ⟨by decide +kernel, by decide +kernel, by decide +kernel, by decide +kernel⟩
theorem best_eq {n : Nat} (h : n ≤ 6) (p : List Int → Bool) : (setsL n).foldl (bestStep p) [] = ((allL n).find? p).getD [] := by
  obtain ⟨h1, h2, h3, h4⟩ := sets_all h
  refine least_unique (p := p) (B := setsL n) ?_ (least_congr (fun x => ⟨h3 x, h4 x⟩) (least_find h1 h2))
  have := least_fold p (setsL n) [] [] (fun x hx => h2 x (h4 x hx)) (.inl ⟨rfl, fun x hx => by simp at hx⟩)
  simpa using this
theorem lsts_find (n m : Nat) (b : List Int) (p : List Int → Bool) : (lsts n (m + 1) b).find? p = (List.range' (fromN b) (n - fromN b)).findSome? fun (k : Nat) => (lsts n m (b ++ [(k : Int)])).find? p := by
  rw [lsts, List.find?_flatMap]
theorem allL_find (n : Nat) (p : List Int → Bool) : (allL n).find? p = (List.range' 1 n).findSome? fun m => (lsts n m []).find? p := by
  rw [allL, List.find?_flatMap]
end Go.Proofs.Ytlgmiifpdjalpaa
