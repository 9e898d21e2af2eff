/- The cheapest lists of guards: built from the front with whole costs, or from the back with the costs of the rest, they are the same; no condition but what stands at each theorem. -/
import Derived.Test.YtcmbjkidgemdaaaK0
namespace Go.Proofs.Ytcmbjkidgemdaaa
set_option linter.unusedSimpArgs false
set_option linter.unusedVariables false
def costB (D : Nat → Nat → Int) : Nat → List Int → Int
  | _, [] => 0
  | i, x :: r => D x.toNat i + costB D (i + 1) r
theorem costB_snoc (D : Nat → Nat → Int) : ∀ (b : List Int) (i : Nat) (x : Int), costB D i (b ++ [x]) = costB D i b + D x.toNat (i + b.length)
  | [], i, x => by simp [costB]
  | y :: b, i, x => by
    simp only [List.cons_append, costB, costB_snoc D b, List.length_cons]
    rw [show i + 1 + b.length = i + (b.length + 1) by omega]
    omega
/-- The program's: lists that begin so, m more. -/
def dispS (f : Nat → List Int × Int) (b : List Int) (st : List Int × Int) (k : Nat) : List Int × Int :=
  if b.contains (k : Int) then st else if st.1.isEmpty || decide ((f k).2 < st.2) then f k else st
def dispR (D : Nat → Nat → Int) (n : Nat) : Nat → List Int → List Int × Int
  | 0, b => (b, costB D 0 b)
  | m + 1, b => (List.range n).foldl (dispS (fun k => dispR D n m (b ++ [(k : Int)])) b) ([], 0)
/-- The reference's: the rest of a list, m more, from hall i on, but for the guards of a set. -/
def bestS (f : Nat → List Int × Int) (d : Nat → Int) (used : Nat) (st : List Int × Int) (k : Nat) : List Int × Int :=
  if used.testBit k then st else if decide (0 ≤ (f k).2) && (decide (st.2 < 0) || decide ((f k).2 + d k < st.2)) then ((k : Int) :: (f k).1, (f k).2 + d k) else st
def bestR (D : Nat → Nat → Int) (n : Nat) : Nat → Nat → Nat → List Int × Int
  | 0, _, _ => ([], 0)
  | m + 1, i, used => (List.range n).foldl (bestS (fun k => bestR D n m (i + 1) (used ||| (1 <<< k))) (fun k => D k i) used) ([], -1)
theorem pigeon : ∀ (n : Nat) (b : List Int), (∀ k, k < n → (k : Int) ∈ b) → n ≤ b.length
  | 0, _, _ => Nat.zero_le _
  | n + 1, b, h => by
    have h1 := h n (by omega)
    have h2 := pigeon n (b.erase (n : Int)) (fun k hk => (List.mem_erase_of_ne (by omega)).2 (h k (by omega)))
    rw [List.length_erase_of_mem h1] at h2
    have := List.length_pos_of_mem h1
    omega
def DRel (D : Nat → Nat → Int) (b : List Int) (k : Nat) (x y : List Int × Int) : Prop :=
  (x = ([], 0) ∧ y = ([], -1) ∧ ∀ j, j < k → (j : Int) ∈ b) ∨ (x = (b ++ y.1, costB D 0 b + y.2) ∧ y.1 ≠ [] ∧ 0 ≤ y.2)
theorem drel_step {D : Nat → Nat → Int} (hD : ∀ g i, 0 ≤ D g i) {b : List Int} {used k : Nat} (hu : ∀ k : Nat, used.testBit k = b.contains (k : Int)) {x y : List Int × Int} (h : DRel D b k x y) (f g : Nat → List Int × Int)
    (hr : (k : Int) ∉ b → f k = (b ++ [(k : Int)] ++ (g k).1, costB D 0 (b ++ [(k : Int)]) + (g k).2) ∧ 0 ≤ (g k).2) : DRel D b (k + 1) (dispS f b x k) (bestS g (fun q => D q b.length) used y k) := by
  unfold dispS bestS
  rw [hu k]
  cases hc : b.contains (k : Int) with
  | true =>
    simp only [if_true]
    have hm : (k : Int) ∈ b := by simpa using hc
    rcases h with ⟨h1, h2, h3⟩ | h
    · refine .inl ⟨h1, h2, fun j hj => ?_⟩
      by_cases e : j = k
      · subst e; exact hm
      · exact h3 j (by omega)
    · exact .inr h
  | false =>
    have hm : (k : Int) ∉ b := by simpa using hc
    simp only [Bool.false_eq_true, if_false]
    obtain ⟨e, h0⟩ := hr hm
    have hd := hD k b.length
    rw [e, costB_snoc, Int.toNat_natCast, Nat.zero_add, decide_eq_true h0, Bool.true_and]
    rcases h with ⟨rfl, rfl, h3⟩ | ⟨rfl, h2, h3⟩
    · simp only [List.isEmpty_nil, Bool.true_or, if_true]
      have : decide ((-1 : Int) < 0) = true := by decide
      rw [this, Bool.true_or, if_pos rfl]
      refine .inr ⟨?_, by simp, by simp only; omega⟩
      simp only [List.append_assoc, List.cons_append, List.nil_append]
      congr 1
      omega
    · have hne : (b ++ y.1).isEmpty = false := by
        cases hy : y.1 with
        | nil => exact absurd hy h2
        | cons a r => simp
      have hlt : decide (y.2 < 0) = false := by simp; omega
      have hc2 : decide (costB D 0 b + D k b.length + (g k).2 < costB D 0 b + y.2) = decide ((g k).2 + D k b.length < y.2) := by
        rw [Bool.eq_iff_iff]; simp; omega
      simp only [hne, Bool.false_or, hlt, hc2]
      cases decide ((g k).2 + D k b.length < y.2) with
      | true =>
        simp only [if_true]
        refine .inr ⟨?_, by simp, by simp only; omega⟩
        simp only [List.append_assoc, List.cons_append, List.nil_append]
        congr 1
        omega
      | false =>
        simp only [Bool.false_eq_true, if_false]
        exact .inr ⟨rfl, h2, h3⟩
theorem drel_fold {D : Nat → Nat → Int} (hD : ∀ g i, 0 ≤ D g i) {b : List Int} {used : Nat} (hu : ∀ k : Nat, used.testBit k = b.contains (k : Int)) (f g : Nat → List Int × Int) :
    ∀ (n k : Nat) {x y : List Int × Int}, (∀ j, j < k + n → (j : Int) ∉ b → f j = (b ++ [(j : Int)] ++ (g j).1, costB D 0 (b ++ [(j : Int)]) + (g j).2) ∧ 0 ≤ (g j).2) → DRel D b k x y →
      DRel D b (k + n) ((List.range' k n).foldl (dispS f b) x) ((List.range' k n).foldl (bestS g (fun q => D q b.length) used) y)
  | 0, k, _, _, _, h => h
  | n + 1, k, x, y, hr, h => by
    rw [List.range'_succ, List.foldl_cons, List.foldl_cons, show k + (n + 1) = k + 1 + n by omega]
    exact drel_fold hD hu f g n (k + 1) (fun j hj => hr j (by omega)) (drel_step hD hu h f g (hr k (by omega)))
theorem disp_best {D : Nat → Nat → Int} (hD : ∀ g i, 0 ≤ D g i) (n : Nat) : ∀ (m : Nat) (b : List Int) (used : Nat), b.length + m ≤ n → (∀ k : Nat, used.testBit k = b.contains (k : Int)) →
    dispR D n m b = (b ++ (bestR D n m b.length used).1, costB D 0 b + (bestR D n m b.length used).2) ∧ 0 ≤ (bestR D n m b.length used).2
  | 0, b, used, _, _ => by simp [dispR, bestR]
  | m + 1, b, used, hn, hu => by
    have hr : ∀ j, j < 0 + n → (j : Int) ∉ b → dispR D n m (b ++ [(j : Int)]) = (b ++ [(j : Int)] ++ (bestR D n m (b.length + 1) (used ||| (1 <<< j))).1, costB D 0 (b ++ [(j : Int)]) + (bestR D n m (b.length + 1) (used ||| (1 <<< j))).2) ∧ 0 ≤ (bestR D n m (b.length + 1) (used ||| (1 <<< j))).2 := by
      intro j _ _
      have hu' : ∀ k : Nat, (used ||| (1 <<< j)).testBit k = (b ++ [(j : Int)]).contains (k : Int) := by
        intro k
        rw [Nat.testBit_or, hu k, Nat.one_shiftLeft, Nat.testBit_two_pow, Bool.eq_iff_iff]
        simp only [Bool.or_eq_true, List.contains_iff_mem, decide_eq_true_eq, List.mem_append, List.mem_cons, List.not_mem_nil, or_false]
        constructor <;> (rintro (h | h)) <;> first | exact .inl h | (right; omega)
      have := disp_best hD n m (b ++ [(j : Int)]) (used ||| (1 <<< j)) (by simp; omega) hu'
      rw [show (b ++ [(j : Int)]).length = b.length + 1 by simp] at this
      exact this
    have hf := drel_fold hD hu (fun k => dispR D n m (b ++ [(k : Int)])) (fun k => bestR D n m (b.length + 1) (used ||| (1 <<< k))) n 0 hr (.inl ⟨rfl, rfl, fun j hj => by omega⟩)
    rw [← List.range_eq_range', Nat.zero_add] at hf
    rcases hf with ⟨_, _, h3⟩ | ⟨h1, h2, h3⟩
    · have := pigeon n b h3
      omega
    · exact ⟨h1, h3⟩
theorem dispR_ne {D : Nat → Nat → Int} (hD : ∀ g i, 0 ≤ D g i) {n m : Nat} {b : List Int} {used : Nat} (hn : b.length + m ≤ n) (hu : ∀ k : Nat, used.testBit k = b.contains (k : Int)) (h : 0 < b.length + m) : (dispR D n m b).1 ≠ [] := by
  cases m with
  | zero =>
    intro e
    have : b = [] := e
    subst this
    simp at h
  | succ m =>
    have hf := (disp_best hD n (m + 1) b used hn hu).1
    intro e
    rw [hf] at e
    have hlen : ∀ (m i used : Nat), 0 ≤ (bestR D n m i used).2 → (bestR D n m i used).1.length = m := by
      intro m
      induction m with
      | zero => intro i used _; rfl
      | succ m ih =>
        intro i used
        have key : ∀ (l : List Nat) (st : List Int × Int), (0 ≤ st.2 → st.1.length = m + 1) → 0 ≤ (l.foldl (bestS (fun k => bestR D n m (i + 1) (used ||| (1 <<< k))) (fun k => D k i) used) st).2 → (l.foldl (bestS (fun k => bestR D n m (i + 1) (used ||| (1 <<< k))) (fun k => D k i) used) st).1.length = m + 1 := by
          intro l
          induction l with
          | nil => intro st h; exact h
          | cons k l ihl =>
            intro st h
            rw [List.foldl_cons]
            refine ihl _ ?_
            unfold bestS
            split
            · exact h
            · split
              · rename_i hc
                simp only [Bool.and_eq_true, decide_eq_true_eq] at hc
                intro _
                simp only [List.length_cons]
                rw [ih (i + 1) _ hc.1]
              · exact h
        exact key (List.range n) ([], -1) (fun h => by simp at h)
    have h2 := hlen (m + 1) b.length used (disp_best hD n (m + 1) b used hn hu).2
    have h3 := congrArg List.length e
    simp only [List.length_append, List.length_nil] at h3
    omega
end Go.Proofs.Ytcmbjkidgemdaaa
