/- Sorted rows of numbers without repeats, in plain Lean; whom a missing object leaves under suspicion; no condition. -/
import Derived.Test.YtlgmiifpdjalpaaS3
import Derived.Lib.SlicesCompact
namespace Go.Proofs.Ytlgmiifpdjalpaa
set_option linter.unusedSimpArgs false
set_option linter.unusedVariables false
open Go.Sort
theorem strict_unique : ∀ {a b : List Int}, a.Pairwise (· < ·) → b.Pairwise (· < ·) → (∀ x, x ∈ a ↔ x ∈ b) → a = b
  | [], b, _, _, h => by
    cases b with
    | nil => rfl
    | cons y b => exact absurd ((h y).2 (List.mem_cons_self ..)) (by simp)
  | x :: a, [], _, _, h => absurd ((h x).1 (List.mem_cons_self ..)) (by simp)
  | x :: a, y :: b, ha, hb, h => by
    have h1 := List.pairwise_cons.1 ha
    have h2 := List.pairwise_cons.1 hb
    have hxy : x = y := by
      rcases List.mem_cons.1 ((h x).1 (List.mem_cons_self ..)) with e | hx
      · exact e
      · rcases List.mem_cons.1 ((h y).2 (List.mem_cons_self ..)) with e | hy
        · exact e.symm
        · have := h2.1 x hx
          have := h1.1 y hy
          omega
    subst hxy
    rw [strict_unique h1.2 h2.2 (fun z => ?_)]
    constructor
    · intro hz
      rcases List.mem_cons.1 ((h z).1 (List.mem_cons_of_mem _ hz)) with e | h'
      · have := h1.1 z hz; omega
      · exact h'
    · intro hz
      rcases List.mem_cons.1 ((h z).2 (List.mem_cons_of_mem _ hz)) with e | h'
      · have := h2.1 z hz; omega
      · exact h'
theorem compact_fold {d : Array Int} (hs : ∀ j, j + 1 < d.size → d[j]! ≤ d[j + 1]!) : ∀ m, m ≤ d.size →
    (Lib.compactUpTo d m).Pairwise (· < ·) ∧ (∀ x, x ∈ Lib.compactUpTo d m ↔ ∃ j, j < m ∧ d[j]! = x) ∧ (0 < m → ∀ x ∈ Lib.compactUpTo d m, x ≤ d[m - 1]!)
  | 0, _ => ⟨by simp [Lib.compactUpTo], by simp [Lib.compactUpTo], fun h => by omega⟩
  | m + 1, hm => by
    obtain ⟨h1, h2, h3⟩ := compact_fold hs m (by omega)
    rw [Lib.compactUpTo_succ]
    by_cases hk : Lib.keeps d m = true
    · rw [if_pos hk]
      have hlt : ∀ x ∈ Lib.compactUpTo d m, x < d[m]! := fun x hx => by
        by_cases h0 : m = 0
        · subst h0; simp [Lib.compactUpTo] at hx
        · have := h3 (by omega) x hx
          have h4 := hs (m - 1) (by omega)
          rw [show m - 1 + 1 = m by omega] at h4
          unfold Lib.keeps at hk
          rcases of_decide_eq_true hk with hk | hk
          · omega
          · have : d[m - 1]! ≠ d[m]! := fun e => hk e.symm
            omega
      refine ⟨?_, fun x => ?_, fun _ x hx => ?_⟩
      · rw [List.pairwise_append]
        exact ⟨h1, by simp, fun a ha b hb => by rw [List.mem_singleton] at hb; subst hb; exact hlt a ha⟩
      · rw [List.mem_append, h2, List.mem_singleton]
        constructor
        · rintro (⟨j, hj, e⟩ | rfl)
          · exact ⟨j, by omega, e⟩
          · exact ⟨m, by omega, rfl⟩
        · rintro ⟨j, hj, e⟩
          by_cases hjm : j = m
          · subst hjm; exact .inr e.symm
          · exact .inl ⟨j, by omega, e⟩
      · rw [Nat.add_sub_cancel]
        rcases List.mem_append.1 hx with hx | hx
        · have := hlt x hx; omega
        · rw [List.mem_singleton] at hx; omega
    · rw [if_neg hk, List.append_nil]
      have he : m ≠ 0 ∧ d[m]! = d[m - 1]! := by
        unfold Lib.keeps at hk
        simp only [decide_eq_true_eq, not_or, Decidable.not_not] at hk
        exact hk
      refine ⟨h1, fun x => ?_, fun _ x hx => ?_⟩
      · rw [h2]
        constructor
        · rintro ⟨j, hj, e⟩; exact ⟨j, by omega, e⟩
        · rintro ⟨j, hj, e⟩
          by_cases hjm : j = m
          · subst hjm; exact ⟨j - 1, by omega, by rw [← he.2]; exact e⟩
          · exact ⟨j, by omega, e⟩
      · rw [Nat.add_sub_cancel, he.2]
        exact h3 (by omega) x hx
theorem compact_sorted {zs : List Int} (h : zs.Pairwise (· ≤ ·)) : (Lib.compact zs).Pairwise (· < ·) ∧ ∀ x, x ∈ Lib.compact zs ↔ x ∈ zs := by
  have hs : ∀ j, j + 1 < zs.toArray.size → zs.toArray[j]! ≤ zs.toArray[j + 1]! := fun j hj => by
    have hj' : j + 1 < zs.length := by simpa using hj
    have := (List.pairwise_iff_getElem.1 h) j (j + 1) (by omega) hj' (by omega)
    rw [getElem!_pos zs.toArray j (by simp; omega), getElem!_pos zs.toArray (j + 1) (by simpa using hj')]
    simpa using this
  obtain ⟨h1, h2, _⟩ := compact_fold hs zs.length (by simp)
  refine ⟨h1, fun x => ?_⟩
  unfold Lib.compact
  rw [h2]
  constructor
  · rintro ⟨j, hj, e⟩
    rw [getElem!_pos zs.toArray j (by simpa using hj)] at e
    rw [← e]
    simp
  · intro hx
    obtain ⟨j, hj, e⟩ := List.mem_iff_getElem.1 hx
    exact ⟨j, hj, by rw [getElem!_pos zs.toArray j (by simpa using hj)]; simpa using e⟩
/-- The numbers of a row, each once, in order. -/
def uniqL (zs : List Int) : List Int := Lib.compact (zs.mergeSort fun x y => decide (x ≤ y))
theorem uniqL_ok (zs : List Int) : (uniqL zs).Pairwise (· < ·) ∧ ∀ x, x ∈ uniqL zs ↔ x ∈ zs := by
  have hp : (zs.mergeSort fun x y => decide (x ≤ y)).Pairwise (· ≤ ·) := by
    have := List.pairwise_mergeSort (le := fun x y : Int => decide (x ≤ y)) (fun a b c h k => by simp at h k ⊢; omega) (fun a b => by simp; omega) zs
    exact this.imp (fun h => by simpa using h)
  obtain ⟨h1, h2⟩ := compact_sorted hp
  exact ⟨h1, fun x => by rw [uniqL, h2, List.mem_mergeSort]⟩
theorem uniqL_eq {zs L : List Int} (h : L.Pairwise (· < ·)) (hm : ∀ x, x ∈ L ↔ x ∈ zs) : L = uniqL zs :=
  strict_unique h (uniqL_ok zs).1 (fun x => by rw [hm, (uniqL_ok zs).2])
theorem compact_len (zs : List Int) : (Lib.compact zs).length ≤ zs.length := by
  unfold Lib.compact Lib.compactUpTo
  rw [List.length_map]
  exact Nat.le_trans (List.length_filter_le ..) (by simp)
theorem uniqL_len (zs : List Int) : (uniqL zs).length ≤ zs.length := Nat.le_trans (compact_len _) (by simp)
/-- A stay in the hall, between the two moments. -/
def stayK (hall lo hi : Int) (s : GStay) : Bool := (s.h == hall) && decide (s.f ≤ hi) && decide (lo ≤ s.t)
def stayP (ss : List GStay) (hall lo hi : Int) : List Int := (ss.filter (stayK hall lo hi)).map (·.p)
theorem stayP_snoc (ss : List GStay) (s : GStay) (hall lo hi : Int) : stayP (ss ++ [s]) hall lo hi = stayP ss hall lo hi ++ if stayK hall lo hi s then [s.p] else [] := by
  unfold stayP
  rw [List.filter_append, List.map_append]
  congr 1
  by_cases h : stayK hall lo hi s = true
  · simp [h]
  · simp [h]
theorem stayP_len (ss : List GStay) (hall lo hi : Int) : (stayP ss hall lo hi).length ≤ ss.length := by
  unfold stayP
  rw [List.length_map]
  exact List.length_filter_le ..
def suspL (ss : List GStay) (hall : Int) (cs : List GCheck) (o : Int) : List Int :=
  if 0 ≤ firstMissed cs o then uniqL (stayP ss hall (imax 0 (lastSeen cs o)) (firstMissed cs o)) else []
theorem suspL_len (ss : List GStay) (hall : Int) (cs : List GCheck) (o : Int) : (suspL ss hall cs o).length ≤ ss.length := by
  unfold suspL
  split
  · exact Nat.le_trans (uniqL_len _) (stayP_len ..)
  · simp
/-- Putting p into its place: what is below, p, what it has passed. -/
theorem put_sorted {q r : List Int} {p : Int} (h : (q ++ r).Pairwise (· < ·)) (hn : p ∉ q ++ r) (hr : ∀ y ∈ r, p < y) (hq : q = [] ∨ ∃ q' y, q = q' ++ [y] ∧ ¬ p < y) : (q ++ p :: r).Pairwise (· < ·) := by
  rw [List.pairwise_append] at h ⊢
  refine ⟨h.1, List.pairwise_cons.2 ⟨hr, h.2.1⟩, fun a ha b hb => ?_⟩
  rcases List.mem_cons.1 hb with rfl | hb
  · rcases hq with rfl | ⟨q', y, rfl, hy⟩
    · cases ha
    · have hyb : y ≠ b := fun e => hn (by rw [e]; simp)
      rcases List.mem_append.1 ha with ha | ha
      · have := (List.pairwise_append.1 h.1).2.2 a ha y (List.mem_singleton.2 rfl)
        omega
      · rw [List.mem_singleton] at ha; omega
  · exact h.2.2 a ha b hb
theorem hole_at (q : List Int) (z : Int) (r : List Int) : (q ++ z :: r).getD q.length 0 = z := by simp
theorem hole_below (q : List Int) (y z : Int) (r : List Int) : ((q ++ [y]) ++ z :: r).getD q.length 0 = y := by
  rw [List.append_assoc, List.getD_eq_getElem?_getD, List.getElem?_append_right (Nat.le_refl _)]; simp
theorem hole_step (q : List Int) (y z : Int) (r : List Int) : ((q ++ [y]) ++ z :: r).set (q.length + 1) y = q ++ y :: (y :: r) := by
  rw [List.append_assoc, List.set_append, if_neg (by simp)]; simp
theorem hole_fill (q : List Int) (z p : Int) (r : List Int) : (q ++ z :: r).set q.length p = q ++ p :: r := by
  rw [List.set_append, if_neg (by simp)]; simp
end Go.Proofs.Ytlgmiifpdjalpaa
