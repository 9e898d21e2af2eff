/- Shifts in the order of their starts, and their filling by the fewest guards, in plain Lean; no condition. -/
import Derived.Test.YtlgmiifpdjalpaaS3
namespace Go.Proofs.Ytlgmiifpdjalpaa
set_option linter.unusedSimpArgs false
set_option linter.unusedVariables false
def shF (xs : List GShift) (i : Nat) : Int := (xs.getD i ⟨0, 0, 0⟩).f
def shT (xs : List GShift) (i : Nat) : Int := (xs.getD i ⟨0, 0, 0⟩).t
/-- By the start, then by the place. -/
def lexL (xs : List GShift) (i j : Nat) : Bool := decide (shF xs i < shF xs j) || (decide (shF xs i = shF xs j) && decide (i ≤ j))
theorem lexL_iff (xs : List GShift) (i j : Nat) : lexL xs i j = true ↔ shF xs i < shF xs j ∨ (shF xs i = shF xs j ∧ i ≤ j) := by simp [lexL]
theorem lexL_trans (xs : List GShift) (a b c : Nat) (h : lexL xs a b = true) (k : lexL xs b c = true) : lexL xs a c = true := by
  rw [lexL_iff] at h k ⊢; omega
theorem lexL_total (xs : List GShift) (a b : Nat) : (lexL xs a b || lexL xs b a) = true := by
  rw [Bool.or_eq_true, lexL_iff, lexL_iff]; omega
theorem lexL_anti (xs : List GShift) (a b : Nat) (h : lexL xs a b = true) (k : lexL xs b a = true) : a = b := by
  rw [lexL_iff] at h k; omega
def ordL (xs : List GShift) : List Nat := (List.range xs.length).mergeSort (lexL xs)
theorem ordL_perm (xs : List GShift) : (ordL xs).Perm (List.range xs.length) := List.mergeSort_perm _ _
theorem ordL_sorted (xs : List GShift) : (ordL xs).Pairwise (fun a b => lexL xs a b = true) :=
  List.pairwise_mergeSort (lexL_trans xs) (lexL_total xs) _
theorem ordL_len (xs : List GShift) : (ordL xs).length = xs.length := by rw [(ordL_perm xs).length_eq, List.length_range]
/-- Two rows of the same elements, both in order, are one. -/
theorem order_unique {r : Nat → Nat → Bool} (anti : ∀ a b, r a b = true → r b a = true → a = b) : ∀ {l1 l2 : List Nat}, l1.Perm l2 → l1.Pairwise (fun a b => r a b = true) → l2.Pairwise (fun a b => r a b = true) → l1 = l2
  | [], l2, h, _, _ => by rw [h.nil_eq]
  | a :: l1, [], h, _, _ => by have := h.length_eq; simp at this
  | a :: l1, b :: l2, h, h1, h2 => by
    have hab : a = b := by
      have ha : a ∈ b :: l2 := h.subset (List.mem_cons_self ..)
      have hb : b ∈ a :: l1 := h.symm.subset (List.mem_cons_self ..)
      rcases List.mem_cons.1 ha with e | ha
      · exact e
      · rcases List.mem_cons.1 hb with e | hb
        · exact e.symm
        · exact anti a b ((List.pairwise_cons.1 h1).1 b hb) ((List.pairwise_cons.1 h2).1 a ha)
    subst hab
    rw [order_unique anti (List.Perm.cons_inv h) (List.pairwise_cons.1 h1).2 (List.pairwise_cons.1 h2).2]
theorem ordL_eq {xs : List GShift} {l : List Nat} (h : l.Perm (List.range xs.length)) (hs : l.Pairwise (fun a b => lexL xs a b = true)) : l = ordL xs :=
  order_unique (lexL_anti xs) (h.trans (ordL_perm xs).symm) hs (ordL_sorted xs)
/-- The first guard that is free again. -/
def pickG (st : List Int) (fr rest : Int) : Nat := st.findIdx (fun e => decide (e + rest ≤ fr))
def putG (st : List Int) (g : Nat) (e : Int) : List Int := if g < st.length then st.set g e else st ++ [e]
def fstep (xs : List GShift) (rest : Int) (s : List Int × List Int) (i : Nat) : List Int × List Int :=
  (putG s.1 (pickG s.1 (shF xs i) rest) (shT xs i), s.2.set i (pickG s.1 (shF xs i) rest : Nat))
def fillS (xs : List GShift) (rest : Int) (p : List Nat) : List Int × List Int := p.foldl (fstep xs rest) ([], List.replicate xs.length 0)
theorem fillS_snoc (xs : List GShift) (rest : Int) (p : List Nat) (i : Nat) : fillS xs rest (p ++ [i]) = fstep xs rest (fillS xs rest p) i := by simp [fillS]
theorem putG_len (st : List Int) (g : Nat) (e : Int) : (putG st g e).length ≤ st.length + 1 ∧ st.length ≤ (putG st g e).length := by
  unfold putG; split <;> simp
theorem fillS_len (xs : List GShift) (rest : Int) : ∀ (p : List Nat) (s : List Int × List Int), (p.foldl (fstep xs rest) s).1.length ≤ s.1.length + p.length ∧ (p.foldl (fstep xs rest) s).2.length = s.2.length
  | [], s => by simp
  | i :: p, s => by
    have h := fillS_len xs rest p (fstep xs rest s i)
    have h1 := (putG_len s.1 (pickG s.1 (shF xs i) rest) (shT xs i)).1
    rw [List.foldl_cons, List.length_cons]
    simp only [fstep, List.length_set] at h h1 ⊢
    omega
theorem fillS_st (xs : List GShift) (rest : Int) (p : List Nat) : (fillS xs rest p).1.length ≤ p.length := by
  have := (fillS_len xs rest p ([], List.replicate xs.length 0)).1
  simpa [fillS] using this
theorem fillS_out (xs : List GShift) (rest : Int) (p : List Nat) : (fillS xs rest p).2.length = xs.length := by
  have := (fillS_len xs rest p ([], List.replicate xs.length 0)).2
  simpa [fillS] using this
theorem pickG_le (st : List Int) (fr rest : Int) : pickG st fr rest ≤ st.length := List.findIdx_le_length
theorem pickG_at {st : List Int} {fr rest : Int} {g : Nat} (hg : g < st.length) (h : st.getD g 0 + rest ≤ fr) (hn : ∀ j, j < g → ¬ st.getD j 0 + rest ≤ fr) : pickG st fr rest = g := by
  have h1 : st[g]'hg + rest ≤ fr := by rwa [List.getD_eq_getElem?_getD, List.getElem?_eq_getElem hg] at h
  rcases Nat.lt_trichotomy (pickG st fr rest) g with hlt | he | hgt
  · have hx := List.findIdx_getElem (xs := st) (p := fun e => decide (e + rest ≤ fr)) (w := by unfold pickG at hlt; omega)
    have := hn _ hlt
    rw [List.getD_eq_getElem?_getD, List.getElem?_eq_getElem (by omega)] at this
    simp at hx this
    exact absurd hx (by unfold pickG at this; omega)
  · exact he
  · have := List.not_of_lt_findIdx (p := fun e => decide (e + rest ≤ fr)) (xs := st) (i := g) hgt
    simp at this
    omega
theorem pickG_none {st : List Int} {fr rest : Int} (hn : ∀ j, j < st.length → ¬ st.getD j 0 + rest ≤ fr) : pickG st fr rest = st.length := by
  refine List.findIdx_eq_length.2 fun x hx => ?_
  obtain ⟨j, hj, rfl⟩ := List.mem_iff_getElem.1 hx
  have := hn j hj
  rw [List.getD_eq_getElem?_getD, List.getElem?_eq_getElem hj] at this
  simpa using this
theorem putG_mem {st : List Int} {g : Nat} {e z : Int} (h : z ∈ putG st g e) : z ∈ st ∨ z = e := by
  unfold putG at h
  split at h
  · rcases List.mem_or_eq_of_mem_set h with h | h
    · exact .inl h
    · exact .inr h
  · simpa using h
theorem fold_bd (xs : List GShift) (rest : Int) (hv : ∀ i, i < xs.length → 0 ≤ shT xs i ∧ shT xs i ≤ 10000) : ∀ (p : List Nat) (s : List Int × List Int), (∀ i ∈ p, i < xs.length) → (∀ z ∈ s.1, 0 ≤ z ∧ z ≤ 10000) → ∀ z ∈ (p.foldl (fstep xs rest) s).1, 0 ≤ z ∧ z ≤ 10000
  | [], s, _, hs => hs
  | i :: p, s, hp, hs => by
    rw [List.foldl_cons]
    refine fold_bd xs rest hv p _ (fun j hj => hp j (List.mem_cons_of_mem _ hj)) fun z hz => ?_
    rcases putG_mem hz with h | rfl
    · exact hs z h
    · exact hv i (hp i (List.mem_cons_self ..))
theorem fillS_bd {xs : List GShift} (h : xs.all shOk = true) (rest : Int) {p : List Nat} (hp : ∀ i ∈ p, i < xs.length) : ∀ z ∈ (fillS xs rest p).1, 0 ≤ z ∧ z ≤ 10000 := by
  refine fold_bd xs rest (fun i hi => ?_) p _ hp (fun z hz => by simp at hz)
  have := List.all_eq_true.1 h xs[i] (List.getElem_mem hi)
  unfold shT
  rw [List.getD_eq_getElem?_getD, List.getElem?_eq_getElem hi]
  simp [shOk, inB] at this ⊢
  omega
theorem ordL_mem {xs : List GShift} {k : Nat} : ∀ i ∈ (ordL xs).take k, i < xs.length := fun i hi => List.mem_range.1 ((ordL_perm xs).subset (List.mem_of_mem_take hi))
theorem ordL_at {xs : List GShift} {k : Nat} (h : k < xs.length) : ∃ i, (ordL xs)[k]? = some i ∧ i < xs.length := by
  have hk : k < (ordL xs).length := by rw [ordL_len]; exact h
  exact ⟨(ordL xs)[k], List.getElem?_eq_getElem hk, List.mem_range.1 ((ordL_perm xs).subset (List.getElem_mem hk))⟩
theorem fillS_step {xs : List GShift} {rest : Int} {k i : Nat} {st u : List Int} (hk : (ordL xs)[k]? = some i) (h : (st, u) = fillS xs rest ((ordL xs).take k)) : fillS xs rest ((ordL xs).take (k + 1)) = (putG st (pickG st (shF xs i) rest) (shT xs i), u.set i (pickG st (shF xs i) rest : Nat)) := by
  rw [List.take_add_one, hk, Option.toList_some, fillS_snoc, ← h]; rfl
/-- Whom each shift goes to. -/
def fillV (xs : List GShift) (rest : Int) : Bool := (xs.all shOk && decide (xs.length ≤ 20)) && inB rest 0 1000
def fillL (xs : List GShift) (rest : Int) : List Int := if fillV xs rest then (fillS xs rest (ordL xs)).2 else []
theorem fillL_len {xs : List GShift} {rest : Int} (h : fillV xs rest = true) : (fillL xs rest).length = xs.length := by
  rw [fillL, if_pos h, fillS_out]
def mostL (xs : List Int) : Int := xs.foldl imax (-1)
end Go.Proofs.Ytlgmiifpdjalpaa
