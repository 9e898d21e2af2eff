/- The filling of shifts keeps the rest and needs as many guards as overlap, in plain Lean; no condition. -/
import Derived.Test.YtlgmiifpdjalpaaMF
namespace Go.Proofs.Ytlgmiifpdjalpaa
set_option linter.unusedSimpArgs false
set_option linter.unusedVariables false
theorem nodup_leG : ∀ (n : Nat) (p : List Nat), p.Nodup → (∀ a ∈ p, a < n) → p.length ≤ n
  | 0, p, _, h => by
    cases p with
    | nil => simp
    | cons a r => have := h a (List.mem_cons_self ..); omega
  | n + 1, p, hd, h => by
    by_cases hn : n ∈ p
    · have h1 := nodup_leG n (p.erase n) (hd.erase n) (fun a ha => by
        have h2 := (hd.mem_erase_iff).1 ha
        have := h a h2.2
        have := h2.1
        omega)
      rw [List.length_erase_of_mem hn] at h1
      omega
    · have h1 := nodup_leG n p hd (fun a ha => by
        have h2 := h a ha
        have h3 : a ≠ n := fun e => hn (e ▸ ha)
        omega)
      omega
theorem subG : ∀ (l t : List Nat), l.Nodup → (∀ x ∈ l, x ∈ t) → l.length ≤ t.length
  | [], t, _, _ => by simp
  | x :: l, t, hd, h => by
    have hx := h x (List.mem_cons_self ..)
    have h1 := List.nodup_cons.1 hd
    have h2 := subG l (t.erase x) h1.2 (fun y hy => (List.mem_erase_of_ne (fun e => h1.1 (by rw [← e]; exact hy))).2 (h y (List.mem_cons_of_mem _ hy)))
    rw [List.length_erase_of_mem hx] at h2
    have := List.length_pos_of_mem hx
    simp only [List.length_cons]
    omega
/-- What holds while the shifts are filled, one by one in their order. -/
structure FInv (xs : List GShift) (rest : Int) (p : List Nat) (st u : List Int) : Prop where
  len : u.length = xs.length
  gs : ∀ i ∈ p, ∃ g : Nat, u.getD i 0 = (g : Int) ∧ g < st.length
  last : ∀ g, g < st.length → ∃ i ∈ p, u.getD i 0 = (g : Int) ∧ st.getD g 0 = shT xs i ∧ ∀ j ∈ p, u.getD j 0 = (g : Int) → j = i ∨ shT xs j + rest ≤ shF xs i
  apart : ∀ i ∈ p, ∀ j ∈ p, i ≠ j → u.getD i 0 = u.getD j 0 → shT xs i + rest ≤ shF xs j ∨ shT xs j + rest ≤ shF xs i
  busy : ∀ g, g < st.length → ∃ i ∈ p, ∃ js : List Nat, js.Nodup ∧ js.length = g + 1 ∧ ∀ j ∈ js, j ∈ p ∧ shF xs j ≤ shF xs i ∧ shF xs i < shT xs j + rest
theorem getD_setG (u : List Int) {i : Nat} (hi : i < u.length) (x : Int) (j : Nat) : (u.set i x).getD j 0 = if j = i then x else u.getD j 0 := by
  rw [List.getD_eq_getElem?_getD, List.getElem?_set]
  by_cases h : i = j
  · subst h; rw [if_pos rfl, if_pos rfl, if_pos hi]; rfl
  · rw [if_neg h, if_neg (fun e => h e.symm), ← List.getD_eq_getElem?_getD]
theorem busy_list {xs : List GShift} {rest : Int} {p : List Nat} {st u : List Int} (I : FInv xs rest p st u) {F : Int} (hF : ∀ i ∈ p, shF xs i ≤ F) (hb : ∀ g, g < st.length → ¬ st.getD g 0 + rest ≤ F) :
    ∀ m, m ≤ st.length → ∃ js : List Nat, js.Nodup ∧ js.length = m ∧ ∀ j ∈ js, j ∈ p ∧ shF xs j ≤ F ∧ F < shT xs j + rest ∧ ∃ g : Nat, g < m ∧ u.getD j 0 = (g : Int)
  | 0, _ => ⟨[], by simp, rfl, fun j hj => by cases hj⟩
  | m + 1, hm => by
    obtain ⟨js, h1, h2, h3⟩ := busy_list I hF hb m (by omega)
    obtain ⟨i, hi, h4, h5, _⟩ := I.last m (by omega)
    refine ⟨i :: js, List.nodup_cons.2 ⟨fun hm' => ?_, h1⟩, by simp [h2], fun j hj => ?_⟩
    · obtain ⟨_, _, _, g, hg, hgu⟩ := h3 i hm'
      rw [h4] at hgu
      omega
    · rcases List.mem_cons.1 hj with rfl | hj
      · have := hb m (by omega)
        exact ⟨hi, hF _ hi, by omega, m, by omega, h4⟩
      · obtain ⟨a, b, c, g, hg, hgu⟩ := h3 j hj
        exact ⟨a, b, c, g, by omega, hgu⟩
theorem FInv.step {xs : List GShift} {rest : Int} {p : List Nat} {st u : List Int} (I : FInv xs rest p st u) (h0 : 0 ≤ rest) {i : Nat} (hi : i < xs.length) (hp : i ∉ p) (hpl : ∀ j ∈ p, j < xs.length) (hF : ∀ j ∈ p, shF xs j ≤ shF xs i) (hv : ∀ j, j < xs.length → shF xs j < shT xs j) :
    FInv xs rest (p ++ [i]) (putG st (pickG st (shF xs i) rest) (shT xs i)) (u.set i (pickG st (shF xs i) rest : Nat)) := by
  have hiu : i < u.length := by rw [I.len]; exact hi
  have hne : ∀ j ∈ p, j ≠ i := fun j hj e => hp (e ▸ hj)
  have hget : ∀ j ∈ p, (u.set i (pickG st (shF xs i) rest : Nat)).getD j 0 = u.getD j 0 := fun j hj => by rw [getD_setG u hiu, if_neg (hne j hj)]
  have hgi : (u.set i (pickG st (shF xs i) rest : Nat)).getD i 0 = ((pickG st (shF xs i) rest : Nat) : Int) := by rw [getD_setG u hiu, if_pos rfl]
  have hvi := hv i hi
  obtain ⟨g, hg⟩ : ∃ g, g = pickG st (shF xs i) rest := ⟨_, rfl⟩
  have hgle : g ≤ st.length := by rw [hg]; exact pickG_le ..
  by_cases hlt : g < st.length
  · -- a guard that is free again
    have hfree : st.getD g 0 + rest ≤ shF xs i := by
      have hx := List.findIdx_getElem (xs := st) (p := fun e => decide (e + rest ≤ shF xs i)) (w := by rw [hg] at hlt; exact hlt)
      rw [List.getD_eq_getElem?_getD, List.getElem?_eq_getElem hlt]
      have : st[g]'hlt = st[List.findIdx (fun e => decide (e + rest ≤ shF xs i)) st]'(by rw [hg] at hlt; exact hlt) := by
        congr 1
      rw [this]
      simpa using hx
    rw [← hg] at hget hgi ⊢
    rw [putG, if_pos hlt]
    obtain ⟨li, hli, hl1, hl2, hl3⟩ := I.last g hlt
    have hbefore : ∀ j ∈ p, u.getD j 0 = (g : Int) → shT xs j + rest ≤ shF xs i := fun j hj hju => by
      rcases hl3 j hj hju with rfl | h
      · rw [← hl2]; exact hfree
      · have := hF li hli; omega
    refine ⟨by rw [List.length_set]; exact I.len, fun j hj => ?_, fun q hq => ?_, fun a ha b hb hab he => ?_, fun q hq => ?_⟩
    · rw [List.length_set]
      rcases List.mem_append.1 hj with hj | hj
      · rw [hget j hj]; exact I.gs j hj
      · rw [List.mem_singleton] at hj; subst hj; exact ⟨g, hgi, hlt⟩
    · rw [List.length_set] at hq
      by_cases hqg : q = g
      · subst hqg
        refine ⟨i, by simp, hgi, by rw [getD_setG st hlt, if_pos rfl], fun j hj hju => ?_⟩
        rcases List.mem_append.1 hj with hj | hj
        · rw [hget j hj] at hju
          exact .inr (hbefore j hj hju)
        · rw [List.mem_singleton] at hj; exact .inl hj
      · obtain ⟨k, hk, h1, h2, h3⟩ := I.last q hq
        refine ⟨k, List.mem_append_left _ hk, by rw [hget k hk]; exact h1, by rw [getD_setG st hlt, if_neg hqg]; exact h2, fun j hj hju => ?_⟩
        rcases List.mem_append.1 hj with hj | hj
        · rw [hget j hj] at hju; exact h3 j hj hju
        · rw [List.mem_singleton] at hj
          subst hj
          rw [hgi] at hju
          omega
    · rcases List.mem_append.1 ha with ha' | ha' <;> rcases List.mem_append.1 hb with hb' | hb'
      · rw [hget a ha', hget b hb'] at he; exact I.apart a ha' b hb' hab he
      · rw [List.mem_singleton] at hb'
        subst hb'
        rw [hget a ha', hgi] at he
        exact .inl (hbefore a ha' he)
      · rw [List.mem_singleton] at ha'
        subst ha'
        rw [hget b hb', hgi] at he
        exact .inr (hbefore b hb' he.symm)
      · rw [List.mem_singleton] at ha' hb'
        exact absurd (ha'.trans hb'.symm) hab
    · rw [List.length_set] at hq
      obtain ⟨k, hk, js, h1, h2, h3⟩ := I.busy q hq
      exact ⟨k, List.mem_append_left _ hk, js, h1, h2, fun j hj => ⟨List.mem_append_left _ (h3 j hj).1, (h3 j hj).2⟩⟩
  · -- a new guard
    have hge : g = st.length := by omega
    have hbusy : ∀ q, q < st.length → ¬ st.getD q 0 + rest ≤ shF xs i := fun q hq h => by
      have hlen : st.length = pickG st (shF xs i) rest := by rw [← hg]; exact hge.symm
      have hlt2 : q < List.findIdx (fun e => decide (e + rest ≤ shF xs i)) st := by
        unfold pickG at hlen; omega
      have := List.not_of_lt_findIdx (p := fun e => decide (e + rest ≤ shF xs i)) (xs := st) (i := q) hlt2
      rw [List.getD_eq_getElem?_getD, List.getElem?_eq_getElem hq] at h
      simp at this h
      omega
    rw [← hg, hge] at hget hgi ⊢
    rw [putG, if_neg (Nat.lt_irrefl _)]
    have hlen : (st ++ [shT xs i]).length = st.length + 1 := by simp
    have hold : ∀ q, q < st.length → (st ++ [shT xs i]).getD q 0 = st.getD q 0 := fun q hq => by
      rw [List.getD_eq_getElem?_getD, List.getElem?_append_left hq, ← List.getD_eq_getElem?_getD]
    have hnew : (st ++ [shT xs i]).getD st.length 0 = shT xs i := by simp
    have hno : ∀ j ∈ p, u.getD j 0 ≠ (st.length : Int) := fun j hj e => by
      obtain ⟨q, h1, h2⟩ := I.gs j hj
      rw [h1] at e
      omega
    refine ⟨by rw [List.length_set]; exact I.len, fun j hj => ?_, fun q hq => ?_, fun a ha b hb hab he => ?_, fun q hq => ?_⟩
    · rw [hlen]
      rcases List.mem_append.1 hj with hj | hj
      · rw [hget j hj]
        obtain ⟨q, h1, h2⟩ := I.gs j hj
        exact ⟨q, h1, by omega⟩
      · rw [List.mem_singleton] at hj; subst hj; exact ⟨st.length, hgi, by omega⟩
    · rw [hlen] at hq
      by_cases hqg : q = st.length
      · subst hqg
        refine ⟨i, by simp, hgi, hnew, fun j hj hju => ?_⟩
        rcases List.mem_append.1 hj with hj | hj
        · rw [hget j hj] at hju
          exact absurd hju (hno j hj)
        · rw [List.mem_singleton] at hj; exact .inl hj
      · obtain ⟨k, hk, h1, h2, h3⟩ := I.last q (by omega)
        refine ⟨k, List.mem_append_left _ hk, by rw [hget k hk]; exact h1, by rw [hold q (by omega)]; exact h2, fun j hj hju => ?_⟩
        rcases List.mem_append.1 hj with hj | hj
        · rw [hget j hj] at hju; exact h3 j hj hju
        · rw [List.mem_singleton] at hj
          subst hj
          rw [hgi] at hju
          omega
    · rcases List.mem_append.1 ha with ha' | ha' <;> rcases List.mem_append.1 hb with hb' | hb'
      · rw [hget a ha', hget b hb'] at he; exact I.apart a ha' b hb' hab he
      · rw [List.mem_singleton] at hb'
        subst hb'
        rw [hget a ha', hgi] at he
        exact absurd he (hno a ha')
      · rw [List.mem_singleton] at ha'
        subst ha'
        rw [hget b hb', hgi] at he
        exact absurd he.symm (hno b hb')
      · rw [List.mem_singleton] at ha' hb'
        exact absurd (ha'.trans hb'.symm) hab
    · rw [hlen] at hq
      by_cases hqg : q = st.length
      · subst hqg
        obtain ⟨js, h1, h2, h3⟩ := busy_list I hF hbusy st.length (Nat.le_refl _)
        refine ⟨i, by simp, i :: js, List.nodup_cons.2 ⟨fun h => hp (h3 i h).1, h1⟩, by simp [h2], fun j hj => ?_⟩
        rcases List.mem_cons.1 hj with rfl | hj
        · exact ⟨by simp, Int.le_refl _, by omega⟩
        · exact ⟨List.mem_append_left _ (h3 j hj).1, (h3 j hj).2.1, (h3 j hj).2.2.1⟩
      · obtain ⟨k, hk, js, h1, h2, h3⟩ := I.busy q (by omega)
        exact ⟨k, List.mem_append_left _ hk, js, h1, h2, fun j hj => ⟨List.mem_append_left _ (h3 j hj).1, (h3 j hj).2⟩⟩
theorem FInv.nil (xs : List GShift) (rest : Int) : FInv xs rest [] [] (List.replicate xs.length 0) :=
  ⟨by simp, fun i hi => by (cases hi), fun g hg => by (simp at hg), fun i hi => by (cases hi), fun g hg => by (simp at hg)⟩
theorem FInv.run {xs : List GShift} {rest : Int} (h0 : 0 ≤ rest) (hv : ∀ j, j < xs.length → shF xs j < shT xs j) : ∀ (q p : List Nat) (s : List Int × List Int), FInv xs rest p s.1 s.2 → (p ++ q).Pairwise (fun a b => lexL xs a b = true) → (p ++ q).Nodup → (∀ j ∈ p ++ q, j < xs.length) →
    FInv xs rest (p ++ q) (q.foldl (fstep xs rest) s).1 (q.foldl (fstep xs rest) s).2
  | [], p, s, I, _, _, _ => by rw [List.append_nil]; exact I
  | i :: q, p, s, I, hs, hd, hl => by
    rw [List.foldl_cons, show p ++ i :: q = (p ++ [i]) ++ q by simp]
    rw [show p ++ i :: q = (p ++ [i]) ++ q by simp] at hs hd hl
    have hs1 := (List.pairwise_append.1 hs).1
    have hd1 := (List.nodup_append.1 hd).1
    refine FInv.run h0 hv q (p ++ [i]) (fstep xs rest s i) ?_ hs hd hl
    refine I.step h0 (hl i (by simp)) ?_ (fun j hj => hl j (by simp [hj])) (fun j hj => ?_) hv
    · intro hm
      exact (List.nodup_append.1 hd1).2.2 i hm i (List.mem_singleton.2 rfl) rfl
    · have := (List.pairwise_append.1 hs1).2.2 j hj i (List.mem_singleton.2 rfl)
      rw [lexL_iff] at this
      omega
theorem fill_inv {xs : List GShift} {rest : Int} (h0 : 0 ≤ rest) (hv : ∀ j, j < xs.length → shF xs j < shT xs j) : FInv xs rest (ordL xs) (fillS xs rest (ordL xs)).1 (fillS xs rest (ordL xs)).2 := by
  have h := FInv.run h0 hv (ordL xs) [] ([], List.replicate xs.length 0) (FInv.nil xs rest) (by simpa using ordL_sorted xs) (by simpa using (ordL_perm xs).nodup_iff.2 List.nodup_range) (fun j hj => List.mem_range.1 ((ordL_perm xs).subset (by simpa using hj)))
  simpa [fillS] using h
end Go.Proofs.Ytlgmiifpdjalpaa
