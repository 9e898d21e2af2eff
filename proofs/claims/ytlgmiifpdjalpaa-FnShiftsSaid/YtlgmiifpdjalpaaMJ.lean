/- What the law on shifts asks of the filling, in plain Lean; no condition. -/
import Derived.Test.YtlgmiifpdjalpaaMG
import Derived.Test.YtlgmiifpdjalpaaSF6
import Derived.Test.YtlgmiifpdjalpaaS6
namespace Go.Proofs.Ytlgmiifpdjalpaa
set_option linter.unusedSimpArgs false
set_option linter.unusedVariables false
theorem fold_max {α : Type} (h : α → Int) {M : Int} : ∀ (l : List α) (z : Int), z ≤ M → (∀ a ∈ l, h a ≤ M) → (z = M ∨ ∃ a ∈ l, M ≤ h a) → l.foldl (fun z a => imax z (h a)) z = M
  | [], z, _, _, h3 => by
    rcases h3 with h3 | ⟨a, ha, _⟩
    · exact h3
    · cases ha
  | a :: l, z, h1, h2, h3 => by
    have ha := h2 a (List.mem_cons_self ..)
    rw [List.foldl_cons]
    refine fold_max h l (imax z (h a)) ?_ (fun b hb => h2 b (List.mem_cons_of_mem _ hb)) ?_
    · unfold imax; split <;> omega
    · rcases h3 with h3 | ⟨b, hb, h3⟩
      · left; unfold imax; split <;> omega
      · rcases List.mem_cons.1 hb with rfl | hb
        · left; unfold imax; split <;> omega
        · exact .inr ⟨b, hb, h3⟩
def filledL (xs : List GShift) (L : List Int) : List GShift := (List.range xs.length).map fun k => ⟨L.getD k 0, shF xs k, shT xs k⟩
def longerL (xs : List GShift) (rest : Int) : List GShift := (List.range xs.length).map fun k => ⟨0, shF xs k, shT xs k + rest⟩
def mostD (xs : List GShift) (rest : Int) : Int := (List.range xs.length).foldl (fun z k => imax z (onDuty (longerL xs rest) (shF xs k))) 0
theorem sh_at {xs : List GShift} (h : xs.all shOk = true) {k : Nat} (hk : k < xs.length) : 0 ≤ shF xs k ∧ shF xs k < shT xs k ∧ shT xs k ≤ 10000 := by
  have := List.all_eq_true.1 h xs[k] (List.getElem_mem hk)
  unfold shF shT
  rw [List.getD_eq_getElem?_getD, List.getElem?_eq_getElem hk]
  simp [shOk, inB] at this ⊢
  omega
theorem noClash_of {rest : Int} {ys : List GShift} (h : ∀ j k, j < k → k < ys.length → ∀ a b, ys[j]? = some a → ys[k]? = some b → clash rest a b = false) : noClash rest ys = true := by
  have key : ∀ k, k ≤ ys.length → noClash rest (ys.take k) = true := by
    intro k
    induction k with
    | zero => intro _; rfl
    | succ k ih =>
      intro hk
      have hx : ys[k]? = some (ys[k]'(by omega)) := List.getElem?_eq_getElem (by omega)
      rw [take_snoc hx, noClash_snoc, ih (by omega), Bool.true_and, List.all_eq_true]
      intro t ht
      obtain ⟨j, hj, e⟩ := List.mem_iff_getElem.1 ht
      rw [List.length_take] at hj
      rw [List.getElem_take] at e
      have := h j k (by omega) (by omega) t _ (by rw [← e]; exact List.getElem?_eq_getElem (by omega)) hx
      rw [this]; rfl
  have := key ys.length (Nat.le_refl _)
  rwa [List.take_length] at this
theorem duty_longer {xs : List GShift} {rest : Int} (hs : ∀ k, k < xs.length → 0 ≤ shF xs k ∧ shF xs k < shT xs k + rest ∧ shT xs k + rest ≤ 10000) (m : Int) :
    onDuty (longerL xs rest) m = (((List.range xs.length).filter fun k => decide (shF xs k ≤ m) && decide (m < shT xs k + rest)).length : Nat) := by
  rw [onDuty_count, longerL, List.countP_map, List.countP_eq_length_filter]
  congr 2
  refine List.filter_congr fun k hk => ?_
  have := hs k (List.mem_range.1 hk)
  simp only [Function.comp, dutyB, shOk, inB]
  rw [Bool.eq_iff_iff]
  simp
  omega
/-- All that the law asks of the filling. -/
theorem fill_all {xs : List GShift} {rest : Int} (hv : fillV xs rest = true) (hr : ∀ k, k < xs.length → shT xs k + rest ≤ 10000) :
    (∀ k, k < xs.length → 0 ≤ (fillL xs rest).getD k 0 ∧ (fillL xs rest).getD k 0 < cntL (fillL xs rest)) ∧ shiftsOk (filledL xs (fillL xs rest)) rest = true ∧ cntL (fillL xs rest) = mostD xs rest ∧ ((xs.length = 0) ↔ (cntL (fillL xs rest) = 0)) := by
  have hv' := hv
  unfold fillV at hv'
  simp only [Bool.and_eq_true, decide_eq_true_eq] at hv'
  obtain ⟨⟨hok, hn⟩, hrb⟩ := hv'
  have h0 : 0 ≤ rest ∧ rest ≤ 1000 := by simpa [inB] using hrb
  have hs := fun k (hk : k < xs.length) => sh_at hok hk
  have I := fill_inv (xs := xs) h0.1 (fun j hj => (hs j hj).2.1)
  have hL : fillL xs rest = (fillS xs rest (ordL xs)).2 := by rw [fillL, if_pos hv]
  rw [← hL] at I
  obtain ⟨st, hst⟩ : ∃ st, st = (fillS xs rest (ordL xs)).1 := ⟨_, rfl⟩
  rw [← hst] at I
  obtain ⟨L, hLL⟩ : ∃ L, L = fillL xs rest := ⟨_, rfl⟩
  have hbd := fillL_bd (xs := xs) (rest := rest)
  rw [← hLL] at I hbd ⊢
  have hin : ∀ k, k < xs.length → k ∈ ordL xs := fun k hk => (ordL_perm xs).symm.subset (List.mem_range.2 hk)
  have hin2 : ∀ k, k ∈ ordL xs → k < xs.length := fun k hk => List.mem_range.1 ((ordL_perm xs).subset hk)
  have hcnt : cntL L = (st.length : Int) := by
    unfold cntL
    refine fold_max (fun x => x + 1) L 0 (by omega) (fun x hx => ?_) ?_
    · obtain ⟨k, hk, e⟩ := List.mem_iff_getElem.1 hx
      have hk' : k < xs.length := by rw [← I.len]; exact hk
      obtain ⟨g, hg, hgs⟩ := I.gs k (hin k hk')
      rw [List.getD_eq_getElem?_getD, List.getElem?_eq_getElem hk] at hg
      simp at hg
      rw [← e, hg]
      omega
    · by_cases hs0 : st.length = 0
      · left; omega
      · right
        obtain ⟨i, hi, h1, _⟩ := I.last (st.length - 1) (by omega)
        have hi' : i < L.length := by rw [I.len]; exact hin2 i hi
        refine ⟨L[i], List.getElem_mem hi', ?_⟩
        rw [List.getD_eq_getElem?_getD, List.getElem?_eq_getElem hi'] at h1
        simp at h1
        rw [h1]; omega
  have hlong : ∀ k, k < xs.length → 0 ≤ shF xs k ∧ shF xs k < shT xs k + rest ∧ shT xs k + rest ≤ 10000 := fun k hk => by
    have := hs k hk
    have := hr k hk
    omega
  refine ⟨fun k hk => ?_, ?_, ?_, ?_⟩
  · obtain ⟨g, hg, hgs⟩ := I.gs k (hin k hk)
    rw [hg, hcnt]; omega
  · unfold shiftsOk allSh
    rw [hrb, Bool.and_true, Bool.and_eq_true, Bool.and_eq_true, List.all_eq_true]
    refine ⟨⟨fun s hsm => ?_, by simp [filledL]; omega⟩, noClash_of fun j k hjk hk a b ha hb => ?_⟩
    · unfold filledL at hsm
      obtain ⟨k, hk, rfl⟩ := List.mem_map.1 hsm
      have hk' := List.mem_range.1 hk
      have h1 := hs k hk'
      have h2 : 0 ≤ L.getD k 0 ∧ L.getD k 0 ≤ 19 := by
        have hkL : k < L.length := by rw [I.len]; exact hk'
        rw [List.getD_eq_getElem?_getD, List.getElem?_eq_getElem hkL]
        exact hbd _ (List.getElem_mem hkL)
      simp [shOk, inB]
      simp at h2
      omega
    · have hkn : k < xs.length := by simpa [filledL] using hk
      unfold filledL at ha hb
      rw [List.getElem?_map, List.getElem?_range (by omega)] at ha hb
      simp only [Option.map_some, Option.some.injEq] at ha hb
      subst ha hb
      unfold clash
      simp only
      by_cases he : L.getD j 0 = L.getD k 0
      · have := I.apart j (hin j (by omega)) k (hin k hkn) (by omega) he
        rw [Bool.eq_false_iff]
        intro h
        simp at h
        omega
      · rw [show (L.getD j 0 == L.getD k 0) = false from beq_false_of_ne he]; rfl
  · rw [hcnt]
    symm
    unfold mostD
    refine fold_max (fun k => onDuty (longerL xs rest) (shF xs k)) _ 0 (by omega) (fun k hk => ?_) ?_
    · rw [duty_longer hlong]
      have hle := nodup_leG st.length (((List.range xs.length).filter fun j => decide (shF xs j ≤ shF xs k) && decide (shF xs k < shT xs j + rest)).map fun j => (L.getD j 0).toNat) ?_ ?_
      · rw [List.length_map] at hle; omega
      · rw [List.nodup_iff_pairwise_ne, List.pairwise_map]
        have hnd := (List.nodup_range (n := xs.length)).filter (fun j => decide (shF xs j ≤ shF xs k) && decide (shF xs k < shT xs j + rest))
        refine List.Pairwise.imp_of_mem ?_ hnd
        intro a b ha hb hab he
        obtain ⟨ha1, ha2⟩ := List.mem_filter.1 ha
        obtain ⟨hb1, hb2⟩ := List.mem_filter.1 hb
        simp at ha2 hb2
        obtain ⟨ga, hga, _⟩ := I.gs a (hin a (List.mem_range.1 ha1))
        obtain ⟨gb, hgb, _⟩ := I.gs b (hin b (List.mem_range.1 hb1))
        have := I.apart a (hin a (List.mem_range.1 ha1)) b (hin b (List.mem_range.1 hb1)) hab (by rw [hga, hgb]; rw [hga, hgb] at he; simp at he; rw [he])
        omega
      · intro x hx
        obtain ⟨a, ha, rfl⟩ := List.mem_map.1 hx
        obtain ⟨ga, hga, hgs⟩ := I.gs a (hin a (List.mem_range.1 (List.mem_filter.1 ha).1))
        rw [hga]; simpa using hgs
    · by_cases hs0 : st.length = 0
      · left; omega
      · right
        obtain ⟨i, hi, js, h1, h2, h3⟩ := I.busy (st.length - 1) (by omega)
        refine ⟨i, List.mem_range.2 (hin2 i hi), ?_⟩
        rw [duty_longer hlong]
        have := subG js ((List.range xs.length).filter fun k => decide (shF xs k ≤ shF xs i) && decide (shF xs i < shT xs k + rest)) h1 (fun j hj => by
          obtain ⟨a, b, c⟩ := h3 j hj
          exact List.mem_filter.2 ⟨List.mem_range.2 (hin2 j a), by simp; omega⟩)
        omega
  · rw [hcnt]
    constructor
    · intro h
      by_cases hs0 : st.length = 0
      · omega
      · obtain ⟨i, hi, _⟩ := I.last (st.length - 1) (by omega)
        have := hin2 i hi
        omega
    · intro h
      by_cases h1 : xs.length = 0
      · exact h1
      · obtain ⟨g, _, hg⟩ := I.gs 0 (hin 0 (by omega))
        omega
end Go.Proofs.Ytlgmiifpdjalpaa
