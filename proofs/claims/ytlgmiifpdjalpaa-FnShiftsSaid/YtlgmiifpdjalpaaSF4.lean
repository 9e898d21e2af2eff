/- Contract of FillShifts of the reference; no condition but what stands at each theorem. -/
import Derived.Test.YtlgmiifpdjalpaaSF3
namespace Go.Proofs.Ytlgmiifpdjalpaa
set_option linter.unusedSimpArgs false
set_option linter.unusedVariables false
open Go.RowKit Go.Sort
theorem nodup_le : ∀ (n : Nat) (p : List Nat), p.Nodup → (∀ a ∈ p, a < n) → p.length ≤ n
  | 0, p, _, h => by
    cases p with
    | nil => simp
    | cons a r => have := h a (List.mem_cons_self ..); omega
  | n + 1, p, hd, h => by
    by_cases hn : n ∈ p
    · have h1 := nodup_le n (p.erase n) (hd.erase n) (fun a ha => by
        have h2 := (hd.mem_erase_iff).1 ha
        have := h a h2.2
        have := h2.1
        omega)
      rw [List.length_erase_of_mem hn] at h1
      omega
    · have h1 := nodup_le n p hd (fun a ha => by
        have h2 := h a ha
        have h3 : a ≠ n := fun e => hn (e ▸ ha)
        omega)
      omega
theorem nodup_perm : ∀ (n : Nat) (p : List Nat), p.Nodup → (∀ a ∈ p, a < n) → p.length = n → p.Perm (List.range n)
  | 0, p, _, _, hl => by rw [List.length_eq_zero_iff.1 hl]; exact List.Perm.refl _
  | n + 1, p, hd, h, hl => by
    by_cases hn : n ∈ p
    · have h1 := nodup_perm n (p.erase n) (hd.erase n) (fun a ha => by
        have h2 := (hd.mem_erase_iff).1 ha
        have := h a h2.2
        have := h2.1
        omega) (by rw [List.length_erase_of_mem hn]; omega)
      rw [List.range_succ]
      exact (List.perm_cons_erase hn).trans ((h1.cons n).trans (List.perm_append_singleton n _).symm)
    · have h1 := nodup_le n p hd (fun a ha => by
        have h2 := h a ha
        have h3 : a ≠ n := fun e => hn (e ▸ ha)
        omega)
      omega
theorem exists_out : ∀ (n : Nat) (p : List Nat), p.length < n → ∃ b, b < n ∧ b ∉ p
  | 0, p, h => by omega
  | n + 1, p, h => by
    by_cases hn : n ∈ p
    · obtain ⟨b, hb, hbp⟩ := exists_out n (p.erase n) (by have := List.length_pos_of_mem hn; rw [List.length_erase_of_mem hn]; omega)
      exact ⟨b, by omega, fun e => hbp ((List.mem_erase_of_ne (by omega)).2 e)⟩
    · exact ⟨n, by omega, hn⟩
/-- The shifts that are served already: in order, before all others. -/
structure Srv (xs : List GShift) (n : Nat) (p : List Nat) : Prop where
  nd : p.Nodup
  lt : ∀ a ∈ p, a < n
  srt : p.Pairwise (fun a b => lexL xs a b = true)
  low : ∀ a ∈ p, ∀ b, b < n → b ∉ p → lexL xs a b = true
theorem Srv.nil (xs : List GShift) (n : Nat) : Srv xs n [] := ⟨by simp, by simp, by simp, by simp⟩
theorem Srv.snoc {xs : List GShift} {n : Nat} {p : List Nat} (h : Srv xs n p) {i : Nat} (hi : i < n) (hp : i ∉ p) (hm : ∀ b, b < n → b ∉ p → lexL xs i b = true) : Srv xs n (p ++ [i]) := by
  refine ⟨?_, fun a ha => ?_, ?_, fun a ha b hb hbn => ?_⟩
  · rw [List.nodup_append]
    refine ⟨h.nd, by simp, fun a ha b hb e => ?_⟩
    rw [List.mem_singleton] at hb
    subst hb e
    exact hp ha
  · rcases List.mem_append.1 ha with ha | ha
    · exact h.lt a ha
    · rw [List.mem_singleton] at ha; omega
  · rw [List.pairwise_append]
    refine ⟨h.srt, by simp, fun a ha b hb => ?_⟩
    rw [List.mem_singleton] at hb
    subst hb
    exact h.low a ha b hi hp
  · have hb2 : b ∉ p := fun e => hbn (List.mem_append_left _ e)
    rcases List.mem_append.1 ha with ha | ha
    · exact h.low a ha b hb hb2
    · rw [List.mem_singleton] at ha
      subst ha
      exact hm b hb hb2
theorem Srv.all {xs : List GShift} {p : List Nat} (h : Srv xs xs.length p) (hl : p.length = xs.length) : p = ordL xs := ordL_eq (nodup_perm _ _ h.nd h.lt hl) h.srt
/-- The least of the first k shifts that are not served, or -1. -/
def AtP (xs : List GShift) (p : List Nat) (k : Nat) (a : Int) : Prop :=
  (a = -1 ∧ ∀ b, b < k → b ∈ p) ∨ ∃ i : Nat, a = i ∧ i < k ∧ i ∉ p ∧ ∀ b, b < k → b ∉ p → lexL xs i b = true
theorem AtP.zero (xs : List GShift) (p : List Nat) : AtP xs p 0 (-1) := .inl ⟨rfl, fun b h => by omega⟩
theorem AtP.skip {xs : List GShift} {p : List Nat} {k : Nat} {a : Int} (h : AtP xs p k a) (hk : k ∈ p) : AtP xs p (k + 1) a := by
  rcases h with ⟨h, hb⟩ | ⟨i, h, hi, hp, hb⟩
  · refine .inl ⟨h, fun b hbk => ?_⟩
    by_cases e : b = k
    · subst e; exact hk
    · exact hb b (by omega)
  · refine .inr ⟨i, h, by omega, hp, fun b hbk hbp => ?_⟩
    by_cases e : b = k
    · subst e; exact absurd hk hbp
    · exact hb b (by omega) hbp
theorem AtP.first {xs : List GShift} {p : List Nat} {k : Nat} (h : AtP xs p k (-1)) (hk : k ∉ p) : AtP xs p (k + 1) (k : Int) := by
  rcases h with ⟨-, hb⟩ | ⟨i, h, _⟩
  · refine .inr ⟨k, rfl, by omega, hk, fun b hbk hbp => ?_⟩
    by_cases e : b = k
    · subst e; rw [lexL_iff]; omega
    · exact absurd (hb b (by omega)) hbp
  · omega
theorem AtP.keep {xs : List GShift} {p : List Nat} {k i : Nat} (h : AtP xs p k (i : Int)) (hk : ¬ shF xs k < shF xs i) : AtP xs p (k + 1) (i : Int) := by
  rcases h with ⟨h, _⟩ | ⟨j, h, hi, hp, hb⟩
  · omega
  · obtain rfl : i = j := by omega
    refine .inr ⟨i, rfl, by omega, hp, fun b hbk hbp => ?_⟩
    by_cases e : b = k
    · subst e; rw [lexL_iff]; omega
    · exact hb b (by omega) hbp
theorem AtP.less {xs : List GShift} {p : List Nat} {k i : Nat} (h : AtP xs p k (i : Int)) (hp : k ∉ p) (hk : shF xs k < shF xs i) : AtP xs p (k + 1) (k : Int) := by
  rcases h with ⟨h, _⟩ | ⟨j, h, hi, _, hb⟩
  · omega
  · obtain rfl : i = j := by omega
    refine .inr ⟨k, rfl, by omega, hp, fun b hbk hbp => ?_⟩
    by_cases e : b = k
    · subst e; rw [lexL_iff]; omega
    · have := hb b (by omega) hbp
      rw [lexL_iff] at this ⊢
      omega
def doneL (n : Nat) (p : List Nat) : List Bool := (List.range n).map fun k => decide (k ∈ p)
theorem doneL_len (n : Nat) (p : List Nat) : (doneL n p).length = n := by simp [doneL]
theorem doneL_at {n : Nat} (p : List Nat) {k : Nat} (h : k < n) : (doneL n p)[k]? = some (decide (k ∈ p)) := by simp [doneL, h]
theorem doneL_nil (n : Nat) : doneL n [] = List.replicate n false := by
  apply List.ext_getElem?
  intro k
  by_cases h : k < n
  · rw [doneL_at _ h]; simp [h]
  · rw [List.getElem?_eq_none (by rw [doneL_len]; omega), List.getElem?_eq_none (by simp; omega)]
theorem doneL_set {n : Nat} (p : List Nat) (i : Nat) : (doneL n p).set i true = doneL n (p ++ [i]) := by
  apply List.ext_getElem?
  intro k
  by_cases h : k < n
  · rw [doneL_at _ h, List.getElem?_set]
    by_cases e : i = k
    · subst e; rw [if_pos rfl, if_pos (by rw [doneL_len]; exact h)]; simp
    · rw [if_neg e, doneL_at _ h]; simp [Ne.symm e]
  · rw [List.getElem?_eq_none (by rw [List.length_set, doneL_len]; omega), List.getElem?_eq_none (by rw [doneL_len]; omega)]
/-- The reference's row of moments from which each guard is free. -/
def freeL (n : Nat) (rest : Int) (st : List Int) : List Int := st.map (· + rest) ++ List.replicate (n + 1 - st.length) 0
theorem freeL_len {n : Nat} {rest : Int} {st : List Int} (h : st.length ≤ n + 1) : (freeL n rest st).length = n + 1 := by simp [freeL]; omega
theorem freeL_used {n : Nat} {rest : Int} {st : List Int} {j : Nat} (h : j < st.length) : (freeL n rest st).getD j 0 = st.getD j 0 + rest := by
  rw [freeL, List.getD_eq_getElem?_getD, List.getElem?_append_left (by simpa using h), List.getElem?_map, List.getD_eq_getElem?_getD, List.getElem?_eq_getElem h]; rfl
theorem freeL_new {n : Nat} {rest : Int} {st : List Int} : (freeL n rest st).getD st.length 0 = 0 := by
  rw [freeL, List.getD_eq_getElem?_getD, List.getElem?_append_right (by simp), List.getElem?_replicate]
  split <;> rfl
theorem freeL_put {n : Nat} {rest : Int} {st : List Int} (h : st.length ≤ n) {g : Nat} (hg : g ≤ st.length) (e : Int) : (freeL n rest st).set g (e + rest) = freeL n rest (putG st g e) := by
  unfold freeL putG
  by_cases hlt : g < st.length
  · rw [if_pos hlt, List.set_append, if_pos (by simpa using hlt), List.map_set, List.length_set]
  · obtain rfl : g = st.length := by omega
    rw [if_neg hlt, List.set_append, if_neg (by simp), List.length_map, Nat.sub_self, List.map_append, List.length_append, List.append_assoc]
    obtain ⟨m, hm⟩ : ∃ m, n + 1 - st.length = m + 1 := ⟨n - st.length, by omega⟩
    rw [hm, List.replicate_succ, List.set_cons_zero, show n + 1 - (st.length + [e].length) = m by simp; omega]
    rfl
theorem made_bools (n : Nat) : madeCells (Value.bool false).cells (n * 1) = ((List.replicate n false).map Value.bool).toArray := by
  apply Array.ext
  · simp [size_madeCells, Value.cells]
  · intro i h1 h2
    simp [madeCells, Value.cells, Nat.mod_one]
theorem mk_boolF (n : Nat) (hn : n ≤ 1048576) (w : World) : (Instr.makeSlice 135 (.int .i64 (n : Int)) (.int .i64 (n : Int))).run Try.prog w = .ok (.slice (some ⟨w.heap.size, 0, none⟩) n n) (w.alloc (.cells ((List.replicate n false).map (Value.bool)).toArray 4)) := by
  have hin : (Try.prog.info? 4).map (fun i => (i.zero.map (·.cells.size), i.size, decide (i.bytes ≤ 4096))) = some (some 1, 1, true) := by kernel_rfl
  cases hi : Try.prog.info? 4 with
  | none => rw [hi] at hin; cases hin
  | some i =>
  have hz : i.zero = some (.bool false) := by
    have h : (Try.prog.info? 4).map (fun i => i.zero) = some (some (.bool false)) := by kernel_rfl
    rw [hi] at h; simpa using h
  rw [hi] at hin
  simp only [Option.map_some, Option.some.injEq, Prod.mk.injEq, decide_eq_true_eq] at hin
  obtain ⟨-, hsz, hby⟩ := hin
  have h := make_row (P := Try.prog) 135 4 i _ Try.underlying135 hi hz n (by have := Nat.mul_le_mul hby hn; omega) (by omega) w
  rw [hsz, made_bools] at h
  exact h

end Go.Proofs.Ytlgmiifpdjalpaa
