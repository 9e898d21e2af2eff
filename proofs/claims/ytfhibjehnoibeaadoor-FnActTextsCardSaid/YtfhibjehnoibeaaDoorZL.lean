/- Texts of one proof, laid one behind the other (STg); no condition but what stands at each theorem. -/
import Derived.Test.YtfhibjehnoibeaaDoorZI
/- The words of a text as strings, rows of four numbers, the tail of a row; no condition but what stands at each theorem. -/
namespace Go.Proofs.YtfhibjehnoibeaaDoor
set_option linter.unusedSimpArgs false
set_option linter.unusedVariables false
open Go.RowKit Go.Sort
theorem mk_intP (n : Nat) (hn : n ≤ 1048576) (w : World) : (Instr.makeSlice 27 (.int .i64 (n : Int)) (.int .i64 (n : Int))).run Tryd.prog w = .ok (.slice (some ⟨w.heap.size, 0, none⟩) n n) (w.alloc (.cells ((List.replicate n (0 : Int)).map (Value.int .i64)).toArray 3)) := by
  have hin : (Tryd.prog.info? 3).map (fun i => (i.zero.map (·.cells.size), i.size, decide (i.bytes ≤ 4096))) = some (some 1, 1, true) := by kernel_rfl
  cases hi : Tryd.prog.info? 3 with
  | none => rw [hi] at hin; cases hin
  | some i =>
  have hz : i.zero = some (.int .i64 0) := by
    have h : (Tryd.prog.info? 3).map (fun i => i.zero) = some (some (.int .i64 0)) := by kernel_rfl
    rw [hi] at h; simpa using h
  rw [hi] at hin
  simp only [Option.map_some, Option.some.injEq, Prod.mk.injEq, decide_eq_true_eq] at hin
  obtain ⟨-, hsz, hby⟩ := hin
  have h := make_row (P := Tryd.prog) 27 3 i _ Tryd.underlying27 hi hz n (by have := Nat.mul_le_mul hby hn; omega) (by omega) w
  rw [hsz, made_ints] at h
  exact h
theorem mk4P (w : World) : (Instr.makeSlice 27 (.int .i64 4) (.int .i64 4)).run Tryd.prog w = .ok (.slice (some ⟨w.heap.size, 0, none⟩) 4 4) (w.alloc (.cells #[.int .i64 0, .int .i64 0, .int .i64 0, .int .i64 0] 3)) := mk_intP 4 (by omega) w
set_option maxRecDepth 100000 in
set_option maxHeartbeats 400000 in
theorem tail_of (g o m c' : Nat) (hc : m + 1 ≤ c') : ∃ (A28 : Option Addr) (c28 : Nat), (0 < m → A28 = some ⟨g, o + 1, none⟩) ∧ ∀ W, (Instr.slice 54 (.slice (some ⟨g, o, none⟩) (m + 1) c') (some (.int .i64 1)) none none).run Tryd.prog W = .ok (.slice A28 m c28) W := by
  have hz : ∀ W, (sizeOf (Tryd.prog.elem 54)).run Tryd.prog W = .ok 1 W := fun W => by kernel_rfl
  by_cases hc1 : c' = 1
  · subst hc1
    obtain rfl : m = 0 := by omega
    refine ⟨some ⟨g, o, none⟩, 0, fun h => absurd h (by omega), fun W => ?_⟩
    rw [run_slice_l (ht := Tryd.underlying54) (h0 := by omega) (h1 := by omega), hz]
    rfl
  · refine ⟨some ⟨g, o + 1, none⟩, c' - 1, fun _ => rfl, fun W => ?_⟩
    rw [run_slice_l (ht := Tryd.underlying54) (h0 := by omega) (h1 := by omega), hz]
    have : c' - 1 ≠ 0 := by omega
    simp [sliced, Result.andThen, Addr.add, hc1]
/-- The words as strings. -/
def bas (fs : List (List UInt8)) : List ByteArray := fs.map fun l => ⟨l.toArray⟩
theorem bas_len (fs : List (List UInt8)) : (bas fs).length = fs.length := by simp [bas]
theorem bas_data (fs : List (List UInt8)) : (bas fs).map (·.data.toList) = fs := by
  unfold bas
  rw [List.map_map]
  conv => rhs; rw [← List.map_id fs]
  exact List.map_congr_left (fun l _ => by simp)
theorem bas_at {fs : List (List UInt8)} {j : Nat} {x : ByteArray} (h : (bas fs)[j]? = some x) : (sval fs)[j]? = some (.string x) := by
  unfold bas at h
  rw [List.getElem?_map] at h
  rw [sval, List.getElem?_map]
  cases hf : fs[j]? with
  | none => rw [hf] at h; cases h
  | some l => rw [hf] at h; simp at h; subst h; rfl
theorem tail_len (n : Nat) : ∀ (fs : List (List UInt8)), (∀ l ∈ fs, l.length ≤ n) → (Lib.joinTail [32] fs).length ≤ fs.length * (n + 1)
  | [], _ => by simp [Lib.joinTail]
  | f :: r, h => by
    have h1 := tail_len n r (fun l hl => h l (List.mem_cons_of_mem _ hl))
    have h2 := h f (List.mem_cons_self ..)
    rw [show Lib.joinTail [32] (f :: r) = 32 :: (f ++ Lib.joinTail [32] r) by simp [Lib.joinTail], List.length_cons, List.length_append, List.length_cons, Nat.add_mul, Nat.one_mul]
    omega
theorem jb_len {n : Nat} (fs : List (List UInt8)) (h : ∀ l ∈ fs, l.length ≤ n) : (Lib.join fs [32]).length ≤ fs.length * (n + 1) := by
  cases fs with
  | nil => simp [Lib.join]
  | cons f r =>
    have h1 := tail_len n r (fun l hl => h l (List.mem_cons_of_mem _ hl))
    have h2 := h f (List.mem_cons_self ..)
    rw [Lib.join_cons, List.length_append, List.length_cons, Nat.add_mul]
    omega
end Go.Proofs.YtfhibjehnoibeaaDoor
