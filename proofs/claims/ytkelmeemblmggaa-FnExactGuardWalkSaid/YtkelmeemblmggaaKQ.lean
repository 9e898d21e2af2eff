/- A queue of ints: a row of the call's own that is appended to and cut at its head, beside another row that it must not touch; no condition but what stands at each theorem. -/
import Derived.Test.YtkelmeemblmggaaK9
namespace Go.Proofs.Ytkelmeemblmggaa
set_option linter.unusedSimpArgs false
set_option linter.unusedVariables false
open Go.RowKit
def QRow (w : World) (base : Nat) (av : List Nat) (t : TypeId) (v : Value) (L : List Int) : Prop :=
  ∃ g off cap, ∃ cur : Array Value, v = .slice (some ⟨g, off, none⟩) L.length cap ∧ base ≤ g ∧ (∀ x ∈ av, g ≠ x) ∧ Blk w g t cur ∧ off + cap ≤ cur.size ∧ L.length ≤ cap ∧ ∀ j, j < L.length → cur[off + j]? = some (.int .i64 (L.getD j 0))
section
variable {w w' : World} {base : Nat} {av : List Nat} {t : TypeId} {v : Value} {L : List Int}
theorem QRow.keep (h : QRow w base av t v L) (e : Ext w w') : QRow w' base av t v L := by
  obtain ⟨g, off, cap, cur, h1, h2, h3, h4, h5⟩ := h
  exact ⟨g, off, cap, cur, h1, h2, h3, h4.keep e, h5⟩
theorem QRow.far (h : QRow w base av t v L) {gF : Nat} (hF : gF ∈ av) (k : Nat) (x : Value) : QRow (w.setCell ⟨gF, k, none⟩ x) base av t v L := by
  obtain ⟨g, off, cap, cur, h1, h2, h3, h4, h5⟩ := h
  exact ⟨g, off, cap, cur, h1, h2, h3, h4.far (h3 gF hF) x, h5⟩
/-- Its form, and its cells. -/
theorem QRow.form (h : QRow w base av t v L) : ∃ g off cap, v = .slice (some ⟨g, off, none⟩) L.length cap ∧ base ≤ g ∧ (∀ x ∈ av, g ≠ x) ∧ g < w.heap.size ∧ ∀ j, j < L.length → w.cell? ⟨g, off + j, none⟩ = some (.int .i64 (L.getD j 0)) := by
  obtain ⟨g, off, cap, cur, h1, h2, h3, h4, h5, h6, h7⟩ := h
  exact ⟨g, off, cap, h1, h2, h3, h4.lt, fun j hj => by rw [h4.cell]; exact h7 j hj⟩
theorem QRow.other (h : QRow w base av t v L) {av' : List Nat} (ha : ∀ x ∈ av', x ∈ av ∨ w.heap.size ≤ x) : QRow w base av' t v L := by
  obtain ⟨g, off, cap, cur, h1, h2, h3, h4, h5⟩ := h
  refine ⟨g, off, cap, cur, h1, h2, fun x hx => ?_, h4, h5⟩
  rcases ha x hx with h | h
  · exact h3 x h
  · have := h4.lt; omega
theorem QRow.tail {P : Program} {t' : TypeId} {x : Int} (hu : P.underlying t' = some (.slice t)) (hs : ∀ w : World, (sizeOf t).run P w = .ok 1 w) (h : QRow w base av t v (x :: L)) :
    ∃ v', (∀ w1 : World, (Instr.slice t' v (some (.int .i64 1)) none none).run P w1 = .ok v' w1) ∧ QRow w base av t v' L := by
  obtain ⟨g, off, cap, cur, rfl, h2, h3, h4, h5, h6, h7⟩ := h
  have h6' : L.length + 1 ≤ cap := by simpa using h6
  have hb : ∀ (w1 : World) (code : BoundsCode), (Instr.sliceBound (.int .i64 1) (L.length + 1) code).run P w1 = .ok 1 w1 := by
    intro w1 code
    rw [run_sliceBound w1 .i64 1 (L.length + 1) code (by omega) (by omega)]
    rfl
  refine ⟨.slice (if cap = 1 then some ⟨g, off, none⟩ else some ⟨g, off + 1, none⟩) L.length (cap - 1), fun w1 => ?_, ?_⟩
  · simp only [Instr.slice, Sem.run_bind, run_underlying hu, Result.andThen, Instr.sliceBounds, List.length_cons, hb, hs, Sem.run_pure]
    by_cases hc : cap = 1
    · simp [hc]
    · simp [hc, add_none]
  · by_cases hc : cap = 1
    · rw [if_pos hc]
      refine ⟨g, off, cap - 1, cur, rfl, h2, h3, h4, by omega, by omega, fun j hj => ?_⟩
      omega
    · rw [if_neg hc]
      refine ⟨g, off + 1, cap - 1, cur, rfl, h2, h3, h4, by omega, by omega, fun j hj => ?_⟩
      have := h7 (j + 1) (by simp; omega)
      rw [show off + 1 + j = off + (j + 1) by omega, this]
      simp
end
theorem QRow.append {P : Program} {ops : Array Oper} {rest : List Oper} {o : Oper} {a : Act} {Q : Exit → Act → World → Prop} {st t : TypeId} (hE : EI P st t 1) (hgd : o.guard = none) (s x : Operand)
    (ho : o.op = .call { callee := .builtin .append, args := #[s, x], argTypes := #[st, st] }) (base : Nat) (av : List Nat) (W : World) (T : TypeId) (v : Value) (L : List Int) (hs : a.eval s = v) (hq : QRow W base av t v L) (z : Int)
    (hx : a.eval x = .slice (some ⟨W.heap.size, 0, none⟩) 1 1) (hn : L.length ≤ 1073741824) (hbase : base ≤ W.heap.size) (hgF : ∀ x ∈ av, x < W.heap.size)
    (h : ∀ v' w1, QRow w1 base av t v' (L ++ [z]) → (∀ b, Ext b W → b.heap.size ≤ base → Ext b w1) → (∀ x ∈ av, ∀ tt cs, Blk W x tt cs → Blk w1 x tt cs) → wpList P ops Q rest (a.put o.dst v') w1) : wpList P ops Q (o :: rest) a (W.alloc (.cells #[.int .i64 z] T)) := by
  obtain ⟨i, zz, hu, hi, hz, hsz, hby, hzs, h0⟩ := hE
  obtain ⟨g, off, cap, cur, rfl, h2, h3, h4, h5, h6, h7⟩ := hq
  have hgW := h4.lt
  have h4a := h4.keep ((Ext.refl W).alloc (.cells #[.int .i64 z] T))
  refine wpList_append_arg _ hgd s x st ho t i zz 1 i.bytes hu hi hz hsz rfl hzs h0 g off L.length cap (L.map (Value.int .i64)) hs (by simp) ?_ ⟨W.heap.size, 0, none⟩ 1 1 [.int .i64 z] hx (by simp) ?_ ?_ ?_ (by unfold maxLen; omega) ?_ ?_ ?_
  · intro j u hu'
    have hj : j < L.length := by have := (List.getElem?_eq_some_iff.1 hu').1; simpa using this
    rw [h4a.cell, h7 j hj, ← hu']
    simp [hj]
  · intro j u hu'
    rw [add_none, Nat.zero_add, World.cell?_alloc_new]
    simpa using hu'
  · intro u hu'; simp at hu'; subst hu'; rfl
  · intro hr j hj
    simp at hj
    subst hj
    rw [h4a.cell]
    refine ⟨?_, h4a.free _⟩
    have : off + L.length * 1 + 0 < cur.size := by omega
    rw [Array.getElem?_eq_getElem this]; rfl
  · have := Nat.mul_le_mul_left (L.length + 1) hby
    omega
  · intro hr
    refine h _ _ ?_ ?_ ?_
    · refine ⟨g, off, cap, cur.setIfInBounds (off + L.length * 1) (.int .i64 z), by simp, h2, h3, h4a.set _ _, by simpa using h5, by simpa using hr, fun j hj => ?_⟩
      simp only [List.length_append, List.length_cons, List.length_nil] at hj
      by_cases hjl : j = L.length
      · subst hjl
        have : off + L.length < cur.size := by omega
        simp [this]
      · rw [Array.getElem?_setIfInBounds, if_neg (by omega), h7 j (by omega)]
        simp [List.getElem?_append_left (show j < L.length by omega)]
    · intro b hb hbb
      exact (hb.alloc _).setCell (p := ⟨g, _, none⟩) (by simp only; omega) _
    · intro gF hgFm tt cs hc
      exact (hc.keep ((Ext.refl W).alloc _)).far (p := ⟨g, _, none⟩) (Ne.symm (h3 gF hgFm)) _
  · intro _ v' w' ho' hg
    obtain ⟨A', c', rfl, hnc⟩ := own_form ho'
    rcases own_block ho' with ⟨_, hl0, _⟩ | ⟨g', cur', rfl, hb', hB', hnc', _, hcs', ht'⟩
    · omega
    · have hs' : W.heap.size + 1 ≤ g' := by simpa using hb'
      refine h _ _ ?_ ?_ ?_
      · refine ⟨g', 0, c', cur', by simp, by omega, fun x hx => (by have := hgF x hx; omega), hB', by omega, by simpa using hnc', fun j hj => ?_⟩
        have h8 : (cur'.toList.take ((L.length + 1) * 1))[j]? = (L.map (Value.int .i64) ++ [.int .i64 z])[j]? := by rw [ht']
        simp only [List.length_append, List.length_cons, List.length_nil] at hj
        rw [List.getElem?_take, if_pos (by omega)] at h8
        rw [Nat.zero_add, ← Array.getElem?_toList, h8]
        have e : L.map (Value.int .i64) ++ [.int .i64 z] = (L ++ [z]).map (Value.int .i64) := by simp
        have hj2 : j < (L ++ [z]).length := by simp; omega
        rw [e, List.getElem?_map, List.getElem?_eq_getElem hj2, List.getD_eq_getElem?_getD, List.getElem?_eq_getElem hj2]
        rfl
      · intro b hb hbb
        exact (hb.alloc _).grown hg (fun k hk => by cases hk)
      · intro gF hgFm tt cs hc
        have hgF' := hgF gF hgFm
        have := hc.keep ((Ext.refl W).alloc (.cells #[.int .i64 z] T))
        unfold Blk at this ⊢
        rw [hg.block gF (by simp; omega) (by simp)]
        exact this
/-- A literal of one element. -/
theorem QRow.one (W : World) (base : Nat) (av : List Nat) (t : TypeId) (z : Int) (hb : base ≤ W.heap.size) (hg : ∀ x ∈ av, x < W.heap.size) : QRow (W.alloc (.cells #[.int .i64 z] t)) base av t (.slice (some ⟨W.heap.size, 0, none⟩) 1 1) [z] :=
  ⟨W.heap.size, 0, 1, #[.int .i64 z], rfl, hb, fun x hx => (by have := hg x hx; omega), Blk.new _ _ _, by simp, by simp, fun j hj => by simp at hj; subst hj; rfl⟩
theorem hsz_alloc (w : World) (o : Obj) : (w.alloc o).heap.size = w.heap.size + 1 := by simp
/-- A struct of two cells in a box. -/
theorem box2 (w : World) (v1 v2 : Value) (t : TypeId) (wb : World) (hwb : wb = w.alloc (.cells #[v1, v2] t)) :
    Ext w wb ∧ wb.heap.size = w.heap.size + 1 ∧ wb.cell? ⟨w.heap.size, 0, none⟩ = some v1 ∧ wb.cell? ⟨w.heap.size, 1, none⟩ = some v2 := by
  subst hwb
  exact ⟨(Ext.refl w).alloc _, by simp, by rw [World.cell?_alloc_new]; rfl, by rw [World.cell?_alloc_new]; rfl⟩
end Go.Proofs.Ytkelmeemblmggaa
