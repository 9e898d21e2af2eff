/- Rows of the call's own: made, written element by element; no condition but what stands at each theorem. -/
import Derived.Test.YtkelmeemblmggaaK3
namespace Go.Proofs.Ytkelmeemblmggaa
set_option linter.unusedSimpArgs false
set_option linter.unusedVariables false
open Go.RowKit
theorem make_row {P : Program} (t e : TypeId) (i : TypeInfo) (z : Value) (ht : P.underlying t = some (.slice e)) (hi : P.info? e = some i) (hz : i.zero = some z) (n : Nat) (hb : i.bytes * n ≤ 281474976710656) (h63 : n ≤ 9223372036854775807) (w : World) :
    (Instr.makeSlice t (.int .i64 (n : Int)) (.int .i64 (n : Int))).run P w = .ok (.slice (some ⟨w.heap.size, 0, none⟩) n n) (w.alloc (.cells (madeCells z.cells (n * i.size)) e)) := by
  have h1 : (i.bytes : Int) * (n : Int) ≤ 281474976710656 := by
    have h : ((i.bytes * n : Nat) : Int) ≤ 281474976710656 := by omega
    rwa [Int.natCast_mul] at h
  have hr := run_make (P := P) w t e i z ht hi hz .i64 .i64 n n (by omega) (by omega) h1 (by omega)
  simp only [Int.toNat_natCast] at hr
  exact hr
/-- The cells cur with vs written from o on. -/
def setRow : Array Value → Nat → List Value → Array Value
  | cur, _, [] => cur
  | cur, o, v :: r => setRow (cur.setIfInBounds o v) (o + 1) r
theorem setRow_size : ∀ (vs : List Value) (cur : Array Value) (o : Nat), (setRow cur o vs).size = cur.size
  | [], _, _ => rfl
  | v :: r, cur, o => by rw [setRow, setRow_size r]; simp
theorem setRow_get : ∀ (vs : List Value) (cur : Array Value) (o j : Nat), o + vs.length ≤ cur.size → (setRow cur o vs)[j]? = if o ≤ j ∧ j < o + vs.length then vs[j - o]? else cur[j]?
  | [], cur, o, j, _ => by simp [setRow]; intro h1 h2; omega
  | v :: r, cur, o, j, h => by
    simp only [List.length_cons] at h
    rw [setRow, setRow_get r _ (o + 1) j (by simp; omega)]
    simp only [List.length_cons]
    by_cases h1 : o + 1 ≤ j ∧ j < o + 1 + r.length
    · rw [if_pos h1, if_pos (by omega), show j - o = (j - (o + 1)) + 1 by omega]; rfl
    · rw [if_neg h1]
      by_cases h2 : j = o
      · subst h2
        rw [if_pos (by omega), Nat.sub_self, Array.getElem?_setIfInBounds, if_pos rfl, if_pos (by omega)]; rfl
      · rw [if_neg (by omega), Array.getElem?_setIfInBounds, if_neg (by omega)]
theorem setRow_take {cur : Array Value} {k m : Nat} {vs L : List Value} (hm : vs.length = m) (hk : (k + 1) * m ≤ cur.size) (ht : cur.toList.take (k * m) = L) : (setRow cur (k * m) vs).toList.take ((k + 1) * m) = L ++ vs := by
  have hkm : (k + 1) * m = k * m + m := by rw [Nat.add_mul]; omega
  have hL : L.length = k * m := by rw [← ht, List.length_take, Array.length_toList]; omega
  have hs : (setRow cur (k * m) vs).toList.length = cur.size := by rw [Array.length_toList, setRow_size]
  apply List.ext_getElem?
  intro j
  rw [List.getElem?_take]
  by_cases hj : j < (k + 1) * m
  · rw [if_pos hj, Array.getElem?_toList, setRow_get vs cur _ j (by omega)]
    by_cases h1 : k * m ≤ j
    · rw [if_pos (by omega), List.getElem?_append_right (by omega), hL]
    · rw [if_neg (by omega), List.getElem?_append_left (by omega), ← ht, List.getElem?_take, if_pos (by omega), Array.getElem?_toList]
  · rw [if_neg hj, List.getElem?_eq_none (by rw [List.length_append]; omega)]
/-- Block g is just the cells cs of element type t, none frozen. -/
def Blk (w : World) (g : Nat) (t : TypeId) (cs : Array Value) : Prop := w.heap[g]? = some (.cells cs t (0, 0))
section
variable {w w' : World} {g : Nat} {t : TypeId} {cs : Array Value}
theorem Blk.lt (h : Blk w g t cs) : g < w.heap.size := (Array.getElem?_eq_some_iff.1 h).1
theorem Blk.cell (h : Blk w g t cs) (i : Nat) : w.cell? ⟨g, i, none⟩ = cs[i]? := by unfold Blk at h; simp [World.cell?, h]
theorem Blk.cellAt (h : Blk w g t cs) {i : Nat} (hi : i < cs.size) : w.cell? ⟨g, i, none⟩ = some (cs[i]) := by rw [h.cell, Array.getElem?_eq_getElem hi]
theorem Blk.free (h : Blk w g t cs) (i : Nat) : w.frozen? ⟨g, i, none⟩ = false := by unfold Blk at h; simp [World.frozen?, h]
theorem Blk.new (w : World) (t : TypeId) (cs : Array Value) : Blk (w.alloc (.cells cs t)) w.heap.size t cs := heap_alloc_new w _
theorem Blk.keep (h : Blk w g t cs) (e : Ext w w') : Blk w' g t cs := (Below.block e.below g h.lt).trans h
theorem Blk.drew (h : Blk w g t cs) : Blk w.drew g t cs := h
theorem Blk.set (h : Blk w g t cs) (i : Nat) (u : Value) : Blk (w.setCell ⟨g, i, none⟩ u) g t (cs.setIfInBounds i u) := by
  unfold Blk at h ⊢
  simp [World.setCell, Array.getElem?_modify, h]
theorem Blk.far (h : Blk w g t cs) {p : Addr} (hp : g ≠ p.block) (u : Value) : Blk (w.setCell p u) g t cs := (Below.heap_setCell w p u g hp).trans h
end
theorem Blk.sets : ∀ (vs : List Value) {w : World} {g : Nat} {t : TypeId} {cs : Array Value} (o : Nat), Blk w g t cs → Blk (w.setCells g o vs) g t (setRow cs o vs)
  | [], _, _, _, _, _, h => h
  | v :: r, _, _, _, _, o, h => Blk.sets r (o + 1) (h.set o v)
theorem Ext.sets : ∀ (vs : List Value) {a w : World} {g : Nat} (o : Nat), Ext a w → a.heap.size ≤ g → Ext a (w.setCells g o vs)
  | [], _, _, _, _, h, _ => h
  | v :: r, _, _, _, o, h, hg => Ext.sets r (o + 1) (h.setCell (p := ⟨_, o, none⟩) hg v) hg
theorem own_of_blk {w : World} {base g : Nat} {t : TypeId} {m n : Nat} {cur : Array Value} {L : List Value} (hb : base ≤ g) (h : Blk w g t cur) (hs : cur.size = n * m) (hn : n ≤ maxLen) (hL : cur.toList.take (n * m) = L) :
    w.ownsRow base t m (.slice (some ⟨g, 0, none⟩) n n) n L :=
  ⟨by rw [← hL, List.length_take, Array.length_toList, hs]; omega, .inr ⟨g, n, cur, rfl, hb, h, Nat.le_refl _, hn, hs, hL⟩⟩
/-- What a call made stays its own behind whatever only adds. -/
theorem own_keep {w w' : World} {base : Nat} {t : TypeId} {m n : Nat} {v : Value} {L : List Value} (h : w.ownsRow base t m v n L) (e : Ext w w') : w'.ownsRow base t m v n L := by
  refine ⟨h.1, ?_⟩
  rcases h.2 with hn | ⟨g, cap, cur, rfl, hb, hg, r⟩
  · exact .inl hn
  · exact .inr ⟨g, cap, cur, rfl, hb, (Below.block e.below g (Array.getElem?_eq_some_iff.1 hg).1).trans hg, r⟩
end Go.Proofs.Ytkelmeemblmggaa
