/- Appending whole rows; worlds that were written over and back; no condition but what stands at each theorem. -/
import Derived.Test.YtkelmeemblmggaaK7
import Derived.ArgAppend
import Derived.Laws.AppendOwnNone
namespace Go.Proofs.Ytkelmeemblmggaa
set_option linter.unusedSimpArgs false
set_option linter.unusedVariables false
open Go.RowKit
theorem Rd.none_len {w : World} {m n : Nat} {A : Option Addr} {xs : List Value} (h : Rd w m A n xs) (hA : A = none) : n = 0 := by
  by_cases hn : 0 < n
  · obtain ⟨b, off, hb, _⟩ := h.2.2 hn
    rw [hA] at hb; cases hb
  · omega
theorem Rd.cells {w : World} {m n : Nat} {A : Option Addr} {xs : List Value} (h : Rd w m A n xs) (ad : Addr) (hA : A = some ad) : ∀ j u, xs[j]? = some u → w.cell? (ad.add j) = some u := by
  intro j u hu
  by_cases hn : 0 < n
  · obtain ⟨b, off, hb, _, hc⟩ := h.2.2 hn
    rw [hA] at hb
    injection hb with hb
    subst hb
    rw [add_none]
    exact hc j u hu
  · have h0 : xs.length = 0 := by rw [h.1]; have : n = 0 := by omega
                                  rw [this]; simp
    rw [List.eq_nil_of_length_eq_zero h0] at hu
    simp at hu
theorem one_ienc (xs : List Int) : ∀ u ∈ xs.flatMap ienc, u.oneCell' = true := by
  intro u hu
  rw [ienc_map] at hu
  obtain ⟨x, _, rfl⟩ := List.mem_map.1 hu
  rfl
theorem own_nilcap {w : World} {base : Nat} {e : TypeId} {m n c : Nat} {A : Option Addr} {L : List Value} (h : w.ownsRow base e m (.slice A n c) n L) : A = none → c = 0 := by
  intro hA
  rcases own_block h with ⟨_, _, h⟩ | ⟨g, cur, hg, _⟩
  · exact h
  · rw [hA] at hg; cases hg
/-- append of a whole row to one of the call's own. -/
theorem appendRd {P : Program} {ops : Array Oper} {rest : List Oper} {o : Oper} {a : Act} {Q : Exit → Act → World → Prop} {t e : TypeId} {m : Nat} (hE : EI P t e m) (hgd : o.guard = none) (s x : Operand)
    (ho : o.op = .call { callee := .builtin .append, args := #[s, x], argTypes := #[t, t] }) (base : Nat) (W : World) (v : Value) (n : Nat) (xs : List Value) (hs : a.eval s = v) (hown : W.ownsRow base e m v n xs)
    (A : Option Addr) (k c : Nat) (ys : List Value) (hx : a.eval x = .slice A k c) (hr : Rd W m A k ys) (hA : A = none → c = 0) (h1 : ∀ u ∈ ys, u.oneCell' = true) (hn : n + k ≤ 1073741824) (hbase : base ≤ W.heap.size)
    (h : ∀ v' w1, w1.ownsRow base e m v' (n + k) (xs ++ ys) → (∀ b, Ext b W → b.heap.size ≤ base → Ext b w1) → wpList P ops Q rest (a.put o.dst v') w1) : wpList P ops Q (o :: rest) a W := by
  obtain ⟨i, z, hu, hi, hz, hsz, hby, hzs, h0⟩ := hE
  cases A with
  | none =>
    have hk := hr.none_len rfl
    subst hk
    have hc := hA rfl
    subst hc
    have hys : ys = [] := List.eq_nil_of_length_eq_zero (by rw [hr.1]; simp)
    subst hys
    refine wpList_append_own_none hgd s x t ho base e i m hu hi v n xs hs hown hx ?_
    refine h v W ?_ (fun b hb _ => hb)
    rw [List.append_nil]
    exact hown
  | some ad =>
    refine wpList_append_own _ hgd s x t ho base e i z m i.bytes hu hi hz hsz rfl hzs h0 v n xs hs hown ad k c ys hx hr.1 (hr.cells ad rfl) h1 (by unfold maxLen; omega) ?_ hbase ?_
    · have := Nat.mul_le_mul_left (n + k) hby
      omega
    · intro v' w1 ho' hg _
      refine h v' w1 ho' (fun b hb hbb => hb.grown hg (fun q hq => Nat.le_trans hbb (hown.lt q hq).1))
/-- append of one element to a row that came in, at its capacity: a new row is made. -/
theorem appendCap {P : Program} {ops : Array Oper} {rest : List Oper} {o : Oper} {a : Act} {Q : Exit → Act → World → Prop} {t e : TypeId} {m : Nat} (hE : EI P t e m) (hgd : o.guard = none) (s x : Operand)
    (ho : o.op = .call { callee := .builtin .append, args := #[s, x], argTypes := #[t, t] }) (W : World) (T : TypeId) (A : Option Addr) (n : Nat) (xs : List Value) (hs : a.eval s = .slice A n n) (hr : Rd W m A n xs)
    (news : List Value) (hx : a.eval x = .slice (some ⟨W.heap.size, 0, none⟩) 1 1) (hl : news.length = m) (h1 : ∀ u ∈ news, u.oneCell' = true) (hn : n ≤ 1073741824)
    (h : ∀ v' w1, w1.ownsRow W.heap.size e m v' (n + 1) (xs ++ news) → Ext W w1 → wpList P ops Q rest (a.put o.dst v') w1) : wpList P ops Q (o :: rest) a (W.alloc (.cells news.toArray T)) := by
  obtain ⟨i, z, hu, hi, hz, hsz, hby, hzs, h0⟩ := hE
  refine wpList_append_grows _ hgd s x t ho e i z m i.bytes hu hi hz hsz rfl hzs h0 A n n xs hs (fun hA => ⟨hr.none_len hA, hr.none_len hA⟩) hr.1 ?_ ⟨W.heap.size, 0, none⟩ 1 1 news hx (by omega) ?_ h1 (by omega) (by unfold maxLen; omega) ?_ ?_
  · intro b hb j u hu'
    exact (hr.alloc _).cells b hb j u hu'
  · intro j u hu'
    rw [add_none, Nat.zero_add, World.cell?_alloc_new]
    simpa using hu'
  · have := Nat.mul_le_mul_left (n + 1) hby
    omega
  · intro v' w1 ho' hg
    refine h v' w1 (own_weak ho' (by simp)) (((Ext.refl W).alloc _).grown hg (fun k hk => by cases hk))
/-- s[:n:n], n its length. -/
theorem run_cut3 {P : Program} {t e : TypeId} {m s : Nat} (hu : P.underlying t = some (.slice e)) (hs : ∀ w : World, (sizeOf e).run P w = .ok s w) {w0 : World} {A : Option Addr} {n c : Nat} {xs : List Value} (hr : Rd w0 m A n xs) (hc : n ≤ c) (w : World) :
    (Instr.slice t (.slice A n c) none (some (.int .i64 (n : Int))) (some (.int .i64 (n : Int)))).run P w = .ok (.slice A n n) w := by
  have h1 : ∀ (code : BoundsCode) (y : Nat), n ≤ y → (Instr.sliceBound (.int .i64 (n : Int)) y code).run P w = .ok n w := by
    intro code y hy
    rw [run_sliceBound _ .i64 (n : Int) y code (by omega) (by omega)]
    simp
  simp only [Instr.slice, Sem.run_bind, run_underlying hu, Result.andThen, Instr.sliceBounds, h1 _ _ hc, h1 _ _ (Nat.le_refl n), hs, Sem.run_pure]
  by_cases hn : n = 0
  · subst hn; simp
  · obtain ⟨b, off, rfl, _⟩ := hr.2.2 (by omega)
    simp [hn, add_none]
/-- Written over and back. -/
theorem ext_back {w w3 : World} {g k : Nat} {t : TypeId} {cs : Array Value} {x y : Value} (h : Blk w g t cs) (e : Ext (w.setCell ⟨g, k, none⟩ x) w3) (hy : cs[k]? = some y) : Ext w (w3.setCell ⟨g, k, none⟩ y) := by
  have hb3 : w3.heap[g]? = some (.cells (cs.setIfInBounds k x) t (0, 0)) := (h.set k x).keep e
  refine ⟨?_, ?_, ?_, ?_, ?_⟩
  · have := e.os; simpa [World.setCell] using this
  · have := e.tape; simpa [World.setCell] using this
  · have := e.output; simpa [World.setCell] using this
  · have := e.size; simpa [World.setCell] using this
  · intro b hb
    by_cases hbg : b = g
    · subst hbg
      have h1 : (w3.setCell ⟨b, k, none⟩ y).heap[b]? = some (.cells ((cs.setIfInBounds k x).setIfInBounds k y) t (0, 0)) := by
        simp [World.setCell, Array.getElem?_modify, hb3]
      rw [h1]
      have h2 : (cs.setIfInBounds k x).setIfInBounds k y = cs := by
        apply Array.ext_getElem?
        intro i
        have hk : k < cs.size := (Array.getElem?_eq_some_iff.1 hy).1
        by_cases hik : k = i
        · subst hik; simp [hk]; exact (Array.getElem?_eq_some_iff.1 hy).2.symm
        · simp [Array.getElem?_setIfInBounds, hik]
      rw [h2]
      exact h.symm
    · rw [Below.heap_setCell w3 _ y b hbg]
      have h1 := e.block b (by simpa [World.setCell] using hb)
      rw [h1]
      exact Below.heap_setCell w _ x b hbg
theorem own_far {w : World} {base g k : Nat} {e : TypeId} {m n : Nat} {v : Value} {L : List Value} (h : w.ownsRow base e m v n L) (hg : g < base) (x : Value) : (w.setCell ⟨g, k, none⟩ x).ownsRow base e m v n L := by
  refine h.kept (grown_set (grown_refl w (some g)) k x) ?_
  cases hv : v.ownBlock with
  | none => exact .inl rfl
  | some q =>
    refine .inr fun e => ?_
    have := (h.lt q hv).1
    injection e with e
    omega
/-- Block g begins with the ints u, of element type t. -/
def PBlk (w : World) (g : Nat) (t : TypeId) (u : List Int) : Prop := ∃ cur : Array Value, Blk w g t cur ∧ u.length ≤ cur.size ∧ ∀ i, i < u.length → cur[i]? = some (.int .i64 (u.getD i 0))
theorem PBlk.lt {w : World} {g : Nat} {t : TypeId} {u : List Int} (h : PBlk w g t u) : g < w.heap.size := by obtain ⟨cur, h, _⟩ := h; exact h.lt
theorem PBlk.cell {w : World} {g : Nat} {t : TypeId} {u : List Int} (h : PBlk w g t u) {i : Nat} (hi : i < u.length) : w.cell? ⟨g, i, none⟩ = some (.int .i64 (u.getD i 0)) := by
  obtain ⟨cur, h, _, h2⟩ := h
  rw [h.cell]; exact h2 i hi
theorem PBlk.free {w : World} {g : Nat} {t : TypeId} {u : List Int} (h : PBlk w g t u) (i : Nat) : w.frozen? ⟨g, i, none⟩ = false := by obtain ⟨cur, h, _⟩ := h; exact h.free i
theorem PBlk.keep {w w' : World} {g : Nat} {t : TypeId} {u : List Int} (h : PBlk w g t u) (e : Ext w w') : PBlk w' g t u := by obtain ⟨cur, h, r⟩ := h; exact ⟨cur, h.keep e, r⟩
theorem PBlk.set {w : World} {g : Nat} {t : TypeId} {u : List Int} (h : PBlk w g t u) (i : Nat) (x : Int) : PBlk (w.setCell ⟨g, i, none⟩ (.int .i64 x)) g t (u.set i x) := by
  obtain ⟨cur, h, h1, h2⟩ := h
  refine ⟨_, h.set i _, by simpa using h1, fun j hj => ?_⟩
  simp only [List.length_set] at hj
  by_cases hij : i = j
  · subst hij
    have : i < cur.size := by omega
    simp [this, hj]
  · rw [Array.getElem?_setIfInBounds, if_neg hij, h2 j hj]
    simp [hij]
theorem PBlk.back {w w3 : World} {g : Nat} {t : TypeId} {u : List Int} (h : PBlk w g t u) {k : Nat} (hk : k < u.length) {x : Value} (e : Ext (w.setCell ⟨g, k, none⟩ x) w3) : Ext w (w3.setCell ⟨g, k, none⟩ (.int .i64 (u.getD k 0))) := by
  obtain ⟨cur, h, h1, h2⟩ := h
  exact ext_back h e (h2 k hk)
theorem PBlk.rd {w : World} {g : Nat} {t : TypeId} {u : List Int} (h : PBlk w g t u) (hn : u.length ≤ 9223372036854775807) : Rd w 1 (some ⟨g, 0, none⟩) u.length (u.flatMap ienc) := by
  refine ⟨by rw [flat_len ienc 1 ienc_len], hn, fun _ => ⟨g, 0, rfl, h.lt, fun j v hv => ?_⟩⟩
  rw [ienc_map] at hv
  have hj : j < u.length := by have := (List.getElem?_eq_some_iff.1 hv).1; simpa using this
  rw [Nat.zero_add, h.cell hj, ← hv]
  simp [hj]
theorem PBlk.of_own {w : World} {base : Nat} {t : TypeId} {n c : Nat} {A : Option Addr} {u : List Int} (h : w.ownsRow base t 1 (.slice A n c) n (u.flatMap ienc)) (hn : 1 ≤ n) : ∃ g, A = some ⟨g, 0, none⟩ ∧ base ≤ g ∧ PBlk w g t u := by
  have hl : u.length = n := by have := h.1; rw [ienc_map, List.length_map] at this; omega
  rcases own_block h with ⟨_, h0, _⟩ | ⟨g, cur, hA, hbg, hb, hnc, _, hcs, ht⟩
  · omega
  · refine ⟨g, hA, hbg, cur, hb, by omega, fun i hi => ?_⟩
    have : (cur.toList.take (n * 1))[i]? = (u.flatMap ienc)[i]? := by rw [ht]
    rw [List.getElem?_take, if_pos (by omega), ienc_map] at this
    rw [← Array.getElem?_toList, this]
    simp [hi]
/-- What a row of another block holds stays behind a store. -/
theorem Rd.far {w : World} {m n : Nat} {A : Option Addr} {xs : List Value} (h : Rd w m A n xs) (p : Addr) (u : Value) (hp : 0 < n → ∀ b off, A = some ⟨b, off, none⟩ → b ≠ p.block) : Rd (w.setCell p u) m A n xs := by
  refine ⟨h.1, h.2.1, fun hn => ?_⟩
  obtain ⟨b, off, rfl, hb, hc⟩ := h.2.2 hn
  refine ⟨b, off, rfl, by simpa [World.setCell] using hb, fun j v hv => ?_⟩
  rw [World.cell?_setCell_other w p _ u (fun e => hp hn b off rfl (by rw [e]))]
  exact hc j v hv
end Go.Proofs.Ytkelmeemblmggaa
