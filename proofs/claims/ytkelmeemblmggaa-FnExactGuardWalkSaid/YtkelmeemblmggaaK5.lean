/- One element appended to a row of the call's own; no condition but what stands at each theorem. -/
import Derived.Test.YtkelmeemblmggaaK4
namespace Go.Proofs.Ytkelmeemblmggaa
set_option linter.unusedSimpArgs false
set_option linter.unusedVariables false
open Go.RowKit
/-- Type st is 'slice of e', an element has m cells and at most 4096 bytes. -/
def EI (P : Program) (st e : TypeId) (m : Nat) : Prop :=
  ∃ i z, P.underlying st = some (.slice e) ∧ P.info? e = some i ∧ i.zero = some z ∧ i.size = m ∧ i.bytes ≤ 4096 ∧ z.cells.size = m ∧ 0 < m
theorem ei_of {P : Program} {st e : TypeId} {m : Nat} (hu : P.underlying st = some (.slice e)) (h0 : 0 < m)
    (h : (P.info? e).map (fun i => (i.zero.map (·.cells.size), i.size, decide (i.bytes ≤ 4096))) = some (some m, m, true)) : EI P st e m := by
  cases hi : P.info? e with
  | none => rw [hi] at h; cases h
  | some i =>
  rw [hi] at h
  simp only [Option.map_some, Option.some.injEq, Prod.mk.injEq, decide_eq_true_eq] at h
  obtain ⟨hz0, hsz, hby⟩ := h
  cases hz : i.zero with
  | none => rw [hz] at hz0; cases hz0
  | some z =>
  rw [hz] at hz0
  simp only [Option.map_some, Option.some.injEq] at hz0
  exact ⟨i, z, hu, hi, hz, hsz, hby, hz0, h0⟩
theorem ext_grown {W w1 : World} {row : Option Nat} {o : Obj} {base : Nat} (hg : (W.alloc o).grownBy w1 row) (hr : ∀ k, row = some k → base ≤ k) : ∀ a, Ext a W → a.heap.size ≤ base → Ext a w1 := by
  intro a ha hb
  exact (ha.alloc o).grown hg (fun k hk => Nat.le_trans hb (hr k hk))
theorem append1 {P : Program} {ops : Array Oper} {rest : List Oper} {o : Oper} {a : Act} {Q : Exit → Act → World → Prop} {t e : TypeId} {m : Nat} (hE : EI P t e m) (hgd : o.guard = none) (s x : Operand)
    (ho : o.op = .call { callee := .builtin .append, args := #[s, x], argTypes := #[t, t] }) (base : Nat) (W : World) (T : TypeId) (v : Value) (n : Nat) (xs : List Value) (hs : a.eval s = v) (hown : W.ownsRow base e m v n xs)
    (news : List Value) (hx : a.eval x = .slice (some ⟨W.heap.size, 0, none⟩) 1 1) (hl : news.length = m) (h1 : ∀ u ∈ news, u.oneCell' = true) (hn : n ≤ 1073741824) (hbase : base ≤ W.heap.size)
    (h : ∀ v' w1, w1.ownsRow base e m v' (n + 1) (xs ++ news) → (∀ b, Ext b W → b.heap.size ≤ base → Ext b w1) → wpList P ops Q rest (a.put o.dst v') w1) : wpList P ops Q (o :: rest) a (W.alloc (.cells news.toArray T)) := by
  obtain ⟨i, z, hu, hi, hz, hsz, hby, hzs, h0⟩ := hE
  refine wpList_append_own _ hgd s x t ho base e i z m i.bytes hu hi hz hsz rfl hzs h0 v n xs hs (hown.alloc _) ⟨W.heap.size, 0, none⟩ 1 1 news hx (by omega) ?_ h1 (by unfold maxLen; omega) ?_ (by simp; omega) ?_
  · intro j u hu'
    rw [add_none, Nat.zero_add, World.cell?_alloc_new]
    simpa using hu'
  · have := Nat.mul_le_mul_left (n + 1) hby
    omega
  · intro v' w1 ho' hg _
    exact h v' w1 ho' (ext_grown hg (fun k hk => (hown.lt k hk).1))
theorem own_form {w : World} {base : Nat} {e : TypeId} {m n : Nat} {v : Value} {L : List Value} (h : w.ownsRow base e m v n L) : ∃ A c, v = .slice A n c ∧ n ≤ c := by
  rcases h.2 with ⟨rfl, rfl⟩ | ⟨g, cap, cur, rfl, _, _, hnc, _⟩
  · exact ⟨none, 0, rfl, Nat.le_refl _⟩
  · exact ⟨_, cap, rfl, hnc⟩
theorem own_weak {w : World} {base base' : Nat} {e : TypeId} {m n : Nat} {v : Value} {L : List Value} (h : w.ownsRow base e m v n L) (hb : base' ≤ base) : w.ownsRow base' e m v n L :=
  ⟨h.1, h.2.imp id fun ⟨g, cap, cur, h1, h2, r⟩ => ⟨g, cap, cur, h1, Nat.le_trans hb h2, r⟩⟩
theorem own_empty (w : World) (base : Nat) (e : TypeId) (m : Nat) (hb : base ≤ w.heap.size) : (w.alloc (.cells #[] e)).ownsRow base e m (.slice (some ⟨w.heap.size, 0, none⟩) 0 0) 0 [] :=
  World.ownsRow_made w #[] 0 hb (by unfold maxLen; omega) (by simp)
end Go.Proofs.Ytkelmeemblmggaa
