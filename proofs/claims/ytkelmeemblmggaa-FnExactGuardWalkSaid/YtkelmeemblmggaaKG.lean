/- Append of one element that tells how the world grew; what stays below a block; no condition but what stands at each theorem. -/
import Derived.Test.YtkelmeemblmggaaK9
namespace Go.Proofs.Ytkelmeemblmggaa
set_option linter.unusedSimpArgs false
set_option linter.unusedVariables false
open Go.RowKit
theorem grown_allocG {a w : World} {row : Option Nat} (h : a.grownBy w row) (o : Obj) : a.grownBy (w.alloc o) row :=
  ⟨h.os, h.tape, h.output, Nat.le_trans h.size (by simp), fun i hi hn => (heap_alloc_old w _ (Nat.lt_of_lt_of_le hi h.size)).trans (h.block i hi hn)⟩
theorem append1G {P : Program} {ops : Array Oper} {rest : List Oper} {o : Oper} {a : Act} {Q : Exit → Act → World → Prop} {t e : TypeId} {m : Nat} (hE : EI P t e m) (hgd : o.guard = none) (s x : Operand)
    (ho : o.op = .call { callee := .builtin .append, args := #[s, x], argTypes := #[t, t] }) (base : Nat) (W : World) (T : TypeId) (v : Value) (n : Nat) (xs : List Value) (hs : a.eval s = v) (hown : W.ownsRow base e m v n xs)
    (news : List Value) (hx : a.eval x = .slice (some ⟨W.heap.size, 0, none⟩) 1 1) (hl : news.length = m) (h1 : ∀ u ∈ news, u.oneCell' = true) (hn : n ≤ 1073741824) (hbase : base ≤ W.heap.size)
    (h : ∀ v' w1 row, w1.ownsRow base e m v' (n + 1) (xs ++ news) → W.grownBy w1 row → (∀ k, row = some k → base ≤ k) → wpList P ops Q rest (a.put o.dst v') w1) : wpList P ops Q (o :: rest) a (W.alloc (.cells news.toArray T)) := by
  obtain ⟨i, z, hu, hi, hz, hsz, hby, hzs, h0⟩ := hE
  refine wpList_append_own _ hgd s x t ho base e i z m i.bytes hu hi hz hsz rfl hzs h0 v n xs hs (hown.alloc _) ⟨W.heap.size, 0, none⟩ 1 1 news hx (by omega) ?_ h1 (by unfold maxLen; omega) ?_ (by simp; omega) ?_
  · intro j u hu'
    rw [add_none, Nat.zero_add, World.cell?_alloc_new]
    simpa using hu'
  · have := Nat.mul_le_mul_left (n + 1) hby
    omega
  · intro v' w1 ho' hg _
    exact h v' w1 _ ho' (grown_trans (grown_allocG (grown_refl W _) _) hg) (fun k hk => (hown.lt k hk).1)
theorem grown_blk {W w1 : World} {row : Option Nat} {base g : Nat} {t : TypeId} {cs : Array Value} (hg : W.grownBy w1 row) (hr : ∀ k, row = some k → base ≤ k) (h : Blk W g t cs) (hb : g < base) : Blk w1 g t cs := by
  unfold Blk at *
  rw [hg.block g (Array.getElem?_eq_some_iff.1 h).1 (by intro e; have := hr g e.symm; omega)]
  exact h
theorem grown_ext {a W w1 : World} {row : Option Nat} {base : Nat} (hg : W.grownBy w1 row) (hr : ∀ k, row = some k → base ≤ k) (h : Ext a W) (hb : a.heap.size ≤ base) : Ext a w1 :=
  h.grown hg fun k hk => Nat.le_trans hb (hr k hk)
end Go.Proofs.Ytkelmeemblmggaa
