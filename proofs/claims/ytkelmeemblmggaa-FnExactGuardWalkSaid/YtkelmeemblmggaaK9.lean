/- Appending whole rows, and that nil does not come of it; no condition but what stands at each theorem. -/
import Derived.Test.YtkelmeemblmggaaK8
namespace Go.Proofs.Ytkelmeemblmggaa
set_option linter.unusedSimpArgs false
set_option linter.unusedVariables false
open Go.RowKit
theorem appendRdN {P : Program} {ops : Array Oper} {rest : List Oper} {o : Oper} {a : Act} {Q : Exit → Act → World → Prop} {t e : TypeId} {m : Nat} (hE : EI P t e m) (hgd : o.guard = none) (s x : Operand)
    (ho : o.op = .call { callee := .builtin .append, args := #[s, x], argTypes := #[t, t] }) (base : Nat) (W : World) (v : Value) (n : Nat) (xs : List Value) (hs : a.eval s = v) (hown : W.ownsRow base e m v n xs)
    (A : Option Addr) (k c : Nat) (ys : List Value) (hx : a.eval x = .slice A k c) (hr : Rd W m A k ys) (hA : A = none → c = 0) (h1 : ∀ u ∈ ys, u.oneCell' = true) (hn : n + k ≤ 1073741824) (hbase : base ≤ W.heap.size) (hv : v ≠ .slice none 0 0)
    (h : ∀ (g c' : Nat) w1, w1.ownsRow base e m (.slice (some ⟨g, 0, none⟩) (n + k) c') (n + k) (xs ++ ys) → (∀ b, Ext b W → b.heap.size ≤ base → Ext b w1) → wpList P ops Q rest (a.put o.dst (.slice (some ⟨g, 0, none⟩) (n + k) c')) w1) : wpList P ops Q (o :: rest) a W := by
  have key : ∀ v' w1, w1.ownsRow base e m v' (n + k) (xs ++ ys) → (∀ b, Ext b W → b.heap.size ≤ base → Ext b w1) → v' ≠ .slice none 0 0 → wpList P ops Q rest (a.put o.dst v') w1 := by
    intro v' w1 ho' he hne
    obtain ⟨A', c', rfl, _⟩ := own_form ho'
    rcases own_block ho' with ⟨rfl, h0, rfl⟩ | ⟨g, cur, rfl, _⟩
    · rw [h0] at hne; exact absurd rfl hne
    · exact h g c' w1 ho' he
  obtain ⟨i, z, hu, hi, hz, hsz, hby, hzs, h0⟩ := hE
  cases A with
  | none =>
    have hk := hr.none_len rfl
    subst hk
    have hc := hA rfl
    subst hc
    have hys : ys = [] := List.eq_nil_of_length_eq_zero (by rw [hr.1]; simp)
    subst hys
    refine wpList_append_own_none hgd s x t ho base e i m hu hi v n xs hs hown hx ?_
    refine key v W ?_ (fun b hb _ => hb) hv
    rw [List.append_nil]
    exact hown
  | some ad =>
    refine wpList_append_own _ hgd s x t ho base e i z m i.bytes hu hi hz hsz rfl hzs h0 v n xs hs hown ad k c ys hx hr.1 (hr.cells ad rfl) h1 (by unfold maxLen; omega) ?_ hbase ?_
    · have := Nat.mul_le_mul_left (n + k) hby
      omega
    · intro v' w1 ho' hg hnil
      exact key v' w1 ho' (fun b hb hbb => hb.grown hg (fun q hq => Nat.le_trans hbb (hown.lt q hq).1)) (fun e => hv (hnil.1 e).1)
theorem boxes3 (w : World) (v1 v2 v3 : Value) (t1 t2 t3 : TypeId) (wb : World) (hwb : wb = ((w.alloc (.cells #[v1] t1)).alloc (.cells #[v2] t2)).alloc (.cells #[v3] t3)) :
    Ext w wb ∧ wb.heap.size = w.heap.size + 1 + 1 + 1 ∧ wb.cell? ⟨w.heap.size, 0, none⟩ = some v1 ∧ wb.cell? ⟨w.heap.size + 1, 0, none⟩ = some v2 ∧ wb.cell? ⟨w.heap.size + 1 + 1, 0, none⟩ = some v3 := by
  subst hwb
  refine ⟨(((Ext.refl w).alloc _).alloc _).alloc _, by simp, ?_, ?_, ?_⟩
  · rw [World.cell?_alloc_lt _ _ _ (by simp; omega), World.cell?_alloc_lt _ _ _ (by simp), World.cell?_alloc_new]; rfl
  · rw [World.cell?_alloc_lt _ _ _ (by simp)]
    have h : w.heap.size + 1 = (w.alloc (.cells #[v1] t1)).heap.size := by simp
    rw [h, World.cell?_alloc_new]; rfl
  · have h : w.heap.size + 1 + 1 = ((w.alloc (.cells #[v1] t1)).alloc (.cells #[v2] t2)).heap.size := by simp
    rw [h, World.cell?_alloc_new]; rfl
end Go.Proofs.Ytkelmeemblmggaa
