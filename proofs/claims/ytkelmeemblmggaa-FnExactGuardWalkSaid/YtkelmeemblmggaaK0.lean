/- A text of lemmas for the laws of this seat; what each says stands at its theorem; no condition. -/
import Derived.WalkKit
import Derived.WalkSpells
import Derived.WalkLawsBesides
import Derived.BigQuiet
import Derived.Deep.QuietTactic
import Derived.Lib.Hide
import Derived.StillTailTactics
import Derived.Deep.RegionHeld3
import Derived.Deep.Light
namespace Go.Proofs.Ytkelmeemblmggaa
set_option linter.unusedSimpArgs false
set_option linter.unusedVariables false
open Go.RowKit

/-- min and max of Go's built-ins, closed to the walk (else it parts at each). -/
def imin (x y : Int) : Int := if y < x then y else x
def imax (x y : Int) : Int := if x < y then y else x
theorem run_imin {P : Program} (ts : Array TypeId) (t : TypeId) (k k' : IntKind) (x y : Int) (w : World) : (Builtin.min_ ts t #[.int k x, .int k' y]).run P w = .ok (.int k (imin x y)) w := by
  simp [Builtin.min_, Builtin.min2, imin]
theorem run_imax {P : Program} (ts : Array TypeId) (t : TypeId) (k k' : IntKind) (x y : Int) (w : World) : (Builtin.max_ ts t #[.int k x, .int k' y]).run P w = .ok (.int k (imax x y)) w := by
  simp [Builtin.max_, Builtin.max2, imax]
def inB (n lo hi : Int) : Bool := decide (lo ≤ n) && decide (n ≤ hi)
theorem ret_bool {a b : Bool} (h : a = b) : Ending.returned (.bool a) = .returned (.bool b) := by rw [h]
theorem ret_int {k : IntKind} {a b : Int} (h : a = b) : Ending.returned (.int k a) = .returned (.int k b) := by rw [h]

/-- All that was there is as it was; new blocks may have come. -/
def Ext (w w' : World) : Prop := Below w.heap.size w w'
theorem Ext.refl (w : World) : Ext w w := Below.refl _ _
theorem Ext.trans {a b c : World} (h : Ext a b) (k : Ext b c) : Ext a c := Below.trans h (Below.mono k h.size)
theorem Ext.alloc {a w : World} (h : Ext a w) (o : Obj) : Ext a (w.alloc o) := Below.alloc h h.size o
theorem Ext.drew {a w : World} (h : Ext a w) : Ext a w.drew := Below.drew h
theorem Ext.drewN {a w : World} (h : Ext a w) (n : Nat) : Ext a (w.drewN n) := ⟨h.os, h.tape, h.output, h.size, h.block⟩
theorem Ext.setCell {a w : World} (h : Ext a w) {p : Addr} (hp : a.heap.size ≤ p.block) (u : Value) : Ext a (w.setCell p u) := Below.setCell h hp u
theorem Ext.grown {a w w' : World} {row : Option Nat} (h : Ext a w) (hg : w.grownBy w' row) (hr : ∀ k, row = some k → a.heap.size ≤ k) : Ext a w' := Below.grown h hg h.size hr
theorem Ext.facts {W w1 : World} (hb : Ext W w1) : (∀ b o, b < W.heap.size → w1.cell? ⟨b, o, none⟩ = W.cell? ⟨b, o, none⟩) ∧ (∀ b o, b < W.heap.size → w1.frozen? ⟨b, o, none⟩ = W.frozen? ⟨b, o, none⟩) ∧ (∀ b, b < W.heap.size → b < w1.heap.size) :=
  ⟨fun b o h => Below.cell hb (p := ⟨b, o, none⟩) h, fun b o h => Below.frozen hb (p := ⟨b, o, none⟩) h, fun b h => by have := hb.size; omega⟩
theorem Ext.cellAt {W w1 : World} (hb : Ext W w1) (b : Nat) (h : b < W.heap.size) : ∀ o, w1.cell? ⟨b, o, none⟩ = W.cell? ⟨b, o, none⟩ := fun o => Below.cell hb (p := ⟨b, o, none⟩) h
theorem Ext.frozenAt {W w1 : World} (hb : Ext W w1) (b : Nat) (h : b < W.heap.size) : ∀ o, w1.frozen? ⟨b, o, none⟩ = W.frozen? ⟨b, o, none⟩ := fun o => Below.frozen hb (p := ⟨b, o, none⟩) h
theorem Ext.size {W w1 : World} (hb : Ext W w1) : W.heap.size ≤ w1.heap.size := Below.size hb
theorem Ext.look {W w1 : World} (hb : Ext W w1) : (∀ a, (W.cell? a).isSome = true → w1.cell? a = W.cell? a) ∧ (∀ a, (W.cell? a).isSome = true → w1.frozen? a = W.frozen? a) ∧ (∀ b, (w1.cell? ⟨b, 0, none⟩).isSome = true → w1.heap.size ≠ b) ∧ (∀ b, (w1.cell? ⟨b, 0, none⟩).isSome = true → b ≠ w1.heap.size) :=
  ⟨fun a h => by
    obtain ⟨u, hu⟩ := Option.isSome_iff_exists.1 h
    exact Below.cell hb (World.block_lt_of_cell? W a hu), fun a h => by
    obtain ⟨u, hu⟩ := Option.isSome_iff_exists.1 h
    exact Below.frozen hb (World.block_lt_of_cell? W a hu), fun b h => by
    obtain ⟨u, hu⟩ := Option.isSome_iff_exists.1 h
    have := World.block_lt_of_cell? w1 _ hu
    exact fun e => by subst e; exact Nat.lt_irrefl _ this, fun b h => by
    obtain ⟨u, hu⟩ := Option.isSome_iff_exists.1 h
    have := World.block_lt_of_cell? w1 _ hu
    exact fun e => by subst e; exact Nat.lt_irrefl _ this⟩
theorem Ext.below {w w' : World} (h : Ext w w') : Below w.heap.size w w' := h

theorem add_none (b off k : Nat) : (⟨b, off, none⟩ : Addr).add k = ⟨b, off + k, none⟩ := by unfold Addr.add; split <;> simp_all
/-- The slice '.slice A n _' reads as the cells xs (m cells an element). -/
def Rd (w : World) (m : Nat) (A : Option Addr) (n : Nat) (xs : List Value) : Prop :=
  xs.length = n * m ∧ n ≤ 9223372036854775807 ∧ (0 < n → ∃ b off, A = some ⟨b, off, none⟩ ∧ b < w.heap.size ∧ ∀ j u, xs[j]? = some u → w.cell? ⟨b, off + j, none⟩ = some u)
theorem Rd.keep {w w' : World} {m n : Nat} {A : Option Addr} {xs : List Value} (h : Rd w m A n xs) (e : Ext w w') : Rd w' m A n xs :=
  ⟨h.1, h.2.1, fun hn => by
    obtain ⟨b, off, rfl, hb, hc⟩ := h.2.2 hn
    exact ⟨b, off, rfl, e.facts.2.2 b hb, fun j u hu => (e.facts.1 b _ hb).trans (hc j u hu)⟩⟩
theorem Rd.alloc {w : World} {m n : Nat} {A : Option Addr} {xs : List Value} (h : Rd w m A n xs) (o : Obj) : Rd (w.alloc o) m A n xs := h.keep ((Ext.refl w).alloc o)
theorem Rd.drew {w : World} {m n : Nat} {A : Option Addr} {xs : List Value} (h : Rd w m A n xs) : Rd w.drew m A n xs := h
theorem Rd.drewN {w : World} {m n : Nat} {A : Option Addr} {xs : List Value} (h : Rd w m A n xs) (k : Nat) : Rd (w.drewN k) m A n xs := h
theorem Rd.nil (w : World) (m : Nat) : Rd w m none 0 [] := ⟨by simp, by omega, fun h => absurd h (by omega)⟩
theorem Rd.of_own {w : World} {base : Nat} {e : TypeId} {m n c : Nat} {A : Option Addr} {xs : List Value} (h : w.ownsRow base e m (.slice A n c) n xs) : Rd w m A n xs := by
  refine ⟨h.1, ?_, fun hn => ?_⟩
  · rcases h.2 with ⟨_, h0⟩ | ⟨g, cap, cur, hv, _, _, h1, h2, _⟩
    · omega
    · unfold maxLen at h2; omega
  · rcases h.2 with ⟨_, h0⟩ | ⟨g, cap, cur, hv, _, hg, _⟩
    · omega
    · injection hv with hA _ _
      subst hA
      refine ⟨g, 0, rfl, (Array.getElem?_eq_some_iff.1 hg).1, fun j u hu => ?_⟩
      have := h.cells (g := g) rfl j u hu
      rw [add_none, Nat.zero_add] at this
      rw [Nat.zero_add]
      exact this
theorem flat_at {α : Type} (enc : α → List Value) (m : Nat) (hm : ∀ x, (enc x).length = m) : ∀ (xs : List α) (k : Nat) (x : α) (j : Nat), xs[k]? = some x → j < m → (xs.flatMap enc)[k * m + j]? = (enc x)[j]?
  | [], k, x, j, h, _ => by simp at h
  | y :: ys, 0, x, j, h, hj => by
    simp at h; subst h
    rw [List.flatMap_cons, List.getElem?_append_left (by rw [hm]; omega)]; simp
  | y :: ys, k + 1, x, j, h, hj => by
    rw [List.flatMap_cons, List.getElem?_append_right (by rw [hm, Nat.add_mul]; omega), hm, show (k + 1) * m + j - m = k * m + j from by rw [Nat.add_mul]; omega]
    exact flat_at enc m hm ys k x j (by simpa using h) hj
theorem flat_len {α : Type} (enc : α → List Value) (m : Nat) (hm : ∀ x, (enc x).length = m) (xs : List α) : (xs.flatMap enc).length = xs.length * m := by
  induction xs with
  | nil => simp
  | cons x xs ih => rw [List.flatMap_cons, List.length_append, ih, hm, List.length_cons, Nat.add_mul]; omega
theorem Rd.len {α : Type} {enc : α → List Value} {m : Nat} (hm : ∀ x, (enc x).length = m) (h0 : 0 < m) {w : World} {A : Option Addr} {n : Nat} {xs : List α} (h : Rd w m A n (xs.flatMap enc)) : xs.length = n := by
  have := h.1
  rw [flat_len enc m hm] at this
  exact Nat.eq_of_mul_eq_mul_right h0 this
theorem Rd.atAny {α : Type} {enc : α → List Value} {m : Nat} (hm : ∀ x, (enc x).length = m) (h0 : 0 < m) {w : World} {A : Option Addr} {n : Nat} {xs : List α} (h : Rd w m A n (xs.flatMap enc)) {k : Nat} (hk : k < n) :
    ∃ b off x, A = some ⟨b, off, none⟩ ∧ b < w.heap.size ∧ xs[k]? = some x ∧ ∀ j u, (enc x)[j]? = some u → w.cell? ⟨b, off + k * m + j, none⟩ = some u := by
  obtain ⟨b, off, rfl, hb, hc⟩ := h.2.2 (by omega)
  have hl := h.len hm h0
  have hx : xs[k]? = some xs[k] := List.getElem?_eq_getElem (by omega)
  refine ⟨b, off, xs[k], rfl, hb, hx, fun j u hu => ?_⟩
  rw [Nat.add_assoc]
  refine hc (k * m + j) _ ?_
  have hj : j < m := by rw [← hm xs[k]]; exact (List.getElem?_eq_some_iff.1 hu).1
  rw [flat_at enc m hm xs k _ j hx hj, hu]
theorem Rd.at1 {α : Type} {enc : α → List Value} {p : α → Value} (he : ∀ x, enc x = [p x]) {w : World} {A : Option Addr} {n : Nat} {xs : List α} (h : Rd w 1 A n (xs.flatMap enc)) {k : Nat} (hk : k < n) :
    ∃ b off x, A = some ⟨b, off, none⟩ ∧ b < w.heap.size ∧ xs[k]? = some x ∧ w.cell? ⟨b, off + k, none⟩ = some (p x) := by
  obtain ⟨b, off, x, h1, h2, h3, h4⟩ := h.atAny (fun x => by rw [he]; rfl) (by omega) hk
  refine ⟨b, off, x, h1, h2, h3, ?_⟩
  have := h4 0 _ (by rw [he]; rfl)
  simpa using this
theorem Rd.at2 {α : Type} {enc : α → List Value} {p q : α → Value} (he : ∀ x, enc x = [p x, q x]) {w : World} {A : Option Addr} {n : Nat} {xs : List α} (h : Rd w 2 A n (xs.flatMap enc)) {k : Nat} (hk : k < n) :
    ∃ b off x, A = some ⟨b, off, none⟩ ∧ b < w.heap.size ∧ xs[k]? = some x ∧ w.cell? ⟨b, off + k * 2, none⟩ = some (p x) ∧ w.cell? ⟨b, off + k * 2 + 1, none⟩ = some (q x) := by
  obtain ⟨b, off, x, h1, h2, h3, h4⟩ := h.atAny (fun x => by rw [he]; rfl) (by omega) hk
  exact ⟨b, off, x, h1, h2, h3, h4 0 _ (by rw [he]; rfl), h4 1 _ (by rw [he]; rfl)⟩
theorem Rd.at3 {α : Type} {enc : α → List Value} {p q r : α → Value} (he : ∀ x, enc x = [p x, q x, r x]) {w : World} {A : Option Addr} {n : Nat} {xs : List α} (h : Rd w 3 A n (xs.flatMap enc)) {k : Nat} (hk : k < n) :
    ∃ b off x, A = some ⟨b, off, none⟩ ∧ b < w.heap.size ∧ xs[k]? = some x ∧ w.cell? ⟨b, off + k * 3, none⟩ = some (p x) ∧ w.cell? ⟨b, off + k * 3 + 1, none⟩ = some (q x) ∧ w.cell? ⟨b, off + k * 3 + 2, none⟩ = some (r x) := by
  obtain ⟨b, off, x, h1, h2, h3, h4⟩ := h.atAny (fun x => by rw [he]; rfl) (by omega) hk
  exact ⟨b, off, x, h1, h2, h3, h4 0 _ (by rw [he]; rfl), h4 1 _ (by rw [he]; rfl), h4 2 _ (by rw [he]; rfl)⟩
theorem Rd.at4 {α : Type} {enc : α → List Value} {p q r s : α → Value} (he : ∀ x, enc x = [p x, q x, r x, s x]) {w : World} {A : Option Addr} {n : Nat} {xs : List α} (h : Rd w 4 A n (xs.flatMap enc)) {k : Nat} (hk : k < n) :
    ∃ b off x, A = some ⟨b, off, none⟩ ∧ b < w.heap.size ∧ xs[k]? = some x ∧ w.cell? ⟨b, off + k * 4, none⟩ = some (p x) ∧ w.cell? ⟨b, off + k * 4 + 1, none⟩ = some (q x) ∧ w.cell? ⟨b, off + k * 4 + 2, none⟩ = some (r x) ∧ w.cell? ⟨b, off + k * 4 + 3, none⟩ = some (s x) := by
  obtain ⟨b, off, x, h1, h2, h3, h4⟩ := h.atAny (fun x => by rw [he]; rfl) (by omega) hk
  exact ⟨b, off, x, h1, h2, h3, h4 0 _ (by rw [he]; rfl), h4 1 _ (by rw [he]; rfl), h4 2 _ (by rw [he]; rfl), h4 3 _ (by rw [he]; rfl)⟩
theorem Rd.at5 {α : Type} {enc : α → List Value} {p q r s t : α → Value} (he : ∀ x, enc x = [p x, q x, r x, s x, t x]) {w : World} {A : Option Addr} {n : Nat} {xs : List α} (h : Rd w 5 A n (xs.flatMap enc)) {k : Nat} (hk : k < n) :
    ∃ b off x, A = some ⟨b, off, none⟩ ∧ b < w.heap.size ∧ xs[k]? = some x ∧ w.cell? ⟨b, off + k * 5, none⟩ = some (p x) ∧ w.cell? ⟨b, off + k * 5 + 1, none⟩ = some (q x) ∧ w.cell? ⟨b, off + k * 5 + 2, none⟩ = some (r x) ∧ w.cell? ⟨b, off + k * 5 + 3, none⟩ = some (s x) ∧ w.cell? ⟨b, off + k * 5 + 4, none⟩ = some (t x) := by
  obtain ⟨b, off, x, h1, h2, h3, h4⟩ := h.atAny (fun x => by rw [he]; rfl) (by omega) hk
  exact ⟨b, off, x, h1, h2, h3, h4 0 _ (by rw [he]; rfl), h4 1 _ (by rw [he]; rfl), h4 2 _ (by rw [he]; rfl), h4 3 _ (by rw [he]; rfl), h4 4 _ (by rw [he]; rfl)⟩
end Go.Proofs.Ytkelmeemblmggaa
