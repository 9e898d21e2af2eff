/- Texts of one proof, laid one behind the other (K0, K1, T1, K2, K3, K4, H1, K5, K6, H2, S7, K7, K8, K9, KG, KQ, H3); no condition but what stands at each theorem. -/
import Derived.WalkKit
import Derived.WalkSpells
import Derived.WalkLawsBesides
import Derived.BigQuiet
import Derived.Deep.QuietTactic
import Derived.Lib.Hide
import Derived.StillTailTactics
import Derived.Deep.RegionHeld3
import Derived.Deep.Light
import Derived.ProofKit
import Derived.OpenShut
import Derived.JoinedCond
import Derived.Deep.Slices
import Derived.Deep.Fields
import Derived.Test.YtfhibjehnoibeaaDoorProg
import Derived.KernelRfl
import Derived.Lib.QuietBelow
import Derived.ArgAppend
import Derived.Laws.AppendOwnNone
/- A text of lemmas for the laws of this seat; what each says stands at its theorem; no condition. -/
namespace Go.Proofs.YtfhibjehnoibeaaDoor
set_option linter.unusedSimpArgs false
set_option linter.unusedVariables false
open Go.RowKit

/-- min and max of Go's built-ins, closed to the walk (else it parts at each). -/
def imin (x y : Int) : Int := if y < x then y else x
def imax (x y : Int) : Int := if x < y then y else x
theorem run_imin {P : Program} (ts : Array TypeId) (t : TypeId) (k k' : IntKind) (x y : Int) (w : World) : (Builtin.min_ ts t #[.int k x, .int k' y]).run P w = .ok (.int k (imin x y)) w := by
  simp [Builtin.min_, Builtin.min2, imin]
theorem run_imax {P : Program} (ts : Array TypeId) (t : TypeId) (k k' : IntKind) (x y : Int) (w : World) : (Builtin.max_ ts t #[.int k x, .int k' y]).run P w = .ok (.int k (imax x y)) w := by
  simp [Builtin.max_, Builtin.max2, imax]
def inB (n lo hi : Int) : Bool := decide (lo ≤ n) && decide (n ≤ hi)
theorem ret_bool {a b : Bool} (h : a = b) : Ending.returned (.bool a) = .returned (.bool b) := by rw [h]
theorem ret_int {k : IntKind} {a b : Int} (h : a = b) : Ending.returned (.int k a) = .returned (.int k b) := by rw [h]

/-- All that was there is as it was; new blocks may have come. -/
def Ext (w w' : World) : Prop := Below w.heap.size w w'
theorem Ext.refl (w : World) : Ext w w := Below.refl _ _
theorem Ext.trans {a b c : World} (h : Ext a b) (k : Ext b c) : Ext a c := Below.trans h (Below.mono k h.size)
theorem Ext.alloc {a w : World} (h : Ext a w) (o : Obj) : Ext a (w.alloc o) := Below.alloc h h.size o
theorem Ext.drew {a w : World} (h : Ext a w) : Ext a w.drew := Below.drew h
theorem Ext.drewN {a w : World} (h : Ext a w) (n : Nat) : Ext a (w.drewN n) := ⟨h.os, h.tape, h.output, h.size, h.block⟩
theorem Ext.setCell {a w : World} (h : Ext a w) {p : Addr} (hp : a.heap.size ≤ p.block) (u : Value) : Ext a (w.setCell p u) := Below.setCell h hp u
theorem Ext.grown {a w w' : World} {row : Option Nat} (h : Ext a w) (hg : w.grownBy w' row) (hr : ∀ k, row = some k → a.heap.size ≤ k) : Ext a w' := Below.grown h hg h.size hr
theorem Ext.facts {W w1 : World} (hb : Ext W w1) : (∀ b o, b < W.heap.size → w1.cell? ⟨b, o, none⟩ = W.cell? ⟨b, o, none⟩) ∧ (∀ b o, b < W.heap.size → w1.frozen? ⟨b, o, none⟩ = W.frozen? ⟨b, o, none⟩) ∧ (∀ b, b < W.heap.size → b < w1.heap.size) :=
  ⟨fun b o h => Below.cell hb (p := ⟨b, o, none⟩) h, fun b o h => Below.frozen hb (p := ⟨b, o, none⟩) h, fun b h => by have := hb.size; omega⟩
theorem Ext.cellAt {W w1 : World} (hb : Ext W w1) (b : Nat) (h : b < W.heap.size) : ∀ o, w1.cell? ⟨b, o, none⟩ = W.cell? ⟨b, o, none⟩ := fun o => Below.cell hb (p := ⟨b, o, none⟩) h
theorem Ext.frozenAt {W w1 : World} (hb : Ext W w1) (b : Nat) (h : b < W.heap.size) : ∀ o, w1.frozen? ⟨b, o, none⟩ = W.frozen? ⟨b, o, none⟩ := fun o => Below.frozen hb (p := ⟨b, o, none⟩) h
theorem Ext.size {W w1 : World} (hb : Ext W w1) : W.heap.size ≤ w1.heap.size := Below.size hb
theorem Ext.look {W w1 : World} (hb : Ext W w1) : (∀ a, (W.cell? a).isSome = true → w1.cell? a = W.cell? a) ∧ (∀ a, (W.cell? a).isSome = true → w1.frozen? a = W.frozen? a) ∧ (∀ b, (w1.cell? ⟨b, 0, none⟩).isSome = true → w1.heap.size ≠ b) ∧ (∀ b, (w1.cell? ⟨b, 0, none⟩).isSome = true → b ≠ w1.heap.size) :=
  ⟨fun a h => by
    obtain ⟨u, hu⟩ := Option.isSome_iff_exists.1 h
    exact Below.cell hb (World.block_lt_of_cell? W a hu), fun a h => by
    obtain ⟨u, hu⟩ := Option.isSome_iff_exists.1 h
    exact Below.frozen hb (World.block_lt_of_cell? W a hu), fun b h => by
    obtain ⟨u, hu⟩ := Option.isSome_iff_exists.1 h
    have := World.block_lt_of_cell? w1 _ hu
    exact fun e => by subst e; exact Nat.lt_irrefl _ this, fun b h => by
    obtain ⟨u, hu⟩ := Option.isSome_iff_exists.1 h
    have := World.block_lt_of_cell? w1 _ hu
    exact fun e => by subst e; exact Nat.lt_irrefl _ this⟩
theorem Ext.below {w w' : World} (h : Ext w w') : Below w.heap.size w w' := h

theorem add_none (b off k : Nat) : (⟨b, off, none⟩ : Addr).add k = ⟨b, off + k, none⟩ := by unfold Addr.add; split <;> simp_all
/-- The slice '.slice A n _' reads as the cells xs (m cells an element). -/
def Rd (w : World) (m : Nat) (A : Option Addr) (n : Nat) (xs : List Value) : Prop :=
  xs.length = n * m ∧ n ≤ 9223372036854775807 ∧ (0 < n → ∃ b off, A = some ⟨b, off, none⟩ ∧ b < w.heap.size ∧ ∀ j u, xs[j]? = some u → w.cell? ⟨b, off + j, none⟩ = some u)
theorem Rd.keep {w w' : World} {m n : Nat} {A : Option Addr} {xs : List Value} (h : Rd w m A n xs) (e : Ext w w') : Rd w' m A n xs :=
  ⟨h.1, h.2.1, fun hn => by
    obtain ⟨b, off, rfl, hb, hc⟩ := h.2.2 hn
    exact ⟨b, off, rfl, e.facts.2.2 b hb, fun j u hu => (e.facts.1 b _ hb).trans (hc j u hu)⟩⟩
theorem Rd.alloc {w : World} {m n : Nat} {A : Option Addr} {xs : List Value} (h : Rd w m A n xs) (o : Obj) : Rd (w.alloc o) m A n xs := h.keep ((Ext.refl w).alloc o)
theorem Rd.drew {w : World} {m n : Nat} {A : Option Addr} {xs : List Value} (h : Rd w m A n xs) : Rd w.drew m A n xs := h
theorem Rd.drewN {w : World} {m n : Nat} {A : Option Addr} {xs : List Value} (h : Rd w m A n xs) (k : Nat) : Rd (w.drewN k) m A n xs := h
theorem Rd.nil (w : World) (m : Nat) : Rd w m none 0 [] := ⟨by simp, by omega, fun h => absurd h (by omega)⟩
theorem Rd.of_own {w : World} {base : Nat} {e : TypeId} {m n c : Nat} {A : Option Addr} {xs : List Value} (h : w.ownsRow base e m (.slice A n c) n xs) : Rd w m A n xs := by
  refine ⟨h.1, ?_, fun hn => ?_⟩
  · rcases h.2 with ⟨_, h0⟩ | ⟨g, cap, cur, hv, _, _, h1, h2, _⟩
    · omega
    · unfold maxLen at h2; omega
  · rcases h.2 with ⟨_, h0⟩ | ⟨g, cap, cur, hv, _, hg, _⟩
    · omega
    · injection hv with hA _ _
      subst hA
      refine ⟨g, 0, rfl, (Array.getElem?_eq_some_iff.1 hg).1, fun j u hu => ?_⟩
      have := h.cells (g := g) rfl j u hu
      rw [add_none, Nat.zero_add] at this
      rw [Nat.zero_add]
      exact this
theorem flat_at {α : Type} (enc : α → List Value) (m : Nat) (hm : ∀ x, (enc x).length = m) : ∀ (xs : List α) (k : Nat) (x : α) (j : Nat), xs[k]? = some x → j < m → (xs.flatMap enc)[k * m + j]? = (enc x)[j]?
  | [], k, x, j, h, _ => by simp at h
  | y :: ys, 0, x, j, h, hj => by
    simp at h; subst h
    rw [List.flatMap_cons, List.getElem?_append_left (by rw [hm]; omega)]; simp
  | y :: ys, k + 1, x, j, h, hj => by
    rw [List.flatMap_cons, List.getElem?_append_right (by rw [hm, Nat.add_mul]; omega), hm, show (k + 1) * m + j - m = k * m + j from by rw [Nat.add_mul]; omega]
    exact flat_at enc m hm ys k x j (by simpa using h) hj
theorem flat_len {α : Type} (enc : α → List Value) (m : Nat) (hm : ∀ x, (enc x).length = m) (xs : List α) : (xs.flatMap enc).length = xs.length * m := by
  induction xs with
  | nil => simp
  | cons x xs ih => rw [List.flatMap_cons, List.length_append, ih, hm, List.length_cons, Nat.add_mul]; omega
theorem Rd.len {α : Type} {enc : α → List Value} {m : Nat} (hm : ∀ x, (enc x).length = m) (h0 : 0 < m) {w : World} {A : Option Addr} {n : Nat} {xs : List α} (h : Rd w m A n (xs.flatMap enc)) : xs.length = n := by
  have := h.1
  rw [flat_len enc m hm] at this
  exact Nat.eq_of_mul_eq_mul_right h0 this
theorem Rd.atAny {α : Type} {enc : α → List Value} {m : Nat} (hm : ∀ x, (enc x).length = m) (h0 : 0 < m) {w : World} {A : Option Addr} {n : Nat} {xs : List α} (h : Rd w m A n (xs.flatMap enc)) {k : Nat} (hk : k < n) :
    ∃ b off x, A = some ⟨b, off, none⟩ ∧ b < w.heap.size ∧ xs[k]? = some x ∧ ∀ j u, (enc x)[j]? = some u → w.cell? ⟨b, off + k * m + j, none⟩ = some u := by
  obtain ⟨b, off, rfl, hb, hc⟩ := h.2.2 (by omega)
  have hl := h.len hm h0
  have hx : xs[k]? = some xs[k] := List.getElem?_eq_getElem (by omega)
  refine ⟨b, off, xs[k], rfl, hb, hx, fun j u hu => ?_⟩
  rw [Nat.add_assoc]
  refine hc (k * m + j) _ ?_
  have hj : j < m := by rw [← hm xs[k]]; exact (List.getElem?_eq_some_iff.1 hu).1
  rw [flat_at enc m hm xs k _ j hx hj, hu]
theorem Rd.at1 {α : Type} {enc : α → List Value} {p : α → Value} (he : ∀ x, enc x = [p x]) {w : World} {A : Option Addr} {n : Nat} {xs : List α} (h : Rd w 1 A n (xs.flatMap enc)) {k : Nat} (hk : k < n) :
    ∃ b off x, A = some ⟨b, off, none⟩ ∧ b < w.heap.size ∧ xs[k]? = some x ∧ w.cell? ⟨b, off + k, none⟩ = some (p x) := by
  obtain ⟨b, off, x, h1, h2, h3, h4⟩ := h.atAny (fun x => by rw [he]; rfl) (by omega) hk
  refine ⟨b, off, x, h1, h2, h3, ?_⟩
  have := h4 0 _ (by rw [he]; rfl)
  simpa using this
theorem Rd.at2 {α : Type} {enc : α → List Value} {p q : α → Value} (he : ∀ x, enc x = [p x, q x]) {w : World} {A : Option Addr} {n : Nat} {xs : List α} (h : Rd w 2 A n (xs.flatMap enc)) {k : Nat} (hk : k < n) :
    ∃ b off x, A = some ⟨b, off, none⟩ ∧ b < w.heap.size ∧ xs[k]? = some x ∧ w.cell? ⟨b, off + k * 2, none⟩ = some (p x) ∧ w.cell? ⟨b, off + k * 2 + 1, none⟩ = some (q x) := by
  obtain ⟨b, off, x, h1, h2, h3, h4⟩ := h.atAny (fun x => by rw [he]; rfl) (by omega) hk
  exact ⟨b, off, x, h1, h2, h3, h4 0 _ (by rw [he]; rfl), h4 1 _ (by rw [he]; rfl)⟩
theorem Rd.at3 {α : Type} {enc : α → List Value} {p q r : α → Value} (he : ∀ x, enc x = [p x, q x, r x]) {w : World} {A : Option Addr} {n : Nat} {xs : List α} (h : Rd w 3 A n (xs.flatMap enc)) {k : Nat} (hk : k < n) :
    ∃ b off x, A = some ⟨b, off, none⟩ ∧ b < w.heap.size ∧ xs[k]? = some x ∧ w.cell? ⟨b, off + k * 3, none⟩ = some (p x) ∧ w.cell? ⟨b, off + k * 3 + 1, none⟩ = some (q x) ∧ w.cell? ⟨b, off + k * 3 + 2, none⟩ = some (r x) := by
  obtain ⟨b, off, x, h1, h2, h3, h4⟩ := h.atAny (fun x => by rw [he]; rfl) (by omega) hk
  exact ⟨b, off, x, h1, h2, h3, h4 0 _ (by rw [he]; rfl), h4 1 _ (by rw [he]; rfl), h4 2 _ (by rw [he]; rfl)⟩
theorem Rd.at4 {α : Type} {enc : α → List Value} {p q r s : α → Value} (he : ∀ x, enc x = [p x, q x, r x, s x]) {w : World} {A : Option Addr} {n : Nat} {xs : List α} (h : Rd w 4 A n (xs.flatMap enc)) {k : Nat} (hk : k < n) :
    ∃ b off x, A = some ⟨b, off, none⟩ ∧ b < w.heap.size ∧ xs[k]? = some x ∧ w.cell? ⟨b, off + k * 4, none⟩ = some (p x) ∧ w.cell? ⟨b, off + k * 4 + 1, none⟩ = some (q x) ∧ w.cell? ⟨b, off + k * 4 + 2, none⟩ = some (r x) ∧ w.cell? ⟨b, off + k * 4 + 3, none⟩ = some (s x) := by
  obtain ⟨b, off, x, h1, h2, h3, h4⟩ := h.atAny (fun x => by rw [he]; rfl) (by omega) hk
  exact ⟨b, off, x, h1, h2, h3, h4 0 _ (by rw [he]; rfl), h4 1 _ (by rw [he]; rfl), h4 2 _ (by rw [he]; rfl), h4 3 _ (by rw [he]; rfl)⟩
theorem Rd.at5 {α : Type} {enc : α → List Value} {p q r s t : α → Value} (he : ∀ x, enc x = [p x, q x, r x, s x, t x]) {w : World} {A : Option Addr} {n : Nat} {xs : List α} (h : Rd w 5 A n (xs.flatMap enc)) {k : Nat} (hk : k < n) :
    ∃ b off x, A = some ⟨b, off, none⟩ ∧ b < w.heap.size ∧ xs[k]? = some x ∧ w.cell? ⟨b, off + k * 5, none⟩ = some (p x) ∧ w.cell? ⟨b, off + k * 5 + 1, none⟩ = some (q x) ∧ w.cell? ⟨b, off + k * 5 + 2, none⟩ = some (r x) ∧ w.cell? ⟨b, off + k * 5 + 3, none⟩ = some (s x) ∧ w.cell? ⟨b, off + k * 5 + 4, none⟩ = some (t x) := by
  obtain ⟨b, off, x, h1, h2, h3, h4⟩ := h.atAny (fun x => by rw [he]; rfl) (by omega) hk
  exact ⟨b, off, x, h1, h2, h3, h4 0 _ (by rw [he]; rfl), h4 1 _ (by rw [he]; rfl), h4 2 _ (by rw [he]; rfl), h4 3 _ (by rw [he]; rfl), h4 4 _ (by rw [he]; rfl)⟩
end Go.Proofs.YtfhibjehnoibeaaDoor
/- A text of lemmas for the laws of this seat; what each says stands at its theorem; no condition. -/
namespace Go.Proofs.YtfhibjehnoibeaaDoor
set_option linter.unusedSimpArgs false
set_option linter.unusedVariables false
open Go.RowKit Go.ChangeShapes Go.WideShapes Go.Deep

section
variable {H : Type} {enc : TypeId × Value → H} {P : Program} {W W' : World}

/-- Whatever read in W reads the same in W', where nothing old has turned. -/
theorem trodAll_stays (hl : laidOutB P = true) : ∀ {ts : List TypeId} {vs : List Value} {ds : List (DataW H)} {ps : List MemPlace}, (∀ t ∈ ts, P.readableRec t = true ∧ t < P.types.size) →
    DataW.TrodAll enc P W 0 (fun _ => true) true ts vs ds ps → Ext W W' → (∀ x ∈ ps, x.block < W.heap.size) → DataW.TrodAll enc P W' 0 (fun b => decide (b < W.heap.size)) true ts vs ds ps
  | [], [], [], _, _, h, _, _ => h
  | t :: ts, v :: vs, d :: ds, ps, hr, h, hb, hlt => by
    obtain ⟨p, q, h1, h2, rfl⟩ := h
    exact ⟨p, q, Below.trod hl (hr t (by simp)).1 (hr t (by simp)).2 h1 hb.below (fun x hx => hlt x (by simp [hx])), trodAll_stays hl (fun t ht => hr t (by simp [ht])) h2 hb (fun x hx => hlt x (by simp [hx])), rfl⟩
  | [], [], _ :: _, _, _, h, _, _ => h.elim
  | [], _ :: _, _, _, _, h, _, _ => by cases h
  | _ :: _, [], _, _, _, h, _, _ => by cases h
  | _ :: _, _ :: _, [], _, _, h, _, _ => h.elim

/-- The end of every law: it returned true, and nothing old has turned. -/
theorem law_post {f : Func} {s : ChangeSpec} {tb : TypeId} {args : Array Value} {ds gs : List (DataW H)} {before : List MemPlace} (hl : laidOutB P = true)
    (hr : ∀ t ∈ f.params.toList, P.readableRec t = true ∧ t < P.types.size) (htb : P.underlying tb = some .bool) (hrt : f.resultTypes = #[tb]) (hv : s.vars = [])
    (hW : DataW.Whole enc P f.params.toList s.vars false W args.toList ds gs before)
    (hs : s.fn H (ds ++ gs) = { results := [.lit (.bool true)], args := ds }) (hb : Ext W W') :
    s.post enc P f false true false false W args (.bool true) W' := by
  have hlt : ∀ x ∈ before, x.block < W.heap.size := fun x hx => hW.lt x hx
  obtain ⟨p, q, hA, hV, rfl, hfz, hnd⟩ := id hW
  rw [hv] at hV
  cases gs with
  | cons _ _ => exact hV.elim
  | nil =>
    have hq : q = [] := hV
    subst hq
    refine ⟨ds, [], p ++ [], [], p, [], hW, ?_, ?_, ?_, Below.frame hb.below _, fun h => by cases h⟩
    · rw [hs, hrt]
      exact trodAll_mk1 (shut_bool htb true)
    · rw [hs]
      exact trodAll_stays hl hr hA hb (fun x hx => hlt x (by simp [hx]))
    · rw [hs, hv]; rfl

/-- Every value of type t that can be read as data has cells of the form 'en a'. -/
def Opens (P : Program) (t : TypeId) {α : Type} (en : α → List Value) : Prop :=
  ∀ (H : Type) (enc : TypeId × Value → H) (w : World) (n : Nat) (cs : List Value) (x : DataW H × List MemPlace), DataW.trod enc P w 0 (fun _ => true) true n t cs = some x → ∃ a, cs = en a


theorem open_row {α : Type} {en : α → List Value} {t e : TypeId} {m fuel : Nat} {v : Value} {x : DataW H × List MemPlace} (ht : P.underlying t = some (.slice e)) (hC : P.cellsOf e = m) (hm : ∀ a, (en a).length = m) (h0 : 0 < m) (he : Opens P e en)
    (h : DataW.trod enc P W 0 (fun _ => true) true fuel t [v] = some x) : ∃ A n c, ∃ xs : List α, v = .slice A n c ∧ n ≤ c ∧ Rd W m A n (xs.flatMap en) := by
  rcases open_slice ht h with ⟨hv, _⟩ | ⟨a, len, cap, mm, n, D, Pl, hv, _, hl, hcap, hmm, _, hi⟩
  · simp at hv
    subst hv
    exact ⟨none, 0, 0, [], rfl, Nat.le_refl _, Rd.nil _ _⟩
  · simp at hv
    subst hv
    simp at hmm
    obtain rfl : cap = mm := hmm.symm
    clear hmm
    have hex : ∀ l, l ≤ len → ∃ xs : List α, xs.length = l ∧ ∀ j u, (xs.flatMap en)[j]? = some u → W.cell? (a.add j) = some u := by
      intro l
      induction l with
      | zero => exact fun _ => ⟨[], rfl, fun j u hu => by simp at hu⟩
      | succ l ih =>
        intro hle
        obtain ⟨xs, hxl, hxs⟩ := ih (by omega)
        obtain ⟨cs, hc, htr⟩ := hi l (by omega)
        rw [hC] at hc
        obtain ⟨_, _, hat⟩ := World.cells?_some hc
        obtain ⟨a', rfl⟩ := he H enc W n cs _ htr
        refine ⟨xs ++ [a'], by simp [hxl], fun j u hu => ?_⟩
        rw [List.flatMap_append] at hu
        have hfl : (xs.flatMap en).length = l * m := by rw [flat_len en m hm, hxl]
        rcases Nat.lt_or_ge j (l * m) with hj | hj
        · rw [List.getElem?_append_left (by omega)] at hu
          exact hxs j u hu
        · rw [List.getElem?_append_right (by omega), hfl] at hu
          simp only [List.flatMap_cons, List.flatMap_nil, List.append_nil] at hu
          have hjm : j - l * m < m := by have := (List.getElem?_eq_some_iff.1 hu).1; rwa [hm a'] at this
          rw [← hu, ← hat (j - l * m) hjm, Go.Deep.add_add, show l * m + (j - l * m) = j by omega]
    obtain ⟨xs, hxl, hxs⟩ := hex len (Nat.le_refl _)
    refine ⟨some a, len, cap, xs, rfl, hl, by rw [flat_len en m hm, hxl], by unfold maxLen at hcap; omega, fun hn => ?_⟩
    have hp : 0 < (xs.flatMap en).length := by rw [flat_len en m hm, hxl]; exact Nat.mul_pos hn h0
    have h00 := hxs 0 _ (List.getElem?_eq_getElem hp)
    obtain ⟨b, off, spot⟩ := a
    have hsp : spot = none := by
      cases spot with
      | none => rfl
      | some q =>
        exfalso
        have h1 : ((⟨b, off, some q⟩ : Addr).add 0).spot = some q := by unfold Addr.add; rw [if_pos rfl]
        unfold World.cell? at h00
        rw [h1] at h00
        split at h00 <;> simp at h00
    subst hsp
    refine ⟨b, off, rfl, ?_, fun j u hu => ?_⟩
    · have := World.block_lt_of_cell? W _ h00
      rwa [add_none] at this
    · have := hxs j u hu
      rwa [add_none] at this
end

section
variable {H : Type} {enc : TypeId × Value → H} {P : Program} {W : World}
/-- A struct of one-cell fields: each cell with its own field's reading. -/
theorem open_fields {t : TypeId} {fs : Array Field} {n : Nat} {cs : List Value} {x : DataW H × List MemPlace} (ht : P.underlying t = some (.struct fs)) (hone : oneCellFields P fs = true) (hC : P.cellsOf t = fs.size)
    (h : DataW.trod enc P W 0 (fun _ => true) true n t cs = some x) :
    cs.length = fs.size ∧ ∀ (j : Nat) (f : Field), fs[j]? = some f → ∃ v n' y, cs[j]? = some v ∧ DataW.trod enc P W 0 (fun _ => true) true n' f.type [v] = some y := by
  obtain ⟨ys, n', hn', hy, hlen, hyl, hf⟩ := DataW.trod_struct ht h
  refine ⟨hlen.trans hC, fun j f hj => ?_⟩
  obtain ⟨ho, hk⟩ := hone_of hone j f hj
  have hjl : j < fs.size := (Array.getElem?_eq_some_iff.1 hj).1
  have h1 := hf j f hj
  rw [ho, hk] at h1
  have hv : cs[j]? = some (cs[j]'(by omega)) := List.getElem?_eq_getElem (by omega)
  have h2 : (cs.drop j).take 1 = [cs[j]'(by omega)] := by rw [List.drop_eq_getElem_cons (by omega)]; rfl
  rw [h2] at h1
  have hys : ys[j]? = some (ys[j]'(by omega)) := List.getElem?_eq_getElem (by omega)
  exact ⟨_, n', _, hv, h1.trans hys⟩
theorem int_of_trod {t : TypeId} {n : Nat} {v : Value} {y : DataW H × List MemPlace} (ht : P.underlying t = some (.int .i64)) (h : DataW.trod enc P W 0 (fun _ => true) true n t [v] = some y) : ∃ z, v = .int .i64 z ∧ (Lit.int .i64 z).wf = true := by
  obtain ⟨z, h1, _, hw⟩ := DataW.trod_int ht h
  simp at h1
  exact ⟨z, h1, hw⟩
theorem byte_of_trod {t : TypeId} {n : Nat} {v : Value} {y : DataW H × List MemPlace} (ht : P.underlying t = some (.int .u8)) (h : DataW.trod enc P W 0 (fun _ => true) true n t [v] = some y) : ∃ z, v = .int .u8 z ∧ (Lit.int .u8 z).wf = true := by
  obtain ⟨z, h1, _, hw⟩ := DataW.trod_int ht h
  simp at h1
  exact ⟨z, h1, hw⟩
theorem bool_of_trod {t : TypeId} {n : Nat} {v : Value} {y : DataW H × List MemPlace} (ht : P.underlying t = some .bool) (h : DataW.trod enc P W 0 (fun _ => true) true n t [v] = some y) : ∃ z, v = .bool z := by
  obtain ⟨z, h1, _⟩ := DataW.trod_bool ht h
  simp at h1
  exact ⟨z, h1⟩
theorem string_of_trod {t : TypeId} {n : Nat} {v : Value} {y : DataW H × List MemPlace} (ht : P.underlying t = some .string) (h : DataW.trod enc P W 0 (fun _ => true) true n t [v] = some y) : ∃ z, v = .string z ∧ z.size ≤ maxLen := by
  obtain ⟨z, h1, _, hw⟩ := DataW.trod_string ht h
  simp at h1
  exact ⟨z, h1, hw⟩
/-- A struct by value. -/
theorem open_agg {α : Type} {en : α → List Value} {r : Reach} {b0 : Nat} {t : TypeId} {fs : Array Field} {v : Value} {d : DataW H} {p : List MemPlace} (hs : P.underlying t = some (.struct fs)) (he : Opens P t en)
    (hv : Value.okWide P W r b0 t v) (h : DataW.Trod enc P W 0 (fun _ => true) true t v d p) : ∃ a, v = .agg (en a).toArray := by
  obtain ⟨cs, rfl, _⟩ := okWide_struct hs hv
  obtain ⟨fuel, hf⟩ := h
  obtain ⟨a, ha⟩ := he H enc W fuel _ _ hf
  refine ⟨a, ?_⟩
  have : cs.toList = en a := by simpa [Value.cells] using ha
  rw [← this]
theorem open_slice_arg {α : Type} {en : α → List Value} {t e : TypeId} {m : Nat} {v : Value} {d : DataW H} {p : List MemPlace} {r : Reach} {b0 : Nat} (ht : P.underlying t = some (.slice e)) (hC : P.cellsOf e = m) (hm : ∀ a, (en a).length = m) (h0 : 0 < m) (he : Opens P e en)
    (hv : Value.okWide P W r b0 t v) (h : DataW.Trod enc P W 0 (fun _ => true) true t v d p) : ∃ A n c, ∃ xs : List α, v = .slice A n c ∧ n ≤ c ∧ Rd W m A n (xs.flatMap en) := by
  obtain ⟨a0, len, cap, rfl⟩ := okWide_slice ht hv
  obtain ⟨fuel, hf⟩ := h
  exact open_row ht hC hm h0 he hf
end
end Go.Proofs.YtfhibjehnoibeaaDoor
/- A text of lemmas for the laws of this seat; what each says stands at its theorem; no condition. -/
namespace Go.Proofs.YtfhibjehnoibeaaDoor
set_option linter.unusedSimpArgs false
set_option linter.unusedVariables false
open Go.RowKit
/-! The Go structs as Lean structures, and how their cells stand. -/
structure GShift where
  g : Int
  f : Int
  t : Int
def GShift.enc (s : GShift) : List Value := [.int .i64 s.g, .int .i64 s.f, .int .i64 s.t]
structure GLoan where
  l : Int
  lo : Int
  hi : Int
  g : Int
def GLoan.enc (s : GLoan) : List Value := [.int .i64 s.l, .int .i64 s.lo, .int .i64 s.hi, .int .i64 s.g]
structure GClimate where
  l : Int
  h : Int
  g : Int
def GClimate.enc (s : GClimate) : List Value := [.int .i64 s.l, .int .i64 s.h, .int .i64 s.g]
structure GAct where
  k : Int
  a : Int
  b : Int
  c : Int
  d : Int
def GAct.enc (s : GAct) : List Value := [.int .i64 s.k, .int .i64 s.a, .int .i64 s.b, .int .i64 s.c, .int .i64 s.d]
structure GCheck where
  m : Int
  o : Int
  th : Bool
def GCheck.enc (s : GCheck) : List Value := [.int .i64 s.m, .int .i64 s.o, .bool s.th]
structure GStay where
  p : Int
  h : Int
  f : Int
  t : Int
def GStay.enc (s : GStay) : List Value := [.int .i64 s.p, .int .i64 s.h, .int .i64 s.f, .int .i64 s.t]
structure GDoor where
  a : Int
  b : Int
def GDoor.enc (s : GDoor) : List Value := [.int .i64 s.a, .int .i64 s.b]
structure GMove where
  o : Int
  t : Int
  f : Int
  s : Int
def GMove.enc (s : GMove) : List Value := [.int .i64 s.o, .int .i64 s.t, .int .i64 s.f, .int .i64 s.s]
def ienc (i : Int) : List Value := [.int .i64 i]
end Go.Proofs.YtfhibjehnoibeaaDoor
/- Small rewrite rules for cells behind new blocks and stores elsewhere; no condition but what stands at each. -/
namespace Go.Proofs.YtfhibjehnoibeaaDoor
set_option linter.unusedSimpArgs false
set_option linter.unusedVariables false
open Go.RowKit
theorem cell_alloc_look (w : World) (o : Obj) (a : Addr) (h : (w.cell? a).isSome = true) : (w.alloc o).cell? a = w.cell? a := by
  obtain ⟨u, hu⟩ := Option.isSome_iff_exists.1 h
  exact World.cell?_alloc_lt w o a (World.block_lt_of_cell? w a hu)
theorem cell_set_far (w : World) (p a : Addr) (v : Value) (h : p.block ≠ a.block) : (w.setCell p v).cell? a = w.cell? a :=
  World.cell?_setCell_other w p a v (fun e => h (by rw [e]))
end Go.Proofs.YtfhibjehnoibeaaDoor
/- Folds over the first k elements, and the elements of typed rows; no condition but what stands at each theorem. -/
namespace Go.Proofs.YtfhibjehnoibeaaDoor
set_option linter.unusedSimpArgs false
set_option linter.unusedVariables false
open Go.RowKit
theorem fold_step {α β : Type} (f : β → α → β) (a : β) {xs : List α} {k : Nat} {x : α} (h : xs[k]? = some x) : (xs.take (k + 1)).foldl f a = f ((xs.take k).foldl f a) x := by
  have hk : k < xs.length := (List.getElem?_eq_some_iff.1 h).1
  have hx : xs[k] = x := (List.getElem?_eq_some_iff.1 h).2
  rw [List.take_succ_eq_append_getElem hk, List.foldl_append, hx]; rfl
theorem take_snoc {α : Type} {xs : List α} {k : Nat} {x : α} (h : xs[k]? = some x) : xs.take (k + 1) = xs.take k ++ [x] := by
  have hk : k < xs.length := (List.getElem?_eq_some_iff.1 h).1
  have hx : xs[k] = x := (List.getElem?_eq_some_iff.1 h).2
  rw [List.take_succ_eq_append_getElem hk, hx]
theorem GShift.len (x : GShift) : x.enc.length = 3 := rfl
theorem GCheck.len (x : GCheck) : x.enc.length = 3 := rfl
theorem GLoan.len (x : GLoan) : x.enc.length = 4 := rfl
theorem GClimate.len (x : GClimate) : x.enc.length = 3 := rfl
theorem GAct.len (x : GAct) : x.enc.length = 5 := rfl
theorem GStay.len (x : GStay) : x.enc.length = 4 := rfl
theorem GDoor.len (x : GDoor) : x.enc.length = 2 := rfl
theorem GMove.len (x : GMove) : x.enc.length = 4 := rfl
theorem ienc_len (x : Int) : (ienc x).length = 1 := rfl
section
variable {w : World} {A : Option Addr} {n k : Nat}
theorem GShift.at_ {xs : List GShift} (h : Rd w 3 A n (xs.flatMap GShift.enc)) (hk : k < n) :
    ∃ (b off : Nat) (x : GShift), A = some ⟨b, off, none⟩ ∧ b < w.heap.size ∧ xs[k]? = some x ∧ w.cell? ⟨b, off + k * 3, none⟩ = some (.int .i64 x.g) ∧ w.cell? ⟨b, off + k * 3 + 1, none⟩ = some (.int .i64 x.f) ∧ w.cell? ⟨b, off + k * 3 + 2, none⟩ = some (.int .i64 x.t) :=
  Rd.at3 (p := fun (s : GShift) => .int .i64 s.g) (q := fun s => .int .i64 s.f) (r := fun s => .int .i64 s.t) (fun _ => rfl) h hk
theorem GCheck.at_ {xs : List GCheck} (h : Rd w 3 A n (xs.flatMap GCheck.enc)) (hk : k < n) :
    ∃ (b off : Nat) (x : GCheck), A = some ⟨b, off, none⟩ ∧ b < w.heap.size ∧ xs[k]? = some x ∧ w.cell? ⟨b, off + k * 3, none⟩ = some (.int .i64 x.m) ∧ w.cell? ⟨b, off + k * 3 + 1, none⟩ = some (.int .i64 x.o) ∧ w.cell? ⟨b, off + k * 3 + 2, none⟩ = some (.bool x.th) :=
  Rd.at3 (p := fun (s : GCheck) => .int .i64 s.m) (q := fun s => .int .i64 s.o) (r := fun s => .bool s.th) (fun _ => rfl) h hk
theorem GClimate.at_ {xs : List GClimate} (h : Rd w 3 A n (xs.flatMap GClimate.enc)) (hk : k < n) :
    ∃ (b off : Nat) (x : GClimate), A = some ⟨b, off, none⟩ ∧ b < w.heap.size ∧ xs[k]? = some x ∧ w.cell? ⟨b, off + k * 3, none⟩ = some (.int .i64 x.l) ∧ w.cell? ⟨b, off + k * 3 + 1, none⟩ = some (.int .i64 x.h) ∧ w.cell? ⟨b, off + k * 3 + 2, none⟩ = some (.int .i64 x.g) :=
  Rd.at3 (p := fun (s : GClimate) => .int .i64 s.l) (q := fun s => .int .i64 s.h) (r := fun s => .int .i64 s.g) (fun _ => rfl) h hk
theorem GLoan.at_ {xs : List GLoan} (h : Rd w 4 A n (xs.flatMap GLoan.enc)) (hk : k < n) :
    ∃ (b off : Nat) (x : GLoan), A = some ⟨b, off, none⟩ ∧ b < w.heap.size ∧ xs[k]? = some x ∧ w.cell? ⟨b, off + k * 4, none⟩ = some (.int .i64 x.l) ∧ w.cell? ⟨b, off + k * 4 + 1, none⟩ = some (.int .i64 x.lo) ∧ w.cell? ⟨b, off + k * 4 + 2, none⟩ = some (.int .i64 x.hi) ∧ w.cell? ⟨b, off + k * 4 + 3, none⟩ = some (.int .i64 x.g) :=
  Rd.at4 (p := fun (s : GLoan) => .int .i64 s.l) (q := fun s => .int .i64 s.lo) (r := fun s => .int .i64 s.hi) (s := fun s => .int .i64 s.g) (fun _ => rfl) h hk
theorem GStay.at_ {xs : List GStay} (h : Rd w 4 A n (xs.flatMap GStay.enc)) (hk : k < n) :
    ∃ (b off : Nat) (x : GStay), A = some ⟨b, off, none⟩ ∧ b < w.heap.size ∧ xs[k]? = some x ∧ w.cell? ⟨b, off + k * 4, none⟩ = some (.int .i64 x.p) ∧ w.cell? ⟨b, off + k * 4 + 1, none⟩ = some (.int .i64 x.h) ∧ w.cell? ⟨b, off + k * 4 + 2, none⟩ = some (.int .i64 x.f) ∧ w.cell? ⟨b, off + k * 4 + 3, none⟩ = some (.int .i64 x.t) :=
  Rd.at4 (p := fun (s : GStay) => .int .i64 s.p) (q := fun s => .int .i64 s.h) (r := fun s => .int .i64 s.f) (s := fun s => .int .i64 s.t) (fun _ => rfl) h hk
theorem GMove.at_ {xs : List GMove} (h : Rd w 4 A n (xs.flatMap GMove.enc)) (hk : k < n) :
    ∃ (b off : Nat) (x : GMove), A = some ⟨b, off, none⟩ ∧ b < w.heap.size ∧ xs[k]? = some x ∧ w.cell? ⟨b, off + k * 4, none⟩ = some (.int .i64 x.o) ∧ w.cell? ⟨b, off + k * 4 + 1, none⟩ = some (.int .i64 x.t) ∧ w.cell? ⟨b, off + k * 4 + 2, none⟩ = some (.int .i64 x.f) ∧ w.cell? ⟨b, off + k * 4 + 3, none⟩ = some (.int .i64 x.s) :=
  Rd.at4 (p := fun (s : GMove) => .int .i64 s.o) (q := fun s => .int .i64 s.t) (r := fun s => .int .i64 s.f) (s := fun s => .int .i64 s.s) (fun _ => rfl) h hk
theorem GAct.at_ {xs : List GAct} (h : Rd w 5 A n (xs.flatMap GAct.enc)) (hk : k < n) :
    ∃ (b off : Nat) (x : GAct), A = some ⟨b, off, none⟩ ∧ b < w.heap.size ∧ xs[k]? = some x ∧ w.cell? ⟨b, off + k * 5, none⟩ = some (.int .i64 x.k) ∧ w.cell? ⟨b, off + k * 5 + 1, none⟩ = some (.int .i64 x.a) ∧ w.cell? ⟨b, off + k * 5 + 2, none⟩ = some (.int .i64 x.b) ∧ w.cell? ⟨b, off + k * 5 + 3, none⟩ = some (.int .i64 x.c) ∧ w.cell? ⟨b, off + k * 5 + 4, none⟩ = some (.int .i64 x.d) :=
  Rd.at5 (p := fun (s : GAct) => .int .i64 s.k) (q := fun s => .int .i64 s.a) (r := fun s => .int .i64 s.b) (s := fun s => .int .i64 s.c) (t := fun s => .int .i64 s.d) (fun _ => rfl) h hk
theorem GDoor.at_ {xs : List GDoor} (h : Rd w 2 A n (xs.flatMap GDoor.enc)) (hk : k < n) :
    ∃ (b off : Nat) (x : GDoor), A = some ⟨b, off, none⟩ ∧ b < w.heap.size ∧ xs[k]? = some x ∧ w.cell? ⟨b, off + k * 2, none⟩ = some (.int .i64 x.a) ∧ w.cell? ⟨b, off + k * 2 + 1, none⟩ = some (.int .i64 x.b) :=
  Rd.at2 (p := fun (s : GDoor) => .int .i64 s.a) (q := fun s => .int .i64 s.b) (fun _ => rfl) h hk
theorem ienc_at {xs : List Int} (h : Rd w 1 A n (xs.flatMap ienc)) (hk : k < n) :
    ∃ (b off : Nat) (x : Int), A = some ⟨b, off, none⟩ ∧ b < w.heap.size ∧ xs[k]? = some x ∧ w.cell? ⟨b, off + k, none⟩ = some (.int .i64 x) :=
  Rd.at1 (p := fun (s : Int) => .int .i64 s) (fun _ => rfl) h hk
end
end Go.Proofs.YtfhibjehnoibeaaDoor
/- Rows of the call's own: made, written element by element; no condition but what stands at each theorem. -/
namespace Go.Proofs.YtfhibjehnoibeaaDoor
set_option linter.unusedSimpArgs false
set_option linter.unusedVariables false
open Go.RowKit
theorem make_row {P : Program} (t e : TypeId) (i : TypeInfo) (z : Value) (ht : P.underlying t = some (.slice e)) (hi : P.info? e = some i) (hz : i.zero = some z) (n : Nat) (hb : i.bytes * n ≤ 281474976710656) (h63 : n ≤ 9223372036854775807) (w : World) :
    (Instr.makeSlice t (.int .i64 (n : Int)) (.int .i64 (n : Int))).run P w = .ok (.slice (some ⟨w.heap.size, 0, none⟩) n n) (w.alloc (.cells (madeCells z.cells (n * i.size)) e)) := by
  have h1 : (i.bytes : Int) * (n : Int) ≤ 281474976710656 := by
    have h : ((i.bytes * n : Nat) : Int) ≤ 281474976710656 := by omega
    rwa [Int.natCast_mul] at h
  have hr := run_make (P := P) w t e i z ht hi hz .i64 .i64 n n (by omega) (by omega) h1 (by omega)
  simp only [Int.toNat_natCast] at hr
  exact hr
/-- The cells cur with vs written from o on. -/
def setRow : Array Value → Nat → List Value → Array Value
  | cur, _, [] => cur
  | cur, o, v :: r => setRow (cur.setIfInBounds o v) (o + 1) r
theorem setRow_size : ∀ (vs : List Value) (cur : Array Value) (o : Nat), (setRow cur o vs).size = cur.size
  | [], _, _ => rfl
  | v :: r, cur, o => by rw [setRow, setRow_size r]; simp
theorem setRow_get : ∀ (vs : List Value) (cur : Array Value) (o j : Nat), o + vs.length ≤ cur.size → (setRow cur o vs)[j]? = if o ≤ j ∧ j < o + vs.length then vs[j - o]? else cur[j]?
  | [], cur, o, j, _ => by simp [setRow]; intro h1 h2; omega
  | v :: r, cur, o, j, h => by
    simp only [List.length_cons] at h
    rw [setRow, setRow_get r _ (o + 1) j (by simp; omega)]
    simp only [List.length_cons]
    by_cases h1 : o + 1 ≤ j ∧ j < o + 1 + r.length
    · rw [if_pos h1, if_pos (by omega), show j - o = (j - (o + 1)) + 1 by omega]; rfl
    · rw [if_neg h1]
      by_cases h2 : j = o
      · subst h2
        rw [if_pos (by omega), Nat.sub_self, Array.getElem?_setIfInBounds, if_pos rfl, if_pos (by omega)]; rfl
      · rw [if_neg (by omega), Array.getElem?_setIfInBounds, if_neg (by omega)]
theorem setRow_take {cur : Array Value} {k m : Nat} {vs L : List Value} (hm : vs.length = m) (hk : (k + 1) * m ≤ cur.size) (ht : cur.toList.take (k * m) = L) : (setRow cur (k * m) vs).toList.take ((k + 1) * m) = L ++ vs := by
  have hkm : (k + 1) * m = k * m + m := by rw [Nat.add_mul]; omega
  have hL : L.length = k * m := by rw [← ht, List.length_take, Array.length_toList]; omega
  have hs : (setRow cur (k * m) vs).toList.length = cur.size := by rw [Array.length_toList, setRow_size]
  apply List.ext_getElem?
  intro j
  rw [List.getElem?_take]
  by_cases hj : j < (k + 1) * m
  · rw [if_pos hj, Array.getElem?_toList, setRow_get vs cur _ j (by omega)]
    by_cases h1 : k * m ≤ j
    · rw [if_pos (by omega), List.getElem?_append_right (by omega), hL]
    · rw [if_neg (by omega), List.getElem?_append_left (by omega), ← ht, List.getElem?_take, if_pos (by omega), Array.getElem?_toList]
  · rw [if_neg hj, List.getElem?_eq_none (by rw [List.length_append]; omega)]
/-- Block g is just the cells cs of element type t, none frozen. -/
def Blk (w : World) (g : Nat) (t : TypeId) (cs : Array Value) : Prop := w.heap[g]? = some (.cells cs t (0, 0))
section
variable {w w' : World} {g : Nat} {t : TypeId} {cs : Array Value}
theorem Blk.lt (h : Blk w g t cs) : g < w.heap.size := (Array.getElem?_eq_some_iff.1 h).1
theorem Blk.cell (h : Blk w g t cs) (i : Nat) : w.cell? ⟨g, i, none⟩ = cs[i]? := by unfold Blk at h; simp [World.cell?, h]
theorem Blk.cellAt (h : Blk w g t cs) {i : Nat} (hi : i < cs.size) : w.cell? ⟨g, i, none⟩ = some (cs[i]) := by rw [h.cell, Array.getElem?_eq_getElem hi]
theorem Blk.free (h : Blk w g t cs) (i : Nat) : w.frozen? ⟨g, i, none⟩ = false := by unfold Blk at h; simp [World.frozen?, h]
theorem Blk.new (w : World) (t : TypeId) (cs : Array Value) : Blk (w.alloc (.cells cs t)) w.heap.size t cs := heap_alloc_new w _
theorem Blk.keep (h : Blk w g t cs) (e : Ext w w') : Blk w' g t cs := (Below.block e.below g h.lt).trans h
theorem Blk.drew (h : Blk w g t cs) : Blk w.drew g t cs := h
theorem Blk.set (h : Blk w g t cs) (i : Nat) (u : Value) : Blk (w.setCell ⟨g, i, none⟩ u) g t (cs.setIfInBounds i u) := by
  unfold Blk at h ⊢
  simp [World.setCell, Array.getElem?_modify, h]
theorem Blk.far (h : Blk w g t cs) {p : Addr} (hp : g ≠ p.block) (u : Value) : Blk (w.setCell p u) g t cs := (Below.heap_setCell w p u g hp).trans h
end
theorem Blk.sets : ∀ (vs : List Value) {w : World} {g : Nat} {t : TypeId} {cs : Array Value} (o : Nat), Blk w g t cs → Blk (w.setCells g o vs) g t (setRow cs o vs)
  | [], _, _, _, _, _, h => h
  | v :: r, _, _, _, _, o, h => Blk.sets r (o + 1) (h.set o v)
theorem Ext.sets : ∀ (vs : List Value) {a w : World} {g : Nat} (o : Nat), Ext a w → a.heap.size ≤ g → Ext a (w.setCells g o vs)
  | [], _, _, _, _, h, _ => h
  | v :: r, _, _, _, o, h, hg => Ext.sets r (o + 1) (h.setCell (p := ⟨_, o, none⟩) hg v) hg
theorem own_of_blk {w : World} {base g : Nat} {t : TypeId} {m n : Nat} {cur : Array Value} {L : List Value} (hb : base ≤ g) (h : Blk w g t cur) (hs : cur.size = n * m) (hn : n ≤ maxLen) (hL : cur.toList.take (n * m) = L) :
    w.ownsRow base t m (.slice (some ⟨g, 0, none⟩) n n) n L :=
  ⟨by rw [← hL, List.length_take, Array.length_toList, hs]; omega, .inr ⟨g, n, cur, rfl, hb, h, Nat.le_refl _, hn, hs, hL⟩⟩
/-- What a call made stays its own behind whatever only adds. -/
theorem own_keep {w w' : World} {base : Nat} {t : TypeId} {m n : Nat} {v : Value} {L : List Value} (h : w.ownsRow base t m v n L) (e : Ext w w') : w'.ownsRow base t m v n L := by
  refine ⟨h.1, ?_⟩
  rcases h.2 with hn | ⟨g, cap, cur, rfl, hb, hg, r⟩
  · exact .inl hn
  · exact .inr ⟨g, cap, cur, rfl, hb, (Below.block e.below g (Array.getElem?_eq_some_iff.1 hg).1).trans hg, r⟩
end Go.Proofs.YtfhibjehnoibeaaDoor
/- Contracts of the laws' own helpers on structs and rows: copies, comparisons, sizes; no condition but what stands at each theorem. -/
namespace Go.Proofs.YtfhibjehnoibeaaDoor
set_option linter.unusedSimpArgs false
set_option linter.unusedVariables false
open Go.RowKit

























end Go.Proofs.YtfhibjehnoibeaaDoor
/- One element appended to a row of the call's own; no condition but what stands at each theorem. -/
namespace Go.Proofs.YtfhibjehnoibeaaDoor
set_option linter.unusedSimpArgs false
set_option linter.unusedVariables false
open Go.RowKit
/-- Type st is 'slice of e', an element has m cells and at most 4096 bytes. -/
def EI (P : Program) (st e : TypeId) (m : Nat) : Prop :=
  ∃ i z, P.underlying st = some (.slice e) ∧ P.info? e = some i ∧ i.zero = some z ∧ i.size = m ∧ i.bytes ≤ 4096 ∧ z.cells.size = m ∧ 0 < m
theorem ei_of {P : Program} {st e : TypeId} {m : Nat} (hu : P.underlying st = some (.slice e)) (h0 : 0 < m)
    (h : (P.info? e).map (fun i => (i.zero.map (·.cells.size), i.size, decide (i.bytes ≤ 4096))) = some (some m, m, true)) : EI P st e m := by
  cases hi : P.info? e with
  | none => rw [hi] at h; cases h
  | some i =>
  rw [hi] at h
  simp only [Option.map_some, Option.some.injEq, Prod.mk.injEq, decide_eq_true_eq] at h
  obtain ⟨hz0, hsz, hby⟩ := h
  cases hz : i.zero with
  | none => rw [hz] at hz0; cases hz0
  | some z =>
  rw [hz] at hz0
  simp only [Option.map_some, Option.some.injEq] at hz0
  exact ⟨i, z, hu, hi, hz, hsz, hby, hz0, h0⟩
theorem ext_grown {W w1 : World} {row : Option Nat} {o : Obj} {base : Nat} (hg : (W.alloc o).grownBy w1 row) (hr : ∀ k, row = some k → base ≤ k) : ∀ a, Ext a W → a.heap.size ≤ base → Ext a w1 := by
  intro a ha hb
  exact (ha.alloc o).grown hg (fun k hk => Nat.le_trans hb (hr k hk))
theorem append1 {P : Program} {ops : Array Oper} {rest : List Oper} {o : Oper} {a : Act} {Q : Exit → Act → World → Prop} {t e : TypeId} {m : Nat} (hE : EI P t e m) (hgd : o.guard = none) (s x : Operand)
    (ho : o.op = .call { callee := .builtin .append, args := #[s, x], argTypes := #[t, t] }) (base : Nat) (W : World) (T : TypeId) (v : Value) (n : Nat) (xs : List Value) (hs : a.eval s = v) (hown : W.ownsRow base e m v n xs)
    (news : List Value) (hx : a.eval x = .slice (some ⟨W.heap.size, 0, none⟩) 1 1) (hl : news.length = m) (h1 : ∀ u ∈ news, u.oneCell' = true) (hn : n ≤ 1073741824) (hbase : base ≤ W.heap.size)
    (h : ∀ v' w1, w1.ownsRow base e m v' (n + 1) (xs ++ news) → (∀ b, Ext b W → b.heap.size ≤ base → Ext b w1) → wpList P ops Q rest (a.put o.dst v') w1) : wpList P ops Q (o :: rest) a (W.alloc (.cells news.toArray T)) := by
  obtain ⟨i, z, hu, hi, hz, hsz, hby, hzs, h0⟩ := hE
  refine wpList_append_own _ hgd s x t ho base e i z m i.bytes hu hi hz hsz rfl hzs h0 v n xs hs (hown.alloc _) ⟨W.heap.size, 0, none⟩ 1 1 news hx (by omega) ?_ h1 (by unfold maxLen; omega) ?_ (by simp; omega) ?_
  · intro j u hu'
    rw [add_none, Nat.zero_add, World.cell?_alloc_new]
    simpa using hu'
  · have := Nat.mul_le_mul_left (n + 1) hby
    omega
  · intro v' w1 ho' hg _
    exact h v' w1 ho' (ext_grown hg (fun k hk => (hown.lt k hk).1))
theorem own_form {w : World} {base : Nat} {e : TypeId} {m n : Nat} {v : Value} {L : List Value} (h : w.ownsRow base e m v n L) : ∃ A c, v = .slice A n c ∧ n ≤ c := by
  rcases h.2 with ⟨rfl, rfl⟩ | ⟨g, cap, cur, rfl, _, _, hnc, _⟩
  · exact ⟨none, 0, rfl, Nat.le_refl _⟩
  · exact ⟨_, cap, rfl, hnc⟩
theorem own_weak {w : World} {base base' : Nat} {e : TypeId} {m n : Nat} {v : Value} {L : List Value} (h : w.ownsRow base e m v n L) (hb : base' ≤ base) : w.ownsRow base' e m v n L :=
  ⟨h.1, h.2.imp id fun ⟨g, cap, cur, h1, h2, r⟩ => ⟨g, cap, cur, h1, Nat.le_trans hb h2, r⟩⟩
theorem own_empty (w : World) (base : Nat) (e : TypeId) (m : Nat) (hb : base ≤ w.heap.size) : (w.alloc (.cells #[] e)).ownsRow base e m (.slice (some ⟨w.heap.size, 0, none⟩) 0 0) 0 [] :=
  World.ownsRow_made w #[] 0 hb (by unfold maxLen; omega) (by simp)
end Go.Proofs.YtfhibjehnoibeaaDoor
/- Rows that are written over in place, and what stays elsewhere; no condition but what stands at each theorem. -/
namespace Go.Proofs.YtfhibjehnoibeaaDoor
set_option linter.unusedSimpArgs false
set_option linter.unusedVariables false
open Go.RowKit
/-- Where a row of one's own may lie. -/
def At (lo hi : Nat) (v : Value) : Prop := ∀ g, v.ownBlock = some g → lo ≤ g ∧ g < hi
theorem At.of_own {w : World} {base : Nat} {e : TypeId} {m n : Nat} {v : Value} {L : List Value} (h : w.ownsRow base e m v n L) : At base w.heap.size v := h.lt
theorem At.mono {lo hi lo' hi' : Nat} {v : Value} (h : At lo hi v) (h1 : lo' ≤ lo) (h2 : hi ≤ hi') : At lo' hi' v := fun g hg => ⟨Nat.le_trans h1 (h g hg).1, Nat.lt_of_lt_of_le (h g hg).2 h2⟩
theorem own_kept {w w' : World} {base : Nat} {e : TypeId} {m n : Nat} {v v' : Value} {L : List Value} {lo hi lo' hi' : Nat} (h : w.ownsRow base e m v n L) (a : At lo hi v) (a' : At lo' hi' v') (hd : hi ≤ lo' ∨ hi' ≤ lo)
    (hg : w.grownBy w' v'.ownBlock) : w'.ownsRow base e m v n L := by
  refine h.kept hg ?_
  cases hv : v.ownBlock with
  | none => exact .inl rfl
  | some g =>
    refine .inr fun e => ?_
    have h1 := a g hv
    have h2 := a' g e.symm
    omega
theorem ext_kept {a w w' : World} {v' : Value} {lo hi : Nat} (h : Ext a w) (at_ : At lo hi v') (hl : a.heap.size ≤ lo) (hg : w.grownBy w' v'.ownBlock) : Ext a w' :=
  h.grown hg fun k hk => Nat.le_trans hl (at_ k hk).1
theorem Rd.kept {w w' : World} {m n : Nat} {A : Option Addr} {xs : List Value} (_h : Rd w m A n xs) (a : World) (ha : Rd a m A n xs) (e : Ext a w') : Rd w' m A n xs := ha.keep e
theorem mark_num {a b : Int} (h : a = b) : Value.int .i64 a = .int .i64 b := by rw [h]
theorem grown_trans {a b c : World} {row : Option Nat} (h : a.grownBy b row) (k : b.grownBy c row) : a.grownBy c row :=
  ⟨k.os.trans h.os, k.tape.trans h.tape, k.output.trans h.output, Nat.le_trans h.size k.size, fun i hi hn => (k.block i (Nat.lt_of_lt_of_le hi h.size) hn).trans (h.block i hi hn)⟩
theorem grown_set {a w : World} {g : Nat} (h : a.grownBy w (some g)) (o : Nat) (u : Value) : a.grownBy (w.setCell ⟨g, o, none⟩ u) (some g) :=
  grown_trans h ⟨rfl, rfl, rfl, by simp [World.setCell], fun k hk hn => Below.heap_setCell w _ u k (fun e => hn (by rw [e]))⟩
theorem grown_sets : ∀ (vs : List Value) {a w : World} {g : Nat} (o : Nat), a.grownBy w (some g) → a.grownBy (w.setCells g o vs) (some g)
  | [], _, _, _, _, h => h
  | v :: r, _, _, _, o, h => grown_sets r (o + 1) (grown_set h o v)
theorem grown_refl (w : World) (row : Option Nat) : w.grownBy w row := ⟨rfl, rfl, rfl, Nat.le_refl _, fun _ _ _ => rfl⟩
theorem own_block {w : World} {base : Nat} {e : TypeId} {m n c : Nat} {A : Option Addr} {L : List Value} (h : w.ownsRow base e m (.slice A n c) n L) :
    (A = none ∧ n = 0 ∧ c = 0) ∨ ∃ g cur, A = some ⟨g, 0, none⟩ ∧ base ≤ g ∧ Blk w g e cur ∧ n ≤ c ∧ c ≤ maxLen ∧ cur.size = c * m ∧ cur.toList.take (n * m) = L := by
  rcases h.2 with ⟨hv, hn⟩ | ⟨g, cap, cur, hv, hb, hg, hnc, hcm, hcs, ht⟩
  · injection hv with h1 h2 h3
    exact .inl ⟨h1, hn, h3⟩
  · injection hv with h1 h2 h3
    subst h3
    exact .inr ⟨g, cur, h1, hb, hg, hnc, hcm, hcs, ht⟩
end Go.Proofs.YtfhibjehnoibeaaDoor
/- Contracts of the laws' helpers that write over rows and ask for it again; no condition but what stands at each theorem. -/
namespace Go.Proofs.YtfhibjehnoibeaaDoor
set_option linter.unusedSimpArgs false
set_option linter.unusedVariables false
open Go.RowKit
def markB (k : Int) : Bool := k % 3 == 0
def markIntL (k : Int) (n : Nat) : List Int := (List.range n).map fun (i : Nat) => k + ↑i
theorem markIntL_len (k : Int) (n : Nat) : (markIntL k n).length = n := by simp [markIntL]
theorem markIntL_snoc (k : Int) (i : Nat) : markIntL k (i + 1) = markIntL k i ++ [k + ↑i] := by simp [markIntL, List.range_succ]
theorem markIntL_at (k : Int) (n : Nat) {i : Nat} (h : i < n) : (markIntL k n)[i]? = some (k + ↑i) := by simp [markIntL, h]
def markShiftL (k : Int) (n : Nat) : List GShift := (List.range n).map fun (i : Nat) => ⟨k + ↑i * 3, k + ↑i * 3 + 1, k + ↑i * 3 + 1 + 1⟩
theorem markShiftL_len (k : Int) (n : Nat) : (markShiftL k n).length = n := by simp [markShiftL]
theorem markShiftL_snoc (k : Int) (i : Nat) : markShiftL k (i + 1) = markShiftL k i ++ [⟨k + ↑i * 3, k + ↑i * 3 + 1, k + ↑i * 3 + 1 + 1⟩] := by simp [markShiftL, List.range_succ]
theorem markShiftL_at (k : Int) (n : Nat) {i : Nat} (h : i < n) : (markShiftL k n)[i]? = some (⟨k + ↑i * 3, k + ↑i * 3 + 1, k + ↑i * 3 + 1 + 1⟩) := by simp [markShiftL, h]
def markLoanL (k : Int) (n : Nat) : List GLoan := (List.range n).map fun (i : Nat) => ⟨k + ↑i * 4, k + ↑i * 4 + 1, k + ↑i * 4 + 1 + 1, k + ↑i * 4 + 1 + 1 + 1⟩
theorem markLoanL_len (k : Int) (n : Nat) : (markLoanL k n).length = n := by simp [markLoanL]
theorem markLoanL_snoc (k : Int) (i : Nat) : markLoanL k (i + 1) = markLoanL k i ++ [⟨k + ↑i * 4, k + ↑i * 4 + 1, k + ↑i * 4 + 1 + 1, k + ↑i * 4 + 1 + 1 + 1⟩] := by simp [markLoanL, List.range_succ]
theorem markLoanL_at (k : Int) (n : Nat) {i : Nat} (h : i < n) : (markLoanL k n)[i]? = some (⟨k + ↑i * 4, k + ↑i * 4 + 1, k + ↑i * 4 + 1 + 1, k + ↑i * 4 + 1 + 1 + 1⟩) := by simp [markLoanL, h]
def markClimateL (k : Int) (n : Nat) : List GClimate := (List.range n).map fun (i : Nat) => ⟨k + ↑i * 3, k + ↑i * 3 + 1, k + ↑i * 3 + 1 + 1⟩
theorem markClimateL_len (k : Int) (n : Nat) : (markClimateL k n).length = n := by simp [markClimateL]
theorem markClimateL_snoc (k : Int) (i : Nat) : markClimateL k (i + 1) = markClimateL k i ++ [⟨k + ↑i * 3, k + ↑i * 3 + 1, k + ↑i * 3 + 1 + 1⟩] := by simp [markClimateL, List.range_succ]
theorem markClimateL_at (k : Int) (n : Nat) {i : Nat} (h : i < n) : (markClimateL k n)[i]? = some (⟨k + ↑i * 3, k + ↑i * 3 + 1, k + ↑i * 3 + 1 + 1⟩) := by simp [markClimateL, h]
def markCheckL (k : Int) (n : Nat) : List GCheck := (List.range n).map fun (i : Nat) => ⟨k + ↑i * 3, k + ↑i * 3 + 1, markB (k + ↑i * 3 + 1 + 1)⟩
theorem markCheckL_len (k : Int) (n : Nat) : (markCheckL k n).length = n := by simp [markCheckL]
theorem markCheckL_snoc (k : Int) (i : Nat) : markCheckL k (i + 1) = markCheckL k i ++ [⟨k + ↑i * 3, k + ↑i * 3 + 1, markB (k + ↑i * 3 + 1 + 1)⟩] := by simp [markCheckL, List.range_succ]
theorem markCheckL_at (k : Int) (n : Nat) {i : Nat} (h : i < n) : (markCheckL k n)[i]? = some (⟨k + ↑i * 3, k + ↑i * 3 + 1, markB (k + ↑i * 3 + 1 + 1)⟩) := by simp [markCheckL, h]
def markStayL (k : Int) (n : Nat) : List GStay := (List.range n).map fun (i : Nat) => ⟨k + ↑i * 4, k + ↑i * 4 + 1, k + ↑i * 4 + 1 + 1, k + ↑i * 4 + 1 + 1 + 1⟩
theorem markStayL_len (k : Int) (n : Nat) : (markStayL k n).length = n := by simp [markStayL]
theorem markStayL_snoc (k : Int) (i : Nat) : markStayL k (i + 1) = markStayL k i ++ [⟨k + ↑i * 4, k + ↑i * 4 + 1, k + ↑i * 4 + 1 + 1, k + ↑i * 4 + 1 + 1 + 1⟩] := by simp [markStayL, List.range_succ]
theorem markStayL_at (k : Int) (n : Nat) {i : Nat} (h : i < n) : (markStayL k n)[i]? = some (⟨k + ↑i * 4, k + ↑i * 4 + 1, k + ↑i * 4 + 1 + 1, k + ↑i * 4 + 1 + 1 + 1⟩) := by simp [markStayL, h]
def markDoorL (k : Int) (n : Nat) : List GDoor := (List.range n).map fun (i : Nat) => ⟨k + ↑i * 2, k + ↑i * 2 + 1⟩
theorem markDoorL_len (k : Int) (n : Nat) : (markDoorL k n).length = n := by simp [markDoorL]
theorem markDoorL_snoc (k : Int) (i : Nat) : markDoorL k (i + 1) = markDoorL k i ++ [⟨k + ↑i * 2, k + ↑i * 2 + 1⟩] := by simp [markDoorL, List.range_succ]
theorem markDoorL_at (k : Int) (n : Nat) {i : Nat} (h : i < n) : (markDoorL k n)[i]? = some (⟨k + ↑i * 2, k + ↑i * 2 + 1⟩) := by simp [markDoorL, h]
def markMoveL (k : Int) (n : Nat) : List GMove := (List.range n).map fun (i : Nat) => ⟨k + ↑i * 4, k + ↑i * 4 + 1, k + ↑i * 4 + 1 + 1, k + ↑i * 4 + 1 + 1 + 1⟩
theorem markMoveL_len (k : Int) (n : Nat) : (markMoveL k n).length = n := by simp [markMoveL]
theorem markMoveL_snoc (k : Int) (i : Nat) : markMoveL k (i + 1) = markMoveL k i ++ [⟨k + ↑i * 4, k + ↑i * 4 + 1, k + ↑i * 4 + 1 + 1, k + ↑i * 4 + 1 + 1 + 1⟩] := by simp [markMoveL, List.range_succ]
theorem markMoveL_at (k : Int) (n : Nat) {i : Nat} (h : i < n) : (markMoveL k n)[i]? = some (⟨k + ↑i * 4, k + ↑i * 4 + 1, k + ↑i * 4 + 1 + 1, k + ↑i * 4 + 1 + 1 + 1⟩) := by simp [markMoveL, h]
def markActL (k : Int) (n : Nat) : List GAct := (List.range n).map fun (i : Nat) => ⟨k + ↑i * 5, k + ↑i * 5 + 1, k + ↑i * 5 + 1 + 1, k + ↑i * 5 + 1 + 1 + 1, k + ↑i * 5 + 1 + 1 + 1 + 1⟩
theorem markActL_len (k : Int) (n : Nat) : (markActL k n).length = n := by simp [markActL]
theorem markActL_snoc (k : Int) (i : Nat) : markActL k (i + 1) = markActL k i ++ [⟨k + ↑i * 5, k + ↑i * 5 + 1, k + ↑i * 5 + 1 + 1, k + ↑i * 5 + 1 + 1 + 1, k + ↑i * 5 + 1 + 1 + 1 + 1⟩] := by simp [markActL, List.range_succ]
theorem markActL_at (k : Int) (n : Nat) {i : Nat} (h : i < n) : (markActL k n)[i]? = some (⟨k + ↑i * 5, k + ↑i * 5 + 1, k + ↑i * 5 + 1 + 1, k + ↑i * 5 + 1 + 1 + 1, k + ↑i * 5 + 1 + 1 + 1 + 1⟩) := by simp [markActL, h]
end Go.Proofs.YtfhibjehnoibeaaDoor
/- The drawing of numbers from a code: the cursor's contracts; no condition but what stands at each theorem. -/
namespace Go.Proofs.YtfhibjehnoibeaaDoor
set_option linter.unusedSimpArgs false
set_option linter.unusedVariables false
open Go.RowKit
def benc (i : Int) : List Value := [.int .u8 i]
theorem benc_len (x : Int) : (benc x).length = 1 := rfl
theorem benc_at {w : World} {A : Option Addr} {n k : Nat} {xs : List Int} (h : Rd w 1 A n (xs.flatMap benc)) (hk : k < n) :
    ∃ (b off : Nat) (x : Int), A = some ⟨b, off, none⟩ ∧ b < w.heap.size ∧ xs[k]? = some x ∧ w.cell? ⟨b, off + k, none⟩ = some (.int .u8 x) :=
  Rd.at1 (p := fun (s : Int) => .int .u8 s) (fun _ => rfl) h hk
theorem and255 (a : Int) : 0 ≤ bits .and .i64 a 255 ∧ bits .and .i64 a 255 ≤ 255 := by
  have h : ((BitVec.ofInt 64 a &&& BitVec.ofInt 64 255).toNat) ≤ 255 := by
    rw [BitVec.toNat_and]
    exact Nat.le_trans Nat.and_le_right (by decide)
  have e : bits .and .i64 a 255 = IntKind.i64.wrap ((BitVec.ofInt 64 a &&& BitVec.ofInt 64 255).toNat : Int) := rfl
  rw [e, IntKind.wrap_i64]
  omega
/-- The cursor at block p, over bytes that were there in world w0. -/
def Cur (w : World) (p : Nat) : Prop := ∃ (A : Option Addr) (n c : Nat) (xs : List Int) (i h : Int), Blk w p 81 #[.slice A n c, .int .i64 i, .int .i64 h] ∧ Rd w 1 A n (xs.flatMap benc) ∧ n ≤ 1048576 ∧ 0 ≤ i ∧ i ≤ n ∧ (∀ x ∈ xs, 0 ≤ x ∧ x ≤ 255) ∧ (0 < n → ∀ b off, A = some ⟨b, off, none⟩ → b < p)
theorem rd_set {w : World} {A : Option Addr} {m n p o : Nat} {xs : List Value} (h : Rd w m A n xs) (hA : 0 < n → ∀ b off, A = some ⟨b, off, none⟩ → b < p) (u : Value) : Rd (w.setCell ⟨p, o, none⟩ u) m A n xs :=
  ⟨h.1, h.2.1, fun hn => by
    obtain ⟨b, off, rfl, hb, hc⟩ := h.2.2 hn
    have hbp := hA hn b off rfl
    refine ⟨b, off, rfl, by simpa [World.setCell] using hb, fun j u' hu => ?_⟩
    rw [World.cell?_setCell_other _ _ _ _ (by intro e; injection e with e1; omega)]
    exact hc j u' hu⟩
theorem rd_grown {w w' : World} {A : Option Addr} {m n p : Nat} {xs : List Value} (h : Rd w m A n xs) (hA : 0 < n → ∀ b off, A = some ⟨b, off, none⟩ → b ≠ p) (g : w.grownBy w' (some p)) : Rd w' m A n xs :=
  ⟨h.1, h.2.1, fun hn => by
    obtain ⟨b, off, rfl, hb, hc⟩ := h.2.2 hn
    have hbp := hA hn b off rfl
    refine ⟨b, off, rfl, Nat.lt_of_lt_of_le hb g.size, fun j u' hu => ?_⟩
    have e : w'.heap[b]? = w.heap[b]? := g.block b hb (fun e => hbp (Option.some.inj e))
    rw [← hc j u' hu]
    simp only [World.cell?, e]⟩
theorem blk_grown {w w' : World} {g p : Nat} {t : TypeId} {cs : Array Value} (h : Blk w g t cs) (hp : g ≠ p) (k : w.grownBy w' (some p)) : Blk w' g t cs :=
  (k.block g h.lt (fun e => hp (Option.some.inj e))).trans h
theorem grown_drew {a w : World} {row : Option Nat} (h : a.grownBy w row) (n : Nat) : a.grownBy (w.drewN n) row := ⟨h.os, h.tape, h.output, h.size, h.block⟩
theorem grown_drew1 {a w : World} {row : Option Nat} (h : a.grownBy w row) : a.grownBy w.drew row := ⟨h.os, h.tape, h.output, h.size, h.block⟩
/-- A number from 0 to 255 has been drawn. -/
def DrawnByte (w : World) (p : Nat) (e : Ending) (w' : World) : Prop := ∃ r : Int, e = .returned (.int .i64 r) ∧ 0 ≤ r ∧ r ≤ 255 ∧ Cur w' p ∧ w.grownBy w' (some p)
theorem drawn_end {w w' : World} {p : Nat} {r : Int} (h0 : 0 ≤ r) (h1 : r ≤ 255) (hc : Cur w' p) (hg : w.grownBy w' (some p)) : DrawnByte w p (.returned (.int .i64 r)) w' := ⟨r, rfl, h0, h1, hc, hg⟩
set_option maxRecDepth 100000 in
set_option maxHeartbeats 1000000 in
theorem spec_l01Byte (p : Nat) (w : World) (hc : Cur w p) :
    Calls Tryd.prog 46 #[.pointer (some ⟨p, 0, none⟩)] w (DrawnByte w p) := by
  obtain ⟨A, n, c, xs, i, h, hb, hx, hn, hi0, hi1, hxs, hAp⟩ := hc
  have c0 := hb.cellAt (i := 0) (by simp)
  have c1 := hb.cellAt (i := 1) (by simp)
  have c2 := hb.cellAt (i := 2) (by simp)
  have f1 := hb.free 1
  have f2 := hb.free 2
  simp at c0 c1 c2
  have HB := Lib.hid hb
  clear hb
  go_enter Tryd.func46, Tryd.ntmps46
  go_wp2_with fail
  generalize wrap64 (wrap64 (h * 6364136223846793005) + 1442695040888963407) = h1
  clear c0 c1 c2 f1 f2
  have hb1 := HB.out.set 2 (.int .i64 h1)
  have hx1 := rd_set (o := 2) hx hAp (.int .i64 h1)
  have hg1 := grown_set (grown_refl w (some p)) 2 (.int .i64 h1)
  clear hx HB
  generalize w.setCell ⟨p, 2, none⟩ (.int .i64 h1) = w1 at hb1 hx1 hg1 ⊢
  simp only [List.setIfInBounds_toArray, List.set_cons_succ, List.set_cons_zero] at hb1
  have c0 := hb1.cellAt (i := 0) (by simp)
  have c1 := hb1.cellAt (i := 1) (by simp)
  have c2 := hb1.cellAt (i := 2) (by simp)
  have f1 := hb1.free 1
  simp at c0 c1 c2
  have HB := Lib.hid hb1
  have HX := Lib.hid hx1
  have HG := Lib.hid hg1
  clear hb1 hx1 hg1
  go_quiet (fail)
  go_wp2_with fail
  have hr := and255 (bits .xor .i64 (h1 / 8589934592) (h1 / 35184372088832))
  generalize bits .and .i64 (bits .xor .i64 (h1 / 8589934592) (h1 / 35184372088832)) 255 = r at hr ⊢
  have d0 : (w1.drewN nq).cell? ⟨p, 0, none⟩ = some (Value.slice A n c) := c0
  have d1 : (w1.drewN nq).cell? ⟨p, 1, none⟩ = some (Value.int IntKind.i64 i) := c1
  have d2 : (w1.drewN nq).frozen? ⟨p, 1, none⟩ = false := f1
  have b2 : Blk (w1.drewN nq) p 81 #[Value.slice A n c, Value.int IntKind.i64 i, Value.int IntKind.i64 h1] := HB.out
  have x2 : Rd (w1.drewN nq) 1 A n (xs.flatMap benc) := HX.out
  have g2 := grown_drew HG.out nq
  clear c0 c1 c2 f1 HB HX HG
  generalize w1.drewN nq = w2 at d0 d1 d2 b2 x2 g2 ⊢
  have HB := Lib.hid b2
  have HX := Lib.hid x2
  have HG := Lib.hid g2
  clear b2 x2 g2
  by_cases hin : i < (n : Int)
  · obtain ⟨b, off, x, rfl, hbs, hxk, hcell⟩ := benc_at HX.out (k := i.toNat) (by omega)
    have hin' : i < ((n : Nat) : Int) := hin
    have hx := hxs x (List.mem_of_getElem? hxk)
    have hq : wrap64 (r + x) = r + x := by unfold wrap64; omega
    have hw : wrap64 (i + 1) = i + 1 := by unfold wrap64; omega
    go_quiet (fail)
    go_wp2_with fail
    have e0 : (w2.drewN nq).cell? ⟨p, 0, none⟩ = some (Value.slice (some ⟨b, off, none⟩) n c) := d0
    have e1 : (w2.drewN nq).cell? ⟨p, 1, none⟩ = some (Value.int IntKind.i64 i) := d1
    have e2 : (w2.drewN nq).frozen? ⟨p, 1, none⟩ = false := d2
    have e3 : (w2.drewN nq).cell? ⟨b, off + i.toNat, none⟩ = some (.int .u8 x) := hcell
    have b3 : Blk (w2.drewN nq) p 81 #[Value.slice (some ⟨b, off, none⟩) n c, Value.int IntKind.i64 i, Value.int IntKind.i64 h1] := HB.out
    have x3 : Rd (w2.drewN nq) 1 (some ⟨b, off, none⟩) n (xs.flatMap benc) := HX.out
    have g3 := grown_drew HG.out nq
    clear d0 d1 d2 hcell HB HX HG
    generalize w2.drewN nq = w3 at e0 e1 e2 e3 b3 x3 g3 ⊢
    have HB := Lib.hid b3
    have HX := Lib.hid x3
    have HG := Lib.hid g3
    clear b3 x3 g3
    go_quiet (fail)
    go_wp2_with fail
    have hr2 := and255 (r + x)
    have hb4 := HB.out.set 1 (.int .i64 (i + 1))
    have hx4 := rd_set (o := 1) HX.out hAp (.int .i64 (i + 1))
    have hg4 := grown_set (grown_drew HG.out nq) 1 (.int .i64 (i + 1))
    simp only [List.setIfInBounds_toArray, List.set_cons_succ, List.set_cons_zero] at hb4
    go_ret
    exact drawn_end hr2.1 hr2.2 ⟨_, n, c, xs, i + 1, h1, hb4, hx4, hn, by omega, by omega, hxs, hAp⟩ hg4
  · go_quiet (fail)
    go_wp2_with fail
    go_ret
    exact drawn_end hr.1 hr.2 ⟨A, n, c, xs, i, h1, HB.out, HX.out, hn, hi0, hi1, hxs, hAp⟩ (grown_drew HG.out _)
/-- A number has been drawn that lies below n, or is 0. -/
def DrawnBelow (n : Int) (w : World) (p : Nat) (e : Ending) (w' : World) : Prop := ∃ r : Int, e = .returned (.int .i64 r) ∧ 0 ≤ r ∧ (r < n ∨ r = 0) ∧ Cur w' p ∧ w.grownBy w' (some p)
set_option maxRecDepth 100000 in
set_option maxHeartbeats 1000000 in
theorem spec_l01Below (p : Nat) (n : Int) (w : World) (hc : Cur w p) :
    Calls Tryd.prog 30 #[.pointer (some ⟨p, 0, none⟩), .int .i64 n] w (DrawnBelow n w p) := by
  have hg := grown_refl w (some p)
  by_cases h0 : n ≤ 0
  · go_enter Tryd.func30, Tryd.ntmps30
    go_wp2_with fail
    go_ret
    exact ⟨0, rfl, by omega, .inr rfl, hc, grown_refl _ _⟩
  · by_cases h1 : n ≤ 256
    · go_enter Tryd.func30, Tryd.ntmps30
      go_wp2_with (go_at_call 46; refine (spec_l01Byte p _ (by assumption)).mono ?_; rintro e w1 ⟨r, rfl, hr0, hr1, hc1, hg1⟩; replace hg := grown_trans hg hg1; clear hg1)
      go_ret
      exact ⟨_, rfl, Int.emod_nonneg _ (by omega), .inl (Int.emod_lt_of_pos _ (by omega)), hc1, hg⟩
    · go_enter Tryd.func30, Tryd.ntmps30
      go_wp2_with (go_at_call 46; refine (spec_l01Byte p _ (by assumption)).mono ?_; rintro e w1 ⟨r, rfl, hr0, hr1, hc1, hg1⟩; replace hg := grown_trans hg hg1; clear hg1)
      go_ret
      exact ⟨_, rfl, Int.emod_nonneg _ (by omega), .inl (Int.emod_lt_of_pos _ (by omega)), hc1, hg⟩
theorem heap_size_setCell (w : World) (a : Addr) (u : Value) : (w.setCell a u).heap.size = w.heap.size := by simp [World.setCell]
theorem heap_size_alloc (w : World) (o : Obj) : (w.alloc o).heap.size = w.heap.size + 1 := by simp
theorem heap_size_drew (w : World) : w.drew.heap.size = w.heap.size := rfl
theorem heap_size_drewN (w : World) (n : Nat) : (w.drewN n).heap.size = w.heap.size := rfl
theorem Cur.lt {w : World} {p : Nat} (h : Cur w p) : p < w.heap.size := by
  obtain ⟨_, _, _, _, _, _, hb, _⟩ := h
  exact hb.lt
theorem cur_ext {w w' : World} {p : Nat} (h : Cur w p) (e : Ext w w') : Cur w' p := by
  obtain ⟨A, n, c, xs, i, h, hb, hx, r⟩ := h
  exact ⟨A, n, c, xs, i, h, hb.keep e, hx.keep e, r⟩
theorem cur_alloc {w : World} {p : Nat} (h : Cur w p) (o : Obj) : Cur (w.alloc o) p := cur_ext h ((Ext.refl w).alloc o)
theorem cur_drew {w : World} {p : Nat} (h : Cur w p) : Cur w.drew p := h
theorem cur_drewN {w : World} {p : Nat} (h : Cur w p) (n : Nat) : Cur (w.drewN n) p := h
theorem cur_grown {w w' : World} {p : Nat} {row : Option Nat} (h : Cur w p) (g : w.grownBy w' row) (hr : ∀ k, row = some k → p < k) : Cur w' p := by
  obtain ⟨A, n, c, xs, i, h, hb, hx, hn, h0, h1, h2, hA⟩ := h
  refine ⟨A, n, c, xs, i, h, (g.block p hb.lt (fun e => ?_)).trans hb, ⟨hx.1, hx.2.1, fun hn0 => ?_⟩, hn, h0, h1, h2, hA⟩
  · exact absurd (hr p e.symm) (by omega)
  · obtain ⟨b, off, rfl, hbs, hc⟩ := hx.2.2 hn0
    have hbp := hA hn0 b off rfl
    refine ⟨b, off, rfl, Nat.lt_of_lt_of_le hbs g.size, fun j u' hu => ?_⟩
    have e : w'.heap[b]? = w.heap[b]? := g.block b hbs (fun e => absurd (hr b e.symm) (by omega))
    rw [← hc j u' hu]
    simp only [World.cell?, e]
theorem cur_far {w : World} {p q : Nat} (h : Cur w p) (hq : p < q) {o : Nat} (u : Value) : Cur (w.setCell ⟨q, o, none⟩ u) p :=
  cur_grown h (grown_set (grown_refl w (some q)) o u) (fun k hk => by injection hk with hk; omega)
theorem grown_alloc {a w : World} {row : Option Nat} (h : a.grownBy w row) (o : Obj) : a.grownBy (w.alloc o) row :=
  ⟨h.os, h.tape, h.output, Nat.le_trans h.size (by rw [heap_size_alloc]; omega), fun i hi hn => (Below.block (((Ext.refl w).alloc o).below) i (Nat.lt_of_lt_of_le hi h.size)).trans (h.block i hi hn)⟩
theorem grown_fresh {a w : World} {row : Option Nat} (h : a.grownBy w row) {q o : Nat} (hq : a.heap.size ≤ q) (u : Value) : a.grownBy (w.setCell ⟨q, o, none⟩ u) row :=
  ⟨h.os, h.tape, h.output, by rw [heap_size_setCell]; exact h.size, fun i hi hn => (Below.heap_setCell w _ u i (fun e => by dsimp only at e; omega)).trans (h.block i hi hn)⟩
theorem grown_extD {a w w' : World} {row : Option Nat} (h : a.grownBy w row) (e : Ext w w') : a.grownBy w' row :=
  grown_trans h ⟨e.os, e.tape, e.output, e.size, fun i hi _ => e.block i hi⟩
theorem grown_cell {w w' : World} {p : Nat} (g : w.grownBy w' (some p)) (b : Nat) (hp : b ≠ p) (hb : b < w.heap.size) (o : Nat) : w'.cell? ⟨b, o, none⟩ = w.cell? ⟨b, o, none⟩ := by
  have e : w'.heap[b]? = w.heap[b]? := g.block b hb (fun e => hp (Option.some.inj e))
  simp only [World.cell?, e]
theorem grown_frozen {w w' : World} {p : Nat} (g : w.grownBy w' (some p)) (b : Nat) (hp : b ≠ p) (hb : b < w.heap.size) (o : Nat) : w'.frozen? ⟨b, o, none⟩ = w.frozen? ⟨b, o, none⟩ := by
  have e : w'.heap[b]? = w.heap[b]? := g.block b hb (fun e => hp (Option.some.inj e))
  simp only [World.frozen?, e]
theorem own_grown {w w' : World} {base p : Nat} {e : TypeId} {m n : Nat} {v : Value} {L : List Value} (h : w.ownsRow base e m v n L) (hp : p < base) (g : w.grownBy w' (some p)) : w'.ownsRow base e m v n L := by
  refine h.kept g ?_
  cases hv : v.ownBlock with
  | none => exact .inl rfl
  | some q =>
    refine .inr fun e => ?_
    have := (h.lt q hv).1
    injection e with e
    omega
theorem grown_over {a w w' : World} {r0 row : Option Nat} (h : a.grownBy w r0) (g : w.grownBy w' row) (hr : ∀ k, row = some k → a.heap.size ≤ k) : a.grownBy w' r0 :=
  ⟨g.os.trans h.os, g.tape.trans h.tape, g.output.trans h.output, Nat.le_trans h.size g.size, fun i hi hn => (g.block i (Nat.lt_of_lt_of_le hi h.size) (fun e => absurd (hr i e.symm) (by omega))).trans (h.block i hi hn)⟩
theorem append1g {P : Program} {ops : Array Oper} {rest : List Oper} {o : Oper} {a : Act} {Q : Exit → Act → World → Prop} {t e : TypeId} {m : Nat} (hE : EI P t e m) (hgd : o.guard = none) (s x : Operand)
    (ho : o.op = .call { callee := .builtin .append, args := #[s, x], argTypes := #[t, t] }) (base : Nat) (W : World) (T : TypeId) (v : Value) (n : Nat) (xs : List Value) (hs : a.eval s = v) (hown : W.ownsRow base e m v n xs)
    (news : List Value) (hx : a.eval x = .slice (some ⟨W.heap.size, 0, none⟩) 1 1) (hl : news.length = m) (h1 : ∀ u ∈ news, u.oneCell' = true) (hn : n ≤ 1073741824) (hbase : base ≤ W.heap.size)
    (h : ∀ v' w1 row, w1.ownsRow base e m v' (n + 1) (xs ++ news) → W.grownBy w1 row → (∀ k, row = some k → base ≤ k) → wpList P ops Q rest (a.put o.dst v') w1) : wpList P ops Q (o :: rest) a (W.alloc (.cells news.toArray T)) := by
  obtain ⟨i, z, hu, hi, hz, hsz, hby, hzs, h0⟩ := hE
  refine wpList_append_own _ hgd s x t ho base e i z m i.bytes hu hi hz hsz rfl hzs h0 v n xs hs (hown.alloc _) ⟨W.heap.size, 0, none⟩ 1 1 news hx (by omega) ?_ h1 (by unfold maxLen; omega) ?_ (by simp; omega) ?_
  · intro j u hu'
    rw [add_none, Nat.zero_add, World.cell?_alloc_new]
    simpa using hu'
  · have := Nat.mul_le_mul_left (n + 1) hby
    omega
  · intro v' w1 ho' hg _
    exact h v' w1 _ ho' (grown_trans (grown_alloc (grown_refl W _) _) hg) (fun k hk => (hown.lt k hk).1)
theorem new_cur {A : Option Addr} {n c : Nat} {xs : List Int} {w wr : World} (hx : Rd w 1 A n (xs.flatMap benc)) (hxs : ∀ x ∈ xs, 0 ≤ x ∧ x ≤ 255) (hn1 : n ≤ 1048576) (hb : Ext w wr) (z : Int) :
    ∃ p, Ending.returned (.pointer (some ⟨wr.heap.size, 0, none⟩)) = Ending.returned (.pointer (some ⟨p, 0, none⟩)) ∧ w.heap.size ≤ p ∧
      Cur (wr.alloc (.cells #[.slice A n c, .int .i64 0, .int .i64 z] 81)) p ∧ Ext w (wr.alloc (.cells #[.slice A n c, .int .i64 0, .int .i64 z] 81)) := by
  have e : Ext w (wr.alloc (.cells #[.slice A n c, .int .i64 0, .int .i64 z] 81)) := Ext.alloc hb _
  refine ⟨_, rfl, hb.size, ⟨A, n, c, xs, 0, z, Blk.new _ _ _, hx.keep e, hn1, by omega, by omega, hxs, fun h0 b off hA => ?_⟩, e⟩
  obtain ⟨b', off', hA', hb', _⟩ := hx.2.2 h0
  rw [hA] at hA'
  injection hA' with h1
  injection h1 with h1
  subst h1
  exact Nat.lt_of_lt_of_le hb' hb.size
set_option maxRecDepth 100000 in
set_option maxHeartbeats 1000000 in
theorem spec_l01New (A : Option Addr) (n c : Nat) (xs : List Int) (w : World) (hx : Rd w 1 A n (xs.flatMap benc)) (hxs : ∀ x ∈ xs, 0 ≤ x ∧ x ≤ 255) (hn1 : n ≤ 1048576) :
    Calls Tryd.prog 20 #[.slice A n c] w fun e w' => ∃ p, e = .returned (.pointer (some ⟨p, 0, none⟩)) ∧ w.heap.size ≤ p ∧ Cur w' p ∧ Ext w w' := by
  have hn := hx.2.1
  go_enter Tryd.func20, Tryd.ntmps20
  go_wp2_with fail
  go_loopw [3, 4] (fun o i wr => ∃ (k : Nat) (z : Int), k ≤ n ∧ i = .int .i64 k ∧ o = .int .i64 z ∧ Ext w wr) (fun _ i _ => n - (intOf i).toNat)
  case atStart => exact ⟨0, _, Nat.zero_le _, rfl, rfl, Ext.refl _⟩
  case round =>
    obtain ⟨k, z, hk, rfl, rfl, hb⟩ := hrel
    by_cases hlt : k < n
    · by_cases h4 : (k : Int) < 4000
      · obtain ⟨b, off, x, rfl, hbs, hxk, h0⟩ := benc_at (hx.keep hb) hlt
        have HB := Lib.hid hb
        have hbd := hxs x (List.mem_of_getElem? hxk)
        clear hxk hb
        go_wp2_with fail
        go_roundw
        case rel => exact ⟨k + 1, _, by omega, by go_num, rfl, HB.out⟩
        case measure => simp [intOf]; omega
      · go_wp2_with fail
        go_ret
        exact new_cur hx hxs hn1 hb z
    · go_wp2_with fail
      go_ret
      exact new_cur hx hxs hn1 hb z
end Go.Proofs.YtfhibjehnoibeaaDoor
/- Regions walked once whose calls make memory, rows of ints that are written over; no condition but what stands at each theorem. -/
namespace Go.Proofs.YtfhibjehnoibeaaDoor
set_option linter.unusedSimpArgs false
set_option linter.unusedVariables false
open Go.RowKit Go.Sort
theorem wp_region_ext {P : Program} {id : Nat} {Q : Exit → Act → World → Prop} {a : Act} {w : World} {l : List Oper} (hm : P.follows .mixedOrders = true) (hB : Region.lexB .any l.toArray = true)
    (h : wpQuiet P l.toArray (fun w' => ∃ p : Regrown, w' = grow (redrawn w p.d) p.os) (fun a' => ∀ w', Ext w w' → Q .normal a' w') l a) : (Code.region id l.toArray true).wp P Q a w :=
  wp_region_quiet (C := fun w' => ∃ p : Regrown, w' = grow (redrawn w p.d) p.os) hm hB ⟨⟨w.drawn + 1, #[]⟩, by rw [grow_empty]; rfl⟩ (by
    have hq : (fun a' => ∀ w', Ext w w' → Q .normal a' w') = (fun a' => ∀ w', (∃ p : Regrown, w' = grow (redrawn w p.d) p.os) → Q .normal a' w') := by
      funext a'
      exact propext ⟨fun h w' ⟨p, hp⟩ => h w' (hp ▸ below_regrown w p.d p.os), fun h w' hw => h w' (regrown_of_below hw)⟩
    rw [hq] at h
    exact h)
theorem ext_rg (w : World) (d : Nat) (os : Array Obj) : Ext w (grow (redrawn w d) os) := below_regrown w d os
theorem Calls.rg {P : Program} {f : FuncId} {args : Array Value} {w : World} {d : Nat} {os : Array Obj} {v : Value}
    (h : Calls P f args (grow (redrawn w d) os) fun e w' => e = .returned v ∧ Ext (grow (redrawn w d) os) w') : Calls P f args (grow (redrawn w d) os) fun e w'' => e = .returned v ∧ ∃ p : Regrown, w'' = grow (redrawn w p.d) p.os :=
  h.mono fun _ _ ⟨he, hb⟩ => ⟨he, regrown_of_below (Ext.trans (below_regrown w d os) hb)⟩
theorem Calls.rg0 {P : Program} {f : FuncId} {args : Array Value} {w : World} {d : Nat} {os : Array Obj} {v : Value}
    (h : Calls P f args (grow (redrawn w d) os) fun e w' => e = .returned v ∧ grow (redrawn w d) os = w') : Calls P f args (grow (redrawn w d) os) fun e w'' => e = .returned v ∧ ∃ p : Regrown, w'' = grow (redrawn w p.d) p.os :=
  h.mono fun _ _ ⟨he, hb⟩ => ⟨he, ⟨d, os⟩, hb.symm⟩
/-- Block g is the ints u, of element type t. -/
def IBlk (w : World) (g : Nat) (t : TypeId) (u : List Int) : Prop := Blk w g t (u.map (Value.int .i64)).toArray
theorem ienc_map (u : List Int) : u.flatMap ienc = u.map (Value.int .i64) := by
  induction u with
  | nil => rfl
  | cons x u ih => rw [List.flatMap_cons, ih]; rfl
section
variable {w w' : World} {g : Nat} {t : TypeId} {u : List Int}
theorem IBlk.lt (h : IBlk w g t u) : g < w.heap.size := Blk.lt h
theorem IBlk.cell (h : IBlk w g t u) {i : Nat} (hi : i < u.length) : w.cell? ⟨g, i, none⟩ = some (.int .i64 (u.getD i 0)) := by
  have := Blk.cell h i
  rw [this]; simp [hi]
theorem IBlk.free (h : IBlk w g t u) (i : Nat) : w.frozen? ⟨g, i, none⟩ = false := Blk.free h i
theorem IBlk.keep (h : IBlk w g t u) (e : Ext w w') : IBlk w' g t u := Blk.keep h e
theorem IBlk.set (h : IBlk w g t u) (i : Nat) (x : Int) : IBlk (w.setCell ⟨g, i, none⟩ (.int .i64 x)) g t (u.set i x) := by
  have h1 := Blk.set h i (.int .i64 x)
  unfold IBlk
  have e : ((u.set i x).map (Value.int .i64)).toArray = ((u.map (Value.int .i64)).toArray).setIfInBounds i (.int .i64 x) := by
    simp [List.map_set]
  rw [e]; exact h1
theorem IBlk.own (h : IBlk w g t u) {base : Nat} (hb : base ≤ g) (hn : u.length ≤ maxLen) : w.ownsRow base t 1 (.slice (some ⟨g, 0, none⟩) u.length u.length) u.length (u.flatMap ienc) := by
  refine own_of_blk hb h (by simp) hn ?_
  rw [List.take_of_length_le (by simp), ienc_map]
theorem IBlk.rd (h : IBlk w g t u) (hn : u.length ≤ 9223372036854775807) : Rd w 1 (some ⟨g, 0, none⟩) u.length (u.flatMap ienc) := by
  refine ⟨by rw [flat_len ienc 1 ienc_len], hn, fun _ => ⟨g, 0, rfl, h.lt, fun j v hv => ?_⟩⟩
  rw [ienc_map] at hv
  rw [Nat.zero_add, Blk.cell h j]
  simpa using hv
end
theorem made_ints (n : Nat) : madeCells (Value.int .i64 0).cells (n * 1) = ((List.replicate n (0 : Int)).map (Value.int .i64)).toArray := by
  apply Array.ext_getElem?
  intro i
  simp only [madeCells, Value.cells, Nat.mul_one, List.map_replicate]
  by_cases h : i < n
  · simp [h, Nat.mod_one]
  · simp [h]
theorem drop_cons {α : Type} {xs : List α} {k : Nat} {x : α} (h : xs[k]? = some x) : xs.drop k = x :: xs.drop (k + 1) := by
  have hk : k < xs.length := (List.getElem?_eq_some_iff.1 h).1
  have hx : xs[k] = x := (List.getElem?_eq_some_iff.1 h).2
  rw [List.drop_eq_getElem_cons hk, hx]
theorem drop_nil {α : Type} {xs : List α} {k : Nat} (h : xs.length ≤ k) : xs.drop k = [] := List.drop_eq_nil_of_le h
end Go.Proofs.YtfhibjehnoibeaaDoor
/- Appending whole rows; worlds that were written over and back; no condition but what stands at each theorem. -/
namespace Go.Proofs.YtfhibjehnoibeaaDoor
set_option linter.unusedSimpArgs false
set_option linter.unusedVariables false
open Go.RowKit
theorem Rd.none_len {w : World} {m n : Nat} {A : Option Addr} {xs : List Value} (h : Rd w m A n xs) (hA : A = none) : n = 0 := by
  by_cases hn : 0 < n
  · obtain ⟨b, off, hb, _⟩ := h.2.2 hn
    rw [hA] at hb; cases hb
  · omega
theorem Rd.cells {w : World} {m n : Nat} {A : Option Addr} {xs : List Value} (h : Rd w m A n xs) (ad : Addr) (hA : A = some ad) : ∀ j u, xs[j]? = some u → w.cell? (ad.add j) = some u := by
  intro j u hu
  by_cases hn : 0 < n
  · obtain ⟨b, off, hb, _, hc⟩ := h.2.2 hn
    rw [hA] at hb
    injection hb with hb
    subst hb
    rw [add_none]
    exact hc j u hu
  · have h0 : xs.length = 0 := by rw [h.1]; have : n = 0 := by omega
                                  rw [this]; simp
    rw [List.eq_nil_of_length_eq_zero h0] at hu
    simp at hu
theorem one_ienc (xs : List Int) : ∀ u ∈ xs.flatMap ienc, u.oneCell' = true := by
  intro u hu
  rw [ienc_map] at hu
  obtain ⟨x, _, rfl⟩ := List.mem_map.1 hu
  rfl
theorem own_nilcap {w : World} {base : Nat} {e : TypeId} {m n c : Nat} {A : Option Addr} {L : List Value} (h : w.ownsRow base e m (.slice A n c) n L) : A = none → c = 0 := by
  intro hA
  rcases own_block h with ⟨_, _, h⟩ | ⟨g, cur, hg, _⟩
  · exact h
  · rw [hA] at hg; cases hg
/-- append of a whole row to one of the call's own. -/
theorem appendRd {P : Program} {ops : Array Oper} {rest : List Oper} {o : Oper} {a : Act} {Q : Exit → Act → World → Prop} {t e : TypeId} {m : Nat} (hE : EI P t e m) (hgd : o.guard = none) (s x : Operand)
    (ho : o.op = .call { callee := .builtin .append, args := #[s, x], argTypes := #[t, t] }) (base : Nat) (W : World) (v : Value) (n : Nat) (xs : List Value) (hs : a.eval s = v) (hown : W.ownsRow base e m v n xs)
    (A : Option Addr) (k c : Nat) (ys : List Value) (hx : a.eval x = .slice A k c) (hr : Rd W m A k ys) (hA : A = none → c = 0) (h1 : ∀ u ∈ ys, u.oneCell' = true) (hn : n + k ≤ 1073741824) (hbase : base ≤ W.heap.size)
    (h : ∀ v' w1, w1.ownsRow base e m v' (n + k) (xs ++ ys) → (∀ b, Ext b W → b.heap.size ≤ base → Ext b w1) → wpList P ops Q rest (a.put o.dst v') w1) : wpList P ops Q (o :: rest) a W := by
  obtain ⟨i, z, hu, hi, hz, hsz, hby, hzs, h0⟩ := hE
  cases A with
  | none =>
    have hk := hr.none_len rfl
    subst hk
    have hc := hA rfl
    subst hc
    have hys : ys = [] := List.eq_nil_of_length_eq_zero (by rw [hr.1]; simp)
    subst hys
    refine wpList_append_own_none hgd s x t ho base e i m hu hi v n xs hs hown hx ?_
    refine h v W ?_ (fun b hb _ => hb)
    rw [List.append_nil]
    exact hown
  | some ad =>
    refine wpList_append_own _ hgd s x t ho base e i z m i.bytes hu hi hz hsz rfl hzs h0 v n xs hs hown ad k c ys hx hr.1 (hr.cells ad rfl) h1 (by unfold maxLen; omega) ?_ hbase ?_
    · have := Nat.mul_le_mul_left (n + k) hby
      omega
    · intro v' w1 ho' hg _
      refine h v' w1 ho' (fun b hb hbb => hb.grown hg (fun q hq => Nat.le_trans hbb (hown.lt q hq).1))
/-- append of one element to a row that came in, at its capacity: a new row is made. -/
theorem appendCap {P : Program} {ops : Array Oper} {rest : List Oper} {o : Oper} {a : Act} {Q : Exit → Act → World → Prop} {t e : TypeId} {m : Nat} (hE : EI P t e m) (hgd : o.guard = none) (s x : Operand)
    (ho : o.op = .call { callee := .builtin .append, args := #[s, x], argTypes := #[t, t] }) (W : World) (T : TypeId) (A : Option Addr) (n : Nat) (xs : List Value) (hs : a.eval s = .slice A n n) (hr : Rd W m A n xs)
    (news : List Value) (hx : a.eval x = .slice (some ⟨W.heap.size, 0, none⟩) 1 1) (hl : news.length = m) (h1 : ∀ u ∈ news, u.oneCell' = true) (hn : n ≤ 1073741824)
    (h : ∀ v' w1, w1.ownsRow W.heap.size e m v' (n + 1) (xs ++ news) → Ext W w1 → wpList P ops Q rest (a.put o.dst v') w1) : wpList P ops Q (o :: rest) a (W.alloc (.cells news.toArray T)) := by
  obtain ⟨i, z, hu, hi, hz, hsz, hby, hzs, h0⟩ := hE
  refine wpList_append_grows _ hgd s x t ho e i z m i.bytes hu hi hz hsz rfl hzs h0 A n n xs hs (fun hA => ⟨hr.none_len hA, hr.none_len hA⟩) hr.1 ?_ ⟨W.heap.size, 0, none⟩ 1 1 news hx (by omega) ?_ h1 (by omega) (by unfold maxLen; omega) ?_ ?_
  · intro b hb j u hu'
    exact (hr.alloc _).cells b hb j u hu'
  · intro j u hu'
    rw [add_none, Nat.zero_add, World.cell?_alloc_new]
    simpa using hu'
  · have := Nat.mul_le_mul_left (n + 1) hby
    omega
  · intro v' w1 ho' hg
    refine h v' w1 (own_weak ho' (by simp)) (((Ext.refl W).alloc _).grown hg (fun k hk => by cases hk))
/-- s[:n:n], n its length. -/
theorem run_cut3 {P : Program} {t e : TypeId} {m s : Nat} (hu : P.underlying t = some (.slice e)) (hs : ∀ w : World, (sizeOf e).run P w = .ok s w) {w0 : World} {A : Option Addr} {n c : Nat} {xs : List Value} (hr : Rd w0 m A n xs) (hc : n ≤ c) (w : World) :
    (Instr.slice t (.slice A n c) none (some (.int .i64 (n : Int))) (some (.int .i64 (n : Int)))).run P w = .ok (.slice A n n) w := by
  have h1 : ∀ (code : BoundsCode) (y : Nat), n ≤ y → (Instr.sliceBound (.int .i64 (n : Int)) y code).run P w = .ok n w := by
    intro code y hy
    rw [run_sliceBound _ .i64 (n : Int) y code (by omega) (by omega)]
    simp
  simp only [Instr.slice, Sem.run_bind, run_underlying hu, Result.andThen, Instr.sliceBounds, h1 _ _ hc, h1 _ _ (Nat.le_refl n), hs, Sem.run_pure]
  by_cases hn : n = 0
  · subst hn; simp
  · obtain ⟨b, off, rfl, _⟩ := hr.2.2 (by omega)
    simp [hn, add_none]
/-- Written over and back. -/
theorem ext_back {w w3 : World} {g k : Nat} {t : TypeId} {cs : Array Value} {x y : Value} (h : Blk w g t cs) (e : Ext (w.setCell ⟨g, k, none⟩ x) w3) (hy : cs[k]? = some y) : Ext w (w3.setCell ⟨g, k, none⟩ y) := by
  have hb3 : w3.heap[g]? = some (.cells (cs.setIfInBounds k x) t (0, 0)) := (h.set k x).keep e
  refine ⟨?_, ?_, ?_, ?_, ?_⟩
  · have := e.os; simpa [World.setCell] using this
  · have := e.tape; simpa [World.setCell] using this
  · have := e.output; simpa [World.setCell] using this
  · have := e.size; simpa [World.setCell] using this
  · intro b hb
    by_cases hbg : b = g
    · subst hbg
      have h1 : (w3.setCell ⟨b, k, none⟩ y).heap[b]? = some (.cells ((cs.setIfInBounds k x).setIfInBounds k y) t (0, 0)) := by
        simp [World.setCell, Array.getElem?_modify, hb3]
      rw [h1]
      have h2 : (cs.setIfInBounds k x).setIfInBounds k y = cs := by
        apply Array.ext_getElem?
        intro i
        have hk : k < cs.size := (Array.getElem?_eq_some_iff.1 hy).1
        by_cases hik : k = i
        · subst hik; simp [hk]; exact (Array.getElem?_eq_some_iff.1 hy).2.symm
        · simp [Array.getElem?_setIfInBounds, hik]
      rw [h2]
      exact h.symm
    · rw [Below.heap_setCell w3 _ y b hbg]
      have h1 := e.block b (by simpa [World.setCell] using hb)
      rw [h1]
      exact Below.heap_setCell w _ x b hbg
theorem own_far {w : World} {base g k : Nat} {e : TypeId} {m n : Nat} {v : Value} {L : List Value} (h : w.ownsRow base e m v n L) (hg : g < base) (x : Value) : (w.setCell ⟨g, k, none⟩ x).ownsRow base e m v n L := by
  refine h.kept (grown_set (grown_refl w (some g)) k x) ?_
  cases hv : v.ownBlock with
  | none => exact .inl rfl
  | some q =>
    refine .inr fun e => ?_
    have := (h.lt q hv).1
    injection e with e
    omega
/-- Block g begins with the ints u, of element type t. -/
def PBlk (w : World) (g : Nat) (t : TypeId) (u : List Int) : Prop := ∃ cur : Array Value, Blk w g t cur ∧ u.length ≤ cur.size ∧ ∀ i, i < u.length → cur[i]? = some (.int .i64 (u.getD i 0))
theorem PBlk.lt {w : World} {g : Nat} {t : TypeId} {u : List Int} (h : PBlk w g t u) : g < w.heap.size := by obtain ⟨cur, h, _⟩ := h; exact h.lt
theorem PBlk.cell {w : World} {g : Nat} {t : TypeId} {u : List Int} (h : PBlk w g t u) {i : Nat} (hi : i < u.length) : w.cell? ⟨g, i, none⟩ = some (.int .i64 (u.getD i 0)) := by
  obtain ⟨cur, h, _, h2⟩ := h
  rw [h.cell]; exact h2 i hi
theorem PBlk.free {w : World} {g : Nat} {t : TypeId} {u : List Int} (h : PBlk w g t u) (i : Nat) : w.frozen? ⟨g, i, none⟩ = false := by obtain ⟨cur, h, _⟩ := h; exact h.free i
theorem PBlk.keep {w w' : World} {g : Nat} {t : TypeId} {u : List Int} (h : PBlk w g t u) (e : Ext w w') : PBlk w' g t u := by obtain ⟨cur, h, r⟩ := h; exact ⟨cur, h.keep e, r⟩
theorem PBlk.set {w : World} {g : Nat} {t : TypeId} {u : List Int} (h : PBlk w g t u) (i : Nat) (x : Int) : PBlk (w.setCell ⟨g, i, none⟩ (.int .i64 x)) g t (u.set i x) := by
  obtain ⟨cur, h, h1, h2⟩ := h
  refine ⟨_, h.set i _, by simpa using h1, fun j hj => ?_⟩
  simp only [List.length_set] at hj
  by_cases hij : i = j
  · subst hij
    have : i < cur.size := by omega
    simp [this, hj]
  · rw [Array.getElem?_setIfInBounds, if_neg hij, h2 j hj]
    simp [hij]
theorem PBlk.back {w w3 : World} {g : Nat} {t : TypeId} {u : List Int} (h : PBlk w g t u) {k : Nat} (hk : k < u.length) {x : Value} (e : Ext (w.setCell ⟨g, k, none⟩ x) w3) : Ext w (w3.setCell ⟨g, k, none⟩ (.int .i64 (u.getD k 0))) := by
  obtain ⟨cur, h, h1, h2⟩ := h
  exact ext_back h e (h2 k hk)
theorem PBlk.rd {w : World} {g : Nat} {t : TypeId} {u : List Int} (h : PBlk w g t u) (hn : u.length ≤ 9223372036854775807) : Rd w 1 (some ⟨g, 0, none⟩) u.length (u.flatMap ienc) := by
  refine ⟨by rw [flat_len ienc 1 ienc_len], hn, fun _ => ⟨g, 0, rfl, h.lt, fun j v hv => ?_⟩⟩
  rw [ienc_map] at hv
  have hj : j < u.length := by have := (List.getElem?_eq_some_iff.1 hv).1; simpa using this
  rw [Nat.zero_add, h.cell hj, ← hv]
  simp [hj]
theorem PBlk.of_own {w : World} {base : Nat} {t : TypeId} {n c : Nat} {A : Option Addr} {u : List Int} (h : w.ownsRow base t 1 (.slice A n c) n (u.flatMap ienc)) (hn : 1 ≤ n) : ∃ g, A = some ⟨g, 0, none⟩ ∧ base ≤ g ∧ PBlk w g t u := by
  have hl : u.length = n := by have := h.1; rw [ienc_map, List.length_map] at this; omega
  rcases own_block h with ⟨_, h0, _⟩ | ⟨g, cur, hA, hbg, hb, hnc, _, hcs, ht⟩
  · omega
  · refine ⟨g, hA, hbg, cur, hb, by omega, fun i hi => ?_⟩
    have : (cur.toList.take (n * 1))[i]? = (u.flatMap ienc)[i]? := by rw [ht]
    rw [List.getElem?_take, if_pos (by omega), ienc_map] at this
    rw [← Array.getElem?_toList, this]
    simp [hi]
/-- What a row of another block holds stays behind a store. -/
theorem Rd.far {w : World} {m n : Nat} {A : Option Addr} {xs : List Value} (h : Rd w m A n xs) (p : Addr) (u : Value) (hp : 0 < n → ∀ b off, A = some ⟨b, off, none⟩ → b ≠ p.block) : Rd (w.setCell p u) m A n xs := by
  refine ⟨h.1, h.2.1, fun hn => ?_⟩
  obtain ⟨b, off, rfl, hb, hc⟩ := h.2.2 hn
  refine ⟨b, off, rfl, by simpa [World.setCell] using hb, fun j v hv => ?_⟩
  rw [World.cell?_setCell_other w p _ u (fun e => hp hn b off rfl (by rw [e]))]
  exact hc j v hv
end Go.Proofs.YtfhibjehnoibeaaDoor
/- Appending whole rows, and that nil does not come of it; no condition but what stands at each theorem. -/
namespace Go.Proofs.YtfhibjehnoibeaaDoor
set_option linter.unusedSimpArgs false
set_option linter.unusedVariables false
open Go.RowKit
theorem appendRdN {P : Program} {ops : Array Oper} {rest : List Oper} {o : Oper} {a : Act} {Q : Exit → Act → World → Prop} {t e : TypeId} {m : Nat} (hE : EI P t e m) (hgd : o.guard = none) (s x : Operand)
    (ho : o.op = .call { callee := .builtin .append, args := #[s, x], argTypes := #[t, t] }) (base : Nat) (W : World) (v : Value) (n : Nat) (xs : List Value) (hs : a.eval s = v) (hown : W.ownsRow base e m v n xs)
    (A : Option Addr) (k c : Nat) (ys : List Value) (hx : a.eval x = .slice A k c) (hr : Rd W m A k ys) (hA : A = none → c = 0) (h1 : ∀ u ∈ ys, u.oneCell' = true) (hn : n + k ≤ 1073741824) (hbase : base ≤ W.heap.size) (hv : v ≠ .slice none 0 0)
    (h : ∀ (g c' : Nat) w1, w1.ownsRow base e m (.slice (some ⟨g, 0, none⟩) (n + k) c') (n + k) (xs ++ ys) → (∀ b, Ext b W → b.heap.size ≤ base → Ext b w1) → wpList P ops Q rest (a.put o.dst (.slice (some ⟨g, 0, none⟩) (n + k) c')) w1) : wpList P ops Q (o :: rest) a W := by
  have key : ∀ v' w1, w1.ownsRow base e m v' (n + k) (xs ++ ys) → (∀ b, Ext b W → b.heap.size ≤ base → Ext b w1) → v' ≠ .slice none 0 0 → wpList P ops Q rest (a.put o.dst v') w1 := by
    intro v' w1 ho' he hne
    obtain ⟨A', c', rfl, _⟩ := own_form ho'
    rcases own_block ho' with ⟨rfl, h0, rfl⟩ | ⟨g, cur, rfl, _⟩
    · rw [h0] at hne; exact absurd rfl hne
    · exact h g c' w1 ho' he
  obtain ⟨i, z, hu, hi, hz, hsz, hby, hzs, h0⟩ := hE
  cases A with
  | none =>
    have hk := hr.none_len rfl
    subst hk
    have hc := hA rfl
    subst hc
    have hys : ys = [] := List.eq_nil_of_length_eq_zero (by rw [hr.1]; simp)
    subst hys
    refine wpList_append_own_none hgd s x t ho base e i m hu hi v n xs hs hown hx ?_
    refine key v W ?_ (fun b hb _ => hb) hv
    rw [List.append_nil]
    exact hown
  | some ad =>
    refine wpList_append_own _ hgd s x t ho base e i z m i.bytes hu hi hz hsz rfl hzs h0 v n xs hs hown ad k c ys hx hr.1 (hr.cells ad rfl) h1 (by unfold maxLen; omega) ?_ hbase ?_
    · have := Nat.mul_le_mul_left (n + k) hby
      omega
    · intro v' w1 ho' hg hnil
      exact key v' w1 ho' (fun b hb hbb => hb.grown hg (fun q hq => Nat.le_trans hbb (hown.lt q hq).1)) (fun e => hv (hnil.1 e).1)
theorem boxes3 (w : World) (v1 v2 v3 : Value) (t1 t2 t3 : TypeId) (wb : World) (hwb : wb = ((w.alloc (.cells #[v1] t1)).alloc (.cells #[v2] t2)).alloc (.cells #[v3] t3)) :
    Ext w wb ∧ wb.heap.size = w.heap.size + 1 + 1 + 1 ∧ wb.cell? ⟨w.heap.size, 0, none⟩ = some v1 ∧ wb.cell? ⟨w.heap.size + 1, 0, none⟩ = some v2 ∧ wb.cell? ⟨w.heap.size + 1 + 1, 0, none⟩ = some v3 := by
  subst hwb
  refine ⟨(((Ext.refl w).alloc _).alloc _).alloc _, by simp, ?_, ?_, ?_⟩
  · rw [World.cell?_alloc_lt _ _ _ (by simp; omega), World.cell?_alloc_lt _ _ _ (by simp), World.cell?_alloc_new]; rfl
  · rw [World.cell?_alloc_lt _ _ _ (by simp)]
    have h : w.heap.size + 1 = (w.alloc (.cells #[v1] t1)).heap.size := by simp
    rw [h, World.cell?_alloc_new]; rfl
  · have h : w.heap.size + 1 + 1 = ((w.alloc (.cells #[v1] t1)).alloc (.cells #[v2] t2)).heap.size := by simp
    rw [h, World.cell?_alloc_new]; rfl
end Go.Proofs.YtfhibjehnoibeaaDoor
/- Append of one element that tells how the world grew; what stays below a block; no condition but what stands at each theorem. -/
namespace Go.Proofs.YtfhibjehnoibeaaDoor
set_option linter.unusedSimpArgs false
set_option linter.unusedVariables false
open Go.RowKit
theorem grown_allocG {a w : World} {row : Option Nat} (h : a.grownBy w row) (o : Obj) : a.grownBy (w.alloc o) row :=
  ⟨h.os, h.tape, h.output, Nat.le_trans h.size (by simp), fun i hi hn => (heap_alloc_old w _ (Nat.lt_of_lt_of_le hi h.size)).trans (h.block i hi hn)⟩
theorem append1G {P : Program} {ops : Array Oper} {rest : List Oper} {o : Oper} {a : Act} {Q : Exit → Act → World → Prop} {t e : TypeId} {m : Nat} (hE : EI P t e m) (hgd : o.guard = none) (s x : Operand)
    (ho : o.op = .call { callee := .builtin .append, args := #[s, x], argTypes := #[t, t] }) (base : Nat) (W : World) (T : TypeId) (v : Value) (n : Nat) (xs : List Value) (hs : a.eval s = v) (hown : W.ownsRow base e m v n xs)
    (news : List Value) (hx : a.eval x = .slice (some ⟨W.heap.size, 0, none⟩) 1 1) (hl : news.length = m) (h1 : ∀ u ∈ news, u.oneCell' = true) (hn : n ≤ 1073741824) (hbase : base ≤ W.heap.size)
    (h : ∀ v' w1 row, w1.ownsRow base e m v' (n + 1) (xs ++ news) → W.grownBy w1 row → (∀ k, row = some k → base ≤ k) → wpList P ops Q rest (a.put o.dst v') w1) : wpList P ops Q (o :: rest) a (W.alloc (.cells news.toArray T)) := by
  obtain ⟨i, z, hu, hi, hz, hsz, hby, hzs, h0⟩ := hE
  refine wpList_append_own _ hgd s x t ho base e i z m i.bytes hu hi hz hsz rfl hzs h0 v n xs hs (hown.alloc _) ⟨W.heap.size, 0, none⟩ 1 1 news hx (by omega) ?_ h1 (by unfold maxLen; omega) ?_ (by simp; omega) ?_
  · intro j u hu'
    rw [add_none, Nat.zero_add, World.cell?_alloc_new]
    simpa using hu'
  · have := Nat.mul_le_mul_left (n + 1) hby
    omega
  · intro v' w1 ho' hg _
    exact h v' w1 _ ho' (grown_trans (grown_allocG (grown_refl W _) _) hg) (fun k hk => (hown.lt k hk).1)
theorem grown_blk {W w1 : World} {row : Option Nat} {base g : Nat} {t : TypeId} {cs : Array Value} (hg : W.grownBy w1 row) (hr : ∀ k, row = some k → base ≤ k) (h : Blk W g t cs) (hb : g < base) : Blk w1 g t cs := by
  unfold Blk at *
  rw [hg.block g (Array.getElem?_eq_some_iff.1 h).1 (by intro e; have := hr g e.symm; omega)]
  exact h
theorem grown_ext {a W w1 : World} {row : Option Nat} {base : Nat} (hg : W.grownBy w1 row) (hr : ∀ k, row = some k → base ≤ k) (h : Ext a W) (hb : a.heap.size ≤ base) : Ext a w1 :=
  h.grown hg fun k hk => Nat.le_trans hb (hr k hk)
end Go.Proofs.YtfhibjehnoibeaaDoor
/- A queue of ints: a row of the call's own that is appended to and cut at its head, beside another row that it must not touch; no condition but what stands at each theorem. -/
namespace Go.Proofs.YtfhibjehnoibeaaDoor
set_option linter.unusedSimpArgs false
set_option linter.unusedVariables false
open Go.RowKit
def QRow (w : World) (base : Nat) (av : List Nat) (t : TypeId) (v : Value) (L : List Int) : Prop :=
  ∃ g off cap, ∃ cur : Array Value, v = .slice (some ⟨g, off, none⟩) L.length cap ∧ base ≤ g ∧ (∀ x ∈ av, g ≠ x) ∧ Blk w g t cur ∧ off + cap ≤ cur.size ∧ L.length ≤ cap ∧ ∀ j, j < L.length → cur[off + j]? = some (.int .i64 (L.getD j 0))
section
variable {w w' : World} {base : Nat} {av : List Nat} {t : TypeId} {v : Value} {L : List Int}
theorem QRow.keep (h : QRow w base av t v L) (e : Ext w w') : QRow w' base av t v L := by
  obtain ⟨g, off, cap, cur, h1, h2, h3, h4, h5⟩ := h
  exact ⟨g, off, cap, cur, h1, h2, h3, h4.keep e, h5⟩
theorem QRow.far (h : QRow w base av t v L) {gF : Nat} (hF : gF ∈ av) (k : Nat) (x : Value) : QRow (w.setCell ⟨gF, k, none⟩ x) base av t v L := by
  obtain ⟨g, off, cap, cur, h1, h2, h3, h4, h5⟩ := h
  exact ⟨g, off, cap, cur, h1, h2, h3, h4.far (h3 gF hF) x, h5⟩
/-- Its form, and its cells. -/
theorem QRow.form (h : QRow w base av t v L) : ∃ g off cap, v = .slice (some ⟨g, off, none⟩) L.length cap ∧ base ≤ g ∧ (∀ x ∈ av, g ≠ x) ∧ g < w.heap.size ∧ ∀ j, j < L.length → w.cell? ⟨g, off + j, none⟩ = some (.int .i64 (L.getD j 0)) := by
  obtain ⟨g, off, cap, cur, h1, h2, h3, h4, h5, h6, h7⟩ := h
  exact ⟨g, off, cap, h1, h2, h3, h4.lt, fun j hj => by rw [h4.cell]; exact h7 j hj⟩
theorem QRow.other (h : QRow w base av t v L) {av' : List Nat} (ha : ∀ x ∈ av', x ∈ av ∨ w.heap.size ≤ x) : QRow w base av' t v L := by
  obtain ⟨g, off, cap, cur, h1, h2, h3, h4, h5⟩ := h
  refine ⟨g, off, cap, cur, h1, h2, fun x hx => ?_, h4, h5⟩
  rcases ha x hx with h | h
  · exact h3 x h
  · have := h4.lt; omega
theorem QRow.tail {P : Program} {t' : TypeId} {x : Int} (hu : P.underlying t' = some (.slice t)) (hs : ∀ w : World, (sizeOf t).run P w = .ok 1 w) (h : QRow w base av t v (x :: L)) :
    ∃ v', (∀ w1 : World, (Instr.slice t' v (some (.int .i64 1)) none none).run P w1 = .ok v' w1) ∧ QRow w base av t v' L := by
  obtain ⟨g, off, cap, cur, rfl, h2, h3, h4, h5, h6, h7⟩ := h
  have h6' : L.length + 1 ≤ cap := by simpa using h6
  have hb : ∀ (w1 : World) (code : BoundsCode), (Instr.sliceBound (.int .i64 1) (L.length + 1) code).run P w1 = .ok 1 w1 := by
    intro w1 code
    rw [run_sliceBound w1 .i64 1 (L.length + 1) code (by omega) (by omega)]
    rfl
  refine ⟨.slice (if cap = 1 then some ⟨g, off, none⟩ else some ⟨g, off + 1, none⟩) L.length (cap - 1), fun w1 => ?_, ?_⟩
  · simp only [Instr.slice, Sem.run_bind, run_underlying hu, Result.andThen, Instr.sliceBounds, List.length_cons, hb, hs, Sem.run_pure]
    by_cases hc : cap = 1
    · simp [hc]
    · simp [hc, add_none]
  · by_cases hc : cap = 1
    · rw [if_pos hc]
      refine ⟨g, off, cap - 1, cur, rfl, h2, h3, h4, by omega, by omega, fun j hj => ?_⟩
      omega
    · rw [if_neg hc]
      refine ⟨g, off + 1, cap - 1, cur, rfl, h2, h3, h4, by omega, by omega, fun j hj => ?_⟩
      have := h7 (j + 1) (by simp; omega)
      rw [show off + 1 + j = off + (j + 1) by omega, this]
      simp
end
theorem QRow.append {P : Program} {ops : Array Oper} {rest : List Oper} {o : Oper} {a : Act} {Q : Exit → Act → World → Prop} {st t : TypeId} (hE : EI P st t 1) (hgd : o.guard = none) (s x : Operand)
    (ho : o.op = .call { callee := .builtin .append, args := #[s, x], argTypes := #[st, st] }) (base : Nat) (av : List Nat) (W : World) (T : TypeId) (v : Value) (L : List Int) (hs : a.eval s = v) (hq : QRow W base av t v L) (z : Int)
    (hx : a.eval x = .slice (some ⟨W.heap.size, 0, none⟩) 1 1) (hn : L.length ≤ 1073741824) (hbase : base ≤ W.heap.size) (hgF : ∀ x ∈ av, x < W.heap.size)
    (h : ∀ v' w1, QRow w1 base av t v' (L ++ [z]) → (∀ b, Ext b W → b.heap.size ≤ base → Ext b w1) → (∀ x ∈ av, ∀ tt cs, Blk W x tt cs → Blk w1 x tt cs) → wpList P ops Q rest (a.put o.dst v') w1) : wpList P ops Q (o :: rest) a (W.alloc (.cells #[.int .i64 z] T)) := by
  obtain ⟨i, zz, hu, hi, hz, hsz, hby, hzs, h0⟩ := hE
  obtain ⟨g, off, cap, cur, rfl, h2, h3, h4, h5, h6, h7⟩ := hq
  have hgW := h4.lt
  have h4a := h4.keep ((Ext.refl W).alloc (.cells #[.int .i64 z] T))
  refine wpList_append_arg _ hgd s x st ho t i zz 1 i.bytes hu hi hz hsz rfl hzs h0 g off L.length cap (L.map (Value.int .i64)) hs (by simp) ?_ ⟨W.heap.size, 0, none⟩ 1 1 [.int .i64 z] hx (by simp) ?_ ?_ ?_ (by unfold maxLen; omega) ?_ ?_ ?_
  · intro j u hu'
    have hj : j < L.length := by have := (List.getElem?_eq_some_iff.1 hu').1; simpa using this
    rw [h4a.cell, h7 j hj, ← hu']
    simp [hj]
  · intro j u hu'
    rw [add_none, Nat.zero_add, World.cell?_alloc_new]
    simpa using hu'
  · intro u hu'; simp at hu'; subst hu'; rfl
  · intro hr j hj
    simp at hj
    subst hj
    rw [h4a.cell]
    refine ⟨?_, h4a.free _⟩
    have : off + L.length * 1 + 0 < cur.size := by omega
    rw [Array.getElem?_eq_getElem this]; rfl
  · have := Nat.mul_le_mul_left (L.length + 1) hby
    omega
  · intro hr
    refine h _ _ ?_ ?_ ?_
    · refine ⟨g, off, cap, cur.setIfInBounds (off + L.length * 1) (.int .i64 z), by simp, h2, h3, h4a.set _ _, by simpa using h5, by simpa using hr, fun j hj => ?_⟩
      simp only [List.length_append, List.length_cons, List.length_nil] at hj
      by_cases hjl : j = L.length
      · subst hjl
        have : off + L.length < cur.size := by omega
        simp [this]
      · rw [Array.getElem?_setIfInBounds, if_neg (by omega), h7 j (by omega)]
        simp [List.getElem?_append_left (show j < L.length by omega)]
    · intro b hb hbb
      exact (hb.alloc _).setCell (p := ⟨g, _, none⟩) (by simp only; omega) _
    · intro gF hgFm tt cs hc
      exact (hc.keep ((Ext.refl W).alloc _)).far (p := ⟨g, _, none⟩) (Ne.symm (h3 gF hgFm)) _
  · intro _ v' w' ho' hg
    obtain ⟨A', c', rfl, hnc⟩ := own_form ho'
    rcases own_block ho' with ⟨_, hl0, _⟩ | ⟨g', cur', rfl, hb', hB', hnc', _, hcs', ht'⟩
    · omega
    · have hs' : W.heap.size + 1 ≤ g' := by simpa using hb'
      refine h _ _ ?_ ?_ ?_
      · refine ⟨g', 0, c', cur', by simp, by omega, fun x hx => (by have := hgF x hx; omega), hB', by omega, by simpa using hnc', fun j hj => ?_⟩
        have h8 : (cur'.toList.take ((L.length + 1) * 1))[j]? = (L.map (Value.int .i64) ++ [.int .i64 z])[j]? := by rw [ht']
        simp only [List.length_append, List.length_cons, List.length_nil] at hj
        rw [List.getElem?_take, if_pos (by omega)] at h8
        rw [Nat.zero_add, ← Array.getElem?_toList, h8]
        have e : L.map (Value.int .i64) ++ [.int .i64 z] = (L ++ [z]).map (Value.int .i64) := by simp
        have hj2 : j < (L ++ [z]).length := by simp; omega
        rw [e, List.getElem?_map, List.getElem?_eq_getElem hj2, List.getD_eq_getElem?_getD, List.getElem?_eq_getElem hj2]
        rfl
      · intro b hb hbb
        exact (hb.alloc _).grown hg (fun k hk => by cases hk)
      · intro gF hgFm tt cs hc
        have hgF' := hgF gF hgFm
        have := hc.keep ((Ext.refl W).alloc (.cells #[.int .i64 z] T))
        unfold Blk at this ⊢
        rw [hg.block gF (by simp; omega) (by simp)]
        exact this
/-- A literal of one element. -/
theorem QRow.one (W : World) (base : Nat) (av : List Nat) (t : TypeId) (z : Int) (hb : base ≤ W.heap.size) (hg : ∀ x ∈ av, x < W.heap.size) : QRow (W.alloc (.cells #[.int .i64 z] t)) base av t (.slice (some ⟨W.heap.size, 0, none⟩) 1 1) [z] :=
  ⟨W.heap.size, 0, 1, #[.int .i64 z], rfl, hb, fun x hx => (by have := hg x hx; omega), Blk.new _ _ _, by simp, by simp, fun j hj => by simp at hj; subst hj; rfl⟩
theorem hsz_alloc (w : World) (o : Obj) : (w.alloc o).heap.size = w.heap.size + 1 := by simp
/-- A struct of two cells in a box. -/
theorem box2 (w : World) (v1 v2 : Value) (t : TypeId) (wb : World) (hwb : wb = w.alloc (.cells #[v1, v2] t)) :
    Ext w wb ∧ wb.heap.size = w.heap.size + 1 ∧ wb.cell? ⟨w.heap.size, 0, none⟩ = some v1 ∧ wb.cell? ⟨w.heap.size, 1, none⟩ = some v2 := by
  subst hwb
  exact ⟨(Ext.refl w).alloc _, by simp, by rw [World.cell?_alloc_new]; rfl, by rw [World.cell?_alloc_new]; rfl⟩
end Go.Proofs.YtfhibjehnoibeaaDoor
/- Contracts of the laws' helpers on houses; no condition but what stands at each theorem. -/
namespace Go.Proofs.YtfhibjehnoibeaaDoor
set_option linter.unusedSimpArgs false
set_option linter.unusedVariables false
open Go.RowKit
end Go.Proofs.YtfhibjehnoibeaaDoor
