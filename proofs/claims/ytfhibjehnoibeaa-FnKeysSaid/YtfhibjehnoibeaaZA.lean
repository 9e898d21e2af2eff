/- Texts of one proof, laid one behind the other (K0, K1, T1, S1, MH, K2, K3, K4, K5, K6, K7, K8, K9); no condition but what stands at each theorem. -/
import Derived.WalkKit
import Derived.WalkSpells
import Derived.WalkLawsBesides
import Derived.BigQuiet
import Derived.Deep.QuietTactic
import Derived.Lib.Hide
import Derived.StillTailTactics
import Derived.Deep.RegionHeld3
import Derived.Deep.Light
import Derived.ProofKit
import Derived.OpenShut
import Derived.JoinedCond
import Derived.Deep.Slices
import Derived.Deep.Fields
import Derived.Test.YtfhibjehnoibeaaProg
import Derived.Lib.QuietBelow
import Derived.ArgAppend
import Derived.Laws.AppendOwnNone
/- A text of lemmas for the laws of this seat; what each says stands at its theorem; no condition. -/
namespace Go.Proofs.Ytfhibjehnoibeaa
set_option linter.unusedSimpArgs false
set_option linter.unusedVariables false
open Go.RowKit

/-- min and max of Go's built-ins, closed to the walk (else it parts at each). -/
def imin (x y : Int) : Int := if y < x then y else x
def imax (x y : Int) : Int := if x < y then y else x
theorem run_imin {P : Program} (ts : Array TypeId) (t : TypeId) (k k' : IntKind) (x y : Int) (w : World) : (Builtin.min_ ts t #[.int k x, .int k' y]).run P w = .ok (.int k (imin x y)) w := by
  simp [Builtin.min_, Builtin.min2, imin]
theorem run_imax {P : Program} (ts : Array TypeId) (t : TypeId) (k k' : IntKind) (x y : Int) (w : World) : (Builtin.max_ ts t #[.int k x, .int k' y]).run P w = .ok (.int k (imax x y)) w := by
  simp [Builtin.max_, Builtin.max2, imax]
def inB (n lo hi : Int) : Bool := decide (lo ≤ n) && decide (n ≤ hi)
theorem ret_bool {a b : Bool} (h : a = b) : Ending.returned (.bool a) = .returned (.bool b) := by rw [h]
theorem ret_int {k : IntKind} {a b : Int} (h : a = b) : Ending.returned (.int k a) = .returned (.int k b) := by rw [h]

/-- All that was there is as it was; new blocks may have come. -/
def Ext (w w' : World) : Prop := Below w.heap.size w w'
theorem Ext.refl (w : World) : Ext w w := Below.refl _ _
theorem Ext.trans {a b c : World} (h : Ext a b) (k : Ext b c) : Ext a c := Below.trans h (Below.mono k h.size)
theorem Ext.alloc {a w : World} (h : Ext a w) (o : Obj) : Ext a (w.alloc o) := Below.alloc h h.size o
theorem Ext.drew {a w : World} (h : Ext a w) : Ext a w.drew := Below.drew h
theorem Ext.drewN {a w : World} (h : Ext a w) (n : Nat) : Ext a (w.drewN n) := ⟨h.os, h.tape, h.output, h.size, h.block⟩
theorem Ext.setCell {a w : World} (h : Ext a w) {p : Addr} (hp : a.heap.size ≤ p.block) (u : Value) : Ext a (w.setCell p u) := Below.setCell h hp u
theorem Ext.grown {a w w' : World} {row : Option Nat} (h : Ext a w) (hg : w.grownBy w' row) (hr : ∀ k, row = some k → a.heap.size ≤ k) : Ext a w' := Below.grown h hg h.size hr
theorem Ext.facts {W w1 : World} (hb : Ext W w1) : (∀ b o, b < W.heap.size → w1.cell? ⟨b, o, none⟩ = W.cell? ⟨b, o, none⟩) ∧ (∀ b o, b < W.heap.size → w1.frozen? ⟨b, o, none⟩ = W.frozen? ⟨b, o, none⟩) ∧ (∀ b, b < W.heap.size → b < w1.heap.size) :=
  ⟨fun b o h => Below.cell hb (p := ⟨b, o, none⟩) h, fun b o h => Below.frozen hb (p := ⟨b, o, none⟩) h, fun b h => by have := hb.size; omega⟩
theorem Ext.cellAt {W w1 : World} (hb : Ext W w1) (b : Nat) (h : b < W.heap.size) : ∀ o, w1.cell? ⟨b, o, none⟩ = W.cell? ⟨b, o, none⟩ := fun o => Below.cell hb (p := ⟨b, o, none⟩) h
theorem Ext.frozenAt {W w1 : World} (hb : Ext W w1) (b : Nat) (h : b < W.heap.size) : ∀ o, w1.frozen? ⟨b, o, none⟩ = W.frozen? ⟨b, o, none⟩ := fun o => Below.frozen hb (p := ⟨b, o, none⟩) h
theorem Ext.size {W w1 : World} (hb : Ext W w1) : W.heap.size ≤ w1.heap.size := Below.size hb
theorem Ext.look {W w1 : World} (hb : Ext W w1) : (∀ a, (W.cell? a).isSome = true → w1.cell? a = W.cell? a) ∧ (∀ a, (W.cell? a).isSome = true → w1.frozen? a = W.frozen? a) ∧ (∀ b, (w1.cell? ⟨b, 0, none⟩).isSome = true → w1.heap.size ≠ b) ∧ (∀ b, (w1.cell? ⟨b, 0, none⟩).isSome = true → b ≠ w1.heap.size) :=
  ⟨fun a h => by
    obtain ⟨u, hu⟩ := Option.isSome_iff_exists.1 h
    exact Below.cell hb (World.block_lt_of_cell? W a hu), fun a h => by
    obtain ⟨u, hu⟩ := Option.isSome_iff_exists.1 h
    exact Below.frozen hb (World.block_lt_of_cell? W a hu), fun b h => by
    obtain ⟨u, hu⟩ := Option.isSome_iff_exists.1 h
    have := World.block_lt_of_cell? w1 _ hu
    exact fun e => by subst e; exact Nat.lt_irrefl _ this, fun b h => by
    obtain ⟨u, hu⟩ := Option.isSome_iff_exists.1 h
    have := World.block_lt_of_cell? w1 _ hu
    exact fun e => by subst e; exact Nat.lt_irrefl _ this⟩
theorem Ext.below {w w' : World} (h : Ext w w') : Below w.heap.size w w' := h

theorem add_none (b off k : Nat) : (⟨b, off, none⟩ : Addr).add k = ⟨b, off + k, none⟩ := by unfold Addr.add; split <;> simp_all
/-- The slice '.slice A n _' reads as the cells xs (m cells an element). -/
def Rd (w : World) (m : Nat) (A : Option Addr) (n : Nat) (xs : List Value) : Prop :=
  xs.length = n * m ∧ n ≤ 9223372036854775807 ∧ (0 < n → ∃ b off, A = some ⟨b, off, none⟩ ∧ b < w.heap.size ∧ ∀ j u, xs[j]? = some u → w.cell? ⟨b, off + j, none⟩ = some u)
theorem Rd.keep {w w' : World} {m n : Nat} {A : Option Addr} {xs : List Value} (h : Rd w m A n xs) (e : Ext w w') : Rd w' m A n xs :=
  ⟨h.1, h.2.1, fun hn => by
    obtain ⟨b, off, rfl, hb, hc⟩ := h.2.2 hn
    exact ⟨b, off, rfl, e.facts.2.2 b hb, fun j u hu => (e.facts.1 b _ hb).trans (hc j u hu)⟩⟩
theorem Rd.alloc {w : World} {m n : Nat} {A : Option Addr} {xs : List Value} (h : Rd w m A n xs) (o : Obj) : Rd (w.alloc o) m A n xs := h.keep ((Ext.refl w).alloc o)
theorem Rd.drew {w : World} {m n : Nat} {A : Option Addr} {xs : List Value} (h : Rd w m A n xs) : Rd w.drew m A n xs := h
theorem Rd.drewN {w : World} {m n : Nat} {A : Option Addr} {xs : List Value} (h : Rd w m A n xs) (k : Nat) : Rd (w.drewN k) m A n xs := h
theorem Rd.nil (w : World) (m : Nat) : Rd w m none 0 [] := ⟨by simp, by omega, fun h => absurd h (by omega)⟩
theorem Rd.of_own {w : World} {base : Nat} {e : TypeId} {m n c : Nat} {A : Option Addr} {xs : List Value} (h : w.ownsRow base e m (.slice A n c) n xs) : Rd w m A n xs := by
  refine ⟨h.1, ?_, fun hn => ?_⟩
  · rcases h.2 with ⟨_, h0⟩ | ⟨g, cap, cur, hv, _, _, h1, h2, _⟩
    · omega
    · unfold maxLen at h2; omega
  · rcases h.2 with ⟨_, h0⟩ | ⟨g, cap, cur, hv, _, hg, _⟩
    · omega
    · injection hv with hA _ _
      subst hA
      refine ⟨g, 0, rfl, (Array.getElem?_eq_some_iff.1 hg).1, fun j u hu => ?_⟩
      have := h.cells (g := g) rfl j u hu
      rw [add_none, Nat.zero_add] at this
      rw [Nat.zero_add]
      exact this
theorem flat_at {α : Type} (enc : α → List Value) (m : Nat) (hm : ∀ x, (enc x).length = m) : ∀ (xs : List α) (k : Nat) (x : α) (j : Nat), xs[k]? = some x → j < m → (xs.flatMap enc)[k * m + j]? = (enc x)[j]?
  | [], k, x, j, h, _ => by simp at h
  | y :: ys, 0, x, j, h, hj => by
    simp at h; subst h
    rw [List.flatMap_cons, List.getElem?_append_left (by rw [hm]; omega)]; simp
  | y :: ys, k + 1, x, j, h, hj => by
    rw [List.flatMap_cons, List.getElem?_append_right (by rw [hm, Nat.add_mul]; omega), hm, show (k + 1) * m + j - m = k * m + j from by rw [Nat.add_mul]; omega]
    exact flat_at enc m hm ys k x j (by simpa using h) hj
theorem flat_len {α : Type} (enc : α → List Value) (m : Nat) (hm : ∀ x, (enc x).length = m) (xs : List α) : (xs.flatMap enc).length = xs.length * m := by
  induction xs with
  | nil => simp
  | cons x xs ih => rw [List.flatMap_cons, List.length_append, ih, hm, List.length_cons, Nat.add_mul]; omega
theorem Rd.len {α : Type} {enc : α → List Value} {m : Nat} (hm : ∀ x, (enc x).length = m) (h0 : 0 < m) {w : World} {A : Option Addr} {n : Nat} {xs : List α} (h : Rd w m A n (xs.flatMap enc)) : xs.length = n := by
  have := h.1
  rw [flat_len enc m hm] at this
  exact Nat.eq_of_mul_eq_mul_right h0 this
theorem Rd.atAny {α : Type} {enc : α → List Value} {m : Nat} (hm : ∀ x, (enc x).length = m) (h0 : 0 < m) {w : World} {A : Option Addr} {n : Nat} {xs : List α} (h : Rd w m A n (xs.flatMap enc)) {k : Nat} (hk : k < n) :
    ∃ b off x, A = some ⟨b, off, none⟩ ∧ b < w.heap.size ∧ xs[k]? = some x ∧ ∀ j u, (enc x)[j]? = some u → w.cell? ⟨b, off + k * m + j, none⟩ = some u := by
  obtain ⟨b, off, rfl, hb, hc⟩ := h.2.2 (by omega)
  have hl := h.len hm h0
  have hx : xs[k]? = some xs[k] := List.getElem?_eq_getElem (by omega)
  refine ⟨b, off, xs[k], rfl, hb, hx, fun j u hu => ?_⟩
  rw [Nat.add_assoc]
  refine hc (k * m + j) _ ?_
  have hj : j < m := by rw [← hm xs[k]]; exact (List.getElem?_eq_some_iff.1 hu).1
  rw [flat_at enc m hm xs k _ j hx hj, hu]
theorem Rd.at1 {α : Type} {enc : α → List Value} {p : α → Value} (he : ∀ x, enc x = [p x]) {w : World} {A : Option Addr} {n : Nat} {xs : List α} (h : Rd w 1 A n (xs.flatMap enc)) {k : Nat} (hk : k < n) :
    ∃ b off x, A = some ⟨b, off, none⟩ ∧ b < w.heap.size ∧ xs[k]? = some x ∧ w.cell? ⟨b, off + k, none⟩ = some (p x) := by
  obtain ⟨b, off, x, h1, h2, h3, h4⟩ := h.atAny (fun x => by rw [he]; rfl) (by omega) hk
  refine ⟨b, off, x, h1, h2, h3, ?_⟩
  have := h4 0 _ (by rw [he]; rfl)
  simpa using this
theorem Rd.at2 {α : Type} {enc : α → List Value} {p q : α → Value} (he : ∀ x, enc x = [p x, q x]) {w : World} {A : Option Addr} {n : Nat} {xs : List α} (h : Rd w 2 A n (xs.flatMap enc)) {k : Nat} (hk : k < n) :
    ∃ b off x, A = some ⟨b, off, none⟩ ∧ b < w.heap.size ∧ xs[k]? = some x ∧ w.cell? ⟨b, off + k * 2, none⟩ = some (p x) ∧ w.cell? ⟨b, off + k * 2 + 1, none⟩ = some (q x) := by
  obtain ⟨b, off, x, h1, h2, h3, h4⟩ := h.atAny (fun x => by rw [he]; rfl) (by omega) hk
  exact ⟨b, off, x, h1, h2, h3, h4 0 _ (by rw [he]; rfl), h4 1 _ (by rw [he]; rfl)⟩
theorem Rd.at3 {α : Type} {enc : α → List Value} {p q r : α → Value} (he : ∀ x, enc x = [p x, q x, r x]) {w : World} {A : Option Addr} {n : Nat} {xs : List α} (h : Rd w 3 A n (xs.flatMap enc)) {k : Nat} (hk : k < n) :
    ∃ b off x, A = some ⟨b, off, none⟩ ∧ b < w.heap.size ∧ xs[k]? = some x ∧ w.cell? ⟨b, off + k * 3, none⟩ = some (p x) ∧ w.cell? ⟨b, off + k * 3 + 1, none⟩ = some (q x) ∧ w.cell? ⟨b, off + k * 3 + 2, none⟩ = some (r x) := by
  obtain ⟨b, off, x, h1, h2, h3, h4⟩ := h.atAny (fun x => by rw [he]; rfl) (by omega) hk
  exact ⟨b, off, x, h1, h2, h3, h4 0 _ (by rw [he]; rfl), h4 1 _ (by rw [he]; rfl), h4 2 _ (by rw [he]; rfl)⟩
theorem Rd.at4 {α : Type} {enc : α → List Value} {p q r s : α → Value} (he : ∀ x, enc x = [p x, q x, r x, s x]) {w : World} {A : Option Addr} {n : Nat} {xs : List α} (h : Rd w 4 A n (xs.flatMap enc)) {k : Nat} (hk : k < n) :
    ∃ b off x, A = some ⟨b, off, none⟩ ∧ b < w.heap.size ∧ xs[k]? = some x ∧ w.cell? ⟨b, off + k * 4, none⟩ = some (p x) ∧ w.cell? ⟨b, off + k * 4 + 1, none⟩ = some (q x) ∧ w.cell? ⟨b, off + k * 4 + 2, none⟩ = some (r x) ∧ w.cell? ⟨b, off + k * 4 + 3, none⟩ = some (s x) := by
  obtain ⟨b, off, x, h1, h2, h3, h4⟩ := h.atAny (fun x => by rw [he]; rfl) (by omega) hk
  exact ⟨b, off, x, h1, h2, h3, h4 0 _ (by rw [he]; rfl), h4 1 _ (by rw [he]; rfl), h4 2 _ (by rw [he]; rfl), h4 3 _ (by rw [he]; rfl)⟩
theorem Rd.at5 {α : Type} {enc : α → List Value} {p q r s t : α → Value} (he : ∀ x, enc x = [p x, q x, r x, s x, t x]) {w : World} {A : Option Addr} {n : Nat} {xs : List α} (h : Rd w 5 A n (xs.flatMap enc)) {k : Nat} (hk : k < n) :
    ∃ b off x, A = some ⟨b, off, none⟩ ∧ b < w.heap.size ∧ xs[k]? = some x ∧ w.cell? ⟨b, off + k * 5, none⟩ = some (p x) ∧ w.cell? ⟨b, off + k * 5 + 1, none⟩ = some (q x) ∧ w.cell? ⟨b, off + k * 5 + 2, none⟩ = some (r x) ∧ w.cell? ⟨b, off + k * 5 + 3, none⟩ = some (s x) ∧ w.cell? ⟨b, off + k * 5 + 4, none⟩ = some (t x) := by
  obtain ⟨b, off, x, h1, h2, h3, h4⟩ := h.atAny (fun x => by rw [he]; rfl) (by omega) hk
  exact ⟨b, off, x, h1, h2, h3, h4 0 _ (by rw [he]; rfl), h4 1 _ (by rw [he]; rfl), h4 2 _ (by rw [he]; rfl), h4 3 _ (by rw [he]; rfl), h4 4 _ (by rw [he]; rfl)⟩
end Go.Proofs.Ytfhibjehnoibeaa
/- A text of lemmas for the laws of this seat; what each says stands at its theorem; no condition. -/
namespace Go.Proofs.Ytfhibjehnoibeaa
set_option linter.unusedSimpArgs false
set_option linter.unusedVariables false
open Go.RowKit Go.ChangeShapes Go.WideShapes Go.Deep

section
variable {H : Type} {enc : TypeId × Value → H} {P : Program} {W W' : World}

/-- Whatever read in W reads the same in W', where nothing old has turned. -/
theorem trodAll_stays (hl : laidOutB P = true) : ∀ {ts : List TypeId} {vs : List Value} {ds : List (DataW H)} {ps : List MemPlace}, (∀ t ∈ ts, P.readableRec t = true ∧ t < P.types.size) →
    DataW.TrodAll enc P W 0 (fun _ => true) true ts vs ds ps → Ext W W' → (∀ x ∈ ps, x.block < W.heap.size) → DataW.TrodAll enc P W' 0 (fun b => decide (b < W.heap.size)) true ts vs ds ps
  | [], [], [], _, _, h, _, _ => h
  | t :: ts, v :: vs, d :: ds, ps, hr, h, hb, hlt => by
    obtain ⟨p, q, h1, h2, rfl⟩ := h
    exact ⟨p, q, Below.trod hl (hr t (by simp)).1 (hr t (by simp)).2 h1 hb.below (fun x hx => hlt x (by simp [hx])), trodAll_stays hl (fun t ht => hr t (by simp [ht])) h2 hb (fun x hx => hlt x (by simp [hx])), rfl⟩
  | [], [], _ :: _, _, _, h, _, _ => h.elim
  | [], _ :: _, _, _, _, h, _, _ => by cases h
  | _ :: _, [], _, _, _, h, _, _ => by cases h
  | _ :: _, _ :: _, [], _, _, h, _, _ => h.elim

/-- The end of every law: it returned true, and nothing old has turned. -/
theorem law_post {f : Func} {s : ChangeSpec} {tb : TypeId} {args : Array Value} {ds gs : List (DataW H)} {before : List MemPlace} (hl : laidOutB P = true)
    (hr : ∀ t ∈ f.params.toList, P.readableRec t = true ∧ t < P.types.size) (htb : P.underlying tb = some .bool) (hrt : f.resultTypes = #[tb]) (hv : s.vars = [])
    (hW : DataW.Whole enc P f.params.toList s.vars false W args.toList ds gs before)
    (hs : s.fn H (ds ++ gs) = { results := [.lit (.bool true)], args := ds }) (hb : Ext W W') :
    s.post enc P f false true false false W args (.bool true) W' := by
  have hlt : ∀ x ∈ before, x.block < W.heap.size := fun x hx => hW.lt x hx
  obtain ⟨p, q, hA, hV, rfl, hfz, hnd⟩ := id hW
  rw [hv] at hV
  cases gs with
  | cons _ _ => exact hV.elim
  | nil =>
    have hq : q = [] := hV
    subst hq
    refine ⟨ds, [], p ++ [], [], p, [], hW, ?_, ?_, ?_, Below.frame hb.below _, fun h => by cases h⟩
    · rw [hs, hrt]
      exact trodAll_mk1 (shut_bool htb true)
    · rw [hs]
      exact trodAll_stays hl hr hA hb (fun x hx => hlt x (by simp [hx]))
    · rw [hs, hv]; rfl

/-- Every value of type t that can be read as data has cells of the form 'en a'. -/
def Opens (P : Program) (t : TypeId) {α : Type} (en : α → List Value) : Prop :=
  ∀ (H : Type) (enc : TypeId × Value → H) (w : World) (n : Nat) (cs : List Value) (x : DataW H × List MemPlace), DataW.trod enc P w 0 (fun _ => true) true n t cs = some x → ∃ a, cs = en a


theorem open_row {α : Type} {en : α → List Value} {t e : TypeId} {m fuel : Nat} {v : Value} {x : DataW H × List MemPlace} (ht : P.underlying t = some (.slice e)) (hC : P.cellsOf e = m) (hm : ∀ a, (en a).length = m) (h0 : 0 < m) (he : Opens P e en)
    (h : DataW.trod enc P W 0 (fun _ => true) true fuel t [v] = some x) : ∃ A n c, ∃ xs : List α, v = .slice A n c ∧ n ≤ c ∧ Rd W m A n (xs.flatMap en) := by
  rcases open_slice ht h with ⟨hv, _⟩ | ⟨a, len, cap, mm, n, D, Pl, hv, _, hl, hcap, hmm, _, hi⟩
  · simp at hv
    subst hv
    exact ⟨none, 0, 0, [], rfl, Nat.le_refl _, Rd.nil _ _⟩
  · simp at hv
    subst hv
    simp at hmm
    obtain rfl : cap = mm := hmm.symm
    clear hmm
    have hex : ∀ l, l ≤ len → ∃ xs : List α, xs.length = l ∧ ∀ j u, (xs.flatMap en)[j]? = some u → W.cell? (a.add j) = some u := by
      intro l
      induction l with
      | zero => exact fun _ => ⟨[], rfl, fun j u hu => by simp at hu⟩
      | succ l ih =>
        intro hle
        obtain ⟨xs, hxl, hxs⟩ := ih (by omega)
        obtain ⟨cs, hc, htr⟩ := hi l (by omega)
        rw [hC] at hc
        obtain ⟨_, _, hat⟩ := World.cells?_some hc
        obtain ⟨a', rfl⟩ := he H enc W n cs _ htr
        refine ⟨xs ++ [a'], by simp [hxl], fun j u hu => ?_⟩
        rw [List.flatMap_append] at hu
        have hfl : (xs.flatMap en).length = l * m := by rw [flat_len en m hm, hxl]
        rcases Nat.lt_or_ge j (l * m) with hj | hj
        · rw [List.getElem?_append_left (by omega)] at hu
          exact hxs j u hu
        · rw [List.getElem?_append_right (by omega), hfl] at hu
          simp only [List.flatMap_cons, List.flatMap_nil, List.append_nil] at hu
          have hjm : j - l * m < m := by have := (List.getElem?_eq_some_iff.1 hu).1; rwa [hm a'] at this
          rw [← hu, ← hat (j - l * m) hjm, Go.Deep.add_add, show l * m + (j - l * m) = j by omega]
    obtain ⟨xs, hxl, hxs⟩ := hex len (Nat.le_refl _)
    refine ⟨some a, len, cap, xs, rfl, hl, by rw [flat_len en m hm, hxl], by unfold maxLen at hcap; omega, fun hn => ?_⟩
    have hp : 0 < (xs.flatMap en).length := by rw [flat_len en m hm, hxl]; exact Nat.mul_pos hn h0
    have h00 := hxs 0 _ (List.getElem?_eq_getElem hp)
    obtain ⟨b, off, spot⟩ := a
    have hsp : spot = none := by
      cases spot with
      | none => rfl
      | some q =>
        exfalso
        have h1 : ((⟨b, off, some q⟩ : Addr).add 0).spot = some q := by unfold Addr.add; rw [if_pos rfl]
        unfold World.cell? at h00
        rw [h1] at h00
        split at h00 <;> simp at h00
    subst hsp
    refine ⟨b, off, rfl, ?_, fun j u hu => ?_⟩
    · have := World.block_lt_of_cell? W _ h00
      rwa [add_none] at this
    · have := hxs j u hu
      rwa [add_none] at this
end

section
variable {H : Type} {enc : TypeId × Value → H} {P : Program} {W : World}
/-- A struct of one-cell fields: each cell with its own field's reading. -/
theorem open_fields {t : TypeId} {fs : Array Field} {n : Nat} {cs : List Value} {x : DataW H × List MemPlace} (ht : P.underlying t = some (.struct fs)) (hone : oneCellFields P fs = true) (hC : P.cellsOf t = fs.size)
    (h : DataW.trod enc P W 0 (fun _ => true) true n t cs = some x) :
    cs.length = fs.size ∧ ∀ (j : Nat) (f : Field), fs[j]? = some f → ∃ v n' y, cs[j]? = some v ∧ DataW.trod enc P W 0 (fun _ => true) true n' f.type [v] = some y := by
  obtain ⟨ys, n', hn', hy, hlen, hyl, hf⟩ := DataW.trod_struct ht h
  refine ⟨hlen.trans hC, fun j f hj => ?_⟩
  obtain ⟨ho, hk⟩ := hone_of hone j f hj
  have hjl : j < fs.size := (Array.getElem?_eq_some_iff.1 hj).1
  have h1 := hf j f hj
  rw [ho, hk] at h1
  have hv : cs[j]? = some (cs[j]'(by omega)) := List.getElem?_eq_getElem (by omega)
  have h2 : (cs.drop j).take 1 = [cs[j]'(by omega)] := by rw [List.drop_eq_getElem_cons (by omega)]; rfl
  rw [h2] at h1
  have hys : ys[j]? = some (ys[j]'(by omega)) := List.getElem?_eq_getElem (by omega)
  exact ⟨_, n', _, hv, h1.trans hys⟩
theorem int_of_trod {t : TypeId} {n : Nat} {v : Value} {y : DataW H × List MemPlace} (ht : P.underlying t = some (.int .i64)) (h : DataW.trod enc P W 0 (fun _ => true) true n t [v] = some y) : ∃ z, v = .int .i64 z ∧ (Lit.int .i64 z).wf = true := by
  obtain ⟨z, h1, _, hw⟩ := DataW.trod_int ht h
  simp at h1
  exact ⟨z, h1, hw⟩
theorem byte_of_trod {t : TypeId} {n : Nat} {v : Value} {y : DataW H × List MemPlace} (ht : P.underlying t = some (.int .u8)) (h : DataW.trod enc P W 0 (fun _ => true) true n t [v] = some y) : ∃ z, v = .int .u8 z ∧ (Lit.int .u8 z).wf = true := by
  obtain ⟨z, h1, _, hw⟩ := DataW.trod_int ht h
  simp at h1
  exact ⟨z, h1, hw⟩
theorem bool_of_trod {t : TypeId} {n : Nat} {v : Value} {y : DataW H × List MemPlace} (ht : P.underlying t = some .bool) (h : DataW.trod enc P W 0 (fun _ => true) true n t [v] = some y) : ∃ z, v = .bool z := by
  obtain ⟨z, h1, _⟩ := DataW.trod_bool ht h
  simp at h1
  exact ⟨z, h1⟩
theorem string_of_trod {t : TypeId} {n : Nat} {v : Value} {y : DataW H × List MemPlace} (ht : P.underlying t = some .string) (h : DataW.trod enc P W 0 (fun _ => true) true n t [v] = some y) : ∃ z, v = .string z ∧ z.size ≤ maxLen := by
  obtain ⟨z, h1, _, hw⟩ := DataW.trod_string ht h
  simp at h1
  exact ⟨z, h1, hw⟩
/-- A struct by value. -/
theorem open_agg {α : Type} {en : α → List Value} {r : Reach} {b0 : Nat} {t : TypeId} {fs : Array Field} {v : Value} {d : DataW H} {p : List MemPlace} (hs : P.underlying t = some (.struct fs)) (he : Opens P t en)
    (hv : Value.okWide P W r b0 t v) (h : DataW.Trod enc P W 0 (fun _ => true) true t v d p) : ∃ a, v = .agg (en a).toArray := by
  obtain ⟨cs, rfl, _⟩ := okWide_struct hs hv
  obtain ⟨fuel, hf⟩ := h
  obtain ⟨a, ha⟩ := he H enc W fuel _ _ hf
  refine ⟨a, ?_⟩
  have : cs.toList = en a := by simpa [Value.cells] using ha
  rw [← this]
theorem open_slice_arg {α : Type} {en : α → List Value} {t e : TypeId} {m : Nat} {v : Value} {d : DataW H} {p : List MemPlace} {r : Reach} {b0 : Nat} (ht : P.underlying t = some (.slice e)) (hC : P.cellsOf e = m) (hm : ∀ a, (en a).length = m) (h0 : 0 < m) (he : Opens P e en)
    (hv : Value.okWide P W r b0 t v) (h : DataW.Trod enc P W 0 (fun _ => true) true t v d p) : ∃ A n c, ∃ xs : List α, v = .slice A n c ∧ n ≤ c ∧ Rd W m A n (xs.flatMap en) := by
  obtain ⟨a0, len, cap, rfl⟩ := okWide_slice ht hv
  obtain ⟨fuel, hf⟩ := h
  exact open_row ht hC hm h0 he hf
end
end Go.Proofs.Ytfhibjehnoibeaa
/- A text of lemmas for the laws of this seat; what each says stands at its theorem; no condition. -/
namespace Go.Proofs.Ytfhibjehnoibeaa
set_option linter.unusedSimpArgs false
set_option linter.unusedVariables false
open Go.RowKit
/-! The Go structs as Lean structures, and how their cells stand. -/
structure GShift where
  g : Int
  f : Int
  t : Int
def GShift.enc (s : GShift) : List Value := [.int .i64 s.g, .int .i64 s.f, .int .i64 s.t]
structure GLoan where
  l : Int
  lo : Int
  hi : Int
  g : Int
def GLoan.enc (s : GLoan) : List Value := [.int .i64 s.l, .int .i64 s.lo, .int .i64 s.hi, .int .i64 s.g]
structure GClimate where
  l : Int
  h : Int
  g : Int
def GClimate.enc (s : GClimate) : List Value := [.int .i64 s.l, .int .i64 s.h, .int .i64 s.g]
structure GAct where
  k : Int
  a : Int
  b : Int
  c : Int
  d : Int
def GAct.enc (s : GAct) : List Value := [.int .i64 s.k, .int .i64 s.a, .int .i64 s.b, .int .i64 s.c, .int .i64 s.d]
structure GCheck where
  m : Int
  o : Int
  th : Bool
def GCheck.enc (s : GCheck) : List Value := [.int .i64 s.m, .int .i64 s.o, .bool s.th]
structure GStay where
  p : Int
  h : Int
  f : Int
  t : Int
def GStay.enc (s : GStay) : List Value := [.int .i64 s.p, .int .i64 s.h, .int .i64 s.f, .int .i64 s.t]
structure GDoor where
  a : Int
  b : Int
def GDoor.enc (s : GDoor) : List Value := [.int .i64 s.a, .int .i64 s.b]
structure GMove where
  o : Int
  t : Int
  f : Int
  s : Int
def GMove.enc (s : GMove) : List Value := [.int .i64 s.o, .int .i64 s.t, .int .i64 s.f, .int .i64 s.s]
def ienc (i : Int) : List Value := [.int .i64 i]
end Go.Proofs.Ytfhibjehnoibeaa
/- A text of lemmas for the laws of this seat; what each says stands at its theorem; no condition. -/
namespace Go.Proofs.Ytfhibjehnoibeaa
set_option linter.unusedSimpArgs false
set_option linter.unusedVariables false
open Go.RowKit
/-! Contracts of the functions on plain structs. -/
set_option maxRecDepth 100000 in
set_option maxHeartbeats 400000 in
theorem impl_between (n lo hi : Int) (w : World) :
    Calls Try.prog 20 #[.int .i64 n, .int .i64 lo, .int .i64 hi] w fun e w' => e = .returned (.bool (inB n lo hi)) ∧ w = w' := by
  go_enter Try.func20, Try.ntmps20
  go_wp2
  all_goals go_ret
  all_goals exact ⟨ret_bool (by simp [inB]; omega), rfl⟩
def shOk (s : GShift) : Bool := inB s.g 0 20 && inB s.f 0 10000 && inB s.t 0 10000 && decide (s.f < s.t)
def loOk (s : GLoan) : Bool := inB s.l 0 1000 && inB s.g 0 1000 && inB s.lo 0 100 && inB s.hi 0 100 && decide (s.lo ≤ s.hi)
def acOk (s : GAct) : Bool :=
  if s.k == 1 then inB s.a 0 5 && inB s.b 0 6 && s.c == 0 && s.d == 0 else if s.k == 2 then inB s.a 0 5 && inB s.b 0 6 && inB s.c 0 5 && inB s.d 0 5
  else if s.k == 3 then inB s.a 1 1000 && s.b == 0 && s.c == 0 && s.d == 0 else if s.k == 5 then inB s.a 0 5 && s.b == 0 && s.c == 0 && s.d == 0
  else if s.k == 4 then s.a == 0 && s.b == 0 && s.c == 0 && s.d == 0 else false
end Go.Proofs.Ytfhibjehnoibeaa
/- Houses: doors, neighbours, and the search through the halls; no condition but what stands at each theorem. -/
namespace Go.Proofs.Ytfhibjehnoibeaa
set_option linter.unusedSimpArgs false
set_option linter.unusedVariables false
def doorOk (H : Int) (d : GDoor) : Bool := decide (0 ≤ d.a) && decide (d.a < d.b) && decide (d.b < H)
def dlt (p d : GDoor) : Bool := decide (p.a < d.a) || ((p.a == d.a) && decide (p.b < d.b))
def doorsOk (H : Int) : Option GDoor → List GDoor → Bool
  | _, [] => true
  | none, d :: r => doorOk H d && doorsOk H (some d) r
  | some p, d :: r => doorOk H d && dlt p d && doorsOk H (some d) r
def formB (H : Int) (ds : List GDoor) : Bool := inB H 1 7 && decide (ds.length ≤ 12) && doorsOk H none ds
def isDoor (x k : Int) (d : GDoor) : Bool := (d.a == imin x k) && (d.b == imax x k)
def doorB (ds : List GDoor) (x k : Int) : Bool := ds.any (isDoor x k)
/-- What the program's linksOf lists. -/
def linksTo (ds : List GDoor) (x : Int) (k : Nat) : List Int := (List.range k).flatMap fun (j : Nat) => (ds.filter (isDoor x j)).map fun _ => (j : Int)
theorem linksTo_succ (ds : List GDoor) (x : Int) (k : Nat) : linksTo ds x (k + 1) = linksTo ds x k ++ (ds.filter (isDoor x k)).map fun _ => (k : Int) := by
  simp [linksTo, List.range_succ]
theorem linksTo_len (ds : List GDoor) (x : Int) (k : Nat) : (linksTo ds x k).length ≤ k * ds.length := by
  induction k with
  | zero => simp [linksTo]
  | succ k ih =>
    rw [linksTo_succ, List.length_append, List.length_map, Nat.add_mul]
    have := List.length_filter_le (isDoor x k) ds
    omega
theorem isDoor_comm (x k : Int) (d : GDoor) : isDoor x k d = isDoor k x d := by
  unfold isDoor imin imax
  by_cases h : x < k
  · have h2 : ¬ k < x := by omega
    simp [h, h2]
  · by_cases h2 : k < x
    · simp [h, h2]
    · have : x = k := by omega
      subst this; simp
theorem doorB_comm (ds : List GDoor) (x k : Int) : doorB ds x k = doorB ds k x := by
  unfold doorB
  congr 1
  funext d
  exact isDoor_comm x k d
/-- No door stands twice. -/
def NoTwice (ds : List GDoor) : Prop := ds.Pairwise fun p d => dlt p d = true
theorem dlt_irrefl {p d : GDoor} (h : dlt p d = true) : ¬ (p.a = d.a ∧ p.b = d.b) := by
  simp only [dlt, Bool.or_eq_true, Bool.and_eq_true, decide_eq_true_eq, beq_iff_eq] at h
  omega
theorem dlt_trans {a b c : GDoor} (h : dlt a b = true) (k : dlt b c = true) : dlt a c = true := by
  simp only [dlt, Bool.or_eq_true, Bool.and_eq_true, decide_eq_true_eq, beq_iff_eq] at *
  omega
theorem doorsOk_some {H : Int} : ∀ {ds : List GDoor} {p : GDoor}, doorsOk H (some p) ds = true → (∀ d ∈ ds, doorOk H d = true ∧ dlt p d = true) ∧ NoTwice ds
  | [], _, _ => ⟨fun d hd => by simp at hd, List.Pairwise.nil⟩
  | d :: r, p, h => by
    simp only [doorsOk, Bool.and_eq_true] at h
    obtain ⟨h1, h2⟩ := doorsOk_some h.2
    refine ⟨fun e he => ?_, List.Pairwise.cons (fun e he => (h1 e he).2) h2⟩
    rcases List.mem_cons.1 he with rfl | he
    · exact h.1
    · exact ⟨(h1 e he).1, dlt_trans h.1.2 (h1 e he).2⟩
theorem doorsOk_spec {H : Int} {ds : List GDoor} (h : doorsOk H none ds = true) : (∀ d ∈ ds, doorOk H d = true) ∧ NoTwice ds := by
  cases ds with
  | nil => exact ⟨fun d hd => by simp at hd, List.Pairwise.nil⟩
  | cons d r =>
    simp only [doorsOk, Bool.and_eq_true] at h
    obtain ⟨h1, h2⟩ := doorsOk_some h.2
    refine ⟨fun e he => ?_, List.Pairwise.cons (fun e he => (h1 e he).2) h2⟩
    rcases List.mem_cons.1 he with rfl | he
    · exact h.1
    · exact (h1 e he).1
theorem filter_door {x k : Int} : ∀ {ds : List GDoor}, NoTwice ds → ((ds.filter (isDoor x k)).map fun _ => k) = if doorB ds x k = true then [k] else []
  | [], _ => rfl
  | d :: r, h => by
    unfold NoTwice at h
    rw [List.pairwise_cons] at h
    have ih := filter_door (x := x) (k := k) h.2
    rw [List.filter_cons]
    have hd : doorB (d :: r) x k = (isDoor x k d || doorB r x k) := by simp [doorB]
    rw [hd]
    cases hi : isDoor x k d with
    | false => simpa using ih
    | true =>
      have hr : r.filter (isDoor x k) = [] := by
        rw [List.filter_eq_nil_iff]
        intro e he hc
        refine dlt_irrefl (h.1 e he) ?_
        simp only [isDoor, Bool.and_eq_true, beq_iff_eq] at hi hc
        exact ⟨by rw [hi.1, hc.1], by rw [hi.2, hc.2]⟩
      simp [hr]
/-- The neighbours of x, ascending. -/
def nbr (ds : List GDoor) (h : Nat) (x : Int) : List Nat := (List.range h).filter fun k => doorB ds x k
theorem linksTo_nbr {ds : List GDoor} (hs : NoTwice ds) (x : Int) (h : Nat) : linksTo ds x h = (nbr ds h x).map fun (k : Nat) => (k : Int) := by
  induction h with
  | zero => rfl
  | succ h ih =>
    have e : ((ds.filter (isDoor x h)).map fun _ => (h : Int)) = if doorB ds x h = true then [(h : Int)] else [] := filter_door hs
    rw [linksTo_succ, ih, e, nbr, nbr, List.range_succ, List.filter_append]
    cases hd : doorB ds x h <;> simp [hd]
theorem nbr_len (ds : List GDoor) (h : Nat) (x : Int) : (nbr ds h x).length ≤ h := by
  unfold nbr; exact Nat.le_trans (List.length_filter_le _ _) (by simp)
theorem nbr_lt {ds : List GDoor} {h : Nat} {x : Int} {k : Nat} (hk : k ∈ nbr ds h x) : k < h := by
  unfold nbr at hk; simpa using (List.mem_filter.1 hk).1
/-- The search: the halls found so far in their order, from where each was found, how far each is. -/
structure BS where
  q : List Int
  f : List Int
  d : List Int
def vis (x : Int) (S : BS) (k : Nat) : BS := if S.f.getD k 0 < 0 then ⟨S.q ++ [(k : Int)], S.f.set k x, S.d.set k (S.d.getD x.toNat 0 + 1)⟩ else S
def visB (ds : List GDoor) (x : Int) (S : BS) (k : Nat) : BS := if doorB ds x k then vis x S k else S
def rnd (ds : List GDoor) (h : Nat) (S : BS) (i : Nat) : BS := (List.range h).foldl (visB ds (S.q.getD i 0)) S
def bfs (ds : List GDoor) (h : Nat) : Nat → Nat → BS → BS
  | 0, _, S => S
  | n + 1, i, S => if i < S.q.length then bfs ds h n (i + 1) (rnd ds h S i) else S
def bs0 (h a : Nat) : BS := ⟨[(a : Int)], (List.replicate h (-1)).set a (a : Int), (List.replicate h (-1)).set a 0⟩
def bfsAll (ds : List GDoor) (h a : Nat) : BS := bfs ds h h 0 (bs0 h a)
theorem rnd_nbr (ds : List GDoor) (h : Nat) (S : BS) (i : Nat) : rnd ds h S i = (nbr ds h (S.q.getD i 0)).foldl (vis (S.q.getD i 0)) S := by
  unfold rnd nbr
  rw [List.foldl_filter]
  rfl
structure BInv (a h : Nat) (S : BS) : Prop where
  ah : a < h
  lf : S.f.length = h
  ld : S.d.length = h
  iff_ : ∀ k, k < h → (S.f.getD k 0 < 0 ↔ S.d.getD k 0 < 0)
  qin : ∀ x ∈ S.q, ∃ k, k < h ∧ x = (k : Int) ∧ 0 ≤ S.f.getD k 0
  cnt : S.q.length = S.f.countP fun z => decide (0 ≤ z)
  par : ∀ k, k < h → 0 ≤ S.f.getD k 0 → k ≠ a → ∃ p, p < h ∧ S.f.getD k 0 = (p : Int) ∧ 0 ≤ S.f.getD p 0 ∧ S.d.getD k 0 = S.d.getD p 0 + 1
  root : S.f.getD a 0 = (a : Int) ∧ S.d.getD a 0 = 0
  dlt_ : ∀ k, k < h → 0 ≤ S.f.getD k 0 → S.d.getD k 0 < S.q.length
theorem BInv.qle {a h : Nat} {S : BS} (I : BInv a h S) : S.q.length ≤ h := by
  rw [I.cnt, ← I.lf]; exact List.countP_le_length
theorem getD_set' (l : List Int) (i j : Nat) (x : Int) (hi : i < l.length) : (l.set i x).getD j 0 = if j = i then x else l.getD j 0 := by
  by_cases h : j = i
  · subst h; simp [hi]
  · rw [if_neg h]; simp [Ne.symm h]
theorem countP_set {l : List Int} {k : Nat} {x : Int} (hk : k < l.length) (h0 : l.getD k 0 < 0) (hx : 0 ≤ x) : (l.set k x).countP (fun z => decide (0 ≤ z)) = l.countP (fun z => decide (0 ≤ z)) + 1 := by
  induction l generalizing k with
  | nil => simp at hk
  | cons y l ih =>
    cases k with
    | zero =>
      simp only [List.set_cons_zero, List.countP_cons]
      have hy : ¬ 0 ≤ y := by simp at h0; omega
      simp [hx, hy]
    | succ k =>
      simp only [List.set_cons_succ, List.countP_cons]
      have := ih (k := k) (by simpa using hk) (by simpa using h0)
      omega
theorem BInv.vis {a h : Nat} {S : BS} (I : BInv a h S) {p k : Nat} (hp : p < h) (hfp : 0 ≤ S.f.getD p 0) (hk : k < h) : BInv a h (vis (p : Int) S k) := by
  unfold Proofs.Ytfhibjehnoibeaa.vis
  by_cases hf : S.f.getD k 0 < 0
  · rw [if_pos hf]
    have lf := I.lf
    have ld := I.ld
    have hka : k ≠ a := by rintro rfl; have := I.root.1; omega
    have hkp : k ≠ p := by rintro rfl; omega
    have gf : ∀ j, (S.f.set k (p : Int)).getD j 0 = if j = k then (p : Int) else S.f.getD j 0 := fun j => getD_set' _ _ _ _ (by omega)
    have gd : ∀ j, (S.d.set k (S.d.getD p 0 + 1)).getD j 0 = if j = k then S.d.getD p 0 + 1 else S.d.getD j 0 := fun j => getD_set' _ _ _ _ (by omega)
    have hdp := I.dlt_ p hp hfp
    have hdp0 : 0 ≤ S.d.getD p 0 := by have := (I.iff_ p hp); omega
    rw [Int.toNat_natCast]
    refine ⟨I.ah, by simpa using lf, by simpa using ld, ?_, ?_, ?_, ?_, ?_, ?_⟩
    · intro j hj
      simp only [gf, gd]
      by_cases hjk : j = k
      · simp only [hjk, if_true]; omega
      · simp only [hjk, if_false]; exact I.iff_ j hj
    · intro x hx
      simp only at hx
      rcases List.mem_append.1 hx with hx | hx
      · obtain ⟨j, h1, h2, h3⟩ := I.qin x hx
        refine ⟨j, h1, h2, ?_⟩
        simp only [gf]
        split <;> omega
      · simp at hx
        refine ⟨k, hk, hx, ?_⟩
        simp only [gf, if_true]; omega
    · simp only
      rw [countP_set (by omega) hf (by omega), List.length_append, I.cnt]; rfl
    · intro j hj hfj hja
      simp only [gf, gd] at hfj ⊢
      by_cases hjk : j = k
      · subst hjk
        simp only [if_true]
        exact ⟨p, hp, rfl, by rw [if_neg (Ne.symm hkp)]; exact hfp, by rw [if_neg (Ne.symm hkp)]⟩
      · simp only [hjk, if_false] at hfj ⊢
        obtain ⟨r, h1, h2, h3, h4⟩ := I.par j hj hfj hja
        have hrk : r ≠ k := by rintro rfl; omega
        exact ⟨r, h1, h2, by rw [if_neg hrk]; exact h3, by rw [if_neg hrk]; exact h4⟩
    · simp only [gf, gd, Ne.symm hka, if_false]
      exact I.root
    · intro j hj hfj
      simp only [gf, gd, List.length_append, List.length_cons, List.length_nil] at hfj ⊢
      by_cases hjk : j = k
      · simp only [hjk, if_true]; omega
      · simp only [hjk, if_false] at hfj ⊢
        have := I.dlt_ j hj hfj
        omega
  · rw [if_neg hf]; exact I
theorem vis_mono {x : Int} {S : BS} {k j : Nat} (hx : 0 ≤ x) (h : 0 ≤ S.f.getD j 0) : 0 ≤ (vis x S k).f.getD j 0 := by
  unfold vis
  split
  · rename_i hf
    by_cases hk : k < S.f.length
    · simp only; rw [getD_set' _ _ _ _ hk]; split <;> omega
    · simp only; rw [List.set_eq_of_length_le (by omega)]; exact h
  · exact h
theorem vis_q {x : Int} {S : BS} {k i : Nat} (hi : i < S.q.length) : (vis x S k).q.getD i 0 = S.q.getD i 0 ∧ i < (vis x S k).q.length := by
  unfold vis
  split
  · simp only [List.length_append]; refine ⟨?_, by omega⟩; simp [List.getElem?_append_left hi]
  · exact ⟨rfl, hi⟩
theorem BInv.fold {a h : Nat} {p : Nat} (hp : p < h) : ∀ (ns : List Nat) {S : BS}, BInv a h S → 0 ≤ S.f.getD p 0 → (∀ k ∈ ns, k < h) → BInv a h (ns.foldl (Proofs.Ytfhibjehnoibeaa.vis (p : Int)) S)
  | [], S, I, _, _ => I
  | k :: ns, S, I, hf, hn => BInv.fold hp ns (I.vis hp hf (hn k (by simp))) (vis_mono (by omega) hf) (fun j hj => hn j (by simp [hj]))
theorem BInv.rnd {a h : Nat} {ds : List GDoor} {S : BS} (I : BInv a h S) {i : Nat} (hi : i < S.q.length) : BInv a h (rnd ds h S i) := by
  obtain ⟨p, hp, hx, hf⟩ := I.qin (S.q.getD i 0) (by
    have : S.q.getD i 0 = S.q[i] := by simp [hi]
    rw [this]; exact List.getElem_mem hi)
  rw [rnd_nbr, hx]
  exact BInv.fold hp _ I hf (fun k hk => nbr_lt hk)
theorem binv0 {a h : Nat} (ha : a < h) : BInv a h (bs0 h a) := by
  have g : ∀ (z x : Int) j, ((List.replicate h z).set a x).getD j 0 = if j = a then x else (List.replicate h z).getD j 0 := fun z x j => getD_set' _ _ _ _ (by simpa using ha)
  have r : ∀ j, j < h → (List.replicate h (-1 : Int)).getD j 0 = -1 := by intro j hj; simp [hj]
  have hn : ∀ n, (List.replicate n (-1 : Int)).countP (fun z => decide (0 ≤ z)) = 0 := by intro n; simp [List.countP_replicate]
  refine ⟨ha, by simp [bs0], by simp [bs0], ?_, ?_, ?_, ?_, ?_, ?_⟩
  · intro k hk
    simp only [bs0, g]
    split
    · omega
    · rw [r k hk]
  · intro x hx
    simp [bs0] at hx
    exact ⟨a, ha, hx, by simp only [bs0, g, if_true]; omega⟩
  · simp only [bs0]
    rw [countP_set (by simpa using ha) (by rw [r a ha]; omega) (by omega), hn]; rfl
  · intro k hk hf hka
    simp only [bs0, g, hka, if_false] at hf
    rw [r k hk] at hf
    omega
  · simp only [bs0, g, if_true]; exact ⟨trivial, trivial⟩
  · intro k hk hf
    simp only [bs0, g] at hf ⊢
    by_cases hka : k = a
    · simp [hka]
    · simp only [hka, if_false] at hf; rw [r k hk] at hf; omega
theorem BInv.bfs {a h : Nat} {ds : List GDoor} : ∀ (n i : Nat) {S : BS}, BInv a h S → BInv a h (bfs ds h n i S)
  | 0, _, _, I => I
  | n + 1, i, S, I => by
    unfold Proofs.Ytfhibjehnoibeaa.bfs
    split
    · rename_i hi; exact BInv.bfs n (i + 1) (I.rnd hi)
    · exact I
theorem BInv.all {a h : Nat} (ds : List GDoor) (ha : a < h) : BInv a h (bfsAll ds h a) := BInv.bfs h 0 (binv0 ha)
def reachB (ds : List GDoor) (h a b : Nat) : Bool := decide (0 ≤ (bfsAll ds h a).f.getD b 0)
def houseB (H : Int) (ds : List GDoor) : Bool := formB H ds && (List.range H.toNat).all fun k => reachB ds H.toNat 0 k
end Go.Proofs.Ytfhibjehnoibeaa
/- Small rewrite rules for cells behind new blocks and stores elsewhere; no condition but what stands at each. -/
namespace Go.Proofs.Ytfhibjehnoibeaa
set_option linter.unusedSimpArgs false
set_option linter.unusedVariables false
open Go.RowKit
theorem cell_alloc_look (w : World) (o : Obj) (a : Addr) (h : (w.cell? a).isSome = true) : (w.alloc o).cell? a = w.cell? a := by
  obtain ⟨u, hu⟩ := Option.isSome_iff_exists.1 h
  exact World.cell?_alloc_lt w o a (World.block_lt_of_cell? w a hu)
theorem cell_set_far (w : World) (p a : Addr) (v : Value) (h : p.block ≠ a.block) : (w.setCell p v).cell? a = w.cell? a :=
  World.cell?_setCell_other w p a v (fun e => h (by rw [e]))
end Go.Proofs.Ytfhibjehnoibeaa
/- Folds over the first k elements, and the elements of typed rows; no condition but what stands at each theorem. -/
namespace Go.Proofs.Ytfhibjehnoibeaa
set_option linter.unusedSimpArgs false
set_option linter.unusedVariables false
open Go.RowKit
theorem fold_step {α β : Type} (f : β → α → β) (a : β) {xs : List α} {k : Nat} {x : α} (h : xs[k]? = some x) : (xs.take (k + 1)).foldl f a = f ((xs.take k).foldl f a) x := by
  have hk : k < xs.length := (List.getElem?_eq_some_iff.1 h).1
  have hx : xs[k] = x := (List.getElem?_eq_some_iff.1 h).2
  rw [List.take_succ_eq_append_getElem hk, List.foldl_append, hx]; rfl
theorem take_snoc {α : Type} {xs : List α} {k : Nat} {x : α} (h : xs[k]? = some x) : xs.take (k + 1) = xs.take k ++ [x] := by
  have hk : k < xs.length := (List.getElem?_eq_some_iff.1 h).1
  have hx : xs[k] = x := (List.getElem?_eq_some_iff.1 h).2
  rw [List.take_succ_eq_append_getElem hk, hx]
theorem GShift.len (x : GShift) : x.enc.length = 3 := rfl
theorem GCheck.len (x : GCheck) : x.enc.length = 3 := rfl
theorem GLoan.len (x : GLoan) : x.enc.length = 4 := rfl
theorem GClimate.len (x : GClimate) : x.enc.length = 3 := rfl
theorem GAct.len (x : GAct) : x.enc.length = 5 := rfl
theorem GStay.len (x : GStay) : x.enc.length = 4 := rfl
theorem GDoor.len (x : GDoor) : x.enc.length = 2 := rfl
theorem GMove.len (x : GMove) : x.enc.length = 4 := rfl
theorem ienc_len (x : Int) : (ienc x).length = 1 := rfl
section
variable {w : World} {A : Option Addr} {n k : Nat}
theorem GShift.at_ {xs : List GShift} (h : Rd w 3 A n (xs.flatMap GShift.enc)) (hk : k < n) :
    ∃ (b off : Nat) (x : GShift), A = some ⟨b, off, none⟩ ∧ b < w.heap.size ∧ xs[k]? = some x ∧ w.cell? ⟨b, off + k * 3, none⟩ = some (.int .i64 x.g) ∧ w.cell? ⟨b, off + k * 3 + 1, none⟩ = some (.int .i64 x.f) ∧ w.cell? ⟨b, off + k * 3 + 2, none⟩ = some (.int .i64 x.t) :=
  Rd.at3 (p := fun (s : GShift) => .int .i64 s.g) (q := fun s => .int .i64 s.f) (r := fun s => .int .i64 s.t) (fun _ => rfl) h hk
theorem GCheck.at_ {xs : List GCheck} (h : Rd w 3 A n (xs.flatMap GCheck.enc)) (hk : k < n) :
    ∃ (b off : Nat) (x : GCheck), A = some ⟨b, off, none⟩ ∧ b < w.heap.size ∧ xs[k]? = some x ∧ w.cell? ⟨b, off + k * 3, none⟩ = some (.int .i64 x.m) ∧ w.cell? ⟨b, off + k * 3 + 1, none⟩ = some (.int .i64 x.o) ∧ w.cell? ⟨b, off + k * 3 + 2, none⟩ = some (.bool x.th) :=
  Rd.at3 (p := fun (s : GCheck) => .int .i64 s.m) (q := fun s => .int .i64 s.o) (r := fun s => .bool s.th) (fun _ => rfl) h hk
theorem GClimate.at_ {xs : List GClimate} (h : Rd w 3 A n (xs.flatMap GClimate.enc)) (hk : k < n) :
    ∃ (b off : Nat) (x : GClimate), A = some ⟨b, off, none⟩ ∧ b < w.heap.size ∧ xs[k]? = some x ∧ w.cell? ⟨b, off + k * 3, none⟩ = some (.int .i64 x.l) ∧ w.cell? ⟨b, off + k * 3 + 1, none⟩ = some (.int .i64 x.h) ∧ w.cell? ⟨b, off + k * 3 + 2, none⟩ = some (.int .i64 x.g) :=
  Rd.at3 (p := fun (s : GClimate) => .int .i64 s.l) (q := fun s => .int .i64 s.h) (r := fun s => .int .i64 s.g) (fun _ => rfl) h hk
theorem GLoan.at_ {xs : List GLoan} (h : Rd w 4 A n (xs.flatMap GLoan.enc)) (hk : k < n) :
    ∃ (b off : Nat) (x : GLoan), A = some ⟨b, off, none⟩ ∧ b < w.heap.size ∧ xs[k]? = some x ∧ w.cell? ⟨b, off + k * 4, none⟩ = some (.int .i64 x.l) ∧ w.cell? ⟨b, off + k * 4 + 1, none⟩ = some (.int .i64 x.lo) ∧ w.cell? ⟨b, off + k * 4 + 2, none⟩ = some (.int .i64 x.hi) ∧ w.cell? ⟨b, off + k * 4 + 3, none⟩ = some (.int .i64 x.g) :=
  Rd.at4 (p := fun (s : GLoan) => .int .i64 s.l) (q := fun s => .int .i64 s.lo) (r := fun s => .int .i64 s.hi) (s := fun s => .int .i64 s.g) (fun _ => rfl) h hk
theorem GStay.at_ {xs : List GStay} (h : Rd w 4 A n (xs.flatMap GStay.enc)) (hk : k < n) :
    ∃ (b off : Nat) (x : GStay), A = some ⟨b, off, none⟩ ∧ b < w.heap.size ∧ xs[k]? = some x ∧ w.cell? ⟨b, off + k * 4, none⟩ = some (.int .i64 x.p) ∧ w.cell? ⟨b, off + k * 4 + 1, none⟩ = some (.int .i64 x.h) ∧ w.cell? ⟨b, off + k * 4 + 2, none⟩ = some (.int .i64 x.f) ∧ w.cell? ⟨b, off + k * 4 + 3, none⟩ = some (.int .i64 x.t) :=
  Rd.at4 (p := fun (s : GStay) => .int .i64 s.p) (q := fun s => .int .i64 s.h) (r := fun s => .int .i64 s.f) (s := fun s => .int .i64 s.t) (fun _ => rfl) h hk
theorem GMove.at_ {xs : List GMove} (h : Rd w 4 A n (xs.flatMap GMove.enc)) (hk : k < n) :
    ∃ (b off : Nat) (x : GMove), A = some ⟨b, off, none⟩ ∧ b < w.heap.size ∧ xs[k]? = some x ∧ w.cell? ⟨b, off + k * 4, none⟩ = some (.int .i64 x.o) ∧ w.cell? ⟨b, off + k * 4 + 1, none⟩ = some (.int .i64 x.t) ∧ w.cell? ⟨b, off + k * 4 + 2, none⟩ = some (.int .i64 x.f) ∧ w.cell? ⟨b, off + k * 4 + 3, none⟩ = some (.int .i64 x.s) :=
  Rd.at4 (p := fun (s : GMove) => .int .i64 s.o) (q := fun s => .int .i64 s.t) (r := fun s => .int .i64 s.f) (s := fun s => .int .i64 s.s) (fun _ => rfl) h hk
theorem GAct.at_ {xs : List GAct} (h : Rd w 5 A n (xs.flatMap GAct.enc)) (hk : k < n) :
    ∃ (b off : Nat) (x : GAct), A = some ⟨b, off, none⟩ ∧ b < w.heap.size ∧ xs[k]? = some x ∧ w.cell? ⟨b, off + k * 5, none⟩ = some (.int .i64 x.k) ∧ w.cell? ⟨b, off + k * 5 + 1, none⟩ = some (.int .i64 x.a) ∧ w.cell? ⟨b, off + k * 5 + 2, none⟩ = some (.int .i64 x.b) ∧ w.cell? ⟨b, off + k * 5 + 3, none⟩ = some (.int .i64 x.c) ∧ w.cell? ⟨b, off + k * 5 + 4, none⟩ = some (.int .i64 x.d) :=
  Rd.at5 (p := fun (s : GAct) => .int .i64 s.k) (q := fun s => .int .i64 s.a) (r := fun s => .int .i64 s.b) (s := fun s => .int .i64 s.c) (t := fun s => .int .i64 s.d) (fun _ => rfl) h hk
theorem GDoor.at_ {xs : List GDoor} (h : Rd w 2 A n (xs.flatMap GDoor.enc)) (hk : k < n) :
    ∃ (b off : Nat) (x : GDoor), A = some ⟨b, off, none⟩ ∧ b < w.heap.size ∧ xs[k]? = some x ∧ w.cell? ⟨b, off + k * 2, none⟩ = some (.int .i64 x.a) ∧ w.cell? ⟨b, off + k * 2 + 1, none⟩ = some (.int .i64 x.b) :=
  Rd.at2 (p := fun (s : GDoor) => .int .i64 s.a) (q := fun s => .int .i64 s.b) (fun _ => rfl) h hk
theorem ienc_at {xs : List Int} (h : Rd w 1 A n (xs.flatMap ienc)) (hk : k < n) :
    ∃ (b off : Nat) (x : Int), A = some ⟨b, off, none⟩ ∧ b < w.heap.size ∧ xs[k]? = some x ∧ w.cell? ⟨b, off + k, none⟩ = some (.int .i64 x) :=
  Rd.at1 (p := fun (s : Int) => .int .i64 s) (fun _ => rfl) h hk
end
end Go.Proofs.Ytfhibjehnoibeaa
/- Rows of the call's own: made, written element by element; no condition but what stands at each theorem. -/
namespace Go.Proofs.Ytfhibjehnoibeaa
set_option linter.unusedSimpArgs false
set_option linter.unusedVariables false
open Go.RowKit
theorem make_row {P : Program} (t e : TypeId) (i : TypeInfo) (z : Value) (ht : P.underlying t = some (.slice e)) (hi : P.info? e = some i) (hz : i.zero = some z) (n : Nat) (hb : i.bytes * n ≤ 281474976710656) (h63 : n ≤ 9223372036854775807) (w : World) :
    (Instr.makeSlice t (.int .i64 (n : Int)) (.int .i64 (n : Int))).run P w = .ok (.slice (some ⟨w.heap.size, 0, none⟩) n n) (w.alloc (.cells (madeCells z.cells (n * i.size)) e)) := by
  have h1 : (i.bytes : Int) * (n : Int) ≤ 281474976710656 := by
    have h : ((i.bytes * n : Nat) : Int) ≤ 281474976710656 := by omega
    rwa [Int.natCast_mul] at h
  have hr := run_make (P := P) w t e i z ht hi hz .i64 .i64 n n (by omega) (by omega) h1 (by omega)
  simp only [Int.toNat_natCast] at hr
  exact hr
/-- The cells cur with vs written from o on. -/
def setRow : Array Value → Nat → List Value → Array Value
  | cur, _, [] => cur
  | cur, o, v :: r => setRow (cur.setIfInBounds o v) (o + 1) r
theorem setRow_size : ∀ (vs : List Value) (cur : Array Value) (o : Nat), (setRow cur o vs).size = cur.size
  | [], _, _ => rfl
  | v :: r, cur, o => by rw [setRow, setRow_size r]; simp
theorem setRow_get : ∀ (vs : List Value) (cur : Array Value) (o j : Nat), o + vs.length ≤ cur.size → (setRow cur o vs)[j]? = if o ≤ j ∧ j < o + vs.length then vs[j - o]? else cur[j]?
  | [], cur, o, j, _ => by simp [setRow]; intro h1 h2; omega
  | v :: r, cur, o, j, h => by
    simp only [List.length_cons] at h
    rw [setRow, setRow_get r _ (o + 1) j (by simp; omega)]
    simp only [List.length_cons]
    by_cases h1 : o + 1 ≤ j ∧ j < o + 1 + r.length
    · rw [if_pos h1, if_pos (by omega), show j - o = (j - (o + 1)) + 1 by omega]; rfl
    · rw [if_neg h1]
      by_cases h2 : j = o
      · subst h2
        rw [if_pos (by omega), Nat.sub_self, Array.getElem?_setIfInBounds, if_pos rfl, if_pos (by omega)]; rfl
      · rw [if_neg (by omega), Array.getElem?_setIfInBounds, if_neg (by omega)]
theorem setRow_take {cur : Array Value} {k m : Nat} {vs L : List Value} (hm : vs.length = m) (hk : (k + 1) * m ≤ cur.size) (ht : cur.toList.take (k * m) = L) : (setRow cur (k * m) vs).toList.take ((k + 1) * m) = L ++ vs := by
  have hkm : (k + 1) * m = k * m + m := by rw [Nat.add_mul]; omega
  have hL : L.length = k * m := by rw [← ht, List.length_take, Array.length_toList]; omega
  have hs : (setRow cur (k * m) vs).toList.length = cur.size := by rw [Array.length_toList, setRow_size]
  apply List.ext_getElem?
  intro j
  rw [List.getElem?_take]
  by_cases hj : j < (k + 1) * m
  · rw [if_pos hj, Array.getElem?_toList, setRow_get vs cur _ j (by omega)]
    by_cases h1 : k * m ≤ j
    · rw [if_pos (by omega), List.getElem?_append_right (by omega), hL]
    · rw [if_neg (by omega), List.getElem?_append_left (by omega), ← ht, List.getElem?_take, if_pos (by omega), Array.getElem?_toList]
  · rw [if_neg hj, List.getElem?_eq_none (by rw [List.length_append]; omega)]
/-- Block g is just the cells cs of element type t, none frozen. -/
def Blk (w : World) (g : Nat) (t : TypeId) (cs : Array Value) : Prop := w.heap[g]? = some (.cells cs t (0, 0))
section
variable {w w' : World} {g : Nat} {t : TypeId} {cs : Array Value}
theorem Blk.lt (h : Blk w g t cs) : g < w.heap.size := (Array.getElem?_eq_some_iff.1 h).1
theorem Blk.cell (h : Blk w g t cs) (i : Nat) : w.cell? ⟨g, i, none⟩ = cs[i]? := by unfold Blk at h; simp [World.cell?, h]
theorem Blk.cellAt (h : Blk w g t cs) {i : Nat} (hi : i < cs.size) : w.cell? ⟨g, i, none⟩ = some (cs[i]) := by rw [h.cell, Array.getElem?_eq_getElem hi]
theorem Blk.free (h : Blk w g t cs) (i : Nat) : w.frozen? ⟨g, i, none⟩ = false := by unfold Blk at h; simp [World.frozen?, h]
theorem Blk.new (w : World) (t : TypeId) (cs : Array Value) : Blk (w.alloc (.cells cs t)) w.heap.size t cs := heap_alloc_new w _
theorem Blk.keep (h : Blk w g t cs) (e : Ext w w') : Blk w' g t cs := (Below.block e.below g h.lt).trans h
theorem Blk.drew (h : Blk w g t cs) : Blk w.drew g t cs := h
theorem Blk.set (h : Blk w g t cs) (i : Nat) (u : Value) : Blk (w.setCell ⟨g, i, none⟩ u) g t (cs.setIfInBounds i u) := by
  unfold Blk at h ⊢
  simp [World.setCell, Array.getElem?_modify, h]
theorem Blk.far (h : Blk w g t cs) {p : Addr} (hp : g ≠ p.block) (u : Value) : Blk (w.setCell p u) g t cs := (Below.heap_setCell w p u g hp).trans h
end
theorem Blk.sets : ∀ (vs : List Value) {w : World} {g : Nat} {t : TypeId} {cs : Array Value} (o : Nat), Blk w g t cs → Blk (w.setCells g o vs) g t (setRow cs o vs)
  | [], _, _, _, _, _, h => h
  | v :: r, _, _, _, _, o, h => Blk.sets r (o + 1) (h.set o v)
theorem Ext.sets : ∀ (vs : List Value) {a w : World} {g : Nat} (o : Nat), Ext a w → a.heap.size ≤ g → Ext a (w.setCells g o vs)
  | [], _, _, _, _, h, _ => h
  | v :: r, _, _, _, o, h, hg => Ext.sets r (o + 1) (h.setCell (p := ⟨_, o, none⟩) hg v) hg
theorem own_of_blk {w : World} {base g : Nat} {t : TypeId} {m n : Nat} {cur : Array Value} {L : List Value} (hb : base ≤ g) (h : Blk w g t cur) (hs : cur.size = n * m) (hn : n ≤ maxLen) (hL : cur.toList.take (n * m) = L) :
    w.ownsRow base t m (.slice (some ⟨g, 0, none⟩) n n) n L :=
  ⟨by rw [← hL, List.length_take, Array.length_toList, hs]; omega, .inr ⟨g, n, cur, rfl, hb, h, Nat.le_refl _, hn, hs, hL⟩⟩
/-- What a call made stays its own behind whatever only adds. -/
theorem own_keep {w w' : World} {base : Nat} {t : TypeId} {m n : Nat} {v : Value} {L : List Value} (h : w.ownsRow base t m v n L) (e : Ext w w') : w'.ownsRow base t m v n L := by
  refine ⟨h.1, ?_⟩
  rcases h.2 with hn | ⟨g, cap, cur, rfl, hb, hg, r⟩
  · exact .inl hn
  · exact .inr ⟨g, cap, cur, rfl, hb, (Below.block e.below g (Array.getElem?_eq_some_iff.1 hg).1).trans hg, r⟩
end Go.Proofs.Ytfhibjehnoibeaa
/- One element appended to a row of the call's own; no condition but what stands at each theorem. -/
namespace Go.Proofs.Ytfhibjehnoibeaa
set_option linter.unusedSimpArgs false
set_option linter.unusedVariables false
open Go.RowKit
/-- Type st is 'slice of e', an element has m cells and at most 4096 bytes. -/
def EI (P : Program) (st e : TypeId) (m : Nat) : Prop :=
  ∃ i z, P.underlying st = some (.slice e) ∧ P.info? e = some i ∧ i.zero = some z ∧ i.size = m ∧ i.bytes ≤ 4096 ∧ z.cells.size = m ∧ 0 < m
theorem ei_of {P : Program} {st e : TypeId} {m : Nat} (hu : P.underlying st = some (.slice e)) (h0 : 0 < m)
    (h : (P.info? e).map (fun i => (i.zero.map (·.cells.size), i.size, decide (i.bytes ≤ 4096))) = some (some m, m, true)) : EI P st e m := by
  cases hi : P.info? e with
  | none => rw [hi] at h; cases h
  | some i =>
  rw [hi] at h
  simp only [Option.map_some, Option.some.injEq, Prod.mk.injEq, decide_eq_true_eq] at h
  obtain ⟨hz0, hsz, hby⟩ := h
  cases hz : i.zero with
  | none => rw [hz] at hz0; cases hz0
  | some z =>
  rw [hz] at hz0
  simp only [Option.map_some, Option.some.injEq] at hz0
  exact ⟨i, z, hu, hi, hz, hsz, hby, hz0, h0⟩
theorem ext_grown {W w1 : World} {row : Option Nat} {o : Obj} {base : Nat} (hg : (W.alloc o).grownBy w1 row) (hr : ∀ k, row = some k → base ≤ k) : ∀ a, Ext a W → a.heap.size ≤ base → Ext a w1 := by
  intro a ha hb
  exact (ha.alloc o).grown hg (fun k hk => Nat.le_trans hb (hr k hk))
theorem append1 {P : Program} {ops : Array Oper} {rest : List Oper} {o : Oper} {a : Act} {Q : Exit → Act → World → Prop} {t e : TypeId} {m : Nat} (hE : EI P t e m) (hgd : o.guard = none) (s x : Operand)
    (ho : o.op = .call { callee := .builtin .append, args := #[s, x], argTypes := #[t, t] }) (base : Nat) (W : World) (T : TypeId) (v : Value) (n : Nat) (xs : List Value) (hs : a.eval s = v) (hown : W.ownsRow base e m v n xs)
    (news : List Value) (hx : a.eval x = .slice (some ⟨W.heap.size, 0, none⟩) 1 1) (hl : news.length = m) (h1 : ∀ u ∈ news, u.oneCell' = true) (hn : n ≤ 1073741824) (hbase : base ≤ W.heap.size)
    (h : ∀ v' w1, w1.ownsRow base e m v' (n + 1) (xs ++ news) → (∀ b, Ext b W → b.heap.size ≤ base → Ext b w1) → wpList P ops Q rest (a.put o.dst v') w1) : wpList P ops Q (o :: rest) a (W.alloc (.cells news.toArray T)) := by
  obtain ⟨i, z, hu, hi, hz, hsz, hby, hzs, h0⟩ := hE
  refine wpList_append_own _ hgd s x t ho base e i z m i.bytes hu hi hz hsz rfl hzs h0 v n xs hs (hown.alloc _) ⟨W.heap.size, 0, none⟩ 1 1 news hx (by omega) ?_ h1 (by unfold maxLen; omega) ?_ (by simp; omega) ?_
  · intro j u hu'
    rw [add_none, Nat.zero_add, World.cell?_alloc_new]
    simpa using hu'
  · have := Nat.mul_le_mul_left (n + 1) hby
    omega
  · intro v' w1 ho' hg _
    exact h v' w1 ho' (ext_grown hg (fun k hk => (hown.lt k hk).1))
theorem own_form {w : World} {base : Nat} {e : TypeId} {m n : Nat} {v : Value} {L : List Value} (h : w.ownsRow base e m v n L) : ∃ A c, v = .slice A n c ∧ n ≤ c := by
  rcases h.2 with ⟨rfl, rfl⟩ | ⟨g, cap, cur, rfl, _, _, hnc, _⟩
  · exact ⟨none, 0, rfl, Nat.le_refl _⟩
  · exact ⟨_, cap, rfl, hnc⟩
theorem own_weak {w : World} {base base' : Nat} {e : TypeId} {m n : Nat} {v : Value} {L : List Value} (h : w.ownsRow base e m v n L) (hb : base' ≤ base) : w.ownsRow base' e m v n L :=
  ⟨h.1, h.2.imp id fun ⟨g, cap, cur, h1, h2, r⟩ => ⟨g, cap, cur, h1, Nat.le_trans hb h2, r⟩⟩
theorem own_empty (w : World) (base : Nat) (e : TypeId) (m : Nat) (hb : base ≤ w.heap.size) : (w.alloc (.cells #[] e)).ownsRow base e m (.slice (some ⟨w.heap.size, 0, none⟩) 0 0) 0 [] :=
  World.ownsRow_made w #[] 0 hb (by unfold maxLen; omega) (by simp)
end Go.Proofs.Ytfhibjehnoibeaa
/- Rows that are written over in place, and what stays elsewhere; no condition but what stands at each theorem. -/
namespace Go.Proofs.Ytfhibjehnoibeaa
set_option linter.unusedSimpArgs false
set_option linter.unusedVariables false
open Go.RowKit
/-- Where a row of one's own may lie. -/
def At (lo hi : Nat) (v : Value) : Prop := ∀ g, v.ownBlock = some g → lo ≤ g ∧ g < hi
theorem At.of_own {w : World} {base : Nat} {e : TypeId} {m n : Nat} {v : Value} {L : List Value} (h : w.ownsRow base e m v n L) : At base w.heap.size v := h.lt
theorem At.mono {lo hi lo' hi' : Nat} {v : Value} (h : At lo hi v) (h1 : lo' ≤ lo) (h2 : hi ≤ hi') : At lo' hi' v := fun g hg => ⟨Nat.le_trans h1 (h g hg).1, Nat.lt_of_lt_of_le (h g hg).2 h2⟩
theorem own_kept {w w' : World} {base : Nat} {e : TypeId} {m n : Nat} {v v' : Value} {L : List Value} {lo hi lo' hi' : Nat} (h : w.ownsRow base e m v n L) (a : At lo hi v) (a' : At lo' hi' v') (hd : hi ≤ lo' ∨ hi' ≤ lo)
    (hg : w.grownBy w' v'.ownBlock) : w'.ownsRow base e m v n L := by
  refine h.kept hg ?_
  cases hv : v.ownBlock with
  | none => exact .inl rfl
  | some g =>
    refine .inr fun e => ?_
    have h1 := a g hv
    have h2 := a' g e.symm
    omega
theorem ext_kept {a w w' : World} {v' : Value} {lo hi : Nat} (h : Ext a w) (at_ : At lo hi v') (hl : a.heap.size ≤ lo) (hg : w.grownBy w' v'.ownBlock) : Ext a w' :=
  h.grown hg fun k hk => Nat.le_trans hl (at_ k hk).1
theorem Rd.kept {w w' : World} {m n : Nat} {A : Option Addr} {xs : List Value} (_h : Rd w m A n xs) (a : World) (ha : Rd a m A n xs) (e : Ext a w') : Rd w' m A n xs := ha.keep e
theorem mark_num {a b : Int} (h : a = b) : Value.int .i64 a = .int .i64 b := by rw [h]
theorem grown_trans {a b c : World} {row : Option Nat} (h : a.grownBy b row) (k : b.grownBy c row) : a.grownBy c row :=
  ⟨k.os.trans h.os, k.tape.trans h.tape, k.output.trans h.output, Nat.le_trans h.size k.size, fun i hi hn => (k.block i (Nat.lt_of_lt_of_le hi h.size) hn).trans (h.block i hi hn)⟩
theorem grown_set {a w : World} {g : Nat} (h : a.grownBy w (some g)) (o : Nat) (u : Value) : a.grownBy (w.setCell ⟨g, o, none⟩ u) (some g) :=
  grown_trans h ⟨rfl, rfl, rfl, by simp [World.setCell], fun k hk hn => Below.heap_setCell w _ u k (fun e => hn (by rw [e]))⟩
theorem grown_sets : ∀ (vs : List Value) {a w : World} {g : Nat} (o : Nat), a.grownBy w (some g) → a.grownBy (w.setCells g o vs) (some g)
  | [], _, _, _, _, h => h
  | v :: r, _, _, _, o, h => grown_sets r (o + 1) (grown_set h o v)
theorem grown_refl (w : World) (row : Option Nat) : w.grownBy w row := ⟨rfl, rfl, rfl, Nat.le_refl _, fun _ _ _ => rfl⟩
theorem own_block {w : World} {base : Nat} {e : TypeId} {m n c : Nat} {A : Option Addr} {L : List Value} (h : w.ownsRow base e m (.slice A n c) n L) :
    (A = none ∧ n = 0 ∧ c = 0) ∨ ∃ g cur, A = some ⟨g, 0, none⟩ ∧ base ≤ g ∧ Blk w g e cur ∧ n ≤ c ∧ c ≤ maxLen ∧ cur.size = c * m ∧ cur.toList.take (n * m) = L := by
  rcases h.2 with ⟨hv, hn⟩ | ⟨g, cap, cur, hv, hb, hg, hnc, hcm, hcs, ht⟩
  · injection hv with h1 h2 h3
    exact .inl ⟨h1, hn, h3⟩
  · injection hv with h1 h2 h3
    subst h3
    exact .inr ⟨g, cur, h1, hb, hg, hnc, hcm, hcs, ht⟩
end Go.Proofs.Ytfhibjehnoibeaa
/- Regions walked once whose calls make memory, rows of ints that are written over; no condition but what stands at each theorem. -/
namespace Go.Proofs.Ytfhibjehnoibeaa
set_option linter.unusedSimpArgs false
set_option linter.unusedVariables false
open Go.RowKit Go.Sort
theorem wp_region_ext {P : Program} {id : Nat} {Q : Exit → Act → World → Prop} {a : Act} {w : World} {l : List Oper} (hm : P.follows .mixedOrders = true) (hB : Region.lexB .any l.toArray = true)
    (h : wpQuiet P l.toArray (fun w' => ∃ p : Regrown, w' = grow (redrawn w p.d) p.os) (fun a' => ∀ w', Ext w w' → Q .normal a' w') l a) : (Code.region id l.toArray true).wp P Q a w :=
  wp_region_quiet (C := fun w' => ∃ p : Regrown, w' = grow (redrawn w p.d) p.os) hm hB ⟨⟨w.drawn + 1, #[]⟩, by rw [grow_empty]; rfl⟩ (by
    have hq : (fun a' => ∀ w', Ext w w' → Q .normal a' w') = (fun a' => ∀ w', (∃ p : Regrown, w' = grow (redrawn w p.d) p.os) → Q .normal a' w') := by
      funext a'
      exact propext ⟨fun h w' ⟨p, hp⟩ => h w' (hp ▸ below_regrown w p.d p.os), fun h w' hw => h w' (regrown_of_below hw)⟩
    rw [hq] at h
    exact h)
theorem ext_rg (w : World) (d : Nat) (os : Array Obj) : Ext w (grow (redrawn w d) os) := below_regrown w d os
theorem Calls.rg {P : Program} {f : FuncId} {args : Array Value} {w : World} {d : Nat} {os : Array Obj} {v : Value}
    (h : Calls P f args (grow (redrawn w d) os) fun e w' => e = .returned v ∧ Ext (grow (redrawn w d) os) w') : Calls P f args (grow (redrawn w d) os) fun e w'' => e = .returned v ∧ ∃ p : Regrown, w'' = grow (redrawn w p.d) p.os :=
  h.mono fun _ _ ⟨he, hb⟩ => ⟨he, regrown_of_below (Ext.trans (below_regrown w d os) hb)⟩
theorem Calls.rg0 {P : Program} {f : FuncId} {args : Array Value} {w : World} {d : Nat} {os : Array Obj} {v : Value}
    (h : Calls P f args (grow (redrawn w d) os) fun e w' => e = .returned v ∧ grow (redrawn w d) os = w') : Calls P f args (grow (redrawn w d) os) fun e w'' => e = .returned v ∧ ∃ p : Regrown, w'' = grow (redrawn w p.d) p.os :=
  h.mono fun _ _ ⟨he, hb⟩ => ⟨he, ⟨d, os⟩, hb.symm⟩
/-- Block g is the ints u, of element type t. -/
def IBlk (w : World) (g : Nat) (t : TypeId) (u : List Int) : Prop := Blk w g t (u.map (Value.int .i64)).toArray
theorem ienc_map (u : List Int) : u.flatMap ienc = u.map (Value.int .i64) := by
  induction u with
  | nil => rfl
  | cons x u ih => rw [List.flatMap_cons, ih]; rfl
section
variable {w w' : World} {g : Nat} {t : TypeId} {u : List Int}
theorem IBlk.lt (h : IBlk w g t u) : g < w.heap.size := Blk.lt h
theorem IBlk.cell (h : IBlk w g t u) {i : Nat} (hi : i < u.length) : w.cell? ⟨g, i, none⟩ = some (.int .i64 (u.getD i 0)) := by
  have := Blk.cell h i
  rw [this]; simp [hi]
theorem IBlk.free (h : IBlk w g t u) (i : Nat) : w.frozen? ⟨g, i, none⟩ = false := Blk.free h i
theorem IBlk.keep (h : IBlk w g t u) (e : Ext w w') : IBlk w' g t u := Blk.keep h e
theorem IBlk.set (h : IBlk w g t u) (i : Nat) (x : Int) : IBlk (w.setCell ⟨g, i, none⟩ (.int .i64 x)) g t (u.set i x) := by
  have h1 := Blk.set h i (.int .i64 x)
  unfold IBlk
  have e : ((u.set i x).map (Value.int .i64)).toArray = ((u.map (Value.int .i64)).toArray).setIfInBounds i (.int .i64 x) := by
    simp [List.map_set]
  rw [e]; exact h1
theorem IBlk.own (h : IBlk w g t u) {base : Nat} (hb : base ≤ g) (hn : u.length ≤ maxLen) : w.ownsRow base t 1 (.slice (some ⟨g, 0, none⟩) u.length u.length) u.length (u.flatMap ienc) := by
  refine own_of_blk hb h (by simp) hn ?_
  rw [List.take_of_length_le (by simp), ienc_map]
theorem IBlk.rd (h : IBlk w g t u) (hn : u.length ≤ 9223372036854775807) : Rd w 1 (some ⟨g, 0, none⟩) u.length (u.flatMap ienc) := by
  refine ⟨by rw [flat_len ienc 1 ienc_len], hn, fun _ => ⟨g, 0, rfl, h.lt, fun j v hv => ?_⟩⟩
  rw [ienc_map] at hv
  rw [Nat.zero_add, Blk.cell h j]
  simpa using hv
end
theorem made_ints (n : Nat) : madeCells (Value.int .i64 0).cells (n * 1) = ((List.replicate n (0 : Int)).map (Value.int .i64)).toArray := by
  apply Array.ext_getElem?
  intro i
  simp only [madeCells, Value.cells, Nat.mul_one, List.map_replicate]
  by_cases h : i < n
  · simp [h, Nat.mod_one]
  · simp [h]
theorem drop_cons {α : Type} {xs : List α} {k : Nat} {x : α} (h : xs[k]? = some x) : xs.drop k = x :: xs.drop (k + 1) := by
  have hk : k < xs.length := (List.getElem?_eq_some_iff.1 h).1
  have hx : xs[k] = x := (List.getElem?_eq_some_iff.1 h).2
  rw [List.drop_eq_getElem_cons hk, hx]
theorem drop_nil {α : Type} {xs : List α} {k : Nat} (h : xs.length ≤ k) : xs.drop k = [] := List.drop_eq_nil_of_le h
end Go.Proofs.Ytfhibjehnoibeaa
/- Appending whole rows; worlds that were written over and back; no condition but what stands at each theorem. -/
namespace Go.Proofs.Ytfhibjehnoibeaa
set_option linter.unusedSimpArgs false
set_option linter.unusedVariables false
open Go.RowKit
theorem Rd.none_len {w : World} {m n : Nat} {A : Option Addr} {xs : List Value} (h : Rd w m A n xs) (hA : A = none) : n = 0 := by
  by_cases hn : 0 < n
  · obtain ⟨b, off, hb, _⟩ := h.2.2 hn
    rw [hA] at hb; cases hb
  · omega
theorem Rd.cells {w : World} {m n : Nat} {A : Option Addr} {xs : List Value} (h : Rd w m A n xs) (ad : Addr) (hA : A = some ad) : ∀ j u, xs[j]? = some u → w.cell? (ad.add j) = some u := by
  intro j u hu
  by_cases hn : 0 < n
  · obtain ⟨b, off, hb, _, hc⟩ := h.2.2 hn
    rw [hA] at hb
    injection hb with hb
    subst hb
    rw [add_none]
    exact hc j u hu
  · have h0 : xs.length = 0 := by rw [h.1]; have : n = 0 := by omega
                                  rw [this]; simp
    rw [List.eq_nil_of_length_eq_zero h0] at hu
    simp at hu
theorem one_ienc (xs : List Int) : ∀ u ∈ xs.flatMap ienc, u.oneCell' = true := by
  intro u hu
  rw [ienc_map] at hu
  obtain ⟨x, _, rfl⟩ := List.mem_map.1 hu
  rfl
theorem own_nilcap {w : World} {base : Nat} {e : TypeId} {m n c : Nat} {A : Option Addr} {L : List Value} (h : w.ownsRow base e m (.slice A n c) n L) : A = none → c = 0 := by
  intro hA
  rcases own_block h with ⟨_, _, h⟩ | ⟨g, cur, hg, _⟩
  · exact h
  · rw [hA] at hg; cases hg
/-- append of a whole row to one of the call's own. -/
theorem appendRd {P : Program} {ops : Array Oper} {rest : List Oper} {o : Oper} {a : Act} {Q : Exit → Act → World → Prop} {t e : TypeId} {m : Nat} (hE : EI P t e m) (hgd : o.guard = none) (s x : Operand)
    (ho : o.op = .call { callee := .builtin .append, args := #[s, x], argTypes := #[t, t] }) (base : Nat) (W : World) (v : Value) (n : Nat) (xs : List Value) (hs : a.eval s = v) (hown : W.ownsRow base e m v n xs)
    (A : Option Addr) (k c : Nat) (ys : List Value) (hx : a.eval x = .slice A k c) (hr : Rd W m A k ys) (hA : A = none → c = 0) (h1 : ∀ u ∈ ys, u.oneCell' = true) (hn : n + k ≤ 1073741824) (hbase : base ≤ W.heap.size)
    (h : ∀ v' w1, w1.ownsRow base e m v' (n + k) (xs ++ ys) → (∀ b, Ext b W → b.heap.size ≤ base → Ext b w1) → wpList P ops Q rest (a.put o.dst v') w1) : wpList P ops Q (o :: rest) a W := by
  obtain ⟨i, z, hu, hi, hz, hsz, hby, hzs, h0⟩ := hE
  cases A with
  | none =>
    have hk := hr.none_len rfl
    subst hk
    have hc := hA rfl
    subst hc
    have hys : ys = [] := List.eq_nil_of_length_eq_zero (by rw [hr.1]; simp)
    subst hys
    refine wpList_append_own_none hgd s x t ho base e i m hu hi v n xs hs hown hx ?_
    refine h v W ?_ (fun b hb _ => hb)
    rw [List.append_nil]
    exact hown
  | some ad =>
    refine wpList_append_own _ hgd s x t ho base e i z m i.bytes hu hi hz hsz rfl hzs h0 v n xs hs hown ad k c ys hx hr.1 (hr.cells ad rfl) h1 (by unfold maxLen; omega) ?_ hbase ?_
    · have := Nat.mul_le_mul_left (n + k) hby
      omega
    · intro v' w1 ho' hg _
      refine h v' w1 ho' (fun b hb hbb => hb.grown hg (fun q hq => Nat.le_trans hbb (hown.lt q hq).1))
/-- append of one element to a row that came in, at its capacity: a new row is made. -/
theorem appendCap {P : Program} {ops : Array Oper} {rest : List Oper} {o : Oper} {a : Act} {Q : Exit → Act → World → Prop} {t e : TypeId} {m : Nat} (hE : EI P t e m) (hgd : o.guard = none) (s x : Operand)
    (ho : o.op = .call { callee := .builtin .append, args := #[s, x], argTypes := #[t, t] }) (W : World) (T : TypeId) (A : Option Addr) (n : Nat) (xs : List Value) (hs : a.eval s = .slice A n n) (hr : Rd W m A n xs)
    (news : List Value) (hx : a.eval x = .slice (some ⟨W.heap.size, 0, none⟩) 1 1) (hl : news.length = m) (h1 : ∀ u ∈ news, u.oneCell' = true) (hn : n ≤ 1073741824)
    (h : ∀ v' w1, w1.ownsRow W.heap.size e m v' (n + 1) (xs ++ news) → Ext W w1 → wpList P ops Q rest (a.put o.dst v') w1) : wpList P ops Q (o :: rest) a (W.alloc (.cells news.toArray T)) := by
  obtain ⟨i, z, hu, hi, hz, hsz, hby, hzs, h0⟩ := hE
  refine wpList_append_grows _ hgd s x t ho e i z m i.bytes hu hi hz hsz rfl hzs h0 A n n xs hs (fun hA => ⟨hr.none_len hA, hr.none_len hA⟩) hr.1 ?_ ⟨W.heap.size, 0, none⟩ 1 1 news hx (by omega) ?_ h1 (by omega) (by unfold maxLen; omega) ?_ ?_
  · intro b hb j u hu'
    exact (hr.alloc _).cells b hb j u hu'
  · intro j u hu'
    rw [add_none, Nat.zero_add, World.cell?_alloc_new]
    simpa using hu'
  · have := Nat.mul_le_mul_left (n + 1) hby
    omega
  · intro v' w1 ho' hg
    refine h v' w1 (own_weak ho' (by simp)) (((Ext.refl W).alloc _).grown hg (fun k hk => by cases hk))
/-- s[:n:n], n its length. -/
theorem run_cut3 {P : Program} {t e : TypeId} {m s : Nat} (hu : P.underlying t = some (.slice e)) (hs : ∀ w : World, (sizeOf e).run P w = .ok s w) {w0 : World} {A : Option Addr} {n c : Nat} {xs : List Value} (hr : Rd w0 m A n xs) (hc : n ≤ c) (w : World) :
    (Instr.slice t (.slice A n c) none (some (.int .i64 (n : Int))) (some (.int .i64 (n : Int)))).run P w = .ok (.slice A n n) w := by
  have h1 : ∀ (code : BoundsCode) (y : Nat), n ≤ y → (Instr.sliceBound (.int .i64 (n : Int)) y code).run P w = .ok n w := by
    intro code y hy
    rw [run_sliceBound _ .i64 (n : Int) y code (by omega) (by omega)]
    simp
  simp only [Instr.slice, Sem.run_bind, run_underlying hu, Result.andThen, Instr.sliceBounds, h1 _ _ hc, h1 _ _ (Nat.le_refl n), hs, Sem.run_pure]
  by_cases hn : n = 0
  · subst hn; simp
  · obtain ⟨b, off, rfl, _⟩ := hr.2.2 (by omega)
    simp [hn, add_none]
/-- Written over and back. -/
theorem ext_back {w w3 : World} {g k : Nat} {t : TypeId} {cs : Array Value} {x y : Value} (h : Blk w g t cs) (e : Ext (w.setCell ⟨g, k, none⟩ x) w3) (hy : cs[k]? = some y) : Ext w (w3.setCell ⟨g, k, none⟩ y) := by
  have hb3 : w3.heap[g]? = some (.cells (cs.setIfInBounds k x) t (0, 0)) := (h.set k x).keep e
  refine ⟨?_, ?_, ?_, ?_, ?_⟩
  · have := e.os; simpa [World.setCell] using this
  · have := e.tape; simpa [World.setCell] using this
  · have := e.output; simpa [World.setCell] using this
  · have := e.size; simpa [World.setCell] using this
  · intro b hb
    by_cases hbg : b = g
    · subst hbg
      have h1 : (w3.setCell ⟨b, k, none⟩ y).heap[b]? = some (.cells ((cs.setIfInBounds k x).setIfInBounds k y) t (0, 0)) := by
        simp [World.setCell, Array.getElem?_modify, hb3]
      rw [h1]
      have h2 : (cs.setIfInBounds k x).setIfInBounds k y = cs := by
        apply Array.ext_getElem?
        intro i
        have hk : k < cs.size := (Array.getElem?_eq_some_iff.1 hy).1
        by_cases hik : k = i
        · subst hik; simp [hk]; exact (Array.getElem?_eq_some_iff.1 hy).2.symm
        · simp [Array.getElem?_setIfInBounds, hik]
      rw [h2]
      exact h.symm
    · rw [Below.heap_setCell w3 _ y b hbg]
      have h1 := e.block b (by simpa [World.setCell] using hb)
      rw [h1]
      exact Below.heap_setCell w _ x b hbg
theorem own_far {w : World} {base g k : Nat} {e : TypeId} {m n : Nat} {v : Value} {L : List Value} (h : w.ownsRow base e m v n L) (hg : g < base) (x : Value) : (w.setCell ⟨g, k, none⟩ x).ownsRow base e m v n L := by
  refine h.kept (grown_set (grown_refl w (some g)) k x) ?_
  cases hv : v.ownBlock with
  | none => exact .inl rfl
  | some q =>
    refine .inr fun e => ?_
    have := (h.lt q hv).1
    injection e with e
    omega
/-- Block g begins with the ints u, of element type t. -/
def PBlk (w : World) (g : Nat) (t : TypeId) (u : List Int) : Prop := ∃ cur : Array Value, Blk w g t cur ∧ u.length ≤ cur.size ∧ ∀ i, i < u.length → cur[i]? = some (.int .i64 (u.getD i 0))
theorem PBlk.lt {w : World} {g : Nat} {t : TypeId} {u : List Int} (h : PBlk w g t u) : g < w.heap.size := by obtain ⟨cur, h, _⟩ := h; exact h.lt
theorem PBlk.cell {w : World} {g : Nat} {t : TypeId} {u : List Int} (h : PBlk w g t u) {i : Nat} (hi : i < u.length) : w.cell? ⟨g, i, none⟩ = some (.int .i64 (u.getD i 0)) := by
  obtain ⟨cur, h, _, h2⟩ := h
  rw [h.cell]; exact h2 i hi
theorem PBlk.free {w : World} {g : Nat} {t : TypeId} {u : List Int} (h : PBlk w g t u) (i : Nat) : w.frozen? ⟨g, i, none⟩ = false := by obtain ⟨cur, h, _⟩ := h; exact h.free i
theorem PBlk.keep {w w' : World} {g : Nat} {t : TypeId} {u : List Int} (h : PBlk w g t u) (e : Ext w w') : PBlk w' g t u := by obtain ⟨cur, h, r⟩ := h; exact ⟨cur, h.keep e, r⟩
theorem PBlk.set {w : World} {g : Nat} {t : TypeId} {u : List Int} (h : PBlk w g t u) (i : Nat) (x : Int) : PBlk (w.setCell ⟨g, i, none⟩ (.int .i64 x)) g t (u.set i x) := by
  obtain ⟨cur, h, h1, h2⟩ := h
  refine ⟨_, h.set i _, by simpa using h1, fun j hj => ?_⟩
  simp only [List.length_set] at hj
  by_cases hij : i = j
  · subst hij
    have : i < cur.size := by omega
    simp [this, hj]
  · rw [Array.getElem?_setIfInBounds, if_neg hij, h2 j hj]
    simp [hij]
theorem PBlk.back {w w3 : World} {g : Nat} {t : TypeId} {u : List Int} (h : PBlk w g t u) {k : Nat} (hk : k < u.length) {x : Value} (e : Ext (w.setCell ⟨g, k, none⟩ x) w3) : Ext w (w3.setCell ⟨g, k, none⟩ (.int .i64 (u.getD k 0))) := by
  obtain ⟨cur, h, h1, h2⟩ := h
  exact ext_back h e (h2 k hk)
theorem PBlk.rd {w : World} {g : Nat} {t : TypeId} {u : List Int} (h : PBlk w g t u) (hn : u.length ≤ 9223372036854775807) : Rd w 1 (some ⟨g, 0, none⟩) u.length (u.flatMap ienc) := by
  refine ⟨by rw [flat_len ienc 1 ienc_len], hn, fun _ => ⟨g, 0, rfl, h.lt, fun j v hv => ?_⟩⟩
  rw [ienc_map] at hv
  have hj : j < u.length := by have := (List.getElem?_eq_some_iff.1 hv).1; simpa using this
  rw [Nat.zero_add, h.cell hj, ← hv]
  simp [hj]
theorem PBlk.of_own {w : World} {base : Nat} {t : TypeId} {n c : Nat} {A : Option Addr} {u : List Int} (h : w.ownsRow base t 1 (.slice A n c) n (u.flatMap ienc)) (hn : 1 ≤ n) : ∃ g, A = some ⟨g, 0, none⟩ ∧ base ≤ g ∧ PBlk w g t u := by
  have hl : u.length = n := by have := h.1; rw [ienc_map, List.length_map] at this; omega
  rcases own_block h with ⟨_, h0, _⟩ | ⟨g, cur, hA, hbg, hb, hnc, _, hcs, ht⟩
  · omega
  · refine ⟨g, hA, hbg, cur, hb, by omega, fun i hi => ?_⟩
    have : (cur.toList.take (n * 1))[i]? = (u.flatMap ienc)[i]? := by rw [ht]
    rw [List.getElem?_take, if_pos (by omega), ienc_map] at this
    rw [← Array.getElem?_toList, this]
    simp [hi]
/-- What a row of another block holds stays behind a store. -/
theorem Rd.far {w : World} {m n : Nat} {A : Option Addr} {xs : List Value} (h : Rd w m A n xs) (p : Addr) (u : Value) (hp : 0 < n → ∀ b off, A = some ⟨b, off, none⟩ → b ≠ p.block) : Rd (w.setCell p u) m A n xs := by
  refine ⟨h.1, h.2.1, fun hn => ?_⟩
  obtain ⟨b, off, rfl, hb, hc⟩ := h.2.2 hn
  refine ⟨b, off, rfl, by simpa [World.setCell] using hb, fun j v hv => ?_⟩
  rw [World.cell?_setCell_other w p _ u (fun e => hp hn b off rfl (by rw [e]))]
  exact hc j v hv
end Go.Proofs.Ytfhibjehnoibeaa
/- Appending whole rows, and that nil does not come of it; no condition but what stands at each theorem. -/
namespace Go.Proofs.Ytfhibjehnoibeaa
set_option linter.unusedSimpArgs false
set_option linter.unusedVariables false
open Go.RowKit
theorem appendRdN {P : Program} {ops : Array Oper} {rest : List Oper} {o : Oper} {a : Act} {Q : Exit → Act → World → Prop} {t e : TypeId} {m : Nat} (hE : EI P t e m) (hgd : o.guard = none) (s x : Operand)
    (ho : o.op = .call { callee := .builtin .append, args := #[s, x], argTypes := #[t, t] }) (base : Nat) (W : World) (v : Value) (n : Nat) (xs : List Value) (hs : a.eval s = v) (hown : W.ownsRow base e m v n xs)
    (A : Option Addr) (k c : Nat) (ys : List Value) (hx : a.eval x = .slice A k c) (hr : Rd W m A k ys) (hA : A = none → c = 0) (h1 : ∀ u ∈ ys, u.oneCell' = true) (hn : n + k ≤ 1073741824) (hbase : base ≤ W.heap.size) (hv : v ≠ .slice none 0 0)
    (h : ∀ (g c' : Nat) w1, w1.ownsRow base e m (.slice (some ⟨g, 0, none⟩) (n + k) c') (n + k) (xs ++ ys) → (∀ b, Ext b W → b.heap.size ≤ base → Ext b w1) → wpList P ops Q rest (a.put o.dst (.slice (some ⟨g, 0, none⟩) (n + k) c')) w1) : wpList P ops Q (o :: rest) a W := by
  have key : ∀ v' w1, w1.ownsRow base e m v' (n + k) (xs ++ ys) → (∀ b, Ext b W → b.heap.size ≤ base → Ext b w1) → v' ≠ .slice none 0 0 → wpList P ops Q rest (a.put o.dst v') w1 := by
    intro v' w1 ho' he hne
    obtain ⟨A', c', rfl, _⟩ := own_form ho'
    rcases own_block ho' with ⟨rfl, h0, rfl⟩ | ⟨g, cur, rfl, _⟩
    · rw [h0] at hne; exact absurd rfl hne
    · exact h g c' w1 ho' he
  obtain ⟨i, z, hu, hi, hz, hsz, hby, hzs, h0⟩ := hE
  cases A with
  | none =>
    have hk := hr.none_len rfl
    subst hk
    have hc := hA rfl
    subst hc
    have hys : ys = [] := List.eq_nil_of_length_eq_zero (by rw [hr.1]; simp)
    subst hys
    refine wpList_append_own_none hgd s x t ho base e i m hu hi v n xs hs hown hx ?_
    refine key v W ?_ (fun b hb _ => hb) hv
    rw [List.append_nil]
    exact hown
  | some ad =>
    refine wpList_append_own _ hgd s x t ho base e i z m i.bytes hu hi hz hsz rfl hzs h0 v n xs hs hown ad k c ys hx hr.1 (hr.cells ad rfl) h1 (by unfold maxLen; omega) ?_ hbase ?_
    · have := Nat.mul_le_mul_left (n + k) hby
      omega
    · intro v' w1 ho' hg hnil
      exact key v' w1 ho' (fun b hb hbb => hb.grown hg (fun q hq => Nat.le_trans hbb (hown.lt q hq).1)) (fun e => hv (hnil.1 e).1)
theorem boxes3 (w : World) (v1 v2 v3 : Value) (t1 t2 t3 : TypeId) (wb : World) (hwb : wb = ((w.alloc (.cells #[v1] t1)).alloc (.cells #[v2] t2)).alloc (.cells #[v3] t3)) :
    Ext w wb ∧ wb.heap.size = w.heap.size + 1 + 1 + 1 ∧ wb.cell? ⟨w.heap.size, 0, none⟩ = some v1 ∧ wb.cell? ⟨w.heap.size + 1, 0, none⟩ = some v2 ∧ wb.cell? ⟨w.heap.size + 1 + 1, 0, none⟩ = some v3 := by
  subst hwb
  refine ⟨(((Ext.refl w).alloc _).alloc _).alloc _, by simp, ?_, ?_, ?_⟩
  · rw [World.cell?_alloc_lt _ _ _ (by simp; omega), World.cell?_alloc_lt _ _ _ (by simp), World.cell?_alloc_new]; rfl
  · rw [World.cell?_alloc_lt _ _ _ (by simp)]
    have h : w.heap.size + 1 = (w.alloc (.cells #[v1] t1)).heap.size := by simp
    rw [h, World.cell?_alloc_new]; rfl
  · have h : w.heap.size + 1 + 1 = ((w.alloc (.cells #[v1] t1)).alloc (.cells #[v2] t2)).heap.size := by simp
    rw [h, World.cell?_alloc_new]; rfl
end Go.Proofs.Ytfhibjehnoibeaa
