/- Regions walked once whose calls make memory, rows of ints that are written over; no condition but what stands at each theorem. -/
import Derived.Test.YtkelmeemblmggaaK6
import Derived.Lib.QuietBelow
namespace Go.Proofs.Ytkelmeemblmggaa
set_option linter.unusedSimpArgs false
set_option linter.unusedVariables false
open Go.RowKit Go.Sort
theorem wp_region_ext {P : Program} {id : Nat} {Q : Exit → Act → World → Prop} {a : Act} {w : World} {l : List Oper} (hm : P.follows .mixedOrders = true) (hB : Region.lexB .any l.toArray = true)
    (h : wpQuiet P l.toArray (fun w' => ∃ p : Regrown, w' = grow (redrawn w p.d) p.os) (fun a' => ∀ w', Ext w w' → Q .normal a' w') l a) : (Code.region id l.toArray true).wp P Q a w :=
  wp_region_quiet (C := fun w' => ∃ p : Regrown, w' = grow (redrawn w p.d) p.os) hm hB ⟨⟨w.drawn + 1, #[]⟩, by rw [grow_empty]; rfl⟩ (by
    have hq : (fun a' => ∀ w', Ext w w' → Q .normal a' w') = (fun a' => ∀ w', (∃ p : Regrown, w' = grow (redrawn w p.d) p.os) → Q .normal a' w') := by
      funext a'
      exact propext ⟨fun h w' ⟨p, hp⟩ => h w' (hp ▸ below_regrown w p.d p.os), fun h w' hw => h w' (regrown_of_below hw)⟩
    rw [hq] at h
    exact h)
theorem ext_rg (w : World) (d : Nat) (os : Array Obj) : Ext w (grow (redrawn w d) os) := below_regrown w d os
theorem Calls.rg {P : Program} {f : FuncId} {args : Array Value} {w : World} {d : Nat} {os : Array Obj} {v : Value}
    (h : Calls P f args (grow (redrawn w d) os) fun e w' => e = .returned v ∧ Ext (grow (redrawn w d) os) w') : Calls P f args (grow (redrawn w d) os) fun e w'' => e = .returned v ∧ ∃ p : Regrown, w'' = grow (redrawn w p.d) p.os :=
  h.mono fun _ _ ⟨he, hb⟩ => ⟨he, regrown_of_below (Ext.trans (below_regrown w d os) hb)⟩
theorem Calls.rg0 {P : Program} {f : FuncId} {args : Array Value} {w : World} {d : Nat} {os : Array Obj} {v : Value}
    (h : Calls P f args (grow (redrawn w d) os) fun e w' => e = .returned v ∧ grow (redrawn w d) os = w') : Calls P f args (grow (redrawn w d) os) fun e w'' => e = .returned v ∧ ∃ p : Regrown, w'' = grow (redrawn w p.d) p.os :=
  h.mono fun _ _ ⟨he, hb⟩ => ⟨he, ⟨d, os⟩, hb.symm⟩
/-- Block g is the ints u, of element type t. -/
def IBlk (w : World) (g : Nat) (t : TypeId) (u : List Int) : Prop := Blk w g t (u.map (Value.int .i64)).toArray
theorem ienc_map (u : List Int) : u.flatMap ienc = u.map (Value.int .i64) := by
  induction u with
  | nil => rfl
  | cons x u ih => rw [List.flatMap_cons, ih]; rfl
section
variable {w w' : World} {g : Nat} {t : TypeId} {u : List Int}
theorem IBlk.lt (h : IBlk w g t u) : g < w.heap.size := Blk.lt h
theorem IBlk.cell (h : IBlk w g t u) {i : Nat} (hi : i < u.length) : w.cell? ⟨g, i, none⟩ = some (.int .i64 (u.getD i 0)) := by
  have := Blk.cell h i
  rw [this]; simp [hi]
theorem IBlk.free (h : IBlk w g t u) (i : Nat) : w.frozen? ⟨g, i, none⟩ = false := Blk.free h i
theorem IBlk.keep (h : IBlk w g t u) (e : Ext w w') : IBlk w' g t u := Blk.keep h e
theorem IBlk.set (h : IBlk w g t u) (i : Nat) (x : Int) : IBlk (w.setCell ⟨g, i, none⟩ (.int .i64 x)) g t (u.set i x) := by
  have h1 := Blk.set h i (.int .i64 x)
  unfold IBlk
  have e : ((u.set i x).map (Value.int .i64)).toArray = ((u.map (Value.int .i64)).toArray).setIfInBounds i (.int .i64 x) := by
    simp [List.map_set]
  rw [e]; exact h1
theorem IBlk.own (h : IBlk w g t u) {base : Nat} (hb : base ≤ g) (hn : u.length ≤ maxLen) : w.ownsRow base t 1 (.slice (some ⟨g, 0, none⟩) u.length u.length) u.length (u.flatMap ienc) := by
  refine own_of_blk hb h (by simp) hn ?_
  rw [List.take_of_length_le (by simp), ienc_map]
theorem IBlk.rd (h : IBlk w g t u) (hn : u.length ≤ 9223372036854775807) : Rd w 1 (some ⟨g, 0, none⟩) u.length (u.flatMap ienc) := by
  refine ⟨by rw [flat_len ienc 1 ienc_len], hn, fun _ => ⟨g, 0, rfl, h.lt, fun j v hv => ?_⟩⟩
  rw [ienc_map] at hv
  rw [Nat.zero_add, Blk.cell h j]
  simpa using hv
end
theorem made_ints (n : Nat) : madeCells (Value.int .i64 0).cells (n * 1) = ((List.replicate n (0 : Int)).map (Value.int .i64)).toArray := by
  apply Array.ext_getElem?
  intro i
  simp only [madeCells, Value.cells, Nat.mul_one, List.map_replicate]
  by_cases h : i < n
  · simp [h, Nat.mod_one]
  · simp [h]
theorem drop_cons {α : Type} {xs : List α} {k : Nat} {x : α} (h : xs[k]? = some x) : xs.drop k = x :: xs.drop (k + 1) := by
  have hk : k < xs.length := (List.getElem?_eq_some_iff.1 h).1
  have hx : xs[k] = x := (List.getElem?_eq_some_iff.1 h).2
  rw [List.drop_eq_getElem_cons hk, hx]
theorem drop_nil {α : Type} {xs : List α} {k : Nat} (h : xs.length ≤ k) : xs.drop k = [] := List.drop_eq_nil_of_le h
end Go.Proofs.Ytkelmeemblmggaa
