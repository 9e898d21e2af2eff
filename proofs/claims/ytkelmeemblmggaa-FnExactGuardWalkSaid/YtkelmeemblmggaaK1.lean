/- A text of lemmas for the laws of this seat; what each says stands at its theorem; no condition. -/
import Derived.Test.YtkelmeemblmggaaK0
import Derived.ProofKit
import Derived.OpenShut
import Derived.JoinedCond
import Derived.Deep.Slices
import Derived.Deep.Fields
namespace Go.Proofs.Ytkelmeemblmggaa
set_option linter.unusedSimpArgs false
set_option linter.unusedVariables false
open Go.RowKit Go.ChangeShapes Go.WideShapes Go.Deep

section
variable {H : Type} {enc : TypeId × Value → H} {P : Program} {W W' : World}

/-- Whatever read in W reads the same in W', where nothing old has turned. -/
theorem trodAll_stays (hl : laidOutB P = true) : ∀ {ts : List TypeId} {vs : List Value} {ds : List (DataW H)} {ps : List MemPlace}, (∀ t ∈ ts, P.readableRec t = true ∧ t < P.types.size) →
    DataW.TrodAll enc P W 0 (fun _ => true) true ts vs ds ps → Ext W W' → (∀ x ∈ ps, x.block < W.heap.size) → DataW.TrodAll enc P W' 0 (fun b => decide (b < W.heap.size)) true ts vs ds ps
  | [], [], [], _, _, h, _, _ => h
  | t :: ts, v :: vs, d :: ds, ps, hr, h, hb, hlt => by
    obtain ⟨p, q, h1, h2, rfl⟩ := h
    exact ⟨p, q, Below.trod hl (hr t (by simp)).1 (hr t (by simp)).2 h1 hb.below (fun x hx => hlt x (by simp [hx])), trodAll_stays hl (fun t ht => hr t (by simp [ht])) h2 hb (fun x hx => hlt x (by simp [hx])), rfl⟩
  | [], [], _ :: _, _, _, h, _, _ => h.elim
  | [], _ :: _, _, _, _, h, _, _ => by cases h
  | _ :: _, [], _, _, _, h, _, _ => by cases h
  | _ :: _, _ :: _, [], _, _, h, _, _ => h.elim

/-- The end of every law: it returned true, and nothing old has turned. -/
theorem law_post {f : Func} {s : ChangeSpec} {tb : TypeId} {args : Array Value} {ds gs : List (DataW H)} {before : List MemPlace} (hl : laidOutB P = true)
    (hr : ∀ t ∈ f.params.toList, P.readableRec t = true ∧ t < P.types.size) (htb : P.underlying tb = some .bool) (hrt : f.resultTypes = #[tb]) (hv : s.vars = [])
    (hW : DataW.Whole enc P f.params.toList s.vars false W args.toList ds gs before)
    (hs : s.fn H (ds ++ gs) = { results := [.lit (.bool true)], args := ds }) (hb : Ext W W') :
    s.post enc P f false true false false W args (.bool true) W' := by
  have hlt : ∀ x ∈ before, x.block < W.heap.size := fun x hx => hW.lt x hx
  obtain ⟨p, q, hA, hV, rfl, hfz, hnd⟩ := id hW
  rw [hv] at hV
  cases gs with
  | cons _ _ => exact hV.elim
  | nil =>
    have hq : q = [] := hV
    subst hq
    refine ⟨ds, [], p ++ [], [], p, [], hW, ?_, ?_, ?_, Below.frame hb.below _, fun h => by cases h⟩
    · rw [hs, hrt]
      exact trodAll_mk1 (shut_bool htb true)
    · rw [hs]
      exact trodAll_stays hl hr hA hb (fun x hx => hlt x (by simp [hx]))
    · rw [hs, hv]; rfl

/-- Every value of type t that can be read as data has cells of the form 'en a'. -/
def Opens (P : Program) (t : TypeId) {α : Type} (en : α → List Value) : Prop :=
  ∀ (H : Type) (enc : TypeId × Value → H) (w : World) (n : Nat) (cs : List Value) (x : DataW H × List MemPlace), DataW.trod enc P w 0 (fun _ => true) true n t cs = some x → ∃ a, cs = en a


theorem open_row {α : Type} {en : α → List Value} {t e : TypeId} {m fuel : Nat} {v : Value} {x : DataW H × List MemPlace} (ht : P.underlying t = some (.slice e)) (hC : P.cellsOf e = m) (hm : ∀ a, (en a).length = m) (h0 : 0 < m) (he : Opens P e en)
    (h : DataW.trod enc P W 0 (fun _ => true) true fuel t [v] = some x) : ∃ A n c, ∃ xs : List α, v = .slice A n c ∧ n ≤ c ∧ Rd W m A n (xs.flatMap en) := by
  rcases open_slice ht h with ⟨hv, _⟩ | ⟨a, len, cap, mm, n, D, Pl, hv, _, hl, hcap, hmm, _, hi⟩
  · simp at hv
    subst hv
    exact ⟨none, 0, 0, [], rfl, Nat.le_refl _, Rd.nil _ _⟩
  · simp at hv
    subst hv
    simp at hmm
    obtain rfl : cap = mm := hmm.symm
    clear hmm
    have hex : ∀ l, l ≤ len → ∃ xs : List α, xs.length = l ∧ ∀ j u, (xs.flatMap en)[j]? = some u → W.cell? (a.add j) = some u := by
      intro l
      induction l with
      | zero => exact fun _ => ⟨[], rfl, fun j u hu => by simp at hu⟩
      | succ l ih =>
        intro hle
        obtain ⟨xs, hxl, hxs⟩ := ih (by omega)
        obtain ⟨cs, hc, htr⟩ := hi l (by omega)
        rw [hC] at hc
        obtain ⟨_, _, hat⟩ := World.cells?_some hc
        obtain ⟨a', rfl⟩ := he H enc W n cs _ htr
        refine ⟨xs ++ [a'], by simp [hxl], fun j u hu => ?_⟩
        rw [List.flatMap_append] at hu
        have hfl : (xs.flatMap en).length = l * m := by rw [flat_len en m hm, hxl]
        rcases Nat.lt_or_ge j (l * m) with hj | hj
        · rw [List.getElem?_append_left (by omega)] at hu
          exact hxs j u hu
        · rw [List.getElem?_append_right (by omega), hfl] at hu
          simp only [List.flatMap_cons, List.flatMap_nil, List.append_nil] at hu
          have hjm : j - l * m < m := by have := (List.getElem?_eq_some_iff.1 hu).1; rwa [hm a'] at this
          rw [← hu, ← hat (j - l * m) hjm, Go.Deep.add_add, show l * m + (j - l * m) = j by omega]
    obtain ⟨xs, hxl, hxs⟩ := hex len (Nat.le_refl _)
    refine ⟨some a, len, cap, xs, rfl, hl, by rw [flat_len en m hm, hxl], by unfold maxLen at hcap; omega, fun hn => ?_⟩
    have hp : 0 < (xs.flatMap en).length := by rw [flat_len en m hm, hxl]; exact Nat.mul_pos hn h0
    have h00 := hxs 0 _ (List.getElem?_eq_getElem hp)
    obtain ⟨b, off, spot⟩ := a
    have hsp : spot = none := by
      cases spot with
      | none => rfl
      | some q =>
        exfalso
        have h1 : ((⟨b, off, some q⟩ : Addr).add 0).spot = some q := by unfold Addr.add; rw [if_pos rfl]
        unfold World.cell? at h00
        rw [h1] at h00
        split at h00 <;> simp at h00
    subst hsp
    refine ⟨b, off, rfl, ?_, fun j u hu => ?_⟩
    · have := World.block_lt_of_cell? W _ h00
      rwa [add_none] at this
    · have := hxs j u hu
      rwa [add_none] at this
end

section
variable {H : Type} {enc : TypeId × Value → H} {P : Program} {W : World}
/-- A struct of one-cell fields: each cell with its own field's reading. -/
theorem open_fields {t : TypeId} {fs : Array Field} {n : Nat} {cs : List Value} {x : DataW H × List MemPlace} (ht : P.underlying t = some (.struct fs)) (hone : oneCellFields P fs = true) (hC : P.cellsOf t = fs.size)
    (h : DataW.trod enc P W 0 (fun _ => true) true n t cs = some x) :
    cs.length = fs.size ∧ ∀ (j : Nat) (f : Field), fs[j]? = some f → ∃ v n' y, cs[j]? = some v ∧ DataW.trod enc P W 0 (fun _ => true) true n' f.type [v] = some y := by
  obtain ⟨ys, n', hn', hy, hlen, hyl, hf⟩ := DataW.trod_struct ht h
  refine ⟨hlen.trans hC, fun j f hj => ?_⟩
  obtain ⟨ho, hk⟩ := hone_of hone j f hj
  have hjl : j < fs.size := (Array.getElem?_eq_some_iff.1 hj).1
  have h1 := hf j f hj
  rw [ho, hk] at h1
  have hv : cs[j]? = some (cs[j]'(by omega)) := List.getElem?_eq_getElem (by omega)
  have h2 : (cs.drop j).take 1 = [cs[j]'(by omega)] := by rw [List.drop_eq_getElem_cons (by omega)]; rfl
  rw [h2] at h1
  have hys : ys[j]? = some (ys[j]'(by omega)) := List.getElem?_eq_getElem (by omega)
  exact ⟨_, n', _, hv, h1.trans hys⟩
theorem int_of_trod {t : TypeId} {n : Nat} {v : Value} {y : DataW H × List MemPlace} (ht : P.underlying t = some (.int .i64)) (h : DataW.trod enc P W 0 (fun _ => true) true n t [v] = some y) : ∃ z, v = .int .i64 z ∧ (Lit.int .i64 z).wf = true := by
  obtain ⟨z, h1, _, hw⟩ := DataW.trod_int ht h
  simp at h1
  exact ⟨z, h1, hw⟩
theorem byte_of_trod {t : TypeId} {n : Nat} {v : Value} {y : DataW H × List MemPlace} (ht : P.underlying t = some (.int .u8)) (h : DataW.trod enc P W 0 (fun _ => true) true n t [v] = some y) : ∃ z, v = .int .u8 z ∧ (Lit.int .u8 z).wf = true := by
  obtain ⟨z, h1, _, hw⟩ := DataW.trod_int ht h
  simp at h1
  exact ⟨z, h1, hw⟩
theorem bool_of_trod {t : TypeId} {n : Nat} {v : Value} {y : DataW H × List MemPlace} (ht : P.underlying t = some .bool) (h : DataW.trod enc P W 0 (fun _ => true) true n t [v] = some y) : ∃ z, v = .bool z := by
  obtain ⟨z, h1, _⟩ := DataW.trod_bool ht h
  simp at h1
  exact ⟨z, h1⟩
theorem string_of_trod {t : TypeId} {n : Nat} {v : Value} {y : DataW H × List MemPlace} (ht : P.underlying t = some .string) (h : DataW.trod enc P W 0 (fun _ => true) true n t [v] = some y) : ∃ z, v = .string z ∧ z.size ≤ maxLen := by
  obtain ⟨z, h1, _, hw⟩ := DataW.trod_string ht h
  simp at h1
  exact ⟨z, h1, hw⟩
/-- A struct by value. -/
theorem open_agg {α : Type} {en : α → List Value} {r : Reach} {b0 : Nat} {t : TypeId} {fs : Array Field} {v : Value} {d : DataW H} {p : List MemPlace} (hs : P.underlying t = some (.struct fs)) (he : Opens P t en)
    (hv : Value.okWide P W r b0 t v) (h : DataW.Trod enc P W 0 (fun _ => true) true t v d p) : ∃ a, v = .agg (en a).toArray := by
  obtain ⟨cs, rfl, _⟩ := okWide_struct hs hv
  obtain ⟨fuel, hf⟩ := h
  obtain ⟨a, ha⟩ := he H enc W fuel _ _ hf
  refine ⟨a, ?_⟩
  have : cs.toList = en a := by simpa [Value.cells] using ha
  rw [← this]
theorem open_slice_arg {α : Type} {en : α → List Value} {t e : TypeId} {m : Nat} {v : Value} {d : DataW H} {p : List MemPlace} {r : Reach} {b0 : Nat} (ht : P.underlying t = some (.slice e)) (hC : P.cellsOf e = m) (hm : ∀ a, (en a).length = m) (h0 : 0 < m) (he : Opens P e en)
    (hv : Value.okWide P W r b0 t v) (h : DataW.Trod enc P W 0 (fun _ => true) true t v d p) : ∃ A n c, ∃ xs : List α, v = .slice A n c ∧ n ≤ c ∧ Rd W m A n (xs.flatMap en) := by
  obtain ⟨a0, len, cap, rfl⟩ := okWide_slice ht hv
  obtain ⟨fuel, hf⟩ := h
  exact open_row ht hC hm h0 he hf
end
end Go.Proofs.Ytkelmeemblmggaa
