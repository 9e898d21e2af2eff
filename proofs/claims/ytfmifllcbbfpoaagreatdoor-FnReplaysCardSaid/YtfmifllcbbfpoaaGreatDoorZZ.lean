/- Texts of one proof, laid one behind the other (QA); no condition but what stands at each theorem. -/
import Derived.Test.YtfmifllcbbfpoaaGreatDoorZU
import Derived.Test.YtfmifllcbbfpoaaGreatDoorZV
/- What the laws on replays and scenarios ask, in plain Lean; no condition but what stands at each theorem. -/
namespace Go.Proofs.YtfmifllcbbfpoaaGreatDoor
set_option linter.unusedSimpArgs false
set_option linter.unusedVariables false
open Go.RowKit Go.Sort
theorem own_free {w : World} {base n c g m : Nat} {e : TypeId} {L : List Value} (h : w.ownsRow base e m (.slice (some ⟨g, 0, none⟩) n c) n L) : ∀ i, w.frozen? ⟨g, i, none⟩ = false := by
  rcases own_block h with ⟨hA, _⟩ | ⟨g', cur, hA, hb, hblk, -⟩
  · cases hA
  · injection hA with hA
    injection hA with hA
    subst hA
    exact fun i => hblk.free i
theorem run_facts {m : GMuseum} {acts : List GAct} (hm : museumB m = true) (hl : acts.length ≤ 40) : runB m acts = true := by unfold runB; simp [hm, hl]
theorem runL_lenB {m : GMuseum} {acts : List GAct} (h : runB m acts = true) : (runL m acts).length = acts.length := by rw [(run_yes h).2, run_len]; simp
theorem runM_ok {m : GMuseum} {acts : List GAct} (hm : museumB m = true) (h : runB m acts = true) : museumB (runM m acts) = true := by rw [(run_yes h).1]; exact run_ok acts [] hm
theorem runM_lens {m : GMuseum} {acts : List GAct} (h : runB m acts = true) : LensOk m (runM m acts) := by rw [(run_yes h).1]; exact run_lens acts m []
theorem repl_self {m : GMuseum} {acts : List GAct} (h : runB m acts = true) : replB m acts (runL m acts) = true := by unfold replB; simp [h]
theorem repl_one {m : GMuseum} {acts : List GAct} (h : acts = []) : replB m acts [1] = false := by
  subst h
  unfold replB
  cases hb : runB m []
  · rfl
  · rw [(run_yes hb).2]; rfl
theorem repl_changed {m : GMuseum} {acts : List GAct} {k : Nat} {x : Int} (hk : (runL m acts)[k]? = some x) : replB m acts ((runL m acts).set k (x + 1)) = false := by
  unfold replB
  rw [Bool.and_eq_false_iff]
  refine .inr (decide_eq_false fun e => ?_)
  have hlt : k < (runL m acts).length := (List.getElem?_eq_some_iff.1 hk).1
  have h2 : ((runL m acts).set k (x + 1))[k]? = some (x + 1) := by rw [List.getElem?_set_self hlt]
  rw [← e, hk] at h2
  injection h2 with h2
  omega
theorem act_valR {m : GMuseum} (h : museumB m = true) (a : GAct) : -1 ≤ actN m a ∧ actN m a ≤ 1000000 := by
  have hb : ∀ b : Bool, -1 ≤ b01 b ∧ b01 b ≤ 1000000 := fun b => by cases b <;> decide
  unfold actN
  repeat' split
  all_goals first | exact hb _ | omega | skip
  rename_i h5
  have hp := (museumB_parts.1 h).2.1
  unfold placesB at hp
  simp only [Bool.and_eq_true] at hp
  have h6 : ∀ x ∈ m.ps, 0 ≤ x ∧ x ≤ 1000000 := fun x hx => by have h1 := museum_places h x hx; have h2 := (houseB_spec (museumB_house h)).2.1; omega
  rw [List.getD_eq_getElem?_getD]
  cases hg : m.ps[a.a.toNat]? with
  | none => simp
  | some z =>
    have := h6 z (List.mem_of_getElem? hg)
    simp only [Option.getD_some]
    omega
theorem run_valsR : ∀ (acts : List GAct) {m : GMuseum} (l : List Int), museumB m = true → (∀ z ∈ l, -1 ≤ z ∧ z ≤ 1000000) → ∀ z ∈ (runF m acts l).2, -1 ≤ z ∧ z ≤ 1000000
  | [], m, l, _, hl => hl
  | a :: r, m, l, h, hl => run_valsR r _ (act_ok h a) (fun z hz => by
    rcases List.mem_append.1 hz with hz | hz
    · exact hl z hz
    · rw [List.mem_singleton] at hz; subst hz; exact act_valR h a)
theorem runL_valsR (m : GMuseum) (acts : List GAct) : ∀ z ∈ runL m acts, -1 ≤ z ∧ z ≤ 1000000 := by
  unfold runL
  split
  · rename_i h
    unfold runB at h
    simp only [Bool.and_eq_true] at h
    exact run_valsR acts [] h.1 (fun z hz => by cases hz)
  · intro z hz; cases hz
end Go.Proofs.YtfmifllcbbfpoaaGreatDoor
