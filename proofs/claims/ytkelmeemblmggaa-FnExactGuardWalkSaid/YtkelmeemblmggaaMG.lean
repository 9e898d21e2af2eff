/- The plain law of GuardWalk; no condition but what stands at each theorem. -/
import Derived.Test.YtkelmeemblmggaaSN7
import Derived.Test.YtkelmeemblmggaaSHj
namespace Go.Proofs.Ytkelmeemblmggaa
set_option linter.unusedSimpArgs false
set_option linter.unusedVariables false
open Go.RowKit Go.Sort
theorem doorB_inG {H : Int} {ds : List GDoor} (hB : houseB H ds = true) {x k : Int} (h : doorB ds x k = true) : x ≠ k ∧ 0 ≤ x ∧ x < H ∧ 0 ≤ k ∧ k < H := by
  unfold doorB at h
  rw [List.any_eq_true] at h
  obtain ⟨d, hd, he⟩ := h
  have h1 := (houseB_spec hB).2.2.2.2.1 d hd
  simp only [isDoor, imin, imax, Bool.and_eq_true, beq_iff_eq] at he
  simp only [doorOk, Bool.and_eq_true, decide_eq_true_eq] at h1
  have h2 := he.1
  have h3 := he.2
  split at h2 <;> split at h3 <;> omega
def guardOf (m : GMuseum) (g : Int) : Int := m.gs.getD g.toNat 0
def guardB (m : GMuseum) (g h : Int) : Bool := museumB m && (inB g 0 ((m.gs.length : Int) - 1) && doorB m.ds (guardOf m g) h)
def guardM (m : GMuseum) (g h : Int) : GMuseum := if guardB m g h then { m with gs := m.gs.set g.toNat h } else m
theorem museumB_house {m : GMuseum} (h : museumB m = true) : houseB m.H m.ds = true := by
  unfold museumB at h
  simp only [Bool.and_eq_true] at h
  have := h.1
  unfold placesB hallsB at this
  simp only [Bool.and_eq_true] at this
  exact this.2.2
theorem guard_impl {m : GMuseum} {g h : Int} (hm : museumB m = true) (hg : inB g 0 ((m.gs.length : Int) - 1) = true) : guardB m g h = hasDoorB m.H m.ds (guardOf m g) h := by
  unfold guardB hasDoorB
  rw [hm, hg, museumB_house hm]
  rfl
theorem guard_spec {m : GMuseum} {g h : Int} (hm : museumB m = true) (hg : inB g 0 ((m.gs.length : Int) - 1) = true) : guardB m g h = (inB h 0 (m.H - 1) && (!decide (h = guardOf m g) && doorB m.ds h (guardOf m g))) := by
  have hB := museumB_house hm
  unfold guardB
  rw [hm, hg, doorB_comm m.ds h (guardOf m g)]
  cases hd : doorB m.ds (guardOf m g) h
  · simp
  · obtain ⟨h1, h2, h3, h4, h5⟩ := doorB_inG hB hd
    have : ¬ h = guardOf m g := fun e => h1 e.symm
    simp only [inB, Bool.true_and, this, decide_false, Bool.not_false, Bool.and_true]
    have a1 : decide (0 ≤ h) = true := decide_eq_true h4
    have a2 : decide (h ≤ m.H - 1) = true := decide_eq_true (by omega)
    rw [a1, a2]
    rfl
theorem guardM_lens (m : GMuseum) (g h : Int) : (guardM m g h).ds.length = m.ds.length ∧ (guardM m g h).fs.length = m.fs.length ∧ (guardM m g h).ps.length = m.ps.length ∧ (guardM m g h).gs.length = m.gs.length ∧ (guardM m g h).rs.length = m.rs.length := by
  unfold guardM
  split
  · exact ⟨rfl, rfl, rfl, by simp, rfl⟩
  · exact ⟨rfl, rfl, rfl, rfl, rfl⟩
end Go.Proofs.Ytkelmeemblmggaa
