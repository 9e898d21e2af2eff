/- Contracts of ReplayMoves; no condition but what stands at each theorem. -/
import Derived.Test.YtcmbjkidgemdaaaSHm
namespace Go.Proofs.Ytcmbjkidgemdaaa
set_option linter.unusedSimpArgs false
set_option linter.unusedVariables false
open Go.RowKit Go.Sort
/-- The moves ms done from u; where one does not go, ps. -/
def replayF (H : Int) (ds : List GDoor) (ps : List Int) : List Int → List GMove → List Int × Bool
  | u, [] => (u, true)
  | u, m :: r => if goB H ds u m then replayF H ds ps (u.set m.o.toNat m.t) r else (ps, false)
def replayL (H : Int) (ds : List GDoor) (ps : List Int) (ms : List GMove) : List Int × Bool :=
  if placesB H ds ps && decide (ms.length ≤ 30) then replayF H ds ps ps ms else (ps, false)
theorem goB_obj {H : Int} {ds : List GDoor} {ps : List Int} {m : GMove} (h : goB H ds ps m = true) : 0 ≤ m.o ∧ m.o < ps.length := by
  simp only [goB, inB, Bool.and_eq_true, decide_eq_true_eq] at h
  have h1 := h.1
  omega
theorem replayF_len (H : Int) (ds : List GDoor) (ps : List Int) : ∀ (ms : List GMove) (u : List Int), u.length = ps.length → (replayF H ds ps u ms).1.length = ps.length
  | [], u, h => h
  | m :: r, u, h => by
    unfold replayF
    split
    · exact replayF_len H ds ps r _ (by simpa using h)
    · rfl
theorem replayL_len (H : Int) (ds : List GDoor) (ps : List Int) (ms : List GMove) : (replayL H ds ps ms).1.length = ps.length := by
  unfold replayL
  split
  · exact replayF_len H ds ps ms ps rfl
  · rfl
theorem box4 (w : World) (b0 b1 b2 b3 : Value) (t : TypeId) (wb : World) (hwb : wb = w.alloc (.cells #[b0, b1, b2, b3] t)) :
    Ext w wb ∧ wb.heap.size = w.heap.size + 1 ∧ wb.cell? ⟨w.heap.size, 0, none⟩ = some b0 ∧ wb.cell? ⟨w.heap.size, 1, none⟩ = some b1 ∧ wb.cell? ⟨w.heap.size, 2, none⟩ = some b2 ∧ wb.cell? ⟨w.heap.size, 3, none⟩ = some b3 := by
  subst hwb
  refine ⟨(Ext.refl w).alloc _, by simp, ?_, ?_, ?_, ?_⟩
  all_goals rw [World.cell?_alloc_new]; rfl
end Go.Proofs.Ytcmbjkidgemdaaa
