/- Contract of Suspects of the reference; no condition but what stands at each theorem. -/
import Derived.Test.YtlgmiifpdjalpaaMS
import Derived.Test.YtlgmiifpdjalpaaSF3
namespace Go.Proofs.Ytlgmiifpdjalpaa
set_option linter.unusedSimpArgs false
set_option linter.unusedVariables false
open Go.RowKit Go.Sort
theorem last_ge (cs : List GCheck) (o : Int) : -1 ≤ lastSeen cs o := by
  have key : ∀ (cs : List GCheck) (z : Int), -1 ≤ z → -1 ≤ cs.foldl (lastStep o) z := by
    intro cs
    induction cs with
    | nil => intro z h; exact h
    | cons c cs ih =>
      intro z h
      refine ih _ ?_
      unfold lastStep
      split
      · rename_i h1; simp at h1; omega
      · exact h
  exact key cs (-1) (by omega)
theorem first_neg (cs : List GCheck) (o : Int) : firstMissed cs o = -1 ∨ 0 ≤ firstMissed cs o := by
  have hl := last_ge cs o
  have key : ∀ (cs : List GCheck) (last z : Int), -1 ≤ last → (z = -1 ∨ 0 ≤ z) → (cs.foldl (missStep o last) z = -1 ∨ 0 ≤ cs.foldl (missStep o last) z) := by
    intro cs
    induction cs with
    | nil => intro _ z _ h; exact h
    | cons c cs ih =>
      intro last z h0 h
      refine ih last _ h0 ?_
      unfold missStep
      split
      · rename_i h1; simp at h1; omega
      · exact h
  exact key cs _ (-1) hl (.inl rfl)
theorem own_flat {w : World} {base : Nat} {e : TypeId} {v : Value} {u : List Int} {z : Int} {n : Nat} (h : w.ownsRow base e 1 v (n + 1) (u.flatMap ienc ++ [.int .i64 z])) : w.ownsRow base e 1 v (n + 1) ((u ++ [z]).flatMap ienc) := by
  rw [List.flatMap_append]; exact h
set_option maxRecDepth 100000 in
set_option maxHeartbeats 1000000 in
theorem spec_l19HasG (A : Option Addr) (n c : Nat) (xs : List Int) (x : Int) (w : World) (hx : Rd w 1 A n (xs.flatMap ienc)) :
    Calls Try.prog 118 #[.slice A n c, .int .i64 x] w fun e w' => e = .returned (.bool (decide (x ∈ xs))) ∧ Ext w w' := by
  have hn := hx.2.1
  have hl := Lib.hid (hx.len ienc_len (by omega))
  have HX := Lib.hid hx
  clear hx
  go_enter Try.func118, Try.ntmps118
  go_wp2_with fail
  go_loopw [5] (fun i wr => ∃ (k : Nat), k ≤ n ∧ i = .int .i64 k ∧ Hid (x ∉ xs.take k) ∧ Ext w wr) (fun i _ => n - (intOf i).toNat)
  case atStart => exact ⟨0, Nat.zero_le _, rfl, by unfold Hid; simp, Ext.refl _⟩
  case round =>
    obtain ⟨k, hk, rfl, hno, hb⟩ := hrel
    by_cases hlt : k < n
    · obtain ⟨b, off, y, rfl, hbs, hyk, h0⟩ := ienc_at (HX.out.keep hb) hlt
      have HY := Lib.hid hyk
      have HB := Lib.hid hb
      clear hyk hb
      by_cases hxy : y = x
      · subst hxy
        have HM : Hid (decide (y ∈ xs) = true) := by unfold Hid; simpa using List.mem_of_getElem? HY.out
        go_wp2_with fail
        all_goals (try go_quiet (fail))
        all_goals (try go_wp2_with fail)
        all_goals go_ret
        all_goals exact ⟨ret_bool HM.out.symm, by have hb := HB.out; (repeat (first | exact Ext.refl _ | assumption | refine Ext.alloc ?_ _ | refine Ext.drew ?_ | refine Ext.drewN ?_ _ | refine Ext.setCell ?_ (by first | (simp; done) | (simp; omega)) _ | refine Ext.trans ?_ (by assumption)))⟩
      · have hne : (y == x) = false := beq_false_of_ne hxy
        have HN : Hid (x ∉ xs.take (k + 1)) := by
          unfold Hid
          rw [List.take_add_one, HY.out, Option.toList_some, List.mem_append, List.mem_singleton]
          rintro (h | h)
          · exact hno.out h
          · exact hxy h.symm
        clear hno hxy
        go_wp2_with fail
        all_goals (try go_quiet (fail))
        all_goals (try go_wp2_with fail)
        all_goals
          go_roundw
          case rel => exact ⟨k + 1, by omega, by go_num, HN, by have hb := HB.out; (repeat (first | exact Ext.refl _ | assumption | refine Ext.alloc ?_ _ | refine Ext.drew ?_ | refine Ext.drewN ?_ _ | refine Ext.setCell ?_ (by first | (simp; done) | (simp; omega)) _ | refine Ext.trans ?_ (by assumption)))⟩
          case measure => simp [intOf]; omega
    · obtain rfl : k = n := by omega
      have HM : Hid (decide (x ∈ xs) = false) := by
        unfold Hid
        have := hno.out
        rw [List.take_of_length_le (by rw [hl.out]; omega)] at this
        simpa using this
      go_wp2_with fail
      go_ret
      exact ⟨ret_bool HM.out.symm, hb⟩
end Go.Proofs.Ytlgmiifpdjalpaa
