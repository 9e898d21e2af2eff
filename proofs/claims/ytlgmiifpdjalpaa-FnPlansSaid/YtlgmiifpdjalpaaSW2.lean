/- What the law on stocks asks, in plain Lean; no condition. -/
import Derived.Test.YtlgmiifpdjalpaaSG1
import Derived.Test.YtlgmiifpdjalpaaSW1
import Derived.Test.YtlgmiifpdjalpaaS5
namespace Go.Proofs.Ytlgmiifpdjalpaa
set_option linter.unusedSimpArgs false
set_option linter.unusedVariables false
open Go.RowKit Go.Sort
theorem last_all (cs : List GCheck) (o : Int) : ∀ c ∈ cs, c.o = o → c.th = true → c.m ≤ lastSeen cs o := by
  have key : ∀ (cs : List GCheck) (z : Int), z ≤ cs.foldl (lastStep o) z ∧ ∀ c ∈ cs, c.o = o → c.th = true → c.m ≤ cs.foldl (lastStep o) z := by
    intro cs
    induction cs with
    | nil => intro z; exact ⟨Int.le_refl _, fun c hc => by cases hc⟩
    | cons d cs ih =>
      intro z
      have h1 := ih (lastStep o z d)
      have hz : z ≤ lastStep o z d := by
        unfold lastStep
        split
        · rename_i h; simp at h; omega
        · exact Int.le_refl _
      refine ⟨Int.le_trans hz h1.1, fun c hc ho ht => ?_⟩
      rcases List.mem_cons.1 hc with rfl | hc
      · refine Int.le_trans ?_ h1.1
        unfold lastStep
        split
        · exact Int.le_refl _
        · rename_i h
          simp [ho, ht] at h
          omega
      · exact h1.2 c hc ho ht
  exact (key cs (-1)).2
theorem last_bd {cs : List GCheck} {B : Int} (hB : -1 ≤ B) (h : ∀ c ∈ cs, c.m ≤ B) (o : Int) : lastSeen cs o ≤ B := by
  have key : ∀ (cs : List GCheck) (z : Int), z ≤ B → (∀ c ∈ cs, c.m ≤ B) → cs.foldl (lastStep o) z ≤ B := by
    intro cs
    induction cs with
    | nil => intro z hz _; exact hz
    | cons d cs ih =>
      intro z hz hc
      refine ih _ ?_ (fun c h => hc c (List.mem_cons_of_mem _ h))
      have := hc d (List.mem_cons_self ..)
      unfold lastStep
      split <;> omega
  exact key cs (-1) hB h
theorem missed_gt (cs : List GCheck) (o : Int) : firstMissed cs o = -1 ∨ lastSeen cs o < firstMissed cs o := by
  have key : ∀ (cs : List GCheck) (last z : Int), (z = -1 ∨ last < z) → (cs.foldl (missStep o last) z = -1 ∨ last < cs.foldl (missStep o last) z) := by
    intro cs
    induction cs with
    | nil => intro _ z h; exact h
    | cons c cs ih =>
      intro last z h
      refine ih last _ ?_
      unfold missStep
      split
      · rename_i h1; simp at h1; exact .inr (by omega)
      · exact h
  exact key cs _ (-1) (.inl rfl)
theorem last_after {cs : List GCheck} (h : ∀ c ∈ cs, 0 ≤ c.m ∧ c.m ≤ 1000) (o : Int) : lastSeen (cs ++ [⟨1000, o, true⟩]) o = 1000 := by
  have h1 := last_bd (B := 1000) (by omega) (fun c hc => (h c hc).2) o
  unfold lastSeen at *
  rw [List.foldl_append]
  simp only [List.foldl_cons, List.foldl_nil, lastStep]
  split
  · rfl
  · rename_i h2
    simp at h2
    omega
theorem missed_none {cs : List GCheck} {o : Int} (h : ∀ c ∈ cs, c.m ≤ lastSeen cs o) : firstMissed cs o = -1 := by
  have key : ∀ (cs : List GCheck) (last z : Int), (∀ c ∈ cs, c.m ≤ last) → cs.foldl (missStep o last) z = z := by
    intro cs
    induction cs with
    | nil => intro _ z _; rfl
    | cons c cs ih =>
      intro last z hc
      have h0 := hc c (List.mem_cons_self ..)
      rw [List.foldl_cons, show missStep o last z c = z by unfold missStep; rw [if_neg (by simp; omega)]]
      exact ih last z (fun d hd => hc d (List.mem_cons_of_mem _ hd))
  exact key cs _ (-1) h
theorem missed_after {cs : List GCheck} (h : ∀ c ∈ cs, 0 ≤ c.m ∧ c.m ≤ 1000) (o : Int) : firstMissed (cs ++ [⟨1000, o, true⟩]) o = -1 := by
  refine missed_none fun c hc => ?_
  rw [last_after h]
  rcases List.mem_append.1 hc with hc | hc
  · exact (h c hc).2
  · rw [List.mem_singleton] at hc; subst hc; exact Int.le_refl _
theorem missed_obj (cs : List GCheck) (o : Nat) (ho : o < 3) : decide ((o : Int) ∈ missObj cs 3) = decide (0 ≤ firstMissed cs o) := by
  have hf := first_neg cs o
  rw [decide_eq_decide]
  unfold missObj
  rw [if_pos (by decide)]
  unfold missTo
  rw [show (3 : Int).toNat = 3 from rfl]
  constructor
  · intro h
    obtain ⟨k, hk, e⟩ := List.mem_map.1 h
    obtain ⟨_, h2⟩ := List.mem_filter.1 hk
    have e' : k = o := by exact_mod_cast e
    subst e'
    have : firstMissed cs k ≠ -1 := by simpa using h2
    omega
  · intro h
    refine List.mem_map.2 ⟨o, List.mem_filter.2 ⟨List.mem_range.2 ho, ?_⟩, rfl⟩
    have : firstMissed cs o ≠ -1 := by omega
    simpa using this
theorem missed_bool (cs : List GCheck) (o : Int) : (firstMissed cs o != -1) = decide (0 ≤ firstMissed cs o) := by
  rcases first_neg cs o with h | h
  · rw [h]; rfl
  · rw [decide_eq_true h]
    have : firstMissed cs o ≠ -1 := by omega
    simpa using this
/-- A person under suspicion was there. -/
theorem susp_there {ss : List GStay} {hall : Int} {cs : List GCheck} {o p : Int} (h : p ∈ suspL ss hall cs o) : ∃ s ∈ ss, s.p = p ∧ s.h = hall ∧ s.f ≤ firstMissed cs o ∧ imax 0 (lastSeen cs o) ≤ s.t := by
  unfold suspL at h
  split at h
  · rw [(uniqL_ok _).2] at h
    unfold stayP at h
    obtain ⟨s, hs, e⟩ := List.mem_map.1 h
    obtain ⟨h1, h2⟩ := List.mem_filter.1 hs
    simp [stayK] at h2
    exact ⟨s, h1, e, h2.1.1, h2.1.2, h2.2⟩
  · cases h
theorem susp_sorted (ss : List GStay) (hall : Int) (cs : List GCheck) (o : Int) : (suspL ss hall cs o).Pairwise (· < ·) := by
  unfold suspL
  split
  · exact (uniqL_ok _).1
  · simp
def bencU (b : UInt8) : List Value := [.int .u8 (b.toNat : Int)]
theorem rd_bytes {w : World} {A : Option Addr} {n : Nat} {bs : List UInt8} (h : Rd w 1 A n (bs.flatMap bencU)) : Rd w 1 A n ((bs.map fun b => (b.toNat : Int)).flatMap benc) := by
  rw [List.flatMap_map]; exact h
theorem bytes_bd (bs : List UInt8) : ∀ x ∈ bs.map (fun b => (b.toNat : Int)), 0 ≤ x ∧ x ≤ 255 := by
  intro x hx
  obtain ⟨b, _, rfl⟩ := List.mem_map.1 hx
  have := b.toNat_lt
  omega
set_option maxRecDepth 100000 in
set_option maxHeartbeats 1000000 in
theorem laws_hasL (A : Option Addr) (n c : Nat) (xs : List Int) (x : Int) (w : World) (hx : Rd w 1 A n (xs.flatMap ienc)) :
    Calls Try.prog 21 #[.slice A n c, .int .i64 x] w fun e w' => e = .returned (.bool (decide (x ∈ xs))) ∧ Ext w w' := by
  have hn := hx.2.1
  have hl := Lib.hid (hx.len ienc_len (by omega))
  have HX := Lib.hid hx
  clear hx
  go_enter Try.func21, Try.ntmps21
  go_wp2_with fail
  go_loopw [5] (fun i wr => ∃ (k : Nat), k ≤ n ∧ i = .int .i64 k ∧ Hid (x ∉ xs.take k) ∧ Ext w wr) (fun i _ => n - (intOf i).toNat)
  case atStart => exact ⟨0, Nat.zero_le _, rfl, by unfold Hid; simp, Ext.refl _⟩
  case round =>
    obtain ⟨k, hk, rfl, hno, hb⟩ := hrel
    by_cases hlt : k < n
    · obtain ⟨b, off, y, rfl, hbs, hyk, h0⟩ := ienc_at (HX.out.keep hb) hlt
      have HY := Lib.hid hyk
      have HB := Lib.hid hb
      clear hyk hb
      by_cases hxy : y = x
      · subst hxy
        have HM : Hid (decide (y ∈ xs) = true) := by unfold Hid; simpa using List.mem_of_getElem? HY.out
        go_wp2_with fail
        all_goals go_ret
        all_goals exact ⟨ret_bool HM.out.symm, by have hb := HB.out; (repeat (first | exact Ext.refl _ | assumption | refine Ext.alloc ?_ _ | refine Ext.drew ?_ | refine Ext.drewN ?_ _ | refine Ext.setCell ?_ (by first | (simp; done) | (simp; omega)) _ | refine Ext.trans ?_ (by assumption)))⟩
      · have hne : (y == x) = false := beq_false_of_ne hxy
        have HN : Hid (x ∉ xs.take (k + 1)) := by
          unfold Hid
          rw [List.take_add_one, HY.out, Option.toList_some, List.mem_append, List.mem_singleton]
          rintro (h | h)
          · exact hno.out h
          · exact hxy h.symm
        clear hno hxy
        go_wp2_with fail
        all_goals
          go_roundw
          case rel => exact ⟨k + 1, by omega, by go_num, HN, by have hb := HB.out; (repeat (first | exact Ext.refl _ | assumption | refine Ext.alloc ?_ _ | refine Ext.drew ?_ | refine Ext.drewN ?_ _ | refine Ext.setCell ?_ (by first | (simp; done) | (simp; omega)) _ | refine Ext.trans ?_ (by assumption)))⟩
          case measure => simp [intOf]; omega
    · obtain rfl : k = n := by omega
      have HM : Hid (decide (x ∈ xs) = false) := by
        unfold Hid
        have := hno.out
        rw [List.take_of_length_le (by rw [hl.out]; omega)] at this
        simpa using this
      go_wp2_with fail
      go_ret
      exact ⟨ret_bool HM.out.symm, hb⟩
end Go.Proofs.Ytlgmiifpdjalpaa
