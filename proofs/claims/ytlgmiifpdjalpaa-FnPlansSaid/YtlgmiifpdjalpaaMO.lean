/- What the law on plans asks, in plain Lean; no condition but what stands at each theorem. -/
import Derived.Test.YtlgmiifpdjalpaaS15
import Derived.Test.YtlgmiifpdjalpaaS10
namespace Go.Proofs.Ytlgmiifpdjalpaa
set_option linter.unusedSimpArgs false
set_option linter.unusedVariables false
/-- Each loan can have a hall that is fit for it, with the room that is left. -/
def HasPlan (halls : List GClimate) : List GLoan → List Int → Prop
  | [], _ => True
  | l :: ls, left => ∃ k : Nat, k < halls.length ∧ left.getD k 0 ≠ 0 ∧ breach l (halls.getD k ⟨0, 0, 0⟩) = 0 ∧ HasPlan halls ls (left.set k (left.getD k 0 - 1))
theorem getD_set (u : List Int) (k j : Nat) (x : Int) (hk : k < u.length) : (u.set k x).getD j 0 = if j = k then x else u.getD j 0 := by
  by_cases h : j = k
  · subst h; simp [hk]
  · rw [if_neg h]; simp [Ne.symm h]
theorem drop_getD {loans : List GLoan} {i : Nat} (h : i < loans.length) : loans.drop i = loans.getD i ⟨0, 0, 0, 0⟩ :: loans.drop (i + 1) := by
  rw [List.getD_eq_getElem?_getD, List.getElem?_eq_getElem h, Option.getD_some, List.drop_eq_getElem_cons h]
theorem plansTo_pos (loans : List GLoan) (halls : List GClimate) (hh : halls.length ≤ 5) (f : Nat) (left head : List Int) (k : Nat) :
    0 < (plansTo loans halls f left head k).1 ↔ ∃ j : Nat, j < k ∧ offB loans halls left head j = false ∧ 0 < (plansF loans halls f (left.set j (left.getD j 0 - 1)) (head ++ [(j : Int)])).1 := by
  have nn : ∀ k, 0 ≤ (plansTo loans halls f left head k).1 := by
    intro k
    induction k with
    | zero => simp [plansTo_zero]
    | succ k ih =>
      rw [plansTo_succ]
      unfold planStep
      have := (plansF_bd loans halls hh f (left.set k (left.getD k 0 - 1)) (head ++ [(k : Int)])).1
      split
      · exact ih
      · simp only; omega
  induction k with
  | zero => simp [plansTo_zero]
  | succ k ih =>
    have h0 := nn k
    have h1 := (plansF_bd loans halls hh f (left.set k (left.getD k 0 - 1)) (head ++ [(k : Int)])).1
    rw [plansTo_succ]
    unfold planStep
    cases ho : offB loans halls left head k with
    | true =>
      rw [if_pos rfl]
      refine ih.trans ?_
      constructor
      · rintro ⟨j, hj, r⟩; exact ⟨j, by omega, r⟩
      · rintro ⟨j, hj, h2, h3⟩
        refine ⟨j, ?_, h2, h3⟩
        by_cases e : j = k
        · subst e; rw [ho] at h2; cases h2
        · omega
    | false =>
      rw [if_neg (by simp)]
      simp only
      constructor
      · intro h
        by_cases h2 : 0 < (plansTo loans halls f left head k).1
        · obtain ⟨j, hj, r⟩ := ih.1 h2
          exact ⟨j, by omega, r⟩
        · exact ⟨k, by omega, ho, by omega⟩
      · rintro ⟨j, hj, h2, h3⟩
        by_cases e : j = k
        · subst e; omega
        · have := ih.2 ⟨j, by omega, h2, h3⟩
          omega
theorem plansF_pos (loans : List GLoan) (halls : List GClimate) (hh : halls.length ≤ 5) : ∀ (f : Nat) (left head : List Int), head.length + f = loans.length →
    (0 < (plansF loans halls f left head).1 ↔ HasPlan halls (loans.drop head.length) left)
  | 0, left, head, h => by
    rw [List.drop_of_length_le (by omega)]
    simp [plansF, HasPlan]
  | f + 1, left, head, h => by
    rw [plansF_succ, plansTo_pos loans halls hh, drop_getD (by omega)]
    unfold HasPlan
    refine exists_congr fun k => ?_
    have ih := plansF_pos loans halls hh f (left.set k (left.getD k 0 - 1)) (head ++ [(k : Int)]) (by simp; omega)
    rw [List.length_append, List.length_singleton] at ih
    rw [ih]
    simp only [offB, Bool.or_eq_false_iff]
    constructor
    · rintro ⟨a, ⟨b, c⟩, d⟩
      exact ⟨a, by simpa using b, by simpa using c, d⟩
    · rintro ⟨a, b, c, d⟩
      exact ⟨a, ⟨by simpa using b, by simpa using c⟩, d⟩
theorem hasPlan_mono (halls : List GClimate) : ∀ (ls : List GLoan) (a b : List Int), a.length = halls.length → b.length = halls.length → (∀ k, 0 ≤ a.getD k 0) → (∀ k, a.getD k 0 ≤ b.getD k 0) → HasPlan halls ls a → HasPlan halls ls b
  | [], _, _, _, _, _, _, _ => trivial
  | l :: ls, a, b, ha, hb, h0, hab, h => by
    obtain ⟨k, hk, h1, h2, h3⟩ := h
    have q1 := h0 k
    have q2 := hab k
    refine ⟨k, hk, by omega, h2, hasPlan_mono halls ls _ _ (by rw [List.length_set, ha]) (by rw [List.length_set, hb]) (fun j => ?_) (fun j => ?_) h3⟩
    · have := h0 j
      rw [getD_set _ _ _ _ (by omega)]
      split <;> omega
    · have := hab j
      rw [getD_set _ _ _ _ (by omega), getD_set _ _ _ _ (by omega)]
      split <;> omega
theorem hasPlan_sub (halls : List GClimate) {xs ys : List GLoan} (hs : xs.Sublist ys) : ∀ (a : List Int), a.length = halls.length → (∀ k, 0 ≤ a.getD k 0) → HasPlan halls ys a → HasPlan halls xs a := by
  induction hs with
  | slnil => intro a _ _ h; exact h
  | cons l hs ih =>
    intro a ha h0 h
    obtain ⟨k, hk, h1, h2, h3⟩ := h
    refine ih a ha h0 (hasPlan_mono halls _ _ _ (by rw [List.length_set, ha]) ha (fun j => ?_) (fun j => ?_) h3)
    · have := h0 j
      have := h0 k
      rw [getD_set _ _ _ _ (by omega)]
      split <;> omega
    · rw [getD_set _ _ _ _ (by omega)]
      split
      · subst_vars; omega
      · omega
  | cons_cons l hs ih =>
    intro a ha h0 h
    obtain ⟨k, hk, h1, h2, h3⟩ := h
    refine ⟨k, hk, h1, h2, ih _ (by rw [List.length_set, ha]) (fun j => ?_) h3⟩
    have := h0 j
    have := h0 k
    rw [getD_set _ _ _ _ (by omega)]
    split <;> omega
/-- The first plan that is found is right. -/
theorem plansF_first (loans : List GLoan) (halls : List GClimate) (room : List Int) (hh : halls.length ≤ 5) : ∀ (f : Nat) (left head u : List Int), head.length + f = loans.length → left.length = halls.length → u.length = halls.length →
    (∀ k, k < halls.length → 0 ≤ left.getD k 0 ∧ left.getD k 0 = room.getD k 0 - u.getD k 0) → 0 < (plansF loans halls f left head).1 →
    ∃ r, (plansF loans halls f left head).2 = head ++ r ∧ r.length = f ∧ planRun loans halls room head.length u r = true
  | 0, left, head, u, _, _, _, _, _ => ⟨[], by simp [plansF], rfl, rfl⟩
  | f + 1, left, head, u, hf, hl, hu, hr, hpos => by
    have key : ∀ k, k ≤ halls.length → (plansTo loans halls f left head k).1 = 0 ∨ ∃ r, (plansTo loans halls f left head k).2 = head ++ r ∧ r.length = f + 1 ∧ planRun loans halls room head.length u r = true := by
      intro k
      induction k with
      | zero => intro _; left; rfl
      | succ k ih =>
        intro hk
        rw [plansTo_succ]
        unfold planStep
        cases ho : offB loans halls left head k with
        | true => rw [if_pos rfl]; exact ih (by omega)
        | false =>
          rw [if_neg (by simp)]
          simp only
          have h1 := (plansF_bd loans halls hh f (left.set k (left.getD k 0 - 1)) (head ++ [(k : Int)])).1
          by_cases h0 : (plansTo loans halls f left head k).1 = 0
          · by_cases h2 : 0 < (plansF loans halls f (left.set k (left.getD k 0 - 1)) (head ++ [(k : Int)])).1
            · right
              rw [if_pos (by rw [h0, decide_eq_true h2]; rfl)]
              simp only [offB, Bool.or_eq_false_iff] at ho
              have ho1 : left.getD k 0 ≠ 0 := by simpa using ho.1
              have ho2 : breach (loans.getD head.length ⟨0, 0, 0, 0⟩) (halls.getD k ⟨0, 0, 0⟩) = 0 := by simpa using ho.2
              have hk1 := hr k (by omega)
              obtain ⟨r, e1, e2, e3⟩ := plansF_first loans halls room hh f (left.set k (left.getD k 0 - 1)) (head ++ [(k : Int)]) (inc u k) (by simp; omega) (by rw [List.length_set, hl]) (by rw [inc_len, hu]) (fun j hj => by
                have := hr j hj
                rw [getD_set _ _ _ _ (by omega), inc_get _ _ _ (by omega)]
                split
                · subst_vars; omega
                · omega) h2
              refine ⟨(k : Int) :: r, by rw [e1]; simp, by rw [List.length_cons, e2], ?_⟩
              unfold planRun
              rw [Int.toNat_natCast]
              have hb : badAt loans halls head.length (k : Int) = false := by
                simp only [badAt, inB, Bool.or_eq_false_iff, Bool.not_eq_false', Bool.and_eq_true, decide_eq_true_eq, Int.toNat_natCast]
                exact ⟨by omega, by rw [ho2]; rfl⟩
              rw [hb, if_neg (by simp), inc_get _ _ _ (by omega), if_pos rfl, if_neg (by omega)]
              rw [List.length_append, List.length_singleton] at e3
              exact e3
            · left; omega
          · right
            rw [if_neg (by simp [h0])]
            rcases ih (by omega) with h3 | h3
            · exact absurd h3 h0
            · exact h3
    rw [plansF_succ] at hpos ⊢
    rcases key _ (Nat.le_refl _) with h | h
    · omega
    · exact h
theorem getD_nn {room : List Int} (h : ∀ x ∈ room, 0 ≤ x ∧ x ≤ 6) (k : Nat) : 0 ≤ room.getD k 0 := by
  rw [List.getD_eq_getElem?_getD]
  cases hk : room[k]? with
  | none => simp
  | some x => simpa using (h x (List.mem_of_getElem? hk)).1
theorem plans_pos {loans : List GLoan} {halls : List GClimate} {room : List Int} (hv : sizesOkB loans.length halls.length room = true) : 0 < (plansAll loans halls room).1 ↔ HasPlan halls loans room := by
  rw [plansAll_yes hv, plansF_pos loans halls (sizesOkB_spec hv).2.2.1 loans.length room [] (by simp)]
  simp
theorem plans_nn {loans : List GLoan} {halls : List GClimate} {room : List Int} (hv : sizesOkB loans.length halls.length room = true) : 0 ≤ (plansAll loans halls room).1 := by
  rw [plansAll_yes hv]
  exact (plansF_bd loans halls (sizesOkB_spec hv).2.2.1 loans.length room []).1
theorem plans_first {loans : List GLoan} {halls : List GClimate} {room : List Int} (hv : sizesOkB loans.length halls.length room = true) (h : 0 < (plansAll loans halls room).1) : planOkB loans halls room (plansAll loans halls room).2 = true := by
  obtain ⟨g1, g2, g3, g4, g5⟩ := sizesOkB_spec hv
  rw [plansAll_yes hv] at h ⊢
  obtain ⟨r, e1, e2, e3⟩ := plansF_first loans halls room g3 loans.length room [] (List.replicate halls.length 0) (by simp) g4 (by simp) (fun k hk => ⟨getD_nn g5 k, by simp [hk]⟩) h
  rw [List.nil_append] at e1
  rw [e1]
  unfold planOkB
  rw [hv, e2, decide_eq_true rfl]
  exact e3
theorem sizes_sub {m n nh : Nat} {room : List Int} (h : sizesOkB n nh room = true) (hm : m ≤ n) : sizesOkB m nh room = true := by
  unfold sizesOkB at *
  simp only [Bool.and_eq_true, decide_eq_true_eq] at *
  exact ⟨⟨⟨by omega, h.1.1.2⟩, h.1.2⟩, h.2⟩
theorem range_loans (loans : List GLoan) : ((List.range loans.length).map fun (k : Nat) => (k : Int)).map (loanAt loans) = loans := by
  rw [List.map_map]
  apply List.ext_getElem (by simp)
  intro i h1 h2
  simp [loanAt, h2]
theorem bits_sub (loans : List GLoan) (s : Nat) : ((bitsL loans.length s).map (loanAt loans)).Sublist loans := by
  have h := ((List.filter_sublist (p := fun k => (s >>> k) % 2 == 1) (l := List.range loans.length)).map fun (k : Nat) => (k : Int)).map (loanAt loans)
  rw [range_loans] at h
  exact h
theorem all_lists {n : Nat} (h : n ≤ 6) : (∀ x ∈ allL n, (x.Pairwise fun a b => a < b) ∧ ∀ y ∈ x, 0 ≤ y ∧ y < (n : Int)) ∧ (∀ x ∈ allL n, ∀ k, k < x.length → 1 < x.length → x.eraseIdx k ∈ allL n) ∧ (0 < n → ((List.range n).map fun (k : Nat) => (k : Int)) ∈ allL n) := by
  have h7 : n = 0 ∨ n = 1 ∨ n = 2 ∨ n = 3 ∨ n = 4 ∨ n = 5 ∨ n = 6 := by omega
  rcases h7 with rfl | rfl | rfl | rfl | rfl | rfl | rfl <;> exact ⟨by decide +kernel, by decide +kernel, by decide +kernel⟩
/-- What the law asks of a least conflict. -/
theorem plan_law {loans : List GLoan} {halls : List GClimate} {room : List Int} (hv : sizesOkB loans.length halls.length room = true) :
    (0 < (plansAll loans halls room).1 ↔ leastC loans halls room = []) ∧
    ((leastC loans halls room).Pairwise fun a b => a < b) ∧ (∀ y ∈ leastC loans halls room, 0 ≤ y ∧ y < (loans.length : Int)) ∧
    ((plansAll loans halls room).1 = 0 → (∀ k, k < (leastC loans halls room).length → 0 < (plansAll (((leastC loans halls room).map (loanAt loans)).take k ++ ((leastC loans halls room).map (loanAt loans)).drop (k + 1)) halls room).1) ∧ (plansAll ((leastC loans halls room).map (loanAt loans)) halls room).1 = 0) ∧ (leastC loans halls room).length ≤ 6 := by
  obtain ⟨g1, g2, g3, g4, g5⟩ := sizesOkB_spec hv
  have hnn := fun k => getD_nn g5 k
  obtain ⟨a1, a2, a3⟩ := all_lists g1
  obtain ⟨s1, s2, s3, s4⟩ := sets_all g1
  have hlen : ∀ x ∈ allL loans.length, (x.map (loanAt loans)).Sublist loans := by
    intro x hx
    obtain ⟨s, _, rfl⟩ := List.mem_map.1 (s3 x hx)
    exact bits_sub loans s
  have hsz : ∀ x ∈ allL loans.length, sizesOkB (x.map (loanAt loans)).length halls.length room = true := fun x hx => sizes_sub hv (hlen x hx).length_le
  obtain ⟨c, hc⟩ : ∃ c, c = leastC loans halls room := ⟨_, rfl⟩
  rw [← hc]
  unfold leastC at hc
  rw [if_pos hv] at hc
  cases hf : (allL loans.length).find? (confl loans halls room) with
  | none =>
    rw [hf] at hc
    simp only [Option.getD_none] at hc
    subst hc
    have hpos : 0 < (plansAll loans halls room).1 := by
      by_cases hn : loans.length = 0
      · have : loans = [] := List.length_eq_zero_iff.1 hn
        rw [plans_pos hv, this]
        trivial
      · have h1 := a3 (by omega)
        have h2 := List.find?_eq_none.1 hf _ h1
        unfold confl at h2
        rw [range_loans] at h2
        have := plans_nn hv
        simp at h2
        omega
    refine ⟨⟨fun _ => rfl, fun _ => hpos⟩, List.Pairwise.nil, ⟨fun y hy => (by cases hy), ⟨fun h => (by omega), by simp⟩⟩⟩
  | some b =>
    rw [hf] at hc
    simp only [Option.getD_some] at hc
    subst hc
    have hm := List.mem_of_find?_eq_some hf
    have hp := List.find?_some hf
    have hne := s2 c hm
    have hz : (plansAll (c.map (loanAt loans)) halls room).1 = 0 := by simpa [confl] using hp
    refine ⟨⟨fun h => ?_, fun h => absurd h hne⟩, (a1 c hm).1, (a1 c hm).2, fun h0 => ⟨fun k hk => ?_, hz⟩, ?_⟩
    · have h1 := hasPlan_sub halls (hlen c hm) room g4 hnn ((plans_pos hv).1 h)
      have h2 := (plans_pos (hsz c hm)).2 h1
      omega
    · have he : (c.map (loanAt loans)).take k ++ (c.map (loanAt loans)).drop (k + 1) = (c.eraseIdx k).map (loanAt loans) := by
        rw [List.eraseIdx_eq_take_drop_succ, List.map_append, List.map_take, List.map_drop]
      rw [he]
      by_cases h1 : 1 < c.length
      · have hx := a2 c hm k hk h1
        have hl : ltr (c.eraseIdx k) c = true := by
          unfold ltr
          rw [List.length_eraseIdx, if_pos hk, decide_eq_true (by omega)]
          rfl
        obtain ⟨ps, qs, e1, e2⟩ := (List.find?_eq_some_iff_append.1 hf).2
        have hnot : confl loans halls room (c.eraseIdx k) = false := by
          rw [e1] at hx
          rcases List.mem_append.1 hx with hx | hx
          · have := e2 _ hx
            simpa using this
          · rcases List.mem_cons.1 hx with hx | hx
            · exfalso
              have := congrArg List.length hx
              rw [List.length_eraseIdx, if_pos hk] at this
              omega
            · exfalso
              rw [e1] at s1
              have := (List.pairwise_cons.1 (List.pairwise_append.1 s1).2.1).1 _ hx
              exact ltr_asymm this hl
        have hnn2 := plans_nn (hsz _ (a2 c hm k hk h1))
        simp [confl] at hnot
        omega
      · have hcl : c.length = 1 := by omega
        have : c.eraseIdx k = [] := by
          apply List.length_eq_zero_iff.1
          rw [List.length_eraseIdx, if_pos hk]
          omega
        rw [this, List.map_nil, plans_pos (sizes_sub hv (Nat.zero_le _))]
        trivial
    · have := (hlen c hm).length_le
      rw [List.length_map] at this
      omega
end Go.Proofs.Ytlgmiifpdjalpaa
