/- Texts of one proof, laid one behind the other (MB, MX, SD1, SDa, SDb); no condition but what stands at each theorem. -/
import Derived.Test.YtfmifllcbbfpoaaGreatDoorZA
import Derived.Test.YtfmifllcbbfpoaaGreatDoorZB
import Derived.Test.YtfmifllcbbfpoaaGreatDoorZM
/- The search through the halls finds each hall at its distance; the halls that a set of keys opens; no condition but what stands at each theorem. -/
namespace Go.Proofs.YtfmifllcbbfpoaaGreatDoor
set_option linter.unusedSimpArgs false
set_option linter.unusedVariables false
/-- The halls that can be reached from a in at most n steps. -/
def ball (ds : List GDoor) (h a : Nat) : Nat → Nat → Bool
  | 0, k => k == a
  | n + 1, k => ball ds h a n k || (List.range h).any fun (j : Nat) => ball ds h a n j && doorB ds j k
theorem ball_up {ds : List GDoor} {h a n m k : Nat} (hb : ball ds h a n k = true) (hm : n ≤ m) : ball ds h a m k = true := by
  induction m with
  | zero => obtain rfl : n = 0 := by omega
            exact hb
  | succ m ih =>
    by_cases e : n = m + 1
    · subst e; exact hb
    · simp only [ball, Bool.or_eq_true]; exact .inl (ih (by omega))
theorem ball_step {ds : List GDoor} {h a n j k : Nat} (hj : j < h) (hb : ball ds h a n j = true) (hd : doorB ds j k = true) : ball ds h a (n + 1) k = true := by
  simp only [ball, Bool.or_eq_true, List.any_eq_true, Bool.and_eq_true]
  exact .inr ⟨j, by simpa using hj, hb, hd⟩
theorem ball_cases {ds : List GDoor} {h a n k : Nat} (hb : ball ds h a (n + 1) k = true) : ball ds h a n k = true ∨ ∃ j, j < h ∧ ball ds h a n j = true ∧ doorB ds j k = true := by
  simp only [ball, Bool.or_eq_true, List.any_eq_true, Bool.and_eq_true] at hb
  rcases hb with hb | ⟨j, h1, h2, h3⟩
  · exact .inl hb
  · exact .inr ⟨j, by simpa using h1, h2, h3⟩
theorem ball_left {ds : List GDoor} {h a j : Nat} (ha : a < h) (hd : doorB ds a j = true) : ∀ {n k : Nat}, ball ds h j n k = true → ball ds h a (n + 1) k = true
  | 0, k, hb => by
    simp only [ball, beq_iff_eq] at hb
    subst hb
    exact ball_step (n := 0) ha (by simp [ball]) hd
  | n + 1, k, hb => by
    rcases ball_cases hb with hb | ⟨i, h1, h2, h3⟩
    · exact ball_up (ball_left ha hd hb) (by omega)
    · exact ball_step h1 (ball_left ha hd h2) h3
theorem ball_sym {ds : List GDoor} {h : Nat} : ∀ {n a k : Nat}, k < h → ball ds h a n k = true → ball ds h k n a = true
  | 0, a, k, _, hb => by simp only [ball, beq_iff_eq] at hb ⊢; exact hb.symm
  | n + 1, a, k, hk, hb => by
    rcases ball_cases hb with hb | ⟨j, h1, h2, h3⟩
    · exact ball_up (ball_sym hk hb) (by omega)
    · exact ball_left hk (by rw [doorB_comm]; exact h3) (ball_sym h1 h2)
/-- The search, some way on: i halls are done. -/
structure Seen (ds : List GDoor) (a h i : Nat) (S : BS) : Prop where
  inv : BInv a h S
  snd : ∀ k, k < h → 0 ≤ S.f.getD k 0 → ∃ n : Nat, S.d.getD k 0 = (n : Int) ∧ ball ds h a n k = true
  inq : ∀ k, k < h → 0 ≤ S.f.getD k 0 → ∃ j, j < S.q.length ∧ S.q.getD j 0 = (k : Int)
  done : ∀ j, j < i → j < S.q.length → ∀ k, k < h → doorB ds (S.q.getD j 0) k = true → 0 ≤ S.f.getD k 0 ∧ S.d.getD k 0 ≤ S.d.getD (S.q.getD j 0).toNat 0 + 1
  mono : ∀ j j', j ≤ j' → j' < S.q.length → S.d.getD (S.q.getD j 0).toNat 0 ≤ S.d.getD (S.q.getD j' 0).toNat 0
  top : i < S.q.length → ∀ j, j < S.q.length → S.d.getD (S.q.getD j 0).toNat 0 ≤ S.d.getD (S.q.getD i 0).toNat 0 + 1
theorem Seen.at_ {ds : List GDoor} {a h i : Nat} {S : BS} (I : Seen ds a h i S) {j : Nat} (hj : j < S.q.length) : ∃ k, k < h ∧ S.q.getD j 0 = (k : Int) ∧ 0 ≤ S.f.getD k 0 :=
  I.inv.qin _ (by
    have : S.q.getD j 0 = S.q[j] := by simp [hj]
    rw [this]; exact List.getElem_mem hj)
theorem Seen.vis {ds : List GDoor} {a h i p k : Nat} {S : BS} (I : Seen ds a h i S) (hi : i < S.q.length) (hp : S.q.getD i 0 = (p : Int)) (hk : k < h) (hd : doorB ds p k = true) :
    Seen ds a h i (vis (p : Int) S k) ∧ i < (Proofs.YtfmifllcbbfpoaaGreatDoor.vis (p : Int) S k).q.length ∧ (Proofs.YtfmifllcbbfpoaaGreatDoor.vis (p : Int) S k).q.getD i 0 = (p : Int)
    ∧ 0 ≤ (Proofs.YtfmifllcbbfpoaaGreatDoor.vis (p : Int) S k).f.getD k 0 ∧ (Proofs.YtfmifllcbbfpoaaGreatDoor.vis (p : Int) S k).d.getD k 0 ≤ (Proofs.YtfmifllcbbfpoaaGreatDoor.vis (p : Int) S k).d.getD p 0 + 1
    ∧ ∀ j, j < h → 0 ≤ S.f.getD j 0 → 0 ≤ (Proofs.YtfmifllcbbfpoaaGreatDoor.vis (p : Int) S k).f.getD j 0 ∧ (Proofs.YtfmifllcbbfpoaaGreatDoor.vis (p : Int) S k).d.getD j 0 = S.d.getD j 0 := by
  obtain ⟨p', hp', hpe, hfp⟩ := I.at_ hi
  obtain rfl : p = p' := by rw [hp] at hpe; omega
  have hB := I.inv.vis hp' hfp hk
  have hq := fun j (hj : j < S.q.length) => vis_q (x := (p : Int)) (k := k) hj
  unfold Proofs.YtfmifllcbbfpoaaGreatDoor.vis at hB hq ⊢
  by_cases hf : S.f.getD k 0 < 0
  · rw [if_pos hf] at hB hq ⊢
    have lf := I.inv.lf
    have ld := I.inv.ld
    have hkp : p ≠ k := by rintro rfl; omega
    have gf : ∀ j, (S.f.set k (p : Int)).getD j 0 = if j = k then (p : Int) else S.f.getD j 0 := fun j => getD_set' _ _ _ _ (by omega)
    rw [Int.toNat_natCast] at hB hq ⊢
    have gd : ∀ j, (S.d.set k (S.d.getD p 0 + 1)).getD j 0 = if j = k then S.d.getD p 0 + 1 else S.d.getD j 0 := fun j => getD_set' _ _ _ _ (by omega)
    have old : ∀ j, j < S.q.length → ∃ v, v < h ∧ v ≠ k ∧ S.q.getD j 0 = (v : Int) ∧ 0 ≤ S.f.getD v 0 := by
      intro j hj
      obtain ⟨v, h1, h2, h3⟩ := I.at_ hj
      exact ⟨v, h1, by rintro rfl; omega, h2, h3⟩
    have qo : ∀ j, j < S.q.length → (S.q ++ [(k : Int)]).getD j 0 = S.q.getD j 0 := fun j hj => (hq j hj).1
    have qn : (S.q ++ [(k : Int)]).getD S.q.length 0 = (k : Int) := by simp
    have dq : ∀ j, j < S.q.length → (S.d.set k (S.d.getD p 0 + 1)).getD ((S.q ++ [(k : Int)]).getD j 0).toNat 0 = S.d.getD (S.q.getD j 0).toNat 0 := by
      intro j hj
      obtain ⟨v, h1, h2, h3, h4⟩ := old j hj
      rw [qo j hj, h3, Int.toNat_natCast, gd, if_neg h2]
    have dn : (S.d.set k (S.d.getD p 0 + 1)).getD ((S.q ++ [(k : Int)]).getD S.q.length 0).toNat 0 = S.d.getD p 0 + 1 := by
      rw [qn, Int.toNat_natCast, gd, if_pos rfl]
    have dp : S.d.getD (S.q.getD i 0).toNat 0 = S.d.getD p 0 := by rw [hp, Int.toNat_natCast]
    refine ⟨⟨hB, ?_, ?_, ?_, ?_, ?_⟩, ?_, ?_, ?_, ?_, ?_⟩
    · intro j hj hfj
      simp only [gf, gd] at hfj ⊢
      by_cases hjk : j = k
      · subst hjk
        obtain ⟨n, hn, hb⟩ := I.snd p hp' hfp
        simp only [if_true]
        exact ⟨n + 1, by rw [hn]; rfl, ball_step hp' hb hd⟩
      · simp only [hjk, if_false] at hfj ⊢
        exact I.snd j hj hfj
    · intro j hj hfj
      simp only [gf] at hfj
      simp only [List.length_append, List.length_cons, List.length_nil]
      by_cases hjk : j = k
      · subst hjk
        exact ⟨S.q.length, by omega, qn⟩
      · simp only [hjk, if_false] at hfj
        obtain ⟨j', h1, h2⟩ := I.inq j hj hfj
        exact ⟨j', by omega, by rw [qo j' h1]; exact h2⟩
    · intro j hji _ v hv hdv
      have hjl : j < S.q.length := by omega
      rw [dq j hjl]
      simp only [qo j hjl] at hdv
      obtain ⟨h1, h2⟩ := I.done j hji hjl v hv hdv
      have hvk : v ≠ k := by rintro rfl; omega
      simp only [gf, gd, hvk, if_false]
      exact ⟨h1, h2⟩
    · intro j j' hjj hj'
      simp only [List.length_append, List.length_cons, List.length_nil] at hj'
      by_cases e : j' = S.q.length
      · subst e
        rw [dn]
        by_cases e2 : j = S.q.length
        · subst e2; rw [dn]; omega
        · rw [dq j (by omega), ← dp]
          exact I.top hi j (by omega)
      · rw [dq j (by omega), dq j' (by omega)]
        exact I.mono j j' hjj (by omega)
    · intro _ j hj
      simp only [List.length_append, List.length_cons, List.length_nil] at hj
      rw [dq i hi]
      by_cases e : j = S.q.length
      · subst e; rw [dn, dp]; omega
      · rw [dq j (by omega)]; exact I.top hi j (by omega)
    · simp only [List.length_append]; omega
    · exact (qo i hi).trans hp
    · simp only [gf, if_true]; omega
    · simp only [gd, if_true, hkp, if_false]; omega
    · intro j hj hfj
      have hjk : j ≠ k := by rintro rfl; omega
      simp only [gf, gd, hjk, if_false]
      exact ⟨hfj, trivial⟩
  · rw [if_neg hf]
    refine ⟨I, hi, hp, by omega, ?_, fun j _ hj => ⟨hj, rfl⟩⟩
    obtain ⟨j, hj, hje⟩ := I.inq k hk (by omega)
    have := I.top hi j hj
    rw [hje, hp, Int.toNat_natCast, Int.toNat_natCast] at this
    exact this
theorem Seen.fold {ds : List GDoor} {a h i p : Nat} : ∀ (ns : List Nat) {S : BS}, Seen ds a h i S → i < S.q.length → S.q.getD i 0 = (p : Int) → (∀ k ∈ ns, k < h ∧ doorB ds p k = true) →
    Seen ds a h i (ns.foldl (Proofs.YtfmifllcbbfpoaaGreatDoor.vis (p : Int)) S) ∧ i < (ns.foldl (Proofs.YtfmifllcbbfpoaaGreatDoor.vis (p : Int)) S).q.length ∧ (ns.foldl (Proofs.YtfmifllcbbfpoaaGreatDoor.vis (p : Int)) S).q.getD i 0 = (p : Int)
    ∧ (∀ k ∈ ns, 0 ≤ (ns.foldl (Proofs.YtfmifllcbbfpoaaGreatDoor.vis (p : Int)) S).f.getD k 0 ∧ (ns.foldl (Proofs.YtfmifllcbbfpoaaGreatDoor.vis (p : Int)) S).d.getD k 0 ≤ (ns.foldl (Proofs.YtfmifllcbbfpoaaGreatDoor.vis (p : Int)) S).d.getD p 0 + 1)
    ∧ ∀ j, j < h → 0 ≤ S.f.getD j 0 → 0 ≤ (ns.foldl (Proofs.YtfmifllcbbfpoaaGreatDoor.vis (p : Int)) S).f.getD j 0 ∧ (ns.foldl (Proofs.YtfmifllcbbfpoaaGreatDoor.vis (p : Int)) S).d.getD j 0 = S.d.getD j 0
  | [], S, I, hi, hp, _ => ⟨I, hi, hp, fun k hk => by simp at hk, fun j _ hj => ⟨hj, rfl⟩⟩
  | k :: ns, S, I, hi, hp, hn => by
    obtain ⟨p', hp', hpe, hfp⟩ := I.at_ hi
    obtain rfl : p = p' := by rw [hp] at hpe; omega
    obtain ⟨hk, hd⟩ := hn k (by simp)
    obtain ⟨I1, i1, q1, v1, d1, o1⟩ := I.vis hi hp hk hd
    obtain ⟨I2, i2, q2, v2, o2⟩ := Seen.fold ns I1 i1 q1 (fun j hj => hn j (by simp [hj]))
    refine ⟨I2, i2, q2, ?_, ?_⟩
    · intro j hj
      rcases List.mem_cons.1 hj with rfl | hj
      · obtain ⟨a1, a2⟩ := o2 j hk v1
        obtain ⟨b1, b2⟩ := o2 p hp' (o1 p hp' hfp).1
        simp only [List.foldl_cons]
        exact ⟨a1, by rw [a2, b2]; exact d1⟩
      · exact v2 j hj
    · intro j hj hf
      obtain ⟨a1, a2⟩ := o1 j hj hf
      obtain ⟨b1, b2⟩ := o2 j hj a1
      exact ⟨b1, b2.trans a2⟩
theorem Seen.rnd {ds : List GDoor} {a h i : Nat} {S : BS} (I : Seen ds a h i S) (hi : i < S.q.length) : Seen ds a h (i + 1) (rnd ds h S i) := by
  obtain ⟨p, hp, hpe, hfp⟩ := I.at_ hi
  rw [rnd_nbr, hpe]
  obtain ⟨I2, i2, q2, v2, o2⟩ := Seen.fold (nbr ds h (p : Int)) I hi hpe (fun k hk => ⟨nbr_lt hk, by unfold nbr at hk; simpa using (List.mem_filter.1 hk).2⟩)
  refine ⟨I2.inv, I2.snd, I2.inq, ?_, I2.mono, ?_⟩
  · intro j hj hjl k hk hd
    by_cases e : j = i
    · subst e
      rw [q2] at hd ⊢
      rw [Int.toNat_natCast]
      refine v2 k ?_
      unfold nbr
      rw [List.mem_filter]
      exact ⟨by simpa using hk, hd⟩
    · exact I2.done j (by omega) hjl k hk hd
  · intro hl j hj
    have h1 := I2.top i2 j hj
    have h2 := I2.mono i (i + 1) (by omega) hl
    omega
theorem Seen.bfs {ds : List GDoor} {a h : Nat} : ∀ (n i : Nat) {S : BS}, Seen ds a h i S → h ≤ i + n → ∃ i', Seen ds a h i' (bfs ds h n i S) ∧ (Proofs.YtfmifllcbbfpoaaGreatDoor.bfs ds h n i S).q.length ≤ i'
  | 0, i, S, I, hn => ⟨i, I, by have := I.inv.qle; show S.q.length ≤ i; omega⟩
  | n + 1, i, S, I, hn => by
    unfold Proofs.YtfmifllcbbfpoaaGreatDoor.bfs
    split
    · rename_i hi; exact Seen.bfs n (i + 1) (I.rnd hi) (by omega)
    · rename_i hi; exact ⟨i, I, by omega⟩
theorem seen0 {ds : List GDoor} {a h : Nat} (ha : a < h) : Seen ds a h 0 (bs0 h a) := by
  have B := binv0 ha
  have one : ∀ k, k < h → 0 ≤ (bs0 h a).f.getD k 0 → k = a := by
    intro k hk hf
    refine Classical.byContradiction fun hne => ?_
    have : (bs0 h a).f.getD k 0 = -1 := by
      simp only [bs0]
      rw [getD_set' _ _ _ _ (by simpa using ha), if_neg hne]
      simp [hk]
    omega
  refine ⟨B, ?_, ?_, fun j hj => by omega, ?_, ?_⟩
  · intro k hk hf
    obtain rfl := one k hk hf
    exact ⟨0, B.root.2, by simp [ball]⟩
  · intro k hk hf
    obtain rfl := one k hk hf
    exact ⟨0, by simp [bs0], by simp [bs0]⟩
  · intro j j' hj hj'
    simp only [bs0, List.length_cons, List.length_nil] at hj'
    obtain rfl : j' = 0 := by omega
    obtain rfl : j = 0 := by omega
    exact Int.le_refl _
  · intro _ j hj
    simp only [bs0, List.length_cons, List.length_nil] at hj
    obtain rfl : j = 0 := by omega
    omega
theorem seen_all (ds : List GDoor) {a h : Nat} (ha : a < h) : ∃ i, Seen ds a h i (bfsAll ds h a) ∧ (bfsAll ds h a).q.length ≤ i := Seen.bfs h 0 (seen0 ha) (by omega)
/-- The search finds a hall at a distance of at most n just if it can be reached in n steps. -/
theorem bfs_ball (ds : List GDoor) {a h k : Nat} (ha : a < h) (hk : k < h) (n : Nat) : (0 ≤ (bfsAll ds h a).d.getD k 0 ∧ (bfsAll ds h a).d.getD k 0 ≤ n) ↔ ball ds h a n k = true := by
  obtain ⟨i, I, hi⟩ := seen_all ds ha
  constructor
  · rintro ⟨h1, h2⟩
    have hf : 0 ≤ (bfsAll ds h a).f.getD k 0 := by
      have := I.inv.iff_ k hk
      omega
    obtain ⟨m, hm, hb⟩ := I.snd k hk hf
    exact ball_up hb (by omega)
  · intro hb
    have key : ∀ (n k : Nat), k < h → ball ds h a n k = true → 0 ≤ (bfsAll ds h a).f.getD k 0 ∧ (bfsAll ds h a).d.getD k 0 ≤ n := by
      intro n
      induction n with
      | zero =>
        intro k hk hb
        simp only [ball, beq_iff_eq] at hb
        subst hb
        have := I.inv.root
        omega
      | succ n ih =>
        intro k hk hb
        rcases ball_cases hb with hb | ⟨j, h1, h2, h3⟩
        · have := ih k hk hb; omega
        · obtain ⟨f1, d1⟩ := ih j h1 h2
          obtain ⟨q, hq, hqe⟩ := I.inq j h1 f1
          have := I.done q (by omega) hq k hk (by rw [hqe]; exact h3)
          rw [hqe, Int.toNat_natCast] at this
          omega
    obtain ⟨f1, d1⟩ := key n k hk hb
    have := I.inv.iff_ k hk
    omega
theorem reach_ball (ds : List GDoor) {a h k : Nat} (ha : a < h) (hk : k < h) : reachB ds h a k = ball ds h a h k := by
  have I := BInv.all ds ha
  rw [Bool.eq_iff_iff]
  constructor
  · intro hr
    have hf : 0 ≤ (bfsAll ds h a).f.getD k 0 := by simpa [reachB] using hr
    have h1 := I.dlt_ k hk hf
    have h2 := I.qle
    have h3 := I.iff_ k hk
    exact (bfs_ball ds ha hk h).1 (by omega)
  · intro hb
    have h1 := (bfs_ball ds ha hk h).2 hb
    have h3 := I.iff_ k hk
    simp only [reachB, decide_eq_true_eq]
    omega
theorem ball_most (ds : List GDoor) {a h k n : Nat} (ha : a < h) (hk : k < h) (hb : ball ds h a n k = true) : ball ds h a h k = true := by
  have I := BInv.all ds ha
  have h1 := (bfs_ball ds ha hk n).2 hb
  have h3 := I.iff_ k hk
  have h4 := I.dlt_ k hk (by omega)
  have h2 := I.qle
  exact (bfs_ball ds ha hk h).1 (by omega)
/-- How far two halls are. -/
def distB (ds : List GDoor) (h a k : Nat) : Int := (bfsAll ds h a).d.getD k 0
theorem dist_sym (ds : List GDoor) {a h k : Nat} (ha : a < h) (hk : k < h) (hr : reachB ds h a k = true) : distB ds h a k = distB ds h k a ∧ 0 ≤ distB ds h a k := by
  have h1 := bfs_ball ds ha hk
  have h2 := bfs_ball ds hk ha
  have hs : ∀ n, ball ds h a n k = true ↔ ball ds h k n a = true := fun n => ⟨ball_sym hk, ball_sym ha⟩
  have hb := (h1 h).2 (by rw [← reach_ball ds ha hk]; exact hr)
  unfold distB
  obtain ⟨x, hx⟩ : ∃ x, x = (bfsAll ds h a).d.getD k 0 := ⟨_, rfl⟩
  obtain ⟨y, hy⟩ : ∃ y, y = (bfsAll ds h k).d.getD a 0 := ⟨_, rfl⟩
  rw [← hx, ← hy]
  rw [← hx] at h1 hb
  rw [← hy] at h2
  have e : ∀ n : Nat, (0 ≤ x ∧ x ≤ n) ↔ (0 ≤ y ∧ y ≤ n) := fun n => (h1 n).trans ((hs n).trans (h2 n).symm)
  have e1 := (e x.toNat).1 (by omega)
  have e2 := (e y.toNat).2 (by omega)
  omega
theorem ball_trans {ds : List GDoor} {h a j n : Nat} (hb : ball ds h a n j = true) : ∀ {m k : Nat}, ball ds h j m k = true → ball ds h a (n + m) k = true
  | 0, k, hk => by
    simp only [ball, beq_iff_eq] at hk
    subst hk
    exact hb
  | m + 1, k, hk => by
    rcases ball_cases hk with hk | ⟨i, h1, h2, h3⟩
    · exact ball_up (ball_trans hb hk) (by omega)
    · exact ball_step h1 (ball_trans hb h2) h3
theorem house_reach {ds : List GDoor} {h : Nat} (hr : ∀ k, k < h → reachB ds h 0 k = true) {a k : Nat} (ha : a < h) (hk : k < h) : reachB ds h a k = true := by
  have h0 : 0 < h := by omega
  have h1 := hr a ha
  have h2 := hr k hk
  rw [reach_ball ds h0 ha] at h1
  rw [reach_ball ds h0 hk] at h2
  rw [reach_ball ds ha hk]
  exact ball_most ds ha hk (ball_trans (ball_sym ha h1) h2)
/-- The doors that a set of keys opens. -/
def opened : Nat → List GDoor → List GDoor
  | _, [] => []
  | r, d :: ds => if r % 2 == 1 then d :: opened (r / 2) ds else opened (r / 2) ds
theorem opened_sub : ∀ (r : Nat) (ds : List GDoor), (opened r ds).Sublist ds
  | _, [] => List.Sublist.refl _
  | r, d :: ds => by
    unfold opened
    split
    · exact (opened_sub (r / 2) ds).cons_cons d
    · exact (opened_sub (r / 2) ds).cons d
theorem opened_twice {r : Nat} {ds : List GDoor} (h : NoTwice ds) : NoTwice (opened r ds) := List.Pairwise.sublist (opened_sub r ds) h
/-- One door: if one of its halls is in the set, both are. -/
def reach1 (s : Nat) (d : GDoor) : Nat := if s.testBit d.a.toNat || s.testBit d.b.toNat then s ||| (1 <<< d.a.toNat) ||| (1 <<< d.b.toNat) else s
def reached (ds : List GDoor) (a : Nat) : Nat → Nat
  | 0 => 1 <<< a
  | n + 1 => ds.foldl reach1 (reached ds a n)
theorem bit_one (i j : Nat) : (1 <<< i).testBit j = (j == i) := by
  rw [Nat.one_shiftLeft, Nat.testBit_two_pow, Bool.eq_iff_iff]
  simp only [decide_eq_true_eq, beq_iff_eq]
  omega
theorem reach1_up {s : Nat} {d : GDoor} {k : Nat} (h : s.testBit k = true) : (reach1 s d).testBit k = true := by
  unfold reach1
  split
  · rw [Nat.testBit_or, Nat.testBit_or, h]; rfl
  · exact h
theorem reach_fold_up {k : Nat} : ∀ (ds : List GDoor) {s : Nat}, s.testBit k = true → (ds.foldl reach1 s).testBit k = true
  | [], _, h => h
  | d :: ds, _, h => reach_fold_up ds (reach1_up h)
theorem reach_fold_both {x y : Nat} {d : GDoor} (hx : d.a.toNat = x ∧ d.b.toNat = y ∨ d.a.toNat = y ∧ d.b.toNat = x) : ∀ (ds : List GDoor) {s : Nat}, d ∈ ds → s.testBit x = true → (ds.foldl reach1 s).testBit y = true
  | [], _, h, _ => by simp at h
  | e :: ds, s, h, hb => by
    rcases List.mem_cons.1 h with rfl | h
    · refine reach_fold_up ds ?_
      have : (s.testBit d.a.toNat || s.testBit d.b.toNat) = true := by rcases hx with ⟨h1, h2⟩ | ⟨h1, h2⟩ <;> simp [h1, h2, hb]
      unfold reach1
      rw [if_pos this, Nat.testBit_or, Nat.testBit_or, bit_one, bit_one]
      rcases hx with ⟨h1, h2⟩ | ⟨h1, h2⟩ <;> simp [h1, h2]
    · exact reach_fold_both hx ds h (reach1_up hb)
theorem doorB_mem {ds : List GDoor} {j k : Nat} (h : doorB ds j k = true) : ∃ d ∈ ds, d.a.toNat = j ∧ d.b.toNat = k ∨ d.a.toNat = k ∧ d.b.toNat = j := by
  simp only [doorB, List.any_eq_true, isDoor, Bool.and_eq_true, beq_iff_eq] at h
  obtain ⟨d, hd, h1, h2⟩ := h
  by_cases e : (k : Int) < j
  · refine ⟨d, hd, .inr ?_⟩
    simp only [imin, imax, e, if_true, show ¬ (j : Int) < k by omega, if_false] at h1 h2
    omega
  · refine ⟨d, hd, .inl ?_⟩
    simp only [imin, imax, e, if_false] at h1 h2
    split at h2 <;> omega
theorem mem_doorB {ds : List GDoor} {d : GDoor} (hd : d ∈ ds) {a b : Nat} (ha : d.a = a) (hb : d.b = b) (hl : a < b) : doorB ds a b = true := by
  simp only [doorB, List.any_eq_true, isDoor, Bool.and_eq_true, beq_iff_eq]
  refine ⟨d, hd, ?_, ?_⟩
  · rw [ha]; unfold imin; split <;> omega
  · rw [hb]; unfold imax; split <;> omega
theorem reached_full {ds : List GDoor} {h a : Nat} : ∀ (n : Nat) {k : Nat}, ball ds h a n k = true → (reached ds a n).testBit k = true
  | 0, k, hb => by
    simp only [ball, beq_iff_eq] at hb
    subst hb
    simp [reached, bit_one]
  | n + 1, k, hb => by
    rcases ball_cases hb with hb | ⟨j, h1, h2, h3⟩
    · exact reach_fold_up ds (reached_full n hb)
    · obtain ⟨d, hd, hx⟩ := doorB_mem h3
      exact reach_fold_both hx ds hd (reached_full n h2)
theorem reach_fold_sound {ds : List GDoor} {h a : Nat} (hok : ∀ d ∈ ds, doorOk h d = true) : ∀ (es : List GDoor) {s : Nat}, (∀ e ∈ es, e ∈ ds) → (∀ k, s.testBit k = true → k < h ∧ ∃ n, ball ds h a n k = true) → ∀ k, (es.foldl reach1 s).testBit k = true → k < h ∧ ∃ n, ball ds h a n k = true
  | [], _, _, hs => hs
  | d :: es, s, hm, hs => by
    refine reach_fold_sound hok es (fun e he => hm e (by simp [he])) ?_
    intro k hk
    have hd := hm d (by simp)
    have ho := hok d hd
    simp only [doorOk, Bool.and_eq_true, decide_eq_true_eq] at ho
    obtain ⟨⟨h0, h1⟩, h2⟩ := ho
    obtain ⟨x, hx⟩ := Int.eq_ofNat_of_zero_le h0
    obtain ⟨y, hy⟩ := Int.eq_ofNat_of_zero_le (show 0 ≤ d.b by omega)
    have hdo := mem_doorB hd hx hy (by omega)
    unfold reach1 at hk
    split at hk
    · rename_i hc
      rw [hx, hy, Int.toNat_natCast, Int.toNat_natCast] at hk hc
      rw [Nat.testBit_or, Nat.testBit_or, bit_one, bit_one] at hk
      simp only [Bool.or_eq_true, beq_iff_eq] at hk hc
      have both : (∃ n, ball ds h a n x = true) ∧ ∃ n, ball ds h a n y = true := by
        rcases hc with hc | hc
        · obtain ⟨_, n, hn⟩ := hs x hc
          exact ⟨⟨n, hn⟩, n + 1, ball_step (by omega) hn hdo⟩
        · obtain ⟨_, n, hn⟩ := hs y hc
          exact ⟨⟨n + 1, ball_step (by omega) hn (by rw [doorB_comm]; exact hdo)⟩, n, hn⟩
      rcases hk with (hk | hk) | hk
      · exact hs k hk
      · subst hk; exact ⟨by omega, both.1⟩
      · subst hk; exact ⟨by omega, both.2⟩
    · exact hs k hk
theorem reached_sound {ds : List GDoor} {h a : Nat} (ha : a < h) (hok : ∀ d ∈ ds, doorOk h d = true) : ∀ (n : Nat) (k : Nat), (reached ds a n).testBit k = true → k < h ∧ ∃ n, ball ds h a n k = true
  | 0, k, hb => by
    simp only [reached, bit_one, beq_iff_eq] at hb
    subst hb
    exact ⟨ha, 0, by simp [ball]⟩
  | n + 1, k, hb => reach_fold_sound hok ds (fun _ h => h) (reached_sound ha hok n) k hb
/-- What the reference reckons with bits is what the search finds. -/
theorem reached_reach {ds : List GDoor} {h a k : Nat} (ha : a < h) (hk : k < h) (hok : ∀ d ∈ ds, doorOk h d = true) : (reached ds a h).testBit k = reachB ds h a k := by
  rw [reach_ball ds ha hk, Bool.eq_iff_iff]
  constructor
  · intro hb
    obtain ⟨_, n, hn⟩ := reached_sound ha hok h k hb
    exact ball_most ds ha hk hn
  · exact reached_full h
theorem reached_lt {ds : List GDoor} {h a : Nat} (ha : a < h) (hok : ∀ d ∈ ds, doorOk h d = true) (n : Nat) : reached ds a n < 2 ^ h := by
  refine Nat.lt_pow_two_of_testBit _ fun k hk => ?_
  cases hb : (reached ds a n).testBit k with
  | false => rfl
  | true => have := (reached_sound ha hok n k hb).1; omega
end Go.Proofs.YtfmifllcbbfpoaaGreatDoor
/- A house of a tree of halls with some further doors is a valid house, in plain Lean; no condition. -/
namespace Go.Proofs.YtfmifllcbbfpoaaGreatDoor
set_option linter.unusedSimpArgs false
set_option linter.unusedVariables false
theorem sub_len : ∀ (l t : List Nat), l.Nodup → (∀ x ∈ l, x ∈ t) → l.length ≤ t.length
  | [], t, _, _ => by simp
  | x :: l, t, hd, h => by
    have hx := h x (List.mem_cons_self ..)
    have h1 := List.nodup_cons.1 hd
    have h2 := sub_len l (t.erase x) h1.2 (fun y hy => (List.mem_erase_of_ne (fun e => h1.1 (by rw [← e]; exact hy))).2 (h y (List.mem_cons_of_mem _ hy)))
    rw [List.length_erase_of_mem hx] at h2
    have := List.length_pos_of_mem hx
    simp only [List.length_cons]
    omega
/-- The doors of hall a to later halls. -/
def rowTo (tr : List Nat) (a b : Nat) : List GDoor := ((List.range' (a + 1) (b - (a + 1))).filter fun c => decide (a * 7 + c ∈ tr)).map fun (c : Nat) => ⟨(a : Int), (c : Int)⟩
def dsTo (H : Nat) (tr : List Nat) (a : Nat) : List GDoor := (List.range a).flatMap fun a => rowTo tr a H
theorem rowTo_zero (tr : List Nat) (a : Nat) : rowTo tr a (a + 1) = [] := by simp [rowTo]
theorem rowTo_succ (tr : List Nat) (a b : Nat) (h : a + 1 ≤ b) : rowTo tr a (b + 1) = rowTo tr a b ++ if a * 7 + b ∈ tr then [⟨(a : Int), (b : Int)⟩] else [] := by
  unfold rowTo
  obtain ⟨m, rfl⟩ : ∃ m, b = a + 1 + m := ⟨b - (a + 1), by omega⟩
  rw [show a + 1 + m + 1 - (a + 1) = m + 1 by omega, show a + 1 + m - (a + 1) = m by omega, List.range'_concat, List.filter_append, List.map_append, Nat.one_mul]
  congr 1
  by_cases hm : a * 7 + (a + 1 + m) ∈ tr
  · rw [if_pos hm]; simp [hm]
  · rw [if_neg hm]; simp [hm]
theorem dsTo_succ (H : Nat) (tr : List Nat) (a : Nat) : dsTo H tr (a + 1) = dsTo H tr a ++ rowTo tr a H := by simp [dsTo, List.range_succ]
theorem mem_rowTo {tr : List Nat} {a b : Nat} {d : GDoor} (h : d ∈ rowTo tr a b) : ∃ c : Nat, d = ⟨(a : Int), (c : Int)⟩ ∧ a < c ∧ c < b ∧ a * 7 + c ∈ tr := by
  unfold rowTo at h
  obtain ⟨c, hc, rfl⟩ := List.mem_map.1 h
  obtain ⟨h1, h2⟩ := List.mem_filter.1 hc
  rw [List.mem_range'_1] at h1
  exact ⟨c, rfl, by omega, by omega, by simpa using h2⟩
theorem mem_dsTo {H : Nat} {tr : List Nat} {a : Nat} {d : GDoor} (h : d ∈ dsTo H tr a) : ∃ b c : Nat, d = ⟨(b : Int), (c : Int)⟩ ∧ b < a ∧ b < c ∧ c < H ∧ b * 7 + c ∈ tr := by
  unfold dsTo at h
  obtain ⟨b, hb, hd⟩ := List.mem_flatMap.1 h
  obtain ⟨c, h1, h2, h3, h4⟩ := mem_rowTo hd
  exact ⟨b, c, h1, List.mem_range.1 hb, h2, h3, h4⟩
theorem in_dsTo {H : Nat} {tr : List Nat} {b c : Nat} (hbc : b < c) (hc : c < H) (ht : b * 7 + c ∈ tr) : (⟨(b : Int), (c : Int)⟩ : GDoor) ∈ dsTo H tr H := by
  unfold dsTo rowTo
  refine List.mem_flatMap.2 ⟨b, List.mem_range.2 (by omega), List.mem_map.2 ⟨c, List.mem_filter.2 ⟨?_, by simpa using ht⟩, rfl⟩⟩
  rw [List.mem_range'_1]; omega
theorem dsTo_pw (H : Nat) (tr : List Nat) (a : Nat) : (dsTo H tr a).Pairwise (fun p d => dlt p d = true) := by
  unfold dsTo
  rw [List.pairwise_flatMap]
  refine ⟨fun b _ => ?_, ?_⟩
  · unfold rowTo
    rw [List.pairwise_map]
    refine List.Pairwise.filter _ ?_
    refine List.Pairwise.imp ?_ (List.pairwise_lt_range' (s := b + 1) (n := H - (b + 1)))
    intro x y hxy
    simp [dlt]
    omega
  · refine List.Pairwise.imp ?_ List.pairwise_lt_range
    intro x y hxy p hp d hd
    obtain ⟨c, rfl, _⟩ := mem_rowTo hp
    obtain ⟨e, rfl, _⟩ := mem_rowTo hd
    simp [dlt]
    omega
theorem doorsOk_of {H : Int} : ∀ {ds : List GDoor} (prev : Option GDoor), (∀ d ∈ ds, doorOk H d = true) → ds.Pairwise (fun p d => dlt p d = true) → (∀ p, prev = some p → ∀ d ∈ ds, dlt p d = true) → doorsOk H prev ds = true
  | [], none, _, _, _ => rfl
  | [], some _, _, _, _ => rfl
  | d :: r, none, h1, h2, _ => by
    rw [doorsOk, h1 d (List.mem_cons_self ..), doorsOk_of (some d) (fun e he => h1 e (List.mem_cons_of_mem _ he)) (List.pairwise_cons.1 h2).2 (fun p hp e he => by injection hp with hp; subst hp; exact (List.pairwise_cons.1 h2).1 e he)]; rfl
  | d :: r, some p, h1, h2, h3 => by
    rw [doorsOk, h1 d (List.mem_cons_self ..), h3 p rfl d (List.mem_cons_self ..), doorsOk_of (some d) (fun e he => h1 e (List.mem_cons_of_mem _ he)) (List.pairwise_cons.1 h2).2 (fun p hp e he => by injection hp with hp; subst hp; exact (List.pairwise_cons.1 h2).1 e he)]; rfl
theorem dsTo_len {H : Nat} (hH : H ≤ 7) (tr : List Nat) (a : Nat) : (dsTo H tr a).length ≤ tr.length := by
  have key := sub_len ((dsTo H tr a).map fun d => (d.a * 7 + d.b).toNat) tr ?_ ?_
  · rwa [List.length_map] at key
  · rw [List.nodup_iff_pairwise_ne, List.pairwise_map]
    have := dsTo_pw H tr a
    rw [List.pairwise_iff_getElem] at this ⊢
    intro i j hi hj hij
    have h1 := this i j hi hj hij
    obtain ⟨b, c, e1, _, h2, h3, _⟩ := mem_dsTo (List.getElem_mem hi)
    obtain ⟨b', c', e2, _, h2', h3', _⟩ := mem_dsTo (List.getElem_mem hj)
    rw [e1, e2] at h1 ⊢
    simp [dlt] at h1
    simp only
    omega
  · intro x hx
    obtain ⟨d, hd, rfl⟩ := List.mem_map.1 hx
    obtain ⟨b, c, rfl, _, _, _, h⟩ := mem_dsTo hd
    simp only
    rw [show ((b : Int) * 7 + (c : Int)).toNat = b * 7 + c by omega]
    exact h
/-- What is drawn: a door from each hall to an earlier one, and no more than nine doors. -/
theorem drawn_house {H : Nat} (h1 : 1 ≤ H) (h7 : H ≤ 7) {tr : List Nat} (hl : tr.length ≤ 12) (ht : ∀ k, 1 ≤ k → k < H → ∃ j, j < k ∧ j * 7 + k ∈ tr) : houseB (H : Int) (dsTo H tr H) = true := by
  have hok : ∀ d ∈ dsTo H tr H, doorOk (H : Int) d = true := fun d hd => by
    obtain ⟨b, c, rfl, _, h2, h3, _⟩ := mem_dsTo hd
    simp [doorOk]; omega
  have hform : formB (H : Int) (dsTo H tr H) = true := by
    unfold formB
    rw [doorsOk_of none hok (dsTo_pw H tr H) (fun p hp => by cases hp)]
    have := dsTo_len h7 tr H
    simp [inB]; omega
  have hreach : ∀ k, k < H → ∃ n, ball (dsTo H tr H) H 0 n k = true := by
    intro k
    induction k using Nat.strongRecOn with
    | _ k ih =>
      intro hk
      by_cases h0 : k = 0
      · subst h0
        exact ⟨0, by simp [ball]⟩
      · obtain ⟨j, hj, hjt⟩ := ht k (by omega) hk
        obtain ⟨n, hn⟩ := ih j hj (by omega)
        exact ⟨n + 1, ball_step (by omega) hn (mem_doorB (in_dsTo hj hk hjt) rfl rfl hj)⟩
  unfold houseB
  rw [hform, Bool.true_and, List.all_eq_true]
  intro k hk
  have hk' : k < H := by simpa using List.mem_range.1 hk
  obtain ⟨n, hn⟩ := hreach k hk'
  rw [Int.toNat_natCast, reach_ball _ (by omega) hk']
  exact ball_most _ (by omega) hk' hn
/-- A row of marks. -/
def flagL (n : Nat) (p : List Nat) : List Bool := (List.range n).map fun k => decide (k ∈ p)
theorem flagL_len (n : Nat) (p : List Nat) : (flagL n p).length = n := by simp [flagL]
theorem flagL_at {n : Nat} (p : List Nat) {k : Nat} (h : k < n) : (flagL n p)[k]? = some (decide (k ∈ p)) := by simp [flagL, h]
theorem flagL_nil (n : Nat) : flagL n [] = List.replicate n false := by
  apply List.ext_getElem?
  intro k
  by_cases h : k < n
  · rw [flagL_at _ h]; simp [h]
  · rw [List.getElem?_eq_none (by rw [flagL_len]; omega), List.getElem?_eq_none (by simp; omega)]
theorem flagL_set {n : Nat} (p : List Nat) (i : Nat) : (flagL n p).set i true = flagL n (p ++ [i]) := by
  apply List.ext_getElem?
  intro k
  by_cases h : k < n
  · rw [flagL_at _ h, List.getElem?_set]
    by_cases e : i = k
    · subst e; rw [if_pos rfl, if_pos (by rw [flagL_len]; exact h)]; simp
    · rw [if_neg e, flagL_at _ h]; simp [Ne.symm e]
  · rw [List.getElem?_eq_none (by rw [List.length_set, flagL_len]; omega), List.getElem?_eq_none (by rw [flagL_len]; omega)]
end Go.Proofs.YtfmifllcbbfpoaaGreatDoor
/- A house that is drawn: the walk; no condition but what stands at each theorem. -/
namespace Go.Proofs.YtfmifllcbbfpoaaGreatDoor
set_option linter.unusedSimpArgs false
set_option linter.unusedVariables false
open Go.RowKit
theorem made_boolsD (n : Nat) : madeCells (Value.bool false).cells (n * 1) = ((List.replicate n false).map Value.bool).toArray := by
  apply Array.ext
  · simp [size_madeCells, Value.cells]
  · intro i h1 h2
    simp [madeCells, Value.cells, Nat.mod_one]
theorem mk_boolD (n : Nat) (hn : n ≤ 1048576) (w : World) : (Instr.makeSlice 122 (.int .i64 (n : Int)) (.int .i64 (n : Int))).run Tryz.prog w = .ok (.slice (some ⟨w.heap.size, 0, none⟩) n n) (w.alloc (.cells ((List.replicate n false).map (Value.bool)).toArray 4)) := by
  have hin : (Tryz.prog.info? 4).map (fun i => (i.zero.map (·.cells.size), i.size, decide (i.bytes ≤ 4096))) = some (some 1, 1, true) := by kernel_rfl
  cases hi : Tryz.prog.info? 4 with
  | none => rw [hi] at hin; cases hin
  | some i =>
  have hz : i.zero = some (.bool false) := by
    have h : (Tryz.prog.info? 4).map (fun i => i.zero) = some (some (.bool false)) := by kernel_rfl
    rw [hi] at h; simpa using h
  rw [hi] at hin
  simp only [Option.map_some, Option.some.injEq, Prod.mk.injEq, decide_eq_true_eq] at hin
  obtain ⟨-, hsz, hby⟩ := hin
  have h := make_row (P := Tryz.prog) 122 4 i _ Tryz.underlying122 hi hz n (by have := Nat.mul_le_mul hby hn; omega) (by omega) w
  rw [hsz, made_boolsD] at h
  exact h
theorem mk49 (w : World) : (Instr.makeSlice 122 (.int .i64 49) (.int .i64 49)).run Tryz.prog w = .ok (.slice (some ⟨w.heap.size, 0, none⟩) 49 49) (w.alloc (.cells ((flagL 49 []).map Value.bool).toArray 4)) := by
  rw [flagL_nil]
  exact mk_boolD 49 (by omega) w
def FBlk (w : World) (g : Nat) (t : TypeId) (u : List Bool) : Prop := Blk w g t (u.map Value.bool).toArray
theorem FBlk.cell {w : World} {g : Nat} {t : TypeId} {u : List Bool} (h : FBlk w g t u) {i : Nat} {b : Bool} (hi : u[i]? = some b) : w.cell? ⟨g, i, none⟩ = some (.bool b) := by
  rw [Blk.cell h]; simp [hi]
theorem FBlk.set {w : World} {g : Nat} {t : TypeId} {u : List Bool} (h : FBlk w g t u) (i : Nat) (x : Bool) : FBlk (w.setCell ⟨g, i, none⟩ (.bool x)) g t (u.set i x) := by
  have := Blk.set h i (.bool x)
  unfold FBlk
  rw [List.map_set, ← List.setIfInBounds_toArray]
  exact this
theorem blk_over {w w' : World} {g base : Nat} {t : TypeId} {cs : Array Value} {row : Option Nat} (h : Blk w g t cs) (k : w.grownBy w' row) (hr : ∀ k, row = some k → base ≤ k) (hg : g < base) : Blk w' g t cs :=
  (k.block g h.lt (fun e => by have := hr g e.symm; omega)).trans h
/-- While a house is drawn: the result's box, the house's box, the marks, the cursor. -/
structure HSt (w : World) (p gh H : Nat) (v : Value) (tr : List Nat) (wr : World) : Prop where
  lp : p < w.heap.size
  lr : w.heap.size < gh
  r : Blk wr w.heap.size 26 #[.int .i64 0, .slice none 0 0]
  h : Blk wr gh 26 #[.int .i64 (H : Int), v]
  m : FBlk wr (gh + 1) 4 (flagL 49 tr)
  c : Cur wr p
  g : w.grownBy wr (some p)
theorem HSt.draw {w wr w' : World} {p gh H : Nat} {v : Value} {tr : List Nat} (h : HSt w p gh H v tr wr) (hc : Cur w' p) (hg : wr.grownBy w' (some p)) : HSt w p gh H v tr w' :=
  have lp := h.lp
  have lr := h.lr
  ⟨h.lp, h.lr, blk_grown h.r (by omega) hg, blk_grown h.h (by omega) hg, blk_grown h.m (by omega) hg, hc, grown_trans h.g hg⟩
theorem HSt.mark {w wr : World} {p gh H : Nat} {v : Value} {tr : List Nat} (h : HSt w p gh H v tr wr) (q : Nat) : HSt w p gh H v (tr ++ [q]) (wr.setCell ⟨gh + 1, q, none⟩ (.bool true)) := by
  have lp := h.lp
  have lr := h.lr
  refine ⟨h.lp, h.lr, Blk.far h.r (p := ⟨gh + 1, q, none⟩) (by show w.heap.size ≠ gh + 1; omega) _, Blk.far h.h (p := ⟨gh + 1, q, none⟩) (by show gh ≠ gh + 1; omega) _, ?_, cur_far h.c (by omega) _, grown_fresh h.g (by omega) _⟩
  rw [← flagL_set]
  exact FBlk.set h.m q true
theorem HSt.app {w wr w' : World} {p gh H : Nat} {v : Value} {tr : List Nat} {row : Option Nat} (h : HSt w p gh H v tr wr) (hg : wr.grownBy w' row) (hr : ∀ k, row = some k → gh + 2 ≤ k) : HSt w p gh H v tr w' := by
  have lp := h.lp
  have lr := h.lr
  exact ⟨h.lp, h.lr, blk_over h.r hg hr (by omega), blk_over h.h hg hr (by omega), blk_over h.m hg hr (by omega), cur_grown h.c hg (fun k hk => by have := hr k hk; omega), grown_over h.g hg (fun k hk => by have := hr k hk; omega)⟩
theorem HSt.put {w wr : World} {p gh H : Nat} {v : Value} {tr : List Nat} (h : HSt w p gh H v tr wr) (v' : Value) : HSt w p gh H v' tr (wr.setCell ⟨gh, 1, none⟩ v') := by
  have lp := h.lp
  have lr := h.lr
  exact ⟨h.lp, h.lr, Blk.far h.r (p := ⟨gh, 1, none⟩) (by show w.heap.size ≠ gh; omega) _, h.h.set 1 v', Blk.far h.m (p := ⟨gh, 1, none⟩) (by show gh + 1 ≠ gh; omega) _, cur_far h.c (by omega) _, grown_fresh h.g (by omega) _⟩
theorem ei_D : EI Tryz.prog 24 92 2 := ei_of Tryz.underlying24 (by omega) (by kernel_rfl)
/-- A valid house, of doors of the call's own. -/
def DrawnHouse (p : Nat) (w : World) (e : Ending) (w' : World) : Prop :=
  ∃ (H : Nat) (v : Value) (ds : List GDoor), e = .returned (.agg #[.int .i64 (H : Int), v]) ∧ 1 ≤ H ∧ H ≤ 7 ∧ houseB (H : Int) ds = true ∧ w'.ownsRow w.heap.size 92 2 v ds.length (ds.flatMap GDoor.enc) ∧ Cur w' p ∧ w.grownBy w' (some p)
set_option maxRecDepth 100000 in
set_option maxHeartbeats 1500000 in
theorem spec_l23House (p : Nat) (w : World) (hc : Cur w p) :
    Calls Tryz.prog 101 #[.pointer (some ⟨p, 0, none⟩)] w (DrawnHouse p w) := by
  have hpw := hc.lt
  obtain ⟨wa, hwa⟩ : ∃ wa, wa = w.alloc (.cells #[.int .i64 0, .slice none 0 0] 26) := ⟨_, rfl⟩
  have hBa : Blk wa w.heap.size 26 #[.int .i64 0, .slice none 0 0] := by rw [hwa]; exact Blk.new _ _ _
  have hca : Cur wa p := by rw [hwa]; exact cur_alloc hc _
  have hga : w.grownBy wa (some p) := by rw [hwa]; exact grown_alloc (grown_refl _ _) _
  have hsa : wa.heap.size = w.heap.size + 1 := by rw [hwa]; simp
  have Hwa := Lib.hid hwa
  have cB := Lib.hid (spec_l01Below p 7 wa hca)
  have HBa := Lib.hid hBa
  have HGa := Lib.hid hga
  have hmk := mk49
  clear hwa hBa hga hca hc
  go_enter Tryz.func101, Tryz.ntmps101
  go_wp2_with fail
  rw [← Hwa.out]
  refine cB.out.mono ?_
  rintro e w1 ⟨r, rfl, h0, h1, hc1, hg1⟩
  have hr7 : r < 7 := by omega
  obtain ⟨H, hH⟩ : ∃ H : Nat, (H : Int) = 1 + r := ⟨(1 + r).toNat, by omega⟩
  have hH1 : 1 ≤ H := by omega
  have hH7 : H ≤ 7 := by omega
  have z1 := hg1.size
  have hB1 := blk_grown HBa.out (by omega) hg1
  have HG1 := Lib.hid (grown_trans HGa.out hg1)
  have HB1 := Lib.hid hB1
  have HC1 := Lib.hid hc1
  obtain ⟨wb, hwb⟩ : ∃ wb, wb = w1.alloc (.cells #[.int .i64 (H : Int), .slice none 0 0] 26) := ⟨_, rfl⟩
  obtain ⟨wc, hwc⟩ : ∃ wc, wc = wb.alloc (.cells ((flagL 49 []).map Value.bool).toArray 4) := ⟨_, rfl⟩
  have hsb : wb.heap.size = w1.heap.size + 1 := by rw [hwb]; simp
  have hsc : wc.heap.size = w1.heap.size + 2 := by rw [hwc]; simp; omega
  have hEb : Ext w1 wb := by rw [hwb]; exact (Ext.refl _).alloc _
  have hEc : Ext wb wc := by rw [hwc]; exact (Ext.refl _).alloc _
  have hBh : Hid (Blk wc w1.heap.size 26 #[.int .i64 (H : Int), .slice none 0 0]) := by
    refine Blk.keep ?_ hEc
    rw [hwb]; exact Blk.new _ _ _
  have hBw : Hid (FBlk wc (w1.heap.size + 1) 4 (flagL 49 [])) := by
    unfold Hid FBlk
    rw [← hsb, hwc]; exact Blk.new _ _ _
  have hBr := Lib.hid (HB1.out.keep (hEb.trans hEc))
  have hCc := Lib.hid (cur_ext HC1.out (hEb.trans hEc))
  have hGc := Lib.hid (grown_extD HG1.out (hEb.trans hEc))
  obtain ⟨Z, hZ⟩ : ∃ Z, Z = ((flagL 49 []).map Value.bool).toArray := ⟨_, rfl⟩
  simp only [← hZ] at hmk hwc
  have h1r : wrap64 (1 + r) = (H : Int) := by rw [hH]; exact IntWalk.wrap64_in _ ⟨by omega, by omega⟩
  have h1r2 : IntKind.i64.wrap (1 + r) = (H : Int) := by rw [hH]; exact IntWalk.i64_in _ (by omega)
  clear hg1 hB1 hc1 hEb hEc hZ
  go_wp2_with fail
  rw [← hH, ← hwb, ← hwc]
  have HS0 : Hid (HSt w p w1.heap.size H (.slice none 0 0) [] wc) := ⟨hpw, by omega, hBr.out, hBh.out, hBw.out, hCc.out, hGc.out⟩
  clear hwb hwc hsb hsc hmk hBr hBh hBw hCc hGc HC1 HG1 HB1 hH h1r h1r2 h0 h1 hr7
  obtain ⟨gh, hgh⟩ : ∃ gh, gh = w1.heap.size := ⟨_, rfl⟩
  rw [← hgh] at HS0 ⊢
  have hlr : w.heap.size < gh := by omega
  clear hgh
  go_loopw [5] (fun kv wr => ∃ (k : Nat) (tr : List Nat), 1 ≤ k ∧ k ≤ H ∧ kv = .int .i64 k ∧ Hid (tr.length + 1 = k) ∧ Hid (∀ i, 1 ≤ i → i < k → ∃ j, j < i ∧ j * 7 + i ∈ tr) ∧ Hid (HSt w p gh H (.slice none 0 0) tr wr)) (fun kv _ => H - (intOf kv).toNat)
  case atStart => exact ⟨1, [], Nat.le_refl _, hH1, rfl, Lib.hid rfl, Lib.hid (fun i h1 h2 => by omega), HS0⟩
  case round =>
    obtain ⟨k, tr, hk1, hkH, rfl, htl, htr, hst⟩ := hrel
    have b0 := hst.out.h.cell 0
    have lh := hst.out.h.lt
    by_cases hlt : k < H
    · have cD := Lib.hid (spec_l01Below p k wr hst.out.c)
      have hkHi : (k : Int) < H := by omega
      go_wp2_with (refine cD.out.mono ?_; rintro e w2 ⟨r, rfl, h0, h1, hc2, hg2⟩; obtain ⟨rn, rfl⟩ := Int.eq_ofNat_of_zero_le h0; have hrk : rn < k := (by omega); have hq49 : rn * 7 + k < 49 := (by omega); have hs2 := Lib.hid (hst.out.draw hc2 hg2); have m0 := FBlk.cell hs2.out.m (flagL_at tr hq49); have m1 := Blk.free hs2.out.m (rn * 7 + k); have hqi : (rn : Int) * 7 + (k : Int) < 49 := (by omega); have hqz : (0 : Int) ≤ (rn : Int) * 7 + (k : Int) := (by omega); have hqn : ((rn : Int) * 7 + (k : Int)).toNat = rn * 7 + k := (by omega); clear hc2 hg2)
      go_roundw
      case rel => exact ⟨k + 1, tr ++ [rn * 7 + k], by omega, by omega, by go_num, Lib.hid (by have := htl.out; simp; omega), Lib.hid (fun i h1 h2 => by
        by_cases hik : i = k
        · subst hik
          exact ⟨rn, hrk, by simp⟩
        · obtain ⟨j, hj, hm⟩ := htr.out i h1 (by omega)
          exact ⟨j, hj, List.mem_append_left _ hm⟩), hs2.out.mark (rn * 7 + k)⟩
      case measure => simp [intOf]; omega
    obtain rfl : k = H := by omega
    have HT := Lib.hid htr.out
    have cD := Lib.hid (spec_l01Below p 4 wr hst.out.c)
    go_wp2_with (refine cD.out.mono ?_; rintro e w2 ⟨r, rfl, h0, h1, hc2, hg2⟩; obtain ⟨rn, rfl⟩ := Int.eq_ofNat_of_zero_le h0; have hs2 := Lib.hid (hst.out.draw hc2 hg2); clear hc2 hg2)
    have hrn : rn ≤ 3 := by omega
    clear b0 lh
    go_loopw [6] (fun nv wr => ∃ (m : Nat) (tr : List Nat), m ≤ 3 ∧ nv = .int .i64 m ∧ Hid (tr.length + m ≤ 9) ∧ Hid (∀ i, 1 ≤ i → i < k → ∃ j, j < i ∧ j * 7 + i ∈ tr) ∧ Hid (HSt w p gh k (.slice none 0 0) tr wr)) (fun nv _ => (intOf nv).toNat)
    case atStart => exact ⟨rn, tr, hrn, rfl, Lib.hid (by have := htl.out; omega), HT, hs2⟩
    case round =>
      obtain ⟨m, tr, hm3, rfl, htl, htr, hst⟩ := hrel
      have b0 := hst.out.h.cell 0
      have lh := hst.out.h.lt
      by_cases hgo : 0 < m ∧ 2 < k
      · obtain ⟨hm0, hk2⟩ := hgo
        have hm0i : (0 : Int) < m := by omega
        have hk2i : (2 : Int) < k := by omega
        have hk1i : (1 : Int) ≤ k := by omega
        have cD := Lib.hid (spec_l01Below p ((k : Int) - 1) wr hst.out.c)
        go_wp2_with (go_at_call 71; refine (fun h : Hid _ => h.out) ?_)
        unfold Hid
        refine cD.out.mono ?_
        rintro e w2 ⟨r, rfl, h0, h1, hc2, hg2⟩
        obtain ⟨rn, rfl⟩ := Int.eq_ofNat_of_zero_le h0
        have hrk : rn + 1 < k := (by omega)
        have hs2 := Lib.hid (hst.out.draw hc2 hg2)
        have cE := Lib.hid (spec_l01Below p (1 + (rn : Int)) w2 hc2)
        clear hc2 hg2
        go_wp2_with (go_at_call 71; refine (fun h : Hid _ => h.out) ?_)
        unfold Hid
        refine cE.out.mono ?_
        rintro e w3 ⟨r, rfl, h0', h1', hc3, hg3⟩
        obtain ⟨sn, rfl⟩ := Int.eq_ofNat_of_zero_le h0'
        have hsr : sn < rn + 1 := (by omega)
        have hq49 : sn * 7 + (rn + 1) < 49 := (by omega)
        have hs3 := Lib.hid (hs2.out.draw hc3 hg3)
        have m0 := FBlk.cell hs3.out.m (flagL_at tr hq49)
        have m1 := Blk.free hs3.out.m (sn * 7 + (rn + 1))
        have hqi : (sn : Int) * 7 + (1 + (rn : Int)) < 49 := (by omega)
        have hqz : (0 : Int) ≤ (sn : Int) * 7 + (1 + (rn : Int)) := (by omega)
        have hqn : ((sn : Int) * 7 + (1 + (rn : Int))).toNat = sn * 7 + (rn + 1) := (by omega)
        clear hc3 hg3
        go_wp2_with fail
        go_roundw
        case rel => exact ⟨m - 1, tr ++ [sn * 7 + (rn + 1)], by omega, by go_num, Lib.hid (by have := htl.out; simp; omega), Lib.hid (fun i h1 h2 => by
          obtain ⟨j, hj, hm⟩ := htr.out i h1 h2
          exact ⟨j, hj, List.mem_append_left _ hm⟩), hs3.out.mark (sn * 7 + (rn + 1))⟩
        case measure => simp [intOf]; omega
      · have hhouse := Lib.hid (drawn_house (tr := tr) hH1 hH7 (by have := htl.out; omega) htr.out)
        have hgo2 : ¬ ((0 : Int) < m ∧ (2 : Int) < k) := by omega
        have HLT : Hid (tr.length ≤ 9) := by have := htl.out; unfold Hid; omega
        clear htl htr
        by_cases hm0 : (0 : Int) < m
        · have hk2 : ¬ (2 : Int) < k := by omega
          clear hgo
          go_wp2_with fail
          clear b0 lh
          go_loopw [8] (fun av wr => ∃ (a : Nat) (v : Value), a ≤ k ∧ av = .int .i64 a ∧ Hid (HSt w p gh k v tr wr) ∧ Hid (wr.ownsRow (gh + 2) 92 2 v (dsTo k tr a).length ((dsTo k tr a).flatMap GDoor.enc))) (fun av _ => k - (intOf av).toNat)
          case atStart => exact ⟨0, .slice none 0 0, Nat.zero_le _, rfl, hst, World.ownsRow_nil _ _ _ _⟩
          case round =>
            obtain ⟨a, v, hak, rfl, hst, hown⟩ := hrel
            have b0 := hst.out.h.cell 0
            have lh := hst.out.h.lt
            by_cases hlt : a < k
            · have hlti : (a : Int) < k := by omega
              have haw : wrap64 ((a : Int) + 1) = (a : Int) + 1 := IntWalk.wrap64_in _ ⟨by omega, by omega⟩
              go_wp2_with fail
              clear b0 lh
              go_loopw [9] (fun bv wr => ∃ (b : Nat) (v : Value), a + 1 ≤ b ∧ b ≤ k ∧ bv = .int .i64 b ∧ Hid (HSt w p gh k v tr wr) ∧ Hid (wr.ownsRow (gh + 2) 92 2 v (dsTo k tr a ++ rowTo tr a b).length ((dsTo k tr a ++ rowTo tr a b).flatMap GDoor.enc))) (fun bv _ => k - (intOf bv).toNat)
              case atStart => exact ⟨a + 1, v, Nat.le_refl _, by omega, by go_num, hst, by unfold Hid; rw [rowTo_zero, List.append_nil]; exact hown.out⟩
              case round =>
                obtain ⟨b, v, hab, hbk, rfl, hst, hown⟩ := hrel
                have b0 := hst.out.h.cell 0
                have lh := hst.out.h.lt
                by_cases hlb : b < k
                · have hlbi : (b : Int) < k := by omega
                  have hq49 : a * 7 + b < 49 := by omega
                  have m0 := FBlk.cell hst.out.m (flagL_at tr hq49)
                  have lm : gh + 1 < wr.heap.size := hst.out.m.lt
                  have hqi : (a : Int) * 7 + (b : Int) < 49 := by omega
                  have hqz : (0 : Int) ≤ (a : Int) * 7 + (b : Int) := by omega
                  have hqn : ((a : Int) * 7 + (b : Int)).toNat = a * 7 + b := by omega
                  have HR := Lib.hid (rowTo_succ tr a b hab)
                  by_cases hin : a * 7 + b ∈ tr
                  · rw [show decide (a * 7 + b ∈ tr) = true by simpa using hin] at m0
                    rw [if_pos hin] at HR
                    have b1 := hst.out.h.cell 1
                    have hlen : (dsTo k tr a ++ rowTo tr a b).length ≤ 1000 := by
                      rw [List.length_append]
                      have h1 := dsTo_len hH7 tr a
                      have h2 : (rowTo tr a b).length ≤ 7 := by
                        unfold rowTo
                        rw [List.length_map]
                        exact Nat.le_trans (List.length_filter_le ..) (by rw [List.length_range']; omega)
                      have := HLT.out
                      omega
                    obtain ⟨L, hL⟩ : ∃ L, L = dsTo k tr a ++ rowTo tr a b := ⟨_, rfl⟩
                    rw [← hL] at hown hlen
                    have HLL := Lib.hid hL
                    clear hin hL
                    go_wp2_with (at_builtin; refine append1g ei_D rfl _ _ rfl (gh + 2) wr _ _ L.length _ (by rfl) hown.out [.int .i64 (a : Int), .int .i64 (b : Int)] (by rfl) rfl (by intro u hu; simp at hu; rcases hu with rfl | rfl <;> rfl) (by omega) (by omega) ?_; intro v' w3 row ho3 hg3 hr3; have HS3 := Lib.hid (hst.out.app hg3 hr3); have c0 := HS3.out.h.cell 0; have c1 := HS3.out.h.cell 1; have cf := Blk.free HS3.out.h 1; have l3 := HS3.out.h.lt; obtain ⟨Av', cv', rfl, hcv'⟩ := own_form ho3; have HO3 := Lib.hid ho3; clear ho3 hg3 hr3)
                    go_roundw
                    case rel => rw [haw]; (first | refine ⟨_, _, _, _, _, _, _, _, _, _, _, _, _, _, _, _, _, _, _, _, _, _, ?_, rfl⟩); exact ⟨b + 1, .slice Av' (L.length + 1) cv', by omega, by omega, by go_num, HS3.out.put _, by unfold Hid; rw [HR.out, ← List.append_assoc, ← HLL.out, List.length_append, List.flatMap_append]; exact own_far HO3.out (by omega) _⟩
                    case measure => simp [intOf]; omega
                  · rw [show decide (a * 7 + b ∈ tr) = false by simpa using hin] at m0
                    rw [if_neg hin, List.append_nil] at HR
                    clear hin
                    go_wp2_with fail
                    go_roundw
                    case rel => exact ⟨b + 1, v, by omega, by omega, by go_num, hst, by unfold Hid; rw [HR.out]; exact hown.out⟩
                    case measure => simp [intOf]; omega
                · obtain rfl : b = k := by omega
                  have HO := Lib.hid (show wr.ownsRow (gh + 2) 92 2 v (dsTo b tr (a + 1)).length ((dsTo b tr (a + 1)).flatMap GDoor.enc) by rw [dsTo_succ]; exact hown.out)
                  clear hown
                  go_wp2_with fail
                  go_roundw
                  case rel => exact ⟨a + 1, v, by omega, by go_num, hst, HO⟩
                  case measure => simp [intOf]; omega
            · obtain rfl : a = k := by omega
              obtain ⟨Av, cv, rfl, hcv⟩ := own_form hown.out
              obtain ⟨nd, hnd⟩ : ∃ nd, nd = (dsTo a tr a).length := ⟨_, rfl⟩
              have HND := Lib.hid hnd
              rw [← hnd] at hst hown
              clear hnd hcv
              have b1 := hst.out.h.cell 1
              have r0 := hst.out.r.cell 0
              have r1 := hst.out.r.cell 1
              have rf : ∀ o, wr.frozen? ⟨w.heap.size, o, none⟩ = false := fun o => Blk.free hst.out.r o
              have lr := hst.out.r.lt
              go_wp2_with fail
              obtain ⟨WF, hWF⟩ : ∃ WF, WF = (wr.setCell ⟨w.heap.size, 0, none⟩ (.int .i64 (a : Int))).setCell ⟨w.heap.size, 1, none⟩ (.slice Av nd cv) := ⟨_, rfl⟩
              have FB := (hst.out.r.set 0 (.int .i64 (a : Int))).set 1 (.slice Av nd cv)
              have FO := own_far (k := 1) (own_far (k := 0) hown.out (show w.heap.size < gh + 2 by omega) (.int .i64 (a : Int))) (show w.heap.size < gh + 2 by omega) (.slice Av nd cv)
              have FC := cur_far (o := 1) (cur_far (o := 0) hst.out.c hpw (.int .i64 (a : Int))) hpw (.slice Av nd cv)
              have FG := grown_fresh (o := 1) (grown_fresh (o := 0) hst.out.g (Nat.le_refl _) (.int .i64 (a : Int))) (Nat.le_refl _) (.slice Av nd cv)
              rw [← hWF] at FB FO FC FG
              rw [← hWF]
              clear hWF
              have y0 := FB.cell 0
              have y1 := FB.cell 1
              refine bodyPost_ret (v := .agg #[.int .i64 (a : Int), .slice Av nd cv]) (by simp [results, Tryz.results101, go_sem, y0, y1]) rfl ?_
              exact ⟨a, .slice Av nd cv, dsTo a tr a, rfl, hH1, hH7, hhouse.out, by rw [← HND.out]; exact own_weak FO (by omega), FC, FG⟩
        · clear hgo
          go_wp2_with fail
          clear b0 lh
          go_loopw [8] (fun av wr => ∃ (a : Nat) (v : Value), a ≤ k ∧ av = .int .i64 a ∧ Hid (HSt w p gh k v tr wr) ∧ Hid (wr.ownsRow (gh + 2) 92 2 v (dsTo k tr a).length ((dsTo k tr a).flatMap GDoor.enc))) (fun av _ => k - (intOf av).toNat)
          case atStart => exact ⟨0, .slice none 0 0, Nat.zero_le _, rfl, hst, World.ownsRow_nil _ _ _ _⟩
          case round =>
            obtain ⟨a, v, hak, rfl, hst, hown⟩ := hrel
            have b0 := hst.out.h.cell 0
            have lh := hst.out.h.lt
            by_cases hlt : a < k
            · have hlti : (a : Int) < k := by omega
              have haw : wrap64 ((a : Int) + 1) = (a : Int) + 1 := IntWalk.wrap64_in _ ⟨by omega, by omega⟩
              go_wp2_with fail
              clear b0 lh
              go_loopw [9] (fun bv wr => ∃ (b : Nat) (v : Value), a + 1 ≤ b ∧ b ≤ k ∧ bv = .int .i64 b ∧ Hid (HSt w p gh k v tr wr) ∧ Hid (wr.ownsRow (gh + 2) 92 2 v (dsTo k tr a ++ rowTo tr a b).length ((dsTo k tr a ++ rowTo tr a b).flatMap GDoor.enc))) (fun bv _ => k - (intOf bv).toNat)
              case atStart => exact ⟨a + 1, v, Nat.le_refl _, by omega, by go_num, hst, by unfold Hid; rw [rowTo_zero, List.append_nil]; exact hown.out⟩
              case round =>
                obtain ⟨b, v, hab, hbk, rfl, hst, hown⟩ := hrel
                have b0 := hst.out.h.cell 0
                have lh := hst.out.h.lt
                by_cases hlb : b < k
                · have hlbi : (b : Int) < k := by omega
                  have hq49 : a * 7 + b < 49 := by omega
                  have m0 := FBlk.cell hst.out.m (flagL_at tr hq49)
                  have lm : gh + 1 < wr.heap.size := hst.out.m.lt
                  have hqi : (a : Int) * 7 + (b : Int) < 49 := by omega
                  have hqz : (0 : Int) ≤ (a : Int) * 7 + (b : Int) := by omega
                  have hqn : ((a : Int) * 7 + (b : Int)).toNat = a * 7 + b := by omega
                  have HR := Lib.hid (rowTo_succ tr a b hab)
                  by_cases hin : a * 7 + b ∈ tr
                  · rw [show decide (a * 7 + b ∈ tr) = true by simpa using hin] at m0
                    rw [if_pos hin] at HR
                    have b1 := hst.out.h.cell 1
                    have hlen : (dsTo k tr a ++ rowTo tr a b).length ≤ 1000 := by
                      rw [List.length_append]
                      have h1 := dsTo_len hH7 tr a
                      have h2 : (rowTo tr a b).length ≤ 7 := by
                        unfold rowTo
                        rw [List.length_map]
                        exact Nat.le_trans (List.length_filter_le ..) (by rw [List.length_range']; omega)
                      have := HLT.out
                      omega
                    obtain ⟨L, hL⟩ : ∃ L, L = dsTo k tr a ++ rowTo tr a b := ⟨_, rfl⟩
                    rw [← hL] at hown hlen
                    have HLL := Lib.hid hL
                    clear hin hL
                    go_wp2_with (at_builtin; refine append1g ei_D rfl _ _ rfl (gh + 2) wr _ _ L.length _ (by rfl) hown.out [.int .i64 (a : Int), .int .i64 (b : Int)] (by rfl) rfl (by intro u hu; simp at hu; rcases hu with rfl | rfl <;> rfl) (by omega) (by omega) ?_; intro v' w3 row ho3 hg3 hr3; have HS3 := Lib.hid (hst.out.app hg3 hr3); have c0 := HS3.out.h.cell 0; have c1 := HS3.out.h.cell 1; have cf := Blk.free HS3.out.h 1; have l3 := HS3.out.h.lt; obtain ⟨Av', cv', rfl, hcv'⟩ := own_form ho3; have HO3 := Lib.hid ho3; clear ho3 hg3 hr3)
                    go_roundw
                    case rel => rw [haw]; (first | refine ⟨_, _, _, _, _, _, _, _, _, _, _, _, _, _, _, _, _, _, _, _, _, _, ?_, rfl⟩); exact ⟨b + 1, .slice Av' (L.length + 1) cv', by omega, by omega, by go_num, HS3.out.put _, by unfold Hid; rw [HR.out, ← List.append_assoc, ← HLL.out, List.length_append, List.flatMap_append]; exact own_far HO3.out (by omega) _⟩
                    case measure => simp [intOf]; omega
                  · rw [show decide (a * 7 + b ∈ tr) = false by simpa using hin] at m0
                    rw [if_neg hin, List.append_nil] at HR
                    clear hin
                    go_wp2_with fail
                    go_roundw
                    case rel => exact ⟨b + 1, v, by omega, by omega, by go_num, hst, by unfold Hid; rw [HR.out]; exact hown.out⟩
                    case measure => simp [intOf]; omega
                · obtain rfl : b = k := by omega
                  have HO := Lib.hid (show wr.ownsRow (gh + 2) 92 2 v (dsTo b tr (a + 1)).length ((dsTo b tr (a + 1)).flatMap GDoor.enc) by rw [dsTo_succ]; exact hown.out)
                  clear hown
                  go_wp2_with fail
                  go_roundw
                  case rel => exact ⟨a + 1, v, by omega, by go_num, hst, HO⟩
                  case measure => simp [intOf]; omega
            · obtain rfl : a = k := by omega
              obtain ⟨Av, cv, rfl, hcv⟩ := own_form hown.out
              obtain ⟨nd, hnd⟩ : ∃ nd, nd = (dsTo a tr a).length := ⟨_, rfl⟩
              have HND := Lib.hid hnd
              rw [← hnd] at hst hown
              clear hnd hcv
              have b1 := hst.out.h.cell 1
              have r0 := hst.out.r.cell 0
              have r1 := hst.out.r.cell 1
              have rf : ∀ o, wr.frozen? ⟨w.heap.size, o, none⟩ = false := fun o => Blk.free hst.out.r o
              have lr := hst.out.r.lt
              go_wp2_with fail
              obtain ⟨WF, hWF⟩ : ∃ WF, WF = (wr.setCell ⟨w.heap.size, 0, none⟩ (.int .i64 (a : Int))).setCell ⟨w.heap.size, 1, none⟩ (.slice Av nd cv) := ⟨_, rfl⟩
              have FB := (hst.out.r.set 0 (.int .i64 (a : Int))).set 1 (.slice Av nd cv)
              have FO := own_far (k := 1) (own_far (k := 0) hown.out (show w.heap.size < gh + 2 by omega) (.int .i64 (a : Int))) (show w.heap.size < gh + 2 by omega) (.slice Av nd cv)
              have FC := cur_far (o := 1) (cur_far (o := 0) hst.out.c hpw (.int .i64 (a : Int))) hpw (.slice Av nd cv)
              have FG := grown_fresh (o := 1) (grown_fresh (o := 0) hst.out.g (Nat.le_refl _) (.int .i64 (a : Int))) (Nat.le_refl _) (.slice Av nd cv)
              rw [← hWF] at FB FO FC FG
              rw [← hWF]
              clear hWF
              have y0 := FB.cell 0
              have y1 := FB.cell 1
              refine bodyPost_ret (v := .agg #[.int .i64 (a : Int), .slice Av nd cv]) (by simp [results, Tryz.results101, go_sem, y0, y1]) rfl ?_
              exact ⟨a, .slice Av nd cv, dsTo a tr a, rfl, hH1, hH7, hhouse.out, by rw [← HND.out]; exact own_weak FO (by omega), FC, FG⟩
end Go.Proofs.YtfmifllcbbfpoaaGreatDoor
/- The drawing of places; no condition but what stands at each theorem. -/
namespace Go.Proofs.YtfmifllcbbfpoaaGreatDoor
set_option linter.unusedSimpArgs false
set_option linter.unusedVariables false
open Go.RowKit Go.Sort
theorem ei_IntD : EI Tryz.prog 27 3 1 := ei_of Tryz.underlying27 (by omega) (by kernel_rfl)
/-- Twelve numbers below 10000, a row of the call's own. -/
def DrawnPlaces (w : World) (e : Ending) (w' : World) : Prop := ∃ (v : Value) (xs : List Int), e = .returned v ∧ Ext w w' ∧ w'.ownsRow w.heap.size 3 1 v xs.length (xs.flatMap ienc) ∧ xs.length = 12 ∧ (∀ x ∈ xs, 0 ≤ x ∧ x < 10000)
set_option maxRecDepth 100000 in
set_option maxHeartbeats 2000000 in
theorem spec_DrawPlaces (A : Option Addr) (n c : Nat) (xs : List Int) (w : World) (hx : Rd w 1 A n (xs.flatMap benc)) (hxs : ∀ x ∈ xs, 0 ≤ x ∧ x ≤ 255) (hn1 : n ≤ 1048576) :
    Calls Tryz.prog 29 #[.slice A n c] w (DrawnPlaces w) := by
  have cN := Lib.hid (spec_l01New A n c xs w hx hxs hn1)
  clear hx hxs hn1
  go_enter Tryz.func29, Tryz.ntmps29
  go_wp2_with (go_at_call 39; refine (fun h : Hid _ => h.out) ?_)
  unfold Hid
  refine cN.out.mono ?_
  rintro e w1 ⟨p, rfl, hp0, hc1, he1⟩
  have hp := hc1.lt
  obtain ⟨wa, hwa⟩ : ∃ wa, wa = w1.alloc (.cells #[] 3) := ⟨_, rfl⟩
  have hca : Cur wa p := by rw [hwa]; exact cur_alloc hc1 _
  have hga : w1.grownBy wa (some p) := by rw [hwa]; exact grown_alloc (grown_refl _ _) _
  have hoa : wa.ownsRow w1.heap.size 3 1 (.slice (some ⟨w1.heap.size, 0, none⟩) 0 0) 0 (([] : List Int).flatMap ienc) := by rw [hwa]; exact own_empty w1 w1.heap.size 3 1 (Nat.le_refl _)
  have Hwa := Lib.hid hwa
  have HOa := Lib.hid hoa
  have HGa := Lib.hid hga
  have HCa := Lib.hid hca
  have HE1 := Lib.hid he1
  clear hwa hoa hga hca hc1 he1
  go_wp2_with fail
  rw [← Hwa.out]
  go_loopw [4, 5] (fun ov iv wr => ∃ (k : Nat) (L : List Int), k ≤ 12 ∧ iv = .int .i64 k ∧ Hid (L.length = k) ∧ Hid (∀ x ∈ L, 0 ≤ x ∧ x < 10000) ∧ Hid (wr.ownsRow w1.heap.size 3 1 ov L.length (L.flatMap ienc)) ∧ Hid (Cur wr p) ∧ Hid (w1.grownBy wr (some p))) (fun _ iv _ => 12 - (intOf iv).toNat)
  case atStart => exact ⟨0, [], by omega, rfl, Lib.hid rfl, Lib.hid (fun x hx => by cases hx), HOa, HCa, HGa⟩
  case round =>
    obtain ⟨k, L, hk, rfl, hLk, hLm, hown, hcr, hgr⟩ := hrel
    by_cases hlt : k < 12
    · have hlti : (k : Int) < 12 := by omega
      go_wp2_with (go_at_call 71; refine (fun h : Hid _ => h.out) ?_)
      unfold Hid
      refine (spec_l01Below p _ _ hcr.out).mono ?_
      rintro e w5 ⟨r, rfl, h0, h1, hc5, hg5⟩
      have HO5 := Lib.hid (own_grown hown.out hp hg5)
      have HG5 := Lib.hid (grown_trans hgr.out hg5)
      have HC5 := Lib.hid hc5
      have hsz : w1.heap.size ≤ w5.heap.size := HG5.out.size
      have hLl : L.length ≤ 12 := by have := hLk.out; omega
      have hr2 : r < 10000 := by omega
      clear hg5 hc5 h1
      go_wp2_with (at_builtin; refine (fun h : Hid _ => h.out) ?_)
      unfold Hid
      refine append1g ei_IntD rfl _ _ rfl w1.heap.size w5 _ _ L.length _ (by rfl) HO5.out (ienc r) (by rfl) rfl (by intro u hu; simp [ienc] at hu; subst hu; rfl) (by omega) hsz ?_
      intro v6 w6 row ho6 hg6 hr6
      have HO6 := Lib.hid ho6
      have HC6 := Lib.hid (cur_grown HC5.out hg6 (fun q hq => by have := hr6 q hq; omega))
      have HG6 := Lib.hid (grown_over HG5.out hg6 (fun q hq => hr6 q hq))
      clear ho6 hg6 hr6
      go_wp2_with fail
      go_roundw
      case rel => exact ⟨k + 1, L ++ [r], by omega, by go_num, Lib.hid (by have := hLk.out; simp; omega), Lib.hid (fun x hx => by
        rcases List.mem_append.1 hx with hx | hx
        · exact hLm.out x hx
        · rw [List.mem_singleton] at hx; subst hx; exact ⟨h0, hr2⟩), by unfold Hid; rw [List.length_append, List.flatMap_append]; simpa using HO6.out, HC6, HG6⟩
      case measure => simp [intOf] <;> omega
    · have hnlt : ¬ (k : Int) < 12 := by omega
      go_wp2_with fail
      go_ret
      exact ⟨_, L, rfl, HE1.out.grown hgr.out (fun g hg => by injection hg with hg; omega), own_weak (base := w1.heap.size) hown.out HE1.out.size, by have := hLk.out; omega, hLm.out⟩
end Go.Proofs.YtfmifllcbbfpoaaGreatDoor
/- The drawing of places in a house; no condition but what stands at each theorem. -/
namespace Go.Proofs.YtfmifllcbbfpoaaGreatDoor
set_option linter.unusedSimpArgs false
set_option linter.unusedVariables false
open Go.RowKit Go.Sort
/-- Numbers below H have been drawn, a row of the call's own. -/
def DrawnIn (H : Nat) (N : Int) (p : Nat) (w : World) (e : Ending) (w' : World) : Prop := ∃ (v : Value) (xs : List Int), e = .returned v ∧ w'.ownsRow w.heap.size 3 1 v xs.length (xs.flatMap ienc) ∧ (xs.length : Int) ≤ N ∧ (∀ x ∈ xs, 0 ≤ x ∧ x < H) ∧ Cur w' p ∧ w.grownBy w' (some p)
theorem blk_overP {w w' : World} {g base : Nat} {t : TypeId} {cs : Array Value} {row : Option Nat} (h : Blk w g t cs) (k : w.grownBy w' row) (hr : ∀ k, row = some k → base ≤ k) (hg : g < base) : Blk w' g t cs :=
  (k.block g h.lt (fun e => by have := hr g e.symm; omega)).trans h
theorem imax_one {H : Nat} (h : 1 ≤ H) : imax 1 (H : Int) = H := by unfold imax; split <;> omega
set_option maxRecDepth 100000 in
set_option maxHeartbeats 2000000 in
theorem spec_l31Places (p H : Nat) (hv : Value) (N : Int) (w : World) (hc : Cur w p) (hH : 1 ≤ H) (hN : 0 ≤ N) (hN2 : N ≤ 1000) :
    Calls Tryz.prog 103 #[.pointer (some ⟨p, 0, none⟩), .agg #[.int .i64 (H : Int), hv], .int .i64 N] w (DrawnIn H N p w) := by
  have hp := hc.lt
  obtain ⟨wb, hwb⟩ : ∃ wb, wb = w.alloc (.cells #[.int .i64 (H : Int), hv] 26) := ⟨_, rfl⟩
  obtain ⟨wa, hwa⟩ : ∃ wa, wa = wb.alloc (.cells #[] 3) := ⟨_, rfl⟩
  have hsb : wb.heap.size = w.heap.size + 1 := by rw [hwb]; simp
  have hB : Blk wb w.heap.size 26 #[.int .i64 (H : Int), hv] := by rw [hwb]; exact Blk.new _ _ _
  have hBa : Blk wa w.heap.size 26 #[.int .i64 (H : Int), hv] := hB.keep (by rw [hwa]; exact (Ext.refl wb).alloc _)
  have hca : Cur wa p := by rw [hwa, hwb]; exact cur_alloc (cur_alloc hc _) _
  have hga : w.grownBy wa (some p) := by rw [hwa, hwb]; exact grown_alloc (grown_alloc (grown_refl _ _) _) _
  have hoa : wa.ownsRow wb.heap.size 3 1 (.slice (some ⟨w.heap.size + 1, 0, none⟩) 0 0) 0 (([] : List Int).flatMap ienc) := by rw [← hsb, hwa]; exact own_empty wb wb.heap.size 3 1 (Nat.le_refl _)
  have Hwa : Hid (wa = (w.alloc (.cells #[.int .i64 (H : Int), hv] 26)).alloc (.cells #[] 3)) := Lib.hid (by rw [hwa, hwb])
  have HOa := Lib.hid hoa
  have HGa := Lib.hid hga
  have HBa := Lib.hid hBa
  have hpb : p < wb.heap.size := by omega
  have him := Lib.hid (imax_one hH)
  have Hsb := Lib.hid hsb
  have cA := Lib.hid (spec_l01Below p (N + 1) wa hca)
  have hmx := @run_imax Tryz.prog
  clear hwa hwb hoa hga hB hBa hca hc hsb
  go_enter Tryz.func103, Tryz.ntmps103
  go_wp2_with (go_at_call 71; refine (fun h : Hid _ => h.out) ?_)
  unfold Hid
  rw [← Hwa.out]
  refine cA.out.mono ?_
  rintro e w2 ⟨q, rfl, hq0, hq1, hc2, hg2⟩
  have HO2 := Lib.hid (own_grown HOa.out hpb hg2)
  have HG2 := Lib.hid (grown_trans HGa.out hg2)
  have HB2 := Lib.hid (blk_grown HBa.out (by omega) hg2)
  have HC2 := Lib.hid hc2
  obtain ⟨n, rfl⟩ := Int.eq_ofNat_of_zero_le hq0
  have hnN : (n : Int) ≤ N := by omega
  clear hg2 hc2 hq0 hq1 cA
  go_wp2_with fail
  go_loopw [7, 9] (fun ov iv wr => ∃ (k : Nat) (L : List Int), k ≤ n ∧ iv = .int .i64 k ∧ Hid (L.length = k) ∧ Hid (∀ x ∈ L, 0 ≤ x ∧ x < H) ∧ Hid (wr.ownsRow wb.heap.size 3 1 ov L.length (L.flatMap ienc)) ∧ Hid (Cur wr p) ∧ Hid (Blk wr w.heap.size 26 #[.int .i64 (H : Int), hv]) ∧ Hid (w.grownBy wr (some p))) (fun _ iv _ => n - (intOf iv).toNat)
  case atStart => exact ⟨0, [], by omega, rfl, Lib.hid rfl, Lib.hid (fun x hx => by cases hx), HO2, HC2, HB2, HG2⟩
  case round =>
    obtain ⟨k, L, hk, rfl, hLk, hLm, hown, hcr, hbr, hgr⟩ := hrel
    by_cases hlt : k < n
    · have y0 := hbr.out.cellAt (i := 0) (by simp)
      simp at y0
      go_wp2_with (go_at_call 71; refine (fun h : Hid _ => h.out) ?_)
      unfold Hid
      refine (spec_l01Below p _ _ hcr.out).mono ?_
      rintro e w5 ⟨r, rfl, h0, h1, hc5, hg5⟩
      rw [him.out] at h1
      have HO5 := Lib.hid (own_grown hown.out hpb hg5)
      have HG5 := Lib.hid (grown_trans hgr.out hg5)
      have HB5 := Lib.hid (blk_grown hbr.out (by omega) hg5)
      have HC5 := Lib.hid hc5
      have hsz : wb.heap.size ≤ w5.heap.size := by have := HB5.out.lt; have := Hsb.out; omega
      have hLl : L.length ≤ 1000 := by have := hLk.out; omega
      have hr2 : r < H := by omega
      clear hg5 hc5 h1 y0
      go_wp2_with (at_builtin; refine (fun h : Hid _ => h.out) ?_)
      unfold Hid
      refine append1g ei_IntD rfl _ _ rfl wb.heap.size w5 _ _ L.length _ (by rfl) HO5.out (ienc r) (by rfl) rfl (by intro u hu; simp [ienc] at hu; subst hu; rfl) (by omega) hsz ?_
      intro v6 w6 row ho6 hg6 hr6
      have HO6 := Lib.hid ho6
      have HC6 := Lib.hid (cur_grown HC5.out hg6 (fun q hq => by have := hr6 q hq; omega))
      have HB6 := Lib.hid (blk_overP HB5.out hg6 hr6 (by have := Hsb.out; omega))
      have HG6 := Lib.hid (grown_over HG5.out hg6 (fun q hq => by have := hr6 q hq; have := Hsb.out; omega))
      clear ho6 hg6 hr6
      go_wp2_with fail
      go_roundw
      case rel => exact ⟨k + 1, L ++ [r], by omega, by go_num, Lib.hid (by have := hLk.out; simp; omega), Lib.hid (fun x hx => by
        rcases List.mem_append.1 hx with hx | hx
        · exact hLm.out x hx
        · rw [List.mem_singleton] at hx; subst hx; exact ⟨h0, hr2⟩), by unfold Hid; rw [List.length_append, List.flatMap_append]; simpa using HO6.out, HC6, HB6, HG6⟩
      case measure => simp [intOf] <;> omega
    · go_wp2_with fail
      go_ret
      exact ⟨_, L, rfl, own_weak (base := wb.heap.size) hown.out (by have := Hsb.out; omega), by have := hLk.out; omega, hLm.out, hcr.out, hgr.out⟩
end Go.Proofs.YtfmifllcbbfpoaaGreatDoor
