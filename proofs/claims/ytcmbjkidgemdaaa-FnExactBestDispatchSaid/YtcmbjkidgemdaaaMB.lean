/- The search through the halls finds each hall at its distance; the halls that a set of keys opens; no condition but what stands at each theorem. -/
import Derived.Test.YtcmbjkidgemdaaaMH
namespace Go.Proofs.Ytcmbjkidgemdaaa
set_option linter.unusedSimpArgs false
set_option linter.unusedVariables false
/-- The halls that can be reached from a in at most n steps. -/
def ball (ds : List GDoor) (h a : Nat) : Nat → Nat → Bool
  | 0, k => k == a
  | n + 1, k => ball ds h a n k || (List.range h).any fun (j : Nat) => ball ds h a n j && doorB ds j k
theorem ball_up {ds : List GDoor} {h a n m k : Nat} (hb : ball ds h a n k = true) (hm : n ≤ m) : ball ds h a m k = true := by
  induction m with
  | zero => obtain rfl : n = 0 := by omega
            exact hb
  | succ m ih =>
    by_cases e : n = m + 1
    · subst e; exact hb
    · simp only [ball, Bool.or_eq_true]; exact .inl (ih (by omega))
theorem ball_step {ds : List GDoor} {h a n j k : Nat} (hj : j < h) (hb : ball ds h a n j = true) (hd : doorB ds j k = true) : ball ds h a (n + 1) k = true := by
  simp only [ball, Bool.or_eq_true, List.any_eq_true, Bool.and_eq_true]
  exact .inr ⟨j, by simpa using hj, hb, hd⟩
theorem ball_cases {ds : List GDoor} {h a n k : Nat} (hb : ball ds h a (n + 1) k = true) : ball ds h a n k = true ∨ ∃ j, j < h ∧ ball ds h a n j = true ∧ doorB ds j k = true := by
  simp only [ball, Bool.or_eq_true, List.any_eq_true, Bool.and_eq_true] at hb
  rcases hb with hb | ⟨j, h1, h2, h3⟩
  · exact .inl hb
  · exact .inr ⟨j, by simpa using h1, h2, h3⟩
theorem ball_left {ds : List GDoor} {h a j : Nat} (ha : a < h) (hd : doorB ds a j = true) : ∀ {n k : Nat}, ball ds h j n k = true → ball ds h a (n + 1) k = true
  | 0, k, hb => by
    simp only [ball, beq_iff_eq] at hb
    subst hb
    exact ball_step (n := 0) ha (by simp [ball]) hd
  | n + 1, k, hb => by
    rcases ball_cases hb with hb | ⟨i, h1, h2, h3⟩
    · exact ball_up (ball_left ha hd hb) (by omega)
    · exact ball_step h1 (ball_left ha hd h2) h3
theorem ball_sym {ds : List GDoor} {h : Nat} : ∀ {n a k : Nat}, k < h → ball ds h a n k = true → ball ds h k n a = true
  | 0, a, k, _, hb => by simp only [ball, beq_iff_eq] at hb ⊢; exact hb.symm
  | n + 1, a, k, hk, hb => by
    rcases ball_cases hb with hb | ⟨j, h1, h2, h3⟩
    · exact ball_up (ball_sym hk hb) (by omega)
    · exact ball_left hk (by rw [doorB_comm]; exact h3) (ball_sym h1 h2)
/-- The search, some way on: i halls are done. -/
structure Seen (ds : List GDoor) (a h i : Nat) (S : BS) : Prop where
  inv : BInv a h S
  snd : ∀ k, k < h → 0 ≤ S.f.getD k 0 → ∃ n : Nat, S.d.getD k 0 = (n : Int) ∧ ball ds h a n k = true
  inq : ∀ k, k < h → 0 ≤ S.f.getD k 0 → ∃ j, j < S.q.length ∧ S.q.getD j 0 = (k : Int)
  done : ∀ j, j < i → j < S.q.length → ∀ k, k < h → doorB ds (S.q.getD j 0) k = true → 0 ≤ S.f.getD k 0 ∧ S.d.getD k 0 ≤ S.d.getD (S.q.getD j 0).toNat 0 + 1
  mono : ∀ j j', j ≤ j' → j' < S.q.length → S.d.getD (S.q.getD j 0).toNat 0 ≤ S.d.getD (S.q.getD j' 0).toNat 0
  top : i < S.q.length → ∀ j, j < S.q.length → S.d.getD (S.q.getD j 0).toNat 0 ≤ S.d.getD (S.q.getD i 0).toNat 0 + 1
theorem Seen.at_ {ds : List GDoor} {a h i : Nat} {S : BS} (I : Seen ds a h i S) {j : Nat} (hj : j < S.q.length) : ∃ k, k < h ∧ S.q.getD j 0 = (k : Int) ∧ 0 ≤ S.f.getD k 0 :=
  I.inv.qin _ (by
    have : S.q.getD j 0 = S.q[j] := by simp [hj]
    rw [this]; exact List.getElem_mem hj)
theorem Seen.vis {ds : List GDoor} {a h i p k : Nat} {S : BS} (I : Seen ds a h i S) (hi : i < S.q.length) (hp : S.q.getD i 0 = (p : Int)) (hk : k < h) (hd : doorB ds p k = true) :
    Seen ds a h i (vis (p : Int) S k) ∧ i < (Proofs.Ytcmbjkidgemdaaa.vis (p : Int) S k).q.length ∧ (Proofs.Ytcmbjkidgemdaaa.vis (p : Int) S k).q.getD i 0 = (p : Int)
    ∧ 0 ≤ (Proofs.Ytcmbjkidgemdaaa.vis (p : Int) S k).f.getD k 0 ∧ (Proofs.Ytcmbjkidgemdaaa.vis (p : Int) S k).d.getD k 0 ≤ (Proofs.Ytcmbjkidgemdaaa.vis (p : Int) S k).d.getD p 0 + 1
    ∧ ∀ j, j < h → 0 ≤ S.f.getD j 0 → 0 ≤ (Proofs.Ytcmbjkidgemdaaa.vis (p : Int) S k).f.getD j 0 ∧ (Proofs.Ytcmbjkidgemdaaa.vis (p : Int) S k).d.getD j 0 = S.d.getD j 0 := by
  obtain ⟨p', hp', hpe, hfp⟩ := I.at_ hi
  obtain rfl : p = p' := by rw [hp] at hpe; omega
  have hB := I.inv.vis hp' hfp hk
  have hq := fun j (hj : j < S.q.length) => vis_q (x := (p : Int)) (k := k) hj
  unfold Proofs.Ytcmbjkidgemdaaa.vis at hB hq ⊢
  by_cases hf : S.f.getD k 0 < 0
  · rw [if_pos hf] at hB hq ⊢
    have lf := I.inv.lf
    have ld := I.inv.ld
    have hkp : p ≠ k := by rintro rfl; omega
    have gf : ∀ j, (S.f.set k (p : Int)).getD j 0 = if j = k then (p : Int) else S.f.getD j 0 := fun j => getD_set' _ _ _ _ (by omega)
    rw [Int.toNat_natCast] at hB hq ⊢
    have gd : ∀ j, (S.d.set k (S.d.getD p 0 + 1)).getD j 0 = if j = k then S.d.getD p 0 + 1 else S.d.getD j 0 := fun j => getD_set' _ _ _ _ (by omega)
    have old : ∀ j, j < S.q.length → ∃ v, v < h ∧ v ≠ k ∧ S.q.getD j 0 = (v : Int) ∧ 0 ≤ S.f.getD v 0 := by
      intro j hj
      obtain ⟨v, h1, h2, h3⟩ := I.at_ hj
      exact ⟨v, h1, by rintro rfl; omega, h2, h3⟩
    have qo : ∀ j, j < S.q.length → (S.q ++ [(k : Int)]).getD j 0 = S.q.getD j 0 := fun j hj => (hq j hj).1
    have qn : (S.q ++ [(k : Int)]).getD S.q.length 0 = (k : Int) := by simp
    have dq : ∀ j, j < S.q.length → (S.d.set k (S.d.getD p 0 + 1)).getD ((S.q ++ [(k : Int)]).getD j 0).toNat 0 = S.d.getD (S.q.getD j 0).toNat 0 := by
      intro j hj
      obtain ⟨v, h1, h2, h3, h4⟩ := old j hj
      rw [qo j hj, h3, Int.toNat_natCast, gd, if_neg h2]
    have dn : (S.d.set k (S.d.getD p 0 + 1)).getD ((S.q ++ [(k : Int)]).getD S.q.length 0).toNat 0 = S.d.getD p 0 + 1 := by
      rw [qn, Int.toNat_natCast, gd, if_pos rfl]
    have dp : S.d.getD (S.q.getD i 0).toNat 0 = S.d.getD p 0 := by rw [hp, Int.toNat_natCast]
    refine ⟨⟨hB, ?_, ?_, ?_, ?_, ?_⟩, ?_, ?_, ?_, ?_, ?_⟩
    · intro j hj hfj
      simp only [gf, gd] at hfj ⊢
      by_cases hjk : j = k
      · subst hjk
        obtain ⟨n, hn, hb⟩ := I.snd p hp' hfp
        simp only [if_true]
        exact ⟨n + 1, by rw [hn]; rfl, ball_step hp' hb hd⟩
      · simp only [hjk, if_false] at hfj ⊢
        exact I.snd j hj hfj
    · intro j hj hfj
      simp only [gf] at hfj
      simp only [List.length_append, List.length_cons, List.length_nil]
      by_cases hjk : j = k
      · subst hjk
        exact ⟨S.q.length, by omega, qn⟩
      · simp only [hjk, if_false] at hfj
        obtain ⟨j', h1, h2⟩ := I.inq j hj hfj
        exact ⟨j', by omega, by rw [qo j' h1]; exact h2⟩
    · intro j hji _ v hv hdv
      have hjl : j < S.q.length := by omega
      rw [dq j hjl]
      simp only [qo j hjl] at hdv
      obtain ⟨h1, h2⟩ := I.done j hji hjl v hv hdv
      have hvk : v ≠ k := by rintro rfl; omega
      simp only [gf, gd, hvk, if_false]
      exact ⟨h1, h2⟩
    · intro j j' hjj hj'
      simp only [List.length_append, List.length_cons, List.length_nil] at hj'
      by_cases e : j' = S.q.length
      · subst e
        rw [dn]
        by_cases e2 : j = S.q.length
        · subst e2; rw [dn]; omega
        · rw [dq j (by omega), ← dp]
          exact I.top hi j (by omega)
      · rw [dq j (by omega), dq j' (by omega)]
        exact I.mono j j' hjj (by omega)
    · intro _ j hj
      simp only [List.length_append, List.length_cons, List.length_nil] at hj
      rw [dq i hi]
      by_cases e : j = S.q.length
      · subst e; rw [dn, dp]; omega
      · rw [dq j (by omega)]; exact I.top hi j (by omega)
    · simp only [List.length_append]; omega
    · exact (qo i hi).trans hp
    · simp only [gf, if_true]; omega
    · simp only [gd, if_true, hkp, if_false]; omega
    · intro j hj hfj
      have hjk : j ≠ k := by rintro rfl; omega
      simp only [gf, gd, hjk, if_false]
      exact ⟨hfj, trivial⟩
  · rw [if_neg hf]
    refine ⟨I, hi, hp, by omega, ?_, fun j _ hj => ⟨hj, rfl⟩⟩
    obtain ⟨j, hj, hje⟩ := I.inq k hk (by omega)
    have := I.top hi j hj
    rw [hje, hp, Int.toNat_natCast, Int.toNat_natCast] at this
    exact this
theorem Seen.fold {ds : List GDoor} {a h i p : Nat} : ∀ (ns : List Nat) {S : BS}, Seen ds a h i S → i < S.q.length → S.q.getD i 0 = (p : Int) → (∀ k ∈ ns, k < h ∧ doorB ds p k = true) →
    Seen ds a h i (ns.foldl (Proofs.Ytcmbjkidgemdaaa.vis (p : Int)) S) ∧ i < (ns.foldl (Proofs.Ytcmbjkidgemdaaa.vis (p : Int)) S).q.length ∧ (ns.foldl (Proofs.Ytcmbjkidgemdaaa.vis (p : Int)) S).q.getD i 0 = (p : Int)
    ∧ (∀ k ∈ ns, 0 ≤ (ns.foldl (Proofs.Ytcmbjkidgemdaaa.vis (p : Int)) S).f.getD k 0 ∧ (ns.foldl (Proofs.Ytcmbjkidgemdaaa.vis (p : Int)) S).d.getD k 0 ≤ (ns.foldl (Proofs.Ytcmbjkidgemdaaa.vis (p : Int)) S).d.getD p 0 + 1)
    ∧ ∀ j, j < h → 0 ≤ S.f.getD j 0 → 0 ≤ (ns.foldl (Proofs.Ytcmbjkidgemdaaa.vis (p : Int)) S).f.getD j 0 ∧ (ns.foldl (Proofs.Ytcmbjkidgemdaaa.vis (p : Int)) S).d.getD j 0 = S.d.getD j 0
  | [], S, I, hi, hp, _ => ⟨I, hi, hp, fun k hk => by simp at hk, fun j _ hj => ⟨hj, rfl⟩⟩
  | k :: ns, S, I, hi, hp, hn => by
    obtain ⟨p', hp', hpe, hfp⟩ := I.at_ hi
    obtain rfl : p = p' := by rw [hp] at hpe; omega
    obtain ⟨hk, hd⟩ := hn k (by simp)
    obtain ⟨I1, i1, q1, v1, d1, o1⟩ := I.vis hi hp hk hd
    obtain ⟨I2, i2, q2, v2, o2⟩ := Seen.fold ns I1 i1 q1 (fun j hj => hn j (by simp [hj]))
    refine ⟨I2, i2, q2, ?_, ?_⟩
    · intro j hj
      rcases List.mem_cons.1 hj with rfl | hj
      · obtain ⟨a1, a2⟩ := o2 j hk v1
        obtain ⟨b1, b2⟩ := o2 p hp' (o1 p hp' hfp).1
        simp only [List.foldl_cons]
        exact ⟨a1, by rw [a2, b2]; exact d1⟩
      · exact v2 j hj
    · intro j hj hf
      obtain ⟨a1, a2⟩ := o1 j hj hf
      obtain ⟨b1, b2⟩ := o2 j hj a1
      exact ⟨b1, b2.trans a2⟩
theorem Seen.rnd {ds : List GDoor} {a h i : Nat} {S : BS} (I : Seen ds a h i S) (hi : i < S.q.length) : Seen ds a h (i + 1) (rnd ds h S i) := by
  obtain ⟨p, hp, hpe, hfp⟩ := I.at_ hi
  rw [rnd_nbr, hpe]
  obtain ⟨I2, i2, q2, v2, o2⟩ := Seen.fold (nbr ds h (p : Int)) I hi hpe (fun k hk => ⟨nbr_lt hk, by unfold nbr at hk; simpa using (List.mem_filter.1 hk).2⟩)
  refine ⟨I2.inv, I2.snd, I2.inq, ?_, I2.mono, ?_⟩
  · intro j hj hjl k hk hd
    by_cases e : j = i
    · subst e
      rw [q2] at hd ⊢
      rw [Int.toNat_natCast]
      refine v2 k ?_
      unfold nbr
      rw [List.mem_filter]
      exact ⟨by simpa using hk, hd⟩
    · exact I2.done j (by omega) hjl k hk hd
  · intro hl j hj
    have h1 := I2.top i2 j hj
    have h2 := I2.mono i (i + 1) (by omega) hl
    omega
theorem Seen.bfs {ds : List GDoor} {a h : Nat} : ∀ (n i : Nat) {S : BS}, Seen ds a h i S → h ≤ i + n → ∃ i', Seen ds a h i' (bfs ds h n i S) ∧ (Proofs.Ytcmbjkidgemdaaa.bfs ds h n i S).q.length ≤ i'
  | 0, i, S, I, hn => ⟨i, I, by have := I.inv.qle; show S.q.length ≤ i; omega⟩
  | n + 1, i, S, I, hn => by
    unfold Proofs.Ytcmbjkidgemdaaa.bfs
    split
    · rename_i hi; exact Seen.bfs n (i + 1) (I.rnd hi) (by omega)
    · rename_i hi; exact ⟨i, I, by omega⟩
theorem seen0 {ds : List GDoor} {a h : Nat} (ha : a < h) : Seen ds a h 0 (bs0 h a) := by
  have B := binv0 ha
  have one : ∀ k, k < h → 0 ≤ (bs0 h a).f.getD k 0 → k = a := by
    intro k hk hf
    refine Classical.byContradiction fun hne => ?_
    have : (bs0 h a).f.getD k 0 = -1 := by
      simp only [bs0]
      rw [getD_set' _ _ _ _ (by simpa using ha), if_neg hne]
      simp [hk]
    omega
  refine ⟨B, ?_, ?_, fun j hj => by omega, ?_, ?_⟩
  · intro k hk hf
    obtain rfl := one k hk hf
    exact ⟨0, B.root.2, by simp [ball]⟩
  · intro k hk hf
    obtain rfl := one k hk hf
    exact ⟨0, by simp [bs0], by simp [bs0]⟩
  · intro j j' hj hj'
    simp only [bs0, List.length_cons, List.length_nil] at hj'
    obtain rfl : j' = 0 := by omega
    obtain rfl : j = 0 := by omega
    exact Int.le_refl _
  · intro _ j hj
    simp only [bs0, List.length_cons, List.length_nil] at hj
    obtain rfl : j = 0 := by omega
    omega
theorem seen_all (ds : List GDoor) {a h : Nat} (ha : a < h) : ∃ i, Seen ds a h i (bfsAll ds h a) ∧ (bfsAll ds h a).q.length ≤ i := Seen.bfs h 0 (seen0 ha) (by omega)
/-- The search finds a hall at a distance of at most n just if it can be reached in n steps. -/
theorem bfs_ball (ds : List GDoor) {a h k : Nat} (ha : a < h) (hk : k < h) (n : Nat) : (0 ≤ (bfsAll ds h a).d.getD k 0 ∧ (bfsAll ds h a).d.getD k 0 ≤ n) ↔ ball ds h a n k = true := by
  obtain ⟨i, I, hi⟩ := seen_all ds ha
  constructor
  · rintro ⟨h1, h2⟩
    have hf : 0 ≤ (bfsAll ds h a).f.getD k 0 := by
      have := I.inv.iff_ k hk
      omega
    obtain ⟨m, hm, hb⟩ := I.snd k hk hf
    exact ball_up hb (by omega)
  · intro hb
    have key : ∀ (n k : Nat), k < h → ball ds h a n k = true → 0 ≤ (bfsAll ds h a).f.getD k 0 ∧ (bfsAll ds h a).d.getD k 0 ≤ n := by
      intro n
      induction n with
      | zero =>
        intro k hk hb
        simp only [ball, beq_iff_eq] at hb
        subst hb
        have := I.inv.root
        omega
      | succ n ih =>
        intro k hk hb
        rcases ball_cases hb with hb | ⟨j, h1, h2, h3⟩
        · have := ih k hk hb; omega
        · obtain ⟨f1, d1⟩ := ih j h1 h2
          obtain ⟨q, hq, hqe⟩ := I.inq j h1 f1
          have := I.done q (by omega) hq k hk (by rw [hqe]; exact h3)
          rw [hqe, Int.toNat_natCast] at this
          omega
    obtain ⟨f1, d1⟩ := key n k hk hb
    have := I.inv.iff_ k hk
    omega
theorem reach_ball (ds : List GDoor) {a h k : Nat} (ha : a < h) (hk : k < h) : reachB ds h a k = ball ds h a h k := by
  have I := BInv.all ds ha
  rw [Bool.eq_iff_iff]
  constructor
  · intro hr
    have hf : 0 ≤ (bfsAll ds h a).f.getD k 0 := by simpa [reachB] using hr
    have h1 := I.dlt_ k hk hf
    have h2 := I.qle
    have h3 := I.iff_ k hk
    exact (bfs_ball ds ha hk h).1 (by omega)
  · intro hb
    have h1 := (bfs_ball ds ha hk h).2 hb
    have h3 := I.iff_ k hk
    simp only [reachB, decide_eq_true_eq]
    omega
theorem ball_most (ds : List GDoor) {a h k n : Nat} (ha : a < h) (hk : k < h) (hb : ball ds h a n k = true) : ball ds h a h k = true := by
  have I := BInv.all ds ha
  have h1 := (bfs_ball ds ha hk n).2 hb
  have h3 := I.iff_ k hk
  have h4 := I.dlt_ k hk (by omega)
  have h2 := I.qle
  exact (bfs_ball ds ha hk h).1 (by omega)
/-- How far two halls are. -/
def distB (ds : List GDoor) (h a k : Nat) : Int := (bfsAll ds h a).d.getD k 0
theorem dist_sym (ds : List GDoor) {a h k : Nat} (ha : a < h) (hk : k < h) (hr : reachB ds h a k = true) : distB ds h a k = distB ds h k a ∧ 0 ≤ distB ds h a k := by
  have h1 := bfs_ball ds ha hk
  have h2 := bfs_ball ds hk ha
  have hs : ∀ n, ball ds h a n k = true ↔ ball ds h k n a = true := fun n => ⟨ball_sym hk, ball_sym ha⟩
  have hb := (h1 h).2 (by rw [← reach_ball ds ha hk]; exact hr)
  unfold distB
  obtain ⟨x, hx⟩ : ∃ x, x = (bfsAll ds h a).d.getD k 0 := ⟨_, rfl⟩
  obtain ⟨y, hy⟩ : ∃ y, y = (bfsAll ds h k).d.getD a 0 := ⟨_, rfl⟩
  rw [← hx, ← hy]
  rw [← hx] at h1 hb
  rw [← hy] at h2
  have e : ∀ n : Nat, (0 ≤ x ∧ x ≤ n) ↔ (0 ≤ y ∧ y ≤ n) := fun n => (h1 n).trans ((hs n).trans (h2 n).symm)
  have e1 := (e x.toNat).1 (by omega)
  have e2 := (e y.toNat).2 (by omega)
  omega
theorem ball_trans {ds : List GDoor} {h a j n : Nat} (hb : ball ds h a n j = true) : ∀ {m k : Nat}, ball ds h j m k = true → ball ds h a (n + m) k = true
  | 0, k, hk => by
    simp only [ball, beq_iff_eq] at hk
    subst hk
    exact hb
  | m + 1, k, hk => by
    rcases ball_cases hk with hk | ⟨i, h1, h2, h3⟩
    · exact ball_up (ball_trans hb hk) (by omega)
    · exact ball_step h1 (ball_trans hb h2) h3
theorem house_reach {ds : List GDoor} {h : Nat} (hr : ∀ k, k < h → reachB ds h 0 k = true) {a k : Nat} (ha : a < h) (hk : k < h) : reachB ds h a k = true := by
  have h0 : 0 < h := by omega
  have h1 := hr a ha
  have h2 := hr k hk
  rw [reach_ball ds h0 ha] at h1
  rw [reach_ball ds h0 hk] at h2
  rw [reach_ball ds ha hk]
  exact ball_most ds ha hk (ball_trans (ball_sym ha h1) h2)
/-- The doors that a set of keys opens. -/
def opened : Nat → List GDoor → List GDoor
  | _, [] => []
  | r, d :: ds => if r % 2 == 1 then d :: opened (r / 2) ds else opened (r / 2) ds
theorem opened_sub : ∀ (r : Nat) (ds : List GDoor), (opened r ds).Sublist ds
  | _, [] => List.Sublist.refl _
  | r, d :: ds => by
    unfold opened
    split
    · exact (opened_sub (r / 2) ds).cons_cons d
    · exact (opened_sub (r / 2) ds).cons d
theorem opened_twice {r : Nat} {ds : List GDoor} (h : NoTwice ds) : NoTwice (opened r ds) := List.Pairwise.sublist (opened_sub r ds) h
/-- One door: if one of its halls is in the set, both are. -/
def reach1 (s : Nat) (d : GDoor) : Nat := if s.testBit d.a.toNat || s.testBit d.b.toNat then s ||| (1 <<< d.a.toNat) ||| (1 <<< d.b.toNat) else s
def reached (ds : List GDoor) (a : Nat) : Nat → Nat
  | 0 => 1 <<< a
  | n + 1 => ds.foldl reach1 (reached ds a n)
theorem bit_one (i j : Nat) : (1 <<< i).testBit j = (j == i) := by
  rw [Nat.one_shiftLeft, Nat.testBit_two_pow, Bool.eq_iff_iff]
  simp only [decide_eq_true_eq, beq_iff_eq]
  omega
theorem reach1_up {s : Nat} {d : GDoor} {k : Nat} (h : s.testBit k = true) : (reach1 s d).testBit k = true := by
  unfold reach1
  split
  · rw [Nat.testBit_or, Nat.testBit_or, h]; rfl
  · exact h
theorem reach_fold_up {k : Nat} : ∀ (ds : List GDoor) {s : Nat}, s.testBit k = true → (ds.foldl reach1 s).testBit k = true
  | [], _, h => h
  | d :: ds, _, h => reach_fold_up ds (reach1_up h)
theorem reach_fold_both {x y : Nat} {d : GDoor} (hx : d.a.toNat = x ∧ d.b.toNat = y ∨ d.a.toNat = y ∧ d.b.toNat = x) : ∀ (ds : List GDoor) {s : Nat}, d ∈ ds → s.testBit x = true → (ds.foldl reach1 s).testBit y = true
  | [], _, h, _ => by simp at h
  | e :: ds, s, h, hb => by
    rcases List.mem_cons.1 h with rfl | h
    · refine reach_fold_up ds ?_
      have : (s.testBit d.a.toNat || s.testBit d.b.toNat) = true := by rcases hx with ⟨h1, h2⟩ | ⟨h1, h2⟩ <;> simp [h1, h2, hb]
      unfold reach1
      rw [if_pos this, Nat.testBit_or, Nat.testBit_or, bit_one, bit_one]
      rcases hx with ⟨h1, h2⟩ | ⟨h1, h2⟩ <;> simp [h1, h2]
    · exact reach_fold_both hx ds h (reach1_up hb)
theorem doorB_mem {ds : List GDoor} {j k : Nat} (h : doorB ds j k = true) : ∃ d ∈ ds, d.a.toNat = j ∧ d.b.toNat = k ∨ d.a.toNat = k ∧ d.b.toNat = j := by
  simp only [doorB, List.any_eq_true, isDoor, Bool.and_eq_true, beq_iff_eq] at h
  obtain ⟨d, hd, h1, h2⟩ := h
  by_cases e : (k : Int) < j
  · refine ⟨d, hd, .inr ?_⟩
    simp only [imin, imax, e, if_true, show ¬ (j : Int) < k by omega, if_false] at h1 h2
    omega
  · refine ⟨d, hd, .inl ?_⟩
    simp only [imin, imax, e, if_false] at h1 h2
    split at h2 <;> omega
theorem mem_doorB {ds : List GDoor} {d : GDoor} (hd : d ∈ ds) {a b : Nat} (ha : d.a = a) (hb : d.b = b) (hl : a < b) : doorB ds a b = true := by
  simp only [doorB, List.any_eq_true, isDoor, Bool.and_eq_true, beq_iff_eq]
  refine ⟨d, hd, ?_, ?_⟩
  · rw [ha]; unfold imin; split <;> omega
  · rw [hb]; unfold imax; split <;> omega
theorem reached_full {ds : List GDoor} {h a : Nat} : ∀ (n : Nat) {k : Nat}, ball ds h a n k = true → (reached ds a n).testBit k = true
  | 0, k, hb => by
    simp only [ball, beq_iff_eq] at hb
    subst hb
    simp [reached, bit_one]
  | n + 1, k, hb => by
    rcases ball_cases hb with hb | ⟨j, h1, h2, h3⟩
    · exact reach_fold_up ds (reached_full n hb)
    · obtain ⟨d, hd, hx⟩ := doorB_mem h3
      exact reach_fold_both hx ds hd (reached_full n h2)
theorem reach_fold_sound {ds : List GDoor} {h a : Nat} (hok : ∀ d ∈ ds, doorOk h d = true) : ∀ (es : List GDoor) {s : Nat}, (∀ e ∈ es, e ∈ ds) → (∀ k, s.testBit k = true → k < h ∧ ∃ n, ball ds h a n k = true) → ∀ k, (es.foldl reach1 s).testBit k = true → k < h ∧ ∃ n, ball ds h a n k = true
  | [], _, _, hs => hs
  | d :: es, s, hm, hs => by
    refine reach_fold_sound hok es (fun e he => hm e (by simp [he])) ?_
    intro k hk
    have hd := hm d (by simp)
    have ho := hok d hd
    simp only [doorOk, Bool.and_eq_true, decide_eq_true_eq] at ho
    obtain ⟨⟨h0, h1⟩, h2⟩ := ho
    obtain ⟨x, hx⟩ := Int.eq_ofNat_of_zero_le h0
    obtain ⟨y, hy⟩ := Int.eq_ofNat_of_zero_le (show 0 ≤ d.b by omega)
    have hdo := mem_doorB hd hx hy (by omega)
    unfold reach1 at hk
    split at hk
    · rename_i hc
      rw [hx, hy, Int.toNat_natCast, Int.toNat_natCast] at hk hc
      rw [Nat.testBit_or, Nat.testBit_or, bit_one, bit_one] at hk
      simp only [Bool.or_eq_true, beq_iff_eq] at hk hc
      have both : (∃ n, ball ds h a n x = true) ∧ ∃ n, ball ds h a n y = true := by
        rcases hc with hc | hc
        · obtain ⟨_, n, hn⟩ := hs x hc
          exact ⟨⟨n, hn⟩, n + 1, ball_step (by omega) hn hdo⟩
        · obtain ⟨_, n, hn⟩ := hs y hc
          exact ⟨⟨n + 1, ball_step (by omega) hn (by rw [doorB_comm]; exact hdo)⟩, n, hn⟩
      rcases hk with (hk | hk) | hk
      · exact hs k hk
      · subst hk; exact ⟨by omega, both.1⟩
      · subst hk; exact ⟨by omega, both.2⟩
    · exact hs k hk
theorem reached_sound {ds : List GDoor} {h a : Nat} (ha : a < h) (hok : ∀ d ∈ ds, doorOk h d = true) : ∀ (n : Nat) (k : Nat), (reached ds a n).testBit k = true → k < h ∧ ∃ n, ball ds h a n k = true
  | 0, k, hb => by
    simp only [reached, bit_one, beq_iff_eq] at hb
    subst hb
    exact ⟨ha, 0, by simp [ball]⟩
  | n + 1, k, hb => reach_fold_sound hok ds (fun _ h => h) (reached_sound ha hok n) k hb
/-- What the reference reckons with bits is what the search finds. -/
theorem reached_reach {ds : List GDoor} {h a k : Nat} (ha : a < h) (hk : k < h) (hok : ∀ d ∈ ds, doorOk h d = true) : (reached ds a h).testBit k = reachB ds h a k := by
  rw [reach_ball ds ha hk, Bool.eq_iff_iff]
  constructor
  · intro hb
    obtain ⟨_, n, hn⟩ := reached_sound ha hok h k hb
    exact ball_most ds ha hk hn
  · exact reached_full h
theorem reached_lt {ds : List GDoor} {h a : Nat} (ha : a < h) (hok : ∀ d ∈ ds, doorOk h d = true) (n : Nat) : reached ds a n < 2 ^ h := by
  refine Nat.lt_pow_two_of_testBit _ fun k hk => ?_
  cases hb : (reached ds a n).testBit k with
  | false => rfl
  | true => have := (reached_sound ha hok n k hb).1; omega
end Go.Proofs.Ytcmbjkidgemdaaa
