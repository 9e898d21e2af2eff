/- Texts of one proof, laid one behind the other (MB, KG, SHq, SHi, SHr, SHs, SHt, SHu, M3, SHv); no condition but what stands at each theorem. -/
import Derived.Deep.DeepFit
import Derived.Test.YtfhibjehnoibeaaZA
import Derived.Test.YtfhibjehnoibeaaZB
/- The search through the halls finds each hall at its distance; the halls that a set of keys opens; no condition but what stands at each theorem. -/
namespace Go.Proofs.Ytfhibjehnoibeaa
set_option linter.unusedSimpArgs false
set_option linter.unusedVariables false
/-- The halls that can be reached from a in at most n steps. -/
def ball (ds : List GDoor) (h a : Nat) : Nat → Nat → Bool
  | 0, k => k == a
  | n + 1, k => ball ds h a n k || (List.range h).any fun (j : Nat) => ball ds h a n j && doorB ds j k
theorem ball_up {ds : List GDoor} {h a n m k : Nat} (hb : ball ds h a n k = true) (hm : n ≤ m) : ball ds h a m k = true := by
  induction m with
  | zero => obtain rfl : n = 0 := by omega
            exact hb
  | succ m ih =>
    by_cases e : n = m + 1
    · subst e; exact hb
    · simp only [ball, Bool.or_eq_true]; exact .inl (ih (by omega))
theorem ball_step {ds : List GDoor} {h a n j k : Nat} (hj : j < h) (hb : ball ds h a n j = true) (hd : doorB ds j k = true) : ball ds h a (n + 1) k = true := by
  simp only [ball, Bool.or_eq_true, List.any_eq_true, Bool.and_eq_true]
  exact .inr ⟨j, by simpa using hj, hb, hd⟩
theorem ball_cases {ds : List GDoor} {h a n k : Nat} (hb : ball ds h a (n + 1) k = true) : ball ds h a n k = true ∨ ∃ j, j < h ∧ ball ds h a n j = true ∧ doorB ds j k = true := by
  simp only [ball, Bool.or_eq_true, List.any_eq_true, Bool.and_eq_true] at hb
  rcases hb with hb | ⟨j, h1, h2, h3⟩
  · exact .inl hb
  · exact .inr ⟨j, by simpa using h1, h2, h3⟩
theorem ball_left {ds : List GDoor} {h a j : Nat} (ha : a < h) (hd : doorB ds a j = true) : ∀ {n k : Nat}, ball ds h j n k = true → ball ds h a (n + 1) k = true
  | 0, k, hb => by
    simp only [ball, beq_iff_eq] at hb
    subst hb
    exact ball_step (n := 0) ha (by simp [ball]) hd
  | n + 1, k, hb => by
    rcases ball_cases hb with hb | ⟨i, h1, h2, h3⟩
    · exact ball_up (ball_left ha hd hb) (by omega)
    · exact ball_step h1 (ball_left ha hd h2) h3
theorem ball_sym {ds : List GDoor} {h : Nat} : ∀ {n a k : Nat}, k < h → ball ds h a n k = true → ball ds h k n a = true
  | 0, a, k, _, hb => by simp only [ball, beq_iff_eq] at hb ⊢; exact hb.symm
  | n + 1, a, k, hk, hb => by
    rcases ball_cases hb with hb | ⟨j, h1, h2, h3⟩
    · exact ball_up (ball_sym hk hb) (by omega)
    · exact ball_left hk (by rw [doorB_comm]; exact h3) (ball_sym h1 h2)
/-- The search, some way on: i halls are done. -/
structure Seen (ds : List GDoor) (a h i : Nat) (S : BS) : Prop where
  inv : BInv a h S
  snd : ∀ k, k < h → 0 ≤ S.f.getD k 0 → ∃ n : Nat, S.d.getD k 0 = (n : Int) ∧ ball ds h a n k = true
  inq : ∀ k, k < h → 0 ≤ S.f.getD k 0 → ∃ j, j < S.q.length ∧ S.q.getD j 0 = (k : Int)
  done : ∀ j, j < i → j < S.q.length → ∀ k, k < h → doorB ds (S.q.getD j 0) k = true → 0 ≤ S.f.getD k 0 ∧ S.d.getD k 0 ≤ S.d.getD (S.q.getD j 0).toNat 0 + 1
  mono : ∀ j j', j ≤ j' → j' < S.q.length → S.d.getD (S.q.getD j 0).toNat 0 ≤ S.d.getD (S.q.getD j' 0).toNat 0
  top : i < S.q.length → ∀ j, j < S.q.length → S.d.getD (S.q.getD j 0).toNat 0 ≤ S.d.getD (S.q.getD i 0).toNat 0 + 1
theorem Seen.at_ {ds : List GDoor} {a h i : Nat} {S : BS} (I : Seen ds a h i S) {j : Nat} (hj : j < S.q.length) : ∃ k, k < h ∧ S.q.getD j 0 = (k : Int) ∧ 0 ≤ S.f.getD k 0 :=
  I.inv.qin _ (by
    have : S.q.getD j 0 = S.q[j] := by simp [hj]
    rw [this]; exact List.getElem_mem hj)
theorem Seen.vis {ds : List GDoor} {a h i p k : Nat} {S : BS} (I : Seen ds a h i S) (hi : i < S.q.length) (hp : S.q.getD i 0 = (p : Int)) (hk : k < h) (hd : doorB ds p k = true) :
    Seen ds a h i (vis (p : Int) S k) ∧ i < (Proofs.Ytfhibjehnoibeaa.vis (p : Int) S k).q.length ∧ (Proofs.Ytfhibjehnoibeaa.vis (p : Int) S k).q.getD i 0 = (p : Int)
    ∧ 0 ≤ (Proofs.Ytfhibjehnoibeaa.vis (p : Int) S k).f.getD k 0 ∧ (Proofs.Ytfhibjehnoibeaa.vis (p : Int) S k).d.getD k 0 ≤ (Proofs.Ytfhibjehnoibeaa.vis (p : Int) S k).d.getD p 0 + 1
    ∧ ∀ j, j < h → 0 ≤ S.f.getD j 0 → 0 ≤ (Proofs.Ytfhibjehnoibeaa.vis (p : Int) S k).f.getD j 0 ∧ (Proofs.Ytfhibjehnoibeaa.vis (p : Int) S k).d.getD j 0 = S.d.getD j 0 := by
  obtain ⟨p', hp', hpe, hfp⟩ := I.at_ hi
  obtain rfl : p = p' := by rw [hp] at hpe; omega
  have hB := I.inv.vis hp' hfp hk
  have hq := fun j (hj : j < S.q.length) => vis_q (x := (p : Int)) (k := k) hj
  unfold Proofs.Ytfhibjehnoibeaa.vis at hB hq ⊢
  by_cases hf : S.f.getD k 0 < 0
  · rw [if_pos hf] at hB hq ⊢
    have lf := I.inv.lf
    have ld := I.inv.ld
    have hkp : p ≠ k := by rintro rfl; omega
    have gf : ∀ j, (S.f.set k (p : Int)).getD j 0 = if j = k then (p : Int) else S.f.getD j 0 := fun j => getD_set' _ _ _ _ (by omega)
    rw [Int.toNat_natCast] at hB hq ⊢
    have gd : ∀ j, (S.d.set k (S.d.getD p 0 + 1)).getD j 0 = if j = k then S.d.getD p 0 + 1 else S.d.getD j 0 := fun j => getD_set' _ _ _ _ (by omega)
    have old : ∀ j, j < S.q.length → ∃ v, v < h ∧ v ≠ k ∧ S.q.getD j 0 = (v : Int) ∧ 0 ≤ S.f.getD v 0 := by
      intro j hj
      obtain ⟨v, h1, h2, h3⟩ := I.at_ hj
      exact ⟨v, h1, by rintro rfl; omega, h2, h3⟩
    have qo : ∀ j, j < S.q.length → (S.q ++ [(k : Int)]).getD j 0 = S.q.getD j 0 := fun j hj => (hq j hj).1
    have qn : (S.q ++ [(k : Int)]).getD S.q.length 0 = (k : Int) := by simp
    have dq : ∀ j, j < S.q.length → (S.d.set k (S.d.getD p 0 + 1)).getD ((S.q ++ [(k : Int)]).getD j 0).toNat 0 = S.d.getD (S.q.getD j 0).toNat 0 := by
      intro j hj
      obtain ⟨v, h1, h2, h3, h4⟩ := old j hj
      rw [qo j hj, h3, Int.toNat_natCast, gd, if_neg h2]
    have dn : (S.d.set k (S.d.getD p 0 + 1)).getD ((S.q ++ [(k : Int)]).getD S.q.length 0).toNat 0 = S.d.getD p 0 + 1 := by
      rw [qn, Int.toNat_natCast, gd, if_pos rfl]
    have dp : S.d.getD (S.q.getD i 0).toNat 0 = S.d.getD p 0 := by rw [hp, Int.toNat_natCast]
    refine ⟨⟨hB, ?_, ?_, ?_, ?_, ?_⟩, ?_, ?_, ?_, ?_, ?_⟩
    · intro j hj hfj
      simp only [gf, gd] at hfj ⊢
      by_cases hjk : j = k
      · subst hjk
        obtain ⟨n, hn, hb⟩ := I.snd p hp' hfp
        simp only [if_true]
        exact ⟨n + 1, by rw [hn]; rfl, ball_step hp' hb hd⟩
      · simp only [hjk, if_false] at hfj ⊢
        exact I.snd j hj hfj
    · intro j hj hfj
      simp only [gf] at hfj
      simp only [List.length_append, List.length_cons, List.length_nil]
      by_cases hjk : j = k
      · subst hjk
        exact ⟨S.q.length, by omega, qn⟩
      · simp only [hjk, if_false] at hfj
        obtain ⟨j', h1, h2⟩ := I.inq j hj hfj
        exact ⟨j', by omega, by rw [qo j' h1]; exact h2⟩
    · intro j hji _ v hv hdv
      have hjl : j < S.q.length := by omega
      rw [dq j hjl]
      simp only [qo j hjl] at hdv
      obtain ⟨h1, h2⟩ := I.done j hji hjl v hv hdv
      have hvk : v ≠ k := by rintro rfl; omega
      simp only [gf, gd, hvk, if_false]
      exact ⟨h1, h2⟩
    · intro j j' hjj hj'
      simp only [List.length_append, List.length_cons, List.length_nil] at hj'
      by_cases e : j' = S.q.length
      · subst e
        rw [dn]
        by_cases e2 : j = S.q.length
        · subst e2; rw [dn]; omega
        · rw [dq j (by omega), ← dp]
          exact I.top hi j (by omega)
      · rw [dq j (by omega), dq j' (by omega)]
        exact I.mono j j' hjj (by omega)
    · intro _ j hj
      simp only [List.length_append, List.length_cons, List.length_nil] at hj
      rw [dq i hi]
      by_cases e : j = S.q.length
      · subst e; rw [dn, dp]; omega
      · rw [dq j (by omega)]; exact I.top hi j (by omega)
    · simp only [List.length_append]; omega
    · exact (qo i hi).trans hp
    · simp only [gf, if_true]; omega
    · simp only [gd, if_true, hkp, if_false]; omega
    · intro j hj hfj
      have hjk : j ≠ k := by rintro rfl; omega
      simp only [gf, gd, hjk, if_false]
      exact ⟨hfj, trivial⟩
  · rw [if_neg hf]
    refine ⟨I, hi, hp, by omega, ?_, fun j _ hj => ⟨hj, rfl⟩⟩
    obtain ⟨j, hj, hje⟩ := I.inq k hk (by omega)
    have := I.top hi j hj
    rw [hje, hp, Int.toNat_natCast, Int.toNat_natCast] at this
    exact this
theorem Seen.fold {ds : List GDoor} {a h i p : Nat} : ∀ (ns : List Nat) {S : BS}, Seen ds a h i S → i < S.q.length → S.q.getD i 0 = (p : Int) → (∀ k ∈ ns, k < h ∧ doorB ds p k = true) →
    Seen ds a h i (ns.foldl (Proofs.Ytfhibjehnoibeaa.vis (p : Int)) S) ∧ i < (ns.foldl (Proofs.Ytfhibjehnoibeaa.vis (p : Int)) S).q.length ∧ (ns.foldl (Proofs.Ytfhibjehnoibeaa.vis (p : Int)) S).q.getD i 0 = (p : Int)
    ∧ (∀ k ∈ ns, 0 ≤ (ns.foldl (Proofs.Ytfhibjehnoibeaa.vis (p : Int)) S).f.getD k 0 ∧ (ns.foldl (Proofs.Ytfhibjehnoibeaa.vis (p : Int)) S).d.getD k 0 ≤ (ns.foldl (Proofs.Ytfhibjehnoibeaa.vis (p : Int)) S).d.getD p 0 + 1)
    ∧ ∀ j, j < h → 0 ≤ S.f.getD j 0 → 0 ≤ (ns.foldl (Proofs.Ytfhibjehnoibeaa.vis (p : Int)) S).f.getD j 0 ∧ (ns.foldl (Proofs.Ytfhibjehnoibeaa.vis (p : Int)) S).d.getD j 0 = S.d.getD j 0
  | [], S, I, hi, hp, _ => ⟨I, hi, hp, fun k hk => by simp at hk, fun j _ hj => ⟨hj, rfl⟩⟩
  | k :: ns, S, I, hi, hp, hn => by
    obtain ⟨p', hp', hpe, hfp⟩ := I.at_ hi
    obtain rfl : p = p' := by rw [hp] at hpe; omega
    obtain ⟨hk, hd⟩ := hn k (by simp)
    obtain ⟨I1, i1, q1, v1, d1, o1⟩ := I.vis hi hp hk hd
    obtain ⟨I2, i2, q2, v2, o2⟩ := Seen.fold ns I1 i1 q1 (fun j hj => hn j (by simp [hj]))
    refine ⟨I2, i2, q2, ?_, ?_⟩
    · intro j hj
      rcases List.mem_cons.1 hj with rfl | hj
      · obtain ⟨a1, a2⟩ := o2 j hk v1
        obtain ⟨b1, b2⟩ := o2 p hp' (o1 p hp' hfp).1
        simp only [List.foldl_cons]
        exact ⟨a1, by rw [a2, b2]; exact d1⟩
      · exact v2 j hj
    · intro j hj hf
      obtain ⟨a1, a2⟩ := o1 j hj hf
      obtain ⟨b1, b2⟩ := o2 j hj a1
      exact ⟨b1, b2.trans a2⟩
theorem Seen.rnd {ds : List GDoor} {a h i : Nat} {S : BS} (I : Seen ds a h i S) (hi : i < S.q.length) : Seen ds a h (i + 1) (rnd ds h S i) := by
  obtain ⟨p, hp, hpe, hfp⟩ := I.at_ hi
  rw [rnd_nbr, hpe]
  obtain ⟨I2, i2, q2, v2, o2⟩ := Seen.fold (nbr ds h (p : Int)) I hi hpe (fun k hk => ⟨nbr_lt hk, by unfold nbr at hk; simpa using (List.mem_filter.1 hk).2⟩)
  refine ⟨I2.inv, I2.snd, I2.inq, ?_, I2.mono, ?_⟩
  · intro j hj hjl k hk hd
    by_cases e : j = i
    · subst e
      rw [q2] at hd ⊢
      rw [Int.toNat_natCast]
      refine v2 k ?_
      unfold nbr
      rw [List.mem_filter]
      exact ⟨by simpa using hk, hd⟩
    · exact I2.done j (by omega) hjl k hk hd
  · intro hl j hj
    have h1 := I2.top i2 j hj
    have h2 := I2.mono i (i + 1) (by omega) hl
    omega
theorem Seen.bfs {ds : List GDoor} {a h : Nat} : ∀ (n i : Nat) {S : BS}, Seen ds a h i S → h ≤ i + n → ∃ i', Seen ds a h i' (bfs ds h n i S) ∧ (Proofs.Ytfhibjehnoibeaa.bfs ds h n i S).q.length ≤ i'
  | 0, i, S, I, hn => ⟨i, I, by have := I.inv.qle; show S.q.length ≤ i; omega⟩
  | n + 1, i, S, I, hn => by
    unfold Proofs.Ytfhibjehnoibeaa.bfs
    split
    · rename_i hi; exact Seen.bfs n (i + 1) (I.rnd hi) (by omega)
    · rename_i hi; exact ⟨i, I, by omega⟩
theorem seen0 {ds : List GDoor} {a h : Nat} (ha : a < h) : Seen ds a h 0 (bs0 h a) := by
  have B := binv0 ha
  have one : ∀ k, k < h → 0 ≤ (bs0 h a).f.getD k 0 → k = a := by
    intro k hk hf
    refine Classical.byContradiction fun hne => ?_
    have : (bs0 h a).f.getD k 0 = -1 := by
      simp only [bs0]
      rw [getD_set' _ _ _ _ (by simpa using ha), if_neg hne]
      simp [hk]
    omega
  refine ⟨B, ?_, ?_, fun j hj => by omega, ?_, ?_⟩
  · intro k hk hf
    obtain rfl := one k hk hf
    exact ⟨0, B.root.2, by simp [ball]⟩
  · intro k hk hf
    obtain rfl := one k hk hf
    exact ⟨0, by simp [bs0], by simp [bs0]⟩
  · intro j j' hj hj'
    simp only [bs0, List.length_cons, List.length_nil] at hj'
    obtain rfl : j' = 0 := by omega
    obtain rfl : j = 0 := by omega
    exact Int.le_refl _
  · intro _ j hj
    simp only [bs0, List.length_cons, List.length_nil] at hj
    obtain rfl : j = 0 := by omega
    omega
theorem seen_all (ds : List GDoor) {a h : Nat} (ha : a < h) : ∃ i, Seen ds a h i (bfsAll ds h a) ∧ (bfsAll ds h a).q.length ≤ i := Seen.bfs h 0 (seen0 ha) (by omega)
/-- The search finds a hall at a distance of at most n just if it can be reached in n steps. -/
theorem bfs_ball (ds : List GDoor) {a h k : Nat} (ha : a < h) (hk : k < h) (n : Nat) : (0 ≤ (bfsAll ds h a).d.getD k 0 ∧ (bfsAll ds h a).d.getD k 0 ≤ n) ↔ ball ds h a n k = true := by
  obtain ⟨i, I, hi⟩ := seen_all ds ha
  constructor
  · rintro ⟨h1, h2⟩
    have hf : 0 ≤ (bfsAll ds h a).f.getD k 0 := by
      have := I.inv.iff_ k hk
      omega
    obtain ⟨m, hm, hb⟩ := I.snd k hk hf
    exact ball_up hb (by omega)
  · intro hb
    have key : ∀ (n k : Nat), k < h → ball ds h a n k = true → 0 ≤ (bfsAll ds h a).f.getD k 0 ∧ (bfsAll ds h a).d.getD k 0 ≤ n := by
      intro n
      induction n with
      | zero =>
        intro k hk hb
        simp only [ball, beq_iff_eq] at hb
        subst hb
        have := I.inv.root
        omega
      | succ n ih =>
        intro k hk hb
        rcases ball_cases hb with hb | ⟨j, h1, h2, h3⟩
        · have := ih k hk hb; omega
        · obtain ⟨f1, d1⟩ := ih j h1 h2
          obtain ⟨q, hq, hqe⟩ := I.inq j h1 f1
          have := I.done q (by omega) hq k hk (by rw [hqe]; exact h3)
          rw [hqe, Int.toNat_natCast] at this
          omega
    obtain ⟨f1, d1⟩ := key n k hk hb
    have := I.inv.iff_ k hk
    omega
theorem reach_ball (ds : List GDoor) {a h k : Nat} (ha : a < h) (hk : k < h) : reachB ds h a k = ball ds h a h k := by
  have I := BInv.all ds ha
  rw [Bool.eq_iff_iff]
  constructor
  · intro hr
    have hf : 0 ≤ (bfsAll ds h a).f.getD k 0 := by simpa [reachB] using hr
    have h1 := I.dlt_ k hk hf
    have h2 := I.qle
    have h3 := I.iff_ k hk
    exact (bfs_ball ds ha hk h).1 (by omega)
  · intro hb
    have h1 := (bfs_ball ds ha hk h).2 hb
    have h3 := I.iff_ k hk
    simp only [reachB, decide_eq_true_eq]
    omega
theorem ball_most (ds : List GDoor) {a h k n : Nat} (ha : a < h) (hk : k < h) (hb : ball ds h a n k = true) : ball ds h a h k = true := by
  have I := BInv.all ds ha
  have h1 := (bfs_ball ds ha hk n).2 hb
  have h3 := I.iff_ k hk
  have h4 := I.dlt_ k hk (by omega)
  have h2 := I.qle
  exact (bfs_ball ds ha hk h).1 (by omega)
/-- How far two halls are. -/
def distB (ds : List GDoor) (h a k : Nat) : Int := (bfsAll ds h a).d.getD k 0
theorem dist_sym (ds : List GDoor) {a h k : Nat} (ha : a < h) (hk : k < h) (hr : reachB ds h a k = true) : distB ds h a k = distB ds h k a ∧ 0 ≤ distB ds h a k := by
  have h1 := bfs_ball ds ha hk
  have h2 := bfs_ball ds hk ha
  have hs : ∀ n, ball ds h a n k = true ↔ ball ds h k n a = true := fun n => ⟨ball_sym hk, ball_sym ha⟩
  have hb := (h1 h).2 (by rw [← reach_ball ds ha hk]; exact hr)
  unfold distB
  obtain ⟨x, hx⟩ : ∃ x, x = (bfsAll ds h a).d.getD k 0 := ⟨_, rfl⟩
  obtain ⟨y, hy⟩ : ∃ y, y = (bfsAll ds h k).d.getD a 0 := ⟨_, rfl⟩
  rw [← hx, ← hy]
  rw [← hx] at h1 hb
  rw [← hy] at h2
  have e : ∀ n : Nat, (0 ≤ x ∧ x ≤ n) ↔ (0 ≤ y ∧ y ≤ n) := fun n => (h1 n).trans ((hs n).trans (h2 n).symm)
  have e1 := (e x.toNat).1 (by omega)
  have e2 := (e y.toNat).2 (by omega)
  omega
theorem ball_trans {ds : List GDoor} {h a j n : Nat} (hb : ball ds h a n j = true) : ∀ {m k : Nat}, ball ds h j m k = true → ball ds h a (n + m) k = true
  | 0, k, hk => by
    simp only [ball, beq_iff_eq] at hk
    subst hk
    exact hb
  | m + 1, k, hk => by
    rcases ball_cases hk with hk | ⟨i, h1, h2, h3⟩
    · exact ball_up (ball_trans hb hk) (by omega)
    · exact ball_step h1 (ball_trans hb h2) h3
theorem house_reach {ds : List GDoor} {h : Nat} (hr : ∀ k, k < h → reachB ds h 0 k = true) {a k : Nat} (ha : a < h) (hk : k < h) : reachB ds h a k = true := by
  have h0 : 0 < h := by omega
  have h1 := hr a ha
  have h2 := hr k hk
  rw [reach_ball ds h0 ha] at h1
  rw [reach_ball ds h0 hk] at h2
  rw [reach_ball ds ha hk]
  exact ball_most ds ha hk (ball_trans (ball_sym ha h1) h2)
/-- The doors that a set of keys opens. -/
def opened : Nat → List GDoor → List GDoor
  | _, [] => []
  | r, d :: ds => if r % 2 == 1 then d :: opened (r / 2) ds else opened (r / 2) ds
theorem opened_sub : ∀ (r : Nat) (ds : List GDoor), (opened r ds).Sublist ds
  | _, [] => List.Sublist.refl _
  | r, d :: ds => by
    unfold opened
    split
    · exact (opened_sub (r / 2) ds).cons_cons d
    · exact (opened_sub (r / 2) ds).cons d
theorem opened_twice {r : Nat} {ds : List GDoor} (h : NoTwice ds) : NoTwice (opened r ds) := List.Pairwise.sublist (opened_sub r ds) h
/-- One door: if one of its halls is in the set, both are. -/
def reach1 (s : Nat) (d : GDoor) : Nat := if s.testBit d.a.toNat || s.testBit d.b.toNat then s ||| (1 <<< d.a.toNat) ||| (1 <<< d.b.toNat) else s
def reached (ds : List GDoor) (a : Nat) : Nat → Nat
  | 0 => 1 <<< a
  | n + 1 => ds.foldl reach1 (reached ds a n)
theorem bit_one (i j : Nat) : (1 <<< i).testBit j = (j == i) := by
  rw [Nat.one_shiftLeft, Nat.testBit_two_pow, Bool.eq_iff_iff]
  simp only [decide_eq_true_eq, beq_iff_eq]
  omega
theorem reach1_up {s : Nat} {d : GDoor} {k : Nat} (h : s.testBit k = true) : (reach1 s d).testBit k = true := by
  unfold reach1
  split
  · rw [Nat.testBit_or, Nat.testBit_or, h]; rfl
  · exact h
theorem reach_fold_up {k : Nat} : ∀ (ds : List GDoor) {s : Nat}, s.testBit k = true → (ds.foldl reach1 s).testBit k = true
  | [], _, h => h
  | d :: ds, _, h => reach_fold_up ds (reach1_up h)
theorem reach_fold_both {x y : Nat} {d : GDoor} (hx : d.a.toNat = x ∧ d.b.toNat = y ∨ d.a.toNat = y ∧ d.b.toNat = x) : ∀ (ds : List GDoor) {s : Nat}, d ∈ ds → s.testBit x = true → (ds.foldl reach1 s).testBit y = true
  | [], _, h, _ => by simp at h
  | e :: ds, s, h, hb => by
    rcases List.mem_cons.1 h with rfl | h
    · refine reach_fold_up ds ?_
      have : (s.testBit d.a.toNat || s.testBit d.b.toNat) = true := by rcases hx with ⟨h1, h2⟩ | ⟨h1, h2⟩ <;> simp [h1, h2, hb]
      unfold reach1
      rw [if_pos this, Nat.testBit_or, Nat.testBit_or, bit_one, bit_one]
      rcases hx with ⟨h1, h2⟩ | ⟨h1, h2⟩ <;> simp [h1, h2]
    · exact reach_fold_both hx ds h (reach1_up hb)
theorem doorB_mem {ds : List GDoor} {j k : Nat} (h : doorB ds j k = true) : ∃ d ∈ ds, d.a.toNat = j ∧ d.b.toNat = k ∨ d.a.toNat = k ∧ d.b.toNat = j := by
  simp only [doorB, List.any_eq_true, isDoor, Bool.and_eq_true, beq_iff_eq] at h
  obtain ⟨d, hd, h1, h2⟩ := h
  by_cases e : (k : Int) < j
  · refine ⟨d, hd, .inr ?_⟩
    simp only [imin, imax, e, if_true, show ¬ (j : Int) < k by omega, if_false] at h1 h2
    omega
  · refine ⟨d, hd, .inl ?_⟩
    simp only [imin, imax, e, if_false] at h1 h2
    split at h2 <;> omega
theorem mem_doorB {ds : List GDoor} {d : GDoor} (hd : d ∈ ds) {a b : Nat} (ha : d.a = a) (hb : d.b = b) (hl : a < b) : doorB ds a b = true := by
  simp only [doorB, List.any_eq_true, isDoor, Bool.and_eq_true, beq_iff_eq]
  refine ⟨d, hd, ?_, ?_⟩
  · rw [ha]; unfold imin; split <;> omega
  · rw [hb]; unfold imax; split <;> omega
theorem reached_full {ds : List GDoor} {h a : Nat} : ∀ (n : Nat) {k : Nat}, ball ds h a n k = true → (reached ds a n).testBit k = true
  | 0, k, hb => by
    simp only [ball, beq_iff_eq] at hb
    subst hb
    simp [reached, bit_one]
  | n + 1, k, hb => by
    rcases ball_cases hb with hb | ⟨j, h1, h2, h3⟩
    · exact reach_fold_up ds (reached_full n hb)
    · obtain ⟨d, hd, hx⟩ := doorB_mem h3
      exact reach_fold_both hx ds hd (reached_full n h2)
theorem reach_fold_sound {ds : List GDoor} {h a : Nat} (hok : ∀ d ∈ ds, doorOk h d = true) : ∀ (es : List GDoor) {s : Nat}, (∀ e ∈ es, e ∈ ds) → (∀ k, s.testBit k = true → k < h ∧ ∃ n, ball ds h a n k = true) → ∀ k, (es.foldl reach1 s).testBit k = true → k < h ∧ ∃ n, ball ds h a n k = true
  | [], _, _, hs => hs
  | d :: es, s, hm, hs => by
    refine reach_fold_sound hok es (fun e he => hm e (by simp [he])) ?_
    intro k hk
    have hd := hm d (by simp)
    have ho := hok d hd
    simp only [doorOk, Bool.and_eq_true, decide_eq_true_eq] at ho
    obtain ⟨⟨h0, h1⟩, h2⟩ := ho
    obtain ⟨x, hx⟩ := Int.eq_ofNat_of_zero_le h0
    obtain ⟨y, hy⟩ := Int.eq_ofNat_of_zero_le (show 0 ≤ d.b by omega)
    have hdo := mem_doorB hd hx hy (by omega)
    unfold reach1 at hk
    split at hk
    · rename_i hc
      rw [hx, hy, Int.toNat_natCast, Int.toNat_natCast] at hk hc
      rw [Nat.testBit_or, Nat.testBit_or, bit_one, bit_one] at hk
      simp only [Bool.or_eq_true, beq_iff_eq] at hk hc
      have both : (∃ n, ball ds h a n x = true) ∧ ∃ n, ball ds h a n y = true := by
        rcases hc with hc | hc
        · obtain ⟨_, n, hn⟩ := hs x hc
          exact ⟨⟨n, hn⟩, n + 1, ball_step (by omega) hn hdo⟩
        · obtain ⟨_, n, hn⟩ := hs y hc
          exact ⟨⟨n + 1, ball_step (by omega) hn (by rw [doorB_comm]; exact hdo)⟩, n, hn⟩
      rcases hk with (hk | hk) | hk
      · exact hs k hk
      · subst hk; exact ⟨by omega, both.1⟩
      · subst hk; exact ⟨by omega, both.2⟩
    · exact hs k hk
theorem reached_sound {ds : List GDoor} {h a : Nat} (ha : a < h) (hok : ∀ d ∈ ds, doorOk h d = true) : ∀ (n : Nat) (k : Nat), (reached ds a n).testBit k = true → k < h ∧ ∃ n, ball ds h a n k = true
  | 0, k, hb => by
    simp only [reached, bit_one, beq_iff_eq] at hb
    subst hb
    exact ⟨ha, 0, by simp [ball]⟩
  | n + 1, k, hb => reach_fold_sound hok ds (fun _ h => h) (reached_sound ha hok n) k hb
/-- What the reference reckons with bits is what the search finds. -/
theorem reached_reach {ds : List GDoor} {h a k : Nat} (ha : a < h) (hk : k < h) (hok : ∀ d ∈ ds, doorOk h d = true) : (reached ds a h).testBit k = reachB ds h a k := by
  rw [reach_ball ds ha hk, Bool.eq_iff_iff]
  constructor
  · intro hb
    obtain ⟨_, n, hn⟩ := reached_sound ha hok h k hb
    exact ball_most ds ha hk hn
  · exact reached_full h
theorem reached_lt {ds : List GDoor} {h a : Nat} (ha : a < h) (hok : ∀ d ∈ ds, doorOk h d = true) (n : Nat) : reached ds a n < 2 ^ h := by
  refine Nat.lt_pow_two_of_testBit _ fun k hk => ?_
  cases hb : (reached ds a n).testBit k with
  | false => rfl
  | true => have := (reached_sound ha hok n k hb).1; omega
end Go.Proofs.Ytfhibjehnoibeaa
/- Append of one element that tells how the world grew; what stays below a block; no condition but what stands at each theorem. -/
namespace Go.Proofs.Ytfhibjehnoibeaa
set_option linter.unusedSimpArgs false
set_option linter.unusedVariables false
open Go.RowKit
theorem grown_allocG {a w : World} {row : Option Nat} (h : a.grownBy w row) (o : Obj) : a.grownBy (w.alloc o) row :=
  ⟨h.os, h.tape, h.output, Nat.le_trans h.size (by simp), fun i hi hn => (heap_alloc_old w _ (Nat.lt_of_lt_of_le hi h.size)).trans (h.block i hi hn)⟩
theorem append1G {P : Program} {ops : Array Oper} {rest : List Oper} {o : Oper} {a : Act} {Q : Exit → Act → World → Prop} {t e : TypeId} {m : Nat} (hE : EI P t e m) (hgd : o.guard = none) (s x : Operand)
    (ho : o.op = .call { callee := .builtin .append, args := #[s, x], argTypes := #[t, t] }) (base : Nat) (W : World) (T : TypeId) (v : Value) (n : Nat) (xs : List Value) (hs : a.eval s = v) (hown : W.ownsRow base e m v n xs)
    (news : List Value) (hx : a.eval x = .slice (some ⟨W.heap.size, 0, none⟩) 1 1) (hl : news.length = m) (h1 : ∀ u ∈ news, u.oneCell' = true) (hn : n ≤ 1073741824) (hbase : base ≤ W.heap.size)
    (h : ∀ v' w1 row, w1.ownsRow base e m v' (n + 1) (xs ++ news) → W.grownBy w1 row → (∀ k, row = some k → base ≤ k) → wpList P ops Q rest (a.put o.dst v') w1) : wpList P ops Q (o :: rest) a (W.alloc (.cells news.toArray T)) := by
  obtain ⟨i, z, hu, hi, hz, hsz, hby, hzs, h0⟩ := hE
  refine wpList_append_own _ hgd s x t ho base e i z m i.bytes hu hi hz hsz rfl hzs h0 v n xs hs (hown.alloc _) ⟨W.heap.size, 0, none⟩ 1 1 news hx (by omega) ?_ h1 (by unfold maxLen; omega) ?_ (by simp; omega) ?_
  · intro j u hu'
    rw [add_none, Nat.zero_add, World.cell?_alloc_new]
    simpa using hu'
  · have := Nat.mul_le_mul_left (n + 1) hby
    omega
  · intro v' w1 ho' hg _
    exact h v' w1 _ ho' (grown_trans (grown_allocG (grown_refl W _) _) hg) (fun k hk => (hown.lt k hk).1)
theorem grown_blk {W w1 : World} {row : Option Nat} {base g : Nat} {t : TypeId} {cs : Array Value} (hg : W.grownBy w1 row) (hr : ∀ k, row = some k → base ≤ k) (h : Blk W g t cs) (hb : g < base) : Blk w1 g t cs := by
  unfold Blk at *
  rw [hg.block g (Array.getElem?_eq_some_iff.1 h).1 (by intro e; have := hr g e.symm; omega)]
  exact h
theorem grown_ext {a W w1 : World} {row : Option Nat} {base : Nat} (hg : W.grownBy w1 row) (hr : ∀ k, row = some k → base ≤ k) (h : Ext a W) (hb : a.heap.size ≤ base) : Ext a w1 :=
  h.grown hg fun k hk => Nat.le_trans hb (hr k hk)
end Go.Proofs.Ytfhibjehnoibeaa
/- Contracts of hallsWith: the halls that a ring of keys opens; no condition but what stands at each theorem. -/
namespace Go.Proofs.Ytfhibjehnoibeaa
set_option linter.unusedSimpArgs false
set_option linter.unusedVariables false
open Go.RowKit Go.Sort
def hallsL (ds : List GDoor) (h a ring : Nat) : List Int := ((List.range h).filter (reachB (opened ring ds) h a)).map fun (k : Nat) => (k : Int)
theorem opened_at {ds : List GDoor} {k ring : Nat} {d : GDoor} (h : ds[k]? = some d) : opened (ring >>> k) (ds.drop k) = if bitB ring k then d :: opened (ring >>> (k + 1)) (ds.drop (k + 1)) else opened (ring >>> (k + 1)) (ds.drop (k + 1)) := by
  rw [drop_cons h, opened, Nat.shiftRight_succ]
  rfl
theorem one_GDoor1 (x : GDoor) : ∀ u ∈ x.enc, u.oneCell' = true := by
  intro u hu
  simp only [GDoor.enc, List.mem_cons, List.not_mem_nil, or_false] at hu
  rcases hu with rfl | rfl <;> rfl
theorem one_int1 (k : Int) : ∀ u ∈ [Value.int .i64 k], u.oneCell' = true := by
  intro u hu
  simp only [List.mem_cons, List.not_mem_nil, or_false] at hu
  subst hu; rfl
theorem ei_Door : EI Try.prog 24 48 2 := ei_of Try.underlying24 (by omega) (by kernel_rfl)
set_option maxRecDepth 100000 in
set_option maxHeartbeats 4000000 in
theorem impl_hallsWith (h : Nat) (A : Option Addr) (n c : Nat) (ds : List GDoor) (a ring : Nat) (w : World) (hx : Rd w 2 A n (ds.flatMap GDoor.enc)) (hs : Hid (NoTwice ds)) (h1 : 1 ≤ h) (h7 : h ≤ 7) (hn12 : n ≤ 12) (ha : a < h) (hring : ring ≤ 1048576) :
    Calls Try.prog 17 #[.agg #[.int .i64 h, .slice A n c], .int .i64 a, .int .i64 ring] w fun e w' => ∃ v, e = .returned v ∧ Ext w w' ∧ w'.ownsRow w.heap.size 3 1 v (hallsL ds h a ring).length ((hallsL ds h a ring).flatMap ienc) := by
  have hl := Lib.hid (hx.len GDoor.len (by omega))
  obtain ⟨wb, hwb⟩ : ∃ wb, wb = w.alloc (.cells #[.int .i64 (h : Int), .slice A n c] 26) := ⟨_, rfl⟩
  obtain ⟨hE, hsb, a0, a1⟩ := box2 w _ _ _ wb hwb
  obtain ⟨wc, hwc⟩ : ∃ wc, wc = wb.alloc (.cells #[.int .i64 (h : Int), .slice none 0 0] 26) := ⟨_, rfl⟩
  have hEc : Ext wb wc := by rw [hwc]; exact (Ext.refl wb).alloc _
  have hsc : wc.heap.size = wb.heap.size + 1 := by rw [hwc]; simp
  have hbc : Blk wc (w.heap.size + 1) 26 #[.int .i64 (h : Int), .slice none 0 0] := by rw [hwc, ← hsb]; exact Blk.new _ _ _
  have HE := Lib.hid hE
  have HEc := Lib.hid hEc
  have Hwb := Lib.hid hwb
  have Hwc := Lib.hid hwc
  have Ha0 := Lib.hid a0
  have Ha1 := Lib.hid a1
  have Hbc := Lib.hid hbc
  have hxb := Lib.hid (hx.keep hE)
  have Hsb := Lib.hid hsb
  have Hsc : Hid (wc.heap.size = w.heap.size + 1 + 1) := by unfold Hid; omega
  have hnn := hx.2.1
  clear hE hEc hwb hwc a0 a1 hx hbc hsb hsc
  go_enter Try.func17, Try.ntmps17
  go_wp2_with fail
  rw [← Hwb.out, ← Hwc.out]
  go_loopw [18] (fun i wr => ∃ (k : Nat) (v : Value) (L : List GDoor), k ≤ n ∧ i = .int .i64 k ∧ Blk wr (w.heap.size + 1) 26 #[.int .i64 (h : Int), v] ∧ wr.ownsRow (w.heap.size + 1 + 1) 48 2 v L.length (L.flatMap GDoor.enc) ∧ Hid (opened ring ds = L ++ opened (ring >>> k) (ds.drop k)) ∧ Hid (L.length ≤ k) ∧ Ext wb wr) (fun i _ => n - (intOf i).toNat)
  case atStart => exact ⟨0, _, [], Nat.zero_le _, rfl, Hbc.out, World.ownsRow_nil _ _ _ _, rfl, Nat.zero_le _, HEc.out⟩
  case round =>
    obtain ⟨k, v, L, hk, rfl, hblk, hown, hz, hLk, hb⟩ := hrel
    have hbr := hblk.lt
    by_cases hlt : k < n
    · obtain ⟨b, off, x, rfl, hbs, hxk, p0, p1⟩ := GDoor.at_ (hxb.out.keep hb) hlt
      have HA := Lib.hid (opened_at (ring := ring) hxk)
      have hbt : (bits .and .i64 ((ring : Int) / 2 ^ k) 1 == 1) = bitB ring k := bit_test ring k (by omega)
      have HO := Lib.hid hown
      have HB := Lib.hid hb
      have Hblk := Lib.hid hblk
      clear hxk hown hb hblk
      have hL12 : L.length ≤ 12 := by have := hLk.out; omega
      cases hbit : bitB ring k
      · rw [hbit] at hbt HA
        clear hbit
        go_wp2_with fail
        go_roundw
        case rel => exact ⟨k + 1, v, L, by omega, by go_num, Hblk.out.keep ((Ext.refl _).alloc _), own_keep HO.out ((Ext.refl _).alloc _), by unfold Hid; rw [hz.out, HA.out]; rfl, by have := hLk.out; unfold Hid; omega, HB.out.alloc _⟩
        case measure => simp [intOf]; omega
      · rw [hbit] at hbt HA
        clear hbit
        have c0 : wr.cell? ⟨w.heap.size + 1, 1, none⟩ = some v := Hblk.out.cell 1
        have m1 : wr.heap.size ≠ w.heap.size + 1 := by omega
        go_wp2_with (at_builtin; refine (fun h : Hid _ => h.out) ?_)
        unfold Hid
        refine append1G ei_Door rfl _ _ rfl (w.heap.size + 1 + 1) (wr.alloc (.cells #[.int .i64 x.a, .int .i64 x.b] 48)) _ v L.length _ (by rfl) (HO.out.alloc _) (GDoor.enc x) (by rw [hsz_alloc]; rfl) rfl (one_GDoor1 x) (by omega) (by rw [hsz_alloc]; omega) ?_
        intro v' w2 row ho2 hg2 hr2
        obtain ⟨A', c', rfl, hnc'⟩ := own_form ho2
        have HBk2 := Lib.hid (grown_blk hg2 hr2 (Hblk.out.keep ((Ext.refl wr).alloc _)) (by omega))
        have c1 : w2.cell? ⟨w.heap.size + 1, 1, none⟩ = some v := HBk2.out.cell 1
        have f1 := HBk2.out.free 1
        have HO2 := Lib.hid ho2
        have HE2 := Lib.hid (grown_ext hg2 hr2 (HB.out.alloc _) (by have := Hsb.out; omega))
        clear ho2 hg2 hr2
        go_wp2_with fail
        go_roundw
        case rel => exact ⟨k + 1, _, L ++ [x], by omega, by go_num, HBk2.out.set 1 _, own_far (by have := HO2.out; simpa using this) (by omega) _, by unfold Hid; rw [hz.out, HA.out]; simp, by have := hLk.out; unfold Hid; simp; omega, HE2.out.setCell (by have := Hsb.out; simp only; omega) _⟩
        case measure => simp [intOf]; omega
    · obtain rfl : k = n := by omega
      have HL : Hid (opened ring ds = L) := by unfold Hid; rw [hz.out, drop_nil (by rw [hl.out]; omega)]; simp [opened]
      obtain ⟨AL, cL, rfl, hncL⟩ := own_form hown
      have c0 : wr.cell? ⟨w.heap.size + 1, 0, none⟩ = some (.int .i64 (h : Int)) := hblk.cell 0
      have c1 : wr.cell? ⟨w.heap.size + 1, 1, none⟩ = some (.slice AL L.length cL) := hblk.cell 1
      have hsb := Hsb.out
      have a0 := (hb.cellAt w.heap.size (by omega) 0).trans Ha0.out
      have HC0 := Lib.hid c0
      have HC1 := Lib.hid c1
      have HA0 := Lib.hid a0
      have HO := Lib.hid hown
      have HB := Lib.hid hb
      have hL12 : L.length ≤ 12 := by have := hLk.out; omega
      have Hs : Hid (NoTwice L) := by unfold Hid; rw [← HL.out]; exact opened_twice hs.out
      have HH : Hid (hallsL ds h a ring = ((List.range h).filter (reachB L h a)).map fun (k : Nat) => (k : Int)) := by unfold Hid hallsL; rw [HL.out]
      clear hown hb hblk hsb
      obtain ⟨wo, rfl⟩ : ∃ wo : World, wo = wr := ⟨_, rfl⟩
      go_wp2_with fail
      clear c0 c1 a0
      go_loopw [10, 11] (fun o i wr => ∃ (k : Nat) (M : List Int), k ≤ h ∧ i = .int .i64 k ∧ wr.ownsRow wo.heap.size 3 1 o M.length (M.flatMap ienc) ∧ Hid (M = ((List.range k).filter (reachB L h a)).map fun (k : Nat) => (k : Int)) ∧ Hid (M.length ≤ k) ∧ Ext wo wr) (fun _ i _ => h - (intOf i).toNat)
      case atStart => exact ⟨0, [], Nat.zero_le _, rfl, own_empty wo wo.heap.size 3 1 (Nat.le_refl _), rfl, Nat.zero_le _, (Ext.refl wo).alloc _⟩
      case round =>
        obtain ⟨k, M, hk, rfl, hown, hz2, hMk, hb⟩ := hrel
        have c0 := (hb.cellAt (w.heap.size + 1) hbr 0).trans HC0.out
        have c1 := (hb.cellAt (w.heap.size + 1) hbr 1).trans HC1.out
        have a0 := (hb.cellAt w.heap.size (by omega) 0).trans HA0.out
        have hM7 : M.length ≤ 7 := by have := hMk.out; omega
        have hbs := hb.size
        have HO2 := Lib.hid hown
        have HB2 := Lib.hid hb
        clear hown hb
        by_cases hlt : k < h
        · have cW := Lib.hid (impl_wayIn h AL L.length cL L a k wr (Rd.of_own (own_keep HO.out HB2.out)) Hs h1 h7 hL12 ha hlt)
          go_wp2_with fail
          refine cW.out.mono ?_
          rintro e w5 (⟨hf, rfl, he5⟩ | ⟨hf, g, c', rfl, he5⟩)
          · have HR : Hid (reachB L h a k = false) := by unfold Hid; simp only [reachB, decide_eq_false_iff_not]; omega
            have HE5 := Lib.hid (HB2.out.trans he5)
            have HO5 := Lib.hid (own_keep HO2.out he5)
            clear hf he5
            go_wp2_with fail
            go_roundw
            case rel => exact ⟨k + 1, M, by omega, by go_num, HO5.out, by unfold Hid; rw [hz2.out, List.range_succ, List.filter_append]; simp [HR.out], by have := hMk.out; unfold Hid; omega, HE5.out⟩
            case measure => simp [intOf]; omega
          · have HR : Hid (reachB L h a k = true) := by unfold Hid; simp only [reachB, decide_eq_true_eq]; omega
            have HE5 := Lib.hid (HB2.out.trans he5)
            have HO5 := Lib.hid (own_keep HO2.out he5)
            have hs5 := HE5.out.size
            clear hf he5
            go_wp2_with (at_builtin; refine append1 ei_I rfl _ _ rfl wo.heap.size w5 _ _ M.length _ (by rfl) HO5.out [.int .i64 k] (by rfl) rfl (one_int1 _) (by omega) hs5 ?_; intro v' w6 ho6 he6; have HO6 := Lib.hid ho6; have HE6 := Lib.hid (he6 wo HE5.out (Nat.le_refl _)); clear ho6 he6)
            go_roundw
            case rel => exact ⟨k + 1, M ++ [(k : Int)], by omega, by go_num, by have := HO6.out; simpa [ienc] using this, by unfold Hid; rw [hz2.out, List.range_succ, List.filter_append]; simp [HR.out], by have := hMk.out; unfold Hid; simp; omega, HE6.out⟩
            case measure => simp [intOf]; omega
        · obtain rfl : k = h := by omega
          go_wp2_with fail
          go_ret
          have hM : hallsL ds k a ring = M := by rw [HH.out, hz2.out]
          exact ⟨_, rfl, HE.out.trans (HB.out.trans HB2.out), by rw [hM]; exact own_weak HO2.out (by omega)⟩
end Go.Proofs.Ytfhibjehnoibeaa
/- Contracts of isHall, hallsOk, l31Halls and PlacesOk; no condition but what stands at each theorem. -/
namespace Go.Proofs.Ytfhibjehnoibeaa
set_option linter.unusedSimpArgs false
set_option linter.unusedVariables false
open Go.RowKit Go.Sort
def hallB (H k : Int) : Bool := inB k 0 (wrap64 (H - 1))
def hallsB (H : Int) (ds : List GDoor) (xs : List Int) : Bool := xs.all (hallB H) && houseB H ds
def placesB (H : Int) (ds : List GDoor) (xs : List Int) : Bool := decide (xs.length ≤ 6) && hallsB H ds xs
theorem hallsB_no {H : Int} {ds : List GDoor} {xs : List Int} {k : Nat} {x : Int} (hz : Hid (hallsB H ds xs = hallsB H ds (xs.drop k))) (hxk : Hid (xs[k]? = some x)) (h : Hid (hallB H x = false)) : Hid (hallsB H ds xs = false) := by
  unfold Hid at *
  rw [hz, drop_cons hxk]
  unfold hallsB
  rw [List.all_cons, h]
  rfl
theorem hallsB_step {H : Int} {ds : List GDoor} {xs : List Int} {k : Nat} {x : Int} (hz : Hid (hallsB H ds xs = hallsB H ds (xs.drop k))) (hxk : Hid (xs[k]? = some x)) (h : Hid (hallB H x = true)) : Hid (hallsB H ds xs = hallsB H ds (xs.drop (k + 1))) := by
  unfold Hid at *
  rw [hz, drop_cons hxk]
  unfold hallsB
  rw [List.all_cons, h]
  rfl
theorem impl_isHall (H : Int) (A : Option Addr) (n c : Nat) (k : Int) (w : World) :
    Calls Try.prog 19 #[.agg #[.int .i64 H, .slice A n c], .int .i64 k] w fun e w' => e = .returned (.bool (hallB H k)) ∧ Ext w w' := by
  go_enter Try.func19, Try.ntmps19
  go_wp2_with (go_at_call 20; refine (impl_between k 0 (wrap64 (H - 1)) _).mono ?_; rintro e w1 ⟨rfl, rfl⟩)
  go_ret
  exact ⟨rfl, (Ext.refl w).alloc _⟩
end Go.Proofs.Ytfhibjehnoibeaa
/- Contracts of l37Reached and HallsWith; no condition but what stands at each theorem. -/
namespace Go.Proofs.Ytfhibjehnoibeaa
set_option linter.unusedSimpArgs false
set_option linter.unusedVariables false
open Go.RowKit Go.Sort
theorem bitB_test (s k : Nat) : bitB s k = s.testBit k := by
  unfold bitB
  rw [Nat.testBit_eq_decide_div_mod_eq, Nat.shiftRight_eq_div_pow, Bool.eq_iff_iff]
  simp
theorem shl_lt {x : Nat} (h : x < 7) : 1 <<< x < 128 := by
  rw [Nat.one_shiftLeft]
  exact Nat.lt_of_le_of_lt (Nat.pow_le_pow_right (by omega) (show x ≤ 6 by omega)) (by decide)
theorem or_lt128 {s t : Nat} (hs : s < 128) (ht : t < 128) : s ||| t < 128 := Nat.or_lt_two_pow (n := 7) hs ht
theorem shl_int (x : Nat) : ((2 : Int) ^ x) = ((1 <<< x : Nat) : Int) := by rw [Nat.one_shiftLeft]; push_cast; rfl
theorem wrap_shl {x : Nat} (h : x < 7) : wrap64 ((2 : Int) ^ x) = ((1 <<< x : Nat) : Int) := by
  have h1 := shl_lt h
  rw [shl_int]
  generalize 1 <<< x = z at *
  exact IntWalk.wrap64_in _ ⟨by omega, by omega⟩
theorem shl_cast (x : Nat) : ((1 : Int) <<< x) = ((1 <<< x : Nat) : Int) := by push_cast; rfl
theorem opened_ok {H : Int} {ds : List GDoor} (h : ∀ d ∈ ds, doorOk H d = true) (r : Nat) : ∀ d ∈ opened r ds, doorOk H d = true := fun d hd => h d ((opened_sub r ds).subset hd)
theorem reached_128 {ds : List GDoor} {h a : Nat} (ha : a < h) (h7 : h ≤ 7) (hok : ∀ d ∈ ds, doorOk h d = true) (n : Nat) : reached ds a n < 128 :=
  Nat.lt_of_lt_of_le (reached_lt ha hok n) (Nat.pow_le_pow_right (by omega) h7)
end Go.Proofs.Ytfhibjehnoibeaa
/- Contracts of HallsWith; no condition but what stands at each theorem. -/
namespace Go.Proofs.Ytfhibjehnoibeaa
set_option linter.unusedSimpArgs false
set_option linter.unusedVariables false
open Go.RowKit Go.Sort
def hallsWL (H : Int) (ds : List GDoor) (a ring : Int) : List Int := if ringB H ds ring && hallB H a then hallsL ds H.toNat a.toNat ring.toNat else []
def OwnL (L : List Int) (w : World) (e : Ending) (w' : World) : Prop := ∃ v, e = .returned v ∧ Ext w w' ∧ w'.ownsRow w.heap.size 3 1 v L.length (L.flatMap ienc)
theorem hallsL_len (ds : List GDoor) (h a ring : Nat) : (hallsL ds h a ring).length ≤ h := by
  unfold hallsL; rw [List.length_map]; exact Nat.le_trans (List.length_filter_le _ _) (by simp)
theorem hallsWL_len (H : Int) (ds : List GDoor) (a ring : Int) : (hallsWL H ds a ring).length ≤ 7 := by
  unfold hallsWL
  split
  · rename_i hc
    simp only [ringB, Bool.and_eq_true] at hc
    have h7 := (houseB_spec hc.1.1).2.1
    have := hallsL_len ds H.toNat a.toNat ring.toNat
    omega
  · simp
theorem ringB_spec {H : Int} {ds : List GDoor} {ring : Int} (h : ringB H ds ring = true) : houseB H ds = true ∧ 0 ≤ ring ∧ ring ≤ 4095 := by
  simp only [ringB, Bool.and_eq_true, inB, decide_eq_true_eq] at h
  obtain ⟨h1, h2, h3⟩ := h
  have hn := (houseB_spec h1).2.2.1
  have : 2 ^ ds.length ≤ 2 ^ 12 := Nat.pow_le_pow_right (by omega) hn
  exact ⟨h1, h2, by omega⟩
theorem hallB_spec {H k : Int} (h1 : 1 ≤ H) (h7 : H ≤ 7) (h : hallB H k = true) : 0 ≤ k ∧ k < H := by
  have e : wrap64 (H - 1) = H - 1 := IntWalk.wrap64_in _ ⟨by omega, by omega⟩
  simp only [hallB, e, inB, Bool.and_eq_true, decide_eq_true_eq] at h
  omega
set_option maxRecDepth 100000 in
set_option maxHeartbeats 2000000 in
theorem impl_HallsWith (H : Int) (A : Option Addr) (n c : Nat) (ds : List GDoor) (a ring : Int) (w : World) (hx : Rd w 2 A n (ds.flatMap GDoor.enc)) :
    Calls Try.prog 8 #[.agg #[.int .i64 H, .slice A n c], .int .i64 a, .int .i64 ring] w (OwnL (hallsWL H ds a ring) w) := by
  have hl := Lib.hid (hx.len GDoor.len (by omega))
  obtain ⟨wb, hwb⟩ : ∃ wb, wb = w.alloc (.cells #[.int .i64 H, .slice A n c] 26) := ⟨_, rfl⟩
  obtain ⟨hE, hsb, k0, k1⟩ := box2 w _ _ _ wb hwb
  have HE := Lib.hid hE
  have Hwb := Lib.hid hwb
  have Hk0 := Lib.hid k0
  have Hk1 := Lib.hid k1
  have hbl : w.heap.size < wb.heap.size := by omega
  have hxb := Lib.hid (hx.keep hE)
  clear hE hx hsb k0 k1 hwb
  have cR := Lib.hid (impl_RingOk H A n c ds ring wb hxb.out)
  cases hR : ringB H ds ring
  case false =>
    rw [hR] at cR
    have HF : Hid (hallsWL H ds a ring = []) := by unfold Hid hallsWL; rw [hR]; rfl
    clear hR
    go_enter Try.func8, Try.ntmps8
    go_wp2_with fail
    rw [← Hwb.out]
    refine cR.out.mono ?_
    rintro e w1 ⟨rfl, he1⟩
    have HE1 := Lib.hid he1
    clear he1
    go_wp2_with fail
    go_ret
    exact ⟨_, rfl, HE.out.trans HE1.out, by rw [HF.out]; exact World.ownsRow_nil _ _ _ _⟩
  case true =>
    rw [hR] at cR
    obtain ⟨hB, r0, r1⟩ := ringB_spec hR
    obtain ⟨h1, h7, h12, hT, hok, -⟩ := houseB_spec hB
    have cI := Lib.hid (fun w1 => impl_isHall H A n c a w1)
    cases hA : hallB H a
    case false =>
      rw [hA] at cI
      have HF : Hid (hallsWL H ds a ring = []) := by unfold Hid hallsWL; rw [hR, hA]; rfl
      clear hR hA hB hT hok
      go_enter Try.func8, Try.ntmps8
      go_wp2_with fail
      rw [← Hwb.out]
      refine cR.out.mono ?_
      rintro e w1 ⟨rfl, he1⟩
      have k0 := (he1.cellAt w.heap.size hbl 0).trans Hk0.out
      have k1 := (he1.cellAt w.heap.size hbl 1).trans Hk1.out
      have HE1 := Lib.hid he1
      clear he1
      go_wp2_with fail
      refine (cI.out w1).mono ?_
      rintro e w2 ⟨rfl, he2⟩
      have HE2 := Lib.hid he2
      clear he2 k0 k1
      go_wp2_with fail
      go_ret
      exact ⟨_, rfl, HE.out.trans (HE1.out.trans HE2.out), by rw [HF.out]; exact World.ownsRow_nil _ _ _ _⟩
    case true =>
      rw [hA] at cI
      have HF : Hid (hallsWL H ds a ring = hallsL ds H.toNat a.toNat ring.toNat) := by unfold Hid hallsWL; rw [hR, hA]; rfl
      obtain ⟨a0, a1⟩ := hallB_spec h1 h7 hA
      obtain ⟨h, hh⟩ := Int.eq_ofNat_of_zero_le (show 0 ≤ H by omega)
      obtain ⟨q, hq⟩ := Int.eq_ofNat_of_zero_le a0
      obtain ⟨r, hr⟩ := Int.eq_ofNat_of_zero_le r0
      subst hh hq hr
      have HT := Lib.hid hT
      have cH := Lib.hid (fun w1 he => impl_hallsWith h A n c ds q r w1 (hxb.out.keep he) HT (by omega) (by omega) (by have := hl.out; omega) (by omega) (by omega))
      simp only [Int.toNat_natCast] at HF
      clear hR hA hB hT hok
      go_enter Try.func8, Try.ntmps8
      go_wp2_with fail
      rw [← Hwb.out]
      refine cR.out.mono ?_
      rintro e w1 ⟨rfl, he1⟩
      have k0 := (he1.cellAt w.heap.size hbl 0).trans Hk0.out
      have k1 := (he1.cellAt w.heap.size hbl 1).trans Hk1.out
      have HE1 := Lib.hid he1
      clear he1
      go_wp2_with fail
      refine (cI.out w1).mono ?_
      rintro e w2 ⟨rfl, he2⟩
      have HE2 := Lib.hid (HE1.out.trans he2)
      clear he2 k0 k1
      have k0 := (HE2.out.cellAt w.heap.size hbl 0).trans Hk0.out
      have k1 := (HE2.out.cellAt w.heap.size hbl 1).trans Hk1.out
      go_wp2_with fail
      refine (cH.out w2 HE2.out).mono ?_
      rintro e w3 ⟨v3, rfl, he3, ho3⟩
      have HE3 := Lib.hid (HE.out.trans (HE2.out.trans he3))
      have HO3 := Lib.hid (own_weak (base' := w.heap.size) ho3 (HE.out.trans HE2.out).size)
      clear he3 ho3 k0 k1
      go_wp2_with fail
      go_ret
      exact ⟨_, rfl, HE3.out, by rw [HF.out]; exact HO3.out⟩
end Go.Proofs.Ytfhibjehnoibeaa
/- Contracts of MasterRings and l37Rings; no condition but what stands at each theorem. -/
namespace Go.Proofs.Ytfhibjehnoibeaa
set_option linter.unusedSimpArgs false
set_option linter.unusedVariables false
open Go.RowKit Go.Sort
def fullB (H : Int) (ds : List GDoor) (r : Int) : Bool := (hallsL ds H.toNat 0 r.toNat).length == H.toNat
def mastG (H : Int) (ds : List GDoor) : Nat → List Int → List Int → List Int
  | _, M, [] => M
  | k, M, r :: rs => if ringB H ds r then mastG H ds (k + 1) (if fullB H ds r then M ++ [(k : Int)] else M) rs else []
def mastL (H : Int) (ds : List GDoor) (rings : List Int) : List Int := mastG H ds 0 [] rings
theorem mastG_len (H : Int) (ds : List GDoor) : ∀ (rs : List Int) (k : Nat) (M : List Int), (mastG H ds k M rs).length ≤ M.length + rs.length
  | [], k, M => by simp [mastG]
  | r :: rs, k, M => by
    unfold mastG
    split
    · have := mastG_len H ds rs (k + 1) (if fullB H ds r then M ++ [(k : Int)] else M)
      split at this <;> split <;> simp_all <;> omega
    · simp
theorem mastG_no (H : Int) (ds : List GDoor) : ∀ (rs : List Int) (k : Nat) (M : List Int), rs.all (ringB H ds) = false → mastG H ds k M rs = []
  | [], k, M, h => by simp at h
  | r :: rs, k, M, h => by
    unfold mastG
    cases hr : ringB H ds r with
    | false => rfl
    | true =>
      simp only [if_true]
      exact mastG_no H ds rs (k + 1) _ (by simpa [hr] using h)
def ringsB (H : Int) (ds : List GDoor) (rings : List Int) : Bool := rings.all (ringB H ds) && houseB H ds
/-- All halls are open just if the reference's set is full. -/
theorem full_set {ds : List GDoor} {h r : Nat} (h1 : 1 ≤ h) (hok : ∀ d ∈ ds, doorOk h d = true) : (reached (opened r ds) 0 h == 2 ^ h - 1) = fullB h ds r := by
  have ho := opened_ok hok r
  rw [Bool.eq_iff_iff]
  unfold fullB hallsL
  simp only [Int.toNat_natCast, beq_iff_eq, List.length_map]
  have hl : (((List.range h).filter (reachB (opened r ds) h 0)).length = h) ↔ ∀ k ∈ List.range h, reachB (opened r ds) h 0 k = true := by
    have := List.length_filter_eq_length_iff (p := reachB (opened r ds) h 0) (l := List.range h)
    rw [List.length_range] at this
    exact this
  rw [hl]
  constructor
  · intro e k hk
    have hk' : k < h := by simpa using hk
    rw [← reached_reach (by omega) hk' ho, e, Nat.testBit_two_pow_sub_one]
    simpa using hk'
  · intro hall
    apply Nat.eq_of_testBit_eq
    intro k
    rw [Nat.testBit_two_pow_sub_one]
    by_cases hk : k < h
    · rw [reached_reach (by omega) hk ho, hall k (by simpa using hk)]
      simp [hk]
    · cases hb : (reached (opened r ds) 0 h).testBit k with
      | false => simp [hk]
      | true => have := (reached_sound (by omega) ho h k hb).1; omega
set_option maxRecDepth 100000 in
set_option maxHeartbeats 4000000 in
theorem impl_MasterRings (H : Int) (A : Option Addr) (n c : Nat) (ds : List GDoor) (A1 : Option Addr) (n1 c1 : Nat) (rings : List Int) (w : World) (hx : Rd w 2 A n (ds.flatMap GDoor.enc)) (hx1 : Rd w 1 A1 n1 (rings.flatMap ienc)) (hn1 : n1 ≤ 1048576) :
    Calls Try.prog 10 #[.agg #[.int .i64 H, .slice A n c], .slice A1 n1 c1] w (OwnL (mastL H ds rings) w) := by
  have hl := Lib.hid (hx.len GDoor.len (by omega))
  have hl1 := Lib.hid (hx1.len ienc_len (by omega))
  obtain ⟨wb, hwb⟩ : ∃ wb, wb = w.alloc (.cells #[.int .i64 H, .slice A n c] 26) := ⟨_, rfl⟩
  obtain ⟨hE, hsb, k0, k1⟩ := box2 w _ _ _ wb hwb
  have HE := Lib.hid hE
  have Hwb := Lib.hid hwb
  have Hk0 := Lib.hid k0
  have Hk1 := Lib.hid k1
  have hbl : w.heap.size < wb.heap.size := by omega
  have hxb := Lib.hid (hx.keep hE)
  have hxb1 := Lib.hid (hx1.keep hE)
  clear hE hx hx1 hsb k0 k1 hwb
  obtain ⟨wc, hwc⟩ : ∃ wc, wc = wb.alloc (.cells #[] 3) := ⟨_, rfl⟩
  have HEc : Hid (Ext wb wc) := by unfold Hid; rw [hwc]; exact (Ext.refl wb).alloc _
  have HOc : Hid (wc.ownsRow wb.heap.size 3 1 (.slice (some ⟨wb.heap.size, 0, none⟩) 0 0) 0 []) := by unfold Hid; rw [hwc]; exact own_empty wb wb.heap.size 3 1 (Nat.le_refl _)
  have hsb : wb.heap.size = w.heap.size + 1 := by rw [Hwb.out]; simp
  rw [hsb] at HOc
  have Hwc := Lib.hid hwc
  have Hsb := Lib.hid hsb
  clear hwc hsb
  have hsw := HE.out.size
  go_enter Try.func10, Try.ntmps10
  go_wp2_with fail
  rw [← Hwb.out, ← Hwc.out]
  go_loopw [5, 11] (fun o i wr => ∃ (k : Nat) (M : List Int), k ≤ n1 ∧ i = .int .i64 k ∧ wr.ownsRow (w.heap.size + 1) 3 1 o M.length (M.flatMap ienc) ∧ Hid (mastL H ds rings = mastG H ds k M (rings.drop k)) ∧ Hid (M.length ≤ k) ∧ Ext wb wr) (fun _ i _ => n1 - (intOf i).toNat)
  case atStart => exact ⟨0, [], Nat.zero_le _, rfl, HOc.out, rfl, Nat.zero_le _, HEc.out⟩
  case round =>
    obtain ⟨k, M, hk, rfl, hown, hz, hMk, hb⟩ := hrel
    have hbs := hb.size
    have hMl : M.length ≤ 1048576 := by have := hMk.out; omega
    have HO := Lib.hid hown
    have HB := Lib.hid hb
    by_cases hlt : k < n1
    · obtain ⟨b, off, r, rfl, hbb, hrk, p0⟩ := ienc_at (hxb1.out.keep hb) hlt
      have HD := Lib.hid (drop_cons hrk)
      have cR := Lib.hid (impl_RingOk H A n c ds r wr (hxb.out.keep HB.out))
      have k0 := (HB.out.cellAt w.heap.size hbl 0).trans Hk0.out
      have k1 := (HB.out.cellAt w.heap.size hbl 1).trans Hk1.out
      clear hown hb hrk
      cases hR : ringB H ds r
      case false =>
        rw [hR] at cR
        have HF : Hid (mastL H ds rings = []) := by unfold Hid; rw [hz.out, HD.out, mastG, hR]; rfl
        clear hR
        go_wp2_with fail
        refine cR.out.mono ?_
        rintro e w1 ⟨rfl, he1⟩
        have HE1 := Lib.hid (HB.out.trans he1)
        clear he1 k0 k1
        go_wp2_with fail
        go_ret
        exact ⟨_, rfl, HE.out.trans HE1.out, by rw [HF.out]; exact World.ownsRow_nil _ _ _ _⟩
      case true =>
        rw [hR] at cR
        obtain ⟨hB, r0, r1⟩ := ringB_spec hR
        obtain ⟨h1, h7, h12, hT, hok, -⟩ := houseB_spec hB
        obtain ⟨h, hh⟩ := Int.eq_ofNat_of_zero_le (show 0 ≤ H by omega)
        obtain ⟨q, hq⟩ := Int.eq_ofNat_of_zero_le r0
        subst hh hq
        have HT := Lib.hid hT
        have cH := Lib.hid (fun w1 he => impl_hallsWith h A n c ds 0 q w1 (hxb.out.keep he) HT (by omega) (by omega) (by have := hl.out; omega) (by omega) (by omega))
        have HF : Hid (∀ t, fullB h ds q = t → mastL h ds rings = mastG h ds (k + 1) (if t then M ++ [(k : Int)] else M) (rings.drop (k + 1))) := by
          unfold Hid; intro t ht; rw [hz.out, HD.out, mastG, hR, ht]; rfl
        clear hR hB hT hok
        go_wp2_with fail
        refine cR.out.mono ?_
        rintro e w1 ⟨rfl, he1⟩
        have HO1 := Lib.hid (own_keep HO.out he1)
        have HE1 := Lib.hid (HB.out.trans he1)
        clear he1 k0 k1
        have k0 := (HE1.out.cellAt w.heap.size hbl 0).trans Hk0.out
        have k1 := (HE1.out.cellAt w.heap.size hbl 1).trans Hk1.out
        go_wp2_with fail
        have hlw : wb.heap.size ≤ w1.heap.size := HE1.out.size
        have hcmp : (((hallsL ds h 0 q).length : Int) == (h : Int)) = fullB h ds q := by
          unfold fullB; rw [Bool.eq_iff_iff]; simp only [Int.toNat_natCast, beq_iff_eq]; omega
        have hL7 := hallsL_len ds h 0 q
        cases hF : fullB h ds q
        all_goals rw [hF] at hcmp
        case false =>
          have HM := Lib.hid (HF.out false hF)
          clear hF
          go_region_held3 (fun w' => w'.cell? ⟨w.heap.size, 0, none⟩ = some (.int .i64 (h : Int)) ∧ w'.cell? ⟨w.heap.size, 1, none⟩ = some (.slice A n c)) (go_keep) ((go_at_call 17; refine (cH.out _ (HE1.out.trans ((Ext.refl _).drewN 1))).mono ?_; rintro e w3 ⟨v3, rfl, he3, ho3⟩; obtain ⟨A3, c3, rfl, hnc3⟩ := own_form ho3; have y0 := he3.cellAt w.heap.size (by simp; omega) 0; have y1 := he3.cellAt w.heap.size (by simp; omega) 1))
          have HE3 := Lib.hid (HE1.out.trans (((Ext.refl _).drewN 1).trans he3))
          have HO3 := Lib.hid (own_keep HO1.out (((Ext.refl _).drewN 1).trans he3))
          clear he3 ho3 k0 k1 y0 y1
          go_wp2_with fail
          go_roundw
          case rel => exact ⟨k + 1, M, by omega, by go_num, HO3.out, by unfold Hid; rw [HM.out]; rfl, by have := hMk.out; unfold Hid; omega, HE3.out⟩
          case measure => simp [intOf]; omega
        case true =>
          have HM := Lib.hid (HF.out true hF)
          clear hF
          go_region_held3 (fun w' => w'.cell? ⟨w.heap.size, 0, none⟩ = some (.int .i64 (h : Int)) ∧ w'.cell? ⟨w.heap.size, 1, none⟩ = some (.slice A n c)) (go_keep) ((go_at_call 17; refine (cH.out _ (HE1.out.trans ((Ext.refl _).drewN 1))).mono ?_; rintro e w3 ⟨v3, rfl, he3, ho3⟩; obtain ⟨A3, c3, rfl, hnc3⟩ := own_form ho3; have y0 := he3.cellAt w.heap.size (by simp; omega) 0; have y1 := he3.cellAt w.heap.size (by simp; omega) 1))
          have HE3 := Lib.hid (HE1.out.trans (((Ext.refl _).drewN 1).trans he3))
          have HO3 := Lib.hid (own_keep HO1.out (((Ext.refl _).drewN 1).trans he3))
          have hs3 := HE3.out.size
          have hsb := Hsb.out
          clear he3 ho3 k0 k1 y0 y1
          go_wp2_with (at_builtin; refine append1 ei_I rfl _ _ rfl (w.heap.size + 1) w3 _ _ M.length _ (by rfl) HO3.out [.int .i64 k] (by rfl) rfl (one_int1 _) (by omega) (by omega) ?_; intro v' w6 ho6 he6; have HO6 := Lib.hid ho6; have HE6 := Lib.hid (he6 wb HE3.out (by omega)); clear ho6 he6)
          go_roundw
          case rel => exact ⟨k + 1, M ++ [(k : Int)], by omega, by go_num, by have := HO6.out; simpa [ienc] using this, by unfold Hid; rw [HM.out]; rfl, by have := hMk.out; unfold Hid; simp; omega, HE6.out⟩
          case measure => simp [intOf]; omega
    · obtain rfl : k = n1 := by omega
      clear hown hb
      go_wp2_with fail
      go_ret
      have hM : mastL H ds rings = M := by rw [hz.out, drop_nil (by rw [hl1.out]; omega)]; rfl
      exact ⟨_, rfl, HE.out.trans HB.out, by rw [hM]; exact own_weak HO.out (by omega)⟩
end Go.Proofs.Ytfhibjehnoibeaa
/- Contracts of the reference's l37Rings and MasterRings; no condition but what stands at each theorem. -/
namespace Go.Proofs.Ytfhibjehnoibeaa
set_option linter.unusedSimpArgs false
set_option linter.unusedVariables false
open Go.RowKit Go.Sort
theorem wrap_pow1 {h : Nat} (h7 : h ≤ 7) : wrap64 (wrap64 ((2 : Int) ^ h) - 1) = ((2 ^ h - 1 : Nat) : Int) := by
  have h8 : h = 0 ∨ h = 1 ∨ h = 2 ∨ h = 3 ∨ h = 4 ∨ h = 5 ∨ h = 6 ∨ h = 7 := by omega
  rcases h8 with rfl | rfl | rfl | rfl | rfl | rfl | rfl | rfl <;> (simp [wrap64])
theorem cmp_pow1 {h S : Nat} (h7 : h ≤ 7) : ((S : Int) == wrap64 (wrap64 ((2 : Int) ^ h) - 1)) = (S == 2 ^ h - 1) := by
  rw [wrap_pow1 h7, Bool.eq_iff_iff]
  generalize 2 ^ h - 1 = z
  simp only [beq_iff_eq]
  omega
end Go.Proofs.Ytfhibjehnoibeaa
/- Least lists of indices: the first in the order of length and then of the alphabet, and the best of all bit sets, are the same; no condition but what stands at each theorem. -/
namespace Go.Proofs.Ytfhibjehnoibeaa
set_option linter.unusedSimpArgs false
set_option linter.unusedVariables false
def lessL : List Int → List Int → Bool
  | [], [] => false
  | [], _ :: _ => true
  | _ :: _, [] => false
  | x :: a, y :: b => if x == y then lessL a b else decide (x < y)
theorem lessL_irrefl : ∀ a : List Int, lessL a a = false
  | [] => rfl
  | x :: a => by simp [lessL, lessL_irrefl a]
theorem lessL_trans : ∀ {a b c : List Int}, lessL a b = true → lessL b c = true → lessL a c = true
  | [], [], _, h, _ => by simp [lessL] at h
  | [], _ :: _, [], _, h => by simp [lessL] at h
  | [], _ :: _, _ :: _, _, _ => rfl
  | _ :: _, [], _, h, _ => by simp [lessL] at h
  | _ :: _, _ :: _, [], _, h => by simp [lessL] at h
  | x :: a, y :: b, z :: c, h1, h2 => by
    simp only [lessL] at h1 h2 ⊢
    by_cases hxy : x = y
    · subst hxy
      by_cases hyz : x = z
      · subst hyz
        simp at h1 h2 ⊢
        exact lessL_trans h1 h2
      · simpa [hyz] using h2
    · by_cases hyz : y = z
      · subst hyz; simp [hxy] at h1 ⊢; exact h1
      · simp [hxy] at h1
        simp [hyz] at h2
        have : x ≠ z := by omega
        simp [this]; omega
theorem lessL_total : ∀ (a b : List Int), a = b ∨ lessL a b = true ∨ lessL b a = true
  | [], [] => .inl rfl
  | [], _ :: _ => .inr (.inl rfl)
  | _ :: _, [] => .inr (.inr rfl)
  | x :: a, y :: b => by
    by_cases h : x = y
    · subst h
      rcases lessL_total a b with h | h | h
      · exact .inl (by rw [h])
      · exact .inr (.inl (by simp [lessL, h]))
      · exact .inr (.inr (by simp [lessL, h]))
    · rcases Int.lt_or_gt_of_ne h with h1 | h1
      · exact .inr (.inl (by simp [lessL, h, h1]))
      · exact .inr (.inr (by simp [lessL, Ne.symm h]; omega))
/-- a comes before b: shorter, or of the same length and less. -/
def ltr (a b : List Int) : Bool := decide (a.length < b.length) || (a.length == b.length && lessL a b)
theorem ltr_trans {a b c : List Int} (h1 : ltr a b = true) (h2 : ltr b c = true) : ltr a c = true := by
  simp only [ltr, Bool.or_eq_true, Bool.and_eq_true, decide_eq_true_eq, beq_iff_eq] at *
  rcases h1 with h1 | h1 <;> rcases h2 with h2 | h2
  · left; omega
  · left; omega
  · left; omega
  · right; exact ⟨by omega, lessL_trans h1.2 h2.2⟩
theorem ltr_asymm {a b : List Int} (h1 : ltr a b = true) (h2 : ltr b a = true) : False := by
  have := ltr_trans h1 h2
  simp [ltr, lessL_irrefl] at this
theorem ltr_total (a b : List Int) : a = b ∨ ltr a b = true ∨ ltr b a = true := by
  simp only [ltr, Bool.or_eq_true, Bool.and_eq_true, decide_eq_true_eq, beq_iff_eq]
  rcases Nat.lt_trichotomy a.length b.length with h | h | h
  · exact .inr (.inl (.inl h))
  · rcases lessL_total a b with h1 | h1 | h1
    · exact .inl h1
    · exact .inr (.inl (.inr ⟨h, h1⟩))
    · exact .inr (.inr (.inr ⟨h.symm, h1⟩))
  · exact .inr (.inr (.inl h))
def better (best l : List Int) : Bool := best.isEmpty || ltr l best
def bestStep (p : List Int → Bool) (best l : List Int) : List Int := if p l && better best l then l else best
/-- best is the least of the lists of B for which p is true. -/
def Least (p : List Int → Bool) (B : List (List Int)) (best : List Int) : Prop :=
  (best = [] ∧ ∀ x ∈ B, p x = false) ∨ (best ≠ [] ∧ best ∈ B ∧ p best = true ∧ ∀ x ∈ B, p x = true → x = best ∨ ltr best x = true)
theorem least_step {p : List Int → Bool} {B : List (List Int)} {best l : List Int} (h : Least p B best) (hl : l ≠ []) : Least p (B ++ [l]) (bestStep p best l) := by
  unfold bestStep
  cases hp : p l with
  | false =>
    simp only [Bool.false_and, Bool.false_eq_true, if_false]
    rcases h with ⟨h1, h2⟩ | ⟨h1, h2, h3, h4⟩
    · exact .inl ⟨h1, fun x hx => by rcases List.mem_append.1 hx with hx | hx; exact h2 x hx; simp at hx; rw [hx]; exact hp⟩
    · exact .inr ⟨h1, by simp [h2], h3, fun x hx hpx => by rcases List.mem_append.1 hx with hx | hx; exact h4 x hx hpx; simp at hx; rw [hx, hp] at hpx; cases hpx⟩
  | true =>
    simp only [Bool.true_and]
    rcases h with ⟨h1, h2⟩ | ⟨h1, h2, h3, h4⟩
    · subst h1
      simp only [better, List.isEmpty_nil, Bool.true_or, if_true]
      exact .inr ⟨hl, by simp, hp, fun x hx hpx => by rcases List.mem_append.1 hx with hx | hx; rw [h2 x hx] at hpx; cases hpx; simp at hx; exact .inl hx⟩
    · have hb : better best l = ltr l best := by cases best with | nil => exact absurd rfl h1 | cons _ _ => rfl
      rw [hb]
      cases hlt : ltr l best with
      | true =>
        simp only [if_true]
        refine .inr ⟨hl, by simp, hp, fun x hx hpx => ?_⟩
        rcases List.mem_append.1 hx with hx | hx
        · rcases h4 x hx hpx with h5 | h5
          · right; rw [h5]; exact hlt
          · right; exact ltr_trans hlt h5
        · simp at hx; exact .inl hx
      | false =>
        simp only [Bool.false_eq_true, if_false]
        refine .inr ⟨h1, by simp [h2], h3, fun x hx hpx => ?_⟩
        rcases List.mem_append.1 hx with hx | hx
        · exact h4 x hx hpx
        · simp at hx
          subst hx
          rcases ltr_total x best with h5 | h5 | h5
          · exact .inl h5
          · rw [h5] at hlt; cases hlt
          · exact .inr h5
theorem least_unique {p : List Int → Bool} {B : List (List Int)} {a b : List Int} (h : Least p B a) (k : Least p B b) : a = b := by
  rcases h with ⟨h1, h2⟩ | ⟨h1, h2, h3, h4⟩ <;> rcases k with ⟨k1, k2⟩ | ⟨k1, k2, k3, k4⟩
  · rw [h1, k1]
  · rw [h2 b k2] at k3; cases k3
  · rw [k2 a h2] at h3; cases h3
  · rcases h4 b k2 k3 with h5 | h5
    · exact h5.symm
    · rcases k4 a h2 h3 with k5 | k5
      · exact k5
      · exact (ltr_asymm h5 k5).elim
theorem least_find {p : List Int → Bool} : ∀ {A : List (List Int)}, A.Pairwise (fun a b => ltr a b = true) → (∀ a ∈ A, a ≠ []) → Least p A ((A.find? p).getD [])
  | [], _, _ => .inl ⟨rfl, fun x hx => by simp at hx⟩
  | a :: A, hp, hne => by
    rw [List.pairwise_cons] at hp
    cases hpa : p a with
    | true =>
      rw [List.find?_cons_of_pos hpa]
      exact .inr ⟨hne a (by simp), by simp, hpa, fun x hx _ => by rcases List.mem_cons.1 hx with hx | hx; exact .inl hx; exact .inr (hp.1 x hx)⟩
    | false =>
      rw [List.find?_cons_of_neg (by rw [hpa]; decide)]
      rcases least_find (p := p) hp.2 (fun x hx => hne x (by simp [hx])) with ⟨h1, h2⟩ | ⟨h1, h2, h3, h4⟩
      · exact .inl ⟨h1, fun x hx => by rcases List.mem_cons.1 hx with hx | hx; rw [hx]; exact hpa; exact h2 x hx⟩
      · exact .inr ⟨h1, by simp [h2], h3, fun x hx hpx => by rcases List.mem_cons.1 hx with hx | hx; rw [hx, hpa] at hpx; cases hpx; exact h4 x hx hpx⟩
theorem least_fold (p : List Int → Bool) : ∀ (C B : List (List Int)) (best : List Int), (∀ x ∈ C, x ≠ []) → Least p B best → Least p (B ++ C) (C.foldl (bestStep p) best)
  | [], B, best, _, h => by simpa using h
  | l :: C, B, best, hne, h => by
    have := least_fold p C (B ++ [l]) _ (fun x hx => hne x (by simp [hx])) (least_step h (hne l (by simp)))
    simpa using this
theorem least_congr {p : List Int → Bool} {A B : List (List Int)} (h : ∀ x, x ∈ A ↔ x ∈ B) {best : List Int} (k : Least p A best) : Least p B best := by
  rcases k with ⟨h1, h2⟩ | ⟨h1, h2, h3, h4⟩
  · exact .inl ⟨h1, fun x hx => h2 x ((h x).2 hx)⟩
  · exact .inr ⟨h1, (h _).1 h2, h3, fun x hx => h4 x ((h x).2 hx)⟩
/-- The program's lists: ascending, of a length, beginning so. -/
def fromN (b : List Int) : Nat := match b.getLast? with | none => 0 | some x => (x + 1).toNat
def lsts (n : Nat) : Nat → List Int → List (List Int)
  | 0, b => [b]
  | m + 1, b => (List.range' (fromN b) (n - fromN b)).flatMap fun (k : Nat) => lsts n m (b ++ [(k : Int)])
def allL (n : Nat) : List (List Int) := (List.range' 1 n).flatMap fun m => lsts n m []
def bitsL (n s : Nat) : List Int := ((List.range n).filter fun k => (s >>> k) % 2 == 1).map fun (k : Nat) => (k : Int)
def setsL (n : Nat) : List (List Int) := (List.range' 1 (2 ^ n - 1)).map (bitsL n)
theorem sets_all {n : Nat} (h : n ≤ 6) : (allL n).Pairwise (fun a b => ltr a b = true) ∧ (∀ a ∈ allL n, a ≠ []) ∧ (∀ x ∈ allL n, x ∈ setsL n) ∧ (∀ x ∈ setsL n, x ∈ allL n) := by
  have h7 : n = 0 ∨ n = 1 ∨ n = 2 ∨ n = 3 ∨ n = 4 ∨ n = 5 ∨ n = 6 := by omega
  rcases h7 with rfl | rfl | rfl | rfl | rfl | rfl | rfl <;> exact ⟨by decide +kernel, by decide +kernel, by decide +kernel, by decide +kernel⟩
theorem best_eq {n : Nat} (h : n ≤ 6) (p : List Int → Bool) : (setsL n).foldl (bestStep p) [] = ((allL n).find? p).getD [] := by
  obtain ⟨h1, h2, h3, h4⟩ := sets_all h
  refine least_unique (p := p) (B := setsL n) ?_ (least_congr (fun x => ⟨h3 x, h4 x⟩) (least_find h1 h2))
  have := least_fold p (setsL n) [] [] (fun x hx => h2 x (h4 x hx)) (.inl ⟨rfl, fun x hx => by simp at hx⟩)
  simpa using this
theorem lsts_find (n m : Nat) (b : List Int) (p : List Int → Bool) : (lsts n (m + 1) b).find? p = (List.range' (fromN b) (n - fromN b)).findSome? fun (k : Nat) => (lsts n m (b ++ [(k : Int)])).find? p := by
  rw [lsts, List.find?_flatMap]
theorem allL_find (n : Nat) (p : List Int → Bool) : (allL n).find? p = (List.range' 1 n).findSome? fun m => (lsts n m []).find? p := by
  rw [allL, List.find?_flatMap]
end Go.Proofs.Ytfhibjehnoibeaa
/- Contract of firstList at a test that has captured two variables; no condition but what stands at each theorem. -/
namespace Go.Proofs.Ytfhibjehnoibeaa
set_option linter.unusedSimpArgs false
set_option linter.unusedVariables false
open Go.RowKit Go.Sort
/-- What a search hands back: nil, or a list. -/
def FLPost (o : Option (List Int)) (w : World) (e : Ending) (w' : World) : Prop :=
  (o = none ∧ e = .returned (.slice none 0 0) ∧ Ext w w') ∨ (∃ L g c, o = some L ∧ e = .returned (.slice (some ⟨g, 0, none⟩) L.length c) ∧ Ext w w' ∧ w'.ownsRow w.heap.size 3 1 (.slice (some ⟨g, 0, none⟩) L.length c) L.length (L.flatMap ienc))
/-- Function F, called with a list of indices below n and what it has captured, tells p. -/
def Tst2 (F : FuncId) (q1 q2 : Value) (n : Nat) (p : List Int → Bool) (W0 : World) : Prop :=
  ∀ (w' : World) (A : Option Addr) (k c : Nat) (b : List Int), Ext W0 w' → Rd w' 1 A k (b.flatMap ienc) → (∀ x ∈ b, 0 ≤ x ∧ x < n) → k ≤ 6 → Calls Try.prog F #[.slice A k c, q1, q2] w' fun e w'' => e = .returned (.bool (p b)) ∧ Ext w' w''
theorem fromN_nil : fromN [] = 0 := rfl
theorem fromN_last {b : List Int} {k : Nat} {x : Int} (h : b.length = k + 1) (hx : b[k]? = some x) : fromN b = (x + 1).toNat := by
  unfold fromN
  rw [List.getLast?_eq_getElem?, h, show k + 1 - 1 = k by omega, hx]
set_option maxRecDepth 100000 in
set_option maxHeartbeats 2000000 in
theorem impl_firstList2 (q1 q2 : Value) (n : Nat) (hn6 : n ≤ 6) (p : List Int → Bool) (W0 : World) (hT : Tst2 16 q1 q2 n p W0) :
    ∀ (m : Nat) (b : List Int) (A : Option Addr) (k3 c3 : Nat) (w : World), Ext W0 w → Rd w 1 A k3 (b.flatMap ienc) → k3 ≤ c3 → Hid (A = none → c3 = 0) → Hid (∀ x ∈ b, 0 ≤ x ∧ x < n) → k3 + m ≤ 6 →
      Calls Try.prog 18 #[.int .i64 n, .slice A k3 c3, .int .i64 m, .func (.func 16) #[] #[q1, q2]] w (FLPost ((lsts n m b).find? p) w) := by
  intro m
  induction m with
  | zero =>
    intro b A k3 c3 w hW hx hc3 hnc hib hk6
    have hl := hx.len ienc_len (by omega)
    have hf : (lsts n 0 b).find? p = if p b then some b else none := by
      simp only [lsts]; cases hp : p b <;> simp [hp]
    rw [hf]
    have HL := Lib.hid hl
    have HT := Lib.hid (hT w A k3 c3 b hW hx hib.out (by omega))
    clear hl hf
    cases hp : p b
    case false =>
      simp only [Bool.false_eq_true, if_false]
      rw [hp] at HT
      have HP := Lib.hid hp
      clear hp hT
      go_enter Try.func18, Try.ntmps18
      go_wp2_with (refine HT.out.mono ?_; rintro e w1 ⟨rfl, hb1⟩)
      go_ret
      exact .inl ⟨rfl, rfl, hb1⟩
    case true =>
      simp only [if_true]
      rw [hp] at HT
      have HP := Lib.hid hp
      have HX := Lib.hid hx
      clear hp hT hx
      go_enter Try.func18, Try.ntmps18
      go_wp2_with (first | (refine HT.out.mono ?_; rintro e w1 ⟨rfl, hb1⟩; have HB1 := Lib.hid hb1; have HE := Lib.hid (own_empty w1 w1.heap.size 3 1 (Nat.le_refl _)); have HX1 := Lib.hid ((HX.out.keep hb1).alloc (.cells #[] 3)); have HEx := Lib.hid ((Ext.refl w1).alloc (.cells #[] 3)); clear hb1) | (at_builtin; refine appendRdN ei_I rfl _ _ rfl w1.heap.size _ _ 0 [] (by rfl) HE.out A k3 c3 (b.flatMap ienc) (by rfl) HX1.out hnc.out (one_ienc _) (by omega) (by simp) (by intro h; cases h) ?_; intro g c w2 ho he; have Ho := Lib.hid ho; have He := Lib.hid (he w1 HEx.out (Nat.le_refl _)); clear ho he))
      go_ret
      have ho := Ho.out
      rw [Nat.zero_add, List.nil_append] at ho
      refine .inr ⟨b, g, c, rfl, ?_, HB1.out.trans He.out, ?_⟩
      · rw [HL.out]; rfl
      · rw [HL.out]; exact own_weak ho HB1.out.size
  | succ m ih =>
    intro b A k3 c3 w hW hx hc3 hnc hib hk6
    have hl := hx.len ienc_len (by omega)
    rw [show ((m + 1 : Nat) : Int) = (m : Int) + 1 from by push_cast; rfl]
    have hfr : Hid (fromN b ≤ n ∧ (lsts n (m + 1) b).find? p = (List.range' (fromN b) (n - fromN b)).findSome? fun (k : Nat) => (lsts n m (b ++ [(k : Int)])).find? p) := by
      refine ⟨?_, lsts_find n m b p⟩
      cases hk : b.length with
      | zero => rw [List.eq_nil_of_length_eq_zero hk, fromN_nil]; omega
      | succ j =>
        obtain ⟨x, hx'⟩ : ∃ x, b[j]? = some x := ⟨b[j], List.getElem?_eq_getElem (by omega)⟩
        rw [fromN_last hk hx']
        have := hib.out x (List.mem_of_getElem? hx')
        omega
    have HL := Lib.hid hl
    have IH := Lib.hid ih
    have HT := Lib.hid hT
    clear ih hT hl
    have hcut := run_cut3 (P := Try.prog) (t := 27) (e := 3) (s := 1) Try.underlying27 (fun _ => by kernel_rfl) hx hc3
    have b2 : ((m : Int) + 1 == 0) = false := by rw [beq_eq_false_iff_ne]; omega
    by_cases hk0 : k3 = 0
    · subst hk0
      have hb0 : b = [] := List.eq_nil_of_length_eq_zero HL.out
      have hf0 : Hid (fromN b = 0) := by unfold Hid; rw [hb0]; rfl
      clear hb0
      go_enter Try.func18, Try.ntmps18
      go_wp2_with fail
      go_loopw [10] (fun i wr => ∃ k : Nat, k ≤ n ∧ fromN b ≤ k ∧ i = .int .i64 k ∧ Hid ((lsts n (m + 1) b).find? p = (List.range' k (n - k)).findSome? fun (k : Nat) => (lsts n m (b ++ [(k : Int)])).find? p) ∧ Ext w wr) (fun i _ => n - (intOf i).toNat)
      case atStart => exact ⟨fromN b, hfr.out.1, Nat.le_refl _, by rw [hf0.out]; rfl, hfr.out.2, Ext.refl _⟩
      case round =>
        obtain ⟨k, hk, hfk, rfl, hz, hb⟩ := hrel
        by_cases hlt : k < n
        · have HX := Lib.hid (hx.keep hb)
          have HB := Lib.hid hb
          clear hb
          have hr' : Hid (List.range' k (n - k) = k :: List.range' (k + 1) (n - (k + 1))) := by
            unfold Hid
            have : n - k = (n - (k + 1)) + 1 := by omega
            rw [this, List.range'_succ]
          go_wp2_with (at_builtin; refine appendCap ei_I rfl _ _ rfl wr _ _ _ (b.flatMap ienc) (by rfl) HX.out [.int .i64 k] (by rfl) rfl (by intro u hu; simp at hu; subst hu; rfl) (by omega) ?_; intro v4 w4 ho4 he4; obtain ⟨A4, c4, rfl, hnc4⟩ := own_form ho4; have Ho4 := Lib.hid ho4; have He4 := Lib.hid he4; clear ho4 he4)
          have hap : b.flatMap ienc ++ [.int .i64 (k : Int)] = (b ++ [(k : Int)]).flatMap ienc := by rw [List.flatMap_append]; rfl
          have hrd4 := Rd.of_own Ho4.out
          rw [hap] at hrd4
          have HCall := Lib.hid (IH.out (b ++ [(k : Int)]) A4 _ c4 w4 (hW.trans (HB.out.trans He4.out)) hrd4 hnc4 (Lib.hid (own_nilcap Ho4.out)) (by unfold Hid; intro x hx; rcases List.mem_append.1 hx with hx | hx; exact hib.out x hx; simp at hx; subst hx; omega) (by omega))
          clear hap hrd4
          refine HCall.out.mono ?_
          clear HCall
          rintro e w5 (⟨hF, rfl, he5⟩ | ⟨L, g, c, hF, rfl, he5, ho5⟩)
          · have HE5 := Lib.hid (HB.out.trans (He4.out.trans he5))
            have HF := Lib.hid hF
            clear hF he5
            go_wp2_with fail
            go_roundw
            case rel => exact ⟨k + 1, by omega, by omega, by go_num, by unfold Hid; rw [hz.out, hr'.out, List.findSome?_cons, HF.out], HE5.out⟩
            case measure => simp [intOf]; omega
          · have HE5 := Lib.hid (HB.out.trans (He4.out.trans he5))
            have HF := Lib.hid hF
            have hs4 := (HB.out.trans He4.out).size
            have HO5 := Lib.hid (own_weak ho5 hs4)
            clear hF he5 ho5
            go_wp2_with fail
            go_ret
            exact .inr ⟨L, g, c, by rw [hz.out, hr'.out, List.findSome?_cons, HF.out], rfl, HE5.out, HO5.out⟩
        · obtain rfl : k = n := by omega
          go_wp2_with fail
          go_ret
          exact .inl ⟨by rw [hz.out, Nat.sub_self]; rfl, rfl, hb⟩
    · obtain ⟨bb, off, x, rfl, hbs, hxk, h0⟩ := ienc_at hx (k := k3 - 1) (by omega)
      have hxb := hib.out x (List.mem_of_getElem? hxk)
      obtain ⟨q, rfl⟩ := Int.eq_ofNat_of_zero_le hxb.1
      have hq : q < n := by omega
      have hf0 : Hid (fromN b = q + 1) := by unfold Hid; rw [fromN_last (k := k3 - 1) (by rw [HL.out]; omega) hxk]; omega
      clear hxk hxb
      have hk3p : 0 < k3 := by omega
      have d1 : decide (0 < k3) = true := by simp; omega
      have d2 : decide ((0 : Int) < (k3 : Int)) = true := by simp; omega
      go_enter Try.func18, Try.ntmps18
      go_wp2_with fail
      clear h0
      go_loopw [10] (fun i wr => ∃ k : Nat, k ≤ n ∧ fromN b ≤ k ∧ i = .int .i64 k ∧ Hid ((lsts n (m + 1) b).find? p = (List.range' k (n - k)).findSome? fun (k : Nat) => (lsts n m (b ++ [(k : Int)])).find? p) ∧ Ext w wr) (fun i _ => n - (intOf i).toNat)
      case atStart => exact ⟨fromN b, hfr.out.1, Nat.le_refl _, by rw [hf0.out]; go_num, hfr.out.2, Ext.refl _⟩
      case round =>
        obtain ⟨k, hk, hfk, rfl, hz, hb⟩ := hrel
        by_cases hlt : k < n
        · have HX := Lib.hid (hx.keep hb)
          have HB := Lib.hid hb
          clear hb
          have hr' : Hid (List.range' k (n - k) = k :: List.range' (k + 1) (n - (k + 1))) := by
            unfold Hid
            have : n - k = (n - (k + 1)) + 1 := by omega
            rw [this, List.range'_succ]
          go_wp2_with (at_builtin; refine appendCap ei_I rfl _ _ rfl wr _ _ _ (b.flatMap ienc) (by rfl) HX.out [.int .i64 k] (by rfl) rfl (by intro u hu; simp at hu; subst hu; rfl) (by omega) ?_; intro v4 w4 ho4 he4; obtain ⟨A4, c4, rfl, hnc4⟩ := own_form ho4; have Ho4 := Lib.hid ho4; have He4 := Lib.hid he4; clear ho4 he4)
          have hap : b.flatMap ienc ++ [.int .i64 (k : Int)] = (b ++ [(k : Int)]).flatMap ienc := by rw [List.flatMap_append]; rfl
          have hrd4 := Rd.of_own Ho4.out
          rw [hap] at hrd4
          have HCall := Lib.hid (IH.out (b ++ [(k : Int)]) A4 _ c4 w4 (hW.trans (HB.out.trans He4.out)) hrd4 hnc4 (Lib.hid (own_nilcap Ho4.out)) (by unfold Hid; intro x hx; rcases List.mem_append.1 hx with hx | hx; exact hib.out x hx; simp at hx; subst hx; omega) (by omega))
          clear hap hrd4
          refine HCall.out.mono ?_
          clear HCall
          rintro e w5 (⟨hF, rfl, he5⟩ | ⟨L, g, c, hF, rfl, he5, ho5⟩)
          · have HE5 := Lib.hid (HB.out.trans (He4.out.trans he5))
            have HF := Lib.hid hF
            clear hF he5
            go_wp2_with fail
            go_roundw
            case rel => exact ⟨k + 1, by omega, by omega, by go_num, by unfold Hid; rw [hz.out, hr'.out, List.findSome?_cons, HF.out], HE5.out⟩
            case measure => simp [intOf]; omega
          · have HE5 := Lib.hid (HB.out.trans (He4.out.trans he5))
            have HF := Lib.hid hF
            have hs4 := (HB.out.trans He4.out).size
            have HO5 := Lib.hid (own_weak ho5 hs4)
            clear hF he5 ho5
            go_wp2_with fail
            go_ret
            exact .inr ⟨L, g, c, by rw [hz.out, hr'.out, List.findSome?_cons, HF.out], rfl, HE5.out, HO5.out⟩
        · obtain rfl : k = n := by omega
          go_wp2_with fail
          go_ret
          exact .inl ⟨by rw [hz.out, Nat.sub_self]; rfl, rfl, hb⟩
end Go.Proofs.Ytfhibjehnoibeaa
