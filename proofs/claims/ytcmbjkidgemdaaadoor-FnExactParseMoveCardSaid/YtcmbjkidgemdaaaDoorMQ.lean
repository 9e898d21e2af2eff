/- Texts of moves and the splitting at one byte, in plain Lean; no condition. -/
import Derived.Test.YtcmbjkidgemdaaaDoorMP
import Derived.Lib.SplitLaws
namespace Go.Proofs.YtcmbjkidgemdaaaDoor
set_option linter.unusedSimpArgs false
set_option linter.unusedVariables false
open Go.RowKit Go.Sort
/-- A text cut at each byte c. -/
def cuts (c : UInt8) : List UInt8 → List (List UInt8)
  | [] => [[]]
  | b :: r => if b = c then [] :: cuts c r else
    match cuts c r with
    | [] => [[b]]
    | h :: t => (b :: h) :: t
theorem cuts_ne (c : UInt8) : ∀ l, cuts c l ≠ []
  | [] => by simp [cuts]
  | b :: r => by
    unfold cuts
    split
    · simp
    · split <;> simp
theorem cuts_hit (c : UInt8) (r : List UInt8) : cuts c (c :: r) = [] :: cuts c r := by rw [cuts, if_pos rfl]
theorem cuts_go {b c : UInt8} (h : b ≠ c) {r : List UInt8} {x : List UInt8} {t : List (List UInt8)} (e : cuts c r = x :: t) : cuts c (b :: r) = (b :: x) :: t := by rw [cuts, if_neg h, e]
theorem splitK_cuts (c : UInt8) : ∀ l : List UInt8, Lib.splitK [c] 0 (Lib.count l [c]) l = cuts c l
  | [] => by
    rw [Lib.count_miss (by simp [Lib.index])]; rfl
  | b :: l => by
    by_cases h : b = c
    · subst h
      have hix : Lib.index (b :: l) [b] = ((0 : Nat) : Int) := by rw [Lib.index]; simp [List.isPrefixOf]
      rw [cuts_hit, Lib.count_cons_eq, Nat.add_comm, Lib.splitK, hix, ← splitK_cuts b l]
      simp
    · have hp : ([c] : List UInt8).isPrefixOf (b :: l) = false := by simp [List.isPrefixOf, Ne.symm h]
      have hix : Lib.index (b :: l) [c] = if Lib.index l [c] == -1 then -1 else Lib.index l [c] + 1 := by rw [Lib.index, hp]; simp
      have ih := splitK_cuts c l
      rw [Lib.count_cons_ne b c l h]
      by_cases hm : Lib.index l [c] = -1
      · rw [Lib.count_miss hm] at ih ⊢
        rw [cuts_go h ih.symm]
        rfl
      · have hge := Lib.index_ge l [c]
        obtain ⟨j, hj⟩ : ∃ j : Nat, Lib.index l [c] = j := ⟨(Lib.index l [c]).toNat, by omega⟩
        have hix' : Lib.index (b :: l) [c] = ((j + 1 : Nat) : Int) := by rw [hix, if_neg (fun e => hm (beq_iff_eq.1 e)), hj]; omega
        rw [Lib.count_hit (by simp) hj, Nat.add_comm] at ih ⊢
        rw [Lib.splitK, hj, if_neg (by first | (simp; done) | (simp; omega))] at ih
        rw [Lib.splitK, hix', if_neg (by first | (simp; done) | (simp; omega))]
        rw [cuts_go h ih.symm]
        simp
theorem splitB_cuts (c : UInt8) (x : ByteArray) : (Lib.splitB ⟨#[c]⟩ 0 (Lib.countB x ⟨#[c]⟩) x).map (·.data.toList) = cuts c x.data.toList := by
  rw [Lib.splitB_data]
  exact splitK_cuts c _
def cfree (c : UInt8) (l : List UInt8) : Prop := ∀ b ∈ l, b ≠ c
theorem cuts_word {c : UInt8} : ∀ {l : List UInt8}, cfree c l → cuts c l = [l]
  | [], _ => rfl
  | b :: l, h => by
    have ih := cuts_word (c := c) (l := l) (fun x hx => h x (List.mem_cons_of_mem _ hx))
    rw [cuts_go (h b (List.mem_cons_self ..)) ih]
theorem cuts_app {c : UInt8} : ∀ {l : List UInt8} (r : List UInt8), cfree c l → cuts c (l ++ c :: r) = l :: cuts c r
  | [], r, _ => by rw [List.nil_append, cuts_hit]
  | b :: l, r, h => by
    have ih := cuts_app (c := c) (l := l) r (fun x hx => h x (List.mem_cons_of_mem _ hx))
    rw [List.cons_append, cuts_go (h b (List.mem_cons_self ..)) ih]
theorem cuts_join {c : UInt8} : ∀ (fs : List (List UInt8)) (f : List UInt8), (∀ g ∈ f :: fs, cfree c g) → cuts c (Lib.join (f :: fs) [c]) = f :: fs
  | [], f, h => by
    rw [Lib.join_cons, show Lib.joinTail [c] ([] : List (List UInt8)) = [] from rfl, List.append_nil]
    exact cuts_word (h f (List.mem_cons_self ..))
  | g :: fs, f, h => by
    have ih := cuts_join (c := c) fs g (fun x hx => h x (List.mem_cons_of_mem _ hx))
    rw [Lib.join_cons, show Lib.joinTail [c] (g :: fs) = c :: (g ++ Lib.joinTail [c] fs) by simp [Lib.joinTail], cuts_app _ (h f (List.mem_cons_self ..)), ← Lib.join_cons, ih]
theorem cuts_len (c : UInt8) : ∀ (L : List UInt8), ∀ l ∈ cuts c L, l.length ≤ L.length
  | [], l, h => by
    rw [show cuts c [] = [[]] from rfl, List.mem_singleton] at h
    subst h; simp
  | b :: r, l, h => by
    by_cases hb : b = c
    · subst hb
      rw [cuts_hit] at h
      rcases List.mem_cons.1 h with rfl | h
      · simp
      · have := cuts_len b r l h; simp; omega
    · have ih := cuts_len c r
      cases e : cuts c r with
      | nil => exact absurd e (cuts_ne c r)
      | cons x t =>
        rw [cuts_go hb e] at h
        rw [e] at ih
        rcases List.mem_cons.1 h with rfl | h
        · have := ih x (List.mem_cons_self ..); simp; omega
        · have := ih l (List.mem_cons_of_mem _ h); simp; omega
/-- The move is one that has a text. -/
def mvB (m : GMove) : Bool := ((inB m.o 0 20 && inB m.t 0 20) && inB m.f 0 20) && inB m.s 0 20
def mvW (m : GMove) : List (List UInt8) := [109, 111, 118, 101] :: [m.o, m.t, m.f, m.s].map fun x => (itext x).data.toList
theorem in20 {x : Int} (h : inB x 0 20 = true) : 0 ≤ x ∧ x ≤ 20 := by simpa [inB] using h
theorem mv_cases {m : GMove} (h : mvB m = true) : inB m.o 0 20 = true ∧ inB m.t 0 20 = true ∧ inB m.f 0 20 = true ∧ inB m.s 0 20 = true := by
  unfold mvB at h
  simp only [Bool.and_eq_true] at h
  exact ⟨h.1.1.1, h.1.1.2, h.1.2, h.2⟩
theorem mvF_ok : ∀ (xs : List Int) (s : ByteArray), (∀ x ∈ xs, inB x 0 20 = true) → mvF s xs = numsF s xs
  | [], s, _ => rfl
  | x :: r, s, h => by rw [mvF, if_pos (h x (List.mem_cons_self ..)), numsF, mvF_ok r _ (fun y hy => h y (List.mem_cons_of_mem _ hy))]
theorem mvF_bad : ∀ (xs : List Int) (s : ByteArray), (∃ x ∈ xs, inB x 0 20 = false) → mvF s xs = ByteArray.empty
  | [], s, h => by obtain ⟨x, hx, _⟩ := h; cases hx
  | x :: r, s, h => by
    cases hx : inB x 0 20
    · rw [mvF, if_neg (by rw [hx]; decide)]
    · rw [mvF, if_pos hx]
      refine mvF_bad r _ ?_
      obtain ⟨y, hy, hyb⟩ := h
      rcases List.mem_cons.1 hy with rfl | hy
      · rw [hx] at hyb; cases hyb
      · exact ⟨y, hy, hyb⟩
theorem moveT_jb {m : GMove} (h : mvB m = true) : moveT m = jb (mvW m) := by
  obtain ⟨h0, h1, h2, h3⟩ := mv_cases h
  unfold moveT
  rw [mvF_ok _ _ (by intro x hx; simp at hx; rcases hx with rfl | rfl | rfl | rfl <;> assumption), numsF_eq]
  unfold jb mvW
  rw [Lib.join_cons]
theorem moveT_bad {m : GMove} (h : mvB m = false) : moveT m = ByteArray.empty := by
  refine mvF_bad _ _ ?_
  unfold mvB at h
  simp only [Bool.and_eq_false_iff] at h
  rcases h with ((h | h) | h) | h
  · exact ⟨_, by simp, h⟩
  · exact ⟨_, by simp, h⟩
  · exact ⟨_, by simp, h⟩
  · exact ⟨_, by simp, h⟩
theorem mvW_good {m : GMove} (h : mvB m = true) : ∀ l ∈ mvW m, l ≠ [] ∧ bfree l := by
  obtain ⟨h0, h1, h2, h3⟩ := mv_cases h
  intro l hl
  unfold mvW at hl
  rcases List.mem_cons.1 hl with rfl | hl
  · unfold bfree; decide
  · obtain ⟨v, hv, rfl⟩ := List.mem_map.1 hl
    simp at hv
    rcases hv with rfl | rfl | rfl | rfl <;> exact itext_good (in20 (by assumption)).1
theorem mvW_len (m : GMove) : (mvW m).length = 5 := rfl
/-- A move's text, cut at the blanks, gives its words. -/
theorem mv_cuts {m : GMove} (h : mvB m = true) : cuts 32 (moveT m).data.toList = mvW m := by
  rw [moveT_jb h]
  have hg := mvW_good h
  unfold jb
  simp only
  exact cuts_join _ _ (fun g hg' => (hg g hg').2)
theorem mv_fields {m : GMove} (h : mvB m = true) : fieldsOf (moveT m) = mvW m := by
  rw [moveT_jb h]
  have hg := mvW_good h
  unfold fieldsOf jb
  simp only
  exact wd_join hg
theorem mv_inj {m m' : GMove} (h : mvB m = true) (h' : mvB m' = true) (e : moveT m = moveT m') : m = m' := by
  have hw : mvW m = mvW m' := by rw [← mv_cuts h, ← mv_cuts h', e]
  obtain ⟨h0, h1, h2, h3⟩ := mv_cases h
  obtain ⟨k0, k1, k2, k3⟩ := mv_cases h'
  unfold mvW at hw
  simp only [List.map_cons, List.map_nil, List.cons.injEq, and_true, true_and] at hw
  obtain ⟨o, t, f, s⟩ := m
  obtain ⟨o', t', f', s'⟩ := m'
  simp only at hw h0 h1 h2 h3 k0 k1 k2 k3
  rw [itext_inj (in20 h0).1 (in20 k0).1 hw.1, itext_inj (in20 h1).1 (in20 k1).1 hw.2.1, itext_inj (in20 h2).1 (in20 k2).1 hw.2.2.1, itext_inj (in20 h3).1 (in20 k3).1 hw.2.2.2]
/-- Where the words are a move's, the numbers read from the words are the move's. -/
theorem mv_nums {m : GMove} {fs : List (List UInt8)} {n0 n1 n2 n3 : Int} (h : mvB m = true) (e : fs = mvW m) (h0 : ∀ f, fs[1]? = some f → NumOf f n0) (h1 : ∀ f, fs[2]? = some f → NumOf f n1) (h2 : ∀ f, fs[3]? = some f → NumOf f n2) (h3 : ∀ f, fs[4]? = some f → NumOf f n3) : m = ⟨n0, n1, n2, n3⟩ := by
  obtain ⟨k0, k1, k2, k3⟩ := mv_cases h
  subst e
  have g0 := in20 k0
  have g1 := in20 k1
  have g2 := in20 k2
  have g3 := in20 k3
  obtain ⟨o, t, f, s⟩ := m
  simp only at g0 g1 g2 g3
  rw [num_is g0.1 (by omega) (h0 _ rfl), num_is g1.1 (by omega) (h1 _ rfl), num_is g2.1 (by omega) (h2 _ rfl), num_is g3.1 (by omega) (h3 _ rfl)]
theorem moveT_ne {m : GMove} (h : mvB m = true) : moveT m ≠ ByteArray.empty := by
  intro e
  have := mv_cuts h
  rw [e] at this
  have := congrArg List.length this
  simp [cuts, mvW] at this
/-- What ParseMove answers. -/
def PM (x : ByteArray) (m : GMove) (b : Bool) : Prop :=
  (b = true ∧ mvB m = true ∧ x = moveT m) ∨ (b = false ∧ m = ⟨0, 0, 0, 0⟩ ∧ ∀ m', mvB m' = true → x ≠ moveT m')
theorem pm_eq {x : ByteArray} {m m' : GMove} {b b' : Bool} (h : PM x m b) (h' : PM x m' b') : m = m' ∧ b = b' := by
  rcases h with ⟨hb, h1, h2⟩ | ⟨hb, h1, h2⟩ <;> rcases h' with ⟨hb', h1', h2'⟩ | ⟨hb', h1', h2'⟩
  · exact ⟨mv_inj h1 h1' (h2.symm.trans h2'), by rw [hb, hb']⟩
  · exact absurd h2 (h2' m h1)
  · exact absurd h2' (h2 m' h1')
  · exact ⟨by rw [h1, h1'], by rw [hb, hb']⟩
/-- Printable bytes. -/
def prL (l : List UInt8) : Prop := ∀ b ∈ l, 32 ≤ b.toNat ∧ b.toNat ≤ 126
theorem prB_iff (x : ByteArray) : prB x = true ↔ prL x.data.toList := by
  unfold prB prL
  rw [List.all_eq_true]
  constructor
  · intro h b hb; simpa using h b hb
  · intro h b hb; simpa using h b hb
theorem pr_tail : ∀ (fs : List (List UInt8)), (∀ f ∈ fs, prL f) → prL (Lib.joinTail [32] fs)
  | [], _ => fun b hb => by simp [Lib.joinTail] at hb
  | f :: fs, h => fun b hb => by
    have h1 := pr_tail fs (fun g hg => h g (List.mem_cons_of_mem _ hg))
    rw [show Lib.joinTail [32] (f :: fs) = 32 :: (f ++ Lib.joinTail [32] fs) by simp [Lib.joinTail]] at hb
    rcases List.mem_cons.1 hb with rfl | hb
    · decide
    · rcases List.mem_append.1 hb with hb | hb
      · exact h f (List.mem_cons_self ..) b hb
      · exact h1 b hb
theorem pr_join {fs : List (List UInt8)} (h : ∀ f ∈ fs, prL f) : prL (Lib.join fs [32]) := by
  cases fs with
  | nil => intro b hb; simp [Lib.join] at hb
  | cons f fs =>
    rw [Lib.join_cons]
    intro b hb
    rcases List.mem_append.1 hb with hb | hb
    · exact h f (List.mem_cons_self ..) b hb
    · exact pr_tail fs (fun g hg => h g (List.mem_cons_of_mem _ hg)) b hb
theorem itext_pr {x : Int} (h : 0 ≤ x) : prL (itext x).data.toList := by
  obtain ⟨n, rfl⟩ := Int.eq_ofNat_of_zero_le h
  rw [itext_list]
  intro b hb
  have := dd_dig n b hb
  omega
theorem mvW_pr {m : GMove} (h : mvB m = true) : ∀ l ∈ mvW m, prL l := by
  obtain ⟨h0, h1, h2, h3⟩ := mv_cases h
  intro l hl
  unfold mvW at hl
  rcases List.mem_cons.1 hl with rfl | hl
  · unfold prL; decide
  · obtain ⟨v, hv, rfl⟩ := List.mem_map.1 hl
    simp at hv
    rcases hv with rfl | rfl | rfl | rfl <;> exact itext_pr (in20 (by assumption)).1
theorem itext_len4 {x : Int} (h0 : 0 ≤ x) (h1 : x ≤ 1000) : (itext x).data.toList.length ≤ 4 := by
  obtain ⟨n, rfl⟩ := Int.eq_ofNat_of_zero_le h0
  rw [itext_list]
  exact dd_len4 (by omega)
theorem mk_size0 (f : List UInt8) : (⟨f.toArray⟩ : ByteArray).size = f.length := by simp [ByteArray.size]
theorem moveT_size (m : GMove) : (moveT m).size ≤ 24 := by
  cases h : mvB m
  · rw [moveT_bad h]; decide
  · obtain ⟨h0, h1, h2, h3⟩ := mv_cases h
    rw [moveT_jb h]
    unfold jb mvW
    rw [Lib.join_cons]
    have l0 := itext_len4 (in20 h0).1 (by have := (in20 h0).2; omega)
    have l1 := itext_len4 (in20 h1).1 (by have := (in20 h1).2; omega)
    have l2 := itext_len4 (in20 h2).1 (by have := (in20 h2).2; omega)
    have l3 := itext_len4 (in20 h3).1 (by have := (in20 h3).2; omega)
    have e : ∀ a b c d : List UInt8, Lib.joinTail [32] [a, b, c, d] = 32 :: (a ++ 32 :: (b ++ 32 :: (c ++ 32 :: d))) := fun a b c d => by simp [Lib.joinTail]
    rw [List.map_cons, List.map_cons, List.map_cons, List.map_cons, List.map_nil, e, mk_size0]
    simp only [List.length_append, List.length_cons, List.length_nil]
    omega
/-- A move's text can be split into fields. -/
theorem mv_sp {m : GMove} (h : mvB m = true) : spOk (moveT m) = true := by
  unfold spOk
  rw [mv_fields h, mvW_len, Bool.and_eq_true, Bool.and_eq_true]
  refine ⟨⟨?_, ?_⟩, by decide⟩
  · have := moveT_size m; simp; omega
  · rw [prB_iff, moveT_jb h]
    unfold jb
    simp only
    exact pr_join (mvW_pr h)
end Go.Proofs.YtcmbjkidgemdaaaDoor
