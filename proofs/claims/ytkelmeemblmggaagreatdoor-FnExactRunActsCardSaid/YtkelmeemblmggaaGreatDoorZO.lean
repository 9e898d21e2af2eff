/- Texts of one proof, laid one behind the other (MQ, MW, SP1, SP2); no condition but what stands at each theorem. -/
import Derived.Lib.SplitLaws
import Derived.Test.YtkelmeemblmggaaGreatDoorZJ
import Derived.Test.YtkelmeemblmggaaGreatDoorZK
import Derived.Test.YtkelmeemblmggaaGreatDoorZL
import Derived.Test.YtkelmeemblmggaaGreatDoorZM
import Derived.Test.YtkelmeemblmggaaGreatDoorZN
/- Texts of moves and the splitting at one byte, in plain Lean; no condition. -/
namespace Go.Proofs.YtkelmeemblmggaaGreatDoor
set_option linter.unusedSimpArgs false
set_option linter.unusedVariables false
open Go.RowKit Go.Sort
/-- A text cut at each byte c. -/
def cuts (c : UInt8) : List UInt8 → List (List UInt8)
  | [] => [[]]
  | b :: r => if b = c then [] :: cuts c r else
    match cuts c r with
    | [] => [[b]]
    | h :: t => (b :: h) :: t
theorem cuts_ne (c : UInt8) : ∀ l, cuts c l ≠ []
  | [] => by simp [cuts]
  | b :: r => by
    unfold cuts
    split
    · simp
    · split <;> simp
theorem cuts_hit (c : UInt8) (r : List UInt8) : cuts c (c :: r) = [] :: cuts c r := by rw [cuts, if_pos rfl]
theorem cuts_go {b c : UInt8} (h : b ≠ c) {r : List UInt8} {x : List UInt8} {t : List (List UInt8)} (e : cuts c r = x :: t) : cuts c (b :: r) = (b :: x) :: t := by rw [cuts, if_neg h, e]
theorem splitK_cuts (c : UInt8) : ∀ l : List UInt8, Lib.splitK [c] 0 (Lib.count l [c]) l = cuts c l
  | [] => by
    rw [Lib.count_miss (by simp [Lib.index])]; rfl
  | b :: l => by
    by_cases h : b = c
    · subst h
      have hix : Lib.index (b :: l) [b] = ((0 : Nat) : Int) := by rw [Lib.index]; simp [List.isPrefixOf]
      rw [cuts_hit, Lib.count_cons_eq, Nat.add_comm, Lib.splitK, hix, ← splitK_cuts b l]
      simp
    · have hp : ([c] : List UInt8).isPrefixOf (b :: l) = false := by simp [List.isPrefixOf, Ne.symm h]
      have hix : Lib.index (b :: l) [c] = if Lib.index l [c] == -1 then -1 else Lib.index l [c] + 1 := by rw [Lib.index, hp]; simp
      have ih := splitK_cuts c l
      rw [Lib.count_cons_ne b c l h]
      by_cases hm : Lib.index l [c] = -1
      · rw [Lib.count_miss hm] at ih ⊢
        rw [cuts_go h ih.symm]
        rfl
      · have hge := Lib.index_ge l [c]
        obtain ⟨j, hj⟩ : ∃ j : Nat, Lib.index l [c] = j := ⟨(Lib.index l [c]).toNat, by omega⟩
        have hix' : Lib.index (b :: l) [c] = ((j + 1 : Nat) : Int) := by rw [hix, if_neg (fun e => hm (beq_iff_eq.1 e)), hj]; omega
        rw [Lib.count_hit (by simp) hj, Nat.add_comm] at ih ⊢
        rw [Lib.splitK, hj, if_neg (by first | (simp; done) | (simp; omega))] at ih
        rw [Lib.splitK, hix', if_neg (by first | (simp; done) | (simp; omega))]
        rw [cuts_go h ih.symm]
        simp
theorem splitB_cuts (c : UInt8) (x : ByteArray) : (Lib.splitB ⟨#[c]⟩ 0 (Lib.countB x ⟨#[c]⟩) x).map (·.data.toList) = cuts c x.data.toList := by
  rw [Lib.splitB_data]
  exact splitK_cuts c _
def cfree (c : UInt8) (l : List UInt8) : Prop := ∀ b ∈ l, b ≠ c
theorem cuts_word {c : UInt8} : ∀ {l : List UInt8}, cfree c l → cuts c l = [l]
  | [], _ => rfl
  | b :: l, h => by
    have ih := cuts_word (c := c) (l := l) (fun x hx => h x (List.mem_cons_of_mem _ hx))
    rw [cuts_go (h b (List.mem_cons_self ..)) ih]
theorem cuts_app {c : UInt8} : ∀ {l : List UInt8} (r : List UInt8), cfree c l → cuts c (l ++ c :: r) = l :: cuts c r
  | [], r, _ => by rw [List.nil_append, cuts_hit]
  | b :: l, r, h => by
    have ih := cuts_app (c := c) (l := l) r (fun x hx => h x (List.mem_cons_of_mem _ hx))
    rw [List.cons_append, cuts_go (h b (List.mem_cons_self ..)) ih]
theorem cuts_join {c : UInt8} : ∀ (fs : List (List UInt8)) (f : List UInt8), (∀ g ∈ f :: fs, cfree c g) → cuts c (Lib.join (f :: fs) [c]) = f :: fs
  | [], f, h => by
    rw [Lib.join_cons, show Lib.joinTail [c] ([] : List (List UInt8)) = [] from rfl, List.append_nil]
    exact cuts_word (h f (List.mem_cons_self ..))
  | g :: fs, f, h => by
    have ih := cuts_join (c := c) fs g (fun x hx => h x (List.mem_cons_of_mem _ hx))
    rw [Lib.join_cons, show Lib.joinTail [c] (g :: fs) = c :: (g ++ Lib.joinTail [c] fs) by simp [Lib.joinTail], cuts_app _ (h f (List.mem_cons_self ..)), ← Lib.join_cons, ih]
theorem cuts_len (c : UInt8) : ∀ (L : List UInt8), ∀ l ∈ cuts c L, l.length ≤ L.length
  | [], l, h => by
    rw [show cuts c [] = [[]] from rfl, List.mem_singleton] at h
    subst h; simp
  | b :: r, l, h => by
    by_cases hb : b = c
    · subst hb
      rw [cuts_hit] at h
      rcases List.mem_cons.1 h with rfl | h
      · simp
      · have := cuts_len b r l h; simp; omega
    · have ih := cuts_len c r
      cases e : cuts c r with
      | nil => exact absurd e (cuts_ne c r)
      | cons x t =>
        rw [cuts_go hb e] at h
        rw [e] at ih
        rcases List.mem_cons.1 h with rfl | h
        · have := ih x (List.mem_cons_self ..); simp; omega
        · have := ih l (List.mem_cons_of_mem _ h); simp; omega
/-- The move is one that has a text. -/
def mvB (m : GMove) : Bool := ((inB m.o 0 20 && inB m.t 0 20) && inB m.f 0 20) && inB m.s 0 20
def mvW (m : GMove) : List (List UInt8) := [109, 111, 118, 101] :: [m.o, m.t, m.f, m.s].map fun x => (itext x).data.toList
theorem in20 {x : Int} (h : inB x 0 20 = true) : 0 ≤ x ∧ x ≤ 20 := by simpa [inB] using h
theorem mv_cases {m : GMove} (h : mvB m = true) : inB m.o 0 20 = true ∧ inB m.t 0 20 = true ∧ inB m.f 0 20 = true ∧ inB m.s 0 20 = true := by
  unfold mvB at h
  simp only [Bool.and_eq_true] at h
  exact ⟨h.1.1.1, h.1.1.2, h.1.2, h.2⟩
theorem mvF_ok : ∀ (xs : List Int) (s : ByteArray), (∀ x ∈ xs, inB x 0 20 = true) → mvF s xs = numsF s xs
  | [], s, _ => rfl
  | x :: r, s, h => by rw [mvF, if_pos (h x (List.mem_cons_self ..)), numsF, mvF_ok r _ (fun y hy => h y (List.mem_cons_of_mem _ hy))]
theorem mvF_bad : ∀ (xs : List Int) (s : ByteArray), (∃ x ∈ xs, inB x 0 20 = false) → mvF s xs = ByteArray.empty
  | [], s, h => by obtain ⟨x, hx, _⟩ := h; cases hx
  | x :: r, s, h => by
    cases hx : inB x 0 20
    · rw [mvF, if_neg (by rw [hx]; decide)]
    · rw [mvF, if_pos hx]
      refine mvF_bad r _ ?_
      obtain ⟨y, hy, hyb⟩ := h
      rcases List.mem_cons.1 hy with rfl | hy
      · rw [hx] at hyb; cases hyb
      · exact ⟨y, hy, hyb⟩
theorem moveT_jb {m : GMove} (h : mvB m = true) : moveT m = jb (mvW m) := by
  obtain ⟨h0, h1, h2, h3⟩ := mv_cases h
  unfold moveT
  rw [mvF_ok _ _ (by intro x hx; simp at hx; rcases hx with rfl | rfl | rfl | rfl <;> assumption), numsF_eq]
  unfold jb mvW
  rw [Lib.join_cons]
theorem moveT_bad {m : GMove} (h : mvB m = false) : moveT m = ByteArray.empty := by
  refine mvF_bad _ _ ?_
  unfold mvB at h
  simp only [Bool.and_eq_false_iff] at h
  rcases h with ((h | h) | h) | h
  · exact ⟨_, by simp, h⟩
  · exact ⟨_, by simp, h⟩
  · exact ⟨_, by simp, h⟩
  · exact ⟨_, by simp, h⟩
theorem mvW_good {m : GMove} (h : mvB m = true) : ∀ l ∈ mvW m, l ≠ [] ∧ bfree l := by
  obtain ⟨h0, h1, h2, h3⟩ := mv_cases h
  intro l hl
  unfold mvW at hl
  rcases List.mem_cons.1 hl with rfl | hl
  · unfold bfree; decide
  · obtain ⟨v, hv, rfl⟩ := List.mem_map.1 hl
    simp at hv
    rcases hv with rfl | rfl | rfl | rfl <;> exact itext_good (in20 (by assumption)).1
theorem mvW_len (m : GMove) : (mvW m).length = 5 := rfl
/-- A move's text, cut at the blanks, gives its words. -/
theorem mv_cuts {m : GMove} (h : mvB m = true) : cuts 32 (moveT m).data.toList = mvW m := by
  rw [moveT_jb h]
  have hg := mvW_good h
  unfold jb
  simp only
  exact cuts_join _ _ (fun g hg' => (hg g hg').2)
theorem mv_fields {m : GMove} (h : mvB m = true) : fieldsOf (moveT m) = mvW m := by
  rw [moveT_jb h]
  have hg := mvW_good h
  unfold fieldsOf jb
  simp only
  exact wd_join hg
theorem mv_inj {m m' : GMove} (h : mvB m = true) (h' : mvB m' = true) (e : moveT m = moveT m') : m = m' := by
  have hw : mvW m = mvW m' := by rw [← mv_cuts h, ← mv_cuts h', e]
  obtain ⟨h0, h1, h2, h3⟩ := mv_cases h
  obtain ⟨k0, k1, k2, k3⟩ := mv_cases h'
  unfold mvW at hw
  simp only [List.map_cons, List.map_nil, List.cons.injEq, and_true, true_and] at hw
  obtain ⟨o, t, f, s⟩ := m
  obtain ⟨o', t', f', s'⟩ := m'
  simp only at hw h0 h1 h2 h3 k0 k1 k2 k3
  rw [itext_inj (in20 h0).1 (in20 k0).1 hw.1, itext_inj (in20 h1).1 (in20 k1).1 hw.2.1, itext_inj (in20 h2).1 (in20 k2).1 hw.2.2.1, itext_inj (in20 h3).1 (in20 k3).1 hw.2.2.2]
/-- Where the words are a move's, the numbers read from the words are the move's. -/
theorem mv_nums {m : GMove} {fs : List (List UInt8)} {n0 n1 n2 n3 : Int} (h : mvB m = true) (e : fs = mvW m) (h0 : ∀ f, fs[1]? = some f → NumOf f n0) (h1 : ∀ f, fs[2]? = some f → NumOf f n1) (h2 : ∀ f, fs[3]? = some f → NumOf f n2) (h3 : ∀ f, fs[4]? = some f → NumOf f n3) : m = ⟨n0, n1, n2, n3⟩ := by
  obtain ⟨k0, k1, k2, k3⟩ := mv_cases h
  subst e
  have g0 := in20 k0
  have g1 := in20 k1
  have g2 := in20 k2
  have g3 := in20 k3
  obtain ⟨o, t, f, s⟩ := m
  simp only at g0 g1 g2 g3
  rw [num_is g0.1 (by omega) (h0 _ rfl), num_is g1.1 (by omega) (h1 _ rfl), num_is g2.1 (by omega) (h2 _ rfl), num_is g3.1 (by omega) (h3 _ rfl)]
theorem moveT_ne {m : GMove} (h : mvB m = true) : moveT m ≠ ByteArray.empty := by
  intro e
  have := mv_cuts h
  rw [e] at this
  have := congrArg List.length this
  simp [cuts, mvW] at this
/-- What ParseMove answers. -/
def PM (x : ByteArray) (m : GMove) (b : Bool) : Prop :=
  (b = true ∧ mvB m = true ∧ x = moveT m) ∨ (b = false ∧ m = ⟨0, 0, 0, 0⟩ ∧ ∀ m', mvB m' = true → x ≠ moveT m')
theorem pm_eq {x : ByteArray} {m m' : GMove} {b b' : Bool} (h : PM x m b) (h' : PM x m' b') : m = m' ∧ b = b' := by
  rcases h with ⟨hb, h1, h2⟩ | ⟨hb, h1, h2⟩ <;> rcases h' with ⟨hb', h1', h2'⟩ | ⟨hb', h1', h2'⟩
  · exact ⟨mv_inj h1 h1' (h2.symm.trans h2'), by rw [hb, hb']⟩
  · exact absurd h2 (h2' m h1)
  · exact absurd h2' (h2 m' h1')
  · exact ⟨by rw [h1, h1'], by rw [hb, hb']⟩
/-- Printable bytes. -/
def prL (l : List UInt8) : Prop := ∀ b ∈ l, 32 ≤ b.toNat ∧ b.toNat ≤ 126
theorem prB_iff (x : ByteArray) : prB x = true ↔ prL x.data.toList := by
  unfold prB prL
  rw [List.all_eq_true]
  constructor
  · intro h b hb; simpa using h b hb
  · intro h b hb; simpa using h b hb
theorem pr_tail : ∀ (fs : List (List UInt8)), (∀ f ∈ fs, prL f) → prL (Lib.joinTail [32] fs)
  | [], _ => fun b hb => by simp [Lib.joinTail] at hb
  | f :: fs, h => fun b hb => by
    have h1 := pr_tail fs (fun g hg => h g (List.mem_cons_of_mem _ hg))
    rw [show Lib.joinTail [32] (f :: fs) = 32 :: (f ++ Lib.joinTail [32] fs) by simp [Lib.joinTail]] at hb
    rcases List.mem_cons.1 hb with rfl | hb
    · decide
    · rcases List.mem_append.1 hb with hb | hb
      · exact h f (List.mem_cons_self ..) b hb
      · exact h1 b hb
theorem pr_join {fs : List (List UInt8)} (h : ∀ f ∈ fs, prL f) : prL (Lib.join fs [32]) := by
  cases fs with
  | nil => intro b hb; simp [Lib.join] at hb
  | cons f fs =>
    rw [Lib.join_cons]
    intro b hb
    rcases List.mem_append.1 hb with hb | hb
    · exact h f (List.mem_cons_self ..) b hb
    · exact pr_tail fs (fun g hg => h g (List.mem_cons_of_mem _ hg)) b hb
theorem itext_pr {x : Int} (h : 0 ≤ x) : prL (itext x).data.toList := by
  obtain ⟨n, rfl⟩ := Int.eq_ofNat_of_zero_le h
  rw [itext_list]
  intro b hb
  have := dd_dig n b hb
  omega
theorem mvW_pr {m : GMove} (h : mvB m = true) : ∀ l ∈ mvW m, prL l := by
  obtain ⟨h0, h1, h2, h3⟩ := mv_cases h
  intro l hl
  unfold mvW at hl
  rcases List.mem_cons.1 hl with rfl | hl
  · unfold prL; decide
  · obtain ⟨v, hv, rfl⟩ := List.mem_map.1 hl
    simp at hv
    rcases hv with rfl | rfl | rfl | rfl <;> exact itext_pr (in20 (by assumption)).1
theorem itext_len4 {x : Int} (h0 : 0 ≤ x) (h1 : x ≤ 1000) : (itext x).data.toList.length ≤ 4 := by
  obtain ⟨n, rfl⟩ := Int.eq_ofNat_of_zero_le h0
  rw [itext_list]
  exact dd_len4 (by omega)
theorem mk_size0 (f : List UInt8) : (⟨f.toArray⟩ : ByteArray).size = f.length := by simp [ByteArray.size]
theorem moveT_size (m : GMove) : (moveT m).size ≤ 24 := by
  cases h : mvB m
  · rw [moveT_bad h]; decide
  · obtain ⟨h0, h1, h2, h3⟩ := mv_cases h
    rw [moveT_jb h]
    unfold jb mvW
    rw [Lib.join_cons]
    have l0 := itext_len4 (in20 h0).1 (by have := (in20 h0).2; omega)
    have l1 := itext_len4 (in20 h1).1 (by have := (in20 h1).2; omega)
    have l2 := itext_len4 (in20 h2).1 (by have := (in20 h2).2; omega)
    have l3 := itext_len4 (in20 h3).1 (by have := (in20 h3).2; omega)
    have e : ∀ a b c d : List UInt8, Lib.joinTail [32] [a, b, c, d] = 32 :: (a ++ 32 :: (b ++ 32 :: (c ++ 32 :: d))) := fun a b c d => by simp [Lib.joinTail]
    rw [List.map_cons, List.map_cons, List.map_cons, List.map_cons, List.map_nil, e, mk_size0]
    simp only [List.length_append, List.length_cons, List.length_nil]
    omega
/-- A move's text can be split into fields. -/
theorem mv_sp {m : GMove} (h : mvB m = true) : spOk (moveT m) = true := by
  unfold spOk
  rw [mv_fields h, mvW_len, Bool.and_eq_true, Bool.and_eq_true]
  refine ⟨⟨?_, ?_⟩, by decide⟩
  · have := moveT_size m; simp; omega
  · rw [prB_iff, moveT_jb h]
    unfold jb
    simp only
    exact pr_join (mvW_pr h)
end Go.Proofs.YtkelmeemblmggaaGreatDoor
/- Entries appended, night moves, audits, acts and runs of a museum in plain Lean; no condition. -/
namespace Go.Proofs.YtkelmeemblmggaaGreatDoor
set_option linter.unusedSimpArgs false
set_option linter.unusedVariables false
open Go.RowKit Go.Sort
/-- The seal that the next entry hangs on. -/
def lastS (rs : List GEntry) : Int := match rs.getLast? with
  | none => 1
  | some e => e.s
def lateB (rs : List GEntry) (mo : Int) : Bool := match rs.getLast? with
  | none => true
  | some e => decide (e.m ≤ mo)
def appB (rs : List GEntry) (mo : Int) (x : ByteArray) : Bool := sealedB rs && (!decide (rs.length = 30) && (decide (0 ≤ sealB (lastS rs) mo x) && lateB rs mo))
def appE (rs : List GEntry) (mo : Int) (x : ByteArray) (h : x.size ≤ 9223372036854775807) : GEntry := ⟨mo, x, sealB (lastS rs) mo x, h⟩
def appL (rs : List GEntry) (mo : Int) (x : ByteArray) (h : x.size ≤ 9223372036854775807) : List GEntry := if appB rs mo x then rs ++ [appE rs mo x h] else rs
theorem last_at {rs : List GEntry} {k : Nat} {e : GEntry} (hk : rs.length = k + 1) (he : rs[k]? = some e) : rs.getLast? = some e := by
  rw [List.getLast?_eq_getElem?, hk]; exact he
theorem lastS_nil : lastS [] = 1 := rfl
theorem lastS_at {rs : List GEntry} {k : Nat} {e : GEntry} (hk : rs.length = k + 1) (he : rs[k]? = some e) : lastS rs = e.s := by
  unfold lastS; rw [last_at hk he]
theorem lateB_at {rs : List GEntry} {k : Nat} {e : GEntry} (hk : rs.length = k + 1) (he : rs[k]? = some e) (mo : Int) : lateB rs mo = decide (e.m ≤ mo) := by
  unfold lateB; rw [last_at hk he]
theorem moveT_h (m : GMove) : (moveT m).size ≤ 9223372036854775807 := by have := moveT_size m; omega
def nightB (m : GMuseum) (x : GMove) : Bool := museumB m && (canMoveB m.H m.ds m.ps m.gs x && appB m.rs m.d (moveT x))
def nightM (m : GMuseum) (x : GMove) : GMuseum := if nightB m x then { m with ps := m.ps.set x.o.toNat x.t, rs := m.rs ++ [appE m.rs m.d (moveT x) (moveT_h x)] } else m
open Classical in
noncomputable def parseM (x : ByteArray) : GMove × Bool := if h : ∃ m, mvB m = true ∧ x = moveT m then (h.choose, true) else (⟨0, 0, 0, 0⟩, false)
theorem parseM_PM (x : ByteArray) : PM x (parseM x).1 (parseM x).2 := by
  unfold parseM
  split
  · rename_i h
    exact .inl ⟨rfl, h.choose_spec.1, h.choose_spec.2⟩
  · rename_i h
    exact .inr ⟨rfl, rfl, fun m' h1 h2 => h ⟨m', h1, h2⟩⟩
theorem parseM_of {x : ByteArray} {m : GMove} {b : Bool} (h : PM x m b) : parseM x = (m, b) := by
  obtain ⟨h1, h2⟩ := pm_eq (parseM_PM x) h
  exact Prod.ext h1 h2
theorem parseM_text {m : GMove} (h : mvB m = true) : parseM (moveT m) = (m, true) := parseM_of (.inl ⟨rfl, h, rfl⟩)
noncomputable def movesL (rs : List GEntry) : List GMove := rs.map fun e => (parseM e.x).1
noncomputable def auditB (m : GMuseum) : Bool := museumB m && ((m.rs.all fun e => (parseM e.x).2) && ((replayL m.H m.ds m.fs (movesL m.rs)).2 && decide ((replayL m.H m.ds m.fs (movesL m.rs)).1 = m.ps)))
noncomputable def fraudI (m : GMuseum) : Int := if auditB m then -1 else if brokenI m.rs = -1 then m.rs.length else brokenI m.rs
def b01 (b : Bool) : Int := if b then 1 else 0
noncomputable def actN (m : GMuseum) (a : GAct) : Int :=
  if museumB m && acOk a then
    if a.k = 1 then b01 (guardB m a.a a.b) else if a.k = 2 then b01 (nightB m ⟨a.a, a.b, a.c, a.d⟩) else if a.k = 3 then b01 (daysB m a.a) else if a.k = 4 then b01 (auditB m)
    else if a.a < m.ps.length then m.ps.getD a.a.toNat 0 else -1
  else -1
def actM (m : GMuseum) (a : GAct) : GMuseum :=
  if museumB m && acOk a then
    if a.k = 1 then guardM m a.a a.b else if a.k = 2 then nightM m ⟨a.a, a.b, a.c, a.d⟩ else if a.k = 3 then daysM m a.a else m
  else m
noncomputable def runF : GMuseum → List GAct → List Int → GMuseum × List Int
  | m, [], l => (m, l)
  | m, a :: r, l => runF (actM m a) r (l ++ [actN m a])
def runB (m : GMuseum) (acts : List GAct) : Bool := museumB m && decide (acts.length ≤ 40)
noncomputable def runM (m : GMuseum) (acts : List GAct) : GMuseum := if runB m acts then (runF m acts []).1 else m
noncomputable def runL (m : GMuseum) (acts : List GAct) : List Int := if runB m acts then (runF m acts []).2 else []
def entT (e : GEntry) : ByteArray := itext e.m ++ sp1 ++ e.x ++ sp1 ++ itext e.s
/-- The words objects, guards and day. -/
def wObj : ByteArray := ⟨#[111, 98, 106, 101, 99, 116, 115]⟩
def wGua : ByteArray := ⟨#[103, 117, 97, 114, 100, 115]⟩
def wDay : ByteArray := ⟨#[100, 97, 121]⟩
def fmtL (m : GMuseum) : List ByteArray := if museumB m then [numsF wObj m.ps, numsF wGua m.gs, numsF wDay [m.d]] ++ m.rs.map entT else []
/- The broken entry of a longer record. -/
theorem brokF_snoc : ∀ (rs : List GEntry) (s : Int) (p : Option Int) (k : Nat) (e : GEntry), brokF s p k (rs ++ [e]) = if brokF s p k rs = -1 then brokF ((rs.getLast?.map (·.s)).getD s) ((rs.getLast?.map (·.m)).or p) (k + rs.length) [e] else brokF s p k rs
  | [], s, p, k, e => rfl
  | x :: r, s, p, k, e => by
    rw [List.cons_append]
    conv => lhs; rw [brokF]
    conv => rhs; rw [brokF]
    split
    · rw [if_neg (by omega)]
    · rw [brokF_snoc r x.s (some x.m) (k + 1) e]
      split
      · cases r with
        | nil => simp
        | cons y r =>
          rw [List.getLast?_cons_cons]
          cases hl : (y :: r).getLast? with
          | none => simp at hl
          | some z =>
            have : k + 1 + (y :: r).length = k + (x :: y :: r).length := by simp only [List.length_cons]; omega
            rw [this]; rfl
      · rfl
theorem sealed_snoc {rs : List GEntry} {mo : Int} {x : ByteArray} (h : x.size ≤ 9223372036854775807) (hB : appB rs mo x = true) : sealedB (rs ++ [appE rs mo x h]) = true := by
  unfold appB sealedB at hB
  simp only [Bool.and_eq_true, decide_eq_true_eq, beq_iff_eq, Bool.not_eq_true'] at hB
  obtain ⟨⟨h1, h2⟩, h3, h4, h5⟩ := hB
  have h3' : rs.length ≠ 30 := by simpa using h3
  unfold sealedB brokenI
  simp only [Bool.and_eq_true, decide_eq_true_eq, beq_iff_eq, List.length_append, List.length_cons, List.length_nil]
  refine ⟨by omega, ?_⟩
  unfold brokenI at h2
  rw [brokF_snoc, if_pos h2]
  unfold lastS at h4
  unfold lateB at h5
  unfold brokF
  unfold appE lastS
  cases hl : rs.getLast? with
  | none =>
    rw [hl] at h4
    have h4' : 0 ≤ sealB 1 mo x := h4
    have hc : (decide (sealB 1 mo x < 0) || (sealB 1 mo x != sealB 1 mo x || early none mo)) = false := by simp [early]; omega
    show (if (decide (sealB 1 mo x < 0) || (sealB 1 mo x != sealB 1 mo x || early none mo)) = true then ((0 + rs.length : Nat) : Int) else -1) = -1
    rw [hc]; rfl
  | some e =>
    rw [hl] at h4 h5
    simp only [decide_eq_true_eq] at h5
    have h4' : 0 ≤ sealB e.s mo x := h4
    have hc : (decide (sealB e.s mo x < 0) || (sealB e.s mo x != sealB e.s mo x || early (some e.m) mo)) = false := by simp [early]; omega
    show (if (decide (sealB e.s mo x < 0) || (sealB e.s mo x != sealB e.s mo x || early (some e.m) mo)) = true then ((0 + rs.length : Nat) : Int) else -1) = -1
    rw [hc]; rfl
theorem sealed_init {rs : List GEntry} {e : GEntry} (h : sealedB (rs ++ [e]) = true) : sealedB rs = true := by
  unfold sealedB brokenI at h ⊢
  simp only [Bool.and_eq_true, decide_eq_true_eq, beq_iff_eq, List.length_append, List.length_cons, List.length_nil] at h ⊢
  refine ⟨by omega, ?_⟩
  have h2 := h.2
  rw [brokF_snoc] at h2
  split at h2
  · assumption
  · exact h2
/- What the changes keep. -/
theorem museumB_parts {m : GMuseum} : museumB m = true ↔ placesB m.H m.ds m.fs = true ∧ placesB m.H m.ds m.ps = true ∧ m.fs.length = m.ps.length ∧ m.gs.length ≤ 6 ∧ hallsB m.H m.ds m.gs = true ∧ inB m.d 0 1000000 = true ∧ sealedB m.rs = true ∧ ∀ e ∈ m.rs, e.m ≤ m.d := by
  unfold museumB
  simp only [Bool.and_eq_true, beq_iff_eq, decide_eq_true_eq, List.all_eq_true]
theorem hallsB_set {H : Int} {ds : List GDoor} {xs : List Int} (h : hallsB H ds xs = true) (i : Nat) {x : Int} (hx : hallB H x = true) : hallsB H ds (xs.set i x) = true := by
  unfold hallsB at h ⊢
  simp only [Bool.and_eq_true, List.all_eq_true] at h ⊢
  refine ⟨fun y hy => ?_, h.2⟩
  rcases List.mem_or_eq_of_mem_set hy with hy | rfl
  · exact h.1 y hy
  · exact hx
theorem placesB_set {H : Int} {ds : List GDoor} {xs : List Int} (h : placesB H ds xs = true) (i : Nat) {x : Int} (hx : hallB H x = true) : placesB H ds (xs.set i x) = true := by
  unfold placesB at h ⊢
  simp only [Bool.and_eq_true, decide_eq_true_eq] at h ⊢
  exact ⟨by simpa using h.1, hallsB_set h.2 i hx⟩
theorem hallB_iff {H : Int} {ds : List GDoor} (h : houseB H ds = true) {x : Int} : hallB H x = true ↔ 0 ≤ x ∧ x < H := by
  have := house_HG h
  unfold hallB inB
  have hw : wrap64 (H - 1) = H - 1 := by unfold wrap64; omega
  rw [hw]
  simp only [Bool.and_eq_true, decide_eq_true_eq]
  omega
theorem days_ok {m : GMuseum} (h : museumB m = true) (d : Int) : museumB (daysM m d) = true := by
  unfold daysM
  split
  · rename_i hb
    unfold daysB inB at hb
    simp only [Bool.and_eq_true, decide_eq_true_eq] at hb
    rw [museumB_parts] at h ⊢
    obtain ⟨h1, h2, h3, h4, h5, h6, h7, h8⟩ := h
    simp only [inB, Bool.and_eq_true, decide_eq_true_eq] at h6 ⊢
    exact ⟨h1, h2, h3, h4, h5, ⟨by omega, by omega⟩, h7, fun e he => by have := h8 e he; omega⟩
  · exact h
theorem guard_ok {m : GMuseum} (h : museumB m = true) (g k : Int) : museumB (guardM m g k) = true := by
  unfold guardM
  split
  · rename_i hb
    have hH := museumB_house h
    unfold guardB at hb
    simp only [Bool.and_eq_true] at hb
    obtain ⟨d1, d2, d3, d4, d5⟩ := doorB_inG hH hb.2.2
    rw [museumB_parts] at h ⊢
    obtain ⟨h1, h2, h3, h4, h5, h6, h7, h8⟩ := h
    exact ⟨h1, h2, h3, by simpa using h4, hallsB_set h5 _ ((hallB_iff hH).2 ⟨d4, d5⟩), h6, h7, h8⟩
  · exact h
theorem canMove_go {H : Int} {ds : List GDoor} {ps gs : List Int} {x : GMove} (h : canMoveB H ds ps gs x = true) : goB H ds ps x = true := by
  unfold canMoveB at h
  simp only [Bool.and_eq_true] at h
  exact h.2.2.2.1
theorem goB_to {H : Int} {ds : List GDoor} {ps : List Int} {x : GMove} (h : goB H ds ps x = true) : hallB H x.t = true := by
  unfold goB at h
  simp only [Bool.and_eq_true] at h
  exact h.2.1
theorem night_ok {m : GMuseum} (h : museumB m = true) (x : GMove) : museumB (nightM m x) = true := by
  unfold nightM
  split
  · rename_i hb
    unfold nightB at hb
    simp only [Bool.and_eq_true] at hb
    obtain ⟨-, hc, ha⟩ := hb
    have hs := sealed_snoc (moveT_h x) ha
    have ht := goB_to (canMove_go hc)
    rw [museumB_parts] at h ⊢
    obtain ⟨h1, h2, h3, h4, h5, h6, h7, h8⟩ := h
    refine ⟨h1, placesB_set h2 _ ht, by simpa using h3, h4, h5, h6, hs, fun e he => ?_⟩
    rcases List.mem_append.1 he with he | he
    · exact h8 e he
    · rw [List.mem_singleton] at he
      subst he
      exact Int.le_refl _
  · exact h
theorem act_ok {m : GMuseum} (h : museumB m = true) (a : GAct) : museumB (actM m a) = true := by
  unfold actM
  split
  · split
    · exact guard_ok h _ _
    · split
      · exact night_ok h _
      · split
        · exact days_ok h _
        · exact h
  · exact h
theorem run_ok : ∀ (acts : List GAct) {m : GMuseum} (l : List Int), museumB m = true → museumB (runF m acts l).1 = true
  | [], m, l, h => h
  | a :: r, m, l, h => run_ok r _ (act_ok h a)
theorem run_len : ∀ (acts : List GAct) (m : GMuseum) (l : List Int), (runF m acts l).2.length = l.length + acts.length
  | [], m, l => rfl
  | a :: r, m, l => by rw [runF, run_len r]; simp; omega
theorem runF_snoc : ∀ (acts : List GAct) (m : GMuseum) (l : List Int) (a : GAct), runF m (acts ++ [a]) l = (actM (runF m acts l).1 a, (runF m acts l).2 ++ [actN (runF m acts l).1 a])
  | [], m, l, a => rfl
  | b :: r, m, l, a => by rw [List.cons_append, runF, runF_snoc r]; rfl
/- The lengths of what the changes answer. -/
theorem nightM_lens (m : GMuseum) (x : GMove) : (nightM m x).ds.length = m.ds.length ∧ (nightM m x).fs.length = m.fs.length ∧ (nightM m x).ps.length = m.ps.length ∧ (nightM m x).gs.length = m.gs.length ∧ (nightM m x).rs.length ≤ m.rs.length + 1 := by
  unfold nightM
  split
  · exact ⟨rfl, rfl, by simp, rfl, by simp⟩
  · exact ⟨rfl, rfl, rfl, rfl, by omega⟩
theorem sealed_len {rs : List GEntry} (h : sealedB rs = true) : rs.length ≤ 30 := by
  unfold sealedB at h
  simp only [Bool.and_eq_true, decide_eq_true_eq] at h
  exact h.1
theorem nightM_rs (m : GMuseum) (x : GMove) : (nightM m x).rs.length ≤ m.rs.length ∨ (nightM m x).rs.length ≤ 31 := by
  unfold nightM
  split
  · rename_i hb
    unfold nightB appB at hb
    simp only [Bool.and_eq_true] at hb
    have := sealed_len hb.2.2.1
    right; simp; omega
  · left; omega
end Go.Proofs.YtkelmeemblmggaaGreatDoor
/- Contracts of LastSeal and AppendEntry of both sides; no condition but what stands at each theorem. -/
namespace Go.Proofs.YtkelmeemblmggaaGreatDoor
set_option linter.unusedSimpArgs false
set_option linter.unusedVariables false
open Go.RowKit Go.Sort
def AppPost (rs : List GEntry) (mo : Int) (x : ByteArray) (h : x.size ≤ 9223372036854775807) (w : World) (e : Ending) (w' : World) : Prop :=
  ∃ v, e = .returned (.tuple #[v, .bool (appB rs mo x)]) ∧ Ext w w' ∧ w'.ownsRow w.heap.size 43 3 v (appL rs mo x h).length ((appL rs mo x h).flatMap GEntry.enc)
theorem app_no {rs : List GEntry} {mo : Int} {x : ByteArray} {h : x.size ≤ 9223372036854775807} {w w' : World} {v : Value} {n : Nat} (hB : appB rs mo x = false) (hl : rs.length = n) (e : Ext w w') (ho : w'.ownsRow w.heap.size 43 3 v n (rs.flatMap GEntry.enc)) : AppPost rs mo x h w (.returned (.tuple #[v, .bool false])) w' := by
  refine ⟨v, by rw [hB], e, ?_⟩
  unfold appL
  rw [hB]
  simpa [hl] using ho
theorem app_yes {rs : List GEntry} {mo : Int} {x : ByteArray} {h : x.size ≤ 9223372036854775807} {w w' : World} {v : Value} {n : Nat} (hB : appB rs mo x = true) (hl : rs.length = n) (e : Ext w w') (ho : w'.ownsRow w.heap.size 43 3 v (n + 1) (rs.flatMap GEntry.enc ++ (appE rs mo x h).enc)) : AppPost rs mo x h w (.returned (.tuple #[v, .bool true])) w' := by
  refine ⟨v, by rw [hB], e, ?_⟩
  unfold appL
  rw [if_pos hB, List.flatMap_append, List.length_append, hl]
  simpa using ho
theorem appB_seal {rs : List GEntry} {mo : Int} {x : ByteArray} (h : false = sealedB rs) : appB rs mo x = false := by unfold appB; rw [← h]; rfl
theorem appB_full {rs : List GEntry} {mo : Int} {x : ByteArray} (h : rs.length = 30) : appB rs mo x = false := by unfold appB; rw [h]; simp
theorem appB_neg {rs : List GEntry} {mo : Int} {x : ByteArray} (h : sealB (lastS rs) mo x < 0) : appB rs mo x = false := by
  unfold appB; rw [decide_eq_false (show ¬ 0 ≤ sealB (lastS rs) mo x by omega)]; simp
theorem appB_rest {rs : List GEntry} {mo : Int} {x : ByteArray} (h : true = sealedB rs) (h30 : rs.length ≠ 30) (hs : ¬ sealB (lastS rs) mo x < 0) : appB rs mo x = lateB rs mo := by
  unfold appB; rw [← h, decide_eq_false h30, decide_eq_true (show 0 ≤ sealB (lastS rs) mo x by omega)]; simp
theorem late_nil {rs : List GEntry} (h : rs.length = 0) (mo : Int) : lateB rs mo = true := by
  rw [List.length_eq_zero_iff.1 h]; rfl
set_option maxRecDepth 100000 in
set_option maxHeartbeats 1000000 in
theorem impl_LastSeal (A : Option Addr) (n c : Nat) (rs : List GEntry) (w : World) (hx : Rd w 3 A n (rs.flatMap GEntry.enc)) : Calls Tryz.prog 145 #[.slice A n c] w fun e w' => e = .returned (.int .i64 (lastS rs)) ∧ Ext w w' := by
  have hn := hx.2.1
  have hl := hx.len GEntry.len (by omega)
  by_cases h0 : n = 0
  case pos =>
    subst h0
    have HS : Hid (lastS rs = 1) := by unfold Hid; rw [List.length_eq_zero_iff.1 hl]; rfl
    clear hl hx
    go_enter Tryz.func145, Tryz.ntmps145
    go_wp2_with fail
    go_ret
    exact ⟨ret_int HS.out.symm, Ext.refl _⟩
  case neg =>
    obtain ⟨b, off, x, rfl, hbs, hxk, q0, q1, q2⟩ := GEntry.at_ hx (show n - 1 < n by omega)
    have HS : Hid (lastS rs = x.s) := Lib.hid (lastS_at (k := n - 1) (by omega) hxk)
    have f4 : ((n : Int) == 0) = false := by rw [beq_eq_false_iff_ne]; omega
    have ew : IntKind.i64.wrap ((n : Int) - 1) = (n : Int) - 1 := IntWalk.i64_in _ (by omega)
    have i1 : (0 : Int) ≤ (n : Int) - 1 := by omega
    have i4 : (1 : Int) ≤ (n : Int) := by omega
    have i2 : (n : Int) - 1 < (n : Int) := by omega
    have i3 : ((n : Int) - 1).toNat = n - 1 := by omega
    clear hl hx hxk
    go_enter Tryz.func145, Tryz.ntmps145
    go_wp2_with fail
    go_ret
    exact ⟨ret_int HS.out.symm, Ext.refl _⟩
set_option maxRecDepth 100000 in
set_option maxHeartbeats 2000000 in
theorem impl_AppendEntry (A : Option Addr) (n c : Nat) (rs : List GEntry) (mo : Int) (x : ByteArray) (w : World) (hx : Rd w 3 A n (rs.flatMap GEntry.enc)) (hnc : Hid (A = none → c = 0)) (hn : n ≤ 1048576) (hs : x.size ≤ 9223372036854775807) :
    Calls Tryz.prog 92 #[.slice A n c, .int .i64 mo, .string x] w (AppPost rs mo x hs w) := by
  have hl := Lib.hid (hx.len GEntry.len (by omega))
  have HX := Lib.hid hx
  have cC := Lib.hid (impl_copyRecord A n c rs w hx hnc hn)
  have cL := Lib.hid (fun W (he : Ext w W) => impl_LastSeal A n c rs W (hx.keep he))
  have cK := Lib.hid (fun W (he : Ext w W) => impl_IsSealed A n c rs W (hx.keep he))
  have cS := Lib.hid (fun W => impl_SealAfter (lastS rs) mo x W hs)
  obtain ⟨z, hz⟩ : ∃ z, z = sealB (lastS rs) mo x := ⟨_, rfl⟩
  obtain ⟨L, hL⟩ : ∃ L, L = lastS rs := ⟨_, rfl⟩
  obtain ⟨sb, hsb⟩ : ∃ sb, sb = sealedB rs := ⟨_, rfl⟩
  rw [← hz, ← hL] at cS
  rw [← hL] at cL
  rw [← hsb] at cK
  have HZ := Lib.hid hz
  have HB := Lib.hid hsb
  clear hx hz hL hsb
  go_enter Tryz.func92, Tryz.ntmps92
  go_wp2_with fail
  refine cC.out.mono ?_
  rintro e w1 ⟨g, c', rfl, he1, ho1⟩
  have HE1 := Lib.hid he1
  have HO1 := Lib.hid ho1
  clear he1 ho1
  go_wp2_with fail
  refine (cL.out w1 HE1.out).mono ?_
  rintro e w2 ⟨rfl, he2⟩
  have HE2 := Lib.hid (HE1.out.trans he2)
  have HO2 := Lib.hid (own_keep HO1.out he2)
  clear he2
  go_wp2_with fail
  refine (cS.out w2).mono ?_
  rintro e w3 ⟨rfl, rfl⟩
  go_wp2_with fail
  refine (cK.out w2 HE2.out).mono ?_
  rintro e w3 ⟨rfl, he3⟩
  have HE3 := Lib.hid (HE2.out.trans he3)
  have HO3 := Lib.hid (own_keep HO2.out he3)
  clear he3 cC cL cK cS HE1 HO1 HE2 HO2
  cases sb
  case false =>
    go_wp2_with fail
    go_ret2
    exact app_no (appB_seal HB.out) hl.out HE3.out HO3.out
  by_cases h30 : n = 30
  case pos =>
    have f30 : ((n : Int) == 30) = true := by rw [beq_iff_eq]; omega
    have H30 := Lib.hid h30
    clear h30
    go_wp2_with fail
    go_ret2
    exact app_no (appB_full (hl.out.trans H30.out)) hl.out HE3.out HO3.out
  have f30 : ((n : Int) == 30) = false := by rw [beq_eq_false_iff_ne]; omega
  have H30 := Lib.hid (show rs.length ≠ 30 by rw [hl.out]; exact h30)
  clear h30
  by_cases h0 : z < 0
  case pos =>
    go_wp2_with fail
    go_ret2
    exact app_no (appB_neg (by rw [← HZ.out]; exact h0)) hl.out HE3.out HO3.out
  have HR : Hid (appB rs mo x = lateB rs mo) := Lib.hid (appB_rest HB.out H30.out (by rw [← HZ.out]; exact h0))
  by_cases hn0 : n = 0
  case pos =>
    have H0 := Lib.hid hn0
    have f0 : ¬ (0 : Int) < (n : Int) := by omega
    clear hn0
    go_wp2_with (at_builtin; refine (fun h : Hid _ => h.out) ?_)
    unfold Hid
    refine append1 ei_EntryI rfl _ _ rfl w.heap.size w3 _ _ n _ (by rfl) HO3.out [.int .i64 mo, .string x, .int .i64 z] (by rfl) rfl (one_GEntry1 ⟨mo, x, z, hs⟩) (by omega) (HE3.out.size) ?_
    intro v' w4 ho4 he4
    have HO4 := Lib.hid ho4
    have HE4 := Lib.hid (he4 w HE3.out (Nat.le_refl _))
    clear ho4 he4
    go_wp2_with fail
    go_ret2
    refine app_yes (h := hs) (by rw [HR.out, late_nil (hl.out.trans H0.out)]) hl.out HE4.out ?_
    unfold appE GEntry.enc
    rw [← HZ.out]
    exact HO4.out
  obtain ⟨b, off, y, rfl, hbs, hyk, q0, q1, q2⟩ := GEntry.at_ (HX.out.keep HE3.out) (show n - 1 < n by omega)
  have HL : Hid (lateB rs mo = decide (y.m ≤ mo)) := Lib.hid (lateB_at (k := n - 1) (by rw [hl.out]; omega) hyk mo)
  have f0 : (0 : Int) < (n : Int) := by omega
  have ew : IntKind.i64.wrap ((n : Int) - 1) = (n : Int) - 1 := IntWalk.i64_in _ (by omega)
  have i1 : (0 : Int) ≤ (n : Int) - 1 := by omega
  have i4 : (1 : Int) ≤ (n : Int) := by omega
  have i2 : (n : Int) - 1 < (n : Int) := by omega
  have i3 : ((n : Int) - 1).toNat = n - 1 := by omega
  clear hyk
  by_cases hm : mo < y.m
  case pos =>
    go_wp2_with fail
    go_ret2
    exact app_no (by rw [HR.out, HL.out, decide_eq_false (by omega)]) hl.out HE3.out HO3.out
  go_wp2_with (at_builtin; refine (fun h : Hid _ => h.out) ?_)
  unfold Hid
  refine append1 ei_EntryI rfl _ _ rfl w.heap.size w3 _ _ n _ (by rfl) HO3.out [.int .i64 mo, .string x, .int .i64 z] (by rfl) rfl (one_GEntry1 ⟨mo, x, z, hs⟩) (by omega) (HE3.out.size) ?_
  intro v' w4 ho4 he4
  have HO4 := Lib.hid ho4
  have HE4 := Lib.hid (he4 w HE3.out (Nat.le_refl _))
  clear ho4 he4 q0 q1 q2
  go_wp2_with fail
  go_ret2
  refine app_yes (h := hs) (by rw [HR.out, HL.out, decide_eq_true (by omega)]) hl.out HE4.out ?_
  unfold appE GEntry.enc
  rw [← HZ.out]
  exact HO4.out
set_option maxRecDepth 100000 in
set_option maxHeartbeats 1000000 in
theorem spec_LastSeal (A : Option Addr) (n c : Nat) (rs : List GEntry) (w : World) (hx : Rd w 3 A n (rs.flatMap GEntry.enc)) : Calls Tryz.prog 141 #[.slice A n c] w fun e w' => e = .returned (.int .i64 (lastS rs)) ∧ Ext w w' := by
  have hn := hx.2.1
  have hl := hx.len GEntry.len (by omega)
  by_cases h0 : n = 0
  case pos =>
    subst h0
    have HS : Hid (lastS rs = 1) := by unfold Hid; rw [List.length_eq_zero_iff.1 hl]; rfl
    clear hl hx
    go_enter Tryz.func141, Tryz.ntmps141
    go_wp2_with fail
    go_ret
    exact ⟨ret_int HS.out.symm, Ext.refl _⟩
  case neg =>
    obtain ⟨b, off, x, rfl, hbs, hxk, q0, q1, q2⟩ := GEntry.at_ hx (show n - 1 < n by omega)
    have HS : Hid (lastS rs = x.s) := Lib.hid (lastS_at (k := n - 1) (by omega) hxk)
    have f4 : ((n : Int) == 0) = false := by rw [beq_eq_false_iff_ne]; omega
    have ew : IntKind.i64.wrap ((n : Int) - 1) = (n : Int) - 1 := IntWalk.i64_in _ (by omega)
    have i1 : (0 : Int) ≤ (n : Int) - 1 := by omega
    have i4 : (1 : Int) ≤ (n : Int) := by omega
    have i2 : (n : Int) - 1 < (n : Int) := by omega
    have i3 : ((n : Int) - 1).toNat = n - 1 := by omega
    clear hl hx hxk
    go_enter Tryz.func141, Tryz.ntmps141
    go_wp2_with fail
    go_ret
    exact ⟨ret_int HS.out.symm, Ext.refl _⟩
set_option maxRecDepth 100000 in
set_option maxHeartbeats 2000000 in
theorem spec_AppendEntry (A : Option Addr) (n c : Nat) (rs : List GEntry) (mo : Int) (x : ByteArray) (w : World) (hx : Rd w 3 A n (rs.flatMap GEntry.enc)) (hnc : Hid (A = none → c = 0)) (hn : n ≤ 1048576) (hs : x.size ≤ 9223372036854775807) :
    Calls Tryz.prog 87 #[.slice A n c, .int .i64 mo, .string x] w (AppPost rs mo x hs w) := by
  have hl := Lib.hid (hx.len GEntry.len (by omega))
  have HX := Lib.hid hx
  have cC := Lib.hid (spec_l30Copy A n c rs w hx hnc hn)
  have cL := Lib.hid (fun W (he : Ext w W) => spec_LastSeal A n c rs W (hx.keep he))
  have cK := Lib.hid (fun W (he : Ext w W) => spec_IsSealed A n c rs W (hx.keep he))
  have cS := Lib.hid (fun W => spec_SealAfter (lastS rs) mo x W hs)
  obtain ⟨z, hz⟩ : ∃ z, z = sealB (lastS rs) mo x := ⟨_, rfl⟩
  obtain ⟨L, hL⟩ : ∃ L, L = lastS rs := ⟨_, rfl⟩
  obtain ⟨sb, hsb⟩ : ∃ sb, sb = sealedB rs := ⟨_, rfl⟩
  rw [← hz, ← hL] at cS
  rw [← hL] at cL
  rw [← hsb] at cK
  have HZ := Lib.hid hz
  have HB := Lib.hid hsb
  clear hx hz hL hsb
  go_enter Tryz.func87, Tryz.ntmps87
  go_wp2_with fail
  refine cC.out.mono ?_
  rintro e w1 ⟨g, c', rfl, he1, ho1⟩
  have HE1 := Lib.hid he1
  have HO1 := Lib.hid ho1
  clear he1 ho1
  go_wp2_with fail
  refine (cL.out w1 HE1.out).mono ?_
  rintro e w2 ⟨rfl, he2⟩
  have HE2 := Lib.hid (HE1.out.trans he2)
  have HO2 := Lib.hid (own_keep HO1.out he2)
  clear he2
  go_wp2_with fail
  refine (cS.out w2).mono ?_
  rintro e w3 ⟨rfl, rfl⟩
  go_wp2_with fail
  refine (cK.out w2 HE2.out).mono ?_
  rintro e w3 ⟨rfl, he3⟩
  have HE3 := Lib.hid (HE2.out.trans he3)
  have HO3 := Lib.hid (own_keep HO2.out he3)
  clear he3 cC cL cK cS HE1 HO1 HE2 HO2
  cases sb
  case false =>
    go_wp2_with fail
    go_ret2
    exact app_no (appB_seal HB.out) hl.out HE3.out HO3.out
  by_cases h30 : n = 30
  case pos =>
    have f30 : ((n : Int) == 30) = true := by rw [beq_iff_eq]; omega
    have H30 := Lib.hid h30
    clear h30
    go_wp2_with fail
    go_ret2
    exact app_no (appB_full (hl.out.trans H30.out)) hl.out HE3.out HO3.out
  have f30 : ((n : Int) == 30) = false := by rw [beq_eq_false_iff_ne]; omega
  have H30 := Lib.hid (show rs.length ≠ 30 by rw [hl.out]; exact h30)
  clear h30
  by_cases h0 : z < 0
  case pos =>
    go_wp2_with fail
    go_ret2
    exact app_no (appB_neg (by rw [← HZ.out]; exact h0)) hl.out HE3.out HO3.out
  have HR : Hid (appB rs mo x = lateB rs mo) := Lib.hid (appB_rest HB.out H30.out (by rw [← HZ.out]; exact h0))
  by_cases hn0 : n = 0
  case pos =>
    have H0 := Lib.hid hn0
    have f0 : ¬ (0 : Int) < (n : Int) := by omega
    clear hn0
    go_wp2_with (at_builtin; refine (fun h : Hid _ => h.out) ?_)
    unfold Hid
    refine append1 ei_EntryI rfl _ _ rfl w.heap.size w3 _ _ n _ (by rfl) HO3.out [.int .i64 mo, .string x, .int .i64 z] (by rfl) rfl (one_GEntry1 ⟨mo, x, z, hs⟩) (by omega) (HE3.out.size) ?_
    intro v' w4 ho4 he4
    have HO4 := Lib.hid ho4
    have HE4 := Lib.hid (he4 w HE3.out (Nat.le_refl _))
    clear ho4 he4
    go_wp2_with fail
    go_ret2
    refine app_yes (h := hs) (by rw [HR.out, late_nil (hl.out.trans H0.out)]) hl.out HE4.out ?_
    unfold appE GEntry.enc
    rw [← HZ.out]
    exact HO4.out
  obtain ⟨b, off, y, rfl, hbs, hyk, q0, q1, q2⟩ := GEntry.at_ (HX.out.keep HE3.out) (show n - 1 < n by omega)
  have HL : Hid (lateB rs mo = decide (y.m ≤ mo)) := Lib.hid (lateB_at (k := n - 1) (by rw [hl.out]; omega) hyk mo)
  have f0 : (0 : Int) < (n : Int) := by omega
  have ew : IntKind.i64.wrap ((n : Int) - 1) = (n : Int) - 1 := IntWalk.i64_in _ (by omega)
  have i1 : (0 : Int) ≤ (n : Int) - 1 := by omega
  have i4 : (1 : Int) ≤ (n : Int) := by omega
  have i2 : (n : Int) - 1 < (n : Int) := by omega
  have i3 : ((n : Int) - 1).toNat = n - 1 := by omega
  clear hyk
  by_cases hm : mo < y.m
  case pos =>
    go_wp2_with fail
    go_ret2
    exact app_no (by rw [HR.out, HL.out, decide_eq_false (by omega)]) hl.out HE3.out HO3.out
  go_wp2_with (at_builtin; refine (fun h : Hid _ => h.out) ?_)
  unfold Hid
  refine append1 ei_EntryI rfl _ _ rfl w.heap.size w3 _ _ n _ (by rfl) HO3.out [.int .i64 mo, .string x, .int .i64 z] (by rfl) rfl (one_GEntry1 ⟨mo, x, z, hs⟩) (by omega) (HE3.out.size) ?_
  intro v' w4 ho4 he4
  have HO4 := Lib.hid ho4
  have HE4 := Lib.hid (he4 w HE3.out (Nat.le_refl _))
  clear ho4 he4 q0 q1 q2
  go_wp2_with fail
  go_ret2
  refine app_yes (h := hs) (by rw [HR.out, HL.out, decide_eq_true (by omega)]) hl.out HE4.out ?_
  unfold appE GEntry.enc
  rw [← HZ.out]
  exact HO4.out
end Go.Proofs.YtkelmeemblmggaaGreatDoor
/- Contract of the program's NightMove; no condition but what stands at each theorem. -/
namespace Go.Proofs.YtkelmeemblmggaaGreatDoor
set_option linter.unusedSimpArgs false
set_option linter.unusedVariables false
open Go.RowKit Go.Sort
/-- A museum in rows of the call's own, with other rows of places and of entries. -/
theorem MOwn.repl {w : World} {base B lo1 hi1 lo2 hi2 np cp nr cr : Nat} {Ap Ar : Option Addr} {v : MV} {m : GMuseum} {ps : List Int} {rs : List GEntry} (h : MOwn w base v m) (ha : MAt base B v)
    (hp : w.ownsRow lo1 3 1 (.slice Ap np cp) np (ps.flatMap ienc)) (ap : At lo1 hi1 (.slice Ap np cp)) (hr : w.ownsRow lo2 43 3 (.slice Ar nr cr) nr (rs.flatMap GEntry.enc)) (ar : At lo2 hi2 (.slice Ar nr cr))
    (h1 : B ≤ lo1) (h2 : hi1 ≤ lo2) (h3 : base ≤ lo1 ∧ B ≤ lo2 ∧ base ≤ lo2) : MOwn w base { v with sp := ⟨Ap, np, cp⟩, sr := ⟨Ar, nr, cr⟩ } { m with ps := ps, rs := rs } := by
  obtain ⟨a1, a2, a3, a4, a5, a6, a7, a8, a9, a10⟩ := aparts h.ap
  obtain ⟨d1, d2, d3, d4, d5⟩ := ha
  exact ⟨h.eH, h.ed, h.od, h.of_, own_weak hp h3.1, h.og, own_weak hr h3.2.2,
    apart5 a1 (Apart.of_at d1 ap (.inl h1)) a3 (Apart.of_at d1 ar (.inl h3.2.1)) (Apart.of_at d2 ap (.inl h1)) a6 (Apart.of_at d2 ar (.inl h3.2.1)) (Apart.of_at ap d4 (.inr h1)) (Apart.of_at ap ar (.inl h2)) (Apart.of_at d4 ar (.inl h3.2.1))⟩
set_option maxRecDepth 100000 in
set_option maxHeartbeats 4000000 in
theorem impl_NightMove (v : MV) (m : GMuseum) (x : GMove) (w : World) (hx : MRd w v m) (hf : MFit v) : Calls Tryz.prog 28 #[v.val, .agg #[.int .i64 x.o, .int .i64 x.t, .int .i64 x.f, .int .i64 x.s]] w (MPost (nightM m x) (.bool (nightB m x)) w) := by
  obtain ⟨wb, hwb⟩ : ∃ wb, wb = w.alloc (.cells v.cells 30) := ⟨_, rfl⟩
  have hbx := MBox.new hwb
  have hE : Ext w wb := by rw [hwb]; exact (Ext.refl w).alloc _
  obtain ⟨wm, hwm⟩ : ∃ wm, wm = wb.alloc (.cells #[.int .i64 x.o, .int .i64 x.t, .int .i64 x.f, .int .i64 x.s] 56) := ⟨_, rfl⟩
  have hEm : Ext wb wm := by rw [hwm]; exact (Ext.refl wb).alloc _
  obtain ⟨wz, hwz⟩ : ∃ wz, wz = wm.alloc (.cells #[.int .i64 0, .slice none 0 0, .slice none 0 0, .slice none 0 0, .slice none 0 0, .int .i64 0, .slice none 0 0] 30) := ⟨_, rfl⟩
  have hEz : Ext wm wz := by rw [hwz]; exact (Ext.refl wm).alloc _
  have hsb : wb.heap.size = w.heap.size + 1 := by rw [hwb]; simp
  have hsm : wm.heap.size = w.heap.size + 1 + 1 := by rw [hwm]; simp [hsb]
  have hsz : wz.heap.size = w.heap.size + 1 + 1 + 1 := by rw [hwz]; simp [hsm]
  have HBz : Hid (Blk wz (w.heap.size + 1 + 1) 30 #[.int .i64 0, .slice none 0 0, .slice none 0 0, .slice none 0 0, .slice none 0 0, .int .i64 0, .slice none 0 0]) := Lib.hid (by rw [hwz, ← hsm]; exact Blk.new _ _ _)
  have HBm : Hid (Blk wz (w.heap.size + 1) 56 #[.int .i64 x.o, .int .i64 x.t, .int .i64 x.f, .int .i64 x.s]) := Lib.hid (by refine Blk.keep ?_ hEz; rw [hwm, ← hsb]; exact Blk.new _ _ _)
  have hE2 := hEm.trans hEz
  have HX := Lib.hid (hx.keep (hE.trans hE2))
  have HB := Lib.hid (hbx.keep hE2)
  have HE := Lib.hid (hE.trans hE2)
  have cC := Lib.hid (impl_copyMuseum v m wz HX.out hf)
  have cM := Lib.hid (fun W (he : Ext wz W) => impl_MuseumOk v m W (HX.out.keep he))
  obtain ⟨Hh, ⟨A0, n0, c0⟩, ⟨A1, n1, c1⟩, ⟨A2, n2, c2⟩, ⟨A3, n3, c3⟩, day, ⟨A4, n4, c4⟩⟩ := v
  have hH : Hh = m.H := hx.eH
  subst hH
  have Hwz : Hid (wz = ((w.alloc (.cells #[.int .i64 m.H, .slice A0 n0 c0, .slice A1 n1 c1, .slice A2 n2 c2, .slice A3 n3 c3, .int .i64 m.d, .slice A4 n4 c4] 30)).alloc (.cells #[.int .i64 x.o, .int .i64 x.t, .int .i64 x.f, .int .i64 x.s] 56)).alloc (.cells #[.int .i64 0, .slice none 0 0, .slice none 0 0, .slice none 0 0, .slice none 0 0, .int .i64 0, .slice none 0 0] 30)) := Lib.hid (by rw [hwz, hwm, hwb, ← hx.ed]; rfl)
  have hday : day = m.d := hx.ed
  subst hday
  obtain ⟨cb, hcb⟩ : ∃ cb, cb = canMoveB m.H m.ds m.ps m.gs x := ⟨_, rfl⟩
  obtain ⟨PL, hPL⟩ : ∃ PL, PL = moveL m.H m.ds m.ps m.gs x := ⟨_, rfl⟩
  obtain ⟨ab, hab⟩ : ∃ ab, ab = appB m.rs m.d (moveT x) := ⟨_, rfl⟩
  obtain ⟨AL, hAL⟩ : ∃ AL, AL = appL m.rs m.d (moveT x) (moveT_h x) := ⟨_, rfl⟩
  have CM : Hid (∀ W, Ext wz W → Calls Tryz.prog 19 #[.agg #[.int .i64 m.H, .slice A0 n0 c0, .slice A1 n1 c1, .slice A2 n2 c2, .slice A3 n3 c3, .int .i64 m.d, .slice A4 n4 c4]] W fun e w' => e = .returned (.bool (museumB m)) ∧ Ext W w') := cM
  have CO : Hid (∀ W, Ext wz W → Calls Tryz.prog 91 #[.agg #[.int .i64 m.H, .slice A0 n0 c0], .slice A2 n2 c2, .slice A3 n3 c3, .agg #[.int .i64 x.o, .int .i64 x.t, .int .i64 x.f, .int .i64 x.s]] W fun e w' => ∃ v, e = .returned (.tuple #[v, .bool cb]) ∧ Ext W w' ∧ w'.ownsRow W.heap.size 3 1 v PL.length (PL.flatMap ienc)) := Lib.hid fun W he => by
    rw [hcb, hPL]
    exact impl_MoveObject m.H A0 n0 c0 m.ds A2 n2 c2 m.ps A3 n3 c3 m.gs x W (HX.out.rd.keep he) (HX.out.rp.keep he) (HX.out.rg.keep he) (Lib.hid hf.zp) hf.np
  have CA : Hid (∀ W, Ext wz W → Calls Tryz.prog 92 #[.slice A4 n4 c4, .int .i64 m.d, .string (moveT x)] W fun e w' => ∃ v, e = .returned (.tuple #[v, .bool ab]) ∧ Ext W w' ∧ w'.ownsRow W.heap.size 43 3 v AL.length (AL.flatMap GEntry.enc)) := Lib.hid fun W he => by
    rw [hab, hAL]
    exact impl_AppendEntry A4 n4 c4 m.rs m.d (moveT x) W (HX.out.rr.keep he) (Lib.hid hf.zr) hf.nr (moveT_h x)
  have CT := Lib.hid (fun W => impl_MoveText x W)
  obtain ⟨T, hT⟩ : ∃ T, T = moveT x := ⟨_, rfl⟩
  rw [← hT] at CA CT
  have HCB := Lib.hid hcb
  have HPL := Lib.hid hPL
  have HAB := Lib.hid hab
  have HAL := Lib.hid hAL
  have hzl : w.heap.size + 1 + 1 < wz.heap.size := by omega
  clear hwb hwz hwm hbx hE hEz hEm hE2 hx hf hsb hsz hsm hcb hPL hab hAL hT cM
  show Calls Tryz.prog 28 #[.agg #[.int .i64 m.H, .slice A0 n0 c0, .slice A1 n1 c1, .slice A2 n2 c2, .slice A3 n3 c3, .int .i64 m.d, .slice A4 n4 c4], .agg #[.int .i64 x.o, .int .i64 x.t, .int .i64 x.f, .int .i64 x.s]] w _
  obtain ⟨b0, b1, b2, b3, b4, b5, b6⟩ := HB.out.cell
  simp only at b0 b1 b2 b3 b4 b5 b6
  have Hb0 := Lib.hid b0
  rw [Hwz.out] at b0 b1 b2 b3 b4 b5 b6
  go_enter Tryz.func28, Tryz.ntmps28
  go_wp2_with (go_at_call 68; refine (fun h : Hid _ => h.out) ?_)
  unfold Hid
  rw [← Hwz.out]
  refine cC.out.mono ?_
  rintro e w1 ⟨v1, hev, he1, ho1⟩
  obtain ⟨Hh1, ⟨A01, n01, c01⟩, ⟨A11, n11, c11⟩, ⟨A21, n21, c21⟩, ⟨A31, n31, c31⟩, day1, ⟨A41, n41, c41⟩⟩ := v1
  simp only [MV.val, MV.cells] at hev
  subst hev
  have hd1 : day1 = m.d := ho1.ed
  subst hd1
  obtain ⟨w2, hw2⟩ : ∃ w2, w2 = w1.alloc (.cells #[.int .i64 Hh1, .slice A01 n01 c01, .slice A11 n11 c11, .slice A21 n21 c21, .slice A31 n31 c31, .int .i64 m.d, .slice A41 n41 c41] 30) := ⟨_, rfl⟩
  have hB6 : Blk w2 w1.heap.size 30 #[.int .i64 Hh1, .slice A01 n01 c01, .slice A11 n11 c11, .slice A21 n21 c21, .slice A31 n31 c31, .int .i64 m.d, .slice A41 n41 c41] := by rw [hw2]; exact Blk.new _ _ _
  have he2 : Ext w1 w2 := by rw [hw2]; exact (Ext.refl _).alloc _
  have HB6 := Lib.hid hB6
  have HAT := Lib.hid (MAt.of_own ho1)
  have HO2 := Lib.hid (ho1.keep he2)
  have HE2 := Lib.hid (he1.trans he2)
  have HW2 := Lib.hid hw2
  have hz2 : wz.heap.size ≤ w1.heap.size := he1.size
  have hs2 : w2.heap.size = w1.heap.size + 1 := by rw [hw2]; simp
  clear hB6 he2 ho1 he1 hw2 b0 b1 b2 b3 b4 b5 b6 cC
  obtain ⟨b0, b1, b2, b3, b4, b5, b6⟩ := (HB.out.keep HE2.out).cell
  simp only at b0 b1 b2 b3 b4 b5 b6
  rw [HW2.out] at b0 b1 b2 b3 b4 b5 b6
  go_wp2_with (go_at_call 19; refine (fun h : Hid _ => h.out) ?_)
  unfold Hid
  rw [← HW2.out]
  refine (CM.out w2 HE2.out).mono ?_
  rintro e w3 ⟨rfl, he3⟩
  have HE3 := Lib.hid (HE2.out.trans he3)
  have HO3 := Lib.hid (HO2.out.keep he3)
  have HB63 := Lib.hid (HB6.out.keep he3)
  have hz3 : w2.heap.size ≤ w3.heap.size := he3.size
  clear he3 b0 b1 b2 b3 b4 b5 b6
  cases hm : museumB m
  case false =>
    have HF : Hid (nightB m x = false) := Lib.hid (by simp [nightB, hm])
    have HM : Hid (nightM m x = m) := Lib.hid (by rw [nightM, HF.out]; rfl)
    clear hm

    have Bz := Blk.keep HBz.out HE3.out
    have x0 := Bz.cellAt (i := 0) (by simp)
    have x1 := Bz.cellAt (i := 1) (by simp)
    have x2 := Bz.cellAt (i := 2) (by simp)
    have x3 := Bz.cellAt (i := 3) (by simp)
    have x4 := Bz.cellAt (i := 4) (by simp)
    have x5 := Bz.cellAt (i := 5) (by simp)
    have x6 := Bz.cellAt (i := 6) (by simp)
    have fz := Bz.free
    simp at x0 x1 x2 x3 x4 x5 x6
    have y0 := HB63.out.cellAt (i := 0) (by simp)
    have y1 := HB63.out.cellAt (i := 1) (by simp)
    have y2 := HB63.out.cellAt (i := 2) (by simp)
    have y3 := HB63.out.cellAt (i := 3) (by simp)
    have y4 := HB63.out.cellAt (i := 4) (by simp)
    have y5 := HB63.out.cellAt (i := 5) (by simp)
    have y6 := HB63.out.cellAt (i := 6) (by simp)
    simp at y0 y1 y2 y3 y4 y5 y6
    have lz : w.heap.size + 1 + 1 < w3.heap.size := Bz.lt
    go_wp2_with fail
    obtain ⟨b6', k6⟩ := store7 Bz (.int .i64 Hh1) (.slice A01 n01 c01) (.slice A11 n11 c11) (.slice A21 n21 c21) (.slice A31 n31 c31) (.int .i64 m.d) (.slice A41 n41 c41)
    have hO6 := HO3.out.out k6 (by omega)
    have hE6 := k6.ext (HE.out.trans HE3.out) (by omega)
    generalize (((((((w3.setCell ⟨w.heap.size + 1 + 1, 0, none⟩ (.int .i64 Hh1)).setCell ⟨w.heap.size + 1 + 1, 1, none⟩ (.slice A01 n01 c01)).setCell ⟨w.heap.size + 1 + 1, 2, none⟩ (.slice A11 n11 c11)).setCell ⟨w.heap.size + 1 + 1, 3, none⟩ (.slice A21 n21 c21)).setCell ⟨w.heap.size + 1 + 1, 4, none⟩ (.slice A31 n31 c31)).setCell ⟨w.heap.size + 1 + 1, 5, none⟩ (.int .i64 m.d)).setCell ⟨w.heap.size + 1 + 1, 6, none⟩ (.slice A41 n41 c41)) = w9 at b6' k6 hO6 hE6 ⊢
    have t0 := b6'.cellAt (i := 0) (by simp)
    have t1 := b6'.cellAt (i := 1) (by simp)
    have t2 := b6'.cellAt (i := 2) (by simp)
    have t3 := b6'.cellAt (i := 3) (by simp)
    have t4 := b6'.cellAt (i := 4) (by simp)
    have t5 := b6'.cellAt (i := 5) (by simp)
    have t6 := b6'.cellAt (i := 6) (by simp)
    simp at t0 t1 t2 t3 t4 t5 t6
    refine bodyPost_ret (v := .tuple #[MV.val ⟨Hh1, ⟨A01, n01, c01⟩, ⟨A11, n11, c11⟩, ⟨A21, n21, c21⟩, ⟨A31, n31, c31⟩, m.d, ⟨A41, n41, c41⟩⟩, .bool false]) (by simp [results, Tryz.results28, go_sem, t0, t1, t2, t3, t4, t5, t6, MV.val, MV.cells]) rfl ?_
    exact ⟨_, (by rw [HF.out]), hE6, by rw [HM.out]; exact hO6.weak (by omega)⟩

  have HN : Hid (nightB m x = (cb && ab)) := Lib.hid (by rw [nightB, hm, HCB.out, HAB.out]; rfl)
  clear hm
  obtain ⟨b0, b1, b2, b3, b4, b5, b6⟩ := (HB.out.keep HE3.out).cell
  have hbm := HBm.out.keep HE3.out
  have q0 := hbm.cellAt (i := 0) (by simp)
  have q1 := hbm.cellAt (i := 1) (by simp)
  have q2 := hbm.cellAt (i := 2) (by simp)
  have q3 := hbm.cellAt (i := 3) (by simp)
  simp only at b0 b1 b2 b3 b4 b5 b6
  simp at q0 q1 q2 q3
  go_wp2_with (go_at_call 91; refine (fun h : Hid _ => h.out) ?_)
  unfold Hid
  refine (CO.out w3 HE3.out).mono ?_
  rintro e w4 ⟨vp, rfl, he4, hop⟩
  obtain ⟨Ap, cp, rfl, -⟩ := own_form hop
  have HE4 := Lib.hid (HE3.out.trans he4)
  have HO4 := Lib.hid (HO3.out.keep he4)
  have HB64 := Lib.hid (HB63.out.keep he4)
  have HP4 := Lib.hid hop
  have HAP := Lib.hid (At.of_own hop)
  have hz4 : w3.heap.size ≤ w4.heap.size := he4.size
  clear he4 hop hbm b0 b1 b2 b3 b4 b5 b6 q0 q1 q2 q3
  obtain ⟨-, -, -, -, -, r5, r6⟩ := (HB.out.keep HE4.out).cell
  simp only at r5 r6
  have rm := HBm.out.keep HE4.out
  have rx0 := rm.cellAt (i := 0) (by simp)
  have rx1 := rm.cellAt (i := 1) (by simp)
  have rx2 := rm.cellAt (i := 2) (by simp)
  have rx3 := rm.cellAt (i := 3) (by simp)
  simp at rx0 rx1 rx2 rx3
  go_wp2_with fail
  go_region_held3 (fun w' => w'.cell? ⟨w.heap.size, 5, none⟩ = some (.int .i64 m.d) ∧ w'.cell? ⟨w.heap.size, 6, none⟩ = some (.slice A4 n4 c4) ∧ w'.cell? ⟨w.heap.size + 1, 0, none⟩ = some (.int .i64 x.o) ∧ w'.cell? ⟨w.heap.size + 1, 1, none⟩ = some (.int .i64 x.t) ∧ w'.cell? ⟨w.heap.size + 1, 2, none⟩ = some (.int .i64 x.f) ∧ w'.cell? ⟨w.heap.size + 1, 3, none⟩ = some (.int .i64 x.s)) (go_keep) (first
    | (go_at_call 93; refine (CT.out _).mono ?_; rintro e w5 ⟨rfl, h5⟩; obtain ⟨-, -, -, -, -, s5, s6⟩ := (HB.out.keep (HE4.out.trans (Ext.trans ((Ext.refl _).drewN 1) h5))).cell; simp only at s5 s6; have sm := HBm.out.keep (HE4.out.trans (Ext.trans ((Ext.refl _).drewN 1) h5)); have sx0 := sm.cellAt (i := 0) (by simp); have sx1 := sm.cellAt (i := 1) (by simp); have sx2 := sm.cellAt (i := 2) (by simp); have sx3 := sm.cellAt (i := 3) (by simp); simp at sx0 sx1 sx2 sx3)
    | (go_at_call 92; refine (CA.out _ (HE4.out.trans (Ext.trans ((Ext.refl _).drewN 1) h5))).mono ?_; rintro e w6 ⟨va, rfl, h6, oa⟩; obtain ⟨-, -, -, -, -, u5, u6⟩ := (HB.out.keep (HE4.out.trans ((Ext.trans ((Ext.refl _).drewN 1) h5).trans h6))).cell; simp only at u5 u6; have um := HBm.out.keep (HE4.out.trans ((Ext.trans ((Ext.refl _).drewN 1) h5).trans h6)); have ux0 := um.cellAt (i := 0) (by simp); have ux1 := um.cellAt (i := 1) (by simp); have ux2 := um.cellAt (i := 2) (by simp); have ux3 := um.cellAt (i := 3) (by simp); simp at ux0 ux1 ux2 ux3))
  obtain ⟨Aa, ca, rfl, -⟩ := own_form oa
  have h45 : Ext w4 w5 := Ext.trans ((Ext.refl _).drewN 1) h5
  have hz5 : w4.heap.size ≤ w5.heap.size := h45.size
  have hz6 : w5.heap.size ≤ w6.heap.size := h6.size
  have h46 := h45.trans h6
  have HE6 := Lib.hid (HE4.out.trans h46)
  have HO6 := Lib.hid (HO4.out.keep h46)
  have HB66 := Lib.hid (HB64.out.keep h46)
  have HP6 := Lib.hid (own_keep HP4.out h46)
  have HA6 := Lib.hid oa
  have HAA := Lib.hid (At.of_own oa)
  clear h5 h6 h45 h46 oa
  cases cb
  case false =>
    have HF : Hid (nightB m x = false) := Lib.hid (HN.out.trans (by simp))
    have HM : Hid (nightM m x = m) := Lib.hid (by rw [nightM, HF.out]; rfl)
    have Bz := Blk.keep HBz.out HE6.out
    have x0 := Bz.cellAt (i := 0) (by simp)
    have x1 := Bz.cellAt (i := 1) (by simp)
    have x2 := Bz.cellAt (i := 2) (by simp)
    have x3 := Bz.cellAt (i := 3) (by simp)
    have x4 := Bz.cellAt (i := 4) (by simp)
    have x5 := Bz.cellAt (i := 5) (by simp)
    have x6 := Bz.cellAt (i := 6) (by simp)
    have fz := Bz.free
    simp at x0 x1 x2 x3 x4 x5 x6
    have y0 := HB66.out.cellAt (i := 0) (by simp)
    have y1 := HB66.out.cellAt (i := 1) (by simp)
    have y2 := HB66.out.cellAt (i := 2) (by simp)
    have y3 := HB66.out.cellAt (i := 3) (by simp)
    have y4 := HB66.out.cellAt (i := 4) (by simp)
    have y5 := HB66.out.cellAt (i := 5) (by simp)
    have y6 := HB66.out.cellAt (i := 6) (by simp)
    simp at y0 y1 y2 y3 y4 y5 y6
    have lz : w.heap.size + 1 + 1 < w6.heap.size := Bz.lt
    go_wp2_with fail
    obtain ⟨b6', k6⟩ := store7 Bz (.int .i64 Hh1) (.slice A01 n01 c01) (.slice A11 n11 c11) (.slice A21 n21 c21) (.slice A31 n31 c31) (.int .i64 m.d) (.slice A41 n41 c41)
    have hO6 := HO6.out.out k6 (by omega)
    have hE6 := k6.ext (HE.out.trans HE6.out) (by omega)
    generalize (((((((w6.setCell ⟨w.heap.size + 1 + 1, 0, none⟩ (.int .i64 Hh1)).setCell ⟨w.heap.size + 1 + 1, 1, none⟩ (.slice A01 n01 c01)).setCell ⟨w.heap.size + 1 + 1, 2, none⟩ (.slice A11 n11 c11)).setCell ⟨w.heap.size + 1 + 1, 3, none⟩ (.slice A21 n21 c21)).setCell ⟨w.heap.size + 1 + 1, 4, none⟩ (.slice A31 n31 c31)).setCell ⟨w.heap.size + 1 + 1, 5, none⟩ (.int .i64 m.d)).setCell ⟨w.heap.size + 1 + 1, 6, none⟩ (.slice A41 n41 c41)) = w9 at b6' k6 hO6 hE6 ⊢
    have t0 := b6'.cellAt (i := 0) (by simp)
    have t1 := b6'.cellAt (i := 1) (by simp)
    have t2 := b6'.cellAt (i := 2) (by simp)
    have t3 := b6'.cellAt (i := 3) (by simp)
    have t4 := b6'.cellAt (i := 4) (by simp)
    have t5 := b6'.cellAt (i := 5) (by simp)
    have t6 := b6'.cellAt (i := 6) (by simp)
    simp at t0 t1 t2 t3 t4 t5 t6
    refine bodyPost_ret (v := .tuple #[MV.val ⟨Hh1, ⟨A01, n01, c01⟩, ⟨A11, n11, c11⟩, ⟨A21, n21, c21⟩, ⟨A31, n31, c31⟩, m.d, ⟨A41, n41, c41⟩⟩, .bool false]) (by simp [results, Tryz.results28, go_sem, t0, t1, t2, t3, t4, t5, t6, MV.val, MV.cells]) rfl ?_
    exact ⟨_, (by rw [HF.out]), hE6, by rw [HM.out]; exact hO6.weak (by omega)⟩
  cases ab
  case false =>
    have HF : Hid (nightB m x = false) := Lib.hid (HN.out.trans (by simp))
    have HM : Hid (nightM m x = m) := Lib.hid (by rw [nightM, HF.out]; rfl)
    have Bz := Blk.keep HBz.out HE6.out
    have x0 := Bz.cellAt (i := 0) (by simp)
    have x1 := Bz.cellAt (i := 1) (by simp)
    have x2 := Bz.cellAt (i := 2) (by simp)
    have x3 := Bz.cellAt (i := 3) (by simp)
    have x4 := Bz.cellAt (i := 4) (by simp)
    have x5 := Bz.cellAt (i := 5) (by simp)
    have x6 := Bz.cellAt (i := 6) (by simp)
    have fz := Bz.free
    simp at x0 x1 x2 x3 x4 x5 x6
    have y0 := HB66.out.cellAt (i := 0) (by simp)
    have y1 := HB66.out.cellAt (i := 1) (by simp)
    have y2 := HB66.out.cellAt (i := 2) (by simp)
    have y3 := HB66.out.cellAt (i := 3) (by simp)
    have y4 := HB66.out.cellAt (i := 4) (by simp)
    have y5 := HB66.out.cellAt (i := 5) (by simp)
    have y6 := HB66.out.cellAt (i := 6) (by simp)
    simp at y0 y1 y2 y3 y4 y5 y6
    have lz : w.heap.size + 1 + 1 < w6.heap.size := Bz.lt
    go_wp2_with fail
    obtain ⟨b6', k6⟩ := store7 Bz (.int .i64 Hh1) (.slice A01 n01 c01) (.slice A11 n11 c11) (.slice A21 n21 c21) (.slice A31 n31 c31) (.int .i64 m.d) (.slice A41 n41 c41)
    have hO6 := HO6.out.out k6 (by omega)
    have hE6 := k6.ext (HE.out.trans HE6.out) (by omega)
    generalize (((((((w6.setCell ⟨w.heap.size + 1 + 1, 0, none⟩ (.int .i64 Hh1)).setCell ⟨w.heap.size + 1 + 1, 1, none⟩ (.slice A01 n01 c01)).setCell ⟨w.heap.size + 1 + 1, 2, none⟩ (.slice A11 n11 c11)).setCell ⟨w.heap.size + 1 + 1, 3, none⟩ (.slice A21 n21 c21)).setCell ⟨w.heap.size + 1 + 1, 4, none⟩ (.slice A31 n31 c31)).setCell ⟨w.heap.size + 1 + 1, 5, none⟩ (.int .i64 m.d)).setCell ⟨w.heap.size + 1 + 1, 6, none⟩ (.slice A41 n41 c41)) = w9 at b6' k6 hO6 hE6 ⊢
    have t0 := b6'.cellAt (i := 0) (by simp)
    have t1 := b6'.cellAt (i := 1) (by simp)
    have t2 := b6'.cellAt (i := 2) (by simp)
    have t3 := b6'.cellAt (i := 3) (by simp)
    have t4 := b6'.cellAt (i := 4) (by simp)
    have t5 := b6'.cellAt (i := 5) (by simp)
    have t6 := b6'.cellAt (i := 6) (by simp)
    simp at t0 t1 t2 t3 t4 t5 t6
    refine bodyPost_ret (v := .tuple #[MV.val ⟨Hh1, ⟨A01, n01, c01⟩, ⟨A11, n11, c11⟩, ⟨A21, n21, c21⟩, ⟨A31, n31, c31⟩, m.d, ⟨A41, n41, c41⟩⟩, .bool false]) (by simp [results, Tryz.results28, go_sem, t0, t1, t2, t3, t4, t5, t6, MV.val, MV.cells]) rfl ?_
    exact ⟨_, (by rw [HF.out]), hE6, by rw [HM.out]; exact hO6.weak (by omega)⟩
  case true =>
    have HF : Hid (nightB m x = true) := Lib.hid (HN.out.trans (by simp))
    have HM : Hid (nightM m x = { m with ps := PL, rs := AL }) := Lib.hid (by rw [nightM, if_pos HF.out, HPL.out, HAL.out, moveL, appL, ← HCB.out, ← HAB.out]; rfl)
    have y3 := HB66.out.cellAt (i := 3) (by simp)
    have y6 := HB66.out.cellAt (i := 6) (by simp)
    have f6 := HB66.out.free
    have l6 := HB66.out.lt
    simp at y3 y6
    go_upto_region 10 with fail
    have hk := KeptOut.of_grown (lo := w1.heap.size) (hi := w1.heap.size + 1) (grown_set (grown_set (grown_refl w6 (some w1.heap.size)) 3 (.slice Ap PL.length cp)) 6 (.slice Aa AL.length ca)) (fun k hk => by injection hk with hk; omega)
    have hb7 := (HB66.out.set 3 (.slice Ap PL.length cp)).set 6 (.slice Aa AL.length ca)
    simp only [List.setIfInBounds_toArray, List.set_cons_succ, List.set_cons_zero] at hb7
    have ho7 := HO6.out.below hk HAT.out
    have hp7 := hk.own HP6.out (fun g hg => by have := HAP.out g hg; omega)
    have ha7 := hk.own HA6.out (fun g hg => by have := HAA.out g hg; omega)
    have he7 := hk.ext HE6.out hz2
    generalize (w6.setCell ⟨w1.heap.size, 3, none⟩ (.slice Ap PL.length cp)).setCell ⟨w1.heap.size, 6, none⟩ (.slice Aa AL.length ca) = w7 at hk hb7 ho7 hp7 ha7 he7 ⊢
    have HB7 := Lib.hid hb7
    have HO7 := Lib.hid (ho7.repl HAT.out hp7 HAP.out ha7 HAA.out (by omega) (by omega) (by omega))
    have HE7 := Lib.hid he7
    clear hk hb7 ho7 hp7 ha7 he7 y3 y6 f6 l6
    have Bz := Blk.keep HBz.out HE7.out
    have x0 := Bz.cellAt (i := 0) (by simp)
    have x1 := Bz.cellAt (i := 1) (by simp)
    have x2 := Bz.cellAt (i := 2) (by simp)
    have x3 := Bz.cellAt (i := 3) (by simp)
    have x4 := Bz.cellAt (i := 4) (by simp)
    have x5 := Bz.cellAt (i := 5) (by simp)
    have x6 := Bz.cellAt (i := 6) (by simp)
    have fz := Bz.free
    simp at x0 x1 x2 x3 x4 x5 x6
    have y0 := HB7.out.cellAt (i := 0) (by simp)
    have y1 := HB7.out.cellAt (i := 1) (by simp)
    have y2 := HB7.out.cellAt (i := 2) (by simp)
    have y3 := HB7.out.cellAt (i := 3) (by simp)
    have y4 := HB7.out.cellAt (i := 4) (by simp)
    have y5 := HB7.out.cellAt (i := 5) (by simp)
    have y6 := HB7.out.cellAt (i := 6) (by simp)
    simp at y0 y1 y2 y3 y4 y5 y6
    have lz : w.heap.size + 1 + 1 < w7.heap.size := Bz.lt
    go_wp2_with fail
    obtain ⟨b6', k6⟩ := store7 Bz (.int .i64 Hh1) (.slice A01 n01 c01) (.slice A11 n11 c11) (.slice Ap PL.length cp) (.slice A31 n31 c31) (.int .i64 m.d) (.slice Aa AL.length ca)
    have hO6 := HO7.out.out k6 (by omega)
    have hE6 := k6.ext (HE.out.trans HE7.out) (by omega)
    generalize (((((((w7.setCell ⟨w.heap.size + 1 + 1, 0, none⟩ (.int .i64 Hh1)).setCell ⟨w.heap.size + 1 + 1, 1, none⟩ (.slice A01 n01 c01)).setCell ⟨w.heap.size + 1 + 1, 2, none⟩ (.slice A11 n11 c11)).setCell ⟨w.heap.size + 1 + 1, 3, none⟩ (.slice Ap PL.length cp)).setCell ⟨w.heap.size + 1 + 1, 4, none⟩ (.slice A31 n31 c31)).setCell ⟨w.heap.size + 1 + 1, 5, none⟩ (.int .i64 m.d)).setCell ⟨w.heap.size + 1 + 1, 6, none⟩ (.slice Aa AL.length ca)) = w9 at b6' k6 hO6 hE6 ⊢
    have t0 := b6'.cellAt (i := 0) (by simp)
    have t1 := b6'.cellAt (i := 1) (by simp)
    have t2 := b6'.cellAt (i := 2) (by simp)
    have t3 := b6'.cellAt (i := 3) (by simp)
    have t4 := b6'.cellAt (i := 4) (by simp)
    have t5 := b6'.cellAt (i := 5) (by simp)
    have t6 := b6'.cellAt (i := 6) (by simp)
    simp at t0 t1 t2 t3 t4 t5 t6
    refine bodyPost_ret (v := .tuple #[MV.val ⟨Hh1, ⟨A01, n01, c01⟩, ⟨A11, n11, c11⟩, ⟨Ap, PL.length, cp⟩, ⟨A31, n31, c31⟩, m.d, ⟨Aa, AL.length, ca⟩⟩, .bool true]) (by simp [results, Tryz.results28, go_sem, t0, t1, t2, t3, t4, t5, t6, MV.val, MV.cells]) rfl ?_
    exact ⟨_, (by rw [HF.out]), hE6, by rw [HM.out]; exact hO6.weak (by omega)⟩
end Go.Proofs.YtkelmeemblmggaaGreatDoor
