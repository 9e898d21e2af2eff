/- Houses: doors, neighbours, and the search through the halls; no condition but what stands at each theorem. -/
import Derived.Test.YtkelmeemblmggaaT1
import Derived.Test.YtkelmeemblmggaaK0
namespace Go.Proofs.Ytkelmeemblmggaa
set_option linter.unusedSimpArgs false
set_option linter.unusedVariables false
def doorOk (H : Int) (d : GDoor) : Bool := decide (0 ≤ d.a) && decide (d.a < d.b) && decide (d.b < H)
def dlt (p d : GDoor) : Bool := decide (p.a < d.a) || ((p.a == d.a) && decide (p.b < d.b))
def doorsOk (H : Int) : Option GDoor → List GDoor → Bool
  | _, [] => true
  | none, d :: r => doorOk H d && doorsOk H (some d) r
  | some p, d :: r => doorOk H d && dlt p d && doorsOk H (some d) r
def formB (H : Int) (ds : List GDoor) : Bool := inB H 1 7 && decide (ds.length ≤ 12) && doorsOk H none ds
def isDoor (x k : Int) (d : GDoor) : Bool := (d.a == imin x k) && (d.b == imax x k)
def doorB (ds : List GDoor) (x k : Int) : Bool := ds.any (isDoor x k)
/-- What the program's linksOf lists. -/
def linksTo (ds : List GDoor) (x : Int) (k : Nat) : List Int := (List.range k).flatMap fun (j : Nat) => (ds.filter (isDoor x j)).map fun _ => (j : Int)
theorem linksTo_succ (ds : List GDoor) (x : Int) (k : Nat) : linksTo ds x (k + 1) = linksTo ds x k ++ (ds.filter (isDoor x k)).map fun _ => (k : Int) := by
  simp [linksTo, List.range_succ]
theorem linksTo_len (ds : List GDoor) (x : Int) (k : Nat) : (linksTo ds x k).length ≤ k * ds.length := by
  induction k with
  | zero => simp [linksTo]
  | succ k ih =>
    rw [linksTo_succ, List.length_append, List.length_map, Nat.add_mul]
    have := List.length_filter_le (isDoor x k) ds
    omega
theorem isDoor_comm (x k : Int) (d : GDoor) : isDoor x k d = isDoor k x d := by
  unfold isDoor imin imax
  by_cases h : x < k
  · have h2 : ¬ k < x := by omega
    simp [h, h2]
  · by_cases h2 : k < x
    · simp [h, h2]
    · have : x = k := by omega
      subst this; simp
theorem doorB_comm (ds : List GDoor) (x k : Int) : doorB ds x k = doorB ds k x := by
  unfold doorB
  congr 1
  funext d
  exact isDoor_comm x k d
/-- No door stands twice. -/
def NoTwice (ds : List GDoor) : Prop := ds.Pairwise fun p d => dlt p d = true
theorem dlt_irrefl {p d : GDoor} (h : dlt p d = true) : ¬ (p.a = d.a ∧ p.b = d.b) := by
  simp only [dlt, Bool.or_eq_true, Bool.and_eq_true, decide_eq_true_eq, beq_iff_eq] at h
  omega
theorem dlt_trans {a b c : GDoor} (h : dlt a b = true) (k : dlt b c = true) : dlt a c = true := by
  simp only [dlt, Bool.or_eq_true, Bool.and_eq_true, decide_eq_true_eq, beq_iff_eq] at *
  omega
theorem doorsOk_some {H : Int} : ∀ {ds : List GDoor} {p : GDoor}, doorsOk H (some p) ds = true → (∀ d ∈ ds, doorOk H d = true ∧ dlt p d = true) ∧ NoTwice ds
  | [], _, _ => ⟨fun d hd => by simp at hd, List.Pairwise.nil⟩
  | d :: r, p, h => by
    simp only [doorsOk, Bool.and_eq_true] at h
    obtain ⟨h1, h2⟩ := doorsOk_some h.2
    refine ⟨fun e he => ?_, List.Pairwise.cons (fun e he => (h1 e he).2) h2⟩
    rcases List.mem_cons.1 he with rfl | he
    · exact h.1
    · exact ⟨(h1 e he).1, dlt_trans h.1.2 (h1 e he).2⟩
theorem doorsOk_spec {H : Int} {ds : List GDoor} (h : doorsOk H none ds = true) : (∀ d ∈ ds, doorOk H d = true) ∧ NoTwice ds := by
  cases ds with
  | nil => exact ⟨fun d hd => by simp at hd, List.Pairwise.nil⟩
  | cons d r =>
    simp only [doorsOk, Bool.and_eq_true] at h
    obtain ⟨h1, h2⟩ := doorsOk_some h.2
    refine ⟨fun e he => ?_, List.Pairwise.cons (fun e he => (h1 e he).2) h2⟩
    rcases List.mem_cons.1 he with rfl | he
    · exact h.1
    · exact (h1 e he).1
theorem filter_door {x k : Int} : ∀ {ds : List GDoor}, NoTwice ds → ((ds.filter (isDoor x k)).map fun _ => k) = if doorB ds x k = true then [k] else []
  | [], _ => rfl
  | d :: r, h => by
    unfold NoTwice at h
    rw [List.pairwise_cons] at h
    have ih := filter_door (x := x) (k := k) h.2
    rw [List.filter_cons]
    have hd : doorB (d :: r) x k = (isDoor x k d || doorB r x k) := by simp [doorB]
    rw [hd]
    cases hi : isDoor x k d with
    | false => simpa using ih
    | true =>
      have hr : r.filter (isDoor x k) = [] := by
        rw [List.filter_eq_nil_iff]
        intro e he hc
        refine dlt_irrefl (h.1 e he) ?_
        simp only [isDoor, Bool.and_eq_true, beq_iff_eq] at hi hc
        exact ⟨by rw [hi.1, hc.1], by rw [hi.2, hc.2]⟩
      simp [hr]
/-- The neighbours of x, ascending. -/
def nbr (ds : List GDoor) (h : Nat) (x : Int) : List Nat := (List.range h).filter fun k => doorB ds x k
theorem linksTo_nbr {ds : List GDoor} (hs : NoTwice ds) (x : Int) (h : Nat) : linksTo ds x h = (nbr ds h x).map fun (k : Nat) => (k : Int) := by
  induction h with
  | zero => rfl
  | succ h ih =>
    have e : ((ds.filter (isDoor x h)).map fun _ => (h : Int)) = if doorB ds x h = true then [(h : Int)] else [] := filter_door hs
    rw [linksTo_succ, ih, e, nbr, nbr, List.range_succ, List.filter_append]
    cases hd : doorB ds x h <;> simp [hd]
theorem nbr_len (ds : List GDoor) (h : Nat) (x : Int) : (nbr ds h x).length ≤ h := by
  unfold nbr; exact Nat.le_trans (List.length_filter_le _ _) (by simp)
theorem nbr_lt {ds : List GDoor} {h : Nat} {x : Int} {k : Nat} (hk : k ∈ nbr ds h x) : k < h := by
  unfold nbr at hk; simpa using (List.mem_filter.1 hk).1
/-- The search: the halls found so far in their order, from where each was found, how far each is. -/
structure BS where
  q : List Int
  f : List Int
  d : List Int
def vis (x : Int) (S : BS) (k : Nat) : BS := if S.f.getD k 0 < 0 then ⟨S.q ++ [(k : Int)], S.f.set k x, S.d.set k (S.d.getD x.toNat 0 + 1)⟩ else S
def visB (ds : List GDoor) (x : Int) (S : BS) (k : Nat) : BS := if doorB ds x k then vis x S k else S
def rnd (ds : List GDoor) (h : Nat) (S : BS) (i : Nat) : BS := (List.range h).foldl (visB ds (S.q.getD i 0)) S
def bfs (ds : List GDoor) (h : Nat) : Nat → Nat → BS → BS
  | 0, _, S => S
  | n + 1, i, S => if i < S.q.length then bfs ds h n (i + 1) (rnd ds h S i) else S
def bs0 (h a : Nat) : BS := ⟨[(a : Int)], (List.replicate h (-1)).set a (a : Int), (List.replicate h (-1)).set a 0⟩
def bfsAll (ds : List GDoor) (h a : Nat) : BS := bfs ds h h 0 (bs0 h a)
theorem rnd_nbr (ds : List GDoor) (h : Nat) (S : BS) (i : Nat) : rnd ds h S i = (nbr ds h (S.q.getD i 0)).foldl (vis (S.q.getD i 0)) S := by
  unfold rnd nbr
  rw [List.foldl_filter]
  rfl
structure BInv (a h : Nat) (S : BS) : Prop where
  ah : a < h
  lf : S.f.length = h
  ld : S.d.length = h
  iff_ : ∀ k, k < h → (S.f.getD k 0 < 0 ↔ S.d.getD k 0 < 0)
  qin : ∀ x ∈ S.q, ∃ k, k < h ∧ x = (k : Int) ∧ 0 ≤ S.f.getD k 0
  cnt : S.q.length = S.f.countP fun z => decide (0 ≤ z)
  par : ∀ k, k < h → 0 ≤ S.f.getD k 0 → k ≠ a → ∃ p, p < h ∧ S.f.getD k 0 = (p : Int) ∧ 0 ≤ S.f.getD p 0 ∧ S.d.getD k 0 = S.d.getD p 0 + 1
  root : S.f.getD a 0 = (a : Int) ∧ S.d.getD a 0 = 0
  dlt_ : ∀ k, k < h → 0 ≤ S.f.getD k 0 → S.d.getD k 0 < S.q.length
theorem BInv.qle {a h : Nat} {S : BS} (I : BInv a h S) : S.q.length ≤ h := by
  rw [I.cnt, ← I.lf]; exact List.countP_le_length
theorem getD_set' (l : List Int) (i j : Nat) (x : Int) (hi : i < l.length) : (l.set i x).getD j 0 = if j = i then x else l.getD j 0 := by
  by_cases h : j = i
  · subst h; simp [hi]
  · rw [if_neg h]; simp [Ne.symm h]
theorem countP_set {l : List Int} {k : Nat} {x : Int} (hk : k < l.length) (h0 : l.getD k 0 < 0) (hx : 0 ≤ x) : (l.set k x).countP (fun z => decide (0 ≤ z)) = l.countP (fun z => decide (0 ≤ z)) + 1 := by
  induction l generalizing k with
  | nil => simp at hk
  | cons y l ih =>
    cases k with
    | zero =>
      simp only [List.set_cons_zero, List.countP_cons]
      have hy : ¬ 0 ≤ y := by simp at h0; omega
      simp [hx, hy]
    | succ k =>
      simp only [List.set_cons_succ, List.countP_cons]
      have := ih (k := k) (by simpa using hk) (by simpa using h0)
      omega
theorem BInv.vis {a h : Nat} {S : BS} (I : BInv a h S) {p k : Nat} (hp : p < h) (hfp : 0 ≤ S.f.getD p 0) (hk : k < h) : BInv a h (vis (p : Int) S k) := by
  unfold Proofs.Ytkelmeemblmggaa.vis
  by_cases hf : S.f.getD k 0 < 0
  · rw [if_pos hf]
    have lf := I.lf
    have ld := I.ld
    have hka : k ≠ a := by rintro rfl; have := I.root.1; omega
    have hkp : k ≠ p := by rintro rfl; omega
    have gf : ∀ j, (S.f.set k (p : Int)).getD j 0 = if j = k then (p : Int) else S.f.getD j 0 := fun j => getD_set' _ _ _ _ (by omega)
    have gd : ∀ j, (S.d.set k (S.d.getD p 0 + 1)).getD j 0 = if j = k then S.d.getD p 0 + 1 else S.d.getD j 0 := fun j => getD_set' _ _ _ _ (by omega)
    have hdp := I.dlt_ p hp hfp
    have hdp0 : 0 ≤ S.d.getD p 0 := by have := (I.iff_ p hp); omega
    rw [Int.toNat_natCast]
    refine ⟨I.ah, by simpa using lf, by simpa using ld, ?_, ?_, ?_, ?_, ?_, ?_⟩
    · intro j hj
      simp only [gf, gd]
      by_cases hjk : j = k
      · simp only [hjk, if_true]; omega
      · simp only [hjk, if_false]; exact I.iff_ j hj
    · intro x hx
      simp only at hx
      rcases List.mem_append.1 hx with hx | hx
      · obtain ⟨j, h1, h2, h3⟩ := I.qin x hx
        refine ⟨j, h1, h2, ?_⟩
        simp only [gf]
        split <;> omega
      · simp at hx
        refine ⟨k, hk, hx, ?_⟩
        simp only [gf, if_true]; omega
    · simp only
      rw [countP_set (by omega) hf (by omega), List.length_append, I.cnt]; rfl
    · intro j hj hfj hja
      simp only [gf, gd] at hfj ⊢
      by_cases hjk : j = k
      · subst hjk
        simp only [if_true]
        exact ⟨p, hp, rfl, by rw [if_neg (Ne.symm hkp)]; exact hfp, by rw [if_neg (Ne.symm hkp)]⟩
      · simp only [hjk, if_false] at hfj ⊢
        obtain ⟨r, h1, h2, h3, h4⟩ := I.par j hj hfj hja
        have hrk : r ≠ k := by rintro rfl; omega
        exact ⟨r, h1, h2, by rw [if_neg hrk]; exact h3, by rw [if_neg hrk]; exact h4⟩
    · simp only [gf, gd, Ne.symm hka, if_false]
      exact I.root
    · intro j hj hfj
      simp only [gf, gd, List.length_append, List.length_cons, List.length_nil] at hfj ⊢
      by_cases hjk : j = k
      · simp only [hjk, if_true]; omega
      · simp only [hjk, if_false] at hfj ⊢
        have := I.dlt_ j hj hfj
        omega
  · rw [if_neg hf]; exact I
theorem vis_mono {x : Int} {S : BS} {k j : Nat} (hx : 0 ≤ x) (h : 0 ≤ S.f.getD j 0) : 0 ≤ (vis x S k).f.getD j 0 := by
  unfold vis
  split
  · rename_i hf
    by_cases hk : k < S.f.length
    · simp only; rw [getD_set' _ _ _ _ hk]; split <;> omega
    · simp only; rw [List.set_eq_of_length_le (by omega)]; exact h
  · exact h
theorem vis_q {x : Int} {S : BS} {k i : Nat} (hi : i < S.q.length) : (vis x S k).q.getD i 0 = S.q.getD i 0 ∧ i < (vis x S k).q.length := by
  unfold vis
  split
  · simp only [List.length_append]; refine ⟨?_, by omega⟩; simp [List.getElem?_append_left hi]
  · exact ⟨rfl, hi⟩
theorem BInv.fold {a h : Nat} {p : Nat} (hp : p < h) : ∀ (ns : List Nat) {S : BS}, BInv a h S → 0 ≤ S.f.getD p 0 → (∀ k ∈ ns, k < h) → BInv a h (ns.foldl (Proofs.Ytkelmeemblmggaa.vis (p : Int)) S)
  | [], S, I, _, _ => I
  | k :: ns, S, I, hf, hn => BInv.fold hp ns (I.vis hp hf (hn k (by simp))) (vis_mono (by omega) hf) (fun j hj => hn j (by simp [hj]))
theorem BInv.rnd {a h : Nat} {ds : List GDoor} {S : BS} (I : BInv a h S) {i : Nat} (hi : i < S.q.length) : BInv a h (rnd ds h S i) := by
  obtain ⟨p, hp, hx, hf⟩ := I.qin (S.q.getD i 0) (by
    have : S.q.getD i 0 = S.q[i] := by simp [hi]
    rw [this]; exact List.getElem_mem hi)
  rw [rnd_nbr, hx]
  exact BInv.fold hp _ I hf (fun k hk => nbr_lt hk)
theorem binv0 {a h : Nat} (ha : a < h) : BInv a h (bs0 h a) := by
  have g : ∀ (z x : Int) j, ((List.replicate h z).set a x).getD j 0 = if j = a then x else (List.replicate h z).getD j 0 := fun z x j => getD_set' _ _ _ _ (by simpa using ha)
  have r : ∀ j, j < h → (List.replicate h (-1 : Int)).getD j 0 = -1 := by intro j hj; simp [hj]
  have hn : ∀ n, (List.replicate n (-1 : Int)).countP (fun z => decide (0 ≤ z)) = 0 := by intro n; simp [List.countP_replicate]
  refine ⟨ha, by simp [bs0], by simp [bs0], ?_, ?_, ?_, ?_, ?_, ?_⟩
  · intro k hk
    simp only [bs0, g]
    split
    · omega
    · rw [r k hk]
  · intro x hx
    simp [bs0] at hx
    exact ⟨a, ha, hx, by simp only [bs0, g, if_true]; omega⟩
  · simp only [bs0]
    rw [countP_set (by simpa using ha) (by rw [r a ha]; omega) (by omega), hn]; rfl
  · intro k hk hf hka
    simp only [bs0, g, hka, if_false] at hf
    rw [r k hk] at hf
    omega
  · simp only [bs0, g, if_true]; exact ⟨trivial, trivial⟩
  · intro k hk hf
    simp only [bs0, g] at hf ⊢
    by_cases hka : k = a
    · simp [hka]
    · simp only [hka, if_false] at hf; rw [r k hk] at hf; omega
theorem BInv.bfs {a h : Nat} {ds : List GDoor} : ∀ (n i : Nat) {S : BS}, BInv a h S → BInv a h (bfs ds h n i S)
  | 0, _, _, I => I
  | n + 1, i, S, I => by
    unfold Proofs.Ytkelmeemblmggaa.bfs
    split
    · rename_i hi; exact BInv.bfs n (i + 1) (I.rnd hi)
    · exact I
theorem BInv.all {a h : Nat} (ds : List GDoor) (ha : a < h) : BInv a h (bfsAll ds h a) := BInv.bfs h 0 (binv0 ha)
def reachB (ds : List GDoor) (h a b : Nat) : Bool := decide (0 ≤ (bfsAll ds h a).f.getD b 0)
def houseB (H : Int) (ds : List GDoor) : Bool := formB H ds && (List.range H.toNat).all fun k => reachB ds H.toNat 0 k
end Go.Proofs.Ytkelmeemblmggaa
