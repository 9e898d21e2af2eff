/- Texts of one proof, laid one behind the other (KL, MZ, MB, MX, SD1, ST8, STa, STb, SDj, TB); no condition but what stands at each theorem. -/
import Derived.BigRegion
import Derived.Test.YtfhibjehnoibeaaDoorRows
import Derived.Lib.ItoaMem
import Derived.Lib.LaidTab
import Derived.LaidMore
import Derived.Test.YtfhibjehnoibeaaDoorZA
import Derived.Test.YtfhibjehnoibeaaDoorZB
import Derived.Test.YtfhibjehnoibeaaDoorZG
import Derived.Test.YtfhibjehnoibeaaDoorZH
/- Lengths of a museum's rows behind acts, rows that lie apart from a museum's; no condition but what stands at each theorem. -/
namespace Go.Proofs.YtfhibjehnoibeaaDoor
set_option linter.unusedSimpArgs false
set_option linter.unusedVariables false
open Go.RowKit Go.Sort
/-- The lengths of a museum's rows behind acts. -/
def LensOk (m m' : GMuseum) : Prop := m'.ds.length = m.ds.length ∧ m'.fs.length = m.fs.length ∧ m'.ps.length = m.ps.length ∧ m'.gs.length = m.gs.length ∧ (m'.rs.length ≤ m.rs.length ∨ m'.rs.length ≤ 31)
theorem LensOk.refl (m : GMuseum) : LensOk m m := ⟨rfl, rfl, rfl, rfl, .inl (Nat.le_refl _)⟩
theorem LensOk.trans {a b c : GMuseum} (h : LensOk a b) (k : LensOk b c) : LensOk a c := by
  obtain ⟨h1, h2, h3, h4, h5⟩ := h
  obtain ⟨k1, k2, k3, k4, k5⟩ := k
  exact ⟨k1.trans h1, k2.trans h2, k3.trans h3, k4.trans h4, by omega⟩
theorem act_lens (m : GMuseum) (a : GAct) : LensOk m (actM m a) := by
  unfold actM
  split
  · split
    · obtain ⟨h1, h2, h3, h4, h5⟩ := guardM_lens m a.a a.b
      exact ⟨h1, h2, h3, h4, .inl (by omega)⟩
    · split
      · obtain ⟨h1, h2, h3, h4, -⟩ := nightM_lens m ⟨a.a, a.b, a.c, a.d⟩
        exact ⟨h1, h2, h3, h4, nightM_rs m _⟩
      · split
        · obtain ⟨h1, h2, h3, h4, h5⟩ := daysM_lens m a.a
          exact ⟨h1, h2, h3, h4, .inl (by omega)⟩
        · exact LensOk.refl m
  · exact LensOk.refl m
theorem run_lens : ∀ (acts : List GAct) (m : GMuseum) (l : List Int), LensOk m (runF m acts l).1
  | [], m, _ => LensOk.refl m
  | a :: r, m, l => by
    rw [runF]
    exact (act_lens m a).trans (run_lens r _ _)
theorem fit_lens {w : World} {base : Nat} {v v' : MV} {m m' : GMuseum} (h : MOwn w base v m') (hl : LensOk m m') {w' : World} (hx : MRd w' v' m) (hf : MFit v') : MFit v := by
  obtain ⟨a1, a2, a3, a4, a5⟩ := h.rd.lens
  obtain ⟨b1, b2, b3, b4, b5⟩ := hx.lens
  obtain ⟨c1, c2, c3, c4, c5⟩ := hl
  have d1 := hf.nd
  have d2 := hf.nf
  have d3 := hf.np
  have d4 := hf.ng
  have d5 := hf.nr
  exact MFit.of_own h (by omega) (by omega) (by omega) (by omega) (by omega)
/-- A museum's rows lie apart from another row. -/
def MApart (v : MV) (o : Value) : Prop := Apart v.sd.v o ∧ Apart v.sf.v o ∧ Apart v.sp.v o ∧ Apart v.sg.v o ∧ Apart v.sr.v o
theorem MOwn.grown {w w' : World} {base : Nat} {v : MV} {m : GMuseum} {o : Value} (h : MOwn w base v m) (a : MApart v o) (g : w.grownBy w' o.ownBlock) : MOwn w' base v m :=
  ⟨h.eH, h.ed, own_apart h.od a.1 g, own_apart h.of_ a.2.1 g, own_apart h.op a.2.2.1 g, own_apart h.og a.2.2.2.1 g, own_apart h.or_ a.2.2.2.2 g, h.ap⟩
theorem MApart.moved {w : World} {base : Nat} {v : MV} {m : GMuseum} {o o' : Value} (a : MApart v o) (h : MOwn w base v m) (ho : ∀ g, o'.ownBlock = some g → o.ownBlock = some g ∨ w.heap.size ≤ g) : MApart v o' := by
  have key : ∀ {e : TypeId} {mm n : Nat} {u : Value} {L : List Value}, w.ownsRow base e mm u n L → Apart u o → Apart u o' := fun hu ha g hg hg' => by
    rcases ho g hg' with h1 | h1
    · exact ha g hg h1
    · have := (hu.lt g hg).2
      omega
  exact ⟨key h.od a.1, key h.of_ a.2.1, key h.op a.2.2.1, key h.og a.2.2.2.1, key h.or_ a.2.2.2.2⟩
theorem MApart.of_at {lo hi lo' hi' : Nat} {v : MV} {o : Value} (a : MAt lo hi v) (b : At lo' hi' o) (h : hi ≤ lo' ∨ hi' ≤ lo) : MApart v o :=
  ⟨Apart.of_at a.1 b h, Apart.of_at a.2.1 b h, Apart.of_at a.2.2.1 b h, Apart.of_at a.2.2.2.1 b h, Apart.of_at a.2.2.2.2 b h⟩
theorem MApart.nil (v : MV) : MApart v (.slice none 0 0) := by
  have : ∀ u, Apart u (.slice none 0 0) := fun u g _ h => by simp [Value.ownBlock] at h
  exact ⟨this _, this _, this _, this _, this _⟩
/-- A museum's rows lie in lo..hi, another row lies elsewhere. -/
def MRange (b : Nat) (w : World) (v : MV) (o : Value) : Prop := ∃ lo hi, b ≤ lo ∧ hi ≤ w.heap.size ∧ MAt lo hi v ∧ ∀ g, o.ownBlock = some g → g < lo ∨ hi ≤ g
theorem MRange.grow {b b' : Nat} {w w' : World} {v : MV} {o : Value} (h : MRange b w v o) (hb : b' ≤ b) (hs : w.heap.size ≤ w'.heap.size) : MRange b' w' v o := by
  obtain ⟨lo, hi, h1, h2, h3, h4⟩ := h
  exact ⟨lo, hi, by omega, by omega, h3, h4⟩
theorem own_base {w : World} {base lo hi : Nat} {e : TypeId} {m n : Nat} {v : Value} {L : List Value} (h : w.ownsRow base e m v n L) (a : At lo hi v) : w.ownsRow lo e m v n L := by
  obtain ⟨h1, h2⟩ := h
  rcases h2 with h2 | ⟨g, cap, cur, rfl, hg, r⟩
  · exact ⟨h1, .inl h2⟩
  · exact ⟨h1, .inr ⟨g, cap, cur, rfl, (a g rfl).1, r⟩⟩
theorem MOwn.base {w : World} {base lo hi : Nat} {v : MV} {m : GMuseum} (h : MOwn w base v m) (a : MAt lo hi v) : MOwn w lo v m :=
  ⟨h.eH, h.ed, own_base h.od a.1, own_base h.of_ a.2.1, own_base h.op a.2.2.1, own_base h.og a.2.2.2.1, own_base h.or_ a.2.2.2.2, h.ap⟩
/-- A museum and numbers, all in rows of the call's own. -/
def RunPost (M : GMuseum) (L : List Int) (w : World) (e : Ending) (w' : World) : Prop :=
  ∃ (v : MV) (o : Value), e = .returned (.tuple #[v.val, o]) ∧ Ext w w' ∧ MOwn w' w.heap.size v M ∧ w'.ownsRow w.heap.size 3 1 o L.length (L.flatMap ienc) ∧ MApart v o ∧ MRange w.heap.size w' v o
theorem run_no {m : GMuseum} {acts : List GAct} (h : runB m acts = false) : runM m acts = m ∧ runL m acts = [] := by
  unfold runM runL; rw [h]; exact ⟨rfl, rfl⟩
theorem run_yes {m : GMuseum} {acts : List GAct} (h : runB m acts = true) : runM m acts = (runF m acts []).1 ∧ runL m acts = (runF m acts []).2 := by
  unfold runM runL; rw [h]; exact ⟨rfl, rfl⟩
theorem one_intR (z : Int) : ∀ u ∈ [Value.int .i64 z], u.oneCell' = true := by intro u hu; simp at hu; subst hu; rfl
end Go.Proofs.YtfhibjehnoibeaaDoor
/- Museums as a draw makes them; plain, no program; no condition but what stands at each theorem. -/
namespace Go.Proofs.YtfhibjehnoibeaaDoor
set_option linter.unusedSimpArgs false
set_option linter.unusedVariables false
open Go.RowKit Go.Sort
/-- A museum as a draw makes it: its record can be audited, it has an object and two guards, its day is early. -/
structure DMus (m : GMuseum) (D : Int) : Prop where
  au : Audited m
  np : 1 ≤ m.ps.length
  ng : 2 ≤ m.gs.length
  nd : m.d ≤ D
theorem days_same (m : GMuseum) (d : Int) : (daysM m d).H = m.H ∧ (daysM m d).ds = m.ds := by unfold daysM; split <;> exact ⟨rfl, rfl⟩
theorem guard_same (m : GMuseum) (g k : Int) : (guardM m g k).H = m.H ∧ (guardM m g k).ds = m.ds ∧ (guardM m g k).d = m.d := by unfold guardM; split <;> exact ⟨rfl, rfl, rfl⟩
theorem night_same (m : GMuseum) (x : GMove) : (nightM m x).H = m.H ∧ (nightM m x).ds = m.ds ∧ (nightM m x).d = m.d := by unfold nightM; split <;> exact ⟨rfl, rfl, rfl⟩
theorem DMus.mono {m : GMuseum} {D D' : Int} (h : DMus m D) (k : D ≤ D') : DMus m D' := ⟨h.au, h.np, h.ng, by have := h.nd; omega⟩
theorem DMus.days {m : GMuseum} {D : Int} (h : DMus m D) (d : Int) (h0 : 0 ≤ d) : DMus (daysM m d) (D + d) := by
  obtain ⟨-, -, h3, h4, -⟩ := daysM_lens m d
  refine ⟨audited_days h.au d, by rw [h3]; exact h.np, by rw [h4]; exact h.ng, ?_⟩
  have := h.nd
  unfold daysM
  split
  · show m.d + d ≤ D + d; omega
  · omega
theorem DMus.guard {m : GMuseum} {D : Int} (h : DMus m D) (g k : Int) : DMus (guardM m g k) D := by
  obtain ⟨-, -, h3, h4, -⟩ := guardM_lens m g k
  exact ⟨audited_guard h.au g k, by rw [h3]; exact h.np, by rw [h4]; exact h.ng, by rw [(guard_same m g k).2.2]; exact h.nd⟩
theorem DMus.night {m : GMuseum} {D : Int} (h : DMus m D) (x : GMove) : DMus (nightM m x) D := by
  obtain ⟨-, -, h3, h4, -⟩ := nightM_lens m x
  exact ⟨audited_night h.au x, by rw [h3]; exact h.np, by rw [h4]; exact h.ng, by rw [(night_same m x).2.2]; exact h.nd⟩
theorem placesB_parts {H : Int} {ds : List GDoor} {xs : List Int} (h : placesB H ds xs = true) : xs.length ≤ 6 ∧ houseB H ds = true ∧ ∀ x ∈ xs, 0 ≤ x ∧ x < H := by
  unfold placesB at h
  simp only [Bool.and_eq_true, decide_eq_true_eq] at h
  have h2 := h.2
  unfold hallsB at h2
  simp only [Bool.and_eq_true, List.all_eq_true] at h2
  exact ⟨h.1, h2.2, fun x hx => (hallB_iff h2.2).1 (h2.1 x hx)⟩
theorem museum_lens {m : GMuseum} (h : museumB m = true) : m.ds.length ≤ 12 ∧ m.fs.length ≤ 6 ∧ m.ps.length ≤ 6 ∧ m.gs.length ≤ 6 ∧ m.rs.length ≤ 30 := by
  have hH := houseB_spec (museumB_house h)
  rw [museumB_parts] at h
  obtain ⟨a1, a2, a3, a4, a5, a6, a7, a8⟩ := h
  exact ⟨hH.2.2.1, (placesB_parts a1).1, (placesB_parts a2).1, a4, sealed_len a7⟩
theorem museum_places {m : GMuseum} (h : museumB m = true) : ∀ x ∈ m.ps, 0 ≤ x ∧ x < m.H := by
  rw [museumB_parts] at h
  exact (placesB_parts h.2.1).2.2
theorem museum_guards {m : GMuseum} (h : museumB m = true) : ∀ x ∈ m.gs, 0 ≤ x ∧ x < m.H := by
  have hH := museumB_house h
  rw [museumB_parts] at h
  have h5 := h.2.2.2.2.1
  unfold hallsB at h5
  simp only [Bool.and_eq_true, List.all_eq_true] at h5
  exact fun x hx => (hallB_iff hH).1 (h5.1 x hx)
theorem fit_ok {w : World} {base : Nat} {v : MV} {m : GMuseum} (h : MOwn w base v m) (hm : museumB m = true) : MFit v := by
  obtain ⟨a1, a2, a3, a4, a5⟩ := h.rd.lens
  obtain ⟨b1, b2, b3, b4, b5⟩ := museum_lens hm
  exact MFit.of_own h (by omega) (by omega) (by omega) (by omega) (by omega)
theorem raw_ok {H : Int} {ds : List GDoor} {ps gs : List Int} (hB : houseB H ds = true) (hp : ps.length ≤ 6) (hg : gs.length ≤ 6) (h1 : ∀ x ∈ ps, 0 ≤ x ∧ x < H) (h2 : ∀ x ∈ gs, 0 ≤ x ∧ x < H) : museumB (rawM H ds ps gs) = true := by
  have k1 : placesB H ds ps = true := by
    unfold placesB hallsB
    simp only [Bool.and_eq_true, decide_eq_true_eq, List.all_eq_true]
    exact ⟨hp, fun x hx => (hallB_iff hB).2 (h1 x hx), hB⟩
  have k2 : hallsB H ds gs = true := by
    unfold hallsB
    simp only [Bool.and_eq_true, List.all_eq_true]
    exact ⟨fun x hx => (hallB_iff hB).2 (h2 x hx), hB⟩
  exact museumB_parts.2 ⟨k1, k1, rfl, hg, k2, by simp [rawM, inB], by rfl, fun e he => by cases he⟩
theorem new_ok {H : Int} {ds : List GDoor} {ps gs : List Int} (hB : houseB H ds = true) (hp : ps.length ≤ 6) (hg : gs.length ≤ 6) (h1 : ∀ x ∈ ps, 0 ≤ x ∧ x < H) (h2 : ∀ x ∈ gs, 0 ≤ x ∧ x < H) (hp1 : 1 ≤ ps.length) (hg2 : 2 ≤ gs.length) : DMus (newM H ds ps gs) 0 ∧ (newM H ds ps gs).H = H ∧ (newM H ds ps gs).ds = ds := by
  have hr := raw_ok hB hp hg h1 h2
  have ha := audited_new hr
  have he : newM H ds ps gs = rawM H ds ps gs := by unfold newM; rw [if_pos hr]
  rw [he] at ha ⊢
  exact ⟨⟨ha, hp1, hg2, Int.le_refl 0⟩, rfl, rfl⟩
end Go.Proofs.YtfhibjehnoibeaaDoor
/- The search through the halls finds each hall at its distance; the halls that a set of keys opens; no condition but what stands at each theorem. -/
namespace Go.Proofs.YtfhibjehnoibeaaDoor
set_option linter.unusedSimpArgs false
set_option linter.unusedVariables false
/-- The halls that can be reached from a in at most n steps. -/
def ball (ds : List GDoor) (h a : Nat) : Nat → Nat → Bool
  | 0, k => k == a
  | n + 1, k => ball ds h a n k || (List.range h).any fun (j : Nat) => ball ds h a n j && doorB ds j k
theorem ball_up {ds : List GDoor} {h a n m k : Nat} (hb : ball ds h a n k = true) (hm : n ≤ m) : ball ds h a m k = true := by
  induction m with
  | zero => obtain rfl : n = 0 := by omega
            exact hb
  | succ m ih =>
    by_cases e : n = m + 1
    · subst e; exact hb
    · simp only [ball, Bool.or_eq_true]; exact .inl (ih (by omega))
theorem ball_step {ds : List GDoor} {h a n j k : Nat} (hj : j < h) (hb : ball ds h a n j = true) (hd : doorB ds j k = true) : ball ds h a (n + 1) k = true := by
  simp only [ball, Bool.or_eq_true, List.any_eq_true, Bool.and_eq_true]
  exact .inr ⟨j, by simpa using hj, hb, hd⟩
theorem ball_cases {ds : List GDoor} {h a n k : Nat} (hb : ball ds h a (n + 1) k = true) : ball ds h a n k = true ∨ ∃ j, j < h ∧ ball ds h a n j = true ∧ doorB ds j k = true := by
  simp only [ball, Bool.or_eq_true, List.any_eq_true, Bool.and_eq_true] at hb
  rcases hb with hb | ⟨j, h1, h2, h3⟩
  · exact .inl hb
  · exact .inr ⟨j, by simpa using h1, h2, h3⟩
theorem ball_left {ds : List GDoor} {h a j : Nat} (ha : a < h) (hd : doorB ds a j = true) : ∀ {n k : Nat}, ball ds h j n k = true → ball ds h a (n + 1) k = true
  | 0, k, hb => by
    simp only [ball, beq_iff_eq] at hb
    subst hb
    exact ball_step (n := 0) ha (by simp [ball]) hd
  | n + 1, k, hb => by
    rcases ball_cases hb with hb | ⟨i, h1, h2, h3⟩
    · exact ball_up (ball_left ha hd hb) (by omega)
    · exact ball_step h1 (ball_left ha hd h2) h3
theorem ball_sym {ds : List GDoor} {h : Nat} : ∀ {n a k : Nat}, k < h → ball ds h a n k = true → ball ds h k n a = true
  | 0, a, k, _, hb => by simp only [ball, beq_iff_eq] at hb ⊢; exact hb.symm
  | n + 1, a, k, hk, hb => by
    rcases ball_cases hb with hb | ⟨j, h1, h2, h3⟩
    · exact ball_up (ball_sym hk hb) (by omega)
    · exact ball_left hk (by rw [doorB_comm]; exact h3) (ball_sym h1 h2)
/-- The search, some way on: i halls are done. -/
structure Seen (ds : List GDoor) (a h i : Nat) (S : BS) : Prop where
  inv : BInv a h S
  snd : ∀ k, k < h → 0 ≤ S.f.getD k 0 → ∃ n : Nat, S.d.getD k 0 = (n : Int) ∧ ball ds h a n k = true
  inq : ∀ k, k < h → 0 ≤ S.f.getD k 0 → ∃ j, j < S.q.length ∧ S.q.getD j 0 = (k : Int)
  done : ∀ j, j < i → j < S.q.length → ∀ k, k < h → doorB ds (S.q.getD j 0) k = true → 0 ≤ S.f.getD k 0 ∧ S.d.getD k 0 ≤ S.d.getD (S.q.getD j 0).toNat 0 + 1
  mono : ∀ j j', j ≤ j' → j' < S.q.length → S.d.getD (S.q.getD j 0).toNat 0 ≤ S.d.getD (S.q.getD j' 0).toNat 0
  top : i < S.q.length → ∀ j, j < S.q.length → S.d.getD (S.q.getD j 0).toNat 0 ≤ S.d.getD (S.q.getD i 0).toNat 0 + 1
theorem Seen.at_ {ds : List GDoor} {a h i : Nat} {S : BS} (I : Seen ds a h i S) {j : Nat} (hj : j < S.q.length) : ∃ k, k < h ∧ S.q.getD j 0 = (k : Int) ∧ 0 ≤ S.f.getD k 0 :=
  I.inv.qin _ (by
    have : S.q.getD j 0 = S.q[j] := by simp [hj]
    rw [this]; exact List.getElem_mem hj)
theorem Seen.vis {ds : List GDoor} {a h i p k : Nat} {S : BS} (I : Seen ds a h i S) (hi : i < S.q.length) (hp : S.q.getD i 0 = (p : Int)) (hk : k < h) (hd : doorB ds p k = true) :
    Seen ds a h i (vis (p : Int) S k) ∧ i < (Proofs.YtfhibjehnoibeaaDoor.vis (p : Int) S k).q.length ∧ (Proofs.YtfhibjehnoibeaaDoor.vis (p : Int) S k).q.getD i 0 = (p : Int)
    ∧ 0 ≤ (Proofs.YtfhibjehnoibeaaDoor.vis (p : Int) S k).f.getD k 0 ∧ (Proofs.YtfhibjehnoibeaaDoor.vis (p : Int) S k).d.getD k 0 ≤ (Proofs.YtfhibjehnoibeaaDoor.vis (p : Int) S k).d.getD p 0 + 1
    ∧ ∀ j, j < h → 0 ≤ S.f.getD j 0 → 0 ≤ (Proofs.YtfhibjehnoibeaaDoor.vis (p : Int) S k).f.getD j 0 ∧ (Proofs.YtfhibjehnoibeaaDoor.vis (p : Int) S k).d.getD j 0 = S.d.getD j 0 := by
  obtain ⟨p', hp', hpe, hfp⟩ := I.at_ hi
  obtain rfl : p = p' := by rw [hp] at hpe; omega
  have hB := I.inv.vis hp' hfp hk
  have hq := fun j (hj : j < S.q.length) => vis_q (x := (p : Int)) (k := k) hj
  unfold Proofs.YtfhibjehnoibeaaDoor.vis at hB hq ⊢
  by_cases hf : S.f.getD k 0 < 0
  · rw [if_pos hf] at hB hq ⊢
    have lf := I.inv.lf
    have ld := I.inv.ld
    have hkp : p ≠ k := by rintro rfl; omega
    have gf : ∀ j, (S.f.set k (p : Int)).getD j 0 = if j = k then (p : Int) else S.f.getD j 0 := fun j => getD_set' _ _ _ _ (by omega)
    rw [Int.toNat_natCast] at hB hq ⊢
    have gd : ∀ j, (S.d.set k (S.d.getD p 0 + 1)).getD j 0 = if j = k then S.d.getD p 0 + 1 else S.d.getD j 0 := fun j => getD_set' _ _ _ _ (by omega)
    have old : ∀ j, j < S.q.length → ∃ v, v < h ∧ v ≠ k ∧ S.q.getD j 0 = (v : Int) ∧ 0 ≤ S.f.getD v 0 := by
      intro j hj
      obtain ⟨v, h1, h2, h3⟩ := I.at_ hj
      exact ⟨v, h1, by rintro rfl; omega, h2, h3⟩
    have qo : ∀ j, j < S.q.length → (S.q ++ [(k : Int)]).getD j 0 = S.q.getD j 0 := fun j hj => (hq j hj).1
    have qn : (S.q ++ [(k : Int)]).getD S.q.length 0 = (k : Int) := by simp
    have dq : ∀ j, j < S.q.length → (S.d.set k (S.d.getD p 0 + 1)).getD ((S.q ++ [(k : Int)]).getD j 0).toNat 0 = S.d.getD (S.q.getD j 0).toNat 0 := by
      intro j hj
      obtain ⟨v, h1, h2, h3, h4⟩ := old j hj
      rw [qo j hj, h3, Int.toNat_natCast, gd, if_neg h2]
    have dn : (S.d.set k (S.d.getD p 0 + 1)).getD ((S.q ++ [(k : Int)]).getD S.q.length 0).toNat 0 = S.d.getD p 0 + 1 := by
      rw [qn, Int.toNat_natCast, gd, if_pos rfl]
    have dp : S.d.getD (S.q.getD i 0).toNat 0 = S.d.getD p 0 := by rw [hp, Int.toNat_natCast]
    refine ⟨⟨hB, ?_, ?_, ?_, ?_, ?_⟩, ?_, ?_, ?_, ?_, ?_⟩
    · intro j hj hfj
      simp only [gf, gd] at hfj ⊢
      by_cases hjk : j = k
      · subst hjk
        obtain ⟨n, hn, hb⟩ := I.snd p hp' hfp
        simp only [if_true]
        exact ⟨n + 1, by rw [hn]; rfl, ball_step hp' hb hd⟩
      · simp only [hjk, if_false] at hfj ⊢
        exact I.snd j hj hfj
    · intro j hj hfj
      simp only [gf] at hfj
      simp only [List.length_append, List.length_cons, List.length_nil]
      by_cases hjk : j = k
      · subst hjk
        exact ⟨S.q.length, by omega, qn⟩
      · simp only [hjk, if_false] at hfj
        obtain ⟨j', h1, h2⟩ := I.inq j hj hfj
        exact ⟨j', by omega, by rw [qo j' h1]; exact h2⟩
    · intro j hji _ v hv hdv
      have hjl : j < S.q.length := by omega
      rw [dq j hjl]
      simp only [qo j hjl] at hdv
      obtain ⟨h1, h2⟩ := I.done j hji hjl v hv hdv
      have hvk : v ≠ k := by rintro rfl; omega
      simp only [gf, gd, hvk, if_false]
      exact ⟨h1, h2⟩
    · intro j j' hjj hj'
      simp only [List.length_append, List.length_cons, List.length_nil] at hj'
      by_cases e : j' = S.q.length
      · subst e
        rw [dn]
        by_cases e2 : j = S.q.length
        · subst e2; rw [dn]; omega
        · rw [dq j (by omega), ← dp]
          exact I.top hi j (by omega)
      · rw [dq j (by omega), dq j' (by omega)]
        exact I.mono j j' hjj (by omega)
    · intro _ j hj
      simp only [List.length_append, List.length_cons, List.length_nil] at hj
      rw [dq i hi]
      by_cases e : j = S.q.length
      · subst e; rw [dn, dp]; omega
      · rw [dq j (by omega)]; exact I.top hi j (by omega)
    · simp only [List.length_append]; omega
    · exact (qo i hi).trans hp
    · simp only [gf, if_true]; omega
    · simp only [gd, if_true, hkp, if_false]; omega
    · intro j hj hfj
      have hjk : j ≠ k := by rintro rfl; omega
      simp only [gf, gd, hjk, if_false]
      exact ⟨hfj, trivial⟩
  · rw [if_neg hf]
    refine ⟨I, hi, hp, by omega, ?_, fun j _ hj => ⟨hj, rfl⟩⟩
    obtain ⟨j, hj, hje⟩ := I.inq k hk (by omega)
    have := I.top hi j hj
    rw [hje, hp, Int.toNat_natCast, Int.toNat_natCast] at this
    exact this
theorem Seen.fold {ds : List GDoor} {a h i p : Nat} : ∀ (ns : List Nat) {S : BS}, Seen ds a h i S → i < S.q.length → S.q.getD i 0 = (p : Int) → (∀ k ∈ ns, k < h ∧ doorB ds p k = true) →
    Seen ds a h i (ns.foldl (Proofs.YtfhibjehnoibeaaDoor.vis (p : Int)) S) ∧ i < (ns.foldl (Proofs.YtfhibjehnoibeaaDoor.vis (p : Int)) S).q.length ∧ (ns.foldl (Proofs.YtfhibjehnoibeaaDoor.vis (p : Int)) S).q.getD i 0 = (p : Int)
    ∧ (∀ k ∈ ns, 0 ≤ (ns.foldl (Proofs.YtfhibjehnoibeaaDoor.vis (p : Int)) S).f.getD k 0 ∧ (ns.foldl (Proofs.YtfhibjehnoibeaaDoor.vis (p : Int)) S).d.getD k 0 ≤ (ns.foldl (Proofs.YtfhibjehnoibeaaDoor.vis (p : Int)) S).d.getD p 0 + 1)
    ∧ ∀ j, j < h → 0 ≤ S.f.getD j 0 → 0 ≤ (ns.foldl (Proofs.YtfhibjehnoibeaaDoor.vis (p : Int)) S).f.getD j 0 ∧ (ns.foldl (Proofs.YtfhibjehnoibeaaDoor.vis (p : Int)) S).d.getD j 0 = S.d.getD j 0
  | [], S, I, hi, hp, _ => ⟨I, hi, hp, fun k hk => by simp at hk, fun j _ hj => ⟨hj, rfl⟩⟩
  | k :: ns, S, I, hi, hp, hn => by
    obtain ⟨p', hp', hpe, hfp⟩ := I.at_ hi
    obtain rfl : p = p' := by rw [hp] at hpe; omega
    obtain ⟨hk, hd⟩ := hn k (by simp)
    obtain ⟨I1, i1, q1, v1, d1, o1⟩ := I.vis hi hp hk hd
    obtain ⟨I2, i2, q2, v2, o2⟩ := Seen.fold ns I1 i1 q1 (fun j hj => hn j (by simp [hj]))
    refine ⟨I2, i2, q2, ?_, ?_⟩
    · intro j hj
      rcases List.mem_cons.1 hj with rfl | hj
      · obtain ⟨a1, a2⟩ := o2 j hk v1
        obtain ⟨b1, b2⟩ := o2 p hp' (o1 p hp' hfp).1
        simp only [List.foldl_cons]
        exact ⟨a1, by rw [a2, b2]; exact d1⟩
      · exact v2 j hj
    · intro j hj hf
      obtain ⟨a1, a2⟩ := o1 j hj hf
      obtain ⟨b1, b2⟩ := o2 j hj a1
      exact ⟨b1, b2.trans a2⟩
theorem Seen.rnd {ds : List GDoor} {a h i : Nat} {S : BS} (I : Seen ds a h i S) (hi : i < S.q.length) : Seen ds a h (i + 1) (rnd ds h S i) := by
  obtain ⟨p, hp, hpe, hfp⟩ := I.at_ hi
  rw [rnd_nbr, hpe]
  obtain ⟨I2, i2, q2, v2, o2⟩ := Seen.fold (nbr ds h (p : Int)) I hi hpe (fun k hk => ⟨nbr_lt hk, by unfold nbr at hk; simpa using (List.mem_filter.1 hk).2⟩)
  refine ⟨I2.inv, I2.snd, I2.inq, ?_, I2.mono, ?_⟩
  · intro j hj hjl k hk hd
    by_cases e : j = i
    · subst e
      rw [q2] at hd ⊢
      rw [Int.toNat_natCast]
      refine v2 k ?_
      unfold nbr
      rw [List.mem_filter]
      exact ⟨by simpa using hk, hd⟩
    · exact I2.done j (by omega) hjl k hk hd
  · intro hl j hj
    have h1 := I2.top i2 j hj
    have h2 := I2.mono i (i + 1) (by omega) hl
    omega
theorem Seen.bfs {ds : List GDoor} {a h : Nat} : ∀ (n i : Nat) {S : BS}, Seen ds a h i S → h ≤ i + n → ∃ i', Seen ds a h i' (bfs ds h n i S) ∧ (Proofs.YtfhibjehnoibeaaDoor.bfs ds h n i S).q.length ≤ i'
  | 0, i, S, I, hn => ⟨i, I, by have := I.inv.qle; show S.q.length ≤ i; omega⟩
  | n + 1, i, S, I, hn => by
    unfold Proofs.YtfhibjehnoibeaaDoor.bfs
    split
    · rename_i hi; exact Seen.bfs n (i + 1) (I.rnd hi) (by omega)
    · rename_i hi; exact ⟨i, I, by omega⟩
theorem seen0 {ds : List GDoor} {a h : Nat} (ha : a < h) : Seen ds a h 0 (bs0 h a) := by
  have B := binv0 ha
  have one : ∀ k, k < h → 0 ≤ (bs0 h a).f.getD k 0 → k = a := by
    intro k hk hf
    refine Classical.byContradiction fun hne => ?_
    have : (bs0 h a).f.getD k 0 = -1 := by
      simp only [bs0]
      rw [getD_set' _ _ _ _ (by simpa using ha), if_neg hne]
      simp [hk]
    omega
  refine ⟨B, ?_, ?_, fun j hj => by omega, ?_, ?_⟩
  · intro k hk hf
    obtain rfl := one k hk hf
    exact ⟨0, B.root.2, by simp [ball]⟩
  · intro k hk hf
    obtain rfl := one k hk hf
    exact ⟨0, by simp [bs0], by simp [bs0]⟩
  · intro j j' hj hj'
    simp only [bs0, List.length_cons, List.length_nil] at hj'
    obtain rfl : j' = 0 := by omega
    obtain rfl : j = 0 := by omega
    exact Int.le_refl _
  · intro _ j hj
    simp only [bs0, List.length_cons, List.length_nil] at hj
    obtain rfl : j = 0 := by omega
    omega
theorem seen_all (ds : List GDoor) {a h : Nat} (ha : a < h) : ∃ i, Seen ds a h i (bfsAll ds h a) ∧ (bfsAll ds h a).q.length ≤ i := Seen.bfs h 0 (seen0 ha) (by omega)
/-- The search finds a hall at a distance of at most n just if it can be reached in n steps. -/
theorem bfs_ball (ds : List GDoor) {a h k : Nat} (ha : a < h) (hk : k < h) (n : Nat) : (0 ≤ (bfsAll ds h a).d.getD k 0 ∧ (bfsAll ds h a).d.getD k 0 ≤ n) ↔ ball ds h a n k = true := by
  obtain ⟨i, I, hi⟩ := seen_all ds ha
  constructor
  · rintro ⟨h1, h2⟩
    have hf : 0 ≤ (bfsAll ds h a).f.getD k 0 := by
      have := I.inv.iff_ k hk
      omega
    obtain ⟨m, hm, hb⟩ := I.snd k hk hf
    exact ball_up hb (by omega)
  · intro hb
    have key : ∀ (n k : Nat), k < h → ball ds h a n k = true → 0 ≤ (bfsAll ds h a).f.getD k 0 ∧ (bfsAll ds h a).d.getD k 0 ≤ n := by
      intro n
      induction n with
      | zero =>
        intro k hk hb
        simp only [ball, beq_iff_eq] at hb
        subst hb
        have := I.inv.root
        omega
      | succ n ih =>
        intro k hk hb
        rcases ball_cases hb with hb | ⟨j, h1, h2, h3⟩
        · have := ih k hk hb; omega
        · obtain ⟨f1, d1⟩ := ih j h1 h2
          obtain ⟨q, hq, hqe⟩ := I.inq j h1 f1
          have := I.done q (by omega) hq k hk (by rw [hqe]; exact h3)
          rw [hqe, Int.toNat_natCast] at this
          omega
    obtain ⟨f1, d1⟩ := key n k hk hb
    have := I.inv.iff_ k hk
    omega
theorem reach_ball (ds : List GDoor) {a h k : Nat} (ha : a < h) (hk : k < h) : reachB ds h a k = ball ds h a h k := by
  have I := BInv.all ds ha
  rw [Bool.eq_iff_iff]
  constructor
  · intro hr
    have hf : 0 ≤ (bfsAll ds h a).f.getD k 0 := by simpa [reachB] using hr
    have h1 := I.dlt_ k hk hf
    have h2 := I.qle
    have h3 := I.iff_ k hk
    exact (bfs_ball ds ha hk h).1 (by omega)
  · intro hb
    have h1 := (bfs_ball ds ha hk h).2 hb
    have h3 := I.iff_ k hk
    simp only [reachB, decide_eq_true_eq]
    omega
theorem ball_most (ds : List GDoor) {a h k n : Nat} (ha : a < h) (hk : k < h) (hb : ball ds h a n k = true) : ball ds h a h k = true := by
  have I := BInv.all ds ha
  have h1 := (bfs_ball ds ha hk n).2 hb
  have h3 := I.iff_ k hk
  have h4 := I.dlt_ k hk (by omega)
  have h2 := I.qle
  exact (bfs_ball ds ha hk h).1 (by omega)
/-- How far two halls are. -/
def distB (ds : List GDoor) (h a k : Nat) : Int := (bfsAll ds h a).d.getD k 0
theorem dist_sym (ds : List GDoor) {a h k : Nat} (ha : a < h) (hk : k < h) (hr : reachB ds h a k = true) : distB ds h a k = distB ds h k a ∧ 0 ≤ distB ds h a k := by
  have h1 := bfs_ball ds ha hk
  have h2 := bfs_ball ds hk ha
  have hs : ∀ n, ball ds h a n k = true ↔ ball ds h k n a = true := fun n => ⟨ball_sym hk, ball_sym ha⟩
  have hb := (h1 h).2 (by rw [← reach_ball ds ha hk]; exact hr)
  unfold distB
  obtain ⟨x, hx⟩ : ∃ x, x = (bfsAll ds h a).d.getD k 0 := ⟨_, rfl⟩
  obtain ⟨y, hy⟩ : ∃ y, y = (bfsAll ds h k).d.getD a 0 := ⟨_, rfl⟩
  rw [← hx, ← hy]
  rw [← hx] at h1 hb
  rw [← hy] at h2
  have e : ∀ n : Nat, (0 ≤ x ∧ x ≤ n) ↔ (0 ≤ y ∧ y ≤ n) := fun n => (h1 n).trans ((hs n).trans (h2 n).symm)
  have e1 := (e x.toNat).1 (by omega)
  have e2 := (e y.toNat).2 (by omega)
  omega
theorem ball_trans {ds : List GDoor} {h a j n : Nat} (hb : ball ds h a n j = true) : ∀ {m k : Nat}, ball ds h j m k = true → ball ds h a (n + m) k = true
  | 0, k, hk => by
    simp only [ball, beq_iff_eq] at hk
    subst hk
    exact hb
  | m + 1, k, hk => by
    rcases ball_cases hk with hk | ⟨i, h1, h2, h3⟩
    · exact ball_up (ball_trans hb hk) (by omega)
    · exact ball_step h1 (ball_trans hb h2) h3
theorem house_reach {ds : List GDoor} {h : Nat} (hr : ∀ k, k < h → reachB ds h 0 k = true) {a k : Nat} (ha : a < h) (hk : k < h) : reachB ds h a k = true := by
  have h0 : 0 < h := by omega
  have h1 := hr a ha
  have h2 := hr k hk
  rw [reach_ball ds h0 ha] at h1
  rw [reach_ball ds h0 hk] at h2
  rw [reach_ball ds ha hk]
  exact ball_most ds ha hk (ball_trans (ball_sym ha h1) h2)
/-- The doors that a set of keys opens. -/
def opened : Nat → List GDoor → List GDoor
  | _, [] => []
  | r, d :: ds => if r % 2 == 1 then d :: opened (r / 2) ds else opened (r / 2) ds
theorem opened_sub : ∀ (r : Nat) (ds : List GDoor), (opened r ds).Sublist ds
  | _, [] => List.Sublist.refl _
  | r, d :: ds => by
    unfold opened
    split
    · exact (opened_sub (r / 2) ds).cons_cons d
    · exact (opened_sub (r / 2) ds).cons d
theorem opened_twice {r : Nat} {ds : List GDoor} (h : NoTwice ds) : NoTwice (opened r ds) := List.Pairwise.sublist (opened_sub r ds) h
/-- One door: if one of its halls is in the set, both are. -/
def reach1 (s : Nat) (d : GDoor) : Nat := if s.testBit d.a.toNat || s.testBit d.b.toNat then s ||| (1 <<< d.a.toNat) ||| (1 <<< d.b.toNat) else s
def reached (ds : List GDoor) (a : Nat) : Nat → Nat
  | 0 => 1 <<< a
  | n + 1 => ds.foldl reach1 (reached ds a n)
theorem bit_one (i j : Nat) : (1 <<< i).testBit j = (j == i) := by
  rw [Nat.one_shiftLeft, Nat.testBit_two_pow, Bool.eq_iff_iff]
  simp only [decide_eq_true_eq, beq_iff_eq]
  omega
theorem reach1_up {s : Nat} {d : GDoor} {k : Nat} (h : s.testBit k = true) : (reach1 s d).testBit k = true := by
  unfold reach1
  split
  · rw [Nat.testBit_or, Nat.testBit_or, h]; rfl
  · exact h
theorem reach_fold_up {k : Nat} : ∀ (ds : List GDoor) {s : Nat}, s.testBit k = true → (ds.foldl reach1 s).testBit k = true
  | [], _, h => h
  | d :: ds, _, h => reach_fold_up ds (reach1_up h)
theorem reach_fold_both {x y : Nat} {d : GDoor} (hx : d.a.toNat = x ∧ d.b.toNat = y ∨ d.a.toNat = y ∧ d.b.toNat = x) : ∀ (ds : List GDoor) {s : Nat}, d ∈ ds → s.testBit x = true → (ds.foldl reach1 s).testBit y = true
  | [], _, h, _ => by simp at h
  | e :: ds, s, h, hb => by
    rcases List.mem_cons.1 h with rfl | h
    · refine reach_fold_up ds ?_
      have : (s.testBit d.a.toNat || s.testBit d.b.toNat) = true := by rcases hx with ⟨h1, h2⟩ | ⟨h1, h2⟩ <;> simp [h1, h2, hb]
      unfold reach1
      rw [if_pos this, Nat.testBit_or, Nat.testBit_or, bit_one, bit_one]
      rcases hx with ⟨h1, h2⟩ | ⟨h1, h2⟩ <;> simp [h1, h2]
    · exact reach_fold_both hx ds h (reach1_up hb)
theorem doorB_mem {ds : List GDoor} {j k : Nat} (h : doorB ds j k = true) : ∃ d ∈ ds, d.a.toNat = j ∧ d.b.toNat = k ∨ d.a.toNat = k ∧ d.b.toNat = j := by
  simp only [doorB, List.any_eq_true, isDoor, Bool.and_eq_true, beq_iff_eq] at h
  obtain ⟨d, hd, h1, h2⟩ := h
  by_cases e : (k : Int) < j
  · refine ⟨d, hd, .inr ?_⟩
    simp only [imin, imax, e, if_true, show ¬ (j : Int) < k by omega, if_false] at h1 h2
    omega
  · refine ⟨d, hd, .inl ?_⟩
    simp only [imin, imax, e, if_false] at h1 h2
    split at h2 <;> omega
theorem mem_doorB {ds : List GDoor} {d : GDoor} (hd : d ∈ ds) {a b : Nat} (ha : d.a = a) (hb : d.b = b) (hl : a < b) : doorB ds a b = true := by
  simp only [doorB, List.any_eq_true, isDoor, Bool.and_eq_true, beq_iff_eq]
  refine ⟨d, hd, ?_, ?_⟩
  · rw [ha]; unfold imin; split <;> omega
  · rw [hb]; unfold imax; split <;> omega
theorem reached_full {ds : List GDoor} {h a : Nat} : ∀ (n : Nat) {k : Nat}, ball ds h a n k = true → (reached ds a n).testBit k = true
  | 0, k, hb => by
    simp only [ball, beq_iff_eq] at hb
    subst hb
    simp [reached, bit_one]
  | n + 1, k, hb => by
    rcases ball_cases hb with hb | ⟨j, h1, h2, h3⟩
    · exact reach_fold_up ds (reached_full n hb)
    · obtain ⟨d, hd, hx⟩ := doorB_mem h3
      exact reach_fold_both hx ds hd (reached_full n h2)
theorem reach_fold_sound {ds : List GDoor} {h a : Nat} (hok : ∀ d ∈ ds, doorOk h d = true) : ∀ (es : List GDoor) {s : Nat}, (∀ e ∈ es, e ∈ ds) → (∀ k, s.testBit k = true → k < h ∧ ∃ n, ball ds h a n k = true) → ∀ k, (es.foldl reach1 s).testBit k = true → k < h ∧ ∃ n, ball ds h a n k = true
  | [], _, _, hs => hs
  | d :: es, s, hm, hs => by
    refine reach_fold_sound hok es (fun e he => hm e (by simp [he])) ?_
    intro k hk
    have hd := hm d (by simp)
    have ho := hok d hd
    simp only [doorOk, Bool.and_eq_true, decide_eq_true_eq] at ho
    obtain ⟨⟨h0, h1⟩, h2⟩ := ho
    obtain ⟨x, hx⟩ := Int.eq_ofNat_of_zero_le h0
    obtain ⟨y, hy⟩ := Int.eq_ofNat_of_zero_le (show 0 ≤ d.b by omega)
    have hdo := mem_doorB hd hx hy (by omega)
    unfold reach1 at hk
    split at hk
    · rename_i hc
      rw [hx, hy, Int.toNat_natCast, Int.toNat_natCast] at hk hc
      rw [Nat.testBit_or, Nat.testBit_or, bit_one, bit_one] at hk
      simp only [Bool.or_eq_true, beq_iff_eq] at hk hc
      have both : (∃ n, ball ds h a n x = true) ∧ ∃ n, ball ds h a n y = true := by
        rcases hc with hc | hc
        · obtain ⟨_, n, hn⟩ := hs x hc
          exact ⟨⟨n, hn⟩, n + 1, ball_step (by omega) hn hdo⟩
        · obtain ⟨_, n, hn⟩ := hs y hc
          exact ⟨⟨n + 1, ball_step (by omega) hn (by rw [doorB_comm]; exact hdo)⟩, n, hn⟩
      rcases hk with (hk | hk) | hk
      · exact hs k hk
      · subst hk; exact ⟨by omega, both.1⟩
      · subst hk; exact ⟨by omega, both.2⟩
    · exact hs k hk
theorem reached_sound {ds : List GDoor} {h a : Nat} (ha : a < h) (hok : ∀ d ∈ ds, doorOk h d = true) : ∀ (n : Nat) (k : Nat), (reached ds a n).testBit k = true → k < h ∧ ∃ n, ball ds h a n k = true
  | 0, k, hb => by
    simp only [reached, bit_one, beq_iff_eq] at hb
    subst hb
    exact ⟨ha, 0, by simp [ball]⟩
  | n + 1, k, hb => reach_fold_sound hok ds (fun _ h => h) (reached_sound ha hok n) k hb
/-- What the reference reckons with bits is what the search finds. -/
theorem reached_reach {ds : List GDoor} {h a k : Nat} (ha : a < h) (hk : k < h) (hok : ∀ d ∈ ds, doorOk h d = true) : (reached ds a h).testBit k = reachB ds h a k := by
  rw [reach_ball ds ha hk, Bool.eq_iff_iff]
  constructor
  · intro hb
    obtain ⟨_, n, hn⟩ := reached_sound ha hok h k hb
    exact ball_most ds ha hk hn
  · exact reached_full h
theorem reached_lt {ds : List GDoor} {h a : Nat} (ha : a < h) (hok : ∀ d ∈ ds, doorOk h d = true) (n : Nat) : reached ds a n < 2 ^ h := by
  refine Nat.lt_pow_two_of_testBit _ fun k hk => ?_
  cases hb : (reached ds a n).testBit k with
  | false => rfl
  | true => have := (reached_sound ha hok n k hb).1; omega
end Go.Proofs.YtfhibjehnoibeaaDoor
/- A house of a tree of halls with some further doors is a valid house, in plain Lean; no condition. -/
namespace Go.Proofs.YtfhibjehnoibeaaDoor
set_option linter.unusedSimpArgs false
set_option linter.unusedVariables false
theorem sub_len : ∀ (l t : List Nat), l.Nodup → (∀ x ∈ l, x ∈ t) → l.length ≤ t.length
  | [], t, _, _ => by simp
  | x :: l, t, hd, h => by
    have hx := h x (List.mem_cons_self ..)
    have h1 := List.nodup_cons.1 hd
    have h2 := sub_len l (t.erase x) h1.2 (fun y hy => (List.mem_erase_of_ne (fun e => h1.1 (by rw [← e]; exact hy))).2 (h y (List.mem_cons_of_mem _ hy)))
    rw [List.length_erase_of_mem hx] at h2
    have := List.length_pos_of_mem hx
    simp only [List.length_cons]
    omega
/-- The doors of hall a to later halls. -/
def rowTo (tr : List Nat) (a b : Nat) : List GDoor := ((List.range' (a + 1) (b - (a + 1))).filter fun c => decide (a * 7 + c ∈ tr)).map fun (c : Nat) => ⟨(a : Int), (c : Int)⟩
def dsTo (H : Nat) (tr : List Nat) (a : Nat) : List GDoor := (List.range a).flatMap fun a => rowTo tr a H
theorem rowTo_zero (tr : List Nat) (a : Nat) : rowTo tr a (a + 1) = [] := by simp [rowTo]
theorem rowTo_succ (tr : List Nat) (a b : Nat) (h : a + 1 ≤ b) : rowTo tr a (b + 1) = rowTo tr a b ++ if a * 7 + b ∈ tr then [⟨(a : Int), (b : Int)⟩] else [] := by
  unfold rowTo
  obtain ⟨m, rfl⟩ : ∃ m, b = a + 1 + m := ⟨b - (a + 1), by omega⟩
  rw [show a + 1 + m + 1 - (a + 1) = m + 1 by omega, show a + 1 + m - (a + 1) = m by omega, List.range'_concat, List.filter_append, List.map_append, Nat.one_mul]
  congr 1
  by_cases hm : a * 7 + (a + 1 + m) ∈ tr
  · rw [if_pos hm]; simp [hm]
  · rw [if_neg hm]; simp [hm]
theorem dsTo_succ (H : Nat) (tr : List Nat) (a : Nat) : dsTo H tr (a + 1) = dsTo H tr a ++ rowTo tr a H := by simp [dsTo, List.range_succ]
theorem mem_rowTo {tr : List Nat} {a b : Nat} {d : GDoor} (h : d ∈ rowTo tr a b) : ∃ c : Nat, d = ⟨(a : Int), (c : Int)⟩ ∧ a < c ∧ c < b ∧ a * 7 + c ∈ tr := by
  unfold rowTo at h
  obtain ⟨c, hc, rfl⟩ := List.mem_map.1 h
  obtain ⟨h1, h2⟩ := List.mem_filter.1 hc
  rw [List.mem_range'_1] at h1
  exact ⟨c, rfl, by omega, by omega, by simpa using h2⟩
theorem mem_dsTo {H : Nat} {tr : List Nat} {a : Nat} {d : GDoor} (h : d ∈ dsTo H tr a) : ∃ b c : Nat, d = ⟨(b : Int), (c : Int)⟩ ∧ b < a ∧ b < c ∧ c < H ∧ b * 7 + c ∈ tr := by
  unfold dsTo at h
  obtain ⟨b, hb, hd⟩ := List.mem_flatMap.1 h
  obtain ⟨c, h1, h2, h3, h4⟩ := mem_rowTo hd
  exact ⟨b, c, h1, List.mem_range.1 hb, h2, h3, h4⟩
theorem in_dsTo {H : Nat} {tr : List Nat} {b c : Nat} (hbc : b < c) (hc : c < H) (ht : b * 7 + c ∈ tr) : (⟨(b : Int), (c : Int)⟩ : GDoor) ∈ dsTo H tr H := by
  unfold dsTo rowTo
  refine List.mem_flatMap.2 ⟨b, List.mem_range.2 (by omega), List.mem_map.2 ⟨c, List.mem_filter.2 ⟨?_, by simpa using ht⟩, rfl⟩⟩
  rw [List.mem_range'_1]; omega
theorem dsTo_pw (H : Nat) (tr : List Nat) (a : Nat) : (dsTo H tr a).Pairwise (fun p d => dlt p d = true) := by
  unfold dsTo
  rw [List.pairwise_flatMap]
  refine ⟨fun b _ => ?_, ?_⟩
  · unfold rowTo
    rw [List.pairwise_map]
    refine List.Pairwise.filter _ ?_
    refine List.Pairwise.imp ?_ (List.pairwise_lt_range' (s := b + 1) (n := H - (b + 1)))
    intro x y hxy
    simp [dlt]
    omega
  · refine List.Pairwise.imp ?_ List.pairwise_lt_range
    intro x y hxy p hp d hd
    obtain ⟨c, rfl, _⟩ := mem_rowTo hp
    obtain ⟨e, rfl, _⟩ := mem_rowTo hd
    simp [dlt]
    omega
theorem doorsOk_of {H : Int} : ∀ {ds : List GDoor} (prev : Option GDoor), (∀ d ∈ ds, doorOk H d = true) → ds.Pairwise (fun p d => dlt p d = true) → (∀ p, prev = some p → ∀ d ∈ ds, dlt p d = true) → doorsOk H prev ds = true
  | [], none, _, _, _ => rfl
  | [], some _, _, _, _ => rfl
  | d :: r, none, h1, h2, _ => by
    rw [doorsOk, h1 d (List.mem_cons_self ..), doorsOk_of (some d) (fun e he => h1 e (List.mem_cons_of_mem _ he)) (List.pairwise_cons.1 h2).2 (fun p hp e he => by injection hp with hp; subst hp; exact (List.pairwise_cons.1 h2).1 e he)]; rfl
  | d :: r, some p, h1, h2, h3 => by
    rw [doorsOk, h1 d (List.mem_cons_self ..), h3 p rfl d (List.mem_cons_self ..), doorsOk_of (some d) (fun e he => h1 e (List.mem_cons_of_mem _ he)) (List.pairwise_cons.1 h2).2 (fun p hp e he => by injection hp with hp; subst hp; exact (List.pairwise_cons.1 h2).1 e he)]; rfl
theorem dsTo_len {H : Nat} (hH : H ≤ 7) (tr : List Nat) (a : Nat) : (dsTo H tr a).length ≤ tr.length := by
  have key := sub_len ((dsTo H tr a).map fun d => (d.a * 7 + d.b).toNat) tr ?_ ?_
  · rwa [List.length_map] at key
  · rw [List.nodup_iff_pairwise_ne, List.pairwise_map]
    have := dsTo_pw H tr a
    rw [List.pairwise_iff_getElem] at this ⊢
    intro i j hi hj hij
    have h1 := this i j hi hj hij
    obtain ⟨b, c, e1, _, h2, h3, _⟩ := mem_dsTo (List.getElem_mem hi)
    obtain ⟨b', c', e2, _, h2', h3', _⟩ := mem_dsTo (List.getElem_mem hj)
    rw [e1, e2] at h1 ⊢
    simp [dlt] at h1
    simp only
    omega
  · intro x hx
    obtain ⟨d, hd, rfl⟩ := List.mem_map.1 hx
    obtain ⟨b, c, rfl, _, _, _, h⟩ := mem_dsTo hd
    simp only
    rw [show ((b : Int) * 7 + (c : Int)).toNat = b * 7 + c by omega]
    exact h
/-- What is drawn: a door from each hall to an earlier one, and no more than nine doors. -/
theorem drawn_house {H : Nat} (h1 : 1 ≤ H) (h7 : H ≤ 7) {tr : List Nat} (hl : tr.length ≤ 12) (ht : ∀ k, 1 ≤ k → k < H → ∃ j, j < k ∧ j * 7 + k ∈ tr) : houseB (H : Int) (dsTo H tr H) = true := by
  have hok : ∀ d ∈ dsTo H tr H, doorOk (H : Int) d = true := fun d hd => by
    obtain ⟨b, c, rfl, _, h2, h3, _⟩ := mem_dsTo hd
    simp [doorOk]; omega
  have hform : formB (H : Int) (dsTo H tr H) = true := by
    unfold formB
    rw [doorsOk_of none hok (dsTo_pw H tr H) (fun p hp => by cases hp)]
    have := dsTo_len h7 tr H
    simp [inB]; omega
  have hreach : ∀ k, k < H → ∃ n, ball (dsTo H tr H) H 0 n k = true := by
    intro k
    induction k using Nat.strongRecOn with
    | _ k ih =>
      intro hk
      by_cases h0 : k = 0
      · subst h0
        exact ⟨0, by simp [ball]⟩
      · obtain ⟨j, hj, hjt⟩ := ht k (by omega) hk
        obtain ⟨n, hn⟩ := ih j hj (by omega)
        exact ⟨n + 1, ball_step (by omega) hn (mem_doorB (in_dsTo hj hk hjt) rfl rfl hj)⟩
  unfold houseB
  rw [hform, Bool.true_and, List.all_eq_true]
  intro k hk
  have hk' : k < H := by simpa using List.mem_range.1 hk
  obtain ⟨n, hn⟩ := hreach k hk'
  rw [Int.toNat_natCast, reach_ball _ (by omega) hk']
  exact ball_most _ (by omega) hk' hn
/-- A row of marks. -/
def flagL (n : Nat) (p : List Nat) : List Bool := (List.range n).map fun k => decide (k ∈ p)
theorem flagL_len (n : Nat) (p : List Nat) : (flagL n p).length = n := by simp [flagL]
theorem flagL_at {n : Nat} (p : List Nat) {k : Nat} (h : k < n) : (flagL n p)[k]? = some (decide (k ∈ p)) := by simp [flagL, h]
theorem flagL_nil (n : Nat) : flagL n [] = List.replicate n false := by
  apply List.ext_getElem?
  intro k
  by_cases h : k < n
  · rw [flagL_at _ h]; simp [h]
  · rw [List.getElem?_eq_none (by rw [flagL_len]; omega), List.getElem?_eq_none (by simp; omega)]
theorem flagL_set {n : Nat} (p : List Nat) (i : Nat) : (flagL n p).set i true = flagL n (p ++ [i]) := by
  apply List.ext_getElem?
  intro k
  by_cases h : k < n
  · rw [flagL_at _ h, List.getElem?_set]
    by_cases e : i = k
    · subst e; rw [if_pos rfl, if_pos (by rw [flagL_len]; exact h)]; simp
    · rw [if_neg e, flagL_at _ h]; simp [Ne.symm e]
  · rw [List.getElem?_eq_none (by rw [List.length_set, flagL_len]; omega), List.getElem?_eq_none (by rw [flagL_len]; omega)]
end Go.Proofs.YtfhibjehnoibeaaDoor
/- A house that is drawn: the walk; no condition but what stands at each theorem. -/
namespace Go.Proofs.YtfhibjehnoibeaaDoor
set_option linter.unusedSimpArgs false
set_option linter.unusedVariables false
open Go.RowKit
theorem made_boolsD (n : Nat) : madeCells (Value.bool false).cells (n * 1) = ((List.replicate n false).map Value.bool).toArray := by
  apply Array.ext
  · simp [size_madeCells, Value.cells]
  · intro i h1 h2
    simp [madeCells, Value.cells, Nat.mod_one]
theorem mk_boolD (n : Nat) (hn : n ≤ 1048576) (w : World) : (Instr.makeSlice 94 (.int .i64 (n : Int)) (.int .i64 (n : Int))).run Tryd.prog w = .ok (.slice (some ⟨w.heap.size, 0, none⟩) n n) (w.alloc (.cells ((List.replicate n false).map (Value.bool)).toArray 4)) := by
  have hin : (Tryd.prog.info? 4).map (fun i => (i.zero.map (·.cells.size), i.size, decide (i.bytes ≤ 4096))) = some (some 1, 1, true) := by kernel_rfl
  cases hi : Tryd.prog.info? 4 with
  | none => rw [hi] at hin; cases hin
  | some i =>
  have hz : i.zero = some (.bool false) := by
    have h : (Tryd.prog.info? 4).map (fun i => i.zero) = some (some (.bool false)) := by kernel_rfl
    rw [hi] at h; simpa using h
  rw [hi] at hin
  simp only [Option.map_some, Option.some.injEq, Prod.mk.injEq, decide_eq_true_eq] at hin
  obtain ⟨-, hsz, hby⟩ := hin
  have h := make_row (P := Tryd.prog) 94 4 i _ Tryd.underlying94 hi hz n (by have := Nat.mul_le_mul hby hn; omega) (by omega) w
  rw [hsz, made_boolsD] at h
  exact h
theorem mk49 (w : World) : (Instr.makeSlice 94 (.int .i64 49) (.int .i64 49)).run Tryd.prog w = .ok (.slice (some ⟨w.heap.size, 0, none⟩) 49 49) (w.alloc (.cells ((flagL 49 []).map Value.bool).toArray 4)) := by
  rw [flagL_nil]
  exact mk_boolD 49 (by omega) w
def FBlk (w : World) (g : Nat) (t : TypeId) (u : List Bool) : Prop := Blk w g t (u.map Value.bool).toArray
theorem FBlk.cell {w : World} {g : Nat} {t : TypeId} {u : List Bool} (h : FBlk w g t u) {i : Nat} {b : Bool} (hi : u[i]? = some b) : w.cell? ⟨g, i, none⟩ = some (.bool b) := by
  rw [Blk.cell h]; simp [hi]
theorem FBlk.set {w : World} {g : Nat} {t : TypeId} {u : List Bool} (h : FBlk w g t u) (i : Nat) (x : Bool) : FBlk (w.setCell ⟨g, i, none⟩ (.bool x)) g t (u.set i x) := by
  have := Blk.set h i (.bool x)
  unfold FBlk
  rw [List.map_set, ← List.setIfInBounds_toArray]
  exact this
theorem blk_over {w w' : World} {g base : Nat} {t : TypeId} {cs : Array Value} {row : Option Nat} (h : Blk w g t cs) (k : w.grownBy w' row) (hr : ∀ k, row = some k → base ≤ k) (hg : g < base) : Blk w' g t cs :=
  (k.block g h.lt (fun e => by have := hr g e.symm; omega)).trans h
/-- While a house is drawn: the result's box, the house's box, the marks, the cursor. -/
structure HSt (w : World) (p gh H : Nat) (v : Value) (tr : List Nat) (wr : World) : Prop where
  lp : p < w.heap.size
  lr : w.heap.size < gh
  r : Blk wr w.heap.size 26 #[.int .i64 0, .slice none 0 0]
  h : Blk wr gh 26 #[.int .i64 (H : Int), v]
  m : FBlk wr (gh + 1) 4 (flagL 49 tr)
  c : Cur wr p
  g : w.grownBy wr (some p)
theorem HSt.draw {w wr w' : World} {p gh H : Nat} {v : Value} {tr : List Nat} (h : HSt w p gh H v tr wr) (hc : Cur w' p) (hg : wr.grownBy w' (some p)) : HSt w p gh H v tr w' :=
  have lp := h.lp
  have lr := h.lr
  ⟨h.lp, h.lr, blk_grown h.r (by omega) hg, blk_grown h.h (by omega) hg, blk_grown h.m (by omega) hg, hc, grown_trans h.g hg⟩
theorem HSt.mark {w wr : World} {p gh H : Nat} {v : Value} {tr : List Nat} (h : HSt w p gh H v tr wr) (q : Nat) : HSt w p gh H v (tr ++ [q]) (wr.setCell ⟨gh + 1, q, none⟩ (.bool true)) := by
  have lp := h.lp
  have lr := h.lr
  refine ⟨h.lp, h.lr, Blk.far h.r (p := ⟨gh + 1, q, none⟩) (by show w.heap.size ≠ gh + 1; omega) _, Blk.far h.h (p := ⟨gh + 1, q, none⟩) (by show gh ≠ gh + 1; omega) _, ?_, cur_far h.c (by omega) _, grown_fresh h.g (by omega) _⟩
  rw [← flagL_set]
  exact FBlk.set h.m q true
theorem HSt.app {w wr w' : World} {p gh H : Nat} {v : Value} {tr : List Nat} {row : Option Nat} (h : HSt w p gh H v tr wr) (hg : wr.grownBy w' row) (hr : ∀ k, row = some k → gh + 2 ≤ k) : HSt w p gh H v tr w' := by
  have lp := h.lp
  have lr := h.lr
  exact ⟨h.lp, h.lr, blk_over h.r hg hr (by omega), blk_over h.h hg hr (by omega), blk_over h.m hg hr (by omega), cur_grown h.c hg (fun k hk => by have := hr k hk; omega), grown_over h.g hg (fun k hk => by have := hr k hk; omega)⟩
theorem HSt.put {w wr : World} {p gh H : Nat} {v : Value} {tr : List Nat} (h : HSt w p gh H v tr wr) (v' : Value) : HSt w p gh H v' tr (wr.setCell ⟨gh, 1, none⟩ v') := by
  have lp := h.lp
  have lr := h.lr
  exact ⟨h.lp, h.lr, Blk.far h.r (p := ⟨gh, 1, none⟩) (by show w.heap.size ≠ gh; omega) _, h.h.set 1 v', Blk.far h.m (p := ⟨gh, 1, none⟩) (by show gh + 1 ≠ gh; omega) _, cur_far h.c (by omega) _, grown_fresh h.g (by omega) _⟩
theorem ei_D : EI Tryd.prog 24 96 2 := ei_of Tryd.underlying24 (by omega) (by kernel_rfl)
/-- A valid house, of doors of the call's own. -/
def DrawnHouse (p : Nat) (w : World) (e : Ending) (w' : World) : Prop :=
  ∃ (H : Nat) (v : Value) (ds : List GDoor), e = .returned (.agg #[.int .i64 (H : Int), v]) ∧ 1 ≤ H ∧ H ≤ 7 ∧ houseB (H : Int) ds = true ∧ w'.ownsRow w.heap.size 96 2 v ds.length (ds.flatMap GDoor.enc) ∧ Cur w' p ∧ w.grownBy w' (some p)
set_option maxRecDepth 100000 in
set_option maxHeartbeats 1500000 in
theorem spec_l23House (p : Nat) (w : World) (hc : Cur w p) :
    Calls Tryd.prog 28 #[.pointer (some ⟨p, 0, none⟩)] w (DrawnHouse p w) := by
  have hpw := hc.lt
  obtain ⟨wa, hwa⟩ : ∃ wa, wa = w.alloc (.cells #[.int .i64 0, .slice none 0 0] 26) := ⟨_, rfl⟩
  have hBa : Blk wa w.heap.size 26 #[.int .i64 0, .slice none 0 0] := by rw [hwa]; exact Blk.new _ _ _
  have hca : Cur wa p := by rw [hwa]; exact cur_alloc hc _
  have hga : w.grownBy wa (some p) := by rw [hwa]; exact grown_alloc (grown_refl _ _) _
  have hsa : wa.heap.size = w.heap.size + 1 := by rw [hwa]; simp
  have Hwa := Lib.hid hwa
  have cB := Lib.hid (spec_l01Below p 7 wa hca)
  have HBa := Lib.hid hBa
  have HGa := Lib.hid hga
  have hmk := mk49
  clear hwa hBa hga hca hc
  go_enter Tryd.func28, Tryd.ntmps28
  go_wp2_with fail
  rw [← Hwa.out]
  refine cB.out.mono ?_
  rintro e w1 ⟨r, rfl, h0, h1, hc1, hg1⟩
  have hr7 : r < 7 := by omega
  obtain ⟨H, hH⟩ : ∃ H : Nat, (H : Int) = 1 + r := ⟨(1 + r).toNat, by omega⟩
  have hH1 : 1 ≤ H := by omega
  have hH7 : H ≤ 7 := by omega
  have z1 := hg1.size
  have hB1 := blk_grown HBa.out (by omega) hg1
  have HG1 := Lib.hid (grown_trans HGa.out hg1)
  have HB1 := Lib.hid hB1
  have HC1 := Lib.hid hc1
  obtain ⟨wb, hwb⟩ : ∃ wb, wb = w1.alloc (.cells #[.int .i64 (H : Int), .slice none 0 0] 26) := ⟨_, rfl⟩
  obtain ⟨wc, hwc⟩ : ∃ wc, wc = wb.alloc (.cells ((flagL 49 []).map Value.bool).toArray 4) := ⟨_, rfl⟩
  have hsb : wb.heap.size = w1.heap.size + 1 := by rw [hwb]; simp
  have hsc : wc.heap.size = w1.heap.size + 2 := by rw [hwc]; simp; omega
  have hEb : Ext w1 wb := by rw [hwb]; exact (Ext.refl _).alloc _
  have hEc : Ext wb wc := by rw [hwc]; exact (Ext.refl _).alloc _
  have hBh : Hid (Blk wc w1.heap.size 26 #[.int .i64 (H : Int), .slice none 0 0]) := by
    refine Blk.keep ?_ hEc
    rw [hwb]; exact Blk.new _ _ _
  have hBw : Hid (FBlk wc (w1.heap.size + 1) 4 (flagL 49 [])) := by
    unfold Hid FBlk
    rw [← hsb, hwc]; exact Blk.new _ _ _
  have hBr := Lib.hid (HB1.out.keep (hEb.trans hEc))
  have hCc := Lib.hid (cur_ext HC1.out (hEb.trans hEc))
  have hGc := Lib.hid (grown_extD HG1.out (hEb.trans hEc))
  obtain ⟨Z, hZ⟩ : ∃ Z, Z = ((flagL 49 []).map Value.bool).toArray := ⟨_, rfl⟩
  simp only [← hZ] at hmk hwc
  have h1r : wrap64 (1 + r) = (H : Int) := by rw [hH]; exact IntWalk.wrap64_in _ ⟨by omega, by omega⟩
  have h1r2 : IntKind.i64.wrap (1 + r) = (H : Int) := by rw [hH]; exact IntWalk.i64_in _ (by omega)
  clear hg1 hB1 hc1 hEb hEc hZ
  go_wp2_with fail
  rw [← hH, ← hwb, ← hwc]
  have HS0 : Hid (HSt w p w1.heap.size H (.slice none 0 0) [] wc) := ⟨hpw, by omega, hBr.out, hBh.out, hBw.out, hCc.out, hGc.out⟩
  clear hwb hwc hsb hsc hmk hBr hBh hBw hCc hGc HC1 HG1 HB1 hH h1r h1r2 h0 h1 hr7
  obtain ⟨gh, hgh⟩ : ∃ gh, gh = w1.heap.size := ⟨_, rfl⟩
  rw [← hgh] at HS0 ⊢
  have hlr : w.heap.size < gh := by omega
  clear hgh
  go_loopw [5] (fun kv wr => ∃ (k : Nat) (tr : List Nat), 1 ≤ k ∧ k ≤ H ∧ kv = .int .i64 k ∧ Hid (tr.length + 1 = k) ∧ Hid (∀ i, 1 ≤ i → i < k → ∃ j, j < i ∧ j * 7 + i ∈ tr) ∧ Hid (HSt w p gh H (.slice none 0 0) tr wr)) (fun kv _ => H - (intOf kv).toNat)
  case atStart => exact ⟨1, [], Nat.le_refl _, hH1, rfl, Lib.hid rfl, Lib.hid (fun i h1 h2 => by omega), HS0⟩
  case round =>
    obtain ⟨k, tr, hk1, hkH, rfl, htl, htr, hst⟩ := hrel
    have b0 := hst.out.h.cell 0
    have lh := hst.out.h.lt
    by_cases hlt : k < H
    · have cD := Lib.hid (spec_l01Below p k wr hst.out.c)
      have hkHi : (k : Int) < H := by omega
      go_wp2_with (refine cD.out.mono ?_; rintro e w2 ⟨r, rfl, h0, h1, hc2, hg2⟩; obtain ⟨rn, rfl⟩ := Int.eq_ofNat_of_zero_le h0; have hrk : rn < k := (by omega); have hq49 : rn * 7 + k < 49 := (by omega); have hs2 := Lib.hid (hst.out.draw hc2 hg2); have m0 := FBlk.cell hs2.out.m (flagL_at tr hq49); have m1 := Blk.free hs2.out.m (rn * 7 + k); have hqi : (rn : Int) * 7 + (k : Int) < 49 := (by omega); have hqz : (0 : Int) ≤ (rn : Int) * 7 + (k : Int) := (by omega); have hqn : ((rn : Int) * 7 + (k : Int)).toNat = rn * 7 + k := (by omega); clear hc2 hg2)
      go_roundw
      case rel => exact ⟨k + 1, tr ++ [rn * 7 + k], by omega, by omega, by go_num, Lib.hid (by have := htl.out; simp; omega), Lib.hid (fun i h1 h2 => by
        by_cases hik : i = k
        · subst hik
          exact ⟨rn, hrk, by simp⟩
        · obtain ⟨j, hj, hm⟩ := htr.out i h1 (by omega)
          exact ⟨j, hj, List.mem_append_left _ hm⟩), hs2.out.mark (rn * 7 + k)⟩
      case measure => simp [intOf]; omega
    obtain rfl : k = H := by omega
    have HT := Lib.hid htr.out
    have cD := Lib.hid (spec_l01Below p 4 wr hst.out.c)
    go_wp2_with (refine cD.out.mono ?_; rintro e w2 ⟨r, rfl, h0, h1, hc2, hg2⟩; obtain ⟨rn, rfl⟩ := Int.eq_ofNat_of_zero_le h0; have hs2 := Lib.hid (hst.out.draw hc2 hg2); clear hc2 hg2)
    have hrn : rn ≤ 3 := by omega
    clear b0 lh
    go_loopw [6] (fun nv wr => ∃ (m : Nat) (tr : List Nat), m ≤ 3 ∧ nv = .int .i64 m ∧ Hid (tr.length + m ≤ 9) ∧ Hid (∀ i, 1 ≤ i → i < k → ∃ j, j < i ∧ j * 7 + i ∈ tr) ∧ Hid (HSt w p gh k (.slice none 0 0) tr wr)) (fun nv _ => (intOf nv).toNat)
    case atStart => exact ⟨rn, tr, hrn, rfl, Lib.hid (by have := htl.out; omega), HT, hs2⟩
    case round =>
      obtain ⟨m, tr, hm3, rfl, htl, htr, hst⟩ := hrel
      have b0 := hst.out.h.cell 0
      have lh := hst.out.h.lt
      by_cases hgo : 0 < m ∧ 2 < k
      · obtain ⟨hm0, hk2⟩ := hgo
        have hm0i : (0 : Int) < m := by omega
        have hk2i : (2 : Int) < k := by omega
        have hk1i : (1 : Int) ≤ k := by omega
        have cD := Lib.hid (spec_l01Below p ((k : Int) - 1) wr hst.out.c)
        go_wp2_with (go_at_call 30; refine (fun h : Hid _ => h.out) ?_)
        unfold Hid
        refine cD.out.mono ?_
        rintro e w2 ⟨r, rfl, h0, h1, hc2, hg2⟩
        obtain ⟨rn, rfl⟩ := Int.eq_ofNat_of_zero_le h0
        have hrk : rn + 1 < k := (by omega)
        have hs2 := Lib.hid (hst.out.draw hc2 hg2)
        have cE := Lib.hid (spec_l01Below p (1 + (rn : Int)) w2 hc2)
        clear hc2 hg2
        go_wp2_with (go_at_call 30; refine (fun h : Hid _ => h.out) ?_)
        unfold Hid
        refine cE.out.mono ?_
        rintro e w3 ⟨r, rfl, h0', h1', hc3, hg3⟩
        obtain ⟨sn, rfl⟩ := Int.eq_ofNat_of_zero_le h0'
        have hsr : sn < rn + 1 := (by omega)
        have hq49 : sn * 7 + (rn + 1) < 49 := (by omega)
        have hs3 := Lib.hid (hs2.out.draw hc3 hg3)
        have m0 := FBlk.cell hs3.out.m (flagL_at tr hq49)
        have m1 := Blk.free hs3.out.m (sn * 7 + (rn + 1))
        have hqi : (sn : Int) * 7 + (1 + (rn : Int)) < 49 := (by omega)
        have hqz : (0 : Int) ≤ (sn : Int) * 7 + (1 + (rn : Int)) := (by omega)
        have hqn : ((sn : Int) * 7 + (1 + (rn : Int))).toNat = sn * 7 + (rn + 1) := (by omega)
        clear hc3 hg3
        go_wp2_with fail
        go_roundw
        case rel => exact ⟨m - 1, tr ++ [sn * 7 + (rn + 1)], by omega, by go_num, Lib.hid (by have := htl.out; simp; omega), Lib.hid (fun i h1 h2 => by
          obtain ⟨j, hj, hm⟩ := htr.out i h1 h2
          exact ⟨j, hj, List.mem_append_left _ hm⟩), hs3.out.mark (sn * 7 + (rn + 1))⟩
        case measure => simp [intOf]; omega
      · have hhouse := Lib.hid (drawn_house (tr := tr) hH1 hH7 (by have := htl.out; omega) htr.out)
        have hgo2 : ¬ ((0 : Int) < m ∧ (2 : Int) < k) := by omega
        have HLT : Hid (tr.length ≤ 9) := by have := htl.out; unfold Hid; omega
        clear htl htr
        by_cases hm0 : (0 : Int) < m
        · have hk2 : ¬ (2 : Int) < k := by omega
          clear hgo
          go_wp2_with fail
          clear b0 lh
          go_loopw [8] (fun av wr => ∃ (a : Nat) (v : Value), a ≤ k ∧ av = .int .i64 a ∧ Hid (HSt w p gh k v tr wr) ∧ Hid (wr.ownsRow (gh + 2) 96 2 v (dsTo k tr a).length ((dsTo k tr a).flatMap GDoor.enc))) (fun av _ => k - (intOf av).toNat)
          case atStart => exact ⟨0, .slice none 0 0, Nat.zero_le _, rfl, hst, World.ownsRow_nil _ _ _ _⟩
          case round =>
            obtain ⟨a, v, hak, rfl, hst, hown⟩ := hrel
            have b0 := hst.out.h.cell 0
            have lh := hst.out.h.lt
            by_cases hlt : a < k
            · have hlti : (a : Int) < k := by omega
              have haw : wrap64 ((a : Int) + 1) = (a : Int) + 1 := IntWalk.wrap64_in _ ⟨by omega, by omega⟩
              go_wp2_with fail
              clear b0 lh
              go_loopw [9] (fun bv wr => ∃ (b : Nat) (v : Value), a + 1 ≤ b ∧ b ≤ k ∧ bv = .int .i64 b ∧ Hid (HSt w p gh k v tr wr) ∧ Hid (wr.ownsRow (gh + 2) 96 2 v (dsTo k tr a ++ rowTo tr a b).length ((dsTo k tr a ++ rowTo tr a b).flatMap GDoor.enc))) (fun bv _ => k - (intOf bv).toNat)
              case atStart => exact ⟨a + 1, v, Nat.le_refl _, by omega, by go_num, hst, by unfold Hid; rw [rowTo_zero, List.append_nil]; exact hown.out⟩
              case round =>
                obtain ⟨b, v, hab, hbk, rfl, hst, hown⟩ := hrel
                have b0 := hst.out.h.cell 0
                have lh := hst.out.h.lt
                by_cases hlb : b < k
                · have hlbi : (b : Int) < k := by omega
                  have hq49 : a * 7 + b < 49 := by omega
                  have m0 := FBlk.cell hst.out.m (flagL_at tr hq49)
                  have lm : gh + 1 < wr.heap.size := hst.out.m.lt
                  have hqi : (a : Int) * 7 + (b : Int) < 49 := by omega
                  have hqz : (0 : Int) ≤ (a : Int) * 7 + (b : Int) := by omega
                  have hqn : ((a : Int) * 7 + (b : Int)).toNat = a * 7 + b := by omega
                  have HR := Lib.hid (rowTo_succ tr a b hab)
                  by_cases hin : a * 7 + b ∈ tr
                  · rw [show decide (a * 7 + b ∈ tr) = true by simpa using hin] at m0
                    rw [if_pos hin] at HR
                    have b1 := hst.out.h.cell 1
                    have hlen : (dsTo k tr a ++ rowTo tr a b).length ≤ 1000 := by
                      rw [List.length_append]
                      have h1 := dsTo_len hH7 tr a
                      have h2 : (rowTo tr a b).length ≤ 7 := by
                        unfold rowTo
                        rw [List.length_map]
                        exact Nat.le_trans (List.length_filter_le ..) (by rw [List.length_range']; omega)
                      have := HLT.out
                      omega
                    obtain ⟨L, hL⟩ : ∃ L, L = dsTo k tr a ++ rowTo tr a b := ⟨_, rfl⟩
                    rw [← hL] at hown hlen
                    have HLL := Lib.hid hL
                    clear hin hL
                    go_wp2_with (at_builtin; refine append1g ei_D rfl _ _ rfl (gh + 2) wr _ _ L.length _ (by rfl) hown.out [.int .i64 (a : Int), .int .i64 (b : Int)] (by rfl) rfl (by intro u hu; simp at hu; rcases hu with rfl | rfl <;> rfl) (by omega) (by omega) ?_; intro v' w3 row ho3 hg3 hr3; have HS3 := Lib.hid (hst.out.app hg3 hr3); have c0 := HS3.out.h.cell 0; have c1 := HS3.out.h.cell 1; have cf := Blk.free HS3.out.h 1; have l3 := HS3.out.h.lt; obtain ⟨Av', cv', rfl, hcv'⟩ := own_form ho3; have HO3 := Lib.hid ho3; clear ho3 hg3 hr3)
                    go_roundw
                    case rel => rw [haw]; (first | refine ⟨_, _, _, _, _, _, _, _, _, _, _, _, _, _, _, _, _, _, _, _, _, _, ?_, rfl⟩); exact ⟨b + 1, .slice Av' (L.length + 1) cv', by omega, by omega, by go_num, HS3.out.put _, by unfold Hid; rw [HR.out, ← List.append_assoc, ← HLL.out, List.length_append, List.flatMap_append]; exact own_far HO3.out (by omega) _⟩
                    case measure => simp [intOf]; omega
                  · rw [show decide (a * 7 + b ∈ tr) = false by simpa using hin] at m0
                    rw [if_neg hin, List.append_nil] at HR
                    clear hin
                    go_wp2_with fail
                    go_roundw
                    case rel => exact ⟨b + 1, v, by omega, by omega, by go_num, hst, by unfold Hid; rw [HR.out]; exact hown.out⟩
                    case measure => simp [intOf]; omega
                · obtain rfl : b = k := by omega
                  have HO := Lib.hid (show wr.ownsRow (gh + 2) 96 2 v (dsTo b tr (a + 1)).length ((dsTo b tr (a + 1)).flatMap GDoor.enc) by rw [dsTo_succ]; exact hown.out)
                  clear hown
                  go_wp2_with fail
                  go_roundw
                  case rel => exact ⟨a + 1, v, by omega, by go_num, hst, HO⟩
                  case measure => simp [intOf]; omega
            · obtain rfl : a = k := by omega
              obtain ⟨Av, cv, rfl, hcv⟩ := own_form hown.out
              obtain ⟨nd, hnd⟩ : ∃ nd, nd = (dsTo a tr a).length := ⟨_, rfl⟩
              have HND := Lib.hid hnd
              rw [← hnd] at hst hown
              clear hnd hcv
              have b1 := hst.out.h.cell 1
              have r0 := hst.out.r.cell 0
              have r1 := hst.out.r.cell 1
              have rf : ∀ o, wr.frozen? ⟨w.heap.size, o, none⟩ = false := fun o => Blk.free hst.out.r o
              have lr := hst.out.r.lt
              go_wp2_with fail
              obtain ⟨WF, hWF⟩ : ∃ WF, WF = (wr.setCell ⟨w.heap.size, 0, none⟩ (.int .i64 (a : Int))).setCell ⟨w.heap.size, 1, none⟩ (.slice Av nd cv) := ⟨_, rfl⟩
              have FB := (hst.out.r.set 0 (.int .i64 (a : Int))).set 1 (.slice Av nd cv)
              have FO := own_far (k := 1) (own_far (k := 0) hown.out (show w.heap.size < gh + 2 by omega) (.int .i64 (a : Int))) (show w.heap.size < gh + 2 by omega) (.slice Av nd cv)
              have FC := cur_far (o := 1) (cur_far (o := 0) hst.out.c hpw (.int .i64 (a : Int))) hpw (.slice Av nd cv)
              have FG := grown_fresh (o := 1) (grown_fresh (o := 0) hst.out.g (Nat.le_refl _) (.int .i64 (a : Int))) (Nat.le_refl _) (.slice Av nd cv)
              rw [← hWF] at FB FO FC FG
              rw [← hWF]
              clear hWF
              have y0 := FB.cell 0
              have y1 := FB.cell 1
              refine bodyPost_ret (v := .agg #[.int .i64 (a : Int), .slice Av nd cv]) (by simp [results, Tryd.results28, go_sem, y0, y1]) rfl ?_
              exact ⟨a, .slice Av nd cv, dsTo a tr a, rfl, hH1, hH7, hhouse.out, by rw [← HND.out]; exact own_weak FO (by omega), FC, FG⟩
        · clear hgo
          go_wp2_with fail
          clear b0 lh
          go_loopw [8] (fun av wr => ∃ (a : Nat) (v : Value), a ≤ k ∧ av = .int .i64 a ∧ Hid (HSt w p gh k v tr wr) ∧ Hid (wr.ownsRow (gh + 2) 96 2 v (dsTo k tr a).length ((dsTo k tr a).flatMap GDoor.enc))) (fun av _ => k - (intOf av).toNat)
          case atStart => exact ⟨0, .slice none 0 0, Nat.zero_le _, rfl, hst, World.ownsRow_nil _ _ _ _⟩
          case round =>
            obtain ⟨a, v, hak, rfl, hst, hown⟩ := hrel
            have b0 := hst.out.h.cell 0
            have lh := hst.out.h.lt
            by_cases hlt : a < k
            · have hlti : (a : Int) < k := by omega
              have haw : wrap64 ((a : Int) + 1) = (a : Int) + 1 := IntWalk.wrap64_in _ ⟨by omega, by omega⟩
              go_wp2_with fail
              clear b0 lh
              go_loopw [9] (fun bv wr => ∃ (b : Nat) (v : Value), a + 1 ≤ b ∧ b ≤ k ∧ bv = .int .i64 b ∧ Hid (HSt w p gh k v tr wr) ∧ Hid (wr.ownsRow (gh + 2) 96 2 v (dsTo k tr a ++ rowTo tr a b).length ((dsTo k tr a ++ rowTo tr a b).flatMap GDoor.enc))) (fun bv _ => k - (intOf bv).toNat)
              case atStart => exact ⟨a + 1, v, Nat.le_refl _, by omega, by go_num, hst, by unfold Hid; rw [rowTo_zero, List.append_nil]; exact hown.out⟩
              case round =>
                obtain ⟨b, v, hab, hbk, rfl, hst, hown⟩ := hrel
                have b0 := hst.out.h.cell 0
                have lh := hst.out.h.lt
                by_cases hlb : b < k
                · have hlbi : (b : Int) < k := by omega
                  have hq49 : a * 7 + b < 49 := by omega
                  have m0 := FBlk.cell hst.out.m (flagL_at tr hq49)
                  have lm : gh + 1 < wr.heap.size := hst.out.m.lt
                  have hqi : (a : Int) * 7 + (b : Int) < 49 := by omega
                  have hqz : (0 : Int) ≤ (a : Int) * 7 + (b : Int) := by omega
                  have hqn : ((a : Int) * 7 + (b : Int)).toNat = a * 7 + b := by omega
                  have HR := Lib.hid (rowTo_succ tr a b hab)
                  by_cases hin : a * 7 + b ∈ tr
                  · rw [show decide (a * 7 + b ∈ tr) = true by simpa using hin] at m0
                    rw [if_pos hin] at HR
                    have b1 := hst.out.h.cell 1
                    have hlen : (dsTo k tr a ++ rowTo tr a b).length ≤ 1000 := by
                      rw [List.length_append]
                      have h1 := dsTo_len hH7 tr a
                      have h2 : (rowTo tr a b).length ≤ 7 := by
                        unfold rowTo
                        rw [List.length_map]
                        exact Nat.le_trans (List.length_filter_le ..) (by rw [List.length_range']; omega)
                      have := HLT.out
                      omega
                    obtain ⟨L, hL⟩ : ∃ L, L = dsTo k tr a ++ rowTo tr a b := ⟨_, rfl⟩
                    rw [← hL] at hown hlen
                    have HLL := Lib.hid hL
                    clear hin hL
                    go_wp2_with (at_builtin; refine append1g ei_D rfl _ _ rfl (gh + 2) wr _ _ L.length _ (by rfl) hown.out [.int .i64 (a : Int), .int .i64 (b : Int)] (by rfl) rfl (by intro u hu; simp at hu; rcases hu with rfl | rfl <;> rfl) (by omega) (by omega) ?_; intro v' w3 row ho3 hg3 hr3; have HS3 := Lib.hid (hst.out.app hg3 hr3); have c0 := HS3.out.h.cell 0; have c1 := HS3.out.h.cell 1; have cf := Blk.free HS3.out.h 1; have l3 := HS3.out.h.lt; obtain ⟨Av', cv', rfl, hcv'⟩ := own_form ho3; have HO3 := Lib.hid ho3; clear ho3 hg3 hr3)
                    go_roundw
                    case rel => rw [haw]; (first | refine ⟨_, _, _, _, _, _, _, _, _, _, _, _, _, _, _, _, _, _, _, _, _, _, ?_, rfl⟩); exact ⟨b + 1, .slice Av' (L.length + 1) cv', by omega, by omega, by go_num, HS3.out.put _, by unfold Hid; rw [HR.out, ← List.append_assoc, ← HLL.out, List.length_append, List.flatMap_append]; exact own_far HO3.out (by omega) _⟩
                    case measure => simp [intOf]; omega
                  · rw [show decide (a * 7 + b ∈ tr) = false by simpa using hin] at m0
                    rw [if_neg hin, List.append_nil] at HR
                    clear hin
                    go_wp2_with fail
                    go_roundw
                    case rel => exact ⟨b + 1, v, by omega, by omega, by go_num, hst, by unfold Hid; rw [HR.out]; exact hown.out⟩
                    case measure => simp [intOf]; omega
                · obtain rfl : b = k := by omega
                  have HO := Lib.hid (show wr.ownsRow (gh + 2) 96 2 v (dsTo b tr (a + 1)).length ((dsTo b tr (a + 1)).flatMap GDoor.enc) by rw [dsTo_succ]; exact hown.out)
                  clear hown
                  go_wp2_with fail
                  go_roundw
                  case rel => exact ⟨a + 1, v, by omega, by go_num, hst, HO⟩
                  case measure => simp [intOf]; omega
            · obtain rfl : a = k := by omega
              obtain ⟨Av, cv, rfl, hcv⟩ := own_form hown.out
              obtain ⟨nd, hnd⟩ : ∃ nd, nd = (dsTo a tr a).length := ⟨_, rfl⟩
              have HND := Lib.hid hnd
              rw [← hnd] at hst hown
              clear hnd hcv
              have b1 := hst.out.h.cell 1
              have r0 := hst.out.r.cell 0
              have r1 := hst.out.r.cell 1
              have rf : ∀ o, wr.frozen? ⟨w.heap.size, o, none⟩ = false := fun o => Blk.free hst.out.r o
              have lr := hst.out.r.lt
              go_wp2_with fail
              obtain ⟨WF, hWF⟩ : ∃ WF, WF = (wr.setCell ⟨w.heap.size, 0, none⟩ (.int .i64 (a : Int))).setCell ⟨w.heap.size, 1, none⟩ (.slice Av nd cv) := ⟨_, rfl⟩
              have FB := (hst.out.r.set 0 (.int .i64 (a : Int))).set 1 (.slice Av nd cv)
              have FO := own_far (k := 1) (own_far (k := 0) hown.out (show w.heap.size < gh + 2 by omega) (.int .i64 (a : Int))) (show w.heap.size < gh + 2 by omega) (.slice Av nd cv)
              have FC := cur_far (o := 1) (cur_far (o := 0) hst.out.c hpw (.int .i64 (a : Int))) hpw (.slice Av nd cv)
              have FG := grown_fresh (o := 1) (grown_fresh (o := 0) hst.out.g (Nat.le_refl _) (.int .i64 (a : Int))) (Nat.le_refl _) (.slice Av nd cv)
              rw [← hWF] at FB FO FC FG
              rw [← hWF]
              clear hWF
              have y0 := FB.cell 0
              have y1 := FB.cell 1
              refine bodyPost_ret (v := .agg #[.int .i64 (a : Int), .slice Av nd cv]) (by simp [results, Tryd.results28, go_sem, y0, y1]) rfl ?_
              exact ⟨a, .slice Av nd cv, dsTo a tr a, rfl, hH1, hH7, hhouse.out, by rw [← HND.out]; exact own_weak FO (by omega), FC, FG⟩
end Go.Proofs.YtfhibjehnoibeaaDoor
/- The reference's l40Number; no condition but what stands at each theorem. -/
namespace Go.Proofs.YtfhibjehnoibeaaDoor
set_option linter.unusedSimpArgs false
set_option linter.unusedVariables false
open Go.RowKit Go.Sort
def PN (x : ByteArray) (w : World) (e : Ending) (w' : World) : Prop :=
  ∃ z : Int, e = .returned (.int .i64 z) ∧ Ext w w' ∧ ∀ i : Nat, i ≤ 1000 → x = itext i → z = i
theorem nominus {x : ByteArray} (hk : 1 < x.size) (h : x[0].toNat = 45) : ∀ i : Nat, x ≠ itext i := nodig (k := 0) (by omega) (by omega)
end Go.Proofs.YtfhibjehnoibeaaDoor
/- The program's SplitFields; no condition but what stands at each theorem. -/
namespace Go.Proofs.YtfhibjehnoibeaaDoor
set_option linter.unusedSimpArgs false
set_option linter.unusedVariables false
open Go.RowKit Go.Sort
set_option maxRecDepth 100000 in
set_option maxHeartbeats 4000000 in
theorem impl_SplitFields (x : ByteArray) (w : World) (hx : x.size ≤ 1048576) : Calls Tryd.prog 25 #[.string x] w (SplitPost x w) := by
  have Hbad := Lib.hid (fun (v : Value) (w' : World) (e : Ext w w') (h : spOk x = false) => (show SplitPost x w (.returned (.tuple #[v, .bool false])) w' from ⟨v, by rw [h], e, fun h' => by rw [h] at h'; cases h'⟩))
  have Ho0 := Lib.hid (own_empty w w.heap.size 9 1 (Nat.le_refl _))
  by_cases h600 : 600 < x.size
  · have h600i : (600 : Int) < x.size := by omega
    have HN := Lib.hid (sp_long h600)
    go_enter Tryd.func25, Tryd.ntmps25
    go_wp2_with fail
    exact bodyPost_ret (v := .tuple #[.slice none 0 0, .bool false]) (by simp [results, Tryd.results25, go_sem, *]) rfl (Hbad.out _ _ (Ext.refl w) HN.out)
  have h600i : (x.size : Int) ≤ 600 := by omega
  obtain ⟨L, hL⟩ : ∃ L, L = x.data.toList := ⟨_, rfl⟩
  have HL := Lib.hid hL
  have hLl : L.length = x.size := by rw [hL]; exact toList_size x
  clear hL
  go_enter Tryd.func25, Tryd.ntmps25
  go_wp2_with fail
  go_loop [4] (fun i => ∃ (k : Nat), k ≤ x.size ∧ i = .int .i64 k ∧ Hid (∀ j (hj : j < x.size), j < k → ¬ (x[j].toNat < 32 ∨ 126 < x[j].toNat))) (fun i => x.size - (intOf i).toNat)
  case atStart => exact ⟨0, by omega, rfl, Lib.hid (fun j _ h => absurd h (by omega))⟩
  case round =>
    obtain ⟨k, hk, rfl, hpr⟩ := hrel
    by_cases hlt : k < x.size
    · have hlti : (k : Int) < x.size := by omega
      by_cases hbad : x[k].toNat < 32 ∨ 126 < x[k].toNat
      · have HN := Lib.hid (sp_bad hlt hbad)
        rcases hbad with hd | hd
        · go_wp2_with fail
          exact bodyPost_ret (v := .tuple #[.slice none 0 0, .bool false]) (by simp [results, Tryd.results25, go_sem, *]) rfl (Hbad.out _ _ (Ext.refl w) HN.out)
        · have hd2 : ¬ x[k].toNat < 32 := by omega
          go_wp2_with fail
          exact bodyPost_ret (v := .tuple #[.slice none 0 0, .bool false]) (by simp [results, Tryd.results25, go_sem, *]) rfl (Hbad.out _ _ (Ext.refl w) HN.out)
      · have HPR : Hid (∀ j (hj : j < x.size), j < k + 1 → ¬ (x[j].toNat < 32 ∨ 126 < x[j].toNat)) := fun j hj h => by
          by_cases h2 : j < k
          · exact hpr.out j hj h2
          · obtain rfl : j = k := by omega
            exact hbad
        have hd1 : ¬ x[k].toNat < 32 := by omega
        have hd2 : ¬ 126 < x[k].toNat := by omega
        go_wp2_with fail
        go_round
        case rel => exact ⟨k + 1, by omega, by go_num, HPR⟩
        case measure => simp [intOf] <;> omega
    · obtain rfl : k = x.size := by omega
      go_wp2_with fail
      go_loopw [5, 6] (fun v i wr => ∃ (k : Nat) (W : List (List UInt8)), k ≤ x.size ∧ i = .int .i64 k ∧ Hid (wr.ownsRow w.heap.size 9 1 v W.length (sval W)) ∧ W.length ≤ k ∧ Hid (wds [] (L ++ [32]) = W ++ wds [] ((L ++ [32]).drop k)) ∧ Ext w wr) (fun _ i _ => x.size - (intOf i).toNat)
      case atStart => exact ⟨0, [], by omega, rfl, Ho0, Nat.le_refl _, rfl, (Ext.refl _).alloc _⟩
      case round =>
        obtain ⟨k, W, hk, rfl, hown, hWl, hz, hb⟩ := hrel
        have HB := Lib.hid hb
        have hsw := hb.size
        clear hb
        obtain ⟨A, c', rfl, hnc⟩ := own_form hown.out
        by_cases hlt : k < x.size
        · have hlti : (k : Int) < x.size := by omega
          have hLk : L[k]? = some x[k] := by rw [HL.out]; exact byte_at x k hlt
          by_cases h32 : x[k].toNat = 32
          · have hb32 : x[k] = 32 := UInt8.toNat_inj.1 h32
            have h32i : ((x[k].toNat : Int) == 32) = true := by simp [h32]
            have HZ : Hid (wds [] (L ++ [32]) = W ++ wds [] ((L ++ [32]).drop (k + 1))) := by unfold Hid; rw [hz.out, dropB hLk, hb32, wd_e]
            clear hLk hb32
            go_wp2_with fail
            go_roundw
            case rel => exact ⟨k + 1, W, by omega, by go_num, hown, by omega, HZ, HB.out⟩
            case measure => simp [intOf] <;> omega
          · have h32i : ((x[k].toNat : Int) == 32) = false := beq_false_of_ne (show (x[k].toNat : Int) ≠ 32 by omega)
            have hb32 := h32
            clear hLk
            go_wp2_with fail
            go_loop [6] (fun i => ∃ (j : Nat), k ≤ j ∧ j ≤ x.size ∧ i = .int .i64 j ∧ Hid (wds [] ((L ++ [32]).drop k) = wds ((L.drop k).take (j - k)) ((L ++ [32]).drop j))) (fun i => x.size - (intOf i).toNat)
            case atStart => exact ⟨k, Nat.le_refl _, hk, rfl, Lib.hid (by rw [cur_nil])⟩
            case round =>
              obtain ⟨j, hkj, hj, rfl, hq⟩ := hrel
              have key : ∀ (HD : Hid ((L ++ [32]).drop j = 32 :: (L ++ [32]).drop (j + 1))) (hjk : k < j), Hid (wds [] (L ++ [32]) = (W ++ [(L.drop k).take (j - k)]) ++ wds [] ((L ++ [32]).drop j)) := fun HD hjk => by
                unfold Hid; rw [hz.out, hq.out, HD.out, wd_n (cur_ne hjk (by omega)), wd_e]; simp
              by_cases hlj : j < x.size
              · have hLj : L[j]? = some x[j] := by rw [HL.out]; exact byte_at x j hlj
                by_cases h2 : x[j].toNat = 32
                · have hjb : x[j] = 32 := UInt8.toNat_inj.1 h2
                  have hjk : k < j := by
                    rcases Nat.lt_or_ge k j with h | h
                    · exact h
                    · obtain rfl : j = k := by omega
                      exact absurd h2 h32
                  have HZ := key (by unfold Hid; rw [dropB hLj, hjb]) hjk
                  have h2i : ((x[j].toNat : Int) == 32) = true := by simp [h2]
                  clear key hLj hjb
                  have HT : Hid (x.extract k j = ⟨((L.drop k).take (j - k)).toArray⟩) := by unfold Hid; rw [ext_bs, HL.out]
                  have hkji : (k : Int) ≤ (j : Nat) := by omega
                  go_wp2_with (at_builtin; refine (fun h : Hid _ => h.out) ?_)
                  unfold Hid
                  refine append1 ei_S rfl _ _ rfl w.heap.size wr _ _ W.length _ (by rfl) hown.out [.string (x.extract k j)] (by rfl) rfl (one_str1 _) (by omega) (by omega) ?_
                  intro v' w2 ho2 he2
                  have HO2 := Lib.hid ho2
                  have HE2 := Lib.hid (he2 w HB.out (Nat.le_refl _))
                  clear ho2 he2
                  go_wp2_with fail
                  go_roundw
                  case rel => exact ⟨j, W ++ [(L.drop k).take (j - k)], by omega, by go_num, by (unfold Hid; rw [sval_snoc, ← HT.out, List.length_append]; exact HO2.out), by simp; omega, HZ, HE2.out⟩
                  case measure => simp [intOf] <;> omega
                · have h2i : ((x[j].toNat : Int) == 32) = false := beq_false_of_ne (show (x[j].toNat : Int) ≠ 32 by omega)
                  have HQ : Hid (wds [] ((L ++ [32]).drop k) = wds ((L.drop k).take (j + 1 - k)) ((L ++ [32]).drop (j + 1))) := by
                    unfold Hid; rw [hq.out, dropB hLj, wd_ne (fun e => h2 (by rw [e]; rfl)), cur_snoc hLj hkj]
                  clear key hLj
                  go_wp2_with fail
                  go_round
                  case rel => exact ⟨j + 1, by omega, by omega, by go_num, HQ⟩
                  case measure => simp [intOf] <;> omega
              · obtain rfl : j = x.size := by omega
                have hjk : k < x.size := hlt
                have HZ := key (by unfold Hid; rw [← hLl]; exact dropE L) hjk
                clear key
                have HT : Hid (x.extract k x.size = ⟨((L.drop k).take (x.size - k)).toArray⟩) := by unfold Hid; rw [ext_bs, HL.out]
                have hkji : (k : Int) ≤ (x.size : Nat) := by omega
                go_wp2_with (at_builtin; refine (fun h : Hid _ => h.out) ?_)
                unfold Hid
                refine append1 ei_S rfl _ _ rfl w.heap.size wr _ _ W.length _ (by rfl) hown.out [.string (x.extract k x.size)] (by rfl) rfl (one_str1 _) (by omega) (by omega) ?_
                intro v' w2 ho2 he2
                have HO2 := Lib.hid ho2
                have HE2 := Lib.hid (he2 w HB.out (Nat.le_refl _))
                clear ho2 he2
                go_wp2_with fail
                go_roundw
                case rel => exact ⟨x.size, W ++ [(L.drop k).take (x.size - k)], by omega, by go_num, by (unfold Hid; rw [sval_snoc, ← HT.out, List.length_append]; exact HO2.out), by simp; omega, HZ, HE2.out⟩
                case measure => simp [intOf] <;> omega
        · obtain rfl : k = x.size := by omega
          have hF : fieldsOf x = W := by
            have h := hz.out
            have hd0 : (L ++ [32]).drop x.size = [32] := by rw [← hLl]; simp
            rw [hd0, wd_e, wd_nil, List.append_nil] at h
            unfold fieldsOf
            rw [← HL.out, h]
          by_cases h24 : 24 < W.length
          · have h24i : (24 : Int) < W.length := by omega
            have HN := Lib.hid (sp_many (x := x) (by rw [hF]; exact h24))
            clear hF
            go_wp2_with fail
            exact bodyPost_ret (v := .tuple #[.slice none 0 0, .bool false]) (by simp [results, Tryd.results25, go_sem, *]) rfl (Hbad.out _ _ HB.out HN.out)
          · have h24i : (W.length : Int) ≤ 24 := by omega
            have hok : spOk x = true := sp_good (by omega) (fun j hj => hpr.out j hj (by omega)) (by rw [hF]; omega)
            have HOK : Hid (SplitPost x w (.returned (.tuple #[.slice A W.length c', .bool true])) wr) := ⟨_, by rw [hok], HB.out, fun _ => by rw [hF]; exact hown.out⟩
            clear hF hok
            go_wp2_with fail
            exact bodyPost_ret (v := .tuple #[.slice A W.length c', .bool true]) (by simp [results, Tryd.results25, go_sem, *]) rfl HOK.out
end Go.Proofs.YtfhibjehnoibeaaDoor
/- ParseAct of the reference; no condition but what stands at each theorem. -/
namespace Go.Proofs.YtfhibjehnoibeaaDoor
set_option linter.unusedSimpArgs false
set_option linter.unusedVariables false
open Go.RowKit Go.Sort
theorem jb_snoc {L : List (List UInt8)} (h : L ≠ []) (f : List UInt8) : jb (L ++ [f]) = jb L ++ sp1 ++ ⟨f.toArray⟩ := by
  cases L with
  | nil => exact absurd rfl h
  | cons g r =>
    unfold jb sp1
    rw [List.cons_append, Lib.join_cons, Lib.join_cons, str_app _ [32], str_app]
    simp [Lib.joinTail]
theorem wds_len : ∀ (r cur : List UInt8), ∀ l ∈ wds cur r, l.length ≤ cur.length + r.length
  | [], _, l, hl => by rw [wd_nil] at hl; cases hl
  | b :: r, cur, l, hl => by
    by_cases hb : b = 32
    · subst hb
      by_cases hcur : cur = []
      · subst hcur
        rw [wd_e] at hl
        have := wds_len r [] l hl
        simp at this ⊢; omega
      · rw [wd_n hcur] at hl
        rcases List.mem_cons.1 hl with rfl | hl
        · omega
        · have := wds_len r [] l hl
          simp at this ⊢; omega
    · rw [wd_ne hb] at hl
      have := wds_len r _ l hl
      simp at this ⊢; omega
theorem fields_len (x : ByteArray) : ∀ l ∈ fieldsOf x, l.length ≤ x.size + 1 := by
  intro l hl
  have := wds_len _ [] l hl
  rw [List.length_append, toList_size] at this
  simpa using this
def PAPost (x : ByteArray) (w : World) (e : Ending) (w' : World) : Prop :=
  ∃ (a : GAct) (b : Bool), e = .returned (.tuple #[.agg #[.int .i64 a.k, .int .i64 a.a, .int .i64 a.b, .int .i64 a.c, .int .i64 a.d], .bool b]) ∧ Ext w w' ∧ PA x a b
theorem pa_none {x : ByteArray} {w w' : World} (h : ∀ a', spOk x = true → acOk a' = true → fieldsOf x ≠ actW a') (e : Ext w w') :
    PAPost x w (.returned (.tuple #[.agg #[.int .i64 0, .int .i64 0, .int .i64 0, .int .i64 0, .int .i64 0], .bool false])) w' :=
  ⟨⟨0, 0, 0, 0, 0⟩, false, rfl, e, .inr ⟨rfl, rfl, h⟩⟩
/-- The numbers read so far. -/
def NumsOf (fs : List (List UInt8)) (zs : List Int) : Prop := ∀ (j : Nat) (f : List UInt8) (z : Int), zs[j]? = some z → fs[j + 1]? = some f → NumOf f z
theorem nums_snoc {fs : List (List UInt8)} {zs : List Int} {f : List UInt8} {z : Int} (h : NumsOf fs zs) (hf : fs[zs.length + 1]? = some f) (hz : NumOf f z) : NumsOf fs (zs ++ [z]) := by
  intro j g y hy hg
  by_cases hj : j < zs.length
  · rw [List.getElem?_append_left hj] at hy
    exact h j g y hy hg
  · rw [List.getElem?_append_right (by omega)] at hy
    have hj2 : j - zs.length = 0 := by
      cases hjl : j - zs.length with
      | zero => rfl
      | succ q => rw [hjl] at hy; simp at hy
    obtain rfl : j = zs.length := by omega
    rw [hf] at hg
    simp at hy
    injection hg with hg
    subst hg hy
    exact hz
theorem nums_at {fs : List (List UInt8)} {zs : List Int} (h : NumsOf fs zs) (hl : zs.length + 1 = fs.length) (j : Nat) (hj : j < 4) : NumAt fs j ((zs ++ [0, 0, 0, 0]).getD j 0) := by
  by_cases hz : j < zs.length
  · have hf : fs[j + 1]? = some fs[j + 1] := List.getElem?_eq_getElem (by omega)
    refine .inl ⟨_, hf, h j _ _ ?_ hf⟩
    rw [List.getD_eq_getElem?_getD, List.getElem?_append_left hz, List.getElem?_eq_getElem hz]; rfl
  · refine .inr ⟨by omega, ?_⟩
    rw [List.getD_eq_getElem?_getD, List.getElem?_append_right (by omega)]
    have : j - zs.length < 4 := by omega
    match h : j - zs.length, this with
    | 0, _ => rfl
    | 1, _ => rfl
    | 2, _ => rfl
    | 3, _ => rfl
def set5 (W : World) (g : Nat) (u0 u1 u2 u3 u4 : Value) : World := ((((W.setCell ⟨g, 0, none⟩ u0).setCell ⟨g, 1, none⟩ u1).setCell ⟨g, 2, none⟩ u2).setCell ⟨g, 3, none⟩ u3).setCell ⟨g, 4, none⟩ u4
theorem set5_blk {W : World} {g : Nat} {t : TypeId} {v0 v1 v2 v3 v4 : Value} (hB : Blk W g t #[v0, v1, v2, v3, v4]) (u0 u1 u2 u3 u4 : Value) : Blk (set5 W g u0 u1 u2 u3 u4) g t #[u0, u1, u2, u3, u4] :=
  ((((hB.set 0 u0).set 1 u1).set 2 u2).set 3 u3).set 4 u4
theorem set5_ext {w W : World} {g : Nat} (h : Ext w W) (hg : w.heap.size ≤ g) (u0 u1 u2 u3 u4 : Value) : Ext w (set5 W g u0 u1 u2 u3 u4) :=
  ((((h.setCell (p := ⟨g, 0, none⟩) hg u0).setCell (p := ⟨g, 1, none⟩) hg u1).setCell (p := ⟨g, 2, none⟩) hg u2).setCell (p := ⟨g, 3, none⟩) hg u3).setCell (p := ⟨g, 4, none⟩) hg u4
theorem bytes_eq {a b : ByteArray} (h : (a.toList == b.toList) = true) : a = b := by
  have h1 := eq_of_beq h
  rw [Lib.toList_data, Lib.toList_data] at h1
  exact Go.WideShapes.bytes_inj h1
theorem bytes_ne {a b : ByteArray} (h : (a.toList == b.toList) = false) : a ≠ b := by
  rintro rfl
  simp at h
theorem pa_some {x : ByteArray} {w w' : World} (a : GAct) (hs : spOk x = true) (ha : acOk a = true) (he : fieldsOf x = actW a) (e : Ext w w') :
    PAPost x w (.returned (.tuple #[.agg #[.int .i64 a.k, .int .i64 a.a, .int .i64 a.b, .int .i64 a.c, .int .i64 a.d], .bool true])) w' :=
  ⟨a, true, rfl, e, .inl ⟨rfl, hs, ha, he⟩⟩
theorem no_snoc {p : Nat → Prop} {k : Nat} (h : ∀ q, 1 ≤ q → q < k → ¬ p q) (hk : ¬ p k) : ∀ q, 1 ≤ q → q < k + 1 → ¬ p q := by
  intro q h1 h2
  by_cases h3 : q < k
  · exact h q h1 h3
  · obtain rfl : q = k := by omega
    exact hk
theorem ei_N : EI Tryd.prog 27 3 1 := ei_of Tryd.underlying27 (by omega) (by kernel_rfl)
theorem one_intN (k : Int) : ∀ u ∈ [Value.int .i64 k], u.oneCell' = true := by intro u hu; simp at hu; subst hu; rfl
theorem one_iencN (zs : List Int) : ∀ u ∈ zs.flatMap ienc, u.oneCell' = true := by
  intro u hu
  rw [ienc_map] at hu
  obtain ⟨z, _, rfl⟩ := List.mem_map.1 hu
  rfl
theorem mk_size (f : List UInt8) : (⟨f.toArray⟩ : ByteArray).size = f.length := by simp [ByteArray.size]
end Go.Proofs.YtfhibjehnoibeaaDoor
/- Small functions of the laws: a code's length, a number taken from a code; no condition but what stands at each theorem. -/
namespace Go.Proofs.YtfhibjehnoibeaaDoor
set_option linter.unusedSimpArgs false
set_option linter.unusedVariables false
open Go.RowKit Go.Sort
def bencU (b : UInt8) : List Value := [.int .u8 (b.toNat : Int)]
theorem rd_bytes {w : World} {A : Option Addr} {n : Nat} {bs : List UInt8} (h : Rd w 1 A n (bs.flatMap bencU)) : Rd w 1 A n ((bs.map fun b => (b.toNat : Int)).flatMap benc) := by
  rw [List.flatMap_map]; exact h
theorem bytes_bd (bs : List UInt8) : ∀ x ∈ bs.map (fun b => (b.toNat : Int)), 0 ≤ x ∧ x ≤ 255 := by
  intro x hx
  obtain ⟨b, _, rfl⟩ := List.mem_map.1 hx
  have := b.toNat_lt
  omega
theorem laws_big (A : Option Addr) (n c : Nat) (w : World) : Calls Tryd.prog 6 #[.slice A n c] w fun e w' => e = .returned (.bool (decide (1048576 < n))) ∧ w = w' := by
  go_enter Tryd.func6, Tryd.ntmps6
  go_wp2_with fail
  go_ret
  exact ⟨ret_bool (by rw [Bool.eq_iff_iff]; simp; omega), rfl⟩
end Go.Proofs.YtfhibjehnoibeaaDoor
/- What a row that lists the tables gives: the powers of ten stand; no condition. -/
namespace Go.Proofs.YtfhibjehnoibeaaDoor
set_option linter.unusedSimpArgs false
set_option linter.unusedVariables false
open Go.RowKit
theorem tab_laid {W : World} (h : laidMetH Tryd.prog [("math/bits.deBruijn32tab", Rows.laid_math_bits_deBruijn32tab), ("math/bits.deBruijn64tab", Rows.laid_math_bits_deBruijn64tab), ("internal/strconv.uint64pow10", Rows.laid_internal_strconv_uint64pow10)] W) :
    Lib.TabIs Tryd.prog W "internal/strconv.uint64pow10" .u64 Lib.pow10Tab := by
  rw [MakeChecks.laidMetH_plain _ _ _ (by kernel_rfl)] at h
  obtain ⟨ps, ⟨g0, t0, cs0, f0, p0, q0, hg0, ht0, hv0, hd0, ⟨g1, t1, cs1, f1, p1, q1, hg1, ht1, hv1, hd1, ⟨g2, t2, cs2, f2, p2, q2, hg2, ht2, hv2, hd2, _, _⟩, _⟩, _⟩, _, _⟩ := h
  have hgt : (Tryd.prog.globals[g2]?).map (·.type) = some 143 := by
    have : (Tryd.prog.globalNamed "internal/strconv.uint64pow10").bind (fun g => (Tryd.prog.globals[g]?).map (·.type)) = some 143 := by kernel_rfl
    rw [hg2] at this
    exact this
  obtain rfl := Option.some.inj (hgt.symm.trans ht2)
  rw [show (Rows.laid_internal_strconv_uint64pow10 : DataW Unit) = Lib.tabData .u64 Lib.pow10Tab by kernel_rfl] at hd2
  unfold Lib.TabIs
  rw [hv2, ← Lib.cells_of_tab (n := 20) Tryd.underlying143 Tryd.underlying132 (by kernel_rfl) (by kernel_rfl) hd2]
end Go.Proofs.YtfhibjehnoibeaaDoor
