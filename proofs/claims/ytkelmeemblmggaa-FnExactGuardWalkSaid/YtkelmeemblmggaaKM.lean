/- Worlds in which only some blocks have turned; no condition but what stands at each theorem. -/
import Derived.Test.YtkelmeemblmggaaH6
namespace Go.Proofs.Ytkelmeemblmggaa
set_option linter.unusedSimpArgs false
set_option linter.unusedVariables false
open Go.RowKit Go.Sort
/-- Only blocks from lo to below hi have turned; new blocks may have come. -/
def KeptOut (lo hi : Nat) (w w' : World) : Prop := Below 0 w w' ∧ ∀ i, i < w.heap.size → (i < lo ∨ hi ≤ i) → w'.heap[i]? = w.heap[i]?
theorem KeptOut.of_grown {w w' : World} {row : Option Nat} {lo hi : Nat} (g : w.grownBy w' row) (h : ∀ k, row = some k → lo ≤ k ∧ k < hi) : KeptOut lo hi w w' :=
  ⟨⟨g.os, g.tape, g.output, g.size, fun i hi => absurd hi (Nat.not_lt_zero _)⟩, fun i hi ho => g.block i hi (fun e => by have := h i e.symm; omega)⟩
theorem KeptOut.of_ext {w w' : World} {lo hi : Nat} (e : Ext w w') : KeptOut lo hi w w' :=
  ⟨⟨e.os, e.tape, e.output, e.size, fun i hi => absurd hi (Nat.not_lt_zero _)⟩, fun i hi _ => e.block i hi⟩
theorem KeptOut.trans {a b c : World} {lo hi : Nat} (h : KeptOut lo hi a b) (k : KeptOut lo hi b c) : KeptOut lo hi a c :=
  ⟨⟨k.1.os.trans h.1.os, k.1.tape.trans h.1.tape, k.1.output.trans h.1.output, Nat.le_trans h.1.size k.1.size, fun i hi => absurd hi (Nat.not_lt_zero _)⟩, fun i hi ho => (k.2 i (Nat.lt_of_lt_of_le hi h.1.size) ho).trans (h.2 i hi ho)⟩
theorem KeptOut.mono {w w' : World} {lo hi lo' hi' : Nat} (h : KeptOut lo hi w w') (h1 : lo' ≤ lo) (h2 : hi ≤ hi') : KeptOut lo' hi' w w' :=
  ⟨h.1, fun i hi ho => h.2 i hi (by omega)⟩
theorem KeptOut.ext {a w w' : World} {lo hi : Nat} (k : KeptOut lo hi w w') (h : Ext a w) (ha : a.heap.size ≤ lo) : Ext a w' :=
  ⟨k.1.os.trans h.os, k.1.tape.trans h.tape, k.1.output.trans h.output, Nat.le_trans h.size k.1.size, fun i hi => (k.2 i (Nat.lt_of_lt_of_le hi h.size) (.inl (Nat.lt_of_lt_of_le hi ha))).trans (h.block i hi)⟩
theorem KeptOut.size {w w' : World} {lo hi : Nat} (k : KeptOut lo hi w w') : w.heap.size ≤ w'.heap.size := k.1.size
theorem KeptOut.own {w w' : World} {lo hi base : Nat} {e : TypeId} {m n : Nat} {v : Value} {L : List Value} (k : KeptOut lo hi w w') (h : w.ownsRow base e m v n L) (ha : ∀ g, v.ownBlock = some g → g < lo ∨ hi ≤ g) : w'.ownsRow base e m v n L := by
  rcases h.2 with ⟨rfl, hx⟩ | ⟨g, cap, cur, rfl, hbg, hg, r⟩
  · exact ⟨h.1, .inl ⟨rfl, hx⟩⟩
  · exact ⟨h.1, .inr ⟨g, cap, cur, rfl, hbg, (k.2 g (Array.getElem?_eq_some_iff.1 hg).1 (ha g rfl)).trans hg, r⟩⟩
theorem MOwn.out {w w' : World} {lo hi base : Nat} {v : MV} {m : GMuseum} (h : MOwn w base v m) (k : KeptOut lo hi w w') (hb : hi ≤ base) : MOwn w' base v m :=
  ⟨h.eH, h.ed, k.own h.od fun g hg => .inr (Nat.le_trans hb (h.od.lt g hg).1), k.own h.of_ fun g hg => .inr (Nat.le_trans hb (h.of_.lt g hg).1), k.own h.op fun g hg => .inr (Nat.le_trans hb (h.op.lt g hg).1),
    k.own h.og fun g hg => .inr (Nat.le_trans hb (h.og.lt g hg).1), k.own h.or_ fun g hg => .inr (Nat.le_trans hb (h.or_.lt g hg).1), h.ap⟩
/-- All rows of the museum's value lie in blocks from lo to below hi. -/
def MAt (lo hi : Nat) (v : MV) : Prop := At lo hi v.sd.v ∧ At lo hi v.sf.v ∧ At lo hi v.sp.v ∧ At lo hi v.sg.v ∧ At lo hi v.sr.v
theorem MAt.of_own {w : World} {base : Nat} {v : MV} {m : GMuseum} (h : MOwn w base v m) : MAt base w.heap.size v :=
  ⟨At.of_own h.od, At.of_own h.of_, At.of_own h.op, At.of_own h.og, At.of_own h.or_⟩
theorem MAt.mono {lo hi lo' hi' : Nat} {v : MV} (h : MAt lo hi v) (h1 : lo' ≤ lo) (h2 : hi ≤ hi') : MAt lo' hi' v :=
  ⟨h.1.mono h1 h2, h.2.1.mono h1 h2, h.2.2.1.mono h1 h2, h.2.2.2.1.mono h1 h2, h.2.2.2.2.mono h1 h2⟩
theorem MOwn.below {w w' : World} {lo hi base base' : Nat} {v : MV} {m : GMuseum} (h : MOwn w base v m) (k : KeptOut lo hi w w') (a : MAt base' lo v) : MOwn w' base v m :=
  ⟨h.eH, h.ed, k.own h.od fun g hg => .inl (a.1 g hg).2, k.own h.of_ fun g hg => .inl (a.2.1 g hg).2, k.own h.op fun g hg => .inl (a.2.2.1 g hg).2, k.own h.og fun g hg => .inl (a.2.2.2.1 g hg).2, k.own h.or_ fun g hg => .inl (a.2.2.2.2 g hg).2, h.ap⟩
theorem KeptOut.of_at {w w' : World} {lo hi : Nat} {v : Value} (g : w.grownBy w' v.ownBlock) (h : At lo hi v) : KeptOut lo hi w w' := .of_grown g fun k hk => h k hk
theorem aparts {d f p g r : Value} (h : List.Pairwise Apart [d, f, p, g, r]) : Apart d f ∧ Apart d p ∧ Apart d g ∧ Apart d r ∧ Apart f p ∧ Apart f g ∧ Apart f r ∧ Apart p g ∧ Apart p r ∧ Apart g r := by
  simp only [List.pairwise_cons, List.mem_cons, List.not_mem_nil, or_false] at h
  obtain ⟨h1, h2, h3, h4, -⟩ := h
  exact ⟨h1 _ (.inl rfl), h1 _ (.inr (.inl rfl)), h1 _ (.inr (.inr (.inl rfl))), h1 _ (.inr (.inr (.inr rfl))), h2 _ (.inl rfl), h2 _ (.inr (.inl rfl)), h2 _ (.inr (.inr rfl)), h3 _ (.inl rfl), h3 _ (.inr rfl), h4 _ rfl⟩
theorem MBox.out {w w' : World} {lo hi b : Nat} {v : MV} (h : MBox w b v) (k : KeptOut lo hi w w') (hb : b < lo ∨ hi ≤ b) : MBox w' b v := by
  have e : w'.heap[b]? = w.heap[b]? := k.2 b h.lt hb
  have c : ∀ o, w'.cell? ⟨b, o, none⟩ = w.cell? ⟨b, o, none⟩ := fun o => by simp only [World.cell?, e]
  exact ⟨Nat.lt_of_lt_of_le h.lt k.size, (c 0).trans h.c0, (c 1).trans h.c1, (c 2).trans h.c2, (c 3).trans h.c3, (c 4).trans h.c4, (c 5).trans h.c5, (c 6).trans h.c6⟩
/-- A museum is stored into a box. -/
theorem store7 {w : World} {g : Nat} {t : TypeId} {a0 a1 a2 a3 a4 a5 a6 : Value} (h : Blk w g t #[a0, a1, a2, a3, a4, a5, a6]) (u0 u1 u2 u3 u4 u5 u6 : Value) :
    Blk (((((((w.setCell ⟨g, 0, none⟩ u0).setCell ⟨g, 1, none⟩ u1).setCell ⟨g, 2, none⟩ u2).setCell ⟨g, 3, none⟩ u3).setCell ⟨g, 4, none⟩ u4).setCell ⟨g, 5, none⟩ u5).setCell ⟨g, 6, none⟩ u6) g t #[u0, u1, u2, u3, u4, u5, u6] ∧
    KeptOut g (g + 1) w (((((((w.setCell ⟨g, 0, none⟩ u0).setCell ⟨g, 1, none⟩ u1).setCell ⟨g, 2, none⟩ u2).setCell ⟨g, 3, none⟩ u3).setCell ⟨g, 4, none⟩ u4).setCell ⟨g, 5, none⟩ u5).setCell ⟨g, 6, none⟩ u6) := by
  have h1 := ((((((h.set 0 u0).set 1 u1).set 2 u2).set 3 u3).set 4 u4).set 5 u5).set 6 u6
  simp only [List.setIfInBounds_toArray, List.set_cons_succ, List.set_cons_zero] at h1
  have g1 := grown_set (grown_set (grown_set (grown_set (grown_set (grown_set (grown_set (grown_refl w (some g)) 0 u0) 1 u1) 2 u2) 3 u3) 4 u4) 5 u5) 6 u6
  exact ⟨h1, .of_grown g1 fun k hk => by injection hk with hk; omega⟩
theorem MBox.of_blk {w : World} {b : Nat} {v : MV} {t : TypeId} (h : Blk w b t v.cells) : MBox w b v :=
  ⟨h.lt, h.cellAt (i := 0) (by simp [MV.cells]), h.cellAt (i := 1) (by simp [MV.cells]), h.cellAt (i := 2) (by simp [MV.cells]), h.cellAt (i := 3) (by simp [MV.cells]), h.cellAt (i := 4) (by simp [MV.cells]), h.cellAt (i := 5) (by simp [MV.cells]), h.cellAt (i := 6) (by simp [MV.cells])⟩
end Go.Proofs.Ytkelmeemblmggaa
