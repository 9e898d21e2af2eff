/- Texts of one proof, laid one behind the other (SN8, SDg, SP3); no condition but what stands at each theorem. -/
import Derived.Test.YtfhibjehnoibeaaDoorZE
import Derived.Test.YtfhibjehnoibeaaDoorZH
import Derived.Test.YtfhibjehnoibeaaDoorZI
/- Contracts of SampleMuseum; no condition but what stands at each theorem. -/
namespace Go.Proofs.YtfhibjehnoibeaaDoor
set_option linter.unusedSimpArgs false
set_option linter.unusedVariables false
open Go.RowKit Go.Sort
def sampleM : GMuseum := newM 4 [⟨0, 1⟩, ⟨0, 2⟩, ⟨1, 3⟩, ⟨2, 3⟩] [0, 0] [0, 0, 3]
theorem rd_blk {w : World} {g : Nat} {t : TypeId} {m n : Nat} {cur : Array Value} {L : List Value} (h : Blk w g t cur) (hs : cur.size = n * m) (hn : n ≤ maxLen) (hL : cur.toList.take (n * m) = L) : Rd w m (some ⟨g, 0, none⟩) n L :=
  Rd.of_own (own_of_blk (Nat.zero_le _) h hs hn hL)
set_option maxRecDepth 100000 in
set_option maxHeartbeats 4000000 in
theorem spec_SampleMuseum (w : World) : Calls Tryd.prog 40 #[] w (CopyPost sampleM w) := by
  obtain ⟨w1, hw1⟩ : ∃ w1, w1 = w.alloc (.cells #[.int .i64 0, .slice none 0 0, .slice none 0 0, .slice none 0 0, .slice none 0 0, .int .i64 0, .slice none 0 0] 30) := ⟨_, rfl⟩
  obtain ⟨w2, hw2⟩ : ∃ w2, w2 = w1.alloc (.cells #[.int .i64 0, .int .i64 1, .int .i64 0, .int .i64 2, .int .i64 1, .int .i64 3, .int .i64 2, .int .i64 3] 96) := ⟨_, rfl⟩
  obtain ⟨w3, hw3⟩ : ∃ w3, w3 = w2.alloc (.cells #[.int .i64 4, .slice (some ⟨w.heap.size + 1, 0, none⟩) 4 4] 26) := ⟨_, rfl⟩
  obtain ⟨w4, hw4⟩ : ∃ w4, w4 = w3.alloc (.cells #[.int .i64 0, .int .i64 0] 3) := ⟨_, rfl⟩
  obtain ⟨w5, hw5⟩ : ∃ w5, w5 = w4.alloc (.cells #[.int .i64 0, .int .i64 0, .int .i64 3] 3) := ⟨_, rfl⟩
  have s1 : w1.heap.size = w.heap.size + 1 := by rw [hw1]; simp
  have s2 : w2.heap.size = w.heap.size + 1 + 1 := by rw [hw2]; simp [s1]
  have s3 : w3.heap.size = w.heap.size + 1 + 1 + 1 := by rw [hw3]; simp [s2]
  have s4 : w4.heap.size = w.heap.size + 1 + 1 + 1 + 1 := by rw [hw4]; simp [s3]
  have s5 : w5.heap.size = w.heap.size + 1 + 1 + 1 + 1 + 1 := by rw [hw5]; simp [s4]
  have e1 : Ext w w1 := by rw [hw1]; exact (Ext.refl _).alloc _
  have e2 : Ext w1 w2 := by rw [hw2]; exact (Ext.refl _).alloc _
  have e3 : Ext w2 w3 := by rw [hw3]; exact (Ext.refl _).alloc _
  have e4 : Ext w3 w4 := by rw [hw4]; exact (Ext.refl _).alloc _
  have e5 : Ext w4 w5 := by rw [hw5]; exact (Ext.refl _).alloc _
  have bz : Blk w5 w.heap.size 30 #[.int .i64 0, .slice none 0 0, .slice none 0 0, .slice none 0 0, .slice none 0 0, .int .i64 0, .slice none 0 0] := by
    have h : Blk w1 w.heap.size 30 #[.int .i64 0, .slice none 0 0, .slice none 0 0, .slice none 0 0, .slice none 0 0, .int .i64 0, .slice none 0 0] := by rw [hw1]; exact Blk.new _ _ _
    exact h.keep (e2.trans (e3.trans (e4.trans e5)))
  have bd : Blk w5 (w.heap.size + 1) 96 #[.int .i64 0, .int .i64 1, .int .i64 0, .int .i64 2, .int .i64 1, .int .i64 3, .int .i64 2, .int .i64 3] := by
    have h : Blk w2 w1.heap.size 96 #[.int .i64 0, .int .i64 1, .int .i64 0, .int .i64 2, .int .i64 1, .int .i64 3, .int .i64 2, .int .i64 3] := by rw [hw2]; exact Blk.new _ _ _
    rw [s1] at h
    exact h.keep (e3.trans (e4.trans e5))
  have bf : Blk w5 (w.heap.size + 1 + 1 + 1) 3 #[.int .i64 0, .int .i64 0] := by
    have h : Blk w4 w3.heap.size 3 #[.int .i64 0, .int .i64 0] := by rw [hw4]; exact Blk.new _ _ _
    rw [s3] at h
    exact h.keep e5
  have bg : Blk w5 (w.heap.size + 1 + 1 + 1 + 1) 3 #[.int .i64 0, .int .i64 0, .int .i64 3] := by
    have h : Blk w5 w4.heap.size 3 #[.int .i64 0, .int .i64 0, .int .i64 3] := by rw [hw5]; exact Blk.new _ _ _
    rw [s4] at h
    exact h
  have cN := Lib.hid (spec_NewMuseum 4 (some ⟨w.heap.size + 1, 0, none⟩) 4 4 [⟨0, 1⟩, ⟨0, 2⟩, ⟨1, 3⟩, ⟨2, 3⟩] (some ⟨w.heap.size + 1 + 1 + 1, 0, none⟩) 2 2 [0, 0] (some ⟨w.heap.size + 1 + 1 + 1 + 1, 0, none⟩) 3 3 [0, 0, 3] w5
    (rd_blk bd rfl (by unfold maxLen; omega) rfl) (rd_blk bf rfl (by unfold maxLen; omega) rfl) (rd_blk bg rfl (by unfold maxLen; omega) rfl) (fun h => by cases h) (fun h => by cases h) (fun h => by cases h) (by omega) (by omega) (by omega))
  have HW5 : Hid (w5 = ((((w.alloc (.cells #[.int .i64 0, .slice none 0 0, .slice none 0 0, .slice none 0 0, .slice none 0 0, .int .i64 0, .slice none 0 0] 30)).alloc (.cells #[.int .i64 0, .int .i64 1, .int .i64 0, .int .i64 2, .int .i64 1, .int .i64 3, .int .i64 2, .int .i64 3] 96)).alloc (.cells #[.int .i64 4, .slice (some ⟨w.heap.size + 1, 0, none⟩) 4 4] 26)).alloc (.cells #[.int .i64 0, .int .i64 0] 3)).alloc (.cells #[.int .i64 0, .int .i64 0, .int .i64 3] 3)) := Lib.hid (by rw [hw5, hw4, hw3, hw2, hw1])
  have HE := Lib.hid (e1.trans (e2.trans (e3.trans (e4.trans e5))))
  have HBz := Lib.hid bz
  have hzl : w.heap.size < w5.heap.size := by omega
  clear hw1 hw2 hw3 hw4 hw5 s1 s2 s3 s4 s5 e1 e2 e3 e4 e5 bz bd bf bg
  go_enter Tryd.func40, Tryd.ntmps40
  go_wp2_with (go_at_call 55; refine (fun h : Hid _ => h.out) ?_)
  unfold Hid
  rw [← HW5.out]
  refine cN.out.mono ?_
  rintro e w6 ⟨v1, hev, he6, ho6⟩
  obtain ⟨H1, ⟨A01, n01, c01⟩, ⟨A11, n11, c11⟩, ⟨A21, n21, c21⟩, ⟨A31, n31, c31⟩, day1, ⟨A41, n41, c41⟩⟩ := v1
  simp only [MV.val, MV.cells] at hev
  subst hev
  have Bz := Blk.keep HBz.out he6
  have x0 := Bz.cellAt (i := 0) (by simp)
  have x1 := Bz.cellAt (i := 1) (by simp)
  have x2 := Bz.cellAt (i := 2) (by simp)
  have x3 := Bz.cellAt (i := 3) (by simp)
  have x4 := Bz.cellAt (i := 4) (by simp)
  have x5 := Bz.cellAt (i := 5) (by simp)
  have x6 := Bz.cellAt (i := 6) (by simp)
  have fz := Bz.free
  simp at x0 x1 x2 x3 x4 x5 x6
  have lz : w.heap.size < w6.heap.size := by have := he6.size; omega
  have HO6 := Lib.hid ho6
  have HE6 := Lib.hid (HE.out.trans he6)
  clear ho6 he6 cN
  go_wp2_with fail
  obtain ⟨b6, k6⟩ := store7 Bz (.int .i64 H1) (.slice A01 n01 c01) (.slice A11 n11 c11) (.slice A21 n21 c21) (.slice A31 n31 c31) (.int .i64 day1) (.slice A41 n41 c41)
  have hO5 := HO6.out.out k6 (by omega)
  have hE5 := k6.ext HE6.out (Nat.le_refl _)
  have hk7 : Ext ((((((((w6.setCell ⟨w.heap.size, 0, none⟩ (.int .i64 H1)).setCell ⟨w.heap.size, 1, none⟩ (.slice A01 n01 c01)).setCell ⟨w.heap.size, 2, none⟩ (.slice A11 n11 c11)).setCell ⟨w.heap.size, 3, none⟩ (.slice A21 n21 c21)).setCell ⟨w.heap.size, 4, none⟩ (.slice A31 n31 c31)).setCell ⟨w.heap.size, 5, none⟩ (.int .i64 day1)).setCell ⟨w.heap.size, 6, none⟩ (.slice A41 n41 c41))) (((((((((w6.setCell ⟨w.heap.size, 0, none⟩ (.int .i64 H1)).setCell ⟨w.heap.size, 1, none⟩ (.slice A01 n01 c01)).setCell ⟨w.heap.size, 2, none⟩ (.slice A11 n11 c11)).setCell ⟨w.heap.size, 3, none⟩ (.slice A21 n21 c21)).setCell ⟨w.heap.size, 4, none⟩ (.slice A31 n31 c31)).setCell ⟨w.heap.size, 5, none⟩ (.int .i64 day1)).setCell ⟨w.heap.size, 6, none⟩ (.slice A41 n41 c41))).alloc (.cells #[.int .i64 H1, .slice A01 n01 c01, .slice A11 n11 c11, .slice A21 n21 c21, .slice A31 n31 c31, .int .i64 day1, .slice A41 n41 c41] 30)) := (Ext.refl _).alloc _
  have b6' := b6.keep hk7
  have hO6 := hO5.keep hk7
  have hE6 := hE5.trans hk7
  clear b6 k6 hO5 hE5 hk7
  generalize ((((((((w6.setCell ⟨w.heap.size, 0, none⟩ (.int .i64 H1)).setCell ⟨w.heap.size, 1, none⟩ (.slice A01 n01 c01)).setCell ⟨w.heap.size, 2, none⟩ (.slice A11 n11 c11)).setCell ⟨w.heap.size, 3, none⟩ (.slice A21 n21 c21)).setCell ⟨w.heap.size, 4, none⟩ (.slice A31 n31 c31)).setCell ⟨w.heap.size, 5, none⟩ (.int .i64 day1)).setCell ⟨w.heap.size, 6, none⟩ (.slice A41 n41 c41))).alloc (.cells #[.int .i64 H1, .slice A01 n01 c01, .slice A11 n11 c11, .slice A21 n21 c21, .slice A31 n31 c31, .int .i64 day1, .slice A41 n41 c41] 30) = w9 at b6' hO6 hE6 ⊢
  have t0 := b6'.cellAt (i := 0) (by simp)
  have t1 := b6'.cellAt (i := 1) (by simp)
  have t2 := b6'.cellAt (i := 2) (by simp)
  have t3 := b6'.cellAt (i := 3) (by simp)
  have t4 := b6'.cellAt (i := 4) (by simp)
  have t5 := b6'.cellAt (i := 5) (by simp)
  have t6 := b6'.cellAt (i := 6) (by simp)
  simp at t0 t1 t2 t3 t4 t5 t6
  refine bodyPost_ret (v := MV.val ⟨H1, ⟨A01, n01, c01⟩, ⟨A11, n11, c11⟩, ⟨A21, n21, c21⟩, ⟨A31, n31, c31⟩, day1, ⟨A41, n41, c41⟩⟩) (by simp [results, Tryd.results40, go_sem, t0, t1, t2, t3, t4, t5, t6, MV.val, MV.cells]) rfl ?_
  exact ⟨_, rfl, hE6, hO6.weak (by omega)⟩
end Go.Proofs.YtfhibjehnoibeaaDoor
/- What holds between the operations that make a drawn museum; no condition but what stands at each theorem. -/
namespace Go.Proofs.YtfhibjehnoibeaaDoor
set_option linter.unusedSimpArgs false
set_option linter.unusedVariables false
open Go.RowKit Go.Sort
def zeroV : MV := ⟨0, ⟨none, 0, 0⟩, ⟨none, 0, 0⟩, ⟨none, 0, 0⟩, ⟨none, 0, 0⟩, 0, ⟨none, 0, 0⟩⟩
/-- n operations that may come in any order are left, or the rest is shown at once. -/
theorem wpAnyH_invX {P : Program} {md : Region.Mode} {ops : Array Oper} {Q : Exit → Act → World → Prop} {S : World → Prop} (f1 : Nat) (Inv : Nat → Array Bool → Act → World → Prop)
    (h0 : ∀ listed a w, Inv 0 listed a w → wpAnyH P md ops Q S f1 listed a w)
    (hs : ∀ n listed a w, Inv (n + 1) listed a w → wpAnyH P md ops Q S (f1 + (n + 1)) listed a w ∨ (Region.ready md ops listed ≠ [] ∧ ∀ i ∈ Region.ready md ops listed, wpOp P ops Q i (fun a' w' => S w' ∧ Inv n (listed.setIfInBounds i true) a' w') a w)) :
    ∀ n listed a w, Inv n listed a w → wpAnyH P md ops Q S (f1 + n) listed a w
  | 0, listed, a, w, h => h0 listed a w h
  | n + 1, listed, a, w, h => by
    rcases hs n listed a w h with h1 | ⟨h1, h2⟩
    · exact h1
    · exact ⟨fun e => absurd e h1, fun i hi => wpOp_mono (fun a' w' h3 => ⟨h3.1, wpAnyH_invX f1 Inv h0 hs n _ a' w' h3.2⟩) (h2 i hi)⟩
theorem nf {P : Prop} : false = true → P := fun h => Bool.noConfusion h
theorem nf2 {b : Bool} {P : Prop} : false = true → b = false → P := fun h => Bool.noConfusion h
def InR (H : Nat) (L : List Int) : Prop := ∀ q ∈ L, 0 ≤ q ∧ q < H
/-- Between the operations: c a list has been drawn, b a literal row been made, a the one been appended to the other (twice), cN the museum been made, x its box. -/
structure RInv (w1 : World) (p H : Nat) (ds : List GDoor) (lo hi : Nat) (c1 b1 a1 c2 b2 a2 cN x : Bool) (y1 z1 r1 y2 z2 r2 tN px : Value) (W : World) : Prop where
  cu : Cur W p
  g : w1.grownBy W (some p)
  o1 : a1 = true → c1 = true ∧ b1 = true
  o2 : c2 = true → a1 = true
  o3 : a2 = true → c2 = true ∧ b2 = true
  o4 : cN = true → a2 = true
  B1 : b1 = true → a1 = false → ∃ g, z1 = .slice (some ⟨g, 0, none⟩) 1 1 ∧ w1.heap.size ≤ g ∧ Blk W g 3 #[.int .i64 0]
  B2 : b2 = true → a2 = false → ∃ g, z2 = .slice (some ⟨g, 0, none⟩) 2 2 ∧ w1.heap.size ≤ g ∧ Blk W g 3 #[.int .i64 0, .int .i64 0] ∧ (c1 = true → a1 = false → y1.ownBlock ≠ some g)
  X : x = true → ∃ g, px = .pointer (some ⟨g, 0, none⟩) ∧ w1.heap.size ≤ g ∧ Blk W g 30 zeroV.cells ∧ (c1 = true → a1 = false → y1.ownBlock ≠ some g) ∧ (c2 = true → a2 = false → y2.ownBlock ≠ some g) ∧ (cN = true → g < lo ∨ hi ≤ g)
  R1 : c1 = true → a1 = false → ∃ L : List Int, W.ownsRow w1.heap.size 3 1 y1 L.length (L.flatMap ienc) ∧ L.length ≤ 4 ∧ InR H L
  S1 : a1 = true → ∃ L : List Int, W.ownsRow w1.heap.size 3 1 r1 L.length (L.flatMap ienc) ∧ 1 ≤ L.length ∧ L.length ≤ 5 ∧ InR H L
  R2 : c2 = true → a2 = false → (∃ L : List Int, W.ownsRow w1.heap.size 3 1 y2 L.length (L.flatMap ienc) ∧ L.length ≤ 4 ∧ InR H L) ∧ Apart r1 y2
  S2 : a2 = true → ∃ L : List Int, W.ownsRow w1.heap.size 3 1 r2 L.length (L.flatMap ienc) ∧ 2 ≤ L.length ∧ L.length ≤ 6 ∧ InR H L
  N : cN = true → ∃ (v : MV) (m : GMuseum) (b : Bool), tN = .tuple #[v.val, .bool b] ∧ DMus m 0 ∧ m.H = H ∧ m.ds = ds ∧ MOwn W lo v m ∧ MAt lo hi v ∧ w1.heap.size ≤ lo ∧ hi ≤ W.heap.size
section
variable {w1 W W' : World} {p H lo hi : Nat} {ds : List GDoor} {c1 b1 a1 c2 b2 a2 cN x : Bool} {y1 z1 r1 y2 z2 r2 tN px : Value}
theorem RInv.ext (h : RInv w1 p H ds lo hi c1 b1 a1 c2 b2 a2 cN x y1 z1 r1 y2 z2 r2 tN px W) (e : Ext W W') : RInv w1 p H ds lo hi c1 b1 a1 c2 b2 a2 cN x y1 z1 r1 y2 z2 r2 tN px W' := by
  refine ⟨cur_ext h.cu e, grown_extD h.g e, h.o1, h.o2, h.o3, h.o4, fun k1 k2 => ?_, fun k1 k2 => ?_, fun k => ?_, fun k1 k2 => ?_, fun k => ?_, fun k1 k2 => ?_, fun k => ?_, fun k => ?_⟩
  · obtain ⟨g, h1, h2, h3⟩ := h.B1 k1 k2; exact ⟨g, h1, h2, h3.keep e⟩
  · obtain ⟨g, h1, h2, h3, h4⟩ := h.B2 k1 k2; exact ⟨g, h1, h2, h3.keep e, h4⟩
  · obtain ⟨g, h1, h2, h3, h4⟩ := h.X k; exact ⟨g, h1, h2, h3.keep e, h4⟩
  · obtain ⟨L, h1, h2⟩ := h.R1 k1 k2; exact ⟨L, own_keep h1 e, h2⟩
  · obtain ⟨L, h1, h2⟩ := h.S1 k; exact ⟨L, own_keep h1 e, h2⟩
  · obtain ⟨⟨L, h1, h2⟩, h3⟩ := h.R2 k1 k2; exact ⟨⟨L, own_keep h1 e, h2⟩, h3⟩
  · obtain ⟨L, h1, h2⟩ := h.S2 k; exact ⟨L, own_keep h1 e, h2⟩
  · obtain ⟨v, m, b, h1, h2, h3, h4, h5, h6, h7, h8⟩ := h.N k; exact ⟨v, m, b, h1, h2, h3, h4, h5.keep e, h6, h7, Nat.le_trans h8 e.size⟩
theorem RInv.draw (h : RInv w1 p H ds lo hi c1 b1 a1 c2 b2 a2 false x y1 z1 r1 y2 z2 r2 tN px W) (hp : p < w1.heap.size) (hc : Cur W' p) (hg : W.grownBy W' (some p)) : RInv w1 p H ds lo hi c1 b1 a1 c2 b2 a2 false x y1 z1 r1 y2 z2 r2 tN px W' := by
  refine ⟨hc, grown_trans h.g hg, h.o1, h.o2, h.o3, h.o4, fun k1 k2 => ?_, fun k1 k2 => ?_, fun k => ?_, fun k1 k2 => ?_, fun k => ?_, fun k1 k2 => ?_, fun k => ?_, fun k => Bool.noConfusion k⟩
  · obtain ⟨g, h1, h2, h3⟩ := h.B1 k1 k2; exact ⟨g, h1, h2, blk_grown h3 (by omega) hg⟩
  · obtain ⟨g, h1, h2, h3, h4⟩ := h.B2 k1 k2; exact ⟨g, h1, h2, blk_grown h3 (by omega) hg, h4⟩
  · obtain ⟨g, h1, h2, h3, h4⟩ := h.X k; exact ⟨g, h1, h2, blk_grown h3 (by omega) hg, h4⟩
  · obtain ⟨L, h1, h2⟩ := h.R1 k1 k2; exact ⟨L, own_grown h1 hp hg, h2⟩
  · obtain ⟨L, h1, h2⟩ := h.S1 k; exact ⟨L, own_grown h1 hp hg, h2⟩
  · obtain ⟨⟨L, h1, h2⟩, h3⟩ := h.R2 k1 k2; exact ⟨⟨L, own_grown h1 hp hg, h2⟩, h3⟩
  · obtain ⟨L, h1, h2⟩ := h.S2 k; exact ⟨L, own_grown h1 hp hg, h2⟩
theorem own_off {base : Nat} {e : TypeId} {m n : Nat} {v : Value} {L : List Value} (h : W'.ownsRow base e m v n L) {g : Nat} (hg : g < base) : v.ownBlock ≠ some g := fun k => by
  have := (h.lt g k).1
  omega
theorem own_off2 {base : Nat} {e : TypeId} {m n : Nat} {v : Value} {L : List Value} (h : W.ownsRow base e m v n L) {g : Nat} (hg : W.heap.size ≤ g) : v.ownBlock ≠ some g := fun k => by
  have := (h.lt g k).2
  omega
theorem RInv.base (h : RInv w1 p H ds lo hi c1 b1 a1 c2 b2 a2 cN x y1 z1 r1 y2 z2 r2 tN px W) : w1.heap.size ≤ W.heap.size := h.g.size
theorem RInv.call1 (h : RInv w1 p H ds lo hi false b1 false false b2 false false x y1 z1 r1 y2 z2 r2 tN px W) (hp : p < w1.heap.size) {v : Value} {L : List Int} (ho : W'.ownsRow W.heap.size 3 1 v L.length (L.flatMap ienc)) (hl : L.length ≤ 4) (hr : InR H L) (hc : Cur W' p) (hg : W.grownBy W' (some p)) :
    RInv w1 p H ds lo hi true b1 false false b2 false false x v z1 r1 y2 z2 r2 tN px W' := by
  have k := h.draw hp hc hg
  refine ⟨k.cu, k.g, fun q => Bool.noConfusion q, k.o2, k.o3, k.o4, k.B1, fun k1 k2 => ?_, fun q => ?_, fun _ _ => ⟨L, own_weak ho h.base, hl, hr⟩, k.S1, k.R2, k.S2, k.N⟩
  · obtain ⟨g, h1, h2, h3, -⟩ := k.B2 k1 k2
    obtain ⟨g', h1', -, h3', -⟩ := h.B2 k1 k2
    rw [h1] at h1'
    injection h1' with e1
    injection e1 with e1
    injection e1 with e1
    subst e1
    exact ⟨g, h1, h2, h3, fun _ _ => own_off ho h3'.lt⟩
  · obtain ⟨g, h1, h2, h3, -, h5, h6⟩ := k.X q
    obtain ⟨g', h1', -, h3', -⟩ := h.X q
    rw [h1] at h1'
    injection h1' with e1
    injection e1 with e1
    injection e1 with e1
    subst e1
    exact ⟨g, h1, h2, h3, fun _ _ => own_off ho h3'.lt, h5, h6⟩
theorem RInv.call2 (h : RInv w1 p H ds lo hi c1 b1 true false b2 false false x y1 z1 r1 y2 z2 r2 tN px W) (hp : p < w1.heap.size) {v : Value} {L : List Int} (ho : W'.ownsRow W.heap.size 3 1 v L.length (L.flatMap ienc)) (hl : L.length ≤ 4) (hr : InR H L) (hc : Cur W' p) (hg : W.grownBy W' (some p)) :
    RInv w1 p H ds lo hi c1 b1 true true b2 false false x y1 z1 r1 v z2 r2 tN px W' := by
  have k := h.draw hp hc hg
  refine ⟨k.cu, k.g, k.o1, fun _ => rfl, fun q => Bool.noConfusion q, k.o4, k.B1, k.B2, fun q => ?_, k.R1, k.S1, fun _ _ => ⟨⟨L, own_weak ho h.base, hl, hr⟩, fun g hg1 hg2 => ?_⟩, k.S2, k.N⟩
  · obtain ⟨g, h1, h2, h3, h4, -, h6⟩ := k.X q
    obtain ⟨g', h1', -, h3', -⟩ := h.X q
    rw [h1] at h1'
    injection h1' with e1
    injection e1 with e1
    injection e1 with e1
    subst e1
    exact ⟨g, h1, h2, h3, h4, fun _ _ => own_off ho h3'.lt, h6⟩
  · obtain ⟨L1, hL1, -⟩ := h.S1 rfl
    have q1 := (hL1.lt g hg1).2
    have q2 := (ho.lt g hg2).1
    omega
theorem RInv.build1 (h : RInv w1 p H ds lo hi c1 false false c2 b2 a2 cN x y1 z1 r1 y2 z2 r2 tN px W) : RInv w1 p H ds lo hi c1 true false c2 b2 a2 cN x y1 (.slice (some ⟨W.heap.size, 0, none⟩) 1 1) r1 y2 z2 r2 tN px (W.alloc (.cells #[.int .i64 0] 3)) := by
  have k := h.ext ((Ext.refl W).alloc (.cells #[.int .i64 0] 3))
  exact ⟨k.cu, k.g, fun q => Bool.noConfusion q, k.o2, k.o3, k.o4, fun _ _ => ⟨_, rfl, h.base, Blk.new _ _ _⟩, k.B2, k.X, k.R1, k.S1, k.R2, k.S2, k.N⟩
theorem RInv.build2 (h : RInv w1 p H ds lo hi c1 b1 a1 c2 false false cN x y1 z1 r1 y2 z2 r2 tN px W) : RInv w1 p H ds lo hi c1 b1 a1 c2 true false cN x y1 z1 r1 y2 (.slice (some ⟨W.heap.size, 0, none⟩) 2 2) r2 tN px (W.alloc (.cells #[.int .i64 0, .int .i64 0] 3)) := by
  have k := h.ext ((Ext.refl W).alloc (.cells #[.int .i64 0, .int .i64 0] 3))
  exact ⟨k.cu, k.g, k.o1, k.o2, fun q => Bool.noConfusion q, k.o4, k.B1, fun _ _ => ⟨_, rfl, h.base, Blk.new _ _ _, fun k1 k2 => by obtain ⟨L, h1, -⟩ := h.R1 k1 k2; exact own_off2 h1 (Nat.le_refl _)⟩, k.X, k.R1, k.S1, k.R2, k.S2, k.N⟩
theorem RInv.box (h : RInv w1 p H ds lo hi c1 b1 a1 c2 b2 a2 cN false y1 z1 r1 y2 z2 r2 tN px W) : RInv w1 p H ds lo hi c1 b1 a1 c2 b2 a2 cN true y1 z1 r1 y2 z2 r2 tN (.pointer (some ⟨W.heap.size, 0, none⟩)) (W.alloc (.cells zeroV.cells 30)) := by
  have k := h.ext ((Ext.refl W).alloc (.cells zeroV.cells 30))
  exact ⟨k.cu, k.g, k.o1, k.o2, k.o3, k.o4, k.B1, k.B2, fun _ => ⟨_, rfl, h.base, Blk.new _ _ _, fun k1 k2 => by obtain ⟨L, h1, -⟩ := h.R1 k1 k2; exact own_off2 h1 (Nat.le_refl _), fun k1 k2 => by obtain ⟨⟨L, h1, -⟩, -⟩ := h.R2 k1 k2; exact own_off2 h1 (Nat.le_refl _), fun q => by obtain ⟨v, m, b, -, -, -, -, -, -, -, h8⟩ := h.N q; exact .inr h8⟩, k.R1, k.S1, k.R2, k.S2, k.N⟩
theorem RInv.app1 (h : RInv w1 p H ds lo hi true true false c2 b2 a2 cN x y1 z1 r1 y2 z2 r2 tN px W) (hp : p < w1.heap.size) {v : Value} {L : List Int} (ho : W'.ownsRow w1.heap.size 3 1 v L.length (L.flatMap ienc)) (h1 : 1 ≤ L.length) (hl : L.length ≤ 5) (hr : InR H L) (hg : W.grownBy W' y1.ownBlock) :
    RInv w1 p H ds lo hi true true true c2 b2 a2 cN x y1 z1 v y2 z2 r2 tN px W' := by
  obtain ⟨L0, hL0, -⟩ := h.R1 rfl rfl
  have hy : ∀ k, y1.ownBlock = some k → w1.heap.size ≤ k := fun k hk => (hL0.lt k hk).1
  have f2 : c2 = false := by cases c2 with | false => rfl | true => exact (Bool.noConfusion (h.o2 rfl))
  subst f2
  have f3 : a2 = false := by cases a2 with | false => rfl | true => exact (Bool.noConfusion (h.o3 rfl).1)
  subst f3
  have f4 : cN = false := by cases cN with | false => rfl | true => exact (Bool.noConfusion (h.o4 rfl))
  subst f4
  refine ⟨cur_grown h.cu hg (fun k hk => by have := hy k hk; omega), grown_over h.g hg (fun k hk => hy k hk), fun _ => ⟨rfl, rfl⟩, fun q => Bool.noConfusion q, fun q => Bool.noConfusion q, fun q => Bool.noConfusion q, fun _ q => Bool.noConfusion q, fun k1 k2 => ?_, fun q => ?_, fun _ q => Bool.noConfusion q, fun _ => ⟨L, ho, h1, hl, hr⟩, fun q => Bool.noConfusion q, fun q => Bool.noConfusion q, fun q => Bool.noConfusion q⟩
  · obtain ⟨g, e1, e2, e3, e4⟩ := h.B2 k1 k2
    exact ⟨g, e1, e2, (hg.block g e3.lt (fun e => e4 rfl rfl e.symm)).trans e3, fun _ q => Bool.noConfusion q⟩
  · obtain ⟨g, e1, e2, e3, e4, e5, e6⟩ := h.X q
    exact ⟨g, e1, e2, (hg.block g e3.lt (fun e => e4 rfl rfl e.symm)).trans e3, fun _ q => Bool.noConfusion q, fun q => Bool.noConfusion q, fun q => Bool.noConfusion q⟩
theorem RInv.app2 (h : RInv w1 p H ds lo hi c1 b1 a1 true true false cN x y1 z1 r1 y2 z2 r2 tN px W) (hp : p < w1.heap.size) {v : Value} {L : List Int} (ho : W'.ownsRow w1.heap.size 3 1 v L.length (L.flatMap ienc)) (h1 : 2 ≤ L.length) (hl : L.length ≤ 6) (hr : InR H L) (hg : W.grownBy W' y2.ownBlock) :
    RInv w1 p H ds lo hi c1 b1 a1 true true true cN x y1 z1 r1 y2 z2 v tN px W' := by
  obtain ⟨⟨L0, hL0, -⟩, hap⟩ := h.R2 rfl rfl
  have hy : ∀ k, y2.ownBlock = some k → w1.heap.size ≤ k := fun k hk => (hL0.lt k hk).1
  have f2 : a1 = true := h.o2 rfl
  subst f2
  have f4 : cN = false := by cases cN with | false => rfl | true => exact (Bool.noConfusion (h.o4 rfl))
  subst f4
  refine ⟨cur_grown h.cu hg (fun k hk => by have := hy k hk; omega), grown_over h.g hg (fun k hk => hy k hk), h.o1, fun _ => rfl, fun _ => ⟨rfl, rfl⟩, fun q => Bool.noConfusion q, fun _ q => Bool.noConfusion q, fun _ q => Bool.noConfusion q, fun q => ?_, fun _ q => Bool.noConfusion q, fun _ => ?_, fun _ q => Bool.noConfusion q, fun _ => ⟨L, ho, h1, hl, hr⟩, fun q => Bool.noConfusion q⟩
  · obtain ⟨g, e1, e2, e3, e4, e5, e6⟩ := h.X q
    exact ⟨g, e1, e2, (hg.block g e3.lt (fun e => e5 rfl rfl e.symm)).trans e3, fun _ q => Bool.noConfusion q, fun _ q => Bool.noConfusion q, fun q => Bool.noConfusion q⟩
  · obtain ⟨L1, g1, g2⟩ := h.S1 rfl
    exact ⟨L1, own_apart g1 hap hg, g2⟩
theorem RInv.made (h : RInv w1 p H ds lo hi c1 b1 a1 c2 b2 true false x y1 z1 r1 y2 z2 r2 tN px W) (e : Ext W W') {v : MV} {m : GMuseum} {b : Bool} (hm : DMus m 0) (hH : m.H = H) (hd : m.ds = ds) (ho : MOwn W' W.heap.size v m) :
    RInv w1 p H ds W.heap.size W'.heap.size c1 b1 a1 c2 b2 true true x y1 z1 r1 y2 z2 r2 (.tuple #[v.val, .bool b]) px W' := by
  have k := h.ext e
  refine ⟨k.cu, k.g, k.o1, k.o2, k.o3, fun _ => rfl, k.B1, k.B2, fun q => ?_, k.R1, k.S1, k.R2, k.S2, fun _ => ⟨v, m, b, rfl, hm, hH, hd, ho, MAt.of_own ho, h.base, Nat.le_refl _⟩⟩
  obtain ⟨g, h1, h2, h3, h4, h5, -⟩ := k.X q
  obtain ⟨g', h1', -, h3', -⟩ := h.X q
  rw [h1] at h1'
  injection h1' with e1
  injection e1 with e1
  injection e1 with e1
  subst e1
  exact ⟨g, h1, h2, h3, h4, h5, fun _ => .inl h3'.lt⟩
end
end Go.Proofs.YtfhibjehnoibeaaDoor
/- Contract of the reference's NightMove; no condition but what stands at each theorem. -/
namespace Go.Proofs.YtfhibjehnoibeaaDoor
set_option linter.unusedSimpArgs false
set_option linter.unusedVariables false
open Go.RowKit Go.Sort
set_option maxRecDepth 100000 in
set_option maxHeartbeats 4000000 in
theorem spec_NightMove (v : MV) (m : GMuseum) (x : GMove) (w : World) (hx : MRd w v m) (hf : MFit v) : Calls Tryd.prog 58 #[v.val, .agg #[.int .i64 x.o, .int .i64 x.t, .int .i64 x.f, .int .i64 x.s]] w (MPost (nightM m x) (.bool (nightB m x)) w) := by
  obtain ⟨wb, hwb⟩ : ∃ wb, wb = w.alloc (.cells v.cells 30) := ⟨_, rfl⟩
  have hbx := MBox.new hwb
  have hE : Ext w wb := by rw [hwb]; exact (Ext.refl w).alloc _
  obtain ⟨wm, hwm⟩ : ∃ wm, wm = wb.alloc (.cells #[.int .i64 x.o, .int .i64 x.t, .int .i64 x.f, .int .i64 x.s] 41) := ⟨_, rfl⟩
  have hEm : Ext wb wm := by rw [hwm]; exact (Ext.refl wb).alloc _
  obtain ⟨wz, hwz⟩ : ∃ wz, wz = wm.alloc (.cells #[.int .i64 0, .slice none 0 0, .slice none 0 0, .slice none 0 0, .slice none 0 0, .int .i64 0, .slice none 0 0] 30) := ⟨_, rfl⟩
  have hEz : Ext wm wz := by rw [hwz]; exact (Ext.refl wm).alloc _
  have hsb : wb.heap.size = w.heap.size + 1 := by rw [hwb]; simp
  have hsm : wm.heap.size = w.heap.size + 1 + 1 := by rw [hwm]; simp [hsb]
  have hsz : wz.heap.size = w.heap.size + 1 + 1 + 1 := by rw [hwz]; simp [hsm]
  have HBz : Hid (Blk wz (w.heap.size + 1 + 1) 30 #[.int .i64 0, .slice none 0 0, .slice none 0 0, .slice none 0 0, .slice none 0 0, .int .i64 0, .slice none 0 0]) := Lib.hid (by rw [hwz, ← hsm]; exact Blk.new _ _ _)
  have HBm : Hid (Blk wz (w.heap.size + 1) 41 #[.int .i64 x.o, .int .i64 x.t, .int .i64 x.f, .int .i64 x.s]) := Lib.hid (by refine Blk.keep ?_ hEz; rw [hwm, ← hsb]; exact Blk.new _ _ _)
  have hE2 := hEm.trans hEz
  have HX := Lib.hid (hx.keep (hE.trans hE2))
  have HB := Lib.hid (hbx.keep hE2)
  have HE := Lib.hid (hE.trans hE2)
  have cC := Lib.hid (spec_l38Copy v m wz HX.out hf)
  have cM := Lib.hid (fun W (he : Ext wz W) => spec_MuseumOk v m W (HX.out.keep he))
  obtain ⟨Hh, ⟨A0, n0, c0⟩, ⟨A1, n1, c1⟩, ⟨A2, n2, c2⟩, ⟨A3, n3, c3⟩, day, ⟨A4, n4, c4⟩⟩ := v
  have hH : Hh = m.H := hx.eH
  subst hH
  have Hwz : Hid (wz = ((w.alloc (.cells #[.int .i64 m.H, .slice A0 n0 c0, .slice A1 n1 c1, .slice A2 n2 c2, .slice A3 n3 c3, .int .i64 m.d, .slice A4 n4 c4] 30)).alloc (.cells #[.int .i64 x.o, .int .i64 x.t, .int .i64 x.f, .int .i64 x.s] 41)).alloc (.cells #[.int .i64 0, .slice none 0 0, .slice none 0 0, .slice none 0 0, .slice none 0 0, .int .i64 0, .slice none 0 0] 30)) := Lib.hid (by rw [hwz, hwm, hwb, ← hx.ed]; rfl)
  have hday : day = m.d := hx.ed
  subst hday
  obtain ⟨cb, hcb⟩ : ∃ cb, cb = canMoveB m.H m.ds m.ps m.gs x := ⟨_, rfl⟩
  obtain ⟨PL, hPL⟩ : ∃ PL, PL = moveL m.H m.ds m.ps m.gs x := ⟨_, rfl⟩
  obtain ⟨ab, hab⟩ : ∃ ab, ab = appB m.rs m.d (moveT x) := ⟨_, rfl⟩
  obtain ⟨AL, hAL⟩ : ∃ AL, AL = appL m.rs m.d (moveT x) (moveT_h x) := ⟨_, rfl⟩
  have CM : Hid (∀ W, Ext wz W → Calls Tryd.prog 71 #[.agg #[.int .i64 m.H, .slice A0 n0 c0, .slice A1 n1 c1, .slice A2 n2 c2, .slice A3 n3 c3, .int .i64 m.d, .slice A4 n4 c4]] W fun e w' => e = .returned (.bool (museumB m)) ∧ Ext W w') := cM
  have CO : Hid (∀ W, Ext wz W → Calls Tryd.prog 73 #[.agg #[.int .i64 m.H, .slice A0 n0 c0], .slice A2 n2 c2, .slice A3 n3 c3, .agg #[.int .i64 x.o, .int .i64 x.t, .int .i64 x.f, .int .i64 x.s]] W fun e w' => ∃ v, e = .returned (.tuple #[v, .bool cb]) ∧ Ext W w' ∧ w'.ownsRow W.heap.size 3 1 v PL.length (PL.flatMap ienc)) := Lib.hid fun W he => by
    rw [hcb, hPL]
    exact spec_MoveObject m.H A0 n0 c0 m.ds A2 n2 c2 m.ps A3 n3 c3 m.gs x W (HX.out.rd.keep he) (HX.out.rp.keep he) (HX.out.rg.keep he) (Lib.hid hf.zp) hf.np
  have CA : Hid (∀ W, Ext wz W → Calls Tryd.prog 74 #[.slice A4 n4 c4, .int .i64 m.d, .string (moveT x)] W fun e w' => ∃ v, e = .returned (.tuple #[v, .bool ab]) ∧ Ext W w' ∧ w'.ownsRow W.heap.size 58 3 v AL.length (AL.flatMap GEntry.enc)) := Lib.hid fun W he => by
    rw [hab, hAL]
    exact spec_AppendEntry A4 n4 c4 m.rs m.d (moveT x) W (HX.out.rr.keep he) (Lib.hid hf.zr) hf.nr (moveT_h x)
  have CT := Lib.hid (fun W => spec_MoveText x W)
  obtain ⟨T, hT⟩ : ∃ T, T = moveT x := ⟨_, rfl⟩
  rw [← hT] at CA CT
  have HCB := Lib.hid hcb
  have HPL := Lib.hid hPL
  have HAB := Lib.hid hab
  have HAL := Lib.hid hAL
  have hzl : w.heap.size + 1 + 1 < wz.heap.size := by omega
  clear hwb hwz hwm hbx hE hEz hEm hE2 hx hf hsb hsz hsm hcb hPL hab hAL hT cM
  show Calls Tryd.prog 58 #[.agg #[.int .i64 m.H, .slice A0 n0 c0, .slice A1 n1 c1, .slice A2 n2 c2, .slice A3 n3 c3, .int .i64 m.d, .slice A4 n4 c4], .agg #[.int .i64 x.o, .int .i64 x.t, .int .i64 x.f, .int .i64 x.s]] w _
  obtain ⟨b0, b1, b2, b3, b4, b5, b6⟩ := HB.out.cell
  simp only at b0 b1 b2 b3 b4 b5 b6
  have Hb0 := Lib.hid b0
  rw [Hwz.out] at b0 b1 b2 b3 b4 b5 b6
  go_enter Tryd.func58, Tryd.ntmps58
  go_wp2_with (go_at_call 70; refine (fun h : Hid _ => h.out) ?_)
  unfold Hid
  rw [← Hwz.out]
  refine cC.out.mono ?_
  rintro e w1 ⟨v1, hev, he1, ho1⟩
  obtain ⟨Hh1, ⟨A01, n01, c01⟩, ⟨A11, n11, c11⟩, ⟨A21, n21, c21⟩, ⟨A31, n31, c31⟩, day1, ⟨A41, n41, c41⟩⟩ := v1
  simp only [MV.val, MV.cells] at hev
  subst hev
  have hd1 : day1 = m.d := ho1.ed
  subst hd1
  obtain ⟨w2, hw2⟩ : ∃ w2, w2 = w1.alloc (.cells #[.int .i64 Hh1, .slice A01 n01 c01, .slice A11 n11 c11, .slice A21 n21 c21, .slice A31 n31 c31, .int .i64 m.d, .slice A41 n41 c41] 30) := ⟨_, rfl⟩
  have hB6 : Blk w2 w1.heap.size 30 #[.int .i64 Hh1, .slice A01 n01 c01, .slice A11 n11 c11, .slice A21 n21 c21, .slice A31 n31 c31, .int .i64 m.d, .slice A41 n41 c41] := by rw [hw2]; exact Blk.new _ _ _
  have he2 : Ext w1 w2 := by rw [hw2]; exact (Ext.refl _).alloc _
  have HB6 := Lib.hid hB6
  have HAT := Lib.hid (MAt.of_own ho1)
  have HO2 := Lib.hid (ho1.keep he2)
  have HE2 := Lib.hid (he1.trans he2)
  have HW2 := Lib.hid hw2
  have hz2 : wz.heap.size ≤ w1.heap.size := he1.size
  have hs2 : w2.heap.size = w1.heap.size + 1 := by rw [hw2]; simp
  clear hB6 he2 ho1 he1 hw2 b0 b1 b2 b3 b4 b5 b6 cC
  obtain ⟨b0, b1, b2, b3, b4, b5, b6⟩ := (HB.out.keep HE2.out).cell
  simp only at b0 b1 b2 b3 b4 b5 b6
  rw [HW2.out] at b0 b1 b2 b3 b4 b5 b6
  go_wp2_with (go_at_call 71; refine (fun h : Hid _ => h.out) ?_)
  unfold Hid
  rw [← HW2.out]
  refine (CM.out w2 HE2.out).mono ?_
  rintro e w3 ⟨rfl, he3⟩
  have HE3 := Lib.hid (HE2.out.trans he3)
  have HO3 := Lib.hid (HO2.out.keep he3)
  have HB63 := Lib.hid (HB6.out.keep he3)
  have hz3 : w2.heap.size ≤ w3.heap.size := he3.size
  clear he3 b0 b1 b2 b3 b4 b5 b6
  cases hm : museumB m
  case false =>
    have HF : Hid (nightB m x = false) := Lib.hid (by simp [nightB, hm])
    have HM : Hid (nightM m x = m) := Lib.hid (by rw [nightM, HF.out]; rfl)
    clear hm

    have Bz := Blk.keep HBz.out HE3.out
    have x0 := Bz.cellAt (i := 0) (by simp)
    have x1 := Bz.cellAt (i := 1) (by simp)
    have x2 := Bz.cellAt (i := 2) (by simp)
    have x3 := Bz.cellAt (i := 3) (by simp)
    have x4 := Bz.cellAt (i := 4) (by simp)
    have x5 := Bz.cellAt (i := 5) (by simp)
    have x6 := Bz.cellAt (i := 6) (by simp)
    have fz := Bz.free
    simp at x0 x1 x2 x3 x4 x5 x6
    have y0 := HB63.out.cellAt (i := 0) (by simp)
    have y1 := HB63.out.cellAt (i := 1) (by simp)
    have y2 := HB63.out.cellAt (i := 2) (by simp)
    have y3 := HB63.out.cellAt (i := 3) (by simp)
    have y4 := HB63.out.cellAt (i := 4) (by simp)
    have y5 := HB63.out.cellAt (i := 5) (by simp)
    have y6 := HB63.out.cellAt (i := 6) (by simp)
    simp at y0 y1 y2 y3 y4 y5 y6
    have lz : w.heap.size + 1 + 1 < w3.heap.size := Bz.lt
    go_wp2_with fail
    obtain ⟨b6', k6⟩ := store7 Bz (.int .i64 Hh1) (.slice A01 n01 c01) (.slice A11 n11 c11) (.slice A21 n21 c21) (.slice A31 n31 c31) (.int .i64 m.d) (.slice A41 n41 c41)
    have hO6 := HO3.out.out k6 (by omega)
    have hE6 := k6.ext (HE.out.trans HE3.out) (by omega)
    generalize (((((((w3.setCell ⟨w.heap.size + 1 + 1, 0, none⟩ (.int .i64 Hh1)).setCell ⟨w.heap.size + 1 + 1, 1, none⟩ (.slice A01 n01 c01)).setCell ⟨w.heap.size + 1 + 1, 2, none⟩ (.slice A11 n11 c11)).setCell ⟨w.heap.size + 1 + 1, 3, none⟩ (.slice A21 n21 c21)).setCell ⟨w.heap.size + 1 + 1, 4, none⟩ (.slice A31 n31 c31)).setCell ⟨w.heap.size + 1 + 1, 5, none⟩ (.int .i64 m.d)).setCell ⟨w.heap.size + 1 + 1, 6, none⟩ (.slice A41 n41 c41)) = w9 at b6' k6 hO6 hE6 ⊢
    have t0 := b6'.cellAt (i := 0) (by simp)
    have t1 := b6'.cellAt (i := 1) (by simp)
    have t2 := b6'.cellAt (i := 2) (by simp)
    have t3 := b6'.cellAt (i := 3) (by simp)
    have t4 := b6'.cellAt (i := 4) (by simp)
    have t5 := b6'.cellAt (i := 5) (by simp)
    have t6 := b6'.cellAt (i := 6) (by simp)
    simp at t0 t1 t2 t3 t4 t5 t6
    refine bodyPost_ret (v := .tuple #[MV.val ⟨Hh1, ⟨A01, n01, c01⟩, ⟨A11, n11, c11⟩, ⟨A21, n21, c21⟩, ⟨A31, n31, c31⟩, m.d, ⟨A41, n41, c41⟩⟩, .bool false]) (by simp [results, Tryd.results58, go_sem, t0, t1, t2, t3, t4, t5, t6, MV.val, MV.cells]) rfl ?_
    exact ⟨_, (by rw [HF.out]), hE6, by rw [HM.out]; exact hO6.weak (by omega)⟩

  have HN : Hid (nightB m x = (cb && ab)) := Lib.hid (by rw [nightB, hm, HCB.out, HAB.out]; rfl)
  clear hm
  obtain ⟨b0, b1, b2, b3, b4, b5, b6⟩ := (HB.out.keep HE3.out).cell
  have hbm := HBm.out.keep HE3.out
  have q0 := hbm.cellAt (i := 0) (by simp)
  have q1 := hbm.cellAt (i := 1) (by simp)
  have q2 := hbm.cellAt (i := 2) (by simp)
  have q3 := hbm.cellAt (i := 3) (by simp)
  simp only at b0 b1 b2 b3 b4 b5 b6
  simp at q0 q1 q2 q3
  go_wp2_with (go_at_call 73; refine (fun h : Hid _ => h.out) ?_)
  unfold Hid
  refine (CO.out w3 HE3.out).mono ?_
  rintro e w4 ⟨vp, rfl, he4, hop⟩
  obtain ⟨Ap, cp, rfl, -⟩ := own_form hop
  have HE4 := Lib.hid (HE3.out.trans he4)
  have HO4 := Lib.hid (HO3.out.keep he4)
  have HB64 := Lib.hid (HB63.out.keep he4)
  have HP4 := Lib.hid hop
  have HAP := Lib.hid (At.of_own hop)
  have hz4 : w3.heap.size ≤ w4.heap.size := he4.size
  clear he4 hop hbm b0 b1 b2 b3 b4 b5 b6 q0 q1 q2 q3
  obtain ⟨-, -, -, -, -, r5, r6⟩ := (HB.out.keep HE4.out).cell
  simp only at r5 r6
  have rm := HBm.out.keep HE4.out
  have rx0 := rm.cellAt (i := 0) (by simp)
  have rx1 := rm.cellAt (i := 1) (by simp)
  have rx2 := rm.cellAt (i := 2) (by simp)
  have rx3 := rm.cellAt (i := 3) (by simp)
  simp at rx0 rx1 rx2 rx3
  go_wp2_with fail
  go_region_held3 (fun w' => w'.cell? ⟨w.heap.size, 5, none⟩ = some (.int .i64 m.d) ∧ w'.cell? ⟨w.heap.size, 6, none⟩ = some (.slice A4 n4 c4) ∧ w'.cell? ⟨w.heap.size + 1, 0, none⟩ = some (.int .i64 x.o) ∧ w'.cell? ⟨w.heap.size + 1, 1, none⟩ = some (.int .i64 x.t) ∧ w'.cell? ⟨w.heap.size + 1, 2, none⟩ = some (.int .i64 x.f) ∧ w'.cell? ⟨w.heap.size + 1, 3, none⟩ = some (.int .i64 x.s)) (go_keep) (first
    | (go_at_call 75; refine (CT.out _).mono ?_; rintro e w5 ⟨rfl, h5⟩; obtain ⟨-, -, -, -, -, s5, s6⟩ := (HB.out.keep (HE4.out.trans (Ext.trans ((Ext.refl _).drewN 1) h5))).cell; simp only at s5 s6; have sm := HBm.out.keep (HE4.out.trans (Ext.trans ((Ext.refl _).drewN 1) h5)); have sx0 := sm.cellAt (i := 0) (by simp); have sx1 := sm.cellAt (i := 1) (by simp); have sx2 := sm.cellAt (i := 2) (by simp); have sx3 := sm.cellAt (i := 3) (by simp); simp at sx0 sx1 sx2 sx3)
    | (go_at_call 74; refine (CA.out _ (HE4.out.trans (Ext.trans ((Ext.refl _).drewN 1) h5))).mono ?_; rintro e w6 ⟨va, rfl, h6, oa⟩; obtain ⟨-, -, -, -, -, u5, u6⟩ := (HB.out.keep (HE4.out.trans ((Ext.trans ((Ext.refl _).drewN 1) h5).trans h6))).cell; simp only at u5 u6; have um := HBm.out.keep (HE4.out.trans ((Ext.trans ((Ext.refl _).drewN 1) h5).trans h6)); have ux0 := um.cellAt (i := 0) (by simp); have ux1 := um.cellAt (i := 1) (by simp); have ux2 := um.cellAt (i := 2) (by simp); have ux3 := um.cellAt (i := 3) (by simp); simp at ux0 ux1 ux2 ux3))
  obtain ⟨Aa, ca, rfl, -⟩ := own_form oa
  have h45 : Ext w4 w5 := Ext.trans ((Ext.refl _).drewN 1) h5
  have hz5 : w4.heap.size ≤ w5.heap.size := h45.size
  have hz6 : w5.heap.size ≤ w6.heap.size := h6.size
  have h46 := h45.trans h6
  have HE6 := Lib.hid (HE4.out.trans h46)
  have HO6 := Lib.hid (HO4.out.keep h46)
  have HB66 := Lib.hid (HB64.out.keep h46)
  have HP6 := Lib.hid (own_keep HP4.out h46)
  have HA6 := Lib.hid oa
  have HAA := Lib.hid (At.of_own oa)
  clear h5 h6 h45 h46 oa
  cases cb
  case false =>
    have HF : Hid (nightB m x = false) := Lib.hid (HN.out.trans (by simp))
    have HM : Hid (nightM m x = m) := Lib.hid (by rw [nightM, HF.out]; rfl)
    have Bz := Blk.keep HBz.out HE6.out
    have x0 := Bz.cellAt (i := 0) (by simp)
    have x1 := Bz.cellAt (i := 1) (by simp)
    have x2 := Bz.cellAt (i := 2) (by simp)
    have x3 := Bz.cellAt (i := 3) (by simp)
    have x4 := Bz.cellAt (i := 4) (by simp)
    have x5 := Bz.cellAt (i := 5) (by simp)
    have x6 := Bz.cellAt (i := 6) (by simp)
    have fz := Bz.free
    simp at x0 x1 x2 x3 x4 x5 x6
    have y0 := HB66.out.cellAt (i := 0) (by simp)
    have y1 := HB66.out.cellAt (i := 1) (by simp)
    have y2 := HB66.out.cellAt (i := 2) (by simp)
    have y3 := HB66.out.cellAt (i := 3) (by simp)
    have y4 := HB66.out.cellAt (i := 4) (by simp)
    have y5 := HB66.out.cellAt (i := 5) (by simp)
    have y6 := HB66.out.cellAt (i := 6) (by simp)
    simp at y0 y1 y2 y3 y4 y5 y6
    have lz : w.heap.size + 1 + 1 < w6.heap.size := Bz.lt
    go_wp2_with fail
    obtain ⟨b6', k6⟩ := store7 Bz (.int .i64 Hh1) (.slice A01 n01 c01) (.slice A11 n11 c11) (.slice A21 n21 c21) (.slice A31 n31 c31) (.int .i64 m.d) (.slice A41 n41 c41)
    have hO6 := HO6.out.out k6 (by omega)
    have hE6 := k6.ext (HE.out.trans HE6.out) (by omega)
    generalize (((((((w6.setCell ⟨w.heap.size + 1 + 1, 0, none⟩ (.int .i64 Hh1)).setCell ⟨w.heap.size + 1 + 1, 1, none⟩ (.slice A01 n01 c01)).setCell ⟨w.heap.size + 1 + 1, 2, none⟩ (.slice A11 n11 c11)).setCell ⟨w.heap.size + 1 + 1, 3, none⟩ (.slice A21 n21 c21)).setCell ⟨w.heap.size + 1 + 1, 4, none⟩ (.slice A31 n31 c31)).setCell ⟨w.heap.size + 1 + 1, 5, none⟩ (.int .i64 m.d)).setCell ⟨w.heap.size + 1 + 1, 6, none⟩ (.slice A41 n41 c41)) = w9 at b6' k6 hO6 hE6 ⊢
    have t0 := b6'.cellAt (i := 0) (by simp)
    have t1 := b6'.cellAt (i := 1) (by simp)
    have t2 := b6'.cellAt (i := 2) (by simp)
    have t3 := b6'.cellAt (i := 3) (by simp)
    have t4 := b6'.cellAt (i := 4) (by simp)
    have t5 := b6'.cellAt (i := 5) (by simp)
    have t6 := b6'.cellAt (i := 6) (by simp)
    simp at t0 t1 t2 t3 t4 t5 t6
    refine bodyPost_ret (v := .tuple #[MV.val ⟨Hh1, ⟨A01, n01, c01⟩, ⟨A11, n11, c11⟩, ⟨A21, n21, c21⟩, ⟨A31, n31, c31⟩, m.d, ⟨A41, n41, c41⟩⟩, .bool false]) (by simp [results, Tryd.results58, go_sem, t0, t1, t2, t3, t4, t5, t6, MV.val, MV.cells]) rfl ?_
    exact ⟨_, (by rw [HF.out]), hE6, by rw [HM.out]; exact hO6.weak (by omega)⟩
  cases ab
  case false =>
    have HF : Hid (nightB m x = false) := Lib.hid (HN.out.trans (by simp))
    have HM : Hid (nightM m x = m) := Lib.hid (by rw [nightM, HF.out]; rfl)
    have Bz := Blk.keep HBz.out HE6.out
    have x0 := Bz.cellAt (i := 0) (by simp)
    have x1 := Bz.cellAt (i := 1) (by simp)
    have x2 := Bz.cellAt (i := 2) (by simp)
    have x3 := Bz.cellAt (i := 3) (by simp)
    have x4 := Bz.cellAt (i := 4) (by simp)
    have x5 := Bz.cellAt (i := 5) (by simp)
    have x6 := Bz.cellAt (i := 6) (by simp)
    have fz := Bz.free
    simp at x0 x1 x2 x3 x4 x5 x6
    have y0 := HB66.out.cellAt (i := 0) (by simp)
    have y1 := HB66.out.cellAt (i := 1) (by simp)
    have y2 := HB66.out.cellAt (i := 2) (by simp)
    have y3 := HB66.out.cellAt (i := 3) (by simp)
    have y4 := HB66.out.cellAt (i := 4) (by simp)
    have y5 := HB66.out.cellAt (i := 5) (by simp)
    have y6 := HB66.out.cellAt (i := 6) (by simp)
    simp at y0 y1 y2 y3 y4 y5 y6
    have lz : w.heap.size + 1 + 1 < w6.heap.size := Bz.lt
    go_wp2_with fail
    obtain ⟨b6', k6⟩ := store7 Bz (.int .i64 Hh1) (.slice A01 n01 c01) (.slice A11 n11 c11) (.slice A21 n21 c21) (.slice A31 n31 c31) (.int .i64 m.d) (.slice A41 n41 c41)
    have hO6 := HO6.out.out k6 (by omega)
    have hE6 := k6.ext (HE.out.trans HE6.out) (by omega)
    generalize (((((((w6.setCell ⟨w.heap.size + 1 + 1, 0, none⟩ (.int .i64 Hh1)).setCell ⟨w.heap.size + 1 + 1, 1, none⟩ (.slice A01 n01 c01)).setCell ⟨w.heap.size + 1 + 1, 2, none⟩ (.slice A11 n11 c11)).setCell ⟨w.heap.size + 1 + 1, 3, none⟩ (.slice A21 n21 c21)).setCell ⟨w.heap.size + 1 + 1, 4, none⟩ (.slice A31 n31 c31)).setCell ⟨w.heap.size + 1 + 1, 5, none⟩ (.int .i64 m.d)).setCell ⟨w.heap.size + 1 + 1, 6, none⟩ (.slice A41 n41 c41)) = w9 at b6' k6 hO6 hE6 ⊢
    have t0 := b6'.cellAt (i := 0) (by simp)
    have t1 := b6'.cellAt (i := 1) (by simp)
    have t2 := b6'.cellAt (i := 2) (by simp)
    have t3 := b6'.cellAt (i := 3) (by simp)
    have t4 := b6'.cellAt (i := 4) (by simp)
    have t5 := b6'.cellAt (i := 5) (by simp)
    have t6 := b6'.cellAt (i := 6) (by simp)
    simp at t0 t1 t2 t3 t4 t5 t6
    refine bodyPost_ret (v := .tuple #[MV.val ⟨Hh1, ⟨A01, n01, c01⟩, ⟨A11, n11, c11⟩, ⟨A21, n21, c21⟩, ⟨A31, n31, c31⟩, m.d, ⟨A41, n41, c41⟩⟩, .bool false]) (by simp [results, Tryd.results58, go_sem, t0, t1, t2, t3, t4, t5, t6, MV.val, MV.cells]) rfl ?_
    exact ⟨_, (by rw [HF.out]), hE6, by rw [HM.out]; exact hO6.weak (by omega)⟩
  case true =>
    have HF : Hid (nightB m x = true) := Lib.hid (HN.out.trans (by simp))
    have HM : Hid (nightM m x = { m with ps := PL, rs := AL }) := Lib.hid (by rw [nightM, if_pos HF.out, HPL.out, HAL.out, moveL, appL, ← HCB.out, ← HAB.out]; rfl)
    have y3 := HB66.out.cellAt (i := 3) (by simp)
    have y6 := HB66.out.cellAt (i := 6) (by simp)
    have f6 := HB66.out.free
    have l6 := HB66.out.lt
    simp at y3 y6
    go_upto_region 10 with fail
    have hk := KeptOut.of_grown (lo := w1.heap.size) (hi := w1.heap.size + 1) (grown_set (grown_set (grown_refl w6 (some w1.heap.size)) 3 (.slice Ap PL.length cp)) 6 (.slice Aa AL.length ca)) (fun k hk => by injection hk with hk; omega)
    have hb7 := (HB66.out.set 3 (.slice Ap PL.length cp)).set 6 (.slice Aa AL.length ca)
    simp only [List.setIfInBounds_toArray, List.set_cons_succ, List.set_cons_zero] at hb7
    have ho7 := HO6.out.below hk HAT.out
    have hp7 := hk.own HP6.out (fun g hg => by have := HAP.out g hg; omega)
    have ha7 := hk.own HA6.out (fun g hg => by have := HAA.out g hg; omega)
    have he7 := hk.ext HE6.out hz2
    generalize (w6.setCell ⟨w1.heap.size, 3, none⟩ (.slice Ap PL.length cp)).setCell ⟨w1.heap.size, 6, none⟩ (.slice Aa AL.length ca) = w7 at hk hb7 ho7 hp7 ha7 he7 ⊢
    have HB7 := Lib.hid hb7
    have HO7 := Lib.hid (ho7.repl HAT.out hp7 HAP.out ha7 HAA.out (by omega) (by omega) (by omega))
    have HE7 := Lib.hid he7
    clear hk hb7 ho7 hp7 ha7 he7 y3 y6 f6 l6
    have Bz := Blk.keep HBz.out HE7.out
    have x0 := Bz.cellAt (i := 0) (by simp)
    have x1 := Bz.cellAt (i := 1) (by simp)
    have x2 := Bz.cellAt (i := 2) (by simp)
    have x3 := Bz.cellAt (i := 3) (by simp)
    have x4 := Bz.cellAt (i := 4) (by simp)
    have x5 := Bz.cellAt (i := 5) (by simp)
    have x6 := Bz.cellAt (i := 6) (by simp)
    have fz := Bz.free
    simp at x0 x1 x2 x3 x4 x5 x6
    have y0 := HB7.out.cellAt (i := 0) (by simp)
    have y1 := HB7.out.cellAt (i := 1) (by simp)
    have y2 := HB7.out.cellAt (i := 2) (by simp)
    have y3 := HB7.out.cellAt (i := 3) (by simp)
    have y4 := HB7.out.cellAt (i := 4) (by simp)
    have y5 := HB7.out.cellAt (i := 5) (by simp)
    have y6 := HB7.out.cellAt (i := 6) (by simp)
    simp at y0 y1 y2 y3 y4 y5 y6
    have lz : w.heap.size + 1 + 1 < w7.heap.size := Bz.lt
    go_wp2_with fail
    obtain ⟨b6', k6⟩ := store7 Bz (.int .i64 Hh1) (.slice A01 n01 c01) (.slice A11 n11 c11) (.slice Ap PL.length cp) (.slice A31 n31 c31) (.int .i64 m.d) (.slice Aa AL.length ca)
    have hO6 := HO7.out.out k6 (by omega)
    have hE6 := k6.ext (HE.out.trans HE7.out) (by omega)
    generalize (((((((w7.setCell ⟨w.heap.size + 1 + 1, 0, none⟩ (.int .i64 Hh1)).setCell ⟨w.heap.size + 1 + 1, 1, none⟩ (.slice A01 n01 c01)).setCell ⟨w.heap.size + 1 + 1, 2, none⟩ (.slice A11 n11 c11)).setCell ⟨w.heap.size + 1 + 1, 3, none⟩ (.slice Ap PL.length cp)).setCell ⟨w.heap.size + 1 + 1, 4, none⟩ (.slice A31 n31 c31)).setCell ⟨w.heap.size + 1 + 1, 5, none⟩ (.int .i64 m.d)).setCell ⟨w.heap.size + 1 + 1, 6, none⟩ (.slice Aa AL.length ca)) = w9 at b6' k6 hO6 hE6 ⊢
    have t0 := b6'.cellAt (i := 0) (by simp)
    have t1 := b6'.cellAt (i := 1) (by simp)
    have t2 := b6'.cellAt (i := 2) (by simp)
    have t3 := b6'.cellAt (i := 3) (by simp)
    have t4 := b6'.cellAt (i := 4) (by simp)
    have t5 := b6'.cellAt (i := 5) (by simp)
    have t6 := b6'.cellAt (i := 6) (by simp)
    simp at t0 t1 t2 t3 t4 t5 t6
    refine bodyPost_ret (v := .tuple #[MV.val ⟨Hh1, ⟨A01, n01, c01⟩, ⟨A11, n11, c11⟩, ⟨Ap, PL.length, cp⟩, ⟨A31, n31, c31⟩, m.d, ⟨Aa, AL.length, ca⟩⟩, .bool true]) (by simp [results, Tryd.results58, go_sem, t0, t1, t2, t3, t4, t5, t6, MV.val, MV.cells]) rfl ?_
    exact ⟨_, (by rw [HF.out]), hE6, by rw [HM.out]; exact hO6.weak (by omega)⟩
end Go.Proofs.YtfhibjehnoibeaaDoor
