/- Texts of one proof, laid one behind the other (SDg); no condition but what stands at each theorem. -/
import Derived.Test.YtfmifllcbbfpoaaGreatDoorZE
import Derived.Test.YtfmifllcbbfpoaaGreatDoorZJ
import Derived.Test.YtfmifllcbbfpoaaGreatDoorZS
import Derived.Test.YtfmifllcbbfpoaaGreatDoorZV
/- What holds between the operations that make a drawn museum; no condition but what stands at each theorem. -/
namespace Go.Proofs.YtfmifllcbbfpoaaGreatDoor
set_option linter.unusedSimpArgs false
set_option linter.unusedVariables false
open Go.RowKit Go.Sort
def zeroV : MV := ⟨0, ⟨none, 0, 0⟩, ⟨none, 0, 0⟩, ⟨none, 0, 0⟩, ⟨none, 0, 0⟩, 0, ⟨none, 0, 0⟩⟩
/-- n operations that may come in any order are left, or the rest is shown at once. -/
theorem wpAnyH_invX {P : Program} {md : Region.Mode} {ops : Array Oper} {Q : Exit → Act → World → Prop} {S : World → Prop} (f1 : Nat) (Inv : Nat → Array Bool → Act → World → Prop)
    (h0 : ∀ listed a w, Inv 0 listed a w → wpAnyH P md ops Q S f1 listed a w)
    (hs : ∀ n listed a w, Inv (n + 1) listed a w → wpAnyH P md ops Q S (f1 + (n + 1)) listed a w ∨ (Region.ready md ops listed ≠ [] ∧ ∀ i ∈ Region.ready md ops listed, wpOp P ops Q i (fun a' w' => S w' ∧ Inv n (listed.setIfInBounds i true) a' w') a w)) :
    ∀ n listed a w, Inv n listed a w → wpAnyH P md ops Q S (f1 + n) listed a w
  | 0, listed, a, w, h => h0 listed a w h
  | n + 1, listed, a, w, h => by
    rcases hs n listed a w h with h1 | ⟨h1, h2⟩
    · exact h1
    · exact ⟨fun e => absurd e h1, fun i hi => wpOp_mono (fun a' w' h3 => ⟨h3.1, wpAnyH_invX f1 Inv h0 hs n _ a' w' h3.2⟩) (h2 i hi)⟩
theorem nf {P : Prop} : false = true → P := fun h => Bool.noConfusion h
theorem nf2 {b : Bool} {P : Prop} : false = true → b = false → P := fun h => Bool.noConfusion h
def InR (H : Nat) (L : List Int) : Prop := ∀ q ∈ L, 0 ≤ q ∧ q < H
/-- Between the operations: c a list has been drawn, b a literal row been made, a the one been appended to the other (twice), cN the museum been made, x its box. -/
structure RInv (w1 : World) (p H : Nat) (ds : List GDoor) (lo hi : Nat) (c1 b1 a1 c2 b2 a2 cN x : Bool) (y1 z1 r1 y2 z2 r2 tN px : Value) (W : World) : Prop where
  cu : Cur W p
  g : w1.grownBy W (some p)
  o1 : a1 = true → c1 = true ∧ b1 = true
  o2 : c2 = true → a1 = true
  o3 : a2 = true → c2 = true ∧ b2 = true
  o4 : cN = true → a2 = true
  B1 : b1 = true → a1 = false → ∃ g, z1 = .slice (some ⟨g, 0, none⟩) 1 1 ∧ w1.heap.size ≤ g ∧ Blk W g 3 #[.int .i64 0]
  B2 : b2 = true → a2 = false → ∃ g, z2 = .slice (some ⟨g, 0, none⟩) 2 2 ∧ w1.heap.size ≤ g ∧ Blk W g 3 #[.int .i64 0, .int .i64 0] ∧ (c1 = true → a1 = false → y1.ownBlock ≠ some g)
  X : x = true → ∃ g, px = .pointer (some ⟨g, 0, none⟩) ∧ w1.heap.size ≤ g ∧ Blk W g 30 zeroV.cells ∧ (c1 = true → a1 = false → y1.ownBlock ≠ some g) ∧ (c2 = true → a2 = false → y2.ownBlock ≠ some g) ∧ (cN = true → g < lo ∨ hi ≤ g)
  R1 : c1 = true → a1 = false → ∃ L : List Int, W.ownsRow w1.heap.size 3 1 y1 L.length (L.flatMap ienc) ∧ L.length ≤ 4 ∧ InR H L
  S1 : a1 = true → ∃ L : List Int, W.ownsRow w1.heap.size 3 1 r1 L.length (L.flatMap ienc) ∧ 1 ≤ L.length ∧ L.length ≤ 5 ∧ InR H L
  R2 : c2 = true → a2 = false → (∃ L : List Int, W.ownsRow w1.heap.size 3 1 y2 L.length (L.flatMap ienc) ∧ L.length ≤ 4 ∧ InR H L) ∧ Apart r1 y2
  S2 : a2 = true → ∃ L : List Int, W.ownsRow w1.heap.size 3 1 r2 L.length (L.flatMap ienc) ∧ 2 ≤ L.length ∧ L.length ≤ 6 ∧ InR H L
  N : cN = true → ∃ (v : MV) (m : GMuseum) (b : Bool), tN = .tuple #[v.val, .bool b] ∧ DMus m 0 ∧ m.H = H ∧ m.ds = ds ∧ MOwn W lo v m ∧ MAt lo hi v ∧ w1.heap.size ≤ lo ∧ hi ≤ W.heap.size
section
variable {w1 W W' : World} {p H lo hi : Nat} {ds : List GDoor} {c1 b1 a1 c2 b2 a2 cN x : Bool} {y1 z1 r1 y2 z2 r2 tN px : Value}
theorem RInv.ext (h : RInv w1 p H ds lo hi c1 b1 a1 c2 b2 a2 cN x y1 z1 r1 y2 z2 r2 tN px W) (e : Ext W W') : RInv w1 p H ds lo hi c1 b1 a1 c2 b2 a2 cN x y1 z1 r1 y2 z2 r2 tN px W' := by
  refine ⟨cur_ext h.cu e, grown_extD h.g e, h.o1, h.o2, h.o3, h.o4, fun k1 k2 => ?_, fun k1 k2 => ?_, fun k => ?_, fun k1 k2 => ?_, fun k => ?_, fun k1 k2 => ?_, fun k => ?_, fun k => ?_⟩
  · obtain ⟨g, h1, h2, h3⟩ := h.B1 k1 k2; exact ⟨g, h1, h2, h3.keep e⟩
  · obtain ⟨g, h1, h2, h3, h4⟩ := h.B2 k1 k2; exact ⟨g, h1, h2, h3.keep e, h4⟩
  · obtain ⟨g, h1, h2, h3, h4⟩ := h.X k; exact ⟨g, h1, h2, h3.keep e, h4⟩
  · obtain ⟨L, h1, h2⟩ := h.R1 k1 k2; exact ⟨L, own_keep h1 e, h2⟩
  · obtain ⟨L, h1, h2⟩ := h.S1 k; exact ⟨L, own_keep h1 e, h2⟩
  · obtain ⟨⟨L, h1, h2⟩, h3⟩ := h.R2 k1 k2; exact ⟨⟨L, own_keep h1 e, h2⟩, h3⟩
  · obtain ⟨L, h1, h2⟩ := h.S2 k; exact ⟨L, own_keep h1 e, h2⟩
  · obtain ⟨v, m, b, h1, h2, h3, h4, h5, h6, h7, h8⟩ := h.N k; exact ⟨v, m, b, h1, h2, h3, h4, h5.keep e, h6, h7, Nat.le_trans h8 e.size⟩
theorem RInv.draw (h : RInv w1 p H ds lo hi c1 b1 a1 c2 b2 a2 false x y1 z1 r1 y2 z2 r2 tN px W) (hp : p < w1.heap.size) (hc : Cur W' p) (hg : W.grownBy W' (some p)) : RInv w1 p H ds lo hi c1 b1 a1 c2 b2 a2 false x y1 z1 r1 y2 z2 r2 tN px W' := by
  refine ⟨hc, grown_trans h.g hg, h.o1, h.o2, h.o3, h.o4, fun k1 k2 => ?_, fun k1 k2 => ?_, fun k => ?_, fun k1 k2 => ?_, fun k => ?_, fun k1 k2 => ?_, fun k => ?_, fun k => Bool.noConfusion k⟩
  · obtain ⟨g, h1, h2, h3⟩ := h.B1 k1 k2; exact ⟨g, h1, h2, blk_grown h3 (by omega) hg⟩
  · obtain ⟨g, h1, h2, h3, h4⟩ := h.B2 k1 k2; exact ⟨g, h1, h2, blk_grown h3 (by omega) hg, h4⟩
  · obtain ⟨g, h1, h2, h3, h4⟩ := h.X k; exact ⟨g, h1, h2, blk_grown h3 (by omega) hg, h4⟩
  · obtain ⟨L, h1, h2⟩ := h.R1 k1 k2; exact ⟨L, own_grown h1 hp hg, h2⟩
  · obtain ⟨L, h1, h2⟩ := h.S1 k; exact ⟨L, own_grown h1 hp hg, h2⟩
  · obtain ⟨⟨L, h1, h2⟩, h3⟩ := h.R2 k1 k2; exact ⟨⟨L, own_grown h1 hp hg, h2⟩, h3⟩
  · obtain ⟨L, h1, h2⟩ := h.S2 k; exact ⟨L, own_grown h1 hp hg, h2⟩
theorem own_off {base : Nat} {e : TypeId} {m n : Nat} {v : Value} {L : List Value} (h : W'.ownsRow base e m v n L) {g : Nat} (hg : g < base) : v.ownBlock ≠ some g := fun k => by
  have := (h.lt g k).1
  omega
theorem own_off2 {base : Nat} {e : TypeId} {m n : Nat} {v : Value} {L : List Value} (h : W.ownsRow base e m v n L) {g : Nat} (hg : W.heap.size ≤ g) : v.ownBlock ≠ some g := fun k => by
  have := (h.lt g k).2
  omega
theorem RInv.base (h : RInv w1 p H ds lo hi c1 b1 a1 c2 b2 a2 cN x y1 z1 r1 y2 z2 r2 tN px W) : w1.heap.size ≤ W.heap.size := h.g.size
theorem RInv.call1 (h : RInv w1 p H ds lo hi false b1 false false b2 false false x y1 z1 r1 y2 z2 r2 tN px W) (hp : p < w1.heap.size) {v : Value} {L : List Int} (ho : W'.ownsRow W.heap.size 3 1 v L.length (L.flatMap ienc)) (hl : L.length ≤ 4) (hr : InR H L) (hc : Cur W' p) (hg : W.grownBy W' (some p)) :
    RInv w1 p H ds lo hi true b1 false false b2 false false x v z1 r1 y2 z2 r2 tN px W' := by
  have k := h.draw hp hc hg
  refine ⟨k.cu, k.g, fun q => Bool.noConfusion q, k.o2, k.o3, k.o4, k.B1, fun k1 k2 => ?_, fun q => ?_, fun _ _ => ⟨L, own_weak ho h.base, hl, hr⟩, k.S1, k.R2, k.S2, k.N⟩
  · obtain ⟨g, h1, h2, h3, -⟩ := k.B2 k1 k2
    obtain ⟨g', h1', -, h3', -⟩ := h.B2 k1 k2
    rw [h1] at h1'
    injection h1' with e1
    injection e1 with e1
    injection e1 with e1
    subst e1
    exact ⟨g, h1, h2, h3, fun _ _ => own_off ho h3'.lt⟩
  · obtain ⟨g, h1, h2, h3, -, h5, h6⟩ := k.X q
    obtain ⟨g', h1', -, h3', -⟩ := h.X q
    rw [h1] at h1'
    injection h1' with e1
    injection e1 with e1
    injection e1 with e1
    subst e1
    exact ⟨g, h1, h2, h3, fun _ _ => own_off ho h3'.lt, h5, h6⟩
theorem RInv.call2 (h : RInv w1 p H ds lo hi c1 b1 true false b2 false false x y1 z1 r1 y2 z2 r2 tN px W) (hp : p < w1.heap.size) {v : Value} {L : List Int} (ho : W'.ownsRow W.heap.size 3 1 v L.length (L.flatMap ienc)) (hl : L.length ≤ 4) (hr : InR H L) (hc : Cur W' p) (hg : W.grownBy W' (some p)) :
    RInv w1 p H ds lo hi c1 b1 true true b2 false false x y1 z1 r1 v z2 r2 tN px W' := by
  have k := h.draw hp hc hg
  refine ⟨k.cu, k.g, k.o1, fun _ => rfl, fun q => Bool.noConfusion q, k.o4, k.B1, k.B2, fun q => ?_, k.R1, k.S1, fun _ _ => ⟨⟨L, own_weak ho h.base, hl, hr⟩, fun g hg1 hg2 => ?_⟩, k.S2, k.N⟩
  · obtain ⟨g, h1, h2, h3, h4, -, h6⟩ := k.X q
    obtain ⟨g', h1', -, h3', -⟩ := h.X q
    rw [h1] at h1'
    injection h1' with e1
    injection e1 with e1
    injection e1 with e1
    subst e1
    exact ⟨g, h1, h2, h3, h4, fun _ _ => own_off ho h3'.lt, h6⟩
  · obtain ⟨L1, hL1, -⟩ := h.S1 rfl
    have q1 := (hL1.lt g hg1).2
    have q2 := (ho.lt g hg2).1
    omega
theorem RInv.build1 (h : RInv w1 p H ds lo hi c1 false false c2 b2 a2 cN x y1 z1 r1 y2 z2 r2 tN px W) : RInv w1 p H ds lo hi c1 true false c2 b2 a2 cN x y1 (.slice (some ⟨W.heap.size, 0, none⟩) 1 1) r1 y2 z2 r2 tN px (W.alloc (.cells #[.int .i64 0] 3)) := by
  have k := h.ext ((Ext.refl W).alloc (.cells #[.int .i64 0] 3))
  exact ⟨k.cu, k.g, fun q => Bool.noConfusion q, k.o2, k.o3, k.o4, fun _ _ => ⟨_, rfl, h.base, Blk.new _ _ _⟩, k.B2, k.X, k.R1, k.S1, k.R2, k.S2, k.N⟩
theorem RInv.build2 (h : RInv w1 p H ds lo hi c1 b1 a1 c2 false false cN x y1 z1 r1 y2 z2 r2 tN px W) : RInv w1 p H ds lo hi c1 b1 a1 c2 true false cN x y1 z1 r1 y2 (.slice (some ⟨W.heap.size, 0, none⟩) 2 2) r2 tN px (W.alloc (.cells #[.int .i64 0, .int .i64 0] 3)) := by
  have k := h.ext ((Ext.refl W).alloc (.cells #[.int .i64 0, .int .i64 0] 3))
  exact ⟨k.cu, k.g, k.o1, k.o2, fun q => Bool.noConfusion q, k.o4, k.B1, fun _ _ => ⟨_, rfl, h.base, Blk.new _ _ _, fun k1 k2 => by obtain ⟨L, h1, -⟩ := h.R1 k1 k2; exact own_off2 h1 (Nat.le_refl _)⟩, k.X, k.R1, k.S1, k.R2, k.S2, k.N⟩
theorem RInv.box (h : RInv w1 p H ds lo hi c1 b1 a1 c2 b2 a2 cN false y1 z1 r1 y2 z2 r2 tN px W) : RInv w1 p H ds lo hi c1 b1 a1 c2 b2 a2 cN true y1 z1 r1 y2 z2 r2 tN (.pointer (some ⟨W.heap.size, 0, none⟩)) (W.alloc (.cells zeroV.cells 30)) := by
  have k := h.ext ((Ext.refl W).alloc (.cells zeroV.cells 30))
  exact ⟨k.cu, k.g, k.o1, k.o2, k.o3, k.o4, k.B1, k.B2, fun _ => ⟨_, rfl, h.base, Blk.new _ _ _, fun k1 k2 => by obtain ⟨L, h1, -⟩ := h.R1 k1 k2; exact own_off2 h1 (Nat.le_refl _), fun k1 k2 => by obtain ⟨⟨L, h1, -⟩, -⟩ := h.R2 k1 k2; exact own_off2 h1 (Nat.le_refl _), fun q => by obtain ⟨v, m, b, -, -, -, -, -, -, -, h8⟩ := h.N q; exact .inr h8⟩, k.R1, k.S1, k.R2, k.S2, k.N⟩
theorem RInv.app1 (h : RInv w1 p H ds lo hi true true false c2 b2 a2 cN x y1 z1 r1 y2 z2 r2 tN px W) (hp : p < w1.heap.size) {v : Value} {L : List Int} (ho : W'.ownsRow w1.heap.size 3 1 v L.length (L.flatMap ienc)) (h1 : 1 ≤ L.length) (hl : L.length ≤ 5) (hr : InR H L) (hg : W.grownBy W' y1.ownBlock) :
    RInv w1 p H ds lo hi true true true c2 b2 a2 cN x y1 z1 v y2 z2 r2 tN px W' := by
  obtain ⟨L0, hL0, -⟩ := h.R1 rfl rfl
  have hy : ∀ k, y1.ownBlock = some k → w1.heap.size ≤ k := fun k hk => (hL0.lt k hk).1
  have f2 : c2 = false := by cases c2 with | false => rfl | true => exact (Bool.noConfusion (h.o2 rfl))
  subst f2
  have f3 : a2 = false := by cases a2 with | false => rfl | true => exact (Bool.noConfusion (h.o3 rfl).1)
  subst f3
  have f4 : cN = false := by cases cN with | false => rfl | true => exact (Bool.noConfusion (h.o4 rfl))
  subst f4
  refine ⟨cur_grown h.cu hg (fun k hk => by have := hy k hk; omega), grown_over h.g hg (fun k hk => hy k hk), fun _ => ⟨rfl, rfl⟩, fun q => Bool.noConfusion q, fun q => Bool.noConfusion q, fun q => Bool.noConfusion q, fun _ q => Bool.noConfusion q, fun k1 k2 => ?_, fun q => ?_, fun _ q => Bool.noConfusion q, fun _ => ⟨L, ho, h1, hl, hr⟩, fun q => Bool.noConfusion q, fun q => Bool.noConfusion q, fun q => Bool.noConfusion q⟩
  · obtain ⟨g, e1, e2, e3, e4⟩ := h.B2 k1 k2
    exact ⟨g, e1, e2, (hg.block g e3.lt (fun e => e4 rfl rfl e.symm)).trans e3, fun _ q => Bool.noConfusion q⟩
  · obtain ⟨g, e1, e2, e3, e4, e5, e6⟩ := h.X q
    exact ⟨g, e1, e2, (hg.block g e3.lt (fun e => e4 rfl rfl e.symm)).trans e3, fun _ q => Bool.noConfusion q, fun q => Bool.noConfusion q, fun q => Bool.noConfusion q⟩
theorem RInv.app2 (h : RInv w1 p H ds lo hi c1 b1 a1 true true false cN x y1 z1 r1 y2 z2 r2 tN px W) (hp : p < w1.heap.size) {v : Value} {L : List Int} (ho : W'.ownsRow w1.heap.size 3 1 v L.length (L.flatMap ienc)) (h1 : 2 ≤ L.length) (hl : L.length ≤ 6) (hr : InR H L) (hg : W.grownBy W' y2.ownBlock) :
    RInv w1 p H ds lo hi c1 b1 a1 true true true cN x y1 z1 r1 y2 z2 v tN px W' := by
  obtain ⟨⟨L0, hL0, -⟩, hap⟩ := h.R2 rfl rfl
  have hy : ∀ k, y2.ownBlock = some k → w1.heap.size ≤ k := fun k hk => (hL0.lt k hk).1
  have f2 : a1 = true := h.o2 rfl
  subst f2
  have f4 : cN = false := by cases cN with | false => rfl | true => exact (Bool.noConfusion (h.o4 rfl))
  subst f4
  refine ⟨cur_grown h.cu hg (fun k hk => by have := hy k hk; omega), grown_over h.g hg (fun k hk => hy k hk), h.o1, fun _ => rfl, fun _ => ⟨rfl, rfl⟩, fun q => Bool.noConfusion q, fun _ q => Bool.noConfusion q, fun _ q => Bool.noConfusion q, fun q => ?_, fun _ q => Bool.noConfusion q, fun _ => ?_, fun _ q => Bool.noConfusion q, fun _ => ⟨L, ho, h1, hl, hr⟩, fun q => Bool.noConfusion q⟩
  · obtain ⟨g, e1, e2, e3, e4, e5, e6⟩ := h.X q
    exact ⟨g, e1, e2, (hg.block g e3.lt (fun e => e5 rfl rfl e.symm)).trans e3, fun _ q => Bool.noConfusion q, fun _ q => Bool.noConfusion q, fun q => Bool.noConfusion q⟩
  · obtain ⟨L1, g1, g2⟩ := h.S1 rfl
    exact ⟨L1, own_apart g1 hap hg, g2⟩
theorem RInv.made (h : RInv w1 p H ds lo hi c1 b1 a1 c2 b2 true false x y1 z1 r1 y2 z2 r2 tN px W) (e : Ext W W') {v : MV} {m : GMuseum} {b : Bool} (hm : DMus m 0) (hH : m.H = H) (hd : m.ds = ds) (ho : MOwn W' W.heap.size v m) :
    RInv w1 p H ds W.heap.size W'.heap.size c1 b1 a1 c2 b2 true true x y1 z1 r1 y2 z2 r2 (.tuple #[v.val, .bool b]) px W' := by
  have k := h.ext e
  refine ⟨k.cu, k.g, k.o1, k.o2, k.o3, fun _ => rfl, k.B1, k.B2, fun q => ?_, k.R1, k.S1, k.R2, k.S2, fun _ => ⟨v, m, b, rfl, hm, hH, hd, ho, MAt.of_own ho, h.base, Nat.le_refl _⟩⟩
  obtain ⟨g, h1, h2, h3, h4, h5, -⟩ := k.X q
  obtain ⟨g', h1', -, h3', -⟩ := h.X q
  rw [h1] at h1'
  injection h1' with e1
  injection e1 with e1
  injection e1 with e1
  subst e1
  exact ⟨g, h1, h2, h3, h4, h5, fun _ => .inl h3'.lt⟩
end
end Go.Proofs.YtfmifllcbbfpoaaGreatDoor
