/- Texts of one proof, laid one behind the other (T2, H4, H5, H6, KM, S1, SM1, MH, KB, SHa, SHb, SHc, SHd); no condition but what stands at each theorem. -/
import Derived.IntWalk
import Derived.KernelRfl
import Derived.Deep.DeepFit
import Derived.Laws.CopyOwn
import Derived.Deep.RegionLaw
import Derived.RegionTactic
import Derived.Test.YtfhibjehnoibeaaDoorZA
/- Entries of a record and museums as Lean structures, and how their cells stand; no condition but what stands at each theorem. -/
namespace Go.Proofs.YtfhibjehnoibeaaDoor
set_option linter.unusedSimpArgs false
set_option linter.unusedVariables false
open Go.RowKit Go.ChangeShapes Go.WideShapes Go.Deep Go.Sort
/-- An entry; its text is no longer than a string can be. -/
structure GEntry where
  m : Int
  x : ByteArray
  s : Int
  h : x.size ≤ 9223372036854775807
def GEntry.enc (e : GEntry) : List Value := [.int .i64 e.m, .string e.x, .int .i64 e.s]
theorem GEntry.len (e : GEntry) : e.enc.length = 3 := rfl
theorem GEntry.at_ {w : World} {A : Option Addr} {n k : Nat} {xs : List GEntry} (h : Rd w 3 A n (xs.flatMap GEntry.enc)) (hk : k < n) :
    ∃ (b off : Nat) (x : GEntry), A = some ⟨b, off, none⟩ ∧ b < w.heap.size ∧ xs[k]? = some x ∧ w.cell? ⟨b, off + k * 3, none⟩ = some (.int .i64 x.m) ∧ w.cell? ⟨b, off + k * 3 + 1, none⟩ = some (.string x.x) ∧ w.cell? ⟨b, off + k * 3 + 2, none⟩ = some (.int .i64 x.s) :=
  Rd.at3 (p := fun (s : GEntry) => .int .i64 s.m) (q := fun s => .string s.x) (r := fun s => .int .i64 s.s) (fun _ => rfl) h hk
structure GMuseum where
  H : Int
  ds : List GDoor
  fs : List Int
  ps : List Int
  gs : List Int
  d : Int
  rs : List GEntry
/-- A slice's three parts. -/
structure SL where
  A : Option Addr
  n : Nat
  c : Nat
/-- A museum's value: its numbers and the places of its five rows. -/
structure MV where
  H : Int
  sd : SL
  sf : SL
  sp : SL
  sg : SL
  d : Int
  sr : SL
def MV.cells (v : MV) : Array Value := #[.int .i64 v.H, .slice v.sd.A v.sd.n v.sd.c, .slice v.sf.A v.sf.n v.sf.c, .slice v.sp.A v.sp.n v.sp.c, .slice v.sg.A v.sg.n v.sg.c, .int .i64 v.d, .slice v.sr.A v.sr.n v.sr.c]
def MV.val (v : MV) : Value := .agg v.cells
/-- The value v reads as the museum m. -/
structure MRd (w : World) (v : MV) (m : GMuseum) : Prop where
  eH : v.H = m.H
  ed : v.d = m.d
  rd : Rd w 2 v.sd.A v.sd.n (m.ds.flatMap GDoor.enc)
  rf : Rd w 1 v.sf.A v.sf.n (m.fs.flatMap ienc)
  rp : Rd w 1 v.sp.A v.sp.n (m.ps.flatMap ienc)
  rg : Rd w 1 v.sg.A v.sg.n (m.gs.flatMap ienc)
  rr : Rd w 3 v.sr.A v.sr.n (m.rs.flatMap GEntry.enc)
theorem MRd.keep {w w' : World} {v : MV} {m : GMuseum} (h : MRd w v m) (e : Ext w w') : MRd w' v m :=
  ⟨h.eH, h.ed, h.rd.keep e, h.rf.keep e, h.rp.keep e, h.rg.keep e, h.rr.keep e⟩
/-- The cells of a museum in a box. -/
structure MBox (w : World) (b : Nat) (v : MV) : Prop where
  lt : b < w.heap.size
  c0 : w.cell? ⟨b, 0, none⟩ = some (.int .i64 v.H)
  c1 : w.cell? ⟨b, 1, none⟩ = some (.slice v.sd.A v.sd.n v.sd.c)
  c2 : w.cell? ⟨b, 2, none⟩ = some (.slice v.sf.A v.sf.n v.sf.c)
  c3 : w.cell? ⟨b, 3, none⟩ = some (.slice v.sp.A v.sp.n v.sp.c)
  c4 : w.cell? ⟨b, 4, none⟩ = some (.slice v.sg.A v.sg.n v.sg.c)
  c5 : w.cell? ⟨b, 5, none⟩ = some (.int .i64 v.d)
  c6 : w.cell? ⟨b, 6, none⟩ = some (.slice v.sr.A v.sr.n v.sr.c)
theorem MBox.keep {w w' : World} {b : Nat} {v : MV} (h : MBox w b v) (e : Ext w w') : MBox w' b v := by
  have k := fun o => e.cellAt b h.lt o
  exact ⟨Nat.lt_of_lt_of_le h.lt e.size, (k 0).trans h.c0, (k 1).trans h.c1, (k 2).trans h.c2, (k 3).trans h.c3, (k 4).trans h.c4, (k 5).trans h.c5, (k 6).trans h.c6⟩
theorem MBox.new {w wb : World} {v : MV} {t : TypeId} (h : wb = w.alloc (.cells v.cells t)) : MBox wb w.heap.size v := by
  subst h
  refine ⟨by simp, ?_, ?_, ?_, ?_, ?_, ?_, ?_⟩ <;> (rw [World.cell?_alloc_new]; rfl)
theorem MBox.regrown {w : World} {b : Nat} {v : MV} (h : MBox w b v) (d : Nat) (os : Array Obj) : MBox (grow (redrawn w d) os) b v := h.keep (ext_rg w d os)
end Go.Proofs.YtfhibjehnoibeaaDoor
/- Contracts of the laws' helpers on entries and museums; no condition but what stands at each theorem. -/
namespace Go.Proofs.YtfhibjehnoibeaaDoor
set_option linter.unusedSimpArgs false
set_option linter.unusedVariables false
open Go.RowKit Go.Sort



def bulkE (xs : List GEntry) : Int := xs.foldr (fun e t => (e.x.size : Int) + t) 0
theorem bulkE_nn : ∀ xs : List GEntry, 0 ≤ bulkE xs
  | [] => by simp [bulkE]
  | e :: r => by have := bulkE_nn r; simp only [bulkE, List.foldr_cons] at *; omega
theorem bulkE_cons (e : GEntry) (r : List GEntry) : bulkE (e :: r) = (e.x.size : Int) + bulkE r := rfl
end Go.Proofs.YtfhibjehnoibeaaDoor
/- Contracts of the laws' helpers on museums: sizes, copies, comparisons; no condition but what stands at each theorem. -/
namespace Go.Proofs.YtfhibjehnoibeaaDoor
set_option linter.unusedSimpArgs false
set_option linter.unusedVariables false
open Go.RowKit Go.Sort
/-- Two rows of one's own do not share a block. -/
def Apart (a b : Value) : Prop := ∀ g, a.ownBlock = some g → b.ownBlock ≠ some g
theorem Apart.of_at {a b : Value} {l1 h1 l2 h2 : Nat} (ha : At l1 h1 a) (hb : At l2 h2 b) (hd : h1 ≤ l2 ∨ h2 ≤ l1) : Apart a b := by
  intro g h k
  have p := ha g h
  have q := hb g k
  omega
theorem Apart.symm {a b : Value} (h : Apart a b) : Apart b a := fun g k l => h g l k
theorem own_apart {w w' : World} {base : Nat} {e : TypeId} {m n : Nat} {v v' : Value} {L : List Value} (h : w.ownsRow base e m v n L) (a : Apart v v') (hg : w.grownBy w' v'.ownBlock) : w'.ownsRow base e m v n L := by
  refine h.kept hg ?_
  cases hv : v.ownBlock with
  | none => exact .inl rfl
  | some g => exact .inr fun e => a g hv e.symm
theorem ext_apart {a w w' : World} {v : Value} {base : Nat} {e : TypeId} {m n : Nat} {L : List Value} (h : Ext a w) (ho : w.ownsRow base e m v n L) (hl : a.heap.size ≤ base) (hg : w.grownBy w' v.ownBlock) : Ext a w' :=
  h.grown hg fun k hk => Nat.le_trans hl (ho.lt k hk).1
theorem apart5 {d f p g r : Value} (a1 : Apart d f) (a2 : Apart d p) (a3 : Apart d g) (a4 : Apart d r) (a5 : Apart f p) (a6 : Apart f g) (a7 : Apart f r) (a8 : Apart p g) (a9 : Apart p r) (a10 : Apart g r) : List.Pairwise Apart [d, f, p, g, r] := by
  refine .cons ?_ (.cons ?_ (.cons ?_ (.cons ?_ (.cons ?_ .nil))))
  all_goals intro x hx
  all_goals simp only [List.mem_cons, List.not_mem_nil, or_false] at hx
  · rcases hx with rfl | rfl | rfl | rfl <;> assumption
  · rcases hx with rfl | rfl | rfl <;> assumption
  · rcases hx with rfl | rfl <;> assumption
  · subst hx; assumption
def SL.v (s : SL) : Value := .slice s.A s.n s.c
/-- The value v, all of whose rows the call made itself, in blocks of their own, reads as the museum m. -/
structure MOwn (w : World) (base : Nat) (v : MV) (m : GMuseum) : Prop where
  eH : v.H = m.H
  ed : v.d = m.d
  od : w.ownsRow base 96 2 v.sd.v v.sd.n (m.ds.flatMap GDoor.enc)
  of_ : w.ownsRow base 3 1 v.sf.v v.sf.n (m.fs.flatMap ienc)
  op : w.ownsRow base 3 1 v.sp.v v.sp.n (m.ps.flatMap ienc)
  og : w.ownsRow base 3 1 v.sg.v v.sg.n (m.gs.flatMap ienc)
  or_ : w.ownsRow base 58 3 v.sr.v v.sr.n (m.rs.flatMap GEntry.enc)
  ap : List.Pairwise Apart [v.sd.v, v.sf.v, v.sp.v, v.sg.v, v.sr.v]
theorem MOwn.rd {w : World} {base : Nat} {v : MV} {m : GMuseum} (h : MOwn w base v m) : MRd w v m :=
  ⟨h.eH, h.ed, Rd.of_own h.od, Rd.of_own h.of_, Rd.of_own h.op, Rd.of_own h.og, Rd.of_own h.or_⟩
theorem MOwn.keep {w w' : World} {base : Nat} {v : MV} {m : GMuseum} (h : MOwn w base v m) (e : Ext w w') : MOwn w' base v m :=
  ⟨h.eH, h.ed, own_keep h.od e, own_keep h.of_ e, own_keep h.op e, own_keep h.og e, own_keep h.or_ e, h.ap⟩
theorem MOwn.weak {w : World} {base base' : Nat} {v : MV} {m : GMuseum} (h : MOwn w base v m) (hb : base' ≤ base) : MOwn w base' v m :=
  ⟨h.eH, h.ed, own_weak h.od hb, own_weak h.of_ hb, own_weak h.op hb, own_weak h.og hb, own_weak h.or_ hb, h.ap⟩
/-- How much a museum's rows hold. -/
def bulkM (v : MV) (m : GMuseum) : Int := (v.sd.n : Int) + v.sf.n + v.sp.n + v.sg.n + ((v.sr.n : Int) + bulkE m.rs)
end Go.Proofs.YtfhibjehnoibeaaDoor
/- Contracts of the laws' copies of museums; no condition but what stands at each theorem. -/
namespace Go.Proofs.YtfhibjehnoibeaaDoor
set_option linter.unusedSimpArgs false
set_option linter.unusedVariables false
open Go.RowKit Go.Sort
end Go.Proofs.YtfhibjehnoibeaaDoor
/- Worlds in which only some blocks have turned; no condition but what stands at each theorem. -/
namespace Go.Proofs.YtfhibjehnoibeaaDoor
set_option linter.unusedSimpArgs false
set_option linter.unusedVariables false
open Go.RowKit Go.Sort
/-- Only blocks from lo to below hi have turned; new blocks may have come. -/
def KeptOut (lo hi : Nat) (w w' : World) : Prop := Below 0 w w' ∧ ∀ i, i < w.heap.size → (i < lo ∨ hi ≤ i) → w'.heap[i]? = w.heap[i]?
theorem KeptOut.of_grown {w w' : World} {row : Option Nat} {lo hi : Nat} (g : w.grownBy w' row) (h : ∀ k, row = some k → lo ≤ k ∧ k < hi) : KeptOut lo hi w w' :=
  ⟨⟨g.os, g.tape, g.output, g.size, fun i hi => absurd hi (Nat.not_lt_zero _)⟩, fun i hi ho => g.block i hi (fun e => by have := h i e.symm; omega)⟩
theorem KeptOut.of_ext {w w' : World} {lo hi : Nat} (e : Ext w w') : KeptOut lo hi w w' :=
  ⟨⟨e.os, e.tape, e.output, e.size, fun i hi => absurd hi (Nat.not_lt_zero _)⟩, fun i hi _ => e.block i hi⟩
theorem KeptOut.trans {a b c : World} {lo hi : Nat} (h : KeptOut lo hi a b) (k : KeptOut lo hi b c) : KeptOut lo hi a c :=
  ⟨⟨k.1.os.trans h.1.os, k.1.tape.trans h.1.tape, k.1.output.trans h.1.output, Nat.le_trans h.1.size k.1.size, fun i hi => absurd hi (Nat.not_lt_zero _)⟩, fun i hi ho => (k.2 i (Nat.lt_of_lt_of_le hi h.1.size) ho).trans (h.2 i hi ho)⟩
theorem KeptOut.mono {w w' : World} {lo hi lo' hi' : Nat} (h : KeptOut lo hi w w') (h1 : lo' ≤ lo) (h2 : hi ≤ hi') : KeptOut lo' hi' w w' :=
  ⟨h.1, fun i hi ho => h.2 i hi (by omega)⟩
theorem KeptOut.ext {a w w' : World} {lo hi : Nat} (k : KeptOut lo hi w w') (h : Ext a w) (ha : a.heap.size ≤ lo) : Ext a w' :=
  ⟨k.1.os.trans h.os, k.1.tape.trans h.tape, k.1.output.trans h.output, Nat.le_trans h.size k.1.size, fun i hi => (k.2 i (Nat.lt_of_lt_of_le hi h.size) (.inl (Nat.lt_of_lt_of_le hi ha))).trans (h.block i hi)⟩
theorem KeptOut.size {w w' : World} {lo hi : Nat} (k : KeptOut lo hi w w') : w.heap.size ≤ w'.heap.size := k.1.size
theorem KeptOut.own {w w' : World} {lo hi base : Nat} {e : TypeId} {m n : Nat} {v : Value} {L : List Value} (k : KeptOut lo hi w w') (h : w.ownsRow base e m v n L) (ha : ∀ g, v.ownBlock = some g → g < lo ∨ hi ≤ g) : w'.ownsRow base e m v n L := by
  rcases h.2 with ⟨rfl, hx⟩ | ⟨g, cap, cur, rfl, hbg, hg, r⟩
  · exact ⟨h.1, .inl ⟨rfl, hx⟩⟩
  · exact ⟨h.1, .inr ⟨g, cap, cur, rfl, hbg, (k.2 g (Array.getElem?_eq_some_iff.1 hg).1 (ha g rfl)).trans hg, r⟩⟩
theorem MOwn.out {w w' : World} {lo hi base : Nat} {v : MV} {m : GMuseum} (h : MOwn w base v m) (k : KeptOut lo hi w w') (hb : hi ≤ base) : MOwn w' base v m :=
  ⟨h.eH, h.ed, k.own h.od fun g hg => .inr (Nat.le_trans hb (h.od.lt g hg).1), k.own h.of_ fun g hg => .inr (Nat.le_trans hb (h.of_.lt g hg).1), k.own h.op fun g hg => .inr (Nat.le_trans hb (h.op.lt g hg).1),
    k.own h.og fun g hg => .inr (Nat.le_trans hb (h.og.lt g hg).1), k.own h.or_ fun g hg => .inr (Nat.le_trans hb (h.or_.lt g hg).1), h.ap⟩
/-- All rows of the museum's value lie in blocks from lo to below hi. -/
def MAt (lo hi : Nat) (v : MV) : Prop := At lo hi v.sd.v ∧ At lo hi v.sf.v ∧ At lo hi v.sp.v ∧ At lo hi v.sg.v ∧ At lo hi v.sr.v
theorem MAt.of_own {w : World} {base : Nat} {v : MV} {m : GMuseum} (h : MOwn w base v m) : MAt base w.heap.size v :=
  ⟨At.of_own h.od, At.of_own h.of_, At.of_own h.op, At.of_own h.og, At.of_own h.or_⟩
theorem MAt.mono {lo hi lo' hi' : Nat} {v : MV} (h : MAt lo hi v) (h1 : lo' ≤ lo) (h2 : hi ≤ hi') : MAt lo' hi' v :=
  ⟨h.1.mono h1 h2, h.2.1.mono h1 h2, h.2.2.1.mono h1 h2, h.2.2.2.1.mono h1 h2, h.2.2.2.2.mono h1 h2⟩
theorem MOwn.below {w w' : World} {lo hi base base' : Nat} {v : MV} {m : GMuseum} (h : MOwn w base v m) (k : KeptOut lo hi w w') (a : MAt base' lo v) : MOwn w' base v m :=
  ⟨h.eH, h.ed, k.own h.od fun g hg => .inl (a.1 g hg).2, k.own h.of_ fun g hg => .inl (a.2.1 g hg).2, k.own h.op fun g hg => .inl (a.2.2.1 g hg).2, k.own h.og fun g hg => .inl (a.2.2.2.1 g hg).2, k.own h.or_ fun g hg => .inl (a.2.2.2.2 g hg).2, h.ap⟩
theorem KeptOut.of_at {w w' : World} {lo hi : Nat} {v : Value} (g : w.grownBy w' v.ownBlock) (h : At lo hi v) : KeptOut lo hi w w' := .of_grown g fun k hk => h k hk
theorem aparts {d f p g r : Value} (h : List.Pairwise Apart [d, f, p, g, r]) : Apart d f ∧ Apart d p ∧ Apart d g ∧ Apart d r ∧ Apart f p ∧ Apart f g ∧ Apart f r ∧ Apart p g ∧ Apart p r ∧ Apart g r := by
  simp only [List.pairwise_cons, List.mem_cons, List.not_mem_nil, or_false] at h
  obtain ⟨h1, h2, h3, h4, -⟩ := h
  exact ⟨h1 _ (.inl rfl), h1 _ (.inr (.inl rfl)), h1 _ (.inr (.inr (.inl rfl))), h1 _ (.inr (.inr (.inr rfl))), h2 _ (.inl rfl), h2 _ (.inr (.inl rfl)), h2 _ (.inr (.inr rfl)), h3 _ (.inl rfl), h3 _ (.inr rfl), h4 _ rfl⟩
theorem MBox.out {w w' : World} {lo hi b : Nat} {v : MV} (h : MBox w b v) (k : KeptOut lo hi w w') (hb : b < lo ∨ hi ≤ b) : MBox w' b v := by
  have e : w'.heap[b]? = w.heap[b]? := k.2 b h.lt hb
  have c : ∀ o, w'.cell? ⟨b, o, none⟩ = w.cell? ⟨b, o, none⟩ := fun o => by simp only [World.cell?, e]
  exact ⟨Nat.lt_of_lt_of_le h.lt k.size, (c 0).trans h.c0, (c 1).trans h.c1, (c 2).trans h.c2, (c 3).trans h.c3, (c 4).trans h.c4, (c 5).trans h.c5, (c 6).trans h.c6⟩
/-- A museum is stored into a box. -/
theorem store7 {w : World} {g : Nat} {t : TypeId} {a0 a1 a2 a3 a4 a5 a6 : Value} (h : Blk w g t #[a0, a1, a2, a3, a4, a5, a6]) (u0 u1 u2 u3 u4 u5 u6 : Value) :
    Blk (((((((w.setCell ⟨g, 0, none⟩ u0).setCell ⟨g, 1, none⟩ u1).setCell ⟨g, 2, none⟩ u2).setCell ⟨g, 3, none⟩ u3).setCell ⟨g, 4, none⟩ u4).setCell ⟨g, 5, none⟩ u5).setCell ⟨g, 6, none⟩ u6) g t #[u0, u1, u2, u3, u4, u5, u6] ∧
    KeptOut g (g + 1) w (((((((w.setCell ⟨g, 0, none⟩ u0).setCell ⟨g, 1, none⟩ u1).setCell ⟨g, 2, none⟩ u2).setCell ⟨g, 3, none⟩ u3).setCell ⟨g, 4, none⟩ u4).setCell ⟨g, 5, none⟩ u5).setCell ⟨g, 6, none⟩ u6) := by
  have h1 := ((((((h.set 0 u0).set 1 u1).set 2 u2).set 3 u3).set 4 u4).set 5 u5).set 6 u6
  simp only [List.setIfInBounds_toArray, List.set_cons_succ, List.set_cons_zero] at h1
  have g1 := grown_set (grown_set (grown_set (grown_set (grown_set (grown_set (grown_set (grown_refl w (some g)) 0 u0) 1 u1) 2 u2) 3 u3) 4 u4) 5 u5) 6 u6
  exact ⟨h1, .of_grown g1 fun k hk => by injection hk with hk; omega⟩
theorem MBox.of_blk {w : World} {b : Nat} {v : MV} {t : TypeId} (h : Blk w b t v.cells) : MBox w b v :=
  ⟨h.lt, h.cellAt (i := 0) (by simp [MV.cells]), h.cellAt (i := 1) (by simp [MV.cells]), h.cellAt (i := 2) (by simp [MV.cells]), h.cellAt (i := 3) (by simp [MV.cells]), h.cellAt (i := 4) (by simp [MV.cells]), h.cellAt (i := 5) (by simp [MV.cells]), h.cellAt (i := 6) (by simp [MV.cells])⟩
end Go.Proofs.YtfhibjehnoibeaaDoor
/- A text of lemmas for the laws of this seat; what each says stands at its theorem; no condition. -/
namespace Go.Proofs.YtfhibjehnoibeaaDoor
set_option linter.unusedSimpArgs false
set_option linter.unusedVariables false
open Go.RowKit
/-! Contracts of the functions on plain structs. -/
set_option maxRecDepth 100000 in
set_option maxHeartbeats 400000 in
theorem impl_between (n lo hi : Int) (w : World) :
    Calls Tryd.prog 34 #[.int .i64 n, .int .i64 lo, .int .i64 hi] w fun e w' => e = .returned (.bool (inB n lo hi)) ∧ w = w' := by
  go_enter Tryd.func34, Tryd.ntmps34
  go_wp2
  all_goals go_ret
  all_goals exact ⟨ret_bool (by simp [inB]; omega), rfl⟩
set_option maxRecDepth 100000 in
set_option maxHeartbeats 400000 in
theorem spec_l01In (n lo hi : Int) (w : World) :
    Calls Tryd.prog 72 #[.int .i64 n, .int .i64 lo, .int .i64 hi] w fun e w' => e = .returned (.bool (inB n lo hi)) ∧ w = w' := by
  go_enter Tryd.func72, Tryd.ntmps72
  go_wp2
  all_goals go_ret
  all_goals exact ⟨ret_bool (by simp [inB]; omega), rfl⟩
def shOk (s : GShift) : Bool := inB s.g 0 20 && inB s.f 0 10000 && inB s.t 0 10000 && decide (s.f < s.t)
def loOk (s : GLoan) : Bool := inB s.l 0 1000 && inB s.g 0 1000 && inB s.lo 0 100 && inB s.hi 0 100 && decide (s.lo ≤ s.hi)
def acOk (s : GAct) : Bool :=
  if s.k == 1 then inB s.a 0 5 && inB s.b 0 6 && s.c == 0 && s.d == 0 else if s.k == 2 then inB s.a 0 5 && inB s.b 0 6 && inB s.c 0 5 && inB s.d 0 5
  else if s.k == 3 then inB s.a 1 1000 && s.b == 0 && s.c == 0 && s.d == 0 else if s.k == 5 then inB s.a 0 5 && s.b == 0 && s.c == 0 && s.d == 0
  else if s.k == 4 then s.a == 0 && s.b == 0 && s.c == 0 && s.d == 0 else false
set_option maxRecDepth 100000 in
set_option maxHeartbeats 1000000 in
theorem impl_ActOk (s : GAct) (w : World) :
    Calls Tryd.prog 23 #[.agg #[.int .i64 s.k, .int .i64 s.a, .int .i64 s.b, .int .i64 s.c, .int .i64 s.d]] w fun e w' => e = .returned (.bool (acOk s)) ∧ Ext w w' := by
  go_enter Tryd.func23, Tryd.ntmps23
  go_wp2
  all_goals go_ret
  all_goals refine ⟨ret_bool ?_, ?_⟩
  all_goals first | ((repeat (first | exact Ext.refl _ | assumption | refine Ext.alloc ?_ _ | refine Ext.drew ?_ | refine Ext.drewN ?_ _ | refine Ext.setCell ?_ (by first | (simp; done) | (simp; omega)) _ | refine Ext.trans ?_ (by assumption))); done) | (go_light; first | (simp_all [acOk, inB]; done) | (simp_all [acOk, inB]; omega) | (simp [acOk, inB]; omega))
end Go.Proofs.YtfhibjehnoibeaaDoor
/- Contracts of DigestOf, SealAfter, FirstBroken and IsSealed; no condition but what stands at each theorem. -/
namespace Go.Proofs.YtfhibjehnoibeaaDoor
set_option linter.unusedSimpArgs false
set_option linter.unusedVariables false
open Go.RowKit Go.Sort
def digS (n : Nat) (b : UInt8) : Nat := (n * 257 + b.toNat + 1) % 1000003
def digL (l : List UInt8) : Nat := l.foldl digS 7
def digest (x : ByteArray) : Int := if x.size ≤ 200 then (digL x.data.toList : Int) else -1
theorem digS_lt (n : Nat) (b : UInt8) : digS n b < 1000003 := Nat.mod_lt _ (by decide)
theorem digL_lt (l : List UInt8) : digL l < 1000003 := by
  unfold digL
  have key : ∀ (l : List UInt8) (n : Nat), n < 1000003 → l.foldl digS n < 1000003 := by
    intro l
    induction l with
    | nil => intro n h; exact h
    | cons b l ih => intro n _; exact ih _ (digS_lt n b)
  exact key l 7 (by decide)
theorem digest_bd (x : ByteArray) : -1 ≤ digest x ∧ digest x ≤ 1000002 := by
  unfold digest
  have := digL_lt x.data.toList
  split <;> omega
theorem bytes_at (s : ByteArray) (k : Nat) (h : k < s.size) : s.data.toList[k]? = some s[k] := by
  have : k < s.data.toList.length := by simpa using h
  rw [List.getElem?_eq_getElem this]
  rfl
def sealB (s m : Int) (x : ByteArray) : Int := if inB s 0 1000002 && (inB m 0 1000000 && decide (0 ≤ digest x)) then (s * 1009 + m * 31 + digest x) % 1000003 else -1
theorem sealB_bd (s m : Int) (x : ByteArray) : -1 ≤ sealB s m x ∧ sealB s m x ≤ 1000002 := by
  unfold sealB
  split <;> omega
def early (p : Option Int) (m : Int) : Bool := match p with | none => false | some q => decide (m < q)
def brokF : Int → Option Int → Nat → List GEntry → Int
  | _, _, _, [] => -1
  | s, p, k, e :: r => if decide (sealB s e.m e.x < 0) || ((sealB s e.m e.x != e.s) || early p e.m) then (k : Int) else brokF e.s (some e.m) (k + 1) r
def brokenI (rs : List GEntry) : Int := brokF 1 none 0 rs
theorem brokF_bd : ∀ (rs : List GEntry) (s : Int) (p : Option Int) (k : Nat), -1 ≤ brokF s p k rs ∧ brokF s p k rs < (k : Int) + rs.length
  | [], s, p, k => by simp [brokF]; omega
  | e :: r, s, p, k => by
    unfold brokF
    split
    · simp; omega
    · have := brokF_bd r e.s (some e.m) (k + 1)
      simp
      omega
def sealedB (rs : List GEntry) : Bool := decide (rs.length ≤ 30) && (brokenI rs == -1)
def prevM (rs : List GEntry) : Nat → Option Int
  | 0 => none
  | k + 1 => (rs[k]?).map (·.m)
theorem box3 (w : World) (a b c : Value) (t : TypeId) (wb : World) (hwb : wb = w.alloc (.cells #[a, b, c] t)) :
    Ext w wb ∧ wb.heap.size = w.heap.size + 1 ∧ wb.cell? ⟨w.heap.size, 0, none⟩ = some a ∧ wb.cell? ⟨w.heap.size, 1, none⟩ = some b ∧ wb.cell? ⟨w.heap.size, 2, none⟩ = some c := by
  subst hwb
  refine ⟨(Ext.refl w).alloc _, by simp, ?_, ?_, ?_⟩
  all_goals rw [World.cell?_alloc_new]; rfl
set_option maxRecDepth 100000 in
set_option maxHeartbeats 1000000 in
theorem spec_DigestOf (x : ByteArray) (w : World) (hx : x.size ≤ 9223372036854775807) : Calls Tryd.prog 117 #[.string x] w fun e w' => e = .returned (.int .i64 (digest x)) ∧ w = w' := by
  by_cases h2 : x.size ≤ 200
  case neg =>
    have HF : Hid (digest x = -1) := by unfold Hid digest; rw [if_neg h2]
    go_enter Tryd.func117, Tryd.ntmps117
    go_wp2
    go_ret
    exact ⟨ret_int (by rw [HF.out]), rfl⟩
  case pos =>
    have HF : Hid (digest x = (x.data.toList.foldl digS 7 : Nat)) := by unfold Hid digest; rw [if_pos h2]; rfl
    go_enter Tryd.func117, Tryd.ntmps117
    go_wp2
    go_loop [3, 4] (fun n i => ∃ k N : Nat, k ≤ x.size ∧ i = .int .i64 k ∧ n = .int .i64 (N : Int) ∧ N < 1000003 ∧ Hid (x.data.toList.foldl digS 7 = (x.data.toList.drop k).foldl digS N)) (fun _ i => x.size - (intOf i).toNat)
    case atStart => exact ⟨0, 7, Nat.zero_le _, rfl, rfl, by decide, rfl⟩
    case round =>
      obtain ⟨k, N, hk, rfl, rfl, hN, hz⟩ := hrel
      by_cases hlt : k < x.size
      · have HZ : Hid (x.data.toList.foldl digS 7 = (x.data.toList.drop (k + 1)).foldl digS (digS N x[k])) := by
          unfold Hid; rw [hz.out, drop_cons (bytes_at x k hlt)]; rfl
        have hb := x[k].toNat_lt
        have hl := digS_lt N x[k]
        go_wp2
        go_round
        case rel => exact ⟨k + 1, digS N x[k], by omega, by go_num, by (unfold digS; first | rfl | (push_cast; rfl)), hl, HZ⟩
        case measure => simp [intOf]; omega
      · obtain rfl : k = x.size := by omega
        have hd : x.data.toList.foldl digS 7 = N := by rw [hz.out, drop_nil (by simp)]; rfl
        go_wp2
        go_ret
        exact ⟨ret_int (by rw [HF.out, hd]), rfl⟩
set_option maxRecDepth 100000 in
set_option maxHeartbeats 1000000 in
theorem spec_SealAfter (s m : Int) (x : ByteArray) (w : World) (hx : x.size ≤ 9223372036854775807) : Calls Tryd.prog 98 #[.int .i64 s, .int .i64 m, .string x] w fun e w' => e = .returned (.int .i64 (sealB s m x)) ∧ w = w' := by
  obtain ⟨d, hd⟩ : ∃ d, d = digest x := ⟨_, rfl⟩
  have hbd := digest_bd x
  have cD := Lib.hid (spec_DigestOf x w hx)
  have HS : Hid (sealB s m x = if inB s 0 1000002 && (inB m 0 1000000 && decide (0 ≤ d)) then (s * 1009 + m * 31 + d) % 1000003 else -1) := by unfold Hid sealB; rw [hd]
  rw [← hd] at hbd cD
  clear hd
  have c1 := Lib.hid (fun w => spec_l01In s 0 1000002 w)
  have c2 := Lib.hid (fun w => spec_l01In m 0 1000000 w)
  cases h1 : inB s 0 1000002
  case false =>
    rw [h1] at HS c1
    clear h1
    go_enter Tryd.func98, Tryd.ntmps98
    go_wp2_with (first | (go_at_call 117; refine cD.out.mono ?_; rintro e w1 ⟨rfl, rfl⟩) | (go_at_call 72; with_reducible refine (c1.out _).mono ?_; rintro e w1 ⟨rfl, rfl⟩))
    go_ret
    exact ⟨ret_int (by rw [HS.out]; rfl), rfl⟩
  have hs0 : 0 ≤ s ∧ s ≤ 1000002 := by simpa [inB] using h1
  cases h2 : inB m 0 1000000
  case false =>
    rw [h1] at HS c1
    rw [h2] at HS c2
    clear h1 h2
    go_enter Tryd.func98, Tryd.ntmps98
    go_wp2_with (first | (go_at_call 117; refine cD.out.mono ?_; rintro e w1 ⟨rfl, rfl⟩) | (go_at_call 72; with_reducible refine (c1.out _).mono ?_; rintro e w1 ⟨rfl, rfl⟩) | (go_at_call 72; with_reducible refine (c2.out _).mono ?_; rintro e w1 ⟨rfl, rfl⟩))
    go_ret
    exact ⟨ret_int (by rw [HS.out]; rfl), rfl⟩
  have hm0 : 0 ≤ m ∧ m ≤ 1000000 := by simpa [inB] using h2
  rw [h1] at HS c1
  rw [h2] at HS c2
  clear h1 h2
  obtain ⟨t, ht⟩ : ∃ t, t = decide (0 ≤ d) := ⟨_, rfl⟩
  rw [← ht] at HS
  cases t
  all_goals
    first | (have h3 : d < 0 := by simpa using ht.symm) | (have h3 : 0 ≤ d := by simpa using ht.symm)
    clear ht
    obtain ⟨s0, s1⟩ := hs0
    obtain ⟨m0, m1⟩ := hm0
    obtain ⟨d0, d1⟩ := hbd
    go_enter Tryd.func98, Tryd.ntmps98
    go_wp2_with (first | (go_at_call 117; refine cD.out.mono ?_; rintro e w1 ⟨rfl, rfl⟩) | (go_at_call 72; with_reducible refine (c1.out _).mono ?_; rintro e w1 ⟨rfl, rfl⟩) | (go_at_call 72; with_reducible refine (c2.out _).mono ?_; rintro e w1 ⟨rfl, rfl⟩))
    go_ret
    exact ⟨ret_int (by rw [HS.out]; rfl), rfl⟩
set_option maxRecDepth 100000 in
set_option maxHeartbeats 4000000 in
theorem spec_FirstBroken (A : Option Addr) (n c : Nat) (rs : List GEntry) (w : World) (hx : Rd w 3 A n (rs.flatMap GEntry.enc)) :
    Calls Tryd.prog 116 #[.slice A n c] w fun e w' => e = .returned (.int .i64 (brokenI rs)) ∧ Ext w w' := by
  have hn := hx.2.1
  have hl := Lib.hid (hx.len GEntry.len (by omega))
  have HX := Lib.hid hx
  clear hx
  go_enter Tryd.func116, Tryd.ntmps116
  go_wp2_with fail
  go_loopw [3, 4] (fun s i wr => ∃ (k : Nat) (z : Int), k ≤ n ∧ i = .int .i64 k ∧ s = .int .i64 z ∧ Hid (brokenI rs = brokF z (prevM rs k) k (rs.drop k)) ∧ Ext w wr) (fun _ i _ => n - (intOf i).toNat)
  case atStart => exact ⟨0, 1, Nat.zero_le _, rfl, rfl, rfl, Ext.refl _⟩
  case round =>
    obtain ⟨k, z, hk, rfl, rfl, hz, hb⟩ := hrel
    by_cases hlt : k < n
    case neg =>
      obtain rfl : k = n := by omega
      go_wp2_with fail
      go_ret
      exact ⟨ret_int (by rw [hz.out, drop_nil (by rw [hl.out]; omega)]; rfl), hb⟩
    obtain ⟨b, off, x, rfl, hbs, hxk, p0, p1, p2⟩ := GEntry.at_ (HX.out.keep hb) hlt
    have HD := Lib.hid (drop_cons hxk)
    have HP : Hid (prevM rs (k + 1) = some x.m) := by unfold Hid; show (rs[k]?).map (·.m) = some x.m; rw [hxk]; rfl
    obtain ⟨y, hy⟩ : ∃ y, y = sealB z x.m x.x := ⟨_, rfl⟩
    have cS := Lib.hid (fun w => spec_SealAfter z x.m x.x w x.h)
    rw [← hy] at cS
    have HF : Hid (∀ t, (decide (y < 0) || ((y != x.s) || early (prevM rs k) x.m)) = t → brokenI rs = if t then (k : Int) else brokF x.s (some x.m) (k + 1) (rs.drop (k + 1))) := by
      unfold Hid; intro t ht; rw [hz.out, HD.out, brokF, ← hy, ht]
    obtain ⟨wd, hwd⟩ : ∃ wd, wd = wr.alloc (.cells #[.int .i64 x.m, .string x.x, .int .i64 x.s] 58) := ⟨_, rfl⟩
    obtain ⟨hEd, hsd, q0, q1, q2⟩ := box3 wr _ _ _ _ wd hwd
    have HBd := Lib.hid (hb.trans hEd)
    have Hwd := Lib.hid hwd
    clear hwd hy
    have i0 : (0 : Int) ≤ (k : Int) := by omega
    by_cases c1 : y < 0
    case pos =>
      have HT := Lib.hid (HF.out true (by simp [c1]))
      have d1 : decide (y < 0) = true := by simpa using c1
      clear hb hxk hEd
      go_wp2_with fail
      rw [← Hwd.out]
      refine (cS.out _).mono ?_
      rintro e w3 ⟨rfl, rfl⟩
      go_wp2_with fail
      go_quiet (fail)
      go_wp2_with fail
      go_ret
      exact ⟨ret_int (by rw [HT.out]; rfl), HBd.out.drewN _⟩
    have d1 : decide (y < 0) = false := by simpa using c1
    cases c2 : (y != x.s)
    case true =>
      have HT := Lib.hid (HF.out true (by simp [c2]))
      clear hb hxk hEd
      go_wp2_with fail
      rw [← Hwd.out]
      refine (cS.out _).mono ?_
      rintro e w3 ⟨rfl, rfl⟩
      go_wp2_with fail
      go_quiet (fail)
      go_wp2_with fail
      go_ret
      exact ⟨ret_int (by rw [HT.out]; rfl), HBd.out.drewN _⟩
    case false =>
    have HC2 := Lib.hid c2
    by_cases hk0 : k = 0
    case pos =>
      subst hk0
      simp only [Nat.zero_mul, Nat.add_zero] at p0 p1 p2
      have HT := Lib.hid (HF.out false (by simp [d1, c2, prevM, early]))
      clear hb hxk hEd
      go_wp2_with fail
      rw [← Hwd.out]
      refine (cS.out _).mono ?_
      rintro e w3 ⟨rfl, rfl⟩
      go_wp2_with fail
      go_quiet (fail)
      go_wp2_with fail
      go_roundw
      case rel => exact ⟨1, x.s, by omega, by first | rfl | go_num, rfl, by unfold Hid; rw [HT.out, HP.out]; rfl, HBd.out.drewN _⟩
      case measure => simp [intOf]; omega
    obtain ⟨b', off', x', hA, hbs', hxk', p0', -, -⟩ := GEntry.at_ (HX.out.keep hb) (show k - 1 < n by omega)
    injection hA with hA
    injection hA with hA1 hA2
    subst hA1 hA2
    have hpr : prevM rs k = some x'.m := by
      obtain ⟨j, rfl⟩ : ∃ j, k = j + 1 := ⟨k - 1, by omega⟩
      rw [Nat.add_sub_cancel] at hxk'
      show (rs[j]?).map (·.m) = some x'.m
      rw [hxk']; rfl
    have dk : decide ((0 : Int) < (k : Int)) = true := by simp; omega
    have dkn : decide (0 < k) = true := by simp; omega
    have ew : IntKind.i64.wrap ((k : Int) - 1) = (k : Int) - 1 := IntWalk.i64_in _ (by omega)
    have i1 : (0 : Int) ≤ (k : Int) - 1 := by omega
    have i4 : (1 : Int) ≤ (k : Int) := by omega
    have i2 : (k : Int) - 1 < (n : Int) := by omega
    have i3 : ((k : Int) - 1).toNat = k - 1 := by omega
    have q3 := (hEd.cellAt b (by omega) _).trans p0'
    cases c3 : decide (x.m < x'.m)
    case true =>
      have HT := Lib.hid (HF.out true (by simp [d1, c2, hpr, early, c3]))
      have c3' : x.m < x'.m := by simpa using c3
      clear hb hxk hEd hxk' hpr
      go_wp2_with fail
      rw [← Hwd.out]
      refine (cS.out _).mono ?_
      rintro e w3 ⟨rfl, rfl⟩
      go_wp2_with fail
      go_quiet (fail)
      go_wp2_with fail
      go_ret
      exact ⟨ret_int (by rw [HT.out]; rfl), HBd.out.drewN _⟩
    case false =>
      have HT := Lib.hid (HF.out false (by simp [d1, c2, hpr, early, c3]))
      clear hb hxk hEd hxk' hpr
      go_wp2_with fail
      rw [← Hwd.out]
      refine (cS.out _).mono ?_
      rintro e w3 ⟨rfl, rfl⟩
      go_wp2_with fail
      go_quiet (fail)
      clear ew i3
      go_wp2_with fail
      go_roundw
      case rel => exact ⟨k + 1, x.s, by omega, by go_num, rfl, by unfold Hid; rw [HT.out, HP.out]; rfl, HBd.out.drewN _⟩
      case measure => simp [intOf]; omega
set_option maxRecDepth 100000 in
set_option maxHeartbeats 1000000 in
theorem spec_IsSealed (A : Option Addr) (n c : Nat) (rs : List GEntry) (w : World) (hx : Rd w 3 A n (rs.flatMap GEntry.enc)) :
    Calls Tryd.prog 96 #[.slice A n c] w fun e w' => e = .returned (.bool (sealedB rs)) ∧ Ext w w' := by
  have hn := hx.2.1
  have hl := Lib.hid (hx.len GEntry.len (by omega))
  have HS : Hid (sealedB rs = (decide (n ≤ 30) && (brokenI rs == -1))) := by unfold Hid sealedB; rw [hl.out]
  have cB := Lib.hid (spec_FirstBroken A n c rs w hx)
  have hbd := brokF_bd rs 1 none 0
  obtain ⟨z, hz⟩ : ∃ z, z = brokenI rs := ⟨_, rfl⟩
  have hz1 : -1 ≤ z := by rw [hz]; exact hbd.1
  rw [← hz] at HS cB
  clear hz hbd hx
  by_cases h3 : n ≤ 30
  case neg =>
    go_enter Tryd.func96, Tryd.ntmps96
    go_wp2_with fail
    go_ret
    exact ⟨ret_bool (by rw [HS.out]; simp [h3]), Ext.refl _⟩
  case pos =>
    by_cases hzz : z = -1
    · have e1 : (z == -1) = true := by simpa using hzz
      have e2 : z < 0 := by omega
      clear hzz
      go_enter Tryd.func96, Tryd.ntmps96
      go_wp2_with fail
      refine cB.out.mono ?_
      rintro e w1 ⟨rfl, he1⟩
      have HE1 := Lib.hid he1
      clear he1
      go_wp2_with fail
      go_ret
      exact ⟨ret_bool (by rw [HS.out, e1]; simp [h3, e2]), HE1.out⟩
    · have e1 : (z == -1) = false := by simpa using hzz
      have e2 : ¬ z < 0 := by omega
      clear hzz
      go_enter Tryd.func96, Tryd.ntmps96
      go_wp2_with fail
      refine cB.out.mono ?_
      rintro e w1 ⟨rfl, he1⟩
      have HE1 := Lib.hid he1
      clear he1
      go_wp2_with fail
      go_ret
      exact ⟨ret_bool (by rw [HS.out, e1]; simp [e2]), HE1.out⟩
set_option maxRecDepth 100000 in
set_option maxHeartbeats 1000000 in
theorem impl_DigestOf (x : ByteArray) (w : World) (hx : x.size ≤ 9223372036854775807) : Calls Tryd.prog 110 #[.string x] w fun e w' => e = .returned (.int .i64 (digest x)) ∧ w = w' := by
  by_cases h2 : x.size ≤ 200
  case neg =>
    have HF : Hid (digest x = -1) := by unfold Hid digest; rw [if_neg h2]
    go_enter Tryd.func110, Tryd.ntmps110
    go_wp2
    go_ret
    exact ⟨ret_int (by rw [HF.out]), rfl⟩
  case pos =>
    have HF : Hid (digest x = (x.data.toList.foldl digS 7 : Nat)) := by unfold Hid digest; rw [if_pos h2]; rfl
    go_enter Tryd.func110, Tryd.ntmps110
    go_wp2
    go_loop [3, 4] (fun n i => ∃ k N : Nat, k ≤ x.size ∧ i = .int .i64 k ∧ n = .int .i64 (N : Int) ∧ N < 1000003 ∧ Hid (x.data.toList.foldl digS 7 = (x.data.toList.drop k).foldl digS N)) (fun _ i => x.size - (intOf i).toNat)
    case atStart => exact ⟨0, 7, Nat.zero_le _, rfl, rfl, by decide, rfl⟩
    case round =>
      obtain ⟨k, N, hk, rfl, rfl, hN, hz⟩ := hrel
      by_cases hlt : k < x.size
      · have HZ : Hid (x.data.toList.foldl digS 7 = (x.data.toList.drop (k + 1)).foldl digS (digS N x[k])) := by
          unfold Hid; rw [hz.out, drop_cons (bytes_at x k hlt)]; rfl
        have hb := x[k].toNat_lt
        have hl := digS_lt N x[k]
        go_wp2
        go_round
        case rel => exact ⟨k + 1, digS N x[k], by omega, by go_num, by (unfold digS; first | rfl | (push_cast; rfl)), hl, HZ⟩
        case measure => simp [intOf]; omega
      · obtain rfl : k = x.size := by omega
        have hd : x.data.toList.foldl digS 7 = N := by rw [hz.out, drop_nil (by simp)]; rfl
        go_wp2
        go_ret
        exact ⟨ret_int (by rw [HF.out, hd]), rfl⟩
set_option maxRecDepth 100000 in
set_option maxHeartbeats 1000000 in
theorem impl_SealAfter (s m : Int) (x : ByteArray) (w : World) (hx : x.size ≤ 9223372036854775807) : Calls Tryd.prog 87 #[.int .i64 s, .int .i64 m, .string x] w fun e w' => e = .returned (.int .i64 (sealB s m x)) ∧ w = w' := by
  obtain ⟨d, hd⟩ : ∃ d, d = digest x := ⟨_, rfl⟩
  have hbd := digest_bd x
  have cD := Lib.hid (impl_DigestOf x w hx)
  have HS : Hid (sealB s m x = if inB s 0 1000002 && (inB m 0 1000000 && decide (0 ≤ d)) then (s * 1009 + m * 31 + d) % 1000003 else -1) := by unfold Hid sealB; rw [hd]
  rw [← hd] at hbd cD
  clear hd
  have c1 := Lib.hid (fun w => impl_between s 0 1000002 w)
  have c2 := Lib.hid (fun w => impl_between m 0 1000000 w)
  cases h1 : inB s 0 1000002
  case false =>
    rw [h1] at HS c1
    clear h1
    go_enter Tryd.func87, Tryd.ntmps87
    go_wp2_with (first | (go_at_call 110; refine cD.out.mono ?_; rintro e w1 ⟨rfl, rfl⟩) | (go_at_call 34; with_reducible refine (c1.out _).mono ?_; rintro e w1 ⟨rfl, rfl⟩))
    go_ret
    exact ⟨ret_int (by rw [HS.out]; rfl), rfl⟩
  have hs0 : 0 ≤ s ∧ s ≤ 1000002 := by simpa [inB] using h1
  cases h2 : inB m 0 1000000
  case false =>
    rw [h1] at HS c1
    rw [h2] at HS c2
    clear h1 h2
    go_enter Tryd.func87, Tryd.ntmps87
    go_wp2_with (first | (go_at_call 110; refine cD.out.mono ?_; rintro e w1 ⟨rfl, rfl⟩) | (go_at_call 34; with_reducible refine (c1.out _).mono ?_; rintro e w1 ⟨rfl, rfl⟩) | (go_at_call 34; with_reducible refine (c2.out _).mono ?_; rintro e w1 ⟨rfl, rfl⟩))
    go_ret
    exact ⟨ret_int (by rw [HS.out]; rfl), rfl⟩
  have hm0 : 0 ≤ m ∧ m ≤ 1000000 := by simpa [inB] using h2
  rw [h1] at HS c1
  rw [h2] at HS c2
  clear h1 h2
  obtain ⟨t, ht⟩ : ∃ t, t = decide (0 ≤ d) := ⟨_, rfl⟩
  rw [← ht] at HS
  cases t
  all_goals
    first | (have h3 : d < 0 := by simpa using ht.symm) | (have h3 : 0 ≤ d := by simpa using ht.symm)
    clear ht
    obtain ⟨s0, s1⟩ := hs0
    obtain ⟨m0, m1⟩ := hm0
    obtain ⟨d0, d1⟩ := hbd
    go_enter Tryd.func87, Tryd.ntmps87
    go_wp2_with (first | (go_at_call 110; refine cD.out.mono ?_; rintro e w1 ⟨rfl, rfl⟩) | (go_at_call 34; with_reducible refine (c1.out _).mono ?_; rintro e w1 ⟨rfl, rfl⟩) | (go_at_call 34; with_reducible refine (c2.out _).mono ?_; rintro e w1 ⟨rfl, rfl⟩))
    go_ret
    exact ⟨ret_int (by rw [HS.out]; rfl), rfl⟩
set_option maxRecDepth 100000 in
set_option maxHeartbeats 4000000 in
theorem impl_FirstBroken (A : Option Addr) (n c : Nat) (rs : List GEntry) (w : World) (hx : Rd w 3 A n (rs.flatMap GEntry.enc)) :
    Calls Tryd.prog 68 #[.slice A n c] w fun e w' => e = .returned (.int .i64 (brokenI rs)) ∧ Ext w w' := by
  have hn := hx.2.1
  have hl := Lib.hid (hx.len GEntry.len (by omega))
  have HX := Lib.hid hx
  clear hx
  go_enter Tryd.func68, Tryd.ntmps68
  go_wp2_with fail
  go_loopw [3, 9] (fun s i wr => ∃ (k : Nat) (z : Int), k ≤ n ∧ i = .int .i64 k ∧ s = .int .i64 z ∧ Hid (brokenI rs = brokF z (prevM rs k) k (rs.drop k)) ∧ Ext w wr) (fun _ i _ => n - (intOf i).toNat)
  case atStart => exact ⟨0, 1, Nat.zero_le _, rfl, rfl, rfl, Ext.refl _⟩
  case round =>
    obtain ⟨k, z, hk, rfl, rfl, hz, hb⟩ := hrel
    by_cases hlt : k < n
    case neg =>
      obtain rfl : k = n := by omega
      go_wp2_with fail
      go_ret
      exact ⟨ret_int (by rw [hz.out, drop_nil (by rw [hl.out]; omega)]; rfl), hb⟩
    obtain ⟨b, off, x, rfl, hbs, hxk, p0, p1, p2⟩ := GEntry.at_ (HX.out.keep hb) hlt
    have HD := Lib.hid (drop_cons hxk)
    have HP : Hid (prevM rs (k + 1) = some x.m) := by unfold Hid; show (rs[k]?).map (·.m) = some x.m; rw [hxk]; rfl
    obtain ⟨y, hy⟩ : ∃ y, y = sealB z x.m x.x := ⟨_, rfl⟩
    have cS := Lib.hid (fun w => impl_SealAfter z x.m x.x w x.h)
    rw [← hy] at cS
    have HF : Hid (∀ t, (decide (y < 0) || ((y != x.s) || early (prevM rs k) x.m)) = t → brokenI rs = if t then (k : Int) else brokF x.s (some x.m) (k + 1) (rs.drop (k + 1))) := by
      unfold Hid; intro t ht; rw [hz.out, HD.out, brokF, ← hy, ht]
    obtain ⟨wd, hwd⟩ : ∃ wd, wd = wr.alloc (.cells #[.int .i64 x.m, .string x.x, .int .i64 x.s] 58) := ⟨_, rfl⟩
    obtain ⟨hEd, hsd, q0, q1, q2⟩ := box3 wr _ _ _ _ wd hwd
    have HBd := Lib.hid (hb.trans hEd)
    have Hwd := Lib.hid hwd
    clear hwd hy
    have i0 : (0 : Int) ≤ (k : Int) := by omega
    by_cases c1 : y < 0
    case pos =>
      have HT := Lib.hid (HF.out true (by simp [c1]))
      have d1 : decide (y < 0) = true := by simpa using c1
      clear hb hxk hEd
      go_wp2_with fail
      rw [← Hwd.out]
      refine (cS.out _).mono ?_
      rintro e w3 ⟨rfl, rfl⟩
      go_wp2_with fail
      go_quiet (fail)
      go_wp2_with fail
      go_ret
      exact ⟨ret_int (by rw [HT.out]; rfl), HBd.out.drewN _⟩
    have d1 : decide (y < 0) = false := by simpa using c1
    cases c2 : (y != x.s)
    case true =>
      have HT := Lib.hid (HF.out true (by simp [c2]))
      clear hb hxk hEd
      go_wp2_with fail
      rw [← Hwd.out]
      refine (cS.out _).mono ?_
      rintro e w3 ⟨rfl, rfl⟩
      go_wp2_with fail
      go_quiet (fail)
      go_wp2_with fail
      go_ret
      exact ⟨ret_int (by rw [HT.out]; rfl), HBd.out.drewN _⟩
    case false =>
    have HC2 := Lib.hid c2
    by_cases hk0 : k = 0
    case pos =>
      subst hk0
      simp only [Nat.zero_mul, Nat.add_zero] at p0 p1 p2
      have HT := Lib.hid (HF.out false (by simp [d1, c2, prevM, early]))
      clear hb hxk hEd
      go_wp2_with fail
      rw [← Hwd.out]
      refine (cS.out _).mono ?_
      rintro e w3 ⟨rfl, rfl⟩
      go_wp2_with fail
      go_quiet (fail)
      go_wp2_with fail
      go_roundw
      case rel => exact ⟨1, x.s, by omega, by first | rfl | go_num, rfl, by unfold Hid; rw [HT.out, HP.out]; rfl, HBd.out.drewN _⟩
      case measure => simp [intOf]; omega
    obtain ⟨b', off', x', hA, hbs', hxk', p0', -, -⟩ := GEntry.at_ (HX.out.keep hb) (show k - 1 < n by omega)
    injection hA with hA
    injection hA with hA1 hA2
    subst hA1 hA2
    have hpr : prevM rs k = some x'.m := by
      obtain ⟨j, rfl⟩ : ∃ j, k = j + 1 := ⟨k - 1, by omega⟩
      rw [Nat.add_sub_cancel] at hxk'
      show (rs[j]?).map (·.m) = some x'.m
      rw [hxk']; rfl
    have dk : decide ((0 : Int) < (k : Int)) = true := by simp; omega
    have dkn : decide (0 < k) = true := by simp; omega
    have ew : IntKind.i64.wrap ((k : Int) - 1) = (k : Int) - 1 := IntWalk.i64_in _ (by omega)
    have i1 : (0 : Int) ≤ (k : Int) - 1 := by omega
    have i4 : (1 : Int) ≤ (k : Int) := by omega
    have i2 : (k : Int) - 1 < (n : Int) := by omega
    have i3 : ((k : Int) - 1).toNat = k - 1 := by omega
    have q3 := (hEd.cellAt b (by omega) _).trans p0'
    cases c3 : decide (x.m < x'.m)
    case true =>
      have HT := Lib.hid (HF.out true (by simp [d1, c2, hpr, early, c3]))
      have c3' : x.m < x'.m := by simpa using c3
      clear hb hxk hEd hxk' hpr
      go_wp2_with fail
      rw [← Hwd.out]
      refine (cS.out _).mono ?_
      rintro e w3 ⟨rfl, rfl⟩
      go_wp2_with fail
      go_quiet (fail)
      go_wp2_with fail
      go_ret
      exact ⟨ret_int (by rw [HT.out]; rfl), HBd.out.drewN _⟩
    case false =>
      have HT := Lib.hid (HF.out false (by simp [d1, c2, hpr, early, c3]))
      clear hb hxk hEd hxk' hpr
      go_wp2_with fail
      rw [← Hwd.out]
      refine (cS.out _).mono ?_
      rintro e w3 ⟨rfl, rfl⟩
      go_wp2_with fail
      go_quiet (fail)
      clear ew i3
      go_wp2_with fail
      go_roundw
      case rel => exact ⟨k + 1, x.s, by omega, by go_num, rfl, by unfold Hid; rw [HT.out, HP.out]; rfl, HBd.out.drewN _⟩
      case measure => simp [intOf]; omega
set_option maxRecDepth 100000 in
set_option maxHeartbeats 1000000 in
theorem impl_IsSealed (A : Option Addr) (n c : Nat) (rs : List GEntry) (w : World) (hx : Rd w 3 A n (rs.flatMap GEntry.enc)) :
    Calls Tryd.prog 53 #[.slice A n c] w fun e w' => e = .returned (.bool (sealedB rs)) ∧ Ext w w' := by
  have hn := hx.2.1
  have hl := Lib.hid (hx.len GEntry.len (by omega))
  have HS : Hid (sealedB rs = (decide (n ≤ 30) && (brokenI rs == -1))) := by unfold Hid sealedB; rw [hl.out]
  have cB := Lib.hid (impl_FirstBroken A n c rs w hx)
  have hbd := brokF_bd rs 1 none 0
  obtain ⟨z, hz⟩ : ∃ z, z = brokenI rs := ⟨_, rfl⟩
  have hz1 : -1 ≤ z := by rw [hz]; exact hbd.1
  rw [← hz] at HS cB
  clear hz hbd hx
  by_cases h3 : n ≤ 30
  case neg =>
    go_enter Tryd.func53, Tryd.ntmps53
    go_wp2_with fail
    go_ret
    exact ⟨ret_bool (by rw [HS.out]; simp [h3]), Ext.refl _⟩
  case pos =>
    by_cases hzz : z = -1
    · have e1 : (z == -1) = true := by simpa using hzz
      have e2 : z < 0 := by omega
      clear hzz
      go_enter Tryd.func53, Tryd.ntmps53
      go_wp2_with fail
      refine cB.out.mono ?_
      rintro e w1 ⟨rfl, he1⟩
      have HE1 := Lib.hid he1
      clear he1
      go_wp2_with fail
      go_ret
      exact ⟨ret_bool (by rw [HS.out, e1]; simp [h3, e2]), HE1.out⟩
    · have e1 : (z == -1) = false := by simpa using hzz
      have e2 : ¬ z < 0 := by omega
      clear hzz
      go_enter Tryd.func53, Tryd.ntmps53
      go_wp2_with fail
      refine cB.out.mono ?_
      rintro e w1 ⟨rfl, he1⟩
      have HE1 := Lib.hid he1
      clear he1
      go_wp2_with fail
      go_ret
      exact ⟨ret_bool (by rw [HS.out, e1]; simp [e2]), HE1.out⟩
end Go.Proofs.YtfhibjehnoibeaaDoor
/- Houses: doors, neighbours, and the search through the halls; no condition but what stands at each theorem. -/
namespace Go.Proofs.YtfhibjehnoibeaaDoor
set_option linter.unusedSimpArgs false
set_option linter.unusedVariables false
def doorOk (H : Int) (d : GDoor) : Bool := decide (0 ≤ d.a) && decide (d.a < d.b) && decide (d.b < H)
def dlt (p d : GDoor) : Bool := decide (p.a < d.a) || ((p.a == d.a) && decide (p.b < d.b))
def doorsOk (H : Int) : Option GDoor → List GDoor → Bool
  | _, [] => true
  | none, d :: r => doorOk H d && doorsOk H (some d) r
  | some p, d :: r => doorOk H d && dlt p d && doorsOk H (some d) r
def formB (H : Int) (ds : List GDoor) : Bool := inB H 1 7 && decide (ds.length ≤ 12) && doorsOk H none ds
def isDoor (x k : Int) (d : GDoor) : Bool := (d.a == imin x k) && (d.b == imax x k)
def doorB (ds : List GDoor) (x k : Int) : Bool := ds.any (isDoor x k)
/-- What the program's linksOf lists. -/
def linksTo (ds : List GDoor) (x : Int) (k : Nat) : List Int := (List.range k).flatMap fun (j : Nat) => (ds.filter (isDoor x j)).map fun _ => (j : Int)
theorem linksTo_succ (ds : List GDoor) (x : Int) (k : Nat) : linksTo ds x (k + 1) = linksTo ds x k ++ (ds.filter (isDoor x k)).map fun _ => (k : Int) := by
  simp [linksTo, List.range_succ]
theorem linksTo_len (ds : List GDoor) (x : Int) (k : Nat) : (linksTo ds x k).length ≤ k * ds.length := by
  induction k with
  | zero => simp [linksTo]
  | succ k ih =>
    rw [linksTo_succ, List.length_append, List.length_map, Nat.add_mul]
    have := List.length_filter_le (isDoor x k) ds
    omega
theorem isDoor_comm (x k : Int) (d : GDoor) : isDoor x k d = isDoor k x d := by
  unfold isDoor imin imax
  by_cases h : x < k
  · have h2 : ¬ k < x := by omega
    simp [h, h2]
  · by_cases h2 : k < x
    · simp [h, h2]
    · have : x = k := by omega
      subst this; simp
theorem doorB_comm (ds : List GDoor) (x k : Int) : doorB ds x k = doorB ds k x := by
  unfold doorB
  congr 1
  funext d
  exact isDoor_comm x k d
/-- No door stands twice. -/
def NoTwice (ds : List GDoor) : Prop := ds.Pairwise fun p d => dlt p d = true
theorem dlt_irrefl {p d : GDoor} (h : dlt p d = true) : ¬ (p.a = d.a ∧ p.b = d.b) := by
  simp only [dlt, Bool.or_eq_true, Bool.and_eq_true, decide_eq_true_eq, beq_iff_eq] at h
  omega
theorem dlt_trans {a b c : GDoor} (h : dlt a b = true) (k : dlt b c = true) : dlt a c = true := by
  simp only [dlt, Bool.or_eq_true, Bool.and_eq_true, decide_eq_true_eq, beq_iff_eq] at *
  omega
theorem doorsOk_some {H : Int} : ∀ {ds : List GDoor} {p : GDoor}, doorsOk H (some p) ds = true → (∀ d ∈ ds, doorOk H d = true ∧ dlt p d = true) ∧ NoTwice ds
  | [], _, _ => ⟨fun d hd => by simp at hd, List.Pairwise.nil⟩
  | d :: r, p, h => by
    simp only [doorsOk, Bool.and_eq_true] at h
    obtain ⟨h1, h2⟩ := doorsOk_some h.2
    refine ⟨fun e he => ?_, List.Pairwise.cons (fun e he => (h1 e he).2) h2⟩
    rcases List.mem_cons.1 he with rfl | he
    · exact h.1
    · exact ⟨(h1 e he).1, dlt_trans h.1.2 (h1 e he).2⟩
theorem doorsOk_spec {H : Int} {ds : List GDoor} (h : doorsOk H none ds = true) : (∀ d ∈ ds, doorOk H d = true) ∧ NoTwice ds := by
  cases ds with
  | nil => exact ⟨fun d hd => by simp at hd, List.Pairwise.nil⟩
  | cons d r =>
    simp only [doorsOk, Bool.and_eq_true] at h
    obtain ⟨h1, h2⟩ := doorsOk_some h.2
    refine ⟨fun e he => ?_, List.Pairwise.cons (fun e he => (h1 e he).2) h2⟩
    rcases List.mem_cons.1 he with rfl | he
    · exact h.1
    · exact (h1 e he).1
theorem filter_door {x k : Int} : ∀ {ds : List GDoor}, NoTwice ds → ((ds.filter (isDoor x k)).map fun _ => k) = if doorB ds x k = true then [k] else []
  | [], _ => rfl
  | d :: r, h => by
    unfold NoTwice at h
    rw [List.pairwise_cons] at h
    have ih := filter_door (x := x) (k := k) h.2
    rw [List.filter_cons]
    have hd : doorB (d :: r) x k = (isDoor x k d || doorB r x k) := by simp [doorB]
    rw [hd]
    cases hi : isDoor x k d with
    | false => simpa using ih
    | true =>
      have hr : r.filter (isDoor x k) = [] := by
        rw [List.filter_eq_nil_iff]
        intro e he hc
        refine dlt_irrefl (h.1 e he) ?_
        simp only [isDoor, Bool.and_eq_true, beq_iff_eq] at hi hc
        exact ⟨by rw [hi.1, hc.1], by rw [hi.2, hc.2]⟩
      simp [hr]
/-- The neighbours of x, ascending. -/
def nbr (ds : List GDoor) (h : Nat) (x : Int) : List Nat := (List.range h).filter fun k => doorB ds x k
theorem linksTo_nbr {ds : List GDoor} (hs : NoTwice ds) (x : Int) (h : Nat) : linksTo ds x h = (nbr ds h x).map fun (k : Nat) => (k : Int) := by
  induction h with
  | zero => rfl
  | succ h ih =>
    have e : ((ds.filter (isDoor x h)).map fun _ => (h : Int)) = if doorB ds x h = true then [(h : Int)] else [] := filter_door hs
    rw [linksTo_succ, ih, e, nbr, nbr, List.range_succ, List.filter_append]
    cases hd : doorB ds x h <;> simp [hd]
theorem nbr_len (ds : List GDoor) (h : Nat) (x : Int) : (nbr ds h x).length ≤ h := by
  unfold nbr; exact Nat.le_trans (List.length_filter_le _ _) (by simp)
theorem nbr_lt {ds : List GDoor} {h : Nat} {x : Int} {k : Nat} (hk : k ∈ nbr ds h x) : k < h := by
  unfold nbr at hk; simpa using (List.mem_filter.1 hk).1
/-- The search: the halls found so far in their order, from where each was found, how far each is. -/
structure BS where
  q : List Int
  f : List Int
  d : List Int
def vis (x : Int) (S : BS) (k : Nat) : BS := if S.f.getD k 0 < 0 then ⟨S.q ++ [(k : Int)], S.f.set k x, S.d.set k (S.d.getD x.toNat 0 + 1)⟩ else S
def visB (ds : List GDoor) (x : Int) (S : BS) (k : Nat) : BS := if doorB ds x k then vis x S k else S
def rnd (ds : List GDoor) (h : Nat) (S : BS) (i : Nat) : BS := (List.range h).foldl (visB ds (S.q.getD i 0)) S
def bfs (ds : List GDoor) (h : Nat) : Nat → Nat → BS → BS
  | 0, _, S => S
  | n + 1, i, S => if i < S.q.length then bfs ds h n (i + 1) (rnd ds h S i) else S
def bs0 (h a : Nat) : BS := ⟨[(a : Int)], (List.replicate h (-1)).set a (a : Int), (List.replicate h (-1)).set a 0⟩
def bfsAll (ds : List GDoor) (h a : Nat) : BS := bfs ds h h 0 (bs0 h a)
theorem rnd_nbr (ds : List GDoor) (h : Nat) (S : BS) (i : Nat) : rnd ds h S i = (nbr ds h (S.q.getD i 0)).foldl (vis (S.q.getD i 0)) S := by
  unfold rnd nbr
  rw [List.foldl_filter]
  rfl
structure BInv (a h : Nat) (S : BS) : Prop where
  ah : a < h
  lf : S.f.length = h
  ld : S.d.length = h
  iff_ : ∀ k, k < h → (S.f.getD k 0 < 0 ↔ S.d.getD k 0 < 0)
  qin : ∀ x ∈ S.q, ∃ k, k < h ∧ x = (k : Int) ∧ 0 ≤ S.f.getD k 0
  cnt : S.q.length = S.f.countP fun z => decide (0 ≤ z)
  par : ∀ k, k < h → 0 ≤ S.f.getD k 0 → k ≠ a → ∃ p, p < h ∧ S.f.getD k 0 = (p : Int) ∧ 0 ≤ S.f.getD p 0 ∧ S.d.getD k 0 = S.d.getD p 0 + 1
  root : S.f.getD a 0 = (a : Int) ∧ S.d.getD a 0 = 0
  dlt_ : ∀ k, k < h → 0 ≤ S.f.getD k 0 → S.d.getD k 0 < S.q.length
theorem BInv.qle {a h : Nat} {S : BS} (I : BInv a h S) : S.q.length ≤ h := by
  rw [I.cnt, ← I.lf]; exact List.countP_le_length
theorem getD_set' (l : List Int) (i j : Nat) (x : Int) (hi : i < l.length) : (l.set i x).getD j 0 = if j = i then x else l.getD j 0 := by
  by_cases h : j = i
  · subst h; simp [hi]
  · rw [if_neg h]; simp [Ne.symm h]
theorem countP_set {l : List Int} {k : Nat} {x : Int} (hk : k < l.length) (h0 : l.getD k 0 < 0) (hx : 0 ≤ x) : (l.set k x).countP (fun z => decide (0 ≤ z)) = l.countP (fun z => decide (0 ≤ z)) + 1 := by
  induction l generalizing k with
  | nil => simp at hk
  | cons y l ih =>
    cases k with
    | zero =>
      simp only [List.set_cons_zero, List.countP_cons]
      have hy : ¬ 0 ≤ y := by simp at h0; omega
      simp [hx, hy]
    | succ k =>
      simp only [List.set_cons_succ, List.countP_cons]
      have := ih (k := k) (by simpa using hk) (by simpa using h0)
      omega
theorem BInv.vis {a h : Nat} {S : BS} (I : BInv a h S) {p k : Nat} (hp : p < h) (hfp : 0 ≤ S.f.getD p 0) (hk : k < h) : BInv a h (vis (p : Int) S k) := by
  unfold Proofs.YtfhibjehnoibeaaDoor.vis
  by_cases hf : S.f.getD k 0 < 0
  · rw [if_pos hf]
    have lf := I.lf
    have ld := I.ld
    have hka : k ≠ a := by rintro rfl; have := I.root.1; omega
    have hkp : k ≠ p := by rintro rfl; omega
    have gf : ∀ j, (S.f.set k (p : Int)).getD j 0 = if j = k then (p : Int) else S.f.getD j 0 := fun j => getD_set' _ _ _ _ (by omega)
    have gd : ∀ j, (S.d.set k (S.d.getD p 0 + 1)).getD j 0 = if j = k then S.d.getD p 0 + 1 else S.d.getD j 0 := fun j => getD_set' _ _ _ _ (by omega)
    have hdp := I.dlt_ p hp hfp
    have hdp0 : 0 ≤ S.d.getD p 0 := by have := (I.iff_ p hp); omega
    rw [Int.toNat_natCast]
    refine ⟨I.ah, by simpa using lf, by simpa using ld, ?_, ?_, ?_, ?_, ?_, ?_⟩
    · intro j hj
      simp only [gf, gd]
      by_cases hjk : j = k
      · simp only [hjk, if_true]; omega
      · simp only [hjk, if_false]; exact I.iff_ j hj
    · intro x hx
      simp only at hx
      rcases List.mem_append.1 hx with hx | hx
      · obtain ⟨j, h1, h2, h3⟩ := I.qin x hx
        refine ⟨j, h1, h2, ?_⟩
        simp only [gf]
        split <;> omega
      · simp at hx
        refine ⟨k, hk, hx, ?_⟩
        simp only [gf, if_true]; omega
    · simp only
      rw [countP_set (by omega) hf (by omega), List.length_append, I.cnt]; rfl
    · intro j hj hfj hja
      simp only [gf, gd] at hfj ⊢
      by_cases hjk : j = k
      · subst hjk
        simp only [if_true]
        exact ⟨p, hp, rfl, by rw [if_neg (Ne.symm hkp)]; exact hfp, by rw [if_neg (Ne.symm hkp)]⟩
      · simp only [hjk, if_false] at hfj ⊢
        obtain ⟨r, h1, h2, h3, h4⟩ := I.par j hj hfj hja
        have hrk : r ≠ k := by rintro rfl; omega
        exact ⟨r, h1, h2, by rw [if_neg hrk]; exact h3, by rw [if_neg hrk]; exact h4⟩
    · simp only [gf, gd, Ne.symm hka, if_false]
      exact I.root
    · intro j hj hfj
      simp only [gf, gd, List.length_append, List.length_cons, List.length_nil] at hfj ⊢
      by_cases hjk : j = k
      · simp only [hjk, if_true]; omega
      · simp only [hjk, if_false] at hfj ⊢
        have := I.dlt_ j hj hfj
        omega
  · rw [if_neg hf]; exact I
theorem vis_mono {x : Int} {S : BS} {k j : Nat} (hx : 0 ≤ x) (h : 0 ≤ S.f.getD j 0) : 0 ≤ (vis x S k).f.getD j 0 := by
  unfold vis
  split
  · rename_i hf
    by_cases hk : k < S.f.length
    · simp only; rw [getD_set' _ _ _ _ hk]; split <;> omega
    · simp only; rw [List.set_eq_of_length_le (by omega)]; exact h
  · exact h
theorem vis_q {x : Int} {S : BS} {k i : Nat} (hi : i < S.q.length) : (vis x S k).q.getD i 0 = S.q.getD i 0 ∧ i < (vis x S k).q.length := by
  unfold vis
  split
  · simp only [List.length_append]; refine ⟨?_, by omega⟩; simp [List.getElem?_append_left hi]
  · exact ⟨rfl, hi⟩
theorem BInv.fold {a h : Nat} {p : Nat} (hp : p < h) : ∀ (ns : List Nat) {S : BS}, BInv a h S → 0 ≤ S.f.getD p 0 → (∀ k ∈ ns, k < h) → BInv a h (ns.foldl (Proofs.YtfhibjehnoibeaaDoor.vis (p : Int)) S)
  | [], S, I, _, _ => I
  | k :: ns, S, I, hf, hn => BInv.fold hp ns (I.vis hp hf (hn k (by simp))) (vis_mono (by omega) hf) (fun j hj => hn j (by simp [hj]))
theorem BInv.rnd {a h : Nat} {ds : List GDoor} {S : BS} (I : BInv a h S) {i : Nat} (hi : i < S.q.length) : BInv a h (rnd ds h S i) := by
  obtain ⟨p, hp, hx, hf⟩ := I.qin (S.q.getD i 0) (by
    have : S.q.getD i 0 = S.q[i] := by simp [hi]
    rw [this]; exact List.getElem_mem hi)
  rw [rnd_nbr, hx]
  exact BInv.fold hp _ I hf (fun k hk => nbr_lt hk)
theorem binv0 {a h : Nat} (ha : a < h) : BInv a h (bs0 h a) := by
  have g : ∀ (z x : Int) j, ((List.replicate h z).set a x).getD j 0 = if j = a then x else (List.replicate h z).getD j 0 := fun z x j => getD_set' _ _ _ _ (by simpa using ha)
  have r : ∀ j, j < h → (List.replicate h (-1 : Int)).getD j 0 = -1 := by intro j hj; simp [hj]
  have hn : ∀ n, (List.replicate n (-1 : Int)).countP (fun z => decide (0 ≤ z)) = 0 := by intro n; simp [List.countP_replicate]
  refine ⟨ha, by simp [bs0], by simp [bs0], ?_, ?_, ?_, ?_, ?_, ?_⟩
  · intro k hk
    simp only [bs0, g]
    split
    · omega
    · rw [r k hk]
  · intro x hx
    simp [bs0] at hx
    exact ⟨a, ha, hx, by simp only [bs0, g, if_true]; omega⟩
  · simp only [bs0]
    rw [countP_set (by simpa using ha) (by rw [r a ha]; omega) (by omega), hn]; rfl
  · intro k hk hf hka
    simp only [bs0, g, hka, if_false] at hf
    rw [r k hk] at hf
    omega
  · simp only [bs0, g, if_true]; exact ⟨trivial, trivial⟩
  · intro k hk hf
    simp only [bs0, g] at hf ⊢
    by_cases hka : k = a
    · simp [hka]
    · simp only [hka, if_false] at hf; rw [r k hk] at hf; omega
theorem BInv.bfs {a h : Nat} {ds : List GDoor} : ∀ (n i : Nat) {S : BS}, BInv a h S → BInv a h (bfs ds h n i S)
  | 0, _, _, I => I
  | n + 1, i, S, I => by
    unfold Proofs.YtfhibjehnoibeaaDoor.bfs
    split
    · rename_i hi; exact BInv.bfs n (i + 1) (I.rnd hi)
    · exact I
theorem BInv.all {a h : Nat} (ds : List GDoor) (ha : a < h) : BInv a h (bfsAll ds h a) := BInv.bfs h 0 (binv0 ha)
def reachB (ds : List GDoor) (h a b : Nat) : Bool := decide (0 ≤ (bfsAll ds h a).f.getD b 0)
def houseB (H : Int) (ds : List GDoor) : Bool := formB H ds && (List.range H.toNat).all fun k => reachB ds H.toNat 0 k
end Go.Proofs.YtfhibjehnoibeaaDoor
/- Bits of small numbers; no condition but what stands at each theorem. -/
namespace Go.Proofs.YtfhibjehnoibeaaDoor
set_option linter.unusedSimpArgs false
set_option linter.unusedVariables false
open Go.RowKit
theorem bits_and_one (m : Nat) (h : m < 9223372036854775808) : bits .and .i64 (m : Int) 1 = ((m % 2 : Nat) : Int) := by
  have e : bits .and .i64 (m : Int) 1 = IntKind.i64.wrap ((BitVec.ofInt 64 (m : Int) &&& BitVec.ofInt 64 1).toNat : Int) := rfl
  have e2 : (BitVec.ofInt 64 (m : Int) &&& BitVec.ofInt 64 1).toNat = m % 2 := by
    rw [BitVec.toNat_and, BitVec.toNat_ofInt, BitVec.toNat_ofInt]
    have h1 : ((m : Int) % ((2 ^ 64 : Nat) : Int)).toNat = m := by omega
    have h2 : ((1 : Int) % ((2 ^ 64 : Nat) : Int)).toNat = 1 := by decide
    rw [h1, h2, Nat.and_one_is_mod]
  rw [e, e2]
  exact IntWalk.i64_in _ (by omega)
theorem bits_or (a b : Nat) (ha : a < 4611686018427387904) (hb : b < 4611686018427387904) : bits .or .i64 (a : Int) (b : Int) = ((a ||| b : Nat) : Int) := by
  have e : bits .or .i64 (a : Int) (b : Int) = IntKind.i64.wrap ((BitVec.ofInt 64 (a : Int) ||| BitVec.ofInt 64 (b : Int)).toNat : Int) := rfl
  have e2 : (BitVec.ofInt 64 (a : Int) ||| BitVec.ofInt 64 (b : Int)).toNat = a ||| b := by
    rw [BitVec.toNat_or, BitVec.toNat_ofInt, BitVec.toNat_ofInt]
    have h1 : ((a : Int) % ((2 ^ 64 : Nat) : Int)).toNat = a := by omega
    have h2 : ((b : Int) % ((2 ^ 64 : Nat) : Int)).toNat = b := by omega
    rw [h1, h2]
  have h3 : a ||| b < 4611686018427387904 := Nat.or_lt_two_pow (n := 62) ha hb
  rw [e, e2]
  exact IntWalk.i64_in _ (by omega)
theorem div_pow (s k : Nat) : ((s : Int) / 2 ^ k) = ((s >>> k : Nat) : Int) := by
  rw [Nat.shiftRight_eq_div_pow]; push_cast; rfl
theorem bit_test (s k : Nat) (h : s < 9223372036854775808) : (bits .and .i64 ((s : Int) / 2 ^ k) 1 == 1) = ((s >>> k) % 2 == 1) := by
  have h1 : s >>> k < 9223372036854775808 := Nat.lt_of_le_of_lt (by rw [Nat.shiftRight_eq_div_pow]; exact Nat.div_le_self _ _) h
  rw [div_pow, bits_and_one _ h1, Bool.eq_iff_iff]
  simp only [beq_iff_eq]
  omega
def bitB (s k : Nat) : Bool := (s >>> k) % 2 == 1
end Go.Proofs.YtfhibjehnoibeaaDoor
/- Contracts of linksOf and l23Door; no condition but what stands at each theorem. -/
namespace Go.Proofs.YtfhibjehnoibeaaDoor
set_option linter.unusedSimpArgs false
set_option linter.unusedVariables false
open Go.RowKit Go.Sort
theorem ei_I : EI Tryd.prog 27 3 1 := ei_of Tryd.underlying27 (by omega) (by kernel_rfl)
theorem sz_int (w : World) : (sizeOf 3).run Tryd.prog w = .ok 1 w := by kernel_rfl
theorem mk_int (n : Nat) (hn : n ≤ 1048576) (w : World) : (Instr.makeSlice 27 (.int .i64 (n : Int)) (.int .i64 (n : Int))).run Tryd.prog w = .ok (.slice (some ⟨w.heap.size, 0, none⟩) n n) (w.alloc (.cells ((List.replicate n (0 : Int)).map (Value.int .i64)).toArray 3)) := by
  have hin : (Tryd.prog.info? 3).map (fun i => (i.zero.map (·.cells.size), i.size, decide (i.bytes ≤ 4096))) = some (some 1, 1, true) := by kernel_rfl
  cases hi : Tryd.prog.info? 3 with
  | none => rw [hi] at hin; cases hin
  | some i =>
  have hz : i.zero = some (.int .i64 0) := by
    have h : (Tryd.prog.info? 3).map (fun i => i.zero) = some (some (.int .i64 0)) := by kernel_rfl
    rw [hi] at h; simpa using h
  rw [hi] at hin
  simp only [Option.map_some, Option.some.injEq, Prod.mk.injEq, decide_eq_true_eq] at hin
  obtain ⟨-, hsz, hby⟩ := hin
  have h := make_row (P := Tryd.prog) 27 3 i _ Tryd.underlying27 hi hz n (by have := Nat.mul_le_mul hby hn; omega) (by omega) w
  rw [hsz, made_ints] at h
  exact h
set_option maxRecDepth 100000 in
set_option maxHeartbeats 2000000 in
theorem impl_linksOf (nh : Nat) (A : Option Addr) (n c : Nat) (ds : List GDoor) (x : Int) (w : World) (hx : Rd w 2 A n (ds.flatMap GDoor.enc)) (hh : nh ≤ 7) (hn12 : n ≤ 12) :
    Calls Tryd.prog 81 #[.agg #[.int .i64 nh, .slice A n c], .int .i64 x] w fun e w' => ∃ v, e = .returned v ∧ Ext w w' ∧ w'.ownsRow w.heap.size 3 1 v (linksTo ds x nh).length ((linksTo ds x nh).flatMap ienc) := by
  have hl := Lib.hid (hx.len GDoor.len (by omega))
  have hmin := @run_imin Tryd.prog
  have hmax := @run_imax Tryd.prog
  obtain ⟨wb, hwb⟩ : ∃ wb, wb = w.alloc (.cells #[.int .i64 (nh : Int), .slice A n c] 26) := ⟨_, rfl⟩
  obtain ⟨hEb, hsb, k0, k1⟩ := box2 w _ _ _ wb hwb
  have HEb := Lib.hid hEb
  have Hwb := Lib.hid hwb
  have hxb := hx.keep hEb
  have ho0 := own_empty wb (w.heap.size + 1) 3 1 (by omega)
  rw [hsb] at ho0
  have HO0 := Lib.hid ho0
  have Hk0 := Lib.hid k0
  have Hk1 := Lib.hid k1
  have Hsb := Lib.hid hsb
  clear hwb hEb hx k0 k1 hsb ho0
  go_enter Tryd.func81, Tryd.ntmps81
  go_wp2_with fail
  rw [← Hwb.out]
  go_loopw [5, 6] (fun o i wr => ∃ (k : Nat) (L : List Int), k ≤ nh ∧ i = .int .i64 k ∧ wr.ownsRow (w.heap.size + 1) 3 1 o L.length (L.flatMap ienc) ∧ Hid (L = linksTo ds x k) ∧ Ext wb wr) (fun _ i _ => nh - (intOf i).toNat)
  case atStart => exact ⟨0, [], Nat.zero_le _, rfl, HO0.out, rfl, (Ext.refl _).alloc _⟩
  case round =>
    obtain ⟨wo, rfl⟩ : ∃ wo : World, wo = wr := ⟨_, rfl⟩
    obtain ⟨k, L, hk, rfl, hown, hz, hb⟩ := hrel
    have r0 := (hb.cellAt w.heap.size (by rw [Hsb.out]; omega) 0).trans Hk0.out
    have r1 := (hb.cellAt w.heap.size (by rw [Hsb.out]; omega) 1).trans Hk1.out
    by_cases hlt : k < nh
    · have HO := Lib.hid hown
      have HB := Lib.hid hb
      have hsw := hb.size
      have hsw1 : w.heap.size + 1 ≤ wb.heap.size := by rw [Hsb.out]; exact Nat.le_refl _
      clear hown hb
      go_wp2_with fail
      go_loopw [5, 19] (fun o i wi => ∃ (j : Nat) (L2 : List Int), j ≤ n ∧ i = .int .i64 j ∧ wi.ownsRow (w.heap.size + 1) 3 1 o L2.length (L2.flatMap ienc) ∧ Hid (L2 = linksTo ds x k ++ ((ds.take j).filter (isDoor x k)).map fun _ => (k : Int)) ∧ Hid (L2.length ≤ L.length + j) ∧ Ext wb wi) (fun _ i _ => n - (intOf i).toNat)
      case atStart => exact ⟨0, L, Nat.zero_le _, rfl, HO.out, by unfold Hid; rw [hz.out]; simp, by unfold Hid; omega, HB.out⟩
      case round =>
        obtain ⟨j, L2, hj, rfl, hown2, hz2, hLj, hbi⟩ := hrel
        have hLk : L.length ≤ 84 := by
          rw [hz.out]
          have h1 := linksTo_len ds x k
          rw [hl.out] at h1
          have h2 : k * n ≤ 7 * 12 := Nat.mul_le_mul (by omega) hn12
          omega
        by_cases hjl : j < n
        · obtain ⟨b, off, d, rfl, hbs, hdk, h0, h1⟩ := GDoor.at_ (hxb.keep hbi) hjl
          have HD := Lib.hid (take_snoc hdk)
          have HO2 := Lib.hid hown2
          have HBi := Lib.hid hbi
          have hsi := hbi.size
          rw [Hsb.out] at hsi
          clear hown2 hbi hdk
          by_cases ea : d.a = imin x k
          case neg =>
            have hdo : Hid (isDoor x k d = false) := by unfold Hid isDoor; rw [beq_eq_false_iff_ne.2 ea]; rfl
            go_wp2_with fail
            go_roundw
            case rel => exact ⟨j + 1, L2, by omega, by go_num, own_keep HO2.out ((Ext.refl wr).alloc _), by unfold Hid; rw [hz2.out, HD.out, List.filter_append]; simp [hdo.out], by have := hLj.out; unfold Hid; omega, HBi.out.alloc _⟩
            case measure => simp [intOf]; omega
          by_cases eb : d.b = imax x k
          case neg =>
            have hdo : Hid (isDoor x k d = false) := by unfold Hid isDoor; rw [beq_eq_false_iff_ne.2 eb, Bool.and_false]
            go_wp2_with fail
            go_roundw
            case rel => exact ⟨j + 1, L2, by omega, by go_num, own_keep HO2.out ((Ext.refl wr).alloc _), by unfold Hid; rw [hz2.out, HD.out, List.filter_append]; simp [hdo.out], by have := hLj.out; unfold Hid; omega, HBi.out.alloc _⟩
            case measure => simp [intOf]; omega
          have hdo : Hid (isDoor x k d = true) := by unfold Hid isDoor; rw [ea, eb]; simp
          go_wp2_with (at_builtin; refine append1 ei_I rfl _ _ rfl (w.heap.size + 1) _ _ u5 L2.length _ (by rfl) (own_keep HO2.out ((Ext.refl wr).alloc _)) [.int .i64 k] (by rw [hsz_alloc]; rfl) rfl (by intro u hu; simp at hu; subst hu; rfl) (by have := hLj.out; omega) (by rw [hsz_alloc]; omega) ?_; intro v' w2 ho2 he2; have HO3 := Lib.hid ho2; have HE3 := Lib.hid (he2 wb (HBi.out.alloc _) (by rw [Hsb.out]; exact Nat.le_refl _)); clear ho2 he2)
          go_roundw
          case rel =>
            refine ⟨j + 1, L2 ++ [(k : Int)], by omega, by go_num, ?_, by unfold Hid; rw [hz2.out, HD.out, List.filter_append]; simp [hdo.out], by have := hLj.out; unfold Hid; simp; omega, HE3.out⟩
            have := HO3.out
            simpa [ienc] using this
          case measure => simp [intOf]; omega
        · obtain rfl : j = n := by omega
          go_wp2_with fail
          go_roundw
          case rel => exact ⟨k + 1, L2, by omega, by go_num, hown2, by unfold Hid; rw [hz2.out, linksTo_succ, List.take_of_length_le (by rw [hl.out]; omega)], hbi⟩
          case measure => simp [intOf]; omega
    · obtain rfl : k = nh := by omega
      go_wp2_with fail
      go_ret
      exact ⟨_, rfl, HEb.out.trans hb, by rw [← hz.out]; exact own_weak hown (by omega)⟩
end Go.Proofs.YtfhibjehnoibeaaDoor
/- Contracts of Repeat and Reverse of slices, of what they call; no condition but what stands at each theorem. -/
namespace Go.Proofs.YtfhibjehnoibeaaDoor
set_option linter.unusedSimpArgs false
set_option linter.unusedVariables false
open Go.RowKit Go.Sort
set_option maxRecDepth 100000 in
set_option maxHeartbeats 2000000 in
theorem bits_Mul64 (h : Nat) (h1 : 1 ≤ h) (h7 : h ≤ 7) (w : World) : Calls Tryd.prog 125 #[.int .u64 1, .int .u64 (h : Int)] w fun e w' => e = .returned (.tuple #[.int .u64 0, .int .u64 (h : Int)]) ∧ w = w' := by
  have hc : h = 1 ∨ h = 2 ∨ h = 3 ∨ h = 4 ∨ h = 5 ∨ h = 6 ∨ h = 7 := by omega
  rcases hc with rfl | rfl | rfl | rfl | rfl | rfl | rfl
  all_goals
    go_enter Tryd.func125, Tryd.ntmps125
    go_wp2
    go_ret2
    exact ⟨rfl, rfl⟩
theorem bits_Mul (h : Nat) (h1 : 1 ≤ h) (h7 : h ≤ 7) (w : World) : Calls Tryd.prog 119 #[.int .u64 1, .int .u64 (h : Int)] w fun e w' => e = .returned (.tuple #[.int .u64 0, .int .u64 (h : Int)]) ∧ w = w' := by
  go_enter Tryd.func119, Tryd.ntmps119
  go_wp2_with (go_at_call 125; refine (bits_Mul64 h h1 h7 _).mono ?_; rintro e w1 ⟨rfl, rfl⟩)
  go_ret2
  exact ⟨rfl, rfl⟩
def filled (h k : Nat) : List Int := List.replicate k (-1) ++ List.replicate (h - k) 0
theorem filled_len {h k : Nat} (hk : k ≤ h) : (filled h k).length = h := by simp [filled]; omega
theorem filled_zero (h : Nat) : filled h 0 = List.replicate h 0 := by simp [filled]
theorem filled_all (h : Nat) : filled h h = List.replicate h (-1) := by simp [filled]
theorem filled_splice {h k m : Nat} (hk : k + m ≤ h) : splice ((filled h k).map (Value.int .i64)) k ((List.replicate m (-1 : Int)).map (Value.int .i64)) = (filled h (k + m)).map (Value.int .i64) := by
  unfold splice filled
  apply List.ext_getElem?
  intro j
  simp only [List.map_append, List.map_replicate, List.length_replicate]
  by_cases h1 : j < k
  · simp [List.getElem?_append, List.getElem?_take, List.getElem?_replicate, h1, show j < k + m by omega]
  · by_cases h2 : j < k + m
    · simp [List.getElem?_append, List.getElem?_take, List.getElem?_replicate, h1, h2, show j - k < m by omega, show min k (k + (h - k)) = k by omega]
    · simp [List.getElem?_append, List.getElem?_take, List.getElem?_drop, List.getElem?_replicate, h1, h2, show ¬ j - k < m by omega, show min k (k + (h - k)) = k by omega]
      by_cases h3 : j < h
      · simp [show ¬ (k + m + (j - k - m)) < k by omega, show (k + m + (j - k - m)) - k < h - k by omega, show j - (k + m) < h - (k + m) by omega]
      · simp [show ¬ (k + m + (j - k - m)) < k by omega, show ¬ (k + m + (j - k - m)) - k < h - k by omega, show ¬ j - (k + m) < h - (k + m) by omega]
set_option maxRecDepth 100000 in
set_option maxHeartbeats 2000000 in
theorem slices_Repeat (h : Nat) (h1 : 1 ≤ h) (h7 : h ≤ 7) (g0 c0 : Nat) (w : World) (hg : w.cell? ⟨g0, 0, none⟩ = some (.int .i64 (-1))) (hg0 : g0 < w.heap.size) :
    Calls Tryd.prog 103 #[.slice (some ⟨g0, 0, none⟩) 1 c0, .int .i64 (h : Int)] w fun e w' => e = .returned (.slice (some ⟨w.heap.size, 0, none⟩) h h) ∧ Ext w w' ∧ IBlk w' w.heap.size 3 (List.replicate h (-1)) := by
  obtain ⟨cl, hcl⟩ : ∃ cl, cl = (filled h 0).map (Value.int .i64) := ⟨_, rfl⟩
  have hmk := mk_int h (by omega)
  rw [← filled_zero, ← hcl] at hmk
  have hclen : cl.length = h := by rw [hcl]; simp [filled]
  have Hclen := Lib.hid hclen
  have HB0 := Lib.hid (Blk.new w 3 cl.toArray)
  have HE0 := Lib.hid ((Ext.refl w).alloc (.cells cl.toArray 3))
  have Hg := Lib.hid ((HE0.out.cellAt g0 hg0 0).trans hg)
  have hsp : splice cl 0 [.int .i64 (-1)] = (filled h 1).map (Value.int .i64) := by
    have := filled_splice (h := h) (k := 0) (m := 1) (by omega)
    rw [hcl]; exact this
  have HSp := Lib.hid hsp
  clear hcl hclen hsp
  have d0 : decide ((h : Int) < 0) = false := by simp
  have d1 : decide ((9223372036854775807 : Int) < (h : Int)) = false := by simp; omega
  go_enter Tryd.func103, Tryd.ntmps103
  go_wp2_with (first | (go_at_call 119; refine (bits_Mul h h1 h7 _).mono ?_; rintro e w1 ⟨rfl, rfl⟩) | (refine wpList_copy_splice rfl (.tmp 31) (.tmp 32) 27 27 rfl 3 Tryd.underlying27 (by kernel_rfl) _ _ h h 1 c0 (by rfl) (by rfl) w.heap.size 0 cl 3 HB0.out [.int .i64 (-1)] (by simp [Nat.min_eq_left h1]) (fun _ => ⟨rfl, ⟨g0, 0, none⟩, rfl, fun j v hv => by cases j with | zero => (rw [add_none, ← hv]; exact Hg.out) | succ j => simp at hv⟩) (by rw [Hclen.out]; simpa using h1) (by intro v hv; simp at hv; subst hv; rfl) w.heap.size w HE0.out (Nat.le_refl _) ?_; intro w2 hg2 hb2))
  have hb2' := hb2
  have hi2 : IBlk w2 w.heap.size 3 (filled h 1) := by
    have := hg2.out
    rw [HSp.out] at this
    exact this
  have HI2 := Lib.hid hi2
  have HE2 : Hid (Ext w w2) := hb2'
  clear hb2 hb2' hi2 hg2 hmk
  go_loopw [8] (fun i wr => ∃ k : Nat, 1 ≤ k ∧ k ≤ h ∧ i = .int .i64 k ∧ Hid (IBlk wr w.heap.size 3 (filled h k)) ∧ Ext w wr) (fun i _ => h - (intOf i).toNat)
  case atStart => exact ⟨1, Nat.le_refl _, h1, rfl, HI2.out, HE2.out⟩
  case round =>
    obtain ⟨k, hk1, hk, rfl, hI, hb⟩ := hrel
    by_cases hlt : k < h
    · have hne : ¬ h = k := by omega
      have hne2 : ¬ h = 0 := by omega
      obtain ⟨m, hm⟩ : ∃ m, m = Nat.min k (h - k) := ⟨_, rfl⟩
      have hm1 : 1 ≤ m := by rw [hm]; exact Nat.le_min.2 ⟨hk1, by omega⟩
      have hm2 : k + m ≤ h := by have : m ≤ h - k := by rw [hm]; exact Nat.min_le_right _ _
                                 omega
      have hmk2 : m ≤ k := by rw [hm]; exact Nat.min_le_left _ _
      have HM := Lib.hid hm
      have HB := Lib.hid hb
      have HID : Hid (Blk (wr.drew) w.heap.size 3 ((filled h k).map (Value.int .i64)).toArray) := hI.out
      have hsp := filled_splice (h := h) (k := k) (m := m) hm2
      have HSP := Lib.hid hsp
      have HCE : Hid (∀ j v, ((List.replicate m (-1 : Int)).map (Value.int .i64))[j]? = some v → wr.drew.cell? ((⟨w.heap.size, 0, none⟩ : Addr).add j) = some v) := by
        unfold Hid
        intro j v hv
        have hj : j < m := by have := (List.getElem?_eq_some_iff.1 hv).1; simpa using this
        have hv2 : v = .int .i64 (-1) := by
          simp only [List.map_replicate, List.getElem?_replicate, hj, if_true] at hv
          injection hv with hv; exact hv.symm
        rw [add_none, Nat.zero_add, HID.out.cell, hv2]
        simp [filled, List.getElem?_append, show j < k by omega]
      clear hm hb hsp
      go_wp2_with fail
      go_region_law ((refine step_copy_splice (by rfl) (.tmp 41) (.tmp 44) 27 27 (by rfl) 3 Tryd.underlying27 (by kernel_rfl) (some ⟨w.heap.size, k, none⟩) (some ⟨w.heap.size, 0, none⟩) (h - k) (h - k) k h (by simp [go_sem]) (by simp [go_sem]) w.heap.size k ((filled h k).map (Value.int .i64)) 3 HID.out ((List.replicate m (-1 : Int)).map (Value.int .i64)) (by rw [List.length_map, List.length_replicate]; exact HM.out) (fun _ => ⟨rfl, _, rfl, HCE.out⟩) (by simp [filled]; omega) (by intro v hv; simp at hv; rw [hv.2]; rfl) w.heap.size w HB.out.drew (Nat.le_refl _) ?_; intro w3 hg3 hb3))
      have hi3 : IBlk w3 w.heap.size 3 (filled h (k + m)) := by
        have := hg3.out
        rw [HSP.out] at this
        exact this
      have HI3 := Lib.hid hi3
      have HE3 : Hid (Ext w w3) := hb3
      clear hg3 hb3 hi3
      have hwr : IntKind.i64.wrap ((k : Int) + (m : Int)) = ((k + m : Nat) : Int) := by rw [IntWalk.i64_in _ (by omega)]; push_cast; rfl
      rw [hwr]
      clear hwr
      go_simp
      go_roundw
      case rel => exact ⟨.int .i64 ((k : Int) + (m : Int)), _, _, _, _, _, _, _, _, _, _, _, _, _, ⟨k + m, by omega, hm2, by push_cast; rfl, HI3.out, HE3.out⟩, rfl⟩
      case measure => simp [intOf]; omega
    · obtain rfl : k = h := by omega
      go_wp2_with fail
      go_ret
      exact ⟨rfl, hb, by have := hI.out; rw [filled_all] at this; exact this⟩
end Go.Proofs.YtfhibjehnoibeaaDoor
/- Contract of Reverse of slices; no condition but what stands at each theorem. -/
namespace Go.Proofs.YtfhibjehnoibeaaDoor
set_option linter.unusedSimpArgs false
set_option linter.unusedVariables false
open Go.RowKit Go.Sort
theorem grown_drw {a w : World} {row : Option Nat} (h : a.grownBy w row) : a.grownBy w.drew row := ⟨h.os, h.tape, h.output, h.size, h.block⟩
set_option maxRecDepth 100000 in
set_option maxHeartbeats 2000000 in
theorem slices_Reverse (g n c : Nat) (u : List Int) (w : World) (hb : PBlk w g 3 u) (hul : u.length = n) (hn : n ≤ 1073741824) :
    Calls Tryd.prog 104 #[.slice (some ⟨g, 0, none⟩) n c] w fun e w' => e = .returned (.tuple #[]) ∧ w.grownBy w' (some g) := by
  have HU := Lib.hid hul
  clear hul
  go_enter Tryd.func104, Tryd.ntmps104
  go_wp2_with fail
  go_loopw [2, 3] (fun s2 s3 wr => ∃ (i : Nat) (j : Int) (u : List Int), s2 = .int .i64 i ∧ s3 = .int .i64 j ∧ Hid ((i : Int) + j = (n : Int) - 1) ∧ PBlk wr g 3 u ∧ Hid (u.length = n) ∧ w.grownBy wr (some g)) (fun s2 s3 _ => (intOf s3 + 1 - intOf s2).toNat)
  case atStart => exact ⟨0, (n : Int) - 1, u, rfl, rfl, by unfold Hid; omega, hb, HU.out, grown_refl _ _⟩
  case round =>
    obtain ⟨i, j, u, rfl, rfl, hij, hbk, hul, hg⟩ := hrel
    have hij2 := hij.out
    by_cases hlt : (i : Int) < j
    · obtain ⟨q, rfl⟩ := Int.eq_ofNat_of_zero_le (show 0 ≤ j by omega)
      have hq : q < n := by omega
      have hi : i < n := by omega
      have hiq : i < q := by omega
      have hne : i ≠ q := by omega
      have hne' : q ≠ i := by omega
      have ci := hbk.cell (i := i) (by rw [hul.out]; exact hi)
      have cq := hbk.cell (i := q) (by rw [hul.out]; exact hq)
      have fi := hbk.free i
      have fq := hbk.free q
      obtain ⟨x, hx⟩ : ∃ x, x = u.getD i 0 := ⟨_, rfl⟩
      obtain ⟨y, hy⟩ : ∃ y, y = u.getD q 0 := ⟨_, rfl⟩
      rw [← hx] at ci
      rw [← hy] at cq
      have HG := Lib.hid hg
      have HBK := Lib.hid hbk
      have H1 : Hid (PBlk ((wr.setCell ⟨g, i, none⟩ (.int .i64 y)).setCell ⟨g, q, none⟩ (.int .i64 x)) g 3 ((u.set i y).set q x)) := (hbk.set i y).set q x
      have HG1 : Hid (w.grownBy ((wr.setCell ⟨g, i, none⟩ (.int .i64 y)).setCell ⟨g, q, none⟩ (.int .i64 x)) (some g)) := grown_set (grown_set hg _ _) _ _
      clear hx hy hg hbk hb hij2
      go_wp2_with fail
      go_region
      go_wp2_with fail
      go_roundw
      case rel => exact ⟨i + 1, (q : Int) - 1, (u.set i y).set q x, by go_num, rfl, by unfold Hid; have := hij.out; push_cast; omega, H1.out, by unfold Hid; rw [List.length_set, List.length_set]; exact hul.out, grown_drw HG1.out⟩
      case measure => simp [intOf]; omega
    · go_wp2_with fail
      go_end0
      exact ⟨rfl, hg⟩
end Go.Proofs.YtfhibjehnoibeaaDoor
/- Contracts of the shortest way in a house; no condition but what stands at each theorem. -/
namespace Go.Proofs.YtfhibjehnoibeaaDoor
set_option linter.unusedSimpArgs false
set_option linter.unusedVariables false
open Go.RowKit Go.Sort
/-- The box at bh holds the house of h halls with the doors ds. -/
structure HBox (w : World) (bh h : Nat) (A : Option Addr) (n c : Nat) (ds : List GDoor) : Prop where
  k0 : w.cell? ⟨bh, 0, none⟩ = some (.int .i64 (h : Int))
  k1 : w.cell? ⟨bh, 1, none⟩ = some (.slice A n c)
  lt : bh < w.heap.size
  rd : Rd w 2 A n (ds.flatMap GDoor.enc)
theorem HBox.keep {w w' : World} {bh h : Nat} {A : Option Addr} {n c : Nat} {ds : List GDoor} (H : HBox w bh h A n c ds) (e : Ext w w') : HBox w' bh h A n c ds :=
  ⟨(e.cellAt bh H.lt 0).trans H.k0, (e.cellAt bh H.lt 1).trans H.k1, by have := e.size; have := H.lt; omega, H.rd.keep e⟩
theorem impl_wayIn1 (h : Nat) (A : Option Addr) (n c : Nat) (ds : List GDoor) (x : Int) (bh : Nat) (w : World) (H : HBox w bh h A n c ds) (hh : h ≤ 7) (hn12 : n ≤ 12) :
    Calls Tryd.prog 80 #[.int .i64 x, .pointer (some ⟨bh, 0, none⟩)] w fun e w' => ∃ v, e = .returned v ∧ Ext w w' ∧ w'.ownsRow w.heap.size 3 1 v (linksTo ds x h).length ((linksTo ds x h).flatMap ienc) := by
  have k0 := H.k0
  have k1 := H.k1
  have hx := H.rd
  go_enter Tryd.func80, Tryd.ntmps80
  go_wp2_with fail
  refine (impl_linksOf h A n c ds x w hx hh hn12).mono ?_
  rintro e w1 ⟨v, rfl, he, ho⟩
  go_wp2_with fail
  go_ret
  exact ⟨_, rfl, he, ho⟩
theorem own_one (W : World) (base : Nat) (t : TypeId) (z : Int) (hb : base ≤ W.heap.size) : (W.alloc (.cells #[.int .i64 z] t)).ownsRow base t 1 (.slice (some ⟨W.heap.size, 0, none⟩) 1 1) 1 (([z] : List Int).flatMap ienc) :=
  own_of_blk hb (Blk.new _ _ _) (by simp) (by unfold maxLen; omega) rfl
/-- A way has been found, or none is there. -/
def WayPost (S : BS) (b : Nat) (w : World) (e : Ending) (w' : World) : Prop :=
  (S.f.getD b 0 < 0 ∧ e = .returned (.slice none 0 0) ∧ Ext w w') ∨ (0 ≤ S.f.getD b 0 ∧ ∃ g c', e = .returned (.slice (some ⟨g, 0, none⟩) ((S.d.getD b 0).toNat + 1) c') ∧ Ext w w')
set_option maxRecDepth 100000 in
set_option maxHeartbeats 4000000 in
theorem impl_shortest (h : Nat) (A : Option Addr) (n c : Nat) (ds : List GDoor) (a b : Nat) (bh : Nat) (w : World) (H : HBox w bh h A n c ds) (hs : Hid (NoTwice ds)) (h1 : 1 ≤ h) (h7 : h ≤ 7) (hn12 : n ≤ 12) (ha : a < h) (hb : b < h) :
    Calls Tryd.prog 79 #[.int .i64 h, .int .i64 a, .int .i64 b, .func (.func 80) #[] #[.pointer (some ⟨bh, 0, none⟩)]] w (WayPost (bfsAll ds h a) b w) := by
  obtain ⟨w1, hw1⟩ : ∃ w1, w1 = w.alloc (.cells #[.int .i64 (-1)] 3) := ⟨_, rfl⟩
  have hE1 : Ext w w1 := by rw [hw1]; exact (Ext.refl w).alloc _
  have hs1 : w1.heap.size = w.heap.size + 1 := by rw [hw1]; simp
  have hc1 : w1.cell? ⟨w.heap.size, 0, none⟩ = some (.int .i64 (-1)) := by rw [hw1, World.cell?_alloc_new]; rfl
  have HRep := Lib.hid (slices_Repeat h h1 h7 w.heap.size 1 w1 hc1 (by omega))
  have HE1 := Lib.hid hE1
  have Hw1 := Lib.hid hw1
  have HH := Lib.hid H
  have Hs1 := Lib.hid hs1
  clear hw1 hE1 hc1 H hs1
  go_enter Tryd.func79, Tryd.ntmps79
  go_wp2_with fail
  rw [← Hw1.out]
  refine HRep.out.mono ?_
  rintro e w2 ⟨rfl, he2, hi2⟩
  have hg2 := hi2.lt
  have hcell := hi2.cell (i := a) (by simpa using ha)
  have hfree := hi2.free a
  obtain ⟨gF, hgF⟩ : ∃ gF, gF = w1.heap.size := ⟨_, rfl⟩
  rw [← hgF] at hi2 hg2 hcell hfree ⊢
  have HgF : Hid (w.heap.size < gF) := by unfold Hid; rw [hgF, Hs1.out]; omega
  have hgF0 := HgF.out
  have HI2 := Lib.hid hi2
  have HE2 := Lib.hid (HE1.out.trans he2)
  clear hi2 he2 hgF HRep
  have hin0 : (-1 : Int) = (List.replicate h (-1 : Int)).getD a 0 := by simp [ha]
  rw [← hin0] at hcell
  clear hin0
  go_wp2_with fail
  obtain ⟨w3, hw3⟩ : ∃ w3, w3 = w2.setCell ⟨gF, a, none⟩ (.int .i64 (a : Int)) := ⟨_, rfl⟩
  rw [← hw3]
  have hs3 : w3.heap.size = w2.heap.size := by rw [hw3]; simp [World.setCell]
  have HI3 : Hid (IBlk w3 gF 3 (bs0 h a).f) := by unfold Hid; rw [hw3]; exact HI2.out.set a (a : Int)
  have HE3 : Hid (Ext w w3) := by unfold Hid; rw [hw3]; exact HE2.out.setCell (Nat.le_of_lt hgF0) _
  have hg3 : gF < w3.heap.size := by omega
  have HE3w := HE3.out.size
  have HQ := Lib.hid (QRow.one w3 w.heap.size [gF] 3 (a : Int) HE3w (by intro x hx; simp at hx; omega))
  have HI4 := Lib.hid (HI3.out.keep ((Ext.refl w3).alloc (.cells #[.int .i64 (a : Int)] 3)))
  have HE4 := Lib.hid (HE3.out.alloc (.cells #[.int .i64 (a : Int)] 3))
  have hbq := binv0 ha
  have HBI := Lib.hid hbq
  rw [show w2.heap.size = w3.heap.size from hs3.symm]
  clear hw3 hcell hfree HI2 HE2 hbq hs3
  go_loopg [10] h (fun fu qv wr => ∃ (i : Nat) (S : BS), h - i ≤ fu ∧ i ≤ S.q.length ∧ QRow wr w.heap.size [gF] 3 qv (S.q.drop i) ∧ IBlk wr gF 3 S.f ∧ Hid (BInv a h S) ∧ Hid (bfsAll ds h a = bfs ds h (h - i) i S) ∧ Ext w wr)
  case atStart => exact ⟨0, bs0 h a, Nat.le_refl _, Nat.zero_le _, HQ.out, HI4.out, HBI.out, rfl, HE4.out⟩
  case round =>
    obtain ⟨i, S, hfu, hi, hq, hI, hbi, hz, hb'⟩ := hrel
    have hqh := hbi.out.qle
    have hSl : Hid (S.f.length = h) := hbi.out.lf
    by_cases hlt : i < S.q.length
    · obtain ⟨wo, rfl⟩ : ∃ wo : World, wo = wr := ⟨_, rfl⟩
      have hSi : S.q.getD i 0 = S.q[i] := by simp [hlt]
      obtain ⟨p, hp, hxp, hfp⟩ := hbi.out.qin (S.q.getD i 0) (by rw [hSi]; exact List.getElem_mem hlt)
      obtain ⟨L, hL⟩ : ∃ L, L = S.q.drop i := ⟨_, rfl⟩
      rw [← hL] at hq
      have hLl : 0 < L.length := by rw [hL, List.length_drop]; omega
      have hL0 : L.getD 0 0 = (p : Int) := by rw [← hxp, hL]; simp
      obtain ⟨g, off, cap, rfl, hbg, hng, hgl, hcell⟩ := hq.form
      have c0 := hcell 0 hLl
      rw [hL0, Nat.add_zero] at c0
      have hlk := impl_wayIn1 h A n c ds (p : Int) bh wo (HH.out.keep hb') h7 hn12
      rw [linksTo_nbr hs.out] at hlk
      obtain ⟨ns, hns⟩ : ∃ ns, ns = nbr ds h (p : Int) := ⟨_, rfl⟩
      rw [← hns] at hlk
      obtain ⟨LL, hLL⟩ : ∃ LL, LL = ns.map fun (k : Nat) => (k : Int) := ⟨_, rfl⟩
      rw [← hLL] at hlk
      have hLLn : LL.length = ns.length := by rw [hLL]; simp
      have hLLh : LL.length ≤ h := by rw [hLLn, hns]; exact nbr_len _ _ _
      have HLk := Lib.hid hlk
      have HLL := Lib.hid hLL
      have Hns := Lib.hid hns
      have HLLn := Lib.hid hLLn
      have HL := Lib.hid hL
      have HQo := Lib.hid hq
      have HIo := Lib.hid hI
      have HEo := Lib.hid hb'
      have Hxp := Lib.hid hxp
      have hwo := hb'.size
      have hgFo := hI.lt
      have hcap : L.length ≤ h := by rw [hL, List.length_drop]; omega
      clear hlk hLL hns hLLn hL hq hI hcell hb' hSi hxp
      go_wp2_with fail
      refine HLk.out.mono ?_
      clear HLk
      rintro e w5 ⟨vl, rfl, he5, ho5⟩
      obtain ⟨Al, cl, rfl, hncl⟩ := own_form ho5
      obtain ⟨gl, hgl1, hgl2, hglw⟩ : ∃ gl, Hid (0 < LL.length → Al = some ⟨gl, 0, none⟩ ∧ PBlk w5 gl 3 LL) ∧ (gl = gF ∨ wo.heap.size ≤ gl) ∧ Hid (0 < LL.length → wo.heap.size ≤ gl) := by
        by_cases h0 : 1 ≤ LL.length
        · obtain ⟨gl, h1, h2, h3⟩ := PBlk.of_own ho5 h0
          exact ⟨gl, fun _ => ⟨h1, h3⟩, .inr h2, fun _ => h2⟩
        · exact ⟨gF, fun h => by omega, .inl rfl, fun h => by omega⟩
      have hgl3 : gl < w5.heap.size ∨ LL.length = 0 := by
        by_cases h0 : 0 < LL.length
        · exact .inl (hgl1.out h0).2.lt
        · exact .inr (by omega)
      have HQ5 := Lib.hid ((HQo.out.other (av' := [gF, gl]) (by intro x hx; simp at hx; rcases hx with rfl | rfl; exact .inl (by simp); rcases hgl2 with h | h; exact .inl (by simp [h]); exact .inr h)).keep he5)
      have HI5 := Lib.hid (HIo.out.keep he5)
      have HE5 := Lib.hid (HEo.out.trans he5)
      have hs5 := he5.size
      have hgl4 : gl = gF ∨ w.heap.size ≤ gl := by omega
      clear ho5 he5 hgl hng c0
      go_wp2_with fail
      go_loopw [10, 34] (fun qv jv wi => ∃ (j : Nat) (S' : BS), j ≤ LL.length ∧ jv = .int .i64 j ∧ QRow wi w.heap.size [gF, gl] 3 qv (S'.q.drop i) ∧ IBlk wi gF 3 S'.f ∧ Hid (BInv a h S') ∧ Hid (S' = (ns.take j).foldl (vis (p : Int)) S) ∧ Hid (S'.q.getD i 0 = (p : Int)) ∧ i < S'.q.length ∧ Hid (0 ≤ S'.f.getD p 0) ∧ Hid (0 < LL.length → PBlk wi gl 3 LL) ∧ Ext w wi) (fun _ jv _ => LL.length - (intOf jv).toNat)
      case atStart => exact ⟨0, S, Nat.zero_le _, rfl, by rw [← HL.out]; exact HQ5.out, HI5.out, hbi.out, rfl, Hxp.out, hlt, hfp, fun h => (hgl1.out h).2, HE5.out⟩
      case round =>
        obtain ⟨j, S', hj, rfl, hq', hI', hbi', hS', hxp', hlt', hfp', hpl, hE'⟩ := hrel
        have hL2l : 0 < (S'.q.drop i).length := by rw [List.length_drop]; omega
        by_cases hjl : j < LL.length
        · have hk0 : j < ns.length := by rw [← HLLn.out]; exact hjl
          obtain ⟨k, hk⟩ : ∃ k, ns[j]? = some k := ⟨ns[j], List.getElem?_eq_getElem hk0⟩
          have hkh : k < h := by
            have := List.mem_of_getElem? hk
            rw [Hns.out] at this
            exact nbr_lt this
          obtain ⟨hAl, hpb⟩ : Al = some ⟨gl, 0, none⟩ ∧ PBlk wr gl 3 LL := ⟨(hgl1.out (by omega)).1, hpl.out (by omega)⟩
          have cL := hpb.cell hjl
          have hLLj : LL.getD j 0 = (k : Int) := by rw [HLL.out]; simp [hk]
          rw [hLLj] at cL
          obtain ⟨L', hL'⟩ : ∃ L', L' = S'.q.drop i := ⟨_, rfl⟩
          rw [← hL'] at hq' hL2l
          have hL'0 : L'.getD 0 0 = (p : Int) := by rw [← hxp'.out, hL']; simp
          obtain ⟨g', off', cap', rfl, hbg', hng', hgl', hcell'⟩ := hq'.form
          have c0 := hcell' 0 hL2l
          rw [hL'0, Nat.add_zero] at c0
          have hl' : S'.f.length = h := hbi'.out.lf
          have cF := hI'.cell (i := k) (by rw [hl']; exact hkh)
          have fF := hI'.free k
          obtain ⟨fv, hfv⟩ : ∃ fv, fv = S'.f.getD k 0 := ⟨_, rfl⟩
          rw [← hfv] at cF
          have hgFl := hI'.lt
          have hLc : L'.length ≤ 7 := by
            have := hbi'.out.qle
            rw [hL', List.length_drop]; omega
          have hsn : Hid ((ns.take (j + 1)).foldl (vis (p : Int)) S = vis (p : Int) S' k) := by
            unfold Hid; rw [take_snoc hk, List.foldl_append, ← hS'.out]; rfl
          have hbv := hbi'.out.vis hp hfp'.out hkh
          have HFV := Lib.hid hfv
          have HL' := Lib.hid hL'
          have HQ' := Lib.hid hq'
          have HI' := Lib.hid hI'
          have HE' := Lib.hid hE'
          have HBV := Lib.hid hbv
          have HKh := Lib.hid hl'
          have hwr := hE'.size
          have hng1 := Lib.hid hng'
          have hglr : gl < wr.heap.size := hpb.lt
          subst hAl
          clear hfv hL' hq' hI' hE' hbv hl' hk hLLj hL'0 hcell' hng' hpb
          by_cases hneg : fv < 0
          · have hvis : Hid (vis (p : Int) S' k = ⟨S'.q ++ [(k : Int)], S'.f.set k (p : Int), S'.d.set k (S'.d.getD p 0 + 1)⟩) := by
              unfold Hid vis; rw [← HFV.out, if_pos hneg, Int.toNat_natCast]
            go_wp2_with (at_builtin; refine (fun h : Hid _ => h.out) ?_)
            unfold Hid
            obtain ⟨wj, hwj⟩ : ∃ wj, wj = wr.setCell ⟨gF, k, none⟩ (.int .i64 (p : Int)) := ⟨_, rfl⟩
            rw [← hwj]
            have hglF : gl ≠ gF := by have := hglw.out (by omega); omega
            have hszj : wj.heap.size = wr.heap.size := by rw [hwj]; simp [World.setCell]
            have hqj : QRow wj w.heap.size [gF, gl] 3 (.slice (some ⟨g', off', none⟩) L'.length cap') L' := by rw [hwj]; exact HQ'.out.far (by simp) k _
            have hij : IBlk wj gF 3 (S'.f.set k (p : Int)) := by rw [hwj]; exact HI'.out.set k (p : Int)
            have hpj : PBlk wj gl 3 LL := by
              obtain ⟨cur, hb, r⟩ := hpl.out (by omega)
              rw [hwj]
              exact ⟨cur, hb.far (p := ⟨gF, k, none⟩) hglF _, r⟩
            have hEj : Ext w wj := by rw [hwj]; exact HE'.out.setCell (Nat.le_of_lt hgF0) _
            refine QRow.append ei_I rfl _ _ rfl w.heap.size [gF, gl] wj _ _ L' (by rfl) hqj (k : Int) (by rw [hszj]; rfl) (by omega) (by omega) (by intro x hx; simp at hx; omega) ?_
            intro v7 w7 hq7 he7 hb7
            have HE7 := Lib.hid (he7 w hEj (Nat.le_refl _))
            have hi7 : IBlk w7 gF 3 (S'.f.set k (p : Int)) := hb7 gF (by simp) _ _ hij
            have HI7 := Lib.hid hi7
            have HP7 : Hid (0 < LL.length → PBlk w7 gl 3 LL) := by
              unfold Hid
              intro _
              obtain ⟨cur, hb, r⟩ := hpj
              exact ⟨cur, hb7 gl (by simp) _ _ hb, r⟩
            have hdr : (S'.q ++ [(k : Int)]).drop i = L' ++ [(k : Int)] := by rw [List.drop_append_of_le_length (by omega), ← HL'.out]
            rw [← hdr] at hq7
            have HQ7 := Lib.hid hq7
            have hq0 : (S'.q ++ [(k : Int)]).getD i 0 = (p : Int) ∧ i < (S'.q ++ [(k : Int)]).length := by
              rw [← hxp'.out]
              refine ⟨by simp [List.getElem?_append_left hlt'], by simp; omega⟩
            have hfp7 := vis_mono (x := (p : Int)) (k := k) (by omega) hfp'.out
            have HFP7 := Lib.hid hfp7
            have HQ0 := Lib.hid hq0
            clear hwj hszj hqj hij hpj hEj hq7 he7 hb7 hi7 hdr hq0 hfp7
            go_wp2_with fail
            go_roundw
            case rel => exact ⟨j + 1, vis (p : Int) S' k, by omega, by go_num, by rw [hvis.out]; exact HQ7.out, by rw [hvis.out]; exact HI7.out, HBV.out, by unfold Hid; rw [hsn.out], by unfold Hid; rw [hvis.out]; exact HQ0.out.1, by rw [hvis.out]; exact HQ0.out.2, HFP7.out, HP7.out, HE7.out⟩
            case measure => simp [intOf]; omega
          · have hvis : Hid (vis (p : Int) S' k = S') := by unfold Hid vis; rw [← HFV.out, if_neg hneg]
            go_wp2_with fail
            go_roundw
            case rel => exact ⟨j + 1, S', by omega, by go_num, by rw [← HL'.out]; exact HQ'.out, HI'.out, hbi'.out, by unfold Hid; rw [hsn.out, hvis.out], hxp'.out, hlt', hfp'.out, hpl.out, HE'.out⟩
            case measure => simp [intOf]; omega
        · obtain rfl : j = LL.length := by omega
          obtain ⟨v', hrun, hq2⟩ := QRow.tail (P := Tryd.prog) (t' := 27) (x := (p : Int)) (L := S'.q.drop (i + 1)) Tryd.underlying27 sz_int (by
            have : S'.q.drop i = (p : Int) :: S'.q.drop (i + 1) := by
              rw [List.drop_eq_getElem_cons hlt', ← hxp'.out]; simp [hlt']
            rw [← this]; exact hq')
          have HQ2 := Lib.hid (hq2.other (av' := [gF]) (by intro x hx; simp at hx; subst hx; exact .inl (by simp)))
          have HE' := Lib.hid hE'
          have HI' := Lib.hid hI'
          have hrnd : Hid (bfs ds h (h - i) i S = bfs ds h (h - (i + 1)) (i + 1) S') := by
            unfold Hid
            have e : h - i = (h - (i + 1)) + 1 := by omega
            rw [e, bfs, if_pos hlt, rnd_nbr, Hxp.out, ← Hns.out, hS'.out, List.take_of_length_le (by rw [HLLn.out]; exact Nat.le_refl _)]
          clear hq' hq2 hE' hI'
          go_wp2_with fail
          go_roundg (h - (i + 1))
          case measure => omega
          case rel => exact ⟨i + 1, S', Nat.le_refl _, hlt', HQ2.out, HI'.out, hbi'.out, by unfold Hid; rw [hz.out, hrnd.out], HE'.out⟩
    · have hSe : bfsAll ds h a = S := by
        rw [hz.out]
        cases h - i with
        | zero => rfl
        | succ m => rw [bfs, if_neg hlt]
      have HSe := Lib.hid hSe
      have cB := hI.cell (i := b) (by rw [hSl.out]; exact hb)
      obtain ⟨fv, hfv⟩ : ∃ fv, fv = S.f.getD b 0 := ⟨_, rfl⟩
      rw [← hfv] at cB
      have hL0 : ¬ 0 < (S.q.drop i).length := by rw [List.length_drop]; omega
      obtain ⟨L, hL⟩ : ∃ L, L = S.q.drop i := ⟨_, rfl⟩
      rw [← hL] at hq hL0
      obtain ⟨g, off, cap, rfl, hbg, hng, hgl, hcell⟩ := hq.form
      have hLz : L.length = 0 := by omega
      rw [hLz]
      have HFV := Lib.hid hfv
      have HI := Lib.hid hI
      have HE := Lib.hid hb'
      have hgFw := hI.lt
      clear hSe hfv hL hq hI hb' hcell hng hLz hL0
      by_cases hneg : fv < 0
      · go_wp2_with fail
        go_ret
        exact .inl ⟨by rw [HSe.out, ← HFV.out]; exact hneg, rfl, HE.out⟩
      · have hI5 := HSe
        have hbS : BInv a h S := hbi.out
        have hfb : 0 ≤ S.f.getD b 0 := by rw [← HFV.out]; omega
        have hdb : 0 ≤ S.d.getD b 0 ∧ S.d.getD b 0 < 8 := by
          have h1 := (hbS.iff_ b hb)
          have h2 := hbS.dlt_ b hb hfb
          omega
        obtain ⟨db, hdbe⟩ : ∃ db, db = S.d.getD b 0 := ⟨_, rfl⟩
        rw [← hdbe] at hdb
        have HDB := Lib.hid hdbe
        have HFB := Lib.hid hfb
        have HO0 := Lib.hid (own_one wr wr.heap.size 3 (b : Int) (Nat.le_refl _))
        have HE0 := Lib.hid ((Ext.refl wr).alloc (.cells #[.int .i64 (b : Int)] 3))
        clear hbS hfb hdbe hI5
        obtain ⟨hdb0, hdb8⟩ := hdb
        go_wp2_with fail
        obtain ⟨wq, rfl⟩ : ∃ wq : World, wq = wr := ⟨_, rfl⟩
        go_loopw [2, 13] (fun bv v wi => ∃ (q : Nat) (L : List Int), q < h ∧ bv = .int .i64 q ∧ Hid (0 ≤ S.f.getD q 0) ∧ wi.ownsRow wq.heap.size 3 1 v L.length (L.flatMap ienc) ∧ Hid ((L.length : Int) + S.d.getD q 0 = db + 1) ∧ Ext wq wi) (fun bv _ _ => (S.d.getD (intOf bv).toNat 0).toNat)
        case atStart => exact ⟨b, [(b : Int)], hb, rfl, HFB.out, HO0.out, by unfold Hid; rw [← HDB.out]; simp; omega, HE0.out⟩
        case round =>
          obtain ⟨q, L, hq, rfl, hfq, hown, hlen, hbw⟩ := hrel
          have hdq : 0 ≤ S.d.getD q 0 := by have := hbi.out.iff_ q hq; have := hfq.out; omega
          have hLb : L.length ≤ 9 := by have := hlen.out; omega
          by_cases hqa : q = a
          · have hbf : ((q : Int) != (a : Int)) = false := by rw [hqa]; simp
            have hL1 : L.length = db.toNat + 1 := by
              have h1 := hlen.out
              rw [hqa, hbi.out.root.2] at h1
              omega
            obtain ⟨Aw, cw, rfl, hncw⟩ := own_form hown
            obtain ⟨gw, rfl, hgw, hpw⟩ := PBlk.of_own hown (by omega)
            have HRev := Lib.hid (slices_Reverse gw L.length cw L wr hpw rfl (by omega))
            have HBw := Lib.hid hbw
            have HL1 := Lib.hid hL1
            clear hown hpw hbw hL1 hqa
            go_wp2_with fail
            refine HRev.out.mono ?_
            rintro e w9 ⟨rfl, hg9⟩
            have HE9 : Hid (Ext wq w9) := HBw.out.grown hg9 (fun k hk => by injection hk with hk; omega)
            clear hg9 HRev
            go_wp2_with fail
            go_ret
            exact .inr ⟨by rw [HSe.out]; exact HFB.out, gw, cw, by rw [HSe.out, ← HDB.out, ← HL1.out]; rfl, HE.out.trans HE9.out⟩
          · have hbt : ((q : Int) != (a : Int)) = true := by rw [bne_iff_ne]; omega
            obtain ⟨p, hp, hfp, hfp0, hdp⟩ := hbi.out.par q hq hfq.out hqa
            have cQ := (HI.out.keep hbw).cell (i := q) (by rw [hSl.out]; exact hq)
            rw [hfp] at cQ
            have HO := Lib.hid hown
            have HBw := Lib.hid hbw
            have hsw := hbw.size
            have HFP0 := Lib.hid hfp0
            have HDP := Lib.hid hdp
            clear hown hbw hfp hfp0 hdp hqa
            go_wp2_with (at_builtin; refine append1 ei_I rfl _ _ rfl wq.heap.size wr _ u13 L.length _ (by rfl) HO.out [.int .i64 p] (by rfl) rfl (by intro u hu; simp at hu; subst hu; rfl) (by omega) hsw ?_; intro v' w2' ho2 he2; have HO2 := Lib.hid ho2; have HE2 := Lib.hid (he2 wq HBw.out (Nat.le_refl _)); clear ho2 he2)
            go_roundw
            case rel =>
              refine ⟨p, L ++ [(p : Int)], hp, rfl, HFP0.out, ?_, by unfold Hid; have h1 := hlen.out; have h2 := HDP.out; rw [List.length_append]; simp only [List.length_cons, List.length_nil]; push_cast; omega, HE2.out⟩
              have := HO2.out
              simpa [ienc] using this
            case measure =>
              have h2 := HDP.out
              have h3 : 0 ≤ S.d.getD p 0 := by have h5 := hbi.out.iff_ p hp; have h6 := HFP0.out; omega
              simp only [intOf, Int.toNat_natCast, List.getD_eq_getElem?_getD] at h2 h3 ⊢
              generalize S.d[q]?.getD 0 = x1 at h2 ⊢
              generalize S.d[p]?.getD 0 = x2 at h2 h3 ⊢
              clear hdq
              omega
end Go.Proofs.YtfhibjehnoibeaaDoor
