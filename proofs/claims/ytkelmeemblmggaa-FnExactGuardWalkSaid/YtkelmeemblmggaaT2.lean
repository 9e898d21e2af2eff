/- Entries of a record and museums as Lean structures, and how their cells stand; no condition but what stands at each theorem. -/
import Derived.Test.YtkelmeemblmggaaKG
import Derived.Test.YtkelmeemblmggaaH3
namespace Go.Proofs.Ytkelmeemblmggaa
set_option linter.unusedSimpArgs false
set_option linter.unusedVariables false
open Go.RowKit Go.ChangeShapes Go.WideShapes Go.Deep Go.Sort
/-- An entry; its text is no longer than a string can be. -/
structure GEntry where
  m : Int
  x : ByteArray
  s : Int
  h : x.size ≤ 9223372036854775807
def GEntry.enc (e : GEntry) : List Value := [.int .i64 e.m, .string e.x, .int .i64 e.s]
theorem GEntry.len (e : GEntry) : e.enc.length = 3 := rfl
theorem GEntry.at_ {w : World} {A : Option Addr} {n k : Nat} {xs : List GEntry} (h : Rd w 3 A n (xs.flatMap GEntry.enc)) (hk : k < n) :
    ∃ (b off : Nat) (x : GEntry), A = some ⟨b, off, none⟩ ∧ b < w.heap.size ∧ xs[k]? = some x ∧ w.cell? ⟨b, off + k * 3, none⟩ = some (.int .i64 x.m) ∧ w.cell? ⟨b, off + k * 3 + 1, none⟩ = some (.string x.x) ∧ w.cell? ⟨b, off + k * 3 + 2, none⟩ = some (.int .i64 x.s) :=
  Rd.at3 (p := fun (s : GEntry) => .int .i64 s.m) (q := fun s => .string s.x) (r := fun s => .int .i64 s.s) (fun _ => rfl) h hk
structure GMuseum where
  H : Int
  ds : List GDoor
  fs : List Int
  ps : List Int
  gs : List Int
  d : Int
  rs : List GEntry
/-- A slice's three parts. -/
structure SL where
  A : Option Addr
  n : Nat
  c : Nat
/-- A museum's value: its numbers and the places of its five rows. -/
structure MV where
  H : Int
  sd : SL
  sf : SL
  sp : SL
  sg : SL
  d : Int
  sr : SL
def MV.cells (v : MV) : Array Value := #[.int .i64 v.H, .slice v.sd.A v.sd.n v.sd.c, .slice v.sf.A v.sf.n v.sf.c, .slice v.sp.A v.sp.n v.sp.c, .slice v.sg.A v.sg.n v.sg.c, .int .i64 v.d, .slice v.sr.A v.sr.n v.sr.c]
def MV.val (v : MV) : Value := .agg v.cells
/-- The value v reads as the museum m. -/
structure MRd (w : World) (v : MV) (m : GMuseum) : Prop where
  eH : v.H = m.H
  ed : v.d = m.d
  rd : Rd w 2 v.sd.A v.sd.n (m.ds.flatMap GDoor.enc)
  rf : Rd w 1 v.sf.A v.sf.n (m.fs.flatMap ienc)
  rp : Rd w 1 v.sp.A v.sp.n (m.ps.flatMap ienc)
  rg : Rd w 1 v.sg.A v.sg.n (m.gs.flatMap ienc)
  rr : Rd w 3 v.sr.A v.sr.n (m.rs.flatMap GEntry.enc)
theorem MRd.keep {w w' : World} {v : MV} {m : GMuseum} (h : MRd w v m) (e : Ext w w') : MRd w' v m :=
  ⟨h.eH, h.ed, h.rd.keep e, h.rf.keep e, h.rp.keep e, h.rg.keep e, h.rr.keep e⟩
/-- The cells of a museum in a box. -/
structure MBox (w : World) (b : Nat) (v : MV) : Prop where
  lt : b < w.heap.size
  c0 : w.cell? ⟨b, 0, none⟩ = some (.int .i64 v.H)
  c1 : w.cell? ⟨b, 1, none⟩ = some (.slice v.sd.A v.sd.n v.sd.c)
  c2 : w.cell? ⟨b, 2, none⟩ = some (.slice v.sf.A v.sf.n v.sf.c)
  c3 : w.cell? ⟨b, 3, none⟩ = some (.slice v.sp.A v.sp.n v.sp.c)
  c4 : w.cell? ⟨b, 4, none⟩ = some (.slice v.sg.A v.sg.n v.sg.c)
  c5 : w.cell? ⟨b, 5, none⟩ = some (.int .i64 v.d)
  c6 : w.cell? ⟨b, 6, none⟩ = some (.slice v.sr.A v.sr.n v.sr.c)
theorem MBox.keep {w w' : World} {b : Nat} {v : MV} (h : MBox w b v) (e : Ext w w') : MBox w' b v := by
  have k := fun o => e.cellAt b h.lt o
  exact ⟨Nat.lt_of_lt_of_le h.lt e.size, (k 0).trans h.c0, (k 1).trans h.c1, (k 2).trans h.c2, (k 3).trans h.c3, (k 4).trans h.c4, (k 5).trans h.c5, (k 6).trans h.c6⟩
theorem MBox.new {w wb : World} {v : MV} {t : TypeId} (h : wb = w.alloc (.cells v.cells t)) : MBox wb w.heap.size v := by
  subst h
  refine ⟨by simp, ?_, ?_, ?_, ?_, ?_, ?_, ?_⟩ <;> (rw [World.cell?_alloc_new]; rfl)
theorem MBox.regrown {w : World} {b : Nat} {v : MV} (h : MBox w b v) (d : Nat) (os : Array Obj) : MBox (grow (redrawn w d) os) b v := h.keep (ext_rg w d os)
theorem opens_Entry : Opens Try.prog 81 GEntry.enc := by
  intro H enc w n cs x h
  obtain ⟨hl, hf⟩ := open_fields Try.underlying81 (by kernel_rfl) (by kernel_rfl) h
  obtain ⟨v0, n0, y0, e0, r0⟩ := hf 0 _ rfl
  obtain ⟨z0, rfl, _⟩ := int_of_trod Try.underlying3 r0
  obtain ⟨v1, n1, y1, e1, r1⟩ := hf 1 _ rfl
  obtain ⟨z1, rfl, hz1⟩ := string_of_trod Try.underlying9 r1
  obtain ⟨v2, n2, y2, e2, r2⟩ := hf 2 _ rfl
  obtain ⟨z2, rfl, _⟩ := int_of_trod Try.underlying3 r2
  exact ⟨⟨z0, z1, z2, by unfold maxLen at hz1; omega⟩, by
    apply List.ext_getElem? ; intro i
    have hs : cs.length = 3 := hl
    match i with
    | 0 => rw [e0]; rfl
    | 1 => rw [e1]; rfl
    | 2 => rw [e2]; rfl
    | i + 3 => rw [List.getElem?_eq_none (by omega), List.getElem?_eq_none (by simp [GEntry.enc])]⟩
end Go.Proofs.Ytkelmeemblmggaa
