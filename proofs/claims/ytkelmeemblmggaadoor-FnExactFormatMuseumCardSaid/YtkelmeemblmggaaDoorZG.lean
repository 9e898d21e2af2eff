/- Texts of one proof, laid one behind the other (SN2, SN3, SN4, SN5, SN6, SN7, SHj, MG, SN9); no condition but what stands at each theorem. -/
import Derived.Test.YtkelmeemblmggaaDoorZE
import Derived.Test.YtkelmeemblmggaaDoorZF
/- Contract of the reference's copy of a museum; no condition but what stands at each theorem. -/
namespace Go.Proofs.YtkelmeemblmggaaDoor
set_option linter.unusedSimpArgs false
set_option linter.unusedVariables false
open Go.RowKit Go.Sort
theorem ei_DoorN : EI Tryd.prog 32 95 2 := ei_of Tryd.underlying32 (by omega) (by kernel_rfl)
/-- The cells of a museum's box, told again. -/
def MCell (w : World) (b : Nat) (v : MV) : Prop := w.cell? ⟨b, 0, none⟩ = some (.int .i64 v.H) ∧ w.cell? ⟨b, 1, none⟩ = some (.slice v.sd.A v.sd.n v.sd.c) ∧ w.cell? ⟨b, 2, none⟩ = some (.slice v.sf.A v.sf.n v.sf.c) ∧ w.cell? ⟨b, 3, none⟩ = some (.slice v.sp.A v.sp.n v.sp.c) ∧ w.cell? ⟨b, 4, none⟩ = some (.slice v.sg.A v.sg.n v.sg.c) ∧ w.cell? ⟨b, 5, none⟩ = some (.int .i64 v.d) ∧ w.cell? ⟨b, 6, none⟩ = some (.slice v.sr.A v.sr.n v.sr.c)
theorem MBox.cell {w : World} {b : Nat} {v : MV} (h : MBox w b v) : MCell w b v := ⟨h.c0, h.c1, h.c2, h.c3, h.c4, h.c5, h.c6⟩
theorem heap_size_allocN (w : World) (o : Obj) : (w.alloc o).heap.size = w.heap.size + 1 := by simp
set_option maxRecDepth 100000 in
set_option maxHeartbeats 4000000 in
theorem spec_l38Copy (v : MV) (m : GMuseum) (w : World) (hx : MRd w v m) (hf : MFit v) : Calls Tryd.prog 88 #[v.val] w (CopyPost m w) := by
  obtain ⟨wb, hwb⟩ : ∃ wb, wb = w.alloc (.cells v.cells 37) := ⟨_, rfl⟩
  have hbx := MBox.new hwb
  have hE : Ext w wb := by rw [hwb]; exact (Ext.refl w).alloc _
  obtain ⟨wz, hwz⟩ : ∃ wz, wz = wb.alloc (.cells #[.int .i64 0, .slice none 0 0, .slice none 0 0, .slice none 0 0, .slice none 0 0, .int .i64 0, .slice none 0 0] 37) := ⟨_, rfl⟩
  have hEz : Ext wb wz := by rw [hwz]; exact (Ext.refl wb).alloc _
  have hsb : wb.heap.size = w.heap.size + 1 := by rw [hwb]; simp
  have hsz : wz.heap.size = w.heap.size + 1 + 1 := by rw [hwz]; simp [hsb]
  have HBz : Hid (Blk wz (w.heap.size + 1) 37 #[.int .i64 0, .slice none 0 0, .slice none 0 0, .slice none 0 0, .slice none 0 0, .int .i64 0, .slice none 0 0]) := Lib.hid (by rw [hwz, ← hsb]; exact Blk.new _ _ _)
  have HX := Lib.hid (hx.keep (hE.trans hEz))
  have HB := Lib.hid (hbx.keep hEz)
  have HE := Lib.hid (hE.trans hEz)
  have HF := Lib.hid hf
  have HeH := Lib.hid hx.eH
  have Hed := Lib.hid hx.ed
  obtain ⟨Hh, ⟨A0, n0, c0⟩, ⟨A1, n1, c1⟩, ⟨A2, n2, c2⟩, ⟨A3, n3, c3⟩, day, ⟨A4, n4, c4⟩⟩ := v
  have Hwz : Hid (wz = (w.alloc (.cells #[.int .i64 Hh, .slice A0 n0 c0, .slice A1 n1 c1, .slice A2 n2 c2, .slice A3 n3 c3, .int .i64 day, .slice A4 n4 c4] 37)).alloc (.cells #[.int .i64 0, .slice none 0 0, .slice none 0 0, .slice none 0 0, .slice none 0 0, .int .i64 0, .slice none 0 0] 37)) := Lib.hid (by rw [hwz, hwb]; rfl)
  have nd : n0 ≤ 1048576 := hf.nd
  have nf : n1 ≤ 1048576 := hf.nf
  have np : n2 ≤ 1048576 := hf.np
  have ng : n3 ≤ 1048576 := hf.ng
  have nr : n4 ≤ 1048576 := hf.nr
  have hzl : w.heap.size + 1 < wz.heap.size := by omega
  clear hwb hwz hbx hE hEz hx hf hsb hsz
  show Calls Tryd.prog 88 #[.agg #[.int .i64 Hh, .slice A0 n0 c0, .slice A1 n1 c1, .slice A2 n2 c2, .slice A3 n3 c3, .int .i64 day, .slice A4 n4 c4]] w _
  obtain ⟨b0, b1, b2, b3, b4, b5, b6⟩ := HB.out.cell
  simp only at b0 b1 b2 b3 b4 b5 b6
  go_enter Tryd.func88, Tryd.ntmps88
  go_wp2_with fail
  rw [← Hwz.out]
  have HOe := Lib.hid (own_keep (own_empty wz wz.heap.size 95 2 (Nat.le_refl _)) (Ext.refl _).drew)
  have m1 : w.heap.size ≠ w.heap.size + 1 := by omega
  have m2 : w.heap.size + 1 ≠ w.heap.size := by omega
  have cF := Lib.hid (fun W (he : Ext wz W) => spec_l35CopyN A1 n1 c1 m.fs W (HX.out.rf.keep he) (Lib.hid HF.out.zf) nf)
  have cP := Lib.hid (fun W (he : Ext wz W) => spec_l35CopyN A2 n2 c2 m.ps W (HX.out.rp.keep he) (Lib.hid HF.out.zp) np)
  have cG := Lib.hid (fun W (he : Ext wz W) => spec_l35CopyN A3 n3 c3 m.gs W (HX.out.rg.keep he) (Lib.hid HF.out.zg) ng)
  have cR := Lib.hid (fun W (he : Ext wz W) => spec_l30Copy A4 n4 c4 m.rs W (HX.out.rr.keep he) (Lib.hid HF.out.zr) nr)
  go_region_held3 (fun w' => w'.cell? ⟨w.heap.size, 0, none⟩ = some (.int .i64 Hh) ∧ w'.cell? ⟨w.heap.size, 1, none⟩ = some (.slice A0 n0 c0) ∧ w'.cell? ⟨w.heap.size, 2, none⟩ = some (.slice A1 n1 c1) ∧ w'.cell? ⟨w.heap.size, 3, none⟩ = some (.slice A2 n2 c2) ∧ w'.cell? ⟨w.heap.size, 4, none⟩ = some (.slice A3 n3 c3) ∧ w'.cell? ⟨w.heap.size, 5, none⟩ = some (.int .i64 day) ∧ w'.cell? ⟨w.heap.size, 6, none⟩ = some (.slice A4 n4 c4)) (first | (refine ⟨?_, ?_, ?_, ?_, ?_, ?_, ?_⟩ <;> simp only [cell_set_far, m2, ne_eq, not_false_eq_true] <;> assumption) | go_keep) (first
    | (refine step_appAt ei_DoorN (by rfl) _ _ (by rfl) wz.heap.size (wz.alloc (.cells #[] 95)).drew (.slice (some ⟨wz.heap.size, 0, none⟩) 0 0) 0 [] (by rfl) HOe.out A0 n0 c0 (m.ds.flatMap GDoor.enc) (by rfl) ((HX.out.rd.alloc _).drew) HF.out.zd (one_GDoorN _) (by omega) (by show wz.heap.size ≤ (wz.alloc _).heap.size; rw [heap_size_allocN]; omega) ?_; intro v1 w1 ho1 hg1 hv1; have he1 : Ext wz w1 := Ext.grown ((Ext.refl wz).alloc _).drew hg1 (fun q hq => (HOe.out.lt q hq).1); rw [Nat.zero_add, List.nil_append] at ho1; obtain ⟨Ad, kd, hvd, hkd⟩ := own_form ho1; subst hvd; obtain ⟨y0, y1, y2, y3, y4, y5, y6⟩ := (HB.out.keep he1).cell; simp only at y0 y1 y2 y3 y4 y5 y6; have q1 : w.heap.size < w1.heap.size := (by have := he1.size; omega); have q2 : w.heap.size + 1 < w1.heap.size := (by have := he1.size; omega))
    | (go_at_call 106; (with_reducible show Calls _ _ #[.slice A1 n1 c1] _ _); refine (cF.out _ he1).mono ?_; rintro e w2 ⟨g2, k2, rfl, h2, o2⟩; have he2 : Ext wz w2 := he1.trans h2; obtain ⟨y0, y1, y2, y3, y4, y5, y6⟩ := (HB.out.keep he2).cell; simp only at y0 y1 y2 y3 y4 y5 y6; have q1 : w.heap.size < w2.heap.size := (by have := he2.size; omega); have q2 : w.heap.size + 1 < w2.heap.size := (by have := he2.size; omega))
    | (go_at_call 106; (with_reducible show Calls _ _ #[.slice A2 n2 c2] _ _); refine (cP.out _ he2).mono ?_; rintro e w3 ⟨g3, k3, rfl, h3, o3⟩; have he3 : Ext wz w3 := he2.trans h3; obtain ⟨y0, y1, y2, y3, y4, y5, y6⟩ := (HB.out.keep he3).cell; simp only at y0 y1 y2 y3 y4 y5 y6; have q1 : w.heap.size < w3.heap.size := (by have := he3.size; omega); have q2 : w.heap.size + 1 < w3.heap.size := (by have := he3.size; omega))
    | (go_at_call 106; (with_reducible show Calls _ _ #[.slice A3 n3 c3] _ _); refine (cG.out _ he3).mono ?_; rintro e w4 ⟨g4, k4, rfl, h4, o4⟩; have he4 : Ext wz w4 := he3.trans h4; obtain ⟨y0, y1, y2, y3, y4, y5, y6⟩ := (HB.out.keep he4).cell; simp only at y0 y1 y2 y3 y4 y5 y6; have q1 : w.heap.size < w4.heap.size := (by have := he4.size; omega); have q2 : w.heap.size + 1 < w4.heap.size := (by have := he4.size; omega))
    | (go_at_call 107; refine (cR.out _ he4).mono ?_; rintro e w5 ⟨g5, k5, rfl, h5, o5⟩; have he5 : Ext wz w5 := he4.trans h5; have Bz := Blk.keep HBz.out he5; have x0 := Bz.cellAt (i := 0) (by simp); have x1 := Bz.cellAt (i := 1) (by simp); have x2 := Bz.cellAt (i := 2) (by simp); have x3 := Bz.cellAt (i := 3) (by simp); have x4 := Bz.cellAt (i := 4) (by simp); have x5 := Bz.cellAt (i := 5) (by simp); have x6 := Bz.cellAt (i := 6) (by simp); have fz := Bz.free; simp at x0 x1 x2 x3 x4 x5 x6; obtain ⟨y0, y1, y2, y3, y4, y5, y6⟩ := (HB.out.keep he5).cell; simp only at y0 y1 y2 y3 y4 y5 y6; have q1 : w.heap.size < w5.heap.size := (by have := he5.size; omega); have q2 : w.heap.size + 1 < w5.heap.size := (by have := he5.size; omega)))
  have hE5 := HE.out.trans he5
  have hO5 : MOwn w5 wz.heap.size ⟨Hh, ⟨Ad, n0, kd⟩, ⟨some ⟨g2, 0, none⟩, n1, k2⟩, ⟨some ⟨g3, 0, none⟩, n2, k3⟩, ⟨some ⟨g4, 0, none⟩, n3, k4⟩, day, ⟨some ⟨g5, 0, none⟩, n4, k5⟩⟩ m := by
    have ad := At.of_own ho1
    have af := At.of_own o2
    have ap := At.of_own o3
    have ag := At.of_own o4
    have ar := At.of_own o5
    have z2 := h2.size
    have z3 := h3.size
    have z4 := h4.size
    have z5 := h5.size
    refine ⟨HeH.out, Hed.out, own_keep ho1 (h2.trans (h3.trans (h4.trans h5))), own_weak (own_keep o2 (h3.trans (h4.trans h5))) he1.size, own_weak (own_keep o3 (h4.trans h5)) he2.size, own_weak (own_keep o4 h5) he3.size, own_weak o5 he4.size, ?_⟩
    exact apart5 (Apart.of_at ad af (.inl (Nat.le_refl _))) (Apart.of_at ad ap (.inl z2)) (Apart.of_at ad ag (.inl (Nat.le_trans z2 z3))) (Apart.of_at ad ar (.inl (Nat.le_trans z2 (Nat.le_trans z3 z4))))
      (Apart.of_at af ap (.inl (Nat.le_refl _))) (Apart.of_at af ag (.inl z3)) (Apart.of_at af ar (.inl (Nat.le_trans z3 z4))) (Apart.of_at ap ag (.inl (Nat.le_refl _))) (Apart.of_at ap ar (.inl z4)) (Apart.of_at ag ar (.inl (Nat.le_refl _)))
  obtain ⟨b6', k6⟩ := store7 Bz (.int .i64 Hh) (.slice Ad n0 kd) (.slice (some ⟨g2, 0, none⟩) n1 k2) (.slice (some ⟨g3, 0, none⟩) n2 k3) (.slice (some ⟨g4, 0, none⟩) n3 k4) (.int .i64 day) (.slice (some ⟨g5, 0, none⟩) n4 k5)
  have hO6 := hO5.out k6 (by omega)
  have hE6 := k6.ext hE5 (by omega)
  generalize ((((((w5.setCell ⟨w.heap.size + 1, 0, none⟩ (.int .i64 Hh)).setCell ⟨w.heap.size + 1, 1, none⟩ (.slice Ad n0 kd)).setCell ⟨w.heap.size + 1, 2, none⟩ (.slice (some ⟨g2, 0, none⟩) n1 k2)).setCell ⟨w.heap.size + 1, 3, none⟩ (.slice (some ⟨g3, 0, none⟩) n2 k3)).setCell ⟨w.heap.size + 1, 4, none⟩ (.slice (some ⟨g4, 0, none⟩) n3 k4)).setCell ⟨w.heap.size + 1, 5, none⟩ (.int .i64 day)).setCell ⟨w.heap.size + 1, 6, none⟩ (.slice (some ⟨g5, 0, none⟩) n4 k5) = w6 at b6' k6 hO6 hE6 ⊢
  have HO6 := Lib.hid (hO6.weak (show w.heap.size ≤ wz.heap.size by omega))
  have HE6 := Lib.hid hE6
  have t0 := b6'.cellAt (i := 0) (by simp)
  have t1 := b6'.cellAt (i := 1) (by simp)
  have t2 := b6'.cellAt (i := 2) (by simp)
  have t3 := b6'.cellAt (i := 3) (by simp)
  have t4 := b6'.cellAt (i := 4) (by simp)
  have t5 := b6'.cellAt (i := 5) (by simp)
  have t6 := b6'.cellAt (i := 6) (by simp)
  simp at t0 t1 t2 t3 t4 t5 t6
  clear b6' k6 hO6 hE6 hO5 hE5 Bz x0 x1 x2 x3 x4 x5 x6 fz ho1 hg1 hv1 o2 o3 o4 o5 h2 h3 h4 h5 he1 he2 he3 he4 he5 y0 y1 y2 y3 y4 y5 y6
  go_wp2_with fail
  refine bodyPost_ret (v := MV.val ⟨Hh, ⟨Ad, n0, kd⟩, ⟨some ⟨g2, 0, none⟩, n1, k2⟩, ⟨some ⟨g3, 0, none⟩, n2, k3⟩, ⟨some ⟨g4, 0, none⟩, n3, k4⟩, day, ⟨some ⟨g5, 0, none⟩, n4, k5⟩⟩) (by simp [results, Tryd.results88, go_sem, t0, t1, t2, t3, t4, t5, t6, MV.val, MV.cells]) rfl ?_
  exact ⟨_, rfl, HE6.out, HO6.out⟩
end Go.Proofs.YtkelmeemblmggaaDoor
/- Contract of the program's copy of a museum; no condition but what stands at each theorem. -/
namespace Go.Proofs.YtkelmeemblmggaaDoor
set_option linter.unusedSimpArgs false
set_option linter.unusedVariables false
open Go.RowKit Go.Sort
/-- One row of the copy: not begun, an empty row of its own, or filled. -/
structure RS (W : World) (base : Nat) (e : TypeId) (m n : Nat) (xs : List Value) (b a : Bool) (yb ya u : Value) : Prop where
  nob : b = false → u = .slice none 0 0
  mid : b = true → a = false → yb = u
  fin : a = true → ya = u
  own : W.ownsRow base e m u (if a then n else 0) (if a then xs else [])
  ab : a = true → b = true
theorem RS.keep {W W' : World} {base : Nat} {e : TypeId} {m n : Nat} {xs : List Value} {b a : Bool} {yb ya u : Value} (h : RS W base e m n xs b a yb ya u) (k : Ext W W') : RS W' base e m n xs b a yb ya u :=
  ⟨h.nob, h.mid, h.fin, own_keep h.own k, h.ab⟩
theorem RS.other {W W' : World} {base : Nat} {e : TypeId} {m n : Nat} {xs : List Value} {b a : Bool} {yb ya u v : Value} (h : RS W base e m n xs b a yb ya u) (k : Apart u v) (g : W.grownBy W' v.ownBlock) : RS W' base e m n xs b a yb ya u :=
  ⟨h.nob, h.mid, h.fin, own_apart h.own k g, h.ab⟩
theorem RS.made {W : World} {base : Nat} {e : TypeId} {m n : Nat} {xs : List Value} {yb ya u : Value} (_h : RS W base e m n xs false false yb ya u) (hb : base ≤ W.heap.size) (y : Value) : RS (W.alloc (.cells #[] e)) base e m n xs true false (.slice (some ⟨W.heap.size, 0, none⟩) 0 0) y (.slice (some ⟨W.heap.size, 0, none⟩) 0 0) :=
  ⟨fun h => (by cases h), fun _ _ => rfl, fun h => (by cases h), own_empty W base e m hb, fun h => (by cases h)⟩
theorem apart_nil (v : Value) : Apart (.slice none 0 0) v := fun g h => by simp [Value.ownBlock] at h
theorem apart_new {W : World} {base : Nat} {e : TypeId} {m n : Nat} {v : Value} {L : List Value} (h : W.ownsRow base e m v n L) : Apart v (.slice (some ⟨W.heap.size, 0, none⟩) 0 0) := fun g hg hg' => by
  have := (h.lt g hg).2
  simp [Value.ownBlock] at hg'
  omega
theorem apart_grown {W : World} {base : Nat} {e : TypeId} {m n : Nat} {u v v' : Value} {L : List Value} (h : Apart u v) (hu : W.ownsRow base e m u n L) (hv : ∀ g, v'.ownBlock = some g → v.ownBlock = some g ∨ W.heap.size ≤ g) : Apart u v' := fun g hg hg' => by
  rcases hv g hg' with h1 | h1
  · exact h g hg h1
  · have := (hu.lt g hg).2
    omega
def nat1 (b : Bool) : Nat := if b then 0 else 1
theorem nat1_f : nat1 false = 1 := rfl
theorem nat1_t : nat1 true = 0 := rfl
theorem kill {x : Bool} (h : x = true) (k : x = false) : False := by rw [h] at k; cases k
theorem ready_at {md : Region.Mode} {ops : Array Oper} {listed : Array Bool} {i : Nat} (h : i ∈ Region.ready md ops listed) :
    i < ops.size ∧ (!listed.getD i true) = true ∧ ((ops[i]?).map (·.after.all fun e => !Region.binds md e || listed.getD e.on false)).getD false = true := by
  unfold Region.ready at h
  obtain ⟨h1, h2⟩ := List.mem_filter.1 h
  rw [Bool.and_eq_true] at h2
  exact ⟨List.mem_range.1 h1, h2.1, h2.2⟩
theorem ready_ne {md : Region.Mode} {ops : Array Oper} {listed : Array Bool} (i : Nat) (h0 : i < ops.size) (h : (!listed.getD i true && ((ops[i]?).map (·.after.all fun e => !Region.binds md e || listed.getD e.on false)).getD false) = true) : Region.ready md ops listed ≠ [] := by
  intro he
  have : i ∈ Region.ready md ops listed := List.mem_filter.2 ⟨List.mem_range.2 h0, h⟩
  rw [he] at this
  cases this
end Go.Proofs.YtkelmeemblmggaaDoor
/- Contracts of NextDays; no condition but what stands at each theorem. -/
namespace Go.Proofs.YtkelmeemblmggaaDoor
set_option linter.unusedSimpArgs false
set_option linter.unusedVariables false
open Go.RowKit Go.Sort
/-- A museum and a further value have been told, the museum in rows of the call's own. -/
def MPost (m : GMuseum) (x : Value) (w : World) (e : Ending) (w' : World) : Prop := ∃ v : MV, e = .returned (.tuple #[v.val, x]) ∧ Ext w w' ∧ MOwn w' w.heap.size v m
def daysB (m : GMuseum) (d : Int) : Bool := museumB m && (inB d 1 1000 && decide (m.d + d ≤ 1000000))
def daysM (m : GMuseum) (d : Int) : GMuseum := if daysB m d then { m with d := m.d + d } else m
theorem museumB_d {m : GMuseum} (h : museumB m = true) : 0 ≤ m.d ∧ m.d ≤ 1000000 := by
  unfold museumB at h
  simp only [Bool.and_eq_true] at h
  have := h.2.2.2.2.2.1
  simp only [inB, Bool.and_eq_true, decide_eq_true_eq] at this
  exact this
theorem MOwn.day {w : World} {base : Nat} {v : MV} {m : GMuseum} (h : MOwn w base v m) (d : Int) : MOwn w base { v with d := d } { m with d := d } := ⟨h.eH, rfl, h.od, h.of_, h.op, h.og, h.or_, h.ap⟩
end Go.Proofs.YtkelmeemblmggaaDoor
/- Contract of the reference's NextDays; no condition but what stands at each theorem. -/
namespace Go.Proofs.YtkelmeemblmggaaDoor
set_option linter.unusedSimpArgs false
set_option linter.unusedVariables false
open Go.RowKit Go.Sort
set_option maxRecDepth 100000 in
set_option maxHeartbeats 4000000 in
theorem spec_NextDays (v : MV) (m : GMuseum) (d : Int) (w : World) (hx : MRd w v m) (hf : MFit v) : Calls Tryd.prog 75 #[v.val, .int .i64 d] w (MPost (daysM m d) (.bool (daysB m d)) w) := by
  obtain ⟨wb, hwb⟩ : ∃ wb, wb = w.alloc (.cells v.cells 37) := ⟨_, rfl⟩
  have hbx := MBox.new hwb
  have hE : Ext w wb := by rw [hwb]; exact (Ext.refl w).alloc _
  obtain ⟨wz, hwz⟩ : ∃ wz, wz = wb.alloc (.cells #[.int .i64 0, .slice none 0 0, .slice none 0 0, .slice none 0 0, .slice none 0 0, .int .i64 0, .slice none 0 0] 37) := ⟨_, rfl⟩
  have hEz : Ext wb wz := by rw [hwz]; exact (Ext.refl wb).alloc _
  have hsb : wb.heap.size = w.heap.size + 1 := by rw [hwb]; simp
  have hsz : wz.heap.size = w.heap.size + 1 + 1 := by rw [hwz]; simp [hsb]
  have HBz : Hid (Blk wz (w.heap.size + 1) 37 #[.int .i64 0, .slice none 0 0, .slice none 0 0, .slice none 0 0, .slice none 0 0, .int .i64 0, .slice none 0 0]) := Lib.hid (by rw [hwz, ← hsb]; exact Blk.new _ _ _)
  have HX := Lib.hid (hx.keep (hE.trans hEz))
  have HB := Lib.hid (hbx.keep hEz)
  have HE := Lib.hid (hE.trans hEz)
  have cC := Lib.hid (spec_l38Copy v m wz HX.out hf)
  have cM := Lib.hid (fun W (he : Ext wz W) => spec_MuseumOk v m W (HX.out.keep he))
  obtain ⟨Hh, ⟨A0, n0, c0⟩, ⟨A1, n1, c1⟩, ⟨A2, n2, c2⟩, ⟨A3, n3, c3⟩, day, ⟨A4, n4, c4⟩⟩ := v
  have Hwz : Hid (wz = (w.alloc (.cells #[.int .i64 Hh, .slice A0 n0 c0, .slice A1 n1 c1, .slice A2 n2 c2, .slice A3 n3 c3, .int .i64 day, .slice A4 n4 c4] 37)).alloc (.cells #[.int .i64 0, .slice none 0 0, .slice none 0 0, .slice none 0 0, .slice none 0 0, .int .i64 0, .slice none 0 0] 37)) := Lib.hid (by rw [hwz, hwb]; rfl)
  have hday : day = m.d := hx.ed
  subst hday
  have hzl : w.heap.size + 1 < wz.heap.size := by omega
  clear hwb hwz hbx hE hEz hx hf hsb hsz
  show Calls Tryd.prog 75 #[.agg #[.int .i64 Hh, .slice A0 n0 c0, .slice A1 n1 c1, .slice A2 n2 c2, .slice A3 n3 c3, .int .i64 m.d, .slice A4 n4 c4], .int .i64 d] w _
  obtain ⟨b0, b1, b2, b3, b4, b5, b6⟩ := HB.out.cell
  simp only at b0 b1 b2 b3 b4 b5 b6
  have Hb0 := Lib.hid b0
  rw [Hwz.out] at b0 b1 b2 b3 b4 b5 b6
  go_enter Tryd.func75, Tryd.ntmps75
  go_wp2_with (go_at_call 88; refine (fun h : Hid _ => h.out) ?_)
  unfold Hid
  rw [← Hwz.out]
  refine cC.out.mono ?_
  rintro e w1 ⟨v1, hev, he1, ho1⟩
  obtain ⟨Hh1, ⟨A01, n01, c01⟩, ⟨A11, n11, c11⟩, ⟨A21, n21, c21⟩, ⟨A31, n31, c31⟩, day1, ⟨A41, n41, c41⟩⟩ := v1
  simp only [MV.val, MV.cells] at hev
  subst hev
  have hd1 : day1 = m.d := ho1.ed
  subst hd1
  obtain ⟨w2, hw2⟩ : ∃ w2, w2 = w1.alloc (.cells #[.int .i64 Hh1, .slice A01 n01 c01, .slice A11 n11 c11, .slice A21 n21 c21, .slice A31 n31 c31, .int .i64 m.d, .slice A41 n41 c41] 37) := ⟨_, rfl⟩
  have hB6 : Blk w2 w1.heap.size 37 #[.int .i64 Hh1, .slice A01 n01 c01, .slice A11 n11 c11, .slice A21 n21 c21, .slice A31 n31 c31, .int .i64 m.d, .slice A41 n41 c41] := by rw [hw2]; exact Blk.new _ _ _
  have he2 : Ext w1 w2 := by rw [hw2]; exact (Ext.refl _).alloc _
  have HB6 := Lib.hid hB6
  have HAT1 := MAt.of_own ho1
  have HO2 := Lib.hid (ho1.keep he2)
  have HE2 := Lib.hid (he1.trans he2)
  have HW2 := Lib.hid hw2
  have hz2 : wz.heap.size ≤ w1.heap.size := he1.size
  have hs2 : w2.heap.size = w1.heap.size + 1 := by rw [hw2]; simp
  have cM2 := cM.out w2 HE2.out
  have HCM := Lib.hid cM2
  clear cM2 hB6 he2 ho1 he1 hw2 b0 b1 b2 b3 b4 b5 b6 cC cM
  obtain ⟨b0, b1, b2, b3, b4, b5, b6⟩ := (HB.out.keep HE2.out).cell
  simp only at b0 b1 b2 b3 b4 b5 b6
  rw [HW2.out] at b0 b1 b2 b3 b4 b5 b6
  go_wp2_with (go_at_call 20; refine (fun h : Hid _ => h.out) ?_)
  unfold Hid
  rw [← HW2.out]
  refine HCM.out.mono ?_
  rintro e w3 ⟨rfl, he3⟩
  have HE3 := Lib.hid (HE2.out.trans he3)
  have HO3 := Lib.hid (HO2.out.keep he3)
  have HB63 := Lib.hid (HB6.out.keep he3)
  have hz3 : w2.heap.size ≤ w3.heap.size := he3.size
  clear he3 b0 b1 b2 b3 b4 b5 b6 HCM
  have HAT := Lib.hid HAT1
  by_cases hm : museumB m = true
  case neg =>
    have hm' : museumB m = false := by simpa using hm
    have HF : Hid (daysB m d = false) := Lib.hid (by simp [daysB, hm'])
    have HM : Hid (daysM m d = m) := Lib.hid (by rw [daysM, HF.out]; rfl)
    rw [hm']
    clear hm hm'
    have Bz := Blk.keep HBz.out HE3.out
    have x0 := Bz.cellAt (i := 0) (by simp)
    have x1 := Bz.cellAt (i := 1) (by simp)
    have x2 := Bz.cellAt (i := 2) (by simp)
    have x3 := Bz.cellAt (i := 3) (by simp)
    have x4 := Bz.cellAt (i := 4) (by simp)
    have x5 := Bz.cellAt (i := 5) (by simp)
    have x6 := Bz.cellAt (i := 6) (by simp)
    have fz := Bz.free
    simp at x0 x1 x2 x3 x4 x5 x6
    have y0 := HB63.out.cellAt (i := 0) (by simp)
    have y1 := HB63.out.cellAt (i := 1) (by simp)
    have y2 := HB63.out.cellAt (i := 2) (by simp)
    have y3 := HB63.out.cellAt (i := 3) (by simp)
    have y4 := HB63.out.cellAt (i := 4) (by simp)
    have y5 := HB63.out.cellAt (i := 5) (by simp)
    have y6 := HB63.out.cellAt (i := 6) (by simp)
    simp at y0 y1 y2 y3 y4 y5 y6
    have lz : w.heap.size + 1 < w3.heap.size := Bz.lt
    go_wp2_with fail
    obtain ⟨b6', k6⟩ := store7 Bz (.int .i64 Hh1) (.slice A01 n01 c01) (.slice A11 n11 c11) (.slice A21 n21 c21) (.slice A31 n31 c31) (.int .i64 (m.d)) (.slice A41 n41 c41)
    have hO6 := HO3.out.out k6 (by omega)
    have hE6 := k6.ext (HE.out.trans HE3.out) (by omega)
    generalize (((((((w3.setCell ⟨w.heap.size + 1, 0, none⟩ (.int .i64 Hh1)).setCell ⟨w.heap.size + 1, 1, none⟩ (.slice A01 n01 c01)).setCell ⟨w.heap.size + 1, 2, none⟩ (.slice A11 n11 c11)).setCell ⟨w.heap.size + 1, 3, none⟩ (.slice A21 n21 c21)).setCell ⟨w.heap.size + 1, 4, none⟩ (.slice A31 n31 c31)).setCell ⟨w.heap.size + 1, 5, none⟩ (.int .i64 (m.d))).setCell ⟨w.heap.size + 1, 6, none⟩ (.slice A41 n41 c41)) = w6 at b6' k6 hO6 hE6 ⊢
    have t0 := b6'.cellAt (i := 0) (by simp)
    have t1 := b6'.cellAt (i := 1) (by simp)
    have t2 := b6'.cellAt (i := 2) (by simp)
    have t3 := b6'.cellAt (i := 3) (by simp)
    have t4 := b6'.cellAt (i := 4) (by simp)
    have t5 := b6'.cellAt (i := 5) (by simp)
    have t6 := b6'.cellAt (i := 6) (by simp)
    simp at t0 t1 t2 t3 t4 t5 t6
    refine bodyPost_ret (v := .tuple #[MV.val ⟨Hh1, ⟨A01, n01, c01⟩, ⟨A11, n11, c11⟩, ⟨A21, n21, c21⟩, ⟨A31, n31, c31⟩, m.d, ⟨A41, n41, c41⟩⟩, .bool false]) (by simp [results, Tryd.results75, go_sem, t0, t1, t2, t3, t4, t5, t6, MV.val, MV.cells]) rfl ?_
    exact ⟨_, (by rw [HF.out]), hE6, by rw [HM.out]; exact hO6.weak (by omega)⟩
  have hdd := museumB_d hm
  rw [hm]
  have cB := fun W => spec_l01In d 1 1000 W
  cases hi : inB d 1 1000
  case false =>
    have HF : Hid (daysB m d = false) := Lib.hid (by simp [daysB, hi])
    have HM : Hid (daysM m d = m) := Lib.hid (by rw [daysM, HF.out]; rfl)
    rw [hi] at cB
    clear hm hi
    go_wp2_with (go_at_call 43; refine (fun h : Hid _ => h.out) ?_)
    unfold Hid
    refine (cB _).mono ?_
    rintro e w4 ⟨rfl, rfl⟩
    clear cB
    have Bz := Blk.keep HBz.out HE3.out
    have x0 := Bz.cellAt (i := 0) (by simp)
    have x1 := Bz.cellAt (i := 1) (by simp)
    have x2 := Bz.cellAt (i := 2) (by simp)
    have x3 := Bz.cellAt (i := 3) (by simp)
    have x4 := Bz.cellAt (i := 4) (by simp)
    have x5 := Bz.cellAt (i := 5) (by simp)
    have x6 := Bz.cellAt (i := 6) (by simp)
    have fz := Bz.free
    simp at x0 x1 x2 x3 x4 x5 x6
    have y0 := HB63.out.cellAt (i := 0) (by simp)
    have y1 := HB63.out.cellAt (i := 1) (by simp)
    have y2 := HB63.out.cellAt (i := 2) (by simp)
    have y3 := HB63.out.cellAt (i := 3) (by simp)
    have y4 := HB63.out.cellAt (i := 4) (by simp)
    have y5 := HB63.out.cellAt (i := 5) (by simp)
    have y6 := HB63.out.cellAt (i := 6) (by simp)
    simp at y0 y1 y2 y3 y4 y5 y6
    have lz : w.heap.size + 1 < w3.heap.size := Bz.lt
    go_wp2_with fail
    obtain ⟨b6', k6⟩ := store7 Bz (.int .i64 Hh1) (.slice A01 n01 c01) (.slice A11 n11 c11) (.slice A21 n21 c21) (.slice A31 n31 c31) (.int .i64 (m.d)) (.slice A41 n41 c41)
    have hO6 := HO3.out.out k6 (by omega)
    have hE6 := k6.ext (HE.out.trans HE3.out) (by omega)
    generalize (((((((w3.setCell ⟨w.heap.size + 1, 0, none⟩ (.int .i64 Hh1)).setCell ⟨w.heap.size + 1, 1, none⟩ (.slice A01 n01 c01)).setCell ⟨w.heap.size + 1, 2, none⟩ (.slice A11 n11 c11)).setCell ⟨w.heap.size + 1, 3, none⟩ (.slice A21 n21 c21)).setCell ⟨w.heap.size + 1, 4, none⟩ (.slice A31 n31 c31)).setCell ⟨w.heap.size + 1, 5, none⟩ (.int .i64 (m.d))).setCell ⟨w.heap.size + 1, 6, none⟩ (.slice A41 n41 c41)) = w6 at b6' k6 hO6 hE6 ⊢
    have t0 := b6'.cellAt (i := 0) (by simp)
    have t1 := b6'.cellAt (i := 1) (by simp)
    have t2 := b6'.cellAt (i := 2) (by simp)
    have t3 := b6'.cellAt (i := 3) (by simp)
    have t4 := b6'.cellAt (i := 4) (by simp)
    have t5 := b6'.cellAt (i := 5) (by simp)
    have t6 := b6'.cellAt (i := 6) (by simp)
    simp at t0 t1 t2 t3 t4 t5 t6
    refine bodyPost_ret (v := .tuple #[MV.val ⟨Hh1, ⟨A01, n01, c01⟩, ⟨A11, n11, c11⟩, ⟨A21, n21, c21⟩, ⟨A31, n31, c31⟩, m.d, ⟨A41, n41, c41⟩⟩, .bool false]) (by simp [results, Tryd.results75, go_sem, t0, t1, t2, t3, t4, t5, t6, MV.val, MV.cells]) rfl ?_
    exact ⟨_, (by rw [HF.out]), hE6, by rw [HM.out]; exact hO6.weak (by omega)⟩
  have hd2 : 1 ≤ d ∧ d ≤ 1000 := by simpa [inB] using hi
  rw [hi] at cB
  have y5 := HB63.out.cellAt (i := 5) (by simp)
  obtain ⟨b0, b1, b2, b3, b4, b5, b6⟩ := (HB.out.keep HE3.out).cell
  simp only at b0 b1 b2 b3 b4 b5 b6
  simp at y5
  by_cases hs : m.d + d ≤ 1000000
  case neg =>
    have HF : Hid (daysB m d = false) := Lib.hid (by simp [daysB, hs])
    have HM : Hid (daysM m d = m) := Lib.hid (by rw [daysM, HF.out]; rfl)
    have hs2 : 1000000 < m.d + d := by omega
    clear hm hi hs y5
    go_wp2_with (go_at_call 43; refine (fun h : Hid _ => h.out) ?_)
    unfold Hid
    refine (cB _).mono ?_
    rintro e w4 ⟨rfl, rfl⟩
    clear cB
    have Bz := Blk.keep HBz.out HE3.out
    have x0 := Bz.cellAt (i := 0) (by simp)
    have x1 := Bz.cellAt (i := 1) (by simp)
    have x2 := Bz.cellAt (i := 2) (by simp)
    have x3 := Bz.cellAt (i := 3) (by simp)
    have x4 := Bz.cellAt (i := 4) (by simp)
    have x5 := Bz.cellAt (i := 5) (by simp)
    have x6 := Bz.cellAt (i := 6) (by simp)
    have fz := Bz.free
    simp at x0 x1 x2 x3 x4 x5 x6
    have y0 := HB63.out.cellAt (i := 0) (by simp)
    have y1 := HB63.out.cellAt (i := 1) (by simp)
    have y2 := HB63.out.cellAt (i := 2) (by simp)
    have y3 := HB63.out.cellAt (i := 3) (by simp)
    have y4 := HB63.out.cellAt (i := 4) (by simp)
    have y5 := HB63.out.cellAt (i := 5) (by simp)
    have y6 := HB63.out.cellAt (i := 6) (by simp)
    simp at y0 y1 y2 y3 y4 y5 y6
    have lz : w.heap.size + 1 < w3.heap.size := Bz.lt
    go_wp2_with fail
    obtain ⟨b6', k6⟩ := store7 Bz (.int .i64 Hh1) (.slice A01 n01 c01) (.slice A11 n11 c11) (.slice A21 n21 c21) (.slice A31 n31 c31) (.int .i64 (m.d)) (.slice A41 n41 c41)
    have hO6 := HO3.out.out k6 (by omega)
    have hE6 := k6.ext (HE.out.trans HE3.out) (by omega)
    generalize (((((((w3.setCell ⟨w.heap.size + 1, 0, none⟩ (.int .i64 Hh1)).setCell ⟨w.heap.size + 1, 1, none⟩ (.slice A01 n01 c01)).setCell ⟨w.heap.size + 1, 2, none⟩ (.slice A11 n11 c11)).setCell ⟨w.heap.size + 1, 3, none⟩ (.slice A21 n21 c21)).setCell ⟨w.heap.size + 1, 4, none⟩ (.slice A31 n31 c31)).setCell ⟨w.heap.size + 1, 5, none⟩ (.int .i64 (m.d))).setCell ⟨w.heap.size + 1, 6, none⟩ (.slice A41 n41 c41)) = w6 at b6' k6 hO6 hE6 ⊢
    have t0 := b6'.cellAt (i := 0) (by simp)
    have t1 := b6'.cellAt (i := 1) (by simp)
    have t2 := b6'.cellAt (i := 2) (by simp)
    have t3 := b6'.cellAt (i := 3) (by simp)
    have t4 := b6'.cellAt (i := 4) (by simp)
    have t5 := b6'.cellAt (i := 5) (by simp)
    have t6 := b6'.cellAt (i := 6) (by simp)
    simp at t0 t1 t2 t3 t4 t5 t6
    refine bodyPost_ret (v := .tuple #[MV.val ⟨Hh1, ⟨A01, n01, c01⟩, ⟨A11, n11, c11⟩, ⟨A21, n21, c21⟩, ⟨A31, n31, c31⟩, m.d, ⟨A41, n41, c41⟩⟩, .bool false]) (by simp [results, Tryd.results75, go_sem, t0, t1, t2, t3, t4, t5, t6, MV.val, MV.cells]) rfl ?_
    exact ⟨_, (by rw [HF.out]), hE6, by rw [HM.out]; exact hO6.weak (by omega)⟩
  case pos =>
    have HF : Hid (daysB m d = true) := Lib.hid (by simp [daysB, hs, hi, hm])
    have HM : Hid (daysM m d = { m with d := m.d + d }) := Lib.hid (by rw [daysM, HF.out]; rfl)
    have hs2 : ¬ 1000000 < m.d + d := by omega
    have f5 := HB63.out.free 5
    have l6 := HB63.out.lt
    clear hm hi hs
    go_wp2_with (go_at_call 43; refine (fun h : Hid _ => h.out) ?_)
    unfold Hid
    refine (cB _).mono ?_
    rintro e w4 ⟨rfl, rfl⟩
    clear cB
    go_upto_region 5 with fail
    have hk := KeptOut.of_grown (lo := w1.heap.size) (hi := w1.heap.size + 1) (grown_set (grown_refl w3 (some w1.heap.size)) 5 (.int .i64 (m.d + d))) (fun k hk => by injection hk with hk; omega)
    have hb7 := HB63.out.set 5 (.int .i64 (m.d + d))
    simp only [List.setIfInBounds_toArray, List.set_cons_succ, List.set_cons_zero] at hb7
    have ho7 := (HO3.out.below hk HAT.out).day (m.d + d)
    have he7 := hk.ext HE3.out hz2
    generalize w3.setCell ⟨w1.heap.size, 5, none⟩ (.int .i64 (m.d + d)) = w7 at hk hb7 ho7 he7 ⊢
    have HB7 := Lib.hid hb7
    have HO7 := Lib.hid ho7
    have HE7 := Lib.hid he7
    clear hk hb7 ho7 he7 y5 f5 l6 b0 b1 b2 b3 b4 b5 b6
    have Bz := Blk.keep HBz.out HE7.out
    have x0 := Bz.cellAt (i := 0) (by simp)
    have x1 := Bz.cellAt (i := 1) (by simp)
    have x2 := Bz.cellAt (i := 2) (by simp)
    have x3 := Bz.cellAt (i := 3) (by simp)
    have x4 := Bz.cellAt (i := 4) (by simp)
    have x5 := Bz.cellAt (i := 5) (by simp)
    have x6 := Bz.cellAt (i := 6) (by simp)
    have fz := Bz.free
    simp at x0 x1 x2 x3 x4 x5 x6
    have y0 := HB7.out.cellAt (i := 0) (by simp)
    have y1 := HB7.out.cellAt (i := 1) (by simp)
    have y2 := HB7.out.cellAt (i := 2) (by simp)
    have y3 := HB7.out.cellAt (i := 3) (by simp)
    have y4 := HB7.out.cellAt (i := 4) (by simp)
    have y5 := HB7.out.cellAt (i := 5) (by simp)
    have y6 := HB7.out.cellAt (i := 6) (by simp)
    simp at y0 y1 y2 y3 y4 y5 y6
    have lz : w.heap.size + 1 < w7.heap.size := Bz.lt
    go_wp2_with fail
    obtain ⟨b6', k6⟩ := store7 Bz (.int .i64 Hh1) (.slice A01 n01 c01) (.slice A11 n11 c11) (.slice A21 n21 c21) (.slice A31 n31 c31) (.int .i64 (m.d + d)) (.slice A41 n41 c41)
    have hO6 := HO7.out.out k6 (by omega)
    have hE6 := k6.ext (HE.out.trans HE7.out) (by omega)
    generalize (((((((w7.setCell ⟨w.heap.size + 1, 0, none⟩ (.int .i64 Hh1)).setCell ⟨w.heap.size + 1, 1, none⟩ (.slice A01 n01 c01)).setCell ⟨w.heap.size + 1, 2, none⟩ (.slice A11 n11 c11)).setCell ⟨w.heap.size + 1, 3, none⟩ (.slice A21 n21 c21)).setCell ⟨w.heap.size + 1, 4, none⟩ (.slice A31 n31 c31)).setCell ⟨w.heap.size + 1, 5, none⟩ (.int .i64 (m.d + d))).setCell ⟨w.heap.size + 1, 6, none⟩ (.slice A41 n41 c41)) = w6 at b6' k6 hO6 hE6 ⊢
    have t0 := b6'.cellAt (i := 0) (by simp)
    have t1 := b6'.cellAt (i := 1) (by simp)
    have t2 := b6'.cellAt (i := 2) (by simp)
    have t3 := b6'.cellAt (i := 3) (by simp)
    have t4 := b6'.cellAt (i := 4) (by simp)
    have t5 := b6'.cellAt (i := 5) (by simp)
    have t6 := b6'.cellAt (i := 6) (by simp)
    simp at t0 t1 t2 t3 t4 t5 t6
    refine bodyPost_ret (v := .tuple #[MV.val ⟨Hh1, ⟨A01, n01, c01⟩, ⟨A11, n11, c11⟩, ⟨A21, n21, c21⟩, ⟨A31, n31, c31⟩, m.d + d, ⟨A41, n41, c41⟩⟩, .bool true]) (by simp [results, Tryd.results75, go_sem, t0, t1, t2, t3, t4, t5, t6, MV.val, MV.cells]) rfl ?_
    exact ⟨_, (by rw [HF.out]), hE6, by rw [HM.out]; exact hO6.weak (by omega)⟩
end Go.Proofs.YtkelmeemblmggaaDoor
/- Contract of the program's NewMuseum; no condition but what stands at each theorem. -/
namespace Go.Proofs.YtkelmeemblmggaaDoor
set_option linter.unusedSimpArgs false
set_option linter.unusedVariables false
open Go.RowKit Go.Sort
def rawM (H : Int) (ds : List GDoor) (ps gs : List Int) : GMuseum := ⟨H, ds, ps, ps, gs, 0, []⟩
def newM (H : Int) (ds : List GDoor) (ps gs : List Int) : GMuseum := if museumB (rawM H ds ps gs) then rawM H ds ps gs else ⟨0, [], [], [], [], 0, []⟩
theorem zero_own (w : World) (base : Nat) : MOwn w base (⟨0, ⟨none, 0, 0⟩, ⟨none, 0, 0⟩, ⟨none, 0, 0⟩, ⟨none, 0, 0⟩, 0, ⟨none, 0, 0⟩⟩ : MV) ⟨0, [], [], [], [], 0, []⟩ :=
  ⟨rfl, rfl, World.ownsRow_nil _ _ _ _, World.ownsRow_nil _ _ _ _, World.ownsRow_nil _ _ _ _, World.ownsRow_nil _ _ _ _, World.ownsRow_nil _ _ _ _, apart5 (apart_nil _) (apart_nil _) (apart_nil _) (apart_nil _) (apart_nil _) (apart_nil _) (apart_nil _) (apart_nil _) (apart_nil _) (apart_nil _)⟩
end Go.Proofs.YtkelmeemblmggaaDoor
/- Contract of the reference's NewMuseum; no condition but what stands at each theorem. -/
namespace Go.Proofs.YtkelmeemblmggaaDoor
set_option linter.unusedSimpArgs false
set_option linter.unusedVariables false
open Go.RowKit Go.Sort
set_option maxRecDepth 100000 in
set_option maxHeartbeats 4000000 in
theorem spec_NewMuseum (H : Int) (A0 : Option Addr) (n0 c0 : Nat) (ds : List GDoor) (A1 : Option Addr) (n1 c1 : Nat) (ps : List Int) (A2 : Option Addr) (n2 c2 : Nat) (gs : List Int) (w : World)
    (hx : Rd w 2 A0 n0 (ds.flatMap GDoor.enc)) (hx1 : Rd w 1 A1 n1 (ps.flatMap ienc)) (hx2 : Rd w 1 A2 n2 (gs.flatMap ienc)) (z0 : A0 = none → c0 = 0) (z1 : A1 = none → c1 = 0) (z2 : A2 = none → c2 = 0) (l0 : n0 ≤ 1048576) (l1 : n1 ≤ 1048576) (l2 : n2 ≤ 1048576) :
    Calls Tryd.prog 72 #[.agg #[.int .i64 H, .slice A0 n0 c0], .slice A1 n1 c1, .slice A2 n2 c2] w (MPost (newM H ds ps gs) (.bool (museumB (rawM H ds ps gs))) w) := by
  obtain ⟨wb, hwb⟩ : ∃ wb, wb = w.alloc (.cells #[.int .i64 H, .slice A0 n0 c0] 34) := ⟨_, rfl⟩
  obtain ⟨hE, hsb, k0, k1⟩ := box2 w _ _ _ wb hwb
  obtain ⟨wz, hwz⟩ : ∃ wz, wz = wb.alloc (.cells #[.int .i64 0, .slice none 0 0, .slice none 0 0, .slice none 0 0, .slice none 0 0, .int .i64 0, .slice none 0 0] 37) := ⟨_, rfl⟩
  have hEz : Ext wb wz := by rw [hwz]; exact (Ext.refl wb).alloc _
  have hsz : wz.heap.size = w.heap.size + 1 + 1 := by rw [hwz]; simp [hsb]
  have HBz : Hid (Blk wz (w.heap.size + 1) 37 #[.int .i64 0, .slice none 0 0, .slice none 0 0, .slice none 0 0, .slice none 0 0, .int .i64 0, .slice none 0 0]) := Lib.hid (by rw [hwz, ← hsb]; exact Blk.new _ _ _)
  have hr : MRd wz (⟨H, ⟨A0, n0, c0⟩, ⟨A1, n1, c1⟩, ⟨A1, n1, c1⟩, ⟨A2, n2, c2⟩, 0, ⟨none, 0, 0⟩⟩ : MV) (rawM H ds ps gs) := ⟨rfl, rfl, hx.keep (hE.trans hEz), hx1.keep (hE.trans hEz), hx1.keep (hE.trans hEz), hx2.keep (hE.trans hEz), Rd.nil _ _⟩
  have cC := Lib.hid (spec_l38Copy _ _ wz hr ⟨z0, z1, z1, z2, fun _ => rfl, l0, l1, l1, l2, Nat.zero_le _⟩)
  have HE := Lib.hid (hE.trans hEz)
  have Hwz : Hid (wz = (w.alloc (.cells #[.int .i64 H, .slice A0 n0 c0] 34)).alloc (.cells #[.int .i64 0, .slice none 0 0, .slice none 0 0, .slice none 0 0, .slice none 0 0, .int .i64 0, .slice none 0 0] 37)) := Lib.hid (by rw [hwz, hwb])
  have hzl : w.heap.size + 1 < wz.heap.size := by omega
  clear hwb hwz hE hEz hx hx1 hx2 hsb hsz k0 k1 hr z0 z1 z2
  obtain ⟨mm, hmm⟩ : ∃ mm, mm = rawM H ds ps gs := ⟨_, rfl⟩
  have HMM := Lib.hid hmm
  rw [← hmm] at cC
  go_enter Tryd.func72, Tryd.ntmps72
  go_wp2_with (go_at_call 88; refine (fun h : Hid _ => h.out) ?_)
  unfold Hid
  rw [← Hwz.out]
  refine cC.out.mono ?_
  rintro e w1 ⟨v1, hev, he1, ho1⟩
  obtain ⟨H1, ⟨A01, n01, c01⟩, ⟨A11, n11, c11⟩, ⟨A21, n21, c21⟩, ⟨A31, n31, c31⟩, day1, ⟨A41, n41, c41⟩⟩ := v1
  simp only [MV.val, MV.cells] at hev
  subst hev
  obtain ⟨w2, hw2⟩ : ∃ w2, w2 = w1.alloc (.cells #[.int .i64 H1, .slice A01 n01 c01, .slice A11 n11 c11, .slice A21 n21 c21, .slice A31 n31 c31, .int .i64 day1, .slice A41 n41 c41] 37) := ⟨_, rfl⟩
  have hB6 : Blk w2 w1.heap.size 37 #[.int .i64 H1, .slice A01 n01 c01, .slice A11 n11 c11, .slice A21 n21 c21, .slice A31 n31 c31, .int .i64 day1, .slice A41 n41 c41] := by rw [hw2]; exact Blk.new _ _ _
  have he2 : Ext w1 w2 := by rw [hw2]; exact (Ext.refl _).alloc _
  have HB6 := Lib.hid hB6
  have HO2 := Lib.hid (ho1.keep he2)
  have HE2 := Lib.hid (he1.trans he2)
  have HW2 := Lib.hid hw2
  have HCM := Lib.hid (spec_MuseumOk _ _ w2 HO2.out.rd)
  clear hB6 he2 ho1 he1 hw2 cC
  go_wp2_with (go_at_call 20; refine (fun h : Hid _ => h.out) ?_)
  unfold Hid
  rw [← HW2.out]
  refine HCM.out.mono ?_
  rintro e w3 ⟨rfl, he3⟩
  have HE3 := Lib.hid (HE2.out.trans he3)
  have HO3 := Lib.hid (HO2.out.keep he3)
  have HB63 := Lib.hid (HB6.out.keep he3)
  clear he3 HCM
  rw [HMM.out]
  have HO3 : Hid (MOwn w3 wz.heap.size (⟨H1, ⟨A01, n01, c01⟩, ⟨A11, n11, c11⟩, ⟨A21, n21, c21⟩, ⟨A31, n31, c31⟩, day1, ⟨A41, n41, c41⟩⟩ : MV) (rawM H ds ps gs)) := by rw [← HMM.out]; exact HO3
  cases hm : museumB (rawM H ds ps gs)
  case false =>
    have HF : Hid (museumB (rawM H ds ps gs) = false) := Lib.hid hm
    have HM : Hid (newM H ds ps gs = ⟨0, [], [], [], [], 0, []⟩) := Lib.hid (by rw [newM, hm]; rfl)
    clear hm hmm
    have Bz := Blk.keep HBz.out HE3.out
    have x0 := Bz.cellAt (i := 0) (by simp)
    have x1 := Bz.cellAt (i := 1) (by simp)
    have x2 := Bz.cellAt (i := 2) (by simp)
    have x3 := Bz.cellAt (i := 3) (by simp)
    have x4 := Bz.cellAt (i := 4) (by simp)
    have x5 := Bz.cellAt (i := 5) (by simp)
    have x6 := Bz.cellAt (i := 6) (by simp)
    have fz := Bz.free
    simp at x0 x1 x2 x3 x4 x5 x6
    have lz : w.heap.size + 1 < w3.heap.size := Bz.lt
    go_wp2_with fail
    obtain ⟨b6', k6⟩ := store7 Bz (.int .i64 0) (.slice none 0 0) (.slice none 0 0) (.slice none 0 0) (.slice none 0 0) (.int .i64 0) (.slice none 0 0)
    have hE6 := k6.ext (HE.out.trans HE3.out) (by omega)
    have hO6 : True := trivial
    generalize (((((((w3.setCell ⟨w.heap.size + 1, 0, none⟩ (.int .i64 0)).setCell ⟨w.heap.size + 1, 1, none⟩ (.slice none 0 0)).setCell ⟨w.heap.size + 1, 2, none⟩ (.slice none 0 0)).setCell ⟨w.heap.size + 1, 3, none⟩ (.slice none 0 0)).setCell ⟨w.heap.size + 1, 4, none⟩ (.slice none 0 0)).setCell ⟨w.heap.size + 1, 5, none⟩ (.int .i64 0)).setCell ⟨w.heap.size + 1, 6, none⟩ (.slice none 0 0)) = w6 at b6' k6 hO6 hE6 ⊢
    have t0 := b6'.cellAt (i := 0) (by simp)
    have t1 := b6'.cellAt (i := 1) (by simp)
    have t2 := b6'.cellAt (i := 2) (by simp)
    have t3 := b6'.cellAt (i := 3) (by simp)
    have t4 := b6'.cellAt (i := 4) (by simp)
    have t5 := b6'.cellAt (i := 5) (by simp)
    have t6 := b6'.cellAt (i := 6) (by simp)
    simp at t0 t1 t2 t3 t4 t5 t6
    refine bodyPost_ret (v := .tuple #[MV.val ⟨0, ⟨none, 0, 0⟩, ⟨none, 0, 0⟩, ⟨none, 0, 0⟩, ⟨none, 0, 0⟩, 0, ⟨none, 0, 0⟩⟩, .bool false]) (by simp [results, Tryd.results72, go_sem, t0, t1, t2, t3, t4, t5, t6, MV.val, MV.cells]) rfl ?_
    exact ⟨_, (by rw [HF.out]), hE6, by rw [HM.out]; exact zero_own _ _⟩
  case true =>
    have HF : Hid (museumB (rawM H ds ps gs) = true) := Lib.hid hm
    have HM : Hid (newM H ds ps gs = rawM H ds ps gs) := Lib.hid (by rw [newM, hm]; rfl)
    clear hm hmm
    have Bz := Blk.keep HBz.out HE3.out
    have x0 := Bz.cellAt (i := 0) (by simp)
    have x1 := Bz.cellAt (i := 1) (by simp)
    have x2 := Bz.cellAt (i := 2) (by simp)
    have x3 := Bz.cellAt (i := 3) (by simp)
    have x4 := Bz.cellAt (i := 4) (by simp)
    have x5 := Bz.cellAt (i := 5) (by simp)
    have x6 := Bz.cellAt (i := 6) (by simp)
    have fz := Bz.free
    simp at x0 x1 x2 x3 x4 x5 x6
    have y0 := HB63.out.cellAt (i := 0) (by simp)
    have y1 := HB63.out.cellAt (i := 1) (by simp)
    have y2 := HB63.out.cellAt (i := 2) (by simp)
    have y3 := HB63.out.cellAt (i := 3) (by simp)
    have y4 := HB63.out.cellAt (i := 4) (by simp)
    have y5 := HB63.out.cellAt (i := 5) (by simp)
    have y6 := HB63.out.cellAt (i := 6) (by simp)
    simp at y0 y1 y2 y3 y4 y5 y6
    have lz : w.heap.size + 1 < w3.heap.size := Bz.lt
    go_wp2_with fail
    obtain ⟨b6', k6⟩ := store7 Bz (.int .i64 H1) (.slice A01 n01 c01) (.slice A11 n11 c11) (.slice A21 n21 c21) (.slice A31 n31 c31) (.int .i64 day1) (.slice A41 n41 c41)
    have hE6 := k6.ext (HE.out.trans HE3.out) (by omega)
    have hO6 := (HO3.out.out k6 (by omega)).weak (show w.heap.size ≤ wz.heap.size by omega)
    generalize (((((((w3.setCell ⟨w.heap.size + 1, 0, none⟩ (.int .i64 H1)).setCell ⟨w.heap.size + 1, 1, none⟩ (.slice A01 n01 c01)).setCell ⟨w.heap.size + 1, 2, none⟩ (.slice A11 n11 c11)).setCell ⟨w.heap.size + 1, 3, none⟩ (.slice A21 n21 c21)).setCell ⟨w.heap.size + 1, 4, none⟩ (.slice A31 n31 c31)).setCell ⟨w.heap.size + 1, 5, none⟩ (.int .i64 day1)).setCell ⟨w.heap.size + 1, 6, none⟩ (.slice A41 n41 c41)) = w6 at b6' k6 hO6 hE6 ⊢
    have t0 := b6'.cellAt (i := 0) (by simp)
    have t1 := b6'.cellAt (i := 1) (by simp)
    have t2 := b6'.cellAt (i := 2) (by simp)
    have t3 := b6'.cellAt (i := 3) (by simp)
    have t4 := b6'.cellAt (i := 4) (by simp)
    have t5 := b6'.cellAt (i := 5) (by simp)
    have t6 := b6'.cellAt (i := 6) (by simp)
    simp at t0 t1 t2 t3 t4 t5 t6
    refine bodyPost_ret (v := .tuple #[MV.val ⟨H1, ⟨A01, n01, c01⟩, ⟨A11, n11, c11⟩, ⟨A21, n21, c21⟩, ⟨A31, n31, c31⟩, day1, ⟨A41, n41, c41⟩⟩, .bool true]) (by simp [results, Tryd.results72, go_sem, t0, t1, t2, t3, t4, t5, t6, MV.val, MV.cells]) rfl ?_
    exact ⟨_, (by rw [HF.out]), hE6, by rw [HM.out]; exact hO6⟩
end Go.Proofs.YtkelmeemblmggaaDoor
/- Contracts of slices.Index and Contains on doors, HasDoor, canGo and the closure of CanMove; no condition but what stands at each theorem. -/
namespace Go.Proofs.YtkelmeemblmggaaDoor
set_option linter.unusedSimpArgs false
set_option linter.unusedVariables false
open Go.RowKit Go.Sort
def dEq (p q : Int) (d : GDoor) : Bool := (d.a == p) && (d.b == q)
def hasDoorB (H : Int) (ds : List GDoor) (x y : Int) : Bool := houseB H ds && doorB ds x y
def goB (H : Int) (ds : List GDoor) (ps : List Int) (m : GMove) : Bool := inB m.o 0 ((ps.length : Int) - 1) && (hallB H m.t && hasDoorB H ds (ps.getD m.o.toNat 0) m.t)
theorem boxHM (w : World) (a0 a1 b0 b1 b2 b3 : Value) (t1 t2 : TypeId) (wb : World) (hwb : wb = (w.alloc (.cells #[a0, a1] t1)).alloc (.cells #[b0, b1, b2, b3] t2)) :
    Ext w wb ∧ wb.heap.size = w.heap.size + 1 + 1 ∧ wb.cell? ⟨w.heap.size, 0, none⟩ = some a0 ∧ wb.cell? ⟨w.heap.size, 1, none⟩ = some a1 ∧ wb.cell? ⟨w.heap.size + 1, 0, none⟩ = some b0 ∧ wb.cell? ⟨w.heap.size + 1, 1, none⟩ = some b1 ∧ wb.cell? ⟨w.heap.size + 1, 2, none⟩ = some b2 ∧ wb.cell? ⟨w.heap.size + 1, 3, none⟩ = some b3 := by
  subst hwb
  have h : w.heap.size + 1 = (w.alloc (.cells #[a0, a1] t1)).heap.size := by simp
  refine ⟨((Ext.refl w).alloc _).alloc _, by simp, ?_, ?_, ?_, ?_, ?_, ?_⟩
  · rw [World.cell?_alloc_lt _ _ _ (by simp), World.cell?_alloc_new]; rfl
  · rw [World.cell?_alloc_lt _ _ _ (by simp), World.cell?_alloc_new]; rfl
  all_goals rw [h, World.cell?_alloc_new]; rfl
def nearB (gs ps : List Int) (m : GMove) (k : Int) : Bool := (gs.getD k.toNat 0 == ps.getD m.o.toNat 0) || (gs.getD k.toNat 0 == m.t)
end Go.Proofs.YtkelmeemblmggaaDoor
/- The plain law of GuardWalk; no condition but what stands at each theorem. -/
namespace Go.Proofs.YtkelmeemblmggaaDoor
set_option linter.unusedSimpArgs false
set_option linter.unusedVariables false
open Go.RowKit Go.Sort
theorem doorB_inG {H : Int} {ds : List GDoor} (hB : houseB H ds = true) {x k : Int} (h : doorB ds x k = true) : x ≠ k ∧ 0 ≤ x ∧ x < H ∧ 0 ≤ k ∧ k < H := by
  unfold doorB at h
  rw [List.any_eq_true] at h
  obtain ⟨d, hd, he⟩ := h
  have h1 := (houseB_spec hB).2.2.2.2.1 d hd
  simp only [isDoor, imin, imax, Bool.and_eq_true, beq_iff_eq] at he
  simp only [doorOk, Bool.and_eq_true, decide_eq_true_eq] at h1
  have h2 := he.1
  have h3 := he.2
  split at h2 <;> split at h3 <;> omega
def guardOf (m : GMuseum) (g : Int) : Int := m.gs.getD g.toNat 0
def guardB (m : GMuseum) (g h : Int) : Bool := museumB m && (inB g 0 ((m.gs.length : Int) - 1) && doorB m.ds (guardOf m g) h)
def guardM (m : GMuseum) (g h : Int) : GMuseum := if guardB m g h then { m with gs := m.gs.set g.toNat h } else m
theorem museumB_house {m : GMuseum} (h : museumB m = true) : houseB m.H m.ds = true := by
  unfold museumB at h
  simp only [Bool.and_eq_true] at h
  have := h.1
  unfold placesB hallsB at this
  simp only [Bool.and_eq_true] at this
  exact this.2.2
theorem guard_impl {m : GMuseum} {g h : Int} (hm : museumB m = true) (hg : inB g 0 ((m.gs.length : Int) - 1) = true) : guardB m g h = hasDoorB m.H m.ds (guardOf m g) h := by
  unfold guardB hasDoorB
  rw [hm, hg, museumB_house hm]
  rfl
theorem guard_spec {m : GMuseum} {g h : Int} (hm : museumB m = true) (hg : inB g 0 ((m.gs.length : Int) - 1) = true) : guardB m g h = (inB h 0 (m.H - 1) && (!decide (h = guardOf m g) && doorB m.ds h (guardOf m g))) := by
  have hB := museumB_house hm
  unfold guardB
  rw [hm, hg, doorB_comm m.ds h (guardOf m g)]
  cases hd : doorB m.ds (guardOf m g) h
  · simp
  · obtain ⟨h1, h2, h3, h4, h5⟩ := doorB_inG hB hd
    have : ¬ h = guardOf m g := fun e => h1 e.symm
    simp only [inB, Bool.true_and, this, decide_false, Bool.not_false, Bool.and_true]
    have a1 : decide (0 ≤ h) = true := decide_eq_true h4
    have a2 : decide (h ≤ m.H - 1) = true := decide_eq_true (by omega)
    rw [a1, a2]
    rfl
theorem guardM_lens (m : GMuseum) (g h : Int) : (guardM m g h).ds.length = m.ds.length ∧ (guardM m g h).fs.length = m.fs.length ∧ (guardM m g h).ps.length = m.ps.length ∧ (guardM m g h).gs.length = m.gs.length ∧ (guardM m g h).rs.length = m.rs.length := by
  unfold guardM
  split
  · exact ⟨rfl, rfl, rfl, by simp, rfl⟩
  · exact ⟨rfl, rfl, rfl, rfl, rfl⟩
end Go.Proofs.YtkelmeemblmggaaDoor
/- Contracts of GuardWalk; no condition but what stands at each theorem. -/
namespace Go.Proofs.YtkelmeemblmggaaDoor
set_option linter.unusedSimpArgs false
set_option linter.unusedVariables false
open Go.RowKit Go.Sort
theorem own_setG {w : World} {base n c g : Nat} {t : TypeId} {u : List Int} (h : w.ownsRow base t 1 (.slice (some ⟨g, 0, none⟩) n c) n (u.flatMap ienc)) (i : Nat) (x : Int) :
    (w.setCell ⟨g, i, none⟩ (.int .i64 x)).ownsRow base t 1 (.slice (some ⟨g, 0, none⟩) n c) n ((u.set i x).flatMap ienc) := by
  rcases own_block h with ⟨hA, _⟩ | ⟨g', cur, hA, hb, hblk, hnc, hcm, hcs, ht⟩
  · cases hA
  · injection hA with hA
    injection hA with hA
    subst hA
    refine ⟨?_, .inr ⟨g, c, _, rfl, hb, hblk.set i _, hnc, hcm, by simpa using hcs, ?_⟩⟩
    · have := h.1
      rw [ienc_map, List.length_map] at this ⊢
      simpa using this
    · rw [ienc_map] at ht ⊢
      rw [List.map_set, ← ht]
      simp [List.take_set]
/-- One guard of a museum in rows of the call's own is set. -/
theorem MOwn.gset {w : World} {base g : Nat} {v : MV} {m : GMuseum} (h : MOwn w base v m) (hA : v.sg.A = some ⟨g, 0, none⟩) (i : Nat) (x : Int) : MOwn (w.setCell ⟨g, i, none⟩ (.int .i64 x)) base v { m with gs := m.gs.set i x } := by
  have hg : w.grownBy (w.setCell ⟨g, i, none⟩ (.int .i64 x)) v.sg.v.ownBlock := by
    have : v.sg.v.ownBlock = some g := by rw [SL.v, hA]; rfl
    rw [this]
    exact grown_set (grown_refl _ _) i _
  obtain ⟨a1, a2, a3, a4, a5, a6, a7, a8, a9, a10⟩ := aparts h.ap
  refine ⟨h.eH, h.ed, own_apart h.od a3 hg, own_apart h.of_ a6 hg, own_apart h.op a8 hg, ?_, own_apart h.or_ a10.symm hg, h.ap⟩
  have ho := h.og
  unfold SL.v at ho ⊢
  rw [hA] at ho ⊢
  exact own_setG ho i x
end Go.Proofs.YtkelmeemblmggaaDoor
