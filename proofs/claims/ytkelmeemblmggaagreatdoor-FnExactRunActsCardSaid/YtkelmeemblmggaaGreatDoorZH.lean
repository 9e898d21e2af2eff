/- Texts of one proof, laid one behind the other (KI, SN2, SN3); no condition but what stands at each theorem. -/
import Derived.Deep.RegionHeld3
import Derived.Maps.AppendAt
import Derived.Test.YtkelmeemblmggaaGreatDoorZA
import Derived.Test.YtkelmeemblmggaaGreatDoorZG
/- A region that draws its order, walked by what holds between its operations; no condition but what stands at each theorem. -/
namespace Go.Proofs.YtkelmeemblmggaaGreatDoor
set_option linter.unusedSimpArgs false
set_option linter.unusedVariables false
open Go.RowKit
/-- n operations are left that may come in any order; Inv holds between them. -/
theorem wpAnyH_inv {P : Program} {md : Region.Mode} {ops : Array Oper} {Q : Exit → Act → World → Prop} {S : World → Prop} (f1 : Nat) (Inv : Nat → Array Bool → Act → World → Prop)
    (h0 : ∀ listed a w, Inv 0 listed a w → wpAnyH P md ops Q S f1 listed a w)
    (hs : ∀ n listed a w, Inv (n + 1) listed a w → Region.ready md ops listed ≠ [] ∧ ∀ i ∈ Region.ready md ops listed, wpOp P ops Q i (fun a' w' => S w' ∧ Inv n (listed.setIfInBounds i true) a' w') a w) :
    ∀ n listed a w, Inv n listed a w → wpAnyH P md ops Q S (f1 + n) listed a w
  | 0, listed, a, w, h => h0 listed a w h
  | n + 1, listed, a, w, h => by
    obtain ⟨h1, h2⟩ := hs n listed a w h
    exact ⟨fun e => absurd e h1, fun i hi => wpOp_mono (fun a' w' h3 => ⟨h3.1, wpAnyH_inv f1 Inv h0 hs n _ a' w' h3.2⟩) (h2 i hi)⟩
theorem wpAnyH_takeD {P : Program} {md : Region.Mode} {ops : Array Oper} {Q : Exit → Act → World → Prop} {S : World → Prop} {i : Nat} {oi : Oper} {v : Value} {fuel : Nat} {listed : Array Bool} {a : Act} {w : World} (d : Tmp) (hi : ops[i]? = some oi) (hd : oi.dst = some d)
    (hs : Region.noSelect ops = true) (hf : Region.free md ops listed i = true) (hr : (Region.ready md ops listed).contains i = true)
    (hQ : ∀ c a w, Q (.panic c) (a.put oi.dst v) w → Q (.panic c) a w) (hy : YieldsIf P ops S oi v a) (hS : S w)
    (h : wpAnyH P md ops Q S fuel (listed.setIfInBounds i true) (a.put (some d) v) w) : wpAnyH P md ops Q S (fuel + 1) listed a w := by
  rw [← hd] at h
  exact wpAnyH_take hi hs hf hr hQ hy hS h
theorem wpAnyH_start {P : Program} {md : Region.Mode} {ops : Array Oper} {Q : Exit → Act → World → Prop} {S : World → Prop} {fuel : Nat} (f1 n : Nat) {l : Array Bool} (l' : Array Bool) {a : Act} {w : World} (hf : fuel = f1 + n) (hl : l = l')
    (h : wpAnyH P md ops Q S (f1 + n) l' a w) : wpAnyH P md ops Q S fuel l a w := by
  subst hf
  subst hl
  exact h
/-- append of a row that came in to one of the call's own: what it reads as, how the world grew, where it lies. -/
theorem wp_appAt {P : Program} {o : Oper} {a : Act} {K : Act → World → Prop} {Q : Exit → Act → World → Prop} {t e : TypeId} {m : Nat} (hE : EI P t e m) (s x : Operand)
    (ho : o.op = .call { callee := .builtin .append, args := #[s, x], argTypes := #[t, t] }) (base : Nat) (W : World) (v : Value) (n : Nat) (xs : List Value) (hs : a.eval s = v) (hown : W.ownsRow base e m v n xs)
    (A : Option Addr) (k c : Nat) (ys : List Value) (hx : a.eval x = .slice A k c) (hr : Rd W m A k ys) (hA : A = none → c = 0) (h1 : ∀ u ∈ ys, u.oneCell' = true) (hn : n + k ≤ 1073741824) (hbase : base ≤ W.heap.size)
    (h : ∀ v' w1, w1.ownsRow base e m v' (n + k) (xs ++ ys) → W.grownBy w1 v.ownBlock → (∀ g, v'.ownBlock = some g → v.ownBlock = some g ∨ W.heap.size ≤ g) → K (a.put o.dst v') w1) : Oper.wp P o a W K Q := by
  obtain ⟨i, z, hu, hi, hz, hsz, hby, hzs, h0⟩ := hE
  subst hsz
  cases A with
  | none =>
    have hk := hr.none_len rfl
    subst hk
    have hc := hA rfl
    subst hc
    have hys : ys = [] := List.eq_nil_of_length_eq_zero (by rw [hr.1]; simp)
    subst hys
    have hrun := run_append_owned_none (P := P) (w := W) base t o.type e i i.size hu hi v n xs hown
    unfold Oper.wp
    simp [execOp, ho, resolve, invoke, builtin, hs, hx, hrun, Result.andThen]
    refine h v W (by simpa using hown) (grown_refl W _) fun g hg => .inl hg
  | some ad =>
    obtain ⟨v', w', hrun, h2, h3, -, h5⟩ := run_append_own_at (P := P) W base t o.type e i z i.size i.bytes hu hi hz rfl rfl hzs h0 v n xs hown ad k c ys hr.1 (hr.cells ad rfl) h1 (by unfold maxLen; omega) (by
      have := Nat.mul_le_mul_left (n + k) hby
      omega) hbase
    unfold Oper.wp
    simp [execOp, ho, resolve, invoke, builtin, hs, hx, hrun, Result.andThen]
    refine h v' w' h2 h3 fun g hg => ?_
    rcases h5 with e' | e'
    · exact .inl (by rw [← e', hg])
    · rw [hg] at e'
      injection e' with e'
      exact .inr (by rw [e']; exact Nat.le_refl _)
theorem step_appAt {P : Program} {ops : Array Oper} {o : Oper} {a : Act} {K : Act → World → Prop} {Q : Exit → Act → World → Prop} {E : Prop} {t e : TypeId} {m : Nat} (hE : EI P t e m) (hgd : o.guard = none) (s x : Operand)
    (ho : o.op = .call { callee := .builtin .append, args := #[s, x], argTypes := #[t, t] }) (base : Nat) (W : World) (v : Value) (n : Nat) (xs : List Value) (hs : a.eval s = v) (hown : W.ownsRow base e m v n xs)
    (A : Option Addr) (k c : Nat) (ys : List Value) (hx : a.eval x = .slice A k c) (hr : Rd W m A k ys) (hA : A = none → c = 0) (h1 : ∀ u ∈ ys, u.oneCell' = true) (hn : n + k ≤ 1073741824) (hbase : base ≤ W.heap.size)
    (h : ∀ v' w1, w1.ownsRow base e m v' (n + k) (xs ++ ys) → W.grownBy w1 v.ownBlock → (∀ g, v'.ownBlock = some g → v.ownBlock = some g ∨ W.heap.size ≤ g) → K (a.put o.dst v') w1) :
    if Region.wanted o (yielded ops a.tmps) = true then Oper.wp P o a W K Q else E := by
  rw [if_pos (by simp [Region.wanted, hgd])]
  exact wp_appAt hE s x ho base W v n xs hs hown A k c ys hx hr hA h1 hn hbase h
end Go.Proofs.YtkelmeemblmggaaGreatDoor
/- Contract of the reference's copy of a museum; no condition but what stands at each theorem. -/
namespace Go.Proofs.YtkelmeemblmggaaGreatDoor
set_option linter.unusedSimpArgs false
set_option linter.unusedVariables false
open Go.RowKit Go.Sort
theorem ei_DoorN : EI Tryz.prog 24 126 2 := ei_of Tryz.underlying24 (by omega) (by kernel_rfl)
/-- The cells of a museum's box, told again. -/
def MCell (w : World) (b : Nat) (v : MV) : Prop := w.cell? ⟨b, 0, none⟩ = some (.int .i64 v.H) ∧ w.cell? ⟨b, 1, none⟩ = some (.slice v.sd.A v.sd.n v.sd.c) ∧ w.cell? ⟨b, 2, none⟩ = some (.slice v.sf.A v.sf.n v.sf.c) ∧ w.cell? ⟨b, 3, none⟩ = some (.slice v.sp.A v.sp.n v.sp.c) ∧ w.cell? ⟨b, 4, none⟩ = some (.slice v.sg.A v.sg.n v.sg.c) ∧ w.cell? ⟨b, 5, none⟩ = some (.int .i64 v.d) ∧ w.cell? ⟨b, 6, none⟩ = some (.slice v.sr.A v.sr.n v.sr.c)
theorem MBox.cell {w : World} {b : Nat} {v : MV} (h : MBox w b v) : MCell w b v := ⟨h.c0, h.c1, h.c2, h.c3, h.c4, h.c5, h.c6⟩
theorem heap_size_allocN (w : World) (o : Obj) : (w.alloc o).heap.size = w.heap.size + 1 := by simp
set_option maxRecDepth 100000 in
set_option maxHeartbeats 4000000 in
theorem spec_l38Copy (v : MV) (m : GMuseum) (w : World) (hx : MRd w v m) (hf : MFit v) : Calls Tryz.prog 70 #[v.val] w (CopyPost m w) := by
  obtain ⟨wb, hwb⟩ : ∃ wb, wb = w.alloc (.cells v.cells 30) := ⟨_, rfl⟩
  have hbx := MBox.new hwb
  have hE : Ext w wb := by rw [hwb]; exact (Ext.refl w).alloc _
  obtain ⟨wz, hwz⟩ : ∃ wz, wz = wb.alloc (.cells #[.int .i64 0, .slice none 0 0, .slice none 0 0, .slice none 0 0, .slice none 0 0, .int .i64 0, .slice none 0 0] 30) := ⟨_, rfl⟩
  have hEz : Ext wb wz := by rw [hwz]; exact (Ext.refl wb).alloc _
  have hsb : wb.heap.size = w.heap.size + 1 := by rw [hwb]; simp
  have hsz : wz.heap.size = w.heap.size + 1 + 1 := by rw [hwz]; simp [hsb]
  have HBz : Hid (Blk wz (w.heap.size + 1) 30 #[.int .i64 0, .slice none 0 0, .slice none 0 0, .slice none 0 0, .slice none 0 0, .int .i64 0, .slice none 0 0]) := Lib.hid (by rw [hwz, ← hsb]; exact Blk.new _ _ _)
  have HX := Lib.hid (hx.keep (hE.trans hEz))
  have HB := Lib.hid (hbx.keep hEz)
  have HE := Lib.hid (hE.trans hEz)
  have HF := Lib.hid hf
  have HeH := Lib.hid hx.eH
  have Hed := Lib.hid hx.ed
  obtain ⟨Hh, ⟨A0, n0, c0⟩, ⟨A1, n1, c1⟩, ⟨A2, n2, c2⟩, ⟨A3, n3, c3⟩, day, ⟨A4, n4, c4⟩⟩ := v
  have Hwz : Hid (wz = (w.alloc (.cells #[.int .i64 Hh, .slice A0 n0 c0, .slice A1 n1 c1, .slice A2 n2 c2, .slice A3 n3 c3, .int .i64 day, .slice A4 n4 c4] 30)).alloc (.cells #[.int .i64 0, .slice none 0 0, .slice none 0 0, .slice none 0 0, .slice none 0 0, .int .i64 0, .slice none 0 0] 30)) := Lib.hid (by rw [hwz, hwb]; rfl)
  have nd : n0 ≤ 1048576 := hf.nd
  have nf : n1 ≤ 1048576 := hf.nf
  have np : n2 ≤ 1048576 := hf.np
  have ng : n3 ≤ 1048576 := hf.ng
  have nr : n4 ≤ 1048576 := hf.nr
  have hzl : w.heap.size + 1 < wz.heap.size := by omega
  clear hwb hwz hbx hE hEz hx hf hsb hsz
  show Calls Tryz.prog 70 #[.agg #[.int .i64 Hh, .slice A0 n0 c0, .slice A1 n1 c1, .slice A2 n2 c2, .slice A3 n3 c3, .int .i64 day, .slice A4 n4 c4]] w _
  obtain ⟨b0, b1, b2, b3, b4, b5, b6⟩ := HB.out.cell
  simp only at b0 b1 b2 b3 b4 b5 b6
  go_enter Tryz.func70, Tryz.ntmps70
  go_wp2_with fail
  rw [← Hwz.out]
  have HOe := Lib.hid (own_keep (own_empty wz wz.heap.size 126 2 (Nat.le_refl _)) (Ext.refl _).drew)
  have m1 : w.heap.size ≠ w.heap.size + 1 := by omega
  have m2 : w.heap.size + 1 ≠ w.heap.size := by omega
  have cF := Lib.hid (fun W (he : Ext wz W) => spec_l35CopyN A1 n1 c1 m.fs W (HX.out.rf.keep he) (Lib.hid HF.out.zf) nf)
  have cP := Lib.hid (fun W (he : Ext wz W) => spec_l35CopyN A2 n2 c2 m.ps W (HX.out.rp.keep he) (Lib.hid HF.out.zp) np)
  have cG := Lib.hid (fun W (he : Ext wz W) => spec_l35CopyN A3 n3 c3 m.gs W (HX.out.rg.keep he) (Lib.hid HF.out.zg) ng)
  have cR := Lib.hid (fun W (he : Ext wz W) => spec_l30Copy A4 n4 c4 m.rs W (HX.out.rr.keep he) (Lib.hid HF.out.zr) nr)
  go_region_held3 (fun w' => w'.cell? ⟨w.heap.size, 0, none⟩ = some (.int .i64 Hh) ∧ w'.cell? ⟨w.heap.size, 1, none⟩ = some (.slice A0 n0 c0) ∧ w'.cell? ⟨w.heap.size, 2, none⟩ = some (.slice A1 n1 c1) ∧ w'.cell? ⟨w.heap.size, 3, none⟩ = some (.slice A2 n2 c2) ∧ w'.cell? ⟨w.heap.size, 4, none⟩ = some (.slice A3 n3 c3) ∧ w'.cell? ⟨w.heap.size, 5, none⟩ = some (.int .i64 day) ∧ w'.cell? ⟨w.heap.size, 6, none⟩ = some (.slice A4 n4 c4)) (first | (refine ⟨?_, ?_, ?_, ?_, ?_, ?_, ?_⟩ <;> simp only [cell_set_far, m2, ne_eq, not_false_eq_true] <;> assumption) | go_keep) (first
    | (refine step_appAt ei_DoorN (by rfl) _ _ (by rfl) wz.heap.size (wz.alloc (.cells #[] 126)).drew (.slice (some ⟨wz.heap.size, 0, none⟩) 0 0) 0 [] (by rfl) HOe.out A0 n0 c0 (m.ds.flatMap GDoor.enc) (by rfl) ((HX.out.rd.alloc _).drew) HF.out.zd (one_GDoorN _) (by omega) (by show wz.heap.size ≤ (wz.alloc _).heap.size; rw [heap_size_allocN]; omega) ?_; intro v1 w1 ho1 hg1 hv1; have he1 : Ext wz w1 := Ext.grown ((Ext.refl wz).alloc _).drew hg1 (fun q hq => (HOe.out.lt q hq).1); rw [Nat.zero_add, List.nil_append] at ho1; obtain ⟨Ad, kd, hvd, hkd⟩ := own_form ho1; subst hvd; obtain ⟨y0, y1, y2, y3, y4, y5, y6⟩ := (HB.out.keep he1).cell; simp only at y0 y1 y2 y3 y4 y5 y6; have q1 : w.heap.size < w1.heap.size := (by have := he1.size; omega); have q2 : w.heap.size + 1 < w1.heap.size := (by have := he1.size; omega))
    | (go_at_call 130; (with_reducible show Calls _ _ #[.slice A1 n1 c1] _ _); refine (cF.out _ he1).mono ?_; rintro e w2 ⟨g2, k2, rfl, h2, o2⟩; have he2 : Ext wz w2 := he1.trans h2; obtain ⟨y0, y1, y2, y3, y4, y5, y6⟩ := (HB.out.keep he2).cell; simp only at y0 y1 y2 y3 y4 y5 y6; have q1 : w.heap.size < w2.heap.size := (by have := he2.size; omega); have q2 : w.heap.size + 1 < w2.heap.size := (by have := he2.size; omega))
    | (go_at_call 130; (with_reducible show Calls _ _ #[.slice A2 n2 c2] _ _); refine (cP.out _ he2).mono ?_; rintro e w3 ⟨g3, k3, rfl, h3, o3⟩; have he3 : Ext wz w3 := he2.trans h3; obtain ⟨y0, y1, y2, y3, y4, y5, y6⟩ := (HB.out.keep he3).cell; simp only at y0 y1 y2 y3 y4 y5 y6; have q1 : w.heap.size < w3.heap.size := (by have := he3.size; omega); have q2 : w.heap.size + 1 < w3.heap.size := (by have := he3.size; omega))
    | (go_at_call 130; (with_reducible show Calls _ _ #[.slice A3 n3 c3] _ _); refine (cG.out _ he3).mono ?_; rintro e w4 ⟨g4, k4, rfl, h4, o4⟩; have he4 : Ext wz w4 := he3.trans h4; obtain ⟨y0, y1, y2, y3, y4, y5, y6⟩ := (HB.out.keep he4).cell; simp only at y0 y1 y2 y3 y4 y5 y6; have q1 : w.heap.size < w4.heap.size := (by have := he4.size; omega); have q2 : w.heap.size + 1 < w4.heap.size := (by have := he4.size; omega))
    | (go_at_call 131; refine (cR.out _ he4).mono ?_; rintro e w5 ⟨g5, k5, rfl, h5, o5⟩; have he5 : Ext wz w5 := he4.trans h5; have Bz := Blk.keep HBz.out he5; have x0 := Bz.cellAt (i := 0) (by simp); have x1 := Bz.cellAt (i := 1) (by simp); have x2 := Bz.cellAt (i := 2) (by simp); have x3 := Bz.cellAt (i := 3) (by simp); have x4 := Bz.cellAt (i := 4) (by simp); have x5 := Bz.cellAt (i := 5) (by simp); have x6 := Bz.cellAt (i := 6) (by simp); have fz := Bz.free; simp at x0 x1 x2 x3 x4 x5 x6; obtain ⟨y0, y1, y2, y3, y4, y5, y6⟩ := (HB.out.keep he5).cell; simp only at y0 y1 y2 y3 y4 y5 y6; have q1 : w.heap.size < w5.heap.size := (by have := he5.size; omega); have q2 : w.heap.size + 1 < w5.heap.size := (by have := he5.size; omega)))
  have hE5 := HE.out.trans he5
  have hO5 : MOwn w5 wz.heap.size ⟨Hh, ⟨Ad, n0, kd⟩, ⟨some ⟨g2, 0, none⟩, n1, k2⟩, ⟨some ⟨g3, 0, none⟩, n2, k3⟩, ⟨some ⟨g4, 0, none⟩, n3, k4⟩, day, ⟨some ⟨g5, 0, none⟩, n4, k5⟩⟩ m := by
    have ad := At.of_own ho1
    have af := At.of_own o2
    have ap := At.of_own o3
    have ag := At.of_own o4
    have ar := At.of_own o5
    have z2 := h2.size
    have z3 := h3.size
    have z4 := h4.size
    have z5 := h5.size
    refine ⟨HeH.out, Hed.out, own_keep ho1 (h2.trans (h3.trans (h4.trans h5))), own_weak (own_keep o2 (h3.trans (h4.trans h5))) he1.size, own_weak (own_keep o3 (h4.trans h5)) he2.size, own_weak (own_keep o4 h5) he3.size, own_weak o5 he4.size, ?_⟩
    exact apart5 (Apart.of_at ad af (.inl (Nat.le_refl _))) (Apart.of_at ad ap (.inl z2)) (Apart.of_at ad ag (.inl (Nat.le_trans z2 z3))) (Apart.of_at ad ar (.inl (Nat.le_trans z2 (Nat.le_trans z3 z4))))
      (Apart.of_at af ap (.inl (Nat.le_refl _))) (Apart.of_at af ag (.inl z3)) (Apart.of_at af ar (.inl (Nat.le_trans z3 z4))) (Apart.of_at ap ag (.inl (Nat.le_refl _))) (Apart.of_at ap ar (.inl z4)) (Apart.of_at ag ar (.inl (Nat.le_refl _)))
  obtain ⟨b6', k6⟩ := store7 Bz (.int .i64 Hh) (.slice Ad n0 kd) (.slice (some ⟨g2, 0, none⟩) n1 k2) (.slice (some ⟨g3, 0, none⟩) n2 k3) (.slice (some ⟨g4, 0, none⟩) n3 k4) (.int .i64 day) (.slice (some ⟨g5, 0, none⟩) n4 k5)
  have hO6 := hO5.out k6 (by omega)
  have hE6 := k6.ext hE5 (by omega)
  generalize ((((((w5.setCell ⟨w.heap.size + 1, 0, none⟩ (.int .i64 Hh)).setCell ⟨w.heap.size + 1, 1, none⟩ (.slice Ad n0 kd)).setCell ⟨w.heap.size + 1, 2, none⟩ (.slice (some ⟨g2, 0, none⟩) n1 k2)).setCell ⟨w.heap.size + 1, 3, none⟩ (.slice (some ⟨g3, 0, none⟩) n2 k3)).setCell ⟨w.heap.size + 1, 4, none⟩ (.slice (some ⟨g4, 0, none⟩) n3 k4)).setCell ⟨w.heap.size + 1, 5, none⟩ (.int .i64 day)).setCell ⟨w.heap.size + 1, 6, none⟩ (.slice (some ⟨g5, 0, none⟩) n4 k5) = w6 at b6' k6 hO6 hE6 ⊢
  have HO6 := Lib.hid (hO6.weak (show w.heap.size ≤ wz.heap.size by omega))
  have HE6 := Lib.hid hE6
  have t0 := b6'.cellAt (i := 0) (by simp)
  have t1 := b6'.cellAt (i := 1) (by simp)
  have t2 := b6'.cellAt (i := 2) (by simp)
  have t3 := b6'.cellAt (i := 3) (by simp)
  have t4 := b6'.cellAt (i := 4) (by simp)
  have t5 := b6'.cellAt (i := 5) (by simp)
  have t6 := b6'.cellAt (i := 6) (by simp)
  simp at t0 t1 t2 t3 t4 t5 t6
  clear b6' k6 hO6 hE6 hO5 hE5 Bz x0 x1 x2 x3 x4 x5 x6 fz ho1 hg1 hv1 o2 o3 o4 o5 h2 h3 h4 h5 he1 he2 he3 he4 he5 y0 y1 y2 y3 y4 y5 y6
  go_wp2_with fail
  refine bodyPost_ret (v := MV.val ⟨Hh, ⟨Ad, n0, kd⟩, ⟨some ⟨g2, 0, none⟩, n1, k2⟩, ⟨some ⟨g3, 0, none⟩, n2, k3⟩, ⟨some ⟨g4, 0, none⟩, n3, k4⟩, day, ⟨some ⟨g5, 0, none⟩, n4, k5⟩⟩) (by simp [results, Tryz.results70, go_sem, t0, t1, t2, t3, t4, t5, t6, MV.val, MV.cells]) rfl ?_
  exact ⟨_, rfl, HE6.out, HO6.out⟩
end Go.Proofs.YtkelmeemblmggaaGreatDoor
/- Contract of the program's copy of a museum; no condition but what stands at each theorem. -/
namespace Go.Proofs.YtkelmeemblmggaaGreatDoor
set_option linter.unusedSimpArgs false
set_option linter.unusedVariables false
open Go.RowKit Go.Sort
/-- One row of the copy: not begun, an empty row of its own, or filled. -/
structure RS (W : World) (base : Nat) (e : TypeId) (m n : Nat) (xs : List Value) (b a : Bool) (yb ya u : Value) : Prop where
  nob : b = false → u = .slice none 0 0
  mid : b = true → a = false → yb = u
  fin : a = true → ya = u
  own : W.ownsRow base e m u (if a then n else 0) (if a then xs else [])
  ab : a = true → b = true
theorem RS.keep {W W' : World} {base : Nat} {e : TypeId} {m n : Nat} {xs : List Value} {b a : Bool} {yb ya u : Value} (h : RS W base e m n xs b a yb ya u) (k : Ext W W') : RS W' base e m n xs b a yb ya u :=
  ⟨h.nob, h.mid, h.fin, own_keep h.own k, h.ab⟩
theorem RS.other {W W' : World} {base : Nat} {e : TypeId} {m n : Nat} {xs : List Value} {b a : Bool} {yb ya u v : Value} (h : RS W base e m n xs b a yb ya u) (k : Apart u v) (g : W.grownBy W' v.ownBlock) : RS W' base e m n xs b a yb ya u :=
  ⟨h.nob, h.mid, h.fin, own_apart h.own k g, h.ab⟩
theorem RS.made {W : World} {base : Nat} {e : TypeId} {m n : Nat} {xs : List Value} {yb ya u : Value} (_h : RS W base e m n xs false false yb ya u) (hb : base ≤ W.heap.size) (y : Value) : RS (W.alloc (.cells #[] e)) base e m n xs true false (.slice (some ⟨W.heap.size, 0, none⟩) 0 0) y (.slice (some ⟨W.heap.size, 0, none⟩) 0 0) :=
  ⟨fun h => (by cases h), fun _ _ => rfl, fun h => (by cases h), own_empty W base e m hb, fun h => (by cases h)⟩
theorem apart_nil (v : Value) : Apart (.slice none 0 0) v := fun g h => by simp [Value.ownBlock] at h
theorem apart_new {W : World} {base : Nat} {e : TypeId} {m n : Nat} {v : Value} {L : List Value} (h : W.ownsRow base e m v n L) : Apart v (.slice (some ⟨W.heap.size, 0, none⟩) 0 0) := fun g hg hg' => by
  have := (h.lt g hg).2
  simp [Value.ownBlock] at hg'
  omega
theorem apart_grown {W : World} {base : Nat} {e : TypeId} {m n : Nat} {u v v' : Value} {L : List Value} (h : Apart u v) (hu : W.ownsRow base e m u n L) (hv : ∀ g, v'.ownBlock = some g → v.ownBlock = some g ∨ W.heap.size ≤ g) : Apart u v' := fun g hg hg' => by
  rcases hv g hg' with h1 | h1
  · exact h g hg h1
  · have := (hu.lt g hg).2
    omega
def nat1 (b : Bool) : Nat := if b then 0 else 1
theorem nat1_f : nat1 false = 1 := rfl
theorem nat1_t : nat1 true = 0 := rfl
theorem kill {x : Bool} (h : x = true) (k : x = false) : False := by rw [h] at k; cases k
theorem ready_at {md : Region.Mode} {ops : Array Oper} {listed : Array Bool} {i : Nat} (h : i ∈ Region.ready md ops listed) :
    i < ops.size ∧ (!listed.getD i true) = true ∧ ((ops[i]?).map (·.after.all fun e => !Region.binds md e || listed.getD e.on false)).getD false = true := by
  unfold Region.ready at h
  obtain ⟨h1, h2⟩ := List.mem_filter.1 h
  rw [Bool.and_eq_true] at h2
  exact ⟨List.mem_range.1 h1, h2.1, h2.2⟩
theorem ready_ne {md : Region.Mode} {ops : Array Oper} {listed : Array Bool} (i : Nat) (h0 : i < ops.size) (h : (!listed.getD i true && ((ops[i]?).map (·.after.all fun e => !Region.binds md e || listed.getD e.on false)).getD false) = true) : Region.ready md ops listed ≠ [] := by
  intro he
  have : i ∈ Region.ready md ops listed := List.mem_filter.2 ⟨List.mem_range.2 h0, h⟩
  rw [he] at this
  cases this
set_option maxRecDepth 100000 in
set_option maxHeartbeats 8000000 in
theorem impl_copyMuseum (v : MV) (m : GMuseum) (w : World) (hx : MRd w v m) (hf : MFit v) : Calls Tryz.prog 68 #[v.val] w (CopyPost m w) := by
  obtain ⟨wb, hwb⟩ : ∃ wb, wb = w.alloc (.cells v.cells 30) := ⟨_, rfl⟩
  have hbx := MBox.new hwb
  have hE : Ext w wb := by rw [hwb]; exact (Ext.refl w).alloc _
  obtain ⟨wz, hwz⟩ : ∃ wz, wz = wb.alloc (.cells #[.int .i64 0, .slice none 0 0, .slice none 0 0, .slice none 0 0, .slice none 0 0, .int .i64 0, .slice none 0 0] 30) := ⟨_, rfl⟩
  have hEz : Ext wb wz := by rw [hwz]; exact (Ext.refl wb).alloc _
  have hsb : wb.heap.size = w.heap.size + 1 := by rw [hwb]; simp
  have hsz : wz.heap.size = w.heap.size + 1 + 1 := by rw [hwz]; simp [hsb]
  have HBz : Hid (Blk wz (w.heap.size + 1) 30 #[.int .i64 0, .slice none 0 0, .slice none 0 0, .slice none 0 0, .slice none 0 0, .int .i64 0, .slice none 0 0]) := Lib.hid (by rw [hwz, ← hsb]; exact Blk.new _ _ _)
  have HX := Lib.hid (hx.keep (hE.trans hEz))
  have HB := Lib.hid (hbx.keep hEz)
  have HE := Lib.hid (hE.trans hEz)
  have HF := Lib.hid hf
  have HeH := Lib.hid hx.eH
  have Hed := Lib.hid hx.ed
  obtain ⟨Hh, ⟨A0, n0, c0⟩, ⟨A1, n1, c1⟩, ⟨A2, n2, c2⟩, ⟨A3, n3, c3⟩, day, ⟨A4, n4, c4⟩⟩ := v
  have Hwz : Hid (wz = (w.alloc (.cells #[.int .i64 Hh, .slice A0 n0 c0, .slice A1 n1 c1, .slice A2 n2 c2, .slice A3 n3 c3, .int .i64 day, .slice A4 n4 c4] 30)).alloc (.cells #[.int .i64 0, .slice none 0 0, .slice none 0 0, .slice none 0 0, .slice none 0 0, .int .i64 0, .slice none 0 0] 30)) := Lib.hid (by rw [hwz, hwb]; rfl)
  have nd : n0 ≤ 1048576 := hf.nd
  have nf : n1 ≤ 1048576 := hf.nf
  have np : n2 ≤ 1048576 := hf.np
  have ng : n3 ≤ 1048576 := hf.ng
  have nr : n4 ≤ 1048576 := hf.nr
  have hzl : w.heap.size + 1 < wz.heap.size := by omega
  clear hwb hwz hbx hE hEz hx hf hsb hsz
  show Calls Tryz.prog 68 #[.agg #[.int .i64 Hh, .slice A0 n0 c0, .slice A1 n1 c1, .slice A2 n2 c2, .slice A3 n3 c3, .int .i64 day, .slice A4 n4 c4]] w _
  obtain ⟨b0, b1, b2, b3, b4, b5, b6⟩ := HB.out.cell
  simp only at b0 b1 b2 b3 b4 b5 b6
  go_enter Tryz.func68, Tryz.ntmps68
  go_wp2_with fail
  rw [← Hwz.out]
  have cR := Lib.hid (fun W (he : Ext wz W) => impl_copyRecord A4 n4 c4 m.rs W (HX.out.rr.keep he) (Lib.hid HF.out.zr) nr)
  refine wp_region_held_drew (S := fun w' => w'.cell? ⟨w.heap.size, 0, none⟩ = some (.int .i64 Hh) ∧ w'.cell? ⟨w.heap.size, 1, none⟩ = some (.slice A0 n0 c0) ∧ w'.cell? ⟨w.heap.size, 2, none⟩ = some (.slice A1 n1 c1) ∧ w'.cell? ⟨w.heap.size, 3, none⟩ = some (.slice A2 n2 c2) ∧ w'.cell? ⟨w.heap.size, 4, none⟩ = some (.slice A3 n3 c3) ∧ w'.cell? ⟨w.heap.size, 5, none⟩ = some (.int .i64 day) ∧ w'.cell? ⟨w.heap.size, 6, none⟩ = some (.slice A4 n4 c4)) (by kernel_rfl) ⟨b0, b1, b2, b3, b4, b5, b6⟩ (fun hHeld => ?_)
  refine wpAnyH_takeD (i := 0) (oi := _) (v := ?_) 3 rfl rfl (by kernel_rfl) (by kernel_rfl) (by kernel_rfl) (fun _ _ _ h => h) (Or.inl ⟨by rfl, ?_⟩) (by assumption) ?_
  rotate_left 1
  · (intro w' hSw; (try dsimp only at hSw); go_simp; try with_reducible rfl)
  (try simp only [Act.put, List.setIfInBounds_toArray, List.set_cons_zero, List.set_cons_succ])
  refine wpAnyH_takeD (i := 1) (oi := _) (v := ?_) 4 rfl rfl (by kernel_rfl) (by kernel_rfl) (by kernel_rfl) (fun _ _ _ h => h) (Or.inl ⟨by rfl, ?_⟩) (by assumption) ?_
  rotate_left 1
  · (intro w' hSw; (try dsimp only at hSw); go_simp; try with_reducible rfl)
  (try simp only [Act.put, List.setIfInBounds_toArray, List.set_cons_zero, List.set_cons_succ])
  refine wpAnyH_takeD (i := 2) (oi := _) (v := ?_) 5 rfl rfl (by kernel_rfl) (by kernel_rfl) (by kernel_rfl) (fun _ _ _ h => h) (Or.inl ⟨by rfl, ?_⟩) (by assumption) ?_
  rotate_left 1
  · (intro w' hSw; (try dsimp only at hSw); go_simp; try with_reducible rfl)
  (try simp only [Act.put, List.setIfInBounds_toArray, List.set_cons_zero, List.set_cons_succ])
  refine wpAnyH_takeD (i := 4) (oi := _) (v := ?_) 7 rfl rfl (by kernel_rfl) (by kernel_rfl) (by kernel_rfl) (fun _ _ _ h => h) (Or.inl ⟨by rfl, ?_⟩) (by assumption) ?_
  rotate_left 1
  · (intro w' hSw; (try dsimp only at hSw); go_simp; try with_reducible rfl)
  (try simp only [Act.put, List.setIfInBounds_toArray, List.set_cons_zero, List.set_cons_succ])
  refine wpAnyH_takeD (i := 5) (oi := _) (v := ?_) 8 rfl rfl (by kernel_rfl) (by kernel_rfl) (by kernel_rfl) (fun _ _ _ h => h) (Or.inl ⟨by rfl, ?_⟩) (by assumption) ?_
  rotate_left 1
  · (intro w' hSw; (try dsimp only at hSw); go_simp; try with_reducible rfl)
  (try simp only [Act.put, List.setIfInBounds_toArray, List.set_cons_zero, List.set_cons_succ])
  refine wpAnyH_takeD (i := 6) (oi := _) (v := ?_) 9 rfl rfl (by kernel_rfl) (by kernel_rfl) (by kernel_rfl) (fun _ _ _ h => h) (Or.inl ⟨by rfl, ?_⟩) (by assumption) ?_
  rotate_left 1
  · (intro w' hSw; (try dsimp only at hSw); go_simp; try with_reducible rfl)
  (try simp only [Act.put, List.setIfInBounds_toArray, List.set_cons_zero, List.set_cons_succ])
  refine wpAnyH_takeD (i := 10) (oi := _) (v := ?_) 13 rfl rfl (by kernel_rfl) (by kernel_rfl) (by kernel_rfl) (fun _ _ _ h => h) (Or.inl ⟨by rfl, ?_⟩) (by assumption) ?_
  rotate_left 1
  · (intro w' hSw; (try dsimp only at hSw); go_simp; try with_reducible rfl)
  (try simp only [Act.put, List.setIfInBounds_toArray, List.set_cons_zero, List.set_cons_succ])
  refine wpAnyH_takeD (i := 11) (oi := _) (v := ?_) 14 rfl rfl (by kernel_rfl) (by kernel_rfl) (by kernel_rfl) (fun _ _ _ h => h) (Or.inl ⟨by rfl, ?_⟩) (by assumption) ?_
  rotate_left 1
  · (intro w' hSw; (try dsimp only at hSw); go_simp; try with_reducible rfl)
  (try simp only [Act.put, List.setIfInBounds_toArray, List.set_cons_zero, List.set_cons_succ])
  refine wpAnyH_takeD (i := 14) (oi := _) (v := ?_) 17 rfl rfl (by kernel_rfl) (by kernel_rfl) (by kernel_rfl) (fun _ _ _ h => h) (Or.inl ⟨by rfl, ?_⟩) (by assumption) ?_
  rotate_left 1
  · (intro w' hSw; (try dsimp only at hSw); go_simp; try with_reducible rfl)
  (try simp only [Act.put, List.setIfInBounds_toArray, List.set_cons_zero, List.set_cons_succ])
  refine wpAnyH_takeD (i := 15) (oi := _) (v := ?_) 18 rfl rfl (by kernel_rfl) (by kernel_rfl) (by kernel_rfl) (fun _ _ _ h => h) (Or.inl ⟨by rfl, ?_⟩) (by assumption) ?_
  rotate_left 1
  · (intro w' hSw; (try dsimp only at hSw); go_simp; try with_reducible rfl)
  (try simp only [Act.put, List.setIfInBounds_toArray, List.set_cons_zero, List.set_cons_succ])
  refine wpAnyH_takeD (i := 18) (oi := _) (v := ?_) 21 rfl rfl (by kernel_rfl) (by kernel_rfl) (by kernel_rfl) (fun _ _ _ h => h) (Or.inl ⟨by rfl, ?_⟩) (by assumption) ?_
  rotate_left 1
  · (intro w' hSw; (try dsimp only at hSw); go_simp; try with_reducible rfl)
  (try simp only [Act.put, List.setIfInBounds_toArray, List.set_cons_zero, List.set_cons_succ])
  refine wpAnyH_takeD (i := 19) (oi := _) (v := ?_) 22 rfl rfl (by kernel_rfl) (by kernel_rfl) (by kernel_rfl) (fun _ _ _ h => h) (Or.inl ⟨by rfl, ?_⟩) (by assumption) ?_
  rotate_left 1
  · (intro w' hSw; (try dsimp only at hSw); go_simp; try with_reducible rfl)
  (try simp only [Act.put, List.setIfInBounds_toArray, List.set_cons_zero, List.set_cons_succ])
  refine wpAnyH_takeD (i := 21) (oi := _) (v := ?_) 24 rfl rfl (by kernel_rfl) (by kernel_rfl) (by kernel_rfl) (fun _ _ _ h => h) (Or.inl ⟨by rfl, ?_⟩) (by assumption) ?_
  rotate_left 1
  · (intro w' hSw; (try dsimp only at hSw); go_simp; try with_reducible rfl)
  (try simp only [Act.put, List.setIfInBounds_toArray, List.set_cons_zero, List.set_cons_succ])
  refine wpAnyH_takeD (i := 22) (oi := _) (v := ?_) 25 rfl rfl (by kernel_rfl) (by kernel_rfl) (by kernel_rfl) (fun _ _ _ h => h) (Or.inl ⟨by rfl, ?_⟩) (by assumption) ?_
  rotate_left 1
  · (intro w' hSw; (try dsimp only at hSw); go_simp; try with_reducible rfl)
  (try simp only [Act.put, List.setIfInBounds_toArray, List.set_cons_zero, List.set_cons_succ])
  refine wpAnyH_takeD (i := 23) (oi := _) (v := ?_) 26 rfl rfl (by kernel_rfl) (by kernel_rfl) (by kernel_rfl) (fun _ _ _ h => h) (Or.inl ⟨by rfl, ?_⟩) (by assumption) ?_
  rotate_left 1
  · (intro w' hSw; (try dsimp only at hSw); go_simp; try with_reducible rfl)
  (try simp only [Act.put, List.setIfInBounds_toArray, List.set_cons_zero, List.set_cons_succ])
  refine wpAnyH_takeD (i := 24) (oi := _) (v := ?_) 27 rfl rfl (by kernel_rfl) (by kernel_rfl) (by kernel_rfl) (fun _ _ _ h => h) (Or.inl ⟨by rfl, ?_⟩) (by assumption) ?_
  rotate_left 1
  · (intro w' hSw; (try dsimp only at hSw); go_simp; try with_reducible rfl)
  (try simp only [Act.put, List.setIfInBounds_toArray, List.set_cons_zero, List.set_cons_succ])
  have hSof : ∀ W, Ext wz W → (W.cell? ⟨w.heap.size, 0, none⟩ = some (.int .i64 Hh) ∧ W.cell? ⟨w.heap.size, 1, none⟩ = some (.slice A0 n0 c0) ∧ W.cell? ⟨w.heap.size, 2, none⟩ = some (.slice A1 n1 c1) ∧ W.cell? ⟨w.heap.size, 3, none⟩ = some (.slice A2 n2 c2) ∧ W.cell? ⟨w.heap.size, 4, none⟩ = some (.slice A3 n3 c3) ∧ W.cell? ⟨w.heap.size, 5, none⟩ = some (.int .i64 day) ∧ W.cell? ⟨w.heap.size, 6, none⟩ = some (.slice A4 n4 c4)) := fun W he => (HB.out.keep he).cell
  clear b0 b1 b2 b3 b4 b5 b6 hHeld
  refine wpAnyH_start 2 10 (#[true, true, true, false, true, true, true, false, false, false, true, true, false, false, true, true, false, false, true, true, false, true, true, true, true, false, false, false]) (by kernel_rfl) (by kernel_rfl) ?_
  refine wpAnyH_inv 2 (fun n listed a W => ∃ (b1 b2 b3 b4 a1 a2 a3 a4 c bh : Bool) (yb1 yb2 yb3 yb4 ya1 ya2 ya3 ya4 yc yh u1 u2 u3 u4 u5 : Value), listed = #[true, true, true, b1, true, true, true, a1, bh, b2, true, true, a2, b3, true, true, a3, b4, true, true, a4, true, true, true, true, c, false, false] ∧ a = ⟨#[.agg #[.int .i64 Hh, .slice A0 n0 c0, .slice A1 n1 c1, .slice A2 n2 c2, .slice A3 n3 c3, .int .i64 day, .slice A4 n4 c4], .pointer (some ⟨w.heap.size, 0, none⟩), .pointer (some ⟨w.heap.size + 1, 0, none⟩), .pointer (some ⟨w.heap.size, 0, none⟩), .pointer (some ⟨w.heap.size, 0, none⟩), .int .i64 Hh, yb1, .pointer (some ⟨w.heap.size, 0, none⟩), .pointer (some ⟨w.heap.size, 1, none⟩), .slice A0 n0 c0, ya1, yh, yb2, .pointer (some ⟨w.heap.size, 2, none⟩), .slice A1 n1 c1, ya2, yb3, .pointer (some ⟨w.heap.size, 3, none⟩), .slice A2 n2 c2, ya3, yb4, .pointer (some ⟨w.heap.size, 4, none⟩), .slice A3 n3 c3, ya4, .pointer (some ⟨w.heap.size, 5, none⟩), .int .i64 day, .pointer (some ⟨w.heap.size, 6, none⟩), .slice A4 n4 c4, yc, undef], []⟩ ∧ n = nat1 b1 + nat1 b2 + nat1 b3 + nat1 b4 + nat1 a1 + nat1 a2 + nat1 a3 + nat1 a4 + nat1 c + nat1 bh ∧ (a2 = true → a1 = true) ∧ (a3 = true → a2 = true) ∧ (a4 = true → a3 = true) ∧ (c = true → a4 = true) ∧ (bh = true → a1 = true) ∧ (bh = true → yh = .agg #[.int .i64 Hh, u1]) ∧ RS W wz.heap.size 126 2 n0 (m.ds.flatMap GDoor.enc) b1 a1 yb1 ya1 u1 ∧ RS W wz.heap.size 3 1 n1 (m.fs.flatMap ienc) b2 a2 yb2 ya2 u2 ∧ RS W wz.heap.size 3 1 n2 (m.ps.flatMap ienc) b3 a3 yb3 ya3 u3 ∧ RS W wz.heap.size 3 1 n3 (m.gs.flatMap ienc) b4 a4 yb4 ya4 u4 ∧ (c = false → u5 = .slice none 0 0) ∧ (c = true → yc = u5) ∧ W.ownsRow wz.heap.size 43 3 u5 (if c then n4 else 0) (if c then m.rs.flatMap GEntry.enc else []) ∧ List.Pairwise Apart [u1, u2, u3, u4, u5] ∧ Ext wz W) ?_ ?_ 10 _ _ _ ?_
  · rintro listed a W ⟨b1, b2, b3, b4, a1, a2, a3, a4, c, bh, yb1, yb2, yb3, yb4, ya1, ya2, ya3, ya4, yc, yh, u1, u2, u3, u4, u5, rfl, rfl, hn, k2, k3, k4, k5, kh, hh, r1, r2, r3, r4, qc0, qc1, o5, hap, he⟩
    cases b1
    · simp only [nat1_f] at hn; omega
    cases b2
    · simp only [nat1_f] at hn; omega
    cases b3
    · simp only [nat1_f] at hn; omega
    cases b4
    · simp only [nat1_f] at hn; omega
    cases a1
    · simp only [nat1_f] at hn; omega
    cases a2
    · simp only [nat1_f] at hn; omega
    cases a3
    · simp only [nat1_f] at hn; omega
    cases a4
    · simp only [nat1_f] at hn; omega
    cases c
    · simp only [nat1_f] at hn; omega
    cases bh
    · simp only [nat1_f] at hn; omega
    have g1 := r1.fin rfl
    have g2 := r2.fin rfl
    have g3 := r3.fin rfl
    have g4 := r4.fin rfl
    have g5 := qc1 rfl
    have gh := hh rfl
    subst g1
    subst g2
    subst g3
    subst g4
    subst g5
    subst gh
    have v1 := r1.own
    simp only [if_true] at v1
    obtain ⟨A1', k1', hw1, _⟩ := own_form v1
    subst hw1
    have v2 := r2.own
    simp only [if_true] at v2
    obtain ⟨A2', k2', hw2, _⟩ := own_form v2
    subst hw2
    have v3 := r3.own
    simp only [if_true] at v3
    obtain ⟨A3', k3', hw3, _⟩ := own_form v3
    subst hw3
    have v4 := r4.own
    simp only [if_true] at v4
    obtain ⟨A4', k4', hw4, _⟩ := own_form v4
    subst hw4
    have v5 := o5
    simp only [if_true] at v5
    obtain ⟨A5', k5', hw5, _⟩ := own_form v5
    subst hw5
    have hO : MOwn W wz.heap.size ⟨Hh, ⟨A1', n0, k1'⟩, ⟨A2', n1, k2'⟩, ⟨A3', n2, k3'⟩, ⟨A4', n3, k4'⟩, day, ⟨A5', n4, k5'⟩⟩ m := ⟨HeH.out, Hed.out, v1, v2, v3, v4, v5, hap⟩
    clear r1 r2 r3 r4 qc0 qc1 o5 hap k2 k3 k4 k5 kh hh hn v1 v2 v3 v4 v5
    have Bz := Blk.keep HBz.out he
    have x0 := Bz.cellAt (i := 0) (by simp)
    have x1 := Bz.cellAt (i := 1) (by simp)
    have x2 := Bz.cellAt (i := 2) (by simp)
    have x3 := Bz.cellAt (i := 3) (by simp)
    have x4 := Bz.cellAt (i := 4) (by simp)
    have x5 := Bz.cellAt (i := 5) (by simp)
    have x6 := Bz.cellAt (i := 6) (by simp)
    have fz := Bz.free
    simp at x0 x1 x2 x3 x4 x5 x6
    have hSW := hSof W he
    refine wpAnyH_takeD (i := 26) (oi := _) (v := ?_) 29 rfl rfl (by kernel_rfl) (by kernel_rfl) (by kernel_rfl) (fun _ _ _ h => h) (Or.inl ⟨by rfl, ?_⟩) hSW ?_
    rotate_left 1
    · (intro w' hSw; (try dsimp only at hSw); go_simp; try with_reducible rfl)
    (try simp only [Act.put, List.setIfInBounds_toArray, List.set_cons_zero, List.set_cons_succ])
    refine ⟨fun h => absurd h (by rw [show Region.ready _ _ _ = [27] from by kernel_rfl]; simp), fun i hi => ?_⟩
    rw [show Region.ready _ _ _ = [27] from by kernel_rfl, List.mem_singleton] at hi
    subst hi
    refine wpOp_step (o := { dst := none, op := Op.store 30 (Operand.tmp 2) (Operand.tmp 29), type := _, pos := _, after := _, guard := none }) rfl (fun K' hK => ?_)
    go_simp
    obtain ⟨b6', k6⟩ := store7 Bz (.int .i64 Hh) (.slice A1' n0 k1') (.slice A2' n1 k2') (.slice A3' n2 k3') (.slice A4' n3 k4') (.int .i64 day) (.slice A5' n4 k5')
    have hE5 := HE.out.trans he
    have hO6 := hO.out k6 (by omega)
    have hE6 := k6.ext hE5 (by omega)
    have hS6 := ((HB.out.keep he).out k6 (.inl (Nat.lt_succ_self _))).cell
    generalize (((((((W.setCell ⟨w.heap.size + 1, 0, none⟩ (.int .i64 Hh)).setCell ⟨w.heap.size + 1, 1, none⟩ (.slice A1' n0 k1')).setCell ⟨w.heap.size + 1, 2, none⟩ (.slice A2' n1 k2')).setCell ⟨w.heap.size + 1, 3, none⟩ (.slice A3' n2 k3')).setCell ⟨w.heap.size + 1, 4, none⟩ (.slice A4' n3 k4')).setCell ⟨w.heap.size + 1, 5, none⟩ (.int .i64 day)).setCell ⟨w.heap.size + 1, 6, none⟩ (.slice A5' n4 k5')) = w6 at b6' k6 hO6 hE6 hS6 ⊢
    have HO6 := Lib.hid (hO6.weak (show w.heap.size ≤ wz.heap.size by omega))
    have HE6 := Lib.hid hE6
    have t0 := b6'.cellAt (i := 0) (by simp)
    have t1 := b6'.cellAt (i := 1) (by simp)
    have t2 := b6'.cellAt (i := 2) (by simp)
    have t3 := b6'.cellAt (i := 3) (by simp)
    have t4 := b6'.cellAt (i := 4) (by simp)
    have t5 := b6'.cellAt (i := 5) (by simp)
    have t6 := b6'.cellAt (i := 6) (by simp)
    simp at t0 t1 t2 t3 t4 t5 t6
    refine hK _ _ ⟨hS6, by kernel_rfl, ?_⟩
    clear hK K' b6' k6 hO6 hE6 hO hE5 Bz x0 x1 x2 x3 x4 x5 x6 fz hS6 hSof hSW he
    go_wp2_with fail
    refine bodyPost_ret (v := MV.val ⟨Hh, ⟨A1', n0, k1'⟩, ⟨A2', n1, k2'⟩, ⟨A3', n2, k3'⟩, ⟨A4', n3, k4'⟩, day, ⟨A5', n4, k5'⟩⟩) (by simp [results, Tryz.results68, go_sem, t0, t1, t2, t3, t4, t5, t6, MV.val, MV.cells]) rfl ?_
    exact ⟨_, rfl, HE6.out, HO6.out⟩
  · rintro n listed a W ⟨b1, b2, b3, b4, a1, a2, a3, a4, c, bh, yb1, yb2, yb3, yb4, ya1, ya2, ya3, ya4, yc, yh, u1, u2, u3, u4, u5, rfl, rfl, hn, k2, k3, k4, k5, kh, hh, r1, r2, r3, r4, qc0, qc1, o5, hap, he⟩
    refine ⟨?_, ?_⟩
    · clear k2 k3 k4 k5 kh hh r1 r2 r3 r4 qc0 qc1 o5 hap
      cases b1
      · exact ready_ne 3 (by show 3 < 28; omega) (by kernel_rfl)
      cases b2
      · exact ready_ne 9 (by show 9 < 28; omega) (by kernel_rfl)
      cases b3
      · exact ready_ne 13 (by show 13 < 28; omega) (by kernel_rfl)
      cases b4
      · exact ready_ne 17 (by show 17 < 28; omega) (by kernel_rfl)
      cases a1
      · exact ready_ne 7 (by show 7 < 28; omega) (by kernel_rfl)
      cases a2
      · exact ready_ne 12 (by show 12 < 28; omega) (by kernel_rfl)
      cases a3
      · exact ready_ne 16 (by show 16 < 28; omega) (by kernel_rfl)
      cases a4
      · exact ready_ne 20 (by show 20 < 28; omega) (by kernel_rfl)
      cases c
      · exact ready_ne 25 (by show 25 < 28; omega) (by kernel_rfl)
      cases bh
      · exact ready_ne 8 (by show 8 < 28; omega) (by kernel_rfl)
      simp only [nat1_t] at hn
      omega
    · intro i hi
      obtain ⟨hlt, hu, h2⟩ := ready_at hi
      replace hlt : i < 28 := hlt
      clear hi
      obtain ⟨d1, d2, d3, d4, f1, f2, f3, p1, p2, g1⟩ := aparts hap
      have hbase : wz.heap.size ≤ W.heap.size := he.size
      have hcase : i = 0 ∨ i = 1 ∨ i = 2 ∨ i = 3 ∨ i = 4 ∨ i = 5 ∨ i = 6 ∨ i = 7 ∨ i = 8 ∨ i = 9 ∨ i = 10 ∨ i = 11 ∨ i = 12 ∨ i = 13 ∨ i = 14 ∨ i = 15 ∨ i = 16 ∨ i = 17 ∨ i = 18 ∨ i = 19 ∨ i = 20 ∨ i = 21 ∨ i = 22 ∨ i = 23 ∨ i = 24 ∨ i = 25 ∨ i = 26 ∨ i = 27 := by omega
      rcases hcase with rfl | rfl | rfl | rfl | rfl | rfl | rfl | rfl | rfl | rfl | rfl | rfl | rfl | rfl | rfl | rfl | rfl | rfl | rfl | rfl | rfl | rfl | rfl | rfl | rfl | rfl | rfl | rfl
      · -- 0
        exact (kill hu (by kernel_rfl)).elim
      · -- 1
        exact (kill hu (by kernel_rfl)).elim
      · -- 2
        exact (kill hu (by kernel_rfl)).elim
      · -- 3
        cases b1
        rotate_left 1
        · exact (kill hu (by kernel_rfl)).elim
        cases a1
        rotate_left 1
        · exact Bool.noConfusion (r1.ab rfl)
        cases bh
        rotate_left 1
        · exact Bool.noConfusion (kh rfl)
        have hcn : n = nat1 true + nat1 b2 + nat1 b3 + nat1 b4 + nat1 false + nat1 a2 + nat1 a3 + nat1 a4 + nat1 c + nat1 false := by simp only [nat1_f, nat1_t] at hn ⊢; omega
        refine wpOp_step (o := { dst := some 6, op := Op.buildSlice 24 0 #[], type := 24, pos := _, after := _, guard := none }) rfl (fun K' hK => ?_)
        go_simp
        refine hK _ _ ⟨hSof _ (he.alloc _), ?_⟩
        exact ⟨true, b2, b3, b4, false, a2, a3, a4, c, false, (.slice (some ⟨W.heap.size, 0, none⟩) 0 0), yb2, yb3, yb4, ya1, ya2, ya3, ya4, yc, yh, (.slice (some ⟨W.heap.size, 0, none⟩) 0 0), u2, u3, u4, u5, by kernel_rfl, rfl, hcn, k2, k3, k4, k5, (fun h => Bool.noConfusion h), (fun h => Bool.noConfusion h), r1.made hbase ya1, r2.keep ((Ext.refl W).alloc _), r3.keep ((Ext.refl W).alloc _), r4.keep ((Ext.refl W).alloc _), qc0, qc1, own_keep o5 ((Ext.refl W).alloc _), apart5 (Apart.symm (apart_new r2.own)) (Apart.symm (apart_new r3.own)) (Apart.symm (apart_new r4.own)) (Apart.symm (apart_new o5)) f1 f2 f3 p1 p2 g1, he.alloc _⟩
      · -- 4
        exact (kill hu (by kernel_rfl)).elim
      · -- 5
        exact (kill hu (by kernel_rfl)).elim
      · -- 6
        exact (kill hu (by kernel_rfl)).elim
      · -- 7
        cases b1
        · exact (kill h2 (by kernel_rfl)).elim
        cases a1
        rotate_left 1
        · exact (kill hu (by kernel_rfl)).elim
        cases bh
        rotate_left 1
        · exact Bool.noConfusion (kh rfl)
        have hcn : n = nat1 true + nat1 b2 + nat1 b3 + nat1 b4 + nat1 true + nat1 a2 + nat1 a3 + nat1 a4 + nat1 c + nat1 false := by simp only [nat1_f, nat1_t] at hn ⊢; omega
        have hmid := r1.mid rfl rfl
        subst hmid
        have hown := r1.own
        simp only [Bool.false_eq_true, if_false] at hown
        refine wpOp_step (o := { dst := some 10, op := Op.call { callee := Callee.builtin Builtin.append, args := #[Operand.tmp 6, Operand.tmp 9], argTypes := #[24, 24] }, type := 24, pos := _, after := _, guard := none }) rfl (fun K' hK => ?_)
        refine step_appAt ei_DoorN rfl _ _ rfl wz.heap.size W _ 0 [] (by rfl) hown A0 n0 c0 (m.ds.flatMap GDoor.enc) (by rfl) ((HX.out.keep he).rd) HF.out.zd (one_GDoorN _) (by omega) hbase ?_
        intro v' w1 ho' hg hv
        rw [Nat.zero_add, List.nil_append] at ho'
        have he1 : Ext wz w1 := he.grown hg (fun q hq => (hown.lt q hq).1)
        refine hK _ _ ⟨hSof _ he1, ?_⟩
        exact ⟨true, b2, b3, b4, true, a2, a3, a4, c, false, _, yb2, yb3, yb4, v', ya2, ya3, ya4, yc, yh, v', u2, u3, u4, u5, by kernel_rfl, rfl, hcn, (fun _ => rfl), k3, k4, k5, (fun h => Bool.noConfusion h), (fun h => Bool.noConfusion h), ⟨(fun h => Bool.noConfusion h), fun _ h => Bool.noConfusion h, fun _ => rfl, by simpa using ho', fun _ => rfl⟩, r2.other (Apart.symm d1) hg, r3.other (Apart.symm d2) hg, r4.other (Apart.symm d3) hg, qc0, qc1, own_apart o5 (Apart.symm d4) hg, apart5 (Apart.symm (apart_grown (Apart.symm d1) r2.own hv)) (Apart.symm (apart_grown (Apart.symm d2) r3.own hv)) (Apart.symm (apart_grown (Apart.symm d3) r4.own hv)) (Apart.symm (apart_grown (Apart.symm d4) o5 hv)) f1 f2 f3 p1 p2 g1, he1⟩
      · -- 8
        cases a1
        · exact (kill h2 (by kernel_rfl)).elim
        cases bh
        rotate_left 1
        · exact (kill hu (by kernel_rfl)).elim
        have hfin := r1.fin rfl
        subst hfin
        obtain ⟨Ad, kd, hud, _⟩ := own_form r1.own
        subst hud
        have hcn : n = nat1 b1 + nat1 b2 + nat1 b3 + nat1 b4 + nat1 true + nat1 a2 + nat1 a3 + nat1 a4 + nat1 c + nat1 true := by simp only [nat1_f, nat1_t] at hn ⊢; omega
        refine wpOp_step (o := { dst := some 11, op := Op.build 26 #[(0, Operand.tmp 5), (1, Operand.tmp 10)], type := 26, pos := _, after := _, guard := none }) rfl (fun K' hK => ?_)
        go_simp
        refine hK _ _ ⟨hSof _ he, ?_⟩
        exact ⟨b1, b2, b3, b4, true, a2, a3, a4, c, true, yb1, yb2, yb3, yb4, _, ya2, ya3, ya4, yc, _, _, u2, u3, u4, u5, by kernel_rfl, rfl, hcn, k2, k3, k4, k5, fun _ => rfl, fun _ => rfl, r1, r2, r3, r4, qc0, qc1, o5, hap, he⟩
      · -- 9
        cases b2
        rotate_left 1
        · exact (kill hu (by kernel_rfl)).elim
        cases a2
        rotate_left 1
        · exact Bool.noConfusion (r2.ab rfl)
        have hcn : n = nat1 b1 + nat1 true + nat1 b3 + nat1 b4 + nat1 a1 + nat1 false + nat1 a3 + nat1 a4 + nat1 c + nat1 bh := by simp only [nat1_f, nat1_t] at hn ⊢; omega
        refine wpOp_step (o := { dst := some 12, op := Op.buildSlice 27 0 #[], type := 27, pos := _, after := _, guard := none }) rfl (fun K' hK => ?_)
        go_simp
        refine hK _ _ ⟨hSof _ (he.alloc _), ?_⟩
        exact ⟨b1, true, b3, b4, a1, false, a3, a4, c, bh, yb1, (.slice (some ⟨W.heap.size, 0, none⟩) 0 0), yb3, yb4, ya1, ya2, ya3, ya4, yc, yh, u1, (.slice (some ⟨W.heap.size, 0, none⟩) 0 0), u3, u4, u5, by kernel_rfl, rfl, hcn, k2, k3, k4, k5, kh, hh, r1.keep ((Ext.refl W).alloc _), r2.made hbase ya2, r3.keep ((Ext.refl W).alloc _), r4.keep ((Ext.refl W).alloc _), qc0, qc1, own_keep o5 ((Ext.refl W).alloc _), apart5 (apart_new r1.own) d2 d3 d4 (Apart.symm (apart_new r3.own)) (Apart.symm (apart_new r4.own)) (Apart.symm (apart_new o5)) p1 p2 g1, he.alloc _⟩
      · -- 10
        exact (kill hu (by kernel_rfl)).elim
      · -- 11
        exact (kill hu (by kernel_rfl)).elim
      · -- 12
        cases b2
        · exact (kill h2 (by kernel_rfl)).elim
        cases a1
        · exact (kill h2 (by kernel_rfl)).elim
        cases a2
        rotate_left 1
        · exact (kill hu (by kernel_rfl)).elim
        have hcn : n = nat1 b1 + nat1 true + nat1 b3 + nat1 b4 + nat1 true + nat1 true + nat1 a3 + nat1 a4 + nat1 c + nat1 bh := by simp only [nat1_f, nat1_t] at hn ⊢; omega
        have hmid := r2.mid rfl rfl
        subst hmid
        have hown := r2.own
        simp only [Bool.false_eq_true, if_false] at hown
        refine wpOp_step (o := { dst := some 15, op := Op.call { callee := Callee.builtin Builtin.append, args := #[Operand.tmp 12, Operand.tmp 14], argTypes := #[27, 27] }, type := 27, pos := _, after := _, guard := none }) rfl (fun K' hK => ?_)
        refine step_appAt ei_IntN rfl _ _ rfl wz.heap.size W _ 0 [] (by rfl) hown A1 n1 c1 (m.fs.flatMap ienc) (by rfl) ((HX.out.keep he).rf) HF.out.zf (one_iencM _) (by omega) hbase ?_
        intro v' w1 ho' hg hv
        rw [Nat.zero_add, List.nil_append] at ho'
        have he1 : Ext wz w1 := he.grown hg (fun q hq => (hown.lt q hq).1)
        refine hK _ _ ⟨hSof _ he1, ?_⟩
        exact ⟨b1, true, b3, b4, true, true, a3, a4, c, bh, yb1, _, yb3, yb4, ya1, v', ya3, ya4, yc, yh, u1, v', u3, u4, u5, by kernel_rfl, rfl, hcn, (fun _ => rfl), (fun _ => rfl), k4, k5, kh, hh, r1.other d1 hg, ⟨(fun h => Bool.noConfusion h), fun _ h => Bool.noConfusion h, fun _ => rfl, by simpa using ho', fun _ => rfl⟩, r3.other (Apart.symm f1) hg, r4.other (Apart.symm f2) hg, qc0, qc1, own_apart o5 (Apart.symm f3) hg, apart5 (apart_grown d1 r1.own hv) d2 d3 d4 (Apart.symm (apart_grown (Apart.symm f1) r3.own hv)) (Apart.symm (apart_grown (Apart.symm f2) r4.own hv)) (Apart.symm (apart_grown (Apart.symm f3) o5 hv)) p1 p2 g1, he1⟩
      · -- 13
        cases b3
        rotate_left 1
        · exact (kill hu (by kernel_rfl)).elim
        cases a3
        rotate_left 1
        · exact Bool.noConfusion (r3.ab rfl)
        have hcn : n = nat1 b1 + nat1 b2 + nat1 true + nat1 b4 + nat1 a1 + nat1 a2 + nat1 false + nat1 a4 + nat1 c + nat1 bh := by simp only [nat1_f, nat1_t] at hn ⊢; omega
        refine wpOp_step (o := { dst := some 16, op := Op.buildSlice 27 0 #[], type := 27, pos := _, after := _, guard := none }) rfl (fun K' hK => ?_)
        go_simp
        refine hK _ _ ⟨hSof _ (he.alloc _), ?_⟩
        exact ⟨b1, b2, true, b4, a1, a2, false, a4, c, bh, yb1, yb2, (.slice (some ⟨W.heap.size, 0, none⟩) 0 0), yb4, ya1, ya2, ya3, ya4, yc, yh, u1, u2, (.slice (some ⟨W.heap.size, 0, none⟩) 0 0), u4, u5, by kernel_rfl, rfl, hcn, k2, k3, k4, k5, kh, hh, r1.keep ((Ext.refl W).alloc _), r2.keep ((Ext.refl W).alloc _), r3.made hbase ya3, r4.keep ((Ext.refl W).alloc _), qc0, qc1, own_keep o5 ((Ext.refl W).alloc _), apart5 d1 (apart_new r1.own) d3 d4 (apart_new r2.own) f2 f3 (Apart.symm (apart_new r4.own)) (Apart.symm (apart_new o5)) g1, he.alloc _⟩
      · -- 14
        exact (kill hu (by kernel_rfl)).elim
      · -- 15
        exact (kill hu (by kernel_rfl)).elim
      · -- 16
        cases b3
        · exact (kill h2 (by kernel_rfl)).elim
        cases a2
        · exact (kill h2 (by kernel_rfl)).elim
        cases a3
        rotate_left 1
        · exact (kill hu (by kernel_rfl)).elim
        have hcn : n = nat1 b1 + nat1 b2 + nat1 true + nat1 b4 + nat1 a1 + nat1 true + nat1 true + nat1 a4 + nat1 c + nat1 bh := by simp only [nat1_f, nat1_t] at hn ⊢; omega
        have hmid := r3.mid rfl rfl
        subst hmid
        have hown := r3.own
        simp only [Bool.false_eq_true, if_false] at hown
        refine wpOp_step (o := { dst := some 19, op := Op.call { callee := Callee.builtin Builtin.append, args := #[Operand.tmp 16, Operand.tmp 18], argTypes := #[27, 27] }, type := 27, pos := _, after := _, guard := none }) rfl (fun K' hK => ?_)
        refine step_appAt ei_IntN rfl _ _ rfl wz.heap.size W _ 0 [] (by rfl) hown A2 n2 c2 (m.ps.flatMap ienc) (by rfl) ((HX.out.keep he).rp) HF.out.zp (one_iencM _) (by omega) hbase ?_
        intro v' w1 ho' hg hv
        rw [Nat.zero_add, List.nil_append] at ho'
        have he1 : Ext wz w1 := he.grown hg (fun q hq => (hown.lt q hq).1)
        refine hK _ _ ⟨hSof _ he1, ?_⟩
        exact ⟨b1, b2, true, b4, a1, true, true, a4, c, bh, yb1, yb2, _, yb4, ya1, ya2, v', ya4, yc, yh, u1, u2, v', u4, u5, by kernel_rfl, rfl, hcn, k2, (fun _ => rfl), (fun _ => rfl), k5, kh, hh, r1.other d2 hg, r2.other f1 hg, ⟨(fun h => Bool.noConfusion h), fun _ h => Bool.noConfusion h, fun _ => rfl, by simpa using ho', fun _ => rfl⟩, r4.other (Apart.symm p1) hg, qc0, qc1, own_apart o5 (Apart.symm p2) hg, apart5 d1 (apart_grown d2 r1.own hv) d3 d4 (apart_grown f1 r2.own hv) f2 f3 (Apart.symm (apart_grown (Apart.symm p1) r4.own hv)) (Apart.symm (apart_grown (Apart.symm p2) o5 hv)) g1, he1⟩
      · -- 17
        cases b4
        rotate_left 1
        · exact (kill hu (by kernel_rfl)).elim
        cases a4
        rotate_left 1
        · exact Bool.noConfusion (r4.ab rfl)
        have hcn : n = nat1 b1 + nat1 b2 + nat1 b3 + nat1 true + nat1 a1 + nat1 a2 + nat1 a3 + nat1 false + nat1 c + nat1 bh := by simp only [nat1_f, nat1_t] at hn ⊢; omega
        refine wpOp_step (o := { dst := some 20, op := Op.buildSlice 27 0 #[], type := 27, pos := _, after := _, guard := none }) rfl (fun K' hK => ?_)
        go_simp
        refine hK _ _ ⟨hSof _ (he.alloc _), ?_⟩
        exact ⟨b1, b2, b3, true, a1, a2, a3, false, c, bh, yb1, yb2, yb3, (.slice (some ⟨W.heap.size, 0, none⟩) 0 0), ya1, ya2, ya3, ya4, yc, yh, u1, u2, u3, (.slice (some ⟨W.heap.size, 0, none⟩) 0 0), u5, by kernel_rfl, rfl, hcn, k2, k3, k4, k5, kh, hh, r1.keep ((Ext.refl W).alloc _), r2.keep ((Ext.refl W).alloc _), r3.keep ((Ext.refl W).alloc _), r4.made hbase ya4, qc0, qc1, own_keep o5 ((Ext.refl W).alloc _), apart5 d1 d2 (apart_new r1.own) d4 f1 (apart_new r2.own) f3 (apart_new r3.own) p2 (Apart.symm (apart_new o5)), he.alloc _⟩
      · -- 18
        exact (kill hu (by kernel_rfl)).elim
      · -- 19
        exact (kill hu (by kernel_rfl)).elim
      · -- 20
        cases b4
        · exact (kill h2 (by kernel_rfl)).elim
        cases a3
        · exact (kill h2 (by kernel_rfl)).elim
        cases a4
        rotate_left 1
        · exact (kill hu (by kernel_rfl)).elim
        have hcn : n = nat1 b1 + nat1 b2 + nat1 b3 + nat1 true + nat1 a1 + nat1 a2 + nat1 true + nat1 true + nat1 c + nat1 bh := by simp only [nat1_f, nat1_t] at hn ⊢; omega
        have hmid := r4.mid rfl rfl
        subst hmid
        have hown := r4.own
        simp only [Bool.false_eq_true, if_false] at hown
        refine wpOp_step (o := { dst := some 23, op := Op.call { callee := Callee.builtin Builtin.append, args := #[Operand.tmp 20, Operand.tmp 22], argTypes := #[27, 27] }, type := 27, pos := _, after := _, guard := none }) rfl (fun K' hK => ?_)
        refine step_appAt ei_IntN rfl _ _ rfl wz.heap.size W _ 0 [] (by rfl) hown A3 n3 c3 (m.gs.flatMap ienc) (by rfl) ((HX.out.keep he).rg) HF.out.zg (one_iencM _) (by omega) hbase ?_
        intro v' w1 ho' hg hv
        rw [Nat.zero_add, List.nil_append] at ho'
        have he1 : Ext wz w1 := he.grown hg (fun q hq => (hown.lt q hq).1)
        refine hK _ _ ⟨hSof _ he1, ?_⟩
        exact ⟨b1, b2, b3, true, a1, a2, true, true, c, bh, yb1, yb2, yb3, _, ya1, ya2, ya3, v', yc, yh, u1, u2, u3, v', u5, by kernel_rfl, rfl, hcn, k2, k3, (fun _ => rfl), (fun _ => rfl), kh, hh, r1.other d3 hg, r2.other f2 hg, r3.other p1 hg, ⟨(fun h => Bool.noConfusion h), fun _ h => Bool.noConfusion h, fun _ => rfl, by simpa using ho', fun _ => rfl⟩, qc0, qc1, own_apart o5 (Apart.symm g1) hg, apart5 d1 d2 (apart_grown d3 r1.own hv) d4 f1 (apart_grown f2 r2.own hv) f3 (apart_grown p1 r3.own hv) p2 (Apart.symm (apart_grown (Apart.symm g1) o5 hv)), he1⟩
      · -- 21
        exact (kill hu (by kernel_rfl)).elim
      · -- 22
        exact (kill hu (by kernel_rfl)).elim
      · -- 23
        exact (kill hu (by kernel_rfl)).elim
      · -- 24
        exact (kill hu (by kernel_rfl)).elim
      · -- 25
        cases a4
        · exact (kill h2 (by kernel_rfl)).elim
        cases c
        rotate_left 1
        · exact (kill hu (by kernel_rfl)).elim
        have hu5 := qc0 rfl
        subst hu5
        have hcn : n = nat1 b1 + nat1 b2 + nat1 b3 + nat1 b4 + nat1 a1 + nat1 a2 + nat1 a3 + nat1 true + nat1 true + nat1 bh := by simp only [nat1_f, nat1_t] at hn ⊢; omega
        refine wpOp_step (o := { dst := some 28, op := Op.call { callee := Callee.value (Operand.func 129), args := #[Operand.tmp 27], argTypes := #[28] }, type := 28, pos := _, after := _, guard := none }) rfl (fun K' hK => ?_)
        go_simp
        go_at_call 129
        refine (cR.out _ he).mono ?_
        rintro e w1 ⟨g5, k5', rfl, h5, ho5⟩
        have he1 : Ext wz w1 := he.trans h5
        have hn5 : ∀ {uj : Value} {e : TypeId} {mm nn : Nat} {L : List Value}, W.ownsRow wz.heap.size e mm uj nn L → Apart uj (.slice (some ⟨g5, 0, none⟩) n4 k5') := fun h => Apart.of_at (At.of_own h) (At.of_own ho5) (.inl (Nat.le_refl _))
        refine hK _ _ ⟨hSof _ he1, ?_⟩
        exact ⟨b1, b2, b3, b4, a1, a2, a3, true, true, bh, yb1, yb2, yb3, yb4, ya1, ya2, ya3, ya4, (.slice (some ⟨g5, 0, none⟩) n4 k5'), yh, u1, u2, u3, u4, (.slice (some ⟨g5, 0, none⟩) n4 k5'), by kernel_rfl, rfl, hcn, k2, k3, k4, (fun _ => rfl), kh, hh, r1.keep h5, r2.keep h5, r3.keep h5, r4.keep h5, (fun h => Bool.noConfusion h), fun _ => rfl, own_weak ho5 hbase, apart5 d1 d2 d3 (hn5 r1.own) f1 f2 (hn5 r2.own) p1 (hn5 r3.own) (hn5 r4.own), he1⟩
      · -- 26
        cases bh
        · exact (kill h2 (by kernel_rfl)).elim
        cases a2
        · exact (kill h2 (by kernel_rfl)).elim
        cases a3
        · exact (kill h2 (by kernel_rfl)).elim
        cases a4
        · exact (kill h2 (by kernel_rfl)).elim
        cases c
        · exact (kill h2 (by kernel_rfl)).elim
        have q1 := kh rfl
        subst q1
        have z1 := r1.ab rfl
        subst z1
        have z2 := r2.ab rfl
        subst z2
        have z3 := r3.ab rfl
        subst z3
        have z4 := r4.ab rfl
        subst z4
        simp only [nat1_t] at hn
        omega
      · -- 27
        exact (kill h2 (by kernel_rfl)).elim
  · have hrow : ∀ (e : TypeId) (mm n : Nat) (xs : List Value), RS wz.drew wz.heap.size e mm n xs false false undef undef (.slice none 0 0) := fun e mm n xs => ⟨fun _ => rfl, fun h => Bool.noConfusion h, fun h => Bool.noConfusion h, World.ownsRow_nil _ _ _ _, fun h => Bool.noConfusion h⟩
    refine ⟨false, false, false, false, false, false, false, false, false, false, undef, undef, undef, undef, undef, undef, undef, undef, undef, undef, .slice none 0 0, .slice none 0 0, .slice none 0 0, .slice none 0 0, .slice none 0 0, ?_⟩
    refine ⟨rfl, rfl, rfl, (fun h => Bool.noConfusion h), (fun h => Bool.noConfusion h), (fun h => Bool.noConfusion h), (fun h => Bool.noConfusion h), (fun h => Bool.noConfusion h), (fun h => Bool.noConfusion h), hrow _ _ _ _, hrow _ _ _ _, hrow _ _ _ _, hrow _ _ _ _, fun _ => rfl, (fun h => Bool.noConfusion h), World.ownsRow_nil _ _ _ _, ?_, (Ext.refl _).drew⟩
    exact apart5 (apart_nil _) (apart_nil _) (apart_nil _) (apart_nil _) (apart_nil _) (apart_nil _) (apart_nil _) (apart_nil _) (apart_nil _) (apart_nil _)
end Go.Proofs.YtkelmeemblmggaaGreatDoor
