/- Texts of one proof, laid one behind the other (SN3, SN4, SN5, SN6, SN7); no condition but what stands at each theorem. -/
import Derived.Test.YtfmifllcbbfpoaaGreatDoorZD
/- Contract of the program's copy of a museum; no condition but what stands at each theorem. -/
namespace Go.Proofs.YtfmifllcbbfpoaaGreatDoor
set_option linter.unusedSimpArgs false
set_option linter.unusedVariables false
open Go.RowKit Go.Sort
/-- One row of the copy: not begun, an empty row of its own, or filled. -/
structure RS (W : World) (base : Nat) (e : TypeId) (m n : Nat) (xs : List Value) (b a : Bool) (yb ya u : Value) : Prop where
  nob : b = false → u = .slice none 0 0
  mid : b = true → a = false → yb = u
  fin : a = true → ya = u
  own : W.ownsRow base e m u (if a then n else 0) (if a then xs else [])
  ab : a = true → b = true
theorem RS.keep {W W' : World} {base : Nat} {e : TypeId} {m n : Nat} {xs : List Value} {b a : Bool} {yb ya u : Value} (h : RS W base e m n xs b a yb ya u) (k : Ext W W') : RS W' base e m n xs b a yb ya u :=
  ⟨h.nob, h.mid, h.fin, own_keep h.own k, h.ab⟩
theorem RS.other {W W' : World} {base : Nat} {e : TypeId} {m n : Nat} {xs : List Value} {b a : Bool} {yb ya u v : Value} (h : RS W base e m n xs b a yb ya u) (k : Apart u v) (g : W.grownBy W' v.ownBlock) : RS W' base e m n xs b a yb ya u :=
  ⟨h.nob, h.mid, h.fin, own_apart h.own k g, h.ab⟩
theorem RS.made {W : World} {base : Nat} {e : TypeId} {m n : Nat} {xs : List Value} {yb ya u : Value} (_h : RS W base e m n xs false false yb ya u) (hb : base ≤ W.heap.size) (y : Value) : RS (W.alloc (.cells #[] e)) base e m n xs true false (.slice (some ⟨W.heap.size, 0, none⟩) 0 0) y (.slice (some ⟨W.heap.size, 0, none⟩) 0 0) :=
  ⟨fun h => (by cases h), fun _ _ => rfl, fun h => (by cases h), own_empty W base e m hb, fun h => (by cases h)⟩
theorem apart_nil (v : Value) : Apart (.slice none 0 0) v := fun g h => by simp [Value.ownBlock] at h
theorem apart_new {W : World} {base : Nat} {e : TypeId} {m n : Nat} {v : Value} {L : List Value} (h : W.ownsRow base e m v n L) : Apart v (.slice (some ⟨W.heap.size, 0, none⟩) 0 0) := fun g hg hg' => by
  have := (h.lt g hg).2
  simp [Value.ownBlock] at hg'
  omega
theorem apart_grown {W : World} {base : Nat} {e : TypeId} {m n : Nat} {u v v' : Value} {L : List Value} (h : Apart u v) (hu : W.ownsRow base e m u n L) (hv : ∀ g, v'.ownBlock = some g → v.ownBlock = some g ∨ W.heap.size ≤ g) : Apart u v' := fun g hg hg' => by
  rcases hv g hg' with h1 | h1
  · exact h g hg h1
  · have := (hu.lt g hg).2
    omega
def nat1 (b : Bool) : Nat := if b then 0 else 1
theorem nat1_f : nat1 false = 1 := rfl
theorem nat1_t : nat1 true = 0 := rfl
theorem kill {x : Bool} (h : x = true) (k : x = false) : False := by rw [h] at k; cases k
theorem ready_at {md : Region.Mode} {ops : Array Oper} {listed : Array Bool} {i : Nat} (h : i ∈ Region.ready md ops listed) :
    i < ops.size ∧ (!listed.getD i true) = true ∧ ((ops[i]?).map (·.after.all fun e => !Region.binds md e || listed.getD e.on false)).getD false = true := by
  unfold Region.ready at h
  obtain ⟨h1, h2⟩ := List.mem_filter.1 h
  rw [Bool.and_eq_true] at h2
  exact ⟨List.mem_range.1 h1, h2.1, h2.2⟩
theorem ready_ne {md : Region.Mode} {ops : Array Oper} {listed : Array Bool} (i : Nat) (h0 : i < ops.size) (h : (!listed.getD i true && ((ops[i]?).map (·.after.all fun e => !Region.binds md e || listed.getD e.on false)).getD false) = true) : Region.ready md ops listed ≠ [] := by
  intro he
  have : i ∈ Region.ready md ops listed := List.mem_filter.2 ⟨List.mem_range.2 h0, h⟩
  rw [he] at this
  cases this
set_option maxRecDepth 100000 in
set_option maxHeartbeats 8000000 in
theorem impl_copyMuseum (v : MV) (m : GMuseum) (w : World) (hx : MRd w v m) (hf : MFit v) : Calls Tryz.prog 42 #[v.val] w (CopyPost m w) := by
  obtain ⟨wb, hwb⟩ : ∃ wb, wb = w.alloc (.cells v.cells 30) := ⟨_, rfl⟩
  have hbx := MBox.new hwb
  have hE : Ext w wb := by rw [hwb]; exact (Ext.refl w).alloc _
  obtain ⟨wz, hwz⟩ : ∃ wz, wz = wb.alloc (.cells #[.int .i64 0, .slice none 0 0, .slice none 0 0, .slice none 0 0, .slice none 0 0, .int .i64 0, .slice none 0 0] 30) := ⟨_, rfl⟩
  have hEz : Ext wb wz := by rw [hwz]; exact (Ext.refl wb).alloc _
  have hsb : wb.heap.size = w.heap.size + 1 := by rw [hwb]; simp
  have hsz : wz.heap.size = w.heap.size + 1 + 1 := by rw [hwz]; simp [hsb]
  have HBz : Hid (Blk wz (w.heap.size + 1) 30 #[.int .i64 0, .slice none 0 0, .slice none 0 0, .slice none 0 0, .slice none 0 0, .int .i64 0, .slice none 0 0]) := Lib.hid (by rw [hwz, ← hsb]; exact Blk.new _ _ _)
  have HX := Lib.hid (hx.keep (hE.trans hEz))
  have HB := Lib.hid (hbx.keep hEz)
  have HE := Lib.hid (hE.trans hEz)
  have HF := Lib.hid hf
  have HeH := Lib.hid hx.eH
  have Hed := Lib.hid hx.ed
  obtain ⟨Hh, ⟨A0, n0, c0⟩, ⟨A1, n1, c1⟩, ⟨A2, n2, c2⟩, ⟨A3, n3, c3⟩, day, ⟨A4, n4, c4⟩⟩ := v
  have Hwz : Hid (wz = (w.alloc (.cells #[.int .i64 Hh, .slice A0 n0 c0, .slice A1 n1 c1, .slice A2 n2 c2, .slice A3 n3 c3, .int .i64 day, .slice A4 n4 c4] 30)).alloc (.cells #[.int .i64 0, .slice none 0 0, .slice none 0 0, .slice none 0 0, .slice none 0 0, .int .i64 0, .slice none 0 0] 30)) := Lib.hid (by rw [hwz, hwb]; rfl)
  have nd : n0 ≤ 1048576 := hf.nd
  have nf : n1 ≤ 1048576 := hf.nf
  have np : n2 ≤ 1048576 := hf.np
  have ng : n3 ≤ 1048576 := hf.ng
  have nr : n4 ≤ 1048576 := hf.nr
  have hzl : w.heap.size + 1 < wz.heap.size := by omega
  clear hwb hwz hbx hE hEz hx hf hsb hsz
  show Calls Tryz.prog 42 #[.agg #[.int .i64 Hh, .slice A0 n0 c0, .slice A1 n1 c1, .slice A2 n2 c2, .slice A3 n3 c3, .int .i64 day, .slice A4 n4 c4]] w _
  obtain ⟨b0, b1, b2, b3, b4, b5, b6⟩ := HB.out.cell
  simp only at b0 b1 b2 b3 b4 b5 b6
  go_enter Tryz.func42, Tryz.ntmps42
  go_wp2_with fail
  rw [← Hwz.out]
  have cR := Lib.hid (fun W (he : Ext wz W) => impl_copyRecord A4 n4 c4 m.rs W (HX.out.rr.keep he) (Lib.hid HF.out.zr) nr)
  refine wp_region_held_drew (S := fun w' => w'.cell? ⟨w.heap.size, 0, none⟩ = some (.int .i64 Hh) ∧ w'.cell? ⟨w.heap.size, 1, none⟩ = some (.slice A0 n0 c0) ∧ w'.cell? ⟨w.heap.size, 2, none⟩ = some (.slice A1 n1 c1) ∧ w'.cell? ⟨w.heap.size, 3, none⟩ = some (.slice A2 n2 c2) ∧ w'.cell? ⟨w.heap.size, 4, none⟩ = some (.slice A3 n3 c3) ∧ w'.cell? ⟨w.heap.size, 5, none⟩ = some (.int .i64 day) ∧ w'.cell? ⟨w.heap.size, 6, none⟩ = some (.slice A4 n4 c4)) (by kernel_rfl) ⟨b0, b1, b2, b3, b4, b5, b6⟩ (fun hHeld => ?_)
  refine wpAnyH_takeD (i := 0) (oi := _) (v := ?_) 3 rfl rfl (by kernel_rfl) (by kernel_rfl) (by kernel_rfl) (fun _ _ _ h => h) (Or.inl ⟨by rfl, ?_⟩) (by assumption) ?_
  rotate_left 1
  · (intro w' hSw; (try dsimp only at hSw); go_simp; try with_reducible rfl)
  (try simp only [Act.put, List.setIfInBounds_toArray, List.set_cons_zero, List.set_cons_succ])
  refine wpAnyH_takeD (i := 1) (oi := _) (v := ?_) 4 rfl rfl (by kernel_rfl) (by kernel_rfl) (by kernel_rfl) (fun _ _ _ h => h) (Or.inl ⟨by rfl, ?_⟩) (by assumption) ?_
  rotate_left 1
  · (intro w' hSw; (try dsimp only at hSw); go_simp; try with_reducible rfl)
  (try simp only [Act.put, List.setIfInBounds_toArray, List.set_cons_zero, List.set_cons_succ])
  refine wpAnyH_takeD (i := 2) (oi := _) (v := ?_) 5 rfl rfl (by kernel_rfl) (by kernel_rfl) (by kernel_rfl) (fun _ _ _ h => h) (Or.inl ⟨by rfl, ?_⟩) (by assumption) ?_
  rotate_left 1
  · (intro w' hSw; (try dsimp only at hSw); go_simp; try with_reducible rfl)
  (try simp only [Act.put, List.setIfInBounds_toArray, List.set_cons_zero, List.set_cons_succ])
  refine wpAnyH_takeD (i := 4) (oi := _) (v := ?_) 7 rfl rfl (by kernel_rfl) (by kernel_rfl) (by kernel_rfl) (fun _ _ _ h => h) (Or.inl ⟨by rfl, ?_⟩) (by assumption) ?_
  rotate_left 1
  · (intro w' hSw; (try dsimp only at hSw); go_simp; try with_reducible rfl)
  (try simp only [Act.put, List.setIfInBounds_toArray, List.set_cons_zero, List.set_cons_succ])
  refine wpAnyH_takeD (i := 5) (oi := _) (v := ?_) 8 rfl rfl (by kernel_rfl) (by kernel_rfl) (by kernel_rfl) (fun _ _ _ h => h) (Or.inl ⟨by rfl, ?_⟩) (by assumption) ?_
  rotate_left 1
  · (intro w' hSw; (try dsimp only at hSw); go_simp; try with_reducible rfl)
  (try simp only [Act.put, List.setIfInBounds_toArray, List.set_cons_zero, List.set_cons_succ])
  refine wpAnyH_takeD (i := 6) (oi := _) (v := ?_) 9 rfl rfl (by kernel_rfl) (by kernel_rfl) (by kernel_rfl) (fun _ _ _ h => h) (Or.inl ⟨by rfl, ?_⟩) (by assumption) ?_
  rotate_left 1
  · (intro w' hSw; (try dsimp only at hSw); go_simp; try with_reducible rfl)
  (try simp only [Act.put, List.setIfInBounds_toArray, List.set_cons_zero, List.set_cons_succ])
  refine wpAnyH_takeD (i := 10) (oi := _) (v := ?_) 13 rfl rfl (by kernel_rfl) (by kernel_rfl) (by kernel_rfl) (fun _ _ _ h => h) (Or.inl ⟨by rfl, ?_⟩) (by assumption) ?_
  rotate_left 1
  · (intro w' hSw; (try dsimp only at hSw); go_simp; try with_reducible rfl)
  (try simp only [Act.put, List.setIfInBounds_toArray, List.set_cons_zero, List.set_cons_succ])
  refine wpAnyH_takeD (i := 11) (oi := _) (v := ?_) 14 rfl rfl (by kernel_rfl) (by kernel_rfl) (by kernel_rfl) (fun _ _ _ h => h) (Or.inl ⟨by rfl, ?_⟩) (by assumption) ?_
  rotate_left 1
  · (intro w' hSw; (try dsimp only at hSw); go_simp; try with_reducible rfl)
  (try simp only [Act.put, List.setIfInBounds_toArray, List.set_cons_zero, List.set_cons_succ])
  refine wpAnyH_takeD (i := 14) (oi := _) (v := ?_) 17 rfl rfl (by kernel_rfl) (by kernel_rfl) (by kernel_rfl) (fun _ _ _ h => h) (Or.inl ⟨by rfl, ?_⟩) (by assumption) ?_
  rotate_left 1
  · (intro w' hSw; (try dsimp only at hSw); go_simp; try with_reducible rfl)
  (try simp only [Act.put, List.setIfInBounds_toArray, List.set_cons_zero, List.set_cons_succ])
  refine wpAnyH_takeD (i := 15) (oi := _) (v := ?_) 18 rfl rfl (by kernel_rfl) (by kernel_rfl) (by kernel_rfl) (fun _ _ _ h => h) (Or.inl ⟨by rfl, ?_⟩) (by assumption) ?_
  rotate_left 1
  · (intro w' hSw; (try dsimp only at hSw); go_simp; try with_reducible rfl)
  (try simp only [Act.put, List.setIfInBounds_toArray, List.set_cons_zero, List.set_cons_succ])
  refine wpAnyH_takeD (i := 18) (oi := _) (v := ?_) 21 rfl rfl (by kernel_rfl) (by kernel_rfl) (by kernel_rfl) (fun _ _ _ h => h) (Or.inl ⟨by rfl, ?_⟩) (by assumption) ?_
  rotate_left 1
  · (intro w' hSw; (try dsimp only at hSw); go_simp; try with_reducible rfl)
  (try simp only [Act.put, List.setIfInBounds_toArray, List.set_cons_zero, List.set_cons_succ])
  refine wpAnyH_takeD (i := 19) (oi := _) (v := ?_) 22 rfl rfl (by kernel_rfl) (by kernel_rfl) (by kernel_rfl) (fun _ _ _ h => h) (Or.inl ⟨by rfl, ?_⟩) (by assumption) ?_
  rotate_left 1
  · (intro w' hSw; (try dsimp only at hSw); go_simp; try with_reducible rfl)
  (try simp only [Act.put, List.setIfInBounds_toArray, List.set_cons_zero, List.set_cons_succ])
  refine wpAnyH_takeD (i := 21) (oi := _) (v := ?_) 24 rfl rfl (by kernel_rfl) (by kernel_rfl) (by kernel_rfl) (fun _ _ _ h => h) (Or.inl ⟨by rfl, ?_⟩) (by assumption) ?_
  rotate_left 1
  · (intro w' hSw; (try dsimp only at hSw); go_simp; try with_reducible rfl)
  (try simp only [Act.put, List.setIfInBounds_toArray, List.set_cons_zero, List.set_cons_succ])
  refine wpAnyH_takeD (i := 22) (oi := _) (v := ?_) 25 rfl rfl (by kernel_rfl) (by kernel_rfl) (by kernel_rfl) (fun _ _ _ h => h) (Or.inl ⟨by rfl, ?_⟩) (by assumption) ?_
  rotate_left 1
  · (intro w' hSw; (try dsimp only at hSw); go_simp; try with_reducible rfl)
  (try simp only [Act.put, List.setIfInBounds_toArray, List.set_cons_zero, List.set_cons_succ])
  refine wpAnyH_takeD (i := 23) (oi := _) (v := ?_) 26 rfl rfl (by kernel_rfl) (by kernel_rfl) (by kernel_rfl) (fun _ _ _ h => h) (Or.inl ⟨by rfl, ?_⟩) (by assumption) ?_
  rotate_left 1
  · (intro w' hSw; (try dsimp only at hSw); go_simp; try with_reducible rfl)
  (try simp only [Act.put, List.setIfInBounds_toArray, List.set_cons_zero, List.set_cons_succ])
  refine wpAnyH_takeD (i := 24) (oi := _) (v := ?_) 27 rfl rfl (by kernel_rfl) (by kernel_rfl) (by kernel_rfl) (fun _ _ _ h => h) (Or.inl ⟨by rfl, ?_⟩) (by assumption) ?_
  rotate_left 1
  · (intro w' hSw; (try dsimp only at hSw); go_simp; try with_reducible rfl)
  (try simp only [Act.put, List.setIfInBounds_toArray, List.set_cons_zero, List.set_cons_succ])
  have hSof : ∀ W, Ext wz W → (W.cell? ⟨w.heap.size, 0, none⟩ = some (.int .i64 Hh) ∧ W.cell? ⟨w.heap.size, 1, none⟩ = some (.slice A0 n0 c0) ∧ W.cell? ⟨w.heap.size, 2, none⟩ = some (.slice A1 n1 c1) ∧ W.cell? ⟨w.heap.size, 3, none⟩ = some (.slice A2 n2 c2) ∧ W.cell? ⟨w.heap.size, 4, none⟩ = some (.slice A3 n3 c3) ∧ W.cell? ⟨w.heap.size, 5, none⟩ = some (.int .i64 day) ∧ W.cell? ⟨w.heap.size, 6, none⟩ = some (.slice A4 n4 c4)) := fun W he => (HB.out.keep he).cell
  clear b0 b1 b2 b3 b4 b5 b6 hHeld
  refine wpAnyH_start 2 10 (#[true, true, true, false, true, true, true, false, false, false, true, true, false, false, true, true, false, false, true, true, false, true, true, true, true, false, false, false]) (by kernel_rfl) (by kernel_rfl) ?_
  refine wpAnyH_inv 2 (fun n listed a W => ∃ (b1 b2 b3 b4 a1 a2 a3 a4 c bh : Bool) (yb1 yb2 yb3 yb4 ya1 ya2 ya3 ya4 yc yh u1 u2 u3 u4 u5 : Value), listed = #[true, true, true, b1, true, true, true, a1, bh, b2, true, true, a2, b3, true, true, a3, b4, true, true, a4, true, true, true, true, c, false, false] ∧ a = ⟨#[.agg #[.int .i64 Hh, .slice A0 n0 c0, .slice A1 n1 c1, .slice A2 n2 c2, .slice A3 n3 c3, .int .i64 day, .slice A4 n4 c4], .pointer (some ⟨w.heap.size, 0, none⟩), .pointer (some ⟨w.heap.size + 1, 0, none⟩), .pointer (some ⟨w.heap.size, 0, none⟩), .pointer (some ⟨w.heap.size, 0, none⟩), .int .i64 Hh, yb1, .pointer (some ⟨w.heap.size, 0, none⟩), .pointer (some ⟨w.heap.size, 1, none⟩), .slice A0 n0 c0, ya1, yh, yb2, .pointer (some ⟨w.heap.size, 2, none⟩), .slice A1 n1 c1, ya2, yb3, .pointer (some ⟨w.heap.size, 3, none⟩), .slice A2 n2 c2, ya3, yb4, .pointer (some ⟨w.heap.size, 4, none⟩), .slice A3 n3 c3, ya4, .pointer (some ⟨w.heap.size, 5, none⟩), .int .i64 day, .pointer (some ⟨w.heap.size, 6, none⟩), .slice A4 n4 c4, yc, undef], []⟩ ∧ n = nat1 b1 + nat1 b2 + nat1 b3 + nat1 b4 + nat1 a1 + nat1 a2 + nat1 a3 + nat1 a4 + nat1 c + nat1 bh ∧ (a2 = true → a1 = true) ∧ (a3 = true → a2 = true) ∧ (a4 = true → a3 = true) ∧ (c = true → a4 = true) ∧ (bh = true → a1 = true) ∧ (bh = true → yh = .agg #[.int .i64 Hh, u1]) ∧ RS W wz.heap.size 92 2 n0 (m.ds.flatMap GDoor.enc) b1 a1 yb1 ya1 u1 ∧ RS W wz.heap.size 3 1 n1 (m.fs.flatMap ienc) b2 a2 yb2 ya2 u2 ∧ RS W wz.heap.size 3 1 n2 (m.ps.flatMap ienc) b3 a3 yb3 ya3 u3 ∧ RS W wz.heap.size 3 1 n3 (m.gs.flatMap ienc) b4 a4 yb4 ya4 u4 ∧ (c = false → u5 = .slice none 0 0) ∧ (c = true → yc = u5) ∧ W.ownsRow wz.heap.size 43 3 u5 (if c then n4 else 0) (if c then m.rs.flatMap GEntry.enc else []) ∧ List.Pairwise Apart [u1, u2, u3, u4, u5] ∧ Ext wz W) ?_ ?_ 10 _ _ _ ?_
  · rintro listed a W ⟨b1, b2, b3, b4, a1, a2, a3, a4, c, bh, yb1, yb2, yb3, yb4, ya1, ya2, ya3, ya4, yc, yh, u1, u2, u3, u4, u5, rfl, rfl, hn, k2, k3, k4, k5, kh, hh, r1, r2, r3, r4, qc0, qc1, o5, hap, he⟩
    cases b1
    · simp only [nat1_f] at hn; omega
    cases b2
    · simp only [nat1_f] at hn; omega
    cases b3
    · simp only [nat1_f] at hn; omega
    cases b4
    · simp only [nat1_f] at hn; omega
    cases a1
    · simp only [nat1_f] at hn; omega
    cases a2
    · simp only [nat1_f] at hn; omega
    cases a3
    · simp only [nat1_f] at hn; omega
    cases a4
    · simp only [nat1_f] at hn; omega
    cases c
    · simp only [nat1_f] at hn; omega
    cases bh
    · simp only [nat1_f] at hn; omega
    have g1 := r1.fin rfl
    have g2 := r2.fin rfl
    have g3 := r3.fin rfl
    have g4 := r4.fin rfl
    have g5 := qc1 rfl
    have gh := hh rfl
    subst g1
    subst g2
    subst g3
    subst g4
    subst g5
    subst gh
    have v1 := r1.own
    simp only [if_true] at v1
    obtain ⟨A1', k1', hw1, _⟩ := own_form v1
    subst hw1
    have v2 := r2.own
    simp only [if_true] at v2
    obtain ⟨A2', k2', hw2, _⟩ := own_form v2
    subst hw2
    have v3 := r3.own
    simp only [if_true] at v3
    obtain ⟨A3', k3', hw3, _⟩ := own_form v3
    subst hw3
    have v4 := r4.own
    simp only [if_true] at v4
    obtain ⟨A4', k4', hw4, _⟩ := own_form v4
    subst hw4
    have v5 := o5
    simp only [if_true] at v5
    obtain ⟨A5', k5', hw5, _⟩ := own_form v5
    subst hw5
    have hO : MOwn W wz.heap.size ⟨Hh, ⟨A1', n0, k1'⟩, ⟨A2', n1, k2'⟩, ⟨A3', n2, k3'⟩, ⟨A4', n3, k4'⟩, day, ⟨A5', n4, k5'⟩⟩ m := ⟨HeH.out, Hed.out, v1, v2, v3, v4, v5, hap⟩
    clear r1 r2 r3 r4 qc0 qc1 o5 hap k2 k3 k4 k5 kh hh hn v1 v2 v3 v4 v5
    have Bz := Blk.keep HBz.out he
    have x0 := Bz.cellAt (i := 0) (by simp)
    have x1 := Bz.cellAt (i := 1) (by simp)
    have x2 := Bz.cellAt (i := 2) (by simp)
    have x3 := Bz.cellAt (i := 3) (by simp)
    have x4 := Bz.cellAt (i := 4) (by simp)
    have x5 := Bz.cellAt (i := 5) (by simp)
    have x6 := Bz.cellAt (i := 6) (by simp)
    have fz := Bz.free
    simp at x0 x1 x2 x3 x4 x5 x6
    have hSW := hSof W he
    refine wpAnyH_takeD (i := 26) (oi := _) (v := ?_) 29 rfl rfl (by kernel_rfl) (by kernel_rfl) (by kernel_rfl) (fun _ _ _ h => h) (Or.inl ⟨by rfl, ?_⟩) hSW ?_
    rotate_left 1
    · (intro w' hSw; (try dsimp only at hSw); go_simp; try with_reducible rfl)
    (try simp only [Act.put, List.setIfInBounds_toArray, List.set_cons_zero, List.set_cons_succ])
    refine ⟨fun h => absurd h (by rw [show Region.ready _ _ _ = [27] from by kernel_rfl]; simp), fun i hi => ?_⟩
    rw [show Region.ready _ _ _ = [27] from by kernel_rfl, List.mem_singleton] at hi
    subst hi
    refine wpOp_step (o := { dst := none, op := Op.store 30 (Operand.tmp 2) (Operand.tmp 29), type := _, pos := _, after := _, guard := none }) rfl (fun K' hK => ?_)
    go_simp
    obtain ⟨b6', k6⟩ := store7 Bz (.int .i64 Hh) (.slice A1' n0 k1') (.slice A2' n1 k2') (.slice A3' n2 k3') (.slice A4' n3 k4') (.int .i64 day) (.slice A5' n4 k5')
    have hE5 := HE.out.trans he
    have hO6 := hO.out k6 (by omega)
    have hE6 := k6.ext hE5 (by omega)
    have hS6 := ((HB.out.keep he).out k6 (.inl (Nat.lt_succ_self _))).cell
    generalize (((((((W.setCell ⟨w.heap.size + 1, 0, none⟩ (.int .i64 Hh)).setCell ⟨w.heap.size + 1, 1, none⟩ (.slice A1' n0 k1')).setCell ⟨w.heap.size + 1, 2, none⟩ (.slice A2' n1 k2')).setCell ⟨w.heap.size + 1, 3, none⟩ (.slice A3' n2 k3')).setCell ⟨w.heap.size + 1, 4, none⟩ (.slice A4' n3 k4')).setCell ⟨w.heap.size + 1, 5, none⟩ (.int .i64 day)).setCell ⟨w.heap.size + 1, 6, none⟩ (.slice A5' n4 k5')) = w6 at b6' k6 hO6 hE6 hS6 ⊢
    have HO6 := Lib.hid (hO6.weak (show w.heap.size ≤ wz.heap.size by omega))
    have HE6 := Lib.hid hE6
    have t0 := b6'.cellAt (i := 0) (by simp)
    have t1 := b6'.cellAt (i := 1) (by simp)
    have t2 := b6'.cellAt (i := 2) (by simp)
    have t3 := b6'.cellAt (i := 3) (by simp)
    have t4 := b6'.cellAt (i := 4) (by simp)
    have t5 := b6'.cellAt (i := 5) (by simp)
    have t6 := b6'.cellAt (i := 6) (by simp)
    simp at t0 t1 t2 t3 t4 t5 t6
    refine hK _ _ ⟨hS6, by kernel_rfl, ?_⟩
    clear hK K' b6' k6 hO6 hE6 hO hE5 Bz x0 x1 x2 x3 x4 x5 x6 fz hS6 hSof hSW he
    go_wp2_with fail
    refine bodyPost_ret (v := MV.val ⟨Hh, ⟨A1', n0, k1'⟩, ⟨A2', n1, k2'⟩, ⟨A3', n2, k3'⟩, ⟨A4', n3, k4'⟩, day, ⟨A5', n4, k5'⟩⟩) (by simp [results, Tryz.results42, go_sem, t0, t1, t2, t3, t4, t5, t6, MV.val, MV.cells]) rfl ?_
    exact ⟨_, rfl, HE6.out, HO6.out⟩
  · rintro n listed a W ⟨b1, b2, b3, b4, a1, a2, a3, a4, c, bh, yb1, yb2, yb3, yb4, ya1, ya2, ya3, ya4, yc, yh, u1, u2, u3, u4, u5, rfl, rfl, hn, k2, k3, k4, k5, kh, hh, r1, r2, r3, r4, qc0, qc1, o5, hap, he⟩
    refine ⟨?_, ?_⟩
    · clear k2 k3 k4 k5 kh hh r1 r2 r3 r4 qc0 qc1 o5 hap
      cases b1
      · exact ready_ne 3 (by show 3 < 28; omega) (by kernel_rfl)
      cases b2
      · exact ready_ne 9 (by show 9 < 28; omega) (by kernel_rfl)
      cases b3
      · exact ready_ne 13 (by show 13 < 28; omega) (by kernel_rfl)
      cases b4
      · exact ready_ne 17 (by show 17 < 28; omega) (by kernel_rfl)
      cases a1
      · exact ready_ne 7 (by show 7 < 28; omega) (by kernel_rfl)
      cases a2
      · exact ready_ne 12 (by show 12 < 28; omega) (by kernel_rfl)
      cases a3
      · exact ready_ne 16 (by show 16 < 28; omega) (by kernel_rfl)
      cases a4
      · exact ready_ne 20 (by show 20 < 28; omega) (by kernel_rfl)
      cases c
      · exact ready_ne 25 (by show 25 < 28; omega) (by kernel_rfl)
      cases bh
      · exact ready_ne 8 (by show 8 < 28; omega) (by kernel_rfl)
      simp only [nat1_t] at hn
      omega
    · intro i hi
      obtain ⟨hlt, hu, h2⟩ := ready_at hi
      replace hlt : i < 28 := hlt
      clear hi
      obtain ⟨d1, d2, d3, d4, f1, f2, f3, p1, p2, g1⟩ := aparts hap
      have hbase : wz.heap.size ≤ W.heap.size := he.size
      have hcase : i = 0 ∨ i = 1 ∨ i = 2 ∨ i = 3 ∨ i = 4 ∨ i = 5 ∨ i = 6 ∨ i = 7 ∨ i = 8 ∨ i = 9 ∨ i = 10 ∨ i = 11 ∨ i = 12 ∨ i = 13 ∨ i = 14 ∨ i = 15 ∨ i = 16 ∨ i = 17 ∨ i = 18 ∨ i = 19 ∨ i = 20 ∨ i = 21 ∨ i = 22 ∨ i = 23 ∨ i = 24 ∨ i = 25 ∨ i = 26 ∨ i = 27 := by omega
      rcases hcase with rfl | rfl | rfl | rfl | rfl | rfl | rfl | rfl | rfl | rfl | rfl | rfl | rfl | rfl | rfl | rfl | rfl | rfl | rfl | rfl | rfl | rfl | rfl | rfl | rfl | rfl | rfl | rfl
      · -- 0
        exact (kill hu (by kernel_rfl)).elim
      · -- 1
        exact (kill hu (by kernel_rfl)).elim
      · -- 2
        exact (kill hu (by kernel_rfl)).elim
      · -- 3
        cases b1
        rotate_left 1
        · exact (kill hu (by kernel_rfl)).elim
        cases a1
        rotate_left 1
        · exact Bool.noConfusion (r1.ab rfl)
        cases bh
        rotate_left 1
        · exact Bool.noConfusion (kh rfl)
        have hcn : n = nat1 true + nat1 b2 + nat1 b3 + nat1 b4 + nat1 false + nat1 a2 + nat1 a3 + nat1 a4 + nat1 c + nat1 false := by simp only [nat1_f, nat1_t] at hn ⊢; omega
        refine wpOp_step (o := { dst := some 6, op := Op.buildSlice 24 0 #[], type := 24, pos := _, after := _, guard := none }) rfl (fun K' hK => ?_)
        go_simp
        refine hK _ _ ⟨hSof _ (he.alloc _), ?_⟩
        exact ⟨true, b2, b3, b4, false, a2, a3, a4, c, false, (.slice (some ⟨W.heap.size, 0, none⟩) 0 0), yb2, yb3, yb4, ya1, ya2, ya3, ya4, yc, yh, (.slice (some ⟨W.heap.size, 0, none⟩) 0 0), u2, u3, u4, u5, by kernel_rfl, rfl, hcn, k2, k3, k4, k5, (fun h => Bool.noConfusion h), (fun h => Bool.noConfusion h), r1.made hbase ya1, r2.keep ((Ext.refl W).alloc _), r3.keep ((Ext.refl W).alloc _), r4.keep ((Ext.refl W).alloc _), qc0, qc1, own_keep o5 ((Ext.refl W).alloc _), apart5 (Apart.symm (apart_new r2.own)) (Apart.symm (apart_new r3.own)) (Apart.symm (apart_new r4.own)) (Apart.symm (apart_new o5)) f1 f2 f3 p1 p2 g1, he.alloc _⟩
      · -- 4
        exact (kill hu (by kernel_rfl)).elim
      · -- 5
        exact (kill hu (by kernel_rfl)).elim
      · -- 6
        exact (kill hu (by kernel_rfl)).elim
      · -- 7
        cases b1
        · exact (kill h2 (by kernel_rfl)).elim
        cases a1
        rotate_left 1
        · exact (kill hu (by kernel_rfl)).elim
        cases bh
        rotate_left 1
        · exact Bool.noConfusion (kh rfl)
        have hcn : n = nat1 true + nat1 b2 + nat1 b3 + nat1 b4 + nat1 true + nat1 a2 + nat1 a3 + nat1 a4 + nat1 c + nat1 false := by simp only [nat1_f, nat1_t] at hn ⊢; omega
        have hmid := r1.mid rfl rfl
        subst hmid
        have hown := r1.own
        simp only [Bool.false_eq_true, if_false] at hown
        refine wpOp_step (o := { dst := some 10, op := Op.call { callee := Callee.builtin Builtin.append, args := #[Operand.tmp 6, Operand.tmp 9], argTypes := #[24, 24] }, type := 24, pos := _, after := _, guard := none }) rfl (fun K' hK => ?_)
        refine step_appAt ei_DoorN rfl _ _ rfl wz.heap.size W _ 0 [] (by rfl) hown A0 n0 c0 (m.ds.flatMap GDoor.enc) (by rfl) ((HX.out.keep he).rd) HF.out.zd (one_GDoorN _) (by omega) hbase ?_
        intro v' w1 ho' hg hv
        rw [Nat.zero_add, List.nil_append] at ho'
        have he1 : Ext wz w1 := he.grown hg (fun q hq => (hown.lt q hq).1)
        refine hK _ _ ⟨hSof _ he1, ?_⟩
        exact ⟨true, b2, b3, b4, true, a2, a3, a4, c, false, _, yb2, yb3, yb4, v', ya2, ya3, ya4, yc, yh, v', u2, u3, u4, u5, by kernel_rfl, rfl, hcn, (fun _ => rfl), k3, k4, k5, (fun h => Bool.noConfusion h), (fun h => Bool.noConfusion h), ⟨(fun h => Bool.noConfusion h), fun _ h => Bool.noConfusion h, fun _ => rfl, by simpa using ho', fun _ => rfl⟩, r2.other (Apart.symm d1) hg, r3.other (Apart.symm d2) hg, r4.other (Apart.symm d3) hg, qc0, qc1, own_apart o5 (Apart.symm d4) hg, apart5 (Apart.symm (apart_grown (Apart.symm d1) r2.own hv)) (Apart.symm (apart_grown (Apart.symm d2) r3.own hv)) (Apart.symm (apart_grown (Apart.symm d3) r4.own hv)) (Apart.symm (apart_grown (Apart.symm d4) o5 hv)) f1 f2 f3 p1 p2 g1, he1⟩
      · -- 8
        cases a1
        · exact (kill h2 (by kernel_rfl)).elim
        cases bh
        rotate_left 1
        · exact (kill hu (by kernel_rfl)).elim
        have hfin := r1.fin rfl
        subst hfin
        obtain ⟨Ad, kd, hud, _⟩ := own_form r1.own
        subst hud
        have hcn : n = nat1 b1 + nat1 b2 + nat1 b3 + nat1 b4 + nat1 true + nat1 a2 + nat1 a3 + nat1 a4 + nat1 c + nat1 true := by simp only [nat1_f, nat1_t] at hn ⊢; omega
        refine wpOp_step (o := { dst := some 11, op := Op.build 26 #[(0, Operand.tmp 5), (1, Operand.tmp 10)], type := 26, pos := _, after := _, guard := none }) rfl (fun K' hK => ?_)
        go_simp
        refine hK _ _ ⟨hSof _ he, ?_⟩
        exact ⟨b1, b2, b3, b4, true, a2, a3, a4, c, true, yb1, yb2, yb3, yb4, _, ya2, ya3, ya4, yc, _, _, u2, u3, u4, u5, by kernel_rfl, rfl, hcn, k2, k3, k4, k5, fun _ => rfl, fun _ => rfl, r1, r2, r3, r4, qc0, qc1, o5, hap, he⟩
      · -- 9
        cases b2
        rotate_left 1
        · exact (kill hu (by kernel_rfl)).elim
        cases a2
        rotate_left 1
        · exact Bool.noConfusion (r2.ab rfl)
        have hcn : n = nat1 b1 + nat1 true + nat1 b3 + nat1 b4 + nat1 a1 + nat1 false + nat1 a3 + nat1 a4 + nat1 c + nat1 bh := by simp only [nat1_f, nat1_t] at hn ⊢; omega
        refine wpOp_step (o := { dst := some 12, op := Op.buildSlice 27 0 #[], type := 27, pos := _, after := _, guard := none }) rfl (fun K' hK => ?_)
        go_simp
        refine hK _ _ ⟨hSof _ (he.alloc _), ?_⟩
        exact ⟨b1, true, b3, b4, a1, false, a3, a4, c, bh, yb1, (.slice (some ⟨W.heap.size, 0, none⟩) 0 0), yb3, yb4, ya1, ya2, ya3, ya4, yc, yh, u1, (.slice (some ⟨W.heap.size, 0, none⟩) 0 0), u3, u4, u5, by kernel_rfl, rfl, hcn, k2, k3, k4, k5, kh, hh, r1.keep ((Ext.refl W).alloc _), r2.made hbase ya2, r3.keep ((Ext.refl W).alloc _), r4.keep ((Ext.refl W).alloc _), qc0, qc1, own_keep o5 ((Ext.refl W).alloc _), apart5 (apart_new r1.own) d2 d3 d4 (Apart.symm (apart_new r3.own)) (Apart.symm (apart_new r4.own)) (Apart.symm (apart_new o5)) p1 p2 g1, he.alloc _⟩
      · -- 10
        exact (kill hu (by kernel_rfl)).elim
      · -- 11
        exact (kill hu (by kernel_rfl)).elim
      · -- 12
        cases b2
        · exact (kill h2 (by kernel_rfl)).elim
        cases a1
        · exact (kill h2 (by kernel_rfl)).elim
        cases a2
        rotate_left 1
        · exact (kill hu (by kernel_rfl)).elim
        have hcn : n = nat1 b1 + nat1 true + nat1 b3 + nat1 b4 + nat1 true + nat1 true + nat1 a3 + nat1 a4 + nat1 c + nat1 bh := by simp only [nat1_f, nat1_t] at hn ⊢; omega
        have hmid := r2.mid rfl rfl
        subst hmid
        have hown := r2.own
        simp only [Bool.false_eq_true, if_false] at hown
        refine wpOp_step (o := { dst := some 15, op := Op.call { callee := Callee.builtin Builtin.append, args := #[Operand.tmp 12, Operand.tmp 14], argTypes := #[27, 27] }, type := 27, pos := _, after := _, guard := none }) rfl (fun K' hK => ?_)
        refine step_appAt ei_IntN rfl _ _ rfl wz.heap.size W _ 0 [] (by rfl) hown A1 n1 c1 (m.fs.flatMap ienc) (by rfl) ((HX.out.keep he).rf) HF.out.zf (one_iencM _) (by omega) hbase ?_
        intro v' w1 ho' hg hv
        rw [Nat.zero_add, List.nil_append] at ho'
        have he1 : Ext wz w1 := he.grown hg (fun q hq => (hown.lt q hq).1)
        refine hK _ _ ⟨hSof _ he1, ?_⟩
        exact ⟨b1, true, b3, b4, true, true, a3, a4, c, bh, yb1, _, yb3, yb4, ya1, v', ya3, ya4, yc, yh, u1, v', u3, u4, u5, by kernel_rfl, rfl, hcn, (fun _ => rfl), (fun _ => rfl), k4, k5, kh, hh, r1.other d1 hg, ⟨(fun h => Bool.noConfusion h), fun _ h => Bool.noConfusion h, fun _ => rfl, by simpa using ho', fun _ => rfl⟩, r3.other (Apart.symm f1) hg, r4.other (Apart.symm f2) hg, qc0, qc1, own_apart o5 (Apart.symm f3) hg, apart5 (apart_grown d1 r1.own hv) d2 d3 d4 (Apart.symm (apart_grown (Apart.symm f1) r3.own hv)) (Apart.symm (apart_grown (Apart.symm f2) r4.own hv)) (Apart.symm (apart_grown (Apart.symm f3) o5 hv)) p1 p2 g1, he1⟩
      · -- 13
        cases b3
        rotate_left 1
        · exact (kill hu (by kernel_rfl)).elim
        cases a3
        rotate_left 1
        · exact Bool.noConfusion (r3.ab rfl)
        have hcn : n = nat1 b1 + nat1 b2 + nat1 true + nat1 b4 + nat1 a1 + nat1 a2 + nat1 false + nat1 a4 + nat1 c + nat1 bh := by simp only [nat1_f, nat1_t] at hn ⊢; omega
        refine wpOp_step (o := { dst := some 16, op := Op.buildSlice 27 0 #[], type := 27, pos := _, after := _, guard := none }) rfl (fun K' hK => ?_)
        go_simp
        refine hK _ _ ⟨hSof _ (he.alloc _), ?_⟩
        exact ⟨b1, b2, true, b4, a1, a2, false, a4, c, bh, yb1, yb2, (.slice (some ⟨W.heap.size, 0, none⟩) 0 0), yb4, ya1, ya2, ya3, ya4, yc, yh, u1, u2, (.slice (some ⟨W.heap.size, 0, none⟩) 0 0), u4, u5, by kernel_rfl, rfl, hcn, k2, k3, k4, k5, kh, hh, r1.keep ((Ext.refl W).alloc _), r2.keep ((Ext.refl W).alloc _), r3.made hbase ya3, r4.keep ((Ext.refl W).alloc _), qc0, qc1, own_keep o5 ((Ext.refl W).alloc _), apart5 d1 (apart_new r1.own) d3 d4 (apart_new r2.own) f2 f3 (Apart.symm (apart_new r4.own)) (Apart.symm (apart_new o5)) g1, he.alloc _⟩
      · -- 14
        exact (kill hu (by kernel_rfl)).elim
      · -- 15
        exact (kill hu (by kernel_rfl)).elim
      · -- 16
        cases b3
        · exact (kill h2 (by kernel_rfl)).elim
        cases a2
        · exact (kill h2 (by kernel_rfl)).elim
        cases a3
        rotate_left 1
        · exact (kill hu (by kernel_rfl)).elim
        have hcn : n = nat1 b1 + nat1 b2 + nat1 true + nat1 b4 + nat1 a1 + nat1 true + nat1 true + nat1 a4 + nat1 c + nat1 bh := by simp only [nat1_f, nat1_t] at hn ⊢; omega
        have hmid := r3.mid rfl rfl
        subst hmid
        have hown := r3.own
        simp only [Bool.false_eq_true, if_false] at hown
        refine wpOp_step (o := { dst := some 19, op := Op.call { callee := Callee.builtin Builtin.append, args := #[Operand.tmp 16, Operand.tmp 18], argTypes := #[27, 27] }, type := 27, pos := _, after := _, guard := none }) rfl (fun K' hK => ?_)
        refine step_appAt ei_IntN rfl _ _ rfl wz.heap.size W _ 0 [] (by rfl) hown A2 n2 c2 (m.ps.flatMap ienc) (by rfl) ((HX.out.keep he).rp) HF.out.zp (one_iencM _) (by omega) hbase ?_
        intro v' w1 ho' hg hv
        rw [Nat.zero_add, List.nil_append] at ho'
        have he1 : Ext wz w1 := he.grown hg (fun q hq => (hown.lt q hq).1)
        refine hK _ _ ⟨hSof _ he1, ?_⟩
        exact ⟨b1, b2, true, b4, a1, true, true, a4, c, bh, yb1, yb2, _, yb4, ya1, ya2, v', ya4, yc, yh, u1, u2, v', u4, u5, by kernel_rfl, rfl, hcn, k2, (fun _ => rfl), (fun _ => rfl), k5, kh, hh, r1.other d2 hg, r2.other f1 hg, ⟨(fun h => Bool.noConfusion h), fun _ h => Bool.noConfusion h, fun _ => rfl, by simpa using ho', fun _ => rfl⟩, r4.other (Apart.symm p1) hg, qc0, qc1, own_apart o5 (Apart.symm p2) hg, apart5 d1 (apart_grown d2 r1.own hv) d3 d4 (apart_grown f1 r2.own hv) f2 f3 (Apart.symm (apart_grown (Apart.symm p1) r4.own hv)) (Apart.symm (apart_grown (Apart.symm p2) o5 hv)) g1, he1⟩
      · -- 17
        cases b4
        rotate_left 1
        · exact (kill hu (by kernel_rfl)).elim
        cases a4
        rotate_left 1
        · exact Bool.noConfusion (r4.ab rfl)
        have hcn : n = nat1 b1 + nat1 b2 + nat1 b3 + nat1 true + nat1 a1 + nat1 a2 + nat1 a3 + nat1 false + nat1 c + nat1 bh := by simp only [nat1_f, nat1_t] at hn ⊢; omega
        refine wpOp_step (o := { dst := some 20, op := Op.buildSlice 27 0 #[], type := 27, pos := _, after := _, guard := none }) rfl (fun K' hK => ?_)
        go_simp
        refine hK _ _ ⟨hSof _ (he.alloc _), ?_⟩
        exact ⟨b1, b2, b3, true, a1, a2, a3, false, c, bh, yb1, yb2, yb3, (.slice (some ⟨W.heap.size, 0, none⟩) 0 0), ya1, ya2, ya3, ya4, yc, yh, u1, u2, u3, (.slice (some ⟨W.heap.size, 0, none⟩) 0 0), u5, by kernel_rfl, rfl, hcn, k2, k3, k4, k5, kh, hh, r1.keep ((Ext.refl W).alloc _), r2.keep ((Ext.refl W).alloc _), r3.keep ((Ext.refl W).alloc _), r4.made hbase ya4, qc0, qc1, own_keep o5 ((Ext.refl W).alloc _), apart5 d1 d2 (apart_new r1.own) d4 f1 (apart_new r2.own) f3 (apart_new r3.own) p2 (Apart.symm (apart_new o5)), he.alloc _⟩
      · -- 18
        exact (kill hu (by kernel_rfl)).elim
      · -- 19
        exact (kill hu (by kernel_rfl)).elim
      · -- 20
        cases b4
        · exact (kill h2 (by kernel_rfl)).elim
        cases a3
        · exact (kill h2 (by kernel_rfl)).elim
        cases a4
        rotate_left 1
        · exact (kill hu (by kernel_rfl)).elim
        have hcn : n = nat1 b1 + nat1 b2 + nat1 b3 + nat1 true + nat1 a1 + nat1 a2 + nat1 true + nat1 true + nat1 c + nat1 bh := by simp only [nat1_f, nat1_t] at hn ⊢; omega
        have hmid := r4.mid rfl rfl
        subst hmid
        have hown := r4.own
        simp only [Bool.false_eq_true, if_false] at hown
        refine wpOp_step (o := { dst := some 23, op := Op.call { callee := Callee.builtin Builtin.append, args := #[Operand.tmp 20, Operand.tmp 22], argTypes := #[27, 27] }, type := 27, pos := _, after := _, guard := none }) rfl (fun K' hK => ?_)
        refine step_appAt ei_IntN rfl _ _ rfl wz.heap.size W _ 0 [] (by rfl) hown A3 n3 c3 (m.gs.flatMap ienc) (by rfl) ((HX.out.keep he).rg) HF.out.zg (one_iencM _) (by omega) hbase ?_
        intro v' w1 ho' hg hv
        rw [Nat.zero_add, List.nil_append] at ho'
        have he1 : Ext wz w1 := he.grown hg (fun q hq => (hown.lt q hq).1)
        refine hK _ _ ⟨hSof _ he1, ?_⟩
        exact ⟨b1, b2, b3, true, a1, a2, true, true, c, bh, yb1, yb2, yb3, _, ya1, ya2, ya3, v', yc, yh, u1, u2, u3, v', u5, by kernel_rfl, rfl, hcn, k2, k3, (fun _ => rfl), (fun _ => rfl), kh, hh, r1.other d3 hg, r2.other f2 hg, r3.other p1 hg, ⟨(fun h => Bool.noConfusion h), fun _ h => Bool.noConfusion h, fun _ => rfl, by simpa using ho', fun _ => rfl⟩, qc0, qc1, own_apart o5 (Apart.symm g1) hg, apart5 d1 d2 (apart_grown d3 r1.own hv) d4 f1 (apart_grown f2 r2.own hv) f3 (apart_grown p1 r3.own hv) p2 (Apart.symm (apart_grown (Apart.symm g1) o5 hv)), he1⟩
      · -- 21
        exact (kill hu (by kernel_rfl)).elim
      · -- 22
        exact (kill hu (by kernel_rfl)).elim
      · -- 23
        exact (kill hu (by kernel_rfl)).elim
      · -- 24
        exact (kill hu (by kernel_rfl)).elim
      · -- 25
        cases a4
        · exact (kill h2 (by kernel_rfl)).elim
        cases c
        rotate_left 1
        · exact (kill hu (by kernel_rfl)).elim
        have hu5 := qc0 rfl
        subst hu5
        have hcn : n = nat1 b1 + nat1 b2 + nat1 b3 + nat1 b4 + nat1 a1 + nat1 a2 + nat1 a3 + nat1 true + nat1 true + nat1 bh := by simp only [nat1_f, nat1_t] at hn ⊢; omega
        refine wpOp_step (o := { dst := some 28, op := Op.call { callee := Callee.value (Operand.func 87), args := #[Operand.tmp 27], argTypes := #[28] }, type := 28, pos := _, after := _, guard := none }) rfl (fun K' hK => ?_)
        go_simp
        go_at_call 87
        refine (cR.out _ he).mono ?_
        rintro e w1 ⟨g5, k5', rfl, h5, ho5⟩
        have he1 : Ext wz w1 := he.trans h5
        have hn5 : ∀ {uj : Value} {e : TypeId} {mm nn : Nat} {L : List Value}, W.ownsRow wz.heap.size e mm uj nn L → Apart uj (.slice (some ⟨g5, 0, none⟩) n4 k5') := fun h => Apart.of_at (At.of_own h) (At.of_own ho5) (.inl (Nat.le_refl _))
        refine hK _ _ ⟨hSof _ he1, ?_⟩
        exact ⟨b1, b2, b3, b4, a1, a2, a3, true, true, bh, yb1, yb2, yb3, yb4, ya1, ya2, ya3, ya4, (.slice (some ⟨g5, 0, none⟩) n4 k5'), yh, u1, u2, u3, u4, (.slice (some ⟨g5, 0, none⟩) n4 k5'), by kernel_rfl, rfl, hcn, k2, k3, k4, (fun _ => rfl), kh, hh, r1.keep h5, r2.keep h5, r3.keep h5, r4.keep h5, (fun h => Bool.noConfusion h), fun _ => rfl, own_weak ho5 hbase, apart5 d1 d2 d3 (hn5 r1.own) f1 f2 (hn5 r2.own) p1 (hn5 r3.own) (hn5 r4.own), he1⟩
      · -- 26
        cases bh
        · exact (kill h2 (by kernel_rfl)).elim
        cases a2
        · exact (kill h2 (by kernel_rfl)).elim
        cases a3
        · exact (kill h2 (by kernel_rfl)).elim
        cases a4
        · exact (kill h2 (by kernel_rfl)).elim
        cases c
        · exact (kill h2 (by kernel_rfl)).elim
        have q1 := kh rfl
        subst q1
        have z1 := r1.ab rfl
        subst z1
        have z2 := r2.ab rfl
        subst z2
        have z3 := r3.ab rfl
        subst z3
        have z4 := r4.ab rfl
        subst z4
        simp only [nat1_t] at hn
        omega
      · -- 27
        exact (kill h2 (by kernel_rfl)).elim
  · have hrow : ∀ (e : TypeId) (mm n : Nat) (xs : List Value), RS wz.drew wz.heap.size e mm n xs false false undef undef (.slice none 0 0) := fun e mm n xs => ⟨fun _ => rfl, fun h => Bool.noConfusion h, fun h => Bool.noConfusion h, World.ownsRow_nil _ _ _ _, fun h => Bool.noConfusion h⟩
    refine ⟨false, false, false, false, false, false, false, false, false, false, undef, undef, undef, undef, undef, undef, undef, undef, undef, undef, .slice none 0 0, .slice none 0 0, .slice none 0 0, .slice none 0 0, .slice none 0 0, ?_⟩
    refine ⟨rfl, rfl, rfl, (fun h => Bool.noConfusion h), (fun h => Bool.noConfusion h), (fun h => Bool.noConfusion h), (fun h => Bool.noConfusion h), (fun h => Bool.noConfusion h), (fun h => Bool.noConfusion h), hrow _ _ _ _, hrow _ _ _ _, hrow _ _ _ _, hrow _ _ _ _, fun _ => rfl, (fun h => Bool.noConfusion h), World.ownsRow_nil _ _ _ _, ?_, (Ext.refl _).drew⟩
    exact apart5 (apart_nil _) (apart_nil _) (apart_nil _) (apart_nil _) (apart_nil _) (apart_nil _) (apart_nil _) (apart_nil _) (apart_nil _) (apart_nil _)
end Go.Proofs.YtfmifllcbbfpoaaGreatDoor
/- Contracts of NextDays; no condition but what stands at each theorem. -/
namespace Go.Proofs.YtfmifllcbbfpoaaGreatDoor
set_option linter.unusedSimpArgs false
set_option linter.unusedVariables false
open Go.RowKit Go.Sort
/-- A museum and a further value have been told, the museum in rows of the call's own. -/
def MPost (m : GMuseum) (x : Value) (w : World) (e : Ending) (w' : World) : Prop := ∃ v : MV, e = .returned (.tuple #[v.val, x]) ∧ Ext w w' ∧ MOwn w' w.heap.size v m
def daysB (m : GMuseum) (d : Int) : Bool := museumB m && (inB d 1 1000 && decide (m.d + d ≤ 1000000))
def daysM (m : GMuseum) (d : Int) : GMuseum := if daysB m d then { m with d := m.d + d } else m
theorem museumB_d {m : GMuseum} (h : museumB m = true) : 0 ≤ m.d ∧ m.d ≤ 1000000 := by
  unfold museumB at h
  simp only [Bool.and_eq_true] at h
  have := h.2.2.2.2.2.1
  simp only [inB, Bool.and_eq_true, decide_eq_true_eq] at this
  exact this
theorem MOwn.day {w : World} {base : Nat} {v : MV} {m : GMuseum} (h : MOwn w base v m) (d : Int) : MOwn w base { v with d := d } { m with d := d } := ⟨h.eH, rfl, h.od, h.of_, h.op, h.og, h.or_, h.ap⟩
set_option maxRecDepth 100000 in
set_option maxHeartbeats 4000000 in
theorem impl_NextDays (v : MV) (m : GMuseum) (d : Int) (w : World) (hx : MRd w v m) (hf : MFit v) : Calls Tryz.prog 21 #[v.val, .int .i64 d] w (MPost (daysM m d) (.bool (daysB m d)) w) := by
  obtain ⟨wb, hwb⟩ : ∃ wb, wb = w.alloc (.cells v.cells 30) := ⟨_, rfl⟩
  have hbx := MBox.new hwb
  have hE : Ext w wb := by rw [hwb]; exact (Ext.refl w).alloc _
  obtain ⟨wz, hwz⟩ : ∃ wz, wz = wb.alloc (.cells #[.int .i64 0, .slice none 0 0, .slice none 0 0, .slice none 0 0, .slice none 0 0, .int .i64 0, .slice none 0 0] 30) := ⟨_, rfl⟩
  have hEz : Ext wb wz := by rw [hwz]; exact (Ext.refl wb).alloc _
  have hsb : wb.heap.size = w.heap.size + 1 := by rw [hwb]; simp
  have hsz : wz.heap.size = w.heap.size + 1 + 1 := by rw [hwz]; simp [hsb]
  have HBz : Hid (Blk wz (w.heap.size + 1) 30 #[.int .i64 0, .slice none 0 0, .slice none 0 0, .slice none 0 0, .slice none 0 0, .int .i64 0, .slice none 0 0]) := Lib.hid (by rw [hwz, ← hsb]; exact Blk.new _ _ _)
  have HX := Lib.hid (hx.keep (hE.trans hEz))
  have HB := Lib.hid (hbx.keep hEz)
  have HE := Lib.hid (hE.trans hEz)
  have cC := Lib.hid (impl_copyMuseum v m wz HX.out hf)
  have cM := Lib.hid (fun W (he : Ext wz W) => impl_MuseumOk v m W (HX.out.keep he))
  obtain ⟨Hh, ⟨A0, n0, c0⟩, ⟨A1, n1, c1⟩, ⟨A2, n2, c2⟩, ⟨A3, n3, c3⟩, day, ⟨A4, n4, c4⟩⟩ := v
  have Hwz : Hid (wz = (w.alloc (.cells #[.int .i64 Hh, .slice A0 n0 c0, .slice A1 n1 c1, .slice A2 n2 c2, .slice A3 n3 c3, .int .i64 day, .slice A4 n4 c4] 30)).alloc (.cells #[.int .i64 0, .slice none 0 0, .slice none 0 0, .slice none 0 0, .slice none 0 0, .int .i64 0, .slice none 0 0] 30)) := Lib.hid (by rw [hwz, hwb]; rfl)
  have hday : day = m.d := hx.ed
  subst hday
  have hzl : w.heap.size + 1 < wz.heap.size := by omega
  clear hwb hwz hbx hE hEz hx hf hsb hsz
  show Calls Tryz.prog 21 #[.agg #[.int .i64 Hh, .slice A0 n0 c0, .slice A1 n1 c1, .slice A2 n2 c2, .slice A3 n3 c3, .int .i64 m.d, .slice A4 n4 c4], .int .i64 d] w _
  obtain ⟨b0, b1, b2, b3, b4, b5, b6⟩ := HB.out.cell
  simp only at b0 b1 b2 b3 b4 b5 b6
  have Hb0 := Lib.hid b0
  rw [Hwz.out] at b0 b1 b2 b3 b4 b5 b6
  go_enter Tryz.func21, Tryz.ntmps21
  go_wp2_with (go_at_call 42; refine (fun h : Hid _ => h.out) ?_)
  unfold Hid
  rw [← Hwz.out]
  refine cC.out.mono ?_
  rintro e w1 ⟨v1, hev, he1, ho1⟩
  obtain ⟨Hh1, ⟨A01, n01, c01⟩, ⟨A11, n11, c11⟩, ⟨A21, n21, c21⟩, ⟨A31, n31, c31⟩, day1, ⟨A41, n41, c41⟩⟩ := v1
  simp only [MV.val, MV.cells] at hev
  subst hev
  have hd1 : day1 = m.d := ho1.ed
  subst hd1
  obtain ⟨w2, hw2⟩ : ∃ w2, w2 = w1.alloc (.cells #[.int .i64 Hh1, .slice A01 n01 c01, .slice A11 n11 c11, .slice A21 n21 c21, .slice A31 n31 c31, .int .i64 m.d, .slice A41 n41 c41] 30) := ⟨_, rfl⟩
  have hB6 : Blk w2 w1.heap.size 30 #[.int .i64 Hh1, .slice A01 n01 c01, .slice A11 n11 c11, .slice A21 n21 c21, .slice A31 n31 c31, .int .i64 m.d, .slice A41 n41 c41] := by rw [hw2]; exact Blk.new _ _ _
  have he2 : Ext w1 w2 := by rw [hw2]; exact (Ext.refl _).alloc _
  have HB6 := Lib.hid hB6
  have HAT1 := MAt.of_own ho1
  have HO2 := Lib.hid (ho1.keep he2)
  have HE2 := Lib.hid (he1.trans he2)
  have HW2 := Lib.hid hw2
  have hz2 : wz.heap.size ≤ w1.heap.size := he1.size
  have hs2 : w2.heap.size = w1.heap.size + 1 := by rw [hw2]; simp
  have cM2 := cM.out w2 HE2.out
  have HCM := Lib.hid cM2
  clear cM2 hB6 he2 ho1 he1 hw2 b0 b1 b2 b3 b4 b5 b6 cC cM
  obtain ⟨b0, b1, b2, b3, b4, b5, b6⟩ := (HB.out.keep HE2.out).cell
  simp only at b0 b1 b2 b3 b4 b5 b6
  rw [HW2.out] at b0 b1 b2 b3 b4 b5 b6
  go_wp2_with (go_at_call 13; refine (fun h : Hid _ => h.out) ?_)
  unfold Hid
  rw [← HW2.out]
  refine HCM.out.mono ?_
  rintro e w3 ⟨rfl, he3⟩
  have HE3 := Lib.hid (HE2.out.trans he3)
  have HO3 := Lib.hid (HO2.out.keep he3)
  have HB63 := Lib.hid (HB6.out.keep he3)
  have hz3 : w2.heap.size ≤ w3.heap.size := he3.size
  clear he3 b0 b1 b2 b3 b4 b5 b6 HCM
  have HAT := Lib.hid HAT1
  by_cases hm : museumB m = true
  case neg =>
    have hm' : museumB m = false := by simpa using hm
    have HF : Hid (daysB m d = false) := Lib.hid (by simp [daysB, hm'])
    have HM : Hid (daysM m d = m) := Lib.hid (by rw [daysM, HF.out]; rfl)
    rw [hm']
    clear hm hm'
    have Bz := Blk.keep HBz.out HE3.out
    have x0 := Bz.cellAt (i := 0) (by simp)
    have x1 := Bz.cellAt (i := 1) (by simp)
    have x2 := Bz.cellAt (i := 2) (by simp)
    have x3 := Bz.cellAt (i := 3) (by simp)
    have x4 := Bz.cellAt (i := 4) (by simp)
    have x5 := Bz.cellAt (i := 5) (by simp)
    have x6 := Bz.cellAt (i := 6) (by simp)
    have fz := Bz.free
    simp at x0 x1 x2 x3 x4 x5 x6
    have y0 := HB63.out.cellAt (i := 0) (by simp)
    have y1 := HB63.out.cellAt (i := 1) (by simp)
    have y2 := HB63.out.cellAt (i := 2) (by simp)
    have y3 := HB63.out.cellAt (i := 3) (by simp)
    have y4 := HB63.out.cellAt (i := 4) (by simp)
    have y5 := HB63.out.cellAt (i := 5) (by simp)
    have y6 := HB63.out.cellAt (i := 6) (by simp)
    simp at y0 y1 y2 y3 y4 y5 y6
    have lz : w.heap.size + 1 < w3.heap.size := Bz.lt
    go_wp2_with fail
    obtain ⟨b6', k6⟩ := store7 Bz (.int .i64 Hh1) (.slice A01 n01 c01) (.slice A11 n11 c11) (.slice A21 n21 c21) (.slice A31 n31 c31) (.int .i64 (m.d)) (.slice A41 n41 c41)
    have hO6 := HO3.out.out k6 (by omega)
    have hE6 := k6.ext (HE.out.trans HE3.out) (by omega)
    generalize (((((((w3.setCell ⟨w.heap.size + 1, 0, none⟩ (.int .i64 Hh1)).setCell ⟨w.heap.size + 1, 1, none⟩ (.slice A01 n01 c01)).setCell ⟨w.heap.size + 1, 2, none⟩ (.slice A11 n11 c11)).setCell ⟨w.heap.size + 1, 3, none⟩ (.slice A21 n21 c21)).setCell ⟨w.heap.size + 1, 4, none⟩ (.slice A31 n31 c31)).setCell ⟨w.heap.size + 1, 5, none⟩ (.int .i64 (m.d))).setCell ⟨w.heap.size + 1, 6, none⟩ (.slice A41 n41 c41)) = w6 at b6' k6 hO6 hE6 ⊢
    have t0 := b6'.cellAt (i := 0) (by simp)
    have t1 := b6'.cellAt (i := 1) (by simp)
    have t2 := b6'.cellAt (i := 2) (by simp)
    have t3 := b6'.cellAt (i := 3) (by simp)
    have t4 := b6'.cellAt (i := 4) (by simp)
    have t5 := b6'.cellAt (i := 5) (by simp)
    have t6 := b6'.cellAt (i := 6) (by simp)
    simp at t0 t1 t2 t3 t4 t5 t6
    refine bodyPost_ret (v := .tuple #[MV.val ⟨Hh1, ⟨A01, n01, c01⟩, ⟨A11, n11, c11⟩, ⟨A21, n21, c21⟩, ⟨A31, n31, c31⟩, m.d, ⟨A41, n41, c41⟩⟩, .bool false]) (by simp [results, Tryz.results21, go_sem, t0, t1, t2, t3, t4, t5, t6, MV.val, MV.cells]) rfl ?_
    exact ⟨_, (by rw [HF.out]), hE6, by rw [HM.out]; exact hO6.weak (by omega)⟩
  have hdd := museumB_d hm
  rw [hm]
  have cB := fun W => impl_between d 1 1000 W
  cases hi : inB d 1 1000
  case false =>
    have HF : Hid (daysB m d = false) := Lib.hid (by simp [daysB, hi])
    have HM : Hid (daysM m d = m) := Lib.hid (by rw [daysM, HF.out]; rfl)
    rw [hi] at cB
    clear hm hi
    go_wp2_with (go_at_call 54; refine (fun h : Hid _ => h.out) ?_)
    unfold Hid
    refine (cB _).mono ?_
    rintro e w4 ⟨rfl, rfl⟩
    clear cB
    have Bz := Blk.keep HBz.out HE3.out
    have x0 := Bz.cellAt (i := 0) (by simp)
    have x1 := Bz.cellAt (i := 1) (by simp)
    have x2 := Bz.cellAt (i := 2) (by simp)
    have x3 := Bz.cellAt (i := 3) (by simp)
    have x4 := Bz.cellAt (i := 4) (by simp)
    have x5 := Bz.cellAt (i := 5) (by simp)
    have x6 := Bz.cellAt (i := 6) (by simp)
    have fz := Bz.free
    simp at x0 x1 x2 x3 x4 x5 x6
    have y0 := HB63.out.cellAt (i := 0) (by simp)
    have y1 := HB63.out.cellAt (i := 1) (by simp)
    have y2 := HB63.out.cellAt (i := 2) (by simp)
    have y3 := HB63.out.cellAt (i := 3) (by simp)
    have y4 := HB63.out.cellAt (i := 4) (by simp)
    have y5 := HB63.out.cellAt (i := 5) (by simp)
    have y6 := HB63.out.cellAt (i := 6) (by simp)
    simp at y0 y1 y2 y3 y4 y5 y6
    have lz : w.heap.size + 1 < w3.heap.size := Bz.lt
    go_wp2_with fail
    obtain ⟨b6', k6⟩ := store7 Bz (.int .i64 Hh1) (.slice A01 n01 c01) (.slice A11 n11 c11) (.slice A21 n21 c21) (.slice A31 n31 c31) (.int .i64 (m.d)) (.slice A41 n41 c41)
    have hO6 := HO3.out.out k6 (by omega)
    have hE6 := k6.ext (HE.out.trans HE3.out) (by omega)
    generalize (((((((w3.setCell ⟨w.heap.size + 1, 0, none⟩ (.int .i64 Hh1)).setCell ⟨w.heap.size + 1, 1, none⟩ (.slice A01 n01 c01)).setCell ⟨w.heap.size + 1, 2, none⟩ (.slice A11 n11 c11)).setCell ⟨w.heap.size + 1, 3, none⟩ (.slice A21 n21 c21)).setCell ⟨w.heap.size + 1, 4, none⟩ (.slice A31 n31 c31)).setCell ⟨w.heap.size + 1, 5, none⟩ (.int .i64 (m.d))).setCell ⟨w.heap.size + 1, 6, none⟩ (.slice A41 n41 c41)) = w6 at b6' k6 hO6 hE6 ⊢
    have t0 := b6'.cellAt (i := 0) (by simp)
    have t1 := b6'.cellAt (i := 1) (by simp)
    have t2 := b6'.cellAt (i := 2) (by simp)
    have t3 := b6'.cellAt (i := 3) (by simp)
    have t4 := b6'.cellAt (i := 4) (by simp)
    have t5 := b6'.cellAt (i := 5) (by simp)
    have t6 := b6'.cellAt (i := 6) (by simp)
    simp at t0 t1 t2 t3 t4 t5 t6
    refine bodyPost_ret (v := .tuple #[MV.val ⟨Hh1, ⟨A01, n01, c01⟩, ⟨A11, n11, c11⟩, ⟨A21, n21, c21⟩, ⟨A31, n31, c31⟩, m.d, ⟨A41, n41, c41⟩⟩, .bool false]) (by simp [results, Tryz.results21, go_sem, t0, t1, t2, t3, t4, t5, t6, MV.val, MV.cells]) rfl ?_
    exact ⟨_, (by rw [HF.out]), hE6, by rw [HM.out]; exact hO6.weak (by omega)⟩
  have hd2 : 1 ≤ d ∧ d ≤ 1000 := by simpa [inB] using hi
  rw [hi] at cB
  have y5 := HB63.out.cellAt (i := 5) (by simp)
  obtain ⟨b0, b1, b2, b3, b4, b5, b6⟩ := (HB.out.keep HE3.out).cell
  simp only at b0 b1 b2 b3 b4 b5 b6
  simp at y5
  by_cases hs : m.d + d ≤ 1000000
  case neg =>
    have HF : Hid (daysB m d = false) := Lib.hid (by simp [daysB, hs])
    have HM : Hid (daysM m d = m) := Lib.hid (by rw [daysM, HF.out]; rfl)
    have hs2 : 1000000 < m.d + d := by omega
    clear hm hi hs y5
    go_wp2_with (go_at_call 54; refine (fun h : Hid _ => h.out) ?_)
    unfold Hid
    refine (cB _).mono ?_
    rintro e w4 ⟨rfl, rfl⟩
    clear cB
    have Bz := Blk.keep HBz.out HE3.out
    have x0 := Bz.cellAt (i := 0) (by simp)
    have x1 := Bz.cellAt (i := 1) (by simp)
    have x2 := Bz.cellAt (i := 2) (by simp)
    have x3 := Bz.cellAt (i := 3) (by simp)
    have x4 := Bz.cellAt (i := 4) (by simp)
    have x5 := Bz.cellAt (i := 5) (by simp)
    have x6 := Bz.cellAt (i := 6) (by simp)
    have fz := Bz.free
    simp at x0 x1 x2 x3 x4 x5 x6
    have y0 := HB63.out.cellAt (i := 0) (by simp)
    have y1 := HB63.out.cellAt (i := 1) (by simp)
    have y2 := HB63.out.cellAt (i := 2) (by simp)
    have y3 := HB63.out.cellAt (i := 3) (by simp)
    have y4 := HB63.out.cellAt (i := 4) (by simp)
    have y5 := HB63.out.cellAt (i := 5) (by simp)
    have y6 := HB63.out.cellAt (i := 6) (by simp)
    simp at y0 y1 y2 y3 y4 y5 y6
    have lz : w.heap.size + 1 < w3.heap.size := Bz.lt
    go_wp2_with fail
    obtain ⟨b6', k6⟩ := store7 Bz (.int .i64 Hh1) (.slice A01 n01 c01) (.slice A11 n11 c11) (.slice A21 n21 c21) (.slice A31 n31 c31) (.int .i64 (m.d)) (.slice A41 n41 c41)
    have hO6 := HO3.out.out k6 (by omega)
    have hE6 := k6.ext (HE.out.trans HE3.out) (by omega)
    generalize (((((((w3.setCell ⟨w.heap.size + 1, 0, none⟩ (.int .i64 Hh1)).setCell ⟨w.heap.size + 1, 1, none⟩ (.slice A01 n01 c01)).setCell ⟨w.heap.size + 1, 2, none⟩ (.slice A11 n11 c11)).setCell ⟨w.heap.size + 1, 3, none⟩ (.slice A21 n21 c21)).setCell ⟨w.heap.size + 1, 4, none⟩ (.slice A31 n31 c31)).setCell ⟨w.heap.size + 1, 5, none⟩ (.int .i64 (m.d))).setCell ⟨w.heap.size + 1, 6, none⟩ (.slice A41 n41 c41)) = w6 at b6' k6 hO6 hE6 ⊢
    have t0 := b6'.cellAt (i := 0) (by simp)
    have t1 := b6'.cellAt (i := 1) (by simp)
    have t2 := b6'.cellAt (i := 2) (by simp)
    have t3 := b6'.cellAt (i := 3) (by simp)
    have t4 := b6'.cellAt (i := 4) (by simp)
    have t5 := b6'.cellAt (i := 5) (by simp)
    have t6 := b6'.cellAt (i := 6) (by simp)
    simp at t0 t1 t2 t3 t4 t5 t6
    refine bodyPost_ret (v := .tuple #[MV.val ⟨Hh1, ⟨A01, n01, c01⟩, ⟨A11, n11, c11⟩, ⟨A21, n21, c21⟩, ⟨A31, n31, c31⟩, m.d, ⟨A41, n41, c41⟩⟩, .bool false]) (by simp [results, Tryz.results21, go_sem, t0, t1, t2, t3, t4, t5, t6, MV.val, MV.cells]) rfl ?_
    exact ⟨_, (by rw [HF.out]), hE6, by rw [HM.out]; exact hO6.weak (by omega)⟩
  case pos =>
    have HF : Hid (daysB m d = true) := Lib.hid (by simp [daysB, hs, hi, hm])
    have HM : Hid (daysM m d = { m with d := m.d + d }) := Lib.hid (by rw [daysM, HF.out]; rfl)
    have hs2 : ¬ 1000000 < m.d + d := by omega
    have f5 := HB63.out.free 5
    have l6 := HB63.out.lt
    clear hm hi hs
    go_wp2_with (go_at_call 54; refine (fun h : Hid _ => h.out) ?_)
    unfold Hid
    refine (cB _).mono ?_
    rintro e w4 ⟨rfl, rfl⟩
    clear cB
    go_upto_region 5 with fail
    have hk := KeptOut.of_grown (lo := w1.heap.size) (hi := w1.heap.size + 1) (grown_set (grown_refl w3 (some w1.heap.size)) 5 (.int .i64 (m.d + d))) (fun k hk => by injection hk with hk; omega)
    have hb7 := HB63.out.set 5 (.int .i64 (m.d + d))
    simp only [List.setIfInBounds_toArray, List.set_cons_succ, List.set_cons_zero] at hb7
    have ho7 := (HO3.out.below hk HAT.out).day (m.d + d)
    have he7 := hk.ext HE3.out hz2
    generalize w3.setCell ⟨w1.heap.size, 5, none⟩ (.int .i64 (m.d + d)) = w7 at hk hb7 ho7 he7 ⊢
    have HB7 := Lib.hid hb7
    have HO7 := Lib.hid ho7
    have HE7 := Lib.hid he7
    clear hk hb7 ho7 he7 y5 f5 l6 b0 b1 b2 b3 b4 b5 b6
    have Bz := Blk.keep HBz.out HE7.out
    have x0 := Bz.cellAt (i := 0) (by simp)
    have x1 := Bz.cellAt (i := 1) (by simp)
    have x2 := Bz.cellAt (i := 2) (by simp)
    have x3 := Bz.cellAt (i := 3) (by simp)
    have x4 := Bz.cellAt (i := 4) (by simp)
    have x5 := Bz.cellAt (i := 5) (by simp)
    have x6 := Bz.cellAt (i := 6) (by simp)
    have fz := Bz.free
    simp at x0 x1 x2 x3 x4 x5 x6
    have y0 := HB7.out.cellAt (i := 0) (by simp)
    have y1 := HB7.out.cellAt (i := 1) (by simp)
    have y2 := HB7.out.cellAt (i := 2) (by simp)
    have y3 := HB7.out.cellAt (i := 3) (by simp)
    have y4 := HB7.out.cellAt (i := 4) (by simp)
    have y5 := HB7.out.cellAt (i := 5) (by simp)
    have y6 := HB7.out.cellAt (i := 6) (by simp)
    simp at y0 y1 y2 y3 y4 y5 y6
    have lz : w.heap.size + 1 < w7.heap.size := Bz.lt
    go_wp2_with fail
    obtain ⟨b6', k6⟩ := store7 Bz (.int .i64 Hh1) (.slice A01 n01 c01) (.slice A11 n11 c11) (.slice A21 n21 c21) (.slice A31 n31 c31) (.int .i64 (m.d + d)) (.slice A41 n41 c41)
    have hO6 := HO7.out.out k6 (by omega)
    have hE6 := k6.ext (HE.out.trans HE7.out) (by omega)
    generalize (((((((w7.setCell ⟨w.heap.size + 1, 0, none⟩ (.int .i64 Hh1)).setCell ⟨w.heap.size + 1, 1, none⟩ (.slice A01 n01 c01)).setCell ⟨w.heap.size + 1, 2, none⟩ (.slice A11 n11 c11)).setCell ⟨w.heap.size + 1, 3, none⟩ (.slice A21 n21 c21)).setCell ⟨w.heap.size + 1, 4, none⟩ (.slice A31 n31 c31)).setCell ⟨w.heap.size + 1, 5, none⟩ (.int .i64 (m.d + d))).setCell ⟨w.heap.size + 1, 6, none⟩ (.slice A41 n41 c41)) = w6 at b6' k6 hO6 hE6 ⊢
    have t0 := b6'.cellAt (i := 0) (by simp)
    have t1 := b6'.cellAt (i := 1) (by simp)
    have t2 := b6'.cellAt (i := 2) (by simp)
    have t3 := b6'.cellAt (i := 3) (by simp)
    have t4 := b6'.cellAt (i := 4) (by simp)
    have t5 := b6'.cellAt (i := 5) (by simp)
    have t6 := b6'.cellAt (i := 6) (by simp)
    simp at t0 t1 t2 t3 t4 t5 t6
    refine bodyPost_ret (v := .tuple #[MV.val ⟨Hh1, ⟨A01, n01, c01⟩, ⟨A11, n11, c11⟩, ⟨A21, n21, c21⟩, ⟨A31, n31, c31⟩, m.d + d, ⟨A41, n41, c41⟩⟩, .bool true]) (by simp [results, Tryz.results21, go_sem, t0, t1, t2, t3, t4, t5, t6, MV.val, MV.cells]) rfl ?_
    exact ⟨_, (by rw [HF.out]), hE6, by rw [HM.out]; exact hO6.weak (by omega)⟩
end Go.Proofs.YtfmifllcbbfpoaaGreatDoor
/- Contract of the reference's NextDays; no condition but what stands at each theorem. -/
namespace Go.Proofs.YtfmifllcbbfpoaaGreatDoor
set_option linter.unusedSimpArgs false
set_option linter.unusedVariables false
open Go.RowKit Go.Sort
set_option maxRecDepth 100000 in
set_option maxHeartbeats 4000000 in
theorem spec_NextDays (v : MV) (m : GMuseum) (d : Int) (w : World) (hx : MRd w v m) (hf : MFit v) : Calls Tryz.prog 49 #[v.val, .int .i64 d] w (MPost (daysM m d) (.bool (daysB m d)) w) := by
  obtain ⟨wb, hwb⟩ : ∃ wb, wb = w.alloc (.cells v.cells 30) := ⟨_, rfl⟩
  have hbx := MBox.new hwb
  have hE : Ext w wb := by rw [hwb]; exact (Ext.refl w).alloc _
  obtain ⟨wz, hwz⟩ : ∃ wz, wz = wb.alloc (.cells #[.int .i64 0, .slice none 0 0, .slice none 0 0, .slice none 0 0, .slice none 0 0, .int .i64 0, .slice none 0 0] 30) := ⟨_, rfl⟩
  have hEz : Ext wb wz := by rw [hwz]; exact (Ext.refl wb).alloc _
  have hsb : wb.heap.size = w.heap.size + 1 := by rw [hwb]; simp
  have hsz : wz.heap.size = w.heap.size + 1 + 1 := by rw [hwz]; simp [hsb]
  have HBz : Hid (Blk wz (w.heap.size + 1) 30 #[.int .i64 0, .slice none 0 0, .slice none 0 0, .slice none 0 0, .slice none 0 0, .int .i64 0, .slice none 0 0]) := Lib.hid (by rw [hwz, ← hsb]; exact Blk.new _ _ _)
  have HX := Lib.hid (hx.keep (hE.trans hEz))
  have HB := Lib.hid (hbx.keep hEz)
  have HE := Lib.hid (hE.trans hEz)
  have cC := Lib.hid (spec_l38Copy v m wz HX.out hf)
  have cM := Lib.hid (fun W (he : Ext wz W) => spec_MuseumOk v m W (HX.out.keep he))
  obtain ⟨Hh, ⟨A0, n0, c0⟩, ⟨A1, n1, c1⟩, ⟨A2, n2, c2⟩, ⟨A3, n3, c3⟩, day, ⟨A4, n4, c4⟩⟩ := v
  have Hwz : Hid (wz = (w.alloc (.cells #[.int .i64 Hh, .slice A0 n0 c0, .slice A1 n1 c1, .slice A2 n2 c2, .slice A3 n3 c3, .int .i64 day, .slice A4 n4 c4] 30)).alloc (.cells #[.int .i64 0, .slice none 0 0, .slice none 0 0, .slice none 0 0, .slice none 0 0, .int .i64 0, .slice none 0 0] 30)) := Lib.hid (by rw [hwz, hwb]; rfl)
  have hday : day = m.d := hx.ed
  subst hday
  have hzl : w.heap.size + 1 < wz.heap.size := by omega
  clear hwb hwz hbx hE hEz hx hf hsb hsz
  show Calls Tryz.prog 49 #[.agg #[.int .i64 Hh, .slice A0 n0 c0, .slice A1 n1 c1, .slice A2 n2 c2, .slice A3 n3 c3, .int .i64 m.d, .slice A4 n4 c4], .int .i64 d] w _
  obtain ⟨b0, b1, b2, b3, b4, b5, b6⟩ := HB.out.cell
  simp only at b0 b1 b2 b3 b4 b5 b6
  have Hb0 := Lib.hid b0
  rw [Hwz.out] at b0 b1 b2 b3 b4 b5 b6
  go_enter Tryz.func49, Tryz.ntmps49
  go_wp2_with (go_at_call 44; refine (fun h : Hid _ => h.out) ?_)
  unfold Hid
  rw [← Hwz.out]
  refine cC.out.mono ?_
  rintro e w1 ⟨v1, hev, he1, ho1⟩
  obtain ⟨Hh1, ⟨A01, n01, c01⟩, ⟨A11, n11, c11⟩, ⟨A21, n21, c21⟩, ⟨A31, n31, c31⟩, day1, ⟨A41, n41, c41⟩⟩ := v1
  simp only [MV.val, MV.cells] at hev
  subst hev
  have hd1 : day1 = m.d := ho1.ed
  subst hd1
  obtain ⟨w2, hw2⟩ : ∃ w2, w2 = w1.alloc (.cells #[.int .i64 Hh1, .slice A01 n01 c01, .slice A11 n11 c11, .slice A21 n21 c21, .slice A31 n31 c31, .int .i64 m.d, .slice A41 n41 c41] 30) := ⟨_, rfl⟩
  have hB6 : Blk w2 w1.heap.size 30 #[.int .i64 Hh1, .slice A01 n01 c01, .slice A11 n11 c11, .slice A21 n21 c21, .slice A31 n31 c31, .int .i64 m.d, .slice A41 n41 c41] := by rw [hw2]; exact Blk.new _ _ _
  have he2 : Ext w1 w2 := by rw [hw2]; exact (Ext.refl _).alloc _
  have HB6 := Lib.hid hB6
  have HAT1 := MAt.of_own ho1
  have HO2 := Lib.hid (ho1.keep he2)
  have HE2 := Lib.hid (he1.trans he2)
  have HW2 := Lib.hid hw2
  have hz2 : wz.heap.size ≤ w1.heap.size := he1.size
  have hs2 : w2.heap.size = w1.heap.size + 1 := by rw [hw2]; simp
  have cM2 := cM.out w2 HE2.out
  have HCM := Lib.hid cM2
  clear cM2 hB6 he2 ho1 he1 hw2 b0 b1 b2 b3 b4 b5 b6 cC cM
  obtain ⟨b0, b1, b2, b3, b4, b5, b6⟩ := (HB.out.keep HE2.out).cell
  simp only at b0 b1 b2 b3 b4 b5 b6
  rw [HW2.out] at b0 b1 b2 b3 b4 b5 b6
  go_wp2_with (go_at_call 45; refine (fun h : Hid _ => h.out) ?_)
  unfold Hid
  rw [← HW2.out]
  refine HCM.out.mono ?_
  rintro e w3 ⟨rfl, he3⟩
  have HE3 := Lib.hid (HE2.out.trans he3)
  have HO3 := Lib.hid (HO2.out.keep he3)
  have HB63 := Lib.hid (HB6.out.keep he3)
  have hz3 : w2.heap.size ≤ w3.heap.size := he3.size
  clear he3 b0 b1 b2 b3 b4 b5 b6 HCM
  have HAT := Lib.hid HAT1
  by_cases hm : museumB m = true
  case neg =>
    have hm' : museumB m = false := by simpa using hm
    have HF : Hid (daysB m d = false) := Lib.hid (by simp [daysB, hm'])
    have HM : Hid (daysM m d = m) := Lib.hid (by rw [daysM, HF.out]; rfl)
    rw [hm']
    clear hm hm'
    have Bz := Blk.keep HBz.out HE3.out
    have x0 := Bz.cellAt (i := 0) (by simp)
    have x1 := Bz.cellAt (i := 1) (by simp)
    have x2 := Bz.cellAt (i := 2) (by simp)
    have x3 := Bz.cellAt (i := 3) (by simp)
    have x4 := Bz.cellAt (i := 4) (by simp)
    have x5 := Bz.cellAt (i := 5) (by simp)
    have x6 := Bz.cellAt (i := 6) (by simp)
    have fz := Bz.free
    simp at x0 x1 x2 x3 x4 x5 x6
    have y0 := HB63.out.cellAt (i := 0) (by simp)
    have y1 := HB63.out.cellAt (i := 1) (by simp)
    have y2 := HB63.out.cellAt (i := 2) (by simp)
    have y3 := HB63.out.cellAt (i := 3) (by simp)
    have y4 := HB63.out.cellAt (i := 4) (by simp)
    have y5 := HB63.out.cellAt (i := 5) (by simp)
    have y6 := HB63.out.cellAt (i := 6) (by simp)
    simp at y0 y1 y2 y3 y4 y5 y6
    have lz : w.heap.size + 1 < w3.heap.size := Bz.lt
    go_wp2_with fail
    obtain ⟨b6', k6⟩ := store7 Bz (.int .i64 Hh1) (.slice A01 n01 c01) (.slice A11 n11 c11) (.slice A21 n21 c21) (.slice A31 n31 c31) (.int .i64 (m.d)) (.slice A41 n41 c41)
    have hO6 := HO3.out.out k6 (by omega)
    have hE6 := k6.ext (HE.out.trans HE3.out) (by omega)
    generalize (((((((w3.setCell ⟨w.heap.size + 1, 0, none⟩ (.int .i64 Hh1)).setCell ⟨w.heap.size + 1, 1, none⟩ (.slice A01 n01 c01)).setCell ⟨w.heap.size + 1, 2, none⟩ (.slice A11 n11 c11)).setCell ⟨w.heap.size + 1, 3, none⟩ (.slice A21 n21 c21)).setCell ⟨w.heap.size + 1, 4, none⟩ (.slice A31 n31 c31)).setCell ⟨w.heap.size + 1, 5, none⟩ (.int .i64 (m.d))).setCell ⟨w.heap.size + 1, 6, none⟩ (.slice A41 n41 c41)) = w6 at b6' k6 hO6 hE6 ⊢
    have t0 := b6'.cellAt (i := 0) (by simp)
    have t1 := b6'.cellAt (i := 1) (by simp)
    have t2 := b6'.cellAt (i := 2) (by simp)
    have t3 := b6'.cellAt (i := 3) (by simp)
    have t4 := b6'.cellAt (i := 4) (by simp)
    have t5 := b6'.cellAt (i := 5) (by simp)
    have t6 := b6'.cellAt (i := 6) (by simp)
    simp at t0 t1 t2 t3 t4 t5 t6
    refine bodyPost_ret (v := .tuple #[MV.val ⟨Hh1, ⟨A01, n01, c01⟩, ⟨A11, n11, c11⟩, ⟨A21, n21, c21⟩, ⟨A31, n31, c31⟩, m.d, ⟨A41, n41, c41⟩⟩, .bool false]) (by simp [results, Tryz.results49, go_sem, t0, t1, t2, t3, t4, t5, t6, MV.val, MV.cells]) rfl ?_
    exact ⟨_, (by rw [HF.out]), hE6, by rw [HM.out]; exact hO6.weak (by omega)⟩
  have hdd := museumB_d hm
  rw [hm]
  have cB := fun W => spec_l01In d 1 1000 W
  cases hi : inB d 1 1000
  case false =>
    have HF : Hid (daysB m d = false) := Lib.hid (by simp [daysB, hi])
    have HM : Hid (daysM m d = m) := Lib.hid (by rw [daysM, HF.out]; rfl)
    rw [hi] at cB
    clear hm hi
    go_wp2_with (go_at_call 66; refine (fun h : Hid _ => h.out) ?_)
    unfold Hid
    refine (cB _).mono ?_
    rintro e w4 ⟨rfl, rfl⟩
    clear cB
    have Bz := Blk.keep HBz.out HE3.out
    have x0 := Bz.cellAt (i := 0) (by simp)
    have x1 := Bz.cellAt (i := 1) (by simp)
    have x2 := Bz.cellAt (i := 2) (by simp)
    have x3 := Bz.cellAt (i := 3) (by simp)
    have x4 := Bz.cellAt (i := 4) (by simp)
    have x5 := Bz.cellAt (i := 5) (by simp)
    have x6 := Bz.cellAt (i := 6) (by simp)
    have fz := Bz.free
    simp at x0 x1 x2 x3 x4 x5 x6
    have y0 := HB63.out.cellAt (i := 0) (by simp)
    have y1 := HB63.out.cellAt (i := 1) (by simp)
    have y2 := HB63.out.cellAt (i := 2) (by simp)
    have y3 := HB63.out.cellAt (i := 3) (by simp)
    have y4 := HB63.out.cellAt (i := 4) (by simp)
    have y5 := HB63.out.cellAt (i := 5) (by simp)
    have y6 := HB63.out.cellAt (i := 6) (by simp)
    simp at y0 y1 y2 y3 y4 y5 y6
    have lz : w.heap.size + 1 < w3.heap.size := Bz.lt
    go_wp2_with fail
    obtain ⟨b6', k6⟩ := store7 Bz (.int .i64 Hh1) (.slice A01 n01 c01) (.slice A11 n11 c11) (.slice A21 n21 c21) (.slice A31 n31 c31) (.int .i64 (m.d)) (.slice A41 n41 c41)
    have hO6 := HO3.out.out k6 (by omega)
    have hE6 := k6.ext (HE.out.trans HE3.out) (by omega)
    generalize (((((((w3.setCell ⟨w.heap.size + 1, 0, none⟩ (.int .i64 Hh1)).setCell ⟨w.heap.size + 1, 1, none⟩ (.slice A01 n01 c01)).setCell ⟨w.heap.size + 1, 2, none⟩ (.slice A11 n11 c11)).setCell ⟨w.heap.size + 1, 3, none⟩ (.slice A21 n21 c21)).setCell ⟨w.heap.size + 1, 4, none⟩ (.slice A31 n31 c31)).setCell ⟨w.heap.size + 1, 5, none⟩ (.int .i64 (m.d))).setCell ⟨w.heap.size + 1, 6, none⟩ (.slice A41 n41 c41)) = w6 at b6' k6 hO6 hE6 ⊢
    have t0 := b6'.cellAt (i := 0) (by simp)
    have t1 := b6'.cellAt (i := 1) (by simp)
    have t2 := b6'.cellAt (i := 2) (by simp)
    have t3 := b6'.cellAt (i := 3) (by simp)
    have t4 := b6'.cellAt (i := 4) (by simp)
    have t5 := b6'.cellAt (i := 5) (by simp)
    have t6 := b6'.cellAt (i := 6) (by simp)
    simp at t0 t1 t2 t3 t4 t5 t6
    refine bodyPost_ret (v := .tuple #[MV.val ⟨Hh1, ⟨A01, n01, c01⟩, ⟨A11, n11, c11⟩, ⟨A21, n21, c21⟩, ⟨A31, n31, c31⟩, m.d, ⟨A41, n41, c41⟩⟩, .bool false]) (by simp [results, Tryz.results49, go_sem, t0, t1, t2, t3, t4, t5, t6, MV.val, MV.cells]) rfl ?_
    exact ⟨_, (by rw [HF.out]), hE6, by rw [HM.out]; exact hO6.weak (by omega)⟩
  have hd2 : 1 ≤ d ∧ d ≤ 1000 := by simpa [inB] using hi
  rw [hi] at cB
  have y5 := HB63.out.cellAt (i := 5) (by simp)
  obtain ⟨b0, b1, b2, b3, b4, b5, b6⟩ := (HB.out.keep HE3.out).cell
  simp only at b0 b1 b2 b3 b4 b5 b6
  simp at y5
  by_cases hs : m.d + d ≤ 1000000
  case neg =>
    have HF : Hid (daysB m d = false) := Lib.hid (by simp [daysB, hs])
    have HM : Hid (daysM m d = m) := Lib.hid (by rw [daysM, HF.out]; rfl)
    have hs2 : 1000000 < m.d + d := by omega
    clear hm hi hs y5
    go_wp2_with (go_at_call 66; refine (fun h : Hid _ => h.out) ?_)
    unfold Hid
    refine (cB _).mono ?_
    rintro e w4 ⟨rfl, rfl⟩
    clear cB
    have Bz := Blk.keep HBz.out HE3.out
    have x0 := Bz.cellAt (i := 0) (by simp)
    have x1 := Bz.cellAt (i := 1) (by simp)
    have x2 := Bz.cellAt (i := 2) (by simp)
    have x3 := Bz.cellAt (i := 3) (by simp)
    have x4 := Bz.cellAt (i := 4) (by simp)
    have x5 := Bz.cellAt (i := 5) (by simp)
    have x6 := Bz.cellAt (i := 6) (by simp)
    have fz := Bz.free
    simp at x0 x1 x2 x3 x4 x5 x6
    have y0 := HB63.out.cellAt (i := 0) (by simp)
    have y1 := HB63.out.cellAt (i := 1) (by simp)
    have y2 := HB63.out.cellAt (i := 2) (by simp)
    have y3 := HB63.out.cellAt (i := 3) (by simp)
    have y4 := HB63.out.cellAt (i := 4) (by simp)
    have y5 := HB63.out.cellAt (i := 5) (by simp)
    have y6 := HB63.out.cellAt (i := 6) (by simp)
    simp at y0 y1 y2 y3 y4 y5 y6
    have lz : w.heap.size + 1 < w3.heap.size := Bz.lt
    go_wp2_with fail
    obtain ⟨b6', k6⟩ := store7 Bz (.int .i64 Hh1) (.slice A01 n01 c01) (.slice A11 n11 c11) (.slice A21 n21 c21) (.slice A31 n31 c31) (.int .i64 (m.d)) (.slice A41 n41 c41)
    have hO6 := HO3.out.out k6 (by omega)
    have hE6 := k6.ext (HE.out.trans HE3.out) (by omega)
    generalize (((((((w3.setCell ⟨w.heap.size + 1, 0, none⟩ (.int .i64 Hh1)).setCell ⟨w.heap.size + 1, 1, none⟩ (.slice A01 n01 c01)).setCell ⟨w.heap.size + 1, 2, none⟩ (.slice A11 n11 c11)).setCell ⟨w.heap.size + 1, 3, none⟩ (.slice A21 n21 c21)).setCell ⟨w.heap.size + 1, 4, none⟩ (.slice A31 n31 c31)).setCell ⟨w.heap.size + 1, 5, none⟩ (.int .i64 (m.d))).setCell ⟨w.heap.size + 1, 6, none⟩ (.slice A41 n41 c41)) = w6 at b6' k6 hO6 hE6 ⊢
    have t0 := b6'.cellAt (i := 0) (by simp)
    have t1 := b6'.cellAt (i := 1) (by simp)
    have t2 := b6'.cellAt (i := 2) (by simp)
    have t3 := b6'.cellAt (i := 3) (by simp)
    have t4 := b6'.cellAt (i := 4) (by simp)
    have t5 := b6'.cellAt (i := 5) (by simp)
    have t6 := b6'.cellAt (i := 6) (by simp)
    simp at t0 t1 t2 t3 t4 t5 t6
    refine bodyPost_ret (v := .tuple #[MV.val ⟨Hh1, ⟨A01, n01, c01⟩, ⟨A11, n11, c11⟩, ⟨A21, n21, c21⟩, ⟨A31, n31, c31⟩, m.d, ⟨A41, n41, c41⟩⟩, .bool false]) (by simp [results, Tryz.results49, go_sem, t0, t1, t2, t3, t4, t5, t6, MV.val, MV.cells]) rfl ?_
    exact ⟨_, (by rw [HF.out]), hE6, by rw [HM.out]; exact hO6.weak (by omega)⟩
  case pos =>
    have HF : Hid (daysB m d = true) := Lib.hid (by simp [daysB, hs, hi, hm])
    have HM : Hid (daysM m d = { m with d := m.d + d }) := Lib.hid (by rw [daysM, HF.out]; rfl)
    have hs2 : ¬ 1000000 < m.d + d := by omega
    have f5 := HB63.out.free 5
    have l6 := HB63.out.lt
    clear hm hi hs
    go_wp2_with (go_at_call 66; refine (fun h : Hid _ => h.out) ?_)
    unfold Hid
    refine (cB _).mono ?_
    rintro e w4 ⟨rfl, rfl⟩
    clear cB
    go_upto_region 5 with fail
    have hk := KeptOut.of_grown (lo := w1.heap.size) (hi := w1.heap.size + 1) (grown_set (grown_refl w3 (some w1.heap.size)) 5 (.int .i64 (m.d + d))) (fun k hk => by injection hk with hk; omega)
    have hb7 := HB63.out.set 5 (.int .i64 (m.d + d))
    simp only [List.setIfInBounds_toArray, List.set_cons_succ, List.set_cons_zero] at hb7
    have ho7 := (HO3.out.below hk HAT.out).day (m.d + d)
    have he7 := hk.ext HE3.out hz2
    generalize w3.setCell ⟨w1.heap.size, 5, none⟩ (.int .i64 (m.d + d)) = w7 at hk hb7 ho7 he7 ⊢
    have HB7 := Lib.hid hb7
    have HO7 := Lib.hid ho7
    have HE7 := Lib.hid he7
    clear hk hb7 ho7 he7 y5 f5 l6 b0 b1 b2 b3 b4 b5 b6
    have Bz := Blk.keep HBz.out HE7.out
    have x0 := Bz.cellAt (i := 0) (by simp)
    have x1 := Bz.cellAt (i := 1) (by simp)
    have x2 := Bz.cellAt (i := 2) (by simp)
    have x3 := Bz.cellAt (i := 3) (by simp)
    have x4 := Bz.cellAt (i := 4) (by simp)
    have x5 := Bz.cellAt (i := 5) (by simp)
    have x6 := Bz.cellAt (i := 6) (by simp)
    have fz := Bz.free
    simp at x0 x1 x2 x3 x4 x5 x6
    have y0 := HB7.out.cellAt (i := 0) (by simp)
    have y1 := HB7.out.cellAt (i := 1) (by simp)
    have y2 := HB7.out.cellAt (i := 2) (by simp)
    have y3 := HB7.out.cellAt (i := 3) (by simp)
    have y4 := HB7.out.cellAt (i := 4) (by simp)
    have y5 := HB7.out.cellAt (i := 5) (by simp)
    have y6 := HB7.out.cellAt (i := 6) (by simp)
    simp at y0 y1 y2 y3 y4 y5 y6
    have lz : w.heap.size + 1 < w7.heap.size := Bz.lt
    go_wp2_with fail
    obtain ⟨b6', k6⟩ := store7 Bz (.int .i64 Hh1) (.slice A01 n01 c01) (.slice A11 n11 c11) (.slice A21 n21 c21) (.slice A31 n31 c31) (.int .i64 (m.d + d)) (.slice A41 n41 c41)
    have hO6 := HO7.out.out k6 (by omega)
    have hE6 := k6.ext (HE.out.trans HE7.out) (by omega)
    generalize (((((((w7.setCell ⟨w.heap.size + 1, 0, none⟩ (.int .i64 Hh1)).setCell ⟨w.heap.size + 1, 1, none⟩ (.slice A01 n01 c01)).setCell ⟨w.heap.size + 1, 2, none⟩ (.slice A11 n11 c11)).setCell ⟨w.heap.size + 1, 3, none⟩ (.slice A21 n21 c21)).setCell ⟨w.heap.size + 1, 4, none⟩ (.slice A31 n31 c31)).setCell ⟨w.heap.size + 1, 5, none⟩ (.int .i64 (m.d + d))).setCell ⟨w.heap.size + 1, 6, none⟩ (.slice A41 n41 c41)) = w6 at b6' k6 hO6 hE6 ⊢
    have t0 := b6'.cellAt (i := 0) (by simp)
    have t1 := b6'.cellAt (i := 1) (by simp)
    have t2 := b6'.cellAt (i := 2) (by simp)
    have t3 := b6'.cellAt (i := 3) (by simp)
    have t4 := b6'.cellAt (i := 4) (by simp)
    have t5 := b6'.cellAt (i := 5) (by simp)
    have t6 := b6'.cellAt (i := 6) (by simp)
    simp at t0 t1 t2 t3 t4 t5 t6
    refine bodyPost_ret (v := .tuple #[MV.val ⟨Hh1, ⟨A01, n01, c01⟩, ⟨A11, n11, c11⟩, ⟨A21, n21, c21⟩, ⟨A31, n31, c31⟩, m.d + d, ⟨A41, n41, c41⟩⟩, .bool true]) (by simp [results, Tryz.results49, go_sem, t0, t1, t2, t3, t4, t5, t6, MV.val, MV.cells]) rfl ?_
    exact ⟨_, (by rw [HF.out]), hE6, by rw [HM.out]; exact hO6.weak (by omega)⟩
end Go.Proofs.YtfmifllcbbfpoaaGreatDoor
/- Contract of the program's NewMuseum; no condition but what stands at each theorem. -/
namespace Go.Proofs.YtfmifllcbbfpoaaGreatDoor
set_option linter.unusedSimpArgs false
set_option linter.unusedVariables false
open Go.RowKit Go.Sort
def rawM (H : Int) (ds : List GDoor) (ps gs : List Int) : GMuseum := ⟨H, ds, ps, ps, gs, 0, []⟩
def newM (H : Int) (ds : List GDoor) (ps gs : List Int) : GMuseum := if museumB (rawM H ds ps gs) then rawM H ds ps gs else ⟨0, [], [], [], [], 0, []⟩
theorem zero_own (w : World) (base : Nat) : MOwn w base (⟨0, ⟨none, 0, 0⟩, ⟨none, 0, 0⟩, ⟨none, 0, 0⟩, ⟨none, 0, 0⟩, 0, ⟨none, 0, 0⟩⟩ : MV) ⟨0, [], [], [], [], 0, []⟩ :=
  ⟨rfl, rfl, World.ownsRow_nil _ _ _ _, World.ownsRow_nil _ _ _ _, World.ownsRow_nil _ _ _ _, World.ownsRow_nil _ _ _ _, World.ownsRow_nil _ _ _ _, apart5 (apart_nil _) (apart_nil _) (apart_nil _) (apart_nil _) (apart_nil _) (apart_nil _) (apart_nil _) (apart_nil _) (apart_nil _) (apart_nil _)⟩
set_option maxRecDepth 100000 in
set_option maxHeartbeats 4000000 in
theorem impl_NewMuseum (H : Int) (A0 : Option Addr) (n0 c0 : Nat) (ds : List GDoor) (A1 : Option Addr) (n1 c1 : Nat) (ps : List Int) (A2 : Option Addr) (n2 c2 : Nat) (gs : List Int) (w : World)
    (hx : Rd w 2 A0 n0 (ds.flatMap GDoor.enc)) (hx1 : Rd w 1 A1 n1 (ps.flatMap ienc)) (hx2 : Rd w 1 A2 n2 (gs.flatMap ienc)) (z0 : A0 = none → c0 = 0) (z1 : A1 = none → c1 = 0) (z2 : A2 = none → c2 = 0) (l0 : n0 ≤ 1048576) (l1 : n1 ≤ 1048576) (l2 : n2 ≤ 1048576) :
    Calls Tryz.prog 23 #[.agg #[.int .i64 H, .slice A0 n0 c0], .slice A1 n1 c1, .slice A2 n2 c2] w (MPost (newM H ds ps gs) (.bool (museumB (rawM H ds ps gs))) w) := by
  obtain ⟨wb, hwb⟩ : ∃ wb, wb = w.alloc (.cells #[.int .i64 H, .slice A0 n0 c0] 26) := ⟨_, rfl⟩
  obtain ⟨hE, hsb, k0, k1⟩ := box2 w _ _ _ wb hwb
  obtain ⟨wz, hwz⟩ : ∃ wz, wz = wb.alloc (.cells #[.int .i64 0, .slice none 0 0, .slice none 0 0, .slice none 0 0, .slice none 0 0, .int .i64 0, .slice none 0 0] 30) := ⟨_, rfl⟩
  have hEz : Ext wb wz := by rw [hwz]; exact (Ext.refl wb).alloc _
  have hsz : wz.heap.size = w.heap.size + 1 + 1 := by rw [hwz]; simp [hsb]
  have HBz : Hid (Blk wz (w.heap.size + 1) 30 #[.int .i64 0, .slice none 0 0, .slice none 0 0, .slice none 0 0, .slice none 0 0, .int .i64 0, .slice none 0 0]) := Lib.hid (by rw [hwz, ← hsb]; exact Blk.new _ _ _)
  have hr : MRd wz (⟨H, ⟨A0, n0, c0⟩, ⟨A1, n1, c1⟩, ⟨A1, n1, c1⟩, ⟨A2, n2, c2⟩, 0, ⟨none, 0, 0⟩⟩ : MV) (rawM H ds ps gs) := ⟨rfl, rfl, hx.keep (hE.trans hEz), hx1.keep (hE.trans hEz), hx1.keep (hE.trans hEz), hx2.keep (hE.trans hEz), Rd.nil _ _⟩
  have cC := Lib.hid (impl_copyMuseum _ _ wz hr ⟨z0, z1, z1, z2, fun _ => rfl, l0, l1, l1, l2, Nat.zero_le _⟩)
  have HE := Lib.hid (hE.trans hEz)
  have Hwz : Hid (wz = (w.alloc (.cells #[.int .i64 H, .slice A0 n0 c0] 26)).alloc (.cells #[.int .i64 0, .slice none 0 0, .slice none 0 0, .slice none 0 0, .slice none 0 0, .int .i64 0, .slice none 0 0] 30)) := Lib.hid (by rw [hwz, hwb])
  have hzl : w.heap.size + 1 < wz.heap.size := by omega
  clear hwb hwz hE hEz hx hx1 hx2 hsb hsz k0 k1 hr z0 z1 z2
  obtain ⟨mm, hmm⟩ : ∃ mm, mm = rawM H ds ps gs := ⟨_, rfl⟩
  have HMM := Lib.hid hmm
  rw [← hmm] at cC
  go_enter Tryz.func23, Tryz.ntmps23
  go_wp2_with (go_at_call 42; refine (fun h : Hid _ => h.out) ?_)
  unfold Hid
  rw [← Hwz.out]
  refine cC.out.mono ?_
  rintro e w1 ⟨v1, hev, he1, ho1⟩
  obtain ⟨H1, ⟨A01, n01, c01⟩, ⟨A11, n11, c11⟩, ⟨A21, n21, c21⟩, ⟨A31, n31, c31⟩, day1, ⟨A41, n41, c41⟩⟩ := v1
  simp only [MV.val, MV.cells] at hev
  subst hev
  obtain ⟨w2, hw2⟩ : ∃ w2, w2 = w1.alloc (.cells #[.int .i64 H1, .slice A01 n01 c01, .slice A11 n11 c11, .slice A21 n21 c21, .slice A31 n31 c31, .int .i64 day1, .slice A41 n41 c41] 30) := ⟨_, rfl⟩
  have hB6 : Blk w2 w1.heap.size 30 #[.int .i64 H1, .slice A01 n01 c01, .slice A11 n11 c11, .slice A21 n21 c21, .slice A31 n31 c31, .int .i64 day1, .slice A41 n41 c41] := by rw [hw2]; exact Blk.new _ _ _
  have he2 : Ext w1 w2 := by rw [hw2]; exact (Ext.refl _).alloc _
  have HB6 := Lib.hid hB6
  have HO2 := Lib.hid (ho1.keep he2)
  have HE2 := Lib.hid (he1.trans he2)
  have HW2 := Lib.hid hw2
  have HCM := Lib.hid (impl_MuseumOk _ _ w2 HO2.out.rd)
  clear hB6 he2 ho1 he1 hw2 cC
  go_wp2_with (go_at_call 13; refine (fun h : Hid _ => h.out) ?_)
  unfold Hid
  rw [← HW2.out]
  refine HCM.out.mono ?_
  rintro e w3 ⟨rfl, he3⟩
  have HE3 := Lib.hid (HE2.out.trans he3)
  have HO3 := Lib.hid (HO2.out.keep he3)
  have HB63 := Lib.hid (HB6.out.keep he3)
  clear he3 HCM
  rw [HMM.out]
  have HO3 : Hid (MOwn w3 wz.heap.size (⟨H1, ⟨A01, n01, c01⟩, ⟨A11, n11, c11⟩, ⟨A21, n21, c21⟩, ⟨A31, n31, c31⟩, day1, ⟨A41, n41, c41⟩⟩ : MV) (rawM H ds ps gs)) := by rw [← HMM.out]; exact HO3
  cases hm : museumB (rawM H ds ps gs)
  case false =>
    have HF : Hid (museumB (rawM H ds ps gs) = false) := Lib.hid hm
    have HM : Hid (newM H ds ps gs = ⟨0, [], [], [], [], 0, []⟩) := Lib.hid (by rw [newM, hm]; rfl)
    clear hm hmm
    have Bz := Blk.keep HBz.out HE3.out
    have x0 := Bz.cellAt (i := 0) (by simp)
    have x1 := Bz.cellAt (i := 1) (by simp)
    have x2 := Bz.cellAt (i := 2) (by simp)
    have x3 := Bz.cellAt (i := 3) (by simp)
    have x4 := Bz.cellAt (i := 4) (by simp)
    have x5 := Bz.cellAt (i := 5) (by simp)
    have x6 := Bz.cellAt (i := 6) (by simp)
    have fz := Bz.free
    simp at x0 x1 x2 x3 x4 x5 x6
    have lz : w.heap.size + 1 < w3.heap.size := Bz.lt
    go_wp2_with fail
    obtain ⟨b6', k6⟩ := store7 Bz (.int .i64 0) (.slice none 0 0) (.slice none 0 0) (.slice none 0 0) (.slice none 0 0) (.int .i64 0) (.slice none 0 0)
    have hE6 := k6.ext (HE.out.trans HE3.out) (by omega)
    have hO6 : True := trivial
    generalize (((((((w3.setCell ⟨w.heap.size + 1, 0, none⟩ (.int .i64 0)).setCell ⟨w.heap.size + 1, 1, none⟩ (.slice none 0 0)).setCell ⟨w.heap.size + 1, 2, none⟩ (.slice none 0 0)).setCell ⟨w.heap.size + 1, 3, none⟩ (.slice none 0 0)).setCell ⟨w.heap.size + 1, 4, none⟩ (.slice none 0 0)).setCell ⟨w.heap.size + 1, 5, none⟩ (.int .i64 0)).setCell ⟨w.heap.size + 1, 6, none⟩ (.slice none 0 0)) = w6 at b6' k6 hO6 hE6 ⊢
    have t0 := b6'.cellAt (i := 0) (by simp)
    have t1 := b6'.cellAt (i := 1) (by simp)
    have t2 := b6'.cellAt (i := 2) (by simp)
    have t3 := b6'.cellAt (i := 3) (by simp)
    have t4 := b6'.cellAt (i := 4) (by simp)
    have t5 := b6'.cellAt (i := 5) (by simp)
    have t6 := b6'.cellAt (i := 6) (by simp)
    simp at t0 t1 t2 t3 t4 t5 t6
    refine bodyPost_ret (v := .tuple #[MV.val ⟨0, ⟨none, 0, 0⟩, ⟨none, 0, 0⟩, ⟨none, 0, 0⟩, ⟨none, 0, 0⟩, 0, ⟨none, 0, 0⟩⟩, .bool false]) (by simp [results, Tryz.results23, go_sem, t0, t1, t2, t3, t4, t5, t6, MV.val, MV.cells]) rfl ?_
    exact ⟨_, (by rw [HF.out]), hE6, by rw [HM.out]; exact zero_own _ _⟩
  case true =>
    have HF : Hid (museumB (rawM H ds ps gs) = true) := Lib.hid hm
    have HM : Hid (newM H ds ps gs = rawM H ds ps gs) := Lib.hid (by rw [newM, hm]; rfl)
    clear hm hmm
    have Bz := Blk.keep HBz.out HE3.out
    have x0 := Bz.cellAt (i := 0) (by simp)
    have x1 := Bz.cellAt (i := 1) (by simp)
    have x2 := Bz.cellAt (i := 2) (by simp)
    have x3 := Bz.cellAt (i := 3) (by simp)
    have x4 := Bz.cellAt (i := 4) (by simp)
    have x5 := Bz.cellAt (i := 5) (by simp)
    have x6 := Bz.cellAt (i := 6) (by simp)
    have fz := Bz.free
    simp at x0 x1 x2 x3 x4 x5 x6
    have y0 := HB63.out.cellAt (i := 0) (by simp)
    have y1 := HB63.out.cellAt (i := 1) (by simp)
    have y2 := HB63.out.cellAt (i := 2) (by simp)
    have y3 := HB63.out.cellAt (i := 3) (by simp)
    have y4 := HB63.out.cellAt (i := 4) (by simp)
    have y5 := HB63.out.cellAt (i := 5) (by simp)
    have y6 := HB63.out.cellAt (i := 6) (by simp)
    simp at y0 y1 y2 y3 y4 y5 y6
    have lz : w.heap.size + 1 < w3.heap.size := Bz.lt
    go_wp2_with fail
    obtain ⟨b6', k6⟩ := store7 Bz (.int .i64 H1) (.slice A01 n01 c01) (.slice A11 n11 c11) (.slice A21 n21 c21) (.slice A31 n31 c31) (.int .i64 day1) (.slice A41 n41 c41)
    have hE6 := k6.ext (HE.out.trans HE3.out) (by omega)
    have hO6 := (HO3.out.out k6 (by omega)).weak (show w.heap.size ≤ wz.heap.size by omega)
    generalize (((((((w3.setCell ⟨w.heap.size + 1, 0, none⟩ (.int .i64 H1)).setCell ⟨w.heap.size + 1, 1, none⟩ (.slice A01 n01 c01)).setCell ⟨w.heap.size + 1, 2, none⟩ (.slice A11 n11 c11)).setCell ⟨w.heap.size + 1, 3, none⟩ (.slice A21 n21 c21)).setCell ⟨w.heap.size + 1, 4, none⟩ (.slice A31 n31 c31)).setCell ⟨w.heap.size + 1, 5, none⟩ (.int .i64 day1)).setCell ⟨w.heap.size + 1, 6, none⟩ (.slice A41 n41 c41)) = w6 at b6' k6 hO6 hE6 ⊢
    have t0 := b6'.cellAt (i := 0) (by simp)
    have t1 := b6'.cellAt (i := 1) (by simp)
    have t2 := b6'.cellAt (i := 2) (by simp)
    have t3 := b6'.cellAt (i := 3) (by simp)
    have t4 := b6'.cellAt (i := 4) (by simp)
    have t5 := b6'.cellAt (i := 5) (by simp)
    have t6 := b6'.cellAt (i := 6) (by simp)
    simp at t0 t1 t2 t3 t4 t5 t6
    refine bodyPost_ret (v := .tuple #[MV.val ⟨H1, ⟨A01, n01, c01⟩, ⟨A11, n11, c11⟩, ⟨A21, n21, c21⟩, ⟨A31, n31, c31⟩, day1, ⟨A41, n41, c41⟩⟩, .bool true]) (by simp [results, Tryz.results23, go_sem, t0, t1, t2, t3, t4, t5, t6, MV.val, MV.cells]) rfl ?_
    exact ⟨_, (by rw [HF.out]), hE6, by rw [HM.out]; exact hO6⟩
end Go.Proofs.YtfmifllcbbfpoaaGreatDoor
/- Contract of the reference's NewMuseum; no condition but what stands at each theorem. -/
namespace Go.Proofs.YtfmifllcbbfpoaaGreatDoor
set_option linter.unusedSimpArgs false
set_option linter.unusedVariables false
open Go.RowKit Go.Sort
set_option maxRecDepth 100000 in
set_option maxHeartbeats 4000000 in
theorem spec_NewMuseum (H : Int) (A0 : Option Addr) (n0 c0 : Nat) (ds : List GDoor) (A1 : Option Addr) (n1 c1 : Nat) (ps : List Int) (A2 : Option Addr) (n2 c2 : Nat) (gs : List Int) (w : World)
    (hx : Rd w 2 A0 n0 (ds.flatMap GDoor.enc)) (hx1 : Rd w 1 A1 n1 (ps.flatMap ienc)) (hx2 : Rd w 1 A2 n2 (gs.flatMap ienc)) (z0 : A0 = none → c0 = 0) (z1 : A1 = none → c1 = 0) (z2 : A2 = none → c2 = 0) (l0 : n0 ≤ 1048576) (l1 : n1 ≤ 1048576) (l2 : n2 ≤ 1048576) :
    Calls Tryz.prog 102 #[.agg #[.int .i64 H, .slice A0 n0 c0], .slice A1 n1 c1, .slice A2 n2 c2] w (MPost (newM H ds ps gs) (.bool (museumB (rawM H ds ps gs))) w) := by
  obtain ⟨wb, hwb⟩ : ∃ wb, wb = w.alloc (.cells #[.int .i64 H, .slice A0 n0 c0] 26) := ⟨_, rfl⟩
  obtain ⟨hE, hsb, k0, k1⟩ := box2 w _ _ _ wb hwb
  obtain ⟨wz, hwz⟩ : ∃ wz, wz = wb.alloc (.cells #[.int .i64 0, .slice none 0 0, .slice none 0 0, .slice none 0 0, .slice none 0 0, .int .i64 0, .slice none 0 0] 30) := ⟨_, rfl⟩
  have hEz : Ext wb wz := by rw [hwz]; exact (Ext.refl wb).alloc _
  have hsz : wz.heap.size = w.heap.size + 1 + 1 := by rw [hwz]; simp [hsb]
  have HBz : Hid (Blk wz (w.heap.size + 1) 30 #[.int .i64 0, .slice none 0 0, .slice none 0 0, .slice none 0 0, .slice none 0 0, .int .i64 0, .slice none 0 0]) := Lib.hid (by rw [hwz, ← hsb]; exact Blk.new _ _ _)
  have hr : MRd wz (⟨H, ⟨A0, n0, c0⟩, ⟨A1, n1, c1⟩, ⟨A1, n1, c1⟩, ⟨A2, n2, c2⟩, 0, ⟨none, 0, 0⟩⟩ : MV) (rawM H ds ps gs) := ⟨rfl, rfl, hx.keep (hE.trans hEz), hx1.keep (hE.trans hEz), hx1.keep (hE.trans hEz), hx2.keep (hE.trans hEz), Rd.nil _ _⟩
  have cC := Lib.hid (spec_l38Copy _ _ wz hr ⟨z0, z1, z1, z2, fun _ => rfl, l0, l1, l1, l2, Nat.zero_le _⟩)
  have HE := Lib.hid (hE.trans hEz)
  have Hwz : Hid (wz = (w.alloc (.cells #[.int .i64 H, .slice A0 n0 c0] 26)).alloc (.cells #[.int .i64 0, .slice none 0 0, .slice none 0 0, .slice none 0 0, .slice none 0 0, .int .i64 0, .slice none 0 0] 30)) := Lib.hid (by rw [hwz, hwb])
  have hzl : w.heap.size + 1 < wz.heap.size := by omega
  clear hwb hwz hE hEz hx hx1 hx2 hsb hsz k0 k1 hr z0 z1 z2
  obtain ⟨mm, hmm⟩ : ∃ mm, mm = rawM H ds ps gs := ⟨_, rfl⟩
  have HMM := Lib.hid hmm
  rw [← hmm] at cC
  go_enter Tryz.func102, Tryz.ntmps102
  go_wp2_with (go_at_call 44; refine (fun h : Hid _ => h.out) ?_)
  unfold Hid
  rw [← Hwz.out]
  refine cC.out.mono ?_
  rintro e w1 ⟨v1, hev, he1, ho1⟩
  obtain ⟨H1, ⟨A01, n01, c01⟩, ⟨A11, n11, c11⟩, ⟨A21, n21, c21⟩, ⟨A31, n31, c31⟩, day1, ⟨A41, n41, c41⟩⟩ := v1
  simp only [MV.val, MV.cells] at hev
  subst hev
  obtain ⟨w2, hw2⟩ : ∃ w2, w2 = w1.alloc (.cells #[.int .i64 H1, .slice A01 n01 c01, .slice A11 n11 c11, .slice A21 n21 c21, .slice A31 n31 c31, .int .i64 day1, .slice A41 n41 c41] 30) := ⟨_, rfl⟩
  have hB6 : Blk w2 w1.heap.size 30 #[.int .i64 H1, .slice A01 n01 c01, .slice A11 n11 c11, .slice A21 n21 c21, .slice A31 n31 c31, .int .i64 day1, .slice A41 n41 c41] := by rw [hw2]; exact Blk.new _ _ _
  have he2 : Ext w1 w2 := by rw [hw2]; exact (Ext.refl _).alloc _
  have HB6 := Lib.hid hB6
  have HO2 := Lib.hid (ho1.keep he2)
  have HE2 := Lib.hid (he1.trans he2)
  have HW2 := Lib.hid hw2
  have HCM := Lib.hid (spec_MuseumOk _ _ w2 HO2.out.rd)
  clear hB6 he2 ho1 he1 hw2 cC
  go_wp2_with (go_at_call 45; refine (fun h : Hid _ => h.out) ?_)
  unfold Hid
  rw [← HW2.out]
  refine HCM.out.mono ?_
  rintro e w3 ⟨rfl, he3⟩
  have HE3 := Lib.hid (HE2.out.trans he3)
  have HO3 := Lib.hid (HO2.out.keep he3)
  have HB63 := Lib.hid (HB6.out.keep he3)
  clear he3 HCM
  rw [HMM.out]
  have HO3 : Hid (MOwn w3 wz.heap.size (⟨H1, ⟨A01, n01, c01⟩, ⟨A11, n11, c11⟩, ⟨A21, n21, c21⟩, ⟨A31, n31, c31⟩, day1, ⟨A41, n41, c41⟩⟩ : MV) (rawM H ds ps gs)) := by rw [← HMM.out]; exact HO3
  cases hm : museumB (rawM H ds ps gs)
  case false =>
    have HF : Hid (museumB (rawM H ds ps gs) = false) := Lib.hid hm
    have HM : Hid (newM H ds ps gs = ⟨0, [], [], [], [], 0, []⟩) := Lib.hid (by rw [newM, hm]; rfl)
    clear hm hmm
    have Bz := Blk.keep HBz.out HE3.out
    have x0 := Bz.cellAt (i := 0) (by simp)
    have x1 := Bz.cellAt (i := 1) (by simp)
    have x2 := Bz.cellAt (i := 2) (by simp)
    have x3 := Bz.cellAt (i := 3) (by simp)
    have x4 := Bz.cellAt (i := 4) (by simp)
    have x5 := Bz.cellAt (i := 5) (by simp)
    have x6 := Bz.cellAt (i := 6) (by simp)
    have fz := Bz.free
    simp at x0 x1 x2 x3 x4 x5 x6
    have lz : w.heap.size + 1 < w3.heap.size := Bz.lt
    go_wp2_with fail
    obtain ⟨b6', k6⟩ := store7 Bz (.int .i64 0) (.slice none 0 0) (.slice none 0 0) (.slice none 0 0) (.slice none 0 0) (.int .i64 0) (.slice none 0 0)
    have hE6 := k6.ext (HE.out.trans HE3.out) (by omega)
    have hO6 : True := trivial
    generalize (((((((w3.setCell ⟨w.heap.size + 1, 0, none⟩ (.int .i64 0)).setCell ⟨w.heap.size + 1, 1, none⟩ (.slice none 0 0)).setCell ⟨w.heap.size + 1, 2, none⟩ (.slice none 0 0)).setCell ⟨w.heap.size + 1, 3, none⟩ (.slice none 0 0)).setCell ⟨w.heap.size + 1, 4, none⟩ (.slice none 0 0)).setCell ⟨w.heap.size + 1, 5, none⟩ (.int .i64 0)).setCell ⟨w.heap.size + 1, 6, none⟩ (.slice none 0 0)) = w6 at b6' k6 hO6 hE6 ⊢
    have t0 := b6'.cellAt (i := 0) (by simp)
    have t1 := b6'.cellAt (i := 1) (by simp)
    have t2 := b6'.cellAt (i := 2) (by simp)
    have t3 := b6'.cellAt (i := 3) (by simp)
    have t4 := b6'.cellAt (i := 4) (by simp)
    have t5 := b6'.cellAt (i := 5) (by simp)
    have t6 := b6'.cellAt (i := 6) (by simp)
    simp at t0 t1 t2 t3 t4 t5 t6
    refine bodyPost_ret (v := .tuple #[MV.val ⟨0, ⟨none, 0, 0⟩, ⟨none, 0, 0⟩, ⟨none, 0, 0⟩, ⟨none, 0, 0⟩, 0, ⟨none, 0, 0⟩⟩, .bool false]) (by simp [results, Tryz.results102, go_sem, t0, t1, t2, t3, t4, t5, t6, MV.val, MV.cells]) rfl ?_
    exact ⟨_, (by rw [HF.out]), hE6, by rw [HM.out]; exact zero_own _ _⟩
  case true =>
    have HF : Hid (museumB (rawM H ds ps gs) = true) := Lib.hid hm
    have HM : Hid (newM H ds ps gs = rawM H ds ps gs) := Lib.hid (by rw [newM, hm]; rfl)
    clear hm hmm
    have Bz := Blk.keep HBz.out HE3.out
    have x0 := Bz.cellAt (i := 0) (by simp)
    have x1 := Bz.cellAt (i := 1) (by simp)
    have x2 := Bz.cellAt (i := 2) (by simp)
    have x3 := Bz.cellAt (i := 3) (by simp)
    have x4 := Bz.cellAt (i := 4) (by simp)
    have x5 := Bz.cellAt (i := 5) (by simp)
    have x6 := Bz.cellAt (i := 6) (by simp)
    have fz := Bz.free
    simp at x0 x1 x2 x3 x4 x5 x6
    have y0 := HB63.out.cellAt (i := 0) (by simp)
    have y1 := HB63.out.cellAt (i := 1) (by simp)
    have y2 := HB63.out.cellAt (i := 2) (by simp)
    have y3 := HB63.out.cellAt (i := 3) (by simp)
    have y4 := HB63.out.cellAt (i := 4) (by simp)
    have y5 := HB63.out.cellAt (i := 5) (by simp)
    have y6 := HB63.out.cellAt (i := 6) (by simp)
    simp at y0 y1 y2 y3 y4 y5 y6
    have lz : w.heap.size + 1 < w3.heap.size := Bz.lt
    go_wp2_with fail
    obtain ⟨b6', k6⟩ := store7 Bz (.int .i64 H1) (.slice A01 n01 c01) (.slice A11 n11 c11) (.slice A21 n21 c21) (.slice A31 n31 c31) (.int .i64 day1) (.slice A41 n41 c41)
    have hE6 := k6.ext (HE.out.trans HE3.out) (by omega)
    have hO6 := (HO3.out.out k6 (by omega)).weak (show w.heap.size ≤ wz.heap.size by omega)
    generalize (((((((w3.setCell ⟨w.heap.size + 1, 0, none⟩ (.int .i64 H1)).setCell ⟨w.heap.size + 1, 1, none⟩ (.slice A01 n01 c01)).setCell ⟨w.heap.size + 1, 2, none⟩ (.slice A11 n11 c11)).setCell ⟨w.heap.size + 1, 3, none⟩ (.slice A21 n21 c21)).setCell ⟨w.heap.size + 1, 4, none⟩ (.slice A31 n31 c31)).setCell ⟨w.heap.size + 1, 5, none⟩ (.int .i64 day1)).setCell ⟨w.heap.size + 1, 6, none⟩ (.slice A41 n41 c41)) = w6 at b6' k6 hO6 hE6 ⊢
    have t0 := b6'.cellAt (i := 0) (by simp)
    have t1 := b6'.cellAt (i := 1) (by simp)
    have t2 := b6'.cellAt (i := 2) (by simp)
    have t3 := b6'.cellAt (i := 3) (by simp)
    have t4 := b6'.cellAt (i := 4) (by simp)
    have t5 := b6'.cellAt (i := 5) (by simp)
    have t6 := b6'.cellAt (i := 6) (by simp)
    simp at t0 t1 t2 t3 t4 t5 t6
    refine bodyPost_ret (v := .tuple #[MV.val ⟨H1, ⟨A01, n01, c01⟩, ⟨A11, n11, c11⟩, ⟨A21, n21, c21⟩, ⟨A31, n31, c31⟩, day1, ⟨A41, n41, c41⟩⟩, .bool true]) (by simp [results, Tryz.results102, go_sem, t0, t1, t2, t3, t4, t5, t6, MV.val, MV.cells]) rfl ?_
    exact ⟨_, (by rw [HF.out]), hE6, by rw [HM.out]; exact hO6⟩
end Go.Proofs.YtfmifllcbbfpoaaGreatDoor
