/- Texts of one proof, laid one behind the other (S7, KW, SPb, SPc, H9); no condition but what stands at each theorem. -/
import Derived.Deep.AppendLies
import Derived.Deep.RegionHeld3
import Derived.Deep.DeepCutAuto
import Derived.Test.YtkelmeemblmggaaDoorZA
import Derived.Test.YtkelmeemblmggaaDoorZB
import Derived.Test.YtkelmeemblmggaaDoorZH
import Derived.Test.YtkelmeemblmggaaDoorZJ
/- The drawing of numbers from a code: the cursor's contracts; no condition but what stands at each theorem. -/
namespace Go.Proofs.YtkelmeemblmggaaDoor
set_option linter.unusedSimpArgs false
set_option linter.unusedVariables false
open Go.RowKit
def benc (i : Int) : List Value := [.int .u8 i]
theorem benc_len (x : Int) : (benc x).length = 1 := rfl
theorem benc_at {w : World} {A : Option Addr} {n k : Nat} {xs : List Int} (h : Rd w 1 A n (xs.flatMap benc)) (hk : k < n) :
    ∃ (b off : Nat) (x : Int), A = some ⟨b, off, none⟩ ∧ b < w.heap.size ∧ xs[k]? = some x ∧ w.cell? ⟨b, off + k, none⟩ = some (.int .u8 x) :=
  Rd.at1 (p := fun (s : Int) => .int .u8 s) (fun _ => rfl) h hk
theorem and255 (a : Int) : 0 ≤ bits .and .i64 a 255 ∧ bits .and .i64 a 255 ≤ 255 := by
  have h : ((BitVec.ofInt 64 a &&& BitVec.ofInt 64 255).toNat) ≤ 255 := by
    rw [BitVec.toNat_and]
    exact Nat.le_trans Nat.and_le_right (by decide)
  have e : bits .and .i64 a 255 = IntKind.i64.wrap ((BitVec.ofInt 64 a &&& BitVec.ofInt 64 255).toNat : Int) := rfl
  rw [e, IntKind.wrap_i64]
  omega
/-- The cursor at block p, over bytes that were there in world w0. -/
def Cur (w : World) (p : Nat) : Prop := ∃ (A : Option Addr) (n c : Nat) (xs : List Int) (i h : Int), Blk w p 85 #[.slice A n c, .int .i64 i, .int .i64 h] ∧ Rd w 1 A n (xs.flatMap benc) ∧ n ≤ 1048576 ∧ 0 ≤ i ∧ i ≤ n ∧ (∀ x ∈ xs, 0 ≤ x ∧ x ≤ 255) ∧ (0 < n → ∀ b off, A = some ⟨b, off, none⟩ → b < p)
theorem rd_set {w : World} {A : Option Addr} {m n p o : Nat} {xs : List Value} (h : Rd w m A n xs) (hA : 0 < n → ∀ b off, A = some ⟨b, off, none⟩ → b < p) (u : Value) : Rd (w.setCell ⟨p, o, none⟩ u) m A n xs :=
  ⟨h.1, h.2.1, fun hn => by
    obtain ⟨b, off, rfl, hb, hc⟩ := h.2.2 hn
    have hbp := hA hn b off rfl
    refine ⟨b, off, rfl, by simpa [World.setCell] using hb, fun j u' hu => ?_⟩
    rw [World.cell?_setCell_other _ _ _ _ (by intro e; injection e with e1; omega)]
    exact hc j u' hu⟩
theorem rd_grown {w w' : World} {A : Option Addr} {m n p : Nat} {xs : List Value} (h : Rd w m A n xs) (hA : 0 < n → ∀ b off, A = some ⟨b, off, none⟩ → b ≠ p) (g : w.grownBy w' (some p)) : Rd w' m A n xs :=
  ⟨h.1, h.2.1, fun hn => by
    obtain ⟨b, off, rfl, hb, hc⟩ := h.2.2 hn
    have hbp := hA hn b off rfl
    refine ⟨b, off, rfl, Nat.lt_of_lt_of_le hb g.size, fun j u' hu => ?_⟩
    have e : w'.heap[b]? = w.heap[b]? := g.block b hb (fun e => hbp (Option.some.inj e))
    rw [← hc j u' hu]
    simp only [World.cell?, e]⟩
theorem blk_grown {w w' : World} {g p : Nat} {t : TypeId} {cs : Array Value} (h : Blk w g t cs) (hp : g ≠ p) (k : w.grownBy w' (some p)) : Blk w' g t cs :=
  (k.block g h.lt (fun e => hp (Option.some.inj e))).trans h
theorem grown_drew {a w : World} {row : Option Nat} (h : a.grownBy w row) (n : Nat) : a.grownBy (w.drewN n) row := ⟨h.os, h.tape, h.output, h.size, h.block⟩
theorem grown_drew1 {a w : World} {row : Option Nat} (h : a.grownBy w row) : a.grownBy w.drew row := ⟨h.os, h.tape, h.output, h.size, h.block⟩
/-- A number from 0 to 255 has been drawn. -/
def DrawnByte (w : World) (p : Nat) (e : Ending) (w' : World) : Prop := ∃ r : Int, e = .returned (.int .i64 r) ∧ 0 ≤ r ∧ r ≤ 255 ∧ Cur w' p ∧ w.grownBy w' (some p)
theorem drawn_end {w w' : World} {p : Nat} {r : Int} (h0 : 0 ≤ r) (h1 : r ≤ 255) (hc : Cur w' p) (hg : w.grownBy w' (some p)) : DrawnByte w p (.returned (.int .i64 r)) w' := ⟨r, rfl, h0, h1, hc, hg⟩
set_option maxRecDepth 100000 in
set_option maxHeartbeats 1000000 in
theorem spec_l01Byte (p : Nat) (w : World) (hc : Cur w p) :
    Calls Tryd.prog 79 #[.pointer (some ⟨p, 0, none⟩)] w (DrawnByte w p) := by
  obtain ⟨A, n, c, xs, i, h, hb, hx, hn, hi0, hi1, hxs, hAp⟩ := hc
  have c0 := hb.cellAt (i := 0) (by simp)
  have c1 := hb.cellAt (i := 1) (by simp)
  have c2 := hb.cellAt (i := 2) (by simp)
  have f1 := hb.free 1
  have f2 := hb.free 2
  simp at c0 c1 c2
  have HB := Lib.hid hb
  clear hb
  go_enter Tryd.func79, Tryd.ntmps79
  go_wp2_with fail
  generalize wrap64 (wrap64 (h * 6364136223846793005) + 1442695040888963407) = h1
  clear c0 c1 c2 f1 f2
  have hb1 := HB.out.set 2 (.int .i64 h1)
  have hx1 := rd_set (o := 2) hx hAp (.int .i64 h1)
  have hg1 := grown_set (grown_refl w (some p)) 2 (.int .i64 h1)
  clear hx HB
  generalize w.setCell ⟨p, 2, none⟩ (.int .i64 h1) = w1 at hb1 hx1 hg1 ⊢
  simp only [List.setIfInBounds_toArray, List.set_cons_succ, List.set_cons_zero] at hb1
  have c0 := hb1.cellAt (i := 0) (by simp)
  have c1 := hb1.cellAt (i := 1) (by simp)
  have c2 := hb1.cellAt (i := 2) (by simp)
  have f1 := hb1.free 1
  simp at c0 c1 c2
  have HB := Lib.hid hb1
  have HX := Lib.hid hx1
  have HG := Lib.hid hg1
  clear hb1 hx1 hg1
  go_quiet (fail)
  go_wp2_with fail
  have hr := and255 (bits .xor .i64 (h1 / 8589934592) (h1 / 35184372088832))
  generalize bits .and .i64 (bits .xor .i64 (h1 / 8589934592) (h1 / 35184372088832)) 255 = r at hr ⊢
  have d0 : (w1.drewN nq).cell? ⟨p, 0, none⟩ = some (Value.slice A n c) := c0
  have d1 : (w1.drewN nq).cell? ⟨p, 1, none⟩ = some (Value.int IntKind.i64 i) := c1
  have d2 : (w1.drewN nq).frozen? ⟨p, 1, none⟩ = false := f1
  have b2 : Blk (w1.drewN nq) p 85 #[Value.slice A n c, Value.int IntKind.i64 i, Value.int IntKind.i64 h1] := HB.out
  have x2 : Rd (w1.drewN nq) 1 A n (xs.flatMap benc) := HX.out
  have g2 := grown_drew HG.out nq
  clear c0 c1 c2 f1 HB HX HG
  generalize w1.drewN nq = w2 at d0 d1 d2 b2 x2 g2 ⊢
  have HB := Lib.hid b2
  have HX := Lib.hid x2
  have HG := Lib.hid g2
  clear b2 x2 g2
  by_cases hin : i < (n : Int)
  · obtain ⟨b, off, x, rfl, hbs, hxk, hcell⟩ := benc_at HX.out (k := i.toNat) (by omega)
    have hin' : i < ((n : Nat) : Int) := hin
    have hx := hxs x (List.mem_of_getElem? hxk)
    have hq : wrap64 (r + x) = r + x := by unfold wrap64; omega
    have hw : wrap64 (i + 1) = i + 1 := by unfold wrap64; omega
    go_quiet (fail)
    go_wp2_with fail
    have e0 : (w2.drewN nq).cell? ⟨p, 0, none⟩ = some (Value.slice (some ⟨b, off, none⟩) n c) := d0
    have e1 : (w2.drewN nq).cell? ⟨p, 1, none⟩ = some (Value.int IntKind.i64 i) := d1
    have e2 : (w2.drewN nq).frozen? ⟨p, 1, none⟩ = false := d2
    have e3 : (w2.drewN nq).cell? ⟨b, off + i.toNat, none⟩ = some (.int .u8 x) := hcell
    have b3 : Blk (w2.drewN nq) p 85 #[Value.slice (some ⟨b, off, none⟩) n c, Value.int IntKind.i64 i, Value.int IntKind.i64 h1] := HB.out
    have x3 : Rd (w2.drewN nq) 1 (some ⟨b, off, none⟩) n (xs.flatMap benc) := HX.out
    have g3 := grown_drew HG.out nq
    clear d0 d1 d2 hcell HB HX HG
    generalize w2.drewN nq = w3 at e0 e1 e2 e3 b3 x3 g3 ⊢
    have HB := Lib.hid b3
    have HX := Lib.hid x3
    have HG := Lib.hid g3
    clear b3 x3 g3
    go_quiet (fail)
    go_wp2_with fail
    have hr2 := and255 (r + x)
    have hb4 := HB.out.set 1 (.int .i64 (i + 1))
    have hx4 := rd_set (o := 1) HX.out hAp (.int .i64 (i + 1))
    have hg4 := grown_set (grown_drew HG.out nq) 1 (.int .i64 (i + 1))
    simp only [List.setIfInBounds_toArray, List.set_cons_succ, List.set_cons_zero] at hb4
    go_ret
    exact drawn_end hr2.1 hr2.2 ⟨_, n, c, xs, i + 1, h1, hb4, hx4, hn, by omega, by omega, hxs, hAp⟩ hg4
  · go_quiet (fail)
    go_wp2_with fail
    go_ret
    exact drawn_end hr.1 hr.2 ⟨A, n, c, xs, i, h1, HB.out, HX.out, hn, hi0, hi1, hxs, hAp⟩ (grown_drew HG.out _)
/-- A number has been drawn that lies below n, or is 0. -/
def DrawnBelow (n : Int) (w : World) (p : Nat) (e : Ending) (w' : World) : Prop := ∃ r : Int, e = .returned (.int .i64 r) ∧ 0 ≤ r ∧ (r < n ∨ r = 0) ∧ Cur w' p ∧ w.grownBy w' (some p)
set_option maxRecDepth 100000 in
set_option maxHeartbeats 1000000 in
theorem spec_l01Below (p : Nat) (n : Int) (w : World) (hc : Cur w p) :
    Calls Tryd.prog 59 #[.pointer (some ⟨p, 0, none⟩), .int .i64 n] w (DrawnBelow n w p) := by
  have hg := grown_refl w (some p)
  by_cases h0 : n ≤ 0
  · go_enter Tryd.func59, Tryd.ntmps59
    go_wp2_with fail
    go_ret
    exact ⟨0, rfl, by omega, .inr rfl, hc, grown_refl _ _⟩
  · by_cases h1 : n ≤ 256
    · go_enter Tryd.func59, Tryd.ntmps59
      go_wp2_with (go_at_call 79; refine (spec_l01Byte p _ (by assumption)).mono ?_; rintro e w1 ⟨r, rfl, hr0, hr1, hc1, hg1⟩; replace hg := grown_trans hg hg1; clear hg1)
      go_ret
      exact ⟨_, rfl, Int.emod_nonneg _ (by omega), .inl (Int.emod_lt_of_pos _ (by omega)), hc1, hg⟩
    · go_enter Tryd.func59, Tryd.ntmps59
      go_wp2_with (go_at_call 79; refine (spec_l01Byte p _ (by assumption)).mono ?_; rintro e w1 ⟨r, rfl, hr0, hr1, hc1, hg1⟩; replace hg := grown_trans hg hg1; clear hg1)
      go_ret
      exact ⟨_, rfl, Int.emod_nonneg _ (by omega), .inl (Int.emod_lt_of_pos _ (by omega)), hc1, hg⟩
theorem heap_size_setCell (w : World) (a : Addr) (u : Value) : (w.setCell a u).heap.size = w.heap.size := by simp [World.setCell]
theorem heap_size_alloc (w : World) (o : Obj) : (w.alloc o).heap.size = w.heap.size + 1 := by simp
theorem heap_size_drew (w : World) : w.drew.heap.size = w.heap.size := rfl
theorem heap_size_drewN (w : World) (n : Nat) : (w.drewN n).heap.size = w.heap.size := rfl
theorem Cur.lt {w : World} {p : Nat} (h : Cur w p) : p < w.heap.size := by
  obtain ⟨_, _, _, _, _, _, hb, _⟩ := h
  exact hb.lt
theorem cur_ext {w w' : World} {p : Nat} (h : Cur w p) (e : Ext w w') : Cur w' p := by
  obtain ⟨A, n, c, xs, i, h, hb, hx, r⟩ := h
  exact ⟨A, n, c, xs, i, h, hb.keep e, hx.keep e, r⟩
theorem cur_alloc {w : World} {p : Nat} (h : Cur w p) (o : Obj) : Cur (w.alloc o) p := cur_ext h ((Ext.refl w).alloc o)
theorem cur_drew {w : World} {p : Nat} (h : Cur w p) : Cur w.drew p := h
theorem cur_drewN {w : World} {p : Nat} (h : Cur w p) (n : Nat) : Cur (w.drewN n) p := h
theorem cur_grown {w w' : World} {p : Nat} {row : Option Nat} (h : Cur w p) (g : w.grownBy w' row) (hr : ∀ k, row = some k → p < k) : Cur w' p := by
  obtain ⟨A, n, c, xs, i, h, hb, hx, hn, h0, h1, h2, hA⟩ := h
  refine ⟨A, n, c, xs, i, h, (g.block p hb.lt (fun e => ?_)).trans hb, ⟨hx.1, hx.2.1, fun hn0 => ?_⟩, hn, h0, h1, h2, hA⟩
  · exact absurd (hr p e.symm) (by omega)
  · obtain ⟨b, off, rfl, hbs, hc⟩ := hx.2.2 hn0
    have hbp := hA hn0 b off rfl
    refine ⟨b, off, rfl, Nat.lt_of_lt_of_le hbs g.size, fun j u' hu => ?_⟩
    have e : w'.heap[b]? = w.heap[b]? := g.block b hbs (fun e => absurd (hr b e.symm) (by omega))
    rw [← hc j u' hu]
    simp only [World.cell?, e]
theorem cur_far {w : World} {p q : Nat} (h : Cur w p) (hq : p < q) {o : Nat} (u : Value) : Cur (w.setCell ⟨q, o, none⟩ u) p :=
  cur_grown h (grown_set (grown_refl w (some q)) o u) (fun k hk => by injection hk with hk; omega)
theorem grown_alloc {a w : World} {row : Option Nat} (h : a.grownBy w row) (o : Obj) : a.grownBy (w.alloc o) row :=
  ⟨h.os, h.tape, h.output, Nat.le_trans h.size (by rw [heap_size_alloc]; omega), fun i hi hn => (Below.block (((Ext.refl w).alloc o).below) i (Nat.lt_of_lt_of_le hi h.size)).trans (h.block i hi hn)⟩
theorem grown_fresh {a w : World} {row : Option Nat} (h : a.grownBy w row) {q o : Nat} (hq : a.heap.size ≤ q) (u : Value) : a.grownBy (w.setCell ⟨q, o, none⟩ u) row :=
  ⟨h.os, h.tape, h.output, by rw [heap_size_setCell]; exact h.size, fun i hi hn => (Below.heap_setCell w _ u i (fun e => by dsimp only at e; omega)).trans (h.block i hi hn)⟩
theorem grown_extD {a w w' : World} {row : Option Nat} (h : a.grownBy w row) (e : Ext w w') : a.grownBy w' row :=
  grown_trans h ⟨e.os, e.tape, e.output, e.size, fun i hi _ => e.block i hi⟩
theorem grown_cell {w w' : World} {p : Nat} (g : w.grownBy w' (some p)) (b : Nat) (hp : b ≠ p) (hb : b < w.heap.size) (o : Nat) : w'.cell? ⟨b, o, none⟩ = w.cell? ⟨b, o, none⟩ := by
  have e : w'.heap[b]? = w.heap[b]? := g.block b hb (fun e => hp (Option.some.inj e))
  simp only [World.cell?, e]
theorem grown_frozen {w w' : World} {p : Nat} (g : w.grownBy w' (some p)) (b : Nat) (hp : b ≠ p) (hb : b < w.heap.size) (o : Nat) : w'.frozen? ⟨b, o, none⟩ = w.frozen? ⟨b, o, none⟩ := by
  have e : w'.heap[b]? = w.heap[b]? := g.block b hb (fun e => hp (Option.some.inj e))
  simp only [World.frozen?, e]
theorem own_grown {w w' : World} {base p : Nat} {e : TypeId} {m n : Nat} {v : Value} {L : List Value} (h : w.ownsRow base e m v n L) (hp : p < base) (g : w.grownBy w' (some p)) : w'.ownsRow base e m v n L := by
  refine h.kept g ?_
  cases hv : v.ownBlock with
  | none => exact .inl rfl
  | some q =>
    refine .inr fun e => ?_
    have := (h.lt q hv).1
    injection e with e
    omega
theorem grown_over {a w w' : World} {r0 row : Option Nat} (h : a.grownBy w r0) (g : w.grownBy w' row) (hr : ∀ k, row = some k → a.heap.size ≤ k) : a.grownBy w' r0 :=
  ⟨g.os.trans h.os, g.tape.trans h.tape, g.output.trans h.output, Nat.le_trans h.size g.size, fun i hi hn => (g.block i (Nat.lt_of_lt_of_le hi h.size) (fun e => absurd (hr i e.symm) (by omega))).trans (h.block i hi hn)⟩
theorem append1g {P : Program} {ops : Array Oper} {rest : List Oper} {o : Oper} {a : Act} {Q : Exit → Act → World → Prop} {t e : TypeId} {m : Nat} (hE : EI P t e m) (hgd : o.guard = none) (s x : Operand)
    (ho : o.op = .call { callee := .builtin .append, args := #[s, x], argTypes := #[t, t] }) (base : Nat) (W : World) (T : TypeId) (v : Value) (n : Nat) (xs : List Value) (hs : a.eval s = v) (hown : W.ownsRow base e m v n xs)
    (news : List Value) (hx : a.eval x = .slice (some ⟨W.heap.size, 0, none⟩) 1 1) (hl : news.length = m) (h1 : ∀ u ∈ news, u.oneCell' = true) (hn : n ≤ 1073741824) (hbase : base ≤ W.heap.size)
    (h : ∀ v' w1 row, w1.ownsRow base e m v' (n + 1) (xs ++ news) → W.grownBy w1 row → (∀ k, row = some k → base ≤ k) → wpList P ops Q rest (a.put o.dst v') w1) : wpList P ops Q (o :: rest) a (W.alloc (.cells news.toArray T)) := by
  obtain ⟨i, z, hu, hi, hz, hsz, hby, hzs, h0⟩ := hE
  refine wpList_append_own _ hgd s x t ho base e i z m i.bytes hu hi hz hsz rfl hzs h0 v n xs hs (hown.alloc _) ⟨W.heap.size, 0, none⟩ 1 1 news hx (by omega) ?_ h1 (by unfold maxLen; omega) ?_ (by simp; omega) ?_
  · intro j u hu'
    rw [add_none, Nat.zero_add, World.cell?_alloc_new]
    simpa using hu'
  · have := Nat.mul_le_mul_left (n + 1) hby
    omega
  · intro v' w1 ho' hg _
    exact h v' w1 _ ho' (grown_trans (grown_alloc (grown_refl W _) _) hg) (fun k hk => (hown.lt k hk).1)
theorem new_cur {A : Option Addr} {n c : Nat} {xs : List Int} {w wr : World} (hx : Rd w 1 A n (xs.flatMap benc)) (hxs : ∀ x ∈ xs, 0 ≤ x ∧ x ≤ 255) (hn1 : n ≤ 1048576) (hb : Ext w wr) (z : Int) :
    ∃ p, Ending.returned (.pointer (some ⟨wr.heap.size, 0, none⟩)) = Ending.returned (.pointer (some ⟨p, 0, none⟩)) ∧ w.heap.size ≤ p ∧
      Cur (wr.alloc (.cells #[.slice A n c, .int .i64 0, .int .i64 z] 85)) p ∧ Ext w (wr.alloc (.cells #[.slice A n c, .int .i64 0, .int .i64 z] 85)) := by
  have e : Ext w (wr.alloc (.cells #[.slice A n c, .int .i64 0, .int .i64 z] 85)) := Ext.alloc hb _
  refine ⟨_, rfl, hb.size, ⟨A, n, c, xs, 0, z, Blk.new _ _ _, hx.keep e, hn1, by omega, by omega, hxs, fun h0 b off hA => ?_⟩, e⟩
  obtain ⟨b', off', hA', hb', _⟩ := hx.2.2 h0
  rw [hA] at hA'
  injection hA' with h1
  injection h1 with h1
  subst h1
  exact Nat.lt_of_lt_of_le hb' hb.size
set_option maxRecDepth 100000 in
set_option maxHeartbeats 1000000 in
theorem spec_l01New (A : Option Addr) (n c : Nat) (xs : List Int) (w : World) (hx : Rd w 1 A n (xs.flatMap benc)) (hxs : ∀ x ∈ xs, 0 ≤ x ∧ x ≤ 255) (hn1 : n ≤ 1048576) :
    Calls Tryd.prog 35 #[.slice A n c] w fun e w' => ∃ p, e = .returned (.pointer (some ⟨p, 0, none⟩)) ∧ w.heap.size ≤ p ∧ Cur w' p ∧ Ext w w' := by
  have hn := hx.2.1
  go_enter Tryd.func35, Tryd.ntmps35
  go_wp2_with fail
  go_loopw [3, 4] (fun o i wr => ∃ (k : Nat) (z : Int), k ≤ n ∧ i = .int .i64 k ∧ o = .int .i64 z ∧ Ext w wr) (fun _ i _ => n - (intOf i).toNat)
  case atStart => exact ⟨0, _, Nat.zero_le _, rfl, rfl, Ext.refl _⟩
  case round =>
    obtain ⟨k, z, hk, rfl, rfl, hb⟩ := hrel
    by_cases hlt : k < n
    · by_cases h4 : (k : Int) < 4000
      · obtain ⟨b, off, x, rfl, hbs, hxk, h0⟩ := benc_at (hx.keep hb) hlt
        have HB := Lib.hid hb
        have hbd := hxs x (List.mem_of_getElem? hxk)
        clear hxk hb
        go_wp2_with fail
        go_roundw
        case rel => exact ⟨k + 1, _, by omega, by go_num, rfl, HB.out⟩
        case measure => simp [intOf]; omega
      · go_wp2_with fail
        go_ret
        exact new_cur hx hxs hn1 hb z
    · go_wp2_with fail
      go_ret
      exact new_cur hx hxs hn1 hb z
end Go.Proofs.YtkelmeemblmggaaDoor
/- An append, and where the grown row lies: in its old block, or in a new one; no condition but what stands at each theorem. -/
namespace Go.Proofs.YtkelmeemblmggaaDoor
set_option linter.unusedSimpArgs false
set_option linter.unusedVariables false
open Go.RowKit
/-- Where an append's answer lies. -/
theorem append_where {P : Program} {w : World} {base : Nat} {t ty e : TypeId} {i : TypeInfo} {z : Value} (ht : P.underlying t = some (.slice e)) (hi : P.info? e = some i) (hz : i.zero = some z)
    {v : Value} {n : Nat} {xs : List Value} (hown : w.ownsRow base e i.size v n xs)
    {a : Addr} {m c : Nat} {news : List Value} (hl : news.length = m * i.size) (hnews : ∀ j u, news[j]? = some u → w.cell? (a.add j) = some u) (h1 : ∀ u ∈ news, u.oneCell' = true) (hm : 0 < m)
    (h63 : n + m ≤ maxLen) (hbytes : (n + m) * i.bytes ≤ 140737488355328) {v' : Value} {w' : World}
    (hr : (Builtin.append_ #[t, t] ty #[v, .slice (some a) m c]).run P w = .ok v' w') : v'.ownBlock = v.ownBlock ∨ v'.ownBlock = some w.heap.size := by
  have hsmall : n + m ≤ 9223372036854775807 := by simp only [maxLen] at h63; omega
  rcases hown.2 with ⟨rfl, rfl⟩ | ⟨g, cap, cur, rfl, hbg, hg, hnc, hcm, hcs, htake⟩
  · have h := run_append_nil (P := P) w t ty e i z ht hi hz a m c news hl hnews (by omega) (by omega) (by have hb := hbytes; simp only [Nat.zero_add] at hb; omega)
    rw [h] at hr
    injection hr with h1 h2
    right
    rw [← h1]
    rfl
  · by_cases hroom : n + m ≤ cap
    · have hfit : n * i.size + news.length ≤ cur.size := by rw [hl, hcs, ← Nat.add_mul]; exact Nat.mul_le_mul_right _ hroom
      have h := run_append_room (P := P) w t ty e i ht hi g n cap cur hg a m c news hl hnews h1 hroom hfit
      rw [h] at hr
      injection hr with h1 h2
      left
      rw [← h1]
      rfl
    · have holds : ∀ j u, xs[j]? = some u → w.cell? ((⟨g, 0, none⟩ : Addr).add j) = some u := hown.cells (g := g) rfl
      have h := run_append_grow (P := P) w t ty e i z ht hi hz ⟨g, 0, none⟩ n cap xs hown.1 holds a m c news hl hnews (by omega) (by omega) (growslice_fits (by omega) hbytes)
      rw [h] at hr
      injection hr with h1 h2
      right
      rw [← h1]
      rfl
/-- One element is appended: what append1H says, and where the row lies. -/
theorem append1W {P : Program} {ops : Array Oper} {rest : List Oper} {o : Oper} {a : Act} {Q : Exit → Act → World → Prop} {t e : TypeId} {m : Nat} (hE : EI P t e m) (hgd : o.guard = none) (s x : Operand)
    (ho : o.op = .call { callee := .builtin .append, args := #[s, x], argTypes := #[t, t] }) (base : Nat) (W : World) (T : TypeId) (v : Value) (n : Nat) (xs : List Value) (hs : a.eval s = v) (hown : W.ownsRow base e m v n xs)
    (news : List Value) (hx : a.eval x = .slice (some ⟨W.heap.size, 0, none⟩) 1 1) (hl : news.length = m) (h1 : ∀ u ∈ news, u.oneCell' = true) (hn : n ≤ 1073741824) (hbase : base ≤ W.heap.size)
    (h : ∀ v' w1, w1.ownsRow base e m v' (n + 1) (xs ++ news) → W.grownBy w1 v.ownBlock → (∀ g, v'.ownBlock = some g → v.ownBlock = some g ∨ W.heap.size ≤ g) → wpList P ops Q rest (a.put o.dst v') w1) : wpList P ops Q (o :: rest) a (W.alloc (.cells news.toArray T)) := by
  obtain ⟨i, z, hu, hi, hz, hsz, hby, hzs, h0⟩ := hE
  subst hsz
  have hnews : ∀ j u, news[j]? = some u → (W.alloc (.cells news.toArray T)).cell? ((⟨W.heap.size, 0, none⟩ : Addr).add j) = some u := by
    intro j u hu'
    rw [add_none, Nat.zero_add, World.cell?_alloc_new]
    simpa using hu'
  have hbytes : (n + 1) * i.bytes ≤ 140737488355328 := by
    have := Nat.mul_le_mul_left (n + 1) hby
    omega
  have h63 : n + 1 ≤ maxLen := by unfold maxLen; omega
  refine wpList_plain hgd fun _ hK => ?_
  obtain ⟨v', w', hr, h2, h3, h4⟩ := run_append_own (P := P) (W.alloc (.cells news.toArray T)) base t o.type e i z i.size i.bytes hu hi hz rfl rfl hzs h0 v n xs (hown.alloc _) ⟨W.heap.size, 0, none⟩ 1 1 news (by omega) hnews h1 h63 hbytes (by simp; omega)
  have hw := append_where hu hi hz (hown.alloc _) (by omega) hnews h1 (by omega) h63 hbytes hr
  unfold Oper.wp execOp
  simp only [ho, resolve, invoke, builtin, Sem.run_bind, Sem.run_pure, Result.andThen_ok, List.map_toArray, List.map_cons, List.map_nil, hs, hx, hr]
  refine hK _ _ (h v' w' h2 (grown_trans (grown_alloc (grown_refl W _) _) h3) fun g hg => ?_)
  rcases hw with e' | e'
  · exact .inl (by rw [← e', hg])
  · rw [hg] at e'
    injection e' with e'
    right
    rw [e']
    simp
/-- Two rows of one's own do not share a block. -/
def ApartW (a b : Value) : Prop := ∀ g, a.ownBlock = some g → b.ownBlock ≠ some g
theorem ApartW.symm {a b : Value} (h : ApartW a b) : ApartW b a := fun g k l => h g l k
theorem own_apartW {w w' : World} {base : Nat} {e : TypeId} {m n : Nat} {v v' : Value} {L : List Value} (h : w.ownsRow base e m v n L) (a : ApartW v v') (hg : w.grownBy w' v'.ownBlock) : w'.ownsRow base e m v n L := by
  refine h.kept hg ?_
  cases hv : v.ownBlock with
  | none => exact .inl rfl
  | some g => exact .inr fun e => a g hv e.symm
/-- A row that was grown, in its old block or in a new one, is still apart from another. -/
theorem ApartW.grown {w : World} {base : Nat} {e : TypeId} {m n : Nat} {v v' u : Value} {L : List Value} (h : ApartW u v) (hu : w.ownsRow base e m u n L) (hv : ∀ g, v'.ownBlock = some g → v.ownBlock = some g ∨ w.heap.size ≤ g) : ApartW u v' := by
  intro g hg hg'
  rcases hv g hg' with h1 | h1
  · exact h g hg h1
  · have := (hu.lt g hg).2
    omega
theorem ext_apartW {a w w' : World} {v : Value} {base : Nat} {e : TypeId} {m n : Nat} {L : List Value} (h : Ext a w) (ho : w.ownsRow base e m v n L) (hl : a.heap.size ≤ base) (hg : w.grownBy w' v.ownBlock) : Ext a w' :=
  h.grown hg fun k hk => Nat.le_trans hl (ho.lt k hk).1
/-- One element is appended in a drawn region: what the row reads as, how the world grew, where the row lies. -/
theorem step_appW {P : Program} {ops : Array Oper} {o : Oper} {a : Act} {K : Act → World → Prop} {Q : Exit → Act → World → Prop} {E : Prop} {t e : TypeId} {m : Nat} (hE : EI P t e m) (hgd : o.guard = none) (s x : Operand)
    (ho : o.op = .call { callee := .builtin .append, args := #[s, x], argTypes := #[t, t] }) (base : Nat) (W W1 : World) (T : TypeId) (news : List Value) (hW : W1 = W.alloc (.cells news.toArray T)) (v : Value) (n : Nat) (xs : List Value) (hs : a.eval s = v) (hown : W.ownsRow base e m v n xs)
    (hx : a.eval x = .slice (some ⟨W.heap.size, 0, none⟩) 1 1) (hl : news.length = m) (h1 : ∀ u ∈ news, u.oneCell' = true) (hn : n ≤ 1073741824) (hbase : base ≤ W.heap.size)
    (h : ∀ g cap w1, w1.ownsRow base e m (.slice (some ⟨g, 0, none⟩) (n + 1) cap) (n + 1) (xs ++ news) → W.grownBy w1 v.ownBlock → (∀ g', (Value.slice (some ⟨g, 0, none⟩) (n + 1) cap).ownBlock = some g' → v.ownBlock = some g' ∨ W.heap.size ≤ g') → K (a.put o.dst (.slice (some ⟨g, 0, none⟩) (n + 1) cap)) w1) :
    if Region.wanted o (yielded ops a.tmps) = true then Oper.wp P o a W1 K Q else E := by
  subst hW
  obtain ⟨i, z, hu, hi, hz, hsz, hby, hzs, h0⟩ := hE
  refine step_append_lies (W.alloc (.cells news.toArray T)) hgd s x t ho base e i z m i.bytes hu hi hz hsz rfl hzs h0 v n xs hs (hown.alloc _) ⟨W.heap.size, 0, none⟩ 1 1 news hx (by omega) ?_ h1 (by omega) (by unfold maxLen; omega) ?_ (by simp; omega) _ rfl ?_
  · intro j u hu'
    rw [add_none, Nat.zero_add, World.cell?_alloc_new]
    simpa using hu'
  · have := Nat.mul_le_mul_left (n + 1) hby
    omega
  · intro g cap w' ho' hg hv _
    refine h g cap w' ho' (grown_trans (grown_alloc (grown_refl W _) _) hg) fun g' hg' => ?_
    have e1 : g = g' := by simpa [Value.ownBlock] using hg'
    subst e1
    rcases hv with hv | hv
    · exact .inl hv
    · right; rw [hv]; simp
end Go.Proofs.YtkelmeemblmggaaDoor
/- FormatMuseum of the reference; no condition but what stands at each theorem. -/
namespace Go.Proofs.YtkelmeemblmggaaDoor
set_option linter.unusedSimpArgs false
set_option linter.unusedVariables false
open Go.RowKit Go.Sort
theorem brok_ent : ∀ (rs : List GEntry) (s : Int) (p : Option Int) (k : Nat), brokF s p k rs = -1 → ∀ e ∈ rs, (0 ≤ e.m ∧ e.m ≤ 1000000) ∧ (0 ≤ e.s ∧ e.s ≤ 1000002) ∧ e.x.size ≤ 200
  | [], _, _, _, _, _, h => by cases h
  | e :: r, s, p, k, h, y, hy => by
    rw [brokF] at h
    split at h
    · omega
    · rename_i hc
      simp only [Bool.or_eq_true, not_or, decide_eq_true_eq, bne_iff_ne, ne_eq, Decidable.not_not] at hc
      rcases List.mem_cons.1 hy with rfl | hy
      · have h1 := hc.1
        have h4 := hc.2.1
        have h5 := sealB_bd s y.m y.x
        unfold sealB at h1
        split at h1
        · rename_i h2
          simp only [inB, Bool.and_eq_true, decide_eq_true_eq] at h2
          have h3 := h2.2.2
          unfold digest at h3
          split at h3
          · exact ⟨h2.2.1, by omega, by assumption⟩
          · omega
        · omega
      · exact brok_ent r _ _ _ h y hy
theorem museum_ent {m : GMuseum} (h : museumB m = true) : ∀ e ∈ m.rs, (0 ≤ e.m ∧ e.m ≤ 1000000) ∧ (0 ≤ e.s ∧ e.s ≤ 1000002) ∧ e.x.size ≤ 200 := by
  have h7 := (museumB_parts.1 h).2.2.2.2.2.2.1
  unfold sealedB brokenI at h7
  simp only [Bool.and_eq_true, decide_eq_true_eq, beq_iff_eq] at h7
  exact brok_ent _ _ _ _ h7.2
theorem halls_bd {H : Int} {ds : List GDoor} {xs : List Int} (h : hallsB H ds xs = true) : ∀ x ∈ xs, 0 ≤ x ∧ x ≤ 1000000 := by
  unfold hallsB at h
  simp only [Bool.and_eq_true, List.all_eq_true] at h
  intro x hx
  have h1 := (hallB_iff h.2).1 (h.1 x hx)
  have h2 := house_HG h.2
  omega
def sv (l : List ByteArray) : List Value := l.map Value.string
theorem sv_len (l : List ByteArray) : (sv l).length = l.length := by simp [sv]
theorem sv_snoc (l : List ByteArray) (x : ByteArray) : sv (l ++ [x]) = sv l ++ [.string x] := by simp [sv]
theorem one_strF (s : ByteArray) : ∀ u ∈ [Value.string s], u.oneCell' = true := by intro u hu; simp at hu; subst hu; rfl
theorem ei_SF : EI Tryd.prog 30 9 1 := ei_of Tryd.underlying30 (by omega) (by kernel_rfl)
def FmtPost (m : GMuseum) (w : World) (e : Ending) (w' : World) : Prop := ∃ v, e = .returned v ∧ Ext w w' ∧ w'.ownsRow w.heap.size 9 1 v (fmtL m).length (sv (fmtL m))
def head3 (m : GMuseum) : List ByteArray := [numsF wObj m.ps, numsF wGua m.gs, numsF wDay [m.d]]
theorem fmt_yes {m : GMuseum} (h : museumB m = true) : fmtL m = head3 m ++ m.rs.map entT := by unfold fmtL; rw [if_pos h]; rfl
theorem fmt_no {m : GMuseum} (h : museumB m = false) : fmtL m = [] := by unfold fmtL; rw [h]; rfl
set_option maxRecDepth 100000 in
set_option maxHeartbeats 2000000 in
theorem spec_l39Line (s : ByteArray) (A : Option Addr) (n c : Nat) (xs : List Int) (w : World) (hx : Rd w 1 A n (xs.flatMap ienc)) (hn : n ≤ 6) (hs : s.size ≤ 8) (hxs : Hid (∀ x ∈ xs, 0 ≤ x ∧ x ≤ 1000000)) :
    Calls Tryd.prog 21 #[.string s, .slice A n c] w fun e w' => e = .returned (.string (numsF s xs)) ∧ Ext w w' := by
  have hl := Lib.hid (hx.len ienc_len (by omega))
  have HX := Lib.hid hx
  clear hx
  go_enter Tryd.func21, Tryd.ntmps21
  go_wp2_with fail
  go_loopw [0, 5] (fun s' i wr => ∃ (k : Nat) (t : ByteArray), k ≤ n ∧ i = .int .i64 k ∧ s' = .string t ∧ t.size ≤ 8 + 30 * k ∧ Hid (numsF s xs = numsF t (xs.drop k)) ∧ Ext w wr) (fun _ i _ => n - (intOf i).toNat)
  case atStart => exact ⟨0, s, Nat.zero_le _, rfl, rfl, by omega, by unfold Hid; simp, Ext.refl _⟩
  case round =>
    obtain ⟨k, t, hk, rfl, rfl, ht, hz, hb⟩ := hrel
    by_cases hlt : k < n
    · obtain ⟨b, off, x, rfl, hbs, hxk, p0⟩ := ienc_at (HX.out.keep hb) hlt
      obtain ⟨hx0, hx1⟩ := hxs.out x (List.mem_of_getElem? hxk)
      obtain ⟨z, rfl⟩ := Int.eq_ofNat_of_zero_le hx0
      have HD := Lib.hid (drop_cons hxk)
      have HB := Lib.hid hb
      have hsz := itext_size z (by omega) (by omega)
      have HT : Hid (numsF s xs = numsF (t ++ sp1 ++ itext z) (xs.drop (k + 1))) := by unfold Hid; rw [hz.out, HD.out, numsF]
      have hts : (t ++ sp1 ++ itext z).size ≤ 8 + 30 * (k + 1) := by
        rw [ByteArray.size_append, ByteArray.size_append]
        have : sp1.size = 1 := rfl
        omega
      obtain ⟨T, hT⟩ : ∃ T, T = itext z := ⟨_, rfl⟩
      have hF := Lib.hid (fun w => spec_FormatInt z w (by omega))
      rw [← hT] at hsz HT hts hF
      clear hT hb hxk
      go_wp2_with (go_at_call 22; refine (fun h : Hid _ => h.out) ?_)
      unfold Hid
      refine (hF.out _).mono ?_
      rintro e w1 ⟨rfl, h1⟩
      have HB1 := Lib.hid (HB.out.trans h1)
      clear h1
      go_wp2_with fail
      go_roundw
      case rel => exact ⟨k + 1, t ++ sp1 ++ T, by omega, by go_num, by first | rfl | (rw [ByteArray.append_assoc]; rfl), hts, HT, HB1.out⟩
      case measure => simp [intOf]; omega
    · obtain rfl : n = k := by omega
      have HT : Hid (numsF s xs = t) := by unfold Hid; rw [hz.out, drop_nil (by rw [hl.out]; omega)]; rfl
      have HB := Lib.hid hb
      clear hb
      go_wp2_with fail
      go_ret
      exact ⟨by rw [HT.out]; rfl, HB.out⟩
set_option maxRecDepth 100000 in
set_option maxHeartbeats 4000000 in
theorem spec_FormatMuseum (v : MV) (m : GMuseum) (w : World) (hx : MRd w v m) :
    Calls Tryd.prog 6 #[v.val] w (FmtPost m w) := by
  obtain ⟨wb, hwb⟩ : ∃ wb, wb = w.alloc (.cells v.cells 37) := ⟨_, rfl⟩
  have hbx := MBox.new hwb
  have hE : Ext w wb := by rw [hwb]; exact (Ext.refl w).alloc _
  have HX := Lib.hid (hx.keep hE)
  have cM := Lib.hid (spec_MuseumOk v m wb HX.out)
  obtain ⟨Hh, ⟨A0, n0, c0⟩, ⟨A1, n1, c1⟩, ⟨A2, n2, c2⟩, ⟨A3, n3, c3⟩, day, ⟨A4, n4, c4⟩⟩ := v
  have hxp : Hid (Rd wb 1 A2 n2 (m.ps.flatMap ienc)) := HX.out.rp
  have hxg : Hid (Rd wb 1 A3 n3 (m.gs.flatMap ienc)) := HX.out.rg
  have hxr : Hid (Rd wb 3 A4 n4 (m.rs.flatMap GEntry.enc)) := HX.out.rr
  have hnr : n4 ≤ 9223372036854775807 := hxr.out.2.1
  have hlp := Lib.hid (hxp.out.len ienc_len (by omega))
  have hlg := Lib.hid (hxg.out.len ienc_len (by omega))
  have hl4 := Lib.hid (hxr.out.len GEntry.len (by omega))
  have hday : day = m.d := hx.ed
  subst hday
  have HE := Lib.hid hE
  have Hwb : Hid (wb = w.alloc (.cells #[.int .i64 Hh, .slice A0 n0 c0, .slice A1 n1 c1, .slice A2 n2 c2, .slice A3 n3 c3, .int .i64 m.d, .slice A4 n4 c4] 37)) := hwb
  have HB := Lib.hid hbx
  have hbl := hbx.lt
  have hsb : wb.heap.size = w.heap.size + 1 := by rw [hwb]; simp
  clear hE hwb hbx hx
  show Calls Tryd.prog 6 #[.agg #[.int .i64 Hh, .slice A0 n0 c0, .slice A1 n1 c1, .slice A2 n2 c2, .slice A3 n3 c3, .int .i64 m.d, .slice A4 n4 c4]] w _
  obtain ⟨b0, b1, b2, b3, b4, b5, b6⟩ := HB.out.cell
  simp only at b0 b1 b2 b3 b4 b5 b6
  cases hm : museumB m
  case false =>
    rw [hm] at cM
    have HF := Lib.hid (fmt_no hm)
    clear hm
    go_enter Tryd.func6, Tryd.ntmps6
    go_wp2_with (go_at_call 20; refine (fun h : Hid _ => h.out) ?_)
    unfold Hid
    rw [← Hwb.out]
    refine cM.out.mono ?_
    rintro e w1 ⟨rfl, h1⟩
    have HE1 := Lib.hid (HE.out.trans h1)
    have z1 := h1.size
    clear h1 b0 b1 b2 b3 b4 b5 b6
    go_wp2_with fail
    go_ret
    unfold FmtPost
    rw [HF.out]
    exact ⟨_, rfl, HE1.out.alloc _, own_empty w1 w.heap.size 9 1 (by omega)⟩
  rw [hm] at cM
  have hEnt := Lib.hid (museum_ent hm)
  have HF := Lib.hid (fmt_yes hm)
  have hpp := museumB_parts.1 hm
  have hbp := Lib.hid (halls_bd (xs := m.ps) (by have := hpp.2.1; unfold placesB at this; simp only [Bool.and_eq_true] at this; exact this.2))
  have hbg := Lib.hid (halls_bd hpp.2.2.2.2.1)
  have hd : 0 ≤ m.d ∧ m.d ≤ 1000000 := by have := hpp.2.2.2.2.2.1; simpa [inB] using this
  have hn4 : n4 ≤ 30 := by (have := sealed_len hpp.2.2.2.2.2.2.1; have := hl4.out; omega)
  have hn2 : n2 ≤ 6 := by
    have := hpp.2.1
    unfold placesB at this
    simp only [Bool.and_eq_true, decide_eq_true_eq] at this
    have h2 := hlp.out
    omega
  have hn3 : n3 ≤ 6 := by (have := hpp.2.2.2.1; have := hlg.out; omega)
  clear hm hpp
  go_enter Tryd.func6, Tryd.ntmps6
  go_wp2_with (go_at_call 20; refine (fun h : Hid _ => h.out) ?_)
  unfold Hid
  rw [← Hwb.out]
  refine cM.out.mono ?_
  rintro e w1 ⟨rfl, h1⟩
  have HE1 := Lib.hid h1
  have z1 := h1.size
  clear h1 b0 b1 b2 b3 b4 b5 b6
  obtain ⟨b0, b1, b2, b3, b4, b5, b6⟩ := (HB.out.keep HE1.out).cell
  simp only at b0 b1 b2 b3 b4 b5 b6
  go_upto_region 3 with fail
  obtain ⟨dz, hdz⟩ := Int.eq_ofNat_of_zero_le hd.1
  have hds := itext_size m.d (by omega) (by omega)
  have cO := Lib.hid (fun W (he : Ext wb W) => spec_l39Line ⟨#[111, 98, 106, 101, 99, 116, 115]⟩ A2 n2 c2 m.ps W (hxp.out.keep he) hn2 (by decide) hbp)
  have cG := Lib.hid (fun W (he : Ext wb W) => spec_l39Line ⟨#[103, 117, 97, 114, 100, 115]⟩ A3 n3 c3 m.gs W (hxg.out.keep he) hn3 (by decide) hbg)
  have cD : Hid (∀ W, Calls Tryd.prog 22 #[.int .i64 m.d] W fun e w' => e = .returned (.string (itext m.d)) ∧ Ext W w') := Lib.hid (fun W => by rw [hdz]; exact spec_FormatInt dz W (by omega))
  clear hdz
  obtain ⟨TO, hTO⟩ : ∃ T, T = numsF wObj m.ps := ⟨_, rfl⟩
  obtain ⟨TG, hTG⟩ : ∃ T, T = numsF wGua m.gs := ⟨_, rfl⟩
  obtain ⟨TD, hTD⟩ : ∃ T, T = itext m.d := ⟨_, rfl⟩
  rw [show numsF ⟨#[111, 98, 106, 101, 99, 116, 115]⟩ m.ps = TO from hTO.symm] at cO
  rw [show numsF ⟨#[103, 117, 97, 114, 100, 115]⟩ m.gs = TG from hTG.symm] at cG
  rw [← hTD] at cD hds
  have H3 : Hid (head3 m = [TO, TG, ⟨#[100, 97, 121, 32]⟩ ++ TD]) := Lib.hid (by
    unfold head3
    rw [← hTO, ← hTG, hTD]
    rfl)
  have ga : ∀ W, (Op.stringOp .add ⟨#[100, 97, 121, 32]⟩ TD).run Tryd.prog W = .ok (.string (⟨#[100, 97, 121, 32]⟩ ++ TD)) W := fun W => run_string_add_sum W _ _ (by (have : (⟨#[100, 97, 121, 32]⟩ : ByteArray).size = 4 := rfl); omega)
  have gb : ¬ 9223372036854775807 < (⟨#[100, 97, 121, 32]⟩ : ByteArray).size + TD.size := by (have : (⟨#[100, 97, 121, 32]⟩ : ByteArray).size = 4 := rfl); omega
  have gc : ¬ 9223372036854775807 < 4 + TD.size := by omega
  clear hTO hTG hTD
  go_cut [3] (fun p wx => Hid (wx.ownsRow wb.heap.size 9 1 p 3 (sv (head3 m))) ∧ Hid (Ext wb wx))
  case first =>
    go_region_held3 (fun w' => w'.cell? ⟨w.heap.size, 3, none⟩ = some (.slice A2 n2 c2) ∧ w'.cell? ⟨w.heap.size, 4, none⟩ = some (.slice A3 n3 c3) ∧ w'.cell? ⟨w.heap.size, 5, none⟩ = some (.int .i64 m.d)) (go_keep) (first
      | (go_at_call_of 21 (Value.string ⟨#[111, 98, 106, 101, 99, 116, 115]⟩); refine (cO.out _ (HE1.out.trans (Ext.refl _).drew)).mono ?_; rintro e wA ⟨rfl, hA⟩; have eA : Ext w1 wA := (Ext.trans (Ext.refl _).drew hA); obtain ⟨-, -, -, r3, r4, r5, -⟩ := (HB.out.keep (HE1.out.trans eA)).cell; simp only at r3 r4 r5)
      | (go_at_call_of 21 (Value.string ⟨#[103, 117, 97, 114, 100, 115]⟩); refine (cG.out _ (HE1.out.trans eA)).mono ?_; rintro e wB ⟨rfl, hB⟩; have eB : Ext w1 wB := (eA.trans hB); obtain ⟨-, -, -, s3, s4, s5, -⟩ := (HB.out.keep (HE1.out.trans eB)).cell; simp only at s3 s4 s5)
      | (go_at_call 22; refine (cD.out _).mono ?_; rintro e wC ⟨rfl, hC⟩; have eC : Ext w1 wC := (eB.trans hC); obtain ⟨-, -, -, t3, t4, t5, -⟩ := (HB.out.keep (HE1.out.trans eC)).cell; simp only at t3 t4 t5))
    all_goals go_wp2_with fail
    all_goals go_meet
    all_goals exact ⟨Lib.hid (by rw [H3.out]; exact own_of_blk (by (have := (HE1.out.trans eC).size); omega) (Blk.new _ _ _) (by simp) (by unfold maxLen; omega) rfl), Lib.hid ((HE1.out.trans eC).alloc _)⟩
  case rest =>
  obtain ⟨HO3, HE3⟩ := hcut
  obtain ⟨w3, rfl⟩ : ∃ x, x = wc := ⟨_, rfl⟩
  clear b0 b1 b2 b3 b4 b5 b6
  obtain ⟨b0, b1, b2, b3, b4, b5, b6⟩ := (HB.out.keep HE3.out).cell
  simp only at b0 b1 b2 b3 b4 b5 b6
  have hL3 : (head3 m).length = 3 := rfl
  go_wp2_with fail
  go_loopw [3, 4] (fun o i wr => ∃ k : Nat, k ≤ n4 ∧ i = .int .i64 k ∧ Hid (wr.ownsRow wb.heap.size 9 1 o (3 + k) (sv (head3 m ++ (m.rs.take k).map entT))) ∧ Hid (Ext wb wr)) (fun _ i _ => n4 - (intOf i).toNat)
  case atStart => exact ⟨0, Nat.zero_le _, rfl, by unfold Hid; simpa using HO3.out, HE3⟩
  case round =>
    obtain ⟨k, hk, rfl, hown, hb⟩ := hrel
    clear b0 b1 b2 b3 b4 b5 b6
    by_cases hlt : k < n4
    · obtain ⟨b, off, x, rfl, hbs, hxk, p0, p1, p2⟩ := GEntry.at_ (hxr.out.keep hb.out) hlt
      obtain ⟨⟨hm0, hm1⟩, ⟨hs0, hs1⟩, hxs⟩ := hEnt.out x (List.mem_of_getElem? hxk)
      have HN : Hid (sv (head3 m ++ (m.rs.take (k + 1)).map entT) = sv (head3 m ++ (m.rs.take k).map entT) ++ [.string (entT x)]) := Lib.hid (by
        rw [take_snoc hxk, List.map_append, ← List.append_assoc]; exact sv_snoc _ _)
      obtain ⟨b0, b1, b2, b3, b4, b5, b6⟩ := (HB.out.keep hb.out).cell
      simp only at b0 b1 b2 b3 b4 b5 b6
      obtain ⟨we, hwe⟩ : ∃ we, we = wr.alloc (.cells #[.int .i64 x.m, .string x.x, .int .i64 x.s] 51) := ⟨_, rfl⟩
      have hBe : Blk we wr.heap.size 51 #[.int .i64 x.m, .string x.x, .int .i64 x.s] := by rw [hwe]; exact Blk.new _ _ _
      have hee : Ext wr we := by rw [hwe]; exact (Ext.refl _).alloc _
      have hsz1 := itext_size x.m (by omega) (by omega)
      have hsz2 := itext_size x.s (by omega) (by omega)
      have cF1 : Hid (∀ W, Ext we W → Calls Tryd.prog 22 #[.int .i64 x.m] W fun e w' => e = .returned (.string (itext x.m)) ∧ Ext W w') := Lib.hid (fun W _ => by
        obtain ⟨z, hz⟩ := Int.eq_ofNat_of_zero_le hm0
        rw [hz]; exact spec_FormatInt z W (by omega))
      have cF2 : Hid (∀ W, Ext we W → Calls Tryd.prog 22 #[.int .i64 x.s] W fun e w' => e = .returned (.string (itext x.s)) ∧ Ext W w') := Lib.hid (fun W _ => by
        obtain ⟨z, hz⟩ := Int.eq_ofNat_of_zero_le hs0
        rw [hz]; exact spec_FormatInt z W (by omega))
      obtain ⟨T1, hT1⟩ : ∃ T, T = itext x.m := ⟨_, rfl⟩
      obtain ⟨T2, hT2⟩ : ∃ T, T = itext x.s := ⟨_, rfl⟩
      rw [← hT1] at cF1 hsz1
      rw [← hT2] at cF2 hsz2
      have HLn : Hid (entT x = T1 ++ sp1 ++ x.x ++ sp1 ++ T2) := Lib.hid (by rw [hT1, hT2]; rfl)
      have s1 : (⟨#[32]⟩ : ByteArray).size = 1 := rfl
      have g1 : ∀ W, (Op.stringOp .add T1 ⟨#[32]⟩).run Tryd.prog W = .ok (.string (T1 ++ ⟨#[32]⟩)) W := fun W => run_string_add_sum W _ _ (by omega)
      have g2 : ∀ W, (Op.stringOp .add (T1 ++ ⟨#[32]⟩) x.x).run Tryd.prog W = .ok (.string (T1 ++ ⟨#[32]⟩ ++ x.x)) W := fun W => run_string_add_sum W _ _ (by rw [ByteArray.size_append]; omega)
      have g3 : ∀ W, (Op.stringOp .add (T1 ++ ⟨#[32]⟩ ++ x.x) ⟨#[32]⟩).run Tryd.prog W = .ok (.string (T1 ++ ⟨#[32]⟩ ++ x.x ++ ⟨#[32]⟩)) W := fun W => run_string_add_sum W _ _ (by rw [ByteArray.size_append, ByteArray.size_append]; omega)
      have g4 : ∀ W, (Op.stringOp .add (T1 ++ ⟨#[32]⟩ ++ x.x ++ ⟨#[32]⟩) T2).run Tryd.prog W = .ok (.string (T1 ++ ⟨#[32]⟩ ++ x.x ++ ⟨#[32]⟩ ++ T2)) W := fun W => run_string_add_sum W _ _ (by rw [ByteArray.size_append, ByteArray.size_append, ByteArray.size_append]; omega)
      have i1 : ¬ 9223372036854775807 < T1.size + 1 := by omega
      have i2 : ¬ 9223372036854775807 < T1.size + 1 + x.x.size := by omega
      have i3 : ¬ 9223372036854775807 < T1.size + 1 + x.x.size + 1 := by omega
      have i4 : ¬ 9223372036854775807 < T1.size + 1 + x.x.size + 1 + T2.size := by omega
      have z0 := hBe.cellAt (i := 0) (by simp)
      have z1 := hBe.cellAt (i := 1) (by simp)
      have z2 := hBe.cellAt (i := 2) (by simp)
      simp at z0 z1 z2
      have HBe := Lib.hid hBe
      have Hee := Lib.hid hee
      have Hwe := Lib.hid hwe
      have hwbr : wb.heap.size ≤ wr.heap.size := hb.out.size
      clear hBe hee hxk hwe hT1 hT2
      go_upto_region 8 with fail
      rw [← Hwe.out]
      have HOe := Lib.hid (own_keep hown.out Hee.out)
      go_region_held3 (fun w' => w'.cell? ⟨wr.heap.size, 0, none⟩ = some (.int .i64 x.m) ∧ w'.cell? ⟨wr.heap.size, 1, none⟩ = some (.string x.x) ∧ w'.cell? ⟨wr.heap.size, 2, none⟩ = some (.int .i64 x.s)) (go_keep) (first
        | (go_at_call_of 22 (Value.int .i64 x.m); refine (cF1.out _ (Ext.refl _).drew).mono ?_; rintro e wA ⟨rfl, hA⟩; have eA : Ext we wA := (Ext.trans (Ext.refl _).drew hA); have kA := HBe.out.keep eA; have y0 := kA.cellAt (i := 0) (by simp); have y1 := kA.cellAt (i := 1) (by simp); have y2 := kA.cellAt (i := 2) (by simp); simp at y0 y1 y2)
        | (go_at_call_of 22 (Value.int .i64 x.s); refine (cF2.out _ eA).mono ?_; rintro e wB ⟨rfl, hB⟩; have eB : Ext we wB := (eA.trans hB); have kB := HBe.out.keep eB; have x0 := kB.cellAt (i := 0) (by simp); have x1 := kB.cellAt (i := 1) (by simp); have x2 := kB.cellAt (i := 2) (by simp); simp at x0 x1 x2; have zB := (Hee.out.trans eB).size)
        | (refine step_appW ei_SF (by rfl) _ _ (by rfl) wb.heap.size wB _ _ [.string (T1 ++ ⟨#[32]⟩ ++ x.x ++ ⟨#[32]⟩ ++ T2)] (by rfl) _ (3 + k) _ (by rfl) (own_keep HOe.out eB) (by rfl) rfl (one_strF _) (by omega) (by omega) ?_; intro g5 c5 w5 ho5 hg5 hv5; have e5 := ext_apartW (hb.out.trans (Hee.out.trans eB)) (own_keep HOe.out eB) (Nat.le_refl _) hg5; have B5 : Blk w5 wr.heap.size 51 #[.int .i64 x.m, .string x.x, .int .i64 x.s] := (hg5.block wr.heap.size kB.lt (fun e => by have := (hown.out.lt _ e.symm).2; omega)).trans kB; have v0 := B5.cellAt (i := 0) (by simp); have v1 := B5.cellAt (i := 1) (by simp); have v2 := B5.cellAt (i := 2) (by simp); simp at v0 v1 v2))
      have HO5 := Lib.hid ho5
      have HE5 := Lib.hid e5
      clear ho5 e5 hg5 hv5
      go_wp2_with fail
      go_roundw
      case rel => exact ⟨k + 1, by omega, by go_num, by unfold Hid; rw [HN.out, HLn.out]; exact HO5.out, HE5⟩
      case measure => simp [intOf]; omega
    · obtain rfl : n4 = k := by omega
      rw [List.take_of_length_le (by rw [hl4.out]; omega), ← HF.out] at hown
      have hfl : (fmtL m).length = 3 + n4 := by rw [HF.out, List.length_append, List.length_map, hl4.out]; rfl
      have HFL := Lib.hid hfl
      clear hfl
      obtain ⟨b0, b1, b2, b3, b4, b5, b6⟩ := (HB.out.keep hb.out).cell
      simp only at b0 b1 b2 b3 b4 b5 b6
      go_wp2_with fail
      go_ret
      exact ⟨_, rfl, HE.out.trans hb.out, by rw [HFL.out]; exact own_weak hown.out (by omega)⟩
end Go.Proofs.YtkelmeemblmggaaDoor
/- FormatMuseum of the program; no condition but what stands at each theorem. -/
namespace Go.Proofs.YtkelmeemblmggaaDoor
set_option linter.unusedSimpArgs false
set_option linter.unusedVariables false
open Go.RowKit Go.Sort
set_option maxRecDepth 100000 in
set_option maxHeartbeats 4000000 in
theorem impl_FormatMuseum (v : MV) (m : GMuseum) (w : World) (hx : MRd w v m) (htab : Hid (Lib.TabIs Tryd.prog w "internal/strconv.uint64pow10" .u64 Lib.pow10Tab)) :
    Calls Tryd.prog 8 #[v.val] w (FmtPost m w) := by
  obtain ⟨wb, hwb⟩ : ∃ wb, wb = w.alloc (.cells v.cells 37) := ⟨_, rfl⟩
  have hbx := MBox.new hwb
  have hE : Ext w wb := by rw [hwb]; exact (Ext.refl w).alloc _
  have HX := Lib.hid (hx.keep hE)
  have HTB := Lib.hid (tab_ext htab.out hE)
  have cM := Lib.hid (impl_MuseumOk v m wb HX.out)
  obtain ⟨Hh, ⟨A0, n0, c0⟩, ⟨A1, n1, c1⟩, ⟨A2, n2, c2⟩, ⟨A3, n3, c3⟩, day, ⟨A4, n4, c4⟩⟩ := v
  have hxp : Hid (Rd wb 1 A2 n2 (m.ps.flatMap ienc)) := HX.out.rp
  have hxg : Hid (Rd wb 1 A3 n3 (m.gs.flatMap ienc)) := HX.out.rg
  have hxr : Hid (Rd wb 3 A4 n4 (m.rs.flatMap GEntry.enc)) := HX.out.rr
  have hnr : n4 ≤ 9223372036854775807 := hxr.out.2.1
  have hlp := Lib.hid (hxp.out.len ienc_len (by omega))
  have hlg := Lib.hid (hxg.out.len ienc_len (by omega))
  have hl4 := Lib.hid (hxr.out.len GEntry.len (by omega))
  have hday : day = m.d := hx.ed
  subst hday
  have HE := Lib.hid hE
  have Hwb : Hid (wb = w.alloc (.cells #[.int .i64 Hh, .slice A0 n0 c0, .slice A1 n1 c1, .slice A2 n2 c2, .slice A3 n3 c3, .int .i64 m.d, .slice A4 n4 c4] 37)) := hwb
  have HB := Lib.hid hbx
  have hbl := hbx.lt
  have hsb : wb.heap.size = w.heap.size + 1 := by rw [hwb]; simp
  clear hE hwb hbx hx
  show Calls Tryd.prog 8 #[.agg #[.int .i64 Hh, .slice A0 n0 c0, .slice A1 n1 c1, .slice A2 n2 c2, .slice A3 n3 c3, .int .i64 m.d, .slice A4 n4 c4]] w _
  obtain ⟨b0, b1, b2, b3, b4, b5, b6⟩ := HB.out.cell
  simp only at b0 b1 b2 b3 b4 b5 b6
  cases hm : museumB m
  case false =>
    rw [hm] at cM
    have HF := Lib.hid (fmt_no hm)
    clear hm
    go_enter Tryd.func8, Tryd.ntmps8
    go_wp2_with (go_at_call 26; refine (fun h : Hid _ => h.out) ?_)
    unfold Hid
    rw [← Hwb.out]
    refine cM.out.mono ?_
    rintro e w1 ⟨rfl, h1⟩
    have HE1 := Lib.hid (HE.out.trans h1)
    have z1 := h1.size
    clear h1 b0 b1 b2 b3 b4 b5 b6
    go_wp2_with fail
    go_ret
    unfold FmtPost
    rw [HF.out]
    exact ⟨_, rfl, HE1.out, World.ownsRow_nil _ _ _ _⟩
  rw [hm] at cM
  have hEnt := Lib.hid (museum_ent hm)
  have HF := Lib.hid (fmt_yes hm)
  have hpp := museumB_parts.1 hm
  have hbp := Lib.hid (halls_bd (xs := m.ps) (by have := hpp.2.1; unfold placesB at this; simp only [Bool.and_eq_true] at this; exact this.2))
  have hbg := Lib.hid (halls_bd hpp.2.2.2.2.1)
  have hd : 0 ≤ m.d ∧ m.d ≤ 1000000 := by have := hpp.2.2.2.2.2.1; simpa [inB] using this
  have hn4 : n4 ≤ 30 := by (have := sealed_len hpp.2.2.2.2.2.2.1; have := hl4.out; omega)
  have hn2 : n2 ≤ 6 := by
    have := hpp.2.1
    unfold placesB at this
    simp only [Bool.and_eq_true, decide_eq_true_eq] at this
    have h2 := hlp.out
    omega
  have hn3 : n3 ≤ 6 := by (have := hpp.2.2.2.1; have := hlg.out; omega)
  clear hm hpp
  go_enter Tryd.func8, Tryd.ntmps8
  go_wp2_with (go_at_call 26; refine (fun h : Hid _ => h.out) ?_)
  unfold Hid
  rw [← Hwb.out]
  refine cM.out.mono ?_
  rintro e w1 ⟨rfl, h1⟩
  have HE1 := Lib.hid h1
  have z1 := h1.size
  clear h1 b0 b1 b2 b3 b4 b5 b6
  obtain ⟨b0, b1, b2, b3, b4, b5, b6⟩ := (HB.out.keep HE1.out).cell
  simp only at b0 b1 b2 b3 b4 b5 b6
  go_upto_region 3 with fail
  have cO := Lib.hid (fun W (he : Ext wb W) => impl_withNumbersG ⟨#[111, 98, 106, 101, 99, 116, 115]⟩ A2 n2 c2 m.ps W (hxp.out.keep he) hn2 (by decide) hbp (Lib.hid (tab_ext HTB.out he)))
  have cG := Lib.hid (fun W (he : Ext wb W) => impl_withNumbersG ⟨#[103, 117, 97, 114, 100, 115]⟩ A3 n3 c3 m.gs W (hxg.out.keep he) hn3 (by decide) hbg (Lib.hid (tab_ext HTB.out he)))
  have hdd : Hid (∀ x ∈ [m.d], 0 ≤ x ∧ x ≤ 1000000) := Lib.hid (fun x hx => by rw [List.mem_singleton] at hx; subst hx; exact hd)
  have cD := Lib.hid (fun W B (hr : Rd W 1 (some ⟨B, 0, none⟩) 1 ([m.d].flatMap ienc)) (he : Ext wb W) => impl_withNumbersG ⟨#[100, 97, 121]⟩ (some ⟨B, 0, none⟩) 1 1 [m.d] W hr (by omega) (by decide) hdd (Lib.hid (tab_ext HTB.out he)))
  obtain ⟨TO, hTO⟩ : ∃ T, T = numsF wObj m.ps := ⟨_, rfl⟩
  obtain ⟨TG, hTG⟩ : ∃ T, T = numsF wGua m.gs := ⟨_, rfl⟩
  obtain ⟨TD, hTD⟩ : ∃ T, T = numsF wDay [m.d] := ⟨_, rfl⟩
  rw [show numsF ⟨#[111, 98, 106, 101, 99, 116, 115]⟩ m.ps = TO from hTO.symm] at cO
  rw [show numsF ⟨#[103, 117, 97, 114, 100, 115]⟩ m.gs = TG from hTG.symm] at cG
  rw [show numsF ⟨#[100, 97, 121]⟩ [m.d] = TD from hTD.symm] at cD
  have H3 : Hid (head3 m = [TO, TG, TD]) := Lib.hid (by
    unfold head3
    rw [← hTO, ← hTG, ← hTD])
  clear hTO hTG hTD
  go_cut [3] (fun p wx => Hid (wx.ownsRow wb.heap.size 9 1 p 3 (sv (head3 m))) ∧ Hid (Ext wb wx))
  case first =>
    go_region_held3 (fun w' => w'.cell? ⟨w.heap.size, 3, none⟩ = some (.slice A2 n2 c2) ∧ w'.cell? ⟨w.heap.size, 4, none⟩ = some (.slice A3 n3 c3) ∧ w'.cell? ⟨w.heap.size, 5, none⟩ = some (.int .i64 m.d)) (go_keep) (first
      | (go_at_call_of 27 (Value.string ⟨#[111, 98, 106, 101, 99, 116, 115]⟩); refine (cO.out _ (by first | exact HE1.out.trans (Ext.refl _).drew | exact HE1.out.trans ((Ext.refl _).alloc _).drew)).mono ?_; rintro e wA ⟨rfl, hA⟩; have eA : Ext w1 wA := (by first | exact Ext.trans (Ext.refl _).drew hA | exact Ext.trans ((Ext.refl _).alloc _).drew hA); obtain ⟨-, -, -, r3, r4, r5, -⟩ := (HB.out.keep (HE1.out.trans eA)).cell; simp only at r3 r4 r5)
      | (go_at_call_of 27 (Value.string ⟨#[103, 117, 97, 114, 100, 115]⟩); refine (cG.out _ (by first | exact HE1.out.trans eA | exact (HE1.out.trans eA).alloc _)).mono ?_; rintro e wB ⟨rfl, hB⟩; have eB : Ext w1 wB := (by first | exact eA.trans hB | exact Ext.trans (eA.alloc _) hB); obtain ⟨-, -, -, s3, s4, s5, -⟩ := (HB.out.keep (HE1.out.trans eB)).cell; simp only at s3 s4 s5)
      | (go_at_call_of 27 (Value.string ⟨#[100, 97, 121]⟩); refine (cD.out _ _ (by first | exact rd_lit wB 3 [m.d] (by simp) | exact (rd_lit wA 3 [m.d] (by simp)).keep hB | exact (rd_lit w1 3 [m.d] (by simp)).keep (Ext.trans (Ext.trans (Ext.refl _).drew hA) hB)) (by first | exact HE1.out.trans eB | exact (HE1.out.trans eB).alloc _)).mono ?_; rintro e wC ⟨rfl, hC⟩; have eC : Ext w1 wC := (by first | exact eB.trans hC | exact Ext.trans (eB.alloc _) hC); obtain ⟨-, -, -, t3, t4, t5, -⟩ := (HB.out.keep (HE1.out.trans eC)).cell; simp only at t3 t4 t5))
    all_goals go_wp2_with fail
    all_goals go_meet
    all_goals exact ⟨Lib.hid (by rw [H3.out]; exact own_of_blk (by (have := (HE1.out.trans eC).size); omega) (Blk.new _ _ _) (by simp) (by unfold maxLen; omega) rfl), Lib.hid ((HE1.out.trans eC).alloc _)⟩
  case rest =>
  obtain ⟨HO3, HE3⟩ := hcut
  obtain ⟨w3, rfl⟩ : ∃ x, x = wc := ⟨_, rfl⟩
  clear b0 b1 b2 b3 b4 b5 b6
  obtain ⟨b0, b1, b2, b3, b4, b5, b6⟩ := (HB.out.keep HE3.out).cell
  simp only at b0 b1 b2 b3 b4 b5 b6
  have hL3 : (head3 m).length = 3 := rfl
  go_wp2_with fail
  go_loopw [3, 23] (fun o i wr => ∃ k : Nat, k ≤ n4 ∧ i = .int .i64 k ∧ Hid (wr.ownsRow wb.heap.size 9 1 o (3 + k) (sv (head3 m ++ (m.rs.take k).map entT))) ∧ Hid (Ext wb wr)) (fun _ i _ => n4 - (intOf i).toNat)
  case atStart => exact ⟨0, Nat.zero_le _, rfl, by unfold Hid; simpa using HO3.out, HE3⟩
  case round =>
    obtain ⟨k, hk, rfl, hown, hb⟩ := hrel
    clear b0 b1 b2 b3 b4 b5 b6
    by_cases hlt : k < n4
    · obtain ⟨b, off, x, rfl, hbs, hxk, p0, p1, p2⟩ := GEntry.at_ (hxr.out.keep hb.out) hlt
      obtain ⟨⟨hm0, hm1⟩, ⟨hs0, hs1⟩, hxs⟩ := hEnt.out x (List.mem_of_getElem? hxk)
      have HN : Hid (sv (head3 m ++ (m.rs.take (k + 1)).map entT) = sv (head3 m ++ (m.rs.take k).map entT) ++ [.string (entT x)]) := Lib.hid (by
        rw [take_snoc hxk, List.map_append, ← List.append_assoc]; exact sv_snoc _ _)
      obtain ⟨we, hwe⟩ : ∃ we, we = wr.alloc (.cells #[.int .i64 x.m, .string x.x, .int .i64 x.s] 51) := ⟨_, rfl⟩
      have hBe : Blk we wr.heap.size 51 #[.int .i64 x.m, .string x.x, .int .i64 x.s] := by rw [hwe]; exact Blk.new _ _ _
      have hee : Ext wr we := by rw [hwe]; exact (Ext.refl _).alloc _
      have hsz1 := itext_size x.m (by omega) (by omega)
      have hsz2 := itext_size x.s (by omega) (by omega)
      have cF1 : Hid (∀ W, Ext we W → Calls Tryd.prog 16 #[.int .i64 x.m] W fun e w' => e = .returned (.string (itext x.m)) ∧ Ext W w') := Lib.hid (fun W he => impl_FormatInt x.m (by omega) (by omega) W (Lib.hid (tab_ext HTB.out (hb.out.trans (hee.trans he)))))
      have cF2 : Hid (∀ W, Ext we W → Calls Tryd.prog 16 #[.int .i64 x.s] W fun e w' => e = .returned (.string (itext x.s)) ∧ Ext W w') := Lib.hid (fun W he => impl_FormatInt x.s (by omega) (by omega) W (Lib.hid (tab_ext HTB.out (hb.out.trans (hee.trans he)))))
      obtain ⟨T1, hT1⟩ : ∃ T, T = itext x.m := ⟨_, rfl⟩
      obtain ⟨T2, hT2⟩ : ∃ T, T = itext x.s := ⟨_, rfl⟩
      rw [← hT1] at cF1 hsz1
      rw [← hT2] at cF2 hsz2
      have HLn : Hid (entT x = T1 ++ sp1 ++ x.x ++ sp1 ++ T2) := Lib.hid (by rw [hT1, hT2]; rfl)
      have s1 : (⟨#[32]⟩ : ByteArray).size = 1 := rfl
      have g1 : ∀ W, (Op.stringOp .add T1 ⟨#[32]⟩).run Tryd.prog W = .ok (.string (T1 ++ ⟨#[32]⟩)) W := fun W => run_string_add_sum W _ _ (by omega)
      have g2 : ∀ W, (Op.stringOp .add (T1 ++ ⟨#[32]⟩) x.x).run Tryd.prog W = .ok (.string (T1 ++ ⟨#[32]⟩ ++ x.x)) W := fun W => run_string_add_sum W _ _ (by rw [ByteArray.size_append]; omega)
      have g3 : ∀ W, (Op.stringOp .add (T1 ++ ⟨#[32]⟩ ++ x.x) ⟨#[32]⟩).run Tryd.prog W = .ok (.string (T1 ++ ⟨#[32]⟩ ++ x.x ++ ⟨#[32]⟩)) W := fun W => run_string_add_sum W _ _ (by rw [ByteArray.size_append, ByteArray.size_append]; omega)
      have g4 : ∀ W, (Op.stringOp .add (T1 ++ ⟨#[32]⟩ ++ x.x ++ ⟨#[32]⟩) T2).run Tryd.prog W = .ok (.string (T1 ++ ⟨#[32]⟩ ++ x.x ++ ⟨#[32]⟩ ++ T2)) W := fun W => run_string_add_sum W _ _ (by rw [ByteArray.size_append, ByteArray.size_append, ByteArray.size_append]; omega)
      have i1 : ¬ 9223372036854775807 < T1.size + 1 := by omega
      have i2 : ¬ 9223372036854775807 < T1.size + 1 + x.x.size := by omega
      have i3 : ¬ 9223372036854775807 < T1.size + 1 + x.x.size + 1 := by omega
      have i4 : ¬ 9223372036854775807 < T1.size + 1 + x.x.size + 1 + T2.size := by omega
      have z0 := hBe.cellAt (i := 0) (by simp)
      have z1 := hBe.cellAt (i := 1) (by simp)
      have z2 := hBe.cellAt (i := 2) (by simp)
      simp at z0 z1 z2
      have HBe := Lib.hid hBe
      have Hee := Lib.hid hee
      have Hwe := Lib.hid hwe
      have hwbr : wb.heap.size ≤ wr.heap.size := hb.out.size
      clear hBe hee hxk hwe hT1 hT2
      go_upto_region 7 with fail
      rw [← Hwe.out]
      have HOe := Lib.hid (own_keep hown.out Hee.out)
      go_region_held3 (fun w' => w'.cell? ⟨wr.heap.size, 0, none⟩ = some (.int .i64 x.m) ∧ w'.cell? ⟨wr.heap.size, 1, none⟩ = some (.string x.x) ∧ w'.cell? ⟨wr.heap.size, 2, none⟩ = some (.int .i64 x.s)) (go_keep) (first
        | (go_at_call_of 16 (Value.int .i64 x.m); refine (cF1.out _ (Ext.refl _).drew).mono ?_; rintro e wA ⟨rfl, hA⟩; have eA : Ext we wA := (Ext.trans (Ext.refl _).drew hA); have kA := HBe.out.keep eA; have y0 := kA.cellAt (i := 0) (by simp); have y1 := kA.cellAt (i := 1) (by simp); have y2 := kA.cellAt (i := 2) (by simp); simp at y0 y1 y2)
        | (go_at_call_of 16 (Value.int .i64 x.s); refine (cF2.out _ eA).mono ?_; rintro e wB ⟨rfl, hB⟩; have eB : Ext we wB := (eA.trans hB); have kB := HBe.out.keep eB; have x0 := kB.cellAt (i := 0) (by simp); have x1 := kB.cellAt (i := 1) (by simp); have x2 := kB.cellAt (i := 2) (by simp); simp at x0 x1 x2; have zB := (Hee.out.trans eB).size)
        | (refine step_appW ei_SF (by rfl) _ _ (by rfl) wb.heap.size wB _ _ [.string (T1 ++ ⟨#[32]⟩ ++ x.x ++ ⟨#[32]⟩ ++ T2)] (by rfl) _ (3 + k) _ (by rfl) (own_keep HOe.out eB) (by rfl) rfl (one_strF _) (by omega) (by omega) ?_; intro g5 c5 w5 ho5 hg5 hv5; have e5 := ext_apartW (hb.out.trans (Hee.out.trans eB)) (own_keep HOe.out eB) (Nat.le_refl _) hg5; have B5 : Blk w5 wr.heap.size 51 #[.int .i64 x.m, .string x.x, .int .i64 x.s] := (hg5.block wr.heap.size kB.lt (fun e => by have := (hown.out.lt _ e.symm).2; omega)).trans kB; have v0 := B5.cellAt (i := 0) (by simp); have v1 := B5.cellAt (i := 1) (by simp); have v2 := B5.cellAt (i := 2) (by simp); simp at v0 v1 v2))
      have HO5 := Lib.hid ho5
      have HE5 := Lib.hid e5
      clear ho5 e5 hg5 hv5
      go_wp2_with fail
      go_roundw
      case rel => exact ⟨k + 1, by omega, by go_num, by unfold Hid; rw [HN.out, HLn.out]; exact HO5.out, HE5⟩
      case measure => simp [intOf]; omega
    · obtain rfl : n4 = k := by omega
      rw [List.take_of_length_le (by rw [hl4.out]; omega), ← HF.out] at hown
      have hfl : (fmtL m).length = 3 + n4 := by rw [HF.out, List.length_append, List.length_map, hl4.out]; rfl
      have HFL := Lib.hid hfl
      clear hfl
      go_wp2_with fail
      go_ret
      exact ⟨_, rfl, HE.out.trans hb.out, by rw [HFL.out]; exact own_weak hown.out (by omega)⟩
end Go.Proofs.YtkelmeemblmggaaDoor
/- The laws' helpers on rows of strings: comparison, marks; no condition but what stands at each theorem. -/
namespace Go.Proofs.YtkelmeemblmggaaDoor
set_option linter.unusedSimpArgs false
set_option linter.unusedVariables false
open Go.RowKit Go.Sort
def senc (s : ByteArray) : List Value := [.string s]
theorem senc_len (x : ByteArray) : (senc x).length = 1 := rfl
theorem senc_at {w : World} {A : Option Addr} {n k : Nat} {xs : List ByteArray} (h : Rd w 1 A n (xs.flatMap senc)) (hk : k < n) :
    ∃ (b off : Nat) (x : ByteArray), A = some ⟨b, off, none⟩ ∧ b < w.heap.size ∧ xs[k]? = some x ∧ w.cell? ⟨b, off + k, none⟩ = some (.string x) := Rd.at1 (p := fun (s : ByteArray) => .string s) (fun _ => rfl) h hk
def markStrL (k : Int) (n : Nat) : List ByteArray := (List.range n).map fun (i : Nat) => mtxt (k + ↑i).toNat
theorem markStrL_len (k : Int) (n : Nat) : (markStrL k n).length = n := by simp [markStrL]
theorem markStrL_snoc (k : Int) (i : Nat) : markStrL k (i + 1) = markStrL k i ++ [mtxt (k + ↑i).toNat] := by simp [markStrL, List.range_succ]
theorem markStrL_at (k : Int) (n : Nat) {i : Nat} (h : i < n) : (markStrL k n)[i]? = some (mtxt (k + ↑i).toNat) := by simp [markStrL, h]
set_option maxRecDepth 100000 in
set_option maxHeartbeats 1000000 in
theorem laws_eqStringS (A A' : Option Addr) (n c n' c' : Nat) (xs : List ByteArray) (w : World) (hx : Rd w 1 A n (xs.flatMap senc)) (hy : Rd w 1 A' n' (xs.flatMap senc)) :
    Calls Tryd.prog 9 #[.slice A n c, .slice A' n' c'] w fun e w' => e = .returned (.bool true) ∧ Ext w w' := by
  have hn := hx.2.1
  obtain rfl : n = n' := by rw [← hx.len senc_len (by omega), ← hy.len senc_len (by omega)]
  go_enter Tryd.func9, Tryd.ntmps9
  go_wp2_with fail
  go_loopw [5] (fun i wr => ∃ k : Nat, k ≤ n ∧ i = .int .i64 k ∧ Ext w wr) (fun i _ => n - (intOf i).toNat)
  case atStart => exact ⟨0, Nat.zero_le _, rfl, Ext.refl _⟩
  case round =>
    obtain ⟨k, hk, rfl, hb⟩ := hrel
    by_cases hlt : k < n
    · obtain ⟨b, off, x, rfl, hbs, hxk, h0⟩ := senc_at (hx.keep hb) hlt
      obtain ⟨b', off', y, rfl, hbs', hyk, g0⟩ := senc_at (hy.keep hb) hlt
      obtain rfl : x = y := by rw [hyk] at hxk; simpa using hxk.symm
      have hne : (x.toList == x.toList) = true := by simp
      clear hxk hyk
      have Hb := Lib.hid hb
      clear hb
      go_wp2_with fail
      go_quiet (fail)
      go_wp2_with fail
      go_roundw
      case rel => exact ⟨k + 1, by omega, by go_num, Hb.out.drewN _⟩
      case measure => simp [intOf]; omega
    · go_wp2_with fail
      go_ret
      exact ⟨rfl, hb⟩
set_option maxRecDepth 100000 in
set_option maxHeartbeats 1000000 in
theorem laws_markStringS (A : Option Addr) (n c : Nat) (k : Int) (base : Nat) (L : List Value) (w : World) (ho : w.ownsRow base 9 1 (.slice A n c) n L) (hn : n ≤ 1048576) (hk0 : 1 ≤ k) (hk1 : k ≤ 1000000000) :
    Calls Tryd.prog 12 #[.slice A n c, .int .i64 k] w fun e w' => e = .returned (.int .i64 (k + ↑n)) ∧ w'.ownsRow base 9 1 (.slice A n c) n ((markStrL k n).flatMap senc) ∧ w.grownBy w' (Value.slice A n c).ownBlock := by
  rcases own_block ho with ⟨rfl, rfl, rfl⟩ | ⟨g, cur0, rfl, hbg, hb0, hnc, hcm, hcs, ht⟩
  · go_enter Tryd.func12, Tryd.ntmps12
    go_wp2_with fail
    refine wp_loop_rounds 1 ?_
    rw [rounds_succ]
    go_wp2
    go_ret
    exact ⟨ret_int (by simp), World.ownsRow_nil _ _ _ _, grown_refl _ _⟩
  · go_enter Tryd.func12, Tryd.ntmps12
    go_wp2_with fail
    go_loopw [1, 5] (fun kv iv wr => ∃ (i : Nat) (cur : Array Value), i ≤ n ∧ iv = .int .i64 i ∧ kv = .int .i64 (k + ↑i) ∧ cur.size = c * 1 ∧ Hid (cur.toList.take (i * 1) = (markStrL k i).flatMap senc) ∧ Blk wr g 9 cur ∧ w.grownBy wr (some g)) (fun _ iv _ => n - (intOf iv).toNat)
    case atStart => exact ⟨0, cur0, Nat.zero_le _, rfl, by simp, hcs, by unfold Hid; simp [markStrL], hb0, grown_refl _ _⟩
    case round =>
      obtain ⟨i, cur, hi, rfl, rfl, hcz, hz, hblk, hg⟩ := hrel
      by_cases hlt : i < n
      · have HBk := Lib.hid hblk
        have HG := Lib.hid hg
        clear hblk hg
        go_wp2_with (go_at_call 34; refine (fun h : Hid _ => h.out) ?_)
        unfold Hid
        obtain ⟨q, hq⟩ := Int.eq_ofNat_of_zero_le (show 0 ≤ k + ↑i by omega)
        have cT := laws_markText q wr (by omega) (by omega)
        rw [← hq] at cT
        have hq2 : Hid (mtxt q = mtxt (k + ↑i).toNat) := Lib.hid (by rw [hq]; rfl)
        clear hq
        refine cT.mono ?_
        rintro e w2 ⟨rfl, e2⟩
        have hb1 := HBk.out.keep e2
        have hg1 := grown_trans HG.out (grown_ofExt e2 (some g))
        have HB2 := Lib.hid hb1
        have HG2 := Lib.hid hg1
        have c1 := hb1.cellAt (i := i) (by omega)
        have f1 := hb1.free i
        have hl2 := hb1.lt
        clear cT e2 hb1 hg1
        go_wp2_with fail
        go_roundw
        case rel =>
          refine ⟨i + 1, setRow cur (i * 1) [.string (mtxt q)], by omega, by go_num, mark_num (by push_cast; omega), by rw [setRow_size]; exact hcz, ?_, ?_, ?_⟩
          · unfold Hid
            rw [markStrL_snoc, List.flatMap_append, ← hq2.out]
            exact setRow_take (m := 1) rfl (by rw [hcz]; omega) hz.out
          · rw [Nat.mul_one]
            exact HB2.out.set i (.string (mtxt q))
          · exact grown_set HG2.out i (.string (mtxt q))
        case measure => simp [intOf]; omega
      · obtain rfl : i = n := by omega
        go_wp2_with fail
        go_ret
        refine ⟨ret_int (by first | rfl | omega), ⟨by rw [flat_len senc 1 senc_len, markStrL_len], .inr ⟨g, c, cur, rfl, hbg, hblk, hnc, hcm, hcz, hz.out⟩⟩, hg⟩
set_option maxRecDepth 100000 in
set_option maxHeartbeats 1000000 in
theorem laws_heldStringS (A : Option Addr) (n c : Nat) (k : Int) (w : World) (hx : Rd w 1 A n ((markStrL k n).flatMap senc)) (hn : n ≤ 1048576) (hk0 : 1 ≤ k) (hk1 : k ≤ 1000000000) :
    Calls Tryd.prog 13 #[.slice A n c, .int .i64 k] w fun e w' => e = .returned (.int .i64 (k + ↑n)) ∧ Ext w w' := by
  go_enter Tryd.func13, Tryd.ntmps13
  go_wp2_with fail
  go_loopw [1, 5] (fun kv iv wr => ∃ (i : Nat), i ≤ n ∧ iv = .int .i64 i ∧ kv = .int .i64 (k + ↑i) ∧ Ext w wr) (fun _ iv _ => n - (intOf iv).toNat)
  case atStart => exact ⟨0, Nat.zero_le _, rfl, by simp, Ext.refl _⟩
  case round =>
    obtain ⟨i, hi, rfl, rfl, hb⟩ := hrel
    by_cases hlt : i < n
    · obtain ⟨b, off, x, rfl, hbs, hxk, h0⟩ := senc_at (hx.keep hb) hlt
      rw [markStrL_at k n hlt] at hxk
      injection hxk with hxk
      obtain ⟨q, hq⟩ := Int.eq_ofNat_of_zero_le (show 0 ≤ k + ↑i by omega)
      have cT : Hid (∀ W, Calls Tryd.prog 34 #[.int .i64 (k + ↑i)] W fun e w' => e = .returned (.string x) ∧ Ext W w') := Lib.hid fun W => by
        have := laws_markText q W (by omega) (by omega)
        rw [← hq] at this
        rw [← hxk, hq]
        rw [hq] at this
        exact this
      have hne : (x.toList == x.toList) = true := by simp
      have hlt2 : b < wr.heap.size := hbs
      have HB := Lib.hid hb
      clear hb hq hxk
      go_wp2_with fail
      go_region_held3 (fun w' => w'.cell? ⟨b, off + i, none⟩ = some (.string x)) (go_keep) (first
        | (go_at_call 34; refine (cT.out _).mono ?_; rintro e w1 ⟨rfl, h1⟩; have e1 : Ext wr w1 := (Ext.trans (Ext.refl _).drew h1); have y0 := (e1.cellAt b hlt2 (off + i)).trans h0))
      have HB1 := Lib.hid (HB.out.trans e1)
      clear e1 h1
      go_wp2_with fail
      go_roundw
      case rel => exact ⟨i + 1, by omega, by go_num, mark_num (by push_cast; omega), HB1.out⟩
      case measure => simp [intOf]; omega
    · obtain rfl : i = n := by omega
      go_wp2_with fail
      go_ret
      exact ⟨ret_int (by first | rfl | omega), hb⟩
end Go.Proofs.YtkelmeemblmggaaDoor
