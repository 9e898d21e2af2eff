/- The drawing of numbers from a code: the cursor's contracts; no condition but what stands at each theorem. -/
import Derived.Test.YtlgmiifpdjalpaaH2
import Derived.Test.YtlgmiifpdjalpaaK6
namespace Go.Proofs.Ytlgmiifpdjalpaa
set_option linter.unusedSimpArgs false
set_option linter.unusedVariables false
open Go.RowKit
def benc (i : Int) : List Value := [.int .u8 i]
theorem benc_len (x : Int) : (benc x).length = 1 := rfl
theorem benc_at {w : World} {A : Option Addr} {n k : Nat} {xs : List Int} (h : Rd w 1 A n (xs.flatMap benc)) (hk : k < n) :
    ∃ (b off : Nat) (x : Int), A = some ⟨b, off, none⟩ ∧ b < w.heap.size ∧ xs[k]? = some x ∧ w.cell? ⟨b, off + k, none⟩ = some (.int .u8 x) :=
  Rd.at1 (p := fun (s : Int) => .int .u8 s) (fun _ => rfl) h hk
theorem and255 (a : Int) : 0 ≤ bits .and .i64 a 255 ∧ bits .and .i64 a 255 ≤ 255 := by
  have h : ((BitVec.ofInt 64 a &&& BitVec.ofInt 64 255).toNat) ≤ 255 := by
    rw [BitVec.toNat_and]
    exact Nat.le_trans Nat.and_le_right (by decide)
  have e : bits .and .i64 a 255 = IntKind.i64.wrap ((BitVec.ofInt 64 a &&& BitVec.ofInt 64 255).toNat : Int) := rfl
  rw [e, IntKind.wrap_i64]
  omega
/-- The cursor at block p, over bytes that were there in world w0. -/
def Cur (w : World) (p : Nat) : Prop := ∃ (A : Option Addr) (n c : Nat) (xs : List Int) (i h : Int), Blk w p 143 #[.slice A n c, .int .i64 i, .int .i64 h] ∧ Rd w 1 A n (xs.flatMap benc) ∧ n ≤ 1048576 ∧ 0 ≤ i ∧ i ≤ n ∧ (∀ x ∈ xs, 0 ≤ x ∧ x ≤ 255) ∧ (0 < n → ∀ b off, A = some ⟨b, off, none⟩ → b < p)
theorem rd_set {w : World} {A : Option Addr} {m n p o : Nat} {xs : List Value} (h : Rd w m A n xs) (hA : 0 < n → ∀ b off, A = some ⟨b, off, none⟩ → b < p) (u : Value) : Rd (w.setCell ⟨p, o, none⟩ u) m A n xs :=
  ⟨h.1, h.2.1, fun hn => by
    obtain ⟨b, off, rfl, hb, hc⟩ := h.2.2 hn
    have hbp := hA hn b off rfl
    refine ⟨b, off, rfl, by simpa [World.setCell] using hb, fun j u' hu => ?_⟩
    rw [World.cell?_setCell_other _ _ _ _ (by intro e; injection e with e1; omega)]
    exact hc j u' hu⟩
theorem rd_grown {w w' : World} {A : Option Addr} {m n p : Nat} {xs : List Value} (h : Rd w m A n xs) (hA : 0 < n → ∀ b off, A = some ⟨b, off, none⟩ → b ≠ p) (g : w.grownBy w' (some p)) : Rd w' m A n xs :=
  ⟨h.1, h.2.1, fun hn => by
    obtain ⟨b, off, rfl, hb, hc⟩ := h.2.2 hn
    have hbp := hA hn b off rfl
    refine ⟨b, off, rfl, Nat.lt_of_lt_of_le hb g.size, fun j u' hu => ?_⟩
    have e : w'.heap[b]? = w.heap[b]? := g.block b hb (fun e => hbp (Option.some.inj e))
    rw [← hc j u' hu]
    simp only [World.cell?, e]⟩
theorem blk_grown {w w' : World} {g p : Nat} {t : TypeId} {cs : Array Value} (h : Blk w g t cs) (hp : g ≠ p) (k : w.grownBy w' (some p)) : Blk w' g t cs :=
  (k.block g h.lt (fun e => hp (Option.some.inj e))).trans h
theorem grown_drew {a w : World} {row : Option Nat} (h : a.grownBy w row) (n : Nat) : a.grownBy (w.drewN n) row := ⟨h.os, h.tape, h.output, h.size, h.block⟩
theorem grown_drew1 {a w : World} {row : Option Nat} (h : a.grownBy w row) : a.grownBy w.drew row := ⟨h.os, h.tape, h.output, h.size, h.block⟩
/-- A number from 0 to 255 has been drawn. -/
def DrawnByte (w : World) (p : Nat) (e : Ending) (w' : World) : Prop := ∃ r : Int, e = .returned (.int .i64 r) ∧ 0 ≤ r ∧ r ≤ 255 ∧ Cur w' p ∧ w.grownBy w' (some p)
theorem drawn_end {w w' : World} {p : Nat} {r : Int} (h0 : 0 ≤ r) (h1 : r ≤ 255) (hc : Cur w' p) (hg : w.grownBy w' (some p)) : DrawnByte w p (.returned (.int .i64 r)) w' := ⟨r, rfl, h0, h1, hc, hg⟩
set_option maxRecDepth 100000 in
set_option maxHeartbeats 1000000 in
theorem spec_l01Byte (p : Nat) (w : World) (hc : Cur w p) :
    Calls Try.prog 125 #[.pointer (some ⟨p, 0, none⟩)] w (DrawnByte w p) := by
  obtain ⟨A, n, c, xs, i, h, hb, hx, hn, hi0, hi1, hxs, hAp⟩ := hc
  have c0 := hb.cellAt (i := 0) (by simp)
  have c1 := hb.cellAt (i := 1) (by simp)
  have c2 := hb.cellAt (i := 2) (by simp)
  have f1 := hb.free 1
  have f2 := hb.free 2
  simp at c0 c1 c2
  have HB := Lib.hid hb
  clear hb
  go_enter Try.func125, Try.ntmps125
  go_wp2_with fail
  generalize wrap64 (wrap64 (h * 6364136223846793005) + 1442695040888963407) = h1
  clear c0 c1 c2 f1 f2
  have hb1 := HB.out.set 2 (.int .i64 h1)
  have hx1 := rd_set (o := 2) hx hAp (.int .i64 h1)
  have hg1 := grown_set (grown_refl w (some p)) 2 (.int .i64 h1)
  clear hx HB
  generalize w.setCell ⟨p, 2, none⟩ (.int .i64 h1) = w1 at hb1 hx1 hg1 ⊢
  simp only [List.setIfInBounds_toArray, List.set_cons_succ, List.set_cons_zero] at hb1
  have c0 := hb1.cellAt (i := 0) (by simp)
  have c1 := hb1.cellAt (i := 1) (by simp)
  have c2 := hb1.cellAt (i := 2) (by simp)
  have f1 := hb1.free 1
  simp at c0 c1 c2
  have HB := Lib.hid hb1
  have HX := Lib.hid hx1
  have HG := Lib.hid hg1
  clear hb1 hx1 hg1
  go_quiet (fail)
  go_wp2_with fail
  have hr := and255 (bits .xor .i64 (h1 / 8589934592) (h1 / 35184372088832))
  generalize bits .and .i64 (bits .xor .i64 (h1 / 8589934592) (h1 / 35184372088832)) 255 = r at hr ⊢
  have d0 : (w1.drewN nq).cell? ⟨p, 0, none⟩ = some (Value.slice A n c) := c0
  have d1 : (w1.drewN nq).cell? ⟨p, 1, none⟩ = some (Value.int IntKind.i64 i) := c1
  have d2 : (w1.drewN nq).frozen? ⟨p, 1, none⟩ = false := f1
  have b2 : Blk (w1.drewN nq) p 143 #[Value.slice A n c, Value.int IntKind.i64 i, Value.int IntKind.i64 h1] := HB.out
  have x2 : Rd (w1.drewN nq) 1 A n (xs.flatMap benc) := HX.out
  have g2 := grown_drew HG.out nq
  clear c0 c1 c2 f1 HB HX HG
  generalize w1.drewN nq = w2 at d0 d1 d2 b2 x2 g2 ⊢
  have HB := Lib.hid b2
  have HX := Lib.hid x2
  have HG := Lib.hid g2
  clear b2 x2 g2
  by_cases hin : i < (n : Int)
  · obtain ⟨b, off, x, rfl, hbs, hxk, hcell⟩ := benc_at HX.out (k := i.toNat) (by omega)
    have hin' : i < ((n : Nat) : Int) := hin
    have hx := hxs x (List.mem_of_getElem? hxk)
    have hq : wrap64 (r + x) = r + x := by unfold wrap64; omega
    have hw : wrap64 (i + 1) = i + 1 := by unfold wrap64; omega
    go_quiet (fail)
    go_wp2_with fail
    have e0 : (w2.drewN nq).cell? ⟨p, 0, none⟩ = some (Value.slice (some ⟨b, off, none⟩) n c) := d0
    have e1 : (w2.drewN nq).cell? ⟨p, 1, none⟩ = some (Value.int IntKind.i64 i) := d1
    have e2 : (w2.drewN nq).frozen? ⟨p, 1, none⟩ = false := d2
    have e3 : (w2.drewN nq).cell? ⟨b, off + i.toNat, none⟩ = some (.int .u8 x) := hcell
    have b3 : Blk (w2.drewN nq) p 143 #[Value.slice (some ⟨b, off, none⟩) n c, Value.int IntKind.i64 i, Value.int IntKind.i64 h1] := HB.out
    have x3 : Rd (w2.drewN nq) 1 (some ⟨b, off, none⟩) n (xs.flatMap benc) := HX.out
    have g3 := grown_drew HG.out nq
    clear d0 d1 d2 hcell HB HX HG
    generalize w2.drewN nq = w3 at e0 e1 e2 e3 b3 x3 g3 ⊢
    have HB := Lib.hid b3
    have HX := Lib.hid x3
    have HG := Lib.hid g3
    clear b3 x3 g3
    go_quiet (fail)
    go_wp2_with fail
    have hr2 := and255 (r + x)
    have hb4 := HB.out.set 1 (.int .i64 (i + 1))
    have hx4 := rd_set (o := 1) HX.out hAp (.int .i64 (i + 1))
    have hg4 := grown_set (grown_drew HG.out nq) 1 (.int .i64 (i + 1))
    simp only [List.setIfInBounds_toArray, List.set_cons_succ, List.set_cons_zero] at hb4
    go_ret
    exact drawn_end hr2.1 hr2.2 ⟨_, n, c, xs, i + 1, h1, hb4, hx4, hn, by omega, by omega, hxs, hAp⟩ hg4
  · go_quiet (fail)
    go_wp2_with fail
    go_ret
    exact drawn_end hr.1 hr.2 ⟨A, n, c, xs, i, h1, HB.out, HX.out, hn, hi0, hi1, hxs, hAp⟩ (grown_drew HG.out _)
/-- A number has been drawn that lies below n, or is 0. -/
def DrawnBelow (n : Int) (w : World) (p : Nat) (e : Ending) (w' : World) : Prop := ∃ r : Int, e = .returned (.int .i64 r) ∧ 0 ≤ r ∧ (r < n ∨ r = 0) ∧ Cur w' p ∧ w.grownBy w' (some p)
set_option maxRecDepth 100000 in
set_option maxHeartbeats 1000000 in
theorem spec_l01Below (p : Nat) (n : Int) (w : World) (hc : Cur w p) :
    Calls Try.prog 105 #[.pointer (some ⟨p, 0, none⟩), .int .i64 n] w (DrawnBelow n w p) := by
  have hg := grown_refl w (some p)
  by_cases h0 : n ≤ 0
  · go_enter Try.func105, Try.ntmps105
    go_wp2_with fail
    go_ret
    exact ⟨0, rfl, by omega, .inr rfl, hc, grown_refl _ _⟩
  · by_cases h1 : n ≤ 256
    · go_enter Try.func105, Try.ntmps105
      go_wp2_with (go_at_call 125; refine (spec_l01Byte p _ (by assumption)).mono ?_; rintro e w1 ⟨r, rfl, hr0, hr1, hc1, hg1⟩; replace hg := grown_trans hg hg1; clear hg1)
      go_ret
      exact ⟨_, rfl, Int.emod_nonneg _ (by omega), .inl (Int.emod_lt_of_pos _ (by omega)), hc1, hg⟩
    · go_enter Try.func105, Try.ntmps105
      go_wp2_with (go_at_call 125; refine (spec_l01Byte p _ (by assumption)).mono ?_; rintro e w1 ⟨r, rfl, hr0, hr1, hc1, hg1⟩; replace hg := grown_trans hg hg1; clear hg1)
      go_ret
      exact ⟨_, rfl, Int.emod_nonneg _ (by omega), .inl (Int.emod_lt_of_pos _ (by omega)), hc1, hg⟩
theorem heap_size_setCell (w : World) (a : Addr) (u : Value) : (w.setCell a u).heap.size = w.heap.size := by simp [World.setCell]
theorem heap_size_alloc (w : World) (o : Obj) : (w.alloc o).heap.size = w.heap.size + 1 := by simp
theorem heap_size_drew (w : World) : w.drew.heap.size = w.heap.size := rfl
theorem heap_size_drewN (w : World) (n : Nat) : (w.drewN n).heap.size = w.heap.size := rfl
theorem Cur.lt {w : World} {p : Nat} (h : Cur w p) : p < w.heap.size := by
  obtain ⟨_, _, _, _, _, _, hb, _⟩ := h
  exact hb.lt
theorem cur_ext {w w' : World} {p : Nat} (h : Cur w p) (e : Ext w w') : Cur w' p := by
  obtain ⟨A, n, c, xs, i, h, hb, hx, r⟩ := h
  exact ⟨A, n, c, xs, i, h, hb.keep e, hx.keep e, r⟩
theorem cur_alloc {w : World} {p : Nat} (h : Cur w p) (o : Obj) : Cur (w.alloc o) p := cur_ext h ((Ext.refl w).alloc o)
theorem cur_drew {w : World} {p : Nat} (h : Cur w p) : Cur w.drew p := h
theorem cur_drewN {w : World} {p : Nat} (h : Cur w p) (n : Nat) : Cur (w.drewN n) p := h
theorem cur_grown {w w' : World} {p : Nat} {row : Option Nat} (h : Cur w p) (g : w.grownBy w' row) (hr : ∀ k, row = some k → p < k) : Cur w' p := by
  obtain ⟨A, n, c, xs, i, h, hb, hx, hn, h0, h1, h2, hA⟩ := h
  refine ⟨A, n, c, xs, i, h, (g.block p hb.lt (fun e => ?_)).trans hb, ⟨hx.1, hx.2.1, fun hn0 => ?_⟩, hn, h0, h1, h2, hA⟩
  · exact absurd (hr p e.symm) (by omega)
  · obtain ⟨b, off, rfl, hbs, hc⟩ := hx.2.2 hn0
    have hbp := hA hn0 b off rfl
    refine ⟨b, off, rfl, Nat.lt_of_lt_of_le hbs g.size, fun j u' hu => ?_⟩
    have e : w'.heap[b]? = w.heap[b]? := g.block b hbs (fun e => absurd (hr b e.symm) (by omega))
    rw [← hc j u' hu]
    simp only [World.cell?, e]
theorem cur_far {w : World} {p q : Nat} (h : Cur w p) (hq : p < q) {o : Nat} (u : Value) : Cur (w.setCell ⟨q, o, none⟩ u) p :=
  cur_grown h (grown_set (grown_refl w (some q)) o u) (fun k hk => by injection hk with hk; omega)
theorem grown_alloc {a w : World} {row : Option Nat} (h : a.grownBy w row) (o : Obj) : a.grownBy (w.alloc o) row :=
  ⟨h.os, h.tape, h.output, Nat.le_trans h.size (by rw [heap_size_alloc]; omega), fun i hi hn => (Below.block (((Ext.refl w).alloc o).below) i (Nat.lt_of_lt_of_le hi h.size)).trans (h.block i hi hn)⟩
theorem grown_fresh {a w : World} {row : Option Nat} (h : a.grownBy w row) {q o : Nat} (hq : a.heap.size ≤ q) (u : Value) : a.grownBy (w.setCell ⟨q, o, none⟩ u) row :=
  ⟨h.os, h.tape, h.output, by rw [heap_size_setCell]; exact h.size, fun i hi hn => (Below.heap_setCell w _ u i (fun e => by dsimp only at e; omega)).trans (h.block i hi hn)⟩
theorem grown_extD {a w w' : World} {row : Option Nat} (h : a.grownBy w row) (e : Ext w w') : a.grownBy w' row :=
  grown_trans h ⟨e.os, e.tape, e.output, e.size, fun i hi _ => e.block i hi⟩
theorem grown_cell {w w' : World} {p : Nat} (g : w.grownBy w' (some p)) (b : Nat) (hp : b ≠ p) (hb : b < w.heap.size) (o : Nat) : w'.cell? ⟨b, o, none⟩ = w.cell? ⟨b, o, none⟩ := by
  have e : w'.heap[b]? = w.heap[b]? := g.block b hb (fun e => hp (Option.some.inj e))
  simp only [World.cell?, e]
theorem grown_frozen {w w' : World} {p : Nat} (g : w.grownBy w' (some p)) (b : Nat) (hp : b ≠ p) (hb : b < w.heap.size) (o : Nat) : w'.frozen? ⟨b, o, none⟩ = w.frozen? ⟨b, o, none⟩ := by
  have e : w'.heap[b]? = w.heap[b]? := g.block b hb (fun e => hp (Option.some.inj e))
  simp only [World.frozen?, e]
theorem own_grown {w w' : World} {base p : Nat} {e : TypeId} {m n : Nat} {v : Value} {L : List Value} (h : w.ownsRow base e m v n L) (hp : p < base) (g : w.grownBy w' (some p)) : w'.ownsRow base e m v n L := by
  refine h.kept g ?_
  cases hv : v.ownBlock with
  | none => exact .inl rfl
  | some q =>
    refine .inr fun e => ?_
    have := (h.lt q hv).1
    injection e with e
    omega
theorem grown_over {a w w' : World} {r0 row : Option Nat} (h : a.grownBy w r0) (g : w.grownBy w' row) (hr : ∀ k, row = some k → a.heap.size ≤ k) : a.grownBy w' r0 :=
  ⟨g.os.trans h.os, g.tape.trans h.tape, g.output.trans h.output, Nat.le_trans h.size g.size, fun i hi hn => (g.block i (Nat.lt_of_lt_of_le hi h.size) (fun e => absurd (hr i e.symm) (by omega))).trans (h.block i hi hn)⟩
theorem append1g {P : Program} {ops : Array Oper} {rest : List Oper} {o : Oper} {a : Act} {Q : Exit → Act → World → Prop} {t e : TypeId} {m : Nat} (hE : EI P t e m) (hgd : o.guard = none) (s x : Operand)
    (ho : o.op = .call { callee := .builtin .append, args := #[s, x], argTypes := #[t, t] }) (base : Nat) (W : World) (T : TypeId) (v : Value) (n : Nat) (xs : List Value) (hs : a.eval s = v) (hown : W.ownsRow base e m v n xs)
    (news : List Value) (hx : a.eval x = .slice (some ⟨W.heap.size, 0, none⟩) 1 1) (hl : news.length = m) (h1 : ∀ u ∈ news, u.oneCell' = true) (hn : n ≤ 1073741824) (hbase : base ≤ W.heap.size)
    (h : ∀ v' w1 row, w1.ownsRow base e m v' (n + 1) (xs ++ news) → W.grownBy w1 row → (∀ k, row = some k → base ≤ k) → wpList P ops Q rest (a.put o.dst v') w1) : wpList P ops Q (o :: rest) a (W.alloc (.cells news.toArray T)) := by
  obtain ⟨i, z, hu, hi, hz, hsz, hby, hzs, h0⟩ := hE
  refine wpList_append_own _ hgd s x t ho base e i z m i.bytes hu hi hz hsz rfl hzs h0 v n xs hs (hown.alloc _) ⟨W.heap.size, 0, none⟩ 1 1 news hx (by omega) ?_ h1 (by unfold maxLen; omega) ?_ (by simp; omega) ?_
  · intro j u hu'
    rw [add_none, Nat.zero_add, World.cell?_alloc_new]
    simpa using hu'
  · have := Nat.mul_le_mul_left (n + 1) hby
    omega
  · intro v' w1 ho' hg _
    exact h v' w1 _ ho' (grown_trans (grown_alloc (grown_refl W _) _) hg) (fun k hk => (hown.lt k hk).1)
theorem new_cur {A : Option Addr} {n c : Nat} {xs : List Int} {w wr : World} (hx : Rd w 1 A n (xs.flatMap benc)) (hxs : ∀ x ∈ xs, 0 ≤ x ∧ x ≤ 255) (hn1 : n ≤ 1048576) (hb : Ext w wr) (z : Int) :
    ∃ p, Ending.returned (.pointer (some ⟨wr.heap.size, 0, none⟩)) = Ending.returned (.pointer (some ⟨p, 0, none⟩)) ∧ w.heap.size ≤ p ∧
      Cur (wr.alloc (.cells #[.slice A n c, .int .i64 0, .int .i64 z] 143)) p ∧ Ext w (wr.alloc (.cells #[.slice A n c, .int .i64 0, .int .i64 z] 143)) := by
  have e : Ext w (wr.alloc (.cells #[.slice A n c, .int .i64 0, .int .i64 z] 143)) := Ext.alloc hb _
  refine ⟨_, rfl, hb.size, ⟨A, n, c, xs, 0, z, Blk.new _ _ _, hx.keep e, hn1, by omega, by omega, hxs, fun h0 b off hA => ?_⟩, e⟩
  obtain ⟨b', off', hA', hb', _⟩ := hx.2.2 h0
  rw [hA] at hA'
  injection hA' with h1
  injection h1 with h1
  subst h1
  exact Nat.lt_of_lt_of_le hb' hb.size
set_option maxRecDepth 100000 in
set_option maxHeartbeats 1000000 in
theorem spec_l01New (A : Option Addr) (n c : Nat) (xs : List Int) (w : World) (hx : Rd w 1 A n (xs.flatMap benc)) (hxs : ∀ x ∈ xs, 0 ≤ x ∧ x ≤ 255) (hn1 : n ≤ 1048576) :
    Calls Try.prog 78 #[.slice A n c] w fun e w' => ∃ p, e = .returned (.pointer (some ⟨p, 0, none⟩)) ∧ w.heap.size ≤ p ∧ Cur w' p ∧ Ext w w' := by
  have hn := hx.2.1
  go_enter Try.func78, Try.ntmps78
  go_wp2_with fail
  go_loopw [3, 4] (fun o i wr => ∃ (k : Nat) (z : Int), k ≤ n ∧ i = .int .i64 k ∧ o = .int .i64 z ∧ Ext w wr) (fun _ i _ => n - (intOf i).toNat)
  case atStart => exact ⟨0, _, Nat.zero_le _, rfl, rfl, Ext.refl _⟩
  case round =>
    obtain ⟨k, z, hk, rfl, rfl, hb⟩ := hrel
    by_cases hlt : k < n
    · by_cases h4 : (k : Int) < 4000
      · obtain ⟨b, off, x, rfl, hbs, hxk, h0⟩ := benc_at (hx.keep hb) hlt
        have HB := Lib.hid hb
        have hbd := hxs x (List.mem_of_getElem? hxk)
        clear hxk hb
        go_wp2_with fail
        go_roundw
        case rel => exact ⟨k + 1, _, by omega, by go_num, rfl, HB.out⟩
        case measure => simp [intOf]; omega
      · go_wp2_with fail
        go_ret
        exact new_cur hx hxs hn1 hb z
    · go_wp2_with fail
      go_ret
      exact new_cur hx hxs hn1 hb z
end Go.Proofs.Ytlgmiifpdjalpaa
