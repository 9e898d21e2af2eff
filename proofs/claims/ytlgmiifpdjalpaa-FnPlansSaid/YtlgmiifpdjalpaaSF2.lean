/- Contracts of SortStableFunc and IndexFunc as FillShifts calls them, and of FillShifts and CountFill of the program; no condition but what stands at each theorem. -/
import Derived.Test.YtlgmiifpdjalpaaSF1
import Derived.Test.YtlgmiifpdjalpaaK4
namespace Go.Proofs.Ytlgmiifpdjalpaa
set_option linter.unusedSimpArgs false
set_option linter.unusedVariables false
open Go.RowKit Go.Sort
theorem grown_allocH {a w : World} {row : Option Nat} (h : a.grownBy w row) (o : Obj) : a.grownBy (w.alloc o) row :=
  ⟨h.os, h.tape, h.output, Nat.le_trans h.size (by simp), fun i hi hn => (heap_alloc_old w _ (Nat.lt_of_lt_of_le hi h.size)).trans (h.block i hi hn)⟩
theorem append1H {P : Program} {ops : Array Oper} {rest : List Oper} {o : Oper} {a : Act} {Q : Exit → Act → World → Prop} {t e : TypeId} {m : Nat} (hE : EI P t e m) (hgd : o.guard = none) (s x : Operand)
    (ho : o.op = .call { callee := .builtin .append, args := #[s, x], argTypes := #[t, t] }) (base : Nat) (W : World) (T : TypeId) (v : Value) (n : Nat) (xs : List Value) (hs : a.eval s = v) (hown : W.ownsRow base e m v n xs)
    (news : List Value) (hx : a.eval x = .slice (some ⟨W.heap.size, 0, none⟩) 1 1) (hl : news.length = m) (h1 : ∀ u ∈ news, u.oneCell' = true) (hn : n ≤ 1073741824) (hbase : base ≤ W.heap.size)
    (h : ∀ v' w1, w1.ownsRow base e m v' (n + 1) (xs ++ news) → W.grownBy w1 v.ownBlock → wpList P ops Q rest (a.put o.dst v') w1) : wpList P ops Q (o :: rest) a (W.alloc (.cells news.toArray T)) := by
  obtain ⟨i, z, hu, hi, hz, hsz, hby, hzs, h0⟩ := hE
  refine wpList_append_own _ hgd s x t ho base e i z m i.bytes hu hi hz hsz rfl hzs h0 v n xs hs (hown.alloc _) ⟨W.heap.size, 0, none⟩ 1 1 news hx (by omega) ?_ h1 (by unfold maxLen; omega) ?_ (by simp; omega) ?_
  · intro j u hu'
    rw [add_none, Nat.zero_add, World.cell?_alloc_new]
    simpa using hu'
  · have := Nat.mul_le_mul_left (n + 1) hby
    omega
  · intro v' w1 ho' hg _
    exact h v' w1 ho' (grown_trans (grown_allocH (grown_refl W _) _) hg)
theorem grown_cellH {W w1 : World} {row : Option Nat} (hg : W.grownBy w1 row) {b : Nat} (hb : b < W.heap.size) (hn : row ≠ some b) (o : Nat) : w1.cell? ⟨b, o, none⟩ = W.cell? ⟨b, o, none⟩ :=
  World.cell?_of_block (w := W) (w' := w1) (a := ⟨b, o, none⟩) (hg.block b hb (fun e => hn e.symm))
theorem grown_blkH {W w1 : World} {row : Option Nat} {base g : Nat} {t : TypeId} {cs : Array Value} (hg : W.grownBy w1 row) (hr : ∀ k, row = some k → base ≤ k) (h : Blk W g t cs) (hb : g < base) : Blk w1 g t cs := by
  unfold Blk at *
  rw [hg.block g (Array.getElem?_eq_some_iff.1 h).1 (by intro e; have := hr g e.symm; omega)]
  exact h
theorem mk_intB (n : Nat) (hn : n ≤ 1048576) (w : World) : (Instr.makeSlice 31 (.int .i64 (n : Int)) (.int .i64 (n : Int))).run Try.prog w = .ok (.slice (some ⟨w.heap.size, 0, none⟩) n n) (w.alloc (.cells ((List.replicate n (0 : Int)).map (Value.int .i64)).toArray 3)) := by
  have hin : (Try.prog.info? 3).map (fun i => (i.zero.map (·.cells.size), i.size, decide (i.bytes ≤ 4096))) = some (some 1, 1, true) := by kernel_rfl
  cases hi : Try.prog.info? 3 with
  | none => rw [hi] at hin; cases hin
  | some i =>
  have hz : i.zero = some (.int .i64 0) := by
    have h : (Try.prog.info? 3).map (fun i => i.zero) = some (some (.int .i64 0)) := by kernel_rfl
    rw [hi] at h; simpa using h
  rw [hi] at hin
  simp only [Option.map_some, Option.some.injEq, Prod.mk.injEq, decide_eq_true_eq] at hin
  obtain ⟨-, hsz, hby⟩ := hin
  have h := make_row (P := Try.prog) 31 3 i _ Try.underlying31 hi hz n (by have := Nat.mul_le_mul hby hn; omega) (by omega) w
  rw [hsz, made_ints] at h
  exact h
theorem PBlk.grownH {W w1 : World} {row : Option Nat} {base g : Nat} {t : TypeId} {u : List Int} (hg : W.grownBy w1 row) (hr : ∀ k, row = some k → base ≤ k) (h : PBlk W g t u) (hb : g < base) : PBlk w1 g t u := by
  obtain ⟨cur, h1, r⟩ := h
  exact ⟨cur, grown_blkH hg hr h1 hb, r⟩
theorem PBlk.farH {w : World} {g : Nat} {t : TypeId} {u : List Int} (h : PBlk w g t u) {p : Addr} (hp : g ≠ p.block) (x : Value) : PBlk (w.setCell p x) g t u := by
  obtain ⟨cur, h1, r⟩ := h
  exact ⟨cur, h1.far hp x, r⟩
/-- A store into a row of one's own. -/
theorem own_set {w : World} {base : Nat} {e : TypeId} {n c : Nat} {A : Option Addr} {u : List Int} (h : w.ownsRow base e 1 (.slice A n c) n (u.flatMap ienc)) {j : Nat} (hj : j < n) (x : Int) :
    ∃ g, A = some ⟨g, 0, none⟩ ∧ base ≤ g ∧ g < w.heap.size ∧ (∀ o, w.frozen? ⟨g, o, none⟩ = false) ∧ (∀ i, i < n → w.cell? ⟨g, i, none⟩ = some (.int .i64 (u.getD i 0))) ∧ (w.setCell ⟨g, j, none⟩ (.int .i64 x)).ownsRow base e 1 (.slice A n c) n ((u.set j x).flatMap ienc) := by
  have hl : u.length = n := by have := h.1; rw [ienc_map, List.length_map] at this; omega
  rcases own_block h with ⟨_, h0, _⟩ | ⟨g, cur, hA, hbg, hb, hnc, hcm, hcs, ht⟩
  · omega
  · subst hA
    refine ⟨g, rfl, hbg, hb.lt, fun o => hb.free o, fun i hi => ?_, by rw [ienc_map, List.length_map, List.length_set]; omega, .inr ⟨g, c, cur.setIfInBounds j (.int .i64 x), rfl, hbg, hb.set j _, hnc, hcm, by simpa using hcs, ?_⟩⟩
    · rw [hb.cell]
      have : (cur.toList.take (n * 1))[i]? = (u.flatMap ienc)[i]? := by rw [ht]
      rw [List.getElem?_take, if_pos (by omega), ienc_map] at this
      rw [← Array.getElem?_toList, this, List.getElem?_map, List.getD_eq_getElem?_getD, List.getElem?_eq_getElem (by omega)]
      rfl
    · rw [Array.toList_setIfInBounds, List.take_set, ht, ienc_map, ienc_map, List.map_set]
theorem own_farH {w : World} {base g k : Nat} {e : TypeId} {m n : Nat} {v : Value} {L : List Value} (h : w.ownsRow base e m v n L) (hg : g < base) (x : Value) : (w.setCell ⟨g, k, none⟩ x).ownsRow base e m v n L := own_far h hg x
set_option maxRecDepth 100000 in
set_option maxHeartbeats 2000000 in
theorem slices_stable (g c gl : Nat) (A : Option Addr) (n cx : Nat) (xs : List GShift) (w : World) (hx : Rd w 3 A n (xs.flatMap GShift.enc)) (hbx : w.cell? ⟨gl, 0, none⟩ = some (.slice A n cx)) (hgl : gl < g) (hA : ∀ b off, A = some ⟨b, off, none⟩ → b < g) (hok : Hid (xs.all shOk = true))
    (hn : n ≤ 20) (hb : PBlk w g 3 (ints (List.range n))) :
    Calls Try.prog 126 #[.slice (some ⟨g, 0, none⟩) n c, .int .i64 n, .func (.func 107) #[] #[.pointer (some ⟨gl, 0, none⟩)]] w fun e w' => e = .returned (.tuple #[]) ∧ w.grownBy w' (some g) ∧ PBlk w' g 3 (ints (ordL xs)) := by
  have cI := Lib.hid (slices_ins g c gl A n cx xs w hx hbx hgl hA hok hn hb)
  clear hx hbx hA hok hb
  by_cases h20 : n = 20
  case neg =>
    have h1 : ¬ (20 : Int) ≤ n := by omega
    have h2 : ¬ (20 : Int) < n := by omega
    go_enter Try.func126, Try.ntmps126
    go_wp2_with fail
    refine wp_loop_rounds 1 ?_
    rw [rounds_succ]
    go_wp2_with (refine cI.out.mono ?_; rintro e w1 ⟨rfl, hg1, hb1⟩; have HG1 := Lib.hid hg1; have HB1 := Lib.hid hb1; clear hg1 hb1)
    refine wp_loop_rounds 1 ?_
    rw [rounds_succ]
    go_wp2
    go_end0
    exact ⟨rfl, HG1.out, HB1.out⟩
  case pos =>
    subst h20
    have c20 : Hid (Calls Try.prog 129 #[.slice (some ⟨g, 0, none⟩) 20 c, .int .i64 0, .int .i64 20, .func (.func 107) #[] #[.pointer (some ⟨gl, 0, none⟩)]] w fun e w' => e = .returned (.tuple #[]) ∧ w.grownBy w' (some g) ∧ PBlk w' g 3 (ints (ordL xs))) := cI.out
    have cN : ∀ W, Calls Try.prog 129 #[.slice (some ⟨g, 0, none⟩) 20 c, .int .i64 20, .int .i64 20, .func (.func 107) #[] #[.pointer (some ⟨gl, 0, none⟩)]] W fun e w' => e = .returned (.tuple #[]) ∧ W = w' := fun W => slices_ins_none _ 20 _ W (by omega)
    have CN := Lib.hid cN
    clear cI cN
    show Calls Try.prog 126 #[.slice (some ⟨g, 0, none⟩) 20 c, .int .i64 20, .func (.func 107) #[] #[.pointer (some ⟨gl, 0, none⟩)]] w _
    go_enter Try.func126, Try.ntmps126
    go_wp2_with fail
    refine wp_loop_rounds 2 ?_
    rw [rounds_succ]
    go_wp2_with (refine c20.out.mono ?_; rintro e w1 ⟨rfl, hg1, hb1⟩; have HG1 := Lib.hid hg1; have HB1 := Lib.hid hb1; clear hg1 hb1)
    rw [rounds_succ]
    go_wp2_with (refine (CN.out _).mono ?_; rintro e w2 ⟨rfl, rfl⟩)
    refine wp_loop_rounds 1 ?_
    rw [rounds_succ]
    go_wp2
    go_end0
    exact ⟨rfl, HG1.out, HB1.out⟩
set_option maxRecDepth 100000 in
set_option maxHeartbeats 1000000 in
theorem slices_SortStable (g c gl : Nat) (A : Option Addr) (n cx : Nat) (xs : List GShift) (w : World) (hx : Rd w 3 A n (xs.flatMap GShift.enc)) (hbx : w.cell? ⟨gl, 0, none⟩ = some (.slice A n cx)) (hgl : gl < g) (hA : ∀ b off, A = some ⟨b, off, none⟩ → b < g) (hok : Hid (xs.all shOk = true))
    (hn : n ≤ 20) (hb : PBlk w g 3 (ints (List.range n))) :
    Calls Try.prog 106 #[.slice (some ⟨g, 0, none⟩) n c, .func (.func 107) #[] #[.pointer (some ⟨gl, 0, none⟩)]] w fun e w' => e = .returned (.tuple #[]) ∧ w.grownBy w' (some g) ∧ PBlk w' g 3 (ints (ordL xs)) := by
  have cI := Lib.hid (slices_stable g c gl A n cx xs w hx hbx hgl hA hok hn hb)
  clear hx hbx hA hok hb
  go_enter Try.func106, Try.ntmps106
  go_wp2_with (refine cI.out.mono ?_; rintro e w1 ⟨rfl, hg1, hb1⟩)
  go_end0
  exact ⟨rfl, hg1, hb1⟩
set_option maxRecDepth 100000 in
set_option maxHeartbeats 1000000 in
theorem slices_SortStable0 (A : Option Addr) (c : Nat) (f : Value) (w : World) :
    Calls Try.prog 106 #[.slice A 0 c, f] w fun e w' => e = .returned (.tuple #[]) ∧ w = w' := by
  have cN : ∀ W, Calls Try.prog 129 #[.slice A 0 c, .int .i64 0, .int .i64 0, f] W fun e w' => e = .returned (.tuple #[]) ∧ W = w' := fun W => slices_ins_none _ 0 _ W (by omega)
  have cS : ∀ W, Calls Try.prog 126 #[.slice A 0 c, .int .i64 0, f] W fun e w' => e = .returned (.tuple #[]) ∧ W = w' := by
    intro W
    go_enter Try.func126, Try.ntmps126
    go_wp2_with fail
    refine wp_loop_rounds 1 ?_
    rw [rounds_succ]
    go_wp2_with (refine (cN _).mono ?_; rintro e w1 ⟨rfl, rfl⟩)
    refine wp_loop_rounds 1 ?_
    rw [rounds_succ]
    go_wp2
    go_end0
    exact ⟨rfl, rfl⟩
  clear cN
  go_enter Try.func106, Try.ntmps106
  go_wp2_with (refine (cS _).mono ?_; rintro e w1 ⟨rfl, rfl⟩)
  go_end0
  exact ⟨rfl, rfl⟩
set_option maxRecDepth 100000 in
set_option maxHeartbeats 1000000 in
theorem impl_FillShifts2 (z rest : Int) (gr gl gi : Nat) (A : Option Addr) (n c : Nat) (xs : List GShift) (i : Nat) (w : World) (hr : w.cell? ⟨gr, 0, none⟩ = some (.int .i64 rest)) (hl : w.cell? ⟨gl, 0, none⟩ = some (.slice A n c)) (hi0 : w.cell? ⟨gi, 0, none⟩ = some (.int .i64 i)) (hx : Rd w 3 A n (xs.flatMap GShift.enc)) (hi : i < n) (hz : 0 ≤ z ∧ z ≤ 10000) (hrest : 0 ≤ rest ∧ rest ≤ 1000) :
    Calls Try.prog 109 #[.int .i64 z, .pointer (some ⟨gr, 0, none⟩), .pointer (some ⟨gl, 0, none⟩), .pointer (some ⟨gi, 0, none⟩)] w fun e w' => e = .returned (.bool (decide (z + rest ≤ shF xs i))) ∧ Ext w w' := by
  obtain ⟨b, off, x, rfl, hbs, hxi, h0, h1, h2⟩ := GShift.at_ hx hi
  rw [shF_at hxi]
  have hin : (i : Int) < n := by omega
  have ew : IntKind.i64.wrap (z + rest) = z + rest := IntWalk.i64_in _ (by omega)
  clear hxi hx
  go_enter Try.func109, Try.ntmps109
  go_wp2_with fail
  go_quiet (fail)
  go_wp2_with fail
  go_ret
  exact ⟨rfl, (Ext.refl _).drewN _⟩
def idxV (st : List Int) (fr rest : Int) : Int := if pickG st fr rest < st.length then (pickG st fr rest : Int) else -1
set_option maxRecDepth 100000 in
set_option maxHeartbeats 1000000 in
theorem slices_IndexFill (B : Option Addr) (k cb : Nat) (st : List Int) (rest : Int) (gr gl gi : Nat) (A : Option Addr) (n c : Nat) (xs : List GShift) (i : Nat) (w : World) (hs : Rd w 1 B k (st.flatMap ienc)) (hr : w.cell? ⟨gr, 0, none⟩ = some (.int .i64 rest)) (hl : w.cell? ⟨gl, 0, none⟩ = some (.slice A n c)) (hi0 : w.cell? ⟨gi, 0, none⟩ = some (.int .i64 i)) (hx : Rd w 3 A n (xs.flatMap GShift.enc)) (hi : i < n) (hst : Hid (∀ z ∈ st, 0 ≤ z ∧ z ≤ 10000)) (hrest : 0 ≤ rest ∧ rest ≤ 1000) (hk : k ≤ 100) :
    Calls Try.prog 108 #[.slice B k cb, .func (.func 109) #[] #[.pointer (some ⟨gr, 0, none⟩), .pointer (some ⟨gl, 0, none⟩), .pointer (some ⟨gi, 0, none⟩)]] w fun e w' => e = .returned (.int .i64 (idxV st (shF xs i) rest)) ∧ Ext w w' := by
  have hlen := Lib.hid (hs.len ienc_len (by omega))
  have lr := World.block_lt_of_cell? w _ hr
  have ll := World.block_lt_of_cell? w _ hl
  have li := World.block_lt_of_cell? w _ hi0
  have HS := Lib.hid hs
  have HC : Hid (∀ (W : World) (z : Int), Ext w W → 0 ≤ z → z ≤ 10000 → Calls Try.prog 109 #[.int .i64 z, .pointer (some ⟨gr, 0, none⟩), .pointer (some ⟨gl, 0, none⟩), .pointer (some ⟨gi, 0, none⟩)] W fun e w' => e = .returned (.bool (decide (z + rest ≤ shF xs i))) ∧ Ext W w') := Lib.hid (fun W z e h0 h1 =>
    impl_FillShifts2 z rest gr gl gi A n c xs i W ((e.cellAt gr lr 0).trans hr) ((e.cellAt gl ll 0).trans hl) ((e.cellAt gi li 0).trans hi0) (hx.keep e) hi ⟨h0, h1⟩ hrest)
  obtain ⟨F, hF⟩ : ∃ F, F = shF xs i := ⟨_, rfl⟩
  rw [← hF] at HC ⊢
  clear hF hr hl hi0 hx hs
  go_enter Try.func108, Try.ntmps108
  go_wp2_with fail
  go_loopw [8] (fun iv wr => ∃ (j : Nat), j ≤ k ∧ iv = .int .i64 j ∧ Hid (∀ q, q < j → ¬ st.getD q 0 + rest ≤ F) ∧ Ext w wr) (fun iv _ => k - (intOf iv).toNat)
  case atStart => exact ⟨0, Nat.zero_le _, rfl, Lib.hid (fun q h => absurd h (by omega)), Ext.refl _⟩
  case round =>
    obtain ⟨j, hj, rfl, hno, hb⟩ := hrel
    by_cases hlt : j < k
    · obtain ⟨b, off, x, rfl, hbs, hxk, h0⟩ := ienc_at (HS.out.keep hb) hlt
      have hxb := hst.out x (List.mem_of_getElem? hxk)
      have cC := Lib.hid (HC.out wr x hb hxb.1 hxb.2)
      have HB := Lib.hid hb
      have HXK := Lib.hid hxk
      clear hb hxk
      by_cases hq : x + rest ≤ F
      · rw [show decide (x + rest ≤ F) = true by simpa using hq] at cC
        have HP : Hid (idxV st F rest = (j : Int)) := by
          unfold Hid idxV
          have hp := pickG_at (st := st) (fr := F) (rest := rest) (g := j) (by rw [hlen.out]; exact hlt) (by rw [List.getD_eq_getElem?_getD, HXK.out]; exact hq) hno.out
          rw [hp, if_pos (by rw [hlen.out]; exact hlt)]
        clear hq
        go_wp2_with (refine cC.out.mono ?_; rintro e w1 ⟨rfl, hb1⟩; have HB1 := Lib.hid hb1; clear hb1)
        go_ret
        exact ⟨ret_int HP.out.symm, HB.out.trans HB1.out⟩
      · rw [show decide (x + rest ≤ F) = false by simpa using hq] at cC
        have Hq := Lib.hid hq
        clear hq
        go_wp2_with (refine cC.out.mono ?_; rintro e w1 ⟨rfl, hb1⟩; have HB1 := Lib.hid hb1; clear hb1)
        go_roundw
        case rel => exact ⟨j + 1, by omega, by go_num, Lib.hid (fun q h => by
          by_cases hqj : q < j
          · have := hno.out q hqj; omega
          · obtain rfl : q = j := by omega
            rw [List.getD_eq_getElem?_getD, HXK.out]
            have := Hq.out
            show ¬ x + rest ≤ F
            omega), HB.out.trans HB1.out⟩
        case measure => simp [intOf]; omega
    · obtain rfl : j = k := by omega
      have HP : Hid (idxV st F rest = -1) := by
        unfold Hid idxV
        rw [pickG_none (fun q h => hno.out q (by rw [← hlen.out]; exact h)), if_neg (Nat.lt_irrefl _)]
      go_wp2_with fail
      go_ret
      exact ⟨ret_int HP.out.symm, hb⟩
end Go.Proofs.Ytlgmiifpdjalpaa
