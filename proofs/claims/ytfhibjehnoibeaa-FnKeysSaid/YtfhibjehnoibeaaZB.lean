/- Texts of one proof, laid one behind the other (KQ, KB, SHa, SHb, SHc, SHd, SHe, SHf, SHg, SHh); no condition but what stands at each theorem. -/
import Derived.IntWalk
import Derived.Deep.DeepFit
import Derived.KernelRfl
import Derived.Laws.CopyOwn
import Derived.Deep.RegionLaw
import Derived.RegionTactic
import Derived.Lib.SliceRun
import Derived.Test.YtfhibjehnoibeaaZA
/- A queue of ints: a row of the call's own that is appended to and cut at its head, beside another row that it must not touch; no condition but what stands at each theorem. -/
namespace Go.Proofs.Ytfhibjehnoibeaa
set_option linter.unusedSimpArgs false
set_option linter.unusedVariables false
open Go.RowKit
def QRow (w : World) (base : Nat) (av : List Nat) (t : TypeId) (v : Value) (L : List Int) : Prop :=
  ∃ g off cap, ∃ cur : Array Value, v = .slice (some ⟨g, off, none⟩) L.length cap ∧ base ≤ g ∧ (∀ x ∈ av, g ≠ x) ∧ Blk w g t cur ∧ off + cap ≤ cur.size ∧ L.length ≤ cap ∧ ∀ j, j < L.length → cur[off + j]? = some (.int .i64 (L.getD j 0))
section
variable {w w' : World} {base : Nat} {av : List Nat} {t : TypeId} {v : Value} {L : List Int}
theorem QRow.keep (h : QRow w base av t v L) (e : Ext w w') : QRow w' base av t v L := by
  obtain ⟨g, off, cap, cur, h1, h2, h3, h4, h5⟩ := h
  exact ⟨g, off, cap, cur, h1, h2, h3, h4.keep e, h5⟩
theorem QRow.far (h : QRow w base av t v L) {gF : Nat} (hF : gF ∈ av) (k : Nat) (x : Value) : QRow (w.setCell ⟨gF, k, none⟩ x) base av t v L := by
  obtain ⟨g, off, cap, cur, h1, h2, h3, h4, h5⟩ := h
  exact ⟨g, off, cap, cur, h1, h2, h3, h4.far (h3 gF hF) x, h5⟩
/-- Its form, and its cells. -/
theorem QRow.form (h : QRow w base av t v L) : ∃ g off cap, v = .slice (some ⟨g, off, none⟩) L.length cap ∧ base ≤ g ∧ (∀ x ∈ av, g ≠ x) ∧ g < w.heap.size ∧ ∀ j, j < L.length → w.cell? ⟨g, off + j, none⟩ = some (.int .i64 (L.getD j 0)) := by
  obtain ⟨g, off, cap, cur, h1, h2, h3, h4, h5, h6, h7⟩ := h
  exact ⟨g, off, cap, h1, h2, h3, h4.lt, fun j hj => by rw [h4.cell]; exact h7 j hj⟩
theorem QRow.other (h : QRow w base av t v L) {av' : List Nat} (ha : ∀ x ∈ av', x ∈ av ∨ w.heap.size ≤ x) : QRow w base av' t v L := by
  obtain ⟨g, off, cap, cur, h1, h2, h3, h4, h5⟩ := h
  refine ⟨g, off, cap, cur, h1, h2, fun x hx => ?_, h4, h5⟩
  rcases ha x hx with h | h
  · exact h3 x h
  · have := h4.lt; omega
theorem QRow.tail {P : Program} {t' : TypeId} {x : Int} (hu : P.underlying t' = some (.slice t)) (hs : ∀ w : World, (sizeOf t).run P w = .ok 1 w) (h : QRow w base av t v (x :: L)) :
    ∃ v', (∀ w1 : World, (Instr.slice t' v (some (.int .i64 1)) none none).run P w1 = .ok v' w1) ∧ QRow w base av t v' L := by
  obtain ⟨g, off, cap, cur, rfl, h2, h3, h4, h5, h6, h7⟩ := h
  have h6' : L.length + 1 ≤ cap := by simpa using h6
  have hb : ∀ (w1 : World) (code : BoundsCode), (Instr.sliceBound (.int .i64 1) (L.length + 1) code).run P w1 = .ok 1 w1 := by
    intro w1 code
    rw [run_sliceBound w1 .i64 1 (L.length + 1) code (by omega) (by omega)]
    rfl
  refine ⟨.slice (if cap = 1 then some ⟨g, off, none⟩ else some ⟨g, off + 1, none⟩) L.length (cap - 1), fun w1 => ?_, ?_⟩
  · simp only [Instr.slice, Sem.run_bind, run_underlying hu, Result.andThen, Instr.sliceBounds, List.length_cons, hb, hs, Sem.run_pure]
    by_cases hc : cap = 1
    · simp [hc]
    · simp [hc, add_none]
  · by_cases hc : cap = 1
    · rw [if_pos hc]
      refine ⟨g, off, cap - 1, cur, rfl, h2, h3, h4, by omega, by omega, fun j hj => ?_⟩
      omega
    · rw [if_neg hc]
      refine ⟨g, off + 1, cap - 1, cur, rfl, h2, h3, h4, by omega, by omega, fun j hj => ?_⟩
      have := h7 (j + 1) (by simp; omega)
      rw [show off + 1 + j = off + (j + 1) by omega, this]
      simp
end
theorem QRow.append {P : Program} {ops : Array Oper} {rest : List Oper} {o : Oper} {a : Act} {Q : Exit → Act → World → Prop} {st t : TypeId} (hE : EI P st t 1) (hgd : o.guard = none) (s x : Operand)
    (ho : o.op = .call { callee := .builtin .append, args := #[s, x], argTypes := #[st, st] }) (base : Nat) (av : List Nat) (W : World) (T : TypeId) (v : Value) (L : List Int) (hs : a.eval s = v) (hq : QRow W base av t v L) (z : Int)
    (hx : a.eval x = .slice (some ⟨W.heap.size, 0, none⟩) 1 1) (hn : L.length ≤ 1073741824) (hbase : base ≤ W.heap.size) (hgF : ∀ x ∈ av, x < W.heap.size)
    (h : ∀ v' w1, QRow w1 base av t v' (L ++ [z]) → (∀ b, Ext b W → b.heap.size ≤ base → Ext b w1) → (∀ x ∈ av, ∀ tt cs, Blk W x tt cs → Blk w1 x tt cs) → wpList P ops Q rest (a.put o.dst v') w1) : wpList P ops Q (o :: rest) a (W.alloc (.cells #[.int .i64 z] T)) := by
  obtain ⟨i, zz, hu, hi, hz, hsz, hby, hzs, h0⟩ := hE
  obtain ⟨g, off, cap, cur, rfl, h2, h3, h4, h5, h6, h7⟩ := hq
  have hgW := h4.lt
  have h4a := h4.keep ((Ext.refl W).alloc (.cells #[.int .i64 z] T))
  refine wpList_append_arg _ hgd s x st ho t i zz 1 i.bytes hu hi hz hsz rfl hzs h0 g off L.length cap (L.map (Value.int .i64)) hs (by simp) ?_ ⟨W.heap.size, 0, none⟩ 1 1 [.int .i64 z] hx (by simp) ?_ ?_ ?_ (by unfold maxLen; omega) ?_ ?_ ?_
  · intro j u hu'
    have hj : j < L.length := by have := (List.getElem?_eq_some_iff.1 hu').1; simpa using this
    rw [h4a.cell, h7 j hj, ← hu']
    simp [hj]
  · intro j u hu'
    rw [add_none, Nat.zero_add, World.cell?_alloc_new]
    simpa using hu'
  · intro u hu'; simp at hu'; subst hu'; rfl
  · intro hr j hj
    simp at hj
    subst hj
    rw [h4a.cell]
    refine ⟨?_, h4a.free _⟩
    have : off + L.length * 1 + 0 < cur.size := by omega
    rw [Array.getElem?_eq_getElem this]; rfl
  · have := Nat.mul_le_mul_left (L.length + 1) hby
    omega
  · intro hr
    refine h _ _ ?_ ?_ ?_
    · refine ⟨g, off, cap, cur.setIfInBounds (off + L.length * 1) (.int .i64 z), by simp, h2, h3, h4a.set _ _, by simpa using h5, by simpa using hr, fun j hj => ?_⟩
      simp only [List.length_append, List.length_cons, List.length_nil] at hj
      by_cases hjl : j = L.length
      · subst hjl
        have : off + L.length < cur.size := by omega
        simp [this]
      · rw [Array.getElem?_setIfInBounds, if_neg (by omega), h7 j (by omega)]
        simp [List.getElem?_append_left (show j < L.length by omega)]
    · intro b hb hbb
      exact (hb.alloc _).setCell (p := ⟨g, _, none⟩) (by simp only; omega) _
    · intro gF hgFm tt cs hc
      exact (hc.keep ((Ext.refl W).alloc _)).far (p := ⟨g, _, none⟩) (Ne.symm (h3 gF hgFm)) _
  · intro _ v' w' ho' hg
    obtain ⟨A', c', rfl, hnc⟩ := own_form ho'
    rcases own_block ho' with ⟨_, hl0, _⟩ | ⟨g', cur', rfl, hb', hB', hnc', _, hcs', ht'⟩
    · omega
    · have hs' : W.heap.size + 1 ≤ g' := by simpa using hb'
      refine h _ _ ?_ ?_ ?_
      · refine ⟨g', 0, c', cur', by simp, by omega, fun x hx => (by have := hgF x hx; omega), hB', by omega, by simpa using hnc', fun j hj => ?_⟩
        have h8 : (cur'.toList.take ((L.length + 1) * 1))[j]? = (L.map (Value.int .i64) ++ [.int .i64 z])[j]? := by rw [ht']
        simp only [List.length_append, List.length_cons, List.length_nil] at hj
        rw [List.getElem?_take, if_pos (by omega)] at h8
        rw [Nat.zero_add, ← Array.getElem?_toList, h8]
        have e : L.map (Value.int .i64) ++ [.int .i64 z] = (L ++ [z]).map (Value.int .i64) := by simp
        have hj2 : j < (L ++ [z]).length := by simp; omega
        rw [e, List.getElem?_map, List.getElem?_eq_getElem hj2, List.getD_eq_getElem?_getD, List.getElem?_eq_getElem hj2]
        rfl
      · intro b hb hbb
        exact (hb.alloc _).grown hg (fun k hk => by cases hk)
      · intro gF hgFm tt cs hc
        have hgF' := hgF gF hgFm
        have := hc.keep ((Ext.refl W).alloc (.cells #[.int .i64 z] T))
        unfold Blk at this ⊢
        rw [hg.block gF (by simp; omega) (by simp)]
        exact this
/-- A literal of one element. -/
theorem QRow.one (W : World) (base : Nat) (av : List Nat) (t : TypeId) (z : Int) (hb : base ≤ W.heap.size) (hg : ∀ x ∈ av, x < W.heap.size) : QRow (W.alloc (.cells #[.int .i64 z] t)) base av t (.slice (some ⟨W.heap.size, 0, none⟩) 1 1) [z] :=
  ⟨W.heap.size, 0, 1, #[.int .i64 z], rfl, hb, fun x hx => (by have := hg x hx; omega), Blk.new _ _ _, by simp, by simp, fun j hj => by simp at hj; subst hj; rfl⟩
theorem hsz_alloc (w : World) (o : Obj) : (w.alloc o).heap.size = w.heap.size + 1 := by simp
/-- A struct of two cells in a box. -/
theorem box2 (w : World) (v1 v2 : Value) (t : TypeId) (wb : World) (hwb : wb = w.alloc (.cells #[v1, v2] t)) :
    Ext w wb ∧ wb.heap.size = w.heap.size + 1 ∧ wb.cell? ⟨w.heap.size, 0, none⟩ = some v1 ∧ wb.cell? ⟨w.heap.size, 1, none⟩ = some v2 := by
  subst hwb
  exact ⟨(Ext.refl w).alloc _, by simp, by rw [World.cell?_alloc_new]; rfl, by rw [World.cell?_alloc_new]; rfl⟩
end Go.Proofs.Ytfhibjehnoibeaa
/- Bits of small numbers; no condition but what stands at each theorem. -/
namespace Go.Proofs.Ytfhibjehnoibeaa
set_option linter.unusedSimpArgs false
set_option linter.unusedVariables false
open Go.RowKit
theorem bits_and_one (m : Nat) (h : m < 9223372036854775808) : bits .and .i64 (m : Int) 1 = ((m % 2 : Nat) : Int) := by
  have e : bits .and .i64 (m : Int) 1 = IntKind.i64.wrap ((BitVec.ofInt 64 (m : Int) &&& BitVec.ofInt 64 1).toNat : Int) := rfl
  have e2 : (BitVec.ofInt 64 (m : Int) &&& BitVec.ofInt 64 1).toNat = m % 2 := by
    rw [BitVec.toNat_and, BitVec.toNat_ofInt, BitVec.toNat_ofInt]
    have h1 : ((m : Int) % ((2 ^ 64 : Nat) : Int)).toNat = m := by omega
    have h2 : ((1 : Int) % ((2 ^ 64 : Nat) : Int)).toNat = 1 := by decide
    rw [h1, h2, Nat.and_one_is_mod]
  rw [e, e2]
  exact IntWalk.i64_in _ (by omega)
theorem bits_or (a b : Nat) (ha : a < 4611686018427387904) (hb : b < 4611686018427387904) : bits .or .i64 (a : Int) (b : Int) = ((a ||| b : Nat) : Int) := by
  have e : bits .or .i64 (a : Int) (b : Int) = IntKind.i64.wrap ((BitVec.ofInt 64 (a : Int) ||| BitVec.ofInt 64 (b : Int)).toNat : Int) := rfl
  have e2 : (BitVec.ofInt 64 (a : Int) ||| BitVec.ofInt 64 (b : Int)).toNat = a ||| b := by
    rw [BitVec.toNat_or, BitVec.toNat_ofInt, BitVec.toNat_ofInt]
    have h1 : ((a : Int) % ((2 ^ 64 : Nat) : Int)).toNat = a := by omega
    have h2 : ((b : Int) % ((2 ^ 64 : Nat) : Int)).toNat = b := by omega
    rw [h1, h2]
  have h3 : a ||| b < 4611686018427387904 := Nat.or_lt_two_pow (n := 62) ha hb
  rw [e, e2]
  exact IntWalk.i64_in _ (by omega)
theorem div_pow (s k : Nat) : ((s : Int) / 2 ^ k) = ((s >>> k : Nat) : Int) := by
  rw [Nat.shiftRight_eq_div_pow]; push_cast; rfl
theorem bit_test (s k : Nat) (h : s < 9223372036854775808) : (bits .and .i64 ((s : Int) / 2 ^ k) 1 == 1) = ((s >>> k) % 2 == 1) := by
  have h1 : s >>> k < 9223372036854775808 := Nat.lt_of_le_of_lt (by rw [Nat.shiftRight_eq_div_pow]; exact Nat.div_le_self _ _) h
  rw [div_pow, bits_and_one _ h1, Bool.eq_iff_iff]
  simp only [beq_iff_eq]
  omega
def bitB (s k : Nat) : Bool := (s >>> k) % 2 == 1
end Go.Proofs.Ytfhibjehnoibeaa
/- Contracts of linksOf and l23Door; no condition but what stands at each theorem. -/
namespace Go.Proofs.Ytfhibjehnoibeaa
set_option linter.unusedSimpArgs false
set_option linter.unusedVariables false
open Go.RowKit Go.Sort
theorem ei_I : EI Try.prog 27 3 1 := ei_of Try.underlying27 (by omega) (by kernel_rfl)
theorem sz_int (w : World) : (sizeOf 3).run Try.prog w = .ok 1 w := by kernel_rfl
theorem mk_int (n : Nat) (hn : n ≤ 1048576) (w : World) : (Instr.makeSlice 27 (.int .i64 (n : Int)) (.int .i64 (n : Int))).run Try.prog w = .ok (.slice (some ⟨w.heap.size, 0, none⟩) n n) (w.alloc (.cells ((List.replicate n (0 : Int)).map (Value.int .i64)).toArray 3)) := by
  have hin : (Try.prog.info? 3).map (fun i => (i.zero.map (·.cells.size), i.size, decide (i.bytes ≤ 4096))) = some (some 1, 1, true) := by kernel_rfl
  cases hi : Try.prog.info? 3 with
  | none => rw [hi] at hin; cases hin
  | some i =>
  have hz : i.zero = some (.int .i64 0) := by
    have h : (Try.prog.info? 3).map (fun i => i.zero) = some (some (.int .i64 0)) := by kernel_rfl
    rw [hi] at h; simpa using h
  rw [hi] at hin
  simp only [Option.map_some, Option.some.injEq, Prod.mk.injEq, decide_eq_true_eq] at hin
  obtain ⟨-, hsz, hby⟩ := hin
  have h := make_row (P := Try.prog) 27 3 i _ Try.underlying27 hi hz n (by have := Nat.mul_le_mul hby hn; omega) (by omega) w
  rw [hsz, made_ints] at h
  exact h
set_option maxRecDepth 100000 in
set_option maxHeartbeats 2000000 in
theorem impl_linksOf (nh : Nat) (A : Option Addr) (n c : Nat) (ds : List GDoor) (x : Int) (w : World) (hx : Rd w 2 A n (ds.flatMap GDoor.enc)) (hh : nh ≤ 7) (hn12 : n ≤ 12) :
    Calls Try.prog 27 #[.agg #[.int .i64 nh, .slice A n c], .int .i64 x] w fun e w' => ∃ v, e = .returned v ∧ Ext w w' ∧ w'.ownsRow w.heap.size 3 1 v (linksTo ds x nh).length ((linksTo ds x nh).flatMap ienc) := by
  have hl := Lib.hid (hx.len GDoor.len (by omega))
  have hmin := @run_imin Try.prog
  have hmax := @run_imax Try.prog
  obtain ⟨wb, hwb⟩ : ∃ wb, wb = w.alloc (.cells #[.int .i64 (nh : Int), .slice A n c] 26) := ⟨_, rfl⟩
  obtain ⟨hEb, hsb, k0, k1⟩ := box2 w _ _ _ wb hwb
  have HEb := Lib.hid hEb
  have Hwb := Lib.hid hwb
  have hxb := hx.keep hEb
  have ho0 := own_empty wb (w.heap.size + 1) 3 1 (by omega)
  rw [hsb] at ho0
  have HO0 := Lib.hid ho0
  have Hk0 := Lib.hid k0
  have Hk1 := Lib.hid k1
  have Hsb := Lib.hid hsb
  clear hwb hEb hx k0 k1 hsb ho0
  go_enter Try.func27, Try.ntmps27
  go_wp2_with fail
  rw [← Hwb.out]
  go_loopw [5, 6] (fun o i wr => ∃ (k : Nat) (L : List Int), k ≤ nh ∧ i = .int .i64 k ∧ wr.ownsRow (w.heap.size + 1) 3 1 o L.length (L.flatMap ienc) ∧ Hid (L = linksTo ds x k) ∧ Ext wb wr) (fun _ i _ => nh - (intOf i).toNat)
  case atStart => exact ⟨0, [], Nat.zero_le _, rfl, HO0.out, rfl, (Ext.refl _).alloc _⟩
  case round =>
    obtain ⟨wo, rfl⟩ : ∃ wo : World, wo = wr := ⟨_, rfl⟩
    obtain ⟨k, L, hk, rfl, hown, hz, hb⟩ := hrel
    have r0 := (hb.cellAt w.heap.size (by rw [Hsb.out]; omega) 0).trans Hk0.out
    have r1 := (hb.cellAt w.heap.size (by rw [Hsb.out]; omega) 1).trans Hk1.out
    by_cases hlt : k < nh
    · have HO := Lib.hid hown
      have HB := Lib.hid hb
      have hsw := hb.size
      have hsw1 : w.heap.size + 1 ≤ wb.heap.size := by rw [Hsb.out]; exact Nat.le_refl _
      clear hown hb
      go_wp2_with fail
      go_loopw [5, 19] (fun o i wi => ∃ (j : Nat) (L2 : List Int), j ≤ n ∧ i = .int .i64 j ∧ wi.ownsRow (w.heap.size + 1) 3 1 o L2.length (L2.flatMap ienc) ∧ Hid (L2 = linksTo ds x k ++ ((ds.take j).filter (isDoor x k)).map fun _ => (k : Int)) ∧ Hid (L2.length ≤ L.length + j) ∧ Ext wb wi) (fun _ i _ => n - (intOf i).toNat)
      case atStart => exact ⟨0, L, Nat.zero_le _, rfl, HO.out, by unfold Hid; rw [hz.out]; simp, by unfold Hid; omega, HB.out⟩
      case round =>
        obtain ⟨j, L2, hj, rfl, hown2, hz2, hLj, hbi⟩ := hrel
        have hLk : L.length ≤ 84 := by
          rw [hz.out]
          have h1 := linksTo_len ds x k
          rw [hl.out] at h1
          have h2 : k * n ≤ 7 * 12 := Nat.mul_le_mul (by omega) hn12
          omega
        by_cases hjl : j < n
        · obtain ⟨b, off, d, rfl, hbs, hdk, h0, h1⟩ := GDoor.at_ (hxb.keep hbi) hjl
          have HD := Lib.hid (take_snoc hdk)
          have HO2 := Lib.hid hown2
          have HBi := Lib.hid hbi
          have hsi := hbi.size
          rw [Hsb.out] at hsi
          clear hown2 hbi hdk
          by_cases ea : d.a = imin x k
          case neg =>
            have hdo : Hid (isDoor x k d = false) := by unfold Hid isDoor; rw [beq_eq_false_iff_ne.2 ea]; rfl
            go_wp2_with fail
            go_roundw
            case rel => exact ⟨j + 1, L2, by omega, by go_num, own_keep HO2.out ((Ext.refl wr).alloc _), by unfold Hid; rw [hz2.out, HD.out, List.filter_append]; simp [hdo.out], by have := hLj.out; unfold Hid; omega, HBi.out.alloc _⟩
            case measure => simp [intOf]; omega
          by_cases eb : d.b = imax x k
          case neg =>
            have hdo : Hid (isDoor x k d = false) := by unfold Hid isDoor; rw [beq_eq_false_iff_ne.2 eb, Bool.and_false]
            go_wp2_with fail
            go_roundw
            case rel => exact ⟨j + 1, L2, by omega, by go_num, own_keep HO2.out ((Ext.refl wr).alloc _), by unfold Hid; rw [hz2.out, HD.out, List.filter_append]; simp [hdo.out], by have := hLj.out; unfold Hid; omega, HBi.out.alloc _⟩
            case measure => simp [intOf]; omega
          have hdo : Hid (isDoor x k d = true) := by unfold Hid isDoor; rw [ea, eb]; simp
          go_wp2_with (at_builtin; refine append1 ei_I rfl _ _ rfl (w.heap.size + 1) _ _ u5 L2.length _ (by rfl) (own_keep HO2.out ((Ext.refl wr).alloc _)) [.int .i64 k] (by rw [hsz_alloc]; rfl) rfl (by intro u hu; simp at hu; subst hu; rfl) (by have := hLj.out; omega) (by rw [hsz_alloc]; omega) ?_; intro v' w2 ho2 he2; have HO3 := Lib.hid ho2; have HE3 := Lib.hid (he2 wb (HBi.out.alloc _) (by rw [Hsb.out]; exact Nat.le_refl _)); clear ho2 he2)
          go_roundw
          case rel =>
            refine ⟨j + 1, L2 ++ [(k : Int)], by omega, by go_num, ?_, by unfold Hid; rw [hz2.out, HD.out, List.filter_append]; simp [hdo.out], by have := hLj.out; unfold Hid; simp; omega, HE3.out⟩
            have := HO3.out
            simpa [ienc] using this
          case measure => simp [intOf]; omega
        · obtain rfl : j = n := by omega
          go_wp2_with fail
          go_roundw
          case rel => exact ⟨k + 1, L2, by omega, by go_num, hown2, by unfold Hid; rw [hz2.out, linksTo_succ, List.take_of_length_le (by rw [hl.out]; omega)], hbi⟩
          case measure => simp [intOf]; omega
    · obtain rfl : k = nh := by omega
      go_wp2_with fail
      go_ret
      exact ⟨_, rfl, HEb.out.trans hb, by rw [← hz.out]; exact own_weak hown (by omega)⟩
end Go.Proofs.Ytfhibjehnoibeaa
/- Contracts of Repeat and Reverse of slices, of what they call; no condition but what stands at each theorem. -/
namespace Go.Proofs.Ytfhibjehnoibeaa
set_option linter.unusedSimpArgs false
set_option linter.unusedVariables false
open Go.RowKit Go.Sort
set_option maxRecDepth 100000 in
set_option maxHeartbeats 2000000 in
theorem bits_Mul64 (h : Nat) (h1 : 1 ≤ h) (h7 : h ≤ 7) (w : World) : Calls Try.prog 32 #[.int .u64 1, .int .u64 (h : Int)] w fun e w' => e = .returned (.tuple #[.int .u64 0, .int .u64 (h : Int)]) ∧ w = w' := by
  have hc : h = 1 ∨ h = 2 ∨ h = 3 ∨ h = 4 ∨ h = 5 ∨ h = 6 ∨ h = 7 := by omega
  rcases hc with rfl | rfl | rfl | rfl | rfl | rfl | rfl
  all_goals
    go_enter Try.func32, Try.ntmps32
    go_wp2
    go_ret2
    exact ⟨rfl, rfl⟩
theorem bits_Mul (h : Nat) (h1 : 1 ≤ h) (h7 : h ≤ 7) (w : World) : Calls Try.prog 30 #[.int .u64 1, .int .u64 (h : Int)] w fun e w' => e = .returned (.tuple #[.int .u64 0, .int .u64 (h : Int)]) ∧ w = w' := by
  go_enter Try.func30, Try.ntmps30
  go_wp2_with (go_at_call 32; refine (bits_Mul64 h h1 h7 _).mono ?_; rintro e w1 ⟨rfl, rfl⟩)
  go_ret2
  exact ⟨rfl, rfl⟩
def filled (h k : Nat) : List Int := List.replicate k (-1) ++ List.replicate (h - k) 0
theorem filled_len {h k : Nat} (hk : k ≤ h) : (filled h k).length = h := by simp [filled]; omega
theorem filled_zero (h : Nat) : filled h 0 = List.replicate h 0 := by simp [filled]
theorem filled_all (h : Nat) : filled h h = List.replicate h (-1) := by simp [filled]
theorem filled_splice {h k m : Nat} (hk : k + m ≤ h) : splice ((filled h k).map (Value.int .i64)) k ((List.replicate m (-1 : Int)).map (Value.int .i64)) = (filled h (k + m)).map (Value.int .i64) := by
  unfold splice filled
  apply List.ext_getElem?
  intro j
  simp only [List.map_append, List.map_replicate, List.length_replicate]
  by_cases h1 : j < k
  · simp [List.getElem?_append, List.getElem?_take, List.getElem?_replicate, h1, show j < k + m by omega]
  · by_cases h2 : j < k + m
    · simp [List.getElem?_append, List.getElem?_take, List.getElem?_replicate, h1, h2, show j - k < m by omega, show min k (k + (h - k)) = k by omega]
    · simp [List.getElem?_append, List.getElem?_take, List.getElem?_drop, List.getElem?_replicate, h1, h2, show ¬ j - k < m by omega, show min k (k + (h - k)) = k by omega]
      by_cases h3 : j < h
      · simp [show ¬ (k + m + (j - k - m)) < k by omega, show (k + m + (j - k - m)) - k < h - k by omega, show j - (k + m) < h - (k + m) by omega]
      · simp [show ¬ (k + m + (j - k - m)) < k by omega, show ¬ (k + m + (j - k - m)) - k < h - k by omega, show ¬ j - (k + m) < h - (k + m) by omega]
set_option maxRecDepth 100000 in
set_option maxHeartbeats 2000000 in
theorem slices_Repeat (h : Nat) (h1 : 1 ≤ h) (h7 : h ≤ 7) (g0 c0 : Nat) (w : World) (hg : w.cell? ⟨g0, 0, none⟩ = some (.int .i64 (-1))) (hg0 : g0 < w.heap.size) :
    Calls Try.prog 28 #[.slice (some ⟨g0, 0, none⟩) 1 c0, .int .i64 (h : Int)] w fun e w' => e = .returned (.slice (some ⟨w.heap.size, 0, none⟩) h h) ∧ Ext w w' ∧ IBlk w' w.heap.size 3 (List.replicate h (-1)) := by
  obtain ⟨cl, hcl⟩ : ∃ cl, cl = (filled h 0).map (Value.int .i64) := ⟨_, rfl⟩
  have hmk := mk_int h (by omega)
  rw [← filled_zero, ← hcl] at hmk
  have hclen : cl.length = h := by rw [hcl]; simp [filled]
  have Hclen := Lib.hid hclen
  have HB0 := Lib.hid (Blk.new w 3 cl.toArray)
  have HE0 := Lib.hid ((Ext.refl w).alloc (.cells cl.toArray 3))
  have Hg := Lib.hid ((HE0.out.cellAt g0 hg0 0).trans hg)
  have hsp : splice cl 0 [.int .i64 (-1)] = (filled h 1).map (Value.int .i64) := by
    have := filled_splice (h := h) (k := 0) (m := 1) (by omega)
    rw [hcl]; exact this
  have HSp := Lib.hid hsp
  clear hcl hclen hsp
  have d0 : decide ((h : Int) < 0) = false := by simp
  have d1 : decide ((9223372036854775807 : Int) < (h : Int)) = false := by simp; omega
  go_enter Try.func28, Try.ntmps28
  go_wp2_with (first | (go_at_call 30; refine (bits_Mul h h1 h7 _).mono ?_; rintro e w1 ⟨rfl, rfl⟩) | (refine wpList_copy_splice rfl (.tmp 31) (.tmp 32) 27 27 rfl 3 Try.underlying27 (by kernel_rfl) _ _ h h 1 c0 (by rfl) (by rfl) w.heap.size 0 cl 3 HB0.out [.int .i64 (-1)] (by simp [Nat.min_eq_left h1]) (fun _ => ⟨rfl, ⟨g0, 0, none⟩, rfl, fun j v hv => by cases j with | zero => (rw [add_none, ← hv]; exact Hg.out) | succ j => simp at hv⟩) (by rw [Hclen.out]; simpa using h1) (by intro v hv; simp at hv; subst hv; rfl) w.heap.size w HE0.out (Nat.le_refl _) ?_; intro w2 hg2 hb2))
  have hb2' := hb2
  have hi2 : IBlk w2 w.heap.size 3 (filled h 1) := by
    have := hg2.out
    rw [HSp.out] at this
    exact this
  have HI2 := Lib.hid hi2
  have HE2 : Hid (Ext w w2) := hb2'
  clear hb2 hb2' hi2 hg2 hmk
  go_loopw [8] (fun i wr => ∃ k : Nat, 1 ≤ k ∧ k ≤ h ∧ i = .int .i64 k ∧ Hid (IBlk wr w.heap.size 3 (filled h k)) ∧ Ext w wr) (fun i _ => h - (intOf i).toNat)
  case atStart => exact ⟨1, Nat.le_refl _, h1, rfl, HI2.out, HE2.out⟩
  case round =>
    obtain ⟨k, hk1, hk, rfl, hI, hb⟩ := hrel
    by_cases hlt : k < h
    · have hne : ¬ h = k := by omega
      have hne2 : ¬ h = 0 := by omega
      obtain ⟨m, hm⟩ : ∃ m, m = Nat.min k (h - k) := ⟨_, rfl⟩
      have hm1 : 1 ≤ m := by rw [hm]; exact Nat.le_min.2 ⟨hk1, by omega⟩
      have hm2 : k + m ≤ h := by have : m ≤ h - k := by rw [hm]; exact Nat.min_le_right _ _
                                 omega
      have hmk2 : m ≤ k := by rw [hm]; exact Nat.min_le_left _ _
      have HM := Lib.hid hm
      have HB := Lib.hid hb
      have HID : Hid (Blk (wr.drew) w.heap.size 3 ((filled h k).map (Value.int .i64)).toArray) := hI.out
      have hsp := filled_splice (h := h) (k := k) (m := m) hm2
      have HSP := Lib.hid hsp
      have HCE : Hid (∀ j v, ((List.replicate m (-1 : Int)).map (Value.int .i64))[j]? = some v → wr.drew.cell? ((⟨w.heap.size, 0, none⟩ : Addr).add j) = some v) := by
        unfold Hid
        intro j v hv
        have hj : j < m := by have := (List.getElem?_eq_some_iff.1 hv).1; simpa using this
        have hv2 : v = .int .i64 (-1) := by
          simp only [List.map_replicate, List.getElem?_replicate, hj, if_true] at hv
          injection hv with hv; exact hv.symm
        rw [add_none, Nat.zero_add, HID.out.cell, hv2]
        simp [filled, List.getElem?_append, show j < k by omega]
      clear hm hb hsp
      go_wp2_with fail
      go_region_law ((refine step_copy_splice (by rfl) (.tmp 41) (.tmp 44) 27 27 (by rfl) 3 Try.underlying27 (by kernel_rfl) (some ⟨w.heap.size, k, none⟩) (some ⟨w.heap.size, 0, none⟩) (h - k) (h - k) k h (by simp [go_sem]) (by simp [go_sem]) w.heap.size k ((filled h k).map (Value.int .i64)) 3 HID.out ((List.replicate m (-1 : Int)).map (Value.int .i64)) (by rw [List.length_map, List.length_replicate]; exact HM.out) (fun _ => ⟨rfl, _, rfl, HCE.out⟩) (by simp [filled]; omega) (by intro v hv; simp at hv; rw [hv.2]; rfl) w.heap.size w HB.out.drew (Nat.le_refl _) ?_; intro w3 hg3 hb3))
      have hi3 : IBlk w3 w.heap.size 3 (filled h (k + m)) := by
        have := hg3.out
        rw [HSP.out] at this
        exact this
      have HI3 := Lib.hid hi3
      have HE3 : Hid (Ext w w3) := hb3
      clear hg3 hb3 hi3
      have hwr : IntKind.i64.wrap ((k : Int) + (m : Int)) = ((k + m : Nat) : Int) := by rw [IntWalk.i64_in _ (by omega)]; push_cast; rfl
      rw [hwr]
      clear hwr
      go_simp
      go_roundw
      case rel => exact ⟨.int .i64 ((k : Int) + (m : Int)), _, _, _, _, _, _, _, _, _, _, _, _, _, ⟨k + m, by omega, hm2, by push_cast; rfl, HI3.out, HE3.out⟩, rfl⟩
      case measure => simp [intOf]; omega
    · obtain rfl : k = h := by omega
      go_wp2_with fail
      go_ret
      exact ⟨rfl, hb, by have := hI.out; rw [filled_all] at this; exact this⟩
end Go.Proofs.Ytfhibjehnoibeaa
/- Contract of Reverse of slices; no condition but what stands at each theorem. -/
namespace Go.Proofs.Ytfhibjehnoibeaa
set_option linter.unusedSimpArgs false
set_option linter.unusedVariables false
open Go.RowKit Go.Sort
theorem grown_drw {a w : World} {row : Option Nat} (h : a.grownBy w row) : a.grownBy w.drew row := ⟨h.os, h.tape, h.output, h.size, h.block⟩
set_option maxRecDepth 100000 in
set_option maxHeartbeats 2000000 in
theorem slices_Reverse (g n c : Nat) (u : List Int) (w : World) (hb : PBlk w g 3 u) (hul : u.length = n) (hn : n ≤ 1073741824) :
    Calls Try.prog 29 #[.slice (some ⟨g, 0, none⟩) n c] w fun e w' => e = .returned (.tuple #[]) ∧ w.grownBy w' (some g) := by
  have HU := Lib.hid hul
  clear hul
  go_enter Try.func29, Try.ntmps29
  go_wp2_with fail
  go_loopw [2, 3] (fun s2 s3 wr => ∃ (i : Nat) (j : Int) (u : List Int), s2 = .int .i64 i ∧ s3 = .int .i64 j ∧ Hid ((i : Int) + j = (n : Int) - 1) ∧ PBlk wr g 3 u ∧ Hid (u.length = n) ∧ w.grownBy wr (some g)) (fun s2 s3 _ => (intOf s3 + 1 - intOf s2).toNat)
  case atStart => exact ⟨0, (n : Int) - 1, u, rfl, rfl, by unfold Hid; omega, hb, HU.out, grown_refl _ _⟩
  case round =>
    obtain ⟨i, j, u, rfl, rfl, hij, hbk, hul, hg⟩ := hrel
    have hij2 := hij.out
    by_cases hlt : (i : Int) < j
    · obtain ⟨q, rfl⟩ := Int.eq_ofNat_of_zero_le (show 0 ≤ j by omega)
      have hq : q < n := by omega
      have hi : i < n := by omega
      have hiq : i < q := by omega
      have hne : i ≠ q := by omega
      have hne' : q ≠ i := by omega
      have ci := hbk.cell (i := i) (by rw [hul.out]; exact hi)
      have cq := hbk.cell (i := q) (by rw [hul.out]; exact hq)
      have fi := hbk.free i
      have fq := hbk.free q
      obtain ⟨x, hx⟩ : ∃ x, x = u.getD i 0 := ⟨_, rfl⟩
      obtain ⟨y, hy⟩ : ∃ y, y = u.getD q 0 := ⟨_, rfl⟩
      rw [← hx] at ci
      rw [← hy] at cq
      have HG := Lib.hid hg
      have HBK := Lib.hid hbk
      have H1 : Hid (PBlk ((wr.setCell ⟨g, i, none⟩ (.int .i64 y)).setCell ⟨g, q, none⟩ (.int .i64 x)) g 3 ((u.set i y).set q x)) := (hbk.set i y).set q x
      have HG1 : Hid (w.grownBy ((wr.setCell ⟨g, i, none⟩ (.int .i64 y)).setCell ⟨g, q, none⟩ (.int .i64 x)) (some g)) := grown_set (grown_set hg _ _) _ _
      clear hx hy hg hbk hb hij2
      go_wp2_with fail
      go_region
      go_wp2_with fail
      go_roundw
      case rel => exact ⟨i + 1, (q : Int) - 1, (u.set i y).set q x, by go_num, rfl, by unfold Hid; have := hij.out; push_cast; omega, H1.out, by unfold Hid; rw [List.length_set, List.length_set]; exact hul.out, grown_drw HG1.out⟩
      case measure => simp [intOf]; omega
    · go_wp2_with fail
      go_end0
      exact ⟨rfl, hg⟩
end Go.Proofs.Ytfhibjehnoibeaa
/- Contracts of the shortest way in a house; no condition but what stands at each theorem. -/
namespace Go.Proofs.Ytfhibjehnoibeaa
set_option linter.unusedSimpArgs false
set_option linter.unusedVariables false
open Go.RowKit Go.Sort
/-- The box at bh holds the house of h halls with the doors ds. -/
structure HBox (w : World) (bh h : Nat) (A : Option Addr) (n c : Nat) (ds : List GDoor) : Prop where
  k0 : w.cell? ⟨bh, 0, none⟩ = some (.int .i64 (h : Int))
  k1 : w.cell? ⟨bh, 1, none⟩ = some (.slice A n c)
  lt : bh < w.heap.size
  rd : Rd w 2 A n (ds.flatMap GDoor.enc)
theorem HBox.keep {w w' : World} {bh h : Nat} {A : Option Addr} {n c : Nat} {ds : List GDoor} (H : HBox w bh h A n c ds) (e : Ext w w') : HBox w' bh h A n c ds :=
  ⟨(e.cellAt bh H.lt 0).trans H.k0, (e.cellAt bh H.lt 1).trans H.k1, by have := e.size; have := H.lt; omega, H.rd.keep e⟩
theorem impl_wayIn1 (h : Nat) (A : Option Addr) (n c : Nat) (ds : List GDoor) (x : Int) (bh : Nat) (w : World) (H : HBox w bh h A n c ds) (hh : h ≤ 7) (hn12 : n ≤ 12) :
    Calls Try.prog 26 #[.int .i64 x, .pointer (some ⟨bh, 0, none⟩)] w fun e w' => ∃ v, e = .returned v ∧ Ext w w' ∧ w'.ownsRow w.heap.size 3 1 v (linksTo ds x h).length ((linksTo ds x h).flatMap ienc) := by
  have k0 := H.k0
  have k1 := H.k1
  have hx := H.rd
  go_enter Try.func26, Try.ntmps26
  go_wp2_with fail
  refine (impl_linksOf h A n c ds x w hx hh hn12).mono ?_
  rintro e w1 ⟨v, rfl, he, ho⟩
  go_wp2_with fail
  go_ret
  exact ⟨_, rfl, he, ho⟩
theorem own_one (W : World) (base : Nat) (t : TypeId) (z : Int) (hb : base ≤ W.heap.size) : (W.alloc (.cells #[.int .i64 z] t)).ownsRow base t 1 (.slice (some ⟨W.heap.size, 0, none⟩) 1 1) 1 (([z] : List Int).flatMap ienc) :=
  own_of_blk hb (Blk.new _ _ _) (by simp) (by unfold maxLen; omega) rfl
/-- A way has been found, or none is there. -/
def WayPost (S : BS) (b : Nat) (w : World) (e : Ending) (w' : World) : Prop :=
  (S.f.getD b 0 < 0 ∧ e = .returned (.slice none 0 0) ∧ Ext w w') ∨ (0 ≤ S.f.getD b 0 ∧ ∃ g c', e = .returned (.slice (some ⟨g, 0, none⟩) ((S.d.getD b 0).toNat + 1) c') ∧ Ext w w')
set_option maxRecDepth 100000 in
set_option maxHeartbeats 4000000 in
theorem impl_shortest (h : Nat) (A : Option Addr) (n c : Nat) (ds : List GDoor) (a b : Nat) (bh : Nat) (w : World) (H : HBox w bh h A n c ds) (hs : Hid (NoTwice ds)) (h1 : 1 ≤ h) (h7 : h ≤ 7) (hn12 : n ≤ 12) (ha : a < h) (hb : b < h) :
    Calls Try.prog 25 #[.int .i64 h, .int .i64 a, .int .i64 b, .func (.func 26) #[] #[.pointer (some ⟨bh, 0, none⟩)]] w (WayPost (bfsAll ds h a) b w) := by
  obtain ⟨w1, hw1⟩ : ∃ w1, w1 = w.alloc (.cells #[.int .i64 (-1)] 3) := ⟨_, rfl⟩
  have hE1 : Ext w w1 := by rw [hw1]; exact (Ext.refl w).alloc _
  have hs1 : w1.heap.size = w.heap.size + 1 := by rw [hw1]; simp
  have hc1 : w1.cell? ⟨w.heap.size, 0, none⟩ = some (.int .i64 (-1)) := by rw [hw1, World.cell?_alloc_new]; rfl
  have HRep := Lib.hid (slices_Repeat h h1 h7 w.heap.size 1 w1 hc1 (by omega))
  have HE1 := Lib.hid hE1
  have Hw1 := Lib.hid hw1
  have HH := Lib.hid H
  have Hs1 := Lib.hid hs1
  clear hw1 hE1 hc1 H hs1
  go_enter Try.func25, Try.ntmps25
  go_wp2_with fail
  rw [← Hw1.out]
  refine HRep.out.mono ?_
  rintro e w2 ⟨rfl, he2, hi2⟩
  have hg2 := hi2.lt
  have hcell := hi2.cell (i := a) (by simpa using ha)
  have hfree := hi2.free a
  obtain ⟨gF, hgF⟩ : ∃ gF, gF = w1.heap.size := ⟨_, rfl⟩
  rw [← hgF] at hi2 hg2 hcell hfree ⊢
  have HgF : Hid (w.heap.size < gF) := by unfold Hid; rw [hgF, Hs1.out]; omega
  have hgF0 := HgF.out
  have HI2 := Lib.hid hi2
  have HE2 := Lib.hid (HE1.out.trans he2)
  clear hi2 he2 hgF HRep
  have hin0 : (-1 : Int) = (List.replicate h (-1 : Int)).getD a 0 := by simp [ha]
  rw [← hin0] at hcell
  clear hin0
  go_wp2_with fail
  obtain ⟨w3, hw3⟩ : ∃ w3, w3 = w2.setCell ⟨gF, a, none⟩ (.int .i64 (a : Int)) := ⟨_, rfl⟩
  rw [← hw3]
  have hs3 : w3.heap.size = w2.heap.size := by rw [hw3]; simp [World.setCell]
  have HI3 : Hid (IBlk w3 gF 3 (bs0 h a).f) := by unfold Hid; rw [hw3]; exact HI2.out.set a (a : Int)
  have HE3 : Hid (Ext w w3) := by unfold Hid; rw [hw3]; exact HE2.out.setCell (Nat.le_of_lt hgF0) _
  have hg3 : gF < w3.heap.size := by omega
  have HE3w := HE3.out.size
  have HQ := Lib.hid (QRow.one w3 w.heap.size [gF] 3 (a : Int) HE3w (by intro x hx; simp at hx; omega))
  have HI4 := Lib.hid (HI3.out.keep ((Ext.refl w3).alloc (.cells #[.int .i64 (a : Int)] 3)))
  have HE4 := Lib.hid (HE3.out.alloc (.cells #[.int .i64 (a : Int)] 3))
  have hbq := binv0 ha
  have HBI := Lib.hid hbq
  rw [show w2.heap.size = w3.heap.size from hs3.symm]
  clear hw3 hcell hfree HI2 HE2 hbq hs3
  go_loopg [10] h (fun fu qv wr => ∃ (i : Nat) (S : BS), h - i ≤ fu ∧ i ≤ S.q.length ∧ QRow wr w.heap.size [gF] 3 qv (S.q.drop i) ∧ IBlk wr gF 3 S.f ∧ Hid (BInv a h S) ∧ Hid (bfsAll ds h a = bfs ds h (h - i) i S) ∧ Ext w wr)
  case atStart => exact ⟨0, bs0 h a, Nat.le_refl _, Nat.zero_le _, HQ.out, HI4.out, HBI.out, rfl, HE4.out⟩
  case round =>
    obtain ⟨i, S, hfu, hi, hq, hI, hbi, hz, hb'⟩ := hrel
    have hqh := hbi.out.qle
    have hSl : Hid (S.f.length = h) := hbi.out.lf
    by_cases hlt : i < S.q.length
    · obtain ⟨wo, rfl⟩ : ∃ wo : World, wo = wr := ⟨_, rfl⟩
      have hSi : S.q.getD i 0 = S.q[i] := by simp [hlt]
      obtain ⟨p, hp, hxp, hfp⟩ := hbi.out.qin (S.q.getD i 0) (by rw [hSi]; exact List.getElem_mem hlt)
      obtain ⟨L, hL⟩ : ∃ L, L = S.q.drop i := ⟨_, rfl⟩
      rw [← hL] at hq
      have hLl : 0 < L.length := by rw [hL, List.length_drop]; omega
      have hL0 : L.getD 0 0 = (p : Int) := by rw [← hxp, hL]; simp
      obtain ⟨g, off, cap, rfl, hbg, hng, hgl, hcell⟩ := hq.form
      have c0 := hcell 0 hLl
      rw [hL0, Nat.add_zero] at c0
      have hlk := impl_wayIn1 h A n c ds (p : Int) bh wo (HH.out.keep hb') h7 hn12
      rw [linksTo_nbr hs.out] at hlk
      obtain ⟨ns, hns⟩ : ∃ ns, ns = nbr ds h (p : Int) := ⟨_, rfl⟩
      rw [← hns] at hlk
      obtain ⟨LL, hLL⟩ : ∃ LL, LL = ns.map fun (k : Nat) => (k : Int) := ⟨_, rfl⟩
      rw [← hLL] at hlk
      have hLLn : LL.length = ns.length := by rw [hLL]; simp
      have hLLh : LL.length ≤ h := by rw [hLLn, hns]; exact nbr_len _ _ _
      have HLk := Lib.hid hlk
      have HLL := Lib.hid hLL
      have Hns := Lib.hid hns
      have HLLn := Lib.hid hLLn
      have HL := Lib.hid hL
      have HQo := Lib.hid hq
      have HIo := Lib.hid hI
      have HEo := Lib.hid hb'
      have Hxp := Lib.hid hxp
      have hwo := hb'.size
      have hgFo := hI.lt
      have hcap : L.length ≤ h := by rw [hL, List.length_drop]; omega
      clear hlk hLL hns hLLn hL hq hI hcell hb' hSi hxp
      go_wp2_with fail
      refine HLk.out.mono ?_
      clear HLk
      rintro e w5 ⟨vl, rfl, he5, ho5⟩
      obtain ⟨Al, cl, rfl, hncl⟩ := own_form ho5
      obtain ⟨gl, hgl1, hgl2, hglw⟩ : ∃ gl, Hid (0 < LL.length → Al = some ⟨gl, 0, none⟩ ∧ PBlk w5 gl 3 LL) ∧ (gl = gF ∨ wo.heap.size ≤ gl) ∧ Hid (0 < LL.length → wo.heap.size ≤ gl) := by
        by_cases h0 : 1 ≤ LL.length
        · obtain ⟨gl, h1, h2, h3⟩ := PBlk.of_own ho5 h0
          exact ⟨gl, fun _ => ⟨h1, h3⟩, .inr h2, fun _ => h2⟩
        · exact ⟨gF, fun h => by omega, .inl rfl, fun h => by omega⟩
      have hgl3 : gl < w5.heap.size ∨ LL.length = 0 := by
        by_cases h0 : 0 < LL.length
        · exact .inl (hgl1.out h0).2.lt
        · exact .inr (by omega)
      have HQ5 := Lib.hid ((HQo.out.other (av' := [gF, gl]) (by intro x hx; simp at hx; rcases hx with rfl | rfl; exact .inl (by simp); rcases hgl2 with h | h; exact .inl (by simp [h]); exact .inr h)).keep he5)
      have HI5 := Lib.hid (HIo.out.keep he5)
      have HE5 := Lib.hid (HEo.out.trans he5)
      have hs5 := he5.size
      have hgl4 : gl = gF ∨ w.heap.size ≤ gl := by omega
      clear ho5 he5 hgl hng c0
      go_wp2_with fail
      go_loopw [10, 34] (fun qv jv wi => ∃ (j : Nat) (S' : BS), j ≤ LL.length ∧ jv = .int .i64 j ∧ QRow wi w.heap.size [gF, gl] 3 qv (S'.q.drop i) ∧ IBlk wi gF 3 S'.f ∧ Hid (BInv a h S') ∧ Hid (S' = (ns.take j).foldl (vis (p : Int)) S) ∧ Hid (S'.q.getD i 0 = (p : Int)) ∧ i < S'.q.length ∧ Hid (0 ≤ S'.f.getD p 0) ∧ Hid (0 < LL.length → PBlk wi gl 3 LL) ∧ Ext w wi) (fun _ jv _ => LL.length - (intOf jv).toNat)
      case atStart => exact ⟨0, S, Nat.zero_le _, rfl, by rw [← HL.out]; exact HQ5.out, HI5.out, hbi.out, rfl, Hxp.out, hlt, hfp, fun h => (hgl1.out h).2, HE5.out⟩
      case round =>
        obtain ⟨j, S', hj, rfl, hq', hI', hbi', hS', hxp', hlt', hfp', hpl, hE'⟩ := hrel
        have hL2l : 0 < (S'.q.drop i).length := by rw [List.length_drop]; omega
        by_cases hjl : j < LL.length
        · have hk0 : j < ns.length := by rw [← HLLn.out]; exact hjl
          obtain ⟨k, hk⟩ : ∃ k, ns[j]? = some k := ⟨ns[j], List.getElem?_eq_getElem hk0⟩
          have hkh : k < h := by
            have := List.mem_of_getElem? hk
            rw [Hns.out] at this
            exact nbr_lt this
          obtain ⟨hAl, hpb⟩ : Al = some ⟨gl, 0, none⟩ ∧ PBlk wr gl 3 LL := ⟨(hgl1.out (by omega)).1, hpl.out (by omega)⟩
          have cL := hpb.cell hjl
          have hLLj : LL.getD j 0 = (k : Int) := by rw [HLL.out]; simp [hk]
          rw [hLLj] at cL
          obtain ⟨L', hL'⟩ : ∃ L', L' = S'.q.drop i := ⟨_, rfl⟩
          rw [← hL'] at hq' hL2l
          have hL'0 : L'.getD 0 0 = (p : Int) := by rw [← hxp'.out, hL']; simp
          obtain ⟨g', off', cap', rfl, hbg', hng', hgl', hcell'⟩ := hq'.form
          have c0 := hcell' 0 hL2l
          rw [hL'0, Nat.add_zero] at c0
          have hl' : S'.f.length = h := hbi'.out.lf
          have cF := hI'.cell (i := k) (by rw [hl']; exact hkh)
          have fF := hI'.free k
          obtain ⟨fv, hfv⟩ : ∃ fv, fv = S'.f.getD k 0 := ⟨_, rfl⟩
          rw [← hfv] at cF
          have hgFl := hI'.lt
          have hLc : L'.length ≤ 7 := by
            have := hbi'.out.qle
            rw [hL', List.length_drop]; omega
          have hsn : Hid ((ns.take (j + 1)).foldl (vis (p : Int)) S = vis (p : Int) S' k) := by
            unfold Hid; rw [take_snoc hk, List.foldl_append, ← hS'.out]; rfl
          have hbv := hbi'.out.vis hp hfp'.out hkh
          have HFV := Lib.hid hfv
          have HL' := Lib.hid hL'
          have HQ' := Lib.hid hq'
          have HI' := Lib.hid hI'
          have HE' := Lib.hid hE'
          have HBV := Lib.hid hbv
          have HKh := Lib.hid hl'
          have hwr := hE'.size
          have hng1 := Lib.hid hng'
          have hglr : gl < wr.heap.size := hpb.lt
          subst hAl
          clear hfv hL' hq' hI' hE' hbv hl' hk hLLj hL'0 hcell' hng' hpb
          by_cases hneg : fv < 0
          · have hvis : Hid (vis (p : Int) S' k = ⟨S'.q ++ [(k : Int)], S'.f.set k (p : Int), S'.d.set k (S'.d.getD p 0 + 1)⟩) := by
              unfold Hid vis; rw [← HFV.out, if_pos hneg, Int.toNat_natCast]
            go_wp2_with (at_builtin; refine (fun h : Hid _ => h.out) ?_)
            unfold Hid
            obtain ⟨wj, hwj⟩ : ∃ wj, wj = wr.setCell ⟨gF, k, none⟩ (.int .i64 (p : Int)) := ⟨_, rfl⟩
            rw [← hwj]
            have hglF : gl ≠ gF := by have := hglw.out (by omega); omega
            have hszj : wj.heap.size = wr.heap.size := by rw [hwj]; simp [World.setCell]
            have hqj : QRow wj w.heap.size [gF, gl] 3 (.slice (some ⟨g', off', none⟩) L'.length cap') L' := by rw [hwj]; exact HQ'.out.far (by simp) k _
            have hij : IBlk wj gF 3 (S'.f.set k (p : Int)) := by rw [hwj]; exact HI'.out.set k (p : Int)
            have hpj : PBlk wj gl 3 LL := by
              obtain ⟨cur, hb, r⟩ := hpl.out (by omega)
              rw [hwj]
              exact ⟨cur, hb.far (p := ⟨gF, k, none⟩) hglF _, r⟩
            have hEj : Ext w wj := by rw [hwj]; exact HE'.out.setCell (Nat.le_of_lt hgF0) _
            refine QRow.append ei_I rfl _ _ rfl w.heap.size [gF, gl] wj _ _ L' (by rfl) hqj (k : Int) (by rw [hszj]; rfl) (by omega) (by omega) (by intro x hx; simp at hx; omega) ?_
            intro v7 w7 hq7 he7 hb7
            have HE7 := Lib.hid (he7 w hEj (Nat.le_refl _))
            have hi7 : IBlk w7 gF 3 (S'.f.set k (p : Int)) := hb7 gF (by simp) _ _ hij
            have HI7 := Lib.hid hi7
            have HP7 : Hid (0 < LL.length → PBlk w7 gl 3 LL) := by
              unfold Hid
              intro _
              obtain ⟨cur, hb, r⟩ := hpj
              exact ⟨cur, hb7 gl (by simp) _ _ hb, r⟩
            have hdr : (S'.q ++ [(k : Int)]).drop i = L' ++ [(k : Int)] := by rw [List.drop_append_of_le_length (by omega), ← HL'.out]
            rw [← hdr] at hq7
            have HQ7 := Lib.hid hq7
            have hq0 : (S'.q ++ [(k : Int)]).getD i 0 = (p : Int) ∧ i < (S'.q ++ [(k : Int)]).length := by
              rw [← hxp'.out]
              refine ⟨by simp [List.getElem?_append_left hlt'], by simp; omega⟩
            have hfp7 := vis_mono (x := (p : Int)) (k := k) (by omega) hfp'.out
            have HFP7 := Lib.hid hfp7
            have HQ0 := Lib.hid hq0
            clear hwj hszj hqj hij hpj hEj hq7 he7 hb7 hi7 hdr hq0 hfp7
            go_wp2_with fail
            go_roundw
            case rel => exact ⟨j + 1, vis (p : Int) S' k, by omega, by go_num, by rw [hvis.out]; exact HQ7.out, by rw [hvis.out]; exact HI7.out, HBV.out, by unfold Hid; rw [hsn.out], by unfold Hid; rw [hvis.out]; exact HQ0.out.1, by rw [hvis.out]; exact HQ0.out.2, HFP7.out, HP7.out, HE7.out⟩
            case measure => simp [intOf]; omega
          · have hvis : Hid (vis (p : Int) S' k = S') := by unfold Hid vis; rw [← HFV.out, if_neg hneg]
            go_wp2_with fail
            go_roundw
            case rel => exact ⟨j + 1, S', by omega, by go_num, by rw [← HL'.out]; exact HQ'.out, HI'.out, hbi'.out, by unfold Hid; rw [hsn.out, hvis.out], hxp'.out, hlt', hfp'.out, hpl.out, HE'.out⟩
            case measure => simp [intOf]; omega
        · obtain rfl : j = LL.length := by omega
          obtain ⟨v', hrun, hq2⟩ := QRow.tail (P := Try.prog) (t' := 27) (x := (p : Int)) (L := S'.q.drop (i + 1)) Try.underlying27 sz_int (by
            have : S'.q.drop i = (p : Int) :: S'.q.drop (i + 1) := by
              rw [List.drop_eq_getElem_cons hlt', ← hxp'.out]; simp [hlt']
            rw [← this]; exact hq')
          have HQ2 := Lib.hid (hq2.other (av' := [gF]) (by intro x hx; simp at hx; subst hx; exact .inl (by simp)))
          have HE' := Lib.hid hE'
          have HI' := Lib.hid hI'
          have hrnd : Hid (bfs ds h (h - i) i S = bfs ds h (h - (i + 1)) (i + 1) S') := by
            unfold Hid
            have e : h - i = (h - (i + 1)) + 1 := by omega
            rw [e, bfs, if_pos hlt, rnd_nbr, Hxp.out, ← Hns.out, hS'.out, List.take_of_length_le (by rw [HLLn.out]; exact Nat.le_refl _)]
          clear hq' hq2 hE' hI'
          go_wp2_with fail
          go_roundg (h - (i + 1))
          case measure => omega
          case rel => exact ⟨i + 1, S', Nat.le_refl _, hlt', HQ2.out, HI'.out, hbi'.out, by unfold Hid; rw [hz.out, hrnd.out], HE'.out⟩
    · have hSe : bfsAll ds h a = S := by
        rw [hz.out]
        cases h - i with
        | zero => rfl
        | succ m => rw [bfs, if_neg hlt]
      have HSe := Lib.hid hSe
      have cB := hI.cell (i := b) (by rw [hSl.out]; exact hb)
      obtain ⟨fv, hfv⟩ : ∃ fv, fv = S.f.getD b 0 := ⟨_, rfl⟩
      rw [← hfv] at cB
      have hL0 : ¬ 0 < (S.q.drop i).length := by rw [List.length_drop]; omega
      obtain ⟨L, hL⟩ : ∃ L, L = S.q.drop i := ⟨_, rfl⟩
      rw [← hL] at hq hL0
      obtain ⟨g, off, cap, rfl, hbg, hng, hgl, hcell⟩ := hq.form
      have hLz : L.length = 0 := by omega
      rw [hLz]
      have HFV := Lib.hid hfv
      have HI := Lib.hid hI
      have HE := Lib.hid hb'
      have hgFw := hI.lt
      clear hSe hfv hL hq hI hb' hcell hng hLz hL0
      by_cases hneg : fv < 0
      · go_wp2_with fail
        go_ret
        exact .inl ⟨by rw [HSe.out, ← HFV.out]; exact hneg, rfl, HE.out⟩
      · have hI5 := HSe
        have hbS : BInv a h S := hbi.out
        have hfb : 0 ≤ S.f.getD b 0 := by rw [← HFV.out]; omega
        have hdb : 0 ≤ S.d.getD b 0 ∧ S.d.getD b 0 < 8 := by
          have h1 := (hbS.iff_ b hb)
          have h2 := hbS.dlt_ b hb hfb
          omega
        obtain ⟨db, hdbe⟩ : ∃ db, db = S.d.getD b 0 := ⟨_, rfl⟩
        rw [← hdbe] at hdb
        have HDB := Lib.hid hdbe
        have HFB := Lib.hid hfb
        have HO0 := Lib.hid (own_one wr wr.heap.size 3 (b : Int) (Nat.le_refl _))
        have HE0 := Lib.hid ((Ext.refl wr).alloc (.cells #[.int .i64 (b : Int)] 3))
        clear hbS hfb hdbe hI5
        obtain ⟨hdb0, hdb8⟩ := hdb
        go_wp2_with fail
        obtain ⟨wq, rfl⟩ : ∃ wq : World, wq = wr := ⟨_, rfl⟩
        go_loopw [2, 13] (fun bv v wi => ∃ (q : Nat) (L : List Int), q < h ∧ bv = .int .i64 q ∧ Hid (0 ≤ S.f.getD q 0) ∧ wi.ownsRow wq.heap.size 3 1 v L.length (L.flatMap ienc) ∧ Hid ((L.length : Int) + S.d.getD q 0 = db + 1) ∧ Ext wq wi) (fun bv _ _ => (S.d.getD (intOf bv).toNat 0).toNat)
        case atStart => exact ⟨b, [(b : Int)], hb, rfl, HFB.out, HO0.out, by unfold Hid; rw [← HDB.out]; simp; omega, HE0.out⟩
        case round =>
          obtain ⟨q, L, hq, rfl, hfq, hown, hlen, hbw⟩ := hrel
          have hdq : 0 ≤ S.d.getD q 0 := by have := hbi.out.iff_ q hq; have := hfq.out; omega
          have hLb : L.length ≤ 9 := by have := hlen.out; omega
          by_cases hqa : q = a
          · have hbf : ((q : Int) != (a : Int)) = false := by rw [hqa]; simp
            have hL1 : L.length = db.toNat + 1 := by
              have h1 := hlen.out
              rw [hqa, hbi.out.root.2] at h1
              omega
            obtain ⟨Aw, cw, rfl, hncw⟩ := own_form hown
            obtain ⟨gw, rfl, hgw, hpw⟩ := PBlk.of_own hown (by omega)
            have HRev := Lib.hid (slices_Reverse gw L.length cw L wr hpw rfl (by omega))
            have HBw := Lib.hid hbw
            have HL1 := Lib.hid hL1
            clear hown hpw hbw hL1 hqa
            go_wp2_with fail
            refine HRev.out.mono ?_
            rintro e w9 ⟨rfl, hg9⟩
            have HE9 : Hid (Ext wq w9) := HBw.out.grown hg9 (fun k hk => by injection hk with hk; omega)
            clear hg9 HRev
            go_wp2_with fail
            go_ret
            exact .inr ⟨by rw [HSe.out]; exact HFB.out, gw, cw, by rw [HSe.out, ← HDB.out, ← HL1.out]; rfl, HE.out.trans HE9.out⟩
          · have hbt : ((q : Int) != (a : Int)) = true := by rw [bne_iff_ne]; omega
            obtain ⟨p, hp, hfp, hfp0, hdp⟩ := hbi.out.par q hq hfq.out hqa
            have cQ := (HI.out.keep hbw).cell (i := q) (by rw [hSl.out]; exact hq)
            rw [hfp] at cQ
            have HO := Lib.hid hown
            have HBw := Lib.hid hbw
            have hsw := hbw.size
            have HFP0 := Lib.hid hfp0
            have HDP := Lib.hid hdp
            clear hown hbw hfp hfp0 hdp hqa
            go_wp2_with (at_builtin; refine append1 ei_I rfl _ _ rfl wq.heap.size wr _ u13 L.length _ (by rfl) HO.out [.int .i64 p] (by rfl) rfl (by intro u hu; simp at hu; subst hu; rfl) (by omega) hsw ?_; intro v' w2' ho2 he2; have HO2 := Lib.hid ho2; have HE2 := Lib.hid (he2 wq HBw.out (Nat.le_refl _)); clear ho2 he2)
            go_roundw
            case rel =>
              refine ⟨p, L ++ [(p : Int)], hp, rfl, HFP0.out, ?_, by unfold Hid; have h1 := hlen.out; have h2 := HDP.out; rw [List.length_append]; simp only [List.length_cons, List.length_nil]; push_cast; omega, HE2.out⟩
              have := HO2.out
              simpa [ienc] using this
            case measure =>
              have h2 := HDP.out
              have h3 : 0 ≤ S.d.getD p 0 := by have h5 := hbi.out.iff_ p hp; have h6 := HFP0.out; omega
              simp only [intOf, Int.toNat_natCast, List.getD_eq_getElem?_getD] at h2 h3 ⊢
              generalize S.d[q]?.getD 0 = x1 at h2 ⊢
              generalize S.d[p]?.getD 0 = x2 at h2 h3 ⊢
              clear hdq
              omega
end Go.Proofs.Ytfhibjehnoibeaa
/- Contracts of wayIn and the program's HouseOk; no condition but what stands at each theorem. -/
namespace Go.Proofs.Ytfhibjehnoibeaa
set_option linter.unusedSimpArgs false
set_option linter.unusedVariables false
open Go.RowKit Go.Sort
theorem getD_of' {α : Type} {xs : List α} {k : Nat} {x d : α} (h : xs[k]? = some x) : xs.getD k d = x := by simp [h]
theorem hbox_of {w wb : World} {h : Nat} {A : Option Addr} {n c : Nat} {ds : List GDoor} {t : TypeId} (hwb : wb = w.alloc (.cells #[.int .i64 (h : Int), .slice A n c] t)) (hx : Rd w 2 A n (ds.flatMap GDoor.enc)) : HBox wb w.heap.size h A n c ds := by
  obtain ⟨h1, h2, h3, h4⟩ := box2 w _ _ _ wb hwb
  exact ⟨h3, h4, by omega, hx.keep h1⟩
theorem impl_wayIn (h : Nat) (A : Option Addr) (n c : Nat) (ds : List GDoor) (a b : Nat) (w : World) (hx : Rd w 2 A n (ds.flatMap GDoor.enc)) (hs : Hid (NoTwice ds)) (h1 : 1 ≤ h) (h7 : h ≤ 7) (hn12 : n ≤ 12) (ha : a < h) (hb : b < h) :
    Calls Try.prog 23 #[.agg #[.int .i64 h, .slice A n c], .int .i64 a, .int .i64 b] w (WayPost (bfsAll ds h a) b w) := by
  obtain ⟨wb, hwb⟩ : ∃ wb, wb = w.alloc (.cells #[.int .i64 (h : Int), .slice A n c] 26) := ⟨_, rfl⟩
  have H := hbox_of hwb hx
  have HC := Lib.hid (impl_shortest h A n c ds a b w.heap.size wb H hs h1 h7 hn12 ha hb)
  have HE : Hid (Ext w wb) := by unfold Hid; rw [hwb]; exact (Ext.refl w).alloc _
  have Hwb := Lib.hid hwb
  clear H hwb
  go_enter Try.func23, Try.ntmps23
  go_wp2_with fail
  rw [← Hwb.out]
  refine HC.out.mono ?_
  rintro e w5 (⟨hf, rfl, he5⟩ | ⟨hf, g, c', rfl, he5⟩)
  · have HF := Lib.hid hf
    clear hf
    go_wp2_with fail
    go_ret
    exact .inl ⟨HF.out, rfl, HE.out.trans he5⟩
  · have HF := Lib.hid hf
    clear hf
    go_wp2_with fail
    go_ret
    exact .inr ⟨HF.out, g, c', rfl, HE.out.trans he5⟩
def prevD (ds : List GDoor) : Nat → Option GDoor
  | 0 => none
  | k + 1 => ds[k]?
theorem doorsOk_step (H : Int) {ds : List GDoor} {k : Nat} {d : GDoor} (hd : ds[k]? = some d) : doorsOk H (prevD ds k) (ds.drop k) = (doorOk H d && (match prevD ds k with | none => true | some p => dlt p d) && doorsOk H (prevD ds (k + 1)) (ds.drop (k + 1))) := by
  rw [drop_cons hd]
  cases k with
  | zero => simp [doorsOk, prevD, hd]
  | succ k =>
    have hk : k < ds.length := by have := (List.getElem?_eq_some_iff.1 hd).1; omega
    have h1 : ds[k]? = some ds[k] := List.getElem?_eq_getElem hk
    simp [doorsOk, prevD, hd, h1]
set_option maxRecDepth 100000 in
set_option maxHeartbeats 4000000 in
theorem impl_HouseOk (H : Int) (A : Option Addr) (n c : Nat) (ds : List GDoor) (w : World) (hx : Rd w 2 A n (ds.flatMap GDoor.enc)) :
    Calls Try.prog 15 #[.agg #[.int .i64 H, .slice A n c]] w fun e w' => e = .returned (.bool (houseB H ds)) ∧ Ext w w' := by
  have hn := hx.2.1
  have hl := Lib.hid (hx.len GDoor.len (by omega))
  obtain ⟨wb, hwb⟩ : ∃ wb, wb = w.alloc (.cells #[.int .i64 H, .slice A n c] 26) := ⟨_, rfl⟩
  obtain ⟨hE, hsb, k0, k1⟩ := box2 w _ _ _ wb hwb
  have HE := Lib.hid hE
  have Hwb := Lib.hid hwb
  have Hk0 := Lib.hid k0
  have Hk1 := Lib.hid k1
  have Hsb := Lib.hid hsb
  have hxb := hx.keep hE
  have hbl : w.heap.size < wb.heap.size := by omega
  clear hwb hE k0 k1 hsb hx
  cases hr : inB H 1 7
  case false =>
    have HF : Hid (houseB H ds = false) := by unfold Hid houseB formB; rw [hr]; simp
    have k0 := Hk0.out
    go_enter Try.func15, Try.ntmps15
    go_wp2_with (rw [← Hwb.out]; go_at_call 20; refine (impl_between _ _ _ _).mono ?_; rintro e w1 ⟨he, rfl⟩; rw [hr] at he; subst he)
    go_ret
    exact ⟨ret_bool HF.out.symm, HE.out⟩
  have hrb : 1 ≤ H ∧ H ≤ 7 := by simpa [inB] using hr
  obtain ⟨h, rfl⟩ := Int.eq_ofNat_of_zero_le (show 0 ≤ H by omega)
  have h1 : 1 ≤ h := by omega
  have h7 : h ≤ 7 := by omega
  have HR := Lib.hid hr
  have k0 := Hk0.out
  have k1 := Hk1.out
  by_cases hn12 : n ≤ 12
  case neg =>
    have HF : Hid (houseB h ds = false) := by unfold Hid houseB formB; rw [hl.out, decide_eq_false hn12]; simp
    go_enter Try.func15, Try.ntmps15
    go_wp2_with (rw [← Hwb.out]; go_at_call 20; refine (impl_between _ _ _ _).mono ?_; rintro e w1 ⟨he, rfl⟩; rw [HR.out] at he; subst he; clear hr)
    go_ret
    exact ⟨ret_bool HF.out.symm, HE.out⟩
  clear hrb
  go_enter Try.func15, Try.ntmps15
  go_wp2_with (rw [← Hwb.out]; go_at_call 20; refine (impl_between _ _ _ _).mono ?_; rintro e w1 ⟨he, rfl⟩; rw [HR.out] at he; subst he; clear hr)
  clear k0 k1
  have HHF : Hid (∀ X : Bool, doorsOk (h : Int) none ds = X → X = false → houseB h ds = false) := by
    unfold Hid; intro X h1 h2; unfold houseB formB; rw [h1, h2]; simp
  go_loopw [19] (fun i wr => ∃ k : Nat, k ≤ n ∧ i = .int .i64 k ∧ Hid (doorsOk (h : Int) none ds = doorsOk (h : Int) (prevD ds k) (ds.drop k)) ∧ Ext wb wr) (fun i _ => n - (intOf i).toNat)
  case atStart => exact ⟨0, Nat.zero_le _, rfl, rfl, Ext.refl _⟩
  case round =>
    obtain ⟨k, hk, rfl, hz, hb⟩ := hrel
    have r0 := (hb.cellAt w.heap.size hbl 0).trans Hk0.out
    have r1 := (hb.cellAt w.heap.size hbl 1).trans Hk1.out
    have hbr := hb.size
    have m0 : wr.heap.size ≠ w.heap.size := by omega
    have l0 : w.heap.size < wr.heap.size := by omega
    by_cases hlt : k < n
    · obtain ⟨b, off, d, rfl, hbs, hdk, q0, q1⟩ := GDoor.at_ (hxb.keep hb) hlt
      have hst := doorsOk_step (h : Int) hdk
      rw [← hz.out] at hst
      have HST := Lib.hid hst
      have HB := Lib.hid hb
      have HDK := Lib.hid hdk
      clear hst hb hdk
      cases hdo : doorOk (h : Int) d
      case false =>
        have HF : Hid (houseB h ds = false) := by unfold Hid; exact HHF.out _ HST.out (by rw [hdo]; simp)
        have hdn : ¬ (0 ≤ d.a ∧ d.a < d.b ∧ d.b < (h : Int)) := by
          intro hc
          have : doorOk (h : Int) d = true := by simp [doorOk, hc.1, hc.2.1, hc.2.2]
          rw [hdo] at this; cases this
        clear hdo
        by_cases e1 : d.a < 0
        · clear hdn
          go_wp2_with fail
          go_ret
          exact ⟨ret_bool HF.out.symm, HE.out.trans (HB.out.alloc _)⟩
        by_cases e2 : d.b ≤ d.a
        · clear hdn
          go_wp2_with fail
          go_ret
          exact ⟨ret_bool HF.out.symm, HE.out.trans (HB.out.alloc _)⟩
        have e3 : (h : Int) ≤ d.b := by omega
        clear hdn
        go_wp2_with fail
        go_ret
        exact ⟨ret_bool HF.out.symm, HE.out.trans (HB.out.alloc _)⟩
      have hdp : 0 ≤ d.a ∧ d.a < d.b ∧ d.b < (h : Int) := by
        simp only [doorOk, Bool.and_eq_true, decide_eq_true_eq] at hdo
        exact ⟨hdo.1.1, hdo.1.2, hdo.2⟩
      obtain ⟨e1, e2, e3⟩ := hdp
      have HDO := Lib.hid hdo
      clear hdo
      go_wp2_with fail
      obtain ⟨wd, hwd⟩ : ∃ wd, wd = wr.alloc (.cells #[.int .i64 d.a, .int .i64 d.b] 48) := ⟨_, rfl⟩
      rw [← hwd]
      obtain ⟨hEd, hsd, d0, d1⟩ := box2 wr _ _ _ wd hwd
      have s0 := (hEd.cellAt w.heap.size (by omega) 0).trans r0
      have s1 := (hEd.cellAt w.heap.size (by omega) 1).trans r1
      have HEd := Lib.hid (HB.out.trans hEd)
      clear hwd hsd r0 r1 q0 q1
      by_cases hk0 : k = 0
      · subst hk0
        clear hEd
        go_quiet (fail)
        go_wp2_with fail
        go_roundw
        case rel => exact ⟨1, by omega, rfl, by unfold Hid; rw [HST.out, HDO.out]; rfl, HEd.out.drewN _⟩
        case measure => simp [intOf]; omega
      · obtain ⟨b', off', p, hA, hbs', hpk, q0, q1⟩ := GDoor.at_ (hxb.keep HEd.out) (k := k - 1) (by omega)
        simp only [Option.some.injEq, Addr.mk.injEq, and_true] at hA
        obtain ⟨rfl, rfl⟩ := hA
        have hpv : prevD ds k = some p := by
          obtain ⟨m, rfl⟩ : ∃ m, k = m + 1 := ⟨k - 1, by omega⟩
          exact hpk
        have HST2 : Hid (doorsOk (h : Int) none ds = (dlt p d && doorsOk (h : Int) (prevD ds (k + 1)) (ds.drop (k + 1)))) := by
          unfold Hid; rw [HST.out, HDO.out, hpv]; simp
        have hkp : 0 < k := by omega
        clear hpk hpv hEd
        by_cases f1 : d.a < p.a
        · have HF : Hid (houseB h ds = false) := by
            unfold Hid; refine HHF.out _ HST2.out ?_
            have : dlt p d = false := by unfold dlt; rw [decide_eq_false (by omega), beq_eq_false_iff_ne.2 (by omega)]; rfl
            rw [this]; rfl
          go_quiet (fail)
          go_wp2_with fail
          go_ret
          exact ⟨ret_bool HF.out.symm, HE.out.trans (HEd.out.drewN _)⟩
        cases f2 : (p.a == d.a)
        · have f2' : p.a ≠ d.a := by simpa using f2
          have hd2 : Hid (dlt p d = true) := by unfold Hid dlt; rw [decide_eq_true (by omega)]; rfl
          clear f2'
          go_quiet (fail)
          go_wp2_with fail
          go_roundw
          case rel => exact ⟨k + 1, by omega, by go_num, by unfold Hid; rw [HST2.out, hd2.out]; rfl, HEd.out.drewN _⟩
          case measure => simp [intOf]; omega
        · have F2 := Lib.hid f2
          by_cases f3 : d.b ≤ p.b
          · have HF : Hid (houseB h ds = false) := by
              unfold Hid; refine HHF.out _ HST2.out ?_
              have : dlt p d = false := by unfold dlt; rw [decide_eq_false (by have := beq_iff_eq.1 F2.out; omega), decide_eq_false (by omega)]; simp
              rw [this]; rfl
            go_quiet (fail)
            go_wp2_with fail
            go_ret
            exact ⟨ret_bool HF.out.symm, HE.out.trans (HEd.out.drewN _)⟩
          · have hd2 : Hid (dlt p d = true) := by unfold Hid dlt; have hz9 : decide (p.b < d.b) = true := decide_eq_true (by omega); rw [F2.out, hz9]; simp
            go_quiet (fail)
            go_wp2_with fail
            go_roundw
            case rel => exact ⟨k + 1, by omega, by go_num, by unfold Hid; rw [HST2.out, hd2.out]; rfl, HEd.out.drewN _⟩
            case measure => simp [intOf]; omega
    · obtain rfl : k = n := by omega
      have hdok : doorsOk (h : Int) none ds = true := by rw [hz.out, drop_nil (xs := ds) (k := k) (by rw [hl.out]; exact Nat.le_refl _)]; cases prevD ds k <;> rfl
      have HNT := Lib.hid (doorsOk_spec hdok).2
      have HForm : Hid (houseB h ds = (List.range h).all fun k => reachB ds h 0 k) := by
        unfold Hid houseB formB
        rw [hdok, HR.out, hl.out, decide_eq_true hn12, Int.toNat_natCast]; rfl
      have HB := Lib.hid hb
      clear hdok hz
      have hnil := fun (w : World) (a : Option Addr) (n c : Nat) => Lib.run_eql_slice_nil (P := Try.prog) w 27 3 a n c 0 0 Try.underlying27
      go_wp2_with fail
      obtain ⟨wo, rfl⟩ : ∃ wo : World, wo = wr := ⟨_, rfl⟩
      clear r0 r1 hb
      go_loopw [5] (fun i wi => ∃ q : Nat, q ≤ h ∧ i = .int .i64 q ∧ Hid (∀ j, j < q → reachB ds h 0 j = true) ∧ Ext wb wi) (fun i _ => h - (intOf i).toNat)
      case atStart => exact ⟨0, Nat.zero_le _, rfl, by unfold Hid; intro j hj; omega, HB.out⟩
      case round =>
        obtain ⟨q, hq, rfl, hall, hbi⟩ := hrel
        have r0 := (hbi.cellAt w.heap.size hbl 0).trans Hk0.out
        have r1 := (hbi.cellAt w.heap.size hbl 1).trans Hk1.out
        by_cases hqh : q < h
        · have HC := Lib.hid (impl_wayIn h A k c ds 0 q wr (hxb.keep hbi) HNT h1 h7 hn12 (by omega) hqh)
          have HBi := Lib.hid hbi
          clear hbi
          go_wp2_with fail
          refine HC.out.mono ?_
          rintro e w5 (⟨hf, rfl, he5⟩ | ⟨hf, g, c', rfl, he5⟩)
          · have HF : Hid (houseB h ds = false) := by
              unfold Hid; rw [HForm.out, Bool.eq_false_iff]
              intro hc
              rw [List.all_eq_true] at hc
              have := hc q (by simpa using hqh)
              unfold reachB at this
              rw [decide_eq_true_eq] at this
              omega
            have HE5 := Lib.hid he5
            clear hf he5 HC
            go_wp2_with fail
            go_ret
            exact ⟨ret_bool HF.out.symm, HE.out.trans (HBi.out.trans HE5.out)⟩
          · have HF := Lib.hid hf
            have HE5 := Lib.hid he5
            clear hf he5 HC
            go_wp2_with fail
            go_roundw
            case rel => exact ⟨q + 1, by omega, by go_num, by unfold Hid; intro j hj; by_cases hjq : j = q; (subst hjq; unfold reachB; exact decide_eq_true HF.out); exact hall.out j (by omega), HBi.out.trans HE5.out⟩
            case measure => simp [intOf]; omega
        · obtain rfl : q = h := by omega
          have HF : Hid (houseB q ds = true) := by
            unfold Hid; rw [HForm.out, List.all_eq_true]
            intro j hj
            exact hall.out j (by simpa using hj)
          go_wp2_with fail
          go_ret
          exact ⟨ret_bool HF.out.symm, HE.out.trans hbi⟩
end Go.Proofs.Ytfhibjehnoibeaa
/- Contracts of l23Door and l23Form; no condition but what stands at each theorem. -/
namespace Go.Proofs.Ytfhibjehnoibeaa
set_option linter.unusedSimpArgs false
set_option linter.unusedVariables false
open Go.RowKit Go.Sort
end Go.Proofs.Ytfhibjehnoibeaa
/- Contract of l23Distances; no condition but what stands at each theorem. -/
namespace Go.Proofs.Ytfhibjehnoibeaa
set_option linter.unusedSimpArgs false
set_option linter.unusedVariables false
open Go.RowKit Go.Sort
theorem filled_set {h k : Nat} (hk : k < h) : (filled h k).set k (-1) = filled h (k + 1) := by
  obtain ⟨m, hm⟩ : ∃ m, h - k = m + 1 := ⟨h - k - 1, by omega⟩
  have h2 : h - (k + 1) = m := by omega
  unfold filled
  rw [hm, h2, List.set_append_right _ _ (by simp), List.replicate_succ, List.length_replicate, Nat.sub_self, List.set_cons_zero, List.replicate_succ', List.append_assoc]
  rfl
end Go.Proofs.Ytfhibjehnoibeaa
/- Contracts of the reference's HouseOk, of RingOk, PlacesOk and what they call; no condition but what stands at each theorem. -/
namespace Go.Proofs.Ytfhibjehnoibeaa
set_option linter.unusedSimpArgs false
set_option linter.unusedVariables false
open Go.RowKit Go.Sort
theorem houseB_spec {H : Int} {ds : List GDoor} (hB : houseB H ds = true) : 1 ≤ H ∧ H ≤ 7 ∧ ds.length ≤ 12 ∧ NoTwice ds ∧ (∀ d ∈ ds, doorOk H d = true) ∧ ∀ k, k < H.toNat → reachB ds H.toNat 0 k = true := by
  simp only [houseB, formB, Bool.and_eq_true, decide_eq_true_eq, List.all_eq_true] at hB
  obtain ⟨⟨⟨h1, h2⟩, h3⟩, h4⟩ := hB
  have h5 : 1 ≤ H ∧ H ≤ 7 := by simpa [inB] using h1
  exact ⟨h5.1, h5.2, h2, (doorsOk_spec h3).2, (doorsOk_spec h3).1, fun k hk => h4 k (by simpa using hk)⟩
def ringB (H : Int) (ds : List GDoor) (ring : Int) : Bool := houseB H ds && inB ring 0 (((2 ^ ds.length : Nat) : Int) - 1)
set_option maxRecDepth 100000 in
set_option maxHeartbeats 1000000 in
theorem impl_RingOk (H : Int) (A : Option Addr) (n c : Nat) (ds : List GDoor) (ring : Int) (w : World) (hx : Rd w 2 A n (ds.flatMap GDoor.enc)) :
    Calls Try.prog 11 #[.agg #[.int .i64 H, .slice A n c], .int .i64 ring] w fun e w' => e = .returned (.bool (ringB H ds ring)) ∧ Ext w w' := by
  have hl := Lib.hid (hx.len GDoor.len (by omega))
  obtain ⟨wb, hwb⟩ : ∃ wb, wb = w.alloc (.cells #[.int .i64 H, .slice A n c] 26) := ⟨_, rfl⟩
  obtain ⟨hE, hsb, k0, k1⟩ := box2 w _ _ _ wb hwb
  have HE := Lib.hid hE
  have Hwb := Lib.hid hwb
  have Hk0 := Lib.hid k0
  have Hk1 := Lib.hid k1
  have hbl : w.heap.size < wb.heap.size := by omega
  have HC := Lib.hid (impl_HouseOk H A n c ds wb (hx.keep hE))
  cases hB : houseB H ds
  case false =>
    rw [hB] at HC
    have HF : Hid (ringB H ds ring = false) := by unfold Hid ringB; rw [hB]; rfl
    clear hE hsb hx hB k0 k1 hwb
    go_enter Try.func11, Try.ntmps11
    go_wp2_with fail
    rw [← Hwb.out]
    refine HC.out.mono ?_
    rintro e w1 ⟨rfl, he1⟩
    have HE1 := Lib.hid he1
    clear he1
    go_wp2_with fail
    go_ret
    exact ⟨ret_bool HF.out.symm, HE.out.trans HE1.out⟩
  rw [hB] at HC
  have hn12 : n ≤ 12 := by rw [← hl.out]; exact (houseB_spec hB).2.2.1
  obtain ⟨T, hT⟩ : ∃ T, T = 2 ^ n := ⟨_, rfl⟩
  have hT64 : T ≤ 4096 := by rw [hT]; exact Nat.le_trans (Nat.pow_le_pow_right (by omega) hn12) (by decide)
  have hT1 : 1 ≤ T := by rw [hT]; exact Nat.one_le_two_pow
  have hw : wrap64 ((2 : Int) ^ n) = (T : Int) := by
    have e : ((2 : Int) ^ n) = (T : Int) := by rw [hT]; push_cast; rfl
    rw [e]; exact IntWalk.wrap64_in _ ⟨by omega, by omega⟩
  have HF : Hid (ringB H ds ring = inB ring 0 ((T : Int) - 1)) := by unfold Hid ringB; rw [hB, hl.out, hT]; simp
  clear hE hsb hx hB k0 k1 hwb hT
  go_enter Try.func11, Try.ntmps11
  go_wp2_with fail
  rw [← Hwb.out]
  refine HC.out.mono ?_
  rintro e w1 ⟨rfl, he1⟩
  have r1 := (he1.cellAt w.heap.size hbl 1).trans Hk1.out
  have HE1 := Lib.hid he1
  clear he1
  go_wp2_with (go_at_call 20; refine (impl_between ring 0 ((T : Int) - 1) _).mono ?_; rintro e w2 ⟨rfl, rfl⟩)
  all_goals go_ret
  all_goals exact ⟨ret_bool (by rw [HF.out]), HE.out.trans HE1.out⟩
end Go.Proofs.Ytfhibjehnoibeaa
