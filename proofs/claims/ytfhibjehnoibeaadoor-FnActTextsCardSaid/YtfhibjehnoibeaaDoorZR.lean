/- Texts of one proof, laid one behind the other (QG); no condition but what stands at each theorem. -/
import Derived.Test.YtfhibjehnoibeaaDoorZG
import Derived.Test.YtfhibjehnoibeaaDoorZI
import Derived.Test.YtfhibjehnoibeaaDoorZK
import Derived.Test.YtfhibjehnoibeaaDoorZM
/- The law FnActTexts, walked; no condition but what stands at each theorem. -/
namespace Go.Proofs.YtfhibjehnoibeaaDoor
set_option linter.unusedSimpArgs false
set_option linter.unusedVariables false
open Go.RowKit Go.Sort
set_option maxRecDepth 100000 in
set_option maxHeartbeats 8000000 in
theorem law_FnActTexts (A : Option Addr) (n c : Nat) (bs : List UInt8) (w : World) (hx : Rd w 1 A n (bs.flatMap bencU)) (htab : Hid (Lib.TabIs Tryd.prog w "internal/strconv.uint64pow10" .u64 Lib.pow10Tab)) :
    Calls Tryd.prog 3 #[.slice A n c] w fun e w' => e = .returned (.bool true) ∧ Ext w w' := by
  by_cases hbig : 1048576 < n
  case pos =>
    go_enter Tryd.func3, Tryd.ntmps3
    go_wp2_with (refine (laws_big A n c _).mono ?_; rintro e w1 ⟨he, rfl⟩; rw [decide_eq_true hbig] at he; subst he)
    go_ret
    exact ⟨rfl, Ext.refl _⟩
  case neg =>
  have hxb := rd_bytes hx
  have hbd := bytes_bd bs
  obtain ⟨xs, hxs⟩ : ∃ xs, xs = bs.map fun b => (b.toNat : Int) := ⟨_, rfl⟩
  rw [← hxs] at hxb hbd
  clear hxs hx
  have cD := Lib.hid (spec_DrawActs A n c xs w hxb hbd (by omega))
  have HXB := Lib.hid hxb
  have HBD := Lib.hid hbd
  have hn20 : n ≤ 1048576 := by omega
  clear hxb hbd
  go_enter Tryd.func3, Tryd.ntmps3
  go_wp2_with (go_at_call 6; refine (fun h : Hid _ => h.out) ?_)
  unfold Hid
  refine (laws_big A n c _).mono ?_
  rintro e w0 ⟨he, rfl⟩
  rw [decide_eq_false hbig] at he
  subst he
  go_wp2_with (go_at_call 7; refine (fun h : Hid _ => h.out) ?_)
  unfold Hid
  refine (cD.out).mono ?_
  rintro e w1 ⟨v, m, Aa, ca, ys, rfl, ho, hdm, hoa, hla, hma, he1⟩
  obtain ⟨HV, ⟨AV0, nV0, kV0⟩, ⟨AV1, nV1, kV1⟩, ⟨AV2, nV2, kV2⟩, ⟨AV3, nV3, kV3⟩, dV, ⟨AV4, nV4, kV4⟩⟩ := v
  simp only [MV.val, MV.cells]
  obtain ⟨w2, hw2⟩ : ∃ w2, w2 = w1.alloc (.cells #[.int .i64 HV, .slice AV0 nV0 kV0, .slice AV1 nV1 kV1, .slice AV2 nV2 kV2, .slice AV3 nV3 kV3, .int .i64 dV, .slice AV4 nV4 kV4] 30) := ⟨_, rfl⟩
  have hE2 : Ext w1 w2 := by rw [hw2]; exact (Ext.refl _).alloc _
  obtain ⟨na, hna⟩ : ∃ na, na = ys.length := ⟨_, rfl⟩
  have HA : Hid (Rd w2 5 Aa na (ys.flatMap GAct.enc)) := Lib.hid (by rw [hna]; exact Rd.of_own (own_keep hoa hE2))
  have HE2 := Lib.hid (he1.trans hE2)
  have HW2 := Lib.hid hw2
  have HMA := Lib.hid hma
  rw [← hna] at hla ⊢
  clear hw2 hE2 ho hoa he1 hdm hma hna cD
  go_upto_region 4 with fail
  rw [← HW2.out]
  clear HW2
  go_wp2_with fail
  go_loopw [5] (fun iv wr => ∃ (k : Nat), k ≤ na ∧ iv = .int .i64 k ∧ Hid (Ext w2 wr)) (fun iv _ => na - (intOf iv).toNat)
  case atStart => exact ⟨0, Nat.zero_le _, rfl, Lib.hid (Ext.refl _)⟩
  case round =>
    obtain ⟨k, hk, rfl, hb⟩ := hrel
    by_cases hlt : k < na
    · obtain ⟨bq, oq, a, hA5, hbq, hak, p0, p1, p2, p3, p4⟩ := GAct.at_ (HA.out.keep hb.out) hlt
      subst hA5
      have hok := HMA.out a (List.mem_of_getElem? hak)
      have HOK := Lib.hid hok
      have i0 : (0 : Int) ≤ (k : Int) := by omega
      have i1 : (k : Int) < (na : Int) := by omega
      have cF := Lib.hid (impl_FormatAct a wr (Lib.hid (tab_ext htab.out (HE2.out.trans hb.out))))
      rw [hok] at cF
      obtain ⟨S, hS⟩ : ∃ S, S = actT a := ⟨_, rfl⟩
      rw [← hS] at cF
      have hsz : S.size ≤ 96 := by rw [hS]; exact actT_size a
      have HS := Lib.hid hS
      clear hok hak hS
      go_wp2_with (go_at_call 8; refine (fun h : Hid _ => h.out) ?_)
      unfold Hid
      refine cF.out.mono ?_
      rintro e w3 ⟨rfl, he3⟩
      have HE3 := Lib.hid (hb.out.trans he3)
      have p0 := (he3.cellAt bq hbq _).trans p0
      have p1 := (he3.cellAt bq hbq _).trans p1
      have p2 := (he3.cellAt bq hbq _).trans p2
      have p3 := (he3.cellAt bq hbq _).trans p3
      have p4 := (he3.cellAt bq hbq _).trans p4
      have hbq3 := Nat.lt_of_lt_of_le hbq he3.size
      clear he3 cF
      have g2 : ∀ W, (Op.stringOp .add ⟨#[32, 32]⟩ S).run Tryd.prog W = .ok (.string (⟨#[32, 32]⟩ ++ S)) W := fun W => run_string_add_sum W _ _ (by have : (⟨#[32, 32]⟩ : ByteArray).size = 2 := rfl; omega)
      have g3 : ∀ W, (Op.stringOp .add (⟨#[32, 32]⟩ ++ S) ⟨#[32]⟩).run Tryd.prog W = .ok (.string (⟨#[32, 32]⟩ ++ S ++ ⟨#[32]⟩)) W := fun W => run_string_add_sum W _ _ (by rw [ByteArray.size_append]; have : (⟨#[32, 32]⟩ : ByteArray).size = 2 := rfl; have : (⟨#[32]⟩ : ByteArray).size = 1 := rfl; omega)
      have cP := Lib.hid (impl_ParseAct (⟨#[32, 32]⟩ ++ S ++ ⟨#[32]⟩) w3 (by rw [ByteArray.size_append, ByteArray.size_append]; have : (⟨#[32, 32]⟩ : ByteArray).size = 2 := rfl; have : (⟨#[32]⟩ : ByteArray).size = 1 := rfl; omega) (Lib.hid (tab_ext htab.out (HE2.out.trans HE3.out))))
      go_wp2_with (go_at_call 9; refine (fun h : Hid _ => h.out) ?_)
      unfold Hid
      refine cP.out.mono ?_
      rintro e w4 ⟨a', b', rfl, he4, hpa⟩
      obtain ⟨ha', hb'⟩ := pad_PA HOK.out (a' := a') (b := b') (by rw [← HS.out]; exact hpa)
      subst ha'
      subst hb'
      obtain ⟨w5, hw5⟩ : ∃ w5, w5 = w4.alloc (.cells #[.int .i64 a'.k, .int .i64 a'.a, .int .i64 a'.b, .int .i64 a'.c, .int .i64 a'.d] 37) := ⟨_, rfl⟩
      have he5 : Ext w4 w5 := by rw [hw5]; exact (Ext.refl _).alloc _
      have hB : Blk w5 w4.heap.size 37 #[.int .i64 a'.k, .int .i64 a'.a, .int .i64 a'.b, .int .i64 a'.c, .int .i64 a'.d] := by rw [hw5]; exact Blk.new _ _ _
      have z0 := hB.cellAt (i := 0) (by simp)
      have z1 := hB.cellAt (i := 1) (by simp)
      have z2 := hB.cellAt (i := 2) (by simp)
      have z3 := hB.cellAt (i := 3) (by simp)
      have z4 := hB.cellAt (i := 4) (by simp)
      simp only [List.getElem_toArray, List.getElem_cons_zero, List.getElem_cons_succ] at z0 z1 z2 z3 z4
      have e45 := he4.trans he5
      have y0 := cell_regrown ((e45.cellAt bq hbq3 _).trans p0)
      have y1 := cell_regrown ((e45.cellAt bq hbq3 _).trans p1)
      have y2 := cell_regrown ((e45.cellAt bq hbq3 _).trans p2)
      have y3 := cell_regrown ((e45.cellAt bq hbq3 _).trans p3)
      have y4 := cell_regrown ((e45.cellAt bq hbq3 _).trans p4)
      have x0 := cell_regrown z0
      have x1 := cell_regrown z1
      have x2 := cell_regrown z2
      have x3 := cell_regrown z3
      have x4 := cell_regrown z4
      have HE5 := Lib.hid (HE3.out.trans e45)
      have HW5 := Lib.hid hw5
      clear hw5 he5 hB z0 z1 z2 z3 z4 e45 he4 p0 p1 p2 p3 p4 hpa cP
      go_upto_region 9 with fail
      rw [← HW5.out]
      (refine wp_region_ext (by kernel_rfl) (by kernel_rfl) ?_; (repeat (go_big_quiet_step (first | fail))); refine wpQuiet_nil ?_)
      intro w6 he6
      have HE6 := Lib.hid (HE5.out.trans he6)
      clear he6 y0 y1 y2 y3 y4 x0 x1 x2 x3 x4
      go_wp2_with fail
      go_roundw
      case rel => exact ⟨k + 1, by omega, by go_num, HE6⟩
      case measure => simp [intOf]; omega
    · go_wp2_with fail
      go_ret
      exact ⟨rfl, HE2.out.trans hb.out⟩
end Go.Proofs.YtfhibjehnoibeaaDoor
