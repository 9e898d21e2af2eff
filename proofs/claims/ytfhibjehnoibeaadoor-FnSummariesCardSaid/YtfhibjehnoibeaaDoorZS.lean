/- Texts of one proof, laid one behind the other (QH); no condition but what stands at each theorem. -/
import Derived.Test.YtfhibjehnoibeaaDoorZI
import Derived.Test.YtfhibjehnoibeaaDoorZK
import Derived.Test.YtfhibjehnoibeaaDoorZO
/- The law FnSummaries, walked; no condition but what stands at each theorem. -/
namespace Go.Proofs.YtfhibjehnoibeaaDoor
set_option linter.unusedSimpArgs false
set_option linter.unusedVariables false
open Go.RowKit Go.Sort
theorem numsF_drop {xs : List Int} {k : Nat} {x : Int} (h : xs[k]? = some x) (s : ByteArray) : numsF s (xs.drop k) = numsF (s ++ sp1 ++ itext x) (xs.drop (k + 1)) := by
  rw [drop_cons h]; rfl
theorem fmt_at {m : GMuseum} (h : museumB m = true) : (fmtL m).length = 3 + m.rs.length ∧ (fmtL m)[0]? = some (numsF wObj m.ps) ∧ (fmtL m)[1]? = some (numsF wGua m.gs) ∧ (fmtL m)[2]? = some (numsF wDay [m.d]) ∧ ∀ k e, m.rs[k]? = some e → (fmtL m)[3 + k]? = some (entT e) := by
  rw [fmt_yes h]
  refine ⟨by simp [head3]; omega, rfl, rfl, rfl, fun k e he => ?_⟩
  rw [List.getElem?_append_right (by simp [head3])]
  simp [head3, he]
theorem sv_flatM (xs : List ByteArray) : sv xs = xs.flatMap senc := by
  induction xs with
  | nil => rfl
  | cons x r ih => rw [List.flatMap_cons, ← ih]; rfl
theorem fmt_row {w : World} {b off n k : Nat} {xs : List ByteArray} {x : ByteArray} (h : Rd w 1 (some ⟨b, off, none⟩) n (sv xs)) (hk : k < n) (hx : xs[k]? = some x) : w.cell? ⟨b, off + k, none⟩ = some (.string x) := by
  rw [sv_flatM] at h
  obtain ⟨b', off', x', e', hb, h1, h2⟩ := senc_at h hk
  injection e' with e'
  injection e' with e1 e2
  subst e1
  subst e2
  rw [hx] at h1
  injection h1 with h1
  rw [h1]
  exact h2
theorem fmt_addr {w : World} {A : Option Addr} {n : Nat} {xs : List ByteArray} (h : Rd w 1 A n (sv xs)) (hk : 0 < n) : ∃ b off, A = some ⟨b, off, none⟩ ∧ b < w.heap.size := by
  rw [sv_flatM] at h
  obtain ⟨b', off', x', e', hb, -⟩ := senc_at h hk
  exact ⟨b', off', e', hb⟩
set_option maxRecDepth 100000 in
set_option maxHeartbeats 8000000 in
theorem law_FnSummaries (A : Option Addr) (n c : Nat) (bs : List UInt8) (w : World) (hx : Rd w 1 A n (bs.flatMap bencU)) (htab : Hid (Lib.TabIs Tryd.prog w "internal/strconv.uint64pow10" .u64 Lib.pow10Tab)) :
    Calls Tryd.prog 5 #[.slice A n c] w fun e w' => e = .returned (.bool true) ∧ Ext w w' := by
  by_cases hbig : 1048576 < n
  case pos =>
    go_enter Tryd.func5, Tryd.ntmps5
    go_wp2_with (refine (laws_big A n c _).mono ?_; rintro e w1 ⟨he, rfl⟩; rw [decide_eq_true hbig] at he; subst he)
    go_ret
    exact ⟨rfl, Ext.refl _⟩
  case neg =>
  have hxb := rd_bytes hx
  have hbd := bytes_bd bs
  obtain ⟨xs, hxs⟩ : ∃ xs, xs = bs.map fun b => (b.toNat : Int) := ⟨_, rfl⟩
  rw [← hxs] at hxb hbd
  clear hxs hx
  have cD := Lib.hid (spec_DrawActs A n c xs w hxb hbd (by omega))
  have HXB := Lib.hid hxb
  have HBD := Lib.hid hbd
  have hn20 : n ≤ 1048576 := by omega
  clear hxb hbd
  go_enter Tryd.func5, Tryd.ntmps5
  go_wp2_with (go_at_call 6; refine (fun h : Hid _ => h.out) ?_)
  unfold Hid
  refine (laws_big A n c _).mono ?_
  rintro e w0 ⟨he, rfl⟩
  rw [decide_eq_false hbig] at he
  subst he
  go_wp2_with (go_at_call 7; refine (fun h : Hid _ => h.out) ?_)
  unfold Hid
  refine (cD.out).mono ?_
  rintro e w1 ⟨v, m, Aa, ca, ys, rfl, ho, hdm, hoa, hla, hma, he1⟩
  obtain ⟨HV, ⟨AV0, nV0, kV0⟩, ⟨AV1, nV1, kV1⟩, ⟨AV2, nV2, kV2⟩, ⟨AV3, nV3, kV3⟩, dV, ⟨AV4, nV4, kV4⟩⟩ := v
  simp only [MV.val, MV.cells]
  have hm := hdm.au.1
  obtain ⟨l1, l2, l3, l4, l5⟩ := museum_lens hm
  have hpp := museumB_parts.1 hm
  have hbp := Lib.hid (halls_bd (xs := m.ps) (by have := hpp.2.1; unfold placesB at this; simp only [Bool.and_eq_true] at this; exact this.2))
  have hbg := Lib.hid (halls_bd hpp.2.2.2.2.1)
  have hd : 0 ≤ m.d ∧ m.d ≤ 1000000 := by have := hpp.2.2.2.2.2.1; simpa [inB] using this
  have hEnt := Lib.hid (museum_ent hm)
  obtain ⟨f0, f1, f2, f3, f4⟩ := fmt_at hm
  have hxp : Hid (Rd w1 1 AV2 nV2 (m.ps.flatMap ienc)) := ho.rd.rp
  have hxg : Hid (Rd w1 1 AV3 nV3 (m.gs.flatMap ienc)) := ho.rd.rg
  have hxr : Hid (Rd w1 3 AV4 nV4 (m.rs.flatMap GEntry.enc)) := ho.rd.rr
  have hlp := Lib.hid (hxp.out.len ienc_len (by omega))
  have hlg := Lib.hid (hxg.out.len ienc_len (by omega))
  have hlr := Lib.hid (hxr.out.len GEntry.len (by omega))
  have hday : dV = m.d := ho.ed
  subst hday
  have hn2 : nV2 ≤ 6 := by (have := hlp.out; omega)
  have hn3 : nV3 ≤ 6 := by (have := hlg.out; omega)
  have hn4 : nV4 ≤ 30 := by (have := hlr.out; omega)
  obtain ⟨w2, hw2⟩ : ∃ w2, w2 = w1.alloc (.cells #[.int .i64 HV, .slice AV0 nV0 kV0, .slice AV1 nV1 kV1, .slice AV2 nV2 kV2, .slice AV3 nV3 kV3, .int .i64 m.d, .slice AV4 nV4 kV4] 30) := ⟨_, rfl⟩
  have hE2 : Ext w1 w2 := by rw [hw2]; exact (Ext.refl _).alloc _
  have HBX : Hid (Blk w2 w1.heap.size 30 #[.int .i64 HV, .slice AV0 nV0 kV0, .slice AV1 nV1 kV1, .slice AV2 nV2 kV2, .slice AV3 nV3 kV3, .int .i64 m.d, .slice AV4 nV4 kV4]) := Lib.hid (by rw [hw2]; exact Blk.new _ _ _)
  have HE12 := Lib.hid hE2
  have HE2 := Lib.hid (he1.trans hE2)
  have HW2 := Lib.hid hw2
  have cF := Lib.hid (impl_FormatMuseum (⟨HV, ⟨AV0, nV0, kV0⟩, ⟨AV1, nV1, kV1⟩, ⟨AV2, nV2, kV2⟩, ⟨AV3, nV3, kV3⟩, m.d, ⟨AV4, nV4, kV4⟩⟩ : MV) m w2 (ho.rd.keep hE2) (Lib.hid (tab_ext htab.out HE2.out)))
  have F0 := Lib.hid f0
  have F1 := Lib.hid f1
  have F2 := Lib.hid f2
  have F3 := Lib.hid f3
  have F4 := Lib.hid f4
  clear hw2 hE2 ho hoa he1 hdm hla hma cD hm hpp f0 f1 f2 f3 f4 l1 l2 l3 l4 l5
  go_wp2_with (go_at_call 18; refine (fun h : Hid _ => h.out) ?_)
  unfold Hid
  rw [← HW2.out]
  refine cF.out.mono ?_
  rintro e w3 ⟨vf, rfl, he3, hof⟩
  obtain ⟨Af, cf, rfl, -⟩ := own_form hof
  rw [F0.out] at hof ⊢
  obtain ⟨nf, hnf⟩ : ∃ nf, nf = 3 + m.rs.length := ⟨_, rfl⟩
  rw [← hnf] at hof ⊢
  have hnf2 : nf = 3 + nV4 := by rw [hnf, hlr.out]
  have HFR := Lib.hid (Rd.of_own hof)
  obtain ⟨bf, of, rfl, hbf⟩ := fmt_addr HFR.out (by omega)
  have HE13 := Lib.hid (HE12.out.trans he3)
  have HE3 := Lib.hid (HE2.out.trans he3)
  have HB3 := Lib.hid (HBX.out.keep he3)
  have B3 := HB3.out
  have b0 := B3.cellAt (i := 0) (by simp)
  have b1 := B3.cellAt (i := 1) (by simp)
  have b2 := B3.cellAt (i := 2) (by simp)
  have b3 := B3.cellAt (i := 3) (by simp)
  have b4 := B3.cellAt (i := 4) (by simp)
  have b5 := B3.cellAt (i := 5) (by simp)
  have b6 := B3.cellAt (i := 6) (by simp)
  simp only [List.getElem_toArray, List.getElem_cons_zero, List.getElem_cons_succ] at b0 b1 b2 b3 b4 b5 b6
  obtain ⟨TD, hTD⟩ : ∃ T, T = itext m.d := ⟨_, rfl⟩
  have hds : TD.size ≤ 21 := by rw [hTD]; exact itext_size m.d (by omega) (by omega)
  have hday3 : numsF wDay [m.d] = ⟨#[100, 97, 121, 32]⟩ ++ TD := by
    rw [hTD]
    show (⟨#[100, 97, 121]⟩ ++ sp1) ++ itext m.d = _
    rfl
  have z2 := fmt_row HFR.out (show 2 < nf by omega) (F3.out.trans (by rw [hday3]))
  have cD : Hid (∀ W, Ext w3 W → Calls Tryd.prog 19 #[.int .i64 m.d] W fun e w' => e = .returned (.string TD) ∧ Ext W w') := Lib.hid (fun W h => by rw [hTD]; exact impl_FormatInt m.d (by omega) (by omega) W (Lib.hid (tab_ext htab.out (HE3.out.trans h))))
  have ga : ∀ W, (Op.stringOp .add ⟨#[100, 97, 121, 32]⟩ TD).run Tryd.prog W = .ok (.string (⟨#[100, 97, 121, 32]⟩ ++ TD)) W := fun W => run_string_add_sum W _ _ (by (have : (⟨#[100, 97, 121, 32]⟩ : ByteArray).size = 4 := rfl); omega)
  have gb : ¬ 9223372036854775807 < (⟨#[100, 97, 121, 32]⟩ : ByteArray).size + TD.size := by (have : (⟨#[100, 97, 121, 32]⟩ : ByteArray).size = 4 := rfl); omega
  have gc : ¬ 9223372036854775807 < 4 + TD.size := by omega
  have i2 : (2 : Int) < (nf : Int) := by omega
  have i1 : (1 : Int) < (nf : Int) := by omega
  have i0 : (0 : Int) < (nf : Int) := by omega
  have hw1 : IntKind.i64.wrap (3 + (nV4 : Int)) = (nf : Int) := by rw [IntWalk.i64_in _ (by omega), hnf2]; push_cast; rfl
  have hw2 : wrap64 (3 + (nV4 : Int)) = (nf : Int) := by rw [IntWalk.wrap64_in _ ⟨by omega, by omega⟩, hnf2]; push_cast; rfl
  have y5 := cell_regrown b5
  have y6 := cell_regrown b6
  have y2 := cell_regrown z2
  have HNF := Lib.hid hnf2
  have HDD := Lib.hid hd
  clear hnf hnf2 hof he3 cF hTD hday3 B3 hd
  go_wp2_with fail
  (refine wp_region_ext (by kernel_rfl) (by kernel_rfl) ?_; (repeat (go_big_quiet_step (first | (go_at_call 19; with_reducible exact Calls.rg (cD.out _ (ext_rg _ _ _)))))); refine wpQuiet_nil ?_)
  intro w4 he4
  have HE4 := Lib.hid he4
  clear he4 y2 y5 y6 z2 ga gb gc cD hds hw1 hw2
  clear b0 b1 b2 b3 b4 b5 b6
  go_wp2_with fail

  go_loopw [6, 7] (fun s' i wr => ∃ (k : Nat) (t : ByteArray), k ≤ nV2 ∧ i = .int .i64 k ∧ s' = .string t ∧ t.size ≤ 8 + 30 * k ∧ Hid (numsF wObj m.ps = numsF t (m.ps.drop k)) ∧ Hid (Ext w3 wr)) (fun _ i _ => nV2 - (intOf i).toNat)
  case atStart => exact ⟨0, wObj, Nat.zero_le _, rfl, rfl, by (have : (wObj).size ≤ 8 := by decide); omega, Lib.hid (by simp), HE4⟩
  case round =>
    obtain ⟨k, t, hk, rfl, rfl, ht, hz, hb⟩ := hrel
    have B3 := HB3.out.keep hb.out
    have b0 := B3.cellAt (i := 0) (by simp)
    have b1 := B3.cellAt (i := 1) (by simp)
    have b2 := B3.cellAt (i := 2) (by simp)
    have b3 := B3.cellAt (i := 3) (by simp)
    have b4 := B3.cellAt (i := 4) (by simp)
    have b5 := B3.cellAt (i := 5) (by simp)
    have b6 := B3.cellAt (i := 6) (by simp)
    simp only [List.getElem_toArray, List.getElem_cons_zero, List.getElem_cons_succ] at b0 b1 b2 b3 b4 b5 b6
    clear B3
    by_cases hlt : k < nV2
    · obtain ⟨b, off, x, rfl, hbs, hxk, p0⟩ := ienc_at (hxp.out.keep (HE13.out.trans hb.out)) hlt
      obtain ⟨hx0, hx1⟩ := hbp.out x (List.mem_of_getElem? hxk)
      have hsz := itext_size x (by omega) (by omega)
      have HT : Hid (numsF wObj m.ps = numsF (t ++ sp1 ++ itext x) (m.ps.drop (k + 1))) := Lib.hid (by rw [hz.out]; exact numsF_drop hxk t)
      have hts : (t ++ sp1 ++ itext x).size ≤ 8 + 30 * (k + 1) := by
        rw [ByteArray.size_append, ByteArray.size_append]
        have : sp1.size = 1 := rfl
        omega
      have hF := Lib.hid (impl_FormatInt x (by omega) (by omega) wr (Lib.hid (tab_ext htab.out (HE3.out.trans hb.out))))
      obtain ⟨T, hT⟩ : ∃ T, T = itext x := ⟨_, rfl⟩
      rw [← hT] at hsz HT hts hF
      clear hT hxk
      go_wp2_with (go_at_call 19; refine (fun h : Hid _ => h.out) ?_)
      unfold Hid
      refine hF.out.mono ?_
      rintro e w5 ⟨rfl, h1⟩
      have HB1 := Lib.hid (hb.out.trans h1)
      clear h1 p0
      clear b0 b1 b2 b3 b4 b5 b6
      go_wp2_with fail
      go_roundw
      case rel => exact ⟨k + 1, t ++ sp1 ++ T, by omega, by go_num, by first | rfl | (rw [ByteArray.append_assoc]; rfl), hts, HT, HB1⟩
      case measure => simp [intOf]; omega
    · obtain rfl : nV2 = k := by omega
      have PO : Hid (numsF wObj m.ps = t) := Lib.hid (by rw [hz.out, drop_nil (by rw [hlp.out]; omega)]; rfl)
      obtain ⟨POT, rfl⟩ : ∃ x, x = t := ⟨_, rfl⟩
      have POE := hb
      clear hb hz ht hlt hk
      go_wp2_with fail
      go_loopw [8, 9] (fun s' i wr => ∃ (k : Nat) (t : ByteArray), k ≤ nV3 ∧ i = .int .i64 k ∧ s' = .string t ∧ t.size ≤ 8 + 30 * k ∧ Hid (numsF wGua m.gs = numsF t (m.gs.drop k)) ∧ Hid (Ext w3 wr)) (fun _ i _ => nV3 - (intOf i).toNat)
      case atStart => exact ⟨0, wGua, Nat.zero_le _, rfl, rfl, by (have : (wGua).size ≤ 8 := by decide); omega, Lib.hid (by simp), POE⟩
      case round =>
        obtain ⟨k, t, hk, rfl, rfl, ht, hz, hb⟩ := hrel
        have B3 := HB3.out.keep hb.out
        have b0 := B3.cellAt (i := 0) (by simp)
        have b1 := B3.cellAt (i := 1) (by simp)
        have b2 := B3.cellAt (i := 2) (by simp)
        have b3 := B3.cellAt (i := 3) (by simp)
        have b4 := B3.cellAt (i := 4) (by simp)
        have b5 := B3.cellAt (i := 5) (by simp)
        have b6 := B3.cellAt (i := 6) (by simp)
        simp only [List.getElem_toArray, List.getElem_cons_zero, List.getElem_cons_succ] at b0 b1 b2 b3 b4 b5 b6
        clear B3
        by_cases hlt : k < nV3
        · obtain ⟨b, off, x, rfl, hbs, hxk, p0⟩ := ienc_at (hxg.out.keep (HE13.out.trans hb.out)) hlt
          obtain ⟨hx0, hx1⟩ := hbg.out x (List.mem_of_getElem? hxk)
          have hsz := itext_size x (by omega) (by omega)
          have HT : Hid (numsF wGua m.gs = numsF (t ++ sp1 ++ itext x) (m.gs.drop (k + 1))) := Lib.hid (by rw [hz.out]; exact numsF_drop hxk t)
          have hts : (t ++ sp1 ++ itext x).size ≤ 8 + 30 * (k + 1) := by
            rw [ByteArray.size_append, ByteArray.size_append]
            have : sp1.size = 1 := rfl
            omega
          have hF := Lib.hid (impl_FormatInt x (by omega) (by omega) wr (Lib.hid (tab_ext htab.out (HE3.out.trans hb.out))))
          obtain ⟨T, hT⟩ : ∃ T, T = itext x := ⟨_, rfl⟩
          rw [← hT] at hsz HT hts hF
          clear hT hxk
          go_wp2_with (go_at_call 19; refine (fun h : Hid _ => h.out) ?_)
          unfold Hid
          refine hF.out.mono ?_
          rintro e w5 ⟨rfl, h1⟩
          have HB1 := Lib.hid (hb.out.trans h1)
          clear h1 p0
          clear b0 b1 b2 b3 b4 b5 b6
          go_wp2_with fail
          go_roundw
          case rel => exact ⟨k + 1, t ++ sp1 ++ T, by omega, by go_num, by first | rfl | (rw [ByteArray.append_assoc]; rfl), hts, HT, HB1⟩
          case measure => simp [intOf]; omega
        · obtain rfl : nV3 = k := by omega
          have PG : Hid (numsF wGua m.gs = t) := Lib.hid (by rw [hz.out, drop_nil (by rw [hlg.out]; omega)]; rfl)
          obtain ⟨PGT, rfl⟩ : ∃ x, x = t := ⟨_, rfl⟩
          have PGE := hb
          clear hb hz ht hlt hk
          go_wp2_with fail
          go_loopw [10] (fun i wr => ∃ (k : Nat), k ≤ nV4 ∧ i = .int .i64 k ∧ Hid (Ext w3 wr)) (fun i _ => nV4 - (intOf i).toNat)
          case atStart => exact ⟨0, Nat.zero_le _, rfl, PGE⟩
          case round =>
            obtain ⟨k, hk, rfl, hb⟩ := hrel
            have HR := Lib.hid (HFR.out.keep hb.out)
            have B3 := HB3.out.keep hb.out
            have b0 := B3.cellAt (i := 0) (by simp)
            have b1 := B3.cellAt (i := 1) (by simp)
            have b2 := B3.cellAt (i := 2) (by simp)
            have b3 := B3.cellAt (i := 3) (by simp)
            have b4 := B3.cellAt (i := 4) (by simp)
            have b5 := B3.cellAt (i := 5) (by simp)
            have b6 := B3.cellAt (i := 6) (by simp)
            simp only [List.getElem_toArray, List.getElem_cons_zero, List.getElem_cons_succ] at b0 b1 b2 b3 b4 b5 b6
            clear B3
            by_cases hlt : k < nV4
            · obtain ⟨b, off, x, rfl, hbs, hxk, p0, p1, p2⟩ := GEntry.at_ (hxr.out.keep (HE13.out.trans hb.out)) hlt
              obtain ⟨⟨hm0, hm1⟩, ⟨hs0, hs1⟩, hxs⟩ := hEnt.out x (List.mem_of_getElem? hxk)
              obtain ⟨we, hwe⟩ : ∃ we, we = wr.alloc (.cells #[.int .i64 x.m, .string x.x, .int .i64 x.s] 58) := ⟨_, rfl⟩
              have hBe : Blk we wr.heap.size 58 #[.int .i64 x.m, .string x.x, .int .i64 x.s] := by rw [hwe]; exact Blk.new _ _ _
              have hee : Ext wr we := by rw [hwe]; exact (Ext.refl _).alloc _
              have hsz1 := itext_size x.m (by omega) (by omega)
              have hsz2 := itext_size x.s (by omega) (by omega)
              have q3 := fmt_row (HR.out.keep hee) (show 3 + k < nf by have := HNF.out; omega) (F4.out k x hxk)
              have cF1 : Hid (∀ W, Ext we W → Calls Tryd.prog 19 #[.int .i64 x.m] W fun e w' => e = .returned (.string (itext x.m)) ∧ Ext W w') := Lib.hid (fun W h => impl_FormatInt x.m (by omega) (by omega) W (Lib.hid (tab_ext htab.out (HE3.out.trans (hb.out.trans (hee.trans h))))))
              have cF2 : Hid (∀ W, Ext we W → Calls Tryd.prog 19 #[.int .i64 x.s] W fun e w' => e = .returned (.string (itext x.s)) ∧ Ext W w') := Lib.hid (fun W h => impl_FormatInt x.s (by omega) (by omega) W (Lib.hid (tab_ext htab.out (HE3.out.trans (hb.out.trans (hee.trans h))))))
              have HLn : entT x = itext x.m ++ ⟨#[32]⟩ ++ x.x ++ ⟨#[32]⟩ ++ itext x.s := rfl
              rw [HLn] at q3
              obtain ⟨T1, hT1⟩ : ∃ T, T = itext x.m := ⟨_, rfl⟩
              obtain ⟨T2, hT2⟩ : ∃ T, T = itext x.s := ⟨_, rfl⟩
              rw [← hT1] at cF1 hsz1 q3
              rw [← hT2] at cF2 hsz2 q3
              have s1 : (⟨#[32]⟩ : ByteArray).size = 1 := rfl
              have g1 : ∀ W, (Op.stringOp .add T1 ⟨#[32]⟩).run Tryd.prog W = .ok (.string (T1 ++ ⟨#[32]⟩)) W := fun W => run_string_add_sum W _ _ (by omega)
              have g2 : ∀ W, (Op.stringOp .add (T1 ++ ⟨#[32]⟩) x.x).run Tryd.prog W = .ok (.string (T1 ++ ⟨#[32]⟩ ++ x.x)) W := fun W => run_string_add_sum W _ _ (by rw [ByteArray.size_append]; omega)
              have g3 : ∀ W, (Op.stringOp .add (T1 ++ ⟨#[32]⟩ ++ x.x) ⟨#[32]⟩).run Tryd.prog W = .ok (.string (T1 ++ ⟨#[32]⟩ ++ x.x ++ ⟨#[32]⟩)) W := fun W => run_string_add_sum W _ _ (by rw [ByteArray.size_append, ByteArray.size_append]; omega)
              have g4 : ∀ W, (Op.stringOp .add (T1 ++ ⟨#[32]⟩ ++ x.x ++ ⟨#[32]⟩) T2).run Tryd.prog W = .ok (.string (T1 ++ ⟨#[32]⟩ ++ x.x ++ ⟨#[32]⟩ ++ T2)) W := fun W => run_string_add_sum W _ _ (by rw [ByteArray.size_append, ByteArray.size_append, ByteArray.size_append]; omega)
              have i3 : ¬ 9223372036854775807 < T1.size + 1 := by omega
              have i4 : ¬ 9223372036854775807 < T1.size + 1 + x.x.size := by omega
              have i5 : ¬ 9223372036854775807 < T1.size + 1 + x.x.size + 1 := by omega
              have i6 : ¬ 9223372036854775807 < T1.size + 1 + x.x.size + 1 + T2.size := by omega
              have z0 := hBe.cellAt (i := 0) (by simp)
              have z1 := hBe.cellAt (i := 1) (by simp)
              have z2 := hBe.cellAt (i := 2) (by simp)
              simp at z0 z1 z2
              have y0 := cell_regrown z0
              have y1 := cell_regrown z1
              have y2 := cell_regrown z2
              have y3 := cell_regrown q3
              have j0 : (0 : Int) ≤ ((3 + k : Nat) : Int) := by omega
              have j1 : ((3 + k : Nat) : Int) < (nf : Int) := by have := HNF.out; omega
              have j2 : (0 : Int) ≤ 3 + (k : Int) := by omega
              have j3 : 3 + (k : Int) < (nf : Int) := by have := HNF.out; omega
              have j4 : (3 + (k : Int)).toNat = 3 + k := by omega
              have hw1 : IntKind.i64.wrap (3 + (k : Int)) = ((3 + k : Nat) : Int) := by rw [IntWalk.i64_in _ (by omega)]; push_cast; rfl
              have hw2 : wrap64 (3 + (k : Int)) = ((3 + k : Nat) : Int) := by rw [IntWalk.wrap64_in _ ⟨by omega, by omega⟩]; push_cast; rfl
              have Hee := Lib.hid (hb.out.trans hee)
              have Hwe := Lib.hid hwe
              clear hBe hee hxk hwe hT1 hT2 HLn z0 z1 z2 q3
              go_upto_region 21 with fail
              rw [← Hwe.out]
              clear p0 p1 p2
              (refine wp_region_ext (by kernel_rfl) (by kernel_rfl) ?_; (repeat (go_big_quiet_step (first | (go_at_call 19; first | with_reducible exact Calls.rg (cF1.out _ (ext_rg _ _ _)) | with_reducible exact Calls.rg (cF2.out _ (ext_rg _ _ _)))))); refine wpQuiet_nil ?_)
              intro w6 he6
              have HE6 := Lib.hid (Hee.out.trans he6)
              clear he6 y0 y1 y2 y3 g1 g2 g3 g4 i3 i4 i5 i6 cF1 cF2 Hwe hw1 hw2 j0 j1 j2 j3 j4
              clear b0 b1 b2 b3 b4 b5 b6
              go_wp2_with fail
              go_roundw
              case rel => exact ⟨k + 1, by omega, by go_num, HE6⟩
              case measure => simp [intOf]; omega
            · have v0 := fmt_row HR.out (show 0 < nf by omega) (F1.out.trans (by rw [PO.out]))
              have v1 := fmt_row HR.out (show 1 < nf by omega) (F2.out.trans (by rw [PG.out]))
              rw [Nat.add_zero] at v0
              go_wp2_with fail
              go_ret
              exact ⟨rfl, HE3.out.trans hb.out⟩
end Go.Proofs.YtfhibjehnoibeaaDoor
