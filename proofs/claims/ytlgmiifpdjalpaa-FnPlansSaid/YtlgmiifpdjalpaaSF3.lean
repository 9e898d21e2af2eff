/- Contract of FillShifts of the program; no condition but what stands at each theorem. -/
import Derived.Test.YtlgmiifpdjalpaaSF2
import Derived.Test.YtlgmiifpdjalpaaKQ
namespace Go.Proofs.Ytlgmiifpdjalpaa
set_option linter.unusedSimpArgs false
set_option linter.unusedVariables false
open Go.RowKit Go.Sort
def FillPost (xs : List GShift) (rest : Int) (w : World) (e : Ending) (w' : World) : Prop :=
  ∃ v, e = .returned v ∧ Ext w w' ∧ w'.ownsRow w.heap.size 3 1 v (fillL xs rest).length ((fillL xs rest).flatMap ienc)
theorem fill_bad {xs : List GShift} {rest : Int} {w w' : World} (h : fillV xs rest = false) (e : Ext w w') : FillPost xs rest w (.returned (.slice none 0 0)) w' := by
  refine ⟨_, rfl, e, ?_⟩
  rw [fillL, h]
  exact World.ownsRow_nil _ _ _ _
theorem one_intB (k : Int) : ∀ u ∈ [Value.int .i64 k], u.oneCell' = true := by intro u hu; simp at hu; subst hu; rfl
section
variable {w : World} {base : Nat} {av : List Nat} {t : TypeId} {L : List Int} {n c g off : Nat} {A : Option Addr}
theorem QRow.avoid {v : Value} (h : QRow w base av t v L) {av' : List Nat} (ha : ∀ x ∈ av', x < base ∨ w.heap.size ≤ x) : QRow w base av' t v L := by
  obtain ⟨g, off, cap, cur, h1, h2, h3, h4, h5⟩ := h
  refine ⟨g, off, cap, cur, h1, h2, fun x hx => ?_, h4, h5⟩
  have := h4.lt
  rcases ha x hx with h | h <;> omega
theorem QRow.none_ (w : World) (base : Nat) (t : TypeId) (hb : base ≤ w.heap.size) : QRow (w.alloc (.cells #[] t)) base [] t (.slice (some ⟨w.heap.size, 0, none⟩) 0 0) [] :=
  ⟨w.heap.size, 0, 0, #[], rfl, hb, (fun x hx => by cases hx), Blk.new _ _ _, by simp, by simp, fun j hj => by simp at hj⟩
theorem QRow.rd (h : QRow w base av t (.slice (some ⟨g, off, none⟩) n c) L) (hn : n ≤ 9223372036854775807) : n = L.length ∧ Rd w 1 (some ⟨g, off, none⟩) n (L.flatMap ienc) := by
  obtain ⟨g', off', cap, cur, h1, h2, h3, h4, h5, h6, h7⟩ := h
  injection h1 with e1 e2 e3
  injection e1 with e1
  injection e1 with e4 e5 _
  subst e2 e4 e5
  refine ⟨rfl, by rw [ienc_map, List.length_map]; omega, hn, fun _ => ⟨g, off, rfl, h4.lt, fun j u hu => ?_⟩⟩
  rw [ienc_map, List.getElem?_map] at hu
  cases hj : L[j]? with
  | none => rw [hj] at hu; cases hu
  | some z =>
    rw [hj] at hu
    simp at hu
    subst hu
    rw [h4.cell, h7 j (List.getElem?_eq_some_iff.1 hj).1, List.getD_eq_getElem?_getD, hj]; rfl
theorem QRow.set (h : QRow w base av t (.slice (some ⟨g, off, none⟩) n c) L) {j : Nat} (hj : j < L.length) (x : Int) :
    base ≤ g ∧ g < w.heap.size ∧ (∀ o, w.frozen? ⟨g, o, none⟩ = false) ∧ w.cell? ⟨g, off + j, none⟩ = some (.int .i64 (L.getD j 0)) ∧ QRow (w.setCell ⟨g, off + j, none⟩ (.int .i64 x)) base av t (.slice (some ⟨g, off, none⟩) n c) (L.set j x) := by
  obtain ⟨g', off', cap, cur, h1, h2, h3, h4, h5, h6, h7⟩ := h
  injection h1 with e1 e2 e3
  injection e1 with e1
  injection e1 with e4 e5 _
  subst e2 e4 e5 e3
  refine ⟨h2, h4.lt, fun o => h4.free o, by rw [h4.cell]; exact h7 j hj, g, off, c, cur.setIfInBounds (off + j) (.int .i64 x), by rw [List.length_set], h2, h3, h4.set _ _, by simpa using h5, by simpa using h6, fun q hq => ?_⟩
  rw [List.length_set] at hq
  by_cases hqj : q = j
  · subst hqj
    have : off + q < cur.size := by omega
    rw [List.getD_eq_getElem?_getD, List.getElem?_set_self hq, Array.getElem?_setIfInBounds, if_pos rfl, if_pos this]; rfl
  · rw [Array.getElem?_setIfInBounds, if_neg (by omega), h7 q hq, List.getD_eq_getElem?_getD, List.getD_eq_getElem?_getD, List.getElem?_set_ne (fun h => hqj h.symm)]
end
theorem ei_intF : EI Try.prog 31 3 1 := ei_of Try.underlying31 (by omega) (by kernel_rfl)
theorem mk0B (w : World) : (Instr.makeSlice 31 (.int .i64 0) (.int .i64 0)).run Try.prog w = .ok (.slice (some ⟨w.heap.size, 0, none⟩) 0 0) (w.alloc (.cells #[] 3)) := mk_intB 0 (by omega) w
set_option maxRecDepth 100000 in
set_option maxHeartbeats 8000000 in
theorem impl_FillShifts (A : Option Addr) (n c : Nat) (xs : List GShift) (rest : Int) (w : World) (hx : Rd w 3 A n (xs.flatMap GShift.enc)) :
    Calls Try.prog 60 #[.slice A n c, .int .i64 rest] w (FillPost xs rest w) := by
  have hl := Lib.hid (hx.len GShift.len (by omega))
  obtain ⟨wa, hwa⟩ : ∃ wa, wa = w.alloc (.cells #[.slice A n c] 42) := ⟨_, rfl⟩
  obtain ⟨wb, hwb⟩ : ∃ wb, wb = wa.alloc (.cells #[.int .i64 rest] 3) := ⟨_, rfl⟩
  have hEa : Ext w wa := by rw [hwa]; exact (Ext.refl w).alloc _
  have hEb : Ext wa wb := by rw [hwb]; exact (Ext.refl wa).alloc _
  have hsa : wa.heap.size = w.heap.size + 1 := by rw [hwa]; simp
  have hsb : wb.heap.size = w.heap.size + 2 := by rw [hwb]; simp; omega
  have kl : wb.cell? ⟨w.heap.size, 0, none⟩ = some (.slice A n c) := (hEb.cellAt w.heap.size (by omega) 0).trans (by rw [hwa]; simp [World.cell?_alloc_at])
  have kr : wb.cell? ⟨w.heap.size + 1, 0, none⟩ = some (.int .i64 rest) := by rw [← hsa, hwb]; simp [World.cell?_alloc_at]
  have HEb := Lib.hid (hEa.trans hEb)
  have Hwb : Hid (wb = (w.alloc (.cells #[.slice A n c] 42)).alloc (.cells #[.int .i64 rest] 3)) := by unfold Hid; rw [hwb, hwa]
  have HX := Lib.hid (hx.keep HEb.out)
  have hA : Hid (∀ b off, A = some ⟨b, off, none⟩ → 0 < n → b < w.heap.size) := fun b off e h => by
    obtain ⟨b', off', e', hb', _⟩ := hx.2.2 h
    rw [e] at e'; injection e' with e'; injection e' with e1 _ _
    rw [e1]; exact hb'
  have cA := Lib.hid (impl_allShifts A n c xs wb HX.out)
  have cB := Lib.hid (fun W => impl_between rest 0 1000 W)
  have HKl := Lib.hid kl
  have HKr := Lib.hid kr
  clear hwa hwb hEa hEb hx kl kr
  cases hv : (xs.all shOk && decide (xs.length ≤ 20))
  case false =>
    have HV : Hid (fillV xs rest = false) := by unfold Hid fillV; rw [hv]; rfl
    rw [hv] at cA
    clear hv
    go_enter Try.func60, Try.ntmps60
    have kl := HKl.out
    go_wp2_with fail
    rw [← Hwb.out]
    refine cA.out.mono ?_
    rintro e w1 ⟨rfl, hb1⟩
    have HB1 := Lib.hid (HEb.out.trans hb1)
    clear hb1 kl
    go_wp2_with fail
    go_ret
    exact fill_bad HV.out HB1.out
  case true =>
  rw [hv] at cA
  cases hr : inB rest 0 1000
  case false =>
    have HV : Hid (fillV xs rest = false) := by unfold Hid fillV; rw [hv, hr]; rfl
    rw [hr] at cB
    clear hv hr
    go_enter Try.func60, Try.ntmps60
    have kl := HKl.out
    go_wp2_with fail
    rw [← Hwb.out]
    refine cA.out.mono ?_
    rintro e w1 ⟨rfl, hb1⟩
    have HB1 := Lib.hid (HEb.out.trans hb1)
    have kr := (hb1.cellAt (w.heap.size + 1) (by omega) 0).trans HKr.out
    clear hb1 kl
    go_wp2_with (refine (cB.out _).mono ?_; rintro e w2 ⟨rfl, rfl⟩)
    go_ret
    exact fill_bad HV.out HB1.out
  case true =>
  have HV : Hid (fillV xs rest = true) := by unfold Hid fillV; rw [hv, hr]; rfl
  have hbr : 0 ≤ rest ∧ rest ≤ 1000 := by simpa [inB] using hr
  have hok : Hid (xs.all shOk = true) := by unfold Hid; simp at hv; simpa using hv.1
  have hn : n ≤ 20 := by have := hl.out; simp at hv; omega
  rw [hr] at cB
  clear hv hr
  go_enter Try.func60, Try.ntmps60
  have kl := HKl.out
  go_wp2_with fail
  rw [← Hwb.out]
  refine cA.out.mono ?_
  rintro e w1 ⟨rfl, hb1⟩
  have HB1 := Lib.hid hb1
  have z1 := hb1.size
  have kr := (hb1.cellAt (w.heap.size + 1) (by omega) 0).trans HKr.out
  have kl1 := (hb1.cellAt w.heap.size (by omega) 0).trans HKl.out
  have Kl1 := Lib.hid kl1
  have m1 : w1.heap.size ≠ w.heap.size := by omega
  have l1 : w.heap.size < w1.heap.size := by omega
  clear hb1 kl
  go_wp2_with (refine (cB.out _).mono ?_; rintro e w2 ⟨rfl, rfl⟩)
  obtain ⟨wo, hwo⟩ : ∃ wo, wo = w1.alloc (.cells #[] 3) := ⟨_, rfl⟩
  rw [← hwo]
  have hEo : Ext w1 wo := by rw [hwo]; exact (Ext.refl w1).alloc _
  have Ho0 : Hid (wo.ownsRow w1.heap.size 3 1 (.slice (some ⟨w1.heap.size, 0, none⟩) 0 0) 0 ((ints (List.range 0)).flatMap ienc)) := by rw [hwo]; exact own_empty w1 w1.heap.size 3 1 (Nat.le_refl _)
  have HEo := Lib.hid hEo
  have Kr := Lib.hid kr
  clear hwo hEo kr kl1
  go_loopw [5, 23] (fun v iv wr => ∃ (k : Nat), k ≤ n ∧ iv = .int .i64 k ∧ Hid (wr.ownsRow w1.heap.size 3 1 v k ((ints (List.range k)).flatMap ienc)) ∧ Ext w1 wr) (fun _ iv _ => n - (intOf iv).toNat)
  case atStart => exact ⟨0, Nat.zero_le _, rfl, Ho0, HEo.out⟩
  case round =>
    obtain ⟨k, hk, rfl, hown, hb⟩ := hrel
    have HB := Lib.hid hb
    have zb := hb.size
    have kl := (hb.cellAt w.heap.size (by omega) 0).trans Kl1.out
    have kr := (hb.cellAt (w.heap.size + 1) (by omega) 0).trans Kr.out
    clear hb
    by_cases hlt : k < n
    · have HS : Hid ((ints (List.range (k + 1))).flatMap ienc = (ints (List.range k)).flatMap ienc ++ [Value.int .i64 (k : Int)]) := by
        unfold Hid ints
        rw [List.range_succ, List.map_append, List.flatMap_append]; rfl
      clear kl kr
      go_wp2_with (at_builtin; refine append1 ei_intF rfl _ _ rfl w1.heap.size wr _ _ k _ (by rfl) hown.out [.int .i64 (k : Int)] (by rfl) rfl (one_intB _) (by omega) (by omega) ?_; intro v' w3 ho3 he3; have HO3 := Lib.hid ho3; have HE3 := Lib.hid (he3 w1 HB.out (Nat.le_refl _)); clear ho3 he3)
      go_roundw
      case rel => exact ⟨k + 1, by omega, by go_num, by unfold Hid; rw [HS.out]; exact HO3.out, HE3.out⟩
      case measure => simp [intOf]; omega
    obtain rfl : k = n := by omega
    obtain ⟨Ao, co, rfl, hco⟩ := own_form hown.out
    by_cases hn0 : k = 0
    · subst hn0
      have hnil : xs = [] := List.length_eq_zero_iff.1 hl.out
      have HF : Hid (fillL xs rest = []) := by unfold Hid; rw [hnil]; unfold fillL; split <;> simp [fillS, ordL]
      have hmk := mk0B wr
      go_wp2_with (refine (slices_SortStable0 _ _ _ _).mono ?_; rintro e w3 ⟨rfl, rfl⟩)
      refine wp_loop_rounds 1 ?_
      rw [rounds_succ]
      go_wp2
      go_ret
      refine ⟨_, rfl, ((HEb.out.trans (HB1.out.trans HB.out)).alloc _).alloc _, ?_⟩
      rw [HF.out]
      exact own_keep (own_weak (own_empty wr wr.heap.size 3 1 (Nat.le_refl _)) (by omega)) ((Ext.refl _).alloc _)
    · obtain ⟨g, rfl, hgb, hpb⟩ := PBlk.of_own hown.out (by omega)
      have hgr : g < wr.heap.size := hpb.lt
      have cS := Lib.hid (slices_SortStable g co w.heap.size A k c xs wr (HX.out.keep (HB1.out.trans HB.out)) kl (by omega) (fun b off e => by have := hA.out b off e (by omega); omega) hok hn hpb)
      have hmk := mk_intB k (by omega)
      obtain ⟨Z, hZ⟩ : ∃ Z, Z = ((List.replicate k (0 : Int)).map (Value.int .i64)).toArray := ⟨_, rfl⟩
      simp only [← hZ] at hmk
      have HZ := Lib.hid hZ
      clear hZ
      have hml : w.heap.size ≠ g := by omega
      clear hown hpb
      go_wp2_with (refine cS.out.mono ?_; rintro e ws ⟨rfl, hgs, hps⟩; have zs := hgs.size; have kls := (grown_cell hgs w.heap.size (by omega) (by omega) 0).trans kl; have krs := (grown_cell hgs (w.heap.size + 1) (by omega) (by omega) 0).trans kr; have hms := hmk ws; have HES := Lib.hid (HB.out.grown hgs (fun q hq => by injection hq with hq; subst hq; exact hgb)); have HPS := Lib.hid hps; clear hgs hps hmk)
      have HKS := Lib.hid (And.intro kls krs)
      clear kls krs kl kr hms
      obtain ⟨wo, hwo⟩ : ∃ wo, wo = ws.alloc (.cells Z 3) := ⟨_, rfl⟩
      obtain ⟨wf, hwf⟩ : ∃ wf, wf = wo.alloc (.cells #[] 3) := ⟨_, rfl⟩
      rw [← hwo]
      have hso : wo.heap.size = ws.heap.size + 1 := by rw [hwo]; simp
      have hsf : wf.heap.size = ws.heap.size + 2 := by rw [hwf]; simp; omega
      have hEo2 : Ext ws wo := by rw [hwo]; exact (Ext.refl ws).alloc _
      have hEf : Ext wo wf := by rw [hwf]; exact (Ext.refl wo).alloc _
      have hIo : IBlk wf ws.heap.size 3 (List.replicate k 0) := by
        refine IBlk.keep ?_ hEf
        rw [hwo, HZ.out]; exact Blk.new _ _ _
      have hOf : QRow wf wo.heap.size [] 3 (.slice (some ⟨wo.heap.size, 0, none⟩) 0 0) [] := by rw [hwf]; exact QRow.none_ wo wo.heap.size 3 (Nat.le_refl _)
      rw [hso] at hOf
      have Hwf : Hid (wf = wo.alloc (.cells #[] 3)) := hwf
      have HIo := Lib.hid hIo
      have HOf := Lib.hid hOf
      have HEf := Lib.hid (HES.out.trans (hEo2.trans hEf))
      have HPf := Lib.hid (HPS.out.keep (hEo2.trans hEf))
      have hso2 : wo.heap.size = ws.heap.size + 1 := hso
      rw [← hwf]
      clear hwo hwf hEo2 hEf hIo hOf Hwf hso2
      have hbase : w1.heap.size ≤ ws.heap.size := by omega
      have hgs : g < ws.heap.size := by omega
      have HXw : Hid (Rd w1 3 A k (xs.flatMap GShift.enc)) := HX.out.keep HB1.out
      go_loopw [8, 40] (fun fv iv wr => ∃ (j : Nat) (st u : List Int), j ≤ k ∧ iv = .int .i64 j ∧ Hid ((st, u) = fillS xs rest ((ordL xs).take j)) ∧ Hid (QRow wr (ws.heap.size + 1) [] 3 fv st) ∧ Hid (IBlk wr ws.heap.size 3 u) ∧ Hid (PBlk wr g 3 (ints (ordL xs))) ∧ Ext w1 wr) (fun _ iv _ => k - (intOf iv).toNat)
      case atStart => exact ⟨0, [], List.replicate k 0, Nat.zero_le _, rfl, by unfold Hid; rw [List.take_zero, ← hl.out]; rfl, HOf, HIo, HPf, HEf.out⟩
      case round =>
        obtain ⟨j, st, u, hjk, rfl, hfs, hown, hI, hP, hb⟩ := hrel
        have hul : u.length = k := by
          have := fillS_out xs rest ((ordL xs).take j)
          rw [← hfs.out] at this
          rw [← hl.out]; exact this
        have hsl : st.length ≤ j := by
          have := fillS_st xs rest ((ordL xs).take j)
          rw [← hfs.out, List.length_take] at this
          simp only at this
          omega
        have HB2 := Lib.hid hb
        have zr := hb.size
        have hIl := hI.out.lt
        by_cases hlt : j < k
        · obtain ⟨i, hoi, hix⟩ := ordL_at (xs := xs) (k := j) (by rw [hl.out]; exact hlt)
          have hik : i < k := by rw [← hl.out]; exact hix
          have hpl : (ints (ordL xs)).length = k := by rw [ints_len, ordL_len]; exact hl.out
          have cq := hP.out.cell (i := j) (by rw [hpl]; exact hlt)
          rw [ints_get hoi] at cq
          have hjk2 : (j : Int) < k := by omega
          have kl := (hb.cellAt w.heap.size (by omega) 0).trans Kl1.out
          have kr := (hb.cellAt (w.heap.size + 1) (by omega) 0).trans Kr.out
          obtain ⟨b, off, x, rfl, hbs, hxi, h0, h1, h2⟩ := GShift.at_ HXw.out hik
          have hst := Lib.hid (fillS_bd hok.out rest (p := (ordL xs).take j) ordL_mem)
          rw [← hfs.out] at hst
          simp only at hst
          have hxb := sh_bd hok.out hxi
          obtain ⟨gf, of, cf, rfl, hgf, -, hgfl, -⟩ := hown.out.form
          have hQr := hown.out.rd (by omega)
          obtain ⟨wi, hwi⟩ : ∃ wi, wi = wr.alloc (.cells #[.int .i64 (i : Int)] 3) := ⟨_, rfl⟩
          have hEi : Ext wr wi := by rw [hwi]; exact (Ext.refl wr).alloc _
          have hsi : wi.heap.size = wr.heap.size + 1 := by rw [hwi]; simp
          have ki : wi.cell? ⟨wr.heap.size, 0, none⟩ = some (.int .i64 (i : Int)) := by rw [hwi]; simp [World.cell?_alloc_at]
          have cI := Lib.hid (slices_IndexFill (some ⟨gf, of, none⟩) st.length cf st rest (w.heap.size + 1) w.heap.size wr.heap.size (some ⟨b, off, none⟩) k c xs i wi (hQr.2.keep hEi) ((hEi.cellAt (w.heap.size + 1) (by omega) 0).trans kr) ((hEi.cellAt w.heap.size (by omega) 0).trans kl) ki (HXw.out.keep (hb.trans hEi)) hik hst hbr (by omega))
          have HXI := Lib.hid hxi
          have HSTEP := Lib.hid (fillS_step (rest := rest) hoi hfs.out)
          rw [shF_at hxi] at cI HSTEP
          rw [shT_at hxi] at HSTEP
          have Hwi := Lib.hid hwi
          have HBi : Hid (Blk wi wr.heap.size 3 #[.int .i64 (i : Int)]) := by unfold Hid; rw [hwi]; exact Blk.new _ _ _
          have KX := Lib.hid h2
          have HEi := Lib.hid hEi
          have HKi := Lib.hid ki
          have hbr2 : b < wr.heap.size := by omega
          have mi : wr.heap.size ≠ w.heap.size := by omega
          obtain ⟨p, hp⟩ : ∃ p, p = pickG st x.f rest := ⟨_, rfl⟩
          have hple : p ≤ st.length := by rw [hp]; exact pickG_le ..
          unfold idxV at cI
          rw [← hp] at cI HSTEP
          have KL := Lib.hid kl
          have x2 : wr.cell? ⟨b, off + i * 3 + 2, none⟩ = some (.int .i64 x.t) := (hb.cellAt b hbs _).trans h2
          have X2 := Lib.hid x2
          clear hp hwi hEi hb hxi h0 h1 h2 ki kl kr x2 hQr
          by_cases hpn : p < st.length
          case pos =>
            rw [if_pos hpn] at cI
            have hgfl2 : Hid (gf < wr.heap.size) := hgfl
            go_wp2_with (rw [← Hwi.out]; refine cI.out.mono ?_; rintro e w2 ⟨rfl, hb2⟩; have e2 := HEi.out.trans hb2; have z2 := hb2.size; have kl2 := (e2.cellAt w.heap.size (by omega) 0).trans KL.out; have ki2 := (hb2.cellAt wr.heap.size (by omega) 0).trans HKi.out; have kx2 := (e2.cellAt b hbr2 _).trans X2.out; obtain ⟨-, hl2, hff, hf0, hown2⟩ := QRow.set (hown.out.keep e2) hpn x.t; have HI2 := Lib.hid (Blk.far (hI.out.keep e2) (p := ⟨gf, of + p, none⟩) (by show ws.heap.size ≠ gf; omega) (.int .i64 x.t)); have ho0 := IBlk.cell HI2.out (i := i) (by rw [hul]; exact hik); have ho1 := IBlk.free HI2.out i; have hik2 : (i : Int) < k := (by omega); have hpn2 : (p : Int) < st.length := (by omega); have lb2 : b < w2.heap.size := (by omega); have lw2 : w.heap.size < w2.heap.size := (by omega); have li2 : wr.heap.size < w2.heap.size := (by omega); have lo2 : ws.heap.size < w2.heap.size := (by omega); have ng1 : gf ≠ wr.heap.size := (by omega); have ng2 : gf ≠ w.heap.size := (by omega); have HE2 := Lib.hid e2; have HOWN2 := Lib.hid (hown2.avoid (av' := [ws.heap.size]) (fun x hx => by simp at hx; omega)); clear hb2 e2 hown2)
            go_roundw
            case rel =>
              refine ⟨j + 1, st.set p x.t, u.set i (p : Int), by omega, by go_num, ?_, ?_, ?_, ?_, ?_⟩
              · unfold Hid; rw [HSTEP.out, putG, if_pos hpn]
              · exact (HOWN2.out.far (gF := ws.heap.size) (by simp) _ _).avoid (fun x hx => by cases hx)
              · exact IBlk.set HI2.out i (p : Int)
              · exact PBlk.farH (PBlk.farH (hP.out.keep HE2.out) (p := ⟨gf, of + p, none⟩) (by show g ≠ gf; omega) _) (p := ⟨ws.heap.size, i, none⟩) (by show g ≠ ws.heap.size; omega) _
              · exact ((HB2.out.trans HE2.out).setCell (p := ⟨gf, of + p, none⟩) (by show w1.heap.size ≤ gf; omega) _).setCell (p := ⟨ws.heap.size, i, none⟩) hbase _
            case measure => simp [intOf] <;> omega
          case neg =>
            rw [if_neg hpn] at cI
            obtain rfl : p = st.length := by omega
            have HQ0 := Lib.hid (hown.out.avoid (av' := [wr.heap.size, ws.heap.size, g]) (fun x hx => by simp at hx; omega))
            go_wp2_with (first
              | (rw [← Hwi.out]; refine cI.out.mono ?_; rintro e w2 ⟨rfl, hb2⟩; have e2 := HEi.out.trans hb2; have z2 := hb2.size; have HQ2 := Lib.hid (HQ0.out.keep e2); have HBi2 := Lib.hid (HBi.out.keep hb2); have HE2 := Lib.hid e2; clear hb2 e2)
              | (at_builtin; refine QRow.append ei_intF rfl _ _ rfl (ws.heap.size + 1) [wr.heap.size, ws.heap.size, g] w2 _ _ st (by rfl) HQ2.out 0 (by rfl) (by omega) (by omega) (fun x hx => by simp at hx; omega) ?_; intro v3 w3 hq3 he3 hk3; have HE3 := Lib.hid (he3 w1 (HB2.out.trans HE2.out) (by omega)); have hBi3 := hk3 wr.heap.size (by simp) _ _ HBi2.out; have ki3 := hBi3.cell 0; have z3 := hBi3.lt; have hI3 : IBlk w3 ws.heap.size 3 u := hk3 ws.heap.size (by simp) _ _ (hI.out.keep HE2.out); have hP3 : PBlk w3 g 3 (ints (ordL xs)) := (by obtain ⟨cur, h1, h2⟩ := hP.out.keep HE2.out; exact ⟨cur, hk3 g (by simp) _ _ h1, h2⟩); have kl3 := (HE3.out.cellAt w.heap.size (by omega) 0).trans Kl1.out; have kx3 := (HE3.out.cellAt b hbs _).trans KX.out; obtain ⟨g3, of3, c3, hv3, hg3b, hav, hl3, -⟩ := hq3.form; have hv3' : v3 = .slice (some ⟨g3, of3, none⟩) (st.length + 1) c3 := (by rw [hv3]; simp); subst hv3'; have ng1 : g3 ≠ wr.heap.size := hav _ (by simp); obtain ⟨-, -, hff, hf0, hq4⟩ := QRow.set hq3 (j := st.length) (by simp) x.t; have ng2 : g3 ≠ w.heap.size := (by omega); have HI3 := Lib.hid (Blk.far hI3 (p := ⟨g3, of3 + st.length, none⟩) (by show ws.heap.size ≠ g3; omega) (.int .i64 x.t)); have HP3 := Lib.hid hP3; have ho0 := IBlk.cell HI3.out (i := i) (by rw [hul]; exact hik); have ho1 := IBlk.free HI3.out i; have hik2 : (i : Int) < k := (by omega); have hpn2 : (st.length : Int) < (st.length : Int) + 1 := (by omega); have hpn3 : st.length < st.length + 1 := (by omega); have lb3 : b < w3.heap.size := (by omega); have lw3 : w.heap.size < w3.heap.size := (by omega); have lo3 : ws.heap.size < w3.heap.size := (by omega); have HOWN3 := Lib.hid (hq4.avoid (av' := [ws.heap.size]) (fun x hx => by simp at hx; omega)); have Hg3b := Lib.hid hg3b; have hgg3 : Hid (g ≠ g3) := (by unfold Hid; omega); have hbg3 : Hid (w1.heap.size ≤ g3) := (by unfold Hid; omega); clear hq3 he3 hk3 hBi3 hI3 hP3 hv3 hav hq4))
            go_roundw
            case rel =>
              refine ⟨j + 1, st ++ [x.t], u.set i (st.length : Int), by omega, by go_num, ?_, ?_, ?_, ?_, ?_⟩
              · unfold Hid; rw [HSTEP.out, putG, if_neg (Nat.lt_irrefl _)]
              · have h := (HOWN3.out.far (gF := ws.heap.size) (by simp) i (.int .i64 (st.length : Int))).avoid (av' := []) (fun x hx => by cases hx)
                rw [show (st ++ [(0 : Int)]).set st.length x.t = st ++ [x.t] by simp] at h
                exact h
              · exact IBlk.set HI3.out i (st.length : Int)
              · exact PBlk.farH (PBlk.farH HP3.out (p := ⟨g3, of3 + st.length, none⟩) hgg3.out _) (p := ⟨ws.heap.size, i, none⟩) (by show g ≠ ws.heap.size; omega) _
              · exact (HE3.out.setCell (p := ⟨g3, of3 + st.length, none⟩) hbg3.out _).setCell (p := ⟨ws.heap.size, i, none⟩) hbase _
            case measure => simp [intOf] <;> omega
        · obtain rfl : j = k := by omega
          have HFL : Hid (fillL xs rest = u) := by
            unfold Hid fillL
            rw [if_pos HV.out]
            have h := hfs.out
            rw [List.take_of_length_le (by rw [ordL_len, hl.out]; exact Nat.le_refl _)] at h
            rw [← h]
          have HUL := Lib.hid hul
          go_wp2_with fail
          go_ret
          refine ⟨_, rfl, HEb.out.trans (HB1.out.trans HB2.out), ?_⟩
          rw [HFL.out]
          have h := hI.out.own (base := w.heap.size) (by omega) (by rw [HUL.out]; unfold maxLen; omega)
          rw [HUL.out] at h ⊢
          exact h
end Go.Proofs.Ytlgmiifpdjalpaa
