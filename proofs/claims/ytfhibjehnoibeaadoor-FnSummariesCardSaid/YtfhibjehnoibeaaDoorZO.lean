/- Texts of one proof, laid one behind the other (SPb, SPc, H9); no condition but what stands at each theorem. -/
import Derived.Deep.DeepCutAuto
import Derived.Test.YtfhibjehnoibeaaDoorZE
import Derived.Test.YtfhibjehnoibeaaDoorZG
import Derived.Test.YtfhibjehnoibeaaDoorZH
import Derived.Test.YtfhibjehnoibeaaDoorZN
/- FormatMuseum of the reference; no condition but what stands at each theorem. -/
namespace Go.Proofs.YtfhibjehnoibeaaDoor
set_option linter.unusedSimpArgs false
set_option linter.unusedVariables false
open Go.RowKit Go.Sort
theorem brok_ent : ∀ (rs : List GEntry) (s : Int) (p : Option Int) (k : Nat), brokF s p k rs = -1 → ∀ e ∈ rs, (0 ≤ e.m ∧ e.m ≤ 1000000) ∧ (0 ≤ e.s ∧ e.s ≤ 1000002) ∧ e.x.size ≤ 200
  | [], _, _, _, _, _, h => by cases h
  | e :: r, s, p, k, h, y, hy => by
    rw [brokF] at h
    split at h
    · omega
    · rename_i hc
      simp only [Bool.or_eq_true, not_or, decide_eq_true_eq, bne_iff_ne, ne_eq, Decidable.not_not] at hc
      rcases List.mem_cons.1 hy with rfl | hy
      · have h1 := hc.1
        have h4 := hc.2.1
        have h5 := sealB_bd s y.m y.x
        unfold sealB at h1
        split at h1
        · rename_i h2
          simp only [inB, Bool.and_eq_true, decide_eq_true_eq] at h2
          have h3 := h2.2.2
          unfold digest at h3
          split at h3
          · exact ⟨h2.2.1, by omega, by assumption⟩
          · omega
        · omega
      · exact brok_ent r _ _ _ h y hy
theorem museum_ent {m : GMuseum} (h : museumB m = true) : ∀ e ∈ m.rs, (0 ≤ e.m ∧ e.m ≤ 1000000) ∧ (0 ≤ e.s ∧ e.s ≤ 1000002) ∧ e.x.size ≤ 200 := by
  have h7 := (museumB_parts.1 h).2.2.2.2.2.2.1
  unfold sealedB brokenI at h7
  simp only [Bool.and_eq_true, decide_eq_true_eq, beq_iff_eq] at h7
  exact brok_ent _ _ _ _ h7.2
theorem halls_bd {H : Int} {ds : List GDoor} {xs : List Int} (h : hallsB H ds xs = true) : ∀ x ∈ xs, 0 ≤ x ∧ x ≤ 1000000 := by
  unfold hallsB at h
  simp only [Bool.and_eq_true, List.all_eq_true] at h
  intro x hx
  have h1 := (hallB_iff h.2).1 (h.1 x hx)
  have h2 := house_HG h.2
  omega
def sv (l : List ByteArray) : List Value := l.map Value.string
theorem sv_len (l : List ByteArray) : (sv l).length = l.length := by simp [sv]
theorem sv_snoc (l : List ByteArray) (x : ByteArray) : sv (l ++ [x]) = sv l ++ [.string x] := by simp [sv]
theorem one_strF (s : ByteArray) : ∀ u ∈ [Value.string s], u.oneCell' = true := by intro u hu; simp at hu; subst hu; rfl
theorem ei_SF : EI Tryd.prog 54 9 1 := ei_of Tryd.underlying54 (by omega) (by kernel_rfl)
def FmtPost (m : GMuseum) (w : World) (e : Ending) (w' : World) : Prop := ∃ v, e = .returned v ∧ Ext w w' ∧ w'.ownsRow w.heap.size 9 1 v (fmtL m).length (sv (fmtL m))
def head3 (m : GMuseum) : List ByteArray := [numsF wObj m.ps, numsF wGua m.gs, numsF wDay [m.d]]
theorem fmt_yes {m : GMuseum} (h : museumB m = true) : fmtL m = head3 m ++ m.rs.map entT := by unfold fmtL; rw [if_pos h]; rfl
theorem fmt_no {m : GMuseum} (h : museumB m = false) : fmtL m = [] := by unfold fmtL; rw [h]; rfl
end Go.Proofs.YtfhibjehnoibeaaDoor
/- FormatMuseum of the program; no condition but what stands at each theorem. -/
namespace Go.Proofs.YtfhibjehnoibeaaDoor
set_option linter.unusedSimpArgs false
set_option linter.unusedVariables false
open Go.RowKit Go.Sort
set_option maxRecDepth 100000 in
set_option maxHeartbeats 4000000 in
theorem impl_FormatMuseum (v : MV) (m : GMuseum) (w : World) (hx : MRd w v m) (htab : Hid (Lib.TabIs Tryd.prog w "internal/strconv.uint64pow10" .u64 Lib.pow10Tab)) :
    Calls Tryd.prog 18 #[v.val] w (FmtPost m w) := by
  obtain ⟨wb, hwb⟩ : ∃ wb, wb = w.alloc (.cells v.cells 30) := ⟨_, rfl⟩
  have hbx := MBox.new hwb
  have hE : Ext w wb := by rw [hwb]; exact (Ext.refl w).alloc _
  have HX := Lib.hid (hx.keep hE)
  have HTB := Lib.hid (tab_ext htab.out hE)
  have cM := Lib.hid (impl_MuseumOk v m wb HX.out)
  obtain ⟨Hh, ⟨A0, n0, c0⟩, ⟨A1, n1, c1⟩, ⟨A2, n2, c2⟩, ⟨A3, n3, c3⟩, day, ⟨A4, n4, c4⟩⟩ := v
  have hxp : Hid (Rd wb 1 A2 n2 (m.ps.flatMap ienc)) := HX.out.rp
  have hxg : Hid (Rd wb 1 A3 n3 (m.gs.flatMap ienc)) := HX.out.rg
  have hxr : Hid (Rd wb 3 A4 n4 (m.rs.flatMap GEntry.enc)) := HX.out.rr
  have hnr : n4 ≤ 9223372036854775807 := hxr.out.2.1
  have hlp := Lib.hid (hxp.out.len ienc_len (by omega))
  have hlg := Lib.hid (hxg.out.len ienc_len (by omega))
  have hl4 := Lib.hid (hxr.out.len GEntry.len (by omega))
  have hday : day = m.d := hx.ed
  subst hday
  have HE := Lib.hid hE
  have Hwb : Hid (wb = w.alloc (.cells #[.int .i64 Hh, .slice A0 n0 c0, .slice A1 n1 c1, .slice A2 n2 c2, .slice A3 n3 c3, .int .i64 m.d, .slice A4 n4 c4] 30)) := hwb
  have HB := Lib.hid hbx
  have hbl := hbx.lt
  have hsb : wb.heap.size = w.heap.size + 1 := by rw [hwb]; simp
  clear hE hwb hbx hx
  show Calls Tryd.prog 18 #[.agg #[.int .i64 Hh, .slice A0 n0 c0, .slice A1 n1 c1, .slice A2 n2 c2, .slice A3 n3 c3, .int .i64 m.d, .slice A4 n4 c4]] w _
  obtain ⟨b0, b1, b2, b3, b4, b5, b6⟩ := HB.out.cell
  simp only at b0 b1 b2 b3 b4 b5 b6
  cases hm : museumB m
  case false =>
    rw [hm] at cM
    have HF := Lib.hid (fmt_no hm)
    clear hm
    go_enter Tryd.func18, Tryd.ntmps18
    go_wp2_with (go_at_call 37; refine (fun h : Hid _ => h.out) ?_)
    unfold Hid
    rw [← Hwb.out]
    refine cM.out.mono ?_
    rintro e w1 ⟨rfl, h1⟩
    have HE1 := Lib.hid (HE.out.trans h1)
    have z1 := h1.size
    clear h1 b0 b1 b2 b3 b4 b5 b6
    go_wp2_with fail
    go_ret
    unfold FmtPost
    rw [HF.out]
    exact ⟨_, rfl, HE1.out, World.ownsRow_nil _ _ _ _⟩
  rw [hm] at cM
  have hEnt := Lib.hid (museum_ent hm)
  have HF := Lib.hid (fmt_yes hm)
  have hpp := museumB_parts.1 hm
  have hbp := Lib.hid (halls_bd (xs := m.ps) (by have := hpp.2.1; unfold placesB at this; simp only [Bool.and_eq_true] at this; exact this.2))
  have hbg := Lib.hid (halls_bd hpp.2.2.2.2.1)
  have hd : 0 ≤ m.d ∧ m.d ≤ 1000000 := by have := hpp.2.2.2.2.2.1; simpa [inB] using this
  have hn4 : n4 ≤ 30 := by (have := sealed_len hpp.2.2.2.2.2.2.1; have := hl4.out; omega)
  have hn2 : n2 ≤ 6 := by
    have := hpp.2.1
    unfold placesB at this
    simp only [Bool.and_eq_true, decide_eq_true_eq] at this
    have h2 := hlp.out
    omega
  have hn3 : n3 ≤ 6 := by (have := hpp.2.2.2.1; have := hlg.out; omega)
  clear hm hpp
  go_enter Tryd.func18, Tryd.ntmps18
  go_wp2_with (go_at_call 37; refine (fun h : Hid _ => h.out) ?_)
  unfold Hid
  rw [← Hwb.out]
  refine cM.out.mono ?_
  rintro e w1 ⟨rfl, h1⟩
  have HE1 := Lib.hid h1
  have z1 := h1.size
  clear h1 b0 b1 b2 b3 b4 b5 b6
  obtain ⟨b0, b1, b2, b3, b4, b5, b6⟩ := (HB.out.keep HE1.out).cell
  simp only at b0 b1 b2 b3 b4 b5 b6
  go_upto_region 3 with fail
  have cO := Lib.hid (fun W (he : Ext wb W) => impl_withNumbersG ⟨#[111, 98, 106, 101, 99, 116, 115]⟩ A2 n2 c2 m.ps W (hxp.out.keep he) hn2 (by decide) hbp (Lib.hid (tab_ext HTB.out he)))
  have cG := Lib.hid (fun W (he : Ext wb W) => impl_withNumbersG ⟨#[103, 117, 97, 114, 100, 115]⟩ A3 n3 c3 m.gs W (hxg.out.keep he) hn3 (by decide) hbg (Lib.hid (tab_ext HTB.out he)))
  have hdd : Hid (∀ x ∈ [m.d], 0 ≤ x ∧ x ≤ 1000000) := Lib.hid (fun x hx => by rw [List.mem_singleton] at hx; subst hx; exact hd)
  have cD := Lib.hid (fun W B (hr : Rd W 1 (some ⟨B, 0, none⟩) 1 ([m.d].flatMap ienc)) (he : Ext wb W) => impl_withNumbersG ⟨#[100, 97, 121]⟩ (some ⟨B, 0, none⟩) 1 1 [m.d] W hr (by omega) (by decide) hdd (Lib.hid (tab_ext HTB.out he)))
  obtain ⟨TO, hTO⟩ : ∃ T, T = numsF wObj m.ps := ⟨_, rfl⟩
  obtain ⟨TG, hTG⟩ : ∃ T, T = numsF wGua m.gs := ⟨_, rfl⟩
  obtain ⟨TD, hTD⟩ : ∃ T, T = numsF wDay [m.d] := ⟨_, rfl⟩
  rw [show numsF ⟨#[111, 98, 106, 101, 99, 116, 115]⟩ m.ps = TO from hTO.symm] at cO
  rw [show numsF ⟨#[103, 117, 97, 114, 100, 115]⟩ m.gs = TG from hTG.symm] at cG
  rw [show numsF ⟨#[100, 97, 121]⟩ [m.d] = TD from hTD.symm] at cD
  have H3 : Hid (head3 m = [TO, TG, TD]) := Lib.hid (by
    unfold head3
    rw [← hTO, ← hTG, ← hTD])
  clear hTO hTG hTD
  go_cut [3] (fun p wx => Hid (wx.ownsRow wb.heap.size 9 1 p 3 (sv (head3 m))) ∧ Hid (Ext wb wx))
  case first =>
    go_region_held3 (fun w' => w'.cell? ⟨w.heap.size, 3, none⟩ = some (.slice A2 n2 c2) ∧ w'.cell? ⟨w.heap.size, 4, none⟩ = some (.slice A3 n3 c3) ∧ w'.cell? ⟨w.heap.size, 5, none⟩ = some (.int .i64 m.d)) (go_keep) (first
      | (go_at_call_of 24 (Value.string ⟨#[111, 98, 106, 101, 99, 116, 115]⟩); refine (cO.out _ (by first | exact HE1.out.trans (Ext.refl _).drew | exact HE1.out.trans ((Ext.refl _).alloc _).drew)).mono ?_; rintro e wA ⟨rfl, hA⟩; have eA : Ext w1 wA := (by first | exact Ext.trans (Ext.refl _).drew hA | exact Ext.trans ((Ext.refl _).alloc _).drew hA); obtain ⟨-, -, -, r3, r4, r5, -⟩ := (HB.out.keep (HE1.out.trans eA)).cell; simp only at r3 r4 r5)
      | (go_at_call_of 24 (Value.string ⟨#[103, 117, 97, 114, 100, 115]⟩); refine (cG.out _ (by first | exact HE1.out.trans eA | exact (HE1.out.trans eA).alloc _)).mono ?_; rintro e wB ⟨rfl, hB⟩; have eB : Ext w1 wB := (by first | exact eA.trans hB | exact Ext.trans (eA.alloc _) hB); obtain ⟨-, -, -, s3, s4, s5, -⟩ := (HB.out.keep (HE1.out.trans eB)).cell; simp only at s3 s4 s5)
      | (go_at_call_of 24 (Value.string ⟨#[100, 97, 121]⟩); refine (cD.out _ _ (by first | exact rd_lit wB 3 [m.d] (by simp) | exact (rd_lit wA 3 [m.d] (by simp)).keep hB | exact (rd_lit w1 3 [m.d] (by simp)).keep (Ext.trans (Ext.trans (Ext.refl _).drew hA) hB)) (by first | exact HE1.out.trans eB | exact (HE1.out.trans eB).alloc _)).mono ?_; rintro e wC ⟨rfl, hC⟩; have eC : Ext w1 wC := (by first | exact eB.trans hC | exact Ext.trans (eB.alloc _) hC); obtain ⟨-, -, -, t3, t4, t5, -⟩ := (HB.out.keep (HE1.out.trans eC)).cell; simp only at t3 t4 t5))
    all_goals go_wp2_with fail
    all_goals go_meet
    all_goals exact ⟨Lib.hid (by rw [H3.out]; exact own_of_blk (by (have := (HE1.out.trans eC).size); omega) (Blk.new _ _ _) (by simp) (by unfold maxLen; omega) rfl), Lib.hid ((HE1.out.trans eC).alloc _)⟩
  case rest =>
  obtain ⟨HO3, HE3⟩ := hcut
  obtain ⟨w3, rfl⟩ : ∃ x, x = wc := ⟨_, rfl⟩
  clear b0 b1 b2 b3 b4 b5 b6
  obtain ⟨b0, b1, b2, b3, b4, b5, b6⟩ := (HB.out.keep HE3.out).cell
  simp only at b0 b1 b2 b3 b4 b5 b6
  have hL3 : (head3 m).length = 3 := rfl
  go_wp2_with fail
  go_loopw [3, 23] (fun o i wr => ∃ k : Nat, k ≤ n4 ∧ i = .int .i64 k ∧ Hid (wr.ownsRow wb.heap.size 9 1 o (3 + k) (sv (head3 m ++ (m.rs.take k).map entT))) ∧ Hid (Ext wb wr)) (fun _ i _ => n4 - (intOf i).toNat)
  case atStart => exact ⟨0, Nat.zero_le _, rfl, by unfold Hid; simpa using HO3.out, HE3⟩
  case round =>
    obtain ⟨k, hk, rfl, hown, hb⟩ := hrel
    clear b0 b1 b2 b3 b4 b5 b6
    by_cases hlt : k < n4
    · obtain ⟨b, off, x, rfl, hbs, hxk, p0, p1, p2⟩ := GEntry.at_ (hxr.out.keep hb.out) hlt
      obtain ⟨⟨hm0, hm1⟩, ⟨hs0, hs1⟩, hxs⟩ := hEnt.out x (List.mem_of_getElem? hxk)
      have HN : Hid (sv (head3 m ++ (m.rs.take (k + 1)).map entT) = sv (head3 m ++ (m.rs.take k).map entT) ++ [.string (entT x)]) := Lib.hid (by
        rw [take_snoc hxk, List.map_append, ← List.append_assoc]; exact sv_snoc _ _)
      obtain ⟨we, hwe⟩ : ∃ we, we = wr.alloc (.cells #[.int .i64 x.m, .string x.x, .int .i64 x.s] 58) := ⟨_, rfl⟩
      have hBe : Blk we wr.heap.size 58 #[.int .i64 x.m, .string x.x, .int .i64 x.s] := by rw [hwe]; exact Blk.new _ _ _
      have hee : Ext wr we := by rw [hwe]; exact (Ext.refl _).alloc _
      have hsz1 := itext_size x.m (by omega) (by omega)
      have hsz2 := itext_size x.s (by omega) (by omega)
      have cF1 : Hid (∀ W, Ext we W → Calls Tryd.prog 19 #[.int .i64 x.m] W fun e w' => e = .returned (.string (itext x.m)) ∧ Ext W w') := Lib.hid (fun W he => impl_FormatInt x.m (by omega) (by omega) W (Lib.hid (tab_ext HTB.out (hb.out.trans (hee.trans he)))))
      have cF2 : Hid (∀ W, Ext we W → Calls Tryd.prog 19 #[.int .i64 x.s] W fun e w' => e = .returned (.string (itext x.s)) ∧ Ext W w') := Lib.hid (fun W he => impl_FormatInt x.s (by omega) (by omega) W (Lib.hid (tab_ext HTB.out (hb.out.trans (hee.trans he)))))
      obtain ⟨T1, hT1⟩ : ∃ T, T = itext x.m := ⟨_, rfl⟩
      obtain ⟨T2, hT2⟩ : ∃ T, T = itext x.s := ⟨_, rfl⟩
      rw [← hT1] at cF1 hsz1
      rw [← hT2] at cF2 hsz2
      have HLn : Hid (entT x = T1 ++ sp1 ++ x.x ++ sp1 ++ T2) := Lib.hid (by rw [hT1, hT2]; rfl)
      have s1 : (⟨#[32]⟩ : ByteArray).size = 1 := rfl
      have g1 : ∀ W, (Op.stringOp .add T1 ⟨#[32]⟩).run Tryd.prog W = .ok (.string (T1 ++ ⟨#[32]⟩)) W := fun W => run_string_add_sum W _ _ (by omega)
      have g2 : ∀ W, (Op.stringOp .add (T1 ++ ⟨#[32]⟩) x.x).run Tryd.prog W = .ok (.string (T1 ++ ⟨#[32]⟩ ++ x.x)) W := fun W => run_string_add_sum W _ _ (by rw [ByteArray.size_append]; omega)
      have g3 : ∀ W, (Op.stringOp .add (T1 ++ ⟨#[32]⟩ ++ x.x) ⟨#[32]⟩).run Tryd.prog W = .ok (.string (T1 ++ ⟨#[32]⟩ ++ x.x ++ ⟨#[32]⟩)) W := fun W => run_string_add_sum W _ _ (by rw [ByteArray.size_append, ByteArray.size_append]; omega)
      have g4 : ∀ W, (Op.stringOp .add (T1 ++ ⟨#[32]⟩ ++ x.x ++ ⟨#[32]⟩) T2).run Tryd.prog W = .ok (.string (T1 ++ ⟨#[32]⟩ ++ x.x ++ ⟨#[32]⟩ ++ T2)) W := fun W => run_string_add_sum W _ _ (by rw [ByteArray.size_append, ByteArray.size_append, ByteArray.size_append]; omega)
      have i1 : ¬ 9223372036854775807 < T1.size + 1 := by omega
      have i2 : ¬ 9223372036854775807 < T1.size + 1 + x.x.size := by omega
      have i3 : ¬ 9223372036854775807 < T1.size + 1 + x.x.size + 1 := by omega
      have i4 : ¬ 9223372036854775807 < T1.size + 1 + x.x.size + 1 + T2.size := by omega
      have z0 := hBe.cellAt (i := 0) (by simp)
      have z1 := hBe.cellAt (i := 1) (by simp)
      have z2 := hBe.cellAt (i := 2) (by simp)
      simp at z0 z1 z2
      have HBe := Lib.hid hBe
      have Hee := Lib.hid hee
      have Hwe := Lib.hid hwe
      have hwbr : wb.heap.size ≤ wr.heap.size := hb.out.size
      clear hBe hee hxk hwe hT1 hT2
      go_upto_region 7 with fail
      rw [← Hwe.out]
      have HOe := Lib.hid (own_keep hown.out Hee.out)
      go_region_held3 (fun w' => w'.cell? ⟨wr.heap.size, 0, none⟩ = some (.int .i64 x.m) ∧ w'.cell? ⟨wr.heap.size, 1, none⟩ = some (.string x.x) ∧ w'.cell? ⟨wr.heap.size, 2, none⟩ = some (.int .i64 x.s)) (go_keep) (first
        | (go_at_call_of 19 (Value.int .i64 x.m); refine (cF1.out _ (Ext.refl _).drew).mono ?_; rintro e wA ⟨rfl, hA⟩; have eA : Ext we wA := (Ext.trans (Ext.refl _).drew hA); have kA := HBe.out.keep eA; have y0 := kA.cellAt (i := 0) (by simp); have y1 := kA.cellAt (i := 1) (by simp); have y2 := kA.cellAt (i := 2) (by simp); simp at y0 y1 y2)
        | (go_at_call_of 19 (Value.int .i64 x.s); refine (cF2.out _ eA).mono ?_; rintro e wB ⟨rfl, hB⟩; have eB : Ext we wB := (eA.trans hB); have kB := HBe.out.keep eB; have x0 := kB.cellAt (i := 0) (by simp); have x1 := kB.cellAt (i := 1) (by simp); have x2 := kB.cellAt (i := 2) (by simp); simp at x0 x1 x2; have zB := (Hee.out.trans eB).size)
        | (refine step_appW ei_SF (by rfl) _ _ (by rfl) wb.heap.size wB _ _ [.string (T1 ++ ⟨#[32]⟩ ++ x.x ++ ⟨#[32]⟩ ++ T2)] (by rfl) _ (3 + k) _ (by rfl) (own_keep HOe.out eB) (by rfl) rfl (one_strF _) (by omega) (by omega) ?_; intro g5 c5 w5 ho5 hg5 hv5; have e5 := ext_apartW (hb.out.trans (Hee.out.trans eB)) (own_keep HOe.out eB) (Nat.le_refl _) hg5; have B5 : Blk w5 wr.heap.size 58 #[.int .i64 x.m, .string x.x, .int .i64 x.s] := (hg5.block wr.heap.size kB.lt (fun e => by have := (hown.out.lt _ e.symm).2; omega)).trans kB; have v0 := B5.cellAt (i := 0) (by simp); have v1 := B5.cellAt (i := 1) (by simp); have v2 := B5.cellAt (i := 2) (by simp); simp at v0 v1 v2))
      have HO5 := Lib.hid ho5
      have HE5 := Lib.hid e5
      clear ho5 e5 hg5 hv5
      go_wp2_with fail
      go_roundw
      case rel => exact ⟨k + 1, by omega, by go_num, by unfold Hid; rw [HN.out, HLn.out]; exact HO5.out, HE5⟩
      case measure => simp [intOf]; omega
    · obtain rfl : n4 = k := by omega
      rw [List.take_of_length_le (by rw [hl4.out]; omega), ← HF.out] at hown
      have hfl : (fmtL m).length = 3 + n4 := by rw [HF.out, List.length_append, List.length_map, hl4.out]; rfl
      have HFL := Lib.hid hfl
      clear hfl
      go_wp2_with fail
      go_ret
      exact ⟨_, rfl, HE.out.trans hb.out, by rw [HFL.out]; exact own_weak hown.out (by omega)⟩
end Go.Proofs.YtfhibjehnoibeaaDoor
/- The laws' helpers on rows of strings: comparison, marks; no condition but what stands at each theorem. -/
namespace Go.Proofs.YtfhibjehnoibeaaDoor
set_option linter.unusedSimpArgs false
set_option linter.unusedVariables false
open Go.RowKit Go.Sort
def senc (s : ByteArray) : List Value := [.string s]
theorem senc_len (x : ByteArray) : (senc x).length = 1 := rfl
theorem senc_at {w : World} {A : Option Addr} {n k : Nat} {xs : List ByteArray} (h : Rd w 1 A n (xs.flatMap senc)) (hk : k < n) :
    ∃ (b off : Nat) (x : ByteArray), A = some ⟨b, off, none⟩ ∧ b < w.heap.size ∧ xs[k]? = some x ∧ w.cell? ⟨b, off + k, none⟩ = some (.string x) := Rd.at1 (p := fun (s : ByteArray) => .string s) (fun _ => rfl) h hk
def markStrL (k : Int) (n : Nat) : List ByteArray := (List.range n).map fun (i : Nat) => mtxt (k + ↑i).toNat
theorem markStrL_len (k : Int) (n : Nat) : (markStrL k n).length = n := by simp [markStrL]
theorem markStrL_snoc (k : Int) (i : Nat) : markStrL k (i + 1) = markStrL k i ++ [mtxt (k + ↑i).toNat] := by simp [markStrL, List.range_succ]
theorem markStrL_at (k : Int) (n : Nat) {i : Nat} (h : i < n) : (markStrL k n)[i]? = some (mtxt (k + ↑i).toNat) := by simp [markStrL, h]
end Go.Proofs.YtfhibjehnoibeaaDoor
