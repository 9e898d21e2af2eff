/- Texts of one proof, laid one behind the other (SHo, STe, STf, QN, TW, TS); no condition but what stands at each theorem. -/
import Derived.Test.YtfhibjehnoibeaaDoorRows
import Derived.ProofKit
import Derived.LaidMore
import Derived.LaidOnce
import Derived.Shelf.Vars
import Derived.OpenShut
import Derived.Handed
import Derived.Test.YtfhibjehnoibeaaDoorZF
import Derived.Test.YtfhibjehnoibeaaDoorZG
import Derived.Test.YtfhibjehnoibeaaDoorZH
import Derived.Test.YtfhibjehnoibeaaDoorZI
import Derived.Test.YtfhibjehnoibeaaDoorZL
/- Contract of the program's ReplayMoves; no condition but what stands at each theorem. -/
namespace Go.Proofs.YtfhibjehnoibeaaDoor
set_option linter.unusedSimpArgs false
set_option linter.unusedVariables false
open Go.RowKit Go.Sort
set_option maxRecDepth 100000 in
set_option maxHeartbeats 4000000 in
theorem impl_ReplayMoves (H : Int) (A : Option Addr) (n c : Nat) (ds : List GDoor) (A1 : Option Addr) (n1 c1 : Nat) (ps : List Int) (A2 : Option Addr) (n2 c2 : Nat) (ms : List GMove) (w : World) (hx : Rd w 2 A n (ds.flatMap GDoor.enc)) (hx1 : Rd w 1 A1 n1 (ps.flatMap ienc)) (hx2 : Rd w 4 A2 n2 (ms.flatMap GMove.enc)) (hnc : Hid (A1 = none → c1 = 0)) (hn1 : n1 ≤ 1048576) :
    Calls Tryd.prog 16 #[.agg #[.int .i64 H, .slice A n c], .slice A1 n1 c1, .slice A2 n2 c2] w (ListBool (replayL H ds ps ms).1 (replayL H ds ps ms).2 w) := by
  have hn2 := hx2.2.1
  have hl1 := Lib.hid (hx1.len ienc_len (by omega))
  have hl2 := Lib.hid (hx2.len GMove.len (by omega))
  obtain ⟨wb, hwb⟩ : ∃ wb, wb = w.alloc (.cells #[.int .i64 H, .slice A n c] 26) := ⟨_, rfl⟩
  obtain ⟨hE, hsb, a0, a1⟩ := box2 w _ _ _ wb hwb
  have HE := Lib.hid hE
  have Hwb := Lib.hid hwb
  have Ha0 := Lib.hid a0
  have Ha1 := Lib.hid a1
  have hxb := Lib.hid (hx.keep hE)
  have hxb1 := Lib.hid (hx1.keep hE)
  have hxb2 := Lib.hid (hx2.keep hE)
  have hbl : w.heap.size < wb.heap.size := by omega
  clear hE hwb a0 a1 hx hx1 hx2
  go_enter Tryd.func16, Tryd.ntmps16
  go_wp2_with (at_builtin; refine (fun h : Hid _ => h.out) ?_)
  unfold Hid
  rw [← Hwb.out]
  refine appendRdN ei_I rfl _ _ rfl wb.heap.size _ _ 0 [] (by rw [hsb]; rfl) (own_empty wb wb.heap.size 3 1 (Nat.le_refl _)) A1 n1 c1 (ps.flatMap ienc) (by rfl) (hxb1.out.alloc _) hnc.out (one_ienc _) (by omega) (by simp) (by intro h; cases h) ?_
  intro g c' w1
  rw [Nat.zero_add, List.nil_append]
  intro ho he
  have HO1 := Lib.hid ho
  have HE1 := Lib.hid (he wb ((Ext.refl wb).alloc _) (Nat.le_refl _))
  clear ho he
  have cP := Lib.hid (impl_PlacesOk H A n c ds A1 n1 c1 ps w1 (hxb.out.keep HE1.out) (hxb1.out.keep HE1.out))
  have a0 := (HE1.out.cellAt w.heap.size hbl 0).trans Ha0.out
  have a1 := (HE1.out.cellAt w.heap.size hbl 1).trans Ha1.out
  cases hok : (placesB H ds ps && decide (n2 ≤ 30))
  case false =>
    have HL : Hid (replayL H ds ps ms = (ps, false)) := by unfold Hid replayL; rw [hl2.out, hok]; rfl
    cases hP : placesB H ds ps
    case false =>
      rw [hP] at cP
      clear hok hP
      go_wp2_with fail
      refine cP.out.mono ?_
      rintro e w2 ⟨rfl, he2⟩
      have HE2 := Lib.hid (Ext.trans HE1.out he2)
      have HO2 := Lib.hid (own_keep HO1.out he2)
      clear he2 a0 a1
      go_wp2_with fail
      go_ret2
      exact ⟨.slice (some ⟨g, 0, none⟩) n1 c', (by rw [HL.out]; rfl), HE.out.trans HE2.out, by rw [HL.out, hl1.out]; exact own_weak HO2.out (by omega)⟩
    case true =>
      have h30 : ¬ n2 ≤ 30 := by rw [hP] at hok; simpa using hok
      rw [hP] at cP
      clear hok hP
      go_wp2_with fail
      refine cP.out.mono ?_
      rintro e w2 ⟨rfl, he2⟩
      have HE2 := Lib.hid (Ext.trans HE1.out he2)
      have HO2 := Lib.hid (own_keep HO1.out he2)
      clear he2 a0 a1
      go_wp2_with fail
      go_ret2
      exact ⟨.slice (some ⟨g, 0, none⟩) n1 c', (by rw [HL.out]; rfl), HE.out.trans HE2.out, by rw [HL.out, hl1.out]; exact own_weak HO2.out (by omega)⟩
  case true =>
    obtain ⟨hP, h30⟩ : placesB H ds ps = true ∧ n2 ≤ 30 := by simpa using hok
    have HL : Hid (replayL H ds ps ms = replayF H ds ps ps ms) := by unfold Hid replayL; rw [hl2.out, hok]; rfl
    rw [hP] at cP
    clear hok hP
    go_wp2_with fail
    refine cP.out.mono ?_
    rintro e w2 ⟨rfl, he2⟩
    have HE2 := Lib.hid (Ext.trans HE1.out he2)
    have HO2 := Lib.hid (own_keep HO1.out he2)
    clear he2 a0 a1
    go_wp2_with fail
    go_loopw [26] (fun i wr => ∃ (k : Nat) (u : List Int), k ≤ n2 ∧ i = .int .i64 k ∧ wr.ownsRow wb.heap.size 3 1 (.slice (some ⟨g, 0, none⟩) n1 c') n1 (u.flatMap ienc) ∧ Hid (u.length = n1) ∧ Hid (replayF H ds ps ps ms = replayF H ds ps u (ms.drop k)) ∧ Ext wb wr) (fun i _ => n2 - (intOf i).toNat)
    case atStart => exact ⟨0, ps, Nat.zero_le _, rfl, HO2.out, hl1, rfl, HE2.out⟩
    case round =>
      obtain ⟨k, u, hk, rfl, hown, hul, hz, hb⟩ := hrel
      have HO := Lib.hid hown
      have HB := Lib.hid hb
      have a0 := (hb.cellAt w.heap.size hbl 0).trans Ha0.out
      have a1 := (hb.cellAt w.heap.size hbl 1).trans Ha1.out
      have hbr := hb.size
      have m0 : wr.heap.size ≠ w.heap.size := by omega
      have l0 : w.heap.size < wr.heap.size := by omega
      by_cases hlt : k < n2
      · obtain ⟨b, off, m, rfl, hbs, hmk, p0, p1, p2, p3⟩ := GMove.at_ (hxb2.out.keep hb) hlt
        have HD := Lib.hid (drop_cons hmk)
        clear hmk hb hown
        go_wp2_with fail
        obtain ⟨wd, hwd⟩ : ∃ wd, wd = wr.alloc (.cells #[.int .i64 m.o, .int .i64 m.t, .int .i64 m.f, .int .i64 m.s] 41) := ⟨_, rfl⟩
        rw [← hwd]
        obtain ⟨hEd, hsd, b0, b1, b2, b3⟩ := box4 wr _ _ _ _ _ wd hwd
        have HBd := Lib.hid (HB.out.trans hEd)
        have HOd := Lib.hid (own_keep HO.out hEd)
        have cG := Lib.hid (impl_canGo H A n c ds (some ⟨g, 0, none⟩) n1 c' u m wd (hxb.out.keep HBd.out) (Rd.of_own HOd.out))
        clear hwd a0 a1
        have hsw : w.heap.size + 1 ≤ wb.heap.size := by omega
        cases hG : goB H ds u m
        case false =>
          rw [hG] at cG
          have HF : Hid (replayF H ds ps ps ms = (ps, false)) := by unfold Hid; rw [hz.out, HD.out, replayF, hG]; rfl
          clear hG
          refine cG.out.mono ?_
          rintro e w3 ⟨rfl, he3⟩
          have HE3 := Lib.hid (HBd.out.trans he3)
          clear he3 hEd b0 b1 b2 b3
          go_wp2_with (at_builtin; refine (fun h : Hid _ => h.out) ?_)
          unfold Hid
          refine appendRdN ei_I rfl _ _ rfl w3.heap.size _ _ 0 [] (by rfl) (own_empty w3 w3.heap.size 3 1 (Nat.le_refl _)) A1 n1 c1 (ps.flatMap ienc) (by rfl) ((hxb1.out.keep HE3.out).alloc _) hnc.out (one_ienc _) (by omega) (by simp) (by intro h; cases h) ?_
          intro g2 c2' w4
          rw [Nat.zero_add, List.nil_append]
          intro ho4 he4
          have HO4 := Lib.hid ho4
          have HE4 := Lib.hid (he4 w3 ((Ext.refl w3).alloc _) (Nat.le_refl _))
          have hs3 := HE3.out.size
          clear ho4 he4
          go_wp2_with fail
          go_ret2
          exact ⟨.slice (some ⟨g2, 0, none⟩) n1 c2', (by rw [HL.out, HF.out]; rfl), HE.out.trans (HE3.out.trans HE4.out), by rw [HL.out, HF.out, hl1.out]; exact own_weak HO4.out (by omega)⟩
        case true =>
          rw [hG] at cG
          obtain ⟨ho0, ho1⟩ := goB_obj hG
          obtain ⟨j, hj⟩ := Int.eq_ofNat_of_zero_le ho0
          have hjn : j < n1 := by (have := hul.out; omega)
          have HF : Hid (replayF H ds ps ps ms = replayF H ds ps (u.set j m.t) (ms.drop (k + 1))) := by unfold Hid; rw [hz.out, HD.out, replayF, hG, hj]; rfl
          have Hb0 : Hid (wd.cell? ⟨wr.heap.size, 0, none⟩ = some (.int .i64 (j : Int))) := by unfold Hid; rw [b0, hj]
          have Hb1 := Lib.hid b1
          clear hG ho0 ho1 hj b0 b1 b2 b3
          refine cG.out.mono ?_
          rintro e w3 ⟨rfl, he3⟩
          have HE3 := Lib.hid (HBd.out.trans he3)
          have ho3 := own_keep HOd.out he3
          obtain ⟨g', hg', hbg, hblk⟩ := PBlk.of_own ho3 (by omega)
          injection hg' with hg'
          injection hg' with hg'
          subst hg'
          have HO3 := Lib.hid ho3
          have q0 := hblk.cell (i := j) (by rw [hul.out]; exact hjn)
          have q1 := hblk.free j
          have q2 := hblk.lt
          have b0 := (he3.cellAt wr.heap.size (by omega) 0).trans Hb0.out
          have b1 := (he3.cellAt wr.heap.size (by omega) 1).trans Hb1.out
          clear he3 hblk ho3 hEd
          go_wp2_with fail
          go_roundw
          case rel => exact ⟨k + 1, u.set j m.t, by omega, by go_num, own_set HO3.out j m.t, by unfold Hid; rw [List.length_set]; exact hul.out, HF, HE3.out.setCell hbg _⟩
          case measure => simp [intOf]; omega
      · obtain rfl : k = n2 := by omega
        clear a0 a1
        go_wp2_with fail
        go_ret2
        have hF : replayF H ds ps ps ms = (u, true) := by rw [hz.out, drop_nil (by rw [hl2.out]; omega)]; rfl
        exact ⟨.slice (some ⟨g, 0, none⟩) n1 c', (by rw [HL.out, hF]; rfl), HE.out.trans HB.out, by rw [HL.out, hF]; simp only; rw [hul.out]; exact own_weak HO.out (by omega)⟩
end Go.Proofs.YtfhibjehnoibeaaDoor
/- ParseMove of both sides; no condition but what stands at each theorem. -/
namespace Go.Proofs.YtfhibjehnoibeaaDoor
set_option linter.unusedSimpArgs false
set_option linter.unusedVariables false
open Go.RowKit Go.Sort
def PMPost (x : ByteArray) (w : World) (e : Ending) (w' : World) : Prop :=
  ∃ (m : GMove) (b : Bool), e = .returned (.tuple #[.agg #[.int .i64 m.o, .int .i64 m.t, .int .i64 m.f, .int .i64 m.s], .bool b]) ∧ Ext w w' ∧ PM x m b
theorem pm_none {x : ByteArray} {w w' : World} (h : ∀ m', mvB m' = true → x ≠ moveT m') (e : Ext w w') :
    PMPost x w (.returned (.tuple #[.agg #[.int .i64 0, .int .i64 0, .int .i64 0, .int .i64 0], .bool false])) w' :=
  ⟨⟨0, 0, 0, 0⟩, false, rfl, e, .inr ⟨rfl, rfl, h⟩⟩
theorem pm_some {x : ByteArray} {w w' : World} (m : GMove) (hm : mvB m = true) (hx : x = moveT m) (e : Ext w w') :
    PMPost x w (.returned (.tuple #[.agg #[.int .i64 m.o, .int .i64 m.t, .int .i64 m.f, .int .i64 m.s], .bool true])) w' :=
  ⟨m, true, rfl, e, .inl ⟨rfl, hm, hx⟩⟩
def set4 (W : World) (g : Nat) (u0 u1 u2 u3 : Value) : World := (((W.setCell ⟨g, 0, none⟩ u0).setCell ⟨g, 1, none⟩ u1).setCell ⟨g, 2, none⟩ u2).setCell ⟨g, 3, none⟩ u3
theorem set4_blk {W : World} {g : Nat} {t : TypeId} {v0 v1 v2 v3 : Value} (hB : Blk W g t #[v0, v1, v2, v3]) (u0 u1 u2 u3 : Value) : Blk (set4 W g u0 u1 u2 u3) g t #[u0, u1, u2, u3] :=
  (((hB.set 0 u0).set 1 u1).set 2 u2).set 3 u3
theorem set4_ext {w W : World} {g : Nat} (h : Ext w W) (hg : w.heap.size ≤ g) (u0 u1 u2 u3 : Value) : Ext w (set4 W g u0 u1 u2 u3) :=
  (((h.setCell (p := ⟨g, 0, none⟩) hg u0).setCell (p := ⟨g, 1, none⟩) hg u1).setCell (p := ⟨g, 2, none⟩) hg u2).setCell (p := ⟨g, 3, none⟩) hg u3
theorem nums_get {fs : List (List UInt8)} {zs : List Int} (h : NumsOf fs zs) {j : Nat} (hj : j < zs.length) : ∀ f, fs[j + 1]? = some f → NumOf f (zs.getD j 0) := fun f hf =>
  h j f _ (by rw [List.getD_eq_getElem?_getD, List.getElem?_eq_getElem hj]; rfl) hf
theorem mv_len {x : ByteArray} (h : (fieldsOf x).length ≠ 5) : ∀ m', mvB m' = true → x ≠ moveT m' := by
  rintro m' hm rfl
  rw [mv_fields hm] at h
  exact h rfl
/-- The end of ParseMove: the numbers of the words, the text compared. -/
theorem mv_end {x : ByteArray} {fs : List (List UInt8)} {n0 n1 n2 n3 : Int} (hx : x ≠ ByteArray.empty) (hw : ∀ m', mvB m' = true → x = moveT m' → fs = mvW m') (h0 : ∀ f, fs[1]? = some f → NumOf f n0) (h1 : ∀ f, fs[2]? = some f → NumOf f n1) (h2 : ∀ f, fs[3]? = some f → NumOf f n2) (h3 : ∀ f, fs[4]? = some f → NumOf f n3) :
    (((moveT ⟨n0, n1, n2, n3⟩).toList == x.toList) = true → mvB ⟨n0, n1, n2, n3⟩ = true ∧ x = moveT ⟨n0, n1, n2, n3⟩) ∧ (((moveT ⟨n0, n1, n2, n3⟩).toList == x.toList) = false → ∀ m', mvB m' = true → x ≠ moveT m') := by
  refine ⟨fun h => ?_, fun h m' hm e => ?_⟩
  · have e := bytes_eq h
    refine ⟨?_, e.symm⟩
    cases hb : mvB ⟨n0, n1, n2, n3⟩
    · rw [moveT_bad hb] at e
      exact absurd e.symm hx
    · rfl
  · have := mv_nums hm (hw m' hm e) h0 h1 h2 h3
    subst this
    exact bytes_ne h e.symm
theorem fields_nil : fieldsOf ByteArray.empty = [] := rfl
end Go.Proofs.YtfhibjehnoibeaaDoor
/- The program's ParseMove; no condition but what stands at each theorem. -/
namespace Go.Proofs.YtfhibjehnoibeaaDoor
set_option linter.unusedSimpArgs false
set_option linter.unusedVariables false
open Go.RowKit Go.Sort
theorem bas_of {L : List ByteArray} {fs : List (List UInt8)} (h : L.map (·.data.toList) = fs) : L = bas fs := by
  subst h
  unfold bas
  rw [List.map_map]
  conv => lhs; rw [← List.map_id L]
  exact List.map_congr_left (fun l _ => by simp)
theorem bas_sval (fs : List (List UInt8)) : (bas fs).map Value.string = sval fs := by
  unfold bas sval
  rw [List.map_map]
  rfl
theorem cuts_empty : cuts 32 ByteArray.empty.data.toList = [[]] := rfl
theorem mv_lenC {x : ByteArray} (h : (cuts 32 x.data.toList).length ≠ 5) : ∀ m', mvB m' = true → x ≠ moveT m' := by
  rintro m' hm rfl
  rw [mv_cuts hm] at h
  exact h rfl
set_option maxRecDepth 100000 in
set_option maxHeartbeats 4000000 in
theorem impl_ParseMove (x : ByteArray) (w : World) (hx : x.size ≤ 1048576) (hM : Hid (∃ m, w.cell? ⟨0, 0, none⟩ = some (.int .i64 m))) : Calls Tryd.prog 13 #[.string x] w (PMPost x w) := by
  obtain ⟨wa, hwa⟩ : ∃ wa, wa = w.alloc (.cells #[.int .i64 0, .int .i64 0, .int .i64 0, .int .i64 0] 41) := ⟨_, rfl⟩
  have hEa : Ext w wa := by rw [hwa]; exact (Ext.refl w).alloc _
  have hsa : wa.heap.size = w.heap.size + 1 := by rw [hwa]; simp
  have hB : Blk wa w.heap.size 41 #[.int .i64 0, .int .i64 0, .int .i64 0, .int .i64 0] := by rw [hwa]; exact Blk.new _ _ _
  have Hwa := Lib.hid hwa
  have HEa := Lib.hid hEa
  obtain ⟨mm, hm0⟩ := hM
  have hm1 : wa.cell? ⟨0, 0, none⟩ = some (.int .i64 mm) := (hEa.cellAt _ (World.block_lt_of_cell? w _ hm0) 0).trans hm0
  have cS := Lib.hid (Tryd.strings_Split x ⟨#[32]⟩ mm wa (by omega) hm1 (by decide))
  clear hwa hEa hm0 hm1
  go_enter Tryd.func13, Tryd.ntmps13
  go_wp2_with fail
  rw [← Hwa.out]
  refine cS.out.mono ?_
  rintro e w1 ⟨rfl, hw1⟩
  obtain ⟨fs, hfs⟩ : ∃ fs, fs = cuts 32 x.data.toList := ⟨_, rfl⟩
  have hbs := bas_of (splitB_cuts 32 x)
  have hfn : Lib.countB x ⟨#[32]⟩ + 1 = fs.length := by rw [← Lib.splitB_all ⟨#[32]⟩ (by decide) 0 _ x rfl, hbs, bas_len, hfs]
  rw [hfn]
  rw [hbs, ← hfs] at hw1
  have hb1 : Ext wa w1 := by rw [hw1]; exact (Ext.refl _).alloc _
  have hcell : ∀ j u, (sval fs)[j]? = some u → w1.cell? ⟨wa.heap.size, 0 + j, none⟩ = some u := fun j u hu => by
    rw [hw1, World.cell?_alloc_new, Nat.zero_add]
    rw [← bas_sval] at hu
    simpa using hu
  have hg : wa.heap.size < w1.heap.size := by rw [hw1]; simp
  obtain ⟨g, hgg⟩ : ∃ g, g = wa.heap.size := ⟨_, rfl⟩
  rw [← hgg] at hcell hg ⊢
  have Hcell := Lib.hid hcell
  have hB1 := hB.keep hb1
  have hs1 := hb1.size
  have HE1 := Lib.hid (HEa.out.trans hb1)
  have l0 : w.heap.size < w1.heap.size := by omega
  have m0 : w1.heap.size ≠ w.heap.size := by omega
  have hgw : w1.heap.size ≠ g := by omega
  have c0 : w1.cell? ⟨w.heap.size, 0, none⟩ = some (.int .i64 0) := hB1.cell 0
  have c1 : w1.cell? ⟨w.heap.size, 1, none⟩ = some (.int .i64 0) := hB1.cell 1
  have c2 : w1.cell? ⟨w.heap.size, 2, none⟩ = some (.int .i64 0) := hB1.cell 2
  have c3 : w1.cell? ⟨w.heap.size, 3, none⟩ = some (.int .i64 0) := hB1.cell 3
  have fz : ∀ o, w1.frozen? ⟨w.heap.size, o, none⟩ = false := fun o => hB1.free o
  have hfl : ∀ l ∈ fs, l.length ≤ x.size := fun l hl => by
    have := cuts_len 32 x.data.toList l (by rw [← hfs]; exact hl)
    rwa [toList_size] at this
  have hfp : 1 ≤ fs.length := by omega
  have Hfl := Lib.hid hfl
  have Hfs := Lib.hid hfs
  clear hb1 hB hw1 hbs hfn hcell hfl hfs
  obtain rfl : g = w.heap.size + 1 := by omega
  clear hgg
  by_cases hm : fs.length = 5
  case neg =>
    have HN : Hid (∀ m', mvB m' = true → x ≠ moveT m') := mv_lenC (by rw [← Hfs.out]; exact hm)
    have hne : ((fs.length : Int) == 5) = false := beq_false_of_ne (by omega)
    clear hm
    go_wp2_with fail
    obtain ⟨WF, hWF⟩ : ∃ WF, WF = set4 w1 w.heap.size (.int .i64 0) (.int .i64 0) (.int .i64 0) (.int .i64 0) := ⟨_, rfl⟩
    have FB := set4_blk hB1 (.int .i64 0) (.int .i64 0) (.int .i64 0) (.int .i64 0)
    have FE := set4_ext HE1.out (Nat.le_refl _) (.int .i64 0) (.int .i64 0) (.int .i64 0) (.int .i64 0)
    rw [← hWF] at FB FE
    unfold set4 at hWF
    rw [← hWF]
    clear hWF
    have y0 := FB.cell 0
    have y1 := FB.cell 1
    have y2 := FB.cell 2
    have y3 := FB.cell 3
    refine bodyPost_ret (v := .tuple #[.agg #[.int .i64 0, .int .i64 0, .int .i64 0, .int .i64 0], .bool false]) (by simp [results, Tryd.results13, go_sem, y0, y1, y2, y3]) rfl (pm_none HN.out FE)
  case pos =>
    have Hm := Lib.hid hm
    rw [hm]
    clear hm
    obtain ⟨A28, c28, h28, hsl⟩ := tail_of (w.heap.size + 1) 0 4 5 (by omega)
    obtain rfl := h28 (by omega)
    clear h28
    go_wp2_with fail
    clear hsl
    obtain ⟨wo, hwo⟩ : ∃ wo, wo = w1.alloc (.cells #[] 3) := ⟨_, rfl⟩
    rw [← hwo]
    have hEo : Ext w1 wo := by rw [hwo]; exact (Ext.refl w1).alloc _
    have Ho0 : Hid (wo.ownsRow w1.heap.size 3 1 (.slice (some ⟨w1.heap.size, 0, none⟩) 0 0) 0 []) := by rw [hwo]; exact own_empty w1 w1.heap.size 3 1 (Nat.le_refl _)
    have HEo := Lib.hid hEo
    have hso := hEo.size
    clear hwo hEo
    go_loopw [5, 21] (fun v i wr => ∃ (k : Nat) (zs : List Int), k ≤ 4 ∧ i = .int .i64 k ∧ zs.length = k ∧ Hid (wr.ownsRow w1.heap.size 3 1 v zs.length (zs.flatMap ienc)) ∧ Hid (NumsOf fs zs) ∧ Ext w1 wr) (fun _ i _ => 4 - (intOf i).toNat)
    case atStart => exact ⟨0, [], by omega, rfl, rfl, Ho0, Lib.hid (fun j f z hz => by simp at hz), HEo.out⟩
    case round =>
      obtain ⟨k, zs, hkm, rfl, hzl, hown, hN, hb⟩ := hrel
      have HB1 := Lib.hid hb
      have hsw := hb.size
      clear hb
      by_cases hlt : k < 4
      · obtain ⟨f, hf⟩ : ∃ f, fs[k + 1]? = some f := ⟨fs[k + 1]'(by rw [Hm.out]; omega), List.getElem?_eq_getElem (by rw [Hm.out]; omega)⟩
        have hfl := Hfl.out f (List.mem_of_getElem? hf)
        have q1 : wr.cell? ⟨w.heap.size + 1, 1 + k, none⟩ = some (.string ⟨f.toArray⟩) := by
          rw [Nat.add_comm 1 k, ← Nat.zero_add (k + 1)]
          exact (HB1.out.cellAt (w.heap.size + 1) hg (0 + (k + 1))).trans (Hcell.out (k + 1) _ (by rw [sval, List.getElem?_map, hf]; rfl))
        have hNs := Lib.hid (fun (z : Int) (hz : NumOf f z) => nums_snoc hN.out (by rw [show zs.length = k from hzl]; exact hf) hz)
        obtain ⟨F, hF⟩ : ∃ F : ByteArray, F = ⟨f.toArray⟩ := ⟨_, rfl⟩
        have hFs : F.size ≤ 1048576 := by rw [hF, mk_size]; omega
        have HFF := Lib.hid hF
        rw [← hF] at q1
        clear hf hF
        have cN := Lib.hid (impl_ParseUint F wr (by omega))
        have hgr : wr.heap.size ≠ w.heap.size + 1 := by omega
        have hgl : w.heap.size + 1 < wr.heap.size := by omega
        have hkl : zs.length ≤ 5 := by omega
        have hki : (k : Int) < 4 := by omega
        go_wp2_with (first
          | (go_at_call 26; refine cN.out.mono ?_; rintro e w2 ⟨z, b, rfl, hz9, hb2, hz⟩; have HB2 := Lib.hid hb2; have hs2 := hb2.size; have HZ := Lib.hid hz; clear hb2 hz)
          | (at_builtin; refine append1 ei_N rfl _ _ rfl w1.heap.size w2 _ _ zs.length _ (by rfl) (own_keep hown.out HB2.out) [.int .i64 z] (by rfl) rfl (one_intN _) (by omega) (by omega) ?_; intro v' w3 ho3 he3; have HO3 := Lib.hid ho3; have HE3 := Lib.hid (he3 w1 (HB1.out.trans HB2.out) (Nat.le_refl _)); clear ho3 he3))
        go_roundw
        case rel => exact ⟨k + 1, zs ++ [(z : Int)], by omega, by go_num, by simp; omega, by (unfold Hid; rw [List.length_append, List.flatMap_append]; exact HO3.out), hNs.out (z : Int) (fun i hi he => by have h := (HZ.out i hi (by rw [HFF.out]; exact he)).1; show z = (i : Int); omega), HE3.out⟩
        case measure => simp [intOf] <;> omega
      · obtain rfl : k = 4 := by omega
        have hz4 : zs.length = 4 := hzl
        have hki : ¬ ((4 : Nat) : Int) < 4 := by omega
        obtain ⟨Av, cv, rfl, hcv⟩ := own_form hown.out
        obtain ⟨-, -, hr3⟩ := Rd.of_own hown.out
        obtain ⟨g3, o3, rfl, hg3, hc3⟩ := hr3 (by omega)
        have hc4 : ∀ j, j < 4 → wr.cell? ⟨g3, o3 + j, none⟩ = some (.int .i64 (zs.getD j 0)) := fun j hj => hc3 j _ (by
          rw [ienc_map, List.getElem?_map, List.getD_eq_getElem?_getD, List.getElem?_eq_getElem (by omega)]; rfl)
        have A0 := nums_get hN.out (j := 0) (by omega)
        have r0 := hc4 0 (by omega)
        have A1 := nums_get hN.out (j := 1) (by omega)
        have r1 := hc4 1 (by omega)
        have A2 := nums_get hN.out (j := 2) (by omega)
        have r2 := hc4 2 (by omega)
        have A3 := nums_get hN.out (j := 3) (by omega)
        have r3 := hc4 3 (by omega)
        rw [hz4] at hcv ⊢
        obtain ⟨n0, hn0⟩ : ∃ n, n = zs.getD 0 0 := ⟨_, rfl⟩
        rw [← hn0] at A0 r0
        obtain ⟨n1, hn1⟩ : ∃ n, n = zs.getD 1 0 := ⟨_, rfl⟩
        rw [← hn1] at A1 r1
        obtain ⟨n2, hn2⟩ : ∃ n, n = zs.getD 2 0 := ⟨_, rfl⟩
        rw [← hn2] at A2 r2
        obtain ⟨n3, hn3⟩ : ∃ n, n = zs.getD 3 0 := ⟨_, rfl⟩
        rw [← hn3] at A3 r3
        rw [Nat.add_zero] at r0
        have hxne : x ≠ ByteArray.empty := fun e => by
          have h5 := Hm.out
          rw [Hfs.out, e, cuts_empty] at h5
          cases h5
        have HA := Lib.hid (mv_end hxne (fun m' hm e => by rw [Hfs.out, e]; exact mv_cuts hm) A0 A1 A2 A3)
        have mg3 : wr.heap.size ≠ g3 := by omega
        have hBr := hB1.keep HB1.out
        clear hc3 hc4 hr3 A0 A1 A2 A3 hn0 hn1 hn2 hn3 hxne
        go_wp2_with fail
        go_region
        obtain ⟨W4, hW4⟩ : ∃ W4, W4 = (wr.alloc (.cells #[.int .i64 n0, .int .i64 n1, .int .i64 n2, .int .i64 n3] 41)).drew := ⟨_, rfl⟩
        have hE4 : Ext wr W4 := by rw [hW4]; exact ((Ext.refl wr).alloc _).drew
        have hB4 : Blk W4 wr.heap.size 41 #[.int .i64 n0, .int .i64 n1, .int .i64 n2, .int .i64 n3] := by rw [hW4]; exact (Blk.new _ _ _).drew
        rw [← hW4]
        clear hW4 r0 r1 r2 r3
        have b0 : W4.cell? ⟨wr.heap.size, 0, none⟩ = some (.int .i64 n0) := hB4.cell 0
        have b1 : W4.cell? ⟨wr.heap.size, 1, none⟩ = some (.int .i64 n1) := hB4.cell 1
        have b2 : W4.cell? ⟨wr.heap.size, 2, none⟩ = some (.int .i64 n2) := hB4.cell 2
        have b3 : W4.cell? ⟨wr.heap.size, 3, none⟩ = some (.int .i64 n3) := hB4.cell 3
        have cF := Lib.hid (impl_MoveText (⟨n0, n1, n2, n3⟩ : GMove) W4)
        obtain ⟨T2, hT2⟩ : ∃ T2, T2 = moveT (⟨n0, n1, n2, n3⟩ : GMove) := ⟨_, rfl⟩
        rw [← hT2] at cF HA
        have HT2 := Lib.hid hT2
        have HE4 := Lib.hid hE4
        have HB4 := Lib.hid hB4
        have HBR := Lib.hid hBr
        have l4 := HB4.out.lt
        have z4 := hE4.size
        have hwr : w.heap.size < wr.heap.size := hBr.lt
        clear hE4 hB4 hT2 hBr
        cases hq : (T2.toList == x.toList)
        case false =>
          have HN := Lib.hid (HA.out.2 hq)
          go_wp2_with (go_at_call 14; refine cF.out.mono ?_; rintro e w5 ⟨rfl, hb5⟩; have HB5 := Lib.hid hb5; have z5 := hb5.size; have x0 := (hb5.cellAt wr.heap.size HB4.out.lt 0).trans b0; have x1 := (hb5.cellAt wr.heap.size HB4.out.lt 1).trans b1; have x2 := (hb5.cellAt wr.heap.size HB4.out.lt 2).trans b2; have x3 := (hb5.cellAt wr.heap.size HB4.out.lt 3).trans b3; have D5 := Lib.hid (HBR.out.keep (HE4.out.trans hb5)); have d0 := D5.out.cell 0; have d1 := D5.out.cell 1; have d2 := D5.out.cell 2; have d3 := D5.out.cell 3; have dz : ∀ o, w5.frozen? ⟨w.heap.size, o, none⟩ = false := fun o => D5.out.free o; have m5 : w5.heap.size ≠ w.heap.size := (by omega); have l5 : w.heap.size < w5.heap.size := (by omega); clear hb5)
          obtain ⟨WF, hWF⟩ : ∃ WF, WF = set4 w5 w.heap.size (.int .i64 0) (.int .i64 0) (.int .i64 0) (.int .i64 0) := ⟨_, rfl⟩
          have FB := set4_blk D5.out (.int .i64 0) (.int .i64 0) (.int .i64 0) (.int .i64 0)
          have FE := set4_ext (HE1.out.trans (HB1.out.trans (HE4.out.trans HB5.out))) (Nat.le_refl _) (.int .i64 0) (.int .i64 0) (.int .i64 0) (.int .i64 0)
          rw [← hWF] at FB FE
          unfold set4 at hWF
          rw [← hWF]
          clear hWF
          have y0 := FB.cell 0
          have y1 := FB.cell 1
          have y2 := FB.cell 2
          have y3 := FB.cell 3
          refine bodyPost_ret (v := .tuple #[.agg #[.int .i64 0, .int .i64 0, .int .i64 0, .int .i64 0], .bool false]) (by simp [results, Tryd.results13, go_sem, y0, y1, y2, y3]) rfl (pm_none HN.out FE)
        case true =>
          have HY := Lib.hid (HA.out.1 hq)
          go_wp2_with (go_at_call 14; refine cF.out.mono ?_; rintro e w5 ⟨rfl, hb5⟩; have HB5 := Lib.hid hb5; have z5 := hb5.size; have x0 := (hb5.cellAt wr.heap.size HB4.out.lt 0).trans b0; have x1 := (hb5.cellAt wr.heap.size HB4.out.lt 1).trans b1; have x2 := (hb5.cellAt wr.heap.size HB4.out.lt 2).trans b2; have x3 := (hb5.cellAt wr.heap.size HB4.out.lt 3).trans b3; have D5 := Lib.hid (HBR.out.keep (HE4.out.trans hb5)); have d0 := D5.out.cell 0; have d1 := D5.out.cell 1; have d2 := D5.out.cell 2; have d3 := D5.out.cell 3; have dz : ∀ o, w5.frozen? ⟨w.heap.size, o, none⟩ = false := fun o => D5.out.free o; have m5 : w5.heap.size ≠ w.heap.size := (by omega); have l5 : w.heap.size < w5.heap.size := (by omega); clear hb5)
          obtain ⟨WF, hWF⟩ : ∃ WF, WF = set4 w5 w.heap.size (.int .i64 n0) (.int .i64 n1) (.int .i64 n2) (.int .i64 n3) := ⟨_, rfl⟩
          have FB := set4_blk D5.out (.int .i64 n0) (.int .i64 n1) (.int .i64 n2) (.int .i64 n3)
          have FE := set4_ext (HE1.out.trans (HB1.out.trans (HE4.out.trans HB5.out))) (Nat.le_refl _) (.int .i64 n0) (.int .i64 n1) (.int .i64 n2) (.int .i64 n3)
          rw [← hWF] at FB FE
          unfold set4 at hWF
          rw [← hWF]
          clear hWF
          have y0 := FB.cell 0
          have y1 := FB.cell 1
          have y2 := FB.cell 2
          have y3 := FB.cell 3
          refine bodyPost_ret (v := .tuple #[.agg #[.int .i64 n0, .int .i64 n1, .int .i64 n2, .int .i64 n3], .bool true]) (by simp [results, Tryd.results13, go_sem, y0, y1, y2, y3]) rfl (pm_some (⟨n0, n1, n2, n3⟩ : GMove) HY.out.1 (HY.out.2.trans HT2.out) FE)
end Go.Proofs.YtfhibjehnoibeaaDoor
/- What the law on nights asks, in plain Lean; no condition but what stands at each theorem. -/
namespace Go.Proofs.YtfhibjehnoibeaaDoor
set_option linter.unusedSimpArgs false
set_option linter.unusedVariables false
open Go.RowKit Go.Sort
theorem moveL_len (H : Int) (ds : List GDoor) (ps gs : List Int) (m : GMove) : (moveL H ds ps gs m).length = ps.length := by
  unfold moveL; split <;> simp
theorem moveL_same {H : Int} {ds : List GDoor} {ps gs : List Int} {m : GMove} (h : canMoveB H ds ps gs m = false) : moveL H ds ps gs m = ps := by
  unfold moveL; rw [h]; rfl
theorem moveL_set {H : Int} {ds : List GDoor} {ps gs : List Int} {m : GMove} (h : canMoveB H ds ps gs m = true) : moveL H ds ps gs m = ps.set m.o.toNat m.t := by
  unfold moveL; rw [h]; rfl
/-- A place that has changed is the object's, and the move could be made. -/
theorem moveL_other {H : Int} {ds : List GDoor} {ps gs : List Int} {m : GMove} {k : Nat} {x y : Int} (hx : (moveL H ds ps gs m)[k]? = some x) (hy : ps[k]? = some y) (hxy : x ≠ y) : canMoveB H ds ps gs m = true ∧ (k : Int) = m.o := by
  cases hc : canMoveB H ds ps gs m
  · rw [moveL_same hc, hy] at hx
    injection hx with hx
    exact absurd hx.symm hxy
  · refine ⟨rfl, ?_⟩
    rw [moveL_set hc] at hx
    obtain ⟨h0, -⟩ := goB_obj (canMove_go hc)
    by_cases hk : m.o.toNat = k
    · omega
    · rw [List.getElem?_set_ne hk, hy] at hx
      injection hx with hx
      exact absurd hx.symm hxy
/-- A move whose numbers lie in their ranges has a text that can be read back. -/
theorem mvIn_mv {H n1 n2 : Nat} {x : GMove} (h : MvIn H n1 n2 x) (hH : H ≤ 7) (h1 : n1 ≤ 20) (h2 : n2 ≤ 20) : mvB x = true := by
  obtain ⟨⟨a1, a2⟩, ⟨b1, b2⟩, ⟨c1, c2⟩, d1, d2⟩ := h
  unfold mvB inB
  simp only [Bool.and_eq_true, decide_eq_true_eq]
  omega
/-- A move that can be made: it is a replay of itself, both guards stand beside it. -/
theorem night_facts {H : Int} {ds : List GDoor} {ps gs : List Int} {m : GMove} (h : canMoveB H ds ps gs m = true) :
    replayL H ds ps [m] = (moveL H ds ps gs m, true) ∧ placesB H ds (moveL H ds ps gs m) = true ∧ m.f ≠ m.s ∧ (0 ≤ m.f ∧ m.f < gs.length) ∧ (0 ≤ m.s ∧ m.s < gs.length) ∧ (0 ≤ m.o ∧ m.o < ps.length) ∧
    (gs.getD m.f.toNat 0 = ps.getD m.o.toNat 0 ∨ gs.getD m.f.toNat 0 = m.t) ∧ (gs.getD m.s.toNat 0 = ps.getD m.o.toNat 0 ∨ gs.getD m.s.toNat 0 = m.t) ∧ (moveL H ds ps gs m)[m.o.toNat]? = some m.t := by
  have hgo := canMove_go h
  have ho := goB_obj hgo
  have hset := moveL_set h
  unfold canMoveB at h
  simp only [Bool.and_eq_true, decide_eq_true_eq, bne_iff_ne, ne_eq] at h
  obtain ⟨hp, hg, hh, -, hf, hs, hne, hn1, hn2⟩ := h
  have hf2 : 0 ≤ m.f ∧ m.f < gs.length := by simp [inB] at hf; omega
  have hs2 : 0 ≤ m.s ∧ m.s < gs.length := by simp [inB] at hs; omega
  have n1 : gs.getD m.f.toNat 0 = ps.getD m.o.toNat 0 ∨ gs.getD m.f.toNat 0 = m.t := by
    unfold nearB at hn1
    simpa [Bool.or_eq_true, beq_iff_eq] using hn1
  have n2 : gs.getD m.s.toNat 0 = ps.getD m.o.toNat 0 ∨ gs.getD m.s.toNat 0 = m.t := by
    unfold nearB at hn2
    simpa [Bool.or_eq_true, beq_iff_eq] using hn2
  refine ⟨?_, ?_, hne, hf2, hs2, ho, n1, n2, ?_⟩
  · unfold replayL
    rw [if_pos (by rw [hp]; rfl)]
    unfold replayF
    rw [if_pos hgo, hset]
    rfl
  · rw [hset]
    exact placesB_set hp _ (goB_to hgo)
  · rw [hset, List.getElem?_set_self (by omega)]
end Go.Proofs.YtfhibjehnoibeaaDoor
/- A world in which the listed tables stand, written out; no condition. -/
namespace Go.Proofs.YtfhibjehnoibeaaDoor
set_option linter.unusedSimpArgs false
set_option linter.unusedVariables false
open Go.ChangeShapes Go.WideShapes Go.ChangeAt Go.RowKit
/-- The cells of a table of numbers, or of rows of numbers. -/
def flatD : DataW Unit → List Value
  | .agg l => l.flatMap fun d => match d with
    | .lit (.int k n) => [.int k n]
    | .agg r => r.flatMap fun e => match e with
      | .lit (.int k n) => [.int k n]
      | _ => []
    | _ => []
  | _ => []
def putB (h : Array Obj) (g : Nat) (cs : List Value) : Array Obj :=
  match h[g]? with
  | some (.cells _ t fr) => h.setIfInBounds g (.cells cs.toArray t fr)
  | _ => h
def putAll (P : Program) (h : Array Obj) (l : List (String × DataW Unit)) : Array Obj :=
  l.foldl (fun h nd => match P.globalNamed nd.1 with
    | some g => putB h g (flatD nd.2)
    | none => h) h
noncomputable def laidW (P : Program) (os : Os) (l : List (String × DataW Unit)) : World :=
  { World.holding P os ⟨#[], #[], []⟩ with heap := putAll P (World.holding P os ⟨#[], #[], []⟩).heap l }
end Go.Proofs.YtfhibjehnoibeaaDoor
/- The library's own variable bytealg.MaxLen holds some number in every world that fits; a frame that hands this on; no condition. -/
namespace Go.Proofs.YtfhibjehnoibeaaDoor
set_option linter.unusedSimpArgs false
set_option linter.unusedVariables false
open Go.RowKit
theorem max_of {W : World} (h : W.ShapedOpen Tryd.prog) : ∃ m, W.cell? ⟨0, 0, none⟩ = some (.int .i64 m) :=
  cell_of_shapedOpen_int (t := 3) (zero := #[.int .i64 0]) h (of_decide_eq_true (by kernel_rfl)) (by kernel_rfl) (by kernel_rfl) (by kernel_rfl) (by kernel_rfl) Tryd.underlying3
theorem handed_and_shaped {H : Type} {enc : TypeId × Value → H} {a : Assume} {C : Checked} {os : Os} {f : FuncId} {fn : Func} {s : ChangeSpec} {conds : List PathCond} {apart fresh handsOn again : Bool} {X : World → Array Value → Prop}
    (hX : ∀ (w w' : World) (args : Array Value), w.heap = w'.heap → X w args → X w' args)
    (own : ownKnob C.prog.godebug = none) (started : os.Started) (noInit : C.prog.inits.idxOf? f = none) (hfn : C.prog.funcs[f]? = some fn)
    (witness : ∃ (w : World) (tape : Tape) (i : Input), w.os = os ∧ (w.forCall tape i).Shaped C.prog ∧ i.vars = [] ∧ Input.okWide C.prog (w.forCall tape i) .any w.heap.size f i ∧
      ((s.pre enc C.prog fn conds apart (w.forCall tape i).memory i.args ∧ X (w.forCall tape i).memory i.args) ∧ sizedMet enc C.prog fn (OpenSpec.ofChange s) apart (w.forCall tape i).memory i.args) ∧ a.holds C.prog (lone (Frame.enter C.prog f i.args .normal) [] (w.forCall tape i)))
    (contract : ∀ (W : World) (base : Nat) (args : Array Value) (ds gs : List (DataW H)) (before : List MemPlace),
      (∀ (j : Nat) t v, fn.params[j]? = some t → args[j]? = some v → Value.okWide C.prog W .any base t v) →
      DataW.Whole enc C.prog fn.params.toList s.vars apart W args.toList ds gs before →
      conds.all (PathCond.test C.prog ⟨fn.params.toList, ds, s.plain.varTypes C.prog, gs⟩) = true →
      (DataW.weightsEach C.prog (fn.params.toList ++ s.plain.varTypes C.prog) (ds ++ gs)).all (· ≤ reachBytes) = true → X W args →
      W.ShapedOpen C.prog →
      a.holds C.prog (lone (Frame.enter C.prog f args .normal) [] W) →
      Calls C.prog f args W fun e W' => ∃ v, e = .returned v ∧ s.post enc C.prog fn apart fresh handsOn again W args v W') :
    ReturnsInHanded a C os f .any (fun w args => (s.pre enc C.prog fn conds apart w args ∧ X w args) ∧ sizedMet enc C.prog fn (OpenSpec.ofChange s) apart w args) (s.post enc C.prog fn apart fresh handsOn again) := by
  refine returnsInHanded_of_calls own started noInit witness ?_
  intro w tape i _ hsh _ hok hpre hholds
  obtain ⟨_, _, _, fn', hfn', _, _, _, _, hval⟩ := hok
  have e : fn' = fn := Option.some.inj (hfn'.symm.trans hfn)
  subst e
  obtain ⟨⟨⟨ds, gs, before, hw, hc⟩, hx⟩, hz⟩ := hpre
  have hw' := DataW.Whole.of_heap (w' := w.forCall tape i) (by rfl) hw
  refine (contract (w.forCall tape i) w.heap.size i.args ds gs before hval hw' hc (hz.weights hw) (hX _ _ _ (by rfl) hx) hsh hholds).mono fun e W' ⟨v, he, hp⟩ => ?_
  subst he
  exact ChangeSpec.post_blind hp
end Go.Proofs.YtfhibjehnoibeaaDoor
