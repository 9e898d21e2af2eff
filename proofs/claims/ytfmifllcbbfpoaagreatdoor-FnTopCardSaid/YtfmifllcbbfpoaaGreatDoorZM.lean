/- Texts of one proof, laid one behind the other (SP4, SP1, SP2, SP3, S7, TW, TS); no condition but what stands at each theorem. -/
import Derived.Test.YtfmifllcbbfpoaaGreatDoorRows
import Derived.ProofKit
import Derived.LaidMore
import Derived.LaidOnce
import Derived.Shelf.Vars
import Derived.OpenShut
import Derived.Handed
import Derived.Test.YtfmifllcbbfpoaaGreatDoorZA
import Derived.Test.YtfmifllcbbfpoaaGreatDoorZG
import Derived.Test.YtfmifllcbbfpoaaGreatDoorZH
import Derived.Test.YtfmifllcbbfpoaaGreatDoorZI
import Derived.Test.YtfmifllcbbfpoaaGreatDoorZL
/- AuditMuseum and FirstFraud of the program; no condition but what stands at each theorem. -/
namespace Go.Proofs.YtfmifllcbbfpoaaGreatDoor
set_option linter.unusedSimpArgs false
set_option linter.unusedVariables false
open Go.RowKit Go.Sort
theorem ei_MoveA : EI Tryz.prog 80 46 4 := ei_of Tryz.underlying80 (by omega) (by kernel_rfl)
theorem one_GMoveA (x : GMove) : ∀ u ∈ x.enc, u.oneCell' = true := by
  intro u hu
  simp [GMove.enc] at hu
  rcases hu with rfl | rfl | rfl | rfl <;> rfl
theorem brok_txt : ∀ (rs : List GEntry) (s : Int) (p : Option Int) (k : Nat), brokF s p k rs = -1 → ∀ e ∈ rs, e.x.size ≤ 200
  | [], _, _, _, _, _, h => by cases h
  | e :: r, s, p, k, h, y, hy => by
    rw [brokF] at h
    split at h
    · omega
    · rename_i hc
      simp only [Bool.or_eq_true, not_or, decide_eq_true_eq] at hc
      rcases List.mem_cons.1 hy with rfl | hy
      · have h1 := hc.1
        unfold sealB at h1
        split at h1
        · rename_i h2
          simp only [Bool.and_eq_true, decide_eq_true_eq] at h2
          have h3 := h2.2.2
          unfold digest at h3
          split at h3
          · assumption
          · omega
        · omega
      · exact brok_txt r _ _ _ h y hy
theorem museum_txt {m : GMuseum} (h : museumB m = true) : ∀ e ∈ m.rs, e.x.size ≤ 200 := by
  have h7 := (museumB_parts.1 h).2.2.2.2.2.2.1
  unfold sealedB brokenI at h7
  simp only [Bool.and_eq_true, decide_eq_true_eq, beq_iff_eq] at h7
  exact brok_txt _ _ _ _ h7.2
theorem audit_no {m : GMuseum} {k : Nat} {e : GEntry} (hk : m.rs[k]? = some e) (hp : (parseM e.x).2 = false) : auditB m = false := by
  unfold auditB
  have : (m.rs.all fun e => (parseM e.x).2) = false := by
    rw [Bool.eq_false_iff, Ne, List.all_eq_true]
    intro h
    have := h e (List.mem_of_getElem? hk)
    rw [hp] at this
    cases this
  rw [this]
  simp
theorem audit_bad {m : GMuseum} (h : museumB m = false) : auditB m = false := by unfold auditB; rw [h]; rfl
theorem audit_is {m : GMuseum} (h : museumB m = true) (ha : (m.rs.all fun e => (parseM e.x).2) = true) : auditB m = ((replayL m.H m.ds m.fs (movesL m.rs)).2 && decide ((replayL m.H m.ds m.fs (movesL m.rs)).1 = m.ps)) := by
  unfold auditB; rw [h, ha]; rfl
theorem movesL_snoc {rs : List GEntry} {k : Nat} {e : GEntry} (h : rs[k]? = some e) : movesL (rs.take (k + 1)) = movesL (rs.take k) ++ [(parseM e.x).1] := by
  rw [take_snoc h]; simp [movesL]
theorem all_snocA {rs : List GEntry} {k : Nat} {e : GEntry} (h : rs[k]? = some e) (ha : ((rs.take k).all fun e => (parseM e.x).2) = true) (he : (parseM e.x).2 = true) : ((rs.take (k + 1)).all fun e => (parseM e.x).2) = true := by
  rw [take_snoc h, List.all_append, ha]; simp [he]
theorem eq_snoc {P Q : List Int} {k : Nat} {x y : Int} (hx : P[k]? = some x) (hy : Q[k]? = some y) (b : Bool) : (b && decide (P.take (k + 1) = Q.take (k + 1))) = ((b && decide (P.take k = Q.take k)) && (x == y)) := by
  rw [take_snoc hx, take_snoc hy, Bool.and_assoc]
  congr 1
  rw [Bool.eq_iff_iff]
  simp only [decide_eq_true_eq, Bool.and_eq_true, beq_iff_eq]
  constructor
  · intro h
    have := List.append_inj' h rfl
    exact ⟨this.1, by simpa using this.2⟩
  · rintro ⟨h1, h2⟩
    rw [h1, h2]
set_option maxRecDepth 100000 in
set_option maxHeartbeats 2000000 in
theorem impl_AuditMuseum (v : MV) (m : GMuseum) (w : World) (hx : MRd w v m) (hf : MFit v) (hM : Hid (∃ k, w.cell? ⟨0, 0, none⟩ = some (.int .i64 k))) :
    Calls Tryz.prog 15 #[v.val] w fun e w' => e = .returned (.bool (auditB m)) ∧ Ext w w' := by
  obtain ⟨wb, hwb⟩ : ∃ wb, wb = w.alloc (.cells v.cells 30) := ⟨_, rfl⟩
  have hbx := MBox.new hwb
  have hE : Ext w wb := by rw [hwb]; exact (Ext.refl w).alloc _
  have HX := Lib.hid (hx.keep hE)
  have HM := Lib.hid (max_ext hM.out hE)
  have cM := Lib.hid (impl_MuseumOk v m wb HX.out)
  obtain ⟨Hh, ⟨A0, n0, c0⟩, ⟨A1, n1, c1⟩, ⟨A2, n2, c2⟩, ⟨A3, n3, c3⟩, day, ⟨A4, n4, c4⟩⟩ := v
  have hxd : Hid (Rd wb 2 A0 n0 (m.ds.flatMap GDoor.enc)) := HX.out.rd
  have hxf : Hid (Rd wb 1 A1 n1 (m.fs.flatMap ienc)) := HX.out.rf
  have hxp : Hid (Rd wb 1 A2 n2 (m.ps.flatMap ienc)) := HX.out.rp
  have hxr : Hid (Rd wb 3 A4 n4 (m.rs.flatMap GEntry.enc)) := HX.out.rr
  have hzf : Hid (A1 = none → c1 = 0) := hf.zf
  have hnf : n1 ≤ 1048576 := hf.nf
  have hnr : n4 ≤ 1048576 := hf.nr
  have hnp : n2 ≤ 1048576 := hf.np
  have hl1 := Lib.hid (hxf.out.len ienc_len (by omega))
  have hl2 := Lib.hid (hxp.out.len ienc_len (by omega))
  have hl4 := Lib.hid (hxr.out.len GEntry.len (by omega))
  have hH : Hid (Hh = m.H) := hx.eH
  have HE := Lib.hid hE
  have Hwb : Hid (wb = w.alloc (.cells #[.int .i64 Hh, .slice A0 n0 c0, .slice A1 n1 c1, .slice A2 n2 c2, .slice A3 n3 c3, .int .i64 day, .slice A4 n4 c4] 30)) := hwb
  have HB := Lib.hid hbx
  have hbl := hbx.lt
  clear hE hwb hbx hx hf
  show Calls Tryz.prog 15 #[.agg #[.int .i64 Hh, .slice A0 n0 c0, .slice A1 n1 c1, .slice A2 n2 c2, .slice A3 n3 c3, .int .i64 day, .slice A4 n4 c4]] w _
  obtain ⟨b0, b1, b2, b3, b4, b5, b6⟩ := HB.out.cell
  simp only at b0 b1 b2 b3 b4 b5 b6
  cases hm : museumB m
  case false =>
    rw [hm] at cM
    have HF := Lib.hid (audit_bad hm)
    clear hm
    go_enter Tryz.func15, Tryz.ntmps15
    go_wp2_with (go_at_call 13; refine (fun h : Hid _ => h.out) ?_)
    unfold Hid
    rw [← Hwb.out]
    refine cM.out.mono ?_
    rintro e w1 ⟨rfl, h1⟩
    have HE1 := Lib.hid (HE.out.trans h1)
    clear h1 b0 b1 b2 b3 b4 b5 b6
    go_wp2_with fail
    go_ret
    exact ⟨ret_bool HF.out.symm, HE1.out⟩
  rw [hm] at cM
  have hTx := Lib.hid (museum_txt hm)
  have Hm := Lib.hid hm
  have hpp := museumB_parts.1 hm
  have hn4 : n4 ≤ 30 := by (have := sealed_len hpp.2.2.2.2.2.2.1; have := hl4.out; omega)
  have H12 : Hid (n1 = n2) := Lib.hid (by (have := hpp.2.2.1; have := hl1.out; have := hl2.out; omega))
  clear hm hpp
  go_enter Tryz.func15, Tryz.ntmps15
  go_wp2_with (go_at_call 13; refine (fun h : Hid _ => h.out) ?_)
  unfold Hid
  rw [← Hwb.out]
  refine cM.out.mono ?_
  rintro e w1 ⟨rfl, h1⟩
  have HE1 := Lib.hid h1
  have z1 := h1.size
  clear h1 b0 b1 b2 b3 b4 b5 b6
  obtain ⟨b0, b1, b2, b3, b4, b5, b6⟩ := (HB.out.keep HE1.out).cell
  simp only at b0 b1 b2 b3 b4 b5 b6
  have Ho0 : Hid ((w1.alloc (.cells #[] 46)).ownsRow wb.heap.size 46 4 (.slice (some ⟨w1.heap.size, 0, none⟩) 0 0) 0 []) := Lib.hid (own_empty w1 wb.heap.size 46 4 z1)
  have HE2 := Lib.hid (HE1.out.alloc (.cells #[] 46))
  obtain ⟨y0, y1, y2, y3, y4, y5, y6⟩ := (HB.out.keep HE2.out).cell
  simp only at y0 y1 y2 y3 y4 y5 y6
  have hbl1 : w.heap.size < w1.heap.size := by omega
  go_wp2_with fail
  go_loopw [3, 19] (fun o i wr => ∃ k : Nat, k ≤ n4 ∧ i = .int .i64 k ∧ Hid (wr.ownsRow wb.heap.size 46 4 o k ((movesL (m.rs.take k)).flatMap GMove.enc)) ∧ Hid (((m.rs.take k).all fun e => (parseM e.x).2) = true) ∧ Ext wb wr) (fun _ i _ => n4 - (intOf i).toNat)
  case atStart => exact ⟨0, Nat.zero_le _, rfl, Ho0, by unfold Hid; rfl, HE2.out⟩
  case round =>
    obtain ⟨k, hk, rfl, hown, hall, hb⟩ := hrel
    by_cases hlt : k < n4
    · obtain ⟨b, off, x, rfl, hbs, hxk, p0, p1, p2⟩ := GEntry.at_ (hxr.out.keep hb) hlt
      have hxs := hTx.out x (List.mem_of_getElem? hxk)
      have Hk := Lib.hid hxk
      obtain ⟨we, hwe⟩ : ∃ we, we = wr.alloc (.cells #[.int .i64 x.m, .string x.x, .int .i64 x.s] 43) := ⟨_, rfl⟩
      have hEe : Ext wr we := by rw [hwe]; exact (Ext.refl wr).alloc _
      have HBr := Lib.hid hb
      have HBe := Lib.hid (hb.trans hEe)
      have Hwe := Lib.hid hwe
      have cP := Lib.hid (impl_ParseMove x.x we (by omega) (Lib.hid (max_ext HM.out HBe.out)))
      clear hxk hwe hb
      go_wp2_with (go_at_call 56; refine (fun h : Hid _ => h.out) ?_)
      unfold Hid
      rw [← Hwe.out]
      refine cP.out.mono ?_
      rintro e w2 ⟨mv, pb, rfl, he2, hpm⟩
      have hpe := parseM_of hpm
      have HE3 := Lib.hid (hEe.trans he2)
      clear hEe he2 hpm
      cases pb
      case false =>
        have HF := Lib.hid (audit_no Hk.out (by rw [hpe]))
        clear hpe p0 p1 p2 b0 b1 b2 b3 b4 b5 b6
        go_wp2_with fail
        go_ret
        exact ⟨ret_bool HF.out.symm, (HE.out.trans (HBr.out.trans HE3.out)).alloc _⟩
      case true =>
        have HN : Hid (movesL (m.rs.take (k + 1)) = movesL (m.rs.take k) ++ [mv]) := Lib.hid (by rw [movesL_snoc Hk.out, hpe])
        have HA := Lib.hid (all_snocA Hk.out hall.out (by rw [hpe]))
        clear hpe p0 p1 p2 b0 b1 b2 b3 b4 b5 b6
        go_wp2_with (at_builtin; refine (fun h : Hid _ => h.out) ?_)
        unfold Hid
        refine append1 ei_MoveA rfl _ _ rfl wb.heap.size (w2.alloc (.cells #[.int .i64 mv.o, .int .i64 mv.t, .int .i64 mv.f, .int .i64 mv.s] 46)) _ _ k _ (by rfl) (own_keep hown.out (HE3.out.alloc _)) mv.enc (by rw [heap_size_allocN]; rfl) rfl (one_GMoveA mv) (by omega) ((HBr.out.trans (HE3.out.alloc _)).size) ?_
        intro v' w4 ho4 he4
        have HO4 := Lib.hid ho4
        have HE4 := Lib.hid (he4 wb (HBr.out.trans (HE3.out.alloc _)) (Nat.le_refl _))
        clear ho4 he4
        go_wp2_with fail
        go_roundw
        case rel => exact ⟨k + 1, by omega, by go_num, by unfold Hid; rw [HN.out, List.flatMap_append]; simpa using HO4.out, HA, HE4.out⟩
        case measure => simp [intOf]; omega
    · obtain rfl : n4 = k := by omega
      rw [List.take_of_length_le (by rw [hl4.out]; omega)] at hown hall
      have HIS := Lib.hid (audit_is Hm.out hall.out)
      have HBr := Lib.hid hb
      obtain ⟨P, hP⟩ : ∃ P, P = (replayL m.H m.ds m.fs (movesL m.rs)).1 := ⟨_, rfl⟩
      obtain ⟨rb, hrb⟩ : ∃ rb, rb = (replayL m.H m.ds m.fs (movesL m.rs)).2 := ⟨_, rfl⟩
      have hPl : P.length = n1 := by rw [hP, replayL_len]; exact hl1.out
      rw [← hP, ← hrb] at HIS
      obtain ⟨Am, cm, rfl, -⟩ := own_form hown.out
      have cR : Hid (Calls Tryz.prog 57 #[.agg #[.int .i64 Hh, .slice A0 n0 c0], .slice A1 n1 c1, .slice Am n4 cm] wr (ListBool P rb wr)) := Lib.hid (by
        rw [hP, hrb, ← hH.out]
        exact impl_ReplayMoves Hh A0 n0 c0 m.ds A1 n1 c1 m.fs Am n4 cm (movesL m.rs) wr (hxd.out.keep hb) (hxf.out.keep hb) (Rd.of_own hown.out) hzf hnf)
      have HPl := Lib.hid hPl
      clear hb hP hrb hPl b0 b1 b2 b3 b4 b5 b6
      obtain ⟨b0, b1, b2, b3, b4, b5, b6⟩ := (HB.out.keep HBr.out).cell
      simp only at b0 b1 b2 b3 b4 b5 b6
      go_wp2_with (go_at_call 57; refine (fun h : Hid _ => h.out) ?_)
      unfold Hid
      refine cR.out.mono ?_
      rintro e w5 ⟨vp, rfl, he5, ho5⟩
      obtain ⟨Ap, cp, rfl, -⟩ := own_form ho5
      have hrp := Rd.of_own ho5
      rw [HPl.out] at hrp
      have HRP := Lib.hid hrp
      have HE5 := Lib.hid (HBr.out.trans he5)
      clear he5 ho5 hrp hown b0 b1 b2 b3 b4 b5 b6
      rw [HPl.out]
      obtain ⟨b0, b1, b2, b3, b4, b5, b6⟩ := (HB.out.keep HE5.out).cell
      simp only at b0 b1 b2 b3 b4 b5 b6
      go_wp2_with fail
      go_loopw [9, 47] (fun okv i wr => ∃ (k : Nat) (bv : Bool), k ≤ n1 ∧ i = .int .i64 k ∧ okv = .bool bv ∧ Hid (bv = (rb && decide (P.take k = m.ps.take k))) ∧ Ext w5 wr) (fun _ i _ => n1 - (intOf i).toNat)
      case atStart => exact ⟨0, rb, Nat.zero_le _, rfl, rfl, by unfold Hid; simp, Ext.refl _⟩
      case round =>
        obtain ⟨k, bv, hk, rfl, rfl, hbv, hb⟩ := hrel
        clear b0 b1 b2 b3 b4 b5 b6
        by_cases hlt : k < n1
        · obtain ⟨bp, op, x, hAp, hbp, hpk, q0⟩ := ienc_at (HRP.out.keep hb) hlt
          obtain ⟨bq, oq, y, hAq, hbq, hqk, r0⟩ := ienc_at (hxp.out.keep (HE5.out.trans hb)) (show k < n2 by (have := H12.out; omega))
          subst hAp hAq
          have HQ := Lib.hid (eq_snoc hpk hqk rb)
          have HBB := Lib.hid hb
          have HW5 := Lib.hid (HE5.out.trans hb)
          obtain ⟨b0, b1, b2, b3, b4, b5, b6⟩ := (HB.out.keep (HE5.out.trans hb)).cell
          simp only at b0 b1 b2 b3 b4 b5 b6
          clear hpk hqk hb
          have Hbv := Lib.hid hbv
          clear hbv
          have i1 : (k : Int) < (n2 : Int) := by (have := H12.out; omega)
          cases bv
          case false =>
            go_wp2_with fail
            go_roundw
            case rel => exact ⟨k + 1, false, by omega, by go_num, rfl, by unfold Hid; rw [HQ.out, ← Hbv.out]; rfl, HBB.out⟩
            case measure => simp [intOf]; omega
          case true =>
            go_wp2_with fail
            go_roundw
            case rel => exact ⟨k + 1, (x == y), by omega, by go_num, rfl, by unfold Hid; rw [HQ.out, ← Hbv.out]; rfl, HBB.out⟩
            case measure => simp [intOf]; omega
        · obtain rfl : n1 = k := by omega
          go_wp2_with fail
          go_ret
          exact ⟨ret_bool (by rw [hbv.out, HIS.out, List.take_of_length_le (by rw [HPl.out]; omega), List.take_of_length_le (by rw [hl2.out]; have := H12.out; omega)]), HE.out.trans (HE5.out.trans hb)⟩
end Go.Proofs.YtfmifllcbbfpoaaGreatDoor
/- Contracts of LastSeal and AppendEntry of both sides; no condition but what stands at each theorem. -/
namespace Go.Proofs.YtfmifllcbbfpoaaGreatDoor
set_option linter.unusedSimpArgs false
set_option linter.unusedVariables false
open Go.RowKit Go.Sort
def AppPost (rs : List GEntry) (mo : Int) (x : ByteArray) (h : x.size ≤ 9223372036854775807) (w : World) (e : Ending) (w' : World) : Prop :=
  ∃ v, e = .returned (.tuple #[v, .bool (appB rs mo x)]) ∧ Ext w w' ∧ w'.ownsRow w.heap.size 43 3 v (appL rs mo x h).length ((appL rs mo x h).flatMap GEntry.enc)
theorem app_no {rs : List GEntry} {mo : Int} {x : ByteArray} {h : x.size ≤ 9223372036854775807} {w w' : World} {v : Value} {n : Nat} (hB : appB rs mo x = false) (hl : rs.length = n) (e : Ext w w') (ho : w'.ownsRow w.heap.size 43 3 v n (rs.flatMap GEntry.enc)) : AppPost rs mo x h w (.returned (.tuple #[v, .bool false])) w' := by
  refine ⟨v, by rw [hB], e, ?_⟩
  unfold appL
  rw [hB]
  simpa [hl] using ho
theorem app_yes {rs : List GEntry} {mo : Int} {x : ByteArray} {h : x.size ≤ 9223372036854775807} {w w' : World} {v : Value} {n : Nat} (hB : appB rs mo x = true) (hl : rs.length = n) (e : Ext w w') (ho : w'.ownsRow w.heap.size 43 3 v (n + 1) (rs.flatMap GEntry.enc ++ (appE rs mo x h).enc)) : AppPost rs mo x h w (.returned (.tuple #[v, .bool true])) w' := by
  refine ⟨v, by rw [hB], e, ?_⟩
  unfold appL
  rw [if_pos hB, List.flatMap_append, List.length_append, hl]
  simpa using ho
theorem appB_seal {rs : List GEntry} {mo : Int} {x : ByteArray} (h : false = sealedB rs) : appB rs mo x = false := by unfold appB; rw [← h]; rfl
theorem appB_full {rs : List GEntry} {mo : Int} {x : ByteArray} (h : rs.length = 30) : appB rs mo x = false := by unfold appB; rw [h]; simp
theorem appB_neg {rs : List GEntry} {mo : Int} {x : ByteArray} (h : sealB (lastS rs) mo x < 0) : appB rs mo x = false := by
  unfold appB; rw [decide_eq_false (show ¬ 0 ≤ sealB (lastS rs) mo x by omega)]; simp
theorem appB_rest {rs : List GEntry} {mo : Int} {x : ByteArray} (h : true = sealedB rs) (h30 : rs.length ≠ 30) (hs : ¬ sealB (lastS rs) mo x < 0) : appB rs mo x = lateB rs mo := by
  unfold appB; rw [← h, decide_eq_false h30, decide_eq_true (show 0 ≤ sealB (lastS rs) mo x by omega)]; simp
theorem late_nil {rs : List GEntry} (h : rs.length = 0) (mo : Int) : lateB rs mo = true := by
  rw [List.length_eq_zero_iff.1 h]; rfl
set_option maxRecDepth 100000 in
set_option maxHeartbeats 1000000 in
theorem impl_LastSeal (A : Option Addr) (n c : Nat) (rs : List GEntry) (w : World) (hx : Rd w 3 A n (rs.flatMap GEntry.enc)) : Calls Tryz.prog 106 #[.slice A n c] w fun e w' => e = .returned (.int .i64 (lastS rs)) ∧ Ext w w' := by
  have hn := hx.2.1
  have hl := hx.len GEntry.len (by omega)
  by_cases h0 : n = 0
  case pos =>
    subst h0
    have HS : Hid (lastS rs = 1) := by unfold Hid; rw [List.length_eq_zero_iff.1 hl]; rfl
    clear hl hx
    go_enter Tryz.func106, Tryz.ntmps106
    go_wp2_with fail
    go_ret
    exact ⟨ret_int HS.out.symm, Ext.refl _⟩
  case neg =>
    obtain ⟨b, off, x, rfl, hbs, hxk, q0, q1, q2⟩ := GEntry.at_ hx (show n - 1 < n by omega)
    have HS : Hid (lastS rs = x.s) := Lib.hid (lastS_at (k := n - 1) (by omega) hxk)
    have f4 : ((n : Int) == 0) = false := by rw [beq_eq_false_iff_ne]; omega
    have ew : IntKind.i64.wrap ((n : Int) - 1) = (n : Int) - 1 := IntWalk.i64_in _ (by omega)
    have i1 : (0 : Int) ≤ (n : Int) - 1 := by omega
    have i4 : (1 : Int) ≤ (n : Int) := by omega
    have i2 : (n : Int) - 1 < (n : Int) := by omega
    have i3 : ((n : Int) - 1).toNat = n - 1 := by omega
    clear hl hx hxk
    go_enter Tryz.func106, Tryz.ntmps106
    go_wp2_with fail
    go_ret
    exact ⟨ret_int HS.out.symm, Ext.refl _⟩
set_option maxRecDepth 100000 in
set_option maxHeartbeats 2000000 in
theorem impl_AppendEntry (A : Option Addr) (n c : Nat) (rs : List GEntry) (mo : Int) (x : ByteArray) (w : World) (hx : Rd w 3 A n (rs.flatMap GEntry.enc)) (hnc : Hid (A = none → c = 0)) (hn : n ≤ 1048576) (hs : x.size ≤ 9223372036854775807) :
    Calls Tryz.prog 61 #[.slice A n c, .int .i64 mo, .string x] w (AppPost rs mo x hs w) := by
  have hl := Lib.hid (hx.len GEntry.len (by omega))
  have HX := Lib.hid hx
  have cC := Lib.hid (impl_copyRecord A n c rs w hx hnc hn)
  have cL := Lib.hid (fun W (he : Ext w W) => impl_LastSeal A n c rs W (hx.keep he))
  have cK := Lib.hid (fun W (he : Ext w W) => impl_IsSealed A n c rs W (hx.keep he))
  have cS := Lib.hid (fun W => impl_SealAfter (lastS rs) mo x W hs)
  obtain ⟨z, hz⟩ : ∃ z, z = sealB (lastS rs) mo x := ⟨_, rfl⟩
  obtain ⟨L, hL⟩ : ∃ L, L = lastS rs := ⟨_, rfl⟩
  obtain ⟨sb, hsb⟩ : ∃ sb, sb = sealedB rs := ⟨_, rfl⟩
  rw [← hz, ← hL] at cS
  rw [← hL] at cL
  rw [← hsb] at cK
  have HZ := Lib.hid hz
  have HB := Lib.hid hsb
  clear hx hz hL hsb
  go_enter Tryz.func61, Tryz.ntmps61
  go_wp2_with fail
  refine cC.out.mono ?_
  rintro e w1 ⟨g, c', rfl, he1, ho1⟩
  have HE1 := Lib.hid he1
  have HO1 := Lib.hid ho1
  clear he1 ho1
  go_wp2_with fail
  refine (cL.out w1 HE1.out).mono ?_
  rintro e w2 ⟨rfl, he2⟩
  have HE2 := Lib.hid (HE1.out.trans he2)
  have HO2 := Lib.hid (own_keep HO1.out he2)
  clear he2
  go_wp2_with fail
  refine (cS.out w2).mono ?_
  rintro e w3 ⟨rfl, rfl⟩
  go_wp2_with fail
  refine (cK.out w2 HE2.out).mono ?_
  rintro e w3 ⟨rfl, he3⟩
  have HE3 := Lib.hid (HE2.out.trans he3)
  have HO3 := Lib.hid (own_keep HO2.out he3)
  clear he3 cC cL cK cS HE1 HO1 HE2 HO2
  cases sb
  case false =>
    go_wp2_with fail
    go_ret2
    exact app_no (appB_seal HB.out) hl.out HE3.out HO3.out
  by_cases h30 : n = 30
  case pos =>
    have f30 : ((n : Int) == 30) = true := by rw [beq_iff_eq]; omega
    have H30 := Lib.hid h30
    clear h30
    go_wp2_with fail
    go_ret2
    exact app_no (appB_full (hl.out.trans H30.out)) hl.out HE3.out HO3.out
  have f30 : ((n : Int) == 30) = false := by rw [beq_eq_false_iff_ne]; omega
  have H30 := Lib.hid (show rs.length ≠ 30 by rw [hl.out]; exact h30)
  clear h30
  by_cases h0 : z < 0
  case pos =>
    go_wp2_with fail
    go_ret2
    exact app_no (appB_neg (by rw [← HZ.out]; exact h0)) hl.out HE3.out HO3.out
  have HR : Hid (appB rs mo x = lateB rs mo) := Lib.hid (appB_rest HB.out H30.out (by rw [← HZ.out]; exact h0))
  by_cases hn0 : n = 0
  case pos =>
    have H0 := Lib.hid hn0
    have f0 : ¬ (0 : Int) < (n : Int) := by omega
    clear hn0
    go_wp2_with (at_builtin; refine (fun h : Hid _ => h.out) ?_)
    unfold Hid
    refine append1 ei_EntryI rfl _ _ rfl w.heap.size w3 _ _ n _ (by rfl) HO3.out [.int .i64 mo, .string x, .int .i64 z] (by rfl) rfl (one_GEntry1 ⟨mo, x, z, hs⟩) (by omega) (HE3.out.size) ?_
    intro v' w4 ho4 he4
    have HO4 := Lib.hid ho4
    have HE4 := Lib.hid (he4 w HE3.out (Nat.le_refl _))
    clear ho4 he4
    go_wp2_with fail
    go_ret2
    refine app_yes (h := hs) (by rw [HR.out, late_nil (hl.out.trans H0.out)]) hl.out HE4.out ?_
    unfold appE GEntry.enc
    rw [← HZ.out]
    exact HO4.out
  obtain ⟨b, off, y, rfl, hbs, hyk, q0, q1, q2⟩ := GEntry.at_ (HX.out.keep HE3.out) (show n - 1 < n by omega)
  have HL : Hid (lateB rs mo = decide (y.m ≤ mo)) := Lib.hid (lateB_at (k := n - 1) (by rw [hl.out]; omega) hyk mo)
  have f0 : (0 : Int) < (n : Int) := by omega
  have ew : IntKind.i64.wrap ((n : Int) - 1) = (n : Int) - 1 := IntWalk.i64_in _ (by omega)
  have i1 : (0 : Int) ≤ (n : Int) - 1 := by omega
  have i4 : (1 : Int) ≤ (n : Int) := by omega
  have i2 : (n : Int) - 1 < (n : Int) := by omega
  have i3 : ((n : Int) - 1).toNat = n - 1 := by omega
  clear hyk
  by_cases hm : mo < y.m
  case pos =>
    go_wp2_with fail
    go_ret2
    exact app_no (by rw [HR.out, HL.out, decide_eq_false (by omega)]) hl.out HE3.out HO3.out
  go_wp2_with (at_builtin; refine (fun h : Hid _ => h.out) ?_)
  unfold Hid
  refine append1 ei_EntryI rfl _ _ rfl w.heap.size w3 _ _ n _ (by rfl) HO3.out [.int .i64 mo, .string x, .int .i64 z] (by rfl) rfl (one_GEntry1 ⟨mo, x, z, hs⟩) (by omega) (HE3.out.size) ?_
  intro v' w4 ho4 he4
  have HO4 := Lib.hid ho4
  have HE4 := Lib.hid (he4 w HE3.out (Nat.le_refl _))
  clear ho4 he4 q0 q1 q2
  go_wp2_with fail
  go_ret2
  refine app_yes (h := hs) (by rw [HR.out, HL.out, decide_eq_true (by omega)]) hl.out HE4.out ?_
  unfold appE GEntry.enc
  rw [← HZ.out]
  exact HO4.out
set_option maxRecDepth 100000 in
set_option maxHeartbeats 1000000 in
theorem spec_LastSeal (A : Option Addr) (n c : Nat) (rs : List GEntry) (w : World) (hx : Rd w 3 A n (rs.flatMap GEntry.enc)) : Calls Tryz.prog 120 #[.slice A n c] w fun e w' => e = .returned (.int .i64 (lastS rs)) ∧ Ext w w' := by
  have hn := hx.2.1
  have hl := hx.len GEntry.len (by omega)
  by_cases h0 : n = 0
  case pos =>
    subst h0
    have HS : Hid (lastS rs = 1) := by unfold Hid; rw [List.length_eq_zero_iff.1 hl]; rfl
    clear hl hx
    go_enter Tryz.func120, Tryz.ntmps120
    go_wp2_with fail
    go_ret
    exact ⟨ret_int HS.out.symm, Ext.refl _⟩
  case neg =>
    obtain ⟨b, off, x, rfl, hbs, hxk, q0, q1, q2⟩ := GEntry.at_ hx (show n - 1 < n by omega)
    have HS : Hid (lastS rs = x.s) := Lib.hid (lastS_at (k := n - 1) (by omega) hxk)
    have f4 : ((n : Int) == 0) = false := by rw [beq_eq_false_iff_ne]; omega
    have ew : IntKind.i64.wrap ((n : Int) - 1) = (n : Int) - 1 := IntWalk.i64_in _ (by omega)
    have i1 : (0 : Int) ≤ (n : Int) - 1 := by omega
    have i4 : (1 : Int) ≤ (n : Int) := by omega
    have i2 : (n : Int) - 1 < (n : Int) := by omega
    have i3 : ((n : Int) - 1).toNat = n - 1 := by omega
    clear hl hx hxk
    go_enter Tryz.func120, Tryz.ntmps120
    go_wp2_with fail
    go_ret
    exact ⟨ret_int HS.out.symm, Ext.refl _⟩
set_option maxRecDepth 100000 in
set_option maxHeartbeats 2000000 in
theorem spec_AppendEntry (A : Option Addr) (n c : Nat) (rs : List GEntry) (mo : Int) (x : ByteArray) (w : World) (hx : Rd w 3 A n (rs.flatMap GEntry.enc)) (hnc : Hid (A = none → c = 0)) (hn : n ≤ 1048576) (hs : x.size ≤ 9223372036854775807) :
    Calls Tryz.prog 92 #[.slice A n c, .int .i64 mo, .string x] w (AppPost rs mo x hs w) := by
  have hl := Lib.hid (hx.len GEntry.len (by omega))
  have HX := Lib.hid hx
  have cC := Lib.hid (spec_l30Copy A n c rs w hx hnc hn)
  have cL := Lib.hid (fun W (he : Ext w W) => spec_LastSeal A n c rs W (hx.keep he))
  have cK := Lib.hid (fun W (he : Ext w W) => spec_IsSealed A n c rs W (hx.keep he))
  have cS := Lib.hid (fun W => spec_SealAfter (lastS rs) mo x W hs)
  obtain ⟨z, hz⟩ : ∃ z, z = sealB (lastS rs) mo x := ⟨_, rfl⟩
  obtain ⟨L, hL⟩ : ∃ L, L = lastS rs := ⟨_, rfl⟩
  obtain ⟨sb, hsb⟩ : ∃ sb, sb = sealedB rs := ⟨_, rfl⟩
  rw [← hz, ← hL] at cS
  rw [← hL] at cL
  rw [← hsb] at cK
  have HZ := Lib.hid hz
  have HB := Lib.hid hsb
  clear hx hz hL hsb
  go_enter Tryz.func92, Tryz.ntmps92
  go_wp2_with fail
  refine cC.out.mono ?_
  rintro e w1 ⟨g, c', rfl, he1, ho1⟩
  have HE1 := Lib.hid he1
  have HO1 := Lib.hid ho1
  clear he1 ho1
  go_wp2_with fail
  refine (cL.out w1 HE1.out).mono ?_
  rintro e w2 ⟨rfl, he2⟩
  have HE2 := Lib.hid (HE1.out.trans he2)
  have HO2 := Lib.hid (own_keep HO1.out he2)
  clear he2
  go_wp2_with fail
  refine (cS.out w2).mono ?_
  rintro e w3 ⟨rfl, rfl⟩
  go_wp2_with fail
  refine (cK.out w2 HE2.out).mono ?_
  rintro e w3 ⟨rfl, he3⟩
  have HE3 := Lib.hid (HE2.out.trans he3)
  have HO3 := Lib.hid (own_keep HO2.out he3)
  clear he3 cC cL cK cS HE1 HO1 HE2 HO2
  cases sb
  case false =>
    go_wp2_with fail
    go_ret2
    exact app_no (appB_seal HB.out) hl.out HE3.out HO3.out
  by_cases h30 : n = 30
  case pos =>
    have f30 : ((n : Int) == 30) = true := by rw [beq_iff_eq]; omega
    have H30 := Lib.hid h30
    clear h30
    go_wp2_with fail
    go_ret2
    exact app_no (appB_full (hl.out.trans H30.out)) hl.out HE3.out HO3.out
  have f30 : ((n : Int) == 30) = false := by rw [beq_eq_false_iff_ne]; omega
  have H30 := Lib.hid (show rs.length ≠ 30 by rw [hl.out]; exact h30)
  clear h30
  by_cases h0 : z < 0
  case pos =>
    go_wp2_with fail
    go_ret2
    exact app_no (appB_neg (by rw [← HZ.out]; exact h0)) hl.out HE3.out HO3.out
  have HR : Hid (appB rs mo x = lateB rs mo) := Lib.hid (appB_rest HB.out H30.out (by rw [← HZ.out]; exact h0))
  by_cases hn0 : n = 0
  case pos =>
    have H0 := Lib.hid hn0
    have f0 : ¬ (0 : Int) < (n : Int) := by omega
    clear hn0
    go_wp2_with (at_builtin; refine (fun h : Hid _ => h.out) ?_)
    unfold Hid
    refine append1 ei_EntryI rfl _ _ rfl w.heap.size w3 _ _ n _ (by rfl) HO3.out [.int .i64 mo, .string x, .int .i64 z] (by rfl) rfl (one_GEntry1 ⟨mo, x, z, hs⟩) (by omega) (HE3.out.size) ?_
    intro v' w4 ho4 he4
    have HO4 := Lib.hid ho4
    have HE4 := Lib.hid (he4 w HE3.out (Nat.le_refl _))
    clear ho4 he4
    go_wp2_with fail
    go_ret2
    refine app_yes (h := hs) (by rw [HR.out, late_nil (hl.out.trans H0.out)]) hl.out HE4.out ?_
    unfold appE GEntry.enc
    rw [← HZ.out]
    exact HO4.out
  obtain ⟨b, off, y, rfl, hbs, hyk, q0, q1, q2⟩ := GEntry.at_ (HX.out.keep HE3.out) (show n - 1 < n by omega)
  have HL : Hid (lateB rs mo = decide (y.m ≤ mo)) := Lib.hid (lateB_at (k := n - 1) (by rw [hl.out]; omega) hyk mo)
  have f0 : (0 : Int) < (n : Int) := by omega
  have ew : IntKind.i64.wrap ((n : Int) - 1) = (n : Int) - 1 := IntWalk.i64_in _ (by omega)
  have i1 : (0 : Int) ≤ (n : Int) - 1 := by omega
  have i4 : (1 : Int) ≤ (n : Int) := by omega
  have i2 : (n : Int) - 1 < (n : Int) := by omega
  have i3 : ((n : Int) - 1).toNat = n - 1 := by omega
  clear hyk
  by_cases hm : mo < y.m
  case pos =>
    go_wp2_with fail
    go_ret2
    exact app_no (by rw [HR.out, HL.out, decide_eq_false (by omega)]) hl.out HE3.out HO3.out
  go_wp2_with (at_builtin; refine (fun h : Hid _ => h.out) ?_)
  unfold Hid
  refine append1 ei_EntryI rfl _ _ rfl w.heap.size w3 _ _ n _ (by rfl) HO3.out [.int .i64 mo, .string x, .int .i64 z] (by rfl) rfl (one_GEntry1 ⟨mo, x, z, hs⟩) (by omega) (HE3.out.size) ?_
  intro v' w4 ho4 he4
  have HO4 := Lib.hid ho4
  have HE4 := Lib.hid (he4 w HE3.out (Nat.le_refl _))
  clear ho4 he4 q0 q1 q2
  go_wp2_with fail
  go_ret2
  refine app_yes (h := hs) (by rw [HR.out, HL.out, decide_eq_true (by omega)]) hl.out HE4.out ?_
  unfold appE GEntry.enc
  rw [← HZ.out]
  exact HO4.out
end Go.Proofs.YtfmifllcbbfpoaaGreatDoor
/- Contract of the program's NightMove; no condition but what stands at each theorem. -/
namespace Go.Proofs.YtfmifllcbbfpoaaGreatDoor
set_option linter.unusedSimpArgs false
set_option linter.unusedVariables false
open Go.RowKit Go.Sort
/-- A museum in rows of the call's own, with other rows of places and of entries. -/
theorem MOwn.repl {w : World} {base B lo1 hi1 lo2 hi2 np cp nr cr : Nat} {Ap Ar : Option Addr} {v : MV} {m : GMuseum} {ps : List Int} {rs : List GEntry} (h : MOwn w base v m) (ha : MAt base B v)
    (hp : w.ownsRow lo1 3 1 (.slice Ap np cp) np (ps.flatMap ienc)) (ap : At lo1 hi1 (.slice Ap np cp)) (hr : w.ownsRow lo2 43 3 (.slice Ar nr cr) nr (rs.flatMap GEntry.enc)) (ar : At lo2 hi2 (.slice Ar nr cr))
    (h1 : B ≤ lo1) (h2 : hi1 ≤ lo2) (h3 : base ≤ lo1 ∧ B ≤ lo2 ∧ base ≤ lo2) : MOwn w base { v with sp := ⟨Ap, np, cp⟩, sr := ⟨Ar, nr, cr⟩ } { m with ps := ps, rs := rs } := by
  obtain ⟨a1, a2, a3, a4, a5, a6, a7, a8, a9, a10⟩ := aparts h.ap
  obtain ⟨d1, d2, d3, d4, d5⟩ := ha
  exact ⟨h.eH, h.ed, h.od, h.of_, own_weak hp h3.1, h.og, own_weak hr h3.2.2,
    apart5 a1 (Apart.of_at d1 ap (.inl h1)) a3 (Apart.of_at d1 ar (.inl h3.2.1)) (Apart.of_at d2 ap (.inl h1)) a6 (Apart.of_at d2 ar (.inl h3.2.1)) (Apart.of_at ap d4 (.inr h1)) (Apart.of_at ap ar (.inl h2)) (Apart.of_at d4 ar (.inl h3.2.1))⟩
set_option maxRecDepth 100000 in
set_option maxHeartbeats 4000000 in
theorem impl_NightMove (v : MV) (m : GMuseum) (x : GMove) (w : World) (hx : MRd w v m) (hf : MFit v) : Calls Tryz.prog 19 #[v.val, .agg #[.int .i64 x.o, .int .i64 x.t, .int .i64 x.f, .int .i64 x.s]] w (MPost (nightM m x) (.bool (nightB m x)) w) := by
  obtain ⟨wb, hwb⟩ : ∃ wb, wb = w.alloc (.cells v.cells 30) := ⟨_, rfl⟩
  have hbx := MBox.new hwb
  have hE : Ext w wb := by rw [hwb]; exact (Ext.refl w).alloc _
  obtain ⟨wm, hwm⟩ : ∃ wm, wm = wb.alloc (.cells #[.int .i64 x.o, .int .i64 x.t, .int .i64 x.f, .int .i64 x.s] 46) := ⟨_, rfl⟩
  have hEm : Ext wb wm := by rw [hwm]; exact (Ext.refl wb).alloc _
  obtain ⟨wz, hwz⟩ : ∃ wz, wz = wm.alloc (.cells #[.int .i64 0, .slice none 0 0, .slice none 0 0, .slice none 0 0, .slice none 0 0, .int .i64 0, .slice none 0 0] 30) := ⟨_, rfl⟩
  have hEz : Ext wm wz := by rw [hwz]; exact (Ext.refl wm).alloc _
  have hsb : wb.heap.size = w.heap.size + 1 := by rw [hwb]; simp
  have hsm : wm.heap.size = w.heap.size + 1 + 1 := by rw [hwm]; simp [hsb]
  have hsz : wz.heap.size = w.heap.size + 1 + 1 + 1 := by rw [hwz]; simp [hsm]
  have HBz : Hid (Blk wz (w.heap.size + 1 + 1) 30 #[.int .i64 0, .slice none 0 0, .slice none 0 0, .slice none 0 0, .slice none 0 0, .int .i64 0, .slice none 0 0]) := Lib.hid (by rw [hwz, ← hsm]; exact Blk.new _ _ _)
  have HBm : Hid (Blk wz (w.heap.size + 1) 46 #[.int .i64 x.o, .int .i64 x.t, .int .i64 x.f, .int .i64 x.s]) := Lib.hid (by refine Blk.keep ?_ hEz; rw [hwm, ← hsb]; exact Blk.new _ _ _)
  have hE2 := hEm.trans hEz
  have HX := Lib.hid (hx.keep (hE.trans hE2))
  have HB := Lib.hid (hbx.keep hE2)
  have HE := Lib.hid (hE.trans hE2)
  have cC := Lib.hid (impl_copyMuseum v m wz HX.out hf)
  have cM := Lib.hid (fun W (he : Ext wz W) => impl_MuseumOk v m W (HX.out.keep he))
  obtain ⟨Hh, ⟨A0, n0, c0⟩, ⟨A1, n1, c1⟩, ⟨A2, n2, c2⟩, ⟨A3, n3, c3⟩, day, ⟨A4, n4, c4⟩⟩ := v
  have hH : Hh = m.H := hx.eH
  subst hH
  have Hwz : Hid (wz = ((w.alloc (.cells #[.int .i64 m.H, .slice A0 n0 c0, .slice A1 n1 c1, .slice A2 n2 c2, .slice A3 n3 c3, .int .i64 m.d, .slice A4 n4 c4] 30)).alloc (.cells #[.int .i64 x.o, .int .i64 x.t, .int .i64 x.f, .int .i64 x.s] 46)).alloc (.cells #[.int .i64 0, .slice none 0 0, .slice none 0 0, .slice none 0 0, .slice none 0 0, .int .i64 0, .slice none 0 0] 30)) := Lib.hid (by rw [hwz, hwm, hwb, ← hx.ed]; rfl)
  have hday : day = m.d := hx.ed
  subst hday
  obtain ⟨cb, hcb⟩ : ∃ cb, cb = canMoveB m.H m.ds m.ps m.gs x := ⟨_, rfl⟩
  obtain ⟨PL, hPL⟩ : ∃ PL, PL = moveL m.H m.ds m.ps m.gs x := ⟨_, rfl⟩
  obtain ⟨ab, hab⟩ : ∃ ab, ab = appB m.rs m.d (moveT x) := ⟨_, rfl⟩
  obtain ⟨AL, hAL⟩ : ∃ AL, AL = appL m.rs m.d (moveT x) (moveT_h x) := ⟨_, rfl⟩
  have CM : Hid (∀ W, Ext wz W → Calls Tryz.prog 13 #[.agg #[.int .i64 m.H, .slice A0 n0 c0, .slice A1 n1 c1, .slice A2 n2 c2, .slice A3 n3 c3, .int .i64 m.d, .slice A4 n4 c4]] W fun e w' => e = .returned (.bool (museumB m)) ∧ Ext W w') := cM
  have CO : Hid (∀ W, Ext wz W → Calls Tryz.prog 60 #[.agg #[.int .i64 m.H, .slice A0 n0 c0], .slice A2 n2 c2, .slice A3 n3 c3, .agg #[.int .i64 x.o, .int .i64 x.t, .int .i64 x.f, .int .i64 x.s]] W fun e w' => ∃ v, e = .returned (.tuple #[v, .bool cb]) ∧ Ext W w' ∧ w'.ownsRow W.heap.size 3 1 v PL.length (PL.flatMap ienc)) := Lib.hid fun W he => by
    rw [hcb, hPL]
    exact impl_MoveObject m.H A0 n0 c0 m.ds A2 n2 c2 m.ps A3 n3 c3 m.gs x W (HX.out.rd.keep he) (HX.out.rp.keep he) (HX.out.rg.keep he) (Lib.hid hf.zp) hf.np
  have CA : Hid (∀ W, Ext wz W → Calls Tryz.prog 61 #[.slice A4 n4 c4, .int .i64 m.d, .string (moveT x)] W fun e w' => ∃ v, e = .returned (.tuple #[v, .bool ab]) ∧ Ext W w' ∧ w'.ownsRow W.heap.size 43 3 v AL.length (AL.flatMap GEntry.enc)) := Lib.hid fun W he => by
    rw [hab, hAL]
    exact impl_AppendEntry A4 n4 c4 m.rs m.d (moveT x) W (HX.out.rr.keep he) (Lib.hid hf.zr) hf.nr (moveT_h x)
  have CT := Lib.hid (fun W => impl_MoveText x W)
  obtain ⟨T, hT⟩ : ∃ T, T = moveT x := ⟨_, rfl⟩
  rw [← hT] at CA CT
  have HCB := Lib.hid hcb
  have HPL := Lib.hid hPL
  have HAB := Lib.hid hab
  have HAL := Lib.hid hAL
  have hzl : w.heap.size + 1 + 1 < wz.heap.size := by omega
  clear hwb hwz hwm hbx hE hEz hEm hE2 hx hf hsb hsz hsm hcb hPL hab hAL hT cM
  show Calls Tryz.prog 19 #[.agg #[.int .i64 m.H, .slice A0 n0 c0, .slice A1 n1 c1, .slice A2 n2 c2, .slice A3 n3 c3, .int .i64 m.d, .slice A4 n4 c4], .agg #[.int .i64 x.o, .int .i64 x.t, .int .i64 x.f, .int .i64 x.s]] w _
  obtain ⟨b0, b1, b2, b3, b4, b5, b6⟩ := HB.out.cell
  simp only at b0 b1 b2 b3 b4 b5 b6
  have Hb0 := Lib.hid b0
  rw [Hwz.out] at b0 b1 b2 b3 b4 b5 b6
  go_enter Tryz.func19, Tryz.ntmps19
  go_wp2_with (go_at_call 42; refine (fun h : Hid _ => h.out) ?_)
  unfold Hid
  rw [← Hwz.out]
  refine cC.out.mono ?_
  rintro e w1 ⟨v1, hev, he1, ho1⟩
  obtain ⟨Hh1, ⟨A01, n01, c01⟩, ⟨A11, n11, c11⟩, ⟨A21, n21, c21⟩, ⟨A31, n31, c31⟩, day1, ⟨A41, n41, c41⟩⟩ := v1
  simp only [MV.val, MV.cells] at hev
  subst hev
  have hd1 : day1 = m.d := ho1.ed
  subst hd1
  obtain ⟨w2, hw2⟩ : ∃ w2, w2 = w1.alloc (.cells #[.int .i64 Hh1, .slice A01 n01 c01, .slice A11 n11 c11, .slice A21 n21 c21, .slice A31 n31 c31, .int .i64 m.d, .slice A41 n41 c41] 30) := ⟨_, rfl⟩
  have hB6 : Blk w2 w1.heap.size 30 #[.int .i64 Hh1, .slice A01 n01 c01, .slice A11 n11 c11, .slice A21 n21 c21, .slice A31 n31 c31, .int .i64 m.d, .slice A41 n41 c41] := by rw [hw2]; exact Blk.new _ _ _
  have he2 : Ext w1 w2 := by rw [hw2]; exact (Ext.refl _).alloc _
  have HB6 := Lib.hid hB6
  have HAT := Lib.hid (MAt.of_own ho1)
  have HO2 := Lib.hid (ho1.keep he2)
  have HE2 := Lib.hid (he1.trans he2)
  have HW2 := Lib.hid hw2
  have hz2 : wz.heap.size ≤ w1.heap.size := he1.size
  have hs2 : w2.heap.size = w1.heap.size + 1 := by rw [hw2]; simp
  clear hB6 he2 ho1 he1 hw2 b0 b1 b2 b3 b4 b5 b6 cC
  obtain ⟨b0, b1, b2, b3, b4, b5, b6⟩ := (HB.out.keep HE2.out).cell
  simp only at b0 b1 b2 b3 b4 b5 b6
  rw [HW2.out] at b0 b1 b2 b3 b4 b5 b6
  go_wp2_with (go_at_call 13; refine (fun h : Hid _ => h.out) ?_)
  unfold Hid
  rw [← HW2.out]
  refine (CM.out w2 HE2.out).mono ?_
  rintro e w3 ⟨rfl, he3⟩
  have HE3 := Lib.hid (HE2.out.trans he3)
  have HO3 := Lib.hid (HO2.out.keep he3)
  have HB63 := Lib.hid (HB6.out.keep he3)
  have hz3 : w2.heap.size ≤ w3.heap.size := he3.size
  clear he3 b0 b1 b2 b3 b4 b5 b6
  cases hm : museumB m
  case false =>
    have HF : Hid (nightB m x = false) := Lib.hid (by simp [nightB, hm])
    have HM : Hid (nightM m x = m) := Lib.hid (by rw [nightM, HF.out]; rfl)
    clear hm

    have Bz := Blk.keep HBz.out HE3.out
    have x0 := Bz.cellAt (i := 0) (by simp)
    have x1 := Bz.cellAt (i := 1) (by simp)
    have x2 := Bz.cellAt (i := 2) (by simp)
    have x3 := Bz.cellAt (i := 3) (by simp)
    have x4 := Bz.cellAt (i := 4) (by simp)
    have x5 := Bz.cellAt (i := 5) (by simp)
    have x6 := Bz.cellAt (i := 6) (by simp)
    have fz := Bz.free
    simp at x0 x1 x2 x3 x4 x5 x6
    have y0 := HB63.out.cellAt (i := 0) (by simp)
    have y1 := HB63.out.cellAt (i := 1) (by simp)
    have y2 := HB63.out.cellAt (i := 2) (by simp)
    have y3 := HB63.out.cellAt (i := 3) (by simp)
    have y4 := HB63.out.cellAt (i := 4) (by simp)
    have y5 := HB63.out.cellAt (i := 5) (by simp)
    have y6 := HB63.out.cellAt (i := 6) (by simp)
    simp at y0 y1 y2 y3 y4 y5 y6
    have lz : w.heap.size + 1 + 1 < w3.heap.size := Bz.lt
    go_wp2_with fail
    obtain ⟨b6', k6⟩ := store7 Bz (.int .i64 Hh1) (.slice A01 n01 c01) (.slice A11 n11 c11) (.slice A21 n21 c21) (.slice A31 n31 c31) (.int .i64 m.d) (.slice A41 n41 c41)
    have hO6 := HO3.out.out k6 (by omega)
    have hE6 := k6.ext (HE.out.trans HE3.out) (by omega)
    generalize (((((((w3.setCell ⟨w.heap.size + 1 + 1, 0, none⟩ (.int .i64 Hh1)).setCell ⟨w.heap.size + 1 + 1, 1, none⟩ (.slice A01 n01 c01)).setCell ⟨w.heap.size + 1 + 1, 2, none⟩ (.slice A11 n11 c11)).setCell ⟨w.heap.size + 1 + 1, 3, none⟩ (.slice A21 n21 c21)).setCell ⟨w.heap.size + 1 + 1, 4, none⟩ (.slice A31 n31 c31)).setCell ⟨w.heap.size + 1 + 1, 5, none⟩ (.int .i64 m.d)).setCell ⟨w.heap.size + 1 + 1, 6, none⟩ (.slice A41 n41 c41)) = w9 at b6' k6 hO6 hE6 ⊢
    have t0 := b6'.cellAt (i := 0) (by simp)
    have t1 := b6'.cellAt (i := 1) (by simp)
    have t2 := b6'.cellAt (i := 2) (by simp)
    have t3 := b6'.cellAt (i := 3) (by simp)
    have t4 := b6'.cellAt (i := 4) (by simp)
    have t5 := b6'.cellAt (i := 5) (by simp)
    have t6 := b6'.cellAt (i := 6) (by simp)
    simp at t0 t1 t2 t3 t4 t5 t6
    refine bodyPost_ret (v := .tuple #[MV.val ⟨Hh1, ⟨A01, n01, c01⟩, ⟨A11, n11, c11⟩, ⟨A21, n21, c21⟩, ⟨A31, n31, c31⟩, m.d, ⟨A41, n41, c41⟩⟩, .bool false]) (by simp [results, Tryz.results19, go_sem, t0, t1, t2, t3, t4, t5, t6, MV.val, MV.cells]) rfl ?_
    exact ⟨_, (by rw [HF.out]), hE6, by rw [HM.out]; exact hO6.weak (by omega)⟩

  have HN : Hid (nightB m x = (cb && ab)) := Lib.hid (by rw [nightB, hm, HCB.out, HAB.out]; rfl)
  clear hm
  obtain ⟨b0, b1, b2, b3, b4, b5, b6⟩ := (HB.out.keep HE3.out).cell
  have hbm := HBm.out.keep HE3.out
  have q0 := hbm.cellAt (i := 0) (by simp)
  have q1 := hbm.cellAt (i := 1) (by simp)
  have q2 := hbm.cellAt (i := 2) (by simp)
  have q3 := hbm.cellAt (i := 3) (by simp)
  simp only at b0 b1 b2 b3 b4 b5 b6
  simp at q0 q1 q2 q3
  go_wp2_with (go_at_call 60; refine (fun h : Hid _ => h.out) ?_)
  unfold Hid
  refine (CO.out w3 HE3.out).mono ?_
  rintro e w4 ⟨vp, rfl, he4, hop⟩
  obtain ⟨Ap, cp, rfl, -⟩ := own_form hop
  have HE4 := Lib.hid (HE3.out.trans he4)
  have HO4 := Lib.hid (HO3.out.keep he4)
  have HB64 := Lib.hid (HB63.out.keep he4)
  have HP4 := Lib.hid hop
  have HAP := Lib.hid (At.of_own hop)
  have hz4 : w3.heap.size ≤ w4.heap.size := he4.size
  clear he4 hop hbm b0 b1 b2 b3 b4 b5 b6 q0 q1 q2 q3
  obtain ⟨-, -, -, -, -, r5, r6⟩ := (HB.out.keep HE4.out).cell
  simp only at r5 r6
  have rm := HBm.out.keep HE4.out
  have rx0 := rm.cellAt (i := 0) (by simp)
  have rx1 := rm.cellAt (i := 1) (by simp)
  have rx2 := rm.cellAt (i := 2) (by simp)
  have rx3 := rm.cellAt (i := 3) (by simp)
  simp at rx0 rx1 rx2 rx3
  go_wp2_with fail
  go_region_held3 (fun w' => w'.cell? ⟨w.heap.size, 5, none⟩ = some (.int .i64 m.d) ∧ w'.cell? ⟨w.heap.size, 6, none⟩ = some (.slice A4 n4 c4) ∧ w'.cell? ⟨w.heap.size + 1, 0, none⟩ = some (.int .i64 x.o) ∧ w'.cell? ⟨w.heap.size + 1, 1, none⟩ = some (.int .i64 x.t) ∧ w'.cell? ⟨w.heap.size + 1, 2, none⟩ = some (.int .i64 x.f) ∧ w'.cell? ⟨w.heap.size + 1, 3, none⟩ = some (.int .i64 x.s)) (go_keep) (first
    | (go_at_call 62; refine (CT.out _).mono ?_; rintro e w5 ⟨rfl, h5⟩; obtain ⟨-, -, -, -, -, s5, s6⟩ := (HB.out.keep (HE4.out.trans (Ext.trans ((Ext.refl _).drewN 1) h5))).cell; simp only at s5 s6; have sm := HBm.out.keep (HE4.out.trans (Ext.trans ((Ext.refl _).drewN 1) h5)); have sx0 := sm.cellAt (i := 0) (by simp); have sx1 := sm.cellAt (i := 1) (by simp); have sx2 := sm.cellAt (i := 2) (by simp); have sx3 := sm.cellAt (i := 3) (by simp); simp at sx0 sx1 sx2 sx3)
    | (go_at_call 61; refine (CA.out _ (HE4.out.trans (Ext.trans ((Ext.refl _).drewN 1) h5))).mono ?_; rintro e w6 ⟨va, rfl, h6, oa⟩; obtain ⟨-, -, -, -, -, u5, u6⟩ := (HB.out.keep (HE4.out.trans ((Ext.trans ((Ext.refl _).drewN 1) h5).trans h6))).cell; simp only at u5 u6; have um := HBm.out.keep (HE4.out.trans ((Ext.trans ((Ext.refl _).drewN 1) h5).trans h6)); have ux0 := um.cellAt (i := 0) (by simp); have ux1 := um.cellAt (i := 1) (by simp); have ux2 := um.cellAt (i := 2) (by simp); have ux3 := um.cellAt (i := 3) (by simp); simp at ux0 ux1 ux2 ux3))
  obtain ⟨Aa, ca, rfl, -⟩ := own_form oa
  have h45 : Ext w4 w5 := Ext.trans ((Ext.refl _).drewN 1) h5
  have hz5 : w4.heap.size ≤ w5.heap.size := h45.size
  have hz6 : w5.heap.size ≤ w6.heap.size := h6.size
  have h46 := h45.trans h6
  have HE6 := Lib.hid (HE4.out.trans h46)
  have HO6 := Lib.hid (HO4.out.keep h46)
  have HB66 := Lib.hid (HB64.out.keep h46)
  have HP6 := Lib.hid (own_keep HP4.out h46)
  have HA6 := Lib.hid oa
  have HAA := Lib.hid (At.of_own oa)
  clear h5 h6 h45 h46 oa
  cases cb
  case false =>
    have HF : Hid (nightB m x = false) := Lib.hid (HN.out.trans (by simp))
    have HM : Hid (nightM m x = m) := Lib.hid (by rw [nightM, HF.out]; rfl)
    have Bz := Blk.keep HBz.out HE6.out
    have x0 := Bz.cellAt (i := 0) (by simp)
    have x1 := Bz.cellAt (i := 1) (by simp)
    have x2 := Bz.cellAt (i := 2) (by simp)
    have x3 := Bz.cellAt (i := 3) (by simp)
    have x4 := Bz.cellAt (i := 4) (by simp)
    have x5 := Bz.cellAt (i := 5) (by simp)
    have x6 := Bz.cellAt (i := 6) (by simp)
    have fz := Bz.free
    simp at x0 x1 x2 x3 x4 x5 x6
    have y0 := HB66.out.cellAt (i := 0) (by simp)
    have y1 := HB66.out.cellAt (i := 1) (by simp)
    have y2 := HB66.out.cellAt (i := 2) (by simp)
    have y3 := HB66.out.cellAt (i := 3) (by simp)
    have y4 := HB66.out.cellAt (i := 4) (by simp)
    have y5 := HB66.out.cellAt (i := 5) (by simp)
    have y6 := HB66.out.cellAt (i := 6) (by simp)
    simp at y0 y1 y2 y3 y4 y5 y6
    have lz : w.heap.size + 1 + 1 < w6.heap.size := Bz.lt
    go_wp2_with fail
    obtain ⟨b6', k6⟩ := store7 Bz (.int .i64 Hh1) (.slice A01 n01 c01) (.slice A11 n11 c11) (.slice A21 n21 c21) (.slice A31 n31 c31) (.int .i64 m.d) (.slice A41 n41 c41)
    have hO6 := HO6.out.out k6 (by omega)
    have hE6 := k6.ext (HE.out.trans HE6.out) (by omega)
    generalize (((((((w6.setCell ⟨w.heap.size + 1 + 1, 0, none⟩ (.int .i64 Hh1)).setCell ⟨w.heap.size + 1 + 1, 1, none⟩ (.slice A01 n01 c01)).setCell ⟨w.heap.size + 1 + 1, 2, none⟩ (.slice A11 n11 c11)).setCell ⟨w.heap.size + 1 + 1, 3, none⟩ (.slice A21 n21 c21)).setCell ⟨w.heap.size + 1 + 1, 4, none⟩ (.slice A31 n31 c31)).setCell ⟨w.heap.size + 1 + 1, 5, none⟩ (.int .i64 m.d)).setCell ⟨w.heap.size + 1 + 1, 6, none⟩ (.slice A41 n41 c41)) = w9 at b6' k6 hO6 hE6 ⊢
    have t0 := b6'.cellAt (i := 0) (by simp)
    have t1 := b6'.cellAt (i := 1) (by simp)
    have t2 := b6'.cellAt (i := 2) (by simp)
    have t3 := b6'.cellAt (i := 3) (by simp)
    have t4 := b6'.cellAt (i := 4) (by simp)
    have t5 := b6'.cellAt (i := 5) (by simp)
    have t6 := b6'.cellAt (i := 6) (by simp)
    simp at t0 t1 t2 t3 t4 t5 t6
    refine bodyPost_ret (v := .tuple #[MV.val ⟨Hh1, ⟨A01, n01, c01⟩, ⟨A11, n11, c11⟩, ⟨A21, n21, c21⟩, ⟨A31, n31, c31⟩, m.d, ⟨A41, n41, c41⟩⟩, .bool false]) (by simp [results, Tryz.results19, go_sem, t0, t1, t2, t3, t4, t5, t6, MV.val, MV.cells]) rfl ?_
    exact ⟨_, (by rw [HF.out]), hE6, by rw [HM.out]; exact hO6.weak (by omega)⟩
  cases ab
  case false =>
    have HF : Hid (nightB m x = false) := Lib.hid (HN.out.trans (by simp))
    have HM : Hid (nightM m x = m) := Lib.hid (by rw [nightM, HF.out]; rfl)
    have Bz := Blk.keep HBz.out HE6.out
    have x0 := Bz.cellAt (i := 0) (by simp)
    have x1 := Bz.cellAt (i := 1) (by simp)
    have x2 := Bz.cellAt (i := 2) (by simp)
    have x3 := Bz.cellAt (i := 3) (by simp)
    have x4 := Bz.cellAt (i := 4) (by simp)
    have x5 := Bz.cellAt (i := 5) (by simp)
    have x6 := Bz.cellAt (i := 6) (by simp)
    have fz := Bz.free
    simp at x0 x1 x2 x3 x4 x5 x6
    have y0 := HB66.out.cellAt (i := 0) (by simp)
    have y1 := HB66.out.cellAt (i := 1) (by simp)
    have y2 := HB66.out.cellAt (i := 2) (by simp)
    have y3 := HB66.out.cellAt (i := 3) (by simp)
    have y4 := HB66.out.cellAt (i := 4) (by simp)
    have y5 := HB66.out.cellAt (i := 5) (by simp)
    have y6 := HB66.out.cellAt (i := 6) (by simp)
    simp at y0 y1 y2 y3 y4 y5 y6
    have lz : w.heap.size + 1 + 1 < w6.heap.size := Bz.lt
    go_wp2_with fail
    obtain ⟨b6', k6⟩ := store7 Bz (.int .i64 Hh1) (.slice A01 n01 c01) (.slice A11 n11 c11) (.slice A21 n21 c21) (.slice A31 n31 c31) (.int .i64 m.d) (.slice A41 n41 c41)
    have hO6 := HO6.out.out k6 (by omega)
    have hE6 := k6.ext (HE.out.trans HE6.out) (by omega)
    generalize (((((((w6.setCell ⟨w.heap.size + 1 + 1, 0, none⟩ (.int .i64 Hh1)).setCell ⟨w.heap.size + 1 + 1, 1, none⟩ (.slice A01 n01 c01)).setCell ⟨w.heap.size + 1 + 1, 2, none⟩ (.slice A11 n11 c11)).setCell ⟨w.heap.size + 1 + 1, 3, none⟩ (.slice A21 n21 c21)).setCell ⟨w.heap.size + 1 + 1, 4, none⟩ (.slice A31 n31 c31)).setCell ⟨w.heap.size + 1 + 1, 5, none⟩ (.int .i64 m.d)).setCell ⟨w.heap.size + 1 + 1, 6, none⟩ (.slice A41 n41 c41)) = w9 at b6' k6 hO6 hE6 ⊢
    have t0 := b6'.cellAt (i := 0) (by simp)
    have t1 := b6'.cellAt (i := 1) (by simp)
    have t2 := b6'.cellAt (i := 2) (by simp)
    have t3 := b6'.cellAt (i := 3) (by simp)
    have t4 := b6'.cellAt (i := 4) (by simp)
    have t5 := b6'.cellAt (i := 5) (by simp)
    have t6 := b6'.cellAt (i := 6) (by simp)
    simp at t0 t1 t2 t3 t4 t5 t6
    refine bodyPost_ret (v := .tuple #[MV.val ⟨Hh1, ⟨A01, n01, c01⟩, ⟨A11, n11, c11⟩, ⟨A21, n21, c21⟩, ⟨A31, n31, c31⟩, m.d, ⟨A41, n41, c41⟩⟩, .bool false]) (by simp [results, Tryz.results19, go_sem, t0, t1, t2, t3, t4, t5, t6, MV.val, MV.cells]) rfl ?_
    exact ⟨_, (by rw [HF.out]), hE6, by rw [HM.out]; exact hO6.weak (by omega)⟩
  case true =>
    have HF : Hid (nightB m x = true) := Lib.hid (HN.out.trans (by simp))
    have HM : Hid (nightM m x = { m with ps := PL, rs := AL }) := Lib.hid (by rw [nightM, if_pos HF.out, HPL.out, HAL.out, moveL, appL, ← HCB.out, ← HAB.out]; rfl)
    have y3 := HB66.out.cellAt (i := 3) (by simp)
    have y6 := HB66.out.cellAt (i := 6) (by simp)
    have f6 := HB66.out.free
    have l6 := HB66.out.lt
    simp at y3 y6
    go_upto_region 10 with fail
    have hk := KeptOut.of_grown (lo := w1.heap.size) (hi := w1.heap.size + 1) (grown_set (grown_set (grown_refl w6 (some w1.heap.size)) 3 (.slice Ap PL.length cp)) 6 (.slice Aa AL.length ca)) (fun k hk => by injection hk with hk; omega)
    have hb7 := (HB66.out.set 3 (.slice Ap PL.length cp)).set 6 (.slice Aa AL.length ca)
    simp only [List.setIfInBounds_toArray, List.set_cons_succ, List.set_cons_zero] at hb7
    have ho7 := HO6.out.below hk HAT.out
    have hp7 := hk.own HP6.out (fun g hg => by have := HAP.out g hg; omega)
    have ha7 := hk.own HA6.out (fun g hg => by have := HAA.out g hg; omega)
    have he7 := hk.ext HE6.out hz2
    generalize (w6.setCell ⟨w1.heap.size, 3, none⟩ (.slice Ap PL.length cp)).setCell ⟨w1.heap.size, 6, none⟩ (.slice Aa AL.length ca) = w7 at hk hb7 ho7 hp7 ha7 he7 ⊢
    have HB7 := Lib.hid hb7
    have HO7 := Lib.hid (ho7.repl HAT.out hp7 HAP.out ha7 HAA.out (by omega) (by omega) (by omega))
    have HE7 := Lib.hid he7
    clear hk hb7 ho7 hp7 ha7 he7 y3 y6 f6 l6
    have Bz := Blk.keep HBz.out HE7.out
    have x0 := Bz.cellAt (i := 0) (by simp)
    have x1 := Bz.cellAt (i := 1) (by simp)
    have x2 := Bz.cellAt (i := 2) (by simp)
    have x3 := Bz.cellAt (i := 3) (by simp)
    have x4 := Bz.cellAt (i := 4) (by simp)
    have x5 := Bz.cellAt (i := 5) (by simp)
    have x6 := Bz.cellAt (i := 6) (by simp)
    have fz := Bz.free
    simp at x0 x1 x2 x3 x4 x5 x6
    have y0 := HB7.out.cellAt (i := 0) (by simp)
    have y1 := HB7.out.cellAt (i := 1) (by simp)
    have y2 := HB7.out.cellAt (i := 2) (by simp)
    have y3 := HB7.out.cellAt (i := 3) (by simp)
    have y4 := HB7.out.cellAt (i := 4) (by simp)
    have y5 := HB7.out.cellAt (i := 5) (by simp)
    have y6 := HB7.out.cellAt (i := 6) (by simp)
    simp at y0 y1 y2 y3 y4 y5 y6
    have lz : w.heap.size + 1 + 1 < w7.heap.size := Bz.lt
    go_wp2_with fail
    obtain ⟨b6', k6⟩ := store7 Bz (.int .i64 Hh1) (.slice A01 n01 c01) (.slice A11 n11 c11) (.slice Ap PL.length cp) (.slice A31 n31 c31) (.int .i64 m.d) (.slice Aa AL.length ca)
    have hO6 := HO7.out.out k6 (by omega)
    have hE6 := k6.ext (HE.out.trans HE7.out) (by omega)
    generalize (((((((w7.setCell ⟨w.heap.size + 1 + 1, 0, none⟩ (.int .i64 Hh1)).setCell ⟨w.heap.size + 1 + 1, 1, none⟩ (.slice A01 n01 c01)).setCell ⟨w.heap.size + 1 + 1, 2, none⟩ (.slice A11 n11 c11)).setCell ⟨w.heap.size + 1 + 1, 3, none⟩ (.slice Ap PL.length cp)).setCell ⟨w.heap.size + 1 + 1, 4, none⟩ (.slice A31 n31 c31)).setCell ⟨w.heap.size + 1 + 1, 5, none⟩ (.int .i64 m.d)).setCell ⟨w.heap.size + 1 + 1, 6, none⟩ (.slice Aa AL.length ca)) = w9 at b6' k6 hO6 hE6 ⊢
    have t0 := b6'.cellAt (i := 0) (by simp)
    have t1 := b6'.cellAt (i := 1) (by simp)
    have t2 := b6'.cellAt (i := 2) (by simp)
    have t3 := b6'.cellAt (i := 3) (by simp)
    have t4 := b6'.cellAt (i := 4) (by simp)
    have t5 := b6'.cellAt (i := 5) (by simp)
    have t6 := b6'.cellAt (i := 6) (by simp)
    simp at t0 t1 t2 t3 t4 t5 t6
    refine bodyPost_ret (v := .tuple #[MV.val ⟨Hh1, ⟨A01, n01, c01⟩, ⟨A11, n11, c11⟩, ⟨Ap, PL.length, cp⟩, ⟨A31, n31, c31⟩, m.d, ⟨Aa, AL.length, ca⟩⟩, .bool true]) (by simp [results, Tryz.results19, go_sem, t0, t1, t2, t3, t4, t5, t6, MV.val, MV.cells]) rfl ?_
    exact ⟨_, (by rw [HF.out]), hE6, by rw [HM.out]; exact hO6.weak (by omega)⟩
end Go.Proofs.YtfmifllcbbfpoaaGreatDoor
/- Contract of the reference's NightMove; no condition but what stands at each theorem. -/
namespace Go.Proofs.YtfmifllcbbfpoaaGreatDoor
set_option linter.unusedSimpArgs false
set_option linter.unusedVariables false
open Go.RowKit Go.Sort
set_option maxRecDepth 100000 in
set_option maxHeartbeats 4000000 in
theorem spec_NightMove (v : MV) (m : GMuseum) (x : GMove) (w : World) (hx : MRd w v m) (hf : MFit v) : Calls Tryz.prog 48 #[v.val, .agg #[.int .i64 x.o, .int .i64 x.t, .int .i64 x.f, .int .i64 x.s]] w (MPost (nightM m x) (.bool (nightB m x)) w) := by
  obtain ⟨wb, hwb⟩ : ∃ wb, wb = w.alloc (.cells v.cells 30) := ⟨_, rfl⟩
  have hbx := MBox.new hwb
  have hE : Ext w wb := by rw [hwb]; exact (Ext.refl w).alloc _
  obtain ⟨wm, hwm⟩ : ∃ wm, wm = wb.alloc (.cells #[.int .i64 x.o, .int .i64 x.t, .int .i64 x.f, .int .i64 x.s] 46) := ⟨_, rfl⟩
  have hEm : Ext wb wm := by rw [hwm]; exact (Ext.refl wb).alloc _
  obtain ⟨wz, hwz⟩ : ∃ wz, wz = wm.alloc (.cells #[.int .i64 0, .slice none 0 0, .slice none 0 0, .slice none 0 0, .slice none 0 0, .int .i64 0, .slice none 0 0] 30) := ⟨_, rfl⟩
  have hEz : Ext wm wz := by rw [hwz]; exact (Ext.refl wm).alloc _
  have hsb : wb.heap.size = w.heap.size + 1 := by rw [hwb]; simp
  have hsm : wm.heap.size = w.heap.size + 1 + 1 := by rw [hwm]; simp [hsb]
  have hsz : wz.heap.size = w.heap.size + 1 + 1 + 1 := by rw [hwz]; simp [hsm]
  have HBz : Hid (Blk wz (w.heap.size + 1 + 1) 30 #[.int .i64 0, .slice none 0 0, .slice none 0 0, .slice none 0 0, .slice none 0 0, .int .i64 0, .slice none 0 0]) := Lib.hid (by rw [hwz, ← hsm]; exact Blk.new _ _ _)
  have HBm : Hid (Blk wz (w.heap.size + 1) 46 #[.int .i64 x.o, .int .i64 x.t, .int .i64 x.f, .int .i64 x.s]) := Lib.hid (by refine Blk.keep ?_ hEz; rw [hwm, ← hsb]; exact Blk.new _ _ _)
  have hE2 := hEm.trans hEz
  have HX := Lib.hid (hx.keep (hE.trans hE2))
  have HB := Lib.hid (hbx.keep hE2)
  have HE := Lib.hid (hE.trans hE2)
  have cC := Lib.hid (spec_l38Copy v m wz HX.out hf)
  have cM := Lib.hid (fun W (he : Ext wz W) => spec_MuseumOk v m W (HX.out.keep he))
  obtain ⟨Hh, ⟨A0, n0, c0⟩, ⟨A1, n1, c1⟩, ⟨A2, n2, c2⟩, ⟨A3, n3, c3⟩, day, ⟨A4, n4, c4⟩⟩ := v
  have hH : Hh = m.H := hx.eH
  subst hH
  have Hwz : Hid (wz = ((w.alloc (.cells #[.int .i64 m.H, .slice A0 n0 c0, .slice A1 n1 c1, .slice A2 n2 c2, .slice A3 n3 c3, .int .i64 m.d, .slice A4 n4 c4] 30)).alloc (.cells #[.int .i64 x.o, .int .i64 x.t, .int .i64 x.f, .int .i64 x.s] 46)).alloc (.cells #[.int .i64 0, .slice none 0 0, .slice none 0 0, .slice none 0 0, .slice none 0 0, .int .i64 0, .slice none 0 0] 30)) := Lib.hid (by rw [hwz, hwm, hwb, ← hx.ed]; rfl)
  have hday : day = m.d := hx.ed
  subst hday
  obtain ⟨cb, hcb⟩ : ∃ cb, cb = canMoveB m.H m.ds m.ps m.gs x := ⟨_, rfl⟩
  obtain ⟨PL, hPL⟩ : ∃ PL, PL = moveL m.H m.ds m.ps m.gs x := ⟨_, rfl⟩
  obtain ⟨ab, hab⟩ : ∃ ab, ab = appB m.rs m.d (moveT x) := ⟨_, rfl⟩
  obtain ⟨AL, hAL⟩ : ∃ AL, AL = appL m.rs m.d (moveT x) (moveT_h x) := ⟨_, rfl⟩
  have CM : Hid (∀ W, Ext wz W → Calls Tryz.prog 45 #[.agg #[.int .i64 m.H, .slice A0 n0 c0, .slice A1 n1 c1, .slice A2 n2 c2, .slice A3 n3 c3, .int .i64 m.d, .slice A4 n4 c4]] W fun e w' => e = .returned (.bool (museumB m)) ∧ Ext W w') := cM
  have CO : Hid (∀ W, Ext wz W → Calls Tryz.prog 91 #[.agg #[.int .i64 m.H, .slice A0 n0 c0], .slice A2 n2 c2, .slice A3 n3 c3, .agg #[.int .i64 x.o, .int .i64 x.t, .int .i64 x.f, .int .i64 x.s]] W fun e w' => ∃ v, e = .returned (.tuple #[v, .bool cb]) ∧ Ext W w' ∧ w'.ownsRow W.heap.size 3 1 v PL.length (PL.flatMap ienc)) := Lib.hid fun W he => by
    rw [hcb, hPL]
    exact spec_MoveObject m.H A0 n0 c0 m.ds A2 n2 c2 m.ps A3 n3 c3 m.gs x W (HX.out.rd.keep he) (HX.out.rp.keep he) (HX.out.rg.keep he) (Lib.hid hf.zp) hf.np
  have CA : Hid (∀ W, Ext wz W → Calls Tryz.prog 92 #[.slice A4 n4 c4, .int .i64 m.d, .string (moveT x)] W fun e w' => ∃ v, e = .returned (.tuple #[v, .bool ab]) ∧ Ext W w' ∧ w'.ownsRow W.heap.size 43 3 v AL.length (AL.flatMap GEntry.enc)) := Lib.hid fun W he => by
    rw [hab, hAL]
    exact spec_AppendEntry A4 n4 c4 m.rs m.d (moveT x) W (HX.out.rr.keep he) (Lib.hid hf.zr) hf.nr (moveT_h x)
  have CT := Lib.hid (fun W => spec_MoveText x W)
  obtain ⟨T, hT⟩ : ∃ T, T = moveT x := ⟨_, rfl⟩
  rw [← hT] at CA CT
  have HCB := Lib.hid hcb
  have HPL := Lib.hid hPL
  have HAB := Lib.hid hab
  have HAL := Lib.hid hAL
  have hzl : w.heap.size + 1 + 1 < wz.heap.size := by omega
  clear hwb hwz hwm hbx hE hEz hEm hE2 hx hf hsb hsz hsm hcb hPL hab hAL hT cM
  show Calls Tryz.prog 48 #[.agg #[.int .i64 m.H, .slice A0 n0 c0, .slice A1 n1 c1, .slice A2 n2 c2, .slice A3 n3 c3, .int .i64 m.d, .slice A4 n4 c4], .agg #[.int .i64 x.o, .int .i64 x.t, .int .i64 x.f, .int .i64 x.s]] w _
  obtain ⟨b0, b1, b2, b3, b4, b5, b6⟩ := HB.out.cell
  simp only at b0 b1 b2 b3 b4 b5 b6
  have Hb0 := Lib.hid b0
  rw [Hwz.out] at b0 b1 b2 b3 b4 b5 b6
  go_enter Tryz.func48, Tryz.ntmps48
  go_wp2_with (go_at_call 44; refine (fun h : Hid _ => h.out) ?_)
  unfold Hid
  rw [← Hwz.out]
  refine cC.out.mono ?_
  rintro e w1 ⟨v1, hev, he1, ho1⟩
  obtain ⟨Hh1, ⟨A01, n01, c01⟩, ⟨A11, n11, c11⟩, ⟨A21, n21, c21⟩, ⟨A31, n31, c31⟩, day1, ⟨A41, n41, c41⟩⟩ := v1
  simp only [MV.val, MV.cells] at hev
  subst hev
  have hd1 : day1 = m.d := ho1.ed
  subst hd1
  obtain ⟨w2, hw2⟩ : ∃ w2, w2 = w1.alloc (.cells #[.int .i64 Hh1, .slice A01 n01 c01, .slice A11 n11 c11, .slice A21 n21 c21, .slice A31 n31 c31, .int .i64 m.d, .slice A41 n41 c41] 30) := ⟨_, rfl⟩
  have hB6 : Blk w2 w1.heap.size 30 #[.int .i64 Hh1, .slice A01 n01 c01, .slice A11 n11 c11, .slice A21 n21 c21, .slice A31 n31 c31, .int .i64 m.d, .slice A41 n41 c41] := by rw [hw2]; exact Blk.new _ _ _
  have he2 : Ext w1 w2 := by rw [hw2]; exact (Ext.refl _).alloc _
  have HB6 := Lib.hid hB6
  have HAT := Lib.hid (MAt.of_own ho1)
  have HO2 := Lib.hid (ho1.keep he2)
  have HE2 := Lib.hid (he1.trans he2)
  have HW2 := Lib.hid hw2
  have hz2 : wz.heap.size ≤ w1.heap.size := he1.size
  have hs2 : w2.heap.size = w1.heap.size + 1 := by rw [hw2]; simp
  clear hB6 he2 ho1 he1 hw2 b0 b1 b2 b3 b4 b5 b6 cC
  obtain ⟨b0, b1, b2, b3, b4, b5, b6⟩ := (HB.out.keep HE2.out).cell
  simp only at b0 b1 b2 b3 b4 b5 b6
  rw [HW2.out] at b0 b1 b2 b3 b4 b5 b6
  go_wp2_with (go_at_call 45; refine (fun h : Hid _ => h.out) ?_)
  unfold Hid
  rw [← HW2.out]
  refine (CM.out w2 HE2.out).mono ?_
  rintro e w3 ⟨rfl, he3⟩
  have HE3 := Lib.hid (HE2.out.trans he3)
  have HO3 := Lib.hid (HO2.out.keep he3)
  have HB63 := Lib.hid (HB6.out.keep he3)
  have hz3 : w2.heap.size ≤ w3.heap.size := he3.size
  clear he3 b0 b1 b2 b3 b4 b5 b6
  cases hm : museumB m
  case false =>
    have HF : Hid (nightB m x = false) := Lib.hid (by simp [nightB, hm])
    have HM : Hid (nightM m x = m) := Lib.hid (by rw [nightM, HF.out]; rfl)
    clear hm

    have Bz := Blk.keep HBz.out HE3.out
    have x0 := Bz.cellAt (i := 0) (by simp)
    have x1 := Bz.cellAt (i := 1) (by simp)
    have x2 := Bz.cellAt (i := 2) (by simp)
    have x3 := Bz.cellAt (i := 3) (by simp)
    have x4 := Bz.cellAt (i := 4) (by simp)
    have x5 := Bz.cellAt (i := 5) (by simp)
    have x6 := Bz.cellAt (i := 6) (by simp)
    have fz := Bz.free
    simp at x0 x1 x2 x3 x4 x5 x6
    have y0 := HB63.out.cellAt (i := 0) (by simp)
    have y1 := HB63.out.cellAt (i := 1) (by simp)
    have y2 := HB63.out.cellAt (i := 2) (by simp)
    have y3 := HB63.out.cellAt (i := 3) (by simp)
    have y4 := HB63.out.cellAt (i := 4) (by simp)
    have y5 := HB63.out.cellAt (i := 5) (by simp)
    have y6 := HB63.out.cellAt (i := 6) (by simp)
    simp at y0 y1 y2 y3 y4 y5 y6
    have lz : w.heap.size + 1 + 1 < w3.heap.size := Bz.lt
    go_wp2_with fail
    obtain ⟨b6', k6⟩ := store7 Bz (.int .i64 Hh1) (.slice A01 n01 c01) (.slice A11 n11 c11) (.slice A21 n21 c21) (.slice A31 n31 c31) (.int .i64 m.d) (.slice A41 n41 c41)
    have hO6 := HO3.out.out k6 (by omega)
    have hE6 := k6.ext (HE.out.trans HE3.out) (by omega)
    generalize (((((((w3.setCell ⟨w.heap.size + 1 + 1, 0, none⟩ (.int .i64 Hh1)).setCell ⟨w.heap.size + 1 + 1, 1, none⟩ (.slice A01 n01 c01)).setCell ⟨w.heap.size + 1 + 1, 2, none⟩ (.slice A11 n11 c11)).setCell ⟨w.heap.size + 1 + 1, 3, none⟩ (.slice A21 n21 c21)).setCell ⟨w.heap.size + 1 + 1, 4, none⟩ (.slice A31 n31 c31)).setCell ⟨w.heap.size + 1 + 1, 5, none⟩ (.int .i64 m.d)).setCell ⟨w.heap.size + 1 + 1, 6, none⟩ (.slice A41 n41 c41)) = w9 at b6' k6 hO6 hE6 ⊢
    have t0 := b6'.cellAt (i := 0) (by simp)
    have t1 := b6'.cellAt (i := 1) (by simp)
    have t2 := b6'.cellAt (i := 2) (by simp)
    have t3 := b6'.cellAt (i := 3) (by simp)
    have t4 := b6'.cellAt (i := 4) (by simp)
    have t5 := b6'.cellAt (i := 5) (by simp)
    have t6 := b6'.cellAt (i := 6) (by simp)
    simp at t0 t1 t2 t3 t4 t5 t6
    refine bodyPost_ret (v := .tuple #[MV.val ⟨Hh1, ⟨A01, n01, c01⟩, ⟨A11, n11, c11⟩, ⟨A21, n21, c21⟩, ⟨A31, n31, c31⟩, m.d, ⟨A41, n41, c41⟩⟩, .bool false]) (by simp [results, Tryz.results48, go_sem, t0, t1, t2, t3, t4, t5, t6, MV.val, MV.cells]) rfl ?_
    exact ⟨_, (by rw [HF.out]), hE6, by rw [HM.out]; exact hO6.weak (by omega)⟩

  have HN : Hid (nightB m x = (cb && ab)) := Lib.hid (by rw [nightB, hm, HCB.out, HAB.out]; rfl)
  clear hm
  obtain ⟨b0, b1, b2, b3, b4, b5, b6⟩ := (HB.out.keep HE3.out).cell
  have hbm := HBm.out.keep HE3.out
  have q0 := hbm.cellAt (i := 0) (by simp)
  have q1 := hbm.cellAt (i := 1) (by simp)
  have q2 := hbm.cellAt (i := 2) (by simp)
  have q3 := hbm.cellAt (i := 3) (by simp)
  simp only at b0 b1 b2 b3 b4 b5 b6
  simp at q0 q1 q2 q3
  go_wp2_with (go_at_call 91; refine (fun h : Hid _ => h.out) ?_)
  unfold Hid
  refine (CO.out w3 HE3.out).mono ?_
  rintro e w4 ⟨vp, rfl, he4, hop⟩
  obtain ⟨Ap, cp, rfl, -⟩ := own_form hop
  have HE4 := Lib.hid (HE3.out.trans he4)
  have HO4 := Lib.hid (HO3.out.keep he4)
  have HB64 := Lib.hid (HB63.out.keep he4)
  have HP4 := Lib.hid hop
  have HAP := Lib.hid (At.of_own hop)
  have hz4 : w3.heap.size ≤ w4.heap.size := he4.size
  clear he4 hop hbm b0 b1 b2 b3 b4 b5 b6 q0 q1 q2 q3
  obtain ⟨-, -, -, -, -, r5, r6⟩ := (HB.out.keep HE4.out).cell
  simp only at r5 r6
  have rm := HBm.out.keep HE4.out
  have rx0 := rm.cellAt (i := 0) (by simp)
  have rx1 := rm.cellAt (i := 1) (by simp)
  have rx2 := rm.cellAt (i := 2) (by simp)
  have rx3 := rm.cellAt (i := 3) (by simp)
  simp at rx0 rx1 rx2 rx3
  go_wp2_with fail
  go_region_held3 (fun w' => w'.cell? ⟨w.heap.size, 5, none⟩ = some (.int .i64 m.d) ∧ w'.cell? ⟨w.heap.size, 6, none⟩ = some (.slice A4 n4 c4) ∧ w'.cell? ⟨w.heap.size + 1, 0, none⟩ = some (.int .i64 x.o) ∧ w'.cell? ⟨w.heap.size + 1, 1, none⟩ = some (.int .i64 x.t) ∧ w'.cell? ⟨w.heap.size + 1, 2, none⟩ = some (.int .i64 x.f) ∧ w'.cell? ⟨w.heap.size + 1, 3, none⟩ = some (.int .i64 x.s)) (go_keep) (first
    | (go_at_call 93; refine (CT.out _).mono ?_; rintro e w5 ⟨rfl, h5⟩; obtain ⟨-, -, -, -, -, s5, s6⟩ := (HB.out.keep (HE4.out.trans (Ext.trans ((Ext.refl _).drewN 1) h5))).cell; simp only at s5 s6; have sm := HBm.out.keep (HE4.out.trans (Ext.trans ((Ext.refl _).drewN 1) h5)); have sx0 := sm.cellAt (i := 0) (by simp); have sx1 := sm.cellAt (i := 1) (by simp); have sx2 := sm.cellAt (i := 2) (by simp); have sx3 := sm.cellAt (i := 3) (by simp); simp at sx0 sx1 sx2 sx3)
    | (go_at_call 92; refine (CA.out _ (HE4.out.trans (Ext.trans ((Ext.refl _).drewN 1) h5))).mono ?_; rintro e w6 ⟨va, rfl, h6, oa⟩; obtain ⟨-, -, -, -, -, u5, u6⟩ := (HB.out.keep (HE4.out.trans ((Ext.trans ((Ext.refl _).drewN 1) h5).trans h6))).cell; simp only at u5 u6; have um := HBm.out.keep (HE4.out.trans ((Ext.trans ((Ext.refl _).drewN 1) h5).trans h6)); have ux0 := um.cellAt (i := 0) (by simp); have ux1 := um.cellAt (i := 1) (by simp); have ux2 := um.cellAt (i := 2) (by simp); have ux3 := um.cellAt (i := 3) (by simp); simp at ux0 ux1 ux2 ux3))
  obtain ⟨Aa, ca, rfl, -⟩ := own_form oa
  have h45 : Ext w4 w5 := Ext.trans ((Ext.refl _).drewN 1) h5
  have hz5 : w4.heap.size ≤ w5.heap.size := h45.size
  have hz6 : w5.heap.size ≤ w6.heap.size := h6.size
  have h46 := h45.trans h6
  have HE6 := Lib.hid (HE4.out.trans h46)
  have HO6 := Lib.hid (HO4.out.keep h46)
  have HB66 := Lib.hid (HB64.out.keep h46)
  have HP6 := Lib.hid (own_keep HP4.out h46)
  have HA6 := Lib.hid oa
  have HAA := Lib.hid (At.of_own oa)
  clear h5 h6 h45 h46 oa
  cases cb
  case false =>
    have HF : Hid (nightB m x = false) := Lib.hid (HN.out.trans (by simp))
    have HM : Hid (nightM m x = m) := Lib.hid (by rw [nightM, HF.out]; rfl)
    have Bz := Blk.keep HBz.out HE6.out
    have x0 := Bz.cellAt (i := 0) (by simp)
    have x1 := Bz.cellAt (i := 1) (by simp)
    have x2 := Bz.cellAt (i := 2) (by simp)
    have x3 := Bz.cellAt (i := 3) (by simp)
    have x4 := Bz.cellAt (i := 4) (by simp)
    have x5 := Bz.cellAt (i := 5) (by simp)
    have x6 := Bz.cellAt (i := 6) (by simp)
    have fz := Bz.free
    simp at x0 x1 x2 x3 x4 x5 x6
    have y0 := HB66.out.cellAt (i := 0) (by simp)
    have y1 := HB66.out.cellAt (i := 1) (by simp)
    have y2 := HB66.out.cellAt (i := 2) (by simp)
    have y3 := HB66.out.cellAt (i := 3) (by simp)
    have y4 := HB66.out.cellAt (i := 4) (by simp)
    have y5 := HB66.out.cellAt (i := 5) (by simp)
    have y6 := HB66.out.cellAt (i := 6) (by simp)
    simp at y0 y1 y2 y3 y4 y5 y6
    have lz : w.heap.size + 1 + 1 < w6.heap.size := Bz.lt
    go_wp2_with fail
    obtain ⟨b6', k6⟩ := store7 Bz (.int .i64 Hh1) (.slice A01 n01 c01) (.slice A11 n11 c11) (.slice A21 n21 c21) (.slice A31 n31 c31) (.int .i64 m.d) (.slice A41 n41 c41)
    have hO6 := HO6.out.out k6 (by omega)
    have hE6 := k6.ext (HE.out.trans HE6.out) (by omega)
    generalize (((((((w6.setCell ⟨w.heap.size + 1 + 1, 0, none⟩ (.int .i64 Hh1)).setCell ⟨w.heap.size + 1 + 1, 1, none⟩ (.slice A01 n01 c01)).setCell ⟨w.heap.size + 1 + 1, 2, none⟩ (.slice A11 n11 c11)).setCell ⟨w.heap.size + 1 + 1, 3, none⟩ (.slice A21 n21 c21)).setCell ⟨w.heap.size + 1 + 1, 4, none⟩ (.slice A31 n31 c31)).setCell ⟨w.heap.size + 1 + 1, 5, none⟩ (.int .i64 m.d)).setCell ⟨w.heap.size + 1 + 1, 6, none⟩ (.slice A41 n41 c41)) = w9 at b6' k6 hO6 hE6 ⊢
    have t0 := b6'.cellAt (i := 0) (by simp)
    have t1 := b6'.cellAt (i := 1) (by simp)
    have t2 := b6'.cellAt (i := 2) (by simp)
    have t3 := b6'.cellAt (i := 3) (by simp)
    have t4 := b6'.cellAt (i := 4) (by simp)
    have t5 := b6'.cellAt (i := 5) (by simp)
    have t6 := b6'.cellAt (i := 6) (by simp)
    simp at t0 t1 t2 t3 t4 t5 t6
    refine bodyPost_ret (v := .tuple #[MV.val ⟨Hh1, ⟨A01, n01, c01⟩, ⟨A11, n11, c11⟩, ⟨A21, n21, c21⟩, ⟨A31, n31, c31⟩, m.d, ⟨A41, n41, c41⟩⟩, .bool false]) (by simp [results, Tryz.results48, go_sem, t0, t1, t2, t3, t4, t5, t6, MV.val, MV.cells]) rfl ?_
    exact ⟨_, (by rw [HF.out]), hE6, by rw [HM.out]; exact hO6.weak (by omega)⟩
  cases ab
  case false =>
    have HF : Hid (nightB m x = false) := Lib.hid (HN.out.trans (by simp))
    have HM : Hid (nightM m x = m) := Lib.hid (by rw [nightM, HF.out]; rfl)
    have Bz := Blk.keep HBz.out HE6.out
    have x0 := Bz.cellAt (i := 0) (by simp)
    have x1 := Bz.cellAt (i := 1) (by simp)
    have x2 := Bz.cellAt (i := 2) (by simp)
    have x3 := Bz.cellAt (i := 3) (by simp)
    have x4 := Bz.cellAt (i := 4) (by simp)
    have x5 := Bz.cellAt (i := 5) (by simp)
    have x6 := Bz.cellAt (i := 6) (by simp)
    have fz := Bz.free
    simp at x0 x1 x2 x3 x4 x5 x6
    have y0 := HB66.out.cellAt (i := 0) (by simp)
    have y1 := HB66.out.cellAt (i := 1) (by simp)
    have y2 := HB66.out.cellAt (i := 2) (by simp)
    have y3 := HB66.out.cellAt (i := 3) (by simp)
    have y4 := HB66.out.cellAt (i := 4) (by simp)
    have y5 := HB66.out.cellAt (i := 5) (by simp)
    have y6 := HB66.out.cellAt (i := 6) (by simp)
    simp at y0 y1 y2 y3 y4 y5 y6
    have lz : w.heap.size + 1 + 1 < w6.heap.size := Bz.lt
    go_wp2_with fail
    obtain ⟨b6', k6⟩ := store7 Bz (.int .i64 Hh1) (.slice A01 n01 c01) (.slice A11 n11 c11) (.slice A21 n21 c21) (.slice A31 n31 c31) (.int .i64 m.d) (.slice A41 n41 c41)
    have hO6 := HO6.out.out k6 (by omega)
    have hE6 := k6.ext (HE.out.trans HE6.out) (by omega)
    generalize (((((((w6.setCell ⟨w.heap.size + 1 + 1, 0, none⟩ (.int .i64 Hh1)).setCell ⟨w.heap.size + 1 + 1, 1, none⟩ (.slice A01 n01 c01)).setCell ⟨w.heap.size + 1 + 1, 2, none⟩ (.slice A11 n11 c11)).setCell ⟨w.heap.size + 1 + 1, 3, none⟩ (.slice A21 n21 c21)).setCell ⟨w.heap.size + 1 + 1, 4, none⟩ (.slice A31 n31 c31)).setCell ⟨w.heap.size + 1 + 1, 5, none⟩ (.int .i64 m.d)).setCell ⟨w.heap.size + 1 + 1, 6, none⟩ (.slice A41 n41 c41)) = w9 at b6' k6 hO6 hE6 ⊢
    have t0 := b6'.cellAt (i := 0) (by simp)
    have t1 := b6'.cellAt (i := 1) (by simp)
    have t2 := b6'.cellAt (i := 2) (by simp)
    have t3 := b6'.cellAt (i := 3) (by simp)
    have t4 := b6'.cellAt (i := 4) (by simp)
    have t5 := b6'.cellAt (i := 5) (by simp)
    have t6 := b6'.cellAt (i := 6) (by simp)
    simp at t0 t1 t2 t3 t4 t5 t6
    refine bodyPost_ret (v := .tuple #[MV.val ⟨Hh1, ⟨A01, n01, c01⟩, ⟨A11, n11, c11⟩, ⟨A21, n21, c21⟩, ⟨A31, n31, c31⟩, m.d, ⟨A41, n41, c41⟩⟩, .bool false]) (by simp [results, Tryz.results48, go_sem, t0, t1, t2, t3, t4, t5, t6, MV.val, MV.cells]) rfl ?_
    exact ⟨_, (by rw [HF.out]), hE6, by rw [HM.out]; exact hO6.weak (by omega)⟩
  case true =>
    have HF : Hid (nightB m x = true) := Lib.hid (HN.out.trans (by simp))
    have HM : Hid (nightM m x = { m with ps := PL, rs := AL }) := Lib.hid (by rw [nightM, if_pos HF.out, HPL.out, HAL.out, moveL, appL, ← HCB.out, ← HAB.out]; rfl)
    have y3 := HB66.out.cellAt (i := 3) (by simp)
    have y6 := HB66.out.cellAt (i := 6) (by simp)
    have f6 := HB66.out.free
    have l6 := HB66.out.lt
    simp at y3 y6
    go_upto_region 10 with fail
    have hk := KeptOut.of_grown (lo := w1.heap.size) (hi := w1.heap.size + 1) (grown_set (grown_set (grown_refl w6 (some w1.heap.size)) 3 (.slice Ap PL.length cp)) 6 (.slice Aa AL.length ca)) (fun k hk => by injection hk with hk; omega)
    have hb7 := (HB66.out.set 3 (.slice Ap PL.length cp)).set 6 (.slice Aa AL.length ca)
    simp only [List.setIfInBounds_toArray, List.set_cons_succ, List.set_cons_zero] at hb7
    have ho7 := HO6.out.below hk HAT.out
    have hp7 := hk.own HP6.out (fun g hg => by have := HAP.out g hg; omega)
    have ha7 := hk.own HA6.out (fun g hg => by have := HAA.out g hg; omega)
    have he7 := hk.ext HE6.out hz2
    generalize (w6.setCell ⟨w1.heap.size, 3, none⟩ (.slice Ap PL.length cp)).setCell ⟨w1.heap.size, 6, none⟩ (.slice Aa AL.length ca) = w7 at hk hb7 ho7 hp7 ha7 he7 ⊢
    have HB7 := Lib.hid hb7
    have HO7 := Lib.hid (ho7.repl HAT.out hp7 HAP.out ha7 HAA.out (by omega) (by omega) (by omega))
    have HE7 := Lib.hid he7
    clear hk hb7 ho7 hp7 ha7 he7 y3 y6 f6 l6
    have Bz := Blk.keep HBz.out HE7.out
    have x0 := Bz.cellAt (i := 0) (by simp)
    have x1 := Bz.cellAt (i := 1) (by simp)
    have x2 := Bz.cellAt (i := 2) (by simp)
    have x3 := Bz.cellAt (i := 3) (by simp)
    have x4 := Bz.cellAt (i := 4) (by simp)
    have x5 := Bz.cellAt (i := 5) (by simp)
    have x6 := Bz.cellAt (i := 6) (by simp)
    have fz := Bz.free
    simp at x0 x1 x2 x3 x4 x5 x6
    have y0 := HB7.out.cellAt (i := 0) (by simp)
    have y1 := HB7.out.cellAt (i := 1) (by simp)
    have y2 := HB7.out.cellAt (i := 2) (by simp)
    have y3 := HB7.out.cellAt (i := 3) (by simp)
    have y4 := HB7.out.cellAt (i := 4) (by simp)
    have y5 := HB7.out.cellAt (i := 5) (by simp)
    have y6 := HB7.out.cellAt (i := 6) (by simp)
    simp at y0 y1 y2 y3 y4 y5 y6
    have lz : w.heap.size + 1 + 1 < w7.heap.size := Bz.lt
    go_wp2_with fail
    obtain ⟨b6', k6⟩ := store7 Bz (.int .i64 Hh1) (.slice A01 n01 c01) (.slice A11 n11 c11) (.slice Ap PL.length cp) (.slice A31 n31 c31) (.int .i64 m.d) (.slice Aa AL.length ca)
    have hO6 := HO7.out.out k6 (by omega)
    have hE6 := k6.ext (HE.out.trans HE7.out) (by omega)
    generalize (((((((w7.setCell ⟨w.heap.size + 1 + 1, 0, none⟩ (.int .i64 Hh1)).setCell ⟨w.heap.size + 1 + 1, 1, none⟩ (.slice A01 n01 c01)).setCell ⟨w.heap.size + 1 + 1, 2, none⟩ (.slice A11 n11 c11)).setCell ⟨w.heap.size + 1 + 1, 3, none⟩ (.slice Ap PL.length cp)).setCell ⟨w.heap.size + 1 + 1, 4, none⟩ (.slice A31 n31 c31)).setCell ⟨w.heap.size + 1 + 1, 5, none⟩ (.int .i64 m.d)).setCell ⟨w.heap.size + 1 + 1, 6, none⟩ (.slice Aa AL.length ca)) = w9 at b6' k6 hO6 hE6 ⊢
    have t0 := b6'.cellAt (i := 0) (by simp)
    have t1 := b6'.cellAt (i := 1) (by simp)
    have t2 := b6'.cellAt (i := 2) (by simp)
    have t3 := b6'.cellAt (i := 3) (by simp)
    have t4 := b6'.cellAt (i := 4) (by simp)
    have t5 := b6'.cellAt (i := 5) (by simp)
    have t6 := b6'.cellAt (i := 6) (by simp)
    simp at t0 t1 t2 t3 t4 t5 t6
    refine bodyPost_ret (v := .tuple #[MV.val ⟨Hh1, ⟨A01, n01, c01⟩, ⟨A11, n11, c11⟩, ⟨Ap, PL.length, cp⟩, ⟨A31, n31, c31⟩, m.d, ⟨Aa, AL.length, ca⟩⟩, .bool true]) (by simp [results, Tryz.results48, go_sem, t0, t1, t2, t3, t4, t5, t6, MV.val, MV.cells]) rfl ?_
    exact ⟨_, (by rw [HF.out]), hE6, by rw [HM.out]; exact hO6.weak (by omega)⟩
end Go.Proofs.YtfmifllcbbfpoaaGreatDoor
/- The drawing of numbers from a code: the cursor's contracts; no condition but what stands at each theorem. -/
namespace Go.Proofs.YtfmifllcbbfpoaaGreatDoor
set_option linter.unusedSimpArgs false
set_option linter.unusedVariables false
open Go.RowKit
def benc (i : Int) : List Value := [.int .u8 i]
theorem benc_len (x : Int) : (benc x).length = 1 := rfl
theorem benc_at {w : World} {A : Option Addr} {n k : Nat} {xs : List Int} (h : Rd w 1 A n (xs.flatMap benc)) (hk : k < n) :
    ∃ (b off : Nat) (x : Int), A = some ⟨b, off, none⟩ ∧ b < w.heap.size ∧ xs[k]? = some x ∧ w.cell? ⟨b, off + k, none⟩ = some (.int .u8 x) :=
  Rd.at1 (p := fun (s : Int) => .int .u8 s) (fun _ => rfl) h hk
theorem and255 (a : Int) : 0 ≤ bits .and .i64 a 255 ∧ bits .and .i64 a 255 ≤ 255 := by
  have h : ((BitVec.ofInt 64 a &&& BitVec.ofInt 64 255).toNat) ≤ 255 := by
    rw [BitVec.toNat_and]
    exact Nat.le_trans Nat.and_le_right (by decide)
  have e : bits .and .i64 a 255 = IntKind.i64.wrap ((BitVec.ofInt 64 a &&& BitVec.ofInt 64 255).toNat : Int) := rfl
  rw [e, IntKind.wrap_i64]
  omega
/-- The cursor at block p, over bytes that were there in world w0. -/
def Cur (w : World) (p : Nat) : Prop := ∃ (A : Option Addr) (n c : Nat) (xs : List Int) (i h : Int), Blk w p 100 #[.slice A n c, .int .i64 i, .int .i64 h] ∧ Rd w 1 A n (xs.flatMap benc) ∧ n ≤ 1048576 ∧ 0 ≤ i ∧ i ≤ n ∧ (∀ x ∈ xs, 0 ≤ x ∧ x ≤ 255) ∧ (0 < n → ∀ b off, A = some ⟨b, off, none⟩ → b < p)
theorem rd_set {w : World} {A : Option Addr} {m n p o : Nat} {xs : List Value} (h : Rd w m A n xs) (hA : 0 < n → ∀ b off, A = some ⟨b, off, none⟩ → b < p) (u : Value) : Rd (w.setCell ⟨p, o, none⟩ u) m A n xs :=
  ⟨h.1, h.2.1, fun hn => by
    obtain ⟨b, off, rfl, hb, hc⟩ := h.2.2 hn
    have hbp := hA hn b off rfl
    refine ⟨b, off, rfl, by simpa [World.setCell] using hb, fun j u' hu => ?_⟩
    rw [World.cell?_setCell_other _ _ _ _ (by intro e; injection e with e1; omega)]
    exact hc j u' hu⟩
theorem rd_grown {w w' : World} {A : Option Addr} {m n p : Nat} {xs : List Value} (h : Rd w m A n xs) (hA : 0 < n → ∀ b off, A = some ⟨b, off, none⟩ → b ≠ p) (g : w.grownBy w' (some p)) : Rd w' m A n xs :=
  ⟨h.1, h.2.1, fun hn => by
    obtain ⟨b, off, rfl, hb, hc⟩ := h.2.2 hn
    have hbp := hA hn b off rfl
    refine ⟨b, off, rfl, Nat.lt_of_lt_of_le hb g.size, fun j u' hu => ?_⟩
    have e : w'.heap[b]? = w.heap[b]? := g.block b hb (fun e => hbp (Option.some.inj e))
    rw [← hc j u' hu]
    simp only [World.cell?, e]⟩
theorem blk_grown {w w' : World} {g p : Nat} {t : TypeId} {cs : Array Value} (h : Blk w g t cs) (hp : g ≠ p) (k : w.grownBy w' (some p)) : Blk w' g t cs :=
  (k.block g h.lt (fun e => hp (Option.some.inj e))).trans h
theorem grown_drew {a w : World} {row : Option Nat} (h : a.grownBy w row) (n : Nat) : a.grownBy (w.drewN n) row := ⟨h.os, h.tape, h.output, h.size, h.block⟩
theorem grown_drew1 {a w : World} {row : Option Nat} (h : a.grownBy w row) : a.grownBy w.drew row := ⟨h.os, h.tape, h.output, h.size, h.block⟩
/-- A number from 0 to 255 has been drawn. -/
def DrawnByte (w : World) (p : Nat) (e : Ending) (w' : World) : Prop := ∃ r : Int, e = .returned (.int .i64 r) ∧ 0 ≤ r ∧ r ≤ 255 ∧ Cur w' p ∧ w.grownBy w' (some p)
theorem drawn_end {w w' : World} {p : Nat} {r : Int} (h0 : 0 ≤ r) (h1 : r ≤ 255) (hc : Cur w' p) (hg : w.grownBy w' (some p)) : DrawnByte w p (.returned (.int .i64 r)) w' := ⟨r, rfl, h0, h1, hc, hg⟩
set_option maxRecDepth 100000 in
set_option maxHeartbeats 1000000 in
theorem spec_l01Byte (p : Nat) (w : World) (hc : Cur w p) :
    Calls Tryz.prog 110 #[.pointer (some ⟨p, 0, none⟩)] w (DrawnByte w p) := by
  obtain ⟨A, n, c, xs, i, h, hb, hx, hn, hi0, hi1, hxs, hAp⟩ := hc
  have c0 := hb.cellAt (i := 0) (by simp)
  have c1 := hb.cellAt (i := 1) (by simp)
  have c2 := hb.cellAt (i := 2) (by simp)
  have f1 := hb.free 1
  have f2 := hb.free 2
  simp at c0 c1 c2
  have HB := Lib.hid hb
  clear hb
  go_enter Tryz.func110, Tryz.ntmps110
  go_wp2_with fail
  generalize wrap64 (wrap64 (h * 6364136223846793005) + 1442695040888963407) = h1
  clear c0 c1 c2 f1 f2
  have hb1 := HB.out.set 2 (.int .i64 h1)
  have hx1 := rd_set (o := 2) hx hAp (.int .i64 h1)
  have hg1 := grown_set (grown_refl w (some p)) 2 (.int .i64 h1)
  clear hx HB
  generalize w.setCell ⟨p, 2, none⟩ (.int .i64 h1) = w1 at hb1 hx1 hg1 ⊢
  simp only [List.setIfInBounds_toArray, List.set_cons_succ, List.set_cons_zero] at hb1
  have c0 := hb1.cellAt (i := 0) (by simp)
  have c1 := hb1.cellAt (i := 1) (by simp)
  have c2 := hb1.cellAt (i := 2) (by simp)
  have f1 := hb1.free 1
  simp at c0 c1 c2
  have HB := Lib.hid hb1
  have HX := Lib.hid hx1
  have HG := Lib.hid hg1
  clear hb1 hx1 hg1
  go_quiet (fail)
  go_wp2_with fail
  have hr := and255 (bits .xor .i64 (h1 / 8589934592) (h1 / 35184372088832))
  generalize bits .and .i64 (bits .xor .i64 (h1 / 8589934592) (h1 / 35184372088832)) 255 = r at hr ⊢
  have d0 : (w1.drewN nq).cell? ⟨p, 0, none⟩ = some (Value.slice A n c) := c0
  have d1 : (w1.drewN nq).cell? ⟨p, 1, none⟩ = some (Value.int IntKind.i64 i) := c1
  have d2 : (w1.drewN nq).frozen? ⟨p, 1, none⟩ = false := f1
  have b2 : Blk (w1.drewN nq) p 100 #[Value.slice A n c, Value.int IntKind.i64 i, Value.int IntKind.i64 h1] := HB.out
  have x2 : Rd (w1.drewN nq) 1 A n (xs.flatMap benc) := HX.out
  have g2 := grown_drew HG.out nq
  clear c0 c1 c2 f1 HB HX HG
  generalize w1.drewN nq = w2 at d0 d1 d2 b2 x2 g2 ⊢
  have HB := Lib.hid b2
  have HX := Lib.hid x2
  have HG := Lib.hid g2
  clear b2 x2 g2
  by_cases hin : i < (n : Int)
  · obtain ⟨b, off, x, rfl, hbs, hxk, hcell⟩ := benc_at HX.out (k := i.toNat) (by omega)
    have hin' : i < ((n : Nat) : Int) := hin
    have hx := hxs x (List.mem_of_getElem? hxk)
    have hq : wrap64 (r + x) = r + x := by unfold wrap64; omega
    have hw : wrap64 (i + 1) = i + 1 := by unfold wrap64; omega
    go_quiet (fail)
    go_wp2_with fail
    have e0 : (w2.drewN nq).cell? ⟨p, 0, none⟩ = some (Value.slice (some ⟨b, off, none⟩) n c) := d0
    have e1 : (w2.drewN nq).cell? ⟨p, 1, none⟩ = some (Value.int IntKind.i64 i) := d1
    have e2 : (w2.drewN nq).frozen? ⟨p, 1, none⟩ = false := d2
    have e3 : (w2.drewN nq).cell? ⟨b, off + i.toNat, none⟩ = some (.int .u8 x) := hcell
    have b3 : Blk (w2.drewN nq) p 100 #[Value.slice (some ⟨b, off, none⟩) n c, Value.int IntKind.i64 i, Value.int IntKind.i64 h1] := HB.out
    have x3 : Rd (w2.drewN nq) 1 (some ⟨b, off, none⟩) n (xs.flatMap benc) := HX.out
    have g3 := grown_drew HG.out nq
    clear d0 d1 d2 hcell HB HX HG
    generalize w2.drewN nq = w3 at e0 e1 e2 e3 b3 x3 g3 ⊢
    have HB := Lib.hid b3
    have HX := Lib.hid x3
    have HG := Lib.hid g3
    clear b3 x3 g3
    go_quiet (fail)
    go_wp2_with fail
    have hr2 := and255 (r + x)
    have hb4 := HB.out.set 1 (.int .i64 (i + 1))
    have hx4 := rd_set (o := 1) HX.out hAp (.int .i64 (i + 1))
    have hg4 := grown_set (grown_drew HG.out nq) 1 (.int .i64 (i + 1))
    simp only [List.setIfInBounds_toArray, List.set_cons_succ, List.set_cons_zero] at hb4
    go_ret
    exact drawn_end hr2.1 hr2.2 ⟨_, n, c, xs, i + 1, h1, hb4, hx4, hn, by omega, by omega, hxs, hAp⟩ hg4
  · go_quiet (fail)
    go_wp2_with fail
    go_ret
    exact drawn_end hr.1 hr.2 ⟨A, n, c, xs, i, h1, HB.out, HX.out, hn, hi0, hi1, hxs, hAp⟩ (grown_drew HG.out _)
/-- A number has been drawn that lies below n, or is 0. -/
def DrawnBelow (n : Int) (w : World) (p : Nat) (e : Ending) (w' : World) : Prop := ∃ r : Int, e = .returned (.int .i64 r) ∧ 0 ≤ r ∧ (r < n ∨ r = 0) ∧ Cur w' p ∧ w.grownBy w' (some p)
set_option maxRecDepth 100000 in
set_option maxHeartbeats 1000000 in
theorem spec_l01Below (p : Nat) (n : Int) (w : World) (hc : Cur w p) :
    Calls Tryz.prog 71 #[.pointer (some ⟨p, 0, none⟩), .int .i64 n] w (DrawnBelow n w p) := by
  have hg := grown_refl w (some p)
  by_cases h0 : n ≤ 0
  · go_enter Tryz.func71, Tryz.ntmps71
    go_wp2_with fail
    go_ret
    exact ⟨0, rfl, by omega, .inr rfl, hc, grown_refl _ _⟩
  · by_cases h1 : n ≤ 256
    · go_enter Tryz.func71, Tryz.ntmps71
      go_wp2_with (go_at_call 110; refine (spec_l01Byte p _ (by assumption)).mono ?_; rintro e w1 ⟨r, rfl, hr0, hr1, hc1, hg1⟩; replace hg := grown_trans hg hg1; clear hg1)
      go_ret
      exact ⟨_, rfl, Int.emod_nonneg _ (by omega), .inl (Int.emod_lt_of_pos _ (by omega)), hc1, hg⟩
    · go_enter Tryz.func71, Tryz.ntmps71
      go_wp2_with (go_at_call 110; refine (spec_l01Byte p _ (by assumption)).mono ?_; rintro e w1 ⟨r, rfl, hr0, hr1, hc1, hg1⟩; replace hg := grown_trans hg hg1; clear hg1)
      go_ret
      exact ⟨_, rfl, Int.emod_nonneg _ (by omega), .inl (Int.emod_lt_of_pos _ (by omega)), hc1, hg⟩
theorem heap_size_setCell (w : World) (a : Addr) (u : Value) : (w.setCell a u).heap.size = w.heap.size := by simp [World.setCell]
theorem heap_size_alloc (w : World) (o : Obj) : (w.alloc o).heap.size = w.heap.size + 1 := by simp
theorem heap_size_drew (w : World) : w.drew.heap.size = w.heap.size := rfl
theorem heap_size_drewN (w : World) (n : Nat) : (w.drewN n).heap.size = w.heap.size := rfl
theorem Cur.lt {w : World} {p : Nat} (h : Cur w p) : p < w.heap.size := by
  obtain ⟨_, _, _, _, _, _, hb, _⟩ := h
  exact hb.lt
theorem cur_ext {w w' : World} {p : Nat} (h : Cur w p) (e : Ext w w') : Cur w' p := by
  obtain ⟨A, n, c, xs, i, h, hb, hx, r⟩ := h
  exact ⟨A, n, c, xs, i, h, hb.keep e, hx.keep e, r⟩
theorem cur_alloc {w : World} {p : Nat} (h : Cur w p) (o : Obj) : Cur (w.alloc o) p := cur_ext h ((Ext.refl w).alloc o)
theorem cur_drew {w : World} {p : Nat} (h : Cur w p) : Cur w.drew p := h
theorem cur_drewN {w : World} {p : Nat} (h : Cur w p) (n : Nat) : Cur (w.drewN n) p := h
theorem cur_grown {w w' : World} {p : Nat} {row : Option Nat} (h : Cur w p) (g : w.grownBy w' row) (hr : ∀ k, row = some k → p < k) : Cur w' p := by
  obtain ⟨A, n, c, xs, i, h, hb, hx, hn, h0, h1, h2, hA⟩ := h
  refine ⟨A, n, c, xs, i, h, (g.block p hb.lt (fun e => ?_)).trans hb, ⟨hx.1, hx.2.1, fun hn0 => ?_⟩, hn, h0, h1, h2, hA⟩
  · exact absurd (hr p e.symm) (by omega)
  · obtain ⟨b, off, rfl, hbs, hc⟩ := hx.2.2 hn0
    have hbp := hA hn0 b off rfl
    refine ⟨b, off, rfl, Nat.lt_of_lt_of_le hbs g.size, fun j u' hu => ?_⟩
    have e : w'.heap[b]? = w.heap[b]? := g.block b hbs (fun e => absurd (hr b e.symm) (by omega))
    rw [← hc j u' hu]
    simp only [World.cell?, e]
theorem cur_far {w : World} {p q : Nat} (h : Cur w p) (hq : p < q) {o : Nat} (u : Value) : Cur (w.setCell ⟨q, o, none⟩ u) p :=
  cur_grown h (grown_set (grown_refl w (some q)) o u) (fun k hk => by injection hk with hk; omega)
theorem grown_alloc {a w : World} {row : Option Nat} (h : a.grownBy w row) (o : Obj) : a.grownBy (w.alloc o) row :=
  ⟨h.os, h.tape, h.output, Nat.le_trans h.size (by rw [heap_size_alloc]; omega), fun i hi hn => (Below.block (((Ext.refl w).alloc o).below) i (Nat.lt_of_lt_of_le hi h.size)).trans (h.block i hi hn)⟩
theorem grown_fresh {a w : World} {row : Option Nat} (h : a.grownBy w row) {q o : Nat} (hq : a.heap.size ≤ q) (u : Value) : a.grownBy (w.setCell ⟨q, o, none⟩ u) row :=
  ⟨h.os, h.tape, h.output, by rw [heap_size_setCell]; exact h.size, fun i hi hn => (Below.heap_setCell w _ u i (fun e => by dsimp only at e; omega)).trans (h.block i hi hn)⟩
theorem grown_extD {a w w' : World} {row : Option Nat} (h : a.grownBy w row) (e : Ext w w') : a.grownBy w' row :=
  grown_trans h ⟨e.os, e.tape, e.output, e.size, fun i hi _ => e.block i hi⟩
theorem grown_cell {w w' : World} {p : Nat} (g : w.grownBy w' (some p)) (b : Nat) (hp : b ≠ p) (hb : b < w.heap.size) (o : Nat) : w'.cell? ⟨b, o, none⟩ = w.cell? ⟨b, o, none⟩ := by
  have e : w'.heap[b]? = w.heap[b]? := g.block b hb (fun e => hp (Option.some.inj e))
  simp only [World.cell?, e]
theorem grown_frozen {w w' : World} {p : Nat} (g : w.grownBy w' (some p)) (b : Nat) (hp : b ≠ p) (hb : b < w.heap.size) (o : Nat) : w'.frozen? ⟨b, o, none⟩ = w.frozen? ⟨b, o, none⟩ := by
  have e : w'.heap[b]? = w.heap[b]? := g.block b hb (fun e => hp (Option.some.inj e))
  simp only [World.frozen?, e]
theorem own_grown {w w' : World} {base p : Nat} {e : TypeId} {m n : Nat} {v : Value} {L : List Value} (h : w.ownsRow base e m v n L) (hp : p < base) (g : w.grownBy w' (some p)) : w'.ownsRow base e m v n L := by
  refine h.kept g ?_
  cases hv : v.ownBlock with
  | none => exact .inl rfl
  | some q =>
    refine .inr fun e => ?_
    have := (h.lt q hv).1
    injection e with e
    omega
theorem grown_over {a w w' : World} {r0 row : Option Nat} (h : a.grownBy w r0) (g : w.grownBy w' row) (hr : ∀ k, row = some k → a.heap.size ≤ k) : a.grownBy w' r0 :=
  ⟨g.os.trans h.os, g.tape.trans h.tape, g.output.trans h.output, Nat.le_trans h.size g.size, fun i hi hn => (g.block i (Nat.lt_of_lt_of_le hi h.size) (fun e => absurd (hr i e.symm) (by omega))).trans (h.block i hi hn)⟩
theorem append1g {P : Program} {ops : Array Oper} {rest : List Oper} {o : Oper} {a : Act} {Q : Exit → Act → World → Prop} {t e : TypeId} {m : Nat} (hE : EI P t e m) (hgd : o.guard = none) (s x : Operand)
    (ho : o.op = .call { callee := .builtin .append, args := #[s, x], argTypes := #[t, t] }) (base : Nat) (W : World) (T : TypeId) (v : Value) (n : Nat) (xs : List Value) (hs : a.eval s = v) (hown : W.ownsRow base e m v n xs)
    (news : List Value) (hx : a.eval x = .slice (some ⟨W.heap.size, 0, none⟩) 1 1) (hl : news.length = m) (h1 : ∀ u ∈ news, u.oneCell' = true) (hn : n ≤ 1073741824) (hbase : base ≤ W.heap.size)
    (h : ∀ v' w1 row, w1.ownsRow base e m v' (n + 1) (xs ++ news) → W.grownBy w1 row → (∀ k, row = some k → base ≤ k) → wpList P ops Q rest (a.put o.dst v') w1) : wpList P ops Q (o :: rest) a (W.alloc (.cells news.toArray T)) := by
  obtain ⟨i, z, hu, hi, hz, hsz, hby, hzs, h0⟩ := hE
  refine wpList_append_own _ hgd s x t ho base e i z m i.bytes hu hi hz hsz rfl hzs h0 v n xs hs (hown.alloc _) ⟨W.heap.size, 0, none⟩ 1 1 news hx (by omega) ?_ h1 (by unfold maxLen; omega) ?_ (by simp; omega) ?_
  · intro j u hu'
    rw [add_none, Nat.zero_add, World.cell?_alloc_new]
    simpa using hu'
  · have := Nat.mul_le_mul_left (n + 1) hby
    omega
  · intro v' w1 ho' hg _
    exact h v' w1 _ ho' (grown_trans (grown_alloc (grown_refl W _) _) hg) (fun k hk => (hown.lt k hk).1)
theorem new_cur {A : Option Addr} {n c : Nat} {xs : List Int} {w wr : World} (hx : Rd w 1 A n (xs.flatMap benc)) (hxs : ∀ x ∈ xs, 0 ≤ x ∧ x ≤ 255) (hn1 : n ≤ 1048576) (hb : Ext w wr) (z : Int) :
    ∃ p, Ending.returned (.pointer (some ⟨wr.heap.size, 0, none⟩)) = Ending.returned (.pointer (some ⟨p, 0, none⟩)) ∧ w.heap.size ≤ p ∧
      Cur (wr.alloc (.cells #[.slice A n c, .int .i64 0, .int .i64 z] 100)) p ∧ Ext w (wr.alloc (.cells #[.slice A n c, .int .i64 0, .int .i64 z] 100)) := by
  have e : Ext w (wr.alloc (.cells #[.slice A n c, .int .i64 0, .int .i64 z] 100)) := Ext.alloc hb _
  refine ⟨_, rfl, hb.size, ⟨A, n, c, xs, 0, z, Blk.new _ _ _, hx.keep e, hn1, by omega, by omega, hxs, fun h0 b off hA => ?_⟩, e⟩
  obtain ⟨b', off', hA', hb', _⟩ := hx.2.2 h0
  rw [hA] at hA'
  injection hA' with h1
  injection h1 with h1
  subst h1
  exact Nat.lt_of_lt_of_le hb' hb.size
set_option maxRecDepth 100000 in
set_option maxHeartbeats 1000000 in
theorem spec_l01New (A : Option Addr) (n c : Nat) (xs : List Int) (w : World) (hx : Rd w 1 A n (xs.flatMap benc)) (hxs : ∀ x ∈ xs, 0 ≤ x ∧ x ≤ 255) (hn1 : n ≤ 1048576) :
    Calls Tryz.prog 39 #[.slice A n c] w fun e w' => ∃ p, e = .returned (.pointer (some ⟨p, 0, none⟩)) ∧ w.heap.size ≤ p ∧ Cur w' p ∧ Ext w w' := by
  have hn := hx.2.1
  go_enter Tryz.func39, Tryz.ntmps39
  go_wp2_with fail
  go_loopw [3, 4] (fun o i wr => ∃ (k : Nat) (z : Int), k ≤ n ∧ i = .int .i64 k ∧ o = .int .i64 z ∧ Ext w wr) (fun _ i _ => n - (intOf i).toNat)
  case atStart => exact ⟨0, _, Nat.zero_le _, rfl, rfl, Ext.refl _⟩
  case round =>
    obtain ⟨k, z, hk, rfl, rfl, hb⟩ := hrel
    by_cases hlt : k < n
    · by_cases h4 : (k : Int) < 4000
      · obtain ⟨b, off, x, rfl, hbs, hxk, h0⟩ := benc_at (hx.keep hb) hlt
        have HB := Lib.hid hb
        have hbd := hxs x (List.mem_of_getElem? hxk)
        clear hxk hb
        go_wp2_with fail
        go_roundw
        case rel => exact ⟨k + 1, _, by omega, by go_num, rfl, HB.out⟩
        case measure => simp [intOf]; omega
      · go_wp2_with fail
        go_ret
        exact new_cur hx hxs hn1 hb z
    · go_wp2_with fail
      go_ret
      exact new_cur hx hxs hn1 hb z
end Go.Proofs.YtfmifllcbbfpoaaGreatDoor
/- A world in which the listed tables stand, written out; no condition. -/
namespace Go.Proofs.YtfmifllcbbfpoaaGreatDoor
set_option linter.unusedSimpArgs false
set_option linter.unusedVariables false
open Go.ChangeShapes Go.WideShapes Go.ChangeAt Go.RowKit
/-- The cells of a table of numbers, or of rows of numbers. -/
def flatD : DataW Unit → List Value
  | .agg l => l.flatMap fun d => match d with
    | .lit (.int k n) => [.int k n]
    | .agg r => r.flatMap fun e => match e with
      | .lit (.int k n) => [.int k n]
      | _ => []
    | _ => []
  | _ => []
def putB (h : Array Obj) (g : Nat) (cs : List Value) : Array Obj :=
  match h[g]? with
  | some (.cells _ t fr) => h.setIfInBounds g (.cells cs.toArray t fr)
  | _ => h
def putAll (P : Program) (h : Array Obj) (l : List (String × DataW Unit)) : Array Obj :=
  l.foldl (fun h nd => match P.globalNamed nd.1 with
    | some g => putB h g (flatD nd.2)
    | none => h) h
noncomputable def laidW (P : Program) (os : Os) (l : List (String × DataW Unit)) : World :=
  { World.holding P os ⟨#[], #[], []⟩ with heap := putAll P (World.holding P os ⟨#[], #[], []⟩).heap l }
end Go.Proofs.YtfmifllcbbfpoaaGreatDoor
/- The library's own variable bytealg.MaxLen holds some number in every world that fits; a frame that hands this on; no condition. -/
namespace Go.Proofs.YtfmifllcbbfpoaaGreatDoor
set_option linter.unusedSimpArgs false
set_option linter.unusedVariables false
open Go.RowKit
theorem max_of {W : World} (h : W.ShapedOpen Tryz.prog) : ∃ m, W.cell? ⟨0, 0, none⟩ = some (.int .i64 m) :=
  cell_of_shapedOpen_int (t := 3) (zero := #[.int .i64 0]) h (of_decide_eq_true (by kernel_rfl)) (by kernel_rfl) (by kernel_rfl) (by kernel_rfl) (by kernel_rfl) Tryz.underlying3
theorem handed_and_shaped {H : Type} {enc : TypeId × Value → H} {a : Assume} {C : Checked} {os : Os} {f : FuncId} {fn : Func} {s : ChangeSpec} {conds : List PathCond} {apart fresh handsOn again : Bool} {X : World → Array Value → Prop}
    (hX : ∀ (w w' : World) (args : Array Value), w.heap = w'.heap → X w args → X w' args)
    (own : ownKnob C.prog.godebug = none) (started : os.Started) (noInit : C.prog.inits.idxOf? f = none) (hfn : C.prog.funcs[f]? = some fn)
    (witness : ∃ (w : World) (tape : Tape) (i : Input), w.os = os ∧ (w.forCall tape i).Shaped C.prog ∧ i.vars = [] ∧ Input.okWide C.prog (w.forCall tape i) .any w.heap.size f i ∧
      ((s.pre enc C.prog fn conds apart (w.forCall tape i).memory i.args ∧ X (w.forCall tape i).memory i.args) ∧ sizedMet enc C.prog fn (OpenSpec.ofChange s) apart (w.forCall tape i).memory i.args) ∧ a.holds C.prog (lone (Frame.enter C.prog f i.args .normal) [] (w.forCall tape i)))
    (contract : ∀ (W : World) (base : Nat) (args : Array Value) (ds gs : List (DataW H)) (before : List MemPlace),
      (∀ (j : Nat) t v, fn.params[j]? = some t → args[j]? = some v → Value.okWide C.prog W .any base t v) →
      DataW.Whole enc C.prog fn.params.toList s.vars apart W args.toList ds gs before →
      conds.all (PathCond.test C.prog ⟨fn.params.toList, ds, s.plain.varTypes C.prog, gs⟩) = true →
      (DataW.weightsEach C.prog (fn.params.toList ++ s.plain.varTypes C.prog) (ds ++ gs)).all (· ≤ reachBytes) = true → X W args →
      W.ShapedOpen C.prog →
      a.holds C.prog (lone (Frame.enter C.prog f args .normal) [] W) →
      Calls C.prog f args W fun e W' => ∃ v, e = .returned v ∧ s.post enc C.prog fn apart fresh handsOn again W args v W') :
    ReturnsInHanded a C os f .any (fun w args => (s.pre enc C.prog fn conds apart w args ∧ X w args) ∧ sizedMet enc C.prog fn (OpenSpec.ofChange s) apart w args) (s.post enc C.prog fn apart fresh handsOn again) := by
  refine returnsInHanded_of_calls own started noInit witness ?_
  intro w tape i _ hsh _ hok hpre hholds
  obtain ⟨_, _, _, fn', hfn', _, _, _, _, hval⟩ := hok
  have e : fn' = fn := Option.some.inj (hfn'.symm.trans hfn)
  subst e
  obtain ⟨⟨⟨ds, gs, before, hw, hc⟩, hx⟩, hz⟩ := hpre
  have hw' := DataW.Whole.of_heap (w' := w.forCall tape i) (by rfl) hw
  refine (contract (w.forCall tape i) w.heap.size i.args ds gs before hval hw' hc (hz.weights hw) (hX _ _ _ (by rfl) hx) hsh hholds).mono fun e W' ⟨v, he, hp⟩ => ?_
  subst he
  exact ChangeSpec.post_blind hp
end Go.Proofs.YtfmifllcbbfpoaaGreatDoor
