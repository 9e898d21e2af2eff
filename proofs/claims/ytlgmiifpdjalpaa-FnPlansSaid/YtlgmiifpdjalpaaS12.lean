/- Contract of the reference's enumeration of plans; no condition but what stands at each theorem. -/
import Derived.Test.YtlgmiifpdjalpaaS11
namespace Go.Proofs.Ytlgmiifpdjalpaa
set_option linter.unusedSimpArgs false
set_option linter.unusedVariables false
open Go.RowKit Go.Sort
set_option maxRecDepth 100000 in
set_option maxHeartbeats 4000000 in
theorem spec_l34Count (loans : List GLoan) (halls : List GClimate) (A0 : Option Addr) (n0 c0 : Nat) (A1 : Option Addr) (n1 c1 : Nat) (h06 : n0 ≤ 6) (h11 : 1 ≤ n1) (h15 : n1 ≤ 5) :
    ∀ (f : Nat) (left head : List Int) (A2 : Option Addr) (c2 : Nat) (A3 : Option Addr) (n3 c3 : Nat) (w : World), n3 + f = n0 → Hid (∀ j, 0 ≤ left.getD j 0 ∧ left.getD j 0 ≤ 6) → Hid (left.length = n1) →
      Rd w 4 A0 n0 (loans.flatMap GLoan.enc) → Rd w 3 A1 n1 (halls.flatMap GClimate.enc) → Rd w 1 A2 n1 (left.flatMap ienc) → Rd w 1 A3 n3 (head.flatMap ienc) → Hid (A2 = none → c2 = 0) → Hid (A3 = none → c3 = 0) →
      Calls Try.prog 101 #[.slice A0 n0 c0, .slice A1 n1 c1, .slice A2 n1 c2, .slice A3 n3 c3] w (PlansPost (plansF loans halls f left head) w) := by
  intro f
  induction f with
  | zero =>
    intro left head A2 c2 A3 n3 c3 w hf hlb hll hx0 hx1 hx2 hx3 hnc2 hnc
    obtain rfl : n3 = n0 := by omega
    have hl3 := Lib.hid (hx3.len ienc_len (by omega))
    have HE := Lib.hid (own_empty w w.heap.size 3 1 (Nat.le_refl _))
    have HX := Lib.hid (hx3.alloc (.cells #[] 3))
    clear hx0 hx1 hx2 hx3
    go_enter Try.func101, Try.ntmps101
    go_wp2_with (at_builtin; refine appendRd ei_int rfl _ _ rfl w.heap.size _ _ 0 [] (by rfl) HE.out A3 n3 c3 (head.flatMap ienc) (by rfl) HX.out hnc.out (one_ienc _) (by omega) (by simp) ?_; intro v' w1 ho he; have Ho := Lib.hid ho; have He := Lib.hid he; clear ho he)
    go_ret2
    have he := He.out
    have ho := Ho.out
    refine ⟨v', rfl, he w ((Ext.refl w).alloc _) (Nat.le_refl _), ?_⟩
    have : (plansF loans halls 0 left head).2 = head := rfl
    rw [this, hl3.out]
    simpa using ho
  | succ f ih =>
    intro left head A2 c2 A3 n3 c3 w hf hlb hll hx0 hx1 hx2 hx3 hnc2 hnc
    have hlt3 : n3 < n0 := by omega
    have b3 : ((n3 : Int) == (n0 : Int)) = false := by rw [beq_eq_false_iff_ne]; omega
    have hl0 := Lib.hid (hx0.len GLoan.len (by omega))
    have hl1 := Lib.hid (hx1.len GClimate.len (by omega))
    have hl3 := Lib.hid (hx3.len ienc_len (by omega))
    have HE0 := Lib.hid (own_empty w w.heap.size 3 1 (Nat.le_refl _))
    have IH := Lib.hid ih
    clear ih
    go_enter Try.func101, Try.ntmps101
    go_wp2_with fail
    go_loopw [11, 12, 13] (fun cn fs i wr => ∃ (k : Nat) (z : Int) (L : List Int), k ≤ n1 ∧ i = .int .i64 k ∧ cn = .int .i64 z ∧ wr.ownsRow w.heap.size 3 1 fs L.length (L.flatMap ienc) ∧ Hid ((z, L) = plansTo loans halls f left head k) ∧ Ext w wr) (fun _ _ i _ => n1 - (intOf i).toNat)
    case atStart => exact ⟨0, 0, [], Nat.zero_le _, rfl, rfl, HE0.out, rfl, (Ext.refl _).alloc _⟩
    case round =>
      obtain ⟨k, z, L, hk, rfl, rfl, hown, hz, hb⟩ := hrel
      have hzb := plansTo_le loans halls (by rw [hl1.out]; exact h15) (f := f) (by omega) left head k
      rw [← hz.out] at hzb
      obtain ⟨hz0, hz1, hz2⟩ := hzb
      simp only at hz0 hz1 hz2
      have HZ2 := Lib.hid hz2
      clear hz2
      by_cases hlt : k < n1
      · obtain ⟨b, off, l, rfl, hbs, hlk, g0, g1, g2, g3⟩ := GLoan.at_ (hx0.keep hb) hlt3
        obtain ⟨b1, off1, c, rfl, hbs1, hck, q0, q1, q2⟩ := GClimate.at_ (hx1.keep hb) hlt
        obtain ⟨b2, off2, v, rfl, hbs2, hvk, r0⟩ := ienc_at (hx2.keep hb) hlt
        have HL := Lib.hid (getD_of (d := ⟨0, 0, 0, 0⟩) hlk)
        have HC := Lib.hid (getD_of (d := ⟨0, 0, 0⟩) hck)
        have hvb := hlb.out k
        have hv := getD_of (d := (0 : Int)) hvk
        rw [hv] at hvb
        obtain ⟨hv0, hv1⟩ := hvb
        have HV := Lib.hid hv.symm
        clear hlk hck hvk hv
        have HO := Lib.hid hown
        have HB := Lib.hid hb
        clear hown hb
        have e0 := cell_regrown g0
        have e1 := cell_regrown g1
        have e2 := cell_regrown g2
        have e3 := cell_regrown g3
        have e4 := cell_regrown q0
        have e5 := cell_regrown q1
        have e6 := cell_regrown q2
        have e7 := cell_regrown r0
        have cR := spec_Breaches l c
        clear g0 g1 g2 g3 q0 q1 q2 r0
        go_wp2_with fail
        cases hv2 : (v == 0)
        case true =>
          have hoff : Hid (offB loans halls left head k = true) := by unfold Hid offB; rw [← HV.out, hv2]; rfl
          (refine wp_region_ext (by kernel_rfl) (by kernel_rfl) ?_; (repeat (go_big_quiet_step (first | (go_at_call 88; with_reducible exact Calls.rg (cR _))))); refine wpQuiet_nil ?_)
          intro w1 hb1
          go_wp2_with fail
          go_roundw
          case rel => exact ⟨k + 1, z, L, by omega, by go_num, rfl, own_keep HO.out hb1, by unfold Hid; rw [plansTo_succ, planStep, hoff.out, ← hz.out]; rfl, HB.out.trans hb1⟩
          case measure => simp [intOf]; omega
        cases hbr : (breach l c != 0)
        case true =>
          have hoff : Hid (offB loans halls left head k = true) := by unfold Hid offB; rw [hl3.out, HL.out, HC.out, hbr]; simp
          (refine wp_region_ext (by kernel_rfl) (by kernel_rfl) ?_; (repeat (go_big_quiet_step (first | (go_at_call 88; with_reducible exact Calls.rg (cR _))))); refine wpQuiet_nil ?_)
          intro w1 hb1
          go_wp2_with fail
          go_roundw
          case rel => exact ⟨k + 1, z, L, by omega, by go_num, rfl, own_keep HO.out hb1, by unfold Hid; rw [plansTo_succ, planStep, hoff.out, ← hz.out]; rfl, HB.out.trans hb1⟩
          case measure => simp [intOf]; omega
        have hoff : Hid (offB loans halls left head k = false) := by unfold Hid offB; rw [hl3.out, HL.out, HC.out, hbr, ← HV.out, hv2]; rfl
        (refine wp_region_ext (by kernel_rfl) (by kernel_rfl) ?_; (repeat (go_big_quiet_step (first | (go_at_call 88; with_reducible exact Calls.rg (cR _))))); refine wpQuiet_nil ?_)
        intro w1 hb1
        clear e0 e1 e2 e3 e4 e5 e6 e7 cR hbr
        have hv3 : v ≠ 0 := by simpa using hv2
        clear hv2
        have HB1 := Lib.hid (HB.out.trans hb1)
        have HBr1 := Lib.hid hb1
        have HE1 := Lib.hid (own_empty w1 w1.heap.size 3 1 (Nat.le_refl _))
        have HX2 := Lib.hid ((hx2.keep HB1.out).alloc (.cells #[] 3))
        have HEx1 := Lib.hid ((Ext.refl w1).alloc (.cells #[] 3))
        clear hb1
        have tok1 : True := trivial
        have tok2 : True := trivial
        go_wp2_with (first | (at_builtin; have _t := tok1; refine appendRd ei_int rfl _ _ rfl w1.heap.size _ _ 0 [] (by rfl) HE1.out _ n1 c2 (left.flatMap ienc) (by rfl) HX2.out hnc2.out (one_ienc _) (by omega) (by simp) ?_; intro vl w2 hol hel; clear tok1 _t; obtain ⟨Al, cl, rfl, hncl⟩ := own_form hol; rw [Nat.zero_add, List.nil_append] at hol; obtain ⟨gl, rfl, hgl, hbkl⟩ := PBlk.of_own hol h11; have Hol := Lib.hid hol; have Hel := Lib.hid (hel w1 HEx1.out (Nat.le_refl _)); have sl := hbkl.cell (i := k) (by rw [hll.out]; exact hlt); have fl := hbkl.free k; have hsl := hbkl.lt; rw [← HV.out] at sl; have HBKl := Lib.hid hbkl; clear hol hel hbkl) | (at_builtin; have _t := tok2; clear tok2 _t; refine (fun h : Hid _ => h.out) ?_))
        unfold Hid
        obtain ⟨w3, hw3⟩ : ∃ w3, w3 = w2.setCell ⟨gl, k, none⟩ (.int .i64 (v - 1)) := ⟨_, rfl⟩
        rw [← hw3]
        have Hsz : Hid (w3.heap.size = w2.heap.size) := by unfold Hid; rw [hw3]; simp [World.setCell]
        have HBK3 : Hid (PBlk w3 gl 3 (left.set k (v - 1))) := by unfold Hid; rw [hw3]; exact HBKl.out.set k (v - 1)
        have hs1 := HB1.out.size
        have hs2 := Hel.out.size
        have HE3 : Hid (Ext w1 w3) := by unfold Hid; rw [hw3]; exact Hel.out.setCell hgl _
        clear hw3 HBKl sl fl
        have HEm := Lib.hid (own_empty w3 w3.heap.size 3 1 (Nat.le_refl _))
        have HX3 := Lib.hid ((hx3.keep (HB1.out.trans HE3.out)).alloc (.cells #[] 3))
        have HEx3 := Lib.hid ((Ext.refl w3).alloc (.cells #[] 3))
        have tok3 : True := trivial
        have tok4 : True := trivial
        go_wp2_with (first
          | (at_builtin; have _t := tok3; refine appendRd ei_int rfl _ _ rfl w3.heap.size _ _ 0 [] (by rw [← Hsz.out]; rfl) HEm.out A3 n3 c3 (head.flatMap ienc) (by rfl) HX3.out hnc.out (one_ienc _) (by omega) (by simp) ?_; intro vh w4 hoh heh; clear tok3 _t; rw [Nat.zero_add, List.nil_append] at hoh; have Hoh := Lib.hid hoh; have Heh := Lib.hid heh; clear hoh heh)
          | (at_builtin; have _t := tok4; clear tok4 _t; refine (fun h : Hid _ => h.out) ?_))
        unfold Hid
        have HE34 := Lib.hid (Heh.out w3 HEx3.out (Nat.le_refl _))
        have hs34 := HE34.out.size
        refine append1 ei_int rfl _ _ rfl w3.heap.size w4 _ vh n3 (head.flatMap ienc) (by rfl) Hoh.out [.int .i64 k] (by rfl) rfl (by intro u hu; simp at hu; subst hu; rfl) (by omega) hs34 ?_
        intro v5 w5 ho5 he5
        obtain ⟨A5, c5, rfl, hnc5⟩ := own_form ho5
        have HE35 := Lib.hid (he5 w3 HE34.out (Nat.le_refl _))
        have hap : head.flatMap ienc ++ [.int .i64 (k : Int)] = (head ++ [(k : Int)]).flatMap ienc := by rw [List.flatMap_append]; rfl
        rw [hap] at ho5
        have HE15 := Lib.hid (HE3.out.trans HE35.out)
        have HBK5 := Lib.hid (HBK3.out.keep HE35.out)
        have Ho5 := Lib.hid ho5
        have hset : ∀ j, (left.set k (v - 1)).getD j 0 = if j = k then v - 1 else left.getD j 0 := by
          intro j
          by_cases h : k = j
          · subst h; simp [hll.out, hlt]
          · rw [if_neg (Ne.symm h)]; simp [h]
        have hll2 : (left.set k (v - 1)).length = n1 := by rw [List.length_set]; exact hll.out
        have hrl := HBK5.out.rd (by omega)
        rw [hll2] at hrl
        obtain ⟨m, L5, hm⟩ : ∃ m L5, plansF loans halls f (left.set k (v - 1)) (head ++ [(k : Int)]) = (m, L5) := ⟨_, _, rfl⟩
        have hcall := IH.out (left.set k (v - 1)) (head ++ [(k : Int)]) (some ⟨gl, 0, none⟩) cl A5 (n3 + 1) c5 w5 (by omega) (by unfold Hid; intro j; rw [hset]; have := hlb.out j; split <;> omega) (by unfold Hid; exact hll2) (hx0.keep (HB1.out.trans HE15.out)) (hx1.keep (HB1.out.trans HE15.out)) hrl (Rd.of_own ho5) (by unfold Hid; intro h; cases h) (by unfold Hid; exact own_nilcap ho5)
        rw [hm] at hcall
        have hmb := plansF_le loans halls (by rw [hl1.out]; exact h15) (f := f) (by omega) (left.set k (v - 1)) (head ++ [(k : Int)])
        rw [hm] at hmb
        obtain ⟨hm0, hm1⟩ := hmb
        simp only at hm0 hm1
        have HM := Lib.hid hm
        have HCall := Lib.hid hcall
        clear hset hrl hap hcall hm IH ho5 he5 hll2
        go_wp2_with fail
        refine HCall.out.mono ?_
        rintro e w6 ⟨v6, rfl, he6, ho6⟩
        simp only at ho6
        clear HCall
        have hs5 := HE15.out.size
        have HO6 := Lib.hid (own_weak (base' := w.heap.size) ho6 (by omega))
        have HBack := Lib.hid (HBr1.out.trans (HE15.out.trans he6))
        clear ho6 he6
        cases hzz : (z == 0)
        case false =>
          have hstep : Hid ((z + m, L) = plansTo loans halls f left head (k + 1)) := by
            unfold Hid; rw [plansTo_succ, planStep, hoff.out, ← hz.out, ← HV.out, HM.out]; simp only [hzz, Bool.false_and, Bool.false_eq_true, if_false]
          go_wp2_with fail
          go_roundw
          case rel => exact ⟨k + 1, z + m, L, by omega, by go_num, rfl, own_keep HO.out HBack.out, hstep.out, HB.out.trans HBack.out⟩
          case measure => simp [intOf]; omega
        case true =>
          by_cases hmp : 0 < m
          · have hstep : Hid ((z + m, L5) = plansTo loans halls f left head (k + 1)) := by
              unfold Hid; rw [plansTo_succ, planStep, hoff.out, ← hz.out, ← HV.out, HM.out]; simp only [hzz, hmp, decide_true, Bool.true_and, Bool.false_eq_true, if_false, if_true]
            go_wp2_with fail
            go_roundw
            case rel => exact ⟨k + 1, z + m, L5, by omega, by go_num, rfl, HO6.out, hstep.out, HB.out.trans HBack.out⟩
            case measure => simp [intOf]; omega
          · have hstep : Hid ((z + m, L) = plansTo loans halls f left head (k + 1)) := by
              unfold Hid; rw [plansTo_succ, planStep, hoff.out, ← hz.out, ← HV.out, HM.out]; simp only [hzz, hmp, decide_false, Bool.and_false, Bool.false_eq_true, if_false]
            go_wp2_with fail
            go_roundw
            case rel => exact ⟨k + 1, z + m, L, by omega, by go_num, rfl, own_keep HO.out HBack.out, hstep.out, HB.out.trans HBack.out⟩
            case measure => simp [intOf]; omega
      · obtain rfl : k = n1 := by omega
        go_wp2_with fail
        go_ret2
        refine ⟨u12, ?_, hb, ?_⟩
        · rw [plansF_succ, hl1.out, ← hz.out]; rfl
        · rw [plansF_succ, hl1.out, ← hz.out]; exact hown
end Go.Proofs.Ytlgmiifpdjalpaa
