/- Contracts of the enumeration of plans; no condition but what stands at each theorem. -/
import Derived.Test.YtlgmiifpdjalpaaS10
import Derived.Test.YtlgmiifpdjalpaaS5
import Derived.Test.YtlgmiifpdjalpaaM2
import Derived.Test.YtlgmiifpdjalpaaK8
namespace Go.Proofs.Ytlgmiifpdjalpaa
set_option linter.unusedSimpArgs false
set_option linter.unusedVariables false
open Go.RowKit Go.Sort
/-- The count of plans and the first one have been told. -/
def PlansPost (p : Int × List Int) (w : World) (e : Ending) (w' : World) : Prop := ∃ v, e = .returned (.tuple #[.int .i64 p.1, v]) ∧ Ext w w' ∧ w'.ownsRow w.heap.size 3 1 v p.2.length (p.2.flatMap ienc)
set_option maxRecDepth 100000 in
set_option maxHeartbeats 4000000 in
theorem impl_plans (loans : List GLoan) (halls : List GClimate) (A0 : Option Addr) (n0 c0 : Nat) (A1 : Option Addr) (n1 c1 : Nat) (gl c2 : Nat) (h06 : n0 ≤ 6) (h15 : n1 ≤ 5) :
    ∀ (f : Nat) (left head : List Int) (A3 : Option Addr) (n3 c3 : Nat) (w : World), n3 + f = n0 → Hid (∀ j, 0 ≤ left.getD j 0 ∧ left.getD j 0 ≤ 6) → Hid (left.length = n1) → PBlk w gl 3 left →
      Rd w 4 A0 n0 (loans.flatMap GLoan.enc) → Rd w 3 A1 n1 (halls.flatMap GClimate.enc) → Rd w 1 A3 n3 (head.flatMap ienc) → Hid (A3 = none → c3 = 0) →
      Hid (0 < n0 → ∀ b off, A0 = some ⟨b, off, none⟩ → b ≠ gl) → Hid (0 < n1 → ∀ b off, A1 = some ⟨b, off, none⟩ → b ≠ gl) → Hid (0 < n3 → ∀ b off, A3 = some ⟨b, off, none⟩ → b ≠ gl) → n1 ≤ c2 → n3 ≤ c3 → 
      Calls Try.prog 124 #[.slice A0 n0 c0, .slice A1 n1 c1, .slice (some ⟨gl, 0, none⟩) n1 c2, .slice A3 n3 c3] w (PlansPost (plansF loans halls f left head) w) := by
  intro f
  induction f with
  | zero =>
    intro left head A3 n3 c3 w hf hlb hll hbl hx0 hx1 hx3 hnc ho0 ho1 ho3 hc2 hc3
    obtain rfl : n3 = n0 := by omega
    have hl3 := Lib.hid (hx3.len ienc_len (by omega))
    have HE := Lib.hid (own_empty w w.heap.size 3 1 (Nat.le_refl _))
    have HX := Lib.hid (hx3.alloc (.cells #[] 3))
    clear hx0 hx1 hx3
    go_enter Try.func124, Try.ntmps124
    go_wp2_with (at_builtin; refine appendRd ei_int rfl _ _ rfl w.heap.size _ _ 0 [] (by rfl) HE.out A3 n3 c3 (head.flatMap ienc) (by rfl) HX.out hnc.out (one_ienc _) (by omega) (by simp) ?_; intro v' w1 ho he; have Ho := Lib.hid ho; have He := Lib.hid he; clear ho he)
    go_ret2
    have he := He.out
    have ho := Ho.out
    refine ⟨v', rfl, he w ((Ext.refl w).alloc _) (Nat.le_refl _), ?_⟩
    have : (plansF loans halls 0 left head).2 = head := rfl
    rw [this, hl3.out]
    simpa using ho
  | succ f ih =>
    intro left head A3 n3 c3 w hf hlb hll hbl hx0 hx1 hx3 hnc ho0 ho1 ho3 hc2 hc3
    have hlt3 : n3 < n0 := by omega
    have b3 : ((n3 : Int) == (n0 : Int)) = false := by rw [beq_eq_false_iff_ne]; omega
    have hl0 := Lib.hid (hx0.len GLoan.len (by omega))
    have hl1 := Lib.hid (hx1.len GClimate.len (by omega))
    have hl3 := Lib.hid (hx3.len ienc_len (by omega))
    have IH := Lib.hid ih
    clear ih
    go_enter Try.func124, Try.ntmps124
    go_wp2_with fail
    go_loopw [11, 12, 28] (fun cn fs i wr => ∃ (k : Nat) (z : Int) (L : List Int), k ≤ n1 ∧ i = .int .i64 k ∧ cn = .int .i64 z ∧ wr.ownsRow w.heap.size 3 1 fs L.length (L.flatMap ienc) ∧ Hid ((z, L) = plansTo loans halls f left head k) ∧ Ext w wr) (fun _ _ i _ => n1 - (intOf i).toNat)
    case atStart => exact ⟨0, 0, [], Nat.zero_le _, rfl, rfl, World.ownsRow_nil _ _ _ _, rfl, Ext.refl _⟩
    case round =>
      obtain ⟨k, z, L, hk, rfl, rfl, hown, hz, hb⟩ := hrel
      have hzb := plansTo_le loans halls (by rw [hl1.out]; exact h15) (f := f) (by omega) left head k
      rw [← hz.out] at hzb
      obtain ⟨hz0, hz1, hz2⟩ := hzb
      simp only at hz0 hz1 hz2
      have HZ2 := Lib.hid hz2
      clear hz2
      by_cases hlt : k < n1
      · obtain ⟨b, off, l, rfl, hbs, hlk, g0, g1, g2, g3⟩ := GLoan.at_ (hx0.keep hb) hlt3
        obtain ⟨b1, off1, c, rfl, hbs1, hck, q0, q1, q2⟩ := GClimate.at_ (hx1.keep hb) hlt
        have HL := Lib.hid (getD_of (d := ⟨0, 0, 0, 0⟩) hlk)
        have HC := Lib.hid (getD_of (d := ⟨0, 0, 0⟩) hck)
        clear hlk hck
        have HO := Lib.hid hown
        have HB := Lib.hid hb
        have hbk := hbl.keep hb
        clear hown hb
        have sL := hbk.cell (i := k) (by rw [hll.out]; exact hlt)
        obtain ⟨v, hv⟩ : ∃ v, v = left.getD k 0 := ⟨_, rfl⟩
        rw [← hv] at sL
        have hvb := hlb.out k
        rw [← hv] at hvb
        obtain ⟨hv0, hv1⟩ := hvb
        have HV := Lib.hid hv
        have hgl := hbk.lt
        have HBK := Lib.hid hbk
        clear hv hbk
        go_wp2_with fail
        obtain ⟨wb, hwb⟩ : ∃ wb, wb = wr.alloc (.cells #[.int .i64 c.l, .int .i64 c.h, .int .i64 c.g] 36) := ⟨_, rfl⟩
        rw [← hwb]
        have HBb : Hid (Ext wr wb) := by unfold Hid; rw [hwb]; exact (Ext.refl _).alloc _
        have k0 : wb.cell? ⟨wr.heap.size, 0, none⟩ = some (.int .i64 c.l) := by rw [hwb]; simp [World.cell?_alloc_at]
        have k1 : wb.cell? ⟨wr.heap.size, 1, none⟩ = some (.int .i64 c.h) := by rw [hwb]; simp [World.cell?_alloc_at]
        have k2 : wb.cell? ⟨wr.heap.size, 2, none⟩ = some (.int .i64 c.g) := by rw [hwb]; simp [World.cell?_alloc_at]
        clear hwb
        have e0 := cell_regrown (((HBb.out.cellAt b hbs) _).trans g0)
        have e1 := cell_regrown (((HBb.out.cellAt b hbs) _).trans g1)
        have e2 := cell_regrown (((HBb.out.cellAt b hbs) _).trans g2)
        have e3 := cell_regrown (((HBb.out.cellAt b hbs) _).trans g3)
        have e4 := cell_regrown k0
        have e5 := cell_regrown k1
        have e6 := cell_regrown k2
        have e7 := cell_regrown (((HBb.out.cellAt gl hgl) _).trans sL)
        have cR := impl_Breaches l c
        clear g0 g1 g2 g3 q0 q1 q2 k0 k1 k2 sL
        cases hv2 : (v == 0)
        case true =>
          have hoff : Hid (offB loans halls left head k = true) := by unfold Hid offB; rw [← HV.out, hv2]; rfl
          (refine wp_region_ext (by kernel_rfl) (by kernel_rfl) ?_; (repeat (go_big_quiet_step (first | (go_at_call 22; with_reducible exact Calls.rg (cR _))))); refine wpQuiet_nil ?_)
          intro w1 hb1
          go_wp2_with fail
          go_roundw
          case rel => exact ⟨k + 1, z, L, by omega, by go_num, rfl, own_keep HO.out (HBb.out.trans hb1), by unfold Hid; rw [plansTo_succ, planStep, hoff.out, ← hz.out]; rfl, HB.out.trans (HBb.out.trans hb1)⟩
          case measure => simp [intOf]; omega
        cases hbr : (breach l c != 0)
        case true =>
          have hoff : Hid (offB loans halls left head k = true) := by unfold Hid offB; rw [hl3.out, HL.out, HC.out, hbr]; simp
          (refine wp_region_ext (by kernel_rfl) (by kernel_rfl) ?_; (repeat (go_big_quiet_step (first | (go_at_call 22; with_reducible exact Calls.rg (cR _))))); refine wpQuiet_nil ?_)
          intro w1 hb1
          go_wp2_with fail
          go_roundw
          case rel => exact ⟨k + 1, z, L, by omega, by go_num, rfl, own_keep HO.out (HBb.out.trans hb1), by unfold Hid; rw [plansTo_succ, planStep, hoff.out, ← hz.out]; rfl, HB.out.trans (HBb.out.trans hb1)⟩
          case measure => simp [intOf]; omega
        have hoff : Hid (offB loans halls left head k = false) := by unfold Hid offB; rw [hl3.out, HL.out, HC.out, hbr, ← HV.out, hv2]; rfl
        (refine wp_region_ext (by kernel_rfl) (by kernel_rfl) ?_; (repeat (go_big_quiet_step (first | (go_at_call 22; with_reducible exact Calls.rg (cR _))))); refine wpQuiet_nil ?_)
        intro w1 hb1
        clear e0 e1 e2 e3 e4 e5 e6 e7 cR hbr
        have hv3 : v ≠ 0 := by simpa using hv2
        clear hv2
        have HBK1 := Lib.hid (HBK.out.keep (HBb.out.trans hb1))
        have HB1 := Lib.hid (HB.out.trans (HBb.out.trans hb1))
        have HBr1 := Lib.hid (HBb.out.trans hb1)
        clear hb1
        have s0 := HBK1.out.cell (i := k) (by rw [hll.out]; exact hlt)
        rw [← HV.out] at s0
        have s1 := HBK1.out.free k
        have hgl1 := HBK1.out.lt
        have hcut := run_cut3 (P := Try.prog) (t := 31) (e := 3) (s := 1) Try.underlying31 (fun _ => by kernel_rfl) hx3 hc3
        obtain ⟨w2, hw2⟩ : ∃ w2, w2 = w1.setCell ⟨gl, k, none⟩ (.int .i64 (v - 1)) := ⟨_, rfl⟩
        have HX3 : Hid (Rd w2 1 A3 n3 (head.flatMap ienc)) := by unfold Hid; rw [hw2]; exact (hx3.keep HB1.out).far _ _ ho3.out
        have Hsz : Hid (w2.heap.size = w1.heap.size) := by unfold Hid; rw [hw2]; simp [World.setCell]
        have HBK2 : Hid (PBlk w2 gl 3 (left.set k (v - 1))) := by unfold Hid; rw [hw2]; exact HBK1.out.set k (v - 1)
        have hxa := (hx0.keep HB1.out).far ⟨gl, k, none⟩ (.int .i64 (v - 1)) ho0.out
        have hxb := (hx1.keep HB1.out).far ⟨gl, k, none⟩ (.int .i64 (v - 1)) ho1.out
        rw [← hw2] at hxa hxb
        have HXa := Lib.hid hxa
        have HXb := Lib.hid hxb
        have HW2 := Lib.hid hw2
        clear hw2 hxa hxb
        go_wp2_with (at_builtin; rw [← HW2.out]; refine appendCap ei_int rfl _ _ rfl w2 _ A3 n3 (head.flatMap ienc) (by rfl) HX3.out [.int .i64 k] (by rw [Hsz.out]; rfl) rfl (by intro u hu; simp at hu; subst hu; rfl) (by omega) ?_; intro v4 w4 ho4 he4; obtain ⟨A4, c4, rfl, hnc4⟩ := own_form ho4; have Ho4 := Lib.hid ho4; have He4 := Lib.hid he4; clear ho4 he4)
        have hset : ∀ j, (left.set k (v - 1)).getD j 0 = if j = k then v - 1 else left.getD j 0 := by
          intro j
          by_cases h : k = j
          · subst h; simp [hll.out, hlt]
          · rw [if_neg (Ne.symm h)]; simp [h]
        have HSet := Lib.hid hset
        have hat := At.of_own Ho4.out
        have hrd4 := Rd.of_own Ho4.out
        have hap : head.flatMap ienc ++ [.int .i64 (k : Int)] = (head ++ [(k : Int)]).flatMap ienc := by rw [List.flatMap_append]; rfl
        rw [hap] at hrd4
        obtain ⟨m, L5, hm⟩ : ∃ m L5, plansF loans halls f (left.set k (v - 1)) (head ++ [(k : Int)]) = (m, L5) := ⟨_, _, rfl⟩
        have hcall := IH.out (left.set k (v - 1)) (head ++ [(k : Int)]) A4 (n3 + 1) c4 w4 (by omega) (by unfold Hid; intro j; rw [hset]; have := hlb.out j; split <;> omega) (by unfold Hid; rw [List.length_set]; exact hll.out) (HBK2.out.keep He4.out) (HXa.out.keep He4.out) (HXb.out.keep He4.out) hrd4 (by unfold Hid; exact own_nilcap Ho4.out) ho0 ho1
          (by unfold Hid; intro _ b off hA; have := (hat b (by rw [hA]; rfl)).1; rw [Hsz.out] at this; omega) hc2 hnc4
        rw [hm] at hcall
        have hmb := plansF_le loans halls (by rw [hl1.out]; exact h15) (f := f) (by omega) (left.set k (v - 1)) (head ++ [(k : Int)])
        rw [hm] at hmb
        obtain ⟨hm0, hm1⟩ := hmb
        simp only at hm0 hm1
        have HM := Lib.hid hm
        have HCall := Lib.hid hcall
        clear hset hat hrd4 hap hcall hm IH
        go_wp2_with fail
        refine HCall.out.mono ?_
        rintro e w5 ⟨v5, rfl, he5, ho5⟩
        simp only at ho5
        clear HCall
        have hbk5 := (HBK2.out.keep He4.out).keep he5
        have s5 := hbk5.cell (i := k) (by rw [List.length_set, hll.out]; exact hlt)
        rw [HSet.out k, if_pos rfl] at s5
        have f5 := hbk5.free k
        have hgl5 := hbk5.lt
        have hback : Ext w1 (w5.setCell ⟨gl, k, none⟩ (.int .i64 (left.getD k 0))) := HBK1.out.back (by rw [hll.out]; exact hlt) (x := .int .i64 (v - 1)) (by rw [← HW2.out]; exact He4.out.trans he5)
        rw [← HV.out] at hback
        have hs4 : w1.heap.size ≤ w4.heap.size := by have := He4.out.size; rw [Hsz.out] at this; exact this
        have hs1 := HB1.out.size
        have HO5 := Lib.hid (own_weak (base' := w.heap.size) (own_far ho5 (g := gl) (k := k) (by omega) (.int .i64 v)) (by omega))
        have HBack := Lib.hid hback
        clear hbk5 hback ho5 he5 s0 s1
        cases hzz : (z == 0)
        case false =>
          have hstep : Hid ((z + m, L) = plansTo loans halls f left head (k + 1)) := by
            unfold Hid; rw [plansTo_succ, planStep, hoff.out, ← hz.out, ← HV.out, HM.out]; simp only [hzz, Bool.false_and, Bool.false_eq_true, if_false]
          go_wp2_with fail
          go_roundw
          case rel => exact ⟨k + 1, z + m, L, by omega, by go_num, rfl, own_keep HO.out (HBr1.out.trans HBack.out), hstep.out, HB1.out.trans HBack.out⟩
          case measure => simp [intOf]; omega
        case true =>
          by_cases hmp : 0 < m
          · have hstep : Hid ((z + m, L5) = plansTo loans halls f left head (k + 1)) := by
              unfold Hid; rw [plansTo_succ, planStep, hoff.out, ← hz.out, ← HV.out, HM.out]; simp only [hzz, hmp, decide_true, Bool.true_and, Bool.false_eq_true, if_false, if_true]
            go_wp2_with fail
            go_roundw
            case rel => exact ⟨k + 1, z + m, L5, by omega, by go_num, rfl, HO5.out, hstep.out, HB1.out.trans HBack.out⟩
            case measure => simp [intOf]; omega
          · have hstep : Hid ((z + m, L) = plansTo loans halls f left head (k + 1)) := by
              unfold Hid; rw [plansTo_succ, planStep, hoff.out, ← hz.out, ← HV.out, HM.out]; simp only [hzz, hmp, decide_false, Bool.and_false, Bool.false_eq_true, if_false]
            go_wp2_with fail
            go_roundw
            case rel => exact ⟨k + 1, z + m, L, by omega, by go_num, rfl, own_keep HO.out (HBr1.out.trans HBack.out), hstep.out, HB1.out.trans HBack.out⟩
            case measure => simp [intOf]; omega
      · obtain rfl : k = n1 := by omega
        go_wp2_with fail
        go_ret2
        refine ⟨u12, ?_, hb, ?_⟩
        · rw [plansF_succ, hl1.out, ← hz.out]; rfl
        · rw [plansF_succ, hl1.out, ← hz.out]; exact hown
end Go.Proofs.Ytlgmiifpdjalpaa
