/- The walk of the law on stocks; no condition. -/
import Derived.Test.YtlgmiifpdjalpaaSW2
import Derived.Test.YtlgmiifpdjalpaaSG3
namespace Go.Proofs.Ytlgmiifpdjalpaa
set_option linter.unusedSimpArgs false
set_option linter.unusedVariables false
open Go.RowKit Go.Sort
def thereB (p hall lo hi : Int) (s : GStay) : Bool := ((s.p == p) && (s.h == hall)) && (decide (s.f ≤ hi) && decide (lo ≤ s.t))
theorem one_check {xs : List GCheck} : ∀ u ∈ xs.flatMap GCheck.enc, u.oneCell' = true := by
  intro u hu
  obtain ⟨x, _, hx⟩ := List.mem_flatMap.1 hu
  simp [GCheck.enc] at hx
  rcases hx with rfl | rfl | rfl <;> rfl
set_option maxRecDepth 100000 in
set_option maxHeartbeats 2000000 in
theorem law_FnStocks (A : Option Addr) (n c : Nat) (bs : List UInt8) (w : World) (hx : Rd w 1 A n (bs.flatMap bencU)) :
    Calls Try.prog 15 #[.slice A n c] w fun e w' => e = .returned (.bool true) ∧ Ext w w' := by
  by_cases hbig : 1048576 < n
  case pos =>
    go_enter Try.func15, Try.ntmps15
    go_wp2_with (refine (laws_big A n c _).mono ?_; rintro e w1 ⟨he, rfl⟩; rw [decide_eq_true hbig] at he; subst he)
    go_ret
    exact ⟨rfl, Ext.refl _⟩
  case neg =>
  have hxb := rd_bytes hx
  have hbd := bytes_bd bs
  obtain ⟨xs, hxs⟩ : ∃ xs, xs = bs.map fun b => (b.toNat : Int) := ⟨_, rfl⟩
  rw [← hxs] at hxb hbd
  clear hxs hx
  have HX := Lib.hid hxb
  have HBD := Lib.hid hbd
  have cD := Lib.hid (spec_DrawStock A n c xs w hxb hbd (by omega))
  have cA0 : Hid (∀ W, Ext w W → Calls Try.prog 63 #[.slice A n c, .int .i64 0] W fun e w' => ∃ z : Int, e = .returned (.int .i64 z) ∧ 0 ≤ z ∧ z ≤ 255 ∧ Ext W w') := Lib.hid (fun W e => laws_at A n c xs 0 W (HX.out.keep e) HBD.out (by omega) (by omega))
  have cA1 : Hid (∀ W, Ext w W → Calls Try.prog 63 #[.slice A n c, .int .i64 1] W fun e w' => ∃ z : Int, e = .returned (.int .i64 z) ∧ 0 ≤ z ∧ z ≤ 255 ∧ Ext W w') := Lib.hid (fun W e => laws_at A n c xs 1 W (HX.out.keep e) HBD.out (by omega) (by omega))
  clear hxb hbd HX HBD
  go_enter Try.func15, Try.ntmps15
  go_wp2_with (go_at_call 17; refine (fun h : Hid _ => h.out) ?_)
  unfold Hid
  refine (laws_big A n c _).mono ?_
  rintro e w0 ⟨he, rfl⟩
  rw [decide_eq_false hbig] at he
  subst he
  go_wp2_with (go_at_call 68; refine (fun h : Hid _ => h.out) ?_)
  unfold Hid
  refine cD.out.mono ?_
  rintro e w1 ⟨v, L, v2, S, rfl, hb1, ho1, hL10, hLm, ho2, hS10⟩
  obtain ⟨Av, cv, rfl, hcv⟩ := own_form ho1
  obtain ⟨As, cs, rfl, hcs⟩ := own_form ho2
  have RC := Lib.hid (Rd.of_own ho1)
  have RS := Lib.hid (Rd.of_own ho2)
  have HNC := Lib.hid (own_nilcap ho1)
  have HLM := Lib.hid hLm
  have HB1 := Lib.hid hb1
  clear ho1 ho2 hLm hb1 cD
  go_wp2_with (go_at_call 63; refine (fun h : Hid _ => h.out) ?_)
  unfold Hid
  refine (cA0.out _ HB1.out).mono ?_
  rintro e w2 ⟨z0, rfl, h00, h01, hb2⟩
  have HB2 := Lib.hid hb2
  clear hb2 cA0
  go_wp2_with (go_at_call 63; refine (fun h : Hid _ => h.out) ?_)
  unfold Hid
  refine (cA1.out _ (HB1.out.trans HB2.out)).mono ?_
  rintro e w3 ⟨z1, rfl, h10, h11, hb3⟩
  have HB3 := Lib.hid (HB2.out.trans hb3)
  clear hb3 cA1 HB2
  obtain ⟨o, ho, ho3⟩ : ∃ o : Nat, (o : Int) = z0 % 3 ∧ o < 3 := ⟨(z0 % 3).toNat, by omega, by omega⟩
  obtain ⟨hall, hh⟩ : ∃ hall, hall = z1 % 2 := ⟨_, rfl⟩
  go_wp2_with (go_at_call 69; refine (fun h : Hid _ => h.out) ?_)
  unfold Hid
  rw [← ho, ← hh]
  clear hh h00 h01 h10 h11
  have HO := Lib.hid ho
  clear ho
  refine (impl_LastSeen Av L.length cv L o w3 (RC.out.keep HB3.out)).mono ?_
  rintro e w4 ⟨rfl, hb4⟩
  have HB4 := Lib.hid (HB3.out.trans hb4)
  clear hb4 HB3
  go_wp2_with (go_at_call 70; refine (fun h : Hid _ => h.out) ?_)
  unfold Hid
  refine (impl_FirstMissed Av L.length cv L o w4 (RC.out.keep HB4.out)).mono ?_
  rintro e w5 ⟨rfl, hb5⟩
  have HB5 := Lib.hid (HB4.out.trans hb5)
  clear hb5 HB4
  go_wp2_with (go_at_call 71; refine (fun h : Hid _ => h.out) ?_)
  unfold Hid
  refine (impl_Suspects As S.length cs S hall Av L.length cv L o w5 (RS.out.keep HB5.out) (RC.out.keep HB5.out) (by omega)).mono ?_
  rintro e w6 ⟨v6, rfl, hb6, ho6⟩
  have HB6 := Lib.hid (HB5.out.trans hb6)
  obtain ⟨P, hP⟩ : ∃ P, P = suspL S hall L o := ⟨_, rfl⟩
  obtain ⟨ls, hls⟩ : ∃ ls, ls = lastSeen L o := ⟨_, rfl⟩
  obtain ⟨fm, hfm⟩ : ∃ fm, fm = firstMissed L o := ⟨_, rfl⟩
  rw [← hP] at ho6
  rw [← hls, ← hfm]
  obtain ⟨Ap, cp, rfl, hcp⟩ := own_form ho6
  have RP := Lib.hid (Rd.of_own ho6)
  have hmb := missed_bool L o
  have hgt := missed_gt L o
  have hob := missed_obj L o ho3
  have hin : Hid (∀ x ∈ P, ∃ s ∈ S, s.p = x ∧ s.h = hall ∧ s.f ≤ fm ∧ imax 0 ls ≤ s.t) := by rw [hP, hfm, hls]; exact fun x hx => susp_there hx
  have hPl : P.length ≤ 10 := by rw [hP]; exact Nat.le_trans (suspL_len ..) hS10
  have hsrt : Hid (P.Pairwise (· < ·)) := by rw [hP]; exact susp_sorted _ _ _ _
  have hPn : ¬ 0 ≤ fm → P = [] := fun h => by rw [hP]; unfold suspL; rw [if_neg (by rw [← hfm]; exact h)]
  have hall_ : Hid (∀ c ∈ L, c.o = (o : Int) → c.th = true → c.m ≤ ls) := by rw [hls]; exact last_all L o
  have haf1 := Lib.hid (last_after HLM.out o)
  have haf2 := Lib.hid (missed_after HLM.out o)
  have hlg : -1 ≤ ls := by rw [hls]; exact last_ge L o
  have cM := Lib.hid (fun W (e : Ext w1 W) => impl_IsMissing Av L.length cv L o W (RC.out.keep e))
  have cO := Lib.hid (fun W (e : Ext w1 W) => impl_MissingObjects Av L.length cv L 3 W (RC.out.keep e))
  rw [← hfm] at hmb hgt hob
  rw [← hls] at hgt
  rw [← hfm, hmb] at cM
  have HOB := Lib.hid hob
  clear hb6 ho6 HB5 hP hls hfm hmb hob
  by_cases hq : 0 ≤ fm
  case neg =>
    have hP0 := hPn hq
    subst hP0
    rw [decide_eq_false hq] at cM HOB
    replace hq : fm < 0 := by omega
    clear hPn hgt
    go_wp2_with (go_at_call 72; refine (fun h : Hid _ => h.out) ?_)
    unfold Hid
    refine (cM.out _ HB6.out).mono ?_
    rintro e w7 ⟨rfl, hb7⟩
    have HB7 := Lib.hid (HB6.out.trans hb7)
    have HC7 := Lib.hid hb7
    clear hb7
    go_wp2_with (go_at_call 42; refine (fun h : Hid _ => h.out) ?_)
    unfold Hid
    refine (cO.out _ HB7.out).mono ?_
    rintro e w8 ⟨v8, rfl, hb8, ho8⟩
    obtain ⟨A8, c8, rfl, hc8⟩ := own_form ho8
    have HB8 := Lib.hid (HB7.out.trans hb8)
    have HC8 := Lib.hid (HC7.out.trans hb8)
    clear hb8
    go_wp2_with (go_at_call 21; refine (fun h : Hid _ => h.out) ?_)
    unfold Hid
    refine (laws_hasL A8 _ c8 _ o w8 (Rd.of_own ho8)).mono ?_
    rintro e w9 ⟨he, hb9⟩
    rw [HOB.out] at he
    subst he
    have HE9 := Lib.hid (HC8.out.trans hb9)
    clear hb9 ho8
    go_wp2_with fail
    refine wp_loop_rounds 1 ?_
    rw [rounds_succ]
    go_wp2_with fail
    go_loopw [13] (fun iv wr => ∃ k : Nat, k ≤ L.length ∧ iv = .int .i64 k ∧ Ext w6 wr) (fun iv _ => L.length - (intOf iv).toNat)
    case atStart => exact ⟨0, Nat.zero_le _, rfl, HE9.out⟩
    case round =>
      obtain ⟨k, hk, rfl, hb⟩ := hrel
      have HK := Lib.hid (HB6.out.trans hb)
      have HK6 := Lib.hid hb
      clear hb
      by_cases hlt : k < L.length
      · obtain ⟨b, off, x, rfl, hbs, hxk, q0, q1, q2⟩ := GCheck.at_ (RC.out.keep HK.out) hlt
        obtain ⟨xm, xo, xt⟩ := x
        simp only at q0 q1 q2
        have hbad := hall_.out _ (List.mem_of_getElem? hxk)
        simp only at hbad
        have hlti : (k : Int) < L.length := by omega
        clear hxk
        by_cases e0 : xo = (o : Int)
        · subst e0
          cases xt
          · clear hbad
            go_wp2_with fail
            go_roundw
            case rel => exact ⟨k + 1, by omega, by go_num, HK6.out⟩
            case measure => simp [intOf]; omega
          · have hle := hbad rfl rfl
            have hnl : ¬ ls < xm := by omega
            clear hbad hle
            go_wp2_with fail
            go_roundw
            case rel => exact ⟨k + 1, by omega, by go_num, HK6.out⟩
            case measure => simp [intOf]; omega
        · have e0b : (xo == (o : Int)) = false := beq_false_of_ne e0
          have e0c : decide (xo = (o : Int)) = false := decide_eq_false e0
          clear hbad
          go_wp2_with fail
          go_roundw
          case rel => exact ⟨k + 1, by omega, by go_num, HK6.out⟩
          case measure => simp [intOf]; omega
      · obtain rfl : k = L.length := by omega
        clear hall_
        go_wp2_with (at_builtin; refine (fun h : Hid _ => h.out) ?_)
        unfold Hid
        have hw1 : w1.heap.size ≤ wr.heap.size := HK.out.size
        refine appendRd ei_Check rfl _ _ rfl wr.heap.size (wr.alloc (.cells #[] 97)) _ 0 [] (by rfl) (own_empty wr wr.heap.size 97 3 (Nat.le_refl _)) Av L.length cv (L.flatMap GCheck.enc) (by rfl) ((RC.out.keep HK.out).alloc _) HNC.out one_check (by omega) (by simp) ?_
        intro v10 w10 ho10 he10
        have HE10 := Lib.hid (he10 w1 (HK.out.alloc _) hw1)
        have z10 : wr.heap.size ≤ w10.heap.size := (he10 wr ((Ext.refl wr).alloc _) (Nat.le_refl _)).size
        rw [Nat.zero_add, List.nil_append] at ho10
        have HO10 := Lib.hid ho10
        clear ho10 he10
        go_wp2_with (at_builtin; refine (fun h : Hid _ => h.out) ?_)
        unfold Hid
        refine append1g ei_Check rfl _ _ rfl wr.heap.size w10 _ _ L.length _ (by rfl) HO10.out (GCheck.enc ⟨1000, (o : Int), true⟩) (by rfl) rfl (by intro u hu; simp [GCheck.enc] at hu; rcases hu with rfl | rfl | rfl <;> rfl) (by omega) z10 ?_
        intro v11 w11 row ho11 hg11 hr11
        have HE11 := Lib.hid (HE10.out.grown hg11 (fun q hq => Nat.le_trans hw1 (hr11 q hq)))
        obtain ⟨A11, c11, rfl, hc11⟩ := own_form ho11
        have hR11 : Rd w11 3 A11 (L.length + 1) ((L ++ [(⟨1000, (o : Int), true⟩ : GCheck)]).flatMap GCheck.enc) := by rw [List.flatMap_append]; simpa using Rd.of_own ho11
        have R11 := Lib.hid hR11
        have cL := Lib.hid (impl_LastSeen A11 (L.length + 1) c11 (L ++ [(⟨1000, (o : Int), true⟩ : GCheck)]) o w11 hR11)
        rw [haf1.out] at cL
        clear ho11 hg11 hr11 hR11
        go_wp2_with (go_at_call 69; refine (fun h : Hid _ => h.out) ?_)
        unfold Hid
        refine cL.out.mono ?_
        rintro e w12 ⟨rfl, hb12⟩
        have cI := Lib.hid (impl_IsMissing A11 (L.length + 1) c11 (L ++ [(⟨1000, (o : Int), true⟩ : GCheck)]) o w12 (R11.out.keep hb12))
        rw [haf2.out] at cI
        have HE12 := Lib.hid (HE11.out.trans hb12)
        clear hb12
        go_wp2_with (go_at_call 72; refine (fun h : Hid _ => h.out) ?_)
        unfold Hid
        refine cI.out.mono ?_
        rintro e w13 ⟨rfl, hb13⟩
        have HE13 := Lib.hid (HB1.out.trans (HE12.out.trans hb13))
        clear hb13
        go_wp2_with fail
        go_ret
        exact ⟨by rfl, HE13.out⟩
  case pos =>
    rw [decide_eq_true hq] at cM HOB
    have hgt2 : ls < fm := by omega
    clear hPn hgt
    go_wp2_with (go_at_call 72; refine (fun h : Hid _ => h.out) ?_)
    unfold Hid
    refine (cM.out _ HB6.out).mono ?_
    rintro e w7 ⟨rfl, hb7⟩
    have HB7 := Lib.hid (HB6.out.trans hb7)
    have HC7 := Lib.hid hb7
    clear hb7
    have hgt3 : ¬ fm ≤ ls := by omega
    have hq2 : ¬ fm < 0 := by omega
    go_wp2_with (go_at_call 42; refine (fun h : Hid _ => h.out) ?_)
    unfold Hid
    refine (cO.out _ HB7.out).mono ?_
    rintro e w8 ⟨v8, rfl, hb8, ho8⟩
    obtain ⟨A8, c8, rfl, hc8⟩ := own_form ho8
    have HB8 := Lib.hid (HB7.out.trans hb8)
    have HC8 := Lib.hid (HC7.out.trans hb8)
    clear hb8
    go_wp2_with (go_at_call 21; refine (fun h : Hid _ => h.out) ?_)
    unfold Hid
    refine (laws_hasL A8 _ c8 _ o w8 (Rd.of_own ho8)).mono ?_
    rintro e w9 ⟨he, hb9⟩
    rw [HOB.out] at he
    subst he
    have HE9 := Lib.hid (HC8.out.trans hb9)
    clear hb9 ho8
    go_wp2_with fail
    clear hq hq2 hgt2 hgt3
    have hmx := @run_imax Try.prog
    obtain ⟨lo, hlo⟩ : ∃ lo, lo = imax 0 ls := ⟨_, rfl⟩
    rw [← hlo] at hin
    have HLO := Lib.hid hlo
    clear hlo
    go_loopw [10] (fun kv wr => ∃ (k : Nat), k ≤ P.length ∧ kv = .int .i64 k ∧ Ext w6 wr) (fun kv _ => P.length - (intOf kv).toNat)
    case atStart => exact ⟨0, Nat.zero_le _, rfl, HE9.out⟩
    case round =>
      obtain ⟨k, hk, rfl, hb⟩ := hrel
      have HK := Lib.hid hb
      clear hb
      by_cases hlt : k < P.length
      · obtain ⟨pb, po, p, hPe, hpb, hpk, p0⟩ := ienc_at RP.out hlt
        subst hPe
        have hpin := hin.out p (List.mem_of_getElem? hpk)
        have hlti : (k : Int) < P.length := by omega
        have HPK := Lib.hid hpk
        have P0 := Lib.hid p0
        clear hpk p0
        go_wp2_with fail
        obtain ⟨wq, rfl⟩ : ∃ wq, wq = wr := ⟨_, rfl⟩
        go_loopw [11, 12] (fun tv iv wr => ∃ (i : Nat) (t : Bool), i ≤ S.length ∧ iv = .int .i64 i ∧ tv = .bool t ∧ Hid (t = (S.take i).any (thereB p hall lo fm)) ∧ Ext wq wr) (fun _ iv _ => S.length - (intOf iv).toNat)
        case atStart => exact ⟨0, false, Nat.zero_le _, rfl, rfl, by unfold Hid; simp, Ext.refl _⟩
        case round =>
          obtain ⟨i, t, hi, rfl, rfl, ht, hb⟩ := hrel
          have HI := Lib.hid hb
          have HKI := Lib.hid (HK.out.trans hb)
          clear hb
          by_cases hli : i < S.length
          · obtain ⟨b, off, x, rfl, hbs, hxk, q0, q1, q2, q3⟩ := GStay.at_ (RS.out.keep (HB6.out.trans HKI.out)) hli
            obtain ⟨xp, xh, xf, xt⟩ := x
            simp only at q0 q1 q2 q3
            have HN : Hid ((S.take (i + 1)).any (thereB p hall lo fm) = ((S.take i).any (thereB p hall lo fm) || thereB p hall lo fm ⟨xp, xh, xf, xt⟩)) := by
              unfold Hid; rw [List.take_add_one, hxk, Option.toList_some, List.any_append]; simp
            have pk := (HKI.out.cellAt pb hpb _).trans P0.out
            have lpb : pb < wr.heap.size := by have := HKI.out.size; omega
            have hlii : (i : Int) < S.length := by omega
            have e0 := cell_regrown q0
            have e1 := cell_regrown q1
            have e2 := cell_regrown q2
            have e3 := cell_regrown q3
            have e4 := cell_regrown pk
            rw [← ht.out] at HN
            clear hxk ht
            cases t
            case true =>
              go_wp2_with fail
              (refine wp_region_ext (by kernel_rfl) (by kernel_rfl) ?_; (repeat (go_big_quiet_step (first | fail))); refine wpQuiet_nil ?_)
              intro w10 hb10
              go_wp2_with fail
              go_roundw
              case rel => exact ⟨i + 1, true, by omega, by go_num, rfl, by unfold Hid; rw [HN.out]; rfl, HI.out.trans hb10⟩
              case measure => simp [intOf]; omega
            case false =>
            rw [Bool.false_or] at HN
            by_cases d0 : xp = p
            case neg =>
              have d0b : (xp == p) = false := beq_false_of_ne d0
              have d0c : decide (xp = p) = false := decide_eq_false d0
              have HF : Hid (thereB p hall lo fm ⟨xp, xh, xf, xt⟩ = false) := by simp [Hid, thereB, d0]
              go_wp2_with fail
              (refine wp_region_ext (by kernel_rfl) (by kernel_rfl) ?_; (repeat (go_big_quiet_step (first | fail))); refine wpQuiet_nil ?_)
              intro w10 hb10
              go_wp2_with fail
              go_roundw
              case rel => exact ⟨i + 1, false, by omega, by go_num, rfl, by unfold Hid; rw [HN.out, HF.out], HI.out.trans hb10⟩
              case measure => simp [intOf]; omega
            case pos =>
            subst d0
            by_cases d1 : xh = hall
            case neg =>
              have d1b : (xh == hall) = false := beq_false_of_ne d1
              have d1c : decide (xh = hall) = false := decide_eq_false d1
              have HF : Hid (thereB xp hall lo fm ⟨xp, xh, xf, xt⟩ = false) := by simp [Hid, thereB, d1]
              go_wp2_with fail
              (refine wp_region_ext (by kernel_rfl) (by kernel_rfl) ?_; (repeat (go_big_quiet_step (first | fail))); refine wpQuiet_nil ?_)
              intro w10 hb10
              go_wp2_with fail
              go_roundw
              case rel => exact ⟨i + 1, false, by omega, by go_num, rfl, by unfold Hid; rw [HN.out, HF.out], HI.out.trans hb10⟩
              case measure => simp [intOf]; omega
            case pos =>
            subst d1
            by_cases d2 : xf ≤ fm
            case neg =>
              have d2c : decide (xf ≤ fm) = false := decide_eq_false d2
              have HF : Hid (thereB xp xh lo fm ⟨xp, xh, xf, xt⟩ = false) := by simp [Hid, thereB]; omega
              replace d2 : fm < xf := by omega
              go_wp2_with fail
              (refine wp_region_ext (by kernel_rfl) (by kernel_rfl) ?_; (repeat (go_big_quiet_step (first | fail))); refine wpQuiet_nil ?_)
              intro w10 hb10
              go_wp2_with fail
              go_roundw
              case rel => exact ⟨i + 1, false, by omega, by go_num, rfl, by unfold Hid; rw [HN.out, HF.out], HI.out.trans hb10⟩
              case measure => simp [intOf]; omega
            case pos =>
            have d2c : decide (xf ≤ fm) = true := decide_eq_true d2
            by_cases d3 : lo ≤ xt
            case neg =>
              have HF : Hid (thereB xp xh lo fm ⟨xp, xh, xf, xt⟩ = false) := by simp [Hid, thereB]; omega
              have d3' : ¬ imax 0 ls ≤ xt := by rw [← HLO.out]; exact d3
              have d3c : decide (imax 0 ls ≤ xt) = false := decide_eq_false d3'
              go_wp2_with fail
              (refine wp_region_ext (by kernel_rfl) (by kernel_rfl) ?_; (repeat (go_big_quiet_step (first | fail))); refine wpQuiet_nil ?_)
              intro w10 hb10
              go_wp2_with fail
              go_roundw
              case rel => exact ⟨i + 1, false, by omega, by go_num, rfl, by unfold Hid; rw [HN.out, HF.out], HI.out.trans hb10⟩
              case measure => simp [intOf]; omega
            case pos =>
              have HF : Hid (thereB xp xh lo fm ⟨xp, xh, xf, xt⟩ = true) := by simp [Hid, thereB]; omega
              have d3' : imax 0 ls ≤ xt := by rw [← HLO.out]; exact d3
              have d3c : decide (imax 0 ls ≤ xt) = true := decide_eq_true d3'
              go_wp2_with fail
              (refine wp_region_ext (by kernel_rfl) (by kernel_rfl) ?_; (repeat (go_big_quiet_step (first | fail))); refine wpQuiet_nil ?_)
              intro w10 hb10
              go_wp2_with fail
              go_roundw
              case rel => exact ⟨i + 1, true, by omega, by go_num, rfl, by unfold Hid; rw [HN.out, HF.out], HI.out.trans hb10⟩
              case measure => simp [intOf]; omega
          · obtain rfl : i = S.length := by omega
            have htt : t = true := by
              rw [ht.out, List.take_length, List.any_eq_true]
              obtain ⟨s, hs, h1, h2, h3, h4⟩ := hpin
              exact ⟨s, hs, by simp [thereB]; omega⟩
            subst htt
            have pk := (HKI.out.cellAt pb hpb _).trans P0.out
            have lpb : pb < wr.heap.size := by have := HKI.out.size; omega
            have e4 := cell_regrown pk
            clear ht
            by_cases hk0 : 0 < k
            · obtain ⟨j, rfl⟩ : ∃ j, k = j + 1 := ⟨k - 1, by omega⟩
              obtain ⟨pb', po', p', hPe, hpb', hpk', p0'⟩ := ienc_at RP.out (show j < P.length by omega)
              simp at hPe
              obtain ⟨rfl, rfl⟩ := hPe
              have hlp : p' < p := by
                have h := (List.pairwise_iff_getElem.1 hsrt.out) j (j + 1) (by omega) hlt (by omega)
                have h1 := (List.getElem?_eq_some_iff.1 hpk').2
                have h2 := (List.getElem?_eq_some_iff.1 HPK.out).2
                rw [h1, h2] at h
                exact h
              have pk' := (HKI.out.cellAt pb hpb _).trans p0'
              have e5 := cell_regrown pk'
              have hnl : ¬ p ≤ p' := by omega
              have hnc : decide (p ≤ p') = false := decide_eq_false hnl
              have ew : IntKind.i64.wrap (((j + 1 : Nat) : Int) - 1) = (j : Int) := by rw [IntWalk.i64_in _ (by omega)]; push_cast; omega
              have ew2 : IntKind.i64.wrap ((j : Int) + 1 - 1) = (j : Int) := by rw [IntWalk.i64_in _ (by omega)]; omega
              have hji : (j : Int) < P.length := by omega
              have hji1 : (j : Int) + 1 < P.length := by omega
              have hj0 : (0 : Int) < (j : Int) + 1 := by omega
              have hj1 : (1 : Int) ≤ (j : Int) + 1 := by omega
              have hjl : j < P.length := by omega
              clear hpk' p0'
              go_wp2_with fail
              (refine wp_region_ext (by kernel_rfl) (by kernel_rfl) ?_; (repeat (go_big_quiet_step (first | fail))); refine wpQuiet_nil ?_)
              intro w10 hb10
              go_wp2_with fail
              go_roundw
              case rel => exact ⟨j + 1 + 1, by omega, by go_num, HKI.out.trans hb10⟩
              case measure => simp [intOf]; omega
            · obtain rfl : k = 0 := by omega
              go_wp2_with fail
              (refine wp_region_ext (by kernel_rfl) (by kernel_rfl) ?_; (repeat (go_big_quiet_step (first | fail))); refine wpQuiet_nil ?_)
              intro w10 hb10
              go_wp2_with fail
              go_roundw
              case rel => exact ⟨0 + 1, by omega, by go_num, HKI.out.trans hb10⟩
              case measure => simp [intOf]; omega
      · obtain rfl : k = P.length := by omega
        obtain ⟨wq, rfl⟩ : ∃ wq, wq = wr := ⟨_, rfl⟩
        go_wp2_with fail
        go_loopw [13] (fun iv wr => ∃ k : Nat, k ≤ L.length ∧ iv = .int .i64 k ∧ Ext w6 wr) (fun iv _ => L.length - (intOf iv).toNat)
        case atStart => exact ⟨0, Nat.zero_le _, rfl, HK.out⟩
        case round =>
          obtain ⟨k, hk, rfl, hb⟩ := hrel
          have HK := Lib.hid (HB6.out.trans hb)
          have HK6 := Lib.hid hb
          clear hb
          by_cases hlt : k < L.length
          · obtain ⟨b, off, x, rfl, hbs, hxk, q0, q1, q2⟩ := GCheck.at_ (RC.out.keep HK.out) hlt
            obtain ⟨xm, xo, xt⟩ := x
            simp only at q0 q1 q2
            have hbad := hall_.out _ (List.mem_of_getElem? hxk)
            simp only at hbad
            have hlti : (k : Int) < L.length := by omega
            clear hxk
            by_cases e0 : xo = (o : Int)
            · subst e0
              cases xt
              · clear hbad
                go_wp2_with fail
                go_roundw
                case rel => exact ⟨k + 1, by omega, by go_num, HK6.out⟩
                case measure => simp [intOf]; omega
              · have hle := hbad rfl rfl
                have hnl : ¬ ls < xm := by omega
                clear hbad hle
                go_wp2_with fail
                go_roundw
                case rel => exact ⟨k + 1, by omega, by go_num, HK6.out⟩
                case measure => simp [intOf]; omega
            · have e0b : (xo == (o : Int)) = false := beq_false_of_ne e0
              have e0c : decide (xo = (o : Int)) = false := decide_eq_false e0
              clear hbad
              go_wp2_with fail
              go_roundw
              case rel => exact ⟨k + 1, by omega, by go_num, HK6.out⟩
              case measure => simp [intOf]; omega
          · obtain rfl : k = L.length := by omega
            clear hall_
            go_wp2_with (at_builtin; refine (fun h : Hid _ => h.out) ?_)
            unfold Hid
            have hw1 : w1.heap.size ≤ wr.heap.size := HK.out.size
            refine appendRd ei_Check rfl _ _ rfl wr.heap.size (wr.alloc (.cells #[] 97)) _ 0 [] (by rfl) (own_empty wr wr.heap.size 97 3 (Nat.le_refl _)) Av L.length cv (L.flatMap GCheck.enc) (by rfl) ((RC.out.keep HK.out).alloc _) HNC.out one_check (by omega) (by simp) ?_
            intro v10 w10 ho10 he10
            have HE10 := Lib.hid (he10 w1 (HK.out.alloc _) hw1)
            have z10 : wr.heap.size ≤ w10.heap.size := (he10 wr ((Ext.refl wr).alloc _) (Nat.le_refl _)).size
            rw [Nat.zero_add, List.nil_append] at ho10
            have HO10 := Lib.hid ho10
            clear ho10 he10
            go_wp2_with (at_builtin; refine (fun h : Hid _ => h.out) ?_)
            unfold Hid
            refine append1g ei_Check rfl _ _ rfl wr.heap.size w10 _ _ L.length _ (by rfl) HO10.out (GCheck.enc ⟨1000, (o : Int), true⟩) (by rfl) rfl (by intro u hu; simp [GCheck.enc] at hu; rcases hu with rfl | rfl | rfl <;> rfl) (by omega) z10 ?_
            intro v11 w11 row ho11 hg11 hr11
            have HE11 := Lib.hid (HE10.out.grown hg11 (fun q hq => Nat.le_trans hw1 (hr11 q hq)))
            obtain ⟨A11, c11, rfl, hc11⟩ := own_form ho11
            have hR11 : Rd w11 3 A11 (L.length + 1) ((L ++ [(⟨1000, (o : Int), true⟩ : GCheck)]).flatMap GCheck.enc) := by rw [List.flatMap_append]; simpa using Rd.of_own ho11
            have R11 := Lib.hid hR11
            have cL := Lib.hid (impl_LastSeen A11 (L.length + 1) c11 (L ++ [(⟨1000, (o : Int), true⟩ : GCheck)]) o w11 hR11)
            rw [haf1.out] at cL
            clear ho11 hg11 hr11 hR11
            go_wp2_with (go_at_call 69; refine (fun h : Hid _ => h.out) ?_)
            unfold Hid
            refine cL.out.mono ?_
            rintro e w12 ⟨rfl, hb12⟩
            have cI := Lib.hid (impl_IsMissing A11 (L.length + 1) c11 (L ++ [(⟨1000, (o : Int), true⟩ : GCheck)]) o w12 (R11.out.keep hb12))
            rw [haf2.out] at cI
            have HE12 := Lib.hid (HE11.out.trans hb12)
            clear hb12
            go_wp2_with (go_at_call 72; refine (fun h : Hid _ => h.out) ?_)
            unfold Hid
            refine cI.out.mono ?_
            rintro e w13 ⟨rfl, hb13⟩
            have HE13 := Lib.hid (HB1.out.trans (HE12.out.trans hb13))
            clear hb13
            go_wp2_with fail
            go_ret
            exact ⟨by rfl, HE13.out⟩
end Go.Proofs.Ytlgmiifpdjalpaa
