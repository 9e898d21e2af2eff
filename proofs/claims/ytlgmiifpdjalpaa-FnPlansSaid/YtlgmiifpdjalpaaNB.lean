/- The walk of the law on plans; no condition. -/
import Derived.Test.YtlgmiifpdjalpaaSW2
import Derived.Test.YtlgmiifpdjalpaaSW4
import Derived.Test.YtlgmiifpdjalpaaMO
import Derived.Test.YtlgmiifpdjalpaaKW
namespace Go.Proofs.Ytlgmiifpdjalpaa
set_option linter.unusedSimpArgs false
set_option linter.unusedVariables false
open Go.RowKit
/-- A row is appended to one of the call's own in a drawn region. -/
theorem step_appS {P : Program} {ops : Array Oper} {o : Oper} {a : Act} {K : Act → World → Prop} {Q : Exit → Act → World → Prop} {E : Prop} {t e : TypeId} {m : Nat} (hE : EI P t e m) (hgd : o.guard = none) (s x : Operand)
    (ho : o.op = .call { callee := .builtin .append, args := #[s, x], argTypes := #[t, t] }) (base : Nat) (W : World) (v : Value) (n : Nat) (xs : List Value) (hs : a.eval s = v) (hown : W.ownsRow base e m v n xs)
    (ad : Addr) (k c : Nat) (ys : List Value) (hx : a.eval x = .slice (some ad) k c) (hl : ys.length = k * m) (hc : ∀ j u, ys[j]? = some u → W.cell? (ad.add j) = some u) (h1 : ∀ u ∈ ys, u.oneCell' = true) (hn : n + k ≤ 1073741824) (hbase : base ≤ W.heap.size)
    (h : ∀ v' w1, w1.ownsRow base e m v' (n + k) (xs ++ ys) → W.grownBy w1 v.ownBlock → K (a.put o.dst v') w1) :
    if Region.wanted o (yielded ops a.tmps) = true then Oper.wp P o a W K Q else E := by
  obtain ⟨i, z, hu, hi, hz, hsz, hby, hzs, h0⟩ := hE
  rw [if_pos (by simp [Region.wanted, hgd])]
  refine wp_append_own W s x t ho base e i z m i.bytes hu hi hz hsz rfl hzs h0 v n xs hs hown ad k c ys hx hl hc h1 (by unfold maxLen; omega) ?_ hbase ?_
  · have := Nat.mul_le_mul_left (n + k) hby
    omega
  · intro v' w1 ho' hg _
    exact h v' w1 ho' hg
theorem cells_take {α : Type} {enc : α → List Value} {w : World} {ad : Addr} {L : List α} (h : ∀ j u, (L.flatMap enc)[j]? = some u → w.cell? (ad.add j) = some u) (k : Nat) : ∀ j u, ((L.take k).flatMap enc)[j]? = some u → w.cell? (ad.add j) = some u := by
  intro j u hu
  apply h
  conv => lhs; rw [← List.take_append_drop k L]
  rw [List.flatMap_append, List.getElem?_append_left (List.getElem?_eq_some_iff.1 hu).1]
  exact hu
theorem cells_drop {α : Type} {enc : α → List Value} {m : Nat} (hm : ∀ x, (enc x).length = m) {w : World} {b off : Nat} {L : List α} (h : ∀ j u, (L.flatMap enc)[j]? = some u → w.cell? ((⟨b, off, none⟩ : Addr).add j) = some u) {k : Nat} (hk : k ≤ L.length) : ∀ j u, ((L.drop k).flatMap enc)[j]? = some u → w.cell? ((⟨b, off + k * m, none⟩ : Addr).add j) = some u := by
  intro j u hu
  have hl : ((L.take k).flatMap enc).length = k * m := by rw [flat_len enc m hm, List.length_take, Nat.min_eq_left hk]
  have := h (k * m + j) u (by
    conv => lhs; rw [← List.take_append_drop k L]
    rw [List.flatMap_append, List.getElem?_append_right (by omega), hl, Nat.add_sub_cancel_left]
    exact hu)
  rw [add_none] at this ⊢
  rw [Nat.add_assoc]
  exact this
set_option maxRecDepth 100000 in
set_option maxHeartbeats 2000000 in
theorem law_FnPlans (A : Option Addr) (n c : Nat) (bs : List UInt8) (w : World) (hx : Rd w 1 A n (bs.flatMap bencU)) :
    Calls Try.prog 7 #[.slice A n c] w fun e w' => e = .returned (.bool true) ∧ Ext w w' := by
  by_cases hbig : 1048576 < n
  case pos =>
    go_enter Try.func7, Try.ntmps7
    go_wp2_with (refine (laws_big A n c _).mono ?_; rintro e w1 ⟨he, rfl⟩; rw [decide_eq_true hbig] at he; subst he)
    go_ret
    exact ⟨rfl, Ext.refl _⟩
  case neg =>
  have hxb := rd_bytes hx
  have hbd := bytes_bd bs
  obtain ⟨xs, hxs⟩ : ∃ xs, xs = bs.map fun b => (b.toNat : Int) := ⟨_, rfl⟩
  rw [← hxs] at hxb hbd
  clear hxs hx
  have cD := Lib.hid (spec_DrawExhibition A n c xs w hxb hbd (by omega))
  clear hxb hbd
  go_enter Try.func7, Try.ntmps7
  go_wp2_with (go_at_call 17; refine (fun h : Hid _ => h.out) ?_)
  unfold Hid
  refine (laws_big A n c _).mono ?_
  rintro e w0 ⟨he, rfl⟩
  rw [decide_eq_false hbig] at he
  subst he
  go_wp2_with (go_at_call 45; refine (fun h : Hid _ => h.out) ?_)
  unfold Hid
  refine cD.out.mono ?_
  rintro e w1 ⟨Al, cl, loans, Ah, ch, halls, Ar, cr, room, rfl, hr1, hr2, hr3, hnc, hl4, hv, he1⟩
  have RL := Lib.hid hr1
  have RH := Lib.hid hr2
  have RR := Lib.hid hr3
  have HNC := Lib.hid hnc
  have HE1 := Lib.hid he1
  have hall := Lib.hid (plan_law hv)
  have hfst := Lib.hid (fun h => plans_first (loans := loans) (halls := halls) (room := room) hv h)
  have hnn := plans_nn hv
  have HV := Lib.hid hv
  have cF := Lib.hid (fun W (e : Ext w1 W) => impl_FirstPlan Al loans.length cl loans Ah halls.length ch halls Ar halls.length cr room W (hr1.keep e) (hr2.keep e) (hr3.keep e) HNC)
  have cC := Lib.hid (fun W (e : Ext w1 W) => impl_CountPlans Al loans.length cl loans Ah halls.length ch halls Ar halls.length cr room W (hr1.keep e) (hr2.keep e) (hr3.keep e) HNC)
  have cL := Lib.hid (fun W (e : Ext w1 W) => impl_LeastConflict Al loans.length cl loans Ah halls.length ch halls Ar halls.length cr room W (hr1.keep e) (hr2.keep e) (hr3.keep e) HNC)
  have cP := Lib.hid (fun W (e : Ext w1 W) A3 n3 c3 plan (hp : Rd W 1 A3 n3 (plan.flatMap ienc)) => impl_PlanOk Al loans.length cl loans Ah halls.length ch halls Ar halls.length cr room A3 n3 c3 plan W (hr1.keep e) (hr2.keep e) (hr3.keep e) hp)
  have cC2 := Lib.hid (fun W (e : Ext w1 W) A0 n0 c0 some (hp : Rd W 4 A0 n0 (some.flatMap GLoan.enc)) => impl_CountPlans A0 n0 c0 some Ah halls.length ch halls Ar halls.length cr room W hp (hr2.keep e) (hr3.keep e) HNC)
  clear cD hr1 hr2 hr3 hnc he1 hv
  obtain ⟨N, hN⟩ : ∃ N, N = (plansAll loans halls room).1 := ⟨_, rfl⟩
  obtain ⟨PL, hPL⟩ : ∃ PL, PL = (plansAll loans halls room).2 := ⟨_, rfl⟩
  obtain ⟨C, hC⟩ : ∃ C, C = leastC loans halls room := ⟨_, rfl⟩
  rw [← hN] at hall hfst hnn cF cC
  rw [← hPL] at hfst cF
  rw [← hC] at hall cL
  clear hN hPL hC
  go_wp2_with (go_at_call 46; refine (fun h : Hid _ => h.out) ?_)
  unfold Hid
  refine (cF.out _ (Ext.refl _)).mono ?_
  rintro e w2 ⟨v2, rfl, hb2, ho2⟩
  obtain ⟨A2, c2, rfl, hc2⟩ := own_form ho2
  have HB2 := Lib.hid hb2
  have RP := Lib.hid (Rd.of_own ho2)
  clear hb2 ho2
  go_wp2_with (go_at_call 47; refine (fun h : Hid _ => h.out) ?_)
  unfold Hid
  refine (cC.out _ HB2.out).mono ?_
  rintro e w3 ⟨rfl, hb3⟩
  have HB3 := Lib.hid (HB2.out.trans hb3)
  have RP3 := Lib.hid (RP.out.keep hb3)
  clear hb3 RP
  go_wp2_with (go_at_call 48; refine (fun h : Hid _ => h.out) ?_)
  unfold Hid
  refine (cL.out _ HB3.out).mono ?_
  rintro e w4 ⟨v4, rfl, hb4, ho4⟩
  obtain ⟨A4, c4, rfl, hc4⟩ := own_form ho4
  have HB4 := Lib.hid (HB3.out.trans hb4)
  have RP4 := Lib.hid (RP3.out.keep hb4)
  have RC := Lib.hid (Rd.of_own ho4)
  clear hb4 ho4 RP3 cF cC cL
  by_cases hpos : 0 < N
  case pos =>
    have hC0 : C = [] := hall.out.1.1 hpos
    subst hC0
    have cP1 := Lib.hid (cP.out w4 HB4.out _ _ c2 PL RP4.out)
    rw [hfst.out hpos] at cP1
    have hn1 : 1 ≤ N := by omega
    have hdec : decide (0 < N) = true := decide_eq_true hpos
    have hgt : decide (N > 0) = true := decide_eq_true hpos
    clear hall hfst
    go_wp2_with (go_at_call 49; refine (fun h : Hid _ => h.out) ?_)
    unfold Hid
    refine cP1.out.mono ?_
    rintro e w5 ⟨rfl, hb5⟩
    have HB5 := Lib.hid (HE1.out.trans (HB4.out.trans hb5))
    clear hb5
    go_wp2_with fail
    go_loopw [10, 11] (fun ov kv wr => ∃ (k : Nat), k ≤ 0 ∧ kv = .int .i64 k ∧ Hid (Ext w wr)) (fun _ kv _ => 0 - (intOf kv).toNat)
    case atStart => exact ⟨0, Nat.zero_le _, rfl, Lib.hid (HB5.out.alloc _)⟩
    case round =>
      obtain ⟨k, hk, rfl, hb⟩ := hrel
      obtain rfl : k = 0 := by omega
      go_wp2_with fail
      go_ret
      exact ⟨ret_bool (by first | (simp; done) | (simp; omega)), hb.out⟩
  case neg =>
  have hN0 : N = 0 := by omega
  subst hN0
  have hC1 : 1 ≤ C.length := by
    rcases Nat.eq_zero_or_pos C.length with h | h
    · exact absurd (hall.out.1.2 (List.length_eq_zero_iff.1 h)) hpos
    · exact h
  have hC6 : C.length ≤ 6 := hall.out.2.2.2.2
  have hsrt := Lib.hid hall.out.2.1
  have hrng := Lib.hid hall.out.2.2.1
  have hmin := Lib.hid (hall.out.2.2.2.1 rfl).1
  have hzer := Lib.hid (hall.out.2.2.2.1 rfl).2
  have hC0 : ¬ C.length = 0 := by omega
  have hC0b : ((C.length : Int) == 0) = false := beq_false_of_ne (by omega)
  have hd0 : decide ((0 : Int) < 0) = false := rfl
  have RL4 := Lib.hid (RL.out.keep HB4.out)
  have HW4 := Lib.hid (HE1.out.trans HB4.out)
  clear hall hfst hnn hpos cP RP4
  rw [hd0]
  go_wp2_with fail
  go_loopw [10, 11] (fun ov kv wr => ∃ (k : Nat) (L : List GLoan), k ≤ C.length ∧ kv = .int .i64 k ∧ Hid (L = (C.take k).map (loanAt loans)) ∧ Hid (L.length = k) ∧ Hid (wr.ownsRow w4.heap.size 25 4 ov k (L.flatMap GLoan.enc)) ∧ Hid (Ext w4 wr)) (fun _ kv _ => C.length - (intOf kv).toNat)
  case atStart => exact ⟨0, [], Nat.zero_le _, rfl, Lib.hid rfl, Lib.hid rfl, Lib.hid (own_empty w4 w4.heap.size 25 4 (Nat.le_refl _)), Lib.hid ((Ext.refl _).alloc _)⟩
  case round =>
    obtain ⟨k, L, hk, rfl, hL, hLk, hown, hb⟩ := hrel
    by_cases hlt : k < C.length
    · obtain ⟨gc, oc, z, hAe, hgs, hzk, p0⟩ := ienc_at (RC.out.keep hb.out) hlt
      subst hAe
      have hz := hrng.out z (List.mem_of_getElem? hzk)
      obtain ⟨q, rfl⟩ := Int.eq_ofNat_of_zero_le hz.1
      have hq : q < loans.length := by omega
      obtain ⟨gl, ol, l, hBe, hgl, hlk, g0, g1, g2, g3⟩ := GLoan.at_ (RL4.out.keep hb.out) hq
      subst hBe
      have HL1 : Hid ((C.take (k + 1)).map (loanAt loans) = L ++ [l]) := Lib.hid (by
        rw [take_snoc hzk, List.map_append, ← hL.out]
        simp only [List.map_cons, List.map_nil]
        rw [show loanAt loans ((q : Nat) : Int) = l by unfold loanAt; rw [Int.toNat_natCast]; exact getD_of hlk])
      have hlti : (k : Int) < C.length := by omega
      have hq0 : ¬ (q : Int) < 0 := by omega
      have hq1 : ¬ (loans.length : Int) ≤ q := by omega
      have hq0c : decide ((q : Int) < 0) = false := decide_eq_false hq0
      have hq1c : decide ((loans.length : Int) ≤ q) = false := decide_eq_false hq1
      have hqi : (q : Int) < loans.length := by omega
      have hq1n : ¬ loans.length ≤ q := by omega
      have hq1m : decide (loans.length ≤ q) = false := decide_eq_false hq1n
      have hsz : w4.heap.size ≤ wr.heap.size := hb.out.size
      have P0 := Lib.hid p0
      have G0 := Lib.hid g0
      have G1 := Lib.hid g1
      have G2 := Lib.hid g2
      have G3 := Lib.hid g3
      have e4 := cell_regrown p0
      by_cases hk0 : 0 < k
      · obtain ⟨j, rfl⟩ : ∃ j, k = j + 1 := ⟨k - 1, by omega⟩
        obtain ⟨gc', oc', z', hCe, hgs', hzk', p0'⟩ := ienc_at (RC.out.keep hb.out) (show j < C.length by omega)
        simp at hCe
        obtain ⟨rfl, rfl⟩ := hCe
        have hlp : z' < (q : Int) := by
          have h := (List.pairwise_iff_getElem.1 hsrt.out) j (j + 1) (by omega) hlt (by omega)
          have h1 := (List.getElem?_eq_some_iff.1 hzk').2
          have h2 := (List.getElem?_eq_some_iff.1 hzk).2
          rw [h1, h2] at h
          exact h
        have e5 := cell_regrown p0'
        have hnl : ¬ (q : Int) ≤ z' := by omega
        have hnc' : decide ((q : Int) ≤ z') = false := decide_eq_false hnl
        have ew : IntKind.i64.wrap (((j + 1 : Nat) : Int) - 1) = (j : Int) := by rw [IntWalk.i64_in _ (by omega)]; push_cast; omega
        have ew2 : IntKind.i64.wrap ((j : Int) + 1 - 1) = (j : Int) := by rw [IntWalk.i64_in _ (by omega)]; omega
        have hji : (j : Int) < C.length := by omega
        have hji1 : (j : Int) + 1 < C.length := by omega
        have hj0 : (0 : Int) < (j : Int) + 1 := by omega
        have hj1 : (1 : Int) ≤ (j : Int) + 1 := by omega
        have hjl : j < C.length := by omega
        clear hz hzk hlk p0 g0 g1 g2 g3 hzk' p0' hlp
        go_wp2_with fail
        (refine wp_region_ext (by kernel_rfl) (by kernel_rfl) ?_; (repeat (go_big_quiet_step (first | fail))); refine wpQuiet_nil ?_)
        intro w10 hb10
        clear e4 e5 hnl hnc' ew ew2 hji hji1 hj0 hj1 hq0 hq1 hq0c hq1c hq1n hq1m
        have hb10' := hb.out.trans hb10
        have p0 := (hb10.cellAt gc hgs _).trans P0.out
        have g0 := (hb10.cellAt gl hgl _).trans G0.out
        have g1 := (hb10.cellAt gl hgl _).trans G1.out
        have g2 := (hb10.cellAt gl hgl _).trans G2.out
        have g3 := (hb10.cellAt gl hgl _).trans G3.out
        have HB10 := Lib.hid hb10'
        (try simp only [Nat.add_zero] at p0)
        have HO10 := Lib.hid (own_keep hown.out hb10)
        have hsz10 : w4.heap.size ≤ w10.heap.size := hb10'.size
        clear hb10 hb10'
        go_wp2_with (at_builtin; refine (fun h : Hid _ => h.out) ?_)
        unfold Hid
        refine append1 ei_Loan rfl _ _ rfl w4.heap.size w10 _ _ (j + 1) _ (by rfl) HO10.out (GLoan.enc l) (by rfl) rfl (one_GLoan1 l) (by omega) hsz10 ?_
        intro v11 w11 ho11 he11
        have HO11 := Lib.hid ho11
        have HE11 := Lib.hid (he11 w4 HB10.out (Nat.le_refl _))
        clear ho11 he11 p0 g0 g1 g2 g3
        go_wp2_with fail
        go_roundw
        case rel => exact ⟨j + 1 + 1, L ++ [l], by omega, by go_num, Lib.hid HL1.out.symm, Lib.hid (by have := hLk.out; rw [List.length_append, List.length_singleton]; omega), Lib.hid (by have h := HO11.out; rw [List.flatMap_append]; simpa using h), HE11⟩
        case measure => simp [intOf] <;> omega
      · obtain rfl : k = 0 := by omega
        have e4' := cell_regrown p0
        simp only [Nat.add_zero] at e4'
        clear hz hzk hlk p0 g0 g1 g2 g3
        go_wp2_with fail
        (refine wp_region_ext (by kernel_rfl) (by kernel_rfl) ?_; (repeat (go_big_quiet_step (first | fail))); refine wpQuiet_nil ?_)
        intro w10 hb10
        clear e4 e4' hq0 hq1 hq0c hq1c hq1n hq1m
        have hb10' := hb.out.trans hb10
        have p0 := (hb10.cellAt gc hgs _).trans P0.out
        have g0 := (hb10.cellAt gl hgl _).trans G0.out
        have g1 := (hb10.cellAt gl hgl _).trans G1.out
        have g2 := (hb10.cellAt gl hgl _).trans G2.out
        have g3 := (hb10.cellAt gl hgl _).trans G3.out
        have HB10 := Lib.hid hb10'
        (try simp only [Nat.add_zero] at p0)
        have HO10 := Lib.hid (own_keep hown.out hb10)
        have hsz10 : w4.heap.size ≤ w10.heap.size := hb10'.size
        clear hb10 hb10'
        go_wp2_with (at_builtin; refine (fun h : Hid _ => h.out) ?_)
        unfold Hid
        refine append1 ei_Loan rfl _ _ rfl w4.heap.size w10 _ _ (0) _ (by rfl) HO10.out (GLoan.enc l) (by rfl) rfl (one_GLoan1 l) (by omega) hsz10 ?_
        intro v11 w11 ho11 he11
        have HO11 := Lib.hid ho11
        have HE11 := Lib.hid (he11 w4 HB10.out (Nat.le_refl _))
        clear ho11 he11 p0 g0 g1 g2 g3
        go_wp2_with fail
        go_roundw
        case rel => exact ⟨0 + 1, L ++ [l], by omega, by go_num, Lib.hid HL1.out.symm, Lib.hid (by have := hLk.out; rw [List.length_append, List.length_singleton]; omega), Lib.hid (by have h := HO11.out; rw [List.flatMap_append]; simpa using h), HE11⟩
        case measure => simp [intOf] <;> omega
    · obtain rfl : k = C.length := by omega
      have hLC : L = C.map (loanAt loans) := by have := hL.out; rwa [List.take_of_length_le (Nat.le_refl _)] at this
      rw [← hLC] at hmin hzer
      clear hLC hL
      obtain ⟨As, cs, rfl, hcs⟩ := own_form hown.out
      have ho := hown.out
      rcases own_block ho with ⟨_, h0, _⟩ | ⟨g, cur, rfl, _⟩
      · omega
      have RS := Lib.hid (Rd.of_own ho)
      have HW5 := Lib.hid (HW4.out.trans hb.out)
      have HX5 := Lib.hid (HB4.out.trans hb.out)
      clear ho hown hb
      go_wp2_with fail
      obtain ⟨wq, rfl⟩ : ∃ wq, wq = wr := ⟨_, rfl⟩
      go_loopw [12] (fun kv wr => ∃ (k : Nat), k ≤ C.length ∧ kv = .int .i64 k ∧ Hid (Ext wq wr)) (fun kv _ => C.length - (intOf kv).toNat)
      case atStart => exact ⟨0, Nat.zero_le _, rfl, Lib.hid (Ext.refl _)⟩
      case round =>
        obtain ⟨k, hk, rfl, hb⟩ := hrel
        by_cases hlt : k < C.length
        · have hlti : (k : Int) < C.length := by omega
          have RSk := Lib.hid (RS.out.keep hb.out)
          have hpk := Lib.hid (hmin.out k hlt)
          have ew : IntKind.i64.wrap ((k : Int) + 1) = (k : Int) + 1 := by rw [IntWalk.i64_in _ (by omega)]
          have RSd := Lib.hid (((RSk.out.alloc (.cells #[] 25)).drew).cells ⟨g, 0, none⟩ rfl)
          have hTl : Hid (((L.take k).flatMap GLoan.enc).length = k * 4) := Lib.hid (by have := hLk.out; rw [flat_len GLoan.enc 4 GLoan.len, List.length_take]; congr 1; omega)
          have hDl : Hid (((L.drop (k + 1)).flatMap GLoan.enc).length = (C.length - (k + 1)) * 4) := Lib.hid (by have := hLk.out; rw [flat_len GLoan.enc 4 GLoan.len, List.length_drop]; congr 1; omega)
          have HOe := Lib.hid (own_keep (own_empty wr wr.heap.size 25 4 (Nat.le_refl _)) (Ext.refl _).drew)
          obtain ⟨ad, had, hadc⟩ : ∃ ad : Addr, (if cs = k + 1 then some (⟨g, 0, none⟩ : Addr) else some ⟨g, (k + 1) * 4, none⟩) = some ad ∧ ∀ W, Ext wr W → ∀ j u, ((L.drop (k + 1)).flatMap GLoan.enc)[j]? = some u → W.cell? (ad.add j) = some u := by
            by_cases hck : cs = k + 1
            · refine ⟨_, if_pos hck, fun W he j u hu => ?_⟩
              rw [List.drop_of_length_le (by have := hLk.out; omega)] at hu
              simp at hu
            · refine ⟨_, if_neg hck, fun W he j u hu => ?_⟩
              have h := cells_drop (m := 4) GLoan.len (b := g) (off := 0) ((RSk.out.keep he).cells ⟨g, 0, none⟩ rfl) (k := k + 1) (by have := hLk.out; omega) j u hu
              rw [Nat.zero_add] at h
              exact h
          have HAD := Lib.hid had
          have HADC := Lib.hid hadc
          clear hadc
          obtain ⟨pc, hpc⟩ : ∃ pc, pc = (plansAll (L.take k ++ L.drop (k + 1)) halls room).1 := ⟨_, rfl⟩
          have cK := Lib.hid (fun W A6 n6 c6 (e : Ext wr W) (h : Rd W 4 A6 n6 ((L.take k).flatMap GLoan.enc ++ (L.drop (k + 1)).flatMap GLoan.enc)) => cC2.out W ((HX5.out.trans hb.out).trans e) A6 n6 c6 (L.take k ++ L.drop (k + 1)) (by rw [List.flatMap_append]; exact h))
          rw [← hpc] at cK hpk
          have hnlt : ¬ pc < 1 := by have := hpk.out; omega
          have hnd : decide (pc < 1) = false := decide_eq_false hnlt
          clear hpc
          have s0 : (0 : Int) ≤ k := by omega
          have s1 : (k : Int) ≤ cs := by omega
          have s2 : (0 : Int) ≤ (k : Int) + 1 := by omega
          have s3 : (k : Int) + 1 ≤ C.length := by omega
          have s4 : k ≤ cs := by omega
          have s5 : k + 1 ≤ C.length := by omega
          go_wp2_with fail
          go_region_held3 (fun w' => Ext wr w') (first | exact he7 | exact he6 | exact he5 | exact ((Ext.refl wr).alloc _).drew | exact (Ext.refl wr).drew) (first
            | (refine step_appS ei_Loan (by rfl) _ _ (by rfl) wr.heap.size (wr.alloc (.cells #[] 25)).drew (.slice (some ⟨wr.heap.size, 0, none⟩) 0 0) 0 [] (by rfl) HOe.out ⟨g, 0, none⟩ k cs ((L.take k).flatMap GLoan.enc) (by rfl) hTl.out (cells_take RSd.out k) (one_GLoan _) (by omega) (by show wr.heap.size ≤ (wr.alloc _).heap.size; rw [heap_size_alloc]; omega) ?_; intro v5 w5 ho5 hg5; have he5 : Ext wr w5 := Ext.grown ((Ext.refl wr).alloc _).drew hg5 (fun q hq => (HOe.out.lt q hq).1))
            | (refine step_appS ei_Loan (by rfl) _ _ (by rfl) wr.heap.size w5 v5 (0 + k) _ (by rfl) ho5 ad (C.length - (k + 1)) (cs - (k + 1)) ((L.drop (k + 1)).flatMap GLoan.enc) (by first | rfl | (rw [← HAD.out]; rfl)) hDl.out (HADC.out _ he5) (one_GLoan _) (by omega) he5.size ?_; intro v6 w6 ho6 hg6; have he6 : Ext wr w6 := Ext.grown he5 hg6 (fun q hq => (ho5.lt q hq).1))
            | (obtain ⟨A6, c6, hv6, hc6⟩ := own_form ho6; subst hv6; go_at_call 47; refine (cK.out w6 A6 _ c6 he6 (by simpa using Rd.of_own ho6)).mono ?_; rintro e w7 ⟨rfl, hb7⟩; have he7 : Ext wr w7 := he6.trans hb7))
          have HB7 := Lib.hid (hb.out.trans (he6.trans hb7))
          clear ho5 hg5 ho6 hg6 he5 he6 hb7
          go_wp2_with fail
          go_roundw
          case rel => exact ⟨k + 1, by omega, by go_num, HB7⟩
          case measure => simp [intOf]; omega
        · obtain rfl : k = C.length := by omega
          have cZ := Lib.hid (cC2.out _ (HX5.out.trans hb.out) _ _ cs L (RS.out.keep hb.out))
          rw [hzer.out] at cZ
          have HWZ := Lib.hid (HW5.out.trans hb.out)
          go_wp2_with (go_at_call 47; refine (fun h : Hid _ => h.out) ?_)
          unfold Hid
          refine cZ.out.mono ?_
          rintro e w6 ⟨rfl, hb6⟩
          have HB6 := Lib.hid (HWZ.out.trans hb6)
          clear hb6
          go_wp2_with fail
          go_ret
          exact ⟨by rfl, HB6.out⟩
end Go.Proofs.Ytlgmiifpdjalpaa
