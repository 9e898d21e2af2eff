/- Contracts of the reference's LeastConflict and what it calls; no condition but what stands at each theorem. -/
import Derived.Test.YtlgmiifpdjalpaaS15
import Derived.Test.YtlgmiifpdjalpaaKB
namespace Go.Proofs.Ytlgmiifpdjalpaa
set_option linter.unusedSimpArgs false
set_option linter.unusedVariables false
open Go.RowKit Go.Sort
set_option maxRecDepth 100000 in
set_option maxHeartbeats 1000000 in
theorem spec_l19Less (A0 : Option Addr) (n0 c0 : Nat) (xs : List Int) (A1 : Option Addr) (n1 c1 : Nat) (ys : List Int) (w : World) (hx : Rd w 1 A0 n0 (xs.flatMap ienc)) (hy : Rd w 1 A1 n1 (ys.flatMap ienc)) :
    Calls Try.prog 103 #[.slice A0 n0 c0, .slice A1 n1 c1] w fun e w' => e = .returned (.bool (lessL xs ys)) ∧ Ext w w' := by
  have hn0 := hx.2.1
  have hn1 := hy.2.1
  have hl0 := Lib.hid (hx.len ienc_len (by omega))
  have hl1 := Lib.hid (hy.len ienc_len (by omega))
  go_enter Try.func103, Try.ntmps103
  go_wp2_with fail
  go_loopw [5] (fun i wr => ∃ k : Nat, k ≤ n0 ∧ k ≤ n1 ∧ i = .int .i64 k ∧ Hid (lessL xs ys = lessL (xs.drop k) (ys.drop k)) ∧ Ext w wr) (fun i _ => n0 - (intOf i).toNat)
  case atStart => exact ⟨0, Nat.zero_le _, Nat.zero_le _, rfl, rfl, Ext.refl _⟩
  case round =>
    obtain ⟨k, hk0, hk1, rfl, hz, hb⟩ := hrel
    by_cases hlt0 : k < n0
    case neg =>
      obtain rfl : k = n0 := by omega
      go_wp2_with fail
      go_ret
      refine ⟨ret_bool ?_, hb⟩
      rw [hz.out, drop_nil (by rw [hl0.out]; omega)]
      cases h : ys.drop k with
      | nil => have := congrArg List.length h; simp at this; rw [hl1.out] at this; simp [lessL]; omega
      | cons y r => have := congrArg List.length h; simp at this; rw [hl1.out] at this; simp [lessL]; omega
    by_cases hlt1 : k < n1
    case neg =>
      obtain rfl : k = n1 := by omega
      go_wp2_with fail
      go_ret
      refine ⟨ret_bool ?_, hb⟩
      rw [hz.out, drop_nil (xs := ys) (by rw [hl1.out]; omega)]
      cases h : xs.drop k with
      | nil => have := congrArg List.length h; simp at this; rw [hl0.out] at this; omega
      | cons y r => simp [lessL]; omega
    obtain ⟨b, off, x, rfl, hbs, hxk, h0⟩ := ienc_at (hx.keep hb) hlt0
    obtain ⟨b1, off1, y, rfl, hbs1, hyk, h1⟩ := ienc_at (hy.keep hb) hlt1
    have HX := Lib.hid (drop_cons hxk)
    have HY := Lib.hid (drop_cons hyk)
    have HB := Lib.hid hb
    clear hxk hyk hb
    cases hxy : (x != y)
    · go_wp2_with fail
      go_quiet (fail)
      go_wp2_with fail
      go_roundw
      case rel => exact ⟨k + 1, by omega, by omega, by go_num, by unfold Hid; rw [hz.out, HX.out, HY.out, lessL]; simp at hxy; simp [hxy], HB.out.drewN _⟩
      case measure => simp [intOf]; omega
    · go_wp2_with fail
      go_quiet (fail)
      go_wp2_with fail
      go_quiet (fail)
      go_wp2_with fail
      go_ret
      exact ⟨ret_bool (by rw [hz.out, HX.out, HY.out, lessL]; simp at hxy; simp [hxy]), (HB.out.drewN _).drewN _⟩
theorem ei_Loan' : EI Try.prog 64 25 4 := ei_of Try.underlying64 (by omega) (by kernel_rfl)
set_option maxRecDepth 100000 in
set_option maxHeartbeats 1000000 in
theorem spec_l34Some (A0 : Option Addr) (n0 c0 : Nat) (loans : List GLoan) (s : Nat) (w : World) (hx : Rd w 4 A0 n0 (loans.flatMap GLoan.enc)) (h06 : n0 ≤ 6) (hs : s < 64) :
    Calls Try.prog 102 #[.slice A0 n0 c0, .int .i64 s] w fun e w' => ∃ v, e = .returned v ∧ Ext w w' ∧ w'.ownsRow w.heap.size 25 4 v ((bitsL n0 s).map (loanAt loans)).length (((bitsL n0 s).map (loanAt loans)).flatMap GLoan.enc) := by
  have HE0 := Lib.hid (own_empty w w.heap.size 25 4 (Nat.le_refl _))
  go_enter Try.func102, Try.ntmps102
  go_wp2_with fail
  go_loopw [5, 6] (fun o i wr => ∃ (k : Nat) (L : List GLoan), k ≤ n0 ∧ i = .int .i64 k ∧ wr.ownsRow w.heap.size 25 4 o L.length (L.flatMap GLoan.enc) ∧ Hid (L = (((List.range k).filter (bitB s)).map fun (k : Nat) => (k : Int)).map (loanAt loans)) ∧ Hid (L.length ≤ k) ∧ Ext w wr) (fun _ i _ => n0 - (intOf i).toNat)
  case atStart => exact ⟨0, [], Nat.zero_le _, rfl, HE0.out, rfl, Nat.zero_le _, (Ext.refl _).alloc _⟩
  case round =>
    obtain ⟨k, L, hk, rfl, hown, hz, hLk, hb⟩ := hrel
    by_cases hlt : k < n0
    · obtain ⟨b, off, l, rfl, hbs, hlk, g0, g1, g2, g3⟩ := GLoan.at_ (hx.keep hb) hlt
      have HL : Hid (loanAt loans (k : Int) = l) := by unfold Hid loanAt; rw [Int.toNat_natCast]; exact getD_of hlk
      have hbt : (bits .and .i64 ((s : Int) / 2 ^ k) 1 == 1) = bitB s k := bit_test s k (by omega)
      have HO := Lib.hid hown
      have HB := Lib.hid hb
      have hsb := hb.size
      clear hown hb hlk
      cases hbit : bitB s k
      · rw [hbit] at hbt
        have Hbit := Lib.hid hbit
        clear hbit
        go_wp2_with fail
        go_roundw
        case rel => exact ⟨k + 1, L, by omega, by go_num, HO.out, by unfold Hid; rw [hz.out, List.range_succ, List.filter_append]; simp [Hbit.out], by have := hLk.out; unfold Hid; omega, HB.out⟩
        case measure => simp [intOf]; omega
      · rw [hbit] at hbt
        have Hbit := Lib.hid hbit
        clear hbit
        go_wp2_with (at_builtin; refine append1 ei_Loan' rfl _ _ rfl w.heap.size wr _ u5 L.length _ (by rfl) HO.out (GLoan.enc l) (by rfl) rfl (one_GLoan1 l) (by have := hLk.out; omega) hsb ?_; intro v' w2 ho2 he2; have HO2 := Lib.hid ho2; have HE2 := Lib.hid (he2 w HB.out (Nat.le_refl _)); clear ho2 he2)
        go_roundw
        case rel =>
          refine ⟨k + 1, L ++ [l], by omega, by go_num, ?_, by unfold Hid; rw [hz.out, List.range_succ, List.filter_append]; simp [Hbit.out, HL.out], by unfold Hid; have := hLk.out; simp; omega, HE2.out⟩
          have := HO2.out
          simpa using this
        case measure => simp [intOf]; omega
    · obtain rfl : k = n0 := by omega
      have h2 : L = (bitsL k s).map (loanAt loans) := hz.out
      go_wp2_with fail
      go_ret
      exact ⟨_, rfl, hb, by rw [← h2]; exact hown⟩
set_option maxRecDepth 100000 in
set_option maxHeartbeats 2000000 in
theorem spec_LeastConflict (A0 : Option Addr) (n0 c0 : Nat) (loans : List GLoan) (A1 : Option Addr) (n1 c1 : Nat) (halls : List GClimate) (A2 : Option Addr) (n2 c2 : Nat) (room : List Int) (w : World)
    (hx0 : Rd w 4 A0 n0 (loans.flatMap GLoan.enc)) (hx1 : Rd w 3 A1 n1 (halls.flatMap GClimate.enc)) (hx2 : Rd w 1 A2 n2 (room.flatMap ienc)) (hnc : Hid (A2 = none → c2 = 0)) :
    Calls Try.prog 58 #[.slice A0 n0 c0, .slice A1 n1 c1, .slice A2 n2 c2] w fun e w' => ∃ v, e = .returned v ∧ Ext w w' ∧ w'.ownsRow w.heap.size 3 1 v (leastC loans halls room).length ((leastC loans halls room).flatMap ienc) := by
  have hn0 := hx0.2.1
  have hn1 := hx1.2.1
  have hl0 := Lib.hid (hx0.len GLoan.len (by omega))
  have hl1 := Lib.hid (hx1.len GClimate.len (by omega))
  have hl2 := Lib.hid (hx2.len ienc_len (by omega))
  have HC : Hid (leastC loans halls room = if sizesOkB n0 n1 room then ((allL n0).find? (confl loans halls room)).getD [] else []) := by unfold Hid leastC; rw [hl0.out, hl1.out]
  have hE0 := (Ext.refl w).alloc (.cells #[] 3)
  have HE0 := Lib.hid hE0
  have HO0 := Lib.hid (own_empty w w.heap.size 3 1 (Nat.le_refl _))
  cases hv : sizesOkB n0 n1 room
  case false =>
    rw [hv] at HC
    clear hE0
    go_enter Try.func58, Try.ntmps58
    go_wp2_with (go_at_call 99; refine (spec_l34Valid _ _ _ _ _ _ _ _ _ room _ (hx2.keep HE0.out) hn0 hn1).mono ?_; rintro e w1 ⟨he, rfl⟩; rw [hv] at he; subst he)
    go_ret
    exact ⟨_, rfl, HE0.out, by rw [HC.out]; exact HO0.out⟩
  obtain ⟨g0, g1, g2, g3, g4⟩ := sizesOkB_spec hv
  rw [hl2.out] at g3
  subst g3
  rw [hv] at HC
  have HV := Lib.hid hv
  have G4 := Lib.hid g4
  clear hE0 g4
  go_enter Try.func58, Try.ntmps58
  go_wp2_with (go_at_call 99; refine (spec_l34Valid _ _ _ _ _ _ _ _ _ room _ (hx2.keep HE0.out) hn0 hn1).mono ?_; rintro e w1 ⟨he, rfl⟩; rw [HV.out] at he; subst he)
  clear hv
  obtain ⟨T, hT⟩ : ∃ T, T = 2 ^ n0 := ⟨_, rfl⟩
  have hT64 : T ≤ 64 := by rw [hT]; exact Nat.le_trans (Nat.pow_le_pow_right (by omega) g0) (by decide)
  have hT1 : 1 ≤ T := by rw [hT]; exact Nat.one_le_two_pow
  have hw : wrap64 ((2 : Int) ^ n0) = (T : Int) := by
    have e : ((2 : Int) ^ n0) = (T : Int) := by rw [hT]; push_cast; rfl
    rw [e]; exact IntWalk.wrap64_in _ ⟨by omega, by omega⟩
  have HT := Lib.hid hT
  clear hT
  go_loopw [7, 8] (fun o i wr => ∃ (s : Nat) (L : List Int), 1 ≤ s ∧ s ≤ T ∧ i = .int .i64 s ∧ wr.ownsRow w.heap.size 3 1 o L.length (L.flatMap ienc) ∧ Hid ((setsL n0).foldl (bestStep (confl loans halls room)) [] = ((List.range' s (T - s)).map (bitsL n0)).foldl (bestStep (confl loans halls room)) L) ∧ Ext w wr) (fun _ i _ => T - (intOf i).toNat)
  case atStart => exact ⟨1, [], Nat.le_refl _, hT1, rfl, HO0.out, by rw [HT.out]; rfl, HE0.out⟩
  case round =>
    obtain ⟨wo, rfl⟩ : ∃ wo : World, wo = wr := ⟨_, rfl⟩
    obtain ⟨s, L, hs1, hs, rfl, hown, hz, hb⟩ := hrel
    obtain ⟨Ab, cb, rfl, hncb⟩ := own_form hown
    have HO := Lib.hid hown
    have HB := Lib.hid hb
    clear hown hb
    by_cases hlt : s < T
    · have HOi := Lib.hid (own_empty wo wo.heap.size 3 1 (Nat.le_refl _))
      have HEi := Lib.hid ((Ext.refl wo).alloc (.cells #[] 3))
      have hr' : Hid (List.range' s (T - s) = s :: List.range' (s + 1) (T - (s + 1))) := by
        unfold Hid
        have : T - s = (T - (s + 1)) + 1 := by omega
        rw [this, List.range'_succ]
      go_wp2_with fail
      rw [hw]
      go_loopw [9, 10] (fun o i wi => ∃ (k : Nat) (L2 : List Int), k ≤ n0 ∧ i = .int .i64 k ∧ wi.ownsRow wo.heap.size 3 1 o L2.length (L2.flatMap ienc) ∧ Hid (L2 = ((List.range k).filter (bitB s)).map fun (k : Nat) => (k : Int)) ∧ Hid (L2.length ≤ k) ∧ Ext wo wi) (fun _ i _ => n0 - (intOf i).toNat)
      case atStart => exact ⟨0, [], Nat.zero_le _, rfl, HOi.out, rfl, Nat.zero_le _, HEi.out⟩
      case round =>
        obtain ⟨k, L2, hk, rfl, hown2, hz2, hLk, hbi⟩ := hrel
        have HO2 := Lib.hid hown2
        have HBi := Lib.hid hbi
        have hsi := hbi.size
        by_cases hlk : k < n0
        · clear hown2 hbi
          have hbt : (bits .and .i64 ((s : Int) / 2 ^ k) 1 == 1) = bitB s k := bit_test s k (by omega)
          cases hbit : bitB s k
          · rw [hbit] at hbt
            have Hbit := Lib.hid hbit
            clear hbit
            go_wp2_with fail
            go_roundw
            case rel => exact ⟨k + 1, L2, by omega, by go_num, HO2.out, by unfold Hid; rw [hz2.out, List.range_succ, List.filter_append]; simp [Hbit.out], by have := hLk.out; unfold Hid; omega, HBi.out⟩
            case measure => simp [intOf]; omega
          · rw [hbit] at hbt
            have Hbit := Lib.hid hbit
            clear hbit
            go_wp2_with (at_builtin; refine append1 ei_int rfl _ _ rfl wo.heap.size wr _ u9 L2.length _ (by rfl) HO2.out [.int .i64 k] (by rfl) rfl (by intro u hu; simp at hu; subst hu; rfl) (by have := hLk.out; omega) hsi ?_; intro v' w2 ho2 he2; have HO3 := Lib.hid ho2; have HE3 := Lib.hid (he2 wo HBi.out (Nat.le_refl _)); clear ho2 he2)
            go_roundw
            case rel =>
              refine ⟨k + 1, L2 ++ [(k : Int)], by omega, by go_num, ?_, by unfold Hid; rw [hz2.out, List.range_succ, List.filter_append]; simp [Hbit.out], by unfold Hid; have := hLk.out; simp; omega, HE3.out⟩
              have := HO3.out
              simpa [ienc] using this
            case measure => simp [intOf]; omega
        · obtain rfl : k = n0 := by omega
          have HL2 : Hid (bitsL k s = L2) := by unfold Hid; rw [hz2.out]; rfl
          obtain ⟨Al, cl, rfl, hncl⟩ := own_form hown2
          clear hown2 hbi
          have HSome := Lib.hid (spec_l34Some A0 k c0 loans s wr (hx0.keep (HB.out.trans HBi.out)) g0 (by omega))
          rw [HL2.out] at HSome
          obtain ⟨La, hLa⟩ : ∃ La, La = L2.map (loanAt loans) := ⟨_, rfl⟩
          rw [← hLa] at HSome
          have hlen : La.length ≤ 6 := by have := hLk.out; rw [hLa]; simp; omega
          have HLa := Lib.hid hLa
          clear hLa
          go_wp2_with fail
          refine HSome.out.mono ?_
          rintro e w3 ⟨v3, rfl, he3, ho3⟩
          obtain ⟨As, cs, rfl, hncs⟩ := own_form ho3
          have hE3 := HB.out.trans (HBi.out.trans he3)
          have hE34 := (Ext.refl w3).alloc (.cells #[] 3)
          have hE4 := hE3.trans hE34
          have HCnt := Lib.hid (spec_l34Count La halls As La.length cs A1 n2 c1 hlen g1 g2 La.length room [] A2 c2 (some ⟨w3.heap.size, 0, none⟩) 0 0 _ (by omega) (Lib.hid (room_bd G4.out hl2.out)) hl2 ((Rd.of_own ho3).keep hE34) (hx1.keep hE4) (hx2.keep hE4) (Rd.of_own (own_empty w3 w3.heap.size 3 1 (Nat.le_refl _))) hnc (by unfold Hid; intro h; cases h))
          obtain ⟨m, Lf, hm⟩ : ∃ m Lf, plansF La halls La.length room [] = (m, Lf) := ⟨_, _, rfl⟩
          rw [hm] at HCnt
          have HPm : Hid (confl loans halls room L2 = (m == 0)) := by
            unfold Hid confl
            have hv2 : sizesOkB La.length halls.length room = true := by
              have := HV.out
              rw [hl1.out]
              simp only [sizesOkB, Bool.and_eq_true, decide_eq_true_eq] at this ⊢
              exact ⟨⟨⟨hlen, this.1.1.2⟩, this.1.2⟩, this.2⟩
            rw [← HLa.out, plansAll_yes hv2, hm]
          have HE4 := Lib.hid (he3.trans hE34)
          clear he3 ho3 hE3 hE4 hE34 hlen hm HSome
          go_wp2_with fail
          refine HCnt.out.mono ?_
          rintro e w5 ⟨v5, rfl, he5, ho5⟩
          simp only
          have HE5 := Lib.hid (HBi.out.trans (HE4.out.trans he5))
          have HO5 := Lib.hid (own_keep HO2.out (HE4.out.trans he5))
          have HLs := Lib.hid (spec_l19Less Al L2.length cl L2 Ab L.length cb L w5 (Rd.of_own HO5.out) ((Rd.of_own HO.out).keep HE5.out))
          clear he5 ho5 HCnt
          have hsw := HB.out.size
          have HF : Hid (∀ X, bestStep (confl loans halls room) L L2 = X → (setsL k).foldl (bestStep (confl loans halls room)) [] = ((List.range' (s + 1) (T - (s + 1))).map (bitsL k)).foldl (bestStep (confl loans halls room)) X) := by
            unfold Hid; intro X hX; rw [hz.out, hr'.out, List.map_cons, List.foldl_cons, HL2.out, hX]
          clear hw
          cases hp : (m == 0)
          · have hst : Hid (bestStep (confl loans halls room) L L2 = L) := by unfold Hid bestStep; rw [HPm.out, hp]; rfl
            go_wp2_with fail
            go_roundw
            case rel => exact ⟨s + 1, L, by omega, by omega, by go_num, own_keep HO.out HE5.out, HF.out L hst.out, HB.out.trans HE5.out⟩
            case measure => simp [intOf]; omega
          have HP1 := Lib.hid hp
          by_cases e0 : L.length = 0
          · have hst : Hid (bestStep (confl loans halls room) L L2 = L2) := by unfold Hid bestStep; rw [HPm.out, hp, List.eq_nil_of_length_eq_zero e0]; rfl
            have f0 : ((L.length : Int) == 0) = true := by rw [beq_iff_eq]; omega
            have f1 : (L.length == 0) = true := by rw [beq_iff_eq]; exact e0
            clear e0
            go_wp2_with fail
            go_roundw
            case rel => exact ⟨s + 1, L2, by omega, by omega, by go_num, own_weak HO5.out hsw, HF.out L2 hst.out, HB.out.trans HE5.out⟩
            case measure => simp [intOf]; omega
          have f0 : ((L.length : Int) == 0) = false := by rw [beq_eq_false_iff_ne]; omega
          have hbet : Hid (better L L2 = ltr L2 L) := by
            unfold Hid; cases L with
            | nil => exact absurd rfl e0
            | cons _ _ => rfl
          by_cases e1 : L2.length < L.length
          · have hst : Hid (bestStep (confl loans halls room) L L2 = L2) := by unfold Hid bestStep; rw [HPm.out, hp, hbet.out, ltr, decide_eq_true e1]; rfl
            go_wp2_with fail
            go_roundw
            case rel => exact ⟨s + 1, L2, by omega, by omega, by go_num, own_weak HO5.out hsw, HF.out L2 hst.out, HB.out.trans HE5.out⟩
            case measure => simp [intOf]; omega
          by_cases e2 : L2.length = L.length
          case neg =>
            have hst : Hid (bestStep (confl loans halls room) L L2 = L) := by unfold Hid bestStep; rw [HPm.out, hp, hbet.out, ltr, decide_eq_false e1, beq_eq_false_iff_ne.2 e2]; rfl
            have f2 : ((L2.length : Int) == (L.length : Int)) = false := by rw [beq_eq_false_iff_ne]; omega
            go_wp2_with fail
            go_roundw
            case rel => exact ⟨s + 1, L, by omega, by omega, by go_num, own_keep HO.out HE5.out, HF.out L hst.out, HB.out.trans HE5.out⟩
            case measure => simp [intOf]; omega
          have f2 : ((L2.length : Int) == (L.length : Int)) = true := by rw [beq_iff_eq]; omega
          have E2 := Lib.hid e2
          clear e2
          cases hle : lessL L2 L
          · have hst : Hid (bestStep (confl loans halls room) L L2 = L) := by unfold Hid bestStep; rw [HPm.out, hp, hbet.out, ltr, decide_eq_false e1, hle, Bool.and_false]; rfl
            rw [hle] at HLs
            go_wp2_with (go_at_call 103; refine HLs.out.mono ?_; rintro e w6 ⟨rfl, he6⟩; have HE6 := Lib.hid he6; clear he6)
            go_roundw
            case rel => exact ⟨s + 1, L, by omega, by omega, by go_num, own_keep HO.out (HE5.out.trans HE6.out), HF.out L hst.out, HB.out.trans (HE5.out.trans HE6.out)⟩
            case measure => simp [intOf]; omega
          · have hst : Hid (bestStep (confl loans halls room) L L2 = L2) := by unfold Hid bestStep; rw [HPm.out, hp, hbet.out, ltr, decide_eq_false e1, hle, beq_iff_eq.2 E2.out]; rfl
            rw [hle] at HLs
            go_wp2_with (go_at_call 103; refine HLs.out.mono ?_; rintro e w6 ⟨rfl, he6⟩; have HE6 := Lib.hid he6; clear he6)
            go_roundw
            case rel => exact ⟨s + 1, L2, by omega, by omega, by go_num, own_weak (own_keep HO5.out HE6.out) hsw, HF.out L2 hst.out, HB.out.trans (HE5.out.trans HE6.out)⟩
            case measure => simp [intOf]; omega
    · obtain rfl : s = T := by omega
      have h2 : leastC loans halls room = L := by
        rw [HC.out, if_pos trivial, ← best_eq g0, hz.out, Nat.sub_self]; rfl
      go_wp2_with fail
      go_ret
      exact ⟨_, rfl, HB.out, by rw [h2]; exact HO.out⟩
end Go.Proofs.Ytlgmiifpdjalpaa
