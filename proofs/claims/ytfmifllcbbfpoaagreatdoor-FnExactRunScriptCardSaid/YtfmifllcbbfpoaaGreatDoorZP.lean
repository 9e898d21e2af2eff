/- Texts of one proof, laid one behind the other (SPf, SPe, NMa, NMb); no condition but what stands at each theorem. -/
import Derived.Test.YtfmifllcbbfpoaaGreatDoorZF
import Derived.Test.YtfmifllcbbfpoaaGreatDoorZH
import Derived.Test.YtfmifllcbbfpoaaGreatDoorZK
import Derived.Test.YtfmifllcbbfpoaaGreatDoorZL
import Derived.Test.YtfmifllcbbfpoaaGreatDoorZO
import Derived.Test.YtfmifllcbbfpoaaGreatDoorZR
/- FormatInt of the reference at -1. -/
namespace Go.Proofs.YtfmifllcbbfpoaaGreatDoor
set_option linter.unusedSimpArgs false
set_option linter.unusedVariables false
open Go.RowKit Go.Sort
theorem itext_m1 : itext (-1) = ⟨#[45, 49]⟩ := by
  unfold itext Lib.itoa
  rw [if_pos (by decide)]
  have h : Lib.decDigits (-1 : Int).natAbs = [49] := by
    rw [show (-1 : Int).natAbs = 1 from rfl, Lib.decDigits, dif_pos (by omega)]
    rfl
  rw [h]
set_option maxRecDepth 100000 in
set_option maxHeartbeats 1000000 in
theorem spec_FormatIntM (w : World) : Calls Tryz.prog 82 #[.int .i64 (-1)] w fun e w' => e = .returned (.string (itext (-1))) ∧ Ext w w' := by
  have HF := Lib.hid itext_m1
  go_enter Tryz.func82, Tryz.ntmps82
  go_wp2_with fail
  go_loopw [0, 4] (fun z t wr => ((z = .int .i64 (-1) ∧ t = .string ⟨#[]⟩) ∨ (z = .int .i64 0 ∧ t = .string ⟨#[49]⟩)) ∧ Hid (Ext w wr)) (fun z _ _ => (intOf z).natAbs)
  case atStart => exact ⟨Or.inl ⟨rfl, rfl⟩, Lib.hid (Ext.refl _)⟩
  case round =>
    obtain ⟨hor, HB⟩ := hrel
    rcases hor with ⟨rfl, rfl⟩ | ⟨rfl, rfl⟩
    · have hF := Lib.hid (fun w => spec_l01Figure 1 w (by omega) (by omega))
      have hcv := fun (w : World) => convb1 w 49 (by omega)
      rw [show ((49 : Nat) : Int) = 49 from rfl, show UInt8.ofNat 49 = 49 from rfl] at hcv
      go_wp2_with (refine (hF.out _).mono ?_; rintro e w1 ⟨rfl, rfl⟩)
      go_roundw
      case rel => exact ⟨Or.inr ⟨rfl, rfl⟩, Lib.hid (HB.out.alloc _)⟩
      case measure => simp [intOf]
    · go_wp2_with fail
      go_ret
      exact ⟨by rw [HF.out]; rfl, HB.out⟩
theorem spec_FormatIntZ (z : Int) (w : World) (h0 : -1 ≤ z) (h1 : z ≤ 1000000) : Calls Tryz.prog 82 #[.int .i64 z] w fun e w' => e = .returned (.string (itext z)) ∧ Ext w w' := by
  by_cases h : z = -1
  · subst h; exact spec_FormatIntM w
  · obtain ⟨n, rfl⟩ : ∃ n : Nat, z = n := ⟨z.toNat, by omega⟩
    exact spec_FormatInt n w (by omega)
end Go.Proofs.YtfmifllcbbfpoaaGreatDoor
/- RunScript of the reference; no condition but what stands at each theorem. -/
namespace Go.Proofs.YtfmifllcbbfpoaaGreatDoor
set_option linter.unusedSimpArgs false
set_option linter.unusedVariables false
open Go.RowKit Go.Sort
/-- The lines from a place on; none behind the end. -/
def tl (L : List UInt8) (s : Nat) : List ByteArray := if s ≤ L.length then bas (cuts 10 (L.drop s)) else []
theorem tl_all (x : ByteArray) {L : List UInt8} (h : L = x.data.toList) : linesB x = tl L 0 := by
  subst h
  unfold tl
  rw [if_pos (Nat.zero_le _), List.drop_zero, lines_bas]
theorem tl_end {L : List UInt8} {s : Nat} (h : L.length < s) : tl L s = [] := by unfold tl; rw [if_neg (by omega)]
theorem seg_split (L : List UInt8) {s k : Nat} (hs : s ≤ k) : L.drop s = (L.drop s).take (k - s) ++ L.drop k := by
  have h := (List.take_append_drop (k - s) (L.drop s)).symm
  rw [List.drop_drop, show s + (k - s) = k by omega] at h
  exact h
theorem tl_cut {L : List UInt8} {s k : Nat} (hs : s ≤ k) (hk : k ≤ L.length) (hc : cfree 10 ((L.drop s).take (k - s))) (hb : k < L.length → L[k]? = some 10) : tl L s = ⟨((L.drop s).take (k - s)).toArray⟩ :: tl L (k + 1) := by
  have h1 : tl L s = bas (cuts 10 (L.drop s)) := by unfold tl; rw [if_pos (by omega)]
  rw [h1, seg_split L hs]
  by_cases hlt : k < L.length
  · rw [drop_cons (hb hlt), cuts_app _ hc]
    unfold tl
    rw [if_pos (by omega), show (((L.drop s).take (k - s) ++ 10 :: L.drop (k + 1)).take (k - s)) = (L.drop s).take (k - s) by rw [← drop_cons (hb hlt), ← seg_split L hs]]
    rfl
  · have e : L.drop k = [] := drop_nil (by omega)
    rw [e, List.append_nil, cuts_word hc, tl_end (by omega), List.take_take, Nat.min_self]
    rfl
theorem cfree_nil (L : List UInt8) (k : Nat) : cfree 10 ((L.drop k).take (k - k)) := by
  rw [cur_nil]; intro b h; cases h
theorem cfree_snoc {L : List UInt8} {s k : Nat} {b : UInt8} (h : L[k]? = some b) (hs : s ≤ k) (hb : b ≠ 10) (hc : cfree 10 ((L.drop s).take (k - s))) : cfree 10 ((L.drop s).take (k + 1 - s)) := by
  rw [← cur_snoc h hs]
  intro c hm
  rcases List.mem_append.1 hm with hm | hm
  · exact hc c hm
  · rw [List.mem_singleton] at hm; subst hm; exact hb
theorem stepc_blank {y : ByteArray} {r : List ByteArray} {acc : List GAct} (hb : blankB y = true) : scR (y :: r) acc = scR r acc := by rw [scR, if_pos hb]
theorem stepc_bad {y : ByteArray} {r : List ByteArray} {acc : List GAct} {a : GAct} (hb : blankB y = false) (hp : parseA y = (a, false)) : scR (y :: r) acc = none := by
  rw [scR, if_neg (by rw [hb]; decide), hp]; rfl
theorem stepc_act {y : ByteArray} {r : List ByteArray} {acc : List GAct} {a : GAct} (hb : blankB y = false) (hp : parseA y = (a, true)) : scR (y :: r) acc = scR r (acc ++ [a]) := by
  rw [scR, if_neg (by rw [hb]; decide), hp]; rfl
theorem ex_size (x : ByteArray) (s k : Nat) : (x.extract s k).size ≤ x.size := by
  rw [ByteArray.size_extract]; omega
set_option maxRecDepth 100000 in
set_option maxHeartbeats 4000000 in
theorem spec_RunScript (x : ByteArray) (w : World) (hx : x.size ≤ 1048576) : Calls Tryz.prog 35 #[.string x] w (ScrPost x w) := by
  obtain ⟨wn, hwn⟩ : ∃ wn, wn = w.alloc (.cells #[] 9) := ⟨_, rfl⟩
  have hEn : Ext w wn := by rw [hwn]; exact (Ext.refl w).alloc _
  have hsn : wn.heap.size = w.heap.size + 1 := by rw [hwn]; simp
  have HNN : Hid (wn.ownsRow w.heap.size 9 1 (.slice (some ⟨w.heap.size, 0, none⟩) 0 0) 0 []) := Lib.hid (by rw [hwn]; exact own_empty w w.heap.size 9 1 (Nat.le_refl _))
  have HEN := Lib.hid hEn
  have Hwn := Lib.hid hwn
  by_cases hlen : x.size ≤ 20000
  case neg =>
    have HF := Lib.hid (sc_long2 hlen)
    have hl2 : (20000 : Int) < (x.size : Int) := by omega
    clear hlen hwn hEn hsn
    go_enter Tryz.func35, Tryz.ntmps35
    go_wp2_with fail
    rw [← Hwn.out]
    go_ret2
    exact scr_no HF.out HEN.out HNN.out
  have hl2 : ¬ (20000 : Int) < (x.size : Int) := by omega
  have Hlen := Lib.hid hlen
  obtain ⟨wa, hwa⟩ : ∃ wa, wa = wn.alloc (.cells #[] 37) := ⟨_, rfl⟩
  have hEa : Ext wn wa := by rw [hwa]; exact (Ext.refl wn).alloc _
  have HOa : Hid (wa.ownsRow wn.heap.size 37 5 (.slice (some ⟨w.heap.size + 1, 0, none⟩) 0 0) 0 []) := Lib.hid (by rw [← hsn, hwa]; exact own_empty wn wn.heap.size 37 5 (Nat.le_refl _))
  have Hwa : Hid (wa = (w.alloc (.cells #[] 9)).alloc (.cells #[] 37)) := Lib.hid (by rw [hwa, hwn])
  have HEa := Lib.hid hEa
  obtain ⟨L, hL⟩ : ∃ L, L = x.data.toList := ⟨_, rfl⟩
  have HL := Lib.hid hL
  have hLl : L.length = x.size := by rw [hL]; exact toList_size x
  have HALL := Lib.hid (tl_all x hL)
  have HLl := Lib.hid hLl
  clear hwa hEa hL hLl hwn hEn hsn
  go_enter Tryz.func35, Tryz.ntmps35
  go_wp2_with fail
  rw [← Hwa.out]
  go_loopw [5, 6, 7] (fun o st i wr => ∃ (k s : Nat) (acc : List GAct), k ≤ x.size + 1 ∧ s ≤ k ∧ (k = x.size + 1 → s = x.size + 1) ∧ i = .int .i64 k ∧ st = .int .i64 s ∧ acc.length ≤ k ∧ Hid (cfree 10 ((L.drop s).take (k - s))) ∧ Hid (scR (linesB x) [] = scR (tl L s) acc) ∧ Hid (wr.ownsRow wn.heap.size 37 5 o acc.length (acc.flatMap GAct.enc)) ∧ Hid (Ext wn wr)) (fun _ _ i _ => x.size + 1 - (intOf i).toNat)
  case atStart => exact ⟨0, 0, [], Nat.zero_le _, Nat.le_refl _, fun h => by omega, rfl, rfl, Nat.le_refl _, Lib.hid (cfree_nil L 0), by unfold Hid; rw [HALL.out], HOa, HEa⟩
  case round =>
    obtain ⟨k, s, acc, hk, hs, hks, rfl, rfl, hak, hcf, hz, hown, hb⟩ := hrel
    obtain ⟨Ao, co, rfl, hAc⟩ := own_form hown.out
    clear hAc
    by_cases hle : k ≤ x.size
    · clear hks
      have hlei : (k : Int) ≤ x.size := by omega
      by_cases hlt : k < x.size
      · have hlti : (k : Int) < x.size := by omega
        have hLk := Lib.hid (show L[k]? = some x[k] by rw [HL.out]; exact byte_at x k hlt)
        by_cases h10 : x[k].toNat = 10
        · have hb10 : x[k] = 10 := UInt8.toNat_inj.1 h10
          have f10 : ((x[k].toNat : Int) != 10) = false := by simp [h10]
          have HCUT := Lib.hid (tl_cut hs (by rw [HLl.out]; exact hle) hcf.out (fun _ => by rw [hLk.out, hb10]))
          clear hb10 h10
          have HCF := Lib.hid (cfree_nil L (k + 1))
          obtain ⟨y, hy⟩ : ∃ y, y = x.extract s k := ⟨_, rfl⟩
          have HC : Hid (scR (linesB x) [] = scR (y :: tl L (k + 1)) acc) := Lib.hid (by rw [hz.out, HCUT.out, hy, ext_bs, ← HL.out])
          have hys : y.size ≤ 1048576 := by rw [hy]; have := ex_size x s k; omega
          have HY := Lib.hid hy
          have cPA := Lib.hid (fun W => spec_ParseAct y W hys)
          have cSp := Lib.hid (spec_SplitFields y wr hys)
          clear hy
          go_wp2_with (go_at_call 78; refine (fun h : Hid _ => h.out) ?_)
          unfold Hid
          rw [← HY.out]
          refine cSp.out.mono ?_
          rintro e w2 ⟨v, rfl, he2, hv⟩
          have HE2 := Lib.hid (hb.out.trans he2)
          have HO2 := Lib.hid (own_keep hown.out he2)
          clear he2
          cases hsp : spOk y
          case false =>
            have HNB := Lib.hid (blank_no hsp)
            clear hsp hv
            go_wp2_with (go_at_call 79; refine (fun h : Hid _ => h.out) ?_)
            unfold Hid
            refine (cPA.out w2).mono ?_
            rintro e w3 ⟨a, pb, rfl, he3, hpa⟩
            have hpe := parseA_of hpa
            obtain ⟨w4, hw4⟩ : ∃ w4, w4 = w3.alloc (.cells #[.int .i64 a.k, .int .i64 a.a, .int .i64 a.b, .int .i64 a.c, .int .i64 a.d] 37) := ⟨_, rfl⟩
            have he34 : Ext w2 w4 := by rw [hw4]; exact he3.alloc _
            have HE4 := Lib.hid (HE2.out.trans he34)
            have HO4 := Lib.hid (own_keep HO2.out he34)
            have HW4 := Lib.hid hw4
            clear he3 he34 hpa hw4
            cases pb
            case false =>
              have HF := Lib.hid (sc_none (x := x) (by rw [HC.out]; exact stepc_bad HNB.out hpe))
              clear hpe
              go_wp2_with fail
              rw [← HW4.out]
              go_ret2
              exact scr_no HF.out (HEN.out.trans HE4.out) (own_keep HNN.out HE4.out)
            case true =>
              have HZ : Hid (scR (linesB x) [] = scR (tl L (k + 1)) (acc ++ [a])) := Lib.hid (by rw [HC.out]; exact stepc_act HNB.out hpe)
              clear hpe
              go_wp2_with (at_builtin; refine (fun h : Hid _ => h.out) ?_)
              unfold Hid
              rw [← HW4.out]
              refine append1W ei_ActR rfl _ _ rfl wn.heap.size w4 _ _ acc.length _ (by rfl) HO4.out a.enc (by rw [HW4.out, heap_size_allocN]; rfl) rfl (one_GActR a) (by omega) HE4.out.size ?_
              intro v' w5 ho5 hg5 hv5
              have HO5 := Lib.hid ho5
              have HE5 := Lib.hid (HE4.out.grown hg5 (fun g hg => (HO4.out.lt g hg).1))
              clear ho5 hg5 hv5
              go_wp2_with fail
              go_roundw
              case rel => exact ⟨k + 1, k + 1, acc ++ [a], by omega, Nat.le_refl _, fun _ => by omega, by go_num, by go_num, by simp; omega, HCF.out, HZ, by unfold Hid; rw [List.length_append, List.flatMap_append]; simpa using HO5.out, HE5⟩
              case measure => simp [intOf]; omega
          case true =>
            have hv1 := hv hsp
            obtain ⟨Av, cv, rfl, -⟩ := own_form hv1
            obtain ⟨nf, hnf⟩ : ∃ nf, nf = (fieldsOf y).length := ⟨_, rfl⟩
            have HBl := Lib.hid (blank_is hsp nf hnf.symm)
            rw [← hnf]
            clear hv hv1 hsp hnf
            by_cases h0 : nf = 0
            case pos =>
              have f0 : ((nf : Int) == 0) = true := by simp [h0]
              have HZ : Hid (scR (linesB x) [] = scR (tl L (k + 1)) acc) := Lib.hid (by rw [HC.out]; exact stepc_blank (by rw [HBl.out, decide_eq_true h0]))
              clear h0
              go_wp2_with fail
              go_roundw
              case rel => exact ⟨k + 1, k + 1, acc, by omega, Nat.le_refl _, fun _ => by omega, by go_num, by go_num, by omega, HCF.out, HZ, HO2, HE2⟩
              case measure => simp [intOf]; omega
            case neg =>
              have f0 : ((nf : Int) == 0) = false := by rw [beq_eq_false_iff_ne]; omega
              have HNB := Lib.hid (HBl.out.trans (decide_eq_false h0))
              clear h0
              go_wp2_with (go_at_call 79; refine (fun h : Hid _ => h.out) ?_)
              unfold Hid
              refine (cPA.out w2).mono ?_
              rintro e w3 ⟨a, pb, rfl, he3, hpa⟩
              have hpe := parseA_of hpa
              obtain ⟨w4, hw4⟩ : ∃ w4, w4 = w3.alloc (.cells #[.int .i64 a.k, .int .i64 a.a, .int .i64 a.b, .int .i64 a.c, .int .i64 a.d] 37) := ⟨_, rfl⟩
              have he34 : Ext w2 w4 := by rw [hw4]; exact he3.alloc _
              have HE4 := Lib.hid (HE2.out.trans he34)
              have HO4 := Lib.hid (own_keep HO2.out he34)
              have HW4 := Lib.hid hw4
              clear he3 he34 hpa hw4
              cases pb
              case false =>
                have HF := Lib.hid (sc_none (x := x) (by rw [HC.out]; exact stepc_bad HNB.out hpe))
                clear hpe
                go_wp2_with fail
                rw [← HW4.out]
                go_ret2
                exact scr_no HF.out (HEN.out.trans HE4.out) (own_keep HNN.out HE4.out)
              case true =>
                have HZ : Hid (scR (linesB x) [] = scR (tl L (k + 1)) (acc ++ [a])) := Lib.hid (by rw [HC.out]; exact stepc_act HNB.out hpe)
                clear hpe
                go_wp2_with (at_builtin; refine (fun h : Hid _ => h.out) ?_)
                unfold Hid
                rw [← HW4.out]
                refine append1W ei_ActR rfl _ _ rfl wn.heap.size w4 _ _ acc.length _ (by rfl) HO4.out a.enc (by rw [HW4.out, heap_size_allocN]; rfl) rfl (one_GActR a) (by omega) HE4.out.size ?_
                intro v' w5 ho5 hg5 hv5
                have HO5 := Lib.hid ho5
                have HE5 := Lib.hid (HE4.out.grown hg5 (fun g hg => (HO4.out.lt g hg).1))
                clear ho5 hg5 hv5
                go_wp2_with fail
                go_roundw
                case rel => exact ⟨k + 1, k + 1, acc ++ [a], by omega, Nat.le_refl _, fun _ => by omega, by go_num, by go_num, by simp; omega, HCF.out, HZ, by unfold Hid; rw [List.length_append, List.flatMap_append]; simpa using HO5.out, HE5⟩
                case measure => simp [intOf]; omega
        · have f10 : ((x[k].toNat : Int) != 10) = true := by rw [bne_iff_ne]; omega
          have HCF := Lib.hid (cfree_snoc hLk.out hs (fun e => h10 (by rw [e]; rfl)) hcf.out)
          clear h10
          go_wp2_with fail
          go_roundw
          case rel => exact ⟨k + 1, s, acc, by omega, by omega, fun h => by omega, by go_num, by rfl, by omega, HCF, hz, hown, hb⟩
          case measure => simp [intOf]; omega
      · obtain ⟨kx, hkx⟩ : ∃ kx, kx = x.size := ⟨_, rfl⟩
        have hnlt : ¬ (k : Int) < x.size := by omega
        have HCUT := Lib.hid (tl_cut hs (by rw [HLl.out]; exact hle) hcf.out (fun h => by rw [HLl.out] at h; omega))
        have HCF := Lib.hid (cfree_nil L (k + 1))
        obtain ⟨y, hy⟩ : ∃ y, y = x.extract s k := ⟨_, rfl⟩
        have HC : Hid (scR (linesB x) [] = scR (y :: tl L (k + 1)) acc) := Lib.hid (by rw [hz.out, HCUT.out, hy, ext_bs, ← HL.out])
        have hys : y.size ≤ 1048576 := by rw [hy]; have := ex_size x s k; omega
        have HY := Lib.hid hy
        have cPA := Lib.hid (fun W => spec_ParseAct y W hys)
        have cSp := Lib.hid (spec_SplitFields y wr hys)
        clear hy
        go_wp2_with (go_at_call 78; refine (fun h : Hid _ => h.out) ?_)
        unfold Hid
        rw [← HY.out]
        refine cSp.out.mono ?_
        rintro e w2 ⟨v, rfl, he2, hv⟩
        have HE2 := Lib.hid (hb.out.trans he2)
        have HO2 := Lib.hid (own_keep hown.out he2)
        clear he2
        cases hsp : spOk y
        case false =>
          have HNB := Lib.hid (blank_no hsp)
          clear hsp hv
          go_wp2_with (go_at_call 79; refine (fun h : Hid _ => h.out) ?_)
          unfold Hid
          refine (cPA.out w2).mono ?_
          rintro e w3 ⟨a, pb, rfl, he3, hpa⟩
          have hpe := parseA_of hpa
          obtain ⟨w4, hw4⟩ : ∃ w4, w4 = w3.alloc (.cells #[.int .i64 a.k, .int .i64 a.a, .int .i64 a.b, .int .i64 a.c, .int .i64 a.d] 37) := ⟨_, rfl⟩
          have he34 : Ext w2 w4 := by rw [hw4]; exact he3.alloc _
          have HE4 := Lib.hid (HE2.out.trans he34)
          have HO4 := Lib.hid (own_keep HO2.out he34)
          have HW4 := Lib.hid hw4
          clear he3 he34 hpa hw4
          cases pb
          case false =>
            have HF := Lib.hid (sc_none (x := x) (by rw [HC.out]; exact stepc_bad HNB.out hpe))
            clear hpe
            go_wp2_with fail
            rw [← HW4.out]
            go_ret2
            exact scr_no HF.out (HEN.out.trans HE4.out) (own_keep HNN.out HE4.out)
          case true =>
            have HZ : Hid (scR (linesB x) [] = scR (tl L (k + 1)) (acc ++ [a])) := Lib.hid (by rw [HC.out]; exact stepc_act HNB.out hpe)
            clear hpe
            go_wp2_with (at_builtin; refine (fun h : Hid _ => h.out) ?_)
            unfold Hid
            rw [← HW4.out]
            refine append1W ei_ActR rfl _ _ rfl wn.heap.size w4 _ _ acc.length _ (by rfl) HO4.out a.enc (by rw [HW4.out, heap_size_allocN]; rfl) rfl (one_GActR a) (by omega) HE4.out.size ?_
            intro v' w5 ho5 hg5 hv5
            have HO5 := Lib.hid ho5
            have HE5 := Lib.hid (HE4.out.grown hg5 (fun g hg => (HO4.out.lt g hg).1))
            clear ho5 hg5 hv5
            go_wp2_with fail
            go_roundw
            case rel => exact ⟨k + 1, k + 1, acc ++ [a], by omega, Nat.le_refl _, fun _ => by omega, by go_num, by go_num, by simp; omega, HCF.out, HZ, by unfold Hid; rw [List.length_append, List.flatMap_append]; simpa using HO5.out, HE5⟩
            case measure => simp [intOf]; omega
        case true =>
          have hv1 := hv hsp
          obtain ⟨Av, cv, rfl, -⟩ := own_form hv1
          obtain ⟨nf, hnf⟩ : ∃ nf, nf = (fieldsOf y).length := ⟨_, rfl⟩
          have HBl := Lib.hid (blank_is hsp nf hnf.symm)
          rw [← hnf]
          clear hv hv1 hsp hnf
          by_cases h0 : nf = 0
          case pos =>
            have f0 : ((nf : Int) == 0) = true := by simp [h0]
            have HZ : Hid (scR (linesB x) [] = scR (tl L (k + 1)) acc) := Lib.hid (by rw [HC.out]; exact stepc_blank (by rw [HBl.out, decide_eq_true h0]))
            clear h0
            go_wp2_with fail
            go_roundw
            case rel => exact ⟨k + 1, k + 1, acc, by omega, Nat.le_refl _, fun _ => by omega, by go_num, by go_num, by omega, HCF.out, HZ, HO2, HE2⟩
            case measure => simp [intOf]; omega
          case neg =>
            have f0 : ((nf : Int) == 0) = false := by rw [beq_eq_false_iff_ne]; omega
            have HNB := Lib.hid (HBl.out.trans (decide_eq_false h0))
            clear h0
            go_wp2_with (go_at_call 79; refine (fun h : Hid _ => h.out) ?_)
            unfold Hid
            refine (cPA.out w2).mono ?_
            rintro e w3 ⟨a, pb, rfl, he3, hpa⟩
            have hpe := parseA_of hpa
            obtain ⟨w4, hw4⟩ : ∃ w4, w4 = w3.alloc (.cells #[.int .i64 a.k, .int .i64 a.a, .int .i64 a.b, .int .i64 a.c, .int .i64 a.d] 37) := ⟨_, rfl⟩
            have he34 : Ext w2 w4 := by rw [hw4]; exact he3.alloc _
            have HE4 := Lib.hid (HE2.out.trans he34)
            have HO4 := Lib.hid (own_keep HO2.out he34)
            have HW4 := Lib.hid hw4
            clear he3 he34 hpa hw4
            cases pb
            case false =>
              have HF := Lib.hid (sc_none (x := x) (by rw [HC.out]; exact stepc_bad HNB.out hpe))
              clear hpe
              go_wp2_with fail
              rw [← HW4.out]
              go_ret2
              exact scr_no HF.out (HEN.out.trans HE4.out) (own_keep HNN.out HE4.out)
            case true =>
              have HZ : Hid (scR (linesB x) [] = scR (tl L (k + 1)) (acc ++ [a])) := Lib.hid (by rw [HC.out]; exact stepc_act HNB.out hpe)
              clear hpe
              go_wp2_with (at_builtin; refine (fun h : Hid _ => h.out) ?_)
              unfold Hid
              rw [← HW4.out]
              refine append1W ei_ActR rfl _ _ rfl wn.heap.size w4 _ _ acc.length _ (by rfl) HO4.out a.enc (by rw [HW4.out, heap_size_allocN]; rfl) rfl (one_GActR a) (by omega) HE4.out.size ?_
              intro v' w5 ho5 hg5 hv5
              have HO5 := Lib.hid ho5
              have HE5 := Lib.hid (HE4.out.grown hg5 (fun g hg => (HO4.out.lt g hg).1))
              clear ho5 hg5 hv5
              go_wp2_with fail
              go_roundw
              case rel => exact ⟨k + 1, k + 1, acc ++ [a], by omega, Nat.le_refl _, fun _ => by omega, by go_num, by go_num, by simp; omega, HCF.out, HZ, by unfold Hid; rw [List.length_append, List.flatMap_append]; simpa using HO5.out, HE5⟩
              case measure => simp [intOf]; omega
    · have hs1 : s = x.size + 1 := hks (by omega)
      have HS : Hid (scR (linesB x) [] = some acc) := Lib.hid (by rw [hz.out, tl_end (by rw [HLl.out]; omega)]; rfl)
      have hnle : ¬ (k : Int) ≤ x.size := by omega
      clear hks hs1
      by_cases h40 : acc.length ≤ 40
      case neg =>
        have HF := Lib.hid (sc_many HS.out h40)
        have h40' : (40 : Int) < (acc.length : Int) := by omega
        clear h40
        go_wp2_with fail
        go_ret2
        exact scr_no HF.out (HEN.out.trans hb.out) (own_keep HNN.out hb.out)
      have HF := Lib.hid (sc_is Hlen.out HS.out h40)
      have h40' : ¬ (40 : Int) < (acc.length : Int) := by omega
      clear h40
      go_wp2_with (go_at_call 81; refine (fun h : Hid _ => h.out) ?_)
      unfold Hid
      refine (spec_SampleMuseum wr).mono ?_
      rintro e w2 ⟨v1, rfl, he2, ho2⟩
      have HE2 := Lib.hid (hb.out.trans he2)
      have cR := Lib.hid (spec_RunActs v1 sampleM Ao acc.length co acc w2 ho2.rd (sample_fit ho2) (Rd.of_own (own_keep hown.out he2)))
      clear he2 ho2
      go_wp2_with (go_at_call 80; refine (fun h : Hid _ => h.out) ?_)
      unfold Hid
      refine cR.out.mono ?_
      rintro e w3 ⟨v2, o2, hev, he3, hm3, ho3, -, -⟩
      obtain ⟨Hh2, ⟨A02, n02, c02⟩, ⟨A12, n12, c12⟩, ⟨A22, n22, c22⟩, ⟨A32, n32, c32⟩, day2, ⟨A42, n42, c42⟩⟩ := v2
      simp only [MV.val, MV.cells] at hev
      subst hev
      have hvals := Lib.hid (runL_vals sampleM acc)
      obtain ⟨NL, hNL⟩ : ∃ NL, NL = runL sampleM acc := ⟨_, rfl⟩
      rw [← hNL] at ho3 hvals
      have HNL := Lib.hid hNL
      clear hNL
      have hNL40 : NL.length ≤ 40 := by (have := runL_lenR sampleM acc; rw [← HNL.out] at this; exact this)
      obtain ⟨Aq, cq, rfl, -⟩ := own_form ho3
      obtain ⟨w4, hw4⟩ : ∃ w4, w4 = w3.alloc (.cells #[.int .i64 Hh2, .slice A02 n02 c02, .slice A12 n12 c12, .slice A22 n22 c22, .slice A32 n32 c32, .int .i64 day2, .slice A42 n42 c42] 30) := ⟨_, rfl⟩
      have he4 : Ext w3 w4 := by rw [hw4]; exact (Ext.refl _).alloc _
      have HB4 : Hid (Blk w4 w3.heap.size 30 #[.int .i64 Hh2, .slice A02 n02 c02, .slice A12 n12 c12, .slice A22 n22 c22, .slice A32 n32 c32, .int .i64 day2, .slice A42 n42 c42]) := Lib.hid (by rw [hw4]; exact Blk.new _ _ _)
      have HM4 := Lib.hid (hm3.rd.keep he4)
      have HN4 := Lib.hid ((Rd.of_own ho3).keep he4)
      have hnl := HN4.out.2.1
      obtain ⟨w5, hw5⟩ : ∃ w5, w5 = w4.alloc (.cells #[] 9) := ⟨_, rfl⟩
      have he5 : Ext w4 w5 := by rw [hw5]; exact (Ext.refl _).alloc _
      have HE4 := Lib.hid (HE2.out.trans (he3.trans he4))
      have HE45 := Lib.hid he5
      have hw34 : w4.heap.size = w3.heap.size + 1 := by rw [hw4]; simp
      have HO5 : Hid (w5.ownsRow w4.heap.size 9 1 (.slice (some ⟨w3.heap.size + 1, 0, none⟩) 0 0) 0 []) := Lib.hid (by rw [← hw34, hw5]; exact own_empty w4 w4.heap.size 9 1 (Nat.le_refl _))
      have HW5 : Hid (w5 = (w3.alloc (.cells #[.int .i64 Hh2, .slice A02 n02 c02, .slice A12 n12 c12, .slice A22 n22 c22, .slice A32 n32 c32, .int .i64 day2, .slice A42 n42 c42] 30)).alloc (.cells #[] 9)) := Lib.hid (by rw [hw5, hw4])
      clear hw4 hw5 he3 he4 he5 hm3 ho3 hw34
      go_wp2_with fail
      rw [← HW5.out]
      go_loopw [15, 16] (fun o i wr => ∃ (k : Nat), k ≤ NL.length ∧ i = .int .i64 k ∧ Hid (wr.ownsRow w4.heap.size 9 1 o k (sv ((NL.take k).map itext))) ∧ Hid (Ext w4 wr)) (fun _ i _ => NL.length - (intOf i).toNat)
      case atStart => exact ⟨0, Nat.zero_le _, rfl, HO5, HE45⟩
      case round =>
        obtain ⟨k, hk, rfl, hown2, hb2⟩ := hrel
        by_cases hlt : k < NL.length
        · obtain ⟨bq, oq, z, hAq, hbq, hzk, p0⟩ := ienc_at (HN4.out.keep hb2.out) hlt
          subst hAq
          obtain ⟨hz0, hz1⟩ := hvals.out z (List.mem_of_getElem? hzk)
          have HT : Hid (sv ((NL.take (k + 1)).map itext) = sv ((NL.take k).map itext) ++ [.string (itext z)]) := Lib.hid (by rw [take_snoc hzk, List.map_append]; exact sv_snoc _ _)
          have hF := Lib.hid (spec_FormatIntZ z wr hz0 hz1)
          obtain ⟨T, hTT⟩ : ∃ T, T = itext z := ⟨_, rfl⟩
          rw [← hTT] at HT hF
          clear hzk hTT
          go_wp2_with (go_at_call 82; refine (fun h : Hid _ => h.out) ?_)
          unfold Hid
          refine hF.out.mono ?_
          rintro e w6 ⟨rfl, he6⟩
          have HE6 := Lib.hid (hb2.out.trans he6)
          have HO6 := Lib.hid (own_keep hown2.out he6)
          clear he6 p0
          go_wp2_with (at_builtin; refine (fun h : Hid _ => h.out) ?_)
          unfold Hid
          refine append1 ei_SF rfl _ _ rfl w4.heap.size w6 _ _ k _ (by rfl) HO6.out [.string T] (by rfl) rfl (one_strF _) (by omega) HE6.out.size ?_
          intro v' w7 ho7 he7
          have HO7 := Lib.hid ho7
          have HE7 := Lib.hid (he7 w4 HE6.out (Nat.le_refl _))
          clear ho7 he7
          go_wp2_with fail
          go_roundw
          case rel => exact ⟨k + 1, by omega, by go_num, by unfold Hid; rw [HT.out]; exact HO7.out, HE7⟩
          case measure => simp [intOf]; omega
        · obtain ⟨kk, hkk⟩ : ∃ kk, kk = NL.length := ⟨_, rfl⟩
          obtain rfl : kk = k := by omega
          rw [List.take_of_length_le (by omega)] at hown2
          have HKK := Lib.hid hkk
          have hl40 : kk ≤ 40 := by omega
          have hb3 := HB4.out.keep hb2.out
          have y0 := hb3.cellAt (i := 0) (by simp)
          have y1 := hb3.cellAt (i := 1) (by simp)
          have y2 := hb3.cellAt (i := 2) (by simp)
          have y3 := hb3.cellAt (i := 3) (by simp)
          have y4 := hb3.cellAt (i := 4) (by simp)
          have y5 := hb3.cellAt (i := 5) (by simp)
          have y6 := hb3.cellAt (i := 6) (by simp)
          simp at y0 y1 y2 y3 y4 y5 y6
          have cF := Lib.hid (spec_FormatMuseum _ (runM sampleM acc) wr (HM4.out.keep hb2.out))
          have hf33 := fmtL_lenR (runM sampleM acc)
          clear hkk hb3
          go_wp2_with (go_at_call 83; refine (fun h : Hid _ => h.out) ?_)
          unfold Hid
          refine cF.out.mono ?_
          rintro e w6 ⟨vf, rfl, he6, hof⟩
          obtain ⟨Af, cf, rfl, -⟩ := own_form hof
          have HE6 := Lib.hid (hb2.out.trans he6)
          have HO6 := Lib.hid (own_keep hown2.out he6)
          have HOF := Lib.hid hof
          clear he6 hof y0 y1 y2 y3 y4 y5 y6
          go_wp2_with (at_builtin; refine (fun h : Hid _ => h.out) ?_)
          unfold Hid
          refine appendRd ei_SF rfl _ _ rfl w4.heap.size w6 _ kk _ (by rfl) HO6.out Af (fmtL (runM sampleM acc)).length cf (sv (fmtL (runM sampleM acc))) (by rfl) (Rd.of_own HOF.out) (own_nilS HOF.out) (one_senc _) (by omega) HE6.out.size ?_
          intro v' w7 ho7 he7
          have HO7 := Lib.hid ho7
          have HE7 := Lib.hid (he7 w4 HE6.out (Nat.le_refl _))
          clear ho7 he7
          go_wp2_with fail
          go_ret2
          refine scr_yes HF.out (n := kk + (fmtL (runM sampleM acc)).length) (by unfold outL; rw [List.length_append, List.length_map, HKK.out, HNL.out]) (HEN.out.trans (HE4.out.trans HE7.out)) (own_weak (base := w4.heap.size) ?_ (HEN.out.trans HE4.out).size)
          unfold outL
          rw [sv_app, ← HNL.out]
          exact HO7.out
end Go.Proofs.YtfmifllcbbfpoaaGreatDoor
/- The walk of the law on FormatMuseum; no condition but what stands at each theorem. -/
namespace Go.Proofs.YtfmifllcbbfpoaaGreatDoor
set_option linter.unusedSimpArgs false
set_option linter.unusedVariables false
open Go.RowKit Go.Sort
theorem sv_senc (l : List ByteArray) : sv l = l.flatMap senc := by
  induction l with
  | nil => rfl
  | cons a l ih => rw [List.flatMap_cons, ← ih]; rfl
theorem fmtL_len (m : GMuseum) : (fmtL m).length ≤ 33 := by
  unfold fmtL
  split
  · rename_i h
    have := sealed_len (museumB_parts.1 h).2.2.2.2.2.2.1
    simp; omega
  · simp
theorem markEnd_leF {v : MV} (h : MFit v) : 0 ≤ markEnd 1 v ∧ markEnd 1 v ≤ 100000000 := by
  have d1 := h.nd
  have d2 := h.nf
  have d3 := h.np
  have d4 := h.ng
  have d5 := h.nr
  unfold markEnd mk4 mk3 mk2 mk1
  omega
end Go.Proofs.YtfmifllcbbfpoaaGreatDoor
/- The walk of the law on RunScript; no condition but what stands at each theorem. -/
namespace Go.Proofs.YtfmifllcbbfpoaaGreatDoor
set_option linter.unusedSimpArgs false
set_option linter.unusedVariables false
open Go.RowKit Go.Sort
theorem scriptL_len (x : ByteArray) : (scriptL x).length ≤ 73 := by
  unfold scriptL
  split
  · simp
  · rename_i l _
    unfold outL
    have h1 := runL_lenR sampleM l
    have h2 := fmtL_lenR (runM sampleM l)
    simp
    omega
set_option maxRecDepth 100000 in
set_option maxHeartbeats 8000000 in
theorem law_RunScript (x : ByteArray) (w : World) (htab : Hid (Lib.TabIs Tryz.prog w "internal/strconv.uint64pow10" .u64 Lib.pow10Tab)) (hM : Hid (∃ k, w.cell? ⟨0, 0, none⟩ = some (.int .i64 k))) :
    Calls Tryz.prog 8 #[.string x] w fun e w' => e = .returned (.bool true) ∧ Ext w w' := by
  by_cases hx : x.size ≤ 1048576
  case neg =>
    have hl : (1048576 : Int) < (x.size : Int) := by omega
    clear hx
    go_enter Tryz.func8, Tryz.ntmps8
    go_wp2_with fail
    go_ret
    exact ⟨rfl, Ext.refl _⟩
  have hl : ¬ (1048576 : Int) < (x.size : Int) := by omega
  have cS := Lib.hid (spec_RunScript x w hx)
  have cI := Lib.hid (fun W (he : Ext w W) => impl_RunScript x W hx (Lib.hid (tab_ext htab.out he)) (Lib.hid (max_ext hM.out he)))
  have hLn := scriptL_len x
  obtain ⟨LL, hLL⟩ : ∃ LL, LL = (scriptL x).length := ⟨_, rfl⟩
  obtain ⟨bb, hbb⟩ : ∃ bb, bb = scriptB x := ⟨_, rfl⟩
  have HLL := Lib.hid hLL
  have HBB := Lib.hid hbb
  rw [← hLL] at hLn
  clear hx hLL hbb
  have fbb : (bb != bb) = false := by cases bb <;> rfl
  have E := Lib.hid (Ext.refl w)
  go_enter Tryz.func8, Tryz.ntmps8
  go_wp2_with (go_at_call 35; refine (fun h : Hid _ => h.out) ?_)
  unfold Hid
  refine (cS.out).mono ?_
  rintro e w1 ⟨lW, rfl, h1, i1⟩
  rw [← HLL.out, sv_senc] at i1
  rw [← HBB.out]
  obtain ⟨AlW, clW, rfl, -⟩ := own_form i1
  have E := Lib.hid (E.out.trans h1)
  have IW := Lib.hid i1
  have TW := Lib.hid (At.of_own i1)
  have z1 : w.heap.size ≤ w1.heap.size := h1.size
  clear h1 i1
  go_wp2_with (go_at_call 31; refine (fun h : Hid _ => h.out) ?_)
  unfold Hid
  refine (cI.out w1 E.out).mono ?_
  rintro e w2 ⟨lG, rfl, h2, i2⟩
  rw [← HLL.out, sv_senc] at i2
  rw [← HBB.out]
  obtain ⟨AlG, clG, rfl, -⟩ := own_form i2
  have E := Lib.hid (E.out.trans h2)
  have IW := Lib.hid (own_keep IW.out h2)
  have IG := Lib.hid i2
  have TG := Lib.hid (At.of_own i2)
  have z2 : w1.heap.size ≤ w2.heap.size := h2.size
  clear h2 i2
  go_wp2_with (go_at_call 36; refine (fun h : Hid _ => h.out) ?_)
  unfold Hid
  refine (laws_eqStringS _ _ _ _ _ _ (scriptL x) w2 (Rd.of_own IG.out) (Rd.of_own IW.out)).mono ?_
  rintro e w3 ⟨rfl, h3⟩
  have E := Lib.hid (E.out.trans h3)
  have IW := Lib.hid (own_keep IW.out h3)
  have IG := Lib.hid (own_keep IG.out h3)
  have z3 : w2.heap.size ≤ w3.heap.size := h3.size
  clear h3
  go_wp2_with (go_at_call 37; refine (fun h : Hid _ => h.out) ?_)
  unfold Hid
  refine (laws_markStringS _ _ _ 1 _ _ w3 IG.out (by omega) (by omega) (by omega)).mono ?_
  rintro e w4 ⟨rfl, o4, g4⟩
  have k4 := KeptOut.of_at g4 TG.out
  have E := Lib.hid (k4.ext E.out (by omega))
  have z4 : w3.heap.size ≤ w4.heap.size := g4.size
  have IW := Lib.hid (k4.own IW.out (fun g hg => .inl (by have := (TW.out g hg).2; omega)))
  have IM := Lib.hid o4
  clear k4 o4 g4 IG
  have nk4 : ¬ (1 + (LL : Int) < 0) := by omega
  go_wp2_with (go_at_call 38; refine (fun h : Hid _ => h.out) ?_)
  unfold Hid
  refine (laws_heldStringS _ _ _ 1 w4 (Rd.of_own IM.out) (by omega) (by omega) (by omega)).mono ?_
  rintro e w5 ⟨rfl, h5⟩
  have E := Lib.hid (E.out.trans h5)
  have IW := Lib.hid (own_keep IW.out h5)
  have IM := Lib.hid (own_keep IM.out h5)
  have z5 : w4.heap.size ≤ w5.heap.size := h5.size
  clear h5
  go_wp2_with (go_at_call 31; refine (fun h : Hid _ => h.out) ?_)
  unfold Hid
  refine (cI.out w5 E.out).mono ?_
  rintro e w6 ⟨lU, rfl, h6, i6⟩
  rw [← HLL.out, sv_senc] at i6
  rw [← HBB.out]
  obtain ⟨AlU, clU, rfl, -⟩ := own_form i6
  have E := Lib.hid (E.out.trans h6)
  have IW := Lib.hid (own_keep IW.out h6)
  have IM := Lib.hid (own_keep IM.out h6)
  have IU := Lib.hid i6
  have TU := Lib.hid (At.of_own i6)
  have z6 : w5.heap.size ≤ w6.heap.size := h6.size
  clear h6 i6
  go_wp2_with (go_at_call 36; refine (fun h : Hid _ => h.out) ?_)
  unfold Hid
  refine (laws_eqStringS _ _ _ _ _ _ (scriptL x) w6 (Rd.of_own IU.out) (Rd.of_own IW.out)).mono ?_
  rintro e w7 ⟨rfl, h7⟩
  have E := Lib.hid (E.out.trans h7)
  have IW := Lib.hid (own_keep IW.out h7)
  have IM := Lib.hid (own_keep IM.out h7)
  have IU := Lib.hid (own_keep IU.out h7)
  have z7 : w6.heap.size ≤ w7.heap.size := h7.size
  clear h7
  go_wp2_with (go_at_call 38; refine (fun h : Hid _ => h.out) ?_)
  unfold Hid
  refine (laws_heldStringS _ _ _ 1 w7 (Rd.of_own IM.out) (by omega) (by omega) (by omega)).mono ?_
  rintro e w8 ⟨rfl, h8⟩
  have E := Lib.hid (E.out.trans h8)
  have IW := Lib.hid (own_keep IW.out h8)
  have IM := Lib.hid (own_keep IM.out h8)
  have IU := Lib.hid (own_keep IU.out h8)
  have z8 : w7.heap.size ≤ w8.heap.size := h8.size
  clear h8
  go_wp2_with fail
  go_ret
  exact ⟨rfl, E.out⟩
end Go.Proofs.YtfmifllcbbfpoaaGreatDoor
