/- Contract of Suspects of the program; no condition but what stands at each theorem. -/
import Derived.Test.YtlgmiifpdjalpaaSG2
import Derived.Test.YtlgmiifpdjalpaaShelf
import Derived.Sort.OwnSortedInts
namespace Go.Proofs.Ytlgmiifpdjalpaa
set_option linter.unusedSimpArgs false
set_option linter.unusedVariables false
open Go.RowKit Go.Sort
theorem own_parts {w : World} {base : Nat} {e : TypeId} {n c g : Nat} {zs : List Int} (h : w.ownsRow base e 1 (.slice (some ⟨g, 0, none⟩) n c) n (zs.flatMap ienc)) :
    ∃ cur, zs.length = n ∧ base ≤ g ∧ w.heap[g]? = some (.cells cur e (0, 0)) ∧ n ≤ c ∧ c ≤ maxLen ∧ cur.size = c * 1 ∧ cur.toList.take zs.length = zs.map (Value.int .i64) := by
  have hl : zs.length = n := by have := h.1; rw [ienc_map, List.length_map] at this; omega
  rcases own_block h with ⟨h0, _⟩ | ⟨g', cur, h0, h1, h2, h3, h4, h5, h6⟩
  · cases h0
  · injection h0 with h0
    injection h0 with h0 _ _
    subst h0
    refine ⟨cur, hl, h1, h2, h3, h4, h5, ?_⟩
    rw [ienc_map, Nat.mul_one] at h6
    rw [hl]; exact h6
theorem sort_own {a w : World} {base g n c : Nat} {zs : List Int} (h : w.ownsRow base 3 1 (.slice (some ⟨g, 0, none⟩) n c) n (zs.flatMap ienc)) (ha : Ext a w) (hb : a.heap.size ≤ base) (hz : n ≤ 1048576) :
    Calls Try.prog 114 #[.slice (some ⟨g, 0, none⟩) n c] w fun e w' => e = .returned (.tuple #[]) ∧ Ext a w' ∧ w'.ownsRow base 3 1 (.slice (some ⟨g, 0, none⟩) n c) n ((zs.mergeSort fun x y => decide (x ≤ y)).flatMap ienc) := by
  obtain ⟨cur, rfl, h1, h2, h3, h4, h5, h6⟩ := own_parts h
  refine (Try.slices_Sort_int g 0 c zs w (holds_of_blockI h2 h6) (Array.getElem?_eq_some_iff.1 h2).1 (by omega)).mono ?_
  rintro e w' ⟨rfl, k, os, rfl⟩
  refine ⟨rfl, ha.grown (grownBy_sortedI _) (fun q hq => by injection hq with hq; subst hq; omega), ?_⟩
  rw [ienc_map]
  exact ownsRow_sortedI (by simp) h1 h2 h3 h4 h5
theorem compact_own {a w : World} {base g n c : Nat} {zs : List Int} (h : w.ownsRow base 3 1 (.slice (some ⟨g, 0, none⟩) n c) n (zs.flatMap ienc)) (ha : Ext a w) (hb : a.heap.size ≤ base) :
    Calls Try.prog 115 #[.slice (some ⟨g, 0, none⟩) n c] w fun e w' => e = .returned (.slice (some ⟨g, 0, none⟩) (Lib.compact zs).length c) ∧ Ext a w' ∧ w'.ownsRow base 3 1 (.slice (some ⟨g, 0, none⟩) (Lib.compact zs).length c) (Lib.compact zs).length ((Lib.compact zs).flatMap ienc) := by
  obtain ⟨cur, rfl, h1, h2, h3, h4, h5, h6⟩ := own_parts h
  have hcl := compact_len zs
  refine (Try.slices_Compact_int g 0 c zs w (holds_of_blockI h2 h6) (by unfold maxLen at h4; omega) h3).mono ?_
  rintro e w' ⟨rfl, q, rfl⟩
  obtain ⟨D, hD⟩ : ∃ D, D = Lib.compact zs ++ List.replicate (zs.length - (Lib.compact zs).length) 0 := ⟨_, rfl⟩
  have hDl : D.length = zs.length := by rw [hD]; simp; omega
  rw [← hD]
  have hheap : (putRow (Value.int .i64) (Sort.ahead w q) g 0 D.toArray).heap[g]? = some (.cells (putCells (Value.int .i64) 0 D.toArray cur) 3 (0, 0)) := by
    simp [putRow, mapBlock, Sort.ahead, Array.getElem?_modify, h2, onCells]
  have hgr : w.grownBy (putRow (Value.int .i64) (Sort.ahead w q) g 0 D.toArray) (some g) := by
    refine ⟨rfl, rfl, rfl, by simp [putRow, mapBlock, Sort.ahead], fun k hk hne => ?_⟩
    have : g ≠ k := fun e => hne (by rw [e])
    simp [putRow, mapBlock, Sort.ahead, Array.getElem?_modify, this]
  refine ⟨rfl, ha.grown hgr (fun q hq => by injection hq with hq; subst hq; omega), by rw [ienc_map, List.length_map]; omega, .inr ⟨g, c, _, rfl, h1, hheap, by omega, h4, by simp [putCells, h5], ?_⟩⟩
  have ht := take_putCellsI cur D (by omega)
  rw [ienc_map, Nat.mul_one]
  have h7 : ((putCells (Value.int .i64) 0 D.toArray cur).toList.take D.length).take (Lib.compact zs).length = (D.map (Value.int .i64)).take (Lib.compact zs).length := by rw [ht]
  rw [List.take_take, Nat.min_eq_left (by omega)] at h7
  rw [h7, hD, List.map_append, List.take_append_of_le_length (by simp), List.take_of_length_le (by simp)]
set_option maxRecDepth 100000 in
set_option maxHeartbeats 8000000 in
theorem impl_Suspects (A : Option Addr) (n c : Nat) (ss : List GStay) (hall : Int) (A1 : Option Addr) (n1 c1 : Nat) (cs : List GCheck) (o : Int) (w : World) (hx : Rd w 4 A n (ss.flatMap GStay.enc)) (hx1 : Rd w 3 A1 n1 (cs.flatMap GCheck.enc)) (hn : n ≤ 1048576) :
    Calls Try.prog 71 #[.slice A n c, .int .i64 hall, .slice A1 n1 c1, .int .i64 o] w (SuspPost (suspL ss hall cs o) w) := by
  have hl := Lib.hid (hx.len GStay.len (by omega))
  have HX := Lib.hid hx
  have HX1 := Lib.hid hx1
  have cL := Lib.hid (fun W e => impl_LastSeen A1 n1 c1 cs o W (HX1.out.keep (w' := W) e))
  have cF := Lib.hid (impl_FirstMissed A1 n1 c1 cs o w hx1)
  have hfn := first_neg cs o
  obtain ⟨hi, hhi⟩ : ∃ hi, hi = firstMissed cs o := ⟨_, rfl⟩
  clear hx hx1
  by_cases hm : hi < 0
  case pos =>
    have HF : Hid (suspL ss hall cs o = []) := by
      unfold Hid suspL
      rw [if_neg (by omega)]
    rw [← hhi] at cF
    clear hfn hhi
    go_enter Try.func71, Try.ntmps71
    go_wp2_with (refine cF.out.mono ?_; rintro e w1 ⟨rfl, hb1⟩; have HB1 := Lib.hid hb1; clear hb1)
    go_ret
    refine ⟨_, rfl, HB1.out, ?_⟩
    rw [HF.out]
    exact World.ownsRow_nil _ _ _ _
  case neg =>
  obtain ⟨lo, hlo⟩ : ∃ lo, lo = imax 0 (lastSeen cs o) := ⟨_, rfl⟩
  obtain ⟨ls, hls⟩ : ∃ ls, ls = lastSeen cs o := ⟨_, rfl⟩
  have HF : Hid (suspL ss hall cs o = uniqL (stayP ss hall lo hi)) := by
    unfold Hid suspL
    rw [if_pos (by omega), hlo, hhi]
  rw [← hls] at hlo
  rw [← hls] at cL
  rw [← hhi] at cF
  have HLO := Lib.hid hlo
  have hmx := @run_imax Try.prog
  clear hfn hhi hls hlo
  go_enter Try.func71, Try.ntmps71
  go_wp2_with (first
    | (go_at_call 70; refine cF.out.mono ?_; rintro e w1 ⟨rfl, hb1⟩; have HB1 := Lib.hid hb1; clear hb1)
    | (go_at_call 69; refine (cL.out _ HB1.out).mono ?_; rintro e w2 ⟨rfl, hb2⟩; have HB2 := Lib.hid (HB1.out.trans hb2); clear hb2))
  try rw [← HLO.out]
  clear hmx HB1
  have HO3 : Hid ((w2.alloc (.cells #[] 3)).ownsRow w.heap.size 3 1 (.slice (some ⟨w2.heap.size, 0, none⟩) 0 0) 0 (([] : List Int).flatMap ienc)) := own_weak (own_empty w2 w2.heap.size 3 1 (Nat.le_refl _)) HB2.out.size
  go_loopw [11, 26] (fun v iv wr => ∃ (k : Nat) (L : List Int), k ≤ n ∧ iv = .int .i64 k ∧ Hid (wr.ownsRow w.heap.size 3 1 v L.length (L.flatMap ienc)) ∧ Hid (L = stayP (ss.take k) hall lo hi) ∧ Hid (L.length ≤ k) ∧ Hid (v ≠ .slice none 0 0) ∧ Ext w wr) (fun _ iv _ => n - (intOf iv).toNat)
  case atStart => exact ⟨0, [], Nat.zero_le _, rfl, HO3, by unfold Hid; simp [stayP], Lib.hid (Nat.le_refl _), Lib.hid (by intro h; cases h), HB2.out.alloc _⟩
  case round =>
    obtain ⟨k, L, hk, rfl, hown, hmem, hLk, hnz, hb⟩ := hrel
    have HB := Lib.hid hb
    by_cases hlt : k < n
    · obtain ⟨b, off, x, rfl, hbs, hxk, q0, q1, q2, q3⟩ := GStay.at_ (HX.out.keep hb) hlt
      obtain ⟨xp, xh, xf, xt⟩ := x
      simp only at q0 q1 q2 q3
      have HSN : Hid (stayP (ss.take (k + 1)) hall lo hi = stayP (ss.take k) hall lo hi ++ if stayK hall lo hi ⟨xp, xh, xf, xt⟩ then [xp] else []) := by
        unfold Hid; rw [List.take_add_one, hxk, Option.toList_some, stayP_snoc]
      have hLb : L.length ≤ 1048576 := by have := hLk.out; omega
      obtain ⟨wx, hwx⟩ : ∃ wx, wx = wr.alloc (.cells #[.int .i64 xp, .int .i64 xh, .int .i64 xf, .int .i64 xt] 95) := ⟨_, rfl⟩
      have hEx : Ext wr wx := by rw [hwx]; exact (Ext.refl wr).alloc _
      have hox := own_keep hown.out hEx
      obtain ⟨Av, cv, rfl, hcv⟩ := own_form hown.out
      have Hwx := Lib.hid hwx
      have HEx := Lib.hid hEx
      have HOX := Lib.hid hox
      have hwb := hb.size
      clear hb hxk hwx hEx hox
      have HS := Lib.hid (fun (h : stayK hall lo hi ⟨xp, xh, xf, xt⟩ = false) => (And.intro HOX (And.intro (show Hid (L = stayP (ss.take (k + 1)) hall lo hi) by unfold Hid; rw [HSN.out, if_neg (by rw [h]; decide), List.append_nil]; exact hmem.out) (HB.out.trans HEx.out))))
      by_cases e0 : xh = hall
      case neg =>
        have e0' : ¬ hall = xh := fun h => e0 h.symm
        have e0b : (xh == hall) = false := beq_false_of_ne e0
        have e0c : decide (xh = hall) = false := decide_eq_false e0
        have HN := Lib.hid (HS.out (by simp [stayK, e0]))
        clear HS
        go_wp2_with fail
        try rw [← Hwx.out]
        go_roundw
        case rel => exact ⟨k + 1, L, by omega, by go_num, HN.out.1, HN.out.2.1, Lib.hid (by have := hLk.out; omega), hnz, HN.out.2.2⟩
        case measure => simp [intOf]; omega
      case pos =>
      obtain rfl : hall = xh := e0.symm
      by_cases e1 : xf ≤ hi
      case neg =>
        replace e1 : hi < xf := by omega
        have HN := Lib.hid (HS.out (by simp [stayK]; omega))
        clear HS
        go_wp2_with fail
        try rw [← Hwx.out]
        go_roundw
        case rel => exact ⟨k + 1, L, by omega, by go_num, HN.out.1, HN.out.2.1, Lib.hid (by have := hLk.out; omega), hnz, HN.out.2.2⟩
        case measure => simp [intOf]; omega
      case pos =>
      have e1' : ¬ hi < xf := by omega
      by_cases e2 : lo ≤ xt
      case neg =>
        replace e2 : xt < lo := by omega
        have HN := Lib.hid (HS.out (by simp [stayK]; omega))
        clear HS
        go_wp2_with fail
        try rw [← Hwx.out]
        go_roundw
        case rel => exact ⟨k + 1, L, by omega, by go_num, HN.out.1, HN.out.2.1, Lib.hid (by have := hLk.out; omega), hnz, HN.out.2.2⟩
        case measure => simp [intOf]; omega
      case pos =>
      have e2' : ¬ xt < lo := by omega
      have HM : Hid (L ++ [xp] = stayP (ss.take (k + 1)) hall lo hi) := by
        unfold Hid
        rw [HSN.out, if_pos (by simp [stayK, e1, e2]), ← hmem.out]
      have hxs : wx.heap.size = wr.heap.size + 1 := by rw [Hwx.out]; simp
      clear HS
      go_wp2_with (at_builtin; rw [← Hwx.out]; rw [show wr.heap.size + 1 = wx.heap.size from hxs.symm]; refine append1H ei_intF rfl _ _ rfl w.heap.size wx _ _ L.length _ (by rfl) HOX.out [.int .i64 xp] (by rfl) rfl (one_intB _) (by omega) (by omega) ?_; intro v3 w3 ho3 hg3; have HO3 := Lib.hid (own_flat ho3); have HE3 := Lib.hid ((HB.out.trans HEx.out).grown hg3 (fun q hq => (HOX.out.lt q hq).1)); clear ho3 hg3)
      go_roundw
      case rel => exact ⟨k + 1, L ++ [xp], by omega, by go_num, by unfold Hid; rw [List.length_append]; exact HO3.out, HM, Lib.hid (by have := hLk.out; simp; omega), Lib.hid (fun h => by subst h; rcases HO3.out.2 with ⟨_, h0⟩ | ⟨g, cap, cur, h0, _⟩; (· omega); (· cases h0)), HE3.out⟩
      case measure => simp [intOf]; omega
    · obtain rfl : k = n := by omega
      have hmm := hmem.out
      rw [List.take_of_length_le (by rw [hl.out]; omega)] at hmm
      obtain ⟨Av, cv, rfl, hcv⟩ := own_form hown.out
      obtain ⟨g, rfl⟩ : ∃ g, Av = some ⟨g, 0, none⟩ := by
        rcases own_block hown.out with ⟨h0, h1, h2⟩ | ⟨g, cur, h0, _⟩
        · subst h0 h2
          exact absurd (by rw [h1]) hnz.out
        · exact ⟨g, h0⟩
      have cS := Lib.hid (sort_own hown.out hb (Nat.le_refl _) (by have := hLk.out; omega))
      obtain ⟨M, hM⟩ : ∃ M, M = L.mergeSort fun x y => decide (x ≤ y) := ⟨_, rfl⟩
      rw [← hM] at cS
      have HMM := Lib.hid hM
      have hcp := Lib.hid (fun (W : World) (h : W.ownsRow w.heap.size 3 1 (.slice (some ⟨g, 0, none⟩) L.length cv) L.length (M.flatMap ienc)) (e : Ext w W) => compact_own (zs := M) h e (Nat.le_refl _))
      clear hM
      obtain ⟨nn, hnn⟩ : ∃ nn, nn = L.length := ⟨_, rfl⟩
      rw [← hnn] at cS hcp ⊢
      clear hnn
      clear hnz
      go_wp2_with (first
        | (go_at_call 114; refine cS.out.mono ?_; rintro e w4 ⟨rfl, hb4, ho4⟩; have HB4 := Lib.hid hb4; have HO4 := Lib.hid ho4; clear hb4 ho4)
        | (go_at_call 115; refine (hcp.out _ HO4.out HB4.out).mono ?_; rintro e w5 ⟨rfl, hb5, ho5⟩; have HB5 := Lib.hid hb5; have HO5 := Lib.hid ho5; clear hb5 ho5))
      go_ret
      refine ⟨_, rfl, HB5.out, ?_⟩
      rw [HF.out, ← hmm, uniqL, ← HMM.out]
      exact HO5.out
end Go.Proofs.Ytlgmiifpdjalpaa
