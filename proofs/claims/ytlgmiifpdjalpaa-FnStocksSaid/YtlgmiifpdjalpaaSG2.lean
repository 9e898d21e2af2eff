/- Contract of Suspects of the reference: the walk; no condition but what stands at each theorem. -/
import Derived.Test.YtlgmiifpdjalpaaSG1
namespace Go.Proofs.Ytlgmiifpdjalpaa
set_option linter.unusedSimpArgs false
set_option linter.unusedVariables false
open Go.RowKit Go.Sort
theorem own_ne_box {w : World} {base : Nat} {e t : TypeId} {n c g b : Nat} {L : List Value} {cs : Array Value} (h : w.ownsRow base e 1 (.slice (some ⟨g, 0, none⟩) n c) n L) (hn : 0 < n) (hb : Blk w b t cs) (he : e ≠ t) : g ≠ b := by
  rintro rfl
  rcases own_block h with ⟨h0, _⟩ | ⟨g', cur, h0, _, hB, _⟩
  · cases h0
  · injection h0 with h0
    injection h0 with h0 _ _
    subst h0
    unfold Blk at hB hb
    rw [hB] at hb
    injection hb with hb
    injection hb with _ hb _
    exact he hb
theorem own_setG {w : World} {base : Nat} {e : TypeId} {n c g : Nat} {u : List Int} (h : w.ownsRow base e 1 (.slice (some ⟨g, 0, none⟩) n c) n (u.flatMap ienc)) {j : Nat} (hj : j < n) (x : Int) :
    base ≤ g ∧ g < w.heap.size ∧ (∀ o, w.frozen? ⟨g, o, none⟩ = false) ∧ (∀ i, i < n → w.cell? ⟨g, i, none⟩ = some (.int .i64 (u.getD i 0))) ∧ (w.setCell ⟨g, j, none⟩ (.int .i64 x)).ownsRow base e 1 (.slice (some ⟨g, 0, none⟩) n c) n ((u.set j x).flatMap ienc) := by
  obtain ⟨g', e', h1, h2, h3, h4, h5⟩ := own_set h hj x
  injection e' with e'
  injection e' with e' _ _
  subst e'
  exact ⟨h1, h2, h3, h4, h5⟩
def SuspPost (L : List Int) (w : World) (e : Ending) (w' : World) : Prop :=
  ∃ v, e = .returned v ∧ Ext w w' ∧ w'.ownsRow w.heap.size 3 1 v L.length (L.flatMap ienc)
set_option maxRecDepth 100000 in
set_option maxHeartbeats 8000000 in
theorem spec_Suspects (A : Option Addr) (n c : Nat) (ss : List GStay) (hall : Int) (A1 : Option Addr) (n1 c1 : Nat) (cs : List GCheck) (o : Int) (w : World) (hx : Rd w 4 A n (ss.flatMap GStay.enc)) (hx1 : Rd w 3 A1 n1 (cs.flatMap GCheck.enc)) (hn : n ≤ 1048576) :
    Calls Try.prog 74 #[.slice A n c, .int .i64 hall, .slice A1 n1 c1, .int .i64 o] w (SuspPost (suspL ss hall cs o) w) := by
  have hl := Lib.hid (hx.len GStay.len (by omega))
  obtain ⟨wo, hwo⟩ : ∃ wo, wo = w.alloc (.cells #[] 3) := ⟨_, rfl⟩
  have hEo : Ext w wo := by rw [hwo]; exact (Ext.refl w).alloc _
  have hOo : wo.ownsRow w.heap.size 3 1 (.slice (some ⟨w.heap.size, 0, none⟩) 0 0) 0 (([] : List Int).flatMap ienc) := by rw [hwo]; exact own_empty w w.heap.size 3 1 (Nat.le_refl _)
  have HX := Lib.hid hx
  have HX1 := Lib.hid hx1
  have cM := Lib.hid (fun W e => spec_IsMissing A1 n1 c1 cs o W (HX1.out.keep (w' := W) e))
  have cL := Lib.hid (fun W e => spec_LastSeen A1 n1 c1 cs o W (HX1.out.keep (w' := W) e))
  have cF := Lib.hid (fun W e => spec_FirstMissed A1 n1 c1 cs o W (HX1.out.keep (w' := W) e))
  have Hwo := Lib.hid hwo
  have HEo := Lib.hid hEo
  have HOo := Lib.hid hOo
  have hfn := first_neg cs o
  clear hx hx1 hwo hEo hOo
  cases hm : (firstMissed cs o != -1)
  case false =>
    have HF : Hid (suspL ss hall cs o = []) := by
      unfold Hid suspL
      have : firstMissed cs o = -1 := by simpa using hm
      rw [if_neg (by omega)]
    rw [hm] at cM
    clear hm hfn
    go_enter Try.func74, Try.ntmps74
    go_wp2_with (rw [← Hwo.out]; refine (cM.out _ HEo.out).mono ?_; rintro e w1 ⟨rfl, hb1⟩; have HB1 := Lib.hid hb1; clear hb1)
    go_ret
    refine ⟨_, rfl, HEo.out.trans HB1.out, ?_⟩
    rw [HF.out]
    exact own_keep HOo.out HB1.out
  case true =>
  have h0 : 0 ≤ firstMissed cs o := by
    have : firstMissed cs o ≠ -1 := by simpa using hm
    omega
  obtain ⟨lo, hlo⟩ : ∃ lo, lo = imax 0 (lastSeen cs o) := ⟨_, rfl⟩
  obtain ⟨hi, hhi⟩ : ∃ hi, hi = firstMissed cs o := ⟨_, rfl⟩
  obtain ⟨ls, hls⟩ : ∃ ls, ls = lastSeen cs o := ⟨_, rfl⟩
  have HF : Hid (suspL ss hall cs o = uniqL (stayP ss hall lo hi)) := by
    unfold Hid suspL
    rw [if_pos h0, hlo, hhi]
  rw [← hls] at hlo
  rw [hm] at cM
  rw [← hls] at cL
  rw [← hhi] at cF
  have HLO := Lib.hid hlo
  have hmx := @run_imax Try.prog
  clear hm hfn h0 hhi hls hlo
  go_enter Try.func74, Try.ntmps74
  go_wp2_with (first
    | (go_at_call 91; rw [← Hwo.out]; refine (cM.out _ HEo.out).mono ?_; rintro e w1 ⟨rfl, hb1⟩; have HB1 := Lib.hid (HEo.out.trans hb1); have HO1 := Lib.hid (own_keep HOo.out hb1); clear hb1)
    | (go_at_call 116; refine (cL.out _ HB1.out).mono ?_; rintro e w2 ⟨rfl, hb2⟩; have HB2 := Lib.hid (HB1.out.trans hb2); have HO2 := Lib.hid (own_keep HO1.out hb2); clear hb2)
    | (go_at_call 117; refine (cF.out _ HB2.out).mono ?_; rintro e w3 ⟨rfl, hb3⟩; have HB3 := Lib.hid (HB2.out.trans hb3); have HO3 := Lib.hid (own_keep HO2.out hb3); clear hb3))
  try rw [← HLO.out]
  clear hmx HB1 HB2 HO1 HO2
  go_loopw [9, 12] (fun v iv wr => ∃ (k : Nat) (L : List Int), k ≤ n ∧ iv = .int .i64 k ∧ Hid (wr.ownsRow w.heap.size 3 1 v L.length (L.flatMap ienc)) ∧ Hid (L.Pairwise (· < ·)) ∧ Hid (∀ x, x ∈ L ↔ x ∈ stayP (ss.take k) hall lo hi) ∧ Hid (L.length ≤ k) ∧ Ext w wr) (fun _ iv _ => n - (intOf iv).toNat)
  case atStart => exact ⟨0, [], Nat.zero_le _, rfl, HO3, Lib.hid (by simp), Lib.hid (fun x => by simp [stayP]), Lib.hid (Nat.le_refl _), HB3.out⟩
  case round =>
    obtain ⟨k, L, hk, rfl, hown, hsrt, hmem, hLk, hb⟩ := hrel
    have HB := Lib.hid hb
    by_cases hlt : k < n
    · obtain ⟨b, off, x, rfl, hbs, hxk, q0, q1, q2, q3⟩ := GStay.at_ (HX.out.keep hb) hlt
      obtain ⟨xp, xh, xf, xt⟩ := x
      simp only at q0 q1 q2 q3
      have HSN : Hid (stayP (ss.take (k + 1)) hall lo hi = stayP (ss.take k) hall lo hi ++ if stayK hall lo hi ⟨xp, xh, xf, xt⟩ then [xp] else []) := by
        unfold Hid; rw [List.take_add_one, hxk, Option.toList_some, stayP_snoc]
      have hLb : L.length ≤ 1048576 := by have := hLk.out; omega
      obtain ⟨wx, hwx⟩ : ∃ wx, wx = wr.alloc (.cells #[.int .i64 xp, .int .i64 xh, .int .i64 xf, .int .i64 xt] 95) := ⟨_, rfl⟩
      have hEx : Ext wr wx := by rw [hwx]; exact (Ext.refl wr).alloc _
      have hBx : Blk wx wr.heap.size 95 #[.int .i64 xp, .int .i64 xh, .int .i64 xf, .int .i64 xt] := by rw [hwx]; exact Blk.new _ _ _
      have hox := own_keep hown.out hEx
      obtain ⟨Av, cv, rfl, hcv⟩ := own_form hown.out
      have cH := Lib.hid (spec_l19HasG Av L.length cv L xp wx (Rd.of_own hox))
      have Hwx := Lib.hid hwx
      have HEx := Lib.hid hEx
      have HBx := Lib.hid hBx
      have HOX := Lib.hid hox
      clear hb hxk hwx hEx hBx hox
      have skip : ∀ w', Ext wx w' → (stayK hall lo hi ⟨xp, xh, xf, xt⟩ = true → xp ∈ L) → Hid (w'.ownsRow w.heap.size 3 1 (.slice Av L.length cv) L.length (L.flatMap ienc)) ∧ Hid (∀ y, y ∈ L ↔ y ∈ stayP (ss.take (k + 1)) hall lo hi) ∧ Ext w w' := fun w' e h => by
        refine ⟨own_keep HOX.out e, fun y => ?_, HB.out.trans (HEx.out.trans e)⟩
        rw [HSN.out, List.mem_append, hmem.out]
        by_cases hK : stayK hall lo hi ⟨xp, xh, xf, xt⟩ = true
        · rw [if_pos hK, List.mem_singleton]
          constructor
          · exact fun h => .inl h
          · rintro (h' | rfl)
            · exact h'
            · exact (hmem.out _).1 (h hK)
        · rw [if_neg hK]; simp
      have HS := Lib.hid skip
      clear skip
      have fields := fun (w' : World) (e : Ext wx w') => (And.intro ((HBx.out.keep e).cell 0) (And.intro ((HBx.out.keep e).cell 1) (And.intro ((HBx.out.keep e).cell 2) ((HBx.out.keep e).cell 3))))
      have HFD := Lib.hid fields
      have hlx : wr.heap.size < wx.heap.size := HBx.out.lt
      clear fields
      by_cases e0 : xh = hall
      case neg =>
        have e0' : ¬ hall = xh := fun h => e0 h.symm
        have e0b : (xh == hall) = false := beq_false_of_ne e0
        have e0c : decide (xh = hall) = false := decide_eq_false e0
        have HN := Lib.hid (HS.out _ (Ext.refl _) (fun h => by simp [stayK, e0] at h))
        clear cH HS
        go_wp2_with fail
        try rw [← Hwx.out]
        go_roundw
        case rel => exact ⟨k + 1, L, by omega, by go_num, HN.out.1, hsrt, HN.out.2.1, Lib.hid (by have := hLk.out; omega), HN.out.2.2⟩
        case measure => simp [intOf]; omega
      case pos =>
      obtain rfl : hall = xh := e0.symm
      by_cases e1 : xf ≤ hi
      case neg =>
        replace e1 : hi < xf := by omega
        have HN := Lib.hid (HS.out _ (Ext.refl _) (fun h => by simp [stayK] at h; omega))
        clear cH HS
        go_wp2_with fail
        try rw [← Hwx.out]
        go_roundw
        case rel => exact ⟨k + 1, L, by omega, by go_num, HN.out.1, hsrt, HN.out.2.1, Lib.hid (by have := hLk.out; omega), HN.out.2.2⟩
        case measure => simp [intOf]; omega
      case pos =>
      have e1' : ¬ hi < xf := by omega
      by_cases e2 : lo ≤ xt
      case neg =>
        replace e2 : xt < lo := by omega
        have HN := Lib.hid (HS.out _ (Ext.refl _) (fun h => by simp [stayK] at h; omega))
        clear cH HS
        go_wp2_with fail
        try rw [← Hwx.out]
        go_roundw
        case rel => exact ⟨k + 1, L, by omega, by go_num, HN.out.1, hsrt, HN.out.2.1, Lib.hid (by have := hLk.out; omega), HN.out.2.2⟩
        case measure => simp [intOf]; omega
      case pos =>
      have e2' : ¬ xt < lo := by omega
      have hK : stayK hall lo hi ⟨xp, hall, xf, xt⟩ = true := by simp [stayK, e1, e2]
      have HK := Lib.hid hK
      clear hK
      by_cases hin : xp ∈ L
      case pos =>
        rw [show decide (xp ∈ L) = true by simpa using hin] at cH
        have HS1 := Lib.hid (fun w' e => HS.out w' e (fun _ => hin))
        clear HS hin
        go_wp2_with (rw [← Hwx.out]; refine cH.out.mono ?_; rintro e w2 ⟨rfl, hb2⟩; have HB2 := Lib.hid hb2; clear hb2)
        have HN := Lib.hid (HS1.out _ HB2.out)
        go_roundw
        case rel => exact ⟨k + 1, L, by omega, by go_num, HN.out.1, hsrt, HN.out.2.1, Lib.hid (by have := hLk.out; omega), HN.out.2.2⟩
        case measure => simp [intOf]; omega
      case neg =>
        rw [show decide (xp ∈ L) = false by simpa using hin] at cH
        have Hin := Lib.hid hin
        have hrow := Lib.hid (fun k hk => hown.out.lt k hk)
        clear HS hin
        go_wp2_with (first
          | (go_at_call 118; rw [← Hwx.out]; refine cH.out.mono ?_; rintro e w2 ⟨rfl, hb2⟩; have HB2 := Lib.hid hb2; have z2 := hb2.size; have f2 := HFD.out w2 hb2; have p0 := f2.1; have p1 := f2.2.1; have p2 := f2.2.2.1; have p3 := f2.2.2.2; have HO2 := Lib.hid (own_keep HOX.out hb2); have HBx2 := Lib.hid (HBx.out.keep hb2); have l2 : wr.heap.size < w2.heap.size := (by omega); clear hb2 f2)
          | (at_builtin; refine append1H ei_intF rfl _ _ rfl w.heap.size w2 _ _ L.length _ (by rfl) HO2.out [.int .i64 xp] (by rfl) rfl (one_intB _) (by omega) (by have := HB.out.size; omega) ?_; intro v3 w3 ho3 hg3; have HO3 := Lib.hid (own_flat ho3); have HBx3 : Hid (Blk w3 wr.heap.size 95 #[.int .i64 xp, .int .i64 hall, .int .i64 xf, .int .i64 xt]) := (by unfold Hid Blk; rw [hg3.block wr.heap.size l2 (fun e => by have := (hrow.out wr.heap.size e.symm).2; omega)]; exact HBx2.out); have HE3 := Lib.hid ((HB.out.trans (HEx.out.trans HB2.out)).grown hg3 (fun q hq => (hrow.out q hq).1)); clear ho3 hg3))
        obtain ⟨A3, c3, rfl, hc3⟩ := own_form HO3.out
        obtain ⟨g3, rfl, hg3b, hl3, -⟩ := own_set HO3.out (j := L.length) (by omega) xp
        have hgx : g3 ≠ wr.heap.size := own_ne_box HO3.out (by omega) HBx3.out (by decide)
        have hxs : wr.heap.size < w3.heap.size := HBx3.out.lt
        have hwb : w.heap.size ≤ wr.heap.size := HB.out.size
        have last : ∀ (q r : List Int) (w' : World), L = q ++ r → (∀ y ∈ r, xp < y) → (q = [] ∨ ∃ q' y, q = q' ++ [y] ∧ ¬ xp < y) → Hid ((q ++ xp :: r).Pairwise (· < ·)) ∧ Hid (∀ y, y ∈ q ++ xp :: r ↔ y ∈ stayP (ss.take (k + 1)) hall lo hi) ∧ Hid ((q ++ xp :: r).length = L.length + 1) := fun q r w' hL hr hq => by
          refine ⟨put_sorted (by rw [← hL]; exact hsrt.out) (by rw [← hL]; exact Hin.out) hr hq, fun y => ?_, by unfold Hid; rw [hL]; simp; omega⟩
          have h1 := hmem.out y
          rw [HSN.out, if_pos HK.out]
          rw [hL] at h1
          simp only [List.mem_append, List.mem_cons, List.not_mem_nil, or_false] at h1 ⊢
          rw [← h1]
          constructor
          · rintro (h | h | h)
            · exact .inl (.inl h)
            · exact .inr h
            · exact .inl (.inr h)
          · rintro ((h | h) | h)
            · exact .inl h
            · exact .inr (.inr h)
            · exact .inr (.inl h)
        have HLAST := Lib.hid last
        clear last
        obtain ⟨w0, rfl⟩ : ∃ w0, w0 = wr := ⟨_, rfl⟩
        go_loopw [14] (fun av wq => ∃ (q r : List Int) (z : Int), av = .int .i64 q.length ∧ Hid (L = q ++ r) ∧ Hid (∀ y ∈ r, xp < y) ∧ Hid (wq.ownsRow w.heap.size 3 1 (.slice (some ⟨g3, 0, none⟩) (L.length + 1) c3) (L.length + 1) ((q ++ z :: r).flatMap ienc)) ∧ Hid (Blk wq w0.heap.size 95 #[.int .i64 xp, .int .i64 hall, .int .i64 xf, .int .i64 xt]) ∧ Ext w wq) (fun av _ => (intOf av).toNat)
        case atStart => exact ⟨L, [], xp, rfl, by unfold Hid; simp, Lib.hid (fun y hy => by cases hy), HO3, HBx3, HE3.out⟩
        case round =>
          obtain ⟨q, r, z, rfl, hLq, hr, hoq, hbq, hbE⟩ := hrel
          have hLl : L.length = q.length + r.length := by rw [hLq.out]; simp
          have HEq := Lib.hid hbE
          have hq0 : w0.heap.size < wr.heap.size := hbq.out.lt
          have b0 := hbq.out.cell 0
          have eb := cell_regrown (show wr.cell? ⟨w0.heap.size, 0, none⟩ = some (.int .i64 xp) from b0)
          rcases List.eq_nil_or_concat q with hq | ⟨q', y, hq⟩
          · subst hq
            have hl := HLAST.out [] r wr hLq.out hr.out (.inl rfl)
            have HLL := Lib.hid hl
            clear hl hLl
            go_wp2_with fail
            (refine wp_region_ext (by kernel_rfl) (by kernel_rfl) ?_; (repeat (go_big_quiet_step (first | fail))); refine wpQuiet_nil ?_)
            intro w1 hb1
            obtain ⟨-, hgl, hgf, hgc, ho5⟩ := own_setG (own_keep hoq.out hb1) (j := 0) (by omega) xp
            have p5 := (hbq.out.keep hb1).cell 0
            have g5 := hgc 0 (by omega)
            have lq1 : w0.heap.size < w1.heap.size := (hbq.out.keep hb1).lt
            have hLp : (0 : Int) < (L.length : Int) + 1 := by omega
            have HO5 : Hid ((w1.setCell ⟨g3, 0, none⟩ (.int .i64 xp)).ownsRow w.heap.size 3 1 (.slice (some ⟨g3, 0, none⟩) (L.length + 1) c3) (L.length + 1) (([] ++ xp :: r).flatMap ienc)) := ho5
            have HE5 : Hid (Ext w (w1.setCell ⟨g3, 0, none⟩ (.int .i64 xp))) := (HEq.out.trans hb1).setCell (p := ⟨g3, 0, none⟩) hg3b _
            clear hgc ho5 hb1 b0 eb
            go_wp2_with fail
            go_roundw
            case rel => exact ⟨k + 1, [] ++ xp :: r, by omega, by go_num, by unfold Hid; rw [HLL.out.2.2.out]; exact HO5.out, HLL.out.1, HLL.out.2.1, Lib.hid (by have := HLL.out.2.2.out; have := hLk.out; omega), HE5.out⟩
            case measure => simp [intOf]; omega
          · rw [List.concat_eq_append] at hq
            subst hq
            have hql : (q' ++ [y]).length = q'.length + 1 := by simp
            rw [hql] at hLl ⊢
            obtain ⟨-, hgl0, hgf0, hgc0, -⟩ := own_setG hoq.out (j := 0) (by omega) xp
            have cy := hgc0 q'.length (by omega)
            rw [hole_below] at cy
            have ey := cell_regrown cy
            have ew : IntKind.i64.wrap (((q'.length + 1 : Nat) : Int) - 1) = (q'.length : Int) := by rw [IntWalk.i64_in _ (by omega)]; push_cast; omega
            have ew2 : IntKind.i64.wrap ((q'.length : Int) + 1 - 1) = (q'.length : Int) := by rw [IntWalk.i64_in _ (by omega)]; omega
            have hqn : (q'.length : Int) < (L.length : Int) + 1 := by omega
            have hqn1 : (q'.length : Int) + 1 < (L.length : Int) + 1 := by omega
            have hqm : q'.length < L.length + 1 := by omega
            have hqm1 : q'.length + 1 < L.length + 1 := by omega
            have hq0' : (0 : Int) < (q'.length : Int) + 1 := by omega
            have hq1 : (1 : Int) ≤ (q'.length : Int) + 1 := by omega
            clear hgc0 hLl
            by_cases hc : xp < y
            · have HQ : Hid (L = q' ++ y :: r) := by unfold Hid; rw [hLq.out]; simp
              have HR := Lib.hid (show ∀ v ∈ y :: r, xp < v from fun v hv => by
                rcases List.mem_cons.1 hv with rfl | hv
                · exact hc
                · exact hr.out v hv)
              clear HLAST
              go_wp2_with fail
              (refine wp_region_ext (by kernel_rfl) (by kernel_rfl) ?_; (repeat (go_big_quiet_step (first | fail))); refine wpQuiet_nil ?_)
              intro w1 hb1
              obtain ⟨-, hgl, hgf, hgc, ho5⟩ := own_setG (own_keep hoq.out hb1) (j := q'.length + 1) (by omega) y
              rw [hole_step] at ho5
              have cy1 := hgc q'.length (by omega)
              rw [hole_below] at cy1
              have cz1 := hgc (q'.length + 1) (by omega)
              have HO5 := Lib.hid ho5
              have HB5 := Lib.hid (Blk.far (hbq.out.keep hb1) (p := ⟨g3, q'.length + 1, none⟩) (by show w0.heap.size ≠ g3; exact hgx.symm) (.int .i64 y))
              have HE5 : Hid (Ext w (w1.setCell ⟨g3, q'.length + 1, none⟩ (.int .i64 y))) := (HEq.out.trans hb1).setCell (p := ⟨g3, q'.length + 1, none⟩) hg3b _
              clear hgc ho5 hb1 b0 eb cy ey
              go_wp2_with fail
              go_roundw
              case rel => exact ⟨q', y :: r, y, by go_num, HQ, HR, HO5, HB5, HE5.out⟩
              case measure => simp [intOf]
            · have hl := HLAST.out (q' ++ [y]) r wr hLq.out hr.out (.inr ⟨q', y, rfl, hc⟩)
              have HLL := Lib.hid hl
              clear hl HLAST
              go_wp2_with fail
              (refine wp_region_ext (by kernel_rfl) (by kernel_rfl) ?_; (repeat (go_big_quiet_step (first | fail))); refine wpQuiet_nil ?_)
              intro w1 hb1
              obtain ⟨-, hgl, hgf, hgc, ho5⟩ := own_setG (own_keep hoq.out hb1) (j := q'.length + 1) (by omega) xp
              have hfl := hole_fill (q' ++ [y]) z xp r
              rw [hql] at hfl
              rw [hfl] at ho5
              have cz1 := hgc (q'.length + 1) (by omega)
              have p5 := (hbq.out.keep hb1).cell 0
              have lq1 : w0.heap.size < w1.heap.size := (hbq.out.keep hb1).lt
              have HO5 := Lib.hid ho5
              have HE5 : Hid (Ext w (w1.setCell ⟨g3, q'.length + 1, none⟩ (.int .i64 xp))) := (HEq.out.trans hb1).setCell (p := ⟨g3, q'.length + 1, none⟩) hg3b _
              clear hgc ho5 hb1 b0 eb cy ey hfl
              go_wp2_with fail
              go_roundw
              case rel => exact ⟨k + 1, (q' ++ [y]) ++ xp :: r, by omega, by go_num, by unfold Hid; rw [HLL.out.2.2.out]; exact HO5.out, HLL.out.1, HLL.out.2.1, Lib.hid (by have := HLL.out.2.2.out; have := hLk.out; omega), HE5.out⟩
              case measure => simp [intOf]; omega
    · obtain rfl : k = n := by omega
      go_wp2_with fail
      go_ret
      refine ⟨_, rfl, hb, ?_⟩
      have hmm := hmem.out
      rw [List.take_of_length_le (by rw [hl.out]; omega)] at hmm
      rw [HF.out, ← uniqL_eq hsrt.out hmm]
      exact hown.out
end Go.Proofs.Ytlgmiifpdjalpaa
