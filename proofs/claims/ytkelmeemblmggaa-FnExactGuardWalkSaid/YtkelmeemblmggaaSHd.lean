/- Contracts of the shortest way in a house; no condition but what stands at each theorem. -/
import Derived.Test.YtkelmeemblmggaaSHc
namespace Go.Proofs.Ytkelmeemblmggaa
set_option linter.unusedSimpArgs false
set_option linter.unusedVariables false
open Go.RowKit Go.Sort
/-- The box at bh holds the house of h halls with the doors ds. -/
structure HBox (w : World) (bh h : Nat) (A : Option Addr) (n c : Nat) (ds : List GDoor) : Prop where
  k0 : w.cell? ⟨bh, 0, none⟩ = some (.int .i64 (h : Int))
  k1 : w.cell? ⟨bh, 1, none⟩ = some (.slice A n c)
  lt : bh < w.heap.size
  rd : Rd w 2 A n (ds.flatMap GDoor.enc)
theorem HBox.keep {w w' : World} {bh h : Nat} {A : Option Addr} {n c : Nat} {ds : List GDoor} (H : HBox w bh h A n c ds) (e : Ext w w') : HBox w' bh h A n c ds :=
  ⟨(e.cellAt bh H.lt 0).trans H.k0, (e.cellAt bh H.lt 1).trans H.k1, by have := e.size; have := H.lt; omega, H.rd.keep e⟩
theorem impl_wayIn1 (h : Nat) (A : Option Addr) (n c : Nat) (ds : List GDoor) (x : Int) (bh : Nat) (w : World) (H : HBox w bh h A n c ds) (hh : h ≤ 7) (hn12 : n ≤ 12) :
    Calls Try.prog 76 #[.int .i64 x, .pointer (some ⟨bh, 0, none⟩)] w fun e w' => ∃ v, e = .returned v ∧ Ext w w' ∧ w'.ownsRow w.heap.size 3 1 v (linksTo ds x h).length ((linksTo ds x h).flatMap ienc) := by
  have k0 := H.k0
  have k1 := H.k1
  have hx := H.rd
  go_enter Try.func76, Try.ntmps76
  go_wp2_with fail
  refine (impl_linksOf h A n c ds x w hx hh hn12).mono ?_
  rintro e w1 ⟨v, rfl, he, ho⟩
  go_wp2_with fail
  go_ret
  exact ⟨_, rfl, he, ho⟩
theorem own_one (W : World) (base : Nat) (t : TypeId) (z : Int) (hb : base ≤ W.heap.size) : (W.alloc (.cells #[.int .i64 z] t)).ownsRow base t 1 (.slice (some ⟨W.heap.size, 0, none⟩) 1 1) 1 (([z] : List Int).flatMap ienc) :=
  own_of_blk hb (Blk.new _ _ _) (by simp) (by unfold maxLen; omega) rfl
/-- A way has been found, or none is there. -/
def WayPost (S : BS) (b : Nat) (w : World) (e : Ending) (w' : World) : Prop :=
  (S.f.getD b 0 < 0 ∧ e = .returned (.slice none 0 0) ∧ Ext w w') ∨ (0 ≤ S.f.getD b 0 ∧ ∃ g c', e = .returned (.slice (some ⟨g, 0, none⟩) ((S.d.getD b 0).toNat + 1) c') ∧ Ext w w')
set_option maxRecDepth 100000 in
set_option maxHeartbeats 4000000 in
theorem impl_shortest (h : Nat) (A : Option Addr) (n c : Nat) (ds : List GDoor) (a b : Nat) (bh : Nat) (w : World) (H : HBox w bh h A n c ds) (hs : Hid (NoTwice ds)) (h1 : 1 ≤ h) (h7 : h ≤ 7) (hn12 : n ≤ 12) (ha : a < h) (hb : b < h) :
    Calls Try.prog 75 #[.int .i64 h, .int .i64 a, .int .i64 b, .func (.func 76) #[] #[.pointer (some ⟨bh, 0, none⟩)]] w (WayPost (bfsAll ds h a) b w) := by
  obtain ⟨w1, hw1⟩ : ∃ w1, w1 = w.alloc (.cells #[.int .i64 (-1)] 3) := ⟨_, rfl⟩
  have hE1 : Ext w w1 := by rw [hw1]; exact (Ext.refl w).alloc _
  have hs1 : w1.heap.size = w.heap.size + 1 := by rw [hw1]; simp
  have hc1 : w1.cell? ⟨w.heap.size, 0, none⟩ = some (.int .i64 (-1)) := by rw [hw1, World.cell?_alloc_new]; rfl
  have HRep := Lib.hid (slices_Repeat h h1 h7 w.heap.size 1 w1 hc1 (by omega))
  have HE1 := Lib.hid hE1
  have Hw1 := Lib.hid hw1
  have HH := Lib.hid H
  have Hs1 := Lib.hid hs1
  clear hw1 hE1 hc1 H hs1
  go_enter Try.func75, Try.ntmps75
  go_wp2_with fail
  rw [← Hw1.out]
  refine HRep.out.mono ?_
  rintro e w2 ⟨rfl, he2, hi2⟩
  have hg2 := hi2.lt
  have hcell := hi2.cell (i := a) (by simpa using ha)
  have hfree := hi2.free a
  obtain ⟨gF, hgF⟩ : ∃ gF, gF = w1.heap.size := ⟨_, rfl⟩
  rw [← hgF] at hi2 hg2 hcell hfree ⊢
  have HgF : Hid (w.heap.size < gF) := by unfold Hid; rw [hgF, Hs1.out]; omega
  have hgF0 := HgF.out
  have HI2 := Lib.hid hi2
  have HE2 := Lib.hid (HE1.out.trans he2)
  clear hi2 he2 hgF HRep
  have hin0 : (-1 : Int) = (List.replicate h (-1 : Int)).getD a 0 := by simp [ha]
  rw [← hin0] at hcell
  clear hin0
  go_wp2_with fail
  obtain ⟨w3, hw3⟩ : ∃ w3, w3 = w2.setCell ⟨gF, a, none⟩ (.int .i64 (a : Int)) := ⟨_, rfl⟩
  rw [← hw3]
  have hs3 : w3.heap.size = w2.heap.size := by rw [hw3]; simp [World.setCell]
  have HI3 : Hid (IBlk w3 gF 3 (bs0 h a).f) := by unfold Hid; rw [hw3]; exact HI2.out.set a (a : Int)
  have HE3 : Hid (Ext w w3) := by unfold Hid; rw [hw3]; exact HE2.out.setCell (Nat.le_of_lt hgF0) _
  have hg3 : gF < w3.heap.size := by omega
  have HE3w := HE3.out.size
  have HQ := Lib.hid (QRow.one w3 w.heap.size [gF] 3 (a : Int) HE3w (by intro x hx; simp at hx; omega))
  have HI4 := Lib.hid (HI3.out.keep ((Ext.refl w3).alloc (.cells #[.int .i64 (a : Int)] 3)))
  have HE4 := Lib.hid (HE3.out.alloc (.cells #[.int .i64 (a : Int)] 3))
  have hbq := binv0 ha
  have HBI := Lib.hid hbq
  rw [show w2.heap.size = w3.heap.size from hs3.symm]
  clear hw3 hcell hfree HI2 HE2 hbq hs3
  go_loopg [10] h (fun fu qv wr => ∃ (i : Nat) (S : BS), h - i ≤ fu ∧ i ≤ S.q.length ∧ QRow wr w.heap.size [gF] 3 qv (S.q.drop i) ∧ IBlk wr gF 3 S.f ∧ Hid (BInv a h S) ∧ Hid (bfsAll ds h a = bfs ds h (h - i) i S) ∧ Ext w wr)
  case atStart => exact ⟨0, bs0 h a, Nat.le_refl _, Nat.zero_le _, HQ.out, HI4.out, HBI.out, rfl, HE4.out⟩
  case round =>
    obtain ⟨i, S, hfu, hi, hq, hI, hbi, hz, hb'⟩ := hrel
    have hqh := hbi.out.qle
    have hSl : Hid (S.f.length = h) := hbi.out.lf
    by_cases hlt : i < S.q.length
    · obtain ⟨wo, rfl⟩ : ∃ wo : World, wo = wr := ⟨_, rfl⟩
      have hSi : S.q.getD i 0 = S.q[i] := by simp [hlt]
      obtain ⟨p, hp, hxp, hfp⟩ := hbi.out.qin (S.q.getD i 0) (by rw [hSi]; exact List.getElem_mem hlt)
      obtain ⟨L, hL⟩ : ∃ L, L = S.q.drop i := ⟨_, rfl⟩
      rw [← hL] at hq
      have hLl : 0 < L.length := by rw [hL, List.length_drop]; omega
      have hL0 : L.getD 0 0 = (p : Int) := by rw [← hxp, hL]; simp
      obtain ⟨g, off, cap, rfl, hbg, hng, hgl, hcell⟩ := hq.form
      have c0 := hcell 0 hLl
      rw [hL0, Nat.add_zero] at c0
      have hlk := impl_wayIn1 h A n c ds (p : Int) bh wo (HH.out.keep hb') h7 hn12
      rw [linksTo_nbr hs.out] at hlk
      obtain ⟨ns, hns⟩ : ∃ ns, ns = nbr ds h (p : Int) := ⟨_, rfl⟩
      rw [← hns] at hlk
      obtain ⟨LL, hLL⟩ : ∃ LL, LL = ns.map fun (k : Nat) => (k : Int) := ⟨_, rfl⟩
      rw [← hLL] at hlk
      have hLLn : LL.length = ns.length := by rw [hLL]; simp
      have hLLh : LL.length ≤ h := by rw [hLLn, hns]; exact nbr_len _ _ _
      have HLk := Lib.hid hlk
      have HLL := Lib.hid hLL
      have Hns := Lib.hid hns
      have HLLn := Lib.hid hLLn
      have HL := Lib.hid hL
      have HQo := Lib.hid hq
      have HIo := Lib.hid hI
      have HEo := Lib.hid hb'
      have Hxp := Lib.hid hxp
      have hwo := hb'.size
      have hgFo := hI.lt
      have hcap : L.length ≤ h := by rw [hL, List.length_drop]; omega
      clear hlk hLL hns hLLn hL hq hI hcell hb' hSi hxp
      go_wp2_with fail
      refine HLk.out.mono ?_
      clear HLk
      rintro e w5 ⟨vl, rfl, he5, ho5⟩
      obtain ⟨Al, cl, rfl, hncl⟩ := own_form ho5
      obtain ⟨gl, hgl1, hgl2, hglw⟩ : ∃ gl, Hid (0 < LL.length → Al = some ⟨gl, 0, none⟩ ∧ PBlk w5 gl 3 LL) ∧ (gl = gF ∨ wo.heap.size ≤ gl) ∧ Hid (0 < LL.length → wo.heap.size ≤ gl) := by
        by_cases h0 : 1 ≤ LL.length
        · obtain ⟨gl, h1, h2, h3⟩ := PBlk.of_own ho5 h0
          exact ⟨gl, fun _ => ⟨h1, h3⟩, .inr h2, fun _ => h2⟩
        · exact ⟨gF, fun h => by omega, .inl rfl, fun h => by omega⟩
      have hgl3 : gl < w5.heap.size ∨ LL.length = 0 := by
        by_cases h0 : 0 < LL.length
        · exact .inl (hgl1.out h0).2.lt
        · exact .inr (by omega)
      have HQ5 := Lib.hid ((HQo.out.other (av' := [gF, gl]) (by intro x hx; simp at hx; rcases hx with rfl | rfl; exact .inl (by simp); rcases hgl2 with h | h; exact .inl (by simp [h]); exact .inr h)).keep he5)
      have HI5 := Lib.hid (HIo.out.keep he5)
      have HE5 := Lib.hid (HEo.out.trans he5)
      have hs5 := he5.size
      have hgl4 : gl = gF ∨ w.heap.size ≤ gl := by omega
      clear ho5 he5 hgl hng c0
      go_wp2_with fail
      go_loopw [10, 34] (fun qv jv wi => ∃ (j : Nat) (S' : BS), j ≤ LL.length ∧ jv = .int .i64 j ∧ QRow wi w.heap.size [gF, gl] 3 qv (S'.q.drop i) ∧ IBlk wi gF 3 S'.f ∧ Hid (BInv a h S') ∧ Hid (S' = (ns.take j).foldl (vis (p : Int)) S) ∧ Hid (S'.q.getD i 0 = (p : Int)) ∧ i < S'.q.length ∧ Hid (0 ≤ S'.f.getD p 0) ∧ Hid (0 < LL.length → PBlk wi gl 3 LL) ∧ Ext w wi) (fun _ jv _ => LL.length - (intOf jv).toNat)
      case atStart => exact ⟨0, S, Nat.zero_le _, rfl, by rw [← HL.out]; exact HQ5.out, HI5.out, hbi.out, rfl, Hxp.out, hlt, hfp, fun h => (hgl1.out h).2, HE5.out⟩
      case round =>
        obtain ⟨j, S', hj, rfl, hq', hI', hbi', hS', hxp', hlt', hfp', hpl, hE'⟩ := hrel
        have hL2l : 0 < (S'.q.drop i).length := by rw [List.length_drop]; omega
        by_cases hjl : j < LL.length
        · have hk0 : j < ns.length := by rw [← HLLn.out]; exact hjl
          obtain ⟨k, hk⟩ : ∃ k, ns[j]? = some k := ⟨ns[j], List.getElem?_eq_getElem hk0⟩
          have hkh : k < h := by
            have := List.mem_of_getElem? hk
            rw [Hns.out] at this
            exact nbr_lt this
          obtain ⟨hAl, hpb⟩ : Al = some ⟨gl, 0, none⟩ ∧ PBlk wr gl 3 LL := ⟨(hgl1.out (by omega)).1, hpl.out (by omega)⟩
          have cL := hpb.cell hjl
          have hLLj : LL.getD j 0 = (k : Int) := by rw [HLL.out]; simp [hk]
          rw [hLLj] at cL
          obtain ⟨L', hL'⟩ : ∃ L', L' = S'.q.drop i := ⟨_, rfl⟩
          rw [← hL'] at hq' hL2l
          have hL'0 : L'.getD 0 0 = (p : Int) := by rw [← hxp'.out, hL']; simp
          obtain ⟨g', off', cap', rfl, hbg', hng', hgl', hcell'⟩ := hq'.form
          have c0 := hcell' 0 hL2l
          rw [hL'0, Nat.add_zero] at c0
          have hl' : S'.f.length = h := hbi'.out.lf
          have cF := hI'.cell (i := k) (by rw [hl']; exact hkh)
          have fF := hI'.free k
          obtain ⟨fv, hfv⟩ : ∃ fv, fv = S'.f.getD k 0 := ⟨_, rfl⟩
          rw [← hfv] at cF
          have hgFl := hI'.lt
          have hLc : L'.length ≤ 7 := by
            have := hbi'.out.qle
            rw [hL', List.length_drop]; omega
          have hsn : Hid ((ns.take (j + 1)).foldl (vis (p : Int)) S = vis (p : Int) S' k) := by
            unfold Hid; rw [take_snoc hk, List.foldl_append, ← hS'.out]; rfl
          have hbv := hbi'.out.vis hp hfp'.out hkh
          have HFV := Lib.hid hfv
          have HL' := Lib.hid hL'
          have HQ' := Lib.hid hq'
          have HI' := Lib.hid hI'
          have HE' := Lib.hid hE'
          have HBV := Lib.hid hbv
          have HKh := Lib.hid hl'
          have hwr := hE'.size
          have hng1 := Lib.hid hng'
          have hglr : gl < wr.heap.size := hpb.lt
          subst hAl
          clear hfv hL' hq' hI' hE' hbv hl' hk hLLj hL'0 hcell' hng' hpb
          by_cases hneg : fv < 0
          · have hvis : Hid (vis (p : Int) S' k = ⟨S'.q ++ [(k : Int)], S'.f.set k (p : Int), S'.d.set k (S'.d.getD p 0 + 1)⟩) := by
              unfold Hid vis; rw [← HFV.out, if_pos hneg, Int.toNat_natCast]
            go_wp2_with (at_builtin; refine (fun h : Hid _ => h.out) ?_)
            unfold Hid
            obtain ⟨wj, hwj⟩ : ∃ wj, wj = wr.setCell ⟨gF, k, none⟩ (.int .i64 (p : Int)) := ⟨_, rfl⟩
            rw [← hwj]
            have hglF : gl ≠ gF := by have := hglw.out (by omega); omega
            have hszj : wj.heap.size = wr.heap.size := by rw [hwj]; simp [World.setCell]
            have hqj : QRow wj w.heap.size [gF, gl] 3 (.slice (some ⟨g', off', none⟩) L'.length cap') L' := by rw [hwj]; exact HQ'.out.far (by simp) k _
            have hij : IBlk wj gF 3 (S'.f.set k (p : Int)) := by rw [hwj]; exact HI'.out.set k (p : Int)
            have hpj : PBlk wj gl 3 LL := by
              obtain ⟨cur, hb, r⟩ := hpl.out (by omega)
              rw [hwj]
              exact ⟨cur, hb.far (p := ⟨gF, k, none⟩) hglF _, r⟩
            have hEj : Ext w wj := by rw [hwj]; exact HE'.out.setCell (Nat.le_of_lt hgF0) _
            refine QRow.append ei_I rfl _ _ rfl w.heap.size [gF, gl] wj _ _ L' (by rfl) hqj (k : Int) (by rw [hszj]; rfl) (by omega) (by omega) (by intro x hx; simp at hx; omega) ?_
            intro v7 w7 hq7 he7 hb7
            have HE7 := Lib.hid (he7 w hEj (Nat.le_refl _))
            have hi7 : IBlk w7 gF 3 (S'.f.set k (p : Int)) := hb7 gF (by simp) _ _ hij
            have HI7 := Lib.hid hi7
            have HP7 : Hid (0 < LL.length → PBlk w7 gl 3 LL) := by
              unfold Hid
              intro _
              obtain ⟨cur, hb, r⟩ := hpj
              exact ⟨cur, hb7 gl (by simp) _ _ hb, r⟩
            have hdr : (S'.q ++ [(k : Int)]).drop i = L' ++ [(k : Int)] := by rw [List.drop_append_of_le_length (by omega), ← HL'.out]
            rw [← hdr] at hq7
            have HQ7 := Lib.hid hq7
            have hq0 : (S'.q ++ [(k : Int)]).getD i 0 = (p : Int) ∧ i < (S'.q ++ [(k : Int)]).length := by
              rw [← hxp'.out]
              refine ⟨by simp [List.getElem?_append_left hlt'], by simp; omega⟩
            have hfp7 := vis_mono (x := (p : Int)) (k := k) (by omega) hfp'.out
            have HFP7 := Lib.hid hfp7
            have HQ0 := Lib.hid hq0
            clear hwj hszj hqj hij hpj hEj hq7 he7 hb7 hi7 hdr hq0 hfp7
            go_wp2_with fail
            go_roundw
            case rel => exact ⟨j + 1, vis (p : Int) S' k, by omega, by go_num, by rw [hvis.out]; exact HQ7.out, by rw [hvis.out]; exact HI7.out, HBV.out, by unfold Hid; rw [hsn.out], by unfold Hid; rw [hvis.out]; exact HQ0.out.1, by rw [hvis.out]; exact HQ0.out.2, HFP7.out, HP7.out, HE7.out⟩
            case measure => simp [intOf]; omega
          · have hvis : Hid (vis (p : Int) S' k = S') := by unfold Hid vis; rw [← HFV.out, if_neg hneg]
            go_wp2_with fail
            go_roundw
            case rel => exact ⟨j + 1, S', by omega, by go_num, by rw [← HL'.out]; exact HQ'.out, HI'.out, hbi'.out, by unfold Hid; rw [hsn.out, hvis.out], hxp'.out, hlt', hfp'.out, hpl.out, HE'.out⟩
            case measure => simp [intOf]; omega
        · obtain rfl : j = LL.length := by omega
          obtain ⟨v', hrun, hq2⟩ := QRow.tail (P := Try.prog) (t' := 25) (x := (p : Int)) (L := S'.q.drop (i + 1)) Try.underlying25 sz_int (by
            have : S'.q.drop i = (p : Int) :: S'.q.drop (i + 1) := by
              rw [List.drop_eq_getElem_cons hlt', ← hxp'.out]; simp [hlt']
            rw [← this]; exact hq')
          have HQ2 := Lib.hid (hq2.other (av' := [gF]) (by intro x hx; simp at hx; subst hx; exact .inl (by simp)))
          have HE' := Lib.hid hE'
          have HI' := Lib.hid hI'
          have hrnd : Hid (bfs ds h (h - i) i S = bfs ds h (h - (i + 1)) (i + 1) S') := by
            unfold Hid
            have e : h - i = (h - (i + 1)) + 1 := by omega
            rw [e, bfs, if_pos hlt, rnd_nbr, Hxp.out, ← Hns.out, hS'.out, List.take_of_length_le (by rw [HLLn.out]; exact Nat.le_refl _)]
          clear hq' hq2 hE' hI'
          go_wp2_with fail
          go_roundg (h - (i + 1))
          case measure => omega
          case rel => exact ⟨i + 1, S', Nat.le_refl _, hlt', HQ2.out, HI'.out, hbi'.out, by unfold Hid; rw [hz.out, hrnd.out], HE'.out⟩
    · have hSe : bfsAll ds h a = S := by
        rw [hz.out]
        cases h - i with
        | zero => rfl
        | succ m => rw [bfs, if_neg hlt]
      have HSe := Lib.hid hSe
      have cB := hI.cell (i := b) (by rw [hSl.out]; exact hb)
      obtain ⟨fv, hfv⟩ : ∃ fv, fv = S.f.getD b 0 := ⟨_, rfl⟩
      rw [← hfv] at cB
      have hL0 : ¬ 0 < (S.q.drop i).length := by rw [List.length_drop]; omega
      obtain ⟨L, hL⟩ : ∃ L, L = S.q.drop i := ⟨_, rfl⟩
      rw [← hL] at hq hL0
      obtain ⟨g, off, cap, rfl, hbg, hng, hgl, hcell⟩ := hq.form
      have hLz : L.length = 0 := by omega
      rw [hLz]
      have HFV := Lib.hid hfv
      have HI := Lib.hid hI
      have HE := Lib.hid hb'
      have hgFw := hI.lt
      clear hSe hfv hL hq hI hb' hcell hng hLz hL0
      by_cases hneg : fv < 0
      · go_wp2_with fail
        go_ret
        exact .inl ⟨by rw [HSe.out, ← HFV.out]; exact hneg, rfl, HE.out⟩
      · have hI5 := HSe
        have hbS : BInv a h S := hbi.out
        have hfb : 0 ≤ S.f.getD b 0 := by rw [← HFV.out]; omega
        have hdb : 0 ≤ S.d.getD b 0 ∧ S.d.getD b 0 < 8 := by
          have h1 := (hbS.iff_ b hb)
          have h2 := hbS.dlt_ b hb hfb
          omega
        obtain ⟨db, hdbe⟩ : ∃ db, db = S.d.getD b 0 := ⟨_, rfl⟩
        rw [← hdbe] at hdb
        have HDB := Lib.hid hdbe
        have HFB := Lib.hid hfb
        have HO0 := Lib.hid (own_one wr wr.heap.size 3 (b : Int) (Nat.le_refl _))
        have HE0 := Lib.hid ((Ext.refl wr).alloc (.cells #[.int .i64 (b : Int)] 3))
        clear hbS hfb hdbe hI5
        obtain ⟨hdb0, hdb8⟩ := hdb
        go_wp2_with fail
        obtain ⟨wq, rfl⟩ : ∃ wq : World, wq = wr := ⟨_, rfl⟩
        go_loopw [2, 13] (fun bv v wi => ∃ (q : Nat) (L : List Int), q < h ∧ bv = .int .i64 q ∧ Hid (0 ≤ S.f.getD q 0) ∧ wi.ownsRow wq.heap.size 3 1 v L.length (L.flatMap ienc) ∧ Hid ((L.length : Int) + S.d.getD q 0 = db + 1) ∧ Ext wq wi) (fun bv _ _ => (S.d.getD (intOf bv).toNat 0).toNat)
        case atStart => exact ⟨b, [(b : Int)], hb, rfl, HFB.out, HO0.out, by unfold Hid; rw [← HDB.out]; simp; omega, HE0.out⟩
        case round =>
          obtain ⟨q, L, hq, rfl, hfq, hown, hlen, hbw⟩ := hrel
          have hdq : 0 ≤ S.d.getD q 0 := by have := hbi.out.iff_ q hq; have := hfq.out; omega
          have hLb : L.length ≤ 9 := by have := hlen.out; omega
          by_cases hqa : q = a
          · have hbf : ((q : Int) != (a : Int)) = false := by rw [hqa]; simp
            have hL1 : L.length = db.toNat + 1 := by
              have h1 := hlen.out
              rw [hqa, hbi.out.root.2] at h1
              omega
            obtain ⟨Aw, cw, rfl, hncw⟩ := own_form hown
            obtain ⟨gw, rfl, hgw, hpw⟩ := PBlk.of_own hown (by omega)
            have HRev := Lib.hid (slices_Reverse gw L.length cw L wr hpw rfl (by omega))
            have HBw := Lib.hid hbw
            have HL1 := Lib.hid hL1
            clear hown hpw hbw hL1 hqa
            go_wp2_with fail
            refine HRev.out.mono ?_
            rintro e w9 ⟨rfl, hg9⟩
            have HE9 : Hid (Ext wq w9) := HBw.out.grown hg9 (fun k hk => by injection hk with hk; omega)
            clear hg9 HRev
            go_wp2_with fail
            go_ret
            exact .inr ⟨by rw [HSe.out]; exact HFB.out, gw, cw, by rw [HSe.out, ← HDB.out, ← HL1.out]; rfl, HE.out.trans HE9.out⟩
          · have hbt : ((q : Int) != (a : Int)) = true := by rw [bne_iff_ne]; omega
            obtain ⟨p, hp, hfp, hfp0, hdp⟩ := hbi.out.par q hq hfq.out hqa
            have cQ := (HI.out.keep hbw).cell (i := q) (by rw [hSl.out]; exact hq)
            rw [hfp] at cQ
            have HO := Lib.hid hown
            have HBw := Lib.hid hbw
            have hsw := hbw.size
            have HFP0 := Lib.hid hfp0
            have HDP := Lib.hid hdp
            clear hown hbw hfp hfp0 hdp hqa
            go_wp2_with (at_builtin; refine append1 ei_I rfl _ _ rfl wq.heap.size wr _ u13 L.length _ (by rfl) HO.out [.int .i64 p] (by rfl) rfl (by intro u hu; simp at hu; subst hu; rfl) (by omega) hsw ?_; intro v' w2' ho2 he2; have HO2 := Lib.hid ho2; have HE2 := Lib.hid (he2 wq HBw.out (Nat.le_refl _)); clear ho2 he2)
            go_roundw
            case rel =>
              refine ⟨p, L ++ [(p : Int)], hp, rfl, HFP0.out, ?_, by unfold Hid; have h1 := hlen.out; have h2 := HDP.out; rw [List.length_append]; simp only [List.length_cons, List.length_nil]; push_cast; omega, HE2.out⟩
              have := HO2.out
              simpa [ienc] using this
            case measure =>
              have h2 := HDP.out
              have h3 : 0 ≤ S.d.getD p 0 := by have h5 := hbi.out.iff_ p hp; have h6 := HFP0.out; omega
              simp only [intOf, Int.toNat_natCast, List.getD_eq_getElem?_getD] at h2 h3 ⊢
              generalize S.d[q]?.getD 0 = x1 at h2 ⊢
              generalize S.d[p]?.getD 0 = x2 at h2 h3 ⊢
              clear hdq
              omega
end Go.Proofs.Ytkelmeemblmggaa
