/- Texts of one proof, laid one behind the other (SDk, QO); no condition but what stands at each theorem. -/
import Derived.Deep.RegionHeld3
import Derived.Test.YtfhibjehnoibeaaDoorZD
import Derived.Test.YtfhibjehnoibeaaDoorZF
import Derived.Test.YtfhibjehnoibeaaDoorZG
import Derived.Test.YtfhibjehnoibeaaDoorZH
import Derived.Test.YtfhibjehnoibeaaDoorZI
import Derived.Test.YtfhibjehnoibeaaDoorZP
/- The drawing of a night: a house, places, guards and a move; no condition but what stands at each theorem. -/
namespace Go.Proofs.YtfhibjehnoibeaaDoor
set_option linter.unusedSimpArgs false
set_option linter.unusedVariables false
open Go.RowKit Go.Sort
/-- A house, places, guards and a move have been drawn. -/
def DrewMoves (w : World) (e : Ending) (w' : World) : Prop := ∃ (H : Nat) (Ad : Option Addr) (nd cd : Nat) (ds : List GDoor) (Ap : Option Addr) (cp : Nat) (ps : List Int) (Ag : Option Addr) (cg : Nat) (gs : List Int) (x : GMove),
  e = .returned (.tuple #[.agg #[.int .i64 (H : Int), .slice Ad nd cd], .slice Ap ps.length cp, .slice Ag gs.length cg, .agg #[.int .i64 x.o, .int .i64 x.t, .int .i64 x.f, .int .i64 x.s]]) ∧ houseB (H : Int) ds = true ∧ (1 ≤ H ∧ H ≤ 7) ∧ Rd w' 2 Ad nd (ds.flatMap GDoor.enc) ∧ Rd w' 1 Ap ps.length (ps.flatMap ienc) ∧ Rd w' 1 Ag gs.length (gs.flatMap ienc) ∧ (Ap = none → cp = 0) ∧
  (1 ≤ ps.length ∧ ps.length ≤ 6) ∧ (2 ≤ gs.length ∧ gs.length ≤ 6) ∧ (∀ q ∈ ps, 0 ≤ q ∧ q < H) ∧ (∀ q ∈ gs, 0 ≤ q ∧ q < H) ∧ MvIn H ps.length gs.length x ∧ Ext w w'
theorem one_ints2 (x y : Int) : ∀ u ∈ [Value.int .i64 x, Value.int .i64 y], u.oneCell' = true := by
  intro u hu
  simp at hu
  rcases hu with rfl | rfl <;> rfl
theorem rd_blkM {w : World} {g : Nat} {t : TypeId} {m n : Nat} {cur : Array Value} {L : List Value} (h : Blk w g t cur) (hs : cur.size = n * m) (hn : n ≤ maxLen) (hL : cur.toList.take (n * m) = L) : Rd w m (some ⟨g, 0, none⟩) n L :=
  Rd.of_own (own_of_blk (Nat.zero_le _) h hs hn hL)
set_option maxRecDepth 100000 in
set_option maxHeartbeats 4000000 in
theorem spec_DrawMoves (A : Option Addr) (n c : Nat) (xs : List Int) (w : World) (hx : Rd w 1 A n (xs.flatMap benc)) (hxs : ∀ x ∈ xs, 0 ≤ x ∧ x ≤ 255) (hn1 : n ≤ 1048576) : Calls Tryd.prog 10 #[.slice A n c] w (DrewMoves w) := by
  obtain ⟨wa, hwa⟩ : ∃ wa, wa = (w.alloc (.cells #[.int .i64 0, .slice none 0 0] 26)).alloc (.cells #[.int .i64 0, .int .i64 0, .int .i64 0, .int .i64 0] 41) := ⟨_, rfl⟩
  have hs1 : (w.alloc (.cells #[.int .i64 0, .slice none 0 0] 26)).heap.size = w.heap.size + 1 := by simp
  have hB2 : Blk wa w.heap.size 26 #[.int .i64 0, .slice none 0 0] := by rw [hwa]; exact (Blk.new _ _ _).keep ((Ext.refl _).alloc _)
  have hB5 : Blk wa (w.heap.size + 1) 41 #[.int .i64 0, .int .i64 0, .int .i64 0, .int .i64 0] := by rw [← hs1, hwa]; exact Blk.new _ _ _
  have hEa : Ext w wa := by rw [hwa]; exact ((Ext.refl _).alloc _).alloc _
  have hsa : wa.heap.size = w.heap.size + 2 := by rw [hwa]; simp
  have Hwa := Lib.hid hwa
  have HB2 := Lib.hid hB2
  have HB5 := Lib.hid hB5
  have HEa := Lib.hid hEa
  have cN := Lib.hid (spec_l01New A n c xs wa (hx.keep hEa) hxs hn1)
  clear hwa hB2 hB5 hEa hx hxs hs1
  go_enter Tryd.func10, Tryd.ntmps10
  go_wp2_with (go_at_call 20; refine (fun h : Hid _ => h.out) ?_)
  unfold Hid
  rw [← Hwa.out]
  refine cN.out.mono ?_
  rintro e w1 ⟨p, rfl, hp, hc1, he1⟩
  have hz1 := he1.size
  have hpw : w.heap.size + 2 ≤ p := by omega
  have hp1 := hc1.lt
  have K2 := Lib.hid (HB2.out.keep he1)
  have K5 := Lib.hid (HB5.out.keep he1)
  have HE1 := Lib.hid (HEa.out.trans he1)
  have HC1 := Lib.hid hc1
  clear hc1 he1 HB2 HB5 HEa cN
  go_wp2_with (go_at_call 28; refine (fun h : Hid _ => h.out) ?_)
  unfold Hid
  refine (spec_l23House p _ HC1.out).mono ?_
  rintro e w2 ⟨H, hv, ds, rfl, hH1, hH7, hB, hoD, hc2, hg2⟩
  obtain ⟨Ad, cd, rfl, -⟩ := own_form hoD
  obtain ⟨nd, hnd⟩ : ∃ nd, nd = ds.length := ⟨_, rfl⟩
  rw [← hnd] at hoD ⊢
  have hz2 := hg2.size
  obtain ⟨w3, hw3⟩ : ∃ w3, w3 = w2.alloc (.cells #[.int .i64 (H : Int), .slice Ad nd cd] 26) := ⟨_, rfl⟩
  have hE3 : Ext w2 w3 := by rw [hw3]; exact (Ext.refl _).alloc _
  obtain ⟨gh, hgh⟩ : ∃ gh, gh = w2.heap.size := ⟨_, rfl⟩
  have HBh : Hid (Blk w3 gh 26 #[.int .i64 (H : Int), .slice Ad nd cd]) := Lib.hid (by rw [hgh, hw3]; exact Blk.new _ _ _)
  have HD3 := Lib.hid (own_keep hoD hE3)
  have HC3 := Lib.hid (cur_ext hc2 hE3)
  have K2 := Lib.hid ((blk_grown K2.out (by omega) hg2).keep hE3)
  have K5 := Lib.hid ((blk_grown K5.out (by omega) hg2).keep hE3)
  have HE3 := Lib.hid ((HE1.out.grown hg2 (fun q hq => by injection hq with hq; omega)).trans hE3)
  have hz3 : w3.heap.size = gh + 1 := by rw [hw3, hgh]; simp
  have HW3 := Lib.hid hw3
  have HGH := Lib.hid hgh
  have HHB := Lib.hid hB
  have hghp : gh ≠ p := by omega
  have hpgh : p < gh := by omega
  have hpd : p < w1.heap.size := hp1
  clear hoD hE3 hc2 hg2 hw3 hB hnd hgh HC1 HE1 hz2 hp1
  have y0 := HBh.out.cellAt (i := 0) (by simp)
  have y1 := HBh.out.cellAt (i := 1) (by simp)
  simp at y0 y1
  go_upto_region 3 with fail
  rw [← HW3.out, ← HGH.out]
  go_wp2_with (go_at_call 29; refine (fun h : Hid _ => h.out) ?_)
  unfold Hid
  refine (spec_l31Places p H _ 5 w3 HC3.out hH1 (by omega) (by omega)).mono ?_
  rintro e w4 ⟨vp, L1, rfl, ho4, hl4, hm4, hc4, hg4⟩
  have hz4 := hg4.size
  have HO4 := Lib.hid ho4
  have HM4 := Lib.hid hm4
  have HG4 := Lib.hid hg4
  have HC4 := Lib.hid hc4
  clear ho4 hm4 hc4 hg4 y0 y1
  go_wp2_with (at_builtin; refine (fun h : Hid _ => h.out) ?_)
  unfold Hid
  refine append1g ei_IntD rfl _ _ rfl w3.heap.size w4 _ _ L1.length _ (by rfl) HO4.out (ienc 0) (by rfl) rfl (by intro u hu; simp [ienc] at hu; subst hu; rfl) (by omega) hz4 ?_
  intro vP w5 row5 ho5 hg5 hr5
  obtain ⟨Ap, cp, rfl, -⟩ := own_form ho5
  have hcp := own_nilM ho5
  obtain ⟨ps, hps⟩ : ∃ ps, ps = L1 ++ [0] := ⟨_, rfl⟩
  have hpl : ps.length = L1.length + 1 := by rw [hps]; simp
  have hpe : L1.flatMap ienc ++ ienc 0 = ps.flatMap ienc := by rw [hps, List.flatMap_append]; rfl
  rw [hpe] at ho5
  rw [← hpl] at ho5 ⊢
  have HPM : Hid (∀ q ∈ ps, 0 ≤ q ∧ q < H) := Lib.hid (by
    intro q hq
    rw [hps] at hq
    rcases List.mem_append.1 hq with hq | hq
    · exact HM4.out q hq
    · rw [List.mem_singleton] at hq; omega)
  have hp6 : 1 ≤ ps.length ∧ ps.length ≤ 6 := by omega
  have hz5 : w3.heap.size ≤ w5.heap.size := Nat.le_trans hz4 (World.grownBy.size hg5)
  have HG5 : Hid (w3.grownBy w5 (some p)) := Lib.hid (grown_over HG4.out hg5 hr5)
  have HC5 := Lib.hid (cur_grown HC4.out hg5 (fun q hq => by have := hr5 q hq; omega))
  have HO5 := Lib.hid ho5
  have HB5 := Lib.hid (blk_grown HBh.out hghp HG5.out)
  have HCP := Lib.hid hcp
  clear ho5 hg5 hr5 hps hpl hpe hl4 HO4 HM4 HG4 HC4 hcp
  have y0 := HB5.out.cellAt (i := 0) (by simp)
  have y1 := HB5.out.cellAt (i := 1) (by simp)
  simp at y0 y1
  go_upto_region 4 with fail
  go_region_held3 (fun w' => w'.cell? ⟨gh, 0, none⟩ = some (.int .i64 (H : Int)) ∧ w'.cell? ⟨gh, 1, none⟩ = some (.slice Ad nd cd)) (go_keep) (first
    | (go_at_call 29; refine (spec_l31Places p H _ 4 w5.drew (cur_drew HC5.out) hH1 (by omega) (by omega)).mono ?_; rintro e w6 ⟨vg, L2, rfl, ho6, hl6, hm6, hc6, hg6⟩; have k6 := blk_grown HB5.out.drew hghp hg6; have y0 := k6.cellAt (i := 0) (by simp); have y1 := k6.cellAt (i := 1) (by simp); simp at y0 y1)
    | (go_at_call 30; refine (spec_l01Below p _ w6 hc6).mono ?_; rintro e w7 ⟨q, rfl, q0, q1, hc7, hg7⟩; have k7 := blk_grown k6 hghp hg7; have y0 := k7.cellAt (i := 0) (by simp); have y1 := k7.cellAt (i := 1) (by simp); simp at y0 y1; have o7 := own_grown ho6 (show p < w5.drew.heap.size by show p < w5.heap.size; omega) hg7)
    | (refine step_appAt ei_IntD (by rfl) _ _ (by rfl) w5.heap.size (w7.alloc (.cells #[.int .i64 0, .int .i64 q] 3)) vg L2.length _ (by rfl) (own_keep o7 ((Ext.refl _).alloc _)) (some ⟨w7.heap.size, 0, none⟩) 2 2 [.int .i64 0, .int .i64 q] (by rfl) (rd_blkM (Blk.new _ _ _) (by rfl) (by unfold maxLen; omega) (by rfl)) (fun h => by cases h) (one_ints2 _ _) (by omega) (by have a1 := hg6.size; have a2 := hg7.size; have a3 : w5.drew.heap.size = w5.heap.size := rfl; rw [heap_size_alloc]; omega) ?_; intro v8 w8 ho8 hg8 hv8; have k8 := blk_overP (k7.keep ((Ext.refl _).alloc _)) hg8 (fun k hk => (o7.lt k hk).1) (show gh < w5.drew.heap.size by show gh < w5.heap.size; omega); have y0 := k8.cellAt (i := 0) (by simp); have y1 := k8.cellAt (i := 1) (by simp); simp at y0 y1))
  obtain ⟨Ag, cg, rfl, -⟩ := own_form ho8
  obtain ⟨gs, hgs⟩ : ∃ gs, gs = L2 ++ [0, q] := ⟨_, rfl⟩
  have hgl : gs.length = L2.length + 2 := by rw [hgs]; simp
  have hge : L2.flatMap ienc ++ [.int .i64 0, .int .i64 q] = gs.flatMap ienc := by rw [hgs, List.flatMap_append]; rfl
  rw [hge] at ho8
  rw [← hgl] at ho8 ⊢
  have HGM : Hid (∀ z ∈ gs, 0 ≤ z ∧ z < H) := Lib.hid (by
    intro z hz
    rw [hgs] at hz
    rcases List.mem_append.1 hz with hz | hz
    · exact hm6 z hz
    · simp at hz
      rcases hz with hz | hz <;> omega)
  have hg26 : 2 ≤ gs.length ∧ gs.length ≤ 6 := by omega
  have HG8 : Hid (w5.grownBy w8 (some p)) := Lib.hid (grown_over (grown_extD (grown_trans (grown_trans (grown_drew1 (grown_refl _ _)) hg6) hg7) ((Ext.refl _).alloc _)) hg8 (fun k hk => (o7.lt k hk).1))
  have HC8 := Lib.hid (cur_grown (cur_alloc hc7 _) hg8 (fun k hk => by have := (o7.lt k hk).1; have a3 : w5.drew.heap.size = w5.heap.size := rfl; omega))
  have HB8 := Lib.hid k8
  have HO8 := Lib.hid ho8
  have hz8 := HG8.out.size
  clear ho6 hl6 hm6 hc6 hg6 k6 q0 q1 hc7 hg7 k7 o7 ho8 hg8 hv8 k8 y0 y1 hgs hgl hge HB5 HC5
  have HG38 := Lib.hid (grown_trans HG5.out HG8.out)
  have HD8 := Lib.hid (own_grown HD3.out hpd HG38.out)
  have HP8 := Lib.hid (own_grown HO5.out (by omega) HG8.out)
  have HK2 := Lib.hid (blk_grown K2.out (by omega) HG38.out)
  have HK5 := Lib.hid (blk_grown K5.out (by omega) HG38.out)
  have cM := Lib.hid (spec_l35Move p H Ad nd cd ds Ap ps.length cp ps Ag gs.length cg gs w8.drew (cur_drew HC8.out) (Rd.of_own HD8.out).drew (Rd.of_own HP8.out).drew (Rd.of_own HO8.out).drew
    (fun _ b off e => by have := (HD8.out.lt b (by rw [e]; rfl)).1; omega) (fun _ b off e => by have := (HP8.out.lt b (by rw [e]; rfl)).1; omega) (fun _ b off e => by have := (HO8.out.lt b (by rw [e]; rfl)).1; omega) HHB.out HPM.out (by omega) (by omega) (by omega) (by omega))
  have y0 := HB8.out.cellAt (i := 0) (by simp)
  have y1 := HB8.out.cellAt (i := 1) (by simp)
  simp at y0 y1
  have q2 : w.heap.size ≠ gh := by omega
  have q5 : w.heap.size + 1 ≠ gh := by omega
  have q2' := q2.symm
  have q5' := q5.symm
  have hp2 : w.heap.size ≠ p := by omega
  have hp5 : w.heap.size + 1 ≠ p := by omega
  go_upto_region 5 with fail
  go_region_held3 (fun w' => w'.cell? ⟨gh, 0, none⟩ = some (.int .i64 (H : Int)) ∧ w'.cell? ⟨gh, 1, none⟩ = some (.slice Ad nd cd)) (first | (refine ⟨?_, ?_⟩ <;> simp only [cell_set_far, q2, q5, q2', q5', ne_eq, not_false_eq_true] <;> assumption) | go_keep) (first
    | (go_at_call 31; refine cM.out.mono ?_; rintro e w9 ⟨x, rfl, hmv, hc9, hg9⟩; have C2 := blk_grown HK2.out.drew hp2 hg9; have C5 := blk_grown HK5.out.drew hp5 hg9; have Ch := blk_grown HB8.out.drew hghp hg9; have y0 := Ch.cellAt (i := 0) (by simp); have y1 := Ch.cellAt (i := 1) (by simp); have x20 := C2.cellAt (i := 0) (by simp); have x21 := C2.cellAt (i := 1) (by simp); have x50 := C5.cellAt (i := 0) (by simp); have x51 := C5.cellAt (i := 1) (by simp); have x52 := C5.cellAt (i := 2) (by simp); have x53 := C5.cellAt (i := 3) (by simp); have f2 := C2.free; have f5 := C5.free; simp at y0 y1 x20 x21 x50 x51 x52 x53))
  have HE9 := (HE3.out.grown (grown_trans HG38.out (grown_trans (grown_drew1 (grown_refl _ _)) hg9)) (fun q hq => by injection hq with hq; omega))
  have D9 := own_grown HD8.out hpd (grown_trans (grown_drew1 (grown_refl _ _)) hg9)
  have P9 := own_grown HP8.out (by omega) (grown_trans (grown_drew1 (grown_refl _ _)) hg9)
  have G9 := own_grown HO8.out (by omega) (grown_trans (grown_drew1 (grown_refl _ _)) hg9)
  have g1 := grown_set (grown_set (grown_refl w9 (some w.heap.size)) 0 (.int .i64 (H : Int))) 1 (.slice Ad nd cd)
  have D10 := own_grown D9 (by omega) g1
  have P10 := own_grown P9 (by omega) g1
  have G10 := own_grown G9 (by omega) g1
  have b1 := (C2.set 0 (.int .i64 (H : Int))).set 1 (.slice Ad nd cd)
  have c1 := (C5.far (p := ⟨w.heap.size, 0, none⟩) (by show w.heap.size + 1 ≠ w.heap.size; omega) (.int .i64 (H : Int))).far (p := ⟨w.heap.size, 1, none⟩) (by show w.heap.size + 1 ≠ w.heap.size; omega) (.slice Ad nd cd)
  have e1 : Ext w ((w9.setCell ⟨w.heap.size, 0, none⟩ (.int .i64 (H : Int))).setCell ⟨w.heap.size, 1, none⟩ (.slice Ad nd cd)) := (HE9.setCell (Nat.le_refl _) _).setCell (Nat.le_refl _) _
  generalize (w9.setCell ⟨w.heap.size, 0, none⟩ (.int .i64 (H : Int))).setCell ⟨w.heap.size, 1, none⟩ (.slice Ad nd cd) = w10 at g1 D10 P10 G10 b1 c1 e1 ⊢
  have g2 := grown_set (grown_set (grown_set (grown_set (grown_refl w10 (some (w.heap.size + 1))) 0 (.int .i64 x.o)) 1 (.int .i64 x.t)) 2 (.int .i64 x.f)) 3 (.int .i64 x.s)
  have D11 := own_grown D10 (by omega) g2
  have P11 := own_grown P10 (by omega) g2
  have G11 := own_grown G10 (by omega) g2
  have b2 := (((b1.far (p := ⟨w.heap.size + 1, 0, none⟩) (by show w.heap.size ≠ w.heap.size + 1; omega) (.int .i64 x.o)).far (p := ⟨w.heap.size + 1, 1, none⟩) (by show w.heap.size ≠ w.heap.size + 1; omega) (.int .i64 x.t)).far (p := ⟨w.heap.size + 1, 2, none⟩) (by show w.heap.size ≠ w.heap.size + 1; omega) (.int .i64 x.f)).far (p := ⟨w.heap.size + 1, 3, none⟩) (by show w.heap.size ≠ w.heap.size + 1; omega) (.int .i64 x.s)
  have c2 := (((c1.set 0 (.int .i64 x.o)).set 1 (.int .i64 x.t)).set 2 (.int .i64 x.f)).set 3 (.int .i64 x.s)
  have e2 : Ext w ((((w10.setCell ⟨w.heap.size + 1, 0, none⟩ (.int .i64 x.o)).setCell ⟨w.heap.size + 1, 1, none⟩ (.int .i64 x.t)).setCell ⟨w.heap.size + 1, 2, none⟩ (.int .i64 x.f)).setCell ⟨w.heap.size + 1, 3, none⟩ (.int .i64 x.s)) :=
    (((e1.setCell (Nat.le_succ _) _).setCell (Nat.le_succ _) _).setCell (Nat.le_succ _) _).setCell (Nat.le_succ _) _
  generalize (((w10.setCell ⟨w.heap.size + 1, 0, none⟩ (.int .i64 x.o)).setCell ⟨w.heap.size + 1, 1, none⟩ (.int .i64 x.t)).setCell ⟨w.heap.size + 1, 2, none⟩ (.int .i64 x.f)).setCell ⟨w.heap.size + 1, 3, none⟩ (.int .i64 x.s) = w11 at g2 D11 P11 G11 b2 c2 e2 ⊢
  simp only [List.setIfInBounds_toArray, List.set_cons_succ, List.set_cons_zero] at b2 c2
  have z20 := b2.cellAt (i := 0) (by simp)
  have z21 := b2.cellAt (i := 1) (by simp)
  have z50 := c2.cellAt (i := 0) (by simp)
  have z51 := c2.cellAt (i := 1) (by simp)
  have z52 := c2.cellAt (i := 2) (by simp)
  have z53 := c2.cellAt (i := 3) (by simp)
  simp at z20 z21 z50 z51 z52 z53
  have HMV := Lib.hid hmv
  have HF := Lib.hid (And.intro D11 (And.intro P11 (And.intro G11 e2)))
  clear g1 g2 D9 P9 G9 D10 P10 G10 D11 P11 G11 b1 b2 c1 c2 e1 e2 C2 C5 Ch hc9 hg9 hmv HE9 x20 x21 x50 x51 x52 x53 f2 f5 y0 y1
  go_wp2_with fail
  refine bodyPost_ret (v := .tuple #[.agg #[.int .i64 (H : Int), .slice Ad nd cd], .slice Ap ps.length cp, .slice Ag gs.length cg, .agg #[.int .i64 x.o, .int .i64 x.t, .int .i64 x.f, .int .i64 x.s]]) (by simp [results, Tryd.results10, go_sem, z20, z21, z50, z51, z52, z53]) rfl ?_
  exact ⟨H, Ad, nd, cd, ds, Ap, cp, ps, Ag, cg, gs, x, rfl, HHB.out, ⟨hH1, hH7⟩, Rd.of_own HF.out.1, Rd.of_own HF.out.2.1, Rd.of_own HF.out.2.2.1, HCP.out, hp6, hg26, HPM.out, HGM.out, HMV.out, HF.out.2.2.2⟩
end Go.Proofs.YtfhibjehnoibeaaDoor
/- The law FnNights, walked; no condition but what stands at each theorem. -/
namespace Go.Proofs.YtfhibjehnoibeaaDoor
set_option linter.unusedSimpArgs false
set_option linter.unusedVariables false
open Go.RowKit Go.Sort
theorem nf_near {x y z : Int} (h : x = y ∨ x = z) : (x == z) = true ∨ ((x == z) = false ∧ (x == y) = true) := by
  by_cases k : x = z
  · exact .inl (beq_iff_eq.2 k)
  · exact .inr ⟨beq_false_of_ne k, beq_iff_eq.2 (h.resolve_right k)⟩
theorem max_extN {w w' : World} {g : Nat} (h : ∃ m, w.cell? ⟨g, 0, none⟩ = some (.int .i64 m)) (e : Ext w w') : ∃ m, w'.cell? ⟨g, 0, none⟩ = some (.int .i64 m) := by
  obtain ⟨m, h⟩ := h
  exact ⟨m, (e.cellAt _ (World.block_lt_of_cell? w _ h) 0).trans h⟩
set_option maxRecDepth 100000 in
set_option maxHeartbeats 1000000 in
theorem laws_sameIntsN (A : Option Addr) (n c : Nat) (A' : Option Addr) (n' c' : Nat) (xs : List Int) (w : World) (hx : Rd w 1 A n (xs.flatMap ienc)) (hy : Rd w 1 A' n' (xs.flatMap ienc)) :
    Calls Tryd.prog 15 #[.slice A n c, .slice A' n' c'] w fun e w' => e = .returned (.bool true) ∧ Ext w w' := by
  have hn := hx.2.1
  obtain rfl : n = n' := by rw [← hx.len ienc_len (by omega), ← hy.len ienc_len (by omega)]
  have HX := Lib.hid hx
  have HY := Lib.hid hy
  clear hx hy
  go_enter Tryd.func15, Tryd.ntmps15
  go_wp2_with fail
  go_loopw [5] (fun i wr => ∃ (k : Nat), k ≤ n ∧ i = .int .i64 k ∧ Ext w wr) (fun i _ => n - (intOf i).toNat)
  case atStart => exact ⟨0, Nat.zero_le _, rfl, Ext.refl _⟩
  case round =>
    obtain ⟨k, hk, rfl, hb⟩ := hrel
    by_cases hlt : k < n
    · obtain ⟨b, off, y, rfl, hbs, hyk, h0⟩ := ienc_at (HX.out.keep hb) hlt
      obtain ⟨b', off', y', rfl, hbs', hyk', h0'⟩ := ienc_at (HY.out.keep hb) hlt
      rw [hyk] at hyk'
      injection hyk' with hyk'
      subst hyk'
      have HB := Lib.hid hb
      have k0 : (0 : Int) ≤ (k : Int) := by omega
      have k1 : (k : Int) < (n : Int) := by omega
      have z1 := cell_regrown h0
      have z2 := cell_regrown h0'
      clear hyk hb
      go_wp2_with fail
      (refine wp_region_ext (by kernel_rfl) (by kernel_rfl) ?_; (repeat (go_big_quiet_step (first | fail))); refine wpQuiet_nil ?_)
      intro w3 he3
      have HE3 := Lib.hid (HB.out.trans he3)
      clear he3 z1 z2 h0 h0'
      go_wp2_with fail
      go_roundw
      case rel => exact ⟨k + 1, by omega, by go_num, HE3.out⟩
      case measure => simp [intOf]; omega
    · go_wp2_with fail
      go_ret
      exact ⟨rfl, hb⟩
set_option maxRecDepth 100000 in
set_option maxHeartbeats 8000000 in
theorem law_FnNights (A : Option Addr) (n c : Nat) (bs : List UInt8) (w : World) (hx : Rd w 1 A n (bs.flatMap bencU)) (hM : Hid (∃ k, w.cell? ⟨0, 0, none⟩ = some (.int .i64 k))) :
    Calls Tryd.prog 4 #[.slice A n c] w fun e w' => e = .returned (.bool true) ∧ Ext w w' := by
  by_cases hbig : 1048576 < n
  case pos =>
    go_enter Tryd.func4, Tryd.ntmps4
    go_wp2_with (refine (laws_big A n c _).mono ?_; rintro e w1 ⟨he, rfl⟩; rw [decide_eq_true hbig] at he; subst he)
    go_ret
    exact ⟨rfl, Ext.refl _⟩
  case neg =>
  have hxb := rd_bytes hx
  have hbd := bytes_bd bs
  obtain ⟨xs, hxs⟩ : ∃ xs, xs = bs.map fun b => (b.toNat : Int) := ⟨_, rfl⟩
  rw [← hxs] at hxb hbd
  clear hxs hx
  have cD := Lib.hid (spec_DrawMoves A n c xs w hxb hbd (by omega))
  have HXB := Lib.hid hxb
  have HBD := Lib.hid hbd
  have hn20 : n ≤ 1048576 := by omega
  clear hxb hbd
  go_enter Tryd.func4, Tryd.ntmps4
  go_wp2_with (go_at_call 6; refine (fun h : Hid _ => h.out) ?_)
  unfold Hid
  refine (laws_big A n c _).mono ?_
  rintro e w0 ⟨he, rfl⟩
  rw [decide_eq_false hbig] at he
  subst he
  go_wp2_with (go_at_call 10; refine (fun h : Hid _ => h.out) ?_)
  unfold Hid
  refine (cD.out).mono ?_
  rintro e w1 ⟨H, Ad, nd, cd, ds, Ap, cp, ps, Ag, cg, gs, x, rfl, hB, hH, hd, hp, hg, hcp, hp6, hg6, hpm, hgm, hmv, he1⟩
  obtain ⟨zo, zt, zf, zs⟩ := x
  have hmb := mvIn_mv hmv hH.2 (by omega) (by omega)
  obtain ⟨⟨o0, o1⟩, ⟨t0, t1⟩, ⟨f0, f1⟩, s0, s1⟩ := hmv
  simp only at o0 o1 t0 t1 f0 f1 s0 s1
  obtain ⟨o, rfl⟩ := Int.eq_ofNat_of_zero_le o0
  obtain ⟨t, rfl⟩ := Int.eq_ofNat_of_zero_le t0
  obtain ⟨f, rfl⟩ := Int.eq_ofNat_of_zero_le f0
  obtain ⟨s, rfl⟩ := Int.eq_ofNat_of_zero_le s0
  obtain ⟨np, hnp⟩ : ∃ np, np = ps.length := ⟨_, rfl⟩
  obtain ⟨ng, hng⟩ : ∃ ng, ng = gs.length := ⟨_, rfl⟩
  rw [← hnp] at hp hp6 o1 ⊢
  rw [← hng] at hg hg6 f1 s1 ⊢
  have ho : o < np := by omega
  have hf : f < ng := by omega
  have hs : s < ng := by omega
  obtain ⟨w2, hw2⟩ : ∃ w2, w2 = (w1.alloc (.cells #[.int .i64 (H : Int), .slice Ad nd cd] 26)).alloc (.cells #[.int .i64 (o : Int), .int .i64 (t : Int), .int .i64 (f : Int), .int .i64 (s : Int)] 41) := ⟨_, rfl⟩
  have hE2 : Ext w1 w2 := by rw [hw2]; exact ((Ext.refl _).alloc _).alloc _
  have hsh : (w1.alloc (.cells #[.int .i64 (H : Int), .slice Ad nd cd] 26)).heap.size = w1.heap.size + 1 := by simp
  have HBh : Hid (Blk w2 w1.heap.size 26 #[.int .i64 (H : Int), .slice Ad nd cd]) := Lib.hid (by rw [hw2]; exact (Blk.new _ _ _).keep ((Ext.refl _).alloc _))
  have HBm : Hid (Blk w2 (w1.heap.size + 1) 41 #[.int .i64 (o : Int), .int .i64 (t : Int), .int .i64 (f : Int), .int .i64 (s : Int)]) := Lib.hid (by rw [← hsh, hw2]; exact Blk.new _ _ _)
  have HE2 := Lib.hid (he1.trans hE2)
  have HD := Lib.hid (hd.keep hE2)
  have HP := Lib.hid (hp.keep hE2)
  have HG := Lib.hid (hg.keep hE2)
  have HCP := Lib.hid hcp
  have HMB := Lib.hid hmb
  have HNP := Lib.hid hnp
  have HNG := Lib.hid hng
  have HW2 := Lib.hid hw2
  obtain ⟨can, hcan⟩ : ∃ b, b = canMoveB (H : Int) ds ps gs (⟨(o : Int), (t : Int), (f : Int), (s : Int)⟩ : GMove) := ⟨_, rfl⟩
  obtain ⟨L, hL⟩ : ∃ L, L = moveL (H : Int) ds ps gs (⟨(o : Int), (t : Int), (f : Int), (s : Int)⟩ : GMove) := ⟨_, rfl⟩
  have hLl : L.length = np := by rw [hL, moveL_len, hnp]
  have cC : Hid (Calls Tryd.prog 11 #[.agg #[.int .i64 (H : Int), .slice Ad nd cd], .slice Ap np cp, .slice Ag ng cg, .agg #[.int .i64 (o : Int), .int .i64 (t : Int), .int .i64 (f : Int), .int .i64 (s : Int)]] w2 fun e w' => e = .returned (.bool can) ∧ Ext w2 w') := Lib.hid (by
    rw [hcan]; exact impl_CanMove (H : Int) Ad nd cd ds Ap np cp ps Ag ng cg gs (⟨(o : Int), (t : Int), (f : Int), (s : Int)⟩ : GMove) w2 HD.out HP.out HG.out)
  have cM : Hid (∀ W, Ext w2 W → Calls Tryd.prog 12 #[.agg #[.int .i64 (H : Int), .slice Ad nd cd], .slice Ap np cp, .slice Ag ng cg, .agg #[.int .i64 (o : Int), .int .i64 (t : Int), .int .i64 (f : Int), .int .i64 (s : Int)]] W (ListBool L can W)) := Lib.hid (fun W h => by
    rw [hcan, hL]; exact impl_MoveObject (H : Int) Ad nd cd ds Ap np cp ps Ag ng cg gs (⟨(o : Int), (t : Int), (f : Int), (s : Int)⟩ : GMove) W (HD.out.keep h) (HP.out.keep h) (HG.out.keep h) HCP (by omega))
  have HCAN := Lib.hid hcan
  have HL := Lib.hid hL
  have HLl := Lib.hid hLl
  clear hw2 hE2 hsh hd hp hg hcp hmb he1 hcan hL hLl hnp hng hB hpm hgm o0 o1 t0 t1 f0 f1 s0 s1 cD
  go_upto_region 4 with fail
  rw [← HW2.out]
  have B := HBh.out.keep (Ext.refl _)
  have b0 := B.cellAt (i := 0) (by simp)
  have b1 := B.cellAt (i := 1) (by simp)
  simp at b0 b1
  clear B
  have B := HBm.out.keep (Ext.refl _)
  have m0 := B.cellAt (i := 0) (by simp)
  have m1 := B.cellAt (i := 1) (by simp)
  have m2 := B.cellAt (i := 2) (by simp)
  have m3 := B.cellAt (i := 3) (by simp)
  simp at m0 m1 m2 m3
  clear B
  go_wp2_with (go_at_call 11; refine (fun h : Hid _ => h.out) ?_)
  unfold Hid
  refine cC.out.mono ?_
  rintro e w3 ⟨rfl, he3⟩
  have HE23 := Lib.hid he3
  clear b0 b1 m0 m1 m2 m3 cC
  have B := HBh.out.keep he3
  have b0 := B.cellAt (i := 0) (by simp)
  have b1 := B.cellAt (i := 1) (by simp)
  simp at b0 b1
  clear B
  have B := HBm.out.keep he3
  have m0 := B.cellAt (i := 0) (by simp)
  have m1 := B.cellAt (i := 1) (by simp)
  have m2 := B.cellAt (i := 2) (by simp)
  have m3 := B.cellAt (i := 3) (by simp)
  simp at m0 m1 m2 m3
  clear B
  clear he3
  go_wp2_with (go_at_call 12; refine (fun h : Hid _ => h.out) ?_)
  unfold Hid
  refine (cM.out _ HE23.out).mono ?_
  rintro e w4 ⟨vx, rfl, he4, hox⟩
  obtain ⟨Ax, cx, rfl, -⟩ := own_form hox
  rw [HLl.out] at hox ⊢
  have HX := Lib.hid (Rd.of_own hox)
  have HE24 := Lib.hid (HE23.out.trans he4)
  have hcc : (can != can) = false := by simp
  clear he4 hox b0 b1 m0 m1 m2 m3 cM
  go_wp2_with fail
  go_loopw [10] (fun i wr => ∃ (k : Nat), k ≤ np ∧ i = .int .i64 k ∧ Hid (Ext w4 wr)) (fun i _ => np - (intOf i).toNat)
  case atStart => exact ⟨0, Nat.zero_le _, rfl, Lib.hid (Ext.refl _)⟩
  case round =>
    obtain ⟨k, hk, rfl, hb⟩ := hrel
    by_cases hlt : k < np
    · have HE2r := Lib.hid (HE24.out.trans hb.out)
      obtain ⟨bx, ox, y, hAx, -, hyk, p0⟩ := ienc_at (HX.out.keep hb.out) hlt
      obtain ⟨bp, op, z, hAp, -, hzk, p1⟩ := ienc_at (HP.out.keep HE2r.out) hlt
      subst hAx
      subst hAp
      have m0 := (HBm.out.keep HE2r.out).cellAt (i := 0) (by simp)
      simp at m0
      have y0 := cell_regrown p0
      have y1 := cell_regrown p1
      have y2 := cell_regrown m0
      have k0 : (0 : Int) ≤ (k : Int) := by omega
      have k1 : (k : Int) < (np : Int) := by omega
      by_cases hyz : y = z
      · subst hyz
        clear hyk hzk
        go_wp2_with fail
        (refine wp_region_ext (by kernel_rfl) (by kernel_rfl) ?_; (repeat (go_big_quiet_step (first | fail))); refine wpQuiet_nil ?_)
        intro w5 he5
        have HE5 := Lib.hid (hb.out.trans he5)
        clear he5 y0 y1 y2 p0 p1 m0
        go_wp2_with fail
        go_roundw
        case rel => exact ⟨k + 1, by omega, by go_num, HE5⟩
        case measure => simp [intOf]; omega
      · have hmo := moveL_other (by rw [← HL.out]; exact hyk) hzk hyz
        have hct : can = true := HCAN.out.trans hmo.1
        have hko : k = o := by have := hmo.2; simp only at this; omega
        have e1 : (y == z) = false := beq_false_of_ne hyz
        have e2 : (y != z) = true := by simp [bne, e1]
        have e3 : ¬ y = z := hyz
        clear hyk hzk hmo hyz
        subst hct
        subst hko
        go_wp2_with fail
        (refine wp_region_ext (by kernel_rfl) (by kernel_rfl) ?_; (repeat (go_big_quiet_step (first | fail))); refine wpQuiet_nil ?_)
        intro w5 he5
        have HE5 := Lib.hid (hb.out.trans he5)
        clear he5 y0 y1 y2 p0 p1 m0 e1 e2 e3
        go_wp2_with fail
        go_roundw
        case rel => exact ⟨k + 1, by omega, by go_num, HE5⟩
        case measure => simp [intOf]; omega
    · have HE2r := Lib.hid (HE24.out.trans hb.out)
      have m0 := (HBm.out.keep HE2r.out).cellAt (i := 0) (by simp)
      have m1 := (HBm.out.keep HE2r.out).cellAt (i := 1) (by simp)
      have m2 := (HBm.out.keep HE2r.out).cellAt (i := 2) (by simp)
      have m3 := (HBm.out.keep HE2r.out).cellAt (i := 3) (by simp)
      simp at m0 m1 m2 m3
      obtain ⟨T, hT⟩ : ∃ T, T = moveT (⟨(o : Int), (t : Int), (f : Int), (s : Int)⟩ : GMove) := ⟨_, rfl⟩
      have hT24 : T.size ≤ 24 := by rw [hT]; exact moveT_size _
      have cT : Hid (Calls Tryd.prog 14 #[.agg #[.int .i64 (o : Int), .int .i64 (t : Int), .int .i64 (f : Int), .int .i64 (s : Int)]] wr fun e w' => e = .returned (.string T) ∧ Ext wr w') := Lib.hid (by rw [hT]; exact impl_MoveText (⟨(o : Int), (t : Int), (f : Int), (s : Int)⟩ : GMove) wr)
      have HT := Lib.hid hT
      clear hT
      go_wp2_with (go_at_call 14; refine (fun h : Hid _ => h.out) ?_)
      unfold Hid
      refine cT.out.mono ?_
      rintro e w5 ⟨rfl, he5⟩
      have HE25 := Lib.hid (HE2r.out.trans he5)
      have HE45 := Lib.hid (hb.out.trans he5)
      clear he5 m0 m1 m2 m3 cT
      go_wp2_with (go_at_call 13; refine (fun h : Hid _ => h.out) ?_)
      unfold Hid
      refine (impl_ParseMove T w5 (by omega) (Lib.hid (max_extN hM.out (HE2.out.trans HE25.out)))).mono ?_
      rintro e w6 ⟨m', b', rfl, he6, hpm'⟩
      obtain ⟨rfl, rfl⟩ := pm_eq hpm' (.inl ⟨rfl, HMB.out, HT.out⟩)
      simp only
      obtain ⟨w7, hw7⟩ : ∃ w7, w7 = w6.alloc (.cells #[.int .i64 (o : Int), .int .i64 (t : Int), .int .i64 (f : Int), .int .i64 (s : Int)] 41) := ⟨_, rfl⟩
      have hE7 : Ext w6 w7 := by rw [hw7]; exact (Ext.refl _).alloc _
      have hBq : Blk w7 w6.heap.size 41 #[.int .i64 (o : Int), .int .i64 (t : Int), .int .i64 (f : Int), .int .i64 (s : Int)] := by rw [hw7]; exact Blk.new _ _ _
      have q0 := hBq.cellAt (i := 0) (by simp)
      have q1 := hBq.cellAt (i := 1) (by simp)
      have q2 := hBq.cellAt (i := 2) (by simp)
      have q3 := hBq.cellAt (i := 3) (by simp)
      simp at q0 q1 q2 q3
      have HE27 := Lib.hid (HE25.out.trans (he6.trans hE7))
      have HE47 := Lib.hid (HE45.out.trans (he6.trans hE7))
      have HW7 := Lib.hid hw7
      clear hw7 hE7 hBq he6 hpm' hb
      have B := HBm.out.keep HE27.out
      have m0 := B.cellAt (i := 0) (by simp)
      have m1 := B.cellAt (i := 1) (by simp)
      have m2 := B.cellAt (i := 2) (by simp)
      have m3 := B.cellAt (i := 3) (by simp)
      simp at m0 m1 m2 m3
      clear B
      go_upto_region 14 with fail
      rw [← HW7.out]
      cases can
      · have HPL : Hid (Rd w7 1 Ax np (ps.flatMap ienc)) := Lib.hid (by
          have h := HX.out.keep HE47.out
          rw [HL.out, moveL_same HCAN.out.symm] at h
          exact h)
        go_wp2_with (go_at_call 15; refine (fun h : Hid _ => h.out) ?_)
        unfold Hid
        refine (laws_sameIntsN Ax np cx Ap np cp ps w7 HPL.out (HP.out.keep HE27.out)).mono ?_
        rintro e w8 ⟨rfl, he8⟩
        have HE8 := Lib.hid (HE2.out.trans (HE27.out.trans he8))
        clear he8 q0 q1 q2 q3 m0 m1 m2 m3
        go_wp2_with fail
        go_ret
        exact ⟨rfl, HE8.out⟩
      · obtain ⟨hrep, hpl, hne, -, -, -, hna, hnb, hLo⟩ := night_facts HCAN.out.symm
        rw [← HL.out] at hrep hpl hLo
        simp only [Int.toNat_natCast] at hne hna hnb hLo
        have HREP := Lib.hid hrep
        have HPLC := Lib.hid hpl
        obtain ⟨w8, hw8⟩ : ∃ w8, w8 = w7.alloc (.cells #[.int .i64 (o : Int), .int .i64 (t : Int), .int .i64 (f : Int), .int .i64 (s : Int)] 41) := ⟨_, rfl⟩
        have hE8 : Ext w7 w8 := by rw [hw8]; exact (Ext.refl _).alloc _
        have hRx : Rd w8 4 (some ⟨w7.heap.size, 0, none⟩) 1 ([(⟨(o : Int), (t : Int), (f : Int), (s : Int)⟩ : GMove)].flatMap GMove.enc) := rd_blkM (by rw [hw8]; exact Blk.new _ _ _) (by rfl) (by unfold maxLen; omega) (by rfl)
        have cR : Hid (Calls Tryd.prog 16 #[.agg #[.int .i64 (H : Int), .slice Ad nd cd], .slice Ap np cp, .slice (some ⟨w7.heap.size, 0, none⟩) 1 1] w8 (ListBool L true w8)) := Lib.hid (by
          have h := impl_ReplayMoves (H : Int) Ad nd cd ds Ap np cp ps (some ⟨w7.heap.size, 0, none⟩) 1 1 [(⟨(o : Int), (t : Int), (f : Int), (s : Int)⟩ : GMove)] w8 (HD.out.keep (HE27.out.trans hE8)) (HP.out.keep (HE27.out.trans hE8)) hRx HCP (by omega)
          rw [hrep] at h
          exact h)
        have HE28 := Lib.hid (HE27.out.trans hE8)
        have HE48 := Lib.hid (HE47.out.trans hE8)
        have HW8 := Lib.hid hw8
        clear hw8 hE8 hRx hrep hpl m0 m1 m2 m3
        have B := HBh.out.keep HE27.out
        have b0 := B.cellAt (i := 0) (by simp)
        have b1 := B.cellAt (i := 1) (by simp)
        simp at b0 b1
        clear B
        have B := HBm.out.keep HE27.out
        have m0 := B.cellAt (i := 0) (by simp)
        have m1 := B.cellAt (i := 1) (by simp)
        have m2 := B.cellAt (i := 2) (by simp)
        have m3 := B.cellAt (i := 3) (by simp)
        simp at m0 m1 m2 m3
        clear B
        go_wp2_with (go_at_call 16; refine (fun h : Hid _ => h.out) ?_)
        unfold Hid
        rw [← HW8.out]
        refine cR.out.mono ?_
        rintro e w9 ⟨vy, rfl, he9, hoy⟩
        obtain ⟨Ay, cy, rfl, -⟩ := own_form hoy
        rw [HLl.out] at hoy ⊢
        have HY9 := Lib.hid (Rd.of_own hoy)
        have HE29 := Lib.hid (HE28.out.trans he9)
        have HX9 := Lib.hid (HX.out.keep (HE48.out.trans he9))
        have HP9 := Lib.hid (HP.out.keep HE29.out)
        have HG9 := Lib.hid (HG.out.keep HE29.out)
        have HD9 := Lib.hid (HD.out.keep HE29.out)
        clear he9 hoy b0 b1 m0 m1 m2 m3 q0 q1 q2 q3 cR
        have B := HBh.out.keep HE29.out
        have b0 := B.cellAt (i := 0) (by simp)
        have b1 := B.cellAt (i := 1) (by simp)
        simp at b0 b1
        clear B
        have B := HBm.out.keep HE29.out
        have m0 := B.cellAt (i := 0) (by simp)
        have m1 := B.cellAt (i := 1) (by simp)
        have m2 := B.cellAt (i := 2) (by simp)
        have m3 := B.cellAt (i := 3) (by simp)
        simp at m0 m1 m2 m3
        clear B
        obtain ⟨bg, og, za, hAg, -, hza, pa⟩ := ienc_at HG9.out hf
        subst hAg
        obtain ⟨zb, hzb, pb⟩ := ienc_at' HG9.out hs
        obtain ⟨bp, op, zp, hAp, -, hzp, pp⟩ := ienc_at HP9.out ho
        subst hAp
        obtain ⟨bx, ox, zx, hAx, -, hzx, px⟩ := ienc_at HX9.out ho
        subst hAx
        rw [hLo] at hzx
        injection hzx with hzx
        subst hzx
        have ga : gs.getD f 0 = za := by rw [List.getD_eq_getElem?_getD, hza]; rfl
        have gb : gs.getD s 0 = zb := by rw [List.getD_eq_getElem?_getD, hzb]; rfl
        have gp : ps.getD o 0 = zp := by rw [List.getD_eq_getElem?_getD, hzp]; rfl
        rw [ga, gp] at hna
        rw [gb, gp] at hnb
        have HNA := Lib.hid (nf_near hna)
        have HNB := Lib.hid (nf_near hnb)
        have i0 : (0 : Int) ≤ (f : Int) := by omega
        have i1 : (f : Int) < (ng : Int) := by omega
        have i2 : (0 : Int) ≤ (s : Int) := by omega
        have i3 : (s : Int) < (ng : Int) := by omega
        have i4 : (0 : Int) ≤ (o : Int) := by omega
        have i5 : (o : Int) < (np : Int) := by omega
        have n1 : ((f : Int) == (s : Int)) = false := beq_false_of_ne hne
        have n2 : ((f : Int) != (s : Int)) = true := by simp [bne, n1]
        have n3 : ¬ (f : Int) = (s : Int) := hne
        have n4 : ¬ f = s := by omega
        have cS : Hid (∀ W, Ext w9 W → Calls Tryd.prog 15 #[.slice Ay np cy, .slice (some ⟨bx, ox, none⟩) np cx] W fun e w' => e = .returned (.bool true) ∧ Ext W w') := Lib.hid (fun W h => laws_sameIntsN Ay np cy (some ⟨bx, ox, none⟩) np cx L W (HY9.out.keep h) (HX9.out.keep h))
        have cP : Hid (∀ W, Ext w9 W → Calls Tryd.prog 17 #[.agg #[.int .i64 (H : Int), .slice Ad nd cd], .slice (some ⟨bx, ox, none⟩) np cx] W fun e w' => e = .returned (.bool true) ∧ Ext W w') := Lib.hid (fun W h => by
          have k := impl_PlacesOk (H : Int) Ad nd cd ds (some ⟨bx, ox, none⟩) np cx L W (HD9.out.keep h) (HX9.out.keep h)
          rw [HPLC.out] at k
          exact k)
        clear hza hzb hzp ga gb gp hna hnb hLo hne
        go_upto_region 21 with fail
        have y0 := cell_regrown b0
        have y1 := cell_regrown b1
        have y2 := cell_regrown m0
        have y3 := cell_regrown m1
        have y4 := cell_regrown m2
        have y5 := cell_regrown m3
        have y6 := cell_regrown pp
        have y7 := cell_regrown px
        rcases HNA.out with ha | ⟨ha, ha2⟩ <;> rcases HNB.out with hbb | ⟨hbb, hb2⟩
        all_goals (
          (refine wp_region_ext (by kernel_rfl) (by kernel_rfl) ?_; (repeat (go_big_quiet_step (first | (go_at_call 15; with_reducible exact Calls.rg (cS.out _ (ext_rg _ _ _))) | (go_at_call 17; with_reducible exact Calls.rg (cP.out _ (ext_rg _ _ _)))))); refine wpQuiet_nil ?_)
          intro w10 he10
          have HEa := Lib.hid (HE2.out.trans (HE29.out.trans he10))
          clear he10 y0 y1 y2 y3 y4 y5 y6 y7 b0 b1 m0 m1 m2 m3 pa pb pp px
          go_wp2_with fail
          go_ret
          exact ⟨rfl, HEa.out⟩)
end Go.Proofs.YtfhibjehnoibeaaDoor
