/- Texts of one proof, laid one behind the other (SDm, MY, QK); no condition but what stands at each theorem. -/
import Derived.Deep.RegionHeld3
import Derived.Test.YtfhibjehnoibeaaZC
import Derived.Test.YtfhibjehnoibeaaZD
import Derived.Test.YtfhibjehnoibeaaZE
/- The drawing of a house and rings, and small functions of the laws, for a seat without museums; no condition but what stands at each theorem. -/
namespace Go.Proofs.Ytfhibjehnoibeaa
set_option linter.unusedSimpArgs false
set_option linter.unusedVariables false
open Go.RowKit Go.Sort
def bencU (b : UInt8) : List Value := [.int .u8 (b.toNat : Int)]
theorem rd_bytes {w : World} {A : Option Addr} {n : Nat} {bs : List UInt8} (h : Rd w 1 A n (bs.flatMap bencU)) : Rd w 1 A n ((bs.map fun b => (b.toNat : Int)).flatMap benc) := by
  rw [List.flatMap_map]; exact h
theorem bytes_bd (bs : List UInt8) : ∀ x ∈ bs.map (fun b => (b.toNat : Int)), 0 ≤ x ∧ x ≤ 255 := by
  intro x hx
  obtain ⟨b, _, rfl⟩ := List.mem_map.1 hx
  have := b.toNat_lt
  omega
theorem ei_IntK : EI Try.prog 27 3 1 := ei_of Try.underlying27 (by omega) (by kernel_rfl)
theorem blk_overK {w w' : World} {g base : Nat} {t : TypeId} {cs : Array Value} {row : Option Nat} (h : Blk w g t cs) (k : w.grownBy w' row) (hr : ∀ k, row = some k → base ≤ k) (hg : g < base) : Blk w' g t cs :=
  (k.block g h.lt (fun e => by have := hr g e.symm; omega)).trans h
theorem pow_12 {n : Nat} (h : n ≤ 12) : 2 ^ n ≤ 4096 := Nat.pow_le_pow_right (by omega) h
theorem wrap_pow12 {n : Nat} (h : n ≤ 12) : wrap64 ((2 : Int) ^ n) = ((2 ^ n : Nat) : Int) := by
  have h1 := pow_12 h
  have h2 : ((2 : Int) ^ n) = ((2 ^ n : Nat) : Int) := by push_cast; rfl
  rw [h2]
  generalize 2 ^ n = q at h1 ⊢
  exact IntWalk.wrap64_in _ ⟨by omega, by omega⟩
theorem laws_big (A : Option Addr) (n c : Nat) (w : World) : Calls Try.prog 4 #[.slice A n c] w fun e w' => e = .returned (.bool (decide (1048576 < n))) ∧ w = w' := by
  go_enter Try.func4, Try.ntmps4
  go_wp2_with fail
  go_ret
  exact ⟨ret_bool (by rw [Bool.eq_iff_iff]; simp; omega), rfl⟩
set_option maxRecDepth 100000 in
set_option maxHeartbeats 1000000 in
theorem laws_hasK (A : Option Addr) (n c : Nat) (xs : List Int) (x : Int) (w : World) (hx : Rd w 1 A n (xs.flatMap ienc)) :
    Calls Try.prog 9 #[.slice A n c, .int .i64 x] w fun e w' => e = .returned (.bool (decide (x ∈ xs))) ∧ Ext w w' := by
  have hn := hx.2.1
  have hl := Lib.hid (hx.len ienc_len (by omega))
  have HX := Lib.hid hx
  clear hx
  go_enter Try.func9, Try.ntmps9
  go_wp2_with fail
  go_loopw [5] (fun i wr => ∃ (k : Nat), k ≤ n ∧ i = .int .i64 k ∧ Hid (x ∉ xs.take k) ∧ Ext w wr) (fun i _ => n - (intOf i).toNat)
  case atStart => exact ⟨0, Nat.zero_le _, rfl, by unfold Hid; simp, Ext.refl _⟩
  case round =>
    obtain ⟨k, hk, rfl, hno, hb⟩ := hrel
    by_cases hlt : k < n
    · obtain ⟨b, off, y, rfl, hbs, hyk, h0⟩ := ienc_at (HX.out.keep hb) hlt
      have HY := Lib.hid hyk
      have HB := Lib.hid hb
      clear hyk hb
      by_cases hxy : y = x
      · subst hxy
        have HM : Hid (decide (y ∈ xs) = true) := by unfold Hid; simpa using List.mem_of_getElem? HY.out
        go_wp2_with fail
        all_goals go_ret
        all_goals exact ⟨ret_bool HM.out.symm, by have hb := HB.out; (repeat (first | exact Ext.refl _ | assumption | refine Ext.alloc ?_ _ | refine Ext.drew ?_ | refine Ext.drewN ?_ _ | refine Ext.setCell ?_ (by first | (simp; done) | (simp; omega)) _ | refine Ext.trans ?_ (by assumption)))⟩
      · have hne : (y == x) = false := beq_false_of_ne hxy
        have HN : Hid (x ∉ xs.take (k + 1)) := by
          unfold Hid
          rw [List.take_add_one, HY.out, Option.toList_some, List.mem_append, List.mem_singleton]
          rintro (h | h)
          · exact hno.out h
          · exact hxy h.symm
        clear hno hxy
        go_wp2_with fail
        all_goals
          go_roundw
          case rel => exact ⟨k + 1, by omega, by go_num, HN, by have hb := HB.out; (repeat (first | exact Ext.refl _ | assumption | refine Ext.alloc ?_ _ | refine Ext.drew ?_ | refine Ext.drewN ?_ _ | refine Ext.setCell ?_ (by first | (simp; done) | (simp; omega)) _ | refine Ext.trans ?_ (by assumption)))⟩
          case measure => simp [intOf]; omega
    · obtain rfl : k = n := by omega
      have HM : Hid (decide (x ∈ xs) = false) := by
        unfold Hid
        have := hno.out
        rw [List.take_of_length_le (by rw [hl.out]; omega)] at this
        simpa using this
      go_wp2_with fail
      go_ret
      exact ⟨ret_bool HM.out.symm, hb⟩
/-- A Boolean has been drawn. -/
def DrawnBoolK (p : Nat) (w : World) (e : Ending) (w' : World) : Prop := ∃ b : Bool, e = .returned (.bool b) ∧ Cur w' p ∧ w.grownBy w' (some p)
set_option maxRecDepth 100000 in
set_option maxHeartbeats 1000000 in
theorem spec_l01OnceK (p : Nat) (n : Int) (w : World) (hc : Cur w p) : Calls Try.prog 22 #[.pointer (some ⟨p, 0, none⟩), .int .i64 n] w (DrawnBoolK p w) := by
  have cA := Lib.hid (spec_l01Below p n w hc)
  clear hc
  go_enter Try.func22, Try.ntmps22
  go_wp2_with (go_at_call 21; refine (fun h : Hid _ => h.out) ?_)
  unfold Hid
  refine cA.out.mono ?_
  rintro e w1 ⟨r, rfl, h0, h1, hc1, hg1⟩
  have HC := Lib.hid hc1
  have HG := Lib.hid hg1
  clear hc1 hg1 cA
  go_wp2_with fail
  go_ret
  exact ⟨_, rfl, HC.out, HG.out⟩
/-- Rings have been drawn, a row of the call's own. -/
def DrawnRings (N p : Nat) (w : World) (e : Ending) (w' : World) : Prop := ∃ (v : Value) (xs : List Int), e = .returned v ∧ w'.ownsRow w.heap.size 3 1 v xs.length (xs.flatMap ienc) ∧ xs.length ≤ 5 ∧ (∀ x ∈ xs, 0 ≤ x ∧ x < ((2 ^ N : Nat) : Int)) ∧ Cur w' p ∧ w.grownBy w' (some p)
set_option maxRecDepth 100000 in
set_option maxHeartbeats 4000000 in
theorem spec_l37List (p H : Nat) (Ad : Option Addr) (nd cd : Nat) (w : World) (hc : Cur w p) (h12 : nd ≤ 12) :
    Calls Try.prog 14 #[.pointer (some ⟨p, 0, none⟩), .agg #[.int .i64 (H : Int), .slice Ad nd cd]] w (DrawnRings nd p w) := by
  have hp := hc.lt
  obtain ⟨wb, hwb⟩ : ∃ wb, wb = w.alloc (.cells #[.int .i64 (H : Int), .slice Ad nd cd] 26) := ⟨_, rfl⟩
  obtain ⟨wa, hwa⟩ : ∃ wa, wa = wb.alloc (.cells #[] 3) := ⟨_, rfl⟩
  have hsb : wb.heap.size = w.heap.size + 1 := by rw [hwb]; simp
  have hB : Blk wb w.heap.size 26 #[.int .i64 (H : Int), .slice Ad nd cd] := by rw [hwb]; exact Blk.new _ _ _
  have hBa : Blk wa w.heap.size 26 #[.int .i64 (H : Int), .slice Ad nd cd] := hB.keep (by rw [hwa]; exact (Ext.refl wb).alloc _)
  have hca : Cur wa p := by rw [hwa, hwb]; exact cur_alloc (cur_alloc hc _) _
  have hga : w.grownBy wa (some p) := by rw [hwa, hwb]; exact grown_alloc (grown_alloc (grown_refl _ _) _) _
  have hoa : wa.ownsRow wb.heap.size 3 1 (.slice (some ⟨w.heap.size + 1, 0, none⟩) 0 0) 0 (([] : List Int).flatMap ienc) := by rw [← hsb, hwa]; exact own_empty wb wb.heap.size 3 1 (Nat.le_refl _)
  have Hwa : Hid (wa = (w.alloc (.cells #[.int .i64 (H : Int), .slice Ad nd cd] 26)).alloc (.cells #[] 3)) := Lib.hid (by rw [hwa, hwb])
  have HOa := Lib.hid hoa
  have HGa := Lib.hid hga
  have HBa := Lib.hid hBa
  have hpb : p < wb.heap.size := by omega
  have hsh := Lib.hid (wrap_pow12 h12)
  have h4 := pow_12 h12
  have hpos : 0 < 2 ^ nd := Nat.two_pow_pos nd
  have Hsb := Lib.hid hsb
  have cA := Lib.hid (spec_l01Below p 6 wa hca)
  clear hwa hwb hoa hga hB hBa hca hc hsb
  go_enter Try.func14, Try.ntmps14
  go_wp2_with (go_at_call 21; refine (fun h : Hid _ => h.out) ?_)
  unfold Hid
  rw [← Hwa.out]
  refine cA.out.mono ?_
  rintro e w2 ⟨q, rfl, hq0, hq1, hc2, hg2⟩
  have HO2 := Lib.hid (own_grown HOa.out hpb hg2)
  have HG2 := Lib.hid (grown_trans HGa.out hg2)
  have HB2 := Lib.hid (blk_grown HBa.out (by omega) hg2)
  have HC2 := Lib.hid hc2
  obtain ⟨n, rfl⟩ := Int.eq_ofNat_of_zero_le hq0
  have hn5 : n ≤ 5 := by omega
  clear hg2 hc2 hq0 hq1 cA
  go_wp2_with fail
  go_loopw [5, 7] (fun ov iv wr => ∃ (k : Nat) (L : List Int), k ≤ n ∧ iv = .int .i64 k ∧ Hid (L.length = k) ∧ Hid (∀ x ∈ L, 0 ≤ x ∧ x < ((2 ^ nd : Nat) : Int)) ∧ Hid (wr.ownsRow wb.heap.size 3 1 ov L.length (L.flatMap ienc)) ∧ Hid (Cur wr p) ∧ Hid (Blk wr w.heap.size 26 #[.int .i64 (H : Int), .slice Ad nd cd]) ∧ Hid (w.grownBy wr (some p))) (fun _ iv _ => n - (intOf iv).toNat)
  case atStart => exact ⟨0, [], by omega, rfl, Lib.hid rfl, Lib.hid (fun x hx => by cases hx), HO2, HC2, HB2, HG2⟩
  case round =>
    obtain ⟨k, L, hk, rfl, hLk, hLm, hown, hcr, hbr, hgr⟩ := hrel
    by_cases hlt : k < n
    · have y0 := hbr.out.cellAt (i := 0) (by simp)
      have y1 := hbr.out.cellAt (i := 1) (by simp)
      simp at y0 y1
      go_wp2_with (go_at_call 21; refine (fun h : Hid _ => h.out) ?_)
      unfold Hid
      refine (spec_l01Below p _ _ hcr.out).mono ?_
      rintro e w5 ⟨r, rfl, h0, h1, hc5, hg5⟩
      have h1 : r < ((2 ^ nd : Nat) : Int) := by
        have h1 := h1
        (try rw [hsh.out] at h1)
        omega
      obtain ⟨r, rfl⟩ := Int.eq_ofNat_of_zero_le h0
      have hr : r < 2 ^ nd := by omega
      have HO5 := Lib.hid (own_grown hown.out hpb hg5)
      have HG5 := Lib.hid (grown_trans hgr.out hg5)
      have HB5 := Lib.hid (blk_grown hbr.out (by omega) hg5)
      have HC5 := Lib.hid hc5
      clear hg5 hc5 h0 h1 y0 y1
      go_wp2_with (go_at_call 22; refine (fun h : Hid _ => h.out) ?_)
      unfold Hid
      refine (spec_l01OnceK p _ _ HC5.out).mono ?_
      rintro e w6 ⟨b, rfl, hc6, hg6⟩
      have HO6 := Lib.hid (own_grown HO5.out hpb hg6)
      have HG6 := Lib.hid (grown_trans HG5.out hg6)
      have HB6 := Lib.hid (blk_grown HB5.out (by omega) hg6)
      have HC6 := Lib.hid hc6
      clear hg6 hc6 HO5 HG5 HB5 HC5
      have hLl : L.length ≤ 1000 := by have := hLk.out; omega
      cases b
      · have hsz : wb.heap.size ≤ w6.heap.size := by have := HB6.out.lt; have := Hsb.out; omega
        go_wp2_with (at_builtin; refine (fun h : Hid _ => h.out) ?_)
        unfold Hid
        refine append1g ei_IntK rfl _ _ rfl wb.heap.size w6 _ _ L.length _ (by rfl) HO6.out (ienc (r : Int)) (by rfl) rfl (by intro u hu; simp [ienc] at hu; subst hu; rfl) (by omega) hsz ?_
        intro v7 w7 row ho7 hg7 hr7
        have HO7 := Lib.hid ho7
        have HC7 := Lib.hid (cur_grown HC6.out hg7 (fun q hq => by have := hr7 q hq; omega))
        have HB7 := Lib.hid (blk_overK HB6.out hg7 hr7 (by have := Hsb.out; omega))
        have HG7 := Lib.hid (grown_over HG6.out hg7 (fun q hq => by have := hr7 q hq; have := Hsb.out; omega))
        clear ho7 hg7 hr7
        go_wp2_with fail
        go_roundw
        case rel => exact ⟨k + 1, L ++ [(r : Int)], by omega, by go_num, Lib.hid (by have := hLk.out; simp; omega), Lib.hid (fun x hx => by
          rcases List.mem_append.1 hx with hx | hx
          · exact hLm.out x hx
          · rw [List.mem_singleton] at hx; subst hx; exact ⟨by omega, by omega⟩), by unfold Hid; rw [List.length_append, List.flatMap_append]; simpa using HO7.out, HC7, HB7, HG7⟩
        case measure => simp [intOf] <;> omega
      · have y0 := HB6.out.cellAt (i := 0) (by simp)
        have y1 := HB6.out.cellAt (i := 1) (by simp)
        simp at y0 y1
        go_wp2_with (go_at_call 21; refine (fun h : Hid _ => h.out) ?_)
        unfold Hid
        refine (spec_l01Below p _ _ HC6.out).mono ?_
        rintro e w7 ⟨s, rfl, h0, h1, hc7, hg7⟩
        have h1 : s < ((2 ^ nd : Nat) : Int) := by
          have h1 := h1
          (try rw [hsh.out] at h1)
          omega
        obtain ⟨s, rfl⟩ := Int.eq_ofNat_of_zero_le h0
        have hs : s < 2 ^ nd := by omega
        have HO7 := Lib.hid (own_grown HO6.out hpb hg7)
        have HG7 := Lib.hid (grown_trans HG6.out hg7)
        have HB7 := Lib.hid (blk_grown HB6.out (by omega) hg7)
        have HC7 := Lib.hid hc7
        have hor : bits .or .i64 (r : Int) (s : Int) = ((r ||| s : Nat) : Int) := bits_or r s (by omega) (by omega)
        obtain ⟨z, hz⟩ : ∃ z, z = r ||| s := ⟨_, rfl⟩
        have hz2 : z < 2 ^ nd := by rw [hz]; exact Nat.or_lt_two_pow hr hs
        rw [← hz] at hor
        have hsz : wb.heap.size ≤ w7.heap.size := by have := HB7.out.lt; have := Hsb.out; omega
        clear hg7 hc7 h0 h1 y0 y1 HO6 HG6 HB6 HC6 hz
        go_wp2_with (at_builtin; refine (fun h : Hid _ => h.out) ?_)
        unfold Hid
        (try rw [hor])
        refine append1g ei_IntK rfl _ _ rfl wb.heap.size w7 _ _ L.length _ (by rfl) HO7.out (ienc (z : Int)) (by first | rfl | (rw [← hor]; rfl)) rfl (by intro u hu; simp [ienc] at hu; subst hu; rfl) (by omega) hsz ?_
        intro v8 w8 row ho8 hg8 hr8
        have HO8 := Lib.hid ho8
        have HC8 := Lib.hid (cur_grown HC7.out hg8 (fun q hq => by have := hr8 q hq; omega))
        have HB8 := Lib.hid (blk_overK HB7.out hg8 hr8 (by have := Hsb.out; omega))
        have HG8 := Lib.hid (grown_over HG7.out hg8 (fun q hq => by have := hr8 q hq; have := Hsb.out; omega))
        clear ho8 hg8 hr8
        go_wp2_with fail
        go_roundw
        case rel => exact ⟨k + 1, L ++ [(z : Int)], by omega, by go_num, Lib.hid (by have := hLk.out; simp; omega), Lib.hid (fun x hx => by
          rcases List.mem_append.1 hx with hx | hx
          · exact hLm.out x hx
          · rw [List.mem_singleton] at hx; subst hx; exact ⟨by omega, by omega⟩), by unfold Hid; rw [List.length_append, List.flatMap_append]; simpa using HO8.out, HC8, HB8, HG8⟩
        case measure => simp [intOf] <;> omega
    · go_wp2_with fail
      go_ret
      exact ⟨_, L, rfl, own_weak (base := wb.heap.size) hown.out (by have := Hsb.out; omega), by have := hLk.out; omega, hLm.out, hcr.out, hgr.out⟩
/-- A house and rings have been drawn. -/
def DrewRings (w : World) (e : Ending) (w' : World) : Prop := ∃ (H : Nat) (Ad : Option Addr) (nd cd : Nat) (ds : List GDoor) (Ar : Option Addr) (cr : Nat) (rings : List Int),
  e = .returned (.tuple #[.agg #[.int .i64 (H : Int), .slice Ad nd cd], .slice Ar rings.length cr]) ∧ houseB (H : Int) ds = true ∧ (1 ≤ H ∧ H ≤ 7) ∧ nd = ds.length ∧ Rd w' 2 Ad nd (ds.flatMap GDoor.enc) ∧ Rd w' 1 Ar rings.length (rings.flatMap ienc) ∧ rings.length ≤ 5 ∧ (∀ x ∈ rings, 0 ≤ x ∧ x < ((2 ^ nd : Nat) : Int)) ∧ Ext w w'
set_option maxRecDepth 100000 in
set_option maxHeartbeats 4000000 in
theorem spec_DrawRings (A : Option Addr) (n c : Nat) (xs : List Int) (w : World) (hx : Rd w 1 A n (xs.flatMap benc)) (hxs : ∀ x ∈ xs, 0 ≤ x ∧ x ≤ 255) (hn1 : n ≤ 1048576) : Calls Try.prog 5 #[.slice A n c] w (DrewRings w) := by
  obtain ⟨wa, hwa⟩ : ∃ wa, wa = w.alloc (.cells #[.int .i64 0, .slice none 0 0] 26) := ⟨_, rfl⟩
  have hB2 : Blk wa w.heap.size 26 #[.int .i64 0, .slice none 0 0] := by rw [hwa]; exact Blk.new _ _ _
  have hEa : Ext w wa := by rw [hwa]; exact (Ext.refl _).alloc _
  have hsa : wa.heap.size = w.heap.size + 1 := by rw [hwa]; simp
  have Hwa := Lib.hid hwa
  have HB2 := Lib.hid hB2
  have HEa := Lib.hid hEa
  have cN := Lib.hid (spec_l01New A n c xs wa (hx.keep hEa) hxs hn1)
  clear hwa hB2 hEa hx hxs
  go_enter Try.func5, Try.ntmps5
  go_wp2_with (go_at_call 12; refine (fun h : Hid _ => h.out) ?_)
  unfold Hid
  rw [← Hwa.out]
  refine cN.out.mono ?_
  rintro e w1 ⟨p, rfl, hp, hc1, he1⟩
  have hz1 := he1.size
  have hpw : w.heap.size + 1 ≤ p := by omega
  have hp1 := hc1.lt
  have K2 := Lib.hid (HB2.out.keep he1)
  have HE1 := Lib.hid (HEa.out.trans he1)
  have HC1 := Lib.hid hc1
  clear hc1 he1 HB2 HEa cN
  go_wp2_with (go_at_call 13; refine (fun h : Hid _ => h.out) ?_)
  unfold Hid
  refine (spec_l23House p _ HC1.out).mono ?_
  rintro e w2 ⟨H, hv, ds, rfl, hH1, hH7, hB, hoD, hc2, hg2⟩
  obtain ⟨Ad, cd, rfl, -⟩ := own_form hoD
  obtain ⟨nd, hnd⟩ : ∃ nd, nd = ds.length := ⟨_, rfl⟩
  have h12 : nd ≤ 12 := by have := (houseB_spec hB).2.2.1; omega
  rw [← hnd] at hoD ⊢
  have hz2 := hg2.size
  obtain ⟨w3, hw3⟩ : ∃ w3, w3 = w2.alloc (.cells #[.int .i64 (H : Int), .slice Ad nd cd] 26) := ⟨_, rfl⟩
  have hE3 : Ext w2 w3 := by rw [hw3]; exact (Ext.refl _).alloc _
  obtain ⟨gh, hgh⟩ : ∃ gh, gh = w2.heap.size := ⟨_, rfl⟩
  have HBh : Hid (Blk w3 gh 26 #[.int .i64 (H : Int), .slice Ad nd cd]) := Lib.hid (by rw [hgh, hw3]; exact Blk.new _ _ _)
  have HD3 := Lib.hid (own_keep hoD hE3)
  have HC3 := Lib.hid (cur_ext hc2 hE3)
  have K2 := Lib.hid ((blk_grown K2.out (by omega) hg2).keep hE3)
  have HE3 := Lib.hid ((HE1.out.grown hg2 (fun q hq => by injection hq with hq; omega)).trans hE3)
  have hz3 : w3.heap.size = gh + 1 := by rw [hw3, hgh]; simp
  have HW3 := Lib.hid hw3
  have HGH := Lib.hid hgh
  have HHB := Lib.hid hB
  have HND := Lib.hid hnd
  have hghp : gh ≠ p := by omega
  have hpgh : p < gh := by omega
  have hpd : p < w1.heap.size := hp1
  clear hoD hE3 hc2 hg2 hw3 hB hnd hgh HC1 HE1 hz2 hp1
  have cM := Lib.hid (spec_l37List p H Ad nd cd w3.drew (cur_drew HC3.out) h12)
  have y0 := HBh.out.cellAt (i := 0) (by simp)
  have y1 := HBh.out.cellAt (i := 1) (by simp)
  simp at y0 y1
  have q2 : w.heap.size ≠ gh := by omega
  have q2' := q2.symm
  have hp2 : w.heap.size ≠ p := by omega
  go_upto_region 3 with fail
  rw [← HW3.out, ← HGH.out]
  go_region_held3 (fun w' => w'.cell? ⟨gh, 0, none⟩ = some (.int .i64 (H : Int)) ∧ w'.cell? ⟨gh, 1, none⟩ = some (.slice Ad nd cd)) (first | (refine ⟨?_, ?_⟩ <;> simp only [cell_set_far, q2, q2', ne_eq, not_false_eq_true] <;> assumption) | go_keep) (first
    | (go_at_call 14; refine cM.out.mono ?_; rintro e w9 ⟨vr, rings, rfl, hor, hrl, hrm, hc9, hg9⟩; have C2 := blk_grown K2.out.drew hp2 hg9; have Ch := blk_grown HBh.out.drew hghp hg9; have y0 := Ch.cellAt (i := 0) (by simp); have y1 := Ch.cellAt (i := 1) (by simp); have x20 := C2.cellAt (i := 0) (by simp); have x21 := C2.cellAt (i := 1) (by simp); have f2 := C2.free; simp at y0 y1 x20 x21))
  obtain ⟨Ar, cr, rfl, -⟩ := own_form hor
  have HG9 := grown_trans (grown_drew1 (grown_refl w3 (some p))) hg9
  have HE9 := HE3.out.grown HG9 (fun q hq => by injection hq with hq; omega)
  have D9 := own_grown HD3.out hpd HG9
  have g1 := grown_set (grown_set (grown_refl w9 (some w.heap.size)) 0 (.int .i64 (H : Int))) 1 (.slice Ad nd cd)
  have D10 := own_grown D9 (by omega) g1
  have R10 := own_grown hor (show w.heap.size < w3.drew.heap.size by show w.heap.size < w3.heap.size; omega) g1
  have b1 := (C2.set 0 (.int .i64 (H : Int))).set 1 (.slice Ad nd cd)
  have e1 : Ext w ((w9.setCell ⟨w.heap.size, 0, none⟩ (.int .i64 (H : Int))).setCell ⟨w.heap.size, 1, none⟩ (.slice Ad nd cd)) := (HE9.setCell (Nat.le_refl _) _).setCell (Nat.le_refl _) _
  generalize (w9.setCell ⟨w.heap.size, 0, none⟩ (.int .i64 (H : Int))).setCell ⟨w.heap.size, 1, none⟩ (.slice Ad nd cd) = w10 at g1 D10 R10 b1 e1 ⊢
  simp only [List.setIfInBounds_toArray, List.set_cons_succ, List.set_cons_zero] at b1
  have z20 := b1.cellAt (i := 0) (by simp)
  have z21 := b1.cellAt (i := 1) (by simp)
  simp at z20 z21
  have HF := Lib.hid (And.intro D10 (And.intro R10 e1))
  have HRM := Lib.hid hrm
  clear g1 D9 D10 R10 b1 e1 C2 Ch hc9 hg9 HG9 HE9 x20 x21 f2 y0 y1 hor hrm
  go_wp2_with fail
  refine bodyPost_ret (v := .tuple #[.agg #[.int .i64 (H : Int), .slice Ad nd cd], .slice Ar rings.length cr]) (by simp [results, Try.results5, go_sem, z20, z21]) rfl ?_
  exact ⟨H, Ad, nd, cd, ds, Ar, cr, rings, rfl, HHB.out, ⟨hH1, hH7⟩, HND.out, Rd.of_own HF.out.1, Rd.of_own HF.out.2.1, hrl, HRM.out, HF.out.2.2⟩
end Go.Proofs.Ytfhibjehnoibeaa
/- What the law on keys asks, in plain Lean; no condition but what stands at each theorem. -/
namespace Go.Proofs.Ytfhibjehnoibeaa
set_option linter.unusedSimpArgs false
set_option linter.unusedVariables false
theorem opened_mono : ∀ (ds : List GDoor) (r s : Nat), (∀ i, r.testBit i = true → s.testBit i = true) → ∀ d ∈ opened r ds, d ∈ opened s ds
  | [], _, _, _, _, hd => by simp [opened] at hd
  | e :: ds, r, s, h, d, hd => by
    have ih := opened_mono ds (r / 2) (s / 2) (fun i hi => by
      have := h (i + 1) (by rw [Nat.testBit_succ]; exact hi)
      rwa [Nat.testBit_succ] at this)
    have h0 : r % 2 = 1 → s % 2 = 1 := fun h1 => by
      have := h 0 (by rw [Nat.testBit_zero]; simpa using h1)
      rw [Nat.testBit_zero] at this
      simpa using this
    unfold opened at hd ⊢
    by_cases hr : r % 2 = 1
    · have hs := h0 hr
      rw [if_pos (by simpa using hr)] at hd
      rw [if_pos (by simpa using hs)]
      rcases List.mem_cons.1 hd with rfl | hd
      · exact List.mem_cons_self ..
      · exact List.mem_cons_of_mem _ (ih d hd)
    · rw [if_neg (by simpa using hr)] at hd
      split
      · exact List.mem_cons_of_mem _ (ih d hd)
      · exact ih d hd
theorem doorB_sub {ds es : List GDoor} (h : ∀ d ∈ ds, d ∈ es) {x k : Int} (hd : doorB ds x k = true) : doorB es x k = true := by
  unfold doorB at *
  rw [List.any_eq_true] at *
  obtain ⟨d, h1, h2⟩ := hd
  exact ⟨d, h d h1, h2⟩
theorem ball_sub {ds es : List GDoor} (h : ∀ d ∈ ds, d ∈ es) {H a : Nat} : ∀ (n : Nat) {k : Nat}, ball ds H a n k = true → ball es H a n k = true
  | 0, _, hb => hb
  | n + 1, k, hb => by
    rcases ball_cases hb with hb | ⟨j, hj, h1, h2⟩
    · exact ball_up (ball_sub h n hb) (Nat.le_succ _)
    · exact ball_step hj (ball_sub h n h1) (doorB_sub h h2)
theorem reach_mono {ds : List GDoor} {H r s k : Nat} (hrs : ∀ i, r.testBit i = true → s.testBit i = true) (hH : 0 < H) (hk : k < H) (hr : reachB (opened r ds) H 0 k = true) : reachB (opened s ds) H 0 k = true := by
  rw [reach_ball _ hH hk] at *
  exact ball_sub (opened_mono ds r s hrs) H hr
theorem full_iff {ds : List GDoor} {h r : Nat} : fullB (h : Int) ds (r : Int) = true ↔ ∀ k, k < h → reachB (opened r ds) h 0 k = true := by
  unfold fullB hallsL
  simp only [Int.toNat_natCast, beq_iff_eq, List.length_map]
  have := List.length_filter_eq_length_iff (p := reachB (opened r ds) h 0) (l := List.range h)
  rw [List.length_range] at this
  rw [this]
  exact ⟨fun h1 k hk => h1 k (List.mem_range.2 hk), fun h1 k hk => h1 k (List.mem_range.1 hk)⟩
theorem full_mono {ds : List GDoor} {h r s : Nat} (h1 : 1 ≤ h) (hrs : ∀ i, r.testBit i = true → s.testBit i = true) (hr : fullB (h : Int) ds (r : Int) = true) : fullB (h : Int) ds (s : Int) = true := by
  rw [full_iff] at *
  exact fun k hk => reach_mono hrs h1 hk (hr k hk)
theorem halls_mono {ds : List GDoor} {h r s : Nat} (h1 : 1 ≤ h) (hrs : ∀ i, r.testBit i = true → s.testBit i = true) {x : Int} (hx : x ∈ hallsL ds h 0 r) : x ∈ hallsL ds h 0 s := by
  unfold hallsL at *
  obtain ⟨k, hk, rfl⟩ := List.mem_map.1 hx
  obtain ⟨h2, h3⟩ := List.mem_filter.1 hk
  exact List.mem_map.2 ⟨k, List.mem_filter.2 ⟨h2, reach_mono hrs h1 (List.mem_range.1 h2) h3⟩, rfl⟩
theorem zero_open {ds : List GDoor} {h r : Nat} (h1 : 1 ≤ h) : (0 : Int) ∈ hallsL ds h 0 r := by
  unfold hallsL
  refine List.mem_map.2 ⟨0, List.mem_filter.2 ⟨List.mem_range.2 h1, ?_⟩, rfl⟩
  rw [reach_ball _ h1 h1]
  exact ball_up (n := 0) (by simp [ball]) (Nat.zero_le _)
/-- All keys of some rings. -/
def orN (xs : List Int) : Nat := xs.foldl (fun (s : Nat) (r : Int) => s ||| r.toNat) 0
theorem orN_bit (xs : List Int) : ∀ (z i : Nat), (xs.foldl (fun (s : Nat) (r : Int) => s ||| r.toNat) z).testBit i = true ↔ z.testBit i = true ∨ ∃ x ∈ xs, x.toNat.testBit i = true := by
  induction xs with
  | nil => intro z i; simp
  | cons x xs ih =>
    intro z i
    rw [List.foldl_cons]
    refine (ih _ i).trans ?_
    rw [Nat.testBit_or, Bool.or_eq_true]
    constructor
    · rintro ((h | h) | ⟨y, hy, h⟩)
      · exact .inl h
      · exact .inr ⟨x, List.mem_cons_self .., h⟩
      · exact .inr ⟨y, List.mem_cons_of_mem _ hy, h⟩
    · rintro (h | ⟨y, hy, h⟩)
      · exact .inl (.inl h)
      · rcases List.mem_cons.1 hy with rfl | hy
        · exact .inl (.inr h)
        · exact .inr ⟨y, hy, h⟩
theorem orN_sub {xs ys : List Int} (h : ∀ x ∈ xs, x ∈ ys) (i : Nat) (hi : (orN xs).testBit i = true) : (orN ys).testBit i = true := by
  unfold orN at *
  rw [orN_bit] at *
  rcases hi with hi | ⟨x, hx, hi⟩
  · exact .inl hi
  · exact .inr ⟨x, h x hx, hi⟩
theorem orN_one {xs : List Int} {x : Int} (h : x ∈ xs) (i : Nat) (hi : x.toNat.testBit i = true) : (orN xs).testBit i = true := by
  unfold orN
  rw [orN_bit]
  exact .inr ⟨x, h, hi⟩
theorem orN_lt {n : Nat} {xs : List Int} (h : ∀ x ∈ xs, x.toNat < 2 ^ n) : orN xs < 2 ^ n := by
  have key : ∀ (xs : List Int) (z : Nat), z < 2 ^ n → (∀ x ∈ xs, x.toNat < 2 ^ n) → xs.foldl (fun (s : Nat) (r : Int) => s ||| r.toNat) z < 2 ^ n := by
    intro xs
    induction xs with
    | nil => intro z hz _; exact hz
    | cons x xs ih => intro z hz hx; exact ih _ (Nat.or_lt_two_pow hz (hx x (List.mem_cons_self ..))) (fun y hy => hx y (List.mem_cons_of_mem _ hy))
  exact key xs 0 (Nat.two_pow_pos n) h
theorem join_orN {xs : List Int} (h : ∀ x ∈ xs, 0 ≤ x ∧ x ≤ 4095) : joinAll xs = ((orN xs : Nat) : Int) := by
  have key : ∀ (xs : List Int) (z : Nat), z < 4096 → (∀ x ∈ xs, 0 ≤ x ∧ x ≤ 4095) → xs.foldl joinStep (z : Int) = ((xs.foldl (fun (s : Nat) (r : Int) => s ||| r.toNat) z : Nat) : Int) := by
    intro xs
    induction xs with
    | nil => intro z _ _; rfl
    | cons x xs ih =>
      intro z hz hx
      obtain ⟨q, rfl⟩ := Int.eq_ofNat_of_zero_le (hx x (List.mem_cons_self ..)).1
      have hq := (hx _ (List.mem_cons_self ..)).2
      rw [List.foldl_cons, List.foldl_cons, Int.toNat_natCast, joinStep, bits_or z q (by omega) (by omega)]
      exact ih _ (or_lt4096 hz (by omega)) (fun y hy => hx y (List.mem_cons_of_mem _ hy))
  unfold joinAll orN
  rw [if_pos (List.all_eq_true.2 fun x hx => decide_eq_true (h x hx).1)]
  exact key xs 0 (by omega) h
theorem orL_orN (rings b : List Int) : orL rings b = orN (b.map fun i => rings.getD i.toNat 0) := by
  unfold orL orN
  rw [List.foldl_map]
  rfl
theorem mast_mem {H : Int} {ds : List GDoor} {x : Int} : ∀ (rs : List Int) (k : Nat) (M : List Int), rs.all (ringB H ds) = true → (x ∈ mastG H ds k M rs ↔ x ∈ M ∨ ∃ (j : Nat) (r : Int), rs[j]? = some r ∧ x = (k : Int) + j ∧ fullB H ds r = true)
  | [], k, M, _ => by simp [mastG]
  | r :: rs, k, M, h => by
    rw [List.all_cons, Bool.and_eq_true] at h
    unfold mastG
    rw [if_pos h.1]
    refine (mast_mem rs (k + 1) _ h.2).trans ?_
    have e1 : (x ∈ (if fullB H ds r = true then M ++ [(k : Int)] else M)) ↔ (x ∈ M ∨ (x = k ∧ fullB H ds r = true)) := by
      split
      · rename_i hf; simp [hf]
      · rename_i hf; simp [hf]
    rw [e1]
    constructor
    · rintro ((h1 | ⟨h1, h2⟩) | ⟨j, q, h1, h2, h3⟩)
      · exact .inl h1
      · exact .inr ⟨0, r, by simp, by omega, h2⟩
      · exact .inr ⟨j + 1, q, by simpa using h1, by omega, h3⟩
    · rintro (h1 | ⟨j, q, h1, h2, h3⟩)
      · exact .inl (.inl h1)
      · cases j with
        | zero => simp at h1; subst h1; exact .inl (.inr ⟨by omega, h3⟩)
        | succ j => exact .inr ⟨j, q, by simpa using h1, by omega, h3⟩
theorem mast_has {H : Int} {ds : List GDoor} {rings : List Int} (h : rings.all (ringB H ds) = true) {k : Nat} {r : Int} (hk : rings[k]? = some r) : decide ((k : Int) ∈ mastL H ds rings) = fullB H ds r := by
  unfold mastL
  rw [Bool.eq_iff_iff, decide_eq_true_eq, mast_mem rings 0 [] h]
  constructor
  · rintro (h1 | ⟨j, q, h1, h2, h3⟩)
    · cases h1
    · have : j = k := by omega
      subst this
      rw [hk] at h1
      injection h1 with h1
      rw [h1]; exact h3
  · intro h1
    exact .inr ⟨k, r, hk, by omega, h1⟩
theorem all_listsK {n : Nat} (h : n ≤ 6) : (∀ x ∈ allL n, ∀ y ∈ x, 0 ≤ y ∧ y < (n : Int)) ∧ (∀ x ∈ allL n, ∀ k, k < x.length → 1 < x.length → x.eraseIdx k ∈ allL n) ∧ (0 < n → ((List.range n).map fun (k : Nat) => (k : Int)) ∈ allL n) := by
  have h7 : n = 0 ∨ n = 1 ∨ n = 2 ∨ n = 3 ∨ n = 4 ∨ n = 5 ∨ n = 6 := by omega
  rcases h7 with rfl | rfl | rfl | rfl | rfl | rfl | rfl <;> exact ⟨by decide +kernel, by decide +kernel, by decide +kernel⟩
theorem range_rings (rings : List Int) : ((List.range rings.length).map fun (k : Nat) => (k : Int)).map (fun i : Int => rings.getD i.toNat 0) = rings := by
  rw [List.map_map]
  apply List.ext_getElem (by simp)
  intro i h1 h2
  simp [h2]
/-- The rings of the keepers. -/
def someK (rings c : List Int) : List Int := c.map fun i => rings.getD i.toNat 0
/-- What the law asks of the fewest keepers. -/
theorem keep_law {h : Nat} {ds : List GDoor} {rings : List Int} (hB : houseB h ds = true) (h6 : rings.length ≤ 6) (hall : rings.all (ringB h ds) = true) (h1 : 1 ≤ h) :
    (leastK h ds rings = [] → h = 1 ∨ fullB h ds ((orN rings : Nat) : Int) = false) ∧
    (leastK h ds rings ≠ [] → fullB h ds ((orN (someK rings (leastK h ds rings)) : Nat) : Int) = true ∧
      ∀ k, k < (leastK h ds rings).length → 1 < (leastK h ds rings).length → fullB h ds ((orN ((someK rings (leastK h ds rings)).take k ++ (someK rings (leastK h ds rings)).drop (k + 1)) : Nat) : Int) = false) ∧
    (∀ y ∈ leastK h ds rings, 0 ≤ y ∧ y < (rings.length : Int)) ∧ (leastK h ds rings).length ≤ 6 := by
  by_cases hh : h = 1
  · have e : leastK h ds rings = [] := leastK_no (by rw [hh]; simp)
    rw [e]
    exact ⟨fun _ => .inl hh, fun h => absurd rfl h, fun y hy => (by cases hy), by simp⟩
  obtain ⟨a1, a2, a3⟩ := all_listsK h6
  obtain ⟨s1, s2, s3, s4⟩ := sets_all h6
  have hf : leastK h ds rings = ((allL rings.length).find? (keepP h ds rings)).getD [] := by rw [leastK_yes hB h6 hall hh h1, best_eq h6]
  obtain ⟨c, hc⟩ : ∃ c, c = leastK h ds rings := ⟨_, rfl⟩
  rw [← hc] at hf ⊢
  have hkp : ∀ b, keepP h ds rings b = fullB h ds ((orN (someK rings b) : Nat) : Int) := fun b => by unfold keepP someK; rw [orL_orN]
  cases he : (allL rings.length).find? (keepP h ds rings) with
  | none =>
    rw [he] at hf
    simp only [Option.getD_none] at hf
    subst hf
    refine ⟨fun _ => .inr ?_, fun h => absurd rfl h, fun y hy => (by cases hy), by simp⟩
    by_cases hn : rings.length = 0
    · have : rings = [] := List.length_eq_zero_iff.1 hn
      rw [this]
      have h0 : fullB (h : Int) ds ((0 : Nat) : Int) = (h == 1) := full_zero h ds h1
      have h2 : orN [] = 0 := rfl
      rw [h2, h0]
      simpa using hh
    · have h2 := List.find?_eq_none.1 he _ (a3 (by omega))
      rw [hkp] at h2
      unfold someK at h2
      rw [range_rings] at h2
      simpa using h2
  | some b =>
    rw [he] at hf
    simp only [Option.getD_some] at hf
    subst hf
    have hm := List.mem_of_find?_eq_some he
    have hp := List.find?_some he
    rw [hkp] at hp
    have hlen : c.length ≤ 6 := by
      obtain ⟨s, _, rfl⟩ := List.mem_map.1 (s3 c hm)
      have h2 := List.length_filter_le (fun k => (s >>> k) % 2 == 1) (List.range rings.length)
      unfold bitsL
      rw [List.length_map]
      rw [List.length_range] at h2
      omega
    refine ⟨fun h => absurd h (s2 c hm), fun _ => ⟨hp, fun k hk hk1 => ?_⟩, a1 c hm, hlen⟩
    have he2 : (someK rings c).take k ++ (someK rings c).drop (k + 1) = someK rings (c.eraseIdx k) := by
      unfold someK
      rw [List.eraseIdx_eq_take_drop_succ, List.map_append, List.map_take, List.map_drop]
    rw [he2, ← hkp]
    have hx := a2 c hm k hk hk1
    have hl : ltr (c.eraseIdx k) c = true := by
      unfold ltr
      rw [List.length_eraseIdx, if_pos hk, decide_eq_true (by omega)]
      rfl
    obtain ⟨ps, qs, e1, e2⟩ := (List.find?_eq_some_iff_append.1 he).2
    rw [e1] at hx
    rcases List.mem_append.1 hx with hx | hx
    · have := e2 _ hx
      simpa using this
    · rcases List.mem_cons.1 hx with hx | hx
      · exfalso
        have := congrArg List.length hx
        rw [List.length_eraseIdx, if_pos hk] at this
        omega
      · exfalso
        rw [e1] at s1
        have := (List.pairwise_cons.1 (List.pairwise_append.1 s1).2.1).1 _ hx
        exact ltr_asymm this hl
end Go.Proofs.Ytfhibjehnoibeaa
/- The law FnKeys, walked; no condition but what stands at each theorem. -/
namespace Go.Proofs.Ytfhibjehnoibeaa
set_option linter.unusedSimpArgs false
set_option linter.unusedVariables false
open Go.RowKit Go.Sort
/-- A row is appended to one of the call's own in a drawn region, where the operation's guard is held. -/
theorem step_appG {P : Program} {ops : Array Oper} {o : Oper} {a : Act} {K : Act → World → Prop} {Q : Exit → Act → World → Prop} {E : Prop} {t e : TypeId} {m : Nat} (hE : EI P t e m) (hw : Region.wanted o (yielded ops a.tmps) = true) (s x : Operand)
    (ho : o.op = .call { callee := .builtin .append, args := #[s, x], argTypes := #[t, t] }) (base : Nat) (W : World) (v : Value) (n : Nat) (xs : List Value) (hs : a.eval s = v) (hown : W.ownsRow base e m v n xs)
    (A : Option Addr) (k c : Nat) (ys : List Value) (hx : a.eval x = .slice A k c) (hr : Rd W m A k ys) (hA : A = none → c = 0) (h1 : ∀ u ∈ ys, u.oneCell' = true) (hn : n + k ≤ 1073741824) (hbase : base ≤ W.heap.size)
    (h : ∀ v' w1, w1.ownsRow base e m v' (n + k) (xs ++ ys) → W.grownBy w1 v.ownBlock → (∀ g, v'.ownBlock = some g → v.ownBlock = some g ∨ W.heap.size ≤ g) → K (a.put o.dst v') w1) :
    if Region.wanted o (yielded ops a.tmps) = true then Oper.wp P o a W K Q else E := by
  rw [if_pos hw]
  exact wp_appAt hE s x ho base W v n xs hs hown A k c ys hx hr hA h1 hn hbase h
theorem one_intsK (xs : List Int) : ∀ u ∈ xs.flatMap ienc, u.oneCell' = true := by
  intro u hu
  obtain ⟨x, -, hx⟩ := List.mem_flatMap.1 hu
  simp [ienc] at hx
  subst hx
  rfl
theorem rd_takeK {w : World} {b off n : Nat} {xs : List Int} (h : Rd w 1 (some ⟨b, off, none⟩) n (xs.flatMap ienc)) {k : Nat} (hk : k ≤ n) (hl : xs.length = n) : Rd w 1 (some ⟨b, off, none⟩) k ((xs.take k).flatMap ienc) := by
  refine ⟨by rw [flat_len ienc 1 ienc_len, List.length_take]; omega, by have := h.2.1; omega, fun hn => ?_⟩
  obtain ⟨b', off', e1, h2, h3⟩ := h.2.2 (by omega)
  refine ⟨b', off', e1, h2, fun j u hu => h3 j u ?_⟩
  conv => lhs; rw [← List.take_append_drop k xs]
  rw [List.flatMap_append, List.getElem?_append_left (List.getElem?_eq_some_iff.1 hu).1]
  exact hu
theorem rd_dropK {w : World} {b off n : Nat} {xs : List Int} (h : Rd w 1 (some ⟨b, off, none⟩) n (xs.flatMap ienc)) {k : Nat} (hk : k ≤ n) (hl : xs.length = n) : Rd w 1 (some ⟨b, off + k, none⟩) (n - k) ((xs.drop k).flatMap ienc) := by
  refine ⟨by rw [flat_len ienc 1 ienc_len, List.length_drop]; omega, by have := h.2.1; omega, fun hn => ?_⟩
  obtain ⟨b', off', e1, h2, h3⟩ := h.2.2 (by omega)
  injection e1 with e1
  injection e1 with e1 e2
  subst e1
  subst e2
  refine ⟨b, off + k, rfl, h2, fun j u hu => ?_⟩
  have hl2 : ((xs.take k).flatMap ienc).length = k := by rw [flat_len ienc 1 ienc_len, List.length_take]; omega
  have := h3 (k + j) u (by
    conv => lhs; rw [← List.take_append_drop k xs]
    rw [List.flatMap_append, List.getElem?_append_right (by omega), hl2, Nat.add_sub_cancel_left]
    exact hu)
  rw [Nat.add_assoc]
  exact this
theorem rd_zeroK {w : World} {A : Option Addr} : Rd w 1 A 0 (([] : List Int).flatMap ienc) := ⟨by simp, by omega, fun h => absurd h (by omega)⟩
theorem some_snoc {rings K : List Int} {k q : Nat} {x : Int} (hk : K[k]? = some (q : Int)) (hx : rings[q]? = some x) : (someK rings (K.take (k + 1))).flatMap ienc = (someK rings (K.take k)).flatMap ienc ++ ienc x := by
  unfold someK
  rw [take_snoc hk, List.map_append, List.flatMap_append]
  simp [hx]
theorem ring_ok {H : Int} {ds : List GDoor} (hB : houseB H ds = true) {r : Nat} (h : r < 2 ^ ds.length) : ringB H ds (r : Int) = true := by
  unfold ringB
  rw [hB, Bool.true_and]
  unfold inB
  generalize 2 ^ ds.length = q at h ⊢
  simp only [Bool.and_eq_true, decide_eq_true_eq]
  omega
theorem halls_yes {H : Nat} {ds : List GDoor} (h1 : 1 ≤ H) (h7 : H ≤ 7) {r : Nat} (h : ringB (H : Int) ds (r : Int) = true) : hallsWL (H : Int) ds 0 (r : Int) = hallsL ds H 0 r := by
  unfold hallsWL
  have hh : hallB (H : Int) 0 = true := by
    have e : wrap64 ((H : Int) - 1) = (H : Int) - 1 := IntWalk.wrap64_in _ ⟨by omega, by omega⟩
    simp only [hallB, e, inB, Bool.and_eq_true, decide_eq_true_eq]
    omega
  rw [h, hh, Bool.and_self, if_pos rfl]
  rfl
theorem full_len {H : Nat} {ds : List GDoor} {r : Nat} : (((hallsL ds H 0 r).length : Int) == (H : Int)) = fullB (H : Int) ds (r : Int) := by
  unfold fullB
  rw [Bool.eq_iff_iff]
  simp only [Int.toNat_natCast, beq_iff_eq]
  omega
set_option maxRecDepth 100000 in
set_option maxHeartbeats 8000000 in
theorem law_FnKeys (A : Option Addr) (n c : Nat) (bs : List UInt8) (w : World) (hx : Rd w 1 A n (bs.flatMap bencU)) :
    Calls Try.prog 3 #[.slice A n c] w fun e w' => e = .returned (.bool true) ∧ Ext w w' := by
  by_cases hbig : 1048576 < n
  case pos =>
    go_enter Try.func3, Try.ntmps3
    go_wp2_with (refine (laws_big A n c _).mono ?_; rintro e w1 ⟨he, rfl⟩; rw [decide_eq_true hbig] at he; subst he)
    go_ret
    exact ⟨rfl, Ext.refl _⟩
  case neg =>
  have hxb := rd_bytes hx
  have hbd := bytes_bd bs
  obtain ⟨xs, hxs⟩ : ∃ xs, xs = bs.map fun b => (b.toNat : Int) := ⟨_, rfl⟩
  rw [← hxs] at hxb hbd
  clear hxs hx
  have cD := Lib.hid (spec_DrawRings A n c xs w hxb hbd (by omega))
  have HXB := Lib.hid hxb
  have HBD := Lib.hid hbd
  have hn20 : n ≤ 1048576 := by omega
  clear hxb hbd
  go_enter Try.func3, Try.ntmps3
  go_wp2_with (go_at_call 4; refine (fun h : Hid _ => h.out) ?_)
  unfold Hid
  refine (laws_big A n c _).mono ?_
  rintro e w0 ⟨he, rfl⟩
  rw [decide_eq_false hbig] at he
  subst he
  go_wp2_with (go_at_call 5; refine (fun h : Hid _ => h.out) ?_)
  unfold Hid
  refine (cD.out).mono ?_
  rintro e w1 ⟨H, Ad, nd, cd, ds, Ar, cr, rings, rfl, hB, hH, hnd, hd, hr, hr5, hrm, he1⟩
  have h12 : nd ≤ 12 := by have := (houseB_spec hB).2.2.1; omega
  have h4 := pow_12 h12
  rw [hnd] at hrm h4
  have hrn : ∀ x ∈ rings, 0 ≤ x ∧ x ≤ 4095 := fun x hx => by
    have := hrm x hx
    generalize 2 ^ ds.length = q at this h4
    omega
  have hrt : ∀ x ∈ rings, x.toNat < 2 ^ ds.length := fun x hx => by
    have := hrm x hx
    generalize 2 ^ ds.length = q at this h4 ⊢
    omega
  obtain ⟨R, hR⟩ : ∃ R, R = orN rings := ⟨_, rfl⟩
  have hRj : joinAll rings = (R : Int) := by rw [hR]; exact join_orN hrn
  have hRr : ringB (H : Int) ds (R : Int) = true := ring_ok hB (by rw [hR]; exact orN_lt hrt)
  have hrr : ∀ (r : Nat), (r : Int) ∈ rings → ringB (H : Int) ds (r : Int) = true := fun r h => ring_ok hB (by have := hrt _ h; simpa using this)
  have hall : rings.all (ringB (H : Int) ds) = true := List.all_eq_true.2 fun x hx => by
    obtain ⟨r, rfl⟩ := Int.eq_ofNat_of_zero_le (hrm x hx).1
    exact hrr r hx
  have h0r : ringB (H : Int) ds ((0 : Nat) : Int) = true := ring_ok hB (Nat.two_pow_pos _)
  obtain ⟨k1, k2, k3, k4⟩ := keep_law (h := H) (ds := ds) (rings := rings) hB (by omega) hall hH.1
  obtain ⟨K, hK⟩ : ∃ K, K = leastK (H : Int) ds rings := ⟨_, rfl⟩
  rw [← hK] at k1 k2 k3 k4
  rw [← hR] at k1
  obtain ⟨nk, hnk⟩ : ∃ nk, nk = K.length := ⟨_, rfl⟩
  rw [← hnk] at k2 k4
  obtain ⟨nr, hnr⟩ : ∃ nr, nr = rings.length := ⟨_, rfl⟩
  rw [← hnr] at hr hr5 k3 ⊢
  have hH7 := hH.2
  have hH1 := hH.1
  have HSUB : Hid (∀ x ∈ someK rings K, x ∈ rings) := Lib.hid (by
    intro x hx
    obtain ⟨i, hi, rfl⟩ := List.mem_map.1 hx
    have := k3 i hi
    rw [List.getD_eq_getElem?_getD, List.getElem?_eq_getElem (by omega)]
    exact List.getElem_mem _)
  obtain ⟨w2, hw2⟩ : ∃ w2, w2 = w1.alloc (.cells #[.int .i64 (H : Int), .slice Ad nd cd] 26) := ⟨_, rfl⟩
  have hE2 : Ext w1 w2 := by rw [hw2]; exact (Ext.refl _).alloc _
  obtain ⟨gh, hgh⟩ : ∃ gh, gh = w1.heap.size := ⟨_, rfl⟩
  have HBh : Hid (Blk w2 gh 26 #[.int .i64 (H : Int), .slice Ad nd cd]) := Lib.hid (by rw [hgh, hw2]; exact Blk.new _ _ _)
  have HE2 := Lib.hid (he1.trans hE2)
  have HD := Lib.hid (hd.keep hE2)
  have HR := Lib.hid (hr.keep hE2)
  have HW2 := Lib.hid hw2
  have HGH := Lib.hid hgh
  have hg2 : gh < w2.heap.size := HBh.out.lt
  have cF : Hid (Calls Try.prog 6 #[.agg #[.int .i64 (H : Int), .slice Ad nd cd], .slice Ar nr cr] w2 (OwnL K w2)) := Lib.hid (by rw [hK]; exact impl_FewestKeepers (H : Int) Ad nd cd ds Ar nr cr rings w2 HD.out HR.out (by omega))
  have cJ : Hid (∀ W, Ext w2 W → Calls Try.prog 7 #[.slice Ar nr cr] W fun e w' => e = .returned (.int .i64 (R : Int)) ∧ Ext W w') := Lib.hid (fun W h => by
    have k := impl_JoinRings Ar nr cr rings W (HR.out.keep h)
    rw [hRj] at k
    exact k)
  have cH : Hid (∀ (r : Nat) W, ringB (H : Int) ds (r : Int) = true → Ext w2 W → Calls Try.prog 8 #[.agg #[.int .i64 (H : Int), .slice Ad nd cd], .int .i64 0, .int .i64 (r : Int)] W (OwnL (hallsL ds H 0 r) W)) := Lib.hid (fun r W hr h => by
    have k := impl_HallsWith (H : Int) Ad nd cd ds 0 (r : Int) W (HD.out.keep h)
    rw [halls_yes hH1 hH7 hr] at k
    exact k)
  have cM : Hid (∀ W, Ext w2 W → Calls Try.prog 10 #[.agg #[.int .i64 (H : Int), .slice Ad nd cd], .slice Ar nr cr] W (OwnL (mastL (H : Int) ds rings) W)) := Lib.hid (fun W h => impl_MasterRings (H : Int) Ad nd cd ds Ar nr cr rings W (HD.out.keep h) (HR.out.keep h) (by omega))
  have cO : Hid (∀ W, Ext w2 W → Calls Try.prog 11 #[.agg #[.int .i64 (H : Int), .slice Ad nd cd], .int .i64 (R : Int)] W fun e w' => e = .returned (.bool true) ∧ Ext W w') := Lib.hid (fun W h => by
    have k := impl_RingOk (H : Int) Ad nd cd ds (R : Int) W (HD.out.keep h)
    rw [hRr] at k
    exact k)
  obtain ⟨OL, hOL⟩ : ∃ L, L = hallsL ds H 0 R := ⟨_, rfl⟩
  have hO7 : OL.length ≤ H := by rw [hOL]; exact hallsL_len ds H 0 R
  have hin : ∀ (r : Nat), (r : Int) ∈ rings → ∀ x ∈ hallsL ds H 0 r, x ∈ OL := fun r h x hx => by
    rw [hOL, hR]
    exact halls_mono hH1 (fun i hi => orN_one h i (by simpa using hi)) hx
  have hofull : ((OL.length : Int) == (H : Int)) = fullB (H : Int) ds (R : Int) := by rw [hOL]; exact full_len
  have HOF := Lib.hid hofull
  have HRR := Lib.hid hRr
  have HRO := Lib.hid hrr
  have HALL := Lib.hid hall
  have H0R := Lib.hid h0r
  have K1 := Lib.hid k1
  have K2 := Lib.hid k2
  have K3 := Lib.hid k3
  have HNK := Lib.hid hnk
  have HNR := Lib.hid hnr
  have HIN := Lib.hid hin
  have HOL := Lib.hid hOL
  have HRM := Lib.hid hrm
  have HBB := Lib.hid hB
  have HRN := Lib.hid hrn
  have HRT := Lib.hid hrt
  clear hw2 hE2 hgh hd hr he1 hB hH hnd hrm hrn hrt hR hRj hRr hrr hall h0r k1 k2 k3 hK hnk hnr hOL hofull hin h4 cD
  go_upto_region 4 with fail
  rw [← HW2.out, ← HGH.out]
  have B := HBh.out.keep (Ext.refl _)
  have b0 := B.cellAt (i := 0) (by simp)
  have b1 := B.cellAt (i := 1) (by simp)
  simp at b0 b1
  clear B
  go_wp2_with (go_at_call 6; refine (fun h : Hid _ => h.out) ?_)
  unfold Hid
  refine cF.out.mono ?_
  rintro e w3 ⟨vk, rfl, he3, hok⟩
  obtain ⟨Ak, ck, rfl, -⟩ := own_form hok
  rw [← HNK.out] at hok ⊢
  have HE23 := Lib.hid he3
  have HKR := Lib.hid (Rd.of_own hok)
  clear he3 hok b0 b1 cF
  go_wp2_with (go_at_call 7; refine (fun h : Hid _ => h.out) ?_)
  unfold Hid
  refine (cJ.out _ HE23.out).mono ?_
  rintro e w4 ⟨rfl, he4⟩
  have HE24 := Lib.hid (HE23.out.trans he4)
  have HE34 := Lib.hid he4
  clear he4 cJ
  have B := HBh.out.keep HE24.out
  have b0 := B.cellAt (i := 0) (by simp)
  have b1 := B.cellAt (i := 1) (by simp)
  simp at b0 b1
  clear B
  go_wp2_with (go_at_call 8; refine (fun h : Hid _ => h.out) ?_)
  unfold Hid
  refine (cH.out R _ HRR.out HE24.out).mono ?_
  rintro e w5 ⟨vo, rfl, he5, hoo⟩
  obtain ⟨Ao, co, rfl, -⟩ := own_form hoo
  rw [← HOL.out] at hoo ⊢
  obtain ⟨no, hno⟩ : ∃ no, no = OL.length := ⟨_, rfl⟩
  rw [← hno] at hoo hO7 ⊢
  have HNO := Lib.hid hno
  have HO5 := Lib.hid (Rd.of_own hoo)
  have HE25 := Lib.hid (HE24.out.trans he5)
  have HK5 := Lib.hid (HKR.out.keep (HE34.out.trans he5))
  clear he5 hoo b0 b1 hno
  go_wp2_with fail
  go_loopw [8] (fun iv wr => ∃ (k : Nat), k ≤ nr ∧ iv = .int .i64 k ∧ Hid (Ext w5 wr)) (fun iv _ => nr - (intOf iv).toNat)
  case atStart => exact ⟨0, Nat.zero_le _, rfl, Lib.hid (Ext.refl _)⟩
  case round =>
    obtain ⟨k, hk, rfl, hb⟩ := hrel
    have HE2r := Lib.hid (HE25.out.trans hb.out)
    by_cases hlt : k < nr
    · obtain ⟨br, or_, x, hAr, hbr, hxk, p0⟩ := ienc_at (HR.out.keep HE2r.out) hlt
      subst hAr
      have hxm := List.mem_of_getElem? hxk
      obtain ⟨r, rfl⟩ := Int.eq_ofNat_of_zero_le (HRM.out x hxm).1
      have HRk := Lib.hid (HRO.out r hxm)
      have HINk := Lib.hid (HIN.out r hxm)
      have HXK := Lib.hid hxk
      have j0 : (0 : Int) ≤ (k : Int) := by omega
      have j1 : (k : Int) < (nr : Int) := by omega
      clear hxk hxm
      have B := HBh.out.keep HE2r.out
      have b0 := B.cellAt (i := 0) (by simp)
      have b1 := B.cellAt (i := 1) (by simp)
      simp at b0 b1
      clear B
      have HEp : Hid (∀ W, Ext wr W → W.cell? ⟨br, or_ + k, none⟩ = some (.int .i64 (r : Int))) := Lib.hid (fun W h => (h.cellAt br hbr _).trans p0)
      go_wp2_with fail
      go_region_held3 (fun w' => w'.cell? ⟨gh, 0, none⟩ = some (.int .i64 (H : Int)) ∧ w'.cell? ⟨gh, 1, none⟩ = some (.slice Ad nd cd) ∧ w'.cell? ⟨br, or_ + k, none⟩ = some (.int .i64 (r : Int))) (go_keep) ((go_at_call 8; refine (cH.out r wr.drew HRk.out (HE2r.out.trans (Ext.refl _).drew)).mono ?_; rintro e w6 ⟨vx, rfl, he6, hox⟩; have he6r : Ext wr w6 := Ext.trans (Ext.refl _).drew he6; have B := HBh.out.keep (HE2r.out.trans he6r); have y0 := B.cellAt (i := 0) (by simp); have y1 := B.cellAt (i := 1) (by simp); simp at y0 y1; have yp := HEp.out _ he6r))
      obtain ⟨Ax, cx, rfl, -⟩ := own_form hox
      obtain ⟨XL, hXL⟩ : ∃ L, L = hallsL ds H 0 r := ⟨_, rfl⟩
      have hq : ((XL.length : Int) == (H : Int)) = fullB (H : Int) ds (r : Int) := by rw [hXL]; exact full_len
      have hmh : decide ((k : Int) ∈ mastL (H : Int) ds rings) = fullB (H : Int) ds (r : Int) := mast_has HALL.out HXK.out
      have hXO : ∀ z ∈ XL, z ∈ OL := by rw [hXL]; exact HINk.out
      have hX7 : XL.length ≤ H := by rw [hXL]; exact hallsL_len ds H 0 r
      rw [← hXL] at hox ⊢
      obtain ⟨nx, hnx⟩ : ∃ nx, nx = XL.length := ⟨_, rfl⟩
      rw [← hnx] at hox hq hX7 ⊢
      obtain ⟨bb, hbb⟩ : ∃ b, b = fullB (H : Int) ds (r : Int) := ⟨_, rfl⟩
      rw [← hbb] at hq hmh
      have HX := Lib.hid (Rd.of_own hox)
      have HXO := Lib.hid hXO
      have HQ := Lib.hid hq
      have HMH := Lib.hid hmh
      have HE5q := Lib.hid (hb.out.trans he6r)
      clear hXL hnx hbb hox he6 he6r hXO hq hmh b0 b1 y0 y1 yp B p0 HEp hb
      go_wp2_with fail
      go_loopw [10] (fun iv wq => ∃ (i : Nat), i ≤ nx ∧ iv = .int .i64 i ∧ Hid (Ext w6 wq)) (fun iv _ => nx - (intOf iv).toNat)
      case atStart => exact ⟨0, Nat.zero_le _, rfl, Lib.hid (Ext.refl _)⟩
      case round =>
        obtain ⟨i, hi, rfl, hbq⟩ := hrel
        by_cases hlt2 : i < nx
        · obtain ⟨bx, ox, z, hAx, -, hzk, pz⟩ := ienc_at (HX.out.keep hbq.out) hlt2
          subst hAx
          have hzO := HXO.out z (List.mem_of_getElem? hzk)
          have i0 : (0 : Int) ≤ (i : Int) := by omega
          have i1 : (i : Int) < (nx : Int) := by omega
          have cHas := Lib.hid (laws_hasK Ao no co OL z _ (HO5.out.keep (HE5q.out.trans hbq.out)))
          rw [decide_eq_true hzO] at cHas
          clear hzk hzO
          go_wp2_with (go_at_call 9; refine (fun h : Hid _ => h.out) ?_)
          unfold Hid
          refine cHas.out.mono ?_
          rintro e w7 ⟨rfl, he7⟩
          have HE7 := Lib.hid (hbq.out.trans he7)
          clear he7 pz cHas
          go_wp2_with fail
          go_roundw
          case rel => exact ⟨i + 1, by omega, by go_num, HE7⟩
          case measure => simp [intOf]; omega
        · have HE5z := Lib.hid (HE5q.out.trans hbq.out)
          have HE2z := Lib.hid (HE25.out.trans HE5z.out)
          have B := HBh.out.keep HE2z.out
          have b0 := B.cellAt (i := 0) (by simp)
          have b1 := B.cellAt (i := 1) (by simp)
          simp at b0 b1
          clear B
          have q1 := HQ.out
          go_wp2_with fail
          go_region_held3 (fun w' => w'.cell? ⟨gh, 0, none⟩ = some (.int .i64 (H : Int)) ∧ w'.cell? ⟨gh, 1, none⟩ = some (.slice Ad nd cd)) (go_keep) (first
            | (go_at_call 10; refine (cM.out wr.drew (HE2z.out.trans (Ext.refl _).drew)).mono ?_; rintro e w8 ⟨vm, rfl, he8, hom⟩; have he8r : Ext wr w8 := Ext.trans (Ext.refl _).drew he8; have B := HBh.out.keep (HE2z.out.trans he8r); have y0 := B.cellAt (i := 0) (by simp); have y1 := B.cellAt (i := 1) (by simp); simp at y0 y1; obtain ⟨Am, cm, hvm, hcm⟩ := own_form hom; subst hvm; have cHas := laws_hasK Am _ cm (mastL (H : Int) ds rings) (k : Int) w8 (Rd.of_own hom); rw [HMH.out] at cHas)
            | (go_at_call 9; refine cHas.mono ?_; rintro e w9 ⟨rfl, he9⟩; have he9r : Ext wr w9 := Ext.trans he8r he9; have B2 := HBh.out.keep (HE2z.out.trans he9r); have u0 := B2.cellAt (i := 0) (by simp); have u1 := B2.cellAt (i := 1) (by simp); simp at u0 u1))
          have HE9 := Lib.hid (HE5z.out.trans he9r)
          clear he9 he9r he8 he8r hom hcm cHas B B2 y0 y1 u0 u1 b0 b1
          cases bb
          all_goals
            go_wp2_with fail
            go_roundw
            case rel => exact ⟨k + 1, by omega, by go_num, HE9⟩
            case measure => simp [intOf]; omega
    · by_cases h0 : nk = 0
      · have hKn : K = [] := List.eq_nil_of_length_eq_zero (by have := HNK.out; omega)
        have hor := K1.out hKn
        have e0 : ((nk : Int) == 0) = true := by rw [h0]; rfl
        have e0' : (nk : Int) = 0 := by omega
        have hE1 : ((H : Int) == 1) = true ∨ ((H : Int) == 1) = false ∧ no < H := by
          rcases hor with h | h
          · exact .inl (by rw [h]; rfl)
          · by_cases h1 : H = 1
            · exact .inl (by rw [h1]; rfl)
            · refine .inr ⟨beq_false_of_ne (by omega), ?_⟩
              have h2 := HOF.out
              rw [h, ← HNO.out] at h2
              have h3 : ¬ (no : Int) = (H : Int) := by intro h4; rw [h4] at h2; simp at h2
              omega
        have HE1 := Lib.hid hE1
        have hzz := Lib.hid (zero_open (ds := ds) (h := H) (r := 0) hH1)
        have cZ := Lib.hid (cH.out 0)
        clear hKn hor h0 hE1
        have B := HBh.out.keep HE2r.out
        have b0 := B.cellAt (i := 0) (by simp)
        have b1 := B.cellAt (i := 1) (by simp)
        simp at b0 b1
        clear B
        rcases HE1.out with e1 | ⟨e1, e2⟩
        all_goals
          (try have e3 : (no : Int) < (H : Int) := by omega)
          go_wp2_with (go_at_call 8; refine (fun h : Hid _ => h.out) ?_)
          unfold Hid
          refine (cZ.out _ H0R.out HE2r.out).mono ?_
          rintro e w6 ⟨vz, rfl, he6, hoz⟩
          obtain ⟨Az, cz, rfl, -⟩ := own_form hoz
          have cHas := Lib.hid (laws_hasK Az _ cz _ 0 w6 (Rd.of_own hoz))
          rw [decide_eq_true hzz.out] at cHas
          have HE6 := Lib.hid (HE2r.out.trans he6)
          clear he6 hoz b0 b1
          go_wp2_with (go_at_call 9; refine (fun h : Hid _ => h.out) ?_)
          unfold Hid
          refine cHas.out.mono ?_
          rintro e w7 ⟨rfl, he7⟩
          have HE7 := Lib.hid (HE2.out.trans (HE6.out.trans he7))
          clear he7
          go_wp2_with fail
          go_ret
          exact ⟨rfl, HE7.out⟩
      · have e0 : ((nk : Int) == 0) = false := beq_false_of_ne (by omega)
        have e0' : ¬ (nk : Int) = 0 := by omega
        have hKn : K ≠ [] := fun h => h0 (by rw [HNK.out, h]; rfl)
        obtain ⟨hfull, hless⟩ := K2.out hKn
        have HKr := Lib.hid (HK5.out.keep hb.out)
        obtain ⟨wl, rfl⟩ : ∃ x, x = wr := ⟨_, rfl⟩
        obtain ⟨w6, hw6⟩ : ∃ w6, w6 = wl.alloc (.cells #[] 3) := ⟨_, rfl⟩
        have he6 : Ext wl w6 := by rw [hw6]; exact (Ext.refl _).alloc _
        have HO6 : Hid (w6.ownsRow wl.heap.size 3 1 (.slice (some ⟨wl.heap.size, 0, none⟩) 0 0) 0 []) := Lib.hid (by rw [hw6]; exact own_empty wl wl.heap.size 3 1 (Nat.le_refl _))
        have HE6 := Lib.hid he6
        have HW6 := Lib.hid hw6
        have HFULL := Lib.hid hfull
        have HLESS := Lib.hid hless
        clear hw6 he6 hKn hfull hless hb
        go_upto_region 21 with fail
        rw [← HW6.out]
        go_wp2_with fail
        go_loopw [11, 12] (fun ov iv wr => ∃ (k : Nat), k ≤ nk ∧ iv = .int .i64 k ∧ Hid (wr.ownsRow wl.heap.size 3 1 ov k ((someK rings (K.take k)).flatMap ienc)) ∧ Hid (Ext wl wr)) (fun _ iv _ => nk - (intOf iv).toNat)
        case atStart => exact ⟨0, Nat.zero_le _, rfl, HO6, HE6⟩
        case round =>
          obtain ⟨i, hi, rfl, hown, hbq⟩ := hrel
          have HE2z := Lib.hid (HE2r.out.trans hbq.out)
          by_cases hlt2 : i < nk
          · obtain ⟨bk, ok, y, hAk, -, hyk, py⟩ := ienc_at (HKr.out.keep hbq.out) hlt2
            subst hAk
            have hy3 := K3.out y (List.mem_of_getElem? hyk)
            obtain ⟨q, rfl⟩ := Int.eq_ofNat_of_zero_le hy3.1
            have hq : q < nr := by omega
            obtain ⟨br, or_, x, hAr, hbr, hxq, px⟩ := ienc_at (HR.out.keep HE2z.out) hq
            subst hAr
            have HSN := Lib.hid (some_snoc hyk hxq)
            have i0 : (0 : Int) ≤ (i : Int) := by omega
            have i1 : (i : Int) < (nk : Int) := by omega
            have i2 : (0 : Int) ≤ (q : Int) := by omega
            have i3 : (q : Int) < (nr : Int) := by omega
            have i4 : ¬ nr ≤ q := by omega
            have i5 : ¬ (nr : Int) ≤ (q : Int) := by omega
            have i6 : ¬ (q : Int) < 0 := by omega
            have hsz := hbq.out.size
            have hbq2 : wl.heap.size ≤ wr.heap.size := hsz
            clear hyk hxq hy3 hsz
            go_wp2_with (at_builtin; refine (fun h : Hid _ => h.out) ?_)
            unfold Hid
            refine append1 ei_IntK rfl _ _ rfl wl.heap.size wr _ _ i _ (by rfl) hown.out (ienc x) (by rfl) rfl (by intro u hu; simp [ienc] at hu; subst hu; rfl) (by omega) hbq2 ?_
            intro v' wA hoA heA
            have HOA := Lib.hid hoA
            have HEA := Lib.hid (heA wl hbq.out (Nat.le_refl _))
            clear hoA heA py px
            go_wp2_with fail
            go_roundw
            case rel => exact ⟨i + 1, by omega, by go_num, by unfold Hid; rw [HSN.out]; exact HOA.out, HEA⟩
            case measure => simp [intOf]; omega
          · obtain rfl : i = nk := by omega
            rw [List.take_of_length_le (by have := HNK.out; omega)] at hown
            obtain ⟨As, cs, rfl, hcs⟩ := own_form hown.out
            have ho := hown.out
            rcases own_block ho with ⟨_, h9, _⟩ | ⟨gs, cur, rfl, _⟩
            · exact absurd h9 h0
            obtain ⟨S, hS⟩ : ∃ S, S = someK rings K := ⟨_, rfl⟩
            rw [← hS] at ho HFULL HLESS HSUB
            have hSl : S.length = i := by rw [hS, HNK.out]; unfold someK; simp
            have HSL := Lib.hid hSl
            have RS := Lib.hid (Rd.of_own ho)
            have hSr : ∀ (L : List Int), (∀ x ∈ L, x ∈ S) → ringB (H : Int) ds ((orN L : Nat) : Int) = true ∧ joinAll L = ((orN L : Nat) : Int) := fun L hL =>
              ⟨ring_ok HBB.out (orN_lt fun x hx => HRT.out x (HSUB.out x (hL x hx))), join_orN fun x hx => HRN.out x (HSUB.out x (hL x hx))⟩
            have HSR := Lib.hid hSr
            clear ho hown hS hSl hSr
            obtain ⟨wt, rfl⟩ : ∃ x, x = wr := ⟨_, rfl⟩
            go_wp2_with fail
            go_loopw [13] (fun iv wr => ∃ (k : Nat), k ≤ i ∧ iv = .int .i64 k ∧ Hid (Ext wt wr)) (fun iv _ => i - (intOf iv).toNat)
            case atStart => exact ⟨0, Nat.zero_le _, rfl, Lib.hid (Ext.refl _)⟩
            case round =>
              obtain ⟨k, hk2, rfl, hb⟩ := hrel
              have HE2w := Lib.hid (HE2z.out.trans hb.out)
              by_cases hlt3 : k < i
              · by_cases hone : 1 < i
                · have hkS : (S.take k ++ S.drop (k + 1)) = S.take k ++ S.drop (k + 1) := rfl
                  obtain ⟨C, hC⟩ : ∃ C, C = orN (S.take k ++ S.drop (k + 1)) := ⟨_, rfl⟩
                  have hsub : ∀ x ∈ S.take k ++ S.drop (k + 1), x ∈ S := fun x hx => by
                    rcases List.mem_append.1 hx with hx | hx
                    · exact List.mem_of_mem_take hx
                    · exact List.mem_of_mem_drop hx
                  obtain ⟨hCr, hCj⟩ := HSR.out _ hsub
                  have hCf := HLESS.out k hlt3 hone
                  rw [← hC] at hCr hCj hCf
                  obtain ⟨CL, hCL⟩ : ∃ L, L = hallsL ds H 0 C := ⟨_, rfl⟩
                  have hq : ((CL.length : Int) == (H : Int)) = false := by rw [hCL, full_len]; exact hCf
                  have cHC : Hid (∀ W, Ext w2 W → Calls Try.prog 8 #[.agg #[.int .i64 (H : Int), .slice Ad nd cd], .int .i64 0, .int .i64 (C : Int)] W (OwnL CL W)) := Lib.hid (fun W h => by rw [hCL]; exact cH.out C W hCr h)
                  have cJC : Hid (∀ W A n c, Rd W 1 A n ((S.take k ++ S.drop (k + 1)).flatMap ienc) → Calls Try.prog 7 #[.slice A n c] W fun e w' => e = .returned (.int .i64 (C : Int)) ∧ Ext W w') := Lib.hid (fun W A n c h => by
                    have q := impl_JoinRings A n c _ W h
                    rw [hCj] at q
                    exact q)
                  have RSk := Lib.hid (RS.out.keep hb.out)
                  have HTk := Lib.hid (((rd_takeK RSk.out (by omega) HSL.out (k := k)).alloc (.cells #[] 3)).drew)
                  have HOe := Lib.hid (own_keep (own_empty wr wr.heap.size 3 1 (Nat.le_refl _)) (Ext.refl _).drew)
                  obtain ⟨ad, had, hadn, hadc⟩ : ∃ ad : Option Addr, (if cs = k + 1 then some (⟨gs, 0, none⟩ : Addr) else some ⟨gs, k + 1, none⟩) = ad ∧ (ad = none → cs - (k + 1) = 0) ∧ ∀ W, Ext wr W → Rd W 1 ad (i - (k + 1)) ((S.drop (k + 1)).flatMap ienc) := by
                    by_cases hck : cs = k + 1
                    · refine ⟨_, if_pos hck, fun h => (by cases h), fun W he => ?_⟩
                      have e1 : i - (k + 1) = 0 := by omega
                      rw [e1, List.drop_of_length_le (by have := HSL.out; omega)]
                      exact rd_zeroK
                    · refine ⟨_, if_neg hck, fun h => (by cases h), fun W he => ?_⟩
                      have h := rd_dropK (RSk.out.keep he) (k := k + 1) (by omega) HSL.out
                      rw [Nat.zero_add] at h
                      exact h
                  have HAD := Lib.hid had
                  have HADC := Lib.hid hadc
                  have HADN := Lib.hid hadn
                  have HQ := Lib.hid hq
                  clear hadc hadn hC hsub hCr hCj hCf hCL hkS
                  have ew : IntKind.i64.wrap ((k : Int) + 1) = (k : Int) + 1 := by rw [IntWalk.i64_in _ (by omega)]
                  have hone2 : (1 : Int) < (i : Int) := by omega
                  have s0 : (0 : Int) ≤ k := by omega
                  have s1 : (k : Int) ≤ cs := by omega
                  have s2 : (0 : Int) ≤ (k : Int) + 1 := by omega
                  have s3 : (k : Int) + 1 ≤ i := by omega
                  have s4 : k ≤ cs := by omega
                  have s5 : k + 1 ≤ i := by omega
                  have hg2w : gh < wr.heap.size := by have := HE2w.out.size; omega
                  have B := HBh.out.keep HE2w.out
                  have b0 := B.cellAt (i := 0) (by simp)
                  have b1 := B.cellAt (i := 1) (by simp)
                  simp at b0 b1
                  clear B
                  go_wp2_with fail
                  go_region_held3 (fun w' => w'.cell? ⟨gh, 0, none⟩ = some (.int .i64 (H : Int)) ∧ w'.cell? ⟨gh, 1, none⟩ = some (.slice Ad nd cd)) (go_keep) (first
                    | (refine step_appG ei_IntK (by first | rfl | (simp [Region.wanted, yielded]; done)) _ _ (by rfl) wr.heap.size (wr.alloc (.cells #[] 3)).drew (.slice (some ⟨wr.heap.size, 0, none⟩) 0 0) 0 [] (by rfl) HOe.out (some ⟨gs, 0, none⟩) k cs ((S.take k).flatMap ienc) (by rfl) HTk.out (fun h => by cases h) (one_intsK _) (by omega) (by show wr.heap.size ≤ (wr.alloc _).heap.size; rw [heap_size_alloc]; omega) ?_; intro v5 w5 ho5 hg5 hv5; have he5 : Ext wr w5 := Ext.grown ((Ext.refl wr).alloc _).drew hg5 (fun q hq => (HOe.out.lt q hq).1); have B := HBh.out.keep (HE2w.out.trans he5); have y0 := B.cellAt (i := 0) (by simp); have y1 := B.cellAt (i := 1) (by simp); simp at y0 y1)
                    | (refine step_appG ei_IntK (by first | rfl | (simp [Region.wanted, yielded]; done)) _ _ (by rfl) wr.heap.size w5 v5 (0 + k) _ (by rfl) ho5 ad (i - (k + 1)) (cs - (k + 1)) ((S.drop (k + 1)).flatMap ienc) (by first | rfl | (rw [← HAD.out]; rfl)) (HADC.out _ he5) HADN.out (one_intsK _) (by omega) he5.size ?_; intro v6 w6 ho6 hg6 hv6; have he6 : Ext wr w6 := Ext.grown he5 hg6 (fun q hq => (ho5.lt q hq).1); have B2 := HBh.out.keep (HE2w.out.trans he6); have z0 := B2.cellAt (i := 0) (by simp); have z1 := B2.cellAt (i := 1) (by simp); simp at z0 z1)
                    | (obtain ⟨A6, c6, hv6, hc6⟩ := own_form ho6; subst hv6; go_at_call 7; refine (cJC.out w6 A6 _ c6 (by simpa using Rd.of_own ho6)).mono ?_; rintro e w7 ⟨rfl, hb7⟩; have he7 : Ext wr w7 := he6.trans hb7; have B3 := HBh.out.keep (HE2w.out.trans he7); have u0 := B3.cellAt (i := 0) (by simp); have u1 := B3.cellAt (i := 1) (by simp); simp at u0 u1)
                    | (go_at_call 8; refine (cHC.out w7 (HE2w.out.trans he7)).mono ?_; rintro e w8 ⟨v8, rfl, hb8, ho8⟩; have he8 : Ext wr w8 := he7.trans hb8; obtain ⟨A8, c8, hv8, hc8⟩ := own_form ho8; subst hv8; have B4 := HBh.out.keep (HE2w.out.trans he8); have t0 := B4.cellAt (i := 0) (by simp); have t1 := B4.cellAt (i := 1) (by simp); simp at t0 t1))
                  have HE8 := Lib.hid (hb.out.trans he8)
                  clear ho5 hg5 hv5 ho6 hg6 he5 he6 hb7 he7 hb8 he8 ho8 B B2 B3 B4 y0 y1 z0 z1 u0 u1 t0 t1 b0 b1
                  go_wp2_with fail
                  go_roundw
                  case rel => exact ⟨k + 1, by omega, by go_num, HE8⟩
                  case measure => simp [intOf]; omega
                · have hone2 : ¬ (1 : Int) < (i : Int) := by omega
                  have hone3 : decide ((1 : Int) < (i : Int)) = false := decide_eq_false hone2
                  go_wp2_with fail
                  (refine wp_region_ext (by kernel_rfl) (by kernel_rfl) ?_; (repeat (go_big_quiet_step (first | fail))); refine wpQuiet_nil ?_)
                  intro w8 he8
                  have HE8 := Lib.hid (hb.out.trans he8)
                  clear he8
                  go_wp2_with fail
                  go_roundw
                  case rel => exact ⟨k + 1, by omega, by go_num, HE8⟩
                  case measure => simp [intOf]; omega
              · obtain ⟨hSr, hSj⟩ := HSR.out S (fun x hx => hx)
                have hSf := HFULL.out
                obtain ⟨C, hC⟩ : ∃ C, C = orN S := ⟨_, rfl⟩
                rw [← hC] at hSr hSj hSf
                obtain ⟨CL, hCL⟩ : ∃ L, L = hallsL ds H 0 C := ⟨_, rfl⟩
                have hq : ((CL.length : Int) == (H : Int)) = true := by rw [hCL, full_len]; exact hSf
                have cHC : Hid (∀ W, Ext w2 W → Calls Try.prog 8 #[.agg #[.int .i64 (H : Int), .slice Ad nd cd], .int .i64 0, .int .i64 (C : Int)] W (OwnL CL W)) := Lib.hid (fun W h => by rw [hCL]; exact cH.out C W hSr h)
                have cJC : Hid (∀ W, Ext wt W → Calls Try.prog 7 #[.slice (some ⟨gs, 0, none⟩) i cs] W fun e w' => e = .returned (.int .i64 (C : Int)) ∧ Ext W w') := Lib.hid (fun W h => by
                  have q := impl_JoinRings (some ⟨gs, 0, none⟩) i cs S W (RS.out.keep h)
                  rw [hSj] at q
                  exact q)
                clear hC hCL hSr hSj hSf
                have B := HBh.out.keep HE2w.out
                have b0 := B.cellAt (i := 0) (by simp)
                have b1 := B.cellAt (i := 1) (by simp)
                simp at b0 b1
                clear B
                go_wp2_with fail
                go_region_held3 (fun w' => w'.cell? ⟨gh, 0, none⟩ = some (.int .i64 (H : Int)) ∧ w'.cell? ⟨gh, 1, none⟩ = some (.slice Ad nd cd)) (go_keep) (first
                  | (go_at_call 7; refine (cJC.out wr.drew (hb.out.trans (Ext.refl _).drew)).mono ?_; rintro e w7 ⟨rfl, hb7⟩; have he7 : Ext wr w7 := Ext.trans (Ext.refl _).drew hb7; have B3 := HBh.out.keep (HE2w.out.trans he7); have u0 := B3.cellAt (i := 0) (by simp); have u1 := B3.cellAt (i := 1) (by simp); simp at u0 u1)
                  | (go_at_call 8; refine (cHC.out w7 (HE2w.out.trans he7)).mono ?_; rintro e w8 ⟨v8, rfl, hb8, ho8⟩; have he8 : Ext wr w8 := he7.trans hb8; obtain ⟨A8, c8, hv8, hc8⟩ := own_form ho8; subst hv8; have B4 := HBh.out.keep (HE2w.out.trans he8); have t0 := B4.cellAt (i := 0) (by simp); have t1 := B4.cellAt (i := 1) (by simp); simp at t0 t1)
                  | (go_at_call 11; refine (cO.out w8 (HE2w.out.trans he8)).mono ?_; rintro e w9 ⟨rfl, hb9⟩; have he9 : Ext wr w9 := he8.trans hb9; have B5 := HBh.out.keep (HE2w.out.trans he9); have r0 := B5.cellAt (i := 0) (by simp); have r1 := B5.cellAt (i := 1) (by simp); simp at r0 r1))
                have HE9 := Lib.hid (HE2.out.trans (HE2w.out.trans he9))
                clear hb7 he7 hb8 he8 ho8 hb9 he9 B3 B4 B5 u0 u1 t0 t1 r0 r1 b0 b1
                go_wp2_with fail
                go_ret
                exact ⟨rfl, HE9.out⟩
end Go.Proofs.Ytfhibjehnoibeaa
