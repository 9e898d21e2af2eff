/- FormatAct of both sides; no condition but what stands at each theorem. -/
import Derived.Test.YtcmbjkidgemdaaaDoorST3
import Derived.Test.YtcmbjkidgemdaaaDoorS1
namespace Go.Proofs.YtcmbjkidgemdaaaDoor
set_option linter.unusedSimpArgs false
set_option linter.unusedVariables false
open Go.RowKit Go.Sort
def wordOf (k : Int) : ByteArray := if k = 1 then ⟨#[119, 97, 108, 107]⟩ else if k = 2 then ⟨#[109, 111, 118, 101]⟩ else if k = 3 then ⟨#[100, 97, 121, 115]⟩ else if k = 4 then ⟨#[97, 117, 100, 105, 116]⟩ else if k = 5 then ⟨#[119, 104, 101, 114, 101]⟩ else ByteArray.empty
def cntOf (k : Int) : Nat := if k = 1 then 2 else if k = 2 then 4 else if k = 3 then 1 else if k = 5 then 1 else 0
/-- The text of an act; empty where it is none. -/
def actT (a : GAct) : ByteArray := if acOk a then numsF (wordOf a.k) ([a.a, a.b, a.c, a.d].take (cntOf a.k)) else ByteArray.empty
theorem ac_cases {a : GAct} (h : acOk a = true) : (a.k = 1 ∨ a.k = 2 ∨ a.k = 3 ∨ a.k = 4 ∨ a.k = 5) ∧ (0 ≤ a.a ∧ a.a ≤ 1000) ∧ (0 ≤ a.b ∧ a.b ≤ 1000) ∧ (0 ≤ a.c ∧ a.c ≤ 1000) ∧ (0 ≤ a.d ∧ a.d ≤ 1000) := by
  unfold acOk at h
  by_cases h1 : a.k = 1
  · simp [h1, inB] at h; omega
  by_cases h2 : a.k = 2
  · simp [h2, inB] at h; omega
  by_cases h3 : a.k = 3
  · simp [h3, inB] at h; omega
  by_cases h5 : a.k = 5
  · simp [h5, inB] at h; omega
  by_cases h4 : a.k = 4
  · simp [h4] at h; omega
  · simp [h1, h2, h3, h4, h5] at h
theorem vals_ok {x y z u : Int} (hx : 0 ≤ x ∧ x ≤ 1000) (hy : 0 ≤ y ∧ y ≤ 1000) (hz : 0 ≤ z ∧ z ≤ 1000) (hu : 0 ≤ u ∧ u ≤ 1000) : ∀ v ∈ ([x, y, z, u] : List Int), 0 ≤ v ∧ v ≤ 1000 := by
  intro v hv
  simp only [List.mem_cons, List.not_mem_nil, or_false] at hv
  rcases hv with rfl | rfl | rfl | rfl <;> assumption
set_option maxRecDepth 100000 in
set_option maxHeartbeats 2000000 in
theorem spec_FormatAct_1 (x y z u : Int) (hx : 0 ≤ x ∧ x ≤ 1000) (hy : 0 ≤ y ∧ y ≤ 1000) (hz : 0 ≤ z ∧ z ≤ 1000) (hu : 0 ≤ u ∧ u ≤ 1000) (hok : acOk ⟨1, x, y, z, u⟩ = true) (w : World) :
    Calls Tryd.prog 13 #[.agg #[.int .i64 1, .int .i64 x, .int .i64 y, .int .i64 z, .int .i64 u]] w fun e w' => e = .returned (.tuple #[.string (numsF ⟨#[119, 97, 108, 107]⟩ ([x, y, z, u].take 2)), .bool true]) ∧ Ext w w' := by
  obtain ⟨wa, hwa⟩ : ∃ wa, wa = w.alloc (.cells #[.int .i64 1, .int .i64 x, .int .i64 y, .int .i64 z, .int .i64 u] 32) := ⟨_, rfl⟩
  have hEa : Ext w wa := by rw [hwa]; exact (Ext.refl w).alloc _
  have hsa : wa.heap.size = w.heap.size + 1 := by rw [hwa]; simp
  have hk0 : wa.cell? ⟨w.heap.size, 0, none⟩ = some (.int .i64 1) := by rw [hwa]; simp [World.cell?_alloc_at]
  have hk1 : wa.cell? ⟨w.heap.size, 1, none⟩ = some (.int .i64 x) := by rw [hwa]; simp [World.cell?_alloc_at]
  have hk2 : wa.cell? ⟨w.heap.size, 2, none⟩ = some (.int .i64 y) := by rw [hwa]; simp [World.cell?_alloc_at]
  have hk3 : wa.cell? ⟨w.heap.size, 3, none⟩ = some (.int .i64 z) := by rw [hwa]; simp [World.cell?_alloc_at]
  have hk4 : wa.cell? ⟨w.heap.size, 4, none⟩ = some (.int .i64 u) := by rw [hwa]; simp [World.cell?_alloc_at]
  have Hk := Lib.hid (And.intro hk0 (And.intro hk1 (And.intro hk2 (And.intro hk3 hk4))))
  have Hwa := Lib.hid hwa
  have HEa := Lib.hid hEa
  have HV := Lib.hid (vals_ok hx hy hz hu)
  obtain ⟨xs, hxs⟩ : ∃ xs : List Int, xs = [x, y, z, u] := ⟨_, rfl⟩
  rw [← hxs] at HV ⊢
  have Hxs := Lib.hid hxs
  have cA := Lib.hid (spec_ActOk ⟨1, x, y, z, u⟩ wa)
  rw [hok] at cA
  clear hwa hEa hk0 hk1 hk2 hk3 hk4 hxs hok hx hy hz hu
  go_enter Tryd.func13, Tryd.ntmps13
  go_wp2_with fail
  rw [← Hwa.out]
  refine cA.out.mono ?_
  rintro e w1 ⟨rfl, hb1⟩
  obtain ⟨k0, k1, k2, k3, k4⟩ := Hk.out
  have hs1 := hb1.size
  replace k0 := (hb1.cellAt w.heap.size (by omega) 0).trans k0
  replace k1 := (hb1.cellAt w.heap.size (by omega) 1).trans k1
  replace k2 := (hb1.cellAt w.heap.size (by omega) 2).trans k2
  replace k3 := (hb1.cellAt w.heap.size (by omega) 3).trans k3
  replace k4 := (hb1.cellAt w.heap.size (by omega) 4).trans k4
  have HE1 := Lib.hid (HEa.out.trans hb1)
  have m0 : w1.heap.size ≠ w.heap.size := by omega
  have l0 : w.heap.size < w1.heap.size := by omega
  clear hb1
  go_wp2_with fail
  obtain ⟨wo, hwo⟩ : ∃ wo, wo = ((w1.alloc (.cells #[.string ⟨#[]⟩, .string ⟨#[119, 97, 108, 107]⟩, .string ⟨#[109, 111, 118, 101]⟩, .string ⟨#[100, 97, 121, 115]⟩, .string ⟨#[97, 117, 100, 105, 116]⟩, .string ⟨#[119, 104, 101, 114, 101]⟩] 9)).alloc (.cells #[.int .i64 0, .int .i64 2, .int .i64 4, .int .i64 1, .int .i64 0, .int .i64 1] 3)).alloc (.cells #[.int .i64 x, .int .i64 y, .int .i64 z, .int .i64 u] 3) := ⟨_, rfl⟩
  have hEo : Ext w1 wo := by rw [hwo]; exact (((Ext.refl w1).alloc _).alloc _).alloc _
  have hr : Rd wo 1 (some ⟨w1.heap.size + 1 + 1, 0, none⟩) 4 (xs.flatMap ienc) := by
    have := rd_lit ((w1.alloc (.cells #[.string ⟨#[]⟩, .string ⟨#[119, 97, 108, 107]⟩, .string ⟨#[109, 111, 118, 101]⟩, .string ⟨#[100, 97, 121, 115]⟩, .string ⟨#[97, 117, 100, 105, 116]⟩, .string ⟨#[119, 104, 101, 114, 101]⟩] 9)).alloc (.cells #[.int .i64 0, .int .i64 2, .int .i64 4, .int .i64 1, .int .i64 0, .int .i64 1] 3)) 3 [x, y, z, u] (by simp)
    rw [show ((w1.alloc (.cells #[.string ⟨#[]⟩, .string ⟨#[119, 97, 108, 107]⟩, .string ⟨#[109, 111, 118, 101]⟩, .string ⟨#[100, 97, 121, 115]⟩, .string ⟨#[97, 117, 100, 105, 116]⟩, .string ⟨#[119, 104, 101, 114, 101]⟩] 9)).alloc (.cells #[.int .i64 0, .int .i64 2, .int .i64 4, .int .i64 1, .int .i64 0, .int .i64 1] 3)).heap.size = w1.heap.size + 1 + 1 by simp] at this
    rw [hwo, Hxs.out]; exact this
  rw [← hwo]
  have HR := Lib.hid hr
  have HEo := Lib.hid (HE1.out.trans hEo)
  have hl : Hid (xs.length = 4) := by unfold Hid; rw [Hxs.out]; rfl
  clear hr hwo hEo k0 k1 k2 k3 k4
  go_loopw [4, 7] (fun s i wr => ∃ (k : Nat) (t : ByteArray), k ≤ 2 ∧ i = .int .i64 k ∧ s = .string t ∧ t.size ≤ 5 + 30 * k ∧ Hid (numsF ⟨#[119, 97, 108, 107]⟩ (xs.take 2) = numsF t ((xs.take 2).drop k)) ∧ Ext wo wr) (fun _ i _ => 2 - (intOf i).toNat)
  case atStart => exact ⟨0, _, Nat.zero_le _, rfl, rfl, by decide, rfl, Ext.refl _⟩
  case round =>
    obtain ⟨k, t, hk, rfl, rfl, ht, hz, hb⟩ := hrel
    by_cases hlt : k < 2
    · obtain ⟨b, off, x, hA, hbs, hxk, p0⟩ := ienc_at (HR.out.keep hb) (show k < 4 by omega)
      injection hA with hA
      injection hA with h1 h2
      subst h1 h2
      rw [Nat.zero_add] at p0
      have hxk' : (xs.take 2)[k]? = some x := by rw [List.getElem?_take, if_pos hlt]; exact hxk
      have HD := Lib.hid (drop_cons hxk')
      have HB := Lib.hid hb
      have i0 : (0 : Int) ≤ (k : Int) := by omega
      have i1 : (k : Int) < 4 := by omega
      obtain ⟨hx0, hx1⟩ := HV.out x (List.mem_of_getElem? hxk)
      clear hb hxk hxk'
      obtain ⟨z', hzz⟩ := Int.eq_ofNat_of_zero_le hx0
      subst hzz
      have hsz := itext_size z' (by omega) (by omega)
      have HT : Hid (numsF ⟨#[119, 97, 108, 107]⟩ (xs.take 2) = numsF (t ++ sp1 ++ itext z') ((xs.take 2).drop (k + 1))) := by unfold Hid; rw [hz.out, HD.out, numsF]
      have hts : (t ++ sp1 ++ itext z').size ≤ 5 + 30 * (k + 1) := by
        rw [ByteArray.size_append, ByteArray.size_append]
        have : sp1.size = 1 := rfl
        omega
      obtain ⟨T, hT⟩ : ∃ T, T = itext z' := ⟨_, rfl⟩
      have hF := Lib.hid (fun w => spec_FormatInt z' w (by omega))
      rw [← hT] at hsz HT hts hF
      clear hT
      go_wp2_with fail
      refine (hF.out _).mono ?_
      rintro e w2 ⟨rfl, h1⟩
      have HB1 := Lib.hid (HB.out.trans h1)
      clear h1
      go_wp2_with fail
      go_roundw
      case rel => exact ⟨k + 1, t ++ sp1 ++ T, by omega, by go_num, by first | rfl | (rw [ByteArray.append_assoc]; rfl), hts, HT, HB1.out⟩
      case measure => simp [intOf]; omega
    · obtain rfl : k = 2 := by omega
      have HT : Hid (numsF ⟨#[119, 97, 108, 107]⟩ (xs.take 2) = t) := by unfold Hid; rw [hz.out, drop_nil (by rw [List.length_take, hl.out]; omega)]; rfl
      have HB := Lib.hid hb
      clear hb
      go_wp2_with fail
      refine bodyPost_ret (v := .tuple #[.string t, .bool true]) (by simp [results, Tryd.results13, go_sem, *]) rfl ⟨by rw [HT.out], HEo.out.trans HB.out⟩
set_option maxRecDepth 100000 in
set_option maxHeartbeats 2000000 in
theorem spec_FormatAct_2 (x y z u : Int) (hx : 0 ≤ x ∧ x ≤ 1000) (hy : 0 ≤ y ∧ y ≤ 1000) (hz : 0 ≤ z ∧ z ≤ 1000) (hu : 0 ≤ u ∧ u ≤ 1000) (hok : acOk ⟨2, x, y, z, u⟩ = true) (w : World) :
    Calls Tryd.prog 13 #[.agg #[.int .i64 2, .int .i64 x, .int .i64 y, .int .i64 z, .int .i64 u]] w fun e w' => e = .returned (.tuple #[.string (numsF ⟨#[109, 111, 118, 101]⟩ ([x, y, z, u].take 4)), .bool true]) ∧ Ext w w' := by
  obtain ⟨wa, hwa⟩ : ∃ wa, wa = w.alloc (.cells #[.int .i64 2, .int .i64 x, .int .i64 y, .int .i64 z, .int .i64 u] 32) := ⟨_, rfl⟩
  have hEa : Ext w wa := by rw [hwa]; exact (Ext.refl w).alloc _
  have hsa : wa.heap.size = w.heap.size + 1 := by rw [hwa]; simp
  have hk0 : wa.cell? ⟨w.heap.size, 0, none⟩ = some (.int .i64 2) := by rw [hwa]; simp [World.cell?_alloc_at]
  have hk1 : wa.cell? ⟨w.heap.size, 1, none⟩ = some (.int .i64 x) := by rw [hwa]; simp [World.cell?_alloc_at]
  have hk2 : wa.cell? ⟨w.heap.size, 2, none⟩ = some (.int .i64 y) := by rw [hwa]; simp [World.cell?_alloc_at]
  have hk3 : wa.cell? ⟨w.heap.size, 3, none⟩ = some (.int .i64 z) := by rw [hwa]; simp [World.cell?_alloc_at]
  have hk4 : wa.cell? ⟨w.heap.size, 4, none⟩ = some (.int .i64 u) := by rw [hwa]; simp [World.cell?_alloc_at]
  have Hk := Lib.hid (And.intro hk0 (And.intro hk1 (And.intro hk2 (And.intro hk3 hk4))))
  have Hwa := Lib.hid hwa
  have HEa := Lib.hid hEa
  have HV := Lib.hid (vals_ok hx hy hz hu)
  obtain ⟨xs, hxs⟩ : ∃ xs : List Int, xs = [x, y, z, u] := ⟨_, rfl⟩
  rw [← hxs] at HV ⊢
  have Hxs := Lib.hid hxs
  have cA := Lib.hid (spec_ActOk ⟨2, x, y, z, u⟩ wa)
  rw [hok] at cA
  clear hwa hEa hk0 hk1 hk2 hk3 hk4 hxs hok hx hy hz hu
  go_enter Tryd.func13, Tryd.ntmps13
  go_wp2_with fail
  rw [← Hwa.out]
  refine cA.out.mono ?_
  rintro e w1 ⟨rfl, hb1⟩
  obtain ⟨k0, k1, k2, k3, k4⟩ := Hk.out
  have hs1 := hb1.size
  replace k0 := (hb1.cellAt w.heap.size (by omega) 0).trans k0
  replace k1 := (hb1.cellAt w.heap.size (by omega) 1).trans k1
  replace k2 := (hb1.cellAt w.heap.size (by omega) 2).trans k2
  replace k3 := (hb1.cellAt w.heap.size (by omega) 3).trans k3
  replace k4 := (hb1.cellAt w.heap.size (by omega) 4).trans k4
  have HE1 := Lib.hid (HEa.out.trans hb1)
  have m0 : w1.heap.size ≠ w.heap.size := by omega
  have l0 : w.heap.size < w1.heap.size := by omega
  clear hb1
  go_wp2_with fail
  obtain ⟨wo, hwo⟩ : ∃ wo, wo = ((w1.alloc (.cells #[.string ⟨#[]⟩, .string ⟨#[119, 97, 108, 107]⟩, .string ⟨#[109, 111, 118, 101]⟩, .string ⟨#[100, 97, 121, 115]⟩, .string ⟨#[97, 117, 100, 105, 116]⟩, .string ⟨#[119, 104, 101, 114, 101]⟩] 9)).alloc (.cells #[.int .i64 0, .int .i64 2, .int .i64 4, .int .i64 1, .int .i64 0, .int .i64 1] 3)).alloc (.cells #[.int .i64 x, .int .i64 y, .int .i64 z, .int .i64 u] 3) := ⟨_, rfl⟩
  have hEo : Ext w1 wo := by rw [hwo]; exact (((Ext.refl w1).alloc _).alloc _).alloc _
  have hr : Rd wo 1 (some ⟨w1.heap.size + 1 + 1, 0, none⟩) 4 (xs.flatMap ienc) := by
    have := rd_lit ((w1.alloc (.cells #[.string ⟨#[]⟩, .string ⟨#[119, 97, 108, 107]⟩, .string ⟨#[109, 111, 118, 101]⟩, .string ⟨#[100, 97, 121, 115]⟩, .string ⟨#[97, 117, 100, 105, 116]⟩, .string ⟨#[119, 104, 101, 114, 101]⟩] 9)).alloc (.cells #[.int .i64 0, .int .i64 2, .int .i64 4, .int .i64 1, .int .i64 0, .int .i64 1] 3)) 3 [x, y, z, u] (by simp)
    rw [show ((w1.alloc (.cells #[.string ⟨#[]⟩, .string ⟨#[119, 97, 108, 107]⟩, .string ⟨#[109, 111, 118, 101]⟩, .string ⟨#[100, 97, 121, 115]⟩, .string ⟨#[97, 117, 100, 105, 116]⟩, .string ⟨#[119, 104, 101, 114, 101]⟩] 9)).alloc (.cells #[.int .i64 0, .int .i64 2, .int .i64 4, .int .i64 1, .int .i64 0, .int .i64 1] 3)).heap.size = w1.heap.size + 1 + 1 by simp] at this
    rw [hwo, Hxs.out]; exact this
  rw [← hwo]
  have HR := Lib.hid hr
  have HEo := Lib.hid (HE1.out.trans hEo)
  have hl : Hid (xs.length = 4) := by unfold Hid; rw [Hxs.out]; rfl
  clear hr hwo hEo k0 k1 k2 k3 k4
  go_loopw [4, 7] (fun s i wr => ∃ (k : Nat) (t : ByteArray), k ≤ 4 ∧ i = .int .i64 k ∧ s = .string t ∧ t.size ≤ 5 + 30 * k ∧ Hid (numsF ⟨#[109, 111, 118, 101]⟩ (xs.take 4) = numsF t ((xs.take 4).drop k)) ∧ Ext wo wr) (fun _ i _ => 4 - (intOf i).toNat)
  case atStart => exact ⟨0, _, Nat.zero_le _, rfl, rfl, by decide, rfl, Ext.refl _⟩
  case round =>
    obtain ⟨k, t, hk, rfl, rfl, ht, hz, hb⟩ := hrel
    by_cases hlt : k < 4
    · obtain ⟨b, off, x, hA, hbs, hxk, p0⟩ := ienc_at (HR.out.keep hb) (show k < 4 by omega)
      injection hA with hA
      injection hA with h1 h2
      subst h1 h2
      rw [Nat.zero_add] at p0
      have hxk' : (xs.take 4)[k]? = some x := by rw [List.getElem?_take, if_pos hlt]; exact hxk
      have HD := Lib.hid (drop_cons hxk')
      have HB := Lib.hid hb
      have i0 : (0 : Int) ≤ (k : Int) := by omega
      have i1 : (k : Int) < 4 := by omega
      obtain ⟨hx0, hx1⟩ := HV.out x (List.mem_of_getElem? hxk)
      clear hb hxk hxk'
      obtain ⟨z', hzz⟩ := Int.eq_ofNat_of_zero_le hx0
      subst hzz
      have hsz := itext_size z' (by omega) (by omega)
      have HT : Hid (numsF ⟨#[109, 111, 118, 101]⟩ (xs.take 4) = numsF (t ++ sp1 ++ itext z') ((xs.take 4).drop (k + 1))) := by unfold Hid; rw [hz.out, HD.out, numsF]
      have hts : (t ++ sp1 ++ itext z').size ≤ 5 + 30 * (k + 1) := by
        rw [ByteArray.size_append, ByteArray.size_append]
        have : sp1.size = 1 := rfl
        omega
      obtain ⟨T, hT⟩ : ∃ T, T = itext z' := ⟨_, rfl⟩
      have hF := Lib.hid (fun w => spec_FormatInt z' w (by omega))
      rw [← hT] at hsz HT hts hF
      clear hT
      go_wp2_with fail
      refine (hF.out _).mono ?_
      rintro e w2 ⟨rfl, h1⟩
      have HB1 := Lib.hid (HB.out.trans h1)
      clear h1
      go_wp2_with fail
      go_roundw
      case rel => exact ⟨k + 1, t ++ sp1 ++ T, by omega, by go_num, by first | rfl | (rw [ByteArray.append_assoc]; rfl), hts, HT, HB1.out⟩
      case measure => simp [intOf]; omega
    · obtain rfl : k = 4 := by omega
      have HT : Hid (numsF ⟨#[109, 111, 118, 101]⟩ (xs.take 4) = t) := by unfold Hid; rw [hz.out, drop_nil (by rw [List.length_take, hl.out]; omega)]; rfl
      have HB := Lib.hid hb
      clear hb
      go_wp2_with fail
      refine bodyPost_ret (v := .tuple #[.string t, .bool true]) (by simp [results, Tryd.results13, go_sem, *]) rfl ⟨by rw [HT.out], HEo.out.trans HB.out⟩
set_option maxRecDepth 100000 in
set_option maxHeartbeats 2000000 in
theorem spec_FormatAct_3 (x y z u : Int) (hx : 0 ≤ x ∧ x ≤ 1000) (hy : 0 ≤ y ∧ y ≤ 1000) (hz : 0 ≤ z ∧ z ≤ 1000) (hu : 0 ≤ u ∧ u ≤ 1000) (hok : acOk ⟨3, x, y, z, u⟩ = true) (w : World) :
    Calls Tryd.prog 13 #[.agg #[.int .i64 3, .int .i64 x, .int .i64 y, .int .i64 z, .int .i64 u]] w fun e w' => e = .returned (.tuple #[.string (numsF ⟨#[100, 97, 121, 115]⟩ ([x, y, z, u].take 1)), .bool true]) ∧ Ext w w' := by
  obtain ⟨wa, hwa⟩ : ∃ wa, wa = w.alloc (.cells #[.int .i64 3, .int .i64 x, .int .i64 y, .int .i64 z, .int .i64 u] 32) := ⟨_, rfl⟩
  have hEa : Ext w wa := by rw [hwa]; exact (Ext.refl w).alloc _
  have hsa : wa.heap.size = w.heap.size + 1 := by rw [hwa]; simp
  have hk0 : wa.cell? ⟨w.heap.size, 0, none⟩ = some (.int .i64 3) := by rw [hwa]; simp [World.cell?_alloc_at]
  have hk1 : wa.cell? ⟨w.heap.size, 1, none⟩ = some (.int .i64 x) := by rw [hwa]; simp [World.cell?_alloc_at]
  have hk2 : wa.cell? ⟨w.heap.size, 2, none⟩ = some (.int .i64 y) := by rw [hwa]; simp [World.cell?_alloc_at]
  have hk3 : wa.cell? ⟨w.heap.size, 3, none⟩ = some (.int .i64 z) := by rw [hwa]; simp [World.cell?_alloc_at]
  have hk4 : wa.cell? ⟨w.heap.size, 4, none⟩ = some (.int .i64 u) := by rw [hwa]; simp [World.cell?_alloc_at]
  have Hk := Lib.hid (And.intro hk0 (And.intro hk1 (And.intro hk2 (And.intro hk3 hk4))))
  have Hwa := Lib.hid hwa
  have HEa := Lib.hid hEa
  have HV := Lib.hid (vals_ok hx hy hz hu)
  obtain ⟨xs, hxs⟩ : ∃ xs : List Int, xs = [x, y, z, u] := ⟨_, rfl⟩
  rw [← hxs] at HV ⊢
  have Hxs := Lib.hid hxs
  have cA := Lib.hid (spec_ActOk ⟨3, x, y, z, u⟩ wa)
  rw [hok] at cA
  clear hwa hEa hk0 hk1 hk2 hk3 hk4 hxs hok hx hy hz hu
  go_enter Tryd.func13, Tryd.ntmps13
  go_wp2_with fail
  rw [← Hwa.out]
  refine cA.out.mono ?_
  rintro e w1 ⟨rfl, hb1⟩
  obtain ⟨k0, k1, k2, k3, k4⟩ := Hk.out
  have hs1 := hb1.size
  replace k0 := (hb1.cellAt w.heap.size (by omega) 0).trans k0
  replace k1 := (hb1.cellAt w.heap.size (by omega) 1).trans k1
  replace k2 := (hb1.cellAt w.heap.size (by omega) 2).trans k2
  replace k3 := (hb1.cellAt w.heap.size (by omega) 3).trans k3
  replace k4 := (hb1.cellAt w.heap.size (by omega) 4).trans k4
  have HE1 := Lib.hid (HEa.out.trans hb1)
  have m0 : w1.heap.size ≠ w.heap.size := by omega
  have l0 : w.heap.size < w1.heap.size := by omega
  clear hb1
  go_wp2_with fail
  obtain ⟨wo, hwo⟩ : ∃ wo, wo = ((w1.alloc (.cells #[.string ⟨#[]⟩, .string ⟨#[119, 97, 108, 107]⟩, .string ⟨#[109, 111, 118, 101]⟩, .string ⟨#[100, 97, 121, 115]⟩, .string ⟨#[97, 117, 100, 105, 116]⟩, .string ⟨#[119, 104, 101, 114, 101]⟩] 9)).alloc (.cells #[.int .i64 0, .int .i64 2, .int .i64 4, .int .i64 1, .int .i64 0, .int .i64 1] 3)).alloc (.cells #[.int .i64 x, .int .i64 y, .int .i64 z, .int .i64 u] 3) := ⟨_, rfl⟩
  have hEo : Ext w1 wo := by rw [hwo]; exact (((Ext.refl w1).alloc _).alloc _).alloc _
  have hr : Rd wo 1 (some ⟨w1.heap.size + 1 + 1, 0, none⟩) 4 (xs.flatMap ienc) := by
    have := rd_lit ((w1.alloc (.cells #[.string ⟨#[]⟩, .string ⟨#[119, 97, 108, 107]⟩, .string ⟨#[109, 111, 118, 101]⟩, .string ⟨#[100, 97, 121, 115]⟩, .string ⟨#[97, 117, 100, 105, 116]⟩, .string ⟨#[119, 104, 101, 114, 101]⟩] 9)).alloc (.cells #[.int .i64 0, .int .i64 2, .int .i64 4, .int .i64 1, .int .i64 0, .int .i64 1] 3)) 3 [x, y, z, u] (by simp)
    rw [show ((w1.alloc (.cells #[.string ⟨#[]⟩, .string ⟨#[119, 97, 108, 107]⟩, .string ⟨#[109, 111, 118, 101]⟩, .string ⟨#[100, 97, 121, 115]⟩, .string ⟨#[97, 117, 100, 105, 116]⟩, .string ⟨#[119, 104, 101, 114, 101]⟩] 9)).alloc (.cells #[.int .i64 0, .int .i64 2, .int .i64 4, .int .i64 1, .int .i64 0, .int .i64 1] 3)).heap.size = w1.heap.size + 1 + 1 by simp] at this
    rw [hwo, Hxs.out]; exact this
  rw [← hwo]
  have HR := Lib.hid hr
  have HEo := Lib.hid (HE1.out.trans hEo)
  have hl : Hid (xs.length = 4) := by unfold Hid; rw [Hxs.out]; rfl
  clear hr hwo hEo k0 k1 k2 k3 k4
  go_loopw [4, 7] (fun s i wr => ∃ (k : Nat) (t : ByteArray), k ≤ 1 ∧ i = .int .i64 k ∧ s = .string t ∧ t.size ≤ 5 + 30 * k ∧ Hid (numsF ⟨#[100, 97, 121, 115]⟩ (xs.take 1) = numsF t ((xs.take 1).drop k)) ∧ Ext wo wr) (fun _ i _ => 1 - (intOf i).toNat)
  case atStart => exact ⟨0, _, Nat.zero_le _, rfl, rfl, by decide, rfl, Ext.refl _⟩
  case round =>
    obtain ⟨k, t, hk, rfl, rfl, ht, hz, hb⟩ := hrel
    by_cases hlt : k < 1
    · obtain ⟨b, off, x, hA, hbs, hxk, p0⟩ := ienc_at (HR.out.keep hb) (show k < 4 by omega)
      injection hA with hA
      injection hA with h1 h2
      subst h1 h2
      rw [Nat.zero_add] at p0
      have hxk' : (xs.take 1)[k]? = some x := by rw [List.getElem?_take, if_pos hlt]; exact hxk
      have HD := Lib.hid (drop_cons hxk')
      have HB := Lib.hid hb
      have i0 : (0 : Int) ≤ (k : Int) := by omega
      have i1 : (k : Int) < 4 := by omega
      obtain ⟨hx0, hx1⟩ := HV.out x (List.mem_of_getElem? hxk)
      clear hb hxk hxk'
      obtain ⟨z', hzz⟩ := Int.eq_ofNat_of_zero_le hx0
      subst hzz
      have hsz := itext_size z' (by omega) (by omega)
      have HT : Hid (numsF ⟨#[100, 97, 121, 115]⟩ (xs.take 1) = numsF (t ++ sp1 ++ itext z') ((xs.take 1).drop (k + 1))) := by unfold Hid; rw [hz.out, HD.out, numsF]
      have hts : (t ++ sp1 ++ itext z').size ≤ 5 + 30 * (k + 1) := by
        rw [ByteArray.size_append, ByteArray.size_append]
        have : sp1.size = 1 := rfl
        omega
      obtain ⟨T, hT⟩ : ∃ T, T = itext z' := ⟨_, rfl⟩
      have hF := Lib.hid (fun w => spec_FormatInt z' w (by omega))
      rw [← hT] at hsz HT hts hF
      clear hT
      go_wp2_with fail
      refine (hF.out _).mono ?_
      rintro e w2 ⟨rfl, h1⟩
      have HB1 := Lib.hid (HB.out.trans h1)
      clear h1
      go_wp2_with fail
      go_roundw
      case rel => exact ⟨k + 1, t ++ sp1 ++ T, by omega, by go_num, by first | rfl | (rw [ByteArray.append_assoc]; rfl), hts, HT, HB1.out⟩
      case measure => simp [intOf]; omega
    · obtain rfl : k = 1 := by omega
      have HT : Hid (numsF ⟨#[100, 97, 121, 115]⟩ (xs.take 1) = t) := by unfold Hid; rw [hz.out, drop_nil (by rw [List.length_take, hl.out]; omega)]; rfl
      have HB := Lib.hid hb
      clear hb
      go_wp2_with fail
      refine bodyPost_ret (v := .tuple #[.string t, .bool true]) (by simp [results, Tryd.results13, go_sem, *]) rfl ⟨by rw [HT.out], HEo.out.trans HB.out⟩
set_option maxRecDepth 100000 in
set_option maxHeartbeats 2000000 in
theorem spec_FormatAct_4 (x y z u : Int) (hx : 0 ≤ x ∧ x ≤ 1000) (hy : 0 ≤ y ∧ y ≤ 1000) (hz : 0 ≤ z ∧ z ≤ 1000) (hu : 0 ≤ u ∧ u ≤ 1000) (hok : acOk ⟨4, x, y, z, u⟩ = true) (w : World) :
    Calls Tryd.prog 13 #[.agg #[.int .i64 4, .int .i64 x, .int .i64 y, .int .i64 z, .int .i64 u]] w fun e w' => e = .returned (.tuple #[.string (numsF ⟨#[97, 117, 100, 105, 116]⟩ ([x, y, z, u].take 0)), .bool true]) ∧ Ext w w' := by
  obtain ⟨wa, hwa⟩ : ∃ wa, wa = w.alloc (.cells #[.int .i64 4, .int .i64 x, .int .i64 y, .int .i64 z, .int .i64 u] 32) := ⟨_, rfl⟩
  have hEa : Ext w wa := by rw [hwa]; exact (Ext.refl w).alloc _
  have hsa : wa.heap.size = w.heap.size + 1 := by rw [hwa]; simp
  have hk0 : wa.cell? ⟨w.heap.size, 0, none⟩ = some (.int .i64 4) := by rw [hwa]; simp [World.cell?_alloc_at]
  have hk1 : wa.cell? ⟨w.heap.size, 1, none⟩ = some (.int .i64 x) := by rw [hwa]; simp [World.cell?_alloc_at]
  have hk2 : wa.cell? ⟨w.heap.size, 2, none⟩ = some (.int .i64 y) := by rw [hwa]; simp [World.cell?_alloc_at]
  have hk3 : wa.cell? ⟨w.heap.size, 3, none⟩ = some (.int .i64 z) := by rw [hwa]; simp [World.cell?_alloc_at]
  have hk4 : wa.cell? ⟨w.heap.size, 4, none⟩ = some (.int .i64 u) := by rw [hwa]; simp [World.cell?_alloc_at]
  have Hk := Lib.hid (And.intro hk0 (And.intro hk1 (And.intro hk2 (And.intro hk3 hk4))))
  have Hwa := Lib.hid hwa
  have HEa := Lib.hid hEa
  have HV := Lib.hid (vals_ok hx hy hz hu)
  obtain ⟨xs, hxs⟩ : ∃ xs : List Int, xs = [x, y, z, u] := ⟨_, rfl⟩
  rw [← hxs] at HV ⊢
  have Hxs := Lib.hid hxs
  have cA := Lib.hid (spec_ActOk ⟨4, x, y, z, u⟩ wa)
  rw [hok] at cA
  clear hwa hEa hk0 hk1 hk2 hk3 hk4 hxs hok hx hy hz hu
  go_enter Tryd.func13, Tryd.ntmps13
  go_wp2_with fail
  rw [← Hwa.out]
  refine cA.out.mono ?_
  rintro e w1 ⟨rfl, hb1⟩
  obtain ⟨k0, k1, k2, k3, k4⟩ := Hk.out
  have hs1 := hb1.size
  replace k0 := (hb1.cellAt w.heap.size (by omega) 0).trans k0
  replace k1 := (hb1.cellAt w.heap.size (by omega) 1).trans k1
  replace k2 := (hb1.cellAt w.heap.size (by omega) 2).trans k2
  replace k3 := (hb1.cellAt w.heap.size (by omega) 3).trans k3
  replace k4 := (hb1.cellAt w.heap.size (by omega) 4).trans k4
  have HE1 := Lib.hid (HEa.out.trans hb1)
  have m0 : w1.heap.size ≠ w.heap.size := by omega
  have l0 : w.heap.size < w1.heap.size := by omega
  clear hb1
  go_wp2_with fail
  obtain ⟨wo, hwo⟩ : ∃ wo, wo = ((w1.alloc (.cells #[.string ⟨#[]⟩, .string ⟨#[119, 97, 108, 107]⟩, .string ⟨#[109, 111, 118, 101]⟩, .string ⟨#[100, 97, 121, 115]⟩, .string ⟨#[97, 117, 100, 105, 116]⟩, .string ⟨#[119, 104, 101, 114, 101]⟩] 9)).alloc (.cells #[.int .i64 0, .int .i64 2, .int .i64 4, .int .i64 1, .int .i64 0, .int .i64 1] 3)).alloc (.cells #[.int .i64 x, .int .i64 y, .int .i64 z, .int .i64 u] 3) := ⟨_, rfl⟩
  have hEo : Ext w1 wo := by rw [hwo]; exact (((Ext.refl w1).alloc _).alloc _).alloc _
  have hr : Rd wo 1 (some ⟨w1.heap.size + 1 + 1, 0, none⟩) 4 (xs.flatMap ienc) := by
    have := rd_lit ((w1.alloc (.cells #[.string ⟨#[]⟩, .string ⟨#[119, 97, 108, 107]⟩, .string ⟨#[109, 111, 118, 101]⟩, .string ⟨#[100, 97, 121, 115]⟩, .string ⟨#[97, 117, 100, 105, 116]⟩, .string ⟨#[119, 104, 101, 114, 101]⟩] 9)).alloc (.cells #[.int .i64 0, .int .i64 2, .int .i64 4, .int .i64 1, .int .i64 0, .int .i64 1] 3)) 3 [x, y, z, u] (by simp)
    rw [show ((w1.alloc (.cells #[.string ⟨#[]⟩, .string ⟨#[119, 97, 108, 107]⟩, .string ⟨#[109, 111, 118, 101]⟩, .string ⟨#[100, 97, 121, 115]⟩, .string ⟨#[97, 117, 100, 105, 116]⟩, .string ⟨#[119, 104, 101, 114, 101]⟩] 9)).alloc (.cells #[.int .i64 0, .int .i64 2, .int .i64 4, .int .i64 1, .int .i64 0, .int .i64 1] 3)).heap.size = w1.heap.size + 1 + 1 by simp] at this
    rw [hwo, Hxs.out]; exact this
  rw [← hwo]
  have HR := Lib.hid hr
  have HEo := Lib.hid (HE1.out.trans hEo)
  have hl : Hid (xs.length = 4) := by unfold Hid; rw [Hxs.out]; rfl
  clear hr hwo hEo k0 k1 k2 k3 k4
  go_loopw [4, 7] (fun s i wr => ∃ (k : Nat) (t : ByteArray), k ≤ 0 ∧ i = .int .i64 k ∧ s = .string t ∧ t.size ≤ 5 + 30 * k ∧ Hid (numsF ⟨#[97, 117, 100, 105, 116]⟩ (xs.take 0) = numsF t ((xs.take 0).drop k)) ∧ Ext wo wr) (fun _ i _ => 0 - (intOf i).toNat)
  case atStart => exact ⟨0, _, Nat.zero_le _, rfl, rfl, by decide, rfl, Ext.refl _⟩
  case round =>
    obtain ⟨k, t, hk, rfl, rfl, ht, hz, hb⟩ := hrel
    by_cases hlt : k < 0
    · omega
    · obtain rfl : k = 0 := by omega
      have HT : Hid (numsF ⟨#[97, 117, 100, 105, 116]⟩ (xs.take 0) = t) := by unfold Hid; rw [hz.out, drop_nil (by rw [List.length_take, hl.out]; omega)]; rfl
      have HB := Lib.hid hb
      clear hb
      go_wp2_with fail
      refine bodyPost_ret (v := .tuple #[.string t, .bool true]) (by simp [results, Tryd.results13, go_sem, *]) rfl ⟨by rw [HT.out], HEo.out.trans HB.out⟩
set_option maxRecDepth 100000 in
set_option maxHeartbeats 2000000 in
theorem spec_FormatAct_5 (x y z u : Int) (hx : 0 ≤ x ∧ x ≤ 1000) (hy : 0 ≤ y ∧ y ≤ 1000) (hz : 0 ≤ z ∧ z ≤ 1000) (hu : 0 ≤ u ∧ u ≤ 1000) (hok : acOk ⟨5, x, y, z, u⟩ = true) (w : World) :
    Calls Tryd.prog 13 #[.agg #[.int .i64 5, .int .i64 x, .int .i64 y, .int .i64 z, .int .i64 u]] w fun e w' => e = .returned (.tuple #[.string (numsF ⟨#[119, 104, 101, 114, 101]⟩ ([x, y, z, u].take 1)), .bool true]) ∧ Ext w w' := by
  obtain ⟨wa, hwa⟩ : ∃ wa, wa = w.alloc (.cells #[.int .i64 5, .int .i64 x, .int .i64 y, .int .i64 z, .int .i64 u] 32) := ⟨_, rfl⟩
  have hEa : Ext w wa := by rw [hwa]; exact (Ext.refl w).alloc _
  have hsa : wa.heap.size = w.heap.size + 1 := by rw [hwa]; simp
  have hk0 : wa.cell? ⟨w.heap.size, 0, none⟩ = some (.int .i64 5) := by rw [hwa]; simp [World.cell?_alloc_at]
  have hk1 : wa.cell? ⟨w.heap.size, 1, none⟩ = some (.int .i64 x) := by rw [hwa]; simp [World.cell?_alloc_at]
  have hk2 : wa.cell? ⟨w.heap.size, 2, none⟩ = some (.int .i64 y) := by rw [hwa]; simp [World.cell?_alloc_at]
  have hk3 : wa.cell? ⟨w.heap.size, 3, none⟩ = some (.int .i64 z) := by rw [hwa]; simp [World.cell?_alloc_at]
  have hk4 : wa.cell? ⟨w.heap.size, 4, none⟩ = some (.int .i64 u) := by rw [hwa]; simp [World.cell?_alloc_at]
  have Hk := Lib.hid (And.intro hk0 (And.intro hk1 (And.intro hk2 (And.intro hk3 hk4))))
  have Hwa := Lib.hid hwa
  have HEa := Lib.hid hEa
  have HV := Lib.hid (vals_ok hx hy hz hu)
  obtain ⟨xs, hxs⟩ : ∃ xs : List Int, xs = [x, y, z, u] := ⟨_, rfl⟩
  rw [← hxs] at HV ⊢
  have Hxs := Lib.hid hxs
  have cA := Lib.hid (spec_ActOk ⟨5, x, y, z, u⟩ wa)
  rw [hok] at cA
  clear hwa hEa hk0 hk1 hk2 hk3 hk4 hxs hok hx hy hz hu
  go_enter Tryd.func13, Tryd.ntmps13
  go_wp2_with fail
  rw [← Hwa.out]
  refine cA.out.mono ?_
  rintro e w1 ⟨rfl, hb1⟩
  obtain ⟨k0, k1, k2, k3, k4⟩ := Hk.out
  have hs1 := hb1.size
  replace k0 := (hb1.cellAt w.heap.size (by omega) 0).trans k0
  replace k1 := (hb1.cellAt w.heap.size (by omega) 1).trans k1
  replace k2 := (hb1.cellAt w.heap.size (by omega) 2).trans k2
  replace k3 := (hb1.cellAt w.heap.size (by omega) 3).trans k3
  replace k4 := (hb1.cellAt w.heap.size (by omega) 4).trans k4
  have HE1 := Lib.hid (HEa.out.trans hb1)
  have m0 : w1.heap.size ≠ w.heap.size := by omega
  have l0 : w.heap.size < w1.heap.size := by omega
  clear hb1
  go_wp2_with fail
  obtain ⟨wo, hwo⟩ : ∃ wo, wo = ((w1.alloc (.cells #[.string ⟨#[]⟩, .string ⟨#[119, 97, 108, 107]⟩, .string ⟨#[109, 111, 118, 101]⟩, .string ⟨#[100, 97, 121, 115]⟩, .string ⟨#[97, 117, 100, 105, 116]⟩, .string ⟨#[119, 104, 101, 114, 101]⟩] 9)).alloc (.cells #[.int .i64 0, .int .i64 2, .int .i64 4, .int .i64 1, .int .i64 0, .int .i64 1] 3)).alloc (.cells #[.int .i64 x, .int .i64 y, .int .i64 z, .int .i64 u] 3) := ⟨_, rfl⟩
  have hEo : Ext w1 wo := by rw [hwo]; exact (((Ext.refl w1).alloc _).alloc _).alloc _
  have hr : Rd wo 1 (some ⟨w1.heap.size + 1 + 1, 0, none⟩) 4 (xs.flatMap ienc) := by
    have := rd_lit ((w1.alloc (.cells #[.string ⟨#[]⟩, .string ⟨#[119, 97, 108, 107]⟩, .string ⟨#[109, 111, 118, 101]⟩, .string ⟨#[100, 97, 121, 115]⟩, .string ⟨#[97, 117, 100, 105, 116]⟩, .string ⟨#[119, 104, 101, 114, 101]⟩] 9)).alloc (.cells #[.int .i64 0, .int .i64 2, .int .i64 4, .int .i64 1, .int .i64 0, .int .i64 1] 3)) 3 [x, y, z, u] (by simp)
    rw [show ((w1.alloc (.cells #[.string ⟨#[]⟩, .string ⟨#[119, 97, 108, 107]⟩, .string ⟨#[109, 111, 118, 101]⟩, .string ⟨#[100, 97, 121, 115]⟩, .string ⟨#[97, 117, 100, 105, 116]⟩, .string ⟨#[119, 104, 101, 114, 101]⟩] 9)).alloc (.cells #[.int .i64 0, .int .i64 2, .int .i64 4, .int .i64 1, .int .i64 0, .int .i64 1] 3)).heap.size = w1.heap.size + 1 + 1 by simp] at this
    rw [hwo, Hxs.out]; exact this
  rw [← hwo]
  have HR := Lib.hid hr
  have HEo := Lib.hid (HE1.out.trans hEo)
  have hl : Hid (xs.length = 4) := by unfold Hid; rw [Hxs.out]; rfl
  clear hr hwo hEo k0 k1 k2 k3 k4
  go_loopw [4, 7] (fun s i wr => ∃ (k : Nat) (t : ByteArray), k ≤ 1 ∧ i = .int .i64 k ∧ s = .string t ∧ t.size ≤ 5 + 30 * k ∧ Hid (numsF ⟨#[119, 104, 101, 114, 101]⟩ (xs.take 1) = numsF t ((xs.take 1).drop k)) ∧ Ext wo wr) (fun _ i _ => 1 - (intOf i).toNat)
  case atStart => exact ⟨0, _, Nat.zero_le _, rfl, rfl, by decide, rfl, Ext.refl _⟩
  case round =>
    obtain ⟨k, t, hk, rfl, rfl, ht, hz, hb⟩ := hrel
    by_cases hlt : k < 1
    · obtain ⟨b, off, x, hA, hbs, hxk, p0⟩ := ienc_at (HR.out.keep hb) (show k < 4 by omega)
      injection hA with hA
      injection hA with h1 h2
      subst h1 h2
      rw [Nat.zero_add] at p0
      have hxk' : (xs.take 1)[k]? = some x := by rw [List.getElem?_take, if_pos hlt]; exact hxk
      have HD := Lib.hid (drop_cons hxk')
      have HB := Lib.hid hb
      have i0 : (0 : Int) ≤ (k : Int) := by omega
      have i1 : (k : Int) < 4 := by omega
      obtain ⟨hx0, hx1⟩ := HV.out x (List.mem_of_getElem? hxk)
      clear hb hxk hxk'
      obtain ⟨z', hzz⟩ := Int.eq_ofNat_of_zero_le hx0
      subst hzz
      have hsz := itext_size z' (by omega) (by omega)
      have HT : Hid (numsF ⟨#[119, 104, 101, 114, 101]⟩ (xs.take 1) = numsF (t ++ sp1 ++ itext z') ((xs.take 1).drop (k + 1))) := by unfold Hid; rw [hz.out, HD.out, numsF]
      have hts : (t ++ sp1 ++ itext z').size ≤ 5 + 30 * (k + 1) := by
        rw [ByteArray.size_append, ByteArray.size_append]
        have : sp1.size = 1 := rfl
        omega
      obtain ⟨T, hT⟩ : ∃ T, T = itext z' := ⟨_, rfl⟩
      have hF := Lib.hid (fun w => spec_FormatInt z' w (by omega))
      rw [← hT] at hsz HT hts hF
      clear hT
      go_wp2_with fail
      refine (hF.out _).mono ?_
      rintro e w2 ⟨rfl, h1⟩
      have HB1 := Lib.hid (HB.out.trans h1)
      clear h1
      go_wp2_with fail
      go_roundw
      case rel => exact ⟨k + 1, t ++ sp1 ++ T, by omega, by go_num, by first | rfl | (rw [ByteArray.append_assoc]; rfl), hts, HT, HB1.out⟩
      case measure => simp [intOf]; omega
    · obtain rfl : k = 1 := by omega
      have HT : Hid (numsF ⟨#[119, 104, 101, 114, 101]⟩ (xs.take 1) = t) := by unfold Hid; rw [hz.out, drop_nil (by rw [List.length_take, hl.out]; omega)]; rfl
      have HB := Lib.hid hb
      clear hb
      go_wp2_with fail
      refine bodyPost_ret (v := .tuple #[.string t, .bool true]) (by simp [results, Tryd.results13, go_sem, *]) rfl ⟨by rw [HT.out], HEo.out.trans HB.out⟩
set_option maxRecDepth 100000 in
set_option maxHeartbeats 2000000 in
theorem impl_FormatAct_1 (x y z u : Int) (hx : 0 ≤ x ∧ x ≤ 1000) (hy : 0 ≤ y ∧ y ≤ 1000) (hz : 0 ≤ z ∧ z ≤ 1000) (hu : 0 ≤ u ∧ u ≤ 1000) (hok : acOk ⟨1, x, y, z, u⟩ = true) (w : World) (htab : Hid (Lib.TabIs Tryd.prog w "internal/strconv.uint64pow10" .u64 Lib.pow10Tab)) :
    Calls Tryd.prog 15 #[.agg #[.int .i64 1, .int .i64 x, .int .i64 y, .int .i64 z, .int .i64 u]] w fun e w' => e = .returned (.tuple #[.string (numsF ⟨#[119, 97, 108, 107]⟩ ([x, y, z, u].take 2)), .bool true]) ∧ Ext w w' := by
  obtain ⟨wa, hwa⟩ : ∃ wa, wa = w.alloc (.cells #[.int .i64 1, .int .i64 x, .int .i64 y, .int .i64 z, .int .i64 u] 32) := ⟨_, rfl⟩
  have hEa : Ext w wa := by rw [hwa]; exact (Ext.refl w).alloc _
  have hsa : wa.heap.size = w.heap.size + 1 := by rw [hwa]; simp
  have hk0 : wa.cell? ⟨w.heap.size, 0, none⟩ = some (.int .i64 1) := by rw [hwa]; simp [World.cell?_alloc_at]
  have hk1 : wa.cell? ⟨w.heap.size, 1, none⟩ = some (.int .i64 x) := by rw [hwa]; simp [World.cell?_alloc_at]
  have hk2 : wa.cell? ⟨w.heap.size, 2, none⟩ = some (.int .i64 y) := by rw [hwa]; simp [World.cell?_alloc_at]
  have hk3 : wa.cell? ⟨w.heap.size, 3, none⟩ = some (.int .i64 z) := by rw [hwa]; simp [World.cell?_alloc_at]
  have hk4 : wa.cell? ⟨w.heap.size, 4, none⟩ = some (.int .i64 u) := by rw [hwa]; simp [World.cell?_alloc_at]
  have Hk := Lib.hid (And.intro hk0 (And.intro hk1 (And.intro hk2 (And.intro hk3 hk4))))
  have Hwa := Lib.hid hwa
  have HEa := Lib.hid hEa
  have HV := Lib.hid (vals_ok hx hy hz hu)
  have cA := Lib.hid (impl_ActOk ⟨1, x, y, z, u⟩ wa)
  rw [hok] at cA
  clear hwa hEa hk0 hk1 hk2 hk3 hk4 hok hx hy hz hu
  go_enter Tryd.func15, Tryd.ntmps15
  go_wp2_with fail
  rw [← Hwa.out]
  refine cA.out.mono ?_
  rintro e w1 ⟨rfl, hb1⟩
  obtain ⟨k0, k1, k2, k3, k4⟩ := Hk.out
  have hs1 := hb1.size
  replace k0 := (hb1.cellAt w.heap.size (by omega) 0).trans k0
  replace k1 := (hb1.cellAt w.heap.size (by omega) 1).trans k1
  replace k2 := (hb1.cellAt w.heap.size (by omega) 2).trans k2
  replace k3 := (hb1.cellAt w.heap.size (by omega) 3).trans k3
  replace k4 := (hb1.cellAt w.heap.size (by omega) 4).trans k4
  have HE1 := Lib.hid (HEa.out.trans hb1)
  have m0 : w1.heap.size ≠ w.heap.size := by omega
  have l0 : w.heap.size < w1.heap.size := by omega
  have hE1a : Ext w (w1.alloc (.cells ([x, y].map (Value.int .i64)).toArray 3)) := (HEa.out.trans hb1).alloc _
  have cW := Lib.hid (impl_withNumbers ⟨#[119, 97, 108, 107]⟩ (some ⟨w1.heap.size, 0, none⟩) 2 2 [x, y] (w1.alloc (.cells ([x, y].map (Value.int .i64)).toArray 3)) (rd_lit w1 3 [x, y] (by simp)) (by omega) (by decide) (Lib.hid (fun v hv => HV.out v (by simp only [List.mem_cons, List.not_mem_nil, or_false] at hv ⊢; omega))) (Lib.hid (tab_ext htab.out hE1a)))
  have HE1a := Lib.hid hE1a
  clear hE1a
  clear hb1
  go_wp2_with (refine cW.out.mono ?_; rintro e w2 ⟨rfl, hb2⟩; have HB2 := Lib.hid hb2; clear hb2)
  refine bodyPost_ret (v := .tuple #[.string (numsF ⟨#[119, 97, 108, 107]⟩ [x, y]), .bool true]) (by simp [results, Tryd.results15, go_sem, *]) rfl ⟨by rfl, HE1a.out.trans HB2.out⟩
set_option maxRecDepth 100000 in
set_option maxHeartbeats 2000000 in
theorem impl_FormatAct_2 (x y z u : Int) (hx : 0 ≤ x ∧ x ≤ 1000) (hy : 0 ≤ y ∧ y ≤ 1000) (hz : 0 ≤ z ∧ z ≤ 1000) (hu : 0 ≤ u ∧ u ≤ 1000) (hok : acOk ⟨2, x, y, z, u⟩ = true) (w : World) (htab : Hid (Lib.TabIs Tryd.prog w "internal/strconv.uint64pow10" .u64 Lib.pow10Tab)) :
    Calls Tryd.prog 15 #[.agg #[.int .i64 2, .int .i64 x, .int .i64 y, .int .i64 z, .int .i64 u]] w fun e w' => e = .returned (.tuple #[.string (numsF ⟨#[109, 111, 118, 101]⟩ ([x, y, z, u].take 4)), .bool true]) ∧ Ext w w' := by
  obtain ⟨wa, hwa⟩ : ∃ wa, wa = w.alloc (.cells #[.int .i64 2, .int .i64 x, .int .i64 y, .int .i64 z, .int .i64 u] 32) := ⟨_, rfl⟩
  have hEa : Ext w wa := by rw [hwa]; exact (Ext.refl w).alloc _
  have hsa : wa.heap.size = w.heap.size + 1 := by rw [hwa]; simp
  have hk0 : wa.cell? ⟨w.heap.size, 0, none⟩ = some (.int .i64 2) := by rw [hwa]; simp [World.cell?_alloc_at]
  have hk1 : wa.cell? ⟨w.heap.size, 1, none⟩ = some (.int .i64 x) := by rw [hwa]; simp [World.cell?_alloc_at]
  have hk2 : wa.cell? ⟨w.heap.size, 2, none⟩ = some (.int .i64 y) := by rw [hwa]; simp [World.cell?_alloc_at]
  have hk3 : wa.cell? ⟨w.heap.size, 3, none⟩ = some (.int .i64 z) := by rw [hwa]; simp [World.cell?_alloc_at]
  have hk4 : wa.cell? ⟨w.heap.size, 4, none⟩ = some (.int .i64 u) := by rw [hwa]; simp [World.cell?_alloc_at]
  have Hk := Lib.hid (And.intro hk0 (And.intro hk1 (And.intro hk2 (And.intro hk3 hk4))))
  have Hwa := Lib.hid hwa
  have HEa := Lib.hid hEa
  have HV := Lib.hid (vals_ok hx hy hz hu)
  have cA := Lib.hid (impl_ActOk ⟨2, x, y, z, u⟩ wa)
  rw [hok] at cA
  clear hwa hEa hk0 hk1 hk2 hk3 hk4 hok hx hy hz hu
  go_enter Tryd.func15, Tryd.ntmps15
  go_wp2_with fail
  rw [← Hwa.out]
  refine cA.out.mono ?_
  rintro e w1 ⟨rfl, hb1⟩
  obtain ⟨k0, k1, k2, k3, k4⟩ := Hk.out
  have hs1 := hb1.size
  replace k0 := (hb1.cellAt w.heap.size (by omega) 0).trans k0
  replace k1 := (hb1.cellAt w.heap.size (by omega) 1).trans k1
  replace k2 := (hb1.cellAt w.heap.size (by omega) 2).trans k2
  replace k3 := (hb1.cellAt w.heap.size (by omega) 3).trans k3
  replace k4 := (hb1.cellAt w.heap.size (by omega) 4).trans k4
  have HE1 := Lib.hid (HEa.out.trans hb1)
  have m0 : w1.heap.size ≠ w.heap.size := by omega
  have l0 : w.heap.size < w1.heap.size := by omega
  have hE1a : Ext w (w1.alloc (.cells ([x, y, z, u].map (Value.int .i64)).toArray 3)) := (HEa.out.trans hb1).alloc _
  have cW := Lib.hid (impl_withNumbers ⟨#[109, 111, 118, 101]⟩ (some ⟨w1.heap.size, 0, none⟩) 4 4 [x, y, z, u] (w1.alloc (.cells ([x, y, z, u].map (Value.int .i64)).toArray 3)) (rd_lit w1 3 [x, y, z, u] (by simp)) (by omega) (by decide) (Lib.hid (fun v hv => HV.out v (by simp only [List.mem_cons, List.not_mem_nil, or_false] at hv ⊢; omega))) (Lib.hid (tab_ext htab.out hE1a)))
  have HE1a := Lib.hid hE1a
  clear hE1a
  clear hb1
  go_wp2_with (refine cW.out.mono ?_; rintro e w2 ⟨rfl, hb2⟩; have HB2 := Lib.hid hb2; clear hb2)
  refine bodyPost_ret (v := .tuple #[.string (numsF ⟨#[109, 111, 118, 101]⟩ [x, y, z, u]), .bool true]) (by simp [results, Tryd.results15, go_sem, *]) rfl ⟨by rfl, HE1a.out.trans HB2.out⟩
set_option maxRecDepth 100000 in
set_option maxHeartbeats 2000000 in
theorem impl_FormatAct_3 (x y z u : Int) (hx : 0 ≤ x ∧ x ≤ 1000) (hy : 0 ≤ y ∧ y ≤ 1000) (hz : 0 ≤ z ∧ z ≤ 1000) (hu : 0 ≤ u ∧ u ≤ 1000) (hok : acOk ⟨3, x, y, z, u⟩ = true) (w : World) (htab : Hid (Lib.TabIs Tryd.prog w "internal/strconv.uint64pow10" .u64 Lib.pow10Tab)) :
    Calls Tryd.prog 15 #[.agg #[.int .i64 3, .int .i64 x, .int .i64 y, .int .i64 z, .int .i64 u]] w fun e w' => e = .returned (.tuple #[.string (numsF ⟨#[100, 97, 121, 115]⟩ ([x, y, z, u].take 1)), .bool true]) ∧ Ext w w' := by
  obtain ⟨wa, hwa⟩ : ∃ wa, wa = w.alloc (.cells #[.int .i64 3, .int .i64 x, .int .i64 y, .int .i64 z, .int .i64 u] 32) := ⟨_, rfl⟩
  have hEa : Ext w wa := by rw [hwa]; exact (Ext.refl w).alloc _
  have hsa : wa.heap.size = w.heap.size + 1 := by rw [hwa]; simp
  have hk0 : wa.cell? ⟨w.heap.size, 0, none⟩ = some (.int .i64 3) := by rw [hwa]; simp [World.cell?_alloc_at]
  have hk1 : wa.cell? ⟨w.heap.size, 1, none⟩ = some (.int .i64 x) := by rw [hwa]; simp [World.cell?_alloc_at]
  have hk2 : wa.cell? ⟨w.heap.size, 2, none⟩ = some (.int .i64 y) := by rw [hwa]; simp [World.cell?_alloc_at]
  have hk3 : wa.cell? ⟨w.heap.size, 3, none⟩ = some (.int .i64 z) := by rw [hwa]; simp [World.cell?_alloc_at]
  have hk4 : wa.cell? ⟨w.heap.size, 4, none⟩ = some (.int .i64 u) := by rw [hwa]; simp [World.cell?_alloc_at]
  have Hk := Lib.hid (And.intro hk0 (And.intro hk1 (And.intro hk2 (And.intro hk3 hk4))))
  have Hwa := Lib.hid hwa
  have HEa := Lib.hid hEa
  have HV := Lib.hid (vals_ok hx hy hz hu)
  have cA := Lib.hid (impl_ActOk ⟨3, x, y, z, u⟩ wa)
  rw [hok] at cA
  clear hwa hEa hk0 hk1 hk2 hk3 hk4 hok hx hy hz hu
  go_enter Tryd.func15, Tryd.ntmps15
  go_wp2_with fail
  rw [← Hwa.out]
  refine cA.out.mono ?_
  rintro e w1 ⟨rfl, hb1⟩
  obtain ⟨k0, k1, k2, k3, k4⟩ := Hk.out
  have hs1 := hb1.size
  replace k0 := (hb1.cellAt w.heap.size (by omega) 0).trans k0
  replace k1 := (hb1.cellAt w.heap.size (by omega) 1).trans k1
  replace k2 := (hb1.cellAt w.heap.size (by omega) 2).trans k2
  replace k3 := (hb1.cellAt w.heap.size (by omega) 3).trans k3
  replace k4 := (hb1.cellAt w.heap.size (by omega) 4).trans k4
  have HE1 := Lib.hid (HEa.out.trans hb1)
  have m0 : w1.heap.size ≠ w.heap.size := by omega
  have l0 : w.heap.size < w1.heap.size := by omega
  have hE1a : Ext w (w1.alloc (.cells ([x].map (Value.int .i64)).toArray 3)) := (HEa.out.trans hb1).alloc _
  have cW := Lib.hid (impl_withNumbers ⟨#[100, 97, 121, 115]⟩ (some ⟨w1.heap.size, 0, none⟩) 1 1 [x] (w1.alloc (.cells ([x].map (Value.int .i64)).toArray 3)) (rd_lit w1 3 [x] (by simp)) (by omega) (by decide) (Lib.hid (fun v hv => HV.out v (by simp only [List.mem_cons, List.not_mem_nil, or_false] at hv ⊢; omega))) (Lib.hid (tab_ext htab.out hE1a)))
  have HE1a := Lib.hid hE1a
  clear hE1a
  clear hb1
  go_wp2_with (refine cW.out.mono ?_; rintro e w2 ⟨rfl, hb2⟩; have HB2 := Lib.hid hb2; clear hb2)
  refine bodyPost_ret (v := .tuple #[.string (numsF ⟨#[100, 97, 121, 115]⟩ [x]), .bool true]) (by simp [results, Tryd.results15, go_sem, *]) rfl ⟨by rfl, HE1a.out.trans HB2.out⟩
set_option maxRecDepth 100000 in
set_option maxHeartbeats 2000000 in
theorem impl_FormatAct_4 (x y z u : Int) (hx : 0 ≤ x ∧ x ≤ 1000) (hy : 0 ≤ y ∧ y ≤ 1000) (hz : 0 ≤ z ∧ z ≤ 1000) (hu : 0 ≤ u ∧ u ≤ 1000) (hok : acOk ⟨4, x, y, z, u⟩ = true) (w : World) (htab : Hid (Lib.TabIs Tryd.prog w "internal/strconv.uint64pow10" .u64 Lib.pow10Tab)) :
    Calls Tryd.prog 15 #[.agg #[.int .i64 4, .int .i64 x, .int .i64 y, .int .i64 z, .int .i64 u]] w fun e w' => e = .returned (.tuple #[.string (numsF ⟨#[97, 117, 100, 105, 116]⟩ ([x, y, z, u].take 0)), .bool true]) ∧ Ext w w' := by
  obtain ⟨wa, hwa⟩ : ∃ wa, wa = w.alloc (.cells #[.int .i64 4, .int .i64 x, .int .i64 y, .int .i64 z, .int .i64 u] 32) := ⟨_, rfl⟩
  have hEa : Ext w wa := by rw [hwa]; exact (Ext.refl w).alloc _
  have hsa : wa.heap.size = w.heap.size + 1 := by rw [hwa]; simp
  have hk0 : wa.cell? ⟨w.heap.size, 0, none⟩ = some (.int .i64 4) := by rw [hwa]; simp [World.cell?_alloc_at]
  have hk1 : wa.cell? ⟨w.heap.size, 1, none⟩ = some (.int .i64 x) := by rw [hwa]; simp [World.cell?_alloc_at]
  have hk2 : wa.cell? ⟨w.heap.size, 2, none⟩ = some (.int .i64 y) := by rw [hwa]; simp [World.cell?_alloc_at]
  have hk3 : wa.cell? ⟨w.heap.size, 3, none⟩ = some (.int .i64 z) := by rw [hwa]; simp [World.cell?_alloc_at]
  have hk4 : wa.cell? ⟨w.heap.size, 4, none⟩ = some (.int .i64 u) := by rw [hwa]; simp [World.cell?_alloc_at]
  have Hk := Lib.hid (And.intro hk0 (And.intro hk1 (And.intro hk2 (And.intro hk3 hk4))))
  have Hwa := Lib.hid hwa
  have HEa := Lib.hid hEa
  have HV := Lib.hid (vals_ok hx hy hz hu)
  have cA := Lib.hid (impl_ActOk ⟨4, x, y, z, u⟩ wa)
  rw [hok] at cA
  clear hwa hEa hk0 hk1 hk2 hk3 hk4 hok hx hy hz hu
  go_enter Tryd.func15, Tryd.ntmps15
  go_wp2_with fail
  rw [← Hwa.out]
  refine cA.out.mono ?_
  rintro e w1 ⟨rfl, hb1⟩
  obtain ⟨k0, k1, k2, k3, k4⟩ := Hk.out
  have hs1 := hb1.size
  replace k0 := (hb1.cellAt w.heap.size (by omega) 0).trans k0
  replace k1 := (hb1.cellAt w.heap.size (by omega) 1).trans k1
  replace k2 := (hb1.cellAt w.heap.size (by omega) 2).trans k2
  replace k3 := (hb1.cellAt w.heap.size (by omega) 3).trans k3
  replace k4 := (hb1.cellAt w.heap.size (by omega) 4).trans k4
  have HE1 := Lib.hid (HEa.out.trans hb1)
  have m0 : w1.heap.size ≠ w.heap.size := by omega
  have l0 : w.heap.size < w1.heap.size := by omega
  clear hb1
  go_wp2_with fail
  refine bodyPost_ret (v := .tuple #[.string ⟨#[97, 117, 100, 105, 116]⟩, .bool true]) (by simp [results, Tryd.results15, go_sem, *]) rfl ⟨by rfl, HE1.out⟩
set_option maxRecDepth 100000 in
set_option maxHeartbeats 2000000 in
theorem impl_FormatAct_5 (x y z u : Int) (hx : 0 ≤ x ∧ x ≤ 1000) (hy : 0 ≤ y ∧ y ≤ 1000) (hz : 0 ≤ z ∧ z ≤ 1000) (hu : 0 ≤ u ∧ u ≤ 1000) (hok : acOk ⟨5, x, y, z, u⟩ = true) (w : World) (htab : Hid (Lib.TabIs Tryd.prog w "internal/strconv.uint64pow10" .u64 Lib.pow10Tab)) :
    Calls Tryd.prog 15 #[.agg #[.int .i64 5, .int .i64 x, .int .i64 y, .int .i64 z, .int .i64 u]] w fun e w' => e = .returned (.tuple #[.string (numsF ⟨#[119, 104, 101, 114, 101]⟩ ([x, y, z, u].take 1)), .bool true]) ∧ Ext w w' := by
  obtain ⟨wa, hwa⟩ : ∃ wa, wa = w.alloc (.cells #[.int .i64 5, .int .i64 x, .int .i64 y, .int .i64 z, .int .i64 u] 32) := ⟨_, rfl⟩
  have hEa : Ext w wa := by rw [hwa]; exact (Ext.refl w).alloc _
  have hsa : wa.heap.size = w.heap.size + 1 := by rw [hwa]; simp
  have hk0 : wa.cell? ⟨w.heap.size, 0, none⟩ = some (.int .i64 5) := by rw [hwa]; simp [World.cell?_alloc_at]
  have hk1 : wa.cell? ⟨w.heap.size, 1, none⟩ = some (.int .i64 x) := by rw [hwa]; simp [World.cell?_alloc_at]
  have hk2 : wa.cell? ⟨w.heap.size, 2, none⟩ = some (.int .i64 y) := by rw [hwa]; simp [World.cell?_alloc_at]
  have hk3 : wa.cell? ⟨w.heap.size, 3, none⟩ = some (.int .i64 z) := by rw [hwa]; simp [World.cell?_alloc_at]
  have hk4 : wa.cell? ⟨w.heap.size, 4, none⟩ = some (.int .i64 u) := by rw [hwa]; simp [World.cell?_alloc_at]
  have Hk := Lib.hid (And.intro hk0 (And.intro hk1 (And.intro hk2 (And.intro hk3 hk4))))
  have Hwa := Lib.hid hwa
  have HEa := Lib.hid hEa
  have HV := Lib.hid (vals_ok hx hy hz hu)
  have cA := Lib.hid (impl_ActOk ⟨5, x, y, z, u⟩ wa)
  rw [hok] at cA
  clear hwa hEa hk0 hk1 hk2 hk3 hk4 hok hx hy hz hu
  go_enter Tryd.func15, Tryd.ntmps15
  go_wp2_with fail
  rw [← Hwa.out]
  refine cA.out.mono ?_
  rintro e w1 ⟨rfl, hb1⟩
  obtain ⟨k0, k1, k2, k3, k4⟩ := Hk.out
  have hs1 := hb1.size
  replace k0 := (hb1.cellAt w.heap.size (by omega) 0).trans k0
  replace k1 := (hb1.cellAt w.heap.size (by omega) 1).trans k1
  replace k2 := (hb1.cellAt w.heap.size (by omega) 2).trans k2
  replace k3 := (hb1.cellAt w.heap.size (by omega) 3).trans k3
  replace k4 := (hb1.cellAt w.heap.size (by omega) 4).trans k4
  have HE1 := Lib.hid (HEa.out.trans hb1)
  have m0 : w1.heap.size ≠ w.heap.size := by omega
  have l0 : w.heap.size < w1.heap.size := by omega
  have hE1a : Ext w (w1.alloc (.cells ([x].map (Value.int .i64)).toArray 3)) := (HEa.out.trans hb1).alloc _
  have cW := Lib.hid (impl_withNumbers ⟨#[119, 104, 101, 114, 101]⟩ (some ⟨w1.heap.size, 0, none⟩) 1 1 [x] (w1.alloc (.cells ([x].map (Value.int .i64)).toArray 3)) (rd_lit w1 3 [x] (by simp)) (by omega) (by decide) (Lib.hid (fun v hv => HV.out v (by simp only [List.mem_cons, List.not_mem_nil, or_false] at hv ⊢; omega))) (Lib.hid (tab_ext htab.out hE1a)))
  have HE1a := Lib.hid hE1a
  clear hE1a
  clear hb1
  go_wp2_with (refine cW.out.mono ?_; rintro e w2 ⟨rfl, hb2⟩; have HB2 := Lib.hid hb2; clear hb2)
  refine bodyPost_ret (v := .tuple #[.string (numsF ⟨#[119, 104, 101, 114, 101]⟩ [x]), .bool true]) (by simp [results, Tryd.results15, go_sem, *]) rfl ⟨by rfl, HE1a.out.trans HB2.out⟩
end Go.Proofs.YtcmbjkidgemdaaaDoor
