/- Texts of one proof, laid one behind the other (ST4, ST5, MP, MQ, MW); no condition but what stands at each theorem. -/
import Derived.Lib.SplitLaws
import Derived.Test.YtfmifllcbbfpoaaGreatDoorZA
import Derived.Test.YtfmifllcbbfpoaaGreatDoorZB
import Derived.Test.YtfmifllcbbfpoaaGreatDoorZF
import Derived.Test.YtfmifllcbbfpoaaGreatDoorZG
import Derived.Test.YtfmifllcbbfpoaaGreatDoorZH
/- FormatAct of both sides; no condition but what stands at each theorem. -/
namespace Go.Proofs.YtfmifllcbbfpoaaGreatDoor
set_option linter.unusedSimpArgs false
set_option linter.unusedVariables false
open Go.RowKit Go.Sort
def wordOf (k : Int) : ByteArray := if k = 1 then ⟨#[119, 97, 108, 107]⟩ else if k = 2 then ⟨#[109, 111, 118, 101]⟩ else if k = 3 then ⟨#[100, 97, 121, 115]⟩ else if k = 4 then ⟨#[97, 117, 100, 105, 116]⟩ else if k = 5 then ⟨#[119, 104, 101, 114, 101]⟩ else ByteArray.empty
def cntOf (k : Int) : Nat := if k = 1 then 2 else if k = 2 then 4 else if k = 3 then 1 else if k = 5 then 1 else 0
/-- The text of an act; empty where it is none. -/
def actT (a : GAct) : ByteArray := if acOk a then numsF (wordOf a.k) ([a.a, a.b, a.c, a.d].take (cntOf a.k)) else ByteArray.empty
theorem ac_cases {a : GAct} (h : acOk a = true) : (a.k = 1 ∨ a.k = 2 ∨ a.k = 3 ∨ a.k = 4 ∨ a.k = 5) ∧ (0 ≤ a.a ∧ a.a ≤ 1000) ∧ (0 ≤ a.b ∧ a.b ≤ 1000) ∧ (0 ≤ a.c ∧ a.c ≤ 1000) ∧ (0 ≤ a.d ∧ a.d ≤ 1000) := by
  unfold acOk at h
  by_cases h1 : a.k = 1
  · simp [h1, inB] at h; omega
  by_cases h2 : a.k = 2
  · simp [h2, inB] at h; omega
  by_cases h3 : a.k = 3
  · simp [h3, inB] at h; omega
  by_cases h5 : a.k = 5
  · simp [h5, inB] at h; omega
  by_cases h4 : a.k = 4
  · simp [h4] at h; omega
  · simp [h1, h2, h3, h4, h5] at h
theorem vals_ok {x y z u : Int} (hx : 0 ≤ x ∧ x ≤ 1000) (hy : 0 ≤ y ∧ y ≤ 1000) (hz : 0 ≤ z ∧ z ≤ 1000) (hu : 0 ≤ u ∧ u ≤ 1000) : ∀ v ∈ ([x, y, z, u] : List Int), 0 ≤ v ∧ v ≤ 1000 := by
  intro v hv
  simp only [List.mem_cons, List.not_mem_nil, or_false] at hv
  rcases hv with rfl | rfl | rfl | rfl <;> assumption
set_option maxRecDepth 100000 in
set_option maxHeartbeats 2000000 in
theorem spec_FormatAct_1 (x y z u : Int) (hx : 0 ≤ x ∧ x ≤ 1000) (hy : 0 ≤ y ∧ y ≤ 1000) (hz : 0 ≤ z ∧ z ≤ 1000) (hu : 0 ≤ u ∧ u ≤ 1000) (hok : acOk ⟨1, x, y, z, u⟩ = true) (w : World) :
    Calls Tryz.prog 115 #[.agg #[.int .i64 1, .int .i64 x, .int .i64 y, .int .i64 z, .int .i64 u]] w fun e w' => e = .returned (.tuple #[.string (numsF ⟨#[119, 97, 108, 107]⟩ ([x, y, z, u].take 2)), .bool true]) ∧ Ext w w' := by
  obtain ⟨wa, hwa⟩ : ∃ wa, wa = w.alloc (.cells #[.int .i64 1, .int .i64 x, .int .i64 y, .int .i64 z, .int .i64 u] 37) := ⟨_, rfl⟩
  have hEa : Ext w wa := by rw [hwa]; exact (Ext.refl w).alloc _
  have hsa : wa.heap.size = w.heap.size + 1 := by rw [hwa]; simp
  have hk0 : wa.cell? ⟨w.heap.size, 0, none⟩ = some (.int .i64 1) := by rw [hwa]; simp [World.cell?_alloc_at]
  have hk1 : wa.cell? ⟨w.heap.size, 1, none⟩ = some (.int .i64 x) := by rw [hwa]; simp [World.cell?_alloc_at]
  have hk2 : wa.cell? ⟨w.heap.size, 2, none⟩ = some (.int .i64 y) := by rw [hwa]; simp [World.cell?_alloc_at]
  have hk3 : wa.cell? ⟨w.heap.size, 3, none⟩ = some (.int .i64 z) := by rw [hwa]; simp [World.cell?_alloc_at]
  have hk4 : wa.cell? ⟨w.heap.size, 4, none⟩ = some (.int .i64 u) := by rw [hwa]; simp [World.cell?_alloc_at]
  have Hk := Lib.hid (And.intro hk0 (And.intro hk1 (And.intro hk2 (And.intro hk3 hk4))))
  have Hwa := Lib.hid hwa
  have HEa := Lib.hid hEa
  have HV := Lib.hid (vals_ok hx hy hz hu)
  obtain ⟨xs, hxs⟩ : ∃ xs : List Int, xs = [x, y, z, u] := ⟨_, rfl⟩
  rw [← hxs] at HV ⊢
  have Hxs := Lib.hid hxs
  have cA := Lib.hid (spec_ActOk ⟨1, x, y, z, u⟩ wa)
  rw [hok] at cA
  clear hwa hEa hk0 hk1 hk2 hk3 hk4 hxs hok hx hy hz hu
  go_enter Tryz.func115, Tryz.ntmps115
  go_wp2_with fail
  rw [← Hwa.out]
  refine cA.out.mono ?_
  rintro e w1 ⟨rfl, hb1⟩
  obtain ⟨k0, k1, k2, k3, k4⟩ := Hk.out
  have hs1 := hb1.size
  replace k0 := (hb1.cellAt w.heap.size (by omega) 0).trans k0
  replace k1 := (hb1.cellAt w.heap.size (by omega) 1).trans k1
  replace k2 := (hb1.cellAt w.heap.size (by omega) 2).trans k2
  replace k3 := (hb1.cellAt w.heap.size (by omega) 3).trans k3
  replace k4 := (hb1.cellAt w.heap.size (by omega) 4).trans k4
  have HE1 := Lib.hid (HEa.out.trans hb1)
  have m0 : w1.heap.size ≠ w.heap.size := by omega
  have l0 : w.heap.size < w1.heap.size := by omega
  clear hb1
  go_wp2_with fail
  obtain ⟨wo, hwo⟩ : ∃ wo, wo = ((w1.alloc (.cells #[.string ⟨#[]⟩, .string ⟨#[119, 97, 108, 107]⟩, .string ⟨#[109, 111, 118, 101]⟩, .string ⟨#[100, 97, 121, 115]⟩, .string ⟨#[97, 117, 100, 105, 116]⟩, .string ⟨#[119, 104, 101, 114, 101]⟩] 9)).alloc (.cells #[.int .i64 0, .int .i64 2, .int .i64 4, .int .i64 1, .int .i64 0, .int .i64 1] 3)).alloc (.cells #[.int .i64 x, .int .i64 y, .int .i64 z, .int .i64 u] 3) := ⟨_, rfl⟩
  have hEo : Ext w1 wo := by rw [hwo]; exact (((Ext.refl w1).alloc _).alloc _).alloc _
  have hr : Rd wo 1 (some ⟨w1.heap.size + 1 + 1, 0, none⟩) 4 (xs.flatMap ienc) := by
    have := rd_lit ((w1.alloc (.cells #[.string ⟨#[]⟩, .string ⟨#[119, 97, 108, 107]⟩, .string ⟨#[109, 111, 118, 101]⟩, .string ⟨#[100, 97, 121, 115]⟩, .string ⟨#[97, 117, 100, 105, 116]⟩, .string ⟨#[119, 104, 101, 114, 101]⟩] 9)).alloc (.cells #[.int .i64 0, .int .i64 2, .int .i64 4, .int .i64 1, .int .i64 0, .int .i64 1] 3)) 3 [x, y, z, u] (by simp)
    rw [show ((w1.alloc (.cells #[.string ⟨#[]⟩, .string ⟨#[119, 97, 108, 107]⟩, .string ⟨#[109, 111, 118, 101]⟩, .string ⟨#[100, 97, 121, 115]⟩, .string ⟨#[97, 117, 100, 105, 116]⟩, .string ⟨#[119, 104, 101, 114, 101]⟩] 9)).alloc (.cells #[.int .i64 0, .int .i64 2, .int .i64 4, .int .i64 1, .int .i64 0, .int .i64 1] 3)).heap.size = w1.heap.size + 1 + 1 by simp] at this
    rw [hwo, Hxs.out]; exact this
  rw [← hwo]
  have HR := Lib.hid hr
  have HEo := Lib.hid (HE1.out.trans hEo)
  have hl : Hid (xs.length = 4) := by unfold Hid; rw [Hxs.out]; rfl
  clear hr hwo hEo k0 k1 k2 k3 k4
  go_loopw [4, 7] (fun s i wr => ∃ (k : Nat) (t : ByteArray), k ≤ 2 ∧ i = .int .i64 k ∧ s = .string t ∧ t.size ≤ 5 + 30 * k ∧ Hid (numsF ⟨#[119, 97, 108, 107]⟩ (xs.take 2) = numsF t ((xs.take 2).drop k)) ∧ Ext wo wr) (fun _ i _ => 2 - (intOf i).toNat)
  case atStart => exact ⟨0, _, Nat.zero_le _, rfl, rfl, by decide, rfl, Ext.refl _⟩
  case round =>
    obtain ⟨k, t, hk, rfl, rfl, ht, hz, hb⟩ := hrel
    by_cases hlt : k < 2
    · obtain ⟨b, off, x, hA, hbs, hxk, p0⟩ := ienc_at (HR.out.keep hb) (show k < 4 by omega)
      injection hA with hA
      injection hA with h1 h2
      subst h1 h2
      rw [Nat.zero_add] at p0
      have hxk' : (xs.take 2)[k]? = some x := by rw [List.getElem?_take, if_pos hlt]; exact hxk
      have HD := Lib.hid (drop_cons hxk')
      have HB := Lib.hid hb
      have i0 : (0 : Int) ≤ (k : Int) := by omega
      have i1 : (k : Int) < 4 := by omega
      obtain ⟨hx0, hx1⟩ := HV.out x (List.mem_of_getElem? hxk)
      clear hb hxk hxk'
      obtain ⟨z', hzz⟩ := Int.eq_ofNat_of_zero_le hx0
      subst hzz
      have hsz := itext_size z' (by omega) (by omega)
      have HT : Hid (numsF ⟨#[119, 97, 108, 107]⟩ (xs.take 2) = numsF (t ++ sp1 ++ itext z') ((xs.take 2).drop (k + 1))) := by unfold Hid; rw [hz.out, HD.out, numsF]
      have hts : (t ++ sp1 ++ itext z').size ≤ 5 + 30 * (k + 1) := by
        rw [ByteArray.size_append, ByteArray.size_append]
        have : sp1.size = 1 := rfl
        omega
      obtain ⟨T, hT⟩ : ∃ T, T = itext z' := ⟨_, rfl⟩
      have hF := Lib.hid (fun w => spec_FormatInt z' w (by omega))
      rw [← hT] at hsz HT hts hF
      clear hT
      go_wp2_with fail
      refine (hF.out _).mono ?_
      rintro e w2 ⟨rfl, h1⟩
      have HB1 := Lib.hid (HB.out.trans h1)
      clear h1
      go_wp2_with fail
      go_roundw
      case rel => exact ⟨k + 1, t ++ sp1 ++ T, by omega, by go_num, by first | rfl | (rw [ByteArray.append_assoc]; rfl), hts, HT, HB1.out⟩
      case measure => simp [intOf]; omega
    · obtain rfl : k = 2 := by omega
      have HT : Hid (numsF ⟨#[119, 97, 108, 107]⟩ (xs.take 2) = t) := by unfold Hid; rw [hz.out, drop_nil (by rw [List.length_take, hl.out]; omega)]; rfl
      have HB := Lib.hid hb
      clear hb
      go_wp2_with fail
      refine bodyPost_ret (v := .tuple #[.string t, .bool true]) (by simp [results, Tryz.results115, go_sem, *]) rfl ⟨by rw [HT.out], HEo.out.trans HB.out⟩
set_option maxRecDepth 100000 in
set_option maxHeartbeats 2000000 in
theorem spec_FormatAct_2 (x y z u : Int) (hx : 0 ≤ x ∧ x ≤ 1000) (hy : 0 ≤ y ∧ y ≤ 1000) (hz : 0 ≤ z ∧ z ≤ 1000) (hu : 0 ≤ u ∧ u ≤ 1000) (hok : acOk ⟨2, x, y, z, u⟩ = true) (w : World) :
    Calls Tryz.prog 115 #[.agg #[.int .i64 2, .int .i64 x, .int .i64 y, .int .i64 z, .int .i64 u]] w fun e w' => e = .returned (.tuple #[.string (numsF ⟨#[109, 111, 118, 101]⟩ ([x, y, z, u].take 4)), .bool true]) ∧ Ext w w' := by
  obtain ⟨wa, hwa⟩ : ∃ wa, wa = w.alloc (.cells #[.int .i64 2, .int .i64 x, .int .i64 y, .int .i64 z, .int .i64 u] 37) := ⟨_, rfl⟩
  have hEa : Ext w wa := by rw [hwa]; exact (Ext.refl w).alloc _
  have hsa : wa.heap.size = w.heap.size + 1 := by rw [hwa]; simp
  have hk0 : wa.cell? ⟨w.heap.size, 0, none⟩ = some (.int .i64 2) := by rw [hwa]; simp [World.cell?_alloc_at]
  have hk1 : wa.cell? ⟨w.heap.size, 1, none⟩ = some (.int .i64 x) := by rw [hwa]; simp [World.cell?_alloc_at]
  have hk2 : wa.cell? ⟨w.heap.size, 2, none⟩ = some (.int .i64 y) := by rw [hwa]; simp [World.cell?_alloc_at]
  have hk3 : wa.cell? ⟨w.heap.size, 3, none⟩ = some (.int .i64 z) := by rw [hwa]; simp [World.cell?_alloc_at]
  have hk4 : wa.cell? ⟨w.heap.size, 4, none⟩ = some (.int .i64 u) := by rw [hwa]; simp [World.cell?_alloc_at]
  have Hk := Lib.hid (And.intro hk0 (And.intro hk1 (And.intro hk2 (And.intro hk3 hk4))))
  have Hwa := Lib.hid hwa
  have HEa := Lib.hid hEa
  have HV := Lib.hid (vals_ok hx hy hz hu)
  obtain ⟨xs, hxs⟩ : ∃ xs : List Int, xs = [x, y, z, u] := ⟨_, rfl⟩
  rw [← hxs] at HV ⊢
  have Hxs := Lib.hid hxs
  have cA := Lib.hid (spec_ActOk ⟨2, x, y, z, u⟩ wa)
  rw [hok] at cA
  clear hwa hEa hk0 hk1 hk2 hk3 hk4 hxs hok hx hy hz hu
  go_enter Tryz.func115, Tryz.ntmps115
  go_wp2_with fail
  rw [← Hwa.out]
  refine cA.out.mono ?_
  rintro e w1 ⟨rfl, hb1⟩
  obtain ⟨k0, k1, k2, k3, k4⟩ := Hk.out
  have hs1 := hb1.size
  replace k0 := (hb1.cellAt w.heap.size (by omega) 0).trans k0
  replace k1 := (hb1.cellAt w.heap.size (by omega) 1).trans k1
  replace k2 := (hb1.cellAt w.heap.size (by omega) 2).trans k2
  replace k3 := (hb1.cellAt w.heap.size (by omega) 3).trans k3
  replace k4 := (hb1.cellAt w.heap.size (by omega) 4).trans k4
  have HE1 := Lib.hid (HEa.out.trans hb1)
  have m0 : w1.heap.size ≠ w.heap.size := by omega
  have l0 : w.heap.size < w1.heap.size := by omega
  clear hb1
  go_wp2_with fail
  obtain ⟨wo, hwo⟩ : ∃ wo, wo = ((w1.alloc (.cells #[.string ⟨#[]⟩, .string ⟨#[119, 97, 108, 107]⟩, .string ⟨#[109, 111, 118, 101]⟩, .string ⟨#[100, 97, 121, 115]⟩, .string ⟨#[97, 117, 100, 105, 116]⟩, .string ⟨#[119, 104, 101, 114, 101]⟩] 9)).alloc (.cells #[.int .i64 0, .int .i64 2, .int .i64 4, .int .i64 1, .int .i64 0, .int .i64 1] 3)).alloc (.cells #[.int .i64 x, .int .i64 y, .int .i64 z, .int .i64 u] 3) := ⟨_, rfl⟩
  have hEo : Ext w1 wo := by rw [hwo]; exact (((Ext.refl w1).alloc _).alloc _).alloc _
  have hr : Rd wo 1 (some ⟨w1.heap.size + 1 + 1, 0, none⟩) 4 (xs.flatMap ienc) := by
    have := rd_lit ((w1.alloc (.cells #[.string ⟨#[]⟩, .string ⟨#[119, 97, 108, 107]⟩, .string ⟨#[109, 111, 118, 101]⟩, .string ⟨#[100, 97, 121, 115]⟩, .string ⟨#[97, 117, 100, 105, 116]⟩, .string ⟨#[119, 104, 101, 114, 101]⟩] 9)).alloc (.cells #[.int .i64 0, .int .i64 2, .int .i64 4, .int .i64 1, .int .i64 0, .int .i64 1] 3)) 3 [x, y, z, u] (by simp)
    rw [show ((w1.alloc (.cells #[.string ⟨#[]⟩, .string ⟨#[119, 97, 108, 107]⟩, .string ⟨#[109, 111, 118, 101]⟩, .string ⟨#[100, 97, 121, 115]⟩, .string ⟨#[97, 117, 100, 105, 116]⟩, .string ⟨#[119, 104, 101, 114, 101]⟩] 9)).alloc (.cells #[.int .i64 0, .int .i64 2, .int .i64 4, .int .i64 1, .int .i64 0, .int .i64 1] 3)).heap.size = w1.heap.size + 1 + 1 by simp] at this
    rw [hwo, Hxs.out]; exact this
  rw [← hwo]
  have HR := Lib.hid hr
  have HEo := Lib.hid (HE1.out.trans hEo)
  have hl : Hid (xs.length = 4) := by unfold Hid; rw [Hxs.out]; rfl
  clear hr hwo hEo k0 k1 k2 k3 k4
  go_loopw [4, 7] (fun s i wr => ∃ (k : Nat) (t : ByteArray), k ≤ 4 ∧ i = .int .i64 k ∧ s = .string t ∧ t.size ≤ 5 + 30 * k ∧ Hid (numsF ⟨#[109, 111, 118, 101]⟩ (xs.take 4) = numsF t ((xs.take 4).drop k)) ∧ Ext wo wr) (fun _ i _ => 4 - (intOf i).toNat)
  case atStart => exact ⟨0, _, Nat.zero_le _, rfl, rfl, by decide, rfl, Ext.refl _⟩
  case round =>
    obtain ⟨k, t, hk, rfl, rfl, ht, hz, hb⟩ := hrel
    by_cases hlt : k < 4
    · obtain ⟨b, off, x, hA, hbs, hxk, p0⟩ := ienc_at (HR.out.keep hb) (show k < 4 by omega)
      injection hA with hA
      injection hA with h1 h2
      subst h1 h2
      rw [Nat.zero_add] at p0
      have hxk' : (xs.take 4)[k]? = some x := by rw [List.getElem?_take, if_pos hlt]; exact hxk
      have HD := Lib.hid (drop_cons hxk')
      have HB := Lib.hid hb
      have i0 : (0 : Int) ≤ (k : Int) := by omega
      have i1 : (k : Int) < 4 := by omega
      obtain ⟨hx0, hx1⟩ := HV.out x (List.mem_of_getElem? hxk)
      clear hb hxk hxk'
      obtain ⟨z', hzz⟩ := Int.eq_ofNat_of_zero_le hx0
      subst hzz
      have hsz := itext_size z' (by omega) (by omega)
      have HT : Hid (numsF ⟨#[109, 111, 118, 101]⟩ (xs.take 4) = numsF (t ++ sp1 ++ itext z') ((xs.take 4).drop (k + 1))) := by unfold Hid; rw [hz.out, HD.out, numsF]
      have hts : (t ++ sp1 ++ itext z').size ≤ 5 + 30 * (k + 1) := by
        rw [ByteArray.size_append, ByteArray.size_append]
        have : sp1.size = 1 := rfl
        omega
      obtain ⟨T, hT⟩ : ∃ T, T = itext z' := ⟨_, rfl⟩
      have hF := Lib.hid (fun w => spec_FormatInt z' w (by omega))
      rw [← hT] at hsz HT hts hF
      clear hT
      go_wp2_with fail
      refine (hF.out _).mono ?_
      rintro e w2 ⟨rfl, h1⟩
      have HB1 := Lib.hid (HB.out.trans h1)
      clear h1
      go_wp2_with fail
      go_roundw
      case rel => exact ⟨k + 1, t ++ sp1 ++ T, by omega, by go_num, by first | rfl | (rw [ByteArray.append_assoc]; rfl), hts, HT, HB1.out⟩
      case measure => simp [intOf]; omega
    · obtain rfl : k = 4 := by omega
      have HT : Hid (numsF ⟨#[109, 111, 118, 101]⟩ (xs.take 4) = t) := by unfold Hid; rw [hz.out, drop_nil (by rw [List.length_take, hl.out]; omega)]; rfl
      have HB := Lib.hid hb
      clear hb
      go_wp2_with fail
      refine bodyPost_ret (v := .tuple #[.string t, .bool true]) (by simp [results, Tryz.results115, go_sem, *]) rfl ⟨by rw [HT.out], HEo.out.trans HB.out⟩
set_option maxRecDepth 100000 in
set_option maxHeartbeats 2000000 in
theorem spec_FormatAct_3 (x y z u : Int) (hx : 0 ≤ x ∧ x ≤ 1000) (hy : 0 ≤ y ∧ y ≤ 1000) (hz : 0 ≤ z ∧ z ≤ 1000) (hu : 0 ≤ u ∧ u ≤ 1000) (hok : acOk ⟨3, x, y, z, u⟩ = true) (w : World) :
    Calls Tryz.prog 115 #[.agg #[.int .i64 3, .int .i64 x, .int .i64 y, .int .i64 z, .int .i64 u]] w fun e w' => e = .returned (.tuple #[.string (numsF ⟨#[100, 97, 121, 115]⟩ ([x, y, z, u].take 1)), .bool true]) ∧ Ext w w' := by
  obtain ⟨wa, hwa⟩ : ∃ wa, wa = w.alloc (.cells #[.int .i64 3, .int .i64 x, .int .i64 y, .int .i64 z, .int .i64 u] 37) := ⟨_, rfl⟩
  have hEa : Ext w wa := by rw [hwa]; exact (Ext.refl w).alloc _
  have hsa : wa.heap.size = w.heap.size + 1 := by rw [hwa]; simp
  have hk0 : wa.cell? ⟨w.heap.size, 0, none⟩ = some (.int .i64 3) := by rw [hwa]; simp [World.cell?_alloc_at]
  have hk1 : wa.cell? ⟨w.heap.size, 1, none⟩ = some (.int .i64 x) := by rw [hwa]; simp [World.cell?_alloc_at]
  have hk2 : wa.cell? ⟨w.heap.size, 2, none⟩ = some (.int .i64 y) := by rw [hwa]; simp [World.cell?_alloc_at]
  have hk3 : wa.cell? ⟨w.heap.size, 3, none⟩ = some (.int .i64 z) := by rw [hwa]; simp [World.cell?_alloc_at]
  have hk4 : wa.cell? ⟨w.heap.size, 4, none⟩ = some (.int .i64 u) := by rw [hwa]; simp [World.cell?_alloc_at]
  have Hk := Lib.hid (And.intro hk0 (And.intro hk1 (And.intro hk2 (And.intro hk3 hk4))))
  have Hwa := Lib.hid hwa
  have HEa := Lib.hid hEa
  have HV := Lib.hid (vals_ok hx hy hz hu)
  obtain ⟨xs, hxs⟩ : ∃ xs : List Int, xs = [x, y, z, u] := ⟨_, rfl⟩
  rw [← hxs] at HV ⊢
  have Hxs := Lib.hid hxs
  have cA := Lib.hid (spec_ActOk ⟨3, x, y, z, u⟩ wa)
  rw [hok] at cA
  clear hwa hEa hk0 hk1 hk2 hk3 hk4 hxs hok hx hy hz hu
  go_enter Tryz.func115, Tryz.ntmps115
  go_wp2_with fail
  rw [← Hwa.out]
  refine cA.out.mono ?_
  rintro e w1 ⟨rfl, hb1⟩
  obtain ⟨k0, k1, k2, k3, k4⟩ := Hk.out
  have hs1 := hb1.size
  replace k0 := (hb1.cellAt w.heap.size (by omega) 0).trans k0
  replace k1 := (hb1.cellAt w.heap.size (by omega) 1).trans k1
  replace k2 := (hb1.cellAt w.heap.size (by omega) 2).trans k2
  replace k3 := (hb1.cellAt w.heap.size (by omega) 3).trans k3
  replace k4 := (hb1.cellAt w.heap.size (by omega) 4).trans k4
  have HE1 := Lib.hid (HEa.out.trans hb1)
  have m0 : w1.heap.size ≠ w.heap.size := by omega
  have l0 : w.heap.size < w1.heap.size := by omega
  clear hb1
  go_wp2_with fail
  obtain ⟨wo, hwo⟩ : ∃ wo, wo = ((w1.alloc (.cells #[.string ⟨#[]⟩, .string ⟨#[119, 97, 108, 107]⟩, .string ⟨#[109, 111, 118, 101]⟩, .string ⟨#[100, 97, 121, 115]⟩, .string ⟨#[97, 117, 100, 105, 116]⟩, .string ⟨#[119, 104, 101, 114, 101]⟩] 9)).alloc (.cells #[.int .i64 0, .int .i64 2, .int .i64 4, .int .i64 1, .int .i64 0, .int .i64 1] 3)).alloc (.cells #[.int .i64 x, .int .i64 y, .int .i64 z, .int .i64 u] 3) := ⟨_, rfl⟩
  have hEo : Ext w1 wo := by rw [hwo]; exact (((Ext.refl w1).alloc _).alloc _).alloc _
  have hr : Rd wo 1 (some ⟨w1.heap.size + 1 + 1, 0, none⟩) 4 (xs.flatMap ienc) := by
    have := rd_lit ((w1.alloc (.cells #[.string ⟨#[]⟩, .string ⟨#[119, 97, 108, 107]⟩, .string ⟨#[109, 111, 118, 101]⟩, .string ⟨#[100, 97, 121, 115]⟩, .string ⟨#[97, 117, 100, 105, 116]⟩, .string ⟨#[119, 104, 101, 114, 101]⟩] 9)).alloc (.cells #[.int .i64 0, .int .i64 2, .int .i64 4, .int .i64 1, .int .i64 0, .int .i64 1] 3)) 3 [x, y, z, u] (by simp)
    rw [show ((w1.alloc (.cells #[.string ⟨#[]⟩, .string ⟨#[119, 97, 108, 107]⟩, .string ⟨#[109, 111, 118, 101]⟩, .string ⟨#[100, 97, 121, 115]⟩, .string ⟨#[97, 117, 100, 105, 116]⟩, .string ⟨#[119, 104, 101, 114, 101]⟩] 9)).alloc (.cells #[.int .i64 0, .int .i64 2, .int .i64 4, .int .i64 1, .int .i64 0, .int .i64 1] 3)).heap.size = w1.heap.size + 1 + 1 by simp] at this
    rw [hwo, Hxs.out]; exact this
  rw [← hwo]
  have HR := Lib.hid hr
  have HEo := Lib.hid (HE1.out.trans hEo)
  have hl : Hid (xs.length = 4) := by unfold Hid; rw [Hxs.out]; rfl
  clear hr hwo hEo k0 k1 k2 k3 k4
  go_loopw [4, 7] (fun s i wr => ∃ (k : Nat) (t : ByteArray), k ≤ 1 ∧ i = .int .i64 k ∧ s = .string t ∧ t.size ≤ 5 + 30 * k ∧ Hid (numsF ⟨#[100, 97, 121, 115]⟩ (xs.take 1) = numsF t ((xs.take 1).drop k)) ∧ Ext wo wr) (fun _ i _ => 1 - (intOf i).toNat)
  case atStart => exact ⟨0, _, Nat.zero_le _, rfl, rfl, by decide, rfl, Ext.refl _⟩
  case round =>
    obtain ⟨k, t, hk, rfl, rfl, ht, hz, hb⟩ := hrel
    by_cases hlt : k < 1
    · obtain ⟨b, off, x, hA, hbs, hxk, p0⟩ := ienc_at (HR.out.keep hb) (show k < 4 by omega)
      injection hA with hA
      injection hA with h1 h2
      subst h1 h2
      rw [Nat.zero_add] at p0
      have hxk' : (xs.take 1)[k]? = some x := by rw [List.getElem?_take, if_pos hlt]; exact hxk
      have HD := Lib.hid (drop_cons hxk')
      have HB := Lib.hid hb
      have i0 : (0 : Int) ≤ (k : Int) := by omega
      have i1 : (k : Int) < 4 := by omega
      obtain ⟨hx0, hx1⟩ := HV.out x (List.mem_of_getElem? hxk)
      clear hb hxk hxk'
      obtain ⟨z', hzz⟩ := Int.eq_ofNat_of_zero_le hx0
      subst hzz
      have hsz := itext_size z' (by omega) (by omega)
      have HT : Hid (numsF ⟨#[100, 97, 121, 115]⟩ (xs.take 1) = numsF (t ++ sp1 ++ itext z') ((xs.take 1).drop (k + 1))) := by unfold Hid; rw [hz.out, HD.out, numsF]
      have hts : (t ++ sp1 ++ itext z').size ≤ 5 + 30 * (k + 1) := by
        rw [ByteArray.size_append, ByteArray.size_append]
        have : sp1.size = 1 := rfl
        omega
      obtain ⟨T, hT⟩ : ∃ T, T = itext z' := ⟨_, rfl⟩
      have hF := Lib.hid (fun w => spec_FormatInt z' w (by omega))
      rw [← hT] at hsz HT hts hF
      clear hT
      go_wp2_with fail
      refine (hF.out _).mono ?_
      rintro e w2 ⟨rfl, h1⟩
      have HB1 := Lib.hid (HB.out.trans h1)
      clear h1
      go_wp2_with fail
      go_roundw
      case rel => exact ⟨k + 1, t ++ sp1 ++ T, by omega, by go_num, by first | rfl | (rw [ByteArray.append_assoc]; rfl), hts, HT, HB1.out⟩
      case measure => simp [intOf]; omega
    · obtain rfl : k = 1 := by omega
      have HT : Hid (numsF ⟨#[100, 97, 121, 115]⟩ (xs.take 1) = t) := by unfold Hid; rw [hz.out, drop_nil (by rw [List.length_take, hl.out]; omega)]; rfl
      have HB := Lib.hid hb
      clear hb
      go_wp2_with fail
      refine bodyPost_ret (v := .tuple #[.string t, .bool true]) (by simp [results, Tryz.results115, go_sem, *]) rfl ⟨by rw [HT.out], HEo.out.trans HB.out⟩
set_option maxRecDepth 100000 in
set_option maxHeartbeats 2000000 in
theorem spec_FormatAct_4 (x y z u : Int) (hx : 0 ≤ x ∧ x ≤ 1000) (hy : 0 ≤ y ∧ y ≤ 1000) (hz : 0 ≤ z ∧ z ≤ 1000) (hu : 0 ≤ u ∧ u ≤ 1000) (hok : acOk ⟨4, x, y, z, u⟩ = true) (w : World) :
    Calls Tryz.prog 115 #[.agg #[.int .i64 4, .int .i64 x, .int .i64 y, .int .i64 z, .int .i64 u]] w fun e w' => e = .returned (.tuple #[.string (numsF ⟨#[97, 117, 100, 105, 116]⟩ ([x, y, z, u].take 0)), .bool true]) ∧ Ext w w' := by
  obtain ⟨wa, hwa⟩ : ∃ wa, wa = w.alloc (.cells #[.int .i64 4, .int .i64 x, .int .i64 y, .int .i64 z, .int .i64 u] 37) := ⟨_, rfl⟩
  have hEa : Ext w wa := by rw [hwa]; exact (Ext.refl w).alloc _
  have hsa : wa.heap.size = w.heap.size + 1 := by rw [hwa]; simp
  have hk0 : wa.cell? ⟨w.heap.size, 0, none⟩ = some (.int .i64 4) := by rw [hwa]; simp [World.cell?_alloc_at]
  have hk1 : wa.cell? ⟨w.heap.size, 1, none⟩ = some (.int .i64 x) := by rw [hwa]; simp [World.cell?_alloc_at]
  have hk2 : wa.cell? ⟨w.heap.size, 2, none⟩ = some (.int .i64 y) := by rw [hwa]; simp [World.cell?_alloc_at]
  have hk3 : wa.cell? ⟨w.heap.size, 3, none⟩ = some (.int .i64 z) := by rw [hwa]; simp [World.cell?_alloc_at]
  have hk4 : wa.cell? ⟨w.heap.size, 4, none⟩ = some (.int .i64 u) := by rw [hwa]; simp [World.cell?_alloc_at]
  have Hk := Lib.hid (And.intro hk0 (And.intro hk1 (And.intro hk2 (And.intro hk3 hk4))))
  have Hwa := Lib.hid hwa
  have HEa := Lib.hid hEa
  have HV := Lib.hid (vals_ok hx hy hz hu)
  obtain ⟨xs, hxs⟩ : ∃ xs : List Int, xs = [x, y, z, u] := ⟨_, rfl⟩
  rw [← hxs] at HV ⊢
  have Hxs := Lib.hid hxs
  have cA := Lib.hid (spec_ActOk ⟨4, x, y, z, u⟩ wa)
  rw [hok] at cA
  clear hwa hEa hk0 hk1 hk2 hk3 hk4 hxs hok hx hy hz hu
  go_enter Tryz.func115, Tryz.ntmps115
  go_wp2_with fail
  rw [← Hwa.out]
  refine cA.out.mono ?_
  rintro e w1 ⟨rfl, hb1⟩
  obtain ⟨k0, k1, k2, k3, k4⟩ := Hk.out
  have hs1 := hb1.size
  replace k0 := (hb1.cellAt w.heap.size (by omega) 0).trans k0
  replace k1 := (hb1.cellAt w.heap.size (by omega) 1).trans k1
  replace k2 := (hb1.cellAt w.heap.size (by omega) 2).trans k2
  replace k3 := (hb1.cellAt w.heap.size (by omega) 3).trans k3
  replace k4 := (hb1.cellAt w.heap.size (by omega) 4).trans k4
  have HE1 := Lib.hid (HEa.out.trans hb1)
  have m0 : w1.heap.size ≠ w.heap.size := by omega
  have l0 : w.heap.size < w1.heap.size := by omega
  clear hb1
  go_wp2_with fail
  obtain ⟨wo, hwo⟩ : ∃ wo, wo = ((w1.alloc (.cells #[.string ⟨#[]⟩, .string ⟨#[119, 97, 108, 107]⟩, .string ⟨#[109, 111, 118, 101]⟩, .string ⟨#[100, 97, 121, 115]⟩, .string ⟨#[97, 117, 100, 105, 116]⟩, .string ⟨#[119, 104, 101, 114, 101]⟩] 9)).alloc (.cells #[.int .i64 0, .int .i64 2, .int .i64 4, .int .i64 1, .int .i64 0, .int .i64 1] 3)).alloc (.cells #[.int .i64 x, .int .i64 y, .int .i64 z, .int .i64 u] 3) := ⟨_, rfl⟩
  have hEo : Ext w1 wo := by rw [hwo]; exact (((Ext.refl w1).alloc _).alloc _).alloc _
  have hr : Rd wo 1 (some ⟨w1.heap.size + 1 + 1, 0, none⟩) 4 (xs.flatMap ienc) := by
    have := rd_lit ((w1.alloc (.cells #[.string ⟨#[]⟩, .string ⟨#[119, 97, 108, 107]⟩, .string ⟨#[109, 111, 118, 101]⟩, .string ⟨#[100, 97, 121, 115]⟩, .string ⟨#[97, 117, 100, 105, 116]⟩, .string ⟨#[119, 104, 101, 114, 101]⟩] 9)).alloc (.cells #[.int .i64 0, .int .i64 2, .int .i64 4, .int .i64 1, .int .i64 0, .int .i64 1] 3)) 3 [x, y, z, u] (by simp)
    rw [show ((w1.alloc (.cells #[.string ⟨#[]⟩, .string ⟨#[119, 97, 108, 107]⟩, .string ⟨#[109, 111, 118, 101]⟩, .string ⟨#[100, 97, 121, 115]⟩, .string ⟨#[97, 117, 100, 105, 116]⟩, .string ⟨#[119, 104, 101, 114, 101]⟩] 9)).alloc (.cells #[.int .i64 0, .int .i64 2, .int .i64 4, .int .i64 1, .int .i64 0, .int .i64 1] 3)).heap.size = w1.heap.size + 1 + 1 by simp] at this
    rw [hwo, Hxs.out]; exact this
  rw [← hwo]
  have HR := Lib.hid hr
  have HEo := Lib.hid (HE1.out.trans hEo)
  have hl : Hid (xs.length = 4) := by unfold Hid; rw [Hxs.out]; rfl
  clear hr hwo hEo k0 k1 k2 k3 k4
  go_loopw [4, 7] (fun s i wr => ∃ (k : Nat) (t : ByteArray), k ≤ 0 ∧ i = .int .i64 k ∧ s = .string t ∧ t.size ≤ 5 + 30 * k ∧ Hid (numsF ⟨#[97, 117, 100, 105, 116]⟩ (xs.take 0) = numsF t ((xs.take 0).drop k)) ∧ Ext wo wr) (fun _ i _ => 0 - (intOf i).toNat)
  case atStart => exact ⟨0, _, Nat.zero_le _, rfl, rfl, by decide, rfl, Ext.refl _⟩
  case round =>
    obtain ⟨k, t, hk, rfl, rfl, ht, hz, hb⟩ := hrel
    by_cases hlt : k < 0
    · omega
    · obtain rfl : k = 0 := by omega
      have HT : Hid (numsF ⟨#[97, 117, 100, 105, 116]⟩ (xs.take 0) = t) := by unfold Hid; rw [hz.out, drop_nil (by rw [List.length_take, hl.out]; omega)]; rfl
      have HB := Lib.hid hb
      clear hb
      go_wp2_with fail
      refine bodyPost_ret (v := .tuple #[.string t, .bool true]) (by simp [results, Tryz.results115, go_sem, *]) rfl ⟨by rw [HT.out], HEo.out.trans HB.out⟩
set_option maxRecDepth 100000 in
set_option maxHeartbeats 2000000 in
theorem spec_FormatAct_5 (x y z u : Int) (hx : 0 ≤ x ∧ x ≤ 1000) (hy : 0 ≤ y ∧ y ≤ 1000) (hz : 0 ≤ z ∧ z ≤ 1000) (hu : 0 ≤ u ∧ u ≤ 1000) (hok : acOk ⟨5, x, y, z, u⟩ = true) (w : World) :
    Calls Tryz.prog 115 #[.agg #[.int .i64 5, .int .i64 x, .int .i64 y, .int .i64 z, .int .i64 u]] w fun e w' => e = .returned (.tuple #[.string (numsF ⟨#[119, 104, 101, 114, 101]⟩ ([x, y, z, u].take 1)), .bool true]) ∧ Ext w w' := by
  obtain ⟨wa, hwa⟩ : ∃ wa, wa = w.alloc (.cells #[.int .i64 5, .int .i64 x, .int .i64 y, .int .i64 z, .int .i64 u] 37) := ⟨_, rfl⟩
  have hEa : Ext w wa := by rw [hwa]; exact (Ext.refl w).alloc _
  have hsa : wa.heap.size = w.heap.size + 1 := by rw [hwa]; simp
  have hk0 : wa.cell? ⟨w.heap.size, 0, none⟩ = some (.int .i64 5) := by rw [hwa]; simp [World.cell?_alloc_at]
  have hk1 : wa.cell? ⟨w.heap.size, 1, none⟩ = some (.int .i64 x) := by rw [hwa]; simp [World.cell?_alloc_at]
  have hk2 : wa.cell? ⟨w.heap.size, 2, none⟩ = some (.int .i64 y) := by rw [hwa]; simp [World.cell?_alloc_at]
  have hk3 : wa.cell? ⟨w.heap.size, 3, none⟩ = some (.int .i64 z) := by rw [hwa]; simp [World.cell?_alloc_at]
  have hk4 : wa.cell? ⟨w.heap.size, 4, none⟩ = some (.int .i64 u) := by rw [hwa]; simp [World.cell?_alloc_at]
  have Hk := Lib.hid (And.intro hk0 (And.intro hk1 (And.intro hk2 (And.intro hk3 hk4))))
  have Hwa := Lib.hid hwa
  have HEa := Lib.hid hEa
  have HV := Lib.hid (vals_ok hx hy hz hu)
  obtain ⟨xs, hxs⟩ : ∃ xs : List Int, xs = [x, y, z, u] := ⟨_, rfl⟩
  rw [← hxs] at HV ⊢
  have Hxs := Lib.hid hxs
  have cA := Lib.hid (spec_ActOk ⟨5, x, y, z, u⟩ wa)
  rw [hok] at cA
  clear hwa hEa hk0 hk1 hk2 hk3 hk4 hxs hok hx hy hz hu
  go_enter Tryz.func115, Tryz.ntmps115
  go_wp2_with fail
  rw [← Hwa.out]
  refine cA.out.mono ?_
  rintro e w1 ⟨rfl, hb1⟩
  obtain ⟨k0, k1, k2, k3, k4⟩ := Hk.out
  have hs1 := hb1.size
  replace k0 := (hb1.cellAt w.heap.size (by omega) 0).trans k0
  replace k1 := (hb1.cellAt w.heap.size (by omega) 1).trans k1
  replace k2 := (hb1.cellAt w.heap.size (by omega) 2).trans k2
  replace k3 := (hb1.cellAt w.heap.size (by omega) 3).trans k3
  replace k4 := (hb1.cellAt w.heap.size (by omega) 4).trans k4
  have HE1 := Lib.hid (HEa.out.trans hb1)
  have m0 : w1.heap.size ≠ w.heap.size := by omega
  have l0 : w.heap.size < w1.heap.size := by omega
  clear hb1
  go_wp2_with fail
  obtain ⟨wo, hwo⟩ : ∃ wo, wo = ((w1.alloc (.cells #[.string ⟨#[]⟩, .string ⟨#[119, 97, 108, 107]⟩, .string ⟨#[109, 111, 118, 101]⟩, .string ⟨#[100, 97, 121, 115]⟩, .string ⟨#[97, 117, 100, 105, 116]⟩, .string ⟨#[119, 104, 101, 114, 101]⟩] 9)).alloc (.cells #[.int .i64 0, .int .i64 2, .int .i64 4, .int .i64 1, .int .i64 0, .int .i64 1] 3)).alloc (.cells #[.int .i64 x, .int .i64 y, .int .i64 z, .int .i64 u] 3) := ⟨_, rfl⟩
  have hEo : Ext w1 wo := by rw [hwo]; exact (((Ext.refl w1).alloc _).alloc _).alloc _
  have hr : Rd wo 1 (some ⟨w1.heap.size + 1 + 1, 0, none⟩) 4 (xs.flatMap ienc) := by
    have := rd_lit ((w1.alloc (.cells #[.string ⟨#[]⟩, .string ⟨#[119, 97, 108, 107]⟩, .string ⟨#[109, 111, 118, 101]⟩, .string ⟨#[100, 97, 121, 115]⟩, .string ⟨#[97, 117, 100, 105, 116]⟩, .string ⟨#[119, 104, 101, 114, 101]⟩] 9)).alloc (.cells #[.int .i64 0, .int .i64 2, .int .i64 4, .int .i64 1, .int .i64 0, .int .i64 1] 3)) 3 [x, y, z, u] (by simp)
    rw [show ((w1.alloc (.cells #[.string ⟨#[]⟩, .string ⟨#[119, 97, 108, 107]⟩, .string ⟨#[109, 111, 118, 101]⟩, .string ⟨#[100, 97, 121, 115]⟩, .string ⟨#[97, 117, 100, 105, 116]⟩, .string ⟨#[119, 104, 101, 114, 101]⟩] 9)).alloc (.cells #[.int .i64 0, .int .i64 2, .int .i64 4, .int .i64 1, .int .i64 0, .int .i64 1] 3)).heap.size = w1.heap.size + 1 + 1 by simp] at this
    rw [hwo, Hxs.out]; exact this
  rw [← hwo]
  have HR := Lib.hid hr
  have HEo := Lib.hid (HE1.out.trans hEo)
  have hl : Hid (xs.length = 4) := by unfold Hid; rw [Hxs.out]; rfl
  clear hr hwo hEo k0 k1 k2 k3 k4
  go_loopw [4, 7] (fun s i wr => ∃ (k : Nat) (t : ByteArray), k ≤ 1 ∧ i = .int .i64 k ∧ s = .string t ∧ t.size ≤ 5 + 30 * k ∧ Hid (numsF ⟨#[119, 104, 101, 114, 101]⟩ (xs.take 1) = numsF t ((xs.take 1).drop k)) ∧ Ext wo wr) (fun _ i _ => 1 - (intOf i).toNat)
  case atStart => exact ⟨0, _, Nat.zero_le _, rfl, rfl, by decide, rfl, Ext.refl _⟩
  case round =>
    obtain ⟨k, t, hk, rfl, rfl, ht, hz, hb⟩ := hrel
    by_cases hlt : k < 1
    · obtain ⟨b, off, x, hA, hbs, hxk, p0⟩ := ienc_at (HR.out.keep hb) (show k < 4 by omega)
      injection hA with hA
      injection hA with h1 h2
      subst h1 h2
      rw [Nat.zero_add] at p0
      have hxk' : (xs.take 1)[k]? = some x := by rw [List.getElem?_take, if_pos hlt]; exact hxk
      have HD := Lib.hid (drop_cons hxk')
      have HB := Lib.hid hb
      have i0 : (0 : Int) ≤ (k : Int) := by omega
      have i1 : (k : Int) < 4 := by omega
      obtain ⟨hx0, hx1⟩ := HV.out x (List.mem_of_getElem? hxk)
      clear hb hxk hxk'
      obtain ⟨z', hzz⟩ := Int.eq_ofNat_of_zero_le hx0
      subst hzz
      have hsz := itext_size z' (by omega) (by omega)
      have HT : Hid (numsF ⟨#[119, 104, 101, 114, 101]⟩ (xs.take 1) = numsF (t ++ sp1 ++ itext z') ((xs.take 1).drop (k + 1))) := by unfold Hid; rw [hz.out, HD.out, numsF]
      have hts : (t ++ sp1 ++ itext z').size ≤ 5 + 30 * (k + 1) := by
        rw [ByteArray.size_append, ByteArray.size_append]
        have : sp1.size = 1 := rfl
        omega
      obtain ⟨T, hT⟩ : ∃ T, T = itext z' := ⟨_, rfl⟩
      have hF := Lib.hid (fun w => spec_FormatInt z' w (by omega))
      rw [← hT] at hsz HT hts hF
      clear hT
      go_wp2_with fail
      refine (hF.out _).mono ?_
      rintro e w2 ⟨rfl, h1⟩
      have HB1 := Lib.hid (HB.out.trans h1)
      clear h1
      go_wp2_with fail
      go_roundw
      case rel => exact ⟨k + 1, t ++ sp1 ++ T, by omega, by go_num, by first | rfl | (rw [ByteArray.append_assoc]; rfl), hts, HT, HB1.out⟩
      case measure => simp [intOf]; omega
    · obtain rfl : k = 1 := by omega
      have HT : Hid (numsF ⟨#[119, 104, 101, 114, 101]⟩ (xs.take 1) = t) := by unfold Hid; rw [hz.out, drop_nil (by rw [List.length_take, hl.out]; omega)]; rfl
      have HB := Lib.hid hb
      clear hb
      go_wp2_with fail
      refine bodyPost_ret (v := .tuple #[.string t, .bool true]) (by simp [results, Tryz.results115, go_sem, *]) rfl ⟨by rw [HT.out], HEo.out.trans HB.out⟩
set_option maxRecDepth 100000 in
set_option maxHeartbeats 2000000 in
theorem impl_FormatAct_1 (x y z u : Int) (hx : 0 ≤ x ∧ x ≤ 1000) (hy : 0 ≤ y ∧ y ≤ 1000) (hz : 0 ≤ z ∧ z ≤ 1000) (hu : 0 ≤ u ∧ u ≤ 1000) (hok : acOk ⟨1, x, y, z, u⟩ = true) (w : World) (htab : Hid (Lib.TabIs Tryz.prog w "internal/strconv.uint64pow10" .u64 Lib.pow10Tab)) :
    Calls Tryz.prog 72 #[.agg #[.int .i64 1, .int .i64 x, .int .i64 y, .int .i64 z, .int .i64 u]] w fun e w' => e = .returned (.tuple #[.string (numsF ⟨#[119, 97, 108, 107]⟩ ([x, y, z, u].take 2)), .bool true]) ∧ Ext w w' := by
  obtain ⟨wa, hwa⟩ : ∃ wa, wa = w.alloc (.cells #[.int .i64 1, .int .i64 x, .int .i64 y, .int .i64 z, .int .i64 u] 37) := ⟨_, rfl⟩
  have hEa : Ext w wa := by rw [hwa]; exact (Ext.refl w).alloc _
  have hsa : wa.heap.size = w.heap.size + 1 := by rw [hwa]; simp
  have hk0 : wa.cell? ⟨w.heap.size, 0, none⟩ = some (.int .i64 1) := by rw [hwa]; simp [World.cell?_alloc_at]
  have hk1 : wa.cell? ⟨w.heap.size, 1, none⟩ = some (.int .i64 x) := by rw [hwa]; simp [World.cell?_alloc_at]
  have hk2 : wa.cell? ⟨w.heap.size, 2, none⟩ = some (.int .i64 y) := by rw [hwa]; simp [World.cell?_alloc_at]
  have hk3 : wa.cell? ⟨w.heap.size, 3, none⟩ = some (.int .i64 z) := by rw [hwa]; simp [World.cell?_alloc_at]
  have hk4 : wa.cell? ⟨w.heap.size, 4, none⟩ = some (.int .i64 u) := by rw [hwa]; simp [World.cell?_alloc_at]
  have Hk := Lib.hid (And.intro hk0 (And.intro hk1 (And.intro hk2 (And.intro hk3 hk4))))
  have Hwa := Lib.hid hwa
  have HEa := Lib.hid hEa
  have HV := Lib.hid (vals_ok hx hy hz hu)
  have cA := Lib.hid (impl_ActOk ⟨1, x, y, z, u⟩ wa)
  rw [hok] at cA
  clear hwa hEa hk0 hk1 hk2 hk3 hk4 hok hx hy hz hu
  go_enter Tryz.func72, Tryz.ntmps72
  go_wp2_with fail
  rw [← Hwa.out]
  refine cA.out.mono ?_
  rintro e w1 ⟨rfl, hb1⟩
  obtain ⟨k0, k1, k2, k3, k4⟩ := Hk.out
  have hs1 := hb1.size
  replace k0 := (hb1.cellAt w.heap.size (by omega) 0).trans k0
  replace k1 := (hb1.cellAt w.heap.size (by omega) 1).trans k1
  replace k2 := (hb1.cellAt w.heap.size (by omega) 2).trans k2
  replace k3 := (hb1.cellAt w.heap.size (by omega) 3).trans k3
  replace k4 := (hb1.cellAt w.heap.size (by omega) 4).trans k4
  have HE1 := Lib.hid (HEa.out.trans hb1)
  have m0 : w1.heap.size ≠ w.heap.size := by omega
  have l0 : w.heap.size < w1.heap.size := by omega
  have hE1a : Ext w (w1.alloc (.cells ([x, y].map (Value.int .i64)).toArray 3)) := (HEa.out.trans hb1).alloc _
  have cW := Lib.hid (impl_withNumbers ⟨#[119, 97, 108, 107]⟩ (some ⟨w1.heap.size, 0, none⟩) 2 2 [x, y] (w1.alloc (.cells ([x, y].map (Value.int .i64)).toArray 3)) (rd_lit w1 3 [x, y] (by simp)) (by omega) (by decide) (Lib.hid (fun v hv => HV.out v (by simp only [List.mem_cons, List.not_mem_nil, or_false] at hv ⊢; omega))) (Lib.hid (tab_ext htab.out hE1a)))
  have HE1a := Lib.hid hE1a
  clear hE1a
  clear hb1
  go_wp2_with (refine cW.out.mono ?_; rintro e w2 ⟨rfl, hb2⟩; have HB2 := Lib.hid hb2; clear hb2)
  refine bodyPost_ret (v := .tuple #[.string (numsF ⟨#[119, 97, 108, 107]⟩ [x, y]), .bool true]) (by simp [results, Tryz.results72, go_sem, *]) rfl ⟨by rfl, HE1a.out.trans HB2.out⟩
set_option maxRecDepth 100000 in
set_option maxHeartbeats 2000000 in
theorem impl_FormatAct_2 (x y z u : Int) (hx : 0 ≤ x ∧ x ≤ 1000) (hy : 0 ≤ y ∧ y ≤ 1000) (hz : 0 ≤ z ∧ z ≤ 1000) (hu : 0 ≤ u ∧ u ≤ 1000) (hok : acOk ⟨2, x, y, z, u⟩ = true) (w : World) (htab : Hid (Lib.TabIs Tryz.prog w "internal/strconv.uint64pow10" .u64 Lib.pow10Tab)) :
    Calls Tryz.prog 72 #[.agg #[.int .i64 2, .int .i64 x, .int .i64 y, .int .i64 z, .int .i64 u]] w fun e w' => e = .returned (.tuple #[.string (numsF ⟨#[109, 111, 118, 101]⟩ ([x, y, z, u].take 4)), .bool true]) ∧ Ext w w' := by
  obtain ⟨wa, hwa⟩ : ∃ wa, wa = w.alloc (.cells #[.int .i64 2, .int .i64 x, .int .i64 y, .int .i64 z, .int .i64 u] 37) := ⟨_, rfl⟩
  have hEa : Ext w wa := by rw [hwa]; exact (Ext.refl w).alloc _
  have hsa : wa.heap.size = w.heap.size + 1 := by rw [hwa]; simp
  have hk0 : wa.cell? ⟨w.heap.size, 0, none⟩ = some (.int .i64 2) := by rw [hwa]; simp [World.cell?_alloc_at]
  have hk1 : wa.cell? ⟨w.heap.size, 1, none⟩ = some (.int .i64 x) := by rw [hwa]; simp [World.cell?_alloc_at]
  have hk2 : wa.cell? ⟨w.heap.size, 2, none⟩ = some (.int .i64 y) := by rw [hwa]; simp [World.cell?_alloc_at]
  have hk3 : wa.cell? ⟨w.heap.size, 3, none⟩ = some (.int .i64 z) := by rw [hwa]; simp [World.cell?_alloc_at]
  have hk4 : wa.cell? ⟨w.heap.size, 4, none⟩ = some (.int .i64 u) := by rw [hwa]; simp [World.cell?_alloc_at]
  have Hk := Lib.hid (And.intro hk0 (And.intro hk1 (And.intro hk2 (And.intro hk3 hk4))))
  have Hwa := Lib.hid hwa
  have HEa := Lib.hid hEa
  have HV := Lib.hid (vals_ok hx hy hz hu)
  have cA := Lib.hid (impl_ActOk ⟨2, x, y, z, u⟩ wa)
  rw [hok] at cA
  clear hwa hEa hk0 hk1 hk2 hk3 hk4 hok hx hy hz hu
  go_enter Tryz.func72, Tryz.ntmps72
  go_wp2_with fail
  rw [← Hwa.out]
  refine cA.out.mono ?_
  rintro e w1 ⟨rfl, hb1⟩
  obtain ⟨k0, k1, k2, k3, k4⟩ := Hk.out
  have hs1 := hb1.size
  replace k0 := (hb1.cellAt w.heap.size (by omega) 0).trans k0
  replace k1 := (hb1.cellAt w.heap.size (by omega) 1).trans k1
  replace k2 := (hb1.cellAt w.heap.size (by omega) 2).trans k2
  replace k3 := (hb1.cellAt w.heap.size (by omega) 3).trans k3
  replace k4 := (hb1.cellAt w.heap.size (by omega) 4).trans k4
  have HE1 := Lib.hid (HEa.out.trans hb1)
  have m0 : w1.heap.size ≠ w.heap.size := by omega
  have l0 : w.heap.size < w1.heap.size := by omega
  have hE1a : Ext w (w1.alloc (.cells ([x, y, z, u].map (Value.int .i64)).toArray 3)) := (HEa.out.trans hb1).alloc _
  have cW := Lib.hid (impl_withNumbers ⟨#[109, 111, 118, 101]⟩ (some ⟨w1.heap.size, 0, none⟩) 4 4 [x, y, z, u] (w1.alloc (.cells ([x, y, z, u].map (Value.int .i64)).toArray 3)) (rd_lit w1 3 [x, y, z, u] (by simp)) (by omega) (by decide) (Lib.hid (fun v hv => HV.out v (by simp only [List.mem_cons, List.not_mem_nil, or_false] at hv ⊢; omega))) (Lib.hid (tab_ext htab.out hE1a)))
  have HE1a := Lib.hid hE1a
  clear hE1a
  clear hb1
  go_wp2_with (refine cW.out.mono ?_; rintro e w2 ⟨rfl, hb2⟩; have HB2 := Lib.hid hb2; clear hb2)
  refine bodyPost_ret (v := .tuple #[.string (numsF ⟨#[109, 111, 118, 101]⟩ [x, y, z, u]), .bool true]) (by simp [results, Tryz.results72, go_sem, *]) rfl ⟨by rfl, HE1a.out.trans HB2.out⟩
set_option maxRecDepth 100000 in
set_option maxHeartbeats 2000000 in
theorem impl_FormatAct_3 (x y z u : Int) (hx : 0 ≤ x ∧ x ≤ 1000) (hy : 0 ≤ y ∧ y ≤ 1000) (hz : 0 ≤ z ∧ z ≤ 1000) (hu : 0 ≤ u ∧ u ≤ 1000) (hok : acOk ⟨3, x, y, z, u⟩ = true) (w : World) (htab : Hid (Lib.TabIs Tryz.prog w "internal/strconv.uint64pow10" .u64 Lib.pow10Tab)) :
    Calls Tryz.prog 72 #[.agg #[.int .i64 3, .int .i64 x, .int .i64 y, .int .i64 z, .int .i64 u]] w fun e w' => e = .returned (.tuple #[.string (numsF ⟨#[100, 97, 121, 115]⟩ ([x, y, z, u].take 1)), .bool true]) ∧ Ext w w' := by
  obtain ⟨wa, hwa⟩ : ∃ wa, wa = w.alloc (.cells #[.int .i64 3, .int .i64 x, .int .i64 y, .int .i64 z, .int .i64 u] 37) := ⟨_, rfl⟩
  have hEa : Ext w wa := by rw [hwa]; exact (Ext.refl w).alloc _
  have hsa : wa.heap.size = w.heap.size + 1 := by rw [hwa]; simp
  have hk0 : wa.cell? ⟨w.heap.size, 0, none⟩ = some (.int .i64 3) := by rw [hwa]; simp [World.cell?_alloc_at]
  have hk1 : wa.cell? ⟨w.heap.size, 1, none⟩ = some (.int .i64 x) := by rw [hwa]; simp [World.cell?_alloc_at]
  have hk2 : wa.cell? ⟨w.heap.size, 2, none⟩ = some (.int .i64 y) := by rw [hwa]; simp [World.cell?_alloc_at]
  have hk3 : wa.cell? ⟨w.heap.size, 3, none⟩ = some (.int .i64 z) := by rw [hwa]; simp [World.cell?_alloc_at]
  have hk4 : wa.cell? ⟨w.heap.size, 4, none⟩ = some (.int .i64 u) := by rw [hwa]; simp [World.cell?_alloc_at]
  have Hk := Lib.hid (And.intro hk0 (And.intro hk1 (And.intro hk2 (And.intro hk3 hk4))))
  have Hwa := Lib.hid hwa
  have HEa := Lib.hid hEa
  have HV := Lib.hid (vals_ok hx hy hz hu)
  have cA := Lib.hid (impl_ActOk ⟨3, x, y, z, u⟩ wa)
  rw [hok] at cA
  clear hwa hEa hk0 hk1 hk2 hk3 hk4 hok hx hy hz hu
  go_enter Tryz.func72, Tryz.ntmps72
  go_wp2_with fail
  rw [← Hwa.out]
  refine cA.out.mono ?_
  rintro e w1 ⟨rfl, hb1⟩
  obtain ⟨k0, k1, k2, k3, k4⟩ := Hk.out
  have hs1 := hb1.size
  replace k0 := (hb1.cellAt w.heap.size (by omega) 0).trans k0
  replace k1 := (hb1.cellAt w.heap.size (by omega) 1).trans k1
  replace k2 := (hb1.cellAt w.heap.size (by omega) 2).trans k2
  replace k3 := (hb1.cellAt w.heap.size (by omega) 3).trans k3
  replace k4 := (hb1.cellAt w.heap.size (by omega) 4).trans k4
  have HE1 := Lib.hid (HEa.out.trans hb1)
  have m0 : w1.heap.size ≠ w.heap.size := by omega
  have l0 : w.heap.size < w1.heap.size := by omega
  have hE1a : Ext w (w1.alloc (.cells ([x].map (Value.int .i64)).toArray 3)) := (HEa.out.trans hb1).alloc _
  have cW := Lib.hid (impl_withNumbers ⟨#[100, 97, 121, 115]⟩ (some ⟨w1.heap.size, 0, none⟩) 1 1 [x] (w1.alloc (.cells ([x].map (Value.int .i64)).toArray 3)) (rd_lit w1 3 [x] (by simp)) (by omega) (by decide) (Lib.hid (fun v hv => HV.out v (by simp only [List.mem_cons, List.not_mem_nil, or_false] at hv ⊢; omega))) (Lib.hid (tab_ext htab.out hE1a)))
  have HE1a := Lib.hid hE1a
  clear hE1a
  clear hb1
  go_wp2_with (refine cW.out.mono ?_; rintro e w2 ⟨rfl, hb2⟩; have HB2 := Lib.hid hb2; clear hb2)
  refine bodyPost_ret (v := .tuple #[.string (numsF ⟨#[100, 97, 121, 115]⟩ [x]), .bool true]) (by simp [results, Tryz.results72, go_sem, *]) rfl ⟨by rfl, HE1a.out.trans HB2.out⟩
set_option maxRecDepth 100000 in
set_option maxHeartbeats 2000000 in
theorem impl_FormatAct_4 (x y z u : Int) (hx : 0 ≤ x ∧ x ≤ 1000) (hy : 0 ≤ y ∧ y ≤ 1000) (hz : 0 ≤ z ∧ z ≤ 1000) (hu : 0 ≤ u ∧ u ≤ 1000) (hok : acOk ⟨4, x, y, z, u⟩ = true) (w : World) (htab : Hid (Lib.TabIs Tryz.prog w "internal/strconv.uint64pow10" .u64 Lib.pow10Tab)) :
    Calls Tryz.prog 72 #[.agg #[.int .i64 4, .int .i64 x, .int .i64 y, .int .i64 z, .int .i64 u]] w fun e w' => e = .returned (.tuple #[.string (numsF ⟨#[97, 117, 100, 105, 116]⟩ ([x, y, z, u].take 0)), .bool true]) ∧ Ext w w' := by
  obtain ⟨wa, hwa⟩ : ∃ wa, wa = w.alloc (.cells #[.int .i64 4, .int .i64 x, .int .i64 y, .int .i64 z, .int .i64 u] 37) := ⟨_, rfl⟩
  have hEa : Ext w wa := by rw [hwa]; exact (Ext.refl w).alloc _
  have hsa : wa.heap.size = w.heap.size + 1 := by rw [hwa]; simp
  have hk0 : wa.cell? ⟨w.heap.size, 0, none⟩ = some (.int .i64 4) := by rw [hwa]; simp [World.cell?_alloc_at]
  have hk1 : wa.cell? ⟨w.heap.size, 1, none⟩ = some (.int .i64 x) := by rw [hwa]; simp [World.cell?_alloc_at]
  have hk2 : wa.cell? ⟨w.heap.size, 2, none⟩ = some (.int .i64 y) := by rw [hwa]; simp [World.cell?_alloc_at]
  have hk3 : wa.cell? ⟨w.heap.size, 3, none⟩ = some (.int .i64 z) := by rw [hwa]; simp [World.cell?_alloc_at]
  have hk4 : wa.cell? ⟨w.heap.size, 4, none⟩ = some (.int .i64 u) := by rw [hwa]; simp [World.cell?_alloc_at]
  have Hk := Lib.hid (And.intro hk0 (And.intro hk1 (And.intro hk2 (And.intro hk3 hk4))))
  have Hwa := Lib.hid hwa
  have HEa := Lib.hid hEa
  have HV := Lib.hid (vals_ok hx hy hz hu)
  have cA := Lib.hid (impl_ActOk ⟨4, x, y, z, u⟩ wa)
  rw [hok] at cA
  clear hwa hEa hk0 hk1 hk2 hk3 hk4 hok hx hy hz hu
  go_enter Tryz.func72, Tryz.ntmps72
  go_wp2_with fail
  rw [← Hwa.out]
  refine cA.out.mono ?_
  rintro e w1 ⟨rfl, hb1⟩
  obtain ⟨k0, k1, k2, k3, k4⟩ := Hk.out
  have hs1 := hb1.size
  replace k0 := (hb1.cellAt w.heap.size (by omega) 0).trans k0
  replace k1 := (hb1.cellAt w.heap.size (by omega) 1).trans k1
  replace k2 := (hb1.cellAt w.heap.size (by omega) 2).trans k2
  replace k3 := (hb1.cellAt w.heap.size (by omega) 3).trans k3
  replace k4 := (hb1.cellAt w.heap.size (by omega) 4).trans k4
  have HE1 := Lib.hid (HEa.out.trans hb1)
  have m0 : w1.heap.size ≠ w.heap.size := by omega
  have l0 : w.heap.size < w1.heap.size := by omega
  clear hb1
  go_wp2_with fail
  refine bodyPost_ret (v := .tuple #[.string ⟨#[97, 117, 100, 105, 116]⟩, .bool true]) (by simp [results, Tryz.results72, go_sem, *]) rfl ⟨by rfl, HE1.out⟩
set_option maxRecDepth 100000 in
set_option maxHeartbeats 2000000 in
theorem impl_FormatAct_5 (x y z u : Int) (hx : 0 ≤ x ∧ x ≤ 1000) (hy : 0 ≤ y ∧ y ≤ 1000) (hz : 0 ≤ z ∧ z ≤ 1000) (hu : 0 ≤ u ∧ u ≤ 1000) (hok : acOk ⟨5, x, y, z, u⟩ = true) (w : World) (htab : Hid (Lib.TabIs Tryz.prog w "internal/strconv.uint64pow10" .u64 Lib.pow10Tab)) :
    Calls Tryz.prog 72 #[.agg #[.int .i64 5, .int .i64 x, .int .i64 y, .int .i64 z, .int .i64 u]] w fun e w' => e = .returned (.tuple #[.string (numsF ⟨#[119, 104, 101, 114, 101]⟩ ([x, y, z, u].take 1)), .bool true]) ∧ Ext w w' := by
  obtain ⟨wa, hwa⟩ : ∃ wa, wa = w.alloc (.cells #[.int .i64 5, .int .i64 x, .int .i64 y, .int .i64 z, .int .i64 u] 37) := ⟨_, rfl⟩
  have hEa : Ext w wa := by rw [hwa]; exact (Ext.refl w).alloc _
  have hsa : wa.heap.size = w.heap.size + 1 := by rw [hwa]; simp
  have hk0 : wa.cell? ⟨w.heap.size, 0, none⟩ = some (.int .i64 5) := by rw [hwa]; simp [World.cell?_alloc_at]
  have hk1 : wa.cell? ⟨w.heap.size, 1, none⟩ = some (.int .i64 x) := by rw [hwa]; simp [World.cell?_alloc_at]
  have hk2 : wa.cell? ⟨w.heap.size, 2, none⟩ = some (.int .i64 y) := by rw [hwa]; simp [World.cell?_alloc_at]
  have hk3 : wa.cell? ⟨w.heap.size, 3, none⟩ = some (.int .i64 z) := by rw [hwa]; simp [World.cell?_alloc_at]
  have hk4 : wa.cell? ⟨w.heap.size, 4, none⟩ = some (.int .i64 u) := by rw [hwa]; simp [World.cell?_alloc_at]
  have Hk := Lib.hid (And.intro hk0 (And.intro hk1 (And.intro hk2 (And.intro hk3 hk4))))
  have Hwa := Lib.hid hwa
  have HEa := Lib.hid hEa
  have HV := Lib.hid (vals_ok hx hy hz hu)
  have cA := Lib.hid (impl_ActOk ⟨5, x, y, z, u⟩ wa)
  rw [hok] at cA
  clear hwa hEa hk0 hk1 hk2 hk3 hk4 hok hx hy hz hu
  go_enter Tryz.func72, Tryz.ntmps72
  go_wp2_with fail
  rw [← Hwa.out]
  refine cA.out.mono ?_
  rintro e w1 ⟨rfl, hb1⟩
  obtain ⟨k0, k1, k2, k3, k4⟩ := Hk.out
  have hs1 := hb1.size
  replace k0 := (hb1.cellAt w.heap.size (by omega) 0).trans k0
  replace k1 := (hb1.cellAt w.heap.size (by omega) 1).trans k1
  replace k2 := (hb1.cellAt w.heap.size (by omega) 2).trans k2
  replace k3 := (hb1.cellAt w.heap.size (by omega) 3).trans k3
  replace k4 := (hb1.cellAt w.heap.size (by omega) 4).trans k4
  have HE1 := Lib.hid (HEa.out.trans hb1)
  have m0 : w1.heap.size ≠ w.heap.size := by omega
  have l0 : w.heap.size < w1.heap.size := by omega
  have hE1a : Ext w (w1.alloc (.cells ([x].map (Value.int .i64)).toArray 3)) := (HEa.out.trans hb1).alloc _
  have cW := Lib.hid (impl_withNumbers ⟨#[119, 104, 101, 114, 101]⟩ (some ⟨w1.heap.size, 0, none⟩) 1 1 [x] (w1.alloc (.cells ([x].map (Value.int .i64)).toArray 3)) (rd_lit w1 3 [x] (by simp)) (by omega) (by decide) (Lib.hid (fun v hv => HV.out v (by simp only [List.mem_cons, List.not_mem_nil, or_false] at hv ⊢; omega))) (Lib.hid (tab_ext htab.out hE1a)))
  have HE1a := Lib.hid hE1a
  clear hE1a
  clear hb1
  go_wp2_with (refine cW.out.mono ?_; rintro e w2 ⟨rfl, hb2⟩; have HB2 := Lib.hid hb2; clear hb2)
  refine bodyPost_ret (v := .tuple #[.string (numsF ⟨#[119, 104, 101, 114, 101]⟩ [x]), .bool true]) (by simp [results, Tryz.results72, go_sem, *]) rfl ⟨by rfl, HE1a.out.trans HB2.out⟩
end Go.Proofs.YtfmifllcbbfpoaaGreatDoor
/- FormatAct of both sides, whatever the act, and the walk of its law; no condition but what stands at each theorem. -/
namespace Go.Proofs.YtfmifllcbbfpoaaGreatDoor
set_option linter.unusedSimpArgs false
set_option linter.unusedVariables false
open Go.RowKit Go.Sort
set_option maxRecDepth 100000 in
set_option maxHeartbeats 1000000 in
theorem spec_FormatAct (a : GAct) (w : World) :
    Calls Tryz.prog 115 #[.agg #[.int .i64 a.k, .int .i64 a.a, .int .i64 a.b, .int .i64 a.c, .int .i64 a.d]] w fun e w' => e = .returned (.tuple #[.string (actT a), .bool (acOk a)]) ∧ Ext w w' := by
  cases hok : acOk a
  case true =>
    obtain ⟨hk, hx, hy, hz, hu⟩ := ac_cases hok
    obtain ⟨k, x, y, z, u⟩ := a
    rw [actT, if_pos hok]
    rcases hk with h | h | h | h | h
    all_goals (simp only at h; subst h)
    · exact spec_FormatAct_1 x y z u hx hy hz hu hok w
    · exact spec_FormatAct_2 x y z u hx hy hz hu hok w
    · exact spec_FormatAct_3 x y z u hx hy hz hu hok w
    · exact spec_FormatAct_4 x y z u hx hy hz hu hok w
    · exact spec_FormatAct_5 x y z u hx hy hz hu hok w
  case false =>
    have cA := Lib.hid (fun w => spec_ActOk a w)
    rw [hok] at cA
    have HN : Hid (actT a = ⟨#[]⟩) := by unfold Hid; rw [actT, hok]; rfl
    clear hok
    go_enter Tryz.func115, Tryz.ntmps115
    go_wp2_with (refine (cA.out _).mono ?_; rintro e w1 ⟨rfl, hb1⟩; have HB1 := Lib.hid hb1; clear hb1)
    refine bodyPost_ret (v := .tuple #[.string ⟨#[]⟩, .bool false]) (by simp [results, Tryz.results115, go_sem, *]) rfl ⟨by rw [HN.out], ?_⟩
    exact ((Ext.refl w).alloc _).trans HB1.out
set_option maxRecDepth 100000 in
set_option maxHeartbeats 1000000 in
theorem impl_FormatAct (a : GAct) (w : World) (htab : Hid (Lib.TabIs Tryz.prog w "internal/strconv.uint64pow10" .u64 Lib.pow10Tab)) :
    Calls Tryz.prog 72 #[.agg #[.int .i64 a.k, .int .i64 a.a, .int .i64 a.b, .int .i64 a.c, .int .i64 a.d]] w fun e w' => e = .returned (.tuple #[.string (actT a), .bool (acOk a)]) ∧ Ext w w' := by
  cases hok : acOk a
  case true =>
    obtain ⟨hk, hx, hy, hz, hu⟩ := ac_cases hok
    obtain ⟨k, x, y, z, u⟩ := a
    rw [actT, if_pos hok]
    rcases hk with h | h | h | h | h
    all_goals (simp only at h; subst h)
    · exact impl_FormatAct_1 x y z u hx hy hz hu hok w htab
    · exact impl_FormatAct_2 x y z u hx hy hz hu hok w htab
    · exact impl_FormatAct_3 x y z u hx hy hz hu hok w htab
    · exact impl_FormatAct_4 x y z u hx hy hz hu hok w htab
    · exact impl_FormatAct_5 x y z u hx hy hz hu hok w htab
  case false =>
    have cA := Lib.hid (fun w => impl_ActOk a w)
    rw [hok] at cA
    have HN : Hid (actT a = ⟨#[]⟩) := by unfold Hid; rw [actT, hok]; rfl
    clear hok
    go_enter Tryz.func72, Tryz.ntmps72
    go_wp2_with (refine (cA.out _).mono ?_; rintro e w1 ⟨rfl, hb1⟩; have HB1 := Lib.hid hb1; clear hb1)
    refine bodyPost_ret (v := .tuple #[.string ⟨#[]⟩, .bool false]) (by simp [results, Tryz.results72, go_sem, *]) rfl ⟨by rw [HN.out], ?_⟩
    exact ((Ext.refl w).alloc _).trans HB1.out
end Go.Proofs.YtfmifllcbbfpoaaGreatDoor
/- Texts of acts, in plain Lean: a text of blank-free words gives its words back; an act's text gives the act back; no condition. -/
namespace Go.Proofs.YtfmifllcbbfpoaaGreatDoor
set_option linter.unusedSimpArgs false
set_option linter.unusedVariables false
open Go.RowKit Go.Sort
def bfree (l : List UInt8) : Prop := ∀ b ∈ l, b ≠ 32
theorem wd_word : ∀ (l cur r : List UInt8), bfree l → wds cur (l ++ r) = wds (cur ++ l) r
  | [], cur, r, _ => by simp
  | b :: l, cur, r, h => by
    rw [List.cons_append, wd_ne (h b (List.mem_cons_self ..)), wd_word l _ r (fun c hc => h c (List.mem_cons_of_mem _ hc))]
    simp
theorem wd_tail : ∀ (fs : List (List UInt8)) (cur : List UInt8), cur ≠ [] → (∀ f ∈ fs, f ≠ [] ∧ bfree f) → wds cur (Lib.joinTail [32] fs ++ [32]) = cur :: fs
  | [], cur, h, _ => by
    rw [show Lib.joinTail [32] [] ++ [32] = [(32 : UInt8)] from rfl, wd_n h, wd_nil]
  | g :: fs, cur, h, hf => by
    have hg := hf g (List.mem_cons_self ..)
    rw [show Lib.joinTail [32] (g :: fs) ++ [32] = 32 :: (g ++ (Lib.joinTail [32] fs ++ [32])) by simp [Lib.joinTail], wd_n h, wd_word g [] _ hg.2, List.nil_append, wd_tail fs g hg.1 (fun f h => hf f (List.mem_cons_of_mem _ h))]
theorem wd_join {f : List UInt8} {fs : List (List UInt8)} (hf : ∀ g ∈ f :: fs, g ≠ [] ∧ bfree g) : wds [] (Lib.join (f :: fs) [32] ++ [32]) = f :: fs := by
  have h := hf f (List.mem_cons_self ..)
  rw [Lib.join_cons, List.append_assoc, wd_word f [] _ h.2, List.nil_append, wd_tail fs f h.1 (fun g hg => hf g (List.mem_cons_of_mem _ hg))]
theorem wds_good : ∀ (r cur : List UInt8), bfree cur → ∀ l ∈ wds cur r, l ≠ [] ∧ bfree l
  | [], _, _, l, hl => by rw [wd_nil] at hl; cases hl
  | b :: r, cur, hc, l, hl => by
    by_cases hb : b = 32
    · subst hb
      by_cases hcur : cur = []
      · subst hcur
        rw [wd_e] at hl
        exact wds_good r [] (fun b hb => by cases hb) l hl
      · rw [wd_n hcur] at hl
        rcases List.mem_cons.1 hl with rfl | hl
        · exact ⟨hcur, hc⟩
        · exact wds_good r [] (fun b hb => by cases hb) l hl
    · rw [wd_ne hb] at hl
      refine wds_good r _ (fun c h => ?_) l hl
      rw [List.mem_append, List.mem_singleton] at h
      rcases h with h | rfl
      · exact hc c h
      · exact hb
theorem fields_good (x : ByteArray) : ∀ l ∈ fieldsOf x, l ≠ [] ∧ bfree l := wds_good _ [] (fun b hb => by cases hb)
/-- The words, joined by blanks. -/
def jb (fs : List (List UInt8)) : ByteArray := ⟨(Lib.join fs [32]).toArray⟩
theorem jb_inj {f g : List UInt8} {fs gs : List (List UInt8)} (hf : ∀ l ∈ f :: fs, l ≠ [] ∧ bfree l) (hg : ∀ l ∈ g :: gs, l ≠ [] ∧ bfree l) (h : jb (f :: fs) = jb (g :: gs)) : f :: fs = g :: gs := by
  have h1 : Lib.join (f :: fs) [32] = Lib.join (g :: gs) [32] := by
    have := congrArg (fun b : ByteArray => b.data.toList) h
    simpa [jb] using this
  rw [← wd_join hf, ← wd_join hg, h1]
def actW (a : GAct) : List (List UInt8) := (wordOf a.k).data.toList :: ([a.a, a.b, a.c, a.d].take (cntOf a.k)).map fun x => (itext x).data.toList
theorem actT_jb {a : GAct} (h : acOk a = true) : actT a = jb (actW a) := by
  rw [actT, if_pos h, numsF_eq]
  unfold jb actW
  rw [Lib.join_cons]
theorem itext_good {x : Int} (h : 0 ≤ x) : (itext x).data.toList ≠ [] ∧ bfree (itext x).data.toList := by
  obtain ⟨n, rfl⟩ := Int.eq_ofNat_of_zero_le h
  rw [itext_list]
  refine ⟨fun e => ?_, fun b hb e => ?_⟩
  · have := dd_ne n; rw [e] at this; simp at this
  · have := dd_dig n b hb
    rw [e] at this
    have h32 : (32 : UInt8).toNat = 32 := rfl
    omega
theorem itext_inj {x y : Int} (hx : 0 ≤ x) (hy : 0 ≤ y) (h : (itext x).data.toList = (itext y).data.toList) : x = y := by
  obtain ⟨n, rfl⟩ := Int.eq_ofNat_of_zero_le hx
  obtain ⟨m, rfl⟩ := Int.eq_ofNat_of_zero_le hy
  rw [itext_list, itext_list] at h
  have := congrArg (List.foldl pS 0) h
  rw [dd_val, dd_val] at this
  rw [this]
theorem word_good {k : Int} (h : k = 1 ∨ k = 2 ∨ k = 3 ∨ k = 4 ∨ k = 5) : (wordOf k).data.toList ≠ [] ∧ bfree (wordOf k).data.toList := by
  unfold bfree
  rcases h with rfl | rfl | rfl | rfl | rfl <;> decide
theorem word_inj {k l : Int} (h : k = 1 ∨ k = 2 ∨ k = 3 ∨ k = 4 ∨ k = 5) (h' : l = 1 ∨ l = 2 ∨ l = 3 ∨ l = 4 ∨ l = 5) (e : (wordOf k).data.toList = (wordOf l).data.toList) : k = l := by
  rcases h with rfl | rfl | rfl | rfl | rfl <;> rcases h' with rfl | rfl | rfl | rfl | rfl <;> first | rfl | (exfalso; revert e; decide)
theorem actW_good {a : GAct} (h : acOk a = true) : ∀ l ∈ actW a, l ≠ [] ∧ bfree l := by
  obtain ⟨hk, hx, hy, hz, hu⟩ := ac_cases h
  intro l hl
  unfold actW at hl
  rcases List.mem_cons.1 hl with rfl | hl
  · exact word_good hk
  · obtain ⟨v, hv, rfl⟩ := List.mem_map.1 hl
    exact itext_good (vals_ok hx hy hz hu v (List.mem_of_mem_take hv)).1
/-- An act's text is the text of just these words. -/
theorem act_words {a : GAct} {fs : List (List UInt8)} (h : acOk a = true) (hf : ∀ l ∈ fs, l ≠ [] ∧ bfree l) (hn : fs ≠ []) (e : actT a = jb fs) : fs = actW a := by
  rw [actT_jb h] at e
  cases fs with
  | nil => exact absurd rfl hn
  | cons f fs => exact (jb_inj (actW_good h) hf e).symm
/-- What the parse of a word answers. -/
def NumOf (f : List UInt8) (z : Int) : Prop := ∀ i : Nat, i ≤ 1000 → (⟨f.toArray⟩ : ByteArray) = itext i → z = i
def NumAt (fs : List (List UInt8)) (j : Nat) (z : Int) : Prop := (∃ f, fs[j + 1]? = some f ∧ NumOf f z) ∨ (fs.length ≤ j + 1 ∧ z = 0)
theorem num_is {x z : Int} (h0 : 0 ≤ x) (h1 : x ≤ 1000) (h : NumOf (itext x).data.toList z) : z = x := by
  obtain ⟨n, rfl⟩ := Int.eq_ofNat_of_zero_le h0
  exact h n (by omega) (by rfl)
theorem ac_rest {a : GAct} (h : acOk a = true) : (a.k = 1 → a.c = 0 ∧ a.d = 0) ∧ (a.k = 3 ∨ a.k = 5 → a.b = 0 ∧ a.c = 0 ∧ a.d = 0) ∧ (a.k = 4 → a.a = 0 ∧ a.b = 0 ∧ a.c = 0 ∧ a.d = 0) := by
  unfold acOk at h
  refine ⟨fun e => ?_, fun e => ?_, fun e => ?_⟩
  · simp [e] at h; omega
  · rcases e with e | e <;> (simp [e] at h; omega)
  · simp [e] at h; omega
/-- Where an act has the text of the words, the numbers read from the words are the act's. -/
theorem act_nums {a : GAct} {fs : List (List UInt8)} {n0 n1 n2 n3 : Int} (h : acOk a = true) (e : fs = actW a) (h0 : NumAt fs 0 n0) (h1 : NumAt fs 1 n1) (h2 : NumAt fs 2 n2) (h3 : NumAt fs 3 n3) : a = ⟨a.k, n0, n1, n2, n3⟩ := by
  obtain ⟨hk, hx, hy, hz, hu⟩ := ac_cases h
  obtain ⟨r1, r3, r4⟩ := ac_rest h
  obtain ⟨k, x, y, z, u⟩ := a
  simp only at hk hx hy hz hu r1 r3 r4
  subst e
  have none_ : ∀ {j : Nat} {v : Int}, NumAt (actW ⟨k, x, y, z, u⟩) j v → (actW ⟨k, x, y, z, u⟩).length ≤ j + 1 → v = 0 := by
    intro j v hv hl
    rcases hv with ⟨f, hf, _⟩ | ⟨_, h⟩
    · rw [List.getElem?_eq_none hl] at hf; cases hf
    · exact h
  have some_ : ∀ {j : Nat} {v t : Int}, NumAt (actW ⟨k, x, y, z, u⟩) j v → (actW ⟨k, x, y, z, u⟩)[j + 1]? = some (itext t).data.toList → 0 ≤ t → t ≤ 1000 → v = t := by
    intro j v t hv hl ht0 ht1
    rcases hv with ⟨f, hf, hn⟩ | ⟨h, _⟩
    · rw [hl] at hf
      injection hf with hf
      subst hf
      exact num_is ht0 ht1 hn
    · rw [List.getElem?_eq_none h] at hl; cases hl
  rcases hk with rfl | rfl | rfl | rfl | rfl
  · obtain ⟨e1, e2⟩ := r1 rfl
    rw [some_ h0 rfl hx.1 hx.2, some_ h1 rfl hy.1 hy.2, none_ h2 (by simp [actW, cntOf]), none_ h3 (by simp [actW, cntOf]), e1, e2]
  · rw [some_ h0 rfl hx.1 hx.2, some_ h1 rfl hy.1 hy.2, some_ h2 rfl hz.1 hz.2, some_ h3 rfl hu.1 hu.2]
  · obtain ⟨e1, e2, e3⟩ := r3 (.inl rfl)
    rw [some_ h0 rfl hx.1 hx.2, none_ h1 (by simp [actW, cntOf]), none_ h2 (by simp [actW, cntOf]), none_ h3 (by simp [actW, cntOf]), e1, e2, e3]
  · obtain ⟨e0, e1, e2, e3⟩ := r4 rfl
    rw [none_ h0 (by simp [actW, cntOf]), none_ h1 (by simp [actW, cntOf]), none_ h2 (by simp [actW, cntOf]), none_ h3 (by simp [actW, cntOf]), e0, e1, e2, e3]
  · obtain ⟨e1, e2, e3⟩ := r3 (.inr rfl)
    rw [some_ h0 rfl hx.1 hx.2, none_ h1 (by simp [actW, cntOf]), none_ h2 (by simp [actW, cntOf]), none_ h3 (by simp [actW, cntOf]), e1, e2, e3]
theorem actW_len (a : GAct) : 1 ≤ (actW a).length ∧ (actW a).length ≤ 5 := by
  unfold actW
  simp only [List.length_cons, List.length_map, List.length_take, List.length_nil]
  omega
/-- What ParseAct answers. -/
def PA (x : ByteArray) (a : GAct) (b : Bool) : Prop :=
  (b = true ∧ spOk x = true ∧ acOk a = true ∧ fieldsOf x = actW a) ∨ (b = false ∧ a = ⟨0, 0, 0, 0, 0⟩ ∧ ∀ a', spOk x = true → acOk a' = true → fieldsOf x ≠ actW a')
theorem actW_inj {a a' : GAct} (h : acOk a = true) (h' : acOk a' = true) (e : actW a = actW a') : a = a' := by
  have key : ∀ {b : GAct}, acOk b = true → ∀ {fs}, fs = actW b → ∃ n0 n1 n2 n3, NumAt fs 0 n0 ∧ NumAt fs 1 n1 ∧ NumAt fs 2 n2 ∧ NumAt fs 3 n3 := by
    intro b hb fs e
    have at_ : ∀ j, ∃ n, NumAt fs j n := by
      intro j
      by_cases hj : fs.length ≤ j + 1
      · exact ⟨0, .inr ⟨hj, rfl⟩⟩
      · have hg : fs[j + 1]? = some fs[j + 1] := List.getElem?_eq_getElem (by omega)
        refine ⟨((fs[j + 1]).foldl pS 0 : Nat), .inl ⟨_, hg, fun i hi hh => ?_⟩⟩
        have := congrArg (fun b : ByteArray => b.data.toList) hh
        simp only [itext_list] at this
        rw [show fs[j + 1] = Lib.decDigits i by simpa using this, dd_val]
    obtain ⟨n0, h0⟩ := at_ 0
    obtain ⟨n1, h1⟩ := at_ 1
    obtain ⟨n2, h2⟩ := at_ 2
    obtain ⟨n3, h3⟩ := at_ 3
    exact ⟨n0, n1, n2, n3, h0, h1, h2, h3⟩
  obtain ⟨n0, n1, n2, n3, h0, h1, h2, h3⟩ := key h rfl
  have e1 := act_nums h rfl h0 h1 h2 h3
  have e2 := act_nums h' e h0 h1 h2 h3
  have hw : a.k = a'.k := by
    have := congrArg (fun l : List (List UInt8) => l.head?) e
    simp only [actW, List.head?_cons, Option.some.injEq] at this
    exact word_inj (ac_cases h).1 (ac_cases h').1 this
  rw [e1, e2, hw]
theorem pa_eq {x : ByteArray} {a a' : GAct} {b b' : Bool} (h : PA x a b) (h' : PA x a' b') : a = a' ∧ b = b' := by
  rcases h with ⟨rfl, hs, ho, he⟩ | ⟨rfl, rfl, hn⟩ <;> rcases h' with ⟨rfl, hs', ho', he'⟩ | ⟨rfl, rfl, hn'⟩
  · exact ⟨actW_inj ho ho' (he.symm.trans he'), rfl⟩
  · exact absurd he (hn' a hs ho)
  · exact absurd he' (hn a' hs' ho')
  · exact ⟨rfl, rfl⟩
end Go.Proofs.YtfmifllcbbfpoaaGreatDoor
/- Texts of moves and the splitting at one byte, in plain Lean; no condition. -/
namespace Go.Proofs.YtfmifllcbbfpoaaGreatDoor
set_option linter.unusedSimpArgs false
set_option linter.unusedVariables false
open Go.RowKit Go.Sort
/-- A text cut at each byte c. -/
def cuts (c : UInt8) : List UInt8 → List (List UInt8)
  | [] => [[]]
  | b :: r => if b = c then [] :: cuts c r else
    match cuts c r with
    | [] => [[b]]
    | h :: t => (b :: h) :: t
theorem cuts_ne (c : UInt8) : ∀ l, cuts c l ≠ []
  | [] => by simp [cuts]
  | b :: r => by
    unfold cuts
    split
    · simp
    · split <;> simp
theorem cuts_hit (c : UInt8) (r : List UInt8) : cuts c (c :: r) = [] :: cuts c r := by rw [cuts, if_pos rfl]
theorem cuts_go {b c : UInt8} (h : b ≠ c) {r : List UInt8} {x : List UInt8} {t : List (List UInt8)} (e : cuts c r = x :: t) : cuts c (b :: r) = (b :: x) :: t := by rw [cuts, if_neg h, e]
theorem splitK_cuts (c : UInt8) : ∀ l : List UInt8, Lib.splitK [c] 0 (Lib.count l [c]) l = cuts c l
  | [] => by
    rw [Lib.count_miss (by simp [Lib.index])]; rfl
  | b :: l => by
    by_cases h : b = c
    · subst h
      have hix : Lib.index (b :: l) [b] = ((0 : Nat) : Int) := by rw [Lib.index]; simp [List.isPrefixOf]
      rw [cuts_hit, Lib.count_cons_eq, Nat.add_comm, Lib.splitK, hix, ← splitK_cuts b l]
      simp
    · have hp : ([c] : List UInt8).isPrefixOf (b :: l) = false := by simp [List.isPrefixOf, Ne.symm h]
      have hix : Lib.index (b :: l) [c] = if Lib.index l [c] == -1 then -1 else Lib.index l [c] + 1 := by rw [Lib.index, hp]; simp
      have ih := splitK_cuts c l
      rw [Lib.count_cons_ne b c l h]
      by_cases hm : Lib.index l [c] = -1
      · rw [Lib.count_miss hm] at ih ⊢
        rw [cuts_go h ih.symm]
        rfl
      · have hge := Lib.index_ge l [c]
        obtain ⟨j, hj⟩ : ∃ j : Nat, Lib.index l [c] = j := ⟨(Lib.index l [c]).toNat, by omega⟩
        have hix' : Lib.index (b :: l) [c] = ((j + 1 : Nat) : Int) := by rw [hix, if_neg (fun e => hm (beq_iff_eq.1 e)), hj]; omega
        rw [Lib.count_hit (by simp) hj, Nat.add_comm] at ih ⊢
        rw [Lib.splitK, hj, if_neg (by first | (simp; done) | (simp; omega))] at ih
        rw [Lib.splitK, hix', if_neg (by first | (simp; done) | (simp; omega))]
        rw [cuts_go h ih.symm]
        simp
theorem splitB_cuts (c : UInt8) (x : ByteArray) : (Lib.splitB ⟨#[c]⟩ 0 (Lib.countB x ⟨#[c]⟩) x).map (·.data.toList) = cuts c x.data.toList := by
  rw [Lib.splitB_data]
  exact splitK_cuts c _
def cfree (c : UInt8) (l : List UInt8) : Prop := ∀ b ∈ l, b ≠ c
theorem cuts_word {c : UInt8} : ∀ {l : List UInt8}, cfree c l → cuts c l = [l]
  | [], _ => rfl
  | b :: l, h => by
    have ih := cuts_word (c := c) (l := l) (fun x hx => h x (List.mem_cons_of_mem _ hx))
    rw [cuts_go (h b (List.mem_cons_self ..)) ih]
theorem cuts_app {c : UInt8} : ∀ {l : List UInt8} (r : List UInt8), cfree c l → cuts c (l ++ c :: r) = l :: cuts c r
  | [], r, _ => by rw [List.nil_append, cuts_hit]
  | b :: l, r, h => by
    have ih := cuts_app (c := c) (l := l) r (fun x hx => h x (List.mem_cons_of_mem _ hx))
    rw [List.cons_append, cuts_go (h b (List.mem_cons_self ..)) ih]
theorem cuts_join {c : UInt8} : ∀ (fs : List (List UInt8)) (f : List UInt8), (∀ g ∈ f :: fs, cfree c g) → cuts c (Lib.join (f :: fs) [c]) = f :: fs
  | [], f, h => by
    rw [Lib.join_cons, show Lib.joinTail [c] ([] : List (List UInt8)) = [] from rfl, List.append_nil]
    exact cuts_word (h f (List.mem_cons_self ..))
  | g :: fs, f, h => by
    have ih := cuts_join (c := c) fs g (fun x hx => h x (List.mem_cons_of_mem _ hx))
    rw [Lib.join_cons, show Lib.joinTail [c] (g :: fs) = c :: (g ++ Lib.joinTail [c] fs) by simp [Lib.joinTail], cuts_app _ (h f (List.mem_cons_self ..)), ← Lib.join_cons, ih]
theorem cuts_len (c : UInt8) : ∀ (L : List UInt8), ∀ l ∈ cuts c L, l.length ≤ L.length
  | [], l, h => by
    rw [show cuts c [] = [[]] from rfl, List.mem_singleton] at h
    subst h; simp
  | b :: r, l, h => by
    by_cases hb : b = c
    · subst hb
      rw [cuts_hit] at h
      rcases List.mem_cons.1 h with rfl | h
      · simp
      · have := cuts_len b r l h; simp; omega
    · have ih := cuts_len c r
      cases e : cuts c r with
      | nil => exact absurd e (cuts_ne c r)
      | cons x t =>
        rw [cuts_go hb e] at h
        rw [e] at ih
        rcases List.mem_cons.1 h with rfl | h
        · have := ih x (List.mem_cons_self ..); simp; omega
        · have := ih l (List.mem_cons_of_mem _ h); simp; omega
/-- The move is one that has a text. -/
def mvB (m : GMove) : Bool := ((inB m.o 0 20 && inB m.t 0 20) && inB m.f 0 20) && inB m.s 0 20
def mvW (m : GMove) : List (List UInt8) := [109, 111, 118, 101] :: [m.o, m.t, m.f, m.s].map fun x => (itext x).data.toList
theorem in20 {x : Int} (h : inB x 0 20 = true) : 0 ≤ x ∧ x ≤ 20 := by simpa [inB] using h
theorem mv_cases {m : GMove} (h : mvB m = true) : inB m.o 0 20 = true ∧ inB m.t 0 20 = true ∧ inB m.f 0 20 = true ∧ inB m.s 0 20 = true := by
  unfold mvB at h
  simp only [Bool.and_eq_true] at h
  exact ⟨h.1.1.1, h.1.1.2, h.1.2, h.2⟩
theorem mvF_ok : ∀ (xs : List Int) (s : ByteArray), (∀ x ∈ xs, inB x 0 20 = true) → mvF s xs = numsF s xs
  | [], s, _ => rfl
  | x :: r, s, h => by rw [mvF, if_pos (h x (List.mem_cons_self ..)), numsF, mvF_ok r _ (fun y hy => h y (List.mem_cons_of_mem _ hy))]
theorem mvF_bad : ∀ (xs : List Int) (s : ByteArray), (∃ x ∈ xs, inB x 0 20 = false) → mvF s xs = ByteArray.empty
  | [], s, h => by obtain ⟨x, hx, _⟩ := h; cases hx
  | x :: r, s, h => by
    cases hx : inB x 0 20
    · rw [mvF, if_neg (by rw [hx]; decide)]
    · rw [mvF, if_pos hx]
      refine mvF_bad r _ ?_
      obtain ⟨y, hy, hyb⟩ := h
      rcases List.mem_cons.1 hy with rfl | hy
      · rw [hx] at hyb; cases hyb
      · exact ⟨y, hy, hyb⟩
theorem moveT_jb {m : GMove} (h : mvB m = true) : moveT m = jb (mvW m) := by
  obtain ⟨h0, h1, h2, h3⟩ := mv_cases h
  unfold moveT
  rw [mvF_ok _ _ (by intro x hx; simp at hx; rcases hx with rfl | rfl | rfl | rfl <;> assumption), numsF_eq]
  unfold jb mvW
  rw [Lib.join_cons]
theorem moveT_bad {m : GMove} (h : mvB m = false) : moveT m = ByteArray.empty := by
  refine mvF_bad _ _ ?_
  unfold mvB at h
  simp only [Bool.and_eq_false_iff] at h
  rcases h with ((h | h) | h) | h
  · exact ⟨_, by simp, h⟩
  · exact ⟨_, by simp, h⟩
  · exact ⟨_, by simp, h⟩
  · exact ⟨_, by simp, h⟩
theorem mvW_good {m : GMove} (h : mvB m = true) : ∀ l ∈ mvW m, l ≠ [] ∧ bfree l := by
  obtain ⟨h0, h1, h2, h3⟩ := mv_cases h
  intro l hl
  unfold mvW at hl
  rcases List.mem_cons.1 hl with rfl | hl
  · unfold bfree; decide
  · obtain ⟨v, hv, rfl⟩ := List.mem_map.1 hl
    simp at hv
    rcases hv with rfl | rfl | rfl | rfl <;> exact itext_good (in20 (by assumption)).1
theorem mvW_len (m : GMove) : (mvW m).length = 5 := rfl
/-- A move's text, cut at the blanks, gives its words. -/
theorem mv_cuts {m : GMove} (h : mvB m = true) : cuts 32 (moveT m).data.toList = mvW m := by
  rw [moveT_jb h]
  have hg := mvW_good h
  unfold jb
  simp only
  exact cuts_join _ _ (fun g hg' => (hg g hg').2)
theorem mv_fields {m : GMove} (h : mvB m = true) : fieldsOf (moveT m) = mvW m := by
  rw [moveT_jb h]
  have hg := mvW_good h
  unfold fieldsOf jb
  simp only
  exact wd_join hg
theorem mv_inj {m m' : GMove} (h : mvB m = true) (h' : mvB m' = true) (e : moveT m = moveT m') : m = m' := by
  have hw : mvW m = mvW m' := by rw [← mv_cuts h, ← mv_cuts h', e]
  obtain ⟨h0, h1, h2, h3⟩ := mv_cases h
  obtain ⟨k0, k1, k2, k3⟩ := mv_cases h'
  unfold mvW at hw
  simp only [List.map_cons, List.map_nil, List.cons.injEq, and_true, true_and] at hw
  obtain ⟨o, t, f, s⟩ := m
  obtain ⟨o', t', f', s'⟩ := m'
  simp only at hw h0 h1 h2 h3 k0 k1 k2 k3
  rw [itext_inj (in20 h0).1 (in20 k0).1 hw.1, itext_inj (in20 h1).1 (in20 k1).1 hw.2.1, itext_inj (in20 h2).1 (in20 k2).1 hw.2.2.1, itext_inj (in20 h3).1 (in20 k3).1 hw.2.2.2]
/-- Where the words are a move's, the numbers read from the words are the move's. -/
theorem mv_nums {m : GMove} {fs : List (List UInt8)} {n0 n1 n2 n3 : Int} (h : mvB m = true) (e : fs = mvW m) (h0 : ∀ f, fs[1]? = some f → NumOf f n0) (h1 : ∀ f, fs[2]? = some f → NumOf f n1) (h2 : ∀ f, fs[3]? = some f → NumOf f n2) (h3 : ∀ f, fs[4]? = some f → NumOf f n3) : m = ⟨n0, n1, n2, n3⟩ := by
  obtain ⟨k0, k1, k2, k3⟩ := mv_cases h
  subst e
  have g0 := in20 k0
  have g1 := in20 k1
  have g2 := in20 k2
  have g3 := in20 k3
  obtain ⟨o, t, f, s⟩ := m
  simp only at g0 g1 g2 g3
  rw [num_is g0.1 (by omega) (h0 _ rfl), num_is g1.1 (by omega) (h1 _ rfl), num_is g2.1 (by omega) (h2 _ rfl), num_is g3.1 (by omega) (h3 _ rfl)]
theorem moveT_ne {m : GMove} (h : mvB m = true) : moveT m ≠ ByteArray.empty := by
  intro e
  have := mv_cuts h
  rw [e] at this
  have := congrArg List.length this
  simp [cuts, mvW] at this
/-- What ParseMove answers. -/
def PM (x : ByteArray) (m : GMove) (b : Bool) : Prop :=
  (b = true ∧ mvB m = true ∧ x = moveT m) ∨ (b = false ∧ m = ⟨0, 0, 0, 0⟩ ∧ ∀ m', mvB m' = true → x ≠ moveT m')
theorem pm_eq {x : ByteArray} {m m' : GMove} {b b' : Bool} (h : PM x m b) (h' : PM x m' b') : m = m' ∧ b = b' := by
  rcases h with ⟨hb, h1, h2⟩ | ⟨hb, h1, h2⟩ <;> rcases h' with ⟨hb', h1', h2'⟩ | ⟨hb', h1', h2'⟩
  · exact ⟨mv_inj h1 h1' (h2.symm.trans h2'), by rw [hb, hb']⟩
  · exact absurd h2 (h2' m h1)
  · exact absurd h2' (h2 m' h1')
  · exact ⟨by rw [h1, h1'], by rw [hb, hb']⟩
/-- Printable bytes. -/
def prL (l : List UInt8) : Prop := ∀ b ∈ l, 32 ≤ b.toNat ∧ b.toNat ≤ 126
theorem prB_iff (x : ByteArray) : prB x = true ↔ prL x.data.toList := by
  unfold prB prL
  rw [List.all_eq_true]
  constructor
  · intro h b hb; simpa using h b hb
  · intro h b hb; simpa using h b hb
theorem pr_tail : ∀ (fs : List (List UInt8)), (∀ f ∈ fs, prL f) → prL (Lib.joinTail [32] fs)
  | [], _ => fun b hb => by simp [Lib.joinTail] at hb
  | f :: fs, h => fun b hb => by
    have h1 := pr_tail fs (fun g hg => h g (List.mem_cons_of_mem _ hg))
    rw [show Lib.joinTail [32] (f :: fs) = 32 :: (f ++ Lib.joinTail [32] fs) by simp [Lib.joinTail]] at hb
    rcases List.mem_cons.1 hb with rfl | hb
    · decide
    · rcases List.mem_append.1 hb with hb | hb
      · exact h f (List.mem_cons_self ..) b hb
      · exact h1 b hb
theorem pr_join {fs : List (List UInt8)} (h : ∀ f ∈ fs, prL f) : prL (Lib.join fs [32]) := by
  cases fs with
  | nil => intro b hb; simp [Lib.join] at hb
  | cons f fs =>
    rw [Lib.join_cons]
    intro b hb
    rcases List.mem_append.1 hb with hb | hb
    · exact h f (List.mem_cons_self ..) b hb
    · exact pr_tail fs (fun g hg => h g (List.mem_cons_of_mem _ hg)) b hb
theorem itext_pr {x : Int} (h : 0 ≤ x) : prL (itext x).data.toList := by
  obtain ⟨n, rfl⟩ := Int.eq_ofNat_of_zero_le h
  rw [itext_list]
  intro b hb
  have := dd_dig n b hb
  omega
theorem mvW_pr {m : GMove} (h : mvB m = true) : ∀ l ∈ mvW m, prL l := by
  obtain ⟨h0, h1, h2, h3⟩ := mv_cases h
  intro l hl
  unfold mvW at hl
  rcases List.mem_cons.1 hl with rfl | hl
  · unfold prL; decide
  · obtain ⟨v, hv, rfl⟩ := List.mem_map.1 hl
    simp at hv
    rcases hv with rfl | rfl | rfl | rfl <;> exact itext_pr (in20 (by assumption)).1
theorem itext_len4 {x : Int} (h0 : 0 ≤ x) (h1 : x ≤ 1000) : (itext x).data.toList.length ≤ 4 := by
  obtain ⟨n, rfl⟩ := Int.eq_ofNat_of_zero_le h0
  rw [itext_list]
  exact dd_len4 (by omega)
theorem mk_size0 (f : List UInt8) : (⟨f.toArray⟩ : ByteArray).size = f.length := by simp [ByteArray.size]
theorem moveT_size (m : GMove) : (moveT m).size ≤ 24 := by
  cases h : mvB m
  · rw [moveT_bad h]; decide
  · obtain ⟨h0, h1, h2, h3⟩ := mv_cases h
    rw [moveT_jb h]
    unfold jb mvW
    rw [Lib.join_cons]
    have l0 := itext_len4 (in20 h0).1 (by have := (in20 h0).2; omega)
    have l1 := itext_len4 (in20 h1).1 (by have := (in20 h1).2; omega)
    have l2 := itext_len4 (in20 h2).1 (by have := (in20 h2).2; omega)
    have l3 := itext_len4 (in20 h3).1 (by have := (in20 h3).2; omega)
    have e : ∀ a b c d : List UInt8, Lib.joinTail [32] [a, b, c, d] = 32 :: (a ++ 32 :: (b ++ 32 :: (c ++ 32 :: d))) := fun a b c d => by simp [Lib.joinTail]
    rw [List.map_cons, List.map_cons, List.map_cons, List.map_cons, List.map_nil, e, mk_size0]
    simp only [List.length_append, List.length_cons, List.length_nil]
    omega
/-- A move's text can be split into fields. -/
theorem mv_sp {m : GMove} (h : mvB m = true) : spOk (moveT m) = true := by
  unfold spOk
  rw [mv_fields h, mvW_len, Bool.and_eq_true, Bool.and_eq_true]
  refine ⟨⟨?_, ?_⟩, by decide⟩
  · have := moveT_size m; simp; omega
  · rw [prB_iff, moveT_jb h]
    unfold jb
    simp only
    exact pr_join (mvW_pr h)
end Go.Proofs.YtfmifllcbbfpoaaGreatDoor
/- Entries appended, night moves, audits, acts and runs of a museum in plain Lean; no condition. -/
namespace Go.Proofs.YtfmifllcbbfpoaaGreatDoor
set_option linter.unusedSimpArgs false
set_option linter.unusedVariables false
open Go.RowKit Go.Sort
/-- The seal that the next entry hangs on. -/
def lastS (rs : List GEntry) : Int := match rs.getLast? with
  | none => 1
  | some e => e.s
def lateB (rs : List GEntry) (mo : Int) : Bool := match rs.getLast? with
  | none => true
  | some e => decide (e.m ≤ mo)
def appB (rs : List GEntry) (mo : Int) (x : ByteArray) : Bool := sealedB rs && (!decide (rs.length = 30) && (decide (0 ≤ sealB (lastS rs) mo x) && lateB rs mo))
def appE (rs : List GEntry) (mo : Int) (x : ByteArray) (h : x.size ≤ 9223372036854775807) : GEntry := ⟨mo, x, sealB (lastS rs) mo x, h⟩
def appL (rs : List GEntry) (mo : Int) (x : ByteArray) (h : x.size ≤ 9223372036854775807) : List GEntry := if appB rs mo x then rs ++ [appE rs mo x h] else rs
theorem last_at {rs : List GEntry} {k : Nat} {e : GEntry} (hk : rs.length = k + 1) (he : rs[k]? = some e) : rs.getLast? = some e := by
  rw [List.getLast?_eq_getElem?, hk]; exact he
theorem lastS_nil : lastS [] = 1 := rfl
theorem lastS_at {rs : List GEntry} {k : Nat} {e : GEntry} (hk : rs.length = k + 1) (he : rs[k]? = some e) : lastS rs = e.s := by
  unfold lastS; rw [last_at hk he]
theorem lateB_at {rs : List GEntry} {k : Nat} {e : GEntry} (hk : rs.length = k + 1) (he : rs[k]? = some e) (mo : Int) : lateB rs mo = decide (e.m ≤ mo) := by
  unfold lateB; rw [last_at hk he]
theorem moveT_h (m : GMove) : (moveT m).size ≤ 9223372036854775807 := by have := moveT_size m; omega
def nightB (m : GMuseum) (x : GMove) : Bool := museumB m && (canMoveB m.H m.ds m.ps m.gs x && appB m.rs m.d (moveT x))
def nightM (m : GMuseum) (x : GMove) : GMuseum := if nightB m x then { m with ps := m.ps.set x.o.toNat x.t, rs := m.rs ++ [appE m.rs m.d (moveT x) (moveT_h x)] } else m
open Classical in
noncomputable def parseM (x : ByteArray) : GMove × Bool := if h : ∃ m, mvB m = true ∧ x = moveT m then (h.choose, true) else (⟨0, 0, 0, 0⟩, false)
theorem parseM_PM (x : ByteArray) : PM x (parseM x).1 (parseM x).2 := by
  unfold parseM
  split
  · rename_i h
    exact .inl ⟨rfl, h.choose_spec.1, h.choose_spec.2⟩
  · rename_i h
    exact .inr ⟨rfl, rfl, fun m' h1 h2 => h ⟨m', h1, h2⟩⟩
theorem parseM_of {x : ByteArray} {m : GMove} {b : Bool} (h : PM x m b) : parseM x = (m, b) := by
  obtain ⟨h1, h2⟩ := pm_eq (parseM_PM x) h
  exact Prod.ext h1 h2
theorem parseM_text {m : GMove} (h : mvB m = true) : parseM (moveT m) = (m, true) := parseM_of (.inl ⟨rfl, h, rfl⟩)
noncomputable def movesL (rs : List GEntry) : List GMove := rs.map fun e => (parseM e.x).1
noncomputable def auditB (m : GMuseum) : Bool := museumB m && ((m.rs.all fun e => (parseM e.x).2) && ((replayL m.H m.ds m.fs (movesL m.rs)).2 && decide ((replayL m.H m.ds m.fs (movesL m.rs)).1 = m.ps)))
noncomputable def fraudI (m : GMuseum) : Int := if auditB m then -1 else if brokenI m.rs = -1 then m.rs.length else brokenI m.rs
def b01 (b : Bool) : Int := if b then 1 else 0
noncomputable def actN (m : GMuseum) (a : GAct) : Int :=
  if museumB m && acOk a then
    if a.k = 1 then b01 (guardB m a.a a.b) else if a.k = 2 then b01 (nightB m ⟨a.a, a.b, a.c, a.d⟩) else if a.k = 3 then b01 (daysB m a.a) else if a.k = 4 then b01 (auditB m)
    else if a.a < m.ps.length then m.ps.getD a.a.toNat 0 else -1
  else -1
def actM (m : GMuseum) (a : GAct) : GMuseum :=
  if museumB m && acOk a then
    if a.k = 1 then guardM m a.a a.b else if a.k = 2 then nightM m ⟨a.a, a.b, a.c, a.d⟩ else if a.k = 3 then daysM m a.a else m
  else m
noncomputable def runF : GMuseum → List GAct → List Int → GMuseum × List Int
  | m, [], l => (m, l)
  | m, a :: r, l => runF (actM m a) r (l ++ [actN m a])
def runB (m : GMuseum) (acts : List GAct) : Bool := museumB m && decide (acts.length ≤ 40)
noncomputable def runM (m : GMuseum) (acts : List GAct) : GMuseum := if runB m acts then (runF m acts []).1 else m
noncomputable def runL (m : GMuseum) (acts : List GAct) : List Int := if runB m acts then (runF m acts []).2 else []
def entT (e : GEntry) : ByteArray := itext e.m ++ sp1 ++ e.x ++ sp1 ++ itext e.s
/-- The words objects, guards and day. -/
def wObj : ByteArray := ⟨#[111, 98, 106, 101, 99, 116, 115]⟩
def wGua : ByteArray := ⟨#[103, 117, 97, 114, 100, 115]⟩
def wDay : ByteArray := ⟨#[100, 97, 121]⟩
def fmtL (m : GMuseum) : List ByteArray := if museumB m then [numsF wObj m.ps, numsF wGua m.gs, numsF wDay [m.d]] ++ m.rs.map entT else []
/- The broken entry of a longer record. -/
theorem brokF_snoc : ∀ (rs : List GEntry) (s : Int) (p : Option Int) (k : Nat) (e : GEntry), brokF s p k (rs ++ [e]) = if brokF s p k rs = -1 then brokF ((rs.getLast?.map (·.s)).getD s) ((rs.getLast?.map (·.m)).or p) (k + rs.length) [e] else brokF s p k rs
  | [], s, p, k, e => rfl
  | x :: r, s, p, k, e => by
    rw [List.cons_append]
    conv => lhs; rw [brokF]
    conv => rhs; rw [brokF]
    split
    · rw [if_neg (by omega)]
    · rw [brokF_snoc r x.s (some x.m) (k + 1) e]
      split
      · cases r with
        | nil => simp
        | cons y r =>
          rw [List.getLast?_cons_cons]
          cases hl : (y :: r).getLast? with
          | none => simp at hl
          | some z =>
            have : k + 1 + (y :: r).length = k + (x :: y :: r).length := by simp only [List.length_cons]; omega
            rw [this]; rfl
      · rfl
theorem sealed_snoc {rs : List GEntry} {mo : Int} {x : ByteArray} (h : x.size ≤ 9223372036854775807) (hB : appB rs mo x = true) : sealedB (rs ++ [appE rs mo x h]) = true := by
  unfold appB sealedB at hB
  simp only [Bool.and_eq_true, decide_eq_true_eq, beq_iff_eq, Bool.not_eq_true'] at hB
  obtain ⟨⟨h1, h2⟩, h3, h4, h5⟩ := hB
  have h3' : rs.length ≠ 30 := by simpa using h3
  unfold sealedB brokenI
  simp only [Bool.and_eq_true, decide_eq_true_eq, beq_iff_eq, List.length_append, List.length_cons, List.length_nil]
  refine ⟨by omega, ?_⟩
  unfold brokenI at h2
  rw [brokF_snoc, if_pos h2]
  unfold lastS at h4
  unfold lateB at h5
  unfold brokF
  unfold appE lastS
  cases hl : rs.getLast? with
  | none =>
    rw [hl] at h4
    have h4' : 0 ≤ sealB 1 mo x := h4
    have hc : (decide (sealB 1 mo x < 0) || (sealB 1 mo x != sealB 1 mo x || early none mo)) = false := by simp [early]; omega
    show (if (decide (sealB 1 mo x < 0) || (sealB 1 mo x != sealB 1 mo x || early none mo)) = true then ((0 + rs.length : Nat) : Int) else -1) = -1
    rw [hc]; rfl
  | some e =>
    rw [hl] at h4 h5
    simp only [decide_eq_true_eq] at h5
    have h4' : 0 ≤ sealB e.s mo x := h4
    have hc : (decide (sealB e.s mo x < 0) || (sealB e.s mo x != sealB e.s mo x || early (some e.m) mo)) = false := by simp [early]; omega
    show (if (decide (sealB e.s mo x < 0) || (sealB e.s mo x != sealB e.s mo x || early (some e.m) mo)) = true then ((0 + rs.length : Nat) : Int) else -1) = -1
    rw [hc]; rfl
theorem sealed_init {rs : List GEntry} {e : GEntry} (h : sealedB (rs ++ [e]) = true) : sealedB rs = true := by
  unfold sealedB brokenI at h ⊢
  simp only [Bool.and_eq_true, decide_eq_true_eq, beq_iff_eq, List.length_append, List.length_cons, List.length_nil] at h ⊢
  refine ⟨by omega, ?_⟩
  have h2 := h.2
  rw [brokF_snoc] at h2
  split at h2
  · assumption
  · exact h2
/- What the changes keep. -/
theorem museumB_parts {m : GMuseum} : museumB m = true ↔ placesB m.H m.ds m.fs = true ∧ placesB m.H m.ds m.ps = true ∧ m.fs.length = m.ps.length ∧ m.gs.length ≤ 6 ∧ hallsB m.H m.ds m.gs = true ∧ inB m.d 0 1000000 = true ∧ sealedB m.rs = true ∧ ∀ e ∈ m.rs, e.m ≤ m.d := by
  unfold museumB
  simp only [Bool.and_eq_true, beq_iff_eq, decide_eq_true_eq, List.all_eq_true]
theorem hallsB_set {H : Int} {ds : List GDoor} {xs : List Int} (h : hallsB H ds xs = true) (i : Nat) {x : Int} (hx : hallB H x = true) : hallsB H ds (xs.set i x) = true := by
  unfold hallsB at h ⊢
  simp only [Bool.and_eq_true, List.all_eq_true] at h ⊢
  refine ⟨fun y hy => ?_, h.2⟩
  rcases List.mem_or_eq_of_mem_set hy with hy | rfl
  · exact h.1 y hy
  · exact hx
theorem placesB_set {H : Int} {ds : List GDoor} {xs : List Int} (h : placesB H ds xs = true) (i : Nat) {x : Int} (hx : hallB H x = true) : placesB H ds (xs.set i x) = true := by
  unfold placesB at h ⊢
  simp only [Bool.and_eq_true, decide_eq_true_eq] at h ⊢
  exact ⟨by simpa using h.1, hallsB_set h.2 i hx⟩
theorem hallB_iff {H : Int} {ds : List GDoor} (h : houseB H ds = true) {x : Int} : hallB H x = true ↔ 0 ≤ x ∧ x < H := by
  have := house_HG h
  unfold hallB inB
  have hw : wrap64 (H - 1) = H - 1 := by unfold wrap64; omega
  rw [hw]
  simp only [Bool.and_eq_true, decide_eq_true_eq]
  omega
theorem days_ok {m : GMuseum} (h : museumB m = true) (d : Int) : museumB (daysM m d) = true := by
  unfold daysM
  split
  · rename_i hb
    unfold daysB inB at hb
    simp only [Bool.and_eq_true, decide_eq_true_eq] at hb
    rw [museumB_parts] at h ⊢
    obtain ⟨h1, h2, h3, h4, h5, h6, h7, h8⟩ := h
    simp only [inB, Bool.and_eq_true, decide_eq_true_eq] at h6 ⊢
    exact ⟨h1, h2, h3, h4, h5, ⟨by omega, by omega⟩, h7, fun e he => by have := h8 e he; omega⟩
  · exact h
theorem guard_ok {m : GMuseum} (h : museumB m = true) (g k : Int) : museumB (guardM m g k) = true := by
  unfold guardM
  split
  · rename_i hb
    have hH := museumB_house h
    unfold guardB at hb
    simp only [Bool.and_eq_true] at hb
    obtain ⟨d1, d2, d3, d4, d5⟩ := doorB_inG hH hb.2.2
    rw [museumB_parts] at h ⊢
    obtain ⟨h1, h2, h3, h4, h5, h6, h7, h8⟩ := h
    exact ⟨h1, h2, h3, by simpa using h4, hallsB_set h5 _ ((hallB_iff hH).2 ⟨d4, d5⟩), h6, h7, h8⟩
  · exact h
theorem canMove_go {H : Int} {ds : List GDoor} {ps gs : List Int} {x : GMove} (h : canMoveB H ds ps gs x = true) : goB H ds ps x = true := by
  unfold canMoveB at h
  simp only [Bool.and_eq_true] at h
  exact h.2.2.2.1
theorem goB_to {H : Int} {ds : List GDoor} {ps : List Int} {x : GMove} (h : goB H ds ps x = true) : hallB H x.t = true := by
  unfold goB at h
  simp only [Bool.and_eq_true] at h
  exact h.2.1
theorem night_ok {m : GMuseum} (h : museumB m = true) (x : GMove) : museumB (nightM m x) = true := by
  unfold nightM
  split
  · rename_i hb
    unfold nightB at hb
    simp only [Bool.and_eq_true] at hb
    obtain ⟨-, hc, ha⟩ := hb
    have hs := sealed_snoc (moveT_h x) ha
    have ht := goB_to (canMove_go hc)
    rw [museumB_parts] at h ⊢
    obtain ⟨h1, h2, h3, h4, h5, h6, h7, h8⟩ := h
    refine ⟨h1, placesB_set h2 _ ht, by simpa using h3, h4, h5, h6, hs, fun e he => ?_⟩
    rcases List.mem_append.1 he with he | he
    · exact h8 e he
    · rw [List.mem_singleton] at he
      subst he
      exact Int.le_refl _
  · exact h
theorem act_ok {m : GMuseum} (h : museumB m = true) (a : GAct) : museumB (actM m a) = true := by
  unfold actM
  split
  · split
    · exact guard_ok h _ _
    · split
      · exact night_ok h _
      · split
        · exact days_ok h _
        · exact h
  · exact h
theorem run_ok : ∀ (acts : List GAct) {m : GMuseum} (l : List Int), museumB m = true → museumB (runF m acts l).1 = true
  | [], m, l, h => h
  | a :: r, m, l, h => run_ok r _ (act_ok h a)
theorem run_len : ∀ (acts : List GAct) (m : GMuseum) (l : List Int), (runF m acts l).2.length = l.length + acts.length
  | [], m, l => rfl
  | a :: r, m, l => by rw [runF, run_len r]; simp; omega
theorem runF_snoc : ∀ (acts : List GAct) (m : GMuseum) (l : List Int) (a : GAct), runF m (acts ++ [a]) l = (actM (runF m acts l).1 a, (runF m acts l).2 ++ [actN (runF m acts l).1 a])
  | [], m, l, a => rfl
  | b :: r, m, l, a => by rw [List.cons_append, runF, runF_snoc r]; rfl
/- The lengths of what the changes answer. -/
theorem nightM_lens (m : GMuseum) (x : GMove) : (nightM m x).ds.length = m.ds.length ∧ (nightM m x).fs.length = m.fs.length ∧ (nightM m x).ps.length = m.ps.length ∧ (nightM m x).gs.length = m.gs.length ∧ (nightM m x).rs.length ≤ m.rs.length + 1 := by
  unfold nightM
  split
  · exact ⟨rfl, rfl, by simp, rfl, by simp⟩
  · exact ⟨rfl, rfl, rfl, rfl, by omega⟩
theorem sealed_len {rs : List GEntry} (h : sealedB rs = true) : rs.length ≤ 30 := by
  unfold sealedB at h
  simp only [Bool.and_eq_true, decide_eq_true_eq] at h
  exact h.1
theorem nightM_rs (m : GMuseum) (x : GMove) : (nightM m x).rs.length ≤ m.rs.length ∨ (nightM m x).rs.length ≤ 31 := by
  unfold nightM
  split
  · rename_i hb
    unfold nightB appB at hb
    simp only [Bool.and_eq_true] at hb
    have := sealed_len hb.2.2.1
    right; simp; omega
  · left; omega
end Go.Proofs.YtfmifllcbbfpoaaGreatDoor
